import Derived.Test.YtdagfcflbphoiaaGreatDoorMag
import Derived.Test.YtdagfcflbphoiaaGreatDoorMac
import Derived.Test.YtdagfcflbphoiaaGreatDoorMaf
import Derived.Test.YtdagfcflbphoiaaGreatDoorRows
import Derived.Test.YtdagfcflbphoiaaGreatDoorMab
import Derived.MakeChecks
import Derived.OpenShut
import Derived.ChangeArms
open Int renaming natCast_nonneg→aa, lt_irrefl→bH, reduceBEq→cd, reduceBNe→cj, reduceLT→cr, reduceLE→ct, reduceEq→cz, reduceNe→cA, reduceAdd→cB, reduceSub→cC, reduceMul→cD, reduceNeg→cE, toNat→Cy, mul_nonneg→abd
open Nat renaming reduceLT→ae, reduceAdd→ah, le_refl→av, beq→bK, zero_le→dx, lt_succ_self→fp, lt_of_lt_of_le→qJ, not_lt_zero→zQ, lt_irrefl→zS, le_of_lt→amW
open Go.Proofs.Tryz renaming prog→ai
open List renaming getD_eq_getElem?_getD→aF, getElem?_eq_getElem→aM, length_append→aY, replicate→bI, range→bL, append_assoc→cI, length_take→cJ, getElem_mem→cN, append_nil→dr, length_map→dE, drop_zero→eJ, map_append→eK, take_of_length_le→hH, take_succ_eq_append_getElem→jI, getElem?_map→j4, take_length→j7, ext_getElem→mI, mem_of_mem_take→nC, length→nD, drop_length→oL, getElem_map→oM, range_succ→pQ, take_zero→qL, map_congr_left→r8, flatMap_cons→uG, getElem_range→zR, length_range→Hr, getElem?_range→Hs, mem_map→Ht, map_replicate→Hv, eraseIdx_sublist→Hz, eraseIdx_of_length_le→abe, eraseIdx_append_of_length_le→amT, flatMap_nil→amU, length_eraseIdx_of_lt→amV
open Bool renaming and_self→zN
open List.Perm renaming refl→Cx, swap→anS
open List.cons renaming inj→amb
open Decidable renaming byContradiction→amJ
open Classical renaming epsilon→anT, epsilon_spec→anU
set_option linter.unusedVariables false
set_option linter.unusedSimpArgs false
namespace Go.Proofs.YtdagfcflbphoiaaGreatDoor
open Go.RowKit Ev Tb
section
variable (lf d n:Nat) (h:H) (aA:3000000<=lf)
theorem aiY(z:Int):aj (fun _=>False) n (au ai gt lf (d+1) 23 #[.int .i64 z]) h n fun v' h' n'=>v'= .bool (decide (3<=z)&&decide (z<=258))∧h'=h∧n'=n:=by
 rw[aQ (fun _=>aeT) rfl]
 refine aj.aP ?_
 unfold Sy
 by_cases c:3<=z
 ·try simp(disch:=first|omega|assumption|exact aa _) only[ah,ae,RZ,c]
 ·try simp(disch:=first|omega|assumption|exact aa _) only[ah,ae,RZ,c]
theorem aiZ(z:Int):aj (fun _=>False) n (au ai gt lf (d+1) 133 #[.int .i64 z]) h n fun v' h' n'=>v'= .int .i64 (gD z)∧h'=h∧n'=n:=by
 rw[aQ (fun _=>agv) rfl]
 refine aj.aP ?_
 unfold VX gD
 by_cases c:1099511627776<z
 ·try simp(disch:=first|omega|assumption|exact aa _) only[ah,ae,RZ,c]
 ·try simp(disch:=first|omega|assumption|exact aa _) only[ah,ae,RZ,c]
include aA
theorem ai0(v:Value)(xs:List Int)(hR:Row h n 3 .i64 v xs)(hl:xs.length<=1000000)(z:Int):
 aj (fun _=>False) n (au ai gt lf (d+1) 44 #[v,.int .i64 z]) h n fun v' h' n'=>v'= .bool (dM z xs)∧h'=h∧n'=n:=by
 rw[aQ (fun _=>ae5) rfl]
 refine aj.aP ?_
 unfold Kk
 have bg:=hR
 obtain⟨a,c,rfl⟩:=hR.len
 try simp(disch:=first|omega|assumption|exact aa _) only[ah,ae,RZ]
 refine ed xs.length (fun fu i (_:Unit)=>vS lf (au ai gt lf d) fu (yH lf (au ai gt lf d)) _ _ _ _ (.int .i64 (xs.length:Nat)) (.int .i64 (i:Nat))) (fun i _ h' n'=>(h'=h∧n'=n)∧dM z (xs.take i)=true) ?_ ?_ lf 0 () h n (dx _) (by omega) ⟨⟨rfl,rfl⟩,rfl⟩
 ·rintro fu _ h' n' ⟨⟨rfl,rfl⟩,ha⟩
  rw[j7]at ha
  rw[vS,ha]
  try simp(disch:=first|omega|assumption|exact aa _) only[ah,ae,RZ,bH]
  (try unfold yH);(try dsimp only)
  try simp(disch:=first|omega|assumption|exact aa _) only[ah,ae,RZ]
 ·rintro fu i _ h' n' hi ⟨⟨rfl,rfl⟩,ha⟩ next
  obtain⟨b,off,cap,o,cs,hv,hg,hb,_,_,_,bk⟩:=bg.some (by omega)
  cases hv
  have e1:((i:Nat):Int)<((xs.length:Nat):Int):=by omega
  have c1:=bk i hi
  rw[vS]
  by_cases h1:xs.getD i 0<0
  ·rw[MY hi h1]
   try simp(disch:=first|omega|assumption|exact aa _) only[ah,ae,RZ,e1,hg,c1,h1]
   (try unfold yH);(try dsimp only)
   try simp(disch:=first|omega|assumption|exact aa _) only[ah,ae,RZ]
  ·by_cases h2:z<=xs.getD i 0
   ·rw[MZ hi h2]
    try simp(disch:=first|omega|assumption|exact aa _) only[ah,ae,RZ,e1,hg,c1,h1,h2]
    (try unfold yH);(try dsimp only)
    try simp(disch:=first|omega|assumption|exact aa _) only[ah,ae,RZ]
   ·try simp(disch:=first|omega|assumption|exact aa _) only[ah,ae,RZ,e1,hg,c1,h1,h2]
    exact next () _ _ ⟨⟨rfl,rfl⟩,M0 hi ha rfl (by omega) (by omega)⟩
theorem Zc(v:Value)(xs:List Int)(hR:Row h n 3 .i64 v xs)(hl:xs.length<=1000000)(z:Nat):
 aj (fun _=>False) n (au ai gt lf (d+1) 114 #[v,.int .i64 (z:Int)]) h n fun v' h' n'=>v'= .int .i64 (eG xs z:Int)∧h'=h∧n'=n:=by
 rw[aQ (fun _=>af9) rfl]
 refine aj.aP ?_
 unfold Ld
 have bg:=hR
 obtain⟨a,c,rfl⟩:=hR.len
 try simp(disch:=first|omega|assumption|exact aa _) only[ah,ae,RZ]
 refine ed xs.length (fun fu i (a:Nat)=>tP lf (au ai gt lf d) fu (Fe lf (au ai gt lf d)) _ _ _ (.int .i64 (a:Int)) _ (.int .i64 (xs.length:Nat)) (.int .i64 (i:Nat))) (fun i a h' n'=>(h'=h∧n'=n)∧a=eG (xs.take i) z) ?_ ?_ lf 0 0 h n (dx _) (by omega) ⟨⟨rfl,rfl⟩,rfl⟩
 ·rintro fu q h' n' ⟨⟨rfl,rfl⟩,rfl⟩
  rw[tP,j7]
  try simp(disch:=first|omega|assumption|exact aa _) only[ah,ae,RZ,bH]
  (try unfold Fe);(try dsimp only)
  try simp(disch:=first|omega|assumption|exact aa _) only[ah,ae,RZ]
 ·rintro fu i q h' n' hi ⟨⟨rfl,rfl⟩,rfl⟩ next
  obtain⟨b,off,cap,o,cs,hv,hg,hb,_,_,_,bk⟩:=bg.some (by omega)
  cases hv
  have e1:((i:Nat):Int)<((xs.length:Nat):Int):=by omega
  have c1:=bk i hi
  have k1:=zc (xs.take i) z
  have k2:(xs.take i).length<=1000000:=by rw[cJ];omega
  have k3:=YX hi z
  rw[tP]
  by_cases h1:xs.getD i 0=(z:Int)
  ·have n1:((z:Int)==xs.getD i 0)=true:=by rw[h1];simp
   rw[if_pos h1]at k3
   try simp(disch:=first|omega|assumption|exact aa _) only[ah,ae,RZ,e1,hg,c1,n1]
   exact next (eG (xs.take i) z+1) _ _ ⟨⟨rfl,rfl⟩,k3.symm⟩
  ·have n1:((z:Int)==xs.getD i 0)=false:=beq_eq_false_iff_ne.2 fun e=>h1 e.symm
   rw[if_neg h1]at k3
   try simp(disch:=first|omega|assumption|exact aa _) only[ah,ae,RZ,e1,hg,c1,n1]
   exact next (eG (xs.take i) z) _ _ ⟨⟨rfl,rfl⟩,k3.symm⟩
theorem Zd(v:Value)(xs:List Int)(hR:Row h n 3 .i64 v xs)(hl:xs.length<=1000000)(s:Nat)(hs:s<=1000):
 aj (fun _=>False) n (au ai gt lf (d+2) 79 #[v,.int .i64 (s:Int)]) h n fun v' h' n'=>Row h' n' 3 .i64 v' (cU xs s):=by
 rw[aQ (fun _=>afG) rfl]
 refine aj.aP ?_
 unfold KM
 refine ed s (fun fu i (u:Value)=>wq lf (au ai gt lf (d+1)) fu (EU lf (au ai gt lf (d+1))) _ _ _ u (.int .i64 (s:Nat)) (.int .i64 (i:Nat))) (fun i u h' n'=>n<=n'∧(∀b,b<n->h'.get b=h.get b)∧Own h' n n' 3 u (aJ .i64 (cU xs i))) ?_ ?_ lf 0 _ h n (dx _) (by omega) ⟨av _,fun _ _=>rfl,Own.nil _ _ _ _⟩
 ·rintro fu u h' n' ⟨hn,hk,hO⟩
  rw[wq]
  try simp(disch:=first|omega|assumption|exact aa _) only[ah,ae,RZ,bH]
  (try unfold EU);(try dsimp only)
  try simp(disch:=first|omega|assumption|exact aa _) only[ah,ae,RZ]
  exact hO.row
 ·rintro fu i u h' n' hi ⟨hn,hk,hO⟩ next
  have e1:((i:Nat):Int)<((s:Nat):Int):=by omega
  rw[wq]
  try simp(disch:=first|omega|assumption|exact aa _) only[ah,ae,RZ,e1]
  refine bV (Zc lf d n' h' aA v xs (hR.aB hn hk) hl i) hn (fun _ _ h=>h.elim) ?_
  refine m4 trivial (ky _ _) hO (by rw[cT,jc];omega) (av _) _ fun h2 g2 k2=> ?_
  try simp(disch:=first|omega|assumption|exact aa _) only[ah,ae,RZ]
  have e2:aJ .i64 (cU xs i)++[.int .i64 (eG xs i:Int)]=aJ .i64 (cU xs (i+1)):=by
   unfold cU aJ
   rw[pQ,eK,eK]
   rfl
  rw[e2]at g2
  exact next _ h2 (n'+2) ⟨by omega,fun b hb=>by rw[k2 b (by omega) fun q=>by have:=(hO.lt q).1;omega];exact hk b hb,Own.mk' g2 (by omega) (by omega) (by rw[<-e2];simp)⟩
theorem Ze(v u:Value)(xs ls:List Int)(hR:Row h n 3 .i64 v xs)(hL:Row h n 3 .i64 u ls)(hl:xs.length<=1000000)(fN:ls.length<=1000000)(hm:∀y∈ls,0<=y∧y<=1099511627776)(hx:dM ls.length xs=true):
 aj (fun _=>False) n (au ai gt lf (d+2) 115 #[v,u]) h n fun v' h' n'=>v'= .int .i64 (gE xs ls)∧h'=h∧n'=n:=by
 rw[aQ (fun _=>aga) rfl]
 refine aj.aP ?_
 unfold Lg
 have zf:=hL
 obtain⟨a,c,rfl⟩:=hL.len
 try simp(disch:=first|omega|assumption|exact aa _) only[ah,ae,RZ]
 refine ed ls.length (fun fu i (a:Int)=>tQ lf (au ai gt lf (d+1)) fu (A8 lf (au ai gt lf (d+1))) _ _ (.int .i64 0) (.int .i64 a) _ (.int .i64 (ls.length:Nat)) (.int .i64 (i:Nat))) (fun i a h' n'=>(h'=h∧n'=n)∧a=gD (qz xs ls i)) ?_ ?_ lf 0 0 h n (dx _) (by omega) ⟨⟨rfl,rfl⟩,rfl⟩
 ·rintro fu q h' n' ⟨⟨rfl,rfl⟩,rfl⟩
  rw[tQ]
  try simp(disch:=first|omega|assumption|exact aa _) only[ah,ae,RZ,bH]
  (try unfold A8);(try dsimp only)
  try simp(disch:=first|omega|assumption|exact aa _) only[ah,ae,RZ]
  unfold qz gE
  rw[Y0 (xo.1 hx)]
 ·rintro fu i q h' n' hi ⟨⟨rfl,rfl⟩,rfl⟩ next
  obtain⟨b,off,cap,o,cs,hv,hg,hb,_,_,_,bk⟩:=zf.some (by omega)
  cases hv
  have e1:((i:Nat):Int)<((ls.length:Nat):Int):=by omega
  have c1:=bk i hi
  rw[tQ]
  try simp(disch:=first|omega|assumption|exact aa _) only[ah,ae,RZ,e1,hg,c1]
  refine bV (Zc lf d _ h' aA v xs hR hl i) (av _) (fun _ _ h=>h.elim) ?_
  obtain⟨y,hy⟩:∃y,ls.getD i 0=y:=⟨_,rfl⟩
  have uU:=hm _ (ze hi)
  rw[hy]at uU
  rw[hy]
  have cu:0<=qz xs ls i:=by
   unfold qz
   refine Gs fun x hx=> ?_
   obtain⟨w,_,rfl⟩:=Ht.1 hx
   exact abd (by omega) (Y3 (fun x hx=>(hm x hx).1) w)
  have kc:=zc xs i
  refine ed (eG xs i) (fun f2 j (a:Int)=>wI lf (au ai gt lf (d+1)) f2 (Vf lf (au ai gt lf (d+1)) fu (A8 lf (au ai gt lf (d+1)))) _ _ _ (.int .i64 a) _ (.int .i64 y) _ _ (.int .i64 (i:Nat)) _ (.int .i64 (eG xs i:Nat)) (.int .i64 (j:Nat))) (fun j a h2 n2=>(h2=h'∧n2=n')∧a=gD (qz xs ls i+(j:Int)*y)) ?_ ?_ lf 0 _ h' n' (dx _) (by omega) ⟨⟨rfl,rfl⟩,by simp⟩
  ·rintro f2 q h2 n2 ⟨⟨rfl,rfl⟩,rfl⟩
   rw[wI]
   try simp(disch:=first|omega|assumption|exact aa _) only[ah,ae,RZ,bH]
   (try unfold Vf);(try unfold Ff);(try dsimp only)
   try simp(disch:=first|omega|assumption|exact aa _) only[ah,ae,RZ]
   exact next _ _ _ ⟨⟨rfl,rfl⟩,by rw[aiN,hy]⟩
  ·rintro f2 j q h2 n2 hj ⟨⟨rfl,rfl⟩,rfl⟩ lI
   have e3:((j:Nat):Int)<((eG xs i:Nat):Int):=by omega
   have k0:0<=(j:Int)*y:=abd (by omega) uU.1
   have k1:=MM (qz xs ls i+(j:Int)*y)
   have k2:=MN (x:=qz xs ls i+(j:Int)*y) (by omega)
   rw[wI]
   try simp(disch:=first|omega|assumption|exact aa _) only[ah,ae,RZ,e3]
   refine bV (aiZ lf d _ h2 _) (av _) (fun _ _ h=>h.elim) ?_
   try simp(disch:=first|omega|assumption|exact aa _) only[ah,ae,RZ]
   refine lI _ _ _ ⟨⟨rfl,rfl⟩, ?_⟩
   rw[ML uU.1]
   congr 1
   simp only[Int.natCast_add,Int.add_mul,Int.natCast_one,Int.one_mul]
   omega
end
end Go.Proofs.YtdagfcflbphoiaaGreatDoor
namespace Go.Proofs.YtdagfcflbphoiaaGreatDoor.Ev
open Go Go.RowKit
theorem ai1{P:Program}{kn:List FuncId}(nX:sE P=true)(cH:qQ P kn=true)(mR:P.follows .mixedOrders=true)(kp:u6 P kn)(hd:mZ P=true){gt:Nat->Hint}{lf d:Nat}{f:FuncId}{w:World}{m:Mp}{h:H}(x:Laid P w m h P.globals.size)(hr:CU (vw kn P gt lf d f #[] h P.globals.size)=true):
 Calls P f #[] w fun e w'=>e= .returned (.bool true)∧Below w.heap.size w w':=by
 cases ho:vw kn P gt lf d f #[] h P.globals.size with
 |none=>rw[ho]at hr;cases hr
 |some o=>
  obtain⟨v,h1,n1,L⟩:=o
  rw[ho]at hr
  obtain⟨f0,vB⟩:=Qc hd d f #[] h _ v h1 n1 L ho
  refine aej nX cH mR kp x (fuel:=f0) ?_
  have e:cS P kn f0 f #[] h P.globals.size=some ⟨v,h1,n1,L⟩:=vB f0 (av _)
  rw[e]
  exact hr
noncomputable def Gy:Nat->Type
 |0=>M Value
 |n+1=>Value->Gy n
noncomputable def aR:(n:Nat)->Gy n->(List Value->M Value)->List Value->M Value
 |0,F,_,[]=>F
 |n+1,F,K,v::s=>aR n (F v) (fun s=>K (v::s)) s
 |0,_,K,x::s=>K (x::s)
 |_+1,_,K,[]=>K []
noncomputable def Zf:(n:Nat)->Gy n->(List Value->M Value)->Prop
 |0,F,K=>F=K []
 |n+1,F,K=>∀v,Zf n (F v) (fun s=>K (v::s))
theorem aU:∀(n:Nat) (F:Gy n) (K:List Value->M Value),Zf n F K->aR n F K=K:=by
 intro n
 induction n with
 |zero=>
  intro F K h
  funext s
  cases s with
  |nil=>exact h
  |cons x s=>rfl
 |succ n ih=>
  intro F K h
  funext s
  cases s with
  |nil=>rfl
  |cons v s=>
   show aR n (F v) (fun s=>K (v::s)) s=_
   rw[ih (F v) (fun s=>K (v::s)) (h v)]
noncomputable def Gz {α:Type} (f:Nat):List (Nat×α)->Option α
 |[]=>none
 |p::r=>match bK p.1 f with
  |true=>some p.2
  |false=>Gz f r
abbrev BP:=List (Nat×(Nat->(FuncId->Array Value->M Value)->List Value->M Value))
noncomputable def GA (C:Nat->FuncId->Array Value->M Value):BP->Prop
 |[]=>True
 |p::r=>(∀d,p.2 d (C d)=fun l=>C (d+1) p.1 l.toArray)∧GA C r
theorem Zg{C:Nat->FuncId->Array Value->M Value}{f:Nat}{E:Nat->(FuncId->Array Value->M Value)->List Value->M Value}:∀{T:BP},GA C T->Gz f T=some E->∀d,E d (C d)=fun l=>C (d+1) f l.toArray
 |[],_,h=>by cases h
 |p::r,ok,h=>by
  unfold Gz at h
  cases hq:bK p.1 f with
  |true=>
   rw[hq]at h
   cases h
   rw[<-Nat.eq_of_beq_eq_true hq]
   exact ok.1
  |false=>
   rw[hq]at h
   exact Zg ok.2 h
noncomputable def GB (C:Nat->FuncId->Array Value->M Value) (T:BP):Nat->FuncId->Array Value->M Value
 |0,f,a=>C 0 f a
 |d+1,f,a=>match Gz f T with
  |some E=>E d (GB C T d) a.toList
  |none=>C (d+1) f a
theorem Zh{C:Nat->FuncId->Array Value->M Value}{T:BP}(ok:GA C T):∀d,GB C T d=C d
 |0=>rfl
 |d+1=>by
  have ih:=Zh ok d
  funext f a
  unfold GB
  rw[ih]
  split
  ·rename_i E hE
   rw[Zg ok hE d]
  ·rfl
end Go.Proofs.YtdagfcflbphoiaaGreatDoor.Ev
namespace Go.Proofs.YtdagfcflbphoiaaGreatDoor
open Go Ev
def BQ:List FuncId:=[]
noncomputable section
def eC(lf:Nat):Nat->FuncId->Array Value->M Value:=vw BQ ai gt lf
theorem aT{lf d:Nat}{f:FuncId}{a:Array Value}{X:M Value}(s:aG ai gt lf (eC lf d) f a=X):X=eC lf (d+1) f a:=s.symm
def Zi(lf:Nat):BP:=[(8,fun d r=>aR 0 (inside (J4 lf r)) fun l=>eC lf (d+1) 8 l.toArray),
 (9,fun d r=>aR 0 (inside (J5 lf r)) fun l=>eC lf (d+1) 9 l.toArray),
 (11,fun d r=>aR 3 (fun a b c=>inside (Ej lf r a b c)) fun l=>eC lf (d+1) 11 l.toArray),
 (12,fun d r=>aR 2 (fun a b=>inside (Ek lf r a b)) fun l=>eC lf (d+1) 12 l.toArray),
 (14,fun d r=>aR 1 (fun a=>inside (J9 lf r a)) fun l=>eC lf (d+1) 14 l.toArray),
 (16,fun d r=>aR 1 (fun a=>inside (Ep lf r a)) fun l=>eC lf (d+1) 16 l.toArray),
 (17,fun d r=>aR 1 (fun a=>inside (Kb lf r a)) fun l=>eC lf (d+1) 17 l.toArray),
 (20,fun d r=>aR 1 (fun a=>inside (Sv lf r a)) fun l=>eC lf (d+1) 20 l.toArray),
 (22,fun d r=>aR 3 (fun a b c=>inside (Sx lf r a b c)) fun l=>eC lf (d+1) 22 l.toArray),
 (27,fun d r=>aR 2 (fun a b=>inside (Kd lf r a b)) fun l=>eC lf (d+1) 27 l.toArray),
 (36,fun d r=>aR 2 (fun a b=>inside (Kg lf r a b)) fun l=>eC lf (d+1) 36 l.toArray),
 (37,fun d r=>aR 3 (fun a b c=>inside (Eu lf r a b c)) fun l=>eC lf (d+1) 37 l.toArray),
 (38,fun d r=>aR 2 (fun a b=>inside (Kh lf r a b)) fun l=>eC lf (d+1) 38 l.toArray),
 (39,fun d r=>aR 1 (fun a=>inside (Ey lf r a)) fun l=>eC lf (d+1) 39 l.toArray),
 (40,fun d r=>aR 3 (fun a b c=>inside (Ki lf r a b c)) fun l=>eC lf (d+1) 40 l.toArray),
 (41,fun d r=>aR 2 (fun a b=>inside (EA lf r a b)) fun l=>eC lf (d+1) 41 l.toArray),
 (42,fun d r=>aR 1 (fun a=>inside (Kj lf r a)) fun l=>eC lf (d+1) 42 l.toArray),
 (43,fun d r=>aR 2 (fun a b=>inside (EB lf r a b)) fun l=>eC lf (d+1) 43 l.toArray),
 (35,fun d r=>aR 2 (fun a b=>inside (Kf lf r a b)) fun l=>eC lf (d+1) 35 l.toArray),
 (28,fun d r=>aR 1 (fun a=>inside (SD lf r a)) fun l=>eC lf (d+1) 28 l.toArray),
 (24,fun d r=>aR 1 (fun a=>inside (Sz lf r a)) fun l=>eC lf (d+1) 24 l.toArray),
 (52,fun d r=>aR 3 (fun a b c=>inside (Kv lf r a b c)) fun l=>eC lf (d+1) 52 l.toArray),
 (21,fun d r=>aR 2 (fun a b=>inside (Sw lf r a b)) fun l=>eC lf (d+1) 21 l.toArray),
 (64,fun d r=>aR 2 (fun a b=>inside (EK lf r a b)) fun l=>eC lf (d+1) 64 l.toArray),
 (65,fun d r=>aR 2 (fun a b=>inside (AW lf r a b)) fun l=>eC lf (d+1) 65 l.toArray),
 (66,fun d r=>aR 2 (fun a b=>inside (Kx lf r a b)) fun l=>eC lf (d+1) 66 l.toArray),
 (10,fun d r=>aR 3 (fun a b c=>inside (Eg lf r a b c)) fun l=>eC lf (d+1) 10 l.toArray),
 (67,fun d r=>aR 1 (fun a=>inside (EN lf r a)) fun l=>eC lf (d+1) 67 l.toArray),
 (68,fun d r=>aR 1 (fun a=>inside (Ky lf r a)) fun l=>eC lf (d+1) 68 l.toArray),
 (70,fun d r=>aR 3 (fun a b c=>inside (KB lf r a b c)) fun l=>eC lf (d+1) 70 l.toArray),
 (69,fun d r=>aR 2 (fun a b=>inside (ER lf r a b)) fun l=>eC lf (d+1) 69 l.toArray),
 (71,fun d r=>aR 1 (fun a=>inside (KC lf r a)) fun l=>eC lf (d+1) 71 l.toArray),
 (72,fun d r=>aR 1 (fun a=>inside (KD lf r a)) fun l=>eC lf (d+1) 72 l.toArray),
 (73,fun d r=>aR 2 (fun a b=>inside (KE lf r a b)) fun l=>eC lf (d+1) 73 l.toArray),
 (74,fun d r=>aR 3 (fun a b c=>inside (KF lf r a b c)) fun l=>eC lf (d+1) 74 l.toArray),
 (75,fun d r=>aR 1 (fun a=>inside (KH lf r a)) fun l=>eC lf (d+1) 75 l.toArray),
 (76,fun d r=>aR 2 (fun a b=>inside (KI lf r a b)) fun l=>eC lf (d+1) 76 l.toArray),
 (77,fun d r=>aR 2 (fun a b=>inside (ES lf r a b)) fun l=>eC lf (d+1) 77 l.toArray),
 (56,fun d r=>aR 1 (fun a=>inside (Tv lf r a)) fun l=>eC lf (d+1) 56 l.toArray),
 (57,fun d r=>aR 0 (inside (Tw lf r)) fun l=>eC lf (d+1) 57 l.toArray),
 (30,fun d r=>aR 2 (fun a b=>inside (SE lf r a b)) fun l=>eC lf (d+1) 30 l.toArray),
 (51,fun d r=>aR 1 (fun a=>inside (Tq lf r a)) fun l=>eC lf (d+1) 51 l.toArray),
 (98,fun d r=>aR 2 (fun a b=>inside (A0 lf r a b)) fun l=>eC lf (d+1) 98 l.toArray),
 (99,fun d r=>aR 1 (fun a=>inside (E4 lf r a)) fun l=>eC lf (d+1) 99 l.toArray),
 (100,fun d r=>aR 2 (fun a b=>inside (E6 lf r a b)) fun l=>eC lf (d+1) 100 l.toArray),
 (101,fun d r=>aR 3 (fun a b c=>inside (E8 lf r a b c)) fun l=>eC lf (d+1) 101 l.toArray),
 (102,fun d r=>aR 1 (fun a=>inside (K2 lf r a)) fun l=>eC lf (d+1) 102 l.toArray),
 (104,fun d r=>aR 2 (fun a b=>inside (K4 lf r a b)) fun l=>eC lf (d+1) 104 l.toArray),
 (103,fun d r=>aR 2 (fun a b=>inside (A6 lf r a b)) fun l=>eC lf (d+1) 103 l.toArray),
 (34,fun d r=>aR 2 (fun a b=>inside (Ke lf r a b)) fun l=>eC lf (d+1) 34 l.toArray),
 (92,fun d r=>aR 0 (inside (E2 lf r)) fun l=>eC lf (d+1) 92 l.toArray),
 (105,fun d r=>aR 2 (fun a b=>inside (Fa lf r a b)) fun l=>eC lf (d+1) 105 l.toArray),
 (91,fun d r=>aR 1 (fun a=>inside (KX lf r a)) fun l=>eC lf (d+1) 91 l.toArray),
 (106,fun d r=>aR 1 (fun a=>inside (K5 lf r a)) fun l=>eC lf (d+1) 106 l.toArray),
 (108,fun d r=>aR 1 (fun a=>inside (Fc lf r a)) fun l=>eC lf (d+1) 108 l.toArray),
 (109,fun d r=>aR 2 (fun a b=>inside (K9 lf r a b)) fun l=>eC lf (d+1) 109 l.toArray),
 (110,fun d r=>aR 3 (fun a b c=>inside (K' lf r a b c)) fun l=>eC lf (d+1) 110 l.toArray),
 (111,fun d r=>aR 1 (fun a=>inside (La lf r a)) fun l=>eC lf (d+1) 111 l.toArray),
 (112,fun d r=>aR 2 (fun a b=>inside (Lb lf r a b)) fun l=>eC lf (d+1) 112 l.toArray),
 (58,fun d r=>aR 2 (fun a b=>inside (Tx lf r a b)) fun l=>eC lf (d+1) 58 l.toArray),
 (59,fun d r=>aR 1 (fun a=>inside (Ty lf r a)) fun l=>eC lf (d+1) 59 l.toArray),
 (60,fun d r=>aR 2 (fun a b=>inside (Tz lf r a b)) fun l=>eC lf (d+1) 60 l.toArray),
 (61,fun d r=>aR 1 (fun a=>inside (TA lf r a)) fun l=>eC lf (d+1) 61 l.toArray),
 (62,fun d r=>aR 2 (fun a b=>inside (TB lf r a b)) fun l=>eC lf (d+1) 62 l.toArray),
 (124,fun d r=>aR 1 (fun a=>inside (Fl lf r a)) fun l=>eC lf (d+1) 124 l.toArray),
 (125,fun d r=>aR 2 (fun a b=>inside (Fo lf r a b)) fun l=>eC lf (d+1) 125 l.toArray),
 (126,fun d r=>aR 2 (fun a b=>inside (Fq lf r a b)) fun l=>eC lf (d+1) 126 l.toArray),
 (127,fun d r=>aR 1 (fun a=>inside (Ft lf r a)) fun l=>eC lf (d+1) 127 l.toArray),
 (128,fun d r=>aR 2 (fun a b=>inside (yO lf r a b)) fun l=>eC lf (d+1) 128 l.toArray),
 (129,fun d r=>aR 2 (fun a b=>inside (Fw lf r a b)) fun l=>eC lf (d+1) 129 l.toArray),
 (107,fun d r=>aR 1 (fun a=>inside (K7 lf r a)) fun l=>eC lf (d+1) 107 l.toArray),
 (130,fun d r=>aR 3 (fun a b c=>inside (Lp lf r a b c)) fun l=>eC lf (d+1) 130 l.toArray),
 (131,fun d r=>aR 1 (fun a=>inside (Lq lf r a)) fun l=>eC lf (d+1) 131 l.toArray),
 (93,fun d r=>aR 2 (fun a b=>inside (Ux lf r a b)) fun l=>eC lf (d+1) 93 l.toArray),
 (94,fun d r=>aR 2 (fun a b=>inside (Uy lf r a b)) fun l=>eC lf (d+1) 94 l.toArray),
 (63,fun d r=>aR 1 (fun a=>inside (TC lf r a)) fun l=>eC lf (d+1) 63 l.toArray),
 (95,fun d r=>aR 2 (fun a b=>inside (Uz lf r a b)) fun l=>eC lf (d+1) 95 l.toArray),
 (96,fun d r=>aR 1 (fun a=>inside (UA lf r a)) fun l=>eC lf (d+1) 96 l.toArray),
 (97,fun d r=>aR 1 (fun a=>inside (UB lf r a)) fun l=>eC lf (d+1) 97 l.toArray),
 (139,fun d r=>aR 1 (fun a=>inside (FB lf r a)) fun l=>eC lf (d+1) 139 l.toArray),
 (140,fun d r=>aR 1 (fun a=>inside (FD lf r a)) fun l=>eC lf (d+1) 140 l.toArray),
 (141,fun d r=>aR 1 (fun a=>inside (FF lf r a)) fun l=>eC lf (d+1) 141 l.toArray),
 (142,fun d r=>aR 3 (fun a b c=>inside (Lx lf r a b c)) fun l=>eC lf (d+1) 142 l.toArray),
 (132,fun d r=>aR 1 (fun a=>inside (Lr lf r a)) fun l=>eC lf (d+1) 132 l.toArray),
 (120,fun d r=>aR 2 (fun a b=>inside (Lm lf r a b)) fun l=>eC lf (d+1) 120 l.toArray),
 (121,fun d r=>aR 2 (fun a b=>inside (Ln lf r a b)) fun l=>eC lf (d+1) 121 l.toArray),
 (122,fun d r=>aR 2 (fun a b=>inside (Vy lf r a b)) fun l=>eC lf (d+1) 122 l.toArray),
 (123,fun d r=>aR 2 (fun a b=>inside (Vz lf r a b)) fun l=>eC lf (d+1) 123 l.toArray),
 (146,fun d r=>aR 1 (fun a=>inside (FG lf r a)) fun l=>eC lf (d+1) 146 l.toArray),
 (147,fun d r=>aR 1 (fun a=>inside (Lz lf r a)) fun l=>eC lf (d+1) 147 l.toArray),
 (148,fun d r=>aR 3 (fun a b c=>inside (LA lf r a b c)) fun l=>eC lf (d+1) 148 l.toArray),
 (136,fun d r=>aR 2 (fun a b=>inside (Lu lf r a b)) fun l=>eC lf (d+1) 136 l.toArray),
 (137,fun d r=>aR 1 (fun a=>inside (V8 lf r a)) fun l=>eC lf (d+1) 137 l.toArray),
 (138,fun d r=>aR 2 (fun a b=>inside (V9 lf r a b)) fun l=>eC lf (d+1) 138 l.toArray),
 (150,fun d r=>aR 3 (fun a b c=>inside (LC lf r a b c)) fun l=>eC lf (d+1) 150 l.toArray),
 (149,fun d r=>aR 2 (fun a b=>inside (LB lf r a b)) fun l=>eC lf (d+1) 149 l.toArray),
 (144,fun d r=>aR 1 (fun a=>inside (Wo lf r a)) fun l=>eC lf (d+1) 144 l.toArray),
 (145,fun d r=>aR 2 (fun a b=>inside (Wp lf r a b)) fun l=>eC lf (d+1) 145 l.toArray),
 (151,fun d r=>aR 2 (fun a b=>inside (LD lf r a b)) fun l=>eC lf (d+1) 151 l.toArray),
 (152,fun d r=>aR 3 (fun a b c=>inside (FJ lf r a b c)) fun l=>eC lf (d+1) 152 l.toArray),
 (153,fun d r=>aR 1 (fun a=>inside (LG lf r a)) fun l=>eC lf (d+1) 153 l.toArray),
 (154,fun d r=>aR 4 (fun a b c d=>inside (Bg lf r a b c d)) fun l=>eC lf (d+1) 154 l.toArray),
 (155,fun d r=>aR 5 (fun a b c d e=>inside (yP lf r a b c d e)) fun l=>eC lf (d+1) 155 l.toArray),
 (156,fun d r=>aR 5 (fun a b c d e=>inside (FM lf r a b c d e)) fun l=>eC lf (d+1) 156 l.toArray),
 (157,fun d r=>aR 5 (fun a b c d e=>inside (FN lf r a b c d e)) fun l=>eC lf (d+1) 157 l.toArray)]
theorem ai2(lf:Nat):GA (eC lf) (Zi lf):=⟨fun d=>aU _ _ _ (aT R3),
 ⟨fun d=>aU _ _ _ (aT R4),
 ⟨fun d=>aU _ _ _ (fun a b c=>aT Sc),
 ⟨fun d=>aU _ _ _ (fun a b=>aT Sf),
 ⟨fun d=>aU _ _ _ (fun a=>aT Si),
 ⟨fun d=>aU _ _ _ (fun a=>aT Sp),
 ⟨fun d=>aU _ _ _ (fun a=>aT Sq),
 ⟨fun d=>aU _ _ _ (fun a=>aT aeQ),
 ⟨fun d=>aU _ _ _ (fun a b c=>aT aeS),
 ⟨fun d=>aU _ _ _ (fun a b=>aT aeW),
 ⟨fun d=>aU _ _ _ (fun a b=>aT SH),
 ⟨fun d=>aU _ _ _ (fun a b c=>aT SK),
 ⟨fun d=>aU _ _ _ (fun a b=>aT SL),
 ⟨fun d=>aU _ _ _ (fun a=>aT SQ),
 ⟨fun d=>aU _ _ _ (fun a b c=>aT SS),
 ⟨fun d=>aU _ _ _ (fun a b=>aT SW),
 ⟨fun d=>aU _ _ _ (fun a=>aT SX),
 ⟨fun d=>aU _ _ _ (fun a b=>aT S0),
 ⟨fun d=>aU _ _ _ (fun a b=>aT SG),
 ⟨fun d=>aU _ _ _ (fun a=>aT aeX),
 ⟨fun d=>aU _ _ _ (fun a=>aT aeU),
 ⟨fun d=>aU _ _ _ (fun a b c=>aT afn),
 ⟨fun d=>aU _ _ _ (fun a b=>aT aeR),
 ⟨fun d=>aU _ _ _ (fun a b=>aT TF),
 ⟨fun d=>aU _ _ _ (fun a b=>aT Kw),
 ⟨fun d=>aU _ _ _ (fun a b=>aT TI),
 ⟨fun d=>aU _ _ _ (fun a b c=>aT R7),
 ⟨fun d=>aU _ _ _ (fun a=>aT TL),
 ⟨fun d=>aU _ _ _ (fun a=>aT TM),
 ⟨fun d=>aU _ _ _ (fun a b c=>aT TU),
 ⟨fun d=>aU _ _ _ (fun a b=>aT TS),
 ⟨fun d=>aU _ _ _ (fun a=>aT TV),
 ⟨fun d=>aU _ _ _ (fun a=>aT TW),
 ⟨fun d=>aU _ _ _ (fun a b=>aT TX),
 ⟨fun d=>aU _ _ _ (fun a b c=>aT TY),
 ⟨fun d=>aU _ _ _ (fun a=>aT TZ),
 ⟨fun d=>aU _ _ _ (fun a b=>aT T0),
 ⟨fun d=>aU _ _ _ (fun a b=>aT T6),
 ⟨fun d=>aU _ _ _ (fun a=>aT afo),
 ⟨fun d=>aU _ _ _ (aT afp),
 ⟨fun d=>aU _ _ _ (fun a b=>aT aeY),
 ⟨fun d=>aU _ _ _ (fun a=>aT afl),
 ⟨fun d=>aU _ _ _ (fun a b=>aT KY),
 ⟨fun d=>aU _ _ _ (fun a=>aT UG),
 ⟨fun d=>aU _ _ _ (fun a b=>aT UN),
 ⟨fun d=>aU _ _ _ (fun a b c=>aT UU),
 ⟨fun d=>aU _ _ _ (fun a=>aT UW),
 ⟨fun d=>aU _ _ _ (fun a b=>aT UX),
 ⟨fun d=>aU _ _ _ (fun a b=>aT E9),
 ⟨fun d=>aU _ _ _ (fun a b=>aT SF),
 ⟨fun d=>aU _ _ _ (aT Uw),
 ⟨fun d=>aU _ _ _ (fun a b=>aT U0),
 ⟨fun d=>aU _ _ _ (fun a=>aT Ut),
 ⟨fun d=>aU _ _ _ (fun a=>aT U3),
 ⟨fun d=>aU _ _ _ (fun a=>aT U7),
 ⟨fun d=>aU _ _ _ (fun a b=>aT U8),
 ⟨fun d=>aU _ _ _ (fun a b c=>aT U9),
 ⟨fun d=>aU _ _ _ (fun a=>aT U'),
 ⟨fun d=>aU _ _ _ (fun a b=>aT Va),
 ⟨fun d=>aU _ _ _ (fun a b=>aT afq),
 ⟨fun d=>aU _ _ _ (fun a=>aT afr),
 ⟨fun d=>aU _ _ _ (fun a b=>aT afs),
 ⟨fun d=>aU _ _ _ (fun a=>aT aft),
 ⟨fun d=>aU _ _ _ (fun a b=>aT afu),
 ⟨fun d=>aU _ _ _ (fun a=>aT VC),
 ⟨fun d=>aU _ _ _ (fun a b=>aT VF),
 ⟨fun d=>aU _ _ _ (fun a b=>aT VI),
 ⟨fun d=>aU _ _ _ (fun a=>aT VN),
 ⟨fun d=>aU _ _ _ (fun a b=>aT Fu),
 ⟨fun d=>aU _ _ _ (fun a b=>aT VT),
 ⟨fun d=>aU _ _ _ (fun a=>aT U4),
 ⟨fun d=>aU _ _ _ (fun a b c=>aT VU),
 ⟨fun d=>aU _ _ _ (fun a=>aT VV),
 ⟨fun d=>aU _ _ _ (fun a b=>aT afV),
 ⟨fun d=>aU _ _ _ (fun a b=>aT afW),
 ⟨fun d=>aU _ _ _ (fun a=>aT afv),
 ⟨fun d=>aU _ _ _ (fun a b=>aT afX),
 ⟨fun d=>aU _ _ _ (fun a=>aT afY),
 ⟨fun d=>aU _ _ _ (fun a=>aT afZ),
 ⟨fun d=>aU _ _ _ (fun a=>aT We),
 ⟨fun d=>aU _ _ _ (fun a=>aT Wi),
 ⟨fun d=>aU _ _ _ (fun a=>aT Wl),
 ⟨fun d=>aU _ _ _ (fun a b c=>aT Wm),
 ⟨fun d=>aU _ _ _ (fun a=>aT VW),
 ⟨fun d=>aU _ _ _ (fun a b=>aT agk),
 ⟨fun d=>aU _ _ _ (fun a b=>aT agm),
 ⟨fun d=>aU _ _ _ (fun a b=>aT agn),
 ⟨fun d=>aU _ _ _ (fun a b=>aT ago),
 ⟨fun d=>aU _ _ _ (fun a=>aT Wu),
 ⟨fun d=>aU _ _ _ (fun a=>aT Wv),
 ⟨fun d=>aU _ _ _ (fun a b c=>aT Ww),
 ⟨fun d=>aU _ _ _ (fun a b=>aT agB),
 ⟨fun d=>aU _ _ _ (fun a=>aT agC),
 ⟨fun d=>aU _ _ _ (fun a b=>aT agD),
 ⟨fun d=>aU _ _ _ (fun a b c=>aT Wy),
 ⟨fun d=>aU _ _ _ (fun a b=>aT Wx),
 ⟨fun d=>aU _ _ _ (fun a=>aT agI),
 ⟨fun d=>aU _ _ _ (fun a b=>aT agJ),
 ⟨fun d=>aU _ _ _ (fun a b=>aT Wz),
 ⟨fun d=>aU _ _ _ (fun a b c=>aT WG),
 ⟨fun d=>aU _ _ _ (fun a=>aT WH),
 ⟨fun d=>aU _ _ _ (fun a b c d=>aT LH),
 ⟨fun d=>aU _ _ _ (fun a b c d e=>aT FL),
 ⟨fun d=>aU _ _ _ (fun a b c d e=>aT WZ),
 ⟨fun d=>aU _ _ _ (fun a b c d e=>aT W2),trivial⟩⟩⟩⟩⟩⟩⟩⟩⟩⟩⟩⟩⟩⟩⟩⟩⟩⟩⟩⟩⟩⟩⟩⟩⟩⟩⟩⟩⟩⟩⟩⟩⟩⟩⟩⟩⟩⟩⟩⟩⟩⟩⟩⟩⟩⟩⟩⟩⟩⟩⟩⟩⟩⟩⟩⟩⟩⟩⟩⟩⟩⟩⟩⟩⟩⟩⟩⟩⟩⟩⟩⟩⟩⟩⟩⟩⟩⟩⟩⟩⟩⟩⟩⟩⟩⟩⟩⟩⟩⟩⟩⟩⟩⟩⟩⟩⟩⟩⟩⟩⟩⟩⟩⟩⟩
def Zj(lf:Nat):Nat->FuncId->Array Value->M Value:=GB (eC lf) (Zi lf)
theorem ai3(lf d:Nat):Zj lf d=eC lf d:=Zh (ai2 lf) d
end
end Go.Proofs.YtdagfcflbphoiaaGreatDoor
namespace Go.Proofs.YtdagfcflbphoiaaGreatDoor
open Go.RowKit Ev
theorem Zk:Ev.sE ai=true:=by kernel_rfl
theorem ai4:Ev.qQ ai BQ=true:=by kernel_rfl
theorem ai5:Ev.qQ ai Ev.KN=true:=by kernel_rfl
theorem Zl:Tryz.prog.follows .mixedOrders=true:=by kernel_rfl
theorem Zm:Ev.It ai:=by
 intro f k hf
 simp[sG,NV,HB]at hf
theorem ai6:Ev.u6 ai BQ:=⟨fun f hf=>by simp[BQ]at hf,Zm⟩
def gV:List Value:=[.int .i64 200,.int .i64 600,.int .i64 1200,.int .i64 2400]
def hG:H:=H.set .nil 0 (some ⟨3,false,gV⟩)
theorem Zn{w:World}(x:Ev.rf w):∃m,Laid ai w m hG Tryz.prog.globals.size:=by
 refine aei x (by decide+kernel) (sz:=1) (by kernel_rfl) (by decide) (fun k v hk=> ?_) (by decide)
 match k,hk with
 |0,hk=>cases hk;simp[KG]
 |1,hk=>cases hk;simp[KG]
 |2,hk=>cases hk;simp[KG]
 |3,hk=>cases hk;simp[KG]
set_option maxRecDepth 100000 in
theorem ai7:Ev.CU ((inside (J4 100000 (Zj 100000 1000))) hG Tryz.prog.globals.size)=true:=by kernel_rfl
theorem ai8(w:World)(x:Ev.rf w):Calls ai 8 #[] w fun e w'=>e= .returned (.bool true)∧Below w.heap.size w w':=by
 obtain⟨m,x⟩:=Zn x
 refine Ev.ai1 (kn:=BQ) Zk ai4 Zl ai6 aW x (gt:=gt) (lf:=100000) (d:=1001) ?_
 have:=ai7
 rw[ai3,aT R3]at this
 exact this
theorem known:Ev.u6 ai Ev.KN:=⟨fun f hf hn hp w x=>by
 have:f=8:=by simpa[Ev.KN]using hf
 subst this
 exact ai8 w x,Zm⟩
end Go.Proofs.YtdagfcflbphoiaaGreatDoor
namespace Go.Proofs.YtdagfcflbphoiaaGreatDoor
open Go Go.RowKit Go.WideShapes Go.ChangeShapes Go.MakeChecks
theorem Zo:Tryz.prog.globalNamed "baler/tables.bounds" =some 0:=by kernel_rfl
theorem ai9:(Tryz.prog.globals[0]?).map (·.type)=some 158:=by kernel_rfl
theorem ai':Tryz.prog.cellsOf 3=1:=by kernel_rfl
theorem ai_:Tryz.prog.cellsOf 158=4:=by kernel_rfl
set_option maxRecDepth 10000 in
theorem aja{w:World}(hL:laidMetH ai [("baler/tables.bounds",Rows.laid_baler_tables_bounds)] w):Ev.rf w:=by
 rw[laidMetH_plain _ _ _ rfl]at hL
 obtain⟨ps,⟨g,t,cs,fuel,p,q,hg,ht,hv,hx,_⟩,_⟩:=hL
 rw[Zo]at hg
 cases hg
 rw[ai9]at ht
 cases ht
 unfold World.var? at hv
 rw[Zo]at hv
 simp only[Option.bind_some]at hv
 split at hv
 ·rename_i cs' e' fr' hw
  cases hv
  obtain⟨xs,m,rfl,fU,hlen,hxn,gR⟩:=DataW.trod_array Tryz.underlying158 hx
  rw[ai_]at hlen
  rw[ai']at gR
  have hc:∀(i:Nat) (z:Int),i<4->(xs.map (·.1))[i]? =some (.lit (.int .i64 z))->w.cell? ⟨0,i,none⟩=some (.int .i64 z):=by
   intro i z hi hz
   rw[j4]at hz
   cases jS:xs[i]? with
   |none=>rw[jS]at hz;cases hz
   |some y=>
    rw[jS]at hz
    have ha:=gR i hi
    rw[jS]at ha
    obtain⟨k,h1,h2,_⟩:=DataW.trod_int Tryz.underlying3 ha
    rw[h2]at hz
    cases hz
    have h3:cs.toList[i]? =some (.int .i64 z):=by
     rw[Nat.mul_one,List.drop_eq_getElem_cons (by omega),List.take_succ_cons,qL]at h1
     rw[aM (by omega)]
     exact congrArg some (amb h1).1
    unfold World.cell?
    simp only[hw]
    simpa using h3
  have hm:xs.map (·.1)=[.lit (.int .i64 200),.lit (.int .i64 600),.lit (.int .i64 1200),.lit (.int .i64 2400)]:=by
   have:=congrArg Prod.fst fU
   simp only[Rows.laid_baler_tables_bounds]at this
   injection this with this
   exact this.symm
  rw[hm]at hc
  intro g hg
  have:g=(0,0,.int .i64 200)∨g=(0,1,.int .i64 600)∨g=(0,2,.int .i64 1200)∨g=(0,3,.int .i64 2400):=by simpa[Ev.KG]using hg
  rcases this with rfl|rfl|rfl|rfl
  ·exact hc 0 200 (by decide) rfl
  ·exact hc 1 600 (by decide) rfl
  ·exact hc 2 1200 (by decide) rfl
  ·exact hc 3 2400 (by decide) rfl
 ·cases hv
end Go.Proofs.YtdagfcflbphoiaaGreatDoor
namespace Go.Proofs.YtdagfcflbphoiaaGreatDoor
open Go.RowKit Ev
def Gd(h:H)(n:Nat):Prop:=h.get 0=some ⟨3,false,gV⟩∧0<n
theorem Gd.aB{h h':H}{n n':Nat}(x:Gd h n)(hn:n<=n')(hk:∀b,b<n->h'.get b=h.get b):Gd h' n':=⟨(hk _ x.2).trans x.1,qJ x.2 hn⟩
theorem Gd.of{h:H}{n:Nat}(hn:Tryz.prog.globals.size<=n)(hg:h.get 0=some ⟨3,false,gV⟩):Gd h n:=⟨hg,qJ (by decide+kernel) hn⟩
theorem Zp(lf d n:Nat)(h:H)(x:Gd h n):aj (fun _=>False) n (au ai gt lf (d+1) 8 #[]) h n fun v' h' n'=>v'= .bool true∧h'=h∧n'=n:=by
 obtain⟨hg,hn⟩:=x
 have e:au ai gt lf (d+1) 8 #[]=(mM ai KG).bind fun _=>M.ret (.bool true):=by kernel_rfl
 rw[e]
 have rdg:∀(k:Nat) (v:Value),gV[k]? =some v->rd 0 k h n=some ⟨v,h,n,[⟨false,0,some k⟩]⟩:=fun k v hk=>by
  unfold rd
  simp only[hn,hg,hk,if_true]
 have fL:decide (0<Tryz.prog.globals.size)=true:=by decide+kernel
 have jC:∀(k:Nat) (x:Int) (l:List (Nat×Nat×Value)) (L:List En),gV[k]? =some (.int .i64 x)->mM ai l h n=some ⟨(),h,n,L⟩->mM ai ((0,k,.int .i64 x)::l) h n=some ⟨(),h,n,[⟨false,0,some k⟩]++L⟩:=fun k x l L hk hl=>by
  unfold mM
  refine bZ (rdg k _ hk) ?_
  simp only[fL,xU,decide_true,zN,if_true]
  exact hl
 have c:=jC 0 200 _ _ rfl (jC 1 600 _ _ rfl (jC 2 1200 _ _ rfl (jC 3 2400 [] [] rfl rfl)))
 refine aj.step c (av _) (by simp) ?_
 rw[Ay]
 exact⟨rfl,rfl,rfl⟩
theorem GC{lf d n n0:Nat}{h:H}{W:Nat->Prop}(hn:n0<=n)(x:Gd h n):aj W n0 (az (au ai gt lf (d+1)) 8 [] fun v=>ak [v]) h n fun v _ _=>v= .bool true:=by
 refine bV (Zp lf d n h x) hn (fun _ _ h=>h.elim) ?_
 rw[JH]
end Go.Proofs.YtdagfcflbphoiaaGreatDoor
namespace Go.Proofs.YtdagfcflbphoiaaGreatDoor
open Go.RowKit Ev Tb
section
variable (lf d n:Nat) (h:H) (aA:3000000<=lf)
theorem ajb(z:Int):aj (fun _=>False) n (au ai gt lf (d+1) 113 #[.int .i64 z]) h n fun v' h' n'=>v'= .int .i64 (j1 z:Int)∧h'=h∧n'=n:=by
 rw[aQ (fun _=>af7) rfl]
 refine aj.aP ?_
 unfold Vb j1
 by_cases c1:z<200
 ·try simp(disch:=first|omega|assumption|exact aa _) only[ah,ae,RZ,c1]
  all_goals (first|rfl|exact⟨rfl,rfl,rfl⟩|exact⟨rfl,rfl⟩)
 ·by_cases c2:z<600
  ·try simp(disch:=first|omega|assumption|exact aa _) only[ah,ae,RZ,c1,c2]
   all_goals (first|rfl|exact⟨rfl,rfl,rfl⟩|exact⟨rfl,rfl⟩)
  ·by_cases c3:z<1200
   ·try simp(disch:=first|omega|assumption|exact aa _) only[ah,ae,RZ,c1,c2,c3]
    all_goals (first|rfl|exact⟨rfl,rfl,rfl⟩|exact⟨rfl,rfl⟩)
   ·by_cases c4:z<2400
    ·try simp(disch:=first|omega|assumption|exact aa _) only[ah,ae,RZ,c1,c2,c3,c4]
     all_goals (first|rfl|exact⟨rfl,rfl,rfl⟩|exact⟨rfl,rfl⟩)
    ·try simp(disch:=first|omega|assumption|exact aa _) only[ah,ae,RZ,c1,c2,c3,c4]
     all_goals (first|rfl|exact⟨rfl,rfl,rfl⟩|exact⟨rfl,rfl⟩)
theorem BR:([.int .i64 200,.int .i64 600,.int .i64 1200,.int .i64 2400]:List Value)[Cy 0]? =some (.int .i64 200):=rfl
theorem BT:([.int .i64 200,.int .i64 600,.int .i64 1200,.int .i64 2400]:List Value)[Cy 1]? =some (.int .i64 600):=rfl
theorem BU:([.int .i64 200,.int .i64 600,.int .i64 1200,.int .i64 2400]:List Value)[Cy 2]? =some (.int .i64 1200):=rfl
theorem BV:([.int .i64 200,.int .i64 600,.int .i64 1200,.int .i64 2400]:List Value)[Cy 3]? =some (.int .i64 2400):=rfl
theorem ajc(z:Int)(g:Gd h n)(hf:5<=lf):aj (fun _=>False) n (au ai gt lf (d+1) 124 #[.int .i64 z]) h n fun v' h' n'=>v'= .int .i64 (j1 z:Int)∧h'=h∧n'=n:=by
 rw[aQ (fun _=>VC) rfl]
 refine aj.aP ?_
 unfold Fl
 refine Bu trivial trivial 0 0 _ g.1 g.2 (by decide) ?_
 have go:∀F,5<=F->aj (fun _=>False) n (eQ lf (au ai gt lf d) F (tT lf (au ai gt lf d)) (.int .i64 z) (.int .i64 0) (.int .i64 2) (.agg #[.int .i64 200,.int .i64 600,.int .i64 1200,.int .i64 2400]) (.int .i64 0)) h n fun v' h' n'=>v'= .int .i64 (j1 z:Int)∧h'=h∧n'=n:=by
  intro F hF
  obtain⟨F,rfl⟩:∃f,F=f+1+1+1+1+1:=⟨F-5,by omega⟩
  have w:∀x:Int,0<=x->x<100->IntKind.i64.wrap (x+1)=x+1:=fun x h0 h1=>bB (by omega) (by omega)
  unfold j1
  by_cases c1:z<200
  ·have d1:¬(200<=z):=by omega
   have d2:¬(600<=z):=by omega
   have d3:¬(1200<=z):=by omega
   have d4:¬(2400<=z):=by omega
   rw[eQ]
   try simp(disch:=first|omega|assumption|exact aa _) only[ah,ae,RZ,cd,cj,cr,ct,cz,cA,cB,cC,cD,cE,BR,d1]
   rw[eQ]
   try simp(disch:=first|omega|assumption|exact aa _) only[ah,ae,RZ,cd,cj,cr,ct,cz,cA,cB,cC,cD,cE,BT,d2]
   rw[eQ]
   try simp(disch:=first|omega|assumption|exact aa _) only[ah,ae,RZ,cd,cj,cr,ct,cz,cA,cB,cC,cD,cE,BU,d3]
   rw[eQ]
   try simp(disch:=first|omega|assumption|exact aa _) only[ah,ae,RZ,cd,cj,cr,ct,cz,cA,cB,cC,cD,cE,BV,d4]
   rw[eQ]
   try simp(disch:=first|omega|assumption|exact aa _) only[ah,ae,RZ,cd,cj,cr,ct,cz,cA,cB,cC,cD,cE]
   (try unfold tT);(try dsimp only)
   try simp(disch:=first|omega|assumption|exact aa _) only[ah,ae,RZ,cd,cj,cr,ct,cz,cA,cB,cC,cD,cE,c1]
   all_goals (first|rfl|exact⟨rfl,rfl,rfl⟩|exact⟨rfl,rfl⟩)
  ·have d1:200<=z:=by omega
   by_cases c2:z<600
   ·have d2:¬(600<=z):=by omega
    have d3:¬(1200<=z):=by omega
    have d4:¬(2400<=z):=by omega
    rw[eQ]
    try simp(disch:=first|omega|assumption|exact aa _) only[ah,ae,RZ,cd,cj,cr,ct,cz,cA,cB,cC,cD,cE,BR,d1]
    rw[eQ]
    try simp(disch:=first|omega|assumption|exact aa _) only[ah,ae,RZ,cd,cj,cr,ct,cz,cA,cB,cC,cD,cE,BT,d2]
    rw[eQ]
    try simp(disch:=first|omega|assumption|exact aa _) only[ah,ae,RZ,cd,cj,cr,ct,cz,cA,cB,cC,cD,cE,BU,d3]
    rw[eQ]
    try simp(disch:=first|omega|assumption|exact aa _) only[ah,ae,RZ,cd,cj,cr,ct,cz,cA,cB,cC,cD,cE,BV,d4]
    rw[eQ]
    try simp(disch:=first|omega|assumption|exact aa _) only[ah,ae,RZ,cd,cj,cr,ct,cz,cA,cB,cC,cD,cE]
    (try unfold tT);(try dsimp only)
    try simp(disch:=first|omega|assumption|exact aa _) only[ah,ae,RZ,cd,cj,cr,ct,cz,cA,cB,cC,cD,cE,c1,c2]
    all_goals (first|rfl|exact⟨rfl,rfl,rfl⟩|exact⟨rfl,rfl⟩)
   ·have d2:600<=z:=by omega
    by_cases c3:z<1200
    ·have d3:¬(1200<=z):=by omega
     have d4:¬(2400<=z):=by omega
     rw[eQ]
     try simp(disch:=first|omega|assumption|exact aa _) only[ah,ae,RZ,cd,cj,cr,ct,cz,cA,cB,cC,cD,cE,BR,d1]
     rw[eQ]
     try simp(disch:=first|omega|assumption|exact aa _) only[ah,ae,RZ,cd,cj,cr,ct,cz,cA,cB,cC,cD,cE,BT,d2]
     rw[eQ]
     try simp(disch:=first|omega|assumption|exact aa _) only[ah,ae,RZ,cd,cj,cr,ct,cz,cA,cB,cC,cD,cE,BU,d3]
     rw[eQ]
     try simp(disch:=first|omega|assumption|exact aa _) only[ah,ae,RZ,cd,cj,cr,ct,cz,cA,cB,cC,cD,cE,BV,d4]
     rw[eQ]
     try simp(disch:=first|omega|assumption|exact aa _) only[ah,ae,RZ,cd,cj,cr,ct,cz,cA,cB,cC,cD,cE]
     (try unfold tT);(try dsimp only)
     try simp(disch:=first|omega|assumption|exact aa _) only[ah,ae,RZ,cd,cj,cr,ct,cz,cA,cB,cC,cD,cE,c1,c2,c3]
     all_goals (first|rfl|exact⟨rfl,rfl,rfl⟩|exact⟨rfl,rfl⟩)
    ·have d3:1200<=z:=by omega
     by_cases c4:z<2400
     ·have d4:¬(2400<=z):=by omega
      rw[eQ]
      try simp(disch:=first|omega|assumption|exact aa _) only[ah,ae,RZ,cd,cj,cr,ct,cz,cA,cB,cC,cD,cE,BR,d1]
      rw[eQ]
      try simp(disch:=first|omega|assumption|exact aa _) only[ah,ae,RZ,cd,cj,cr,ct,cz,cA,cB,cC,cD,cE,BT,d2]
      rw[eQ]
      try simp(disch:=first|omega|assumption|exact aa _) only[ah,ae,RZ,cd,cj,cr,ct,cz,cA,cB,cC,cD,cE,BU,d3]
      rw[eQ]
      try simp(disch:=first|omega|assumption|exact aa _) only[ah,ae,RZ,cd,cj,cr,ct,cz,cA,cB,cC,cD,cE,BV,d4]
      rw[eQ]
      try simp(disch:=first|omega|assumption|exact aa _) only[ah,ae,RZ,cd,cj,cr,ct,cz,cA,cB,cC,cD,cE]
      (try unfold tT);(try dsimp only)
      try simp(disch:=first|omega|assumption|exact aa _) only[ah,ae,RZ,cd,cj,cr,ct,cz,cA,cB,cC,cD,cE,c1,c2,c3,c4]
      all_goals (first|rfl|exact⟨rfl,rfl,rfl⟩|exact⟨rfl,rfl⟩)
     ·have d4:2400<=z:=by omega
      rw[eQ]
      try simp(disch:=first|omega|assumption|exact aa _) only[ah,ae,RZ,cd,cj,cr,ct,cz,cA,cB,cC,cD,cE,BR,d1]
      rw[eQ]
      try simp(disch:=first|omega|assumption|exact aa _) only[ah,ae,RZ,cd,cj,cr,ct,cz,cA,cB,cC,cD,cE,BT,d2]
      rw[eQ]
      try simp(disch:=first|omega|assumption|exact aa _) only[ah,ae,RZ,cd,cj,cr,ct,cz,cA,cB,cC,cD,cE,BU,d3]
      rw[eQ]
      try simp(disch:=first|omega|assumption|exact aa _) only[ah,ae,RZ,cd,cj,cr,ct,cz,cA,cB,cC,cD,cE,BV,d4]
      rw[eQ]
      try simp(disch:=first|omega|assumption|exact aa _) only[ah,ae,RZ,cd,cj,cr,ct,cz,cA,cB,cC,cD,cE]
      (try unfold tT);(try dsimp only)
      try simp(disch:=first|omega|assumption|exact aa _) only[ah,ae,RZ,cd,cj,cr,ct,cz,cA,cB,cC,cD,cE,c1,c2,c3,c4]
      all_goals (first|rfl|exact⟨rfl,rfl,rfl⟩|exact⟨rfl,rfl⟩)
 exact go lf hf
include aA
theorem ajd(v:Value)(xs:List Int)(hR:Row h n 3 .i64 v xs)(hl:xs.length<=1000000):
 aj (fun _=>False) n (au ai gt lf (d+4) 99 #[v]) h n fun v' h' n'=>RR h' n' 22 3 v' (iG xs):=by
 rw[aQ (fun _=>UG) rfl]
 refine aj.aP ?_
 unfold E4
 have bg:=hR
 obtain⟨a,c,rfl⟩:=hR.len
 try simp(disch:=first|omega|assumption|exact aa _) only[ah,ae,RZ]
 refine bV (Gw lf (d+2) n h xs.length (by omega)) (av _) (fun _ _ h=>h.elim) ?_
 have Ma:cW xs.length<=1000000:=by unfold cW;omega
 refine ed (cW xs.length) (fun fu i (u:Value)=>wB lf (au ai gt lf (d+3)) fu (E3 lf (au ai gt lf (d+3))) _ _ u (.int .i64 (cW xs.length:Nat)) (.int .i64 (i:Nat))) (fun i u h' n'=>n<=n'∧(∀b,b<n->h'.get b=h.get b)∧fz h' n n' n' 22 3 u ((bL i).map (eB xs))) ?_ ?_ lf 0 _ h n (dx _) (by omega) ⟨av _,fun _ _=>rfl,fz.nil _ _ _ _ _ _⟩
 ·rintro fu u h' n' ⟨hn,hk,hO⟩
  rw[wB]
  try simp(disch:=first|omega|assumption|exact aa _) only[ah,ae,RZ,bH]
  (try unfold E3);(try dsimp only)
  try simp(disch:=first|omega|assumption|exact aa _) only[ah,ae,RZ]
  exact hO.rr
 ·rintro fu i u h' n' hi ⟨hn,hk,hO⟩ next
  have e1:((i:Nat):Int)<((cW xs.length:Nat):Int):=by omega
  rw[wB]
  try simp(disch:=first|omega|assumption|exact aa _) only[ah,ae,RZ,e1]
  refine bh aW (Zb lf d n' h' _ xs (bg.aB hn hk) hl i hi) hn (fun _ _ h=>h.elim) fun v1 h1 n1 bQ cM hq=> ?_
  obtain⟨g,rfl,hg⟩:=hq
  have qA:=(hO.aB bQ fun b hb _=>cM b hb id).up bQ
  try simp(disch:=first|omega|assumption|exact aa _) only[ah,ae,RZ,fk,ext1]
  refine Bw trivial (by decide) qA hg (av _) (by simp;omega) (av _) (by omega) _ fun v2 h2 o2 k2 _=> ?_
  try simp(disch:=first|omega|assumption|exact aa _) only[ah,ae,RZ]
  refine next v2 h2 (n1+2) ⟨by omega,fun b hb=> ?_, ?_⟩
  ·rw[k2 b (by omega) fun q=>by have:=(qA.lt q).1;omega,cM b (by omega) id]
   exact hk b hb
  ·rw[pQ,eK]
   exact o2.up (by omega)
theorem aje(v u:Value)(g:List Int)(T:List (List Int))(hR:Row h n 3 .i64 v g)(hT:RR h n 22 3 u T)(hl:g.length<=1000000)(zg:T.length<=1000)(y1:∀t∈T,t.length<=1000000∧dD 0 1099511627776 t=true∧dM t.length g=true):
 aj (fun _=>False) n (au ai gt lf (d+7) 125 #[v,u]) h n fun v' h' n'=>v'= .int .i64 (jD g T:Int)∧h'=h∧n'=n:=by
 rw[aQ (fun _=>VF) rfl]
 refine aj.aP ?_
 unfold Fo
 have ou:=hT
 obtain⟨a,c,rfl⟩:=hT.len
 try simp(disch:=first|omega|assumption|exact aa _) only[ah,ae,RZ]
 refine ed T.length (fun fu i (q:Nat×Int)=>tU lf (au ai gt lf (d+6)) fu (Fm lf (au ai gt lf (d+6))) _ _ _ (.int .i64 (q.1:Nat)) (.int .i64 q.2) _ (.int .i64 (T.length:Nat)) (.int .i64 (i:Nat))) (fun i q h' n'=>(h'=h∧n'=n)∧jD g T=my g (T.drop i) i q.1 q.2) ?_ ?_ lf 0 (0,1099511627776) h n (dx _) (by omega) ⟨⟨rfl,rfl⟩,rfl⟩
 ·rintro fu q h' n' ⟨⟨rfl,rfl⟩,hp⟩
  rw[tU]
  try simp(disch:=first|omega|assumption|exact aa _) only[ah,ae,RZ,bH]
  (try unfold Fm);(try dsimp only)
  try simp(disch:=first|omega|assumption|exact aa _) only[ah,ae,RZ]
  rw[oL]at hp
  rw[hp]
  all_goals (first|rfl|exact⟨rfl,rfl,rfl⟩|exact⟨rfl,rfl⟩)
 ·rintro fu i q h' n' hi ⟨⟨rfl,rfl⟩,hp⟩ next
  obtain⟨b,off,cap,o,cs,hv,hg,hb,bk⟩:=ou.at (by omega)
  cases hv
  obtain⟨x,hx,xq⟩:=bk i hi
  have e1:((i:Nat):Int)<((T.length:Nat):Int):=by omega
  rw[jW [] hi]at hp
  have hm:T.getD i []∈T:=by rw[aF,aM hi];exact cN hi
  obtain⟨m1,m2,m3⟩:=y1 _ hm
  rw[tU]
  try simp(disch:=first|omega|assumption|exact aa _) only[ah,ae,RZ,e1,hg,hx]
  refine bV (Za lf d _ h' aA v x g _ hR xq hl m1) (av _) (fun _ _ h=>h.elim) ?_
  rw[if_pos ⟨m2,m3⟩]
  unfold my at hp
  by_cases c1:gE g (T.getD i [])<q.2
  ·rw[if_pos c1]at hp
   try simp(disch:=first|omega|assumption|exact aa _) only[ah,ae,RZ,fk,ext1,c1]
   exact next (i,gE g (T.getD i [])) _ _ ⟨⟨rfl,rfl⟩,hp⟩
  ·rw[if_neg c1]at hp
   try simp(disch:=first|omega|assumption|exact aa _) only[ah,ae,RZ,fk,ext1,c1]
   exact next q _ _ ⟨⟨rfl,rfl⟩,hp⟩
theorem ajf(v u:Value)(g:List Int)(T:List (List Int))(hR:Row h n 3 .i64 v g)(hT:RR h n 22 3 u T)(h0:0<T.length)(hl:g.length<=1000000)(zg:T.length<=1000)(y1:∀t∈T,t.length<=1000000∧(∀y∈t,0<=y∧y<=1099511627776)∧dM t.length g=true):
 aj (fun _=>False) n (au ai gt lf (d+3) 81 #[v,u]) h n fun v' h' n'=>v'= .int .i64 (jD g T:Int)∧h'=h∧n'=n:=by
 rw[aQ (fun _=>afK) rfl]
 refine aj.aP ?_
 unfold KP
 have ou:=hT
 obtain⟨a,c,rfl⟩:=hT.len
 try simp(disch:=first|omega|assumption|exact aa _) only[ah,ae,RZ]
 have p0:jD g T=my g (T.drop 0) 0 0 (gE g (T.getD 0 [])):=by
  match T,h0 with
  |t::T,_=>
   rw[aiP]
   show _=my g (t::T) 0 0 (gE g t)
   simp only[my]
   rw[if_neg (bH _)]
 refine ed T.length (fun fu i (q:Nat)=>tL lf (au ai gt lf (d+2)) fu (EV lf (au ai gt lf (d+2))) _ _ _ (.int .i64 (q:Nat)) _ (.int .i64 (T.length:Nat)) (.int .i64 (i:Nat))) (fun i q h' n'=>(h'=h∧n'=n)∧q<T.length∧jD g T=my g (T.drop i) i q (gE g (T.getD q []))) ?_ ?_ lf 0 0 h n (dx _) (by omega) ⟨⟨rfl,rfl⟩,h0,p0⟩
 ·rintro fu q h' n' ⟨⟨rfl,rfl⟩,hq,hp⟩
  rw[tL]
  try simp(disch:=first|omega|assumption|exact aa _) only[ah,ae,RZ,bH]
  (try unfold EV);(try dsimp only)
  try simp(disch:=first|omega|assumption|exact aa _) only[ah,ae,RZ]
  rw[oL]at hp
  rw[hp]
  all_goals (first|rfl|exact⟨rfl,rfl,rfl⟩|exact⟨rfl,rfl⟩)
 ·rintro fu i q h' n' hi ⟨⟨rfl,rfl⟩,hq,hp⟩ next
  obtain⟨b,off,cap,o,cs,hv,hg,hb,bk⟩:=ou.at (by omega)
  cases hv
  obtain⟨x,hx,xq⟩:=bk i hi
  obtain⟨x2,bN,M6⟩:=bk q hq
  have e1:((i:Nat):Int)<((T.length:Nat):Int):=by omega
  have e2:((q:Nat):Int)<((T.length:Nat):Int):=by omega
  rw[jW [] hi]at hp
  have hm:∀j,j<T.length->T.getD j []∈T:=fun j hj=>by rw[aF,aM hj];exact cN hj
  obtain⟨m1,m2,m3⟩:=y1 _ (hm i hi)
  obtain⟨l1,l2,l3⟩:=y1 _ (hm q hq)
  rw[tL]
  try simp(disch:=first|omega|assumption|exact aa _) only[ah,ae,RZ,e1,hg,hx]
  refine F9 aW (Ze lf d _ h' aA v x g _ hR xq hl m1 m2 m3) (av _) fun T1 t1=> ?_
  try simp(disch:=first|omega|assumption|exact aa _) only[ah,ae,RZ,e2]
  refine ahC trivial _ _ _ hg hb bN fun T2 t2=> ?_
  try simp(disch:=first|omega|assumption|exact aa _) only[ah,ae,RZ]
  refine F9 aW (Ze lf d _ h' aA v x2 g _ hR M6 hl l1 l2 l3) (av _) fun T3 t3=> ?_
  try simp(disch:=first|omega|assumption|exact aa _) only[ah,ae,RZ,t1.iQ t2,Bool.not_false,tw,zN]
  unfold my at hp
  by_cases c1:gE g (T.getD i [])<gE g (T.getD q [])
  ·rw[if_pos c1]at hp
   try simp(disch:=first|omega|assumption|exact aa _) only[ah,ae,RZ,c1]
   exact next i _ _ ⟨⟨rfl,rfl⟩,hi,hp⟩
  ·rw[if_neg c1]at hp
   try simp(disch:=first|omega|assumption|exact aa _) only[ah,ae,RZ,c1]
   exact next q _ _ ⟨⟨rfl,rfl⟩,hq,hp⟩
end
def ug(xs:List Int)(i:Nat):List Int:=if i<xs.length then(xs.drop (50*(i/50))).take (i %50)else []
def uh(xs:List Int)(i:Nat):List (List Int):=(bL (if i<xs.length then i/50 else cW xs.length)).map (eB xs)
theorem ajg{xs:List Int}{i:Nat}(h:i<xs.length):(xs.drop (50*(i/50))).take (i %50)++[xs.getD i 0]=(xs.drop (50*(i/50))).take (i %50+1):=by
 rw[jI (by simp;omega),List.getElem_drop,aF,aM h]
 congr 2
 show xs[i]=_
 congr 1
 omega
theorem ajh{xs:List Int}{i:Nat}(h:i<xs.length)(h2:i %50+1=50∨i+1=xs.length):(xs.drop (50*(i/50))).take (i %50+1)=eB xs (i/50):=by
 unfold eB
 rcases h2 with h2|h2
 ·rw[h2]
 ·rw[hH (by simp;omega),hH (by simp;omega)]
section
variable (lf d n:Nat) (h:H) (aA:3000000<=lf)
include aA
theorem aji(v:Value)(xs:List Int)(hR:Row h n 3 .i64 v xs)(hl:xs.length<=1000000):
 aj (fun _=>False) n (au ai gt lf (d+1) 80 #[v]) h n fun v' h' n'=>RR h' n' 22 3 v' (iG xs):=by
 rw[aQ (fun _=>afI) rfl]
 refine aj.aP ?_
 unfold KO
 have bg:=hR
 obtain⟨a,c,rfl⟩:=hR.len
 try simp(disch:=first|omega|assumption|exact aa _) only[ah,ae,RZ]
 refine ed xs.length (fun fu i (q:Value×Value)=>qm lf (au ai gt lf d) fu (AY lf (au ai gt lf d)) (.slice a xs.length c) (.slice none 0 0) q.1 q.2 (.slice a xs.length c) (.int .i64 (xs.length:Nat)) (.int .i64 (i:Nat)))
  (fun i q h' n'=>n<=n'∧(∀b,b<n->h'.get b=h.get b)∧∃lo,n<=lo∧lo<=n'∧fz h' n lo n' 22 3 q.1 (uh xs i)∧Own h' lo n' 3 q.2 (aJ .i64 (ug xs i))) ?_ ?_ lf 0 (.slice none 0 0,.slice none 0 0) h n (dx _) (by omega) ⟨av _,fun _ _=>rfl,n,av _,av _, ?_, ?_⟩
 ·rintro fu ⟨u,w⟩ h' n' ⟨hn,hk,lo,l1,l2,hO,hN⟩
  rw[qm]
  try simp(disch:=first|omega|assumption|exact aa _) only[ah,ae,RZ,bH]
  (try unfold AY);(try dsimp only)
  try simp(disch:=first|omega|assumption|exact aa _) only[ah,ae,RZ]
  have:=hO.rr
  unfold uh at this
  rw[if_neg (zS _)]at this
  exact this
 ·rintro fu i ⟨u,w⟩ h' n' hi ⟨hn,hk,lo,l1,l2,hO,hN⟩ next
  simp only at hO hN
  have dH:=bg.aB hn hk
  obtain⟨b,off,cap,o,cs,hv,hg,hb,_,_,_,bk⟩:=dH.some (by omega)
  cases hv
  have e1:((i:Nat):Int)<((xs.length:Nat):Int):=by omega
  have c1:=bk i hi
  have gn:ug xs i=(xs.drop (50*(i/50))).take (i %50):=by unfold ug;rw[if_pos hi]
  have go:uh xs i=(bL (i/50)).map (eB xs):=by unfold uh;rw[if_pos hi]
  have gl:((xs.drop (50*(i/50))).take (i %50)).length=i %50:=by simp;omega
  rw[gn]at hN
  rw[go]at hO
  rw[qm]
  try simp(disch:=first|omega|assumption|exact aa _) only[ah,ae,RZ,e1,hg,c1]
  refine m4 trivial (ky _ _) hN (by rw[cT,gl];omega) l1 _ fun h2 g2 k2=> ?_
  have g3:h2.get (n'+1)=some ⟨3,true,aJ .i64 ((xs.drop (50*(i/50))).take (i %50+1))⟩:=by
   rw[g2,<-ajg hi]
   unfold aJ
   rw[eK]
   rfl
  have gl2:((xs.drop (50*(i/50))).take (i %50+1)).length=i %50+1:=by simp;omega
  obtain⟨w2,hZ⟩:∃w2:Value,Value.slice (some ⟨n'+1,0,none⟩) ((aJ .i64 ((xs.drop (50*(i/50))).take (i %50))).length+1) (bc+((aJ .i64 ((xs.drop (50*(i/50))).take (i %50))).length+1))=w2:=⟨_,rfl⟩
  have o2:Own h2 n' (n'+2) 3 w2 (aJ .i64 ((xs.drop (50*(i/50))).take (i %50+1))):=by
   rw[<-hZ]
   exact Own.mk' g3 (by omega) (by omega) (by rw[cT,cT,gl,gl2])
  have hlen:(aJ .i64 ((xs.drop (50*(i/50))).take (i %50))).length=i %50:=by rw[cT,gl]
  rw[hlen]at hZ⊢
  have kB:fz h2 n n' (n'+2) 22 3 u ((bL (i/50)).map (eB xs)):=(hO.aB (by omega) fun c hc q=>k2 c hc fun r=>by
   rcases q with q|q
   ·have:=(hN.lt r).1;omega
   ·obtain⟨B,x1,x2⟩:=hO.elem q
    obtain⟨B',x3,x4⟩:=hN.elem r
    rw[x1]at x3;cases x3
    rw[x2]at x4;exact absurd x4 (by decide)).up l2
  have bq:∀c,c<n->h2.get c=h.get c:=fun c hc=>by rw[k2 c (by omega) fun r=>by have:=(hN.lt r).1;omega];exact hk c hc
  have e0:((i %50:Nat):Int)+1=((i %50+1:Nat):Int):=by omega
  have flush:(i %50+1=50∨i+1=xs.length)->aj (fun _=>False) n (cZ 22 1 w2 fun z=>cO 22 1 u z fun z2=>qm lf (au ai gt lf d) fu (AY lf (au ai gt lf d)) (.slice (some ⟨b,off,none⟩) xs.length c) (.slice none 0 0) z2 (.slice none 0 0) (.slice (some ⟨b,off,none⟩) xs.length c) (.int .i64 (xs.length:Nat)) (.int .i64 ((i+1:Nat):Int))) h2 (n'+2) fun v' h' n'=>RR h' n' 22 3 v' (iG xs):=by
   intro hf
   have hr:=o2.row
   rw[ajh hi hf]at hr
   refine Bw trivial (by decide) kB hr (by omega) (by simp;omega) (av _) (by omega) _ fun v2 h3 o3 k3 _=> ?_
   refine next (v2,.slice none 0 0) h3 (n'+2+2) ⟨by omega,fun c hc=> ?_,n'+2,by omega,by omega, ?_, ?_⟩
   ·rw[k3 c (by omega) fun r=>by have:=(kB.lt r).1;omega]
    exact bq c hc
   ·have:uh xs (i+1)=(bL (i/50)).map (eB xs)++[eB xs (i/50)]:=by
     have:(if i+1<xs.length then(i+1)/50 else cW xs.length)=i/50+1:=by unfold cW;split<;>omega
     unfold uh
     rw[this,pQ,eK]
     rfl
    rw[this]
    exact o3
   ·have:ug xs (i+1)=[]:=by
     unfold ug
     split
     ·rw[show(i+1)%50=0 by omega,qL]
     ·rfl
    rw[this]
    exact Own.nil _ _ _ _
  have e4:((i:Nat):Int)+1=((i+1:Nat):Int):=by omega
  by_cases f1:i %50+1=50
  ·have z1:(((i %50:Nat):Int)+1==50)=true:=by rw[e0,f1];rfl
   have GD:(((i %50+1:Nat):Int)==50)=true:=by rw[f1];rfl
   rw[<-hZ]at flush
   try simp(disch:=first|omega|assumption|exact aa _) only[ah,ae,RZ,z1,GD]
   exact flush (.inl f1)
  ·have z1:(((i %50:Nat):Int)+1==50)=false:=by rw[e0];exact beq_eq_false_iff_ne.2 (by omega)
   have GD:(((i %50+1:Nat):Int)==50)=false:=beq_eq_false_iff_ne.2 (by omega)
   by_cases f2:i+1=xs.length
   ·have z2:(((i:Nat):Int)+1==((xs.length:Nat):Int))=true:=by rw[e4,f2];simp
    rw[<-hZ]at flush
    try simp(disch:=first|omega|assumption|exact aa _) only[ah,ae,RZ,z1,GD,z2]
    exact flush (.inr f2)
   ·have z2:(((i:Nat):Int)+1==((xs.length:Nat):Int))=false:=by rw[e4];exact beq_eq_false_iff_ne.2 (by omega)
    have hd:(i+1)/50=i/50:=by omega
    have hm:(i+1)%50=i %50+1:=by omega
    try simp(disch:=first|omega|assumption|exact aa _) only[ah,ae,RZ,z1,GD,z2]
    refine next (u,.slice (some ⟨n'+1,0,none⟩) (i %50+1) (bc+(i %50+1))) h2 (n'+2) ⟨by omega,bq,n',by omega,by omega, ?_, ?_⟩
    ·unfold uh
     rw[if_pos (by omega),hd]
     exact kB
    ·unfold ug
     rw[if_pos (by omega),hd,hm,hZ]
     exact o2
 ·unfold uh
  by_cases q:0<xs.length
  ·rw[if_pos q];exact fz.nil _ _ _ _ _ _
  ·have:xs.length=0:=by omega
   rw[if_neg q,this];exact fz.nil _ _ _ _ _ _
 ·have:ug xs 0=[]:=by unfold ug;split<;>simp
  rw[this]
  exact Own.nil _ _ _ _
end
theorem M7{α:Type}(d:α)(f:Nat->α){N i:Nat}(h:i<N):((bL N).map f).getD i d=f i:=by
 rw[aF,j4,Hs h]
 rfl
def mz(counts:List Int)(z:Int)(p v:Nat):List Int:=(bL counts.length).map fun u=>if u<v then(if fB counts z u=p then 0 else 15)else 0
theorem GF(counts:List Int)(z:Int)(p v:Nat):(mz counts z p v).length=counts.length:=by unfold mz;simp
theorem ajj(counts:List Int)(z:Int)(p:Nat):mz counts z p 0=bI counts.length 0:=by
 apply mI
 ·simp[GF]
 ·intro i h1 h2;simp[mz]
theorem ajk(counts:List Int)(z:Int)(p:Nat):mz counts z p counts.length=lg counts z p:=by
 unfold mz lg
 apply r8
 intro u hu
 rw[if_pos (List.mem_range.1 hu)]
theorem ajl{counts:List Int}{z:Int}{p v:Nat}(hm:fB counts z v=p):mz counts z p (v+1)=mz counts z p v:=by
 unfold mz
 apply r8
 intro u hu
 by_cases c:u<v
 ·rw[if_pos c,if_pos (show u<v+1 by omega)]
 ·by_cases c2:u=v
  ·subst c2
   rw[if_pos (show u<u+1 by omega),if_pos hm,if_neg (zS u)]
  ·rw[if_neg c,if_neg (show¬u<v+1 by omega)]
theorem ajm{counts:List Int}{z:Int}{p v:Nat}(hv:v<counts.length)(hm:fB counts z v≠p):(mz counts z p v).set v 15=mz counts z p (v+1):=by
 apply mI
 ·simp[GF]
 ·intro i h1 h2
  rw[List.getElem_set]
  simp only[mz,oM,zR]
  by_cases c:v=i
  ·subst c;rw[if_pos rfl,if_pos (show v<v+1 by omega),if_neg hm]
  ·rw[if_neg c]
   by_cases c2:i<v
   ·rw[if_pos c2,if_pos (show i<v+1 by omega)]
   ·rw[if_neg c2,if_neg (show¬i<v+1 by omega)]
section
variable (lf d n:Nat) (h:H) (aA:3000000<=lf)
include aA
theorem ajn(v:Value)(xs:List Int)(z:Int)(g:Gd h n)(hR:Row h n 3 .i64 v xs)(hl:xs.length<=258)(hx:∀x∈xs,0<=x∧x<=1099511627776)(hz:1<=z)(lX:z<=1099511627776):
 aj (fun _=>False) n (au ai gt lf (d+2) 100 #[v,.int .i64 z]) h n fun v' h' n'=>RR h' n' 22 3 v' (lK xs z):=by
 rw[aQ (fun _=>UN) rfl]
 refine aj.aP ?_
 unfold E6
 have bg:=hR
 obtain⟨a,c,rfl⟩:=hR.len
 refine bV (ajc lf d n h z g (by omega)) (av _) (fun _ _ h=>h.elim) ?_
 have ht:=BM z
 obtain⟨t,nq⟩:∃t,j1 z=t:=⟨_,rfl⟩
 rw[nq]at ht⊢
 refine Ev.run_make trivial t t _ (av _) (by omega) ?_
 try simp(disch:=first|omega|assumption|exact aa _) only[ah,ae,RZ]
 let j2:Nat->Value:=fun j=> .slice (some ⟨n+1+j,0,none⟩) xs.length xs.length
 refine ed t (fun fu i (_:Unit)=>wC lf (au ai gt lf (d+1)) fu (A3 lf (au ai gt lf (d+1))) (.slice a xs.length c) (.int .i64 z) (.slice none 0 0) (.int .i64 (t:Nat)) (.slice (some ⟨n,0,none⟩) t t) (.int .i64 (t:Nat)) (.int .i64 (i:Nat)))
  (fun i _ h' n'=>n'=n+1+i∧(∀b,b<n->h'.get b=h.get b)∧h'.get n=some ⟨22,true,rc j2 (.slice none 0 0) t i⟩∧∀j,j<i->h'.get (n+1+j)=some ⟨3,true,aJ .i64 (bI xs.length 0)⟩) ?_ ?_ lf 0 () _ _ (dx _) (by omega) ⟨rfl,fun b hb=>aK _ _ (by omega),by rw[get_eq,XR],fun j hj=>absurd hj (zQ j)⟩
 ·rintro fu _ h' n' ⟨rfl,hk,hg,hj⟩
  rw[wC]
  try simp(disch:=first|omega|assumption|exact aa _) only[ah,ae,RZ,bH]
  (try unfold A3);(try dsimp only)
  try simp(disch:=first|omega|assumption|exact aa _) only[ah,ae,RZ]
  rw[XS]at hg
  refine ed xs.length (fun fu i (q:Int)=>tO lf (au ai gt lf (d+1)) fu (A2 lf (au ai gt lf (d+1))) (.slice a xs.length c) (.int .i64 z) (.slice none 0 0) (.int .i64 (t:Nat)) (.slice (some ⟨n,0,none⟩) t t) (.int .i64 q) _ _ _ (.slice a xs.length c) (.int .i64 (xs.length:Nat)) (.int .i64 (i:Nat)))
   (fun i q h' n'=>q=eD xs z i∧n'=n+1+t∧(∀b,b<n->h'.get b=h.get b)∧h'.get n=some ⟨22,true,(bL t).map j2⟩∧∀j,j<t->h'.get (n+1+j)=some ⟨3,true,aJ .i64 (mz xs z j i)⟩) ?_ ?_ lf 0 0 _ _ (dx _) (by omega) ⟨by unfold eD;simp only[qL,bp];rw[if_neg (by omega)],rfl,hk,hg,fun j gQ=>by rw[ajj];exact hj j gQ⟩
  ·rintro fu q h' n' ⟨rfl,rfl,hk,hg,hj⟩
   rw[tO]
   try simp(disch:=first|omega|assumption|exact aa _) only[ah,ae,RZ,bH]
   (try unfold A2);(try unfold ant);(try dsimp only)
   try simp(disch:=first|omega|assumption|exact aa _) only[ah,ae,RZ]
   have cl:((bL t).map j2).length=t:=by simp
   refine⟨(bL t).map j2,.inr ⟨n,0,t,true,_,by rw[cl],hg,by omega,by rw[cl];omega,by rw[eJ,j7],by rw[cl];exact av _⟩,by rw[cl,MW,nq],fun j GG=> ?_⟩
   rw[MW,nq]at GG
   unfold lK
   rw[nq,M7 _ _ GG,M7 _ _ GG,<-ajk]
   exact Row.BO (hj j GG) (by omega) (GF _ _ _ _)
  ·rintro fu i q h' n' hi ⟨rfl,rfl,hk,hg,hj⟩ next
   obtain⟨b,off,cap,o,cs,hv,jb,hb,_,_,_,bk⟩:=(bg.aB (av n) hk).some (by omega)
   cases hv
   have ig:b<n+1+t:=by omega
   have e1:((i:Nat):Int)<((xs.length:Nat):Int):=by omega
   have c1:=bk i hi
   obtain⟨g0,g1⟩:=MV (fun x lL=>(hx x lL).1) hz (v:=i)
   have g2:=Y8 (fun x lL=>(hx x lL).1) hz i
   rw[nq]at g2
   have g4:0<=eD xs z i*(t:Int):=abd g0 (by omega)
   have g5:eD xs z i*(t:Int)<=1099511627776*6:=Int.mul_le_mul (by omega) (by omega) (by omega) (by omega)
   have w1:IntKind.i64.wrap (eD xs z i*(t:Int))=eD xs z i*(t:Int):=bB (by omega) (by omega)
   have g6:(fB xs z i:Int)<=1099511627776*6:=by
    have:=Int.ediv_le_self z g4
    have h2:(eD xs z i*(t:Int))/z=(fB xs z i:Int):=by rw[<-g2,Int.tdiv_eq_ediv_of_nonneg g4]
    omega
   have w2:IntKind.i64.wrap (fB xs z i:Int)=(fB xs z i:Int):=bB (by omega) (by omega)
   have z0:z≠0:=by omega
   have xb:=hx _ (ze hi)
   have w3:IntKind.i64.wrap (eD xs z i+xs.getD i 0)=eD xs z i+xs.getD i 0:=bB (by omega) (by omega)
   have w4:IntKind.i64.wrap (z-1)=z-1:=bB (by omega) (by omega)
   have bn:=Y7 (fun x lL=>(hx x lL).1) (n:=z) hi
   rw[tO]
   try simp(disch:=first|omega|assumption|exact aa _) only[ah,ae,RZ,e1,jb,c1,w1,z0,g2,w2]
   refine ed t (fun f2 p (_:Unit)=>tN lf (au ai gt lf (d+1)) f2 (UJ lf (au ai gt lf (d+1)) fu (A2 lf (au ai gt lf (d+1)))) (.slice (some ⟨b,off,none⟩) xs.length c) (.int .i64 z) (.slice none 0 0) (.int .i64 (t:Nat)) (.slice (some ⟨n,0,none⟩) t t) (.int .i64 (eD xs z i)) (.int .i64 (i:Nat)) (.int .i64 (xs.getD i 0)) (.int .i64 (fB xs z i:Nat)) _ _ _ _ _ (.int .i64 (i:Nat)) _ (.int .i64 (t:Nat)) (.int .i64 (p:Nat)))
    (fun p _ h' n'=>n'=n+1+t∧(∀b,b<n->h'.get b=h.get b)∧h'.get n=some ⟨22,true,(bL t).map j2⟩∧∀j,j<t->h'.get (n+1+j)=some ⟨3,true,aJ .i64 (mz xs z j (if j<p then i+1 else i))⟩) ?_ ?_ lf 0 () _ _ (dx _) (by omega) ⟨rfl,hk,hg,fun j gQ=>by rw[if_neg (zQ j)];exact hj j gQ⟩
   ·rintro f2 _ h2 n2 ⟨rfl,bq,dy,gQ⟩
    rw[tN]
    try simp(disch:=first|omega|assumption|exact aa _) only[ah,ae,RZ,bH]
    (try unfold UJ);(try unfold E5);(try dsimp only)
    try simp(disch:=first|omega|assumption|exact aa _) only[ah,ae,RZ,w3,w4,bn]
    exact next _ _ _ ⟨rfl,rfl,bq,dy,fun j ui=>by have:=gQ j ui;rwa[if_pos ui]at this⟩
   ·rintro f2 p _ h2 n2 hp ⟨rfl,bq,dy,gQ⟩ lI
    have e2:((p:Nat):Int)<((t:Nat):Int):=by omega
    have sR:=gQ p hp
    rw[if_neg (zS p)]at sR
    rw[tN]
    by_cases m:fB xs z i=p
    ·have n1:((p:Int) !=(fB xs z i:Int))=false:=by rw[m];simp
     try simp(disch:=first|omega|assumption|exact aa _) only[ah,ae,RZ,e2,n1]
     refine lI () _ _ ⟨rfl,bq,dy,fun j ui=> ?_⟩
     by_cases q:j=p
     ·subst q
      rw[if_pos (by omega),ajl m]
      exact sR
     ·have:=gQ j ui
      by_cases q2:j<p
      ·rw[if_pos q2]at this;rw[if_pos (by omega)];exact this
      ·rw[if_neg q2]at this;rw[if_neg (by omega)];exact this
    ·have n1:((p:Int) !=(fB xs z i:Int))=true:=bne_iff_ne.2 fun e=>m (by omega)
     have c2:((bL t).map j2)[p]? =some (j2 p):=by rw[j4,Hs hp];rfl
     have BW:j2 p= .slice (some ⟨n+1+p,0,none⟩) xs.length xs.length:=rfl
     have gJ:n+1+p<n+1+t:=by omega
     have pD:n<n+1+t:=by omega
     try simp(disch:=first|omega|assumption|exact aa _) only[ah,ae,RZ,e2,n1,dy,c2,BW,e1,sR,M4,ajm hi m,cT,GF]
     refine⟨hi,.inl (by omega), ?_⟩
     refine lI () _ _ ⟨rfl,fun b hb=>by rw[aK _ _ (by omega)];exact bq b hb,by rw[aK _ _ (by omega)];exact dy,fun j ui=> ?_⟩
     by_cases q:j=p
     ·subst q
      rw[if_pos (by omega),get_eq]
     ·rw[aK _ _ (by omega)]
      have:=gQ j ui
      by_cases q2:j<p
      ·rw[if_pos q2]at this;rw[if_pos (by omega)];exact this
      ·rw[if_neg q2]at this;rw[if_neg (by omega)];exact this
 ·rintro fu i _ h' n' hi ⟨rfl,hk,hg,hj⟩ next
  have e2:((i:Nat):Int)<((t:Nat):Int):=by omega
  rw[wC]
  try simp(disch:=first|omega|assumption|exact aa _) only[ah,ae,RZ,e2]
  refine Ev.run_make trivial xs.length xs.length _ (av _) (by omega) ?_
  have dy:(h'.set (n+1+i) (some ⟨3,true,bI xs.length (.int .i64 0)⟩)).get n=some ⟨22,true,rc j2 (.slice none 0 0) t i⟩:=by rw[aK _ _ (by omega)];exact hg
  have pD:n<n+1+i+1:=by omega
  have rs:=XU (f:=j2) (z:= .slice none 0 0) hi
  have BW:j2 i= .slice (some ⟨n+1+i,0,none⟩) xs.length xs.length:=rfl
  rw[BW]at rs
  try simp(disch:=first|omega|assumption|exact aa _) only[ah,ae,RZ,e2,dy,rs,Mk]
  refine⟨hi,.inl (by omega), ?_⟩
  refine next () _ _ ⟨by omega,fun b hb=>by rw[aK _ _ (by omega),aK _ _ (by omega)];exact hk b hb,get_eq _ _ _,fun j ui=> ?_⟩
  rw[aK _ _ (by omega)]
  by_cases q:j=i
  ·subst q
   rw[get_eq,Gv]
  ·rw[aK _ _ (by omega)]
   exact hj j (by omega)
end
end Go.Proofs.YtdagfcflbphoiaaGreatDoor
namespace Go.Proofs.YtdagfcflbphoiaaGreatDoor
open Go.RowKit Ev Hu
inductive j3:Nat->List Int->List Int->Prop
 |stop (w:List Int) (hW:Ws w) (so:jZ w (oy w)) (h:mu (iD w) 0<=20):j3 0 w (iD w)
 |next {k:Nat} {w l:List Int} (hW:Ws w) (so:jZ w (oy w)) (h:¬mu (iD w) 0<=20) (r:j3 k (gC w) l):j3 (k+1) w l
theorem j3.out{k:Nat}{w l:List Int}(r:j3 k w l):∃w',Ws w'∧jZ w' (oy w')∧mu (iD w') 0<=20∧l=iD w'∧w'.length=w.length:=by
 induction r with
 |stop w hW so h=>exact⟨w,hW,so,h,rfl,rfl⟩
 |next hW so h r ih=>
  obtain⟨w',h1,h2,h3,h4,h5⟩:=ih
  exact⟨w',h1,h2,h3,h4,by rw[h5,nj]⟩
structure Wb (ws:List Int) (c:Int):Prop where
 l2:2<=ws.length
 l3:ws.length<=258
 lo:∀x∈ws,1<=x
 hi:∀x∈ws,x<=c
theorem Wb.ws{ws:List Int}{c:Int}(h:Wb ws c)(hc:c<=2199023255552):Ws ws:=⟨h.l2,h.l3,fun x hx=>by have:=h.lo x hx;omega,fun x hx=>by have:=h.hi x hx;omega⟩
theorem Wb.ajo{ws:List Int}{c:Int}(h:Wb ws c)(hc:c<=2199023255552):Wb (gC ws) (c/2+1):=by
 refine⟨by rw[nj];exact h.l2,by rw[nj];exact h.l3,fun x hx=> ?_,fun x hx=> ?_⟩
 all_goals
  unfold gC at hx
  rw[Ht]at hx
  obtain⟨y,hy,rfl⟩:=hx
  have h1:=h.lo y hy
  have h2:=h.hi y hy
  have hb:=Yt y (by omega)
  have:=hb.2.2 (by omega)
  omega
def cap(k:Nat):Int:=2^k+2
theorem ajp(k:Nat):cap (k+1)/2+1<=cap k:=by
 unfold cap
 rw[Int.pow_succ]
 omega
theorem Zq{k:Nat}(h:k<=40):cap k<=2199023255552:=by
 unfold cap
 have h1:(2:Nat)^k<=2^40:=Nat.pow_le_pow_right (by omega) h
 have e:((2:Int)^k)=(((2:Nat)^k:Nat):Int):=by simp
 rw[e]
 generalize (2:Nat)^k=z at h1
 omega
theorem Wb.short{ws:List Int}(h:Wb ws 3)(so:jZ ws (oy ws)):mu (iD ws) 0<=20:=by
 obtain⟨w,I,A,B,X,R,dep,D⟩:=(h.ws (by omega)).Gh so
 have hN:=h.l2
 have M8:=h.l3
 have M9:=D.m.root
 have yS:bp ((bL ws.length).map w)<=((bL ws.length).map w).length*3:=My 3 _ (fun x hx=>by
  rw[Ht]at hx
  obtain⟨i,hi,rfl⟩:=hx
  have hi:=List.mem_range.1 hi
  rw[D.ww i hi]
  exact h.hi _ (Gi hi))
 rw[dE,Hr]at yS
 rw[Bt]
 refine⟨by omega, ?_⟩
 unfold iD
 rw[D.mem]
 intro i hi
 have:=D.m.short D.d0 D.d1 hi (by rw[D.ww i hi];exact h.lo _ (Gi hi)) (by omega)
 omega
theorem ofB(lf d:Nat)(aA:3000000<=lf)(hd:300<=d)(x0 x2 oz x24 x25 x26 x27:Value){W:Nat->Prop}{n0:Nat}:
 ∀(m fu:Nat) (w:List Int) (h:H) (n:Nat) (x4:Value),m<fu->m<=40->Wb w (cap m)->n0<=n->Row h n 3 .i64 x4 w->
  aj W n0 (wN lf (au ai gt lf d) fu (Bb lf (au ai gt lf d)) x0 x2 (.int .i64 0) x4 oz x24 x25 x26 x27) h n fun v' h' n'=>∃v1 l r,v'= .tuple #[v1,.int .i64 0]∧j3 r w l∧r<=m∧Row h' n' 3 .i64 v1 l:=by
 intro m
 induction m with
 |zero=>
  intro fu w h n x4 bM hm hw hn hR
  obtain⟨fu,rfl⟩:∃f,fu=f+1:=⟨fu-1,by omega⟩
  obtain⟨e,rfl⟩:∃e,d=e+1:=⟨d-1,by omega⟩
  rw[wN]
  have hW:=hw.ws (Zq hm)
  refine bh aW (Ys lf (e+1) n h x4 w hR hW aA hd) hn (fun _ _ h=>h.elim) fun v1 h1 n1 bQ cM hq=> ?_
  obtain⟨so,xr,_⟩:=hq
  have fN:=hW.l2
  have uc:=hW.l3
  have dl:=BF (ws:=w) (by omega)
  refine bV (XL lf e n1 h1 v1 _ xr (by omega) aA) (by omega) (fun _ _ h=>h.elim) ?_
  have hs:=Wb.short hw so
  try simp(disch:=first|omega|assumption|exact aa _) only[ah,ae,RZ,hs]
  refine bh aW (Br lf e n1 h1 v1 _ xr (by omega) (by omega)) (by omega) (fun _ _ h=>h.elim) fun v3 h3 n3 fy dU q3=> ?_
  (try unfold Bb);(try unfold ajq);(try dsimp only)
  rw[yw]
  exact⟨v3,_,0,rfl,.stop w hW so hs,av _,q3.2.1⟩
 |succ m ih=>
  intro fu w h n x4 bM hm hw hn hR
  obtain⟨fu,rfl⟩:∃f,fu=f+1:=⟨fu-1,by omega⟩
  obtain⟨e,rfl⟩:∃e,d=e+1:=⟨d-1,by omega⟩
  rw[wN]
  have hc:=Zq hm
  have hW:=hw.ws hc
  refine bh aW (Ys lf (e+1) n h x4 w hR hW aA hd) hn (fun _ _ h=>h.elim) fun v1 h1 n1 bQ cM hq=> ?_
  obtain⟨so,xr,_⟩:=hq
  have fN:=hW.l2
  have uc:=hW.l3
  have dl:=BF (ws:=w) (by omega)
  refine bV (XL lf e n1 h1 v1 _ xr (by omega) aA) (by omega) (fun _ _ h=>h.elim) ?_
  by_cases hs:mu (iD w) 0<=20
  ·try simp(disch:=first|omega|assumption|exact aa _) only[ah,ae,RZ,hs]
   refine bh aW (Br lf e n1 h1 v1 _ xr (by omega) (by omega)) (by omega) (fun _ _ h=>h.elim) fun v3 h3 n3 fy dU q3=> ?_
   (try unfold Bb);(try unfold ajq);(try dsimp only)
   rw[yw]
   exact⟨v3,_,0,rfl,.stop w hW so hs,dx _,q3.2.1⟩
  ·try simp(disch:=first|omega|assumption|exact aa _) only[ah,ae,RZ,hs]
   have dH:=hR.aB bQ (fun b hb=>cM b hb id)
   refine bh aW (ah7 lf e n1 h1 x4 w dH (by omega) (fun x hx=>by have:=hW.hi x hx;omega) aA) (by omega) (fun _ _ h=>h.elim) fun v3 h3 n3 fy dU q3=> ?_
   have hZ:=hw.ajo hc
   have hw3:Wb (gC w) (cap m):=⟨hZ.l2,hZ.l3,hZ.lo,fun x hx=>by have:=hZ.hi x hx;have:=ajp m;omega⟩
   refine(ih fu (gC w) h3 n3 v3 (by omega) (by omega) hw3 (by omega) q3.1).mono ?_
   rintro v' h' n' _ ⟨v4,l,r,rfl,hr,hle,eo⟩
   exact⟨v4,l,r+1,rfl,.next hW so hs hr,by omega,eo⟩
def uj(x:Int):Int:=if x<1 then 1 else x
def fR(xs:List Int):List Int:=xs.map uj
theorem nu(xs:List Int):(fR xs).length=xs.length:=by unfold fR;simp
theorem Zr{xs:List Int}{i:Nat}(h:i<xs.length):(fR xs).getD i 0=uj (xs.getD i 0):=by
 unfold fR
 rw[aF,j4,aM h,aF,aM h]
 rfl
theorem ajr{xs:List Int}(h2:2<=xs.length)(h3:xs.length<=258)(h:∀x∈xs,0<=x∧x<=1099511627776):Wb (fR xs) (cap 40):=by
 refine⟨by rw[nu];exact h2,by rw[nu];exact h3,fun x hx=> ?_,fun x hx=> ?_⟩
 all_goals
  unfold fR at hx
  rw[Ht]at hx
  obtain⟨y,hy,rfl⟩:=hx
  have:=h y hy
  unfold uj
 ·split<;>omega
 ·have:cap 40=1099511627778:=rfl
  split<;>omega
theorem ofA (lf d n:Nat) (h:H) (v:Value) (xs:List Int) (hR:Row h n 3 .i64 v xs) (hl:xs.length<=1000000) (x2 x3 oz:Value) (c:Nat) (hc:xs.length<=c) {W:Nat->Prop} {n0:Nat} (dF:n0<=n) {Q:Value->H->Nat->Prop} (k:(Value->Value->Value->Value->Value->Value->Value->Value->Value->M Value))
 (hK:∀h1 Zs,Row h1 (n+1) 3 .i64 (.slice (some ⟨n,0,none⟩) xs.length c) (fR xs)->aj W n0 (k v x2 x3 (.slice (some ⟨n,0,none⟩) xs.length c) oz v (.int .i64 (xs.length:Nat)) (.int .i64 (xs.length:Nat)) Zs) h1 (n+1) Q):
 ∀(m i fu:Nat) (h1:H),xs.length-i=m->m<fu->i<=xs.length->(∀b,b<n->h1.get b=h.get b)->h1.get n=some ⟨3,true,ints (part (fR xs) i)⟩->
  aj W n0 (wM lf (au ai gt lf d) fu k v x2 x3 (.slice (some ⟨n,0,none⟩) xs.length c) oz v (.int .i64 (xs.length:Nat)) (.int .i64 (i:Nat))) h1 (n+1) Q:=by
 intro m
 induction m with
 |zero=>
  intro i fu h1 hm bM hi hk lH
  obtain⟨fu,rfl⟩:∃f,fu=f+1:=⟨fu-1,by omega⟩
  obtain rfl:i=xs.length:=by omega
  rw[wM]
  try simp(disch:=first|omega|assumption|exact aa _) only[ah,ae,RZ,bH]
  rw[<-nu xs,MB]at lH
  refine hK h1 _ (.inr ⟨n,0,c,true,_,by rw[nu],lH,fp n,by rw[jT];omega, ?_,by rw[nu];exact hc⟩)
  rw[eJ,hH (by rw[jT];exact av _)]
  rfl
 |succ m ih=>
  intro i fu h1 hm bM hi hk lH
  obtain⟨fu,rfl⟩:∃f,fu=f+1:=⟨fu-1,by omega⟩
  have dH:Row h1 (n+1) 3 .i64 v xs:=hR.aB (Nat.le_succ n) hk
  have bf:=fun b hb=>hR.lt (b:=b) hb
  obtain⟨b,off,cap,o,cs,rfl,hg,hb,_,_,_,bk⟩:=dH.some (by omega)
  have ko:b<n:=bf b ⟨_,_,_,rfl⟩
  have e1:((i:Nat):Int)<((xs.length:Nat):Int):=by omega
  have c1:=bk i (by omega)
  have w1:((i:Nat):Int)+1=((i+1:Nat):Int):=by omega
  have pl:(part (fR xs) i).length=xs.length:=by rw[Mz _ (by rw[nu];omega),nu]
  have ps:(part (fR xs) i).set i (if xs.getD i 0<1 then 1 else xs.getD i 0)=part (fR xs) (i+1):=by
   show(part (fR xs) i).set i (uj (xs.getD i 0))=_
   rw[<-Zr (by omega),MA (by rw[nu];omega)]
  rw[wM]
  try simp(disch:=first|omega|assumption|exact aa _) only[ah,ae,RZ,e1,hg,c1,lH,ints_set,jT,pl,ps]
  refine⟨by omega,.inl dF, ?_⟩
  rw[w1]
  exact ih (i+1) fu _ (by omega) (by omega) (by omega) (fun b hb=>by rw[aK _ _ (by omega)];exact hk b hb) (get_eq _ _ _)
theorem Zt(lf d n:Nat)(h:H)(v:Value)(xs:List Int)(hR:Row h n 3 .i64 v xs)(fN:3<=xs.length)(uc:xs.length<=258)(hm:dD 0 1099511627776 xs=true)(aA:3000000<=lf)(hd:400<=d):
 aj (fun _=>False) n (au ai gt lf d 127 #[v]) h n fun v' h' n'=>∃v1 l r,v'= .tuple #[v1,.int .i64 0]∧j3 r (fR xs) l∧r<=40∧Row h' n' 3 .i64 v1 l:=by
 obtain⟨d,rfl⟩:∃e,d=e+5:=⟨d-5,by omega⟩
 have dz:=iX.1 hm
 rw[aQ (fun _=>VN) rfl]
 refine aj.aP ?_
 unfold Ft
 have bg:=hR
 obtain⟨a,c,rfl⟩:=hR.len
 have e1:¬((xs.length:Nat):Int)<3:=by omega
 have e2:¬(258:Int)<((xs.length:Nat):Int):=by omega
 try simp(disch:=first|omega|assumption|exact aa _) only[ah,ae,RZ,e1,e2]
 refine y3 (XK lf d n h _ xs bg 0 1099511627776 (by omega) aA) (av _) fun h1 n1 bQ cM=> ?_
 have dH:=bg.aB bQ cM
 rw[hm,Az,Bool.not_true]
 try simp(disch:=first|omega|assumption|exact aa _) only[ah,ae,RZ]
 refine Ev.run_make trivial xs.length xs.length _ (av _) (by omega) ?_
 try simp(disch:=first|omega|assumption|exact aa _) only[ah,ae,RZ]
 refine ofA lf (d+4) n1 h1 _ xs dH (by omega) _ _ _ xs.length (av _) bQ _ (fun h2 Zs gh=> ?_) xs.length 0 lf _ (by omega) (by omega) (by omega) (fun b hb=>aK _ _ (by omega)) ?_
 ·(try unfold Fs);(try dsimp only)
  exact ofB lf (d+4) aA (by omega) _ _ _ _ _ _ _ 40 lf (fR xs) h2 (n1+1) _ (by omega) (av _) (ajr (by omega) uc dz) (by omega) gh
 ·rw[get_eq,MC,nu]
  unfold ints
  rw[Hv]
theorem j3.whole{k:Nat}{w l:List Int}(r:j3 k w l):l.length=w.length∧dD 1 20 l=true∧iY l=1048576:=by
 obtain⟨w',hW,so,h,rfl,hl⟩:=r.out
 obtain⟨wf,I,A,B,X,R,dep,D⟩:=hW.Gh so
 have fN:=hW.l2
 rw[Bt]at h
 refine⟨by rw[BF (by omega),hl],iX.2 fun x hx=>⟨?_,h.2 x hx⟩, ?_⟩
 ·revert x
  unfold iD
  rw[D.mem]
  intro i hi
  have:=D.Yq hi
  omega
 ·unfold iD at h⊢
  exact D.share h.2
abbrev jE:=Int×Nat×Value
def tv(t:jE):V3:=(.int .i64 t.1,.int .i64 (t.2.1:Nat),t.2.2)
def zh(t u:jE):Bool:=decide (t.1<u.1)||(t.1==u.1&&decide (t.2.1<u.2.1))
theorem M'{t u:jE}:zh t u=true↔t.1<u.1∨t.1=u.1∧t.2.1<u.2.1:=by unfold zh;simp
def rU(v:Value):Prop:=∃a n c,v= .slice a n c
theorem Na{t:jE}(h:rU t.2.2):JV (tv t):=by
 obtain⟨a,n,c,h⟩:=h
 exact⟨rfl,rfl,by show one t.2.2=true;rw[h];rfl⟩
theorem ajs(lf d n:Nat)(h:H)(t u:jE):aj (fun _=>False) n (au ai gt lf (d+1) 143 #[rF (tv t),rF (tv u)]) h n fun v' h' n'=>v'= .bool (zh t u):=by
 rw[aQ (fun _=>agH) rfl]
 refine aj.aP ?_
 unfold Wn
 refine qi trivial _ _ ?_
 refine qi trivial _ _ ?_
 obtain⟨h2,gy⟩:∃h2,(h.set n (some ⟨151,true,(rF (tv t)).cells.toList⟩)).set (n+1) (some ⟨151,true,(rF (tv u)).cells.toList⟩)=h2:=⟨_,rfl⟩
 have g1:h2.get n=some ⟨151,true,[.int .i64 t.1,.int .i64 (t.2.1:Nat),t.2.2]⟩:=by rw[<-gy,aK _ _ (by omega),get_eq];rfl
 have g2:h2.get (n+1)=some ⟨151,true,[.int .i64 u.1,.int .i64 (u.2.1:Nat),u.2.2]⟩:=by rw[<-gy,get_eq];rfl
 rw[gy]
 have z0:∀a b c:Value,[a,b,c][0]? =some a:=fun _ _ _=>rfl
 have z1:∀a b c:Value,[a,b,c][1]? =some b:=fun _ _ _=>rfl
 unfold zh
 by_cases h1:t.1<u.1
 ·try simp(disch:=first|omega|assumption|exact aa _) only[ah,ae,RZ,g1,g2,z0,z1,h1]
  simp[h1]
 ·by_cases h2:t.1=u.1
  ·have e2:(t.1==u.1)=true:=by simp[h2]
   try simp(disch:=first|omega|assumption|exact aa _) only[ah,ae,RZ,g1,g2,z0,z1,h1,e2]
   simp[h2]
  ·have e2:(t.1==u.1)=false:=by simp[h2]
   try simp(disch:=first|omega|assumption|exact aa _) only[ah,ae,RZ,g1,g2,z0,z1,h1,e2]
   simp[h1]
def BX(l:List jE)(i at_:Nat):Prop:=∀j (hj:j<i) (h:j<l.length) (ha:at_<l.length),j=at_∨zh l[at_] l[j]=true
theorem lsA(lf d n0':Nat)(lo:Nat)(l:List jE)(hl:l.length<=1000000)(hd:∀i j (hi:i<l.length) (hj:j<l.length),i≠j->l[i].2.1≠l[j].2.1)(hs:∀t∈l,rU t.2.2)(v x2:Value){W:Nat->Prop}{n0:Nat}:
 ∀(m i fu at_:Nat) (h:H) (n:Nat),l.length-i=m->m<fu->i<=l.length->at_<l.length->BX l i at_->n0<=n->en h lo n 151 v (l.map tv)->
  aj W n0 (tV lf (au ai gt lf (d+1)) fu (Fx lf (au ai gt lf (d+1))) v x2 (.int .i64 (at_:Nat)) v (.int .i64 (l.length:Nat)) (.int .i64 (i:Nat))) h n fun v' _ _=>∃a:Nat,v'= .int .i64 (a:Nat)∧a<l.length∧BX l l.length a:=by
 intro m
 induction m with
 |zero=>
  intro i fu at_ h n hm bM hi ha qZ hn hO
  obtain⟨fu,rfl⟩:∃f,fu=f+1:=⟨fu-1,by omega⟩
  obtain rfl:i=l.length:=by omega
  rw[tV]
  try simp(disch:=first|omega|assumption|exact aa _) only[ah,ae,RZ,bH]
  (try unfold Fx);(try dsimp only)
  try simp(disch:=first|omega|assumption|exact aa _) only[ah,ae,RZ]
  exact⟨at_,rfl,ha,qZ⟩
 |succ m ih=>
  intro i fu at_ h n hm bM hi ha qZ hn hO
  obtain⟨fu,rfl⟩:∃f,fu=f+1:=⟨fu-1,by omega⟩
  have qB:=hO
  rcases hO with ⟨rfl,sL⟩|⟨b,rfl,hg,nT,ig⟩
  ·have:=congrArg nD sL
   simp at this
   subst this
   simp at ha
  rw[dE]at qB⊢
  simp only[dE]at ih
  have bR:i<l.length:=by omega
  have e1:((i:Nat):Int)<((l.length:Nat):Int):=by omega
  have e2:((at_:Nat):Int)<((l.length:Nat):Int):=by omega
  have w1:((i:Nat):Int)+1=((i+1:Nat):Int):=by omega
  have r1:((jR (l.map tv)).drop (i*3)).take 3=[(tv l[i]).1,(tv l[i]).2.1,(tv l[i]).2.2]:=by
   have:=AG (l.map tv) i (by simpa using bR)
   simpa using this
  have r2:((jR (l.map tv)).drop (at_*3)).take 3=[(tv l[at_]).1,(tv l[at_]).2.1,(tv l[at_]).2.2]:=by
   have:=AG (l.map tv) at_ (by simpa using ha)
   simpa using this
  rw[tV]
  try simp(disch:=first|omega|assumption|exact aa _) only[ah,ae,RZ,e1,e2]
  refine yC trivial hg ig r1 _ ?_
  refine JX trivial (tv l[i]) (Na (hs _ (cN bR))) _ (fun h2 g2 k2=> ?_) hn
  refine yC trivial g2 (fp n) (x:=tv l[i]) rfl _ ?_
  try simp(disch:=first|omega|assumption|exact aa _) only[ah,ae,RZ,e1,e2]
  have Nb:h2.get b=some ⟨151,true,jR (l.map tv)⟩:=(k2 b ig).trans hg
  refine yC trivial Nb (by omega) r2 _ ?_
  refine bh aW (ajs lf d (n+1) h2 l[i] l[at_]) (by omega) (fun _ _ h=>h.elim) fun v3 h3 n3 fy dU hq=> ?_
  subst hq
  have GH:en h3 lo n3 151 (.slice (some ⟨b,0,none⟩) l.length (bc+l.length)) (l.map tv):= .inr ⟨b,by rw[dE],(dU b (by omega) id).trans Nb,nT,by omega⟩
  by_cases bf:zh l[i] l[at_]=true
  ·rw[bf]
   try simp(disch:=first|omega|assumption|exact aa _) only[ah,ae,RZ]
   rw[w1]
   refine ih (i+1) fu i h3 n3 (by omega) (by omega) (by omega) bR (fun j hj h1 h2=> ?_) (by omega) GH
   by_cases e:j=i
   ·exact .inl e
   ·right
    rcases qZ j (by omega) h1 ha with q|q
    ·subst q;exact bf
    ·rw[M']at bf q⊢;omega
  ·rw[Bool.eq_false_iff.2 bf]
   try simp(disch:=first|omega|assumption|exact aa _) only[ah,ae,RZ]
   rw[w1]
   refine ih (i+1) fu at_ h3 n3 (by omega) (by omega) (by omega) ha (fun j hj h1 h2=> ?_) (by omega) GH
   by_cases e:j=i
   ·subst e
    by_cases e2:j=at_
    ·exact .inl e2
    ·right
     have:=hd j at_ h1 h2 e2
     rw[M']at bf⊢
     omega
   ·exact qZ j (by omega) h1 h2
theorem ajt(lf d n lo:Nat)(h:H)(v:Value)(l:List jE)(hO:en h lo n 151 v (l.map tv))(h0:0<l.length)(hl:l.length<=1000000)(hd:∀i j (hi:i<l.length) (hj:j<l.length),i≠j->l[i].2.1≠l[j].2.1)(hs:∀t∈l,rU t.2.2)(aA:3000000<=lf):
 aj (fun _=>False) n (au ai gt lf (d+2) 134 #[v]) h n fun v' _ _=>∃a:Nat,v'= .int .i64 (a:Nat)∧a<l.length∧BX l l.length a:=by
 rw[aQ (fun _=>agx) rfl]
 refine aj.aP ?_
 unfold Ls
 have qB:=hO
 obtain⟨a,c,rfl⟩:=hO.len
 rw[dE]at qB⊢
 try simp(disch:=first|omega|assumption|exact aa _) only[ah,ae,RZ]
 have e0:ii 0= .int .i64 ((0:Nat):Int):=rfl
 rw[e0]
 exact lsA lf d n lo l hl hd hs _ _ l.length 0 lf 0 h n (by omega) (by omega) (by omega) h0 (fun j hj=>by omega) (av _) qB
theorem wiA(lf d lo:Nat)(l:List jE)(at_:Nat)(hl:l.length<=1000000)(hs:∀t∈l,rU t.2.2)(v x4:Value){W:Nat->Prop}{n0 nb:Nat}(dF:n0<=nb):
 ∀(m i fu:Nat) (h:H) (n:Nat) (v5:Value),l.length-i=m->m<fu->i<=l.length->nb<=n->(∀b,aD v b->b<nb)->en h lo nb 151 v (l.map tv)->en h nb n 151 v5 (((l.take i).eraseIdx at_).map tv)->
  aj W n0 (tW lf (au ai gt lf (d+1)) fu (Fy lf (au ai gt lf (d+1))) v (.int .i64 (at_:Nat)) x4 v5 v (.int .i64 (l.length:Nat)) (.int .i64 (i:Nat))) h n fun v' h' n'=>en h' nb n' 151 v' ((l.eraseIdx at_).map tv):=by
 intro m
 induction m with
 |zero=>
  intro i fu h n v5 hm bM hi hnb qC hO hA
  obtain⟨fu,rfl⟩:∃f,fu=f+1:=⟨fu-1,by omega⟩
  obtain rfl:i=l.length:=by omega
  rw[tW]
  try simp(disch:=first|omega|assumption|exact aa _) only[ah,ae,RZ,bH]
  (try unfold Fy);(try dsimp only)
  try simp(disch:=first|omega|assumption|exact aa _) only[ah,ae,RZ]
  rw[j7]at hA
  exact hA
 |succ m ih=>
  intro i fu h n v5 hm bM hi hnb qC hO hA
  obtain⟨fu,rfl⟩:∃f,fu=f+1:=⟨fu-1,by omega⟩
  have qB:=hO
  rcases hO with ⟨rfl,sL⟩|⟨b,rfl,hg,nT,ig⟩
  ·have:=congrArg nD sL
   simp at this
   subst this
   simp at hm
  rw[dE]at qB qC⊢
  simp only[dE]at ih
  have bR:i<l.length:=by omega
  have e1:((i:Nat):Int)<((l.length:Nat):Int):=by omega
  have w1:((i:Nat):Int)+1=((i+1:Nat):Int):=by omega
  have r1:((jR (l.map tv)).drop (i*3)).take 3=[(tv l[i]).1,(tv l[i]).2.1,(tv l[i]).2.2]:=by
   have:=AG (l.map tv) i (by simpa using bR)
   simpa using this
  have o1:=Na (hs _ (cN bR))
  rw[tW]
  try simp(disch:=first|omega|assumption|exact aa _) only[ah,ae,RZ,e1]
  refine yC trivial hg (by omega) r1 _ ?_
  refine JX trivial (tv l[i]) o1 _ (fun h2 g2 k2=> ?_) (by omega)
  have gI:en h2 nb (n+1) 151 v5 (((l.take i).eraseIdx at_).map tv):=hA.aB (by omega) fun c hc=>k2 c (hA.lt hc).2
  have kB:en h2 lo nb 151 (.slice (some ⟨b,0,none⟩) l.length (bc+l.length)) (l.map tv):=qB.aB (av _) fun c hc=>k2 c (by have:=qC c hc;omega)
  have tk:l.take (i+1)=l.take i++[l[i]]:=jI bR
  by_cases he:i=at_
  ·have n1:(((i:Nat):Int) !=((at_:Nat):Int))=false:=by rw[he];simp
   try simp(disch:=first|omega|assumption|exact aa _) only[ah,ae,RZ,n1]
   rw[w1]
   refine ih (i+1) fu h2 (n+1) v5 (by omega) (by omega) (by omega) (by omega) qC kB ?_
   rw[tk,amT (by rw[cJ];omega)]
   rw[abe (by rw[cJ];omega)]at gI
   rw[show at_-(l.take i).length=0 by rw[cJ];omega]
   simpa using gI
  ·have n1:(((i:Nat):Int) !=((at_:Nat):Int))=true:=bne_iff_ne.2 (by omega)
   try simp(disch:=first|omega|assumption|exact aa _) only[ah,ae,RZ,n1]
   refine yC trivial g2 (fp n) (x:=tv l[i]) rfl _ ?_
   refine JY trivial o1 gI (by rw[dE];have:((l.take i).eraseIdx at_).length<=(l.take i).length:=by rw[List.length_eraseIdx];split<;>omega
                               rw[cJ]at this;omega) (by omega) (by omega) _ (fun v6 h6 o6 b6 k6=> ?_)
   try simp(disch:=first|omega|assumption|exact aa _) only[ah,ae,RZ]
   rw[w1]
   refine ih (i+1) fu h6 (n+1+2) v6 (by omega) (by omega) (by omega) (by omega) qC (kB.aB (av _) fun c hc=>k6 c (by have:=qC c hc;omega) (fun q=>by have:=(gI.lt q).1;have:=qC c hc;omega)) ?_
   have:(l.take (i+1)).eraseIdx at_=(l.take i).eraseIdx at_++[l[i]]:=by
    rw[tk]
    by_cases bf:at_<i
    ·rw[List.eraseIdx_append_of_lt_length (by rw[cJ];omega)]
    ·rw[amT (by rw[cJ];omega),abe (l:=l.take i) (by rw[cJ];omega)]
     congr 1
     rw[abe (by rw[cJ];simp;omega)]
   rw[this,eK]
   exact o6
theorem aju(lf d n lo:Nat)(h:H)(v:Value)(l:List jE)(at_:Nat)(hO:en h lo n 151 v (l.map tv))(hl:l.length<=1000000)(hs:∀t∈l,rU t.2.2)(aA:3000000<=lf):
 aj (fun _=>False) n (au ai gt lf (d+2) 135 #[v,.int .i64 (at_:Nat)]) h n fun v' h' n'=>en h' n n' 151 v' ((l.eraseIdx at_).map tv):=by
 rw[aQ (fun _=>agz) rfl]
 refine aj.aP ?_
 unfold Lt
 have qB:=hO
 have qC:=fun b hb=>(hO.lt (b:=b) hb).2
 obtain⟨a,c,rfl⟩:=hO.len
 rw[dE]at qB qC⊢
 try simp(disch:=first|omega|assumption|exact aa _) only[ah,ae,RZ]
 exact wiA lf d lo l at_ hl hs _ _ (av n) l.length 0 lf h n _ (by omega) (by omega) (by omega) (av _) qC qB (by simpa using en.nil h n n _)
end Go.Proofs.YtdagfcflbphoiaaGreatDoor
namespace Go.Proofs.YtdagfcflbphoiaaGreatDoor
open Ev Hu
def lh(out:List Int):List Nat->List Int
 |[]=>out
 |i::ls=>lh (out.set i (out.getD i 0+1)) ls
theorem Nc:∀(ls:List Nat) (out:List Int),(lh out ls).length=out.length
 |[],_=>rfl
 |i::ls,out=>by unfold lh;rw[Nc ls];simp
theorem Nd:∀(ls:List Nat) (out:List Int),ls.Nodup->(∀i∈ls,i<out.length)->∀j,(lh out ls).getD j 0=out.getD j 0+if j∈ls then 1 else 0
 |[],out,_,_,j=>by simp[lh]
 |i::ls,out,hn,hl,j=>by
  rw[List.nodup_cons]at hn
  have hi:=hl i (by simp)
  unfold lh
  rw[Nd ls _ hn.2 (fun k hk=>by rw[List.length_set];exact hl k (by simp[hk])),qo]
  by_cases e:i=j
  ·subst e
   rw[if_pos ⟨rfl,hi⟩,if_neg hn.1,if_pos (by simp)]
   omega
  ·rw[if_neg (fun q=>e q.1)]
   have:(j∈i::ls)↔j∈ls:=by simp[Ne.symm e]
   simp only[this]
theorem Zu:∀(a b:List Nat) (out:List Int),lh out (a++b)=lh (lh out a) b
 |[],b,out=>rfl
 |i::a,b,out=>by simp only[List.cons_append,lh];exact Zu a b _
theorem GI{α:Type}:∀{l:List α} {i:Nat} (h:i<l.length),l.Perm (l[i]::l.eraseIdx i)
 |x::l,0,_=>Cx _
 |x::l,i+1,h=>by
  have h':i<l.length:=by simpa using h
  have:=GI h'
  simp only[List.getElem_cons_succ,List.eraseIdx_cons_succ]
  exact(this.cons x).trans (anS _ _ _)
theorem Nf{α β:Type}(f:α->β):∀(l:List α) (i:Nat),(l.eraseIdx i).map f=(l.map f).eraseIdx i
 |[],i=>by simp
 |x::l,0=>rfl
 |x::l,i+1=>by simp[Nf f l i]
structure rV (N:Nat) (dep:Nat->Nat) (X:Nat->List Nat) (k:Nat) (iH:List Nat) (lf:Nat->List Nat) (out:List Int):Prop where
 Ng:iH.Pairwise (·<·)
 uk:iH.Perm (X k)
 len:out.length=N
 lv:∀t∈iH,∀i∈lf t,i<N∧out.getD i 0+dep t=dep i
 GJ:(iH.flatMap lf).Perm (bL N)
 pos:∀i,0<=out.getD i 0
theorem ajv:∀l:List Nat,l.flatMap (fun i=>[i])=l
 |[]=>rfl
 |x::l=>by simp
section
variable {N:Nat} {w:Nat->Int} {I A B:Nat->Nat} {X R:Nat->List Nat} {dep:Nat->Nat}
theorem rV.init(m:dm N w I A B X R):rV N dep X 0 (bL N) (fun i=>[i]) (bI N 0):=by
 have z:∀i,(bI N (0:Int)).getD i 0=0:=fun i=>by
  rw[aF,List.getElem?_replicate]
  split<;>rfl
 refine⟨List.pairwise_lt_range,m.x0.symm,by simp,fun t ht i hi=> ?_,by rw[ajv],fun i=>by rw[z];omega⟩
 obtain rfl:i=t:=by simpa using hi
 rw[z]
 exact⟨List.mem_range.1 ht,by omega⟩
theorem rV.next(m:dm N w I A B X R)(d1:∀i,i<2*N-2->dep i=dep (I i)+1){k:Nat}(hk:k+2<=N){iH:List Nat}{lf:Nat->List Nat}{out:List Int}(p:rV N dep X k iH lf out){a b:Nat}(ha:a<iH.length)(hb:b<(iH.eraseIdx a).length)(ea:iH[a]=A k)(eb:(iH.eraseIdx a)[b]=B k):
 rV N dep X (k+1) ((iH.eraseIdx a).eraseIdx b++[N+k]) (fun t=>if t=N+k then lf (A k)++lf (B k)else lf t) (lh out (lf (A k)++lf (B k)))∧(lf (A k)++lf (B k)).Nodup∧(∀i∈lf (A k)++lf (B k),i<N):=by
 have q1:=GI ha
 have q2:=GI hb
 rw[ea]at q1
 rw[eb]at q2
 have q3:iH.Perm (A k::B k::(iH.eraseIdx a).eraseIdx b):=q1.trans (q2.cons _)
 have hR:((iH.eraseIdx a).eraseIdx b).Perm (R k):=((q3.symm.trans p.uk).trans (m.st k hk)).cons_inv.cons_inv
 have bf:∀t∈iH,t<N+k:=fun t ht=>m.lt (by omega) (p.uk.mem_iff.1 ht)
 obtain⟨S,hS⟩:∃S,(iH.eraseIdx a).eraseIdx b=S:=⟨_,rfl⟩
 rw[hS]at q3 hR⊢
 have sub:∀t∈S,t∈iH:=fun t ht=>q3.mem_iff.2 (by simp[ht])
 have mA:A k∈iH:=q3.mem_iff.2 (by simp)
 have mB:B k∈iH:=q3.mem_iff.2 (by simp)
 have cv:=(q3.flatMap_right lf).symm.trans p.GJ
 simp only[uG]at cv
 have nd:((lf (A k)++lf (B k))++S.flatMap lf).Nodup:=by
  rw[cI]
  exact cv.nodup_iff.2 List.nodup_range
 have Zv:=(List.nodup_append.1 nd).1
 have XB:∀t∈S,∀i∈lf t,i∉lf (A k)++lf (B k):=fun t ht i hi hc=>(List.nodup_append.1 nd).2.2 i hc i (List.mem_flatMap.2 ⟨t,ht,hi⟩) rfl
 have il:∀i∈lf (A k)++lf (B k),i<N:=fun i hi=>by
  rcases List.mem_append.1 hi with q|q
  ·exact(p.lv _ mA i q).1
  ·exact(p.lv _ mB i q).1
 have ia:=Nd (lf (A k)++lf (B k)) out Zv (fun i hi=>by rw[p.len];exact il i hi)
 obtain⟨dA,dB⟩:=m.Ym d1 hk
 refine⟨⟨?_, ?_,by rw[Nc,p.len],fun t ht i hi=> ?_, ?_,fun i=> ?_⟩,Zv,il⟩
 ·rw[List.pairwise_append]
  refine⟨?_,by simp,fun x hx y hy=>by rw[List.mem_singleton.1 hy];exact bf x (sub x hx)⟩
  rw[<-hS]
  exact(p.Ng.sublist (Hz _ _)).sublist (Hz _ _)
 ·exact((List.perm_append_singleton _ _).trans (hR.cons _)).trans (m.nx k hk).symm
 ·rcases List.mem_append.1 ht with q|q
  ·have bE:t≠N+k:=fun e=>by have:=bf t (sub t q);omega
   simp only[if_neg bE]at hi
   have:=p.lv t (sub t q) i hi
   rw[ia,if_neg (XB t q i hi)]
   omega
  ·obtain rfl:=List.mem_singleton.1 q
   simp only[if_true]at hi
   refine⟨il i hi, ?_⟩
   rw[ia,if_pos hi]
   rcases List.mem_append.1 hi with q|q
   ·have:=(p.lv _ mA i q).2;omega
   ·have:=(p.lv _ mB i q).2;omega
 ·rw[List.flatMap_append]
  have e1:S.flatMap (fun t=>if t=N+k then lf (A k)++lf (B k)else lf t)=S.flatMap lf:=by
   have:∀L:List Nat,(∀t∈L,t<N+k)->L.flatMap (fun t=>if t=N+k then lf (A k)++lf (B k)else lf t)=L.flatMap lf:=by
    intro L
    induction L with
    |nil=>intro _;rfl
    |cons t L ih=>
     intro h
     have:=h t (by simp)
     rw[uG,uG,ih (fun s hs=>h s (by simp[hs])),if_neg (by omega)]
   exact this S fun t ht=>bf t (sub t ht)
  rw[e1]
  simp only[uG,amU,if_true,dr]
  refine List.perm_append_comm.trans ?_
  rw[cI]
  exact cv
 ·rw[ia]
  have:=p.pos i
  split<;>omega
theorem rV.last(m:dm N w I A B X R)(d0:dep (2*N-2)=0){iH:List Nat}{lf:Nat->List Nat}{out:List Int}(p:rV N dep X (N-1) iH lf out):out=(bL N).map fun i=>(dep i:Int):=by
 have hx:=p.uk
 rw[m.last]at hx
 have hn:=List.perm_singleton.1 hx
 subst hn
 have hc:=p.GJ
 simp only[uG,amU,dr]at hc
 apply mI
 ·rw[p.len];simp
 ·intro i h1 h2
  have hi:i<N:=by rw[p.len]at h1;exact h1
  have:=(p.lv (2*N-2) (by simp) i (hc.mem_iff.2 (List.mem_range.2 hi))).2
  rw[d0,aF,aM h1]at this
  simp only[Option.getD_some]at this
  simp only[oM,zR]
  omega
end
theorem Zw{l:List jE}{w:Nat->Int}(hw:∀t∈l,t.1=w t.2.1){a:Nat}(ha:a<l.length)(hm:BX l l.length a){c:Nat}(hc:c∈l.map (·.2.1))(hx:∀x∈l.map (·.2.1),x≠c->RI w c x):l[a].2.1=c:=by
 apply amJ
 intro bE
 obtain⟨t,ht,rfl⟩:=Ht.1 hc
 obtain⟨j,hj,rfl⟩:=List.mem_iff_getElem.1 ht
 have h1:=hx l[a].2.1 (Ht.2 ⟨_,cN ha,rfl⟩) bE
 rcases hm j hj hj ha with e|e
 ·subst e;exact bE rfl
 ·rw[M',hw _ (cN ha),hw _ (cN hj)]at e
  unfold RI at h1
  omega
end Go.Proofs.YtdagfcflbphoiaaGreatDoor
namespace Go.Proofs.YtdagfcflbphoiaaGreatDoor
open Go.RowKit Ev Hu
def gL(ls:List Nat):List Int:=ls.map fun(i:Nat)=>(i:Int)
theorem xt(ls:List Nat):(gL ls).length=ls.length:=by unfold gL;simp
theorem ajw{ls:List Nat}{i:Nat}(h:i<ls.length):(gL ls).getD i 0=(ls.getD i 0:Nat):=by
 unfold gL
 rw[aF,j4,aM h,aF,aM h]
 rfl
structure RM (h:H) (lo n:Nat) (v:Value) (l:List jE) (lv:Nat->List Nat):Prop where
 own:en h lo n 151 v (l.map tv)
 row:∀t∈l,Row h n 3 .i64 t.2.2 (gL (lv t.2.1))∧rU t.2.2
 sep:∀t∈l,∀b,aD t.2.2 b->¬aD v b
theorem rdA (lf d nb:Nat) (h0:H) (v:Value) (ws:List Int) (hR:Row h0 nb 3 .i64 v ws) (hl:ws.length<=1000000) (x2 x3:Value) {W:Nat->Prop} {n0:Nat} (dF:n0<=nb) {Q:Value->H->Nat->Prop} (k:(Value->Value->Value->Value->Value->Value->Value->Value->M Value))
 (hK:∀h n v4 Zx l,nb<=n->RM h nb n v4 l (fun i=>[i])->l.map (·.2.1)=bL ws.length->(∀t∈l,t.1=ws.getD t.2.1 0)->aj W n0 (k v x2 x3 v4 v (.int .i64 (ws.length:Nat)) (.int .i64 (ws.length:Nat)) Zx) h n Q):
 ∀(m i fu:Nat) (h:H) (n:Nat) (v4:Value) (l:List jE),ws.length-i=m->m<fu->i<=ws.length->nb<=n->(∀b,b<nb->h.get b=h0.get b)->RM h nb n v4 l (fun i=>[i])->l.map (·.2.1)=bL i->(∀t∈l,t.1=ws.getD t.2.1 0)->
  aj W n0 (wJ lf (au ai gt lf d) fu k v x2 x3 v4 v (.int .i64 (ws.length:Nat)) (.int .i64 (i:Nat))) h n Q:=by
 intro m
 induction m with
 |zero=>
  intro i fu h n v4 l hm bM hi hn hk hM xu hw
  obtain⟨fu,rfl⟩:∃f,fu=f+1:=⟨fu-1,by omega⟩
  obtain rfl:i=ws.length:=by omega
  rw[wJ]
  try simp(disch:=first|omega|assumption|exact aa _) only[ah,ae,RZ,bH]
  exact hK h n v4 _ l hn hM xu hw
 |succ m ih=>
  intro i fu h n v4 l hm bM hi hn hk hM xu hw
  obtain⟨fu,rfl⟩:∃f,fu=f+1:=⟨fu-1,by omega⟩
  have dH:Row h n 3 .i64 v ws:=hR.aB hn hk
  obtain⟨b,off,cap,o,cs,rfl,hg,hb,_,_,_,bk⟩:=dH.some (by omega)
  have e1:((i:Nat):Int)<((ws.length:Nat):Int):=by omega
  have c1:=bk i (by omega)
  have w1:((i:Nat):Int)+1=((i+1:Nat):Int):=by omega
  have iB:l.length=i:=by have:=congrArg nD xu;simpa using this
  rw[wJ]
  try simp(disch:=first|omega|assumption|exact aa _) only[ah,ae,RZ,e1,hg,c1]
  refine DX trivial (ky _ _) _ ?_
  try simp(disch:=first|omega|assumption|exact aa _) only[ah,ae,RZ]
  obtain⟨h1,lE⟩:∃h1,h.set n (some ⟨3,true,[.int .i64 (i:Nat)]⟩)=h1:=⟨_,rfl⟩
  have g1:h1.get n=some ⟨3,true,[.int .i64 (i:Nat)]⟩:=by rw[<-lE,get_eq]
  have k1:∀c,c<n->h1.get c=h.get c:=fun c hc=>by rw[<-lE,aK _ _ (by omega)]
  rw[lE]
  have t1:jE:=(ws.getD i 0,i,.slice (some ⟨n,0,none⟩) 1 1)
  have Nh:en h1 nb (n+1) 151 v4 (l.map tv):=hM.own.aB (by omega) fun c hc=>k1 c (hM.own.lt hc).2
  refine JY trivial (x:=tv (ws.getD i 0,i,.slice (some ⟨n,0,none⟩) 1 1)) ⟨rfl,rfl,rfl⟩ Nh (by rw[dE];omega) dF (by omega) _ (fun v5 h5 o5 b5 k5=> ?_)
  try simp(disch:=first|omega|assumption|exact aa _) only[ah,ae,RZ]
  rw[w1]
  refine ih (i+1) fu h5 (n+1+2) v5 (l++[(ws.getD i 0,i,.slice (some ⟨n,0,none⟩) 1 1)]) (by omega) (by omega) (by omega) (by omega) (fun c hc=> ?_) ⟨?_,fun t ht=> ?_,fun t ht c hc q=> ?_⟩ ?_ (fun t ht=> ?_)
  ·rw[k5 c (by omega) (fun q=>by have:=(Nh.lt q).1;omega),k1 c (by omega)]
   exact hk c hc
  ·rw[eK]
   exact o5
  ·rcases List.mem_append.1 ht with q|q
   ·obtain⟨r,s⟩:=hM.row t q
    refine⟨r.fI (by omega) fun c hc=> ?_,s⟩
    have:=r.lt hc
    rw[k5 c (by omega) (hM.sep t q c hc),k1 c this]
   ·obtain rfl:=List.mem_singleton.1 q
    refine⟨.inr ⟨n,0,1,true,[.int .i64 (i:Nat)],rfl, ?_,by omega,by simp[gL],rfl,by simp[gL]⟩,⟨_,_,_,rfl⟩⟩
    rw[k5 n (by omega) (fun q=>by have:=Nh.lt q;have:=hM.own.lt (b:=n) q;omega)]
    exact g1
  ·have iV:=b5 c q
   rcases List.mem_append.1 ht with r|r
   ·have:=(hM.row t r).1.lt hc
    omega
   ·obtain rfl:=List.mem_singleton.1 r
    have:=hc.inj
    omega
  ·rw[eK,xu,pQ]
   rfl
  ·rcases List.mem_append.1 ht with q|q
   ·exact hw t q
   ·obtain rfl:=List.mem_singleton.1 q
    rfl
theorem rdC (lf d n:Nat) (h0:H) (v:Value) (ls:List Nat) (hR:Row h0 n 3 .i64 v (gL ls)) (iB:ls.length<=1000000) (bo N c:Nat) (out:List Int) (uV:bo<n) (Zy:∀b,aD v b->b≠bo) (ho:out.length=N) (kg:ls.Nodup) (bR:∀i∈ls,i<N) (og:∀i,0<=out.getD i 0∧out.getD i 0<=1000000) (x0 x2 x3 x4 x8 x9 x10 x11 x12 x13 qt qu oz xw Ni:Value) {W:Nat->Prop} {n0:Nat} (dF:n0<=bo) {Q:Value->H->Nat->Prop} (k:(Value->Value->Value->Value->Value->Value->Value->Value->Value->Value->Value->Value->Value->M Value))
 (hK:∀h,h.get bo=some ⟨3,true,ints (lh out ls)⟩->(∀b,b≠bo->h.get b=h0.get b)->aj W n0 (k x0 x2 x3 x4 (.slice (some ⟨bo,0,none⟩) N c) x8 x10 x12 x13 qt qu oz xw) h n Q):
 ∀(m i fu:Nat) (h:H),ls.length-i=m->m<fu->i<=ls.length->h.get bo=some ⟨3,true,ints (lh out (ls.take i))⟩->(∀b,b≠bo->h.get b=h0.get b)->
  aj W n0 (tR lf (au ai gt lf d) fu k x0 x2 x3 x4 (.slice (some ⟨bo,0,none⟩) N c) x8 x9 x10 x11 x12 x13 qt qu oz xw Ni v (.int .i64 (ls.length:Nat)) (.int .i64 (i:Nat))) h n Q:=by
 intro m
 induction m with
 |zero=>
  intro i fu h hm bM hi lH hk
  obtain⟨fu,rfl⟩:∃f,fu=f+1:=⟨fu-1,by omega⟩
  obtain rfl:i=ls.length:=by omega
  rw[tR]
  try simp(disch:=first|omega|assumption|exact aa _) only[ah,ae,RZ,bH]
  rw[j7]at lH
  exact hK h lH hk
 |succ m ih=>
  intro i fu h hm bM hi lH hk
  obtain⟨fu,rfl⟩:∃f,fu=f+1:=⟨fu-1,by omega⟩
  have dH:Row h n 3 .i64 v (gL ls):=hR.fI (av _) fun b hb=>hk b (Zy b hb)
  have GK:i<ls.length:=by omega
  obtain⟨b,off,cap,o,cs,rfl,hg,hb,_,_,_,bk⟩:=dH.some (by rw[xt];omega)
  rw[xt]at bk⊢
  simp only[xt]at ih
  have OQ:b≠bo:=Zy b ⟨_,_,_,rfl⟩
  have e1:((i:Nat):Int)<((ls.length:Nat):Int):=by omega
  have c1:=bk i GK
  rw[ajw GK]at c1
  obtain⟨j,hj⟩:∃j,ls.getD i 0=j:=⟨_,rfl⟩
  have gQ:ls[i]=j:=by rw[<-hj,aF,aM GK];rfl
  have hjm:j∈ls:=by rw[<-gQ];exact cN _
  have hjN:=bR j hjm
  rw[hj]at c1
  have w1:((i:Nat):Int)+1=((i+1:Nat):Int):=by omega
  have e2:((j:Nat):Int)<((N:Nat):Int):=by omega
  obtain⟨o2,GL⟩:∃o2,lh out (ls.take i)=o2:=⟨_,rfl⟩
  have HK:o2.length=N:=by rw[<-GL,Nc,ho]
  have iq:0<=o2.getD j 0∧o2.getD j 0<=1000001:=by
   have:=Nd (ls.take i) out (kg.sublist (List.take_sublist _ _)) (fun x hx=>by rw[ho];exact bR x (nC hx)) j
   rw[GL]at this
   have:=og j
   split at*<;>omega
  rw[GL]at lH
  have g2:(ints o2)[j]? =some (.int .i64 (o2.getD j 0)):=ints_at (by omega)
  have ajx:o2.set j (o2.getD j 0+1)=lh out (ls.take (i+1)):=by
   rw[jI GK,Zu,GL,gQ]
   rfl
  have w2:IntKind.i64.wrap (o2.getD j 0+1)=o2.getD j 0+1:=bB (by omega) (by omega)
  rw[tR]
  try simp(disch:=first|omega|assumption|exact aa _) only[ah,ae,RZ,e1,e2,hg,lH,c1,g2,w2,ints_set,jT,HK]
  refine⟨by omega,.inl dF, ?_⟩
  rw[w1]
  refine ih (i+1) fu _ (by omega) (by omega) (by omega) ?_ (fun c hc=>by rw[aK _ _ hc];exact hk c hc)
  rw[get_eq,ajx]
theorem Zz(a b c:Value):[a,b,c][2]? =some c:=rfl
theorem ajy(a b c:Value):[a,b,c][0]? =some a:=rfl
def Diff(l:List jE):Prop:=∀i j (hi:i<l.length) (hj:j<l.length),i≠j->l[i].2.1≠l[j].2.1
theorem ZA{l:List jE}(h:(l.map (·.2.1)).Pairwise (·<·)):Diff l:=by
 intro i j hi hj bE e
 have h:=List.pairwise_iff_getElem.1 h
 rcases Nat.lt_or_gt_of_ne bE with q|q
 ·have:=h i j (by simpa using hi) (by simpa using hj) q
  simp at this
  omega
 ·have:=h j i (by simpa using hj) (by simpa using hi) q
  simp at this
  omega
theorem ZB (lf d:Nat) (aA:3000000<=lf) {W:Nat->Prop} {n0:Nat} {Q:Value->H->Nat->Prop} (h:H) (n lo:Nat) (v4:Value) (l:List jE) (hO:en h lo n 151 v4 (l.map tv)) (h0:0<l.length) (hl:l.length<=1000000) (hd:Diff l) (eL:∀t∈l,rU t.2.2) (dF:n0<=n) (k:Value->Value->Value->M Value)
 (hK:∀(a:Nat) (h':H) (n' n1:Nat) (zi:Value) (ha:a<l.length),BX l l.length a->n<=n1->n1<n'->h'.get n1=some ⟨151,true,[.int .i64 l[a].1,.int .i64 (l[a].2.1:Nat),l[a].2.2]⟩->(∀b,b<n->h'.get b=h.get b)->en h' (n1+1) n' 151 zi ((l.eraseIdx a).map tv)->aj W n0 (k (.int .i64 (a:Nat)) (.pointer (some ⟨n1,0,none⟩)) zi) h' n' Q):
 aj W n0 (az (au ai gt lf (d+2)) 134 [v4] fun Nj=>qh 3 v4 Nj fun v44=>fa 3 v44 fun v45=>iW 151 tz fun v10=>fb 3 v10 v45 fun _=>az (au ai gt lf (d+2)) 135 [v4,Nj] fun zi=>k Nj v10 zi) h n Q:=by
 have ajz:=fun b hb=>hO.lt (b:=b) hb
 refine bh aW (ajt lf d n lo h v4 l hO h0 hl hd eL aA) dF (fun _ _ h=>h.elim) fun v1 h1 n1 bQ cM hq=> ?_
 obtain⟨a,rfl,ha,qZ⟩:=hq
 have k1:∀b,b<n->h1.get b=h.get b:=fun b hb=>cM b hb id
 have qA:en h1 lo n1 151 v4 (l.map tv):=hO.aB bQ fun b hb=>k1 b (ajz b hb).2
 have r1:((jR (l.map tv)).drop (a*3)).take 3=[(tv l[a]).1,(tv l[a]).2.1,(tv l[a]).2.2]:=by
  have:=AG (l.map tv) a (by simpa using ha)
  simpa using this
 have ajA:=qA
 rcases ajA with ⟨_,sL⟩|⟨b4,rfl,g4,anu,ajB⟩
 ·have:=congrArg nD sL
  simp at this
  subst this
  simp at h0
 have nV:(l.map tv).length=l.length:=dE ..
 rw[nV]at qA⊢
 have e2:((a:Nat):Int)<((l.length:Nat):Int):=by omega
 rw[JM _ 3 b4 0 l.length _ .i64 _ (by omega) e2,Nat.zero_add,Int.toNat_natCast]
 refine yC trivial g4 ajB r1 _ ?_
 have oa:=Na (eL _ (cN ha))
 refine JX trivial (tv l[a]) oa _ (fun h2 g2 k2=> ?_) (by omega)
 have kB:en h2 lo (n1+1) 151 (.slice (some ⟨b4,0,none⟩) l.length (bc+l.length)) (l.map tv):=qA.aB (by omega) fun b hb=>k2 b (qA.lt hb).2
 refine bh aW (aju lf d (n1+1) lo h2 _ l a kB hl eL aA) (by omega) (fun _ _ h=>h.elim) fun v3 h3 n3 fy dU o3=> ?_
 have k3:∀b,b<n1+1->h3.get b=h2.get b:=fun b hb=>dU b hb id
 exact hK a h3 n3 n1 v3 ha qZ bQ (by omega) (by rw[k3 n1 (by omega)];exact g2) (fun b hb=>by rw[k3 b (by omega),k2 b (by omega),k1 b hb]) o3
set_option maxHeartbeats 1000000 in
theorem ajC (lf d fu:Nat) (aA:3000000<=lf) {W:Nat->Prop} {n0:Nat} {Q:Value->H->Nat->Prop} (h:H) (n lo n1 n4 bo N c:Nat) (next:Nat) (hnx:next<=1000000) (xx:Value) (l2:List jE) (wa wb:Int) (ma mb la lb:Value) (qD qE:List Nat) (out:List Int) (x0 x2 x3 x9 x11 qt qu oz xw Ni:Value) (k:Value->M Value)
 (G1:h.get n1=some ⟨151,true,[.int .i64 wa,ma,la]⟩) (G2:h.get n4=some ⟨151,true,[.int .i64 wb,mb,lb]⟩) (l1:n1<n) (l4:n4<n) (Ra:Row h n 3 .i64 la (gL qD)) (Rb:Row h n 3 .i64 lb (gL qE))
 (go:h.get bo=some ⟨3,true,ints out⟩) (uV:bo<n) (nbo:n0<=bo) (b1:n1≠bo) (b4:n4≠bo) (o6:en h lo n 151 xx (l2.map tv)) (mc:n0<=lo) (ml:lo<=n) (s6:¬aD xx bo) (fN:l2.length<=1000) (hla:qD.length<=1000) (hlb:qE.length<=1000)
 (kg:(qD++qE).Nodup) (bR:∀i∈qD++qE,i<N) (ir:out.length=N) (hob:∀i,0<=out.getD i 0∧out.getD i 0<=1000000) (XF:0<=wa+wb) (HI:wa+wb<=1152921504606846976)
 (hK:∀h' n' v10 zj,n<=n'->en h' lo n' 151 v10 ((l2++[(wa+wb,next,zj)]).map tv)->(∀b,aD v10 b->n<=b)->Row h' n' 3 .i64 zj (gL (qD++qE))->rU zj->(∀b,aD zj b->n<=b∧¬aD v10 b)->h'.get bo=some ⟨3,true,ints (lh out (qD++qE))⟩->(∀b,b<n->b≠bo->¬aD xx b->h'.get b=h.get b)->
   aj W n0 (rJ lf (au ai gt lf d) fu k x0 x2 x3 v10 (.slice (some ⟨bo,0,none⟩) N c) (.int .i64 ((next+1:Nat):Int)) qt qu oz xw) h' n' Q):
 aj W n0 (aE 2 (.pointer (some ⟨n1,0,none⟩)) fun v59=>ay v59 fun v60=>cO 3 1 nS v60 fun v61=>aE 2 (.pointer (some ⟨n4,0,none⟩)) fun v63=>ay v63 fun v64=>cO 3 1 v61 v64 fun Nk=>aN Nk fun v67=>
  tR lf (au ai gt lf d) lf (Vk lf (au ai gt lf d) fu k) x0 x2 x3 xx (.slice (some ⟨bo,0,none⟩) N c) (.int .i64 (next:Nat)) x9 (.pointer (some ⟨n1,0,none⟩)) x11 (.pointer (some ⟨n4,0,none⟩)) Nk qt qu oz xw Ni Nk v67 (ii 0)) h n Q:=by
 try simp(disch:=first|omega|assumption|exact aa _) only[ah,ae,RZ,G1,G2,Zz]
 refine JT trivial (lo:=n) (Own.nil h n n 3) Ra (by rw[xt];simp;omega) (by omega) (av _) _ (fun v7 h7 n7 zk o7 b7 k7=> ?_)
 have Nl:∀c,c<n->h7.get c=h.get c:=fun c hc=>k7 c hc fun q=>q.not_nil
 try simp(disch:=first|omega|assumption|exact aa _) only[ah,ae,RZ,(Nl n4 l4).trans G2,Zz]
 refine JT trivial (lo:=n) o7 (Rb.aB zk Nl) (by rw[xt,aY,cT,xt];simp;omega) (by omega) (by omega) _ (fun v8 h8 n8 BZ o8 b8 k8=> ?_)
 have k8':∀c,c<n->h8.get c=h7.get c:=fun c hc=>k8 c (by omega) fun q=>by
  rcases b7 c q with r|r
  ·exact r.not_nil
  ·omega
 have e8:([]++aJ .i64 (gL qD))++aJ .i64 (gL qE)=aJ .i64 (gL (qD++qE)):=by unfold aJ gL;simp
 rw[e8]at o8
 have R8:Row h8 n8 3 .i64 v8 (gL (qD++qE)):=o8.row
 have B1:=fun c hc=>o8.lt (b:=c) hc
 obtain⟨a8,c8,rfl⟩:=R8.len
 rw[DP]
 have K8:∀c,c<n->h8.get c=h.get c:=fun c hc=>by rw[k8' c hc,Nl c hc]
 obtain⟨ls,pA⟩:∃ls,qD++qE=ls:=⟨_,rfl⟩
 have iB:ls.length<=2000:=by rw[<-pA,aY];omega
 rw[pA]at kg bR o8 R8 B1⊢
 simp only[pA]at hK
 clear o7 b7 k7 b8 k8 e8
 have e0:ii 0= .int .i64 ((0:Nat):Int):=rfl
 rw[e0]
 have bg:=R8
 have e67:(Value.int .i64 ((gL ls).length:Nat))= .int .i64 (ls.length:Nat):=by rw[xt]
 rw[e67]
 refine rdC lf d n8 h8 _ ls bg (by omega) bo N c out (by omega) (fun q hq=>by have:=(B1 q hq).1;omega) ir kg bR hob _ _ _ _ _ _ _ _ _ _ _ _ _ _ _ nbo _ (fun h9 go9 k9=> ?_) ls.length 0 lf h8 (by omega) (by omega) (by omega) (by rw[qL];exact(K8 bo uV).trans go) (fun _ _=>rfl)
 (try unfold Vk);(try unfold Fg);(try dsimp only)
 have GM:h9.get n1=some ⟨151,true,[.int .i64 wa,ma,la]⟩:=by rw[k9 n1 b1,K8 n1 l1];exact G1
 have G2':h9.get n4=some ⟨151,true,[.int .i64 wb,mb,lb]⟩:=by rw[k9 n4 b4,K8 n4 l4];exact G2
 have wr1:IntKind.i64.wrap (wa+wb)=wa+wb:=bB (by omega) (by omega)
 have wr2:((next:Nat):Int)+1=((next+1:Nat):Int):=by omega
 try simp(disch:=first|omega|assumption|exact aa _) only[ah,ae,RZ,GM,G2',ajy,wr1]
 have o6':en h9 lo n8 151 xx (l2.map tv):=o6.aB (by omega) fun c hc=>by
  have:=o6.lt hc
  rw[k9 c (fun e=>s6 (e▸hc)),K8 c this.2]
 refine JY trivial (x:=tv (wa+wb,next,.slice a8 (gL ls).length c8)) ⟨rfl,rfl,rfl⟩ o6' (by rw[dE];omega) mc (by omega) _ (fun v10 qF GN B4 Nm=> ?_)
 try simp(disch:=first|omega|assumption|exact aa _) only[ah,ae,RZ]
 rw[wr2]
 refine hK qF (n8+2) v10 (.slice a8 (gL ls).length c8) (by omega) (by rw[eK];exact GN) (fun b hb=>by have:=B4 b hb;omega) (R8.fI (by omega) fun q hq=> ?_) ⟨_,_,_,rfl⟩ (fun q hq=>⟨(B1 q hq).1,fun r=>by have:=B4 q r;have:=B1 q hq;omega⟩) ?_ (fun q hq bE mT=> ?_)
 ·have:=B1 q hq
  rw[Nm q (by omega) (fun r=>by have:=(o6.lt r).2;omega),k9 q (by omega)]
 ·rw[Nm bo (by omega) s6]
  exact go9
 ·rw[Nm q (by omega) mT,k9 q bE,K8 q hq]
theorem ZC{lv:Nat->List Nat}:∀{L:List Nat} {t:Nat},t∈L->(lv t).length<=(L.flatMap lv).length
 |[],t,h=>by simp at h
 |x::L,t,h=>by
  rw[uG,aY]
  rcases List.mem_cons.1 h with e|e
  ·subst e;omega
  ·have:=ZC (lv:=lv) e;omega
set_option maxHeartbeats 2000000 in
theorem rdB(lf d:Nat)(aA:3000000<=lf){ws:List Int}{D:List Nat}{w:Nat->Int}{I A B:Nat->Nat}{X R:Nat->List Nat}{dep:Nat->Nat}(dd:ni ws D w I A B X R dep)(M8:ws.length<=258)(M9:w (2*ws.length-2)<=1152921504606846976)(nb bo c:Nat)(hc:ws.length<=c)(uV:nb<=bo)(x0 x2 x3 qt qu oz xw:Value){W:Nat->Prop}{n0:Nat}(dF:n0<=nb):
 ∀(m k fu:Nat) (h:H) (n:Nat) (v4:Value) (l:List jE) (lv:Nat->List Nat) (out:List Int),ws.length-1-k=m->m<fu->k+1<=ws.length->bo<n->RM h nb n v4 l lv->rV ws.length dep X k (l.map (·.2.1)) lv out->(∀t∈l,t.1=w t.2.1)->h.get bo=some ⟨3,true,ints out⟩->¬aD v4 bo->(∀t∈l,¬aD t.2.2 bo)->
  aj W n0 (rJ lf (au ai gt lf (d+2)) fu (Fh lf (au ai gt lf (d+2))) x0 x2 x3 v4 (.slice (some ⟨bo,0,none⟩) ws.length c) (.int .i64 ((ws.length+k:Nat):Int)) qt qu oz xw) h n fun v' h' n'=>Row h' n' 3 .i64 v' (mr ws D)∧∀b,aD v' b->n0<=b:=by
 intro m
 have hN:=dd.m.two
 induction m with
 |zero=>
  intro k fu h n v4 l lv out hm bM hk ko hM hP hw Nn Ib eU
  obtain⟨fu,rfl⟩:∃f,fu=f+1:=⟨fu-1,by omega⟩
  have iB:l.length=1:=by
   have:=hP.uk.length_eq
   rw[dd.m.len (by omega),dE]at this
   omega
  obtain⟨a,cc,rfl⟩:=hM.own.len
  rw[dE,iB]at*
  have e1:¬(1:Int)<((1:Nat):Int):=by omega
  rw[rJ]
  try simp(disch:=first|omega|assumption|exact aa _) only[ah,ae,RZ,e1]
  (try unfold Fh);(try unfold anv);(try dsimp only)
  try simp(disch:=first|omega|assumption|exact aa _) only[ah,ae,RZ]
  obtain rfl:k=ws.length-1:=by omega
  have ho:=hP.last dd.m dd.d0
  rw[<-dd.eq]at ho
  subst ho
  have dl:(mr ws D).length=ws.length:=yZ _ _ (by omega)
  refine⟨.inr ⟨bo,0,c,true,_,by rw[dl],Nn,ko,by rw[jT];omega, ?_,by omega⟩,fun b hb=>by rw[hb.inj];omega⟩
  rw[eJ,hH (by rw[jT];exact av _)]
  rfl
 |succ m ih=>
  intro k fu h n v4 l lv out hm bM hk ko hM hP hw Nn Ib eU
  obtain⟨fu,rfl⟩:∃f,fu=f+1:=⟨fu-1,by omega⟩
  have bq:k+2<=ws.length:=by omega
  have iB:l.length=ws.length-k:=by
   have:=hP.uk.length_eq
   rw[dd.m.len (by omega),dE]at this
   omega
  have eL:∀t∈l,rU t.2.2:=fun t ht=>(hM.row t ht).2
  have hO:=hM.own
  obtain⟨a4,c4,ZD⟩:=hO.len
  rw[dE]at ZD
  have e1:(1:Int)<((l.length:Nat):Int):=by omega
  have ajD:∀k:Value->M Value,aN v4 k=k (.int .i64 (l.length:Nat)):=by
   intro k
   rw[ZD]
   exact DP ..
  rw[rJ,ajD]
  try simp(disch:=first|omega|assumption|exact aa _) only[ah,ae,RZ,e1]
  refine ZB lf d aA h n nb v4 l hO (by omega) (by omega) (ZA hP.Ng) eL (by omega) _ (fun a h3 n3 n1 zi ha qZ bQ ajE G1 K3 o3=> ?_)
  have st:=dd.m.st k bq
  have GO:∀x,x∈l.map (·.2.1)↔x∈A k::B k::R k:=fun x=>(hP.uk.trans st).mem_iff
  have ea:l[a].2.1=A k:=Zw hw ha qZ ((GO _).2 (by simp)) fun x hx bE=>dd.m.mA k bq x (by
   rcases List.mem_cons.1 ((GO x).1 hx)with q|q
   ·exact absurd q bE
   ·exact q)
  obtain⟨l1,mn⟩:∃l1,l.eraseIdx a=l1:=⟨_,rfl⟩
  rw[mn]at o3
  have anw:l1.length=l.length-1:=by rw[<-mn,amV ha]
  have GP:∀t∈l1,t∈l:=fun t ht=>(Hz l a).subset (by rw[mn];exact ht)
  have B5:l1.map (·.2.1)=(l.map (·.2.1)).eraseIdx a:=by rw[<-mn,Nf]
  have D9:a<(l.map (·.2.1)).length:=by rw[dE];exact ha
  have ZE:(l.map (·.2.1))[a]=A k:=by rw[oM];exact ea
  have pe:=GI D9
  rw[ZE,<-B5]at pe
  have p1:(l1.map (·.2.1)).Perm (B k::R k):=((pe.symm.trans hP.uk).trans st).cons_inv
  have yU:(l1.map (·.2.1)).Pairwise (·<·):=by rw[B5];exact hP.Ng.sublist (Hz _ _)
  refine ZB lf d aA h3 n3 (n1+1) zi l1 o3 (by omega) (by omega) (ZA yU) (fun t ht=>eL t (GP t ht)) (by omega) _ (fun b h6 n6 n4 xx hb ajF jF ajG G2 K6 o6=> ?_)
  have eb:l1[b].2.1=B k:=Zw (fun t ht=>hw t (GP t ht)) hb ajF (p1.mem_iff.2 (by simp)) fun x hx bE=>dd.m.mB k bq x (by
   rcases List.mem_cons.1 (p1.mem_iff.1 hx)with q|q
   ·exact absurd q bE
   ·exact q)
  obtain⟨l2,fN⟩:∃l2,l1.eraseIdx b=l2:=⟨_,rfl⟩
  rw[fN]at o6
  have zm:∀t∈l2,t∈l:=fun t ht=>GP t ((Hz l1 b).subset (by rw[fN];exact ht))
  have anx:l2.length=l1.length-1:=by rw[<-fN,amV hb]
  have nm2:l2.map (·.2.1)=((l.map (·.2.1)).eraseIdx a).eraseIdx b:=by rw[<-fN,Nf,B5]
  have ew:b<((l.map (·.2.1)).eraseIdx a).length:=by rw[<-B5,dE];exact hb
  have uP:((l.map (·.2.1)).eraseIdx a)[b]=B k:=by
   have:(l1.map (·.2.1))[b]'(by rw[dE];exact hb)=B k:=by rw[oM];exact eb
   simp only[B5]at this
   exact this
  obtain⟨ZF,kg,bR⟩:=hP.next dd.m dd.d1 bq D9 ew ZE uP
  rw[<-nm2]at ZF
  have KK:∀q,q<n->h6.get q=h.get q:=fun q hq=>by rw[K6 q (by omega),K3 q hq]
  have GM:=(K6 n1 ajE).trans G1
  have Np:=cN ha
  have Nq:=GP _ (cN hb)
  obtain⟨ta,hta⟩:∃t,l[a]=t:=⟨_,rfl⟩
  obtain⟨tb,Ag⟩:∃t,l1[b]=t:=⟨_,rfl⟩
  rw[hta]at Np ea GM
  rw[Ag]at Nq eb G2
  have Ra:Row h6 n6 3 .i64 ta.2.2 (gL (lv (A k))):=by
   have:=(hM.row _ Np).1
   rw[ea]at this
   exact this.aB (by omega) KK
  have Rb:Row h6 n6 3 .i64 tb.2.2 (gL (lv (B k))):=by
   have:=(hM.row _ Nq).1
   rw[eb]at this
   exact this.aB (by omega) KK
  have ZG:∀t,t∈l.map (·.2.1)->(lv t).length<=258:=fun t ht=>by
   have ajH:=ZC (lv:=lv) ht
   rw[hP.GJ.length_eq,Hr]at ajH
   omega
  have la:=ZG (A k) ((GO _).2 (by simp))
  have lb:=ZG (B k) ((GO _).2 (by simp))
  have ajI:∀i,0<=out.getD i 0∧out.getD i 0<=1000000:=fun i=>by
   refine⟨hP.pos i, ?_⟩
   by_cases hi:i<ws.length
   ·obtain⟨t,ht,Ga⟩:=List.mem_flatMap.1 (hP.GJ.mem_iff.2 (List.mem_range.2 hi))
    have:=(hP.lv t ht i Ga).2
    have:=dd.le hi
    omega
   ·rw[aF,List.getElem?_eq_none (by rw[hP.len];omega)]
    simp
  have wa:ta.1=w (A k):=by rw[hw _ Np,ea]
  have wb:tb.1=w (B k):=by rw[hw _ Nq,eb]
  have wn:=dd.m.wn k bq
  have ajJ:ta.1+tb.1=w (ws.length+k):=by rw[wa,wb,wn]
  have wle:=dd.m.mono (ws.length+k) (2*ws.length-2) (by omega) (by omega) (av _)
  have wge:=dd.m.pos (ws.length+k) (by omega)
  have ZH:=fun q hq=>o6.lt (b:=q) hq
  refine ajC lf (d+2) fu aA h6 n6 (n4+1) n1 n4 bo ws.length c (ws.length+k) (by omega) xx l2 ta.1 tb.1 _ _ ta.2.2 tb.2.2 (lv (A k)) (lv (B k)) out _ _ _ _ _ _ _ _ _ _ _ GM G2 (by omega) ajG Ra Rb ((KK bo ko).trans Nn) (by omega) (by omega) (by omega) (by omega) o6 (by omega) (by omega) (fun q=>by have:=ZH bo q;omega) (by omega) (by omega) (by omega) kg bR hP.len ajI (by omega) (by omega) (fun qF pE v10 zj ZI GN B4 R8 sl8 s8 ajK K10=> ?_)
  have K11:∀q,q<n->q≠bo->qF.get q=h.get q:=fun q hq bE=>by
   rw[K10 q (by omega) bE (fun r=>by have:=ZH q r;omega),KK q hq]
  have nlt:∀t∈l2,t.2.1≠ws.length+k:=fun t ht e=>by
   have:=dd.m.lt (k:=k) (by omega) (hP.uk.mem_iff.1 (Ht.2 ⟨t,zm t ht,rfl⟩))
   omega
  rw[ajJ]at GN
  refine ih (k+1) fu qF pE v10 (l2++[(w (ws.length+k),ws.length+k,zj)]) _ _ (by omega) (by omega) (by omega) (by omega) ⟨GN.low (by omega),fun t ht=> ?_,fun t ht q hq r=> ?_⟩ (by rw[eK];exact ZF) (fun t ht=> ?_) ajK (fun q=>by have:=B4 bo q;omega) (fun t ht q=> ?_)
  ·rcases List.mem_append.1 ht with q|q
   ·obtain⟨r,s⟩:=hM.row t (zm t q)
    rw[if_neg (nlt t q)]
    exact⟨r.fI (by omega) fun q hq=>K11 q (r.lt hq) (fun e=>eU t (zm t (by assumption)) (e▸hq)),s⟩
   ·obtain rfl:=List.mem_singleton.1 q
    show Row qF _ _ _ _ (gL (if ws.length+k=ws.length+k then _ else _))∧_
    rw[if_pos rfl]
    exact⟨R8,sl8⟩
  ·rcases List.mem_append.1 ht with s|s
   ·have:=(hM.row t (zm t s)).1.lt hq
    have:=B4 q r
    omega
   ·obtain rfl:=List.mem_singleton.1 s
    exact(s8 q hq).2 r
  ·rcases List.mem_append.1 ht with q|q
   ·exact hw t (zm t q)
   ·obtain rfl:=List.mem_singleton.1 q
    rfl
  ·rcases List.mem_append.1 ht with r|r
   ·exact eU t (zm t r) q
   ·obtain rfl:=List.mem_singleton.1 r
    have:=(s8 bo q).1
    omega
theorem ZJ(lf d n:Nat)(h:H)(v:Value)(ws:List Int)(hR:Row h n 3 .i64 v ws)(hW:Ws ws)(so:jZ ws (oy ws))(aA:3000000<=lf)(hd:300<=d):
 aj (fun _=>False) n (au ai gt lf d 116 #[v]) h n fun v' h' n'=>Row h' n' 3 .i64 v' (iD ws)∧∀b,aD v' b->n<=b:=by
 obtain⟨d,rfl⟩:∃e,d=e+3:=⟨d-3,by omega⟩
 obtain⟨w,I,A,B,X,R,dep,D⟩:=hW.Gh so
 have hN:=hW.l2
 have M8:=hW.l3
 have M9:w (2*ws.length-2)<=1152921504606846976:=by
  rw[<-D.m.root]
  have e:(bL ws.length).map w=ws:=by
   apply mI
   ·simp
   ·intro i h1 h2
    have hi:i<ws.length:=h2
    simp only[oM,zR]
    rw[D.ww i hi,aF,aM hi]
    rfl
  rw[e]
  exact Yr hW.l3 hW.hi
 rw[aQ (fun _=>agd) rfl]
 refine aj.aP ?_
 unfold Lh
 have bg:=hR
 obtain⟨a,c,rfl⟩:=hR.len
 try simp(disch:=first|omega|assumption|exact aa _) only[ah,ae,RZ]
 have e0:ii 0= .int .i64 ((0:Nat):Int):=rfl
 rw[e0]
 refine rdA lf (d+2) n h _ ws bg (by omega) _ _ (av n) _ (fun h1 n1 v4 Zx l bQ hM xu hw=> ?_) ws.length 0 lf h n _ [] (by omega) (by omega) (by omega) (av _) (fun _ _=>rfl) ⟨en.nil _ _ _ _,fun t ht=>by simp at ht,fun t ht=>by simp at ht⟩ (by simp) (fun t ht=>by simp at ht)
 (try unfold Fi);(try dsimp only)
 refine Ev.run_make trivial ws.length ws.length _ (av _) (by omega) ?_
 obtain⟨h2,gy⟩:∃h2,h1.set n1 (some ⟨3,true,bI ws.length (.int .i64 0)⟩)=h2:=⟨_,rfl⟩
 have g2:h2.get n1=some ⟨3,true,ints (bI ws.length 0)⟩:=by
  rw[<-gy,get_eq]
  unfold ints
  rw[Hv]
 have k2:∀b,b<n1->h2.get b=h1.get b:=fun b hb=>by rw[<-gy,aK _ _ (by omega)]
 rw[gy]
 have hP:=rV.init (dep:=dep) D.m
 rw[<-xu]at hP
 unfold iD
 exact rdB lf d aA D M8 M9 n n1 ws.length (av _) bQ _ _ _ _ _ _ _ (av n) (ws.length-1) 0 lf h2 (n1+1) v4 l (fun i=>[i]) _ (by omega) (by omega) (by omega) (by omega)
  ⟨hM.own.aB (by omega) fun b hb=>k2 b (hM.own.lt hb).2,fun t ht=>⟨(hM.row t ht).1.aB (by omega) k2,(hM.row t ht).2⟩,hM.sep⟩ hP (fun t ht=>by
    rw[hw t ht,D.ww]
    have:t.2.1∈l.map (·.2.1):=Ht.2 ⟨t,ht,rfl⟩
    rw[xu]at this
    exact List.mem_range.1 this) g2 (fun q=>by have:=hM.own.lt q;omega) (fun t ht q=>by have:=(hM.row t ht).1.lt q;omega)
theorem ajL{α:Type}(d:α){xs:List α}{i:Nat}(h:i<xs.length):xs.take (i+1)=xs.take i++[xs.getD i d]:=by
 rw[jI h,aF,aM h]
 rfl
theorem ZK{xs:List Int}{i:Nat}(h:i<xs.length):aJ .i64 (xs.take (i+1))=aJ .i64 (xs.take i)++[.int .i64 (xs.getD i 0)]:=by
 rw[ajL 0 h]
 unfold aJ
 rw[eK]
 rfl
theorem rhA(lf d nb:Nat)(h0:H)(v:Value)(xs:List Int)(hR:Row h0 nb 3 .i64 v xs)(hl:xs.length<=1000000)(hx:∀x∈xs,x<=9223372036854775807)(x2:Value){W:Nat->Prop}{n0:Nat}(dF:n0<=nb):
 ∀(m i fu:Nat) (h:H) (n:Nat) (v3:Value),xs.length-i=m->m<fu->i<=xs.length->nb<=n->(∀b,b<nb->h.get b=h0.get b)->Own h nb n 3 v3 (aJ .i64 ((gC xs).take i))->
  aj W n0 (tS lf (au ai gt lf d) fu (Ba lf (au ai gt lf d)) v x2 v3 v (.int .i64 (xs.length:Nat)) (.int .i64 (i:Nat))) h n (fun v' h' n'=>Row h' n' 3 .i64 v' (gC xs)∧∀b,aD v' b->nb<=b):=by
 intro m
 induction m with
 |zero=>
  intro i fu h n v3 hm bM hi hn hk hO
  obtain⟨fu,rfl⟩:∃f,fu=f+1:=⟨fu-1,by omega⟩
  obtain rfl:i=xs.length:=by omega
  rw[tS]
  try simp(disch:=first|omega|assumption|exact aa _) only[ah,ae,RZ,bH]
  (try unfold Ba);(try dsimp only)
  try simp(disch:=first|omega|assumption|exact aa _) only[ah,ae,RZ]
  rw[<-nj xs,j7]at hO
  exact⟨hO.row,fun b hb=>(hO.lt hb).1⟩
 |succ m ih=>
  intro i fu h n v3 hm bM hi hn hk hO
  obtain⟨fu,rfl⟩:∃f,fu=f+1:=⟨fu-1,by omega⟩
  have dH:Row h n 3 .i64 v xs:=hR.aB hn hk
  have bf:=fun b hb=>hR.lt (b:=b) hb
  have bR:i<xs.length:=by omega
  obtain⟨b,off,cap,o,cs,rfl,hg,hb,_,_,_,bk⟩:=dH.some (by omega)
  have e1:((i:Nat):Int)<((xs.length:Nat):Int):=by omega
  have c1:=bk i bR
  have w1:((i:Nat):Int)+1=((i+1:Nat):Int):=by omega
  have jS:=hx (xs.getD i 0) (Gi bR)
  obtain⟨wa,wb⟩:=Yu _ jS
  have ey:=ZK (xs:=gC xs) (i:=i) (by rw[nj];exact bR)
  rw[Yv bR]at ey
  have hlen:(aJ .i64 ((gC xs).take i)).length+1<=1099511627776:=by rw[cT,cJ,nj];omega
  have fin:∀v' h',h'.get (n+1)=some ⟨3,true,aJ .i64 ((gC xs).take i)++[.int .i64 (qv (xs.getD i 0))]⟩->(∀b,b<n->¬aD v3 b->h'.get b=h.get b)->v'= .slice (some ⟨n+1,0,none⟩) ((aJ .i64 ((gC xs).take i)).length+1) (bc+((aJ .i64 ((gC xs).take i)).length+1))->
   aj W n0 (tS lf (au ai gt lf d) fu (Ba lf (au ai gt lf d)) (.slice (some ⟨b,off,none⟩) xs.length cap) x2 v' (.slice (some ⟨b,off,none⟩) xs.length cap) (.int .i64 (xs.length:Nat)) (.int .i64 ((i+1:Nat):Int))) h' (n+2) (fun v' h' n'=>Row h' n' 3 .i64 v' (gC xs)∧∀b,aD v' b->nb<=b):=by
   intro v' h' g k e
   subst e
   rw[<-ey]at g
   refine ih (i+1) fu h' (n+2) _ (by omega) (by omega) (by omega) (by omega) (fun q hq=>by rw[k q (by omega) (fun r=>by have:=(hO.lt r).1;omega)];exact hk q hq) (Own.mk' g (by omega) (by omega) ?_)
   rw[ey]
   simp
  rw[tS]
  by_cases GQ:xs.getD i 0<0
  ·rw[if_pos GQ]at wa wb
   try simp(disch:=first|omega|assumption|exact aa _) only[ah,ae,RZ,e1,hg,c1,GQ,wa,wb]
   refine m4 trivial (ky _ _) hO hlen (by omega) _ (fun h2 g2 k2=> ?_)
   try simp(disch:=first|omega|assumption|exact aa _) only[ah,ae,RZ]
   rw[w1]
   exact fin _ h2 g2 k2 rfl
  ·rw[if_neg GQ]at wa wb
   try simp(disch:=first|omega|assumption|exact aa _) only[ah,ae,RZ,e1,hg,c1,GQ,wa,wb]
   refine m4 trivial (ky _ _) hO hlen (by omega) _ (fun h2 g2 k2=> ?_)
   try simp(disch:=first|omega|assumption|exact aa _) only[ah,ae,RZ]
   rw[w1]
   exact fin _ h2 g2 k2 rfl
theorem ajM(lf d n:Nat)(h:H)(v:Value)(xs:List Int)(hR:Row h n 3 .i64 v xs)(hl:xs.length<=1000000)(hx:∀x∈xs,x<=9223372036854775807)(aA:3000000<=lf):
 aj (fun _=>False) n (au ai gt lf (d+1) 118 #[v]) h n fun v' h' n'=>Row h' n' 3 .i64 v' (gC xs)∧∀b,aD v' b->n<=b:=by
 rw[aQ (fun _=>agi) rfl]
 refine aj.aP ?_
 unfold Ll
 have bg:=hR
 obtain⟨a,c,rfl⟩:=hR.len
 try simp(disch:=first|omega|assumption|exact aa _) only[ah,ae,RZ]
 have e0:ii 0= .int .i64 ((0:Nat):Int):=rfl
 rw[e0]
 exact rhA lf d n h _ xs bg hl hx _ (av n) xs.length 0 lf h n _ (by omega) (by omega) (by omega) (av _) (fun _ _=>rfl) (by rw[qL];exact Own.nil _ _ _ _)
theorem ZL{w:List Int}(hW:Ws w)(so:jZ w (oy w)):dD 1 20 (iD w)=decide (mu (iD w) 0<=20):=by
 obtain⟨wf,I,A,B,X,R,dep,D⟩:=hW.Gh so
 have h1:∀x∈iD w,1<=x:=by
  unfold iD
  rw[D.mem]
  intro i hi
  have:=D.Yq hi
  omega
 by_cases h:mu (iD w) 0<=20
 ·rw[decide_eq_true h]
  rw[Bt]at h
  exact iX.2 fun x hx=>⟨h1 x hx,h.2 x hx⟩
 ·rw[decide_eq_false h]
  refine Bool.eq_false_iff.2 fun q=>h ?_
  rw[Bt]
  exact⟨by omega,fun x hx=>(iX.1 q x hx).2⟩
theorem rfB(lf d:Nat)(aA:3000000<=lf)(hd:300<=d)(x0 x2 x7 x8 x9 x10:Value){W:Nat->Prop}{n0:Nat}:
 ∀{r:Nat} {w l:List Int},j3 r w l->∀(fu j:Nat) (h:H) (n:Nat) (v3:Value),r<fu->j+r<100->n0<=n->Row h n 3 .i64 v3 w->
  aj W n0 (wu lf (au ai gt lf d) fu (EW lf (au ai gt lf d)) x0 x2 v3 x7 x8 x9 x10 (.int .i64 (j:Nat))) h n fun v' h' n'=>Row h' n' 3 .i64 v' l:=by
 intro r w l hr
 obtain⟨e,rfl⟩:∃e,d=e+1:=⟨d-1,by omega⟩
 induction hr with
 |stop w hW so hs=>
  intro fu j h n v3 bM hj hn hR
  obtain⟨fu,rfl⟩:∃f,fu=f+1:=⟨fu-1,by omega⟩
  have e1:((j:Nat):Int)<100:=by omega
  have fN:=hW.l2
  have uc:=hW.l3
  have dl:=BF (ws:=w) (by omega)
  rw[wu]
  try simp(disch:=first|omega|assumption|exact aa _) only[ah,ae,RZ,e1]
  refine bh aW (ZJ lf (e+1) n h v3 w hR hW so aA hd) hn (fun _ _ h=>h.elim) fun v1 h1 n1 bQ cM hq=> ?_
  refine bV (XJ lf e n1 h1 v1 _ hq.1 1 20 (by omega) aA) (by omega) (fun _ _ h=>h.elim) ?_
  rw[ZL hW so,decide_eq_true hs]
  try simp(disch:=first|omega|assumption|exact aa _) only[ah,ae,RZ]
  (try unfold EW);(try unfold anz);(try dsimp only)
  try simp(disch:=first|omega|assumption|exact aa _) only[ah,ae,RZ]
  exact hq.1
 |next hW so hs hr ih=>
  rename_i k w l
  intro fu j h n v3 bM hj hn hR
  obtain⟨fu,rfl⟩:∃f,fu=f+1:=⟨fu-1,by omega⟩
  have e1:((j:Nat):Int)<100:=by omega
  have w1:((j:Nat):Int)+1=((j+1:Nat):Int):=by omega
  have fN:=hW.l2
  have uc:=hW.l3
  have dl:=BF (ws:=w) (by omega)
  rw[wu]
  try simp(disch:=first|omega|assumption|exact aa _) only[ah,ae,RZ,e1]
  refine bh aW (ZJ lf (e+1) n h v3 w hR hW so aA hd) hn (fun _ _ h=>h.elim) fun v1 h1 n1 bQ cM hq=> ?_
  refine bV (XJ lf e n1 h1 v1 _ hq.1 1 20 (by omega) aA) (by omega) (fun _ _ h=>h.elim) ?_
  rw[ZL hW so,decide_eq_false hs]
  try simp(disch:=first|omega|assumption|exact aa _) only[ah,ae,RZ]
  refine bh aW (ajM lf e n1 h1 v3 w (hR.aB bQ fun b hb=>cM b hb id) (by omega) (fun x hx=>by have:=hW.hi x hx;omega) aA) (by omega) (fun _ _ h=>h.elim) fun v2 h2 n2 ey eR iE=> ?_
  try simp(disch:=first|omega|assumption|exact aa _) only[ah,ae,RZ]
  rw[w1]
  exact ih fu (j+1) h2 n2 v2 (by omega) (by omega) (by omega) iE.1
theorem rfA (lf d nb:Nat) (h0:H) (v:Value) (xs:List Int) (hR:Row h0 nb 3 .i64 v xs) (hl:xs.length<=1000000) (hx:∀x∈xs,0<=x) (x2:Value) {W:Nat->Prop} {n0:Nat} (dF:n0<=nb) {Q:Value->H->Nat->Prop} (k:(Value->Value->Value->Value->Value->Value->Value->M Value))
 (hK:∀h n v3 ZM,nb<=n->Row h n 3 .i64 v3 (fR xs)->aj W n0 (k v x2 v3 v (.int .i64 (xs.length:Nat)) (.int .i64 (xs.length:Nat)) ZM) h n Q):
 ∀(m i fu:Nat) (h:H) (n:Nat) (v3:Value),xs.length-i=m->m<fu->i<=xs.length->nb<=n->(∀b,b<nb->h.get b=h0.get b)->Own h nb n 3 v3 (aJ .i64 ((fR xs).take i))->
  aj W n0 (rI lf (au ai gt lf d) fu k v x2 v3 v (.int .i64 (xs.length:Nat)) (.int .i64 (i:Nat))) h n Q:=by
 intro m
 induction m with
 |zero=>
  intro i fu h n v3 hm bM hi hn hk hO
  obtain⟨fu,rfl⟩:∃f,fu=f+1:=⟨fu-1,by omega⟩
  obtain rfl:i=xs.length:=by omega
  rw[rI]
  try simp(disch:=first|omega|assumption|exact aa _) only[ah,ae,RZ,bH]
  rw[<-nu xs,j7]at hO
  exact hK h n v3 _ hn hO.row
 |succ m ih=>
  intro i fu h n v3 hm bM hi hn hk hO
  obtain⟨fu,rfl⟩:∃f,fu=f+1:=⟨fu-1,by omega⟩
  have dH:Row h n 3 .i64 v xs:=hR.aB hn hk
  have bR:i<xs.length:=by omega
  obtain⟨b,off,cap,o,cs,rfl,hg,hb,_,_,_,bk⟩:=dH.some (by omega)
  have e1:((i:Nat):Int)<((xs.length:Nat):Int):=by omega
  have c1:=bk i bR
  have w1:((i:Nat):Int)+1=((i+1:Nat):Int):=by omega
  have jS:=hx (xs.getD i 0) (Gi bR)
  have ey:=ZK (xs:=fR xs) (i:=i) (by rw[nu];exact bR)
  rw[Zr bR]at ey
  have hlen:(aJ .i64 ((fR xs).take i)).length+1<=1099511627776:=by rw[cT,cJ,nu];omega
  have fin:∀h',h'.get (n+1)=some ⟨3,true,aJ .i64 ((fR xs).take i)++[.int .i64 (uj (xs.getD i 0))]⟩->(∀b,b<n->¬aD v3 b->h'.get b=h.get b)->
   aj W n0 (rI lf (au ai gt lf d) fu k (.slice (some ⟨b,off,none⟩) xs.length cap) x2 (.slice (some ⟨n+1,0,none⟩) ((aJ .i64 ((fR xs).take i)).length+1) (bc+((aJ .i64 ((fR xs).take i)).length+1))) (.slice (some ⟨b,off,none⟩) xs.length cap) (.int .i64 (xs.length:Nat)) (.int .i64 ((i+1:Nat):Int))) h' (n+2) Q:=by
   intro h' g k
   rw[<-ey]at g
   refine ih (i+1) fu h' (n+2) _ (by omega) (by omega) (by omega) (by omega) (fun q hq=>by rw[k q (by omega) (fun r=>by have:=(hO.lt r).1;omega)];exact hk q hq) (Own.mk' g (by omega) (by omega) ?_)
   rw[ey]
   simp
  rw[rI]
  by_cases hz:xs.getD i 0=0
  ·have z1:(xs.getD i 0==0)=true:=by rw[hz];rfl
   have z2:uj (xs.getD i 0)=1:=by rw[hz];rfl
   rw[z2]at fin
   try simp(disch:=first|omega|assumption|exact aa _) only[ah,ae,RZ,e1,hg,c1,z1]
   refine m4 trivial (ky _ _) hO hlen (by omega) _ (fun h2 g2 k2=> ?_)
   try simp(disch:=first|omega|assumption|exact aa _) only[ah,ae,RZ]
   rw[w1]
   exact fin h2 g2 k2
  ·have z1:(xs.getD i 0==0)=false:=beq_eq_false_iff_ne.2 hz
   have z2:uj (xs.getD i 0)=xs.getD i 0:=by unfold uj;rw[if_neg (by omega)]
   rw[z2]at fin
   try simp(disch:=first|omega|assumption|exact aa _) only[ah,ae,RZ,e1,hg,c1,z1]
   refine m4 trivial (ky _ _) hO hlen (by omega) _ (fun h2 g2 k2=> ?_)
   try simp(disch:=first|omega|assumption|exact aa _) only[ah,ae,RZ]
   rw[w1]
   exact fin h2 g2 k2
theorem ajN(lf d n:Nat)(h:H)(v:Value)(xs l:List Int)(r:Nat)(hR:Row h n 3 .i64 v xs)(hl:xs.length<=1000000)(hx:∀x∈xs,0<=x)(hr:j3 r (fR xs) l)(gh:r<=40)(aA:3000000<=lf)(hd:300<=d):
 aj (fun _=>False) n (au ai gt lf (d+1) 82 #[v]) h n fun v' h' n'=>Row h' n' 3 .i64 v' l:=by
 rw[aQ (fun _=>afM) rfl]
 refine aj.aP ?_
 unfold KQ
 have bg:=hR
 obtain⟨a,c,rfl⟩:=hR.len
 try simp(disch:=first|omega|assumption|exact aa _) only[ah,ae,RZ]
 have e0:ii 0= .int .i64 ((0:Nat):Int):=rfl
 rw[e0]
 refine rfA lf d n h _ xs bg hl hx _ (av n) _ (fun h1 n1 v3 ZM bQ xr=> ?_) xs.length 0 lf h n _ (by omega) (by omega) (by omega) (av _) (fun _ _=>rfl) (by rw[qL];exact Own.nil _ _ _ _)
 (try unfold EX);(try dsimp only)
 rw[e0]
 exact rfB lf d aA hd _ _ _ _ _ _ hr lf 0 h1 n1 v3 (by omega) (by omega) (by omega) xr
end Go.Proofs.YtdagfcflbphoiaaGreatDoor
namespace Go.Proofs.YtdagfcflbphoiaaGreatDoor
open Go.RowKit Ev Tb
theorem j3.uK{r:Nat}{w l:List Int}(x:j3 r w l):∀{r':Nat} {l':List Int},j3 r' w l'->l=l':=by
 induction x with
 |stop w hW so hs=>
  intro r' l' y
  cases y with
  |stop=>rfl
  |next _ _ hn _=>exact absurd hs hn
 |next hW so hs hr ih=>
  intro r' l' y
  cases y with
  |stop _ _ _ hn=>exact absurd hn hs
  |next _ _ _ gh=>exact ih gh
noncomputable def pF (c:List Int):List Int:=anT fun l=>∃r,j3 r (fR c) l∧r<=40
theorem ZN{c l:List Int}{r:Nat}(h:j3 r (fR c) l)(hr:r<=40):l=pF c:=by
 obtain⟨r',h',_⟩:=anU (p:=fun l=>∃r,j3 r (fR c) l∧r<=40) ⟨l,r,h,hr⟩
 exact h.uK h'
section
variable (lf d n:Nat) (h:H) (aA:3000000<=lf)
include aA
theorem ajO(v:Value)(c:List Int)(hR:Row h n 3 .i64 v c)(h3:3<=c.length)(fC:c.length<=258)(hm:dD 0 1099511627776 c=true)(hd:400<=d):
 aj (fun _=>False) n (au ai gt lf d 127 #[v]) h n fun v' h' n'=>∃v1,v'= .tuple #[v1,.int .i64 0]∧Row h' n' 3 .i64 v1 (pF c):=by
 refine(Zt lf d n h v c hR h3 fC hm aA hd).mono ?_
 rintro v' h' n' _ ⟨v1,l,r,rfl,hr,gh,eo⟩
 rw[ZN hr gh]at eo
 exact⟨v1,rfl,eo⟩
omit aA in
theorem ZO{c:List Int}(h3:3<=c.length)(fC:c.length<=258)(hm:dD 0 1099511627776 c=true):∃r,j3 r (fR c) (pF c)∧r<=40:=by
 obtain⟨_,_,_,_,_,_,_,v1,l,r,_,hr,gh,_⟩:=Zt 3000000 400 1 (H.set .nil 0 (some ⟨3,true,aJ .i64 c⟩)) _ c (Row.BO (get_eq _ _ _) (fp 0) rfl) h3 fC hm (av _) (av _)
 have e:=ZN hr gh
 rw[e]at hr
 exact⟨r,hr,gh⟩
theorem ajP(v:Value)(c:List Int)(hR:Row h n 3 .i64 v c)(h3:3<=c.length)(fC:c.length<=258)(hm:dD 0 1099511627776 c=true)(hd:300<=d):
 aj (fun _=>False) n (au ai gt lf (d+1) 82 #[v]) h n fun v' h' n'=>Row h' n' 3 .i64 v' (pF c):=by
 obtain⟨r,hr,gh⟩:=ZO h3 fC hm
 exact ajN lf d n h v c _ r hR (by omega) (fun x hx=>(iX.1 hm x hx).1) hr gh aA hd
omit aA in
theorem ZP{c:List Int}(h3:3<=c.length)(fC:c.length<=258)(hm:dD 0 1099511627776 c=true):(pF c).length=c.length∧dD 1 20 (pF c)=true∧iY (pF c)=1048576:=by
 obtain⟨r,hr,_⟩:=ZO h3 fC hm
 obtain⟨a,b,e⟩:=hr.whole
 rw[nu]at a
 exact⟨a,b,e⟩
end
def GoodT(s:Nat)(T:List (List Int)):Prop:=∀t∈T,t.length=s∧∀y∈t,0<=y∧y<=20
def GoodG(s:Nat)(gs:List (List Int)):Prop:=(∀g∈gs,g.length<=50∧dM s g=true)∧gs.length<=40000
noncomputable def qG (gs T:List (List Int)) (s:Nat):List (List Int):=(bL T.length).map fun p=>pF (pC gs T s p)
def eH(gs T:List (List Int)):List Int:=(fA gs T).map fun(x:Nat)=>(x:Int)
theorem um(gs T:List (List Int)):(fA gs T).length=gs.length:=by unfold fA;simp
theorem nv(gs T:List (List Int)):(eH gs T).length=gs.length:=by unfold eH;rw[dE,um]
theorem B6(gs T:List (List Int))(s p:Nat){GR:List (List Int)}{qs:List Nat}(hg:GoodG s gs)(hs:∀g∈GR,g∈gs)(hl:GR.length<=gs.length):dD 0 1099511627776 (cU (jd p GR qs) s)=true:=by
 refine iX.2 fun x hx=> ?_
 have h1:=Gu hx
 have h2:=BL p GR qs fun g fj=>(hg.1 g (hs g fj)).1
 have:=hg.2
 omega
theorem ajQ{s:Nat}{T:List (List Int)}{g:List Int}(hT:GoodT s T)(hs:s<=258)(hg:dM s g=true):∀t∈T,t.length<=1000000∧dD 0 1099511627776 t=true∧dM t.length g=true:=fun t ht=>by
 obtain⟨a,b⟩:=hT t ht
 exact⟨by omega,iX.2 fun y hy=>by have:=b y hy;omega,by rw[a];exact hg⟩
theorem ajR{gs T:List (List Int)}{s:Nat}(hg:GoodG s gs)(h3:3<=s)(fC:s<=258):GoodT s (qG gs T s):=by
 intro t ht
 unfold qG at ht
 obtain⟨p,_,rfl⟩:=Ht.1 ht
 have hl:(pC gs T s p).length=s:=jc _ _
 obtain⟨a,b,_⟩:=ZP (c:=pC gs T s p) (by omega) (by omega) (B6 gs T s p hg (fun _ h=>h) (av _))
 exact⟨by omega,fun y hy=>by have:=iX.1 b y hy;omega⟩
theorem ajS(gs T:List (List Int))(s:Nat):(qG gs T s).length=T.length:=by unfold qG;simp
section
variable (lf d n:Nat) (h:H) (aA:3000000<=lf)
include aA
set_option maxHeartbeats 1000000 in
theorem ajT(u v:Value)(gs T:List (List Int))(s:Nat)(hG:RR h n 22 3 u gs)(hT:RR h n 22 3 v T)(hg:GoodG s gs)(ht:GoodT s T)(h0:0<T.length)(h6:T.length<=6)(h3:3<=s)(fC:s<=258)(hd:500<=d):
 aj (fun _=>False) n (au ai gt lf d 101 #[u,v,.int .i64 (s:Int)]) h n fun v' h' n'=>∃x y,v'= .tuple #[x,y]∧Row h' n' 3 .i64 x (eH gs T)∧RR h' n' 22 3 y (qG gs T s):=by
 obtain⟨d,rfl⟩:∃e,d=e+8:=⟨d-8,by omega⟩
 rw[aQ (fun _=>UU) rfl]
 refine aj.aP ?_
 unfold E8
 have ZQ:=hG
 have ou:=hT
 obtain⟨a,c,rfl⟩:=hT.len
 obtain⟨a2,c2,rfl⟩:=hG.len
 obtain⟨t,nq⟩:∃t,T.length=t:=⟨_,rfl⟩
 rw[nq]at h0 h6 ou⊢
 try simp(disch:=first|omega|assumption|exact aa _) only[ah,ae,RZ]
 refine Ev.run_make trivial t t _ (av _) (by omega) ?_
 try simp(disch:=first|omega|assumption|exact aa _) only[ah,ae,RZ]
 let j2:Nat->Value:=fun j=> .slice (some ⟨n+1+j,0,none⟩) s s
 refine ed t (fun fu i (_:Unit)=>wD lf (au ai gt lf (d+7)) fu (A5 lf (au ai gt lf (d+7))) (.slice a2 gs.length c2) (.slice a t c) (.int .i64 (s:Nat)) (.slice none 0 0) (.slice none 0 0) (.slice none 0 0) (.slice (some ⟨n,0,none⟩) t t) (.int .i64 (t:Nat)) (.int .i64 (i:Nat)))
  (fun i _ h' n'=>n'=n+1+i∧(∀b,b<n->h'.get b=h.get b)∧h'.get n=some ⟨22,true,rc j2 (.slice none 0 0) t i⟩∧∀j,j<i->h'.get (n+1+j)=some ⟨3,true,aJ .i64 (bI s 0)⟩) ?_ ?_ lf 0 () _ _ (dx _) (by omega) ⟨rfl,fun b hb=>aK _ _ (by omega),by rw[get_eq,XR],fun j hj=>absurd hj (zQ j)⟩
 ·rintro fu _ h' n' ⟨rfl,hk,kV,hj⟩
  rw[wD]
  try simp(disch:=first|omega|assumption|exact aa _) only[ah,ae,RZ,bH]
  (try unfold A5);(try dsimp only)
  try simp(disch:=first|omega|assumption|exact aa _) only[ah,ae,RZ]
  rw[XS]at kV
  have Ma:=hg.2
  refine ed gs.length (fun fu i (q:Value)=>wE lf (au ai gt lf (d+7)) fu (A4 lf (au ai gt lf (d+7))) (.slice a2 gs.length c2) (.slice a t c) (.int .i64 (s:Nat)) (.slice none 0 0) (.slice none 0 0) q (.slice (some ⟨n,0,none⟩) t t) _ _ _ (.slice a2 gs.length c2) (.int .i64 (gs.length:Nat)) (.int .i64 (i:Nat)))
   (fun i q h' n'=>n<n'∧(∀b,b<n->h'.get b=h.get b)∧Own h' (n+1) n' 3 q (aJ .i64 ((eH gs T).take i))∧∃cs:List Value,h'.get n=some ⟨22,true,cs⟩∧cs.length=t∧∀p,p<t->Row h' n' 3 .i64 (cs.getD p undef) (cU (jd p (gs.take i) ((fA gs T).take i)) s)∧(∀b,aD (cs.getD p undef) b->¬aD q b)) ?_ ?_ lf 0 _ _ _ (dx _) (by omega) ⟨by omega,hk,Own.nil _ _ _ _,_,kV,by simp,fun p hp=>⟨?_,fun b _ q=>q.not_nil⟩⟩
  ·rintro fu q h' n' ⟨hn,hk,hO,cs,rS,fG,eo⟩
   rw[wE]
   try simp(disch:=first|omega|assumption|exact aa _) only[ah,ae,RZ,bH]
   (try unfold A4);(try unfold anA);(try dsimp only)
   try simp(disch:=first|omega|assumption|exact aa _) only[ah,ae,RZ]
   rw[hH (by rw[nv];exact av _)]at hO
   have Nr:∀p,p<t->Row h' n' 3 .i64 (cs.getD p undef) (pC gs T s p):=fun p hp=>by
    have:=(eo p hp).1
    rw[j7,hH (by rw[um];exact av _)]at this
    exact this
   have hx:=hO.row
   refine ed t (fun fu i (w:Value)=>wF lf (au ai gt lf (d+7)) fu (E7 lf (au ai gt lf (d+7))) (.slice a2 gs.length c2) (.slice a t c) (.int .i64 (s:Nat)) (.slice none 0 0) (.slice none 0 0) q (.slice (some ⟨n,0,none⟩) t t) w _ _ _ _ _ _ _ (.slice (some ⟨n,0,none⟩) t t) (.int .i64 (t:Nat)) (.int .i64 (i:Nat)))
    (fun i w h2 n2=>n'<=n2∧(∀b,b<n'->h2.get b=h'.get b)∧fz h2 n' n2 n2 22 3 w ((bL i).map fun p=>pF (pC gs T s p))) ?_ ?_ lf 0 _ _ _ (dx _) (by omega) ⟨av _,fun _ _=>rfl,fz.nil _ _ _ _ _ _⟩
   ·rintro fu w h2 n2 ⟨ey,bq,kB⟩
    rw[wF]
    try simp(disch:=first|omega|assumption|exact aa _) only[ah,ae,RZ,bH]
    (try unfold E7);(try unfold anB);(try dsimp only)
    try simp(disch:=first|omega|assumption|exact aa _) only[ah,ae,RZ]
    refine⟨_,_,rfl,hx.aB ey bq, ?_⟩
    have:=kB.rr
    unfold qG
    rw[nq]
    exact this
   ·rintro fu i w h2 n2 hi ⟨ey,bq,kB⟩ next
    have e1:((i:Nat):Int)<((t:Nat):Int):=by omega
    have ajU:h2.get n=some ⟨22,true,cs⟩:=(bq n (by omega)).trans rS
    have cx:cs[i]? =some (cs.getD i undef):=by rw[aF,aM (by omega)];rfl
    have gJ:n<n2:=by omega
    have Ns:=(Nr i hi).aB ey bq
    rw[wF]
    try simp(disch:=first|omega|assumption|exact aa _) only[ah,ae,RZ,e1,ajU,cx]
    refine bh aW (ajO lf (d+7) n2 h2 aA _ _ Ns (by show 3<=(cU _ _).length;rw[jc];exact h3) (by show(cU _ _).length<=258;rw[jc];exact fC) (B6 gs T s i hg (fun _ h=>h) (av _)) (by omega)) (by omega) (fun _ _ h=>h.elim) fun v1 h4 n4 jF kC hq=> ?_
    obtain⟨l,rfl,hl⟩:=hq
    have ZR:=(kB.aB jF fun b hb _=>kC b hb id).up jF
    try simp(disch:=first|omega|assumption|exact aa _) only[ah,ae,RZ,fk,ext1]
    refine Bw trivial (by decide) ZR hl (av _) (by simp;omega) (by omega) (by omega) _ fun v2 h5 o5 k5 _=> ?_
    try simp(disch:=first|omega|assumption|exact aa _) only[ah,ae,RZ]
    refine next v2 h5 (n4+2) ⟨by omega,fun b hb=> ?_, ?_⟩
    ·rw[k5 b (by omega) fun q=>by have:=(ZR.lt q).1;omega,kC b (by omega) id]
     exact bq b hb
    ·rw[pQ,eK]
     exact o5.up (by omega)
  ·rintro fu i q h' n' hi ⟨hn,hk,hO,cs,rS,fG,eo⟩ next
   have e1:((i:Nat):Int)<((gs.length:Nat):Int):=by omega
   obtain⟨b,off,cap,o,ks,hv,jb,hb,bk⟩:=(ZQ.aB (amW hn) hk).at (by omega)
   cases hv
   obtain⟨x,hx,xq⟩:=bk i hi
   have F6:=ou.aB (amW hn) hk
   have gm:gs.getD i []∈gs:=by rw[aF,aM hi];exact cN hi
   obtain⟨g1,g2⟩:=hg.1 _ gm
   have pl:=Y6 (gs.getD i []) (T:=T) (by omega)
   obtain⟨p,hp⟩:∃p,jD (gs.getD i []) T=p:=⟨_,rfl⟩
   rw[hp,nq]at pl
   rw[wE]
   try simp(disch:=first|omega|assumption|exact aa _) only[ah,ae,RZ,e1,jb,hx]
   refine bV (aje lf d n' h' aA x _ _ T xq F6 (by omega) (by omega) (ajQ ht fC g2)) (by omega) (fun _ _ h=>h.elim) ?_
   rw[hp]
   refine m4 trivial (ky _ _) hO (by rw[cT,cJ,nv];omega) (by omega) _ fun h2 dy bq=> ?_
   have pn:aJ .i64 ((eH gs T).take i)++[.int .i64 (p:Int)]=aJ .i64 ((eH gs T).take (i+1)):=by
    have:(eH gs T).take (i+1)=(eH gs T).take i++[(p:Int)]:=by
     rw[jI (by rw[nv];exact hi)]
     congr 2
     unfold eH fA
     simp only[oM]
     rw[<-hp,aF,aM hi]
     rfl
    rw[this]
    unfold aJ
    rw[eK]
    rfl
   rw[pn]at dy
   have Nt:(fA gs T).take (i+1)=(fA gs T).take i++[p]:=by
    rw[jI (by rw[um];exact hi)]
    congr 2
    unfold fA
    simp only[oM]
    rw[<-hp,aF,aM hi]
    rfl
   have Nu:gs.take (i+1)=gs.take i++[gs.getD i []]:=by
    rw[jI hi,aF,aM hi]
    rfl
   have ll:(aJ .i64 ((eH gs T).take i)).length=i:=by rw[cT,cJ,nv];omega
   rw[ll]
   have ZS:∀b,b<n+1->h2.get b=h'.get b:=fun b hb=>bq b (by omega) fun q=>by have:=(hO.lt q).1;omega
   have kB:Own h2 (n+1) (n'+2) 3 (.slice (some ⟨n'+1,0,none⟩) (i+1) (bc+(i+1))) (aJ .i64 ((eH gs T).take (i+1))):=Own.mk' dy (by omega) (by omega) (by rw[cT,cJ,nv];omega)
   have M6:Row h2 (n'+2) 3 .i64 x (gs.getD i []):=xq.fI (by omega) fun c hc=>bq c (xq.lt hc) fun q=>by
    obtain⟨q1,q2⟩:=hO.lt q
    have:=(ZQ.aB (av n) (fun _ _=>rfl))
    obtain⟨b',kM,cG,o',ks',bX,ajV,bO,ajW⟩:=this.at (by omega)
    cases bX
    obtain⟨x',lL,ajX⟩:=ajW i hi
    rw[hk b bO,ajV]at jb
    cases jb
    rw[lL]at hx
    cases hx
    have:=ajX.lt hc
    omega
   try simp(disch:=first|omega|assumption|exact aa _) only[ah,ae,RZ]
   refine bh aW (M5 lf (d+6) (n'+2) h2 aA x _ M6 (by omega) s h3 fC) (by omega) (fun _ _ h=>h.elim) fun v3 kX n3 fy dU ny=> ?_
   rcases ny with ⟨_,m,rfl,hm⟩|⟨oW,_⟩
   rotate_left
   ·rw[g2]at oW;cases oW
   have e2:((p:Nat):Int)<((t:Nat):Int):=by omega
   have ZT:kX.get n=some ⟨22,true,cs⟩:=by rw[dU n (by omega) id,ZS n (by omega)];exact rS
   have cx:cs[p]? =some (cs.getD p undef):=by rw[aF,aM (by omega)];rfl
   have gJ:n<n3:=by omega
   have ZU:∀j,j<t->Row kX n3 3 .i64 (cs.getD j undef) (cU (jd j (gs.take i) ((fA gs T).take i)) s):=fun j hj=>
    ((eo j hj).1.fI (show n'<=n'+2 by omega) fun c hc=>bq c ((eo j hj).1.lt hc) ((eo j hj).2 c hc)).aB fy fun c hc=>dU c hc id
   try simp(disch:=first|omega|assumption|exact aa _) only[ah,ae,RZ,fk,ext1,e2,ZT,cx]
   refine bh aW (aiX lf (d+1) n3 kX aA _ _ _ _ (ZU p pl) hm (by rw[jc];omega) (by rw[jc,jc]) (B6 gs T s p hg (fun g fj=>nC fj) (by rw[cJ];omega)) (iX.2 fun y hy=>by have:=Gu hy;omega)) (by omega) (fun _ _ h=>h.elim) fun v4 h4 n4 jF kC xy=> ?_
   obtain⟨z,rfl,hz,ZV⟩:=xy
   have Nv:h4.get n=some ⟨22,true,cs⟩:=(kC n gJ id).trans ZT
   have pD:n<n4:=by omega
   have ajY:one z=true:=by obtain⟨_,_,rfl⟩:=hz.len;rfl
   try simp(disch:=first|omega|assumption|exact aa _) only[ah,ae,RZ,fk,ext1,e2,Nv]
   refine Mn trivial n _ z _ Nv pD (by omega) ajY (.inl (av _)) ?_
   have za:=aiQ (jd p (gs.take i) ((fA gs T).take i)) (gs.getD i []) s (by
    have:=BL p (gs.take i) ((fA gs T).take i) fun g fj=>(hg.1 g (nC fj)).1
    rw[cJ]at this
    omega)
   rw[za]at hz
   have rr:∀{y:Value} {ys:List Int} {m:Nat} (q:Row h4 m 3 .i64 y ys),Row (h4.set n (some ⟨22,true,cs.set p z⟩)) m 3 .i64 y ys:=fun q=>q.fI (av _) fun c hc=>aK _ _ fun e=>by
    obtain⟨B,b1,b2⟩:=q.elem hc
    rw[e,Nv]at b1
    cases b1
    exact absurd (show(22:Nat)=3 from b2) (by decide)
   have oo:Own (h4.set n (some ⟨22,true,cs.set p z⟩)) (n+1) n4 3 (.slice (some ⟨n'+1,0,none⟩) (i+1) (bc+(i+1))) (aJ .i64 ((eH gs T).take (i+1))):=
    ((kB.aB fy fun c hc=>dU c (kB.lt hc).2 id).aB jF fun c hc=>kC c (by have:=(kB.lt hc).2;omega) id).aB (av _) fun c hc=>aK _ _ (by have:=(kB.lt hc).1;omega)
   refine next _ _ _ ⟨by omega,fun c hc=> ?_,oo,cs.set p z,get_eq _ _ _,by simp[fG],fun j hj=> ?_⟩
   ·rw[aK _ _ (by omega),kC c (by omega) id,dU c (by omega) id,ZS c (by omega)]
    exact hk c hc
   ·have al:(gs.take i).length=((fA gs T).take i).length:=by rw[cJ,cJ,um]
    rw[Nu,Nt,MU j _ _ _ _ al]
    by_cases e:j=p
    ·subst e
     have:(cs.set j z).getD j undef=z:=by rw[aF,List.getElem?_set_self (by omega)];rfl
     rw[this,if_pos rfl]
     exact⟨rr hz,fun c hc q=>by have:=ZV c hc;have:=q.inj;omega⟩
    ·have:(cs.set p z).getD j undef=cs.getD j undef:=by rw[aF,List.getElem?_set_ne (fun q=>e q.symm),aF]
     rw[this,if_neg (fun q=>e q.symm),dr]
     exact⟨rr ((ZU j hj).aB jF fun c hc=>kC c hc id),fun c hc q=>by have:=(eo j hj).1.lt hc;have:=q.inj;omega⟩
  ·have:((bL t).map j2).getD p undef=j2 p:=M7 _ _ hp
   rw[this]
   have e:cU (jd p (gs.take 0) ((fA gs T).take 0)) s=bI s 0:=by
    rw[qL,qL]
    exact YY s
   rw[e]
   exact Row.BO (hj p hp) (by omega) (by simp)
 ·rintro fu i _ h' n' hi ⟨rfl,hk,fj,hj⟩ next
  have e2:((i:Nat):Int)<((t:Nat):Int):=by omega
  rw[wD]
  try simp(disch:=first|omega|assumption|exact aa _) only[ah,ae,RZ,e2]
  refine Ev.run_make trivial s s _ (av _) (by omega) ?_
  have dy:(h'.set (n+1+i) (some ⟨3,true,bI s (.int .i64 0)⟩)).get n=some ⟨22,true,rc j2 (.slice none 0 0) t i⟩:=by rw[aK _ _ (by omega)];exact fj
  have pD:n<n+1+i+1:=by omega
  have rs:=XU (f:=j2) (z:= .slice none 0 0) hi
  have BW:j2 i= .slice (some ⟨n+1+i,0,none⟩) s s:=rfl
  rw[BW]at rs
  try simp(disch:=first|omega|assumption|exact aa _) only[ah,ae,RZ,e2,dy,rs,Mk]
  refine⟨hi,.inl (by omega), ?_⟩
  refine next () _ _ ⟨by omega,fun b hb=>by rw[aK _ _ (by omega),aK _ _ (by omega)];exact hk b hb,get_eq _ _ _,fun j ui=> ?_⟩
  rw[aK _ _ (by omega)]
  by_cases q:j=i
  ·subst q
   rw[get_eq,Gv]
  ·rw[aK _ _ (by omega)]
   exact hj j (by omega)
end
end Go.Proofs.YtdagfcflbphoiaaGreatDoor
