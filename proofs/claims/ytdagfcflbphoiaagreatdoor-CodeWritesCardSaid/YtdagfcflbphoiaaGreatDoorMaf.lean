import Derived.Test.YtdagfcflbphoiaaGreatDoorMae
import Derived.WideShapes
import Derived.WalkLawsBesides
import Derived.Test.YtdagfcflbphoiaaGreatDoorMac
import Derived.Test.YtdagfcflbphoiaaGreatDoorMad
open Int renaming natCast_nonneg→aa, lt_irrefl→bH, add_sub_cancel→amu
open Nat renaming reduceLT→ae, reduceAdd→ah, le_refl→av, zero_le→dx, add_mul→lj, sub_self→nE, lt_of_lt_of_le→qJ, one_mul→Cs, mul_le_mul_right→Og
open Go.Proofs.Tryz renaming prog→ai
open List renaming getD_eq_getElem?_getD→aF, getElem?_eq_getElem→aM, length_append→aY, replicate→bI, range→bL, append_assoc→cI, length_take→cJ, getElem_mem→cN, append_nil→dr, length_cons→dI, drop_zero→eJ, map_append→eK, take_of_length_le→hH, take_succ_eq_append_getElem→jI, length_replicate→jJ, length_drop→kG, length_nil→kH, take_append_drop→lq, map_cons→mF, ext_getElem→mI, mem_of_mem_take→nC, length→nD, getElem?_append_left→pO, map_congr_left→r8, range'→r9, length_set→su, getElem?_append_right→uC, nil_append→uD, mem_append_right→Ck, map_nil→Cw, drop_eq_getElem_cons→Ho, length_range→Hr, mem_map→Ht, map→Ox, length_tail→Oy, map_set→Oz, pairwise_append→OA, pairwise_cons→OB, mem_of_mem_drop→OC, take_sublist→aa9, mem_append_left→alP, drop_drop→ami, take_append_of_le_length→amp, perm_append_singleton→amv, perm_middle→amx, drop_sublist→amy, eq_nil_of_length_eq_zero→amz
open Bool renaming and_eq_true→cb, not_true→gM, not_false→iP, or_eq_false_iff→xJ
open Go.Value renaming int→gZ
open UInt8 renaming ofNat→nB
open Option renaming getD_some→zH
open Go.Lit renaming int→Cv
open List.Perm renaming refl→Cx
open List.Pairwise renaming nil→anP
set_option linter.unusedVariables false
set_option linter.unusedSimpArgs false
namespace Go.Proofs.YtdagfcflbphoiaaGreatDoor
end Go.Proofs.YtdagfcflbphoiaaGreatDoor
namespace Go.Proofs.YtdagfcflbphoiaaGreatDoor.Hu
structure HT where
 weight:List Int
 bz:List Int
 leaves:List Nat
 bb:Nat
def bt(t:HT)(i:Nat):Int:=t.weight.getD i 0
def gT(t:HT):Bool:=t.bb==t.weight.length||(decide (0<t.leaves.length)&&decide (bt t (t.leaves.getD 0 0)<=bt t t.bb))
def cV(t:HT):Nat:=if gT t then t.leaves.getD 0 0 else t.bb
def taken(t:HT):HT:=if gT t then{t with leaves:=t.leaves.tail}else{t with bb:=t.bb+1}
def jz(t:HT)(a b:Nat):HT:={t with weight:=t.weight++[bt t a+bt t b],bz:=((t.bz.set a t.weight.length).set b t.weight.length)++[-1]}
def rK(t:HT):HT:=jz (taken (taken t)) (cV t) (cV (taken t))
def dG:Nat->HT->HT
 |0,t=>t
 |k+1,t=>dG k (rK t)
theorem yQ:∀(k:Nat) (t:HT),dG (k+1) t=rK (dG k t)
 |0,_=>rfl
 |k+1,t=>by
  show dG (k+1) (rK t)=_
  rw[yQ k (rK t)]
  rfl
theorem FO(l r:List Int)(i:Nat)(h:i<l.length):(l++r).getD i 0=l.getD i 0:=by
 rw[aF,pO h,aF]
theorem qo(l:List Int)(i j:Nat)(v:Int):(l.set i v).getD j 0=if i=j∧i<l.length then v else l.getD j 0:=by
 simp only[aF,List.getElem?_set]
 by_cases h:i=j
 ·subst h
  by_cases h2:i<l.length
  ·simp[h2]
  ·simp[h2,List.getElem?_eq_none (show l.length<=i by omega)]
 ·simp[h]
def bp:List Int->Int
 |[]=>0
 |x::xs=>x+bp xs
theorem ot:∀a b:List Int,bp (a++b)=bp a+bp b
 |[],b=>by simp[bp]
 |x::a,b=>by simp only[List.cons_append,bp,ot a b];omega
theorem yR:∀(l:List Int),(∀x∈l,0<=x)->0<=bp l∧∀x∈l,x<=bp l
 |[],_=>⟨Int.le_refl _,fun x h=>by simp at h⟩
 |y::l,h=>by
  have ih:=yR l (fun x hx=>h x (by simp[hx]))
  have hy:=h y (by simp)
  refine⟨by simp only[bp];omega,fun x hx=> ?_⟩
  simp only[bp]
  rcases List.mem_cons.1 hx with e|e
  ·subst e;omega
  ·have:=ih.2 x e;omega
def rL(n k:Nat)(P:List Nat)(t:HT):List Nat:=P++t.leaves++r9 t.bb (n+k-t.bb)
structure iA (n k:Nat) (P:List Nat) (S:Int) (t:HT):Prop where
 wl:t.weight.length=n+k
 il:t.bz.length=n+k
 leaf:∀i∈t.leaves,i<n
 pl:∀i∈P,i<n+k
 jl:n<=t.bb
 jh:t.bb<=n+k
 left:t.leaves.length+(n+k-t.bb)+k+P.length=n
 pos:∀i,i<n+k->0<=bt t i∧bt t i<=S
 sum:bp ((rL n k P t).map (bt t))=S
 bz:∀i,i<n+k->i∉t.leaves->i<t.bb->i∉P->(i:Int)<t.bz.getD i 0∧t.bz.getD i 0<((n+k:Nat):Int)
theorem LO{n k:Nat}{P:List Nat}{S:Int}{t:HT}(h:iA n k P S t)(h1:1<=t.leaves.length+(n+k-t.bb))(hl:gT t=true):∃r,t.leaves=cV t::r∧taken t={t with leaves:=r}∧cV t<n:=by
 have bE:t.leaves≠[]:=by
  intro e
  unfold gT at hl
  rw[e]at hl
  simp at hl
  have:=h.wl
  rw[e]at h1
  simp at h1
  omega
 obtain⟨i,r,e⟩:=List.exists_cons_of_ne_nil bE
 have e2:cV t=i:=by unfold cV;rw[if_pos hl,e];rfl
 refine⟨r,by rw[e2];exact e,by unfold taken;rw[if_pos hl,e];rfl, ?_⟩
 rw[e2]
 exact h.leaf i (by rw[e];simp)
theorem W3{n k:Nat}{P:List Nat}{S:Int}{t:HT}(h:iA n k P S t)(hl:gT t=false):cV t=t.bb∧t.bb<n+k∧taken t={t with bb:=t.bb+1}:=by
 refine⟨by unfold cV;rw[hl];rfl, ?_,by unfold taken;rw[hl];rfl⟩
 unfold gT at hl
 rw[xJ,beq_eq_false_iff_ne]at hl
 have:=h.wl
 have:=h.jh
 omega
theorem iA.take{n k:Nat}{P:List Nat}{S:Int}{t:HT}(h:iA n k P S t)(h1:1<=t.leaves.length+(n+k-t.bb)):iA n k (P++[cV t]) S (taken t)∧cV t<n+k:=by
 cases hl:gT t with
 |true=>
  obtain⟨r,e1,e2,e3⟩:=LO h h1 hl
  generalize cV t=a at*
  rw[e2]
  have rM:=h.left
  rw[e1]at rM
  simp only[dI]at rM
  refine⟨⟨h.wl,h.il,fun i hi=>h.leaf i (by rw[e1];simp[hi]),fun i hi=> ?_,h.jl,h.jh,by simp only[aY,dI,kH];omega,h.pos, ?_,fun i hi h2 h3 h4=> ?_⟩,by omega⟩
  ·rcases List.mem_append.1 hi with h2|h2
   ·exact h.pl i h2
   ·simp at h2;omega
  ·have:=h.sum
   unfold rL at this⊢
   rw[e1]at this
   simp only[eK,mF,Cw,ot,bp]at this⊢
   show bp (P.map (bt t))+_+_+_=S
   have e9:bt {t with leaves:=r}=bt t:=rfl
   rw[e9]
   omega
  ·refine h.bz i hi (fun hm=> ?_) h3 (fun hp=>h4 (by simp[hp]))
   rw[e1]at hm
   rcases List.mem_cons.1 hm with e|e
   ·exact h4 (by simp[e])
   ·exact h2 e
 |false=>
  obtain⟨e1,e2,e3⟩:=W3 h hl
  rw[e3,e1]
  have rM:=h.left
  refine⟨⟨h.wl,h.il,h.leaf,fun i hi=> ?_,Nat.le_succ_of_le h.jl,e2,by simp only[aY,dI,kH];omega,h.pos, ?_,fun i hi h2 h3 h4=> ?_⟩,e2⟩
  ·rcases List.mem_append.1 hi with h2|h2
   ·exact h.pl i h2
   ·simp at h2;omega
  ·have:=h.sum
   unfold rL at this⊢
   obtain⟨d,hd⟩:∃d,n+k-t.bb=d+1:=⟨n+k-t.bb-1,by omega⟩
   rw[hd,List.range'_succ]at this
   show bp (Ox _ (P++[t.bb]++t.leaves++r9 (t.bb+1) (n+k-(t.bb+1))))=S
   rw[show n+k-(t.bb+1)=d by omega]
   simp only[eK,mF,Cw,ot,bp]at this⊢
   have e9:bt {t with bb:=t.bb+1}=bt t:=rfl
   rw[e9]
   omega
  ·have h3:i<t.bb+1:=h3
   refine h.bz i hi h2 ?_ (fun hp=>h4 (by simp[hp]))
   have:i≠t.bb:=fun e=>h4 (by simp[e])
   omega
theorem iA.join{n k a b:Nat}{S:Int}{t:HT}(h:iA n k [a,b] S t):iA n (k+1) [] S (jz t a b):=by
 have ha:=h.pl a (by simp)
 have hb:=h.pl b (by simp)
 have rM:=h.left
 have hjh:=h.jh
 have eM:=h.jl
 have yS:=h.sum
 simp only[dI,kH]at rM
 have bf:∀i,i<n+k->bt (jz t a b) i=bt t i:=fun i hi=>FO _ _ _ (by rw[h.wl];exact hi)
 have W4:bt (jz t a b) (n+k)=bt t a+bt t b:=by
  unfold bt jz
  rw[aF,uC (by rw[h.wl];exact av _),h.wl,nE]
  rfl
 have W5:∀l:List Nat,(∀i∈l,i<n+k)->l.map (bt (jz t a b))=l.map (bt t):=fun l hl=>r8 fun i hi=>bf i (hl i hi)
 have hr:∀i∈r9 t.bb (n+k-t.bb),i<n+k:=fun i hi=>by rw[List.mem_range'_1]at hi;omega
 have agW:∀i∈rL n k [a,b] t,i<n+k:=by
  intro i hi
  unfold rL at hi
  rcases List.mem_append.1 hi with h2|h2
  ·rcases List.mem_append.1 h2 with h3|h3
   ·exact h.pl i h3
   ·have:=h.leaf i h3;omega
  ·exact hr i h2
 have eL:=yR ((rL n k [a,b] t).map (bt t)) (fun x hx=>by
  rw[Ht]at hx
  obtain⟨i,hi,rfl⟩:=hx
  exact(h.pos i (agW i hi)).1)
 rw[yS]at eL
 have hab:bt t a+bt t b<=S:=by
  have h2:=yR ((t.leaves++r9 t.bb (n+k-t.bb)).map (bt t)) (fun x hx=>by
   rw[Ht]at hx
   obtain⟨i,hi,rfl⟩:=hx
   refine(h.pos i ?_).1
   rcases List.mem_append.1 hi with h3|h3
   ·have:=h.leaf i h3;omega
   ·exact hr i h3)
  have h3:=yS
  unfold rL at h3
  simp only[eK,mF,Cw,ot,bp]at h3 h2
  omega
 refine⟨by simp[jz,h.wl];omega,by simp[jz,h.il];omega,h.leaf,fun i hi=>by simp at hi,eM,by show t.bb<=_;omega,by show t.leaves.length+(n+(k+1)-t.bb)+(k+1)+0=n;omega,fun i hi=> ?_, ?_,fun i hi h2 h3 _=> ?_⟩
 ·by_cases e:i<n+k
  ·rw[bf i e];exact h.pos i e
  ·obtain rfl:i=n+k:=by omega
   rw[W4]
   have:=(h.pos a ha).1
   have:=(h.pos b hb).1
   omega
 ·unfold rL at yS⊢
  show bp (Ox _ ([]++t.leaves++r9 t.bb (n+(k+1)-t.bb)))=S
  rw[show n+(k+1)-t.bb=(n+k-t.bb)+1 by omega,List.range'_concat]
  simp only[uD,eK,mF,Cw,ot,bp]at yS⊢
  rw[W5 t.leaves (fun i hi=>by have:=h.leaf i hi;omega),W5 _ hr]
  rw[show t.bb+1*(n+k-t.bb)=n+k by omega,W4]
  omega
 ·have h3:i<t.bb:=h3
  have bR:=h.il
  have e1:(jz t a b).bz.getD i 0=if i=a∨i=b then((n+k:Nat):Int)else t.bz.getD i 0:=by
   unfold jz
   rw[FO _ _ _ (by simp;omega),qo,su,qo,h.wl]
   by_cases eb:b=i
   ·subst eb;rw[if_pos ⟨rfl,by omega⟩,if_pos (.inr rfl)]
   ·rw[if_neg (fun e=>eb e.1)]
    by_cases ea:a=i
    ·subst ea;rw[if_pos ⟨rfl,by omega⟩,if_pos (.inl rfl)]
    ·rw[if_neg (fun e=>ea e.1),if_neg (fun e=>by rcases e with e|e;exact ea e.symm;exact eb e.symm)]
  rw[e1]
  split
  ·omega
  ·rename_i hn
   have:=h.bz i (by omega) h2 h3 (fun e=>by simp at e;exact hn e)
   omega
end Go.Proofs.YtdagfcflbphoiaaGreatDoor.Hu
namespace Go.Proofs.YtdagfcflbphoiaaGreatDoor
open Go.RowKit Ev Hu
theorem LP{x:Nat}(h:x<9223372036854775807):IntKind.i64.wrap ((x:Int)+1)=((x+1:Nat):Int):=by rw[bB (by omega) (by omega)];rfl
theorem W6{x:Nat}(h:x<9223372036854775807):IntKind.i64.wrap (((x+1:Nat):Int)-1)=((x:Nat):Int):=by rw[bB (by omega) (by omega)];omega
theorem RZ:type_of%(And.intro @RA (And.intro @RC (And.intro @bB (And.intro @LP (And.intro @W6 (And.intro @J2 (And.intro @RK (And.intro @RL (And.intro @qk (And.intro @AJ (And.intro @RN (And.intro @RP (And.intro @RQ (And.intro @RS (And.intro @RU (And.intro @RV (And.intro @AK (And.intro @RW (And.intro @RX (@RY)))))))))))))))))))):=And.intro @RA (And.intro @RC (And.intro @bB (And.intro @LP (And.intro @W6 (And.intro @J2 (And.intro @RK (And.intro @RL (And.intro @qk (And.intro @AJ (And.intro @RN (And.intro @RP (And.intro @RQ (And.intro @RS (And.intro @RU (And.intro @RV (And.intro @AK (And.intro @RW (And.intro @RX (@RY)))))))))))))))))))
def ints(xs:List Int):List Value:=xs.map (gZ .i64)
def b9(xs:List Nat):List Value:=xs.map fun(x:Nat)=>gZ .i64 x
theorem jT(xs:List Int):(ints xs).length=xs.length:=by unfold ints;simp
theorem ints_at{xs:List Int}{i:Nat}(h:i<xs.length):(ints xs)[i]? =some (.int .i64 (xs.getD i 0)):=by
 unfold ints;simp[h]
structure m8 (h:H) (n g:Nat) (t:HT) (bw bi bl off cl:Nat) (cs:List Value):Prop where
 hg:h.get g=some ⟨164,true,[.slice (some ⟨bw,0,none⟩) t.weight.length (bc+t.weight.length),.slice (some ⟨bi,0,none⟩) t.bz.length (bc+t.bz.length),.slice (some ⟨bl,off,none⟩) t.leaves.length cl,.int .i64 (t.bb:Nat)]⟩
 hw:h.get bw=some ⟨3,true,ints t.weight⟩
 hi:h.get bi=some ⟨3,true,ints t.bz⟩
 hl:h.get bl=some ⟨3,true,cs⟩
 hlen:off+t.leaves.length<=cs.length
 eh:(cs.drop off).take t.leaves.length=b9 t.leaves
 fG:t.leaves.length<=cl
 d:g≠bw∧g≠bi∧g≠bl∧bw≠bi∧bw≠bl∧bi≠bl∧g<n∧bw<n∧bi<n∧bl<n
theorem W7{cs:List Value}{off:Nat}{l:List Nat}(eh:(cs.drop off).take l.length=b9 l){i:Nat}(hi:i<l.length):cs[off+i]? =some (.int .i64 (l.getD i 0:Nat)):=by
 have h:=congrArg (fun z=>z[i]?) eh
 simp only[List.getElem?_take,hi,if_true,List.getElem?_drop]at h
 rw[h]
 unfold b9
 simp[hi]
theorem m8.leaf {h:H} {n g:Nat} {t:HT} {bw bi bl off cl:Nat} {cs:List Value} (hT:m8 h n g t bw bi bl off cl cs) (bR:gT t=true) (h0:0<t.leaves.length) {kM:Nat} (ho:kM=off+1∨t.leaves.length=1∧kM=off) {x:H}
 (hx:x=h.set g (some ⟨164,true,[.slice (some ⟨bw,0,none⟩) t.weight.length (bc+t.weight.length),.slice (some ⟨bi,0,none⟩) t.bz.length (bc+t.bz.length),.slice (some ⟨bl,kM,none⟩) (t.leaves.length-1) (cl-1),.int .i64 (t.bb:Nat)]⟩)):m8 x n g (taken t) bw bi bl kM (cl-1) cs:=by
 obtain⟨hg,mo,jk,ew,hlen,eh,fG,hd⟩:=hT
 subst hx
 have e:taken t={t with leaves:=t.leaves.tail}:=by unfold taken;rw[if_pos bR]
 rw[e]
 refine⟨?_, ?_, ?_, ?_, ?_, ?_, ?_,hd⟩
 ·rw[get_eq];simp
 ·rw[aK _ _ (by omega)];exact mo
 ·rw[aK _ _ (by omega)];exact jk
 ·rw[aK _ _ (by omega)];exact ew
 ·simp only[Oy];omega
 ·simp only[Oy]
  rcases ho with ho|⟨ho,_⟩
  ·subst ho
   have:=congrArg List.tail eh
   unfold b9 at this⊢
   rw[<-List.map_tail]at this
   rw[<-this,<-List.drop_one,List.drop_take,ami]
  ·have:t.leaves.tail=[]:=by rw[<-List.length_eq_zero_iff,Oy];omega
   rw[this,ho]
   simp[b9]
 ·simp only[Oy];omega
theorem m8.bb {h:H} {n g:Nat} {t:HT} {bw bi bl off cl:Nat} {cs:List Value} (hT:m8 h n g t bw bi bl off cl cs) (bR:gT t=false) {x:H}
 (hx:x=h.set g (some ⟨164,true,[.slice (some ⟨bw,0,none⟩) t.weight.length (bc+t.weight.length),.slice (some ⟨bi,0,none⟩) t.bz.length (bc+t.bz.length),.slice (some ⟨bl,off,none⟩) t.leaves.length cl,.int .i64 ((t.bb+1:Nat):Int)]⟩)):m8 x n g (taken t) bw bi bl off cl cs:=by
 obtain⟨hg,mo,jk,ew,hlen,eh,fG,hd⟩:=hT
 subst hx
 have e:taken t={t with bb:=t.bb+1}:=by unfold taken;rw[bR];rfl
 rw[e]
 refine⟨?_, ?_, ?_, ?_,hlen,eh,fG,hd⟩
 ·rw[get_eq]
 ·rw[aK _ _ (by omega)];exact mo
 ·rw[aK _ _ (by omega)];exact jk
 ·rw[aK _ _ (by omega)];exact ew
theorem W8(lf d g n:Nat)(h:H)(t:HT)(bw bi bl off cl:Nat)(cs:List Value)(hT:m8 h n g t bw bi bl off cl cs)(eM:t.bb<=100000)(iB:t.leaves.length<=100000)(hw:t.weight.length<=100000)(cH:gT t=true->0<t.leaves.length)(z9:0<t.leaves.length->t.leaves.getD 0 0<t.weight.length)(anb:t.bb<=t.weight.length):
 aj (fun b=>b=g) n (au ai gt lf (d+1) 147 #[.pointer (some ⟨g,0,none⟩)]) h n fun v h' n'=>v= .int .i64 (cV t:Nat)∧n'=n∧∃kM W9,m8 h' n g (taken t) bw bi bl kM W9 cs:=by
 have ou:=hT
 obtain⟨hg,mo,jk,ew,hlen,eh,fG,hd⟩:=hT
 rw[aQ (fun _=>Wv) rfl]
 refine aj.aP ?_
 unfold Lz
 have kV:=hd.2.2.2.2.2.2.1
 have hwn:=hd.2.2.2.2.2.2.2.1
 have ml:=hd.2.2.2.2.2.2.2.2.2
 have hL:gT t=true->cV t=t.leaves.getD 0 0:=fun e=>by unfold cV;rw[if_pos e]
 have hJ:gT t=false->cV t=t.bb:=fun e=>by unfold cV;rw[e];rfl
 have anc:0<t.leaves.length->0<cl:=fun _=>by omega
 by_cases hj:t.bb=t.weight.length
 ·have bR:gT t=true:=by unfold gT;simp[hj]
  have h0:=cH bR
  have yE:cs[off]? =some (.int .i64 (t.leaves.getD 0 0:Nat)):=W7 eh h0
  have e1:(((t.bb:Nat):Int)==((t.weight.length:Nat):Int))=true:=by rw[hj];simp
  try simp(disch:=first|omega|assumption|exact aa _) only[ah,ae,RZ,hg,mo,jk,ew,e1,yE]
  refine D4 trivial (n0:=n) (l:=1) (hh:=t.leaves.length) ew rfl (by omega) off t.leaves.length cl _ _ (AE _ 1 0) (JQ _) (by omega) (by omega) (by omega) _ trivial ?_
  try simp(disch:=first|omega|assumption|exact aa _) only[ah,ae,RZ,hg]
  exact⟨by rw[hL bR],_,_,ou.leaf bR h0 (by split;exact .inr ⟨by omega,rfl⟩;exact .inl rfl) rfl⟩
 ·have e1:(((t.bb:Nat):Int)==((t.weight.length:Nat):Int))=false:=by rw[beq_eq_false_iff_ne];omega
  have hjw:t.bb<t.weight.length:=by omega
  have sM:(ints t.weight)[t.bb]? =some (.int .i64 (bt t t.bb)):=ints_at hjw
  by_cases h0:0<t.leaves.length
  ·have yE:cs[off]? =some (.int .i64 (t.leaves.getD 0 0:Nat)):=W7 eh h0
   have mn:=z9 h0
   have Xa:(ints t.weight)[t.leaves.getD 0 0]? =some (.int .i64 (bt t (t.leaves.getD 0 0))):=ints_at mn
   have re:(0:Int)<(t.leaves.length:Int):=by omega
   have bR:gT t=decide (bt t (t.leaves.getD 0 0)<=bt t t.bb):=by unfold gT;simp[hj,h0]
   by_cases hle:bt t (t.leaves.getD 0 0)<=bt t t.bb
   ·rw[decide_eq_true hle]at bR
    try simp(disch:=first|omega|assumption|exact aa _) only[ah,ae,RZ,hg,mo,jk,ew,e1,yE,Xa,sM,re,hle]
    refine D4 trivial (n0:=n) (l:=1) (hh:=t.leaves.length) ew rfl (by omega) off t.leaves.length cl _ _ (AE _ 1 0) (JQ _) (by omega) (by omega) (by omega) _ trivial ?_
    try simp(disch:=first|omega|assumption|exact aa _) only[ah,ae,RZ,hg]
    exact⟨by rw[hL bR],_,_,ou.leaf bR h0 (by split;exact .inr ⟨by omega,rfl⟩;exact .inl rfl) rfl⟩
   ·rw[decide_eq_false hle]at bR
    try simp(disch:=first|omega|assumption|exact aa _) only[ah,ae,RZ,hg,mo,jk,ew,e1,yE,Xa,sM,re,hle]
    exact⟨by rw[hJ bR,amu],_,_,ou.bb bR rfl⟩
  ·have re:¬(0:Int)<(t.leaves.length:Int):=by omega
   have bR:gT t=false:=by unfold gT;simp[hj,h0]
   try simp(disch:=first|omega|assumption|exact aa _) only[ah,ae,RZ,hg,mo,jk,ew,e1,sM,re]
   exact⟨by rw[hJ bR,amu],_,_,ou.bb bR rfl⟩
theorem ints_set(xs:List Int)(i:Nat)(v:Int):(ints xs).set i (.int .i64 v)=ints (xs.set i v):=by unfold ints;rw[Oz]
theorem Xb(xs:List Int)(v:Int):ints xs++[.int .i64 v]=ints (xs++[v]):=by unfold ints;simp
set_option maxHeartbeats 1000000 in
theorem agX(lf d g n a b:Nat)(h:H)(t:HT)(bw bi bl off cl:Nat)(cs:List Value)(hT:m8 h n g t bw bi bl off cl cs)(hw:t.weight.length<=100000)(hi:t.bz.length=t.weight.length)(ha:a<t.weight.length)(hb:b<t.weight.length)(hs:∀x∈t.weight,0<=x∧x<=1152921504606846976):
 aj (fun x=>x=g∨x=bw∨x=bi) n (au ai gt lf (d+1) 148 #[.pointer (some ⟨g,0,none⟩),.int .i64 (a:Nat),.int .i64 (b:Nat)]) h n fun v h' n'=>v= .tuple #[]∧n<=n'∧∃Bk yT,m8 h' n' g (jz t a b) Bk yT bl off cl cs∧n<=Bk∧n<=yT:=by
 have ou:=hT
 obtain⟨hg,mo,jk,ew,hlen,eh,fG,hd⟩:=hT
 rw[aQ (fun _=>Ww) rfl]
 refine aj.aP ?_
 unfold LA
 have kV:=hd.2.2.2.2.2.2.1
 have hwn:=hd.2.2.2.2.2.2.2.1
 have bP:=hd.2.2.2.2.2.2.2.2.1
 have Xc:(ints t.weight)[a]? =some (.int .i64 (bt t a)):=ints_at ha
 have Xd:(ints t.weight)[b]? =some (.int .i64 (bt t b)):=ints_at hb
 have sa:0<=bt t a∧bt t a<=1152921504606846976:=hs _ (by unfold bt;simp[ha])
 have sb:0<=bt t b∧bt t b<=1152921504606846976:=hs _ (by unfold bt;simp[hb])
 try simp(disch:=first|omega|assumption|exact aa _) only[ah,ae,RZ,hg,mo,jk,ints_set,jT,su,Xc,Xd]
 refine⟨by omega,by omega, ?_⟩
 refine D3 trivial (ky _ _) (by rw[aK _ _ (by omega),aK _ _ (by omega)];exact mo) (by omega) (jT _) (by omega) (by omega) (.inr (.inr (.inl rfl))) _ ?_
 try simp(disch:=first|omega|assumption|exact aa _) only[ah,ae,RZ,hg,mo,jk,ints_set,jT,su,Xc,Xd]
 refine D3 trivial (cs:=ints ((t.bz.set a (t.weight.length:Nat)).set b (t.weight.length:Nat))) (ky _ _) (by try simp(disch:=first|omega|assumption|exact aa _) only[ah,ae,RZ]) (by omega) (by simp[jT]) (by omega) (by omega) (.inr (.inr (.inr rfl))) _ ?_
 try simp(disch:=first|omega|assumption|exact aa _) only[ah,ae,RZ,hg,mo,jk]
 refine⟨by omega,n+1,n+2+1, ?_,by omega,by omega⟩
 refine⟨?_, ?_, ?_, ?_,hlen,eh,fG,by omega⟩
 ·try simp(disch:=first|omega|assumption|exact aa _) only[ah,ae,RZ]
  simp[jz]
 ·try simp(disch:=first|omega|assumption|exact aa _) only[ah,ae,RZ]
  rw[Xb];rfl
 ·try simp(disch:=first|omega|assumption|exact aa _) only[ah,ae,RZ]
  rw[Xb];rfl
 ·try simp(disch:=first|omega|assumption|exact aa _) only[ah,ae,RZ,ew]
end Go.Proofs.YtdagfcflbphoiaaGreatDoor
namespace Go.Proofs.YtdagfcflbphoiaaGreatDoor
open Go.RowKit Hu
def Bl(x y:Int):Int:=if x<y then-1 else if y<x then 1 else 0
def RI(k:Nat->Int)(a b:Nat):Prop:=k a<k b∨k a=k b∧a<b
theorem agY{k:Nat->Int}{L R:List Nat}{x:Nat}(h:(L++R).Pairwise (RI k))(h1:∀r∈R,k x<k r)(h2:∀l∈L,k l<=k x)(h3:∀l∈L,k l=k x->l<x):(L++x::R).Pairwise (RI k):=by
 rw[OA]at h⊢
 refine⟨h.1, ?_,fun a ha b hb=> ?_⟩
 ·rw[OB]
  exact⟨fun r hr=> .inl (h1 r hr),h.2.1⟩
 ·rcases List.mem_cons.1 hb with e|e
  ·subst e
   have:=h2 a ha
   by_cases he:k a=k b
   ·exact .inr ⟨he,h3 a ha he⟩
   ·exact .inl (by omega)
  ·exact h.2.2 a ha b e
def aZ(ws:List Int)(i:Nat):Int:=ws.getD i 0
theorem agZ(pre:List Nat)(v:Nat)(post:List Nat):(pre++v::post).getD pre.length 0=v:=by
 simp[aF]
theorem FP(x y:Int):decide (Bl x y<0)=decide (x<y):=by
 unfold Bl
 by_cases h:x<y
 ·simp[h]
 ·by_cases h2:y<x
  ·simp[h,h2]
  ·simp[h,h2]
theorem qp(pre:List Nat)(v:Nat)(post:List Nat)(j:Nat)(hj:j=pre.length):(pre++v::post).getD j 0=v:=by subst hj;exact agZ _ _ _
theorem ub(pre:List Nat)(v u:Nat)(post:List Nat)(j:Nat)(hj:j=pre.length):(pre++v::post).set j u=pre++u::post:=by
 subst hj
 rw[List.set_append_right (h:=av _),nE];rfl
theorem RI.trans'{k:Nat->Int}{a b c:Nat}(h1:RI k a b)(h2:RI k b c):RI k a c:=by
 unfold RI at*
 omega
theorem LQ{k:Nat->Int}{x y:Nat}(kW:x<y)(h:¬k y<k x):RI k x y:=by
 unfold RI
 omega
theorem Bm{k:Nat->Int}{L:List Nat}(h:L.Pairwise (RI k)){i j:Nat}(ij:i<=j)(hj:j<L.length):L.getD i 0=L.getD j 0∨RI k (L.getD i 0) (L.getD j 0):=by
 rcases Nat.lt_or_eq_of_le ij with bf|rfl
 ·right
  have:=List.pairwise_iff_getElem.1 h i j (by omega) hj bf
  rw[aF,aF,aM (by omega),aM hj]
  exact this
 ·left;rfl
theorem LR{k:Nat->Int}{L:List Nat}(h:L.Pairwise (RI k)){i j c:Nat}(ij:i<=j)(hj:j<L.length)(hc:RI k (L.getD j 0) c):RI k (L.getD i 0) c:=by
 rcases Bm h ij hj with e|e
 ·rw[e];exact hc
 ·exact e.trans' hc
theorem LS{k:Nat->Int}{L:List Nat}(h:L.Pairwise (RI k)){i j c:Nat}(ij:i<=j)(hj:j<L.length)(hc:RI k c (L.getD i 0)):RI k c (L.getD j 0):=by
 rcases Bm h ij hj with e|e
 ·rw[<-e];exact hc
 ·exact hc.trans' e
theorem LU{L:List Nat}{n:Nat}{u:Nat}(h:u∈L.take n):∃i,i<n∧i<L.length∧L.getD i 0=u:=by
 obtain⟨i,hi,e⟩:=List.mem_iff_getElem.1 h
 rw[cJ]at hi
 refine⟨i,by omega,by omega, ?_⟩
 rw[List.getElem_take]at e
 rw[aF,aM (by omega)]
 exact e
theorem Bn{L:List Nat}{n:Nat}{u:Nat}(h:u∈L.drop n):∃i,n<=i∧i<L.length∧L.getD i 0=u:=by
 obtain⟨i,hi,e⟩:=List.mem_iff_getElem.1 h
 rw[kG]at hi
 refine⟨n+i,by omega,by omega, ?_⟩
 rw[List.getElem_drop]at e
 rw[aF,aM (by omega)]
 exact e
theorem ag0{k:Nat->Int}{L R:List Nat}{x:Nat}(h:(L++R).Pairwise (RI k))(h1:∀r∈R,RI k x r)(h2:∀l∈L,RI k l x):(L++x::R).Pairwise (RI k):=by
 rw[OA]at h⊢
 refine⟨h.1, ?_,fun a ha b hb=> ?_⟩
 ·rw[OB]
  exact⟨h1,h.2.1⟩
 ·rcases List.mem_cons.1 hb with e|e
  ·subst e;exact h2 a ha
  ·exact h.2.2 a ha b e
theorem Xe{k:Nat->Int}{Y:List Nat}{x p:Nat}(hy:Y.Pairwise (RI k))(hp:p<=Y.length)(h1:p=0∨RI k (Y.getD (p-1) 0) x)(h2:p=Y.length∨RI k x (Y.getD p 0)):(Y.take p++x::Y.drop p).Pairwise (RI k):=by
 refine ag0 (by rw[lq];exact hy) (fun r hr=> ?_) (fun l hl=> ?_)
 ·obtain⟨i,hi,hl,rfl⟩:=Bn hr
  rcases h2 with h|h
  ·omega
  ·exact LS hy hi hl h
 ·obtain⟨i,hi,hl,rfl⟩:=LU hl
  rcases h1 with h|h
  ·omega
  ·exact LR hy (by omega) (by omega) h
theorem ag1{k:Nat->Int}{X Y:List Nat}(hx:X.Pairwise (RI k))(hy:Y.Pairwise (RI k))(h s:Nat)(hs:s<=X.length)(hh:s<=h)(he:h-s<=Y.length)(c1:s=0∨h-s=Y.length∨RI k (X.getD (s-1) 0) (Y.getD (h-s) 0))(c2:s=X.length∨s=h∨RI k (Y.getD (h-1-s) 0) (X.getD s 0)):∀u∈X.take s++Y.take (h-s),∀v∈X.drop s++Y.drop (h-s),RI k u v:=by
 intro u hu v hv
 rcases List.mem_append.1 hu with hu|hu
 ·obtain⟨i,hi,bR,rfl⟩:=LU hu
  rcases List.mem_append.1 hv with hv|hv
  ·obtain⟨j,hj,eM,rfl⟩:=Bn hv
   rcases Bm hx (i:=i) (j:=j) (by omega) eM with e|e
   ·exfalso
    have:=List.pairwise_iff_getElem.1 hx i j (by omega) eM (by omega)
    rw[aF,aF,aM (by omega),aM eM]at e
    unfold RI at this
    simp only[zH]at e
    rw[e]at this
    omega
   ·exact e
  ·obtain⟨j,hj,eM,rfl⟩:=Bn hv
   rcases c1 with h1|h1|h1
   ·omega
   ·omega
   ·exact LR hx (j:=s-1) (by omega) (by omega) (LS hy hj eM h1)
 ·obtain⟨i,hi,bR,rfl⟩:=LU hu
  rcases List.mem_append.1 hv with hv|hv
  ·obtain⟨j,hj,eM,rfl⟩:=Bn hv
   rcases c2 with h1|h1|h1
   ·omega
   ·omega
   ·exact LR hy (j:=h-1-s) (by omega) (by omega) (LS hx hj eM h1)
  ·obtain⟨j,hj,eM,rfl⟩:=Bn hv
   rcases Bm hy (i:=i) (j:=j) (by omega) eM with e|e
   ·exfalso
    have:=List.pairwise_iff_getElem.1 hy i j (by omega) eM (by omega)
    rw[aF,aF,aM (by omega),aM eM]at e
    unfold RI at this
    simp only[zH]at e
    rw[e]at this
    omega
   ·exact e
theorem ag2{k:Nat->Int}{Z1 Z2 X Y:List Nat}{h s:Nat}(p1:Z1.Perm (X.take s++Y.take (h-s)))(p2:Z2.Perm (X.drop s++Y.drop (h-s)))(s1:Z1.Pairwise (RI k))(s2:Z2.Pairwise (RI k))(hc:∀u∈X.take s++Y.take (h-s),∀v∈X.drop s++Y.drop (h-s),RI k u v):(Z1++Z2).Perm (X++Y)∧(Z1++Z2).Pairwise (RI k):=by
 refine⟨(p1.append p2).trans ?_,OA.2 ⟨s1,s2,fun a ha b hb=>hc a (p1.mem_iff.1 ha) b (p2.mem_iff.1 hb)⟩⟩
 have e1:X.take s++Y.take (h-s)++(X.drop s++Y.drop (h-s))=X.take s++(Y.take (h-s)++X.drop s)++Y.drop (h-s):=by simp
 have e2:X++Y=X.take s++(X.drop s++Y.take (h-s))++Y.drop (h-s):=by
  have a1:=lq s X
  have a2:=lq (h-s) Y
  calc X++Y=(X.take s++X.drop s)++(Y.take (h-s)++Y.drop (h-s)):=by rw[a1,a2]
   _=_:=by simp only[cI]
 rw[e1,e2]
 exact((List.perm_append_comm).append_left _).append_right _
theorem FQ(P X Q:List Nat)(i j:Nat)(hj:j=P.length+i)(hi:i<X.length):(P++X++Q).getD j 0=X.getD i 0:=by
 subst hj
 rw[aF,aF,cI,uC (by omega),Nat.add_sub_cancel_left,pO hi]
def BS(k:Nat->Int)(c:Nat)(D:List Nat):Prop:=∀i,((D.drop (i*c)).take c).Pairwise (RI k)∧∀x∈D.take (i*c),∀y∈D.drop (i*c),x<y
theorem BS.nil(k:Nat->Int)(c:Nat):BS k c []:=fun i=>⟨by simp,fun x hx=>by simp at hx⟩
theorem BS.drop{k:Nat->Int}{c:Nat}{D:List Nat}(h:BS k c D)(m:Nat):BS k c (D.drop (m*c)):=by
 intro i
 have h1:=h (m+i)
 rw[lj]at h1
 rw[ami]
 refine⟨h1.1,fun x hx y hy=>h1.2 x ?_ y hy⟩
 rw[List.take_drop]at hx
 exact OC hx
theorem BS.first{k:Nat->Int}{c:Nat}{D:List Nat}(h:BS k c D):(D.take c).Pairwise (RI k):=by
 have:=(h 0).1
 rw[Nat.zero_mul,eJ]at this
 exact this
theorem BS.Xf{k:Nat->Int}{c:Nat}{D:List Nat}(h:BS k c D):∀x∈D.take c,∀y∈D.drop c,x<y:=by
 have:=(h 1).2
 rw[Cs]at this
 exact this
theorem BS.snoc{k:Nat->Int}{c t:Nat}{U Z:List Nat}(h:BS k c U)(hl:U.length=t*c)(hz:Z.length<=c)(hs:Z.Pairwise (RI k))(hc:∀x∈U,∀z∈Z,x<z):BS k c (U++Z):=by
 intro i
 rcases Nat.lt_trichotomy i t with bf|heq|hgt
 ·have hi:i*c+c<=U.length:=by
   rw[hl]
   have:=Og c (show i+1<=t by omega)
   rw[lj]at this
   omega
  have h1:=h i
  rw[List.drop_append_of_le_length (by omega),amp (by rw[kG];omega),amp (by omega)]
  refine⟨h1.1,fun x hx y hy=> ?_⟩
  rcases List.mem_append.1 hy with hy|hy
  ·exact h1.2 x hx y hy
  ·exact hc x (nC hx) y hy
 ·subst heq
  rw[<-hl,List.drop_left,List.take_left,hH hz]
  exact⟨hs,hc⟩
 ·have hi:(U++Z).length<=i*c:=by
   rw[aY,hl]
   have:=Og c (show t+1<=i by omega)
   rw[lj]at this
   omega
  rw[List.drop_of_length_le hi]
  exact⟨by simp,fun x hx y hy=>by simp at hy⟩
theorem BS.all{k:Nat->Int}{c:Nat}{D:List Nat}(h:BS k c D)(hl:D.length<=c):D.Pairwise (RI k):=by
 have:=h.first
 rwa[hH hl]at this
def qq(k:Nat->Int)(xs:List Nat)(t:Nat)(U V:List Nat):Prop:=U.length=t*20∧BS k 20 U∧V.Pairwise (fun a b=>a<b)∧(∀x∈U,∀y∈V,x<y)∧(U++V).Perm xs
theorem qq.start(k:Nat->Int){xs:List Nat}(h:xs.Pairwise (fun a b=>a<b)):qq k xs 0 [] xs:=⟨by simp,BS.nil k 20,h,fun x hx=>by simp at hx,Cx _⟩
theorem Xg{U V Z:List Nat}{n:Nat}(p:Z.Perm (V.take n)):(U++Z++V.drop n).Perm (U++V):=by
 have h:=((p.append_left U).append_right (V.drop n))
 rw[cI U (V.take n),lq]at h
 exact h
theorem qq.next{k:Nat->Int}{xs U V Z:List Nat}{t:Nat}(h:qq k xs t U V)(hV:20<=V.length)(p:Z.Perm (V.take 20))(s:Z.Pairwise (RI k)):qq k xs (t+1) (U++Z) (V.drop 20):=by
 obtain⟨h1,h2,h3,h4,h5⟩:=h
 have hz:Z.length=20:=by rw[p.length_eq,cJ];omega
 have hm:∀z∈Z,z∈V.take 20:=fun z hz=>p.mem_iff.1 hz
 have kX:(V.take 20++V.drop 20).Pairwise (fun a b=>a<b):=by rw[lq];exact h3
 rw[OA]at kX
 refine⟨by rw[aY,h1,hz,lj],h2.snoc h1 (by omega) s fun x hx z hz=>h4 x hx z (nC (hm z hz)),kX.2.1,fun x hx y hy=> ?_,(Xg p).trans h5⟩
 rcases List.mem_append.1 hx with hx|hx
 ·exact h4 x hx y (OC hy)
 ·exact kX.2.2 x (hm x hx) y hy
theorem qq.last{k:Nat->Int}{xs U V Z:List Nat}{t:Nat}(h:qq k xs t U V)(hV:V.length<20)(p:Z.Perm V)(s:Z.Pairwise (RI k)):BS k 20 (U++Z)∧(U++Z).Perm xs:=by
 obtain⟨h1,h2,h3,h4,h5⟩:=h
 exact⟨h2.snoc h1 (by rw[p.length_eq];omega) s fun x hx z hz=>h4 x hx z (p.mem_iff.1 hz),(p.append_left U).trans h5⟩
def ox(k:Nat->Int)(xs:List Nat)(C t:Nat)(U V:List Nat):Prop:=U.length=t*(2*C)∧BS k (2*C) U∧BS k C V∧(∀x∈U,∀y∈V,x<y)∧(U++V).Perm xs
theorem ox.start{k:Nat->Int}{xs D:List Nat}{C:Nat}(h:BS k C D)(p:D.Perm xs):ox k xs C 0 [] D:=⟨by simp,BS.nil k _,h,fun x hx=>by simp at hx,p⟩
theorem Xh(V:List Nat)(C:Nat):V.take C++(V.drop C).take C=V.take (2*C):=by
 rw[Nat.two_mul,List.take_add]
theorem ox.next{k:Nat->Int}{xs U V Z:List Nat}{C t:Nat}(h:ox k xs C t U V)(hV:2*C<=V.length)(p:Z.Perm (V.take C++(V.drop C).take C))(s:Z.Pairwise (RI k)):ox k xs C (t+1) (U++Z) (V.drop (2*C)):=by
 obtain⟨h1,h2,h3,h4,h5⟩:=h
 rw[Xh]at p
 have hz:Z.length=2*C:=by rw[p.length_eq,cJ];omega
 have hm:∀z∈Z,z∈V.take (2*C):=fun z hz=>p.mem_iff.1 hz
 refine⟨by rw[aY,h1,hz,lj,Cs],h2.snoc h1 (by omega) s fun x hx z hz=>h4 x hx z (nC (hm z hz)),h3.drop 2,fun x hx y hy=> ?_,(Xg p).trans h5⟩
 rcases List.mem_append.1 hx with hx|hx
 ·exact h4 x hx y (OC hy)
 ·exact(h3 2).2 x (hm x hx) y hy
theorem ox.last{k:Nat->Int}{xs U V Z:List Nat}{C t:Nat}(h:ox k xs C t U V)(hV:V.length<2*C)(p:Z.Perm (V.take C++V.drop C))(s:Z.Pairwise (RI k)):BS k (2*C) (U++Z)∧(U++Z).Perm xs:=by
 obtain⟨h1,h2,h3,h4,h5⟩:=h
 rw[lq]at p
 exact⟨h2.snoc h1 (by rw[p.length_eq];omega) s fun x hx z hz=>h4 x hx z (p.mem_iff.1 hz),(p.append_left U).trans h5⟩
theorem ox.none{k:Nat->Int}{xs U V:List Nat}{C t:Nat}(h:ox k xs C t U V)(hV:V.length<=C):BS k (2*C) (U++V)∧(U++V).Perm xs:=by
 obtain⟨h1,h2,h3,h4,h5⟩:=h
 exact⟨h2.snoc h1 (by omega) (h3.all hV) fun x hx z hz=>h4 x hx z hz,h5⟩
end Go.Proofs.YtdagfcflbphoiaaGreatDoor
namespace Go.Proofs.YtdagfcflbphoiaaGreatDoor
open Go.RowKit Ev Hu
theorem ag3{β:Type}{rec:FuncId->Array Value->M Value}(g:FuncId)(hb:mL ai g=true)(c:Value)(a b:Value)(k:Value->M β):fO ai rec (.func (.func g) #[] #[c]) [a,b] k=az rec g [a,b,c] k:=by
 unfold fO
 show aS (some _) _=_
 rw[vz]
 simp only[hb]
 exact(pc _ _).symm
theorem FU{β:Type}{rec:FuncId->Array Value->M Value}(c:Value)(a b:Value)(k:Value->M β):fO ai rec (.func (.func 150) #[] #[c]) [a,b] k=az rec 150 [a,b,c] k:=ag3 _ (by kernel_rfl) c a b k
theorem Xi(lf d:Nat)(h:H)(n:Nat)(x:Int):aj (fun _=>False) n (au ai gt lf (d+1) 153 #[.int .i64 x]) h n fun v h' n'=>v= .bool false∧h'=h∧n'=n:=by
 rw[aQ (fun _=>WH) rfl]
 refine aj.aP ?_
 unfold LG
 have e:(x !=x)=false:=by simp
 try simp(disch:=first|omega|assumption|exact aa _) only[ah,ae,RZ,e]
theorem ag4(lf d:Nat)(h:H)(n:Nat)(x y:Int):aj (fun _=>False) n (au ai gt lf (d+2) 151 #[.int .i64 x,.int .i64 y]) h n fun v h' n'=>v= .int .i64 (Bl x y)∧h'=h∧n'=n:=by
 rw[aQ (fun _=>Wz) rfl]
 refine aj.aP ?_
 unfold LD
 refine bV (Xi _ _ _ _ _) (av _) (fun _ _ h=>h.elim) ?_
 refine bV (Xi _ _ _ _ _) (av _) (fun _ _ h=>h.elim) ?_
 unfold Bl
 try simp(disch:=first|omega|assumption|exact aa _) only[ah,ae,RZ]
 by_cases h1:x<y
 ·simp[h1]
 ·by_cases h2:y<x
  ·simp[h1,h2]
  ·simp[h1,h2]
structure jU (h:H) (n g pw:Nat) (ws:List Int):Prop where
 ex:∃wb off cap e1 o1 e2 o2 cs,h.get pw=some ⟨e1,o1,[.slice (some ⟨wb,off,none⟩) ws.length cap]⟩∧h.get wb=some ⟨e2,o2,cs⟩∧wb<n∧wb≠g∧∀i,i<ws.length->cs[off+i]? =some (.int .i64 (ws.getD i 0))
 pn:pw<n
 pg:pw≠g
theorem jU.keeps{h h':H}{n g pw:Nat}{ws:List Int}(e:jU h n g pw ws)(k:∀b,b≠g->h'.get b=h.get b):jU h' n g pw ws:=by
 obtain⟨⟨wb,off,cap,e1,o1,e2,o2,cs,h1,h2,h3,h4,h5⟩,h6,h7⟩:=e
 exact⟨⟨wb,off,cap,e1,o1,e2,o2,cs,by rw[k pw h7];exact h1,by rw[k wb h4];exact h2,h3,h4,h5⟩,h6,h7⟩
theorem FV(lf d a b:Nat)(h:H)(n g pw:Nat)(ws:List Int)(hE:jU h n g pw ws)(ha:a<ws.length)(hb:b<ws.length):aj (fun _=>False) n (au ai gt lf (d+3) 150 #[.int .i64 (a:Nat),.int .i64 (b:Nat),.pointer (some ⟨pw,0,none⟩)]) h n fun v h' n'=>v= .int .i64 (Bl (aZ ws a) (aZ ws b))∧h'=h∧n'=n:=by
 obtain⟨⟨wb,off,cap,e1,o1,e2,o2,cs,h1,h2,h3,h4,h5⟩,h6,h7⟩:=hE
 have c1:cs[off+a]? =some (.int .i64 (aZ ws a)):=h5 a ha
 have c2:cs[off+b]? =some (.int .i64 (aZ ws b)):=h5 b hb
 rw[aQ (fun _=>Wy) rfl]
 refine aj.aP ?_
 unfold LC
 try simp(disch:=first|omega|assumption|exact aa _) only[ah,ae,RZ,h1,h2,c1,c2]
 refine bV (ag4 _ _ _ _ _ _) (av _) (fun _ _ h=>h.elim) ?_
 try simp(disch:=first|omega|assumption|exact aa _) only[ah,ae,RZ]
theorem mq{xs:List Nat}{i:Nat}(h:i<xs.length):(b9 xs)[i]? =some (.int .i64 (xs.getD i 0:Nat)):=by unfold b9;simp[h]
theorem rN(xs:List Nat):(b9 xs).length=xs.length:=by unfold b9;simp
theorem FW(xs:List Nat)(i v:Nat):(b9 xs).set i (.int .i64 (v:Nat))=b9 (xs.set i v):=by unfold b9;rw[Oz]
def At(h hr:H)(g:Nat)(xs:List Nat):Prop:=hr.get g=some ⟨3,true,b9 xs⟩∧∀b,b≠g->hr.get b=h.get b
theorem At.set{h hr:H}{g:Nat}{xs ys:List Nat}(a:At h hr g xs){e:TypeId}{o:Bool}(he:e=3)(ho:o=true):At h (hr.set g (some ⟨e,o,b9 ys⟩)) g ys:=by
 subst he ho
 exact⟨get_eq _ _ _,fun b hb=>by rw[aK _ _ hb];exact a.2 b hb⟩
set_option maxHeartbeats 1000000 in
theorem ag5 (lf d g n cap pw:Nat) (ws:List Int) (h:H) (pre post Y:List Nat) (x:Nat) (D:List Nat) (N:Nat) (hN:(pre++(D++x::Y)++post).length=N) (di:N<=1000000) (hE:jU h n g pw ws) (hg:g<n) (hx:x<ws.length) (hD:∀z∈D,z<ws.length) {W:Nat->Prop} {n0:Nat} (dF:n0<=n) (hW:n0<=g∨W g) {Q:Value->H->Nat->Prop} (k:V->V->V->V->V->M V) (x2 x8 x14:Value)
 (hK:∀L R hr,L++R=D->(∀r∈R,aZ ws x<aZ ws r)->(L=[]∨¬aZ ws x<aZ ws (L.getD (L.length-1) 0))->At h hr g (pre++(L++x::R++Y)++post)->aj W n0 (k (.slice (some ⟨g,0,none⟩) N cap) (.int .i64 (pre.length:Nat)) x2 (.func (.func 150) #[] #[.pointer (some ⟨pw,0,none⟩)]) x8) hr n Q):
 ∀(m:Nat) (L R:List Nat) (fu:Nat) (hr:H),L.length=m->m<fu->L++R=D->(∀r∈R,aZ ws x<aZ ws r)->At h hr g (pre++(L++x::R++Y)++post)->
  aj W n0 (wW lf (au ai gt lf (d+3)) fu k (.slice (some ⟨g,0,none⟩) N cap) (.int .i64 (pre.length:Nat)) x2 (.func (.func 150) #[] #[.pointer (some ⟨pw,0,none⟩)]) x8 (.int .i64 ((pre.length+m:Nat):Int)) x14) hr n Q:=by
 intro m
 induction m with
 |zero=>
  intro L R fu hr hL bM m9 hR hA
  obtain⟨fu,rfl⟩:∃f,fu=f+1:=⟨fu-1,by omega⟩
  have:L=[]:=List.length_eq_zero_iff.1 hL
  subst this
  rw[wW]
  try simp(disch:=first|omega|assumption|exact aa _) only[ah,ae,RZ,bH]
  exact hK [] R hr m9 hR (.inl rfl) hA
 |succ m ih=>
  intro L R fu hr hL bM m9 hR hA
  obtain⟨fu,rfl⟩:∃f,fu=f+1:=⟨fu-1,by omega⟩
  obtain⟨L',y,rfl⟩:∃L' y,L=L'++[y]:=⟨L.dropLast,L.getLast (by intro e;rw[e]at hL;simp at hL),(List.dropLast_concat_getLast _).symm⟩
  have hL':L'.length=m:=by simp at hL;exact hL
  have hlen:pre.length+(m+1)<N:=by rw[<-hN,<-m9];simp;omega
  have e1:((pre.length:Nat):Int)<((pre.length+(m+1):Nat):Int):=by omega
  have e2:pre++(L'++[y]++x::R++Y)++post=(pre++L')++y::(x::R++Y++post):=by simp
  have e3:pre++(L'++[y]++x::R++Y)++post=(pre++L'++[y])++x::(R++Y++post):=by simp
  have hlx:(pre++(L'++[y]++x::R++Y)++post).length=N:=by rw[<-hN,<-m9];simp;omega
  have g1:(b9 (pre++(L'++[y]++x::R++Y)++post))[pre.length+(m+1)]? =some (.int .i64 (x:Nat)):=by
   rw[mq (by omega),e3,qp _ _ _ _ (by simp;omega)]
  have g2:(b9 (pre++(L'++[y]++x::R++Y)++post))[pre.length+m]? =some (.int .i64 (y:Nat)):=by
   rw[mq (by omega),e2,qp _ _ _ _ (by simp;omega)]
  have hy:y<ws.length:=hD y (by rw[<-m9];simp)
  have w1:IntKind.i64.wrap (((pre.length+(m+1):Nat):Int)-1)=((pre.length+m:Nat):Int):=by rw[bB (by omega) (by omega)];omega
  have c0:=hA.1
  have jj:((pre++(L'++[y]++x::R++Y)++post).set (pre.length+(m+1)) y).set (pre.length+m) x=pre++(L'++x::(y::R)++Y)++post:=by
   rw[e3,ub _ _ _ _ _ (by simp;omega)]
   have:pre++L'++[y]++y::(R++Y++post)=(pre++L')++y::(y::(R++Y++post)):=by simp
   rw[this,ub _ _ _ _ _ (by simp;omega)]
   simp
  rw[wW]
  try simp(disch:=first|omega|assumption|exact aa _) only[ah,ae,RZ,e1,c0,g1,g2,w1,FU]
  refine bV (FV lf d x y hr n g pw ws (hE.keeps hA.2) hx hy) dF (fun _ _ h=>h.elim) ?_
  have e4:=FP (aZ ws x) (aZ ws y)
  try simp(disch:=first|omega|assumption|exact aa _) only[ah,ae,RZ,e4]
  by_cases bf:aZ ws x<aZ ws y
  ·try simp(disch:=first|omega|assumption|exact aa _) only[ah,ae,RZ,bf,c0,g1,g2,w1,rN,FW,su,jj]
   refine⟨by omega,hW,by omega,hW, ?_⟩
   exact ih L' (y::R) fu _ hL' (by omega) (by rw[<-m9];simp) (fun r hr=>by
    rcases List.mem_cons.1 hr with rfl|hr
    ·exact bf
    ·exact hR r hr) ((hA.set rfl rfl).set rfl rfl)
  ·try simp(disch:=first|omega|assumption|exact aa _) only[ah,ae,RZ,bf]
   exact hK (L'++[y]) R hr m9 hR (.inr (by simpa using bf)) hA
theorem ag6 (lf d g n cap pw:Nat) (ws:List Int) (h:H) (pre post fo:List Nat) (N:Nat) (aA:2000000<=lf) (hN:(pre++fo++post).length=N) (di:N<=1000000) (hE:jU h n g pw ws) (hg:g<n) (bP:∀z∈fo,z<ws.length) (eE:fo.Pairwise (fun a b=>aZ ws a=aZ ws b->a<b)) {W:Nat->Prop} {n0:Nat} (dF:n0<=n) (hW:n0<=g∨W g) {Q:Value->H->Nat->Prop} (k:M V)
 (hK:∀D hr,D.Perm fo->D.Pairwise (RI (aZ ws))->At h hr g (pre++D++post)->aj W n0 k hr n Q):
 ∀(Y D D0:List Nat) (fu:Nat) (hr:H),Y.length<fu->fo=D0++Y->D.Perm D0->D.Pairwise (RI (aZ ws))->At h hr g (pre++(D++Y)++post)->
  aj W n0 (qn lf (au ai gt lf (d+3)) fu k (.slice (some ⟨g,0,none⟩) N cap) (.int .i64 (pre.length:Nat)) (.int .i64 ((pre.length+fo.length:Nat):Int)) (.func (.func 150) #[] #[.pointer (some ⟨pw,0,none⟩)]) (.int .i64 ((pre.length+D.length:Nat):Int))) hr n Q:=by
 intro Y
 induction Y with
 |nil=>
  intro D D0 fu hr bM hs hp yU hA
  obtain⟨fu,rfl⟩:∃f,fu=f+1:=⟨fu-1,by simp at bM;omega⟩
  rw[dr]at hs hA
  subst hs
  rw[hp.length_eq]
  rw[qn]
  try simp(disch:=first|omega|assumption|exact aa _) only[ah,ae,RZ,bH]
  exact hK D hr hp yU hA
 |cons x Y ih=>
  intro D D0 fu hr bM hs hp yU hA
  obtain⟨fu,rfl⟩:∃f,fu=f+1:=⟨fu-1,by omega⟩
  have qa:=hp.length_eq
  have eL:fo.length=D.length+1+Y.length:=by rw[hs];simp;omega
  have hNs:pre.length+fo.length+post.length=N:=by rw[<-hN];simp;omega
  have e1:((pre.length+D.length:Nat):Int)<((pre.length+fo.length:Nat):Int):=by omega
  have hx:x<ws.length:=bP x (by rw[hs];simp)
  have hD:∀z∈D,z<ws.length:=fun z hz=>bP z (by rw[hs];simp[hp.mem_iff.1 hz])
  have hDx:∀z∈D,aZ ws z=aZ ws x->z<x:=by
   intro z hz
   have h3:=eE
   rw[hs,OA]at h3
   exact h3.2.2 z (hp.mem_iff.1 hz) x (by simp)
  rw[qn]
  try simp(disch:=first|omega|assumption|exact aa _) only[ah,ae,RZ,e1]
  refine ag5 lf d g n cap pw ws h pre post Y x D N (by rw[<-hN,hs];simp;omega) di hE hg hx hD dF hW _ _ _ _ (fun L R gh m9 hR ag7 gI=> ?_) D.length D [] lf hr rfl (by omega) (by simp) (by simp) (by simpa using hA)
  (try unfold agO);(try unfold FK);(try dsimp only)
  try simp(disch:=first|omega|assumption|exact aa _) only[ah,ae,RZ]
  have hlen:(L++x::R).length=D.length+1:=by rw[<-m9];simp;omega
  have e3:((pre.length+D.length+1:Nat):Int)=((pre.length+(L++x::R).length:Nat):Int):=by rw[hlen];omega
  have e4:((pre.length+D.length:Nat):Int)+1=((pre.length+(L++x::R).length:Nat):Int):=by rw[hlen];omega
  first|rw[e3]|rw[e4]
  refine ih (L++x::R) (D0++[x]) fu gh (by simp at bM;omega) (by rw[hs];simp) ?_ ?_ gI
  ·refine(List.perm_middle.trans ?_:(L++x::R).Perm (D0++[x]))
   rw[m9]
   exact(hp.cons x).trans (amv x D0).symm
  ·refine agY (by rw[m9];exact yU) hR (fun l hl=> ?_) (fun l hl=>hDx l (by rw[<-m9];simp[hl]))
   rcases ag7 with h|h2
   ·rw[h]at hl;simp at hl
   ·have h4:(L++R).Pairwise (RI (aZ ws)):=by rw[m9];exact yU
    obtain⟨i,hi,e⟩:=List.mem_iff_getElem.1 hl
    rcases Bm (OA.1 h4).1 (i:=i) (j:=L.length-1) (by omega) (by omega)with q|q
    ·have:l=L.getD (L.length-1) 0:=by rw[<-q,<-e];simp[hi]
     rw[this];omega
    ·have:L.getD i 0=l:=by rw[<-e];simp[hi]
     rw[this]at q
     unfold RI at q
     omega
theorem ag8(lf d g n cap pw:Nat)(ws:List Int)(h:H)(pre fo post:List Nat)(N:Nat)(aA:2000000<=lf)(hN:(pre++fo++post).length=N)(di:N<=1000000)(h1:1<=fo.length)(hE:jU h n g pw ws)(hg:g<n)(hh:h.get g=some ⟨3,true,b9 (pre++fo++post)⟩)(bP:∀z∈fo,z<ws.length)(eE:fo.Pairwise (fun a b=>a<b))(a b:Int)(ha:a=(pre.length:Nat))(hb:b=((pre.length+fo.length:Nat):Int)):
 aj (fun x=>x=g) n (au ai gt lf (d+4) 154 #[.slice (some ⟨g,0,none⟩) N cap,.int .i64 a,.int .i64 b,.func (.func 150) #[] #[.pointer (some ⟨pw,0,none⟩)]]) h n fun v h' n'=>n'=n∧∃D,D.Perm fo∧D.Pairwise (RI (aZ ws))∧At h h' g (pre++D++post):=by
 subst ha hb
 rw[aQ (fun _=>LH) rfl]
 refine aj.aP ?_
 unfold Bg
 have iT:pre.length<=N:=by rw[<-hN];simp
 try simp(disch:=first|omega|assumption|exact aa _) only[ah,ae,RZ]
 obtain⟨s0,s1,rfl⟩:∃s0 s1,fo=s0::s1:=by
  cases fo with
  |nil=>simp at h1
  |cons s0 s1=>exact⟨s0,s1,rfl⟩
 rw[show((pre.length:Nat):Int)+1=((pre.length+[s0].length:Nat):Int) by simp]
 refine ag6 (W:=fun x=>x=g) lf d g n cap pw ws h pre post (s0::s1) N aA hN di hE hg bP (eE.imp (S:=fun a b=>aZ ws a=aZ ws b->a<b) fun{_ _} q _=>q) (av _) (.inr rfl) _ (fun D hr hp hs hA=> ?_) s1 [s0] [s0] lf h (by simp at hN;omega) rfl (Cx _) (List.pairwise_singleton _ _) ⟨by simpa using hh,fun b hb=>rfl⟩
 (try unfold Bf);(try dsimp only)
 try simp(disch:=first|omega|assumption|exact aa _) only[ah,ae,RZ]
 exact⟨D,hp,hs,hA⟩
theorem At.trans{h h1 h2:H}{g:Nat}{xs ys:List Nat}(a:At h h1 g xs)(b:At h1 h2 g ys):At h h2 g ys:=⟨b.1,fun c hc=>(b.2 c hc).trans (a.2 c hc)⟩
theorem swA (lf d g n cap:Nat) (h:H) (P Z Q:List Nat) (U V:List Nat) (N:Nat) (hN:(P++U++Z++V++Q).length=N) (di:N<=1000000) (hg:g<n) {W:Nat->Prop} {n0:Nat} (hW:n0<=g∨W g) {R:Value->H->Nat->Prop} (k:(M Value))
 (hK:∀hr,At h hr g (P++V++Z++U++Q)->aj W n0 (k) hr n R):
 ∀(U2 V2 U1 V1:List Nat) (fu:Nat) (hr:H),U2.length<fu->U2.length=V2.length->U1.length=V1.length->U1++U2=U->V1++V2=V->At h hr g (P++V1++U2++Z++U1++V2++Q)->
  aj W n0 (w7 lf (au ai gt lf d) fu k (.slice (some ⟨g,0,none⟩) N cap) (.int .i64 (P.length:Nat)) (.int .i64 ((P.length+U.length+Z.length:Nat):Int)) (.int .i64 (U.length:Nat)) (.int .i64 (U1.length:Nat))) hr n R:=by
 intro U2
 induction U2 with
 |nil=>
  intro V2 U1 V1 fu hr bM h1 h2 e1 e2 hA
  obtain⟨fu,rfl⟩:∃f,fu=f+1:=⟨fu-1,by simp at bM;omega⟩
  have:V2=[]:=List.length_eq_zero_iff.1 h1.symm
  subst this
  rw[dr]at e1 e2
  subst e1 e2
  rw[w7]
  try simp(disch:=first|omega|assumption|exact aa _) only[ah,ae,RZ,bH]
  exact hK hr (by simpa using hA)
 |cons u U2 ih=>
  intro V2 U1 V1 fu hr bM h1 h2 e1 e2 hA
  obtain⟨fu,rfl⟩:∃f,fu=f+1:=⟨fu-1,by omega⟩
  obtain⟨v,V2,rfl⟩:∃v V3,V2=v::V3:=by
   cases V2 with
   |nil=>simp at h1
   |cons x Y=>exact⟨x,Y,rfl⟩
  have l1:=congrArg nD e1
  have l2:=congrArg nD e2
  simp only[aY,dI]at l1 l2 h1 hN bM
  have b1:((U1.length:Nat):Int)<((U.length:Nat):Int):=by omega
  have s1:P++V1++u::U2++Z++U1++v::V2++Q=(P++V1)++u::(U2++Z++U1++v::V2++Q):=by simp
  have s2:P++V1++u::U2++Z++U1++v::V2++Q=(P++V1++u::U2++Z++U1)++v::(V2++Q):=by simp
  have s3:(P++V1)++v::(U2++Z++U1++v::V2++Q)=(P++V1++v::U2++Z++U1)++v::(V2++Q):=by simp
  have hl:(P++V1++u::U2++Z++U1++v::V2++Q).length=N:=by simp only[aY,dI];omega
  have w1:IntKind.i64.wrap (((P.length:Nat):Int)+((U1.length:Nat):Int))=((P.length+U1.length:Nat):Int):=by rw[bB (by omega) (by omega)];omega
  have w2:IntKind.i64.wrap (((P.length+U.length+Z.length:Nat):Int)+((U1.length:Nat):Int))=((P.length+U.length+Z.length+U1.length:Nat):Int):=by rw[bB (by omega) (by omega)];omega
  have g1:(b9 (P++V1++u::U2++Z++U1++v::V2++Q))[P.length+U1.length]? =some (.int .i64 (u:Nat)):=by
   rw[mq (by omega),s1,qp _ _ _ _ (by simp;omega)]
  have g2:(b9 (P++V1++u::U2++Z++U1++v::V2++Q))[P.length+U.length+Z.length+U1.length]? =some (.int .i64 (v:Nat)):=by
   rw[mq (by omega),s2,qp _ _ _ _ (by simp;omega)]
  have jj:((P++V1++u::U2++Z++U1++v::V2++Q).set (P.length+U1.length) v).set (P.length+U.length+Z.length+U1.length) u=P++(V1++[v])++U2++Z++(U1++[u])++V2++Q:=by
   rw[s1,ub _ _ _ _ _ (by simp;omega),s3,ub _ _ _ _ _ (by simp;omega)]
   simp
  have c0:=hA.1
  rw[w7]
  try simp(disch:=first|omega|assumption|exact aa _) only[ah,ae,RZ,b1,c0,g1,g2,w1,w2,rN,FW,su,jj]
  refine⟨by omega,hW,by omega,hW, ?_⟩
  have:=ih V2 (U1++[u]) (V1++[v]) fu _ (by omega) (by omega) (by simp[h2]) (by rw[<-e1];simp) (by rw[<-e2];simp) ((hA.set (ys:=(P++V1++u::U2++Z++U1++v::V2++Q).set (P.length+U1.length) v) rfl rfl).set (ys:=P++(V1++[v])++U2++Z++(U1++[u])++V2++Q) rfl rfl)
  rw[show(U1++[u]).length=U1.length+1 by simp]at this
  exact this
theorem LV(lf d g n cap:Nat)(h:H)(P U Z V Q:List Nat)(N:Nat)(f:Value)(a b c:Int)(aA:2000000<=lf)(hN:(P++U++Z++V++Q).length=N)(di:N<=1000000)(LW:U.length=V.length)(hg:g<n)(ha:a=(P.length:Nat))(hb:b=((P.length+U.length+Z.length:Nat):Int))(hc:c=(U.length:Nat))(hh:h.get g=some ⟨3,true,b9 (P++U++Z++V++Q)⟩):
 aj (fun x=>x=g) n (au ai gt lf (d+1) 157 #[.slice (some ⟨g,0,none⟩) N cap,.int .i64 a,.int .i64 b,.int .i64 c,f]) h n fun v h' n'=>n'=n∧At h h' g (P++V++Z++U++Q):=by
 subst ha hb hc
 rw[aQ (fun _=>W2) rfl]
 refine aj.aP ?_
 unfold FN
 have hl:U.length<=N:=by rw[<-hN];simp;omega
 refine swA (W:=fun x=>x=g) lf d g n cap h P Z Q U V N hN di hg (.inr rfl) _ (fun hr hA=> ?_) U V [] [] lf h (by omega) LW rfl rfl rfl ⟨by simpa using hh,fun b hb=>rfl⟩
 (try unfold LN);(try dsimp only)
 try simp(disch:=first|omega|assumption|exact aa _) only[ah,ae,RZ]
 exact hA
theorem roA (lf d g n cap:Nat) (h:H) (f:Value) (T:List Nat) (N Mi:Nat) (x1 x3:Value) (aA:2000000<=lf) (hT:T.length=N) (di:N<=1000000) (hg:g<n) {W:Nat->Prop} {n0:Nat} (dF:n0<=n) (hW:n0<=g∨W g) {R:Value->H->Nat->Prop} (k:(Value->Value->Value->Value->M Value))
 (hK:∀hr (I:Nat) P U V Q,I=U.length->U.length=V.length->P.length+I=Mi->P++V++U++Q=T->At h hr g (P++U++V++Q)->aj W n0 (k (.slice (some ⟨g,0,none⟩) N cap) (.int .i64 (Mi:Nat)) f (.int .i64 (I:Nat))) hr n R):
 ∀(m:Nat) (P U V Q:List Nat) (fu:Nat) (hr:H),U.length+V.length<=m->m<fu->1<=U.length->1<=V.length->P.length+U.length=Mi->P++V++U++Q=T->At h hr g (P++U++V++Q)->
  aj W n0 (wZ lf (au ai gt lf (d+1)) fu k (.slice (some ⟨g,0,none⟩) N cap) x1 (.int .i64 (Mi:Nat)) x3 f (.int .i64 (U.length:Nat)) (.int .i64 (V.length:Nat))) hr n R:=by
 intro m
 induction m with
 |zero=>intro P U V Q fu hr h1 _ h2;omega
 |succ m ih=>
  intro P U V Q fu hr hm bM hU hV hP hE hA
  obtain⟨fu,rfl⟩:∃f,fu=f+1:=⟨fu-1,by omega⟩
  have lT:=congrArg nD hE
  simp only[aY]at lT
  rw[hT]at lT
  rw[wZ]
  by_cases heq:U.length=V.length
  ·have e1:(((U.length:Nat):Int) !=((V.length:Nat):Int))=false:=by rw[heq];simp
   try simp(disch:=first|omega|assumption|exact aa _) only[ah,ae,RZ,e1]
   try rw[<-heq]
   exact hK hr _ P U V Q rfl heq hP hE hA
  ·have e1:(((U.length:Nat):Int) !=((V.length:Nat):Int))=true:=by simp;omega
   by_cases hgt:V.length<U.length
   ·have e2:((V.length:Nat):Int)<((U.length:Nat):Int):=by omega
    have w1:IntKind.i64.wrap (((U.length:Nat):Int)-((V.length:Nat):Int))=((U.length-V.length:Nat):Int):=by rw[bB (by omega) (by omega)];omega
    have w2:IntKind.i64.wrap (((Mi:Nat):Int)-((U.length:Nat):Int))=((P.length:Nat):Int):=by rw[bB (by omega) (by omega)];omega
    try simp(disch:=first|omega|assumption|exact aa _) only[ah,ae,RZ,e1,e2,w1,w2]
    have Bo:(U.take V.length).length=V.length:=by rw[cJ];omega
    have hs:P++U++V++Q=P++U.take V.length++U.drop V.length++V++Q:=by rw[cI P (U.take _),lq]
    refine bh aW (LV lf d g n cap hr P (U.take V.length) (U.drop V.length) V Q N f _ _ _ aA (by rw[<-hs];simp;omega) di Bo hg rfl (by rw[Bo,kG];omega) (by rw[Bo]) (by rw[<-hs];exact hA.1)) dF (fun b _ hb=>hb▸hW) fun v h1 n1 _ _ hq=> ?_
    obtain⟨rfl,kY⟩:=hq
    try simp(disch:=first|omega|assumption|exact aa _) only[ah,ae,RZ,w1]
    have gI:=hA.trans kY
    have:=ih (P++V) (U.drop V.length) (U.take V.length) Q fu h1 (by rw[Bo,kG];omega) (by omega) (by rw[kG];omega) (by omega) (by rw[aY,kG];omega) (by rw[<-hE];simp) gI
    rw[Bo,kG]at this
    exact this
   ·have e2:¬((V.length:Nat):Int)<((U.length:Nat):Int):=by omega
    have w1:IntKind.i64.wrap (((V.length:Nat):Int)-((U.length:Nat):Int))=((V.length-U.length:Nat):Int):=by rw[bB (by omega) (by omega)];omega
    have w2:IntKind.i64.wrap (((Mi:Nat):Int)-((U.length:Nat):Int))=((P.length:Nat):Int):=by rw[bB (by omega) (by omega)];omega
    have w3:IntKind.i64.wrap (((Mi:Nat):Int)+((V.length:Nat):Int))=((Mi+V.length:Nat):Int):=by rw[bB (by omega) (by omega)];omega
    have w4:IntKind.i64.wrap (((Mi+V.length:Nat):Int)-((U.length:Nat):Int))=((P.length+V.length:Nat):Int):=by rw[bB (by omega) (by omega)];omega
    try simp(disch:=first|omega|assumption|exact aa _) only[ah,ae,RZ,e1,e2,w1,w2,w3,w4]
    have Xj:(V.drop (V.length-U.length)).length=U.length:=by rw[kG];omega
    have Xk:(V.take (V.length-U.length)).length=V.length-U.length:=by rw[cJ];omega
    have hs:P++U++V++Q=P++U++V.take (V.length-U.length)++V.drop (V.length-U.length)++Q:=by
     rw[cI (P++U) (V.take _),lq]
    refine bh aW (LV lf d g n cap hr P U (V.take (V.length-U.length)) (V.drop (V.length-U.length)) Q N f _ _ _ aA (by rw[<-hs];simp;omega) di Xj.symm hg rfl (by rw[Xk];omega) rfl (by rw[<-hs];exact hA.1)) dF (fun b _ hb=>hb▸hW) fun v h1 n1 _ _ hq=> ?_
    obtain⟨rfl,kY⟩:=hq
    try simp(disch:=first|omega|assumption|exact aa _) only[ah,ae,RZ,w1]
    have gI:=hA.trans kY
    have:=ih P (V.drop (V.length-U.length)) (V.take (V.length-U.length)) (U++Q) fu h1 (by omega) (by omega) (by omega) (by omega) (by omega) (by rw[<-hE];rw[<-cI,cI P,lq]) (by rw[<-cI];exact gI)
    rw[Xj,Xk]at this
    exact this
theorem ag9(lf d g n cap:Nat)(h:H)(P X Y Q:List Nat)(N:Nat)(f:Value)(a m b:Int)(aA:3000000<=lf)(hN:(P++X++Y++Q).length=N)(di:N<=1000000)(hX:1<=X.length)(hY:1<=Y.length)(hg:g<n)(ha:a=(P.length:Nat))(hm:m=((P.length+X.length:Nat):Int))(hb:b=((P.length+X.length+Y.length:Nat):Int))(hh:h.get g=some ⟨3,true,b9 (P++X++Y++Q)⟩):
 aj (fun x=>x=g) n (au ai gt lf (d+2) 156 #[.slice (some ⟨g,0,none⟩) N cap,.int .i64 a,.int .i64 m,.int .i64 b,f]) h n fun v h' n'=>n'=n∧At h h' g (P++Y++X++Q):=by
 subst ha hm hb
 rw[aQ (fun _=>WZ) rfl]
 refine aj.aP ?_
 unfold FM
 have lN:=hN
 simp only[aY]at lN
 have w1:IntKind.i64.wrap (((P.length+X.length:Nat):Int)-((P.length:Nat):Int))=((X.length:Nat):Int):=by rw[bB (by omega) (by omega)];omega
 have w2:IntKind.i64.wrap (((P.length+X.length+Y.length:Nat):Int)-((P.length+X.length:Nat):Int))=((Y.length:Nat):Int):=by rw[bB (by omega) (by omega)];omega
 try simp(disch:=first|omega|assumption|exact aa _) only[ah,ae,RZ,w1,w2]
 refine roA (W:=fun x=>x=g) lf d g n cap h f (P++Y++X++Q) N (P.length+X.length) _ _ (by omega) (by rw[<-hN];simp;omega) di hg (av _) (.inr rfl) _ (fun hr I P1 U V Q1 hI LW hP hE hA=> ?_) _ P X Y Q lf h (av _) (by omega) hX hY rfl rfl ⟨hh,fun b hb=>rfl⟩
 (try unfold LM);(try dsimp only)
 have lT:=congrArg nD hE
 simp only[aY]at lT
 have w3:IntKind.i64.wrap (((P.length+X.length:Nat):Int)-((I:Nat):Int))=((P1.length:Nat):Int):=by rw[bB (by omega) (by omega)];omega
 try simp(disch:=first|omega|assumption|exact aa _) only[ah,ae,RZ,w3]
 refine bh aW (LV lf d g n cap hr P1 U [] V Q1 N f _ _ _ (by omega) (by rw[<-hN];simp;omega) di LW hg rfl (by simp;omega) (by rw[hI]) (by rw[dr];exact hA.1)) (av _) (fun b _ hb=> .inr hb) fun v h1 n1 _ _ hq=> ?_
 obtain⟨rfl,kY⟩:=hq
 try simp(disch:=first|omega|assumption|exact aa _) only[ah,ae,RZ]
 rw[dr,hE]at kY
 exact hA.trans kY
theorem wrap_u64{x:Int}(h0:0<=x)(h1:x<=9223372036854775807):IntKind.u64.wrap x=x:=by
 unfold IntKind.wrap
 have:(2:Int)^IntKind.u64.bits=18446744073709551616:=by decide
 simp only[show IntKind.u64.signed=false from rfl,Bool.false_eq_true,false_and,if_false,this]
 exact Int.emod_eq_of_lt h0 (by omega)
theorem yV(x:Int):x.fdiv (2^min 1 IntKind.u64.bits)=x/2:=by
 rw[show min 1 IntKind.u64.bits=1 from rfl,Int.pow_succ,Int.pow_zero,Int.one_mul,Int.fdiv_eq_ediv_of_nonneg _ (by omega)]
theorem Bp(x:Int):x.fdiv (2^min (Int.toNat 1) IntKind.u64.bits)=x/2:=yV x
theorem ag' (lf d g n cap pw:Nat) (ws:List Int) (h:H) (P Y Q:List Nat) (x:Nat) (N:Nat) (hN:(P++x::Y++Q).length=N) (di:N<=1000000) (hE:jU h n g pw ws) (hg:g<n) (hh:h.get g=some ⟨3,true,b9 (P++x::Y++Q)⟩) (hx:x<ws.length) (hY:∀z∈Y,z<ws.length) {W:Nat->Prop} {n0:Nat} (dF:n0<=n) {R:Value->H->Nat->Prop} (k:(Value->Value->Value->Value->Value->Value->Value->Value->Value->M Value)) (x2 x3 pt:Value)
 (hK:∀p Xl,p<=Y.length->(p=0∨aZ ws (Y.getD (p-1) 0)<aZ ws x)->(p=Y.length∨¬aZ ws (Y.getD p 0)<aZ ws x)->aj W n0 (k (.slice (some ⟨g,0,none⟩) N cap) (.int .i64 (P.length:Nat)) x2 x3 (.func (.func 150) #[] #[.pointer (some ⟨pw,0,none⟩)]) (.int .i64 ((P.length+1+p:Nat):Int)) (.int .i64 ((P.length+1+p:Nat):Int)) pt Xl) h n R):
 ∀(m p q fu:Nat),q-p<=m->m<fu->p<=q->q<=Y.length->(p=0∨aZ ws (Y.getD (p-1) 0)<aZ ws x)->(q=Y.length∨¬aZ ws (Y.getD q 0)<aZ ws x)->
  aj W n0 (tY lf (au ai gt lf (d+3)) fu k (.slice (some ⟨g,0,none⟩) N cap) (.int .i64 (P.length:Nat)) x2 x3 (.func (.func 150) #[] #[.pointer (some ⟨pw,0,none⟩)]) (.int .i64 ((P.length+1+p:Nat):Int)) (.int .i64 ((P.length+1+q:Nat):Int)) pt) h n R:=by
 have lN:=hN
 simp only[aY,dI]at lN
 intro m
 induction m with
 |zero=>
  intro p q fu hm bM oQ hq h1 h2
  obtain⟨fu,rfl⟩:∃f,fu=f+1:=⟨fu-1,by omega⟩
  obtain rfl:p=q:=by omega
  rw[tY]
  try simp(disch:=first|omega|assumption|exact aa _) only[ah,ae,RZ,bH]
  exact hK p _ hq h1 h2
 |succ m ih=>
  intro p q fu hm bM oQ hq h1 h2
  obtain⟨fu,rfl⟩:∃f,fu=f+1:=⟨fu-1,by omega⟩
  rw[tY]
  by_cases bf:p<q
  ·obtain⟨c,hc⟩:∃c,(P.length+1+p+(P.length+1+q))/2=P.length+1+c:=⟨(p+q)/2,by omega⟩
   have u1:p<=c:=by omega
   have Xm:c<q:=by omega
   have e1:((P.length+1+p:Nat):Int)<((P.length+1+q:Nat):Int):=by omega
   have e2:(((P.length+1+p:Nat):Int)+((P.length+1+q:Nat):Int))/2=((P.length+1+c:Nat):Int):=by omega
   have hy:Y.getD c 0<ws.length:=hY _ (by rw[aF,aM (by omega)];exact cN _)
   have g1:(b9 (P++x::Y++Q))[P.length+1+c]? =some (.int .i64 (Y.getD c 0:Nat)):=by
    rw[mq (by omega),show P++x::Y++Q=(P++[x])++Y++Q by simp,FQ _ _ _ c _ (by simp) (by omega)]
   have g2:(b9 (P++x::Y++Q))[P.length]? =some (.int .i64 (x:Nat)):=by
    rw[mq (by omega),show P++x::Y++Q=P++x::(Y++Q) by simp,qp _ _ _ _ rfl]
   try simp(disch:=first|omega|assumption|exact aa _) only[ah,ae,RZ,e1,wrap_u64,yV,Bp,e2,hh,g1,g2,FU]
   refine bV (FV lf d _ x h n g pw ws hE hy hx) dF (fun _ _ h=>h.elim) ?_
   have e4:=FP (aZ ws (Y.getD c 0)) (aZ ws x)
   try simp(disch:=first|omega|assumption|exact aa _) only[ah,ae,RZ,e4]
   by_cases hk:aZ ws (Y.getD c 0)<aZ ws x
   ·have w1:IntKind.i64.wrap (((P.length+1+c:Nat):Int)+1)=((P.length+1+(c+1):Nat):Int):=by rw[bB (by omega) (by omega)];omega
    try simp(disch:=first|omega|assumption|exact aa _) only[ah,ae,RZ,hk,w1]
    have w2:((P.length+1+c:Nat):Int)+1=((P.length+1+(c+1):Nat):Int):=by omega
    try rw[w2]
    exact ih (c+1) q fu (by omega) (by omega) (by omega) hq (.inr (by simpa using hk)) h2
   ·try simp(disch:=first|omega|assumption|exact aa _) only[ah,ae,RZ,hk]
    exact ih p c fu (by omega) (by omega) (by omega) (by omega) h1 (.inr hk)
  ·obtain rfl:p=q:=by omega
   try simp(disch:=first|omega|assumption|exact aa _) only[ah,ae,RZ,bH]
   exact hK p _ hq h1 h2
theorem ag_ (lf d g n cap:Nat) (h:H) (P Y Q:List Nat) (x p:Nat) (N:Nat) (hN:(P++x::Y++Q).length=N) (di:N<=1000000) (hp:p<=Y.length) (hg:g<n) {W:Nat->Prop} {n0:Nat} (hW:n0<=g∨W g) {R:Value->H->Nat->Prop} (k:(M Value)) (x1 x2 x3 x4 x11 pt x33:Value)
 (hK:∀hr,At h hr g (P++(Y.take p++x::Y.drop p)++Q)->aj W n0 (k) hr n R):
 ∀(m t fu:Nat) (hr:H),p-t<=m->m<fu->t<=p->At h hr g (P++(Y.take t++x::Y.drop t)++Q)->
  aj W n0 (wX lf (au ai gt lf d) fu k (.slice (some ⟨g,0,none⟩) N cap) x1 x2 x3 x4 (.int .i64 ((P.length+1+p:Nat):Int)) x11 (.int .i64 ((P.length+t:Nat):Int)) pt x33) hr n R:=by
 have lN:=hN
 simp only[aY,dI]at lN
 have w1:IntKind.i64.wrap (((P.length+1+p:Nat):Int)-1)=((P.length+p:Nat):Int):=by rw[bB (by omega) (by omega)];omega
 intro m
 induction m with
 |zero=>
  intro t fu hr hm bM ht hA
  obtain⟨fu,rfl⟩:∃f,fu=f+1:=⟨fu-1,by omega⟩
  obtain rfl:t=p:=by omega
  rw[wX]
  try simp(disch:=first|omega|assumption|exact aa _) only[ah,ae,RZ,bH,w1]
  exact hK hr hA
 |succ m ih=>
  intro t fu hr hm bM ht hA
  obtain⟨fu,rfl⟩:∃f,fu=f+1:=⟨fu-1,by omega⟩
  rw[wX]
  by_cases bf:t<p
  ·have e1:((P.length+t:Nat):Int)<((P.length+p:Nat):Int):=by omega
   have w2:IntKind.i64.wrap (((P.length+t:Nat):Int)+1)=((P.length+(t+1):Nat):Int):=by rw[bB (by omega) (by omega)];omega
   have hd:Y.drop t=Y.getD t 0::Y.drop (t+1):=by rw[Ho (by omega),aF,aM (by omega)];rfl
   have jM:Y.take (t+1)=Y.take t++[Y.getD t 0]:=by rw[jI (by omega),aF,aM (by omega)];rfl
   obtain⟨y,hy⟩:∃y,Y.getD t 0=y:=⟨_,rfl⟩
   rw[hy]at hd jM
   have lt:(Y.take t).length=t:=by rw[cJ];omega
   have ld:(Y.drop (t+1)).length=Y.length-(t+1):=kG
   rw[hd]at hA
   have s1:P++(Y.take t++x::y::Y.drop (t+1))++Q=(P++Y.take t)++x::(y::(Y.drop (t+1)++Q)):=by simp
   have s2:P++(Y.take t++x::y::Y.drop (t+1))++Q=(P++Y.take t++[x])++y::(Y.drop (t+1)++Q):=by simp
   have hl:(P++(Y.take t++x::y::Y.drop (t+1))++Q).length=N:=by simp;omega
   have g1:(b9 (P++(Y.take t++x::y::Y.drop (t+1))++Q))[P.length+t]? =some (.int .i64 (x:Nat)):=by
    rw[mq (by omega),s1,qp _ _ _ _ (by simp;omega)]
   have g2:(b9 (P++(Y.take t++x::y::Y.drop (t+1))++Q))[P.length+(t+1)]? =some (.int .i64 (y:Nat)):=by
    rw[mq (by omega),s2,qp _ _ _ _ (by simp;omega)]
   have jj:((P++(Y.take t++x::y::Y.drop (t+1))++Q).set (P.length+t) y).set (P.length+(t+1)) x=P++(Y.take (t+1)++x::Y.drop (t+1))++Q:=by
    rw[s1,ub _ _ _ _ _ (by simp;omega),show P++Y.take t++y::y::(Y.drop (t+1)++Q)=(P++Y.take t++[y])++y::(Y.drop (t+1)++Q) by simp,ub _ _ _ _ _ (by simp;omega),jM]
    simp
   have c0:=hA.1
   try simp(disch:=first|omega|assumption|exact aa _) only[ah,ae,RZ,e1,w1,w2,c0,g1,g2,rN,FW,su,jj]
   refine⟨by omega,hW,by omega,hW, ?_⟩
   exact ih (t+1) fu _ (by omega) (by omega) (by omega) ((hA.set (ys:=(P++(Y.take t++x::y::Y.drop (t+1))++Q).set (P.length+t) y) rfl rfl).set rfl rfl)
  ·obtain rfl:t=p:=by omega
   try simp(disch:=first|omega|assumption|exact aa _) only[ah,ae,RZ,bH,w1]
   exact hK hr hA
theorem aha (lf d g n cap pw:Nat) (ws:List Int) (h:H) (P X Q:List Nat) (y:Nat) (N:Nat) (hN:(P++X++y::Q).length=N) (di:N<=1000000) (hE:jU h n g pw ws) (hg:g<n) (hh:h.get g=some ⟨3,true,b9 (P++X++y::Q)⟩) (hy:y<ws.length) (hX:∀z∈X,z<ws.length) {W:Nat->Prop} {n0:Nat} (dF:n0<=n) {R:Value->H->Nat->Prop} (k:(Value->Value->Value->Value->Value->Value->Value->Value->Value->Value->M Value)) (x1 x3 pt yW:Value)
 (hK:∀p Xn,p<=X.length->(p=0∨¬aZ ws y<aZ ws (X.getD (p-1) 0))->(p=X.length∨aZ ws y<aZ ws (X.getD p 0))->aj W n0 (k (.slice (some ⟨g,0,none⟩) N cap) x1 (.int .i64 ((P.length+X.length:Nat):Int)) x3 (.func (.func 150) #[] #[.pointer (some ⟨pw,0,none⟩)]) (.int .i64 ((P.length+p:Nat):Int)) (.int .i64 ((P.length+p:Nat):Int)) pt yW Xn) h n R):
 ∀(m p q fu:Nat),q-p<=m->m<fu->p<=q->q<=X.length->(p=0∨¬aZ ws y<aZ ws (X.getD (p-1) 0))->(q=X.length∨aZ ws y<aZ ws (X.getD q 0))->
  aj W n0 (tZ lf (au ai gt lf (d+3)) fu k (.slice (some ⟨g,0,none⟩) N cap) x1 (.int .i64 ((P.length+X.length:Nat):Int)) x3 (.func (.func 150) #[] #[.pointer (some ⟨pw,0,none⟩)]) (.int .i64 ((P.length+p:Nat):Int)) (.int .i64 ((P.length+q:Nat):Int)) pt yW) h n R:=by
 have lN:=hN
 simp only[aY,dI]at lN
 intro m
 induction m with
 |zero=>
  intro p q fu hm bM oQ hq h1 h2
  obtain⟨fu,rfl⟩:∃f,fu=f+1:=⟨fu-1,by omega⟩
  obtain rfl:p=q:=by omega
  rw[tZ]
  try simp(disch:=first|omega|assumption|exact aa _) only[ah,ae,RZ,bH]
  exact hK p _ hq h1 h2
 |succ m ih=>
  intro p q fu hm bM oQ hq h1 h2
  obtain⟨fu,rfl⟩:∃f,fu=f+1:=⟨fu-1,by omega⟩
  rw[tZ]
  by_cases bf:p<q
  ·obtain⟨c,hc⟩:∃c,(P.length+p+(P.length+q))/2=P.length+c:=⟨(p+q)/2,by omega⟩
   have u1:p<=c:=by omega
   have Xm:c<q:=by omega
   have e1:((P.length+p:Nat):Int)<((P.length+q:Nat):Int):=by omega
   have e2:(((P.length+p:Nat):Int)+((P.length+q:Nat):Int))/2=((P.length+c:Nat):Int):=by omega
   have hx:X.getD c 0<ws.length:=hX _ (by rw[aF,aM (by omega)];exact cN _)
   have g1:(b9 (P++X++y::Q))[P.length+c]? =some (.int .i64 (X.getD c 0:Nat)):=by
    rw[mq (by omega),FQ _ _ _ c _ rfl (by omega)]
   have g2:(b9 (P++X++y::Q))[P.length+X.length]? =some (.int .i64 (y:Nat)):=by
    rw[mq (by omega),qp _ _ _ _ (by simp)]
   try simp(disch:=first|omega|assumption|exact aa _) only[ah,ae,RZ,e1,wrap_u64,yV,Bp,e2,hh,g1,g2,FU]
   refine bV (FV lf d y _ h n g pw ws hE hy hx) dF (fun _ _ h=>h.elim) ?_
   have e4:=FP (aZ ws y) (aZ ws (X.getD c 0))
   try simp(disch:=first|omega|assumption|exact aa _) only[ah,ae,RZ,e4]
   by_cases hk:aZ ws y<aZ ws (X.getD c 0)
   ·try simp(disch:=first|omega|assumption|exact aa _) only[ah,ae,RZ,hk,decide_true,gM]
    exact ih p c fu (by omega) (by omega) (by omega) (by omega) h1 (.inr hk)
   ·have w1:IntKind.i64.wrap (((P.length+c:Nat):Int)+1)=((P.length+(c+1):Nat):Int):=by rw[bB (by omega) (by omega)];omega
    have w2:((P.length+c:Nat):Int)+1=((P.length+(c+1):Nat):Int):=by omega
    try simp(disch:=first|omega|assumption|exact aa _) only[ah,ae,RZ,hk,decide_false,iP,w1]
    try rw[w2]
    exact ih (c+1) q fu (by omega) (by omega) (by omega) hq (.inr (by simpa using hk)) h2
  ·obtain rfl:p=q:=by omega
   try simp(disch:=first|omega|assumption|exact aa _) only[ah,ae,RZ,bH]
   exact hK p _ hq h1 h2
theorem ahb (lf d g n cap:Nat) (h:H) (P X Q:List Nat) (y p:Nat) (N:Nat) (hN:(P++X++y::Q).length=N) (di:N<=1000000) (hp:p<=X.length) (hg:g<n) {W:Nat->Prop} {n0:Nat} (hW:n0<=g∨W g) {R:Value->H->Nat->Prop} (k:(M Value)) (x1 x2 x3 x4 x15 pt yW x85:Value)
 (hK:∀hr,At h hr g (P++(X.take p++y::X.drop p)++Q)->aj W n0 (k) hr n R):
 ∀(m t fu:Nat) (hr:H),t-p=m->m<fu->p<=t->t<=X.length->At h hr g (P++(X.take t++y::X.drop t)++Q)->
  aj W n0 (wY lf (au ai gt lf d) fu k (.slice (some ⟨g,0,none⟩) N cap) x1 x2 x3 x4 (.int .i64 ((P.length+p:Nat):Int)) x15 (.int .i64 ((P.length+t:Nat):Int)) pt yW x85) hr n R:=by
 have lN:=hN
 simp only[aY,dI]at lN
 intro m
 induction m with
 |zero=>
  intro t fu hr hm bM ht Bq hA
  obtain⟨fu,rfl⟩:∃f,fu=f+1:=⟨fu-1,by omega⟩
  obtain rfl:t=p:=by omega
  rw[wY]
  try simp(disch:=first|omega|assumption|exact aa _) only[ah,ae,RZ,bH]
  exact hK hr hA
 |succ m ih=>
  intro t fu hr hm bM ht Bq hA
  obtain⟨fu,rfl⟩:∃f,fu=f+1:=⟨fu-1,by omega⟩
  obtain⟨t,rfl⟩:∃f,t=f+1:=⟨t-1,by omega⟩
  rw[wY]
  have e1:((P.length+p:Nat):Int)<((P.length+(t+1):Nat):Int):=by omega
  have w2:IntKind.i64.wrap (((P.length+(t+1):Nat):Int)-1)=((P.length+t:Nat):Int):=by rw[bB (by omega) (by omega)];omega
  have hd:X.drop t=X.getD t 0::X.drop (t+1):=by rw[Ho (by omega),aF,aM (by omega)];rfl
  have jM:X.take (t+1)=X.take t++[X.getD t 0]:=by rw[jI (by omega),aF,aM (by omega)];rfl
  obtain⟨x,hx⟩:∃y,X.getD t 0=y:=⟨_,rfl⟩
  rw[hx]at hd jM
  have lt:(X.take t).length=t:=by rw[cJ];omega
  have ld:(X.drop (t+1)).length=X.length-(t+1):=kG
  rw[jM]at hA
  have s1:P++(X.take t++[x]++y::X.drop (t+1))++Q=(P++X.take t)++x::(y::(X.drop (t+1)++Q)):=by simp
  have s2:P++(X.take t++[x]++y::X.drop (t+1))++Q=(P++X.take t++[x])++y::(X.drop (t+1)++Q):=by simp
  have hl:(P++(X.take t++[x]++y::X.drop (t+1))++Q).length=N:=by simp;omega
  have g1:(b9 (P++(X.take t++[x]++y::X.drop (t+1))++Q))[P.length+t]? =some (.int .i64 (x:Nat)):=by
   rw[mq (by omega),s1,qp _ _ _ _ (by simp;omega)]
  have g2:(b9 (P++(X.take t++[x]++y::X.drop (t+1))++Q))[P.length+(t+1)]? =some (.int .i64 (y:Nat)):=by
   rw[mq (by omega),s2,qp _ _ _ _ (by simp;omega)]
  have jj:((P++(X.take t++[x]++y::X.drop (t+1))++Q).set (P.length+(t+1)) x).set (P.length+t) y=P++(X.take t++y::X.drop t)++Q:=by
   rw[s2,ub _ _ _ _ _ (by simp;omega),show P++X.take t++[x]++x::(X.drop (t+1)++Q)=(P++X.take t)++x::(x::(X.drop (t+1)++Q)) by simp,ub _ _ _ _ _ (by simp;omega),hd]
   simp
  have c0:=hA.1
  try simp(disch:=first|omega|assumption|exact aa _) only[ah,ae,RZ,e1,w2,c0,g1,g2,rN,FW,su,jj]
  refine⟨by omega,hW,by omega,hW, ?_⟩
  exact ih t fu _ (by omega) (by omega) (by omega) (by omega) ((hA.set (ys:=(P++(X.take t++[x]++y::X.drop (t+1))++Q).set (P.length+(t+1)) x) rfl rfl).set rfl rfl)
def ng(h:H)(g n:Nat)(ws:List Int)(P XY Q:List Nat)(h':H)(n':Nat):Prop:=n'=n∧∃Z,Z.Perm XY∧Z.Pairwise (RI (aZ ws))∧At h h' g (P++Z++Q)
def FT(pw:Nat):Value:= .func (.func 150) #[] #[.pointer (some ⟨pw,0,none⟩)]
theorem ahc(lf d g n cap pw:Nat)(ws:List Int)(h:H)(P Y Q:List Nat)(x:Nat)(N:Nat)(a m b:Int)(aA:3000000<=lf)(hN:(P++x::Y++Q).length=N)(di:N<=1000000)(ha:a=(P.length:Nat))(hm:m=((P.length+1:Nat):Int))(hb:b=((P.length+1+Y.length:Nat):Int))(hE:jU h n g pw ws)(hg:g<n)(hh:h.get g=some ⟨3,true,b9 (P++x::Y++Q)⟩)(bP:∀z∈x::Y,z<ws.length)(hy:Y.Pairwise (RI (aZ ws)))(kW:∀y∈Y,x<y):
 aj (fun z=>z=g) n (au ai gt lf (d+4) 155 #[.slice (some ⟨g,0,none⟩) N cap,.int .i64 a,.int .i64 m,.int .i64 b,FT pw]) h n fun _ h' n'=>ng h g n ws P (x::Y) Q h' n':=by
 subst ha hm hb
 have lN:=hN
 simp only[aY,dI]at lN
 rw[aQ (fun _=>FL) rfl]
 refine aj.aP ?_
 unfold yP FT
 have w1:IntKind.i64.wrap (((P.length+1:Nat):Int)-((P.length:Nat):Int))=1:=by rw[bB (by omega) (by omega)];omega
 try simp(disch:=first|omega|assumption|exact aa _) only[ah,ae,RZ,w1,beq_self_eq_true]
 have:=ag' (W:=fun z=>z=g) lf d g n cap pw ws h P Y Q x N hN di hE hg hh (bP x (by simp)) (fun z hz=>bP z (by simp[hz])) (av n) (R:=fun _ h' n'=>ng h g n ws P (x::Y) Q h' n') (Bj lf (au ai gt lf (d+3))) (.int .i64 ((P.length+1:Nat):Int)) (.int .i64 ((P.length+1+Y.length:Nat):Int)) (.bool true) (fun p Xl hp h1 h2=>by
  (try unfold Bj);(try dsimp only)
  refine ag_ (W:=fun z=>z=g) lf (d+3) g n cap h P Y Q x p N hN di hp hg (.inr rfl) _ _ _ _ _ _ _ _ (fun hr hA=> ?_) p 0 lf h (by omega) (by omega) (dx _) ⟨by simpa using hh,fun b hb=>rfl⟩
  (try unfold LJ);(try unfold ane);(try dsimp only)
  try simp(disch:=first|omega|assumption|exact aa _) only[ah,ae,RZ]
  refine⟨rfl,_, ?_, ?_,hA⟩
  ·have:=amx (a:=x) (l₁:=Y.take p) (l₂:=Y.drop p)
   rw[lq]at this
   exact this
  ·refine Xe hy hp ?_ ?_
   ·rcases h1 with h1|h1
    ·exact .inl h1
    ·exact .inr (.inl h1)
   ·rcases h2 with h2|h2
    ·exact .inl h2
    ·by_cases iT:p=Y.length
     ·exact .inl iT
     ·exact .inr (LQ (kW _ (by rw[aF,aM (by omega)];exact cN _)) h2)) Y.length 0 Y.length lf (by omega) (by omega) (by omega) (by omega) (.inl rfl) (.inl rfl)
 exact this
theorem ahd(lf d g n cap pw:Nat)(ws:List Int)(h:H)(P X Q:List Nat)(y:Nat)(N:Nat)(a m b:Int)(aA:3000000<=lf)(hN:(P++X++y::Q).length=N)(di:N<=1000000)(hX2:2<=X.length)(ha:a=(P.length:Nat))(hm:m=((P.length+X.length:Nat):Int))(hb:b=((P.length+X.length+1:Nat):Int))(hE:jU h n g pw ws)(hg:g<n)(hh:h.get g=some ⟨3,true,b9 (P++X++y::Q)⟩)(HZ:y<ws.length)(bP:∀z∈X,z<ws.length)(hx:X.Pairwise (RI (aZ ws)))(kW:∀x∈X,x<y):
 aj (fun z=>z=g) n (au ai gt lf (d+4) 155 #[.slice (some ⟨g,0,none⟩) N cap,.int .i64 a,.int .i64 m,.int .i64 b,FT pw]) h n fun _ h' n'=>ng h g n ws P (X++[y]) Q h' n':=by
 subst ha hm hb
 have lN:=hN
 simp only[aY,dI]at lN
 rw[aQ (fun _=>FL) rfl]
 refine aj.aP ?_
 unfold yP FT
 have w1:(IntKind.i64.wrap (((P.length+X.length:Nat):Int)-((P.length:Nat):Int))==1)=false:=by rw[bB (by omega) (by omega),beq_eq_false_iff_ne];omega
 have w1':((((P.length+X.length:Nat):Int)-((P.length:Nat):Int))==1)=false:=by rw[beq_eq_false_iff_ne];omega
 have w2:IntKind.i64.wrap (((P.length+X.length+1:Nat):Int)-((P.length+X.length:Nat):Int))=1:=by rw[bB (by omega) (by omega)];omega
 try simp(disch:=first|omega|assumption|exact aa _) only[ah,ae,RZ,w1,w1',w2,beq_self_eq_true]
 have:=aha (W:=fun z=>z=g) lf d g n cap pw ws h P X Q y N hN di hE hg hh HZ bP (av n) (R:=fun _ h' n'=>ng h g n ws P (X++[y]) Q h' n') (Bi lf (au ai gt lf (d+3))) (.int .i64 ((P.length:Nat):Int)) (.int .i64 ((P.length+X.length+1:Nat):Int)) (.bool false) (.bool true) (fun p Xn hp h1 h2=>by
  (try unfold Bi);(try unfold anf);(try dsimp only)
  refine ahb (W:=fun z=>z=g) lf (d+3) g n cap h P X Q y p N hN di hp hg (.inr rfl) _ _ _ _ _ _ _ _ _ (fun hr hA=> ?_) (X.length-p) X.length lf h rfl (by omega) hp (av _) ⟨by simpa using hh,fun b hb=>rfl⟩
  (try unfold LI);(try unfold ang);(try dsimp only)
  try simp(disch:=first|omega|assumption|exact aa _) only[ah,ae,RZ]
  refine⟨rfl,_, ?_, ?_,hA⟩
  ·have:=amx (a:=y) (l₁:=X.take p) (l₂:=X.drop p)
   rw[lq]at this
   exact this.trans (amv y X).symm
  ·refine Xe hx hp ?_ ?_
   ·rcases h1 with h1|h1
    ·exact .inl h1
    ·by_cases H8:p=0
     ·exact .inl H8
     ·exact .inr (LQ (kW _ (by rw[aF,aM (by omega)];exact cN _)) h1)
   ·rcases h2 with h2|h2
    ·exact .inl h2
    ·exact .inr (.inl h2)) X.length 0 X.length lf (by omega) (by omega) (by omega) (by omega) (.inl rfl) (.inl rfl)
 exact this
theorem ahe (lf d g n cap pw:Nat) (ws:List Int) (h:H) (P X Y Q:List Nat) (hm:Nat) (N:Nat) (hN:(P++X++Y++Q).length=N) (di:N<=1000000) (hE:jU h n g pw ws) (hg:g<n) (hh:h.get g=some ⟨3,true,b9 (P++X++Y++Q)⟩) (hX:∀z∈X,z<ws.length) (hY:∀z∈Y,z<ws.length) (kW:∀x∈X,∀y∈Y,x<y) (lE:hm<=X.length+Y.length) {W:Nat->Prop} {n0:Nat} (dF:n0<=n) {R:Value->H->Nat->Prop} (k:(Value->Value->Value->Value->Value->Value->Value->Value->M Value)) (x1 x2 x3 qt qu pt yW ahf:Value) (pp:Int) (sR:pp=((P.length+hm+P.length+X.length:Nat):Int)-1)
 (hK:∀s,s<=X.length->s<=hm->hm-s<=Y.length->(s=0∨hm-s=Y.length∨RI (aZ ws) (X.getD (s-1) 0) (Y.getD (hm-s) 0))->(s=X.length∨s=hm∨RI (aZ ws) (Y.getD (hm-1-s) 0) (X.getD s 0))->aj W n0 (k (.slice (some ⟨g,0,none⟩) N cap) x1 x2 x3 (FT pw) qt qu (.int .i64 ((P.length+s:Nat):Int))) h n R):
 ∀(m s r fu:Nat),r-s<=m->m<fu->s<=r->r<=X.length->r<=hm->hm-s<=Y.length->(s=0∨hm-s=Y.length∨RI (aZ ws) (X.getD (s-1) 0) (Y.getD (hm-s) 0))->(r=X.length∨r=hm∨RI (aZ ws) (Y.getD (hm-1-r) 0) (X.getD r 0))->
  aj W n0 (ua lf (au ai gt lf (d+3)) fu k (.slice (some ⟨g,0,none⟩) N cap) x1 x2 x3 (FT pw) qt qu (.int .i64 ((P.length+s:Nat):Int)) (.int .i64 ((P.length+r:Nat):Int)) (.int .i64 pp) pt yW ahf) h n R:=by
 have lN:=hN
 simp only[aY]at lN
 intro m
 induction m with
 |zero=>
  intro s r fu hrs bM hsr FX FY yX h1 h2
  obtain⟨fu,rfl⟩:∃f,fu=f+1:=⟨fu-1,by omega⟩
  obtain rfl:s=r:=by omega
  rw[ua]
  try simp(disch:=first|omega|assumption|exact aa _) only[ah,ae,RZ,bH]
  exact hK s FX FY yX h1 h2
 |succ m ih=>
  intro s r fu hrs bM hsr FX FY yX h1 h2
  obtain⟨fu,rfl⟩:∃f,fu=f+1:=⟨fu-1,by omega⟩
  rw[ua]
  by_cases bf:s<r
  ·obtain⟨c,hc⟩:∃c,(P.length+s+(P.length+r))/2=P.length+c:=⟨(s+r)/2,by omega⟩
   have u1:s<=c:=by omega
   have Xm:c<r:=by omega
   have e1:((P.length+s:Nat):Int)<((P.length+r:Nat):Int):=by omega
   have e2:(((P.length+s:Nat):Int)+((P.length+r:Nat):Int))/2=((P.length+c:Nat):Int):=by omega
   have hx:X.getD c 0∈X:=by rw[aF,aM (by omega)];exact cN _
   have hy:Y.getD (hm-1-c) 0∈Y:=by rw[aF,aM (by omega)];exact cN _
   have w0:IntKind.i64.wrap (pp-((P.length+c:Nat):Int))=((P.length+X.length+(hm-1-c):Nat):Int):=by rw[bB (by omega) (by omega)];omega
   have g1:(b9 (P++X++Y++Q))[P.length+c]? =some (.int .i64 (X.getD c 0:Nat)):=by
    rw[mq (by simp;omega),show P++X++Y++Q=P++X++(Y++Q) by simp,FQ _ _ _ c _ rfl (by omega)]
   have g2:(b9 (P++X++Y++Q))[P.length+X.length+(hm-1-c)]? =some (.int .i64 (Y.getD (hm-1-c) 0:Nat)):=by
    rw[mq (by simp;omega),FQ (P++X) Y Q (hm-1-c) _ (by simp) (by omega)]
   unfold FT at*
   try simp(disch:=first|omega|assumption|exact aa _) only[ah,ae,RZ,e1,wrap_u64,yV,Bp,e2,w0,hh,g1,g2,FU]
   refine bV (FV lf d _ _ h n g pw ws hE (hY _ hy) (hX _ hx)) dF (fun _ _ h=>h.elim) ?_
   have e4:=FP (aZ ws (Y.getD (hm-1-c) 0)) (aZ ws (X.getD c 0))
   try simp(disch:=first|omega|assumption|exact aa _) only[ah,ae,RZ,e4]
   by_cases hk:aZ ws (Y.getD (hm-1-c) 0)<aZ ws (X.getD c 0)
   ·try simp(disch:=first|omega|assumption|exact aa _) only[ah,ae,RZ,hk,decide_true,gM]
    exact ih s c fu (by omega) (by omega) (by omega) (by omega) (by omega) yX h1 (.inr (.inr (.inl hk)))
   ·have w1:IntKind.i64.wrap (((P.length+c:Nat):Int)+1)=((P.length+(c+1):Nat):Int):=by rw[bB (by omega) (by omega)];omega
    have w2:((P.length+c:Nat):Int)+1=((P.length+(c+1):Nat):Int):=by omega
    try simp(disch:=first|omega|assumption|exact aa _) only[ah,ae,RZ,hk,decide_false,iP,w1]
    try rw[w2]
    refine ih (c+1) r fu (by omega) (by omega) (by omega) FX FY (by omega) (.inr (.inr ?_)) h2
    rw[show c+1-1=c by omega,show hm-(c+1)=hm-1-c by omega]
    exact LQ (kW _ hx _ hy) hk
  ·obtain rfl:s=r:=by omega
   try simp(disch:=first|omega|assumption|exact aa _) only[ah,ae,RZ,bH]
   exact hK s FX FY yX h1 h2
def Xo(lf g cap pw N:Nat)(ws:List Int)(l:Nat):Prop:=
 ∀(d n:Nat) (h:H) (P X Y Q:List Nat) (a m b:Int),X.length+Y.length<=l->(P++X++Y++Q).length=N->a=(P.length:Nat)->m=((P.length+X.length:Nat):Int)->b=((P.length+X.length+Y.length:Nat):Int)->1<=X.length->1<=Y.length->jU h n g pw ws->g<n->h.get g=some ⟨3,true,b9 (P++X++Y++Q)⟩->(∀z∈X++Y,z<ws.length)->X.Pairwise (RI (aZ ws))->Y.Pairwise (RI (aZ ws))->(∀x∈X,∀y∈Y,x<y)->
  aj (fun z=>z=g) n (au ai gt lf (d+l+4) 155 #[.slice (some ⟨g,0,none⟩) N cap,.int .i64 a,.int .i64 m,.int .i64 b,FT pw]) h n fun _ h' n'=>ng h g n ws P (X++Y) Q h' n'
theorem ng.run{h hr:H}{g n:Nat}{ws:List Int}{P Z Q:List Nat}{QQ:H->Nat->Prop}(e:∀h',(∃Z',Z'.Perm Z∧Z'.Pairwise (RI (aZ ws))∧At hr h' g (P++Z'++Q))->QQ h' n){h':H}{n':Nat}(q:ng hr g n ws P Z Q h' n'):QQ h' n':=by
 obtain⟨rfl,q⟩:=q
 exact e _ q
set_option maxHeartbeats 1000000 in
theorem ahg(lf g cap pw N:Nat)(ws:List Int)(aA:3000000<=lf)(di:N<=1000000)(l:Nat)(ih:Xo lf g cap pw N ws l)(d n:Nat)(h:H)(P X Y Q:List Nat)(hl:X.length+Y.length<=l+1)(hN:(P++X++Y++Q).length=N)(hX2:2<=X.length)(hY2:2<=Y.length)(hE:jU h n g pw ws)(hg:g<n)(hh:h.get g=some ⟨3,true,b9 (P++X++Y++Q)⟩)(bP:∀z∈X++Y,z<ws.length)(hx:X.Pairwise (RI (aZ ws)))(hy:Y.Pairwise (RI (aZ ws)))(kW:∀x∈X,∀y∈Y,x<y):
 aj (fun z=>z=g) n (au ai gt lf (d+l+4+1) 155 #[.slice (some ⟨g,0,none⟩) N cap,.int .i64 (P.length:Nat),.int .i64 ((P.length+X.length:Nat):Int),.int .i64 ((P.length+X.length+Y.length:Nat):Int),FT pw]) h n fun _ h' n'=>ng h g n ws P (X++Y) Q h' n':=by
 have lN:=hN
 simp only[aY]at lN
 rw[aQ (fun _=>FL) rfl]
 refine aj.aP ?_
 unfold yP
 obtain⟨hm,hhm⟩:∃hm,(P.length+(P.length+X.length+Y.length))/2=P.length+hm:=⟨(X.length+Y.length)/2,by omega⟩
 have hm1:1<=hm:=by omega
 have gf:hm<X.length+Y.length:=by omega
 have w1:(((P.length+X.length:Nat):Int)-((P.length:Nat):Int)==1)=false:=by rw[beq_eq_false_iff_ne];omega
 have w2:(((P.length+X.length+Y.length:Nat):Int)-((P.length+X.length:Nat):Int)==1)=false:=by rw[beq_eq_false_iff_ne];omega
 have w3:(((P.length:Nat):Int)+((P.length+X.length+Y.length:Nat):Int))/2=((P.length+hm:Nat):Int):=by omega
 have w4:IntKind.i64.wrap (((P.length+hm:Nat):Int)+((P.length+X.length:Nat):Int))=((P.length+hm+P.length+X.length:Nat):Int):=by rw[bB (by omega) (by omega)];omega
 have fin:∀s,s<=X.length->s<=hm->hm-s<=Y.length->(s=0∨hm-s=Y.length∨RI (aZ ws) (X.getD (s-1) 0) (Y.getD (hm-s) 0))->(s=X.length∨s=hm∨RI (aZ ws) (Y.getD (hm-1-s) 0) (X.getD s 0))->
  aj (fun z=>z=g) n (Bh lf (au ai gt lf (d+l+4)) (.slice (some ⟨g,0,none⟩) N cap) (.int .i64 (P.length:Nat)) (.int .i64 ((P.length+X.length:Nat):Int)) (.int .i64 ((P.length+X.length+Y.length:Nat):Int)) (FT pw) (.int .i64 ((P.length+hm:Nat):Int)) (.int .i64 ((P.length+hm+P.length+X.length:Nat):Int)) (.int .i64 ((P.length+s:Nat):Int))) h n fun _ h' n'=>ng h g n ws P (X++Y) Q h' n':=by
  intro s hsX hsh yX h1 h2
  have hc:=ag1 hx hy hm s hsX hsh yX h1 h2
  obtain⟨X1,FZ⟩:∃X1,X.take s=X1:=⟨_,rfl⟩
  obtain⟨X2,F0⟩:∃X2,X.drop s=X2:=⟨_,rfl⟩
  obtain⟨Y1,F1⟩:∃Y1,Y.take (hm-s)=Y1:=⟨_,rfl⟩
  obtain⟨Y2,F2⟩:∃Y2,Y.drop (hm-s)=Y2:=⟨_,rfl⟩
  have sj:=fun Z1 Z2 p1 p2 s1 s2=>ag2 (Z1:=Z1) (Z2:=Z2) (X:=X) (Y:=Y) (h:=hm) (s:=s) (k:=aZ ws) p1 p2 s1 s2 hc
  have eX:X1++X2=X:=by rw[<-FZ,<-F0];exact lq _ _
  have eY:Y1++Y2=Y:=by rw[<-F1,<-F2];exact lq _ _
  have lX1:X1.length=s:=by rw[<-FZ,cJ];omega
  have lY1:Y1.length=hm-s:=by rw[<-F1,cJ];omega
  have lX2:X2.length=X.length-s:=by rw[<-F0,kG]
  have lY2:Y2.length=Y.length-(hm-s):=by rw[<-F2,kG]
  have Xp:X1.Pairwise (RI (aZ ws)):=by rw[<-FZ];exact hx.sublist (aa9 _ _)
  have Xq:X2.Pairwise (RI (aZ ws)):=by rw[<-F0];exact hx.sublist (amy _ _)
  have Xr:Y1.Pairwise (RI (aZ ws)):=by rw[<-F1];exact hy.sublist (aa9 _ _)
  have Xs:Y2.Pairwise (RI (aZ ws)):=by rw[<-F2];exact hy.sublist (amy _ _)
  simp only[FZ,F0,F1,F2]at sj
  have Xt:∀z∈X1,z∈X:=fun z hz=>by rw[<-eX];simp[hz]
  have Xu:∀z∈X2,z∈X:=fun z hz=>by rw[<-eX];simp[hz]
  have Xv:∀z∈Y1,z∈Y:=fun z hz=>by rw[<-eY];simp[hz]
  have Xw:∀z∈Y2,z∈Y:=fun z hz=>by rw[<-eY];simp[hz]
  (try unfold Bh);(try unfold anh);(try dsimp only)
  have w5:IntKind.i64.wrap (((P.length+hm+P.length+X.length:Nat):Int)-((P.length+s:Nat):Int))=((P.length+X.length+(hm-s):Nat):Int):=by rw[bB (by omega) (by omega)];omega
  have t3:∀hr Z,Z.Perm (X1++Y1)->Z.Pairwise (RI (aZ ws))->At h hr g (P++Z++(X2++Y2)++Q)->aj (fun z=>z=g) n (
   aH (.int .i64 ((P.length+hm:Nat):Int)) (.int .i64 ((P.length+X.length+(hm-s):Nat):Int)) fun xc=>
   ar xc (
    aH (.int .i64 ((P.length+X.length+(hm-s):Nat):Int)) (.int .i64 ((P.length+X.length+Y.length:Nat):Int)) fun xd=>
    ar xd (
     az (au ai gt lf (d+l+4)) 155 [.slice (some ⟨g,0,none⟩) N cap,.int .i64 ((P.length+hm:Nat):Int),.int .i64 ((P.length+X.length+(hm-s):Nat):Int),.int .i64 ((P.length+X.length+Y.length:Nat):Int),FT pw] fun LX=>
     ak []) (
     ak [])) (
    ak [])) hr n fun _ h' n'=>ng h g n ws P (X++Y) Q h' n':=by
   intro hr Z pZ sZ hA
   have lZ:=pZ.length_eq
   simp only[aY]at lZ
   have done:∀h' Z2,Z2.Perm (X2++Y2)->Z2.Pairwise (RI (aZ ws))->At h h' g (P++Z++Z2++Q)->ng h g n ws P (X++Y) Q h' n:=fun h' Z2 p2 s2 gI=>by
    obtain⟨q1,q2⟩:=sj Z Z2 pZ p2 sZ s2
    exact⟨rfl,Z++Z2,q1,q2,by rw[<-cI];exact gI⟩
   by_cases c1:X2=[]∨Y2=[]
   ·
    have eU:(X2++Y2).Pairwise (RI (aZ ws)):=by
     rcases c1 with c1|c1
     ·rw[c1];exact Xs
     ·rw[c1,dr];exact Xq
    have D:=done hr _ (Cx _) eU hA
    by_cases c2:((P.length+hm:Nat):Int)<((P.length+X.length+(hm-s):Nat):Int)
    ·by_cases c3:((P.length+X.length+(hm-s):Nat):Int)<((P.length+X.length+Y.length:Nat):Int)
     ·exfalso
      rcases c1 with c1|c1<;>(have q:=congrArg nD c1;simp only[kH]at q;omega)
     ·try simp(disch:=first|omega|assumption|exact aa _) only[ah,ae,RZ,c2,c3]
      exact D
    ·try simp(disch:=first|omega|assumption|exact aa _) only[ah,ae,RZ,c2]
     exact D
   ·have bN:1<=X2.length:=by cases X2 with|nil=>exact absurd (.inl rfl) c1|cons a l=>simp
    have dS:1<=Y2.length:=by cases Y2 with|nil=>exact absurd (.inr rfl) c1|cons a l=>simp
    have c2:((P.length+hm:Nat):Int)<((P.length+X.length+(hm-s):Nat):Int):=by omega
    have c3:((P.length+X.length+(hm-s):Nat):Int)<((P.length+X.length+Y.length:Nat):Int):=by omega
    try simp(disch:=first|omega|assumption|exact aa _) only[ah,ae,RZ,c2,c3]
    have LY:hr.get g=some ⟨3,true,b9 (P++Z++X2++Y2++Q)⟩:=by rw[hA.1];simp
    refine bh aW (ih d n hr (P++Z) X2 Y2 Q _ _ _ (by omega) (by simp;omega) (by simp;omega) (by simp;omega) (by simp;omega) bN dS (hE.keeps hA.2) hg LY (fun z hz=>bP z (by rcases List.mem_append.1 hz with q|q;exact alP _ (Xu z q);exact Ck _ (Xw z q))) Xq Xs (fun x hx y hy=>kW x (Xu x hx) y (Xw y hy))) (av n) (fun b _ hb=> .inr hb) fun v h1 n1 _ _ hq=> ?_
    try simp(disch:=first|omega|assumption|exact aa _) only[ah,ae,RZ]
    obtain⟨rfl,Z2,p2,s2,gI⟩:=hq
    exact done h1 Z2 p2 s2 (hA.trans gI)
  have t2:∀hr,At h hr g (P++(X1++Y1)++(X2++Y2)++Q)->aj (fun z=>z=g) n (
   aH (.int .i64 (P.length:Nat)) (.int .i64 ((P.length+s:Nat):Int)) fun ahh=>
   ar ahh (
    aH (.int .i64 ((P.length+s:Nat):Int)) (.int .i64 ((P.length+hm:Nat):Int)) fun ahi=>
    ar ahi (
     az (au ai gt lf (d+l+4)) 155 [.slice (some ⟨g,0,none⟩) N cap,.int .i64 (P.length:Nat),.int .i64 ((P.length+s:Nat):Int),.int .i64 ((P.length+hm:Nat):Int),FT pw] fun ani=>
     aH (.int .i64 ((P.length+hm:Nat):Int)) (.int .i64 ((P.length+X.length+(hm-s):Nat):Int)) fun xc=>
     ar xc (
      aH (.int .i64 ((P.length+X.length+(hm-s):Nat):Int)) (.int .i64 ((P.length+X.length+Y.length:Nat):Int)) fun xd=>
      ar xd (
       az (au ai gt lf (d+l+4)) 155 [.slice (some ⟨g,0,none⟩) N cap,.int .i64 ((P.length+hm:Nat):Int),.int .i64 ((P.length+X.length+(hm-s):Nat):Int),.int .i64 ((P.length+X.length+Y.length:Nat):Int),FT pw] fun LX=>
       ak []) (
       ak [])) (
      ak [])) (
     aH (.int .i64 ((P.length+hm:Nat):Int)) (.int .i64 ((P.length+X.length+(hm-s):Nat):Int)) fun xc=>
     ar xc (
      aH (.int .i64 ((P.length+X.length+(hm-s):Nat):Int)) (.int .i64 ((P.length+X.length+Y.length:Nat):Int)) fun xd=>
      ar xd (
       az (au ai gt lf (d+l+4)) 155 [.slice (some ⟨g,0,none⟩) N cap,.int .i64 ((P.length+hm:Nat):Int),.int .i64 ((P.length+X.length+(hm-s):Nat):Int),.int .i64 ((P.length+X.length+Y.length:Nat):Int),FT pw] fun LX=>
       ak []) (
       ak [])) (
      ak []))) (
    aH (.int .i64 ((P.length+hm:Nat):Int)) (.int .i64 ((P.length+X.length+(hm-s):Nat):Int)) fun xc=>
    ar xc (
     aH (.int .i64 ((P.length+X.length+(hm-s):Nat):Int)) (.int .i64 ((P.length+X.length+Y.length:Nat):Int)) fun xd=>
     ar xd (
      az (au ai gt lf (d+l+4)) 155 [.slice (some ⟨g,0,none⟩) N cap,.int .i64 ((P.length+hm:Nat):Int),.int .i64 ((P.length+X.length+(hm-s):Nat):Int),.int .i64 ((P.length+X.length+Y.length:Nat):Int),FT pw] fun LX=>
      ak []) (
      ak [])) (
     ak []))) hr n fun _ h' n'=>ng h g n ws P (X++Y) Q h' n':=by
   intro hr hA
   by_cases c1:X1=[]∨Y1=[]
   ·have eU:(X1++Y1).Pairwise (RI (aZ ws)):=by
     rcases c1 with c1|c1
     ·rw[c1];exact Xr
     ·rw[c1,dr];exact Xp
    have D:=t3 hr _ (Cx _) eU hA
    by_cases c2:((P.length:Nat):Int)<((P.length+s:Nat):Int)
    ·by_cases c3:((P.length+s:Nat):Int)<((P.length+hm:Nat):Int)
     ·exfalso
      rcases c1 with c1|c1<;>(have q:=congrArg nD c1;simp only[kH]at q;omega)
     ·simp only[rE,decide_eq_true c2,decide_eq_false c3,yx,yy]
      simpa only[rE]using D
    ·simp only[rE,decide_eq_false c2,yy]
     simpa only[rE]using D
   ·have bN:1<=X1.length:=by cases X1 with|nil=>exact absurd (.inl rfl) c1|cons a l=>simp
    have dS:1<=Y1.length:=by cases Y1 with|nil=>exact absurd (.inr rfl) c1|cons a l=>simp
    have c2:((P.length:Nat):Int)<((P.length+s:Nat):Int):=by omega
    have c3:((P.length+s:Nat):Int)<((P.length+hm:Nat):Int):=by omega
    simp only[rE,decide_eq_true c2,decide_eq_true c3,yx]
    have LY:hr.get g=some ⟨3,true,b9 (P++X1++Y1++(X2++Y2++Q))⟩:=by rw[hA.1];simp
    refine bh aW (ih d n hr P X1 Y1 (X2++Y2++Q) _ _ _ (by omega) (by simp;omega) rfl (by omega) (by omega) bN dS (hE.keeps hA.2) hg LY (fun z hz=>bP z (by rcases List.mem_append.1 hz with q|q;exact alP _ (Xt z q);exact Ck _ (Xv z q))) Xp Xr (fun x hx y hy=>kW x (Xt x hx) y (Xv y hy))) (av n) (fun b _ hb=> .inr hb) fun v h1 n1 _ _ hq=> ?_
    obtain⟨rfl,Z2,p2,s2,gI⟩:=hq
    simpa only[rE]using t3 h1 Z2 p2 s2 (by have:=hA.trans gI;rwa[show P++Z2++(X2++Y2)++Q=P++Z2++(X2++Y2++Q) by simp])
  simp only[rE,JI,w5]at t2⊢
  by_cases c1:X2=[]∨Y1=[]
  ·have F3:At h h g (P++(X1++Y1)++(X2++Y2)++Q):=by
    refine⟨?_,fun b hb=>rfl⟩
    rw[hh,<-eX,<-eY]
    rcases c1 with c1|c1<;>(rw[c1];simp)
   have D:=t2 h F3
   by_cases c2:((P.length+s:Nat):Int)<((P.length+X.length:Nat):Int)
   ·by_cases c3:((P.length+X.length:Nat):Int)<((P.length+X.length+(hm-s):Nat):Int)
    ·exfalso
     rcases c1 with c1|c1<;>(have q:=congrArg nD c1;simp only[kH]at q;omega)
    ·simp only[decide_eq_true c2,decide_eq_false c3,yx,yy]
     exact D
   ·simp only[decide_eq_false c2,yy]
    exact D
  ·have bN:1<=X2.length:=by cases X2 with|nil=>exact absurd (.inl rfl) c1|cons a l=>simp
   have dS:1<=Y1.length:=by cases Y1 with|nil=>exact absurd (.inr rfl) c1|cons a l=>simp
   have c2:((P.length+s:Nat):Int)<((P.length+X.length:Nat):Int):=by omega
   have c3:((P.length+X.length:Nat):Int)<((P.length+X.length+(hm-s):Nat):Int):=by omega
   simp only[decide_eq_true c2,decide_eq_true c3,yx]
   have l7:h.get g=some ⟨3,true,b9 (P++X1++X2++Y1++(Y2++Q))⟩:=by rw[hh,<-eX,<-eY];simp
   refine bh aW (ag9 lf (d+l+2) g n cap h (P++X1) X2 Y1 (Y2++Q) N _ _ _ _ aA (by simp;omega) di bN dS hg (by simp;omega) (by simp;omega) (by simp;omega) l7) (av n) (fun b _ hb=> .inr hb) fun v h1 n1 _ _ hq=> ?_
   obtain⟨rfl,hA⟩:=hq
   exact t2 h1 (by rwa[show P++(X1++Y1)++(X2++Y2)++Q=P++X1++Y1++X2++(Y2++Q) by simp])
 have run:=ahe (W:=fun z=>z=g) lf (d+l+1) g n cap pw ws h P X Y Q hm N hN di hE hg hh (fun z hz=>bP z (by simp[hz])) (fun z hz=>bP z (by simp[hz])) kW (by omega) (av n) (R:=fun _ h' n'=>ng h g n ws P (X++Y) Q h' n') (Bh lf (au ai gt lf (d+l+4))) (.int .i64 (P.length:Nat)) (.int .i64 ((P.length+X.length:Nat):Int)) (.int .i64 ((P.length+X.length+Y.length:Nat):Int)) (.int .i64 ((P.length+hm:Nat):Int)) (.int .i64 ((P.length+hm+P.length+X.length:Nat):Int)) (.bool false) (.bool false)
 by_cases c0:hm<X.length
 ·have c1:((P.length+hm:Nat):Int)<((P.length+X.length:Nat):Int):=by omega
  have w6:IntKind.i64.wrap (((P.length+hm+P.length+X.length:Nat):Int)-((P.length+X.length+Y.length:Nat):Int))=((P.length+(hm-Y.length):Nat):Int):=by rw[bB (by omega) (by omega)];omega
  try simp(disch:=first|omega|assumption|exact aa _) only[ah,ae,RZ,w1,w2,w3,w4,wrap_u64,yV,Bp,c1,w6]
  exact run (.bool true) _ rfl (fun s a1 a2 a3 a4 a5=>fin s a1 a2 a3 a4 a5) (X.length+Y.length) (hm-Y.length) hm lf (by omega) (by omega) (by omega) (by omega) (by omega) (by omega) (by omega) (by omega)
 ·have c1:¬((P.length+hm:Nat):Int)<((P.length+X.length:Nat):Int):=by omega
  try simp(disch:=first|omega|assumption|exact aa _) only[ah,ae,RZ,w1,w2,w3,w4,wrap_u64,yV,Bp,c1]
  exact run (.bool false) _ rfl (fun s a1 a2 a3 a4 a5=>fin s a1 a2 a3 a4 a5) (X.length+Y.length) 0 X.length lf (by omega) (by omega) (by omega) (by omega) (by omega) (by omega) (by omega) (by omega)
theorem Xx(lf g cap pw N:Nat)(ws:List Int)(aA:3000000<=lf)(di:N<=1000000):∀l,Xo lf g cap pw N ws l:=by
 intro l
 induction l with
 |zero=>intro d n h P X Y Q a m b hl hN ha hm hb hX hY;omega
 |succ l ih=>
  intro d n h P X Y Q a m b hl hN ha hm hb hX hY hE hg hh bP hx hy kW
  by_cases h1:X.length=1
  ·obtain⟨x,rfl⟩:=List.length_eq_one_iff.1 h1
   have e:P++[x]++Y++Q=P++x::Y++Q:=by simp
   exact ahc lf (d+l+1) g n cap pw ws h P Y Q x N a m b aA (by rw[<-e];exact hN) di ha hm hb hE hg (by rw[<-e];exact hh) (fun z hz=>bP z (by simpa using hz)) hy (fun y hy=>kW x (by simp) y hy)
  ·by_cases h2:Y.length=1
   ·obtain⟨y,rfl⟩:=List.length_eq_one_iff.1 h2
    have e:P++X++[y]++Q=P++X++y::Q:=by simp
    exact ahd lf (d+l+1) g n cap pw ws h P X Q y N a m b aA (by rw[<-e];exact hN) di (by omega) ha hm hb hE hg (by rw[<-e];exact hh) (bP y (by simp)) (fun z hz=>bP z (by simp[hz])) hx (fun x hx=>kW x hx y (by simp))
   ·subst ha hm hb
    exact ahg lf g cap pw N ws aA di l ih d n h P X Y Q hl hN (by omega) (by omega) hE hg hh bP hx hy kW
section
variable (lf g cap pw N:Nat) (ws:List Int) (aA:3000000<=lf) (di:N<=1000000) (d n:Nat) (h:H) (xs:List Nat) (hN:xs.length=N) (hE:jU h n g pw ws) (hg:g<n) (bP:∀z∈xs,z<ws.length)
variable {W:Nat->Prop} {n0:Nat} (dF:n0<=n) (hW:n0<=g∨W g) {R:Value->H->Nat->Prop}
theorem Xy(pre fo post:List Nat)(a b:Int)(Xz:(pre++fo++post).length=N)(ha:a=(pre.length:Nat))(hb:b=((pre.length+fo.length:Nat):Int))(F4:∀z∈fo,z<ws.length)(eE:fo.Pairwise (fun a b=>a<b))(hh:h.get g=some ⟨3,true,b9 (pre++fo++post)⟩)(aA:3000000<=lf)(di:N<=1000000)(hE:jU h n g pw ws)(hg:g<n):
 aj (fun x=>x=g) n (au ai gt lf (d+4) 154 #[.slice (some ⟨g,0,none⟩) N cap,.int .i64 a,.int .i64 b,FT pw]) h n fun v h' n'=>n'=n∧∃D,D.Perm fo∧D.Pairwise (RI (aZ ws))∧At h h' g (pre++D++post):=by
 by_cases h1:1<=fo.length
 ·exact ag8 lf d g n cap pw ws h pre fo post N (by omega) Xz di h1 hE hg hh F4 eE a b ha hb
 ·have h0:fo=[]:=amz (by omega)
  subst h0
  subst ha hb
  have iT:pre.length<=N:=by rw[<-Xz];simp
  rw[aQ (fun _=>LH) rfl]
  refine aj.aP ?_
  unfold Bg FT
  have aux:∀fu,0<fu->aj (fun x=>x=g) n (qn lf (au ai gt lf (d+3)) fu (Bf lf (au ai gt lf (d+3))) (.slice (some ⟨g,0,none⟩) N cap) (.int .i64 (pre.length:Nat)) (.int .i64 (pre.length:Nat)) (.func (.func 150) #[] #[.pointer (some ⟨pw,0,none⟩)]) (.int .i64 ((pre.length:Nat)+1:Int))) h n fun v h' n'=>n'=n∧∃D,D.Perm []∧D.Pairwise (RI (aZ ws))∧At h h' g (pre++D++post):=by
   intro fu bM
   obtain⟨f,rfl⟩:∃f,fu=f+1:=⟨fu-1,by omega⟩
   have e2:¬((pre.length:Nat):Int)+1<((pre.length:Nat):Int):=by omega
   rw[qn]
   try simp(disch:=first|omega|assumption|exact aa _) only[ah,ae,RZ,e2]
   (try unfold Bf);(try dsimp only)
   try simp(disch:=first|omega|assumption|exact aa _) only[ah,ae,RZ]
   exact⟨[],Cx _,anP,hh,fun b hb=>rfl⟩
  try simp(disch:=first|omega|assumption|exact aa _) only[ah,ae,RZ]
  exact aux lf (by omega)
include aA di hN hE hg bP dF hW
theorem stA(k:Value->Value->Value->Value->Value->Value->Value->M Value)(hK:∀hr t U V (a8:Int) rO,V.length<20->qq (aZ ws) xs t U V->a8=((U.length+20:Nat):Int)->At h hr g (U++V)->aj W n0 (k (.slice (some ⟨g,0,none⟩) N cap) (.int .i64 (N:Nat)) (FT pw) (.int .i64 20) (.int .i64 (U.length:Nat)) (.int .i64 a8) rO) hr n R):
 ∀(m:Nat) (U V:List Nat) (t fu:Nat) (hr:H) (a8:Int),V.length<=m->m<fu->qq (aZ ws) xs t U V->a8=((U.length+20:Nat):Int)->At h hr g (U++V)->
  aj W n0 (wU lf (au ai gt lf (d+4)) fu k (.slice (some ⟨g,0,none⟩) N cap) (.int .i64 (N:Nat)) (FT pw) (.int .i64 20) (.int .i64 (U.length:Nat)) (.int .i64 a8)) hr n R:=by
 intro m
 induction m with
 |zero=>
  intro U V t fu hr a8 hV bM hS ha hA
  obtain⟨fu,rfl⟩:∃f,fu=f+1:=⟨fu-1,by omega⟩
  have lU:=hS.2.2.2.2.length_eq
  simp only[aY]at lU
  rw[wU]
  have e1:¬a8<=((N:Nat):Int):=by omega
  try simp(disch:=first|omega|assumption|exact aa _) only[ah,ae,RZ,e1]
  exact hK hr t U V a8 _ (by omega) hS ha hA
 |succ m ih=>
  intro U V t fu hr a8 hV bM hS ha hA
  obtain⟨fu,rfl⟩:∃f,fu=f+1:=⟨fu-1,by omega⟩
  have lU:=hS.2.2.2.2.length_eq
  simp only[aY]at lU
  rw[wU]
  by_cases py:20<=V.length
  ·have e1:a8<=((N:Nat):Int):=by omega
   try simp(disch:=first|omega|assumption|exact aa _) only[ah,ae,RZ,e1]
   have eV:U++V.take 20++V.drop 20=U++V:=by rw[cI,lq]
   have l20:(V.take 20).length=20:=by rw[cJ];omega
   refine bh aW (Xy lf g cap pw N ws d n hr U (V.take 20) (V.drop 20) _ _ (by rw[eV,aY];omega) rfl (by rw[l20];exact ha) (fun z hz=>bP z (hS.2.2.2.2.mem_iff.1 (Ck _ (nC hz)))) (hS.2.2.1.sublist (aa9 _ _)) (by rw[eV];exact hA.1) aA di (hE.keeps hA.2) hg) dF (fun b _ hb=>hb▸hW) fun v h1 n1 _ _ hq=> ?_
   obtain⟨rfl,D,p,s,kY⟩:=hq
   have w1:IntKind.i64.wrap (a8+20)=a8+20:=bB (by omega) (by omega)
   try simp(disch:=first|omega|assumption|exact aa _) only[ah,ae,RZ,w1]
   have lD:=p.length_eq
   have e2:a8=(((U++D).length:Nat):Int):=by rw[aY];omega
   rw[e2]
   exact ih (U++D) (V.drop 20) (t+1) fu h1 _ (by rw[kG];omega) (by omega) (hS.next py p s) (by omega) (hA.trans kY)
  ·have e1:¬a8<=((N:Nat):Int):=by omega
   try simp(disch:=first|omega|assumption|exact aa _) only[ah,ae,RZ,e1]
   exact hK hr t U V a8 _ (by omega) hS ha hA
theorem stC (C:Nat) (hC1:20<=C) (hC2:C<=2000000) (x13 x30:Value) (k:Value->Value->Value->Value->Value->Value->Value->M Value)
 (hK:∀hr t U V (a8:Int),V.length<2*C->ox (aZ ws) xs C t U V->At h hr g (U++V)->aj W n0 (k (.slice (some ⟨g,0,none⟩) N cap) (.int .i64 (N:Nat)) (FT pw) (.int .i64 (C:Nat)) (.int .i64 (U.length:Nat)) (.int .i64 a8) x13) hr n R):
 ∀(m:Nat) (U V:List Nat) (t fu:Nat) (hr:H) (a8:Int),V.length<=m->m<fu->ox (aZ ws) xs C t U V->a8=((U.length+2*C:Nat):Int)->At h hr g (U++V)->
  aj W n0 (wV lf (au ai gt lf (d+N+4)) fu k (.slice (some ⟨g,0,none⟩) N cap) (.int .i64 (N:Nat)) (FT pw) (.int .i64 (C:Nat)) (.int .i64 (U.length:Nat)) (.int .i64 a8) x13 x30) hr n R:=by
 intro m
 induction m with
 |zero=>
  intro U V t fu hr a8 hV bM hS ha hA
  obtain⟨fu,rfl⟩:∃f,fu=f+1:=⟨fu-1,by omega⟩
  have lU:=hS.2.2.2.2.length_eq
  simp only[aY]at lU
  rw[wV]
  have e1:¬a8<=((N:Nat):Int):=by omega
  try simp(disch:=first|omega|assumption|exact aa _) only[ah,ae,RZ,e1]
  exact hK hr t U V a8 (by omega) hS hA
 |succ m ih=>
  intro U V t fu hr a8 hV bM hS ha hA
  obtain⟨fu,rfl⟩:∃f,fu=f+1:=⟨fu-1,by omega⟩
  have lU:=hS.2.2.2.2.length_eq
  simp only[aY]at lU
  rw[wV]
  by_cases h2C:2*C<=V.length
  ·have e1:a8<=((N:Nat):Int):=by omega
   have w1:IntKind.i64.wrap (((U.length:Nat):Int)+((C:Nat):Int))=((U.length+C:Nat):Int):=by rw[bB (by omega) (by omega)];omega
   have w2:IntKind.i64.wrap (2*((C:Nat):Int))=((2*C:Nat):Int):=by rw[bB (by omega) (by omega)];omega
   have w3:IntKind.i64.wrap (a8+((2*C:Nat):Int))=a8+((2*C:Nat):Int):=bB (by omega) (by omega)
   try simp(disch:=first|omega|assumption|exact aa _) only[ah,ae,RZ,e1,w1,w2,w3]
   have eV:U++V.take C++(V.drop C).take C++V.drop (2*C)=U++V:=by rw[cI U,Xh,cI,lq]
   have lC:(V.take C).length=C:=by rw[cJ];omega
   have lY:((V.drop C).take C).length=C:=by rw[cJ,kG];omega
   have rP:∀z∈V.take C++(V.drop C).take C,z<ws.length:=fun z hz=>bP z (hS.2.2.2.2.mem_iff.1 (Ck _ (by
    rcases List.mem_append.1 hz with q|q
    ·exact nC q
    ·exact OC (nC q))))
   have pY:((V.drop C).take C).Pairwise (RI (aZ ws)):=by have:=(hS.2.2.1 1).1;rwa[Cs]at this
   refine bh aW (Xx lf g cap pw N ws aA di N d n hr U (V.take C) ((V.drop C).take C) (V.drop (2*C)) _ _ _ (by omega) (by rw[eV,aY];omega) rfl (by omega) (by omega) (by omega) (by omega) (hE.keeps hA.2) hg (by rw[eV];exact hA.1) rP hS.2.2.1.first pY (fun x hx y hy=>hS.2.2.1.Xf x hx y (nC hy))) dF (fun b _ hb=>hb▸hW) fun v h1 n1 _ _ hq=> ?_
   obtain⟨rfl,Z,p,s,kY⟩:=hq
   try simp(disch:=first|omega|assumption|exact aa _) only[ah,ae,RZ,w2,w3]
   have lZ:=p.length_eq
   rw[aY]at lZ
   have e2:a8=(((U++Z).length:Nat):Int):=by rw[aY];omega
   rw[e2]
   exact ih (U++Z) (V.drop (2*C)) (t+1) fu h1 _ (by rw[kG];omega) (by omega) (hS.next h2C p s) (by omega) (hA.trans kY)
  ·have e1:¬a8<=((N:Nat):Int):=by omega
   try simp(disch:=first|omega|assumption|exact aa _) only[ah,ae,RZ,e1]
   exact hK hr t U V a8 (by omega) hS hA
theorem stB(x13:Value)(k:M Value)(hK:∀hr D,D.Perm xs->D.Pairwise (RI (aZ ws))->At h hr g D->aj W n0 (k) hr n R):
 ∀(m C fu:Nat) (D:List Nat) (hr:H) (x7 x8:Value),N-C<=m->m<fu->20<=C->C<=2000000->BS (aZ ws) C D->D.Perm xs->At h hr g D->
  aj W n0 (tX lf (au ai gt lf (d+N+4)) fu k (.slice (some ⟨g,0,none⟩) N cap) (.int .i64 (N:Nat)) (FT pw) (.int .i64 (C:Nat)) x7 x8 x13) hr n R:=by
 intro m
 induction m with
 |zero=>
  intro C fu D hr x7 x8 hm bM h1 h2 hB hp hA
  obtain⟨fu,rfl⟩:∃f,fu=f+1:=⟨fu-1,by omega⟩
  rw[tX]
  have e1:¬((C:Nat):Int)<((N:Nat):Int):=by omega
  try simp(disch:=first|omega|assumption|exact aa _) only[ah,ae,RZ,e1]
  exact hK hr D hp (hB.all (by rw[hp.length_eq,hN];omega)) hA
 |succ m ih=>
  intro C fu D hr x7 x8 hm bM h1 h2 hB hp hA
  obtain⟨fu,rfl⟩:∃f,fu=f+1:=⟨fu-1,by omega⟩
  rw[tX]
  by_cases bf:C<N
  ·have e1:((C:Nat):Int)<((N:Nat):Int):=by omega
   have w2:IntKind.i64.wrap (2*((C:Nat):Int))=((2*C:Nat):Int):=by rw[bB (by omega) (by omega)];omega
   have w3:IntKind.i64.wrap (((C:Nat):Int)*2)=((2*C:Nat):Int):=by rw[bB (by omega) (by omega)];omega
   have lD:=hp.length_eq
   try simp(disch:=first|omega|assumption|exact aa _) only[ah,ae,RZ,e1,w2]
   refine stC lf g cap pw N ws aA di d n h xs hN hE hg bP dF hW C h1 h2 _ _ _ (fun gh t U V a8 hV hS gI=> ?_) D.length [] D 0 lf hr _ (av _) (by omega) (ox.start hB hp) (by simp) hA
   (try unfold agL);(try unfold FH);(try dsimp only)
   have lU:=hS.2.2.2.2.length_eq
   simp only[aY]at lU
   have w1:IntKind.i64.wrap (((U.length:Nat):Int)+((C:Nat):Int))=((U.length+C:Nat):Int):=by rw[bB (by omega) (by omega)];omega
   by_cases hM:C<V.length
   ·have e2:((U.length+C:Nat):Int)<((N:Nat):Int):=by omega
    try simp(disch:=first|omega|assumption|exact aa _) only[ah,ae,RZ,w1,e2,w3]
    have eV:U++V.take C++V.drop C++[]=U++V:=by rw[dr,cI,lq]
    have lC:(V.take C).length=C:=by rw[cJ];omega
    have lY:(V.drop C).length=V.length-C:=kG
    have rP:∀z∈V.take C++V.drop C,z<ws.length:=fun z hz=>bP z (hS.2.2.2.2.mem_iff.1 (Ck _ (by rwa[lq]at hz)))
    have pY:(V.drop C).Pairwise (RI (aZ ws)):=by
     have:=(hS.2.2.1 1).1
     rw[Cs,hH (by omega)]at this
     exact this
    refine bh aW (Xx lf g cap pw N ws aA di N d n gh U (V.take C) (V.drop C) [] _ _ _ (by omega) (by rw[eV,aY];omega) rfl (by omega) (by omega) (by omega) (by omega) (hE.keeps gI.2) hg (by rw[eV];exact gI.1) rP hS.2.2.1.first pY (fun x hx y hy=>hS.2.2.1.Xf x hx y hy)) dF (fun b _ hb=>hb▸hW) fun v h1 n1 _ _ hq=> ?_
    obtain⟨rfl,Z,p,s,kY⟩:=hq
    try simp(disch:=first|omega|assumption|exact aa _) only[ah,ae,RZ,w3]
    rw[dr]at kY
    obtain⟨q1,q2⟩:=hS.last hV p s
    exact ih (2*C) fu (U++Z) h1 _ _ (by omega) (by omega) (by omega) (by omega) q1 q2 (gI.trans kY)
   ·have e2:¬((U.length+C:Nat):Int)<((N:Nat):Int):=by omega
    try simp(disch:=first|omega|assumption|exact aa _) only[ah,ae,RZ,w1,e2,w3]
    obtain⟨q1,q2⟩:=hS.none (by omega)
    exact ih (2*C) fu (U++V) gh _ _ (by omega) (by omega) (by omega) (by omega) q1 q2 gI
  ·have e1:¬((C:Nat):Int)<((N:Nat):Int):=by omega
   try simp(disch:=first|omega|assumption|exact aa _) only[ah,ae,RZ,e1]
   exact hK hr D hp (hB.all (by rw[hp.length_eq,hN];omega)) hA
end
theorem ahj(lf g cap pw N:Nat)(ws:List Int)(aA:3000000<=lf)(di:N<=1000000)(d n:Nat)(h:H)(xs:List Nat)(hN:xs.length=N)(hE:jU h n g pw ws)(hg:g<n)(bP:∀z∈xs,z<ws.length)(eE:xs.Pairwise (fun a b=>a<b))(hh:h.get g=some ⟨3,true,b9 xs⟩):
 aj (fun x=>x=g) n (au ai gt lf (d+N+6) 149 #[.slice (some ⟨g,0,none⟩) N cap,FT pw]) h n fun v h' n'=>n'=n∧∃D,D.Perm xs∧D.Pairwise (RI (aZ ws))∧At h h' g D:=by
 rw[aQ (fun _=>Wx) rfl]
 refine aj.aP ?_
 unfold LB
 try simp(disch:=first|omega|assumption|exact aa _) only[ah,ae,RZ]
 have main:aj (fun x=>x=g) n (au ai gt lf (d+N+5) 152 #[.slice (some ⟨g,0,none⟩) N cap,.int .i64 (N:Nat),FT pw]) h n fun v h' n'=>n'=n∧∃D,D.Perm xs∧D.Pairwise (RI (aZ ws))∧At h h' g D:=by
  rw[aQ (fun _=>WG) rfl]
  refine aj.aP ?_
  unfold FJ
  have:=stA (W:=fun x=>x=g) (R:=fun v h' n'=>n'=n∧∃D,D.Perm xs∧D.Pairwise (RI (aZ ws))∧At h h' g D) lf g cap pw N ws aA di (d+N) n h xs hN hE hg bP (av n) (.inr rfl) (Bd lf (au ai gt lf (d+N+4))) (fun hr t U V a8 rO hV hS ha8 hA=>by
   (try unfold Bd);(try dsimp only)
   have lU:=hS.2.2.2.2.length_eq
   simp only[aY]at lU
   refine bh aW (Xy lf g cap pw N ws (d+N) n hr U V [] _ _ (by rw[dr,aY];omega) rfl (by omega) (fun z hz=>bP z (hS.2.2.2.2.mem_iff.1 (Ck _ hz))) hS.2.2.1 (by rw[dr];exact hA.1) aA di (hE.keeps hA.2) hg) (av n) (fun b _ hb=> .inr hb) fun v h1 n1 _ _ hq=> ?_
   obtain⟨rfl,D,p,s,kY⟩:=hq
   rw[dr]at kY
   obtain⟨q1,q2⟩:=hS.last (by omega) p s
   have:=stB (W:=fun x=>x=g) (n0:=n1) (R:=fun v h' n'=>n'=n1∧∃D,D.Perm xs∧D.Pairwise (RI (aZ ws))∧At h h' g D) lf g cap pw N ws aA di d n1 h xs hN hE hg bP (av n1) (.inr rfl) rO (FI lf (au ai gt lf (d+N+4))) (fun gh D2 p2 s2 gI=>by
    (try unfold FI);(try unfold anj);(try dsimp only)
    try simp(disch:=first|omega|assumption|exact aa _) only[ah,ae,RZ]
    exact⟨D2,p2,s2,gI⟩) N 20 lf (U++D) h1 (.int .i64 (U.length:Nat)) (.int .i64 a8) (by omega) (by omega) (by omega) (by omega) q1 q2 (hA.trans kY)
   exact this) N [] xs 0 lf h 20 (by omega) (by omega) (qq.start _ eE) (by simp) ⟨by simpa using hh,fun b hb=>rfl⟩
  exact this
 refine bh aW main (av n) (fun b _ hb=> .inr hb) fun v h1 n1 _ _ hq=> ?_
 try simp(disch:=first|omega|assumption|exact aa _) only[ah,ae,RZ]
 exact hq
theorem Br(lf d n:Nat)(h:H)(v:Value)(xs:List Int)(hR:Row h n 3 .i64 v xs)(h0:0<xs.length)(hl:xs.length<=1000000):
 aj (fun _=>False) n (au ai gt lf (d+1) 72 #[v]) h n fun v' h' n'=>(0<xs.length->Own h' n n' 3 v' (aJ .i64 xs))∧Row h' n' 3 .i64 v' xs∧∀b,aD v' b->n<=b:=by
 rw[aQ (fun _=>TW) rfl]
 refine aj.aP ?_
 unfold KD
 rcases hR with ⟨a,c,rfl,_,rfl⟩|⟨b,off,cap,o,cs,rfl,hg,hb,hle,ht,hc⟩
 ·exact absurd h0 (by simp)
 ·try simp(disch:=first|omega|assumption|exact aa _) only[ah,ae,RZ]
  refine aee trivial _ ?_
  have fj:(h.set n (some ⟨3,true,[]⟩)).get b=some ⟨3,o,cs⟩:=by rw[aK _ _ (by omega)];exact hg
  by_cases Ia:xs.length=0
  ·have hx:xs=[]:=List.length_eq_zero_iff.1 Ia
   subst hx
   refine Rn (news:=[]) trivial rfl _ _ _ _ ?_
   try simp(disch:=first|omega|assumption|exact aa _) only[ah,ae,RZ]
   refine⟨fun q=>absurd q (by simp),.inr ⟨n,0,0,true,[],rfl,get_eq _ _ _,by omega,by simp,by simp[aJ],by simp⟩,fun b hb=>by rw[hb.inj];exact av n⟩
  ·have s:Src (h.set n (some ⟨3,true,[]⟩)) (n+1) (.slice (some ⟨b,off,none⟩) xs.length cap) (aJ .i64 xs):=⟨b,off,cap,_,by rw[cT],fj,by omega,by rw[cT];exact hle,by rw[cT];exact ht⟩
   refine aed trivial s (by rw[cT];omega) (JS _ _) (get_eq _ _ _) rfl (Nat.lt_succ_self n) 0 0 (by simp) rfl (by rw[cT];omega) (by unfold bc;omega) (by rw[cT];omega) _ ?_
   try simp(disch:=first|omega|assumption|exact aa _) only[ah,ae,RZ]
   have ho:Own ((h.set n (some ⟨3,true,[]⟩)).set (n+1) (some ⟨3,true,[]++aJ .i64 xs⟩)) n (n+1+1) 3 (.slice (some ⟨n+1,0,none⟩) (aJ .i64 xs).length (bc+(aJ .i64 xs).length)) (aJ .i64 xs):= .inr ⟨n+1,rfl,by rw[get_eq];rfl,by omega,by omega⟩
   exact⟨fun _=>ho,ho.row,fun b hb=>by rw[hb.inj];omega⟩
structure XA (h1 hr:H) (n1 nr g:Nat) (wv lv iv:Value) (N i:Nat):Prop where
 hg:hr.get g=some ⟨164,true,[wv,iv,lv,.int .i64 (N:Nat)]⟩
 aB:∀b,b<n1->b≠g->hr.get b=h1.get b
 ol:Own hr n1 nr 3 lv (b9 (bL i))
 oi:Own hr n1 nr 3 iv (ints (bI i (-1)))
 XB:∀b,aD lv b->¬aD iv b
 le:n1<=nr
theorem trA (lf d:Nat) (h1:H) (n1 g:Nat) (wv:Value) (N:Nat) (x0 x1 x2:Value) (hg:g<n1) (hN:N<=1000000) {W:Nat->Prop} {n0:Nat} (dF:n0<=g) {R:Value->H->Nat->Prop} (k:(Value->Value->M Value))
 (hK:∀hr nr lv iv,XA h1 hr n1 nr g wv lv iv N N->aj W n0 (k x1 (.pointer (some ⟨g,0,none⟩))) hr nr R):
 ∀(m i fu:Nat) (hr:H) (nr:Nat) (lv iv:Value),N-i<=m->m<fu->i<=N->XA h1 hr n1 nr g wv lv iv N i->
  aj W n0 (wT lf (au ai gt lf d) fu k x0 x1 x2 (.pointer (some ⟨g,0,none⟩)) (.int .i64 (N:Nat)) (.int .i64 (i:Nat))) hr nr R:=by
 intro m
 induction m with
 |zero=>
  intro i fu hr nr lv iv hm bM hi hT
  obtain⟨fu,rfl⟩:∃f,fu=f+1:=⟨fu-1,by omega⟩
  obtain rfl:i=N:=by omega
  rw[wT]
  try simp(disch:=first|omega|assumption|exact aa _) only[ah,ae,RZ,bH]
  exact hK hr nr lv iv hT
 |succ m ih=>
  intro i fu hr nr lv iv hm bM hi hT
  obtain⟨fu,rfl⟩:∃f,fu=f+1:=⟨fu-1,by omega⟩
  rw[wT]
  by_cases bf:i<N
  ·have e1:((i:Nat):Int)<((N:Nat):Int):=by omega
   obtain⟨c0,Bs,ir,qW,LZ,hle⟩:=hT
   have rQ:g<nr:=by omega
   try simp(disch:=first|omega|assumption|exact aa _) only[ah,ae,RZ,e1,c0]
   refine m4 trivial (ky _ _) ir (by rw[rN];simp;omega) (by omega) _ (fun h2 dy bq=> ?_)
   have Ma:∀b,aD lv b->b≠g:=fun b hb=>by have:=(ir.lt hb).1;omega
   have c2:h2.get g=some ⟨164,true,[wv,iv,lv,.int .i64 (N:Nat)]⟩:=by rw[bq g (by omega) (fun hb=>Ma g hb rfl)];exact c0
   try simp(disch:=first|omega|assumption|exact aa _) only[ah,ae,RZ,c2]
   refine⟨.inl (by omega), ?_⟩
   have ahk:Own (h2.set g (some ⟨164,true,[wv,iv,.slice (some ⟨nr+1,0,none⟩) ((b9 (bL i)).length+1) (bc+((b9 (bL i)).length+1)),.int .i64 (N:Nat)]⟩)) n1 (nr+2) 3 iv (ints (bI i (-1))):=qW.aB (by omega) fun b hb=>by
    have:=qW.lt hb
    rw[aK _ _ (by omega)]
    exact bq b (by omega) (fun q=>LZ b q hb)
   refine m4 trivial (ky _ _) ahk (by rw[jT];simp;omega) (by omega) _ (fun h3 yY z7=> ?_)
   have hgi:∀b,aD iv b->b≠g:=fun b hb=>by have:=(qW.lt hb).1;omega
   have c3:h3.get g=some ⟨164,true,[wv,iv,.slice (some ⟨nr+1,0,none⟩) ((b9 (bL i)).length+1) (bc+((b9 (bL i)).length+1)),.int .i64 (N:Nat)]⟩:=by
    rw[z7 g (by omega) (fun hb=>hgi g hb rfl),get_eq]
   try simp(disch:=first|omega|assumption|exact aa _) only[ah,ae,RZ,c3]
   refine⟨.inl (by omega), ?_⟩
   have w1:((i:Nat):Int)+1=((i+1:Nat):Int):=by omega
   rw[w1]
   refine ih (i+1) fu _ _ _ _ (by omega) (by omega) (by omega) ⟨by rw[get_eq],fun b hb Mb=> ?_, ?_, ?_,fun b hb q=> ?_,by omega⟩
   ·rw[aK _ _ Mb,z7 b (by omega) (fun q=>by have:=(qW.lt q).1;omega),aK _ _ Mb,bq b (by omega) (fun q=>by have:=(ir.lt q).1;omega)]
    exact Bs b hb Mb
   ·have:b9 (bL (i+1))=b9 (bL i)++[.int .i64 (i:Nat)]:=by unfold b9;rw[List.range_succ,eK];rfl
    rw[this]
    refine Own.mk' ?_ (by omega) (by omega) (by simp)
    rw[aK _ _ (by omega),z7 _ (by omega) (fun q=>by have:=(qW.lt q).2;omega),aK _ _ (by omega)]
    exact dy
   ·have:ints (bI (i+1) (-1))=ints (bI i (-1))++[.int .i64 (-1)]:=by unfold ints;rw[List.replicate_succ',eK];rfl
    rw[this]
    refine Own.mk' ?_ (by omega) (by omega) (by simp)
    rw[aK _ _ (by omega)]
    exact yY
   ·rw[hb.inj]at q
    have:=q.inj
    omega
  ·obtain rfl:i=N:=by omega
   try simp(disch:=first|omega|assumption|exact aa _) only[ah,ae,RZ,bH]
   exact hK hr nr lv iv hT
def Start(ws:List Int)(D:List Nat):HT:={weight:=ws,bz:=bI ws.length (-1),leaves:=D,bb:=ws.length}
set_option maxHeartbeats 1000000 in
theorem ahl(lf d n:Nat)(h:H)(v:Value)(ws:List Int)(hR:Row h n 3 .i64 v ws)(h1:1<=ws.length)(hl:ws.length<=1000000)(aA:3000000<=lf):
 aj (fun _=>False) n (au ai gt lf (d+ws.length+7) 146 #[v]) h n fun v' h' n'=>∃g bw bi bl cl D,v'= .pointer (some ⟨g,0,none⟩)∧D.Perm (bL ws.length)∧D.Pairwise (RI (aZ ws))∧m8 h' n' g (Start ws D) bw bi bl 0 cl (b9 D)∧n<=g∧n<=bw∧n<=bi∧n<=bl:=by
 have bg:=hR
 obtain⟨b,off,cap,o,cs,rfl,hg,hb,hle,ht,hc,bk⟩:=hR.some (by omega)
 rw[aQ (fun _=>Wu) rfl]
 refine aj.aP ?_
 unfold FG
 refine qi trivial _ _ ?_
 obtain⟨h2,gy⟩:∃h2,h.set n (some ⟨22,true,(Value.slice (some ⟨b,off,none⟩) ws.length cap).cells.toList⟩)=h2:=⟨_,rfl⟩
 have p2:h2.get n=some ⟨22,true,[.slice (some ⟨b,off,none⟩) ws.length cap]⟩:=by rw[<-gy,get_eq];rfl
 have k2:∀c,c<n->h2.get c=h.get c:=fun c hc=>by rw[<-gy,aK _ _ (by omega)]
 rw[gy]
 have iC:Row h2 (n+1) 3 .i64 (.slice (some ⟨b,off,none⟩) ws.length cap) ws:=bg.aB (by omega) k2
 refine AF trivial n 0 _ p2 (by omega) rfl ?_
 refine D7 aW (Br lf (d+ws.length+5) (n+1) h2 _ ws iC (by omega) hl) (by omega) (fun _ _ h=>h.elim) fun v3 h3 n3 L fy dU q3 tu Mc=> ?_
 obtain⟨q3,_,_⟩:=q3
 have Md:=q3 (by omega)
 obtain⟨bw,rfl⟩:∃bw,v3= .slice (some ⟨bw,0,none⟩) ws.length (bc+ws.length):=by
  rcases Md with ⟨_,q⟩|⟨bw,q,_⟩
  ·have:=congrArg nD q
   rw[cT]at this;simp only[kH]at this;omega
  ·rw[cT]at q
   exact⟨bw,q⟩
 have mo:=Md.lt ⟨_,_,_,rfl⟩
 have gbw:h3.get bw=some ⟨3,true,ints ws⟩:=by
  rcases Md with ⟨q,_⟩|⟨c,q,hq,_⟩
  ·cases q
  ·injection q with q;injection q with q;injection q with q
   rw[q];exact hq
 have p3:h3.get n=some ⟨22,true,[.slice (some ⟨b,off,none⟩) ws.length cap]⟩:=by rw[dU n (by omega) (fun q=>q)];exact p2
 refine AF trivial n 0 _ p3 (by omega) rfl ?_
 try simp(disch:=first|omega|assumption|exact aa _) only[ah,ae,RZ]
 refine Rs trivial _ _ ?_
 have fG:fH ⟨n+1,n3,L⟩ ⟨n3,n3,[⟨false,n,some 0⟩]⟩=false:=(Aq _ _).trans<|aeg (fun e he=>by
  cases hw:e.wr with
  |false=>rfl
  |true=>exact(Mc e he hw).elim) (by show n<n+1;omega)
 simp only[fG,iP,Bool.and_self,tw]
 obtain⟨h4,Me⟩:∃h4,h3.set n3 (some ⟨164,true,(Value.agg #[.slice (some ⟨bw,0,none⟩) ws.length (bc+ws.length),.slice none 0 0,.slice none 0 0,.int .i64 (ws.length:Nat)]).cells.toList⟩)=h4:=⟨_,rfl⟩
 rw[Me]
 have g4:h4.get n3=some ⟨164,true,[.slice (some ⟨bw,0,none⟩) ws.length (bc+ws.length),.slice none 0 0,.slice none 0 0,.int .i64 (ws.length:Nat)]⟩:=by rw[<-Me,get_eq];rfl
 have k4:∀c,c<n3->h4.get c=h3.get c:=fun c hc=>by rw[<-Me,aK _ _ (by omega)]
 have p4:h4.get n=some ⟨22,true,[.slice (some ⟨b,off,none⟩) ws.length cap]⟩:=by rw[k4 n (by omega)];exact p3
 try simp(disch:=first|omega|assumption|exact aa _) only[ah,ae,RZ,p4]
 refine trA lf (d+ws.length+6) h4 (n3+1) n3 (.slice (some ⟨bw,0,none⟩) ws.length (bc+ws.length)) ws.length _ _ _ (by omega) hl (by omega) _ (fun hr nr lv iv hT=> ?_) ws.length 0 lf h4 (n3+1) (.slice none 0 0) (.slice none 0 0) (by omega) (by omega) (dx _) ⟨g4,fun b _ _=>rfl,Own.nil _ _ _ _,Own.nil _ _ _ _,fun b hb=>hb.not_nil.elim,av _⟩
 (try unfold Ly);(try dsimp only)
 obtain⟨c0,Bs,ir,qW,LZ,abl⟩:=hT
 obtain⟨bl,rfl,gl,mn,fN⟩:∃bl,lv= .slice (some ⟨bl,0,none⟩) ws.length (bc+ws.length)∧hr.get bl=some ⟨3,true,b9 (bL ws.length)⟩∧n3+1<=bl∧bl<nr:=by
  rcases ir with ⟨_,q⟩|⟨bl,q,hq,a,c⟩
  ·have:=congrArg nD q
   rw[rN,Hr]at this;simp only[kH]at this;omega
  ·rw[rN,Hr]at q
   exact⟨bl,q,hq,a,c⟩
 obtain⟨bi,rfl,gi,hi1,ke⟩:∃bi,iv= .slice (some ⟨bi,0,none⟩) ws.length (bc+ws.length)∧hr.get bi=some ⟨3,true,ints (bI ws.length (-1))⟩∧n3+1<=bi∧bi<nr:=by
  rcases qW with ⟨_,q⟩|⟨bl,q,hq,a,c⟩
  ·have:=congrArg nD q
   rw[jT,jJ]at this;simp only[kH]at this;omega
  ·rw[jT,jJ]at q
   exact⟨bl,q,hq,a,c⟩
 have ahm:bl≠bi:=fun e=>LZ bl ⟨_,_,_,rfl⟩ ⟨0,_,_,by rw[e]⟩
 have gnr:n3<nr:=by omega
 try simp(disch:=first|omega|assumption|exact aa _) only[ah,ae,RZ,c0]
 have pr:hr.get n=some ⟨22,true,[.slice (some ⟨b,off,none⟩) ws.length cap]⟩:=by rw[Bs n (by omega) (by omega)];exact p4
 have br:hr.get b=some ⟨3,o,cs⟩:=by rw[Bs b (by omega) (by omega),k4 b (by omega),dU b (by omega) (fun q=>q),k2 b hb];exact hg
 have wr:hr.get bw=some ⟨3,true,ints ws⟩:=by rw[Bs bw (by omega) (by omega),k4 bw (by omega)];exact gbw
 have env:jU hr nr bl n ws:=⟨⟨b,off,cap,_,_,_,_,cs,pr,br,by omega,by omega,bk⟩,by omega,by omega⟩
 refine bh aW (ahj lf bl (bc+ws.length) n ws.length ws aA hl d nr hr (bL ws.length) (by simp) env fN (fun z hz=>List.mem_range.1 hz) List.pairwise_lt_range gl) (by omega) (fun c _ hc=> .inl (by omega)) fun v5 h5 n5 _ _ hq=> ?_
 obtain⟨rfl,D,hp,hs,hA⟩:=hq
 try simp(disch:=first|omega|assumption|exact aa _) only[ah,ae,RZ]
 refine⟨n3,bw,bi,bl,bc+ws.length,D,rfl,hp,hs,⟨?_, ?_, ?_,hA.1, ?_, ?_, ?_,by omega⟩,by omega,by omega,by omega,by omega⟩
 ·rw[hA.2 n3 (by omega),c0]
  have:=hp.length_eq
  simp at this
  simp[Start,this]
 ·rw[hA.2 bw (by omega)];exact wr
 ·rw[hA.2 bi (fun e=>ahm e.symm)];exact gi
 ·rw[rN];exact Nat.le_of_eq (Nat.zero_add _)
 ·rw[eJ]
  show(b9 D).take D.length=b9 D
  rw[hH (by rw[rN];exact av _)]
 ·have:=hp.length_eq
  simp at this
  show D.length<=_
  omega
def jV(bz:List Int):Nat->List Int->List Int
 |0,out=>out
 |i+1,out=>jV bz i (out.set i (out.getD (bz.getD i 0).toNat 0+1))
def fX(ws:List Int)(D:List Nat):HT:=dG (ws.length-1) (Start ws D)
def mr(ws:List Int)(D:List Nat):List Int:=(jV (fX ws D).bz (2*ws.length-2) (bI (2*ws.length-1) 0)).take ws.length
theorem F5(bz:List Int):∀(i:Nat) (out:List Int),(jV bz i out).length=out.length
 |0,out=>rfl
 |i+1,out=>by unfold jV;rw[F5 bz i];simp
theorem yZ(ws:List Int)(D:List Nat)(h:1<=ws.length):(mr ws D).length=ws.length:=by
 unfold mr
 rw[cJ,F5,jJ]
 omega
theorem XC{ws:List Int}{D:List Nat}{S:Int}(hp:D.Perm (bL ws.length))(hw:∀x∈ws,0<=x)(hS:bp ws=S):iA ws.length 0 [] S (Start ws D):=by
 have hlen:=hp.length_eq
 rw[Hr]at hlen
 have rP:∀i∈D,i<ws.length:=fun i hi=>List.mem_range.1 (hp.mem_iff.1 hi)
 have sle:=yR ws hw
 rw[hS]at sle
 have ahn:∀{a b:List Int},a.Perm b->bp a=bp b:=by
  intro a b h
  induction h with
  |nil=>rfl
  |cons x _ ih=>simp only[bp,ih]
  |swap x y l=>simp only[bp];omega
  |trans _ _ Mf yD=>exact Mf.trans yD
 refine⟨rfl,by simp[Start],rP,fun i hi=>by simp at hi,av _,av _,by simp[Start,hlen],fun i hi=> ?_, ?_,fun i hi h2=> ?_⟩
 ·have:ws.getD i 0∈ws:=by rw[aF,aM (by omega)];exact cN _
  exact⟨hw _ this,sle.2 _ this⟩
 ·unfold rL
  simp only[Start,Nat.add_zero,nE,List.range'_zero,dr,uD]
  rw[ahn (hp.map _),<-hS]
  congr 1
  apply mI
  ·simp
  ·intro i h1 h2
   simp[bt,h2]
 ·exact absurd (hp.mem_iff.2 (List.mem_range.2 (by omega))) h2
theorem Mg{n k:Nat}{S:Int}{t:HT}(h:iA n k [] S t)(hk:k+2<=n):iA n k [Hu.cV t] S (taken t)∧Hu.cV t<n+k∧iA n k [Hu.cV t,Hu.cV (taken t)] S (taken (taken t))∧Hu.cV (taken t)<n+k∧iA n (k+1) [] S (rK t)∧(rK t).bb<=n+k:=by
 have hl:=h.left
 simp only[kH]at hl
 obtain⟨h1,a1⟩:=h.take (by omega)
 have mn:=h1.left
 simp only[uD,dI,kH]at mn
 obtain⟨h2,a2⟩:=h1.take (by omega)
 exact⟨h1,a1,h2,a2,h2.join,h2.jh⟩
theorem XD{n k:Nat}{P:List Nat}{S:Int}{t:HT}(h:iA n k P S t)(h1:1<=t.leaves.length+(n+k-t.bb)):(gT t=true->0<t.leaves.length)∧(0<t.leaves.length->t.leaves.getD 0 0<t.weight.length)∧t.bb<=t.weight.length:=by
 refine⟨fun hl=> ?_,fun h0=> ?_,by rw[h.wl];exact h.jh⟩
 ·obtain⟨r,e,_⟩:=LO h h1 hl
  rw[e];simp
 ·have:=h.leaf (t.leaves.getD 0 0) (by rw[aF,aM h0];exact cN _)
  rw[h.wl];omega
set_option maxHeartbeats 2000000 in
theorem dpA (lf d n:Nat) (N:Nat) (S:Int) (t0:HT) (g:Nat) (x0 x2:Value) (hN2:2<=N) (di:N<=1000) (hS:S<=1152921504606846976) {W:Nat->Prop} {n0:Nat} {R:Value->H->Nat->Prop} (k:(Value->Value->Value->Value->Value->Value->M Value)) (lo:Nat) (mc:n0<=lo) (hg:lo<=g)
 (hK:∀hr nr bw bi bl off cl cs rO,n<=nr->m8 hr nr g (dG (N-1) t0) bw bi bl off cl cs->iA N (N-1) [] S (dG (N-1) t0)->(dG (N-1) t0).bb<N+(N-1)->aj W n0 (k x0 x2 (.pointer (some ⟨g,0,none⟩)) (.int .i64 ((N-1:Nat):Int)) (.int .i64 ((N-1:Nat):Int)) rO) hr nr R):
 ∀(m kk fu:Nat) (hr:H) (nr bw bi bl off cl:Nat) (cs:List Value),N-1-kk=m->m<fu->kk<=N-1->n<=nr->lo<=nr->lo<=bw->lo<=bi->m8 hr nr g (dG kk t0) bw bi bl off cl cs->iA N kk [] S (dG kk t0)->(kk=0∨(dG kk t0).bb<N+kk)->
  aj W n0 (wP lf (au ai gt lf (d+1)) fu k x0 x2 (.pointer (some ⟨g,0,none⟩)) (.int .i64 ((N-1:Nat):Int)) (.int .i64 (kk:Nat))) hr nr R:=by
 intro m
 induction m with
 |zero=>
  intro kk fu hr nr bw bi bl off cl cs hm bM qR hn mn fN uc hT hO hj
  obtain⟨fu,rfl⟩:∃f,fu=f+1:=⟨fu-1,by omega⟩
  obtain rfl:kk=N-1:=by omega
  rw[wP]
  try simp(disch:=first|omega|assumption|exact aa _) only[ah,ae,RZ,bH]
  exact hK hr nr bw bi bl off cl cs _ hn hT hO (by omega)
 |succ m ih=>
  intro kk fu hr nr bw bi bl off cl cs hm bM qR hn mn fN uc hT hO hj
  obtain⟨fu,rfl⟩:∃f,fu=f+1:=⟨fu-1,by omega⟩
  rw[wP]
  have e1:((kk:Nat):Int)<((N-1:Nat):Int):=by omega
  obtain⟨t,ht⟩:∃t,dG kk t0=t:=⟨_,rfl⟩
  rw[ht]at hT hO hj
  obtain⟨s1,s2,s3,s4,s5,s6⟩:=Mg hO (by omega)
  have q1:=XD hO (by have:=hO.left;simp only[kH]at this;omega)
  have q2:=XD s1 (by have:=s1.left;simp only[dI,kH]at this;omega)
  have wl:=hO.wl
  have hl:=hO.left
  have wl1:=s1.wl
  have l1:=s1.left
  have wl2:=s3.wl
  have l2:=s3.left
  simp only[dI,kH]at l1 l2
  have e2:((kk:Nat):Int)+1=((kk+1:Nat):Int):=by omega
  try simp(disch:=first|omega|assumption|exact aa _) only[ah,ae,RZ,e1]
  refine bh aW (W8 lf d g nr hr t bw bi bl off cl cs hT (by have:=hO.jh;omega) (by omega) (by omega) q1.1 q1.2.1 q1.2.2) (by omega) (fun c _ hc=> .inl (by omega)) fun v1 h1 n1 _ _ hq=> ?_
  obtain⟨rfl,rfl,aho,cl1,F6⟩:=hq
  refine bh aW (W8 lf d g n1 h1 (taken t) bw bi bl aho cl1 cs F6 (by have:=s1.jh;omega) (by omega) (by omega) q2.1 q2.2.1 q2.2.2) (by omega) (fun c _ hc=> .inl (by omega)) fun v2 h2 n2 _ _ hq=> ?_
  obtain⟨rfl,rfl,y0,XE,y1⟩:=hq
  refine bh aW (agX lf d g n2 (Hu.cV t) (Hu.cV (taken t)) h2 (taken (taken t)) bw bi bl y0 XE cs y1 (by omega) (by rw[wl2,s3.il]) (by omega) (by omega) (fun x hx=> ?_)) (by omega) (fun c _ hc=> .inl (by omega)) fun v3 h3 n3 _ _ hq=> ?_
  ·obtain⟨i,hi,e⟩:=List.mem_iff_getElem.1 hx
   have:=s3.pos i (by omega)
   have e3:bt (taken (taken t)) i=x:=by unfold bt;rw[aF,aM hi,<-e];rfl
   rw[e3]at this
   omega
  obtain⟨rfl,fy,Bk,yT,hT3,nT,ig⟩:=hq
  try simp(disch:=first|omega|assumption|exact aa _) only[ah,ae,RZ]
  rw[e2]
  refine ih (kk+1) fu h3 n3 Bk yT bl y0 XE cs (by omega) (by omega) (by omega) (by omega) (by omega) (by omega) (by omega) ?_ ?_ ?_
  ·rw[yQ,ht];exact hT3
  ·rw[yQ,ht];exact s5
  ·rw[yQ,ht];exact .inr (by omega)
def ahp(T i:Nat)(out:List Int):Prop:=out.length=T∧∀j,j<T->0<=out.getD j 0∧out.getD j 0<=((T-j:Nat):Int)
theorem dpB (lf d n:Nat) (N T:Nat) (t:HT) (g bi ci bo co:Nat) (wv lv jv:Value) (x0 x2 x11 x12 x13:Value) (F6:1<=T) (hTb:T<=100000) (il:t.bz.length=T) (uV:bo<n) (kV:g<n) (F4:bi<n) (ko:bo≠g∧bo≠bi) (bP:∀i,i<T-1->(i:Int)<t.bz.getD i 0∧t.bz.getD i 0<(T:Int)) {W:Nat->Prop} {n0:Nat} (dF:n0<=bo) {R:Value->H->Nat->Prop} (k:(Value->Value->M Value)) (res:List Int)
 (hK:∀hr,hr.get bo=some ⟨3,true,ints res⟩->aj W n0 (k x0 (.slice (some ⟨bo,0,none⟩) T co)) hr n R):
 ∀(i fu:Nat) (hr:H) (out:List Int),i<fu->i<=T-1->hr.get g=some ⟨164,true,[wv,.slice (some ⟨bi,0,none⟩) T ci,lv,jv]⟩->hr.get bi=some ⟨3,true,ints t.bz⟩->hr.get bo=some ⟨3,true,ints out⟩->ahp T i out->jV t.bz i out=res->
  aj W n0 (wQ lf (au ai gt lf d) fu k x0 x2 (.pointer (some ⟨g,0,none⟩)) (.slice (some ⟨bo,0,none⟩) T co) (.int .i64 ((i:Int)-1)) x11 x12 x13) hr n R:=by
 intro i
 induction i with
 |zero=>
  intro fu hr out bM hi hg jk ho hD sT
  obtain⟨fu,rfl⟩:∃f,fu=f+1:=⟨fu-1,by omega⟩
  rw[wQ]
  have e1:¬(0:Int)<=((0:Nat):Int)-1:=by omega
  try simp(disch:=first|omega|assumption|exact aa _) only[ah,ae,RZ,e1]
  unfold jV at sT
  subst sT
  exact hK hr ho
 |succ i ih=>
  intro fu hr out bM hi hg jk ho hD sT
  obtain⟨fu,rfl⟩:∃f,fu=f+1:=⟨fu-1,by omega⟩
  obtain⟨q1,q2⟩:=bP i (by omega)
  obtain⟨J,hJ⟩:∃J:Nat,t.bz.getD i 0=(J:Nat):=⟨(t.bz.getD i 0).toNat,by omega⟩
  have g1:(ints t.bz)[i]? =some (.int .i64 ((J:Nat):Int)):=by rw[ints_at (by omega),hJ]
  have hJT:J<T:=by omega
  have hJi:i<J:=by omega
  have g2:(ints out)[J]? =some (.int .i64 (out.getD J 0)):=ints_at (by rw[hD.1];omega)
  have oJ:=hD.2 J hJT
  have e0:(((i+1:Nat):Int)-1)=((i:Nat):Int):=by omega
  have e1:(0:Int)<=((i:Nat):Int):=by omega
  have ir:out.length=T:=hD.1
  have ahq:jV t.bz i (out.set i (out.getD J 0+1))=res:=by
   rw[<-sT]
   show _=jV t.bz i (out.set i (out.getD (t.bz.getD i 0).toNat 0+1))
   rw[hJ]
   rfl
  rw[wQ,e0]
  try simp(disch:=first|omega|assumption|exact aa _) only[ah,ae,RZ,e1,hg,jk,ho,g1,g2,ints_set,jT,ir]
  refine⟨by omega,.inl dF, ?_⟩
  refine ih fu _ (out.set i (out.getD J 0+1)) (by omega) (by omega) (by rw[aK _ _ (by omega)];exact hg) (by rw[aK _ _ (by omega)];exact jk) (get_eq _ _ _) ?_ ahq
  ·refine⟨by rw[su];exact ir,fun j hj=> ?_⟩
   rw[qo]
   have:=hD.2 j hj
   split
   ·rename_i h
    obtain⟨rfl,_⟩:=h
    omega
   ·exact this
set_option maxHeartbeats 2000000 in
theorem ahr(lf d n:Nat)(h:H)(v:Value)(ws:List Int)(hR:Row h n 3 .i64 v ws)(h2:2<=ws.length)(hl:ws.length<=1000)(aA:3000000<=lf)(hw:∀x∈ws,0<=x)(hS:bp ws<=1152921504606846976):
 aj (fun _=>False) n (au ai gt lf (d+ws.length+8) 139 #[v]) h n fun v' h' n'=>∃D,D.Perm (bL ws.length)∧D.Pairwise (RI (aZ ws))∧Row h' n' 3 .i64 v' (mr ws D)∧∀b,aD v' b->n<=b:=by
 rw[aQ (fun _=>We) rfl]
 refine aj.aP ?_
 unfold FB
 refine bh aW (ahl lf d n h v ws hR (by omega) (by omega) aA) (av n) (fun _ _ h=>h.elim) fun v1 h1 n1 bQ cM hq=> ?_
 obtain⟨g,bw,bi,bl,cl,D,rfl,hp,hs,hT,Mh,XF,HG,qa⟩:=hq
 obtain⟨a,c,rfl⟩:=hR.len
 have w1:IntKind.i64.wrap (((ws.length:Nat):Int)-1)=((ws.length-1:Nat):Int):=by rw[bB (by omega) (by omega)];omega
 try simp(disch:=first|omega|assumption|exact aa _) only[ah,ae,RZ,w1]
 refine dpA lf (d+ws.length+6) n1 ws.length (bp ws) (Start ws D) g _ _ h2 hl hS _ n (av n) Mh (fun hr nr Bk yT bl' off W9 cs rO OX XG hO hj=> ?_) (ws.length-1) 0 lf h1 n1 bw bi bl 0 cl (b9 D) (by omega) (by omega) (by omega) (av _) (by omega) XF HG hT (XC hp hw rfl) (.inl rfl)
 (try unfold FA);(try dsimp only)
 have ahs:dG (ws.length-1) (Start ws D)=fX ws D:=rfl
 rw[ahs]at XG hO hj
 obtain⟨fj,ank,aht,anl,_,_,_,lx⟩:=XG
 have kV:g<nr:=lx.2.2.2.2.2.2.1
 have wl:(fX ws D).weight.length=2*ws.length-1:=by rw[hO.wl];omega
 have il:(fX ws D).bz.length=2*ws.length-1:=by rw[hO.il];omega
 have rM:=hO.left
 simp only[kH]at rM
 have XH:(fX ws D).leaves=[]:=amz (by omega)
 have iS:(fX ws D).bb=2*ws.length-2:=by rw[XH]at rM;simp only[kH]at rM;omega
 have bP:∀i,i<2*ws.length-1-1->(i:Int)<(fX ws D).bz.getD i 0∧(fX ws D).bz.getD i 0<((2*ws.length-1:Nat):Int):=fun i hi=>by
  have:=hO.bz i (by omega) (by rw[XH];simp) (by omega) (by simp)
  omega
 rw[wl,il]at fj
 try simp(disch:=first|omega|assumption|exact aa _) only[ah,ae,RZ,fj]
 refine Ev.run_make trivial (2*ws.length-1) (2*ws.length-1) _ (av _) (by omega) ?_
 have w2:IntKind.i64.wrap (((2*ws.length-1:Nat):Int)-2)=((2*ws.length-2:Nat):Int)-1:=by rw[bB (by omega) (by omega)];omega
 try simp(disch:=first|omega|assumption|exact aa _) only[ah,ae,RZ,w2]
 have hz:bI (2*ws.length-1) (gZ .i64 0)=ints (bI (2*ws.length-1) 0):=by unfold ints;rw[List.map_replicate]
 refine dpB lf (d+ws.length+7) (nr+1) ws.length (2*ws.length-1) (fX ws D) g yT (bc+(2*ws.length-1)) nr (2*ws.length-1) _ _ _ _ _ _ _ _ (by omega) (by omega) il (by omega) (by omega) (by omega) (by omega) bP (by omega) _ (jV (fX ws D).bz (2*ws.length-2) (bI (2*ws.length-1) 0)) (fun gh ho=> ?_) (2*ws.length-2) lf _ (bI (2*ws.length-1) 0) (by omega) (by omega) (by rw[aK _ _ (by omega)];exact fj) (by rw[aK _ _ (by omega)];exact aht) (by rw[get_eq,hz]) ⟨by simp,fun j hj=>by rw[aF,aM (by simpa using hj),List.getElem_replicate];simp⟩ rfl
 (try unfold Lv);(try unfold anm);(try dsimp only)
 try simp(disch:=first|omega|assumption|exact aa _) only[ah,ae,RZ]
 have ahu:(jV (fX ws D).bz (2*ws.length-2) (bI (2*ws.length-1) 0)).length=2*ws.length-1:=by rw[F5,jJ]
 refine D4 trivial (l:=0) (hh:=ws.length) ho rfl (by omega) 0 (2*ws.length-1) (2*ws.length-1) _ _ (JQ _) (AE _ ws.length _) (by omega) (by omega) (by omega) _ trivial ?_
 try simp(disch:=first|omega|assumption|exact aa _) only[ah,ae,RZ]
 refine⟨D,hp,hs,.inr ⟨nr,0,2*ws.length-1,true,_, ?_,ho,by omega, ?_, ?_, ?_⟩,fun b hb=> ?_⟩
 ·rw[yZ _ _ (by omega)]
  simp
 ·rw[yZ _ _ (by omega),jT,ahu];omega
 ·rw[yZ _ _ (by omega),eJ]
  unfold mr ints aJ
  rw[List.map_take]
 ·rw[yZ _ _ (by omega)];omega
 ·rw[hb.inj];omega
def dD(lo hi:Int)(xs:List Int):Bool:=xs.all fun x=>decide (lo<=x)&&decide (x<=hi)
theorem iX{lo hi:Int}{xs:List Int}:dD lo hi xs=true↔∀x∈xs,lo<=x∧x<=hi:=by unfold dD;simp
theorem jW{α:Type}(d:α){xs:List α}{i:Nat}(h:i<xs.length):xs.drop i=xs.getD i d::xs.drop (i+1):=by
 rw[Ho h,aF,aM h]
 rfl
theorem XI{lo hi:Int}{xs:List Int}{i:Nat}(h:i<xs.length):dD lo hi (xs.drop i)=(decide (lo<=xs.getD i 0)&&decide (xs.getD i 0<=hi)&&dD lo hi (xs.drop (i+1))):=by
 rw[jW 0 h]
 unfold dD
 simp
theorem ahv(lf d n:Nat)(h:H)(v:Value)(xs:List Int)(hR:Row h n 3 .i64 v xs)(hl:xs.length<=1000000000)(lo hi:Int)(x6:Value){W:Nat->Prop}{n0:Nat}:
 ∀(m i fu:Nat),xs.length-i=m->m<fu->i<=xs.length->
  aj W n0 (wK lf (au ai gt lf d) fu (yN lf (au ai gt lf d)) v (.int .i64 lo) (.int .i64 hi) x6 v (.int .i64 (xs.length:Nat)) (.int .i64 (i:Nat))) h n (fun v' h' n'=>v'= .bool (dD lo hi (xs.drop i))∧h'=h∧n'=n):=by
 intro m
 induction m with
 |zero=>
  intro i fu hm bM vx
  obtain⟨fu,rfl⟩:∃f,fu=f+1:=⟨fu-1,by omega⟩
  obtain rfl:i=xs.length:=by omega
  rw[wK]
  try simp(disch:=first|omega|assumption|exact aa _) only[ah,ae,RZ,bH]
  (try unfold yN);(try dsimp only)
  try simp(disch:=first|omega|assumption|exact aa _) only[ah,ae,RZ]
  simp[dD]
 |succ m ih=>
  intro i fu hm bM vx
  obtain⟨fu,rfl⟩:∃f,fu=f+1:=⟨fu-1,by omega⟩
  obtain⟨b,off,cap,o,cs,rfl,hg,hb,_,_,_,bk⟩:=hR.some (by omega)
  have e1:((i:Nat):Int)<((xs.length:Nat):Int):=by omega
  have c1:=bk i (by omega)
  have w1:((i:Nat):Int)+1=((i+1:Nat):Int):=by omega
  rw[wK,XI (by omega)]
  by_cases h1:xs.getD i 0<lo
  ·try simp(disch:=first|omega|assumption|exact aa _) only[ah,ae,RZ,e1,hg,c1,h1]
   (try unfold yN);(try dsimp only)
   try simp(disch:=first|omega|assumption|exact aa _) only[ah,ae,RZ]
   rw[decide_eq_false (Int.not_le.2 h1)]
   simp
  ·by_cases h2:hi<xs.getD i 0
   ·try simp(disch:=first|omega|assumption|exact aa _) only[ah,ae,RZ,e1,hg,c1,h1,h2]
    (try unfold yN);(try dsimp only)
    try simp(disch:=first|omega|assumption|exact aa _) only[ah,ae,RZ]
    rw[decide_eq_false (Int.not_le.2 h2)]
    simp
   ·try simp(disch:=first|omega|assumption|exact aa _) only[ah,ae,RZ,e1,hg,c1,h1,h2]
    rw[w1]
    have:=ih (i+1) fu (by omega) (by omega) (by omega)
    rw[decide_eq_true (Int.not_lt.1 h1),decide_eq_true (Int.not_lt.1 h2)]
    exact this
theorem XJ(lf d n:Nat)(h:H)(v:Value)(xs:List Int)(hR:Row h n 3 .i64 v xs)(lo hi:Int)(hl:xs.length<=1000000)(aA:3000000<=lf):
 aj (fun _=>False) n (au ai gt lf (d+1) 117 #[v,.int .i64 lo,.int .i64 hi]) h n fun v' h' n'=>v'= .bool (dD lo hi xs)∧h'=h∧n'=n:=by
 rw[aQ (fun _=>agf) rfl]
 refine aj.aP ?_
 unfold Lk
 have bg:=hR
 obtain⟨a,c,rfl⟩:=hR.len
 try simp(disch:=first|omega|assumption|exact aa _) only[ah,ae,RZ]
 exact ahv lf d n h _ xs bg (by omega) lo hi _ xs.length 0 lf (by omega) (by omega) (by omega)
theorem ahw{β:Type}{rec:FuncId->Array Value->M Value}(p q a:Value)(k:Value->M β):fO ai rec (.func (.func 142) #[] #[p,q]) [a] k=az rec 142 [a,p,q] k:=by
 unfold fO
 show aS (some _) _=_
 rw[vz]
 simp only[show mL ai 142=true by kernel_rfl]
 exact(pc _ _).symm
theorem ahx(lf d n:Nat)(h:H)(x lo hi:Int)(p q:Nat)(hp:p<n)(hq:q<n){e1 e2:TypeId}{o1 o2:Bool}(gp:h.get p=some ⟨e1,o1,[.int .i64 lo]⟩)(gq:h.get q=some ⟨e2,o2,[.int .i64 hi]⟩):
 aj (fun _=>False) n (au ai gt lf (d+1) 142 #[.int .i64 x,.pointer (some ⟨p,0,none⟩),.pointer (some ⟨q,0,none⟩)]) h n fun v' h' n'=>v'= .bool (!(decide (lo<=x)&&decide (x<=hi)))∧h'=h∧n'=n:=by
 rw[aQ (fun _=>Wm) rfl]
 refine aj.aP ?_
 unfold Lx
 have c0:∀z:Value,[z][0]? =some z:=fun _=>rfl
 by_cases h1:x<lo
 ·try simp(disch:=first|omega|assumption|exact aa _) only[ah,ae,RZ,gp,gq,c0,h1]
  rw[decide_eq_false (Int.not_le.2 h1)]
  simp
 ·try simp(disch:=first|omega|assumption|exact aa _) only[ah,ae,RZ,gp,gq,c0,h1]
  by_cases h2:hi<x
  ·simp[h2,Int.not_le.2 h2]
  ·simp[h2,Int.not_lt.1 h1,Int.not_lt.1 h2]
theorem ixL(lf d n:Nat)(h:H)(v:Value)(xs:List Int)(hR:Row h n 3 .i64 v xs)(hl:xs.length<=1000000000)(lo hi:Int)(p q:Nat)(hp:p<n)(hq:q<n){e1 e2:TypeId}{o1 o2:Bool}(gp:h.get p=some ⟨e1,o1,[.int .i64 lo]⟩)(gq:h.get q=some ⟨e2,o2,[.int .i64 hi]⟩)(x4:Value){W:Nat->Prop}{n0:Nat}(dF:n0<=n):
 ∀(m i fu:Nat),xs.length-i=m->m<fu->i<=xs.length->
  aj W n0 (m7 lf (au ai gt lf (d+1)) fu (pq lf (au ai gt lf (d+1))) v (.func (.func 142) #[] #[.pointer (some ⟨p,0,none⟩),.pointer (some ⟨q,0,none⟩)]) x4 (.int .i64 (xs.length:Nat)) (.int .i64 (i:Nat))) h n (fun v' h' n'=>(∃r:Int,v'= .int .i64 r∧decide (0<=r)= !dD lo hi (xs.drop i))∧h'=h∧n'=n):=by
 intro m
 induction m with
 |zero=>
  intro i fu hm bM vx
  obtain⟨fu,rfl⟩:∃f,fu=f+1:=⟨fu-1,by omega⟩
  obtain rfl:i=xs.length:=by omega
  rw[m7]
  try simp(disch:=first|omega|assumption|exact aa _) only[ah,ae,RZ,bH]
  (try unfold pq);(try dsimp only)
  try simp(disch:=first|omega|assumption|exact aa _) only[ah,ae,RZ]
  exact⟨-1,rfl,by simp[dD]⟩
 |succ m ih=>
  intro i fu hm bM vx
  obtain⟨fu,rfl⟩:∃f,fu=f+1:=⟨fu-1,by omega⟩
  obtain⟨b,off,cap,o,cs,rfl,hg,hb,_,_,_,bk⟩:=hR.some (by omega)
  have e1:((i:Nat):Int)<((xs.length:Nat):Int):=by omega
  have c1:=bk i (by omega)
  have w1:((i:Nat):Int)+1=((i+1:Nat):Int):=by omega
  rw[m7]
  try simp(disch:=first|omega|assumption|exact aa _) only[ah,ae,RZ,e1,hg,c1,ahw]
  refine bV (ahx lf d n h (xs.getD i 0) lo _ p q hp hq gp gq) dF (fun _ _ h=>h.elim) ?_
  rw[XI (by omega)]
  by_cases h1:(decide (lo<=xs.getD i 0)&&decide (xs.getD i 0<=hi))=true
  ·rw[h1]
   try simp(disch:=first|omega|assumption|exact aa _) only[ah,ae,RZ]
   rw[w1]
   exact ih (i+1) fu (by omega) (by omega) (by omega)
  ·rw[Bool.eq_false_iff.2 h1]
   try simp(disch:=first|omega|assumption|exact aa _) only[ah,ae,RZ]
   (try unfold pq);(try dsimp only)
   try simp(disch:=first|omega|assumption|exact aa _) only[ah,ae,RZ]
   exact⟨(i:Nat),rfl,by simp⟩
theorem XK(lf d n:Nat)(h:H)(v:Value)(xs:List Int)(hR:Row h n 3 .i64 v xs)(lo hi:Int)(hl:xs.length<=1000000)(aA:3000000<=lf):
 aj (fun _=>False) n (au ai gt lf (d+4) 130 #[v,.int .i64 lo,.int .i64 hi]) h n fun v' h' n'=>v'= .bool (dD lo hi xs):=by
 rw[aQ (fun _=>VU) rfl]
 refine aj.aP ?_
 unfold Lp
 refine qi trivial _ _ ?_
 refine qi trivial _ _ ?_
 obtain⟨h2,gy⟩:∃h2,(h.set n (some ⟨3,true,(gZ .i64 lo).cells.toList⟩)).set (n+1) (some ⟨3,true,(gZ .i64 hi).cells.toList⟩)=h2:=⟨_,rfl⟩
 have g1:h2.get n=some ⟨3,true,[.int .i64 lo]⟩:=by rw[<-gy,aK _ _ (by omega),get_eq];rfl
 have g2:h2.get (n+1)=some ⟨3,true,[.int .i64 hi]⟩:=by rw[<-gy,get_eq];rfl
 have hk:∀b,b<n->h2.get b=h.get b:=fun b hb=>by rw[<-gy,aK _ _ (by omega),aK _ _ (by omega)]
 rw[gy]
 have iC:Row h2 (n+2) 3 .i64 v xs:=hR.aB (by omega) hk
 obtain⟨a,c,rfl⟩:=hR.len
 have s1:aj (fun _=>False) (n+2) (au ai gt lf (d+2) 128 #[.slice a xs.length c,.func (.func 142) #[] #[.pointer (some ⟨n,0,none⟩),.pointer (some ⟨n+1,0,none⟩)]]) h2 (n+2) fun v' h' n'=>(∃r:Int,v'= .int .i64 r∧decide (0<=r)= !dD lo hi xs)∧h'=h2∧n'=n+2:=by
  rw[aQ (fun _=>Fu) rfl]
  refine aj.aP ?_
  unfold yO
  try simp(disch:=first|omega|assumption|exact aa _) only[ah,ae,RZ]
  exact ixL lf d (n+2) h2 _ xs iC (by omega) lo hi n (n+1) (by omega) (by omega) g1 g2 _ (av _) xs.length 0 lf (by omega) (by omega) (by omega)
 have s2:aj (fun _=>False) (n+2) (au ai gt lf (d+3) 103 #[.slice a xs.length c,.func (.func 142) #[] #[.pointer (some ⟨n,0,none⟩),.pointer (some ⟨n+1,0,none⟩)]]) h2 (n+2) fun v' h' n'=>v'= .bool (!dD lo hi xs)∧h'=h2∧n'=n+2:=by
  rw[aQ (fun _=>E9) rfl]
  refine aj.aP ?_
  unfold A6
  refine bh aW s1 (av _) (fun _ _ h=>h.elim) fun v' h' n' _ _ hq=> ?_
  obtain⟨⟨r,rfl,hr⟩,rfl,rfl⟩:=hq
  try simp(disch:=first|omega|assumption|exact aa _) only[ah,ae,RZ]
  rw[hr]
 refine bV s2 (by omega) (fun _ _ h=>h.elim) ?_
 rw[Az,Bool.not_not]
 try simp(disch:=first|omega|assumption|exact aa _) only[ah,ae,RZ]
theorem y3 {β:Type} {W:Nat->Prop} {n0:Nat} {h:H} {n:Nat} {Q:β->H->Nat->Prop} {lf d:Nat} {f:FuncId} {args:List Value} {b:Bool} (s:aj (fun _=>False) n (au ai gt lf d f ⟨args⟩) h n fun v' _ _=>v'= .bool b) (hn:n0<=n) {k:Value->M β}
 (x:∀h1 n1,n<=n1->(∀c,c<n->h1.get c=h.get c)->aj W n0 (k (.bool b)) h1 n1 Q):aj W n0 (az (au ai gt lf d) f args k) h n Q:=by
 refine bh aW s hn (fun _ _ h=>h.elim) fun v1 h1 n1 bQ fr hq=> ?_
 subst hq
 exact x h1 n1 bQ fun c hc=>fr c hc id
def mu:List Int->Int->Int
 |[],a=>a
 |x::l,a=>mu l (if a<x then x else a)
theorem Bt(B:Int):∀(l:List Int) (a:Int),mu l a<=B↔(a<=B∧∀x∈l,x<=B)
 |[],a=>by simp[mu]
 |x::l,a=>by
  unfold mu
  rw[Bt B l]
  simp only[List.mem_cons,forall_eq_or_imp]
  by_cases h:a<x
  ·rw[if_pos h];constructor
   ·rintro⟨p,q⟩;exact⟨by omega,p,q⟩
   ·rintro⟨p,q,r⟩;exact⟨q,r⟩
  ·rw[if_neg h];constructor
   ·rintro⟨p,q⟩;exact⟨p,by omega,q⟩
   ·rintro⟨p,q,r⟩;exact⟨p,r⟩
theorem ahy(lf d n:Nat)(h:H)(v:Value)(xs:List Int)(hR:Row h n 3 .i64 v xs)(hl:xs.length<=1000000)(x2:Value){W:Nat->Prop}{n0:Nat}:
 ∀(m i fu:Nat) (a:Int),xs.length-i=m->m<fu->i<=xs.length->
  aj W n0 (wR lf (au ai gt lf d) fu (FC lf (au ai gt lf d)) v x2 (.int .i64 a) v (.int .i64 (xs.length:Nat)) (.int .i64 (i:Nat))) h n (fun v' h' n'=>v'= .int .i64 (mu (xs.drop i) a)∧h'=h∧n'=n):=by
 intro m
 induction m with
 |zero=>
  intro i fu a hm bM hi
  obtain⟨fu,rfl⟩:∃f,fu=f+1:=⟨fu-1,by omega⟩
  obtain rfl:i=xs.length:=by omega
  rw[wR]
  try simp(disch:=first|omega|assumption|exact aa _) only[ah,ae,RZ,bH]
  (try unfold FC);(try dsimp only)
  rw[List.drop_length]
  try simp(disch:=first|omega|assumption|exact aa _) only[ah,ae,RZ]
  simp[mu]
 |succ m ih=>
  intro i fu a hm bM hi
  obtain⟨fu,rfl⟩:∃f,fu=f+1:=⟨fu-1,by omega⟩
  obtain⟨b,off,cap,o,cs,rfl,hg,hb,_,_,_,bk⟩:=hR.some (by omega)
  have e1:((i:Nat):Int)<((xs.length:Nat):Int):=by omega
  have c1:=bk i (by omega)
  have w1:((i:Nat):Int)+1=((i+1:Nat):Int):=by omega
  rw[wR,jW 0 (show i<xs.length by omega)]
  try simp(disch:=first|omega|assumption|exact aa _) only[ah,ae,RZ,e1,hg,c1]
  rw[w1]
  exact ih (i+1) fu _ (by omega) (by omega) (by omega)
theorem XL(lf d n:Nat)(h:H)(v:Value)(xs:List Int)(hR:Row h n 3 .i64 v xs)(hl:xs.length<=1000000)(aA:3000000<=lf):
 aj (fun _=>False) n (au ai gt lf (d+1) 140 #[v]) h n fun v' h' n'=>v'= .int .i64 (mu xs 0)∧h'=h∧n'=n:=by
 rw[aQ (fun _=>Wi) rfl]
 refine aj.aP ?_
 unfold FD
 have bg:=hR
 obtain⟨a,c,rfl⟩:=hR.len
 try simp(disch:=first|omega|assumption|exact aa _) only[ah,ae,RZ]
 exact ahy lf d n h _ xs bg hl _ xs.length 0 lf 0 (by omega) (by omega) (by omega)
end Go.Proofs.YtdagfcflbphoiaaGreatDoor
namespace Go.Proofs.YtdagfcflbphoiaaGreatDoor.Ev
open Go Go.RowKit
section
variable {P:Program} {h:H} {n f:Nat} {t:TypeId} {v:Value}
theorem F7{k:IntKind}(hu:P.underlying t=some (.int k))(x:eF P h n (f+1) t v):∃i,v= .int k i∧(Cv k i).wf=true:=by
 unfold eF at x
 rw[hu]at x
 exact x
theorem XM(hc:jy P 8 t=some [t])(hg:om P t=false)(x:m5 P h n t v):eF P h n 8 t v:=by
 obtain⟨ts,eN,q⟩:=x
 rw[hc]at eN
 cases eN
 rcases q with ⟨h1,_⟩|⟨_,h2⟩
 ·rw[hg]at h1;cases h1
 ·exact h2.1
theorem ahz{ts:List TypeId}(hc:jy P 8 t=some ts)(hg:om P t=true)(x:m5 P h n t v):∃cs:List Value,v= .agg cs.toArray∧dT (eF P h n 8) ts cs:=by
 obtain⟨iz,eN,q⟩:=x
 rw[hc]at eN
 cases eN
 rcases q with ⟨_,cs,hv,h2⟩|⟨h1,_⟩
 ·exact⟨cs.toList,by rw[hv],h2⟩
 ·rw[hg]at h1;cases h1
theorem ahA{α β:Type}{R:α->β->Prop}{a a':α}{l:List β}(x:dT R [a,a'] l):∃b b',l=[b,b']∧R a b∧R a' b':=by
 match l,x with
 |[b,b'],x=>exact⟨b,b',rfl,x.1,x.2.1⟩
theorem ahB{α β:Type}{R:α->β->Prop}{a a' p7:α}{l:List β}(x:dT R [a,a',p7] l):∃b b' F8,l=[b,b',F8]∧R a b∧R a' b'∧R p7 F8:=by
 match l,x with
 |[b,b',F8],x=>exact⟨b,b',F8,rfl,x.1,x.2.1,x.2.2.1⟩
theorem XN{i:Int}(h:(Cv .i64 i).wf=true):-9223372036854775808<=i∧i<=9223372036854775807:=by
 have e1:IntKind.i64.min=-9223372036854775808:=by decide
 have e2:IntKind.i64.max=9223372036854775807:=by decide
 simp only[Lit.wf,e1,e2,cb,decide_eq_true_eq]at h
 exact h
end
theorem Bu{β:Type}{W:Nat->Prop}{n0:Nat}{h:H}{n:Nat}{Q:β->H->Nat->Prop}{T T':Prop}(_:T)(_:T'){sz:Nat}(b off:Nat)(k:Value->M β){B:AB}(hg:h.get b=some B)(hb:b<n)(hl:off+sz<=B.cells.length)(x:aj W n0 (k (.agg ((B.cells.drop off).take sz).toArray)) h n Q):aj W n0 (fa sz (.pointer (some ⟨b,off,none⟩)) k) h n Q:=JW b off k hg hb hl x
section
variable {P:Program} {w:World} {f:Nat} {t:TypeId} {v:Value}
end
section
variable {β:Type} {W:Nat->Prop} {n0:Nat} {h:H} {n:Nat} {Q:β->H->Nat->Prop} {P:Program}
theorem Bv{T T':Prop}(_:T)(_:T'){sz:Nat}(b off:Nat)(k:Value->M β){B:AB}(hg:h.get b=some B)(hb:b<n)(hl:off+sz<=B.cells.length)(x:aj W n0 (k (.agg ((B.cells.drop off).take sz).toArray)) h n Q):aj W n0 (fa sz (.pointer (some ⟨b,off,none⟩)) k) h n Q:=JW b off k hg hb hl x
theorem XO{a b:Tk}(h1:∀e∈a.log,e.wr=false)(h2:∀e∈b.log,e.wr=false)(h3:∀e∈a.log,e.b<b.n)(h4:∀e∈b.log,e.b<a.n):a.iQ b=false:=by
 unfold Tk.iQ
 simp only[xJ,List.any_eq_false,cb,decide_eq_true_eq,not_and]
 refine⟨⟨⟨fun x hx hw=> ?_,fun x hx hw=> ?_⟩,fun x hx hle=> ?_⟩,fun x hx hle=> ?_⟩
 ·rw[h1 x hx]at hw;cases hw
 ·rw[h2 x hx]at hw;cases hw
 ·have:=h3 x hx;omega
 ·have:=h4 x hx;omega
structure RO (t:Tk) (n:Nat):Prop where
 wr:∀e∈t.log,e.wr=false
 lt:∀e∈t.log,e.b<n
 n:t.n=n
theorem RO.iQ{a b:Tk}{m:Nat}(x:RO a m)(y:RO b m):fH a b=false:=(Aq a b).trans<|XO x.wr y.wr (fun e he=>by rw[y.n];exact x.lt e he) (fun e he=>by rw[x.n];exact y.lt e he)
theorem ahC{T:Prop}(c:T)(b off:Nat)(k:Value×Tk->M β){B:AB}(hg:h.get b=some B)(hb:b<n){v:Value}(hv:B.cells[off]? =some v)(x:∀T,RO T n->aj W n0 (k (v,T)) h n Q):aj W n0 ((aV (ay (.pointer (some ⟨b,off,none⟩)) M.ret)).bind k) h n Q:=
 AF c b off k hg hb hv (x _ ⟨by simp,by simpa using hb,rfl⟩)
theorem F9{lf d:Nat}{gt:Nat->Hint}(hd:mZ P=true){f:FuncId}{vs:List Value}{v:Value}(s:aj (fun _=>False) n (au P gt lf d f ⟨vs⟩) h n fun v' h' n'=>v'=v∧h'=h∧n'=n)(hn:n0<=n){k:Value×Tk->M β}(x:∀T,RO T n->aj W n0 (k (v,T)) h n Q):aj W n0 ((aV (az (au P gt lf d) f vs M.ret)).bind k) h n Q:=by
 refine D7 hd s hn (fun _ _ h=>h.elim) fun v' h' n' L _ _ hq hL hw=> ?_
 obtain⟨rfl,rfl,rfl⟩:=hq
 refine x _ ⟨fun e he=> ?_,hL,rfl⟩
 cases hq:e.wr with
 |false=>rfl
 |true=>exact(hw e he hq).elim
end
def mv(ws:List Nat):List Value:=ws.map fun(x:Nat)=>gZ .u8 (x:Int)
theorem y4(ws:List Nat):(mv ws).length=ws.length:=by unfold mv;simp
theorem ahD(a b:List Nat):mv (a++b)=mv a++mv b:=by unfold mv;simp
def bS(ws:List Nat):List UInt8:=ws.map nB
theorem XP:∀ws:List Nat,oc (mv ws)=some (bS ws)
 |[]=>rfl
 |x::ws=>by
  show(match oc (mv ws)with
   |some l=>some (nB ((x:Int)).toNat::l)
   |none=>none)=_
  rw[XP ws]
  rfl
section
variable {β:Type} {W:Nat->Prop} {n0:Nat} {h:H} {n:Nat} {Q:β->H->Nat->Prop} {P:Program}
theorem XQ{b off cp:Nat}{B:AB}{ws:List Nat}(hg:h.get b=some B)(hb:b<n)(hl:off+ws.length<=B.cells.length)(hc:(B.cells.drop off).take ws.length=mv ws)(k:Value->M β)(y:aj W n0 (k (.string ⟨(bS ws).toArray⟩)) h n Q):aj W n0 (vt (.slice (some ⟨b,off,none⟩) ws.length cp) k) h n Q:=by
 obtain⟨L,e1,e2⟩:=tt (n:=n) hg hb ws.length off hl
 rw[hc]at e1
 refine kT ?_
 have e:((jr b off ws.length).bind fun vs=>match oc vs with
  |some l=>M.ret (Value.string ⟨⟨l⟩⟩)
  |none=> .fail) h n=some ⟨.string ⟨(bS ws).toArray⟩,h,n,L++[]⟩:=by
  rw[rq]
  refine bZ e1 ?_
  rw[XP]
  rfl
 obtain⟨L',e3,e4⟩:=DW (W:=W) (n0:=n0) e (by simpa using e2)
 exact aj.step e3 (av _) e4 y
theorem ahE{lo:Nat}{e:TypeId}{v:Value}{ws:List Nat}(o:Own h lo n e v (mv ws))(k:Value->M β)(y:aj W n0 (k (.string ⟨(bS ws).toArray⟩)) h n Q):aj W n0 (vt v k) h n Q:=by
 rcases o with ⟨rfl,hw⟩|⟨b,rfl,hg,_,hb⟩
 ·have:ws=[]:=by unfold mv at hw;simpa using hw
  subst this
  exact y
 ·rw[y4]
  exact XQ (B:=⟨e,true,mv ws⟩) hg hb (by simp[y4]) (by rw[eJ,<-y4 ws,List.take_length]) k y
theorem Mj {T:Prop} (c:T) {e:TypeId} {x:Value} (hx:one x=true) {lo:Nat} {v:Value} {cs:List Value} (o:Own h lo n e v cs) (hm:cs.length+1<=1099511627776) (hw:∀b,aD v b->n0<=b∨W b) (k:Value->M β)
 (y:∀h',h'.get (n+1)=some ⟨e,true,cs++[x]⟩->(∀b,b<n->¬aD v b->h'.get b=h.get b)->aj W n0 (k (.slice (some ⟨n+1,0,none⟩) (cs.length+1) (bc+(cs.length+1)))) h' (n+2) Q):aj W n0 (cZ e 1 x fun w=>cO e 1 v w k) h n Q:=by
 rcases o with ⟨rfl,rfl⟩|⟨b,rfl,hb,h1,h2⟩
 ·exact Rq c hx k (y _ (get_eq _ _ _) fun b hb _=>by rw[aK _ _ (by omega),aK _ _ (by omega)])
 ·refine D3 c hx hb h2 rfl hm (by omega) (hw b ⟨_,_,_,rfl⟩) k (y _ (get_eq _ _ _) fun c hc hn=> ?_)
  have:c≠b:=fun e=>hn ⟨0,_,_,by rw[e]⟩
  rw[aK _ _ (by omega),aK _ _ this,aK _ _ (by omega)]
end
def rc(f:Nat->Value)(z:Value)(N i:Nat):List Value:=(bL N).map fun j=>if j<i then f j else z
theorem Mk(f:Nat->Value)(z:Value)(N i:Nat):(rc f z N i).length=N:=by unfold rc;simp
theorem XR(f:Nat->Value)(z:Value)(N:Nat):rc f z N 0=bI N z:=by
 unfold rc
 apply mI
 ·simp
 ·intro i h1 h2;simp
theorem XS(f:Nat->Value)(z:Value)(N:Nat):rc f z N N=(bL N).map f:=by
 unfold rc
 apply r8
 intro j hj
 rw[if_pos (List.mem_range.1 hj)]
theorem XT{f:Nat->Value}{z:Value}{N i j:Nat}(h:j<(rc f z N i).length):(rc f z N i)[j]=if j<i then f j else z:=by simp[rc]
theorem XU{f:Nat->Value}{z:Value}{N i:Nat}(h:i<N):(rc f z N i).set i (f i)=rc f z N (i+1):=by
 apply mI
 ·simp[Mk]
 ·intro j h1 h2
  rw[List.getElem_set,XT,XT]
  by_cases e:i=j
  ·subst e;simp
  ·rw[if_neg e]
   by_cases e2:j<i
   ·rw[if_pos e2,if_pos (by omega)]
   ·rw[if_neg e2,if_neg (by omega)]
section
variable {β:Type} {W:Nat->Prop} {n0:Nat} {h:H} {n:Nat} {Q:β->H->Nat->Prop} {P:Program}
end
structure RB (t:Tk) (m:Nat):Prop where
 wr:∀e∈t.log,e.wr=false
 lt:∀e∈t.log,e.b<m
 le:m<=t.n
theorem RB.iQ{a b:Tk}{m:Nat}(x:RB a m)(y:RB b m):fH a b=false:=(Aq a b).trans<|XO x.wr y.wr (fun e he=>qJ (x.lt e he) y.le) (fun e he=>qJ (y.lt e he) x.le)
section
variable {β:Type} {W:Nat->Prop} {n0:Nat} {h:H} {n m:Nat} {Q:β->H->Nat->Prop} {P:Program}
theorem ahF{T:Prop}(ha:T)(b off:Nat)(k:Value×Tk->M β){B:AB}(hg:h.get b=some B)(hb:b<m)(hm:m<=n){v:Value}(hv:B.cells[off]? =some v)(x:∀T,RB T m->aj W n0 (k (v,T)) h n Q):aj W n0 ((aV (ay (.pointer (some ⟨b,off,none⟩)) M.ret)).bind k) h n Q:=
 AF ha b off k hg (by omega) hv (x _ ⟨by simp,by simpa using hb,hm⟩)
theorem Ml (hd:mZ P=true) {gt:Nat->Hint} {lf d:Nat} {f:FuncId} {vs:List Value} {Q':Value->H->Nat->Prop} (s:aj (fun _=>False) n (au P gt lf d f ⟨vs⟩) h n Q') (hn:n0<=n) {k:Value×Tk->M β}
 (x:∀v h1 n1 T,n<=n1->(∀b,b<n->h1.get b=h.get b)->Q' v h1 n1->RB T n->aj W n0 (k (v,T)) h1 n1 Q):aj W n0 ((aV (az (au P gt lf d) f vs M.ret)).bind k) h n Q:=by
 refine D7 hd s hn (fun _ _ h=>h.elim) fun v h1 n1 L bQ fr hq hL hw=>x v h1 n1 _ bQ (fun b hb=>fr b hb id) hq ⟨fun e he=> ?_,hL,av _⟩
 cases hq:e.wr with
 |false=>rfl
 |true=>exact(hw e he hq).elim
end
end Go.Proofs.YtdagfcflbphoiaaGreatDoor.Ev
