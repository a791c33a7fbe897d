import Derived.Test.YtmjolmggelkjlaaGreatMae
import Derived.WideShapes
import Derived.WalkLawsBesides
import Derived.Test.YtmjolmggelkjlaaGreatMac
import Derived.Test.YtmjolmggelkjlaaGreatMad
import Derived.Laws.BitsAllLaws
import Derived.IntWalk
open Go.Proofs.Tryz renaming prog→aa
open Nat renaming le_refl→ah, zero_le→aO, ble→bI, lt_succ_self→dI, zero_add→fD, lt_of_lt_of_le→fK, le_trans→gV, min_eq_left→ic, add_zero→iO, mod_eq_of_lt→lh, not_lt_zero→lq, ble_eq_true_of_le→lQ, pow_succ→mL, add_mul→oR, pow_le_pow_right→p9, mul_le_mul_right→qT, mul_zero→sW, sub_self→sX, mul_one→vu, mul_comm→xI, mul_assoc→MG, pow_one→MI, pow_zero→aa_, and_one_is_mod→aom, lt_trichotomy→aon, pow_add→aoq, lt_irrefl→aov
open List renaming getD_eq_getElem?_getD→bz, getElem?_eq_getElem→bB, length_append→bG, replicate→bU, append_nil→bV, length_cons→cP, length_take→cT, getElem_mem→dO, range→gL, getElem?_map→jd, take_length→jf, drop_drop→jm, drop_zero→jz, length_replicate→j4, take_succ_eq_append_getElem→nv, map_congr_left→oN, map_append→qa, getElem?_append_right→qU, drop_eq_getElem_cons→qX, drop_length→qY, getElem?_append_left→sS, mem_singleton→sV, getElem?_cons_succ→vm, set_cons_succ→vt, any_nil→Fv, take_zero→FF, mem_append→FG, set_append_right→MC, take_take→MH, eq_nil_of_length_eq_zero→MK, any_eq_false→aaZ, countP_cons→aa', ext_getElem→abb, getElem_map→abc, getElem_range→abd, getElem?_drop→anN, take_succ_cons→an2, filter_cons→an4, any_cons→an5, take_sublist→aop, find?_some→aos, mem_of_find?_eq_some→aot, getElem_set→aow, set_append_left→aox
open Bool renaming and_eq_true→bZ, not_false→cf, and_self→dJ, not_true→eK, or_eq_false_iff→xE, or_false→Fx, not_eq_true→anY
open BitVec renaming ofInt→cb, ofInt_natCast→vq, toNat_ofNat→vr, toNat_and→FA
open Int renaming toNat_natCast→cV, lt_irrefl→eT, reduceBEq→eU, reduceBNe→eV, reduceLT→eW, reduceLE→eX, reduceEq→eY, reduceNe→eZ, reduceAdd→fa, reduceSub→fb, reduceMul→fc, reduceNeg→fg, natCast_nonneg→oS, fdiv_eq_ediv_of_nonneg→MB
open UInt8 renaming ofNat→gU
open Go.IntKind renaming u32→jG
open Go.Value renaming slice→j3
open Go.Lit renaming int→MD
open Option renaming some→aol
open List.Sublist renaming countP_le→aoo
set_option linter.unusedVariables false
set_option linter.unusedSimpArgs false
namespace Go.Proofs.YtmjolmggelkjlaaGreat
end Go.Proofs.YtmjolmggelkjlaaGreat
namespace Go.Proofs.YtmjolmggelkjlaaGreat.Hu
structure HT where
 weight:List Int
 XQ:List Int
 leaves:List Nat
 uK:Nat
def DY(t:HT)(i:Nat):Int:=t.weight.getD i 0
def XR(t:HT):Bool:=t.uK==t.weight.length||(decide (0<t.leaves.length)&&decide (DY t (t.leaves.getD 0 0)<=DY t t.uK))
def leastOf(t:HT):Nat:=if XR t then t.leaves.getD 0 0 else t.uK
def taken(t:HT):HT:=if XR t then{t with leaves:=t.leaves.tail}else{t with uK:=t.uK+1}
def ahk(t:HT)(a b:Nat):HT:={t with weight:=t.weight++[DY t a+DY t b],XQ:=((t.XQ.set a t.weight.length).set b t.weight.length)++[-1]}
def ahl(t:HT):HT:=ahk (taken (taken t)) (leastOf t) (leastOf (taken t))
def fZ:Nat->HT->HT
 |0,t=>t
 |k+1,t=>fZ k (ahl t)
def DZ:List Int->Int
 |[]=>0
 |x::a=>x+DZ a
end Go.Proofs.YtmjolmggelkjlaaGreat.Hu
namespace Go.Proofs.YtmjolmggelkjlaaGreat
open Go.RowKit Ev Hu
theorem XS{x:Nat}(h:x<9223372036854775807):IntKind.i64.wrap ((x:Int)+1)=((x+1:Nat):Int):=by rw[aH jO jO];rfl
theorem XT{x:Nat}(h:x<9223372036854775807):IntKind.i64.wrap (((x+1:Nat):Int)-1)=((x:Nat):Int):=by rw[aH jO jO];omega
theorem RZ:type_of%(aI @PD (aI @PE (aI @aH (aI @XS (aI @XT (aI @PS (aI @PT (aI @PU (aI @PV (aI @PW (aI @PX (aI @PY (aI @PZ (aI @P0 (aI @P1 (aI @P2 (aI @P3 (aI @P4 (aI @P5 (aI @P6 (aI @P7 (aI @P8 (aI @P9 (aI @P' (aI @Qa (aI @Qb (aI @Qc (aI @Qd (aI @Qe (aI @Qf (aI @HC (aI @Qg (aI @Qh (aI @yD (aI @we (aI @Qi (aI @Qj (aI @Qk (aI @Ql (aI @Qm (aI @Cj (aI @Cl (aI @Qo (aI @Qp (aI @Qq (aI @Qr (@Qs))))))))))))))))))))))))))))))))))))))))))))))):=aI @PD (aI @PE (aI @aH (aI @XS (aI @XT (aI @PS (aI @PT (aI @PU (aI @PV (aI @PW (aI @PX (aI @PY (aI @PZ (aI @P0 (aI @P1 (aI @P2 (aI @P3 (aI @P4 (aI @P5 (aI @P6 (aI @P7 (aI @P8 (aI @P9 (aI @P' (aI @Qa (aI @Qb (aI @Qc (aI @Qd (aI @Qe (aI @Qf (aI @HC (aI @Qg (aI @Qh (aI @yD (aI @we (aI @Qi (aI @Qj (aI @Qk (aI @Ql (aI @Qm (aI @Cj (aI @Cl (aI @Qo (aI @Qp (aI @Qq (aI @Qr (@Qs))))))))))))))))))))))))))))))))))))))))))))))
theorem jA{F p q:Prop}(f:F)(x:q)(e:F->p=q:=by intro f;conv=>lhs;(try simp(disch:=first|omega|assumption) only[Nat.reduceAdd,Nat.reduceLT,RZ,f])):p:=(e f).mpr x
theorem jB{p q:Prop}(x:q)(e:p=q:=by conv=>lhs;(try simp(disch:=first|omega|assumption) only[Nat.reduceAdd,Nat.reduceLT,RZ])):p:=e.mpr x
theorem jC{F p:Prop}(f:F)(e:F->p:=by intro f;(try simp(disch:=first|omega|assumption) only[Nat.reduceAdd,Nat.reduceLT,RZ,f])):p:=e f
theorem jE{p:Prop}(e:p:=by(try simp(disch:=first|omega|assumption) only[Nat.reduceAdd,Nat.reduceLT,RZ])):p:=e
abbrev jP(b o:Nat):Value:= .pointer (some ⟨b,o,none⟩)
abbrev jI(n:Int):Value:= .int .i64 n
end Go.Proofs.YtmjolmggelkjlaaGreat
namespace Go.Proofs.YtmjolmggelkjlaaGreat
open Go.RowKit Hu
end Go.Proofs.YtmjolmggelkjlaaGreat
namespace Go.Proofs.YtmjolmggelkjlaaGreat
open Go.RowKit Ev Hu
structure ahm (h:H) (n g pw:Nat) (ws:List Int):Prop where
 ex:∃wb off cap e1 o1 e2 o2 cs,h.get pw=some ⟨e1,o1,[.slice (some ⟨wb,off,none⟩) ws.length cap]⟩∧h.get wb=some ⟨e2,o2,cs⟩∧wb<n∧wb≠g∧∀i,i<ws.length->cs[off+i]? =some (jI (ws.getD i 0))
 pn:pw<n
 pg:pw≠g
section
variable (Y g cap pw N:Nat) (ws:List Int) (pE:3000000<=Y) (hNb:N<=1000000) (d n:Nat) (h:H) (xs:List Nat) (hN:xs.length=N) (hE:ahm h n g pw ws) (hg:g<n) (hin:∀z∈xs,z<ws.length)
variable {W:Nat->Prop} {n0:Nat} (hn0:n0<=n) (hW:n0<=g∨W g) {R:Value->H->Nat->Prop}
include pE hNb hN hE hg hin hn0 hW
end
theorem D0(Y d n:Nat)(h:H)(v:Value)(xs:List Int)(t:Row h n 3 .i64 v xs)(u:0<xs.length)(y:xs.length<=1000000):
 af (fun _=>False) n (aj aa gt Y (d+1) 208 #[v]) h n fun g h' n'=>(0<xs.length->Own h' n n' 3 g (aV .i64 xs))∧Row h' n' 3 .i64 g xs∧∀b,aK g b->n<=b:=by
 rw[aB (fun _=>JN) rfl];refine af.aA ?_;unfold Du;rcases t with ⟨a,c,rfl,_,rfl⟩|⟨b,e,cap,o,x,rfl,r,f,i,p,z⟩
 ·exact absurd u jS
 ·refine jB ?_;refine Pw trivial _ ?_;have j:(h.set n (some ⟨3,true,[]⟩)).get b=some ⟨3,o,x⟩:=by rw[aw _ _ jO];exact r
  by_cases k:xs.length=0
  ·have m:xs=[]:=List.length_eq_zero_iff.1 k;subst m;refine Cb (news:=[]) trivial rfl _ _ _ _ ?_;refine jB ?_;refine⟨fun q=>absurd q jS,.inr ⟨n,0,0,true,[],rfl,get_eq _ _ _,jO,jS,by simp[aV],jS⟩,fun b f=>by rw[f.inj];exact ah n⟩
  ·have s:Src (h.set n (some ⟨3,true,[]⟩)) (n+1) (.slice (some ⟨b,e,none⟩) xs.length cap) (aV .i64 xs):=⟨b,e,cap,_,by rw[eu],j,jO,by rw[eu];exact i,by rw[eu];exact p⟩;refine adS trivial s (by rw[eu];omega) (Hs _ _) (get_eq _ _ _) rfl (dI n) 0 0 jS rfl (by rw[eu];omega) (by unfold bo;omega) (by rw[eu];omega) _ ?_;refine jB ?_;have l:Own ((h.set n (some ⟨3,true,[]⟩)).set (n+1) (some ⟨3,true,[]++aV .i64 xs⟩)) n (n+1+1) 3 (.slice (some ⟨n+1,0,none⟩) (aV .i64 xs).length (bo+(aV .i64 xs).length)) (aV .i64 xs):= .inr ⟨n+1,rfl,by rw[get_eq];rfl,jO,jO⟩;exact⟨fun _=>l,l.row,fun b f=>by rw[f.inj];omega⟩
def kj(lo a:Int)(xs:List Int):Bool:=xs.all fun x=>decide (lo<=x)&&decide (x<=a)
theorem wK{lo a:Int}{xs:List Int}:kj lo a xs=true↔∀x∈xs,lo<=x∧x<=a:=by unfold kj;simp
theorem KK{a:Type}(d:a){xs:List a}{i:Nat}(h:i<xs.length):xs.drop i=xs.getD i d::xs.drop (i+1):=by rw[qX h,bz,bB h];rfl
theorem XU{lo a:Int}{xs:List Int}{i:Nat}(h:i<xs.length):kj lo a (xs.drop i)=(decide (lo<=xs.getD i 0)&&decide (xs.getD i 0<=a)&&kj lo a (xs.drop (i+1))):=by rw[KK 0 h];unfold kj;simp
theorem ahn(Y d n:Nat)(h:H)(v:Value)(xs:List Int)(A:Row h n 3 .i64 v xs)(B:xs.length<=1000000000)(lo j:Int)(s:Value){W:Nat->Prop}{n0:Nat}:
 ∀(m i a:Nat),xs.length-i=m->m<a->i<=xs.length->
  af W n0 (uC Y (aj aa gt Y d) a (wF Y (aj aa gt Y d)) v (jI lo) (jI j) s v (jI (xs.length:Nat)) (jI (i:Nat))) h n (fun u h' n'=>u= .bool (kj lo j (xs.drop i))∧h'=h∧n'=n):=by
 intro m
 induction m with
 |zero=>
  intro i a z l g;obtain⟨a,rfl⟩:∃f,a=f+1:=⟨a-1,jO⟩;obtain rfl:i=xs.length:=jO;rw[uC];refine jA @eT ?_
  (try unfold wF);(try dsimp only)
  refine jB ?_;simp[kj]
 |succ m y=>
  intro i a z l g;obtain⟨a,rfl⟩:∃f,a=f+1:=⟨a-1,jO⟩;obtain⟨b,x,cap,o,D,rfl,k,C,_,_,_,p⟩:=A.some jO;have q:((i:Nat):Int)<((xs.length:Nat):Int):=jO;have r:=p i jO;have t:((i:Nat):Int)+1=((i+1:Nat):Int):=jO;rw[uC,XU jO];by_cases c:xs.getD i 0<lo
  ·refine jA (aI @q (aI @k (aI @r @c))) ?_
   (try unfold wF);(try dsimp only)
   refine jB ?_;rw[decide_eq_false (Int.not_le.2 c)];simp
  ·by_cases e:j<xs.getD i 0
   ·refine jA (aI @q (aI @k (aI @r (aI @c @e)))) ?_
    (try unfold wF);(try dsimp only)
    refine jB ?_;rw[decide_eq_false (Int.not_le.2 e)];simp
   ·refine jA (aI @q (aI @k (aI @r (aI @c @e)))) ?_;rw[t];have:=y (i+1) a jO jO jO;rw[decide_eq_true (Int.not_lt.1 c),decide_eq_true (Int.not_lt.1 e)];exact this
theorem aho(Y d n:Nat)(h:H)(v:Value)(xs:List Int)(f:Row h n 3 .i64 v xs)(lo b:Int)(j:xs.length<=1000000)(i:3000000<=Y):
 af (fun _=>False) n (aj aa gt Y (d+1) 217 #[v,jI lo,jI b]) h n fun g h' n'=>g= .bool (kj lo b xs)∧h'=h∧n'=n:=by
 rw[aB (fun _=>VK) rfl];refine af.aA ?_;unfold Dw;have e:=f;obtain⟨a,c,rfl⟩:=f.len;refine jB ?_;exact ahn Y d n h _ xs e jO lo b _ xs.length 0 Y jO jO jO
theorem ahp{b:Type}{rec:FuncId->Array Value->M Value}(p q a:Value)(k:Value->M b):kI aa rec (.func (.func 288) #[] #[p,q]) [a] k=ai rec 288 [a,p,q] k:=by unfold kI;show bg (some _) _=_;rw[tG];simp only[show nB aa 288=true by kernel_rfl];exact(lT _ _).symm
theorem ahq(Y d n:Nat)(h:H)(x lo c:Int)(p q:Nat)(r:p<n)(o:q<n){m l:TypeId}{k j:Bool}(f:h.get p=some ⟨m,k,[jI lo]⟩)(e:h.get q=some ⟨l,j,[jI c]⟩):
 af (fun _=>False) n (aj aa gt Y (d+1) 288 #[jI x,jP p 0,jP q 0]) h n fun i h' n'=>i= .bool (!(decide (lo<=x)&&decide (x<=c)))∧h'=h∧n'=n:=by
 rw[aB (fun _=>XM) rfl];refine af.aA ?_;unfold KJ;have g:∀z:Value,[z][0]? =some z:=fun _=>rfl;by_cases b:x<lo
 ·refine jA (aI @f (aI @e (aI @g @b))) ?_;rw[decide_eq_false (Int.not_le.2 b)];simp
 ·refine jA (aI @f (aI @e (aI @g @b))) ?_;by_cases a:c<x
  ·simp[a,Int.not_le.2 a]
  ·simp[a,Int.not_lt.1 b,Int.not_lt.1 a]
theorem ixL(Y d n:Nat)(h:H)(v:Value)(xs:List Int)(I:Row h n 3 .i64 v xs)(O:xs.length<=1000000000)(lo g:Int)(p q:Nat)(D:p<n)(C:q<n){l L:TypeId}{A z:Bool}(K:h.get p=some ⟨l,A,[jI lo]⟩)(J:h.get q=some ⟨L,z,[jI g]⟩)(t:Value){W:Nat->Prop}{n0:Nat}(c:n0<=n):
 ∀(m i a:Nat),xs.length-i=m->m<a->i<=xs.length->
  af W n0 (uJ Y (aj aa gt Y (d+1)) a (zU Y (aj aa gt Y (d+1))) v (.func (.func 288) #[] #[jP p 0,jP q 0]) t (jI (xs.length:Nat)) (jI (i:Nat))) h n (fun x h' n'=>(∃r:Int,x=jI r∧decide (0<=r)= !kj lo g (xs.drop i))∧h'=h∧n'=n):=by
 intro m
 induction m with
 |zero=>
  intro i a E j e;obtain⟨a,rfl⟩:∃f,a=f+1:=⟨a-1,jO⟩;obtain rfl:i=xs.length:=jO;rw[uJ];refine jA @eT ?_
  (try unfold zU);(try dsimp only)
  refine jB ?_;exact⟨-1,rfl,by simp[kj]⟩
 |succ m B=>
  intro i a E j e;obtain⟨a,rfl⟩:∃f,a=f+1:=⟨a-1,jO⟩;obtain⟨b,y,cap,o,Q,rfl,G,P,_,_,_,k⟩:=I.some jO;have l:((i:Nat):Int)<((xs.length:Nat):Int):=jO;have N:=k i jO;have u:((i:Nat):Int)+1=((i+1:Nat):Int):=jO;rw[uJ];refine jA (aI @l (aI @G (aI @N @ahp))) ?_;refine bq (ahq Y d n h (xs.getD i 0) lo _ p q D C K J) c (fun _ _ h=>h.elim) ?_;rw[XU jO];by_cases s:(decide (lo<=xs.getD i 0)&&decide (xs.getD i 0<=g))=true
  ·rw[s];refine jB ?_;rw[u];exact B (i+1) a jO jO jO
  ·rw[Bool.eq_false_iff.2 s];refine jB ?_
   (try unfold zU);(try dsimp only)
   refine jB ?_;exact⟨(i:Nat),rfl,jS⟩
theorem ahr(Y d n:Nat)(h:H)(v:Value)(xs:List Int)(k:Row h n 3 .i64 v xs)(lo g:Int)(x:xs.length<=1000000)(q:3000000<=Y):
 af (fun _=>False) n (aj aa gt Y (d+4) 285 #[v,jI lo,jI g]) h n fun i h' n'=>i= .bool (kj lo g xs):=by
 rw[aB (fun _=>XG) rfl];refine af.aA ?_;unfold KH;refine gD trivial _ _ ?_;refine gD trivial _ _ ?_;obtain⟨e,f⟩:∃e,(h.set n (some ⟨3,true,(jI lo).cells.toList⟩)).set (n+1) (some ⟨3,true,(jI g).cells.toList⟩)=e:=⟨_,rfl⟩;have u:e.get n=some ⟨3,true,[jI lo]⟩:=by rw[<-f,aw _ _ jO,get_eq];rfl
 have t:e.get (n+1)=some ⟨3,true,[jI g]⟩:=by rw[<-f,get_eq];rfl
 have s:∀b,b<n->e.get b=h.get b:=fun b y=>by rw[<-f,aw _ _ jO,aw _ _ jO]
 rw[f];have j:Row e (n+2) 3 .i64 v xs:=k.au jO s;obtain⟨a,c,rfl⟩:=k.len
 have m:af (fun _=>False) (n+2) (aj aa gt Y (d+2) 289 #[.slice a xs.length c,.func (.func 288) #[] #[jP n 0,jP (n+1) 0]]) e (n+2) fun i h' n'=>(∃r:Int,i=jI r∧decide (0<=r)= !kj lo g xs)∧h'=e∧n'=n+2:=by rw[aB (fun _=>XP) rfl];refine af.aA ?_;unfold DX;refine jB ?_;exact ixL Y d (n+2) e _ xs j jO lo g n (n+1) jO jO u t _ (ah _) xs.length 0 Y jO jO jO
 have l:af (fun _=>False) (n+2) (aj aa gt Y (d+3) 287 #[.slice a xs.length c,.func (.func 288) #[] #[jP n 0,jP (n+1) 0]]) e (n+2) fun i h' n'=>i= .bool (!kj lo g xs)∧h'=e∧n'=n+2:=by rw[aB (fun _=>XL) rfl];refine af.aA ?_;unfold KI;refine aN aF m (ah _) (fun _ _ h=>h.elim) fun i h' n' _ _ p=> ?_;obtain⟨⟨r,rfl,o⟩,rfl,rfl⟩:=p;refine jB ?_;rw[o]
 refine bq l jO (fun _ _ h=>h.elim) ?_;rw[Hf,Bool.not_not];exact jE
theorem D1 {g:Type} {W:Nat->Prop} {n0:Nat} {h:H} {n:Nat} {Q:g->H->Nat->Prop} {Y d:Nat} {f:FuncId} {args:List Value} {b:Bool} (s:af (fun _=>False) n (aj aa gt Y d f ⟨args⟩) h n fun i _ _=>i= .bool b) (l:n0<=n) {k:Value->M g}
 (x:∀h1 a,n<=a->(∀c,c<n->h1.get c=h.get c)->af W n0 (k (.bool b)) h1 a Q):af W n0 (ai (aj aa gt Y d) f args k) h n Q:=by
 refine aN aF s l (fun _ _ h=>h.elim) fun p h1 a e o j=> ?_;subst j;exact x h1 a e fun c m=>o c m id
end Go.Proofs.YtmjolmggelkjlaaGreat
namespace Go.Proofs.YtmjolmggelkjlaaGreat.Ev
open Go Go.RowKit
section
variable {P:Program} {h:H} {n f:Nat} {t:TypeId} {v:Value}
theorem ahs{k:IntKind}(a:P.underlying t=some (.int k))(x:eS P h n (f+1) t v):∃i,v= .int k i∧(MD k i).wf=true:=by unfold eS at x;rw[a]at x;exact x
theorem aht(b:P.underlying t=some .string)(x:eS P h n (f+1) t v):∃l:List UInt8,v= .string ⟨l.toArray⟩∧l.length<=maxLen:=by unfold eS at x;rw[b]at x;obtain⟨s,a,c⟩:=x;exact⟨s.data.toList,by rw[a],by rw[<-BO,<-ac2];exact c⟩
theorem ahu(d:jR P 8 t=some [t])(c:mX P t=false)(x:mA P h n t v):eS P h n 8 t v:=by
 obtain⟨f,a,q⟩:=x;rw[d]at a;cases a;rcases q with ⟨b,_⟩|⟨_,e⟩
 ·rw[c]at b;cases b
 ·exact e.1
theorem ahv{b:List TypeId}(g:jR P 8 t=some b)(f:mX P t=true)(x:mA P h n t v):∃cs:List Value,v= .agg cs.toArray∧dS (eS P h n 8) b cs:=by
 obtain⟨d,a,q⟩:=x;rw[g]at a;cases a;rcases q with ⟨_,cs,e,i⟩|⟨c,_⟩
 ·exact⟨cs.toList,by rw[e],i⟩
 ·rw[f]at c;cases c
theorem ahw{d c:Type}{R:d->c->Prop}{a e:d}{l:List c}(x:dS R [a,e] l):∃b b',l=[b,b']∧R a b∧R e b':=by
 match l,x with
 |[b,b'],x=>exact⟨b,b',rfl,x.1,x.2.1⟩
theorem ahx{f e:Type}{R:f->e->Prop}{a g d:f}{l:List e}(x:dS R [a,g,d] l):∃b b' c,l=[b,b',c]∧R a b∧R g b'∧R d c:=by
 match l,x with
 |[b,b',c],x=>exact⟨b,b',c,rfl,x.1,x.2.1,x.2.2.1⟩
theorem ahy{i:Int}(h:(MD .i64 i).wf=true):-9223372036854775808<=i∧i<=9223372036854775807:=by have b:IntKind.i64.min=-9223372036854775808:=jD;have a:IntKind.i64.max=9223372036854775807:=jD;simp only[Lit.wf,b,a,bZ,decide_eq_true_eq]at h;exact h
end
theorem XV{a:Type}{W:Nat->Prop}{n0:Nat}{h:H}{n:Nat}{Q:a->H->Nat->Prop}{T f:Prop}(_:T)(_:f){sz:Nat}(b off:Nat)(k:Value->M a){B:AB}(d:h.get b=some B)(e:b<n)(c:off+sz<=B.cells.length)(x:af W n0 (k (.agg ((B.cells.drop off).take sz).toArray)) h n Q):af W n0 (bc sz (jP b off) k) h n Q:=Ht b off k d e c x
section
variable {P:Program} {w:World} {f:Nat} {t:TypeId} {v:Value}
end
section
variable {β:Type} {W:Nat->Prop} {n0:Nat} {h:H} {n:Nat} {Q:β->H->Nat->Prop} {P:Program}
theorem gE{T e:Prop}(_:T)(_:e){sz:Nat}(b off:Nat)(k:Value->M β){B:AB}(c:h.get b=some B)(d:b<n)(a:off+sz<=B.cells.length)(x:af W n0 (k (.agg ((B.cells.drop off).take sz).toArray)) h n Q):af W n0 (bc sz (jP b off) k) h n Q:=Ht b off k c d a x
theorem XW{a b:Tk}(h1:∀e∈a.log,e.wr=false)(h2:∀e∈b.log,e.wr=false)(h:∀e∈a.log,e.b<b.n)(g:∀e∈b.log,e.b<a.n):a.cy b=false:=by
 unfold Tk.cy;simp only[xE,aaZ,bZ,decide_eq_true_eq,not_and];refine⟨⟨⟨fun x c d=> ?_,fun x c d=> ?_⟩,fun x c f=> ?_⟩,fun x c f=> ?_⟩
 ·rw[h1 x c]at d;cases d
 ·rw[h2 x c]at d;cases d
 ·have:=h x c;omega
 ·have:=g x c;omega
structure RO (t:Tk) (n:Nat):Prop where
 wr:∀e∈t.log,e.wr=false
 lt:∀e∈t.log,e.b<n
 n:t.n=n
theorem RO.cy{a b:Tk}{m:Nat}(x:RO a m)(y:RO b m):bP a b=false:=(tB a b).trans<|XW x.wr y.wr (fun e c=>by rw[y.n];exact x.lt e c) (fun e c=>by rw[x.n];exact y.lt e c)
theorem kp{T:Prop}(c:T)(b off:Nat)(k:Value×Tk->M β){B:AB}(e:h.get b=some B)(a:b<n){v:Value}(d:B.cells[off]? =some v)(x:∀T,RO T n->af W n0 (k (v,T)) h n Q):af W n0 ((az (aP (jP b off) M.ret)).bind k) h n Q:=
 Hr c b off k e a d (x _ ⟨jS,by simpa using a,rfl⟩)
theorem kq{Y d:Nat}{gt:Nat->Hint}(hd:j9 P=true){f:FuncId}{vs:List Value}{v:Value}(s:af (fun _=>False) n (aj P gt Y d f ⟨vs⟩) h n fun b h' n'=>b=v∧h'=h∧n'=n)(g:n0<=n){k:Value×Tk->M β}(x:∀T,RO T n->af W n0 (k (v,T)) h n Q):af W n0 ((az (ai (aj P gt Y d) f vs M.ret)).bind k) h n Q:=by
 refine Ce hd s g (fun _ _ h=>h.elim) fun b h' n' L _ _ a j c=> ?_;obtain⟨rfl,rfl,rfl⟩:=a;refine x _ ⟨fun e i=> ?_,j,rfl⟩;cases a:e.wr with
 |false=>rfl
 |true=>exact(c e i a).elim
end
def b8(ws:List Nat):List Value:=ws.map fun(x:Nat)=>Value.int .u8 (x:Int)
theorem gO(ws:List Nat):(b8 ws).length=ws.length:=by unfold b8;simp
theorem D2(a b:List Nat):b8 (a++b)=b8 a++b8 b:=by unfold b8;simp
def bS(ws:List Nat):List UInt8:=ws.map gU
theorem D3:∀ws:List Nat,j8 (b8 ws)=some (bS ws)
 |[]=>rfl
 |x::ws=>by
  show(match j8 (b8 ws)with
   |some l=>some (gU ((x:Int)).toNat::l)
   |none=>none)=_
  rw[D3 ws];rfl
section
variable {β:Type} {W:Nat->Prop} {n0:Nat} {h:H} {n:Nat} {Q:β->H->Nat->Prop} {P:Program}
theorem uL{b off cp:Nat}{B:AB}{ws:List Nat}(f:h.get b=some B)(i:b<n)(d:off+ws.length<=B.cells.length)(g:(B.cells.drop off).take ws.length=b8 ws)(k:Value->M β)(y:af W n0 (k (.string ⟨(bS ws).toArray⟩)) h n Q):af W n0 (hC (.slice (some ⟨b,off,none⟩) ws.length cp) k) h n Q:=by
 obtain⟨L,a,o⟩:=rK (n:=n) f i ws.length off d;rw[g]at a;refine jQ ?_
 have e:((gZ b off ws.length).bind fun c=>match j8 c with
  |some l=>M.ret (Value.string ⟨⟨l⟩⟩)
  |none=> .fail) h n=some ⟨.string ⟨(bS ws).toArray⟩,h,n,L++[]⟩:=by
  rw[mq];refine bW a ?_;rw[D3];rfl
 obtain⟨p,m,j⟩:=B7 (W:=W) (n0:=n0) e (by simpa using o);exact af.step m (ah _) j y
theorem XX{lo:Nat}{e:TypeId}{v:Value}{ws:List Nat}(o:Own h lo n e v (b8 ws))(k:Value->M β)(y:af W n0 (k (.string ⟨(bS ws).toArray⟩)) h n Q):af W n0 (hC v k) h n Q:=by
 rcases o with ⟨rfl,a⟩|⟨b,rfl,c,_,d⟩
 ·have:ws=[]:=by unfold b8 at a;simpa using a
  subst this;exact y
 ·rw[gO];exact uL (B:=⟨e,true,b8 ws⟩) c d (by simp[gO]) (by rw[jz,<-gO ws,jf]) k y
theorem si {T:Prop} (c:T) {e:TypeId} {x:Value} (a:one x=true) {lo:Nat} {v:Value} {cs:List Value} (o:Own h lo n e v cs) (i:cs.length+1<=1099511627776) (f:∀b,aK v b->n0<=b∨W b) (k:Value->M β)
 (y:∀h',h'.get (n+1)=some ⟨e,true,cs++[x]⟩->(∀b,b<n->¬aK v b->h'.get b=h.get b)->af W n0 (k (.slice (some ⟨n+1,0,none⟩) (cs.length+1) (bo+(cs.length+1)))) h' (n+2) Q):af W n0 (bO e 1 x fun w=>bN e 1 v w k) h n Q:=by
 rcases o with ⟨rfl,rfl⟩|⟨b,rfl,d,m,j⟩
 ·exact Pu c a k (y _ (get_eq _ _ _) fun b d _=>by rw[aw _ _ jO,aw _ _ jO])
 ·refine Ps c a d j rfl i jO (f b ⟨_,_,_,rfl⟩) k (y _ (get_eq _ _ _) fun c l g=> ?_);have:c≠b:=fun e=>g ⟨0,_,_,by rw[e]⟩;rw[aw _ _ jO,aw _ _ this,aw _ _ jO]
end
section
variable {β:Type} {W:Nat->Prop} {n0:Nat} {h:H} {n:Nat} {Q:β->H->Nat->Prop} {P:Program}
theorem ahz(v:Value)(k:Value×Tk->M β)(y:∀T,RO T n->af W n0 (k (v,T)) h n Q):af W n0 ((az (M.ret v)).bind k) h n Q:=
 lG (L:=[]) rfl (ah _) jS (y _ ⟨jS,jS,rfl⟩)
theorem ahA (hd:j9 P=true) {gt:Nat->Hint} {Y d:Nat} {f:FuncId} {vs:List Value} {W':Nat->Prop} {Q':Value->H->Nat->Prop} (s:af W' n (aj P gt Y d f ⟨vs⟩) h n Q') (g:n0<=n) (i:∀b,b<n->W' b->n0<=b∨W b) {k:Value×Tk->M β}
 (x:∀v h1 e T,n<=e->(∀b,b<n->¬W' b->h1.get b=h.get b)->Q' v h1 e->af W n0 (k (v,T)) h1 e Q):af W n0 ((az (ai (aj P gt Y d) f vs M.ret)).bind k) h n Q:=
 Ce hd s g i fun v h1 e L a b c _ _=>x v h1 e _ a b c
end
structure RB (t:Tk) (m:Nat):Prop where
 wr:∀e∈t.log,e.wr=false
 lt:∀e∈t.log,e.b<m
 le:m<=t.n
theorem RB.cy{a b:Tk}{m:Nat}(x:RB a m)(y:RB b m):bP a b=false:=(tB a b).trans<|XW x.wr y.wr (fun e c=>fK (x.lt e c) y.le) (fun e c=>fK (y.lt e c) x.le)
section
variable {β:Type} {W:Nat->Prop} {n0:Nat} {h:H} {n m:Nat} {Q:β->H->Nat->Prop} {P:Program}
theorem gF{T:Prop}(f:T)(b off:Nat)(k:Value×Tk->M β){B:AB}(d:h.get b=some B)(e:b<m)(c:m<=n){v:Value}(a:B.cells[off]? =some v)(x:∀T,RB T m->af W n0 (k (v,T)) h n Q):af W n0 ((az (aP (jP b off) M.ret)).bind k) h n Q:=
 Hr f b off k d jO a (x _ ⟨jS,by simpa using e,c⟩)
theorem KL(v:Value)(k:Value×Tk->M β)(a:m<=n)(y:∀T,RB T m->af W n0 (k (v,T)) h n Q):af W n0 ((az (M.ret v)).bind k) h n Q:=
 lG (L:=[]) rfl (ah _) jS (y _ ⟨jS,jS,a⟩)
theorem lV (hd:j9 P=true) {gt:Nat->Hint} {Y d:Nat} {f:FuncId} {vs:List Value} {Q':Value->H->Nat->Prop} (s:af (fun _=>False) n (aj P gt Y d f ⟨vs⟩) h n Q') (j:n0<=n) {k:Value×Tk->M β}
 (x:∀v h1 a T,n<=a->(∀b,b<n->h1.get b=h.get b)->Q' v h1 a->RB T n->af W n0 (k (v,T)) h1 a Q):af W n0 ((az (ai (aj P gt Y d) f vs M.ret)).bind k) h n Q:=by
 refine Ce hd s j (fun _ _ h=>h.elim) fun v h1 a L g p c o i=>x v h1 a _ g (fun b m=>p b m id) c ⟨fun e l=> ?_,o,ah _⟩;cases c:e.wr with
 |false=>rfl
 |true=>exact(i e l c).elim
theorem ahB{m:M Value}{Q':Value->H->Nat->Prop}(s:af W n0 m h n Q'){k:Value×Tk->M β}(x:∀v h1 a T,n<=a->Q' v h1 a->af W n0 (k (v,T)) h1 a Q):af W n0 ((az m).bind k) h n Q:=by obtain⟨v,h1,a,L,e,b,d,c⟩:=s;exact lG e b d (x v h1 a _ b c)
theorem uM{T:Prop}(e:T)(b off:Nat)(k:Value×Tk->M β){B:AB}(c:h.get b=some B)(d:b<n){v:Value}(a:B.cells[off]? =some v)(x:∀T,T.n=n->T.n1=n->T.log=[⟨false,b,some off⟩]->af W n0 (k (v,T)) h n Q):af W n0 ((az (aP (jP b off) M.ret)).bind k) h n Q:=
 Hr e b off k c d a (x _ rfl rfl rfl)
theorem D4 (hd:j9 P=true) {gt:Nat->Hint} {Y d:Nat} {f:FuncId} {vs:List Value} {W':Nat->Prop} {Q':Value->H->Nat->Prop} (s:af W' n (aj P gt Y d f ⟨vs⟩) h n Q') (i:n0<=n) (j:∀b,b<n->W' b->n0<=b∨W b) {k:Value×Tk->M β}
 (x:∀v h1 g T,n<=g->(∀b,b<n->¬W' b->h1.get b=h.get b)->Q' v h1 g->T.n=n->(∀e∈T.log,e.b<n)->(∀e∈T.log,e.wr=true->W' e.b)->af W n0 (k (v,T)) h1 g Q):af W n0 ((az (ai (aj P gt Y d) f vs M.ret)).bind k) h n Q:=
 Ce hd s i j fun v h1 g L a b c m l=>x v h1 g _ a b c rfl m l
theorem zV{a b:Tk}{p off:Nat}{W':Nat->Prop}(h1:a.n=n)(h2:a.n1=n)(j:a.log=[⟨false,p,some off⟩])(l:b.n=n)(i:∀e∈b.log,e.b<n)(h:∀e∈b.log,e.wr=true->W' e.b)(k:p<n)(g:¬W' p):bP a b=false:=by
 rw[tB];unfold Tk.cy;simp only[xE,aaZ,bZ,decide_eq_true_eq,not_and,j,sV];refine⟨⟨⟨fun x c f=> ?_,fun x c f=> ?_⟩,fun x c d=> ?_⟩,fun x c d=> ?_⟩
 ·subst c;cases f
 ·simp only[an5,Fv,Fx,anY];unfold En.meets;have:x.b≠p:=fun e=>g (e▸h x c f);simp[this]
 ·subst c;simp only at d⊢;omega
 ·have:=i x c;omega
end
theorem dL {g c:Type} {W:Nat->Prop} {n0:Nat} {Q:g->H->Nat->Prop} (N:Nat) (b:Nat->Nat->c->M g) (I:Nat->c->H->Nat->Prop)
 (last:∀a s h n,I N s h n->af W n0 (b (a+1) N s) h n Q)
 (step:∀a i s h n,i<N->I i s h n->(∀d h' n',I (i+1) d h' n'->af W n0 (b a (i+1) d) h' n' Q)->af W n0 (b (a+1) i s) h n Q):
 ∀(a i:Nat) (s:c) (h:H) (n:Nat),i<=N->N-i<a->I i s h n->af W n0 (b a i s) h n Q:=by
 have e:∀(m a i:Nat) (s:c) (h:H) (n:Nat),N-i=m->i<=N->N-i<a->I i s h n->af W n0 (b a i s) h n Q:=by
  intro m
  induction m with
  |zero=>intro a i s h n k l o x;obtain⟨a,rfl⟩:∃f,a=f+1:=⟨a-1,jO⟩;obtain rfl:i=N:=jO;exact last a s h n x
  |succ m j=>intro a i s h n k l o x;obtain⟨a,rfl⟩:∃f,a=f+1:=⟨a-1,jO⟩;exact step a i s h n jO x fun d h' n' y=>j a (i+1) d h' n' jO jO jO y
 exact fun a i s h n=>e _ a i s h n rfl
section
variable {h h':H} {n n' lo hi:Nat} {e e' es ei:TypeId} {v v':Value} {cs cs':List Value} {xss:List (List Int)}
theorem Own.elem(o:Own h lo n e v cs){b:Nat}(a:aK v b):∃B,h.get b=aol B∧B.elem=e:=by
 rcases o with ⟨rfl,_⟩|⟨c,rfl,d,_⟩
 ·exact a.not_nil.elim
 ·rw[a.inj];exact⟨_,d,rfl⟩
theorem Row.elem{k:IntKind}{xs:List Int}(r:Row h n e k v xs){b:Nat}(f:aK v b):∃B,h.get b=aol B∧B.elem=e:=by
 rcases r with ⟨a,c,rfl,d,_⟩|⟨c,g,cap,o,j,rfl,i,_⟩
 ·obtain⟨o,l,k,q⟩:=f;cases q;exact absurd rfl (d b o)
 ·rw[f.inj];exact⟨_,i,rfl⟩
theorem Own.apart(o:Own h lo n e v cs){a:Nat}(g:Own h a n e' v' cs')(c:e≠e'){b:Nat}(i:aK v b):¬aK v' b:=fun d=>by obtain⟨B,l,k⟩:=o.elem i;obtain⟨m,f,j⟩:=g.elem d;rw[l]at f;cases f;exact c (k.symm.trans j)
theorem Row.apart{k:IntKind}{xs:List Int}(o:Row h n e k v xs){a:Nat}(g:Own h a n e' v' cs')(c:e≠e'){b:Nat}(i:aK v b):¬aK v' b:=fun d=>by obtain⟨B,m,l⟩:=o.elem i;obtain⟨p,f,j⟩:=g.elem d;rw[m]at f;cases f;exact c (l.symm.trans j)
theorem D5{a:Type}(d:a)(l:List a)(x:a)(i:Nat):(l++[x]).getD i d=if i<l.length then l.getD i d else if i=l.length then x else d:=by
 rw[bz,bz];split
 ·rename_i h;rw[sS h]
 ·rename_i h;split
  ·rename_i b;subst b;simp
  ·rw[List.getElem?_eq_none (by simp;omega)];rfl
end
section
variable {h h':H} {n n':Nat} {e es ei:TypeId} {v:Value} {cs:List Value} {xss:List (List Int)}
end
section
variable {P:Program} {h:H} {n f:Nat} {t e:TypeId} {v:Value}
end
section
variable {β:Type} {W:Nat->Prop} {n0:Nat} {h:H} {n m:Nat} {Q:β->H->Nat->Prop} {P:Program}
theorem D6{b:Nat}{B:AB}(d:h.get b=some B)(f:b<n):∀(c k:Nat),k+c<=B.cells.length->∃L,cR b k c h n=some ⟨(B.cells.drop k).take c,h,n,L⟩∧∀e∈L,e.wr=false∧e.b=b
 |0,k,_=>⟨[],by rw[FF];rfl,jS⟩
 |c+1,k,j=>by
  obtain⟨L,e,g⟩:=D6 d f c (k+1) jO;have a:k<B.cells.length:=jO;refine⟨[⟨false,b,some k⟩]++(L++[]), ?_, ?_⟩
  ·unfold cR
   have i:rd b k h n=some ⟨B.cells[k],h,n,[⟨false,b,some k⟩]⟩:=by unfold rd;simp only[f,d,if_true,bB a]
   refine bW i (bW e ?_);rw[qX a,an2];rfl
  ·intro x hx;simp only[bV,FG,List.mem_cons,List.not_mem_nil,or_false]at hx;rcases hx with rfl|hx
   ·exact⟨rfl,rfl⟩
   ·exact g x hx
theorem ahC{T r:Prop}(_:T)(_:r){sz:Nat}(b off:Nat)(k:Value×Tk->M β){B:AB}(o:h.get b=some B)(d:b<n)(l:off+sz<=B.cells.length)(x:∀T,(∀m,b<m->m<=n->RB T m)->af W n0 (k (.agg ((B.cells.drop off).take sz).toArray,T)) h n Q):
 af W n0 ((az (bc sz (jP b off) M.ret)).bind k) h n Q:=by
 obtain⟨L,q,p⟩:=D6 (n:=n) o d sz off l
 have e:((gZ b off sz).bind fun i=>M.ret (Value.agg ⟨i⟩)) h n=some ⟨.agg ((B.cells.drop off).take sz).toArray,h,n,L++[]⟩:=by rw[mq];exact bW q rfl
 have g:=mW e;rw[bV]at g;have c:∀y∈L.filter (fun e=> !(decide (n<=e.b)&&decide (e.b<n))),y.wr=false∧y.b=b:=fun y a=>p y (List.mem_filter.1 a).1;exact lG g (ah _) (fun y a f=>by rw[(c y a).1]at f;cases f) (x _ fun m d j=>⟨fun y a=>(c y a).1,fun y a=>by rw[(c y a).2];exact d,j⟩)
theorem KM{T:Prop}(_:T)(b off:Nat)(v:Value)(k:Value->M β){e:TypeId}{cs:List Value}(d:h.get b=some ⟨e,true,cs⟩)(f:b<n)(c:off<cs.length)(h1:one v=true)(a:n0<=b∨W b)(x:af W n0 (k undef) (h.set b (some ⟨e,true,cs.set off v⟩)) n Q):af W n0 (aJ (jP b off) v k) h n Q:=
 (vX b off v k f h1).2 (by rw[d];exact⟨rfl,c,a,x⟩)
theorem ahD{e:TypeId}{z:Value}(l:Nat)(k:Value×Tk->M β){b a:IntKind}(c:l<=1099511627776)(x:af W n0 (k (.slice (some ⟨n,0,none⟩) l l,⟨n,n+1,[]⟩)) (h.set n (some ⟨e,true,bU l z⟩)) (n+1) Q):af W n0 ((az (po e [z] (.int b l) (.int a l) M.ret)).bind k) h n Q:=by
 have d:po e [z] (.int b l) (.int a l) M.ret=eA ((jM e (kP [z] l)).bind fun id=>M.ret (j3 (some ⟨id,0,none⟩) l l)) M.ret:=by
  show(match bI l l with
   |true=>match bI l 1099511627776 with
    |true=>eA ((jM e (kP [z] l)).bind fun id=>M.ret (j3 (some ⟨id,0,none⟩) l l)) M.ret
    |false=> .fail
   |false=> .fail)=_
  rw[lQ (ah l),lQ c]
 rw[d,Hp];exact lG (mW (pr _ _ (fun id=>j3 (some ⟨id,0,none⟩) l l) _ _)) (Nat.le_succ n) jS x
end
end Go.Proofs.YtmjolmggelkjlaaGreat.Ev
namespace Go.Proofs.YtmjolmggelkjlaaGreat
open Go
def bn(b:Bool):Nat:=if b then 1 else 0
theorem sj(b:Bool):bn b<2:=by cases b<;>decide
def num:List Bool->Nat->Nat
 |[],a=>a
 |b::l,a=>num l (2*a+bn b)
theorem uN:∀(l m:List Bool) (a:Nat),num (l++m) a=num m (num l a)
 |[],_,_=>rfl
 |b::l,m,a=>uN l m _
theorem KO:∀(l:List Bool) (a k:Nat),a<2^k->num l a<2^(k+l.length)
 |[],a,k,h=>h
 |b::l,a,k,h=>by have:=sj b;have:=KO l (2*a+bn b) (k+1) (by rw[mL];omega);rw[cP,show k+(l.length+1)=k+1+l.length by omega];exact this
theorem ig(l:List Bool):num l 0<2^l.length:=by have:=KO l 0 0 jD;rwa[fD]at this
def cq:Nat->Nat->List Bool
 |_,0=>[]
 |v,n+1=>cq (v/2) n++[decide (v %2=1)]
theorem hH:∀(n v:Nat),(cq v n).length=n
 |0,_=>rfl
 |n+1,v=>by simp[cq,hH n]
theorem KP(v:Nat):bn (decide (v %2=1))=v %2:=by unfold bn;by_cases h:v %2=1<;>simp[h]<;>omega
theorem KQ:∀(n v:Nat),num (cq v n) 0=v %2^n
 |0,v=>by simp[cq,num,Nat.mod_one]
 |n+1,v=>by show num (cq (v/2) n++[decide (v %2=1)]) 0=_;rw[uN,KQ n];show 2*(v/2 %2^n)+bn _=_;rw[KP,mL,xI (2^n) 2,Nat.mod_mul];omega
theorem w8{x:Nat}(h:x<256):IntKind.u8.wrap (x:Int)=(x:Int):=IntWalk.u8_in _ jO
theorem fU{x:Nat}(h:x<4294967296):IntKind.u32.wrap (x:Int)=(x:Int):=IntWalk.u32_in _ jO
theorem fdiv_pow(v k:Nat)(a:Nat)(h:k<=a):((v:Int)).fdiv (2^(min ((k:Int)).toNat a))=((v/2^k:Nat):Int):=by
 have e:min ((k:Int)).toNat a=k:=by rw[cV];exact ic h
 rw[e];have b:((2:Int)^k)=((2^k:Nat):Int):=by push_cast;rfl
 rw[b,MB _ (oS _)];rfl
theorem ahE{a:Nat}(d:a<4294967296):IntKind.u32.wrap ((cb IntKind.u32.bits (a:Int)&&&cb IntKind.u32.bits (1:Int)).toNat:Int)=((a %2:Nat):Int):=by
 have c:(cb 32 (a:Int)).toNat=a:=by rw[vq,vr];exact lh jO
 show IntKind.u32.wrap ((cb 32 (a:Int)&&&cb 32 (1:Int)).toNat:Int)=_;rw[FA,c];have b:(cb 32 (1:Int)).toNat=1:=jD;rw[b,aom];exact fU jO
end Go.Proofs.YtmjolmggelkjlaaGreat
namespace Go.Proofs.YtmjolmggelkjlaaGreat.Cn
open Go
theorem qF:∀(l:List Bool) (a:Nat),num l a=a*2^l.length+num l 0
 |[],a=>by simp[num]
 |b::l,a=>by
  show num l (2*a+bn b)=_;have c:num (b::l) 0=num l (bn b):=by show num l (2*0+bn b)=_;rw[sW,fD]
  rw[qF l (2*a+bn b),c,qF l (bn b),cP,mL,oR,xI 2 a,MG,xI 2];omega
theorem zW(l:List Bool)(b:Bool):num (l++[b]) 0=2*num l 0+bn b:=by rw[uN];rfl
theorem XY(k:Nat):num (bU k false) 0=0:=by
 induction k with
 |zero=>rfl
 |succ k a=>rw[List.replicate_succ];exact a
theorem ahF(l:List Bool)(k:Nat):num (l++bU k false) 0=num l 0*2^k:=by rw[uN,qF,XY,j4,iO]
theorem ahG{a b:Bool}(h:bn a=bn b):a=b:=by cases a<;>cases b<;>simp[bn]at h<;>rfl
theorem XZ:∀{l m:List Bool},l.length=m.length->num l 0=num m 0->l=m
 |[],[],_,_=>rfl
 |[],_::_,h,_=>by simp at h
 |_::_,[],h,_=>by simp at h
 |a::l,b::m,h,e=>by
  have f:l.length=m.length:=by simpa using h
  have e:num l (bn a)=num m (bn b):=by
   have d:num (a::l) 0=num l (bn a):=by show num l (2*0+bn a)=_;rw[sW,fD]
   have c:num (b::m) 0=num m (bn b):=by show num m (2*0+bn b)=_;rw[sW,fD]
   rw[<-d,<-c];exact e
  rw[qF l,qF m,f]at e;have i:=ig l;have j:=ig m;rw[f]at i
  have g:bn a=bn b:=by
   have n:=sj a;have k:=sj b;rcases aon (bn a) (bn b)with q|q|q
   ·have d:bn a=0:=jO;have c:bn b=1:=jO;rw[d,c]at e;omega
   ·exact q
   ·have d:bn b=0:=jO;have c:bn a=1:=jO;rw[d,c]at e;omega
  rw[g]at e;rw[ahG g,XZ f jO]
theorem wL{l:List Bool}{v:Nat}(h:num l 0=v):l=cq v l.length:=by refine XZ (hH _ _).symm ?_;rw[KQ,<-h,lh (ig l)]
theorem zX{n v:Nat}(h:v<2^n):num (cq v n) 0=v:=by rw[KQ,lh h]
theorem X0{l:List Bool}{n m:Nat}(h:n<=m)(c:m<=l.length):num (l.take n) 0*2^(m-n)<=num (l.take m) 0∧num (l.take m) 0<(num (l.take n) 0+1)*2^(m-n):=by
 have e:l.take m=l.take n++(l.drop n).take (m-n):=by rw[<-List.take_append_drop n (l.take m),MH,ic h,List.drop_take]
 have a:((l.drop n).take (m-n)).length=m-n:=by simp;omega
 have b:=ig ((l.drop n).take (m-n));rw[a]at b;rw[e,uN,qF ((l.drop n).take (m-n)) (num (l.take n) 0),a];constructor
 ·omega
 ·rw[oR];omega
def cn(ln:List Nat)(n:Nat):Nat:=ln.countP fun x=>x==n
def fh(ln:List Nat)(n i:Nat):Nat:=cn (ln.take i) n
theorem sk{ln:List Nat}{i:Nat}(h:i<ln.length)(n:Nat):fh ln n (i+1)=fh ln n i+(if ln.getD i 0=n then 1 else 0):=by unfold fh cn;rw[nv h,List.countP_append,bz,bB h];simp only[aa',List.countP_nil,Option.getD_some,beq_iff_eq,fD]
theorem uO(ln:List Nat)(n:Nat):fh ln n ln.length=cn ln n:=by unfold fh;rw[jf]
theorem X1{ln:List Nat}{n i j:Nat}(h:i<=j):fh ln n i<=fh ln n j:=by
 unfold fh cn;have:ln.take i=(ln.take j).take i:=by rw[MH,ic h]
 rw[this];exact aoo (aop _ _)
theorem KR(ln:List Nat)(n i:Nat):fh ln n i<=cn ln n:=by unfold fh cn;exact aoo (aop _ _)
theorem D7{ln:List Nat}{i:Nat}(h:i<ln.length):fh ln (ln.getD i 0) i<cn ln (ln.getD i 0):=by have a:=sk h (ln.getD i 0);rw[if_pos rfl]at a;have:=KR ln (ln.getD i 0) (i+1);omega
def bX(ln:List Nat):Nat->Nat
 |0=>0
 |n+1=>2*(bX ln n+cn ln n)
def bh(ln:List Nat):Nat->Nat
 |0=>0
 |n+1=>bh ln n+cn ln n
def di(ln:List Nat)(i:Nat):Nat:=bX ln (ln.getD i 0)+fh ln (ln.getD i 0) i
def iU(ln:List Nat):Nat->Nat
 |0=>0
 |n+1=>iU ln n+cn ln n*2^(20-n)
theorem KS(ln:List Nat):∀{n:Nat},n<=20->bX ln n*2^(20-n)=iU ln n
 |0,_=>by simp[bX,iU]
 |n+1,h=>by have a:=KS ln (n:=n) jO;have e:20-n=20-(n+1)+1:=jO;unfold bX iU;rw[<-a,e,mL];simp only[xI 2,oR,MG]
theorem X2(ln:List Nat):∀{n m:Nat},n<=m->iU ln n<=iU ln m
 |n,0,h=>by have:n=0:=jO
            subst this;exact ah _
 |n,m+1,h=>by
  by_cases e:n=m+1
  ·subst e;exact ah _
  ·have:=X2 ln (n:=n) (m:=m) jO;show iU ln n<=iU ln m+cn ln m*2^(20-m);omega
structure Wh (ln:List Nat):Prop where
 lo:∀x∈ln,1<=x∧x<=20
 kr:iU ln 21=1048576
section
variable {ln:List Nat} (w:Wh ln)
include w
theorem Wh.at{i:Nat}(h:i<ln.length):1<=ln.getD i 0∧ln.getD i 0<=20:=by rw[bz,bB h];exact w.lo _ (dO h)
theorem Wh.cap{n:Nat}(h:n<=20):bX ln n+cn ln n<=2^n:=by
 have d:=KS ln h;have a:=X2 ln (show n+1<=21 by omega);rw[w.kr]at a;have c:iU ln (n+1)=iU ln n+cn ln n*2^(20-n):=rfl;rw[c,<-d,<-oR]at a;have b:2^n*2^(20-n)=1048576:=by rw[<-aoq,show n+(20-n)=20 by omega]
 rw[<-b]at a;exact Nat.le_of_mul_le_mul_right a (Nat.two_pow_pos _)
theorem Wh.full:bX ln 20+cn ln 20=1048576:=by have b:=KS ln (ah 20);have a:iU ln 21=iU ln 20+cn ln 20*2^(20-20):=rfl;rw[w.kr,<-b]at a;simpa using a.symm
theorem Wh.KU{i:Nat}(h:i<ln.length):di ln i<2^ln.getD i 0:=by have b:=w.cap (w.at h).2;have a:=D7 h;unfold di;omega
end
theorem KV(ln:List Nat){n:Nat}:∀{m:Nat},n<m->(bX ln n+cn ln n)*2^(m-n)<=bX ln m
 |0,h=>absurd h (lq n)
 |m+1,h=>by
  by_cases e:n=m
  ·subst e;rw[show n+1-n=1 by omega,MI];show _<=2*(bX ln n+cn ln n);omega
  ·have a:=KV ln (n:=n) (m:=m) jO;rw[show m+1-n=m-n+1 by omega,mL,<-MG];show _<=2*(bX ln m+cn ln m);omega
def Mt(ln:List Nat)(bs:List Bool)(i:Nat):Prop:=i<ln.length∧ln.getD i 0<=bs.length∧num (bs.take (ln.getD i 0)) 0=di ln i
theorem X3{ln:List Nat}{i j:Nat}(d:i<ln.length)(c:j<ln.length)(b:ln.getD i 0=ln.getD j 0)(e:fh ln (ln.getD i 0) i=fh ln (ln.getD i 0) j):i=j:=by
 rcases aon i j with q|q|q
 ·have a:=sk d (ln.getD i 0);rw[if_pos rfl]at a;have:=X1 (ln:=ln) (n:=ln.getD i 0) (show i+1<=j by omega);omega
 ·exact q
 ·have a:=sk c (ln.getD i 0);rw[if_pos b.symm]at a;have:=X1 (ln:=ln) (n:=ln.getD i 0) (show j+1<=i by omega);omega
theorem Mt.X4{ln:List Nat}{bs:List Bool}{i j:Nat}(a:Mt ln bs i)(b:Mt ln bs j):¬ln.getD i 0<ln.getD j 0:=by
 intro h;obtain⟨d,_,g⟩:=a;obtain⟨k,c,f⟩:=b;have e:=(X0 (Nat.le_of_lt h) c).2;have o:=D7 d;have n:=KV ln h;rw[g,f]at e;have m:(di ln i+1)*2^(ln.getD j 0-ln.getD i 0)<=(bX ln (ln.getD i 0)+cn ln (ln.getD i 0))*2^(ln.getD j 0-ln.getD i 0):=qT _ (by unfold di;omega);have l:bX ln (ln.getD j 0)<=di ln j:=by unfold di;omega
 omega
theorem Mt.uniq{ln:List Nat}{bs:List Bool}{i j:Nat}(a:Mt ln bs i)(b:Mt ln bs j):i=j:=by have g:=a.X4 b;have f:=b.X4 a;have c:ln.getD i 0=ln.getD j 0:=jO;refine X3 a.1 b.1 c ?_;have e:=a.2.2;have d:=b.2.2;unfold di at e d;rw[<-c]at d;omega
def fI(ln:List Nat)(bs:List Bool):Option Nat:=(gL ln.length).find? fun i=>decide (ln.getD i 0<=bs.length)&&decide (num (bs.take (ln.getD i 0)) 0=di ln i)
theorem D9{ln:List Nat}{bs:List Bool}{i:Nat}(m:Mt ln bs i):fI ln bs=some i:=by
 unfold fI;cases h:(gL ln.length).find? fun i=>decide (ln.getD i 0<=bs.length)&&decide (num (bs.take (ln.getD i 0)) 0=di ln i)with
 |none=>have:=List.find?_eq_none.1 h i (List.mem_range.2 m.1);simp only[m.2.1,m.2.2,decide_true,dJ,not_true_eq_false]at this
 |some j=>have a:=aos h;have b:=aot h;simp only[bZ,decide_eq_true_eq]at a;rw[m.uniq ⟨List.mem_range.1 b,a⟩]
theorem pF{ln:List Nat}{bs:List Bool}{i:Nat}(h:fI ln bs=some i):Mt ln bs i:=by unfold fI at h;have a:=aos h;have b:=aot h;simp only[bZ,decide_eq_true_eq]at a;exact⟨List.mem_range.1 b,a⟩
theorem X5{ln:List Nat}{bs:List Bool}(h:∀i,¬Mt ln bs i):fI ln bs=none:=by
 cases e:fI ln bs with
 |none=>rfl
 |some i=>exact absurd (pF e) (h i)
def lH(ln:List Nat)(bs:List Bool)(n:Nat):Prop:=bX ln n+cn ln n<=num (bs.take n) 0
theorem lH.no{ln:List Nat}{bs:List Bool}{n:Nat}(p:lH ln bs n)(c:n<=bs.length){i:Nat}(d:ln.getD i 0<=n):¬Mt ln bs i:=by
 rintro⟨g,l,f⟩;have b:=(X0 d c).2;rw[f]at b;have k:=D7 g;have a:di ln i+1<=bX ln (ln.getD i 0)+cn ln (ln.getD i 0):=by unfold di;omega
 by_cases e:ln.getD i 0=n
 ·unfold lH at p;rw[e,sX,aa_,vu]at b;rw[e]at a;omega
 ·have j:=KV ln (show ln.getD i 0<n by omega);have h:(di ln i+1)*2^(n-ln.getD i 0)<=(bX ln (ln.getD i 0)+cn ln (ln.getD i 0))*2^(n-ln.getD i 0):=qT _ a;unfold lH at p;omega
theorem lH.next{ln:List Nat}{bs:List Bool}{n:Nat}(p:lH ln bs n)(a:n<bs.length):bX ln (n+1)<=num (bs.take (n+1)) 0:=by have e:bs.take (n+1)=bs.take n++[bs[n]]:=nv a;rw[e,zW];unfold lH at p;show 2*(bX ln n+cn ln n)<=_;omega
def fQ(ln:List Nat)(n i:Nat):List Nat:=(gL i).filter fun s=>ln.getD s 0==n
theorem zY(ln:List Nat)(n i:Nat):fQ ln n (i+1)=fQ ln n i++(if ln.getD i 0=n then [i]else []):=by
 unfold fQ;rw[List.range_succ,List.filter_append];congr 1;by_cases h:ln.getD i 0=n
 ·rw[if_pos h,an4,if_pos (by rw[h];simp)];rfl
 ·rw[if_neg h,an4,if_neg (by simpa using h)];rfl
theorem wM{ln:List Nat}(n:Nat):∀{i:Nat},i<=ln.length->(fQ ln n i).length=fh ln n i
 |0,_=>by simp[fQ,fh,cn]
 |i+1,h=>by rw[zY,bG,wM n (i:=i) jO,sk jO];split<;>rfl
theorem X6{ln:List Nat}{n:Nat}:∀{i r s:Nat},i<=ln.length->(fQ ln n i)[r]? =some s->s<i∧ln.getD s 0=n∧fh ln n s=r
 |0,r,s,_,h=>by simp[fQ]at h
 |i+1,r,s,g,h=>by
  rw[zY]at h;by_cases q:r<(fQ ln n i).length
  ·rw[sS q]at h;obtain⟨a,b,c⟩:=X6 (i:=i) jO h;exact⟨jO,b,c⟩
  ·rw[qU jO]at h;have f:=wM (ln:=ln) n (i:=i) jO;split at h
   ·rename_i e
    have d:r-(fQ ln n i).length=0:=by
     cases q2:r-(fQ ln n i).length with
     |zero=>rfl
     |succ k=>rw[q2]at h;simp at h
    rw[d]at h;simp at h;subst h;exact⟨jO,e,jO⟩
   ·simp at h
def gh(ln:List Nat):Nat->List Nat
 |0=>[]
 |n+1=>gh ln n++fQ ln n ln.length
theorem lW(ln:List Nat):∀n,(gh ln n).length=bh ln n
 |0=>rfl
 |n+1=>by unfold gh bh;rw[bG,lW ln n,wM n (ah _),uO]
theorem D'{ln:List Nat}{n r:Nat}(f:r<cn ln n):∀{m:Nat},n<m->∃s,(gh ln m)[bh ln n+r]? =some s∧s<ln.length∧ln.getD s 0=n∧fh ln n s=r
 |0,h=>absurd h (lq n)
 |m+1,h=>by
  unfold gh;by_cases e:n=m
  ·subst e;have g:=wM (ln:=ln) n (ah _);rw[uO]at g
   have:((gh ln n++fQ ln n ln.length)[bh ln n+r]?)=some ((fQ ln n ln.length)[r]'jO):=by rw[qU (by rw[lW];omega),lW,show bh ln n+r-bh ln n=r by omega,bB]
   obtain⟨a,b,c⟩:=X6 (ln:=ln) (n:=n) (i:=ln.length) (r:=r) (s:=(fQ ln n ln.length)[r]'jO) (ah _) (bB _);exact⟨_,this,a,b,c⟩
  ·obtain⟨s,d,j⟩:=D' f (m:=m) jO;refine⟨s, ?_,j⟩;rw[sS ((List.getElem?_eq_some_iff.1 d).1)];exact d
theorem X7{ln:List Nat}:∀{n m:Nat},n<=m->bh ln n<=bh ln m
 |n,0,h=>by have:n=0:=jO
            subst this;exact ah _
 |n,m+1,h=>by
  by_cases e:n=m+1
  ·subst e;exact ah _
  ·have:=X7 (ln:=ln) (n:=n) (m:=m) jO;show bh ln n<=bh ln m+cn ln m;omega
theorem nZ{ln:List Nat}{bs:List Bool}{n:Nat}(f:n<=bs.length)(h1:bX ln n<=num (bs.take n) 0)(h2:num (bs.take n) 0<bX ln n+cn ln n):∃s,(gh ln 21)[bh ln n+(num (bs.take n) 0-bX ln n)]? =some s∧(n<=20->Mt ln bs s∧ln.getD s 0=n)∨20<n:=by
 by_cases e:20<n
 ·exact⟨0,.inr e⟩
 ·obtain⟨s,a,b,c,d⟩:=D' (ln:=ln) (n:=n) (r:=num (bs.take n) 0-bX ln n) jO (m:=21) jO;refine⟨s,.inl ⟨a,fun _=>⟨⟨b,jO, ?_⟩,c⟩⟩⟩;unfold di;rw[c,d];omega
def gG(ln:List Nat)(n i:Nat):Nat:=bX ln n+fh ln n i
theorem X8(ln:List Nat)(n:Nat):gG ln (n+1) 0=2*gG ln n ln.length:=by unfold gG;rw[uO];show 2*(bX ln n+cn ln n)+fh ln (n+1) 0=_;simp[fh,cn]
theorem Ea{ln:List Nat}{n i:Nat}(h:i<ln.length):gG ln n (i+1)=gG ln n i+(if ln.getD i 0=n then 1 else 0):=by unfold gG;rw[sk h];omega
theorem Eb{ln:List Nat}{n i:Nat}(h:ln.getD i 0=n):gG ln n i=di ln i:=by unfold gG di;rw[h]
def iD:List Bool->List Bool×Bool
 |[]=>([],true)
 |b::l=>((xor b (iD l).2)::(iD l).1,b&&(iD l).2)
theorem wN:∀l:List Bool,(iD l).1.length=l.length
 |[]=>rfl
 |b::l=>by simp[iD,wN l]
theorem X9:∀l:List Bool,num (iD l).1 0+bn (iD l).2*2^l.length=num l 0+1
 |[]=>rfl
 |b::l=>by
  have a:=X9 l
  have e:∀(c:Bool) (m:List Bool),num (c::m) 0=bn c*2^m.length+num m 0:=fun c m=>by show num m (2*0+bn c)=_;rw[sW,fD,qF]
  simp only[iD,e,wN,cP,mL];cases b<;>cases d:(iD l).2<;>simp[bn,d]at a⊢<;>omega
theorem ahH{c m:Nat}(h:c+1<2^m):(iD (cq c m)).1=cq (c+1) m:=by
 have a:=X9 (cq c m);rw[zX jO,hH]at a
 have d:num (iD (cq c m)).1 0=c+1:=by
  cases b:(iD (cq c m)).2 with
  |false=>rw[b]at a;simpa[bn]using a
  |true=>rw[b]at a;simp[bn]at a;omega
 have:=wL d;rw[wN,hH]at this;exact this
theorem ahI{v m k:Nat}(h:v<2^m):cq v m++bU k false=cq (v*2^k) (m+k):=by have:=wL (l:=cq v m++bU k false) (v:=v*2^k) (by rw[ahF,zX h]);rw[bG,hH,j4]at this;exact this
def lI(ln:List Nat)(n i:Nat)(a:List Bool):Prop:=(a=[]∧gG ln n i=0)∨∃c m,1<=m∧m<=n∧a=cq c m∧c<2^m∧(c+1)*2^(n-m)=gG ln n i
theorem lI.skip{ln:List Nat}{n i:Nat}{a:List Bool}(h:lI ln n i a)(c:i<ln.length)(b:ln.getD i 0≠n):lI ln n (i+1) a:=by
 have e:gG ln n (i+1)=gG ln n i:=by rw[Ea c,if_neg b,iO]
 unfold lI;rw[e];exact h
theorem lI.row{ln:List Nat}{n:Nat}{d:List Bool}(h:lI ln n ln.length d):lI ln (n+1) 0 d:=by
 rcases h with ⟨a,b⟩|⟨c,m,i,j,g,f,e⟩
 ·exact .inl ⟨a,by rw[X8,b]⟩
 ·refine .inr ⟨c,m,i,jO,g,f, ?_⟩;rw[X8,<-e,show n+1-m=n-m+1 by omega,mL];rw[<-MG,xI 2]
theorem lI.nZ{ln:List Nat}(w:Wh ln){n i:Nat}{d:List Bool}(h:lI ln n i d)(l:i<ln.length)(f:ln.getD i 0=n):(if d=[]then bU n false else(iD d).1++bU (n-d.length) false)=cq (di ln i) n∧lI ln n (i+1) (cq (di ln i) n):=by
 have j:=w.KU l;have p:=w.at l;rw[f]at j p;have e:gG ln n (i+1)=di ln i+1:=by rw[Ea l,if_pos f,Eb f]
 refine⟨?_,.inr ⟨di ln i,n,p.1,ah n,rfl,j,by rw[e,sX,aa_,vu]⟩⟩;rcases h with ⟨a,b⟩|⟨c,m,v,u,r,t,o⟩
 ·rw[if_pos a];rw[Eb f]at b;have:=wL (XY n);rw[j4]at this;rw[b];exact this
 ·rw[Eb f]at o
  have k:d≠[]:=by intro q;have:=congrArg List.length (q.symm.trans r);rw[hH]at this;simp at this;omega
  have g:c+1<2^m:=by
   have s:2^m*2^(n-m)=2^n:=by rw[<-aoq,show m+(n-m)=n by omega]
   rw[<-o,<-s]at j;exact Nat.lt_of_mul_lt_mul_right j
  rw[if_neg k,r,ahH g,hH,ahI g,o,show m+(n-m)=n by omega]
theorem zZ{ln:List Nat}(w:Wh ln):cn ln 0=0:=by unfold cn;rw[List.countP_eq_zero];intro x a;have:=(w.lo x a).1;simp;omega
theorem ahJ{ln:List Nat}(w:Wh ln):bX ln 1=0:=by show 2*(0+cn ln 0)=0;rw[zZ w]
theorem ahK{ln:List Nat}(w:Wh ln):bh ln 1=0:=by show 0+cn ln 0=0;rw[zZ w]
theorem lI.zero{ln:List Nat}(w:Wh ln):lI ln 1 0 []:= .inl ⟨rfl,by
 unfold gG;rw[ahJ w]
 simp[fh,cn]⟩
def dY(s:List UInt8):List Bool:=s.flatMap fun b=>cq b.toNat 8
theorem Aa:∀s:List UInt8,(dY s).length=8*s.length
 |[]=>rfl
 |b::s=>by show(cq b.toNat 8++dY s).length=_;rw[bG,hH,Aa s,cP];omega
theorem X'(a b:List UInt8):dY (a++b)=dY a++dY b:=by unfold dY;rw[List.flatMap_append]
theorem xU:∀(n v r:Nat) (h:r<n),(cq v n)[r]? =some (decide (v/2^(n-1-r)%2=1))
 |0,_,_,h=>absurd h (lq _)
 |n+1,v,r,h=>by
  show(cq (v/2) n++[decide (v %2=1)])[r]? =_;by_cases e:r<n
  ·rw[sS (by rw[hH];exact e),xU n (v/2) r e,Nat.div_div_eq_div_mul,<-Nat.pow_succ',show(n-1-r).succ=n+1-1-r by omega]
  ·have:r=n:=jO;subst this;rw[qU (by rw[hH];exact ah _),hH,sX,show r+1-1-r=0 by omega,aa_,Nat.div_one];rfl
theorem Ya:∀(s:List UInt8) (q r:Nat) (c:q<s.length) (a:r<8),(dY s)[8*q+r]? =some (decide (s[q].toNat/2^(7-r)%2=1))
 |[],q,r,c,_=>by simp at c
 |b::s,0,r,_,a=>by show(cq b.toNat 8++dY s)[8*0+r]? =_;rw[sS (by rw[hH];omega),sW,fD,xU 8 _ r a];rfl
 |b::s,q+1,r,c,a=>by have d:=Ya s q r (by simpa using c) a;show(cq b.toNat 8++dY s)[8*(q+1)+r]? =_;rw[qU (by rw[hH];omega),hH,show 8*(q+1)+r-8=8*q+r by omega,d];rfl
def ar(S:List UInt8)(D A:Nat):List Bool:=(dY S).drop (A-8*D)
theorem fy(S:List UInt8)(D A:Nat):(ar S D A).length=8*S.length-(A-8*D):=by unfold ar;rw[List.length_drop,Aa]
theorem od{S:List UInt8}{D A k:Nat}(h:8*D<=A):(ar S D A).drop k=ar S D (A+k):=by unfold ar;rw[jm];congr 1;omega
theorem take_one{l:List Bool}{k:Nat}{b:Bool}(h:(l.drop k)[0]? =some b):l.take (k+1)=l.take k++[b]:=by rw[anN,iO]at h;obtain⟨a,e⟩:=List.getElem?_eq_some_iff.1 h;rw[nv a,e]
theorem ahL{a:Nat}(d:a<256):IntKind.u8.wrap ((cb IntKind.u8.bits (a:Int)&&&cb IntKind.u8.bits (1:Int)).toNat:Int)=((a %2:Nat):Int):=by
 have c:(cb 8 (a:Int)).toNat=a:=by rw[vq,vr];exact lh jO
 show IntKind.u8.wrap ((cb 8 (a:Int)&&&cb 8 (1:Int)).toNat:Int)=_;rw[FA,c];have b:(cb 8 (1:Int)).toNat=1:=jD;rw[b,aom];exact w8 jO
theorem ahM{a:Nat}(b:Bool)(g:2*a+1<4294967296):IntKind.u32.wrap ((cb IntKind.u32.bits ((2*a:Nat):Int)|||cb IntKind.u32.bits (bn b:Int)).toNat:Int)=((2*a+bn b:Nat):Int):=by
 have f:=sj b;have e:(cb 32 ((2*a:Nat):Int)).toNat=2*a:=by rw[vq,vr];exact lh jO
 have d:(cb 32 (bn b:Int)).toNat=bn b:=by rw[vq,vr];exact lh jO
 show IntKind.u32.wrap ((cb 32 ((2*a:Nat):Int)|||cb 32 (bn b:Int)).toNat:Int)=_;rw[BitVec.toNat_or,e,d]
 have c:2*a|||bn b=2*a+bn b:=by have:=Nat.two_pow_add_eq_or_of_lt (i:=1) (b:=bn b) jO a;rw[MI]at this;exact this.symm
 rw[c];exact fU jO
theorem wO{a:Nat}(b:2*a<4294967296):IntKind.u32.wrap ((a:Int)*2^(min ((1:Int)).toNat (jG).bits))=((2*a:Nat):Int):=by have e:min ((1:Int)).toNat (jG).bits=1:=jD;rw[e];have:(a:Int)*2^1=((2*a:Nat):Int):=jO;rw[this];exact fU b
end Go.Proofs.YtmjolmggelkjlaaGreat.Cn
namespace Go.Proofs.YtmjolmggelkjlaaGreat
open Go.RowKit Ev Cn
def mC(S:List UInt8)(D A:Nat):AB:=⟨152,true,[.string ⟨S.toArray⟩,jI (D:Int),jI (A:Int)]⟩
structure aY (h:H) (n p:Nat) (S:List UInt8) (D A:Nat):Prop where
 get:h.get p=some (mC S D A)
 lt:p<n
 lo:8*D<=A
 hi:A<=8*(D+S.length)
 sm:D+S.length<=1000000000000
theorem aY.au{h h':H}{n n' p:Nat}{S:List UInt8}{D A:Nat}(x:aY h n p S D A)(a:n<=n')(b:h'.get p=h.get p):aY h' n' p S D A:=⟨b.trans x.get,fK x.lt a,x.lo,x.hi,x.sm⟩
theorem aY.len{h:H}{n p:Nat}{S:List UInt8}{D A:Nat}(x:aY h n p S D A):(ar S D A).length=8*(D+S.length)-A:=by rw[fy];have:=x.lo;have:=x.hi;omega
section
variable {Y d n p:Nat} {h:H} {S:List UInt8} {D A:Nat}
theorem ahN(a:S.length<=1000000000000):af (fun _=>False) n (aj aa gt Y (d+1) 59 #[.string ⟨S.toArray⟩]) h n fun v h' n'=>v=jP n 0∧n'=n+1∧aY h' n' n S 0 0:=by
 rw[aB (fun _=>Rh) rfl];refine af.aA ?_;unfold H2;try simp(disch:=first|omega|assumption) only[Nat.reduceAdd,Nat.reduceLT,RZ,eU,eV,eW,eX,eY,eZ,fa,fb,fc,fg]
 refine gD trivial _ _ ?_;try simp(disch:=first|omega|assumption) only[Nat.reduceAdd,Nat.reduceLT,RZ,eU,eV,eW,eX,eY,eZ,fa,fb,fc,fg]
 exact⟨get_eq _ _ _,jO,jO,jO,jO⟩
theorem Yb(x:aY h n p S D A):af (fun _=>False) n (aj aa gt Y (d+1) 122 #[jP p 0]) h n fun v h' n'=>v=jI ((8*(D+S.length):Nat):Int)∧h'=h∧n'=n:=by
 have g:=x.get;have c:=x.lt;have e:=x.sm;unfold mC at g;rw[aB (fun _=>Sv) rfl];refine af.aA ?_;unfold IE;have b:IntKind.i64.wrap ((D:Int)+(S.length:Int))=((D+S.length:Nat):Int):=by rw[aH jO jO];omega
 have a:IntKind.i64.wrap (8*((D+S.length:Nat):Int))=((8*(D+S.length):Nat):Int):=by rw[aH jO jO];omega
 try simp(disch:=first|omega|assumption) only[Nat.reduceAdd,Nat.reduceLT,RZ,eU,eV,eW,eX,eY,eZ,fa,fb,fc,fg,g,b,a]
theorem Ec(x:aY h n p S D A):af (fun _=>False) n (aj aa gt Y (d+1) 126 #[jP p 0]) h n fun v h' n'=>v=jI (A:Int)∧h'=h∧n'=n:=by have g:=x.get;have a:=x.lt;unfold mC at g;rw[aB (fun _=>Sx) rfl];refine af.aA ?_;unfold IG;try simp(disch:=first|omega|assumption) only[Nat.reduceAdd,Nat.reduceLT,RZ,eU,eV,eW,eX,eY,eZ,fa,fb,fc,fg,g]
theorem Ed(x:aY h n p S D A):af (fun _=>False) n (aj aa gt Y (d+2) 98 #[jP p 0]) h n fun v h' n'=>v=jI (((ar S D A).length:Nat):Int)∧h'=h∧n'=n:=by
 have g:=x.get;have j:=x.lt;have l:=x.sm;have m:=x.len;have o:=x.hi;unfold mC at g;rw[aB (fun _=>RY) rfl];refine af.aA ?_;unfold Im;have e:IntKind.i64.wrap (((8*(D+S.length):Nat):Int)-(A:Int))=(((ar S D A).length:Nat):Int):=by rw[aH jO jO];omega
 have k:∀a b c:Value,[a,b,c][2]? =some c:=fun _ _ _=>rfl;try simp(disch:=first|omega|assumption) only[Nat.reduceAdd,Nat.reduceLT,RZ,eU,eV,eW,eX,eY,eZ,fa,fb,fc,fg]
 refine kq aF (Yb x) (ah _) fun r i=> ?_;try simp(disch:=first|omega|assumption) only[Nat.reduceAdd,Nat.reduceLT,RZ,eU,eV,eW,eX,eY,eZ,fa,fb,fc,fg]
 refine kp trivial _ _ _ g j (k _ _ _) fun q f=> ?_;try simp(disch:=first|omega|assumption) only[Nat.reduceAdd,Nat.reduceLT,RZ,eU,eV,eW,eX,eY,eZ,fa,fb,fc,fg,e,i.cy f,cf,dJ,dG]
theorem Ee(x:aY h n p S D A)(B:Nat)(h1:8*D<=B)(h2:B<=8*(D+S.length)):af (fun c=>c=p) n (aj aa gt Y (d+2) 246 #[jP p 0,jI (B:Int)]) h n fun v h' n'=>v=jI 0∧n'=n∧aY h' n p S D B:=by
 have g:=x.get;have b:=x.lt;have e:=x.sm;unfold mC at g;rw[aB (fun _=>Wy) rfl];refine af.aA ?_;unfold Kb;have a:IntKind.i64.wrap (8*(D:Int))=((8*D:Nat):Int):=by rw[aH jO jO];omega
 have i:¬((B:Int)<((8*D:Nat):Int)):=jO;have f:¬(((8*(D+S.length):Nat):Int)<(B:Int)):=jO;try simp(disch:=first|omega|assumption) only[Nat.reduceAdd,Nat.reduceLT,RZ,eU,eV,eW,eX,eY,eZ,fa,fb,fc,fg,g,a,i]
 refine bq (Yb x) (ah _) (fun _ _ h=>h.elim) ?_;try simp(disch:=first|omega|assumption) only[Nat.reduceAdd,Nat.reduceLT,RZ,eU,eV,eW,eX,eY,eZ,fa,fb,fc,fg,f,g]
 exact⟨get_eq _ _ _,b,h1,h2,e⟩
theorem ahO(x:aY h n p S D A)(T:List UInt8)(b:D+(S++T).length<=1000000000000):af (fun c=>c=p) n (aj aa gt Y (d+1) 90 #[jP p 0,.string ⟨T.toArray⟩]) h n fun v h' n'=>v=jI 0∧n'=n∧aY h' n p (S++T) D A:=by
 have g:=x.get;have e:=x.lt;have f:=x.sm;unfold mC at g;rw[aB (fun _=>RP) rfl];refine af.aA ?_;unfold Ie;have a:S.length+T.length<=9223372036854775807:=by simp at b;omega
 try simp(disch:=first|omega|assumption) only[Nat.reduceAdd,Nat.reduceLT,RZ,eU,eV,eW,eX,eY,eZ,fa,fb,fc,fg,g,a]
 have:=x.hi;exact⟨get_eq _ _ _,e,x.lo,by simp;omega,b⟩
theorem ahP(x:aY h n p S D A)(E:A<8*(D+S.length)):∃b,(ar S D A)[0]? =some b∧af (fun _=>False) n (aj aa gt Y (d+1) 215 #[jP p 0,jI (A:Int)]) h n fun v h' n'=>v= .int .u32 (bn b:Int)∧h'=h∧n'=n:=by
 have g:=x.get;have B:=x.lt;have C:=x.sm;have y:=x.lo;unfold mC at g;have i:A/8-D<S.length:=jO;have u:A %8<8:=Nat.mod_lt _ jD;refine⟨decide (S[A/8-D].toNat/2^(7-A %8)%2=1), ?_, ?_⟩
 ·have:=Ya S (A/8-D) (A %8) i u;unfold ar;rw[anN,iO,show A-8*D=8*(A/8-D)+A %8 by omega];exact this
 rw[aB (fun _=>VG) rfl];refine af.aA ?_;unfold JP;have r:((A:Int)).tdiv 8=((A/8:Nat):Int):=rfl;have q:IntKind.i64.wrap ((A/8:Nat):Int)=((A/8:Nat):Int):=aH jO jO;have o:IntKind.i64.wrap (((A/8:Nat):Int)-(D:Int))=((A/8-D:Nat):Int):=by rw[aH jO jO];omega
 have m:((A:Int)).tmod 8=((A %8:Nat):Int):=rfl;have l:IntKind.i64.wrap (7-((A %8:Nat):Int))=((7-A %8:Nat):Int):=by rw[aH jO jO];omega
 have k:(0:Int)<=((7-A %8:Nat):Int):=jO;have s:S.getD (A/8-D) 0=S[A/8-D]:=by rw[bz,bB i];rfl
 have c:S[A/8-D].toNat<256:=S[A/8-D].toNat_lt;have f:=fdiv_pow S[A/8-D].toNat (7-A %8) (IntKind.u8).bits (by simp[IntKind.bits];omega);rw[cV]at f;have e:=ahL (a:=S[A/8-D].toNat/2^(7-A %8)) (Nat.lt_of_le_of_lt (Nat.div_le_self _ _) c);have j:IntKind.u32.wrap ((S[A/8-D].toNat/2^(7-A %8)%2:Nat):Int)=(bn (decide (S[A/8-D].toNat/2^(7-A %8)%2=1)):Int):=by rw[KP];exact fU jO
 have i1:(0:Int)<=((A/8-D:Nat):Int):=jO;have t:((A/8-D:Nat):Int)<(S.length:Int):=jO;have z:(0:Int)<=((S[A/8-D].toNat/2^(7-A %8):Nat):Int):=oS _;try simp(disch:=first|omega|assumption) only[Nat.reduceAdd,Nat.reduceLT,RZ,eU,eV,eW,eX,eY,eZ,fa,fb,fc,fg,g,r,q,o,m,l,k,i1,t,s,f,e,j]
theorem lJ(x:aY h n p S D A)(k:Nat)(P:k<=32)(I:40<=Y):af (fun c=>c=p) n (aj aa gt Y (d+3) 188 #[jP p 0,jI (k:Int)]) h n fun v h' n'=>n'=n∧
 (((ar S D A).length<k∧v= .tuple #[.int .u32 0,jI 3]∧h'=h)∨(k<=(ar S D A).length∧v= .tuple #[.int .u32 (num ((ar S D A).take k) 0:Int),jI 0]∧aY h' n p S D (A+k))):=by
 have g:=x.get;have E:=x.lt;have G:=x.sm;have O:=x.len;have Q:=x.hi;have C:=x.lo;rw[aB (fun _=>UY) rfl];refine af.aA ?_;unfold Dh;have N:¬((k:Int)<0):=jO;have L:¬((32:Int)<(k:Int)):=jO;try simp(disch:=first|omega|assumption) only[Nat.reduceAdd,Nat.reduceLT,RZ,eU,eV,eW,eX,eY,eZ,fa,fb,fc,fg,N,L]
 refine bq (Ed x) (ah _) (fun _ _ h=>h.elim) ?_;by_cases short:(ar S D A).length<k
 ·have m:(((ar S D A).length:Nat):Int)<(k:Int):=jO;try simp(disch:=first|omega|assumption) only[Nat.reduceAdd,Nat.reduceLT,RZ,eU,eV,eW,eX,eY,eZ,fa,fb,fc,fg,m]
  first|exact .inl short|exact .inl ⟨short,rfl,rfl⟩
 have m:¬(((ar S D A).length:Nat):Int)<(k:Int):=jO;try simp(disch:=first|omega|assumption) only[Nat.reduceAdd,Nat.reduceLT,RZ,eU,eV,eW,eX,eY,eZ,fa,fb,fc,fg,m]
 refine dL k (fun l i (q:Nat)=>ux Y (aj aa gt Y (d+2)) l (Dg Y (aj aa gt Y (d+2))) (jP p 0) (jI (k:Int)) (.int .u32 0) (jI 0) (.int .u32 (q:Int)) (.bool false) (.bool false) (.bool false) (jI (k:Int)) (jI (i:Int)))
  (fun i q h' n'=>n'=n∧q=num ((ar S D A).take i) 0∧aY h' n p S D (A+i)) ?_ ?_ Y 0 0 h n (aO _) jO ⟨rfl,rfl,x⟩
 ·rintro l q h' n' ⟨rfl,rfl,f⟩;rw[ux];try simp(disch:=first|omega|assumption) only[Nat.reduceAdd,Nat.reduceLT,RZ,eU,eV,eW,eX,eY,eZ,fa,fb,fc,fg,eT]
  (try unfold Dg);(try dsimp only)
  try simp(disch:=first|omega|assumption) only[Nat.reduceAdd,Nat.reduceLT,RZ,eU,eV,eW,eX,eY,eZ,fa,fb,fc,fg]
  exact .inr ⟨jO,f⟩
 ·rintro l i q h' n' J ⟨rfl,rfl,f⟩ next;have K:(i:Int)<(k:Int):=jO;have j:=f.get;unfold mC at j;obtain⟨b,o,e⟩:=ahP (Y:=Y) (d:=d+1) f jO;have z:=ig ((ar S D A).take i);rw[cT,ic jO]at z;have B:2^i<=2^31:=p9 jD jO;have u:=wO (a:=num ((ar S D A).take i) 0) jO;have t:=ahM (a:=num ((ar S D A).take i) 0) b jO;rw[<-od (k:=i) C]at o;have y:=take_one o;have s:IntKind.i64.wrap (((A+i:Nat):Int)+1)=((A+(i+1):Nat):Int):=by rw[aH jO jO];omega
  have r:((A+i:Nat):Int)+1=((A+(i+1):Nat):Int):=jO;rw[ux];try simp(disch:=first|omega|assumption) only[Nat.reduceAdd,Nat.reduceLT,RZ,eU,eV,eW,eX,eY,eZ,fa,fb,fc,fg,K,u,j]
  refine bq e (ah _) (fun _ _ h=>h.elim) ?_;try simp(disch:=first|omega|assumption) only[Nat.reduceAdd,Nat.reduceLT,RZ,eU,eV,eW,eX,eY,eZ,fa,fb,fc,fg,t,j,s,r,true_or,or_true]
  refine next (2*num ((ar S D A).take i) 0+bn b) _ _ ⟨rfl,by rw[y,zW],get_eq _ _ _,E,jO,jO,G⟩
end
end Go.Proofs.YtmjolmggelkjlaaGreat
namespace Go.Proofs.YtmjolmggelkjlaaGreat
open Hu
def wt(n k:Nat)(t:HT):List Nat:=t.leaves++List.range' t.uK (n+k-t.uK)
section
variable {N:Nat} {X R:Nat->List Nat} {A B:Nat->Nat}
end
section
variable {N:Nat} {w:Nat->Int} {I A B:Nat->Nat} {X R:Nat->List Nat}
end
section
variable {ws:List Int} {D:List Nat} {w:Nat->Int} {I A B:Nat->Nat} {X R:Nat->List Nat} {dep:Nat->Nat}
end
def kV(x:Int):Int:=2^(20-x).toNat
def dT(xs:List Int):Int:=DZ (xs.map kV)
end Go.Proofs.YtmjolmggelkjlaaGreat
namespace Go.Proofs.YtmjolmggelkjlaaGreat
open Go.RowKit Ev Hu
def part(L:List Int)(i:Nat):List Int:=L.take i++bU (L.length-i) 0
theorem Yc{x:Int}(b:0<=x)(h1:x<=20):1<=kV x∧kV x<=1048576:=by unfold kV;have h1:(2:Nat)^(20-x).toNat<=2^20:=p9 jO jO;have a:1<=(2:Nat)^(20-x).toNat:=Nat.one_le_two_pow;have e:((2:Int)^(20-x).toNat)=(((2:Nat)^(20-x).toNat:Nat):Int):=jS;rw[e];omega
theorem shB (Y d n:Nat) (h:H) (x0 x2 x3 o l i g b:Value) (T:Nat) (A:T<=20) {W:Nat->Prop} {n0:Nat} {R:Value->H->Nat->Prop} (k:(Value->Value->Value->Value->Value->Value->Value->M Value))
 (x:af W n0 (k x0 x2 x3 (jI (2^T)) l i g) h n R):
 ∀(m j a:Nat),T-j=m->m<a->j<=T->af W n0 (uD Y (aj aa gt Y d) a k x0 x2 x3 o (jI (2^j)) l i g b (jI (T:Nat)) (jI (j:Nat))) h n R:=by
 intro m
 induction m with
 |zero=>intro j a u e v;obtain⟨a,rfl⟩:∃f,a=f+1:=⟨a-1,jO⟩;obtain rfl:j=T:=jO;rw[uD];refine jA @eT ?_;exact x
 |succ m r=>
  intro j a u e v;obtain⟨a,rfl⟩:∃f,a=f+1:=⟨a-1,jO⟩;have y:((j:Nat):Int)<((T:Nat):Int):=jO;have q:((j:Nat):Int)+1=((j+1:Nat):Int):=jO;have t:(2:Nat)^(j+1)<=2^20:=p9 jO jO;have c:((2:Int)^(j+1))=(((2:Nat)^(j+1):Nat):Int):=jS
  have s:(0:Int)<=2^(j+1)∧(2:Int)^(j+1)<=1048576:=by rw[c];generalize (2:Nat)^(j+1)=z at t;omega
  have p:IntKind.i64.wrap (2*2^j)=2^(j+1):=by rw[show(2:Int)*2^j=2^(j+1) by rw[Int.pow_succ,Int.mul_comm]];generalize (2:Int)^(j+1)=z at s;exact aH jO jO
  rw[uD];refine jA (aI @y @p) ?_;rw[q];exact r (j+1) a jO jO jO
theorem shA(Y d n:Nat)(h:H)(v:Value)(xs:List Int)(D:Row h n 3 .i64 v xs)(J:xs.length<=1000000)(y:∀x∈xs,0<=x∧x<=20)(A:3000000<=Y)(x2:Value){W:Nat->Prop}{n0:Nat}:
 ∀(m i c:Nat) (a:Int),xs.length-i=m->m<c->i<=xs.length->0<=a->a<=i*1048576->
  af W n0 (r6 Y (aj aa gt Y d) c (Dy Y (aj aa gt Y d)) v x2 (jI a) v (jI (xs.length:Nat)) (jI (i:Nat))) h n (fun p h' n'=>p=jI (a+dT (xs.drop i))∧h'=h∧n'=n):=by
 intro m
 induction m with
 |zero=>
  intro i c a z g B l k;obtain⟨c,rfl⟩:∃f,c=f+1:=⟨c-1,jO⟩;obtain rfl:i=xs.length:=jO;rw[r6];refine jA @eT ?_
  (try unfold Dy);(try dsimp only)
  rw[qY];refine jB ?_;simp[dT,DZ]
 |succ m u=>
  intro i c a z g B l k;obtain⟨c,rfl⟩:∃f,c=f+1:=⟨c-1,jO⟩;obtain⟨b,t,cap,o,L,rfl,C,K,_,_,_,j⟩:=D.some jO;have G:((i:Nat):Int)<((xs.length:Nat):Int):=jO;have I:=j i jO;have s:((i:Nat):Int)+1=((i+1:Nat):Int):=jO;have e:=y (xs.getD i 0) (by rw[bz,bB jO];exact dO _);obtain⟨O,N⟩:=Yc e.1 e.2;have r:IntKind.i64.wrap (20-xs.getD i 0)=(((20-xs.getD i 0).toNat:Nat):Int):=by rw[aH jO jO];omega
  rw[r6,KK 0 (show i<xs.length by omega)];refine jA (aI @G (aI @C (aI @I @r))) ?_;have E:ii 1=jI (2^0):=rfl;rw[E];refine shB Y d n h _ _ _ _ _ _ _ _ (20-xs.getD i 0).toNat jO _ ?_ (20-xs.getD i 0).toNat 0 Y jO jO jO
  (try unfold agN);(try unfold Dx);(try dsimp only)
  have q:IntKind.i64.wrap (a+2^(20-xs.getD i 0).toNat)=a+kV (xs.getD i 0):=by show IntKind.i64.wrap (a+kV (xs.getD i 0))=_;exact aH jO jO
  refine jA @q ?_;rw[s];have:=u (i+1) c (a+kV (xs.getD i 0)) jO jO jO jO jO;refine this.mono ?_;rintro p h' n' _ ⟨rfl,rfl,rfl⟩;refine⟨?_,rfl,rfl⟩;simp only[dT,List.map_cons,DZ];congr 1;omega
theorem ahQ(Y d n:Nat)(h:H)(v:Value)(xs:List Int)(f:Row h n 3 .i64 v xs)(j:xs.length<=1000000)(i:∀x∈xs,0<=x∧x<=20)(b:3000000<=Y):
 af (fun _=>False) n (aj aa gt Y (d+1) 218 #[v]) h n fun g h' n'=>g=jI (dT xs)∧h'=h∧n'=n:=by
 rw[aB (fun _=>agQ) rfl];refine af.aA ?_;unfold JR;have e:=f;obtain⟨a,c,rfl⟩:=f.len;refine jB ?_;have:=shA Y d n h _ xs e j i b (jI 0) (W:=fun _=>False) (n0:=n) xs.length 0 Y 0 jO jO jO jO jO;simp only[jz,Int.zero_add]at this;exact this
end Go.Proofs.YtmjolmggelkjlaaGreat
namespace Go.Proofs.YtmjolmggelkjlaaGreat
open Hu
end Go.Proofs.YtmjolmggelkjlaaGreat
namespace Go.Proofs.YtmjolmggelkjlaaGreat
open Go.RowKit Ev Hu
theorem bJ(a b:Value):rf (.tuple #[a,b]) 0=some a:=rfl
theorem ext1(a b:Value):rf (.tuple #[a,b]) 1=some b:=rfl
end Go.Proofs.YtmjolmggelkjlaaGreat
namespace Go.Proofs.YtmjolmggelkjlaaGreat
open Go.RowKit Ev Cn
def iN(ln:List Nat):List Int:=ln.map fun(x:Nat)=>(x:Int)
theorem fi(ln:List Nat):(iN ln).length=ln.length:=by unfold iN;simp
theorem pG{ln:List Nat}{i:Nat}:(iN ln).getD i 0=(ln.getD i 0:Int):=by unfold iN;rw[bz,jd,bz];cases ln[i]? <;>rfl
theorem Yd(x:Nat)(ln:List Nat):∀m,iU (x::ln) m=iU ln m+(if x<m then 2^(20-x)else 0)
 |0=>by simp[iU]
 |m+1=>by
  show iU (x::ln) m+cn (x::ln) m*2^(20-m)=iU ln m+cn ln m*2^(20-m)+_;rw[Yd x ln m];have e:cn (x::ln) m=cn ln m+(if x=m then 1 else 0):=by unfold cn;rw[aa'];simp
  rw[e,oR];by_cases h:x=m
  ·subst h;rw[if_pos rfl,if_neg (aov x),if_pos (dI x)];omega
  ·rw[if_neg h];by_cases a:x<m
   ·rw[if_pos a,if_pos jO];omega
   ·rw[if_neg a,if_neg jO];omega
theorem Ye:∀{ln:List Nat},(∀x∈ln,x<=20)->dT (iN ln)=(iU ln 21:Int)
 |[],_=>by
  have:∀m,iU [] m=0:=by
   intro m
   induction m with
   |zero=>rfl
   |succ m a=>show iU [] m+cn [] m*_=0;rw[a];simp[cn]
  rw[this];rfl
 |x::ln,h=>by
  have a:=Ye (ln:=ln) fun y b=>h y (List.mem_cons_of_mem _ b);have c:=h x List.mem_cons_self;rw[Yd,if_pos (show x<21 by omega)];show kV (x:Int)+dT (iN ln)=_;rw[a];unfold kV;rw[show(20-(x:Int)).toNat=20-x by omega];have:((2:Int)^(20-x))=((2^(20-x):Nat):Int):=by push_cast;rfl
  rw[this];omega
theorem wP{ln:List Nat}(h:∀x∈ln,1<=x∧x<=20)(b:dT (iN ln)=1048576):Wh ln:=⟨h,by
 have:=Ye (ln:=ln) fun x a=>(h x a).2
 omega⟩
section
variable (Y d n:Nat) (h:H) (pE:3000000<=Y)
include pE
theorem ahR(v:Value)(xs:List Int)(y:Row h n 3 .i64 v xs)(Q:xs.length<=258)(x:kj 0 20 xs=true):
 af (fun _=>False) n (aj aa gt Y (d+5) 282 #[v]) h n fun D h' n'=>D= .tuple #[jI (dT xs),jI 0]:=by
 have l:=wK.1 x;rw[aB (fun _=>XD) rfl];refine af.aA ?_;unfold DV;have f:=y;obtain⟨a,c,rfl⟩:=y.len;have L:¬((258:Int)<((xs.length:Nat):Int)):=jO;refine jA @L ?_;refine D1 (ahr Y d n h _ xs f 0 20 jO pE) (ah _) fun z u k t=> ?_;rw[x];have r:=f.au k t;refine jA @eK ?_;refine dL xs.length (fun s i (q:Int)=>uH Y (aj aa gt Y (d+4)) s (DU Y (aj aa gt Y (d+4))) (.slice a xs.length c) (jI 0) (jI 0) (jI q) (.bool false) (.slice a xs.length c) (jI (xs.length:Nat)) (jI (i:Nat))) (fun i q h' n'=>(h'=z∧n'=u)∧0<=q∧q<=i*1048576∧q+dT (xs.drop i)=dT xs) ?_ ?_ Y 0 0 z u (aO _) jO ⟨⟨rfl,rfl⟩,jO,jO,by rw[jz];omega⟩
 ·rintro s q h' n' ⟨⟨rfl,rfl⟩,E,q1,q2⟩;rw[uH];refine jA @eT ?_
  (try unfold DU);(try dsimp only)
  refine jB ?_;rw[qY]at q2;have:dT []=0:=rfl;rw[<-q2,this,Int.add_zero]
 ·rintro s i q h' n' m ⟨⟨rfl,rfl⟩,E,q1,q2⟩ next;obtain⟨b,G,cap,o,U,I,J,R,_,_,_,p⟩:=r.some jO;cases I;have K:((i:Nat):Int)<((xs.length:Nat):Int):=jO;have N:=p i m;have e:=l (xs.getD i 0) (by rw[bz,bB m];exact dO _);obtain⟨P,O⟩:=Yc e.1 e.2;have C:IntKind.i64.wrap (20-xs.getD i 0)=(((20-xs.getD i 0).toNat:Nat):Int):=by rw[aH jO jO];omega
  have j:IntKind.i64.wrap (1*2^(min (((20-xs.getD i 0).toNat:Nat):Int).toNat IntKind.i64.bits))=kV (xs.getD i 0):=by rw[cV,ic (gV (show(20-xs.getD i 0).toNat<=20 by omega) jD),Int.one_mul];exact aH (by unfold kV at P;omega) (by unfold kV at O;omega)
  have g:IntKind.i64.wrap (1*2^(min (20-xs.getD i 0).toNat IntKind.i64.bits))=kV (xs.getD i 0):=by rw[cV]at j;exact j
  have B:IntKind.i64.wrap (q+kV (xs.getD i 0))=q+kV (xs.getD i 0):=aH jO jO;have A:(0:Int)<=(((20-xs.getD i 0).toNat:Nat):Int):=jO;have T:dT (xs.drop i)=kV (xs.getD i 0)+dT (xs.drop (i+1)):=by rw[KK 0 m];rfl
  rw[uH];refine jA (aI @K (aI @J (aI @N (aI @C (aI @A (aI @j (aI @g @B))))))) ?_;refine next _ _ _ ⟨⟨rfl,rfl⟩,jO,jO,jO⟩
theorem ahS(v:Value)(xs:List Int)(z:Int)(u:Row h n 3 .i64 v xs)(G:xs.length<=1000000):
 af (fun _=>False) n (aj aa gt Y (d+1) 286 #[v,jI z]) h n fun B h' n'=>(∃r:Int,B=jI r∧((r=-1∧∀x∈xs,x≠z)∨∃i,i<xs.length∧r=(i:Int)∧xs.getD i 0=z∧∀j,j<i->xs.getD j 0≠z))∧h'=h∧n'=n:=by
 rw[aB (fun _=>XK) rfl];refine af.aA ?_;unfold DW;have l:=u;obtain⟨a,c,rfl⟩:=u.len;refine jB ?_;refine dL xs.length (fun m i (_:Unit)=>uI Y (aj aa gt Y d) m (zT Y (aj aa gt Y d)) (.slice a xs.length c) (jI z) (jI 0) (jI (xs.length:Nat)) (jI (i:Nat))) (fun i _ h' n'=>(h'=h∧n'=n)∧∀j,j<i->xs.getD j 0≠z) ?_ ?_ Y 0 () h n (aO _) jO ⟨⟨rfl,rfl⟩,fun j f=>absurd f (lq j)⟩
 ·rintro m _ h' n' ⟨⟨rfl,rfl⟩,g⟩;rw[uI];refine jA @eT ?_
  (try unfold zT);(try dsimp only)
  refine jB ?_;refine⟨-1,rfl,.inl ⟨rfl,fun x D=> ?_⟩⟩;obtain⟨j,f,rfl⟩:=List.mem_iff_getElem.1 D;have:=g j f;rw[bz,bB f]at this;exact this
 ·rintro m i _ h' n' s ⟨⟨rfl,rfl⟩,g⟩ next;obtain⟨b,C,cap,o,J,E,t,I,_,_,_,k⟩:=l.some jO;cases E;have y:((i:Nat):Int)<((xs.length:Nat):Int):=jO;have A:=k i s;rw[uI];by_cases q:z=xs.getD i 0
  ·have p:(z==xs.getD i 0)=true:=by rw[<-q];simp
   refine jA (aI @y (aI @t (aI @A @p))) ?_
   (try unfold zT);(try dsimp only)
   refine jB ?_;exact⟨_,rfl,.inr ⟨i,s,rfl,q.symm,g⟩⟩
  ·have p:(z==xs.getD i 0)=false:=beq_eq_false_iff_ne.2 q;refine jA (aI @y (aI @t (aI @A @p))) ?_;refine next () _ _ ⟨⟨rfl,rfl⟩,fun j f=> ?_⟩;by_cases e:j=i
   ·subst e;exact fun r=>q r.symm
   ·exact g j jO
set_option maxRecDepth 8000 in
theorem Yf(v:Value)(xs:List Int)(m:Row h n 3 .i64 v xs)(B:xs.length<=258)(A:kj 1 20 xs=true):
 af (fun _=>False) n (aj aa gt Y (d+6) 277 #[v]) h n fun c h' n'=>c= .bool (decide (dT xs=1048576)):=by
 have a:=wK.1 A;rw[aB (fun _=>Xu) rfl];refine af.aA ?_;unfold KA;refine aN aF (ahR Y d n h pE v xs m B (wK.2 fun x s=>by have:=a x s;omega)) (ah _) (fun _ _ h=>h.elim) fun J o f j k u=> ?_;subst u;have l:((0:Int)==0)=true:=rfl;by_cases q:dT xs=1048576
 ·have e:(dT xs==1048576)=true:=by rw[q];exact beq_self_eq_true _
  rw[decide_eq_true q]
  have p:af (fun _=>False) f (aj aa gt Y (d+5) 283 #[v,jI 0]) o f fun c h' n'=>c= .bool false:=by
   rw[aB (fun _=>XE) rfl];refine af.aA ?_;unfold KE;refine aN aF (ahS Y (d+3) f o pE v xs 0 (m.au j fun b D=>k b D id) jO) (ah _) (fun _ _ h=>h.elim) fun I P L z G g=> ?_;obtain⟨⟨r,rfl,t⟩,_,_⟩:=g;rcases t with ⟨rfl,_⟩|⟨i,C,_,N,_⟩
   ·try simp(disch:=first|omega|assumption) only[Nat.reduceAdd,Nat.reduceLT,RZ,eU,eV,eW,eX,eY,eZ,fa,fb,fc,fg]
    all_goals (first|trivial|rfl|exact⟨rfl,rfl,rfl⟩|exact⟨rfl,rfl⟩)
   ·have:=a (xs.getD i 0) (by rw[bz,bB C];exact dO _);omega
  refine jA (aI @bJ (aI @ext1 (aI @l @e))) ?_;refine D1 p jO fun O K y E=> ?_;exact jC @cf
 ·have e:(dT xs==1048576)=false:=beq_eq_false_iff_ne.2 q;rw[decide_eq_false q];exact jC (aI @bJ (aI @ext1 (aI @l @e)))
end
def jT(f:Nat->Nat)(N:Nat):List Value:=(gL N).map fun j=>jI (f j:Int)
theorem kt(f:Nat->Nat)(N:Nat):(jT f N).length=N:=by unfold jT;simp
theorem Ef{f:Nat->Nat}{N j:Nat}(h:j<N):(jT f N)[j]? =some (jI (f j:Int)):=by unfold jT;rw[jd,List.getElem?_range h];rfl
def lX(f:Nat->Nat)(j v:Nat):Nat->Nat:=fun i=>if i=j then v else f i
theorem KW{f:Nat->Nat}{N j v:Nat}:(jT f N).set j (jI (v:Int))=jT (lX f j v) N:=by
 apply abb
 ·simp[kt]
 ·intro i b a;rw[aow];simp only[jT,abc,abd,lX];by_cases e:j=i
  ·subst e;simp
  ·rw[if_neg e,if_neg (fun q=>e q.symm)]
def dZ(lv cv ov:Value)(f g:Nat->Nat):List Value:=lv::cv::ov::(jT f 21++jT g 22)
theorem ahT{lv cv ov:Value}{f g:Nat->Nat}{j:Nat}(h:j<21):(dZ lv cv ov f g)[3+j]? =some (jI (f j:Int)):=by unfold dZ;rw[show 3+j=j+1+1+1 by omega,vm,vm,vm,sS (by rw[kt];exact h),Ef h]
theorem Yg{lv cv ov:Value}{f g:Nat->Nat}{j:Nat}(h:j<22):(dZ lv cv ov f g)[24+j]? =some (jI (g j:Int)):=by unfold dZ;rw[show 24+j=21+j+1+1+1 by omega,vm,vm,vm,qU (by rw[kt];omega),kt,show 21+j-21=j by omega,Ef h]
theorem ahU{lv cv ov:Value}{f g:Nat->Nat}{j v:Nat}(h:j<21):(dZ lv cv ov f g).set (3+j) (jI (v:Int))=dZ lv cv ov (lX f j v) g:=by unfold dZ;rw[show 3+j=j+1+1+1 by omega,vt,vt,vt,aox _ _ (by rw[kt];exact h),KW]
theorem Yh{lv cv ov:Value}{f g:Nat->Nat}{j v:Nat}:(dZ lv cv ov f g).set (24+j) (jI (v:Int))=dZ lv cv ov f (lX g j v):=by unfold dZ;rw[show 24+j=21+j+1+1+1 by omega,vt,vt,vt,MC _ _ (by rw[kt];omega),kt,show 21+j-21=j by omega,KW]
theorem KX(lv cv ov:Value)(f g:Nat->Nat):(dZ lv cv ov f g).length=46:=by unfold dZ;simp[kt]
def cF(f:Nat->Nat)(n:Nat):Nat->Nat:=fun j=>if j<=n then f j else 0
theorem KY(f:Nat->Nat)(n:Nat):lX (cF f n) (n+1) (f (n+1))=cF f (n+1):=by
 funext j;unfold lX cF;by_cases e:j=n+1
 ·subst e;simp
 ·rw[if_neg e];by_cases a:j<=n
  ·rw[if_pos a,if_pos jO]
  ·rw[if_neg a,if_neg jO]
theorem Yi{f:Nat->Nat}(h:f 0=0):cF f 0=fun _=>0:=by
 funext j;unfold cF;by_cases e:j<=0
 ·have:j=0:=jO;subst this;rw[if_pos e,h]
 ·rw[if_neg e]
def ji(ln:List Nat)(n s:Nat):List Int:=(gL ln.length).map fun t=>if ln.getD t 0<n∨(ln.getD t 0=n∧t<s)then(di ln t:Int)else 0
theorem Eg(ln:List Nat)(n s:Nat):(ji ln n s).length=ln.length:=by unfold ji;simp
theorem ahV(ln:List Nat)(n:Nat):ji ln n ln.length=ji ln (n+1) 0:=by
 unfold ji;apply oN;intro t a;have:=List.mem_range.1 a;by_cases e:ln.getD t 0<n∨(ln.getD t 0=n∧t<ln.length)
 ·rw[if_pos e,if_pos jO]
 ·rw[if_neg e,if_neg jO]
theorem ahW{ln:List Nat}{n s:Nat}(h:ln.getD s 0≠n):ji ln n (s+1)=ji ln n s:=by
 unfold ji;apply oN;intro t b;by_cases e:ln.getD t 0<n∨(ln.getD t 0=n∧t<s)
 ·rw[if_pos e,if_pos jO]
 ·rw[if_neg e,if_neg];rintro(q|⟨q1,q2⟩)
  ·exact e (.inl q)
  ·by_cases a:t=s
   ·subst a;exact h q1
   ·exact e (.inr ⟨q1,jO⟩)
theorem ahX{ln:List Nat}{n s:Nat}(a:s<ln.length)(h:ln.getD s 0=n):(ji ln n s).set s (di ln s:Int)=ji ln n (s+1):=by
 apply abb
 ·simp[Eg]
 ·intro t c b;rw[aow];simp only[ji,abc,abd];by_cases e:s=t
  ·subst e;rw[if_pos rfl,if_pos (.inr ⟨h,dI s⟩)]
  ·rw[if_neg e];by_cases q:ln.getD t 0<n∨(ln.getD t 0=n∧t<s)
   ·rw[if_pos q,if_pos jO]
   ·rw[if_neg q,if_neg jO]
theorem ahY{ln:List Nat}(w:Wh ln):ji ln 1 0=bU ln.length 0:=by
 apply abb
 ·simp[Eg]
 ·intro t a b;rw[Eg]at a;have:=w.at a;simp only[ji,abc,abd,List.getElem_replicate];rw[if_neg jO]
def wQ(ln:List Nat):List Int:=(gL ln.length).map fun t=>(di ln t:Int)
theorem ahZ{ln:List Nat}(w:Wh ln):ji ln 21 0=wQ ln:=by unfold ji wQ;apply oN;intro t a;have:=w.at (List.mem_range.1 a);rw[if_pos jO]
theorem Eh:∀(ln:List Nat) (m:Nat),bh ln m<=ln.length
 |[],m=>by
  have:∀m,bh [] m=0:=by
   intro m
   induction m with
   |zero=>rfl
   |succ m b=>show bh [] m+cn [] m=0;rw[b];simp[cn]
  rw[this];exact ah 0
 |x::ln,m=>by
  have a:∀m,bh (x::ln) m=bh ln m+(if x<m then 1 else 0):=by
   intro m
   induction m with
   |zero=>rfl
   |succ m b=>
    show bh (x::ln) m+cn (x::ln) m=bh ln m+cn ln m+_;have e:cn (x::ln) m=cn ln m+(if x=m then 1 else 0):=by unfold cn;rw[aa'];simp
    rw[b,e];by_cases h:x=m
    ·subst h;rw[if_neg (aov x),if_pos rfl,if_pos (dI x)];omega
    ·rw[if_neg h];by_cases c:x<m
     ·rw[if_pos c,if_pos jO];omega
     ·rw[if_neg c,if_neg jO];omega
  have:=Eh ln m;rw[a,cP];split<;>omega
theorem ah0(ln:List Nat):(gh ln 21).length<=ln.length:=by rw[lW];exact Eh ln 21
structure pH (h:H) (lo hi c:Nat) (ln:List Nat):Prop where
 ge:lo<=c
 lt:c<hi
 ex:∃lv cv ov,h.get c=some ⟨338,true,dZ lv cv ov (cF (bX ln) 20) (cF (bh ln) 21)⟩∧Row h hi 3 .i64 lv (iN ln)∧(∀b,aK lv b->lo<=b)∧Row h hi 31 .u32 cv (wQ ln)∧(∀b,aK cv b->lo<=b)∧Row h hi 3 .i64 ov (iN (gh ln 21))∧(∀b,aK ov b->lo<=b)
theorem pH.au{h h':H}{lo e c:Nat}{ln:List Nat}(x:pH h lo e c ln)(d:∀b,lo<=b->b<e->h'.get b=h.get b):pH h' lo e c ln:=by obtain⟨i,f,lv,cv,p,g,o,n,m,l,k,j⟩:=x;exact⟨i,f,lv,cv,p,(d c i f).trans g,o.kT (ah _) fun b a=>d b (n b a) (o.lt a),n,m.kT (ah _) fun b a=>d b (l b a) (m.lt a),l,k.kT (ah _) fun b a=>d b (j b a) (k.lt a),j⟩
theorem pI(a b:List Nat):iN (a++b)=iN a++iN b:=by unfold iN;rw[qa]
theorem mY(k:IntKind)(a b:List Int):aV k (a++b)=aV k a++aV k b:=by unfold aV;rw[qa]
theorem ah1(k:IntKind)(l:List Int)(i:Nat)(x:Int):(aV k l).set i (.int k x)=aV k (l.set i x):=by unfold aV;rw[List.map_set]
theorem ah2(e:Option Addr)(a c:Nat)(d:Option Addr)(n2 b:Nat):(if 0<HB.length then fN (HB.set 0 (.slice e a c)) [(1,1,.slice d n2 b)]else none)=some (dZ (.slice e a c) (.slice d n2 b) (.slice none 0 0) (fun _=>0) (fun _=>0)):=jK
section
variable (Y d n:Nat) (h:H) (pE:3000000<=Y)
include pE
theorem ah3(v:Value)(xs:List Int)(i:Row h n 3 .i64 v xs)(s:3<=xs.length)(m:xs.length<=258)(l:kj 1 20 xs=true)(j:dT xs≠1048576):
 af (fun _=>False) n (aj aa gt Y (d+7) 267 #[v]) h n fun g h' n'=>g= .tuple #[.pointer none,jI 22]:=by
 rw[aB (fun _=>Kt) rfl];refine af.aA ?_;unfold zQ;have f:=i;obtain⟨a,c,rfl⟩:=i.len;have q:¬(((xs.length:Nat):Int)<3):=jO;have p:¬((258:Int)<((xs.length:Nat):Int)):=jO;refine jA (aI @q @p) ?_;refine D1 (b:=false) ((Yf Y d n h pE _ xs f m l).mono fun g _ _ _ e=>by rw[e,decide_eq_false j]) (ah _) fun t r k o=> ?_;exact jC @cf
set_option maxHeartbeats 2000000 in
theorem ah4(v:Value)(ln:List Nat)(hR:Row h n 3 .i64 v (iN ln))(h3:3<=ln.length)(hl:ln.length<=258)(w:Wh ln)(hs:dT (iN ln)=1048576):
 af (fun _=>False) n (aj aa gt Y (d+7) 267 #[v]) h n fun v' h' n'=>∃c,v'= .tuple #[jP c 0,jI 0]∧pH h' n n' c ln:=by
 have W:=fi ln;rw[aB (fun _=>Kt) rfl];refine af.aA ?_;unfold zQ;have v4:=hR;obtain⟨a,c,rfl⟩:=hR.len;have e1:¬((((iN ln).length:Nat):Int)<3):=jO;have e2:¬((258:Int)<(((iN ln).length:Nat):Int)):=jO
 have hm:kj 1 20 (iN ln)=true:=wK.2 fun x hx=>by unfold iN at hx;obtain⟨y,hy,rfl⟩:=List.mem_map.1 hx;have:=w.lo y hy;omega
 refine jA (aI @e1 @e2) ?_;refine D1 (b:=true) ((Yf Y d n h pE _ _ v4 jO hm).mono fun v' _ _ _ e=>by rw[e,decide_eq_true hs]) (ah _) fun h1 n1 u5 x6=> ?_;have v3:=v4.au u5 x6;refine jA @eK ?_;refine lV aF (D0 Y (d+5) n1 h1 _ _ v3 jO jO) u5 fun v2 h2 k T1 w9 x5 w7 t1=> ?_;obtain⟨_,v1,u9⟩:=w7;have L:=v1;obtain⟨t,r,rfl⟩:=v1.len;rw[W]at L u9⊢;refine jB ?_;refine ahD ln.length _ jO ?_;have t2:RB ⟨k,k+1,[]⟩ n1:=⟨fun e he=>(nomatch he),fun e he=>(nomatch he),w9⟩;dsimp only;rw[ah2,tG];refine Px trivial _ _ ?_;try simp(disch:=first|omega|assumption) only[Nat.reduceAdd,Nat.reduceLT,RZ,t1.cy t2,cf,dJ,dG]
 obtain⟨hb,R⟩:∃hb,(h2.set k (some ⟨31,true,bU ln.length (.int .u32 0)⟩)).set (k+1) (some ⟨338,true,dZ (.slice t ln.length r) (.slice (some ⟨k,0,none⟩) ln.length ln.length) (.slice none 0 0) (fun _=>0) (fun _=>0)⟩)=hb:=⟨_,rfl⟩
 have gc:hb.get (k+1)=some ⟨338,true,dZ (.slice t ln.length r) (.slice (some ⟨k,0,none⟩) ln.length ln.length) (.slice none 0 0) (cF (bX ln) 0) (cF (bh ln) 0)⟩:=by rw[Yi (f:=bX ln) rfl,Yi (f:=bh ln) rfl,<-R,get_eq]
 have gv:hb.get k=some ⟨31,true,aV .u32 (ji ln 1 0)⟩:=by rw[<-R,aw _ _ jO,get_eq,ahY w];unfold aV;rw[List.map_replicate]
 have kb:∀b,b<k->hb.get b=h2.get b:=fun b l=>by rw[<-R,aw _ _ jO,aw _ _ jO]
 rw[R]
 have u1:gh ln 1=[]:=by apply MK;rw[lW,ahK w]
 have KZ:gG ln 0 ln.length=0:=by unfold gG;rw[uO,zZ w];rfl
 have x3:∀{h':H} {n':Nat},k<=n'->(∀b,b<k->h'.get b=h2.get b)->Row h' n' 3 .i64 (.slice a ln.length c) (iN ln):=fun{h'} {n'} u6 I=>by have:=v3.au (show n1<=n' by omega) fun b l=>(I b jO).trans (x5 b l);rw[W]at this;exact this
 refine dL 20 (fun fu i (q:Nat)=>se Y (aj aa gt Y (d+6)) fu (zP Y (aj aa gt Y (d+6))) (.slice a ln.length c) (.pointer none) (jI 0) (jP (k+1) 0) (jI (q:Int)) (jI ((i+1:Nat):Int)) (.bool false) (.bool false))
  (fun i q h' n'=>k+2<=n'∧(∀b,b<k->h'.get b=h2.get b)∧q=gG ln i ln.length∧h'.get k=some ⟨31,true,aV .u32 (ji ln (i+1) 0)⟩∧∃ov,h'.get (k+1)=some ⟨338,true,dZ (.slice t ln.length r) (.slice (some ⟨k,0,none⟩) ln.length ln.length) ov (cF (bX ln) i) (cF (bh ln) i)⟩∧Own h' (k+2) n' 3 ov (aV .i64 (iN (gh ln (i+1))))) ?_ ?_ Y 0 0 _ _ (aO _) jO ⟨ah _,kb,KZ.symm,gv,_,gc,by rw[u1];exact Own.nil _ _ _ _⟩
 ·rintro fu q h' n' ⟨u6,I,rfl,u0,ov,J,P⟩;have e3:¬(((20+1:Nat):Int)<=20):=jO;have c2:(dZ (.slice t ln.length r) (.slice (some ⟨k,0,none⟩) ln.length ln.length) ov (cF (bX ln) 20) (cF (bh ln) 20))[2]? =some ov:=rfl;have N:=P.row;obtain⟨ao,co,u⟩:=N.len;have C:(iN (gh ln 21)).length=bh ln 21:=by rw[fi,lW]
  rw[C]at u;have cg:=Yh (lv:= .slice t ln.length r) (cv:= .slice (some ⟨k,0,none⟩) ln.length ln.length) (ov:=ov) (f:=cF (bX ln) 20) (g:=cF (bh ln) 20) (j:=21) (v:=bh ln 21);rw[KY]at cg;have w2:k+1<n':=jO;have u2:24+21<(dZ (.slice t ln.length r) (.slice (some ⟨k,0,none⟩) ln.length ln.length) ov (cF (bX ln) 20) (cF (bh ln) 20)).length:=by rw[KX];omega
  rw[se];refine jA @e3 ?_
  (try unfold zP);(try dsimp only)
  rw[u]at J c2 cg u2 N;have x7:((21:Int)).toNat=21:=rfl;try simp(disch:=first|omega|assumption) only[Nat.reduceAdd,Nat.reduceLT,RZ,eU,eV,eW,eX,eY,eZ,fa,fb,fc,fg,J,c2,x7]
  refine⟨by simpa using u2,.inl jO, ?_⟩
  have fin:∀h9,h9.get (k+1)=some ⟨338,true,dZ (.slice t ln.length r) (.slice (some ⟨k,0,none⟩) ln.length ln.length) (.slice ao (bh ln 21) co) (cF (bX ln) 20) (cF (bh ln) 21)⟩->(∀b,b≠k+1->h9.get b=h'.get b)->pH h9 n n' (k+1) ln:=by
   intro h9 x1 X
   have oe:∀b,aK (.slice ao (bh ln 21) co) b->b≠k+1:=fun b l e=>by rw[u]at P;have:=(P.lt l).1;omega
   refine⟨jO,jO,_,_,_,x1, ?_,fun b l=>by have:=u9 b l;omega, ?_,fun b l=>by rw[l.inj];omega,N.kT (ah _) fun b l=>X b (oe b l),fun b l=>by rw[u]at P;have:=(P.lt l).1;omega⟩
   ·exact L.kT jO fun b l=>by have:=L.lt l;rw[X b jO,I b this]
   ·have e:h9.get k=some ⟨31,true,aV .u32 (wQ ln)⟩:=by rw[X k jO,u0,ahZ w]
    have y1:(wQ ln).length=ln.length:=by unfold wQ;simp
    exact .inr ⟨k,0,ln.length,true,_,by rw[y1],e,jO,by rw[eu];omega,by rw[jz,List.take_of_length_le (by rw[eu];omega)],jO⟩
  refine⟨k+1,rfl,fin _ (by rw[get_eq];congr 2) fun b l=>aw _ _ l⟩
 ·rintro fu i q h' n' hi ⟨u6,I,rfl,u0,ov,J,P⟩ next;have e3:(((i+1:Nat):Int)<=20):=jO;have c2:∀f g,(dZ (.slice t ln.length r) (.slice (some ⟨k,0,none⟩) ln.length ln.length) ov f g)[2]? =some ov:=fun _ _=>rfl;have y3:=w.cap (n:=i+1) jO;have y4:2^(i+1)<=2^20:=p9 jD jO;have fe:bX ln (i+1)=2*gG ln i ln.length:=by unfold gG;rw[uO];rfl
  have w1:IntKind.i64.wrap (((gG ln i ln.length:Nat):Int)*2)=((bX ln (i+1):Nat):Int):=by rw[aH jO jO];omega
  have N:=P.row;obtain⟨ao,co,u⟩:=N.len;have C:(iN (gh ln (i+1))).length=bh ln (i+1):=by rw[fi,lW]
  rw[C]at u;have sf:=ahU (lv:= .slice t ln.length r) (cv:= .slice (some ⟨k,0,none⟩) ln.length ln.length) (ov:=ov) (f:=cF (bX ln) i) (g:=cF (bh ln) i) (j:=i+1) (v:=bX ln (i+1)) jO;rw[KY]at sf;have sg:=Yh (lv:= .slice t ln.length r) (cv:= .slice (some ⟨k,0,none⟩) ln.length ln.length) (ov:=ov) (f:=cF (bX ln) (i+1)) (g:=cF (bh ln) i) (j:=i+1) (v:=bh ln (i+1));rw[KY]at sg;have w2:k+1<n':=jO;have i1:((i+1:Nat):Int)<21:=jO;have i2:((i+1:Nat):Int)<22:=jO;have i0:(0:Int)<=((i+1:Nat):Int):=jO;have it:((i+1:Nat):Int).toNat=i+1:=rfl;have lc:∀f g,(dZ (.slice t ln.length r) (.slice (some ⟨k,0,none⟩) ln.length ln.length) ov f g).length=46:=fun f g=>KX _ _ _ _ _;rw[se];rw[u]at J c2 sf sg lc;refine jA (aI @e3 (aI @w1 (aI @i0 (aI @i1 (aI @i2 (aI @it (aI @J (aI @sf (aI @lc (aI @true_or @or_true)))))))))) ?_;refine⟨jO,.inl jO, ?_⟩;refine jA (aI @get_eq (aI @c2 (aI @sg @lc))) ?_;refine⟨jO,.inl jO, ?_⟩;obtain⟨hA,Z⟩:∃hA,((h'.set (k+1) (some ⟨338,true,dZ (.slice t ln.length r) (.slice (some ⟨k,0,none⟩) ln.length ln.length) (.slice ao (bh ln (i+1)) co) (cF (bX ln) (i+1)) (cF (bh ln) i)⟩)).set (k+1) (some ⟨338,true,dZ (.slice t ln.length r) (.slice (some ⟨k,0,none⟩) ln.length ln.length) (.slice ao (bh ln (i+1)) co) (cF (bX ln) (i+1)) (cF (bh ln) (i+1))⟩))=hA:=⟨_,rfl⟩;have gA:hA.get (k+1)=some ⟨338,true,dZ (.slice t ln.length r) (.slice (some ⟨k,0,none⟩) ln.length ln.length) (.slice ao (bh ln (i+1)) co) (cF (bX ln) (i+1)) (cF (bh ln) (i+1))⟩:=by rw[<-Z,get_eq]
  have kA:∀b,b≠k+1->hA.get b=h'.get b:=fun b l=>by rw[<-Z,aw _ _ l,aw _ _ l]
  rw[Z];have w0:gG ln (i+1) 0=bX ln (i+1):=by unfold gG;simp[fh,cn]
  rw[u]at P
  refine dL ln.length (fun f2 s (q:Nat)=>sd Y (aj aa gt Y (d+6)) f2 (Xa Y (aj aa gt Y (d+6)) fu (zP Y (aj aa gt Y (d+6)))) (.slice a ln.length c) (.pointer none) (jI 0) (jP (k+1) 0) (jI (q:Int)) (jI ((i+1:Nat):Int)) (.bool false) (.bool false) (.bool true) (.slice a ln.length c) (jI (ln.length:Int)) (jI (s:Int)))
   (fun s q Q B=>n'<=B∧(∀b,b<k->Q.get b=h2.get b)∧q=gG ln (i+1) s∧Q.get k=some ⟨31,true,aV .u32 (ji ln (i+1) s)⟩∧∃ov,Q.get (k+1)=some ⟨338,true,dZ (.slice t ln.length r) (.slice (some ⟨k,0,none⟩) ln.length ln.length) ov (cF (bX ln) (i+1)) (cF (bh ln) (i+1))⟩∧Own Q (k+2) B 3 ov (aV .i64 (iN (gh ln (i+1)++fQ ln (i+1) s)))) ?_ ?_ Y 0 (bX ln (i+1)) _ _ (aO _) jO ⟨ah _,fun b l=>by rw[kA b jO];exact I b l,w0.symm,by rw[kA k jO];exact u0,_,gA, ?_⟩
  rotate_left 2
  ·have:fQ ln (i+1) 0=[]:=rfl;rw[this,bV];exact P.au (ah _) fun b l=>kA b fun e=>by have:=(P.lt l).1;omega
  ·rintro f2 q Q B ⟨u4,G,rfl,A,p,z,O⟩;have w3:IntKind.i64.wrap (((i+1:Nat):Int)+1)=((i+1+1:Nat):Int):=by rw[aH jO jO];rfl
   have v7:((i+1:Nat):Int)+1=((i+1+1:Nat):Int):=rfl;rw[sd];refine jA @eT ?_
   (try unfold Xa);(try unfold DN);(try dsimp only)
   refine jA (aI @w3 @v7) ?_;refine next (gG ln (i+1) ln.length) Q B ⟨jO,G,rfl, ?_,p,z,O⟩;rw[<-ahV];exact A
  ·rintro f2 s q Q B E ⟨u4,G,rfl,A,p,z,O⟩ D;obtain⟨b,v9,cap,o,ks,hv,u7,y7,_,_,_,x2⟩:=(x3 (show k<=B by omega) G).some jO;have u3:j3 a ln.length c= .slice (some ⟨b,v9,none⟩) (iN ln).length cap:=hv;rw[W]at u3;cases u3;have e5:((s:Nat):Int)<((ln.length:Nat):Int):=jO;have c5:=x2 s jO;rw[pG]at c5;have y6:k+1<B:=jO;have y2:k<B:=jO;rw[sd];by_cases m:ln.getD s 0=i+1
   ·have U:(((ln.getD s 0:Nat):Int)==((i+1:Nat):Int))=true:=by rw[m];simp
    have K:gG ln (i+1) s=di ln s:=Eb m;have v0:=w.KU E;rw[m]at v0;have w4:IntKind.u32.wrap ((di ln s:Nat):Int)=((di ln s:Nat):Int):=fU jO;have y0:(dZ (.slice t ln.length r) (.slice (some ⟨k,0,none⟩) ln.length ln.length) p (cF (bX ln) (i+1)) (cF (bh ln) (i+1)))[1]? =some (.slice (some ⟨k,0,none⟩) ln.length ln.length):=rfl;have x9:(dZ (.slice t ln.length r) (.slice (some ⟨k,0,none⟩) ln.length ln.length) p (cF (bX ln) (i+1)) (cF (bh ln) (i+1)))[2]? =some p:=rfl;have x8:∀x,(dZ (.slice t ln.length r) (.slice (some ⟨k,0,none⟩) ln.length ln.length) p (cF (bX ln) (i+1)) (cF (bh ln) (i+1))).set 2 x=dZ (.slice t ln.length r) (.slice (some ⟨k,0,none⟩) ln.length ln.length) x (cF (bX ln) (i+1)) (cF (bh ln) (i+1)):=fun _=>rfl;have w5:IntKind.i64.wrap (((di ln s:Nat):Int)+1)=((di ln s+1:Nat):Int):=by rw[aH jO jO];rfl
    have v6:((di ln s:Nat):Int)+1=((di ln s+1:Nat):Int):=rfl;have w6:((s:Nat):Int)+1=((s+1:Nat):Int):=rfl;have ch:=ahX E m;rw[K];refine jA (aI @e5 (aI @u7 (aI @c5 (aI @U (aI @z (aI @y0 (aI @w4 (aI @A (aI @ah1 (aI @ch (aI @eu @Eg))))))))))) ?_;refine⟨E,.inl jO, ?_⟩;have v5:(Q.set k (some ⟨31,true,aV .u32 (ji ln (i+1) (s+1))⟩)).get (k+1)=some ⟨338,true,dZ (.slice t ln.length r) (.slice (some ⟨k,0,none⟩) ln.length ln.length) p (cF (bX ln) (i+1)) (cF (bh ln) (i+1))⟩:=by rw[aw _ _ jO];exact z
    refine jA (aI @v5 @x9) ?_;have T:Own (Q.set k (some ⟨31,true,aV .u32 (ji ln (i+1) (s+1))⟩)) (k+2) B 3 p (aV .i64 (iN (gh ln (i+1)++fQ ln (i+1) s))):=O.au (ah _) fun b l=>aw _ _ (by have:=(O.lt l).1;omega)
    have v8:(aV .i64 (iN (gh ln (i+1)++fQ ln (i+1) s))).length<=1000:=by
     rw[eu,fi,bG,lW,wM _ jO];have h1:=X7 (ln:=ln) (show i+1<=21 by omega)
     have z0:bh ln 21<=ln.length:=by have:=lW ln 21;rw[<-this];exact ah0 ln
     have y9:=KR ln (i+1) s;have y8:cn ln (i+1)<=ln.length:=List.countP_le_length;omega
    refine rL trivial (ke _ _) T jO jO _ fun h7 g7 k7=> ?_;have x4:h7.get (k+1)=some ⟨338,true,dZ (.slice t ln.length r) (.slice (some ⟨k,0,none⟩) ln.length ln.length) p (cF (bX ln) (i+1)) (cF (bh ln) (i+1))⟩:=by rw[k7 (k+1) jO fun q=>by have:=(T.lt q).1;omega];exact v5
    have y5:k+1<B+2:=jO;refine jA (aI @x4 (aI @x8 @KX)) ?_;refine⟨.inl jO, ?_⟩;rw[v6,w6];have sn:fQ ln (i+1) (s+1)=fQ ln (i+1) s++[s]:=by rw[zY,if_pos m]
    have on:aV .i64 (iN (gh ln (i+1)++fQ ln (i+1) (s+1)))=aV .i64 (iN (gh ln (i+1)++fQ ln (i+1) s))++[jI (s:Int)]:=by rw[sn,<-List.append_assoc,pI,mY];rfl
    refine D (di ln s+1) _ _ ⟨jO,fun b l=> ?_,by rw[Ea E,if_pos m,K], ?_,_,get_eq _ _ _, ?_⟩
    ·rw[aw _ _ jO,k7 b jO (fun q=>by have:=(T.lt q).1;omega),aw _ _ jO];exact G b l
    ·rw[aw _ _ jO,k7 k jO (fun q=>by have:=(T.lt q).1;omega),get_eq]
    ·rw[on];refine Or.inr ⟨B+1,jS,by rw[aw _ _ jO];exact g7,jO,jO⟩
   ·have U:(((ln.getD s 0:Nat):Int)==((i+1:Nat):Int))=false:=beq_eq_false_iff_ne.2 fun e=>m jO;have w6:((s:Nat):Int)+1=((s+1:Nat):Int):=rfl;have sn:fQ ln (i+1) (s+1)=fQ ln (i+1) s:=by rw[zY,if_neg m,bV]
    refine jA (aI @e5 (aI @u7 (aI @c5 @U))) ?_;refine D (gG ln (i+1) s) Q B ⟨u4,G,by rw[Ea E,if_neg m];rfl,by rw[ahW m];exact A,p,z,by rw[sn];exact O⟩
end
theorem K0{f:Nat->Nat}{n j:Nat}(h:j<=n):cF f n j=f j:=by unfold cF;rw[if_pos h]
section
variable {Y d n p c lo hi:Nat} {h:H} {S:List UInt8} {D A:Nat} {ln:List Nat}
theorem ah5(x:aY h n p S D A)(k:pH h lo hi c ln)(w:Wh ln)(hh:hi<=n)(hp:p<lo)(hl:ln.length<=258)(u7:100<=Y):af (fun b=>b=p) n (aj aa gt Y (d+4) 273 #[jP c 0,jP p 0]) h n fun v h' n'=>n'=n∧
 ((fI ln (ar S D A)=none∧v= .tuple #[jI 0,jI 3]∧∃B,aY h' n p S D B)∨∃s,fI ln (ar S D A)=some s∧v= .tuple #[jI (s:Int),jI 0]∧aY h' n p S D (A+ln.getD s 0)):=by
 have x0:=x;have k0:=k;obtain⟨Gv,u5,lv,cv,j,g,a1,a2,b1,b2,o1,o2⟩:=k;rw[aB (fun _=>Xo) rfl];refine af.aA ?_;unfold DQ;obtain⟨bs,G⟩:∃bs,ar S D A=bs:=⟨_,rfl⟩;have L:=x.len;have P:=x.lo;rw[G]at L⊢;have cp:c≠p:=jO
 refine dL 20 (fun fu i (q:Nat)=>wI Y (aj aa gt Y (d+3)) fu (zR Y (aj aa gt Y (d+3))) (jP c 0) (jP p 0) (jI 0) (jI 0) (jI (q:Int)) (jI ((i+1:Nat):Int)))
  (fun i q h' n'=>n'=n∧(∀b,b≠p->b<n->h'.get b=h.get b)∧i<=bs.length∧q=num (bs.take i) 0∧aY h' n p S D (A+i)∧lH ln bs i) ?_ ?_ Y 0 0 _ _ (aO _) jO ⟨rfl,fun _ _ _=>rfl,aO _,rfl,x,by unfold lH;rw[zZ w];exact aO _⟩
 ·rintro fu q h' n' ⟨rfl,O,hb,rfl,Q,a⟩;have K:=w.full;have h2:=ig (bs.take 20);unfold lH at a;rw[K]at a;rw[cT,ic hb]at h2;omega
 ·rintro fu i q h' n' u9 ⟨rfl,O,hb,rfl,Q,a⟩ next;have e1:((i+1:Nat):Int)<=20:=jO;have v3:((1:Nat):Int)=1:=rfl;have f:ar S D (A+i)=bs.drop i:=by rw[<-od P,G]
  rw[wI];refine jA @e1 ?_;refine aN aF (lJ (Y:=Y) (d:=d) Q 1 jO jO) (ah _) (fun b _ e=> .inr e) fun v1 K T u6 r N=> ?_;obtain⟨rfl,N⟩:=N;rw[f]at N;rcases N with ⟨sh,rfl,rfl⟩|⟨lg,rfl,x1⟩
  ·have z1:((3:Int) !=0)=true:=rfl;refine jA (aI @bJ (aI @ext1 @z1)) ?_
   (try unfold zR);(try dsimp only)
   refine jB ?_;have bl:bs.length=i:=by simp at sh;omega
   refine .inl ⟨X5 fun s m=> ?_,_,Q⟩;have:=a.no jO (i:=s) (by have:=m.2.1;omega);exact this m
  ·have l:i<bs.length:=by simp at lg;omega
   have z0:((0:Int) !=0)=false:=rfl;have t1:(bs.drop i).take 1=[bs[i]]:=by rw[qX l,an2,FF]
   have tk:bs.take (i+1)=bs.take i++[bs[i]]:=nv l;have nb:num [bs[i]] 0=bn bs[i]:=by show 2*0+bn bs[i]=_;omega
   have nn:num (bs.take (i+1)) 0=2*num (bs.take i) 0+bn bs[i]:=by rw[tk,zW]
   have bl:=sj bs[i];have pw:=ig (bs.take (i+1));rw[cT,ic jO]at pw;have u3:2^(i+1)<=2^20:=p9 jD jO;have u0:=a.next l;have v2:bh ln (i+1)<=258:=gV (Eh ln _) hl;have u1:bh ln (i+1+1)<=258:=gV (Eh ln _) hl;have u2:=w.cap (n:=i+1) jO;rw[t1,nb];have E:K.get c=some ⟨338,true,dZ lv cv j (cF (bX ln) 20) (cF (bh ln) 21)⟩:=by rw[r c jO cp,O c cp jO];exact g
   have c1:(dZ lv cv j (cF (bX ln) 20) (cF (bh ln) 21))[3+(i+1)]? =some (jI (bX ln (i+1):Int)):=by rw[ahT jO,K0 jO]
   have c2:(dZ lv cv j (cF (bX ln) 20) (cF (bh ln) 21))[24+(i+1)]? =some (jI (bh ln (i+1):Int)):=by rw[Yg jO,K0 jO]
   have c3:(dZ lv cv j (cF (bX ln) 20) (cF (bh ln) 21))[24+(i+1+1)]? =some (jI (bh ln (i+1+1):Int)):=by rw[Yg jO,K0 jO]
   have c4:(dZ lv cv j (cF (bX ln) 20) (cF (bh ln) 21))[2]? =some j:=rfl;have w1:IntKind.i64.wrap (2*((num (bs.take i) 0:Nat):Int))=((2*num (bs.take i) 0:Nat):Int):=by rw[aH jO jO];omega
   have w2:IntKind.i64.wrap ((bn bs[i]:Nat):Int)=((bn bs[i]:Nat):Int):=aH jO jO;have w3:IntKind.i64.wrap (((2*num (bs.take i) 0:Nat):Int)+((bn bs[i]:Nat):Int))=((num (bs.take (i+1)) 0:Nat):Int):=by rw[aH jO jO];omega
   have w4:IntKind.i64.wrap (((bh ln (i+1):Nat):Int)+((num (bs.take (i+1)) 0:Nat):Int))=((bh ln (i+1)+num (bs.take (i+1)) 0:Nat):Int):=by rw[aH jO jO];omega
   have w5:IntKind.i64.wrap (((bh ln (i+1)+num (bs.take (i+1)) 0:Nat):Int)-((bX ln (i+1):Nat):Int))=((bh ln (i+1)+(num (bs.take (i+1)) 0-bX ln (i+1)):Nat):Int):=by rw[aH jO jO];omega
   have w6:IntKind.i64.wrap (((i+1:Nat):Int)+1)=((i+1+1:Nat):Int):=by rw[aH jO jO];rfl
   have u:((i+1:Nat):Int)+1=((i+1+1:Nat):Int):=rfl;have i0:(0:Int)<=((i+1:Nat):Int):=jO;have i1:((i+1:Nat):Int)<21:=jO;have i2:((i+1:Nat):Int)<22:=jO;have i3:(0:Int)<=((i+1+1:Nat):Int):=jO;have i4:((i+1+1:Nat):Int)<22:=jO;have it:((i+1:Nat):Int).toNat=i+1:=rfl;have y:((i+1+1:Nat):Int).toNat=i+1+1:=rfl;have v4:c<T:=jO;have fs:bh ln (i+1+1)=bh ln (i+1)+cn ln (i+1):=rfl;by_cases t:num (bs.take (i+1)) 0<bX ln (i+1)+cn ln (i+1)
   ·have e5:((bh ln (i+1)+(num (bs.take (i+1)) 0-bX ln (i+1)):Nat):Int)<((bh ln (i+1+1):Nat):Int):=jO;obtain⟨s,hs⟩:=nZ (ln:=ln) (bs:=bs) (n:=i+1) jO u0 t;rcases hs with ⟨z,W⟩|hs
    rotate_left
    ·omega
    obtain⟨mt,U⟩:=W jO
    have R:Row K T 3 .i64 j (iN (gh ln 21)):=(o1.kT (n':=T) hh fun b e=>by
     have K:=o1.lt e;have h2:=o2 b e
     rw[r b jO jO];exact O b jO jO)
    have ol:(iN (gh ln 21)).length=bh ln 21:=by rw[fi,lW]
    have rl:bh ln (i+1)+(num (bs.take (i+1)) 0-bX ln (i+1))<bh ln 21:=by have:=(List.getElem?_eq_some_iff.1 z).1;rw[lW]at this;exact this
    obtain⟨b,u4,cap,o,ks,C,X,v0,_,_,_,Z⟩:=R.some jO;have co:=Z _ (by rw[ol];exact rl)
    have cs:(iN (gh ln 21)).getD (bh ln (i+1)+(num (bs.take (i+1)) 0-bX ln (i+1))) 0=(s:Int):=by rw[pG,bz,z];rfl
    rw[cs]at co;rw[ol]at C;subst C;have e6:(0:Int)<=((bh ln (i+1)+(num (bs.take (i+1)) 0-bX ln (i+1)):Nat):Int):=jO;have e7:((bh ln (i+1)+(num (bs.take (i+1)) 0-bX ln (i+1)):Nat):Int)<((bh ln 21:Nat):Int):=jO;refine jA (aI @bJ (aI @ext1 (aI @z0 (aI @w1 (aI @w2 (aI @w3 (aI @E (aI @i0 (aI @i1 (aI @i2 (aI @i3 (aI @i4 (aI @it (aI @y (aI @c1 (aI @c2 (aI @c3 (aI @c4 (aI @w4 (aI @w5 (aI @w6 (aI @u (aI @e5 (aI @e6 (aI @e7 (aI @X @co)))))))))))))))))))))))))) ?_
    (try unfold zR);(try dsimp only)
    refine jB ?_;refine .inr ⟨s,D9 mt,rfl, ?_⟩;rw[U];exact x1
   ·have e5:¬((bh ln (i+1)+(num (bs.take (i+1)) 0-bX ln (i+1)):Nat):Int)<((bh ln (i+1+1):Nat):Int):=jO;refine jA (aI @bJ (aI @ext1 (aI @z0 (aI @w1 (aI @w2 (aI @w3 (aI @E (aI @i0 (aI @i1 (aI @i2 (aI @i3 (aI @i4 (aI @it (aI @y (aI @c1 (aI @c2 (aI @c3 (aI @w4 (aI @w5 (aI @w6 (aI @u @e5))))))))))))))))))))) ?_;refine next _ _ _ ⟨rfl,fun b J I=>by rw[r b I J];exact O b J I,jO,rfl,x1, ?_⟩;unfold lH;omega
theorem ah6(x:aY h n p S D A)(k:pH h lo hi c ln)(w:Wh ln)(hh:hi<=n)(o:p<lo)(t:ln.length<=258)(i:100<=Y):af (fun b=>b=p) n (aj aa gt Y (d+5) 263 #[jP c 0,jP p 0]) h n fun v h' n'=>n'=n∧
 ((fI ln (ar S D A)=none∧v= .tuple #[jI 0,jI 3]∧aY h' n p S D A)∨∃s,fI ln (ar S D A)=some s∧v= .tuple #[jI (s:Int),jI 0]∧aY h' n p S D (A+ln.getD s 0)):=by
 rw[aB (fun _=>W5) rfl];refine af.aA ?_;unfold Kp;refine jB ?_;refine bq (Ec x) (ah _) (fun _ _ h=>h.elim) ?_;refine aN aF (ah5 (d:=d) x k w hh o t i) (ah _) (fun b _ a=> .inr a) fun C J G r y g=> ?_;obtain⟨rfl,g⟩:=g;rcases g with ⟨q1,rfl,B,e⟩|⟨s,q1,rfl,e⟩
 ·have j:((3:Int) !=0)=true:=rfl;refine jA (aI @bJ (aI @ext1 @j)) ?_;refine aN aF (Ee (Y:=Y) (d:=d+2) e A x.lo x.hi) (ah _) (fun b _ a=> .inr a) fun z I E q u f=> ?_;obtain⟨_,rfl,m⟩:=f;refine jB ?_;exact .inl ⟨q1,m⟩
 ·have l:((0:Int) !=0)=false:=rfl;refine jA (aI @bJ (aI @ext1 @l)) ?_;exact .inr ⟨s,q1,rfl,e⟩
end
inductive St (α:Type)
 |short
 |bad (e:Int)
 |ok (a:α) (used:Nat)
def ju(m:Int)(b:List Nat)(a:Nat):St (Nat×List Nat):=if 1<=m∧m<=20 then .ok (m.toNat,b) a else .bad 22
def da(c:Nat)(a:List Nat)(bs:List Bool):St (Nat×List Nat):=
 if c=0 then(if bs.length<5 then .short else ju (num (bs.take 5) 0:Int) a 5)
 else match bs with
  |[]=> .short
  |false::_=> .ok (c,a++[c]) 1
  |[true]=> .short
  |true::b::_=>ju ((c:Int)+1-2*(bn b:Int)) a 2
def dB(size b:Nat)(lv:Value)(a:Bool):AB:=⟨333,true,[jI (size:Int),jI (b:Int),lv,.bool a]⟩
structure gP (h:H) (lo n q size now:Nat) (lv:Value) (lens:List Nat) (dM:Bool):Prop where
 get:h.get q=some (dB size now lv dM)
 ge:lo<=q
 lt:q<n
 own:Own h lo n 3 lv (aV .i64 (iN lens))
theorem gP.ne{h:H}{lo n q size d:Nat}{lv:Value}{c:List Nat}{a:Bool}(x:gP h lo n q size d lv c a){b:Nat}(g:aK lv b):b≠q:=fun e=>by obtain⟨B,f,i⟩:=x.own.elem g;rw[e,x.get]at f;cases f;exact absurd (show(333:Nat)=3 from i) jD
theorem gP.au{h h':H}{lo n n' q size d:Nat}{lv:Value}{c:List Nat}{a:Bool}(x:gP h lo n q size d lv c a)(e:n<=n')(f:∀b,b<n->(b=q∨aK lv b)->h'.get b=h.get b):gP h' lo n' q size d lv c a:=
 ⟨(f q x.lt (.inl rfl)).trans x.get,x.ge,fK x.lt e,x.own.au e fun b g=>f b (x.own.lt g).2 (.inr g)⟩
section
variable {Y d n p q lo size now:Nat} {h:H} {S:List UInt8} {D A:Nat} {lv:Value} {lens:List Nat} {dM:Bool}
theorem ah7(z:Int):af (fun _=>False) n (aj aa gt Y (d+1) 271 #[jI z]) h n fun a h' n'=>a= .bool (decide (3<=z)&&decide (z<=258))∧h'=h∧n'=n:=by
 rw[aB (fun _=>Xh) rfl];refine af.aA ?_;unfold Kx;by_cases c:3<=z
 ·exact jC @c
 ·exact jC @c
theorem ah8(z:Int):af (fun _=>False) n (aj aa gt Y (d+1) 284 #[jI z]) h n fun a h' n'=>a= .bool (decide (1<=z)&&decide (z<=20))∧h'=h∧n'=n:=by
 rw[aB (fun _=>XF) rfl];refine af.aA ?_;unfold KF;by_cases c:1<=z
 ·exact jC @c
 ·exact jC @c
theorem Yj(b:3<=size)(a:size<=258):af (fun _=>False) n (aj aa gt Y (d+2) 259 #[jI (size:Int)]) h n fun v h' n'=>v= .tuple #[jP n 0,jI 0]∧n'=n+1∧gP h' n n' n size 0 (.slice none 0 0) [] false:=by rw[aB (fun _=>WY) rfl];refine af.aA ?_;unfold Km;refine bq (ah7 (size:Int)) (ah _) (fun _ _ h=>h.elim) ?_;rw[decide_eq_true (show(3:Int)<=(size:Int) by omega),decide_eq_true (show(size:Int)<=258 by omega)];refine jA (aI @dJ @eK) ?_;refine gD trivial _ _ ?_;refine jB ?_;exact⟨get_eq _ _ _,ah _,jO,Own.nil _ _ _ _⟩
theorem Yk(x:gP h lo n q size now lv lens dM):af (fun _=>False) n (aj aa gt Y (d+1) 266 #[jP q 0]) h n fun b h' n'=>b= .bool (decide (lens.length=size))∧h'=h∧n'=n:=by
 have g:=x.get;have i:=x.lt;unfold dB at g;have f:=x.own.row;obtain⟨a,c,rfl⟩:=f.len;rw[aB (fun _=>W8) rfl];refine af.aA ?_;unfold Ks
 have e:((((iN lens).length:Nat):Int)==(size:Int))=decide (lens.length=size):=by
  rw[fi];by_cases e:lens.length=size
  ·rw[decide_eq_true e,e];simp
  ·rw[decide_eq_false e];exact beq_eq_false_iff_ne.2 fun q=>e jO
 try simp(disch:=first|omega|assumption) only[Nat.reduceAdd,Nat.reduceLT,RZ,eU,eV,eW,eX,eY,eZ,fa,fb,fc,fg,g,e]
theorem ah9(x:gP h lo n q size now lv lens dM)(e:0<lens.length)(k:lens.length<=1000):af (fun _=>False) n (aj aa gt Y (d+2) 268 #[jP q 0]) h n fun b h' n'=>Row h' n' 3 .i64 b (iN lens):=by
 have g:=x.get;have a:=x.lt;unfold dB at g;rw[aB (fun _=>Xe) rfl];refine af.aA ?_;unfold Ku;try simp(disch:=first|omega|assumption) only[Nat.reduceAdd,Nat.reduceLT,RZ,eU,eV,eW,eX,eY,eZ,fa,fb,fc,fg,g]
 refine aN aF (D0 Y d n h lv (iN lens) x.own.row (by rw[fi];exact e) (by rw[fi];omega)) (ah _) (fun _ _ h=>h.elim) fun i l j c f a=> ?_;refine jB ?_;exact a.2.1
theorem ah'(x:gP h lo n q size now lv lens dM)(m:Int):af (fun b=>b=q) n (aj aa gt Y (d+2) 281 #[jP q 0,jI m]) h n fun f h' n'=>n'=n∧(∀b,b≠q->h'.get b=h.get b)∧((¬(1<=m∧m<=20)∧f=jI 22∧h'.get q=some (dB size now lv true))∨((1<=m∧m<=20)∧f=jI 0∧h'.get q=some (dB size m.toNat lv dM))):=by
 have g:=x.get;have i:=x.lt;unfold dB at g;rw[aB (fun _=>XA) rfl];refine af.aA ?_;unfold KD;refine bq (ah8 m) (ah _) (fun _ _ h=>h.elim) ?_;by_cases c:1<=m∧m<=20
 ·rw[decide_eq_true c.1,decide_eq_true c.2];try simp(disch:=first|omega|assumption) only[Nat.reduceAdd,Nat.reduceLT,RZ,eU,eV,eW,eX,eY,eZ,fa,fb,fc,fg,dJ,eK,g,true_or,or_true]
  exact⟨fun b a=>aw _ _ a,.inr ⟨c,by unfold dB;rw[Int.toNat_of_nonneg jO]⟩⟩
 ·have:(decide (1<=m)&&decide (m<=20))=false:=by
   cases e:(decide (1<=m)&&decide (m<=20))with
   |false=>rfl
   |true=>rw[bZ,decide_eq_true_eq,decide_eq_true_eq]at e;exact absurd e c
  rw[this];try simp(disch:=first|omega|assumption) only[Nat.reduceAdd,Nat.reduceLT,RZ,eU,eV,eW,eX,eY,eZ,fa,fb,fc,fg,cf,g,true_or,or_true]
  exact⟨fun b a=>aw _ _ a,.inl ⟨c,rfl⟩⟩
def wR(h:H)(n p:Nat)(S:List UInt8)(D A lo q size now:Nat)(lv:Value)(lens:List Nat)(c:Value)(h':H)(n':Nat):Prop:=
 match da now lens (ar S D A)with
 | .short=>c= .int .i64 3∧aY h' n' p S D A∧gP h' lo n' q size now lv lens false
 | .bad e=>c= .int .i64 e∧(∃B,aY h' n' p S D B)∧gP h' lo n' q size now lv lens true
 | .ok (m,l) u=>c= .int .i64 0∧aY h' n' p S D (A+u)∧∃a,gP h' lo n' q size m a l false∧∀b,aK a b->aK lv b∨n<=b
theorem ah_(x:aY h n p S D A)(y:gP h lo n q size now lv lens false)(R:p≠q)(W:¬aK lv p)(v0:now<=20)(hl:lens.length<=1000)(v6:lo<=n)(v7:100<=Y):
 af (fun b=>b=p∨b=q∨aK lv b) n (aj aa gt Y (d+4) 276 #[jP q 0,jP p 0]) h n fun J h' n'=>(J=jI 3∧da now lens (ar S D A)= .short∧(∃B,aY h' n' p S D B)∧gP h' lo n' q size now lv lens false)∨(J≠jI 3∧da now lens (ar S D A)≠ .short∧wR h n p S D A lo q size now lv lens J h' n'):=by
 have g:=y.get;have hq:=y.lt;unfold dB at g;obtain⟨o,C⟩:∃o,ar S D A=o:=⟨_,rfl⟩;rw[aB (fun _=>Xt) rfl];refine af.aA ?_;unfold Kz wR;have z1:((3:Int) !=0)=true:=rfl;have z0:((0:Int) !=0)=false:=rfl;have e1:((1:Nat):Int)=1:=rfl
 have dk:∀{h1:H},(∀b,b<n->¬b=p->h1.get b=h.get b)->gP h1 lo n q size now lv lens false:=fun fr=>y.au (ah _) fun b k ij=>fr b k (by
  rcases ij with rfl|ij
  ·exact fun e=>R e.symm
  ·exact fun e=>W (e▸ij))
 have told:∀(h1:H) (K:Nat) (m:Int) (u:Nat),K=n->(∀b,b<n->¬b=p->h1.get b=h.get b)->aY h1 K p S D (A+u)->da now lens o=ju m lens u->
  af (fun b=>b=p∨b=q∨aK lv b) n (ai (aj aa gt Y (d+3)) 281 [jP q 0,jI m] fun v=>ag [v]) h1 K fun J h' n'=>(J=jI 3∧da now lens o= .short∧(∃B,aY h' n' p S D B)∧gP h' lo n' q size now lv lens false)∨(J≠jI 3∧da now lens o≠ .short∧match da now lens o with
   | .short=>J= .int .i64 3∧aY h' n' p S D A∧gP h' lo n' q size now lv lens false
   | .bad e=>J= .int .i64 e∧(∃B,aY h' n' p S D B)∧gP h' lo n' q size now lv lens true
   | .ok (m,l) u=>J= .int .i64 0∧aY h' n' p S D (A+u)∧∃T,gP h' lo n' q size m T l false∧∀b,aK T b->aK lv b∨n<=b):=by
  rintro h1 K m u rfl fr O u3;have N:=dk fr;refine aN aF (ah' (d:=d+1) N m) (ah _) (fun b _ k=> .inr (.inr (.inl k))) fun v2 h2 n2 v5 v8 s=> ?_;obtain⟨rfl,U,s⟩:=s;have x2:=O.au (ah _) (U p R);have o2:Own h2 lo _ 3 lv (aV .i64 (iN lens)):=N.own.au (ah _) fun b k=>U b (N.ne k);refine jB ?_;refine .inr ?_;rw[u3];unfold ju;rcases s with ⟨c,rfl,X⟩|⟨c,rfl,X⟩
  ·rw[if_neg c];exact⟨jS,jS,rfl,⟨_,x2⟩,X,y.ge,hq,o2⟩
  ·rw[if_pos c];exact⟨jS,jS,rfl,x2,lv,⟨X,y.ge,hq,o2⟩,fun b k=> .inl k⟩
 by_cases Q:now=0
 ·have e0:((now:Int)==0)=true:=by rw[Q];rfl
  rw[C];try simp(disch:=first|omega|assumption) only[Nat.reduceAdd,Nat.reduceLT,RZ,eU,eV,eW,eX,eY,eZ,fa,fb,fc,fg,g,e0]
  refine aN aF (lJ (Y:=Y) (d:=d) x 5 jO jO) (ah _) (fun b _ k=> .inr (.inl k)) fun v1 h1 K u5 E i=> ?_;obtain⟨rfl,i⟩:=i;rw[C]at i;rcases i with ⟨sh,rfl,rfl⟩|⟨lg,rfl,O⟩
  ·refine jA (aI @bJ (aI @ext1 @z1)) ?_;refine .inl ⟨by unfold da;rw[if_pos Q,if_pos sh],⟨_,x⟩,y⟩
  ·have nl:=ig (o.take 5);rw[cT,ic lg]at nl;have w1:IntKind.i64.wrap ((num (o.take 5) 0:Nat):Int)=((num (o.take 5) 0:Nat):Int):=aH jO jO;refine jA (aI @bJ (aI @ext1 (aI @z0 @w1))) ?_;exact told h1 K _ 5 rfl (fun b k ij=>E b k ij) O (by unfold da;rw[if_pos Q,if_neg jO])
 ·have e0:((now:Int)==0)=false:=beq_eq_false_iff_ne.2 jO;rw[C];try simp(disch:=first|omega|assumption) only[Nat.reduceAdd,Nat.reduceLT,RZ,eU,eV,eW,eX,eY,eZ,fa,fb,fc,fg,g,e0]
  refine aN aF (lJ (Y:=Y) (d:=d) x 1 jO jO) (ah _) (fun b _ k=> .inr (.inl k)) fun v1 h1 K u5 E i=> ?_;obtain⟨rfl,i⟩:=i;rw[C]at i;rcases i with ⟨sh,rfl,rfl⟩|⟨lg,rfl,O⟩
  ·refine jA (aI @bJ (aI @ext1 @z1)) ?_;have:o=[]:=MK jO;refine .inl ⟨by unfold da;rw[if_neg Q,this],⟨_,x⟩,y⟩
  ·obtain⟨b,f,u6⟩:∃b f,o=b::f:=by
    cases o with
    |nil=>simp at lg
    |cons b f=>exact⟨b,f,rfl⟩
   subst u6;have nb:num ((b::f).take 1) 0=bn b:=by show 2*0+bn b=_;omega
   have N:=dk (h1:=h1) fun c t j=>E c t j;have g1:=N.get;unfold dB at g1;rw[nb];cases b with
   |false=>
    have ez:(((bn false:Nat):Int)==0)=true:=rfl;have cv:∀z:Value,[jI (size:Int),jI (now:Int),lv,.bool false].set 2 z=[jI (size:Int),jI (now:Int),z,.bool false]:=fun _=>rfl;refine jA (aI @bJ (aI @ext1 (aI @z0 (aI @ez @g1)))) ?_;refine si trivial (ke _ _) N.own (by rw[eu,fi];omega) (fun c t=> .inr (.inr (.inr t))) _ fun h2 X U=> ?_;have g3:h2.get q=some ⟨333,true,[jI (size:Int),jI (now:Int),lv,.bool false]⟩:=by rw[U q jO fun r=>N.ne r rfl];exact g1
    have s:q<K+2:=jO;have u4:=O.lt;refine jA (aI @g3 @cv) ?_
    have on:aV .i64 (iN (lens++[now]))=aV .i64 (iN lens)++[jI (now:Int)]:=by rw[pI,mY];rfl
    refine .inr ⟨jS, ?_⟩;have es:da now lens (false::f)= .ok (now,lens++[now]) 1:=by unfold da;rw[if_neg Q]
    rw[es];refine⟨jS,O.au jO ?_,_,⟨get_eq _ _ _,y.ge,s, ?_⟩,fun c t=> .inr (by rw[t.inj];omega)⟩
    ·rw[aw _ _ R,U p u4 W]
    ·rw[on];exact .inr ⟨K+1,jS,by rw[aw _ _ jO];exact X,jO,jO⟩
   |true=>
    have ez:(((bn true:Nat):Int)==0)=false:=rfl;refine jA (aI @bJ (aI @ext1 (aI @z0 @ez))) ?_;have P:ar S D (A+1)=f:=by rw[<-od x.lo,C];rfl
    refine aN aF (lJ (Y:=Y) (d:=d) O 1 jO jO) (ah _) (fun b _ k=> .inr (.inl k)) fun v3 h3 n3 v4 Z L=> ?_;obtain⟨rfl,L⟩:=L;rw[P]at L;rcases L with ⟨sh,rfl,rfl⟩|⟨u2,rfl,x3⟩
    ·refine jA (aI @bJ (aI @ext1 @z1)) ?_;have:f=[]:=MK jO;refine .inl ⟨by unfold da;rw[if_neg Q,this],⟨_,O⟩,N⟩
    ·obtain⟨I,G,ij⟩:∃b G,f=b::G:=by
      cases f with
      |nil=>simp at u2
      |cons b G=>exact⟨b,G,rfl⟩
     subst ij;have u1:num ((I::G).take 1) 0=bn I:=by show 2*0+bn I=_;omega
     rw[u1];have y3:=dk (h1:=h3) fun c t j=>(Z c t j).trans (E c t j);have g3:=y3.get;unfold dB at g3;have bl:=sj I;have w1:IntKind.i64.wrap ((now:Int)+1)=(now:Int)+1:=aH jO jO;have w2:IntKind.i64.wrap ((bn I:Nat):Int)=((bn I:Nat):Int):=aH jO jO;have w3:IntKind.i64.wrap (2*((bn I:Nat):Int))=2*((bn I:Nat):Int):=aH jO jO;have w4:IntKind.i64.wrap ((now:Int)+1-2*((bn I:Nat):Int))=(now:Int)+1-2*((bn I:Nat):Int):=aH jO jO;refine jA (aI @bJ (aI @ext1 (aI @z0 (aI @g3 (aI @w1 (aI @w2 (aI @w3 @w4))))))) ?_;exact told h3 n3 _ 2 rfl (fun c t j=>(Z c t j).trans (E c t j)) x3 (by unfold da;rw[if_neg Q])
theorem aia(x:aY h n p S D A)(y:gP h lo n q size now lv lens false)(f:p≠q)(i:¬aK lv p)(j:now<=20)(Q:lens.length<size)(O:size<=258)(o:lo<=n)(r:100<=Y):
 af (fun b=>b=p∨b=q∨aK lv b) n (aj aa gt Y (d+5) 265 #[jP q 0,jP p 0]) h n (wR h n p S D A lo q size now lv lens):=by
 have g:=y.get;have P:=y.lt;unfold dB at g;rw[aB (fun _=>W7) rfl];refine af.aA ?_;unfold Kr;refine jB ?_;refine bq (Yk (Y:=Y) (d:=d+3) y) (ah _) (fun _ _ h=>h.elim) ?_;rw[decide_eq_false (show¬lens.length=size by omega)];refine jA @g ?_;refine bq (Ec (Y:=Y) (d:=d+3) x) (ah _) (fun _ _ h=>h.elim) ?_;refine aN aF (ah_ (Y:=Y) (d:=d) x y f i j jO o r) (ah _) (fun b _ k=> .inr k) fun C T N I J m=> ?_;rcases m with ⟨rfl,c,⟨B,z⟩,u⟩|⟨E,c,a⟩
 ·have t:((3:Int)==3)=true:=rfl;refine jA @t ?_;refine aN aF (Ee (Y:=Y) (d:=d+2) z A x.lo x.hi) jO (fun b _ k=> .inr (.inl k)) fun K R L G s l=> ?_;obtain⟨_,rfl,v⟩:=l;refine jB ?_;unfold wR;rw[c]
  exact⟨rfl,v,u.au (ah _) fun b k ij=>s b k (by
   rcases ij with rfl|ij
   ·exact fun e=>f e.symm
   ·exact fun e=>i (e▸ij))⟩
 ·obtain⟨e,rfl⟩:∃e:Int,C=jI e:=by
   unfold wR at a;split at a
   ·exact⟨_,a.1⟩
   ·exact⟨_,a.1⟩
   ·exact⟨_,a.1⟩
  have t:(e==3)=false:=beq_eq_false_iff_ne.2 fun q=>E (by rw[q]);refine jA @t ?_;exact a
end
def gQ{c:Type}(E:En->Prop)(m:M c)(h:H)(n:Nat)(Q:c->H->Nat->Prop):Prop:=
 ∃a d b L,m h n=some ⟨a,d,b,L⟩∧n<=b∧(∀e∈L,e.wr=true->E e)∧Q a d b
section
variable {α β:Type} {E:En->Prop} {m:M α} {k:α->M β} {h h1:H} {n n1:Nat} {a:α} {L:List En} {Q:β->H->Nat->Prop}
theorem gQ.step(e:m h n=some ⟨a,h1,n1,L⟩)(p:n<=n1)(f:∀e∈L,e.wr=true->E e)(x:gQ E (k a) h1 n1 Q):gQ E (m.bind k) h n Q:=by
 obtain⟨b,g,c,o,l,r,j,i⟩:=x;refine⟨b,g,c,L++o,bW e l,jO,fun x d=> ?_,i⟩;rcases FG.1 d with q|q
 ·exact f x q
 ·exact j x q
theorem gQ.aA{Q':α->H->Nat->Prop}(x:gQ E m h n Q'):gQ E (inside m) h n Q':=by obtain⟨a,h1,n1,L,g,f,d,c⟩:=x;exact⟨a,h1,n1,_,jL g,f,fun e b=>d e (List.mem_filter.1 b).1,c⟩
theorem gQ.run{Q':α->H->Nat->Prop}{W:Nat->Prop}{n0:Nat}(x:gQ E m h n Q')(d:∀e,E e->n0<=e.b∨W e.b):af W n0 m h n Q':=by obtain⟨a,h1,n1,L,j,i,g,f⟩:=x;exact⟨a,h1,n1,L,j,i,fun e c b=>d e (g e c b),f⟩
theorem aib{a:Value->H->Nat->Prop}(v:Value)(x:a v h n):gQ E (ag [v]) h n a:=
 ⟨v,h,n,[],rfl,ah _,fun e b=>(nomatch b),x⟩
end
section
variable {β:Type} {E:En->Prop} {h h1:H} {n n1:Nat} {Q:β->H->Nat->Prop} {P:Program}
theorem gQ.ins{m:M Value}{v:Value}{L:List En}{k:Value->M β}(e:m h n=some ⟨v,h1,n1,L⟩)(d:n<=n1)(c:∀e∈L,e.wr=true->E e)(x:gQ E (k v) h1 n1 Q):gQ E (eA m k) h n Q:=by rw[lT];exact gQ.step (jL e) d (fun x b a=>c x (List.mem_filter.1 b).1 a) x
theorem Yl{T:Prop}(_:T)(b off:Nat)(k:Value->M β){B:AB}(c:h.get b=some B)(d:b<n){v:Value}(a:B.cells[off]? =some v)(x:gQ E (k v) h n Q):gQ E (aP (jP b off) k) h n Q:=by
 have e:vM b off h n=some ⟨v,h,n,[⟨false,b,some off⟩]⟩:=by rw[BB];unfold rd;simp only[d,c,a,if_true]
 exact gQ.ins e (ah _) jS x
theorem Ym{T:Prop}(_:T)(b off:Nat)(v:Value)(k:Value->M β){e:TypeId}{cs:List Value}(j:h.get b=some ⟨e,true,cs⟩)(l:b<n)(i:off<cs.length)(h1:one v=true)(g:E ⟨true,b,some off⟩)(x:gQ E (k undef) (h.set b (some ⟨e,true,cs.set off v⟩)) n Q):
 gQ E (aJ (jP b off) v k) h n Q:=by
 have c:wr b off v h n=some ⟨(),h.set b (some ⟨e,true,cs.set off v⟩),n,[⟨false,b,some off⟩,⟨true,b,some off⟩]⟩:=by unfold wr;simp[l,j,i,h1]
 have m:((tu b off v).bind fun _=>M.ret undef) h n=some ⟨undef,h.set b (some ⟨e,true,cs.set off v⟩),n,[⟨false,b,some off⟩,⟨true,b,some off⟩]⟩:=by rw[BC];have:=bW (f:=fun _=>M.ret undef) c (L2:=[]) (b:=undef) (h2:=h.set b (some ⟨e,true,cs.set off v⟩)) (n2:=n) rfl;simpa using this
 show gQ E (match one v with
  |true=>eA ((tu b off v).bind fun _=>M.ret undef) k
  |false=> .fail) h n Q
 rw[h1];refine gQ.ins m (ah _) (fun y d a=> ?_) x;simp at d;rcases d with rfl|rfl
 ·cases a
 ·exact g
end
section
variable {β:Type} {W:Nat->Prop} {n0:Nat} {h:H} {n:Nat} {Q:β->H->Nat->Prop} {P:Program}
theorem aic (hd:j9 P=true) {gt:Nat->Hint} {Y d:Nat} {f:FuncId} {vs:List Value} {E:En->Prop} {Q':Value->H->Nat->Prop} {q:Nat} (s:gQ E (aj P gt Y d f ⟨vs⟩) h n Q') (m:∀e,E e->e.b=q) (D:n0<=n) (y:n0<=q∨W q) {k:Value×Tk->M β}
 (x:∀v h1 a T,n<=a->(∀b,b<n->b≠q->h1.get b=h.get b)->Q' v h1 a->T.n=n->(∀e∈T.log,e.b<n)->(∀e∈T.log,e.wr=true->E e)->af W n0 (k (v,T)) h1 a Q):af W n0 ((az (ai (aj P gt Y d) f vs M.ret)).bind k) h n Q:=by
 obtain⟨v,h1,a,L,l,r,p,B⟩:=s;obtain⟨o,C⟩:=B5 hd d f ⟨vs⟩ h n v h1 a L l;have A:=Loc.cK P KN o f ⟨vs⟩ h n v h1 a L (C o (ah _))
 have j:∀e∈L.filter (fun e=> !(decide (n<=e.b)&&decide (e.b<a))),e.b<n:=fun e c=>by obtain⟨h1,z⟩:=List.mem_filter.1 c;have:=A.lt e h1;simp at z;omega
 have g:∀e∈L.filter (fun e=> !(decide (n<=e.b)&&decide (e.b<a))),e.wr=true->E e:=fun e c i=>p e (List.mem_filter.1 c).1 i;exact lG (mW l) r (fun e c i=>by rw[m e (g e c i)];exact y) (x v h1 a _ r (fun b u t=>Hq hd l (W':=fun b=>b=q) (fun e c i=> .inr (m e (p e c i))) b u t) B rfl j g)
theorem aid{a b:Tk}{p off:Nat}{E:En->Prop}(h1:a.n=n)(h2:a.n1=n)(m:a.log=[⟨false,p,some off⟩])(q:b.n=n)(l:∀e∈b.log,e.b<n)(k:∀e∈b.log,e.wr=true->E e)(o:p<n)(g:∀e,E e->∃j,e.k=some j∧j≠off):bP a b=false:=by
 rw[tB];unfold Tk.cy;simp only[xE,aaZ,bZ,decide_eq_true_eq,not_and,m,sV];refine⟨⟨⟨fun x c f=> ?_,fun x c f=> ?_⟩,fun x c d=> ?_⟩,fun x c d=> ?_⟩
 ·subst c;cases f
 ·simp only[an5,Fv,Fx,anY];unfold En.meets;obtain⟨j,i,h⟩:=g x (k x c f);simp[i,h]
 ·subst c;simp only at d⊢;omega
 ·have:=l x c;omega
theorem Yn{A:M Value}{B:M β}{k:Value×Tk->M β}(e:B=A.bind fun v=>k (v,⟨0,0,[]⟩))(d:∀v T,k (v,T)=k (v,⟨0,0,[]⟩))(x:af W n0 B h n Q):af W n0 ((az A).bind k) h n Q:=by subst e;obtain⟨b,f,c,L,o,m,l,j⟩:=x;obtain⟨a,q,p,s,r,i,g,rfl⟩:=Ev.bind_some o;exact⟨b,f,c,_,bW (xZ i) (by rw[d];exact g),m,l,j⟩
theorem K1{m:M Value}(f:Value->M β):eA m f=(eA m M.ret).bind f:=by
 rw[lT,lT];funext h n;unfold M.bind M.ret;cases inside m h n with
 |none=>rfl
 |some r=>simp
theorem K2{a v:Value}{k:Value×Tk->M β}(b:∀v T,k (v,T)=k (v,⟨0,0,[]⟩))(x:af W n0 (aJ a v fun v=>k (v,⟨0,0,[]⟩)) h n Q):af W n0 ((az (aJ a v M.ret)).bind k) h n Q:=by
 refine Yn ?_ b x;unfold aJ;split
 ·split
  ·exact K1 _
  ·rfl
 ·rfl
theorem Ei{sz:Nat}{a v:Value}{k:Value×Tk->M β}(b:∀v T,k (v,T)=k (v,⟨0,0,[]⟩))(x:af W n0 (aQ sz a v fun v=>k (v,⟨0,0,[]⟩)) h n Q):af W n0 ((az (aQ sz a v M.ret)).bind k) h n Q:=by
 refine Yn ?_ b x;unfold aQ;split
 ·split
  ·split
   ·exact K1 _
   ·rfl
  ·rfl
 ·rfl
theorem K3 {T:Prop} (c:T) {e:TypeId} {x:Value} (p:one x=true) {lo:Nat} {v:Value} {cs:List Value} (o:Own h lo n e v cs) (s:cs.length+1<=1099511627776) (q:∀b,aK v b->n0<=b∨W b) (K:Value×Tk->Value×Tk->M β)
 (y:∀w D C h',h'.get (n+1)=some ⟨e,true,cs++[x]⟩->(∀b,b<n->¬aK v b->h'.get b=h.get b)->af W n0 (K (w,D) (.slice (some ⟨n+1,0,none⟩) (cs.length+1) (bo+(cs.length+1)),C)) h' (n+2) Q):
 af W n0 ((az (bO e 1 x M.ret)).bind fun a=>(az (bN e 1 v a.1 M.ret)).bind fun b=>K a b) h n Q:=by
 obtain⟨a,N,I,L,i,O,d,A⟩:=si (Q:=fun j h' m=>j=j3 (some ⟨n+1,0,none⟩) (cs.length+1) (bo+(cs.length+1))∧m=n+2∧h'.get (n+1)=some ⟨e,true,cs++[x]⟩∧∀b,b<n->¬aK v b->h'.get b=h.get b) c p o s q M.ret fun h' g k=>(kS _).2 ⟨rfl,rfl,g,k⟩
 have B:bO e 1 x (fun w=>bN e 1 v w M.ret)=(bO e 1 x M.ret).bind fun w=>bN e 1 v w M.ret:=by
  unfold bO;split
  ·exact K1 _
  ·rfl
 rw[B]at i;obtain⟨w,J,f,G,E,u,z,rfl⟩:=Ev.bind_some i;obtain⟨rfl,rfl,g,k⟩:=A;obtain⟨b,t,l,P,f1,f2,f3,f4⟩:=y w ⟨n,f,G⟩ ⟨f,n+2,E⟩ _ g k;refine⟨b,t,l,_,bW (xZ u) (bW (xZ z) f1),jO,fun r hr=> ?_,f4⟩;simp only[FG]at hr d;rcases hr with hr|hr|hr
 ·exact d r (.inl hr)
 ·exact d r (.inr hr)
 ·exact f3 r hr
end
def db{a:Type}(d:a)(O:List a)(i:Nat):List a:=O.getD i d::(O.take i++O.drop (i+1))
def so(O:List Value)(i j:Nat):List Value:=O.take (j+1)++((O.drop j).take (i-j)++O.drop (i+1))
theorem qG{g:Type}{O:List g}(h:O.length=6):∃a b c d e f,O=[a,b,c,d,e,f]:=by
 match O,h with
 |[a,b,c,d,e,f],_=>exact⟨a,b,c,d,e,f,rfl⟩
theorem aie{O:List Value}(h:O.length=6){i:Nat}(g:i<6):so O i i=O:=by obtain⟨a,b,c,d,e,f,rfl⟩:=qG h;rcases i with _|_|_|_|_|_|i<;>first|rfl|omega
theorem aif{O:List Value}(h:O.length=6){i j:Nat}(k:i<6)(g:j<i):(so O i (j+1)).set (j+1) (O.getD j undef)=so O i j:=by obtain⟨a,b,c,d,e,f,rfl⟩:=qG h;rcases i with _|_|_|_|_|_|i<;>rcases j with _|_|_|_|_|j<;>first|rfl|omega
theorem aih{O:List Value}(h:O.length=6){i j:Nat}(k:i<6)(g:j<i):(so O i (j+1)).getD j undef=O.getD j undef:=by obtain⟨a,b,c,d,e,f,rfl⟩:=qG h;rcases i with _|_|_|_|_|_|i<;>rcases j with _|_|_|_|_|j<;>first|rfl|omega
theorem aii{O:List Value}(h:O.length=6){i:Nat}(g:i<6):(so O i 0).set 0 (O.getD i undef)=db undef O i:=by obtain⟨a,b,c,d,e,f,rfl⟩:=qG h;rcases i with _|_|_|_|_|_|i<;>first|rfl|omega
theorem Yo{O:List Value}(h:O.length=6){i j:Nat}(k:i<6)(g:j<=i):(so O i j).length=6:=by obtain⟨a,b,c,d,e,f,rfl⟩:=qG h;rcases i with _|_|_|_|_|_|i<;>rcases j with _|_|_|_|_|_|j<;>first|rfl|omega
theorem Yp{O:List Value}{j:Nat}(h:j<O.length):O.getD j undef∈O:=by rw[bz,bB h];exact dO h
theorem Yq{A O Z:List Value}{j:Nat}(h:j<O.length):(A++(O++Z))[A.length+j]? =some (O.getD j undef):=by rw[qU jO,show A.length+j-A.length=j by omega,sS h,bz,bB h];rfl
theorem Yr{A O Z:List Value}{j:Nat}(h:j<O.length)(v:Value):(A++(O++Z)).set (A.length+j) v=A++(O.set j v++Z):=by rw[MC _ _ jO,show A.length+j-A.length=j by omega,aox _ _ h]
section
variable {Y d n q:Nat} {h:H} {e:TypeId} {A O Z:List Value} {i:Nat}
def K4(q off:Nat):En->Prop:=fun x=>x.b=q∧∃j,x.k=some j∧off<=j∧j<off+6
theorem aij(m:O.length=6)(h1:∀v∈O,one v=true)(g:h.get q=some ⟨e,true,A++(O++Z)⟩)(r:q<n)(l:i<6)(E:100<=Y):
 gQ (K4 q A.length) (aj aa gt Y (d+1) 278 #[jP q A.length,jI (i:Int)]) h n fun v h' n'=>v=O.getD i undef∧n'=n∧h'.get q=some ⟨e,true,A++(db undef O i++Z)⟩∧∀b,b≠q->h'.get b=h.get b:=by
 rw[aB (fun _=>Xx) rfl];refine gQ.aA ?_;unfold DT
 have p:∀(j:Nat),j<6->∀(k:Value->M Value),gN 6 (jP q A.length) (jI (j:Int)) k=k (jP q (A.length+j)):=fun j y k=>by rw[Hj _ 6 q A.length .i64 (j:Int) jO jO,cV]
 have C:i<O.length:=jO
 have u:∀(j a:Nat) (h':H),j<=i->j<a->h'.get q=some ⟨e,true,A++(so O i j++Z)⟩->(∀b,b≠q->h'.get b=h.get b)->
  gQ (K4 q A.length) (uG Y (aj aa gt Y d) a (DS Y (aj aa gt Y d)) (jP q A.length) (jI (i:Int)) (jI 0) (O.getD i undef) (jI (j:Int))) h' n fun v h' n'=>v=O.getD i undef∧n'=n∧h'.get q=some ⟨e,true,A++(db undef O i++Z)⟩∧∀b,b≠q->h'.get b=h.get b:=by
  intro j
  induction j with
  |zero=>
   intro a h' y G s x;obtain⟨a,rfl⟩:∃f,a=f+1:=⟨a-1,jO⟩;rw[uG];have t:decide ((0:Int)<((0:Nat):Int))=false:=decide_eq_false jO;refine jA @t ?_
   (try unfold DS);(try dsimp only)
   have B:=p 0 jO;simp only[iO]at B;refine jA @B ?_;have c:=Yo (j:=0) m l (aO _);refine Ym trivial q A.length _ _ s r (by simp[c];omega) (h1 _ (Yp C)) ⟨rfl,_,rfl,jS,jS⟩ ?_;refine aib _ ⟨rfl,rfl, ?_,fun b o=> ?_⟩
   ·rw[get_eq];have:=Yr (A:=A) (Z:=Z) (O:=so O i 0) (j:=0) jO (O.getD i undef);rw[iO]at this;rw[this,aii m l]
   ·rw[aw _ _ o];exact x b o
  |succ j D=>
   intro a h' y G s x;obtain⟨a,rfl⟩:∃f,a=f+1:=⟨a-1,jO⟩;rw[uG];have t:decide ((0:Int)<((j+1:Nat):Int))=true:=decide_eq_true jO;have z:IntKind.i64.wrap (((j+1:Nat):Int)-1)=(j:Int):=by rw[aH jO jO];omega
   try simp(disch:=first|omega|assumption) only[Nat.reduceAdd,Nat.reduceLT,RZ,t,z,p j jO]
   have c:=Yo (j:=j+1) m l y;refine Yl trivial q (A.length+j) _ s r (Yq jO) ?_;rw[aih m l jO];try simp(disch:=first|omega|assumption) only[Nat.reduceAdd,Nat.reduceLT,RZ,p (j+1) jO]
   refine Ym trivial q (A.length+(j+1)) _ _ s r (by simp[c];omega) (h1 _ (Yp jO)) ⟨rfl,_,rfl,jS,by simp;omega⟩ ?_;refine jA (aI @t @z) ?_;refine D a _ jO jO ?_ fun b o=> ?_
   ·rw[get_eq,Yr jO,aif m l jO]
   ·rw[aw _ _ o];exact x b o
 try simp(disch:=first|omega|assumption) only[Nat.reduceAdd,Nat.reduceLT,RZ,p i l]
 refine Yl trivial q (A.length+i) _ g r (Yq C) ?_;exact u i Y h (ah _) jO (by rw[aie m l];exact g) fun _ _=>rfl
end
def fz:Nat->Nat->List Bool->St Nat
 |0,_,_=> .bad 25
 |_+1,_,[]=> .short
 |_+1,o,false::_=> .ok o (o+1)
 |r+1,o,true::a=>fz r (o+1) a
structure Pk where
 t:Nat
 count:Nat
 ord:List Nat
 bw:List Nat
def c8(s:Pk)(bs:List Bool):St Pk:=
 if s.count=0 then(if bs.length<18 then .short else if(2<=num (bs.take 18) 0/32768∧num (bs.take 18) 0/32768<=6)∧num (bs.take 18) 0 %32768≠0 then .ok ⟨num (bs.take 18) 0/32768,num (bs.take 18) 0 %32768,s.ord,s.bw⟩ 18 else .bad 25)
 else match fz s.t 0 bs with
  | .short=> .short
  | .bad e=> .bad e
  | .ok o u=> .ok ⟨s.t,s.count,db 0 s.ord o,s.bw++[s.ord.getD o 0]⟩ u
def Ab(s:Pk)(pv:Value)(a:Bool):AB:=⟨282,true,[jI (s.t:Int),jI (s.count:Int)]++(aV .i64 (iN s.ord)++[pv,.bool a])⟩
structure gH (h:H) (lo n q:Nat) (s:Pk) (pv:Value) (dM:Bool):Prop where
 get:h.get q=some (Ab s pv dM)
 ge:lo<=q
 lt:q<n
 own:Own h lo n 3 pv (aV .i64 (iN s.bw))
 gm:s.ord.length=6
 Ac:s.t<=6
 c9:s.count<32768
theorem gH.ne{h:H}{lo n q:Nat}{s:Pk}{pv:Value}{a:Bool}(x:gH h lo n q s pv a){b:Nat}(d:aK pv b):b≠q:=fun e=>by obtain⟨B,c,f⟩:=x.own.elem d;rw[e,x.get]at c;cases c;exact absurd (show(282:Nat)=3 from f) jD
theorem gH.au{h h':H}{lo n n' q:Nat}{s:Pk}{pv:Value}{a:Bool}(x:gH h lo n q s pv a)(c:n<=n')(d:∀b,b<n->(b=q∨aK pv b)->h'.get b=h.get b):gH h' lo n' q s pv a:=
 ⟨(d q x.lt (.inl rfl)).trans x.get,x.ge,fK x.lt c,x.own.au c fun b e=>d b (x.own.lt e).2 (.inr e),x.gm,x.Ac,x.c9⟩
theorem gH.cells{h:H}{lo n q:Nat}{s:Pk}{pv:Value}{g:Bool}(x:gH h lo n q s pv g):∃a b c d e f:Nat,s.ord=[a,b,c,d,e,f]∧h.get q=some ⟨282,true,[jI (s.t:Int),jI (s.count:Int),jI (a:Int),jI (b:Int),jI (c:Int),jI (d:Int),jI (e:Int),jI (f:Int),pv,.bool g]⟩:=by obtain⟨a,b,c,d,e,f,i⟩:=qG x.gm;refine⟨a,b,c,d,e,f,i, ?_⟩;rw[x.get];unfold Ab;rw[i];rfl
theorem aik(a b c d e f:Value){g:Type}(k:Value->M g):bp HA [(2,6,.agg #[a,b,c,d,e,f])] k=k (.agg #[jI 0,jI 0,a,b,c,d,e,f,.slice none 0 0,.bool false]):=jK
section
variable {Y d n p q lo:Nat} {h:H} {S:List UInt8} {D A:Nat} {pv:Value} {s:Pk} {dM:Bool}
theorem ail(z:Int):af (fun _=>False) n (aj aa gt Y (d+1) 280 #[jI z]) h n fun a h' n'=>a= .bool (decide (2<=z)&&decide (z<=6))∧h'=h∧n'=n:=by
 rw[aB (fun _=>Xz) rfl];refine af.aA ?_;unfold KC;by_cases c:2<=z
 ·exact jC @c
 ·exact jC @c
theorem Ej(x:gH h lo n q s pv dM):af (fun _=>False) n (aj aa gt Y (d+1) 252 #[jP q 0]) h n fun k h' n'=>k= .bool (decide (0<s.count)&&decide (s.bw.length=s.count))∧h'=h∧n'=n:=by
 obtain⟨a,b,c,p,e,f,o,g⟩:=x.cells;have m:=x.lt;have l:=x.own.row;obtain⟨t,r,rfl⟩:=l.len;rw[aB (fun _=>WG) rfl];refine af.aA ?_;unfold Kh
 have e:((((iN s.bw).length:Nat):Int)==(s.count:Int))=decide (s.bw.length=s.count):=by
  rw[fi];by_cases e:s.bw.length=s.count
  ·rw[decide_eq_true e,e];simp
  ·rw[decide_eq_false e];exact beq_eq_false_iff_ne.2 fun q=>e jO
 by_cases j:0<s.count
 ·have i:decide ((0:Int)<(s.count:Int))=true:=decide_eq_true jO;rw[decide_eq_true j];try simp(disch:=first|omega|assumption) only[Nat.reduceAdd,Nat.reduceLT,RZ,eU,eV,eW,eX,eY,eZ,fa,fb,fc,fg,g,e,i,Bool.true_and]
 ·have i:decide ((0:Int)<(s.count:Int))=false:=decide_eq_false jO;rw[decide_eq_false j];try simp(disch:=first|omega|assumption) only[Nat.reduceAdd,Nat.reduceLT,RZ,eU,eV,eW,eX,eY,eZ,fa,fb,fc,fg,g,e,i,Bool.false_and]
theorem aim(x:gH h lo n q s pv dM):af (fun _=>False) n (aj aa gt Y (d+1) 254 #[jP q 0]) h n fun i h' n'=>i=jI (s.t:Int)∧h'=h∧n'=n:=by obtain⟨a,b,c,l,e,f,k,g⟩:=x.cells;have j:=x.lt;rw[aB (fun _=>WI) rfl];refine af.aA ?_;unfold Kj;try simp(disch:=first|omega|assumption) only[Nat.reduceAdd,Nat.reduceLT,RZ,eU,eV,eW,eX,eY,eZ,fa,fb,fc,fg,g]
theorem ain(x:gH h lo n q s pv dM)(l:0<s.bw.length)(r:s.bw.length<=100000):af (fun _=>False) n (aj aa gt Y (d+2) 180 #[jP q 0]) h n fun i h' n'=>Row h' n' 3 .i64 i (iN s.bw)∧∀b,aK i b->n<=b:=by
 obtain⟨a,b,c,v,e,f,t,g⟩:=x.cells;have j:=x.lt;rw[aB (fun _=>Js) rfl];refine af.aA ?_;unfold Dd;try simp(disch:=first|omega|assumption) only[Nat.reduceAdd,Nat.reduceLT,RZ,eU,eV,eW,eX,eY,eZ,fa,fb,fc,fg,g]
 refine aN aF (D0 Y d n h pv (iN s.bw) x.own.row (by rw[fi];exact l) (by rw[fi];omega)) (ah _) (fun _ _ h=>h.elim) fun o u p k m j=> ?_;refine jB ?_;exact j.2
theorem K5(x:gH h lo n q s pv dM):af (fun b=>b=q) n (aj aa gt Y (d+1) 279 #[jP q 0]) h n fun j h' n'=>j=jI 25∧n'=n∧(∀b,b≠q->h'.get b=h.get b)∧gH h' lo n q s pv true:=by
 obtain⟨a,b,c,m,e,f,l,g⟩:=x.cells;have k:=x.lt;rw[aB (fun _=>Xy) rfl];refine af.aA ?_;unfold KB;try simp(disch:=first|omega|assumption) only[Nat.reduceAdd,Nat.reduceLT,RZ,eU,eV,eW,eX,eY,eZ,fa,fb,fc,fg,g,true_or,or_true]
 refine⟨fun b i=>aw _ _ i,⟨by rw[get_eq];unfold Ab;rw[l];rfl,x.ge,k,x.own.au (ah _) fun b i=>aw _ _ (x.ne i),x.gm,x.Ac,x.c9⟩⟩
end
section
variable {Y d n p q lo:Nat} {h:H} {S:List UInt8} {D A:Nat} {pv:Value} {s:Pk} {dM:Bool}
def pJ:List Nat:=[0,1,2,3,4,5]
theorem aio(g:100<=Y):af (fun _=>False) n (aj aa gt Y (d+1) 272 #[]) h n fun b h' n'=>b= .agg #[jI 0,jI 1,jI 2,jI 3,jI 4,jI 5]∧n'=n+2:=by
 rw[aB (fun _=>Xk) rfl];refine af.aA ?_;unfold DP;refine dX Cl _ ?_;refine dX Cl _ ?_;obtain⟨j,c⟩:∃f,Y=f+7:=⟨Y-7,jO⟩
 have a:af (fun _=>False) n (wH Y (aj aa gt Y d) (j+7) (DO Y (aj aa gt Y d)) (jP n 0) (jP (n+1) 0) (jI 0)) ((h.set n (some ⟨280,true,[jI 0,jI 0,jI 0,jI 0,jI 0,jI 0]⟩)).set (n+1) (some ⟨280,true,[jI 0,jI 0,jI 0,jI 0,jI 0,jI 0]⟩)) (n+2) fun b h' n'=>b= .agg #[jI 0,jI 1,jI 2,jI 3,jI 4,jI 5]∧n'=n+2:=by
  iterate 7
   rw[wH];try simp(disch:=first|omega|assumption) only[Nat.reduceAdd,Nat.reduceLT,RZ,eU,eV,eW,eX,eY,eZ,fa,fb,fc,fg,Int.reduceToNat,Nat.le_add_right,Nat.reduceLT]
  (try unfold DO);(try dsimp only)
  refine XV trivial trivial (sz:=6) (n+1) 0 _ (get_eq _ _ _) jO jS ?_;refine nT (sz:=6) trivial (e:=280) (cs:=[jI 0,jI 0,jI 0,jI 0,jI 0,jI 0]) (vs:=[jI 0,jI 1,jI 2,jI 3,jI 4,jI 5]) rfl rfl rfl ?_ jO (ah _) (.inl (ah _)) _ fun l i k=> ?_
  ·try simp(disch:=first|omega|assumption) only[Nat.reduceAdd,Nat.reduceLT,RZ,eU,eV,eW,eX,eY,eZ,fa,fb,fc,fg]
  refine gE trivial trivial (sz:=6) _ _ _ i jO jS ?_;try simp(disch:=first|omega|assumption) only[Nat.reduceAdd,Nat.reduceLT,RZ,eU,eV,eW,eX,eY,eZ,fa,fb,fc,fg]
  all_goals (first|trivial|rfl|exact⟨rfl,rfl,rfl⟩|exact⟨rfl,rfl⟩)
 rw[<-c]at a;exact a
theorem aip(b:100<=Y):af (fun _=>False) n (aj aa gt Y (d+2) 260 #[]) h n fun v h' n'=>v=jP (n+2) 0∧n'=n+3∧gH h' (n+2) n' (n+2) ⟨0,0,pJ,[]⟩ (.slice none 0 0) false:=by rw[aB (fun _=>WZ) rfl];refine af.aA ?_;unfold Kn;refine aN aF (aio (d:=d) b) (ah _) (fun _ _ h=>h.elim) fun f i g c e a=> ?_;obtain⟨rfl,rfl⟩:=a;rw[aik];refine gD trivial _ _ ?_;refine jB ?_;exact⟨get_eq _ _ _,ah _,jO,Own.nil _ _ _ _,rfl,aO _,(by decide:0<32768)⟩
theorem aiq{b:Type}{rec:FuncId->Array Value->M Value}(r a:Value)(k:Value->M b):kI aa rec (.func (.func 275) #[r] #[]) [a] k=ai rec 275 [r,a] k:=by unfold kI;show bg (some _) _=_;rw[tG];simp only[show nB aa 275=true by kernel_rfl];exact(lT _ _).symm
theorem air{b:Type}{rec:FuncId->Array Value->M Value}(r a:Value)(k:Value->M b):kI aa rec (.func (.func 274) #[r] #[]) [a] k=ai rec 274 [r,a] k:=by unfold kI;show bg (some _) _=_;rw[tG];simp only[show nB aa 274=true by kernel_rfl];exact(lT _ _).symm
def sq(h:H)(n p:Nat)(S:List UInt8)(D A lo q:Nat)(s:Pk)(pv:Value)(c:Value)(h':H)(n':Nat):Prop:=
 match c8 s (ar S D A)with
 | .short=>c= .int .i64 3∧aY h' n' p S D A∧gH h' lo n' q s pv false
 | .bad e=>c= .int .i64 e∧(∃B,aY h' n' p S D B)∧gH h' lo n' q s pv true
 | .ok d u=>c= .int .i64 0∧aY h' n' p S D (A+u)∧∃a,gH h' lo n' q d a false∧∀b,aK a b->aK pv b∨n<=b
def Ad(h:H)(n p:Nat)(S:List UInt8)(D A lo q:Nat)(s:Pk)(pv:Value)(a:Value)(h':H)(n':Nat):Prop:=
 (a=jI 3∧c8 s (ar S D A)= .short∧(∃B,aY h' n' p S D B)∧gH h' lo n' q s pv false)∨(a≠jI 3∧c8 s (ar S D A)≠ .short∧sq h n p S D A lo q s pv a h' n')
theorem ais(v:Nat):((v:Int)).fdiv (2^(min ((15:Int)).toNat (jG).bits))=((v/32768:Nat):Int):=by have:(min ((15:Int)).toNat (jG).bits)=15:=jD;rw[this,MB _ jD];omega
theorem ait(v:Nat)(c:v<262144):IntKind.u32.wrap ((cb IntKind.u32.bits (v:Int)&&&cb IntKind.u32.bits (32767:Int)).toNat:Int)=((v %32768:Nat):Int):=by
 have b:(cb 32 (v:Int)).toNat=v:=by rw[vq,vr];exact lh jO
 show IntKind.u32.wrap ((cb 32 (v:Int)&&&cb 32 (32767:Int)).toNat:Int)=_;rw[FA,b];have a:(cb 32 (32767:Int)).toNat=2^15-1:=jD;rw[a,Nat.and_two_pow_sub_one_eq_mod];exact fU jO
theorem aiu(x:aY h n p S D A)(y:gH h lo n q s pv false)(i:p≠q)(I:¬aK pv p)(R:s.count=0)(u1:100<=Y):
 af (fun b=>b=p∨b=q) n (aj aa gt Y (d+4) 275 #[jP q 0,jP p 0]) h n (Ad h n p S D A lo q s pv):=by
 obtain⟨t,r⟩:∃t,ar S D A=t:=⟨_,rfl⟩;have hq:=y.lt;unfold Ad sq;rw[r,aB (fun _=>Xs) rfl];refine af.aA ?_;unfold Ky;have T:((3:Int) !=0)=true:=rfl;have U:((0:Int) !=0)=false:=rfl
 have dk:∀{h1:H},(∀b,b<n->¬b=p->h1.get b=h.get b)->gH h1 lo n q s pv false:=fun fr=>y.au (ah _) fun b j ij=>fr b j (by
  rcases ij with rfl|ij
  ·exact fun e=>i e.symm
  ·exact fun e=>I (e▸ij))
 refine aN aF (lJ (Y:=Y) (d:=d) x 18 jO jO) (ah _) (fun b _ j=> .inr (.inl j)) fun v1 h1 n1 u0 O k=> ?_;obtain⟨rfl,k⟩:=k;rw[r]at k;rcases k with ⟨sh,rfl,rfl⟩|⟨lg,rfl,B⟩
 ·refine jA (aI @bJ (aI @ext1 @T)) ?_;exact .inl ⟨by unfold c8;rw[if_pos R,if_pos sh],⟨_,x⟩,y⟩
 ·have C:=ig (t.take 18);rw[cT,ic lg]at C;obtain⟨v,G⟩:∃v,num (t.take 18) 0=v:=⟨_,rfl⟩;rw[G]at C;have w1:=ais v;have Z:=ait v C;have X:IntKind.i64.wrap ((v/32768:Nat):Int)=((v/32768:Nat):Int):=aH jO jO;have W:IntKind.i64.wrap ((v %32768:Nat):Int)=((v %32768:Nat):Int):=aH jO jO;have o:=dk (h1:=h1) fun c L K=>O c L K;rw[G];refine jA (aI @bJ (aI @ext1 (aI @U (aI @w1 (aI @Z (aI @X @W)))))) ?_;refine bq (ail _) (ah _) (fun _ _ h=>h.elim) ?_
  have l:c8 s t=if(2<=v/32768∧v/32768<=6)∧v %32768≠0 then .ok ⟨v/32768,v %32768,s.ord,s.bw⟩ 18 else .bad 25:=by unfold c8;rw[if_pos R,if_neg jO,G]
  by_cases u:2<=v/32768∧v/32768<=6
  ·rw[decide_eq_true (show(2:Int)<=((v/32768:Nat):Int) by omega),decide_eq_true (show((v/32768:Nat):Int)<=6 by omega)];by_cases Q:v %32768=0
   ·have P:((((v %32768:Nat):Int))==0)=true:=by rw[Q];rfl
    refine jA (aI @dJ (aI @eK @P)) ?_;refine aN aF (K5 (Y:=Y) (d:=d+2) o) (ah _) (fun b _ j=> .inr (.inr j)) fun v2 h2 n2 J N m=> ?_;obtain⟨rfl,rfl,E,z⟩:=m;refine jB ?_;rw[l,if_neg (by rintro⟨_,q⟩;exact q Q)];exact .inr ⟨jS,jS,rfl,⟨_,B.au (ah _) (E p i)⟩,z⟩
   ·have P:((((v %32768:Nat):Int))==0)=false:=beq_eq_false_iff_ne.2 jO;obtain⟨a,b,c,dd,e,f,he,g⟩:=o.cells;refine jA (aI @dJ (aI @eK (aI @P @g))) ?_;rw[l,if_pos ⟨u,Q⟩];refine .inr ⟨jS,jS,B.au (ah _) ?_,pv,⟨?_,y.ge,hq,o.own.au (ah _) fun b j=> ?_,y.gm,u.2,by show v %32768<32768;omega⟩,fun c L=> .inl L⟩
    ·rw[aw _ _ i,aw _ _ i]
    ·rw[get_eq];unfold Ab;simp only[he];rfl
    ·rw[aw _ _ (o.ne j),aw _ _ (o.ne j)]
  ·have:(decide ((2:Int)<=((v/32768:Nat):Int))&&decide (((v/32768:Nat):Int)<=6))=false:=by
    cases e:(decide ((2:Int)<=((v/32768:Nat):Int))&&decide (((v/32768:Nat):Int)<=6))with
    |false=>rfl
    |true=>rw[bZ,decide_eq_true_eq,decide_eq_true_eq]at e;exact absurd jO u
   rw[this];refine jA @cf ?_;refine aN aF (K5 (Y:=Y) (d:=d+2) o) (ah _) (fun b _ j=> .inr (.inr j)) fun v2 h2 n2 J N m=> ?_;obtain⟨rfl,rfl,E,z⟩:=m;refine jB ?_;rw[l,if_neg (by rintro⟨q,_⟩;exact u q)];exact .inr ⟨jS,jS,rfl,⟨_,B.au (ah _) (E p i)⟩,z⟩
theorem wS{a:Type}{dv:a}{O:List a}(c:O.length=6){i:Nat}(b:i<6):(db dv O i).length=6:=by unfold db;simp;omega
theorem aiv(O:List Nat)(g:O.length=6){i:Nat}(h:i<6):db undef (aV .i64 (iN O)) i=aV .i64 (iN (db 0 O i)):=by obtain⟨a,b,c,d,e,f,rfl⟩:=qG g;rcases i with _|_|_|_|_|_|i<;>first|rfl|omega
theorem aiw(O:List Nat)(g:O.length=6){i:Nat}(h:i<6):(aV .i64 (iN O)).getD i undef=jI (O.getD i 0:Int):=by obtain⟨a,b,c,d,e,f,rfl⟩:=qG g;rcases i with _|_|_|_|_|_|i<;>first|rfl|omega
theorem aix(x:aY h n p S D A)(y:gH h lo n q s pv false)(z:p≠q)(T:¬aK pv p)(h0:s.count≠0)(hl:s.bw.length<=100000)(v6:lo<=n)(u7:100<=Y):
 af (fun b=>b=p∨b=q∨aK pv b) n (aj aa gt Y (d+4) 274 #[jP q 0,jP p 0]) h n (Ad h n p S D A lo q s pv):=by
 obtain⟨l,W⟩:∃l,ar S D A=l:=⟨_,rfl⟩;have hq:=y.lt;obtain⟨a,b,c,dd,e,f,he,g⟩:=y.cells
 have E:c8 s l=match fz s.t 0 l with
  | .short=> .short
  | .bad e=> .bad e
  | .ok o u=> .ok ⟨s.t,s.count,db 0 s.ord o,s.bw++[s.ord.getD o 0]⟩ u:=by unfold c8;rw[if_neg h0];try(cases fz s.t 0 l<;>rfl)
 unfold Ad sq;rw[W,aB (fun _=>Xr) rfl];refine af.aA ?_;unfold DR;have z1:((3:Int) !=0)=true:=rfl;have z0:((0:Int) !=0)=false:=rfl;refine jA @g ?_
 have dk:∀{N:H} {Q:Nat},Q=n->(∀b,b<n->b≠p->N.get b=h.get b)->gH N lo Q q s pv false:=by
  rintro N _ rfl P
  exact y.au (ah _) fun b J ij=>P b J (by
   rcases ij with rfl|ij
   ·exact fun e=>z e.symm
   ·exact fun e=>T (e▸ij))
 refine dL s.t (fun fu i (_:Unit)=>uF Y (aj aa gt Y (d+3)) fu (wJ Y (aj aa gt Y (d+3))) (jP q 0) (jP p 0) (jI 0) (jI (s.t:Nat)) (jI (i:Nat))) (fun i _ h' n'=>(n'=n∧(∀b,b<n->b≠p->h'.get b=h.get b))∧aY h' n' p S D (A+i)∧fz s.t 0 l=fz (s.t-i) i (l.drop i)) ?_ ?_ Y 0 () h n (aO _) (by have:=y.Ac;omega) ⟨⟨rfl,fun _ _ _=>rfl⟩,x,rfl⟩
 ·rintro fu _ h' n' ⟨⟨rfl,P⟩,x1,k⟩;rw[uF];refine jA @eT ?_
  (try unfold wJ);(try dsimp only)
  have y1:=dk rfl P;refine aN aF (K5 (Y:=Y) (d:=d+2) y1) (ah _) (fun b _ J=> .inr (.inr (.inl J))) fun v2 h2 n2 v4 K u6=> ?_;obtain⟨rfl,rfl,k2,C⟩:=u6;refine jB ?_;rw[sX]at k;rw[E,k];exact .inr ⟨jS,by simp[fz],rfl,⟨_,x1.au (ah _) (k2 p z)⟩,C⟩
 ·rintro fu i _ h' n' hi ⟨⟨rfl,P⟩,x1,k⟩ next;rw[uF];have y1:=dk rfl P;have c1:((i:Nat):Int)<((s.t:Nat):Int):=jO;have v9:=y.Ac;have G:ar S D (A+i)=l.drop i:=by rw[<-od x.lo,W]
  obtain⟨r,hr⟩:∃r,s.t-i=r+1:=⟨s.t-i-1,jO⟩;rw[hr]at k;refine jA @c1 ?_;refine aN aF (lJ (Y:=Y) (d:=d) x1 1 jO jO) (ah _) (fun b _ J=> .inr (.inl J)) fun v1 N Q v5 u9 t=> ?_;obtain⟨rfl,t⟩:=t;rw[G]at t;rcases t with ⟨sh,rfl,rfl⟩|⟨lg,rfl,x2⟩
  ·refine jA (aI @bJ (aI @ext1 @z1)) ?_
   (try unfold wJ);(try dsimp only)
   refine jB ?_;have:l.drop i=[]:=MK jO;rw[this]at k;exact .inl ⟨by rw[E,k];rfl,⟨_,x1⟩,y1⟩
  ·obtain⟨b,B,I⟩:∃b B,l.drop i=b::B:=by
    cases e:l.drop i with
    |nil=>rw[e]at lg;simp at lg
    |cons b B=>exact⟨b,B,rfl⟩
   rw[I]at k;have nb:num ((l.drop i).take 1) 0=bn b:=by rw[I];show 2*0+bn b=_;omega
   rw[nb];have K:∀c,c<Q->c≠p->N.get c=h.get c:=fun c L hp=>(u9 c L hp).trans (P c L hp);cases b with
   |true=>have ez:(((bn true:Nat):Int)==0)=false:=rfl;refine jA (aI @bJ (aI @ext1 (aI @z0 @ez))) ?_;refine next () _ _ ⟨⟨rfl,K⟩,x2, ?_⟩;rw[k,show s.t-(i+1)=r by omega];rw[<-jm,I];rfl
   |false=>
    have ez:(((bn false:Nat):Int)==0)=true:=rfl;have C:=dk rfl K;obtain⟨a2,b2,c2,d2,e2,f2,v7,g2⟩:=C.cells;have m:i<6:=jO;refine jA (aI @bJ (aI @ext1 (aI @z0 @ez))) ?_;refine uM trivial q 8 _ g2 hq rfl fun T1 t1 t2 t3=> ?_;refine jB ?_
    have u0:gQ (K4 q 2) (aj aa gt Y (d+3) 278 #[jP q 2,jI (i:Int)]) N Q _:=aij (Y:=Y) (d:=d+2) (e:=282) (A:=[jI (s.t:Int),jI (s.count:Int)]) (O:=aV .i64 (iN s.ord)) (Z:=[pv,.bool false]) (by rw[eu,fi];exact y.gm) (fun v hv=>by
     obtain⟨x,_,rfl⟩:=List.mem_map.1 hv
     exact ke _ _) C.get hq m u7
    refine aic aF u0 (fun e he=>he.1) (ah _) (.inr (.inr (.inl rfl))) fun v3 h3 n3 T2 v0 v8 u5 u1 u2 u3=> ?_;obtain⟨rfl,rfl,X,k3⟩:=u5
    have cl:=aid t1 t2 t3 u1 u2 u3 hq (fun e he=>by
     obtain⟨_,j,h7,h8,h9⟩:=he
     exact⟨j,h7,jO⟩)
    rw[aiw s.ord y.gm m];have o3:Own h3 lo _ 3 pv (aV .i64 (iN s.bw)):=C.own.au (ah _) fun b J=>k3 b (C.ne J);rw[aiv s.ord y.gm m]at X;obtain⟨a4,b4,c4,d4,e4,f4,U⟩:=qG (wS (dv:=0) y.gm m);rw[U]at X;have X:h3.get q=some ⟨282,true,[jI (s.t:Int),jI (s.count:Int),jI (a4:Int),jI (b4:Int),jI (c4:Int),jI (d4:Int),jI (e4:Int),jI (f4:Int),pv,.bool false]⟩:=X;refine K3 trivial (ke _ _) o3 (by rw[eu,fi];omega) (fun c L=> .inr (.inr (.inr L))) _ fun w T3 T4 h4 g4 k4=> ?_;have g5:h4.get q=_:=(k4 q hq fun r=>C.ne r rfl).trans X;have u4:q<n3+2:=jO;refine jB ?_;refine K2 (fun _ _=>rfl) ?_;refine jA (aI @g5 (aI @cl (aI @cf (aI @dJ @dG)))) ?_
    (try unfold wJ);(try dsimp only)
    refine jB ?_;have R:c8 s l= .ok ⟨s.t,s.count,db 0 s.ord i,s.bw++[s.ord.getD i 0]⟩ (i+1):=by rw[E,k];rfl
    have on:aV .i64 (iN (s.bw++[s.ord.getD i 0]))=aV .i64 (iN s.bw)++[jI ((s.ord.getD i 0:Nat):Int)]:=by rw[pI,mY];rfl
    refine .inr ⟨jS, ?_⟩;rw[R];refine⟨jS,x2.au jO ?_,.slice (some ⟨n3+1,0,none⟩) ((aV .i64 (iN s.bw)).length+1) (bo+((aV .i64 (iN s.bw)).length+1)),⟨?_,y.ge,u4, ?_,wS (dv:=0) y.gm m,y.Ac,y.c9⟩,fun c L=> .inr (by rw[L.inj];omega)⟩
    ·rw[aw _ _ z,k4 p x2.lt T,k3 p z]
    ·rw[get_eq];unfold Ab;simp only[U];rfl
    ·rw[on];exact .inr ⟨n3+1,jS,by rw[aw _ _ jO];exact g4,jO,jO⟩
theorem aiy(x:aY h n p S D A)(y:gH h lo n q s pv false)(t:p≠q)(u:¬aK pv p)(hd:s.count=0∨s.bw.length<s.count)(N:lo<=n)(G:100<=Y):
 af (fun b=>b=p∨b=q∨aK pv b) n (aj aa gt Y (d+5) 264 #[jP q 0,jP p 0]) h n (sq h n p S D A lo q s pv):=by
 have hq:=y.lt;obtain⟨a,b,c,dd,e,f,he,g⟩:=y.cells;have U:=y.c9;rw[aB (fun _=>W6) rfl];refine af.aA ?_;unfold Kq
 have v:(decide (0<s.count)&&decide (s.bw.length=s.count))=false:=by
  cases e:(decide (0<s.count)&&decide (s.bw.length=s.count))with
  |false=>rfl
  |true=>rw[bZ,decide_eq_true_eq,decide_eq_true_eq]at e;omega
 have o:∀(k:Value) (z:H) (r:Nat),n<=r->Ad h n p S D A lo q s pv k z r->
  af (fun b=>b=p∨b=q∨aK pv b) n (cH k (ii 3) fun l=>
       aC l (
        ai (aj aa gt Y (d+4)) 246 [jP p 0,jI (A:Int)] fun I=>
        ag [k]) (
        ag [k])) z r (sq h n p S D A lo q s pv):=by
  intro k z r m i;rcases i with ⟨rfl,E,⟨B,x1⟩,X⟩|⟨hv,E,C⟩
  ·have R:((3:Int)==3)=true:=rfl;refine jA @R ?_;refine aN aF (Ee (Y:=Y) (d:=d+2) x1 A x.lo x.hi) jO (fun b _ j=> .inr (.inl j)) fun v2 h2 n2 u1 P L=> ?_;obtain⟨_,rfl,Z⟩:=L;refine jB ?_;unfold sq;rw[E]
   exact⟨rfl,Z,X.au (ah _) fun b j ij=>P b j (by
    rcases ij with rfl|ij
    ·exact fun e=>t e.symm
    ·exact fun e=>u (e▸ij))⟩
  ·obtain⟨e,rfl⟩:∃e:Int,k=jI e:=by
    unfold sq at C;split at C
    ·exact⟨_,C.1⟩
    ·exact⟨_,C.1⟩
    ·exact⟨_,C.1⟩
   have R:(e==3)=false:=beq_eq_false_iff_ne.2 fun q=>hv (by rw[q]);refine jA @R ?_;exact C
 refine jB ?_;refine bq (Ej (Y:=Y) (d:=d+3) y) (ah _) (fun _ _ h=>h.elim) ?_;rw[v];refine jA @g ?_;refine bq (Ec (Y:=Y) (d:=d+3) x) (ah _) (fun _ _ h=>h.elim) ?_;by_cases O:s.count=0
 ·have T:((s.count:Int)==0)=true:=by rw[O];rfl
  refine jA (aI @g (aI @T @aiq)) ?_;exact aN aF (aiu (Y:=Y) (d:=d) x y t u O G) (ah _) (fun b _ j=>j.elim (fun j=> .inr (.inl j)) fun j=> .inr (.inr (.inl j))) fun k z r m Q i=>o k z r m i
 ·have T:((s.count:Int)==0)=false:=beq_eq_false_iff_ne.2 jO;refine jA (aI @g (aI @T @air)) ?_;exact aN aF (aix (Y:=Y) (d:=d) x y t u O jO N G) (ah _) (fun b _ j=> .inr j) fun k z r m Q i=>o k z r m i
end
end Go.Proofs.YtmjolmggelkjlaaGreat
