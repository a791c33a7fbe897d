import Derived.Test.YtmjolmggelkjlaaGreatMae
import Derived.WideShapes
import Derived.WalkLawsBesides
import Derived.Test.YtmjolmggelkjlaaGreatMac
import Derived.Test.YtmjolmggelkjlaaGreatMad
import Derived.Laws.BitsAllLaws
import Derived.IntWalk
open Go.Proofs.Tryz renaming prog→aa
open Nat renaming le_refl→ah, zero_le→aP, ble→bG, lt_succ_self→dO, zero_add→fy, lt_of_lt_of_le→fP, min_eq_left→gZ, le_trans→iV, add_zero→jd, mod_eq_of_lt→kP, not_lt_zero→kS, ble_eq_true_of_le→lF, pow_succ→oA, add_mul→oH, pow_le_pow_right→pS, mul_le_mul_right→qL, mul_zero→sJ, sub_self→sM, mul_one→uY, mul_comm→xq, mul_assoc→LO, pow_one→LQ, pow_zero→Z4, and_one_is_mod→am5, lt_trichotomy→am6, pow_add→am9, lt_irrefl→anc
open List renaming getD_eq_getElem?_getD→bw, getElem?_eq_getElem→bA, length_append→bE, replicate→bQ, append_nil→bR, length_cons→cK, length_take→cO, getElem_mem→dH, range→gE, getElem?_map→iW, take_length→iY, drop_drop→jf, drop_zero→js, length_replicate→jX, take_succ_eq_append_getElem→m9, map_congr_left→oC, map_append→pT, getElem?_append_right→qM, drop_eq_getElem_cons→qP, getElem?_append_left→sH, mem_singleton→sI, drop_length→sO, getElem?_cons_succ→uR, set_cons_succ→uX, any_nil→E1, take_zero→Fa, mem_append→Fb, set_append_right→LK, take_take→LP, eq_nil_of_length_eq_zero→LS, any_eq_false→ZT, countP_cons→Z3, ext_getElem→Z6, getElem_map→Z7, getElem_range→Z8, getElem?_drop→amt, take_succ_cons→amI, filter_cons→amK, any_cons→amL, take_sublist→am8, find?_some→am_, mem_of_find?_eq_some→ana, getElem_set→ane, set_append_left→anf
open Bool renaming and_eq_true→bW, not_false→cx, and_self→eA, not_true→eK, or_eq_false_iff→xf, or_false→E3, not_eq_true→amE
open BitVec renaming ofInt→bY, ofInt_natCast→uV, toNat_ofNat→uW, toNat_and→E6
open Int renaming toNat_natCast→cR, lt_irrefl→eO, reduceBEq→eP, reduceBNe→eQ, reduceLT→eR, reduceLE→eS, reduceEq→eT, reduceNe→eU, reduceAdd→eV, reduceSub→eW, reduceMul→eX, reduceNeg→eY, natCast_nonneg→oI, fdiv_eq_ediv_of_nonneg→LJ
open UInt8 renaming ofNat→gP
open Go.IntKind renaming u32→ju
open Go.Value renaming slice→kR
open Go.Lit renaming int→LL
open Option renaming some→am3
open List.Sublist renaming countP_le→am7
set_option linter.unusedVariables false
set_option linter.unusedSimpArgs false
namespace Go.Proofs.YtmjolmggelkjlaaGreat
end Go.Proofs.YtmjolmggelkjlaaGreat
namespace Go.Proofs.YtmjolmggelkjlaaGreat.Hu
structure HT where
 weight:List Int
 WA:List Int
 leaves:List Nat
 uv:Nat
def Dz(t:HT)(i:Nat):Int:=t.weight.getD i 0
def WC(t:HT):Bool:=t.uv==t.weight.length||(decide (0<t.leaves.length)&&decide (Dz t (t.leaves.getD 0 0)<=Dz t t.uv))
def leastOf(t:HT):Nat:=if WC t then t.leaves.getD 0 0 else t.uv
def taken(t:HT):HT:=if WC t then{t with leaves:=t.leaves.tail}else{t with uv:=t.uv+1}
def agd(t:HT)(a b:Nat):HT:={t with weight:=t.weight++[Dz t a+Dz t b],WA:=((t.WA.set a t.weight.length).set b t.weight.length)++[-1]}
def age(t:HT):HT:=agd (taken (taken t)) (leastOf t) (leastOf (taken t))
def fS:Nat->HT->HT
 |0,t=>t
 |k+1,t=>fS k (age t)
def DA:List Int->Int
 |[]=>0
 |x::a=>x+DA a
end Go.Proofs.YtmjolmggelkjlaaGreat.Hu
namespace Go.Proofs.YtmjolmggelkjlaaGreat
open Go.RowKit Ev Hu
theorem WD{x:Nat}(h:x<9223372036854775807):IntKind.i64.wrap ((x:Int)+1)=((x+1:Nat):Int):=by rw[aH jO jO];rfl
theorem WE{x:Nat}(h:x<9223372036854775807):IntKind.i64.wrap (((x+1:Nat):Int)-1)=((x:Nat):Int):=by rw[aH jO jO];omega
theorem RZ:type_of%(aI @OV (aI @OW (aI @aH (aI @WD (aI @WE (aI @O8 (aI @O9 (aI @O' (aI @Pa (aI @Pb (aI @Pc (aI @Pd (aI @Pe (aI @Pf (aI @Pg (aI @Ph (aI @Pj (aI @Pl (aI @Pm (aI @Pn (aI @Po (aI @Pp (aI @Pq (aI @Pr (aI @Ps (aI @Pu (aI @Pv (aI @Pw (aI @Px (aI @Py (aI @Ha (aI @Pz (aI @PA (aI @yi (aI @vN (aI @PB (aI @PC (aI @PD (aI @PE (aI @PF (aI @BR (aI @BS (aI @PH (aI @PI (aI @PJ (aI @PK (@PL))))))))))))))))))))))))))))))))))))))))))))))):=aI @OV (aI @OW (aI @aH (aI @WD (aI @WE (aI @O8 (aI @O9 (aI @O' (aI @Pa (aI @Pb (aI @Pc (aI @Pd (aI @Pe (aI @Pf (aI @Pg (aI @Ph (aI @Pj (aI @Pl (aI @Pm (aI @Pn (aI @Po (aI @Pp (aI @Pq (aI @Pr (aI @Ps (aI @Pu (aI @Pv (aI @Pw (aI @Px (aI @Py (aI @Ha (aI @Pz (aI @PA (aI @yi (aI @vN (aI @PB (aI @PC (aI @PD (aI @PE (aI @PF (aI @BR (aI @BS (aI @PH (aI @PI (aI @PJ (aI @PK (@PL))))))))))))))))))))))))))))))))))))))))))))))
theorem jA{F p q:Prop}(f:F)(x:q)(e:F->p=q:=by intro f;conv=>lhs;(try simp(disch:=first|omega|assumption) only[Nat.reduceAdd,Nat.reduceLT,RZ,f])):p:=(e f).mpr x
theorem jB{p q:Prop}(x:q)(e:p=q:=by conv=>lhs;(try simp(disch:=first|omega|assumption) only[Nat.reduceAdd,Nat.reduceLT,RZ])):p:=e.mpr x
theorem jC{F p:Prop}(f:F)(e:F->p:=by intro f;(try simp(disch:=first|omega|assumption) only[Nat.reduceAdd,Nat.reduceLT,RZ,f])):p:=e f
theorem jE{p:Prop}(e:p:=by(try simp(disch:=first|omega|assumption) only[Nat.reduceAdd,Nat.reduceLT,RZ])):p:=e
abbrev jP(b o:Nat):Value:= .pointer (some ⟨b,o,none⟩)
abbrev jI(n:Int):Value:= .int .i64 n
end Go.Proofs.YtmjolmggelkjlaaGreat
namespace Go.Proofs.YtmjolmggelkjlaaGreat
open Go.RowKit Hu
end Go.Proofs.YtmjolmggelkjlaaGreat
namespace Go.Proofs.YtmjolmggelkjlaaGreat
open Go.RowKit Ev Hu
structure agf (h:H) (n g pw:Nat) (ws:List Int):Prop where
 ex:∃wb off cap e1 o1 e2 o2 cs,h.get pw=some ⟨e1,o1,[.slice (some ⟨wb,off,none⟩) ws.length cap]⟩∧h.get wb=some ⟨e2,o2,cs⟩∧wb<n∧wb≠g∧∀i,i<ws.length->cs[off+i]? =some (jI (ws.getD i 0))
 pn:pw<n
 pg:pw≠g
section
variable (Y g cap pw N:Nat) (ws:List Int) (ph:3000000<=Y) (hNb:N<=1000000) (d n:Nat) (h:H) (xs:List Nat) (hN:xs.length=N) (hE:agf h n g pw ws) (hg:g<n) (hin:∀z∈xs,z<ws.length)
variable {W:Nat->Prop} {n0:Nat} (hn0:n0<=n) (hW:n0<=g∨W g) {R:Value->H->Nat->Prop}
include ph hNb hN hE hg hin hn0 hW
end
theorem DB(Y d n:Nat)(h:H)(v:Value)(xs:List Int)(t:Row h n 3 .i64 v xs)(u:0<xs.length)(y:xs.length<=1000000):
 af (fun _=>False) n (aj aa gt Y (d+1) 208 #[v]) h n fun g h' n'=>(0<xs.length->Own h' n n' 3 g (aW .i64 xs))∧Row h' n' 3 .i64 g xs∧∀b,aJ g b->n<=b:=by
 rw[aC (fun _=>I') rfl];refine af.aB ?_;unfold C0;rcases t with ⟨a,c,rfl,_,rfl⟩|⟨b,e,cap,o,x,rfl,r,f,i,p,z⟩
 ·exact absurd u jS
 ·refine jB ?_;refine OO trivial _ ?_;have j:(h.set n (some ⟨3,true,[]⟩)).get b=some ⟨3,o,x⟩:=by rw[aw _ _ jO];exact r
  by_cases k:xs.length=0
  ·have m:xs=[]:=List.length_eq_zero_iff.1 k;subst m;refine BK (news:=[]) trivial rfl _ _ _ _ ?_;refine jB ?_;refine⟨fun q=>absurd q jS,.inr ⟨n,0,0,true,[],rfl,get_eq _ _ _,jO,jS,by simp[aW],jS⟩,fun b f=>by rw[f.inj];exact ah n⟩
  ·have s:Src (h.set n (some ⟨3,true,[]⟩)) (n+1) (.slice (some ⟨b,e,none⟩) xs.length cap) (aW .i64 xs):=⟨b,e,cap,_,by rw[eh],j,jO,by rw[eh];exact i,by rw[eh];exact p⟩;refine acN trivial s (by rw[eh];omega) (G2 _ _) (get_eq _ _ _) rfl (dO n) 0 0 jS rfl (by rw[eh];omega) (by unfold bh;omega) (by rw[eh];omega) _ ?_;refine jB ?_;have l:Own ((h.set n (some ⟨3,true,[]⟩)).set (n+1) (some ⟨3,true,[]++aW .i64 xs⟩)) n (n+1+1) 3 (.slice (some ⟨n+1,0,none⟩) (aW .i64 xs).length (bh+(aW .i64 xs).length)) (aW .i64 xs):= .inr ⟨n+1,rfl,by rw[get_eq];rfl,jO,jO⟩;exact⟨fun _=>l,l.row,fun b f=>by rw[f.inj];omega⟩
def j3(lo a:Int)(xs:List Int):Bool:=xs.all fun x=>decide (lo<=x)&&decide (x<=a)
theorem wv{lo a:Int}{xs:List Int}:j3 lo a xs=true↔∀x∈xs,lo<=x∧x<=a:=by unfold j3;simp
theorem J6{a:Type}(d:a){xs:List a}{i:Nat}(h:i<xs.length):xs.drop i=xs.getD i d::xs.drop (i+1):=by rw[qP h,bw,bA h];rfl
theorem WG{lo a:Int}{xs:List Int}{i:Nat}(h:i<xs.length):j3 lo a (xs.drop i)=(decide (lo<=xs.getD i 0)&&decide (xs.getD i 0<=a)&&j3 lo a (xs.drop (i+1))):=by rw[J6 0 h];unfold j3;simp
theorem agh(Y d n:Nat)(h:H)(v:Value)(xs:List Int)(A:Row h n 3 .i64 v xs)(B:xs.length<=1000000000)(lo j:Int)(s:Value){W:Nat->Prop}{n0:Nat}:
 ∀(m i a:Nat),xs.length-i=m->m<a->i<=xs.length->
  af W n0 (ug Y (aj aa gt Y d) a (we Y (aj aa gt Y d)) v (jI lo) (jI j) s v (jI (xs.length:Nat)) (jI (i:Nat))) h n (fun u h' n'=>u= .bool (j3 lo j (xs.drop i))∧h'=h∧n'=n):=by
 intro m
 induction m with
 |zero=>
  intro i a z l g;obtain⟨a,rfl⟩:∃f,a=f+1:=⟨a-1,jO⟩;obtain rfl:i=xs.length:=jO;rw[ug];refine jA @eO ?_
  (try unfold we);(try dsimp only)
  refine jB ?_;simp[j3]
 |succ m y=>
  intro i a z l g;obtain⟨a,rfl⟩:∃f,a=f+1:=⟨a-1,jO⟩;obtain⟨b,x,cap,o,D,rfl,k,C,_,_,_,p⟩:=A.some jO;have q:((i:Nat):Int)<((xs.length:Nat):Int):=jO;have r:=p i jO;have t:((i:Nat):Int)+1=((i+1:Nat):Int):=jO;rw[ug,WG jO];by_cases c:xs.getD i 0<lo
  ·refine jA (aI @q (aI @k (aI @r @c))) ?_
   (try unfold we);(try dsimp only)
   refine jB ?_;rw[decide_eq_false (Int.not_le.2 c)];simp
  ·by_cases e:j<xs.getD i 0
   ·refine jA (aI @q (aI @k (aI @r (aI @c @e)))) ?_
    (try unfold we);(try dsimp only)
    refine jB ?_;rw[decide_eq_false (Int.not_le.2 e)];simp
   ·refine jA (aI @q (aI @k (aI @r (aI @c @e)))) ?_;rw[t];have:=y (i+1) a jO jO jO;rw[decide_eq_true (Int.not_lt.1 c),decide_eq_true (Int.not_lt.1 e)];exact this
theorem agi(Y d n:Nat)(h:H)(v:Value)(xs:List Int)(f:Row h n 3 .i64 v xs)(lo b:Int)(j:xs.length<=1000000)(i:3000000<=Y):
 af (fun _=>False) n (aj aa gt Y (d+1) 217 #[v,jI lo,jI b]) h n fun g h' n'=>g= .bool (j3 lo b xs)∧h'=h∧n'=n:=by
 rw[aC (fun _=>UG) rfl];refine af.aB ?_;unfold C4;have e:=f;obtain⟨a,c,rfl⟩:=f.len;refine jB ?_;exact agh Y d n h _ xs e jO lo b _ xs.length 0 Y jO jO jO
theorem agj{b:Type}{rec:FuncId->Array Value->M Value}(p q a:Value)(k:Value->M b):ku aa rec (.func (.func 288) #[] #[p,q]) [a] k=ai rec 288 [a,p,q] k:=by unfold ku;show bf (some _) _=_;rw[tq];simp only[show ni aa 288=true by kernel_rfl];exact(lK _ _).symm
theorem agk(Y d n:Nat)(h:H)(x lo c:Int)(p q:Nat)(r:p<n)(o:q<n){m l:TypeId}{k j:Bool}(f:h.get p=some ⟨m,k,[jI lo]⟩)(e:h.get q=some ⟨l,j,[jI c]⟩):
 af (fun _=>False) n (aj aa gt Y (d+1) 288 #[jI x,jP p 0,jP q 0]) h n fun i h' n'=>i= .bool (!(decide (lo<=x)&&decide (x<=c)))∧h'=h∧n'=n:=by
 rw[aC (fun _=>Ww) rfl];refine af.aB ?_;unfold J5;have g:∀z:Value,[z][0]? =some z:=fun _=>rfl;by_cases b:x<lo
 ·refine jA (aI @f (aI @e (aI @g @b))) ?_;rw[decide_eq_false (Int.not_le.2 b)];simp
 ·refine jA (aI @f (aI @e (aI @g @b))) ?_;by_cases a:c<x
  ·simp[a,Int.not_le.2 a]
  ·simp[a,Int.not_lt.1 b,Int.not_lt.1 a]
theorem ixL(Y d n:Nat)(h:H)(v:Value)(xs:List Int)(I:Row h n 3 .i64 v xs)(O:xs.length<=1000000000)(lo g:Int)(p q:Nat)(D:p<n)(C:q<n){l L:TypeId}{A z:Bool}(K:h.get p=some ⟨l,A,[jI lo]⟩)(J:h.get q=some ⟨L,z,[jI g]⟩)(t:Value){W:Nat->Prop}{n0:Nat}(c:n0<=n):
 ∀(m i a:Nat),xs.length-i=m->m<a->i<=xs.length->
  af W n0 (ur Y (aj aa gt Y (d+1)) a (zj Y (aj aa gt Y (d+1))) v (.func (.func 288) #[] #[jP p 0,jP q 0]) t (jI (xs.length:Nat)) (jI (i:Nat))) h n (fun x h' n'=>(∃r:Int,x=jI r∧decide (0<=r)= !j3 lo g (xs.drop i))∧h'=h∧n'=n):=by
 intro m
 induction m with
 |zero=>
  intro i a E j e;obtain⟨a,rfl⟩:∃f,a=f+1:=⟨a-1,jO⟩;obtain rfl:i=xs.length:=jO;rw[ur];refine jA @eO ?_
  (try unfold zj);(try dsimp only)
  refine jB ?_;exact⟨-1,rfl,by simp[j3]⟩
 |succ m B=>
  intro i a E j e;obtain⟨a,rfl⟩:∃f,a=f+1:=⟨a-1,jO⟩;obtain⟨b,y,cap,o,Q,rfl,G,P,_,_,_,k⟩:=I.some jO;have l:((i:Nat):Int)<((xs.length:Nat):Int):=jO;have N:=k i jO;have u:((i:Nat):Int)+1=((i+1:Nat):Int):=jO;rw[ur];refine jA (aI @l (aI @G (aI @N @agj))) ?_;refine bz (agk Y d n h (xs.getD i 0) lo _ p q D C K J) c (fun _ _ h=>h.elim) ?_;rw[WG jO];by_cases s:(decide (lo<=xs.getD i 0)&&decide (xs.getD i 0<=g))=true
  ·rw[s];refine jB ?_;rw[u];exact B (i+1) a jO jO jO
  ·rw[Bool.eq_false_iff.2 s];refine jB ?_
   (try unfold zj);(try dsimp only)
   refine jB ?_;exact⟨(i:Nat),rfl,jS⟩
theorem agl(Y d n:Nat)(h:H)(v:Value)(xs:List Int)(k:Row h n 3 .i64 v xs)(lo g:Int)(x:xs.length<=1000000)(q:3000000<=Y):
 af (fun _=>False) n (aj aa gt Y (d+4) 285 #[v,jI lo,jI g]) h n fun i h' n'=>i= .bool (j3 lo g xs):=by
 rw[aC (fun _=>Wq) rfl];refine af.aB ?_;unfold J3;refine gu trivial _ _ ?_;refine gu trivial _ _ ?_;obtain⟨e,f⟩:∃e,(h.set n (some ⟨3,true,(jI lo).cells.toList⟩)).set (n+1) (some ⟨3,true,(jI g).cells.toList⟩)=e:=⟨_,rfl⟩;have u:e.get n=some ⟨3,true,[jI lo]⟩:=by rw[<-f,aw _ _ jO,get_eq];rfl
 have t:e.get (n+1)=some ⟨3,true,[jI g]⟩:=by rw[<-f,get_eq];rfl
 have s:∀b,b<n->e.get b=h.get b:=fun b y=>by rw[<-f,aw _ _ jO,aw _ _ jO]
 rw[f];have j:Row e (n+2) 3 .i64 v xs:=k.au jO s;obtain⟨a,c,rfl⟩:=k.len
 have m:af (fun _=>False) (n+2) (aj aa gt Y (d+2) 289 #[.slice a xs.length c,.func (.func 288) #[] #[jP n 0,jP (n+1) 0]]) e (n+2) fun i h' n'=>(∃r:Int,i=jI r∧decide (0<=r)= !j3 lo g xs)∧h'=e∧n'=n+2:=by rw[aC (fun _=>Wz) rfl];refine af.aB ?_;unfold Dy;refine jB ?_;exact ixL Y d (n+2) e _ xs j jO lo g n (n+1) jO jO u t _ (ah _) xs.length 0 Y jO jO jO
 have l:af (fun _=>False) (n+2) (aj aa gt Y (d+3) 287 #[.slice a xs.length c,.func (.func 288) #[] #[jP n 0,jP (n+1) 0]]) e (n+2) fun i h' n'=>i= .bool (!j3 lo g xs)∧h'=e∧n'=n+2:=by rw[aC (fun _=>Wv) rfl];refine af.aB ?_;unfold J4;refine aN aE m (ah _) (fun _ _ h=>h.elim) fun i h' n' _ _ p=> ?_;obtain⟨⟨r,rfl,o⟩,rfl,rfl⟩:=p;refine jB ?_;rw[o]
 refine bz l jO (fun _ _ h=>h.elim) ?_;rw[GO,Bool.not_not];exact jE
theorem DC {g:Type} {W:Nat->Prop} {n0:Nat} {h:H} {n:Nat} {Q:g->H->Nat->Prop} {Y d:Nat} {f:FuncId} {args:List Value} {b:Bool} (s:af (fun _=>False) n (aj aa gt Y d f ⟨args⟩) h n fun i _ _=>i= .bool b) (l:n0<=n) {k:Value->M g}
 (x:∀h1 a,n<=a->(∀c,c<n->h1.get c=h.get c)->af W n0 (k (.bool b)) h1 a Q):af W n0 (ai (aj aa gt Y d) f args k) h n Q:=by
 refine aN aE s l (fun _ _ h=>h.elim) fun p h1 a e o j=> ?_;subst j;exact x h1 a e fun c m=>o c m id
end Go.Proofs.YtmjolmggelkjlaaGreat
namespace Go.Proofs.YtmjolmggelkjlaaGreat.Ev
open Go Go.RowKit
section
variable {P:Program} {h:H} {n f:Nat} {t:TypeId} {v:Value}
theorem agm{k:IntKind}(a:P.underlying t=some (.int k))(x:eI P h n (f+1) t v):∃i,v= .int k i∧(LL k i).wf=true:=by unfold eI at x;rw[a]at x;exact x
theorem agn(b:P.underlying t=some .string)(x:eI P h n (f+1) t v):∃l:List UInt8,v= .string ⟨l.toArray⟩∧l.length<=maxLen:=by unfold eI at x;rw[b]at x;obtain⟨s,a,c⟩:=x;exact⟨s.data.toList,by rw[a],by rw[<-Bq,<-abV];exact c⟩
theorem ago(d:jH P 8 t=some [t])(c:mN P t=false)(x:mm P h n t v):eI P h n 8 t v:=by
 obtain⟨f,a,q⟩:=x;rw[d]at a;cases a;rcases q with ⟨b,_⟩|⟨_,e⟩
 ·rw[c]at b;cases b
 ·exact e.1
theorem agp{b:List TypeId}(g:jH P 8 t=some b)(f:mN P t=true)(x:mm P h n t v):∃cs:List Value,v= .agg cs.toArray∧dR (eI P h n 8) b cs:=by
 obtain⟨d,a,q⟩:=x;rw[g]at a;cases a;rcases q with ⟨_,cs,e,i⟩|⟨c,_⟩
 ·exact⟨cs.toList,by rw[e],i⟩
 ·rw[f]at c;cases c
theorem WH{f e:Type}{R:f->e->Prop}{a g d:f}{l:List e}(x:dR R [a,g,d] l):∃b b' c,l=[b,b',c]∧R a b∧R g b'∧R d c:=by
 match l,x with
 |[b,b',c],x=>exact⟨b,b',c,rfl,x.1,x.2.1,x.2.2.1⟩
theorem agq{i:Int}(h:(LL .i64 i).wf=true):-9223372036854775808<=i∧i<=9223372036854775807:=by have b:IntKind.i64.min=-9223372036854775808:=jD;have a:IntKind.i64.max=9223372036854775807:=jD;simp only[Lit.wf,b,a,bW,decide_eq_true_eq]at h;exact h
end
theorem WI{a:Type}{W:Nat->Prop}{n0:Nat}{h:H}{n:Nat}{Q:a->H->Nat->Prop}{T f:Prop}(_:T)(_:f){sz:Nat}(b off:Nat)(k:Value->M a){B:AB}(d:h.get b=some B)(e:b<n)(c:off+sz<=B.cells.length)(x:af W n0 (k (.agg ((B.cells.drop off).take sz).toArray)) h n Q):af W n0 (aT sz (jP b off) k) h n Q:=G3 b off k d e c x
section
variable {P:Program} {w:World} {f:Nat} {t:TypeId} {v:Value}
end
section
variable {β:Type} {W:Nat->Prop} {n0:Nat} {h:H} {n:Nat} {Q:β->H->Nat->Prop} {P:Program}
theorem fK{T e:Prop}(_:T)(_:e){sz:Nat}(b off:Nat)(k:Value->M β){B:AB}(c:h.get b=some B)(d:b<n)(a:off+sz<=B.cells.length)(x:af W n0 (k (.agg ((B.cells.drop off).take sz).toArray)) h n Q):af W n0 (aT sz (jP b off) k) h n Q:=G3 b off k c d a x
theorem WJ{a b:Tk}(h1:∀e∈a.log,e.wr=false)(h2:∀e∈b.log,e.wr=false)(h:∀e∈a.log,e.b<b.n)(g:∀e∈b.log,e.b<a.n):a.cA b=false:=by
 unfold Tk.cA;simp only[xf,ZT,bW,decide_eq_true_eq,not_and];refine⟨⟨⟨fun x c d=> ?_,fun x c d=> ?_⟩,fun x c f=> ?_⟩,fun x c f=> ?_⟩
 ·rw[h1 x c]at d;cases d
 ·rw[h2 x c]at d;cases d
 ·have:=h x c;omega
 ·have:=g x c;omega
structure RO (t:Tk) (n:Nat):Prop where
 wr:∀e∈t.log,e.wr=false
 lt:∀e∈t.log,e.b<n
 n:t.n=n
theorem RO.cA{a b:Tk}{m:Nat}(x:RO a m)(y:RO b m):cz a b=false:=(vw a b).trans<|WJ x.wr y.wr (fun e c=>by rw[y.n];exact x.lt e c) (fun e c=>by rw[x.n];exact y.lt e c)
theorem lN{T:Prop}(c:T)(b off:Nat)(k:Value×Tk->M β){B:AB}(e:h.get b=some B)(a:b<n){v:Value}(d:B.cells[off]? =some v)(x:∀T,RO T n->af W n0 (k (v,T)) h n Q):af W n0 ((az (aQ (jP b off) M.ret)).bind k) h n Q:=
 G0 c b off k e a d (x _ ⟨jS,by simpa using a,rfl⟩)
theorem lO{Y d:Nat}{gt:Nat->Hint}(hd:kD P=true){f:FuncId}{vs:List Value}{v:Value}(s:af (fun _=>False) n (aj P gt Y d f ⟨vs⟩) h n fun b h' n'=>b=v∧h'=h∧n'=n)(g:n0<=n){k:Value×Tk->M β}(x:∀T,RO T n->af W n0 (k (v,T)) h n Q):af W n0 ((az (ai (aj P gt Y d) f vs M.ret)).bind k) h n Q:=by
 refine G1 hd s g (fun _ _ h=>h.elim) fun b h' n' L _ _ a j c=> ?_;obtain⟨rfl,rfl,rfl⟩:=a;refine x _ ⟨fun e i=> ?_,j,rfl⟩;cases a:e.wr with
 |false=>rfl
 |true=>exact(c e i a).elim
end
def bZ(ws:List Nat):List Value:=ws.map fun(x:Nat)=>Value.int .u8 (x:Int)
theorem gH(ws:List Nat):(bZ ws).length=ws.length:=by unfold bZ;simp
theorem DD(a b:List Nat):bZ (a++b)=bZ a++bZ b:=by unfold bZ;simp
def bS(ws:List Nat):List UInt8:=ws.map gP
theorem J7:∀ws:List Nat,lJ (bZ ws)=some (bS ws)
 |[]=>rfl
 |x::ws=>by
  show(match lJ (bZ ws)with
   |some l=>some (gP ((x:Int)).toNat::l)
   |none=>none)=_
  rw[J7 ws];rfl
section
variable {β:Type} {W:Nat->Prop} {n0:Nat} {h:H} {n:Nat} {Q:β->H->Nat->Prop} {P:Program}
theorem wx{b off cp:Nat}{B:AB}{ws:List Nat}(f:h.get b=some B)(i:b<n)(d:off+ws.length<=B.cells.length)(g:(B.cells.drop off).take ws.length=bZ ws)(k:Value->M β)(y:af W n0 (k (.string ⟨(bS ws).toArray⟩)) h n Q):af W n0 (iI (.slice (some ⟨b,off,none⟩) ws.length cp) k) h n Q:=by
 obtain⟨L,a,o⟩:=rA (n:=n) f i ws.length off d;rw[g]at a;refine jG ?_
 have e:((ig b off ws.length).bind fun c=>match lJ c with
  |some l=>M.ret (Value.string ⟨⟨l⟩⟩)
  |none=> .fail) h n=some ⟨.string ⟨(bS ws).toArray⟩,h,n,L++[]⟩:=by
  rw[mM];refine bX a ?_;rw[J7];rfl
 obtain⟨p,m,j⟩:=BG (W:=W) (n0:=n0) e (by simpa using o);exact af.step m (ah _) j y
theorem WK{lo:Nat}{e:TypeId}{v:Value}{ws:List Nat}(o:Own h lo n e v (bZ ws))(k:Value->M β)(y:af W n0 (k (.string ⟨(bS ws).toArray⟩)) h n Q):af W n0 (iI v k) h n Q:=by
 rcases o with ⟨rfl,a⟩|⟨b,rfl,c,_,d⟩
 ·have:ws=[]:=by unfold bZ at a;simpa using a
  subst this;exact y
 ·rw[gH];exact wx (B:=⟨e,true,bZ ws⟩) c d (by simp[gH]) (by rw[js,<-gH ws,iY]) k y
theorem rX {T:Prop} (c:T) {e:TypeId} {x:Value} (a:one x=true) {lo:Nat} {v:Value} {cs:List Value} (o:Own h lo n e v cs) (i:cs.length+1<=1099511627776) (f:∀b,aJ v b->n0<=b∨W b) (k:Value->M β)
 (y:∀h',h'.get (n+1)=some ⟨e,true,cs++[x]⟩->(∀b,b<n->¬aJ v b->h'.get b=h.get b)->af W n0 (k (.slice (some ⟨n+1,0,none⟩) (cs.length+1) (bh+(cs.length+1)))) h' (n+2) Q):af W n0 (bO e 1 x fun w=>bL e 1 v w k) h n Q:=by
 rcases o with ⟨rfl,rfl⟩|⟨b,rfl,d,m,j⟩
 ·exact OM c a k (y _ (get_eq _ _ _) fun b d _=>by rw[aw _ _ jO,aw _ _ jO])
 ·refine OL c a d j rfl i jO (f b ⟨_,_,_,rfl⟩) k (y _ (get_eq _ _ _) fun c l g=> ?_);have:c≠b:=fun e=>g ⟨0,_,_,by rw[e]⟩;rw[aw _ _ jO,aw _ _ this,aw _ _ jO]
end
section
variable {β:Type} {W:Nat->Prop} {n0:Nat} {h:H} {n:Nat} {Q:β->H->Nat->Prop} {P:Program}
theorem agr(v:Value)(k:Value×Tk->M β)(y:∀T,RO T n->af W n0 (k (v,T)) h n Q):af W n0 ((az (M.ret v)).bind k) h n Q:=
 mj (L:=[]) rfl (ah _) jS (y _ ⟨jS,jS,rfl⟩)
end
structure RB (t:Tk) (m:Nat):Prop where
 wr:∀e∈t.log,e.wr=false
 lt:∀e∈t.log,e.b<m
 le:m<=t.n
theorem RB.cA{a b:Tk}{m:Nat}(x:RB a m)(y:RB b m):cz a b=false:=(vw a b).trans<|WJ x.wr y.wr (fun e c=>fP (x.lt e c) y.le) (fun e c=>fP (y.lt e c) x.le)
section
variable {β:Type} {W:Nat->Prop} {n0:Nat} {h:H} {n m:Nat} {Q:β->H->Nat->Prop} {P:Program}
theorem gI{T:Prop}(f:T)(b off:Nat)(k:Value×Tk->M β){B:AB}(d:h.get b=some B)(e:b<m)(c:m<=n){v:Value}(a:B.cells[off]? =some v)(x:∀T,RB T m->af W n0 (k (v,T)) h n Q):af W n0 ((az (aQ (jP b off) M.ret)).bind k) h n Q:=
 G0 f b off k d jO a (x _ ⟨jS,by simpa using e,c⟩)
theorem WL(v:Value)(k:Value×Tk->M β)(a:m<=n)(y:∀T,RB T m->af W n0 (k (v,T)) h n Q):af W n0 ((az (M.ret v)).bind k) h n Q:=
 mj (L:=[]) rfl (ah _) jS (y _ ⟨jS,jS,a⟩)
theorem lP (hd:kD P=true) {gt:Nat->Hint} {Y d:Nat} {f:FuncId} {vs:List Value} {Q':Value->H->Nat->Prop} (s:af (fun _=>False) n (aj P gt Y d f ⟨vs⟩) h n Q') (j:n0<=n) {k:Value×Tk->M β}
 (x:∀v h1 a T,n<=a->(∀b,b<n->h1.get b=h.get b)->Q' v h1 a->RB T n->af W n0 (k (v,T)) h1 a Q):af W n0 ((az (ai (aj P gt Y d) f vs M.ret)).bind k) h n Q:=by
 refine G1 hd s j (fun _ _ h=>h.elim) fun v h1 a L g p c o i=>x v h1 a _ g (fun b m=>p b m id) c ⟨fun e l=> ?_,o,ah _⟩;cases c:e.wr with
 |false=>rfl
 |true=>exact(i e l c).elim
theorem ags{m:M Value}{Q':Value->H->Nat->Prop}(s:af W n0 m h n Q'){k:Value×Tk->M β}(x:∀v h1 a T,n<=a->Q' v h1 a->af W n0 (k (v,T)) h1 a Q):af W n0 ((az m).bind k) h n Q:=by obtain⟨v,h1,a,L,e,b,d,c⟩:=s;exact mj e b d (x v h1 a _ b c)
theorem DE{T:Prop}(e:T)(b off:Nat)(k:Value×Tk->M β){B:AB}(c:h.get b=some B)(d:b<n){v:Value}(a:B.cells[off]? =some v)(x:∀T,T.n=n->T.n1=n->T.log=[⟨false,b,some off⟩]->af W n0 (k (v,T)) h n Q):af W n0 ((az (aQ (jP b off) M.ret)).bind k) h n Q:=
 G0 e b off k c d a (x _ rfl rfl rfl)
theorem WM (hd:kD P=true) {gt:Nat->Hint} {Y d:Nat} {f:FuncId} {vs:List Value} {W':Nat->Prop} {Q':Value->H->Nat->Prop} (s:af W' n (aj P gt Y d f ⟨vs⟩) h n Q') (i:n0<=n) (j:∀b,b<n->W' b->n0<=b∨W b) {k:Value×Tk->M β}
 (x:∀v h1 g T,n<=g->(∀b,b<n->¬W' b->h1.get b=h.get b)->Q' v h1 g->T.n=n->(∀e∈T.log,e.b<n)->(∀e∈T.log,e.wr=true->W' e.b)->af W n0 (k (v,T)) h1 g Q):af W n0 ((az (ai (aj P gt Y d) f vs M.ret)).bind k) h n Q:=
 G1 hd s i j fun v h1 g L a b c m l=>x v h1 g _ a b c rfl m l
theorem WN{a b:Tk}{p off:Nat}{W':Nat->Prop}(h1:a.n=n)(h2:a.n1=n)(j:a.log=[⟨false,p,some off⟩])(l:b.n=n)(i:∀e∈b.log,e.b<n)(h:∀e∈b.log,e.wr=true->W' e.b)(k:p<n)(g:¬W' p):cz a b=false:=by
 rw[vw];unfold Tk.cA;simp only[xf,ZT,bW,decide_eq_true_eq,not_and,j,sI];refine⟨⟨⟨fun x c f=> ?_,fun x c f=> ?_⟩,fun x c d=> ?_⟩,fun x c d=> ?_⟩
 ·subst c;cases f
 ·simp only[amL,E1,E3,amE];unfold En.meets;have:x.b≠p:=fun e=>g (e▸h x c f);simp[this]
 ·subst c;simp only at d⊢;omega
 ·have:=i x c;omega
end
theorem dE {g c:Type} {W:Nat->Prop} {n0:Nat} {Q:g->H->Nat->Prop} (N:Nat) (b:Nat->Nat->c->M g) (I:Nat->c->H->Nat->Prop)
 (last:∀a s h n,I N s h n->af W n0 (b (a+1) N s) h n Q)
 (step:∀a i s h n,i<N->I i s h n->(∀d h' n',I (i+1) d h' n'->af W n0 (b a (i+1) d) h' n' Q)->af W n0 (b (a+1) i s) h n Q):
 ∀(a i:Nat) (s:c) (h:H) (n:Nat),i<=N->N-i<a->I i s h n->af W n0 (b a i s) h n Q:=by
 have e:∀(m a i:Nat) (s:c) (h:H) (n:Nat),N-i=m->i<=N->N-i<a->I i s h n->af W n0 (b a i s) h n Q:=by
  intro m
  induction m with
  |zero=>intro a i s h n k l o x;obtain⟨a,rfl⟩:∃f,a=f+1:=⟨a-1,jO⟩;obtain rfl:i=N:=jO;exact last a s h n x
  |succ m j=>intro a i s h n k l o x;obtain⟨a,rfl⟩:∃f,a=f+1:=⟨a-1,jO⟩;exact step a i s h n jO x fun d h' n' y=>j a (i+1) d h' n' jO jO jO y
 exact fun a i s h n=>e _ a i s h n rfl
section
variable {h h':H} {n n' lo hi:Nat} {e e' es ei:TypeId} {v v':Value} {cs cs':List Value} {xss:List (List Int)}
theorem Own.elem(o:Own h lo n e v cs){b:Nat}(a:aJ v b):∃B,h.get b=am3 B∧B.elem=e:=by
 rcases o with ⟨rfl,_⟩|⟨c,rfl,d,_⟩
 ·exact a.not_nil.elim
 ·rw[a.inj];exact⟨_,d,rfl⟩
theorem Row.elem{k:IntKind}{xs:List Int}(r:Row h n e k v xs){b:Nat}(f:aJ v b):∃B,h.get b=am3 B∧B.elem=e:=by
 rcases r with ⟨a,c,rfl,d,_⟩|⟨c,g,cap,o,j,rfl,i,_⟩
 ·obtain⟨o,l,k,q⟩:=f;cases q;exact absurd rfl (d b o)
 ·rw[f.inj];exact⟨_,i,rfl⟩
theorem Own.apart(o:Own h lo n e v cs){a:Nat}(g:Own h a n e' v' cs')(c:e≠e'){b:Nat}(i:aJ v b):¬aJ v' b:=fun d=>by obtain⟨B,l,k⟩:=o.elem i;obtain⟨m,f,j⟩:=g.elem d;rw[l]at f;cases f;exact c (k.symm.trans j)
theorem Row.apart{k:IntKind}{xs:List Int}(o:Row h n e k v xs){a:Nat}(g:Own h a n e' v' cs')(c:e≠e'){b:Nat}(i:aJ v b):¬aJ v' b:=fun d=>by obtain⟨B,m,l⟩:=o.elem i;obtain⟨p,f,j⟩:=g.elem d;rw[m]at f;cases f;exact c (l.symm.trans j)
theorem DF{a:Type}(d:a)(l:List a)(x:a)(i:Nat):(l++[x]).getD i d=if i<l.length then l.getD i d else if i=l.length then x else d:=by
 rw[bw,bw];split
 ·rename_i h;rw[sH h]
 ·rename_i h;split
  ·rename_i b;subst b;simp
  ·rw[List.getElem?_eq_none (by simp;omega)];rfl
end
section
variable {h h':H} {n n':Nat} {e es ei:TypeId} {v:Value} {cs:List Value} {xss:List (List Int)}
end
section
variable {P:Program} {h:H} {n f:Nat} {t e:TypeId} {v:Value}
end
section
variable {β:Type} {W:Nat->Prop} {n0:Nat} {h:H} {n m:Nat} {Q:β->H->Nat->Prop} {P:Program}
theorem DG{b:Nat}{B:AB}(d:h.get b=some B)(f:b<n):∀(c k:Nat),k+c<=B.cells.length->∃L,cT b k c h n=some ⟨(B.cells.drop k).take c,h,n,L⟩∧∀e∈L,e.wr=false∧e.b=b
 |0,k,_=>⟨[],by rw[Fa];rfl,jS⟩
 |c+1,k,j=>by
  obtain⟨L,e,g⟩:=DG d f c (k+1) jO;have a:k<B.cells.length:=jO;refine⟨[⟨false,b,some k⟩]++(L++[]), ?_, ?_⟩
  ·unfold cT
   have i:rd b k h n=some ⟨B.cells[k],h,n,[⟨false,b,some k⟩]⟩:=by unfold rd;simp only[f,d,if_true,bA a]
   refine bX i (bX e ?_);rw[qP a,amI];rfl
  ·intro x hx;simp only[bR,Fb,List.mem_cons,List.not_mem_nil,or_false]at hx;rcases hx with rfl|hx
   ·exact⟨rfl,rfl⟩
   ·exact g x hx
theorem agt{T r:Prop}(_:T)(_:r){sz:Nat}(b off:Nat)(k:Value×Tk->M β){B:AB}(o:h.get b=some B)(d:b<n)(l:off+sz<=B.cells.length)(x:∀T,(∀m,b<m->m<=n->RB T m)->af W n0 (k (.agg ((B.cells.drop off).take sz).toArray,T)) h n Q):
 af W n0 ((az (aT sz (jP b off) M.ret)).bind k) h n Q:=by
 obtain⟨L,q,p⟩:=DG (n:=n) o d sz off l
 have e:((ig b off sz).bind fun i=>M.ret (Value.agg ⟨i⟩)) h n=some ⟨.agg ((B.cells.drop off).take sz).toArray,h,n,L++[]⟩:=by rw[mM];exact bX q rfl
 have g:=o9 e;rw[bR]at g;have c:∀y∈L.filter (fun e=> !(decide (n<=e.b)&&decide (e.b<n))),y.wr=false∧y.b=b:=fun y a=>p y (List.mem_filter.1 a).1;exact mj g (ah _) (fun y a f=>by rw[(c y a).1]at f;cases f) (x _ fun m d j=>⟨fun y a=>(c y a).1,fun y a=>by rw[(c y a).2];exact d,j⟩)
theorem J8{T:Prop}(_:T)(b off:Nat)(v:Value)(k:Value->M β){e:TypeId}{cs:List Value}(d:h.get b=some ⟨e,true,cs⟩)(f:b<n)(c:off<cs.length)(h1:one v=true)(a:n0<=b∨W b)(x:af W n0 (k undef) (h.set b (some ⟨e,true,cs.set off v⟩)) n Q):af W n0 (aK (jP b off) v k) h n Q:=
 (vJ b off v k f h1).2 (by rw[d];exact⟨rfl,c,a,x⟩)
theorem agu{e:TypeId}{z:Value}(l:Nat)(k:Value×Tk->M β){b a:IntKind}(c:l<=1099511627776)(x:af W n0 (k (.slice (some ⟨n,0,none⟩) l l,⟨n,n+1,[]⟩)) (h.set n (some ⟨e,true,bQ l z⟩)) (n+1) Q):af W n0 ((az (o4 e [z] (.int b l) (.int a l) M.ret)).bind k) h n Q:=by
 have d:o4 e [z] (.int b l) (.int a l) M.ret=ek ((jz e (kB [z] l)).bind fun id=>M.ret (kR (some ⟨id,0,none⟩) l l)) M.ret:=by
  show(match bG l l with
   |true=>match bG l 1099511627776 with
    |true=>ek ((jz e (kB [z] l)).bind fun id=>M.ret (kR (some ⟨id,0,none⟩) l l)) M.ret
    |false=> .fail
   |false=> .fail)=_
  rw[lF (ah l),lF c]
 rw[d,GY];exact mj (o9 (qn _ _ (fun id=>kR (some ⟨id,0,none⟩) l l) _ _)) (Nat.le_succ n) jS x
end
end Go.Proofs.YtmjolmggelkjlaaGreat.Ev
namespace Go.Proofs.YtmjolmggelkjlaaGreat
open Go
def bn(b:Bool):Nat:=if b then 1 else 0
theorem rY(b:Bool):bn b<2:=by cases b<;>decide
def num:List Bool->Nat->Nat
 |[],a=>a
 |b::l,a=>num l (2*a+bn b)
theorem uw:∀(l m:List Bool) (a:Nat),num (l++m) a=num m (num l a)
 |[],_,_=>rfl
 |b::l,m,a=>uw l m _
theorem J9:∀(l:List Bool) (a k:Nat),a<2^k->num l a<2^(k+l.length)
 |[],a,k,h=>h
 |b::l,a,k,h=>by have:=rY b;have:=J9 l (2*a+bn b) (k+1) (by rw[oA];omega);rw[cK,show k+(l.length+1)=k+1+l.length by omega];exact this
theorem hH(l:List Bool):num l 0<2^l.length:=by have:=J9 l 0 0 jD;rwa[fy]at this
def b8:Nat->Nat->List Bool
 |_,0=>[]
 |v,n+1=>b8 (v/2) n++[decide (v %2=1)]
theorem gT:∀(n v:Nat),(b8 v n).length=n
 |0,_=>rfl
 |n+1,v=>by simp[b8,gT n]
theorem J'(v:Nat):bn (decide (v %2=1))=v %2:=by unfold bn;by_cases h:v %2=1<;>simp[h]<;>omega
theorem Ka:∀(n v:Nat),num (b8 v n) 0=v %2^n
 |0,v=>by simp[b8,num,Nat.mod_one]
 |n+1,v=>by show num (b8 (v/2) n++[decide (v %2=1)]) 0=_;rw[uw,Ka n];show 2*(v/2 %2^n)+bn _=_;rw[J',oA,xq (2^n) 2,Nat.mod_mul];omega
theorem w8{x:Nat}(h:x<256):IntKind.u8.wrap (x:Int)=(x:Int):=IntWalk.u8_in _ jO
theorem fL{x:Nat}(h:x<4294967296):IntKind.u32.wrap (x:Int)=(x:Int):=IntWalk.u32_in _ jO
theorem fdiv_pow(v k:Nat)(a:Nat)(h:k<=a):((v:Int)).fdiv (2^(min ((k:Int)).toNat a))=((v/2^k:Nat):Int):=by
 have e:min ((k:Int)).toNat a=k:=by rw[cR];exact gZ h
 rw[e];have b:((2:Int)^k)=((2^k:Nat):Int):=by push_cast;rfl
 rw[b,LJ _ (oI _)];rfl
theorem agv{a:Nat}(d:a<4294967296):IntKind.u32.wrap ((bY IntKind.u32.bits (a:Int)&&&bY IntKind.u32.bits (1:Int)).toNat:Int)=((a %2:Nat):Int):=by
 have c:(bY 32 (a:Int)).toNat=a:=by rw[uV,uW];exact kP jO
 show IntKind.u32.wrap ((bY 32 (a:Int)&&&bY 32 (1:Int)).toNat:Int)=_;rw[E6,c];have b:(bY 32 (1:Int)).toNat=1:=jD;rw[b,am5];exact fL jO
end Go.Proofs.YtmjolmggelkjlaaGreat
namespace Go.Proofs.YtmjolmggelkjlaaGreat.Cn
open Go
theorem qw:∀(l:List Bool) (a:Nat),num l a=a*2^l.length+num l 0
 |[],a=>by simp[num]
 |b::l,a=>by
  show num l (2*a+bn b)=_;have c:num (b::l) 0=num l (bn b):=by show num l (2*0+bn b)=_;rw[sJ,fy]
  rw[qw l (2*a+bn b),c,qw l (bn b),cK,oA,oH,xq 2 a,LO,xq 2];omega
theorem zu(l:List Bool)(b:Bool):num (l++[b]) 0=2*num l 0+bn b:=by rw[uw];rfl
theorem WQ(k:Nat):num (bQ k false) 0=0:=by
 induction k with
 |zero=>rfl
 |succ k a=>rw[List.replicate_succ];exact a
theorem agw(l:List Bool)(k:Nat):num (l++bQ k false) 0=num l 0*2^k:=by rw[uw,qw,WQ,jX,jd]
theorem agx{a b:Bool}(h:bn a=bn b):a=b:=by cases a<;>cases b<;>simp[bn]at h<;>rfl
theorem WS:∀{l m:List Bool},l.length=m.length->num l 0=num m 0->l=m
 |[],[],_,_=>rfl
 |[],_::_,h,_=>by simp at h
 |_::_,[],h,_=>by simp at h
 |a::l,b::m,h,e=>by
  have f:l.length=m.length:=by simpa using h
  have e:num l (bn a)=num m (bn b):=by
   have d:num (a::l) 0=num l (bn a):=by show num l (2*0+bn a)=_;rw[sJ,fy]
   have c:num (b::m) 0=num m (bn b):=by show num m (2*0+bn b)=_;rw[sJ,fy]
   rw[<-d,<-c];exact e
  rw[qw l,qw m,f]at e;have i:=hH l;have j:=hH m;rw[f]at i
  have g:bn a=bn b:=by
   have n:=rY a;have k:=rY b;rcases am6 (bn a) (bn b)with q|q|q
   ·have d:bn a=0:=jO;have c:bn b=1:=jO;rw[d,c]at e;omega
   ·exact q
   ·have d:bn b=0:=jO;have c:bn a=1:=jO;rw[d,c]at e;omega
  rw[g]at e;rw[agx g,WS f jO]
theorem wy{l:List Bool}{v:Nat}(h:num l 0=v):l=b8 v l.length:=by refine WS (gT _ _).symm ?_;rw[Ka,<-h,kP (hH l)]
theorem zv{n v:Nat}(h:v<2^n):num (b8 v n) 0=v:=by rw[Ka,kP h]
theorem WT{l:List Bool}{n m:Nat}(h:n<=m)(c:m<=l.length):num (l.take n) 0*2^(m-n)<=num (l.take m) 0∧num (l.take m) 0<(num (l.take n) 0+1)*2^(m-n):=by
 have e:l.take m=l.take n++(l.drop n).take (m-n):=by rw[<-List.take_append_drop n (l.take m),LP,gZ h,List.drop_take]
 have a:((l.drop n).take (m-n)).length=m-n:=by simp;omega
 have b:=hH ((l.drop n).take (m-n));rw[a]at b;rw[e,uw,qw ((l.drop n).take (m-n)) (num (l.take n) 0),a];constructor
 ·omega
 ·rw[oH];omega
def cn(ln:List Nat)(n:Nat):Nat:=ln.countP fun x=>x==n
def eZ(ln:List Nat)(n i:Nat):Nat:=cn (ln.take i) n
theorem rZ{ln:List Nat}{i:Nat}(h:i<ln.length)(n:Nat):eZ ln n (i+1)=eZ ln n i+(if ln.getD i 0=n then 1 else 0):=by unfold eZ cn;rw[m9 h,List.countP_append,bw,bA h];simp only[Z3,List.countP_nil,Option.getD_some,beq_iff_eq,fy]
theorem ux(ln:List Nat)(n:Nat):eZ ln n ln.length=cn ln n:=by unfold eZ;rw[iY]
theorem WV{ln:List Nat}{n i j:Nat}(h:i<=j):eZ ln n i<=eZ ln n j:=by
 unfold eZ cn;have:ln.take i=(ln.take j).take i:=by rw[LP,gZ h]
 rw[this];exact am7 (am8 _ _)
theorem Kb(ln:List Nat)(n i:Nat):eZ ln n i<=cn ln n:=by unfold eZ cn;exact am7 (am8 _ _)
theorem DH{ln:List Nat}{i:Nat}(h:i<ln.length):eZ ln (ln.getD i 0) i<cn ln (ln.getD i 0):=by have a:=rZ h (ln.getD i 0);rw[if_pos rfl]at a;have:=Kb ln (ln.getD i 0) (i+1);omega
def bU(ln:List Nat):Nat->Nat
 |0=>0
 |n+1=>2*(bU ln n+cn ln n)
def bg(ln:List Nat):Nat->Nat
 |0=>0
 |n+1=>bg ln n+cn ln n
def da(ln:List Nat)(i:Nat):Nat:=bU ln (ln.getD i 0)+eZ ln (ln.getD i 0) i
def iL(ln:List Nat):Nat->Nat
 |0=>0
 |n+1=>iL ln n+cn ln n*2^(20-n)
theorem Kc(ln:List Nat):∀{n:Nat},n<=20->bU ln n*2^(20-n)=iL ln n
 |0,_=>by simp[bU,iL]
 |n+1,h=>by have a:=Kc ln (n:=n) jO;have e:20-n=20-(n+1)+1:=jO;unfold bU iL;rw[<-a,e,oA];simp only[xq 2,oH,LO]
theorem WY(ln:List Nat):∀{n m:Nat},n<=m->iL ln n<=iL ln m
 |n,0,h=>by have:n=0:=jO
            subst this;exact ah _
 |n,m+1,h=>by
  by_cases e:n=m+1
  ·subst e;exact ah _
  ·have:=WY ln (n:=n) (m:=m) jO;show iL ln n<=iL ln m+cn ln m*2^(20-m);omega
structure Wh (ln:List Nat):Prop where
 lo:∀x∈ln,1<=x∧x<=20
 kr:iL ln 21=1048576
section
variable {ln:List Nat} (w:Wh ln)
include w
theorem Wh.at{i:Nat}(h:i<ln.length):1<=ln.getD i 0∧ln.getD i 0<=20:=by rw[bw,bA h];exact w.lo _ (dH h)
theorem Wh.cap{n:Nat}(h:n<=20):bU ln n+cn ln n<=2^n:=by
 have d:=Kc ln h;have a:=WY ln (show n+1<=21 by omega);rw[w.kr]at a;have c:iL ln (n+1)=iL ln n+cn ln n*2^(20-n):=rfl;rw[c,<-d,<-oH]at a;have b:2^n*2^(20-n)=1048576:=by rw[<-am9,show n+(20-n)=20 by omega]
 rw[<-b]at a;exact Nat.le_of_mul_le_mul_right a (Nat.two_pow_pos _)
theorem Wh.full:bU ln 20+cn ln 20=1048576:=by have b:=Kc ln (ah 20);have a:iL ln 21=iL ln 20+cn ln 20*2^(20-20):=rfl;rw[w.kr,<-b]at a;simpa using a.symm
theorem Wh.Kd{i:Nat}(h:i<ln.length):da ln i<2^ln.getD i 0:=by have b:=w.cap (w.at h).2;have a:=DH h;unfold da;omega
end
theorem Ke(ln:List Nat){n:Nat}:∀{m:Nat},n<m->(bU ln n+cn ln n)*2^(m-n)<=bU ln m
 |0,h=>absurd h (kS n)
 |m+1,h=>by
  by_cases e:n=m
  ·subst e;rw[show n+1-n=1 by omega,LQ];show _<=2*(bU ln n+cn ln n);omega
  ·have a:=Ke ln (n:=n) (m:=m) jO;rw[show m+1-n=m-n+1 by omega,oA,<-LO];show _<=2*(bU ln m+cn ln m);omega
def Mt(ln:List Nat)(bs:List Bool)(i:Nat):Prop:=i<ln.length∧ln.getD i 0<=bs.length∧num (bs.take (ln.getD i 0)) 0=da ln i
theorem WZ{ln:List Nat}{i j:Nat}(d:i<ln.length)(c:j<ln.length)(b:ln.getD i 0=ln.getD j 0)(e:eZ ln (ln.getD i 0) i=eZ ln (ln.getD i 0) j):i=j:=by
 rcases am6 i j with q|q|q
 ·have a:=rZ d (ln.getD i 0);rw[if_pos rfl]at a;have:=WV (ln:=ln) (n:=ln.getD i 0) (show i+1<=j by omega);omega
 ·exact q
 ·have a:=rZ c (ln.getD i 0);rw[if_pos b.symm]at a;have:=WV (ln:=ln) (n:=ln.getD i 0) (show j+1<=i by omega);omega
theorem Mt.W0{ln:List Nat}{bs:List Bool}{i j:Nat}(a:Mt ln bs i)(b:Mt ln bs j):¬ln.getD i 0<ln.getD j 0:=by
 intro h;obtain⟨d,_,g⟩:=a;obtain⟨k,c,f⟩:=b;have e:=(WT (Nat.le_of_lt h) c).2;have o:=DH d;have n:=Ke ln h;rw[g,f]at e;have m:(da ln i+1)*2^(ln.getD j 0-ln.getD i 0)<=(bU ln (ln.getD i 0)+cn ln (ln.getD i 0))*2^(ln.getD j 0-ln.getD i 0):=qL _ (by unfold da;omega);have l:bU ln (ln.getD j 0)<=da ln j:=by unfold da;omega
 omega
theorem Mt.uniq{ln:List Nat}{bs:List Bool}{i j:Nat}(a:Mt ln bs i)(b:Mt ln bs j):i=j:=by have g:=a.W0 b;have f:=b.W0 a;have c:ln.getD i 0=ln.getD j 0:=jO;refine WZ a.1 b.1 c ?_;have e:=a.2.2;have d:=b.2.2;unfold da at e d;rw[<-c]at d;omega
def fC(ln:List Nat)(bs:List Bool):Option Nat:=(gE ln.length).find? fun i=>decide (ln.getD i 0<=bs.length)&&decide (num (bs.take (ln.getD i 0)) 0=da ln i)
theorem DI{ln:List Nat}{bs:List Bool}{i:Nat}(m:Mt ln bs i):fC ln bs=some i:=by
 unfold fC;cases h:(gE ln.length).find? fun i=>decide (ln.getD i 0<=bs.length)&&decide (num (bs.take (ln.getD i 0)) 0=da ln i)with
 |none=>have:=List.find?_eq_none.1 h i (List.mem_range.2 m.1);simp only[m.2.1,m.2.2,decide_true,eA,not_true_eq_false]at this
 |some j=>have a:=am_ h;have b:=ana h;simp only[bW,decide_eq_true_eq]at a;rw[m.uniq ⟨List.mem_range.1 b,a⟩]
theorem pj{ln:List Nat}{bs:List Bool}{i:Nat}(h:fC ln bs=some i):Mt ln bs i:=by unfold fC at h;have a:=am_ h;have b:=ana h;simp only[bW,decide_eq_true_eq]at a;exact⟨List.mem_range.1 b,a⟩
theorem W2{ln:List Nat}{bs:List Bool}(h:∀i,¬Mt ln bs i):fC ln bs=none:=by
 cases e:fC ln bs with
 |none=>rfl
 |some i=>exact absurd (pj e) (h i)
def lh(ln:List Nat)(bs:List Bool)(n:Nat):Prop:=bU ln n+cn ln n<=num (bs.take n) 0
theorem lh.no{ln:List Nat}{bs:List Bool}{n:Nat}(p:lh ln bs n)(c:n<=bs.length){i:Nat}(d:ln.getD i 0<=n):¬Mt ln bs i:=by
 rintro⟨g,l,f⟩;have b:=(WT d c).2;rw[f]at b;have k:=DH g;have a:da ln i+1<=bU ln (ln.getD i 0)+cn ln (ln.getD i 0):=by unfold da;omega
 by_cases e:ln.getD i 0=n
 ·unfold lh at p;rw[e,sM,Z4,uY]at b;rw[e]at a;omega
 ·have j:=Ke ln (show ln.getD i 0<n by omega);have h:(da ln i+1)*2^(n-ln.getD i 0)<=(bU ln (ln.getD i 0)+cn ln (ln.getD i 0))*2^(n-ln.getD i 0):=qL _ a;unfold lh at p;omega
theorem lh.next{ln:List Nat}{bs:List Bool}{n:Nat}(p:lh ln bs n)(a:n<bs.length):bU ln (n+1)<=num (bs.take (n+1)) 0:=by have e:bs.take (n+1)=bs.take n++[bs[n]]:=m9 a;rw[e,zu];unfold lh at p;show 2*(bU ln n+cn ln n)<=_;omega
def fJ(ln:List Nat)(n i:Nat):List Nat:=(gE i).filter fun s=>ln.getD s 0==n
theorem zw(ln:List Nat)(n i:Nat):fJ ln n (i+1)=fJ ln n i++(if ln.getD i 0=n then [i]else []):=by
 unfold fJ;rw[List.range_succ,List.filter_append];congr 1;by_cases h:ln.getD i 0=n
 ·rw[if_pos h,amK,if_pos (by rw[h];simp)];rfl
 ·rw[if_neg h,amK,if_neg (by simpa using h)];rfl
theorem wz{ln:List Nat}(n:Nat):∀{i:Nat},i<=ln.length->(fJ ln n i).length=eZ ln n i
 |0,_=>by simp[fJ,eZ,cn]
 |i+1,h=>by rw[zw,bE,wz n (i:=i) jO,rZ jO];split<;>rfl
theorem W4{ln:List Nat}{n:Nat}:∀{i r s:Nat},i<=ln.length->(fJ ln n i)[r]? =some s->s<i∧ln.getD s 0=n∧eZ ln n s=r
 |0,r,s,_,h=>by simp[fJ]at h
 |i+1,r,s,g,h=>by
  rw[zw]at h;by_cases q:r<(fJ ln n i).length
  ·rw[sH q]at h;obtain⟨a,b,c⟩:=W4 (i:=i) jO h;exact⟨jO,b,c⟩
  ·rw[qM jO]at h;have f:=wz (ln:=ln) n (i:=i) jO;split at h
   ·rename_i e
    have d:r-(fJ ln n i).length=0:=by
     cases q2:r-(fJ ln n i).length with
     |zero=>rfl
     |succ k=>rw[q2]at h;simp at h
    rw[d]at h;simp at h;subst h;exact⟨jO,e,jO⟩
   ·simp at h
def fT(ln:List Nat):Nat->List Nat
 |0=>[]
 |n+1=>fT ln n++fJ ln n ln.length
theorem lQ(ln:List Nat):∀n,(fT ln n).length=bg ln n
 |0=>rfl
 |n+1=>by unfold fT bg;rw[bE,lQ ln n,wz n (ah _),ux]
theorem DJ{ln:List Nat}{n r:Nat}(f:r<cn ln n):∀{m:Nat},n<m->∃s,(fT ln m)[bg ln n+r]? =some s∧s<ln.length∧ln.getD s 0=n∧eZ ln n s=r
 |0,h=>absurd h (kS n)
 |m+1,h=>by
  unfold fT;by_cases e:n=m
  ·subst e;have g:=wz (ln:=ln) n (ah _);rw[ux]at g
   have:((fT ln n++fJ ln n ln.length)[bg ln n+r]?)=some ((fJ ln n ln.length)[r]'jO):=by rw[qM (by rw[lQ];omega),lQ,show bg ln n+r-bg ln n=r by omega,bA]
   obtain⟨a,b,c⟩:=W4 (ln:=ln) (n:=n) (i:=ln.length) (r:=r) (s:=(fJ ln n ln.length)[r]'jO) (ah _) (bA _);exact⟨_,this,a,b,c⟩
  ·obtain⟨s,d,j⟩:=DJ f (m:=m) jO;refine⟨s, ?_,j⟩;rw[sH ((List.getElem?_eq_some_iff.1 d).1)];exact d
theorem W5{ln:List Nat}:∀{n m:Nat},n<=m->bg ln n<=bg ln m
 |n,0,h=>by have:n=0:=jO
            subst this;exact ah _
 |n,m+1,h=>by
  by_cases e:n=m+1
  ·subst e;exact ah _
  ·have:=W5 (ln:=ln) (n:=n) (m:=m) jO;show bg ln n<=bg ln m+cn ln m;omega
theorem nN{ln:List Nat}{bs:List Bool}{n:Nat}(f:n<=bs.length)(h1:bU ln n<=num (bs.take n) 0)(h2:num (bs.take n) 0<bU ln n+cn ln n):∃s,(fT ln 21)[bg ln n+(num (bs.take n) 0-bU ln n)]? =some s∧(n<=20->Mt ln bs s∧ln.getD s 0=n)∨20<n:=by
 by_cases e:20<n
 ·exact⟨0,.inr e⟩
 ·obtain⟨s,a,b,c,d⟩:=DJ (ln:=ln) (n:=n) (r:=num (bs.take n) 0-bU ln n) jO (m:=21) jO;refine⟨s,.inl ⟨a,fun _=>⟨⟨b,jO, ?_⟩,c⟩⟩⟩;unfold da;rw[c,d];omega
def gy(ln:List Nat)(n i:Nat):Nat:=bU ln n+eZ ln n i
theorem W6(ln:List Nat)(n:Nat):gy ln (n+1) 0=2*gy ln n ln.length:=by unfold gy;rw[ux];show 2*(bU ln n+cn ln n)+eZ ln (n+1) 0=_;simp[eZ,cn]
theorem DK{ln:List Nat}{n i:Nat}(h:i<ln.length):gy ln n (i+1)=gy ln n i+(if ln.getD i 0=n then 1 else 0):=by unfold gy;rw[rZ h];omega
theorem DL{ln:List Nat}{n i:Nat}(h:ln.getD i 0=n):gy ln n i=da ln i:=by unfold gy da;rw[h]
def ik:List Bool->List Bool×Bool
 |[]=>([],true)
 |b::l=>((xor b (ik l).2)::(ik l).1,b&&(ik l).2)
theorem wA:∀l:List Bool,(ik l).1.length=l.length
 |[]=>rfl
 |b::l=>by simp[ik,wA l]
theorem W7:∀l:List Bool,num (ik l).1 0+bn (ik l).2*2^l.length=num l 0+1
 |[]=>rfl
 |b::l=>by
  have a:=W7 l
  have e:∀(c:Bool) (m:List Bool),num (c::m) 0=bn c*2^m.length+num m 0:=fun c m=>by show num m (2*0+bn c)=_;rw[sJ,fy,qw]
  simp only[ik,e,wA,cK,oA];cases b<;>cases d:(ik l).2<;>simp[bn,d]at a⊢<;>omega
theorem agy{c m:Nat}(h:c+1<2^m):(ik (b8 c m)).1=b8 (c+1) m:=by
 have a:=W7 (b8 c m);rw[zv jO,gT]at a
 have d:num (ik (b8 c m)).1 0=c+1:=by
  cases b:(ik (b8 c m)).2 with
  |false=>rw[b]at a;simpa[bn]using a
  |true=>rw[b]at a;simp[bn]at a;omega
 have:=wy d;rw[wA,gT]at this;exact this
theorem agz{v m k:Nat}(h:v<2^m):b8 v m++bQ k false=b8 (v*2^k) (m+k):=by have:=wy (l:=b8 v m++bQ k false) (v:=v*2^k) (by rw[agw,zv h]);rw[bE,gT,jX]at this;exact this
def lk(ln:List Nat)(n i:Nat)(a:List Bool):Prop:=(a=[]∧gy ln n i=0)∨∃c m,1<=m∧m<=n∧a=b8 c m∧c<2^m∧(c+1)*2^(n-m)=gy ln n i
theorem lk.skip{ln:List Nat}{n i:Nat}{a:List Bool}(h:lk ln n i a)(c:i<ln.length)(b:ln.getD i 0≠n):lk ln n (i+1) a:=by
 have e:gy ln n (i+1)=gy ln n i:=by rw[DK c,if_neg b,jd]
 unfold lk;rw[e];exact h
theorem lk.row{ln:List Nat}{n:Nat}{d:List Bool}(h:lk ln n ln.length d):lk ln (n+1) 0 d:=by
 rcases h with ⟨a,b⟩|⟨c,m,i,j,g,f,e⟩
 ·exact .inl ⟨a,by rw[W6,b]⟩
 ·refine .inr ⟨c,m,i,jO,g,f, ?_⟩;rw[W6,<-e,show n+1-m=n-m+1 by omega,oA];rw[<-LO,xq 2]
theorem lk.nN{ln:List Nat}(w:Wh ln){n i:Nat}{d:List Bool}(h:lk ln n i d)(l:i<ln.length)(f:ln.getD i 0=n):(if d=[]then bQ n false else(ik d).1++bQ (n-d.length) false)=b8 (da ln i) n∧lk ln n (i+1) (b8 (da ln i) n):=by
 have j:=w.Kd l;have p:=w.at l;rw[f]at j p;have e:gy ln n (i+1)=da ln i+1:=by rw[DK l,if_pos f,DL f]
 refine⟨?_,.inr ⟨da ln i,n,p.1,ah n,rfl,j,by rw[e,sM,Z4,uY]⟩⟩;rcases h with ⟨a,b⟩|⟨c,m,v,u,r,t,o⟩
 ·rw[if_pos a];rw[DL f]at b;have:=wy (WQ n);rw[jX]at this;rw[b];exact this
 ·rw[DL f]at o
  have k:d≠[]:=by intro q;have:=congrArg List.length (q.symm.trans r);rw[gT]at this;simp at this;omega
  have g:c+1<2^m:=by
   have s:2^m*2^(n-m)=2^n:=by rw[<-am9,show m+(n-m)=n by omega]
   rw[<-o,<-s]at j;exact Nat.lt_of_mul_lt_mul_right j
  rw[if_neg k,r,agy g,gT,agz g,o,show m+(n-m)=n by omega]
theorem zx{ln:List Nat}(w:Wh ln):cn ln 0=0:=by unfold cn;rw[List.countP_eq_zero];intro x a;have:=(w.lo x a).1;simp;omega
theorem agA{ln:List Nat}(w:Wh ln):bU ln 1=0:=by show 2*(0+cn ln 0)=0;rw[zx w]
theorem agB{ln:List Nat}(w:Wh ln):bg ln 1=0:=by show 0+cn ln 0=0;rw[zx w]
theorem lk.zero{ln:List Nat}(w:Wh ln):lk ln 1 0 []:= .inl ⟨rfl,by
 unfold gy;rw[agA w]
 simp[eZ,cn]⟩
def dS(s:List UInt8):List Bool:=s.flatMap fun b=>b8 b.toNat 8
theorem zy:∀s:List UInt8,(dS s).length=8*s.length
 |[]=>rfl
 |b::s=>by show(b8 b.toNat 8++dS s).length=_;rw[bE,gT,zy s,cK];omega
theorem W8(a b:List UInt8):dS (a++b)=dS a++dS b:=by unfold dS;rw[List.flatMap_append]
theorem xD:∀(n v r:Nat) (h:r<n),(b8 v n)[r]? =some (decide (v/2^(n-1-r)%2=1))
 |0,_,_,h=>absurd h (kS _)
 |n+1,v,r,h=>by
  show(b8 (v/2) n++[decide (v %2=1)])[r]? =_;by_cases e:r<n
  ·rw[sH (by rw[gT];exact e),xD n (v/2) r e,Nat.div_div_eq_div_mul,<-Nat.pow_succ',show(n-1-r).succ=n+1-1-r by omega]
  ·have:r=n:=jO;subst this;rw[qM (by rw[gT];exact ah _),gT,sM,show r+1-1-r=0 by omega,Z4,Nat.div_one];rfl
theorem W9:∀(s:List UInt8) (q r:Nat) (c:q<s.length) (a:r<8),(dS s)[8*q+r]? =some (decide (s[q].toNat/2^(7-r)%2=1))
 |[],q,r,c,_=>by simp at c
 |b::s,0,r,_,a=>by show(b8 b.toNat 8++dS s)[8*0+r]? =_;rw[sH (by rw[gT];omega),sJ,fy,xD 8 _ r a];rfl
 |b::s,q+1,r,c,a=>by have d:=W9 s q r (by simpa using c) a;show(b8 b.toNat 8++dS s)[8*(q+1)+r]? =_;rw[qM (by rw[gT];omega),gT,show 8*(q+1)+r-8=8*q+r by omega,d];rfl
def ar(S:List UInt8)(D A:Nat):List Bool:=(dS S).drop (A-8*D)
theorem fi(S:List UInt8)(D A:Nat):(ar S D A).length=8*S.length-(A-8*D):=by unfold ar;rw[List.length_drop,zy]
theorem nO{S:List UInt8}{D A k:Nat}(h:8*D<=A):(ar S D A).drop k=ar S D (A+k):=by unfold ar;rw[jf];congr 1;omega
theorem take_one{l:List Bool}{k:Nat}{b:Bool}(h:(l.drop k)[0]? =some b):l.take (k+1)=l.take k++[b]:=by rw[amt,jd]at h;obtain⟨a,e⟩:=List.getElem?_eq_some_iff.1 h;rw[m9 a,e]
theorem agC{a:Nat}(d:a<256):IntKind.u8.wrap ((bY IntKind.u8.bits (a:Int)&&&bY IntKind.u8.bits (1:Int)).toNat:Int)=((a %2:Nat):Int):=by
 have c:(bY 8 (a:Int)).toNat=a:=by rw[uV,uW];exact kP jO
 show IntKind.u8.wrap ((bY 8 (a:Int)&&&bY 8 (1:Int)).toNat:Int)=_;rw[E6,c];have b:(bY 8 (1:Int)).toNat=1:=jD;rw[b,am5];exact w8 jO
theorem agD{a:Nat}(b:Bool)(g:2*a+1<4294967296):IntKind.u32.wrap ((bY IntKind.u32.bits ((2*a:Nat):Int)|||bY IntKind.u32.bits (bn b:Int)).toNat:Int)=((2*a+bn b:Nat):Int):=by
 have f:=rY b;have e:(bY 32 ((2*a:Nat):Int)).toNat=2*a:=by rw[uV,uW];exact kP jO
 have d:(bY 32 (bn b:Int)).toNat=bn b:=by rw[uV,uW];exact kP jO
 show IntKind.u32.wrap ((bY 32 ((2*a:Nat):Int)|||bY 32 (bn b:Int)).toNat:Int)=_;rw[BitVec.toNat_or,e,d]
 have c:2*a|||bn b=2*a+bn b:=by have:=Nat.two_pow_add_eq_or_of_lt (i:=1) (b:=bn b) jO a;rw[LQ]at this;exact this.symm
 rw[c];exact fL jO
theorem wB{a:Nat}(b:2*a<4294967296):IntKind.u32.wrap ((a:Int)*2^(min ((1:Int)).toNat (ju).bits))=((2*a:Nat):Int):=by have e:min ((1:Int)).toNat (ju).bits=1:=jD;rw[e];have:(a:Int)*2^1=((2*a:Nat):Int):=jO;rw[this];exact fL b
end Go.Proofs.YtmjolmggelkjlaaGreat.Cn
namespace Go.Proofs.YtmjolmggelkjlaaGreat
open Go.RowKit Ev Cn
def mo(S:List UInt8)(D A:Nat):AB:=⟨152,true,[.string ⟨S.toArray⟩,jI (D:Int),jI (A:Int)]⟩
structure aY (h:H) (n p:Nat) (S:List UInt8) (D A:Nat):Prop where
 get:h.get p=some (mo S D A)
 lt:p<n
 lo:8*D<=A
 hi:A<=8*(D+S.length)
 sm:D+S.length<=1000000000000
theorem aY.au{h h':H}{n n' p:Nat}{S:List UInt8}{D A:Nat}(x:aY h n p S D A)(a:n<=n')(b:h'.get p=h.get p):aY h' n' p S D A:=⟨b.trans x.get,fP x.lt a,x.lo,x.hi,x.sm⟩
theorem aY.len{h:H}{n p:Nat}{S:List UInt8}{D A:Nat}(x:aY h n p S D A):(ar S D A).length=8*(D+S.length)-A:=by rw[fi];have:=x.lo;have:=x.hi;omega
section
variable {Y d n p:Nat} {h:H} {S:List UInt8} {D A:Nat}
theorem agE(a:S.length<=1000000000000):af (fun _=>False) n (aj aa gt Y (d+1) 59 #[.string ⟨S.toArray⟩]) h n fun v h' n'=>v=jP n 0∧n'=n+1∧aY h' n' n S 0 0:=by
 rw[aC (fun _=>Qh) rfl];refine af.aB ?_;unfold Hp;try simp(disch:=first|omega|assumption) only[Nat.reduceAdd,Nat.reduceLT,RZ,eP,eQ,eR,eS,eT,eU,eV,eW,eX,eY]
 refine gu trivial _ _ ?_;try simp(disch:=first|omega|assumption) only[Nat.reduceAdd,Nat.reduceLT,RZ,eP,eQ,eR,eS,eT,eU,eV,eW,eX,eY]
 exact⟨get_eq _ _ _,jO,jO,jO,jO⟩
theorem Xa(x:aY h n p S D A):af (fun _=>False) n (aj aa gt Y (d+1) 122 #[jP p 0]) h n fun v h' n'=>v=jI ((8*(D+S.length):Nat):Int)∧h'=h∧n'=n:=by
 have g:=x.get;have c:=x.lt;have e:=x.sm;unfold mo at g;rw[aC (fun _=>Ro) rfl];refine af.aB ?_;unfold HS;have b:IntKind.i64.wrap ((D:Int)+(S.length:Int))=((D+S.length:Nat):Int):=by rw[aH jO jO];omega
 have a:IntKind.i64.wrap (8*((D+S.length:Nat):Int))=((8*(D+S.length):Nat):Int):=by rw[aH jO jO];omega
 try simp(disch:=first|omega|assumption) only[Nat.reduceAdd,Nat.reduceLT,RZ,eP,eQ,eR,eS,eT,eU,eV,eW,eX,eY,g,b,a]
theorem DM(x:aY h n p S D A):af (fun _=>False) n (aj aa gt Y (d+1) 126 #[jP p 0]) h n fun v h' n'=>v=jI (A:Int)∧h'=h∧n'=n:=by have g:=x.get;have a:=x.lt;unfold mo at g;rw[aC (fun _=>Rq) rfl];refine af.aB ?_;unfold HV;try simp(disch:=first|omega|assumption) only[Nat.reduceAdd,Nat.reduceLT,RZ,eP,eQ,eR,eS,eT,eU,eV,eW,eX,eY,g]
theorem DN(x:aY h n p S D A):af (fun _=>False) n (aj aa gt Y (d+2) 98 #[jP p 0]) h n fun v h' n'=>v=jI (((ar S D A).length:Nat):Int)∧h'=h∧n'=n:=by
 have g:=x.get;have j:=x.lt;have l:=x.sm;have m:=x.len;have o:=x.hi;unfold mo at g;rw[aC (fun _=>QP) rfl];refine af.aB ?_;unfold HF;have e:IntKind.i64.wrap (((8*(D+S.length):Nat):Int)-(A:Int))=(((ar S D A).length:Nat):Int):=by rw[aH jO jO];omega
 have k:∀a b c:Value,[a,b,c][2]? =some c:=fun _ _ _=>rfl;try simp(disch:=first|omega|assumption) only[Nat.reduceAdd,Nat.reduceLT,RZ,eP,eQ,eR,eS,eT,eU,eV,eW,eX,eY]
 refine lO aE (Xa x) (ah _) fun r i=> ?_;try simp(disch:=first|omega|assumption) only[Nat.reduceAdd,Nat.reduceLT,RZ,eP,eQ,eR,eS,eT,eU,eV,eW,eX,eY]
 refine lN trivial _ _ _ g j (k _ _ _) fun q f=> ?_;try simp(disch:=first|omega|assumption) only[Nat.reduceAdd,Nat.reduceLT,RZ,eP,eQ,eR,eS,eT,eU,eV,eW,eX,eY,e,i.cA f,cx,eA,dQ]
theorem DO(x:aY h n p S D A)(B:Nat)(h1:8*D<=B)(h2:B<=8*(D+S.length)):af (fun c=>c=p) n (aj aa gt Y (d+2) 246 #[jP p 0,jI (B:Int)]) h n fun v h' n'=>v=jI 0∧n'=n∧aY h' n p S D B:=by
 have g:=x.get;have b:=x.lt;have e:=x.sm;unfold mo at g;rw[aC (fun _=>Vs) rfl];refine af.aB ?_;unfold Jy;have a:IntKind.i64.wrap (8*(D:Int))=((8*D:Nat):Int):=by rw[aH jO jO];omega
 have i:¬((B:Int)<((8*D:Nat):Int)):=jO;have f:¬(((8*(D+S.length):Nat):Int)<(B:Int)):=jO;try simp(disch:=first|omega|assumption) only[Nat.reduceAdd,Nat.reduceLT,RZ,eP,eQ,eR,eS,eT,eU,eV,eW,eX,eY,g,a,i]
 refine bz (Xa x) (ah _) (fun _ _ h=>h.elim) ?_;try simp(disch:=first|omega|assumption) only[Nat.reduceAdd,Nat.reduceLT,RZ,eP,eQ,eR,eS,eT,eU,eV,eW,eX,eY,f,g]
 exact⟨get_eq _ _ _,b,h1,h2,e⟩
theorem agF(x:aY h n p S D A)(T:List UInt8)(b:D+(S++T).length<=1000000000000):af (fun c=>c=p) n (aj aa gt Y (d+1) 90 #[jP p 0,.string ⟨T.toArray⟩]) h n fun v h' n'=>v=jI 0∧n'=n∧aY h' n p (S++T) D A:=by
 have g:=x.get;have e:=x.lt;have f:=x.sm;unfold mo at g;rw[aC (fun _=>QM) rfl];refine af.aB ?_;unfold HC;have a:S.length+T.length<=9223372036854775807:=by simp at b;omega
 try simp(disch:=first|omega|assumption) only[Nat.reduceAdd,Nat.reduceLT,RZ,eP,eQ,eR,eS,eT,eU,eV,eW,eX,eY,g,a]
 have:=x.hi;exact⟨get_eq _ _ _,e,x.lo,by simp;omega,b⟩
theorem agG(x:aY h n p S D A)(E:A<8*(D+S.length)):∃b,(ar S D A)[0]? =some b∧af (fun _=>False) n (aj aa gt Y (d+1) 215 #[jP p 0,jI (A:Int)]) h n fun v h' n'=>v= .int .u32 (bn b:Int)∧h'=h∧n'=n:=by
 have g:=x.get;have B:=x.lt;have C:=x.sm;have y:=x.lo;unfold mo at g;have i:A/8-D<S.length:=jO;have u:A %8<8:=Nat.mod_lt _ jD;refine⟨decide (S[A/8-D].toNat/2^(7-A %8)%2=1), ?_, ?_⟩
 ·have:=W9 S (A/8-D) (A %8) i u;unfold ar;rw[amt,jd,show A-8*D=8*(A/8-D)+A %8 by omega];exact this
 rw[aC (fun _=>UC) rfl];refine af.aB ?_;unfold Jb;have r:((A:Int)).tdiv 8=((A/8:Nat):Int):=rfl;have q:IntKind.i64.wrap ((A/8:Nat):Int)=((A/8:Nat):Int):=aH jO jO;have o:IntKind.i64.wrap (((A/8:Nat):Int)-(D:Int))=((A/8-D:Nat):Int):=by rw[aH jO jO];omega
 have m:((A:Int)).tmod 8=((A %8:Nat):Int):=rfl;have l:IntKind.i64.wrap (7-((A %8:Nat):Int))=((7-A %8:Nat):Int):=by rw[aH jO jO];omega
 have k:(0:Int)<=((7-A %8:Nat):Int):=jO;have s:S.getD (A/8-D) 0=S[A/8-D]:=by rw[bw,bA i];rfl
 have c:S[A/8-D].toNat<256:=S[A/8-D].toNat_lt;have f:=fdiv_pow S[A/8-D].toNat (7-A %8) (IntKind.u8).bits (by simp[IntKind.bits];omega);rw[cR]at f;have e:=agC (a:=S[A/8-D].toNat/2^(7-A %8)) (Nat.lt_of_le_of_lt (Nat.div_le_self _ _) c);have j:IntKind.u32.wrap ((S[A/8-D].toNat/2^(7-A %8)%2:Nat):Int)=(bn (decide (S[A/8-D].toNat/2^(7-A %8)%2=1)):Int):=by rw[J'];exact fL jO
 have i1:(0:Int)<=((A/8-D:Nat):Int):=jO;have t:((A/8-D:Nat):Int)<(S.length:Int):=jO;have z:(0:Int)<=((S[A/8-D].toNat/2^(7-A %8):Nat):Int):=oI _;try simp(disch:=first|omega|assumption) only[Nat.reduceAdd,Nat.reduceLT,RZ,eP,eQ,eR,eS,eT,eU,eV,eW,eX,eY,g,r,q,o,m,l,k,i1,t,s,f,e,j]
theorem lq(x:aY h n p S D A)(k:Nat)(P:k<=32)(I:40<=Y):af (fun c=>c=p) n (aj aa gt Y (d+3) 188 #[jP p 0,jI (k:Int)]) h n fun v h' n'=>n'=n∧
 (((ar S D A).length<k∧v= .tuple #[.int .u32 0,jI 3]∧h'=h)∨(k<=(ar S D A).length∧v= .tuple #[.int .u32 (num ((ar S D A).take k) 0:Int),jI 0]∧aY h' n p S D (A+k))):=by
 have g:=x.get;have E:=x.lt;have G:=x.sm;have O:=x.len;have Q:=x.hi;have C:=x.lo;rw[aC (fun _=>TI) rfl];refine af.aB ?_;unfold CQ;have N:¬((k:Int)<0):=jO;have L:¬((32:Int)<(k:Int)):=jO;try simp(disch:=first|omega|assumption) only[Nat.reduceAdd,Nat.reduceLT,RZ,eP,eQ,eR,eS,eT,eU,eV,eW,eX,eY,N,L]
 refine bz (DN x) (ah _) (fun _ _ h=>h.elim) ?_;by_cases short:(ar S D A).length<k
 ·have m:(((ar S D A).length:Nat):Int)<(k:Int):=jO;try simp(disch:=first|omega|assumption) only[Nat.reduceAdd,Nat.reduceLT,RZ,eP,eQ,eR,eS,eT,eU,eV,eW,eX,eY,m]
  first|exact .inl short|exact .inl ⟨short,rfl,rfl⟩
 have m:¬(((ar S D A).length:Nat):Int)<(k:Int):=jO;try simp(disch:=first|omega|assumption) only[Nat.reduceAdd,Nat.reduceLT,RZ,eP,eQ,eR,eS,eT,eU,eV,eW,eX,eY,m]
 refine dE k (fun l i (q:Nat)=>tZ Y (aj aa gt Y (d+2)) l (CP Y (aj aa gt Y (d+2))) (jP p 0) (jI (k:Int)) (.int .u32 0) (jI 0) (.int .u32 (q:Int)) (.bool false) (.bool false) (.bool false) (jI (k:Int)) (jI (i:Int)))
  (fun i q h' n'=>n'=n∧q=num ((ar S D A).take i) 0∧aY h' n p S D (A+i)) ?_ ?_ Y 0 0 h n (aP _) jO ⟨rfl,rfl,x⟩
 ·rintro l q h' n' ⟨rfl,rfl,f⟩;rw[tZ];try simp(disch:=first|omega|assumption) only[Nat.reduceAdd,Nat.reduceLT,RZ,eP,eQ,eR,eS,eT,eU,eV,eW,eX,eY,eO]
  (try unfold CP);(try dsimp only)
  try simp(disch:=first|omega|assumption) only[Nat.reduceAdd,Nat.reduceLT,RZ,eP,eQ,eR,eS,eT,eU,eV,eW,eX,eY]
  exact .inr ⟨jO,f⟩
 ·rintro l i q h' n' J ⟨rfl,rfl,f⟩ next;have K:(i:Int)<(k:Int):=jO;have j:=f.get;unfold mo at j;obtain⟨b,o,e⟩:=agG (Y:=Y) (d:=d+1) f jO;have z:=hH ((ar S D A).take i);rw[cO,gZ jO]at z;have B:2^i<=2^31:=pS jD jO;have u:=wB (a:=num ((ar S D A).take i) 0) jO;have t:=agD (a:=num ((ar S D A).take i) 0) b jO;rw[<-nO (k:=i) C]at o;have y:=take_one o;have s:IntKind.i64.wrap (((A+i:Nat):Int)+1)=((A+(i+1):Nat):Int):=by rw[aH jO jO];omega
  have r:((A+i:Nat):Int)+1=((A+(i+1):Nat):Int):=jO;rw[tZ];try simp(disch:=first|omega|assumption) only[Nat.reduceAdd,Nat.reduceLT,RZ,eP,eQ,eR,eS,eT,eU,eV,eW,eX,eY,K,u,j]
  refine bz e (ah _) (fun _ _ h=>h.elim) ?_;try simp(disch:=first|omega|assumption) only[Nat.reduceAdd,Nat.reduceLT,RZ,eP,eQ,eR,eS,eT,eU,eV,eW,eX,eY,t,j,s,r,true_or,or_true]
  refine next (2*num ((ar S D A).take i) 0+bn b) _ _ ⟨rfl,by rw[y,zu],get_eq _ _ _,E,jO,jO,G⟩
end
end Go.Proofs.YtmjolmggelkjlaaGreat
namespace Go.Proofs.YtmjolmggelkjlaaGreat
open Hu
def wt(n k:Nat)(t:HT):List Nat:=t.leaves++List.range' t.uv (n+k-t.uv)
section
variable {N:Nat} {X R:Nat->List Nat} {A B:Nat->Nat}
end
section
variable {N:Nat} {w:Nat->Int} {I A B:Nat->Nat} {X R:Nat->List Nat}
end
section
variable {ws:List Int} {D:List Nat} {w:Nat->Int} {I A B:Nat->Nat} {X R:Nat->List Nat} {dep:Nat->Nat}
end
def kH(x:Int):Int:=2^(20-x).toNat
def dM(xs:List Int):Int:=DA (xs.map kH)
end Go.Proofs.YtmjolmggelkjlaaGreat
namespace Go.Proofs.YtmjolmggelkjlaaGreat
open Go.RowKit Ev Hu
def part(L:List Int)(i:Nat):List Int:=L.take i++bQ (L.length-i) 0
theorem Xb{x:Int}(b:0<=x)(h1:x<=20):1<=kH x∧kH x<=1048576:=by unfold kH;have h1:(2:Nat)^(20-x).toNat<=2^20:=pS jO jO;have a:1<=(2:Nat)^(20-x).toNat:=Nat.one_le_two_pow;have e:((2:Int)^(20-x).toNat)=(((2:Nat)^(20-x).toNat:Nat):Int):=jS;rw[e];omega
theorem shB (Y d n:Nat) (h:H) (x0 x2 x3 o l i g b:Value) (T:Nat) (A:T<=20) {W:Nat->Prop} {n0:Nat} {R:Value->H->Nat->Prop} (k:(Value->Value->Value->Value->Value->Value->Value->M Value))
 (x:af W n0 (k x0 x2 x3 (jI (2^T)) l i g) h n R):
 ∀(m j a:Nat),T-j=m->m<a->j<=T->af W n0 (uh Y (aj aa gt Y d) a k x0 x2 x3 o (jI (2^j)) l i g b (jI (T:Nat)) (jI (j:Nat))) h n R:=by
 intro m
 induction m with
 |zero=>intro j a u e v;obtain⟨a,rfl⟩:∃f,a=f+1:=⟨a-1,jO⟩;obtain rfl:j=T:=jO;rw[uh];refine jA @eO ?_;exact x
 |succ m r=>
  intro j a u e v;obtain⟨a,rfl⟩:∃f,a=f+1:=⟨a-1,jO⟩;have y:((j:Nat):Int)<((T:Nat):Int):=jO;have q:((j:Nat):Int)+1=((j+1:Nat):Int):=jO;have t:(2:Nat)^(j+1)<=2^20:=pS jO jO;have c:((2:Int)^(j+1))=(((2:Nat)^(j+1):Nat):Int):=jS
  have s:(0:Int)<=2^(j+1)∧(2:Int)^(j+1)<=1048576:=by rw[c];generalize (2:Nat)^(j+1)=z at t;omega
  have p:IntKind.i64.wrap (2*2^j)=2^(j+1):=by rw[show(2:Int)*2^j=2^(j+1) by rw[Int.pow_succ,Int.mul_comm]];generalize (2:Int)^(j+1)=z at s;exact aH jO jO
  rw[uh];refine jA (aI @y @p) ?_;rw[q];exact r (j+1) a jO jO jO
theorem shA(Y d n:Nat)(h:H)(v:Value)(xs:List Int)(D:Row h n 3 .i64 v xs)(J:xs.length<=1000000)(y:∀x∈xs,0<=x∧x<=20)(A:3000000<=Y)(x2:Value){W:Nat->Prop}{n0:Nat}:
 ∀(m i c:Nat) (a:Int),xs.length-i=m->m<c->i<=xs.length->0<=a->a<=i*1048576->
  af W n0 (rQ Y (aj aa gt Y d) c (C6 Y (aj aa gt Y d)) v x2 (jI a) v (jI (xs.length:Nat)) (jI (i:Nat))) h n (fun p h' n'=>p=jI (a+dM (xs.drop i))∧h'=h∧n'=n):=by
 intro m
 induction m with
 |zero=>
  intro i c a z g B l k;obtain⟨c,rfl⟩:∃f,c=f+1:=⟨c-1,jO⟩;obtain rfl:i=xs.length:=jO;rw[rQ];refine jA @eO ?_
  (try unfold C6);(try dsimp only)
  rw[sO];refine jB ?_;simp[dM,DA]
 |succ m u=>
  intro i c a z g B l k;obtain⟨c,rfl⟩:∃f,c=f+1:=⟨c-1,jO⟩;obtain⟨b,t,cap,o,L,rfl,C,K,_,_,_,j⟩:=D.some jO;have G:((i:Nat):Int)<((xs.length:Nat):Int):=jO;have I:=j i jO;have s:((i:Nat):Int)+1=((i+1:Nat):Int):=jO;have e:=y (xs.getD i 0) (by rw[bw,bA jO];exact dH _);obtain⟨O,N⟩:=Xb e.1 e.2;have r:IntKind.i64.wrap (20-xs.getD i 0)=(((20-xs.getD i 0).toNat:Nat):Int):=by rw[aH jO jO];omega
  rw[rQ,J6 0 (show i<xs.length by omega)];refine jA (aI @G (aI @C (aI @I @r))) ?_;have E:ii 1=jI (2^0):=rfl;rw[E];refine shB Y d n h _ _ _ _ _ _ _ _ (20-xs.getD i 0).toNat jO _ ?_ (20-xs.getD i 0).toNat 0 Y jO jO jO
  (try unfold afG);(try unfold C5);(try dsimp only)
  have q:IntKind.i64.wrap (a+2^(20-xs.getD i 0).toNat)=a+kH (xs.getD i 0):=by show IntKind.i64.wrap (a+kH (xs.getD i 0))=_;exact aH jO jO
  refine jA @q ?_;rw[s];have:=u (i+1) c (a+kH (xs.getD i 0)) jO jO jO jO jO;refine this.mono ?_;rintro p h' n' _ ⟨rfl,rfl,rfl⟩;refine⟨?_,rfl,rfl⟩;simp only[dM,List.map_cons,DA];congr 1;omega
theorem agH(Y d n:Nat)(h:H)(v:Value)(xs:List Int)(f:Row h n 3 .i64 v xs)(j:xs.length<=1000000)(i:∀x∈xs,0<=x∧x<=20)(b:3000000<=Y):
 af (fun _=>False) n (aj aa gt Y (d+1) 218 #[v]) h n fun g h' n'=>g=jI (dM xs)∧h'=h∧n'=n:=by
 rw[aC (fun _=>afJ) rfl];refine af.aB ?_;unfold Jd;have e:=f;obtain⟨a,c,rfl⟩:=f.len;refine jB ?_;have:=shA Y d n h _ xs e j i b (jI 0) (W:=fun _=>False) (n0:=n) xs.length 0 Y 0 jO jO jO jO jO;simp only[js,Int.zero_add]at this;exact this
end Go.Proofs.YtmjolmggelkjlaaGreat
namespace Go.Proofs.YtmjolmggelkjlaaGreat
open Hu
end Go.Proofs.YtmjolmggelkjlaaGreat
namespace Go.Proofs.YtmjolmggelkjlaaGreat
open Go.RowKit Ev Hu
theorem bI(a b:Value):qS (.tuple #[a,b]) 0=some a:=rfl
theorem ext1(a b:Value):qS (.tuple #[a,b]) 1=some b:=rfl
end Go.Proofs.YtmjolmggelkjlaaGreat
namespace Go.Proofs.YtmjolmggelkjlaaGreat
open Go.RowKit Ev Cn
def iN(ln:List Nat):List Int:=ln.map fun(x:Nat)=>(x:Int)
theorem fa(ln:List Nat):(iN ln).length=ln.length:=by unfold iN;simp
theorem po{ln:List Nat}{i:Nat}:(iN ln).getD i 0=(ln.getD i 0:Int):=by unfold iN;rw[bw,iW,bw];cases ln[i]? <;>rfl
theorem Xd(x:Nat)(ln:List Nat):∀m,iL (x::ln) m=iL ln m+(if x<m then 2^(20-x)else 0)
 |0=>by simp[iL]
 |m+1=>by
  show iL (x::ln) m+cn (x::ln) m*2^(20-m)=iL ln m+cn ln m*2^(20-m)+_;rw[Xd x ln m];have e:cn (x::ln) m=cn ln m+(if x=m then 1 else 0):=by unfold cn;rw[Z3];simp
  rw[e,oH];by_cases h:x=m
  ·subst h;rw[if_pos rfl,if_neg (anc x),if_pos (dO x)];omega
  ·rw[if_neg h];by_cases a:x<m
   ·rw[if_pos a,if_pos jO];omega
   ·rw[if_neg a,if_neg jO];omega
theorem Xe:∀{ln:List Nat},(∀x∈ln,x<=20)->dM (iN ln)=(iL ln 21:Int)
 |[],_=>by
  have:∀m,iL [] m=0:=by
   intro m
   induction m with
   |zero=>rfl
   |succ m a=>show iL [] m+cn [] m*_=0;rw[a];simp[cn]
  rw[this];rfl
 |x::ln,h=>by
  have a:=Xe (ln:=ln) fun y b=>h y (List.mem_cons_of_mem _ b);have c:=h x List.mem_cons_self;rw[Xd,if_pos (show x<21 by omega)];show kH (x:Int)+dM (iN ln)=_;rw[a];unfold kH;rw[show(20-(x:Int)).toNat=20-x by omega];have:((2:Int)^(20-x))=((2^(20-x):Nat):Int):=by push_cast;rfl
  rw[this];omega
theorem wC{ln:List Nat}(h:∀x∈ln,1<=x∧x<=20)(b:dM (iN ln)=1048576):Wh ln:=⟨h,by
 have:=Xe (ln:=ln) fun x a=>(h x a).2
 omega⟩
section
variable (Y d n:Nat) (h:H) (ph:3000000<=Y)
include ph
theorem agI(v:Value)(xs:List Int)(y:Row h n 3 .i64 v xs)(Q:xs.length<=258)(x:j3 0 20 xs=true):
 af (fun _=>False) n (aj aa gt Y (d+5) 282 #[v]) h n fun D h' n'=>D= .tuple #[jI (dM xs),jI 0]:=by
 have l:=wv.1 x;rw[aC (fun _=>Wn) rfl];refine af.aB ?_;unfold Dw;have f:=y;obtain⟨a,c,rfl⟩:=y.len;have L:¬((258:Int)<((xs.length:Nat):Int)):=jO;refine jA @L ?_;refine DC (agl Y d n h _ xs f 0 20 jO ph) (ah _) fun z u k t=> ?_;rw[x];have r:=f.au k t;refine jA @eK ?_;refine dE xs.length (fun s i (q:Int)=>uo Y (aj aa gt Y (d+4)) s (Dv Y (aj aa gt Y (d+4))) (.slice a xs.length c) (jI 0) (jI 0) (jI q) (.bool false) (.slice a xs.length c) (jI (xs.length:Nat)) (jI (i:Nat))) (fun i q h' n'=>(h'=z∧n'=u)∧0<=q∧q<=i*1048576∧q+dM (xs.drop i)=dM xs) ?_ ?_ Y 0 0 z u (aP _) jO ⟨⟨rfl,rfl⟩,jO,jO,by rw[js];omega⟩
 ·rintro s q h' n' ⟨⟨rfl,rfl⟩,E,q1,q2⟩;rw[uo];refine jA @eO ?_
  (try unfold Dv);(try dsimp only)
  refine jB ?_;rw[sO]at q2;have:dM []=0:=rfl;rw[<-q2,this,Int.add_zero]
 ·rintro s i q h' n' m ⟨⟨rfl,rfl⟩,E,q1,q2⟩ next;obtain⟨b,G,cap,o,U,I,J,R,_,_,_,p⟩:=r.some jO;cases I;have K:((i:Nat):Int)<((xs.length:Nat):Int):=jO;have N:=p i m;have e:=l (xs.getD i 0) (by rw[bw,bA m];exact dH _);obtain⟨P,O⟩:=Xb e.1 e.2;have C:IntKind.i64.wrap (20-xs.getD i 0)=(((20-xs.getD i 0).toNat:Nat):Int):=by rw[aH jO jO];omega
  have j:IntKind.i64.wrap (1*2^(min (((20-xs.getD i 0).toNat:Nat):Int).toNat IntKind.i64.bits))=kH (xs.getD i 0):=by rw[cR,gZ (iV (show(20-xs.getD i 0).toNat<=20 by omega) jD),Int.one_mul];exact aH (by unfold kH at P;omega) (by unfold kH at O;omega)
  have g:IntKind.i64.wrap (1*2^(min (20-xs.getD i 0).toNat IntKind.i64.bits))=kH (xs.getD i 0):=by rw[cR]at j;exact j
  have B:IntKind.i64.wrap (q+kH (xs.getD i 0))=q+kH (xs.getD i 0):=aH jO jO;have A:(0:Int)<=(((20-xs.getD i 0).toNat:Nat):Int):=jO;have T:dM (xs.drop i)=kH (xs.getD i 0)+dM (xs.drop (i+1)):=by rw[J6 0 m];rfl
  rw[uo];refine jA (aI @K (aI @J (aI @N (aI @C (aI @A (aI @j (aI @g @B))))))) ?_;refine next _ _ _ ⟨⟨rfl,rfl⟩,jO,jO,jO⟩
theorem agJ(v:Value)(xs:List Int)(z:Int)(u:Row h n 3 .i64 v xs)(G:xs.length<=1000000):
 af (fun _=>False) n (aj aa gt Y (d+1) 286 #[v,jI z]) h n fun B h' n'=>(∃r:Int,B=jI r∧((r=-1∧∀x∈xs,x≠z)∨∃i,i<xs.length∧r=(i:Int)∧xs.getD i 0=z∧∀j,j<i->xs.getD j 0≠z))∧h'=h∧n'=n:=by
 rw[aC (fun _=>Wu) rfl];refine af.aB ?_;unfold Dx;have l:=u;obtain⟨a,c,rfl⟩:=u.len;refine jB ?_;refine dE xs.length (fun m i (_:Unit)=>uq Y (aj aa gt Y d) m (zi Y (aj aa gt Y d)) (.slice a xs.length c) (jI z) (jI 0) (jI (xs.length:Nat)) (jI (i:Nat))) (fun i _ h' n'=>(h'=h∧n'=n)∧∀j,j<i->xs.getD j 0≠z) ?_ ?_ Y 0 () h n (aP _) jO ⟨⟨rfl,rfl⟩,fun j f=>absurd f (kS j)⟩
 ·rintro m _ h' n' ⟨⟨rfl,rfl⟩,g⟩;rw[uq];refine jA @eO ?_
  (try unfold zi);(try dsimp only)
  refine jB ?_;refine⟨-1,rfl,.inl ⟨rfl,fun x D=> ?_⟩⟩;obtain⟨j,f,rfl⟩:=List.mem_iff_getElem.1 D;have:=g j f;rw[bw,bA f]at this;exact this
 ·rintro m i _ h' n' s ⟨⟨rfl,rfl⟩,g⟩ next;obtain⟨b,C,cap,o,J,E,t,I,_,_,_,k⟩:=l.some jO;cases E;have y:((i:Nat):Int)<((xs.length:Nat):Int):=jO;have A:=k i s;rw[uq];by_cases q:z=xs.getD i 0
  ·have p:(z==xs.getD i 0)=true:=by rw[<-q];simp
   refine jA (aI @y (aI @t (aI @A @p))) ?_
   (try unfold zi);(try dsimp only)
   refine jB ?_;exact⟨_,rfl,.inr ⟨i,s,rfl,q.symm,g⟩⟩
  ·have p:(z==xs.getD i 0)=false:=beq_eq_false_iff_ne.2 q;refine jA (aI @y (aI @t (aI @A @p))) ?_;refine next () _ _ ⟨⟨rfl,rfl⟩,fun j f=> ?_⟩;by_cases e:j=i
   ·subst e;exact fun r=>q r.symm
   ·exact g j jO
set_option maxRecDepth 8000 in
theorem Xf(v:Value)(xs:List Int)(m:Row h n 3 .i64 v xs)(B:xs.length<=258)(A:j3 1 20 xs=true):
 af (fun _=>False) n (aj aa gt Y (d+6) 277 #[v]) h n fun c h' n'=>c= .bool (decide (dM xs=1048576)):=by
 have a:=wv.1 A;rw[aC (fun _=>Wc) rfl];refine af.aB ?_;unfold JX;refine aN aE (agI Y d n h ph v xs m B (wv.2 fun x s=>by have:=a x s;omega)) (ah _) (fun _ _ h=>h.elim) fun J o f j k u=> ?_;subst u;have l:((0:Int)==0)=true:=rfl;by_cases q:dM xs=1048576
 ·have e:(dM xs==1048576)=true:=by rw[q];exact beq_self_eq_true _
  rw[decide_eq_true q]
  have p:af (fun _=>False) f (aj aa gt Y (d+5) 283 #[v,jI 0]) o f fun c h' n'=>c= .bool false:=by
   rw[aC (fun _=>Wo) rfl];refine af.aB ?_;unfold J1;refine aN aE (agJ Y (d+3) f o ph v xs 0 (m.au j fun b D=>k b D id) jO) (ah _) (fun _ _ h=>h.elim) fun I P L z G g=> ?_;obtain⟨⟨r,rfl,t⟩,_,_⟩:=g;rcases t with ⟨rfl,_⟩|⟨i,C,_,N,_⟩
   ·try simp(disch:=first|omega|assumption) only[Nat.reduceAdd,Nat.reduceLT,RZ,eP,eQ,eR,eS,eT,eU,eV,eW,eX,eY]
    all_goals (first|trivial|rfl|exact⟨rfl,rfl,rfl⟩|exact⟨rfl,rfl⟩)
   ·have:=a (xs.getD i 0) (by rw[bw,bA C];exact dH _);omega
  refine jA (aI @bI (aI @ext1 (aI @l @e))) ?_;refine DC p jO fun O K y E=> ?_;exact jC @cx
 ·have e:(dM xs==1048576)=false:=beq_eq_false_iff_ne.2 q;rw[decide_eq_false q];exact jC (aI @bI (aI @ext1 (aI @l @e)))
end
def jJ(f:Nat->Nat)(N:Nat):List Value:=(gE N).map fun j=>jI (f j:Int)
theorem j4(f:Nat->Nat)(N:Nat):(jJ f N).length=N:=by unfold jJ;simp
theorem DP{f:Nat->Nat}{N j:Nat}(h:j<N):(jJ f N)[j]? =some (jI (f j:Int)):=by unfold jJ;rw[iW,List.getElem?_range h];rfl
def lR(f:Nat->Nat)(j v:Nat):Nat->Nat:=fun i=>if i=j then v else f i
theorem Kf{f:Nat->Nat}{N j v:Nat}:(jJ f N).set j (jI (v:Int))=jJ (lR f j v) N:=by
 apply Z6
 ·simp[j4]
 ·intro i b a;rw[ane];simp only[jJ,Z7,Z8,lR];by_cases e:j=i
  ·subst e;simp
  ·rw[if_neg e,if_neg (fun q=>e q.symm)]
def dT(lv cv ov:Value)(f g:Nat->Nat):List Value:=lv::cv::ov::(jJ f 21++jJ g 22)
theorem agK{lv cv ov:Value}{f g:Nat->Nat}{j:Nat}(h:j<21):(dT lv cv ov f g)[3+j]? =some (jI (f j:Int)):=by unfold dT;rw[show 3+j=j+1+1+1 by omega,uR,uR,uR,sH (by rw[j4];exact h),DP h]
theorem Xg{lv cv ov:Value}{f g:Nat->Nat}{j:Nat}(h:j<22):(dT lv cv ov f g)[24+j]? =some (jI (g j:Int)):=by unfold dT;rw[show 24+j=21+j+1+1+1 by omega,uR,uR,uR,qM (by rw[j4];omega),j4,show 21+j-21=j by omega,DP h]
theorem agL{lv cv ov:Value}{f g:Nat->Nat}{j v:Nat}(h:j<21):(dT lv cv ov f g).set (3+j) (jI (v:Int))=dT lv cv ov (lR f j v) g:=by unfold dT;rw[show 3+j=j+1+1+1 by omega,uX,uX,uX,anf _ _ (by rw[j4];exact h),Kf]
theorem Xh{lv cv ov:Value}{f g:Nat->Nat}{j v:Nat}:(dT lv cv ov f g).set (24+j) (jI (v:Int))=dT lv cv ov f (lR g j v):=by unfold dT;rw[show 24+j=21+j+1+1+1 by omega,uX,uX,uX,LK _ _ (by rw[j4];omega),j4,show 21+j-21=j by omega,Kf]
theorem Kg(lv cv ov:Value)(f g:Nat->Nat):(dT lv cv ov f g).length=46:=by unfold dT;simp[j4]
def cC(f:Nat->Nat)(n:Nat):Nat->Nat:=fun j=>if j<=n then f j else 0
theorem Kh(f:Nat->Nat)(n:Nat):lR (cC f n) (n+1) (f (n+1))=cC f (n+1):=by
 funext j;unfold lR cC;by_cases e:j=n+1
 ·subst e;simp
 ·rw[if_neg e];by_cases a:j<=n
  ·rw[if_pos a,if_pos jO]
  ·rw[if_neg a,if_neg jO]
theorem Xi{f:Nat->Nat}(h:f 0=0):cC f 0=fun _=>0:=by
 funext j;unfold cC;by_cases e:j<=0
 ·have:j=0:=jO;subst this;rw[if_pos e,h]
 ·rw[if_neg e]
def ja(ln:List Nat)(n s:Nat):List Int:=(gE ln.length).map fun t=>if ln.getD t 0<n∨(ln.getD t 0=n∧t<s)then(da ln t:Int)else 0
theorem DQ(ln:List Nat)(n s:Nat):(ja ln n s).length=ln.length:=by unfold ja;simp
theorem agM(ln:List Nat)(n:Nat):ja ln n ln.length=ja ln (n+1) 0:=by
 unfold ja;apply oC;intro t a;have:=List.mem_range.1 a;by_cases e:ln.getD t 0<n∨(ln.getD t 0=n∧t<ln.length)
 ·rw[if_pos e,if_pos jO]
 ·rw[if_neg e,if_neg jO]
theorem agN{ln:List Nat}{n s:Nat}(h:ln.getD s 0≠n):ja ln n (s+1)=ja ln n s:=by
 unfold ja;apply oC;intro t b;by_cases e:ln.getD t 0<n∨(ln.getD t 0=n∧t<s)
 ·rw[if_pos e,if_pos jO]
 ·rw[if_neg e,if_neg];rintro(q|⟨q1,q2⟩)
  ·exact e (.inl q)
  ·by_cases a:t=s
   ·subst a;exact h q1
   ·exact e (.inr ⟨q1,jO⟩)
theorem agO{ln:List Nat}{n s:Nat}(a:s<ln.length)(h:ln.getD s 0=n):(ja ln n s).set s (da ln s:Int)=ja ln n (s+1):=by
 apply Z6
 ·simp[DQ]
 ·intro t c b;rw[ane];simp only[ja,Z7,Z8];by_cases e:s=t
  ·subst e;rw[if_pos rfl,if_pos (.inr ⟨h,dO s⟩)]
  ·rw[if_neg e];by_cases q:ln.getD t 0<n∨(ln.getD t 0=n∧t<s)
   ·rw[if_pos q,if_pos jO]
   ·rw[if_neg q,if_neg jO]
theorem agP{ln:List Nat}(w:Wh ln):ja ln 1 0=bQ ln.length 0:=by
 apply Z6
 ·simp[DQ]
 ·intro t a b;rw[DQ]at a;have:=w.at a;simp only[ja,Z7,Z8,List.getElem_replicate];rw[if_neg jO]
def wD(ln:List Nat):List Int:=(gE ln.length).map fun t=>(da ln t:Int)
theorem agQ{ln:List Nat}(w:Wh ln):ja ln 21 0=wD ln:=by unfold ja wD;apply oC;intro t a;have:=w.at (List.mem_range.1 a);rw[if_pos jO]
theorem DR:∀(ln:List Nat) (m:Nat),bg ln m<=ln.length
 |[],m=>by
  have:∀m,bg [] m=0:=by
   intro m
   induction m with
   |zero=>rfl
   |succ m b=>show bg [] m+cn [] m=0;rw[b];simp[cn]
  rw[this];exact ah 0
 |x::ln,m=>by
  have a:∀m,bg (x::ln) m=bg ln m+(if x<m then 1 else 0):=by
   intro m
   induction m with
   |zero=>rfl
   |succ m b=>
    show bg (x::ln) m+cn (x::ln) m=bg ln m+cn ln m+_;have e:cn (x::ln) m=cn ln m+(if x=m then 1 else 0):=by unfold cn;rw[Z3];simp
    rw[b,e];by_cases h:x=m
    ·subst h;rw[if_neg (anc x),if_pos rfl,if_pos (dO x)];omega
    ·rw[if_neg h];by_cases c:x<m
     ·rw[if_pos c,if_pos jO];omega
     ·rw[if_neg c,if_neg jO];omega
  have:=DR ln m;rw[a,cK];split<;>omega
theorem agR(ln:List Nat):(fT ln 21).length<=ln.length:=by rw[lQ];exact DR ln 21
structure pq (h:H) (lo hi c:Nat) (ln:List Nat):Prop where
 ge:lo<=c
 lt:c<hi
 ex:∃lv cv ov,h.get c=some ⟨338,true,dT lv cv ov (cC (bU ln) 20) (cC (bg ln) 21)⟩∧Row h hi 3 .i64 lv (iN ln)∧(∀b,aJ lv b->lo<=b)∧Row h hi 31 .u32 cv (wD ln)∧(∀b,aJ cv b->lo<=b)∧Row h hi 3 .i64 ov (iN (fT ln 21))∧(∀b,aJ ov b->lo<=b)
theorem pq.au{h h':H}{lo e c:Nat}{ln:List Nat}(x:pq h lo e c ln)(d:∀b,lo<=b->b<e->h'.get b=h.get b):pq h' lo e c ln:=by obtain⟨i,f,lv,cv,p,g,o,n,m,l,k,j⟩:=x;exact⟨i,f,lv,cv,p,(d c i f).trans g,o.kG (ah _) fun b a=>d b (n b a) (o.lt a),n,m.kG (ah _) fun b a=>d b (l b a) (m.lt a),l,k.kG (ah _) fun b a=>d b (j b a) (k.lt a),j⟩
theorem pr(a b:List Nat):iN (a++b)=iN a++iN b:=by unfold iN;rw[pT]
theorem mO(k:IntKind)(a b:List Int):aW k (a++b)=aW k a++aW k b:=by unfold aW;rw[pT]
theorem agS(k:IntKind)(l:List Int)(i:Nat)(x:Int):(aW k l).set i (.int k x)=aW k (l.set i x):=by unfold aW;rw[List.map_set]
theorem agT(e:Option Addr)(a c:Nat)(d:Option Addr)(n2 b:Nat):(if 0<G'.length then fG (G'.set 0 (.slice e a c)) [(1,1,.slice d n2 b)]else none)=some (dT (.slice e a c) (.slice d n2 b) (.slice none 0 0) (fun _=>0) (fun _=>0)):=jK
section
variable (Y d n:Nat) (h:H) (ph:3000000<=Y)
include ph
theorem agU(v:Value)(xs:List Int)(i:Row h n 3 .i64 v xs)(s:3<=xs.length)(m:xs.length<=258)(l:j3 1 20 xs=true)(j:dM xs≠1048576):
 af (fun _=>False) n (aj aa gt Y (d+7) 267 #[v]) h n fun g h' n'=>g= .tuple #[.pointer none,jI 22]:=by
 rw[aC (fun _=>JQ) rfl];refine af.aB ?_;unfold zg;have f:=i;obtain⟨a,c,rfl⟩:=i.len;have q:¬(((xs.length:Nat):Int)<3):=jO;have p:¬((258:Int)<((xs.length:Nat):Int)):=jO;refine jA (aI @q @p) ?_;refine DC (b:=false) ((Xf Y d n h ph _ xs f m l).mono fun g _ _ _ e=>by rw[e,decide_eq_false j]) (ah _) fun t r k o=> ?_;exact jC @cx
set_option maxHeartbeats 2000000 in
theorem agV(v:Value)(ln:List Nat)(hR:Row h n 3 .i64 v (iN ln))(h3:3<=ln.length)(hl:ln.length<=258)(w:Wh ln)(hs:dM (iN ln)=1048576):
 af (fun _=>False) n (aj aa gt Y (d+7) 267 #[v]) h n fun v' h' n'=>∃c,v'= .tuple #[jP c 0,jI 0]∧pq h' n n' c ln:=by
 have W:=fa ln;rw[aC (fun _=>JQ) rfl];refine af.aB ?_;unfold zg;have v3:=hR;obtain⟨a,c,rfl⟩:=hR.len;have e1:¬((((iN ln).length:Nat):Int)<3):=jO;have e2:¬((258:Int)<(((iN ln).length:Nat):Int)):=jO
 have hm:j3 1 20 (iN ln)=true:=wv.2 fun x hx=>by unfold iN at hx;obtain⟨y,hy,rfl⟩:=List.mem_map.1 hx;have:=w.lo y hy;omega
 refine jA (aI @e1 @e2) ?_;refine DC (b:=true) ((Xf Y d n h ph _ _ v3 jO hm).mono fun v' _ _ _ e=>by rw[e,decide_eq_true hs]) (ah _) fun h1 n1 u5 x5=> ?_;have v1:=v3.au u5 x5;refine jA @eK ?_;refine lP aE (DB Y (d+5) n1 h1 _ _ v1 jO jO) u5 fun v2 h2 k T1 w7 x4 w2 t1=> ?_;obtain⟨_,v0,u8⟩:=w2;have L:=v0;obtain⟨t,r,rfl⟩:=v0.len;rw[W]at L u8⊢;refine jB ?_;refine agu ln.length _ jO ?_;have t2:RB ⟨k,k+1,[]⟩ n1:=⟨fun e he=>(nomatch he),fun e he=>(nomatch he),w7⟩;dsimp only;rw[agT,tq];refine OP trivial _ _ ?_;try simp(disch:=first|omega|assumption) only[Nat.reduceAdd,Nat.reduceLT,RZ,t1.cA t2,cx,eA,dQ]
 obtain⟨hb,R⟩:∃hb,(h2.set k (some ⟨31,true,bQ ln.length (.int .u32 0)⟩)).set (k+1) (some ⟨338,true,dT (.slice t ln.length r) (.slice (some ⟨k,0,none⟩) ln.length ln.length) (.slice none 0 0) (fun _=>0) (fun _=>0)⟩)=hb:=⟨_,rfl⟩
 have gc:hb.get (k+1)=some ⟨338,true,dT (.slice t ln.length r) (.slice (some ⟨k,0,none⟩) ln.length ln.length) (.slice none 0 0) (cC (bU ln) 0) (cC (bg ln) 0)⟩:=by rw[Xi (f:=bU ln) rfl,Xi (f:=bg ln) rfl,<-R,get_eq]
 have gv:hb.get k=some ⟨31,true,aW .u32 (ja ln 1 0)⟩:=by rw[<-R,aw _ _ jO,get_eq,agP w];unfold aW;rw[List.map_replicate]
 have kb:∀b,b<k->hb.get b=h2.get b:=fun b l=>by rw[<-R,aw _ _ jO,aw _ _ jO]
 rw[R]
 have u1:fT ln 1=[]:=by apply LS;rw[lQ,agB w]
 have Ki:gy ln 0 ln.length=0:=by unfold gy;rw[ux,zx w];rfl
 have x2:∀{h':H} {n':Nat},k<=n'->(∀b,b<k->h'.get b=h2.get b)->Row h' n' 3 .i64 (.slice a ln.length c) (iN ln):=fun{h'} {n'} u6 I=>by have:=v1.au (show n1<=n' by omega) fun b l=>(I b jO).trans (x4 b l);rw[W]at this;exact this
 refine dE 20 (fun fu i (q:Nat)=>rW Y (aj aa gt Y (d+6)) fu (zf Y (aj aa gt Y (d+6))) (.slice a ln.length c) (.pointer none) (jI 0) (jP (k+1) 0) (jI (q:Int)) (jI ((i+1:Nat):Int)) (.bool false) (.bool false))
  (fun i q h' n'=>k+2<=n'∧(∀b,b<k->h'.get b=h2.get b)∧q=gy ln i ln.length∧h'.get k=some ⟨31,true,aW .u32 (ja ln (i+1) 0)⟩∧∃ov,h'.get (k+1)=some ⟨338,true,dT (.slice t ln.length r) (.slice (some ⟨k,0,none⟩) ln.length ln.length) ov (cC (bU ln) i) (cC (bg ln) i)⟩∧Own h' (k+2) n' 3 ov (aW .i64 (iN (fT ln (i+1))))) ?_ ?_ Y 0 0 _ _ (aP _) jO ⟨ah _,kb,Ki.symm,gv,_,gc,by rw[u1];exact Own.nil _ _ _ _⟩
 ·rintro fu q h' n' ⟨u6,I,rfl,u0,ov,J,P⟩;have e3:¬(((20+1:Nat):Int)<=20):=jO;have c2:(dT (.slice t ln.length r) (.slice (some ⟨k,0,none⟩) ln.length ln.length) ov (cC (bU ln) 20) (cC (bg ln) 20))[2]? =some ov:=rfl;have N:=P.row;obtain⟨ao,co,u⟩:=N.len;have C:(iN (fT ln 21)).length=bg ln 21:=by rw[fa,lQ]
  rw[C]at u;have cg:=Xh (lv:= .slice t ln.length r) (cv:= .slice (some ⟨k,0,none⟩) ln.length ln.length) (ov:=ov) (f:=cC (bU ln) 20) (g:=cC (bg ln) 20) (j:=21) (v:=bg ln 21);rw[Kh]at cg;have w0:k+1<n':=jO;have u2:24+21<(dT (.slice t ln.length r) (.slice (some ⟨k,0,none⟩) ln.length ln.length) ov (cC (bU ln) 20) (cC (bg ln) 20)).length:=by rw[Kg];omega
  rw[rW];refine jA @e3 ?_
  (try unfold zf);(try dsimp only)
  rw[u]at J c2 cg u2 N;have x6:((21:Int)).toNat=21:=rfl;try simp(disch:=first|omega|assumption) only[Nat.reduceAdd,Nat.reduceLT,RZ,eP,eQ,eR,eS,eT,eU,eV,eW,eX,eY,J,c2,x6]
  refine⟨by simpa using u2,.inl jO, ?_⟩
  have fin:∀h9,h9.get (k+1)=some ⟨338,true,dT (.slice t ln.length r) (.slice (some ⟨k,0,none⟩) ln.length ln.length) (.slice ao (bg ln 21) co) (cC (bU ln) 20) (cC (bg ln) 21)⟩->(∀b,b≠k+1->h9.get b=h'.get b)->pq h9 n n' (k+1) ln:=by
   intro h9 w9 X
   have oe:∀b,aJ (.slice ao (bg ln 21) co) b->b≠k+1:=fun b l e=>by rw[u]at P;have:=(P.lt l).1;omega
   refine⟨jO,jO,_,_,_,w9, ?_,fun b l=>by have:=u8 b l;omega, ?_,fun b l=>by rw[l.inj];omega,N.kG (ah _) fun b l=>X b (oe b l),fun b l=>by rw[u]at P;have:=(P.lt l).1;omega⟩
   ·exact L.kG jO fun b l=>by have:=L.lt l;rw[X b jO,I b this]
   ·have e:h9.get k=some ⟨31,true,aW .u32 (wD ln)⟩:=by rw[X k jO,u0,agQ w]
    have y0:(wD ln).length=ln.length:=by unfold wD;simp
    exact .inr ⟨k,0,ln.length,true,_,by rw[y0],e,jO,by rw[eh];omega,by rw[js,List.take_of_length_le (by rw[eh];omega)],jO⟩
  refine⟨k+1,rfl,fin _ (by rw[get_eq];congr 2) fun b l=>aw _ _ l⟩
 ·rintro fu i q h' n' hi ⟨u6,I,rfl,u0,ov,J,P⟩ next;have e3:(((i+1:Nat):Int)<=20):=jO;have c2:∀f g,(dT (.slice t ln.length r) (.slice (some ⟨k,0,none⟩) ln.length ln.length) ov f g)[2]? =some ov:=fun _ _=>rfl;have y2:=w.cap (n:=i+1) jO;have y3:2^(i+1)<=2^20:=pS jD jO;have fe:bU ln (i+1)=2*gy ln i ln.length:=by unfold gy;rw[ux];rfl
  have w1:IntKind.i64.wrap (((gy ln i ln.length:Nat):Int)*2)=((bU ln (i+1):Nat):Int):=by rw[aH jO jO];omega
  have N:=P.row;obtain⟨ao,co,u⟩:=N.len;have C:(iN (fT ln (i+1))).length=bg ln (i+1):=by rw[fa,lQ]
  rw[C]at u;have sf:=agL (lv:= .slice t ln.length r) (cv:= .slice (some ⟨k,0,none⟩) ln.length ln.length) (ov:=ov) (f:=cC (bU ln) i) (g:=cC (bg ln) i) (j:=i+1) (v:=bU ln (i+1)) jO;rw[Kh]at sf;have sg:=Xh (lv:= .slice t ln.length r) (cv:= .slice (some ⟨k,0,none⟩) ln.length ln.length) (ov:=ov) (f:=cC (bU ln) (i+1)) (g:=cC (bg ln) i) (j:=i+1) (v:=bg ln (i+1));rw[Kh]at sg;have w0:k+1<n':=jO;have i1:((i+1:Nat):Int)<21:=jO;have i2:((i+1:Nat):Int)<22:=jO;have i0:(0:Int)<=((i+1:Nat):Int):=jO;have it:((i+1:Nat):Int).toNat=i+1:=rfl;have lc:∀f g,(dT (.slice t ln.length r) (.slice (some ⟨k,0,none⟩) ln.length ln.length) ov f g).length=46:=fun f g=>Kg _ _ _ _ _;rw[rW];rw[u]at J c2 sf sg lc;refine jA (aI @e3 (aI @w1 (aI @i0 (aI @i1 (aI @i2 (aI @it (aI @J (aI @sf (aI @lc (aI @true_or @or_true)))))))))) ?_;refine⟨jO,.inl jO, ?_⟩;refine jA (aI @get_eq (aI @c2 (aI @sg @lc))) ?_;refine⟨jO,.inl jO, ?_⟩;obtain⟨hA,Z⟩:∃hA,((h'.set (k+1) (some ⟨338,true,dT (.slice t ln.length r) (.slice (some ⟨k,0,none⟩) ln.length ln.length) (.slice ao (bg ln (i+1)) co) (cC (bU ln) (i+1)) (cC (bg ln) i)⟩)).set (k+1) (some ⟨338,true,dT (.slice t ln.length r) (.slice (some ⟨k,0,none⟩) ln.length ln.length) (.slice ao (bg ln (i+1)) co) (cC (bU ln) (i+1)) (cC (bg ln) (i+1))⟩))=hA:=⟨_,rfl⟩;have gA:hA.get (k+1)=some ⟨338,true,dT (.slice t ln.length r) (.slice (some ⟨k,0,none⟩) ln.length ln.length) (.slice ao (bg ln (i+1)) co) (cC (bU ln) (i+1)) (cC (bg ln) (i+1))⟩:=by rw[<-Z,get_eq]
  have kA:∀b,b≠k+1->hA.get b=h'.get b:=fun b l=>by rw[<-Z,aw _ _ l,aw _ _ l]
  rw[Z];have v9:gy ln (i+1) 0=bU ln (i+1):=by unfold gy;simp[eZ,cn]
  rw[u]at P
  refine dE ln.length (fun f2 s (q:Nat)=>rU Y (aj aa gt Y (d+6)) f2 (VV Y (aj aa gt Y (d+6)) fu (zf Y (aj aa gt Y (d+6)))) (.slice a ln.length c) (.pointer none) (jI 0) (jP (k+1) 0) (jI (q:Int)) (jI ((i+1:Nat):Int)) (.bool false) (.bool false) (.bool true) (.slice a ln.length c) (jI (ln.length:Int)) (jI (s:Int)))
   (fun s q Q B=>n'<=B∧(∀b,b<k->Q.get b=h2.get b)∧q=gy ln (i+1) s∧Q.get k=some ⟨31,true,aW .u32 (ja ln (i+1) s)⟩∧∃ov,Q.get (k+1)=some ⟨338,true,dT (.slice t ln.length r) (.slice (some ⟨k,0,none⟩) ln.length ln.length) ov (cC (bU ln) (i+1)) (cC (bg ln) (i+1))⟩∧Own Q (k+2) B 3 ov (aW .i64 (iN (fT ln (i+1)++fJ ln (i+1) s)))) ?_ ?_ Y 0 (bU ln (i+1)) _ _ (aP _) jO ⟨ah _,fun b l=>by rw[kA b jO];exact I b l,v9.symm,by rw[kA k jO];exact u0,_,gA, ?_⟩
  rotate_left 2
  ·have:fJ ln (i+1) 0=[]:=rfl;rw[this,bR];exact P.au (ah _) fun b l=>kA b fun e=>by have:=(P.lt l).1;omega
  ·rintro f2 q Q B ⟨u4,G,rfl,A,p,z,O⟩;have w3:IntKind.i64.wrap (((i+1:Nat):Int)+1)=((i+1+1:Nat):Int):=by rw[aH jO jO];rfl
   have v6:((i+1:Nat):Int)+1=((i+1+1:Nat):Int):=rfl;rw[rU];refine jA @eO ?_
   (try unfold VV);(try unfold Dl);(try dsimp only)
   refine jA (aI @w3 @v6) ?_;refine next (gy ln (i+1) ln.length) Q B ⟨jO,G,rfl, ?_,p,z,O⟩;rw[<-agM];exact A
  ·rintro f2 s q Q B E ⟨u4,G,rfl,A,p,z,O⟩ D;obtain⟨b,v8,cap,o,ks,hv,u7,y6,_,_,_,x1⟩:=(x2 (show k<=B by omega) G).some jO;have u3:kR a ln.length c= .slice (some ⟨b,v8,none⟩) (iN ln).length cap:=hv;rw[W]at u3;cases u3;have e5:((s:Nat):Int)<((ln.length:Nat):Int):=jO;have c5:=x1 s jO;rw[po]at c5;have y5:k+1<B:=jO;have y1:k<B:=jO;rw[rU];by_cases m:ln.getD s 0=i+1
   ·have U:(((ln.getD s 0:Nat):Int)==((i+1:Nat):Int))=true:=by rw[m];simp
    have K:gy ln (i+1) s=da ln s:=DL m;have u9:=w.Kd E;rw[m]at u9;have w4:IntKind.u32.wrap ((da ln s:Nat):Int)=((da ln s:Nat):Int):=fL jO;have x9:(dT (.slice t ln.length r) (.slice (some ⟨k,0,none⟩) ln.length ln.length) p (cC (bU ln) (i+1)) (cC (bg ln) (i+1)))[1]? =some (.slice (some ⟨k,0,none⟩) ln.length ln.length):=rfl;have x8:(dT (.slice t ln.length r) (.slice (some ⟨k,0,none⟩) ln.length ln.length) p (cC (bU ln) (i+1)) (cC (bg ln) (i+1)))[2]? =some p:=rfl;have x7:∀x,(dT (.slice t ln.length r) (.slice (some ⟨k,0,none⟩) ln.length ln.length) p (cC (bU ln) (i+1)) (cC (bg ln) (i+1))).set 2 x=dT (.slice t ln.length r) (.slice (some ⟨k,0,none⟩) ln.length ln.length) x (cC (bU ln) (i+1)) (cC (bg ln) (i+1)):=fun _=>rfl;have w5:IntKind.i64.wrap (((da ln s:Nat):Int)+1)=((da ln s+1:Nat):Int):=by rw[aH jO jO];rfl
    have v5:((da ln s:Nat):Int)+1=((da ln s+1:Nat):Int):=rfl;have w6:((s:Nat):Int)+1=((s+1:Nat):Int):=rfl;have ch:=agO E m;rw[K];refine jA (aI @e5 (aI @u7 (aI @c5 (aI @U (aI @z (aI @x9 (aI @w4 (aI @A (aI @agS (aI @ch (aI @eh @DQ))))))))))) ?_;refine⟨E,.inl jO, ?_⟩;have v4:(Q.set k (some ⟨31,true,aW .u32 (ja ln (i+1) (s+1))⟩)).get (k+1)=some ⟨338,true,dT (.slice t ln.length r) (.slice (some ⟨k,0,none⟩) ln.length ln.length) p (cC (bU ln) (i+1)) (cC (bg ln) (i+1))⟩:=by rw[aw _ _ jO];exact z
    refine jA (aI @v4 @x8) ?_;have T:Own (Q.set k (some ⟨31,true,aW .u32 (ja ln (i+1) (s+1))⟩)) (k+2) B 3 p (aW .i64 (iN (fT ln (i+1)++fJ ln (i+1) s))):=O.au (ah _) fun b l=>aw _ _ (by have:=(O.lt l).1;omega)
    have v7:(aW .i64 (iN (fT ln (i+1)++fJ ln (i+1) s))).length<=1000:=by
     rw[eh,fa,bE,lQ,wz _ jO];have h1:=W5 (ln:=ln) (show i+1<=21 by omega)
     have y9:bg ln 21<=ln.length:=by have:=lQ ln 21;rw[<-this];exact agR ln
     have y8:=Kb ln (i+1) s;have y7:cn ln (i+1)<=ln.length:=List.countP_le_length;omega
    refine rB trivial (kF _ _) T jO jO _ fun h7 g7 k7=> ?_;have x3:h7.get (k+1)=some ⟨338,true,dT (.slice t ln.length r) (.slice (some ⟨k,0,none⟩) ln.length ln.length) p (cC (bU ln) (i+1)) (cC (bg ln) (i+1))⟩:=by rw[k7 (k+1) jO fun q=>by have:=(T.lt q).1;omega];exact v4
    have y4:k+1<B+2:=jO;refine jA (aI @x3 (aI @x7 @Kg)) ?_;refine⟨.inl jO, ?_⟩;rw[v5,w6];have sn:fJ ln (i+1) (s+1)=fJ ln (i+1) s++[s]:=by rw[zw,if_pos m]
    have on:aW .i64 (iN (fT ln (i+1)++fJ ln (i+1) (s+1)))=aW .i64 (iN (fT ln (i+1)++fJ ln (i+1) s))++[jI (s:Int)]:=by rw[sn,<-List.append_assoc,pr,mO];rfl
    refine D (da ln s+1) _ _ ⟨jO,fun b l=> ?_,by rw[DK E,if_pos m,K], ?_,_,get_eq _ _ _, ?_⟩
    ·rw[aw _ _ jO,k7 b jO (fun q=>by have:=(T.lt q).1;omega),aw _ _ jO];exact G b l
    ·rw[aw _ _ jO,k7 k jO (fun q=>by have:=(T.lt q).1;omega),get_eq]
    ·rw[on];refine Or.inr ⟨B+1,jS,by rw[aw _ _ jO];exact g7,jO,jO⟩
   ·have U:(((ln.getD s 0:Nat):Int)==((i+1:Nat):Int))=false:=beq_eq_false_iff_ne.2 fun e=>m jO;have w6:((s:Nat):Int)+1=((s+1:Nat):Int):=rfl;have sn:fJ ln (i+1) (s+1)=fJ ln (i+1) s:=by rw[zw,if_neg m,bR]
    refine jA (aI @e5 (aI @u7 (aI @c5 @U))) ?_;refine D (gy ln (i+1) s) Q B ⟨u4,G,by rw[DK E,if_neg m];rfl,by rw[agN m];exact A,p,z,by rw[sn];exact O⟩
end
theorem Kj{f:Nat->Nat}{n j:Nat}(h:j<=n):cC f n j=f j:=by unfold cC;rw[if_pos h]
section
variable {Y d n p c lo hi:Nat} {h:H} {S:List UInt8} {D A:Nat} {ln:List Nat}
theorem agW(x:aY h n p S D A)(k:pq h lo hi c ln)(w:Wh ln)(hh:hi<=n)(hp:p<lo)(hl:ln.length<=258)(u7:100<=Y):af (fun b=>b=p) n (aj aa gt Y (d+4) 273 #[jP c 0,jP p 0]) h n fun v h' n'=>n'=n∧
 ((fC ln (ar S D A)=none∧v= .tuple #[jI 0,jI 3]∧∃B,aY h' n p S D B)∨∃s,fC ln (ar S D A)=some s∧v= .tuple #[jI (s:Int),jI 0]∧aY h' n p S D (A+ln.getD s 0)):=by
 have x0:=x;have k0:=k;obtain⟨F2,u5,lv,cv,j,g,a1,a2,b1,b2,o1,o2⟩:=k;rw[aC (fun _=>V7) rfl];refine af.aB ?_;unfold Dq;obtain⟨bs,G⟩:∃bs,ar S D A=bs:=⟨_,rfl⟩;have L:=x.len;have P:=x.lo;rw[G]at L⊢;have cp:c≠p:=jO
 refine dE 20 (fun fu i (q:Nat)=>wk Y (aj aa gt Y (d+3)) fu (zh Y (aj aa gt Y (d+3))) (jP c 0) (jP p 0) (jI 0) (jI 0) (jI (q:Int)) (jI ((i+1:Nat):Int)))
  (fun i q h' n'=>n'=n∧(∀b,b≠p->b<n->h'.get b=h.get b)∧i<=bs.length∧q=num (bs.take i) 0∧aY h' n p S D (A+i)∧lh ln bs i) ?_ ?_ Y 0 0 _ _ (aP _) jO ⟨rfl,fun _ _ _=>rfl,aP _,rfl,x,by unfold lh;rw[zx w];exact aP _⟩
 ·rintro fu q h' n' ⟨rfl,O,hb,rfl,Q,a⟩;have K:=w.full;have h2:=hH (bs.take 20);unfold lh at a;rw[K]at a;rw[cO,gZ hb]at h2;omega
 ·rintro fu i q h' n' u8 ⟨rfl,O,hb,rfl,Q,a⟩ next;have e1:((i+1:Nat):Int)<=20:=jO;have v2:((1:Nat):Int)=1:=rfl;have f:ar S D (A+i)=bs.drop i:=by rw[<-nO P,G]
  rw[wk];refine jA @e1 ?_;refine aN aE (lq (Y:=Y) (d:=d) Q 1 jO jO) (ah _) (fun b _ e=> .inr e) fun v1 K T u6 r N=> ?_;obtain⟨rfl,N⟩:=N;rw[f]at N;rcases N with ⟨sh,rfl,rfl⟩|⟨lg,rfl,x1⟩
  ·have z1:((3:Int) !=0)=true:=rfl;refine jA (aI @bI (aI @ext1 @z1)) ?_
   (try unfold zh);(try dsimp only)
   refine jB ?_;have bl:bs.length=i:=by simp at sh;omega
   refine .inl ⟨W2 fun s m=> ?_,_,Q⟩;have:=a.no jO (i:=s) (by have:=m.2.1;omega);exact this m
  ·have l:i<bs.length:=by simp at lg;omega
   have z0:((0:Int) !=0)=false:=rfl;have t1:(bs.drop i).take 1=[bs[i]]:=by rw[qP l,amI,Fa]
   have tk:bs.take (i+1)=bs.take i++[bs[i]]:=m9 l;have nb:num [bs[i]] 0=bn bs[i]:=by show 2*0+bn bs[i]=_;omega
   have nn:num (bs.take (i+1)) 0=2*num (bs.take i) 0+bn bs[i]:=by rw[tk,zu]
   have bl:=rY bs[i];have pw:=hH (bs.take (i+1));rw[cO,gZ jO]at pw;have u3:2^(i+1)<=2^20:=pS jD jO;have u0:=a.next l;have v0:bg ln (i+1)<=258:=iV (DR ln _) hl;have u1:bg ln (i+1+1)<=258:=iV (DR ln _) hl;have u2:=w.cap (n:=i+1) jO;rw[t1,nb];have E:K.get c=some ⟨338,true,dT lv cv j (cC (bU ln) 20) (cC (bg ln) 21)⟩:=by rw[r c jO cp,O c cp jO];exact g
   have c1:(dT lv cv j (cC (bU ln) 20) (cC (bg ln) 21))[3+(i+1)]? =some (jI (bU ln (i+1):Int)):=by rw[agK jO,Kj jO]
   have c2:(dT lv cv j (cC (bU ln) 20) (cC (bg ln) 21))[24+(i+1)]? =some (jI (bg ln (i+1):Int)):=by rw[Xg jO,Kj jO]
   have c3:(dT lv cv j (cC (bU ln) 20) (cC (bg ln) 21))[24+(i+1+1)]? =some (jI (bg ln (i+1+1):Int)):=by rw[Xg jO,Kj jO]
   have c4:(dT lv cv j (cC (bU ln) 20) (cC (bg ln) 21))[2]? =some j:=rfl;have w1:IntKind.i64.wrap (2*((num (bs.take i) 0:Nat):Int))=((2*num (bs.take i) 0:Nat):Int):=by rw[aH jO jO];omega
   have w2:IntKind.i64.wrap ((bn bs[i]:Nat):Int)=((bn bs[i]:Nat):Int):=aH jO jO;have w3:IntKind.i64.wrap (((2*num (bs.take i) 0:Nat):Int)+((bn bs[i]:Nat):Int))=((num (bs.take (i+1)) 0:Nat):Int):=by rw[aH jO jO];omega
   have w4:IntKind.i64.wrap (((bg ln (i+1):Nat):Int)+((num (bs.take (i+1)) 0:Nat):Int))=((bg ln (i+1)+num (bs.take (i+1)) 0:Nat):Int):=by rw[aH jO jO];omega
   have w5:IntKind.i64.wrap (((bg ln (i+1)+num (bs.take (i+1)) 0:Nat):Int)-((bU ln (i+1):Nat):Int))=((bg ln (i+1)+(num (bs.take (i+1)) 0-bU ln (i+1)):Nat):Int):=by rw[aH jO jO];omega
   have w6:IntKind.i64.wrap (((i+1:Nat):Int)+1)=((i+1+1:Nat):Int):=by rw[aH jO jO];rfl
   have u:((i+1:Nat):Int)+1=((i+1+1:Nat):Int):=rfl;have i0:(0:Int)<=((i+1:Nat):Int):=jO;have i1:((i+1:Nat):Int)<21:=jO;have i2:((i+1:Nat):Int)<22:=jO;have i3:(0:Int)<=((i+1+1:Nat):Int):=jO;have i4:((i+1+1:Nat):Int)<22:=jO;have it:((i+1:Nat):Int).toNat=i+1:=rfl;have y:((i+1+1:Nat):Int).toNat=i+1+1:=rfl;have v3:c<T:=jO;have fs:bg ln (i+1+1)=bg ln (i+1)+cn ln (i+1):=rfl;by_cases t:num (bs.take (i+1)) 0<bU ln (i+1)+cn ln (i+1)
   ·have e5:((bg ln (i+1)+(num (bs.take (i+1)) 0-bU ln (i+1)):Nat):Int)<((bg ln (i+1+1):Nat):Int):=jO;obtain⟨s,hs⟩:=nN (ln:=ln) (bs:=bs) (n:=i+1) jO u0 t;rcases hs with ⟨z,W⟩|hs
    rotate_left
    ·omega
    obtain⟨mt,U⟩:=W jO
    have R:Row K T 3 .i64 j (iN (fT ln 21)):=(o1.kG (n':=T) hh fun b e=>by
     have K:=o1.lt e;have h2:=o2 b e
     rw[r b jO jO];exact O b jO jO)
    have ol:(iN (fT ln 21)).length=bg ln 21:=by rw[fa,lQ]
    have rl:bg ln (i+1)+(num (bs.take (i+1)) 0-bU ln (i+1))<bg ln 21:=by have:=(List.getElem?_eq_some_iff.1 z).1;rw[lQ]at this;exact this
    obtain⟨b,u4,cap,o,ks,C,X,u9,_,_,_,Z⟩:=R.some jO;have co:=Z _ (by rw[ol];exact rl)
    have cs:(iN (fT ln 21)).getD (bg ln (i+1)+(num (bs.take (i+1)) 0-bU ln (i+1))) 0=(s:Int):=by rw[po,bw,z];rfl
    rw[cs]at co;rw[ol]at C;subst C;have e6:(0:Int)<=((bg ln (i+1)+(num (bs.take (i+1)) 0-bU ln (i+1)):Nat):Int):=jO;have e7:((bg ln (i+1)+(num (bs.take (i+1)) 0-bU ln (i+1)):Nat):Int)<((bg ln 21:Nat):Int):=jO;refine jA (aI @bI (aI @ext1 (aI @z0 (aI @w1 (aI @w2 (aI @w3 (aI @E (aI @i0 (aI @i1 (aI @i2 (aI @i3 (aI @i4 (aI @it (aI @y (aI @c1 (aI @c2 (aI @c3 (aI @c4 (aI @w4 (aI @w5 (aI @w6 (aI @u (aI @e5 (aI @e6 (aI @e7 (aI @X @co)))))))))))))))))))))))))) ?_
    (try unfold zh);(try dsimp only)
    refine jB ?_;refine .inr ⟨s,DI mt,rfl, ?_⟩;rw[U];exact x1
   ·have e5:¬((bg ln (i+1)+(num (bs.take (i+1)) 0-bU ln (i+1)):Nat):Int)<((bg ln (i+1+1):Nat):Int):=jO;refine jA (aI @bI (aI @ext1 (aI @z0 (aI @w1 (aI @w2 (aI @w3 (aI @E (aI @i0 (aI @i1 (aI @i2 (aI @i3 (aI @i4 (aI @it (aI @y (aI @c1 (aI @c2 (aI @c3 (aI @w4 (aI @w5 (aI @w6 (aI @u @e5))))))))))))))))))))) ?_;refine next _ _ _ ⟨rfl,fun b J I=>by rw[r b I J];exact O b J I,jO,rfl,x1, ?_⟩;unfold lh;omega
theorem agX(x:aY h n p S D A)(k:pq h lo hi c ln)(w:Wh ln)(hh:hi<=n)(o:p<lo)(t:ln.length<=258)(i:100<=Y):af (fun b=>b=p) n (aj aa gt Y (d+5) 263 #[jP c 0,jP p 0]) h n fun v h' n'=>n'=n∧
 ((fC ln (ar S D A)=none∧v= .tuple #[jI 0,jI 3]∧aY h' n p S D A)∨∃s,fC ln (ar S D A)=some s∧v= .tuple #[jI (s:Int),jI 0]∧aY h' n p S D (A+ln.getD s 0)):=by
 rw[aC (fun _=>VP) rfl];refine af.aB ?_;unfold JM;refine jB ?_;refine bz (DM x) (ah _) (fun _ _ h=>h.elim) ?_;refine aN aE (agW (d:=d) x k w hh o t i) (ah _) (fun b _ a=> .inr a) fun C J G r y g=> ?_;obtain⟨rfl,g⟩:=g;rcases g with ⟨q1,rfl,B,e⟩|⟨s,q1,rfl,e⟩
 ·have j:((3:Int) !=0)=true:=rfl;refine jA (aI @bI (aI @ext1 @j)) ?_;refine aN aE (DO (Y:=Y) (d:=d+2) e A x.lo x.hi) (ah _) (fun b _ a=> .inr a) fun z I E q u f=> ?_;obtain⟨_,rfl,m⟩:=f;refine jB ?_;exact .inl ⟨q1,m⟩
 ·have l:((0:Int) !=0)=false:=rfl;refine jA (aI @bI (aI @ext1 @l)) ?_;exact .inr ⟨s,q1,rfl,e⟩
end
inductive St (α:Type)
 |short
 |bad (e:Int)
 |ok (a:α) (used:Nat)
def jn(m:Int)(b:List Nat)(a:Nat):St (Nat×List Nat):=if 1<=m∧m<=20 then .ok (m.toNat,b) a else .bad 22
def cZ(c:Nat)(a:List Nat)(bs:List Bool):St (Nat×List Nat):=
 if c=0 then(if bs.length<5 then .short else jn (num (bs.take 5) 0:Int) a 5)
 else match bs with
  |[]=> .short
  |false::_=> .ok (c,a++[c]) 1
  |[true]=> .short
  |true::b::_=>jn ((c:Int)+1-2*(bn b:Int)) a 2
def dB(size b:Nat)(lv:Value)(a:Bool):AB:=⟨333,true,[jI (size:Int),jI (b:Int),lv,.bool a]⟩
structure gJ (h:H) (lo n q size now:Nat) (lv:Value) (lens:List Nat) (dF:Bool):Prop where
 get:h.get q=some (dB size now lv dF)
 ge:lo<=q
 lt:q<n
 own:Own h lo n 3 lv (aW .i64 (iN lens))
theorem gJ.ne{h:H}{lo n q size d:Nat}{lv:Value}{c:List Nat}{a:Bool}(x:gJ h lo n q size d lv c a){b:Nat}(g:aJ lv b):b≠q:=fun e=>by obtain⟨B,f,i⟩:=x.own.elem g;rw[e,x.get]at f;cases f;exact absurd (show(333:Nat)=3 from i) jD
theorem gJ.au{h h':H}{lo n n' q size d:Nat}{lv:Value}{c:List Nat}{a:Bool}(x:gJ h lo n q size d lv c a)(e:n<=n')(f:∀b,b<n->(b=q∨aJ lv b)->h'.get b=h.get b):gJ h' lo n' q size d lv c a:=
 ⟨(f q x.lt (.inl rfl)).trans x.get,x.ge,fP x.lt e,x.own.au e fun b g=>f b (x.own.lt g).2 (.inr g)⟩
section
variable {Y d n p q lo size now:Nat} {h:H} {S:List UInt8} {D A:Nat} {lv:Value} {lens:List Nat} {dF:Bool}
theorem agY(z:Int):af (fun _=>False) n (aj aa gt Y (d+1) 271 #[jI z]) h n fun a h' n'=>a= .bool (decide (3<=z)&&decide (z<=258))∧h'=h∧n'=n:=by
 rw[aC (fun _=>V1) rfl];refine af.aB ?_;unfold JU;by_cases c:3<=z
 ·exact jC @c
 ·exact jC @c
theorem agZ(z:Int):af (fun _=>False) n (aj aa gt Y (d+1) 284 #[jI z]) h n fun a h' n'=>a= .bool (decide (1<=z)&&decide (z<=20))∧h'=h∧n'=n:=by
 rw[aC (fun _=>Wp) rfl];refine af.aB ?_;unfold J2;by_cases c:1<=z
 ·exact jC @c
 ·exact jC @c
theorem Xj(b:3<=size)(a:size<=258):af (fun _=>False) n (aj aa gt Y (d+2) 259 #[jI (size:Int)]) h n fun v h' n'=>v= .tuple #[jP n 0,jI 0]∧n'=n+1∧gJ h' n n' n size 0 (.slice none 0 0) [] false:=by rw[aC (fun _=>VJ) rfl];refine af.aB ?_;unfold JJ;refine bz (agY (size:Int)) (ah _) (fun _ _ h=>h.elim) ?_;rw[decide_eq_true (show(3:Int)<=(size:Int) by omega),decide_eq_true (show(size:Int)<=258 by omega)];refine jA (aI @eA @eK) ?_;refine gu trivial _ _ ?_;refine jB ?_;exact⟨get_eq _ _ _,ah _,jO,Own.nil _ _ _ _⟩
theorem Xk(x:gJ h lo n q size now lv lens dF):af (fun _=>False) n (aj aa gt Y (d+1) 266 #[jP q 0]) h n fun b h' n'=>b= .bool (decide (lens.length=size))∧h'=h∧n'=n:=by
 have g:=x.get;have i:=x.lt;unfold dB at g;have f:=x.own.row;obtain⟨a,c,rfl⟩:=f.len;rw[aC (fun _=>VT) rfl];refine af.aB ?_;unfold JP
 have e:((((iN lens).length:Nat):Int)==(size:Int))=decide (lens.length=size):=by
  rw[fa];by_cases e:lens.length=size
  ·rw[decide_eq_true e,e];simp
  ·rw[decide_eq_false e];exact beq_eq_false_iff_ne.2 fun q=>e jO
 try simp(disch:=first|omega|assumption) only[Nat.reduceAdd,Nat.reduceLT,RZ,eP,eQ,eR,eS,eT,eU,eV,eW,eX,eY,g,e]
theorem ag0(x:gJ h lo n q size now lv lens dF)(e:0<lens.length)(k:lens.length<=1000):af (fun _=>False) n (aj aa gt Y (d+2) 268 #[jP q 0]) h n fun b h' n'=>Row h' n' 3 .i64 b (iN lens):=by
 have g:=x.get;have a:=x.lt;unfold dB at g;rw[aC (fun _=>VY) rfl];refine af.aB ?_;unfold JR;try simp(disch:=first|omega|assumption) only[Nat.reduceAdd,Nat.reduceLT,RZ,eP,eQ,eR,eS,eT,eU,eV,eW,eX,eY,g]
 refine aN aE (DB Y d n h lv (iN lens) x.own.row (by rw[fa];exact e) (by rw[fa];omega)) (ah _) (fun _ _ h=>h.elim) fun i l j c f a=> ?_;refine jB ?_;exact a.2.1
theorem ag1(x:gJ h lo n q size now lv lens dF)(m:Int):af (fun b=>b=q) n (aj aa gt Y (d+2) 281 #[jP q 0,jI m]) h n fun f h' n'=>n'=n∧(∀b,b≠q->h'.get b=h.get b)∧((¬(1<=m∧m<=20)∧f=jI 22∧h'.get q=some (dB size now lv true))∨((1<=m∧m<=20)∧f=jI 0∧h'.get q=some (dB size m.toNat lv dF))):=by
 have g:=x.get;have i:=x.lt;unfold dB at g;rw[aC (fun _=>Wj) rfl];refine af.aB ?_;unfold J0;refine bz (agZ m) (ah _) (fun _ _ h=>h.elim) ?_;by_cases c:1<=m∧m<=20
 ·rw[decide_eq_true c.1,decide_eq_true c.2];try simp(disch:=first|omega|assumption) only[Nat.reduceAdd,Nat.reduceLT,RZ,eP,eQ,eR,eS,eT,eU,eV,eW,eX,eY,eA,eK,g,true_or,or_true]
  exact⟨fun b a=>aw _ _ a,.inr ⟨c,by unfold dB;rw[Int.toNat_of_nonneg jO]⟩⟩
 ·have:(decide (1<=m)&&decide (m<=20))=false:=by
   cases e:(decide (1<=m)&&decide (m<=20))with
   |false=>rfl
   |true=>rw[bW,decide_eq_true_eq,decide_eq_true_eq]at e;exact absurd e c
  rw[this];try simp(disch:=first|omega|assumption) only[Nat.reduceAdd,Nat.reduceLT,RZ,eP,eQ,eR,eS,eT,eU,eV,eW,eX,eY,cx,g,true_or,or_true]
  exact⟨fun b a=>aw _ _ a,.inl ⟨c,rfl⟩⟩
def wE(h:H)(n p:Nat)(S:List UInt8)(D A lo q size now:Nat)(lv:Value)(lens:List Nat)(c:Value)(h':H)(n':Nat):Prop:=
 match cZ now lens (ar S D A)with
 | .short=>c= .int .i64 3∧aY h' n' p S D A∧gJ h' lo n' q size now lv lens false
 | .bad e=>c= .int .i64 e∧(∃B,aY h' n' p S D B)∧gJ h' lo n' q size now lv lens true
 | .ok (m,l) u=>c= .int .i64 0∧aY h' n' p S D (A+u)∧∃a,gJ h' lo n' q size m a l false∧∀b,aJ a b->aJ lv b∨n<=b
theorem ag2(x:aY h n p S D A)(y:gJ h lo n q size now lv lens false)(R:p≠q)(W:¬aJ lv p)(u9:now<=20)(hl:lens.length<=1000)(v5:lo<=n)(v6:100<=Y):
 af (fun b=>b=p∨b=q∨aJ lv b) n (aj aa gt Y (d+4) 276 #[jP q 0,jP p 0]) h n fun J h' n'=>(J=jI 3∧cZ now lens (ar S D A)= .short∧(∃B,aY h' n' p S D B)∧gJ h' lo n' q size now lv lens false)∨(J≠jI 3∧cZ now lens (ar S D A)≠ .short∧wE h n p S D A lo q size now lv lens J h' n'):=by
 have g:=y.get;have hq:=y.lt;unfold dB at g;obtain⟨o,C⟩:∃o,ar S D A=o:=⟨_,rfl⟩;rw[aC (fun _=>Wb) rfl];refine af.aB ?_;unfold JW wE;have z1:((3:Int) !=0)=true:=rfl;have z0:((0:Int) !=0)=false:=rfl;have e1:((1:Nat):Int)=1:=rfl
 have dk:∀{h1:H},(∀b,b<n->¬b=p->h1.get b=h.get b)->gJ h1 lo n q size now lv lens false:=fun fr=>y.au (ah _) fun b k hM=>fr b k (by
  rcases hM with rfl|hM
  ·exact fun e=>R e.symm
  ·exact fun e=>W (e▸hM))
 have told:∀(h1:H) (K:Nat) (m:Int) (u:Nat),K=n->(∀b,b<n->¬b=p->h1.get b=h.get b)->aY h1 K p S D (A+u)->cZ now lens o=jn m lens u->
  af (fun b=>b=p∨b=q∨aJ lv b) n (ai (aj aa gt Y (d+3)) 281 [jP q 0,jI m] fun v=>ag [v]) h1 K fun J h' n'=>(J=jI 3∧cZ now lens o= .short∧(∃B,aY h' n' p S D B)∧gJ h' lo n' q size now lv lens false)∨(J≠jI 3∧cZ now lens o≠ .short∧match cZ now lens o with
   | .short=>J= .int .i64 3∧aY h' n' p S D A∧gJ h' lo n' q size now lv lens false
   | .bad e=>J= .int .i64 e∧(∃B,aY h' n' p S D B)∧gJ h' lo n' q size now lv lens true
   | .ok (m,l) u=>J= .int .i64 0∧aY h' n' p S D (A+u)∧∃T,gJ h' lo n' q size m T l false∧∀b,aJ T b->aJ lv b∨n<=b):=by
  rintro h1 K m u rfl fr O u3;have N:=dk fr;refine aN aE (ag1 (d:=d+1) N m) (ah _) (fun b _ k=> .inr (.inr (.inl k))) fun v2 h2 n2 v4 v7 s=> ?_;obtain⟨rfl,U,s⟩:=s;have x2:=O.au (ah _) (U p R);have o2:Own h2 lo _ 3 lv (aW .i64 (iN lens)):=N.own.au (ah _) fun b k=>U b (N.ne k);refine jB ?_;refine .inr ?_;rw[u3];unfold jn;rcases s with ⟨c,rfl,X⟩|⟨c,rfl,X⟩
  ·rw[if_neg c];exact⟨jS,jS,rfl,⟨_,x2⟩,X,y.ge,hq,o2⟩
  ·rw[if_pos c];exact⟨jS,jS,rfl,x2,lv,⟨X,y.ge,hq,o2⟩,fun b k=> .inl k⟩
 by_cases Q:now=0
 ·have e0:((now:Int)==0)=true:=by rw[Q];rfl
  rw[C];try simp(disch:=first|omega|assumption) only[Nat.reduceAdd,Nat.reduceLT,RZ,eP,eQ,eR,eS,eT,eU,eV,eW,eX,eY,g,e0]
  refine aN aE (lq (Y:=Y) (d:=d) x 5 jO jO) (ah _) (fun b _ k=> .inr (.inl k)) fun v1 h1 K u5 E i=> ?_;obtain⟨rfl,i⟩:=i;rw[C]at i;rcases i with ⟨sh,rfl,rfl⟩|⟨lg,rfl,O⟩
  ·refine jA (aI @bI (aI @ext1 @z1)) ?_;refine .inl ⟨by unfold cZ;rw[if_pos Q,if_pos sh],⟨_,x⟩,y⟩
  ·have nl:=hH (o.take 5);rw[cO,gZ lg]at nl;have w1:IntKind.i64.wrap ((num (o.take 5) 0:Nat):Int)=((num (o.take 5) 0:Nat):Int):=aH jO jO;refine jA (aI @bI (aI @ext1 (aI @z0 @w1))) ?_;exact told h1 K _ 5 rfl (fun b k hM=>E b k hM) O (by unfold cZ;rw[if_pos Q,if_neg jO])
 ·have e0:((now:Int)==0)=false:=beq_eq_false_iff_ne.2 jO;rw[C];try simp(disch:=first|omega|assumption) only[Nat.reduceAdd,Nat.reduceLT,RZ,eP,eQ,eR,eS,eT,eU,eV,eW,eX,eY,g,e0]
  refine aN aE (lq (Y:=Y) (d:=d) x 1 jO jO) (ah _) (fun b _ k=> .inr (.inl k)) fun v1 h1 K u5 E i=> ?_;obtain⟨rfl,i⟩:=i;rw[C]at i;rcases i with ⟨sh,rfl,rfl⟩|⟨lg,rfl,O⟩
  ·refine jA (aI @bI (aI @ext1 @z1)) ?_;have:o=[]:=LS jO;refine .inl ⟨by unfold cZ;rw[if_neg Q,this],⟨_,x⟩,y⟩
  ·obtain⟨b,f,u6⟩:∃b f,o=b::f:=by
    cases o with
    |nil=>simp at lg
    |cons b f=>exact⟨b,f,rfl⟩
   subst u6;have nb:num ((b::f).take 1) 0=bn b:=by show 2*0+bn b=_;omega
   have N:=dk (h1:=h1) fun c t j=>E c t j;have g1:=N.get;unfold dB at g1;rw[nb];cases b with
   |false=>
    have ez:(((bn false:Nat):Int)==0)=true:=rfl;have cv:∀z:Value,[jI (size:Int),jI (now:Int),lv,.bool false].set 2 z=[jI (size:Int),jI (now:Int),z,.bool false]:=fun _=>rfl;refine jA (aI @bI (aI @ext1 (aI @z0 (aI @ez @g1)))) ?_;refine rX trivial (kF _ _) N.own (by rw[eh,fa];omega) (fun c t=> .inr (.inr (.inr t))) _ fun h2 X U=> ?_;have g3:h2.get q=some ⟨333,true,[jI (size:Int),jI (now:Int),lv,.bool false]⟩:=by rw[U q jO fun r=>N.ne r rfl];exact g1
    have s:q<K+2:=jO;have u4:=O.lt;refine jA (aI @g3 @cv) ?_
    have on:aW .i64 (iN (lens++[now]))=aW .i64 (iN lens)++[jI (now:Int)]:=by rw[pr,mO];rfl
    refine .inr ⟨jS, ?_⟩;have es:cZ now lens (false::f)= .ok (now,lens++[now]) 1:=by unfold cZ;rw[if_neg Q]
    rw[es];refine⟨jS,O.au jO ?_,_,⟨get_eq _ _ _,y.ge,s, ?_⟩,fun c t=> .inr (by rw[t.inj];omega)⟩
    ·rw[aw _ _ R,U p u4 W]
    ·rw[on];exact .inr ⟨K+1,jS,by rw[aw _ _ jO];exact X,jO,jO⟩
   |true=>
    have ez:(((bn true:Nat):Int)==0)=false:=rfl;refine jA (aI @bI (aI @ext1 (aI @z0 @ez))) ?_;have P:ar S D (A+1)=f:=by rw[<-nO x.lo,C];rfl
    refine aN aE (lq (Y:=Y) (d:=d) O 1 jO jO) (ah _) (fun b _ k=> .inr (.inl k)) fun v3 h3 n3 v0 Z L=> ?_;obtain⟨rfl,L⟩:=L;rw[P]at L;rcases L with ⟨sh,rfl,rfl⟩|⟨u2,rfl,x3⟩
    ·refine jA (aI @bI (aI @ext1 @z1)) ?_;have:f=[]:=LS jO;refine .inl ⟨by unfold cZ;rw[if_neg Q,this],⟨_,O⟩,N⟩
    ·obtain⟨I,G,hM⟩:∃b G,f=b::G:=by
      cases f with
      |nil=>simp at u2
      |cons b G=>exact⟨b,G,rfl⟩
     subst hM;have u1:num ((I::G).take 1) 0=bn I:=by show 2*0+bn I=_;omega
     rw[u1];have y3:=dk (h1:=h3) fun c t j=>(Z c t j).trans (E c t j);have g3:=y3.get;unfold dB at g3;have bl:=rY I;have w1:IntKind.i64.wrap ((now:Int)+1)=(now:Int)+1:=aH jO jO;have w2:IntKind.i64.wrap ((bn I:Nat):Int)=((bn I:Nat):Int):=aH jO jO;have w3:IntKind.i64.wrap (2*((bn I:Nat):Int))=2*((bn I:Nat):Int):=aH jO jO;have w4:IntKind.i64.wrap ((now:Int)+1-2*((bn I:Nat):Int))=(now:Int)+1-2*((bn I:Nat):Int):=aH jO jO;refine jA (aI @bI (aI @ext1 (aI @z0 (aI @g3 (aI @w1 (aI @w2 (aI @w3 @w4))))))) ?_;exact told h3 n3 _ 2 rfl (fun c t j=>(Z c t j).trans (E c t j)) x3 (by unfold cZ;rw[if_neg Q])
theorem ag3(x:aY h n p S D A)(y:gJ h lo n q size now lv lens false)(f:p≠q)(i:¬aJ lv p)(j:now<=20)(Q:lens.length<size)(O:size<=258)(o:lo<=n)(r:100<=Y):
 af (fun b=>b=p∨b=q∨aJ lv b) n (aj aa gt Y (d+5) 265 #[jP q 0,jP p 0]) h n (wE h n p S D A lo q size now lv lens):=by
 have g:=y.get;have P:=y.lt;unfold dB at g;rw[aC (fun _=>VS) rfl];refine af.aB ?_;unfold JO;refine jB ?_;refine bz (Xk (Y:=Y) (d:=d+3) y) (ah _) (fun _ _ h=>h.elim) ?_;rw[decide_eq_false (show¬lens.length=size by omega)];refine jA @g ?_;refine bz (DM (Y:=Y) (d:=d+3) x) (ah _) (fun _ _ h=>h.elim) ?_;refine aN aE (ag2 (Y:=Y) (d:=d) x y f i j jO o r) (ah _) (fun b _ k=> .inr k) fun C T N I J m=> ?_;rcases m with ⟨rfl,c,⟨B,z⟩,u⟩|⟨E,c,a⟩
 ·have t:((3:Int)==3)=true:=rfl;refine jA @t ?_;refine aN aE (DO (Y:=Y) (d:=d+2) z A x.lo x.hi) jO (fun b _ k=> .inr (.inl k)) fun K R L G s l=> ?_;obtain⟨_,rfl,v⟩:=l;refine jB ?_;unfold wE;rw[c]
  exact⟨rfl,v,u.au (ah _) fun b k hM=>s b k (by
   rcases hM with rfl|hM
   ·exact fun e=>f e.symm
   ·exact fun e=>i (e▸hM))⟩
 ·obtain⟨e,rfl⟩:∃e:Int,C=jI e:=by
   unfold wE at a;split at a
   ·exact⟨_,a.1⟩
   ·exact⟨_,a.1⟩
   ·exact⟨_,a.1⟩
  have t:(e==3)=false:=beq_eq_false_iff_ne.2 fun q=>E (by rw[q]);refine jA @t ?_;exact a
end
def gK{c:Type}(E:En->Prop)(m:M c)(h:H)(n:Nat)(Q:c->H->Nat->Prop):Prop:=
 ∃a d b L,m h n=some ⟨a,d,b,L⟩∧n<=b∧(∀e∈L,e.wr=true->E e)∧Q a d b
section
variable {α β:Type} {E:En->Prop} {m:M α} {k:α->M β} {h h1:H} {n n1:Nat} {a:α} {L:List En} {Q:β->H->Nat->Prop}
theorem gK.step(e:m h n=some ⟨a,h1,n1,L⟩)(p:n<=n1)(f:∀e∈L,e.wr=true->E e)(x:gK E (k a) h1 n1 Q):gK E (m.bind k) h n Q:=by
 obtain⟨b,g,c,o,l,r,j,i⟩:=x;refine⟨b,g,c,L++o,bX e l,jO,fun x d=> ?_,i⟩;rcases Fb.1 d with q|q
 ·exact f x q
 ·exact j x q
theorem gK.aB{Q':α->H->Nat->Prop}(x:gK E m h n Q'):gK E (inside m) h n Q':=by obtain⟨a,h1,n1,L,g,f,d,c⟩:=x;exact⟨a,h1,n1,_,jy g,f,fun e b=>d e (List.mem_filter.1 b).1,c⟩
theorem gK.run{Q':α->H->Nat->Prop}{W:Nat->Prop}{n0:Nat}(x:gK E m h n Q')(d:∀e,E e->n0<=e.b∨W e.b):af W n0 m h n Q':=by obtain⟨a,h1,n1,L,j,i,g,f⟩:=x;exact⟨a,h1,n1,L,j,i,fun e c b=>d e (g e c b),f⟩
theorem ag4{a:Value->H->Nat->Prop}(v:Value)(x:a v h n):gK E (ag [v]) h n a:=
 ⟨v,h,n,[],rfl,ah _,fun e b=>(nomatch b),x⟩
end
section
variable {β:Type} {E:En->Prop} {h h1:H} {n n1:Nat} {Q:β->H->Nat->Prop} {P:Program}
theorem gK.ins{m:M Value}{v:Value}{L:List En}{k:Value->M β}(e:m h n=some ⟨v,h1,n1,L⟩)(d:n<=n1)(c:∀e∈L,e.wr=true->E e)(x:gK E (k v) h1 n1 Q):gK E (ek m k) h n Q:=by rw[lK];exact gK.step (jy e) d (fun x b a=>c x (List.mem_filter.1 b).1 a) x
theorem Xl{T:Prop}(_:T)(b off:Nat)(k:Value->M β){B:AB}(c:h.get b=some B)(d:b<n){v:Value}(a:B.cells[off]? =some v)(x:gK E (k v) h n Q):gK E (aQ (jP b off) k) h n Q:=by
 have e:vt b off h n=some ⟨v,h,n,[⟨false,b,some off⟩]⟩:=by rw[A9];unfold rd;simp only[d,c,a,if_true]
 exact gK.ins e (ah _) jS x
theorem Xn{T:Prop}(_:T)(b off:Nat)(v:Value)(k:Value->M β){e:TypeId}{cs:List Value}(j:h.get b=some ⟨e,true,cs⟩)(l:b<n)(i:off<cs.length)(h1:one v=true)(g:E ⟨true,b,some off⟩)(x:gK E (k undef) (h.set b (some ⟨e,true,cs.set off v⟩)) n Q):
 gK E (aK (jP b off) v k) h n Q:=by
 have c:wr b off v h n=some ⟨(),h.set b (some ⟨e,true,cs.set off v⟩),n,[⟨false,b,some off⟩,⟨true,b,some off⟩]⟩:=by unfold wr;simp[l,j,i,h1]
 have m:((tf b off v).bind fun _=>M.ret undef) h n=some ⟨undef,h.set b (some ⟨e,true,cs.set off v⟩),n,[⟨false,b,some off⟩,⟨true,b,some off⟩]⟩:=by rw[Ba];have:=bX (f:=fun _=>M.ret undef) c (L2:=[]) (b:=undef) (h2:=h.set b (some ⟨e,true,cs.set off v⟩)) (n2:=n) rfl;simpa using this
 show gK E (match one v with
  |true=>ek ((tf b off v).bind fun _=>M.ret undef) k
  |false=> .fail) h n Q
 rw[h1];refine gK.ins m (ah _) (fun y d a=> ?_) x;simp at d;rcases d with rfl|rfl
 ·cases a
 ·exact g
end
section
variable {β:Type} {W:Nat->Prop} {n0:Nat} {h:H} {n:Nat} {Q:β->H->Nat->Prop} {P:Program}
theorem ag5 (hd:kD P=true) {gt:Nat->Hint} {Y d:Nat} {f:FuncId} {vs:List Value} {E:En->Prop} {Q':Value->H->Nat->Prop} {q:Nat} (s:gK E (aj P gt Y d f ⟨vs⟩) h n Q') (m:∀e,E e->e.b=q) (D:n0<=n) (y:n0<=q∨W q) {k:Value×Tk->M β}
 (x:∀v h1 a T,n<=a->(∀b,b<n->b≠q->h1.get b=h.get b)->Q' v h1 a->T.n=n->(∀e∈T.log,e.b<n)->(∀e∈T.log,e.wr=true->E e)->af W n0 (k (v,T)) h1 a Q):af W n0 ((az (ai (aj P gt Y d) f vs M.ret)).bind k) h n Q:=by
 obtain⟨v,h1,a,L,l,r,p,B⟩:=s;obtain⟨o,C⟩:=BE hd d f ⟨vs⟩ h n v h1 a L l;have A:=Loc.cH P KN o f ⟨vs⟩ h n v h1 a L (C o (ah _))
 have j:∀e∈L.filter (fun e=> !(decide (n<=e.b)&&decide (e.b<a))),e.b<n:=fun e c=>by obtain⟨h1,z⟩:=List.mem_filter.1 c;have:=A.lt e h1;simp at z;omega
 have g:∀e∈L.filter (fun e=> !(decide (n<=e.b)&&decide (e.b<a))),e.wr=true->E e:=fun e c i=>p e (List.mem_filter.1 c).1 i;exact mj (o9 l) r (fun e c i=>by rw[m e (g e c i)];exact y) (x v h1 a _ r (fun b u t=>GZ hd l (W':=fun b=>b=q) (fun e c i=> .inr (m e (p e c i))) b u t) B rfl j g)
theorem ag6{a b:Tk}{p off:Nat}{E:En->Prop}(h1:a.n=n)(h2:a.n1=n)(m:a.log=[⟨false,p,some off⟩])(q:b.n=n)(l:∀e∈b.log,e.b<n)(k:∀e∈b.log,e.wr=true->E e)(o:p<n)(g:∀e,E e->∃j,e.k=some j∧j≠off):cz a b=false:=by
 rw[vw];unfold Tk.cA;simp only[xf,ZT,bW,decide_eq_true_eq,not_and,m,sI];refine⟨⟨⟨fun x c f=> ?_,fun x c f=> ?_⟩,fun x c d=> ?_⟩,fun x c d=> ?_⟩
 ·subst c;cases f
 ·simp only[amL,E1,E3,amE];unfold En.meets;obtain⟨j,i,h⟩:=g x (k x c f);simp[i,h]
 ·subst c;simp only at d⊢;omega
 ·have:=l x c;omega
theorem Xo{A:M Value}{B:M β}{k:Value×Tk->M β}(e:B=A.bind fun v=>k (v,⟨0,0,[]⟩))(d:∀v T,k (v,T)=k (v,⟨0,0,[]⟩))(x:af W n0 B h n Q):af W n0 ((az A).bind k) h n Q:=by subst e;obtain⟨b,f,c,L,o,m,l,j⟩:=x;obtain⟨a,q,p,s,r,i,g,rfl⟩:=Ev.bind_some o;exact⟨b,f,c,_,bX (xI i) (by rw[d];exact g),m,l,j⟩
theorem Kk{m:M Value}(f:Value->M β):ek m f=(ek m M.ret).bind f:=by
 rw[lK,lK];funext h n;unfold M.bind M.ret;cases inside m h n with
 |none=>rfl
 |some r=>simp
theorem Kl{a v:Value}{k:Value×Tk->M β}(b:∀v T,k (v,T)=k (v,⟨0,0,[]⟩))(x:af W n0 (aK a v fun v=>k (v,⟨0,0,[]⟩)) h n Q):af W n0 ((az (aK a v M.ret)).bind k) h n Q:=by
 refine Xo ?_ b x;unfold aK;split
 ·split
  ·exact Kk _
  ·rfl
 ·rfl
theorem DS{sz:Nat}{a v:Value}{k:Value×Tk->M β}(b:∀v T,k (v,T)=k (v,⟨0,0,[]⟩))(x:af W n0 (aM sz a v fun v=>k (v,⟨0,0,[]⟩)) h n Q):af W n0 ((az (aM sz a v M.ret)).bind k) h n Q:=by
 refine Xo ?_ b x;unfold aM;split
 ·split
  ·split
   ·exact Kk _
   ·rfl
  ·rfl
 ·rfl
theorem Km {T:Prop} (c:T) {e:TypeId} {x:Value} (p:one x=true) {lo:Nat} {v:Value} {cs:List Value} (o:Own h lo n e v cs) (s:cs.length+1<=1099511627776) (q:∀b,aJ v b->n0<=b∨W b) (K:Value×Tk->Value×Tk->M β)
 (y:∀w D C h',h'.get (n+1)=some ⟨e,true,cs++[x]⟩->(∀b,b<n->¬aJ v b->h'.get b=h.get b)->af W n0 (K (w,D) (.slice (some ⟨n+1,0,none⟩) (cs.length+1) (bh+(cs.length+1)),C)) h' (n+2) Q):
 af W n0 ((az (bO e 1 x M.ret)).bind fun a=>(az (bL e 1 v a.1 M.ret)).bind fun b=>K a b) h n Q:=by
 obtain⟨a,N,I,L,i,O,d,A⟩:=rX (Q:=fun j h' m=>j=kR (some ⟨n+1,0,none⟩) (cs.length+1) (bh+(cs.length+1))∧m=n+2∧h'.get (n+1)=some ⟨e,true,cs++[x]⟩∧∀b,b<n->¬aJ v b->h'.get b=h.get b) c p o s q M.ret fun h' g k=>(kE _).2 ⟨rfl,rfl,g,k⟩
 have B:bO e 1 x (fun w=>bL e 1 v w M.ret)=(bO e 1 x M.ret).bind fun w=>bL e 1 v w M.ret:=by
  unfold bO;split
  ·exact Kk _
  ·rfl
 rw[B]at i;obtain⟨w,J,f,G,E,u,z,rfl⟩:=Ev.bind_some i;obtain⟨rfl,rfl,g,k⟩:=A;obtain⟨b,t,l,P,f1,f2,f3,f4⟩:=y w ⟨n,f,G⟩ ⟨f,n+2,E⟩ _ g k;refine⟨b,t,l,_,bX (xI u) (bX (xI z) f1),jO,fun r hr=> ?_,f4⟩;simp only[Fb]at hr d;rcases hr with hr|hr|hr
 ·exact d r (.inl hr)
 ·exact d r (.inr hr)
 ·exact f3 r hr
end
def c6{a:Type}(d:a)(O:List a)(i:Nat):List a:=O.getD i d::(O.take i++O.drop (i+1))
def r6(O:List Value)(i j:Nat):List Value:=O.take (j+1)++((O.drop j).take (i-j)++O.drop (i+1))
theorem qx{g:Type}{O:List g}(h:O.length=6):∃a b c d e f,O=[a,b,c,d,e,f]:=by
 match O,h with
 |[a,b,c,d,e,f],_=>exact⟨a,b,c,d,e,f,rfl⟩
theorem ag7{O:List Value}(h:O.length=6){i:Nat}(g:i<6):r6 O i i=O:=by obtain⟨a,b,c,d,e,f,rfl⟩:=qx h;rcases i with _|_|_|_|_|_|i<;>first|rfl|omega
theorem ag8{O:List Value}(h:O.length=6){i j:Nat}(k:i<6)(g:j<i):(r6 O i (j+1)).set (j+1) (O.getD j undef)=r6 O i j:=by obtain⟨a,b,c,d,e,f,rfl⟩:=qx h;rcases i with _|_|_|_|_|_|i<;>rcases j with _|_|_|_|_|j<;>first|rfl|omega
theorem ag9{O:List Value}(h:O.length=6){i j:Nat}(k:i<6)(g:j<i):(r6 O i (j+1)).getD j undef=O.getD j undef:=by obtain⟨a,b,c,d,e,f,rfl⟩:=qx h;rcases i with _|_|_|_|_|_|i<;>rcases j with _|_|_|_|_|j<;>first|rfl|omega
theorem ag'{O:List Value}(h:O.length=6){i:Nat}(g:i<6):(r6 O i 0).set 0 (O.getD i undef)=c6 undef O i:=by obtain⟨a,b,c,d,e,f,rfl⟩:=qx h;rcases i with _|_|_|_|_|_|i<;>first|rfl|omega
theorem Xp{O:List Value}(h:O.length=6){i j:Nat}(k:i<6)(g:j<=i):(r6 O i j).length=6:=by obtain⟨a,b,c,d,e,f,rfl⟩:=qx h;rcases i with _|_|_|_|_|_|i<;>rcases j with _|_|_|_|_|_|j<;>first|rfl|omega
theorem Xq{O:List Value}{j:Nat}(h:j<O.length):O.getD j undef∈O:=by rw[bw,bA h];exact dH h
theorem Xr{A O Z:List Value}{j:Nat}(h:j<O.length):(A++(O++Z))[A.length+j]? =some (O.getD j undef):=by rw[qM jO,show A.length+j-A.length=j by omega,sH h,bw,bA h];rfl
theorem Xs{A O Z:List Value}{j:Nat}(h:j<O.length)(v:Value):(A++(O++Z)).set (A.length+j) v=A++(O.set j v++Z):=by rw[LK _ _ jO,show A.length+j-A.length=j by omega,anf _ _ h]
section
variable {Y d n q:Nat} {h:H} {e:TypeId} {A O Z:List Value} {i:Nat}
def Kn(q off:Nat):En->Prop:=fun x=>x.b=q∧∃j,x.k=some j∧off<=j∧j<off+6
theorem ag_(m:O.length=6)(h1:∀v∈O,one v=true)(g:h.get q=some ⟨e,true,A++(O++Z)⟩)(r:q<n)(l:i<6)(E:100<=Y):
 gK (Kn q A.length) (aj aa gt Y (d+1) 278 #[jP q A.length,jI (i:Int)]) h n fun v h' n'=>v=O.getD i undef∧n'=n∧h'.get q=some ⟨e,true,A++(c6 undef O i++Z)⟩∧∀b,b≠q->h'.get b=h.get b:=by
 rw[aC (fun _=>Wf) rfl];refine gK.aB ?_;unfold Du
 have p:∀(j:Nat),j<6->∀(k:Value->M Value),gG 6 (jP q A.length) (jI (j:Int)) k=k (jP q (A.length+j)):=fun j y k=>by rw[GR _ 6 q A.length .i64 (j:Int) jO jO,cR]
 have C:i<O.length:=jO
 have u:∀(j a:Nat) (h':H),j<=i->j<a->h'.get q=some ⟨e,true,A++(r6 O i j++Z)⟩->(∀b,b≠q->h'.get b=h.get b)->
  gK (Kn q A.length) (uk Y (aj aa gt Y d) a (Dt Y (aj aa gt Y d)) (jP q A.length) (jI (i:Int)) (jI 0) (O.getD i undef) (jI (j:Int))) h' n fun v h' n'=>v=O.getD i undef∧n'=n∧h'.get q=some ⟨e,true,A++(c6 undef O i++Z)⟩∧∀b,b≠q->h'.get b=h.get b:=by
  intro j
  induction j with
  |zero=>
   intro a h' y G s x;obtain⟨a,rfl⟩:∃f,a=f+1:=⟨a-1,jO⟩;rw[uk];have t:decide ((0:Int)<((0:Nat):Int))=false:=decide_eq_false jO;refine jA @t ?_
   (try unfold Dt);(try dsimp only)
   have B:=p 0 jO;simp only[jd]at B;refine jA @B ?_;have c:=Xp (j:=0) m l (aP _);refine Xn trivial q A.length _ _ s r (by simp[c];omega) (h1 _ (Xq C)) ⟨rfl,_,rfl,jS,jS⟩ ?_;refine ag4 _ ⟨rfl,rfl, ?_,fun b o=> ?_⟩
   ·rw[get_eq];have:=Xs (A:=A) (Z:=Z) (O:=r6 O i 0) (j:=0) jO (O.getD i undef);rw[jd]at this;rw[this,ag' m l]
   ·rw[aw _ _ o];exact x b o
  |succ j D=>
   intro a h' y G s x;obtain⟨a,rfl⟩:∃f,a=f+1:=⟨a-1,jO⟩;rw[uk];have t:decide ((0:Int)<((j+1:Nat):Int))=true:=decide_eq_true jO;have z:IntKind.i64.wrap (((j+1:Nat):Int)-1)=(j:Int):=by rw[aH jO jO];omega
   try simp(disch:=first|omega|assumption) only[Nat.reduceAdd,Nat.reduceLT,RZ,t,z,p j jO]
   have c:=Xp (j:=j+1) m l y;refine Xl trivial q (A.length+j) _ s r (Xr jO) ?_;rw[ag9 m l jO];try simp(disch:=first|omega|assumption) only[Nat.reduceAdd,Nat.reduceLT,RZ,p (j+1) jO]
   refine Xn trivial q (A.length+(j+1)) _ _ s r (by simp[c];omega) (h1 _ (Xq jO)) ⟨rfl,_,rfl,jS,by simp;omega⟩ ?_;refine jA (aI @t @z) ?_;refine D a _ jO jO ?_ fun b o=> ?_
   ·rw[get_eq,Xs jO,ag8 m l jO]
   ·rw[aw _ _ o];exact x b o
 try simp(disch:=first|omega|assumption) only[Nat.reduceAdd,Nat.reduceLT,RZ,p i l]
 refine Xl trivial q (A.length+i) _ g r (Xr C) ?_;exact u i Y h (ah _) jO (by rw[ag7 m l];exact g) fun _ _=>rfl
end
def fj:Nat->Nat->List Bool->St Nat
 |0,_,_=> .bad 25
 |_+1,_,[]=> .short
 |_+1,o,false::_=> .ok o (o+1)
 |r+1,o,true::a=>fj r (o+1) a
structure Pk where
 t:Nat
 count:Nat
 ord:List Nat
 bu:List Nat
def cX(s:Pk)(bs:List Bool):St Pk:=
 if s.count=0 then(if bs.length<18 then .short else if(2<=num (bs.take 18) 0/32768∧num (bs.take 18) 0/32768<=6)∧num (bs.take 18) 0 %32768≠0 then .ok ⟨num (bs.take 18) 0/32768,num (bs.take 18) 0 %32768,s.ord,s.bu⟩ 18 else .bad 25)
 else match fj s.t 0 bs with
  | .short=> .short
  | .bad e=> .bad e
  | .ok o u=> .ok ⟨s.t,s.count,c6 0 s.ord o,s.bu++[s.ord.getD o 0]⟩ u
def zC(s:Pk)(pv:Value)(a:Bool):AB:=⟨282,true,[jI (s.t:Int),jI (s.count:Int)]++(aW .i64 (iN s.ord)++[pv,.bool a])⟩
structure gz (h:H) (lo n q:Nat) (s:Pk) (pv:Value) (dF:Bool):Prop where
 get:h.get q=some (zC s pv dF)
 ge:lo<=q
 lt:q<n
 own:Own h lo n 3 pv (aW .i64 (iN s.bu))
 fU:s.ord.length=6
 zD:s.t<=6
 pA:s.count<32768
theorem gz.ne{h:H}{lo n q:Nat}{s:Pk}{pv:Value}{a:Bool}(x:gz h lo n q s pv a){b:Nat}(d:aJ pv b):b≠q:=fun e=>by obtain⟨B,c,f⟩:=x.own.elem d;rw[e,x.get]at c;cases c;exact absurd (show(282:Nat)=3 from f) jD
theorem gz.au{h h':H}{lo n n' q:Nat}{s:Pk}{pv:Value}{a:Bool}(x:gz h lo n q s pv a)(c:n<=n')(d:∀b,b<n->(b=q∨aJ pv b)->h'.get b=h.get b):gz h' lo n' q s pv a:=
 ⟨(d q x.lt (.inl rfl)).trans x.get,x.ge,fP x.lt c,x.own.au c fun b e=>d b (x.own.lt e).2 (.inr e),x.fU,x.zD,x.pA⟩
theorem gz.cells{h:H}{lo n q:Nat}{s:Pk}{pv:Value}{g:Bool}(x:gz h lo n q s pv g):∃a b c d e f:Nat,s.ord=[a,b,c,d,e,f]∧h.get q=some ⟨282,true,[jI (s.t:Int),jI (s.count:Int),jI (a:Int),jI (b:Int),jI (c:Int),jI (d:Int),jI (e:Int),jI (f:Int),pv,.bool g]⟩:=by obtain⟨a,b,c,d,e,f,i⟩:=qx x.fU;refine⟨a,b,c,d,e,f,i, ?_⟩;rw[x.get];unfold zC;rw[i];rfl
theorem aha(a b c d e f:Value){g:Type}(k:Value->M g):bo G9 [(2,6,.agg #[a,b,c,d,e,f])] k=k (.agg #[jI 0,jI 0,a,b,c,d,e,f,.slice none 0 0,.bool false]):=jK
section
variable {Y d n p q lo:Nat} {h:H} {S:List UInt8} {D A:Nat} {pv:Value} {s:Pk} {dF:Bool}
theorem ahb(z:Int):af (fun _=>False) n (aj aa gt Y (d+1) 280 #[jI z]) h n fun a h' n'=>a= .bool (decide (2<=z)&&decide (z<=6))∧h'=h∧n'=n:=by
 rw[aC (fun _=>Wi) rfl];refine af.aB ?_;unfold JZ;by_cases c:2<=z
 ·exact jC @c
 ·exact jC @c
theorem DT(x:gz h lo n q s pv dF):af (fun _=>False) n (aj aa gt Y (d+1) 252 #[jP q 0]) h n fun k h' n'=>k= .bool (decide (0<s.count)&&decide (s.bu.length=s.count))∧h'=h∧n'=n:=by
 obtain⟨a,b,c,p,e,f,o,g⟩:=x.cells;have m:=x.lt;have l:=x.own.row;obtain⟨t,r,rfl⟩:=l.len;rw[aC (fun _=>Vy) rfl];refine af.aB ?_;unfold JE
 have e:((((iN s.bu).length:Nat):Int)==(s.count:Int))=decide (s.bu.length=s.count):=by
  rw[fa];by_cases e:s.bu.length=s.count
  ·rw[decide_eq_true e,e];simp
  ·rw[decide_eq_false e];exact beq_eq_false_iff_ne.2 fun q=>e jO
 by_cases j:0<s.count
 ·have i:decide ((0:Int)<(s.count:Int))=true:=decide_eq_true jO;rw[decide_eq_true j];try simp(disch:=first|omega|assumption) only[Nat.reduceAdd,Nat.reduceLT,RZ,eP,eQ,eR,eS,eT,eU,eV,eW,eX,eY,g,e,i,Bool.true_and]
 ·have i:decide ((0:Int)<(s.count:Int))=false:=decide_eq_false jO;rw[decide_eq_false j];try simp(disch:=first|omega|assumption) only[Nat.reduceAdd,Nat.reduceLT,RZ,eP,eQ,eR,eS,eT,eU,eV,eW,eX,eY,g,e,i,Bool.false_and]
theorem ahc(x:gz h lo n q s pv dF):af (fun _=>False) n (aj aa gt Y (d+1) 254 #[jP q 0]) h n fun i h' n'=>i=jI (s.t:Int)∧h'=h∧n'=n:=by obtain⟨a,b,c,l,e,f,k,g⟩:=x.cells;have j:=x.lt;rw[aC (fun _=>VA) rfl];refine af.aB ?_;unfold JG;try simp(disch:=first|omega|assumption) only[Nat.reduceAdd,Nat.reduceLT,RZ,eP,eQ,eR,eS,eT,eU,eV,eW,eX,eY,g]
theorem ahd(x:gz h lo n q s pv dF)(l:0<s.bu.length)(r:s.bu.length<=100000):af (fun _=>False) n (aj aa gt Y (d+2) 180 #[jP q 0]) h n fun i h' n'=>Row h' n' 3 .i64 i (iN s.bu)∧∀b,aJ i b->n<=b:=by
 obtain⟨a,b,c,v,e,f,t,g⟩:=x.cells;have j:=x.lt;rw[aC (fun _=>IK) rfl];refine af.aB ?_;unfold CM;try simp(disch:=first|omega|assumption) only[Nat.reduceAdd,Nat.reduceLT,RZ,eP,eQ,eR,eS,eT,eU,eV,eW,eX,eY,g]
 refine aN aE (DB Y d n h pv (iN s.bu) x.own.row (by rw[fa];exact l) (by rw[fa];omega)) (ah _) (fun _ _ h=>h.elim) fun o u p k m j=> ?_;refine jB ?_;exact j.2
theorem Ko(x:gz h lo n q s pv dF):af (fun b=>b=q) n (aj aa gt Y (d+1) 279 #[jP q 0]) h n fun j h' n'=>j=jI 25∧n'=n∧(∀b,b≠q->h'.get b=h.get b)∧gz h' lo n q s pv true:=by
 obtain⟨a,b,c,m,e,f,l,g⟩:=x.cells;have k:=x.lt;rw[aC (fun _=>Wg) rfl];refine af.aB ?_;unfold JY;try simp(disch:=first|omega|assumption) only[Nat.reduceAdd,Nat.reduceLT,RZ,eP,eQ,eR,eS,eT,eU,eV,eW,eX,eY,g,true_or,or_true]
 refine⟨fun b i=>aw _ _ i,⟨by rw[get_eq];unfold zC;rw[l];rfl,x.ge,k,x.own.au (ah _) fun b i=>aw _ _ (x.ne i),x.fU,x.zD,x.pA⟩⟩
end
section
variable {Y d n p q lo:Nat} {h:H} {S:List UInt8} {D A:Nat} {pv:Value} {s:Pk} {dF:Bool}
def pB:List Nat:=[0,1,2,3,4,5]
theorem ahe(g:100<=Y):af (fun _=>False) n (aj aa gt Y (d+1) 272 #[]) h n fun b h' n'=>b= .agg #[jI 0,jI 1,jI 2,jI 3,jI 4,jI 5]∧n'=n+2:=by
 rw[aC (fun _=>V4) rfl];refine af.aB ?_;unfold Dp;refine dL BS _ ?_;refine dL BS _ ?_;obtain⟨j,c⟩:∃f,Y=f+7:=⟨Y-7,jO⟩
 have a:af (fun _=>False) n (wj Y (aj aa gt Y d) (j+7) (Dm Y (aj aa gt Y d)) (jP n 0) (jP (n+1) 0) (jI 0)) ((h.set n (some ⟨280,true,[jI 0,jI 0,jI 0,jI 0,jI 0,jI 0]⟩)).set (n+1) (some ⟨280,true,[jI 0,jI 0,jI 0,jI 0,jI 0,jI 0]⟩)) (n+2) fun b h' n'=>b= .agg #[jI 0,jI 1,jI 2,jI 3,jI 4,jI 5]∧n'=n+2:=by
  iterate 7
   rw[wj];try simp(disch:=first|omega|assumption) only[Nat.reduceAdd,Nat.reduceLT,RZ,eP,eQ,eR,eS,eT,eU,eV,eW,eX,eY,Int.reduceToNat,Nat.le_add_right,Nat.reduceLT]
  (try unfold Dm);(try dsimp only)
  refine WI trivial trivial (sz:=6) (n+1) 0 _ (get_eq _ _ _) jO jS ?_;refine nH (sz:=6) trivial (e:=280) (cs:=[jI 0,jI 0,jI 0,jI 0,jI 0,jI 0]) (vs:=[jI 0,jI 1,jI 2,jI 3,jI 4,jI 5]) rfl rfl rfl ?_ jO (ah _) (.inl (ah _)) _ fun l i k=> ?_
  ·try simp(disch:=first|omega|assumption) only[Nat.reduceAdd,Nat.reduceLT,RZ,eP,eQ,eR,eS,eT,eU,eV,eW,eX,eY]
  refine fK trivial trivial (sz:=6) _ _ _ i jO jS ?_;try simp(disch:=first|omega|assumption) only[Nat.reduceAdd,Nat.reduceLT,RZ,eP,eQ,eR,eS,eT,eU,eV,eW,eX,eY]
  all_goals (first|trivial|rfl|exact⟨rfl,rfl,rfl⟩|exact⟨rfl,rfl⟩)
 rw[<-c]at a;exact a
theorem ahf(b:100<=Y):af (fun _=>False) n (aj aa gt Y (d+2) 260 #[]) h n fun v h' n'=>v=jP (n+2) 0∧n'=n+3∧gz h' (n+2) n' (n+2) ⟨0,0,pB,[]⟩ (.slice none 0 0) false:=by rw[aC (fun _=>VK) rfl];refine af.aB ?_;unfold JK;refine aN aE (ahe (d:=d) b) (ah _) (fun _ _ h=>h.elim) fun f i g c e a=> ?_;obtain⟨rfl,rfl⟩:=a;rw[aha];refine gu trivial _ _ ?_;refine jB ?_;exact⟨get_eq _ _ _,ah _,jO,Own.nil _ _ _ _,rfl,aP _,(by decide:0<32768)⟩
theorem ahg{b:Type}{rec:FuncId->Array Value->M Value}(r a:Value)(k:Value->M b):ku aa rec (.func (.func 275) #[r] #[]) [a] k=ai rec 275 [r,a] k:=by unfold ku;show bf (some _) _=_;rw[tq];simp only[show ni aa 275=true by kernel_rfl];exact(lK _ _).symm
theorem ahh{b:Type}{rec:FuncId->Array Value->M Value}(r a:Value)(k:Value->M b):ku aa rec (.func (.func 274) #[r] #[]) [a] k=ai rec 274 [r,a] k:=by unfold ku;show bf (some _) _=_;rw[tq];simp only[show ni aa 274=true by kernel_rfl];exact(lK _ _).symm
def r7(h:H)(n p:Nat)(S:List UInt8)(D A lo q:Nat)(s:Pk)(pv:Value)(c:Value)(h':H)(n':Nat):Prop:=
 match cX s (ar S D A)with
 | .short=>c= .int .i64 3∧aY h' n' p S D A∧gz h' lo n' q s pv false
 | .bad e=>c= .int .i64 e∧(∃B,aY h' n' p S D B)∧gz h' lo n' q s pv true
 | .ok d u=>c= .int .i64 0∧aY h' n' p S D (A+u)∧∃a,gz h' lo n' q d a false∧∀b,aJ a b->aJ pv b∨n<=b
def zE(h:H)(n p:Nat)(S:List UInt8)(D A lo q:Nat)(s:Pk)(pv:Value)(a:Value)(h':H)(n':Nat):Prop:=
 (a=jI 3∧cX s (ar S D A)= .short∧(∃B,aY h' n' p S D B)∧gz h' lo n' q s pv false)∨(a≠jI 3∧cX s (ar S D A)≠ .short∧r7 h n p S D A lo q s pv a h' n')
theorem ahi(v:Nat):((v:Int)).fdiv (2^(min ((15:Int)).toNat (ju).bits))=((v/32768:Nat):Int):=by have:(min ((15:Int)).toNat (ju).bits)=15:=jD;rw[this,LJ _ jD];omega
theorem ahj(v:Nat)(c:v<262144):IntKind.u32.wrap ((bY IntKind.u32.bits (v:Int)&&&bY IntKind.u32.bits (32767:Int)).toNat:Int)=((v %32768:Nat):Int):=by
 have b:(bY 32 (v:Int)).toNat=v:=by rw[uV,uW];exact kP jO
 show IntKind.u32.wrap ((bY 32 (v:Int)&&&bY 32 (32767:Int)).toNat:Int)=_;rw[E6,b];have a:(bY 32 (32767:Int)).toNat=2^15-1:=jD;rw[a,Nat.and_two_pow_sub_one_eq_mod];exact fL jO
theorem ahk(x:aY h n p S D A)(y:gz h lo n q s pv false)(i:p≠q)(I:¬aJ pv p)(R:s.count=0)(u1:100<=Y):
 af (fun b=>b=p∨b=q) n (aj aa gt Y (d+4) 275 #[jP q 0,jP p 0]) h n (zE h n p S D A lo q s pv):=by
 obtain⟨t,r⟩:∃t,ar S D A=t:=⟨_,rfl⟩;have hq:=y.lt;unfold zE r7;rw[r,aC (fun _=>Wa) rfl];refine af.aB ?_;unfold JV;have T:((3:Int) !=0)=true:=rfl;have U:((0:Int) !=0)=false:=rfl
 have dk:∀{h1:H},(∀b,b<n->¬b=p->h1.get b=h.get b)->gz h1 lo n q s pv false:=fun fr=>y.au (ah _) fun b j hM=>fr b j (by
  rcases hM with rfl|hM
  ·exact fun e=>i e.symm
  ·exact fun e=>I (e▸hM))
 refine aN aE (lq (Y:=Y) (d:=d) x 18 jO jO) (ah _) (fun b _ j=> .inr (.inl j)) fun v1 h1 n1 u0 O k=> ?_;obtain⟨rfl,k⟩:=k;rw[r]at k;rcases k with ⟨sh,rfl,rfl⟩|⟨lg,rfl,B⟩
 ·refine jA (aI @bI (aI @ext1 @T)) ?_;exact .inl ⟨by unfold cX;rw[if_pos R,if_pos sh],⟨_,x⟩,y⟩
 ·have C:=hH (t.take 18);rw[cO,gZ lg]at C;obtain⟨v,G⟩:∃v,num (t.take 18) 0=v:=⟨_,rfl⟩;rw[G]at C;have w1:=ahi v;have Z:=ahj v C;have X:IntKind.i64.wrap ((v/32768:Nat):Int)=((v/32768:Nat):Int):=aH jO jO;have W:IntKind.i64.wrap ((v %32768:Nat):Int)=((v %32768:Nat):Int):=aH jO jO;have o:=dk (h1:=h1) fun c L K=>O c L K;rw[G];refine jA (aI @bI (aI @ext1 (aI @U (aI @w1 (aI @Z (aI @X @W)))))) ?_;refine bz (ahb _) (ah _) (fun _ _ h=>h.elim) ?_
  have l:cX s t=if(2<=v/32768∧v/32768<=6)∧v %32768≠0 then .ok ⟨v/32768,v %32768,s.ord,s.bu⟩ 18 else .bad 25:=by unfold cX;rw[if_pos R,if_neg jO,G]
  by_cases u:2<=v/32768∧v/32768<=6
  ·rw[decide_eq_true (show(2:Int)<=((v/32768:Nat):Int) by omega),decide_eq_true (show((v/32768:Nat):Int)<=6 by omega)];by_cases Q:v %32768=0
   ·have P:((((v %32768:Nat):Int))==0)=true:=by rw[Q];rfl
    refine jA (aI @eA (aI @eK @P)) ?_;refine aN aE (Ko (Y:=Y) (d:=d+2) o) (ah _) (fun b _ j=> .inr (.inr j)) fun v2 h2 n2 J N m=> ?_;obtain⟨rfl,rfl,E,z⟩:=m;refine jB ?_;rw[l,if_neg (by rintro⟨_,q⟩;exact q Q)];exact .inr ⟨jS,jS,rfl,⟨_,B.au (ah _) (E p i)⟩,z⟩
   ·have P:((((v %32768:Nat):Int))==0)=false:=beq_eq_false_iff_ne.2 jO;obtain⟨a,b,c,dd,e,f,he,g⟩:=o.cells;refine jA (aI @eA (aI @eK (aI @P @g))) ?_;rw[l,if_pos ⟨u,Q⟩];refine .inr ⟨jS,jS,B.au (ah _) ?_,pv,⟨?_,y.ge,hq,o.own.au (ah _) fun b j=> ?_,y.fU,u.2,by show v %32768<32768;omega⟩,fun c L=> .inl L⟩
    ·rw[aw _ _ i,aw _ _ i]
    ·rw[get_eq];unfold zC;simp only[he];rfl
    ·rw[aw _ _ (o.ne j),aw _ _ (o.ne j)]
  ·have:(decide ((2:Int)<=((v/32768:Nat):Int))&&decide (((v/32768:Nat):Int)<=6))=false:=by
    cases e:(decide ((2:Int)<=((v/32768:Nat):Int))&&decide (((v/32768:Nat):Int)<=6))with
    |false=>rfl
    |true=>rw[bW,decide_eq_true_eq,decide_eq_true_eq]at e;exact absurd jO u
   rw[this];refine jA @cx ?_;refine aN aE (Ko (Y:=Y) (d:=d+2) o) (ah _) (fun b _ j=> .inr (.inr j)) fun v2 h2 n2 J N m=> ?_;obtain⟨rfl,rfl,E,z⟩:=m;refine jB ?_;rw[l,if_neg (by rintro⟨q,_⟩;exact u q)];exact .inr ⟨jS,jS,rfl,⟨_,B.au (ah _) (E p i)⟩,z⟩
theorem wF{a:Type}{dv:a}{O:List a}(c:O.length=6){i:Nat}(b:i<6):(c6 dv O i).length=6:=by unfold c6;simp;omega
theorem ahl(O:List Nat)(g:O.length=6){i:Nat}(h:i<6):c6 undef (aW .i64 (iN O)) i=aW .i64 (iN (c6 0 O i)):=by obtain⟨a,b,c,d,e,f,rfl⟩:=qx g;rcases i with _|_|_|_|_|_|i<;>first|rfl|omega
theorem ahm(O:List Nat)(g:O.length=6){i:Nat}(h:i<6):(aW .i64 (iN O)).getD i undef=jI (O.getD i 0:Int):=by obtain⟨a,b,c,d,e,f,rfl⟩:=qx g;rcases i with _|_|_|_|_|_|i<;>first|rfl|omega
theorem ahn(x:aY h n p S D A)(y:gz h lo n q s pv false)(z:p≠q)(T:¬aJ pv p)(h0:s.count≠0)(hl:s.bu.length<=100000)(v5:lo<=n)(u7:100<=Y):
 af (fun b=>b=p∨b=q∨aJ pv b) n (aj aa gt Y (d+4) 274 #[jP q 0,jP p 0]) h n (zE h n p S D A lo q s pv):=by
 obtain⟨l,W⟩:∃l,ar S D A=l:=⟨_,rfl⟩;have hq:=y.lt;obtain⟨a,b,c,dd,e,f,he,g⟩:=y.cells
 have E:cX s l=match fj s.t 0 l with
  | .short=> .short
  | .bad e=> .bad e
  | .ok o u=> .ok ⟨s.t,s.count,c6 0 s.ord o,s.bu++[s.ord.getD o 0]⟩ u:=by unfold cX;rw[if_neg h0];try(cases fj s.t 0 l<;>rfl)
 unfold zE r7;rw[W,aC (fun _=>V') rfl];refine af.aB ?_;unfold Dr;have z1:((3:Int) !=0)=true:=rfl;have z0:((0:Int) !=0)=false:=rfl;refine jA @g ?_
 have dk:∀{N:H} {Q:Nat},Q=n->(∀b,b<n->b≠p->N.get b=h.get b)->gz N lo Q q s pv false:=by
  rintro N _ rfl P
  exact y.au (ah _) fun b J hM=>P b J (by
   rcases hM with rfl|hM
   ·exact fun e=>z e.symm
   ·exact fun e=>T (e▸hM))
 refine dE s.t (fun fu i (_:Unit)=>uj Y (aj aa gt Y (d+3)) fu (wo Y (aj aa gt Y (d+3))) (jP q 0) (jP p 0) (jI 0) (jI (s.t:Nat)) (jI (i:Nat))) (fun i _ h' n'=>(n'=n∧(∀b,b<n->b≠p->h'.get b=h.get b))∧aY h' n' p S D (A+i)∧fj s.t 0 l=fj (s.t-i) i (l.drop i)) ?_ ?_ Y 0 () h n (aP _) (by have:=y.zD;omega) ⟨⟨rfl,fun _ _ _=>rfl⟩,x,rfl⟩
 ·rintro fu _ h' n' ⟨⟨rfl,P⟩,x1,k⟩;rw[uj];refine jA @eO ?_
  (try unfold wo);(try dsimp only)
  have y1:=dk rfl P;refine aN aE (Ko (Y:=Y) (d:=d+2) y1) (ah _) (fun b _ J=> .inr (.inr (.inl J))) fun v2 h2 n2 v0 K u6=> ?_;obtain⟨rfl,rfl,k2,C⟩:=u6;refine jB ?_;rw[sM]at k;rw[E,k];exact .inr ⟨jS,by simp[fj],rfl,⟨_,x1.au (ah _) (k2 p z)⟩,C⟩
 ·rintro fu i _ h' n' hi ⟨⟨rfl,P⟩,x1,k⟩ next;rw[uj];have y1:=dk rfl P;have c1:((i:Nat):Int)<((s.t:Nat):Int):=jO;have v8:=y.zD;have G:ar S D (A+i)=l.drop i:=by rw[<-nO x.lo,W]
  obtain⟨r,hr⟩:∃r,s.t-i=r+1:=⟨s.t-i-1,jO⟩;rw[hr]at k;refine jA @c1 ?_;refine aN aE (lq (Y:=Y) (d:=d) x1 1 jO jO) (ah _) (fun b _ J=> .inr (.inl J)) fun v1 N Q v4 u8 t=> ?_;obtain⟨rfl,t⟩:=t;rw[G]at t;rcases t with ⟨sh,rfl,rfl⟩|⟨lg,rfl,x2⟩
  ·refine jA (aI @bI (aI @ext1 @z1)) ?_
   (try unfold wo);(try dsimp only)
   refine jB ?_;have:l.drop i=[]:=LS jO;rw[this]at k;exact .inl ⟨by rw[E,k];rfl,⟨_,x1⟩,y1⟩
  ·obtain⟨b,B,I⟩:∃b B,l.drop i=b::B:=by
    cases e:l.drop i with
    |nil=>rw[e]at lg;simp at lg
    |cons b B=>exact⟨b,B,rfl⟩
   rw[I]at k;have nb:num ((l.drop i).take 1) 0=bn b:=by rw[I];show 2*0+bn b=_;omega
   rw[nb];have K:∀c,c<Q->c≠p->N.get c=h.get c:=fun c L hp=>(u8 c L hp).trans (P c L hp);cases b with
   |true=>have ez:(((bn true:Nat):Int)==0)=false:=rfl;refine jA (aI @bI (aI @ext1 (aI @z0 @ez))) ?_;refine next () _ _ ⟨⟨rfl,K⟩,x2, ?_⟩;rw[k,show s.t-(i+1)=r by omega];rw[<-jf,I];rfl
   |false=>
    have ez:(((bn false:Nat):Int)==0)=true:=rfl;have C:=dk rfl K;obtain⟨a2,b2,c2,d2,e2,f2,v6,g2⟩:=C.cells;have m:i<6:=jO;refine jA (aI @bI (aI @ext1 (aI @z0 @ez))) ?_;refine DE trivial q 8 _ g2 hq rfl fun T1 t1 t2 t3=> ?_;refine jB ?_
    have u0:gK (Kn q 2) (aj aa gt Y (d+3) 278 #[jP q 2,jI (i:Int)]) N Q _:=ag_ (Y:=Y) (d:=d+2) (e:=282) (A:=[jI (s.t:Int),jI (s.count:Int)]) (O:=aW .i64 (iN s.ord)) (Z:=[pv,.bool false]) (by rw[eh,fa];exact y.fU) (fun v hv=>by
     obtain⟨x,_,rfl⟩:=List.mem_map.1 hv
     exact kF _ _) C.get hq m u7
    refine ag5 aE u0 (fun e he=>he.1) (ah _) (.inr (.inr (.inl rfl))) fun v3 h3 n3 T2 u9 v7 u5 u1 u2 u3=> ?_;obtain⟨rfl,rfl,X,k3⟩:=u5
    have cl:=ag6 t1 t2 t3 u1 u2 u3 hq (fun e he=>by
     obtain⟨_,j,h7,h8,h9⟩:=he
     exact⟨j,h7,jO⟩)
    rw[ahm s.ord y.fU m];have o3:Own h3 lo _ 3 pv (aW .i64 (iN s.bu)):=C.own.au (ah _) fun b J=>k3 b (C.ne J);rw[ahl s.ord y.fU m]at X;obtain⟨a4,b4,c4,d4,e4,f4,U⟩:=qx (wF (dv:=0) y.fU m);rw[U]at X;have X:h3.get q=some ⟨282,true,[jI (s.t:Int),jI (s.count:Int),jI (a4:Int),jI (b4:Int),jI (c4:Int),jI (d4:Int),jI (e4:Int),jI (f4:Int),pv,.bool false]⟩:=X;refine Km trivial (kF _ _) o3 (by rw[eh,fa];omega) (fun c L=> .inr (.inr (.inr L))) _ fun w T3 T4 h4 g4 k4=> ?_;have g5:h4.get q=_:=(k4 q hq fun r=>C.ne r rfl).trans X;have u4:q<n3+2:=jO;refine jB ?_;refine Kl (fun _ _=>rfl) ?_;refine jA (aI @g5 (aI @cl (aI @cx (aI @eA @dQ)))) ?_
    (try unfold wo);(try dsimp only)
    refine jB ?_;have R:cX s l= .ok ⟨s.t,s.count,c6 0 s.ord i,s.bu++[s.ord.getD i 0]⟩ (i+1):=by rw[E,k];rfl
    have on:aW .i64 (iN (s.bu++[s.ord.getD i 0]))=aW .i64 (iN s.bu)++[jI ((s.ord.getD i 0:Nat):Int)]:=by rw[pr,mO];rfl
    refine .inr ⟨jS, ?_⟩;rw[R];refine⟨jS,x2.au jO ?_,.slice (some ⟨n3+1,0,none⟩) ((aW .i64 (iN s.bu)).length+1) (bh+((aW .i64 (iN s.bu)).length+1)),⟨?_,y.ge,u4, ?_,wF (dv:=0) y.fU m,y.zD,y.pA⟩,fun c L=> .inr (by rw[L.inj];omega)⟩
    ·rw[aw _ _ z,k4 p x2.lt T,k3 p z]
    ·rw[get_eq];unfold zC;simp only[U];rfl
    ·rw[on];exact .inr ⟨n3+1,jS,by rw[aw _ _ jO];exact g4,jO,jO⟩
theorem aho(x:aY h n p S D A)(y:gz h lo n q s pv false)(t:p≠q)(u:¬aJ pv p)(hd:s.count=0∨s.bu.length<s.count)(N:lo<=n)(G:100<=Y):
 af (fun b=>b=p∨b=q∨aJ pv b) n (aj aa gt Y (d+5) 264 #[jP q 0,jP p 0]) h n (r7 h n p S D A lo q s pv):=by
 have hq:=y.lt;obtain⟨a,b,c,dd,e,f,he,g⟩:=y.cells;have U:=y.pA;rw[aC (fun _=>VQ) rfl];refine af.aB ?_;unfold JN
 have v:(decide (0<s.count)&&decide (s.bu.length=s.count))=false:=by
  cases e:(decide (0<s.count)&&decide (s.bu.length=s.count))with
  |false=>rfl
  |true=>rw[bW,decide_eq_true_eq,decide_eq_true_eq]at e;omega
 have o:∀(k:Value) (z:H) (r:Nat),n<=r->zE h n p S D A lo q s pv k z r->
  af (fun b=>b=p∨b=q∨aJ pv b) n (cD k (ii 3) fun l=>
       aA l (
        ai (aj aa gt Y (d+4)) 246 [jP p 0,jI (A:Int)] fun I=>
        ag [k]) (
        ag [k])) z r (r7 h n p S D A lo q s pv):=by
  intro k z r m i;rcases i with ⟨rfl,E,⟨B,x1⟩,X⟩|⟨hv,E,C⟩
  ·have R:((3:Int)==3)=true:=rfl;refine jA @R ?_;refine aN aE (DO (Y:=Y) (d:=d+2) x1 A x.lo x.hi) jO (fun b _ j=> .inr (.inl j)) fun v2 h2 n2 u1 P L=> ?_;obtain⟨_,rfl,Z⟩:=L;refine jB ?_;unfold r7;rw[E]
   exact⟨rfl,Z,X.au (ah _) fun b j hM=>P b j (by
    rcases hM with rfl|hM
    ·exact fun e=>t e.symm
    ·exact fun e=>u (e▸hM))⟩
  ·obtain⟨e,rfl⟩:∃e:Int,k=jI e:=by
    unfold r7 at C;split at C
    ·exact⟨_,C.1⟩
    ·exact⟨_,C.1⟩
    ·exact⟨_,C.1⟩
   have R:(e==3)=false:=beq_eq_false_iff_ne.2 fun q=>hv (by rw[q]);refine jA @R ?_;exact C
 refine jB ?_;refine bz (DT (Y:=Y) (d:=d+3) y) (ah _) (fun _ _ h=>h.elim) ?_;rw[v];refine jA @g ?_;refine bz (DM (Y:=Y) (d:=d+3) x) (ah _) (fun _ _ h=>h.elim) ?_;by_cases O:s.count=0
 ·have T:((s.count:Int)==0)=true:=by rw[O];rfl
  refine jA (aI @g (aI @T @ahg)) ?_;exact aN aE (ahk (Y:=Y) (d:=d) x y t u O G) (ah _) (fun b _ j=>j.elim (fun j=> .inr (.inl j)) fun j=> .inr (.inr (.inl j))) fun k z r m Q i=>o k z r m i
 ·have T:((s.count:Int)==0)=false:=beq_eq_false_iff_ne.2 jO;refine jA (aI @g (aI @T @ahh)) ?_;exact aN aE (ahn (Y:=Y) (d:=d) x y t u O jO N G) (ah _) (fun b _ j=> .inr j) fun k z r m Q i=>o k z r m i
end
end Go.Proofs.YtmjolmggelkjlaaGreat
