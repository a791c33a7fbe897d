import Derived.Test.YtmjolmggelkjlaaGreatMae
import Derived.WideShapes
import Derived.WalkLawsBesides
import Derived.Test.YtmjolmggelkjlaaGreatMac
import Derived.Test.YtmjolmggelkjlaaGreatMad
import Derived.Laws.BitsAllLaws
import Derived.IntWalk
open Nat renaming reduceLT→aa, reduceAdd→af, le_refl→an, zero_le→aR, ble→bK, zero_add→fB, lt_succ_self→gh, add_zero→kQ, min_eq_left→kR, le_trans→lM, lt_of_lt_of_le→mb, mod_eq_of_lt→me, not_lt_zero→mJ, ble_eq_true_of_le→nZ, pow_succ→pX, add_mul→pZ, sub_self→uq, pow_le_pow_right→ur, mul_le_mul_right→xY, mul_one→AU, mul_comm→Ks, mul_zero→Kt, mul_assoc→RJ, pow_one→RK, pow_zero→adm, and_one_is_mod→arF, lt_trichotomy→arG, pow_add→arK, lt_irrefl→arP
open Go.Proofs.Tryz renaming prog→ah
open List renaming getD_eq_getElem?_getD→bC, getElem?_eq_getElem→bD, length_append→bX, replicate→cr, append_nil→cu, length_cons→dp, length_take→dr, getElem_mem→eu, range→iL, drop_zero→jr, getElem?_map→jC, length_replicate→kg, take_length→mh, take_succ_eq_append_getElem→qa, map_append→qb, getElem?_append_right→qR, getElem?_append_left→uk, map_congr_left→vE, drop_eq_getElem_cons→vI, mem_singleton→vJ, getElem?_cons_succ→AP, set_cons_succ→AS, all_cons→FI, drop_length→FM, any_nil→Kg, mem_append→Ko, set_append_right→Kp, getElem?_drop→Rr, take_zero→RD, any_eq_false→ada, countP_cons→adl, ext_getElem→ado, getElem_map→adp, getElem_range→adq, eq_nil_of_length_eq_zero→adr, take_succ_cons→arh, filter_cons→arj, any_cons→ark, take_take→arH, take_sublist→arJ, find?_some→arM, mem_of_find?_eq_some→arN, getElem_set→arR, set_append_left→arS
open Bool renaming and_eq_true→cj, not_false→cP, and_self→fR, not_true→jP, or_eq_false_iff→CN, or_false→Ki, not_eq_true→arb
open BitVec renaming ofInt→cC, ofInt_natCast→CR, toNat_ofNat→CS, toNat_and→RC
open Int renaming toNat_natCast→cL, lt_irrefl→fg, reduceBEq→gm, reduceBNe→gu, reduceLT→gy, reduceLE→gz, reduceEq→gB, reduceNe→gC, reduceAdd→gD, reduceSub→gE, reduceMul→gF, reduceNeg→gG, natCast_nonneg→p9
open Go.Value renaming int→dG, slice→kf
open UInt8 renaming ofNat→jq
open Go.IntKind renaming u32→lO
open Go.Lit renaming int→RE
open Option renaming some→arE
open List.Sublist renaming countP_le→arI
set_option linter.unusedVariables false
set_option linter.unusedSimpArgs false
namespace Go.Proofs.YtmjolmggelkjlaaGreat
end Go.Proofs.YtmjolmggelkjlaaGreat
namespace Go.Proofs.YtmjolmggelkjlaaGreat.Hu
structure HT where
 weight:List Int
 aag:List Int
 leaves:List Nat
 Ah:Nat
def Iy(t:HT)(i:Nat):Int:=t.weight.getD i 0
def aah(t:HT):Bool:=t.Ah==t.weight.length||(decide (0<t.leaves.length)&&decide (Iy t (t.leaves.getD 0 0)<=Iy t t.Ah))
def aai(t:HT):Nat:=if aah t then t.leaves.getD 0 0 else t.Ah
def taken(t:HT):HT:=if aah t then{t with leaves:=t.leaves.tail}else{t with Ah:=t.Ah+1}
def akD(t:HT)(a b:Nat):HT:={t with weight:=t.weight++[Iy t a+Iy t b],aag:=((t.aag.set a t.weight.length).set b t.weight.length)++[-1]}
def akE(t:HT):HT:=akD (taken (taken t)) (aai t) (aai (taken t))
def iq:Nat->HT->HT
 |0,t=>t
 |k+1,t=>iq k (akE t)
def Iz:List Int->Int
 |[]=>0
 |x::xs=>x+Iz xs
end Go.Proofs.YtmjolmggelkjlaaGreat.Hu
namespace Go.Proofs.YtmjolmggelkjlaaGreat
open Go.RowKit Ev Hu
theorem aaj{x:Nat}(h:x<9223372036854775807):IntKind.i64.wrap ((x:Int)+1)=((x+1:Nat):Int):=by rw[aJ (by omega) (by omega)];rfl
theorem aak{x:Nat}(h:x<9223372036854775807):IntKind.i64.wrap (((x+1:Nat):Int)-1)=((x:Nat):Int):=by rw[aJ (by omega) (by omega)];omega
theorem RZ:type_of%(aI @U9 (aI @U' (aI @aJ (aI @aaj (aI @aak (aI @Vk (aI @Vl (aI @Vm (aI @Vn (aI @Vo (aI @Vp (aI @Ng (aI @Vq (aI @Vr (aI @Vs (aI @Vt (aI @Vu (aI @Vv (aI @Vw (aI @Vx (aI @Vy (aI @Vz (aI @VA (aI @VB (aI @VC (aI @VD (aI @VE (aI @VF (aI @VG (aI @VH (aI @Nh (aI @VI (aI @VJ (aI @DS (aI @BE (aI @VK (aI @VL (aI @VM (aI @VN (aI @VO (aI @Hz (aI @HA (aI @VQ (aI @VS (aI @VT (aI @VU (@VV))))))))))))))))))))))))))))))))))))))))))))))):=aI @U9 (aI @U' (aI @aJ (aI @aaj (aI @aak (aI @Vk (aI @Vl (aI @Vm (aI @Vn (aI @Vo (aI @Vp (aI @Ng (aI @Vq (aI @Vr (aI @Vs (aI @Vt (aI @Vu (aI @Vv (aI @Vw (aI @Vx (aI @Vy (aI @Vz (aI @VA (aI @VB (aI @VC (aI @VD (aI @VE (aI @VF (aI @VG (aI @VH (aI @Nh (aI @VI (aI @VJ (aI @DS (aI @BE (aI @VK (aI @VL (aI @VM (aI @VN (aI @VO (aI @Hz (aI @HA (aI @VQ (aI @VS (aI @VT (aI @VU (@VV))))))))))))))))))))))))))))))))))))))))))))))
end Go.Proofs.YtmjolmggelkjlaaGreat
namespace Go.Proofs.YtmjolmggelkjlaaGreat
open Go.RowKit Hu
end Go.Proofs.YtmjolmggelkjlaaGreat
namespace Go.Proofs.YtmjolmggelkjlaaGreat
open Go.RowKit Ev Hu
structure akF (h:H) (n g pw:Nat) (ws:List Int):Prop where
 ex:∃wb off cap e1 o1 e2 o2 cs,h.get pw=some ⟨e1,o1,[.slice (some ⟨wb,off,none⟩) ws.length cap]⟩∧h.get wb=some ⟨e2,o2,cs⟩∧wb<n∧wb≠g∧∀i,i<ws.length->cs[off+i]? =some (.int .i64 (ws.getD i 0))
 pn:pw<n
 pg:pw≠g
section
variable (lf g cap pw N:Nat) (ws:List Int) (aC:3000000<=lf) (hNb:N<=1000000) (d n:Nat) (h:H) (xs:List Nat) (hN:xs.length=N) (hE:akF h n g pw ws) (hg:g<n) (yC:∀z∈xs,z<ws.length)
variable {W:Nat->Prop} {n0:Nat} (qn:n0<=n) (hW:n0<=g∨W g) {R:Value->H->Nat->Prop}
include aC hNb hN hE hg yC qn hW
end
theorem OK(lf d n:Nat)(h:H)(v:Value)(xs:List Int)(hR:Row h n 3 .i64 v xs)(h0:0<xs.length)(hl:xs.length<=1000000):
 ai (fun _=>False) n (au ah gt lf (d+1) 208 #[v]) h n fun v' h' n'=>(0<xs.length->Own h' n n' 3 v' (aS .i64 xs))∧Row h' n' 3 .i64 v' xs∧∀b,aN v' b->n<=b:=by
 rw[aL (fun _=>ajo) rfl]
 refine ai.aH ?_
 unfold YU
 rcases hR with ⟨a,c,rfl,_,rfl⟩|⟨b,off,cap,o,cs,rfl,hg,hb,hle,ht,hc⟩
 ·exact absurd h0 (by simp)
 ·try simp(disch:=first|omega|assumption) only[af,aa,RZ]
  refine agG trivial _ ?_
  have uB:(h.set n (some ⟨3,true,[]⟩)).get b=some ⟨3,o,cs⟩:=by rw[aD _ _ (by omega)];exact hg
  by_cases K8:xs.length=0
  ·have hx:xs=[]:=List.length_eq_zero_iff.1 K8
   subst hx
   refine UX (news:=[]) trivial rfl _ _ _ _ ?_
   try simp(disch:=first|omega|assumption) only[af,aa,RZ]
   refine⟨fun q=>absurd q (by simp),.inr ⟨n,0,0,true,[],rfl,get_eq _ _ _,by omega,by simp,by simp[aS],by simp⟩,fun b hb=>by rw[hb.inj];exact an n⟩
  ·have s:Src (h.set n (some ⟨3,true,[]⟩)) (n+1) (.slice (some ⟨b,off,none⟩) xs.length cap) (aS .i64 xs):=⟨b,off,cap,_,by rw[eJ],uB,by omega,by rw[eJ];exact hle,by rw[eJ];exact ht⟩
   refine agD trivial s (by rw[eJ];omega) (M4 _ _) (get_eq _ _ _) rfl (gh n) 0 0 (by simp) rfl (by rw[eJ];omega) (by unfold bq;omega) (by rw[eJ];omega) _ ?_
   try simp(disch:=first|omega|assumption) only[af,aa,RZ]
   have ho:Own ((h.set n (some ⟨3,true,[]⟩)).set (n+1) (some ⟨3,true,[]++aS .i64 xs⟩)) n (n+1+1) 3 (.slice (some ⟨n+1,0,none⟩) (aS .i64 xs).length (bq+(aS .i64 xs).length)) (aS .i64 xs):= .inr ⟨n+1,rfl,by rw[get_eq];rfl,by omega,by omega⟩
   exact⟨fun _=>ho,ho.row,fun b hb=>by rw[hb.inj];omega⟩
def mA(lo hi:Int)(xs:List Int):Bool:=xs.all fun x=>decide (lo<=x)&&decide (x<=hi)
theorem BW{lo hi:Int}{xs:List Int}:mA lo hi xs=true↔∀x∈xs,lo<=x∧x<=hi:=by unfold mA;simp
theorem OL{α:Type}(d:α){xs:List α}{i:Nat}(h:i<xs.length):xs.drop i=xs.getD i d::xs.drop (i+1):=by
 rw[vI h,bC,bD h]
 rfl
theorem aal{lo hi:Int}{xs:List Int}{i:Nat}(h:i<xs.length):mA lo hi (xs.drop i)=(decide (lo<=xs.getD i 0)&&decide (xs.getD i 0<=hi)&&mA lo hi (xs.drop (i+1))):=by
 rw[OL 0 h]
 unfold mA
 simp
theorem akG(lf d n:Nat)(h:H)(v:Value)(xs:List Int)(hR:Row h n 3 .i64 v xs)(hl:xs.length<=1000000000)(lo hi:Int)(x6:Value){W:Nat->Prop}{n0:Nat}:
 ∀(m i fu:Nat),xs.length-i=m->m<fu->i<=xs.length->
  ai W n0 (zZ lf (au ah gt lf d) fu (BR lf (au ah gt lf d)) v (.int .i64 lo) (.int .i64 hi) x6 v (.int .i64 (xs.length:Nat)) (.int .i64 (i:Nat))) h n (fun v' h' n'=>v'= .bool (mA lo hi (xs.drop i))∧h'=h∧n'=n):=by
 intro m
 induction m with
 |zero=>
  intro i fu hm gU y5
  obtain⟨fu,rfl⟩:∃f,fu=f+1:=⟨fu-1,by omega⟩
  obtain rfl:i=xs.length:=by omega
  rw[zZ]
  try simp(disch:=first|omega|assumption) only[af,aa,RZ,fg]
  (try unfold BR);(try dsimp only)
  try simp(disch:=first|omega|assumption) only[af,aa,RZ]
  simp[mA]
 |succ m ih=>
  intro i fu hm gU y5
  obtain⟨fu,rfl⟩:∃f,fu=f+1:=⟨fu-1,by omega⟩
  obtain⟨b,off,cap,o,cs,rfl,hg,hb,_,_,_,gQ⟩:=hR.some (by omega)
  have e1:((i:Nat):Int)<((xs.length:Nat):Int):=by omega
  have c1:=gQ i (by omega)
  have w1:((i:Nat):Int)+1=((i+1:Nat):Int):=by omega
  rw[zZ,aal (by omega)]
  by_cases h1:xs.getD i 0<lo
  ·try simp(disch:=first|omega|assumption) only[af,aa,RZ,e1,hg,c1,h1]
   (try unfold BR);(try dsimp only)
   try simp(disch:=first|omega|assumption) only[af,aa,RZ]
   rw[decide_eq_false (Int.not_le.2 h1)]
   simp
  ·by_cases h2:hi<xs.getD i 0
   ·try simp(disch:=first|omega|assumption) only[af,aa,RZ,e1,hg,c1,h1,h2]
    (try unfold BR);(try dsimp only)
    try simp(disch:=first|omega|assumption) only[af,aa,RZ]
    rw[decide_eq_false (Int.not_le.2 h2)]
    simp
   ·try simp(disch:=first|omega|assumption) only[af,aa,RZ,e1,hg,c1,h1,h2]
    rw[w1]
    have:=ih (i+1) fu (by omega) (by omega) (by omega)
    rw[decide_eq_true (Int.not_lt.1 h1),decide_eq_true (Int.not_lt.1 h2)]
    exact this
theorem akH(lf d n:Nat)(h:H)(v:Value)(xs:List Int)(hR:Row h n 3 .i64 v xs)(lo hi:Int)(hl:xs.length<=1000000)(aC:3000000<=lf):
 ai (fun _=>False) n (au ah gt lf (d+1) 217 #[v,.int .i64 lo,.int .i64 hi]) h n fun v' h' n'=>v'= .bool (mA lo hi xs)∧h'=h∧n'=n:=by
 rw[aL (fun _=>aju) rfl]
 refine ai.aH ?_
 unfold Ou
 have pG:=hR
 obtain⟨a,c,rfl⟩:=hR.len
 try simp(disch:=first|omega|assumption) only[af,aa,RZ]
 exact akG lf d n h _ xs pG (by omega) lo hi _ xs.length 0 lf (by omega) (by omega) (by omega)
theorem akI{β:Type}{rec:FuncId->Array Value->M Value}(p q a:Value)(k:Value->M β):kD ah rec (.func (.func 288) #[] #[p,q]) [a] k=ay rec 288 [a,p,q] k:=by
 unfold kD
 show bh (some _) _=_
 rw[wG]
 simp only[show oX ah 288=true by kernel_rfl]
 exact(nB _ _).symm
theorem akJ(lf d n:Nat)(h:H)(x lo hi:Int)(p q:Nat)(hp:p<n)(hq:q<n){e1 e2:TypeId}{o1 o2:Bool}(gp:h.get p=some ⟨e1,o1,[.int .i64 lo]⟩)(gq:h.get q=some ⟨e2,o2,[.int .i64 hi]⟩):
 ai (fun _=>False) n (au ah gt lf (d+1) 288 #[.int .i64 x,.pointer (some ⟨p,0,none⟩),.pointer (some ⟨q,0,none⟩)]) h n fun v' h' n'=>v'= .bool (!(decide (lo<=x)&&decide (x<=hi)))∧h'=h∧n'=n:=by
 rw[aL (fun _=>akA) rfl]
 refine ai.aH ?_
 unfold aad
 have c0:∀z:Value,[z][0]? =some z:=fun _=>rfl
 by_cases h1:x<lo
 ·try simp(disch:=first|omega|assumption) only[af,aa,RZ,gp,gq,c0,h1]
  rw[decide_eq_false (Int.not_le.2 h1)]
  simp
 ·try simp(disch:=first|omega|assumption) only[af,aa,RZ,gp,gq,c0,h1]
  by_cases h2:hi<x
  ·simp[h2,Int.not_le.2 h2]
  ·simp[h2,Int.not_lt.1 h1,Int.not_lt.1 h2]
theorem ixL(lf d n:Nat)(h:H)(v:Value)(xs:List Int)(hR:Row h n 3 .i64 v xs)(hl:xs.length<=1000000000)(lo hi:Int)(p q:Nat)(hp:p<n)(hq:q<n){e1 e2:TypeId}{o1 o2:Bool}(gp:h.get p=some ⟨e1,o1,[.int .i64 lo]⟩)(gq:h.get q=some ⟨e2,o2,[.int .i64 hi]⟩)(x4:Value){W:Nat->Prop}{n0:Nat}(qn:n0<=n):
 ∀(m i fu:Nat),xs.length-i=m->m<fu->i<=xs.length->
  ai W n0 (Ag lf (au ah gt lf (d+1)) fu (Ej lf (au ah gt lf (d+1))) v (.func (.func 288) #[] #[.pointer (some ⟨p,0,none⟩),.pointer (some ⟨q,0,none⟩)]) x4 (.int .i64 (xs.length:Nat)) (.int .i64 (i:Nat))) h n (fun v' h' n'=>(∃r:Int,v'= .int .i64 r∧decide (0<=r)= !mA lo hi (xs.drop i))∧h'=h∧n'=n):=by
 intro m
 induction m with
 |zero=>
  intro i fu hm gU y5
  obtain⟨fu,rfl⟩:∃f,fu=f+1:=⟨fu-1,by omega⟩
  obtain rfl:i=xs.length:=by omega
  rw[Ag]
  try simp(disch:=first|omega|assumption) only[af,aa,RZ,fg]
  (try unfold Ej);(try dsimp only)
  try simp(disch:=first|omega|assumption) only[af,aa,RZ]
  exact⟨-1,rfl,by simp[mA]⟩
 |succ m ih=>
  intro i fu hm gU y5
  obtain⟨fu,rfl⟩:∃f,fu=f+1:=⟨fu-1,by omega⟩
  obtain⟨b,off,cap,o,cs,rfl,hg,hb,_,_,_,gQ⟩:=hR.some (by omega)
  have e1:((i:Nat):Int)<((xs.length:Nat):Int):=by omega
  have c1:=gQ i (by omega)
  have w1:((i:Nat):Int)+1=((i+1:Nat):Int):=by omega
  rw[Ag]
  try simp(disch:=first|omega|assumption) only[af,aa,RZ,e1,hg,c1,akI]
  refine bL (akJ lf d n h (xs.getD i 0) lo _ p q hp hq gp gq) qn (fun _ _ h=>h.elim) ?_
  rw[aal (by omega)]
  by_cases h1:(decide (lo<=xs.getD i 0)&&decide (xs.getD i 0<=hi))=true
  ·rw[h1]
   try simp(disch:=first|omega|assumption) only[af,aa,RZ]
   rw[w1]
   exact ih (i+1) fu (by omega) (by omega) (by omega)
  ·rw[Bool.eq_false_iff.2 h1]
   try simp(disch:=first|omega|assumption) only[af,aa,RZ]
   (try unfold Ej);(try dsimp only)
   try simp(disch:=first|omega|assumption) only[af,aa,RZ]
   exact⟨(i:Nat),rfl,by simp⟩
theorem akK(lf d n:Nat)(h:H)(v:Value)(xs:List Int)(hR:Row h n 3 .i64 v xs)(lo hi:Int)(hl:xs.length<=1000000)(aC:3000000<=lf):
 ai (fun _=>False) n (au ah gt lf (d+4) 285 #[v,.int .i64 lo,.int .i64 hi]) h n fun v' h' n'=>v'= .bool (mA lo hi xs):=by
 rw[aL (fun _=>akw) rfl]
 refine ai.aH ?_
 unfold Z'
 refine jH trivial _ _ ?_
 refine jH trivial _ _ ?_
 obtain⟨h2,iV⟩:∃h2,(h.set n (some ⟨3,true,(dG .i64 lo).cells.toList⟩)).set (n+1) (some ⟨3,true,(dG .i64 hi).cells.toList⟩)=h2:=⟨_,rfl⟩
 have g1:h2.get n=some ⟨3,true,[.int .i64 lo]⟩:=by rw[<-iV,aD _ _ (by omega),get_eq];rfl
 have g2:h2.get (n+1)=some ⟨3,true,[.int .i64 hi]⟩:=by rw[<-iV,get_eq];rfl
 have hk:∀b,b<n->h2.get b=h.get b:=fun b hb=>by rw[<-iV,aD _ _ (by omega),aD _ _ (by omega)]
 rw[iV]
 have OM:Row h2 (n+2) 3 .i64 v xs:=hR.aB (by omega) hk
 obtain⟨a,c,rfl⟩:=hR.len
 have s1:ai (fun _=>False) (n+2) (au ah gt lf (d+2) 289 #[.slice a xs.length c,.func (.func 288) #[] #[.pointer (some ⟨n,0,none⟩),.pointer (some ⟨n+1,0,none⟩)]]) h2 (n+2) fun v' h' n'=>(∃r:Int,v'= .int .i64 r∧decide (0<=r)= !mA lo hi xs)∧h'=h2∧n'=n+2:=by
  rw[aL (fun _=>akC) rfl]
  refine ai.aH ?_
  unfold OJ
  try simp(disch:=first|omega|assumption) only[af,aa,RZ]
  exact ixL lf d (n+2) h2 _ xs OM (by omega) lo hi n (n+1) (by omega) (by omega) g1 g2 _ (an _) xs.length 0 lf (by omega) (by omega) (by omega)
 have s2:ai (fun _=>False) (n+2) (au ah gt lf (d+3) 287 #[.slice a xs.length c,.func (.func 288) #[] #[.pointer (some ⟨n,0,none⟩),.pointer (some ⟨n+1,0,none⟩)]]) h2 (n+2) fun v' h' n'=>v'= .bool (!mA lo hi xs)∧h'=h2∧n'=n+2:=by
  rw[aL (fun _=>akz) rfl]
  refine ai.aH ?_
  unfold aac
  refine aU aK s1 (an _) (fun _ _ h=>h.elim) fun v' h' n' _ _ hq=> ?_
  obtain⟨⟨r,rfl,hr⟩,rfl,rfl⟩:=hq
  try simp(disch:=first|omega|assumption) only[af,aa,RZ]
  rw[hr]
 refine bL s2 (by omega) (fun _ _ h=>h.elim) ?_
 rw[MQ,Bool.not_not]
 try simp(disch:=first|omega|assumption) only[af,aa,RZ]
theorem IA {β:Type} {W:Nat->Prop} {n0:Nat} {h:H} {n:Nat} {Q:β->H->Nat->Prop} {lf d:Nat} {f:FuncId} {args:List Value} {b:Bool} (s:ai (fun _=>False) n (au ah gt lf d f ⟨args⟩) h n fun v' _ _=>v'= .bool b) (hn:n0<=n) {k:Value->M β}
 (x:∀h1 n1,n<=n1->(∀c,c<n->h1.get c=h.get c)->ai W n0 (k (.bool b)) h1 n1 Q):ai W n0 (ay (au ah gt lf d) f args k) h n Q:=by
 refine aU aK s hn (fun _ _ h=>h.elim) fun v1 h1 n1 aM fr hq=> ?_
 subst hq
 exact x h1 n1 aM fun c hc=>fr c hc id
end Go.Proofs.YtmjolmggelkjlaaGreat
namespace Go.Proofs.YtmjolmggelkjlaaGreat.Ev
open Go Go.RowKit
section
variable {P:Program} {h:H} {n f:Nat} {t:TypeId} {v:Value}
theorem akL{k:IntKind}(hu:P.underlying t=some (.int k))(x:gX P h n (f+1) t v):∃i,v= .int k i∧(RE k i).wf=true:=by
 unfold gX at x
 rw[hu]at x
 exact x
theorem akM(hu:P.underlying t=some .string)(x:gX P h n (f+1) t v):∃l:List UInt8,v= .string ⟨l.toArray⟩∧l.length<=maxLen:=by
 unfold gX at x
 rw[hu]at x
 obtain⟨s,hv,hs⟩:=x
 exact⟨s.data.toList,by rw[hv],by rw[<-G8,<-afN];exact hs⟩
theorem aam(hc:nG P 8 t=some [t])(hg:tg P t=false)(x:rL P h n t v):gX P h n 8 t v:=by
 obtain⟨ts,eg,q⟩:=x
 rw[hc]at eg
 cases eg
 rcases q with ⟨h1,_⟩|⟨_,h2⟩
 ·rw[hg]at h1;cases h1
 ·exact h2.1
theorem akN{α β:Type}{R:α->β->Prop}{a a':α}{l:List β}(x:fD R [a,a'] l):∃b b',l=[b,b']∧R a b∧R a' b':=by
 match l,x with
 |[b,b'],x=>exact⟨b,b',rfl,x.1,x.2.1⟩
theorem akO{i:Int}(h:(RE .i64 i).wf=true):-9223372036854775808<=i∧i<=9223372036854775807:=by
 have e1:IntKind.i64.min=-9223372036854775808:=by decide
 have e2:IntKind.i64.max=9223372036854775807:=by decide
 simp only[Lit.wf,e1,e2,cj,decide_eq_true_eq]at h
 exact h
end
theorem aan{β:Type}{W:Nat->Prop}{n0:Nat}{h:H}{n:Nat}{Q:β->H->Nat->Prop}{T T':Prop}(_:T)(_:T'){sz:Nat}(b off:Nat)(k:Value->M β){B:AB}(hg:h.get b=some B)(hb:b<n)(hl:off+sz<=B.cells.length)(x:ai W n0 (k (.agg ((B.cells.drop off).take sz).toArray)) h n Q):ai W n0 (bx sz (.pointer (some ⟨b,off,none⟩)) k) h n Q:=M6 b off k hg hb hl x
def flat:Value->Bool
 | .agg cs=>cs.toList.all scalar
 |v=>scalar v
theorem akP{m:Mp}{v:Value}(h:flat v=true):VR m v v:=by
 cases v with
 |agg cs=>
  have hs:∀l:List Value,l.all scalar=true->bA m l l:=by
   intro l
   induction l with
   |nil=>intro _;exact .nil
   |cons a l ih=>
    intro h
    simp only[FI,cj]at h
    exact .cons (VR.self h.1) (ih h.2)
  exact .agg (hs cs.toList h)
 |_=>exact VR.self h
theorem IB{m:Mp}:∀{l:List Value},l.all flat=true->bA m l l
 |[],_=> .nil
 |a::l,h=>by
  simp only[FI,cj]at h
  exact .cons (akP h.1) (IB h.2)
section
variable {P:Program} {w:World} {f:Nat} {t:TypeId} {v:Value}
end
section
variable {β:Type} {W:Nat->Prop} {n0:Nat} {h:H} {n:Nat} {Q:β->H->Nat->Prop} {P:Program}
theorem jy{T T':Prop}(_:T)(_:T'){sz:Nat}(b off:Nat)(k:Value->M β){B:AB}(hg:h.get b=some B)(hb:b<n)(hl:off+sz<=B.cells.length)(x:ai W n0 (k (.agg ((B.cells.drop off).take sz).toArray)) h n Q):ai W n0 (bx sz (.pointer (some ⟨b,off,none⟩)) k) h n Q:=M6 b off k hg hb hl x
theorem aao{a b:Tk}(h1:∀e∈a.log,e.wr=false)(h2:∀e∈b.log,e.wr=false)(h3:∀e∈a.log,e.b<b.n)(h4:∀e∈b.log,e.b<a.n):a.cA b=false:=by
 unfold Tk.cA
 simp only[CN,ada,cj,decide_eq_true_eq,not_and]
 refine⟨⟨⟨fun x hx hw=> ?_,fun x hx hw=> ?_⟩,fun x hx hle=> ?_⟩,fun x hx hle=> ?_⟩
 ·rw[h1 x hx]at hw;cases hw
 ·rw[h2 x hx]at hw;cases hw
 ·have:=h3 x hx;omega
 ·have:=h4 x hx;omega
structure RO (t:Tk) (n:Nat):Prop where
 wr:∀e∈t.log,e.wr=false
 lt:∀e∈t.log,e.b<n
 n:t.n=n
theorem RO.cA{a b:Tk}{m:Nat}(x:RO a m)(y:RO b m):cT a b=false:=(Br a b).trans<|aao x.wr y.wr (fun e he=>by rw[y.n];exact x.lt e he) (fun e he=>by rw[x.n];exact y.lt e he)
theorem xe{T:Prop}(c:T)(b off:Nat)(k:Value×Tk->M β){B:AB}(hg:h.get b=some B)(hb:b<n){v:Value}(hv:B.cells[off]? =some v)(x:∀T,RO T n->ai W n0 (k (v,T)) h n Q):ai W n0 ((aG (ar (.pointer (some ⟨b,off,none⟩)) M.ret)).bind k) h n Q:=
 M3 c b off k hg hb hv (x _ ⟨by simp,by simpa using hb,rfl⟩)
theorem xf{lf d:Nat}{gt:Nat->Hint}(hd:lW P=true){f:FuncId}{vs:List Value}{v:Value}(s:ai (fun _=>False) n (au P gt lf d f ⟨vs⟩) h n fun v' h' n'=>v'=v∧h'=h∧n'=n)(hn:n0<=n){k:Value×Tk->M β}(x:∀T,RO T n->ai W n0 (k (v,T)) h n Q):ai W n0 ((aG (ay (au P gt lf d) f vs M.ret)).bind k) h n Q:=by
 refine Hr hd s hn (fun _ _ h=>h.elim) fun v' h' n' L _ _ hq hL hw=> ?_
 obtain⟨rfl,rfl,rfl⟩:=hq
 refine x _ ⟨fun e he=> ?_,hL,rfl⟩
 cases hq:e.wr with
 |false=>rfl
 |true=>exact(hw e he hq).elim
end
def cO(ws:List Nat):List Value:=ws.map fun(x:Nat)=>dG .u8 (x:Int)
theorem jX(ws:List Nat):(cO ws).length=ws.length:=by unfold cO;simp
theorem IC(a b:List Nat):cO (a++b)=cO a++cO b:=by unfold cO;simp
def bS(ws:List Nat):List UInt8:=ws.map jq
theorem ID:∀ws:List Nat,mw (cO ws)=some (bS ws)
 |[]=>rfl
 |x::ws=>by
  show(match mw (cO ws)with
   |some l=>some (jq ((x:Int)).toNat::l)
   |none=>none)=_
  rw[ID ws]
  rfl
section
variable {β:Type} {W:Nat->Prop} {n0:Nat} {h:H} {n:Nat} {Q:β->H->Nat->Prop} {P:Program}
theorem IE{b off cp:Nat}{B:AB}{ws:List Nat}(hg:h.get b=some B)(hb:b<n)(hl:off+ws.length<=B.cells.length)(hc:(B.cells.drop off).take ws.length=cO ws)(k:Value->M β)(y:ai W n0 (k (.string ⟨(bS ws).toArray⟩)) h n Q):ai W n0 (lU (.slice (some ⟨b,off,none⟩) ws.length cp) k) h n Q:=by
 obtain⟨L,e1,e2⟩:=rK (n:=n) hg hb ws.length off hl
 rw[hc]at e1
 refine jx ?_
 have e:((jv b off ws.length).bind fun vs=>match mw vs with
  |some l=>M.ret (Value.string ⟨⟨l⟩⟩)
  |none=> .fail) h n=some ⟨.string ⟨(bS ws).toArray⟩,h,n,L++[]⟩:=by
  rw[pr]
  refine bZ e1 ?_
  rw[ID]
  rfl
 obtain⟨L',e3,e4⟩:=Ho (W:=W) (n0:=n0) e (by simpa using e2)
 exact ai.step e3 (an _) e4 y
theorem ON{lo:Nat}{e:TypeId}{v:Value}{ws:List Nat}(o:Own h lo n e v (cO ws))(k:Value->M β)(y:ai W n0 (k (.string ⟨(bS ws).toArray⟩)) h n Q):ai W n0 (lU v k) h n Q:=by
 rcases o with ⟨rfl,hw⟩|⟨b,rfl,hg,_,hb⟩
 ·have:ws=[]:=by unfold cO at hw;simpa using hw
  subst this
  exact y
 ·rw[jX]
  exact IE (B:=⟨e,true,cO ws⟩) hg hb (by simp[jX]) (by rw[jr,<-jX ws,mh]) k y
theorem ve {T:Prop} (c:T) {e:TypeId} {x:Value} (hx:one x=true) {lo:Nat} {v:Value} {cs:List Value} (o:Own h lo n e v cs) (hm:cs.length+1<=1099511627776) (hw:∀b,aN v b->n0<=b∨W b) (k:Value->M β)
 (y:∀h',h'.get (n+1)=some ⟨e,true,cs++[x]⟩->(∀b,b<n->¬aN v b->h'.get b=h.get b)->ai W n0 (k (.slice (some ⟨n+1,0,none⟩) (cs.length+1) (bq+(cs.length+1)))) h' (n+2) Q):ai W n0 (cX e 1 x fun w=>dj e 1 v w k) h n Q:=by
 rcases o with ⟨rfl,rfl⟩|⟨b,rfl,hb,h1,h2⟩
 ·exact U1 c hx k (y _ (get_eq _ _ _) fun b hb _=>by rw[aD _ _ (by omega),aD _ _ (by omega)])
 ·refine U0 c hx hb h2 rfl hm (by omega) (hw b ⟨_,_,_,rfl⟩) k (y _ (get_eq _ _ _) fun c hc hn=> ?_)
  have:c≠b:=fun e=>hn ⟨0,_,_,by rw[e]⟩
  rw[aD _ _ (by omega),aD _ _ this,aD _ _ (by omega)]
end
section
variable {β:Type} {W:Nat->Prop} {n0:Nat} {h:H} {n:Nat} {Q:β->H->Nat->Prop} {P:Program}
theorem lF(v:Value)(k:Value×Tk->M β)(y:∀T,RO T n->ai W n0 (k (v,T)) h n Q):ai W n0 ((aG (M.ret v)).bind k) h n Q:=
 oH (L:=[]) rfl (an _) (by simp) (y _ ⟨by simp,by simp,rfl⟩)
theorem akQ (hd:lW P=true) {gt:Nat->Hint} {lf d:Nat} {f:FuncId} {vs:List Value} {W':Nat->Prop} {Q':Value->H->Nat->Prop} (s:ai W' n (au P gt lf d f ⟨vs⟩) h n Q') (hn:n0<=n) (hW:∀b,b<n->W' b->n0<=b∨W b) {k:Value×Tk->M β}
 (x:∀v h1 n1 T,n<=n1->(∀b,b<n->¬W' b->h1.get b=h.get b)->Q' v h1 n1->ai W n0 (k (v,T)) h1 n1 Q):ai W n0 ((aG (ay (au P gt lf d) f vs M.ret)).bind k) h n Q:=
 Hr hd s hn hW fun v h1 n1 L a b c _ _=>x v h1 n1 _ a b c
end
structure RB (t:Tk) (m:Nat):Prop where
 wr:∀e∈t.log,e.wr=false
 lt:∀e∈t.log,e.b<m
 le:m<=t.n
theorem RB.cA{a b:Tk}{m:Nat}(x:RB a m)(y:RB b m):cT a b=false:=(Br a b).trans<|aao x.wr y.wr (fun e he=>mb (x.lt e he) y.le) (fun e he=>mb (y.lt e he) x.le)
section
variable {β:Type} {W:Nat->Prop} {n0:Nat} {h:H} {n m:Nat} {Q:β->H->Nat->Prop} {P:Program}
theorem gZ{T:Prop}(ha:T)(b off:Nat)(k:Value×Tk->M β){B:AB}(hg:h.get b=some B)(hb:b<m)(hm:m<=n){v:Value}(hv:B.cells[off]? =some v)(x:∀T,RB T m->ai W n0 (k (v,T)) h n Q):ai W n0 ((aG (ar (.pointer (some ⟨b,off,none⟩)) M.ret)).bind k) h n Q:=
 M3 ha b off k hg (by omega) hv (x _ ⟨by simp,by simpa using hb,hm⟩)
theorem OO(v:Value)(k:Value×Tk->M β)(hm:m<=n)(y:∀T,RB T m->ai W n0 (k (v,T)) h n Q):ai W n0 ((aG (M.ret v)).bind k) h n Q:=
 oH (L:=[]) rfl (an _) (by simp) (y _ ⟨by simp,by simp,hm⟩)
theorem tA (hd:lW P=true) {gt:Nat->Hint} {lf d:Nat} {f:FuncId} {vs:List Value} {Q':Value->H->Nat->Prop} (s:ai (fun _=>False) n (au P gt lf d f ⟨vs⟩) h n Q') (hn:n0<=n) {k:Value×Tk->M β}
 (x:∀v h1 n1 T,n<=n1->(∀b,b<n->h1.get b=h.get b)->Q' v h1 n1->RB T n->ai W n0 (k (v,T)) h1 n1 Q):ai W n0 ((aG (ay (au P gt lf d) f vs M.ret)).bind k) h n Q:=by
 refine Hr hd s hn (fun _ _ h=>h.elim) fun v h1 n1 L aM fr hq hL hw=>x v h1 n1 _ aM (fun b hb=>fr b hb id) hq ⟨fun e he=> ?_,hL,an _⟩
 cases hq:e.wr with
 |false=>rfl
 |true=>exact(hw e he hq).elim
theorem aap{T:Prop}(ha:T)(b off:Nat)(k:Value×Tk->M β){B:AB}(hg:h.get b=some B)(hb:b<n){v:Value}(hv:B.cells[off]? =some v)(x:∀T,T.n=n->T.n1=n->T.log=[⟨false,b,some off⟩]->ai W n0 (k (v,T)) h n Q):ai W n0 ((aG (ar (.pointer (some ⟨b,off,none⟩)) M.ret)).bind k) h n Q:=
 M3 ha b off k hg hb hv (x _ rfl rfl rfl)
theorem akR (hd:lW P=true) {gt:Nat->Hint} {lf d:Nat} {f:FuncId} {vs:List Value} {W':Nat->Prop} {Q':Value->H->Nat->Prop} (s:ai W' n (au P gt lf d f ⟨vs⟩) h n Q') (hn:n0<=n) (hW:∀b,b<n->W' b->n0<=b∨W b) {k:Value×Tk->M β}
 (x:∀v h1 n1 T,n<=n1->(∀b,b<n->¬W' b->h1.get b=h.get b)->Q' v h1 n1->T.n=n->(∀e∈T.log,e.b<n)->(∀e∈T.log,e.wr=true->W' e.b)->ai W n0 (k (v,T)) h1 n1 Q):ai W n0 ((aG (ay (au P gt lf d) f vs M.ret)).bind k) h n Q:=
 Hr hd s hn hW fun v h1 n1 L a b c e1 e2=>x v h1 n1 _ a b c rfl e1 e2
theorem akS{a b:Tk}{p off:Nat}{W':Nat->Prop}(h1:a.n=n)(h2:a.n1=n)(h3:a.log=[⟨false,p,some off⟩])(h4:b.n=n)(h5:∀e∈b.log,e.b<n)(h6:∀e∈b.log,e.wr=true->W' e.b)(hp:p<n)(hW:¬W' p):cT a b=false:=by
 rw[Br]
 unfold Tk.cA
 simp only[CN,ada,cj,decide_eq_true_eq,not_and,h3,vJ]
 refine⟨⟨⟨fun x hx hw=> ?_,fun x hx hw=> ?_⟩,fun x hx hle=> ?_⟩,fun x hx hle=> ?_⟩
 ·subst hx;cases hw
 ·simp only[ark,Kg,Ki,arb]
  unfold En.meets
  have:x.b≠p:=fun e=>hW (e▸h6 x hx hw)
  simp[this]
 ·subst hx
  simp only at hle⊢
  omega
 ·have:=h5 x hx
  omega
end
theorem eD {β σ:Type} {W:Nat->Prop} {n0:Nat} {Q:β->H->Nat->Prop} (N:Nat) (lp:Nat->Nat->σ->M β) (I:Nat->σ->H->Nat->Prop)
 (last:∀fu s h n,I N s h n->ai W n0 (lp (fu+1) N s) h n Q)
 (step:∀fu i s h n,i<N->I i s h n->(∀s' h' n',I (i+1) s' h' n'->ai W n0 (lp fu (i+1) s') h' n' Q)->ai W n0 (lp (fu+1) i s) h n Q):
 ∀(fu i:Nat) (s:σ) (h:H) (n:Nat),i<=N->N-i<fu->I i s h n->ai W n0 (lp fu i s) h n Q:=by
 have key:∀(m fu i:Nat) (s:σ) (h:H) (n:Nat),N-i=m->i<=N->N-i<fu->I i s h n->ai W n0 (lp fu i s) h n Q:=by
  intro m
  induction m with
  |zero=>
   intro fu i s h n hm hi hf x
   obtain⟨fu,rfl⟩:∃f,fu=f+1:=⟨fu-1,by omega⟩
   obtain rfl:i=N:=by omega
   exact last fu s h n x
  |succ m ih=>
   intro fu i s h n hm hi hf x
   obtain⟨fu,rfl⟩:∃f,fu=f+1:=⟨fu-1,by omega⟩
   exact step fu i s h n (by omega) x fun s' h' n' y=>ih fu (i+1) s' h' n' (by omega) (by omega) (by omega) y
 exact fun fu i s h n=>key _ fu i s h n rfl
section
variable {h h':H} {n n' lo hi:Nat} {e e' es ei:TypeId} {v v':Value} {cs cs':List Value} {xss:List (List Int)}
theorem Own.elem(o:Own h lo n e v cs){b:Nat}(hb:aN v b):∃B,h.get b=arE B∧B.elem=e:=by
 rcases o with ⟨rfl,_⟩|⟨c,rfl,hc,_⟩
 ·exact hb.not_nil.elim
 ·rw[hb.inj];exact⟨_,hc,rfl⟩
theorem Row.elem{k:IntKind}{xs:List Int}(r:Row h n e k v xs){b:Nat}(hb:aN v b):∃B,h.get b=arE B∧B.elem=e:=by
 rcases r with ⟨a,c,rfl,fC,_⟩|⟨c,off,cap,o,ks,rfl,hg,_⟩
 ·obtain⟨o,l,k,q⟩:=hb
  cases q
  exact absurd rfl (fC b o)
 ·rw[hb.inj];exact⟨_,hg,rfl⟩
theorem Own.apart(o:Own h lo n e v cs){rf:Nat}(o':Own h rf n e' v' cs')(fC:e≠e'){b:Nat}(hb:aN v b):¬aN v' b:=fun bW=>by
 obtain⟨B,h1,h2⟩:=o.elem hb
 obtain⟨B',h3,h4⟩:=o'.elem bW
 rw[h1]at h3;cases h3
 exact fC (h2.symm.trans h4)
theorem Row.apart{k:IntKind}{xs:List Int}(o:Row h n e k v xs){rf:Nat}(o':Own h rf n e' v' cs')(fC:e≠e'){b:Nat}(hb:aN v b):¬aN v' b:=fun bW=>by
 obtain⟨B,h1,h2⟩:=o.elem hb
 obtain⟨B',h3,h4⟩:=o'.elem bW
 rw[h1]at h3;cases h3
 exact fC (h2.symm.trans h4)
theorem IF{α:Type}(d:α)(l:List α)(x:α)(i:Nat):(l++[x]).getD i d=if i<l.length then l.getD i d else if i=l.length then x else d:=by
 rw[bC,bC]
 split
 ·rename_i h;rw[uk h]
 ·rename_i h
  split
  ·rename_i h2;subst h2;simp
  ·rw[List.getElem?_eq_none (by simp;omega)];rfl
end
section
variable {h h':H} {n n':Nat} {e es ei:TypeId} {v:Value} {cs:List Value} {xss:List (List Int)}
end
section
variable {P:Program} {h:H} {n f:Nat} {t e:TypeId} {v:Value}
end
section
variable {β:Type} {W:Nat->Prop} {n0:Nat} {h:H} {n m:Nat} {Q:β->H->Nat->Prop} {P:Program}
theorem OP{b:Nat}{B:AB}(hg:h.get b=some B)(hb:b<n):∀(c k:Nat),k+c<=B.cells.length->∃L,cU b k c h n=some ⟨(B.cells.drop k).take c,h,n,L⟩∧∀e∈L,e.wr=false∧e.b=b
 |0,k,_=>⟨[],by rw[RD];rfl,by simp⟩
 |c+1,k,hk=>by
  obtain⟨L,e,hL⟩:=OP hg hb c (k+1) (by omega)
  have om:k<B.cells.length:=by omega
  refine⟨[⟨false,b,some k⟩]++(L++[]), ?_, ?_⟩
  ·unfold cU
   have e0:rd b k h n=some ⟨B.cells[k],h,n,[⟨false,b,some k⟩]⟩:=by
    unfold rd
    simp only[hb,hg,if_true,bD om]
   refine bZ e0 (bZ e ?_)
   rw[vI om,arh]
   rfl
  ·intro x hx
   simp only[cu,Ko,List.mem_cons,List.not_mem_nil,or_false]at hx
   rcases hx with rfl|hx
   ·exact⟨rfl,rfl⟩
   ·exact hL x hx
theorem OQ{T T':Prop}(_:T)(_:T'){sz:Nat}(b off:Nat)(k:Value×Tk->M β){B:AB}(hg:h.get b=some B)(hb:b<n)(hl:off+sz<=B.cells.length)(x:∀T,(∀m,b<m->m<=n->RB T m)->ai W n0 (k (.agg ((B.cells.drop off).take sz).toArray,T)) h n Q):
 ai W n0 ((aG (bx sz (.pointer (some ⟨b,off,none⟩)) M.ret)).bind k) h n Q:=by
 obtain⟨L,e1,e2⟩:=OP (n:=n) hg hb sz off hl
 have e:((jv b off sz).bind fun vs=>M.ret (Value.agg ⟨vs⟩)) h n=some ⟨.agg ((B.cells.drop off).take sz).toArray,h,n,L++[]⟩:=by
  rw[pr]
  exact bZ e1 rfl
 have e3:=qz e
 rw[cu]at e3
 have hf:∀y∈L.filter (fun e=> !(decide (n<=e.b)&&decide (e.b<n))),y.wr=false∧y.b=b:=fun y hy=>e2 y (List.mem_filter.1 hy).1
 exact oH e3 (an _) (fun y hy hw=>by rw[(hf y hy).1]at hw;cases hw) (x _ fun m hb hm=>⟨fun y hy=>(hf y hy).1,fun y hy=>by rw[(hf y hy).2];exact hb,hm⟩)
theorem aaq{T:Prop}(_:T)(b off:Nat)(v:Value)(k:Value->M β){e:TypeId}{cs:List Value}(hg:h.get b=some ⟨e,true,cs⟩)(hb:b<n)(ho:off<cs.length)(h1:one v=true)(hw:n0<=b∨W b)(x:ai W n0 (k undef) (h.set b (some ⟨e,true,cs.set off v⟩)) n Q):ai W n0 (aZ (.pointer (some ⟨b,off,none⟩)) v k) h n Q:=
 (BD b off v k hb h1).2 (by rw[hg];exact⟨rfl,ho,hw,x⟩)
theorem akT{e:TypeId}{z:Value}(l:Nat)(k:Value×Tk->M β){kd pC:IntKind}(hm:l<=1099511627776)(x:ai W n0 (k (.slice (some ⟨n,0,none⟩) l l,⟨n,n+1,[]⟩)) (h.set n (some ⟨e,true,cr l z⟩)) (n+1) Q):ai W n0 ((aG (uW e [z] (.int kd l) (.int pC l) M.ret)).bind k) h n Q:=by
 have e1:uW e [z] (.int kd l) (.int pC l) M.ret=eW ((kF e (lD [z] l)).bind fun id=>M.ret (kf (some ⟨id,0,none⟩) l l)) M.ret:=by
  show(match bK l l with
   |true=>match bK l 1099511627776 with
    |true=>eW ((kF e (lD [z] l)).bind fun id=>M.ret (kf (some ⟨id,0,none⟩) l l)) M.ret
    |false=> .fail
   |false=> .fail)=_
  rw[nZ (an l),nZ hm]
 rw[e1,MY]
 exact oH (qz (pD _ _ (fun id=>kf (some ⟨id,0,none⟩) l l) _ _)) (Nat.le_succ n) (by simp) x
end
end Go.Proofs.YtmjolmggelkjlaaGreat.Ev
namespace Go.Proofs.YtmjolmggelkjlaaGreat
open Go
def bn(b:Bool):Nat:=if b then 1 else 0
theorem xh(b:Bool):bn b<2:=by cases b<;>decide
def num:List Bool->Nat->Nat
 |[],a=>a
 |b::l,a=>num l (2*a+bn b)
theorem Ai:∀(l m:List Bool) (a:Nat),num (l++m) a=num m (num l a)
 |[],_,_=>rfl
 |b::l,m,a=>Ai l m _
theorem OR:∀(l:List Bool) (a k:Nat),a<2^k->num l a<2^(k+l.length)
 |[],a,k,h=>h
 |b::l,a,k,h=>by
  have:=xh b
  have:=OR l (2*a+bn b) (k+1) (by rw[pX];omega)
  rw[dp,show k+(l.length+1)=k+1+l.length by omega]
  exact this
theorem jI(l:List Bool):num l 0<2^l.length:=by
 have:=OR l 0 0 (by decide)
 rwa[fB]at this
def b8:Nat->Nat->List Bool
 |_,0=>[]
 |v,n+1=>b8 (v/2) n++[decide (v %2=1)]
theorem iW:∀(n v:Nat),(b8 v n).length=n
 |0,_=>rfl
 |n+1,v=>by simp[b8,iW n]
theorem OS(v:Nat):bn (decide (v %2=1))=v %2:=by
 unfold bn
 by_cases h:v %2=1<;>simp[h]<;>omega
theorem OT:∀(n v:Nat),num (b8 v n) 0=v %2^n
 |0,v=>by simp[b8,num,Nat.mod_one]
 |n+1,v=>by
  show num (b8 (v/2) n++[decide (v %2=1)]) 0=_
  rw[Ai,OT n]
  show 2*(v/2 %2^n)+bn _=_
  rw[OS,pX,Ks (2^n) 2,Nat.mod_mul]
  omega
theorem w8{x:Nat}(h:x<256):IntKind.u8.wrap (x:Int)=(x:Int):=IntWalk.u8_in _ (by omega)
theorem fW{x:Nat}(h:x<4294967296):IntKind.u32.wrap (x:Int)=(x:Int):=IntWalk.u32_in _ (by omega)
theorem fdiv_pow(v k:Nat)(kd:Nat)(h:k<=kd):((v:Int)).fdiv (2^(min ((k:Int)).toNat kd))=((v/2^k:Nat):Int):=by
 have e:min ((k:Int)).toNat kd=k:=by rw[cL];exact kR h
 rw[e]
 have e2:((2:Int)^k)=((2^k:Nat):Int):=by push_cast;rfl
 rw[e2,Int.fdiv_eq_ediv_of_nonneg _ (p9 _)]
 rfl
theorem akU{a:Nat}(ha:a<4294967296):IntKind.u32.wrap ((cC IntKind.u32.bits (a:Int)&&&cC IntKind.u32.bits (1:Int)).toNat:Int)=((a %2:Nat):Int):=by
 have h1:(cC 32 (a:Int)).toNat=a:=by rw[CR,CS];exact me (by omega)
 show IntKind.u32.wrap ((cC 32 (a:Int)&&&cC 32 (1:Int)).toNat:Int)=_
 rw[RC,h1]
 have h2:(cC 32 (1:Int)).toNat=1:=by decide
 rw[h2,arF]
 exact fW (by omega)
end Go.Proofs.YtmjolmggelkjlaaGreat
namespace Go.Proofs.YtmjolmggelkjlaaGreat.Cn
open Go
theorem vg:∀(l:List Bool) (a:Nat),num l a=a*2^l.length+num l 0
 |[],a=>by simp[num]
 |b::l,a=>by
  show num l (2*a+bn b)=_
  have h0:num (b::l) 0=num l (bn b):=by show num l (2*0+bn b)=_;rw[Kt,fB]
  rw[vg l (2*a+bn b),h0,vg l (bn b),dp,pX,pZ,Ks 2 a,RJ,Ks 2]
  omega
theorem Ek(l:List Bool)(b:Bool):num (l++[b]) 0=2*num l 0+bn b:=by rw[Ai];rfl
theorem aar(k:Nat):num (cr k false) 0=0:=by
 induction k with
 |zero=>rfl
 |succ k ih=>rw[List.replicate_succ];exact ih
theorem akV(l:List Bool)(k:Nat):num (l++cr k false) 0=num l 0*2^k:=by
 rw[Ai,vg,aar,kg,kQ]
theorem akW{a b:Bool}(h:bn a=bn b):a=b:=by cases a<;>cases b<;>simp[bn]at h<;>rfl
theorem aas:∀{l m:List Bool},l.length=m.length->num l 0=num m 0->l=m
 |[],[],_,_=>rfl
 |[],_::_,h,_=>by simp at h
 |_::_,[],h,_=>by simp at h
 |a::l,b::m,h,e=>by
  have hl:l.length=m.length:=by simpa using h
  have e:num l (bn a)=num m (bn b):=by
   have h1:num (a::l) 0=num l (bn a):=by show num l (2*0+bn a)=_;rw[Kt,fB]
   have h2:num (b::m) 0=num m (bn b):=by show num m (2*0+bn b)=_;rw[Kt,fB]
   rw[<-h1,<-h2];exact e
  rw[vg l,vg m,hl]at e
  have l1:=jI l
  have l2:=jI m
  rw[hl]at l1
  have ab:bn a=bn b:=by
   have ha:=xh a
   have hb:=xh b
   rcases arG (bn a) (bn b)with q|q|q
   ·have h1:bn a=0:=by omega
    have h2:bn b=1:=by omega
    rw[h1,h2]at e;omega
   ·exact q
   ·have h1:bn b=0:=by omega
    have h2:bn a=1:=by omega
    rw[h1,h2]at e;omega
  rw[ab]at e
  rw[akW ab,aas hl (by omega)]
theorem BX{l:List Bool}{v:Nat}(h:num l 0=v):l=b8 v l.length:=by
 refine aas (iW _ _).symm ?_
 rw[OT,<-h,me (jI l)]
theorem El{n v:Nat}(h:v<2^n):num (b8 v n) 0=v:=by rw[OT,me h]
theorem aat{l:List Bool}{n m:Nat}(h:n<=m)(hm:m<=l.length):num (l.take n) 0*2^(m-n)<=num (l.take m) 0∧num (l.take m) 0<(num (l.take n) 0+1)*2^(m-n):=by
 have e:l.take m=l.take n++(l.drop n).take (m-n):=by
  rw[<-List.take_append_drop n (l.take m),arH,kR h,List.drop_take]
 have hl:((l.drop n).take (m-n)).length=m-n:=by simp;omega
 have h3:=jI ((l.drop n).take (m-n))
 rw[hl]at h3
 rw[e,Ai,vg ((l.drop n).take (m-n)) (num (l.take n) 0),hl]
 constructor
 ·omega
 ·rw[pZ];omega
def cn(ln:List Nat)(n:Nat):Nat:=ln.countP fun x=>x==n
def fX(ln:List Nat)(n i:Nat):Nat:=cn (ln.take i) n
theorem xi{ln:List Nat}{i:Nat}(h:i<ln.length)(n:Nat):fX ln n (i+1)=fX ln n i+(if ln.getD i 0=n then 1 else 0):=by
 unfold fX cn
 rw[qa h,List.countP_append,bC,bD h]
 simp only[adl,List.countP_nil,Option.getD_some,beq_iff_eq,fB]
theorem Aj(ln:List Nat)(n:Nat):fX ln n ln.length=cn ln n:=by unfold fX;rw[mh]
theorem aau{ln:List Nat}{n i j:Nat}(h:i<=j):fX ln n i<=fX ln n j:=by
 unfold fX cn
 have:ln.take i=(ln.take j).take i:=by rw[arH,kR h]
 rw[this]
 exact arI (arJ _ _)
theorem OU(ln:List Nat)(n i:Nat):fX ln n i<=cn ln n:=by
 unfold fX cn
 exact arI (arJ _ _)
theorem IG{ln:List Nat}{i:Nat}(h:i<ln.length):fX ln (ln.getD i 0) i<cn ln (ln.getD i 0):=by
 have h1:=xi h (ln.getD i 0)
 rw[if_pos rfl]at h1
 have:=OU ln (ln.getD i 0) (i+1)
 omega
def cB(ln:List Nat):Nat->Nat
 |0=>0
 |n+1=>2*(cB ln n+cn ln n)
def bw(ln:List Nat):Nat->Nat
 |0=>0
 |n+1=>bw ln n+cn ln n
def dV(ln:List Nat)(i:Nat):Nat:=cB ln (ln.getD i 0)+fX ln (ln.getD i 0) i
def jY(ln:List Nat):Nat->Nat
 |0=>0
 |n+1=>jY ln n+cn ln n*2^(20-n)
theorem OV(ln:List Nat):∀{n:Nat},n<=20->cB ln n*2^(20-n)=jY ln n
 |0,_=>by simp[cB,jY]
 |n+1,h=>by
  have ih:=OV ln (n:=n) (by omega)
  have e:20-n=20-(n+1)+1:=by omega
  unfold cB jY
  rw[<-ih,e,pX]
  simp only[Ks 2,pZ,RJ]
theorem aav(ln:List Nat):∀{n m:Nat},n<=m->jY ln n<=jY ln m
 |n,0,h=>by have:n=0:=by omega
            subst this;exact an _
 |n,m+1,h=>by
  by_cases e:n=m+1
  ·subst e;exact an _
  ·have:=aav ln (n:=n) (m:=m) (by omega)
   show jY ln n<=jY ln m+cn ln m*2^(20-m)
   omega
structure Wh (ln:List Nat):Prop where
 lo:∀x∈ln,1<=x∧x<=20
 kr:jY ln 21=1048576
section
variable {ln:List Nat} (w:Wh ln)
include w
theorem Wh.at{i:Nat}(h:i<ln.length):1<=ln.getD i 0∧ln.getD i 0<=20:=by
 rw[bC,bD h]
 exact w.lo _ (eu h)
theorem Wh.cap{n:Nat}(h:n<=20):cB ln n+cn ln n<=2^n:=by
 have h1:=OV ln h
 have h2:=aav ln (show n+1<=21 by omega)
 rw[w.kr]at h2
 have h3:jY ln (n+1)=jY ln n+cn ln n*2^(20-n):=rfl
 rw[h3,<-h1,<-pZ]at h2
 have h4:2^n*2^(20-n)=1048576:=by rw[<-arK,show n+(20-n)=20 by omega]
 rw[<-h4]at h2
 exact Nat.le_of_mul_le_mul_right h2 (Nat.two_pow_pos _)
theorem Wh.full:cB ln 20+cn ln 20=1048576:=by
 have h1:=OV ln (an 20)
 have h3:jY ln 21=jY ln 20+cn ln 20*2^(20-20):=rfl
 rw[w.kr,<-h1]at h3
 simpa using h3.symm
theorem Wh.OW{i:Nat}(h:i<ln.length):dV ln i<2^ln.getD i 0:=by
 have h1:=w.cap (w.at h).2
 have h2:=IG h
 unfold dV
 omega
end
theorem OX(ln:List Nat){n:Nat}:∀{m:Nat},n<m->(cB ln n+cn ln n)*2^(m-n)<=cB ln m
 |0,h=>absurd h (mJ n)
 |m+1,h=>by
  by_cases e:n=m
  ·subst e
   rw[show n+1-n=1 by omega,RK]
   show _<=2*(cB ln n+cn ln n)
   omega
  ·have ih:=OX ln (n:=n) (m:=m) (by omega)
   rw[show m+1-n=m-n+1 by omega,pX,<-RJ]
   show _<=2*(cB ln m+cn ln m)
   omega
def Mt(ln:List Nat)(bs:List Bool)(i:Nat):Prop:=i<ln.length∧ln.getD i 0<=bs.length∧num (bs.take (ln.getD i 0)) 0=dV ln i
theorem aaw{ln:List Nat}{i j:Nat}(hi:i<ln.length)(hj:j<ln.length)(hl:ln.getD i 0=ln.getD j 0)(hr:fX ln (ln.getD i 0) i=fX ln (ln.getD i 0) j):i=j:=by
 rcases arG i j with q|q|q
 ·have h1:=xi hi (ln.getD i 0)
  rw[if_pos rfl]at h1
  have:=aau (ln:=ln) (n:=ln.getD i 0) (show i+1<=j by omega)
  omega
 ·exact q
 ·have h1:=xi hj (ln.getD i 0)
  rw[if_pos hl.symm]at h1
  have:=aau (ln:=ln) (n:=ln.getD i 0) (show j+1<=i by omega)
  omega
theorem Mt.aax{ln:List Nat}{bs:List Bool}{i j:Nat}(a:Mt ln bs i)(b:Mt ln bs j):¬ln.getD i 0<ln.getD j 0:=by
 intro h
 obtain⟨hi,_,ei⟩:=a
 obtain⟨hj,lj,ej⟩:=b
 have h1:=(aat (Nat.le_of_lt h) lj).2
 have h2:=IG hi
 have h3:=OX ln h
 rw[ei,ej]at h1
 have h4:(dV ln i+1)*2^(ln.getD j 0-ln.getD i 0)<=(cB ln (ln.getD i 0)+cn ln (ln.getD i 0))*2^(ln.getD j 0-ln.getD i 0):=xY _ (by unfold dV;omega)
 have h5:cB ln (ln.getD j 0)<=dV ln j:=by unfold dV;omega
 omega
theorem Mt.uniq{ln:List Nat}{bs:List Bool}{i j:Nat}(a:Mt ln bs i)(b:Mt ln bs j):i=j:=by
 have h1:=a.aax b
 have h2:=b.aax a
 have hl:ln.getD i 0=ln.getD j 0:=by omega
 refine aaw a.1 b.1 hl ?_
 have e1:=a.2.2
 have e2:=b.2.2
 unfold dV at e1 e2
 rw[<-hl]at e2
 omega
def iX(ln:List Nat)(bs:List Bool):Option Nat:=(iL ln.length).find? fun i=>decide (ln.getD i 0<=bs.length)&&decide (num (bs.take (ln.getD i 0)) 0=dV ln i)
theorem aay{ln:List Nat}{bs:List Bool}{i:Nat}(m:Mt ln bs i):iX ln bs=some i:=by
 unfold iX
 cases h:(iL ln.length).find? fun i=>decide (ln.getD i 0<=bs.length)&&decide (num (bs.take (ln.getD i 0)) 0=dV ln i)with
 |none=>
  have:=List.find?_eq_none.1 h i (List.mem_range.2 m.1)
  simp only[m.2.1,m.2.2,decide_true,fR,not_true_eq_false]at this
 |some j=>
  have h1:=arM h
  have h2:=arN h
  simp only[cj,decide_eq_true_eq]at h1
  rw[m.uniq ⟨List.mem_range.1 h2,h1⟩]
theorem vh{ln:List Nat}{bs:List Bool}{i:Nat}(h:iX ln bs=some i):Mt ln bs i:=by
 unfold iX at h
 have h1:=arM h
 have h2:=arN h
 simp only[cj,decide_eq_true_eq]at h1
 exact⟨List.mem_range.1 h2,h1⟩
theorem aaz{ln:List Nat}{bs:List Bool}(h:∀i,¬Mt ln bs i):iX ln bs=none:=by
 cases e:iX ln bs with
 |none=>rfl
 |some i=>exact absurd (vh e) (h i)
def rQ(ln:List Nat)(bs:List Bool)(n:Nat):Prop:=cB ln n+cn ln n<=num (bs.take n) 0
theorem rQ.no{ln:List Nat}{bs:List Bool}{n:Nat}(p:rQ ln bs n)(hn:n<=bs.length){i:Nat}(hi:ln.getD i 0<=n):¬Mt ln bs i:=by
 rintro⟨h1,h2,h3⟩
 have h4:=(aat hi hn).2
 rw[h3]at h4
 have h5:=IG h1
 have h6:dV ln i+1<=cB ln (ln.getD i 0)+cn ln (ln.getD i 0):=by unfold dV;omega
 by_cases e:ln.getD i 0=n
 ·unfold rQ at p
  rw[e,uq,adm,AU]at h4
  rw[e]at h6
  omega
 ·have h7:=OX ln (show ln.getD i 0<n by omega)
  have h8:(dV ln i+1)*2^(n-ln.getD i 0)<=(cB ln (ln.getD i 0)+cn ln (ln.getD i 0))*2^(n-ln.getD i 0):=xY _ h6
  unfold rQ at p
  omega
theorem rQ.next{ln:List Nat}{bs:List Bool}{n:Nat}(p:rQ ln bs n)(hn:n<bs.length):cB ln (n+1)<=num (bs.take (n+1)) 0:=by
 have e:bs.take (n+1)=bs.take n++[bs[n]]:=qa hn
 rw[e,Ek]
 unfold rQ at p
 show 2*(cB ln n+cn ln n)<=_
 omega
def hC(ln:List Nat)(n i:Nat):List Nat:=(iL i).filter fun s=>ln.getD s 0==n
theorem Em(ln:List Nat)(n i:Nat):hC ln n (i+1)=hC ln n i++(if ln.getD i 0=n then [i]else []):=by
 unfold hC
 rw[List.range_succ,List.filter_append]
 congr 1
 by_cases h:ln.getD i 0=n
 ·rw[if_pos h,arj,if_pos (by rw[h];simp)];rfl
 ·rw[if_neg h,arj,if_neg (by simpa using h)];rfl
theorem BZ{ln:List Nat}(n:Nat):∀{i:Nat},i<=ln.length->(hC ln n i).length=fX ln n i
 |0,_=>by simp[hC,fX,cn]
 |i+1,h=>by
  rw[Em,bX,BZ n (i:=i) (by omega),xi (by omega)]
  split<;>rfl
theorem aaA{ln:List Nat}{n:Nat}:∀{i r s:Nat},i<=ln.length->(hC ln n i)[r]? =some s->s<i∧ln.getD s 0=n∧fX ln n s=r
 |0,r,s,_,h=>by simp[hC]at h
 |i+1,r,s,hi,h=>by
  rw[Em]at h
  by_cases q:r<(hC ln n i).length
  ·rw[uk q]at h
   obtain⟨a,b,c⟩:=aaA (i:=i) (by omega) h
   exact⟨by omega,b,c⟩
  ·rw[qR (by omega)]at h
   have hl:=BZ (ln:=ln) n (i:=i) (by omega)
   split at h
   ·rename_i e
    have hr:r-(hC ln n i).length=0:=by
     cases q2:r-(hC ln n i).length with
     |zero=>rfl
     |succ k=>rw[q2]at h;simp at h
    rw[hr]at h
    simp at h
    subst h
    exact⟨by omega,e,by omega⟩
   ·simp at h
def iu(ln:List Nat):Nat->List Nat
 |0=>[]
 |n+1=>iu ln n++hC ln n ln.length
theorem oI(ln:List Nat):∀n,(iu ln n).length=bw ln n
 |0=>rfl
 |n+1=>by
  unfold iu bw
  rw[bX,oI ln n,BZ n (an _),Aj]
theorem IH{ln:List Nat}{n r:Nat}(hr:r<cn ln n):∀{m:Nat},n<m->∃s,(iu ln m)[bw ln n+r]? =some s∧s<ln.length∧ln.getD s 0=n∧fX ln n s=r
 |0,h=>absurd h (mJ n)
 |m+1,h=>by
  unfold iu
  by_cases e:n=m
  ·subst e
   have hl:=BZ (ln:=ln) n (an _)
   rw[Aj]at hl
   have:((iu ln n++hC ln n ln.length)[bw ln n+r]?)=some ((hC ln n ln.length)[r]'(by omega)):=by
    rw[qR (by rw[oI];omega),oI,show bw ln n+r-bw ln n=r by omega,bD]
   obtain⟨a,b,c⟩:=aaA (ln:=ln) (n:=n) (i:=ln.length) (r:=r) (s:=(hC ln n ln.length)[r]'(by omega)) (an _) (bD _)
   exact⟨_,this,a,b,c⟩
  ·obtain⟨s,h1,h2⟩:=IH hr (m:=m) (by omega)
   refine⟨s, ?_,h2⟩
   rw[uk ((List.getElem?_eq_some_iff.1 h1).1)]
   exact h1
theorem aaB{ln:List Nat}:∀{n m:Nat},n<=m->bw ln n<=bw ln m
 |n,0,h=>by have:n=0:=by omega
            subst this;exact an _
 |n,m+1,h=>by
  by_cases e:n=m+1
  ·subst e;exact an _
  ·have:=aaB (ln:=ln) (n:=n) (m:=m) (by omega)
   show bw ln n<=bw ln m+cn ln m
   omega
theorem tB{ln:List Nat}{bs:List Bool}{n:Nat}(hn:n<=bs.length)(h1:cB ln n<=num (bs.take n) 0)(h2:num (bs.take n) 0<cB ln n+cn ln n):∃s,(iu ln 21)[bw ln n+(num (bs.take n) 0-cB ln n)]? =some s∧(n<=20->Mt ln bs s∧ln.getD s 0=n)∨20<n:=by
 by_cases OY:20<n
 ·exact⟨0,.inr OY⟩
 ·obtain⟨s,a,b,c,d⟩:=IH (ln:=ln) (n:=n) (r:=num (bs.take n) 0-cB ln n) (by omega) (m:=21) (by omega)
  refine⟨s,.inl ⟨a,fun _=>⟨⟨b,by omega, ?_⟩,c⟩⟩⟩
  unfold dV
  rw[c,d]
  omega
def iF(ln:List Nat)(n i:Nat):Nat:=cB ln n+fX ln n i
theorem aaC(ln:List Nat)(n:Nat):iF ln (n+1) 0=2*iF ln n ln.length:=by
 unfold iF
 rw[Aj]
 show 2*(cB ln n+cn ln n)+fX ln (n+1) 0=_
 simp[fX,cn]
theorem IJ{ln:List Nat}{n i:Nat}(h:i<ln.length):iF ln n (i+1)=iF ln n i+(if ln.getD i 0=n then 1 else 0):=by
 unfold iF
 rw[xi h]
 omega
theorem IK{ln:List Nat}{n i:Nat}(h:ln.getD i 0=n):iF ln n i=dV ln i:=by unfold iF dV;rw[h]
def jJ:List Bool->List Bool×Bool
 |[]=>([],true)
 |b::l=>((xor b (jJ l).2)::(jJ l).1,b&&(jJ l).2)
theorem B4:∀l:List Bool,(jJ l).1.length=l.length
 |[]=>rfl
 |b::l=>by simp[jJ,B4 l]
theorem aaD:∀l:List Bool,num (jJ l).1 0+bn (jJ l).2*2^l.length=num l 0+1
 |[]=>rfl
 |b::l=>by
  have ih:=aaD l
  have h1:∀(c:Bool) (m:List Bool),num (c::m) 0=bn c*2^m.length+num m 0:=fun c m=>by
   show num m (2*0+bn c)=_
   rw[Kt,fB,vg]
  simp only[jJ,h1,B4,dp,pX]
  cases b<;>cases hc:(jJ l).2<;>simp[bn,hc]at ih⊢<;>omega
theorem akX{c m:Nat}(h:c+1<2^m):(jJ (b8 c m)).1=b8 (c+1) m:=by
 have h1:=aaD (b8 c m)
 rw[El (by omega),iW]at h1
 have h2:num (jJ (b8 c m)).1 0=c+1:=by
  cases hc:(jJ (b8 c m)).2 with
  |false=>rw[hc]at h1;simpa[bn]using h1
  |true=>rw[hc]at h1;simp[bn]at h1;omega
 have:=BX h2
 rw[B4,iW]at this
 exact this
theorem akY{v m k:Nat}(h:v<2^m):b8 v m++cr k false=b8 (v*2^k) (m+k):=by
 have:=BX (l:=b8 v m++cr k false) (v:=v*2^k) (by rw[akV,El h])
 rw[bX,iW,kg]at this
 exact this
def nJ(ln:List Nat)(n i:Nat)(code:List Bool):Prop:=(code=[]∧iF ln n i=0)∨∃c m,1<=m∧m<=n∧code=b8 c m∧c<2^m∧(c+1)*2^(n-m)=iF ln n i
theorem nJ.skip{ln:List Nat}{n i:Nat}{code:List Bool}(h:nJ ln n i code)(hi:i<ln.length)(hn:ln.getD i 0≠n):nJ ln n (i+1) code:=by
 have e:iF ln n (i+1)=iF ln n i:=by rw[IJ hi,if_neg hn,kQ]
 unfold nJ
 rw[e]
 exact h
theorem nJ.row{ln:List Nat}{n:Nat}{code:List Bool}(h:nJ ln n ln.length code):nJ ln (n+1) 0 code:=by
 rcases h with ⟨a,b⟩|⟨c,m,h1,h2,h3,h4,h5⟩
 ·exact .inl ⟨a,by rw[aaC,b]⟩
 ·refine .inr ⟨c,m,h1,by omega,h3,h4, ?_⟩
  rw[aaC,<-h5,show n+1-m=n-m+1 by omega,pX]
  rw[<-RJ,Ks 2]
theorem nJ.tB{ln:List Nat}(w:Wh ln){n i:Nat}{code:List Bool}(h:nJ ln n i code)(hi:i<ln.length)(hn:ln.getD i 0=n):(if code=[]then cr n false else(jJ code).1++cr (n-code.length) false)=b8 (dV ln i) n∧nJ ln n (i+1) (b8 (dV ln i) n):=by
 have hc:=w.OW hi
 have ha:=w.at hi
 rw[hn]at hc ha
 have e:iF ln n (i+1)=dV ln i+1:=by rw[IJ hi,if_pos hn,IK hn]
 refine⟨?_,.inr ⟨dV ln i,n,ha.1,an n,rfl,hc,by rw[e,uq,adm,AU]⟩⟩
 rcases h with ⟨a,b⟩|⟨c,m,h1,h2,h3,h4,h5⟩
 ·rw[if_pos a]
  rw[IK hn]at b
  have:=BX (aar n)
  rw[kg]at this
  rw[b];exact this
 ·rw[IK hn]at h5
  have fC:code≠[]:=by
   intro q
   have:=congrArg List.length (q.symm.trans h3)
   rw[iW]at this
   simp at this;omega
  have bM:c+1<2^m:=by
   have h6:2^m*2^(n-m)=2^n:=by rw[<-arK,show m+(n-m)=n by omega]
   rw[<-h5,<-h6]at hc
   exact Nat.lt_of_mul_lt_mul_right hc
  rw[if_neg fC,h3,akX bM,iW,akY bM,h5,show m+(n-m)=n by omega]
theorem IL{ln:List Nat}(w:Wh ln):cn ln 0=0:=by
 unfold cn
 rw[List.countP_eq_zero]
 intro x hx
 have:=(w.lo x hx).1
 simp;omega
theorem akZ{ln:List Nat}(w:Wh ln):cB ln 1=0:=by
 show 2*(0+cn ln 0)=0
 rw[IL w]
theorem ak0{ln:List Nat}(w:Wh ln):bw ln 1=0:=by
 show 0+cn ln 0=0
 rw[IL w]
theorem nJ.zero{ln:List Nat}(w:Wh ln):nJ ln 1 0 []:= .inl ⟨rfl,by
 unfold iF
 rw[akZ w]
 simp[fX,cn]⟩
def dm(s:List UInt8):List Bool:=s.flatMap fun b=>b8 b.toNat 8
theorem Ak:∀s:List UInt8,(dm s).length=8*s.length
 |[]=>rfl
 |b::s=>by
  show(b8 b.toNat 8++dm s).length=_
  rw[bX,iW,Ak s,dp]
  omega
theorem ak1(a b:List UInt8):dm (a++b)=dm a++dm b:=by unfold dm;rw[List.flatMap_append]
theorem Dd:∀(n v r:Nat) (h:r<n),(b8 v n)[r]? =some (decide (v/2^(n-1-r)%2=1))
 |0,_,_,h=>absurd h (mJ _)
 |n+1,v,r,h=>by
  show(b8 (v/2) n++[decide (v %2=1)])[r]? =_
  by_cases e:r<n
  ·rw[uk (by rw[iW];exact e),Dd n (v/2) r e,Nat.div_div_eq_div_mul,<-Nat.pow_succ',show(n-1-r).succ=n+1-1-r by omega]
  ·have:r=n:=by omega
   subst this
   rw[qR (by rw[iW];exact an _),iW,uq,show r+1-1-r=0 by omega,adm,Nat.div_one]
   rfl
theorem aaE:∀(s:List UInt8) (q r:Nat) (hq:q<s.length) (hr:r<8),(dm s)[8*q+r]? =some (decide (s[q].toNat/2^(7-r)%2=1))
 |[],q,r,hq,_=>by simp at hq
 |b::s,0,r,_,hr=>by
  show(b8 b.toNat 8++dm s)[8*0+r]? =_
  rw[uk (by rw[iW];omega),Kt,fB,Dd 8 _ r hr]
  rfl
 |b::s,q+1,r,hq,hr=>by
  have ih:=aaE s q r (by simpa using hq) hr
  show(b8 b.toNat 8++dm s)[8*(q+1)+r]? =_
  rw[qR (by rw[iW];omega),iW,show 8*(q+1)+r-8=8*q+r by omega,ih]
  rfl
def ax(S:List UInt8)(D A:Nat):List Bool:=(dm S).drop (A-8*D)
theorem eX(S:List UInt8)(D A:Nat):(ax S D A).length=8*S.length-(A-8*D):=by unfold ax;rw[List.length_drop,Ak]
theorem rR{S:List UInt8}{D A k:Nat}(h:8*D<=A):(ax S D A).drop k=ax S D (A+k):=by
 unfold ax
 rw[List.drop_drop]
 congr 1
 omega
theorem take_one{l:List Bool}{k:Nat}{b:Bool}(h:(l.drop k)[0]? =some b):l.take (k+1)=l.take k++[b]:=by
 rw[Rr,kQ]at h
 obtain⟨hk,e⟩:=List.getElem?_eq_some_iff.1 h
 rw[qa hk,e]
theorem ak2{a:Nat}(ha:a<256):IntKind.u8.wrap ((cC IntKind.u8.bits (a:Int)&&&cC IntKind.u8.bits (1:Int)).toNat:Int)=((a %2:Nat):Int):=by
 have h1:(cC 8 (a:Int)).toNat=a:=by rw[CR,CS];exact me (by omega)
 show IntKind.u8.wrap ((cC 8 (a:Int)&&&cC 8 (1:Int)).toNat:Int)=_
 rw[RC,h1]
 have h2:(cC 8 (1:Int)).toNat=1:=by decide
 rw[h2,arF]
 exact w8 (by omega)
theorem ak3{a:Nat}(b:Bool)(ha:2*a+1<4294967296):IntKind.u32.wrap ((cC IntKind.u32.bits ((2*a:Nat):Int)|||cC IntKind.u32.bits (bn b:Int)).toNat:Int)=((2*a+bn b:Nat):Int):=by
 have hb:=xh b
 have h1:(cC 32 ((2*a:Nat):Int)).toNat=2*a:=by rw[CR,CS];exact me (by omega)
 have h2:(cC 32 (bn b:Int)).toNat=bn b:=by rw[CR,CS];exact me (by omega)
 show IntKind.u32.wrap ((cC 32 ((2*a:Nat):Int)|||cC 32 (bn b:Int)).toNat:Int)=_
 rw[BitVec.toNat_or,h1,h2]
 have h3:2*a|||bn b=2*a+bn b:=by
  have:=Nat.two_pow_add_eq_or_of_lt (i:=1) (b:=bn b) (by omega) a
  rw[RK]at this
  exact this.symm
 rw[h3]
 exact fW (by omega)
theorem B5{a:Nat}(ha:2*a<4294967296):IntKind.u32.wrap ((a:Int)*2^(min ((1:Int)).toNat (lO).bits))=((2*a:Nat):Int):=by
 have e:min ((1:Int)).toNat (lO).bits=1:=by decide
 rw[e]
 have:(a:Int)*2^1=((2*a:Nat):Int):=by omega
 rw[this]
 exact fW ha
end Go.Proofs.YtmjolmggelkjlaaGreat.Cn
namespace Go.Proofs.YtmjolmggelkjlaaGreat
open Go.RowKit Ev Cn
def tC(S:List UInt8)(D A:Nat):AB:=⟨152,true,[.string ⟨S.toArray⟩,.int .i64 (D:Int),.int .i64 (A:Int)]⟩
structure bf (h:H) (n p:Nat) (S:List UInt8) (D A:Nat):Prop where
 get:h.get p=some (tC S D A)
 lt:p<n
 lo:8*D<=A
 hi:A<=8*(D+S.length)
 sm:D+S.length<=1000000000000
theorem bf.aB{h h':H}{n n' p:Nat}{S:List UInt8}{D A:Nat}(x:bf h n p S D A)(hn:n<=n')(hk:h'.get p=h.get p):bf h' n' p S D A:=⟨hk.trans x.get,mb x.lt hn,x.lo,x.hi,x.sm⟩
theorem bf.len{h:H}{n p:Nat}{S:List UInt8}{D A:Nat}(x:bf h n p S D A):(ax S D A).length=8*(D+S.length)-A:=by
 rw[eX]
 have:=x.lo
 have:=x.hi
 omega
section
variable {lf d n p:Nat} {h:H} {S:List UInt8} {D A:Nat}
theorem ak4(hs:S.length<=1000000000000):ai (fun _=>False) n (au ah gt lf (d+1) 59 #[.string ⟨S.toArray⟩]) h n fun v h' n'=>v= .pointer (some ⟨n,0,none⟩)∧n'=n+1∧bf h' n' n S 0 0:=by
 rw[aL (fun _=>Wj) rfl]
 refine ai.aH ?_
 unfold Ns
 try simp(disch:=first|omega|assumption) only[af,aa,RZ,gm,gu,gy,gz,gB,gC,gD,gE,gF,gG]
 refine jH trivial _ _ ?_
 try simp(disch:=first|omega|assumption) only[af,aa,RZ,gm,gu,gy,gz,gB,gC,gD,gE,gF,gG]
 exact⟨get_eq _ _ _,by omega,by omega,by omega,by omega⟩
theorem aaF(x:bf h n p S D A):ai (fun _=>False) n (au ah gt lf (d+1) 122 #[.pointer (some ⟨p,0,none⟩)]) h n fun v h' n'=>v= .int .i64 ((8*(D+S.length):Nat):Int)∧h'=h∧n'=n:=by
 have g:=x.get
 have hp:=x.lt
 have hm:=x.sm
 unfold tC at g
 rw[aL (fun _=>Xg) rfl]
 refine ai.aH ?_
 unfold NN
 have w1:IntKind.i64.wrap ((D:Int)+(S.length:Int))=((D+S.length:Nat):Int):=by rw[aJ (by omega) (by omega)];omega
 have w2:IntKind.i64.wrap (8*((D+S.length:Nat):Int))=((8*(D+S.length):Nat):Int):=by rw[aJ (by omega) (by omega)];omega
 try simp(disch:=first|omega|assumption) only[af,aa,RZ,gm,gu,gy,gz,gB,gC,gD,gE,gF,gG,g,w1,w2]
theorem xj(x:bf h n p S D A):ai (fun _=>False) n (au ah gt lf (d+1) 126 #[.pointer (some ⟨p,0,none⟩)]) h n fun v h' n'=>v= .int .i64 (A:Int)∧h'=h∧n'=n:=by
 have g:=x.get
 have hp:=x.lt
 unfold tC at g
 rw[aL (fun _=>Xk) rfl]
 refine ai.aH ?_
 unfold NQ
 try simp(disch:=first|omega|assumption) only[af,aa,RZ,gm,gu,gy,gz,gB,gC,gD,gE,gF,gG,g]
theorem IM(x:bf h n p S D A):ai (fun _=>False) n (au ah gt lf (d+2) 98 #[.pointer (some ⟨p,0,none⟩)]) h n fun v h' n'=>v= .int .i64 (((ax S D A).length:Nat):Int)∧h'=h∧n'=n:=by
 have g:=x.get
 have hp:=x.lt
 have hm:=x.sm
 have hl:=x.len
 have hi:=x.hi
 unfold tC at g
 rw[aL (fun _=>WQ) rfl]
 refine ai.aH ?_
 unfold NG
 have w1:IntKind.i64.wrap (((8*(D+S.length):Nat):Int)-(A:Int))=(((ax S D A).length:Nat):Int):=by rw[aJ (by omega) (by omega)];omega
 have c2:∀a b c:Value,[a,b,c][2]? =some c:=fun _ _ _=>rfl
 try simp(disch:=first|omega|assumption) only[af,aa,RZ,gm,gu,gy,gz,gB,gC,gD,gE,gF,gG]
 refine xf aK (aaF x) (an _) fun T1 t1=> ?_
 try simp(disch:=first|omega|assumption) only[af,aa,RZ,gm,gu,gy,gz,gB,gC,gD,gE,gF,gG]
 refine xe trivial _ _ _ g hp (c2 _ _ _) fun T2 t2=> ?_
 try simp(disch:=first|omega|assumption) only[af,aa,RZ,gm,gu,gy,gz,gB,gC,gD,gE,gF,gG,w1,t1.cA t2,cP,fR,eh]
theorem IP(x:bf h n p S D A)(B:Nat)(h1:8*D<=B)(h2:B<=8*(D+S.length)):ai (fun c=>c=p) n (au ah gt lf (d+2) 246 #[.pointer (some ⟨p,0,none⟩),.int .i64 (B:Int)]) h n fun v h' n'=>v= .int .i64 0∧n'=n∧bf h' n p S D B:=by
 have g:=x.get
 have hp:=x.lt
 have hm:=x.sm
 unfold tC at g
 rw[aL (fun _=>Zk) rfl]
 refine ai.aH ?_
 unfold Oy
 have w1:IntKind.i64.wrap (8*(D:Int))=((8*D:Nat):Int):=by rw[aJ (by omega) (by omega)];omega
 have e1:¬((B:Int)<((8*D:Nat):Int)):=by omega
 have e2:¬(((8*(D+S.length):Nat):Int)<(B:Int)):=by omega
 try simp(disch:=first|omega|assumption) only[af,aa,RZ,gm,gu,gy,gz,gB,gC,gD,gE,gF,gG,g,w1,e1]
 refine bL (aaF x) (an _) (fun _ _ h=>h.elim) ?_
 try simp(disch:=first|omega|assumption) only[af,aa,RZ,gm,gu,gy,gz,gB,gC,gD,gE,gF,gG,e2,g]
 exact⟨get_eq _ _ _,hp,h1,h2,hm⟩
theorem ak5(x:bf h n p S D A)(hA:A<8*(D+S.length)):∃b,(ax S D A)[0]? =some b∧ai (fun _=>False) n (au ah gt lf (d+1) 215 #[.pointer (some ⟨p,0,none⟩),.int .i64 (A:Int)]) h n fun v h' n'=>v= .int .u32 (bn b:Int)∧h'=h∧n'=n:=by
 have g:=x.get
 have hp:=x.lt
 have hm:=x.sm
 have lo:=x.lo
 unfold tC at g
 have hq:A/8-D<S.length:=by omega
 have hr:A %8<8:=Nat.mod_lt _ (by decide)
 refine⟨decide (S[A/8-D].toNat/2^(7-A %8)%2=1), ?_, ?_⟩
 ·have:=aaE S (A/8-D) (A %8) hq hr
  unfold ax
  rw[Rr,kQ,show A-8*D=8*(A/8-D)+A %8 by omega]
  exact this
 rw[aL (fun _=>YY) rfl]
 refine ai.aH ?_
 unfold Ot
 have w1:((A:Int)).tdiv 8=((A/8:Nat):Int):=rfl
 have w2:IntKind.i64.wrap ((A/8:Nat):Int)=((A/8:Nat):Int):=aJ (by omega) (by omega)
 have w3:IntKind.i64.wrap (((A/8:Nat):Int)-(D:Int))=((A/8-D:Nat):Int):=by rw[aJ (by omega) (by omega)];omega
 have w4:((A:Int)).tmod 8=((A %8:Nat):Int):=rfl
 have w5:IntKind.i64.wrap (7-((A %8:Nat):Int))=((7-A %8:Nat):Int):=by rw[aJ (by omega) (by omega)];omega
 have w6:(0:Int)<=((7-A %8:Nat):Int):=by omega
 have sb:S.getD (A/8-D) 0=S[A/8-D]:=by rw[bC,bD hq];rfl
 have ak6:S[A/8-D].toNat<256:=S[A/8-D].toNat_lt
 have w7:=fdiv_pow S[A/8-D].toNat (7-A %8) (IntKind.u8).bits (by simp[IntKind.bits];omega)
 rw[cL]at w7
 have rS:=ak2 (a:=S[A/8-D].toNat/2^(7-A %8)) (Nat.lt_of_le_of_lt (Nat.div_le_self _ _) ak6)
 have w9:IntKind.u32.wrap ((S[A/8-D].toNat/2^(7-A %8)%2:Nat):Int)=(bn (decide (S[A/8-D].toNat/2^(7-A %8)%2=1)):Int):=by rw[OS];exact fW (by omega)
 have i1:(0:Int)<=((A/8-D:Nat):Int):=by omega
 have i2:((A/8-D:Nat):Int)<(S.length:Int):=by omega
 have i0:(0:Int)<=((S[A/8-D].toNat/2^(7-A %8):Nat):Int):=p9 _
 try simp(disch:=first|omega|assumption) only[af,aa,RZ,gm,gu,gy,gz,gB,gC,gD,gE,gF,gG,g,w1,w2,w3,w4,w5,w6,i1,i2,sb,w7,rS,w9]
theorem nK(x:bf h n p S D A)(k:Nat)(hk:k<=32)(aC:40<=lf):ai (fun c=>c=p) n (au ah gt lf (d+3) 188 #[.pointer (some ⟨p,0,none⟩),.int .i64 (k:Int)]) h n fun v h' n'=>n'=n∧
 (((ax S D A).length<k∧v= .tuple #[.int .u32 0,.int .i64 3]∧h'=h)∨(k<=(ax S D A).length∧v= .tuple #[.int .u32 (num ((ax S D A).take k) 0:Int),.int .i64 0]∧bf h' n p S D (A+k))):=by
 have g:=x.get
 have hp:=x.lt
 have hm:=x.sm
 have hl:=x.len
 have hi:=x.hi
 have lo:=x.lo
 rw[aL (fun _=>Yv) rfl]
 refine ai.aH ?_
 unfold Ic
 have e1:¬((k:Int)<0):=by omega
 have e2:¬((32:Int)<(k:Int)):=by omega
 try simp(disch:=first|omega|assumption) only[af,aa,RZ,gm,gu,gy,gz,gB,gC,gD,gE,gF,gG,e1,e2]
 refine bL (IM x) (an _) (fun _ _ h=>h.elim) ?_
 by_cases short:(ax S D A).length<k
 ·have e3:(((ax S D A).length:Nat):Int)<(k:Int):=by omega
  try simp(disch:=first|omega|assumption) only[af,aa,RZ,gm,gu,gy,gz,gB,gC,gD,gE,gF,gG,e3]
  first|exact .inl short|exact .inl ⟨short,rfl,rfl⟩
 have e3:¬(((ax S D A).length:Nat):Int)<(k:Int):=by omega
 try simp(disch:=first|omega|assumption) only[af,aa,RZ,gm,gu,gy,gz,gB,gC,gD,gE,gF,gG,e3]
 refine eD k (fun fu i (q:Nat)=>zT lf (au ah gt lf (d+2)) fu (Ib lf (au ah gt lf (d+2))) (.pointer (some ⟨p,0,none⟩)) (.int .i64 (k:Int)) (.int .u32 0) (.int .i64 0) (.int .u32 (q:Int)) (.bool false) (.bool false) (.bool false) (.int .i64 (k:Int)) (.int .i64 (i:Int)))
  (fun i q h' n'=>n'=n∧q=num ((ax S D A).take i) 0∧bf h' n p S D (A+i)) ?_ ?_ lf 0 0 h n (aR _) (by omega) ⟨rfl,rfl,x⟩
 ·rintro fu q h' n' ⟨rfl,rfl,x'⟩
  rw[zT]
  try simp(disch:=first|omega|assumption) only[af,aa,RZ,gm,gu,gy,gz,gB,gC,gD,gE,gF,gG,fg]
  (try unfold Ib);(try dsimp only)
  try simp(disch:=first|omega|assumption) only[af,aa,RZ,gm,gu,gy,gz,gB,gC,gD,gE,gF,gG]
  exact .inr ⟨by omega,x'⟩
 ·rintro fu i q h' n' uI ⟨rfl,rfl,x'⟩ next
  have e4:(i:Int)<(k:Int):=by omega
  have g':=x'.get
  unfold tC at g'
  obtain⟨b,hb,kq⟩:=ak5 (lf:=lf) (d:=d+1) x' (by omega)
  have ql:=jI ((ax S D A).take i)
  rw[dr,kR (by omega)]at ql
  have q31:2^i<=2^31:=ur (by decide) (by omega)
  have w1:=B5 (a:=num ((ax S D A).take i) 0) (by omega)
  have w2:=ak3 (a:=num ((ax S D A).take i) 0) b (by omega)
  rw[<-rR (k:=i) lo]at hb
  have tk:=take_one hb
  have w3:IntKind.i64.wrap (((A+i:Nat):Int)+1)=((A+(i+1):Nat):Int):=by rw[aJ (by omega) (by omega)];omega
  have w4:((A+i:Nat):Int)+1=((A+(i+1):Nat):Int):=by omega
  rw[zT]
  try simp(disch:=first|omega|assumption) only[af,aa,RZ,gm,gu,gy,gz,gB,gC,gD,gE,gF,gG,e4,w1,g']
  refine bL kq (an _) (fun _ _ h=>h.elim) ?_
  try simp(disch:=first|omega|assumption) only[af,aa,RZ,gm,gu,gy,gz,gB,gC,gD,gE,gF,gG,w2,g',w3,w4,true_or,or_true]
  refine next (2*num ((ax S D A).take i) 0+bn b) _ _ ⟨rfl,by rw[tk,Ek],get_eq _ _ _,hp,by omega,by omega,hm⟩
end
end Go.Proofs.YtmjolmggelkjlaaGreat
namespace Go.Proofs.YtmjolmggelkjlaaGreat
open Hu
def wt(n k:Nat)(t:HT):List Nat:=t.leaves++List.range' t.Ah (n+k-t.Ah)
section
variable {N:Nat} {X R:Nat->List Nat} {A B:Nat->Nat}
end
section
variable {N:Nat} {w:Nat->Int} {I A B:Nat->Nat} {X R:Nat->List Nat}
end
section
variable {ws:List Int} {D:List Nat} {w:Nat->Int} {I A B:Nat->Nat} {X R:Nat->List Nat} {dep:Nat->Nat}
end
def mX(x:Int):Int:=2^(20-x).toNat
def eT(xs:List Int):Int:=Iz (xs.map mX)
end Go.Proofs.YtmjolmggelkjlaaGreat
namespace Go.Proofs.YtmjolmggelkjlaaGreat
open Go.RowKit Ev Hu
def part(L:List Int)(i:Nat):List Int:=L.take i++cr (L.length-i) 0
theorem aaG{x:Int}(h0:0<=x)(h1:x<=20):1<=mX x∧mX x<=1048576:=by
 unfold mX
 have h1:(2:Nat)^(20-x).toNat<=2^20:=ur (by omega) (by omega)
 have h2:1<=(2:Nat)^(20-x).toNat:=Nat.one_le_two_pow
 have e:((2:Int)^(20-x).toNat)=(((2:Nat)^(20-x).toNat:Nat):Int):=by simp
 rw[e]
 omega
theorem shB (lf d n:Nat) (h:H) (x0 x2 x3 x5 x7 x8 x9 x10:Value) (T:Nat) (hT:T<=20) {W:Nat->Prop} {n0:Nat} {R:Value->H->Nat->Prop} (k:(Value->Value->Value->Value->Value->Value->Value->M Value))
 (hK:ai W n0 (k x0 x2 x3 (.int .i64 (2^T)) x7 x8 x9) h n R):
 ∀(m j fu:Nat),T-j=m->m<fu->j<=T->ai W n0 (Aa lf (au ah gt lf d) fu k x0 x2 x3 x5 (.int .i64 (2^j)) x7 x8 x9 x10 (.int .i64 (T:Nat)) (.int .i64 (j:Nat))) h n R:=by
 intro m
 induction m with
 |zero=>
  intro j fu hm gU hj
  obtain⟨fu,rfl⟩:∃f,fu=f+1:=⟨fu-1,by omega⟩
  obtain rfl:j=T:=by omega
  rw[Aa]
  try simp(disch:=first|omega|assumption) only[af,aa,RZ,fg]
  exact hK
 |succ m ih=>
  intro j fu hm gU hj
  obtain⟨fu,rfl⟩:∃f,fu=f+1:=⟨fu-1,by omega⟩
  have e1:((j:Nat):Int)<((T:Nat):Int):=by omega
  have w1:((j:Nat):Int)+1=((j+1:Nat):Int):=by omega
  have hp:(2:Nat)^(j+1)<=2^20:=ur (by omega) (by omega)
  have yw:((2:Int)^(j+1))=(((2:Nat)^(j+1):Nat):Int):=by simp
  have hq:(0:Int)<=2^(j+1)∧(2:Int)^(j+1)<=1048576:=by
   rw[yw]
   generalize (2:Nat)^(j+1)=z at hp
   omega
  have w2:IntKind.i64.wrap (2*2^j)=2^(j+1):=by
   rw[show(2:Int)*2^j=2^(j+1) by rw[Int.pow_succ,Int.mul_comm]]
   generalize (2:Int)^(j+1)=z at hq
   exact aJ (by omega) (by omega)
  rw[Aa]
  try simp(disch:=first|omega|assumption) only[af,aa,RZ,e1,w2]
  rw[w1]
  exact ih (j+1) fu (by omega) (by omega) (by omega)
theorem shA(lf d n:Nat)(h:H)(v:Value)(xs:List Int)(hR:Row h n 3 .i64 v xs)(hl:xs.length<=1000000)(hx:∀x∈xs,0<=x∧x<=20)(aC:3000000<=lf)(x2:Value){W:Nat->Prop}{n0:Nat}:
 ∀(m i fu:Nat) (a:Int),xs.length-i=m->m<fu->i<=xs.length->0<=a->a<=i*1048576->
  ai W n0 (wW lf (au ah gt lf d) fu (Il lf (au ah gt lf d)) v x2 (.int .i64 a) v (.int .i64 (xs.length:Nat)) (.int .i64 (i:Nat))) h n (fun v' h' n'=>v'= .int .i64 (a+eT (xs.drop i))∧h'=h∧n'=n):=by
 intro m
 induction m with
 |zero=>
  intro i fu a hm gU hi xm tD
  obtain⟨fu,rfl⟩:∃f,fu=f+1:=⟨fu-1,by omega⟩
  obtain rfl:i=xs.length:=by omega
  rw[wW]
  try simp(disch:=first|omega|assumption) only[af,aa,RZ,fg]
  (try unfold Il);(try dsimp only)
  rw[FM]
  try simp(disch:=first|omega|assumption) only[af,aa,RZ]
  simp[eT,Iz]
 |succ m ih=>
  intro i fu a hm gU hi xm tD
  obtain⟨fu,rfl⟩:∃f,fu=f+1:=⟨fu-1,by omega⟩
  obtain⟨b,off,cap,o,cs,rfl,hg,hb,_,_,_,gQ⟩:=hR.some (by omega)
  have e1:((i:Nat):Int)<((xs.length:Nat):Int):=by omega
  have c1:=gQ i (by omega)
  have w1:((i:Nat):Int)+1=((i+1:Nat):Int):=by omega
  have nH:=hx (xs.getD i 0) (by rw[bC,bD (by omega)];exact eu _)
  obtain⟨b1,b2⟩:=aaG nH.1 nH.2
  have w2:IntKind.i64.wrap (20-xs.getD i 0)=(((20-xs.getD i 0).toNat:Nat):Int):=by rw[aJ (by omega) (by omega)];omega
  rw[wW,OL 0 (show i<xs.length by omega)]
  try simp(disch:=first|omega|assumption) only[af,aa,RZ,e1,hg,c1,w2]
  have e2:ii 1= .int .i64 (2^0):=rfl
  rw[e2]
  refine shB lf d n h _ _ _ _ _ _ _ _ (20-xs.getD i 0).toNat (by omega) _ ?_ (20-xs.getD i 0).toNat 0 lf (by omega) (by omega) (by omega)
  (try unfold ajv);(try unfold Ik);(try dsimp only)
  have w3:IntKind.i64.wrap (a+2^(20-xs.getD i 0).toNat)=a+mX (xs.getD i 0):=by
   show IntKind.i64.wrap (a+mX (xs.getD i 0))=_
   exact aJ (by omega) (by omega)
  try simp(disch:=first|omega|assumption) only[af,aa,RZ,w3]
  rw[w1]
  have:=ih (i+1) fu (a+mX (xs.getD i 0)) (by omega) (by omega) (by omega) (by omega) (by omega)
  refine this.mono ?_
  rintro v' h' n' _ ⟨rfl,rfl,rfl⟩
  refine⟨?_,rfl,rfl⟩
  simp only[eT,List.map_cons,Iz]
  congr 1
  omega
theorem ak7(lf d n:Nat)(h:H)(v:Value)(xs:List Int)(hR:Row h n 3 .i64 v xs)(hl:xs.length<=1000000)(hx:∀x∈xs,0<=x∧x<=20)(aC:3000000<=lf):
 ai (fun _=>False) n (au ah gt lf (d+1) 218 #[v]) h n fun v' h' n'=>v'= .int .i64 (eT xs)∧h'=h∧n'=n:=by
 rw[aL (fun _=>ajy) rfl]
 refine ai.aH ?_
 unfold Ov
 have pG:=hR
 obtain⟨a,c,rfl⟩:=hR.len
 try simp(disch:=first|omega|assumption) only[af,aa,RZ]
 have:=shA lf d n h _ xs pG hl hx aC (.int .i64 0) (W:=fun _=>False) (n0:=n) xs.length 0 lf 0 (by omega) (by omega) (by omega) (by omega) (by omega)
 simp only[jr,Int.zero_add]at this
 exact this
end Go.Proofs.YtmjolmggelkjlaaGreat
namespace Go.Proofs.YtmjolmggelkjlaaGreat
open Hu
end Go.Proofs.YtmjolmggelkjlaaGreat
namespace Go.Proofs.YtmjolmggelkjlaaGreat
open Go.RowKit Ev Hu
theorem bG(a b:Value):vO (.tuple #[a,b]) 0=some a:=rfl
theorem ext1(a b:Value):vO (.tuple #[a,b]) 1=some b:=rfl
end Go.Proofs.YtmjolmggelkjlaaGreat
namespace Go.Proofs.YtmjolmggelkjlaaGreat
open Go.RowKit Ev Cn
def iN(ln:List Nat):List Int:=ln.map fun(x:Nat)=>(x:Int)
theorem gK(ln:List Nat):(iN ln).length=ln.length:=by unfold iN;simp
theorem tE{ln:List Nat}{i:Nat}:(iN ln).getD i 0=(ln.getD i 0:Int):=by
 unfold iN
 rw[bC,jC,bC]
 cases ln[i]? <;>rfl
theorem aaH(x:Nat)(ln:List Nat):∀m,jY (x::ln) m=jY ln m+(if x<m then 2^(20-x)else 0)
 |0=>by simp[jY]
 |m+1=>by
  show jY (x::ln) m+cn (x::ln) m*2^(20-m)=jY ln m+cn ln m*2^(20-m)+_
  rw[aaH x ln m]
  have e:cn (x::ln) m=cn ln m+(if x=m then 1 else 0):=by unfold cn;rw[adl];simp
  rw[e,pZ]
  by_cases h:x=m
  ·subst h
   rw[if_pos rfl,if_neg (arP x),if_pos (gh x)]
   omega
  ·rw[if_neg h]
   by_cases h2:x<m
   ·rw[if_pos h2,if_pos (by omega)];omega
   ·rw[if_neg h2,if_neg (by omega)];omega
theorem aaI:∀{ln:List Nat},(∀x∈ln,x<=20)->eT (iN ln)=(jY ln 21:Int)
 |[],_=>by
  have:∀m,jY [] m=0:=by
   intro m
   induction m with
   |zero=>rfl
   |succ m ih=>show jY [] m+cn [] m*_=0;rw[ih];simp[cn]
  rw[this]
  rfl
 |x::ln,h=>by
  have ih:=aaI (ln:=ln) fun y hy=>h y (List.mem_cons_of_mem _ hy)
  have hx:=h x List.mem_cons_self
  rw[aaH,if_pos (show x<21 by omega)]
  show mX (x:Int)+eT (iN ln)=_
  rw[ih]
  unfold mX
  rw[show(20-(x:Int)).toNat=20-x by omega]
  have:((2:Int)^(20-x))=((2^(20-x):Nat):Int):=by push_cast;rfl
  rw[this]
  omega
theorem B6{ln:List Nat}(h:∀x∈ln,1<=x∧x<=20)(hs:eT (iN ln)=1048576):Wh ln:=⟨h,by
 have:=aaI (ln:=ln) fun x hx=>(h x hx).2
 omega⟩
section
variable (lf d n:Nat) (h:H) (aC:3000000<=lf)
include aC
theorem ak8(v:Value)(xs:List Int)(hR:Row h n 3 .i64 v xs)(hl:xs.length<=258)(hm:mA 0 20 xs=true):
 ai (fun _=>False) n (au ah gt lf (d+5) 282 #[v]) h n fun v' h' n'=>v'= .tuple #[.int .i64 (eT xs),.int .i64 0]:=by
 have fO:=BW.1 hm
 rw[aL (fun _=>akt) rfl]
 refine ai.aH ?_
 unfold OH
 have pG:=hR
 obtain⟨a,c,rfl⟩:=hR.len
 have e1:¬((258:Int)<((xs.length:Nat):Int)):=by omega
 try simp(disch:=first|omega|assumption) only[af,aa,RZ,e1]
 refine IA (akK lf d n h _ xs pG 0 20 (by omega) aC) (an _) fun h1 n1 aM aY=> ?_
 rw[hm]
 have pH:=pG.aB aM aY
 try simp(disch:=first|omega|assumption) only[af,aa,RZ,jP]
 refine eD xs.length (fun fu i (q:Int)=>Ae lf (au ah gt lf (d+4)) fu (Iw lf (au ah gt lf (d+4))) (.slice a xs.length c) (.int .i64 0) (.int .i64 0) (.int .i64 q) (.bool false) (.slice a xs.length c) (.int .i64 (xs.length:Nat)) (.int .i64 (i:Nat))) (fun i q h' n'=>(h'=h1∧n'=n1)∧0<=q∧q<=i*1048576∧q+eT (xs.drop i)=eT xs) ?_ ?_ lf 0 0 h1 n1 (aR _) (by omega) ⟨⟨rfl,rfl⟩,by omega,by omega,by rw[jr];omega⟩
 ·rintro fu q h' n' ⟨⟨rfl,rfl⟩,q0,q1,q2⟩
  rw[Ae]
  try simp(disch:=first|omega|assumption) only[af,aa,RZ,fg]
  (try unfold Iw);(try dsimp only)
  try simp(disch:=first|omega|assumption) only[af,aa,RZ]
  rw[FM]at q2
  have:eT []=0:=rfl
  rw[<-q2,this,Int.add_zero]
 ·rintro fu i q h' n' hi ⟨⟨rfl,rfl⟩,q0,q1,q2⟩ next
  obtain⟨b,off,cap,o,cs,hv,hg,hb,_,_,_,gQ⟩:=pH.some (by omega)
  cases hv
  have e2:((i:Nat):Int)<((xs.length:Nat):Int):=by omega
  have c1:=gQ i hi
  have nH:=fO (xs.getD i 0) (by rw[bC,bD hi];exact eu _)
  obtain⟨b1,b2⟩:=aaG nH.1 nH.2
  have w2:IntKind.i64.wrap (20-xs.getD i 0)=(((20-xs.getD i 0).toNat:Nat):Int):=by rw[aJ (by omega) (by omega)];omega
  have w3:IntKind.i64.wrap (1*2^(min (((20-xs.getD i 0).toNat:Nat):Int).toNat IntKind.i64.bits))=mX (xs.getD i 0):=by
   rw[cL,kR (lM (show(20-xs.getD i 0).toNat<=20 by omega) (by decide)),Int.one_mul]
   exact aJ (by unfold mX at b1;omega) (by unfold mX at b2;omega)
  have Eo:IntKind.i64.wrap (1*2^(min (20-xs.getD i 0).toNat IntKind.i64.bits))=mX (xs.getD i 0):=by
   rw[cL]at w3
   exact w3
  have w4:IntKind.i64.wrap (q+mX (xs.getD i 0))=q+mX (xs.getD i 0):=aJ (by omega) (by omega)
  have w5:(0:Int)<=(((20-xs.getD i 0).toNat:Nat):Int):=by omega
  have dn:eT (xs.drop i)=mX (xs.getD i 0)+eT (xs.drop (i+1)):=by rw[OL 0 hi];rfl
  rw[Ae]
  try simp(disch:=first|omega|assumption) only[af,aa,RZ,e2,hg,c1,w2,w5,w3,Eo,w4]
  refine next _ _ _ ⟨⟨rfl,rfl⟩,by omega,by omega,by omega⟩
theorem ak9(v:Value)(xs:List Int)(z:Int)(hR:Row h n 3 .i64 v xs)(hl:xs.length<=1000000):
 ai (fun _=>False) n (au ah gt lf (d+1) 286 #[v,.int .i64 z]) h n fun v' h' n'=>(∃r:Int,v'= .int .i64 r∧((r=-1∧∀x∈xs,x≠z)∨∃i,i<xs.length∧r=(i:Int)∧xs.getD i 0=z∧∀j,j<i->xs.getD j 0≠z))∧h'=h∧n'=n:=by
 rw[aL (fun _=>aky) rfl]
 refine ai.aH ?_
 unfold OI
 have pG:=hR
 obtain⟨a,c,rfl⟩:=hR.len
 try simp(disch:=first|omega|assumption) only[af,aa,RZ]
 refine eD xs.length (fun fu i (_:Unit)=>Af lf (au ah gt lf d) fu (Ei lf (au ah gt lf d)) (.slice a xs.length c) (.int .i64 z) (.int .i64 0) (.int .i64 (xs.length:Nat)) (.int .i64 (i:Nat))) (fun i _ h' n'=>(h'=h∧n'=n)∧∀j,j<i->xs.getD j 0≠z) ?_ ?_ lf 0 () h n (aR _) (by omega) ⟨⟨rfl,rfl⟩,fun j hj=>absurd hj (mJ j)⟩
 ·rintro fu _ h' n' ⟨⟨rfl,rfl⟩,ha⟩
  rw[Af]
  try simp(disch:=first|omega|assumption) only[af,aa,RZ,fg]
  (try unfold Ei);(try dsimp only)
  try simp(disch:=first|omega|assumption) only[af,aa,RZ]
  refine⟨-1,rfl,.inl ⟨rfl,fun x hx=> ?_⟩⟩
  obtain⟨j,hj,rfl⟩:=List.mem_iff_getElem.1 hx
  have:=ha j hj
  rw[bC,bD hj]at this
  exact this
 ·rintro fu i _ h' n' hi ⟨⟨rfl,rfl⟩,ha⟩ next
  obtain⟨b,off,cap,o,cs,hv,hg,hb,_,_,_,gQ⟩:=pG.some (by omega)
  cases hv
  have e2:((i:Nat):Int)<((xs.length:Nat):Int):=by omega
  have c1:=gQ i hi
  rw[Af]
  by_cases q:z=xs.getD i 0
  ·have e3:(z==xs.getD i 0)=true:=by rw[<-q];simp
   try simp(disch:=first|omega|assumption) only[af,aa,RZ,e2,hg,c1,e3]
   (try unfold Ei);(try dsimp only)
   try simp(disch:=first|omega|assumption) only[af,aa,RZ]
   exact⟨_,rfl,.inr ⟨i,hi,rfl,q.symm,ha⟩⟩
  ·have e3:(z==xs.getD i 0)=false:=beq_eq_false_iff_ne.2 q
   try simp(disch:=first|omega|assumption) only[af,aa,RZ,e2,hg,c1,e3]
   refine next () _ _ ⟨⟨rfl,rfl⟩,fun j hj=> ?_⟩
   by_cases e:j=i
   ·subst e;exact fun r=>q r.symm
   ·exact ha j (by omega)
set_option maxRecDepth 8000 in
theorem aaJ(v:Value)(xs:List Int)(hR:Row h n 3 .i64 v xs)(hl:xs.length<=258)(hm:mA 1 20 xs=true):
 ai (fun _=>False) n (au ah gt lf (d+6) 277 #[v]) h n fun v' h' n'=>v'= .bool (decide (eT xs=1048576)):=by
 have fO:=BW.1 hm
 rw[aL (fun _=>akm) rfl]
 refine ai.aH ?_
 unfold Z0
 refine aU aK (ak8 lf d n h aC v xs hR hl (BW.2 fun x hx=>by have:=fO x hx;omega)) (an _) (fun _ _ h=>h.elim) fun v1 h1 n1 aM aY hq=> ?_
 subst hq
 have z0:((0:Int)==0)=true:=rfl
 by_cases q:eT xs=1048576
 ·have e:(eT xs==1048576)=true:=by rw[q];exact beq_self_eq_true _
  rw[decide_eq_true q]
  have s2:ai (fun _=>False) n1 (au ah gt lf (d+5) 283 #[v,.int .i64 0]) h1 n1 fun v' h' n'=>v'= .bool false:=by
   rw[aL (fun _=>aku) rfl]
   refine ai.aH ?_
   unfold Z8
   refine aU aK (ak9 lf (d+3) n1 h1 aC v xs 0 (hR.aB aM fun b hb=>aY b hb id) (by omega)) (an _) (fun _ _ h=>h.elim) fun v2 h2 n2 cJ cf bu=> ?_
   obtain⟨⟨r,rfl,hr⟩,_,_⟩:=bu
   rcases hr with ⟨rfl,_⟩|⟨i,hi,_,hz,_⟩
   ·try simp(disch:=first|omega|assumption) only[af,aa,RZ,gm,gu,gy,gz,gB,gC,gD,gE,gF,gG]
    all_goals (first|trivial|rfl|exact⟨rfl,rfl,rfl⟩|exact⟨rfl,rfl⟩)
   ·have:=fO (xs.getD i 0) (by rw[bC,bD hi];exact eu _)
    omega
  try simp(disch:=first|omega|assumption) only[af,aa,RZ,bG,ext1,z0,e]
  refine IA s2 (by omega) fun h3 n3 fw dK=> ?_
  try simp(disch:=first|omega|assumption) only[af,aa,RZ,cP]
 ·have e:(eT xs==1048576)=false:=beq_eq_false_iff_ne.2 q
  rw[decide_eq_false q]
  try simp(disch:=first|omega|assumption) only[af,aa,RZ,bG,ext1,z0,e]
end
def lY(f:Nat->Nat)(N:Nat):List Value:=(iL N).map fun j=>dG .i64 (f j:Int)
theorem mB(f:Nat->Nat)(N:Nat):(lY f N).length=N:=by unfold lY;simp
theorem IQ{f:Nat->Nat}{N j:Nat}(h:j<N):(lY f N)[j]? =some (.int .i64 (f j:Int)):=by unfold lY;rw[jC,List.getElem?_range h];rfl
def oJ(f:Nat->Nat)(j v:Nat):Nat->Nat:=fun i=>if i=j then v else f i
theorem OZ{f:Nat->Nat}{N j v:Nat}:(lY f N).set j (.int .i64 (v:Int))=lY (oJ f j v) N:=by
 apply ado
 ·simp[mB]
 ·intro i h1 h2
  rw[arR]
  simp only[lY,adp,adq,oJ]
  by_cases e:j=i
  ·subst e;simp
  ·rw[if_neg e,if_neg (fun q=>e q.symm)]
def eY(lv cv ov:Value)(f g:Nat->Nat):List Value:=lv::cv::ov::(lY f 21++lY g 22)
theorem ak'{lv cv ov:Value}{f g:Nat->Nat}{j:Nat}(h:j<21):(eY lv cv ov f g)[3+j]? =some (.int .i64 (f j:Int)):=by
 unfold eY
 rw[show 3+j=j+1+1+1 by omega,AP,AP,AP,uk (by rw[mB];exact h),IQ h]
theorem aaK{lv cv ov:Value}{f g:Nat->Nat}{j:Nat}(h:j<22):(eY lv cv ov f g)[24+j]? =some (.int .i64 (g j:Int)):=by
 unfold eY
 rw[show 24+j=21+j+1+1+1 by omega,AP,AP,AP,qR (by rw[mB];omega),mB,show 21+j-21=j by omega,IQ h]
theorem ak_{lv cv ov:Value}{f g:Nat->Nat}{j v:Nat}(h:j<21):(eY lv cv ov f g).set (3+j) (.int .i64 (v:Int))=eY lv cv ov (oJ f j v) g:=by
 unfold eY
 rw[show 3+j=j+1+1+1 by omega,AS,AS,AS,arS _ _ (by rw[mB];exact h),OZ]
theorem aaL{lv cv ov:Value}{f g:Nat->Nat}{j v:Nat}:(eY lv cv ov f g).set (24+j) (.int .i64 (v:Int))=eY lv cv ov f (oJ g j v):=by
 unfold eY
 rw[show 24+j=21+j+1+1+1 by omega,AS,AS,AS,Kp _ _ (by rw[mB];omega),mB,show 21+j-21=j by omega,OZ]
theorem O0(lv cv ov:Value)(f g:Nat->Nat):(eY lv cv ov f g).length=46:=by unfold eY;simp[mB]
def cR(f:Nat->Nat)(n:Nat):Nat->Nat:=fun j=>if j<=n then f j else 0
theorem O1(f:Nat->Nat)(n:Nat):oJ (cR f n) (n+1) (f (n+1))=cR f (n+1):=by
 funext j
 unfold oJ cR
 by_cases e:j=n+1
 ·subst e;simp
 ·rw[if_neg e]
  by_cases e2:j<=n
  ·rw[if_pos e2,if_pos (by omega)]
  ·rw[if_neg e2,if_neg (by omega)]
theorem aaM{f:Nat->Nat}(h:f 0=0):cR f 0=fun _=>0:=by
 funext j
 unfold cR
 by_cases e:j<=0
 ·have:j=0:=by omega
  subst this
  rw[if_pos e,h]
 ·rw[if_neg e]
def kI(ln:List Nat)(n s:Nat):List Int:=(iL ln.length).map fun t=>if ln.getD t 0<n∨(ln.getD t 0=n∧t<s)then(dV ln t:Int)else 0
theorem IU(ln:List Nat)(n s:Nat):(kI ln n s).length=ln.length:=by unfold kI;simp
theorem ala(ln:List Nat)(n:Nat):kI ln n ln.length=kI ln (n+1) 0:=by
 unfold kI
 apply vE
 intro t ht
 have:=List.mem_range.1 ht
 by_cases e:ln.getD t 0<n∨(ln.getD t 0=n∧t<ln.length)
 ·rw[if_pos e,if_pos (by omega)]
 ·rw[if_neg e,if_neg (by omega)]
theorem alb{ln:List Nat}{n s:Nat}(h:ln.getD s 0≠n):kI ln n (s+1)=kI ln n s:=by
 unfold kI
 apply vE
 intro t ht
 by_cases e:ln.getD t 0<n∨(ln.getD t 0=n∧t<s)
 ·rw[if_pos e,if_pos (by omega)]
 ·rw[if_neg e,if_neg]
  rintro(q|⟨q1,q2⟩)
  ·exact e (.inl q)
  ·by_cases e2:t=s
   ·subst e2;exact h q1
   ·exact e (.inr ⟨q1,by omega⟩)
theorem alc{ln:List Nat}{n s:Nat}(hs:s<ln.length)(h:ln.getD s 0=n):(kI ln n s).set s (dV ln s:Int)=kI ln n (s+1):=by
 apply ado
 ·simp[IU]
 ·intro t h1 h2
  rw[arR]
  simp only[kI,adp,adq]
  by_cases e:s=t
  ·subst e;rw[if_pos rfl,if_pos (.inr ⟨h,gh s⟩)]
  ·rw[if_neg e]
   by_cases q:ln.getD t 0<n∨(ln.getD t 0=n∧t<s)
   ·rw[if_pos q,if_pos (by omega)]
   ·rw[if_neg q,if_neg (by omega)]
theorem ald{ln:List Nat}(w:Wh ln):kI ln 1 0=cr ln.length 0:=by
 apply ado
 ·simp[IU]
 ·intro t h1 h2
  rw[IU]at h1
  have:=w.at h1
  simp only[kI,adp,adq,List.getElem_replicate]
  rw[if_neg (by omega)]
def B7(ln:List Nat):List Int:=(iL ln.length).map fun t=>(dV ln t:Int)
theorem alf{ln:List Nat}(w:Wh ln):kI ln 21 0=B7 ln:=by
 unfold kI B7
 apply vE
 intro t ht
 have:=w.at (List.mem_range.1 ht)
 rw[if_pos (by omega)]
theorem IV:∀(ln:List Nat) (m:Nat),bw ln m<=ln.length
 |[],m=>by
  have:∀m,bw [] m=0:=by
   intro m
   induction m with
   |zero=>rfl
   |succ m ih=>show bw [] m+cn [] m=0;rw[ih];simp[cn]
  rw[this]
  exact an 0
 |x::ln,m=>by
  have key:∀m,bw (x::ln) m=bw ln m+(if x<m then 1 else 0):=by
   intro m
   induction m with
   |zero=>rfl
   |succ m ih=>
    show bw (x::ln) m+cn (x::ln) m=bw ln m+cn ln m+_
    have e:cn (x::ln) m=cn ln m+(if x=m then 1 else 0):=by unfold cn;rw[adl];simp
    rw[ih,e]
    by_cases h:x=m
    ·subst h
     rw[if_neg (arP x),if_pos rfl,if_pos (gh x)]
     omega
    ·rw[if_neg h]
     by_cases h2:x<m
     ·rw[if_pos h2,if_pos (by omega)];omega
     ·rw[if_neg h2,if_neg (by omega)];omega
  have:=IV ln m
  rw[key,dp]
  split<;>omega
theorem alg(ln:List Nat):(iu ln 21).length<=ln.length:=by rw[oI];exact IV ln 21
structure tF (h:H) (lo hi c:Nat) (ln:List Nat):Prop where
 ge:lo<=c
 lt:c<hi
 ex:∃lv cv ov,h.get c=some ⟨338,true,eY lv cv ov (cR (cB ln) 20) (cR (bw ln) 21)⟩∧Row h hi 3 .i64 lv (iN ln)∧(∀b,aN lv b->lo<=b)∧Row h hi 31 .u32 cv (B7 ln)∧(∀b,aN cv b->lo<=b)∧Row h hi 3 .i64 ov (iN (iu ln 21))∧(∀b,aN ov b->lo<=b)
theorem tF.aB{h h':H}{lo hi c:Nat}{ln:List Nat}(x:tF h lo hi c ln)(hk:∀b,lo<=b->b<hi->h'.get b=h.get b):tF h' lo hi c ln:=by
 obtain⟨l1,l2,lv,cv,ov,g,a1,a2,b1,b2,c1,c2⟩:=x
 exact⟨l1,l2,lv,cv,ov,(hk c l1 l2).trans g,a1.mW (an _) fun b hb=>hk b (a2 b hb) (a1.lt hb),a2,b1.mW (an _) fun b hb=>hk b (b2 b hb) (b1.lt hb),b2,c1.mW (an _) fun b hb=>hk b (c2 b hb) (c1.lt hb),c2⟩
theorem rT(a b:List Nat):iN (a++b)=iN a++iN b:=by unfold iN;rw[qb]
theorem pI(k:IntKind)(a b:List Int):aS k (a++b)=aS k a++aS k b:=by unfold aS;rw[qb]
theorem alh(k:IntKind)(l:List Int)(i:Nat)(x:Int):(aS k l).set i (.int k x)=aS k (l.set i x):=by unfold aS;rw[List.map_set]
theorem ali(a1:Option Addr)(n1 c1:Nat)(a2:Option Addr)(n2 c2:Nat):(if 0<Nf.length then fU (Nf.set 0 (.slice a1 n1 c1)) [(1,1,.slice a2 n2 c2)]else none)=some (eY (.slice a1 n1 c1) (.slice a2 n2 c2) (.slice none 0 0) (fun _=>0) (fun _=>0)):=by kernel_rfl
section
variable (lf d n:Nat) (h:H) (aC:3000000<=lf)
include aC
theorem alj(v:Value)(xs:List Int)(hR:Row h n 3 .i64 v xs)(h3:3<=xs.length)(hl:xs.length<=258)(hm:mA 1 20 xs=true)(hs:eT xs≠1048576):
 ai (fun _=>False) n (au ah gt lf (d+7) 267 #[v]) h n fun v' h' n'=>v'= .tuple #[.pointer none,.int .i64 22]:=by
 rw[aL (fun _=>ZN) rfl]
 refine ai.aH ?_
 unfold It
 have pG:=hR
 obtain⟨a,c,rfl⟩:=hR.len
 have e1:¬(((xs.length:Nat):Int)<3):=by omega
 have e2:¬((258:Int)<((xs.length:Nat):Int)):=by omega
 try simp(disch:=first|omega|assumption) only[af,aa,RZ,e1,e2]
 refine IA (b:=false) ((aaJ lf d n h aC _ xs pG hl hm).mono fun v' _ _ _ e=>by rw[e,decide_eq_false hs]) (an _) fun h1 n1 aM aY=> ?_
 try simp(disch:=first|omega|assumption) only[af,aa,RZ,cP]
set_option maxHeartbeats 2000000 in
theorem alk(v:Value)(ln:List Nat)(hR:Row h n 3 .i64 v (iN ln))(h3:3<=ln.length)(hl:ln.length<=258)(w:Wh ln)(hs:eT (iN ln)=1048576):
 ai (fun _=>False) n (au ah gt lf (d+7) 267 #[v]) h n fun v' h' n'=>∃c,v'= .tuple #[.pointer (some ⟨c,0,none⟩),.int .i64 0]∧tF h' n n' c ln:=by
 have xn:=gK ln
 rw[aL (fun _=>ZN) rfl]
 refine ai.aH ?_
 unfold It
 have pG:=hR
 obtain⟨a,c,rfl⟩:=hR.len
 have e1:¬((((iN ln).length:Nat):Int)<3):=by omega
 have e2:¬((258:Int)<(((iN ln).length:Nat):Int)):=by omega
 have hm:mA 1 20 (iN ln)=true:=BW.2 fun x hx=>by
  unfold iN at hx
  obtain⟨y,hy,rfl⟩:=List.mem_map.1 hx
  have:=w.lo y hy
  omega
 try simp(disch:=first|omega|assumption) only[af,aa,RZ,e1,e2]
 refine IA (b:=true) ((aaJ lf d n h aC _ _ pG (by omega) hm).mono fun v' _ _ _ e=>by rw[e,decide_eq_true hs]) (an _) fun h1 n1 aM aY=> ?_
 have pH:=pG.aB aM aY
 try simp(disch:=first|omega|assumption) only[af,aa,RZ,jP]
 refine tA aK (OK lf (d+5) n1 h1 _ _ pH (by omega) (by omega)) aM fun v2 h2 n2 T1 cJ cf bu t1=> ?_
 obtain⟨_,gN,ij⟩:=bu
 have O2:=gN
 obtain⟨al,cl,rfl⟩:=gN.len
 rw[xn]at O2 ij⊢
 try simp(disch:=first|omega|assumption) only[af,aa,RZ]
 refine akT ln.length _ (by omega) ?_
 have t2:RB ⟨n2,n2+1,[]⟩ n1:=⟨fun e he=>(nomatch he),fun e he=>(nomatch he),cJ⟩
 dsimp only
 rw[ali,wG]
 refine agI trivial _ _ ?_
 try simp(disch:=first|omega|assumption) only[af,aa,RZ,t1.cA t2,cP,fR,eh]
 obtain⟨hb,B8⟩:∃hb,(h2.set n2 (some ⟨31,true,cr ln.length (.int .u32 0)⟩)).set (n2+1) (some ⟨338,true,eY (.slice al ln.length cl) (.slice (some ⟨n2,0,none⟩) ln.length ln.length) (.slice none 0 0) (fun _=>0) (fun _=>0)⟩)=hb:=⟨_,rfl⟩
 have gc:hb.get (n2+1)=some ⟨338,true,eY (.slice al ln.length cl) (.slice (some ⟨n2,0,none⟩) ln.length ln.length) (.slice none 0 0) (cR (cB ln) 0) (cR (bw ln) 0)⟩:=by
  rw[aaM (f:=cB ln) rfl,aaM (f:=bw ln) rfl,<-B8,get_eq]
 have gv:hb.get n2=some ⟨31,true,aS .u32 (kI ln 1 0)⟩:=by
  rw[<-B8,aD _ _ (by omega),get_eq,ald w]
  unfold aS
  rw[List.map_replicate]
 have kb:∀b,b<n2->hb.get b=h2.get b:=fun b bW=>by rw[<-B8,aD _ _ (by omega),aD _ _ (by omega)]
 rw[B8]
 have alm:iu ln 1=[]:=by
  apply adr
  rw[oI,ak0 w]
 have O3:iF ln 0 ln.length=0:=by
  unfold iF
  rw[Aj,IL w]
  rfl
 have OM:∀{h':H} {n':Nat},n2<=n'->(∀b,b<n2->h'.get b=h2.get b)->Row h' n' 3 .i64 (.slice a ln.length c) (iN ln):=fun{h'} {n'} lG sP=>by
  have:=pH.aB (show n1<=n' by omega) fun b bW=>(sP b (by omega)).trans (cf b bW)
  rw[xn]at this
  exact this
 refine eD 20 (fun fu i (q:Nat)=>xd lf (au ah gt lf (d+6)) fu (Eg lf (au ah gt lf (d+6))) (.slice a ln.length c) (.pointer none) (.int .i64 0) (.pointer (some ⟨n2+1,0,none⟩)) (.int .i64 (q:Int)) (.int .i64 ((i+1:Nat):Int)) (.bool false) (.bool false))
  (fun i q h' n'=>n2+2<=n'∧(∀b,b<n2->h'.get b=h2.get b)∧q=iF ln i ln.length∧h'.get n2=some ⟨31,true,aS .u32 (kI ln (i+1) 0)⟩∧∃ov,h'.get (n2+1)=some ⟨338,true,eY (.slice al ln.length cl) (.slice (some ⟨n2,0,none⟩) ln.length ln.length) ov (cR (cB ln) i) (cR (bw ln) i)⟩∧Own h' (n2+2) n' 3 ov (aS .i64 (iN (iu ln (i+1))))) ?_ ?_ lf 0 0 _ _ (aR _) (by omega) ⟨an _,kb,O3.symm,gv,_,gc,by rw[alm];exact Own.nil _ _ _ _⟩
 ·rintro fu q h' n' ⟨lG,sP,rfl,y4,ov,rU,hO⟩
  have e3:¬(((20+1:Nat):Int)<=20):=by omega
  have c2:(eY (.slice al ln.length cl) (.slice (some ⟨n2,0,none⟩) ln.length ln.length) ov (cR (cB ln) 20) (cR (bw ln) 20))[2]? =some ov:=rfl
  have hOr:=hO.row
  obtain⟨ao,co,kB⟩:=hOr.len
  have O4:(iN (iu ln 21)).length=bw ln 21:=by rw[gK,oI]
  rw[O4]at kB
  have cg:=aaL (lv:= .slice al ln.length cl) (cv:= .slice (some ⟨n2,0,none⟩) ln.length ln.length) (ov:=ov) (f:=cR (cB ln) 20) (g:=cR (bw ln) 20) (j:=21) (v:=bw ln 21)
  rw[O1]at cg
  have pJ:n2+1<n':=by omega
  have l46:24+21<(eY (.slice al ln.length cl) (.slice (some ⟨n2,0,none⟩) ln.length ln.length) ov (cR (cB ln) 20) (cR (bw ln) 20)).length:=by rw[O0];omega
  rw[xd]
  try simp(disch:=first|omega|assumption) only[af,aa,RZ,e3]
  (try unfold Eg);(try dsimp only)
  rw[kB]at rU c2 cg l46 hOr
  have e21:((21:Int)).toNat=21:=rfl
  try simp(disch:=first|omega|assumption) only[af,aa,RZ,gm,gu,gy,gz,gB,gC,gD,gE,gF,gG,rU,c2,e21]
  refine⟨by simpa using l46,.inl (by omega), ?_⟩
  have fin:∀h9,h9.get (n2+1)=some ⟨338,true,eY (.slice al ln.length cl) (.slice (some ⟨n2,0,none⟩) ln.length ln.length) (.slice ao (bw ln 21) co) (cR (cB ln) 20) (cR (bw ln) 21)⟩->(∀b,b≠n2+1->h9.get b=h'.get b)->tF h9 n n' (n2+1) ln:=by
   intro h9 hg9 O5
   have oe:∀b,aN (.slice ao (bw ln 21) co) b->b≠n2+1:=fun b bW e=>by
    rw[kB]at hO
    have:=(hO.lt bW).1
    omega
   refine⟨by omega,by omega,_,_,_,hg9, ?_,fun b bW=>by have:=ij b bW;omega, ?_,fun b bW=>by rw[bW.inj];omega,hOr.mW (an _) fun b bW=>O5 b (oe b bW),fun b bW=>by rw[kB]at hO;have:=(hO.lt bW).1;omega⟩
   ·exact O2.mW (by omega) fun b bW=>by
     have:=O2.lt bW
     rw[O5 b (by omega),sP b this]
   ·have e:h9.get n2=some ⟨31,true,aS .u32 (B7 ln)⟩:=by rw[O5 n2 (by omega),y4,alf w]
    have cil:(B7 ln).length=ln.length:=by unfold B7;simp
    exact .inr ⟨n2,0,ln.length,true,_,by rw[cil],e,by omega,by rw[eJ];omega,by rw[jr,List.take_of_length_le (by rw[eJ];omega)],by omega⟩
  refine⟨n2+1,rfl,fin _ (by rw[get_eq];congr 2) fun b bW=>aD _ _ bW⟩
 ·rintro fu i q h' n' hi ⟨lG,sP,rfl,y4,ov,rU,hO⟩ next
  have e3:(((i+1:Nat):Int)<=20):=by omega
  have c2:∀f g,(eY (.slice al ln.length cl) (.slice (some ⟨n2,0,none⟩) ln.length ln.length) ov f g)[2]? =some ov:=fun _ _=>rfl
  have aln:=w.cap (n:=i+1) (by omega)
  have p20:2^(i+1)<=2^20:=ur (by decide) (by omega)
  have fe:cB ln (i+1)=2*iF ln i ln.length:=by unfold iF;rw[Aj];rfl
  have w1:IntKind.i64.wrap (((iF ln i ln.length:Nat):Int)*2)=((cB ln (i+1):Nat):Int):=by rw[aJ (by omega) (by omega)];omega
  have hOr:=hO.row
  obtain⟨ao,co,kB⟩:=hOr.len
  have O4:(iN (iu ln (i+1))).length=bw ln (i+1):=by rw[gK,oI]
  rw[O4]at kB
  have sf:=ak_ (lv:= .slice al ln.length cl) (cv:= .slice (some ⟨n2,0,none⟩) ln.length ln.length) (ov:=ov) (f:=cR (cB ln) i) (g:=cR (bw ln) i) (j:=i+1) (v:=cB ln (i+1)) (by omega)
  rw[O1]at sf
  have sg:=aaL (lv:= .slice al ln.length cl) (cv:= .slice (some ⟨n2,0,none⟩) ln.length ln.length) (ov:=ov) (f:=cR (cB ln) (i+1)) (g:=cR (bw ln) i) (j:=i+1) (v:=bw ln (i+1))
  rw[O1]at sg
  have pJ:n2+1<n':=by omega
  have i1:((i+1:Nat):Int)<21:=by omega
  have i2:((i+1:Nat):Int)<22:=by omega
  have i0:(0:Int)<=((i+1:Nat):Int):=by omega
  have it:((i+1:Nat):Int).toNat=i+1:=rfl
  have lc:∀f g,(eY (.slice al ln.length cl) (.slice (some ⟨n2,0,none⟩) ln.length ln.length) ov f g).length=46:=fun f g=>O0 _ _ _ _ _
  rw[xd]
  rw[kB]at rU c2 sf sg lc
  try simp(disch:=first|omega|assumption) only[af,aa,RZ,e3,w1,i0,i1,i2,it,rU,sf,lc,true_or,or_true]
  refine⟨by omega,.inl (by omega), ?_⟩
  try simp(disch:=first|omega|assumption) only[af,aa,RZ,get_eq,c2,sg,lc]
  refine⟨by omega,.inl (by omega), ?_⟩
  obtain⟨hA,O6⟩:∃hA,((h'.set (n2+1) (some ⟨338,true,eY (.slice al ln.length cl) (.slice (some ⟨n2,0,none⟩) ln.length ln.length) (.slice ao (bw ln (i+1)) co) (cR (cB ln) (i+1)) (cR (bw ln) i)⟩)).set (n2+1) (some ⟨338,true,eY (.slice al ln.length cl) (.slice (some ⟨n2,0,none⟩) ln.length ln.length) (.slice ao (bw ln (i+1)) co) (cR (cB ln) (i+1)) (cR (bw ln) (i+1))⟩))=hA:=⟨_,rfl⟩
  have gA:hA.get (n2+1)=some ⟨338,true,eY (.slice al ln.length cl) (.slice (some ⟨n2,0,none⟩) ln.length ln.length) (.slice ao (bw ln (i+1)) co) (cR (cB ln) (i+1)) (cR (bw ln) (i+1))⟩:=by rw[<-O6,get_eq]
  have kA:∀b,b≠n2+1->hA.get b=h'.get b:=fun b bW=>by rw[<-O6,aD _ _ bW,aD _ _ bW]
  rw[O6]
  have nxs:iF ln (i+1) 0=cB ln (i+1):=by unfold iF;simp[fX,cn]
  rw[kB]at hO
  refine eD ln.length (fun f2 s (q:Nat)=>xc lf (au ah gt lf (d+6)) f2 (ZK lf (au ah gt lf (d+6)) fu (Eg lf (au ah gt lf (d+6)))) (.slice a ln.length c) (.pointer none) (.int .i64 0) (.pointer (some ⟨n2+1,0,none⟩)) (.int .i64 (q:Int)) (.int .i64 ((i+1:Nat):Int)) (.bool false) (.bool false) (.bool true) (.slice a ln.length c) (.int .i64 (ln.length:Int)) (.int .i64 (s:Int)))
   (fun s q h5 n5=>n'<=n5∧(∀b,b<n2->h5.get b=h2.get b)∧q=iF ln (i+1) s∧h5.get n2=some ⟨31,true,aS .u32 (kI ln (i+1) s)⟩∧∃ov,h5.get (n2+1)=some ⟨338,true,eY (.slice al ln.length cl) (.slice (some ⟨n2,0,none⟩) ln.length ln.length) ov (cR (cB ln) (i+1)) (cR (bw ln) (i+1))⟩∧Own h5 (n2+2) n5 3 ov (aS .i64 (iN (iu ln (i+1)++hC ln (i+1) s)))) ?_ ?_ lf 0 (cB ln (i+1)) _ _ (aR _) (by omega) ⟨an _,fun b bW=>by rw[kA b (by omega)];exact sP b bW,nxs.symm,by rw[kA n2 (by omega)];exact y4,_,gA, ?_⟩
  rotate_left 2
  ·have:hC ln (i+1) 0=[]:=rfl
   rw[this,cu]
   exact hO.aB (an _) fun b bW=>kA b fun e=>by have:=(hO.lt bW).1;omega
  ·rintro f2 q h5 n5 ⟨tG,Ep,rfl,IW,tH,Er,Es⟩
   have w3:IntKind.i64.wrap (((i+1:Nat):Int)+1)=((i+1+1:Nat):Int):=by rw[aJ (by omega) (by omega)];rfl
   have Eo:((i+1:Nat):Int)+1=((i+1+1:Nat):Int):=rfl
   rw[xc]
   try simp(disch:=first|omega|assumption) only[af,aa,RZ,fg]
   (try unfold ZK);(try unfold Ir);(try dsimp only)
   try simp(disch:=first|omega|assumption) only[af,aa,RZ,w3,Eo]
   refine next (iF ln (i+1) ln.length) h5 n5 ⟨by omega,Ep,rfl, ?_,tH,Er,Es⟩
   rw[<-ala]
   exact IW
  ·rintro f2 s q h5 n5 dA ⟨tG,Ep,rfl,IW,tH,Er,Es⟩ pK
   obtain⟨b,off,cap,o,ks,hv,hgx,hbx,_,_,_,gQ⟩:=(OM (show n2<=n5 by omega) Ep).some (by omega)
   have eI:kf a ln.length c= .slice (some ⟨b,off,none⟩) (iN ln).length cap:=hv
   rw[xn]at eI
   cases eI
   have e5:((s:Nat):Int)<((ln.length:Nat):Int):=by omega
   have c5:=gQ s (by omega)
   rw[tE]at c5
   have lt5:n2+1<n5:=by omega
   have asK:n2<n5:=by omega
   rw[xc]
   by_cases m:ln.getD s 0=i+1
   ·have qY:(((ln.getD s 0:Nat):Int)==((i+1:Nat):Int))=true:=by rw[m];simp
    have aaN:iF ln (i+1) s=dV ln s:=IK m
    have alo:=w.OW dA
    rw[m]at alo
    have w4:IntKind.u32.wrap ((dV ln s:Nat):Int)=((dV ln s:Nat):Int):=fW (by omega)
    have cv1:(eY (.slice al ln.length cl) (.slice (some ⟨n2,0,none⟩) ln.length ln.length) tH (cR (cB ln) (i+1)) (cR (bw ln) (i+1)))[1]? =some (.slice (some ⟨n2,0,none⟩) ln.length ln.length):=rfl
    have cv2:(eY (.slice al ln.length cl) (.slice (some ⟨n2,0,none⟩) ln.length ln.length) tH (cR (cB ln) (i+1)) (cR (bw ln) (i+1)))[2]? =some tH:=rfl
    have cv3:∀x,(eY (.slice al ln.length cl) (.slice (some ⟨n2,0,none⟩) ln.length ln.length) tH (cR (cB ln) (i+1)) (cR (bw ln) (i+1))).set 2 x=eY (.slice al ln.length cl) (.slice (some ⟨n2,0,none⟩) ln.length ln.length) x (cR (cB ln) (i+1)) (cR (bw ln) (i+1)):=fun _=>rfl
    have w5:IntKind.i64.wrap (((dV ln s:Nat):Int)+1)=((dV ln s+1:Nat):Int):=by rw[aJ (by omega) (by omega)];rfl
    have Et:((dV ln s:Nat):Int)+1=((dV ln s+1:Nat):Int):=rfl
    have w6:((s:Nat):Int)+1=((s+1:Nat):Int):=rfl
    have ch:=alc dA m
    rw[aaN]
    try simp(disch:=first|omega|assumption) only[af,aa,RZ,e5,hgx,c5,qY,Er,cv1,w4,IW,alh,ch,eJ,IU]
    refine⟨dA,.inl (by omega), ?_⟩
    have gne:(h5.set n2 (some ⟨31,true,aS .u32 (kI ln (i+1) (s+1))⟩)).get (n2+1)=some ⟨338,true,eY (.slice al ln.length cl) (.slice (some ⟨n2,0,none⟩) ln.length ln.length) tH (cR (cB ln) (i+1)) (cR (bw ln) (i+1))⟩:=by rw[aD _ _ (by omega)];exact Er
    try simp(disch:=first|omega|assumption) only[af,aa,RZ,gne,cv2]
    have IY:Own (h5.set n2 (some ⟨31,true,aS .u32 (kI ln (i+1) (s+1))⟩)) (n2+2) n5 3 tH (aS .i64 (iN (iu ln (i+1)++hC ln (i+1) s))):=Es.aB (an _) fun b bW=>aD _ _ (by have:=(Es.lt bW).1;omega)
    have asL:(aS .i64 (iN (iu ln (i+1)++hC ln (i+1) s))).length<=1000:=by
     rw[eJ,gK,bX,oI,BZ _ (by omega)]
     have h1:=aaB (ln:=ln) (show i+1<=21 by omega)
     have qi:bw ln 21<=ln.length:=by
      have:=oI ln 21
      rw[<-this]
      exact alg ln
     have h3':=OU ln (i+1) s
     have h4':cn ln (i+1)<=ln.length:=List.countP_le_length
     omega
    refine uZ trivial (mV _ _) IY (by omega) (by omega) _ fun h7 g7 k7=> ?_
    have g7c:h7.get (n2+1)=some ⟨338,true,eY (.slice al ln.length cl) (.slice (some ⟨n2,0,none⟩) ln.length ln.length) tH (cR (cB ln) (i+1)) (cR (bw ln) (i+1))⟩:=by rw[k7 (n2+1) (by omega) fun q=>by have:=(IY.lt q).1;omega];exact gne
    have lt7:n2+1<n5+2:=by omega
    try simp(disch:=first|omega|assumption) only[af,aa,RZ,g7c,cv3,O0]
    refine⟨.inl (by omega), ?_⟩
    rw[Et,w6]
    have sn:hC ln (i+1) (s+1)=hC ln (i+1) s++[s]:=by rw[Em,if_pos m]
    have on:aS .i64 (iN (iu ln (i+1)++hC ln (i+1) (s+1)))=aS .i64 (iN (iu ln (i+1)++hC ln (i+1) s))++[.int .i64 (s:Int)]:=by
     rw[sn,<-List.append_assoc,rT,pI]
     rfl
    refine pK (dV ln s+1) _ _ ⟨by omega,fun b bW=> ?_,by rw[IJ dA,if_pos m,aaN], ?_,_,get_eq _ _ _, ?_⟩
    ·rw[aD _ _ (by omega),k7 b (by omega) (fun q=>by have:=(IY.lt q).1;omega),aD _ _ (by omega)]
     exact Ep b bW
    ·rw[aD _ _ (by omega),k7 n2 (by omega) (fun q=>by have:=(IY.lt q).1;omega),get_eq]
    ·rw[on]
     refine Or.inr ⟨n5+1,by simp,by rw[aD _ _ (by omega)];exact g7,by omega,by omega⟩
   ·have qY:(((ln.getD s 0:Nat):Int)==((i+1:Nat):Int))=false:=beq_eq_false_iff_ne.2 fun e=>m (by omega)
    have w6:((s:Nat):Int)+1=((s+1:Nat):Int):=rfl
    have sn:hC ln (i+1) (s+1)=hC ln (i+1) s:=by rw[Em,if_neg m,cu]
    try simp(disch:=first|omega|assumption) only[af,aa,RZ,e5,hgx,c5,qY]
    refine pK (iF ln (i+1) s) h5 n5 ⟨tG,Ep,by rw[IJ dA,if_neg m];rfl,by rw[alb m];exact IW,tH,Er,by rw[sn];exact Es⟩
end
theorem O7{f:Nat->Nat}{n j:Nat}(h:j<=n):cR f n j=f j:=by unfold cR;rw[if_pos h]
section
variable {lf d n p c lo hi:Nat} {h:H} {S:List UInt8} {D A:Nat} {ln:List Nat}
theorem alp(x:bf h n p S D A)(k:tF h lo hi c ln)(w:Wh ln)(hh:hi<=n)(hp:p<lo)(hl:ln.length<=258)(aC:100<=lf):ai (fun b=>b=p) n (au ah gt lf (d+4) 273 #[.pointer (some ⟨c,0,none⟩),.pointer (some ⟨p,0,none⟩)]) h n fun v h' n'=>n'=n∧
 ((iX ln (ax S D A)=none∧v= .tuple #[.int .i64 0,.int .i64 3]∧∃B,bf h' n p S D B)∨∃s,iX ln (ax S D A)=some s∧v= .tuple #[.int .i64 (s:Int),.int .i64 0]∧bf h' n p S D (A+ln.getD s 0)):=by
 have x0:=x
 have k0:=k
 obtain⟨GZ,klt,lv,cv,ov,g,a1,a2,b1,b2,o1,o2⟩:=k
 rw[aL (fun _=>akh) rfl]
 refine ai.aH ?_
 unfold OD
 obtain⟨bs,bR⟩:∃bs,ax S D A=bs:=⟨_,rfl⟩
 have alq:=x.len
 have xlo:=x.lo
 rw[bR]at alq⊢
 have cp:c≠p:=by omega
 refine eD 20 (fun fu i (q:Nat)=>BU lf (au ah gt lf (d+3)) fu (Eh lf (au ah gt lf (d+3))) (.pointer (some ⟨c,0,none⟩)) (.pointer (some ⟨p,0,none⟩)) (.int .i64 0) (.int .i64 0) (.int .i64 (q:Int)) (.int .i64 ((i+1:Nat):Int)))
  (fun i q h' n'=>n'=n∧(∀b,b≠p->b<n->h'.get b=h.get b)∧i<=bs.length∧q=num (bs.take i) 0∧bf h' n p S D (A+i)∧rQ ln bs i) ?_ ?_ lf 0 0 _ _ (aR _) (by omega) ⟨rfl,fun _ _ _=>rfl,aR _,rfl,x,by unfold rQ;rw[IL w];exact aR _⟩
 ·rintro fu q h' n' ⟨rfl,hk,hb,rfl,x',Eu⟩
  have h1:=w.full
  have h2:=jI (bs.take 20)
  unfold rQ at Eu
  rw[h1]at Eu
  rw[dr,kR hb]at h2
  omega
 ·rintro fu i q h' n' uI ⟨rfl,hk,hb,rfl,x',Eu⟩ next
  have e1:((i+1:Nat):Int)<=20:=by omega
  have e11:((1:Nat):Int)=1:=rfl
  have alr:ax S D (A+i)=bs.drop i:=by rw[<-rR xlo,bR]
  rw[BU]
  try simp(disch:=first|omega|assumption) only[af,aa,RZ,e1]
  refine aU aK (nK (lf:=lf) (d:=d) x' 1 (by omega) (by omega)) (an _) (fun b _ bW=> .inr bW) fun v1 h1 n1 aM aY hq=> ?_
  obtain⟨rfl,hq⟩:=hq
  rw[alr]at hq
  rcases hq with ⟨sh,rfl,rfl⟩|⟨lg,rfl,x1⟩
  ·have z1:((3:Int) !=0)=true:=rfl
   try simp(disch:=first|omega|assumption) only[af,aa,RZ,bG,ext1,z1]
   (try unfold Eh);(try dsimp only)
   try simp(disch:=first|omega|assumption) only[af,aa,RZ]
   have bl:bs.length=i:=by simp at sh;omega
   refine .inl ⟨aaz fun s m=> ?_,_,x'⟩
   have:=Eu.no (by omega) (i:=s) (by have:=m.2.1;omega)
   exact this m
  ·have gT:i<bs.length:=by simp at lg;omega
   have z0:((0:Int) !=0)=false:=rfl
   have t1:(bs.drop i).take 1=[bs[i]]:=by rw[vI gT,arh,RD]
   have tk:bs.take (i+1)=bs.take i++[bs[i]]:=qa gT
   have nb:num [bs[i]] 0=bn bs[i]:=by show 2*0+bn bs[i]=_;omega
   have nn:num (bs.take (i+1)) 0=2*num (bs.take i) 0+bn bs[i]:=by rw[tk,Ek]
   have bl:=xh bs[i]
   have pw:=jI (bs.take (i+1))
   rw[dr,kR (by omega)]at pw
   have p20:2^(i+1)<=2^20:=ur (by decide) (by omega)
   have fle:=Eu.next gT
   have frl:bw ln (i+1)<=258:=lM (IV ln _) hl
   have asM:bw ln (i+1+1)<=258:=lM (IV ln _) hl
   have aln:=w.cap (n:=i+1) (by omega)
   rw[t1,nb]
   have Ew:h1.get c=some ⟨338,true,eY lv cv ov (cR (cB ln) 20) (cR (bw ln) 21)⟩:=by rw[aY c (by omega) cp,hk c cp (by omega)];exact g
   have c1:(eY lv cv ov (cR (cB ln) 20) (cR (bw ln) 21))[3+(i+1)]? =some (.int .i64 (cB ln (i+1):Int)):=by rw[ak' (by omega),O7 (by omega)]
   have c2:(eY lv cv ov (cR (cB ln) 20) (cR (bw ln) 21))[24+(i+1)]? =some (.int .i64 (bw ln (i+1):Int)):=by rw[aaK (by omega),O7 (by omega)]
   have c3:(eY lv cv ov (cR (cB ln) 20) (cR (bw ln) 21))[24+(i+1+1)]? =some (.int .i64 (bw ln (i+1+1):Int)):=by rw[aaK (by omega),O7 (by omega)]
   have c4:(eY lv cv ov (cR (cB ln) 20) (cR (bw ln) 21))[2]? =some ov:=rfl
   have w1:IntKind.i64.wrap (2*((num (bs.take i) 0:Nat):Int))=((2*num (bs.take i) 0:Nat):Int):=by rw[aJ (by omega) (by omega)];omega
   have w2:IntKind.i64.wrap ((bn bs[i]:Nat):Int)=((bn bs[i]:Nat):Int):=aJ (by omega) (by omega)
   have w3:IntKind.i64.wrap (((2*num (bs.take i) 0:Nat):Int)+((bn bs[i]:Nat):Int))=((num (bs.take (i+1)) 0:Nat):Int):=by rw[aJ (by omega) (by omega)];omega
   have w4:IntKind.i64.wrap (((bw ln (i+1):Nat):Int)+((num (bs.take (i+1)) 0:Nat):Int))=((bw ln (i+1)+num (bs.take (i+1)) 0:Nat):Int):=by rw[aJ (by omega) (by omega)];omega
   have w5:IntKind.i64.wrap (((bw ln (i+1)+num (bs.take (i+1)) 0:Nat):Int)-((cB ln (i+1):Nat):Int))=((bw ln (i+1)+(num (bs.take (i+1)) 0-cB ln (i+1)):Nat):Int):=by rw[aJ (by omega) (by omega)];omega
   have w6:IntKind.i64.wrap (((i+1:Nat):Int)+1)=((i+1+1:Nat):Int):=by rw[aJ (by omega) (by omega)];rfl
   have IZ:((i+1:Nat):Int)+1=((i+1+1:Nat):Int):=rfl
   have i0:(0:Int)<=((i+1:Nat):Int):=by omega
   have i1:((i+1:Nat):Int)<21:=by omega
   have i2:((i+1:Nat):Int)<22:=by omega
   have i3:(0:Int)<=((i+1+1:Nat):Int):=by omega
   have i4:((i+1+1:Nat):Int)<22:=by omega
   have it:((i+1:Nat):Int).toNat=i+1:=rfl
   have it2:((i+1+1:Nat):Int).toNat=i+1+1:=rfl
   have cn':c<n1:=by omega
   have fs:bw ln (i+1+1)=bw ln (i+1)+cn ln (i+1):=rfl
   by_cases found:num (bs.take (i+1)) 0<cB ln (i+1)+cn ln (i+1)
   ·have e5:((bw ln (i+1)+(num (bs.take (i+1)) 0-cB ln (i+1)):Nat):Int)<((bw ln (i+1+1):Nat):Int):=by omega
    obtain⟨s,hs⟩:=tB (ln:=ln) (bs:=bs) (n:=i+1) (by omega) fle found
    rcases hs with ⟨nu,dN⟩|hs
    rotate_left
    ·omega
    obtain⟨mt,iR⟩:=dN (by omega)
    have O8:Row h1 n1 3 .i64 ov (iN (iu ln 21)):=(o1.mW (n':=n1) hh fun b bW=>by
     have h1:=o1.lt bW
     have h2:=o2 b bW
     rw[aY b (by omega) (by omega)];exact hk b (by omega) (by omega))
    have ol:(iN (iu ln 21)).length=bw ln 21:=by rw[gK,oI]
    have rl:bw ln (i+1)+(num (bs.take (i+1)) 0-cB ln (i+1))<bw ln 21:=by
     have:=(List.getElem?_eq_some_iff.1 nu).1
     rw[oI]at this
     exact this
    obtain⟨b,off,cap,o,ks,kB,hgo,KZ,_,_,_,gQ⟩:=O8.some (by omega)
    have co:=gQ _ (by rw[ol];exact rl)
    have cs:(iN (iu ln 21)).getD (bw ln (i+1)+(num (bs.take (i+1)) 0-cB ln (i+1))) 0=(s:Int):=by
     rw[tE,bC,nu]
     rfl
    rw[cs]at co
    rw[ol]at kB
    subst kB
    have e6:(0:Int)<=((bw ln (i+1)+(num (bs.take (i+1)) 0-cB ln (i+1)):Nat):Int):=by omega
    have e7:((bw ln (i+1)+(num (bs.take (i+1)) 0-cB ln (i+1)):Nat):Int)<((bw ln 21:Nat):Int):=by omega
    try simp(disch:=first|omega|assumption) only[af,aa,RZ,bG,ext1,z0,w1,w2,w3,Ew,i0,i1,i2,i3,i4,it,it2,c1,c2,c3,c4,w4,w5,w6,IZ,e5,e6,e7,hgo,co]
    (try unfold Eh);(try dsimp only)
    try simp(disch:=first|omega|assumption) only[af,aa,RZ]
    refine .inr ⟨s,aay mt,rfl, ?_⟩
    rw[iR]
    exact x1
   ·have e5:¬((bw ln (i+1)+(num (bs.take (i+1)) 0-cB ln (i+1)):Nat):Int)<((bw ln (i+1+1):Nat):Int):=by omega
    try simp(disch:=first|omega|assumption) only[af,aa,RZ,bG,ext1,z0,w1,w2,w3,Ew,i0,i1,i2,i3,i4,it,it2,c1,c2,c3,w4,w5,w6,IZ,e5]
    refine next _ _ _ ⟨rfl,fun b iS cF=>by rw[aY b cF iS];exact hk b iS cF,by omega,rfl,x1, ?_⟩
    unfold rQ
    omega
theorem als(x:bf h n p S D A)(k:tF h lo hi c ln)(w:Wh ln)(hh:hi<=n)(hp:p<lo)(hl:ln.length<=258)(aC:100<=lf):ai (fun b=>b=p) n (au ah gt lf (d+5) 263 #[.pointer (some ⟨c,0,none⟩),.pointer (some ⟨p,0,none⟩)]) h n fun v h' n'=>n'=n∧
 ((iX ln (ax S D A)=none∧v= .tuple #[.int .i64 0,.int .i64 3]∧bf h' n p S D A)∨∃s,iX ln (ax S D A)=some s∧v= .tuple #[.int .i64 (s:Int),.int .i64 0]∧bf h' n p S D (A+ln.getD s 0)):=by
 rw[aL (fun _=>aj6) rfl]
 refine ai.aH ?_
 unfold ZF
 try simp(disch:=first|omega|assumption) only[af,aa,RZ]
 refine bL (xj x) (an _) (fun _ _ h=>h.elim) ?_
 refine aU aK (alp (d:=d) x k w hh hp hl aC) (an _) (fun b _ bW=> .inr bW) fun v1 h1 n1 aM aY hq=> ?_
 obtain⟨rfl,hq⟩:=hq
 rcases hq with ⟨q1,rfl,B,x1⟩|⟨s,q1,rfl,x1⟩
 ·have z1:((3:Int) !=0)=true:=rfl
  try simp(disch:=first|omega|assumption) only[af,aa,RZ,bG,ext1,z1]
  refine aU aK (IP (lf:=lf) (d:=d+2) x1 A x.lo x.hi) (an _) (fun b _ bW=> .inr bW) fun v2 h2 n2 cJ cf bu=> ?_
  obtain⟨_,rfl,x2⟩:=bu
  try simp(disch:=first|omega|assumption) only[af,aa,RZ]
  exact .inl ⟨q1,x2⟩
 ·have z0:((0:Int) !=0)=false:=rfl
  try simp(disch:=first|omega|assumption) only[af,aa,RZ,bG,ext1,z0]
  exact .inr ⟨s,q1,rfl,x1⟩
end
inductive St (α:Type)
 |short
 |bad (e:Int)
 |ok (a:α) (used:Nat)
def mC(m:Int)(lens:List Nat)(used:Nat):St (Nat×List Nat):=if 1<=m∧m<=20 then .ok (m.toNat,lens) used else .bad 22
def eU(now:Nat)(lens:List Nat)(bs:List Bool):St (Nat×List Nat):=
 if now=0 then(if bs.length<5 then .short else mC (num (bs.take 5) 0:Int) lens 5)
 else match bs with
  |[]=> .short
  |false::_=> .ok (now,lens++[now]) 1
  |[true]=> .short
  |true::b::_=>mC ((now:Int)+1-2*(bn b:Int)) lens 2
def dB(size now:Nat)(lv:Value)(bV:Bool):AB:=⟨333,true,[.int .i64 (size:Int),.int .i64 (now:Int),lv,.bool bV]⟩
structure iY (h:H) (lo n q size now:Nat) (lv:Value) (lens:List Nat) (bV:Bool):Prop where
 get:h.get q=some (dB size now lv bV)
 ge:lo<=q
 lt:q<n
 own:Own h lo n 3 lv (aS .i64 (iN lens))
theorem iY.ne{h:H}{lo n q size now:Nat}{lv:Value}{lens:List Nat}{bV:Bool}(x:iY h lo n q size now lv lens bV){b:Nat}(hb:aN lv b):b≠q:=fun e=>by
 obtain⟨B,h1,h2⟩:=x.own.elem hb
 rw[e,x.get]at h1
 cases h1
 exact absurd (show(333:Nat)=3 from h2) (by decide)
theorem iY.aB{h h':H}{lo n n' q size now:Nat}{lv:Value}{lens:List Nat}{bV:Bool}(x:iY h lo n q size now lv lens bV)(hn:n<=n')(hk:∀b,b<n->(b=q∨aN lv b)->h'.get b=h.get b):iY h' lo n' q size now lv lens bV:=
 ⟨(hk q x.lt (.inl rfl)).trans x.get,x.ge,mb x.lt hn,x.own.aB hn fun b hb=>hk b (x.own.lt hb).2 (.inr hb)⟩
section
variable {lf d n p q lo size now:Nat} {h:H} {S:List UInt8} {D A:Nat} {lv:Value} {lens:List Nat} {bV:Bool}
theorem alu(z:Int):ai (fun _=>False) n (au ah gt lf (d+1) 271 #[.int .i64 z]) h n fun v' h' n'=>v'= .bool (decide (3<=z)&&decide (z<=258))∧h'=h∧n'=n:=by
 rw[aL (fun _=>akd) rfl]
 refine ai.aH ?_
 unfold ZR
 by_cases c:3<=z
 ·try simp(disch:=first|omega|assumption) only[af,aa,RZ,c]
 ·try simp(disch:=first|omega|assumption) only[af,aa,RZ,c]
theorem alv(z:Int):ai (fun _=>False) n (au ah gt lf (d+1) 284 #[.int .i64 z]) h n fun v' h' n'=>v'= .bool (decide (1<=z)&&decide (z<=20))∧h'=h∧n'=n:=by
 rw[aL (fun _=>akv) rfl]
 refine ai.aH ?_
 unfold Z9
 by_cases c:1<=z
 ·try simp(disch:=first|omega|assumption) only[af,aa,RZ,c]
 ·try simp(disch:=first|omega|assumption) only[af,aa,RZ,c]
theorem aaO(h3:3<=size)(rV:size<=258):ai (fun _=>False) n (au ah gt lf (d+2) 259 #[.int .i64 (size:Int)]) h n fun v h' n'=>v= .tuple #[.pointer (some ⟨n,0,none⟩),.int .i64 0]∧n'=n+1∧iY h' n n' n size 0 (.slice none 0 0) [] false:=by
 rw[aL (fun _=>aj1) rfl]
 refine ai.aH ?_
 unfold ZA
 refine bL (alu (size:Int)) (an _) (fun _ _ h=>h.elim) ?_
 rw[decide_eq_true (show(3:Int)<=(size:Int) by omega),decide_eq_true (show(size:Int)<=258 by omega)]
 try simp(disch:=first|omega|assumption) only[af,aa,RZ,fR,jP]
 refine jH trivial _ _ ?_
 try simp(disch:=first|omega|assumption) only[af,aa,RZ]
 exact⟨get_eq _ _ _,an _,by omega,Own.nil _ _ _ _⟩
theorem aaP(x:iY h lo n q size now lv lens bV):ai (fun _=>False) n (au ah gt lf (d+1) 266 #[.pointer (some ⟨q,0,none⟩)]) h n fun v' h' n'=>v'= .bool (decide (lens.length=size))∧h'=h∧n'=n:=by
 have g:=x.get
 have hq:=x.lt
 unfold dB at g
 have hr:=x.own.row
 obtain⟨a,c,rfl⟩:=hr.len
 rw[aL (fun _=>aj9) rfl]
 refine ai.aH ?_
 unfold ZI
 have e:((((iN lens).length:Nat):Int)==(size:Int))=decide (lens.length=size):=by
  rw[gK]
  by_cases e:lens.length=size
  ·rw[decide_eq_true e,e];simp
  ·rw[decide_eq_false e];exact beq_eq_false_iff_ne.2 fun q=>e (by omega)
 try simp(disch:=first|omega|assumption) only[af,aa,RZ,gm,gu,gy,gz,gB,gC,gD,gE,gF,gG,g,e]
theorem alw(x:iY h lo n q size now lv lens bV)(h0:0<lens.length)(hl:lens.length<=1000):ai (fun _=>False) n (au ah gt lf (d+2) 268 #[.pointer (some ⟨q,0,none⟩)]) h n fun v' h' n'=>Row h' n' 3 .i64 v' (iN lens):=by
 have g:=x.get
 have hq:=x.lt
 unfold dB at g
 rw[aL (fun _=>aka) rfl]
 refine ai.aH ?_
 unfold ZO
 try simp(disch:=first|omega|assumption) only[af,aa,RZ,gm,gu,gy,gz,gB,gC,gD,gE,gF,gG,g]
 refine aU aK (OK lf d n h lv (iN lens) x.own.row (by rw[gK];exact h0) (by rw[gK];omega)) (an _) (fun _ _ h=>h.elim) fun v1 h1 n1 aM aY hq=> ?_
 try simp(disch:=first|omega|assumption) only[af,aa,RZ]
 exact hq.2.1
theorem alx(x:iY h lo n q size now lv lens bV)(m:Int):ai (fun b=>b=q) n (au ah gt lf (d+2) 281 #[.pointer (some ⟨q,0,none⟩),.int .i64 m]) h n fun v' h' n'=>n'=n∧(∀b,b≠q->h'.get b=h.get b)∧((¬(1<=m∧m<=20)∧v'= .int .i64 22∧h'.get q=some (dB size now lv true))∨((1<=m∧m<=20)∧v'= .int .i64 0∧h'.get q=some (dB size m.toNat lv bV))):=by
 have g:=x.get
 have hq:=x.lt
 unfold dB at g
 rw[aL (fun _=>akr) rfl]
 refine ai.aH ?_
 unfold Z5
 refine bL (alv m) (an _) (fun _ _ h=>h.elim) ?_
 by_cases c:1<=m∧m<=20
 ·rw[decide_eq_true c.1,decide_eq_true c.2]
  try simp(disch:=first|omega|assumption) only[af,aa,RZ,gm,gu,gy,gz,gB,gC,gD,gE,gF,gG,fR,jP,g,true_or,or_true]
  exact⟨fun b hb=>aD _ _ hb,.inr ⟨c,by unfold dB;rw[Int.toNat_of_nonneg (by omega)]⟩⟩
 ·have:(decide (1<=m)&&decide (m<=20))=false:=by
   cases e:(decide (1<=m)&&decide (m<=20))with
   |false=>rfl
   |true=>rw[cj,decide_eq_true_eq,decide_eq_true_eq]at e;exact absurd e c
  rw[this]
  try simp(disch:=first|omega|assumption) only[af,aa,RZ,gm,gu,gy,gz,gB,gC,gD,gE,gF,gG,cP,g,true_or,or_true]
  exact⟨fun b hb=>aD _ _ hb,.inl ⟨c,rfl⟩⟩
def B9(h:H)(n p:Nat)(S:List UInt8)(D A lo q size now:Nat)(lv:Value)(lens:List Nat)(v':Value)(h':H)(n':Nat):Prop:=
 match eU now lens (ax S D A)with
 | .short=>v'= .int .i64 3∧bf h' n' p S D A∧iY h' lo n' q size now lv lens false
 | .bad e=>v'= .int .i64 e∧(∃B,bf h' n' p S D B)∧iY h' lo n' q size now lv lens true
 | .ok (m,l) u=>v'= .int .i64 0∧bf h' n' p S D (A+u)∧∃jK,iY h' lo n' q size m jK l false∧∀b,aN jK b->aN lv b∨n<=b
theorem aly(x:bf h n p S D A)(y:iY h lo n q size now lv lens false)(fi:p≠q)(dX:¬aN lv p)(aaQ:now<=20)(hl:lens.length<=1000)(jj:lo<=n)(aC:100<=lf):
 ai (fun b=>b=p∨b=q∨aN lv b) n (au ah gt lf (d+4) 276 #[.pointer (some ⟨q,0,none⟩),.pointer (some ⟨p,0,none⟩)]) h n fun v' h' n'=>(v'= .int .i64 3∧eU now lens (ax S D A)= .short∧(∃B,bf h' n' p S D B)∧iY h' lo n' q size now lv lens false)∨(v'≠ .int .i64 3∧eU now lens (ax S D A)≠ .short∧B9 h n p S D A lo q size now lv lens v' h' n'):=by
 have g:=y.get
 have hq:=y.lt
 unfold dB at g
 obtain⟨bs,bR⟩:∃bs,ax S D A=bs:=⟨_,rfl⟩
 rw[aL (fun _=>akl) rfl]
 refine ai.aH ?_
 unfold ZZ B9
 have z1:((3:Int) !=0)=true:=rfl
 have z0:((0:Int) !=0)=false:=rfl
 have e1:((1:Nat):Int)=1:=rfl
 have dk:∀{h1:H},(∀b,b<n->¬b=p->h1.get b=h.get b)->iY h1 lo n q size now lv lens false:=fun fr=>y.aB (an _) fun b hb cF=>fr b hb (by
  rcases cF with rfl|cF
  ·exact fun e=>fi e.symm
  ·exact fun e=>dX (e▸cF))
 have told:∀(h1:H) (n1:Nat) (m:Int) (u:Nat),n1=n->(∀b,b<n->¬b=p->h1.get b=h.get b)->bf h1 n1 p S D (A+u)->eU now lens bs=mC m lens u->
  ai (fun b=>b=p∨b=q∨aN lv b) n (ay (au ah gt lf (d+3)) 281 [.pointer (some ⟨q,0,none⟩),.int .i64 m] fun v=>aj [v]) h1 n1 fun v' h' n'=>(v'= .int .i64 3∧eU now lens bs= .short∧(∃B,bf h' n' p S D B)∧iY h' lo n' q size now lv lens false)∨(v'≠ .int .i64 3∧eU now lens bs≠ .short∧match eU now lens bs with
   | .short=>v'= .int .i64 3∧bf h' n' p S D A∧iY h' lo n' q size now lv lens false
   | .bad e=>v'= .int .i64 e∧(∃B,bf h' n' p S D B)∧iY h' lo n' q size now lv lens true
   | .ok (m,l) u=>v'= .int .i64 0∧bf h' n' p S D (A+u)∧∃jK,iY h' lo n' q size m jK l false∧∀b,aN jK b->aN lv b∨n<=b):=by
  rintro h1 n1 m u rfl fr x1 dT
  have y1:=dk fr
  refine aU aK (alx (d:=d+1) y1 m) (an _) (fun b _ hb=> .inr (.inr (.inl hb))) fun v2 h2 n2 cJ cf bu=> ?_
  obtain⟨rfl,k2,bu⟩:=bu
  have x2:=x1.aB (an _) (k2 p fi)
  have o2:Own h2 lo _ 3 lv (aS .i64 (iN lens)):=y1.own.aB (an _) fun b hb=>k2 b (y1.ne hb)
  try simp(disch:=first|omega|assumption) only[af,aa,RZ]
  refine .inr ?_
  rw[dT]
  unfold mC
  rcases bu with ⟨c,rfl,g2⟩|⟨c,rfl,g2⟩
  ·rw[if_neg c]
   exact⟨by simp,by simp,rfl,⟨_,x2⟩,g2,y.ge,hq,o2⟩
  ·rw[if_pos c]
   exact⟨by simp,by simp,rfl,x2,lv,⟨g2,y.ge,hq,o2⟩,fun b hb=> .inl hb⟩
 by_cases hz:now=0
 ·have e0:((now:Int)==0)=true:=by rw[hz];rfl
  rw[bR]
  try simp(disch:=first|omega|assumption) only[af,aa,RZ,gm,gu,gy,gz,gB,gC,gD,gE,gF,gG,g,e0]
  refine aU aK (nK (lf:=lf) (d:=d) x 5 (by omega) (by omega)) (an _) (fun b _ hb=> .inr (.inl hb)) fun v1 h1 n1 aM aY aw=> ?_
  obtain⟨rfl,aw⟩:=aw
  rw[bR]at aw
  rcases aw with ⟨sh,rfl,rfl⟩|⟨lg,rfl,x1⟩
  ·try simp(disch:=first|omega|assumption) only[af,aa,RZ,bG,ext1,z1]
   refine .inl ⟨by unfold eU;rw[if_pos hz,if_pos sh],⟨_,x⟩,y⟩
  ·have nl:=jI (bs.take 5)
   rw[dr,kR lg]at nl
   have w1:IntKind.i64.wrap ((num (bs.take 5) 0:Nat):Int)=((num (bs.take 5) 0:Nat):Int):=aJ (by omega) (by omega)
   try simp(disch:=first|omega|assumption) only[af,aa,RZ,bG,ext1,z0,w1]
   exact told h1 n1 _ 5 rfl (fun b hb cF=>aY b hb cF) x1 (by unfold eU;rw[if_pos hz,if_neg (by omega)])
 ·have e0:((now:Int)==0)=false:=beq_eq_false_iff_ne.2 (by omega)
  rw[bR]
  try simp(disch:=first|omega|assumption) only[af,aa,RZ,gm,gu,gy,gz,gB,gC,gD,gE,gF,gG,g,e0]
  refine aU aK (nK (lf:=lf) (d:=d) x 1 (by omega) (by omega)) (an _) (fun b _ hb=> .inr (.inl hb)) fun v1 h1 n1 aM aY aw=> ?_
  obtain⟨rfl,aw⟩:=aw
  rw[bR]at aw
  rcases aw with ⟨sh,rfl,rfl⟩|⟨lg,rfl,x1⟩
  ·try simp(disch:=first|omega|assumption) only[af,aa,RZ,bG,ext1,z1]
   have:bs=[]:=adr (by omega)
   refine .inl ⟨by unfold eU;rw[if_neg hz,this],⟨_,x⟩,y⟩
  ·obtain⟨b,nL,ym⟩:∃b nL,bs=b::nL:=by
    cases bs with
    |nil=>simp at lg
    |cons b nL=>exact⟨b,nL,rfl⟩
   subst ym
   have nb:num ((b::nL).take 1) 0=bn b:=by show 2*0+bn b=_;omega
   have y1:=dk (h1:=h1) fun c hc ky=>aY c hc ky
   have g1:=y1.get
   unfold dB at g1
   rw[nb]
   cases b with
   |false=>
    have ez:(((bn false:Nat):Int)==0)=true:=rfl
    have cv:∀z:Value,[dG .i64 (size:Int),.int .i64 (now:Int),lv,.bool false].set 2 z=[dG .i64 (size:Int),.int .i64 (now:Int),z,.bool false]:=fun _=>rfl
    try simp(disch:=first|omega|assumption) only[af,aa,RZ,bG,ext1,z0,ez,g1]
    refine ve trivial (mV _ _) y1.own (by rw[eJ,gK];omega) (fun c hc=> .inr (.inr (.inr hc))) _ fun h2 g2 k2=> ?_
    have g3:h2.get q=some ⟨333,true,[.int .i64 (size:Int),.int .i64 (now:Int),lv,.bool false]⟩:=by rw[k2 q (by omega) fun r=>y1.ne r rfl];exact g1
    have bu:q<n1+2:=by omega
    have Al:=x1.lt
    try simp(disch:=first|omega|assumption) only[af,aa,RZ,g3,cv]
    have on:aS .i64 (iN (lens++[now]))=aS .i64 (iN lens)++[.int .i64 (now:Int)]:=by
     rw[rT,pI];rfl
    refine .inr ⟨by simp, ?_⟩
    have es:eU now lens (false::nL)= .ok (now,lens++[now]) 1:=by unfold eU;rw[if_neg hz]
    rw[es]
    refine⟨by simp,x1.aB (by omega) ?_,_,⟨get_eq _ _ _,y.ge,bu, ?_⟩,fun c hc=> .inr (by rw[hc.inj];omega)⟩
    ·rw[aD _ _ fi,k2 p Al dX]
    ·rw[on]
     exact .inr ⟨n1+1,by simp,by rw[aD _ _ (by omega)];exact g2,by omega,by omega⟩
   |true=>
    have ez:(((bn true:Nat):Int)==0)=false:=rfl
    try simp(disch:=first|omega|assumption) only[af,aa,RZ,bG,ext1,z0,ez]
    have alz:ax S D (A+1)=nL:=by rw[<-rR x.lo,bR];rfl
    refine aU aK (nK (lf:=lf) (d:=d) x1 1 (by omega) (by omega)) (an _) (fun b _ hb=> .inr (.inl hb)) fun v3 h3 n3 fw dK bQ=> ?_
    obtain⟨rfl,bQ⟩:=bQ
    rw[alz]at bQ
    rcases bQ with ⟨sh,rfl,rfl⟩|⟨lg3,rfl,x3⟩
    ·try simp(disch:=first|omega|assumption) only[af,aa,RZ,bG,ext1,z1]
     have:nL=[]:=adr (by omega)
     refine .inl ⟨by unfold eU;rw[if_neg hz,this],⟨_,x1⟩,y1⟩
    ·obtain⟨b2,Ey,cF⟩:∃b Ey,nL=b::Ey:=by
      cases nL with
      |nil=>simp at lg3
      |cons b Ey=>exact⟨b,Ey,rfl⟩
     subst cF
     have nb2:num ((b2::Ey).take 1) 0=bn b2:=by show 2*0+bn b2=_;omega
     rw[nb2]
     have y3:=dk (h1:=h3) fun c hc ky=>(dK c hc ky).trans (aY c hc ky)
     have g3:=y3.get
     unfold dB at g3
     have bl:=xh b2
     have w1:IntKind.i64.wrap ((now:Int)+1)=(now:Int)+1:=aJ (by omega) (by omega)
     have w2:IntKind.i64.wrap ((bn b2:Nat):Int)=((bn b2:Nat):Int):=aJ (by omega) (by omega)
     have w3:IntKind.i64.wrap (2*((bn b2:Nat):Int))=2*((bn b2:Nat):Int):=aJ (by omega) (by omega)
     have w4:IntKind.i64.wrap ((now:Int)+1-2*((bn b2:Nat):Int))=(now:Int)+1-2*((bn b2:Nat):Int):=aJ (by omega) (by omega)
     try simp(disch:=first|omega|assumption) only[af,aa,RZ,bG,ext1,z0,g3,w1,w2,w3,w4]
     exact told h3 n3 _ 2 rfl (fun c hc ky=>(dK c hc ky).trans (aY c hc ky)) x3 (by unfold eU;rw[if_neg hz])
theorem alA(x:bf h n p S D A)(y:iY h lo n q size now lv lens false)(fi:p≠q)(dX:¬aN lv p)(aaQ:now<=20)(hl:lens.length<size)(hs:size<=258)(jj:lo<=n)(aC:100<=lf):
 ai (fun b=>b=p∨b=q∨aN lv b) n (au ah gt lf (d+5) 265 #[.pointer (some ⟨q,0,none⟩),.pointer (some ⟨p,0,none⟩)]) h n (B9 h n p S D A lo q size now lv lens):=by
 have g:=y.get
 have hq:=y.lt
 unfold dB at g
 rw[aL (fun _=>aj8) rfl]
 refine ai.aH ?_
 unfold ZH
 try simp(disch:=first|omega|assumption) only[af,aa,RZ]
 refine bL (aaP (lf:=lf) (d:=d+3) y) (an _) (fun _ _ h=>h.elim) ?_
 rw[decide_eq_false (show¬lens.length=size by omega)]
 try simp(disch:=first|omega|assumption) only[af,aa,RZ,g]
 refine bL (xj (lf:=lf) (d:=d+3) x) (an _) (fun _ _ h=>h.elim) ?_
 refine aU aK (aly (lf:=lf) (d:=d) x y fi dX aaQ (by omega) jj aC) (an _) (fun b _ hb=> .inr hb) fun v1 h1 n1 aM aY aw=> ?_
 rcases aw with ⟨rfl,dT,⟨B,x1⟩,y1⟩|⟨hv,dT,hp⟩
 ·have e3:((3:Int)==3)=true:=rfl
  try simp(disch:=first|omega|assumption) only[af,aa,RZ,e3]
  refine aU aK (IP (lf:=lf) (d:=d+2) x1 A x.lo x.hi) (by omega) (fun b _ hb=> .inr (.inl hb)) fun v2 h2 n2 cJ cf bu=> ?_
  obtain⟨_,rfl,x2⟩:=bu
  try simp(disch:=first|omega|assumption) only[af,aa,RZ]
  unfold B9
  rw[dT]
  exact⟨rfl,x2,y1.aB (an _) fun b hb cF=>cf b hb (by
   rcases cF with rfl|cF
   ·exact fun e=>fi e.symm
   ·exact fun e=>dX (e▸cF))⟩
 ·obtain⟨e,rfl⟩:∃e:Int,v1= .int .i64 e:=by
   unfold B9 at hp
   split at hp
   ·exact⟨_,hp.1⟩
   ·exact⟨_,hp.1⟩
   ·exact⟨_,hp.1⟩
  have e3:(e==3)=false:=beq_eq_false_iff_ne.2 fun q=>hv (by rw[q])
  try simp(disch:=first|omega|assumption) only[af,aa,RZ,e3]
  exact hp
end
def iZ{α:Type}(E:En->Prop)(m:M α)(h:H)(n:Nat)(Q:α->H->Nat->Prop):Prop:=
 ∃a h1 n1 L,m h n=some ⟨a,h1,n1,L⟩∧n<=n1∧(∀e∈L,e.wr=true->E e)∧Q a h1 n1
section
variable {α β:Type} {E:En->Prop} {m:M α} {k:α->M β} {h h1:H} {n n1:Nat} {a:α} {L:List En} {Q:β->H->Nat->Prop}
theorem iZ.step(e:m h n=some ⟨a,h1,n1,L⟩)(hn:n<=n1)(hw:∀e∈L,e.wr=true->E e)(x:iZ E (k a) h1 n1 Q):iZ E (m.bind k) h n Q:=by
 obtain⟨b,h2,n2,L2,e1,e2,e3,e4⟩:=x
 refine⟨b,h2,n2,L++L2,bZ e e1,by omega,fun x hx=> ?_,e4⟩
 rcases Ko.1 hx with q|q
 ·exact hw x q
 ·exact e3 x q
theorem iZ.aH{Q':α->H->Nat->Prop}(x:iZ E m h n Q'):iZ E (inside m) h n Q':=by
 obtain⟨a,h1,n1,L,e1,e2,e3,e4⟩:=x
 exact⟨a,h1,n1,_,jU e1,e2,fun e he=>e3 e (List.mem_filter.1 he).1,e4⟩
theorem iZ.run{Q':α->H->Nat->Prop}{W:Nat->Prop}{n0:Nat}(x:iZ E m h n Q')(hE:∀e,E e->n0<=e.b∨W e.b):ai W n0 m h n Q':=by
 obtain⟨a,h1,n1,L,e1,e2,e3,e4⟩:=x
 exact⟨a,h1,n1,L,e1,e2,fun e he hw=>hE e (e3 e he hw),e4⟩
theorem alB{QV:Value->H->Nat->Prop}(v:Value)(x:QV v h n):iZ E (aj [v]) h n QV:=
 ⟨v,h,n,[],rfl,an _,fun e he=>(nomatch he),x⟩
end
section
variable {β:Type} {E:En->Prop} {h h1:H} {n n1:Nat} {Q:β->H->Nat->Prop} {P:Program}
theorem iZ.ins{m:M Value}{v:Value}{L:List En}{k:Value->M β}(e:m h n=some ⟨v,h1,n1,L⟩)(hn:n<=n1)(hw:∀e∈L,e.wr=true->E e)(x:iZ E (k v) h1 n1 Q):iZ E (eW m k) h n Q:=by
 rw[nB]
 exact iZ.step (jU e) hn (fun x hx uF=>hw x (List.mem_filter.1 hx).1 uF) x
theorem aaR{T:Prop}(_:T)(b off:Nat)(k:Value->M β){B:AB}(hg:h.get b=some B)(hb:b<n){v:Value}(hv:B.cells[off]? =some v)(x:iZ E (k v) h n Q):iZ E (ar (.pointer (some ⟨b,off,none⟩)) k) h n Q:=by
 have e:Bp b off h n=some ⟨v,h,n,[⟨false,b,some off⟩]⟩:=by
  rw[GO]
  unfold rd
  simp only[hb,hg,hv,if_true]
 exact iZ.ins e (an _) (by simp) x
theorem aaS{T:Prop}(_:T)(b off:Nat)(v:Value)(k:Value->M β){e:TypeId}{cs:List Value}(hg:h.get b=some ⟨e,true,cs⟩)(hb:b<n)(ho:off<cs.length)(h1:one v=true)(hw:E ⟨true,b,some off⟩)(x:iZ E (k undef) (h.set b (some ⟨e,true,cs.set off v⟩)) n Q):
 iZ E (aZ (.pointer (some ⟨b,off,none⟩)) v k) h n Q:=by
 have jR:wr b off v h n=some ⟨(),h.set b (some ⟨e,true,cs.set off v⟩),n,[⟨false,b,some off⟩,⟨true,b,some off⟩]⟩:=by
  unfold wr
  simp[hb,hg,ho,h1]
 have e2:((yP b off v).bind fun _=>M.ret undef) h n=some ⟨undef,h.set b (some ⟨e,true,cs.set off v⟩),n,[⟨false,b,some off⟩,⟨true,b,some off⟩]⟩:=by
  rw[GP]
  have:=bZ (f:=fun _=>M.ret undef) jR (L2:=[]) (b:=undef) (h2:=h.set b (some ⟨e,true,cs.set off v⟩)) (n2:=n) rfl
  simpa using this
 show iZ E (match one v with
  |true=>eW ((yP b off v).bind fun _=>M.ret undef) k
  |false=> .fail) h n Q
 rw[h1]
 refine iZ.ins e2 (an _) (fun y hy gJ=> ?_) x
 simp at hy
 rcases hy with rfl|rfl
 ·cases gJ
 ·exact hw
end
section
variable {β:Type} {W:Nat->Prop} {n0:Nat} {h:H} {n:Nat} {Q:β->H->Nat->Prop} {P:Program}
theorem alC (hd:lW P=true) {gt:Nat->Hint} {lf d:Nat} {f:FuncId} {vs:List Value} {E:En->Prop} {Q':Value->H->Nat->Prop} {q:Nat} (s:iZ E (au P gt lf d f ⟨vs⟩) h n Q') (hE:∀e,E e->e.b=q) (hn:n0<=n) (hW:n0<=q∨W q) {k:Value×Tk->M β}
 (x:∀v h1 n1 T,n<=n1->(∀b,b<n->b≠q->h1.get b=h.get b)->Q' v h1 n1->T.n=n->(∀e∈T.log,e.b<n)->(∀e∈T.log,e.wr=true->E e)->ai W n0 (k (v,T)) h1 n1 Q):ai W n0 ((aG (ay (au P gt lf d) f vs M.ret)).bind k) h n Q:=by
 obtain⟨v,h1,n1,L,e1,e2,e3,e4⟩:=s
 obtain⟨f0,e0⟩:=Hl hd d f ⟨vs⟩ h n v h1 n1 L e1
 have A:=Loc.cZ P KN f0 f ⟨vs⟩ h n v h1 n1 L (e0 f0 (an _))
 have bM:∀e∈L.filter (fun e=> !(decide (n<=e.b)&&decide (e.b<n1))),e.b<n:=fun e he=>by
  obtain⟨h1,h2⟩:=List.mem_filter.1 he
  have:=A.lt e h1
  simp at h2
  omega
 have jR:∀e∈L.filter (fun e=> !(decide (n<=e.b)&&decide (e.b<n1))),e.wr=true->E e:=fun e he hw=>e3 e (List.mem_filter.1 he).1 hw
 exact oH (qz e1) e2 (fun e he hw=>by rw[hE e (jR e he hw)];exact hW) (x v h1 n1 _ e2 (fun b hb hq=>M1 hd e1 (W':=fun b=>b=q) (fun e he hw=> .inr (hE e (e3 e he hw))) b hb hq) e4 rfl bM jR)
theorem alD{a b:Tk}{p off:Nat}{E:En->Prop}(h1:a.n=n)(h2:a.n1=n)(h3:a.log=[⟨false,p,some off⟩])(h4:b.n=n)(h5:∀e∈b.log,e.b<n)(h6:∀e∈b.log,e.wr=true->E e)(hp:p<n)(hE:∀e,E e->∃j,e.k=some j∧j≠off):cT a b=false:=by
 rw[Br]
 unfold Tk.cA
 simp only[CN,ada,cj,decide_eq_true_eq,not_and,h3,vJ]
 refine⟨⟨⟨fun x hx hw=> ?_,fun x hx hw=> ?_⟩,fun x hx hle=> ?_⟩,fun x hx hle=> ?_⟩
 ·subst hx;cases hw
 ·simp only[ark,Kg,Ki,arb]
  unfold En.meets
  obtain⟨j,h7,h8⟩:=hE x (h6 x hx hw)
  simp[h7,h8]
 ·subst hx
  simp only at hle⊢
  omega
 ·have:=h5 x hx
  omega
theorem aaT{A:M Value}{B:M β}{k:Value×Tk->M β}(hB:B=A.bind fun v=>k (v,⟨0,0,[]⟩))(hk:∀v T,k (v,T)=k (v,⟨0,0,[]⟩))(x:ai W n0 B h n Q):ai W n0 ((aG A).bind k) h n Q:=by
 subst hB
 obtain⟨b,h2,n2,L,e1,e2,e3,e4⟩:=x
 obtain⟨a,h3,n3,L3,L4,eA,eK,rfl⟩:=Ev.bind_some e1
 exact⟨b,h2,n2,_,bZ (Du eA) (by rw[hk];exact eK),e2,e3,e4⟩
theorem O9{m:M Value}(f:Value->M β):eW m f=(eW m M.ret).bind f:=by
 rw[nB,nB]
 funext h n
 unfold M.bind M.ret
 cases inside m h n with
 |none=>rfl
 |some r=>simp
theorem O'{a v:Value}{k:Value×Tk->M β}(hk:∀v T,k (v,T)=k (v,⟨0,0,[]⟩))(x:ai W n0 (aZ a v fun v=>k (v,⟨0,0,[]⟩)) h n Q):ai W n0 ((aG (aZ a v M.ret)).bind k) h n Q:=by
 refine aaT ?_ hk x
 unfold aZ
 split
 ·split
  ·exact O9 _
  ·rfl
 ·rfl
theorem I0{sz:Nat}{a v:Value}{k:Value×Tk->M β}(hk:∀v T,k (v,T)=k (v,⟨0,0,[]⟩))(x:ai W n0 (aX sz a v fun v=>k (v,⟨0,0,[]⟩)) h n Q):ai W n0 ((aG (aX sz a v M.ret)).bind k) h n Q:=by
 refine aaT ?_ hk x
 unfold aX
 split
 ·split
  ·split
   ·exact O9 _
   ·rfl
  ·rfl
 ·rfl
theorem Pa {T:Prop} (c:T) {e:TypeId} {x:Value} (hx:one x=true) {lo:Nat} {v:Value} {cs:List Value} (o:Own h lo n e v cs) (hm:cs.length+1<=1099511627776) (hw:∀b,aN v b->n0<=b∨W b) (K:Value×Tk->Value×Tk->M β)
 (y:∀w T1 T2 h',h'.get (n+1)=some ⟨e,true,cs++[x]⟩->(∀b,b<n->¬aN v b->h'.get b=h.get b)->ai W n0 (K (w,T1) (.slice (some ⟨n+1,0,none⟩) (cs.length+1) (bq+(cs.length+1)),T2)) h' (n+2) Q):
 ai W n0 ((aG (cX e 1 x M.ret)).bind fun a=>(aG (dj e 1 v a.1 M.ret)).bind fun b=>K a b) h n Q:=by
 obtain⟨a,h2,n2,L,e1,e2,e3,e4⟩:=ve (Q:=fun v' h' n'=>v'=kf (some ⟨n+1,0,none⟩) (cs.length+1) (bq+(cs.length+1))∧n'=n+2∧h'.get (n+1)=some ⟨e,true,cs++[x]⟩∧∀b,b<n->¬aN v b->h'.get b=h.get b) c hx o hm hw M.ret fun h' g k=>(qy _).2 ⟨rfl,rfl,g,k⟩
 have e0:cX e 1 x (fun w=>dj e 1 v w M.ret)=(cX e 1 x M.ret).bind fun w=>dj e 1 v w M.ret:=by
  unfold cX
  split
  ·exact O9 _
  ·rfl
 rw[e0]at e1
 obtain⟨w,h3,n3,L3,L4,eB,eA,rfl⟩:=Ev.bind_some e1
 obtain⟨rfl,rfl,g,k⟩:=e4
 obtain⟨b,h5,n5,L7,f1,f2,f3,f4⟩:=y w ⟨n,n3,L3⟩ ⟨n3,n+2,L4⟩ _ g k
 refine⟨b,h5,n5,_,bZ (Du eB) (bZ (Du eA) f1),by omega,fun r hr=> ?_,f4⟩
 simp only[Ko]at hr e3
 rcases hr with hr|hr|hr
 ·exact e3 r (.inl hr)
 ·exact e3 r (.inr hr)
 ·exact f3 r hr
end
def dP{α:Type}(d:α)(O:List α)(i:Nat):List α:=O.getD i d::(O.take i++O.drop (i+1))
def xp(O:List Value)(i j:Nat):List Value:=O.take (j+1)++((O.drop j).take (i-j)++O.drop (i+1))
theorem vi{α:Type}{O:List α}(h:O.length=6):∃a b c d e f,O=[a,b,c,d,e,f]:=by
 match O,h with
 |[a,b,c,d,e,f],_=>exact⟨a,b,c,d,e,f,rfl⟩
theorem alE{O:List Value}(h:O.length=6){i:Nat}(hi:i<6):xp O i i=O:=by
 obtain⟨a,b,c,d,e,f,rfl⟩:=vi h
 rcases i with _|_|_|_|_|_|i<;>first|rfl|omega
theorem alF{O:List Value}(h:O.length=6){i j:Nat}(hi:i<6)(hj:j<i):(xp O i (j+1)).set (j+1) (O.getD j undef)=xp O i j:=by
 obtain⟨a,b,c,d,e,f,rfl⟩:=vi h
 rcases i with _|_|_|_|_|_|i<;>rcases j with _|_|_|_|_|j<;>first|rfl|omega
theorem alG{O:List Value}(h:O.length=6){i j:Nat}(hi:i<6)(hj:j<i):(xp O i (j+1)).getD j undef=O.getD j undef:=by
 obtain⟨a,b,c,d,e,f,rfl⟩:=vi h
 rcases i with _|_|_|_|_|_|i<;>rcases j with _|_|_|_|_|j<;>first|rfl|omega
theorem alH{O:List Value}(h:O.length=6){i:Nat}(hi:i<6):(xp O i 0).set 0 (O.getD i undef)=dP undef O i:=by
 obtain⟨a,b,c,d,e,f,rfl⟩:=vi h
 rcases i with _|_|_|_|_|_|i<;>first|rfl|omega
theorem aaU{O:List Value}(h:O.length=6){i j:Nat}(hi:i<6)(hj:j<=i):(xp O i j).length=6:=by
 obtain⟨a,b,c,d,e,f,rfl⟩:=vi h
 rcases i with _|_|_|_|_|_|i<;>rcases j with _|_|_|_|_|_|j<;>first|rfl|omega
theorem aaV{O:List Value}{j:Nat}(h:j<O.length):O.getD j undef∈O:=by
 rw[bC,bD h]
 exact eu h
theorem aaW{A O Z:List Value}{j:Nat}(h:j<O.length):(A++(O++Z))[A.length+j]? =some (O.getD j undef):=by
 rw[qR (by omega),show A.length+j-A.length=j by omega,uk h,bC,bD h]
 rfl
theorem aaX{A O Z:List Value}{j:Nat}(h:j<O.length)(v:Value):(A++(O++Z)).set (A.length+j) v=A++(O.set j v++Z):=by
 rw[Kp _ _ (by omega),show A.length+j-A.length=j by omega,arS _ _ h]
section
variable {lf d n q:Nat} {h:H} {e:TypeId} {A O Z:List Value} {i:Nat}
def Pb(q off:Nat):En->Prop:=fun x=>x.b=q∧∃j,x.k=some j∧off<=j∧j<off+6
theorem alI(hO:O.length=6)(h1:∀v∈O,one v=true)(g:h.get q=some ⟨e,true,A++(O++Z)⟩)(hq:q<n)(hi:i<6)(aC:100<=lf):
 iZ (Pb q A.length) (au ah gt lf (d+1) 278 #[.pointer (some ⟨q,A.length,none⟩),.int .i64 (i:Int)]) h n fun v h' n'=>v=O.getD i undef∧n'=n∧h'.get q=some ⟨e,true,A++(dP undef O i++Z)⟩∧∀b,b≠q->h'.get b=h.get b:=by
 rw[aL (fun _=>ako) rfl]
 refine iZ.aH ?_
 unfold OG
 have ia:∀(j:Nat),j<6->∀(k:Value->M Value),iU 6 (.pointer (some ⟨q,A.length,none⟩)) (.int .i64 (j:Int)) k=k (.pointer (some ⟨q,A.length+j,none⟩)):=fun j hj k=>by
  rw[MS _ 6 q A.length .i64 (j:Int) (by omega) (by omega),cL]
 have hl:i<O.length:=by omega
 have key:∀(j fu:Nat) (h':H),j<=i->j<fu->h'.get q=some ⟨e,true,A++(xp O i j++Z)⟩->(∀b,b≠q->h'.get b=h.get b)->
  iZ (Pb q A.length) (Ad lf (au ah gt lf d) fu (Iv lf (au ah gt lf d)) (.pointer (some ⟨q,A.length,none⟩)) (.int .i64 (i:Int)) (.int .i64 0) (O.getD i undef) (.int .i64 (j:Int))) h' n fun v h' n'=>v=O.getD i undef∧n'=n∧h'.get q=some ⟨e,true,A++(dP undef O i++Z)⟩∧∀b,b≠q->h'.get b=h.get b:=by
  intro j
  induction j with
  |zero=>
   intro fu h' hj hf g' k'
   obtain⟨fu,rfl⟩:∃f,fu=f+1:=⟨fu-1,by omega⟩
   rw[Ad]
   have c0:decide ((0:Int)<((0:Nat):Int))=false:=decide_eq_false (by omega)
   try simp(disch:=first|omega|assumption) only[af,aa,RZ,c0]
   (try unfold Iv);(try dsimp only)
   have i0:=ia 0 (by omega)
   simp only[kQ]at i0
   try simp(disch:=first|omega|assumption) only[af,aa,RZ,i0]
   have lq:=aaU (j:=0) hO hi (aR _)
   refine aaS trivial q A.length _ _ g' hq (by simp[lq];omega) (h1 _ (aaV hl)) ⟨rfl,_,rfl,by simp,by simp⟩ ?_
   refine alB _ ⟨rfl,rfl, ?_,fun b hb=> ?_⟩
   ·rw[get_eq]
    have:=aaX (A:=A) (Z:=Z) (O:=xp O i 0) (j:=0) (by omega) (O.getD i undef)
    rw[kQ]at this
    rw[this,alH hO hi]
   ·rw[aD _ _ hb];exact k' b hb
  |succ j ih=>
   intro fu h' hj hf g' k'
   obtain⟨fu,rfl⟩:∃f,fu=f+1:=⟨fu-1,by omega⟩
   rw[Ad]
   have c0:decide ((0:Int)<((j+1:Nat):Int))=true:=decide_eq_true (by omega)
   have w1:IntKind.i64.wrap (((j+1:Nat):Int)-1)=(j:Int):=by rw[aJ (by omega) (by omega)];omega
   try simp(disch:=first|omega|assumption) only[af,aa,RZ,c0,w1,ia j (by omega)]
   have lq:=aaU (j:=j+1) hO hi hj
   refine aaR trivial q (A.length+j) _ g' hq (aaW (by omega)) ?_
   rw[alG hO hi (by omega)]
   try simp(disch:=first|omega|assumption) only[af,aa,RZ,ia (j+1) (by omega)]
   refine aaS trivial q (A.length+(j+1)) _ _ g' hq (by simp[lq];omega) (h1 _ (aaV (by omega))) ⟨rfl,_,rfl,by simp,by simp;omega⟩ ?_
   try simp(disch:=first|omega|assumption) only[af,aa,RZ,c0,w1]
   refine ih fu _ (by omega) (by omega) ?_ fun b hb=> ?_
   ·rw[get_eq,aaX (by omega),alF hO hi (by omega)]
   ·rw[aD _ _ hb];exact k' b hb
 try simp(disch:=first|omega|assumption) only[af,aa,RZ,ia i hi]
 refine aaR trivial q (A.length+i) _ g hq (aaW hl) ?_
 exact key i lf h (an _) (by omega) (by rw[alE hO hi];exact g) fun _ _=>rfl
end
def jL:Nat->Nat->List Bool->St Nat
 |0,_,_=> .bad 25
 |_+1,_,[]=> .short
 |_+1,o,false::_=> .ok o (o+1)
 |r+1,o,true::bs=>jL r (o+1) bs
structure Pk where
 t:Nat
 count:Nat
 ord:List Nat
 bJ:List Nat
def fx(s:Pk)(bs:List Bool):St Pk:=
 if s.count=0 then(if bs.length<18 then .short else if(2<=num (bs.take 18) 0/32768∧num (bs.take 18) 0/32768<=6)∧num (bs.take 18) 0 %32768≠0 then .ok ⟨num (bs.take 18) 0/32768,num (bs.take 18) 0 %32768,s.ord,s.bJ⟩ 18 else .bad 25)
 else match jL s.t 0 bs with
  | .short=> .short
  | .bad e=> .bad e
  | .ok o u=> .ok ⟨s.t,s.count,dP 0 s.ord o,s.bJ++[s.ord.getD o 0]⟩ u
def Ez(s:Pk)(pv:Value)(bV:Bool):AB:=⟨282,true,[.int .i64 (s.t:Int),.int .i64 (s.count:Int)]++(aS .i64 (iN s.ord)++[pv,.bool bV])⟩
structure jb (h:H) (lo n q:Nat) (s:Pk) (pv:Value) (bV:Bool):Prop where
 get:h.get q=some (Ez s pv bV)
 ge:lo<=q
 lt:q<n
 own:Own h lo n 3 pv (aS .i64 (iN s.bJ))
 jc:s.ord.length=6
 Ca:s.t<=6
 tI:s.count<32768
theorem jb.ne{h:H}{lo n q:Nat}{s:Pk}{pv:Value}{bV:Bool}(x:jb h lo n q s pv bV){b:Nat}(hb:aN pv b):b≠q:=fun e=>by
 obtain⟨B,h1,h2⟩:=x.own.elem hb
 rw[e,x.get]at h1
 cases h1
 exact absurd (show(282:Nat)=3 from h2) (by decide)
theorem jb.aB{h h':H}{lo n n' q:Nat}{s:Pk}{pv:Value}{bV:Bool}(x:jb h lo n q s pv bV)(hn:n<=n')(hk:∀b,b<n->(b=q∨aN pv b)->h'.get b=h.get b):jb h' lo n' q s pv bV:=
 ⟨(hk q x.lt (.inl rfl)).trans x.get,x.ge,mb x.lt hn,x.own.aB hn fun b hb=>hk b (x.own.lt hb).2 (.inr hb),x.jc,x.Ca,x.tI⟩
theorem jb.cells{h:H}{lo n q:Nat}{s:Pk}{pv:Value}{bV:Bool}(x:jb h lo n q s pv bV):∃a b c d e f:Nat,s.ord=[a,b,c,d,e,f]∧h.get q=some ⟨282,true,[.int .i64 (s.t:Int),.int .i64 (s.count:Int),.int .i64 (a:Int),.int .i64 (b:Int),.int .i64 (c:Int),.int .i64 (d:Int),.int .i64 (e:Int),.int .i64 (f:Int),pv,.bool bV]⟩:=by
 obtain⟨a,b,c,d,e,f,he⟩:=vi x.jc
 refine⟨a,b,c,d,e,f,he, ?_⟩
 rw[x.get]
 unfold Ez
 rw[he]
 rfl
theorem alJ(a b c d e f:Value){β:Type}(k:Value->M β):bB Nd [(2,6,.agg #[a,b,c,d,e,f])] k=k (.agg #[.int .i64 0,.int .i64 0,a,b,c,d,e,f,.slice none 0 0,.bool false]):=by kernel_rfl
section
variable {lf d n p q lo:Nat} {h:H} {S:List UInt8} {D A:Nat} {pv:Value} {s:Pk} {bV:Bool}
theorem alK(z:Int):ai (fun _=>False) n (au ah gt lf (d+1) 280 #[.int .i64 z]) h n fun v' h' n'=>v'= .bool (decide (2<=z)&&decide (z<=6))∧h'=h∧n'=n:=by
 rw[aL (fun _=>akq) rfl]
 refine ai.aH ?_
 unfold Z4
 by_cases c:2<=z
 ·try simp(disch:=first|omega|assumption) only[af,aa,RZ,c]
 ·try simp(disch:=first|omega|assumption) only[af,aa,RZ,c]
theorem I1(x:jb h lo n q s pv bV):ai (fun _=>False) n (au ah gt lf (d+1) 252 #[.pointer (some ⟨q,0,none⟩)]) h n fun v' h' n'=>v'= .bool (decide (0<s.count)&&decide (s.bJ.length=s.count))∧h'=h∧n'=n:=by
 obtain⟨a,b,c,dd,e,f,he,g⟩:=x.cells
 have hq:=x.lt
 have hr:=x.own.row
 obtain⟨a1,c1,rfl⟩:=hr.len
 rw[aL (fun _=>ajS) rfl]
 refine ai.aH ?_
 unfold Zq
 have e:((((iN s.bJ).length:Nat):Int)==(s.count:Int))=decide (s.bJ.length=s.count):=by
  rw[gK]
  by_cases e:s.bJ.length=s.count
  ·rw[decide_eq_true e,e];simp
  ·rw[decide_eq_false e];exact beq_eq_false_iff_ne.2 fun q=>e (by omega)
 by_cases c0:0<s.count
 ·have e0:decide ((0:Int)<(s.count:Int))=true:=decide_eq_true (by omega)
  rw[decide_eq_true c0]
  try simp(disch:=first|omega|assumption) only[af,aa,RZ,gm,gu,gy,gz,gB,gC,gD,gE,gF,gG,g,e,e0,Bool.true_and]
 ·have e0:decide ((0:Int)<(s.count:Int))=false:=decide_eq_false (by omega)
  rw[decide_eq_false c0]
  try simp(disch:=first|omega|assumption) only[af,aa,RZ,gm,gu,gy,gz,gB,gC,gD,gE,gF,gG,g,e,e0,Bool.false_and]
theorem alL(x:jb h lo n q s pv bV):ai (fun _=>False) n (au ah gt lf (d+1) 254 #[.pointer (some ⟨q,0,none⟩)]) h n fun v' h' n'=>v'= .int .i64 (s.t:Int)∧h'=h∧n'=n:=by
 obtain⟨a,b,c,dd,e,f,he,g⟩:=x.cells
 have hq:=x.lt
 rw[aL (fun _=>ajU) rfl]
 refine ai.aH ?_
 unfold Zt
 try simp(disch:=first|omega|assumption) only[af,aa,RZ,gm,gu,gy,gz,gB,gC,gD,gE,gF,gG,g]
theorem alM(x:jb h lo n q s pv bV)(h0:0<s.bJ.length)(hl:s.bJ.length<=100000):ai (fun _=>False) n (au ah gt lf (d+2) 180 #[.pointer (some ⟨q,0,none⟩)]) h n fun v' h' n'=>Row h' n' 3 .i64 v' (iN s.bJ)∧∀b,aN v' b->n<=b:=by
 obtain⟨a,b,c,dd,e,f,he,g⟩:=x.cells
 have hq:=x.lt
 rw[aL (fun _=>aiY) rfl]
 refine ai.aH ?_
 unfold Yl
 try simp(disch:=first|omega|assumption) only[af,aa,RZ,gm,gu,gy,gz,gB,gC,gD,gE,gF,gG,g]
 refine aU aK (OK lf d n h pv (iN s.bJ) x.own.row (by rw[gK];exact h0) (by rw[gK];omega)) (an _) (fun _ _ h=>h.elim) fun v1 h1 n1 aM aY hq=> ?_
 try simp(disch:=first|omega|assumption) only[af,aa,RZ]
 exact hq.2
theorem Pc(x:jb h lo n q s pv bV):ai (fun b=>b=q) n (au ah gt lf (d+1) 279 #[.pointer (some ⟨q,0,none⟩)]) h n fun v' h' n'=>v'= .int .i64 25∧n'=n∧(∀b,b≠q->h'.get b=h.get b)∧jb h' lo n q s pv true:=by
 obtain⟨a,b,c,dd,e,f,he,g⟩:=x.cells
 have hq:=x.lt
 rw[aL (fun _=>akp) rfl]
 refine ai.aH ?_
 unfold Z3
 try simp(disch:=first|omega|assumption) only[af,aa,RZ,gm,gu,gy,gz,gB,gC,gD,gE,gF,gG,g,true_or,or_true]
 refine⟨fun b hb=>aD _ _ hb,⟨by rw[get_eq];unfold Ez;rw[he];rfl,x.ge,hq,x.own.aB (an _) fun b hb=>aD _ _ (x.ne hb),x.jc,x.Ca,x.tI⟩⟩
end
end Go.Proofs.YtmjolmggelkjlaaGreat
