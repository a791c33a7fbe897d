import Derived.Test.YtmjolmggelkjlaaGreatMah
import Derived.Test.YtmjolmggelkjlaaGreatMaa
open Nat renaming reduceLT→aa, reduceAdd→af, le_refl→an, zero_le→aR, zero_add→fB, lt_succ_self→gh, le_succ→iP, add_zero→kQ, lt_of_lt_of_le→mb, mod_eq_of_lt→me, not_lt_zero→mJ, mod_lt→m9, add_mul→pZ, add_assoc→vF, mul_le_mul→CQ, one_mul→Km, add_comm→Kn, sub_zero→RS, xor_lt_two_pow→RV, eq_zero_of_not_pos→ady
open Go.Proofs.Tryz renaming prog→ah
open List renaming getD_eq_getElem?_getD→bC, getElem?_eq_getElem→bD, length_append→bX, length_drop→b9, replicate→cr, append_nil→cu, length_cons→dp, length_take→dr, length_map→dL, getElem_mem→eu, append_assoc→fA, length_nil→gM, range→iL, drop_zero→jr, getElem?_map→jC, length_replicate→kg, drop_drop→ng, map_append→qb, getElem?_append_right→qR, getElem?_eq_none→sC, getElem?_append_left→uk, nil_append→uo, map_congr_left→vE, take_of_length_le→xZ, length→yc, getElem?_cons_succ→AP, set_cons_succ→AS, countP_le_length→FN, set_append_right→Kp, ext_getElem?→Rj, getElem?_drop→Rr, take_zero→RD, length_range→RF, map_const'→adw, flatten_cons→adx, map_set→arT, map_replicate→arU, getElem?_set→ar0
open Bool renaming and_eq_true→cj, not_false→cP, and_self→fR, not_true→jP, or_eq_true→pY, not_eq_true'→FJ
open BitVec renaming ofInt→cC
open Int renaming toNat_natCast→cL, lt_irrefl→fg
open Go.Value renaming int→dG, slice→kf, pointer→lN, agg→mf
open Go.IntKind renaming u32→lO, i64→RU
open Option.some renaming inj→AQ
set_option linter.unusedVariables false
set_option linter.unusedSimpArgs false
namespace Go.Proofs.YtmjolmggelkjlaaGreat
open Go.RowKit Ev Cn
theorem anC{room:Nat}{b b':Bk}{bs:List Bool}{u:Nat}(hb:b.sum<4294967296)(h:hF room b bs= .ok b' u):b'.sum<4294967296:=by
 have en:∀{b b':Bk} {r:Rw} {u w:Nat},iw b r u= .ok b' w->b'.sum=b.sum:=fun{b b' r u w} h=>by
  unfold iw at h
  split at h
  ·split at h
   ·cases h
   ·cases h;rfl
  ·cases h;rfl
 unfold hF at h
 split at h
 ·split at h
  ·cases h
  ·split at h
   ·cases h
   ·next h1 _=>
    cases h
    have:=jI (bs.take 32)
    rw[dr,Nat.min_eq_left (by omega)]at this
    exact this
 ·split at h
  ·split at h
   ·cases h
   ·cases h
   ·cases h;exact hb
  ·next r _=>
   split at h
   ·rw[en h];exact hb
   ·cases e1:qH r bs with
    |short=>rw[e1]at h;cases h
    |bad x=>rw[e1]at h;cases h
    |ok r' u=>rw[e1]at h;rw[en h];exact hb
structure abF (h:H) (n:Nat) (L:Nat->Nat) (p unit:Nat) (u:Us) (m:Um):Prop where
 get:h.get m.a=some (kN unit u m 0)
 lt:m.a<n
 la:L m.a=9
 bE:∀b,u.bE=some b->∃w,fK h n L p (u.level*unit) b m.bm w
theorem gS.w{h:H}{n:Nat}{L:Nat->Nat}{p unit:Nat}{u:Us}{m:Um}(x:gS h n L p unit u m 0):abF h n L p unit u m:=⟨x.get,x.lt,x.la,fun b hb=>by obtain⟨w,h1,_⟩:=x.bE b hb;exact⟨w,h1⟩⟩
def Cu(L:Nat->Nat)(n p:Nat)(S:List UInt8)(D A unit:Nat)(u:Us)(m:Um)(r:St (Nat×Us))(v':Value)(h':H)(n':Nat):Prop:=match r with
 | .short=>v'= .tuple #[.int .i64 0,.int .i64 3]∧bf h' n' p S D A∧gS h' n' L p unit u m 0
 | .bad e=>v'= .tuple #[.int .i64 0,.int .i64 e]∧(20<=e∧e<=25)∧(∃B,bf h' n' p S D B)∧∃L' u' m',(∀c,c<n->L' c=L c)∧m'.a=m.a∧abF h' n' L' p unit u' m'
 | .ok (wh,u') w=>v'= .tuple #[.int .i64 (wh:Int),.int .i64 0]∧bf h' n' p S D (A+w)∧∃L' m',(∀c,c<n->L' c=L c)∧m'.a=m.a∧gS h' n' L' p unit u' m' 0∧m'.bm.Fl
section
variable {lf d n p unit room:Nat} {h:H} {S:List UInt8} {D A:Nat} {L:Nat->Nat} {u:Us} {m:Um} {k:Bk} {bm:Bm}
theorem anD(x:bf h n p S D A)(y:gS h n L p unit u m 0)(fl:m.bm.Fl)(lp:L p=1)(ko:xH unit A u)(h3d:u.due=3)(aC:40<=lf):ai (WU L) n (au ah gt lf (d+4) 158 #[.pointer (some ⟨m.a,0,none⟩),.pointer (some ⟨p,0,none⟩)]) h n (Cu L n p S D A unit u m (Fc 2 (Fb u A (ax S D A)))):=by
 obtain⟨bs,bR⟩:∃bs,ax S D A=bs:=⟨_,rfl⟩
 have oN:m.a≠p:=fun e=>by have:=y.la;rw[e,lp]at this;cases this
 rw[aL (fun _=>XU) rfl,bR]
 refine ai.aH ?_
 unfold N7 Fb
 have wp:∀b,b<n->b=p->n<=b∨WU L b:=fun b _ hb=> .inr (hb▸xG lp (by decide) (by decide))
 refine aU aK (nK (lf:=lf) (d:=d) x 32 (by decide) aC) (an _) wp fun v1 h1 n1 aM aY aw=> ?_
 obtain⟨rfl,aw⟩:=aw
 rw[bR]at aw
 have z0:((0:Int) !=0)=false:=rfl
 have z3:((3:Int) !=0)=true:=rfl
 rcases aw with ⟨q1,rfl,rfl⟩|⟨q1,rfl,x1⟩
 ·try simp(disch:=first|omega|assumption) only[af,aa,RZ,bG,ext1,z3,q1]
  exact⟨rfl,x,y⟩
 have c1:¬bs.length<32:=by omega
 have y1:gS h1 n1 L p unit u m 0:=y.aB (an _) (fun _ _=>rfl) fun c hc h4 _=>aY c hc fun e=>by rw[e,lp]at h4;omega
 have g:=y1.get
 have ha:=y1.lt
 unfold kN at g
 have wu:WU L m.a:=xG y.la (by decide) (by decide)
 by_cases ct:num (bs.take 32) 0=u.total
 ·have z4:(((num (bs.take 32) 0:Nat):Int) !=(u.total:Int))=false:=by rw[ct];exact bne_self_eq_false _
  try simp(disch:=first|omega|assumption) only[af,aa,RZ,bG,ext1,z0,z4,g,c1,ct]
  refine aU aK (anA (lf:=lf) (d:=d+2) aC x1) (an _) wp fun v2 h2 n2 cJ cf bu=> ?_
  obtain⟨rfl,x2⟩:=bu
  have g2:=(cf m.a ha oN).trans g
  try simp(disch:=first|omega|assumption) only[af,aa,RZ,g2,wu]
  have y2:gS h2 n2 L p unit u m 0:=y1.aB (an _) (fun _ _=>rfl) fun c hc h4 _=>cf c hc fun e=>by rw[e,lp]at h4;omega
  refine⟨rfl, ?_,L,m,fun _ _=>rfl,rfl,y2.put (by rw[get_eq];unfold kN;rfl) (fun c hc=> ?_) (fun b hb=>⟨hb,rfl⟩) (fun _=>rfl),fl⟩
  ·rw[<-vF]
   exact x2.aB (an _) (by simp only[aD _ _ (Ne.symm oN)])
  ·simp only[aD _ _ hc]
 ·have z4:(((num (bs.take 32) 0:Nat):Int) !=(u.total:Int))=true:=by rw[bne_iff_ne];omega
  try simp(disch:=first|omega|assumption) only[af,aa,RZ,bG,ext1,z0,z4,g,c1,ct]
  exact⟨rfl,by decide,⟨_,x1⟩,L,u,m,fun _ _=>rfl,rfl,y1.w⟩
theorem anE(x:bf h n p S D A)(y:gS h n L p unit u m 0)(fl:m.bm.Fl)(lp:L p=1)(ko:xH unit A u)(h2d:u.due=2)(hA:A<=1000000000000000)(aC:3000000<=lf):ai (WU L) n (au ah gt lf (d+13) 157 #[.pointer (some ⟨m.a,0,none⟩),.pointer (some ⟨p,0,none⟩)]) h n (Cu L n p S D A unit u m (Fa unit u (ax S D A))):=by
 obtain⟨bs,bR⟩:∃bs,ax S D A=bs:=⟨_,rfl⟩
 have oN:m.a≠p:=fun e=>by have:=y.la;rw[e,lp]at this;cases this
 obtain⟨b,hb,kb⟩:=ko.b2 h2d
 obtain⟨w,yb,hw⟩:=y.bE b hb
 obtain rfl:=hw rfl
 have g:=y.get
 have ha:=y.lt
 unfold kN at g
 rw[hb]at g
 unfold Fe at g
 have lv:=ko.lv (by omega)
 have ku1:=ko.u1
 have PU:=ko.u2
 have rm:u.level*unit<=9*100000:=CQ lv.2 PU
 have wu:WU L m.a:=xG y.la (by decide) (by decide)
 rw[aL (fun _=>aiB) rfl,bR]
 refine ai.aH ?_
 unfold XT Fa
 rw[hb]
 have z0:((0:Int) !=0)=false:=rfl
 have z3:((3:Int) !=0)=true:=rfl
 try simp(disch:=first|omega|assumption) only[af,aa,RZ,g]
 have bst:=anw (lf:=lf) (d:=d) x yb fl lp kb hA (by omega) aC
 rw[bR]at bst
 refine aU aK bst (an _) (fun c _ hc=> .inr (by unfold WB at hc;unfold WU;omega)) fun v1 h1 n1 aM aY aw=> ?_
 have g1:h1.get m.a=_:=(aY m.a ha (fun hc=>by unfold WB at hc;rw[y.la]at hc;omega)).trans g
 have tD:m.a<n1:=by omega
 cases e:hF (u.level*unit) b bs with
 |short=>
  rw[e]at aw
  obtain⟨rfl,x1,y1⟩:=aw
  try simp(disch:=first|omega|assumption) only[af,aa,RZ,z3]
  refine⟨rfl,x1,⟨?_,tD,y.la,fun b' bW=> ?_⟩⟩
  ·rw[g1];unfold kN Fe;rw[hb]
  ·rw[hb]at bW
   cases bW
   exact⟨0,y1,fun _=>rfl⟩
 |bad e0=>
  rw[e]at aw
  obtain⟨rfl,x1,L',k',m',a1,a2,y1⟩:=aw
  have he:=abE e
  have z1:(e0 !=0)=true:=by rw[bne_iff_ne];omega
  try simp(disch:=first|omega|assumption) only[af,aa,RZ,z1]
  refine⟨rfl,by omega,x1,L',{u with bE:=some k'},⟨m.a,m'⟩,a1,rfl,⟨?_,tD,(a1 m.a ha).trans y.la,fun b' bW=> ?_⟩⟩
  ·rw[g1];unfold kN Fe;rw[a2]
  ·cases bW
   exact⟨e0,y1⟩
 |ok k' w=>
  rw[e]at aw
  obtain⟨rfl,x1,L',m',a1,a2,y1,f1⟩:=aw
  have g1':=g1
  rw[<-a2]at g1
  have lp1:L' p=1:=(a1 p x.lt).trans lp
  have la1:L' m.a=9:=(a1 m.a ha).trans y.la
  try simp(disch:=first|omega|assumption) only[af,aa,RZ,z0,g1]
  refine bL (aby (lf:=lf) (d:=d+11) y1) aM (fun _ _ h=>h.elim) ?_
  cases hd:k'.done with
  |false=>
   try simp(disch:=first|omega|assumption) only[af,aa,RZ,cP]
   refine⟨rfl,x1,L',⟨m.a,m'⟩,a1,rfl,⟨?_,tD,la1,fun b' bW=> ?_⟩,f1⟩
   ·rw[g1];unfold kN Fe;rfl
   ·cases bW
    exact⟨0,y1,fun _=>rfl⟩
  |true=>
   try simp(disch:=first|omega|assumption) only[af,aa,RZ,jP,g1]
   refine aU aK (am4 (lf:=lf) (d:=d+10) y1 hd) aM (fun _ _ h=>h.elim) fun v2 h2 n2 cJ cf bu=> ?_
   subst bu
   have g2:=(cf m.a tD id).trans g1
   have Jb:m.a<n2:=by omega
   have ks:=anC kb.sm e
   try simp(disch:=first|omega|assumption) only[af,aa,RZ]
   refine qA trivial (vs:=[.string ⟨(bS k'.last).toArray⟩,.int .i64 (k'.aO:Int),.int .u32 (k'.sum:Int)]) rfl rfl rfl g2 Jb (show 8<=11 by decide) (.inr wu) _ fun h3 g3 k3=> ?_
   have g4:h3.get m.a=some ⟨150,true,[.int .i64 (unit:Int),.int .i64 (u.due:Int),.int .i64 (u.at_:Int),.int .i64 (u.level:Int),.pointer (some ⟨m'.b,0,none⟩),.string ⟨(bS k'.last).toArray⟩,.int .i64 (k'.aO:Int),.int .u32 (k'.sum:Int),.int .u32 (u.total:Int),.bool u.ended,.int .i64 0]⟩:=g3
   try simp(disch:=first|omega|assumption) only[af,aa,RZ,g4,wu]
   refine bL (abD (lf:=lf) (d:=d+11) u.total k'.sum ko.jE ks) (by omega) (fun _ _ h=>h.elim) ?_
   try simp(disch:=first|omega|assumption) only[af,aa,RZ,g4,wu]
   refine⟨rfl, ?_,L',⟨m.a,m'⟩,a1,rfl,⟨?_,Jb,la1,fun b' bW=>(nomatch bW)⟩,f1⟩
   ·refine x1.aB cJ ?_
    simp only[aD _ _ (Ne.symm oN)]
    rw[k3 p (Ne.symm oN)]
    exact cf p x1.lt id
   ·rw[get_eq]
    rfl
end
def US3(L:Nat->Nat)(n p:Nat)(S:List UInt8)(D A unit:Nat)(u:Us)(m:Um)(r:St (Nat×Us))(v':Value)(h':H)(n':Nat):Prop:=match r with
 | .short=>v'= .tuple #[.int .i64 0,.int .i64 3]∧bf h' n' p S D A∧gS h' n' L p unit u m 0
 | .bad e=>v'= .tuple #[.int .i64 0,.int .i64 e]∧(20<=e∧e<=25)∧(∃B,bf h' n' p S D B)∧∃L' u' m',(∀c,c<n->L' c=L c)∧m'.a=m.a∧gS h' n' L' p unit u' m' e
 | .ok (wh,u') w=>v'= .tuple #[.int .i64 (wh:Int),.int .i64 0]∧bf h' n' p S D (A+w)∧∃L' m',(∀c,c<n->L' c=L c)∧m'.a=m.a∧gS h' n' L' p unit u' m' 0∧m'.bm.Fl
section
variable {lf d n p unit room:Nat} {h:H} {S:List UInt8} {D A:Nat} {L:Nat->Nat} {u:Us} {m:Um}
theorem anF(x:bf h n p S D A)(y:gS h n L p unit u m 0)(fl:m.bm.Fl)(lp:L p=1)(ko:xH unit A u)(hA:A<=1000000000000000)(aC:3000000<=lf):ai (WU L) n (au ah gt lf (d+14) 123 #[.pointer (some ⟨m.a,0,none⟩),.pointer (some ⟨p,0,none⟩)]) h n (Cu L n p S D A unit u m (m4 unit u A (ax S D A))):=by
 have g:=y.get
 have ha:=y.lt
 unfold kN at g
 have kd:=ko.due
 rw[aL (fun _=>Xh) rfl]
 refine ai.aH ?_
 unfold NO m4
 have WW:∀b,b<n->WU L b->n<=b∨WU L b:=fun _ _ hb=> .inr hb
 have one:∀(q:St Us) (v1:Value) (h1:H) (n1:Nat),n<=n1->PS L n p S D A unit u m q v1 h1 n1->ai (WU L) n (aj [.int .i64 0,v1]) h1 n1 (Cu L n p S D A unit u m (Fc 0 q)):=by
  intro q v1 h1 n1 hn hq
  refine(qy _).2 ?_
  cases q with
  |short=>
   obtain⟨rfl,x1,y1⟩:=hq
   exact⟨rfl,x1,y1⟩
  |bad e=>
   obtain⟨rfl,rfl,x1,y1⟩:=hq
   exact⟨rfl,by decide,x1,L,u,m,fun _ _=>rfl,rfl,y1.w⟩
  |ok u' w=>
   obtain⟨rfl,x1,L',m',a1,a2,y1,f1⟩:=hq
   exact⟨rfl,x1,L',m',a1,a2,y1,f1⟩
 have two:∀(q:St (Nat×Us)) (v1:Value) (h1:H) (n1:Nat),n<=n1->Cu L n p S D A unit u m q v1 h1 n1->ai (WU L) n (aP v1 0 fun h=>aP v1 1 fun i=>aj [h,i]) h1 n1 (Cu L n p S D A unit u m q):=by
  intro q v1 h1 n1 hn hq
  have e:∃a b,v1= .tuple #[a,b]:=by
   cases q with
   |short=>exact⟨_,_,hq.1⟩
   |bad e=>exact⟨_,_,hq.1⟩
   |ok t w=>obtain⟨a,b⟩:=t;exact⟨_,_,hq.1⟩
  obtain⟨a,b,rfl⟩:=e
  try simp(disch:=first|omega|assumption) only[af,aa,RZ,bG,ext1]
  exact hq
 by_cases d0:u.due=0
 ·have q0:(((u.due:Nat):Int)==0)=true:=by rw[d0];rfl
  try simp(disch:=first|omega|assumption) only[af,aa,RZ,g,q0,d0]
  refine aU aK (anx (lf:=lf) (d:=d+9) x y fl lp ko d0 (by omega)) (an _) WW fun v1 h1 n1 aM aY aw=> ?_
  exact one _ v1 h1 n1 aM aw
 have q0:(((u.due:Nat):Int)==0)=false:=beq_eq_false_iff_ne.2 (by omega)
 by_cases d1:u.due=1
 ·have q1:(((u.due:Nat):Int)==1)=true:=by rw[d1];rfl
  try simp(disch:=first|omega|assumption) only[af,aa,RZ,g,q0,q1,d0,d1]
  refine aU aK (anB (lf:=lf) (d:=d+9) x y fl lp ko d1 (by omega)) (an _) WW fun v1 h1 n1 aM aY aw=> ?_
  exact one _ v1 h1 n1 aM aw
 have q1:(((u.due:Nat):Int)==1)=false:=beq_eq_false_iff_ne.2 (by omega)
 by_cases d2:u.due=2
 ·have q2:(((u.due:Nat):Int)==2)=true:=by rw[d2];rfl
  try simp(disch:=first|omega|assumption) only[af,aa,RZ,g,q0,q1,q2,d0,d1,d2]
  refine aU aK (anE (lf:=lf) (d:=d) x y fl lp ko d2 hA aC) (an _) WW fun v1 h1 n1 aM aY aw=> ?_
  exact two _ v1 h1 n1 aM aw
 ·have q2:(((u.due:Nat):Int)==2)=false:=beq_eq_false_iff_ne.2 (by omega)
  try simp(disch:=first|omega|assumption) only[af,aa,RZ,g,q0,q1,q2,d0,d1,d2]
  refine aU aK (anD (lf:=lf) (d:=d+9) x y fl lp ko (by omega) (by omega)) (an _) WW fun v1 h1 n1 aM aY aw=> ?_
  exact two _ v1 h1 n1 aM aw
theorem anG(x:bf h n p S D A)(y:gS h n L p unit u m 0)(fl:m.bm.Fl)(lp:L p=1)(ko:xH unit A u)(hA:A<=1000000000000000)(aC:3000000<=lf):ai (WU L) n (au ah gt lf (d+15) 99 #[.pointer (some ⟨m.a,0,none⟩),.pointer (some ⟨p,0,none⟩)]) h n (US3 L n p S D A unit u m (m4 unit u A (ax S D A))):=by
 have g:=y.get
 have ha:=y.lt
 unfold kN at g
 have oN:p≠m.a:=fun e=>by have:=y.la;rw[<-e,lp]at this;cases this
 rw[aL (fun _=>WS) rfl]
 refine ai.aH ?_
 unfold NH
 have z0:((0:Int) !=0)=false:=rfl
 have z3:((3:Int) !=3)=false:=rfl
 have PQ:((0:Int) !=3)=true:=rfl
 try simp(disch:=first|omega|assumption) only[af,aa,RZ,g,z0]
 refine aU aK (anF (lf:=lf) (d:=d) x y fl lp ko hA aC) (an _) (fun _ _ hb=> .inr hb) fun v1 h1 n1 aM aY aw=> ?_
 have wu:WU L m.a:=xG y.la (by decide) (by decide)
 have tD:m.a<n1:=by omega
 cases e:m4 unit u A (ax S D A)with
 |short=>
  rw[e]at aw
  obtain⟨rfl,x1,y1⟩:=aw
  try simp(disch:=first|omega|assumption) only[af,aa,RZ,bG,ext1,z3]
  exact⟨rfl,x1,y1⟩
 |bad e0=>
  rw[e]at aw
  obtain⟨rfl,he,⟨B,x1⟩,L',u',m',a1,a2,y1⟩:=aw
  have z1:(e0 !=3)=true:=by rw[bne_iff_ne];omega
  have g1:=y1.get
  unfold kN at g1
  rw[a2]at g1
  try simp(disch:=first|omega|assumption) only[af,aa,RZ,bG,ext1,z1,g1,wu]
  refine⟨rfl,he,⟨B,x1.aB (an _) (aD _ _ oN)⟩,L',u',m',a1,a2,⟨by rw[a2,get_eq];rfl,y1.lt,y1.la,fun b hb=> ?_⟩⟩
  obtain⟨w,yb⟩:=y1.bE b hb
  refine⟨w,yb.aB (an _) (fun _ _=>rfl) fun c hc h3 h4=>aD _ _ fun ec=> ?_,fun e=>by omega⟩
  have:=y1.la
  rw[a2,<-ec]at this
  omega
 |ok t w=>
  obtain⟨wh,u'⟩:=t
  rw[e]at aw
  obtain⟨rfl,x1,L',m',a1,a2,y1,f1⟩:=aw
  have g1:=y1.get
  unfold kN at g1
  rw[a2]at g1
  try simp(disch:=first|omega|assumption) only[af,aa,RZ,bG,ext1,PQ,g1,wu]
  exact⟨rfl,x1.aB (an _) (aD _ _ oN),L',m',a1,a2,y1.put (by rw[a2,get_eq];rfl) (fun c hc=>aD _ _ (by rw[<-a2];exact hc)) (fun b hb=>⟨hb,rfl⟩) (fun _=>rfl),f1⟩
theorem anH(y:gS h n L p unit u m 0):ai (fun _=>False) n (au ah gt lf (d+1) 121 #[.pointer (some ⟨m.a,0,none⟩)]) h n fun v h' n'=>v= .agg #[.string ⟨(bS u.eL.last).toArray⟩,.int .i64 (u.eL.aO:Int),.int .u32 (u.eL.sum:Int)]:=by
 have g:=y.get
 have ha:=y.lt
 unfold kN at g
 rw[aL (fun _=>ahP) rfl]
 refine ai.aH ?_
 unfold Xf
 refine fq rfl _ ?_
 have g1:=(aD h (some ⟨134,true,[.string ⟨#[]⟩,.int .i64 0,.int .u32 0]⟩) (show m.a≠n by omega)).trans g
 have tD:m.a<n+1:=by omega
 try simp(disch:=first|omega|assumption) only[af,aa,RZ]
 refine jy trivial trivial m.a 5 _ g1 tD (show 8<=11 by decide) ?_
 refine db (sz:=3) trivial (vs:=[.string ⟨(bS u.eL.last).toArray⟩,.int .i64 (u.eL.aO:Int),.int .u32 (u.eL.sum:Int)]) rfl rfl rfl (get_eq _ _ _) (by omega) (.inl (an _)) _ fun h2 g2 k2=> ?_
 exact fQ trivial trivial g2 rfl (by omega) rfl
end
def By(l:List Nat):Prop:=∀x∈l,x<256
theorem By.at{l:List Nat}(k:By l){i:Nat}(h:i<l.length):l.getD i 0<256:=by
 rw[bC,bD h]
 exact k _ (eu _)
theorem xJ(l:List Nat):(bS l).length=l.length:=by unfold bS;simp
theorem Cv{l:List Nat}(k:By l){i:Nat}(h:i<l.length):((bS l).getD i 0).toNat=l.getD i 0:=by
 have:=k.at h
 unfold bS
 rw[bC,jC,bD h,bC,bD h]at*
 show(UInt8.ofNat l[i]).toNat=l[i]
 rw[UInt8.toNat_ofNat']
 exact me this
def m5(l:List Nat):List Nat:=iu l 256
def se(l:List Nat)(i:Nat):Nat:=bw l (l.getD i 0)+fX l (l.getD i 0) i
theorem Ff(l:List Nat):∀n,bw l n=l.countP fun x=>decide (x<n)
 |0=>by
  show 0=_
  rw[List.countP_eq_zero.2]
  intro x _
  simp
 |n+1=>by
  show bw l n+cn l n=_
  rw[Ff l n]
  unfold cn
  induction l with
  |nil=>rfl
  |cons x l ih=>
   simp only[List.countP_cons]
   have:(if decide (x<n)=true then 1 else 0)+(if(x==n)=true then 1 else 0)=if decide (x<n+1)=true then 1 else 0:=by
    simp only[decide_eq_true_eq,beq_iff_eq]
    by_cases a:x<n
    ·rw[if_pos a,if_neg (by omega),if_pos (by omega)]
    ·rw[if_neg a]
     by_cases b:x=n
     ·rw[if_pos b,if_pos (by omega)]
     ·rw[if_neg b,if_neg (by omega)]
   omega
theorem Cw{l:List Nat}(k:By l):(m5 l).length=l.length:=by
 unfold m5
 rw[oI,Ff,List.countP_eq_length]
 exact fun x hx=>decide_eq_true (k x hx)
theorem abG{l:List Nat}(k:By l){i:Nat}(h:i<l.length):(m5 l)[se l i]? =some i:=by
 obtain⟨s,h1,h2,h3,h4⟩:=IH (IG h) (m:=256) (k.at h)
 have:s=i:=aaw h2 h h3 (by rw[h3,h4])
 rw[this]at h1
 exact h1
theorem abH{l:List Nat}(k:By l){i:Nat}(h:i<l.length):se l i<l.length:=by
 rw[<-Cw k]
 exact(List.getElem?_eq_some_iff.1 (abG k h)).1
theorem abI(l:List Nat):∀(m q:Nat),q<bw l m->∃n r,n<m∧r<cn l n∧q=bw l n+r
 |0,q,h=>absurd h (mJ q)
 |m+1,q,h=>by
  by_cases c:q<bw l m
  ·obtain⟨n,r,h1,h2⟩:=abI l m q c
   exact⟨n,r,by omega,h2⟩
  ·have h:q<bw l m+cn l m:=h
   exact⟨m,q-bw l m,by omega,by omega,by omega⟩
theorem PV{l:List Nat}{q i:Nat}(h:(m5 l)[q]? =some i):i<l.length∧q=se l i:=by
 have hq:q<bw l 256:=by
  have:=(List.getElem?_eq_some_iff.1 h).1
  unfold m5 at this
  rwa[oI]at this
 obtain⟨n,r,h1,h2,h3⟩:=abI l 256 q hq
 obtain⟨s,e1,e2,e3,e4⟩:=IH h2 (m:=256) h1
 rw[<-h3]at e1
 unfold m5 at h
 rw[e1]at h
 cases h
 refine⟨e2, ?_⟩
 unfold se
 rw[e3,e4,h3]
theorem anI{l:List Nat}{q:Nat}(h:q<(m5 l).length):(m5 l).getD q 0<l.length:=by
 rw[bC,bD h]
 exact(PV (bD h)).1
def iy(l:List Nat)(s:Nat):Nat->Nat:=fun b=>if s<l.length then fX l b s else if s<=2*l.length then bw l b+fX l b (s-l.length)else bw l b+cn l b
def l9(l:List Nat)(s:Nat):List Nat:=(m5 l).map fun i=>if i<s-l.length then i else 0
def j5(l:List Nat)(bj:Nat):Nat->Nat
 |0=>bj
 |j+1=>(m5 l).getD (j5 l bj j) 0
def kO(l:List Nat)(bj:Nat)(j:Nat):List Nat:=(iL j).map fun i=>l.getD (j5 l bj (i+1)) 0
theorem abJ(l:List Nat)(bj j:Nat):kO l bj (j+1)=kO l bj j++[l.getD (j5 l bj (j+1)) 0]:=by
 unfold kO
 rw[List.range_succ,qb]
 rfl
theorem Cx{l:List Nat}(k:By l){bj:Nat}(h:bj<l.length):∀j,j5 l bj j<l.length
 |0=>h
 |j+1=>anI (by rw[Cw k];exact Cx k h j)
theorem abK{l:List Nat}(k:By l)(s:Nat):(l9 l s).length=l.length:=by unfold l9;rw[dL,Cw k]
theorem anJ{l:List Nat}(k:By l){i:Nat}(h:i<l.length):(l9 l (l.length+i)).set (se l i) i=l9 l (l.length+i+1):=by
 apply Rj
 intro q
 unfold l9
 rw[ar0]
 by_cases e:se l i=q
 ·subst e
  rw[if_pos rfl,if_pos (by rw[dL,Cw k];exact abH k h),jC,abG k h]
  show some i=some (if i<l.length+i+1-l.length then i else 0)
  rw[if_pos (by omega)]
 ·rw[if_neg e,jC,jC]
  cases hq:(m5 l)[q]? with
  |none=>rfl
  |some j=>
   obtain⟨h1,h2⟩:=PV hq
   have fC:j≠i:=fun e2=>e (by rw[h2,e2])
   show some (if j<l.length+i-l.length then j else 0)=some (if j<l.length+i+1-l.length then j else 0)
   by_cases c:j<i
   ·rw[if_pos (by omega),if_pos (by omega)]
   ·rw[if_neg (by omega),if_neg (by omega)]
theorem PW{l:List Nat}{s:Nat}(h:2*l.length<=s):l9 l s=m5 l:=by
 unfold l9
 rw[vE (g:=id),List.map_id]
 intro i hi
 obtain⟨q,hq,e⟩:=List.getElem_of_mem hi
 have:=(PV (l:=l) (q:=q) (i:=i) (by rw[bD hq,e])).1
 exact if_pos (by omega)
theorem PX{l:List Nat}(k:By l){s:Nat}(h:s<=l.length):l9 l s=cr l.length 0:=by
 unfold l9
 rw[vE (g:=fun _=>0) fun i _=>if_neg (by omega),adw,Cw k]
theorem O3{l:List Nat}{s:Nat}(h:s+1<l.length):oJ (iy l s) (l.getD s 0) (iy l s (l.getD s 0)+1)=iy l (s+1):=by
 have e1:∀b,iy l s b=fX l b s:=fun b=>if_pos (by omega)
 have e2:∀b,iy l (s+1) b=fX l b (s+1):=fun b=>if_pos h
 funext b
 unfold oJ
 rw[e1,e1,e2,xi (by omega)]
 by_cases e:b=l.getD s 0
 ·rw[if_pos e,e,if_pos rfl]
 ·rw[if_neg e,if_neg (Ne.symm e),kQ]
theorem anK{l:List Nat}{s:Nat}(h:s+1=l.length):oJ (iy l s) (l.getD s 0) (iy l s (l.getD s 0)+1)=cn l:=by
 have e1:∀b,iy l s b=fX l b s:=fun b=>if_pos (by omega)
 funext b
 unfold oJ
 have:=xi (ln:=l) (i:=s) (by omega) b
 rw[h,Aj]at this
 rw[e1,e1,this]
 by_cases e:b=l.getD s 0
 ·rw[if_pos e,e,if_pos rfl]
 ·rw[if_neg e,if_neg (Ne.symm e),kQ]
theorem nxN{l:List Nat}(h:0<l.length):iy l l.length=bw l:=by
 funext b
 unfold iy
 rw[if_neg (by omega),if_pos (by omega),Nat.sub_self]
 rfl
theorem Ju{l:List Nat}{i:Nat}(h:i<=l.length)(h0:0<l.length)(b:Nat):iy l (l.length+i) b=bw l b+fX l b i:=by
 unfold iy
 rw[if_neg (by omega),if_pos (by omega),show l.length+i-l.length=i by omega]
theorem nx1{l:List Nat}{i:Nat}(h:i<l.length):iy l (l.length+i) (l.getD i 0)=se l i∧oJ (iy l (l.length+i)) (l.getD i 0) (iy l (l.length+i) (l.getD i 0)+1)=iy l (l.length+i+1):=by
 refine⟨Ju (by omega) (by omega) _, ?_⟩
 funext b
 unfold oJ
 rw[Ju (by omega) (by omega),Ju (by omega) (by omega),show l.length+i+1=l.length+(i+1) by omega,Ju (by omega) (by omega),xi h]
 by_cases e:b=l.getD i 0
 ·rw[if_pos e,e,if_pos rfl];omega
 ·rw[if_neg e,if_neg (Ne.symm e),kQ]
theorem nxE{l:List Nat}{s:Nat}(h:2*l.length<=s)(h0:0<l.length)(b:Nat):iy l s b=bw l b+cn l b:=by
 unfold iy
 rw[if_neg (by omega)]
 by_cases c:s<=2*l.length
 ·rw[if_pos c,show s-l.length=l.length by omega,Aj]
 ·rw[if_neg c]
theorem nx2{l:List Nat}{s:Nat}(h:2*l.length<=s)(h0:0<l.length):iy l s=iy l (s+1):=by
 funext b
 rw[nxE h h0,nxE (by omega) h0]
theorem nxZ(l:List Nat)(h:0<l.length):iy l 0=fun _=>0:=by
 funext b
 unfold iy
 rw[if_pos h]
 rfl
def dh(sv:Value)(f:Nat->Nat)(lv av ov st:Value):List Value:=sv::(lY f 256++[lv,av,ov,st])
section
variable {sv lv av ov st w:Value} {f:Nat->Nat}
theorem si:(dh sv f lv av ov st).length=261:=by unfold dh;rw[dp,bX,mB];rfl
theorem Fg:(dh sv f lv av ov st)[0]? =some sv:=rfl
theorem PY{j:Nat}(h:j<256):(dh sv f lv av ov st)[1+j]? =some (.int .i64 (f j:Int)):=by
 unfold dh
 rw[Kn,AP,uk (by rw[mB];exact h),IQ h]
theorem Jv{i:Nat}:(dh sv f lv av ov st)[257+i]? =[lv,av,ov,st][i]? :=by
 unfold dh
 rw[show 257+i=256+i+1 by omega,AP,qR (by rw[mB];omega),mB,show 256+i-256=i by omega]
theorem abL:(dh sv f lv av ov st)[257]? =some lv:=Jv (i:=0)
theorem anL:(dh sv f lv av ov st)[258]? =some av:=Jv (i:=1)
theorem abM:(dh sv f lv av ov st)[259]? =some ov:=Jv (i:=2)
theorem sj:(dh sv f lv av ov st)[260]? =some st:=Jv (i:=3)
theorem Jw{j v:Nat}(h:j<256):(dh sv f lv av ov st).set (1+j) (.int .i64 (v:Int))=dh sv (oJ f j v) lv av ov st:=by
 unfold dh
 rw[Kn,AS,List.set_append_left _ _ (by rw[mB];exact h),OZ]
theorem Jx{i:Nat}{w:Value}:(dh sv f lv av ov st).set (257+i) w=sv::(lY f 256++[lv,av,ov,st].set i w):=by
 unfold dh
 rw[show 257+i=256+i+1 by omega,AS,Kp _ _ (by rw[mB];omega),mB,show 256+i-256=i by omega]
theorem abN:(dh sv f lv av ov st).set 258 w=dh sv f lv w ov st:=Jx (i:=1)
theorem abO:(dh sv f lv av ov st).set 259 w=dh sv f lv av w st:=Jx (i:=2)
theorem Jy:(dh sv f lv av ov st).set 260 w=dh sv f lv av ov w:=Jx (i:=3)
theorem anM:((dh sv f lv av ov st).drop 1).take 256=lY f 256:=by
 unfold dh
 rw[List.drop_succ_cons,jr,List.take_append_of_le_length (by rw[mB];exact an _)]
 exact xZ (by rw[mB];exact an _)
end
structure ma (h:H) (n a:Nat) (l:List Nat) (bj s lb:Nat) (ov:Value) (out:List Nat):Prop where
 get:h.get a=some ⟨176,true,dh (.string ⟨(bS l).toArray⟩) (iy l s) (.slice (some ⟨lb,0,none⟩) l.length l.length) (.int .i64 ((j5 l bj (s-2*l.length):Nat):Int)) ov (.int .i64 (s:Int))⟩
 lt:a<n
 Fh:h.get lb=some ⟨3,true,aS .i64 (iN (l9 l s))⟩
 PZ:lb<n
 own:Own h 0 n 5 ov (cO out)
structure pR (l:List Nat) (bj:Nat):Prop where
 kP:By l
 pos:0<l.length
 len:l.length<=900000
 bj:bj<l.length
def qJ(l:List Nat)(bj s:Nat):List Nat:=if 2*l.length<=s then [l.getD (j5 l bj (s+1-2*l.length)) 0]else []
section
variable {lf d n a lb bj s:Nat} {h:H} {l out:List Nat} {ov:Value}
theorem ma.ne(x:ma h n a l bj s lb ov out):a≠lb:=oK x.get x.Fh (by decide:(176:Nat)≠3)
theorem ma.Av(x:ma h n a l bj s lb ov out){b:Nat}(hb:aN ov b):b≠a∧b≠lb:=by
 obtain⟨B,h1,h2⟩:=x.own.elem hb
 exact⟨oK h1 x.get (by rw[h2];exact(by decide:(5:Nat)≠176)),oK h1 x.Fh (by rw[h2];exact(by decide:(5:Nat)≠3))⟩
theorem ma.aB(x:ma h n a l bj s lb ov out){h':H}{n':Nat}(hn:n<=n')(h1:h'.get a=h.get a)(h2:h'.get lb=h.get lb)(h3:∀b,aN ov b->h'.get b=h.get b):ma h' n' a l bj s lb ov out:=
 ⟨h1.trans x.get,mb x.lt hn,h2.trans x.Fh,mb x.PZ hn,x.own.aB hn h3⟩
def II(a lb:Nat)(ov:Value):Nat->Prop:=fun b=>b=a∨b=lb∨aN ov b
theorem abP(x:ma h n a l bj s lb ov out)(ok:pR l bj)(hs:s<=3*l.length):ai (fun _=>False) n (au ah gt lf (d+1) 118 #[.pointer (some ⟨a,0,none⟩)]) h n fun v h' n'=>v= .bool (decide (s=3*l.length))∧h'=h∧n'=n:=by
 have g:=x.get
 have ha:=x.lt
 have hl:=ok.len
 have bl:=xJ l
 have w1:IntKind.i64.wrap (3*((l.length:Nat):Int))=((3*l.length:Nat):Int):=by rw[aJ (by omega) (by omega)];rfl
 have e1:(((s:Nat):Int)==((3*l.length:Nat):Int))=decide (s=3*l.length):=by
  by_cases c:s=3*l.length
  ·rw[decide_eq_true c,c];exact beq_iff_eq.2 rfl
  ·rw[decide_eq_false c];exact beq_eq_false_iff_ne.2 (by omega)
 rw[aL (fun _=>ahO) rfl]
 refine ai.aH ?_
 unfold Xe
 try simp(disch:=first|omega|assumption) only[af,aa,RZ,g,Fg,sj,bl,w1,e1]
theorem anN{cs:Value}{lv av jf st:Value}(g:h.get a=some ⟨176,true,dh cs (cn l) lv av jf st⟩)(ha:a<n)(ok:pR l bj)(aC:300<=lf):ai (fun b=>b=a) n (au ah gt lf (d+1) 209 #[.pointer (some ⟨a,0,none⟩)]) h n fun _ h' n'=>n'=n∧h'.get a=some ⟨176,true,dh cs (bw l) lv av jf st⟩∧∀b,b≠a->h'.get b=h.get b:=by
 have hl:=ok.len
 have nr:∀i,bw l i<=l.length:=fun i=>by rw[Ff];exact FN
 have gN:∀i,cn l i<=l.length:=fun i=>by unfold cn;exact FN
 rw[aL (fun _=>ajq) rfl]
 refine ai.aH ?_
 unfold Oq
 try simp(disch:=first|omega|assumption) only[af,aa,RZ]
 refine jy trivial trivial a 1 _ g ha (by rw[si];decide) ?_
 show ai _ n (wV lf (au ah gt lf d) lf (Eb lf (au ah gt lf d)) _ _ (.agg (((dh cs (cn l) lv av jf st).drop 1).take 256).toArray) _) _ _ _
 rw[anM]
 refine eD 256 (fun fu i (q:Unit)=>wV lf (au ah gt lf d) fu (Eb lf (au ah gt lf d)) (.pointer (some ⟨a,0,none⟩)) (.int .i64 ((bw l i:Nat):Int)) (.agg (lY (cn l) 256).toArray) (.int .i64 (i:Int)))
  (fun i q h' n'=>n'=n∧h'.get a=some ⟨176,true,dh cs (fun j=>if j<i then bw l j else cn l j) lv av jf st⟩∧∀b,b≠a->h'.get b=h.get b) ?_ ?_ lf 0 () h n (aR _) (by omega) ⟨rfl,g,fun _ _=>rfl⟩
 ·rintro fu q h' n' ⟨rfl,g',k'⟩
  have e1:¬(((256:Nat):Int)<256):=by decide
  rw[wV]
  try simp(disch:=first|omega|assumption) only[af,aa,RZ,e1]
  (try unfold Eb);(try dsimp only)
  refine(qy _).2 ⟨rfl, ?_,k'⟩
  have e2:lY (fun j=>if j<256 then bw l j else cn l j) 256=lY (bw l) 256:=by
   unfold lY
   refine vE fun j hj=> ?_
   have:=List.mem_range.1 hj
   show dG .i64 ((if j<256 then bw l j else cn l j:Nat):Int)=_
   rw[if_pos this]
  have e3:dh cs (fun j=>if j<256 then bw l j else cn l j) lv av jf st=dh cs (bw l) lv av jf st:=by
   unfold dh
   rw[e2]
  rw[g',e3]
 ·rintro fu i q h' n' hi ⟨rfl,g',k'⟩ next
  have e1:(i:Int)<256:=by omega
  have at_:=IQ (f:=cn l) hi
  have hf:=nr i
  have hc:=gN i
  have w1:IntKind.i64.wrap (((bw l i:Nat):Int)+((cn l i:Nat):Int))=((bw l (i+1):Nat):Int):=by
   have:bw l (i+1)=bw l i+cn l i:=rfl
   rw[aJ (by omega) (by omega),this,Int.natCast_add]
  have w2:IntKind.i64.wrap ((i:Int)+1)=((i+1:Nat):Int):=by rw[aJ (by omega) (by omega)];rfl
  have w3:(i:Int)+1=((i+1:Nat):Int):=rfl
  have ey:1+i<(dh cs (fun j=>if j<i then bw l j else cn l j) lv av jf st).length:=by rw[si];omega
  rw[wV]
  try simp(disch:=first|omega|assumption) only[af,aa,RZ,e1,at_,g',ey,w1,w2,w3]
  refine next () _ _ ⟨rfl, ?_,fun b hb=>(aD _ _ hb).trans (k' b hb)⟩
  rw[get_eq,Jw hi]
  congr 3
  funext j
  unfold oJ
  by_cases c:j=i
  ·rw[if_pos c,if_pos (by omega),c]
  ·rw[if_neg c]
   show(if j<i then bw l j else cn l j)=_
   by_cases c2:j<i
   ·rw[if_pos c2,if_pos (by omega)]
   ·rw[if_neg c2,if_neg (by omega)]
set_option maxHeartbeats 1000000 in
theorem anO(x:ma h n a l bj s lb ov out)(ok:pR l bj)(hs:s<3*l.length)(ho:out.length<=1000000000)(aC:300<=lf):ai (II a lb ov) n (au ah gt lf (d+2) 181 #[.pointer (some ⟨a,0,none⟩)]) h n fun _ h' n'=>∃jf,ma h' n' a l bj (s+1) lb jf (out++qJ l bj s)∧∀b,aN jf b->aN ov b∨n<=b:=by
 have g:=x.get
 have ha:=x.lt
 have gl:=x.Fh
 have Jz:=x.PZ
 have fC:=x.ne
 have hl:=ok.len
 have hp:=ok.pos
 have bl:=xJ l
 have Wa:II a lb ov a:= .inl rfl
 have Wl:II a lb ov lb:= .inr (.inl rfl)
 have nz:¬(((l.length:Nat):Int)=0):=by omega
 have ws:IntKind.i64.wrap ((s:Int)+1)=((s+1:Nat):Int):=by rw[aJ (by omega) (by omega)];rfl
 have JA:(s:Int)+1=((s+1:Nat):Int):=rfl
 obtain⟨i,hi⟩:∃i,s %l.length=i:=⟨_,rfl⟩
 obtain⟨q,hq⟩:∃q,s/l.length=q:=⟨_,rfl⟩
 have lq:i<l.length:=by rw[<-hi];exact m9 _ hp
 have oG:q<3:=by rw[<-hq,Nat.div_lt_iff_lt_mul hp];omega
 have hsq:s=q*l.length+i:=by rw[<-hi,<-hq,Nat.mul_comm];exact(Nat.div_add_mod s l.length).symm
 have e1:((s:Int)).tmod ((l.length:Nat):Int)=(i:Int):=by rw[<-hi];rfl
 have e2:((s:Int)).tdiv ((l.length:Nat):Int)=(q:Int):=by rw[<-hq];rfl
 have w1:IntKind.i64.wrap (q:Int)=(q:Int):=aJ (by omega) (by omega)
 rw[aL (fun _=>aiZ) rfl]
 refine ai.aH ?_
 unfold Ym
 have fin:∀(h1:H) (n1:Nat) (f:Nat->Nat) (lv av JB:Value) (Q:Value->H->Nat->Prop),n<=n1->h1.get a=some ⟨176,true,dh (.string ⟨(bS l).toArray⟩) f lv av JB (.int .i64 (s:Int))⟩->
  (∀h2 v,h2.get a=some ⟨176,true,dh (.string ⟨(bS l).toArray⟩) f lv av JB (.int .i64 ((s+1:Nat):Int))⟩->(∀b,b≠a->h2.get b=h1.get b)->Q v h2 n1)->
  ai (II a lb ov) n (ar (.pointer (some ⟨a,260,none⟩)) fun h=>aA h (ii 1) fun i=>aZ (.pointer (some ⟨a,260,none⟩)) i fun _=>aj []) h1 n1 Q:=by
  intro h1 n1 f lv av JB Q hn g1 hQ
  have tD:a<n1:=by omega
  have ey:260<(dh (.string ⟨(bS l).toArray⟩) f lv av JB (.int .i64 (s:Int))).length:=by rw[si];decide
  try simp(disch:=first|omega|assumption) only[af,aa,RZ,g1,sj,ws,JA,Wa,ey,Jy]
  exact hQ _ _ (get_eq _ _ _) fun b hb=>aD _ _ hb
 have nr:∀i,bw l i<=l.length:=fun i=>by rw[Ff];exact FN
 have gN:∀i,cn l i<=l.length:=fun i=>by unfold cn;exact FN
 have pS:∀b,iy l s b<=2*l.length:=fun b=>by
  have h1:=nr b
  have h2:=gN b
  have h3:=fun j=>OU l b j
  unfold iy
  split
  ·have:=h3 s;omega
  ·split
   ·have:=h3 (s-l.length);omega
   ·omega
 obtain⟨b,hb⟩:∃b,l.getD i 0=b:=⟨_,rfl⟩
 have Cy:b<256:=by rw[<-hb];exact ok.kP.at lq
 have ba:=Cv ok.kP lq
 rw[hb]at ba
 have i0:(0:Int)<=(i:Int):=by omega
 have i1:(i:Int)<(((bS l).length:Nat):Int):=by omega
 have b0:(0:Int)<=(b:Int):=by omega
 have b1:(b:Int)<256:=by omega
 have nb:=pS b
 have wn:IntKind.i64.wrap (((iy l s b:Nat):Int)+1)=((iy l s b+1:Nat):Int):=by rw[aJ (by omega) (by omega)];rfl
 have Cz:∀{sv:Value} {f:Nat->Nat} {lv av ov st:Value},1+b<(dh sv f lv av ov st).length:=by intros;rw[si];omega
 have P0:∀{sv:Value} {f:Nat->Nat} {lv av ov st:Value},260<(dh sv f lv av ov st).length:=by intros;rw[si];decide
 have anP:q=0∨q=1∨q=2:=by omega
 rcases anP with rfl|rfl|rfl
 ·have q0:(((0:Nat):Int)==0)=true:=rfl
  have Aw:i=s:=by omega
  have tl:qJ l bj s=[]:=if_neg (by omega)
  have sk:s-2*l.length=0∧s+1-2*l.length=0:=by omega
  have kk:l9 l s=l9 l (s+1):=by rw[PX ok.kP (by omega),PX ok.kP (by omega)]
  by_cases hN:i+1=l.length
  ·have eN:(((i:Nat):Int)==((l.length:Nat):Int)-1)=true:=beq_iff_eq.2 (by omega)
   try simp(disch:=first|omega|assumption) only[af,aa,RZ,g,Fg,sj,bl,nz,e1,e2,w1,q0,ba,i0,i1,b0,b1,PY Cy,Cz,wn,Jw Cy,Wa,eN]
   have nn:=anK (l:=l) (s:=s) (by omega)
   rw[<-Aw,hb,Aw]at nn
   rw[nn]
   refine aU aK (anN (lf:=lf) (d:=d) (get_eq _ _ _) ha ok aC) (an _) (fun c _ hc=> .inr (.inl hc)) fun v1 h1 n1 aM aY aw=> ?_
   obtain⟨rfl,g1,k1⟩:=aw
   refine fin h1 n1 _ _ _ _ _ aM g1 fun h2 v g2 k2=>⟨ov, ?_,fun c hc=> .inl hc⟩
   have un:∀c,c≠a->h2.get c=h.get c:=fun c hc=>(k2 c hc).trans ((k1 c hc).trans (aD _ _ hc))
   rw[tl,cu]
   refine⟨?_,ha, ?_,Jz,x.own.aB (an _) fun c hc=>un c (x.Av hc).1⟩
   ·rw[g2,show s+1=l.length by omega,nxN hp,show l.length-2*l.length=0 by omega,show s-2*l.length=0 by omega]
   ·rw[un lb (Ne.symm fC),gl,kk]
  ·have eN:(((i:Nat):Int)==((l.length:Nat):Int)-1)=false:=beq_eq_false_iff_ne.2 (by omega)
   try simp(disch:=first|omega|assumption) only[af,aa,RZ,g,Fg,sj,bl,nz,e1,e2,w1,q0,ba,i0,i1,b0,b1,PY Cy,Cz,wn,Jw Cy,Wa,eN,P0,ws,JA,Jy]
   have nn:=O3 (l:=l) (s:=s) (by omega)
   rw[<-Aw,hb,Aw]at nn
   rw[nn]
   refine⟨ov, ?_,fun c hc=> .inl hc⟩
   rw[tl,cu]
   refine⟨?_,ha, ?_,Jz,x.own.aB (an _) fun c hc=> ?_⟩
   ·rw[get_eq,sk.1,sk.2]
   ·simp only[aD _ _ (Ne.symm fC)]
    rw[gl,kk]
   ·simp only[aD _ _ (x.Av hc).1]
 ·have q0:(((1:Nat):Int)==0)=false:=rfl
  have q1:(((1:Nat):Int)==1)=true:=rfl
  have Aw:s=l.length+i:=by omega
  have tl:qJ l bj s=[]:=if_neg (by omega)
  have sk:s-2*l.length=0∧s+1-2*l.length=0:=by omega
  obtain⟨n1,n2⟩:=nx1 lq
  rw[<-Aw,hb]at n1 n2
  have pl:=abH ok.kP lq
  have p0:(0:Int)<=((se l i:Nat):Int):=by omega
  have p1:((se l i:Nat):Int)<((l.length:Nat):Int):=by omega
  have P1:=abK ok.kP s
  have xn:se l i<(aS .i64 (iN (l9 l s))).length:=by rw[eJ,gK,P1];exact pl
  rw[n1]at wn n2
  try simp(disch:=first|omega|assumption) only[af,aa,RZ,g,Fg,abL,sj,bl,nz,e1,e2,w1,q0,q1,ba,i0,i1,b0,b1,PY Cy,Cz,n1,p0,p1,xn,gl,Wl,wn,Jw Cy,Wa,P0,ws,JA,Jy]
  rw[n2]
  refine⟨ov, ?_,fun c hc=> .inl hc⟩
  rw[tl,cu]
  refine⟨?_,ha, ?_,Jz,x.own.aB (an _) fun c hc=> ?_⟩
  ·rw[get_eq,sk.1,sk.2]
  ·simp only[aD _ _ (Ne.symm fC),get_eq]
   have e3:(aS .i64 (iN (l9 l s))).set (se l i) (.int .i64 (i:Int))=aS .i64 (iN (l9 l (s+1))):=by
    have:=anJ ok.kP lq
    rw[<-Aw]at this
    rw[<-this]
    unfold aS iN
    rw[<-arT,<-arT]
   rw[e3]
  ·simp only[aD _ _ (x.Av hc).1,aD _ _ (x.Av hc).2]
 ·have q0:(((2:Nat):Int)==0)=false:=rfl
  have q1:(((2:Nat):Int)==1)=false:=rfl
  have dN:2*l.length<=s:=by omega
  have al:=Cx ok.kP ok.bj (s-2*l.length)
  have al2:=Cx ok.kP ok.bj (s+1-2*l.length)
  have ae:j5 l bj (s+1-2*l.length)=(m5 l).getD (j5 l bj (s-2*l.length)) 0:=by rw[show s+1-2*l.length=(s-2*l.length)+1 by omega];rfl
  have kk:l9 l s=l9 l (s+1):=by rw[PW dN,PW (by omega)]
  have tl:qJ l bj s=[l.getD (j5 l bj (s+1-2*l.length)) 0]:=if_pos dN
  have a0:(0:Int)<=((j5 l bj (s-2*l.length):Nat):Int):=by omega
  have a1:((j5 l bj (s-2*l.length):Nat):Int)<((l.length:Nat):Int):=by omega
  have P1:=abK ok.kP s
  have lc:(aS .i64 (iN (l9 l s)))[j5 l bj (s-2*l.length)]? =some (.int .i64 ((j5 l bj (s+1-2*l.length):Nat):Int)):=by
   rw[Hs (by rw[gK,P1];exact al),tE,PW dN,<-ae]
  obtain⟨t,ht⟩:∃t,j5 l bj (s+1-2*l.length)=t:=⟨_,rfl⟩
  rw[ht]at lc al2 tl ae
  have P2:∀{sv:Value} {f:Nat->Nat} {lv av ov st:Value},258<(dh sv f lv av ov st).length:=by intros;rw[si];decide
  have P3:∀{sv:Value} {f:Nat->Nat} {lv av ov st:Value},259<(dh sv f lv av ov st).length:=by intros;rw[si];decide
  have t0:(0:Int)<=(t:Int):=by omega
  have t1:(t:Int)<(((bS l).length:Nat):Int):=by omega
  have ta:=Cv ok.kP al2
  try simp(disch:=first|omega|assumption) only[af,aa,RZ,g,Fg,abL,anL,sj,bl,nz,e1,e2,w1,q0,q1,a0,a1,gl,lc,P2,abN,Wa,abM,t0,t1,ta]
  have jj:=jX out
  refine ve trivial (mV _ _) (x.own.aB (an _) fun c hc=>aD _ _ (x.Av hc).1) (by omega) (fun c hc=> .inr (.inr (.inr hc))) _ fun h3 g3 k3=> ?_
  have ga3:h3.get a=_:=(k3 a ha fun e=>(x.Av e).1 rfl).trans (get_eq _ _ _)
  have Jt:a<n+2:=by omega
  try simp(disch:=first|omega|assumption) only[af,aa,RZ,ga3,Jt,P3,abO,Wa,sj,P0,ws,JA,Jy]
  refine⟨.slice (some ⟨n+1,0,none⟩) ((cO out).length+1) (bq+((cO out).length+1)),⟨?_,Jt, ?_,by omega, ?_⟩,fun c hc=> .inr (by have:=hc.inj;omega)⟩
  ·rw[get_eq,ht,nx2 dN hp]
  ·simp only[aD _ _ (Ne.symm fC)]
   rw[k3 lb Jz (fun e=>(x.Av e).2 rfl),aD _ _ (Ne.symm fC),gl,kk]
  ·refine .inr ⟨n+1, ?_, ?_,aR _,by omega⟩
   ·rw[jX,jX,bX,tl]
    rfl
   ·have na:n+1≠a:=by omega
    simp only[aD _ _ na]
    rw[g3,tl,IC]
    rfl
end
theorem ivz:Na=dh (.string ⟨#[]⟩) (fun _=>0) (.slice none 0 0) (.int .i64 0) (.slice none 0 0) (.int .i64 0):=by
 unfold Na dh
 simp only[Hb,Dz]
 have:lY (fun _=>0) 256=cr 256 (.int .i64 0):=by
  unfold lY
  rw[adw,RF]
  rfl
 rw[this]
 rfl
theorem anQ{sv lv av ov st w:Value}{f:Nat->Nat}:(dh sv f lv av ov st).set 0 w=dh w f lv av ov st:=rfl
theorem anR{sv lv av ov st w:Value}{f:Nat->Nat}:(dh sv f lv av ov st).set 257 w=dh sv f w av ov st:=Jx (i:=0)
def qK(l:List Nat)(bj s:Nat):Nat->List Nat
 |0=>[]
 |k+1=>qK l bj s k++qJ l bj (s+k)
theorem abQ(l:List Nat)(bj s:Nat):∀k,(qK l bj s k).length<=k
 |0=>an _
 |k+1=>by
  have:=abQ l bj s k
  have h2:(qJ l bj (s+k)).length<=1:=by unfold qJ;split<;>simp
  show(qK l bj s k++qJ l bj (s+k)).length<=_
  rw[bX]
  omega
theorem abR(l:List Nat)(bj:Nat):∀k,k<=2*l.length->qK l bj 0 k=[]
 |0,_=>rfl
 |k+1,h=>by
  show qK l bj 0 k++qJ l bj (0+k)=[]
  rw[abR l bj k (by omega)]
  unfold qJ
  rw[if_neg (by omega)]
  rfl
theorem abS(l:List Nat)(bj:Nat):∀j,qK l bj 0 (2*l.length+j)=kO l bj j
 |0=>abR l bj _ (an _)
 |j+1=>by
  show qK l bj 0 (2*l.length+j)++qJ l bj (0+(2*l.length+j))=_
  rw[abS l bj j,abJ]
  unfold qJ
  rw[if_pos (by omega),show 0+(2*l.length+j)+1-2*l.length=j+1 by omega]
section
variable {lf d n a lb bj s:Nat} {h:H} {l out:List Nat} {ov:Value}
theorem anS(ok:pR l bj):ai (fun _=>False) n (au ah gt lf (d+1) 152 #[.string ⟨(bS l).toArray⟩,.int .i64 (bj:Int)]) h n fun v h' n'=>v= .tuple #[.pointer (some ⟨n+1,0,none⟩),.int .i64 0]∧n'=n+2∧ma h' n' (n+1) l bj 0 n (.slice none 0 0) []:=by
 have hl:=ok.len
 have hp:=ok.pos
 have ho:=ok.bj
 have bl:=xJ l
 rw[aL (fun _=>aih) rfl]
 refine ai.aH ?_
 unfold XP
 have e0:decide (bS l=([]:List UInt8))=false:=decide_eq_false fun e=>by
  rw[e]at bl
  simp only[gM]at bl
  omega
 have c1:¬((900000:Int)<((l.length:Nat):Int)):=by omega
 have c2:¬((bj:Int)<0):=by omega
 have c3:¬(((l.length:Nat):Int)<=(bj:Int)):=by omega
 try simp(disch:=first|omega|assumption) only[af,aa,RZ,e0,bl,c1,c2,c3]
 refine Ev.run_make trivial l.length l.length _ (an _) (by omega) ?_
 have uK:∀{sv:Value} {f:Nat->Nat} {lv av ov st:Value},0<(dh sv f lv av ov st).length:=by intros;rw[si];decide
 have anT:∀{sv:Value} {f:Nat->Nat} {lv av ov st:Value},257<(dh sv f lv av ov st).length:=by intros;rw[si];decide
 have P2:∀{sv:Value} {f:Nat->Nat} {lv av ov st:Value},258<(dh sv f lv av ov st).length:=by intros;rw[si];decide
 rw[ivz]
 try simp(disch:=first|omega|assumption) only[af,aa,RZ,uK,anT,P2,anQ,anR,abN]
 refine jH trivial _ _ ?_
 try simp(disch:=first|omega|assumption) only[af,aa,RZ]
 refine⟨?_,by omega, ?_,by omega,Own.nil _ _ _ _⟩
 ·have e:j5 l bj (0-2*l.length)=bj:=by rw[Nat.zero_sub];rfl
  rw[get_eq,nxZ l hp,e]
  rfl
 ·rw[aD _ _ (by omega),get_eq,PX ok.kP (aR _)]
  unfold aS iN
  rw[arU,arU]
  rfl
theorem anU(x:ma h n a l bj s lb ov out):ai (fun b=>b=a) n (au ah gt lf (d+1) 148 #[.pointer (some ⟨a,0,none⟩)]) h n fun v h' n'=>v= .string ⟨(bS out).toArray⟩∧n'=n∧ma h' n' a l bj s lb (.slice none 0 0) []∧∀b,b≠a->h'.get b=h.get b:=by
 have g:=x.get
 have ha:=x.lt
 rw[aL (fun _=>aid) rfl]
 refine ai.aH ?_
 unfold XM
 have P3:∀{sv:Value} {f:Nat->Nat} {lv av ov st:Value},259<(dh sv f lv av ov st).length:=by intros;rw[si];decide
 try simp(disch:=first|omega|assumption) only[af,aa,RZ,g,abM]
 refine ON x.own _ ?_
 try simp(disch:=first|omega|assumption) only[af,aa,RZ,g,P3,abO]
 refine⟨⟨get_eq _ _ _,ha,(aD _ _ (Ne.symm x.ne)).trans x.Fh,x.PZ,Own.nil _ _ _ _⟩,fun b hb=>aD _ _ hb⟩
theorem anV(x:ma h n a l bj s lb ov out)(ok:pR l bj)(hs:s<=3*l.length)(B:Nat)(hB:B<=1000000000)(ho:out.length<=100000000)(aC:3000000<=lf):ai (II a lb ov) n (au ah gt lf (d+3) 147 #[.pointer (some ⟨a,0,none⟩),.int .i64 (B:Int)]) h n fun v h' n'=>v= .int .i64 ((min B (3*l.length-s):Nat):Int)∧∃jf,ma h' n' a l bj (s+min B (3*l.length-s)) lb jf (out++qK l bj s (min B (3*l.length-s)))∧∀b,aN jf b->aN ov b∨n<=b:=by
 have g:=x.get
 have ha:=x.lt
 have hl:=ok.len
 rw[aL (fun _=>aic) rfl]
 refine ai.aH ?_
 unfold N4
 try simp(disch:=first|omega|assumption) only[af,aa,RZ,g,sj]
 obtain⟨N,hN⟩:∃N,min B (3*l.length-s)=N:=⟨_,rfl⟩
 rw[hN]
 have key:∀(r j fu:Nat) (h':H) (n':Nat) (jf:Value),N=j+r->r<fu->n<=n'->ma h' n' a l bj (s+j) lb jf (out++qK l bj s j)->(∀b,aN jf b->aN ov b∨n<=b)->
  ai (II a lb ov) n (zL lf (au ah gt lf (d+2)) fu (D1 lf (au ah gt lf (d+2))) (.pointer (some ⟨a,0,none⟩)) (.int .i64 (B:Int)) (.int .i64 0) (.int .i64 (s:Int)) (.bool false)) h' n' fun v h' n'=>v= .int .i64 (N:Int)∧∃jf,ma h' n' a l bj (s+N) lb jf (out++qK l bj s N)∧∀b,aN jf b->aN ov b∨n<=b:=by
  intro r
  induction r with
  |zero=>
   intro j fu h' n' jf hj hf hn x' o7
   obtain⟨fu,rfl⟩:∃f,fu=f+1:=⟨fu-1,by omega⟩
   obtain rfl:N=j:=by omega
   have g':=x'.get
   have ha':=x'.lt
   have w1:IntKind.i64.wrap (((s+N:Nat):Int)-(s:Int))=(N:Int):=by rw[aJ (by omega) (by omega)];omega
   have fin:ai (II a lb ov) n (D1 lf (au ah gt lf (d+2)) (.pointer (some ⟨a,0,none⟩)) (.int .i64 (s:Int))) h' n' fun v h' n'=>v= .int .i64 (N:Int)∧∃jf,ma h' n' a l bj (s+N) lb jf (out++qK l bj s N)∧∀b,aN jf b->aN ov b∨n<=b:=by
    unfold D1
    try simp(disch:=first|omega|assumption) only[af,aa,RZ,g',sj,w1]
    exact⟨jf,x',o7⟩
   rw[zL]
   refine bL (abP (lf:=lf) (d:=d+1) x' ok (by omega)) hn (fun _ _ h=>h.elim) ?_
   by_cases c:s+N=3*l.length
   ·rw[decide_eq_true c]
    try simp(disch:=first|omega|assumption) only[af,aa,RZ,jP]
    exact fin
   ·rw[decide_eq_false c]
    have c2:¬((N:Int)<(B:Int)):=by omega
    try simp(disch:=first|omega|assumption) only[af,aa,RZ,cP,g',sj,w1,c2]
    exact fin
  |succ r ih=>
   intro j fu h' n' jf hj hf hn x' o7
   obtain⟨fu,rfl⟩:∃f,fu=f+1:=⟨fu-1,by omega⟩
   have g':=x'.get
   have ha':=x'.lt
   have w1:IntKind.i64.wrap (((s+j:Nat):Int)-(s:Int))=(j:Int):=by rw[aJ (by omega) (by omega)];omega
   have c:¬s+j=3*l.length:=by omega
   have c2:(j:Int)<(B:Int):=by omega
   rw[zL]
   refine bL (abP (lf:=lf) (d:=d+1) x' ok (by omega)) hn (fun _ _ h=>h.elim) ?_
   rw[decide_eq_false c]
   try simp(disch:=first|omega|assumption) only[af,aa,RZ,cP,g',sj,w1,c2]
   have tl:=abQ l bj s j
   refine aU aK (anO (lf:=lf) (d:=d) x' ok (by omega) (by rw[bX];omega) (by omega)) hn (fun b hb h2=> ?_) fun v2 h2 n2 cJ cf bu=> ?_
   ·rcases h2 with rfl|rfl|h2
    ·exact .inr (.inl rfl)
    ·exact .inr (.inr (.inl rfl))
    ·rcases o7 b h2 with q|q
     ·exact .inr (.inr (.inr q))
     ·exact .inl q
   ·obtain⟨ov2,x2,Cr⟩:=bu
    refine ih (j+1) fu h2 n2 ov2 (by omega) (by omega) (by omega) ?_ fun b hb=> ?_
    ·rw[fA]at x2
     exact x2
    ·rcases Cr b hb with q|q
     ·exact o7 b q
     ·exact .inr (by omega)
 exact key N 0 lf h n ov (by omega) (by omega) (an _) (by simpa[qK]using x) fun b hb=> .inl hb
theorem anW(ok:pR l bj)(aC:3000000<=lf):ai (fun _=>False) n (au ah gt lf (d+4) 159 #[.string ⟨(bS l).toArray⟩,.int .i64 (bj:Int)]) h n fun v h' n'=>v= .tuple #[.string ⟨(bS (kO l bj l.length)).toArray⟩,.int .i64 0]:=by
 have hl:=ok.len
 have bl:=xJ l
 rw[aL (fun _=>aiC) rfl]
 refine ai.aH ?_
 unfold XV
 refine aU aK (anS (lf:=lf) (d:=d+2) ok) (an _) (fun _ _ h=>h.elim) fun v1 h1 n1 aM aY aw=> ?_
 obtain⟨rfl,rfl,x1⟩:=aw
 have z0:((0:Int) !=0)=false:=rfl
 have w1:IntKind.i64.wrap (3*((l.length:Nat):Int))=((3*l.length:Nat):Int):=by rw[aJ (by omega) (by omega)];rfl
 have w2:3*((l.length:Nat):Int)=((3*l.length:Nat):Int):=rfl
 try simp(disch:=first|omega|assumption) only[af,aa,RZ,bG,ext1,z0,bl,w1,w2]
 refine aU aK (anV (lf:=lf) (d:=d) x1 ok (aR _) (3*l.length) (by omega) (by simp) aC) (by omega) (fun b _ hb=> .inl ?_) fun v2 h2 n2 cJ cf bu=> ?_
 ·rcases hb with rfl|rfl|hb
  ·omega
  ·omega
  ·exact hb.not_nil.elim
 ·obtain⟨rfl,ov2,x2,Cr⟩:=bu
  refine aU aK (anU (lf:=lf) (d:=d+2) x2) (by omega) (fun b _ hb=> .inl (by omega)) fun v3 h3 n3 fw dK bQ=> ?_
  obtain⟨rfl,_,_⟩:=bQ
  try simp(disch:=first|omega|assumption) only[af,aa,RZ]
  rw[RS,Nat.min_self,uo]
  have:=abS l bj l.length
  rw[show 2*l.length+l.length=3*l.length by omega]at this
  rw[this]
end
theorem Fi{β:Type}{rec:FuncId->Array Value->M Value}{F:FuncId}(hb:oX ah F=true)(cs vs:List Value)(k:Value->M β):kD ah rec (.func (.func F) #[] cs.toArray) vs k=ay rec F (vs++cs) k:=by
 unfold kD
 show bh (some _) _=_
 rw[wG]
 simp only[hb]
 exact(nB _ _).symm
def dc:Nat->Nat->List Nat->Except Int (List Nat)
 |run,_,[]=>if run=4 then .error 24 else .ok []
 |run,prev,x::l=>if run=4 then(if 251<x then .error 25 else match dc 0 x l with
   | .ok t=> .ok (cr x prev++t)
   | .error e=> .error e)
  else match dc (if 0<run∧x=prev then run+1 else 1) x l with
   | .ok t=> .ok (x::t)
   | .error e=> .error e
theorem CA:∀{l:List Nat} {run prev:Nat} {t:List Nat},dc run prev l= .ok t->t.length<=251*l.length
 |[],run,prev,t,h=>by
  unfold dc at h
  split at h
  ·cases h
  ·cases h;simp
 |x::l,run,prev,t,h=>by
  unfold dc at h
  split at h
  ·split at h
   ·cases h
   ·split at h
    ·next t' e=>
     cases h
     have:=CA e
     simp only[bX,kg,dp]
     omega
    ·cases h
  ·split at h
   ·next t' e=>
    cases h
    have:=CA e
    simp only[dp]
    omega
   ·cases h
theorem Ax(run prev x:Nat)(l:List Nat):dc run prev (x::l)=if run=4 then(if 251<x then .error 25 else match dc 0 x l with
 | .ok t=> .ok (cr x prev++t)
 | .error e=> .error e)
 else match dc (if 0<run∧x=prev then run+1 else 1) x l with
  | .ok t=> .ok (x::t)
  | .error e=> .error e:=rfl
def vo(h:H)(n lo q:Nat)(out:List Nat):Prop:=∃ov,h.get q=some ⟨73,true,[ov]⟩∧Own h lo n 5 ov (cO out)
section
variable {lf d n lo q:Nat} {h:H} {out:List Nat}
theorem abT(x:vo h n lo q out)(hq:q<lo)(jj:lo<=n)(c k:Nat)(hk:k<=255)(ho:out.length<=1000000000)(aC:300<=lf):ai (fun b=>b=q∨lo<=b) n (au ah gt lf (d+1) 195 #[.int .u8 (c:Int),.int .i64 (k:Int),.pointer (some ⟨q,0,none⟩)]) h n fun _ h' n'=>vo h' n' lo q (out++cr k c)∧∀b,b<lo->b≠q->h'.get b=h.get b:=by
 rw[aL (fun _=>ajc) rfl]
 refine ai.aH ?_
 unfold Oi
 refine eD k (fun fu i (_:Unit)=>zV lf (au ah gt lf d) fu (Ih lf (au ah gt lf d)) (.int .u8 (c:Int)) (.int .i64 (k:Int)) (.pointer (some ⟨q,0,none⟩)) (.int .i64 (k:Int)) (.int .i64 (i:Int)))
  (fun i _ h' n'=>n<=n'∧vo h' n' lo q (out++cr i c)∧∀b,b<lo->b≠q->h'.get b=h.get b) ?_ ?_ lf 0 () h n (aR _) (by omega) ⟨an _,by simpa using x,fun _ _ _=>rfl⟩
 ·rintro fu _ h' n' ⟨hn,x',k'⟩
  rw[zV]
  try simp(disch:=first|omega|assumption) only[af,aa,RZ,fg]
  (try unfold Ih);(try dsimp only)
  exact(qy _).2 ⟨x',k'⟩
 ·rintro fu i _ h' n' hi ⟨hn,⟨ov,g,o⟩,k'⟩ next
  have e1:(i:Int)<(k:Int):=by omega
  have w4:IntKind.i64.wrap ((i:Int)+1)=((i+1:Nat):Int):=by rw[aJ (by omega) (by omega)];rfl
  have w5:(i:Int)+1=((i+1:Nat):Int):=rfl
  have Dj:q<n':=by omega
  have hl:=jX (out++cr i c)
  rw[bX,kg]at hl
  have nq:¬aN ov q:=fun e=>by have:=(o.lt e).1;omega
  rw[zV]
  try simp(disch:=first|omega|assumption) only[af,aa,RZ,e1,g]
  refine ve trivial (mV _ _) o (by omega) (fun b hb=> .inr (.inr (o.lt hb).1)) _ fun h2 g2 k2=> ?_
  have gq:=(k2 q Dj nq).trans g
  have bu:q<n'+2:=by omega
  try simp(disch:=first|omega|assumption) only[af,aa,RZ,gq,w4,w5]
  refine next () _ _ ⟨by omega,⟨_,get_eq _ _ _, ?_⟩,fun b hb fC=> ?_⟩
  ·refine .inr ⟨n'+1, ?_, ?_,by omega,by omega⟩
   ·rw[jX,jX,bX,bX,kg,kg]
    rfl
   ·rw[aD _ _ (by omega),g2,List.replicate_succ',<-fA,IC (out++cr i c)]
    rfl
  ·rw[aD _ _ fC,k2 b (by omega) (fun e=>by have:=(o.lt e).1;omega)]
   exact k' b hb fC
theorem anX(x:vo h n lo q out)(hq:q<lo)(jj:lo<=n)(l:List Nat)(kb:By l)(hl:l.length<=900000)(ho:out.length<=1000)(aC:3000000<=lf):ai (fun b=>b=q∨lo<=b) n (au ah gt lf (d+2) 194 #[.string ⟨(bS l).toArray⟩,.func (.func 195) #[] #[.pointer (some ⟨q,0,none⟩)]]) h n fun v h' n'=>(match dc 0 0 l with
 | .ok t=>v= .int .i64 0∧vo h' n' lo q (out++t)
 | .error e=>v= .int .i64 e∧(e=24∨e=25)):=by
 have bl:=xJ l
 have qL:oX ah 195=true:=by kernel_rfl
 have cd:=fun{rec:FuncId->Array Value->M Value} (vs:List Value) (k:Value->M Value)=>Fi (rec:=rec) qL [.pointer (some ⟨q,0,none⟩)] vs k
 rw[aL (fun _=>aja) rfl]
 refine ai.aH ?_
 unfold Oh
 try simp(disch:=first|omega|assumption) only[af,aa,RZ,bl]
 have key:∀(r:List Nat) (i fu run prev:Nat) (rv:Value) (re:List Nat) (h':H) (n':Nat),rv= .int .i64 (run:Int)->l.drop i=r->i<=l.length->r.length<fu->n<=n'->run<=4->(0<run->0<i∧l.getD (i-1) 0=prev)->vo h' n' lo q re->re.length<=1000+251*i->
  ai (fun b=>b=q∨lo<=b) n (tz lf (au ah gt lf (d+1)) fu (BQ lf (au ah gt lf (d+1))) (.string ⟨(bS l).toArray⟩) (.func (.func 195) #[] #[.pointer (some ⟨q,0,none⟩)]) (.int .i64 0) rv (.int .i64 (l.length:Int)) (.int .i64 (i:Int))) h' n' fun v h' n'=>(match dc run prev r with
   | .ok t=>v= .int .i64 0∧vo h' n' lo q (re++t)
   | .error e=>v= .int .i64 e∧(e=24∨e=25)):=by
  intro r
  induction r with
  |nil=>
   intro i fu run prev rv re h' n' P4 hd hi hf hn hr hp x' lu
   subst P4
   obtain⟨fu,rfl⟩:∃f,fu=f+1:=⟨fu-1,by omega⟩
   have:i=l.length:=by
    have:=congrArg yc hd
    rw[b9]at this
    simp only[gM]at this
    omega
   subst this
   rw[tz]
   try simp(disch:=first|omega|assumption) only[af,aa,RZ,fg]
   (try unfold BQ);(try dsimp only)
   unfold dc
   by_cases c:run=4
   ·have e1:(((run:Nat):Int)==4)=true:=by rw[c];rfl
    try simp(disch:=first|omega|assumption) only[af,aa,RZ,e1,c]
    first|trivial|exact⟨rfl,.inl rfl⟩
   ·have e1:(((run:Nat):Int)==4)=false:=beq_eq_false_iff_ne.2 (by omega)
    try simp(disch:=first|omega|assumption) only[af,aa,RZ,e1,c]
    rw[cu]
    exact x'
  |cons y r ih=>
   intro i fu run prev rv re h' n' P4 hd hi hf hn hr hp x' lu
   subst P4
   obtain⟨fu,rfl⟩:∃f,fu=f+1:=⟨fu-1,by omega⟩
   have bM:i<l.length:=by
    have:=congrArg yc hd
    rw[b9]at this
    simp only[dp]at this
    omega
   have hy:l.getD i 0=y:=by
    have:=congrArg (·[0]?) hd
    simp only[Rr,kQ,List.getElem?_cons_zero]at this
    rw[bC,this]
    rfl
   have qt:l.drop (i+1)=r:=by rw[<-List.tail_drop,hd];rfl
   have P5:y<256:=by rw[<-hy];exact kb.at bM
   have ya:=Cv kb bM
   rw[hy]at ya
   have e1:(i:Int)<((l.length:Nat):Int):=by omega
   have i0:(0:Int)<=(i:Int):=by omega
   have i1:(i:Int)<(((bS l).length:Nat):Int):=by omega
   have w4:IntKind.i64.wrap ((i:Int)+1)=((i+1:Nat):Int):=by rw[aJ (by omega) (by omega)];rfl
   have w5:(i:Int)+1=((i+1:Nat):Int):=rfl
   simp only[dp]at hf
   have WW:∀b,b<n'->(b=q∨lo<=b)->n<=b∨b=q∨lo<=b:=fun _ _ hb=> .inr hb
   have plain:∀run':Nat,run'<=4->0<run'->dc run prev (y::r)=(match dc run' y r with
    | .ok t=> .ok (y::t)
    | .error e=> .error e)->ai (fun b=>b=q∨lo<=b) n (ay (au ah gt lf (d+1)) 195 ([.int .u8 (y:Int),.int .i64 1]++[.pointer (some ⟨q,0,none⟩)]) fun _=>tz lf (au ah gt lf (d+1)) fu (BQ lf (au ah gt lf (d+1))) (.string ⟨(bS l).toArray⟩) (.func (.func 195) #[] #[.pointer (some ⟨q,0,none⟩)]) (.int .i64 0) (.int .i64 (run':Int)) (.int .i64 (l.length:Int)) (.int .i64 ((i+1:Nat):Int))) h' n' fun v h' n'=>(match dc run prev (y::r)with
      | .ok t=>v= .int .i64 0∧vo h' n' lo q (re++t)
      | .error e=>v= .int .i64 e∧(e=24∨e=25)):=by
    intro run' rG ew he
    refine aU aK (abT (lf:=lf) (d:=d) x' hq (by omega) y 1 (by omega) (by omega) (by omega)) hn WW fun v2 h2 n2 cJ cf bu=> ?_
    obtain⟨x2,_⟩:=bu
    refine ai.mono (ih (i+1) fu run' y _ _ h2 n2 rfl qt (by omega) (by omega) (by omega) rG (fun _=>⟨by omega,by rw[show i+1-1=i by omega];exact hy⟩) x2 (by rw[bX];simp only[kg];omega)) fun v h3 n3 _ bQ=> ?_
    rw[he]
    cases e3:dc run' y r with
    |error e=>
     rw[e3]at bQ
     exact bQ
    |ok t=>
     rw[e3]at bQ
     refine⟨bQ.1, ?_⟩
     have:=bQ.2
     rw[fA]at this
     exact this
   by_cases c:run=4
   ·have e4:(((run:Nat):Int)==4)=true:=by rw[c];rfl
    obtain⟨ip,pe⟩:=hp (by omega)
    have pa:=Cv kb (i:=i-1) (by omega)
    rw[pe]at pa
    have j0:(0:Int)<=((i-1:Nat):Int):=by omega
    have j1:((i-1:Nat):Int)<(((bS l).length:Nat):Int):=by omega
    have w6:IntKind.i64.wrap ((i:Int)-1)=((i-1:Nat):Int):=by rw[aJ (by omega) (by omega)];omega
    have w7:IntKind.i64.wrap (y:Int)=(y:Int):=aJ (by omega) (by omega)
    have rS:(i:Int)-1=((i-1:Nat):Int):=by omega
    rw[tz]
    by_cases c2:251<y
    ·have tT:(251:Int)<(y:Int):=by omega
     try simp(disch:=first|omega|assumption) only[af,aa,RZ,e1,e4,i0,i1,ya,tT]
     (try unfold BQ);(try dsimp only)
     try simp(disch:=first|omega|assumption) only[af,aa,RZ]
     rw[Ax,if_pos c,if_pos c2]
     first|exact⟨rfl,.inr rfl⟩|exact .inr rfl|trivial
    ·have tT:¬(251:Int)<(y:Int):=by omega
     try simp(disch:=first|omega|assumption) only[af,aa,RZ,e1,e4,i0,i1,ya,tT,w6,rS,j0,j1,pa,w7]
     rw[Fi qL]
     refine aU aK (abT (lf:=lf) (d:=d) x' hq (by omega) prev y (by omega) (by omega) (by omega)) hn WW fun v2 h2 n2 cJ cf bu=> ?_
     obtain⟨x2,_⟩:=bu
     try simp(disch:=first|omega|assumption) only[af,aa,RZ,w4,w5]
     obtain⟨z,hz⟩:∃z:Nat,z=0:=⟨0,rfl⟩
     refine ai.mono (ih (i+1) fu z y (.int .i64 0) _ h2 n2 (by rw[hz];rfl) qt (by omega) (by omega) (by omega) (by omega) (fun e=>absurd e (by omega)) x2 (by rw[bX];simp only[kg];omega)) fun v h3 n3 _ bQ=> ?_
     rw[Ax,if_pos c,if_neg c2]
     subst hz
     cases e3:dc 0 y r with
     |error e=>rw[e3]at bQ;exact bQ
     |ok t=>
      rw[e3]at bQ
      refine⟨bQ.1, ?_⟩
      have:=bQ.2
      rw[fA]at this
      exact this
   ·have e4:(((run:Nat):Int)==4)=false:=beq_eq_false_iff_ne.2 (by omega)
    rw[tz]
    by_cases c3:0<run
    ·have nQ:(0:Int)<(run:Int):=by omega
     obtain⟨ip,pe⟩:=hp c3
     have pa:=Cv kb (i:=i-1) (by omega)
     rw[pe]at pa
     have j0:(0:Int)<=((i-1:Nat):Int):=by omega
     have j1:((i-1:Nat):Int)<(((bS l).length:Nat):Int):=by omega
     have w6:IntKind.i64.wrap ((i:Int)-1)=((i-1:Nat):Int):=by rw[aJ (by omega) (by omega)];omega
     have rS:(i:Int)-1=((i-1:Nat):Int):=by omega
     have w9:IntKind.i64.wrap ((run:Int)+1)=((run+1:Nat):Int):=by rw[aJ (by omega) (by omega)];rfl
     have w10:(run:Int)+1=((run+1:Nat):Int):=rfl
     by_cases c5:y=prev
     ·have e5:(((y:Nat):Int)==(prev:Int))=true:=by rw[c5];exact beq_iff_eq.2 rfl
      try simp(disch:=first|omega|assumption) only[af,aa,RZ,e1,e4,nQ,i0,i1,ya,w6,rS,j0,j1,pa,e5,w9,w10]
      rw[Fi qL]
      try simp(disch:=first|omega|assumption) only[af,aa,RZ,w4,w5]
      refine plain (run+1) (by omega) (by omega) ?_
      rw[Ax,if_neg c,if_pos ⟨c3,c5⟩]
     ·have e5:(((y:Nat):Int)==(prev:Int))=false:=beq_eq_false_iff_ne.2 (by omega)
      try simp(disch:=first|omega|assumption) only[af,aa,RZ,e1,e4,nQ,i0,i1,ya,w6,rS,j0,j1,pa,e5]
      rw[Fi qL]
      try simp(disch:=first|omega|assumption) only[af,aa,RZ,w4,w5]
      refine plain 1 (by omega) (by omega) ?_
      rw[Ax,if_neg c,if_neg (fun q=>c5 q.2)]
    ·have nQ:¬(0:Int)<(run:Int):=by omega
     try simp(disch:=first|omega|assumption) only[af,aa,RZ,e1,e4,nQ,i0,i1,ya]
     rw[Fi qL]
     try simp(disch:=first|omega|assumption) only[af,aa,RZ,w4,w5]
     refine plain 1 (by omega) (by omega) ?_
     rw[Ax,if_neg c,if_neg (fun q=>c3 q.1)]
 exact key l 0 lf 0 0 (.int .i64 0) out h n rfl jr (aR _) (by omega) (an _) (aR _) (fun e=>absurd e (Nat.lt_irrefl 0)) x (by omega)
end
theorem anY{a b:Nat}(ha:a<256)(hb:b<256):IntKind.u8.wrap ((cC IntKind.u8.bits (a:Int)^^^cC IntKind.u8.bits (b:Int)).toNat:Int)=((a^^^b:Nat):Int):=by
 have h1:∀{a:Nat},a<256->(cC 8 (a:Int)).toNat=a:=fun h=>by rw[BitVec.ofInt_natCast,BitVec.toNat_ofNat];exact me (by omega)
 show IntKind.u8.wrap ((cC 8 (a:Int)^^^cC 8 (b:Int)).toNat:Int)=_
 rw[BitVec.toNat_xor,h1 ha,h1 hb]
 exact w8 (RV (n:=8) ha hb)
theorem anZ{β:Type}(x:Nat)(h:x<=4294967295)(k:Value->M β):G3 (.int .u32 (x:Int)) k=k (.int .u32 ((4294967295-x:Nat):Int)):=by
 show(match Nat.ble x 4294967295 with
  |true=>k (.int .u32 (.ofNat (Nat.sub 4294967295 x)))
  |false=>M.fail)=_
 rw[Nat.ble_eq_true_of_le h]
 rfl
def qM(s b:Nat):Nat:=(s*2^8 %4294967296)^^^xF ((s/2^24)^^^b)
theorem abU(s b:Nat):qM s b<4294967296:=E7 (m9 _ (by decide)) (abC _)
def tV(l:List Nat):Nat:=l.foldl qM 4294967295
theorem abV(l:List Nat):tV l<4294967296:=by
 unfold tV
 have:∀(l:List Nat) (s:Nat),s<4294967296->l.foldl qM s<4294967296:=by
  intro l
  induction l with
  |nil=>intro s h;exact h
  |cons x l ih=>intro s h;exact ih _ (abU _ _)
 exact this l _ (by decide)
def pT(l:List Nat):Nat:=4294967295-tV l
def iI(i:Nat):List Value:=(iL 256).map fun b=>dG .u32 (if b<i then(xF b:Int)else 0)
theorem sq(i:Nat):(iI i).length=256:=by unfold iI;simp
theorem P6{i j:Nat}(h:j<256):(iI i)[j]? =some (.int .u32 (if j<i then(xF j:Int)else 0)):=by unfold iI;rw[jC,List.getElem?_range h];rfl
theorem an0{i:Nat}(h:i<256):(iI i).set i (.int .u32 (xF i:Int))=iI (i+1):=by
 apply Rj
 intro j
 by_cases hj:j<256
 ·rw[ar0,P6 hj,P6 hj]
  by_cases e:i=j
  ·subst e
   rw[if_pos rfl,if_pos (by rw[sq];exact h),if_pos (by omega)]
  ·rw[if_neg e]
   by_cases c:j<i
   ·rw[if_pos c,if_pos (by omega)]
   ·rw[if_neg c,if_neg (by omega)]
 ·rw[sC (by rw[List.length_set,sq];omega),sC (by rw[sq];omega)]
theorem an1:iI 0=cr 256 (.int .u32 0):=by
 unfold iI
 rw[vE (g:=fun _=>dG .u32 0) fun b _=>by rw[if_neg (mJ b)],adw,RF]
structure Ay (h:H) (n a s:Nat):Prop where
 get:h.get a=some ⟨260,true,iI 256++[.int .u32 (s:Int)]⟩
 lt:a<n
 sm:s<4294967296
theorem smz:Vf=cr 257 (.int .u32 0):=Dz _ _
section
variable {lf d n a s:Nat} {h:H}
theorem an2(aC:300<=lf):ai (fun _=>False) n (au ah gt lf (d+1) 187 #[]) h n fun v h' n'=>v= .agg (iI 256).toArray:=by
 rw[aL (fun _=>ai4) rfl]
 refine ai.aH ?_
 unfold Og
 refine fq VP _ ?_
 refine fq VP _ ?_
 have ga:∀B:Option AB,((h.set n (some ⟨257,true,cr 256 (.int .u32 0)⟩)).set (n+1) B).get n=some ⟨257,true,cr 256 (.int .u32 0)⟩:=fun B=>by rw[aD _ _ (by omega),get_eq]
 have z1:(0:Int)<=1:=by decide
 have z24:(0:Int)<=24:=by decide
 have z31:(0:Int)<=31:=by decide
 refine eD 256 (fun fu i (_:Unit)=>wS lf (au ah gt lf d) fu (D9 lf (au ah gt lf d)) (.pointer (some ⟨n,0,none⟩)) (.pointer (some ⟨n+1,0,none⟩)) (.int .i64 (i:Int)))
  (fun i _ h' n'=>n'=n+2∧h'.get (n+1)=some ⟨257,true,iI i⟩∧h'.get n=some ⟨257,true,cr 256 (.int .u32 0)⟩) ?_ ?_ lf 0 () _ (n+2) (aR _) (by omega) ⟨rfl,by rw[get_eq,an1],ga _⟩
 ·rintro fu _ h' n' ⟨rfl,g1,g0⟩
  have e1:¬(((256:Nat):Int)<256):=by decide
  rw[wS]
  try simp(disch:=first|omega|assumption) only[af,aa,RZ,e1]
  (try unfold D9);(try dsimp only)
  refine jy trivial trivial (n+1) 0 _ g1 (by omega) (by rw[sq];decide) ?_
  have e0:((iI 256).drop 0).take 256=iI 256:=by rw[jr];exact xZ (by rw[sq];exact an _)
  show ai _ n (aX 256 _ (.agg (((iI 256).drop 0).take 256).toArray) _) _ _ _
  rw[e0]
  refine db trivial (sq _) kg (by rw[List.all_eq_true];intro v hv;obtain⟨x,_,rfl⟩:=List.mem_map.1 hv;rfl) g0 (by omega) (.inl (an _)) _ fun h2 g2 k2=> ?_
  exact fQ trivial trivial g2 (sq _) (by omega) rfl
 ·rintro fu i _ h' n' hi ⟨rfl,g1,g0⟩ next
  have e1:(i:Int)<256:=by omega
  have w1:IntKind.u32.wrap (i:Int)=(i:Int):=fW (by omega)
  have s24:min ((24:Int)).toNat (lO).bits=24:=by decide
  have w2:IntKind.u32.wrap ((i:Int)*2^(min ((24:Int)).toNat (lO).bits))=((i*2^24 %4294967296:Nat):Int):=by rw[s24];exact _root_.Go.Proofs.YtmjolmggelkjlaaGreat.B5
  rw[wS]
  try simp(disch:=first|omega|assumption) only[af,aa,RZ,e1,w1,z24,w2]
  refine eD 8 (fun f2 j (x:Nat)=>zS lf (au ah gt lf d) f2 (Yq lf (au ah gt lf d) fu (D9 lf (au ah gt lf d))) (.pointer (some ⟨n,0,none⟩)) (.pointer (some ⟨n+1,0,none⟩)) (.int .i64 (i:Int)) (.int .u32 (x:Int)) (.int .i64 (i:Int)) (.bool true) (.int .i64 (j:Int)))
   (fun j x h2 n2=>n2=n+2∧h2=h'∧x=kL j (i*2^24 %4294967296)) ?_ ?_ lf 0 _ h' (n+2) (aR _) (by omega) ⟨rfl,rfl,rfl⟩
  ·rintro f2 x h2 n2 ⟨rfl,rfl,rfl⟩
   have e2:¬(((8:Nat):Int)<8):=by decide
   rw[zS]
   try simp(disch:=first|omega|assumption) only[af,aa,RZ,e2]
   (try unfold Yq);(try unfold Ia);(try dsimp only)
   have w3:IntKind.i64.wrap ((i:Int)+1)=((i+1:Nat):Int):=by rw[aJ (by omega) (by omega)];rfl
   have w4:(i:Int)+1=((i+1:Nat):Int):=rfl
   have hl:i<(iI i).length:=by rw[sq];exact hi
   have P7:n<=n+1:=iP n
   try simp(disch:=first|omega|assumption) only[af,aa,RZ,g1,hl,P7,w3,w4]
   have:=next () (h2.set (n+1) (some ⟨257,true,iI (i+1)⟩)) (n+2) ⟨rfl,get_eq _ _ _,(aD _ _ (by omega)).trans g0⟩
   rw[<-an0 hi]at this
   exact this
  ·rintro f2 j x h2 n2 hj ⟨rfl,rfl,rfl⟩ pK
   obtain⟨x,hx⟩:∃x,kL j (i*2^24 %4294967296)=x:=⟨_,rfl⟩
   have xl:x<4294967296:=by rw[<-hx];exact E8 _ _ (m9 _ (by decide))
   have e2:(j:Int)<8:=by omega
   have s1:min ((1:Int)).toNat (lO).bits=1:=by decide
   have w3:((x:Int)).fdiv (2^(min ((31:Int)).toNat (lO).bits))=((x/2^31:Nat):Int):=fdiv_pow x 31 (lO).bits (by decide)
   have w4:IntKind.u32.wrap ((x:Int)*2^(min ((1:Int)).toNat (lO).bits))=((x*2^1 %4294967296:Nat):Int):=by rw[s1];exact _root_.Go.Proofs.YtmjolmggelkjlaaGreat.B5
   have w5:IntKind.u32.wrap (((x/2^31:Nat):Int)*79764919)=((x/2^31*79764919 %4294967296:Nat):Int):=ann (x:=x/2^31) (y:=79764919)
   have w6:=xE (a:=x*2^1 %4294967296) (b:=x/2^31*79764919 %4294967296) (m9 _ (by decide)) (m9 _ (by decide))
   have w7:IntKind.i64.wrap ((j:Int)+1)=((j+1:Nat):Int):=by rw[aJ (by omega) (by omega)];rfl
   have rS:(j:Int)+1=((j+1:Nat):Int):=rfl
   rw[hx,zS]
   try simp(disch:=first|omega|assumption) only[af,aa,RZ,e2,z31,z1,w3,w4,w5,w6,w7,rS]
   refine pK (lJ x) _ _ ⟨rfl,rfl, ?_⟩
   show lJ x=lJ (kL j (i*2^24 %4294967296))
   rw[hx]
theorem an3(aC:300<=lf):ai (fun _=>False) n (au ah gt lf (d+2) 154 #[]) h n fun v h' n'=>∃a,v= .pointer (some ⟨a,0,none⟩)∧n<=a∧Ay h' n' a 4294967295:=by
 rw[aL (fun _=>aii) rfl]
 refine ai.aH ?_
 unfold XQ
 refine aU aK (an2 (lf:=lf) (d:=d) aC) (an _) (fun _ _ h=>h.elim) fun v1 h1 n1 aM aY aw=> ?_
 subst aw
 rw[smz]
 have l1:(iI 256).length=256:=sq 256
 have l2:0+256<=(cr 257 (dG .u32 0)).length:=by rw[kg];decide
 have l3:256<((cr 257 (dG .u32 0)).take 0++(iI 256++(cr 257 (dG .u32 0)).drop (0+256))).length:=by
  rw[RD,uo,bX,l1,b9,kg]
  decide
 rw[MU,MX,if_pos l1,if_pos l2,MW,if_pos l3]
 have e:((cr 257 (dG .u32 0)).take 0++(iI 256++(cr 257 (dG .u32 0)).drop (0+256))).set 256 (.int .u32 4294967295)=iI 256++[.int .u32 4294967295]:=by
  rw[RD,uo,Kp _ _ (by rw[l1];exact an _),l1]
  rfl
 rw[e,MV]
 try simp(disch:=first|omega|assumption) only[af,aa,RZ]
 refine jH trivial _ _ ?_
 try simp(disch:=first|omega|assumption) only[af,aa,RZ]
 exact⟨n1,rfl,aM,get_eq _ _ _,by omega,by decide⟩
theorem an4(x:Ay h n a s)(b:Nat)(hb:b<256):ai (fun c=>c=a) n (au ah gt lf (d+2) 184 #[.pointer (some ⟨a,0,none⟩),.int .u8 (b:Int)]) h n fun _ h' n'=>n'=n∧Ay h' n' a (qM s b)∧∀c,c≠a->h'.get c=h.get c:=by
 have g:=x.get
 have ha:=x.lt
 have hs:=x.sm
 have l1:(iI 256).length=256:=sq 256
 have c1:(iI 256++[dG .u32 (s:Int)])[256]? =some (.int .u32 (s:Int)):=by rw[qR (by rw[l1];exact an _),l1];rfl
 have q8:s/2^24<256:=by omega
 have x8:(s/2^24)^^^b<256:=RV (n:=8) q8 hb
 have stp:ai (fun _=>False) n (au ah gt lf (d+1) 214 #[.pointer (some ⟨a,0,none⟩),.int .u32 (s:Int),.int .u8 (b:Int)]) h n fun v h' n'=>v= .int .u32 ((qM s b:Nat):Int)∧h'=h∧n'=n:=by
  rw[aL (fun _=>ajr) rfl]
  refine ai.aH ?_
  unfold YX qM
  have z8:(0:Int)<=8:=by decide
  have z24:(0:Int)<=24:=by decide
  have s8:min ((8:Int)).toNat (lO).bits=8:=by decide
  have w1:IntKind.u32.wrap ((s:Int)*2^(min ((8:Int)).toNat (lO).bits))=((s*2^8 %4294967296:Nat):Int):=by rw[s8];exact _root_.Go.Proofs.YtmjolmggelkjlaaGreat.B5
  have w2:((s:Int)).fdiv (2^(min ((24:Int)).toNat (lO).bits))=((s/2^24:Nat):Int):=fdiv_pow s 24 (lO).bits (by decide)
  obtain⟨q,hq⟩:∃q,s/2^24=q:=⟨_,rfl⟩
  rw[hq]at w2 q8 x8⊢
  have w3:IntKind.u8.wrap (q:Int)=(q:Int):=w8 q8
  have w4:=anY q8 hb
  obtain⟨i,hi⟩:∃i,q^^^b=i:=⟨_,rfl⟩
  rw[hi]at w4 x8⊢
  have c2:(iI 256++[dG .u32 (s:Int)])[i]? =some (.int .u32 (xF i:Int)):=by rw[uk (by rw[l1];exact x8),P6 x8,if_pos x8]
  have i0:(0:Int)<=(i:Int):=by omega
  have i1:(i:Int)<256:=by omega
  have w5:=xE (a:=s*2^8 %4294967296) (b:=xF i) (m9 _ (by decide)) (abC i)
  try simp(disch:=first|omega|assumption) only[af,aa,RZ,z8,z24,w1,w2,w3,w4,i0,i1,g,c2,w5]
 rw[aL (fun _=>ai0) rfl]
 refine ai.aH ?_
 unfold Yn
 try simp(disch:=first|omega|assumption) only[af,aa,RZ,g,c1]
 refine bL stp (an _) (fun _ _ h=>h.elim) ?_
 have hl:256<(iI 256++[dG .u32 (s:Int)]).length:=by rw[bX,l1];exact gh 256
 try simp(disch:=first|omega|assumption) only[af,aa,RZ,g,hl]
 refine⟨⟨?_,ha,abU _ _⟩,fun c hc=>aD _ _ hc⟩
 rw[get_eq,Kp _ _ (by rw[l1];exact an _),l1]
 rfl
theorem an5(x:Ay h n a s)(l:List Nat)(kb:By l)(hl:l.length<=1000000000)(aC:l.length+300<=lf):ai (fun c=>c=a) n (au ah gt lf (d+3) 150 #[.pointer (some ⟨a,0,none⟩),.string ⟨(bS l).toArray⟩]) h n fun _ h' n'=>n'=n∧Ay h' n' a (l.foldl qM s)∧∀c,c≠a->h'.get c=h.get c:=by
 have bl:=xJ l
 rw[aL (fun _=>aif) rfl]
 refine ai.aH ?_
 unfold N5
 try simp(disch:=first|omega|assumption) only[af,aa,RZ,bl]
 refine eD l.length (fun fu i (_:Unit)=>zM lf (au ah gt lf (d+2)) fu (H4 lf (au ah gt lf (d+2))) (.pointer (some ⟨a,0,none⟩)) (.string ⟨(bS l).toArray⟩) (.int .i64 (l.length:Int)) (.int .i64 (i:Int)))
  (fun i _ h' n'=>n'=n∧Ay h' n' a ((l.take i).foldl qM s)∧∀c,c≠a->h'.get c=h.get c) ?_ ?_ lf 0 () h n (aR _) (by omega) ⟨rfl,x,fun _ _=>rfl⟩
 ·rintro fu _ h' n' ⟨rfl,x',k'⟩
  rw[zM]
  try simp(disch:=first|omega|assumption) only[af,aa,RZ,fg]
  (try unfold H4);(try dsimp only)
  rw[List.take_length]at x'
  exact(qy _).2 ⟨rfl,x',k'⟩
 ·rintro fu i _ h' n' hi ⟨rfl,x',k'⟩ next
  have e1:(i:Int)<((l.length:Nat):Int):=by omega
  have i0:(0:Int)<=(i:Int):=by omega
  have i1:(i:Int)<(((bS l).length:Nat):Int):=by omega
  have ya:=Cv kb hi
  have P5:=kb.at hi
  obtain⟨y,hy⟩:∃y,l.getD i 0=y:=⟨_,rfl⟩
  rw[hy]at ya P5
  have w4:IntKind.i64.wrap ((i:Int)+1)=((i+1:Nat):Int):=by rw[aJ (by omega) (by omega)];rfl
  have w5:(i:Int)+1=((i+1:Nat):Int):=rfl
  rw[zM]
  try simp(disch:=first|omega|assumption) only[af,aa,RZ,e1,i0,i1,ya]
  refine aU aK (an4 (lf:=lf) (d:=d) x' y P5) (an _) (fun b _ hb=> .inr hb) fun v2 h2 n2 cJ cf bu=> ?_
  obtain⟨rfl,x2,k2⟩:=bu
  try simp(disch:=first|omega|assumption) only[af,aa,RZ,w4,w5]
  refine next () _ _ ⟨rfl, ?_,fun c hc=>(k2 c hc).trans (k' c hc)⟩
  rw[List.take_succ_eq_append_getElem hi,List.foldl_append]
  have:l[i]=y:=by rw[<-hy,bC,bD hi];rfl
  rw[this]
  exact x2
theorem an6(x:Ay h n a s):ai (fun _=>False) n (au ah gt lf (d+1) 186 #[.pointer (some ⟨a,0,none⟩)]) h n fun v h' n'=>v= .int .u32 ((4294967295-s:Nat):Int)∧h'=h∧n'=n:=by
 have g:=x.get
 have ha:=x.lt
 have hs:=x.sm
 have l1:(iI 256).length=256:=sq 256
 have c1:(iI 256++[dG .u32 (s:Int)])[256]? =some (.int .u32 (s:Int)):=by rw[qR (by rw[l1];exact an _),l1];rfl
 rw[aL (fun _=>ai1) rfl]
 refine ai.aH ?_
 unfold Yo
 have kx:=fun(k:Value->M Value)=>anZ s (by omega) k
 try simp(disch:=first|omega|assumption) only[af,aa,RZ,g,c1,kx]
theorem an7(l:List Nat)(kb:By l)(hl:l.length<=1000000000)(aC:l.length+300<=lf):ai (fun _=>False) n (au ah gt lf (d+4) 161 #[.string ⟨(bS l).toArray⟩]) h n fun v h' n'=>v= .int .u32 ((pT l:Nat):Int):=by
 rw[aL (fun _=>aiE) rfl]
 refine ai.aH ?_
 unfold XX
 refine aU aK (an3 (lf:=lf) (d:=d+1) (by omega)) (an _) (fun _ _ h=>h.elim) fun v1 h1 n1 aM aY aw=> ?_
 obtain⟨a,rfl,ha,x1⟩:=aw
 refine aU aK (an5 (lf:=lf) (d:=d) x1 l kb hl aC) aM (fun b _ hb=> .inl (hb▸ha)) fun v2 h2 n2 cJ cf bu=> ?_
 obtain⟨rfl,x2,_⟩:=bu
 refine bL (an6 (lf:=lf) (d:=d+2) x2) (by omega) (fun _ _ h=>h.elim) ?_
 try simp(disch:=first|omega|assumption) only[af,aa,RZ]
 rfl
end
theorem P8{l:List Nat}{bj:Nat}(ok:pR l bj)(j:Nat):By (kO l bj j):=fun x hx=>by
 unfold kO at hx
 obtain⟨i,_,rfl⟩:=List.mem_map.1 hx
 exact ok.kP.at (Cx ok.kP ok.bj _)
theorem Fj(l:List Nat)(bj j:Nat):(kO l bj j).length=j:=by unfold kO;simp
theorem JC:∀{l:List Nat} {run prev:Nat} {t:List Nat},By l->prev<256->dc run prev l= .ok t->By t
 |[],run,prev,t,_,_,h=>by
  unfold dc at h
  split at h
  ·cases h
  ·cases h;intro x hx;cases hx
 |x::l,run,prev,t,kb,hp,h=>by
  have kl:By l:=fun y hy=>kb y (by simp[hy])
  have hx:=kb x (by simp)
  rw[Ax]at h
  split at h
  ·split at h
   ·cases h
   ·cases e:dc 0 x l with
    |error e=>rw[e]at h;cases h
    |ok t'=>
     rw[e]at h
     cases h
     intro y hy
     rcases List.mem_append.1 hy with q|q
     ·rw[List.eq_of_mem_replicate q];exact hp
     ·exact JC kl hx e y q
  ·cases e:dc (if 0<run∧x=prev then run+1 else 1) x l with
   |error e=>rw[e]at h;cases h
   |ok t'=>
    rw[e]at h
    cases h
    intro y hy
    rcases List.mem_cons.1 hy with rfl|q
    ·exact hx
    ·exact JC kl hx e y q
def hH(g:Gt):Except Int (List Nat):=match dc 0 0 (kO g.last g.aO g.last.length)with
 | .error _=> .error 25
 | .ok s=>if pT s=g.sum then .ok s else .error 21
theorem P9{g:Gt}{s:List Nat}(h:hH g= .ok s):s.length<=251*g.last.length:=by
 unfold hH at h
 split at h
 ·cases h
 ·next t e=>
  split at h
  ·cases h
   have:=CA e
   rwa[Fj]at this
  ·cases h
theorem Fk{g:Gt}{e:Int}(h:hH g= .error e):e=21∨e=25:=by
 unfold hH at h
 split at h
 ·cases h;exact .inr rfl
 ·split at h
  ·cases h
  ·cases h;exact .inl rfl
section
variable {lf d n:Nat} {h:H}
theorem an8(l:List Nat)(kb:By l)(hl:l.length<=900000)(aC:3000000<=lf):ai (fun _=>False) n (au ah gt lf (d+3) 160 #[.string ⟨(bS l).toArray⟩]) h n fun v h' n'=>(match dc 0 0 l with
 | .ok t=>v= .tuple #[.string ⟨(bS t).toArray⟩,.int .i64 0]
 | .error e=>v= .tuple #[.string ⟨#[]⟩,.int .i64 e]∧e≠0):=by
 rw[aL (fun _=>aiD) rfl]
 refine ai.aH ?_
 unfold XW
 refine fq Ng _ ?_
 have x0:vo (h.set n (some ⟨73,true,[.slice none 0 0]⟩)) (n+1) (n+1) n []:=⟨_,get_eq _ _ _,Own.nil _ _ _ _⟩
 refine aU aK (anX (lf:=lf) (d:=d) x0 (gh n) (an _) l kb hl (by simp) aC) (by omega) (fun b _ hb=> .inl (by omega)) fun v1 h1 n1 aM aY aw=> ?_
 cases e:dc 0 0 l with
 |error e0=>
  rw[e]at aw
  obtain⟨rfl,he⟩:=aw
  have z1:(e0 !=0)=true:=by rw[bne_iff_ne];omega
  try simp(disch:=first|omega|assumption) only[af,aa,RZ,z1]
  first|exact⟨rfl,by omega⟩|(show e0≠0;omega)
 |ok t=>
  rw[e]at aw
  obtain⟨rfl,ov,g1,o1⟩:=aw
  have z0:((0:Int) !=0)=false:=rfl
  have hn:n<n1:=by omega
  try simp(disch:=first|omega|assumption) only[af,aa,RZ,z0,g1]
  rw[uo]at o1
  refine ON o1 _ ?_
  try simp(disch:=first|omega|assumption) only[af,aa,RZ]
theorem an9(g:Gt)(ok:pR g.last g.aO)(hs:g.sum<4294967296)(aC:300000000<=lf):ai (fun _=>False) n (au ah gt lf (d+5) 124 #[.agg #[.string ⟨(bS g.last).toArray⟩,.int .i64 (g.aO:Int),.int .u32 (g.sum:Int)]]) h n fun v h' n'=>(match hH g with
 | .ok s=>v= .tuple #[.string ⟨(bS s).toArray⟩,.int .i64 0]
 | .error e=>v= .tuple #[.string ⟨#[]⟩,.int .i64 e]):=by
 have hl:=ok.len
 rw[aL (fun _=>ahQ) rfl]
 refine ai.aH ?_
 unfold Xi
 refine jH trivial _ _ ?_
 have gb:(h.set n (some ⟨134,true,(mf #[.string ⟨(bS g.last).toArray⟩,.int .i64 (g.aO:Int),.int .u32 (g.sum:Int)]).cells.toList⟩)).get n=some ⟨134,true,[.string ⟨(bS g.last).toArray⟩,.int .i64 (g.aO:Int),.int .u32 (g.sum:Int)]⟩:=get_eq _ _ _
 obtain⟨hb,B8⟩:∃q,h.set n (some ⟨134,true,(mf #[.string ⟨(bS g.last).toArray⟩,.int .i64 (g.aO:Int),.int .u32 (g.sum:Int)]).cells.toList⟩)=q:=⟨_,rfl⟩
 rw[B8]at gb⊢
 have aM:n<n+1:=gh n
 have z0:((0:Int) !=0)=false:=rfl
 try simp(disch:=first|omega|assumption) only[af,aa,RZ,gb]
 refine aU aK (anW (lf:=lf) (d:=d) ok (by omega)) (iP n) (fun _ _ h=>h.elim) fun v1 h1 n1 Py aY aw=> ?_
 subst aw
 try simp(disch:=first|omega|assumption) only[af,aa,RZ,bG,ext1,z0]
 have kb:=P8 ok g.last.length
 have ol:=Fj g.last g.aO g.last.length
 refine aU aK (an8 (lf:=lf) (d:=d+1) _ kb (by omega) (by omega)) (by omega) (fun _ _ h=>h.elim) fun v2 h2 n2 cJ cf bu=> ?_
 unfold hH
 cases e:dc 0 0 (kO g.last g.aO g.last.length)with
 |error e0=>
  rw[e]at bu
  obtain⟨rfl,he⟩:=bu
  have z1:(e0 !=0)=true:=by rw[bne_iff_ne];exact he
  try simp(disch:=first|omega|assumption) only[af,aa,RZ,bG,ext1,z1]
 |ok t=>
  rw[e]at bu
  subst bu
  have tl:=CA e
  rw[ol]at tl
  have tb:=JC kb (by decide) e
  try simp(disch:=first|omega|assumption) only[af,aa,RZ,bG,ext1,z0]
  refine tA aK (an7 (lf:=lf) (d:=d) t tb (by omega) (by omega)) (by omega) fun v3 h3 n3 T3 fw dK bQ t3=> ?_
  subst bQ
  have g3:=(dK n (by omega)).trans ((cf n (by omega) id).trans ((aY n (by omega) id).trans gb))
  try simp(disch:=first|omega|assumption) only[af,aa,RZ]
  refine gZ trivial n 2 _ g3 (show n<n2 by omega) fw rfl fun T4 t4=> ?_
  by_cases c:pT t=g.sum
  ·have z4:(((pT t:Nat):Int) !=((g.sum:Nat):Int))=false:=by rw[c];exact bne_self_eq_false _
   try simp(disch:=first|omega|assumption) only[af,aa,RZ,t3.cA t4,cP,fR,eh,z4,c]
  ·have z4:(((pT t:Nat):Int) !=((g.sum:Nat):Int))=true:=by rw[bne_iff_ne];omega
   try simp(disch:=first|omega|assumption) only[af,aa,RZ,t3.cA t4,cP,fR,eh,z4,c]
end
end Go.Proofs.YtmjolmggelkjlaaGreat
namespace Go.Proofs.YtmjolmggelkjlaaGreat.Ev
open Go Go.RowKit
section
variable {β:Type} {W:Nat->Prop} {n0:Nat} {h:H} {n:Nat} {Q:β->H->Nat->Prop} {e:TypeId} {sz:Nat}
theorem Az{sz:Nat}:∀{ts:List (List Value)},(∀t∈ts,t.length=sz)->ts.flatten.length=ts.length*sz
 |[],_=>by simp
 |t::ts,h=>by
  rw[adx,bX,h t (by simp),Az fun u hu=>h u (by simp[hu]),dp,pZ,Km,Kn]
theorem JD{sz:Nat}:∀{ts:List (List Value)} {i:Nat},(∀t∈ts,t.length=sz)->i<ts.length->(ts.flatten.drop (i*sz)).take sz=ts.getD i []
 |t::ts,0,h,_=>by
  rw[Nat.zero_mul,jr,adx,<-h t (by simp),List.take_left]
  rfl
 |t::ts,i+1,h,hi=>by
  have:=JD (ts:=ts) (i:=i) (fun u hu=>h u (by simp[hu])) (by simpa using hi)
  rw[adx,pZ,Km,Kn,<-ng,<-h t (by simp),List.drop_left,h t (by simp),this]
  rfl
def eV(h:H)(lo n:Nat)(e:TypeId)(v:Value)(ts:List (List Value)):Prop:=(v= .slice none 0 0∧ts=[])∨∃b,v= .slice (some ⟨b,0,none⟩) ts.length (bq+ts.length)∧h.get b=some ⟨e,true,ts.flatten⟩∧lo<=b∧b<n
theorem eV.nil(h:H)(lo n:Nat)(e:TypeId):eV h lo n e (.slice none 0 0) []:= .inl ⟨rfl,rfl⟩
theorem eV.aB{lo:Nat}{v:Value}{ts:List (List Value)}{h':H}{n':Nat}(o:eV h lo n e v ts)(hn:n<=n')(hk:∀b,aN v b->h'.get b=h.get b):eV h' lo n' e v ts:=by
 rcases o with q|⟨c,rfl,hc,h1,h2⟩
 ·exact .inl q
 ·exact .inr ⟨c,rfl,(hk c ⟨_,_,_,rfl⟩).trans hc,h1,by omega⟩
theorem eV.lt{lo:Nat}{v:Value}{ts:List (List Value)}(o:eV h lo n e v ts){b:Nat}(hb:aN v b):lo<=b∧b<n:=by
 rcases o with ⟨rfl,_⟩|⟨c,rfl,_,h1,h2⟩
 ·exact hb.not_nil.elim
 ·rw[hb.inj];exact⟨h1,h2⟩
theorem eV.len{lo:Nat}{v:Value}{ts:List (List Value)}(o:eV h lo n e v ts):∃a c,v= .slice a ts.length c:=by
 rcases o with ⟨rfl,rfl⟩|⟨b,rfl,_⟩
 ·exact⟨none,0,rfl⟩
 ·exact⟨_,_,rfl⟩
theorem JE {vs:List Value} (gI:vs.length=sz) (h0:0<sz) (A7:vs.all one=true) {lo:Nat} {v:Value} {ts:List (List Value)} (eg:∀t∈ts,t.length=sz) (o:eV h lo n e v ts) (hm:ts.length+1<=1099511627776) (hw:∀b,aN v b->n0<=b∨W b) (qn:n0<=n) (jj:lo<=n) (k:Value->M β)
 (y:∀v' h',eV h' lo (n+2) e v' (ts++[vs])->(∀b,aN v' b->n<=b)->(∀b,b<n->¬aN v b->h'.get b=h.get b)->ai W n0 (k v') h' (n+2) Q):ai W n0 (cX e sz (.agg vs.toArray) fun w=>dj e sz v w k) h n Q:=by
 have d:∀K:Value->M β,cX e sz (.agg vs.toArray) K=eW ((kF e vs).bind fun id=>M.ret (kf (some ⟨id,0,none⟩) 1 1)) K:=fun K=>by
  unfold cX
  rw[show Nat.beq (gO (dU (.agg vs.toArray))) sz=true by rw[oD,show dU (.agg vs.toArray)=vs from rfl,gI,Nat.beq_refl]]
  rfl
 rw[d]
 refine jx (rJ (pD _ _ (fun id=>kf (some ⟨id,0,none⟩) 1 1) _ _) (iP n) ?_)
 have Hw:(h.set n (some ⟨e,true,vs⟩)).get n=some ⟨e,true,vs⟩:=get_eq _ _ _
 obtain⟨L,r1,r2⟩:=rK (n:=n+1) Hw (gh n) sz 0 (by show 0+sz<=vs.length;omega)
 have r1:kU sz 1 (.slice (some ⟨n,0,none⟩) 1 1) (h.set n (some ⟨e,true,vs⟩)) (n+1)=some ⟨vs,h.set n (some ⟨e,true,vs⟩),n+1,L⟩:=by
  unfold kU
  show cU n 0 (1*sz) _ _=_
  rw[Km,r1,jr,xZ (by show vs.length<=sz;omega)]
 have hc:(decide (vs.length=1*sz)&&vs.all one)=true:=by rw[A7,decide_eq_true (by omega)];rfl
 refine jx ?_
 rcases o with ⟨rfl,rfl⟩|⟨b,rfl,hb,h1,h2⟩
 ·have ea:lE e sz (.slice none 0 0) (.slice (some ⟨n,0,none⟩) 1 1) (h.set n (some ⟨e,true,vs⟩)) (n+1)=some ⟨.slice (some ⟨n+1,0,none⟩) 1 (bq+1),(h.set n (some ⟨e,true,vs⟩)).set (n+1) (some ⟨e,true,vs⟩),n+2,L++([]++[])⟩:=by
   unfold lE
   rw[td,mS]
   simp only[ic]
   rw[if_neg (by omega),if_pos (by omega)]
   refine bZ r1 ?_
   rw[if_pos hc]
   exact bZ (wH _ _ _ _) rfl
  refine ai.step (jU ea) (by omega) (fun y hy gJ=> ?_) (y _ _ (.inr ⟨n+1,rfl,by rw[get_eq];simp,by omega,by omega⟩) (fun b hb=>by rw[hb.inj];omega) (fun b hb _=>by rw[aD _ _ (by omega),aD _ _ (by omega)]))
  have:=(List.mem_filter.1 hy).1
  simp at this
  rw[r2 y this]at gJ
  cases gJ
 ·have bW:(h.set n (some ⟨e,true,vs⟩)).get b=some ⟨e,true,ts.flatten⟩:=by rw[aD _ _ (by omega)];exact hb
  have lR:b<n+1:=by omega
  obtain⟨L',s1,s2⟩:=rK (n:=n+1) bW lR (ts.length*sz) 0 (by show 0+ts.length*sz<=ts.flatten.length;rw[Az eg];omega)
  rw[jr,xZ (by show ts.flatten.length<=_;rw[Az eg];exact an _)]at s1
  have ea:∃L1,lE e sz (.slice (some ⟨b,0,none⟩) ts.length (bq+ts.length)) (.slice (some ⟨n,0,none⟩) 1 1) (h.set n (some ⟨e,true,vs⟩)) (n+1)=some ⟨.slice (some ⟨n+1,0,none⟩) (ts.length+1) (bq+(ts.length+1)),((h.set n (some ⟨e,true,vs⟩)).set b none).set (n+1) (some ⟨e,true,ts.flatten++vs⟩),n+2,L1⟩∧∀y∈L1,y.wr=true->y.b=b:=by
   refine⟨[⟨false,b,some 1099511627776⟩]++(L++(L'++([⟨false,b,none⟩,⟨true,b,none⟩]++([]++[])))), ?_, ?_⟩
   ·unfold lE Bu
    rw[td,mS,yQ,GQ,pr]
    simp only[ic]
    rw[if_neg (by omega),if_pos hm]
    refine bZ (DO bW lR) ?_
    simp only[if_true]
    refine bZ r1 ?_
    rw[if_pos hc]
    rw[if_neg (by omega)]
    refine bZ s1 (bZ (MZ bW rfl lR) ?_)
    exact bZ (wH _ _ _ _) rfl
   ·intro y hy gJ
    simp only[cu,List.mem_append,List.mem_cons,List.not_mem_nil,or_false]at hy
    rcases hy with rfl|hy|hy|rfl|rfl
    ·cases gJ
    ·rw[r2 y hy]at gJ;cases gJ
    ·rw[s2 y hy]at gJ;cases gJ
    ·cases gJ
    ·rfl
  obtain⟨L1,ea,y9⟩:=ea
  refine ai.step (jU ea) (by omega) (fun y hy gJ=> ?_) (y _ _ (.inr ⟨n+1,by simp, ?_,by omega,by omega⟩) (fun b hb=>by rw[hb.inj];omega) (fun d hd hn=> ?_))
  ·rw[y9 y (List.mem_filter.1 hy).1 gJ]
   exact hw b ⟨_,_,_,rfl⟩
  ·rw[get_eq,List.flatten_append]
   simp
  ·have:d≠b:=fun e=>hn ⟨0,_,_,by rw[e]⟩
   rw[aD _ _ (by omega),aD _ _ this,aD _ _ (by omega)]
end
end Go.Proofs.YtmjolmggelkjlaaGreat.Ev
namespace Go.Proofs.YtmjolmggelkjlaaGreat
open Go.RowKit Ev Cn Ip
structure Is where
 u:Us
 A:Nat
 ps:List Pt
 next:Nat
 total:Nat
def oO(S:List UInt8)(p a:Nat)(pv:Value)(s:Is):AB:=⟨98,true,[.string ⟨S.toArray⟩,.pointer (some ⟨p,0,none⟩),.pointer (some ⟨a,0,none⟩),pv,.int .i64 (s.next:Int),.int .u32 (s.total:Int)]⟩
structure jm (h:H) (n:Nat) (L:Nat->Nat) (rp p unit:Nat) (S:List UInt8) (s:Is) (m:Um) (pv:Value):Prop where
 get:h.get rp=some (oO S p m.a pv s)
 lt:rp<n
 lr:L rp=10
 ps:eV h 0 n 33 pv (s.ps.map Pt.cells)
 lv:∀b,aN pv b->L b=11
 rd:bf h n p S 0 s.A
 lp:L p=1
 us:gS h n L p unit s.u m 0
 fl:m.bm.Fl
def WI(L:Nat->Nat):Nat->Prop:=fun c=>1<=L c∧L c<=11
theorem tW{L:Nat->Nat}{c i:Nat}(h:L c=i)(h1:1<=i)(h2:i<=11):WI L c:=by unfold WI;omega
theorem abW{ps:List Pt}:∀t∈ps.map Pt.cells,t.length=8:=fun t ht=>by
 obtain⟨p,_,rfl⟩:=List.mem_map.1 ht
 rfl
def Is.add(s:Is)(p:Pt)(dQ:Nat):Is:={s with ps:=s.ps++[{p with aO:=s.next,dQ:=dQ}],next:=dQ}
section
variable {lf d n rp p unit:Nat} {h:H} {S:List UInt8} {L:Nat->Nat} {s:Is} {m:Um} {pv:Value}
theorem jm.aB(x:jm h n L rp p unit S s m pv){h':H}{n':Nat}{L':Nat->Nat}(hn:n<=n')(hL:∀c,c<n->L' c=L c)(hk:∀c,c<n->1<=L c->L c<=11->h'.get c=h.get c):jm h' n' L' rp p unit S s m pv:=
 ⟨(hk _ x.lt (by rw[x.lr];omega) (by rw[x.lr];omega)).trans x.get,mb x.lt hn,(hL _ x.lt).trans x.lr,
   x.ps.aB hn fun c hc=>hk c (x.ps.lt hc).2 (by rw[x.lv c hc];omega) (by rw[x.lv c hc];omega),fun c hc=>(hL c (x.ps.lt hc).2).trans (x.lv c hc),
   x.rd.aB hn (hk _ x.rd.lt (by rw[x.lp];omega) (by rw[x.lp];omega)),(hL _ x.rd.lt).trans x.lp,x.us.aB hn hL fun c hc h1 h2=>hk c hc (by omega) (by omega),x.fl⟩
theorem P'(x:jm h n L rp p unit S s m pv)(q:Pt)(dQ:Nat)(hm:s.ps.length<=100000000):ai (fun c=>c=rp∨aN pv c) n (au ah gt lf (d+1) 125 #[.pointer (some ⟨rp,0,none⟩),.agg q.cells.toArray,.int .i64 (dQ:Int)]) h n fun _ h' n'=>n<=n'∧∃iG,jm h' n' (fun c=>if c<n then L c else 11) rp p unit S (s.add q dQ) m iG:=by
 have g:=x.get
 have hr:=x.lt
 unfold oO at g
 rw[aL (fun _=>Xj) rfl]
 refine ai.aH ?_
 unfold NP
 refine jH trivial _ _ ?_
 have g0:(h.set n (some ⟨33,true,(mf q.cells.toArray).cells.toList⟩)).get n=some ⟨33,true,[.int .i64 q.what,.int .i64 q.level,.int .i64 q.aO,.int .i64 q.dQ,.int .u32 q.sum,.int .i64 q.lP,.int .i64 q.last,.int .i64 q.len]⟩:=get_eq _ _ _
 have x1:=x.aB (h':=h.set n (some ⟨33,true,(mf q.cells.toArray).cells.toList⟩)) (iP n) (L':=L) (fun _ _=>rfl) fun c hc _ _=>aD _ _ (by omega)
 obtain⟨h1,hh1⟩:∃h1,h.set n (some ⟨33,true,(mf q.cells.toArray).cells.toList⟩)=h1:=⟨_,rfl⟩
 rw[hh1]at g0 x1⊢
 have g1:=x1.get
 unfold oO at g1
 have aM:n<n+1:=gh n
 have rG:rp<n+1:=by omega
 have hrn:rp≠n:=by omega
 have P7:n<=n:=an n
 try simp(disch:=first|omega|assumption) only[af,aa,RZ,g1,g0,hrn,P7]
 obtain⟨h2,iV⟩:∃h2,(h1.set n (some ⟨33,true,[.int .i64 q.what,.int .i64 q.level,.int .i64 (s.next:Int),.int .i64 q.dQ,.int .u32 q.sum,.int .i64 q.lP,.int .i64 q.last,.int .i64 q.len]⟩)).set n (some ⟨33,true,[.int .i64 q.what,.int .i64 q.level,.int .i64 (s.next:Int),.int .i64 (dQ:Int),.int .u32 q.sum,.int .i64 q.lP,.int .i64 q.last,.int .i64 q.len]⟩)=h2:=⟨_,rfl⟩
 rw[iV]
 have g2:h2.get n=some ⟨33,true,[.int .i64 q.what,.int .i64 q.level,.int .i64 (s.next:Int),.int .i64 (dQ:Int),.int .u32 q.sum,.int .i64 q.lP,.int .i64 q.last,.int .i64 q.len]⟩:=by rw[<-iV,get_eq]
 have mr:∀c,c<n->h2.get c=h.get c:=fun c hc=>by
  have ne:c≠n:=by omega
  rw[<-iV,aD _ _ ne,aD _ _ ne,<-hh1,aD _ _ ne]
 refine jy trivial trivial n 0 _ g2 aM (show 8<=8 by decide) ?_
 have o2:eV h2 0 (n+1) 33 pv (s.ps.map Pt.cells):=x.ps.aB (iP n) fun c hc=>mr c (x.ps.lt hc).2
 have pn:∀c,aN pv c->c≠rp:=fun c hc e=>by have:=x.lv c hc;rw[e,x.lr]at this;cases this
 refine JE (sz:=8) (vs:=({q with aO:=s.next,dQ:=dQ}:Pt).cells) rfl (by decide) rfl abW o2 (by rw[dL];omega) (fun c hc=> .inr (.inr hc)) (iP n) (aR _) _ fun iG h3 o3 f3 k3=> ?_
 have g3:=(k3 rp rG fun e=>pn _ e rfl).trans ((mr rp hr).trans g)
 have DE:rp<n+1+2:=by omega
 have W1:rp=rp∨aN pv rp:= .inl rfl
 obtain⟨pa,pl,pc,jZ⟩:∃a l c,iG= .slice a l c:=by
  obtain⟨a,c,e⟩:=o3.len
  exact⟨_,_,_,e⟩
 rw[jZ]
 try simp(disch:=first|omega|assumption) only[af,aa,RZ,g3,W1]
 rw[<-jZ]
 have Fm:∀(B B':Option AB) c,c<n->c≠rp->¬aN pv c->((h3.set rp B).set rp B').get c=h.get c:=fun B B' c h4 h5 h6=>by
  rw[aD _ _ h5,aD _ _ h5,k3 c (by omega) h6,mr c h4]
 have lne:∀{c},L c≠10->c≠rp:=fun h4 e=>h4 (by rw[e,x.lr])
 have lnp:∀{c},L c≠11->¬aN pv c:=fun h4 e=>h4 (x.lv _ e)
 refine⟨by omega,iG, ?_,DE, ?_, ?_,fun b hb=> ?_,x.rd.aB (by omega) (Fm _ _ _ x.rd.lt (lne (by rw[x.lp];decide)) (lnp (by rw[x.lp];decide))), ?_,x.us.aB (by omega) (fun c hc=>if_pos hc) fun c hc h4 h5=>Fm _ _ c hc (lne (by omega)) (lnp (by omega)),x.fl⟩
 ·rw[get_eq,jZ]
  rfl
 ·show(if rp<n then L rp else 11)=10
  rw[if_pos hr];exact x.lr
 ·have:(s.add q dQ).ps.map Pt.cells=s.ps.map Pt.cells++[({q with aO:=s.next,dQ:=dQ}:Pt).cells]:=by
   unfold Is.add
   rw[qb]
   rfl
  rw[this]
  refine o3.aB (an _) fun c hc=> ?_
  have:=f3 c hc
  rw[aD _ _ (by omega),aD _ _ (by omega)]
 ·have:=f3 b hb
  show(if b<n then L b else 11)=11
  rw[if_neg (by omega)]
 ·show(if p<n then L p else 11)=1
  rw[if_pos x.rd.lt];exact x.lp
end
def Is.nR(s:Is)(len:Nat):Is:={(s.add ⟨2,0,0,0,s.u.eL.sum,s.u.eL.aO,s.u.eL.last.length,len⟩ s.A)with total:=fy s.total s.u.eL.sum}
def Is.Qa(s:Is):Is:={(s.add ⟨3,0,0,0,s.total,0,0,0⟩ (s.next+80))with next:=s.A}
def oP(S:List UInt8)(next:Nat):Int:=IntKind.u8.wrap (((S.getD (next/8+3) 0).toNat:Int)-48)
def Is.fresh(s:Is):Bool:=match s.ps.getLast? with
 |none=>true
 |some q=>decide (q.what=3)
def Is.begun(S:List UInt8)(s:Is):Is:=if s.fresh=true∧s.A=s.next+32 then{(s.add ⟨1,oP S s.next,0,0,0,0,0,0⟩ s.A)with total:=0}else s
theorem an'(S:List UInt8)(next:Nat):0<=oP S next∧oP S next<256:=by
 unfold oP IntKind.wrap
 simp only[IntKind.signed,IntKind.bits]
 constructor
 ·exact Int.emod_nonneg _ (by decide)
 ·exact Int.emod_lt_of_pos _ (by decide)
section
variable {lf d n rp p unit:Nat} {h:H} {S:List UInt8} {L:Nat->Nat} {s:Is} {m:Um} {pv:Value}
theorem jm.put(x:jm h n L rp p unit S s m pv){h':H}{s':Is}(hB:h'.get rp=some (oO S p m.a pv s'))(hk:∀c,c≠rp->h'.get c=h.get c)(h1:s'.u=s.u)(h2:s'.A=s.A)(h3:s'.ps=s.ps):jm h' n L rp p unit S s' m pv:=by
 have ne:∀{c},L c≠10->h'.get c=h.get c:=fun h4=>hk _ fun e=>h4 (by rw[e,x.lr])
 refine⟨hB,x.lt,x.lr, ?_,x.lv, ?_,x.lp, ?_,x.fl⟩
 ·rw[h3]
  exact x.ps.aB (an _) fun c hc=>ne (by rw[x.lv c hc];decide)
 ·rw[h2]
  exact x.rd.aB (an _) (ne (by rw[x.lp];decide))
 ·rw[h1]
  exact x.us.aB (an _) (fun _ _=>rfl) fun c _ _ h5=>ne (by omega)
def CB(L:Nat->Nat)(n rp p unit:Nat)(S:List UInt8)(s':Is)(m:Um)(h':H)(n':Nat):Prop:=∃L' iG,(∀c,c<n->L' c=L c)∧jm h' n' L' rp p unit S s' m iG
theorem an_(x:jm h n L rp p unit S s m pv)(hm:s.ps.length<=100000000)(pS:s.next<=10000000000000):ai (WI L) n (au ah gt lf (d+3) 101 #[.pointer (some ⟨rp,0,none⟩)]) h n fun _ h' n'=>CB L n rp p unit S s.Qa m h' n':=by
 have g:=x.get
 have hr:=x.lt
 unfold oO at g
 rw[aL (fun _=>WV) rfl]
 refine ai.aH ?_
 unfold NI
 obtain⟨q,hq⟩:∃q:Nat,q=s.next+80:=⟨_,rfl⟩
 have w1:IntKind.i64.wrap ((s.next:Int)+48)=(s.next:Int)+48:=aJ (by omega) (by omega)
 have w2:IntKind.i64.wrap ((s.next:Int)+48+32)=(q:Int):=by rw[aJ (by omega) (by omega)];omega
 clear pS
 try simp(disch:=first|omega|assumption) only[af,aa,RZ,g,w1,w2]
 refine aU aK (P' (lf:=lf) (d:=d+1) x ⟨3,0,0,0,s.total,0,0,0⟩ q hm) (an _) (fun b _ hb=> .inr (by
  rcases hb with rfl|hb
  ·exact tW x.lr (by decide) (by decide)
  ·exact tW (x.lv b hb) (by decide) (by decide))) fun v1 h1 n1 aM aY aw=> ?_
 obtain⟨_,CC,x1⟩:=aw
 clear hm w1 w2
 have g1:=x1.get
 unfold oO at g1
 have rG:=x1.lt
 try simp(disch:=first|omega|assumption) only[af,aa,RZ,g1]
 refine bL (xj (lf:=lf) (d:=d+1) x1.rd) aM (fun _ _ h=>h.elim) ?_
 have wi:WI L rp:=tW x.lr (by decide) (by decide)
 try simp(disch:=first|omega|assumption) only[af,aa,RZ,g1,wi]
 subst hq
 exact⟨_,CC,fun c hc=>if_pos hc,x1.put (by rw[get_eq];rfl) (fun c hc=>aD _ _ hc) rfl rfl rfl⟩
theorem aoa(x:jm h n L rp p unit S s m pv)(hm:s.ps.length<=100000000)(ok:pR s.u.eL.last s.u.eL.aO)(hs:s.u.eL.sum<4294967296)(ht:s.total<4294967296)(aC:300000000<=lf):ai (WI L) n (au ah gt lf (d+6) 100 #[.pointer (some ⟨rp,0,none⟩)]) h n fun v h' n'=>match hH s.u.eL with
 | .error e=>v= .int .i64 e∧CB L n rp p unit S s m h' n'
 | .ok t=>v= .int .i64 0∧CB L n rp p unit S (s.nR t.length) m h' n':=by
 have g:=x.get
 have hr:=x.lt
 unfold oO at g
 have wi:WI L rp:=tW x.lr (by decide) (by decide)
 rw[aL (fun _=>ahF) rfl]
 refine ai.aH ?_
 unfold WT
 try simp(disch:=first|omega|assumption) only[af,aa,RZ,g]
 refine aU aK (anH (lf:=lf) (d:=d+4) x.us) (an _) (fun _ _ h=>h.elim) fun v1 h1 n1 aM aY aw=> ?_
 subst aw
 refine fq rfl _ ?_
 refine db (sz:=3) trivial (vs:=[.string ⟨(bS s.u.eL.last).toArray⟩,.int .i64 (s.u.eL.aO:Int),.int .u32 (s.u.eL.sum:Int)]) rfl rfl rfl (get_eq _ _ _) (by omega) (.inl aM) _ fun h2 g2 k2=> ?_
 have mr:∀c,c<n->h2.get c=h.get c:=fun c hc=>by rw[k2 c (by omega),aD _ _ (by omega)];exact aY c hc id
 have x2:jm h2 (n1+1) L rp p unit S s m pv:=x.aB (by omega) (fun _ _=>rfl) fun c hc _ _=>mr c hc
 have cJ:n1<n1+1:=gh n1
 refine jy trivial trivial n1 0 _ g2 cJ (show 3<=3 by decide) ?_
 refine aU aK (an9 (lf:=lf) (d:=d) s.u.eL ok hs aC) (by omega) (fun _ _ h=>h.elim) fun v3 h3 n3 fw dK bQ=> ?_
 have x3:jm h3 n3 L rp p unit S s m pv:=x2.aB fw (fun _ _=>rfl) fun c hc _ _=>dK c hc id
 cases e:hH s.u.eL with
 |error e0=>
  rw[e]at bQ
  subst bQ
  have he:=Fk e
  have z1:(e0 !=0)=true:=by rw[bne_iff_ne];omega
  try simp(disch:=first|omega|assumption) only[af,aa,RZ,bG,ext1,z1]
  exact⟨L,pv,fun _ _=>rfl,x3⟩
 |ok t=>
  rw[e]at bQ
  subst bQ
  have z0:((0:Int) !=0)=false:=rfl
  have g3:=(dK n1 cJ id).trans g2
  have JF:n1<n3:=by omega
  have bl:=xJ s.u.eL.last
  have btl:=xJ t
  try simp(disch:=first|omega|assumption) only[af,aa,RZ,bG,ext1,z0]
  refine gZ trivial n1 2 _ g3 JF (an _) rfl fun T1 t1=> ?_
  try simp(disch:=first|omega|assumption) only[af,aa,RZ]
  refine gZ trivial n1 1 _ g3 JF (an _) rfl fun T2 t2=> ?_
  try simp(disch:=first|omega|assumption) only[af,aa,RZ]
  refine gZ trivial n1 0 _ g3 JF (an _) rfl fun T3 t3=> ?_
  have g3':=x3.get
  unfold oO at g3'
  have DE:=x3.lt
  try simp(disch:=first|omega|assumption) only[af,aa,RZ,bl,btl]
  refine gZ trivial rp 1 _ g3' DE (an _) rfl fun T4 t4=> ?_
  try simp(disch:=first|omega|assumption) only[af,aa,RZ]
  refine tA aK (xj (lf:=lf) (d:=d+4) x3.rd) (by omega) fun v5 h5 n5 T5 tG tX nT t5=> ?_
  obtain⟨rfl,rfl,rfl⟩:=nT
  try simp(disch:=first|omega|assumption) only[af,aa,RZ]
  have W1:∀b,b<n5->(b=rp∨aN pv b)->n<=b∨WI L b:=fun b _ hb=> .inr (by
   rcases hb with rfl|hb
   ·exact wi
   ·exact tW (x.lv b hb) (by decide) (by decide))
  refine akQ aK (P' (lf:=lf) (d:=d+4) x3 ⟨2,0,0,0,s.u.eL.sum,s.u.eL.aO,s.u.eL.last.length,t.length⟩ s.A hm) (by omega) W1 fun v6 h6 n6 T6 An mD hY=> ?_
  obtain⟨_,pv6,x6⟩:=hY
  have g6:=x6.get
  unfold oO at g6
  have hr6:=x6.lt
  have ne6:¬(n1=rp∨aN pv n1):=by
   rintro(e2|e2)
   ·omega
   ·have:=(x.ps.lt e2).2;omega
  have ss:=(mD n1 JF ne6).trans g3
  have abg:n1<n6:=by omega
  try simp(disch:=first|omega|assumption) only[af,aa,RZ,t1.cA t5,t2.cA t5,t3.cA t5,cP,fR,eh,g6,ss]
  refine bL (abD (lf:=lf) (d:=d+4) s.total s.u.eL.sum ht hs) (by omega) (fun _ _ h=>h.elim) ?_
  try simp(disch:=first|omega|assumption) only[af,aa,RZ,g6,wi]
  exact⟨_,pv6,fun c hc=>if_pos (by omega),x6.put (by rw[get_eq];rfl) (fun c hc=>aD _ _ hc) rfl rfl rfl⟩
end
theorem aob{h:H}{n:Nat}{pv:Value}{ps:List Pt}{q:Pt}(o:eV h 0 n 33 pv (ps.map Pt.cells))(hq:ps[ps.length-1]? =some q):∃b,pv= .slice (some ⟨b,0,none⟩) ps.length (bq+ps.length)∧b<n∧∃B,h.get b=some B∧B.cells[(ps.length-1)*8]? =some (.int .i64 q.what):=by
 rcases o with ⟨rfl,e⟩|⟨b,rfl,hg,_,hb⟩
 ·have:ps=[]:=List.map_eq_nil_iff.1 e
  subst this
  cases hq
 ·obtain⟨hi,hqe⟩:=List.getElem?_eq_some_iff.1 hq
  refine⟨b,by rw[dL],hb,_,hg, ?_⟩
  have fa:=JD (sz:=8) (ts:=ps.map Pt.cells) (i:=ps.length-1) abW (by rw[dL];omega)
  have e1:(ps.map Pt.cells).getD (ps.length-1) []=q.cells:=by
   rw[bC,jC,hq]
   rfl
  rw[e1]at fa
  have e2:=congrArg (·[0]?) fa
  rw[List.getElem?_take_of_lt (by decide),Rr,kQ]at e2
  exact e2
section
variable {lf d n rp p unit:Nat} {h:H} {S:List UInt8} {L:Nat->Nat} {s:Is} {m:Um} {pv:Value}
theorem abX(x:jm h n L rp p unit S s m pv)(hm:s.ps.length<=100000000)(pS:s.next<=10000000000000)(fr:s.fresh=true):ai (WI L) n
 ((aG (ar (lN (some ⟨rp,1,none⟩)) M.ret)).bind fun nU=>
   (aG (ay (au ah gt lf (d+2)) 126 [nU.fst] M.ret)).bind fun e=>
     (aG (ar (lN (some ⟨rp,4,none⟩)) M.ret)).bind fun h=>
       aA h.fst (ii 32) fun i=>
        aW e.fst i fun j=>
         fV (!cT e.snd h.snd)
          (ak j
            (ar (lN (some ⟨rp,0,none⟩)) fun d_2=>
              ar (lN (some ⟨rp,4,none⟩)) fun g=>
               lT g (ii 8) fun h=>
                aA h (ii 3) fun i=>
                 da d_2 i fun l=>
                  cW l (i1 48) fun m=>
                   dY RU m fun n=>
                    bh
                     (fU [dG RU 1,ii 0,ii 0,ii 0,i3 0,ii 0,ii 0,ii 0]
                       [(1,1,n)])
                     fun cs=>
                     ar (lN (some ⟨rp,1,none⟩)) fun e=>
                      ay (au ah gt lf (d+2)) 126 [e] fun f=>
                       ay (au ah gt lf (d+2)) 125
                        [lN (some ⟨rp,0,none⟩),mf cs.toArray,f]
                        fun g=>
                        aZ (lN (some ⟨rp,5,none⟩)) (i3 0) fun x=>aj [])
            (aj [])))
 h n fun _ h' n'=>CB L n rp p unit S (s.begun S) m h' n':=by
 have g:=x.get
 have hr:=x.lt
 have hA:=x.rd.hi
 have yD:=x.rd.sm
 unfold oO at g
 have wi:WI L rp:=tW x.lr (by decide) (by decide)
 refine gZ trivial rp 1 _ g hr (an _) rfl fun T1 t1=> ?_
 try simp(disch:=first|omega|assumption) only[af,aa,RZ]
 refine tA aK (xj (lf:=lf) (d:=d+1) x.rd) (an _) fun v2 h2 n2 T2 cJ cf bu t2=> ?_
 obtain⟨rfl,rfl,rfl⟩:=bu
 try simp(disch:=first|omega|assumption) only[af,aa,RZ]
 refine gZ trivial rp 4 _ g hr (an _) rfl fun T3 t3=> ?_
 have w0:IntKind.i64.wrap ((s.next:Int)+32)=(s.next:Int)+32:=aJ (by omega) (by omega)
 by_cases c:s.A=s.next+32
 ·have zc:((s.A:Int)==(s.next:Int)+32)=true:=by rw[c];exact beq_iff_eq.2 rfl
  have hi:s.next/8+3<S.length:=by omega
  have e1:((s.next:Nat):Int).tdiv 8=((s.next/8:Nat):Int):=rfl
  have w1:IntKind.i64.wrap (((s.next/8:Nat):Int)+3)=((s.next/8+3:Nat):Int):=by rw[aJ (by omega) (by omega)];rfl
  have w2:((s.next/8:Nat):Int)+3=((s.next/8+3:Nat):Int):=rfl
  have lb:=an' S s.next
  have it:∀K:Value->M Value,da (.string ⟨S.toArray⟩) (.int .i64 ((s.next/8+3:Nat):Int)) K=K (.int .u8 ((S.getD (s.next/8+3) 0).toNat:Int)):=fun K=>by
   rw[BC _ S .i64 ((s.next/8+3:Nat):Int) (by omega) (by omega),cL]
  have w3:IntKind.i64.wrap (oP S s.next)=oP S s.next:=aJ (by omega) (by omega)
  have lv:IntKind.u8.wrap (((S.getD (s.next/8+3) 0).toNat:Int)-48)=oP S s.next:=rfl
  have w4:IntKind.i64.wrap ((s.next/8:Nat):Int)=((s.next/8:Nat):Int):=aJ (by omega) (by omega)
  have w5:IntKind.i64.wrap ((s.next/8+3:Nat):Int)=((s.next/8+3:Nat):Int):=aJ (by omega) (by omega)
  clear pS yD
  try simp(disch:=first|omega|assumption) only[af,aa,RZ,w0,zc,t2.cA t3,cP,eh,g,e1,w4,w5,w1,w2,it,lv,w3]
  refine bL (xj (lf:=lf) (d:=d+1) x.rd) (an _) (fun _ _ h=>h.elim) ?_
  refine aU aK (P' (lf:=lf) (d:=d+1) x ⟨1,oP S s.next,0,0,0,0,0,0⟩ s.A hm) (an _) (fun b _ hb=> .inr (by
   rcases hb with rfl|hb
   ·exact tW x.lr (by decide) (by decide)
   ·exact tW (x.lv b hb) (by decide) (by decide))) fun v1 h1 n1 aM aY aw=> ?_
  obtain⟨_,CC,x1⟩:=aw
  have g1:=x1.get
  unfold oO at g1
  have rG:=x1.lt
  try simp(disch:=first|omega|assumption) only[af,aa,RZ,g1,wi]
  have eb:s.begun S={(s.add ⟨1,oP S s.next,0,0,0,0,0,0⟩ s.A)with total:=0}:=by
   unfold Is.begun
   rw[if_pos ⟨fr,c⟩]
  rw[eb]
  exact⟨_,CC,fun c hc=>if_pos hc,x1.put (by rw[get_eq];rfl) (fun c hc=>aD _ _ hc) rfl rfl rfl⟩
 ·have zc:((s.A:Int)==(s.next:Int)+32)=false:=beq_eq_false_iff_ne.2 (by omega)
  try simp(disch:=first|omega|assumption) only[af,aa,RZ,w0,zc,t2.cA t3,cP,eh]
  have eb:s.begun S=s:=by
   unfold Is.begun
   rw[if_neg fun q=>c q.2]
  rw[eb]
  exact⟨L,pv,fun _ _=>rfl,x⟩
theorem aoc(x:jm h n L rp p unit S s m pv)(hm:s.ps.length<=100000000)(pS:s.next<=10000000000000):ai (WI L) n (au ah gt lf (d+3) 102 #[.pointer (some ⟨rp,0,none⟩)]) h n fun _ h' n'=>CB L n rp p unit S (s.begun S) m h' n':=by
 have g:=x.get
 have hr:=x.lt
 have hA:=x.rd.hi
 unfold oO at g
 have wi:WI L rp:=tW x.lr (by decide) (by decide)
 rw[aL (fun _=>WX) rfl]
 refine ai.aH ?_
 unfold NJ
 have kl:∀K:Value->M Value,bO pv K=K (.int .i64 (s.ps.length:Int)):=fun K=>by
  obtain⟨a,c,e⟩:=x.ps.len
  rw[e,dL]
  rfl
 have br:s.ps=[]∨∃q,s.ps[s.ps.length-1]? =some q:=by
  cases e:s.ps with
  |nil=>exact .inl rfl
  |cons a l=>exact .inr ⟨_,bD (by simp)⟩
 have aod:s.fresh=false->s.begun S=s:=fun e=>by
  unfold Is.begun
  rw[if_neg (by rw[e];simp)]
 rcases br with c|⟨q,hq⟩
 ·have fr:s.fresh=true:=by unfold Is.fresh;rw[c];rfl
  have z0:(((s.ps.length:Nat):Int)==0)=true:=by rw[c];rfl
  try simp(disch:=first|omega|assumption) only[af,aa,RZ,g,kl,z0]
  exact abX x hm pS fr
 ·obtain⟨hi,hqe⟩:=List.getElem?_eq_some_iff.1 hq
  have z0:(((s.ps.length:Nat):Int)==0)=false:=beq_eq_false_iff_ne.2 (by omega)
  have w1:IntKind.i64.wrap (((s.ps.length:Nat):Int)-1)=((s.ps.length-1:Nat):Int):=by rw[aJ (by omega) (by omega)];omega
  have w2:((s.ps.length:Nat):Int)-1=((s.ps.length-1:Nat):Int):=by omega
  have hgl:s.ps.getLast? =some q:=by rw[List.getLast?_eq_getElem?];exact hq
  obtain⟨b,ev,hb,B,hg,hc⟩:=aob x.ps hq
  have hky:∀K:Value->M Value,kG 8 pv (.int .i64 ((s.ps.length-1:Nat):Int)) K=K (.pointer (some ⟨b,(s.ps.length-1)*8,none⟩)):=fun K=>by
   rw[ev,BB _ 8 b 0 s.ps.length (bq+s.ps.length) .i64 ((s.ps.length-1:Nat):Int) (by omega) (by omega),cL,fB]
  by_cases c3:q.what=3
  ·have fr:s.fresh=true:=by unfold Is.fresh;rw[hgl];exact decide_eq_true c3
   have z3:(q.what==3)=true:=by rw[c3];rfl
   try simp(disch:=first|omega|assumption) only[af,aa,RZ,g,kl,z0,w1,w2,hky,hg,hc,z3]
   exact abX x hm pS fr
  ·have fr:s.fresh=false:=by unfold Is.fresh;rw[hgl];exact decide_eq_false c3
   have z3:(q.what==3)=false:=beq_eq_false_iff_ne.2 c3
   try simp(disch:=first|omega|assumption) only[af,aa,RZ,g,kl,z0,w1,w2,hky,hg,hc,z3]
   refine lF _ _ fun T1 t1=> ?_
   refine lF _ _ fun T2 t2=> ?_
   refine lF _ _ fun T3 t3=> ?_
   try simp(disch:=first|omega|assumption) only[af,aa,RZ,t2.cA t3,cP,eh]
   rw[aod fr]
   exact⟨L,pv,fun _ _=>rfl,x⟩
end
inductive Ix where
 |stop (e:Int)
 |go (s:Is)
def Is.took(s:Is)(u:Us)(w:Nat):Is:={s with u:=u,A:=s.A+w}
def Us.may(u:Us):Bool:=u.ended&&decide (u.due=0)&&decide (u.at_=0)
def jO(S:List UInt8)(wh:Nat)(s:Is):Ix:=if wh=1 then(match hH s.u.eL with
 | .error e=> .stop e
 | .ok t=> .go (s.nR t.length))else if wh=2 then .go s.Qa else .go (s.begun S)
def xK(S:List UInt8)(unit:Nat)(s:Is):Ix:=match m4 unit s.u s.A (ax S 0 s.A)with
 | .short=> .stop 24
 | .bad e=> .stop e
 | .ok (wh,u') w=>jO S wh (s.took u' w)
def j6(S:List UInt8)(unit:Nat)(s:Is):Ix:=if s.u.may=true∧(ax S 0 s.A).length=0 then .stop 0 else xK S unit s
structure Qb (unit:Nat) (s:Is):Prop where
 us:xH unit s.A s.u
 jE:s.total<4294967296
 next:s.next<=10000000000000
 len:s.ps.length<=100000000
def JG(g:Gt):Prop:=pR g.last g.aO∧g.sum<4294967296
def IX(L:Nat->Nat)(n rp p unit:Nat)(S:List UInt8)(s:Is)(r:Ix)(v':Value)(h':H)(n':Nat):Prop:=match r with
 | .stop e=>v'= .tuple #[.bool true,.int .i64 e]∧rp<n'∧∃B pv,h'.get rp=some B∧B.cells[3]? =some pv∧eV h' 0 n' 33 pv (s.ps.map Pt.cells)
 | .go s'=>v'= .tuple #[.bool false,.int .i64 0]∧∃L' m' pv,(∀c,c<n->L' c=L c)∧jm h' n' L' rp p unit S s' m' pv
section
variable {lf d n rp p unit:Nat} {h:H} {S:List UInt8} {L:Nat->Nat} {s:Is} {m:Um} {pv:Value}
theorem jm.stop(x:jm h n L rp p unit S s m pv)(e:Int):IX L n rp p unit S s (.stop e) (.tuple #[.bool true,.int .i64 e]) h n:=
 ⟨rfl,x.lt,_,_,x.get,rfl,x.ps⟩
theorem WU.wi{c:Nat}(h:WU L c):WI L c:=⟨h.1,by have:=h.2;omega⟩
theorem abY(x:jm h n L rp p unit S s m pv)(ok:Qb unit s)(hA:s.A<=1000000000000000)(hg:∀u' w,m4 unit s.u s.A (ax S 0 s.A)= .ok (1,u') w->JG u'.eL)(aC:300000000<=lf):ai (WI L) n
 (ay (au ah gt lf (d+15)) 99 [.pointer (some ⟨m.a,0,none⟩),.pointer (some ⟨p,0,none⟩)] fun h=>aP h 0 fun i=>aP h 1 fun l=>aW l (ii 3) fun b=>ak b (aj [bT,(ii 24)]) (bz l (ii 0) fun c=>ak c (aj [bT,l])
   (aW i (ii 1) fun nU=>ak nU (ay (au ah gt lf (d+15)) 100 [.pointer (some ⟨rp,0,none⟩)] fun e=>bz e (ii 0) fun f=>aj [f,e]) (aW i (ii 2) fun e=>ak e (ay (au ah gt lf (d+15)) 101 [.pointer (some ⟨rp,0,none⟩)] fun f=>aj [bF,(ii 0)]) (ay (au ah gt lf (d+15))
   102 [.pointer (some ⟨rp,0,none⟩)] fun f=>aj [bF,(ii 0)]))))) h n (IX L n rp p unit S s (xK S unit s)):=by
 have wi:WI L rp:=tW x.lr (by decide) (by decide)
 refine aU aK (anG (lf:=lf) (d:=d) x.rd x.us x.fl x.lp ok.us hA (by omega)) (an _) (fun _ _ hb=> .inr hb.wi) fun v1 h1 n1 aM aY aw=> ?_
 have nw:∀c,10<=L c->¬WU L c:=fun c hc q=>by have:=q.2;omega
 have gr:=(aY rp x.lt (nw rp (by rw[x.lr];omega))).trans x.get
 have Qc:eV h1 0 n1 33 pv (s.ps.map Pt.cells):=x.ps.aB aM fun c hc=>aY c (x.ps.lt hc).2 (nw c (by rw[x.lv c hc];omega))
 have rG:rp<n1:=by have:=x.lt;omega
 unfold xK
 cases e:m4 unit s.u s.A (ax S 0 s.A)with
 |short=>
  rw[e]at aw
  obtain⟨rfl,_⟩:=aw
  have z3:((3:Int)==3)=true:=rfl
  try simp(disch:=first|omega|assumption) only[af,aa,RZ,bG,ext1,z3]
  exact⟨rfl,rG,_,_,gr,rfl,Qc⟩
 |bad e0=>
  rw[e]at aw
  obtain⟨rfl,he,_⟩:=aw
  have z3:(e0==3)=false:=beq_eq_false_iff_ne.2 (by omega)
  have z0:(e0 !=0)=true:=by rw[bne_iff_ne];omega
  try simp(disch:=first|omega|assumption) only[af,aa,RZ,bG,ext1,z3,z0]
  exact⟨rfl,rG,_,_,gr,rfl,Qc⟩
 |ok t w=>
  obtain⟨wh,u'⟩:=t
  have Ew:=hg u' w
  rw[e]at aw Ew
  obtain⟨rfl,x1,L',m',a1,a2,y1,f1⟩:=aw
  have z3:((0:Int)==3)=false:=rfl
  have z0:((0:Int) !=0)=false:=rfl
  have x2:jm h1 n1 L' rp p unit S (s.took u' w) m' pv:=by
   refine⟨?_,rG,(a1 rp x.lt).trans x.lr,Qc,fun b hb=>(a1 b (x.ps.lt hb).2).trans (x.lv b hb),x1,(a1 p x.rd.lt).trans x.lp,y1,f1⟩
   rw[gr]
   unfold oO Is.took
   rw[a2]
  have ws:∀b,b<n1->WI L' b->n<=b∨WI L b:=fun b hb q=>by
   by_cases c:b<n
   ·refine .inr ?_
    unfold WI at q⊢
    rw[a1 b c]at q
    exact q
   ·exact .inl (by omega)
  have ip:∀{s':Is} {h2:H} {n2:Nat},n1<=n2->CB L' n1 rp p unit S s' m' h2 n2->∃L2 m2 tY,(∀c,c<n->L2 c=L c)∧jm h2 n2 L2 rp p unit S s' m2 tY:=fun hn q=>by
   obtain⟨L2,tY,b1,b2⟩:=q
   exact⟨L2,m',tY,fun c hc=>(b1 c (by omega)).trans (a1 c hc),b2⟩
  show ai _ _ _ _ _ (IX L n rp p unit S s (jO S wh (s.took u' w)))
  unfold jO
  by_cases c1:wh=1
  ·subst c1
   have z1:(((1:Nat):Int)==1)=true:=rfl
   obtain⟨k1,k2⟩:=Ew rfl
   try simp(disch:=first|omega|assumption) only[af,aa,RZ,bG,ext1,z3,z0,z1]
   refine aU aK (aoa (lf:=lf) (d:=d+9) x2 ok.len k1 k2 ok.jE aC) aM ws fun v3 h3 n3 fw dK bQ=> ?_
   show ai _ _ _ _ _ (IX L n rp p unit S s (match hH (s.took u' w).u.eL with
    | .error e=> .stop e
    | .ok t=> .go ((s.took u' w).nR t.length)))
   cases e2:hH (s.took u' w).u.eL with
   |error e4=>
    rw[e2]at bQ
    obtain⟨rfl,bQ⟩:=bQ
    have he:=Fk e2
    have z4:(e4 !=0)=true:=by rw[bne_iff_ne];omega
    obtain⟨L2,m2,tY,_,b2⟩:=ip fw bQ
    try simp(disch:=first|omega|assumption) only[af,aa,RZ,z4]
    exact⟨rfl,b2.lt,_,_,b2.get,rfl,b2.ps⟩
   |ok t=>
    rw[e2]at bQ
    obtain⟨rfl,bQ⟩:=bQ
    obtain⟨L2,m2,tY,b1,b2⟩:=ip fw bQ
    try simp(disch:=first|omega|assumption) only[af,aa,RZ,z0]
    exact⟨rfl,L2,m2,tY,b1,b2⟩
  ·have z1:(((wh:Nat):Int)==1)=false:=beq_eq_false_iff_ne.2 (by omega)
   rw[if_neg c1]
   by_cases c2:wh=2
   ·have z2:(((wh:Nat):Int)==2)=true:=by rw[c2];rfl
    try simp(disch:=first|omega|assumption) only[af,aa,RZ,bG,ext1,z3,z0,z1,z2]
    refine aU aK (an_ (lf:=lf) (d:=d+12) x2 ok.len ok.next) aM ws fun v3 h3 n3 fw dK bQ=> ?_
    obtain⟨L2,m2,tY,b1,b2⟩:=ip fw bQ
    try simp(disch:=first|omega|assumption) only[af,aa,RZ]
    rw[if_pos c2]
    exact⟨rfl,L2,m2,tY,b1,b2⟩
   ·have z2:(((wh:Nat):Int)==2)=false:=beq_eq_false_iff_ne.2 (by omega)
    try simp(disch:=first|omega|assumption) only[af,aa,RZ,bG,ext1,z3,z0,z1,z2]
    refine aU aK (aoc (lf:=lf) (d:=d+12) x2 ok.len ok.next) aM ws fun v3 h3 n3 fw dK bQ=> ?_
    obtain⟨L2,m2,tY,b1,b2⟩:=ip fw bQ
    try simp(disch:=first|omega|assumption) only[af,aa,RZ]
    rw[if_neg c2]
    exact⟨rfl,L2,m2,tY,b1,b2⟩
theorem abZ(x:jm h n L rp p unit S s m pv)(ok:Qb unit s)(hA:s.A<=1000000000000000)(hg:∀u' w,m4 unit s.u s.A (ax S 0 s.A)= .ok (1,u') w->JG u'.eL)(aC:300000000<=lf):ai (WI L) n (au ah gt lf (d+16) 60 #[.pointer (some ⟨rp,0,none⟩)]) h n (IX L n rp p unit S s (j6 S unit s)):=by
 have g:=x.get
 have hr:=x.lt
 unfold oO at g
 rw[aL (fun _=>Wk) rfl]
 refine ai.aH ?_
 unfold Nt j6
 try simp(disch:=first|omega|assumption) only[af,aa,RZ,g]
 refine bL (ans (lf:=lf) (d:=d+14) x.us) (an _) (fun _ _ h=>h.elim) ?_
 have em:(s.u.ended&&decide (s.u.due=0)&&decide (s.u.at_=0)&&decide ((0:Int)=0))=s.u.may:=by
  unfold Us.may
  simp
 rw[em]
 by_cases c:s.u.may=true
 ·rw[c]
  try simp(disch:=first|omega|assumption) only[af,aa,RZ,g]
  refine bL (IM (lf:=lf) (d:=d+13) x.rd) (an _) (fun _ _ h=>h.elim) ?_
  by_cases c2:(ax S 0 s.A).length=0
  ·have z:((((ax S 0 s.A).length:Nat):Int)==0)=true:=by rw[c2];rfl
   try simp(disch:=first|omega|assumption) only[af,aa,RZ,z]
   rw[if_pos c2]
   exact x.stop 0
  ·have z:((((ax S 0 s.A).length:Nat):Int)==0)=false:=beq_eq_false_iff_ne.2 (by omega)
   try simp(disch:=first|omega|assumption) only[af,aa,RZ,z,g]
   rw[if_neg c2]
   exact abY x ok hA hg aC
 ·have c':s.u.may=false:=by simpa using c
  rw[c']
  try simp(disch:=first|omega|assumption) only[af,aa,RZ,g]
  exact abY x ok hA hg aC
end
structure Fit (S:List UInt8) (unit:Nat) (s:Is):Prop where
 ok:Qb unit s
 hA:s.A<=1000000000000000
 eL:∀u' w,m4 unit s.u s.A (ax S 0 s.A)= .ok (1,u') w->JG u'.eL
inductive cK (S:List UInt8) (unit:Nat):Nat->Is->List Pt->Int->Prop
 |stop {s:Is} {e:Int} (f:Fit S unit s) (h:j6 S unit s= .stop e):cK S unit 1 s s.ps e
 |go {k:Nat} {s s':Is} {ps:List Pt} {e:Int} (f:Fit S unit s) (h:j6 S unit s= .go s') (r:cK S unit k s' ps e):cK S unit (k+1) s ps e
section
variable {lf d n rp p unit:Nat} {h:H} {S:List UInt8} {L:Nat->Nat} {s:Is} {m:Um} {pv:Value}
def Qd(ps:List Pt)(e:Int)(v':Value)(h':H)(n':Nat):Prop:=∃pv,v'= .tuple #[pv,.int .i64 e]∧eV h' 0 n' 33 pv (ps.map Pt.cells)
theorem aoe{a b c e0 f g0 z:Value}{n0:Nat}(aC:300000000<=lf){k:Nat}{s:Is}{ps:List Pt}{e:Int}(r:cK S unit k s ps e):∀{n:Nat} {h:H} {L:Nat->Nat} {m:Um} {pv:Value} (fu:Nat),k<=fu->jm h n L rp p unit S s m pv->n0<=n->(∀c,c<n->WI L c->n0<=c)->
 ai (fun _=>False) n0 (zk lf (au ah gt lf (d+16)) fu (HC lf (au ah gt lf (d+16))) a b c e0 f g0 (.pointer (some ⟨rp,0,none⟩)) z) h n (Qd ps e):=by
 induction r with
 |stop ft hs=>
  intro n h L m pv fu hf x hn hw
  obtain⟨fu,rfl⟩:∃f,fu=f+1:=⟨fu-1,by omega⟩
  rw[zk]
  refine aU aK (abZ (lf:=lf) (d:=d) x ft.ok ft.hA ft.eL aC) hn (fun c hc q=> .inl (hw c hc q)) fun v1 h1 n1 aM aY aw=> ?_
  rw[hs]at aw
  obtain⟨rfl,hr,B,CC,hB,jZ,o⟩:=aw
  try simp(disch:=first|omega|assumption) only[af,aa,RZ,bG,ext1,hB,jZ]
  unfold HC
  try simp(disch:=first|omega|assumption) only[af,aa,RZ]
  exact⟨CC,rfl,o⟩
 |go ft hs r ih=>
  intro n h L m pv fu hf x hn hw
  obtain⟨fu,rfl⟩:∃f,fu=f+1:=⟨fu-1,by omega⟩
  rw[zk]
  refine aU aK (abZ (lf:=lf) (d:=d) x ft.ok ft.hA ft.eL aC) hn (fun c hc q=> .inl (hw c hc q)) fun v1 h1 n1 aM aY aw=> ?_
  rw[hs]at aw
  obtain⟨rfl,L',m',CC,hL,x1⟩:=aw
  try simp(disch:=first|omega|assumption) only[af,aa,RZ,bG,ext1]
  refine ih fu (by omega) x1 (by omega) fun c hc q=> ?_
  by_cases c1:c<n
  ·refine hw c c1 ?_
   unfold WI at q⊢
   rw[hL c c1]at q
   exact q
  ·omega
def Fo:Is:=⟨us0,0,[],0,0⟩
theorem aof(h1:24<=unit)(h2:unit<=100000)(aC:300000000<=lf)(hS:S.length<=1000000000000){k:Nat}{ps:List Pt}{e:Int}(r:cK S unit k Fo ps e)(hk:k<=lf):ai (fun _=>False) n (au ah gt lf (d+17) 13 #[.int .i64 (unit:Int),.string ⟨S.toArray⟩]) h n (Qd ps e):=by
 rw[aL (fun _=>Nk) rfl]
 refine ai.aH ?_
 unfold DT
 refine aU aK (anq (lf:=lf) (d:=d+14) h1 h2) (an _) (fun _ _ h=>h.elim) fun v1 h3 n1 aM aY aw=> ?_
 obtain⟨rfl,rfl,hu⟩:=aw
 have z0:((0:Int) !=0)=false:=rfl
 try simp(disch:=first|omega|assumption) only[af,aa,RZ,bG,ext1,z0]
 refine aU aK (ak4 (lf:=lf) (d:=d+15) hS) (iP n) (fun _ _ h=>h.elim) fun v2 h4 n2 cJ cf bu=> ?_
 obtain⟨rfl,rfl,rd⟩:=bu
 try simp(disch:=first|omega|assumption) only[af,aa,RZ]
 refine jH trivial _ _ ?_
 obtain⟨L,hL⟩:∃L:Nat->Nat,L=fun c=>if c=n then 9 else if c=n+1 then 1 else if c=n+1+1 then 10 else 0:=⟨_,rfl⟩
 have l0:L n=9:=by rw[hL];simp
 have l1:L (n+1)=1:=by rw[hL];simp
 have l2:L (n+1+1)=10:=by rw[hL];show(if n+1+1=n then 9 else if n+1+1=n+1 then 1 else if n+1+1=n+1+1 then 10 else 0)=10;rw[if_neg (by omega),if_neg (by omega),if_pos rfl]
 have ll:∀c,c<n->L c=0:=fun c hc=>by rw[hL];simp only;rw[if_neg (by omega),if_neg (by omega),if_neg (by omega)]
 have x0:jm (h4.set (n+1+1) (some ⟨98,true,[.string ⟨S.toArray⟩,.pointer (some ⟨n+1,0,none⟩),.pointer (some ⟨n,0,none⟩),nS,ii 0,i3 0]⟩)) (n+1+1+1) L (n+1+1) (n+1) unit S Fo ⟨n,⟨0,nS,0,0,⟨0,nS,nS,0,nS,nS,false,false,[]⟩,0,0,nS⟩⟩ nS:=by
  refine⟨get_eq _ _ _,by omega,l2,.inl ⟨rfl,rfl⟩,fun b hb=>hb.not_nil.elim,rd.aB (by omega) (aD _ _ (by omega)),l1,(hu L _ (n+1) l0 rfl).aB (by omega) (fun _ _=>rfl) fun c hc q1 q2=> ?_,⟨rfl,rfl⟩⟩
  rw[aD _ _ (by omega)]
  exact cf c hc id
 refine aoe (d:=d) aC r lf hk x0 (by omega) fun c hc q=> ?_
 by_cases c1:c<n
 ·have:=ll c c1
  unfold WI at q
  omega
 ·omega
end
def Rw.more(r:Rw):Nat:=r.due+(if 0<r.place then 1 else 0)
structure Fp (room A:Nat) (b:Bk):Prop where
 ok:Js room A b
 kP:∀x∈b.last,x<256
 ord:∀r,b.row=some r->∀x∈r.ord,x<256
 ct:∀r,b.row=some r->b.last.length+r.more=r.z.told∧r.z.told+r.z.aQ<=room
 no:b.row=none->b.last=[]
def ab0(room:Nat)(b:Bk):Prop:=b.aO<b.last.length∧b.last.length<=room∧(∀x∈b.last,x<256)∧b.sum<4294967296
theorem vq(r:Rw):(r.waits=true)↔0<r.more:=by
 unfold Rw.waits Rw.more
 simp only[pY,decide_eq_true_eq]
 split<;>omega
theorem Qe{b b':Bk}{r:Rw}{w u:Nat}(h:iw b r w= .ok b' u):u=w∧((b'.done=true∧b.done=false->r.cd.done=true∧r.waits=false∧b'={b with done:=true}∧b.aO<b.last.length)∧((b'=b∧(r.cd.done=true->r.waits=true))∨b'={b with done:=true})):=by
 unfold iw at h
 split at h
 ·next c=>
  split at h
  ·cases h
  ·next c2=>
   cases h
   simp only[cj,FJ]at c
   exact⟨rfl,fun _=>⟨c.1,c.2,rfl,by omega⟩,.inr rfl⟩
 ·next c=>
  cases h
  refine⟨rfl,fun q=> ?_,.inl ⟨rfl,fun q=> ?_⟩⟩
  ·rw[q.2]at q
   cases q.1
  ·simp only[cj,FJ,not_and,Bool.not_eq_false]at c
   exact c q
theorem aog{r:Rw}(hw:r.waits=true)(hp:r.place<r.ord.length)(ho:∀x∈r.ord,x<256):(cH r).1<256∧(cH r).2.more+1=r.more∧(∀x∈(cH r).2.ord,x<256)∧(cH r).2.ord.length=r.ord.length∧(cH r).2.cd=r.cd∧(cH r).2.z=r.z∧(cH r).2.place<=r.place∧(cH r).2.due<=r.due:=by
 have gd:∀i,i<r.ord.length->r.ord.getD i 0<256:=fun i hi=>by
  rw[bC,bD hi]
  exact ho _ (eu _)
 unfold cH Rw.more
 by_cases c:0<r.due
 ·rw[if_pos c]
  refine⟨gd 0 (by omega), ?_,fun x hx=>ho x (abt (by omega) hx),EZ (by omega),rfl,rfl,an _,by show r.due-1<=_;omega⟩
  show r.due-1+(if 0<r.place then 1 else 0)+1=_
  omega
 ·rw[if_neg c]
  have hq:0<r.place:=by
   unfold Rw.waits at hw
   simp only[pY,decide_eq_true_eq]at hw
   omega
  refine⟨gd _ hp, ?_,fun x hx=>ho x (abt hp hx),EZ hp,rfl,rfl,aR _,an _⟩
  show r.due+(if 0<0 then 1 else 0)+1=_
  rw[if_pos hq,if_neg (by omega)]
theorem aoh{room A u:Nat}{r r':Rw}{bs:List Bool}(k:E5 room A r)(hnw:r.waits=false)(hd:r.cd.done=false)(ht:r.z.told+r.z.aQ<=room)(h:qH r bs= .ok r' u):
 0<u∧u<=bs.length∧E5 room (A+u) r'∧r'.ord=r.ord∧r'.due<=room∧r'.more+r.z.told=r'.z.told∧r'.z.told+r'.z.aQ<=room:=by
 have m0:r.more=0:=ady fun q=>by
  have:=(vq r).2 q
  rw[hnw]at this
  cases this
 unfold qH at h
 cases e:iH r.cd bs with
 |short=>rw[e]at h;cases h
 |bad x=>rw[e]at h;cases h
 |ok sc w=>
  obtain⟨sym,cd⟩:=sc
  rw[e]at h
  simp only at h
  obtain⟨q1,q2,q3,q4⟩:=I7 (k.cd hd) e
  have qs:cd.size=r.cd.size:=by
   rcases Cs (k.cd hd) e with ⟨_,_,s,_,rfl⟩|⟨_,_,_,_,q,_⟩|⟨_,_,_,_,_,q,_⟩
   ·unfold nN;split<;>rfl
   ·exact q
   ·exact q
  split at h
  ·next hn=>
   cases h
   have dn:cd.done=false:=by
    rcases Cs (k.cd hd) e with ⟨_,_,s,_,rfl⟩|⟨_,_,_,_,_,q⟩|⟨_,q,_⟩
    ·have:=hd
     unfold nN;split<;>exact hd
    ·exact q
    ·omega
   exact⟨q3,q4,⟨q1,by show cd.size=_;rw[qs];exact k.sz,k.zn,k.zm,fun _=>k.zo hd,k.pl,k.ol,by show cd.count<=A+u;have:=k.tI;omega⟩,rfl,by have:r.due=0:=by{unfold Rw.more at m0;omega};show r.due<=room;omega,by show r.more+r.z.told=r.z.told;omega,ht⟩
  ·next hn=>
   cases ez:dF r.z sym.toNat with
   |none=>rw[ez]at h;cases h
   |some t=>
    obtain⟨z,n,p⟩:=t
    rw[ez]at h
    cases h
    obtain⟨p1,p2,p3,p4,p5,p6,p7⟩:=Jo (k.zo hd) ez
    obtain⟨c1,c2⟩:=PI (k.cd hd) e (by omega)
    have tl:n+(if 0<p then 1 else 0)+r.z.told=z.told:=by
     unfold dF at ez
     split at ez
     ·cases ez
     ·split at ez
      ·split at ez
       ·cases ez
       ·cases ez;simp
      ·split at ez
       ·cases ez
        show r.z.aQ+(if 0<0 then 1 else 0)+r.z.told=r.z.told+r.z.aQ
        rw[if_neg (by omega)]
        omega
       ·split at ez
        ·cases ez
        ·cases ez
         show r.z.aQ+(if 0<sym.toNat-1 then 1 else 0)+r.z.told=r.z.told+1+r.z.aQ
         rw[if_pos (by omega)]
         omega
    have hz:z.told+z.aQ<=room:=by rw[k.zm]at p7;exact p7
    refine⟨q3,q4,⟨q1,by show cd.size=_;rw[qs];exact k.sz,p2.trans k.zn,p3.trans k.zm,fun mj=>p1 ?_,by show p<r.ord.length;rw[<-k.zn];exact p4,k.ol,by show cd.count<=A+u;have:=k.tI;omega⟩,rfl,by show n<=room;rw[<-k.zm];exact p6,tl,hz⟩
    have aoi:cd.done=false:=mj
    rw[p5,decide_eq_false_iff_not]
    rw[c2,decide_eq_false_iff_not]at aoi
    have:=k.sz
    have:=k.zn
    omega
theorem aoj{room A u:Nat}{b b':Bk}{bs:List Bool}(k:Fp room A b)(ji:room<=1099511627776)(h:hF room b bs= .ok b' u):u<=bs.length∧(b'.done=false->Fp room (A+u) b')∧(b'.done=true->ab0 room b'):=by
 have nd:=k.ok.nd
 unfold hF at h
 split at h
 ·next h0=>
  split at h
  ·cases h
  ·next h1=>
   split at h
   ·cases h
   ·cases h
    have rn:=k.ok.hd h0
    have l0:=k.no rn
    refine⟨by omega,fun _=>⟨⟨nd,fun q=>(by cases q),fun r hr=> ?_,by show b.last.length<=room;exact k.ok.ll, ?_⟩,k.kP,fun r hr=> ?_,fun r hr=> ?_,fun _=>l0⟩,fun q=> ?_⟩
    ·have:b.row=some r:=hr
     rw[rn]at this;cases this
    ·have q:=OR (bs.take 32) 0 0 (by decide)
     have q2:(bs.take 32).length=32:=by rw[dr];omega
     rw[q2]at q
     exact q
    ·have:b.row=some r:=hr
     rw[rn]at this;cases this
    ·have:b.row=some r:=hr
     rw[rn]at this;cases this
    ·have:b.done=true:=q
     rw[nd]at this;cases this
 ·next h0=>
  split at h
  ·next rn=>
   have l0:=k.no rn
   cases e:j3 bs with
   |short=>rw[e]at h;cases h
   |bad x=>rw[e]at h;cases h
   |ok s w=>
    rw[e]at h
    cases h
    obtain⟨s1,s2,s3,s4⟩:=EY e
    have sl:=s1.len
    have sp:1<=s.length:=List.length_pos_iff.2 s2
    have hq:∀r,some (tR s room)=some r->r=tR s room:=fun r hr=>(AQ hr).symm
    refine⟨s4,fun _=>⟨⟨nd,fun q=>absurd q h0,fun r hr=> ?_,k.ok.ll,k.ok.sm⟩,k.kP,fun r hr=> ?_,fun r hr=> ?_,fun q=>(by cases q)⟩,fun q=> ?_⟩
    ·rw[hq r hr]
     refine⟨⟨fun _=>I9 (by omega) (by omega),rfl,rfl,rfl,fun _=>Jn sp sl ji,sp,sl,aR _⟩,fun q=> ?_,aR _⟩
     cases q
    ·rw[hq r hr]
     exact s1.lt
    ·rw[hq r hr]
     show b.last.length+0=0∧0+0<=room
     rw[l0]
     exact⟨rfl,aR _⟩
    ·have:b.done=true:=q
     rw[nd]at this;cases this
  ·next r hr=>
   obtain⟨k1,k2,k3⟩:=k.ok.row r hr
   obtain⟨t1,t2⟩:=k.ct r hr
   have ob:=k.ord r hr
   have fin:∀(last:List Nat) (r':Rw) (w:Nat),(∀x∈last,x<256)->(∀x∈r'.ord,x<256)->E5 room (A+w) r'->r'.due<=room->last.length+r'.more=r'.z.told->r'.z.told+r'.z.aQ<=room->iw {b with last:=last,row:=some r'} r' w= .ok b' u->(b'.done=false->Fp room (A+u) b')∧(b'.done=true->ab0 room b'):=by
    intro last r' w f1 f2 f3 f4 f5 f6 fe
    obtain⟨rfl,g1,g2⟩:=Qe fe
    have lr:last.length<=room:=by omega
    refine⟨fun q=> ?_,fun q=> ?_⟩
    ·rcases g2 with ⟨rfl,g3⟩|rfl
     ·have hq:∀r2,some r'=some r2->r2=r':=fun r2 h2=>(AQ h2).symm
      refine⟨⟨nd,fun q=>absurd q h0,fun r2 h2=> ?_,lr,k.ok.sm⟩,f1,fun r2 h2=> ?_,fun r2 h2=> ?_,fun q=>(by cases q)⟩
      ·rw[hq r2 h2];exact⟨f3,g3,f4⟩
      ·rw[hq r2 h2];exact f2
      ·rw[hq r2 h2];exact⟨f5,f6⟩
     ·cases q
    ·obtain⟨_,_,rfl,g3⟩:=g1 ⟨q,nd⟩
     exact⟨g3,lr,f1,k.ok.sm⟩
   split at h
   ·next hw=>
    obtain⟨n1,n2,n3,n4,n5,n6,n7,n8⟩:=aog hw k1.pl ob
    have u0:u=0:=(Qe h).1
    refine⟨by omega, ?_⟩
    refine fin _ _ 0 (fun x hx=> ?_) n3 ⟨by rw[n5];exact k1.cd,by rw[n5,n4];exact k1.sz,by rw[n6,n4];exact k1.zn,by rw[n6];exact k1.zm,by rw[n5,n6];exact k1.zo,by rw[n4];have:=k1.pl;omega,by rw[n4];exact k1.ol,by rw[n5];exact k1.tI⟩ (by omega) (by rw[n6,bX];simp only[dp,gM];omega) (by rw[n6];exact t2) h
    rcases List.mem_append.1 hx with q|q
    ·exact k.kP x q
    ·rw[List.mem_singleton.1 q];exact n1
   ·next hw=>
    have uF:r.waits=false:=by simpa using hw
    have hd:r.cd.done=false:=by
     cases c:r.cd.done with
     |false=>rfl
     |true=>exact absurd (k2 c) hw
    cases e:qH r bs with
    |short=>rw[e]at h;cases h
    |bad x=>rw[e]at h;cases h
    |ok r' w=>
     rw[e]at h
     obtain⟨s1,s2,s3,s4,s5,s6,s7⟩:=aoh k1 uF hd t2 e
     have uw:u=w:=(Qe h).1
     have m0:r.more=0:=ady fun q=>hw ((vq r).2 q)
     refine⟨by omega, ?_⟩
     exact fin b.last r' w k.kP (by rw[s4];exact ob) s3 s5 (by omega) s7 h
def tZ(b:Bk):Gt:=⟨b.last,b.aO,b.sum⟩
inductive fY (room:Nat):Nat->Bk->List Bool->St Gt->Prop
 |short {b:Bk} {bs:List Bool} (h:hF room b bs= .short):fY room 1 b bs .short
 |bad {b:Bk} {bs:List Bool} {e:Int} (h:hF room b bs= .bad e):fY room 1 b bs (.bad e)
 |done {b b':Bk} {bs:List Bool} {u:Nat} (h:hF room b bs= .ok b' u) (q:b'.done=true):fY room 1 b bs (.ok (tZ b') u)
 |more {k:Nat} {b b':Bk} {bs:List Bool} {u:Nat} {x:St Gt} (h:hF room b bs= .ok b' u) (q:b'.done=false) (r:fY room k b' (bs.drop u) x):fY room (k+1) b bs (x.add u)
theorem St.nm{α:Type}(x:St α):x.add 0=x:=by
 cases x with
 |short=>rfl
 |bad e=>rfl
 |ok a u=>show St.ok a (0+u)=_;rw[fB]
def jn(p:Nat):List Nat:=if 0<p then [p]else []
def Rw.jo(r:Rw):List Nat:=cr r.due 0++jn r.place
theorem AA(r:Rw):r.jo.length=r.more:=by
 unfold Rw.jo Rw.more jn
 rw[bX,kg]
 split<;>rfl
theorem JH{r:Rw}(hw:r.waits=true):∃q,r.jo=q::(cH r).2.jo∧(cH r).1=r.ord.getD q 0∧(cH r).2.ord=dP 0 r.ord q∧(cH r).2.cd=r.cd∧(cH r).2.z=r.z:=by
 unfold cH
 by_cases c:0<r.due
 ·rw[if_pos c]
  refine⟨0, ?_,rfl,rfl,rfl,rfl⟩
  unfold Rw.jo
  show cr r.due 0++jn r.place=0::(cr (r.due-1) 0++jn r.place)
  obtain⟨d,hd⟩:∃d,r.due=d+1:=⟨r.due-1,by omega⟩
  rw[hd,Nat.add_sub_cancel,List.replicate_succ]
  rfl
 ·rw[if_neg c]
  have hq:0<r.place:=by
   unfold Rw.waits at hw
   simp only[pY,decide_eq_true_eq]at hw
   omega
  refine⟨r.place, ?_,rfl,rfl,rfl,rfl⟩
  unfold Rw.jo jn
  have hd:r.due=0:=by omega
  show cr r.due 0++(if 0<r.place then [r.place]else [])=r.place::(cr r.due 0++(if 0<0 then [0]else []))
  rw[hd,if_pos hq,if_neg (by omega)]
  rfl
def Rw.calm(r:Rw):Rw:={r with ord:=(cD r.ord r.jo).2,due:=0,place:=0}
def Bk.told(b:Bk)(r:Rw):Bk:={b with last:=b.last++(cD r.ord r.jo).1,row:=some r.calm}
theorem Qf{r:Rw}(h:r.more=0):r.jo=[]∧r.calm=r:=by
 have h1:r.jo=[]:=List.length_eq_zero_iff.1 (by rw[AA,h])
 refine⟨h1, ?_⟩
 unfold Rw.calm
 rw[h1]
 have h2:r.due=0∧r.place=0:=by
  unfold Rw.more at h
  split at h<;>omega
 obtain⟨cd,z,ord,due,place⟩:=r
 obtain⟨rfl,rfl⟩:=h2
 rfl
theorem Qg{room:Nat}{b:Bk}{bs:List Bool}{r:Rw}(h1:b.head=true)(h2:b.row=some r)(hw:r.waits=true):hF room b bs=iw {b with last:=b.last++[(cH r).1],row:=some (cH r).2} (cH r).2 0:=by
 unfold hF
 rw[h1,if_neg (by decide),h2]
 exact if_pos hw
theorem aok{b:Bk}{r:Rw}(hw:r.waits=true):({b with last:=b.last++[(cH r).1],row:=some (cH r).2}:Bk).told (cH r).2=b.told r:=by
 obtain⟨q,e1,e2,e3,e4,e5⟩:=JH hw
 have em:cD r.ord r.jo=((cH r).1::(cD (cH r).2.ord (cH r).2.jo).1,(cD (cH r).2.ord (cH r).2.jo).2):=by
  rw[e1,e2,e3]
  rfl
 unfold Bk.told Rw.calm
 rw[em]
 simp only[fA,List.singleton_append]
 rw[e4,e5]
theorem aol{room k:Nat}{res:St Gt}{bs:List Bool}:∀(m:Nat) (r:Rw) (b:Bk),r.more=m->b.head=true->b.row=some r->b.done=false->r.cd.done=false->fY room k (b.told r) bs res->fY room (k+m) b bs res:=by
 intro m
 induction m with
 |zero=>
  intro r b hm h1 h2 h3 hd x
  obtain⟨e1,e2⟩:=Qf hm
  have:b.told r=b:=by
   unfold Bk.told
   rw[e2,e1,<-h2]
   show{b with last:=b.last++[]}=b
   rw[cu]
  rw[this]at x
  exact x
 |succ m ih=>
  intro r b hm h1 h2 h3 hd x
  have hw:=(vq r).2 (by omega)
  obtain⟨q,e1,e2,e3,e4,e5⟩:=JH hw
  have fh:(cH r).2.more=m:=by
   have:=congrArg yc e1
   rw[dp,AA,AA]at this
   omega
  have hs:=Qg (room:=room) (bs:=bs) h1 h2 hw
  have he:iw {b with last:=b.last++[(cH r).1],row:=some (cH r).2} (cH r).2 0= .ok {b with last:=b.last++[(cH r).1],row:=some (cH r).2} 0:=by
   unfold iw
   rw[e4,hd]
   rfl
  rw[he]at hs
  have y:=ih (cH r).2 {b with last:=b.last++[(cH r).1],row:=some (cH r).2} fh h1 rfl h3 (by rw[e4];exact hd) (by rw[aok hw];exact x)
  have z:=fY.more hs h3 y
  rw[St.nm]at z
  exact z
def JI(b:Bk)(last:List Nat)(u:Nat):St Gt:=if last.length<=b.aO then .bad 23 else .ok ⟨last,b.aO,b.sum⟩ u
theorem aom{room:Nat}{bs:List Bool}:∀(m:Nat) (r:Rw) (b:Bk),r.more=m+1->b.head=true->b.row=some r->b.done=false->r.cd.done=true->fY room (m+1) b bs (JI b (b.last++(cD r.ord r.jo).1) 0):=by
 intro m
 induction m with
 |zero=>
  intro r b hm h1 h2 h3 hd
  have hw:=(vq r).2 (by omega)
  obtain⟨q,e1,e2,e3,e4,e5⟩:=JH hw
  have fh:(cH r).2.more=0:=by
   have:=congrArg yc e1
   rw[dp,AA,AA]at this
   omega
  have hs:=Qg (room:=room) (bs:=bs) h1 h2 hw
  have mN:(cH r).2.waits=false:=by
   cases c:(cH r).2.waits with
   |false=>rfl
   |true=>have:=(vq _).1 c;omega
  have el:b.last++(cD r.ord r.jo).1=b.last++[(cH r).1]:=by
   rw[e1,(Qf fh).1,e2]
   rfl
  rw[el]
  unfold iw at hs
  rw[mN,e4,hd]at hs
  unfold JI
  by_cases c:(b.last++[(cH r).1]).length<=b.aO
  ·rw[if_pos c]
   refine fY.bad ?_
   rw[hs]
   exact(if_pos (show(true&& !false)=true from rfl)).trans (if_pos c)
  ·rw[if_neg c]
   refine fY.done (b':={b with last:=b.last++[(cH r).1],row:=some (cH r).2,done:=true}) ?_ rfl
   rw[hs]
   exact(if_pos (show(true&& !false)=true from rfl)).trans (if_neg c)
 |succ m ih=>
  intro r b hm h1 h2 h3 hd
  have hw:=(vq r).2 (by omega)
  obtain⟨q,e1,e2,e3,e4,e5⟩:=JH hw
  have fh:(cH r).2.more=m+1:=by
   have:=congrArg yc e1
   rw[dp,AA,AA]at this
   omega
  have hs:=Qg (room:=room) (bs:=bs) h1 h2 hw
  have mN:=(vq (cH r).2).2 (by omega)
  have he:iw {b with last:=b.last++[(cH r).1],row:=some (cH r).2} (cH r).2 0= .ok {b with last:=b.last++[(cH r).1],row:=some (cH r).2} 0:=by
   unfold iw
   rw[mN,e4,hd]
   rfl
  rw[he]at hs
  have y:=ih (cH r).2 {b with last:=b.last++[(cH r).1],row:=some (cH r).2} fh h1 rfl h3 (by rw[e4];exact hd)
  have z:=fY.more hs h3 y
  rw[St.nm]at z
  have el:b.last++(cD r.ord r.jo).1=(b.last++[(cH r).1])++(cD (cH r).2.ord (cH r).2.jo).1:=by
   rw[e1,fA,e2,e3]
   rfl
  rw[el]
  exact z
def dZ:Zr->List Nat->Option (Zr×List Nat)
 |z,[]=>some (z,[])
 |z,c::l=>match dF z c with
  |none=>none
  |some (z',n,p)=>match dZ z' l with
   |none=>none
   |some (z2,ps)=>some (z2,(cr n 0++jn p)++ps)
theorem JJ:∀(l:List Nat) (z z1:Zr) (p1:List Nat) (c:Nat),dZ z l=some (z1,p1)->dZ z (l++[c])=(match dF z1 c with
 |none=>none
 |some (z',n,p)=>some (z',p1++(cr n 0++jn p)))
 |[],z,z1,p1,c,h=>by
  cases h
  show(match dF z c with
   |none=>none
   |some (z',n,p)=>some (z',(cr n 0++jn p)++[]))=_
  cases dF z c with
  |none=>rfl
  |some t=>
   obtain⟨z',n,p⟩:=t
   show some (z',(cr n 0++jn p)++[])=some (z',[]++(cr n 0++jn p))
   rw[cu,uo]
 |x::l,z,z1,p1,c,h=>by
  unfold dZ at h
  show(match dF z x with
   |none=>none
   |some (z',n,p)=>match dZ z' (l++[c])with
    |none=>none
    |some (z2,ps)=>some (z2,(cr n 0++jn p)++ps))=_
  cases e:dF z x with
  |none=>rw[e]at h;cases h
  |some t=>
   obtain⟨z',n,p⟩:=t
   rw[e]at h
   simp only at h⊢
   cases e2:dZ z' l with
   |none=>rw[e2]at h;cases h
   |some t2=>
    obtain⟨z2,ps⟩:=t2
    rw[e2]at h
    cases h
    rw[JJ l z' z1 ps c e2]
    cases dF z1 c with
    |none=>rfl
    |some t3=>
     obtain⟨z3,n3,p3⟩:=t3
     simp only[fA]
def fz(l:List Int):List Nat:=l.map Int.toNat
def j7(n room:Nat):Ck:=fun out sym=>if(dZ (fG n room) (fz (out++[sym]))).isSome=true then none else some 25
def pU(s:List Nat)(room aO sum:Nat):Rs->St Gt
 | .err e=>if e=3 then .short else .bad e
 | .ok out a=>match dZ (fG s.length room) (fz out)with
   |none=> .bad 25
   |some (_,ps)=>if(cD s ps).1.length<=aO then .bad 23 else .ok (Gt.mk (cD s ps).1 aO sum) a
theorem ab1(s:List Nat)(room aO sum a:Nat)(r:Rs):pU s room aO sum (r.add a)=(pU s room aO sum r).add a:=by
 cases r with
 |err e=>
  show(if e=3 then St.short else .bad e)=St.add a (if e=3 then St.short else .bad e)
  split<;>rfl
 |ok out b=>
  show(match dZ (fG s.length room) (fz out)with
   |none=>St.bad 25
   |some (_,ps)=>if(cD s ps).1.length<=aO then .bad 23 else .ok (Gt.mk (cD s ps).1 aO sum) (a+b))=St.add a (match dZ (fG s.length room) (fz out)with
   |none=>St.bad 25
   |some (_,ps)=>if(cD s ps).1.length<=aO then .bad 23 else .ok (Gt.mk (cD s ps).1 aO sum) b)
  cases dZ (fG s.length room) (fz out)with
  |none=>rfl
  |some t=>
   obtain⟨z,ps⟩:=t
   show(if(cD s ps).1.length<=aO then St.bad 23 else .ok (Gt.mk (cD s ps).1 aO sum) (a+b))=St.add a (if(cD s ps).1.length<=aO then St.bad 23 else .ok (Gt.mk (cD s ps).1 aO sum) b)
   split<;>rfl
theorem Qh{z z':Zr}{c n p:Nat}(h:dF z c=some (z',n,p)):n+(if 0<p then 1 else 0)+z.told=z'.told:=by
 unfold dF at h
 split at h
 ·cases h
 ·split at h
  ·split at h
   ·cases h
   ·cases h;simp
  ·split at h
   ·cases h
    show z.aQ+(if 0<0 then 1 else 0)+z.told=z.told+z.aQ
    rw[if_neg (by omega)]
    omega
   ·split at h
    ·cases h
    ·cases h
     show z.aQ+(if 0<c-1 then 1 else 0)+z.told=z.told+1+z.aQ
     rw[if_pos (by omega)]
     omega
section
variable {s:List Nat} {room:Nat}
theorem aon:∀(N:Nat) (c:Cd) (bs:List Bool) (out:List Int) (z:Zr) (ps:List Nat) (b:Bk),bs.length<N->lH c->c.size=s.length+2->dZ (fG s.length room) (fz out)=some (z,ps)->z.Ok->z.n=s.length->z.most=room->
 b.head=true->b.row=some ⟨c,z,(cD s ps).2,0,0⟩->b.last=(cD s ps).1->b.done=false->
 ∃k,k<=bs.length+1+(room-z.told)∧fY room k b bs (pU s room b.aO b.sum (eo N c bs (j7 s.length room) out 0)):=by
 intro N
 induction N with
 |zero=>intro c bs out z ps b hN;omega
 |succ N ih=>
  intro c bs out z ps b hN kc dS hz zo zn zm h1 h2 h3 h4
  have hs:hF room b bs=match qH ⟨c,z,(cD s ps).2,0,0⟩ bs with
   | .short=> .short
   | .bad e=> .bad e
   | .ok r' u=>iw {b with row:=some r'} r' u:=by
   unfold hF
   rw[h1,if_neg (by decide),h2]
   rfl
  have hG:eo (N+1) c bs (j7 s.length room) out 0=match iH c bs with
   | .short=> .err 3
   | .bad e=> .err e
   | .ok (sym,c') u=>if sym=-1 then eo N c' (bs.drop u) (j7 s.length room) out (0+u)else match j7 s.length room out sym with
     |some e=> .err e
     |none=>eo N c' (bs.drop u) (j7 s.length room) (out++[sym]) (0+u):=by
   show(if c.done=true then _ else _)=_
   rw[kc.dn]
   rfl
  rw[hG]
  unfold qH at hs
  cases e:iH c bs with
  |short=>
   rw[e]at hs
   exact⟨1,by omega,fY.short hs⟩
  |bad x=>
   rw[e]at hs
   refine⟨1,by omega, ?_⟩
   show fY room 1 b bs (if x=3 then .short else .bad x)
   rw[if_neg (by have:=I8 e;omega)]
   exact fY.bad hs
  |ok sc u=>
   obtain⟨sym,c'⟩:=sc
   rw[e]at hs
   simp only at hs⊢
   obtain⟨q1,q2,q3,q4⟩:=I7 kc e
   have qs:c'.size=c.size:=by
    rcases Cs kc e with ⟨_,_,s1,_,rfl⟩|⟨_,_,_,_,q,_⟩|⟨_,_,_,_,_,q,_⟩
    ·unfold nN;split<;>rfl
    ·exact q
    ·exact q
   have hl:(bs.drop u).length<N:=by rw[b9];omega
   by_cases hm:sym=-1
   ·have dn:c'.done=false:=by
     rcases Cs kc e with ⟨_,_,s1,_,rfl⟩|⟨_,_,_,_,_,q⟩|⟨_,q,_⟩
     ·have:=kc.dn
      unfold nN;split<;>exact kc.dn
     ·exact q
     ·omega
    rw[if_pos (by omega:sym<0)]at hs
    rw[if_pos hm]
    obtain⟨k,hk,hr⟩:=ih c' (bs.drop u) out z ps {b with row:=some ⟨c',z,(cD s ps).2,0,0⟩} hl (q1 dn) (by rw[qs];exact dS) hz zo zn zm h1 rfl h3 h4
    have he:hF room b bs= .ok {b with row:=some ⟨c',z,(cD s ps).2,0,0⟩} u:=by
     rw[hs]
     unfold iw
     show(if(c'.done&& !false)=true then _ else _)=_
     rw[dn]
     rfl
    rw[fB,show eo N c' (bs.drop u) (j7 s.length room) out u=(eo N c' (bs.drop u) (j7 s.length room) out 0).add u from Jk N c' (bs.drop u) _ out u 0,ab1]
    rw[b9]at hk
    exact⟨k+1,by omega,fY.more he h4 hr⟩
   ·have h0:0<=sym:=by
     rcases Cs kc e with ⟨_,q,_⟩|⟨_,q,_⟩|⟨_,q,_⟩
     ·exact absurd q hm
     ·exact absurd q hm
     ·exact q
    rw[if_neg (by omega:¬sym<0)]at hs
    rw[if_neg hm]
    have ju:=JJ (fz out) (fG s.length room) z ps sym.toNat hz
    have en:fz (out++[sym])=fz out++[sym.toNat]:=by unfold fz;rw[qb];rfl
    rw[<-en]at ju
    cases ez:dF z sym.toNat with
    |none=>
     rw[ez]at hs ju
     have ck:j7 s.length room out sym=some 25:=by
      unfold j7
      rw[ju]
      rfl
     rw[ck]
     exact⟨1,by omega,fY.bad hs⟩
    |some t=>
     obtain⟨z',n,p⟩:=t
     rw[ez]at hs ju
     simp only at hs ju
     have ck:j7 s.length room out sym=none:=by
      unfold j7
      rw[ju]
      rfl
     rw[ck]
     obtain⟨p1,p2,p3,p4,p5,p6,p7⟩:=Jo zo ez
     obtain⟨c1,c2⟩:=PI kc e h0
     have pt:=Qh ez
     obtain⟨r',jF⟩:∃r':Rw,r'=⟨c',z',(cD s ps).2,n,p⟩:=⟨_,rfl⟩
     have dA:hF room b bs=iw {b with row:=some r'} r' u:=by rw[hs,jF]
     have dX:r'.jo=cr n 0++jn p:=by rw[jF];rfl
     have Bf:r'.more+z.told=z'.told:=by rw[jF];exact pt
     have lq:=PH ps r'.jo s
     rw[<-dX]at ju
     have ab2:r'.ord=(cD s ps).2:=by rw[jF]
     have ab3:b.last++(cD r'.ord r'.jo).1=(cD s (ps++r'.jo)).1:=by rw[lq,h3,ab2]
     rw[fB,show eo N c' (bs.drop u) (j7 s.length room) (out++[sym]) u=(eo N c' (bs.drop u) (j7 s.length room) (out++[sym]) 0).add u from Jk N c' (bs.drop u) _ (out++[sym]) u 0,ab1]
     have Fq:r'.cd=c':=by rw[jF]
     rw[b9]at hl
     cases hd:c'.done with
     |true=>
      have hf:pU s room b.aO b.sum (eo N c' (bs.drop u) (j7 s.length room) (out++[sym]) 0)=JI b (b.last++(cD r'.ord r'.jo).1) 0:=by
       obtain⟨N',rfl⟩:∃N',N=N'+1:=⟨N-1,by omega⟩
       have:eo (N'+1) c' (bs.drop u) (j7 s.length room) (out++[sym]) 0= .ok (out++[sym]) 0:=by
        show(if c'.done=true then _ else _)=_
        rw[hd]
        rfl
       rw[this,ab3]
       show(match dZ (fG s.length room) (fz (out++[sym]))with
        |none=>St.bad 25
        |some (_,ps)=>if(cD s ps).1.length<=b.aO then .bad 23 else .ok (Gt.mk (cD s ps).1 b.aO b.sum) 0)=_
       rw[ju]
       rfl
      rw[hf]
      by_cases hw:r'.waits=true
      ·have he:hF room b bs= .ok {b with row:=some r'} u:=by
        rw[dA]
        unfold iw
        rw[hw,Fq,hd]
        rfl
       have hp:=(vq r').1 hw
       obtain⟨m,fh⟩:∃m,r'.more=m+1:=⟨r'.more-1,by omega⟩
       have y:=aom (room:=room) (bs:=bs.drop u) m r' {b with row:=some r'} fh h1 rfl h4 (by rw[Fq];exact hd)
       exact⟨m+1+1,by have:=p7;rw[zm]at this;omega,fY.more he h4 y⟩
      ·have uF:r'.waits=false:=by simpa using hw
       have hm0:r'.more=0:=ady fun q=>hw ((vq r').2 q)
       have e0:b.last++(cD r'.ord r'.jo).1=b.last:=by
        rw[(Qf hm0).1]
        exact cu _
       rw[e0]
       refine⟨1,by omega, ?_⟩
       unfold iw at dA
       rw[uF,Fq,hd]at dA
       unfold JI
       by_cases cl:b.last.length<=b.aO
       ·rw[if_pos cl]
        refine fY.bad ?_
        rw[dA]
        exact(if_pos (show(true&& !false)=true from rfl)).trans (if_pos cl)
       ·rw[if_neg cl]
        refine fY.done (b':={b with row:=some r',done:=true}) ?_ rfl
        rw[dA]
        exact(if_pos (show(true&& !false)=true from rfl)).trans (if_neg cl)
     |false=>
      have he:hF room b bs= .ok {b with row:=some r'} u:=by
       rw[dA]
       unfold iw
       rw[Fq,hd]
       rfl
      have zd:z'.done=false:=by
       rw[p5,decide_eq_false_iff_not]
       rw[hd]at c2
       have:=decide_eq_false_iff_not.1 c2.symm
       omega
      obtain⟨k,hk,hr⟩:=ih c' (bs.drop u) (out++[sym]) z' (ps++r'.jo) (({b with row:=some r'}:Bk).told r') (by rw[b9];exact hl) (q1 hd) (by rw[qs];exact dS) ju (p1 zd) (p2.trans zn) (p3.trans zm) h1 (by
       show some r'.calm=_
       unfold Rw.calm
       rw[lq,ab2,jF]) ab3 h4
      have y:=aol (room:=room) (bs:=bs.drop u) r'.more r' {b with row:=some r'} rfl h1 rfl h4 (by rw[Fq];exact hd) hr
      rw[b9]at hk
      exact⟨k+r'.more+1,by have:=p7;rw[zm]at this;omega,fY.more he h4 y⟩
end
def m6(room:Nat)(bs:List Bool):St Gt:=
 if bs.length<57 then .short else if bs.getD 32 false=true then .bad 25 else match j3 (bs.drop 57)with
 | .short=> .short
 | .bad e=> .bad e
 | .ok s u=>(pU s room (num ((bs.drop 33).take 24) 0) (num (bs.take 32) 0) (jN (s.length+2) (bs.drop (57+u)) (j7 s.length room))).add (57+u)
theorem aoo(room:Nat)(ji:room<=1099511627776)(bs:List Bool):∃k,k<=bs.length+3+room∧fY room k lI bs (m6 room bs):=by
 have hs:hF room lI bs=if bs.length<57 then .short else if bs.getD 32 false=true then .bad 25 else .ok {lI with head:=true,sum:=num (bs.take 32) 0,aO:=num ((bs.drop 33).take 24) 0} 57:=rfl
 unfold m6
 by_cases c1:bs.length<57
 ·rw[if_pos c1]at hs⊢
  exact⟨1,by omega,fY.short hs⟩
 rw[if_neg c1]at hs⊢
 by_cases c2:bs.getD 32 false=true
 ·rw[if_pos c2]at hs⊢
  exact⟨1,by omega,fY.bad hs⟩
 rw[if_neg c2]at hs⊢
 obtain⟨b1,iS⟩:∃b1:Bk,b1={lI with head:=true,sum:=num (bs.take 32) 0,aO:=num ((bs.drop 33).take 24) 0}:=⟨_,rfl⟩
 rw[<-iS]at hs
 have dN:hF room b1 (bs.drop 57)=match j3 (bs.drop 57)with
  | .short=> .short
  | .bad e=> .bad e
  | .ok s u=> .ok {b1 with row:=some (tR s room)} u:=by rw[iS];rfl
 have xC:b1.done=false:=by rw[iS];rfl
 cases e:j3 (bs.drop 57)with
 |short=>
  rw[e]at dN
  exact⟨2,by omega,fY.more hs xC (fY.short dN)⟩
 |bad x=>
  rw[e]at dN
  exact⟨2,by omega,fY.more hs xC (fY.bad dN)⟩
 |ok s u=>
  rw[e]at dN
  obtain⟨s1,s2,s3,s4⟩:=EY e
  have sl:=s1.len
  have sp:1<=s.length:=List.length_pos_iff.2 s2
  obtain⟨k,hk,hr⟩:=aon (s:=s) (room:=room) ((bs.drop (57+u)).length+1) (qF (s.length+2)) (bs.drop (57+u)) [] (fG s.length room) [] {b1 with row:=some (tR s room)} (gh _) (I9 (by omega) (by omega)) rfl rfl (Jn sp sl ji) rfl rfl (by rw[iS]) rfl (by rw[iS];rfl) (by rw[iS];rfl)
  rw[amG (by omega) (by omega)]at hr
  have hx:=fY.more hs xC (fY.more dN (by exact xC) (by rw[ng];exact hr))
  have e3:∀(x:St Gt),(x.add u).add 57=x.add (57+u):=fun x=>by
   cases x with
   |short=>rfl
   |bad e=>rfl
   |ok a v=>show St.ok a (57+(u+v))=St.ok a (57+u+v);rw[vF]
  rw[e3]at hx
  have e4:b1.aO=num ((bs.drop 33).take 24) 0:=by rw[iS]
  have e5:b1.sum=num (bs.take 32) 0:=by rw[iS]
  rw[show({b1 with row:=some (tR s room)}:Bk).aO=b1.aO from rfl,show({b1 with row:=some (tR s room)}:Bk).sum=b1.sum from rfl,e4,e5]at hx
  rw[b9]at hk s4
  exact⟨k+1+1,by show k+1+1<=_;have:(fG s.length room).told=0:=rfl;omega,hx⟩
structure Qi (unit A:Nat) (u:Us):Prop where
 ok:xH unit A u
 bk:∀b,u.bE=some b->Fp (u.level*unit) A b
structure nV (S:List UInt8) (unit:Nat) (s:Is):Prop where
 us:Qi unit s.A s.u
 jE:s.total<4294967296
 nx:s.next<=s.A
 np:s.ps.length<=s.next
 Qj:2<=s.u.due->s.next+48<=s.A
 hi:s.A<=8*S.length
theorem Qk{t b:Nat}(h1:t<4294967296)(h2:b<4294967296):fy t b<4294967296:=by
 unfold fy
 have e:(4294967296:Nat)=2^32:=rfl
 rw[e]at*
 refine RV (RV (m9 _ (by decide)) ?_) h2
 exact Nat.lt_of_le_of_lt (Nat.div_le_self _ _) h1
theorem aop{lv unit:Nat}(h1:lv<=9)(h2:unit<=100000):lv*unit<=900000:=Nat.le_trans (CQ h1 h2) (by decide)
theorem ab4(room A:Nat):Fp room A lI:=⟨⟨rfl,fun _=>rfl,fun r hr=>(by cases hr),aR _,by decide⟩,fun x hx=>(by cases hx),fun r hr=>(by cases hr),fun r hr=>(by cases hr),fun _=>rfl⟩
theorem Ql(A:Nat):dq A<=7∧(A+dq A)%8=0:=by unfold dq;omega
theorem ab5{unit A w wh:Nat}{u u':Us}{bs:List Bool}(k:Qi unit A u)(h:m4 unit u A bs= .ok (wh,u') w)(h8:(A+bs.length)%8=0):w<=bs.length∧Qi unit (A+w) u'∧(wh=1->JG u'.eL∧u.due=2∧u'.due=1)∧(wh=2->u.due=3∧u'.due=0∧32<=w)∧(u'.due=2∨u'.due=3->(u.due=1∧48<=w)∨u.due=2):=by
 obtain⟨ok,bk⟩:=k
 unfold m4 at h
 split at h
 ·next d0=>
  have bn:=ok.b0 (by omega)
  unfold E9 at h
  split at h
  ·cases h
  ·next hl=>
   split at h
   ·next ha=>
    split at h
    ·cases h
     refine⟨by omega,⟨⟨by show u.at_+1<=3;omega,ok.due,fun q=>absurd d0 q,ok.xI,fun q=> ?_,fun _=>bn,ok.jE,ok.u1,ok.u2⟩,fun b hb=> ?_⟩,fun q=>(by cases q),fun q=>(by cases q),fun q=> ?_⟩
     ·have:u.due=2:=q
      omega
     ·have:u.bE=some b:=hb
      rw[bn]at this;cases this
     ·have:u.due=2∨u.due=3:=q
      omega
    ·cases h
   ·next ha=>
    split at h
    ·cases h
    ·next hr=>
     cases h
     refine⟨by omega,⟨⟨aR _,by show 1<=3;decide,fun _=>by show 1<=num (bs.take 8) 0-48∧num (bs.take 8) 0-48<=9;omega,by show num (bs.take 8) 0-48<=9;omega,fun q=>(by cases q),fun _=>bn,by show 0<4294967296;decide,ok.u1,ok.u2⟩,fun b hb=> ?_⟩,fun q=>(by cases q),fun q=>(by cases q),fun q=> ?_⟩
     ·have:u.bE=some b:=hb
      rw[bn]at this;cases this
     ·rcases q with q|q<;>cases q
 ·next d0=>
  split at h
  ·next d1=>
   have bn:=ok.b0 (by omega)
   have lv:=ok.lv (by omega)
   unfold E' at h
   split at h
   ·cases h
   ·next hl=>
    split at h
    ·cases h
     refine⟨by omega,⟨⟨ok.at_,by show 2<=3;decide,fun _=>lv,ok.xI,fun _=>⟨lI,rfl,(ab4 _ _).ok⟩,fun q=>absurd rfl q,ok.jE,ok.u1,ok.u2⟩,fun b hb=> ?_⟩,fun q=>(by cases q),fun q=>(by cases q),fun _=> .inl ⟨d1,an _⟩⟩
     have:some lI=some b:=hb
     cases this
     exact ab4 _ _
    ·split at h
     ·cases h
      refine⟨by omega,⟨⟨ok.at_,by show 3<=3;decide,fun _=>lv,ok.xI,fun q=>(by cases q),fun _=>bn,ok.jE,ok.u1,ok.u2⟩,fun b hb=> ?_⟩,fun q=>(by cases q),fun q=>(by cases q),fun _=> .inl ⟨d1,an _⟩⟩
      have:u.bE=some b:=hb
      rw[bn]at this;cases this
     ·cases h
  ·next d1=>
   split at h
   ·next d2=>
    have lv:=ok.lv (by omega)
    have rm:=aop lv.2 ok.u2
    unfold Fa at h
    split at h
    ·cases h
    ·next b hb=>
     have kb:=bk b hb
     cases e:hF (u.level*unit) b bs with
     |short=>rw[e]at h;cases h
     |bad x=>rw[e]at h;cases h
     |ok b' w'=>
      rw[e]at h
      simp only at h
      obtain⟨q1,q2,q3⟩:=aoj kb (by omega) e
      split at h
      ·next hd=>
       cases h
       obtain⟨g1,g2,g3,g4⟩:=q3 hd
       refine⟨q1,⟨⟨ok.at_,by show 1<=3;decide,fun _=>lv,ok.xI,fun q=>(by cases q),fun _=>rfl,Qk ok.jE g4,ok.u1,ok.u2⟩,fun b hb=>(by cases hb)⟩,fun _=>⟨⟨⟨g3,by show 0<b'.last.length;omega,by show b'.last.length<=900000;omega,g1⟩,g4⟩,d2,rfl⟩,fun q=>(by cases q),fun q=> ?_⟩
       rcases q with q|q<;>cases q
      ·next hd=>
       cases h
       have mj:b'.done=false:=by simpa using hd
       have kb':=q2 mj
       refine⟨q1,⟨⟨ok.at_,ok.due,fun _=>lv,ok.xI,fun _=>⟨b',rfl,kb'.ok⟩,fun q=>absurd d2 q,ok.jE,ok.u1,ok.u2⟩,fun b hb=> ?_⟩,fun q=>(by cases q),fun q=>(by cases q),fun _=> .inr d2⟩
       have:some b'=some b:=hb
       cases this
       exact kb'
   ·next d2=>
    have d3:u.due=3:=by have:=ok.due;omega
    have bn:=ok.b0 (by omega)
    unfold Fb at h
    split at h
    ·cases h
    ·next hl=>
     split at h
     ·cases h
      have pd:A+32+dq (A+32)<=A+bs.length:=by unfold dq;omega
      refine⟨by omega,⟨⟨ok.at_,aR _,fun q=>absurd rfl q,ok.xI,fun q=>(by cases q),fun _=>bn,ok.jE,ok.u1,ok.u2⟩,fun b hb=> ?_⟩,fun q=>(by cases q),fun _=>⟨d3,rfl,by omega⟩,fun q=> ?_⟩
      ·have:u.bE=some b:=hb
       rw[bn]at this;cases this
      ·rcases q with q|q<;>cases q
     ·cases h
section
variable {S:List UInt8} {unit:Nat} {s s':Is}
theorem nV.rest(k:nV S unit s):(ax S 0 s.A).length=8*S.length-s.A:=by
 rw[eX,Nat.mul_zero,RS]
theorem AD(k:nV S unit s)(h:j6 S unit s= .go s'):nV S unit s':=by
 have hr:=k.rest
 have hi:=k.hi
 have pS:=k.nx
 have hnp:=k.np
 unfold j6 at h
 split at h
 ·cases h
 ·unfold xK at h
  cases e:m4 unit s.u s.A (ax S 0 s.A)with
  |short=>rw[e]at h;cases h
  |bad x=>rw[e]at h;cases h
  |ok t w=>
   obtain⟨wh,u'⟩:=t
   rw[e]at h
   obtain⟨w1,w2,w3,w4,w5⟩:=ab5 k.us e (by omega)
   have d3:=w2.ok.due
   have h:jO S wh (s.took u' w)= .go s':=h
   unfold jO at h
   split at h
   ·next c1=>
    obtain⟨g1,g2,g3⟩:=w3 c1
    have gp:=k.Qj (by omega)
    split at h
    ·cases h
    ·next t _=>
     cases h
     refine⟨w2,Qk k.jE g1.2,an _, ?_,fun q=> ?_, ?_⟩
     ·show(s.ps++[_]).length<=s.A+w
      rw[bX]
      show s.ps.length+1<=_
      omega
     ·have:2<=u'.due:=q
      omega
     ·show s.A+w<=_
      omega
   ·next c1=>
    split at h
    ·next c2=>
     cases h
     obtain⟨g1,g2,g3⟩:=w4 c2
     have gp:=k.Qj (by omega)
     refine⟨w2,k.jE,an _, ?_,fun q=> ?_, ?_⟩
     ·show(s.ps++[_]).length<=s.A+w
      rw[bX]
      show s.ps.length+1<=_
      omega
     ·have:2<=u'.due:=q
      omega
     ·show s.A+w<=_
      omega
    ·next c2=>
     cases h
     have gq:2<=u'.due->s.next+48<=s.A+w:=fun q=>by
      rcases w5 (by omega)with ⟨_,q2⟩|q2
      ·omega
      ·have:=k.Qj (by omega);omega
     unfold Is.begun
     split
     ·next c3=>
      have hA:s.A+w=s.next+32:=c3.2
      refine⟨w2,by show 0<4294967296;decide,an _, ?_,fun q=> ?_, ?_⟩
      ·show(s.ps++[_]).length<=s.A+w
       rw[bX]
       show s.ps.length+1<=_
       omega
      ·have:=gq q
       omega
      ·show s.A+w<=_
       omega
     ·exact⟨w2,k.jE,by show s.next<=s.A+w;omega,hnp,gq,by show s.A+w<=_;omega⟩
theorem nV.fit(k:nV S unit s)(hS:S.length<=1000000):Fit S unit s:=by
 have hr:=k.rest
 have hi:=k.hi
 have pS:=k.nx
 have hnp:=k.np
 refine⟨⟨k.us.ok,k.jE,by omega,by omega⟩,by omega,fun u' w e=> ?_⟩
 exact((ab5 k.us e (by omega)).2.2.1 rfl).1
theorem ab6(h:s.fresh=false):s.begun S=s:=by
 unfold Is.begun
 rw[if_neg (by rw[h];simp)]
def mE(u:Us)(g:Gt):Us:={u with eL:=g,bE:=none,total:=fy u.total g.sum,due:=1}
theorem JK{b:Bk}(d2:s.u.due=2)(hb:s.u.bE=some b):j6 S unit s=match hF (s.u.level*unit) b (ax S 0 s.A)with
 | .short=> .stop 24
 | .bad e=> .stop e
 | .ok b' w=>if b'.done=true then jO S 1 (s.took (mE s.u (tZ b')) w)else jO S 0 (s.took {s.u with bE:=some b'} w):=by
 unfold j6
 rw[if_neg (by unfold Us.may;rw[d2];simp)]
 unfold xK m4
 rw[if_neg (by omega),if_neg (by omega),if_pos d2]
 unfold Fa
 rw[hb]
 dsimp only
 cases hF (s.u.level*unit) b (ax S 0 s.A)with
 |short=>rfl
 |bad e=>rfl
 |ok b' w=>
  show(match (if b'.done=true then St.ok (1,mE s.u (tZ b')) w else St.ok (0,{s.u with bE:=some b'}) w:St (Nat×Us))with
   | .short=>Ix.stop 24
   | .bad e=> .stop e
   | .ok (wh,u') w=>jO S wh (s.took u' w))=if b'.done=true then _ else _
  by_cases c:b'.done=true
  ·rw[if_pos c,if_pos c]
  ·rw[if_neg c,if_neg c]
def aoq(S:List UInt8)(unit k:Nat)(s:Is):St Gt->Prop
 | .short=>cK S unit k s s.ps 24
 | .bad e=>cK S unit k s s.ps e
 | .ok g w=>match hH g with
   | .error e=>cK S unit k s s.ps e
   | .ok t=>nV S unit ((s.took (mE s.u g) w).nR t.length)∧∀j ps e,cK S unit j ((s.took (mE s.u g) w).nR t.length) ps e->cK S unit (k+j) s ps e
theorem aor{room k:Nat}{b:Bk}{bs:List Bool}{x:St Gt}(hS:S.length<=1000000)(r:fY room k b bs x):∀(s:Is),nV S unit s->s.u.due=2->s.u.bE=some b->s.u.level*unit=room->ax S 0 s.A=bs->s.fresh=false->aoq S unit k s x:=by
 induction r with
 |short h=>
  intro s ki d2 hb hr bR hf
  have hs:=JK (S:=S) (unit:=unit) d2 hb
  rw[hr,bR,h]at hs
  exact cK.stop (ki.fit hS) hs
 |bad h=>
  intro s ki d2 hb hr bR hf
  have hs:=JK (S:=S) (unit:=unit) d2 hb
  rw[hr,bR,h]at hs
  exact cK.stop (ki.fit hS) hs
 |@done b b' bs u h q=>
  intro s ki d2 hb hr bR hf
  have hs:=JK (S:=S) (unit:=unit) d2 hb
  rw[hr,bR,h]at hs
  have hs:j6 S unit s=jO S 1 (s.took (mE s.u (tZ b')) u):=hs.trans (if_pos q)
  unfold jO at hs
  rw[if_pos rfl]at hs
  show match hH (tZ b')with
   | .error e=>cK S unit 1 s s.ps e
   | .ok t=>nV S unit ((s.took (mE s.u (tZ b')) u).nR t.length)∧∀j ps e,cK S unit j ((s.took (mE s.u (tZ b')) u).nR t.length) ps e->cK S unit (1+j) s ps e
  have hs:j6 S unit s=match hH (tZ b')with
   | .error e=> .stop e
   | .ok t=> .go ((s.took (mE s.u (tZ b')) u).nR t.length):=hs
  cases e:hH (tZ b')with
  |error e0=>
   rw[e]at hs
   exact cK.stop (ki.fit hS) hs
  |ok t=>
   rw[e]at hs
   refine⟨AD ki hs,fun j ps e1 hj=> ?_⟩
   rw[Kn]
   exact cK.go (ki.fit hS) hs hj
 |@more k b b' bs u x h q r ih=>
  intro s ki d2 hb hr bR hf
  have hs:=JK (S:=S) (unit:=unit) d2 hb
  rw[hr,bR,h]at hs
  have hs:j6 S unit s=jO S 0 (s.took {s.u with bE:=some b'} u):=hs.trans (if_neg (by rw[q];decide))
  have hs:j6 S unit s= .go (s.took {s.u with bE:=some b'} u):=by
   rw[hs]
   unfold jO
   rw[if_neg (by decide),if_neg (by decide),ab6 (s:=s.took {s.u with bE:=some b'} u) hf]
  have y:=ih (s.took {s.u with bE:=some b'} u) (AD ki hs) d2 rfl hr (by rw[<-bR,rR (by omega)];rfl) hf
  cases x with
  |short=>exact cK.go (ki.fit hS) hs y
  |bad e=>exact cK.go (ki.fit hS) hs y
  |ok g w=>
   show match hH g with
    | .error e=>cK S unit (k+1) s s.ps e
    | .ok t=>nV S unit ((s.took (mE s.u g) (u+w)).nR t.length)∧∀j ps e,cK S unit j ((s.took (mE s.u g) (u+w)).nR t.length) ps e->cK S unit (k+1+j) s ps e
   have y:match hH g with
    | .error e=>cK S unit k (s.took {s.u with bE:=some b'} u) s.ps e
    | .ok t=>nV S unit (((s.took {s.u with bE:=some b'} u).took (mE s.u g) w).nR t.length)∧∀j ps e,cK S unit j (((s.took {s.u with bE:=some b'} u).took (mE s.u g) w).nR t.length) ps e->cK S unit (k+j) (s.took {s.u with bE:=some b'} u) ps e:=y
   cases e:hH g with
   |error e0=>
    rw[e]at y
    exact cK.go (ki.fit hS) hs y
   |ok t=>
    rw[e]at y
    obtain⟨y0,y⟩:=y
    have e2:(s.took {s.u with bE:=some b'} u).took (mE s.u g) w=s.took (mE s.u g) (u+w):=by
     unfold Is.took
     simp only[vF]
    rw[e2]at y0 y
    refine⟨y0,fun j ps e1 hj=> ?_⟩
    have:=y j ps e1 hj
    rw[show k+1+j=(k+j)+1 by omega]
    exact cK.go (ki.fit hS) hs this
end
end Go.Proofs.YtmjolmggelkjlaaGreat
