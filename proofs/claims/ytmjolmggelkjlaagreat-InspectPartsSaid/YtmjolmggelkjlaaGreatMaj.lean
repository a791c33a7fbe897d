import Derived.Test.YtmjolmggelkjlaaGreatMai
import Derived.Test.YtmjolmggelkjlaaGreatMaf
open Nat renaming reduceLT→aa, reduceAdd→af, le_refl→an, zero_le→aR, zero_add→fB, lt_succ_self→gh, le_succ→iP, le_trans→lM, lt_of_lt_of_le→mb, not_lt_zero→mJ, pow_succ→pX, pow_le_pow_right→ur, mul_le_mul_right→xY, mul_le_mul→CQ, succ_mul→FL, mul_le_mul_left→Kv, le_of_lt→arL
open Go.Proofs.Tryz renaming prog→ah
open Go.Value renaming string→aV, int→dG, slice→kf, agg→mf
open List renaming getD_eq_getElem?_getD→bC, getElem?_eq_getElem→bD, length_append→bX, length_drop→b9, replicate→cr, append_nil→cu, length_cons→dp, length_take→dr, length_map→dL, getElem_mem→eu, append_assoc→fA, length_nil→gM, range→iL, getElem?_map→jC, length_replicate→kg, not_mem_nil→mg, take_length→mh, drop_drop→ng, take_succ_eq_append_getElem→qa, map_append→qb, nil_append→uo, drop_eq_getElem_cons→vI, length→yc, mem_cons_of_mem→AV, length_filter_le→CW, all_cons→FI, mem_of_mem_take→Kc, mem_cons_self→Kq, map_drop→Ku, foldl_append→Kw, length_range→RF, take_append_drop→RG, range_succ→RL, filter_append→RM, map_take→RP, singleton_append→RY, all_nil→R2, filter_cons_of_neg→adu, filter_cons_of_pos→adv, getElem?_take_of_lt→ar4, getLast?_append→ar5, cons_append→ar6, dropLast_concat_getLast→ar7, length_dropLast→ar8
open Bool renaming and_eq_true→cj, not_false→cP, and_self→fR, or_eq_true→pY, true_and→xX, false_and→Kr
open Int renaming toNat_natCast→cL, lt_irrefl→fg
open UInt8 renaming ofNat→jq
open Go.IntWalk renaming u8_in→RI
open Go.IntKind renaming wrap_u32→R0
open List.Pairwise renaming filter→adt
set_option linter.unusedVariables false
set_option linter.unusedSimpArgs false
namespace Go.Proofs.YtmjolmggelkjlaaGreat
open Go.RowKit Ev Cn Ip
def fc(S:List UInt8)(room:Nat):Nat->Nat->Nat->List Pt×Except Int Nat
 |0,_,_=>([],.error 24)
 |N+1,a,t=>if(ax S 0 a).length<48 then([],.error 24)
  else if num ((ax S 0 a).take 48) 0=jA then(match m6 room (ax S 0 (a+48))with
   | .short=>([],.error 24)
   | .bad e=>([],.error e)
   | .ok g w=>match hH g with
     | .error e=>([],.error e)
     | .ok x=>(⟨2,0,(a:Int),((a+48+w:Nat):Int),(g.sum:Int),(g.aO:Int),(g.last.length:Int),(x.length:Int)⟩::(fc S room N (a+48+w) (fy t g.sum)).1,(fc S room N (a+48+w) (fy t g.sum)).2))
  else if num ((ax S 0 a).take 48) 0=jl then(if(ax S 0 (a+48)).length<32 then([],.error 24)
   else if num ((ax S 0 (a+48)).take 32) 0=t then([⟨3,0,(a:Int),((a+80:Nat):Int),(t:Int),0,0,0⟩],.ok (a+80))else([],.error 21))
  else([],.error 20)
structure Qm (S:List UInt8) (unit room a t:Nat) (s:Is):Prop where
 ki:nV S unit s
 due:s.u.due=1
 sk:s.u.at_=0
 pos:s.A=a
 next:s.next=a
 ut:s.u.total=t
 st:s.total=t
 rm:s.u.level*unit=room
 fr:s.fresh=false
structure Qn (S:List UInt8) (unit a:Nat) (s:Is):Prop where
 ki:nV S unit s
 due:s.u.due=0
 sk:s.u.at_=0
 pos:s.A=a
 next:s.next=a
 fr:s.fresh=true
def To(S:List UInt8)(unit K:Nat)(s:Is):List Pt×Except Int Nat->Prop
 |(ps,.error e)=>∃k,k<=K∧cK S unit k s (s.ps++ps) e
 |(ps,.ok a)=>∃k s',k<=K∧s'.ps=s.ps++ps∧s'.u.ended=true∧Qn S unit (a+dq a) s'∧∀j p2 e,cK S unit j s' p2 e->cK S unit (k+j) s p2 e
theorem ab7{s:Is}{p:Pt}(h:p.what≠3){ps:List Pt}(e:s.ps=ps++[p]):s.fresh=false:=by
 unfold Is.fresh
 rw[e,ar5]
 exact decide_eq_false h
theorem aos{s:Is}{p:Pt}(h:p.what=3){ps:List Pt}(e:s.ps=ps++[p]):s.fresh=true:=by
 unfold Is.fresh
 rw[e,ar5]
 exact decide_eq_true h
section
variable {S:List UInt8} {unit room:Nat}
theorem aot{s:Is}(d1:s.u.due=1)(hf:s.fresh=false):j6 S unit s=if(ax S 0 s.A).length<48 then .stop 24
 else if num ((ax S 0 s.A).take 48) 0=jA then .go (s.took {s.u with bE:=some lI,due:=2} 48)
 else if num ((ax S 0 s.A).take 48) 0=jl then .go (s.took {s.u with due:=3} 48)else .stop 20:=by
 have b1:∀u w,(s.took u w).begun S=s.took u w:=fun u w=>ab6 hf
 unfold j6
 rw[if_neg (by unfold Us.may;rw[d1];simp)]
 unfold xK m4
 rw[if_neg (by omega),if_pos d1]
 unfold E'
 by_cases c1:(ax S 0 s.A).length<48
 ·rw[if_pos c1,if_pos c1];rfl
 rw[if_neg c1,if_neg c1]
 by_cases c2:num ((ax S 0 s.A).take 48) 0=jA
 ·rw[if_pos c2,if_pos c2]
  show jO S 0 (s.took _ 48)=_
  unfold jO
  rw[if_neg (by decide),if_neg (by decide),b1]
 rw[if_neg c2,if_neg c2]
 by_cases c3:num ((ax S 0 s.A).take 48) 0=jl
 ·rw[if_pos c3,if_pos c3]
  show jO S 0 (s.took _ 48)=_
  unfold jO
  rw[if_neg (by decide),if_neg (by decide),b1]
 rw[if_neg c3,if_neg c3]
 rfl
theorem aou{s:Is}(d3:s.u.due=3):j6 S unit s=if(ax S 0 s.A).length<32 then .stop 24
 else if num ((ax S 0 s.A).take 32) 0=s.u.total then .go (s.took {s.u with due:=0,ended:=true} (32+dq (s.A+32))).Qa else .stop 21:=by
 unfold j6
 rw[if_neg (by unfold Us.may;rw[d3];simp)]
 unfold xK m4
 rw[if_neg (by omega),if_neg (by omega),if_neg (by omega)]
 unfold Fb
 by_cases c1:(ax S 0 s.A).length<32
 ·rw[if_pos c1,if_pos c1];rfl
 rw[if_neg c1,if_neg c1]
 by_cases c2:num ((ax S 0 s.A).take 32) 0=s.u.total
 ·rw[if_pos c2,if_pos c2]
  show jO S 2 (s.took _ _)=_
  unfold jO
  rw[if_neg (by decide),if_pos rfl]
 rw[if_neg c2,if_neg c2]
 rfl
theorem aov(hS:S.length<=1000000)(ji:room<=900000):∀(N a t:Nat) (s:Is),(ax S 0 a).length<48*N->Qm S unit room a t s->To S unit (N*(8*S.length+room+6)) s (fc S room N a t):=by
 intro N
 induction N with
 |zero=>intro a t s h;omega
 |succ N ih=>
  intro a t s hN x
  have fit:=x.ki.fit hS
  have hs:=aot (S:=S) (unit:=unit) x.due x.fr
  have hr:=x.ki.rest
  have hi:=x.ki.hi
  have hK:(N+1)*(8*S.length+room+6)=N*(8*S.length+room+6)+(8*S.length+room+6):=FL _ _
  rw[x.pos]at hs hr hi
  have pS:(ax S 0 a).drop 48=ax S 0 (a+48):=rR (by omega)
  have stop:∀e,j6 S unit s= .stop e->To S unit ((N+1)*(8*S.length+room+6)) s ([],.error e):=fun e q=>⟨1,by omega,by rw[cu];exact cK.stop fit q⟩
  unfold fc
  by_cases c1:(ax S 0 a).length<48
  ·rw[if_pos c1]at hs⊢
   exact stop _ hs
  rw[if_neg c1]at hs⊢
  by_cases c2:num ((ax S 0 a).take 48) 0=jA
  ·rw[if_pos c2]at hs⊢
   have vr:=AD x.ki hs
   obtain⟨k,hk,br⟩:=aoo room (by omega) (ax S 0 (a+48))
   have bt:=aor (unit:=unit) hS br (s.took {s.u with bE:=some lI,due:=2} 48) vr rfl rfl x.rm (by show ax S 0 (s.A+48)=_;rw[x.pos]) x.fr
   have hl:(ax S 0 (a+48)).length<=8*S.length:=by rw[<-pS,b9];omega
   cases e:m6 room (ax S 0 (a+48))with
   |short=>
    rw[e]at bt
    exact⟨k+1,by omega,by rw[cu];exact cK.go fit hs bt⟩
   |bad e0=>
    rw[e]at bt
    exact⟨k+1,by omega,by rw[cu];exact cK.go fit hs bt⟩
   |ok g w=>
    rw[e]at bt
    have bt:match hH g with
     | .error e=>cK S unit k (s.took {s.u with bE:=some lI,due:=2} 48) s.ps e
     | .ok t=>nV S unit (((s.took {s.u with bE:=some lI,due:=2} 48).took (mE {s.u with bE:=some lI,due:=2} g) w).nR t.length)∧∀j ps e,cK S unit j (((s.took {s.u with bE:=some lI,due:=2} 48).took (mE {s.u with bE:=some lI,due:=2} g) w).nR t.length) ps e->cK S unit (k+j) (s.took {s.u with bE:=some lI,due:=2} 48) ps e:=bt
    dsimp only
    cases e2:hH g with
    |error e0=>
     rw[e2]at bt
     exact⟨k+1,by omega,by rw[cu];exact cK.go fit hs bt⟩
    |ok xt=>
     rw[e2]at bt
     dsimp only at bt⊢
     obtain⟨s2,dN⟩:∃s2,((s.took {s.u with bE:=some lI,due:=2} 48).took (mE {s.u with bE:=some lI,due:=2} g) w).nR xt.length=s2:=⟨_,rfl⟩
     rw[dN]at bt
     obtain⟨Qo,bt⟩:=bt
     have hp:s2.ps=s.ps++[(⟨2,0,(a:Int),((a+48+w:Nat):Int),(g.sum:Int),(g.aO:Int),(g.last.length:Int),(xt.length:Int)⟩:Pt)]:=by
      rw[<-dN]
      show s.ps++[(⟨2,0,((s.next:Nat):Int),((s.A+48+w:Nat):Int),(g.sum:Int),(g.aO:Int),(g.last.length:Int),(xt.length:Int)⟩:Pt)]=_
      rw[x.next,x.pos]
     have mP:(ax S 0 (a+48+w)).length<48*N:=by
      rw[<-rR (by omega),b9,<-pS,b9]
      omega
     have x2:Qm S unit room (a+48+w) (fy t g.sum) s2:=by
      refine⟨Qo, ?_, ?_, ?_, ?_, ?_, ?_, ?_,ab7 (p:=⟨2,0,(a:Int),((a+48+w:Nat):Int),(g.sum:Int),(g.aO:Int),(g.last.length:Int),(xt.length:Int)⟩) (by show(2:Int)≠3;decide) hp⟩
      ·rw[<-dN];rfl
      ·rw[<-dN];exact x.sk
      ·rw[<-dN];show s.A+48+w=_;rw[x.pos]
      ·rw[<-dN];show s.A+48+w=_;rw[x.pos]
      ·rw[<-dN];show fy s.u.total g.sum=_;rw[x.ut]
      ·rw[<-dN];show fy s.total g.sum=_;rw[x.st]
      ·rw[<-dN];exact x.rm
     have y:=ih (a+48+w) (fy t g.sum) s2 mP x2
     cases er:fc S room N (a+48+w) (fy t g.sum)with
     |mk ps r=>
      rw[er]at y
      cases r with
      |error e0=>
       obtain⟨j,hj,ir⟩:=y
       refine⟨k+j+1,by omega, ?_⟩
       have:=bt j _ _ ir
       rw[hp,fA]at this
       exact cK.go fit hs this
      |ok a'=>
       obtain⟨j,s',hj,h1,h2,h3,h4⟩:=y
       refine⟨k+j+1,s',by omega,by rw[h1,hp,fA];rfl,h2,h3,fun i p2 e hi=> ?_⟩
       have:=bt (j+i) _ _ (h4 i p2 e hi)
       rw[show k+j+1+i=(k+(j+i))+1 by omega]
       exact cK.go fit hs this
  rw[if_neg c2]at hs⊢
  by_cases c3:num ((ax S 0 a).take 48) 0=jl
  ·rw[if_pos c3]at hs⊢
   have vr:=AD x.ki hs
   have Qp:=vr.fit hS
   have nu:=aou (S:=S) (unit:=unit) (s:=s.took {s.u with due:=3} 48) rfl
   have ea:(s.took {s.u with due:=3} 48).A=a+48:=by show s.A+48=_;rw[x.pos]
   have et:(s.took {s.u with due:=3} 48).u.total=t:=x.ut
   rw[ea,et]at nu
   by_cases c4:(ax S 0 (a+48)).length<32
   ·rw[if_pos c4]at nu⊢
    exact⟨2,by omega,by rw[cu];exact cK.go fit hs (cK.stop Qp nu)⟩
   rw[if_neg c4]at nu⊢
   by_cases c5:num ((ax S 0 (a+48)).take 32) 0=t
   ·rw[if_pos c5]at nu⊢
    have Qo:=AD vr nu
    refine⟨2,_,by omega, ?_, ?_,⟨Qo,rfl,x.sk, ?_, ?_, ?_⟩,fun j p2 e hj=> ?_⟩
    ·show s.ps++[(⟨3,0,((s.next:Nat):Int),((s.next+80:Nat):Int),(s.total:Int),0,0,0⟩:Pt)]=_
     rw[x.next,x.st]
    ·rfl
    ·show s.A+48+(32+dq (a+48+32))=_
     rw[x.pos,show a+48+32=a+80 by omega]
     omega
    ·show s.A+48+(32+dq (a+48+32))=_
     rw[x.pos,show a+48+32=a+80 by omega]
     omega
    ·exact aos (ps:=s.ps) rfl rfl
    ·rw[show 2+j=(j+1)+1 by omega]
     exact cK.go fit hs (cK.go Qp nu hj)
   ·rw[if_neg c5]at nu⊢
    exact⟨2,by omega,by rw[cu];exact cK.go fit hs (cK.stop Qp nu)⟩
  rw[if_neg c3]at hs⊢
  exact stop _ hs
end
theorem ab8:∀(q:Nat) (S:List UInt8),(dm S).drop (8*q)=dm (S.drop q)
 |0,S=>rfl
 |q+1,[]=>by simp[dm]
 |q+1,b::s=>by
  have ih:=ab8 q s
  show(b8 b.toNat 8++dm s).drop (8*(q+1))=dm (s.drop q)
  rw[<-ih,show 8*(q+1)=(b8 b.toNat 8).length+8*q by rw[iW];omega,<-ng,List.drop_left]
theorem aow{S:List UInt8}{q:Nat}(h:q<S.length):num ((ax S 0 (8*q)).take 8) 0=(S.getD q 0).toNat:=by
 unfold ax
 rw[Nat.mul_zero,Nat.sub_zero,ab8,vI h,bC,bD h]
 show num ((b8 S[q].toNat 8++dm (S.drop (q+1))).take 8) 0=S[q].toNat
 rw[List.take_left' (iW _ _)]
 exact El (UInt8.toNat_lt _)
def iJ(S:List UInt8):Nat->Nat->Except Int Nat
 |0,a=>if(ax S 0 a).length<8 then .error 24 else if num ((ax S 0 a).take 8) 0<49∨57<num ((ax S 0 a).take 8) 0 then .error 20 else .ok (num ((ax S 0 a).take 8) 0-48)
 |m+1,a=>if(ax S 0 a).length<8 then .error 24 else if num ((ax S 0 a).take 8) 0=l7.getD (2-m) 0 then iJ S m (a+8)else .error 20
def NB(S:List UInt8):Nat:=S.length/6+1
def jB(S:List UInt8)(unit:Nat):Nat->Nat->List Pt×Int
 |0,_=>([],24)
 |N+1,a=>match iJ S 3 a with
  | .error e=>([],e)
  | .ok lv=>match (fc S (lv*unit) (NB S) (a+32) 0).2 with
    | .error e=>(⟨1,(lv:Int),(a:Int),((a+32:Nat):Int),0,0,0,0⟩::(fc S (lv*unit) (NB S) (a+32) 0).1,e)
    | .ok b=>if(ax S 0 (b+dq b)).length=0 then(⟨1,(lv:Int),(a:Int),((a+32:Nat):Int),0,0,0,0⟩::(fc S (lv*unit) (NB S) (a+32) 0).1,0)
      else(⟨1,(lv:Int),(a:Int),((a+32:Nat):Int),0,0,0,0⟩::(fc S (lv*unit) (NB S) (a+32) 0).1++(jB S unit N (b+dq b)).1,(jB S unit N (b+dq b)).2)
section
variable {S:List UInt8} {unit:Nat}
theorem ab9{s:Is}(d0:s.u.due=0)(hm:¬(s.u.may=true∧(ax S 0 s.A).length=0)):j6 S unit s=if(ax S 0 s.A).length<8 then .stop 24
 else if s.u.at_<3 then(if num ((ax S 0 s.A).take 8) 0=l7.getD s.u.at_ 0 then .go ((s.took {s.u with at_:=s.u.at_+1} 8).begun S)else .stop 20)
 else if num ((ax S 0 s.A).take 8) 0<49∨57<num ((ax S 0 s.A).take 8) 0 then .stop 20 else .go ((s.took {s.u with level:=num ((ax S 0 s.A).take 8) 0-48,at_:=0,total:=0,due:=1} 8).begun S):=by
 unfold j6
 rw[if_neg hm]
 unfold xK m4
 rw[if_pos d0]
 unfold E9
 by_cases c1:(ax S 0 s.A).length<8
 ·rw[if_pos c1,if_pos c1];rfl
 rw[if_neg c1,if_neg c1]
 by_cases c2:s.u.at_<3
 ·rw[if_pos c2,if_pos c2]
  by_cases c3:num ((ax S 0 s.A).take 8) 0=l7.getD s.u.at_ 0
  ·rw[if_pos c3,if_pos c3]
   show jO S 0 (s.took _ 8)=_
   unfold jO
   rw[if_neg (by decide),if_neg (by decide)]
  ·rw[if_neg c3,if_neg c3];rfl
 rw[if_neg c2,if_neg c2]
 by_cases c3:num ((ax S 0 s.A).take 8) 0<49∨57<num ((ax S 0 s.A).take 8) 0
 ·rw[if_pos c3,if_pos c3];rfl
 ·rw[if_neg c3,if_neg c3]
  show jO S 0 (s.took _ 8)=_
  unfold jO
  rw[if_neg (by decide),if_neg (by decide)]
def aox(S:List UInt8)(unit K a:Nat)(s:Is):Except Int Nat->Prop
 | .error e=>∃k,k<=K∧cK S unit k s s.ps e
 | .ok lv=>∃k s',k<=K∧Qm S unit (lv*unit) (a+32) 0 s'∧s'.ps=s.ps++[(⟨1,(lv:Int),(a:Int),((a+32:Nat):Int),0,0,0,0⟩:Pt)]∧∀j p2 e,cK S unit j s' p2 e->cK S unit (k+j) s p2 e
theorem aoy(hS:S.length<=1000000){a:Nat}(h8:a %8=0):∀(m:Nat) (s:Is),m<=3->nV S unit s->s.u.due=0->s.u.at_=3-m->s.A=a+8*(3-m)->s.next=a->s.fresh=true->¬(s.u.may=true∧(ax S 0 s.A).length=0)->aox S unit (m+1) a s (iJ S m (a+8*(3-m)))∧(∀lv,iJ S m (a+8*(3-m))= .ok lv->1<=lv∧lv<=9):=by
 intro m
 induction m with
 |zero=>
  intro s yE ki d0 ha hA hx hf hm
  have fit:=ki.fit hS
  have hs:=ab9 (S:=S) (unit:=unit) d0 hm
  have e0:a+8*(3-0)=a+24:=rfl
  rw[e0]at hA⊢
  rw[hA]at hs
  unfold iJ
  by_cases c1:(ax S 0 (a+24)).length<8
  ·rw[if_pos c1]at hs⊢
   exact⟨⟨1,by omega,cK.stop fit hs⟩,fun lv q=>by cases q⟩
  rw[if_neg c1,if_neg (by omega)]at hs
  rw[if_neg c1]
  by_cases c2:num ((ax S 0 (a+24)).take 8) 0<49∨57<num ((ax S 0 (a+24)).take 8) 0
  ·rw[if_pos c2]at hs⊢
   exact⟨⟨1,by omega,cK.stop fit hs⟩,fun lv q=>by cases q⟩
  rw[if_neg c2]at hs⊢
  refine⟨?_,fun lv q=>by cases q;omega⟩
  have hl:=eX S 0 (a+24)
  have bn:=aow (S:=S) (q:=a/8+3) (by omega)
  rw[show 8*(a/8+3)=a+24 by omega]at bn
  have vr:=AD ki hs
  have lv:oP S a=((num ((ax S 0 (a+24)).take 8) 0-48:Nat):Int):=by
   unfold oP
   rw[<-bn]
   have:IntKind.u8.wrap ((num ((ax S 0 (a+24)).take 8) 0:Int)-48)=(num ((ax S 0 (a+24)).take 8) 0:Int)-48:=RI _ (by omega)
   rw[this]
   omega
  have eb:((s.took {s.u with level:=num ((ax S 0 (a+24)).take 8) 0-48,at_:=0,total:=0,due:=1} 8).begun S)={((s.took {s.u with level:=num ((ax S 0 (a+24)).take 8) 0-48,at_:=0,total:=0,due:=1} 8).add ⟨1,oP S s.next,0,0,0,0,0,0⟩ (s.A+8))with total:=0}:=by
   unfold Is.begun
   exact if_pos ⟨hf,by show s.A+8=s.next+32;rw[hA,hx]⟩
  rw[eb]at hs vr
  have hp:({((s.took {s.u with level:=num ((ax S 0 (a+24)).take 8) 0-48,at_:=0,total:=0,due:=1} 8).add ⟨1,oP S s.next,0,0,0,0,0,0⟩ (s.A+8))with total:=0}:Is).ps=s.ps++[(⟨1,((num ((ax S 0 (a+24)).take 8) 0-48:Nat):Int),(a:Int),((a+32:Nat):Int),0,0,0,0⟩:Pt)]:=by
   show s.ps++[(⟨1,oP S s.next,((s.next:Nat):Int),((s.A+8:Nat):Int),0,0,0,0⟩:Pt)]=_
   rw[hx,lv,hA]
  refine⟨1,_,by omega,⟨vr,rfl,rfl,by show s.A+8=_;rw[hA],by show s.A+8=_;rw[hA],rfl,rfl,rfl,ab7 (p:=⟨1,((num ((ax S 0 (a+24)).take 8) 0-48:Nat):Int),(a:Int),((a+32:Nat):Int),0,0,0,0⟩) (by show(1:Int)≠3;decide) hp⟩,hp,fun j p2 e hj=> ?_⟩
  rw[Nat.add_comm]
  exact cK.go fit hs hj
 |succ m ih=>
  intro s yE ki d0 ha hA hx hf hm
  have fit:=ki.fit hS
  have hs:=ab9 (S:=S) (unit:=unit) d0 hm
  have e0:a+8*(3-(m+1))+8=a+8*(3-m):=by omega
  rw[hA,ha]at hs
  unfold iJ
  by_cases c1:(ax S 0 (a+8*(3-(m+1)))).length<8
  ·rw[if_pos c1]at hs⊢
   exact⟨⟨1,by omega,cK.stop fit hs⟩,fun lv q=>by cases q⟩
  rw[if_neg c1,if_pos (by omega)]at hs
  rw[if_neg c1]
  rw[show 2-m=3-(m+1) by omega]
  by_cases c2:num ((ax S 0 (a+8*(3-(m+1)))).take 8) 0=l7.getD (3-(m+1)) 0
  ·rw[if_pos c2]at hs⊢
   rw[e0]
   have eb:(s.took {s.u with at_:=3-(m+1)+1} 8).begun S=s.took {s.u with at_:=3-(m+1)+1} 8:=by
    unfold Is.begun
    refine if_neg fun q=> ?_
    have q2:s.A+8=s.next+32:=q.2
    rw[hA,hx]at q2
    omega
   rw[eb]at hs
   have vr:=AD ki hs
   obtain⟨y1,y2⟩:=ih (s.took {s.u with at_:=3-(m+1)+1} 8) (by omega) vr d0 (by show 3-(m+1)+1=3-m;omega) (by show s.A+8=_;rw[hA,e0]) hx hf (by
    intro q
    have q1:=q.1
    unfold Us.may at q1
    simp only[cj,decide_eq_true_eq]at q1
    have q3:3-(m+1)+1=0:=q1.2
    omega)
   refine⟨?_,y2⟩
   cases er:iJ S m (a+8*(3-m))with
   |error e1=>
    rw[er]at y1
    obtain⟨k,hk,ir⟩:=y1
    exact⟨k+1,by omega,cK.go fit hs ir⟩
   |ok lv=>
    rw[er]at y1
    obtain⟨k,s',hk,h1,h2,h3⟩:=y1
    refine⟨k+1,s',by omega,h1,h2,fun j p2 e hj=> ?_⟩
    rw[show k+1+j=(k+j)+1 by omega]
    exact cK.go fit hs (h3 j p2 e hj)
  ·rw[if_neg c2]at hs⊢
   exact⟨⟨1,by omega,cK.stop fit hs⟩,fun lv q=>by cases q⟩
end
section
variable {S:List UInt8} {unit:Nat}
theorem Qq{room:Nat}:∀(N a t:Nat) {b:Nat},(fc S room N a t).2= .ok b->a+80<=b:=by
 intro N
 induction N with
 |zero=>intro a t b h;cases h
 |succ N ih=>
  intro a t b h
  unfold fc at h
  split at h
  ·cases h
  ·split at h
   ·split at h
    ·cases h
    ·cases h
    ·split at h
     ·cases h
     ·have:=ih _ _ h
      omega
   ·split at h
    ·split at h
     ·cases h
     ·split at h
      ·cases h
       omega
      ·cases h
    ·cases h
def KS(S:List UInt8)(unit:Nat):Nat:=NB S*(8*S.length+9*unit+6)+8
theorem aoz(hS:S.length<=1000000)(hu:unit<=100000):∀(N a:Nat) (s:Is),a %8=0->(ax S 0 a).length<8*N->Qn S unit a s->¬(s.u.may=true∧(ax S 0 s.A).length=0)->∃k,k<=N*KS S unit∧cK S unit k s (s.ps++(jB S unit N a).1) (jB S unit N a).2:=by
 intro N
 induction N with
 |zero=>intro a s h8 h;omega
 |succ N ih=>
  intro a s h8 hN x hm
  have hK:(N+1)*KS S unit=N*KS S unit+KS S unit:=FL _ _
  have hK8:8<=KS S unit:=by unfold KS;omega
  have bg:=aoy (unit:=unit) hS h8 3 s (an _) x.ki x.due (by rw[x.sk]) (by rw[x.pos];rfl) x.next x.fr hm
  rw[show a+8*(3-3)=a by omega]at bg
  obtain⟨b1,b2⟩:=bg
  unfold jB
  cases e:iJ S 3 a with
  |error e0=>
   rw[e]at b1
   obtain⟨k,hk,ir⟩:=b1
   exact⟨k,by omega,by rw[cu];exact ir⟩
  |ok lv=>
   rw[e]at b1
   obtain⟨k,s1,hk,x1,yw,c1⟩:=b1
   obtain⟨lv1,xI⟩:=b2 lv e
   have rm:lv*unit<=9*unit:=xY _ xI
   have hi1:=x1.ki.hi
   have M':=eX S 0 (a+32)
   have hnb:(ax S 0 (a+32)).length<48*NB S:=by unfold NB;omega
   have y:=aov (unit:=unit) (room:=lv*unit) hS (by omega) (NB S) (a+32) 0 s1 hnb x1
   have hkb:NB S*(8*S.length+lv*unit+6)+8<=KS S unit:=by
    unfold KS
    have:=Kv (NB S) (show 8*S.length+lv*unit+6<=8*S.length+9*unit+6 by omega)
    omega
   dsimp only
   cases er:fc S (lv*unit) (NB S) (a+32) 0 with
   |mk ps r=>
    rw[er]at y
    dsimp only
    cases r with
    |error e0=>
     obtain⟨j,hj,ir⟩:=y
     refine⟨k+j,by omega, ?_⟩
     have:=c1 j _ _ ir
     rw[yw,fA]at this
     exact this
    |ok b=>
     obtain⟨j,s2,hj,h1,h2,h3,h4⟩:=y
     dsimp only
     by_cases c2:(ax S 0 (b+dq b)).length=0
     ·rw[if_pos c2]
      have dT:j6 S unit s2= .stop 0:=by
       unfold j6
       rw[if_pos]
       refine⟨?_,by rw[h3.pos];exact c2⟩
       unfold Us.may
       rw[h2,h3.due,h3.sk]
       rfl
      have ir:=cK.stop (h3.ki.fit hS) dT
      refine⟨k+(j+1),by omega, ?_⟩
      have:=c1 _ _ _ (h4 _ _ _ ir)
      rw[h1,yw,fA]at this
      exact this
     ·rw[if_neg c2]
      have kt:=(Ql b).2
      have mP:(ax S 0 (b+dq b)).length<8*N:=by
       have q1:=eX S 0 (b+dq b)
       have q2:=eX S 0 a
       have q3:a+40<=b+dq b:=by
        have:=Qq (NB S) (a+32) 0 (congrArg Prod.snd er)
        omega
       omega
      obtain⟨i,hi,ir⟩:=ih (b+dq b) s2 kt mP h3 (fun q=>c2 (by rw[<-h3.pos];exact q.2))
      refine⟨k+(j+i),by omega, ?_⟩
      have:=c1 _ _ _ (h4 _ _ _ ir)
      rw[h1,yw,fA,fA]at this
      rw[ar6]
      exact this
theorem aoA(h1:24<=unit)(h2:unit<=100000):Qn S unit 0 Fo:=
 ⟨⟨⟨⟨by decide,by decide,fun q=>absurd rfl q,by decide,fun q=>(by cases q),fun _=>rfl,by decide,h1,h2⟩,fun b hb=>(by cases hb)⟩,by decide,an _,an _,fun q=>absurd q (by decide),aR _⟩,rfl,rfl,rfl,rfl,rfl⟩
theorem aoB(hS:S.length<=1000000)(h1:24<=unit)(h2:unit<=100000):∃k,k<=(S.length+1)*KS S unit∧cK S unit k Fo (jB S unit (S.length+1) 0).1 (jB S unit (S.length+1) 0).2:=by
 have hl:=eX S 0 0
 exact aoz hS h2 (S.length+1) 0 Fo rfl (by omega) (aoA h1 h2) (fun q=>by cases q.1)
theorem aoC{lf d n:Nat}{h:H}(h1:24<=unit)(h2:unit<=1000)(aC:300000000<=lf)(hS:S.length<=250):ai (fun _=>False) n (au ah gt lf (d+17) 13 #[.int .i64 (unit:Int),.string ⟨S.toArray⟩]) h n (Qd (jB S unit (S.length+1) 0).1 (jB S unit (S.length+1) 0).2):=by
 obtain⟨k,hk,ir⟩:=aoB (S:=S) (by omega) h1 (by omega:unit<=100000)
 refine aof h1 (by omega) aC (by omega) ir (lM hk ?_)
 have a1:NB S<=42:=by unfold NB;omega
 have a2:NB S*(8*S.length+9*unit+6)<=42*11006:=CQ a1 (by omega)
 have a3:KS S unit<=462260:=by unfold KS;omega
 have a4:(S.length+1)*KS S unit<=251*462260:=CQ (by omega) a3
 omega
end
end Go.Proofs.YtmjolmggelkjlaaGreat
namespace Go.Proofs.YtmjolmggelkjlaaGreat.Ev
open Go Go.RowKit
section
variable {β:Type} {W:Nat->Prop} {n0:Nat} {h h1:H} {n n1:Nat} {Q:β->H->Nat->Prop} {kn:List FuncId}
theorem ab'{P:Program}(hd:lW P=true){gt:Nat->Hint}{lf d:Nat}{f:FuncId}{args:Array Value}{v:Value}{L:List En}(e:ik kn P gt lf d f args h n=some ⟨v,h1,n1,L⟩){W':Nat->Prop}(hw:∀e∈L,e.wr=true->n<=e.b∨W' e.b):∀b,b<n->¬W' b->h1.get b=h.get b:=by
 obtain⟨f0,e0⟩:=DH hd d f args h n v h1 n1 L e
 have A:=Loc.cZ P kn f0 f args h n v h1 n1 L (e0 f0 (an _))
 intro b hb hn
 refine FY fun k=>A.frame b k ?_ (by omega)
 rintro⟨e,he,h2,h3,_⟩
 rcases hw e he h2 with q|q
 ·omega
 ·exact hn (h3▸q)
theorem ab_ {P:Program} (hd:lW P=true) {gt:Nat->Hint} {lf d:Nat} {f:FuncId} {vs:List Value} {W':Nat->Prop} {Q':Value->H->Nat->Prop} (s:ai W' n (ik kn P gt lf d f ⟨vs⟩) h n Q') (hn:n0<=n) (hW:∀b,b<n->W' b->n0<=b∨W b) {k:Value->M β}
 (x:∀v h1 n1,n<=n1->(∀b,b<n->¬W' b->h1.get b=h.get b)->Q' v h1 n1->ai W n0 (k v) h1 n1 Q):ai W n0 (ay (ik kn P gt lf d) f vs k) h n Q:=by
 obtain⟨v,h1,n1,L,e1,e2,e3,e4⟩:=s
 refine jx (m:=ik kn P gt lf d f ⟨vs⟩) (ai.step (jU e1) e2 (fun e he jR=> ?_) (x v h1 n1 e2 (ab' hd e1 e3) e4))
 have hL:=(List.mem_filter.1 he).1
 rcases e3 e hL jR with q|q
 ·exact .inl (by omega)
 ·by_cases bM:e.b<n
  ·exact hW _ bM q
  ·exact .inl (by omega)
theorem CD {P:Program} (hd:lW P=true) {gt:Nat->Hint} {lf d:Nat} {f:FuncId} {vs:List Value} {Q':Value->H->Nat->Prop} (s:ai (fun _=>False) n (ik kn P gt lf d f ⟨vs⟩) h n Q') {k:Value×Tk->M β}
 (x:∀v h1 n1 L,n<=n1->(∀b,b<n->h1.get b=h.get b)->Q' v h1 n1->RB ⟨n,n1,L⟩ n->ai W n0 (k (v,⟨n,n1,L⟩)) h1 n1 Q):ai W n0 ((aG (ay (ik kn P gt lf d) f vs M.ret)).bind k) h n Q:=by
 obtain⟨v,h1,n1,L,e1,e2,e3,e4⟩:=s
 obtain⟨f0,e0⟩:=DH hd d f ⟨vs⟩ h n v h1 n1 L e1
 have A:=Loc.cZ P kn f0 f ⟨vs⟩ h n v h1 n1 L (e0 f0 (an _))
 have bM:∀e∈L.filter (fun e=> !(decide (n<=e.b)&&decide (e.b<n1))),e.b<n:=fun e he=>by
  obtain⟨h1,h2⟩:=List.mem_filter.1 he
  have:=A.lt e h1
  simp at h2
  omega
 have jR:∀e∈L.filter (fun e=> !(decide (n<=e.b)&&decide (e.b<n1))),e.wr=false:=fun e he=>by
  cases hq:e.wr with
  |false=>rfl
  |true=>
   rcases e3 e (List.mem_filter.1 he).1 hq with q|q
   ·have:=bM e he;omega
   ·exact q.elim
 refine oH (qz e1) e2 (fun e he hw=> ?_) (x v h1 n1 _ e2 (fun b hb=>ab' (W':=fun _=>False) hd e1 e3 b hb id) e4 ⟨jR,bM,an _⟩)
 rw[jR e he]at hw
 cases hw
theorem aoD{b:Nat}{e:TypeId}{x:Nat}(hg:h.get b=some ⟨e,true,[.int .u8 (x:Int)]⟩)(hb:b<n)(cp:Nat):∃L,lU (.slice (some ⟨b,0,none⟩) 1 cp) M.ret h n=some ⟨.string ⟨(bS [x]).toArray⟩,h,n,L⟩∧(∀e∈L,e.wr=false)∧∀e∈L,e.b=b:=by
 have e1:jv b 0 1 h n=some ⟨[.int .u8 (x:Int)],h,n,[⟨false,b,some 0⟩]⟩:=by
  rw[pr]
  have e0:rd b 0 h n=some ⟨.int .u8 (x:Int),h,n,[⟨false,b,some 0⟩]⟩:=by
   unfold rd
   simp only[hb,hg,if_true]
   rfl
  unfold cU
  have:=bZ (f:=fun v=>(cU b (0+1) 0).bind fun vs=>M.ret (v::vs)) e0 (L2:=[]) (b:=[.int .u8 (x:Int)]) (h2:=h) (n2:=n) rfl
  simpa using this
 have e2:((jv b 0 1).bind fun vs=>match mw vs with
  |some l=>M.ret (aV ⟨⟨l⟩⟩)
  |none=>M.fail) h n=some ⟨aV ⟨(bS [x]).toArray⟩,h,n,[⟨false,b,some 0⟩]++[]⟩:=by
  refine bZ e1 ?_
  have:mw (cO [x])=some (bS [x]):=ID [x]
  show(match mw (cO [x])with
   |some l=>M.ret (aV ⟨⟨l⟩⟩)
   |none=>M.fail) h n=_
  rw[this]
  rfl
 have hf:([(⟨false,b,some 0⟩:En)]++[]).filter (fun e:En=> !(decide (n<=e.b)&&decide (e.b<n)))=[⟨false,b,some 0⟩]:=by
  simp;omega
 refine⟨[⟨false,b,some 0⟩], ?_,by simp,by simp⟩
 have e3:=qz e2
 rw[hf]at e3
 exact e3
theorem aoE{a b:Tk}(h1:∀e∈a.log,e.wr=false)(h2:∀e∈b.log,e.wr=false)(h3:∀e∈a.log,e.b<b.n)(h4:∀e∈b.log,a.n1<=e.b):cT a b=false:=by
 rw[Br]
 unfold Tk.cA
 simp only[Bool.or_eq_false_iff,List.any_eq_false,cj,decide_eq_true_eq,not_and]
 refine⟨⟨⟨fun x hx hw=> ?_,fun x hx hw=> ?_⟩,fun x hx hle=> ?_⟩,fun x hx _=> ?_⟩
 ·rw[h1 x hx]at hw;cases hw
 ·rw[h2 x hx]at hw;cases hw
 ·have:=h3 x hx;omega
 ·have:=h4 x hx;omega
end
end Go.Proofs.YtmjolmggelkjlaaGreat.Ev
namespace Go.Proofs.YtmjolmggelkjlaaGreat
open Go.RowKit Ev Ip
theorem JL{kn:List FuncId}{lf d:Nat}{f:FuncId}{a:Array Value}{b:RT->M Value}(s:∀r,aE ah gt lf r f a=b r)(h:kn.contains f=false):ik kn ah gt lf (d+1) f a=b (ik kn ah gt lf d):=by
 show(match kn.contains f with
  |true=>_
  |false=>aE ah gt lf (ik kn ah gt lf d) f a:M Value)=_
 rw[h]
 exact s _
structure KOk (kn:List FuncId):Prop where
 dg:kn.contains 107=false
 wd:kn.contains 67=false
 ln:kn.contains 19=false
 hx:kn.contains 68=true
theorem aoF(x:Nat):(x:Int).tdiv 10=((x/10:Nat):Int):=rfl
theorem aoG(x:Nat):(x:Int).tmod 10=((x %10:Nat):Int):=rfl
theorem u8d{m:Nat}(h:m<10):IntKind.u8.wrap (48+(m:Int))=((48+m:Nat):Int):=by
 have:IntKind.u8.wrap ((48+m:Nat):Int)=((48+m:Nat):Int):=RI _ (by omega)
 rwa[Int.natCast_add]at this
def oQ(k x:Nat):List Nat:=(vK k x).map (48+·)
theorem JM:∀(k n:Nat),(vK k n).length<=k
 |0,_=>an _
 |k+1,n=>by
  unfold vK
  by_cases h1:n<10
  ·rw[if_pos h1];simp
  ·rw[if_neg h1]
   have:=JM k (n/10)
   simp;omega
theorem aca(a b:List Nat):bS (a++b)=bS a++bS b:=by unfold bS;rw[qb]
theorem oR(a b:List Nat)(h:a.length+b.length<=9223372036854775807)(K:Value->M Value):aA (aF a) (aF b) K=K (aF (a++b)):=by
 have:=y6 (k:=K) (bS a) (bS b) (by unfold bS;simpa using h)
 rw[<-aca]at this
 exact this
theorem aoH(k x:Nat):(oQ k x).length<=k:=by unfold oQ;rw[dL];exact JM k x
section
variable {kn:List FuncId} (ko:KOk kn) (lf:Nat)
include ko
theorem acb(d n:Nat)(h:H){x:Nat}(hx:x<10):ai (fun _=>False) n (ik kn ah gt lf (d+1) 107 #[.int .i64 (x:Int)]) h n fun v h' n'=>v= .string ⟨(bS [48+x]).toArray⟩:=by
 rw[JL (fun _=>W4) ko.dg]
 refine ai.aH ?_
 unfold NK
 have e1:=u8d (m:=x) hx
 have c1:(x:Int)<10:=by omega
 have c2:¬((x:Int)<0):=by omega
 try simp(disch:=first|omega|assumption) only[af,aa,RZ,c1,c2,e1]
 refine DN trivial (mV _ _) _ ?_
 refine IE (ws:=[48+x]) (get_eq _ _ _) (gh _) (by simp) rfl _ ?_
 try simp(disch:=first|omega|assumption) only[af,aa,RZ]
theorem aoI(d:Nat):∀(k x n:Nat) (h:H),x<10^(k+1)->x<=9223372036854775807->k<100->ai (fun _=>False) n (ik kn ah gt lf (d+(k+1)) 107 #[.int .i64 (x:Int)]) h n fun v h' n'=>v= .string ⟨(bS (oQ (k+1) x)).toArray⟩:=by
 intro k
 induction k with
 |zero=>
  intro x n h hx ee _
  have hx:x<10:=by simpa using hx
  have:=acb ko lf d n h hx
  unfold oQ vK
  rw[if_pos hx]
  exact this
 |succ k ih=>
  intro x n h hx ee hk
  by_cases oL:x<10
  ·have:=acb ko lf (d+(k+1)) n h oL
   unfold oQ vK
   rw[if_pos oL]
   exact this
  ·have pM:¬((x:Int)<10):=by omega
   unfold oQ vK
   rw[if_neg oL]
   show ai (fun _=>False) n (ik kn ah gt lf (d+(k+1)+1) 107 #[.int .i64 (x:Int)]) h n _
   rw[JL (fun _=>W4) ko.dg]
   refine ai.aH ?_
   unfold NK
   have e1:=u8d (m:=x %10) (by omega)
   try simp(disch:=first|omega|assumption) only[af,aa,RZ,pM,aoF]
   refine CD aK (ih (x/10) n h (by rw[pX]at hx;omega) (by omega) (by omega)) ?_
   rintro v h1 n1 L hn fr rfl hL
   try simp(disch:=first|omega|assumption) only[af,aa,RZ,aoG,e1]
   refine OO _ _ hn fun T1 t1=> ?_
   refine oH (qz (pD 5 [dG .u8 ((48+x %10:Nat):Int)] (fun id=>kf (some ⟨id,0,none⟩) 1 1) h1 n1)) (iP n1) (by simp) ?_
   obtain⟨L2,k1,k2,k3⟩:=aoD (n:=n1+1) (get_eq h1 n1 (some ⟨5,true,[dG .u8 ((48+x %10:Nat):Int)]⟩)) (by omega) 1
   refine oH k1 (an _) (fun e he hw=>by rw[k2 e he]at hw;cases hw) ?_
   have ad:=fun(K:Value->M Value)=>y6 (k:=K) (bS (oQ (k+1) (x/10))) (bS [48+x %10]) (by
    have:=JM (k+1) (x/10)
    unfold bS oQ
    simp
    omega)
   have c1:=hL.cA t1
   have c2:cT ⟨n,n1,L⟩ ⟨n1,n1+1,[]⟩=false:=hL.cA ⟨by simp,by simp,hn⟩
   have c3:cT ⟨n,n1,L⟩ ⟨n1+1,n1+1,L2⟩=false:=aoE hL.wr k2 (fun e he=>by have:=hL.lt e he;show e.b<n1+1;omega) (fun e he=>by rw[k3 e he];exact an _)
   try simp(disch:=first|omega|assumption) only[af,aa,RZ,ad,c1,c2,c3,List.filter_nil,cP,fR,eh]
   rw[<-aca]
   simp[oQ]
theorem acd(d n:Nat)(h:H){x:Int}(h0:0<=x)(h1:x<4294967296):ai (fun _=>False) n (ik kn ah gt lf (d+1) 68 #[.int .u32 x]) h n fun v h' n'=>v=aF (js x.toNat)∧h'=h∧n'=n:=by
 have e:ik kn ah gt lf (d+1) 68 #[.int .u32 x]=M.ret (aF (js x.toNat)):=by
  unfold ik
  rw[ko.hx]
  have hN:CY [.int .u32 x]=some (aF (js x.toNat)):=if_pos ⟨h0,h1⟩
  show M.lift (CY [.int .u32 x])=_
  rw[hN]
  rfl
 rw[e]
 exact(qy _).2 ⟨rfl,rfl,rfl⟩
theorem aoJ(d n0:Nat){a0:Value}:∀(xs:List Int) (m i fu n:Nat) (h:H) (s:List Nat) (v b:Value) (ys:List Int),Row h n 3 .i64 v ys->ys.drop i=xs->xs.length=m->m<fu->(∀x∈ys,0<=x∧x<=9223372036854775807)->ys.length<=10->s.length+30*m<=1000000->i<=ys.length->n0<=n->
 ai (fun _=>False) n0 (zC lf (ik kn ah gt lf (d+19)) fu (HK lf (ik kn ah gt lf (d+19))) (aF s) b a0 v (.int .i64 (ys.length:Int)) (.int .i64 (i:Int))) h n fun v' h' n'=>v'=aF (qT s xs):=by
 intro xs
 induction xs with
 |nil=>
  intro m i fu n h s v b ys hR hd hm hf hx hl hs hi qn
  obtain⟨fu,rfl⟩:∃f,fu=f+1:=⟨fu-1,by omega⟩
  have:i=ys.length:=by
   have:=congrArg yc hd
   simp at this
   omega
  subst this
  rw[zC]
  try simp(disch:=first|omega|assumption) only[af,aa,RZ,fg]
  unfold HK
  try simp(disch:=first|omega|assumption) only[af,aa,RZ]
  rfl
 |cons x xs ih=>
  intro m i fu n h s v b ys hR hd hm hf hx hl hs hi qn
  obtain⟨fu,rfl⟩:∃f,fu=f+1:=⟨fu-1,by simp at hm;omega⟩
  have bM:i<ys.length:=by
   have:=congrArg yc hd
   simp at this
   omega
  have nH:ys[i]=x:=by
   have:=congrArg (·[0]?) hd
   simp at this
   rw[bD bM]at this
   simpa using this
  have hb:=hx x (by rw[<-nH];exact eu _)
  obtain⟨y,rfl⟩:∃y:Nat,x=y:=⟨x.toNat,by omega⟩
  obtain⟨bb,off,cap,o,ks,rfl,hg,lR,_,_,_,gQ⟩:=hR.some (by omega)
  have a1:=gQ i bM
  have e0:ys.getD i 0=(y:Int):=by rw[bC,bD bM,nH];rfl
  rw[e0]at a1
  have e1:((i:Nat):Int)<((ys.length:Nat):Int):=by omega
  have l1:=aoH 19 y
  have w1:((i:Nat):Int)+1=((i+1:Nat):Int):=rfl
  simp only[dp]at hm
  rw[zC]
  try simp(disch:=first|omega|assumption) only[af,aa,RZ,e1,hg,a1]
  refine ab_ aK (aoI ko lf d 18 y n h (by omega) (by omega) (by omega)) qn (fun _ _ h=>h.elim) ?_
  rintro v1 h1 n1 aM fr rfl
  have ad1:=fun K=>oR [32] (oQ 19 y) (by simp;omega) K
  have ad2:=fun K=>oR s (32::oQ 19 y) (by simp;omega) K
  show ai (fun _=>False) n0 (aA (aF [32]) (aF (oQ 19 y)) _) h1 n1 _
  rw[ad1]
  show ai (fun _=>False) n0 (aA (aF s) (aF (32::oQ 19 y)) _) h1 n1 _
  rw[ad2]
  try simp(disch:=first|omega|assumption) only[af,aa,RZ]
  rw[w1]
  have pH:=hR.aB aM fun b hb=>fr b hb id
  exact ih (m-1) (i+1) fu n1 h1 (s++32::oQ 19 y) _ b ys pH (by rw[<-List.tail_drop,hd];rfl) (by omega) (by omega) hx hl (by simp;omega) (by omega) (by omega)
theorem Qr(d n:Nat)(h:H)(s:List Nat)(v:Value)(ys:List Int)(hR:Row h n 3 .i64 v ys)(hx:∀x∈ys,0<=x∧x<=9223372036854775807)(hl:ys.length<=10)(hs:s.length<=1000)(aC:100<=lf):ai (fun _=>False) n (ik kn ah gt lf (d+20) 67 #[aF s,v]) h n fun v' h' n'=>v'=aF (qT s ys):=by
 rw[JL (fun _=>aht) ko.wd]
 refine ai.aH ?_
 unfold Nw
 obtain⟨a,c,rfl⟩:=hR.len
 try simp(disch:=first|omega|assumption) only[af,aa,RZ]
 exact aoJ ko lf d n ys ys.length 0 lf n h s _ _ ys hR (by simp) rfl (by omega) hx hl (by omega) (by omega) (an _)
omit ko in
theorem aoK{W:Nat->Prop}{n0 n:Nat}{h:H}{Q:Value->H->Nat->Prop}{e len:Nat}{z:List Value}{ps:List (Nat×Nat×Value)}{cs:List Value}(hf:fU z ps=some cs)(k:Value->M Value)(x:ai W n0 (k (.slice (some ⟨n,0,none⟩) len len)) (h.set n (some ⟨e,true,cs⟩)) (n+1) Q):ai W n0 (oE e z len ps k) h n Q:=by
 unfold oE
 rw[hf]
 exact jx (rJ (pD _ _ (fun id=>kf (some ⟨id,0,none⟩) len len) _ _) (iP n) x)
omit ko in
theorem ace{W:Nat->Prop}{n0 n m:Nat}{h:H}{Q:Value->H->Nat->Prop}{e len:Nat}{z:List Value}{ps:List (Nat×Nat×Value)}{cs:List Value}(hf:fU z ps=some cs)(hm:m<=n)(k:Value×Tk->M Value)(x:∀T,RB T m->ai W n0 (k (.slice (some ⟨n,0,none⟩) len len,T)) (h.set n (some ⟨e,true,cs⟩)) (n+1) Q):ai W n0 ((aG (oE e z len ps M.ret)).bind k) h n Q:=by
 have e1:oE e z len ps M.ret=eW ((kF e cs).bind fun id=>M.ret (kf (some ⟨id,0,none⟩) len len)) M.ret:=by
  unfold oE
  rw[hf]
 rw[e1]
 exact oH (qz (pD _ _ (fun id=>kf (some ⟨id,0,none⟩) len len) _ _)) (iP n) (by simp) (x _ ⟨by simp,by simp,hm⟩)
omit ko in
theorem Fs(a b c d e f:Int)(k:Value->M Value):DD (.int .i64 a) (.int .i64 b) (.int .i64 c) (.int .i64 d) (.int .i64 e) (.int .i64 f) k=k (.int .i64 (kC (kC (kC (kC (kC a b) c) d) e) f)):=by
 have st:∀(x y:Int) (k:Value->M Value),nD (.int .i64 x) (.int .i64 y) k=k (.int .i64 (kC x y)):=fun x y k=>by
  unfold nD kC
  simp only[sY]
  by_cases h:y<x<;>simp[h]
 unfold DD
 simp only[st]
omit ko in
theorem acf(p:Pt):(kC (kC (kC (kC (kC p.level p.aO) p.dQ) p.lP) p.last) p.len<0)↔p.small=true:=by
 unfold kC Pt.small
 simp only[pY,decide_eq_true_eq]
 repeat' split
 all_goals omega
omit ko in
theorem Qs{h:H}{n:Nat}{k:Nat}(xs:List Int)(hk:xs.length=k)(h0:0<k):Row (h.set n (some ⟨3,true,aS .i64 xs⟩)) (n+1) 3 .i64 (.slice (some ⟨n,0,none⟩) k k) xs:=by
 subst hk
 refine .inr ⟨n,0,xs.length,true,aS .i64 xs,rfl,get_eq _ _ _,by omega,by rw[eJ];omega, ?_,an _⟩
 rw[List.drop_zero,<-eJ (k:= .i64) (xs:=xs),mh]
omit ko in
theorem aoL{p:Pt}(h:p.ok=true)(hs:¬p.small=true):(0<=p.level∧p.level<=9223372036854775807)∧(0<=p.aO∧p.aO<=9223372036854775807)∧(0<=p.dQ∧p.dQ<=9223372036854775807)∧(0<=p.lP∧p.lP<=9223372036854775807)∧(0<=p.last∧p.last<=9223372036854775807)∧(0<=p.len∧p.len<=9223372036854775807):=by
 unfold Pt.ok vL at h
 unfold Pt.small at hs
 simp only[cj,pY,decide_eq_true_eq]at h hs
 omega
set_option maxHeartbeats 1000000 in
theorem aoM(d n:Nat)(h:H)(p:Pt)(hp:p.ok=true)(aC:100<=lf):ai (fun _=>False) n (ik kn ah gt lf (d+21) 19 #[.agg p.cells.toArray]) h n fun v' h' n'=>v'=sG (jD p):=by
 rw[JL (fun _=>ahf) ko.ln]
 refine ai.aH ?_
 unfold V6
 refine jH trivial _ _ ?_
 obtain⟨h2,iV⟩:∃h2,h.set n (some ⟨33,true,(mf p.cells.toArray).cells.toList⟩)=h2:=⟨_,rfl⟩
 have g2:h2.get n=some ⟨33,true,[.int .i64 p.what,.int .i64 p.level,.int .i64 p.aO,.int .i64 p.dQ,.int .u32 p.sum,.int .i64 p.lP,.int .i64 p.last,.int .i64 p.len]⟩:=by rw[<-iV,get_eq];rfl
 rw[iV]
 have pJ:n<n+1:=by omega
 by_cases hs:p.small=true
 ·have c0:=(acf p).2 hs
  have e0:jD p=none:=by unfold jD;rw[if_pos hs]
  try simp(disch:=first|omega|assumption) only[af,aa,RZ,g2,Fs,c0]
  rw[e0]
  rfl
 have c0:¬_<_:=fun q=>hs ((acf p).1 q)
 obtain⟨b1,b2,b3,b4,b5,b6⟩:=aoL hp hs
 by_cases w1:p.what=1
 ·have z1:(p.what==1)=true:=by rw[w1];rfl
  have e0:jD p=some (qT CX [p.level,p.aO,p.dQ]):=by unfold jD;rw[if_neg hs,if_pos w1]
  try simp(disch:=first|omega|assumption) only[af,aa,RZ,g2,Fs,c0,z1]
  refine aoK (cs:=aS .i64 [p.level,p.aO,p.dQ]) rfl _ ?_
  refine ab_ aK (Qr ko lf d (n+1+1) _ CX _ _ (Qs [p.level,p.aO,p.dQ] rfl (by simp)) (by intro x hx;simp at hx;omega) (by simp) (by decide) aC) (by omega) (fun _ _ h=>h.elim) ?_
  rintro v1 h1 n1 aM fr rfl
  try simp(disch:=first|omega|assumption) only[af,aa,RZ]
  rw[e0]
  rfl
 have n1:(p.what==1)=false:=beq_eq_false_iff_ne.2 w1
 have sm:0<=p.sum∧p.sum<4294967296:=by
  unfold Pt.ok at hp
  simp only[cj,decide_eq_true_eq]at hp
  omega
 have AE:(js p.sum.toNat).length=8:=by unfold js;simp
 by_cases w2:p.what=2
 ·have z2:(p.what==2)=true:=by rw[w2];rfl
  have e0:jD p=some (qT (yd++js p.sum.toNat) [p.lP,p.last,p.len,p.aO,p.dQ]):=by unfold jD;rw[if_neg hs,if_neg w1,if_pos w2]
  have ad:=fun K=>oR yd (js p.sum.toNat) (by rw[AE];decide) K
  try simp(disch:=first|omega|assumption) only[af,aa,RZ,g2,Fs,c0,n1,z2]
  refine gZ trivial _ _ _ g2 pJ (an _) rfl fun T0 t0=> ?_
  refine CD aK (acd ko lf (d+19) (n+1) h2 sm.1 sm.2) ?_
  rintro v1 h1 qY L1 aM fr ⟨rfl,rfl,rfl⟩ r1
  show ai (fun _=>False) n (aA (aF yd) (aF (js p.sum.toNat)) _) _ _ _
  rw[ad]
  try simp(disch:=first|omega|assumption) only[af,aa,RZ]
  refine gZ trivial _ _ _ g2 pJ aM rfl fun T1 t1=> ?_
  try simp(disch:=first|omega|assumption) only[af,aa,RZ]
  refine gZ trivial _ _ _ g2 pJ aM rfl fun T2 t2=> ?_
  try simp(disch:=first|omega|assumption) only[af,aa,RZ]
  refine gZ trivial _ _ _ g2 pJ aM rfl fun T3 t3=> ?_
  try simp(disch:=first|omega|assumption) only[af,aa,RZ]
  refine gZ trivial _ _ _ g2 pJ aM rfl fun T4 t4=> ?_
  try simp(disch:=first|omega|assumption) only[af,aa,RZ]
  refine gZ trivial _ _ _ g2 pJ aM rfl fun T5 t5=> ?_
  try simp(disch:=first|omega|assumption) only[af,aa,RZ]
  refine ace (cs:=aS .i64 [p.lP,p.last,p.len,p.aO,p.dQ]) rfl aM _ fun T6 t6=> ?_
  refine CD aK (Qr ko lf d _ _ (yd++js p.sum.toNat) _ _ (Qs [p.lP,p.last,p.len,p.aO,p.dQ] rfl (by simp)) (by intro x hx;simp at hx;omega) (by simp) (by rw[bX,AE];decide) aC) ?_
  rintro v2 h3 n3 L2 fw dK rfl r2
  try simp(disch:=first|omega|assumption) only[af,aa,RZ,r1.cA t1,r1.cA t2,r1.cA t3,r1.cA t4,r1.cA t5,r1.cA t6,cP,fR,eh]
  rw[e0]
  rfl
 have n2:(p.what==2)=false:=beq_eq_false_iff_ne.2 w2
 by_cases w3:p.what=3
 ·have z3:(p.what==3)=true:=by rw[w3];rfl
  have e0:jD p=some (qT (ye++js p.sum.toNat) [p.aO,p.dQ]):=by unfold jD;rw[if_neg hs,if_neg w1,if_neg w2,if_pos w3]
  have ad:=fun K=>oR ye (js p.sum.toNat) (by rw[AE];decide) K
  try simp(disch:=first|omega|assumption) only[af,aa,RZ,g2,Fs,c0,n1,n2,z3]
  refine gZ trivial _ _ _ g2 pJ (an _) rfl fun T0 t0=> ?_
  refine CD aK (acd ko lf (d+19) (n+1) h2 sm.1 sm.2) ?_
  rintro v1 h1 qY L1 aM fr ⟨rfl,rfl,rfl⟩ r1
  show ai (fun _=>False) n (aA (aF ye) (aF (js p.sum.toNat)) _) _ _ _
  rw[ad]
  try simp(disch:=first|omega|assumption) only[af,aa,RZ]
  refine gZ trivial _ _ _ g2 pJ aM rfl fun T1 t1=> ?_
  try simp(disch:=first|omega|assumption) only[af,aa,RZ]
  refine gZ trivial _ _ _ g2 pJ aM rfl fun T2 t2=> ?_
  try simp(disch:=first|omega|assumption) only[af,aa,RZ]
  refine ace (cs:=aS .i64 [p.aO,p.dQ]) rfl aM _ fun T6 t6=> ?_
  refine CD aK (Qr ko lf d _ _ (ye++js p.sum.toNat) _ _ (Qs [p.aO,p.dQ] rfl (by simp)) (by intro x hx;simp at hx;omega) (by simp) (by rw[bX,AE];decide) aC) ?_
  rintro v2 h3 n3 L2 fw dK rfl r2
  try simp(disch:=first|omega|assumption) only[af,aa,RZ,r1.cA t1,r1.cA t2,r1.cA t6,cP,fR,eh]
  rw[e0]
  rfl
 have n3:(p.what==3)=false:=beq_eq_false_iff_ne.2 w3
 have e0:jD p=none:=by unfold jD;rw[if_neg hs,if_neg w1,if_neg w2,if_neg w3]
 try simp(disch:=first|omega|assumption) only[af,aa,RZ,g2,Fs,c0,n1,n2,n3]
 rw[e0]
 rfl
end
end Go.Proofs.YtmjolmggelkjlaaGreat
namespace Go.Proofs.YtmjolmggelkjlaaGreat
open Go.RowKit Ev Cn Ip
theorem aoN{m:Nat}(h:m %2=0):m^^^1=m+1:=by
 have e1:(m^^^1)/2=m/2:=by rw[Nat.xor_div_two];simp
 have e2:(m^^^1)%2=1:=by
  have:=Nat.xor_mod_two_pow (a:=m) (b:=1) (n:=1)
  rw[Nat.pow_one,h]at this
  exact this
 omega
theorem Qt(l:List Nat)(kd:IntKind)(j:Nat)(k:Value->M Value)(h1:j<=l.length):bU (aF l) none (some (.int kd (j:Int))) k=k (aF (l.take j)):=by
 have:=DJ (k:=k) (l.map jq) kd (j:Int) (by omega) (by rw[dL];omega)
 unfold aF
 rw[this,cL,RP]
theorem Qu(l:List Nat)(kd:IntKind)(j:Nat)(k:Value->M Value)(h1:j<=l.length):bU (aF l) (some (.int kd (j:Int))) none k=k (aF (l.drop j)):=by
 have:=DK (k:=k) (l.map jq) kd (j:Int) (by omega) (by rw[dL];omega)
 unfold aF
 rw[this,cL,Ku]
theorem Qv(l:List Nat)(kd pC:IntKind)(j:Nat)(k:Value->M Value)(h1:j<l.length):bU (aF l) (some (.int kd (j:Int))) (some (.int pC ((j+1:Nat):Int))) k=k (aF [l.getD j 0]):=by
 have:=DL (k:=k) (l.map jq) kd pC (j:Int) ((j+1:Nat):Int) (by omega) (by omega) (by rw[dL];omega)
 unfold aF
 rw[this,cL,cL,<-Ku,<-RP]
 congr 4
 rw[vI h1,show j+1-j=1 by omega,List.take_succ_cons,List.take_zero,bC,bD h1]
 rfl
section
variable {lf d n:Nat} {h:H}
theorem acg(u:Int):ai (fun _=>False) n (au ah gt lf (d+1) 14 #[.int .i64 u]) h n fun v' h' n'=>v'= .bool (decide (24<=u∧u<=100000))∧h'=h∧n'=n:=by
 rw[aL (fun _=>aha) rfl]
 refine ai.aH ?_
 unfold V1
 by_cases c1:(24:Int)<=u
 ·by_cases c2:u<=100000
  ·try simp(disch:=first|omega|assumption) only[af,aa,RZ,c1,c2]
  ·try simp(disch:=first|omega|assumption) only[af,aa,RZ,c1,c2]
 ·try simp(disch:=first|omega|assumption) only[af,aa,RZ,c1]
theorem aoO{a b:Nat}(ha:a<4294967296)(hb:b<4294967296):ai (fun _=>False) n (au ah gt lf (d+1) 78 #[.int .u32 (a:Int),.int .u32 (b:Int)]) h n fun v' h' n'=>v'= .int .u32 ((fy a b:Nat):Int)∧h'=h∧n'=n:=by
 rw[aL (fun _=>WJ) rfl]
 refine ai.aH ?_
 unfold Nz fy
 have w1:IntKind.u32.wrap ((a:Int)*2)=((a*2^1 %4294967296:Nat):Int):=by
  rw[R0]
  omega
 have l1:a*2^1 %4294967296<4294967296:=Nat.mod_lt _ (by decide)
 have ev:a*2^1 %4294967296 %2=0:=by omega
 generalize hm:a*2^1 %4294967296=m at w1 l1 ev⊢
 by_cases c:(2147483648:Int)<=(a:Int)
 ·have e:a/2^31=1:=by
   have:(2:Nat)^31=2147483648:=rfl
   rw[this]
   omega
  rw[e,aoN ev]
  have w2:IntKind.u32.wrap ((m:Int)+1)=((m+1:Nat):Int):=by rw[R0];omega
  have l2:m+1<4294967296:=by omega
  have w4:=xE l2 hb
  try simp(disch:=first|omega|assumption) only[af,aa,RZ,w1,c,w2,w4]
 ·have e:a/2^31=0:=by
   have:(2:Nat)^31=2147483648:=rfl
   rw[this]
   omega
  rw[e,Nat.xor_zero]
  have w4:=xE l1 hb
  try simp(disch:=first|omega|assumption) only[af,aa,RZ,w1,c,w4]
theorem xL(l:List Bool)(hl:l.length<=32)(aC:100<=lf):ai (fun _=>False) n (au ah gt lf (d+1) 63 #[tx l]) h n fun v' h' n'=>v'= .int .u32 (num l 0:Int)∧h'=h∧n'=n:=by
 rw[aL (fun _=>Nu) rfl]
 refine ai.aH ?_
 unfold DU
 refine eD l.length (fun fu i (_:Unit)=>tm lf (au ah gt lf d) fu (BF lf (au ah gt lf d)) (tx l) (.int .u32 0) (.int .u32 (num (l.take i) 0:Int)) (.int .i64 (i:Nat))) (fun i _ h' n'=>h'=h∧n'=n) ?_ ?_ lf 0 () h n (aR _) (by omega) ⟨rfl,rfl⟩
 ·rintro fu _ h' n' ⟨rfl,rfl⟩
  rw[tm]
  try simp(disch:=first|omega|assumption) only[af,aa,RZ,cS,fg]
  (try unfold BF);(try dsimp only)
  try simp(disch:=first|omega|assumption) only[af,aa,RZ]
  rw[mh]
 ·rintro fu i _ h' n' hi ⟨rfl,rfl⟩ next
  rw[tm]
  have c1:((i:Nat):Int)<((l.length:Nat):Int):=by omega
  obtain⟨b,hb⟩:∃b,l.getD i false=b:=⟨_,rfl⟩
  have bl:=xh b
  have nl:=jI (l.take i)
  have n2:num (l.take i) 0<2147483648:=mb nl (by
   have:2^(l.take i).length<=2^31:=ur (by decide) (by rw[dr];omega)
   exact this)
  have w0:IntKind.u8.wrap (48+(bn b:Int)-48)=(bn b:Int):=by
   rw[show(48+(bn b:Int)-48)=(bn b:Int) by omega];exact w8 (by omega)
  have w1:IntKind.u32.wrap ((bn b:Nat):Int)=(bn b:Int):=fW (by omega)
  have w2:IntKind.u32.wrap (2*((num (l.take i) 0:Nat):Int))=((2*num (l.take i) 0:Nat):Int):=by
   rw[show(2*((num (l.take i) 0:Nat):Int))=((2*num (l.take i) 0:Nat):Int) by omega];exact fW (by omega)
  have w3:IntKind.u32.wrap (((2*num (l.take i) 0:Nat):Int)+(bn b:Int))=((2*num (l.take i) 0+bn b:Nat):Int):=by
   rw[show(((2*num (l.take i) 0:Nat):Int)+(bn b:Int))=((2*num (l.take i) 0+bn b:Nat):Int) by omega];exact fW (by omega)
  try simp(disch:=first|omega|assumption) only[af,aa,RZ,cS,tP,c1,hb,w0,w1,w2,w3]
  have e:num (l.take (i+1)) 0=2*num (l.take i) 0+bn b:=by
   rw[qa hi,Ek]
   have:l[i]=b:=by rw[<-hb,bC,bD hi];rfl
   rw[this]
  have:=next () h' n' ⟨rfl,rfl⟩
  rw[e]at this
  exact this
theorem aoP(l:List Nat){i:Nat}(hi:i<l.length)(hl:l.length<=256):ai (fun _=>False) n (au ah gt lf (d+1) 167 #[aF l,.int .i64 (i:Int)]) h n fun v' h' n'=>v'=aF (dP 0 l i)∧h'=h∧n'=n:=by
 rw[aL (fun _=>X6) rfl]
 refine ai.aH ?_
 unfold Ob
 have w1:((i:Nat):Int)+1=((i+1:Nat):Int):=rfl
 have w2:IntKind.i64.wrap (((i+1:Nat):Int))=((i+1:Nat):Int):=aJ (by omega) (by omega)
 have sa:=fun(K:Value->M Value)=>Qv l .i64 .i64 i K hi
 have sb:=fun(K:Value->M Value)=>Qt l .i64 i K (by omega)
 have sc:=fun(K:Value->M Value)=>Qu l .i64 (i+1) K (by omega)
 have a1:=fun(K:Value->M Value)=>oR [l.getD i 0] (l.take i) (by simp;omega) K
 have a2:=fun(K:Value->M Value)=>oR ([l.getD i 0]++l.take i) (l.drop (i+1)) (by simp;omega) K
 try simp(disch:=first|omega|assumption) only[af,aa,RZ,w1,w2]
 rw[sa,sb,a1]
 try simp(disch:=first|omega|assumption) only[af,aa,RZ,w1,w2]
 rw[sc,a2]
 try simp(disch:=first|omega|assumption) only[af,aa,RZ]
 first|exact⟨rfl,rfl,rfl⟩|rfl
end
theorem xM(l:List Nat)(hb:∀x∈l,x<256)(kd:IntKind)(i:Nat)(hi:i<l.length)(k:Value->M Value):da (aF l) (.int kd (i:Int)) k=k (.int .u8 ((l.getD i 0:Nat):Int)):=by
 have:=BC k (l.map jq) kd (i:Int) (by omega) (by rw[dL];omega)
 unfold aF
 rw[this,cL]
 congr 3
 rw[bC,jC,bC,bD hi]
 have:=hb l[i] (eu _)
 show(jq l[i]).toNat=l[i]
 rw[UInt8.toNat_ofNat']
 omega
theorem lK(l:List Nat)(k:Value->M Value):bP (aF l) k=k (.int .i64 (l.length:Int)):=by
 have:=y8 k (l.map jq)
 unfold aF
 rw[this,dL]
section
variable {lf d n:Nat} {h:H}
theorem ach{v:Value}(ts:List Nat)(eg:∀x∈ts,x<4294967296)(hl:ts.length<=100000)(hR:Row h n 31 .u32 v (iN ts))(aC:ts.length<lf):ai (fun _=>False) n (au ah gt lf (d+2) 25 #[v]) h n fun v' h' n'=>v'= .int .u32 ((ts.foldl fy 0:Nat):Int)∧h'=h∧n'=n:=by
 rw[aL (fun _=>Wf) rfl]
 refine ai.aH ?_
 unfold HG
 have il:(iN ts).length=ts.length:=by unfold iN;rw[dL]
 have kl:∀K:Value->M Value,bO v K=K (.int .i64 (ts.length:Int)):=fun K=>by
  obtain⟨a,c,e⟩:=hR.len
  rw[e,il]
  rfl
 have fb:∀i,(ts.take i).foldl fy 0<4294967296:=fun i=>by
  have:∀(l:List Nat) (t:Nat),t<4294967296->(∀x∈l,x<4294967296)->l.foldl fy t<4294967296:=by
   intro l
   induction l with
   |nil=>intro t h _;exact h
   |cons x l ih=>intro t h hx;exact ih _ (Qk h (hx x Kq)) fun y hy=>hx y (AV _ hy)
  exact this _ 0 (by decide) fun x hx=>eg x (Kc hx)
 try simp(disch:=first|omega|assumption) only[af,aa,RZ,kl]
 refine eD ts.length (fun fu i (_:Unit)=>zx lf (au ah gt lf (d+1)) fu (HF lf (au ah gt lf (d+1))) v (.int .u32 0) (.int .u32 (((ts.take i).foldl fy 0:Nat):Int)) v (.int .i64 (ts.length:Int)) (.int .i64 (i:Nat))) (fun i _ h' n'=>h'=h∧n'=n) ?_ ?_ lf 0 () h n (aR _) (by omega) ⟨rfl,rfl⟩
 ·rintro fu _ h' n' ⟨rfl,rfl⟩
  rw[zx]
  try simp(disch:=first|omega|assumption) only[af,aa,RZ,fg]
  (try unfold HF);(try dsimp only)
  try simp(disch:=first|omega|assumption) only[af,aa,RZ]
  rw[mh]
 ·rintro fu i _ h' n' hi ⟨rfl,rfl⟩ next
  have c1:((i:Nat):Int)<((ts.length:Nat):Int):=by omega
  obtain⟨bb,off,cap,o,ks,ev,hg,lR,_,_,_,gQ⟩:=hR.some (by omega)
  have a1:=gQ i (by omega)
  have e0:(iN ts).getD i 0=((ts[i]:Nat):Int):=by
   unfold iN
   rw[bC,jC,bD hi]
   rfl
  rw[e0]at a1
  rw[il]at ev
  have kx:∀K:Value->M Value,dO v (.int .i64 (i:Int)) K=K (.pointer (some ⟨bb,off+i,none⟩)):=fun K=>by
   rw[ev]
   try simp(disch:=first|omega|assumption) only[af,aa,RZ,c1]
  rw[zx]
  try simp(disch:=first|omega|assumption) only[af,aa,RZ,c1,kx,hg,a1]
  refine bL (aoO (lf:=lf) (d:=d) (fb i) (eg _ (eu hi))) (an _) (fun _ _ h=>h.elim) ?_
  try simp(disch:=first|omega|assumption) only[af,aa,RZ]
  have:=next () h' n' ⟨rfl,rfl⟩
  rw[qa hi,Kw]at this
  exact this
theorem aoQ(l:List Nat)(hb:∀x∈l,x<256)(b:Nat)(hl:l.length<=100000000)(aC:l.length<lf):ai (fun _=>False) n (au ah gt lf (d+1) 172 #[aF l,.int .i64 (b:Int)]) h n fun v' h' n'=>v'= .bool (decide (b∈l))∧h'=h∧n'=n:=by
 rw[aL (fun _=>aiS) rfl]
 refine ai.aH ?_
 unfold Od
 refine eD l.length (fun fu i (_:Unit)=>zQ lf (au ah gt lf d) fu (D5 lf (au ah gt lf d)) (aF l) (.int .i64 (b:Int)) bF (.int .i64 (i:Nat))) (fun i _ h' n'=>b∉l.take i∧h'=h∧n'=n) ?_ ?_ lf 0 () h n (aR _) (by omega) ⟨by simp,rfl,rfl⟩
 ·rintro fu _ h' n' ⟨hn,rfl,rfl⟩
  rw[mh]at hn
  rw[zQ,lK]
  try simp(disch:=first|omega|assumption) only[af,aa,RZ,fg]
  (try unfold D5);(try dsimp only)
  try simp(disch:=first|omega|assumption) only[af,aa,RZ]
  rw[decide_eq_false hn]
 ·rintro fu i _ h' n' hi ⟨hn,rfl,rfl⟩ next
  have c1:((i:Nat):Int)<((l.length:Nat):Int):=by omega
  have tB:=fun(K:Value->M Value)=>xM l hb .i64 i hi K
  have e1:l.getD i 0=l[i]:=by rw[bC,bD hi];rfl
  have E2:=hb l[i] (eu _)
  have w1:IntKind.i64.wrap ((l[i]:Nat):Int)=((l[i]:Nat):Int):=aJ (by omega) (by omega)
  rw[zQ,lK]
  try simp(disch:=first|omega|assumption) only[af,aa,RZ,c1]
  rw[tB,e1]
  by_cases c:l[i]=b
  ·have z:(((l[i]:Nat):Int)==(b:Int))=true:=by rw[c];exact beq_iff_eq.2 rfl
   try simp(disch:=first|omega|assumption) only[af,aa,RZ,w1,z]
   (try unfold D5);(try dsimp only)
   try simp(disch:=first|omega|assumption) only[af,aa,RZ]
   rw[decide_eq_true (by rw[<-c];exact eu _)]
  ·have z:(((l[i]:Nat):Int)==(b:Int))=false:=beq_eq_false_iff_ne.2 (by omega)
   try simp(disch:=first|omega|assumption) only[af,aa,RZ,w1,z]
   refine next () h' n' ⟨fun q=> ?_,rfl,rfl⟩
   rw[qa hi]at q
   rcases List.mem_append.1 q with q|q
   ·exact hn q
   ·exact c (List.mem_singleton.1 q).symm
theorem aoR(l:List Nat)(hb:∀x∈l,x<256)(hl:l.length<=100000000)(aC:l.length<lf)(Cz:300<=lf):ai (fun _=>False) n (au ah gt lf (d+2) 140 #[aF l]) h n fun v' _ _=>v'=aF ((iL 256).filter fun b=>decide (b∈l)):=by
 rw[aL (fun _=>aia) rfl]
 refine ai.aH ?_
 unfold N2
 refine eD 256 (fun fu i (_:Unit)=>wN lf (au ah gt lf (d+1)) fu (H3 lf (au ah gt lf (d+1))) (aF l) (aF []) (aF ((iL i).filter fun b=>decide (b∈l))) (.int .i64 (i:Nat))) (fun i _ h' n'=>n<=n') ?_ ?_ lf 0 () h n (aR _) (by omega) (an _)
 ·rintro fu _ h' n' hn
  have c0:¬(((256:Nat):Int)<256):=by decide
  rw[wN]
  try simp(disch:=first|omega|assumption) only[af,aa,RZ,c0]
  (try unfold H3);(try dsimp only)
  try simp(disch:=first|omega|assumption) only[af,aa,RZ]
 ·rintro fu i _ h' n' hi hn next
  have c1:((i:Nat):Int)<256:=by omega
  have w1:((i:Nat):Int)+1=((i+1:Nat):Int):=rfl
  have es:(iL (i+1)).filter (fun b=>decide (b∈l))=(iL i).filter (fun b=>decide (b∈l))++(if i∈l then [i]else []):=by
   rw[RL,RM]
   congr 1
   by_cases c:i∈l
   ·rw[if_pos c,adv (by simpa using c)];rfl
   ·rw[if_neg c,adu (by simpa using c)];rfl
  have fl:((iL i).filter fun b=>decide (b∈l)).length<=i:=by
   have:=CW (fun b=>decide (b∈l)) (iL i)
   rw[RF]at this
   exact this
  rw[wN]
  try simp(disch:=first|omega|assumption) only[af,aa,RZ,c1]
  refine bL (aoQ (lf:=lf) (d:=d) l hb i hl aC) hn (fun _ _ h=>h.elim) ?_
  by_cases c:i∈l
  ·rw[if_pos c]at es
   rw[decide_eq_true c]
   have w2:IntKind.u8.wrap ((i:Nat):Int)=((i:Nat):Int):=RI _ (by omega)
   try simp(disch:=first|omega|assumption) only[af,aa,RZ,w2]
   refine DN trivial (mV _ _) _ ?_
   refine IE (ws:=[i]) (get_eq _ _ _) (gh _) (by simp) rfl _ ?_
   have ad:=fun(K:Value->M Value)=>oR ((iL i).filter fun b=>decide (b∈l)) [i] (by simp;omega) K
   show ai (fun _=>False) n (aA (aF ((iL i).filter fun b=>decide (b∈l))) (aF [i]) _) _ _ _
   rw[ad,<-es]
   try simp(disch:=first|omega|assumption) only[af,aa,RZ]
   exact next () _ _ (by omega)
  ·rw[if_neg c,cu]at es
   rw[decide_eq_false c]
   have:=next () h' n' hn
   rw[es]at this
   try simp(disch:=first|omega|assumption) only[af,aa,RZ]
   exact this
end
theorem aoS{s:List Nat}(h:Sy s):((iL 256).filter fun b=>decide (b∈s))=s:=
 PJ (adt _ List.pairwise_lt_range) h.inc fun x=>by
  rw[List.mem_filter,List.mem_range]
  exact⟨fun q=>by simpa using q.2,fun q=>⟨h.lt x q,by simpa using q⟩⟩
theorem aci:∀(ps s:List Nat),(∀p∈ps,p<s.length)->(cD s ps).2.length=s.length
 |[],s,_=>rfl
 |p::ps,s,h=>by
  have hp:=h p Kq
  have e:=EZ hp
  show(cD (dP 0 s p) ps).2.length=_
  rw[aci ps _ fun q hq=>by rw[e];exact h q (AV _ hq),e]
section
variable {lf d n:Nat} {h:H}
theorem aoT{s:List Nat}(hs:Sy s)(h0:s≠[])(aC:300<=lf):ai (fun _=>False) n (au ah gt lf (d+3) 166 #[aF s]) h n fun v' _ _=>v'= .bool true:=by
 have sl:=hs.len
 have sp:1<=s.length:=List.length_pos_iff.2 h0
 have c1:(0:Int)<((s.length:Nat):Int):=by omega
 rw[aL (fun _=>aiM) rfl]
 refine ai.aH ?_
 unfold X5
 rw[lK]
 try simp(disch:=first|omega|assumption) only[af,aa,RZ,c1]
 refine aU aK (aoR (lf:=lf) (d:=d) s hs.lt (by omega) (by omega) aC) (an _) (fun _ _ h=>h.elim) fun v1 h1 n1 aM aY aw=> ?_
 subst aw
 rw[aoS hs]
 unfold aF
 try simp(disch:=first|omega|assumption) only[af,aa,RZ]
theorem aoU{s:List Nat}(hs:Sy s)(h0:s≠[]){v:Value}(ps:List Nat)(hps:∀p∈ps,p<s.length)(hl:ps.length<=100000000)(hR:Row h n 3 .i64 v (iN ps))(aC:300+ps.length<lf):ai (fun _=>False) n (au ah gt lf (d+4) 133 #[v,aF s]) h n fun v' _ _=>v'= .tuple #[aF (cD s ps).1,.int .i64 0]:=by
 have sl:=hs.len
 rw[aL (fun _=>ah5) rfl]
 refine ai.aH ?_
 unfold NZ
 refine aU aK (aoT (lf:=lf) (d:=d) hs h0 (by omega)) (an _) (fun _ _ h=>h.elim) fun v1 h1 n1 aM aY aw=> ?_
 subst aw
 have pH:=hR.aB aM fun b hb=>aY b hb id
 have il:(iN ps).length=ps.length:=by unfold iN;rw[dL]
 have kl:∀K:Value->M Value,bO v K=K (.int .i64 (ps.length:Int)):=fun K=>by
  obtain⟨a,c,e⟩:=pH.len
  rw[e,il]
  rfl
 try simp(disch:=first|omega|assumption) only[af,aa,RZ,kl]
 refine eD ps.length (fun fu i (_:Unit)=>zI lf (au ah gt lf (d+3)) fu (HY lf (au ah gt lf (d+3))) v (aF s) (aF []) (.int .i64 0) (aF (cD s (ps.take i)).1) (aF (cD s (ps.take i)).2) (.bool false) v (.int .i64 (ps.length:Int)) (.int .i64 (i:Nat))) (fun i _ h' n'=>h'=h1∧n'=n1) ?_ ?_ lf 0 () h1 n1 (aR _) (by omega) ⟨rfl,rfl⟩
 ·rintro fu _ h' n' ⟨rfl,rfl⟩
  rw[zI]
  try simp(disch:=first|omega|assumption) only[af,aa,RZ,fg]
  unfold HY
  try simp(disch:=first|omega|assumption) only[af,aa,RZ]
  rw[mh]
 ·rintro fu i _ h' n' hi ⟨rfl,rfl⟩ next
  have c1:((i:Nat):Int)<((ps.length:Nat):Int):=by omega
  have w1:((i:Nat):Int)+1=((i+1:Nat):Int):=rfl
  obtain⟨bb,off,cap,o,ks,ev,hg,lR,_,_,_,gQ⟩:=pH.some (by omega)
  have a1:=gQ i (by omega)
  have e0:(iN ps).getD i 0=((ps[i]:Nat):Int):=by
   unfold iN
   rw[bC,jC,bD hi]
   rfl
  rw[e0]at a1
  rw[il]at ev
  have kx:∀K:Value->M Value,dO v (.int .i64 (i:Int)) K=K (.pointer (some ⟨bb,off+i,none⟩)):=fun K=>by
   rw[ev]
   try simp(disch:=first|omega|assumption) only[af,aa,RZ,c1]
  have hp:=hps ps[i] (eu hi)
  have ol:=aci (ps.take i) s fun q hq=>hps q (Kc hq)
  have ml:=Jp (ps.take i) s
  rw[dr]at ml
  obtain⟨p,Ft⟩:∃p,ps[i]=p:=⟨_,rfl⟩
  have eg:cD s (ps.take (i+1))=((cD s (ps.take i)).1++[(cD s (ps.take i)).2.getD p 0],dP 0 (cD s (ps.take i)).2 p):=by
   rw[qa hi,PH,Ft]
   rfl
  have nx:=next () h' n' ⟨rfl,rfl⟩
  rw[eg]at nx
  rw[Ft]at a1 hp
  generalize (cD s (ps.take i)).1=out at ml nx⊢
  generalize (cD s (ps.take i)).2=ord at ol nx⊢
  have c2:¬((p:Nat):Int)<0:=by omega
  have c3:¬((ord.length:Nat):Int)<=((p:Nat):Int):=by omega
  have w2:((p:Nat):Int)+1=((p+1:Nat):Int):=rfl
  have w3:IntKind.i64.wrap ((p+1:Nat):Int)=((p+1:Nat):Int):=aJ (by omega) (by omega)
  have so:=fun(K:Value->M Value)=>Qv ord .i64 .i64 p K (by omega)
  have ad:=fun(K:Value->M Value)=>oR out [ord.getD p 0] (by simp;omega) K
  rw[zI]
  try simp(disch:=first|omega|assumption) only[af,aa,RZ,c1,kx,hg,a1,c2]
  rw[lK]
  try simp(disch:=first|omega|assumption) only[af,aa,RZ,c3,w2,w3]
  rw[so,ad]
  refine bL (aoP (lf:=lf) (d:=d+2) ord (i:=p) (by omega) (by omega)) aM (fun _ _ h=>h.elim) ?_
  try simp(disch:=first|omega|assumption) only[af,aa,RZ]
  exact nx
end
def ua(B:List Bool)(i:Nat):List Nat:=(List.range' i (16-i)).filter fun j=>B.getD j false
theorem aoV(B:List Bool){i:Nat}(h:i<16):ua B i=(if B.getD i false=true then [i]else [])++ua B (i+1):=by
 unfold ua
 obtain⟨m,hm⟩:∃m,16-i=m+1:=⟨16-i-1,by omega⟩
 have fh:16-(i+1)=m:=by omega
 rw[hm,fh,List.range'_succ]
 by_cases c:B.getD i false=true
 ·rw[adv (p:=fun j=>B.getD j false) c,if_pos c];rfl
 ·rw[adu (p:=fun j=>B.getD j false) c,if_neg c];rfl
theorem aoW(B:List Bool):ua B 16=[]:=rfl
theorem acj(B:List Bool):ua B 0=lZ B:=by
 unfold ua lZ
 rw[List.range_eq_range']
def vt(row:List Bool)(k:Nat):List Nat:=(iL k).filter fun j=>row.getD j false
def aoX(r:St (List Nat))(v':Value):Prop:=match r with
 | .short=>v'= .agg #[aF [],.int .i64 0,.int .i64 3]
 | .bad e=>v'= .agg #[aF [],.int .i64 0,.int .i64 e]
 | .ok s u=>v'= .agg #[aF s,.int .i64 (u:Int),.int .i64 0]
section
variable {lf d:Nat}
theorem aoY {n0:Nat} {bs:List Bool} (bR:bs.length<=1000000) {cn i:Nat} (hi:i<16) (hc:cn+16<=bs.length) {out:List Nat} (ho:out.length<=1000) {K:Value->Value->Value->Value->Value->Value->M Value} {b f g h2 i2 j2:Value} {n:Nat} {h:H} {Q:Value->H->Nat->Prop} (aC:100<=lf) (hn:n0<=n)
 (y:∀h' n',n<=n'->(∀c,c<n->h'.get c=h.get c)->ai (fun _=>False) n0 (K (tx bs) b (.int .i64 (cn:Int)) (aF (out++(lZ ((bs.drop cn).take 16)).map fun k=>16*i+k)) f g) h' n' Q):
 ai (fun _=>False) n0 (u6 lf ((au ah gt lf d)) lf K (tx bs) b (.int .i64 (cn:Int)) (aF out) (.int .i64 (i:Int)) f g h2 i2 j2 (.int .i64 0)) h n Q:=by
 have mk:lZ ((bs.drop cn).take 16)=vt ((bs.drop cn).take 16) 16:=rfl
 refine eD 16 (fun fu k (_:Unit)=>u6 lf ((au ah gt lf d)) fu K (tx bs) b (.int .i64 (cn:Int)) (aF (out++(vt ((bs.drop cn).take 16) k).map fun k=>16*i+k)) (.int .i64 (i:Int)) f g h2 i2 j2 (.int .i64 (k:Nat))) (fun k _ h' n'=>n<=n'∧∀c,c<n->h'.get c=h.get c) ?_ ?_ lf 0 () h n (aR _) (by omega) ⟨an _,fun _ _=>rfl⟩|>fun z=>by simpa[vt]using z
 ·rintro fu _ h' n' ⟨lG,k'⟩
  have c0:¬(((16:Nat):Int)<16):=by decide
  rw[u6]
  try simp(disch:=first|omega|assumption) only[af,aa,RZ,c0]
  rw[<-mk]
  exact y h' n' lG k'
 ·rintro fu k _ h' n' hk ⟨lG,k'⟩ next
  have c1:((k:Nat):Int)<16:=by omega
  have w1:((k:Nat):Int)+1=((k+1:Nat):Int):=rfl
  have w2:((cn:Nat):Int)+((k:Nat):Int)=((cn+k:Nat):Int):=rfl
  have w3:IntKind.i64.wrap ((cn+k:Nat):Int)=((cn+k:Nat):Int):=aJ (by omega) (by omega)
  obtain⟨q,hq⟩:∃q,bs.getD (cn+k) false=q:=⟨_,rfl⟩
  have bu:((bs.drop cn).take 16).getD k false=q:=by
   rw[<-hq,bC,ar4 hk,List.getElem?_drop,bC]
  have it:=fun(K:Value->M Value)=>tP bs .i64 ((cn+k:Nat):Int) (by omega) (by omega) K
  rw[cL,hq]at it
  have ms:vt ((bs.drop cn).take 16) (k+1)=vt ((bs.drop cn).take 16) k++(if q=true then [k]else []):=by
   unfold vt
   rw[RL,RM]
   congr 1
   by_cases c:q=true
   ·rw[if_pos c,adv (by rw[bu];exact c)];rfl
   ·rw[if_neg c,adu (by rw[bu];exact c)];rfl
  have ml:(vt ((bs.drop cn).take 16) k).length<=k:=by
   have:=CW (fun j=>((bs.drop cn).take 16).getD j false) (iL k)
   rw[RF]at this
   exact this
  rw[u6]
  cases q with
  |true=>
   have z:((48+((bn true:Nat):Int))==49)=true:=rfl
   have w4:IntKind.i64.wrap (16*((i:Nat):Int))=((16*i:Nat):Int):=by rw[aJ (by omega) (by omega)];rfl
   have w5:IntKind.i64.wrap (((16*i:Nat):Int)+((k:Nat):Int))=((16*i+k:Nat):Int):=by rw[aJ (by omega) (by omega)];rfl
   have w6:IntKind.u8.wrap ((16*i+k:Nat):Int)=((16*i+k:Nat):Int):=RI _ (by omega)
   try simp(disch:=first|omega|assumption) only[af,aa,RZ,c1,w2,w3,it,z,w4,w5,w6]
   refine DN trivial (mV _ _) _ ?_
   refine IE (ws:=[16*i+k]) (get_eq _ _ _) (gh _) (by simp) rfl _ ?_
   have ad:=fun(K:Value->M Value)=>oR (out++(vt ((bs.drop cn).take 16) k).map fun k=>16*i+k) [16*i+k] (by simp;omega) K
   show ai (fun _=>False) n0 (aA (aF (out++(vt ((bs.drop cn).take 16) k).map fun k=>16*i+k)) (aF [16*i+k]) _) _ _ _
   rw[ad]
   try simp(disch:=first|omega|assumption) only[af,aa,RZ]
   have nx:=next () (h'.set n' (some ⟨5,true,[.int .u8 ((16*i+k:Nat):Int)]⟩)) (n'+1) ⟨by omega,fun c hc=>by rw[aD _ _ (by omega)];exact k' c hc⟩
   rw[ms,if_pos rfl,qb,<-fA]at nx
   exact nx
  |false=>
   have z:((48+((bn false:Nat):Int))==49)=false:=rfl
   try simp(disch:=first|omega|assumption) only[af,aa,RZ,c1,w2,w3,it,z]
   have nx:=next () h' n' ⟨lG,k'⟩
   rw[ms,if_neg (by decide),cu]at nx
   exact nx
end
theorem JN{n0 n rb:Nat}{h:H}{t:TypeId}{cs vs:List Value}(hv:vs.length=3)(h1:vs.all one=true)(hc:cs.length=3)(gr:h.get rb=some ⟨t,true,cs⟩)(hr:rb<n)(Qw:n0<=rb):ai (fun _=>False) n0 (aX 3 (.pointer (some ⟨rb,0,none⟩)) (.agg vs.toArray) fun _=>bx 3 (.pointer (some ⟨rb,0,none⟩)) fun b=>aj [b]) h n fun v' _ _=>v'= .agg vs.toArray:=by
 refine db trivial hv hc h1 gr hr (.inl Qw) _ fun h' g' k'=> ?_
 exact fQ trivial trivial g' hv hr rfl
section
variable {lf d n:Nat} {h:H}
theorem aoZ{bs:List Bool}(bR:bs.length<=1000000)(aC:100<=lf):ai (fun _=>False) n (au ah gt lf (d+1) 128 #[tx bs]) h n fun v' _ _=>aoX (j3 bs) v':=by
 rw[aL (fun _=>ahU) rfl]
 refine ai.aH ?_
 unfold NT
 refine fq rfl _ ?_
 have g0:(h.set n (some ⟨185,true,rM⟩)).get n=some ⟨185,true,rM⟩:=get_eq _ _ _
 generalize h.set n (some ⟨185,true,rM⟩)=h1 at g0⊢
 unfold j3
 by_cases c16:bs.length<16
 ·have c:((bs.length:Nat):Int)<16:=by omega
  rw[if_pos c16]
  try simp(disch:=first|omega|assumption) only[af,aa,RZ,cS,c]
  exact JN (vs:=[aF [],.int .i64 0,.int .i64 3]) rfl rfl rfl g0 (gh n) (an n)
 have c:¬((bs.length:Nat):Int)<16:=by omega
 rw[if_neg c16]
 try simp(disch:=first|omega|assumption) only[af,aa,RZ,cS,c]
 have hB:∀i,i<16->(bs.take 16).getD i false=bs.getD i false:=fun i hi=>by
  rw[bC,ar4 hi,bC]
 rw[<-acj (bs.take 16)]
 obtain⟨R,hR⟩:∃R,nO (ua (bs.take 16) 0) (bs.drop 16) [] 16=R:=⟨_,rfl⟩
 rw[hR]
 have u0:UI (ua (bs.take 16) 0) []:=by rw[acj];exact UI.zero _
 refine eD 16 (fun fu i (s:Nat×List Nat)=>wL lf (au ah gt lf d) fu (DX lf (au ah gt lf d)) (tx bs) (.pointer (some ⟨n,0,none⟩)) (.int .i64 (s.1:Int)) (aF s.2) (.bool false) (.int .i64 (i:Nat))) (fun i s h' n'=>n<n'∧h'.get n=some ⟨185,true,rM⟩∧s.1<=bs.length∧UI (ua (bs.take 16) i) s.2∧nO (ua (bs.take 16) i) (bs.drop s.1) s.2 s.1=R) ?_ ?_ lf 0 (16,[]) h1 (n+1) (aR _) (by omega) ⟨gh n,g0,by omega,u0,hR⟩
 ·rintro fu ⟨cn,out⟩ h' n' ⟨q1,q2,q3,q4,q5⟩
  have c0:¬(((16:Nat):Int)<16):=by decide
  rw[aoW]at q5
  have q5:St.ok out cn=R:=q5
  subst q5
  rw[wL]
  try simp(disch:=first|omega|assumption) only[af,aa,RZ,c0]
  unfold DX
  cases out with
  |nil=>
   have ke:∀K:Value->M Value,aW (aF []) (.string ⟨#[]⟩) K=K (.bool true):=fun K=>rfl
   try simp(disch:=first|omega|assumption) only[af,aa,RZ,ke]
   exact JN (vs:=[aF [],.int .i64 0,.int .i64 25]) rfl rfl rfl q2 q1 (an n)
  |cons x out=>
   have ke:∀K:Value->M Value,aW (aF (x::out)) (.string ⟨#[]⟩) K=K (.bool false):=fun K=>by
    unfold aF
    try simp(disch:=first|omega|assumption) only[af,aa,RZ]
    rw[decide_eq_false (by simp)]
   try simp(disch:=first|omega|assumption) only[af,aa,RZ,ke]
   have hf:fU [aV ⟨#[]⟩,ii 0,ii 0] [(0,1,aF (x::out)),(1,1,dG IntKind.i64 ((cn:Nat):Int))]=some [aF (x::out),.int .i64 ((cn:Nat):Int),.int .i64 0]:=rfl
   rw[hf]
   exact JN (vs:=[aF (x::out),.int .i64 (cn:Int),.int .i64 0]) rfl rfl rfl q2 q1 (an n)
 ·rintro fu i ⟨cn,out⟩ h' n' hi ⟨q1,q2,q3,q4,q5⟩ next
  have q3:cn<=bs.length:=q3
  have c1:((i:Nat):Int)<16:=by omega
  have w1:((i:Nat):Int)+1=((i+1:Nat):Int):=rfl
  have it:=fun(K:Value->M Value)=>tP bs .i64 ((i:Nat):Int) (by omega) (by omega) K
  rw[cL,<-hB i hi]at it
  have rs:=aoV (bs.take 16) hi
  have ol:out.length<=256:=q4.sy.len
  rw[wL]
  obtain⟨q,hq⟩:∃q,(bs.take 16).getD i false=q:=⟨_,rfl⟩
  rw[hq]at it rs
  cases q with
  |false=>
   rw[if_neg (by decide),uo]at rs
   have z:((48+((bn false:Nat):Int)) !=49)=true:=rfl
   try simp(disch:=first|omega|assumption) only[af,aa,RZ,c1,it,z]
   exact next (cn,out) h' n' ⟨q1,q2,q3,by rw[<-rs];exact q4,by rw[<-rs];exact q5⟩
  |true=>
   rw[if_pos rfl,RY]at rs
   have z:((48+((bn true:Nat):Int)) !=49)=false:=rfl
   have w2:IntKind.i64.wrap (((cn:Nat):Int)+16)=((cn+16:Nat):Int):=by rw[aJ (by omega) (by omega)];rfl
   have w3:((cn:Nat):Int)+16=((cn+16:Nat):Int):=rfl
   have w4:IntKind.i64.wrap ((cn+16:Nat):Int)=((cn+16:Nat):Int):=aJ (by omega) (by omega)
   rw[rs]at q5 q4
   unfold nO at q5
   by_cases cl:(bs.drop cn).length<16
   ·rw[if_pos cl]at q5
    subst q5
    rw[b9]at cl
    have c2:((bs.length:Nat):Int)<((cn+16:Nat):Int):=by omega
    try simp(disch:=first|omega|assumption) only[af,aa,RZ,c1,it,z,cS,w2,w3,w4,c2]
    unfold DX
    exact JN (vs:=[aF [],.int .i64 0,.int .i64 3]) rfl rfl rfl q2 q1 (an n)
   ·rw[if_neg cl]at q5
    rw[b9]at cl
    have c2:¬((bs.length:Nat):Int)<((cn+16:Nat):Int):=by omega
    try simp(disch:=first|omega|assumption) only[af,aa,RZ,c1,it,z,cS,w2,w3,w4,c2]
    refine aoY (d:=d) bR hi (by omega) (by omega) aC (by omega) fun h2 n2 cJ k2=> ?_
    unfold NS
    try simp(disch:=first|omega|assumption) only[af,aa,RZ,w2,w3,w4,w1]
    exact next (cn+16,out++(lZ ((bs.drop cn).take 16)).map fun k=>16*i+k) h2 n2 ⟨by omega,(k2 n q1).trans q2,by show cn+16<=_;omega,q4.next _,by rw[<-q5,ng]⟩
end
def ib(cs:List Nat):Nat×Nat:=cs.foldl (fun q c=>(q.1+q.2+c*q.2,2*q.2)) (0,1)
theorem JO(cs:List Nat)(c:Nat):ib (cs++[c])=((ib cs).1+(ib cs).2+c*(ib cs).2,2*(ib cs).2):=by
 unfold ib
 rw[Kw]
 rfl
theorem Qx:∀(k:Nat) (cs:List Nat),cs.length=k->(ib cs).2=2^k
 |0,cs,h=>by rw[List.length_eq_zero_iff.1 h];rfl
 |k+1,cs,h=>by
  have fC:cs≠[]:=fun e=>by rw[e]at h;cases h
  have e:=ar7 fC
  rw[<-e,JO]
  show 2*(ib cs.dropLast).2=_
  rw[Qx k cs.dropLast (by rw[ar8];omega),pX,Nat.mul_comm]
theorem ao0(cs:List Nat)(h:∀c∈cs,c<=1):(ib cs).1<=2*(ib cs).2:=by
 have:∀(k:Nat) (cs:List Nat),cs.length=k->(∀c∈cs,c<=1)->(ib cs).1<=2*(ib cs).2:=by
  intro k
  induction k with
  |zero=>
   intro cs h _
   rw[List.length_eq_zero_iff.1 h]
   decide
  |succ k ih=>
   intro cs h hc
   have fC:cs≠[]:=fun e=>by rw[e]at h;cases h
   have e:=ar7 fC
   have hl:=hc (cs.getLast fC) (List.getLast_mem fC)
   have:=ih cs.dropLast (by rw[ar8];omega) fun c ky=>hc c ((List.dropLast_sublist cs).subset ky)
   rw[<-e,JO]
   show(ib cs.dropLast).1+(ib cs.dropLast).2+cs.getLast fC*(ib cs.dropLast).2<=2*(2*(ib cs.dropLast).2)
   have h2:cs.getLast fC*(ib cs.dropLast).2<=1*(ib cs.dropLast).2:=xY _ hl
   omega
 exact this _ cs rfl h
section
variable {lf d n:Nat} {h:H}
theorem ack{v:Value}(cs:List Nat)(hc:∀c∈cs,c<=1)(hl:cs.length<=41)(hR:Row h n 3 .i64 v (iN cs))(aC:100<=lf):ai (fun _=>False) n (au ah gt lf (d+1) 201 #[v]) h n fun v' h' n'=>v'= .int .i64 ((ib cs).1:Int)∧h'=h∧n'=n:=by
 rw[aL (fun _=>ajl) rfl]
 refine ai.aH ?_
 unfold Om
 have il:(iN cs).length=cs.length:=by unfold iN;rw[dL]
 have kl:∀K:Value->M Value,bO v K=K (.int .i64 (cs.length:Int)):=fun K=>by
  obtain⟨a,c,e⟩:=hR.len
  rw[e,il]
  rfl
 try simp(disch:=first|omega|assumption) only[af,aa,RZ,kl]
 refine eD cs.length (fun fu i (_:Unit)=>zX lf (au ah gt lf d) fu (Ii lf (au ah gt lf d)) v (.int .i64 0) (.int .i64 ((ib (cs.take i)).1:Int)) (.int .i64 ((ib (cs.take i)).2:Int)) v (.int .i64 (cs.length:Int)) (.int .i64 (i:Nat))) (fun i _ h' n'=>h'=h∧n'=n) ?_ ?_ lf 0 () h n (aR _) (by omega) ⟨rfl,rfl⟩
 ·rintro fu _ h' n' ⟨rfl,rfl⟩
  rw[zX]
  try simp(disch:=first|omega|assumption) only[af,aa,RZ,fg]
  unfold Ii
  try simp(disch:=first|omega|assumption) only[af,aa,RZ]
  rw[mh]
 ·rintro fu i _ h' n' hi ⟨rfl,rfl⟩ next
  have c1:((i:Nat):Int)<((cs.length:Nat):Int):=by omega
  have w1:((i:Nat):Int)+1=((i+1:Nat):Int):=rfl
  obtain⟨bb,off,cap,o,ks,ev,hg,lR,_,_,_,gQ⟩:=hR.some (by omega)
  have a1:=gQ i (by omega)
  have e0:(iN cs).getD i 0=((cs[i]:Nat):Int):=by
   unfold iN
   rw[bC,jC,bD hi]
   rfl
  rw[e0]at a1
  rw[il]at ev
  have kx:∀K:Value->M Value,dO v (.int .i64 (i:Int)) K=K (.pointer (some ⟨bb,off+i,none⟩)):=fun K=>by
   rw[ev]
   try simp(disch:=first|omega|assumption) only[af,aa,RZ,c1]
  have hw:=Qx i (cs.take i) (by rw[dr];omega)
  have hm:=ao0 (cs.take i) fun c q=>hc c (Kc q)
  have mN:(ib (cs.take i)).2<=2199023255552:=by
   rw[hw]
   exact ur (n:=2) (by decide) (by omega:i<=41)
  have wv:=hc cs[i] (eu hi)
  have nx:=next () h' n' ⟨rfl,rfl⟩
  rw[qa hi,JO]at nx
  generalize (ib (cs.take i)).1=m at hm nx⊢
  generalize (ib (cs.take i)).2=w at mN hm nx⊢
  generalize cs[i]=c at wv nx a1
  have cw:c*w<=1*w:=xY _ wv
  have c2:¬(2199023255552:Int)<((w:Nat):Int):=by omega
  have w2:IntKind.i64.wrap (((m:Nat):Int)+((w:Nat):Int))=((m+w:Nat):Int):=by rw[aJ (by omega) (by omega)];rfl
  have w3:IntKind.i64.wrap (((c:Nat):Int)*((w:Nat):Int))=((c*w:Nat):Int):=by
   rw[show((c:Nat):Int)*((w:Nat):Int)=((c*w:Nat):Int)from(Int.natCast_mul c w).symm,aJ (by omega) (by omega)]
  have w4:IntKind.i64.wrap (((m+w:Nat):Int)+((c*w:Nat):Int))=((m+w+c*w:Nat):Int):=by rw[aJ (by omega) (by omega)];rfl
  have w5:IntKind.i64.wrap (2*((w:Nat):Int))=((2*w:Nat):Int):=by rw[aJ (by omega) (by omega)];rfl
  rw[zX]
  try simp(disch:=first|omega|assumption) only[af,aa,RZ,c1,kx,hg,a1,c2,w2,w3,w4,w5]
  exact nx
end
structure nW (h:H) (n:Nat) (z:Zr) (rv:Value) (cs:List Nat):Prop where
 row:Row h n 3 .i64 rv (iN cs)
 one:∀c∈cs,c<=1
 len:cs.length<=40
 eq:ib cs=(z.aQ,z.weight)
def fZ(z:Zr)(rv:Value):List Value:=[.int .i64 (z.n:Int),.int .i64 (z.most:Int),.int .i64 (z.told:Int),rv,.bool z.done]
theorem nW.aB{h h':H}{n n':Nat}{z:Zr}{rv:Value}{cs:List Nat}(x:nW h n z rv cs)(hn:n<=n')(hk:∀b,b<n->h'.get b=h.get b):nW h' n' z rv cs:=⟨x.row.aB hn hk,x.one,x.len,x.eq⟩
section
variable {lf d n:Nat} {h:H}
theorem ao1{z:Zr}{rv:Value}{cs:List Nat}(x:nW h n z rv cs)(hz:z.told+z.aQ<=4000000000000000)(aC:100<=lf):ai (fun _=>False) n (au ah gt lf (d+2) 200 #[.agg (fZ z rv).toArray]) h n fun v' _ _=>v'= .int .i64 ((z.told+z.aQ:Nat):Int):=by
 have ez:(ib cs).1=z.aQ:=by rw[x.eq]
 rw[aL (fun _=>ajj) rfl]
 refine ai.aH ?_
 unfold YN
 refine jH trivial _ _ ?_
 obtain⟨h2,iV⟩:∃h2,h.set n (some ⟨233,true,(mf (fZ z rv).toArray).cells.toList⟩)=h2:=⟨_,rfl⟩
 have g2:h2.get n=some ⟨233,true,fZ z rv⟩:=by rw[<-iV,get_eq];rfl
 have x2:nW h2 (n+1) z rv cs:=x.aB (iP n) fun b hb=>by rw[<-iV,aD _ _ (by omega)]
 rw[iV]
 have hn:n<n+1:=gh n
 try simp(disch:=first|omega|assumption) only[af,aa,RZ]
 refine xe trivial n 2 _ g2 hn rfl fun T1 t1=> ?_
 try simp(disch:=first|omega|assumption) only[af,aa,RZ]
 refine xe trivial n 3 _ g2 hn rfl fun T2 t2=> ?_
 try simp(disch:=first|omega|assumption) only[af,aa,RZ]
 have hv:=ack (lf:=lf) (d:=d) cs x2.one (by have:=x2.len;omega) x2.row aC
 rw[ez]at hv
 refine xf aK hv (by omega) fun T3 t3=> ?_
 have w1:IntKind.i64.wrap (((z.told:Nat):Int)+((z.aQ:Nat):Int))=((z.told+z.aQ:Nat):Int):=by rw[aJ (by omega) (by omega)];rfl
 try simp(disch:=first|omega|assumption) only[af,aa,RZ,w1,t1.cA t3,cP,eh]
end
def pV(z:Zr)(rv:Value)(m p e:Int):List Value:=fZ z rv++[dG .i64 m,dG .i64 p,dG .i64 e]
def vu(n:Nat)(z:Zr)(rv:Value)(cs:List Nat)(c:Nat)(v':Value)(h':H)(n':Nat):Prop:=match dF z c with
 |none=>∃e:Int,(e=25∨e=2)∧v'= .agg (pV z rv 0 0 e).toArray
 |some (z',m,p)=>∃j8 cs',nW h' n' z' j8 cs'∧(∀b,aN j8 b->n<=b)∧v'= .agg (pV z' j8 (m:Int) (if p=0 then-1 else(p:Int)) 0).toArray
theorem vv{z:Zr}{rv:Value}(h:Ev.one rv=true)(m p e:Int):(pV z rv m p e).all Ev.one=true:=by
 unfold pV fZ
 simp only[ar6,uo,FI,R2,h]
 rfl
theorem nW.short{h:H}{n:Nat}{z:Zr}{rv:Value}{cs:List Nat}(x:nW h n z rv cs)(zo:z.Ok)(hm:z.most<=1000000):cs.length<=20:=by
 have hw:=Qx cs.length cs rfl
 rw[x.eq]at hw
 have hw:z.weight=2^cs.length:=hw
 have:=zo.w2
 have:=zo.all
 rcases Nat.lt_or_ge 20 cs.length with q|q
 ·have:2^21<=2^cs.length:=ur (by decide) q
  have e:(2:Nat)^21=2097152:=rfl
  omega
 ·exact q
section
variable {lf d n:Nat} {h:H}
theorem CE{n0 n rb:Nat}{h:H}{t:TypeId}{cs vs:List Value}{Q:Value->H->Nat->Prop}(hv:vs.length=8)(h1:vs.all Ev.one=true)(hc:cs.length=8)(gr:h.get rb=some ⟨t,true,cs⟩)(hr:rb<n)(Qw:n0<=rb)(y:∀h',(∀c,c≠rb->h'.get c=h.get c)->Q (.agg vs.toArray) h' n):ai (fun _=>False) n0 (aX 8 (.pointer (some ⟨rb,0,none⟩)) (.agg vs.toArray) fun _=>bx 8 (.pointer (some ⟨rb,0,none⟩)) fun b=>aj [b]) h n Q:=by
 refine db trivial hv hc h1 gr hr (.inl Qw) _ fun h' g' k'=> ?_
 exact fQ trivial trivial g' hv hr (y h' k')
theorem acm{z:Zr}{rv:Value}{cs:List Nat}(x:nW h n z rv cs)(zo:z.Ok)(hm:z.most<=1000000)(c:Nat)(hc:c<=1000)(aC:100<=lf):ai (fun _=>False) n (au ah gt lf (d+3) 165 #[.agg (fZ z rv).toArray,.int .i64 (c:Int)]) h n (vu n z rv cs c):=by
 have hn:=zo.hi
 have ku:=zo.all
 have hsh:=x.short zo hm
 have JP:Ev.one rv=true:=by
  obtain⟨a,b,e⟩:=x.row.len
  rw[e]
  rfl
 rw[aL (fun _=>aiL) rfl]
 refine ai.aH ?_
 unfold X4
 refine jH trivial _ _ ?_
 refine fq rfl _ ?_
 obtain⟨h2,iV⟩:∃h2,(h.set n (some ⟨233,true,(mf (fZ z rv).toArray).cells.toList⟩)).set (n+1) (some ⟨235,true,mz⟩)=h2:=⟨_,rfl⟩
 have g2:h2.get n=some ⟨233,true,fZ z rv⟩:=by rw[<-iV,aD _ _ (by omega),get_eq];rfl
 have gd:h2.get (n+1)=some ⟨235,true,mz⟩:=by rw[<-iV,get_eq]
 have x2:nW h2 (n+1+1) z rv cs:=x.aB (by omega) fun b hb=>by rw[<-iV,aD _ _ (by omega),aD _ _ (by omega)]
 rw[iV]
 clear iV
 have l0:n<n+1+1:=by omega
 have l1:n+1<n+1+1:=by omega
 have g3:h2.get n=some ⟨233,true,[.int .i64 (z.n:Int),.int .i64 (z.most:Int),.int .i64 (z.told:Int),rv,.bool false]⟩:=by rw[g2];unfold fZ;rw[zo.nd]
 have c0:¬((c:Nat):Int)<0:=by omega
 have w1:IntKind.i64.wrap (((z.n:Nat):Int)+1)=((z.n+1:Nat):Int):=by rw[aJ (by omega) (by omega)];rfl
 by_cases ca:z.n+1<c
 ·have c1:((z.n+1:Nat):Int)<((c:Nat):Int):=by omega
  have ep:dF z c=none:=by unfold dF;rw[if_pos ca]
  have w2:((z.n:Nat):Int)+1=((z.n+1:Nat):Int):=rfl
  try simp(disch:=first|omega|assumption) only[af,aa,RZ,g3,c0,w1,w2,c1]
  refine jy trivial trivial n 0 _ g2 l0 (show 0+5<=5 by omega) ?_
  refine CE (vs:=pV z rv 0 0 25) rfl (vv JP _ _ _) rfl gd l1 (by omega) fun h' _=> ?_
  unfold vu
  rw[ep]
  exact⟨25,.inl rfl,rfl⟩
 have c1:¬((z.n+1:Nat):Int)<((c:Nat):Int):=by omega
 have w2:((z.n:Nat):Int)+1=((z.n+1:Nat):Int):=rfl
 try simp(disch:=first|omega|assumption) only[af,aa,RZ,g3,c0,w1,w2,c1]
 refine jy trivial trivial n 0 _ g2 l0 (show 0+5<=5 by omega) ?_
 refine fq rfl _ ?_
 refine qA (sz:=5) (off:=0) (e:=233) (cs:=z233) trivial (vs:=fZ z rv) rfl rfl (by unfold fZ;simp only[FI,R2,JP];rfl) (get_eq _ _ _) (by omega) (by decide) (.inl (by omega)) _ fun h4 g4 k4=> ?_
 have xN:∀b,b<n+1+1->h4.get b=h2.get b:=fun b hb=>by rw[k4 b (by omega),aD _ _ (by omega)]
 have JQ:=(xN (n+1) l1).trans gd
 have g24:=(xN n l0).trans g2
 have Fu:=(xN n l0).trans g3
 have x4:nW h4 (n+1+1+1) z rv cs:=x2.aB (by omega) xN
 have Fv:h4.get (n+1+1)=some ⟨233,true,fZ z rv⟩:=g4
 clear g4 k4 g2 g3 gd x2
 have l2:n+1+1<n+1+1+1:=by omega
 have l03:n<n+1+1+1:=by omega
 have Qy:n+1<n+1+1+1:=by omega
 have JR:h4.get (n+1+1)=some ⟨233,true,[.int .i64 (z.n:Int),.int .i64 (z.most:Int),.int .i64 (z.told:Int),rv,.bool false]⟩:=by rw[Fv];unfold fZ;rw[zo.nd]
 have cF:n<=n+1+1:=by omega
 have Qz:n+1≠n+1+1:=by omega
 have nd0:n≠n+1+1:=by omega
 have acn:∀(h':H) (n':Nat) (z':Zr),z'.aQ=0->z'.weight=1->nW h' n' z' nS []:=fun h' n' z' e1 e2=>⟨(Own.nil h' 0 n' 3).row (k:= .i64) (xs:=[]),fun c hc=>(by cases hc),by decide,by rw[e1,e2];rfl⟩
 by_cases cb:c<=1
 ·have c2:((c:Nat):Int)<2:=by omega
  try simp(disch:=first|omega|assumption) only[af,aa,RZ,c2,Fu]
  refine agJ trivial (Own.nil h4 n (n+1+1+1) 3) x4.row (by rw[show(iN cs).length=cs.length by unfold iN;rw[dL]];show 0+_<=_;omega) (an n) (by omega) _ fun v5 h5 n5 tG o5 i5 k5=> ?_
  rw[uo]at o5
  have k5':∀b,b<n+1+1+1->h5.get b=h4.get b:=fun b hb=>k5 b hb rZ
  have il:(aS .i64 (iN cs)).length=cs.length:=by rw[eJ];unfold iN;rw[dL]
  refine uZ trivial rfl o5 (by rw[il];omega) (an n) _ fun h6 gr6 k6=> ?_
  rw[il]
  have qN:∀b,b<n+1+1+1->h6.get b=h4.get b:=fun b hb=>(k6 b (by omega) fun q=>by
   rcases i5 b q with q|q
   ·exact rZ q
   ·omega).trans (k5' b hb)
  obtain⟨z1,tM⟩:∃z1:Zr,z1={z with aQ:=z.aQ+z.weight*2^c,weight:=2*z.weight}:=⟨_,rfl⟩
  have cw:(ib (cs++[c]))=(z1.aQ,z1.weight):=by
   rw[JO,x.eq,tM]
   have:c=0∨c=1:=by omega
   rcases this with rfl|rfl
   ·simp
   ·simp;omega
  have xg:∀(h':H) (n':Nat),h'.get (n5+1)=h6.get (n5+1)->n5+1<n'->n<=n5+1->nW h' n' z1 (.slice (some ⟨n5+1,0,none⟩) (cs.length+1) (bq+(cs.length+1))) (cs++[c]):=fun h' n' e1 e2 e3=>by
   refine⟨Own.row (lo:=n) (.inr ⟨n5+1, ?_, ?_,by omega,by omega⟩),fun q hq=> ?_,by rw[bX];show cs.length+1<=40;omega,cw⟩
   ·rw[show(aS .i64 (iN (cs++[c]))).length=cs.length+1 by rw[eJ];unfold iN;rw[dL,bX];rfl]
   ·rw[e1,gr6]
    unfold iN aS
    simp
   ·rcases List.mem_append.1 hq with q2|q2
    ·exact x.one q q2
    ·rw[List.mem_singleton.1 q2];exact cb
  have CF:=(qN (n+1+1) l2).trans JR
  have l26:n+1+1<n5+2:=by omega
  try simp(disch:=first|omega|assumption) only[af,aa,RZ,CF,cF]
  generalize hrw:(kf (some ⟨n5+1,0,none⟩) (cs.length+1) (bq+(cs.length+1)))=AF at xg⊢
  have o6:Ev.one AF=true:=by rw[<-hrw];rfl
  obtain⟨h7,Fw⟩:∃h7,h6.set (n+1+1) (some ⟨233,true,[.int .i64 (z.n:Int),.int .i64 (z.most:Int),.int .i64 (z.told:Int),AF,.bool false]⟩)=h7:=⟨_,rfl⟩
  have ec:[dG .i64 (z.n:Int),.int .i64 (z.most:Int),.int .i64 (z.told:Int),AF,.bool false]=fZ z1 AF:=by
   rw[tM]
   unfold fZ
   rw[zo.nd]
  have g7:h7.get (n+1+1)=some ⟨233,true,fZ z1 AF⟩:=by rw[<-Fw,get_eq,ec]
  have k7:∀b,b<n+1+1->h7.get b=h4.get b:=fun b hb=>by rw[<-Fw,aD _ _ (by omega)];exact qN b (by omega)
  have e76:h7.get (n5+1)=h6.get (n5+1):=by rw[<-Fw,aD _ _ (by omega)]
  have x7:=xg h7 (n5+2) e76 (by omega) (by omega)
  rw[Fw]
  clear Fw gr6 k6 qN CF k5' k5 i5 o5 x4
  have zz:z1.told=z.told∧z1.aQ=z.aQ+z.weight*2^c:=by rw[tM];exact⟨rfl,rfl⟩
  have w22:=zo.w2
  have h2c:2^c<=2:=by
   have:c=0∨c=1:=by omega
   rcases this with rfl|rfl<;>decide
  have hwc:z.weight*2^c<=z.weight*2:=Kv _ h2c
  refine OQ trivial trivial (n+1+1) 0 _ g7 l26 (show 0+5<=5 by omega) fun T1 _=> ?_
  refine CD aK (ao1 (lf:=lf) (d:=d) x7 (by omega) aC) ?_
  rintro v8 h8 n8 L8 hn8 AG rfl r8
  have g28:h8.get n=some ⟨233,true,fZ z rv⟩:=((AG n (by omega)).trans (k7 n (by omega))).trans g24
  have gd8:=((AG (n+1) (by omega)).trans (k7 (n+1) (by omega))).trans JQ
  have g78:=(AG (n+1+1) l26).trans g7
  try simp(disch:=first|omega|assumption) only[af,aa,RZ]
  refine gZ trivial n 1 _ g28 (show n<n5+2 by omega) hn8 rfl fun T9 t9=> ?_
  by_cases ce:z.most<z.told+z.aQ+z.weight*2^c
  ·have zg:((z.most:Nat):Int)<((z1.told+z1.aQ:Nat):Int):=by omega
   have ep:dF z c=none:=by
    unfold dF
    rw[if_neg ca,if_pos cb,if_pos ce]
   try simp(disch:=first|omega|assumption) only[af,aa,RZ,zg,r8.cA t9,cP,eh]
   refine jy trivial trivial n 0 _ g28 (by omega) (show 0+5<=5 by omega) ?_
   refine CE (vs:=pV z rv 0 0 2) rfl (vv JP _ _ _) rfl gd8 (by omega) (by omega) fun h' _=> ?_
   unfold vu
   rw[ep]
   exact⟨2,.inr rfl,rfl⟩
  ·have zg:¬((z.most:Nat):Int)<((z1.told+z1.aQ:Nat):Int):=by omega
   have ep:dF z c=some (z1,0,0):=by
    unfold dF
    rw[if_neg ca,if_pos cb,if_neg ce,tM]
   try simp(disch:=first|omega|assumption) only[af,aa,RZ,zg,r8.cA t9,cP,eh]
   refine jy trivial trivial (n+1+1) 0 _ g78 (by omega) (show 0+5<=5 by omega) ?_
   refine CE (vs:=pV z1 AF 0 (-1) 0) rfl (vv o6 _ _ _) rfl gd8 (by omega) (by omega) fun h' k'=> ?_
   unfold vu
   rw[ep]
   exact⟨AF,cs++[c],xg _ _ ((k' (n5+1) (by omega)).trans ((AG (n5+1) (by omega)).trans e76)) (by omega) (by omega),fun b hb=>by rw[<-hrw]at hb;rw[hb.inj];omega,rfl⟩
 ·have c2:¬((c:Nat):Int)<2:=by omega
  have hv:=ack (lf:=lf) (d:=d+1) cs x4.one (by have:=x4.len;omega) x4.row aC
  have ez:(ib cs).1=z.aQ:=by rw[x.eq]
  rw[ez]at hv
  have wt:IntKind.i64.wrap (((z.told:Nat):Int)+((z.aQ:Nat):Int))=((z.told+z.aQ:Nat):Int):=by rw[aJ (by omega) (by omega)];rfl
  have QA:((z.told:Nat):Int)+((z.aQ:Nat):Int)=((z.told+z.aQ:Nat):Int):=rfl
  have QB:IntKind.i64.wrap ((z.told+z.aQ:Nat):Int)=((z.told+z.aQ:Nat):Int):=aJ (by omega) (by omega)
  try simp(disch:=first|omega|assumption) only[af,aa,RZ,c2,Fu]
  refine bL hv (by omega) (fun _ _ h=>h.elim) ?_
  by_cases cd:c=z.n+1
  ·have zd:(((c:Nat):Int)==((z.n+1:Nat):Int))=true:=by rw[cd];exact beq_iff_eq.2 rfl
   try simp(disch:=first|omega|assumption) only[af,aa,RZ,Fu,JR,wt,QA,QB,w1,w2,zd,cF]
   refine jy trivial trivial (n+1+1) 0 _ (get_eq _ _ _) l2 (show 0+5<=5 by omega) ?_
   have ep:dF z c=some ({z with told:=z.told+z.aQ,aQ:=0,weight:=1,done:=true},z.aQ,0):=by
    unfold dF
    rw[if_neg ca,if_neg cb,if_pos cd]
   refine CE (vs:=pV {z with told:=z.told+z.aQ,aQ:=0,weight:=1,done:=true} nS (z.aQ:Int) (-1) 0) rfl (vv rfl _ _ _) rfl (by simp only[aD _ _ Qz];exact JQ) Qy (by omega) fun h' _=> ?_
   unfold vu
   rw[ep]
   exact⟨nS,[],acn _ _ _ rfl rfl,fun b hb=>(aN.not_nil hb).elim,rfl⟩
  ·have zd:(((c:Nat):Int)==((z.n+1:Nat):Int))=false:=beq_eq_false_iff_ne.2 (by omega)
   have wq:IntKind.i64.wrap (((z.told+z.aQ:Nat):Int)+1)=((z.told+z.aQ+1:Nat):Int):=by rw[aJ (by omega) (by omega)];rfl
   have QC:((z.told+z.aQ:Nat):Int)+1=((z.told+z.aQ+1:Nat):Int):=rfl
   have QD:IntKind.i64.wrap ((z.told+z.aQ+1:Nat):Int)=((z.told+z.aQ+1:Nat):Int):=aJ (by omega) (by omega)
   by_cases ce:z.told+z.aQ=z.most
   ·have zg:((z.most:Nat):Int)<((z.told+z.aQ+1:Nat):Int):=by omega
    try simp(disch:=first|omega|assumption) only[af,aa,RZ,Fu,JR,wt,QA,QB,w1,w2,zd,cF,wq,QC,QD,zg]
    refine jy (B:=⟨233,true,fZ z rv⟩) trivial trivial n 0 _ (by simp only[aD _ _ nd0];exact g24) l03 (show 0+5<=5 by omega) ?_
    have ep:dF z c=none:=by
     unfold dF
     rw[if_neg ca,if_neg cb,if_neg cd,if_pos ce]
    refine CE (vs:=pV z rv 0 0 2) rfl (vv JP _ _ _) rfl (by simp only[aD _ _ Qz];exact JQ) Qy (by omega) fun h' _=> ?_
    unfold vu
    rw[ep]
    exact⟨2,.inr rfl,rfl⟩
   ·have zg:¬((z.most:Nat):Int)<((z.told+z.aQ+1:Nat):Int):=by omega
    try simp(disch:=first|omega|assumption) only[af,aa,RZ,Fu,JR,wt,QA,QB,w1,w2,zd,cF,wq,QC,QD,zg]
    refine jy trivial trivial (n+1+1) 0 _ (get_eq _ _ _) l2 (show 0+5<=5 by omega) ?_
    have ep:dF z c=some ({z with told:=z.told+1+z.aQ,aQ:=0,weight:=1},z.aQ,c-1):=by
     unfold dF
     rw[if_neg ca,if_neg cb,if_neg cd,if_neg ce]
    rw[show z.told+1+z.aQ=z.told+z.aQ+1 by omega]at ep
    have hcm:((c:Nat):Int)-1=(if c-1=0 then-1 else((c-1:Nat):Int)):=by
     rw[if_neg (by omega)]
     omega
    rw[hcm]
    generalize dX:(if c-1=0 then-1 else((c-1:Nat):Int))=pl
    generalize z.told+z.aQ+1=tt at ep⊢
    clear hcm zg wq QC QD
    rw[show({z with told:=tt,aQ:=0,weight:=1}:Zr)={z with told:=tt,aQ:=0,weight:=1,done:=false} by rw[<-zo.nd]]at ep
    refine CE (vs:=pV {z with told:=tt,aQ:=0,weight:=1,done:=false} nS (z.aQ:Int) pl 0) rfl (vv rfl _ _ _) rfl (by simp only[aD _ _ Qz];exact JQ) Qy (by omega) fun h' _=> ?_
    unfold vu
    rw[ep]
    exact⟨nS,[],acn _ _ _ rfl rfl,fun b hb=>(aN.not_nil hb).elim,by rw[dX]⟩
end
theorem aco{z0:Zr}{cs:List Nat}{i:Nat}{z:Zr}{ps:List Nat}(hi:i<cs.length)(h:dZ z0 (cs.take i)=some (z,ps)):dZ z0 (cs.take (i+1))=match dF z cs[i]with
 |none=>none
 |some (z',n,p)=>some (z',ps++(cr n 0++jn p)):=by
 rw[qa hi]
 exact JJ _ _ _ _ _ h
theorem Fx{z0:Zr}:∀(a b:List Nat),dZ z0 a=none->dZ z0 (a++b)=none
 |[],b,h=>by cases h
 |c::a,b,h=>by
  unfold dZ at h
  show(match dF z0 c with
   |none=>none
   |some (z',n,p)=>match dZ z' (a++b)with
    |none=>none
    |some (z2,ps)=>some (z2,(cr n 0++jn p)++ps))=none
  cases e:dF z0 c with
  |none=>rfl
  |some t=>
   obtain⟨z',n,p⟩:=t
   rw[e]at h
   simp only at h⊢
   cases e2:dZ z' a with
   |none=>rw[Fx a b e2]
   |some t2=>rw[e2]at h;cases h
section
variable {lf d n:Nat} {h:H}
theorem ao2{v:Value}(cs:List Nat)(nn room:Nat)(h1:1<=nn)(h2:nn<=256)(hm:room<=1000000)(fI:∀c∈cs,c<=1000)(oS:∀i,i+1<cs.length->cs.getD i 0≠nn+1)(hR:Row h n 3 .i64 v (iN cs))(hl:cs.length<=100000000)(aC:100<=lf)(Cz:cs.length<lf):
 ai (fun _=>False) n (au ah gt lf (d+4) 130 #[v,.int .i64 (nn:Int),.int .i64 (room:Int)]) h n fun v' _ _=>if(dZ (fG nn room) cs).isSome=true then v'= .int .i64 0 else∃e:Int,e≠0∧v'= .int .i64 e:=by
 rw[aL (fun _=>ahY) rfl]
 refine ai.aH ?_
 unfold NW
 have il:(iN cs).length=cs.length:=by unfold iN;rw[dL]
 have kl:∀K:Value->M Value,bO v K=K (.int .i64 (cs.length:Int)):=fun K=>by
  obtain⟨a,c,e⟩:=hR.len
  rw[e,il]
  rfl
 try simp(disch:=first|omega|assumption) only[af,aa,RZ]
 refine fq rfl _ ?_
 refine qA (sz:=5) (off:=0) (e:=233) (cs:=z233) trivial (vs:=fZ (fG nn room) nS) rfl rfl rfl (get_eq _ _ _) (by omega) (by decide) (.inl (an n)) _ fun h4 g4 k4=> ?_
 have xN:∀b,b<n->h4.get b=h.get b:=fun b hb=>by rw[k4 b (by omega),aD _ _ (by omega)]
 have Fv:h4.get n=some ⟨233,true,fZ (fG nn room) nS⟩:=g4
 try simp(disch:=first|omega|assumption) only[af,aa,RZ,kl]
 refine eD cs.length (fun fu i (_:Unit)=>zG lf (au ah gt lf (d+3)) fu (DY lf (au ah gt lf (d+3))) v (.int .i64 (nn:Int)) (.int .i64 (room:Int)) (.int .i64 0) (.pointer (some ⟨n,0,none⟩)) v (.int .i64 (cs.length:Int)) (.int .i64 (i:Nat))) (fun i _ h' n'=>n<n'∧(∀b,b<n->h'.get b=h.get b)∧∃z rv q ps,dZ (fG nn room) (cs.take i)=some (z,ps)∧z.n=nn∧z.most=room∧(i<cs.length->z.Ok)∧h'.get n=some ⟨233,true,fZ z rv⟩∧nW h' n' z rv q) ?_ ?_ lf 0 () h4 (n+1) (aR _) (by omega) ⟨gh n,xN,fG nn room,nS,[],[],rfl,rfl,rfl,fun _=>Jn h1 h2 (by omega),Fv,⟨(Own.nil h4 0 (n+1) 3).row (k:= .i64) (xs:=[]),fun c hc=>(by cases hc),by decide,rfl⟩⟩
 ·rintro fu _ h' n' ⟨q1,q2,z,rv,q,ps,e1,_⟩
  rw[mh]at e1
  rw[zG]
  try simp(disch:=first|omega|assumption) only[af,aa,RZ,fg]
  unfold DY
  rw[lX,e1,if_pos (show(some (z,ps)).isSome=true from rfl)]
 ·rintro fu i _ h' n' hi ⟨q1,q2,z,rv,q,ps,e1,e2,e3,e4,e5,e6⟩ next
  have c1:((i:Nat):Int)<((cs.length:Nat):Int):=by omega
  have w1:((i:Nat):Int)+1=((i+1:Nat):Int):=rfl
  have pH:=hR.aB (arL q1) q2
  obtain⟨bb,off,cap,o,ks,ev,hg,lR,_,_,_,gQ⟩:=pH.some (by omega)
  have a1:=gQ i (by omega)
  have e0:(iN cs).getD i 0=((cs[i]:Nat):Int):=by
   unfold iN
   rw[bC,jC,bD hi]
   rfl
  rw[e0]at a1
  rw[il]at ev
  have kx:∀K:Value->M Value,dO v (.int .i64 (i:Int)) K=K (.pointer (some ⟨bb,off+i,none⟩)):=fun K=>by
   rw[ev]
   try simp(disch:=first|omega|assumption) only[af,aa,RZ,c1]
  have hz:=aco hi e1
  rw[zG]
  try simp(disch:=first|omega|assumption) only[af,aa,RZ,c1,kx,hg,a1]
  refine jy trivial trivial n 0 _ e5 q1 (show 0+5<=5 by omega) ?_
  refine aU aK (acm (lf:=lf) (d:=d) e6 (e4 hi) (by omega) cs[i] (fI _ (eu hi)) aC) (by omega) (fun _ _ h=>h.elim) fun v5 h5 n5 tG tX nT=> ?_
  unfold vu at nT
  have whole:∀x,dZ (fG nn room) (cs.take (i+1))=x->x=none->dZ (fG nn room) cs=none:=fun x q3 q4=>by
   rw[<-RG (i+1) cs]
   exact Fx _ _ (q3.trans q4)
  cases ep:dF z cs[i]with
  |none=>
   rw[ep]at nT hz
   obtain⟨e,he,rfl⟩:=nT
   refine fq rfl _ ?_
   refine qA (sz:=8) (off:=0) (e:=235) (cs:=mz) trivial (vs:=pV z rv 0 0 e) rfl rfl (vv (by
    obtain⟨a,b,e⟩:=e6.row.len
    rw[e]
    rfl) _ _ _) (get_eq _ _ _) (by omega) (by decide) (.inl (by omega)) _ fun h6 g6 k6=> ?_
   have ze:(e !=0)=true:=by rw[bne_iff_ne];omega
   have vw:h6.get n5=some ⟨235,true,[.int .i64 (z.n:Int),.int .i64 (z.most:Int),.int .i64 (z.told:Int),rv,.bool z.done,.int .i64 0,.int .i64 0,.int .i64 e]⟩:=g6
   have l6:n5<n5+1:=gh n5
   try simp(disch:=first|omega|assumption) only[af,aa,RZ,vw,ze]
   unfold DY
   try simp(disch:=first|omega|assumption) only[af,aa,RZ]
   rw[whole _ hz rfl,if_neg (by decide)]
   exact⟨e,by omega,rfl⟩
  |some t=>
   obtain⟨z',m,p⟩:=t
   rw[ep]at nT hz
   obtain⟨j8,q',x5,_,rfl⟩:=nT
   have o5:Ev.one j8=true:=by
    obtain⟨a,b,e⟩:=x5.row.len
    rw[e]
    rfl
   obtain⟨p1,p2,p3,p4,p5,p6,p7⟩:=Jo (e4 hi) ep
   refine fq rfl _ ?_
   refine qA (sz:=8) (off:=0) (e:=235) (cs:=mz) trivial (vs:=pV z' j8 (m:Int) (if p=0 then-1 else(p:Int)) 0) rfl rfl (vv o5 _ _ _) (get_eq _ _ _) (by omega) (by decide) (.inl (by omega)) _ fun h6 g6 k6=> ?_
   generalize (if p=0 then-1 else(p:Int))=pl at g6⊢
   have qN:∀b,b<n5->h6.get b=h5.get b:=fun b hb=>by rw[k6 b (by omega),aD _ _ (by omega)]
   have ze:((0:Int) !=0)=false:=rfl
   have vw:h6.get n5=some ⟨235,true,[.int .i64 (z'.n:Int),.int .i64 (z'.most:Int),.int .i64 (z'.told:Int),j8,.bool z'.done,.int .i64 (m:Int),.int .i64 pl,.int .i64 0]⟩:=g6
   have l6:n5<n5+1:=gh n5
   have ss:=(qN n (by omega)).trans ((tX n q1 id).trans e5)
   try simp(disch:=first|omega|assumption) only[af,aa,RZ,vw,ze]
   refine jy trivial trivial n5 0 _ vw l6 (show 0+5<=8 by omega) ?_
   refine qA (sz:=5) (off:=0) (e:=233) (cs:=fZ z rv) trivial (vs:=fZ z' j8) rfl rfl (by unfold fZ;simp only[FI,R2,o5];rfl) ss (by omega) (by show 0+5<=5;omega) (.inl (an n)) _ fun h7 g7 k7=> ?_
   have QE:h7.get n=some ⟨233,true,fZ z' j8⟩:=g7
   try simp(disch:=first|omega|assumption) only[af,aa,RZ]
   rw[w1]
   refine next () h7 (n5+1) ⟨by omega,fun b hb=>by rw[k7 b (by omega),qN b (by omega),tX b (by omega) id,q2 b hb],z',j8,q',_,hz,p2.trans e2,p3.trans e3,fun gT=>p1 ?_,QE, ?_⟩
   ·rw[p5,decide_eq_false_iff_not,e2]
    have:=oS i gT
    rw[bC,bD hi]at this
    exact this
   ·refine⟨?_,x5.one,x5.len,x5.eq⟩
    have tG:=(tX n q1 id).trans e5
    rcases x5.row with q|⟨b,off,cap,o,ks,e1,e2,e3,e4⟩
    ·exact .inl q
    ·have fC:b≠n:=fun q=>by
      rw[q,tG]at e2
      cases e2
     exact .inr ⟨b,off,cap,o,ks,e1,(k7 b fC).trans ((qN b e3).trans e2),by omega,e4⟩
end
def mF:Nat->List (List Nat)->List Nat->Nat->List Bool->Nat->List Int
 |0,_,_,_,_,_=>[]
 |N+1,aT,took,size,bs,k=>if took.length<=k/50 then []else
  match iX (aT.getD (took.getD (k/50) 0) []) bs with
  |none=>[]
  |some s=>(s:Int)::(if s+1=size then []else mF N aT took size (bs.drop ((aT.getD (took.getD (k/50) 0) []).getD s 0)) (k+1))
def Fy(P:List Int->Bool):Ck:=fun out sym=>if P (out++[sym])=true then none else some 25
def qO:Ck:=fun _ _=>none
theorem ao3{aT:List (List Nat)}{took:List Nat}{size:Nat}(P:List Int->Bool)(mono:∀a b,P (a++b)=true->P a=true):∀(N:Nat) (bs:List Bool) (out:List Int) (a:Nat),P out=true->iq N aT took size bs (Fy P) out a=cond (P (out++mF N aT took size bs out.length)) (iq N aT took size bs qO out a) (.err 25):=by
 intro N
 induction N with
 |zero=>
  intro bs out a hp
  unfold mF
  rw[cu,hp]
  rfl
 |succ N ih=>
  intro bs out a hp
  unfold mF iq
  by_cases c1:took.length<=out.length/50
  ·rw[if_pos c1,if_pos c1,if_pos c1,cu,hp]
   rfl
  rw[if_neg c1,if_neg c1,if_neg c1]
  cases e:iX (aT.getD (took.getD (out.length/50) 0) []) bs with
  |none=>
   dsimp only
   rw[cu,hp]
   rfl
  |some s=>
   dsimp only
   have ct:qO out (s:Int)=none:=rfl
   rw[ct]
   by_cases c2:P (out++[(s:Int)])=true
   ·have cp:Fy P out (s:Int)=none:=if_pos c2
    rw[cp]
    dsimp only
    by_cases c3:s+1=size
    ·rw[if_pos c3,if_pos c3,if_pos c3,c2]
     rfl
    ·rw[if_neg c3,if_neg c3,if_neg c3,ih _ _ _ c2]
     rw[fA,RY,bX]
     rfl
   ·have cp:Fy P out (s:Int)=some 25:=if_neg c2
    rw[cp]
    dsimp only
    refine(show∀(b:Bool) (A:Rs),b=false->Rs.err 25=cond b A (.err 25)from fun b A q=>by rw[q];rfl) _ _ ?_
    refine Bool.eq_false_iff.2 fun q=> ?_
    refine c2 (mono _ (if s+1=size then []else mF N aT took size (bs.drop ((aT.getD (took.getD (out.length/50) 0) []).getD s 0)) (out.length+1)) ?_)
    rw[fA,RY]
    exact q
def lL(size:Nat)(bs:List Bool):List Int:=match ek (bs.length+1) hZ bs 0 with
 | .short=>[]
 | .bad _=>[]
 | .ok s a=>match eZ s.t size (bs.drop a) 0 []with
   | .short=>[]
   | .bad _=>[]
   | .ok lns u=>mF (bs.length+1) lns s.bJ size (bs.drop (a+u)) 0
theorem ao4(P:List Int->Bool)(mono:∀a b,P (a++b)=true->P a=true)(h0:P []=true)(size:Nat)(bs:List Bool):jN size bs (Fy P)=cond (P (lL size bs)) (jN size bs qO) (.err 25):=by
 unfold jN lL
 cases ek (bs.length+1) hZ bs 0 with
 |short=>dsimp only;rw[h0];rfl
 |bad e=>dsimp only;rw[h0];rfl
 |ok s a=>
  dsimp only
  cases eZ s.t size (bs.drop a) 0 []with
  |short=>dsimp only;rw[h0];rfl
  |bad e=>dsimp only;rw[h0];rfl
  |ok lns u=>
   dsimp only
   rw[ao3 P mono _ _ _ _ h0]
   rfl
def vx(n room:Nat)(l:List Int):Bool:=(dZ (fG n room) (fz l)).isSome
theorem ao5(n room:Nat):j7 n room=Fy (vx n room):=rfl
theorem ao6(n room:Nat)(a b:List Int)(h:vx n room (a++b)=true):vx n room a=true:=by
 unfold vx at h⊢
 have e:fz (a++b)=fz a++fz b:=by unfold fz;rw[qb]
 rw[e]at h
 cases q:dZ (fG n room) (fz a)with
 |none=>
  rw[Fx _ _ q]at h
  cases h
 |some t=>rfl
theorem acp(n room size:Nat)(bs:List Bool):jN size bs (j7 n room)=cond (vx n room (lL size bs)) (jN size bs qO) (.err 25):=by
 rw[ao5]
 exact ao4 _ (ao6 n room) rfl size bs
theorem ao7{aT:List (List Nat)}{took:List Nat}{size:Nat}:∀(N:Nat) (bs:List Bool) (k i:Nat),i+1<(mF N aT took size bs k).length->(mF N aT took size bs k).getD i 0+1≠(size:Int):=by
 intro N
 induction N with
 |zero=>intro bs k i h;exact absurd h (mJ _)
 |succ N ih=>
  intro bs k i h
  unfold mF at h⊢
  by_cases c1:took.length<=k/50
  ·rw[if_pos c1]at h
   exact absurd h (mJ _)
  rw[if_neg c1]at h⊢
  cases e:iX (aT.getD (took.getD (k/50) 0) []) bs with
  |none=>
   rw[e]at h
   exact absurd h (mJ _)
  |some s=>
   rw[e]at h
   dsimp only at h⊢
   by_cases c3:s+1=size
   ·rw[if_pos c3]at h
    have:i+1<1:=h
    omega
   ·rw[if_neg c3]at h⊢
    cases i with
    |zero=>
     show((s:Nat):Int)+1≠(size:Int)
     omega
    |succ i=>
     rw[dp]at h
     exact ih _ _ i (by omega)
theorem ao8{size:Nat}{bs:List Bool}(i:Nat)(h:i+1<(lL size bs).length):(lL size bs).getD i 0+1≠(size:Int):=by
 unfold lL at h⊢
 cases e:ek (bs.length+1) hZ bs 0 with
 |short=>rw[e]at h;exact absurd h (mJ _)
 |bad x=>rw[e]at h;exact absurd h (mJ _)
 |ok s a=>
  rw[e]at h
  dsimp only at h⊢
  cases e2:eZ s.t size (bs.drop a) 0 []with
  |short=>rw[e2]at h;exact absurd h (mJ _)
  |bad x=>rw[e2]at h;exact absurd h (mJ _)
  |ok lns u=>
   rw[e2]at h
   exact ao7 _ _ _ i h
def qP:List Bool:=dm [66,90,104]
def JS(l:List Bool):Bool:=decide (32<=l.length)&&(decide (l.take 24=qP)&&(decide (49<=num ((l.drop 24).take 8) 0)&&decide (num ((l.drop 24).take 8) 0<=57)))
section
variable {lf d n:Nat} {h:H}
theorem ao9(l:List Bool)(hl:l.length<=1000000)(aC:1000<=lf):ai (fun _=>False) n (au ah gt lf (d+3) 62 #[tx l]) h n fun v' h' n'=>v'= .bool (JS l)∧h'=h∧n'=n:=by
 rw[aL (fun _=>aho) rfl]
 refine ai.aH ?_
 unfold Wp JS
 by_cases c1:32<=l.length
 ·have z1:(32:Int)<=((l.length:Nat):Int):=by omega
  have a1:=fun(K:Value->M Value)=>EH l .i64 24 K (by omega) (by omega)
  have a2:=fun(K:Value->M Value)=>qG l .i64 .i64 24 32 K (by omega) (by omega) (by omega)
  have t24:((24:Int)).toNat=24:=rfl
  have t32:((32:Int)).toNat-((24:Int)).toNat=8:=rfl
  rw[t24]at a1
  rw[t32,t24]at a2
  try simp(disch:=first|omega|assumption) only[af,aa,RZ,cS,z1]
  rw[a1]
  refine lF _ _ fun T1 t1=> ?_
  try simp(disch:=first|omega|assumption) only[af,aa,RZ]
  refine xf aK (Ja (lf:=lf) (d:=d) (S:=[66,90,104]) (by decide) (by show 3<lf;omega) (by omega)) (an n) fun T2 t2=> ?_
  try simp(disch:=first|omega|assumption) only[af,aa,RZ]
  have hb:(dm [66,90,104]:List Bool)=qP:=rfl
  rw[hb,tO,decide_eq_true c1,xX]
  by_cases c2:l.take 24=qP
  ·rw[decide_eq_true c2,xX]
   try simp(disch:=first|omega|assumption) only[af,aa,RZ]
   have hn:=xL (lf:=lf) (d:=d+1) (n:=n) (h:=h) ((l.drop 24).take 8) (by rw[dr];omega) (by omega)
   generalize num ((l.drop 24).take 8) 0=q at hn⊢
   rw[a2]
   refine lF _ _ fun T3 t3=> ?_
   try simp(disch:=first|omega|assumption) only[af,aa,RZ]
   refine xf aK hn (an n) fun T4 t4=> ?_
   by_cases c3:49<=q
   ·have z3:(49:Int)<=((q:Nat):Int):=by omega
    rw[decide_eq_true c3,xX]
    try simp(disch:=first|omega|assumption) only[af,aa,RZ,z3]
    refine lF _ _ fun T5 t5=> ?_
    try simp(disch:=first|omega|assumption) only[af,aa,RZ]
    refine xf aK hn (an n) fun T6 t6=> ?_
    by_cases c4:q<=57
    ·have z4:((q:Nat):Int)<=57:=by omega
     rw[decide_eq_true c4]
     try simp(disch:=first|omega|assumption) only[af,aa,RZ,z4,t1.cA t2,cP,eh]
    ·have z4:¬((q:Nat):Int)<=57:=by omega
     rw[decide_eq_false c4]
     try simp(disch:=first|omega|assumption) only[af,aa,RZ,z4,t1.cA t2,cP,eh]
   ·have z3:¬(49:Int)<=((q:Nat):Int):=by omega
    rw[decide_eq_false c3,Kr]
    try simp(disch:=first|omega|assumption) only[af,aa,RZ,z3]
    refine lF _ _ fun T5 t5=> ?_
    refine lF _ _ fun T6 t6=> ?_
    try simp(disch:=first|omega|assumption) only[af,aa,RZ,t1.cA t2,cP,eh]
  ·rw[decide_eq_false c2,Kr]
   try simp(disch:=first|omega|assumption) only[af,aa,RZ]
   refine lF _ _ fun T3 t3=> ?_
   refine lF _ _ fun T4 t4=> ?_
   refine lF _ _ fun T5 t5=> ?_
   refine lF _ _ fun T6 t6=> ?_
   try simp(disch:=first|omega|assumption) only[af,aa,RZ,t1.cA t2,cP,eh]
 ·have z1:¬(32:Int)<=((l.length:Nat):Int):=by omega
  rw[decide_eq_false c1,Kr]
  try simp(disch:=first|omega|assumption) only[af,aa,RZ,cS,z1]
  refine lF _ _ fun T1 t1=> ?_
  refine lF _ _ fun T2 t2=> ?_
  refine lF _ _ fun T3 t3=> ?_
  refine lF _ _ fun T4 t4=> ?_
  refine lF _ _ fun T5 t5=> ?_
  refine lF _ _ fun T6 t6=> ?_
  try simp(disch:=first|omega|assumption) only[af,aa,RZ,t1.cA t2,cP,eh]
end
theorem ao'{S:List UInt8}{room:Nat}:∀(N M a t:Nat),(ax S 0 a).length<48*N->(ax S 0 a).length<48*M->fc S room N a t=fc S room M a t:=by
 intro N
 induction N with
 |zero=>intro M a t h;omega
 |succ N ih=>
  intro M a t h1 h2
  obtain⟨M,rfl⟩:∃m,M=m+1:=⟨M-1,by omega⟩
  unfold fc
  by_cases c1:(ax S 0 a).length<48
  ·rw[if_pos c1,if_pos c1]
  rw[if_neg c1,if_neg c1]
  by_cases c2:num ((ax S 0 a).take 48) 0=jA
  ·rw[if_pos c2,if_pos c2]
   cases m6 room (ax S 0 (a+48))with
   |short=>rfl
   |bad e=>rfl
   |ok g w=>
    dsimp only
    cases hH g with
    |error e=>rfl
    |ok x=>
     dsimp only
     have l1:=eX S 0 (a+48+w)
     have l2:=eX S 0 a
     rw[ih M (a+48+w) (fy t g.sum) (by omega) (by omega)]
  ·rw[if_neg c2,if_neg c2]
def acq(n:Nat)(pl:List Nat)(v':Value)(h':H)(n':Nat):Prop:=∃pv,v'= .tuple #[pv,.int .i64 0]∧Own h' (n+1) n' 3 pv (aS .i64 (iN pl))
section
variable {lf d n:Nat} {h:H}
theorem ao_ {v:Value} (cs:List Nat) (nn room:Nat) (h1:1<=nn) (h2:nn<=256) (hm:room<=1000000) (fI:∀c∈cs,c<=1000) (oS:∀i,i+1<cs.length->cs.getD i 0≠nn+1) (hR:Row h n 3 .i64 v (iN cs)) (hl:cs.length<=100000000) (aC:2000000<=lf) (Cz:cs.length<lf)
 {zl:Zr} {pl:List Nat} (hz:dZ (fG nn room) cs=some (zl,pl)) (hd:zl.done=true):
 ai (fun _=>False) n (au ah gt lf (d+4) 132 #[v,.int .i64 (nn:Int),.int .i64 (room:Int)]) h n (acq n pl):=by
 rw[aL (fun _=>ah3) rfl]
 refine ai.aH ?_
 unfold NY
 have il:(iN cs).length=cs.length:=by unfold iN;rw[dL]
 have kl:∀K:Value->M Value,bO v K=K (.int .i64 (cs.length:Int)):=fun K=>by
  obtain⟨a,c,e⟩:=hR.len
  rw[e,il]
  rfl
 have q1:¬((nn:Nat):Int)<1:=by omega
 have q2:¬(256:Int)<((nn:Nat):Int):=by omega
 have q3:¬((room:Nat):Int)<0:=by omega
 have q4:¬(1099511627776:Int)<((room:Nat):Int):=by omega
 try simp(disch:=first|omega|assumption) only[af,aa,RZ,q1,q2,q3,q4]
 refine fq rfl _ ?_
 refine qA (sz:=5) (off:=0) (e:=233) (cs:=z233) trivial (vs:=fZ (fG nn room) nS) rfl rfl rfl (get_eq _ _ _) (by omega) (by decide) (.inl (an n)) _ fun h4 g4 k4=> ?_
 have Fv:h4.get n=some ⟨233,true,fZ (fG nn room) nS⟩:=g4
 have xN:∀b,b<n->h4.get b=h.get b:=fun b hb=>by rw[k4 b (by omega),aD _ _ (by omega)]
 try simp(disch:=first|omega|assumption) only[af,aa,RZ,kl]
 refine eD cs.length (fun fu i (o:Value)=>u7 lf (au ah gt lf (d+3)) fu (BM lf (au ah gt lf (d+3))) v (.int .i64 (nn:Int)) (.int .i64 (room:Int)) nS (.int .i64 0) (.pointer (some ⟨n,0,none⟩)) o (.bool false) v (.int .i64 (cs.length:Int)) (.int .i64 (i:Nat))) (fun i o h' n'=>n<n'∧(∀b,b<n->h'.get b=h.get b)∧∃z rv q ps,dZ (fG nn room) (cs.take i)=some (z,ps)∧z.n=nn∧z.most=room∧(i<cs.length->z.Ok)∧h'.get n=some ⟨233,true,fZ z rv⟩∧nW h' n' z rv q∧Own h' (n+1) n' 3 o (aS .i64 (iN ps))∧ps.length<=i+z.told) ?_ ?_ lf 0 nS h4 (n+1) (aR _) (by omega) ⟨gh n,xN,fG nn room,nS,[],[],rfl,rfl,rfl,fun _=>Jn h1 h2 (by omega),Fv,⟨(Own.nil h4 0 (n+1) 3).row (k:= .i64) (xs:=[]),fun c hc=>(by cases hc),by decide,rfl⟩,Own.nil _ _ _ _,aR _⟩
 ·rintro fu o h' n' ⟨q1,q2,z,rv,q,ps,e1,e2,e3,e4,e5,e6,e7,e8⟩
  rw[mh,hz]at e1
  cases e1
  have e5':h'.get n=some ⟨233,true,[.int .i64 (zl.n:Int),.int .i64 (zl.most:Int),.int .i64 (zl.told:Int),rv,.bool true]⟩:=by rw[e5,<-hd];rfl
  rw[u7]
  try simp(disch:=first|omega|assumption) only[af,aa,RZ,fg]
  unfold BM
  try simp(disch:=first|omega|assumption) only[af,aa,RZ,e5',q1]
  exact⟨o,rfl,e7⟩
 ·rintro fu i o h' n' hi ⟨q1,q2,z,rv,q,ps,e1,e2,e3,e4,e5,e6,e7,e8⟩ next
  have c1:((i:Nat):Int)<((cs.length:Nat):Int):=by omega
  have w1:((i:Nat):Int)+1=((i+1:Nat):Int):=rfl
  have pH:=hR.aB (arL q1) q2
  obtain⟨bb,off,cap,oo,ks,ev,hg,lR,_,_,_,gQ⟩:=pH.some (by omega)
  have a1:=gQ i (by omega)
  have e0:(iN cs).getD i 0=((cs[i]:Nat):Int):=by
   unfold iN
   rw[bC,jC,bD hi]
   rfl
  rw[e0]at a1
  rw[il]at ev
  have kx:∀K:Value->M Value,dO v (.int .i64 (i:Int)) K=K (.pointer (some ⟨bb,off+i,none⟩)):=fun K=>by
   rw[ev]
   try simp(disch:=first|omega|assumption) only[af,aa,RZ,c1]
  have JT:=aco hi e1
  have zo:=e4 hi
  rw[u7]
  try simp(disch:=first|omega|assumption) only[af,aa,RZ,c1,kx,hg,a1]
  refine jy trivial trivial n 0 _ e5 q1 (show 0+5<=5 by omega) ?_
  refine aU aK (acm (lf:=lf) (d:=d) e6 zo (by omega) cs[i] (fI _ (eu hi)) (by omega)) (by omega) (fun _ _ h=>h.elim) fun v5 h5 n5 tG tX nT=> ?_
  unfold vu at nT
  cases ep:dF z cs[i]with
  |none=>
   rw[ep]at JT
   have:dZ (fG nn room) cs=none:=by
    rw[<-RG (i+1) cs]
    exact Fx _ _ JT
   rw[hz]at this
   cases this
  |some t=>
   obtain⟨z',m,p⟩:=t
   rw[ep]at nT JT
   obtain⟨j8,q',x5,f5,rfl⟩:=nT
   have o5:Ev.one j8=true:=by
    obtain⟨a,b,e⟩:=x5.row.len
    rw[e]
    rfl
   obtain⟨p1,p2,p3,p4,p5,p6,p7⟩:=Jo zo ep
   have ptl:=Qh ep
   have ku:=p7
   refine fq rfl _ ?_
   refine qA (sz:=8) (off:=0) (e:=235) (cs:=mz) trivial (vs:=pV z' j8 (m:Int) (if p=0 then-1 else(p:Int)) 0) rfl rfl (vv o5 _ _ _) (get_eq _ _ _) (by omega) (by decide) (.inl (by omega)) _ fun h6 g6 k6=> ?_
   obtain⟨QF,dX⟩:∃x:Int,(if p=0 then-1 else(p:Int))=x:=⟨_,rfl⟩
   rw[dX]at g6
   have qN:∀b,b<n5->h6.get b=h5.get b:=fun b hb=>by rw[k6 b (by omega),aD _ _ (by omega)]
   have ze:((0:Int) !=0)=false:=rfl
   have z7:((0:Int)==7)=false:=rfl
   have vw:h6.get n5=some ⟨235,true,[.int .i64 (z'.n:Int),.int .i64 (z'.most:Int),.int .i64 (z'.told:Int),j8,.bool z'.done,.int .i64 (m:Int),.int .i64 QF,.int .i64 0]⟩:=g6
   have l6:n5<n5+1:=gh n5
   have ss:=(qN n (by omega)).trans ((tX n q1 id).trans e5)
   have o6:Own h6 (n+1) (n5+1) 3 o (aS .i64 (iN ps)):=e7.aB (by omega) fun b hb=>by
    have:=e7.lt hb
    rw[qN b (by omega)]
    exact tX b this.2 id
   have pl6:ps.length+m<=1099511627776:=by omega
   try simp(disch:=first|omega|assumption) only[af,aa,RZ,vw,ze,z7]
   have l60:=p7
   have fin:∀(g:Value) (hh:H) (mG:Nat),n5<mG->hh.get n=h6.get n->hh.get n5=h6.get n5->(∀b,b<n->hh.get b=h6.get b)->Row hh mG 3 .i64 j8 (iN q')->Own hh (n+1) mG 3 g (aS .i64 (iN (ps++(cr m 0++jn p))))->
    ai (fun _=>False) n (bx 5 (.pointer (some ⟨n5,0,none⟩)) fun o=>aX 5 (.pointer (some ⟨n,0,none⟩)) o fun _=>u7 lf (au ah gt lf (d+3)) fu (BM lf (au ah gt lf (d+3))) v (.int .i64 (nn:Int)) (.int .i64 (room:Int)) nS (.int .i64 0) (.pointer (some ⟨n,0,none⟩)) g (.bool false) v (.int .i64 (cs.length:Int)) (.int .i64 ((i:Int)+1))) hh mG (acq n pl):=fun g hh mG b1 b2 b3 b4 b5 b6=>by
    have gs:=b3.trans vw
    refine jy trivial trivial n5 0 _ gs b1 (show 0+5<=8 by omega) ?_
    refine qA (sz:=5) (off:=0) (e:=233) (cs:=fZ z rv) trivial (vs:=fZ z' j8) rfl rfl (by unfold fZ;simp only[FI,R2,o5];rfl) (b2.trans ss) (by omega) (by show 0+5<=5;omega) (.inl (an n)) _ fun h7 g7 k7=> ?_
    have QE:h7.get n=some ⟨233,true,fZ z' j8⟩:=g7
    have ne:∀{w:Value} {lo:Nat} {cs:List Value},Own hh lo mG 3 w cs->∀b,aN w b->b≠n:=fun o b hb q=>by
     obtain⟨B,u1,u2⟩:=o.elem hb
     rw[q,b2,ss]at u1
     cases u1
     exact absurd (show 233=3 from u2) (by decide)
    rw[w1]
    refine next g h7 mG ⟨by omega,fun b hb=>by rw[k7 b (by omega),b4 b hb,qN b (by omega),tX b (by omega) id,q2 b hb],z',j8,q',_,JT,p2.trans e2,p3.trans e3,fun gT=>p1 ?_,QE,⟨?_,x5.one,x5.len,x5.eq⟩,b6.aB (an _) fun b hb=>k7 b (ne b6 b hb), ?_⟩
    ·rw[p5,decide_eq_false_iff_not,e2]
     have:=oS i gT
     rw[bC,bD hi]at this
     exact this
    ·refine b5.mW (an _) fun b hb=>k7 b fun q=> ?_
     obtain⟨B,u1,u2⟩:=b5.elem hb
     rw[q,b2,ss]at u1
     cases u1
     exact absurd (show 233=3 from u2) (by decide)
    ·have lp:(jn p).length<=1:=by unfold jn;split<;>simp
     rw[bX,bX,kg]
     omega
   have R6:Row h6 (n5+1) 3 .i64 j8 (iN q'):=x5.row.aB (by omega) qN
   refine eD m (fun mZ j (g:Value)=>zH lf (au ah gt lf (d+3)) mZ (Xw lf (au ah gt lf (d+3)) fu (BM lf (au ah gt lf (d+3)))) v (.int .i64 (nn:Int)) (.int .i64 (room:Int)) nS (.int .i64 0) (.pointer (some ⟨n,0,none⟩)) g (.int .i64 (cs[i]:Int)) (.pointer (some ⟨n5,0,none⟩)) (.bool false) v (.int .i64 (cs.length:Int)) (.int .i64 (i:Nat)) (.bool true) (.bool false) (.bool false) (.int .i64 (m:Int)) (.int .i64 (j:Nat))) (fun j g hh mG=>n5<mG∧hh.get n=h6.get n∧hh.get n5=h6.get n5∧(∀b,b<n->hh.get b=h6.get b)∧Row hh mG 3 .i64 j8 (iN q')∧Own hh (n+1) mG 3 g (aS .i64 (iN (ps++cr j 0)))∧(∀b,aN g b->¬aN j8 b)) ?_ ?_ lf 0 o h6 (n5+1) (aR _) (by omega) ⟨l6,rfl,rfl,fun _ _=>rfl,R6,by rw[List.replicate_zero,cu];exact o6,fun b hb cF=>by have:=(e7.lt hb).2;have:=f5 b cF;omega⟩
   ·rintro mZ g hh mG ⟨b1,b2,b3,b4,b5,b6,b7⟩
    rw[zH]
    try simp(disch:=first|omega|assumption) only[af,aa,RZ,fg]
    (try unfold Xw);(try unfold HX);(try dsimp only)
    have gs:=b3.trans vw
    have vz:(aS .i64 (iN (ps++cr m 0))).length=ps.length+m:=by rw[eJ];unfold iN;rw[dL,bX,kg]
    by_cases hp:p=0
    ·rw[if_pos hp]at dX
     have zp:¬(0:Int)<=QF:=by omega
     try simp(disch:=first|omega|assumption) only[af,aa,RZ,gs,zp,b1]
     refine fin g hh mG b1 b2 b3 b4 b5 ?_
     rw[show jn p=[] by unfold jn;rw[if_neg (by omega)],cu]
     exact b6
    ·rw[if_neg hp]at dX
     have zp:(0:Int)<=QF:=by omega
     try simp(disch:=first|omega|assumption) only[af,aa,RZ,gs,zp,b1]
     refine uZ trivial rfl b6 (by rw[vz];omega) (by omega) _ fun h8 g8 k8=> ?_
     rw[vz]
     have x1:h8.get n5=hh.get n5:=k8 n5 b1 fun q=>by
      obtain⟨B,u1,u2⟩:=b6.elem q
      rw[gs]at u1
      cases u1
      exact absurd (show 235=3 from u2) (by decide)
     have gs8:=x1.trans gs
     have l8:n5<mG+2:=by omega
     try simp(disch:=first|omega|assumption) only[af,aa,RZ]
     refine fin _ h8 (mG+2) l8 ((k8 n (by omega) fun q=>by have:=(b6.lt q).1;omega).trans b2) (x1.trans b3) (fun b hb=>(k8 b (by omega) fun q=>by have:=(b6.lt q).1;omega).trans (b4 b hb)) (b5.mW (by omega) fun b hb=>k8 b (b5.lt hb) fun q=>b7 b q hb) ?_
     rw[show jn p=[p] by unfold jn;rw[if_pos (by omega)],<-fA,rT,pI]
     refine Own.mk' ?_ (by omega) (by omega) (by rw[bX,vz];rfl)
     rw[g8,<-dX]
     rfl
   ·rintro mZ j g hh mG hj ⟨b1,b2,b3,b4,b5,b6,b7⟩ pK
    have c2:((j:Nat):Int)<((m:Nat):Int):=by omega
    have w2:((j:Nat):Int)+1=((j+1:Nat):Int):=rfl
    have vz:(aS .i64 (iN (ps++cr j 0))).length=ps.length+j:=by rw[eJ];unfold iN;rw[dL,bX,kg]
    have gs:=b3.trans vw
    rw[zH]
    try simp(disch:=first|omega|assumption) only[af,aa,RZ,c2]
    refine uZ trivial rfl b6 (by rw[vz];omega) (by omega) _ fun h8 g8 k8=> ?_
    rw[vz]
    have x1:h8.get n5=hh.get n5:=k8 n5 b1 fun q=>by
     obtain⟨B,u1,u2⟩:=b6.elem q
     rw[gs]at u1
     cases u1
     exact absurd (show 235=3 from u2) (by decide)
    try simp(disch:=first|omega|assumption) only[af,aa,RZ]
    rw[w2]
    refine pK _ h8 (mG+2) ⟨by omega,(k8 n (by omega) fun q=>by have:=(b6.lt q).1;omega).trans b2,x1.trans b3,fun b hb=>(k8 b (by omega) fun q=>by have:=(b6.lt q).1;omega).trans (b4 b hb),b5.mW (by omega) fun b hb=>k8 b (b5.lt hb) fun q=>b7 b q hb, ?_,fun b hb cF=>by have:=b5.lt cF;rw[hb.inj]at this;omega⟩
    rw[List.replicate_succ',<-fA,rT,pI]
    exact Own.mk' g8 (by omega) (by omega) (by rw[bX,vz];rfl)
end
def JU(n:Nat)(out:List Int)(v':Value)(h':H)(n':Nat):Prop:=Own h' n n' 3 v' (aS .i64 out)
section
variable {lf d n:Nat} {h:H}
theorem apa {l:List Bool} (hl:l.length<=1000000) (aC:3000000<=lf) {size T:Nat} (tQ:3<=size) (dS:size<=258) {lns:List (List Nat)} {took:List Nat} (hw:∀ln∈lns,Wh ln∧ln.length=size) (rI:∀v∈took,v<lns.length) (hT:lns.length=T) (hT6:T<=6) (oM:took.length<=40000)
 {q1 q2 lo:Nat} {pv tv:Value} {x2 x3 y1:Int} (hq:n<=lo) (aw:q1<lo∧n<=q1) (bu:q2<lo∧n<=q2):
 ∀(N fu:Nat) (h':H) (n':Nat) (ov:Value) (out:List Int) (a:Nat),lo<=n'->h'.get q1=some ⟨224,true,[pv,.int .i64 (T:Int),.int .i64 x2,.int .i64 x3,.int .i64 0]⟩->h'.get q2=some ⟨228,true,[tv,.int .i64 y1,.int .i64 0]⟩->Row h' lo 3 .i64 pv (iN took)->TT h' 0 lo tv lns->
  (l.drop a).length<N->N<=fu->a<=l.length->out.length+(l.drop a).length<=1000000->Own h' lo n' 3 ov (aS .i64 out)->
  ai (fun _=>False) n (BK lf (au ah gt lf (d+4)) fu (BL lf (au ah gt lf (d+4))) (tx l) (.int .i64 (size:Int)) nS (.pointer (some ⟨q1,0,none⟩)) (.pointer (some ⟨q2,0,none⟩)) (.int .i64 (a:Int)) ov (.bool false) (.bool false)) h' n' (JU n (out++mF N lns took size (l.drop a) out.length)):=by
 intro N
 induction N with
 |zero=>intro fu h' n' ov out a _ _ _ _ _ hN;omega
 |succ N ih=>
  intro fu h' n' ov out a lG g1 g2 rp tt hN gU zf lu og
  obtain⟨fu,rfl⟩:∃f,fu=f+1:=⟨fu-1,by omega⟩
  obtain⟨oa,oc,rfl⟩:=og.row.len
  have qB:=gK took
  have oG:(l.drop a).length=l.length-a:=b9
  have amy:q1<n':=by omega
  have amz:q2<n':=by omega
  have xw:((out.length:Nat):Int).tdiv 50=((out.length/50:Nat):Int):=rfl
  have EK:IntKind.i64.wrap ((out.length/50:Nat):Int)=((out.length/50:Nat):Int):=aJ (by omega) (by omega)
  rw[BK]
  unfold mF
  by_cases hb:took.length<=out.length/50
  ·obtain⟨pa,pc,rfl⟩:=rp.len
   have c1:¬((out.length/50:Nat):Int)<(((iN took).length:Nat):Int):=by omega
   try simp(disch:=first|omega|assumption) only[af,aa,RZ,g1,xw,EK,c1]
   rw[if_pos hb,cu]
   (try unfold BL);(try dsimp only)
   rw[lX]
   exact og.low hq
  ·rw[if_neg hb]
   obtain⟨b,off,cap,o,ks,rfl,hg,lR,hv⟩:=rp.some (by omega)
   have c1:((out.length/50:Nat):Int)<(((iN took).length:Nat):Int):=by omega
   obtain⟨gR,rY⟩:∃t,took.getD (out.length/50) 0=t:=⟨_,rfl⟩
   have EE:ks[off+out.length/50]? =some (.int .i64 (gR:Int)):=by
    rw[hv.2.2.2 _ (by omega),tE,rY]
   have amA:b<n':=by omega
   have EL:gR<lns.length:=by
    refine rI gR ?_
    rw[<-rY,bC,bD (by omega)]
    exact eu _
   obtain⟨cs,EM,gN,fI⟩:=tt
   obtain⟨bt,e1,Aq,_,hbt⟩:=fI gR EL
   obtain⟨PA,tN,PB,_,amB⟩:∃b,tv= .slice (some ⟨b,0,none⟩) cs.length (bq+cs.length)∧h'.get b=some ⟨230,true,cs⟩∧0<=b∧b<lo:=by
    rcases EM with ⟨_,e⟩|⟨b,p1,p2,p3,p4⟩
    ·rw[e]at gN
     have:lns.length=0:=gN.symm
     omega
    ·exact⟨b,p1,p2,p3,p4⟩
   subst tN
   have nI:cs[gR]? =some (.slice (some ⟨bt,0,none⟩) (lns.getD gR []).length (lns.getD gR []).length):=by
    rw[<-e1,bC,bD (by omega)]
    rfl
   have pO:lns.getD gR []∈lns:=by
    rw[bC,bD EL]
    exact eu _
   obtain⟨ln,ey⟩:∃l,lns.getD gR []=l:=⟨_,rfl⟩
   rw[rY,ey]
   rw[ey]at nI Aq pO
   obtain⟨EN,lsz⟩:=hw ln pO
   have yO:(gR:Int)<((cs.length:Nat):Int):=by omega
   have amC:PA<n':=by omega
   have s1:=fun(k:Value->M Value)=>pP l .i64 (a:Int) k (by omega) (by omega)
   rw[cL]at s1
   try simp(disch:=first|omega|assumption) only[af,aa,RZ,g1,g2,xw,EK,c1,hg,EE,PB,nI,s1]
   refine bL (abb (lf:=lf) (d:=d+2) EN (l.drop a) Aq (by omega) (by omega) (by omega)) (by omega) (fun _ _ h=>h.elim) ?_
   cases rU:iX ln (l.drop a)with
   |none=>
    have c2:decide (Cj (none:Option Nat)<0)=true:=rfl
    try simp(disch:=first|omega|assumption) only[af,aa,RZ,c2]
    (try unfold BL);(try dsimp only)
    rw[lX,cu]
    exact og.low hq
   |some s=>
    obtain⟨m1,m2,m3⟩:=vh rU
    have gi:Cj (some s)=(s:Int):=rfl
    have EO:=Px m1
    have iR:((s:Nat):Int)<((ln.length:Nat):Int):=by omega
    have amD:bt<n':=by omega
    obtain⟨u,hu⟩:∃u,ln.getD s 0=u:=⟨_,rfl⟩
    have PC:=(EN.at m1)
    rw[hu]at PC m2 EO
    have nr:(b8 (dV ln s) u).length=u:=iW _ _
    have c4:decide (((s:Nat):Int)<0)=false:=decide_eq_false (by omega)
    have e2:(((s:Nat):Int)==(size:Int)-1)=decide (s+1=size):=by
     by_cases q:s+1=size
     ·rw[decide_eq_true q];exact beq_iff_eq.2 (by omega)
     ·rw[decide_eq_false q];exact beq_eq_false_iff_ne.2 (by omega)
    try simp(disch:=first|omega|assumption) only[af,aa,RZ,c4,gi,Aq,EO,cS,nr,e2]
    rw[hu]
    refine ve trivial (mV _ _) og (by rw[eJ];omega) (fun b hb=> .inl (by have:=(og.lt hb).1;omega)) _ fun h2 g3 k3=> ?_
    have un:∀b,b<lo->h2.get b=h'.get b:=fun b hb=>k3 b (by omega) fun q=>by have:=(og.lt q).1;omega
    have g13:=(un q1 (by omega)).trans g1
    have g23:=(un q2 (by omega)).trans g2
    have on:aS .i64 (out++[(s:Int)])=aS .i64 out++[.int .i64 ((s:Nat):Int)]:=by rw[pI];rfl
    have oo:Own h2 lo (n'+2) 3 (.slice (some ⟨n'+1,0,none⟩) ((aS .i64 out).length+1) (bq+((aS .i64 out).length+1))) (aS .i64 (out++[(s:Int)])):=by
     rw[on]
     exact .inr ⟨n'+1,by simp,g3,by omega,by omega⟩
    by_cases vl:s+1=size
    ·rw[decide_eq_true vl]
     try simp(disch:=first|omega|assumption) only[af,aa,RZ]
     (try unfold BL);(try dsimp only)
     rw[lX,if_pos vl]
     exact oo.low hq
    ·rw[decide_eq_false vl]
     try simp(disch:=first|omega|assumption) only[af,aa,RZ]
     rw[if_neg vl]
     have:=ih fu h2 (n'+2) _ (out++[(s:Int)]) (a+u) (by omega) g13 g23 (rp.mW (an _) fun c hc=>un c (rp.lt hc)) (TT.aB ⟨cs,EM,gN,fI⟩ (an _) fun b _ hb=>un b hb) (by rw[b9];omega) (by omega) (by omega) (by rw[bX,b9];simp only[dp,gM];omega) oo
     rw[<-ng,fA,bX]at this
     first|exact this|(rw[show(a:Int)+(u:Int)=((a+u:Nat):Int) by omega];exact this)
theorem apb(l:List Bool)(hl:l.length<=1000000)(aC:3000000<=lf){size:Nat}(tQ:3<=size)(dS:size<=258):ai (fun _=>False) n (au ah gt lf (d+5) 131 #[tx l,.int .i64 (size:Int)]) h n (JU n (lL size l)):=by
 rw[aL (fun _=>ah0) rfl]
 refine ai.aH ?_
 unfold NX
 refine aU aK (aa7 (lf:=lf) (d:=d+2) l hl aC) (by omega) (fun _ _ h=>h.elim) fun v1 h1 n1 aM aY aw=> ?_
 obtain⟨pv,t,a,u,e,rfl,aw⟩:=aw
 have jZ:∃x y z,pv= .slice x y z:=by
  cases hr:ek (l.length+1) hZ l 0 with
  |short=>rw[hr]at aw;exact⟨_,_,_,aw.2⟩
  |bad e0=>rw[hr]at aw;exact⟨_,_,_,aw.2.2⟩
  |ok s a0=>rw[hr]at aw;obtain⟨x,y,z⟩:=aw.2.2.2.row.len;exact⟨_,_,_,z⟩
 obtain⟨px,py,pz,rfl⟩:=jZ
 refine fq DS _ ?_
 refine db (sz:=5) trivial (vs:=[.slice px py pz,.int .i64 t,.int .i64 a,.int .i64 u,.int .i64 e]) rfl rfl rfl (get_eq _ _ _) (by omega) (.inl (by omega)) _ fun h2 g2 k2=> ?_
 have Py:n1<n1+1:=by omega
 have emp:∀(h2:H) (n2:Nat),JU n [] nS h2 n2:=fun h2 n2=>Own.nil _ _ _ _
 unfold lL
 cases hr:ek (l.length+1) hZ l 0 with
 |short=>
  rw[hr]at aw
  obtain⟨rfl,_⟩:=aw
  have z3:((3:Int) !=0)=true:=rfl
  try simp(disch:=first|omega|assumption) only[af,aa,RZ,g2,z3]
  exact emp _ _
 |bad e0=>
  rw[hr]at aw
  obtain⟨rfl,rfl,_⟩:=aw
  have z3:((25:Int) !=0)=true:=rfl
  try simp(disch:=first|omega|assumption) only[af,aa,RZ,g2,z3]
  exact emp _ _
 |ok s a0=>
  rw[hr]at aw
  obtain⟨rfl,rfl,rfl,op⟩:=aw
  obtain⟨ok,h6,fin,hc,_,xm⟩:=xB _ _ _ _ _ _ Co (aR _) rfl (by decide) hr
  rw[fB]at xm
  have z0:((0:Int) !=0)=false:=rfl
  have s1:=fun(k:Value->M Value)=>pP l .i64 ((a0:Nat):Int) k (by omega) (by omega)
  rw[cL]at s1
  have oG:(l.drop a0).length=l.length-a0:=b9
  have ER:=fin
  unfold Pk.fin at ER
  rw[cj,decide_eq_true_eq,decide_eq_true_eq]at ER
  have sV:Own h2 n n1 3 (.slice px py pz) (aS .i64 (iN s.bJ)):=op.aB (an _) fun b hb=>by
   have:=op.lt hb
   rw[k2 b (by omega),aD _ _ (by omega)]
  try simp(disch:=first|omega|assumption) only[af,aa,RZ,g2,z0]
  refine gZ trivial n1 2 _ g2 (show n1<n1+1 by omega) (an _) rfl fun T1 t1=> ?_
  try simp(disch:=first|omega|assumption) only[af,aa,RZ,s1]
  refine OO _ _ (an _) fun T2 t2=> ?_
  try simp(disch:=first|omega|assumption) only[af,aa,RZ]
  refine gZ trivial n1 1 _ g2 (show n1<n1+1 by omega) (an _) rfl fun T3 t3=> ?_
  try simp(disch:=first|omega|assumption) only[af,aa,RZ]
  refine tA aK (abd (lf:=lf) (d:=d) (l.drop a0) (by omega) aC tQ dS h6) (by omega) fun v6 h6' n6 T4 An mD hY t4=> ?_
  obtain⟨tv,u1,e1,rfl,⟨ES,ET,EU,rfl⟩,hY⟩:=hY
  refine abe BE _ An fun T5 t5=> ?_
  refine I0 (fun _ _=>rfl) ?_
  refine db (sz:=3) trivial (vs:=[.slice ES ET EU,.int .i64 u1,.int .i64 e1]) rfl rfl rfl (get_eq _ _ _) (by omega) (.inl (by omega)) _ fun h7 g7 k7=> ?_
  have Cp:∀b,b<n1+1->h7.get b=h2.get b:=fun b hb=>by rw[k7 b (by omega),aD _ _ (by omega)];exact mD b hb
  have As:=(Cp n1 (by omega)).trans g2
  have amF:n6<n6+1:=by omega
  have abg:n1<n6+1:=by omega
  dsimp only
  cases ew:eZ s.t size (l.drop a0) 0 []with
  |short=>
   rw[ew]at hY
   subst hY
   have z3:((3:Int) !=0)=true:=rfl
   try simp(disch:=first|omega|assumption) only[af,aa,RZ,t4.cA t5,cP,fR,eh,g7,z3]
   exact emp _ _
  |bad e0=>
   rw[ew]at hY
   obtain⟨rfl,rfl⟩:=hY
   have z3:((22:Int) !=0)=true:=rfl
   try simp(disch:=first|omega|assumption) only[af,aa,RZ,t4.cA t5,cP,fR,eh,g7,z3]
   exact emp _ _
  |ok lns u2=>
   rw[ew]at hY
   obtain⟨rfl,rfl,tt⟩:=hY
   obtain⟨hw,ey,_,nv⟩:=Ar _ _ _ _ _ _ (fun ln hl=>absurd hl (by simp)) ew
   rw[fB]at nv
   have ey:lns.length=s.t:=by rw[ey];show 0+s.t=s.t;omega
   have w1:IntKind.i64.wrap (((a0:Nat):Int)+((u2:Nat):Int))=((a0+u2:Nat):Int):=by rw[aJ (by omega) (by omega)];omega
   try simp(disch:=first|omega|assumption) only[af,aa,RZ,t4.cA t5,cP,fR,eh,g7,As,z0,w1]
   have rp:Row h7 (n6+1) 3 .i64 (.slice px py pz) (iN s.bJ):=(sV.aB (by omega:n1<=n6+1) fun b hb=>Cp b (by have:=(sV.lt hb).2;omega)).row
   have PD:TT h7 0 (n6+1) (.slice ES ET EU) lns:=by
    obtain⟨cs,o,q1,q2⟩:=tt.aB (h':=h7) (by omega:n6<=n6+1) fun b hb cF=>by rw[k7 b (by omega),aD _ _ (by omega)]
    exact⟨cs,o.low (aR _),q1,fun i hi=>by obtain⟨b,p1,p2,p3,p4⟩:=q2 i hi;exact⟨b,p1,p2,aR _,p4⟩⟩
   have:=apa (n:=n) (d:=d) hl aC tQ dS (lns:=lns) (took:=s.bJ) hw (fun v hv=>by rw[ey];exact ok.bJ v hv) ey h6 (by omega) (q1:=n1) (q2:=n6) (lo:=n6+1) (x2:=(a0:Int)) (x3:=u) (y1:=(u2:Int)) (by omega) ⟨by omega,by omega⟩ ⟨by omega,by omega⟩ (l.length+1) lf h7 (n6+1) (.slice none 0 0) [] (a0+u2) (an _) As g7 rp PD (by rw[b9];omega) (by omega) (by omega) (by rw[b9];show 0+_<=_;omega) (Own.nil _ _ _ _)
   exact this
end
section
variable {aT:List (List Nat)} {took:List Nat} {size:Nat}
theorem acr(hw:∀ln∈aT,Wh ln∧ln.length=size)(rI:∀v∈took,v<aT.length){j:Nat}(h:¬took.length<=j):Wh (aT.getD (took.getD j 0) [])∧(aT.getD (took.getD j 0) []).length=size:=by
 have h1:took.getD j 0<aT.length:=by
  refine rI _ ?_
  rw[bC,bD (by omega)]
  exact eu _
 refine hw _ ?_
 rw[bC,bD h1]
 exact eu _
theorem apc(hw:∀ln∈aT,Wh ln∧ln.length=size)(rI:∀v∈took,v<aT.length):∀(N:Nat) (bs:List Bool) (k:Nat),∀c∈mF N aT took size bs k,0<=c∧c<(size:Int):=by
 intro N
 induction N with
 |zero=>intro bs k c h;exact absurd h mg
 |succ N ih=>
  intro bs k c h
  unfold mF at h
  by_cases c1:took.length<=k/50
  ·rw[if_pos c1]at h
   exact absurd h mg
  rw[if_neg c1]at h
  cases e:iX (aT.getD (took.getD (k/50) 0) []) bs with
  |none=>
   rw[e]at h
   exact absurd h mg
  |some s=>
   rw[e]at h
   dsimp only at h
   have m:=(vh e).1
   rw[(acr hw rI c1).2]at m
   rcases List.mem_cons.1 h with q|q
   ·omega
   ·by_cases c3:s+1=size
    ·rw[if_pos c3]at q
     exact absurd q mg
    ·rw[if_neg c3]at q
     exact ih _ _ _ q
theorem apd:∀(N:Nat) (bs:List Bool) (out:List Int) (a:Nat) (o:List Int) (u:Nat),iq N aT took size bs qO out a= .ok o u->o=out++mF N aT took size bs out.length∧∃i,o=i++[(size:Int)-1]:=by
 intro N
 induction N with
 |zero=>intro bs out a o u h;cases h
 |succ N ih=>
  intro bs out a o u h
  unfold iq at h
  unfold mF
  by_cases c1:took.length<=out.length/50
  ·rw[if_pos c1]at h
   cases h
  rw[if_neg c1]at h⊢
  cases e:iX (aT.getD (took.getD (out.length/50) 0) []) bs with
  |none=>
   rw[e]at h
   cases h
  |some s=>
   rw[e]at h
   dsimp only at h⊢
   have ct:qO out (s:Int)=none:=rfl
   rw[ct]at h
   dsimp only at h
   by_cases c3:s+1=size
   ·rw[if_pos c3]at h⊢
    cases h
    exact⟨rfl,out,by rw[show(size:Int)-1=(s:Int) by omega]⟩
   ·rw[if_neg c3]at h⊢
    obtain⟨q1,q2⟩:=ih _ _ _ _ _ h
    refine⟨?_,q2⟩
    rw[q1,fA,RY,bX]
    rfl
theorem ape(hw:∀ln∈aT,Wh ln∧ln.length=size)(rI:∀v∈took,v<aT.length)(most:Nat):∀(N:Nat) (bs:List Bool) (out:List Int) (a:Nat),out.length+bs.length<=most->iq N aT took size bs (EW (most:Int)) out a=iq N aT took size bs qO out a:=by
 intro N
 induction N with
 |zero=>intro bs out a h;rfl
 |succ N ih=>
  intro bs out a h
  unfold iq
  by_cases c1:took.length<=out.length/50
  ·rw[if_pos c1,if_pos c1]
  rw[if_neg c1,if_neg c1]
  cases e:iX (aT.getD (took.getD (out.length/50) 0) []) bs with
  |none=>rfl
  |some s=>
   dsimp only
   obtain⟨m1,m2,m3⟩:=vh e
   have wl:=(acr hw rI c1).1.at m1
   have ct:qO out (s:Int)=none:=rfl
   have cl:EW (most:Int) out (s:Int)=none:=if_neg (by omega)
   rw[ct,cl]
   dsimp only
   by_cases c3:s+1=size
   ·rw[if_pos c3,if_pos c3]
   ·rw[if_neg c3,if_neg c3]
    refine ih _ _ _ ?_
    rw[bX,b9]
    simp only[dp,gM]
    omega
end
section
variable {size:Nat} {bs:List Bool}
theorem apf:∀c∈lL size bs,0<=c∧c<(size:Int):=by
 intro c h
 unfold lL at h
 cases hr:ek (bs.length+1) hZ bs 0 with
 |short=>rw[hr]at h;exact absurd h mg
 |bad e=>rw[hr]at h;exact absurd h mg
 |ok s a=>
  rw[hr]at h
  dsimp only at h
  cases ew:eZ s.t size (bs.drop a) 0 []with
  |short=>rw[ew]at h;exact absurd h mg
  |bad e=>rw[ew]at h;exact absurd h mg
  |ok lns u=>
   rw[ew]at h
   obtain⟨ok,h6,fin,hc,_,xm⟩:=xB _ _ _ _ _ _ Co (aR _) rfl (by decide) hr
   obtain⟨hw,ey,_,nv⟩:=Ar _ _ _ _ _ _ (fun ln hl=>absurd hl (by simp)) ew
   have ey:lns.length=s.t:=by rw[ey];show 0+s.t=s.t;omega
   exact apc hw (fun v hv=>by rw[ey];exact ok.bJ v hv) _ _ _ c h
theorem apg{o:List Int}{u:Nat}(h:jN size bs qO= .ok o u):o=lL size bs∧∃i,o=i++[(size:Int)-1]:=by
 unfold jN at h
 unfold lL
 cases hr:ek (bs.length+1) hZ bs 0 with
 |short=>rw[hr]at h;cases h
 |bad e=>rw[hr]at h;cases h
 |ok s a=>
  rw[hr]at h
  dsimp only at h⊢
  cases ew:eZ s.t size (bs.drop a) 0 []with
  |short=>rw[ew]at h;cases h
  |bad e=>rw[ew]at h;cases h
  |ok lns u2=>
   rw[ew]at h
   exact apd _ _ _ _ _ _ h
theorem QG(most:Nat)(hm:bs.length<=most):jN size bs (EW (most:Int))=jN size bs qO:=by
 unfold jN
 cases hr:ek (bs.length+1) hZ bs 0 with
 |short=>rfl
 |bad e=>rfl
 |ok s a=>
  dsimp only
  cases ew:eZ s.t size (bs.drop a) 0 []with
  |short=>rfl
  |bad e=>rfl
  |ok lns u=>
   dsimp only
   obtain⟨ok,h6,fin,hc,_,xm⟩:=xB _ _ _ _ _ _ Co (aR _) rfl (by decide) hr
   obtain⟨hw,ey,_,nv⟩:=Ar _ _ _ _ _ _ (fun ln hl=>absurd hl (by simp)) ew
   have ey:lns.length=s.t:=by rw[ey];show 0+s.t=s.t;omega
   exact ape hw (fun v hv=>by rw[ey];exact ok.bJ v hv) most _ _ _ _ (by rw[b9];show 0+_<=_;omega)
end
theorem acs{aT:List (List Nat)}{took:List Nat}{size:Nat}:∀(N:Nat) (bs:List Bool) (k:Nat),(mF N aT took size bs k).length<=N
 |0,_,_=>an _
 |N+1,bs,k=>by
  unfold mF
  split
  ·exact aR _
  ·split
   ·exact aR _
   ·split
    ·show 1<=N+1
     omega
    ·rw[dp]
     exact Nat.succ_le_succ (acs N _ _)
theorem aph(size:Nat)(bs:List Bool):(lL size bs).length<=bs.length+1:=by
 unfold lL
 split
 ·exact aR _
 ·exact aR _
 ·split
  ·exact aR _
  ·exact aR _
  ·exact acs _ _ _
theorem acu{aT:List (List Nat)}{took:List Nat}{size:Nat}{most:Int}:∀(N:Nat) (bs:List Bool) (out:List Int) (a:Nat) (e:Int),xA N aT took size bs most out a= .err e->e≠0
 |0,bs,out,a,e,h=>by cases h;decide
 |N+1,bs,out,a,e,h=>by
  unfold xA at h
  split at h
  ·cases h;decide
  ·split at h
   ·cases h;decide
   ·split at h
    ·cases h;decide
    ·split at h
     ·cases h
     ·exact acu N _ _ _ e h
theorem acv:∀(N:Nat) (s:Pk) (bs:List Bool) (a:Nat) (e:Int),ek N s bs a= .bad e->e=25
 |0,s,bs,a,e,h=>by cases h
 |N+1,s,bs,a,e,h=>by
  unfold ek at h
  split at h
  ·cases h
  ·split at h
   ·cases h
   ·next e1=>cases h;exact aa1 e1
   ·exact acv N _ _ _ e h
theorem acw{size:Nat}{bs:List Bool}{most e:Int}(h:vk size bs most= .err e):e≠0:=by
 unfold vk at h
 split at h
 ·cases h;decide
 ·next e1=>cases h;rw[acv _ _ _ _ _ e1];decide
 ·split at h
  ·cases h;decide
  ·next e1=>cases h;rw[abf _ _ _ _ _ e1];decide
  ·exact acu _ _ _ _ _ h
theorem api{l:List Int}(h:∀c∈l,0<=c):iN (fz l)=l:=by
 unfold iN fz
 rw[List.map_map]
 refine(List.map_congr_left fun c hc=> ?_).trans (List.map_id l)
 exact Int.toNat_of_nonneg (h c hc)
theorem apj(s:List Nat)(room aO sum:Nat)(bs:List Bool)(hl:bs.length<=8000):pU s room aO sum (jN (s.length+2) bs (j7 s.length room))=if vx s.length room (lL (s.length+2) bs)=true then pU s room aO sum (vk (s.length+2) bs 8000)else .bad 25:=by
 rw[acp,Jj,show((8000:Int))=((8000:Nat):Int)from rfl,QG 8000 hl]
 cases vx s.length room (lL (s.length+2) bs)with
 |true=>rfl
 |false=>rfl
theorem apk{size:Nat}{bs:List Bool}(hl:bs.length<=8000){o:List Int}{u:Nat}(h:vk size bs 8000= .ok o u):o=lL size bs∧∃i,o=i++[(size:Int)-1]:=by
 rw[Jj,show((8000:Int))=((8000:Nat):Int)from rfl,QG 8000 hl]at h
 exact apg h
theorem apl{aT:List (List Nat)}{took:List Nat}{size:Nat}{ck:Ck}:∀(N:Nat) (bs:List Bool) (out:List Int) (a:Nat) (o:List Int) (u:Nat),iq N aT took size bs ck out a= .ok o u->u<=a+bs.length:=by
 intro N
 induction N with
 |zero=>intro bs out a o u h;cases h
 |succ N ih=>
  intro bs out a o u h
  unfold iq at h
  by_cases c1:took.length<=out.length/50
  ·rw[if_pos c1]at h
   cases h
  rw[if_neg c1]at h
  cases e:iX (aT.getD (took.getD (out.length/50) 0) []) bs with
  |none=>rw[e]at h;cases h
  |some s=>
   rw[e]at h
   obtain⟨m1,m2,m3⟩:=vh e
   dsimp only at h
   cases e2:ck out (s:Int)with
   |some x=>rw[e2]at h;cases h
   |none=>
    rw[e2]at h
    dsimp only at h
    by_cases c3:s+1=size
    ·rw[if_pos c3]at h
     cases h
     omega
    ·rw[if_neg c3]at h
     have:=ih _ _ _ _ _ h
     rw[b9]at this
     omega
theorem acx{size:Nat}{bs:List Bool}{ck:Ck}{o:List Int}{u:Nat}(h:jN size bs ck= .ok o u):u<=bs.length:=by
 unfold jN at h
 cases hr:ek (bs.length+1) hZ bs 0 with
 |short=>rw[hr]at h;cases h
 |bad e=>rw[hr]at h;cases h
 |ok s a=>
  rw[hr]at h
  dsimp only at h
  cases ew:eZ s.t size (bs.drop a) 0 []with
  |short=>rw[ew]at h;cases h
  |bad e=>rw[ew]at h;cases h
  |ok lns u2=>
   rw[ew]at h
   obtain⟨_,_,_,_,_,xm⟩:=xB _ _ _ _ _ _ Co (aR _) rfl (by decide) hr
   obtain⟨_,_,_,nv⟩:=Ar _ _ _ _ _ _ (fun ln hl=>absurd hl (by simp)) ew
   have:=apl _ _ _ _ _ _ h
   rw[b9]at this nv
   omega
theorem acy{z z':Zr}{c m p:Nat}(h:dF z c=some (z',m,p)):z'.n=z.n:=by
 unfold dF at h
 split at h
 ·cases h
 ·split at h
  ·split at h
   ·cases h
   ·cases h;rfl
  ·split at h
   ·cases h;rfl
   ·split at h
    ·cases h
    ·cases h;rfl
theorem acz:∀(l:List Nat) (z z':Zr) (ps:List Nat),dZ z l=some (z',ps)->z'.n=z.n
 |[],z,z',ps,h=>by cases h;rfl
 |c::l,z,z',ps,h=>by
  unfold dZ at h
  cases e:dF z c with
  |none=>rw[e]at h;cases h
  |some t=>
   obtain⟨z1,m,p⟩:=t
   rw[e]at h
   dsimp only at h
   cases e2:dZ z1 l with
   |none=>rw[e2]at h;cases h
   |some t2=>
    obtain⟨z2,QH⟩:=t2
    rw[e2]at h
    cases h
    exact(acz l z1 _ QH e2).trans (acy e)
theorem apm{n room:Nat}(h1:1<=n){l ps:List Nat}{z:Zr}(h:dZ (fG n room) (l++[n+1])=some (z,ps)):z.done=true:=by
 cases e:dZ (fG n room) l with
 |none=>rw[Fx _ _ e]at h;cases h
 |some t=>
  obtain⟨z1,p1⟩:=t
  have zn:z1.n=n:=acz _ _ _ _ e
  rw[JJ l _ z1 p1 (n+1) e]at h
  have:dF z1 (n+1)=some ({z1 with told:=z1.told+z1.aQ,aQ:=0,weight:=1,done:=true},z1.aQ,0):=by
   unfold dF
   rw[if_neg (by omega),if_neg (by omega),if_pos (by omega)]
  rw[this]at h
  cases h
  rfl
theorem QI:∀(l:List Nat) (z z':Zr) (ps:List Nat),1<=z.n->z.told+z.aQ<=z.most->dZ z l=some (z',ps)->ps.length+z.told=z'.told∧z'.told+z'.aQ<=z.most∧∀p∈ps,p<z.n
 |[],z,z',ps,h1,h2,h=>by cases h;exact⟨fB _,h2,fun p hp=>absurd hp mg⟩
 |c::l,z,z',ps,h1,h2,h=>by
  unfold dZ at h
  cases e:dF z c with
  |none=>rw[e]at h;cases h
  |some t=>
   obtain⟨z1,m,p⟩:=t
   rw[e]at h
   dsimp only at h
   have pt:=Qh e
   have pn:=acy e
   have key:z1.told+z1.aQ<=z.most∧z1.most=z.most∧p<z.n:=by
    unfold dF at e
    split at e
    ·cases e
    ·split at e
     ·split at e
      ·cases e
      ·cases e
       refine⟨?_,rfl,by omega⟩
       show z.told+(z.aQ+z.weight*2^c)<=z.most
       omega
     ·split at e
      ·cases e
       refine⟨?_,rfl,by omega⟩
       show z.told+z.aQ+0<=z.most
       omega
      ·split at e
       ·cases e
       ·cases e
        refine⟨?_,rfl,by omega⟩
        show z.told+1+z.aQ+0<=z.most
        omega
   obtain⟨k1,k2,k3⟩:=key
   cases e2:dZ z1 l with
   |none=>rw[e2]at h;cases h
   |some t2=>
    obtain⟨z2,QH⟩:=t2
    rw[e2]at h
    cases h
    obtain⟨r1,r2,r3⟩:=QI l z1 _ QH (by omega) (by rw[k2];exact k1) e2
    have lp:(jn p).length=if 0<p then 1 else 0:=by unfold jn;split<;>rfl
    refine⟨?_,by rw[k2]at r2;exact r2,fun q hq=> ?_⟩
    ·rw[bX,bX,kg,lp]
     omega
    ·rcases List.mem_append.1 hq with hq|hq
     ·rcases List.mem_append.1 hq with hq|hq
      ·rw[(List.mem_replicate.1 hq).2];omega
      ·unfold jn at hq
       split at hq
       ·rw[List.mem_singleton.1 hq];exact k3
       ·exact absurd hq mg
     ·rw[<-pn];exact r3 q hq
def CG(r:St Gt)(v':Value):Prop:=match r with
 | .short=>v'= .agg #[aF [],.int .i64 0,.int .u32 0,.int .i64 0,.int .i64 0,.int .i64 3]
 | .bad e=>v'= .agg #[aF [],.int .i64 0,.int .u32 0,.int .i64 0,.int .i64 0,.int .i64 e]
 | .ok g w=>∃hd:Int,v'= .agg #[aF g.last,.int .i64 (g.aO:Int),.int .u32 (g.sum:Int),.int .i64 (w:Int),.int .i64 hd,.int .i64 0]
theorem CG.add{r:St Gt}{a:Nat}:r= .short∨(∃e,r= .bad e)->∀v',CG r v'->CG (r.add a) v':=by
 rintro(rfl|⟨e,rfl⟩) v' h<;>exact h
section
variable {lf d n:Nat} {h:H}
theorem acA(bs:List Bool)(hl:bs.length<=8000){room:Nat}(hm:room<=1000000)(aC:3000000<=lf):ai (fun _=>False) n (au ah gt lf (d+7) 104 #[tx bs,.int .i64 (room:Int)]) h n (fun v' _ _=>CG (m6 room bs) v'):=by
 rw[aL (fun _=>ahH) rfl]
 refine ai.aH ?_
 unfold W2
 refine fq rfl _ ?_
 obtain⟨h0,QJ⟩:∃h0,h.set n (some ⟨159,true,z159⟩)=h0:=⟨_,rfl⟩
 have QL:h0.get n=some ⟨159,true,z159⟩:=by rw[<-QJ,get_eq]
 rw[QJ]
 clear QJ
 have err:∀(e:Int) (h2:H) (n2:Nat),n<n2->h2.get n=some ⟨159,true,z159⟩->ai (fun _=>False) n (aX 6 (.pointer (some ⟨n,0,none⟩)) (.agg #[aF [],.int .i64 0,.int .u32 0,.int .i64 0,.int .i64 0,.int .i64 e]) fun _=>bx 6 (.pointer (some ⟨n,0,none⟩)) fun b=>aj [b]) h2 n2 (fun v' _ _=>v'= .agg #[aF [],.int .i64 0,.int .u32 0,.int .i64 0,.int .i64 0,.int .i64 e]):=fun e h2 n2 cJ g=>by
  refine db (sz:=6) trivial (vs:=[aF [],.int .i64 0,.int .u32 0,.int .i64 0,.int .i64 0,.int .i64 e]) rfl rfl rfl g (by omega) (.inl (an _)) _ fun h1 g1 k1=> ?_
  exact fQ trivial trivial g1 rfl (by omega) rfl
 unfold m6
 by_cases c1:bs.length<57
 ·have z1:((bs.length:Nat):Int)<57:=by omega
  rw[if_pos c1]
  try simp(disch:=first|omega|assumption) only[af,aa,RZ,cS,z1]
  exact err 3 _ _ (by omega) QL
 have z1:¬((bs.length:Nat):Int)<57:=by omega
 have i32:(32:Int)<((bs.length:Nat):Int):=by omega
 rw[if_neg c1]
 have ix:=fun(K:Value->M Value)=>tP bs .i64 32 (by omega) i32 K
 rw[show((32:Int)).toNat=32 from rfl]at ix
 by_cases c2:bs.getD 32 false=true
 ·rw[if_pos c2]
  rw[c2]at ix
  have z2:((48+(bn true:Int))==49)=true:=rfl
  try simp(disch:=first|omega|assumption) only[af,aa,RZ,cS,z1]
  rw[ix]
  try simp(disch:=first|omega|assumption) only[af,aa,RZ,z2]
  exact err 25 _ _ (by omega) QL
 have tT:bs.getD 32 false=false:=by simpa using c2
 rw[if_neg c2]
 rw[tT]at ix
 have z2:((48+(bn false:Int))==49)=false:=rfl
 have s57:=fun(k:Value->M Value)=>pP bs .i64 57 k (by omega) (by omega)
 rw[show((57:Int)).toNat=57 from rfl]at s57
 try simp(disch:=first|omega|assumption) only[af,aa,RZ,cS,z1]
 rw[ix]
 try simp(disch:=first|omega|assumption) only[af,aa,RZ,z2]
 try rw[s57]
 refine aU aK (aoZ (lf:=lf) (d:=d+5) (bs:=bs.drop 57) (by rw[b9];omega) (by omega)) (by omega) (fun _ _ h=>h.elim) fun v1 h1 n1 aM aY aw=> ?_
 have QM:=(aY n (by omega) id).trans QL
 refine fq rfl _ ?_
 have l1:n1<n1+1:=by omega
 cases e1:j3 (bs.drop 57)with
 |short=>
  rw[e1]at aw
  have aw:v1= .agg #[aF [],.int .i64 0,.int .i64 3]:=aw
  subst aw
  refine db (sz:=3) trivial (vs:=[aF [],.int .i64 0,.int .i64 3]) rfl rfl rfl (get_eq _ _ _) (by omega) (.inl (by omega)) _ fun h2 g2 k2=> ?_
  have z3:((3:Int) !=0)=true:=rfl
  try simp(disch:=first|omega|assumption) only[af,aa,RZ,g2,z3]
  exact err 3 h2 _ (by omega) (by rw[k2 n (by omega),aD _ _ (by omega)];exact QM)
 |bad e0=>
  obtain rfl:=Jm e1
  rw[e1]at aw
  have aw:v1= .agg #[aF [],.int .i64 0,.int .i64 25]:=aw
  subst aw
  refine db (sz:=3) trivial (vs:=[aF [],.int .i64 0,.int .i64 25]) rfl rfl rfl (get_eq _ _ _) (by omega) (.inl (by omega)) _ fun h2 g2 k2=> ?_
  have z3:((25:Int) !=0)=true:=rfl
  try simp(disch:=first|omega|assumption) only[af,aa,RZ,g2,z3]
  exact err 25 h2 _ (by omega) (by rw[k2 n (by omega),aD _ _ (by omega)];exact QM)
 |ok s u=>
  obtain⟨sy,s0,u0,ul⟩:=EY e1
  have sl:=sy.len
  have sp:1<=s.length:=List.length_pos_iff.2 s0
  rw[b9]at ul
  rw[e1]at aw
  have aw:v1= .agg #[aF s,.int .i64 (u:Int),.int .i64 0]:=aw
  subst aw
  refine db (sz:=3) trivial (vs:=[aF s,.int .i64 (u:Int),.int .i64 0]) rfl rfl rfl (get_eq _ _ _) (by omega) (.inl (by omega)) _ fun h2 g2 k2=> ?_
  have gn2:h2.get n=some ⟨159,true,z159⟩:=by rw[k2 n (by omega),aD _ _ (by omega)];exact QM
  have z3:((0:Int) !=0)=false:=rfl
  have w1:IntKind.i64.wrap (57+((u:Nat):Int))=((57+u:Nat):Int):=by rw[aJ (by omega) (by omega)];omega
  have w2:IntKind.i64.wrap (((s.length:Nat):Int)+2)=((s.length+2:Nat):Int):=by rw[aJ (by omega) (by omega)];omega
  have Fz:57+((u:Nat):Int)=((57+u:Nat):Int):=by omega
  have w2':((s.length:Nat):Int)+2=((s.length+2:Nat):Int):=by omega
  have sU:=fun(k:Value->M Value)=>pP bs .i64 ((57+u:Nat):Int) k (by omega) (by omega)
  rw[cL]at sU
  try simp(disch:=first|omega|assumption) only[af,aa,RZ,g2,z3,lK,w1,w2,Fz,w2']
  rw[sU]
  have ol:∀(r:Rs) (held:Int) (v:Value) (h':H) (n0 n':Nat),Cl n0 r held v h' n'->∃x y z u hd e,v= .agg #[.slice x y z,.int .i64 u,.int .i64 hd,.int .i64 e]∧match r with
   | .err e0=>e=e0∧u=0
   | .ok out a=>e=0∧u=(a:Int)∧Own h' n0 n' 3 (.slice x y z) (aS .i64 out):=fun r held v h' n0 n' q=>by
   obtain⟨ov,u,hd,e,rfl,q⟩:=q
   cases r with
   |err e0=>obtain⟨q1,rfl,q3⟩:=q;exact⟨_,_,_,_,_,_,rfl,q1,q3⟩
   |ok out a=>
    obtain⟨q1,q2,q3,q4⟩:=q
    obtain⟨x,z,rfl⟩:=q3.row.len
    exact⟨_,_,_,_,_,_,rfl,q1,q2,q3⟩
  obtain⟨B,hB⟩:∃B,bs.drop (57+u)=B:=⟨_,rfl⟩
  rw[hB]at sU⊢
  have Bl:B.length<=8000:=by rw[<-hB,b9];omega
  refine aU aK (amE (lf:=lf) (d:=d+1) B (by omega) aC (by omega) (by omega) 8000) (by omega) (fun _ _ h=>h.elim) fun v3 h3 n3 fw dK bQ=> ?_
  obtain⟨ox,oy,oz,ub,hd,e3,rfl,xr⟩:=ol _ _ _ _ _ _ bQ
  clear bQ
  refine fq rfl _ ?_
  refine db (sz:=4) trivial (vs:=[.slice ox oy oz,.int .i64 ub,.int .i64 hd,.int .i64 e3]) rfl rfl rfl (get_eq _ _ _) (by omega) (.inl (by omega)) _ fun h4 g4 k4=> ?_
  have Fm:∀b,b<n1+1->h4.get b=h2.get b:=fun b hb=>by rw[k4 b (by omega),aD _ _ (by omega)];exact dK b hb id
  try simp(disch:=first|omega|assumption) only[af,aa,RZ]
  try rw[sU]
  refine aU aK (apb (lf:=lf) (d:=d+1) B (by omega) aC (size:=s.length+2) (by omega) (by omega)) (by omega) (fun _ _ h=>h.elim) fun v5 h5 n5 tG tX nT=> ?_
  unfold JU at nT
  have JV:=apf (size:=s.length+2) (bs:=B)
  have send:=fun(i:Nat)=>ao8 (size:=s.length+2) (bs:=B) i
  obtain⟨sm,yD⟩:∃sm,lL (s.length+2) B=sm:=⟨_,rfl⟩
  have fin:=apj s room (num ((bs.drop 33).take 24) 0) (num (bs.take 32) 0) B Bl
  rw[yD]at nT JV send fin
  have inn:=api fun c hc=>(JV c hc).1
  have cs1:∀c∈fz sm,c<s.length+2:=fun c hc=>by
   unfold fz at hc
   obtain⟨x,hx,rfl⟩:=List.mem_map.1 hc
   have:=JV x hx
   omega
  have csl:(fz sm).length=sm.length:=by unfold fz;rw[dL]
  have cse:∀i,i+1<(fz sm).length->(fz sm).getD i 0≠s.length+1:=fun i hi q=>by
   rw[csl]at hi
   refine send i hi ?_
   unfold fz at q
   have hx:=JV sm[i] (eu (by omega:i<sm.length))
   rw[bC,jC,bD (by omega:i<sm.length)]at q
   rw[bC,bD (by omega:i<sm.length)]
   have q:sm[i].toNat=s.length+1:=q
   show sm[i]+1=_
   omega
  have asT:sm.length<=8001:=by rw[<-yD];exact lM (aph _ _) (by omega)
  refine aU aK (ao2 (lf:=lf) (d:=d+2) (fz sm) s.length room sp sl hm (fun c hc=>by have:=cs1 c hc;omega) cse (by rw[inn];exact nT.row) (by omega) (by omega) (by omega)) (by omega) (fun _ _ h=>h.elim) fun v6 h6 n6 An mD hY=> ?_
  have Au:∀b,b<n3+1->h6.get b=h4.get b:=fun b hb=>(mD b (by omega) id).trans (tX b hb id)
  have ss:=(Au n (by omega)).trans ((Fm n (by omega)).trans gn2)
  have g26:=(Au n1 (by omega)).trans ((Fm n1 (by omega)).trans g2)
  have CF:=(Au n3 (by omega)).trans g4
  rw[fin]
  have JW:vx s.length room sm=(dZ (fG s.length room) (fz sm)).isSome:=rfl
  rw[JW]
  by_cases cm:(dZ (fG s.length room) (fz sm)).isSome=true
  ·rw[if_pos cm]at hY⊢
   subst hY
   have l36:n3<n6:=by omega
   have l16:n1<n6:=by omega
   cases hr:vk (s.length+2) B 8000 with
   |err e=>
    rw[hr]at xr
    obtain⟨rfl,rfl⟩:=xr
    have z4:(e3 !=0)=true:=by rw[bne_iff_ne];exact acw hr
    try simp(disch:=first|omega|assumption) only[af,aa,RZ,z3,CF,z4]
    refine(err e3 h6 n6 (by omega) ss).mono ?_
    rintro v' _ _ _ rfl
    show CG ((if e3=3 then St.short else .bad e3).add _) _
    split
    ·next q=>rw[q];rfl
    ·rfl
   |ok out a=>
    rw[hr]at xr
    obtain⟨rfl,rfl,oo⟩:=xr
    obtain⟨q1,i0,q2⟩:=apk Bl hr
    rw[yD]at q1
    subst q1
    obtain⟨⟨zl,pl⟩,hz⟩:=Option.isSome_iff_exists.1 cm
    have hdn:zl.done=true:=by
     refine apm (l:=fz i0) (room:=room) sp (ps:=pl) ?_
     rw[<-hz]
     congr 1
     rw[q2]
     unfold fz
     rw[qb]
     congr 1
     show [s.length+1]=[(((s.length+2:Nat):Int)-1).toNat]
     congr 1
     omega
    have rov:Row h6 n6 3 .i64 (.slice ox oy oz) (iN (fz out)):=by
     rw[inn]
     exact(oo.row).aB (by omega) fun b hb=>by rw[Au b (by omega),k4 b (by omega),aD _ _ (by omega)]
    try simp(disch:=first|omega|assumption) only[af,aa,RZ,z3,CF]
    refine aU aK (ao_ (lf:=lf) (d:=d+2) (fz out) s.length room sp sl hm (fun c hc=>by have:=cs1 c hc;omega) cse rov (by omega) (by omega) (by omega) hz hdn) (by omega) (fun _ _ h=>h.elim) fun v7 h7 n7 hn7 QN hq7=> ?_
    obtain⟨pv,rfl,op⟩:=hq7
    obtain⟨zt,zm,zp⟩:=QI _ _ _ _ sp (aR _) hz
    have zp:∀p∈pl,p<s.length:=zp
    have zt:pl.length+0=zl.told:=zt
    have zm:zl.told+zl.aQ<=room:=zm
    have As:=(QN n1 l16 id).trans g26
    have g47:=(QN n3 l36 id).trans CF
    have EV:=(QN n (by omega) id).trans ss
    have l17:n1<n7:=by omega
    try simp(disch:=first|omega|assumption) only[af,aa,RZ,bG,ext1,As]
    refine aU aK (aoU (lf:=lf) (d:=d+2) sy s0 pl zp (by omega) op.row (by omega)) (by omega) (fun _ _ h=>h.elim) fun v8 h8 n8 hn8 AG hq8=> ?_
    subst hq8
    have g48:=(AG n3 (by omega) id).trans g47
    have gn8:=(AG n (by omega) id).trans EV
    have l38:n3<n8:=by omega
    have ml:=Jp pl s
    have s3:=fun(K:Value->M Value)=>qG bs .i64 .i64 33 57 K (by omega) (by omega) (by omega)
    rw[show((33:Int)).toNat=33 from rfl,show((57:Int)).toNat-33=24 from rfl]at s3
    have s4:=fun(K:Value->M Value)=>EH bs .i64 32 K (by omega) (by omega)
    rw[show((32:Int)).toNat=32 from rfl]at s4
    have nf:=xL (lf:=lf) (d:=d+5) (n:=n8) (h:=h8) ((bs.drop 33).take 24) (by rw[dr];omega) (by omega)
    have ns:=xL (lf:=lf) (d:=d+5) (n:=n8) (h:=h8) (bs.take 32) (by rw[dr];omega) (by omega)
    have nfl:num ((bs.drop 33).take 24) 0<16777216:=mb (jI _) (by
     have:2^((bs.drop 33).take 24).length<=2^24:=ur (by decide) (by rw[dr];omega)
     exact this)
    try simp(disch:=first|omega|assumption) only[af,aa,RZ,bG,ext1]
    rw[s3]
    show ai _ _ _ _ _ (fun v' _ _=>CG ((match dZ (fG s.length room) (fz out)with
     |none=>St.bad 25
     |some (_,ps)=>if(cD s ps).1.length<=num ((bs.drop 33).take 24) 0 then .bad 23 else .ok (Gt.mk (cD s ps).1 (num ((bs.drop 33).take 24) 0) (num (bs.take 32) 0)) a).add (57+u)) v')
    rw[hz]
    dsimp only
    generalize num ((bs.drop 33).take 24) 0=aO at nf nfl⊢
    generalize num (bs.take 32) 0=sum at ns⊢
    generalize (cD s pl).1=last at ml⊢
    refine bL nf (by omega) (fun _ _ h=>h.elim) ?_
    have w5:IntKind.i64.wrap ((aO:Nat):Int)=((aO:Nat):Int):=aJ (by omega) (by omega)
    by_cases cl:last.length<=aO
    ·have z5:((last.length:Nat):Int)<=((aO:Nat):Int):=by omega
     rw[if_pos cl]
     try simp(disch:=first|omega|assumption) only[af,aa,RZ,w5,lK,z5]
     exact err 23 h8 n8 (by omega) gn8
    ·have z5:¬((last.length:Nat):Int)<=((aO:Nat):Int):=by omega
     rw[if_neg cl]
     try simp(disch:=first|omega|assumption) only[af,aa,RZ,w5,lK,z5]
     rw[s4]
     refine lF _ _ fun T1 t1=> ?_
     try simp(disch:=first|omega|assumption) only[af,aa,RZ]
     refine xf aK ns (by omega) fun T2 t2=> ?_
     try simp(disch:=first|omega|assumption) only[af,aa,RZ]
     refine xe trivial n3 1 _ g48 l38 rfl fun T3 t3=> ?_
     try simp(disch:=first|omega|assumption) only[af,aa,RZ]
     refine xe trivial n3 2 _ g48 l38 rfl fun T4 t4=> ?_
     try simp(disch:=first|omega|assumption) only[af,aa,RZ,lK]
     refine I0 (fun _ _=>rfl) ?_
     have ale:a<=B.length:=by
      rw[Jj]at hr
      exact acx hr
     have w6:IntKind.i64.wrap (((57+u:Nat):Int)+((a:Nat):Int))=((57+u+a:Nat):Int):=by rw[aJ (by omega) (by omega)];omega
     have IZ:((57+u:Nat):Int)+((a:Nat):Int)=((57+u+a:Nat):Int):=by omega
     try simp(disch:=first|omega|assumption) only[af,aa,RZ,w6,IZ]
     refine db (sz:=6) trivial (vs:=[aF last,.int .i64 (aO:Int),.int .u32 (sum:Int),.int .i64 ((57+u+a:Nat):Int),.int .i64 (IntKind.i64.wrap (hd+(last.length:Int))),.int .i64 0]) rfl rfl rfl gn8 (by omega) (.inl (an _)) _ fun h9 g9 k9=> ?_
     try simp(disch:=first|omega|assumption) only[af,aa,RZ,t2.cA t3,t2.cA t4,cP,fR,eh]
     exact fQ trivial trivial g9 rfl (by omega) ⟨_,rfl⟩
  ·rw[if_neg cm]at hY⊢
   obtain⟨e,he,rfl⟩:=hY
   have z4:(e !=0)=true:=by rw[bne_iff_ne];exact he
   try simp(disch:=first|omega|assumption) only[af,aa,RZ,z4]
   exact err 25 h6 n6 (by omega) ss
end
end Go.Proofs.YtmjolmggelkjlaaGreat
