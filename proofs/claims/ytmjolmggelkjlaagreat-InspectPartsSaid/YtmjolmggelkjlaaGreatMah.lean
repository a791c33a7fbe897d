import Derived.Test.YtmjolmggelkjlaaGreatMag
import Derived.Test.YtmjolmggelkjlaaGreatMaf
open Nat renaming reduceLT→aa, reduceAdd→af, le_refl→an, zero_le→aR, zero_add→fB, lt_succ_self→gh, le_succ→iP, add_zero→kQ, min_eq_left→kR, le_trans→lM, lt_of_lt_of_le→mb, mod_eq_of_lt→me, mod_lt→m9, sub_self→uq, add_assoc→vF, mul_le_mul→CQ, sub_zero→RS, lt_of_le_of_lt→adn, div_le_self→arO
open Go.Proofs.Tryz renaming prog→ah
open Go.Value renaming string→aV, int→dG, slice→kf, agg→mf
open List renaming getD_eq_getElem?_getD→bC, getElem?_eq_getElem→bD, length_append→bX, length_drop→b9, replicate→cr, append_nil→cu, length_cons→dp, length_take→dr, getElem_mem→eu, length_nil→gM, range→iL, drop_zero→jr, getElem?_map→jC, take_length→mh, drop_drop→ng, map_append→qb, getElem?_eq_none→sC, mem_singleton→vJ, length→yc, length_filter_le→CW, all_eq_true→FG, mem_of_mem_take→Kc, ext_getElem?→Rj, take_append_drop→RG, range_succ→RL, filter_append→RM, mem_of_mem_drop→arY, pairwise_lt_range→arZ
open BitVec renaming ofInt→cC, ofInt_natCast→CR, toNat_ofNat→CS
open Int renaming toNat_natCast→cL, lt_irrefl→fg, natCast_nonneg→p9, natCast_mul→RX
open Bool renaming not_false→cP, and_self→fR, not_true→jP
open Option.some renaming injEq→eG, inj→AQ
open UInt8 renaming ofNat→jq, toNat_ofNat'→arX
open Go.IntKind renaming u32→lO, bits→Kj, i64→RU, wrap_u32'→ar1, u64→ar2
open Prod.mk renaming injEq→nh
open Go.IntWalk renaming u64_in→RW
open List.Pairwise renaming filter→adt, nil→as4
set_option linter.unusedVariables false
set_option linter.unusedSimpArgs false
namespace Go.Proofs.YtmjolmggelkjlaaGreat
open Go.RowKit Ev Cn
def Ji(size:Nat)(l:List Bool):Int:=match ek (l.length+1) hZ l 0 with
 | .ok s _=>((s.bJ.length+s.t*size:Nat):Int)
 |_=>0
section
variable {lf d n:Nat} {h:H}
theorem amE(l:List Bool)(hl:l.length<=1000000)(aC:3000000<=lf){size:Nat}(tQ:3<=size)(dS:size<=258)(most:Int):ai (fun _=>False) n (au ah gt lf (d+5) 129 #[tx l,.int .i64 (size:Int),.int .i64 most]) h n (Cl n (vk size l most) (Ji size l)):=by
 rw[aL (fun _=>ahW) rfl]
 refine ai.aH ?_
 unfold NU
 refine fq Nh _ ?_
 refine aU aK (aa7 (lf:=lf) (d:=d+2) l hl aC) (by omega) (fun _ _ h=>h.elim) fun v1 h1 n1 aM aY aw=> ?_
 obtain⟨pv,t,a,u,e,rfl,aw⟩:=aw
 have jZ:∃x y z,pv= .slice x y z:=by
  cases hr:ek (l.length+1) hZ l 0 with
  |short=>rw[hr]at aw;exact⟨_,_,_,aw.2⟩
  |bad e0=>rw[hr]at aw;exact⟨_,_,_,aw.2.2⟩
  |ok s a0=>rw[hr]at aw;obtain⟨x,y,z⟩:=aw.2.2.2.row.len;exact⟨_,_,_,z⟩
 obtain⟨px,py,pz,rfl⟩:=jZ
 refine fq DS _ ?_
 refine db (sz:=5) trivial (vs:=[.slice px py pz,.int .i64 t,.int .i64 a,.int .i64 u,.int .i64 e]) rfl rfl rfl (get_eq _ _ _) (by omega) (.inl (by omega)) _ fun h2 g2 k2=> ?_
 have un:∀b,b<n+1->h2.get b=(h.set n (some ⟨188,true,[.slice none 0 0,.int .i64 0,.int .i64 0,.int .i64 0]⟩)).get b:=fun b hb=>by rw[k2 b (by omega),aD _ _ (by omega)];exact aY b hb id
 have gn:=(un n (by omega)).trans (get_eq _ _ _)
 have Py:n1<n1+1:=by omega
 have err:∀(e:Int) (h2:H) (n2:Nat),n<n2->h2.get n=some ⟨188,true,[.slice none 0 0,.int .i64 0,.int .i64 0,.int .i64 0]⟩->ai (fun _=>False) n (aX 4 (.pointer (some ⟨n,0,none⟩)) (.agg #[.slice none 0 0,.int .i64 0,.int .i64 0,.int .i64 e]) fun _=>bx 4 (.pointer (some ⟨n,0,none⟩)) fun v=>aj [v]) h2 n2 (Cl n (.err e) (Ji size l)):=fun e h2 n2 cJ g=>by
  refine db (sz:=4) trivial (vs:=[.slice none 0 0,.int .i64 0,.int .i64 0,.int .i64 e]) rfl rfl rfl g (by omega) (.inl (an _)) _ fun h1 g1 k1=> ?_
  exact fQ trivial trivial g1 rfl (by omega) ⟨_,_,_,_,rfl,rfl,rfl,rfl⟩
 unfold vk
 cases hr:ek (l.length+1) hZ l 0 with
 |short=>
  rw[hr]at aw
  obtain⟨rfl,_⟩:=aw
  have z3:((3:Int) !=0)=true:=rfl
  try simp(disch:=first|omega|assumption) only[af,aa,RZ,g2,z3]
  exact err 3 h2 (n1+1) (by omega) gn
 |bad e0=>
  rw[hr]at aw
  obtain⟨rfl,rfl,_⟩:=aw
  have z3:((25:Int) !=0)=true:=rfl
  try simp(disch:=first|omega|assumption) only[af,aa,RZ,g2,z3]
  exact err 25 h2 (n1+1) (by omega) gn
 |ok s a0=>
  rw[hr]at aw
  obtain⟨rfl,rfl,rfl,op⟩:=aw
  obtain⟨ok,h6,fin,hc,_,xm⟩:=xB _ _ _ _ _ _ Co (aR _) rfl (by decide) hr
  rw[fB]at xm
  have z0:((0:Int) !=0)=false:=rfl
  have s1:=fun(k:Value->M Value)=>pP l .i64 ((a0:Nat):Int) k (by omega) (by omega)
  rw[cL]at s1
  have oG:(l.drop a0).length=l.length-a0:=b9
  have ER:=fin
  unfold Pk.fin at ER
  rw[Bool.and_eq_true,decide_eq_true_eq,decide_eq_true_eq]at ER
  have sV:Own h2 (n+1) n1 3 (.slice px py pz) (aS .i64 (iN s.bJ)):=op.aB (an _) fun b hb=>by
   have:=op.lt hb
   rw[k2 b (by omega),aD _ _ (by omega)]
  try simp(disch:=first|omega|assumption) only[af,aa,RZ,g2,z0]
  refine gZ trivial n1 2 _ g2 (show n1<n1+1 by omega) (an _) rfl fun T1 t1=> ?_
  try simp(disch:=first|omega|assumption) only[af,aa,RZ,s1]
  refine OO _ _ (an _) fun T2 t2=> ?_
  try simp(disch:=first|omega|assumption) only[af,aa,RZ]
  refine gZ trivial n1 1 _ g2 (show n1<n1+1 by omega) (an _) rfl fun T3 t3=> ?_
  try simp(disch:=first|omega|assumption) only[af,aa,RZ]
  refine tA aK (abd (lf:=lf) (d:=d) (l.drop a0) (by omega) aC tQ dS h6) (by omega) fun v6 h6' n6 T4 An mD hY t4=> ?_
  obtain⟨tv,u1,e1,rfl,⟨ES,ET,EU,rfl⟩,hY⟩:=hY
  refine abe BE _ An fun T5 t5=> ?_
  refine I0 (fun _ _=>rfl) ?_
  refine db (sz:=3) trivial (vs:=[.slice ES ET EU,.int .i64 u1,.int .i64 e1]) rfl rfl rfl (get_eq _ _ _) (by omega) (.inl (by omega)) _ fun h7 g7 k7=> ?_
  have Cp:∀b,b<n1+1->h7.get b=h2.get b:=fun b hb=>by rw[k7 b (by omega),aD _ _ (by omega)];exact mD b hb
  have EV:=(Cp n (by omega)).trans gn
  have As:=(Cp n1 (by omega)).trans g2
  have amF:n6<n6+1:=by omega
  have abg:n1<n6+1:=by omega
  cases ew:eZ s.t size (l.drop a0) 0 []with
  |short=>
   rw[ew]at hY
   subst hY
   have z3:((3:Int) !=0)=true:=rfl
   try simp(disch:=first|omega|assumption) only[af,aa,RZ,t4.cA t5,cP,fR,eh,g7,z3]
   exact err 3 h7 (n6+1) (by omega) EV
  |bad e0=>
   rw[ew]at hY
   obtain⟨rfl,rfl⟩:=hY
   have z3:((22:Int) !=0)=true:=rfl
   try simp(disch:=first|omega|assumption) only[af,aa,RZ,t4.cA t5,cP,fR,eh,g7,z3]
   exact err 22 h7 (n6+1) (by omega) EV
  |ok lns u2=>
   rw[ew]at hY
   obtain⟨rfl,rfl,tt⟩:=hY
   obtain⟨hw,ey,_,nv⟩:=Ar _ _ _ _ _ _ (fun ln hl=>absurd hl (by simp)) ew
   rw[fB]at nv
   have ey:lns.length=s.t:=by rw[ey];show 0+s.t=s.t;omega
   have w1:IntKind.i64.wrap (((a0:Nat):Int)+((u2:Nat):Int))=((a0+u2:Nat):Int):=by rw[aJ (by omega) (by omega)];omega
   try simp(disch:=first|omega|assumption) only[af,aa,RZ,t4.cA t5,cP,fR,eh,g7,As,z0,w1]
   have rp:Row h7 (n6+1) 3 .i64 (.slice px py pz) (iN s.bJ):=(sV.aB (by omega:n1<=n6+1) fun b hb=>Cp b (by have:=(sV.lt hb).2;omega)).row
   have PD:TT h7 0 (n6+1) (.slice ES ET EU) lns:=by
    obtain⟨cs,o,q1,q2⟩:=tt.aB (h':=h7) (by omega:n6<=n6+1) fun b hb cF=>by rw[k7 b (by omega),aD _ _ (by omega)]
    exact⟨cs,o.low (aR _),q1,fun i hi=>by obtain⟨b,p1,p2,p3,p4⟩:=q2 i hi;exact⟨b,p1,p2,aR _,p4⟩⟩
   have hh:Ji size l=((s.bJ.length+s.t*size:Nat):Int):=by unfold Ji;rw[hr]
   rw[hh]
   exact amx (n:=n) (d:=d) hl aC tQ dS (lns:=lns) (took:=s.bJ) most hw (fun v hv=>by rw[ey];exact ok.bJ v hv) ey h6 (by omega) (q1:=n1) (q2:=n6) (lo:=n6+1) (x1:=0) (y2:=0) (by omega) ⟨by omega,by omega⟩ ⟨by omega,by omega⟩ (l.length+1) lf h7 (n6+1) (.slice none 0 0) [] (a0+u2) (an _) EV As g7 rp PD (by rw[b9];omega) (by omega) (by omega) (by rw[b9];show 0+_<=_;omega) (Own.nil _ _ _ _)
end
abbrev Ck:=List Int->Int->Option Int
def iq:Nat->List (List Nat)->List Nat->Nat->List Bool->Ck->List Int->Nat->Rs
 |0,_,_,_,_,_,_,_=> .err 3
 |N+1,aT,took,size,bs,ck,out,a=>if took.length<=out.length/50 then .err 25 else
  match iX (aT.getD (took.getD (out.length/50) 0) []) bs with
  |none=> .err 3
  |some s=>match ck out (s:Int)with
   |some e=> .err e
   |none=>if s+1=size then .ok (out++[(s:Int)]) (a+(aT.getD (took.getD (out.length/50) 0) []).getD s 0)
    else iq N aT took size (bs.drop ((aT.getD (took.getD (out.length/50) 0) []).getD s 0)) ck (out++[(s:Int)]) (a+(aT.getD (took.getD (out.length/50) 0) []).getD s 0)
def jN(size:Nat)(bs:List Bool)(ck:Ck):Rs:=
 match ek (bs.length+1) hZ bs 0 with
 | .short=> .err 3
 | .bad e=> .err e
 | .ok s a=>match eZ s.t size (bs.drop a) 0 []with
   | .short=> .err 3
   | .bad e=> .err e
   | .ok lns u=>iq (bs.length+1) lns s.bJ size (bs.drop (a+u)) ck [] (a+u)
def eo:Nat->Cd->List Bool->Ck->List Int->Nat->Rs
 |0,_,_,_,_,_=> .err 3
 |N+1,c,bs,ck,out,a=>if c.done=true then .ok out a else match iH c bs with
  | .short=> .err 3
  | .bad e=> .err e
  | .ok (sym,c') u=>if sym=-1 then eo N c' (bs.drop u) ck out (a+u)else match ck out sym with
    |some e=> .err e
    |none=>eo N c' (bs.drop u) ck (out++[sym]) (a+u)
def EW(most:Int):Ck:=fun out _=>if(out.length:Int)=most then some 2 else none
theorem abh{aT:List (List Nat)}{took:List Nat}{size:Nat}(most:Int):∀(N:Nat) (bs:List Bool) (out:List Int) (a:Nat),xA N aT took size bs most out a=iq N aT took size bs (EW most) out a
 |0,_,_,_=>rfl
 |N+1,bs,out,a=>by
  unfold xA iq
  by_cases hb:took.length<=out.length/50
  ·rw[if_pos hb,if_pos hb]
  ·rw[if_neg hb,if_neg hb]
   cases iX (aT.getD (took.getD (out.length/50) 0) []) bs with
   |none=>rfl
   |some s=>
    show(if(out.length:Int)=most then Rs.err 2 else _)=match (if(out.length:Int)=most then some 2 else none:Option Int)with
     |some e=>Rs.err e
     |none=>_
    by_cases h:(out.length:Int)=most
    ·rw[if_pos h,if_pos h]
    ·rw[if_neg h,if_neg h]
     by_cases hs:s+1=size
     ·rw[if_pos hs]
      simp only[if_pos hs]
     ·rw[if_neg hs]
      simp only[if_neg hs]
      exact abh most N _ _ _
theorem Jj(size:Nat)(bs:List Bool)(most:Int):vk size bs most=jN size bs (EW most):=by
 unfold vk jN
 cases ek (bs.length+1) hZ bs 0 with
 |short=>rfl
 |bad e=>rfl
 |ok s a=>
  show(match eZ s.t size (bs.drop a) 0 []with
   | .short=>Rs.err 3
   | .bad e=> .err e
   | .ok lns u=>_)=match eZ s.t size (bs.drop a) 0 []with
   | .short=>Rs.err 3
   | .bad e=> .err e
   | .ok lns u=>_
  cases eZ s.t size (bs.drop a) 0 []with
  |short=>rfl
  |bad e=>rfl
  |ok lns u=>exact abh _ _ _ _ _
def St.add{α:Type}(a:Nat):St α->St α
 | .short=> .short
 | .bad e=> .bad e
 | .ok x u=> .ok x (a+u)
theorem abj{size:Nat}:∀(N now:Nat) (lens:List Nat) (bs:List Bool) (a b:Nat),fF N size now lens bs (a+b)=(fF N size now lens bs b).add a
 |0,_,_,_,_,_=>rfl
 |N+1,now,lens,bs,a,b=>by
  unfold fF
  by_cases h:lens.length=size
  ·rw[if_pos h,if_pos h];rfl
  ·rw[if_neg h,if_neg h]
   cases eU now lens bs with
   |short=>rfl
   |bad e=>rfl
   |ok x u=>
    obtain⟨m,l⟩:=x
    show fF N size m l (bs.drop u) (a+b+u)=(fF N size m l (bs.drop u) (b+u)).add a
    rw[<-abj,vF]
theorem abk{size:Nat}:∀(t:Nat) (bs:List Bool) (a b:Nat) (acc:List (List Nat)),eZ t size bs (a+b) acc=(eZ t size bs b acc).add a
 |0,_,_,_,_=>rfl
 |t+1,bs,a,b,acc=>by
  unfold eZ
  cases fF (bs.length+1) size 0 [] bs 0 with
  |short=>rfl
  |bad e=>rfl
  |ok ln u=>
   by_cases h:eT (iN ln)=1048576
   ·simp only[if_pos h]
    rw[<-abk t (bs.drop u) a (b+u),vF]
   ·simp only[if_neg h]
    rfl
theorem abl{size:Nat}:∀(N M now:Nat) (lens:List Nat) (bs:List Bool) (a:Nat),bs.length<N->bs.length<M->fF N size now lens bs a=fF M size now lens bs a
 |0,_,_,_,_,_,h,_=>by omega
 |_+1,0,_,_,_,_,_,h=>by omega
 |N+1,M+1,now,lens,bs,a,h1,h2=>by
  unfold fF
  by_cases h:lens.length=size
  ·rw[if_pos h,if_pos h]
  ·rw[if_neg h,if_neg h]
   cases e:eU now lens bs with
   |short=>rfl
   |bad e=>rfl
   |ok x u=>
    obtain⟨m,l⟩:=x
    have:=I5 e
    exact abl N M m l (bs.drop u) (a+u) (by rw[b9];omega) (by rw[b9];omega)
theorem EX:∀(N M:Nat) (c:Cd) (bs:List Bool) (ck:Ck) (out:List Int) (a:Nat),(c.done=false->lH c)->bs.length<N->bs.length<M->eo N c bs ck out a=eo M c bs ck out a
 |0,_,_,_,_,_,_,_,h,_=>by omega
 |_+1,0,_,_,_,_,_,_,_,h=>by omega
 |N+1,M+1,c,bs,ck,out,a,k,h1,h2=>by
  unfold eo
  by_cases hd:c.done=true
  ·rw[if_pos hd,if_pos hd]
  ·rw[if_neg hd,if_neg hd]
   have qt:c.done=false:=by simpa using hd
   cases e:iH c bs with
   |short=>rfl
   |bad e=>rfl
   |ok x u=>
    obtain⟨sym,c'⟩:=x
    obtain⟨k1,_,k3,k4⟩:=I7 (k qt) e
    have l1:(bs.drop u).length<N:=by rw[b9];omega
    have l2:(bs.drop u).length<M:=by rw[b9];omega
    show(if sym=-1 then _ else match ck out sym with
     |some e=>_
     |none=>_)=(if sym=-1 then _ else match ck out sym with
     |some e=>_
     |none=>_)
    rw[EX N M c' (bs.drop u) ck out (a+u) k1 l1 l2,EX N M c' (bs.drop u) ck (out++[sym]) (a+u) k1 l1 l2]
theorem abm{lns:List (List Nat)}{took:List Nat}{size:Nat}(ck:Ck):∀(N:Nat) (c:Cd) (bs:List Bool) (out:List Int) (a:Nat),lH c->c.pk.fin=true->¬c.aT.length<c.pk.t->c.aT=lns->c.took=took->c.size=size->c.count=out.length->bs.length<N->
 eo N c bs ck out a=iq N lns took size bs ck out a
 |0,_,_,_,_,_,_,_,_,_,_,_,h=>by omega
 |N+1,c,bs,out,a,k,hf,ht,e1,e2,e3,e4,hN=>by
  subst e1;subst e2;subst e3
  unfold eo iq
  rw[if_neg (by rw[k.dn];decide)]
  have sc:iH c bs=match pN c bs with
   | .short=> .short
   | .bad e=> .bad e
   | .ok (s,c') u=> .ok ((s:Int),c') u:=by
   unfold iH
   rw[if_neg (by rw[hf];decide),if_neg ht]
   cases pN c bs with
   |short=>rfl
   |bad e=>rfl
   |ok x u=>rfl
  rw[sc]
  unfold pN
  rw[e4]
  by_cases hb:c.took.length<=out.length/50
  ·rw[if_pos hb,if_pos hb]
  ·rw[if_neg hb,if_neg hb]
   cases hg:iX (c.aT.getD (c.took.getD (out.length/50) 0) []) bs with
   |none=>rfl
   |some s=>
    obtain⟨ln,ey⟩:∃l,c.aT.getD (c.took.getD (out.length/50) 0) []=l:=⟨_,rfl⟩
    rw[ey]at hg⊢
    obtain⟨m1,m2,m3⟩:=vh hg
    have bM:c.took.getD (out.length/50) 0<c.aT.length:=by
     refine I6 k hf ht _ ?_
     rw[bC,bD (by omega)]
     exact eu _
    have pO:ln∈c.aT:=by
     rw[<-ey,bC,bD bM]
     exact eu _
    have h1u:=((k.wh ln pO).1.at m1).1
    obtain⟨u,xC⟩:∃u,ln.getD s 0=u:=⟨_,rfl⟩
    rw[xC]at m2 h1u
    show(if(s:Int)=-1 then _ else match ck out (s:Int)with
     |some e=>Rs.err e
     |none=>_)=match ck out (s:Int)with
     |some e=>Rs.err e
     |none=>_
    rw[if_neg (by omega)]
    cases hm:ck out (s:Int)with
    |some e=>rfl
    |none=>
     simp only
     by_cases hs:s+1=c.size
     ·rw[if_pos hs,xC]
      obtain⟨N,rfl⟩:∃M,N=M+1:=⟨N-1,by omega⟩
      unfold eo
      rw[if_pos (decide_eq_true hs)]
     ·rw[if_neg hs,xC]
      exact abm ck N _ (bs.drop u) (out++[(s:Int)]) (a+u) ⟨k.pk,k.jc,k.ol,k.nt,k.tk,k.cl,k.ln,k.ll,k.wh,k.lo,k.hi,k.wr,decide_eq_false hs⟩ hf ht rfl rfl rfl (by rw[bX];rfl) (by rw[b9];omega)
theorem abn(ck:Ck):∀(N:Nat) (c:Cd) (bs:List Bool) (a:Nat),lH c->c.pk.fin=true->c.aT.length<c.pk.t->bs.length<N->
 eo N c bs ck [] a=match fF N c.size c.now c.lens bs a with
  | .short=> .err 3
  | .bad e=> .err e
  | .ok ln u=>if eT (iN ln)=1048576 then eo N {c with now:=0,lens:=[],aT:=c.aT++[ln]} (bs.drop (u-a)) ck [] u else .err 22
 |0,_,_,_,_,_,_,h=>by omega
 |N+1,c,bs,a,k,hf,ht,hN=>by
  have hlen:¬c.lens.length=c.size:=by have:=k.ll;omega
  have sc:iH c bs=match stepT c bs with
   | .short=> .short
   | .bad e=> .bad e
   | .ok c' u=> .ok (-1,c') u:=by
   unfold iH
   rw[if_neg (by rw[hf];decide),if_pos ht]
   cases stepT c bs with
   |short=>rfl
   |bad e=>rfl
   |ok x u=>rfl
  have lhs:eo (N+1) c bs ck [] a=match stepT c bs with
   | .short=> .err 3
   | .bad e=> .err e
   | .ok c' u=>eo N c' (bs.drop u) ck [] (a+u):=by
   show(if c.done=true then _ else _)=_
   rw[if_neg (by rw[k.dn];decide),sc]
   cases stepT c bs with
   |short=>rfl
   |bad e=>rfl
   |ok x u=>rfl
  rw[lhs]
  have rhs:fF (N+1) c.size c.now c.lens bs a=match eU c.now c.lens bs with
   | .short=> .short
   | .bad e=> .bad e
   | .ok (m,l) u=>fF N c.size m l (bs.drop u) (a+u):=by
   show(if c.lens.length=c.size then _ else _)=_
   refine(if_neg hlen).trans ?_
   cases eU c.now c.lens bs with
   |short=>rfl
   |bad e=>rfl
   |ok x u=>rfl
  rw[rhs]
  have tk:=fun c' u=>Ph (c':=c') (u:=u) (bs:=bs) k ht hf
  unfold stepT at tk⊢
  cases e:eU c.now c.lens bs with
  |short=>rfl
  |bad e=>rfl
  |ok x u=>
   obtain⟨m,l⟩:=x
   have us:=I5 e
   rw[e]at tk
   have l1:(bs.drop u).length<N:=by rw[b9];omega
   obtain⟨M,rfl⟩:∃M,N=M+1:=⟨N-1,by omega⟩
   show(match (if l.length=c.size then _ else _:St Cd)with
    | .short=>Rs.err 3
    | .bad e=> .err e
    | .ok c' u=>eo (M+1) c' (bs.drop u) ck [] (a+u))=match fF (M+1) c.size m l (bs.drop u) (a+u)with
    | .short=> .err 3
    | .bad e=> .err e
    | .ok ln u=>if eT (iN ln)=1048576 then eo (M+1+1) {c with now:=0,lens:=[],aT:=c.aT++[ln]} (bs.drop (u-a)) ck [] u else .err 22
   by_cases hl:l.length=c.size
   ·simp only[if_pos hl]at tk⊢
    have r2:fF (M+1) c.size m l (bs.drop u) (a+u)= .ok l (a+u):=by
     show(if l.length=c.size then _ else _)=_
     rw[if_pos hl]
    rw[r2]
    by_cases hs:eT (iN l)=1048576
    ·simp only[if_pos hs]at tk⊢
     rw[show a+u-a=u by omega]
     exact EX _ _ _ _ _ _ _ (fun _=>(tk _ _ rfl).1) l1 (by omega)
    ·simp only[if_neg hs]
   ·simp only[if_neg hl]at tk⊢
    have k2:=(tk _ _ rfl).1
    rw[abn ck (M+1) _ (bs.drop u) (a+u) k2 hf ht l1]
    cases e2:fF (M+1) c.size m l (bs.drop u) (a+u)with
    |short=>rfl
    |bad e=>rfl
    |ok ln u2=>
     have ok:=I3 k.ln k.ll e
     have u2a:=EJ _ _ _ _ _ _ _ ok e2
     show(if eT (iN ln)=1048576 then _ else _)=(if eT (iN ln)=1048576 then _ else _)
     by_cases hs:eT (iN ln)=1048576
     ·rw[if_pos hs,if_pos hs,ng,show u+(u2-(a+u))=u2-a by omega]
      refine EX _ _ _ _ _ _ _ (fun _=> ?_) (by rw[b9];omega) (by rw[b9];omega)
      refine⟨k.pk,k.jc,k.ol,fun e=>absurd hf (by rw[show c.pk.fin=false from e];decide),k.tk,by simp;omega,⟨aR _,aR _,fun x hx=>absurd hx (by simp)⟩,by have:=k.lo;show 0<c.size;omega,fun w hw=> ?_,k.lo,k.hi,k.wr,k.dn⟩
      rcases List.mem_append.1 hw with hw|hw
      ·exact k.wh w hw
      ·simp only[vJ]at hw
       subst hw
       exact⟨B6 u2a.2.1 hs,u2a.1⟩
     ·rw[if_neg hs,if_neg hs]
def Rs.add(a:Nat):Rs->Rs
 | .err e=> .err e
 | .ok o u=> .ok o (a+u)
theorem Jk:∀(N:Nat) (c:Cd) (bs:List Bool) (ck:Ck) (out:List Int) (a b:Nat),eo N c bs ck out (a+b)=(eo N c bs ck out b).add a
 |0,_,_,_,_,_,_=>rfl
 |N+1,c,bs,ck,out,a,b=>by
  unfold eo
  by_cases hd:c.done=true
  ·rw[if_pos hd,if_pos hd];rfl
  ·rw[if_neg hd,if_neg hd]
   cases iH c bs with
   |short=>rfl
   |bad e=>rfl
   |ok x u=>
    obtain⟨sym,c'⟩:=x
    show(if sym=-1 then _ else match ck out sym with
     |some e=>Rs.err e
     |none=>_)=(if sym=-1 then _ else match ck out sym with
     |some e=>Rs.err e
     |none=>_:Rs).add a
    rw[vF,Jk N c' (bs.drop u) ck out a (b+u),Jk N c' (bs.drop u) ck (out++[sym]) a (b+u)]
    by_cases h1:sym=-1
    ·rw[if_pos h1,if_pos h1]
    ·rw[if_neg h1,if_neg h1]
     cases ck out sym<;>rfl
theorem abo(ck:Ck):∀(t N:Nat) (c:Cd) (bs:List Bool) (a:Nat),lH c->c.pk.fin=true->c.aT.length+t=c.pk.t->c.now=0->c.lens=[]->c.count=0->bs.length<N->
 eo N c bs ck [] a=match eZ t c.size bs a c.aT with
  | .short=> .err 3
  | .bad e=> .err e
  | .ok lns u=>iq N lns c.took c.size (bs.drop (u-a)) ck [] u
 |0,N,c,bs,a,k,hf,ht,hn,hl,hc,hN=>by
  show _=iq N c.aT c.took c.size (bs.drop (a-a)) ck [] a
  rw[uq,jr]
  exact abm ck N c bs [] a k hf (by omega) rfl rfl rfl hc hN
 |t+1,N,c,bs,a,k,hf,ht,hn,hl,hc,hN=>by
  rw[abn ck N c bs a k hf (by omega) hN,hn,hl,abl N (bs.length+1) 0 [] bs a hN (by omega)]
  have:=show fF (bs.length+1) c.size 0 [] bs a=_ from abj (size:=c.size) (bs.length+1) 0 [] bs a 0
  rw[this,show eZ (t+1) c.size bs a c.aT=_ from by rw[eZ]]
  cases e:fF (bs.length+1) c.size 0 [] bs 0 with
  |short=>rfl
  |bad e=>rfl
  |ok ln u=>
   have ok:=EJ _ _ _ _ _ _ _ ⟨aR _,aR _,fun x hx=>absurd hx (by simp)⟩ e
   show(if eT (iN ln)=1048576 then _ else _)=match (if eT (iN ln)=1048576 then _ else _:St (List (List Nat)))with
    | .short=>Rs.err 3
    | .bad e=> .err e
    | .ok lns u=>iq N lns c.took c.size (bs.drop (u-a)) ck [] u
   by_cases hs:eT (iN ln)=1048576
   ·simp only[if_pos hs]
    have k2:lH {c with now:=0,lens:=[],aT:=c.aT++[ln]}:=by
     refine⟨k.pk,k.jc,k.ol,fun e=>absurd hf (by rw[show c.pk.fin=false from e];decide),k.tk,by simp;omega,⟨aR _,aR _,fun x hx=>absurd hx (by simp)⟩,by have:=k.lo;show 0<c.size;omega,fun w hw=> ?_,k.lo,k.hi,k.wr,k.dn⟩
     rcases List.mem_append.1 hw with hw|hw
     ·exact k.wh w hw
     ·simp only[vJ]at hw
      subst hw
      exact⟨B6 ok.2.1 hs,ok.1⟩
    have ih:=abo ck t N {c with now:=0,lens:=[],aT:=c.aT++[ln]} (bs.drop u) (a+u) k2 hf (by rw[bX];simp only[dp,gM];omega) rfl rfl hc (by rw[b9];omega)
    rw[show a+u-a=u by omega,ih]
    cases e2:eZ t c.size (bs.drop u) (a+u) (c.aT++[ln])with
    |short=>rfl
    |bad e=>rfl
    |ok lns u2=>
     have:=Ar _ _ _ _ _ _ (fun w hw=>k2.wh w hw) e2
     show iq N lns c.took c.size ((bs.drop u).drop (u2-(a+u))) ck [] u2=iq N lns c.took c.size (bs.drop (u2-a)) ck [] u2
     rw[ng,show u+(u2-(a+u))=u2-a by omega]
   ·simp only[if_neg hs]
theorem Jl{s s1:Pk}{bs:List Bool}{u:Nat}(h6:s.t<=6)(ho:s.ord.length=6)(hc:s.count<32768)(h1:fx s bs= .ok s1 u):s1.t<=6∧s1.ord.length=6∧s1.count<32768:=by
 unfold fx at h1
 split at h1
 ·split at h1
  ·cases h1
  ·split at h1
   ·next wv=>
    simp only[St.ok.injEq]at h1
    obtain⟨rfl,_⟩:=h1
    exact⟨wv.1.2,ho,m9 _ (by decide)⟩
   ·cases h1
 ·split at h1
  ·cases h1
  ·cases h1
  ·next o u2 h5=>
   simp only[St.ok.injEq]at h1
   obtain⟨rfl,_⟩:=h1
   have:=(EF h5).2
   exact⟨h6,Cb (dv:=0) ho (by omega),hc⟩
theorem PE:∀(N:Nat) (s:Pk) (bs:List Bool) (a:Nat) (s':Pk) (a':Nat),s.t<=6->s.ord.length=6->s.count<32768->ek N s bs a= .ok s' a'->s'.ord.length=6
 |0,s,bs,a,s',a',_,_,_,h=>by simp[ek]at h
 |N+1,s,bs,a,s',a',h6,ho,hc,h=>by
  unfold ek at h
  split at h
  ·simp only[St.ok.injEq]at h
   obtain⟨rfl,rfl⟩:=h
   exact ho
  ·split at h
   ·cases h
   ·cases h
   ·next s1 u h1=>
    obtain⟨k1,k2,k3⟩:=Jl h6 ho hc h1
    exact PE N s1 (bs.drop u) (a+u) s' a' k1 k2 k3 h
theorem abp(ck:Ck):∀(N:Nat) (c:Cd) (bs:List Bool) (a:Nat),lH c->c.pk.count<32768->bs.length<N->
 eo N c bs ck [] a=match ek N c.pk bs a with
  | .short=> .err 3
  | .bad e=> .err e
  | .ok s u=>eo N {c with pk:=s,took:=s.bJ} (bs.drop (u-a)) ck [] u
 |0,_,_,_,_,_,h=>by omega
 |N+1,c,bs,a,k,Cq,hN=>by
  cases hf:c.pk.fin with
  |true=>
   have:ek (N+1) c.pk bs a= .ok c.pk a:=by
    show(if c.pk.fin=true then _ else _)=_
    rw[if_pos hf]
   rw[this]
   show _=eo (N+1) {c with pk:=c.pk,took:=c.pk.bJ} (bs.drop (a-a)) ck [] a
   rw[uq,jr,<-k.tk hf]
  |false=>
   have lhs:eo (N+1) c bs ck [] a=match fx c.pk bs with
    | .short=> .err 3
    | .bad e=> .err e
    | .ok s u=>eo N (nN c s) (bs.drop u) ck [] (a+u):=by
    show(if c.done=true then _ else _)=_
    rw[if_neg (by rw[k.dn];decide)]
    unfold iH
    rw[if_pos hf]
    cases fx c.pk bs with
    |short=>rfl
    |bad e=>rfl
    |ok x u=>rfl
   have rhs:ek (N+1) c.pk bs a=match fx c.pk bs with
    | .short=> .short
    | .bad e=> .bad e
    | .ok s' u=>ek N s' (bs.drop u) (a+u):=by
    show(if c.pk.fin=true then _ else _)=_
    refine(if_neg (by rw[hf];decide)).trans ?_
    cases fx c.pk bs<;>rfl
   rw[lhs,rhs]
   cases e:fx c.pk bs with
   |short=>rfl
   |bad e=>rfl
   |ok s u=>
    have sc:iH c bs= .ok (-1,nN c s) u:=by
     unfold iH
     rw[if_pos hf,e]
    obtain⟨k1,_,k3,k4⟩:=I7 k sc
    have k2:lH (nN c s):=k1 k.dn
    have l1:(bs.drop u).length<N:=by rw[b9];omega
    show eo N (nN c s) (bs.drop u) ck [] (a+u)=match ek N s (bs.drop u) (a+u)with
     | .short=> .err 3
     | .bad e=> .err e
     | .ok s u=>eo (N+1) {c with pk:=s,took:=s.bJ} (bs.drop (u-a)) ck [] u
    rw[abp ck N (nN c s) (bs.drop u) (a+u) k2 (Jl k.jc k.ol Cq e).2.2 l1]
    show(match ek N s (bs.drop u) (a+u)with
     | .short=>Rs.err 3
     | .bad e=> .err e
     | .ok s2 u2=>eo N {(nN c s)with pk:=s2,took:=s2.bJ} ((bs.drop u).drop (u2-(a+u))) ck [] u2)=_
    cases e2:ek N s (bs.drop u) (a+u)with
    |short=>rfl
    |bad e=>rfl
    |ok s2 u2=>
     obtain⟨n1,n2⟩:=k.nt hf
     obtain⟨p1,p2,p3,_,p4,p5⟩:=xB _ _ _ _ _ _ k2.pk k2.jc k2.ol (Jl k.jc k.ol Cq e).2.2 e2
     have Cr:=PE _ _ _ _ _ _ k2.jc k2.ol (Jl k.jc k.ol Cq e).2.2 e2
     show eo N {c with pk:=s2,took:=s2.bJ} ((bs.drop u).drop (u2-(a+u))) ck [] u2=eo (N+1) {c with pk:=s2,took:=s2.bJ} (bs.drop (u2-a)) ck [] u2
     rw[ng,show u+(u2-(a+u))=u2-a by omega]
     refine EX _ _ _ _ _ _ _ (fun _=>⟨p1,p2,Cr,fun e=>absurd p3 (by rw[show s2.fin=false from e];decide),fun _=>rfl, ?_,k.ln,k.ll,k.wh,k.lo,k.hi,k.wr,k.dn⟩) (by rw[b9];omega) (by rw[b9];omega)
     show c.aT.length<=s2.t
     rw[n1];exact aR _
theorem amG{size:Nat}(h3:3<=size)(rV:size<=258)(ck:Ck)(bs:List Bool):eo (bs.length+1) (qF size) bs ck [] 0=jN size bs ck:=by
 unfold jN
 rw[abp ck (bs.length+1) (qF size) bs 0 (I9 h3 rV) (by decide:0<32768) (gh _)]
 show(match ek (bs.length+1) hZ bs 0 with
  | .short=>Rs.err 3
  | .bad e=> .err e
  | .ok s u=>eo (bs.length+1) {(qF size)with pk:=s,took:=s.bJ} (bs.drop (u-0)) ck [] u)=_
 cases e:ek (bs.length+1) hZ bs 0 with
 |short=>rfl
 |bad e=>rfl
 |ok s a=>
  obtain⟨p1,p2,p3,p6,p4,p5⟩:=xB _ _ _ _ _ _ Co (aR _) rfl (by decide) e
  have Cr:=PE _ _ _ _ _ _ (aR _) rfl (by decide) e
  have k0:=I9 h3 rV
  have k:lH {(qF size)with pk:=s,took:=s.bJ}:=⟨p1,p2,Cr,fun e=>absurd p3 (by rw[show s.fin=false from e];decide),fun _=>rfl,aR _,k0.ln,k0.ll,k0.wh,k0.lo,k0.hi,k0.wr,k0.dn⟩
  have tl:(bs.drop a).length<bs.length+1:=by rw[b9];omega
  show eo (bs.length+1) {(qF size)with pk:=s,took:=s.bJ} (bs.drop (a-0)) ck [] a=match eZ s.t size (bs.drop a) 0 []with
   | .short=> .err 3
   | .bad e=> .err e
   | .ok lns u=>iq (bs.length+1) lns s.bJ size (bs.drop (a+u)) ck [] (a+u)
  rw[RS,abo ck s.t (bs.length+1) _ (bs.drop a) a k p3 (by show 0+s.t=s.t;omega) rfl rfl rfl tl]
  have:=show eZ s.t size (bs.drop a) a []=_ from abk s.t (bs.drop a) a 0 []
  show(match eZ s.t size (bs.drop a) a []with
   | .short=>Rs.err 3
   | .bad e=> .err e
   | .ok lns u=>iq (bs.length+1) lns s.bJ size ((bs.drop a).drop (u-a)) ck [] u)=_
  rw[this]
  cases e2:eZ s.t size (bs.drop a) 0 []with
  |short=>rfl
  |bad e=>rfl
  |ok lns u=>
   show iq (bs.length+1) lns s.bJ size ((bs.drop a).drop (a+u-a)) ck [] (a+u)=iq (bs.length+1) lns s.bJ size (bs.drop (a+u)) ck [] (a+u)
   rw[ng,show a+(a+u-a)=a+u by omega]
section
variable {lf d n z p:Nat} {h:H} {c:Cd} {m:Cm}
end
theorem Cs{c c':Cd}{bs:List Bool}{sym:Int}{u:Nat}(k:lH c)(h:iH c bs= .ok (sym,c') u):
 (c.pk.fin=false∧sym=-1∧∃s,fx c.pk bs= .ok s u∧c'=nN c s)∨(c.pk.fin=true∧sym=-1∧c'.pk=c.pk∧c'.count=c.count∧c'.size=c.size∧c'.done=false)∨
 (c.pk.fin=true∧0<=sym∧c'.pk=c.pk∧c'.aT=c.aT∧c'.count=c.count+1∧c'.size=c.size∧¬c.aT.length<c.pk.t):=by
 unfold iH at h
 split at h
 ·next h1=>
  cases e:fx c.pk bs with
  |short=>rw[e]at h;cases h
  |bad x=>rw[e]at h;cases h
  |ok s w=>
   rw[e]at h
   simp only[St.ok.injEq,nh]at h
   obtain⟨⟨rfl,rfl⟩,rfl⟩:=h
   exact .inl ⟨h1,rfl,s,rfl,rfl⟩
 ·next h1=>
  have fin:c.pk.fin=true:=by simpa using h1
  split at h
  ·next ht=>
   cases e:stepT c bs with
   |short=>rw[e]at h;cases h
   |bad x=>rw[e]at h;cases h
   |ok c2 w=>
    rw[e]at h
    simp only[St.ok.injEq,nh]at h
    obtain⟨⟨rfl,rfl⟩,rfl⟩:=h
    have k2:=(Ph k ht fin e).1
    unfold stepT at e
    split at e
    ·cases e
    ·cases e
    ·split at e
     ·split at e
      ·simp only[St.ok.injEq]at e
       obtain⟨rfl,_⟩:=e
       exact .inr (.inl ⟨fin,rfl,rfl,rfl,rfl,k.dn⟩)
      ·cases e
     ·simp only[St.ok.injEq]at e
      obtain⟨rfl,_⟩:=e
      exact .inr (.inl ⟨fin,rfl,rfl,rfl,rfl,k.dn⟩)
  ·next ht=>
   cases e:pN c bs with
   |short=>rw[e]at h;cases h
   |bad x=>rw[e]at h;cases h
   |ok sc w=>
    obtain⟨s,c2⟩:=sc
    rw[e]at h
    simp only[St.ok.injEq,nh]at h
    obtain⟨⟨rfl,rfl⟩,rfl⟩:=h
    unfold pN at e
    split at e
    ·cases e
    ·split at e
     ·cases e
     ·simp only[St.ok.injEq,nh]at e
      obtain⟨⟨rfl,rfl⟩,_⟩:=e
      exact .inr (.inr ⟨fin,p9 _,rfl,rfl,rfl,rfl,ht⟩)
def lZ(l:List Bool):List Nat:=(iL 16).filter fun i=>l.getD i false
def nO:List Nat->List Bool->List Nat->Nat->St (List Nat)
 |[],_,acc,u=> .ok acc u
 |i::ms,bs,acc,u=>if bs.length<16 then .short else nO ms (bs.drop 16) (acc++(lZ (bs.take 16)).map fun k=>16*i+k) (u+16)
def PF:St (List Nat)->St (List Nat)
 | .ok [] _=> .bad 25
 |x=>x
def j3(bs:List Bool):St (List Nat):=if bs.length<16 then .short else PF (nO (lZ (bs.take 16)) (bs.drop 16) [] 16)
theorem PG{l:List Bool}{i:Nat}(h:i∈lZ l):i<16:=List.mem_range.1 (List.mem_filter.1 h).1
theorem abq(l:List Bool):(lZ l).Pairwise (·<·):=adt _ arZ
structure Sy (s:List Nat):Prop where
 inc:s.Pairwise (·<·)
 lt:∀x∈s,x<256
theorem Sy.len{s:List Nat}(h:Sy s):s.length<=256:=by
 have:=(List.nodup_iff_pairwise_ne.2 (h.inc.imp fun q=>Nat.ne_of_lt q)).length_le_of_subset (l₂:=iL 256) fun x hx=>List.mem_range.2 (h.lt x hx)
 simpa using this
structure UI (ms acc:List Nat):Prop where
 pw:ms.Pairwise (·<·)
 lt:∀i∈ms,i<16
 ab:∀i∈ms,∀x∈acc,x<16*i
 sy:Sy acc
theorem UI.next{i:Nat}{ms acc:List Nat}(k:UI (i::ms) acc)(l:List Bool):UI ms (acc++(lZ l).map fun k=>16*i+k):=by
 have fh:=List.pairwise_cons.1 k.pw
 have i16:=k.lt i (by simp)
 have mem:∀x∈(lZ l).map (fun k=>16*i+k),16*i<=x∧x<16*i+16:=fun x hx=>by
  obtain⟨k,hk,rfl⟩:=List.mem_map.1 hx
  have:=PG hk
  omega
 refine⟨fh.2,fun j hj=>k.lt j (by simp[hj]),fun j hj x ee=> ?_,⟨?_,fun x nk=> ?_⟩⟩
 ·have:=fh.1 j hj
  rcases List.mem_append.1 ee with q|q
  ·have:=k.ab i (by simp) x q
   omega
  ·have:=(mem x q).2
   omega
 ·rw[List.pairwise_append]
  refine⟨k.sy.inc,List.pairwise_map.2 ((abq _).imp fun q=>by omega),fun x nk y hy=> ?_⟩
  have:=k.ab i (by simp) x nk
  have:=(mem y hy).1
  omega
 ·rcases List.mem_append.1 nk with q|q
  ·exact k.sy.lt x q
  ·have:=(mem x q).2
   omega
theorem UI.zero(l:List Bool):UI (lZ l) []:=⟨abq _,fun i hi=>PG hi,fun i _ x hx=>absurd hx (by simp),⟨as4,fun x hx=>absurd hx (by simp)⟩⟩
theorem abr:∀(ms:List Nat) (bs:List Bool) (acc:List Nat) (u:Nat) (s:List Nat) (w:Nat),UI ms acc->nO ms bs acc u= .ok s w->Sy s∧w=u+16*ms.length∧16*ms.length<=bs.length
 |[],bs,acc,u,s,w,k,h=>by
  simp only[nO,St.ok.injEq]at h
  obtain⟨rfl,rfl⟩:=h
  exact⟨k.sy,by simp,by simp⟩
 |i::ms,bs,acc,u,s,w,k,h=>by
  unfold nO at h
  split at h
  ·cases h
  ·next hl=>
   obtain⟨h1,h2,h3⟩:=abr ms _ _ _ _ _ (k.next _) h
   rw[b9]at h3
   simp only[dp]
   exact⟨h1,by omega,by omega⟩
theorem EY{bs:List Bool}{s:List Nat}{u:Nat}(h:j3 bs= .ok s u):Sy s∧s≠[]∧0<u∧u<=bs.length:=by
 unfold j3 at h
 split at h
 ·cases h
 ·next hl=>
  cases e:nO (lZ (bs.take 16)) (bs.drop 16) [] 16 with
  |short=>rw[e]at h;cases h
  |bad x=>rw[e]at h;cases h
  |ok s' w=>
   rw[e]at h
   obtain⟨h1,h2,h3⟩:=abr _ _ _ _ _ _ (UI.zero _) e
   cases s' with
   |nil=>cases h
   |cons x s'=>
    simp only[PF,St.ok.injEq]at h
    obtain⟨rfl,rfl⟩:=h
    rw[b9]at h3
    exact⟨h1,by simp,by omega,by omega⟩
theorem Jm{bs:List Bool}{e:Int}(h:j3 bs= .bad e):e=25:=by
 have nb:∀(ms:List Nat) (bs:List Bool) (acc:List Nat) (u:Nat) (e:Int),nO ms bs acc u≠ .bad e:=by
  intro ms
  induction ms with
  |nil=>intro bs acc u e h;cases h
  |cons i ms ih=>
   intro bs acc u e h
   unfold nO at h
   split at h
   ·cases h
   ·exact ih _ _ _ _ h
 unfold j3 at h
 split at h
 ·cases h
 ·cases e1:nO (lZ (bs.take 16)) (bs.drop 16) [] 16 with
  |short=>rw[e1]at h;cases h
  |bad x=>exact absurd e1 (nb _ _ _ _ _)
  |ok s' w=>
   rw[e1]at h
   cases s' with
   |nil=>cases h;rfl
   |cons x s'=>cases h
structure Zr where
 n:Nat
 most:Nat
 told:Nat
 aQ:Nat
 weight:Nat
 done:Bool
def fG(n most:Nat):Zr:=⟨n,most,0,0,1,false⟩
structure Zr.Ok (z:Zr):Prop where
 lo:1<=z.n
 hi:z.n<=256
 most:z.most<=1099511627776
 all:z.told+z.aQ<=z.most
 w1:1<=z.weight
 w2:z.weight<=z.aQ+1
 nd:z.done=false
theorem Jn{n most:Nat}(h1:1<=n)(h2:n<=256)(h3:most<=1099511627776):(fG n most).Ok:=⟨h1,h2,h3,aR _,an _,an _,rfl⟩
def dF(z:Zr)(c:Nat):Option (Zr×Nat×Nat):=
 if z.n+1<c then none
 else if c<=1 then(if z.most<z.told+z.aQ+z.weight*2^c then none else some ({z with aQ:=z.aQ+z.weight*2^c,weight:=2*z.weight},0,0))
 else if c=z.n+1 then some ({z with told:=z.told+z.aQ,aQ:=0,weight:=1,done:=true},z.aQ,0)
 else if z.told+z.aQ=z.most then none
 else some ({z with told:=z.told+1+z.aQ,aQ:=0,weight:=1},z.aQ,c-1)
theorem Jo{z z':Zr}{c n p:Nat}(k:z.Ok)(h:dF z c=some (z',n,p)):(z'.done=false->z'.Ok)∧z'.n=z.n∧z'.most=z.most∧p<z.n∧(z'.done=decide (c=z.n+1))∧n<=z.most∧z'.told+z'.aQ<=z.most:=by
 have lo:=k.lo
 have all:=k.all
 have w1:=k.w1
 have w2:=k.w2
 unfold dF at h
 split at h
 ·cases h
 ·next h0=>
  split at h
  ·next h1=>
   split at h
   ·cases h
   ·next h2=>
    simp only[eG,nh]at h
    obtain⟨rfl,rfl,rfl⟩:=h
    have c2:z.weight<=z.weight*2^c:=Nat.le_mul_of_pos_right _ (Nat.pow_pos (by decide))
    refine⟨fun _=>⟨lo,k.hi,k.most, ?_, ?_, ?_,k.nd⟩,rfl,rfl,by omega, ?_,aR _, ?_⟩
    ·show z.told+(z.aQ+z.weight*2^c)<=z.most
     omega
    ·show 1<=2*z.weight
     omega
    ·show 2*z.weight<=z.aQ+z.weight*2^c+1
     omega
    ·show z.done=_
     rw[k.nd,decide_eq_false]
     omega
    ·show z.told+(z.aQ+z.weight*2^c)<=z.most
     omega
  ·next h1=>
   split at h
   ·next h2=>
    simp only[eG,nh]at h
    obtain⟨rfl,rfl,rfl⟩:=h
    exact⟨fun e=>(nomatch e),rfl,rfl,by omega,(decide_eq_true h2).symm,by omega,by show z.told+z.aQ+0<=_;omega⟩
   ·next h2=>
    split at h
    ·cases h
    ·next h3=>
     simp only[eG,nh]at h
     obtain⟨rfl,rfl,rfl⟩:=h
     refine⟨fun _=>⟨lo,k.hi,k.most, ?_,an _,an _,k.nd⟩,rfl,rfl,by omega, ?_,by omega, ?_⟩
     ·show z.told+1+z.aQ+0<=z.most
      omega
     ·show z.done=_
      rw[k.nd,decide_eq_false h2]
     ·show z.told+1+z.aQ+0<=z.most
      omega
def cD:List Nat->List Nat->List Nat×List Nat
 |ord,[]=>([],ord)
 |ord,p::l=>(ord.getD p 0::(cD (dP 0 ord p) l).1,(cD (dP 0 ord p) l).2)
theorem PH:∀(l k ord:List Nat),cD ord (l++k)=((cD ord l).1++(cD (cD ord l).2 k).1,(cD (cD ord l).2 k).2)
 |[],k,ord=>rfl
 |p::l,k,ord=>by
  show(ord.getD p 0::(cD (dP 0 ord p) (l++k)).1,(cD (dP 0 ord p) (l++k)).2)=_
  rw[PH l k]
  rfl
theorem Jp:∀(l ord:List Nat),(cD ord l).1.length=l.length
 |[],_=>rfl
 |p::l,ord=>by
  show((cD (dP 0 ord p) l).1.length)+1=l.length+1
  rw[Jp l]
theorem EZ{ord:List Nat}{i:Nat}(h:i<ord.length):(dP 0 ord i).length=ord.length:=by
 unfold dP
 simp
 omega
theorem abt{ord:List Nat}{i x:Nat}(h:i<ord.length)(hx:x∈dP 0 ord i):x∈ord:=by
 unfold dP at hx
 rcases List.mem_cons.1 hx with rfl|hx
 ·rw[bC,bD h]
  exact eu _
 ·rcases List.mem_append.1 hx with q|q
  ·exact Kc q
  ·exact arY q
theorem PI{c c':Cd}{bs:List Bool}{sym:Int}{u:Nat}(k:lH c)(h:iH c bs= .ok (sym,c') u)(hs:0<=sym):sym.toNat<c.size∧c'.done=decide (sym.toNat+1=c.size):=by
 unfold iH at h
 split at h
 ·cases e:fx c.pk bs with
  |short=>rw[e]at h;cases h
  |bad x=>rw[e]at h;cases h
  |ok s w=>
   rw[e]at h
   simp only[St.ok.injEq,nh]at h
   omega
 ·next hf=>
  split at h
  ·cases e:stepT c bs with
   |short=>rw[e]at h;cases h
   |bad x=>rw[e]at h;cases h
   |ok c2 w=>
    rw[e]at h
    simp only[St.ok.injEq,nh]at h
    omega
  ·next ht=>
   cases e:pN c bs with
   |short=>rw[e]at h;cases h
   |bad x=>rw[e]at h;cases h
   |ok sc w=>
    obtain⟨s,c2⟩:=sc
    rw[e]at h
    simp only[St.ok.injEq,nh]at h
    obtain⟨⟨rfl,rfl⟩,rfl⟩:=h
    rw[cL]
    unfold pN at e
    split at e
    ·cases e
    ·next hb=>
     split at e
     ·cases e
     ·next s' h3=>
      simp only[St.ok.injEq,nh]at e
      obtain⟨⟨rfl,rfl⟩,_⟩:=e
      obtain⟨m1,_,_⟩:=vh h3
      have fin:c.pk.fin=true:=by simpa using hf
      have pO:c.aT.getD (c.took.getD (c.count/50) 0) []∈c.aT:=by
       have oM:c.took.getD (c.count/50) 0<c.aT.length:=by
        refine I6 k fin ht _ ?_
        rw[bC,bD (by omega)]
        exact eu _
       rw[bC,bD oM]
       exact eu _
      have:=(k.wh _ pO).2
      exact⟨by omega,rfl⟩
structure Rw where
 cd:Cd
 z:Zr
 ord:List Nat
 due:Nat
 place:Nat
def Rw.waits(r:Rw):Bool:=decide (0<r.due)||decide (0<r.place)
def tR(s:List Nat)(room:Nat):Rw:=⟨qF (s.length+2),fG s.length room,s,0,0⟩
structure Bk where
 head:Bool
 sum:Nat
 aO:Nat
 row:Option Rw
 last:List Nat
 done:Bool
def lI:Bk:=⟨false,0,0,none,[],false⟩
def iw(b:Bk)(r:Rw)(u:Nat):St Bk:=if(r.cd.done&& !r.waits)=true then(if b.last.length<=b.aO then .bad 23 else .ok {b with done:=true} u)else .ok b u
def cH(r:Rw):Nat×Rw:=if 0<r.due then(r.ord.getD 0 0,{r with ord:=dP 0 r.ord 0,due:=r.due-1})else(r.ord.getD r.place 0,{r with ord:=dP 0 r.ord r.place,place:=0})
def qH(r:Rw)(bs:List Bool):St Rw:=match iH r.cd bs with
 | .short=> .short
 | .bad e=> .bad e
 | .ok (sym,cd) u=>if sym<0 then .ok {r with cd:=cd} u else match dF r.z sym.toNat with
   |none=> .bad 25
   |some (z,n,p)=> .ok {r with cd:=cd,z:=z,due:=n,place:=p} u
def hF(room:Nat)(b:Bk)(bs:List Bool):St Bk:=
 if b.head=false then(if bs.length<57 then .short else if bs.getD 32 false=true then .bad 25 else .ok {b with head:=true,sum:=num (bs.take 32) 0,aO:=num ((bs.drop 33).take 24) 0} 57)
 else match b.row with
  |none=>match j3 bs with
   | .short=> .short
   | .bad e=> .bad e
   | .ok s u=> .ok {b with row:=some (tR s room)} u
  |some r=>if r.waits=true then iw {b with last:=b.last++[(cH r).1],row:=some (cH r).2} (cH r).2 0
   else match qH r bs with
    | .short=> .short
    | .bad e=> .bad e
    | .ok r' u=>iw {b with row:=some r'} r' u
theorem amH{l:List Bool}{i:Nat}(h:i<l.length):num l 0/2^(l.length-1-i)%2=bn (l.getD i false):=by
 have e:=BX (l:=l) rfl
 have:=Dd l.length (num l 0) i h
 rw[<-e]at this
 rw[bC,this]
 exact(OS _).symm
def tS(l:List Bool)(i:Nat):List Nat:=(iL i).filter fun i=>l.getD i false
theorem abu(l:List Bool)(i:Nat):tS l (i+1)=tS l i++(if l.getD i false=true then [i]else []):=by
 unfold tS
 rw[RL,RM]
 cases h:l.getD i false
 ·rw[if_neg (by decide),List.filter_cons_of_neg (by rw[h];decide)];rfl
 ·rw[if_pos rfl,List.filter_cons_of_pos (by rw[h])];rfl
theorem amI(l:List Bool)(i:Nat):(tS l i).length<=i:=by
 unfold tS
 exact lM (CW _ _) (by simp)
section
variable {lf d n:Nat} {h:H}
theorem abv(l:List Bool)(hl:l.length=16)(aC:100<=lf):ai (fun _=>False) n (au ah gt lf (d+1) 257 #[.int .u32 (num l 0:Int)]) h n fun v h' n'=>Own h' n n' 3 v (aS .i64 (iN (lZ l))):=by
 rw[aL (fun _=>ajY) rfl]
 refine ai.aH ?_
 unfold Oz
 refine eD 16 (fun fu i (c:Value)=>wY lf (au ah gt lf d) fu (Io lf (au ah gt lf d)) (.int .u32 (num l 0:Int)) (.slice none 0 0) c (.int .i64 (i:Int)))
  (fun i c h' n'=>n<=n'∧Own h' n n' 3 c (aS .i64 (iN (tS l i)))) ?_ ?_ lf 0 (.slice none 0 0) h n (aR _) (by omega) ⟨an _,Own.nil _ _ _ _⟩
 ·rintro fu c h' n' ⟨hn,o⟩
  rw[wY]
  try simp(disch:=first|omega|assumption) only[af,aa,RZ,fg]
  (try unfold Io);(try dsimp only)
  try simp(disch:=first|omega|assumption) only[af,aa,RZ]
  exact o
 ·rintro fu i c h' n' hi ⟨hn,o⟩ next
  have e1:(i:Int)<16:=by omega
  have w1:IntKind.i64.wrap (15-(i:Int))=((15-i:Nat):Int):=by rw[aJ (by omega) (by omega)];omega
  have w0:(0:Int)<=((15-i:Nat):Int):=by omega
  have w2:=fdiv_pow (num l 0) (15-i) (lO).bits (by simp[Kj];omega)
  rw[cL]at w2
  have nl:=jI l
  rw[hl]at nl
  have w3:=akU (a:=num l 0/2^(15-i)) (adn (arO _ _) (by omega))
  have nb:=amH (l:=l) (i:=i) (by omega)
  rw[hl,show 16-1-i=15-i by omega]at nb
  rw[nb]at w3
  have w4:IntKind.i64.wrap ((i:Int)+1)=((i+1:Nat):Int):=by rw[aJ (by omega) (by omega)];rfl
  have w5:(i:Int)+1=((i+1:Nat):Int):=rfl
  have hlen:(aS .i64 (iN (tS l i))).length=(tS l i).length:=by rw[eJ,gK]
  have E0:=amI l i
  have i0:(0:Int)<=((num l 0/2^(15-i):Nat):Int):=p9 _
  rw[wY]
  cases hb:l.getD i false with
  |true=>
   rw[hb]at w3
   have e2:(((bn true:Nat):Int)==1)=true:=rfl
   try simp(disch:=first|omega|assumption) only[af,aa,RZ,e1,w1,w0,w2,w3,e2]
   refine uZ trivial (mV _ _) o (by omega) (an _) _ fun h2 g2 k2=> ?_
   try simp(disch:=first|omega|assumption) only[af,aa,RZ,w4,w5]
   refine next _ h2 (n'+2) ⟨by omega, ?_⟩
   have e3:aS .i64 (iN (tS l (i+1)))=aS .i64 (iN (tS l i))++[.int .i64 (i:Int)]:=by rw[abu,hb,if_pos rfl,rT,pI];rfl
   rw[e3]
   exact Own.mk' g2 (by omega) (by omega) (by rw[bX];rfl)
  |false=>
   rw[hb]at w3
   have e2:(((bn false:Nat):Int)==1)=false:=rfl
   try simp(disch:=first|omega|assumption) only[af,aa,RZ,e1,w1,w0,w2,w3,e2,w4,w5]
   refine next c h' n' ⟨hn, ?_⟩
   rw[abu,hb,if_neg (by decide),cu]
   exact o
def jz(acc:List Nat):List Value:=(iL 256).map fun x=>Value.bool (decide (x∈acc))
theorem vm(acc:List Nat):(jz acc).length=256:=by unfold jz;simp
theorem Jq{acc:List Nat}{i:Nat}(h:i<256):(jz acc)[i]? =some (.bool (decide (i∈acc))):=by
 unfold jz
 rw[jC,List.getElem?_range h]
 rfl
theorem amJ{acc:List Nat}{x:Nat}(h:x<256):(jz acc).set x (.bool true)=jz (acc++[x]):=by
 apply Rj
 intro i
 by_cases hi:i<256
 ·rw[Jq hi,List.getElem?_set]
  by_cases e:x=i
  ·subst e
   rw[if_pos rfl,if_pos (by rw[vm];exact h)]
   simp
  ·rw[if_neg e,Jq hi]
   have:decide (i∈acc++[x])=decide (i∈acc):=by
    simp only[List.mem_append,vJ,decide_eq_decide]
    exact⟨fun q=>q.resolve_right fun e2=>e e2.symm,.inl⟩
   rw[this]
 ·rw[sC (by rw[List.length_set,vm];omega),sC (by rw[vm];omega)]
def r4(acc:List Nat)(i:Nat):List Nat:=(iL i).filter fun x=>decide (x∈acc)
theorem abw(acc:List Nat)(i:Nat):r4 acc (i+1)=r4 acc i++(if i∈acc then [i]else []):=by
 unfold r4
 rw[RL,RM]
 by_cases h:i∈acc<;>simp[h]
theorem amK(acc:List Nat)(i:Nat):(r4 acc i).length<=i:=by
 unfold r4
 exact lM (CW _ _) (by simp)
theorem PJ:∀{a b:List Nat},a.Pairwise (·<·)->b.Pairwise (·<·)->(∀x,x∈a↔x∈b)->a=b
 |[],[],_,_,_=>rfl
 |[],y::b,_,_,h=>absurd ((h y).2 (by simp)) (by simp)
 |x::a,[],_,_,h=>absurd ((h x).1 (by simp)) (by simp)
 |x::a,y::b,ha,hb,h=>by
  obtain⟨a1,a2⟩:=List.pairwise_cons.1 ha
  obtain⟨b1,b2⟩:=List.pairwise_cons.1 hb
  have e:x=y:=by
   rcases List.mem_cons.1 ((h x).1 (by simp))with q|q
   ·exact q
   ·have h1:=b1 x q
    rcases List.mem_cons.1 ((h y).2 (by simp))with q2|q2
    ·exact q2.symm
    ·have:=a1 y q2
     omega
  subst e
  rw[PJ a2 b2 fun z=>⟨fun q=> ?_,fun q=> ?_⟩]
  ·rcases List.mem_cons.1 ((h z).1 (by simp[q]))with q2|q2
   ·have:=a1 z q;omega
   ·exact q2
  ·rcases List.mem_cons.1 ((h z).2 (by simp[q]))with q2|q2
   ·have:=b1 z q;omega
   ·exact q2
theorem amL{acc:List Nat}(k:Sy acc):r4 acc 256=acc:=by
 refine PJ (adt _ arZ) k.inc fun x=> ?_
 unfold r4
 rw[List.mem_filter]
 exact⟨fun q=>of_decide_eq_true q.2,fun q=>⟨List.mem_range.2 (k.lt x q),decide_eq_true q⟩⟩
theorem amM{acc:List Nat}(k:Sy acc)(aC:300<=lf):ai (fun _=>False) n (au ah gt lf (d+1) 258 #[.agg (jz acc).toArray]) h n fun v h' n'=>v= .string ⟨(bS acc).toArray⟩:=by
 rw[aL (fun _=>aj0) rfl]
 refine ai.aH ?_
 unfold OA
 refine jH trivial _ _ ?_
 have g0:=get_eq h n (some ⟨321,true,(mf (jz acc).toArray).cells.toList⟩)
 refine jy trivial trivial n 0 _ g0 (by omega) (by show 0+256<=(jz acc).length;rw[vm];omega) ?_
 have e0:(((mf (jz acc).toArray).cells.toList.drop 0).take 256)=jz acc:=by
  show((jz acc).drop 0).take 256=_
  rw[jr,<-vm acc,mh]
 show ai _ n (vd lf (au ah gt lf d) lf (Ee lf (au ah gt lf d)) _ _ _ _ (.agg (((mf (jz acc).toArray).cells.toList.drop 0).take 256).toArray) _) _ _ _
 rw[e0]
 refine eD 256 (fun fu i (c:Value)=>vd lf (au ah gt lf d) fu (Ee lf (au ah gt lf d)) (.agg (jz acc).toArray) (.pointer (some ⟨n,0,none⟩)) (.string ⟨#[]⟩) c (.agg (jz acc).toArray) (.int .i64 (i:Int)))
  (fun i c h' n'=>n<=n'∧Own h' n n' 5 c (cO (r4 acc i))) ?_ ?_ lf 0 (.slice none 0 0) _ (n+1) (aR _) (by omega) ⟨by omega,Own.nil _ _ _ _⟩
 ·rintro fu c h' n' ⟨hn,o⟩
  rw[vd]
  have e1:¬(((256:Nat):Int)<256):=by decide
  try simp(disch:=first|omega|assumption) only[af,aa,RZ,e1]
  (try unfold Ee);(try dsimp only)
  refine ON o _ ?_
  try simp(disch:=first|omega|assumption) only[af,aa,RZ]
  rw[amL k]
 ·rintro fu i c h' n' hi ⟨hn,o⟩ next
  have e1:(i:Int)<256:=by omega
  have w1:IntKind.u8.wrap (i:Int)=(i:Int):=w8 hi
  have w4:IntKind.i64.wrap ((i:Int)+1)=((i+1:Nat):Int):=by rw[aJ (by omega) (by omega)];rfl
  have w5:(i:Int)+1=((i+1:Nat):Int):=rfl
  have ha:=Jq (acc:=acc) hi
  have hlen:=jX (r4 acc i)
  have E0:=amK acc i
  rw[vd]
  by_cases hb:i∈acc
  ·rw[decide_eq_true hb]at ha
   try simp(disch:=first|omega|assumption) only[af,aa,RZ,e1,ha,w1]
   refine uZ trivial (mV _ _) o (by omega) (an _) _ fun h2 g2 k2=> ?_
   try simp(disch:=first|omega|assumption) only[af,aa,RZ,w4,w5]
   refine next _ h2 (n'+2) ⟨by omega, ?_⟩
   have e3:cO (r4 acc (i+1))=cO (r4 acc i)++[.int .u8 (i:Int)]:=by rw[abw,if_pos hb,IC];rfl
   rw[e3]
   exact Own.mk' g2 (by omega) (by omega) (by rw[bX];rfl)
  ·rw[decide_eq_false hb]at ha
   try simp(disch:=first|omega|assumption) only[af,aa,RZ,e1,ha,w4,w5]
   refine next c h' n' ⟨hn, ?_⟩
   rw[abw,if_neg hb,cu]
   exact o
end
def E1(z:Zr):AB:=⟨328,true,[.int .i64 (z.n:Int),.int .i64 (z.most:Int),.int .i64 (z.told:Int),.int .i64 (z.aQ:Int),.int .i64 (z.weight:Int),.bool z.done]⟩
structure r6 (h:H) (n y:Nat) (z:Zr):Prop where
 get:h.get y=some (E1 z)
 lt:y<n
theorem r6.aB{h h':H}{n n' y:Nat}{z:Zr}(x:r6 h n y z)(hn:n<=n')(hk:h'.get y=h.get y):r6 h' n' y z:=⟨hk.trans x.get,mb x.lt hn⟩
section
variable {lf d n y:Nat} {h:H} {z:Zr}
theorem amN(k:Int):ai (fun _=>False) n (au ah gt lf (d+1) 261 #[.int .i64 k]) h n fun v' h' n'=>v'= .bool (decide (1<=k)&&decide (k<=256))∧h'=h∧n'=n:=by
 rw[aL (fun _=>aj3) rfl]
 refine ai.aH ?_
 unfold ZC
 by_cases c:1<=k
 ·try simp(disch:=first|omega|assumption) only[af,aa,RZ,c]
 ·try simp(disch:=first|omega|assumption) only[af,aa,RZ,c]
theorem amO{k most:Nat}(h1:1<=k)(h2:k<=256)(h3:most<=1099511627776):ai (fun _=>False) n (au ah gt lf (d+2) 248 #[.int .i64 (k:Int),.int .i64 (most:Int)]) h n fun v h' n'=>v= .tuple #[.pointer (some ⟨n,0,none⟩),.int .i64 0]∧n'=n+1∧r6 h' n' n (fG k most):=by
 rw[aL (fun _=>ajO) rfl]
 refine ai.aH ?_
 unfold Zm
 refine bL (amN (k:Int)) (an _) (fun _ _ h=>h.elim) ?_
 rw[decide_eq_true (show(1:Int)<=(k:Int) by omega),decide_eq_true (show(k:Int)<=256 by omega)]
 have c1:¬((most:Int)<0):=by omega
 have c2:¬((1099511627776:Int)<(most:Int)):=by omega
 try simp(disch:=first|omega|assumption) only[af,aa,RZ,fR,jP,c1,c2]
 refine jH trivial _ _ ?_
 try simp(disch:=first|omega|assumption) only[af,aa,RZ]
 exact⟨get_eq _ _ _,by omega⟩
theorem abx(x:r6 h n y z)(k:z.Ok):ai (fun _=>False) n (au ah gt lf (d+1) 270 #[.pointer (some ⟨y,0,none⟩)]) h n fun v h' n'=>v= .int .i64 ((z.told+z.aQ:Nat):Int)∧h'=h∧n'=n:=by
 have g:=x.get
 have hy:=x.lt
 unfold E1 at g
 have:=k.all
 have:=k.most
 have w1:IntKind.i64.wrap ((z.told:Int)+(z.aQ:Int))=((z.told+z.aQ:Nat):Int):=by rw[aJ (by omega) (by omega)];rfl
 rw[aL (fun _=>akc) rfl]
 refine ai.aH ?_
 unfold ZQ
 try simp(disch:=first|omega|assumption) only[af,aa,RZ,g,w1]
theorem amP(x:r6 h n y z)(k:z.Ok){c:Nat}(hc:c<=1):ai (fun b=>b=y) n (au ah gt lf (d+2) 269 #[.pointer (some ⟨y,0,none⟩),.int .i64 (c:Int)]) h n fun v h' n'=>n'=n∧
 if z.most<z.told+z.aQ+z.weight*2^c then v= .int .i64 2∧h'=h else v= .int .i64 0∧r6 h' n' y {z with aQ:=z.aQ+z.weight*2^c,weight:=2*z.weight}:=by
 have g:=x.get
 have hy:=x.lt
 unfold E1 at g
 have ka:=k.all
 have km:=k.most
 have k2:=k.w2
 have pc:2^c<=2:=by
  have:c=0∨c=1:=by omega
  rcases this with rfl|rfl<;>decide
 have wb:z.weight*2^c<=z.weight*2:=Nat.mul_le_mul_left _ pc
 obtain⟨q,hq⟩:∃q,z.weight*2^c=q:=⟨_,rfl⟩
 rw[hq]at wb⊢
 have w0:(0:Int)<=(c:Int):=by omega
 have w1:IntKind.i64.wrap ((z.weight:Int)*2^(min ((c:Int)).toNat (RU).bits))=(q:Int):=by
  have e:min ((c:Int)).toNat (RU).bits=c:=by
   rw[cL]
   exact kR (by simp[Kj];omega)
  have e2:(z.weight:Int)*2^c=((z.weight*2^c:Nat):Int):=by push_cast;rfl
  rw[e,e2,hq,aJ (by omega) (by omega)]
 rw[cL]at w1
 have w2:IntKind.i64.wrap ((z.most:Int)-((z.told+z.aQ:Nat):Int))=((z.most-(z.told+z.aQ):Nat):Int):=by rw[aJ (by omega) (by omega)];omega
 rw[aL (fun _=>akb) rfl]
 refine ai.aH ?_
 unfold ZP
 try simp(disch:=first|omega|assumption) only[af,aa,RZ,g,w0,w1]
 refine gZ trivial y 1 _ g hy (an _) rfl fun T1 t1=> ?_
 try simp(disch:=first|omega|assumption) only[af,aa,RZ]
 refine tA aK (abx (lf:=lf) (d:=d) x k) (an _) fun v2 h2 n2 T2 cJ cf bu t2=> ?_
 obtain⟨rfl,rfl,rfl⟩:=bu
 by_cases hm:z.most<z.told+z.aQ+q
 ·have c1:((z.most-(z.told+z.aQ):Nat):Int)<(q:Int):=by omega
  try simp(disch:=first|omega|assumption) only[af,aa,RZ,w2,c1,t1.cA t2,cP,fR,eh]
  rw[if_pos hm]
  all_goals (first|trivial|rfl|exact⟨rfl,rfl,rfl⟩|exact⟨rfl,rfl⟩)
 ·have c1:¬((z.most-(z.told+z.aQ):Nat):Int)<(q:Int):=by omega
  have w3:IntKind.i64.wrap ((z.aQ:Int)+(q:Int))=((z.aQ+q:Nat):Int):=by rw[aJ (by omega) (by omega)];rfl
  have w4:IntKind.i64.wrap ((z.weight:Int)*2)=((2*z.weight:Nat):Int):=by rw[aJ (by omega) (by omega)];omega
  try simp(disch:=first|omega|assumption) only[af,aa,RZ,w2,c1,t1.cA t2,cP,fR,eh,g,w3,w4]
  rw[if_neg hm]
  exact⟨get_eq _ _ _,hy⟩
theorem amQ(x:r6 h n y z)(k:z.Ok)(c:Nat)(hc:c<=1000):ai (fun b=>b=y) n (au ah gt lf (d+3) 256 #[.pointer (some ⟨y,0,none⟩),.int .i64 (c:Int)]) h n fun v h' n'=>n'=n∧
 match dF z c with
 |none=>∃e:Int,v= .tuple #[.int .i64 0,.int .i64 0,.int .i64 e]∧e≠0∧h'=h
 |some (z',m,p)=>∃q:Int,v= .tuple #[.int .i64 (m:Int),.int .i64 q,.int .i64 0]∧(q=(p:Int)∨q=-1∧p=0)∧r6 h' n' y z':=by
 have g:=x.get
 have hy:=x.lt
 unfold E1 at g
 have ka:=k.all
 have km:=k.most
 have kh:=k.hi
 rw[k.nd]at g
 have c0:¬((c:Int)<0):=by omega
 have w1:IntKind.i64.wrap ((z.n:Int)+1)=((z.n+1:Nat):Int):=by rw[aJ (by omega) (by omega)];rfl
 have z0:((0:Int) !=0)=false:=rfl
 have z2:((2:Int) !=0)=true:=rfl
 rw[aL (fun _=>ajW) rfl]
 refine ai.aH ?_
 unfold Zv dF
 by_cases c1:z.n+1<c
 ·have pQ:((z.n+1:Nat):Int)<(c:Int):=by omega
  try simp(disch:=first|omega|assumption) only[af,aa,RZ,g,c0,w1,pQ]
  rw[if_pos c1]
  first|exact⟨25,rfl,by decide⟩|exact⟨rfl,25,rfl,by decide,rfl⟩|exact⟨25,rfl,by decide,rfl⟩
 have pQ:¬((z.n+1:Nat):Int)<(c:Int):=by omega
 by_cases c2:c<=1
 ·have tT:(c:Int)<=1:=by omega
  try simp(disch:=first|omega|assumption) only[af,aa,RZ,g,c0,w1,pQ,tT]
  rw[if_neg c1,if_pos c2]
  refine aU aK (amP (lf:=lf) (d:=d) x k c2) (an _) (fun b _ hb=> .inr hb) fun v1 h1 n1 aM aY aw=> ?_
  obtain⟨rfl,aw⟩:=aw
  by_cases hm:z.most<z.told+z.aQ+z.weight*2^c
  ·rw[if_pos hm]at aw
   obtain⟨rfl,rfl⟩:=aw
   rw[if_pos hm]
   try simp(disch:=first|omega|assumption) only[af,aa,RZ,z2]
   first|exact⟨2,rfl,by decide⟩|exact⟨rfl,2,rfl,by decide,rfl⟩|exact⟨2,rfl,by decide,rfl⟩
  ·rw[if_neg hm]at aw
   obtain⟨rfl,x1⟩:=aw
   rw[if_neg hm]
   try simp(disch:=first|omega|assumption) only[af,aa,RZ,z0]
   exact⟨-1,rfl,(by first|exact .inr ⟨rfl,rfl⟩|exact .inr rfl),x1⟩
 have tT:¬(c:Int)<=1:=by omega
 have w2:IntKind.i64.wrap ((c:Int)-1)=((c-1:Nat):Int):=by rw[aJ (by omega) (by omega)];omega
 by_cases c3:c=z.n+1
 ·have nQ:((c:Int)==((z.n+1:Nat):Int))=true:=by rw[c3];exact beq_iff_eq.2 rfl
  have w3:IntKind.i64.wrap ((z.told:Int)+(z.aQ:Int))=((z.told+z.aQ:Nat):Int):=by rw[aJ (by omega) (by omega)];rfl
  try simp(disch:=first|omega|assumption) only[af,aa,RZ,g,c0,w1,pQ,tT,w2,nQ,w3]
  rw[if_neg c1,if_neg c2,if_pos c3]
  exact⟨-1,rfl,(by first|exact .inr ⟨rfl,rfl⟩|exact .inr rfl),get_eq _ _ _,hy⟩
 ·have nQ:((c:Int)==((z.n+1:Nat):Int))=false:=beq_eq_false_iff_ne.2 (by omega)
  try simp(disch:=first|omega|assumption) only[af,aa,RZ,g,c0,w1,pQ,tT,w2,nQ]
  rw[if_neg c1,if_neg c2,if_neg c3]
  refine tA aK (abx (lf:=lf) (d:=d+1) x k) (an _) fun v2 h2 n2 T2 cJ cf bu t2=> ?_
  obtain⟨rfl,rfl,rfl⟩:=bu
  try simp(disch:=first|omega|assumption) only[af,aa,RZ]
  refine gZ trivial y 1 _ g hy (an _) rfl fun T1 t1=> ?_
  by_cases c4:z.told+z.aQ=z.most
  ·have vn:(((z.told+z.aQ:Nat):Int)==(z.most:Int))=true:=beq_iff_eq.2 (by omega)
   try simp(disch:=first|omega|assumption) only[af,aa,RZ,vn,t2.cA t1,cP,fR,eh]
   rw[if_pos c4]
   first|exact⟨2,rfl,by decide⟩|exact⟨rfl,2,rfl,by decide,rfl⟩|exact⟨2,rfl,by decide,rfl⟩
  ·have vn:(((z.told+z.aQ:Nat):Int)==(z.most:Int))=false:=beq_eq_false_iff_ne.2 (by omega)
   have w3:IntKind.i64.wrap ((z.told:Int)+1)=((z.told+1:Nat):Int):=by rw[aJ (by omega) (by omega)];rfl
   have w4:IntKind.i64.wrap (((z.told+1:Nat):Int)+(z.aQ:Int))=((z.told+1+z.aQ:Nat):Int):=by rw[aJ (by omega) (by omega)];rfl
   try simp(disch:=first|omega|assumption) only[af,aa,RZ,vn,t2.cA t1,cP,fR,eh,g,w3,w4]
   rw[if_neg c4]
   refine⟨((c-1:Nat):Int),rfl,.inl rfl, ?_,hy⟩
   rw[get_eq]
   unfold E1
   rw[k.nd]
   rfl
end
section
variable {β:Type} {W:Nat->Prop} {n0:Nat} {h:H} {n:Nat} {Q:β->H->Nat->Prop}
theorem amR {b off r7 l1 l2 c1 c2:Nat} {e:TypeId} {cs:List Value} (hg:h.get b=some ⟨e,true,cs⟩) (hb:b<n) (h1:cs.all one=true) (hl:l2<=l1) (h2:0<l2) (h3:off+l2<=cs.length) (h4:r7+l2<=cs.length) (hw:n0<=b∨W b) (k:Value->M β)
 (x:∀h',h'.get b=some ⟨e,true,cs.take off++(cs.drop r7).take l2++cs.drop (off+l2)⟩->(∀c,c≠b->h'.get c=h.get c)->ai W n0 (k (.int .i64 (l2:Int))) h' n Q):ai W n0 (G7 1 (.slice (some ⟨b,off,none⟩) l1 c1) (.slice (some ⟨b,r7,none⟩) l2 c2) k) h n Q:=by
 obtain⟨L1,e1,e2⟩:=rK hg hb l2 r7 h4
 have yH:((cs.drop r7).take l2).length=l2:=by simp;omega
 have hv1:((cs.drop r7).take l2).all one=true:=by
  rw[FG]at h1⊢
  exact fun v hv=>h1 v (arY (Kc hv))
 obtain⟨h',L2,f1,f2,f3,f4⟩:=M7 _ b off e cs h n hg hb (by rw[yH];exact h3) hv1
 rw[yH]at f2
 refine jx (m:=yX 1 _ _) ?_
 have mn:Nat.min l2 l1=l2:=kR hl
 have e5:yX 1 (.slice (some ⟨b,off,none⟩) l1 c1) (.slice (some ⟨b,r7,none⟩) l2 c2) h n=some ⟨.int .i64 (l2:Int),h',n,L1++(L2++[])⟩:=by
  show(if 0<Nat.min l2 l1 then(wB 1 (Nat.min l2 l1) (.slice (some ⟨b,r7,none⟩) l2 c2)).bind (fun vs=>(rB b off vs).bind fun _=>M.ret (dG .i64 (Nat.min l2 l1)))else M.ret (dG .i64 0)) h n=_
  rw[mn,if_pos h2]
  have eA:wB 1 l2 (.slice (some ⟨b,r7,none⟩) l2 c2) h n=some ⟨(cs.drop r7).take l2,h,n,L1⟩:=by
   rw[td]
   show cU b r7 (l2*1) h n=_
   rw[Nat.mul_one]
   exact e1
  exact bZ eA (by rw[Dy];exact bZ f1 rfl)
 refine ai.step (jU e5) (an _) (fun y hy gJ=> ?_) (x h' f2 f3)
 have:=(List.mem_filter.1 hy).1
 rw[cu]at this
 rcases List.mem_append.1 this with q|q
 ·rw[e2 y q]at gJ;cases gJ
 ·rw[f4 y q];exact hw
theorem amS{l1 l2 c1 c2:Nat}{a b:Option Addr}(h2:l2=0)(k:Value->M β)(x:ai W n0 (k (.int .i64 0)) h n Q):ai W n0 (G7 1 (.slice a l1 c1) (.slice b l2 c2) k) h n Q:=by
 subst h2
 have e:yX 1 (.slice a l1 c1) (.slice b 0 c2)=M.ret (.int .i64 0):=by
  have hm:¬0<Nat.min 0 l1:=by have:Nat.min 0 l1=0:=Nat.zero_min l1;omega
  simp only[yX,ic,hm,if_false]
 show ai W n0 (eW (yX 1 (.slice a l1 c1) (.slice b 0 c2)) k) h n Q
 rw[e,nB,agF]
 exact x
theorem amT{e:TypeId}(l:List UInt8)(hl:l.length<=1099511627776)(k:Value->M β)(x:ai W n0 (k (.slice (some ⟨n,0,none⟩) l.length (bq+l.length))) (h.set n (some ⟨e,true,l.map fun b=>dG .u8 (b.toNat:Int)⟩)) (n+1) Q):ai W n0 (Bv e (.string ⟨l.toArray⟩) k) h n Q:=by
 have e1:Bv e (.string ⟨l.toArray⟩) k=eW ((kF e (l.map fun(b:UInt8)=>dG .u8 (b.toNat:Int))).bind fun id=>M.ret (kf (some ⟨id,0,none⟩) l.length (bq+l.length))) k:=by
  show(match Nat.ble (lC l) 1099511627776 with
   |true=>eW ((kF e (l.map fun(b:UInt8)=>dG .u8 (.ofNat b.toNat))).bind fun id=>M.ret (kf (some ⟨id,0,none⟩) (lC l) (bq+lC l))) k
   |false=> .fail)=_
  rw[sZ,Nat.ble_eq_true_of_le hl]
  rfl
 rw[e1]
 exact jx (rJ (pD _ _ (fun id=>kf (some ⟨id,0,none⟩) l.length (bq+l.length)) _ _) (iP n) x)
end
structure qI (h:H) (n l:Nat) (v:Value) (ord:List Nat):Prop where
 get:h.get l=some ⟨317,true,[v]⟩
 lt:l<n
 own:Own h 0 n 5 v (cO ord)
theorem qI.aB{h h':H}{n n' l:Nat}{v:Value}{ord:List Nat}(x:qI h n l v ord)(hn:n<=n')(hk:h'.get l=h.get l)(om:∀b,aN v b->h'.get b=h.get b):qI h' n' l v ord:=⟨hk.trans x.get,mb x.lt hn,x.own.aB hn om⟩
theorem amU{ord:List Nat}{i:Nat}(h:i<ord.length):(cO ord)[i]? =some (.int .u8 ((ord.getD i 0:Nat):Int)):=by
 unfold cO
 rw[jC,bD h,bC,bD h]
 rfl
theorem amV(ord:List Nat):(cO ord).all one=true:=by
 rw[FG]
 intro v hv
 obtain⟨x,_,rfl⟩:=List.mem_map.1 hv
 rfl
theorem amW{ord:List Nat}{i:Nat}(h:i<ord.length):((cO ord).take 1++((cO ord).drop 0).take i++(cO ord).drop (1+i)).set 0 (.int .u8 ((ord.getD i 0:Nat):Int))=cO (dP 0 ord i):=by
 obtain⟨x,o,rfl⟩:∃x o,ord=x::o:=by
  cases ord with
  |nil=>simp at h
  |cons x o=>exact⟨x,o,rfl⟩
 unfold dP cO
 simp only[Nat.add_comm 1 i,List.map_cons,qb,List.map_take,List.map_drop,jr]
 rfl
section
variable {lf d n l:Nat} {h:H} {v:Value} {ord:List Nat}
theorem amX(x:qI h n l v ord){i:Nat}(hi:i<ord.length)(E2:ord.length<=1000):ai (fun b=>aN v b) n (au ah gt lf (d+1) 250 #[.pointer (some ⟨l,0,none⟩),.int .i64 (i:Int)]) h n fun v' h' n'=>v'= .int .u8 ((ord.getD i 0:Nat):Int)∧n'=n∧qI h' n' l v (dP 0 ord i):=by
 have g:=x.get
 have hl:=x.lt
 obtain⟨o,rfl,go,_,ho⟩:∃o,v= .slice (some ⟨o,0,none⟩) ord.length (bq+ord.length)∧h.get o=some ⟨5,true,cO ord⟩∧0<=o∧o<n:=by
  rcases x.own with ⟨_,e⟩|⟨o,h1,h2,h3,h4⟩
  ·have:ord.length=0:=by rw[<-jX ord,e];rfl
   omega
  ·rw[jX]at h1
   exact⟨o,h1,h2,h3,h4⟩
 have jj:l≠o:=oK g go (by decide:(317:Nat)≠5)
 have yC:aN (.slice (some ⟨o,0,none⟩) ord.length (bq+ord.length)) o:=⟨_,_,_,rfl⟩
 have ul:=jX ord
 have a1:=amU hi
 have w1:IntKind.i64.wrap ((i:Int)+1)=((i+1:Nat):Int):=by rw[aJ (by omega) (by omega)];rfl
 have cap:bq=1152921504606846976:=rfl
 rw[aL (fun _=>ajQ) rfl]
 refine ai.aH ?_
 unfold Zo
 have ii:(i:Int)<((ord.length:Nat):Int):=by omega
 have io:(0:Int)<((ord.length:Nat):Int):=by omega
 try simp(disch:=first|omega|assumption) only[af,aa,RZ,g,go,a1,ii,w1]
 refine U2 trivial go rfl ho 0 ord.length (bq+ord.length) (some (.int .i64 1)) (some (.int .i64 ((i+1:Nat):Int))) (l:=1) (hh:=i+1) (M0 .i64 1 0) (M0 .i64 (i+1) _) (by omega) (by omega) (by omega) _ trivial ?_
 try simp(disch:=first|omega|assumption) only[af,aa,RZ,g]
 refine U2 trivial go rfl ho 0 ord.length (bq+ord.length) none (some (.int .i64 (i:Int))) (l:=0) (hh:=i) (agE 0) (M0 .i64 i _) (by omega) (by omega) (by omega) _ trivial ?_
 rw[if_neg (by omega),if_neg (by omega)]
 have fin:∀h2,h2.get o=some ⟨5,true,(cO ord).take 1++((cO ord).drop 0).take i++(cO ord).drop (1+i)⟩->(∀c,c≠o->h2.get c=h.get c)->
  ai (fun b=>aN (.slice (some ⟨o,0,none⟩) ord.length (bq+ord.length)) b) n (az (.pointer (some ⟨l,0,none⟩)) fun c=>aq 0 c fun d=>ar d fun e=>dO e (.int .i64 0) fun f=>aZ f (.int .u8 ((ord.getD i 0:Nat):Int)) fun _=>aj [.int .u8 ((ord.getD i 0:Nat):Int)]) h2 n fun v' h' n'=>v'= .int .u8 ((ord.getD i 0:Nat):Int)∧n'=n∧qI h' n' l (.slice (some ⟨o,0,none⟩) ord.length (bq+ord.length)) (dP 0 ord i):=fun h2 g2 k2=>by
  have g3:=(k2 l jj).trans g
  have ey:0<((cO ord).take 1++((cO ord).drop 0).take i++(cO ord).drop (1+i)).length:=by simp[ul];omega
  try simp(disch:=first|omega|assumption) only[af,aa,RZ,g3,io,g2,yC,ey]
  refine⟨(aD _ _ jj).trans g3,hl, ?_⟩
  have tl:=EZ hi
  refine .inr ⟨o,by rw[jX,tl], ?_,aR _,ho⟩
  rw[get_eq,amW hi]
 by_cases h0:i=0
 ·refine amS (by omega) _ ?_
  refine fin h ?_ fun _ _=>rfl
  rw[go]
  subst h0
  congr 2
  rw[List.take_zero,cu,kQ,RG]
 ·refine amR go ho (amV _) (by omega) (by omega) (by rw[ul];omega) (by rw[ul];omega) (.inr yC) _ fun h2 g2 k2=> ?_
  rw[RS]at g2
  exact fin h2 g2 k2
theorem amY(x:qI h n l v ord){i:Nat}(hi:i<ord.length)(E2:ord.length<=1000):ai (fun b=>aN v b) n (au ah gt lf (d+2) 240 #[.pointer (some ⟨l,0,none⟩),.int .i64 (i:Int)]) h n fun v' h' n'=>v'= .tuple #[.int .u8 ((ord.getD i 0:Nat):Int),.int .i64 0]∧n'=n∧qI h' n' l v (dP 0 ord i):=by
 have g:=x.get
 have hl:=x.lt
 obtain⟨a,c,hv⟩:∃a c,v= .slice a ord.length c:=by
  rcases x.own with ⟨h1,e⟩|⟨o,h1,_⟩
  ·have:ord.length=0:=by rw[<-jX ord,e];rfl
   omega
  ·rw[jX]at h1
   exact⟨_,_,h1⟩
 have g2:=g
 rw[hv]at g2
 have c1:¬((i:Int)<0):=by omega
 have c2:¬(((ord.length:Nat):Int)<=(i:Int)):=by omega
 rw[aL (fun _=>ajG) rfl]
 refine ai.aH ?_
 unfold Zc
 try simp(disch:=first|omega|assumption) only[af,aa,RZ,g2,c1,c2]
 refine aU aK (amX (lf:=lf) (d:=d) x hi E2) (an _) (fun b _ hb=> .inr hb) fun v1 h1 n1 aM aY aw=> ?_
 obtain⟨rfl,rfl,x1⟩:=aw
 try simp(disch:=first|omega|assumption) only[af,aa,RZ]
 exact x1
theorem amZ{s:List Nat}(k:Sy s)(h0:s≠[])(aC:300<=lf):ai (fun _=>False) n (au ah gt lf (d+1) 262 #[.string ⟨(bS s).toArray⟩]) h n fun v' h' n'=>v'= .bool true∧h'=h∧n'=n:=by
 have hl:=k.len
 have bl:(bS s).length=s.length:=by unfold bS;simp
 rw[aL (fun _=>aj5) rfl]
 refine ai.aH ?_
 unfold OB
 try simp(disch:=first|omega|assumption) only[af,aa,RZ]
 rw[bl]
 refine eD s.length (fun fu i (q:Unit)=>wZ lf (au ah gt lf d) fu (Iq lf (au ah gt lf d)) (.string ⟨(bS s).toArray⟩) (.bool false) (.int .i64 ((s.length:Nat):Int)) (.int .i64 (i:Int)))
  (fun i q h' n'=>h'=h∧n'=n) ?_ ?_ lf 0 () h n (aR _) (by omega) ⟨rfl,rfl⟩
 ·rintro fu q h' n' ⟨rfl,rfl⟩
  rw[wZ]
  try simp(disch:=first|omega|assumption) only[af,aa,RZ,fg]
  (try unfold Iq);(try dsimp only)
  have e:decide ((bS s)=([]:List UInt8))=false:=decide_eq_false fun e=>h0 (by
   rw[e]at bl
   exact List.length_eq_zero_iff.1 bl.symm)
  try simp(disch:=first|omega|assumption) only[af,aa,RZ,e]
 ·rintro fu i q h' n' hi ⟨rfl,rfl⟩ next
  have e1:(i:Int)<((s.length:Nat):Int):=by omega
  have w4:IntKind.i64.wrap ((i:Int)+1)=((i+1:Nat):Int):=by rw[aJ (by omega) (by omega)];rfl
  have w5:(i:Int)+1=((i+1:Nat):Int):=rfl
  rw[wZ]
  by_cases Se:i=0
  ·have c1:¬((0:Int)<(i:Int)):=by omega
   try simp(disch:=first|omega|assumption) only[af,aa,RZ,e1,c1,w4,w5]
   exact next () _ _ ⟨rfl,rfl⟩
  ·have c1:(0:Int)<(i:Int):=by omega
   have w1:IntKind.i64.wrap ((i:Int)-1)=((i-1:Nat):Int):=by rw[aJ (by omega) (by omega)];omega
   have b0:(0:Int)<=((i-1:Nat):Int):=by omega
   have b1:((i-1:Nat):Int)<(((bS s).length:Nat):Int):=by omega
   have b2:(i:Int)<(((bS s).length:Nat):Int):=by omega
   have at_:∀j,j<s.length->(((bS s).getD j 0).toNat:Int)=((s.getD j 0:Nat):Int)∧s.getD j 0<256:=fun j hj=>by
    have h1:s.getD j 0=s[j]:=by rw[bC,bD hj];rfl
    have h2:=k.lt s[j] (eu hj)
    rw[h1]
    unfold bS
    rw[bC,jC,bD hj]
    show((jq s[j]).toNat:Int)=_∧_
    rw[arX,me (by omega)]
    exact⟨rfl,h2⟩
   have i1:=(at_ i hi).1
   have i2:=(at_ (i-1) (by omega)).1
   have lt:s.getD (i-1) 0<s.getD i 0:=by
    have h1:s.getD i 0=s[i]:=by rw[bC,bD hi];rfl
    have h2:s.getD (i-1) 0=s[i-1]:=by rw[bC,bD (by omega)];rfl
    rw[h1,h2]
    exact List.pairwise_iff_getElem.1 k.inc (i-1) i (by omega) hi (by omega)
   have c2:¬(((s.getD i 0:Nat):Int)<=((s.getD (i-1) 0:Nat):Int)):=by omega
   try simp(disch:=first|omega|assumption) only[af,aa,RZ,e1,c1,w1,b0,b1,b2,i1,i2,c2,w4,w5]
   exact next () _ _ ⟨rfl,rfl⟩
theorem am0{s:List Nat}(k:Sy s)(h0:s≠[])(aC:300<=lf):ai (fun _=>False) n (au ah gt lf (d+2) 249 #[.string ⟨(bS s).toArray⟩]) h n fun v' h' n'=>v'= .tuple #[.pointer (some ⟨n+1,0,none⟩),.int .i64 0]∧n'=n+2∧∃o,qI h' n' (n+1) o s∧∀b,aN o b->b=n:=by
 have hl:=k.len
 have bl:(bS s).length=s.length:=by unfold bS;simp
 rw[aL (fun _=>ajP) rfl]
 refine ai.aH ?_
 unfold Zn
 refine bL (amZ (d:=d) k h0 aC) (an _) (fun _ _ h=>h.elim) ?_
 try simp(disch:=first|omega|assumption) only[af,aa,RZ,jP]
 refine amT _ (by omega) _ ?_
 try simp(disch:=first|omega|assumption) only[af,aa,RZ]
 refine jH trivial _ _ ?_
 try simp(disch:=first|omega|assumption) only[af,aa,RZ]
 refine⟨_,⟨get_eq _ _ _,by omega, ?_⟩,fun b hb=>hb.inj⟩
 refine .inr ⟨n,by rw[bl,jX], ?_,aR _,by omega⟩
 rw[aD _ _ (by omega),get_eq]
 congr 2
 unfold bS cO
 rw[List.map_map]
 refine List.map_congr_left fun x hx=> ?_
 have:=k.lt x hx
 show dG .u8 ((jq x).toNat:Int)=_
 rw[arX,me (by omega)]
end
section
variable {β:Type} {W:Nat->Prop} {n0:Nat} {h:H} {n:Nat} {Q:β->H->Nat->Prop}
theorem am1{lo:Nat}{e:TypeId}{v:Value}{ws:List Nat}(o:Own h lo n e v (cO ws)):∃L,lU v M.ret h n=some ⟨.string ⟨(bS ws).toArray⟩,h,n,L⟩∧∀x∈L,x.wr=false∧aN v x.b:=by
 rcases o with ⟨rfl,e0⟩|⟨b,rfl,hg,_,hb⟩
 ·have:ws=[]:=by
   cases ws with
   |nil=>rfl
   |cons x l=>simp[cO]at e0
  subst this
  exact⟨[],rfl,by simp⟩
 ·obtain⟨L,e1,e2⟩:=OP hg hb (cO ws).length 0 (by show 0+(cO ws).length<=(cO ws).length;omega)
  have e3:((cO ws).drop 0).take (cO ws).length=cO ws:=by rw[jr,mh]
  have e4:((jv b 0 (cO ws).length).bind fun vs=>match mw vs with
   |some l=>M.ret (aV ⟨⟨l⟩⟩)
   |none=> .fail) h n=some ⟨.string ⟨(bS ws).toArray⟩,h,n,L++[]⟩:=by
   rw[pr]
   refine bZ e1 ?_
   show(match mw (((cO ws).drop 0).take (cO ws).length)with
    |some l=>M.ret (aV ⟨⟨l⟩⟩)
    |none=>M.fail) h n=_
   rw[e3,ID]
   rfl
  refine⟨_,qz e4,fun x hx=> ?_⟩
  have:=(List.mem_filter.1 hx).1
  rw[cu]at this
  exact⟨(e2 x this).1,_,_,_,by rw[(e2 x this).2]⟩
theorem am2{lo m:Nat}{e:TypeId}{v:Value}{ws:List Nat}(o:Own h lo m e v (cO ws))(hm:m<=n)(k:Value×Tk->M β)(y:∀T,RB T m->ai W n0 (k (.string ⟨(bS ws).toArray⟩,T)) h n Q):ai W n0 ((aG (lU v M.ret)).bind k) h n Q:=by
 obtain⟨L,e1,e2⟩:=am1 (o.aB hm fun _ _=>rfl)
 exact oH e1 (an _) (fun x hx hw=>by rw[(e2 x hx).1]at hw;cases hw) (y _ ⟨fun x hx=>(e2 x hx).1,fun x hx=>(o.lt (e2 x hx).2).2,hm⟩)
end
structure Bm where
 b:Nat
 lv:Value
 x:Nat
 z:Nat
 m:Cm
 y:Nat
 l:Nat
 ov:Value
def xD(r:Rw)(m:Bm):AB:=⟨212,true,[.pointer (some ⟨m.z,0,none⟩),.pointer (some ⟨m.y,0,none⟩),.pointer (some ⟨m.l,0,none⟩),.int .i64 (r.due:Int),.int .i64 (r.place:Int)]⟩
structure je (h:H) (n:Nat) (L:Nat->Nat) (p:Nat) (r:Rw) (m:Bm):Prop where
 get:h.get m.x=some (xD r m)
 lt:m.x<n
 lx:L m.x=4
 cd:cY h n m.z p r.cd m.m
 lc:∀c,(m.m.F m.z c∨aN m.m.tv c∨∃w∈m.m.iv,w.1<=c∧c<w.2.1)->L c=5
 zr:r6 h n m.y r.z
 ly:L m.y=6
 li:qI h n m.l m.ov r.ord
 ll:L m.l=7
 lo:∀c,aN m.ov c->L c=8
theorem je.aB{h h':H}{n n':Nat}{L L':Nat->Nat}{p:Nat}{r:Rw}{m:Bm}(x:je h n L p r m)(hn:n<=n')(hL:∀c,c<n->L' c=L c)(hk:∀c,c<n->4<=L c->L c<=8->h'.get c=h.get c):je h' n' L' p r m:=by
 have cn:∀c,(m.m.F m.z c∨aN m.m.tv c∨∃w∈m.m.iv,w.1<=c∧c<w.2.1)->c<n:=fun c hc=>by
  rcases hc with hc|hc|⟨w,hw,_,hc⟩
  ·exact x.cd.yT hc
  ·exact x.cd.took.lt hc
  ·have:=(x.cd.iv hw).2.1
   omega
 have on:∀c,aN m.ov c->c<n:=fun c hc=>(x.li.own.lt hc).2
 exact⟨(hk _ x.lt (by rw[x.lx];omega) (by rw[x.lx];omega)).trans x.get,mb x.lt hn,(hL _ x.lt).trans x.lx,
  x.cd.aB hn fun c hc h2=>hk c hc (by rw[x.lc c h2];omega) (by rw[x.lc c h2];omega),
  fun c hc=>(hL c (cn c hc)).trans (x.lc c hc),
  x.zr.aB hn (hk _ x.zr.lt (by rw[x.ly];omega) (by rw[x.ly];omega)),(hL _ x.zr.lt).trans x.ly,
  x.li.aB hn (hk _ x.li.lt (by rw[x.ll];omega) (by rw[x.ll];omega)) fun c hc=>hk c (on c hc) (by rw[x.lo c hc];omega) (by rw[x.lo c hc];omega),
  (hL _ x.li.lt).trans x.ll,fun c hc=>(hL c (on c hc)).trans (x.lo c hc)⟩
def E3(o:Option Rw)(x:Nat):Value:=match o with
 |none=> .pointer none
 |some _=> .pointer (some ⟨x,0,none⟩)
def kK(room:Nat)(k:Bk)(m:Bm)(bV:Int):AB:=⟨207,true,[E3 k.row m.x,.int .i64 (room:Int),.bool k.head,.int .u32 (k.sum:Int),.int .i64 (k.aO:Int),m.lv,.bool k.done,.int .i64 bV]⟩
structure fK (h:H) (n:Nat) (L:Nat->Nat) (p room:Nat) (k:Bk) (m:Bm) (bV:Int):Prop where
 get:h.get m.b=some (kK room k m bV)
 lt:m.b<n
 lb:L m.b=2
 last:Own h 0 n 5 m.lv (cO k.last)
 ll:∀c,aN m.lv c->L c=3
 row:∀r,k.row=some r->je h n L p r m
theorem fK.aB{h h':H}{n n':Nat}{L L':Nat->Nat}{p room:Nat}{k:Bk}{m:Bm}{bV:Int}(x:fK h n L p room k m bV)(hn:n<=n')(hL:∀c,c<n->L' c=L c)(hk:∀c,c<n->2<=L c->L c<=8->h'.get c=h.get c):fK h' n' L' p room k m bV:=
 ⟨(hk _ x.lt (by rw[x.lb];omega) (by rw[x.lb];omega)).trans x.get,mb x.lt hn,(hL _ x.lt).trans x.lb,
   x.last.aB hn fun c hc=>hk c (x.last.lt hc).2 (by rw[x.ll c hc];omega) (by rw[x.ll c hc];omega),fun c hc=>(hL c (x.last.lt hc).2).trans (x.ll c hc),
   fun r hr=>(x.row r hr).aB hn hL fun c hc h1 h2=>hk c hc (by omega) h2⟩
theorem fK.put{h h':H}{n:Nat}{L:Nat->Nat}{p room:Nat}{k:Bk}{m:Bm}{bV:Int}(x:fK h n L p room k m bV){k':Bk}{Ct:Int}(hB:h'.get m.b=some (kK room k' m Ct))(hk:∀c,c≠m.b->h'.get c=h.get c)(h1:k'.last=k.last)(h2:k'.row=k.row):fK h' n L p room k' m Ct:=by
 have ne:∀{c},L c≠2->h'.get c=h.get c:=fun hc=>hk _ fun e=>hc (by rw[e];exact x.lb)
 exact⟨hB,x.lt,x.lb,by rw[h1];exact x.last.aB (an _) fun c hc=>ne (by rw[x.ll c hc];decide),x.ll,fun r hr=>(x.row r (by rw[<-h2];exact hr)).aB (an _) (fun _ _=>rfl) fun c _ h3 _=>ne (by omega)⟩
def WB(L:Nat->Nat):Nat->Prop:=fun c=>1<=L c∧L c<=8
theorem bf.apart{h h':H}{n n' p:Nat}{S:List UInt8}{D A:Nat}{L:Nat->Nat}(x:bf h n p S D A)(lp:L p=1)(hn:n<=n')(hk:∀c,c<n->L c=1->h'.get c=h.get c):bf h' n' p S D A:=x.aB hn (hk p x.lt lp)
section
variable {lf d n p room:Nat} {h:H} {S:List UInt8} {D A:Nat} {L:Nat->Nat} {k:Bk} {m:Bm} {bV:Int}
theorem am3(hr:5<=room)(ew:room<=900000):ai (fun _=>False) n (au ah gt lf (d+1) 189 #[.int .i64 (room:Int)]) h n fun v h' n'=>v= .tuple #[.pointer (some ⟨n,0,none⟩),.int .i64 0]∧n'=n+1∧∀(L:Nat->Nat) (m:Bm) (p:Nat),L n=2->m.b=n->m.lv= .slice none 0 0->fK h' n' L p room lI m 0:=by
 rw[aL (fun _=>ai6) rfl]
 refine ai.aH ?_
 unfold Yw
 have c1:¬((room:Int)<5):=by omega
 have c2:¬((900000:Int)<(room:Int)):=by omega
 try simp(disch:=first|omega|assumption) only[af,aa,RZ,c1,c2]
 refine jH trivial _ _ ?_
 try simp(disch:=first|omega|assumption) only[af,aa,RZ]
 intro L m p hL hm kJ
 refine⟨by rw[hm,get_eq];unfold kK;rw[kJ];rfl,by rw[hm];omega,by rw[hm];exact hL,by rw[kJ];exact Own.nil _ _ _ _,fun c hc=> ?_,fun r hr=>(nomatch hr)⟩
 rw[kJ]at hc
 exact hc.not_nil.elim
theorem aby(y:fK h n L p room k m bV):ai (fun _=>False) n (au ah gt lf (d+1) 191 #[.pointer (some ⟨m.b,0,none⟩)]) h n fun v h' n'=>v= .bool k.done∧h'=h∧n'=n:=by
 have g:=y.get
 have hb:=y.lt
 unfold kK at g
 rw[aL (fun _=>ai8) rfl]
 refine ai.aH ?_
 unfold Yy
 try simp(disch:=first|omega|assumption) only[af,aa,RZ,g]
theorem am4(y:fK h n L p room k m bV)(hd:k.done=true):ai (fun _=>False) n (au ah gt lf (d+2) 192 #[.pointer (some ⟨m.b,0,none⟩)]) h n fun v h' n'=>v= .agg #[.string ⟨(bS k.last).toArray⟩,.int .i64 (k.aO:Int),.int .u32 (k.sum:Int)]:=by
 have g:=y.get
 have hb:=y.lt
 unfold kK at g
 rw[aL (fun _=>ai9) rfl]
 refine ai.aH ?_
 unfold Yz
 refine fq rfl _ ?_
 have y1:=y.aB (iP n) (L':=L) (h':=h.set n (some ⟨134,true,[.string ⟨#[]⟩,.int .i64 0,.int .u32 0]⟩)) (fun _ _=>rfl) fun c hc _ _=>aD _ _ (by omega)
 have g1:=y1.get
 unfold kK at g1
 refine bL (aby (lf:=lf) (d:=d) y1) (by omega) (fun _ _ h=>h.elim) ?_
 rw[hd]
 try simp(disch:=first|omega|assumption) only[af,aa,RZ,jP]
 have iS:=y1.lt
 refine gZ trivial m.b 5 _ g1 iS (an _) rfl fun T1 t1=> ?_
 try simp(disch:=first|omega|assumption) only[af,aa,RZ]
 refine am2 y1.last (an _) _ fun T2 t2=> ?_
 try simp(disch:=first|omega|assumption) only[af,aa,RZ]
 refine gZ trivial m.b 4 _ g1 iS (an _) rfl fun T3 t3=> ?_
 try simp(disch:=first|omega|assumption) only[af,aa,RZ]
 refine gZ trivial m.b 3 _ g1 iS (an _) rfl fun T4 t4=> ?_
 try simp(disch:=first|omega|assumption) only[af,aa,RZ]
 refine I0 (fun _ _=>rfl) ?_
 refine db (sz:=3) trivial (vs:=[.string ⟨(bS k.last).toArray⟩,.int .i64 (k.aO:Int),.int .u32 (k.sum:Int)]) rfl rfl rfl (get_eq _ _ _) (by omega) (.inl (by omega)) _ fun h2 g2 k2=> ?_
 try simp(disch:=first|omega|assumption) only[af,aa,RZ,t2.cA t3,t2.cA t4,cP,fR,eh]
 exact fQ trivial trivial g2 rfl (by omega) rfl
theorem r9{L:Nat->Nat}{c i:Nat}(h:L c=i)(h1:1<=i)(h2:i<=8):WB L c:=by unfold WB;omega
def E4(L:Nat->Nat)(p:Nat)(S:List UInt8)(D A room:Nat)(k:Bk)(m:Bm)(bs:List Bool)(v:Value)(h':H)(n':Nat):Prop:=
 if bs.length<57 then v= .int .i64 3∧bf h' n' p S D A∧fK h' n' L p room k m 0
 else v= .int .i64 (if bs.getD 32 false=true then 25 else 0)∧bf h' n' p S D (A+57)∧fK h' n' L p room {k with head:=true,sum:=num (bs.take 32) 0,aO:=num ((bs.drop 33).take 24) 0} m 0
theorem am5(x:bf h n p S D A)(y:fK h n L p room k m 0)(lp:L p=1)(aC:40<=lf):ai (WB L) n (au ah gt lf (d+4) 228 #[.pointer (some ⟨m.b,0,none⟩),.pointer (some ⟨p,0,none⟩)]) h n (E4 L p S D A room k m (ax S D A)):=by
 obtain⟨bs,bR⟩:∃bs,ax S D A=bs:=⟨_,rfl⟩
 have tU:m.b≠p:=fun e=>by have:=y.lb;rw[e,lp]at this;cases this
 rw[aL (fun _=>ajz) rfl,bR]
 refine ai.aH ?_
 unfold Y5
 refine bL (IM (d:=d+1) x) (an _) (fun _ _ h=>h.elim) ?_
 rw[bR]
 by_cases c1:bs.length<57
 ·have pQ:((bs.length:Nat):Int)<57:=by omega
  try simp(disch:=first|omega|assumption) only[af,aa,RZ,pQ]
  unfold E4
  rw[if_pos c1]
  exact⟨rfl,x,y⟩
 have pQ:¬((bs.length:Nat):Int)<57:=by omega
 try simp(disch:=first|omega|assumption) only[af,aa,RZ,pQ]
 have wp:∀b,b<n->b=p->n<=b∨WB L b:=fun b _ hb=> .inr (hb▸r9 lp (by decide) (by decide))
 refine aU aK (nK (lf:=lf) (d:=d) x 32 (by decide) aC) (an _) wp fun v1 h1 n1 aM aY aw=> ?_
 obtain⟨rfl,aw⟩:=aw
 rw[bR]at aw
 rcases aw with ⟨q,_⟩|⟨_,rfl,x1⟩
 ·omega
 have r1:ax S D (A+32)=bs.drop 32:=by rw[<-rR x.lo,bR]
 try simp(disch:=first|omega|assumption) only[af,aa,RZ]
 refine aU aK (nK (lf:=lf) (d:=d) x1 1 (by decide) aC) (an _) wp fun v2 h2 n2 cJ cf bu=> ?_
 obtain⟨rfl,bu⟩:=bu
 rw[r1,b9]at bu
 rcases bu with ⟨q,_⟩|⟨_,rfl,x2⟩
 ·omega
 have r2:ax S D (A+32+1)=bs.drop 33:=by rw[<-rR x1.lo,r1,ng]
 try simp(disch:=first|omega|assumption) only[af,aa,RZ]
 refine aU aK (nK (lf:=lf) (d:=d) x2 24 (by decide) aC) (an _) wp fun v3 h3 n3 fw dK bQ=> ?_
 obtain⟨rfl,bQ⟩:=bQ
 rw[r2,b9]at bQ
 rcases bQ with ⟨q,_⟩|⟨_,rfl,x3⟩
 ·omega
 have y3:fK h3 n3 L p room k m 0:=y.aB (an _) (fun _ _=>rfl) fun c hc h4 _=>by
  have ne:c≠p:=fun e=>by rw[e,lp]at h4;omega
  rw[dK c hc ne,cf c hc ne,aY c hc ne]
 have g:=y3.get
 have hb:=y3.lt
 unfold kK at g
 have nl:=jI (((bs.drop 33)).take 24)
 rw[dr,b9,kR (by omega)]at nl
 have w1:IntKind.i64.wrap ((num ((bs.drop 33).take 24) 0:Nat):Int)=((num ((bs.drop 33).take 24) 0:Nat):Int):=aJ (by omega) (by omega)
 have wb:WB L m.b:=r9 y.lb (by decide) (by decide)
 have bit:num ((bs.drop 32).take 1) 0=bn (bs.getD 32 false):=by
  have h32:32<bs.length:=by omega
  rw[List.drop_eq_getElem_cons h32,bC,bD h32]
  show 2*0+bn bs[32]=bn bs[32]
  omega
 have yf:∀h':H,h'.get m.b=some (kK room {k with head:=true,sum:=num (bs.take 32) 0,aO:=num ((bs.drop 33).take 24) 0} m 0)->(∀c,c≠m.b->h'.get c=h3.get c)->bf h' n3 p S D (A+57)∧fK h' n3 L p room {k with head:=true,sum:=num (bs.take 32) 0,aO:=num ((bs.drop 33).take 24) 0} m 0:=fun h' hB hk=>⟨x3.aB (an _) (hk p (Ne.symm tU)),y3.put hB hk rfl rfl⟩
 rw[bit]
 cases yv:bs.getD 32 false with
 |true=>
  have e1:(((bn true:Nat):Int)==1)=true:=rfl
  try simp(disch:=first|omega|assumption) only[af,aa,RZ,g,w1,wb,e1]
  unfold E4
  rw[if_neg c1,yv]
  exact⟨rfl,yf _ (get_eq _ _ _) fun c hc=>by simp only[aD _ _ hc]⟩
 |false=>
  have e1:(((bn false:Nat):Int)==1)=false:=rfl
  try simp(disch:=first|omega|assumption) only[af,aa,RZ,g,w1,wb,e1]
  unfold E4
  rw[if_neg c1,yv]
  exact⟨rfl,yf _ (get_eq _ _ _) fun c hc=>by simp only[aD _ _ hc]⟩
end
section
variable {lf d n p:Nat} {h:H} {S:List UInt8} {D A:Nat}
def abz(p:Nat)(S:List UInt8)(D A:Nat)(r:St (List Nat))(v':Value)(h':H)(n':Nat):Prop:=match r with
 | .short=>v'= .tuple #[.string ⟨#[]⟩,.int .i64 3]∧∃B,8*D<=B∧bf h' n' p S D B
 | .bad e=>v'= .tuple #[.string ⟨#[]⟩,.int .i64 e]∧e=25∧∃B,bf h' n' p S D B
 | .ok s u=>v'= .tuple #[.string ⟨(bS s).toArray⟩,.int .i64 0]∧bf h' n' p S D (A+u)
theorem am6:jz []=cr 256 (.bool false):=by
 apply Rj
 intro i
 by_cases hi:i<256
 ·rw[Jq hi,List.getElem?_replicate,if_pos hi]
  rfl
 ·rw[sC (by rw[vm];omega),sC (by rw[List.length_replicate];omega)]
theorem am7{s:List Nat}:(bS s=([]:List UInt8))↔s=[]:=by unfold bS;simp
theorem am8{q lo:Nat}{sv g9:Value}{w:Int}{j4:List Nat}{bs:List Bool}(bR:ax S D A=bs)(hDA:8*D<=A)(hm0:j4.length<=16)(aC:300<=lf)(Al:p<n)(hnq:n<=q)(hql:q<lo):∀(ms:List Nat) (i fu u:Nat) (h':H) (n':Nat) (acc:List Nat),
 j4.drop i=ms->i<=j4.length->ms.length<fu->lo<=n'->bf h' n' p S D (A+u)->h'.get q=some ⟨321,true,jz acc⟩->Own h' lo n' 3 sv (aS .i64 (iN j4))->UI ms acc->
 ai (fun c=>c=p) n (wX lf (au ah gt lf (d+3)) fu (BS lf (au ah gt lf (d+3))) (.pointer (some ⟨p,0,none⟩)) (.string ⟨#[]⟩) (.int .i64 0) (.int .u32 w) (.int .i64 0) (.pointer (some ⟨q,0,none⟩)) g9 sv (.int .i64 (j4.length:Int)) (.int .i64 (i:Int))) h' n' (abz p S D A (PF (nO ms (bs.drop u) acc u))):=by
 intro ms
 induction ms with
 |nil=>
  intro i fu u h' n' acc hd hi hf lG x g o k
  obtain⟨fu,rfl⟩:∃f,fu=f+1:=⟨fu-1,by omega⟩
  have:i=j4.length:=by
   have:=congrArg yc hd
   rw[b9]at this
   simp only[gM]at this
   omega
  subst this
  have Dj:q<n':=by omega
  rw[wX]
  try simp(disch:=first|omega|assumption) only[af,aa,RZ,fg]
  (try unfold BS);(try dsimp only)
  refine jy trivial trivial q 0 _ g Dj (by show 0+256<=(jz acc).length;rw[vm];omega) ?_
  have e0:((jz acc).drop 0).take 256=jz acc:=by rw[jr,<-vm acc,mh]
  show ai _ n (ay _ _ [.agg (((jz acc).drop 0).take 256).toArray] _) _ _ _
  rw[e0]
  refine aU aK (amM (lf:=lf) (d:=d+2) k.sy aC) (by omega) (fun _ _ h=>h.elim) fun v1 h1 n1 aM aY aw=> ?_
  subst aw
  have x1:=x.aB aM (aY p x.lt id)
  unfold nO
  by_cases ha:acc=[]
  ·subst ha
   have:decide (bS []=([]:List UInt8))=true:=rfl
   try simp(disch:=first|omega|assumption) only[af,aa,RZ,this]
   exact⟨rfl,rfl,_,x1⟩
  ·have:decide (bS acc=([]:List UInt8))=false:=decide_eq_false fun e=>ha (am7.1 e)
   try simp(disch:=first|omega|assumption) only[af,aa,RZ,this]
   obtain⟨a,acc,rfl⟩:∃a b,acc=a::b:=by
    cases acc with
    |nil=>exact absurd rfl ha
    |cons a b=>exact⟨a,b,rfl⟩
   exact⟨rfl,x1⟩
 |cons m ms ih=>
  intro i fu u h' n' acc hd hi hf lG x g o k
  obtain⟨fu,rfl⟩:∃f,fu=f+1:=⟨fu-1,by omega⟩
  have bM:i<j4.length:=by
   have:=congrArg yc hd
   rw[b9]at this
   simp only[dp]at this
   omega
  have ED:j4[i]=m:=by
   have:=congrArg (·[0]?) hd
   simp only[List.getElem?_drop,kQ,List.getElem?_cons_zero]at this
   rw[bD bM]at this
   exact AQ this
  have ml:(aS .i64 (iN j4)).length=j4.length:=by rw[eJ,gK]
  obtain⟨b0,rfl,gb,iS,cF⟩:∃b0,sv= .slice (some ⟨b0,0,none⟩) j4.length (bq+j4.length)∧h'.get b0=some ⟨3,true,aS .i64 (iN j4)⟩∧lo<=b0∧b0<n':=by
   rcases o with ⟨_,e⟩|⟨b0,h1,h2,h3,h4⟩
   ·rw[e]at ml
    simp only[gM]at ml
    omega
   ·rw[ml]at h1
    exact⟨b0,h1,h2,h3,h4⟩
  have m16:=k.lt m (by simp)
  have a1:(aS .i64 (iN j4))[i]? =some (.int .i64 (m:Int)):=by
   rw[Hs (by rw[gK];exact bM),tE,bC,bD bM,ED]
   rfl
  have e1:(i:Int)<((j4.length:Nat):Int):=by omega
  rw[wX]
  try simp(disch:=first|omega|assumption) only[af,aa,RZ,e1,gb,a1]
  refine aU aK (nK (lf:=lf) (d:=d) x 16 (by decide) (by omega)) (by omega) (fun b _ hb=> .inr hb) fun v1 h1 n1 aM aY aw=> ?_
  obtain⟨rfl,aw⟩:=aw
  have rr:ax S D (A+u)=bs.drop u:=by rw[<-rR hDA,bR]
  rw[rr]at aw
  unfold nO
  rcases aw with ⟨q1,rfl,rfl⟩|⟨q1,rfl,x1⟩
  ·have z3:((3:Int) !=0)=true:=rfl
   try simp(disch:=first|omega|assumption) only[af,aa,RZ,bG,ext1,z3]
   (try unfold BS);(try dsimp only)
   try simp(disch:=first|omega|assumption) only[af,aa,RZ]
   rw[if_pos q1]
   have:=x.lo
   exact⟨rfl,_,this,x⟩
  ·have z0:((0:Int) !=0)=false:=rfl
   try simp(disch:=first|omega|assumption) only[af,aa,RZ,bG,ext1,z0]
   rw[if_neg (by omega)]
   have tl:((bs.drop u).take 16).length=16:=by rw[dr];omega
   have fi:q≠p:=by omega
   have g1:=(aY q (by omega) fi).trans g
   have o1:Own h1 lo n1 3 (.slice (some ⟨b0,0,none⟩) j4.length (bq+j4.length)) (aS .i64 (iN j4)):=o.aB (an _) fun b hb=>aY b (o.lt hb).2 (by have:=(o.lt hb).1;omega)
   refine aU aK (abv (lf:=lf) (d:=d+2) ((bs.drop u).take 16) tl (by omega)) (by omega) (fun _ _ h=>h.elim) fun v2 h2 n2 cJ cf o2=> ?_
   have g2:=(cf q (by omega) id).trans g1
   have x2:=x1.aB cJ (cf p x1.lt id)
   have o12:=o1.aB cJ fun b hb=>cf b (o1.lt hb).2 id
   obtain⟨mk,E0⟩:∃mk,lZ ((bs.drop u).take 16)=mk:=⟨_,rfl⟩
   have kn:=k.next ((bs.drop u).take 16)
   rw[E0]at o2 kn⊢
   have am9:∀x∈mk,x<16:=fun x hx=>PG (l:=(bs.drop u).take 16) (by rw[E0];exact hx)
   have mkl:mk.length<=16:=by
    rw[<-E0]
    exact lM (CW _ _) (by simp)
   have PK:(aS .i64 (iN mk)).length=mk.length:=by rw[eJ,gK]
   obtain⟨s2,s3,s4⟩:∃a c,v2= .slice a mk.length c:=by
    obtain⟨a,c,e⟩:=o2.row.len
    rw[gK]at e
    exact⟨a,c,e⟩
   rw[s4]
   try simp(disch:=first|omega|assumption) only[af,aa,RZ]
   rw[<-s4]
   refine eD mk.length (fun f2 j (_:Unit)=>Ab lf (au ah gt lf (d+3)) f2 (Zh lf (au ah gt lf (d+3)) fu (BS lf (au ah gt lf (d+3)))) (.pointer (some ⟨p,0,none⟩)) (.string ⟨#[]⟩) (.int .i64 0) (.int .u32 w) (.int .i64 0) (.pointer (some ⟨q,0,none⟩)) (.int .i64 (m:Int)) (.int .u32 ((num ((bs.drop u).take 16) 0:Nat):Int)) (.int .i64 0) g9 (.slice (some ⟨b0,0,none⟩) j4.length (bq+j4.length)) (.int .i64 (j4.length:Int)) (.int .i64 (i:Int)) (.bool true) (.bool false) v2 (.int .i64 (mk.length:Int)) (.int .i64 (j:Int)))
    (fun j _ h3 n3=>n3=n2∧h3.get q=some ⟨321,true,jz (acc++(mk.take j).map fun k=>16*m+k)⟩∧∀b,b≠q->h3.get b=h2.get b) ?_ ?_ lf 0 () h2 n2 (aR _) (by omega) ⟨rfl,by simpa using g2,fun _ _=>rfl⟩
   ·rintro f2 _ h3 n3 ⟨rfl,g3,k3⟩
    rw[Ab]
    try simp(disch:=first|omega|assumption) only[af,aa,RZ,fg]
    (try unfold Zh);(try unfold Im);(try dsimp only)
    have w1:IntKind.i64.wrap ((i:Int)+1)=((i+1:Nat):Int):=by rw[aJ (by omega) (by omega)];rfl
    have w2:(i:Int)+1=((i+1:Nat):Int):=rfl
    try simp(disch:=first|omega|assumption) only[af,aa,RZ,w1,w2]
    rw[mh]at g3
    have:=ih (i+1) fu (u+16) h3 n3 (acc++mk.map fun k=>16*m+k) (by rw[<-List.tail_drop,hd];rfl) (by omega) (by simp only[dp]at hf;omega) (by omega) (by rw[<-vF];exact x2.aB (an _) (k3 p (Ne.symm fi))) g3 (o12.aB (an _) fun b hb=>k3 b (by have:=(o12.lt hb).1;omega)) kn
    rw[ng]
    exact this
   ·rintro f2 j _ h3 n3 hj ⟨rfl,g3,k3⟩ next
    obtain⟨b1,ob,gb1,wv,ky⟩:∃b1,v2= .slice (some ⟨b1,0,none⟩) mk.length (bq+mk.length)∧h2.get b1=some ⟨3,true,aS .i64 (iN mk)⟩∧n1<=b1∧b1<n3:=by
     rcases o2 with ⟨_,e⟩|⟨b1,h1,h2,h3,h4⟩
     ·rw[e]at PK
      simp only[gM]at PK
      omega
     ·rw[PK]at h1
      exact⟨b1,h1,h2,h3,h4⟩
    have gb3:=(k3 b1 (by omega)).trans gb1
    obtain⟨y,hy⟩:∃y,mk[j]=y:=⟨_,rfl⟩
    have y16:y<16:=am9 y (by rw[<-hy];exact eu _)
    have a2:(aS .i64 (iN mk))[j]? =some (.int .i64 (y:Int)):=by
     rw[Hs (by rw[gK];exact hj),tE,bC,bD hj,hy]
     rfl
    have e2:(j:Int)<((mk.length:Nat):Int):=by omega
    have w3:IntKind.i64.wrap (16*(m:Int))=((16*m:Nat):Int):=by rw[aJ (by omega) (by omega)];rfl
    have w4:IntKind.i64.wrap (((16*m:Nat):Int)+(y:Int))=((16*m+y:Nat):Int):=by rw[aJ (by omega) (by omega)];rfl
    have w5:((16*m+y:Nat):Int)<256:=by omega
    have w6:IntKind.i64.wrap ((j:Int)+1)=((j+1:Nat):Int):=by rw[aJ (by omega) (by omega)];rfl
    have w7:(j:Int)+1=((j+1:Nat):Int):=rfl
    have asR:q<n3:=by omega
    rw[Ab,ob]
    have ey:16*m+y<(jz (acc++(mk.take j).map fun k=>16*m+k)).length:=by rw[vm];omega
    try simp(disch:=first|omega|assumption) only[af,aa,RZ,e2,gb3,a2,w3,w4,w5,g3,ey,hnq,w6,w7]
    rw[<-ob]
    refine next () _ _ ⟨rfl, ?_,fun b hb=>(aD _ _ hb).trans (k3 b hb)⟩
    rw[get_eq,amJ (by omega)]
    congr 3
    rw[List.take_succ_eq_append_getElem hj,qb,hy,List.append_assoc]
    rfl
theorem am'(x:bf h n p S D A)(aC:300<=lf):ai (fun c=>c=p) n (au ah gt lf (d+4) 245 #[.pointer (some ⟨p,0,none⟩)]) h n (abz p S D A (j3 (ax S D A))):=by
 obtain⟨bs,bR⟩:∃bs,ax S D A=bs:=⟨_,rfl⟩
 have Al:=x.lt
 rw[aL (fun _=>ajM) rfl,bR]
 refine ai.aH ?_
 unfold Ox
 refine aU aK (nK (lf:=lf) (d:=d) x 16 (by decide) (by omega)) (an _) (fun b _ hb=> .inr hb) fun v1 h1 n1 aM aY aw=> ?_
 obtain⟨rfl,aw⟩:=aw
 rw[bR]at aw
 unfold j3
 rcases aw with ⟨q1,rfl,rfl⟩|⟨q1,rfl,x1⟩
 ·have z3:((3:Int) !=0)=true:=rfl
  try simp(disch:=first|omega|assumption) only[af,aa,RZ,bG,ext1,z3]
  rw[if_pos q1]
  first|exact⟨rfl,_,x.lo,x⟩|exact⟨_,x.lo,x⟩
 ·have z0:((0:Int) !=0)=false:=rfl
  try simp(disch:=first|omega|assumption) only[af,aa,RZ,bG,ext1,z0]
  rw[if_neg (by omega)]
  refine fq ag8 _ ?_
  have tl:(bs.take 16).length=16:=by rw[dr];omega
  refine aU aK (abv (lf:=lf) (d:=d+2) (bs.take 16) tl (by omega)) (by omega) (fun _ _ h=>h.elim) fun v2 h2 n2 cJ cf o2=> ?_
  have g2:=(cf n1 (by omega) id).trans (get_eq h1 n1 (some ⟨321,true,cr 256 (.bool false)⟩))
  rw[<-am6]at g2
  have x2:bf h2 n2 p S D (A+16):=x1.aB (by omega) ((cf p (by omega) id).trans (aD _ _ (by omega)))
  obtain⟨s2,s3,s4⟩:∃a c,v2= .slice a (lZ (bs.take 16)).length c:=by
   obtain⟨a,c,e⟩:=o2.row.len
   rw[gK]at e
   exact⟨a,c,e⟩
  rw[s4]
  try simp(disch:=first|omega|assumption) only[af,aa,RZ]
  rw[<-s4]
  exact am8 bR x.lo (lM (CW _ _) (by simp)) aC Al aM (gh _) (lZ (bs.take 16)) 0 lf 16 h2 n2 [] jr (aR _) (adn (lM (CW _ _) (by simp)) (show 16<lf by omega)) (by omega) x2 g2 o2 (UI.zero _)
end
theorem je.put{h h':H}{n:Nat}{L:Nat->Nat}{p:Nat}{r r':Rw}{m:Bm}(x:je h n L p r m)(hB:h'.get m.x=some (xD r' m))(hk:∀c,c<n->L c=5->h'.get c=h.get c)(h1:r'.cd=r.cd)(hz:r6 h' n m.y r'.z)(hl:qI h' n m.l m.ov r'.ord):je h' n L p r' m:=
 ⟨hB,x.lt,x.lx,by rw[h1];exact x.cd.aB (an _) fun c hc h2=>hk c hc (x.lc c h2),x.lc,hz,x.ly,hl,x.ll,x.lo⟩
def Bm.Fl(m:Bm):Prop:=m.m.pw=false∧m.m.dw=false
section
variable {lf d n p room:Nat} {h:H} {S:List UInt8} {D A:Nat} {L:Nat->Nat} {k:Bk} {m:Bm} {r:Rw}
def am_(p:Nat)(S:List UInt8)(D A:Nat)(r:St (List Nat))(v':Value)(h':H)(n':Nat):Prop:=match r with
 | .short=>v'= .tuple #[.string ⟨#[]⟩,.int .i64 3]∧bf h' n' p S D A
 | .bad e=>v'= .tuple #[.string ⟨#[]⟩,.int .i64 e]∧e=25∧bf h' n' p S D A
 | .ok s u=>v'= .tuple #[.string ⟨(bS s).toArray⟩,.int .i64 0]∧bf h' n' p S D (A+u)
theorem ana(x:bf h n p S D A)(aC:300<=lf):ai (fun c=>c=p) n (au ah gt lf (d+5) 238 #[.pointer (some ⟨p,0,none⟩)]) h n (am_ p S D A (j3 (ax S D A))):=by
 rw[aL (fun _=>ajE) rfl]
 refine ai.aH ?_
 unfold Za
 refine bL (xj (d:=d+3) x) (an _) (fun _ _ h=>h.elim) ?_
 refine aU aK (am' (lf:=lf) (d:=d) x aC) (an _) (fun b _ hb=> .inr hb) fun v1 h1 n1 aM aY aw=> ?_
 have back:∀{B:Nat} (e:Int) (K:Prop),bf h1 n1 p S D B->K->ai (fun c=>c=p) n (ay (au ah gt lf (d+4)) 246 [.pointer (some ⟨p,0,none⟩),.int .i64 (A:Int)] fun _=>aj [.string ⟨#[]⟩,.int .i64 e]) h1 n1 fun v' h' n'=>K∧v'= .tuple #[.string ⟨#[]⟩,.int .i64 e]∧bf h' n' p S D A:=fun{B} e K x1 hK=>by
  refine aU aK (IP (lf:=lf) (d:=d+2) x1 A x.lo x.hi) aM (fun b _ hb=> .inr hb) fun v2 h2 n2 cJ cf bu=> ?_
  obtain⟨rfl,rfl,x2⟩:=bu
  try simp(disch:=first|omega|assumption) only[af,aa,RZ]
  first|exact⟨hK,x2⟩|exact⟨hK,rfl,x2⟩
 cases hr:j3 (ax S D A)with
 |short=>
  rw[hr]at aw
  obtain⟨rfl,B,_,x1⟩:=aw
  have z3:((3:Int) !=0)=true:=rfl
  try simp(disch:=first|omega|assumption) only[af,aa,RZ,bG,ext1,z3]
  refine ai.mono (back 3 True x1 trivial) fun v' h' n' _ q=> ?_
  exact⟨q.2.1,q.2.2⟩
 |bad e=>
  rw[hr]at aw
  obtain⟨rfl,rfl,B,x1⟩:=aw
  have z3:((25:Int) !=0)=true:=rfl
  try simp(disch:=first|omega|assumption) only[af,aa,RZ,bG,ext1,z3]
  refine ai.mono (back 25 True x1 trivial) fun v' h' n' _ q=> ?_
  exact⟨q.2.1,rfl,q.2.2⟩
 |ok s u=>
  rw[hr]at aw
  obtain⟨rfl,x1⟩:=aw
  have z0:((0:Int) !=0)=false:=rfl
  try simp(disch:=first|omega|assumption) only[af,aa,RZ,bG,ext1,z0]
  exact⟨rfl,x1⟩
def sd(L:Nat->Nat)(n:Nat):Nat->Nat:=fun c=>if c<n then L c else if c<n+5 then 5 else if c=n+5 then 6 else if c=n+6 then 8 else if c=n+7 then 7 else 4
theorem anb{s:List Nat}(ks:Sy s)(h0:s≠[])(hr:room<=900000)(aC:300<=lf)(p:Nat)(hp:p<n):ai (fun _=>False) n (au ah gt lf (d+4) 239 #[.string ⟨(bS s).toArray⟩,.int .i64 (room:Int)]) h n fun v h' n'=>v= .pointer (some ⟨n+8,0,none⟩)∧n'=n+9∧
 ∃ov,∀(L:Nat->Nat) (b:Nat) (lv:Value),je h' n' (sd L n) p (tR s room) ⟨b,lv,n+8,n+4,EG n,n+5,n+7,ov⟩:=by
 have hl:=ks.len
 have h1s:1<=s.length:=by
  cases s with
  |nil=>exact absurd rfl h0
  |cons x s=>simp
 have bl:(bS s).length=s.length:=by unfold bS;simp
 rw[aL (fun _=>ajF) rfl]
 refine ai.aH ?_
 unfold Zb
 have w1:IntKind.i64.wrap (((s.length:Nat):Int)+2)=((s.length+2:Nat):Int):=by rw[aJ (by omega) (by omega)];rfl
 have w2:((s.length:Nat):Int)+2=((s.length+2:Nat):Int):=rfl
 try simp(disch:=first|omega|assumption) only[af,aa,RZ,bl,w1,w2]
 refine aU aK (al9 (lf:=lf) (d:=d) (size:=s.length+2) (by omega) (by omega) (by omega) p) (an _) (fun _ _ h=>h.elim) fun v1 h1 n1 aM aY aw=> ?_
 obtain⟨rfl,rfl,c1⟩:=aw
 try simp(disch:=first|omega|assumption) only[af,aa,RZ,bG,ext1]
 refine aU aK (amO (lf:=lf) (d:=d+1) (k:=s.length) (most:=room) h1s hl (by omega)) (by omega) (fun _ _ h=>h.elim) fun v2 h2 n2 cJ cf bu=> ?_
 obtain⟨rfl,rfl,z2⟩:=bu
 try simp(disch:=first|omega|assumption) only[af,aa,RZ,bG,ext1]
 refine aU aK (am0 (lf:=lf) (d:=d+1) ks h0 aC) (by omega) (fun _ _ h=>h.elim) fun v3 h3 n3 fw dK bQ=> ?_
 obtain⟨rfl,rfl,ov,l3,Gf⟩:=bQ
 try simp(disch:=first|omega|assumption) only[af,aa,RZ,bG,ext1]
 refine jH trivial _ _ ?_
 try simp(disch:=first|omega|assumption) only[af,aa,RZ]
 refine⟨ov,fun L b lv=> ?_⟩
 have k4:∀(B:Option AB) c,c<n+8->(h3.set (n+8) B).get c=h3.get c:=fun B c hc=>aD _ _ (by omega)
 have k3:∀(B:Option AB) c,c<n+6->(h3.set (n+8) B).get c=h2.get c:=fun B c hc=>(k4 B c (by omega)).trans (dK c hc id)
 have k2:∀(B:Option AB) c,c<n+5->(h3.set (n+8) B).get c=h1.get c:=fun B c hc=>(k3 B c (by omega)).trans (cf c hc id)
 refine⟨get_eq _ _ _,by show n+8<_;omega,by show sd L n (n+8)=4;unfold sd;rw[if_neg (by omega),if_neg (by omega),if_neg (by omega),if_neg (by omega),if_neg (by omega)],c1.aB (by omega) fun c hc _=>k2 _ c hc,fun c hc=> ?_,z2.aB (by omega) (k3 _ _ (by show n+5<_;omega)),by show sd L n (n+5)=6;unfold sd;rw[if_neg (by omega),if_neg (by omega),if_pos rfl],l3.aB (by omega) (k4 _ _ (by show n+5+1+1<_;omega)) fun c hc=>k4 _ c (by rw[Gf c hc];omega),by show sd L n (n+7)=7;unfold sd;rw[if_neg (by omega),if_neg (by omega),if_neg (by omega),if_neg (by omega),if_pos rfl],fun c hc=> ?_⟩
 ·have ky:n<=c∧c<n+5:=by
   rcases hc with hc|hc|⟨w,hw,_⟩
   ·refine⟨al8 hc, ?_⟩
    rcases hc with hc|hc|hc|hc|hc|hc
    ·have:c=n+4:=hc
     omega
    ·have:c=n+3:=hc
     omega
    ·have:c=n:=hc
     omega
    ·exact absurd hc rZ
    ·exact absurd hc rZ
    ·exact absurd hc rZ
   ·exact absurd hc rZ
   ·exact absurd hw (by show w∉[];simp)
  unfold sd
  rw[if_neg (by omega),if_pos ky.2]
 ·have:=Gf c hc
  unfold sd
  rw[if_neg (by omega),if_neg (by omega),if_neg (by omega),if_pos (by omega)]
def PL(L:Nat->Nat)(n p:Nat)(S:List UInt8)(D room A:Nat)(k:Bk)(m:Bm)(r:St Bk)(v':Value)(h':H)(n':Nat):Prop:=match r with
 | .short=>v'= .int .i64 3∧bf h' n' p S D A∧fK h' n' L p room k m 0
 | .bad e=>v'= .int .i64 e∧(∃B,bf h' n' p S D B)∧∃L' k' m',(∀c,c<n->L' c=L c)∧m'.b=m.b∧fK h' n' L' p room k' m' 0
 | .ok k' u=>v'= .int .i64 0∧bf h' n' p S D (A+u)∧∃L' m',(∀c,c<n->L' c=L c)∧m'.b=m.b∧fK h' n' L' p room k' m' 0∧m'.Fl
def PM(room:Nat)(k:Bk)(bs:List Bool):St Bk:=match j3 bs with
 | .short=> .short
 | .bad e=> .bad e
 | .ok s u=> .ok {k with row:=some (tR s room)} u
theorem anc(x:bf h n p S D A)(y:fK h n L p room k m 0)(lp:L p=1)(hr:room<=900000)(aC:300<=lf):ai (WB L) n (au ah gt lf (d+6) 229 #[.pointer (some ⟨m.b,0,none⟩),.pointer (some ⟨p,0,none⟩)]) h n (PL L n p S D room A k m (PM room k (ax S D A))):=by
 obtain⟨bs,bR⟩:∃bs,ax S D A=bs:=⟨_,rfl⟩
 have tU:m.b≠p:=fun e=>by have:=y.lb;rw[e,lp]at this;cases this
 rw[aL (fun _=>ajA) rfl,bR]
 refine ai.aH ?_
 unfold Y6 PM
 have us:=ana (lf:=lf) (d:=d) x aC
 rw[bR]at us
 refine aU aK us (an _) (fun b _ hb=> .inr (hb▸r9 lp (by decide) (by decide))) fun v1 h1 n1 aM aY aw=> ?_
 have y1:fK h1 n1 L p room k m 0:=y.aB aM (fun _ _=>rfl) fun c hc h4 _=>aY c hc fun e=>by rw[e,lp]at h4;omega
 cases ew:j3 bs with
 |short=>
  rw[ew]at aw
  obtain⟨rfl,x1⟩:=aw
  have z3:((3:Int)==0)=false:=rfl
  try simp(disch:=first|omega|assumption) only[af,aa,RZ,bG,ext1,z3]
  exact⟨rfl,x1,y1⟩
 |bad e=>
  rw[ew]at aw
  obtain⟨rfl,rfl,x1⟩:=aw
  have z3:((25:Int)==0)=false:=rfl
  try simp(disch:=first|omega|assumption) only[af,aa,RZ,bG,ext1,z3]
  exact⟨rfl,⟨_,x1⟩,L,k,m,fun _ _=>rfl,rfl,y1⟩
 |ok s u=>
  rw[ew]at aw
  obtain⟨rfl,x1⟩:=aw
  obtain⟨ks,h0,_⟩:=EY ew
  have z0:((0:Int)==0)=true:=rfl
  have g:=y1.get
  have hb:=y1.lt
  unfold kK at g
  try simp(disch:=first|omega|assumption) only[af,aa,RZ,bG,ext1,z0,g]
  refine aU aK (anb (lf:=lf) (d:=d+1) ks h0 hr aC p x1.lt) aM (fun _ _ h=>h.elim) fun v2 h2 n2 cJ cf bu=> ?_
  obtain⟨rfl,rfl,ov,ra⟩:=bu
  have g2:=(cf m.b hb id).trans g
  have cF:m.b<n1+9:=by omega
  have wb:WB L m.b:=r9 y.lb (by decide) (by decide)
  try simp(disch:=first|omega|assumption) only[af,aa,RZ,g2,wb]
  have rl:∀c,c<n1->sd L n1 c=L c:=fun c hc=>if_pos hc
  have rn:=ra L m.b m.lv
  have ne:∀c,c≠m.b->∀B:Option AB,(h2.set m.b B).get c=h2.get c:=fun c hc B=>aD _ _ hc
  refine⟨rfl,(x1.aB cJ (cf p x1.lt id)).aB (an _) (aD _ _ (Ne.symm tU)),sd L n1,⟨m.b,m.lv,n1+8,n1+4,EG n1,n1+5,n1+7,ov⟩,fun c hc=>rl c (by omega),rfl,⟨?_,cF,(rl _ hb).trans y.lb, ?_,fun c hc=>(rl c (y1.last.lt hc).2).trans (y.ll c hc),fun r' jF=> ?_⟩,rfl,rfl⟩
  ·rw[get_eq]
   rfl
  ·refine(y1.last.aB cJ fun c hc=>cf c (y1.last.lt hc).2 id).aB (an _) fun c hc=>ne c (fun e=> ?_) _
   have:=y.ll c hc
   rw[e,y.lb]at this
   cases this
  ·cases jF
   refine rn.aB (an _) (fun _ _=>rfl) fun c hc h3 h4=>ne c (fun e=> ?_) _
   rw[e,rl _ hb,y.lb]at h3
   omega
end
structure E5 (room A:Nat) (r:Rw):Prop where
 cd:r.cd.done=false->lH r.cd
 sz:r.cd.size=r.ord.length+2
 zn:r.z.n=r.ord.length
 zm:r.z.most=room
 zo:r.cd.done=false->r.z.Ok
 pl:r.place<r.ord.length
 ol:r.ord.length<=256
 tI:r.cd.count<=A
def Bm.At(m:Bm)(c:Cm):Bm:={m with m:=c}
section
variable {lf d n p room:Nat} {h:H} {S:List UInt8} {D A:Nat} {L:Nat->Nat} {k:Bk} {m:Bm} {r:Rw}
theorem abA(y:je h n L p r m):ai (fun _=>False) n (au ah gt lf (d+1) 230 #[.pointer (some ⟨m.x,0,none⟩)]) h n fun v h' n'=>v= .bool r.waits∧h'=h∧n'=n:=by
 have g:=y.get
 have hx:=y.lt
 unfold xD at g
 rw[aL (fun _=>ajB) rfl]
 refine ai.aH ?_
 unfold Y7 Rw.waits
 by_cases c:0<r.due
 ·have c':(0:Int)<(r.due:Int):=by omega
  have e:decide (0<r.due)=true:=decide_eq_true c
  try simp(disch:=first|omega|assumption) only[af,aa,RZ,g,c',e]
  rw[Bool.true_or]
 ·have c':¬(0:Int)<(r.due:Int):=by omega
  have e:decide (0<r.due)=false:=decide_eq_false c
  have e2:decide ((0:Int)<(r.place:Int))=decide (0<r.place):=by
   by_cases q:0<r.place
   ·rw[decide_eq_true q,decide_eq_true (show(0:Int)<(r.place:Int) by omega)]
   ·rw[decide_eq_false q,decide_eq_false (show¬(0:Int)<(r.place:Int) by omega)]
  try simp(disch:=first|omega|assumption) only[af,aa,RZ,g,c',e,e2]
  first|rw[Bool.false_or]|skip
theorem ane(y:je h n L p r m)(ol:r.ord.length<=256)(pl:r.place<r.ord.length)(due:r.due<=1000000):ai (fun c=>c=m.x∨aN m.ov c) n (au ah gt lf (d+3) 231 #[.pointer (some ⟨m.x,0,none⟩)]) h n fun v h' n'=>v= .int .u8 (((cH r).1:Nat):Int)∧n'=n∧je h' n' L p (cH r).2 m:=by
 have g:=y.get
 have hx:=y.lt
 unfold xD at g
 have xl:m.x≠m.l:=fun e=>by have:=y.lx;rw[e,y.ll]at this;cases this
 have xo:¬aN m.ov m.x:=fun e=>by have:=y.lo _ e;rw[y.lx]at this;cases this
 have W1:(m.x=m.x∨aN m.ov m.x):= .inl rfl
 rw[aL (fun _=>ajC) rfl]
 refine ai.aH ?_
 unfold Y8 cH
 have fin:∀(r1:Rw) (i:Nat) (iv:Value) (h1:H),iv= .int .i64 (i:Int)->i<r.ord.length->r1.cd=r.cd->r1.z=r.z->r1.ord=r.ord->h1.get m.x=some (xD r1 m)->(∀c,c≠m.x->h1.get c=h.get c)->
  ai (fun c=>c=m.x∨aN m.ov c) n (ay (au ah gt lf (d+2)) 240 [.pointer (some ⟨m.l,0,none⟩),iv] fun g=>aP g 0 fun h=>aP g 1 fun i=>aj [h]) h1 n fun v h' n'=>v= .int .u8 ((r.ord.getD i 0:Nat):Int)∧n'=n∧je h' n' L p {r1 with ord:=dP 0 r.ord i} m:=by
  intro r1 i iv h1 hiv hi e1 e2 e3 g1 k1
  subst hiv
  have li1:qI h1 n m.l m.ov r.ord:=y.li.aB (an _) (k1 _ (Ne.symm xl)) fun c hc=>k1 c fun e=>xo (e▸hc)
  refine aU aK (amY (lf:=lf) (d:=d) li1 hi (by omega)) (an _) (fun b _ hb=> .inr (.inr hb)) fun v2 h2 n2 cJ cf bu=> ?_
  obtain⟨rfl,rfl,li2⟩:=bu
  try simp(disch:=first|omega|assumption) only[af,aa,RZ,bG,ext1]
  have un:∀c,c<n2->c≠m.x->¬aN m.ov c->h2.get c=h.get c:=fun c hc h3 h4=>(cf c hc h4).trans (k1 c h3)
  exact y.put ((cf m.x hx xo).trans g1) (fun c hc h5=>un c hc (fun e=>by rw[e,y.lx]at h5;cases h5) fun e=>by rw[y.lo c e]at h5;cases h5) e1 (by rw[show({r1 with ord:=dP 0 r.ord i}:Rw).z=r.z from e2];exact y.zr.aB (an _) (un _ y.zr.lt (fun e=>by have:=y.ly;rw[e,y.lx]at this;cases this) fun e=>by have:=y.lo _ e;rw[y.ly]at this;cases this)) li2
 by_cases c:0<r.due
 ·have c':(0:Int)<(r.due:Int):=by omega
  have w1:IntKind.i64.wrap ((r.due:Int)-1)=((r.due-1:Nat):Int):=by rw[aJ (by omega) (by omega)];omega
  rw[if_pos c]
  try simp(disch:=first|omega|assumption) only[af,aa,RZ,g,c',w1,W1]
  refine fin {r with due:=r.due-1} 0 _ _ rfl (by omega) rfl rfl rfl (get_eq _ _ _) fun c hc=>aD _ _ hc
 ·have c':¬(0:Int)<(r.due:Int):=by omega
  rw[if_neg c]
  try simp(disch:=first|omega|assumption) only[af,aa,RZ,g,c',W1]
  refine fin {r with place:=0} r.place _ _ rfl pl rfl rfl rfl (get_eq _ _ _) fun c hc=>aD _ _ hc
def Jr(L:Nat->Nat)(p:Nat)(r:Rw)(m:Bm)(c:Nat)(v:Value)(h':H)(n':Nat):Prop:=match dF r.z c with
 |none=>v= .int .i64 25∧je h' n' L p r m
 |some (z',q,pl)=>v= .int .i64 0∧je h' n' L p {r with z:=z',due:=q,place:=pl} m
theorem anf(y:je h n L p r m)(kz:r.z.Ok)(c:Nat)(hc:c<=1000):ai (fun c=>c=m.x∨c=m.y) n (au ah gt lf (d+4) 242 #[.pointer (some ⟨m.x,0,none⟩),.int .i64 (c:Int)]) h n (Jr L p r m c):=by
 have g:=y.get
 have hx:=y.lt
 unfold xD at g
 have xy:m.x≠m.y:=fun e=>by have:=y.lx;rw[e,y.ly]at this;cases this
 rw[aL (fun _=>ajI) rfl]
 refine ai.aH ?_
 unfold Ze
 try simp(disch:=first|omega|assumption) only[af,aa,RZ,g]
 refine aU aK (amQ (lf:=lf) (d:=d) y.zr kz c hc) (an _) (fun b _ hb=> .inr (.inr hb)) fun v1 h1 n1 aM aY aw=> ?_
 obtain⟨rfl,aw⟩:=aw
 cases hp:dF r.z c with
 |none=>
  rw[hp]at aw
  obtain⟨e,rfl,he,rfl⟩:=aw
  have ez:(e !=0)=true:=by rw[bne_iff_ne];exact he
  have e2:∀a b c:Value,[a,b,c][2]? =some c:=fun _ _ _=>rfl
  try simp(disch:=first|omega|assumption) only[af,aa,RZ,bG,ext1,ez]
  unfold Jr
  rw[hp]
  exact⟨rfl,y⟩
 |some t=>
  obtain⟨z',q,pl⟩:=t
  rw[hp]at aw
  obtain⟨e,rfl,he,z1⟩:=aw
  have g1:=(aY m.x hx xy).trans g
  have z0:((0:Int) !=0)=false:=rfl
  have W1:(m.x=m.x∨m.x=m.y):= .inl rfl
  have mx:(if e<0 then(0:Int)else e)=(pl:Int):=by
   rcases he with rfl|⟨rfl,rfl⟩
   ·exact if_neg (by omega)
   ·rfl
  try simp(disch:=first|omega|assumption) only[af,aa,RZ,bG,ext1,z0,g1,W1,mx]
  unfold Jr
  rw[hp]
  refine⟨rfl,y.put (by rw[get_eq];rfl) (fun c hc h5=> ?_) rfl (z1.aB (an _) ?_) (y.li.aB (an _) ?_ fun c hc=> ?_)⟩
  ·have c1:c≠m.x:=fun e=>by rw[e,y.lx]at h5;cases h5
   simp only[aD _ _ c1]
   exact aY c hc fun e=>by rw[e,y.ly]at h5;cases h5
  ·simp only[aD _ _ (Ne.symm xy)]
  ·have c1:m.l≠m.x:=fun e=>by have:=y.ll;rw[e,y.lx]at this;cases this
   simp only[aD _ _ c1]
   exact aY _ y.li.lt fun e=>by have:=y.ll;rw[e,y.ly]at this;cases this
  ·have c1:c≠m.x:=fun e=>by have:=y.lo c hc;rw[e,y.lx]at this;cases this
   simp only[aD _ _ c1]
   exact aY c (y.li.own.lt hc).2 fun e=>by have:=y.lo c hc;rw[e,y.ly]at this;cases this
end
structure Js (room A:Nat) (k:Bk):Prop where
 nd:k.done=false
 hd:k.head=false->k.row=none
 row:∀r,k.row=some r->E5 room A r∧(r.cd.done=true->r.waits=true)∧r.due<=room
 ll:k.last.length<=room
 sm:k.sum<4294967296
section
variable {lf d n p room:Nat} {h:H} {S:List UInt8} {D A:Nat} {L:Nat->Nat} {k:Bk} {m:Bm} {r:Rw}
def ang(L:Nat->Nat)(n p:Nat)(S:List UInt8)(D A:Nat)(r:Rw)(m:Bm)(q:St Rw)(v:Value)(h':H)(n':Nat):Prop:=match q with
 | .short=>v= .int .i64 3∧bf h' n' p S D A∧je h' n' L p r m
 | .bad e=>v= .int .i64 e∧(e=22∨e=25)∧(∃B,bf h' n' p S D B)∧∃L' r' c,(∀b,b<n->L' b=L b)∧je h' n' L' p r' (m.At c)
 | .ok r' u=>v= .int .i64 0∧bf h' n' p S D (A+u)∧∃L' c,(∀b,b<n->L' b=L b)∧je h' n' L' p r' (m.At c)∧(m.At c).Fl
theorem anh{B:AB}(hB:h.get m.b=some B)(Dg:B.cells[0]? =some (.pointer (some ⟨m.x,0,none⟩)))(lR:m.b<n)(lb:L m.b=2)(x:bf h n p S D A)(y:je h n L p r m)(fl:m.Fl)(lp:L p=1)(ko:E5 room A r)(nd:r.cd.done=false)(hA:A<=1000000000000000)(aC:3000000<=lf):
 ai (fun c=>c=p∨4<=L c∧L c<=8) n (au ah gt lf (d+10) 232 #[.pointer (some ⟨m.b,0,none⟩),.pointer (some ⟨p,0,none⟩)]) h n (ang L n p S D A r m (qH r (ax S D A))):=by
 obtain⟨bs,bR⟩:∃bs,ax S D A=bs:=⟨_,rfl⟩
 have g:=y.get
 have hx:=y.lt
 unfold xD at g
 have kc:=ko.cd nd
 have ap:tL p m.z m.m:=⟨fun e=>(by have:=y.lc p (.inl e);rw[lp]at this;cases this),fun e=>(by have:=y.lc p (.inr (.inl e));rw[lp]at this;cases this)⟩
 rw[aL (fun _=>ajD) rfl,bR]
 refine ai.aH ?_
 unfold Y9
 try simp(disch:=first|omega|assumption) only[af,aa,RZ,hB,Dg,g]
 refine aU aK (al6 (lf:=lf) (d:=d) x y.cd ap fl.1 fl.2 kc (by have:=ko.tI;omega) aC) (an _) (fun b _ hb=> .inr (by
  rcases hb with hb|hb
  ·exact .inl hb
  ·exact .inr (by rw[y.lc b (.inl hb)];decide))) fun v1 h1 n1 aM aY aw=> ?_
 unfold Pl at aw
 rw[bR]at aw
 have un:∀c,c<n->c≠p->L c≠5->h1.get c=h.get c:=fun c hc h2 h3=>aY c hc (by
  rintro(e|e)
  ·exact h2 e
  ·exact h3 (y.lc c (.inl e)))
 have np:∀{c i},L c=i->i≠1->c≠p:=fun h1 h2 e=>h2 (by rw[<-h1,e,lp])
 have mk:∀(c':Cd) (m':Cm),cY h1 n1 m.z p c' m'->(∀b,m'.F m.z b->m.m.F m.z b∨n<=b)->(∀b,aN m'.tv b->aN m.m.tv b∨n<=b)->(∀y∈m'.iv,y∈m.m.iv∨n<=y.1)->
  ∃L',(∀b,b<n->L' b=L b)∧je h1 n1 L' p {r with cd:=c'} (m.At m'):=by
  intro c' m' y1 e1 e2 e3
  refine⟨fun c=>if c<n then L c else 5,fun b hb=>if_pos hb, ?_⟩
  have lk:∀{c i},c<n->L c=i->(if c<n then L c else 5)=i:=fun h1 h2=>by rw[if_pos h1,h2]
  refine⟨(un _ hx (np y.lx (by decide)) (by rw[y.lx];decide)).trans y.get,by show m.x<_;omega,lk hx y.lx,y1,fun c hc=> ?_,y.zr.aB aM (un _ y.zr.lt (np y.ly (by decide)) (by rw[y.ly];decide)),lk y.zr.lt y.ly,
   y.li.aB aM (un _ y.li.lt (np y.ll (by decide)) (by rw[y.ll];decide)) fun c hc=>un c (y.li.own.lt hc).2 (np (y.lo c hc) (by decide)) (by rw[y.lo c hc];decide),lk y.li.lt y.ll,fun c hc=>lk (y.li.own.lt hc).2 (y.lo c hc)⟩
  show(if c<n then L c else 5)=5
  by_cases Cq:c<n
  ·rw[if_pos Cq]
   rcases hc with hc|hc|⟨w,hw,h2,h3⟩
   ·rcases e1 c hc with q|q
    ·exact y.lc c (.inl q)
    ·omega
   ·rcases e2 c hc with q|q
    ·exact y.lc c (.inr (.inl q))
    ·omega
   ·rcases e3 w hw with q|q
    ·exact y.lc c (.inr (.inr ⟨w,q,h2,h3⟩))
    ·omega
  ·rw[if_neg Cq]
 unfold qH
 cases e:iH r.cd bs with
 |short=>
  rw[e]at aw
  obtain⟨rfl,x1,y1⟩:=aw
  have z3:((3:Int) !=0)=true:=rfl
  try simp(disch:=first|omega|assumption) only[af,aa,RZ,bG,ext1,z3]
  refine⟨rfl,x1,⟨(un _ hx (np y.lx (by decide)) (by rw[y.lx];decide)).trans y.get,by omega,y.lx,y1,y.lc,y.zr.aB aM (un _ y.zr.lt (np y.ly (by decide)) (by rw[y.ly];decide)),y.ly,
   y.li.aB aM (un _ y.li.lt (np y.ll (by decide)) (by rw[y.ll];decide)) fun c hc=>un c (y.li.own.lt hc).2 (np (y.lo c hc) (by decide)) (by rw[y.lo c hc];decide),y.ll,y.lo⟩⟩
 |bad e0=>
  rw[e]at aw
  obtain⟨rfl,x1,c',m',y1,_,_,f1,_,f2,f3,_⟩:=aw
  have he:=I8 e
  have z1:(e0 !=0)=true:=by rw[bne_iff_ne];omega
  try simp(disch:=first|omega|assumption) only[af,aa,RZ,bG,ext1,z1]
  obtain⟨L',a1,a2⟩:=mk c' m' y1 f1 (fun b hb=> .inl (f2▸hb)) fun y hy=> .inl (f3▸hy)
  exact⟨rfl,he,x1,L',_,m',a1,a2⟩
 |ok sc u=>
  obtain⟨sym,c'⟩:=sc
  rw[e]at aw
  obtain⟨rfl,x1,m',y1,fp,fd,f1,_,f2,f3⟩:=aw
  have z0:((0:Int) !=0)=false:=rfl
  obtain⟨L',a1,a2⟩:=mk c' m' y1 f1 f2 f3
  by_cases hs:sym<0
  ·try simp(disch:=first|omega|assumption) only[af,aa,RZ,bG,ext1,z0,hs]
   exact⟨rfl,x1,L',m',a1,a2,fp,fd⟩
  ·have hs0:sym.toNat<=1000:=by
    rcases Cs kc e with ⟨_,q,_⟩|⟨_,q,_⟩|⟨q1,q2,q3,q4,q5,q6,q7⟩
    ·omega
    ·omega
    ·have:=PI kc e (by omega)
     have:=kc.hi
     omega
   obtain⟨c,rfl⟩:∃c:Nat,sym=(c:Int):=⟨sym.toNat,by omega⟩
   rw[cL]at hs0
   have E6:=(un m.b lR (np lb (by decide)) (by rw[lb];decide)).trans hB
   have iS:m.b<n1:=by omega
   try simp(disch:=first|omega|assumption) only[af,aa,RZ,bG,ext1,z0,hs,E6,Dg]
   have W1:∀b,b<n1->(b=m.x∨b=m.y)->n<=b∨b=p∨4<=L b∧L b<=8:=fun b _ hb=>by
    rcases hb with rfl|rfl
    ·exact .inr (.inr (by rw[y.lx];decide))
    ·exact .inr (.inr (by rw[y.ly];decide))
   refine aU aK (anf (lf:=lf) (d:=d+5) a2 (ko.zo nd) c hs0) aM W1 fun v2 h2 n2 cJ cf bu=> ?_
   have x2:bf h2 n2 p S D (A+u):=x1.aB cJ (cf p x1.lt (by
    rintro(e|e)
    ·have:L m.x=1:=by rw[<-lp];exact congrArg L e.symm
     rw[y.lx]at this;cases this
    ·have:L m.y=1:=by rw[<-lp];exact congrArg L e.symm
     rw[y.ly]at this;cases this))
   unfold Jr at bu
   try simp(disch:=first|omega|assumption) only[af,aa,RZ]
   change match dF r.z c with
    |none=>v2=_∧_
    |some (z',q,pl)=>v2=_∧_ at bu
   cases hp:dF r.z c with
   |none=>
    rw[hp]at bu
    obtain⟨rfl,y2⟩:=bu
    exact⟨rfl,.inr rfl,⟨_,x2⟩,L',_,m',a1,y2⟩
   |some t=>
    obtain⟨z',q,pl⟩:=t
    rw[hp]at bu
    obtain⟨rfl,y2⟩:=bu
    exact⟨rfl,x2,L',m',a1,y2,fp,fd⟩
end
section
variable {lf d n p room:Nat} {h:H} {S:List UInt8} {D A:Nat} {L:Nat->Nat} {k:Bk} {m:Bm} {r:Rw}
def ani(h:H)(n:Nat)(L:Nat->Nat)(p room:Nat)(m:Bm)(k:Bk)(q:St Bk)(v:Value)(h':H)(n':Nat):Prop:=n'=n∧(∀c,c≠m.b->h'.get c=h.get c)∧match q with
 | .short=>False
 | .bad e=>v= .int .i64 e∧fK h' n' L p room k m 0
 | .ok k' _=>v= .int .i64 0∧fK h' n' L p room k' m 0
theorem anj(y:fK h n L p room k m 0)(hr:k.row=none):ai (WB L) n (au ah gt lf (d+2) 233 #[.pointer (some ⟨m.b,0,none⟩)]) h n fun v h' n'=>v= .int .i64 0∧h'=h∧n'=n:=by
 have g:=y.get
 have hb:=y.lt
 unfold kK at g
 rw[hr]at g
 unfold E3 at g
 rw[aL (fun _=>Y') rfl]
 refine ai.aH ?_
 unfold Ow
 try simp(disch:=first|omega|assumption) only[af,aa,RZ,g]
theorem ank(y:fK h n L p room k m 0)(hr:k.row=some r)(u:Nat):ai (WB L) n (au ah gt lf (d+2) 233 #[.pointer (some ⟨m.b,0,none⟩)]) h n (ani h n L p room m k (iw k r u)):=by
 have g:=y.get
 have hb:=y.lt
 have yr:=y.row r hr
 unfold kK at g
 rw[hr]at g
 unfold E3 at g
 have gx:=yr.get
 have hx:=yr.lt
 unfold xD at gx
 have wb:WB L m.b:=r9 y.lb (by decide) (by decide)
 have lw:(cO k.last).length=k.last.length:=jX _
 obtain⟨la,lc,kJ⟩:∃a c,m.lv= .slice a k.last.length c:=by
  rcases y.last with ⟨e1,e2⟩|⟨o,e1,_⟩
  ·have:k.last.length=0:=by rw[<-lw,e2];rfl
   rw[this]
   exact⟨_,_,e1⟩
  ·rw[lw]at e1
   exact⟨_,_,e1⟩
 rw[aL (fun _=>Y') rfl]
 refine ai.aH ?_
 unfold Ow
 try simp(disch:=first|omega|assumption) only[af,aa,RZ,g,gx]
 refine bL (al7 (lf:=lf) (d:=d) yr.cd) (an _) (fun _ _ h=>h.elim) ?_
 unfold iw
 cases hd:r.cd.done with
 |false=>
  try simp(disch:=first|omega|assumption) only[af,aa,RZ,cP]
  exact⟨rfl,fun _ _=>rfl,rfl,y⟩
 |true=>
  try simp(disch:=first|omega|assumption) only[af,aa,RZ,jP,g]
  refine bL (abA (lf:=lf) (d:=d) yr) (an _) (fun _ _ h=>h.elim) ?_
  cases hw:r.waits with
  |true=>
   try simp(disch:=first|omega|assumption) only[af,aa,RZ]
   exact⟨rfl,fun _ _=>rfl,rfl,y⟩
  |false=>
   have g2:=g
   rw[kJ]at g2
   by_cases c:k.last.length<=k.aO
   ·have c':((k.last.length:Nat):Int)<=(k.aO:Int):=by omega
    try simp(disch:=first|omega|assumption) only[af,aa,RZ,g2,c',c]
    exact⟨rfl,fun _ _=>rfl,rfl,y⟩
   ·have c':¬((k.last.length:Nat):Int)<=(k.aO:Int):=by omega
    try simp(disch:=first|omega|assumption) only[af,aa,RZ,g2,c',c,wb]
    refine⟨rfl,fun c hc=>aD _ _ hc,rfl,y.put ?_ (fun c hc=>aD _ _ hc) rfl rfl⟩
    rw[get_eq]
    unfold kK
    rw[kJ,hr]
    rfl
theorem fK.PN(y:fK h n L p room k m 0)(hr:k.row=some r){h1:H}{n1:Nat}{L':Nat->Nat}{r':Rw}{c:Cm}(hn:n<=n1)(hL:∀b,b<n->L' b=L b)(hk:∀c,c<n->(L c=2∨L c=3)->h1.get c=h.get c)(ra:je h1 n1 L' p r' (m.At c)):fK h1 n1 L' p room {k with row:=some r'} (m.At c) 0:=by
 refine⟨(hk _ y.lt (.inl y.lb)).trans ?_,by have:=y.lt;show m.b<n1;omega,(hL _ y.lt).trans y.lb,y.last.aB hn fun c hc=>hk c (y.last.lt hc).2 (.inr (y.ll c hc)),fun c hc=>(hL c (y.last.lt hc).2).trans (y.ll c hc),fun q hq=> ?_⟩
 ·rw[y.get]
  unfold kK
  rw[hr]
  rfl
 ·cases hq
  exact ra
theorem PO{n0:Nat}{L0:Nat->Nat}{k0:Bk}{m0:Bm}(x:bf h n p S D A)(y:fK h n L p room k m 0)(hr:k.row=some r)(fl:m.Fl)(lp:L p=1)(hn:n0<=n)(hL:∀c,c<n0->L c=L0 c)(hb:m.b=m0.b){A0 u:Nat}(hA:A=A0+u):
 ai (WB L0) n0 (ay (au ah gt lf (d+2)) 233 [.pointer (some ⟨m0.b,0,none⟩)] fun e=>aj [e]) h n (PL L0 n0 p S D room A0 k0 m0 (iw k r u)):=by
 have tU:p≠m.b:=fun e=>by have:=y.lb;rw[<-e,lp]at this;cases this
 rw[<-hb]
 refine aU aK (ank (lf:=lf) (d:=d) y hr u) hn (fun b hb h2=> ?_) fun v1 h1 n1 aM aY aw=> ?_
 ·by_cases hc:b<n0
  ·refine .inr ?_
   unfold WB at h2⊢
   rw[<-hL b hc]
   exact h2
  ·exact .inl (by omega)
 ·try simp(disch:=first|omega|assumption) only[af,aa,RZ]
  obtain⟨rfl,k1,aw⟩:=aw
  have x1:bf h1 n1 p S D (A0+u):=hA▸x.aB aM (k1 p tU)
  cases e:iw k r u with
  |short=>rw[e]at aw;exact aw.elim
  |bad e0=>
   rw[e]at aw
   obtain⟨rfl,y1⟩:=aw
   exact⟨rfl,⟨_,x1⟩,L,k,m,hL,hb,y1⟩
  |ok k' w=>
   rw[e]at aw
   obtain⟨rfl,y1⟩:=aw
   have hw:w=u:=by
    unfold iw at e
    split at e
    ·split at e
     ·cases e
     ·cases e;rfl
    ·cases e;rfl
   subst hw
   exact⟨rfl,x1,L,m,hL,hb,y1,fl⟩
theorem je.lv(x:je h n L p r m)(v:Value):je h n L p r {m with lv:=v}:=⟨x.get,x.lt,x.lx,x.cd,x.lc,x.zr,x.ly,x.li,x.ll,x.lo⟩
theorem anl(hr:k.row=some r):({k with row:=some r}:Bk)=k:=by
 cases k
 cases hr
 rfl
theorem anm(x:bf h n p S D A)(y:fK h n L p room k m 0)(fl:m.Fl)(lp:L p=1)(ko:Js room A k)(hA:A<=1000000000000000)(ew:room<=900000)(aC:3000000<=lf):
 ai (WB L) n (au ah gt lf (d+11) 216 #[.pointer (some ⟨m.b,0,none⟩),.pointer (some ⟨p,0,none⟩)]) h n (PL L n p S D room A k m (hF room k (ax S D A))):=by
 obtain⟨bs,bR⟩:∃bs,ax S D A=bs:=⟨_,rfl⟩
 have g:=y.get
 have hb:=y.lt
 have tU:m.b≠p:=fun e=>by have:=y.lb;rw[e,lp]at this;cases this
 unfold kK at g
 rw[aL (fun _=>ajs) rfl,bR]
 refine ai.aH ?_
 unfold YZ hF
 have z0:((0:Int) !=0)=false:=rfl
 have z3:((3:Int) !=0)=true:=rfl
 have WW:∀b,b<n->WB L b->n<=b∨WB L b:=fun _ _ hb=> .inr hb
 cases hh:k.head with
 |false=>
  rw[hh]at g
  try simp(disch:=first|omega|assumption) only[af,aa,RZ,g,cP]
  refine aU aK (am5 (lf:=lf) (d:=d+6) x y lp (by omega)) (an _) WW fun v1 h1 n1 aM aY aw=> ?_
  rw[bR]at aw
  unfold E4 at aw
  by_cases c:bs.length<57
  ·rw[if_pos c]at aw
   obtain⟨rfl,x1,y1⟩:=aw
   try simp(disch:=first|omega|assumption) only[af,aa,RZ,z3,c]
   exact⟨rfl,x1,y1⟩
  ·rw[if_neg c]at aw
   obtain⟨rfl,x1,y1⟩:=aw
   cases yv:bs.getD 32 false with
   |true=>
    have z25:((25:Int) !=0)=true:=rfl
    try simp(disch:=first|omega|assumption) only[af,aa,RZ,z25,c]
    exact⟨rfl,⟨_,x1⟩,L,_,m,fun _ _=>rfl,rfl,y1⟩
   |false=>
    have rn:=ko.hd hh
    have e0:(if(false:Bool)=true then(25:Int)else 0)=0:=rfl
    try simp(disch:=first|omega|assumption) only[af,aa,RZ,z0,c,e0]
    refine aU aK (anj (lf:=lf) (d:=d+8) y1 rn) aM (fun b cF h2=> ?_) fun v2 h2 n2 cJ cf bu=> ?_
    ·by_cases hc:b<n
     ·exact .inr h2
     ·exact .inl (by omega)
    ·obtain⟨rfl,rfl,rfl⟩:=bu
     try simp(disch:=first|omega|assumption) only[af,aa,RZ]
     exact⟨rfl,x1,L,m,fun _ _=>rfl,rfl,y1,fl⟩
 |true=>
  rw[hh]at g
  cases hr:k.row with
  |none=>
   rw[hr]at g
   unfold E3 at g
   try simp(disch:=first|omega|assumption) only[af,aa,RZ,g,jP]
   refine aU aK (anc (lf:=lf) (d:=d+4) x y lp ew (by omega)) (an _) WW fun v1 h1 n1 aM aY aw=> ?_
   rw[bR]at aw
   unfold PM at aw
   cases e:j3 bs with
   |short=>
    rw[e]at aw
    obtain⟨rfl,x1,y1⟩:=aw
    try simp(disch:=first|omega|assumption) only[af,aa,RZ,z3]
    exact⟨rfl,x1,y1⟩
   |bad e0=>
    rw[e]at aw
    obtain⟨rfl,x1,h3⟩:=aw
    have:=Jm e
    have z1:(e0 !=0)=true:=by rw[bne_iff_ne];omega
    try simp(disch:=first|omega|assumption) only[af,aa,RZ,z1]
    exact⟨rfl,x1,h3⟩
   |ok s u=>
    rw[e]at aw
    obtain⟨rfl,x1,L',m',a1,a2,y1,f1⟩:=aw
    try simp(disch:=first|omega|assumption) only[af,aa,RZ,z0]
    have:=PO (lf:=lf) (d:=d+8) (k0:=k) x1 y1 rfl f1 ((a1 p x.lt).trans lp) aM a1 a2 rfl
    have e2:∀b:Bk,iw b (tR s room) u= .ok b u:=fun _=>rfl
    rw[e2,hh]at this
    exact this
  |some r=>
   rw[hr]at g
   unfold E3 at g
   have yr:=y.row r hr
   obtain⟨ro,rd,asS⟩:=ko.row r hr
   try simp(disch:=first|omega|assumption) only[af,aa,RZ,g,jP]
   refine bL (abA (lf:=lf) (d:=d+9) yr) (an _) (fun _ _ h=>h.elim) ?_
   cases hw:r.waits with
   |true=>
    try simp(disch:=first|omega|assumption) only[af,aa,RZ]
    refine aap trivial m.b 5 _ g hb rfl fun T1 t1 t2 t3=> ?_
    try simp(disch:=first|omega|assumption) only[af,aa,RZ]
    refine gZ trivial m.b 0 _ g hb (an _) rfl fun T2 _=> ?_
    try simp(disch:=first|omega|assumption) only[af,aa,RZ]
    refine akR aK (ane (lf:=lf) (d:=d+7) yr ro.ol ro.pl (by omega)) (an _) (fun b cF h2=> .inr ?_) fun v3 h3 n3 T3 fw dK bQ tn tl tw=> ?_
    ·rcases h2 with rfl|h2
     ·exact r9 yr.lx (by decide) (by decide)
     ·exact r9 (yr.lo b h2) (by decide) (by decide)
    ·obtain⟨rfl,rfl,yr3⟩:=bQ
     have nx:∀c,L c=2∨L c=3∨L c=1->¬(c=m.x∨aN m.ov c):=fun c hc h2=>by
      rcases h2 with rfl|h2
      ·rw[yr.lx]at hc;omega
      ·rw[yr.lo c h2]at hc;omega
     have g3:=(dK m.b hb (nx _ (.inl y.lb))).trans g
     have la3:Own h3 0 n3 5 m.lv (cO k.last):=y.last.aB (an _) fun c hc=>dK c (y.last.lt hc).2 (nx _ (.inr (.inl (y.ll c hc))))
     have x3:=x.aB (an _) (dK p x.lt (nx _ (.inr (.inr lp))))
     have xn:(cO k.last).length=k.last.length:=jX _
     have kll:=ko.ll
     try simp(disch:=first|omega|assumption) only[af,aa,RZ]
     refine Pa trivial (mV _ _) la3 (by omega) (fun b cF=> .inr (r9 (y.ll b cF) (by decide) (by decide))) _ fun w T4 T5 h5 g5 k5=> ?_
     try simp(disch:=first|omega|assumption) only[af,aa,RZ]
     refine O' (fun _ _=>rfl) ?_
     have cl:=akS (W':=fun c=>c=m.x∨aN m.ov c) t1 t2 t3 tn tl tw hb (nx _ (.inl y.lb))
     have n5:¬aN m.lv m.b:=fun e=>by have:=y.ll _ e;rw[y.lb]at this;cases this
     have g6:=(k5 m.b hb n5).trans g3
     have hb6:m.b<n3+2:=by omega
     have wb:WB L m.b:=r9 y.lb (by decide) (by decide)
     try simp(disch:=first|omega|assumption) only[af,aa,RZ,g6,wb,cl,z0,cP,fR,eh]
     obtain⟨q,hq⟩:∃q,cH r=q:=⟨_,rfl⟩
     rw[hq]at yr3 g5⊢
     have Au:∀(B:Option AB) c,c<n3->¬aN m.lv c->c≠m.b->(h5.set m.b B).get c=h3.get c:=fun B c h1 h2 h3=>(aD _ _ h3).trans (k5 c h1 h2)
     refine PO (lf:=lf) (d:=d+8) (k0:=k) (m0:=m) (k:={k with head:=true,last:=k.last++[q.1],row:=some q.2}) (r:=q.2) (L:=fun c=>if c<n3 then L c else 3) (m:={m with lv:= .slice (some ⟨n3+1,0,none⟩) ((cO k.last).length+1) (bq+((cO k.last).length+1))}) (A:=A) (u:=0) ?_ ⟨?_,hb6, ?_, ?_, ?_, ?_⟩ rfl fl ?_ (by omega) (fun c hc=>if_pos hc) rfl rfl
     ·exact x3.aB (by omega) (Au _ p x.lt (fun e=>by have:=y.ll _ e;rw[lp]at this;cases this) (Ne.symm tU))
     ·rw[get_eq]
      rfl
     ·show(if m.b<n3 then L m.b else 3)=2
      rw[if_pos hb];exact y.lb
     ·refine .inr ⟨n3+1,by rw[jX,jX,bX];rfl, ?_,aR _,by omega⟩
      rw[aD _ _ (by omega),g5,IC]
      rfl
     ·intro c hc
      have:=hc.inj
      show(if c<n3 then L c else 3)=3
      rw[if_neg (by omega)]
     ·intro r' jF
      cases jF
      refine je.lv (m:=m) ?_ _
      exact yr3.aB (by omega) (fun c hc=>if_pos hc) fun c hc h1 h2=>Au _ c hc (fun e=>by have:=y.ll _ e;omega) fun e=>by rw[e,y.lb]at h1;omega
     ·show(if p<n3 then L p else 3)=1
      rw[if_pos x.lt];exact lp
   |false=>
    have nd:r.cd.done=false:=by
     cases q:r.cd.done with
     |false=>rfl
     |true=>rw[rd q]at hw;cases hw
    try simp(disch:=first|omega|assumption) only[af,aa,RZ]
    refine aU aK (anh (lf:=lf) (d:=d) y.get (by unfold kK;rw[hr];rfl) hb y.lb x yr fl lp ro nd hA aC) (an _) (fun b _ cF=> .inr ?_) fun v1 h1 n1 aM aY aw=> ?_
    ·rcases cF with rfl|h2
     ·exact r9 lp (by decide) (by decide)
     ·unfold WB;omega
    ·rw[bR]at aw
     have kk:∀c,c<n->(L c=2∨L c=3)->h1.get c=h.get c:=fun c hc h2=>aY c hc (by
      rintro(rfl|h3)
      ·rw[lp]at h2;omega
      ·omega)
     cases e:qH r bs with
     |short=>
      rw[e]at aw
      obtain⟨rfl,x1,r1⟩:=aw
      try simp(disch:=first|omega|assumption) only[af,aa,RZ,z3]
      have:=y.PN (c:=m.m) hr aM (fun _ _=>rfl) kk r1
      rw[anl hr]at this
      exact⟨rfl,x1,this⟩
     |bad e0=>
      rw[e]at aw
      obtain⟨rfl,he,x1,L',r',c,a1,r1⟩:=aw
      have z1:(e0 !=0)=true:=by rw[bne_iff_ne];omega
      try simp(disch:=first|omega|assumption) only[af,aa,RZ,z1]
      exact⟨rfl,x1,L',{k with row:=some r'},m.At c,a1,rfl,y.PN hr aM a1 kk r1⟩
     |ok r' u=>
      rw[e]at aw
      obtain⟨rfl,x1,L',c,a1,r1,f1⟩:=aw
      try simp(disch:=first|omega|assumption) only[af,aa,RZ,z0]
      have:=PO (lf:=lf) (d:=d+8) (k0:=k) (m0:=m) x1 (y.PN hr aM a1 kk r1) rfl f1 ((a1 p x.lt).trans lp) aM a1 rfl rfl
      rw[hh]at this
      exact this
end
end Go.Proofs.YtmjolmggelkjlaaGreat
namespace Go.Proofs.YtmjolmggelkjlaaGreat
open Go
theorem B5{x k:Nat}:IntKind.u32.wrap ((x:Int)*2^k)=((x*2^k %4294967296:Nat):Int):=by
 have e2:(x:Int)*2^k=((x*2^k:Nat):Int):=by push_cast;rfl
 rw[e2,ar1]
 rfl
theorem ann{x y:Nat}:IntKind.u32.wrap ((x:Int)*(y:Int))=((x*y %4294967296:Nat):Int):=by
 have e2:(x:Int)*(y:Int)=((x*y:Nat):Int):=by push_cast;rfl
 rw[e2,ar1]
 rfl
theorem abB{a:Nat}(h:a<4294967296):(cC 32 (a:Int)).toNat=a:=by rw[CR,CS];exact me (by omega)
theorem E7{a b:Nat}(ha:a<4294967296)(hb:b<4294967296):a^^^b<4294967296:=Nat.xor_lt_two_pow (n:=32) ha hb
theorem xE{a b:Nat}(ha:a<4294967296)(hb:b<4294967296):IntKind.u32.wrap ((cC IntKind.u32.bits (a:Int)^^^cC IntKind.u32.bits (b:Int)).toNat:Int)=((a^^^b:Nat):Int):=by
 show IntKind.u32.wrap ((cC 32 (a:Int)^^^cC 32 (b:Int)).toNat:Int)=_
 rw[BitVec.toNat_xor,abB ha,abB hb]
 exact fW (E7 ha hb)
def lJ(x:Nat):Nat:=(x*2^1 %4294967296)^^^(x/2^31*79764919 %4294967296)
theorem ano(x:Nat):lJ x<4294967296:=E7 (m9 _ (by decide)) (m9 _ (by decide))
def kL:Nat->Nat->Nat
 |0,x=>x
 |i+1,x=>lJ (kL i x)
theorem E8:∀(i x:Nat),x<4294967296->kL i x<4294967296
 |0,_,h=>h
 |i+1,_,_=>ano _
def xF(b:Nat):Nat:=kL 8 (b*2^24 %4294967296)
theorem abC(b:Nat):xF b<4294967296:=E8 _ _ (m9 _ (by decide))
end Go.Proofs.YtmjolmggelkjlaaGreat
namespace Go.Proofs.YtmjolmggelkjlaaGreat
open Go.RowKit Ev Cn
structure Gt where
 last:List Nat
 aO:Nat
 sum:Nat
def fy(t b:Nat):Nat:=((t*2^1 %4294967296)^^^(t/2^31))^^^b
structure Us where
 due:Nat
 at_:Nat
 level:Nat
 bE:Option Bk
 eL:Gt
 total:Nat
 ended:Bool
def us0:Us:=⟨0,0,0,none,⟨[],0,0⟩,0,false⟩
def l7:List Nat:=[66,90,104]
def jA:Nat:=54156738319193
def jl:Nat:=25779555029136
def E9(u:Us)(bs:List Bool):St Us:=if bs.length<8 then .short
 else if u.at_<3 then(if num (bs.take 8) 0=l7.getD u.at_ 0 then .ok {u with at_:=u.at_+1} 8 else .bad 20)
 else if num (bs.take 8) 0<49∨57<num (bs.take 8) 0 then .bad 20 else .ok {u with level:=num (bs.take 8) 0-48,at_:=0,total:=0,due:=1} 8
def E'(u:Us)(bs:List Bool):St Us:=if bs.length<48 then .short
 else if num (bs.take 48) 0=jA then .ok {u with bE:=some lI,due:=2} 48 else if num (bs.take 48) 0=jl then .ok {u with due:=3} 48 else .bad 20
def Fa(unit:Nat)(u:Us)(bs:List Bool):St (Nat×Us):=match u.bE with
 |none=> .bad 7
 |some b=>match hF (u.level*unit) b bs with
  | .short=> .short
  | .bad e=> .bad e
  | .ok b' w=>if b'.done=true then .ok (1,{u with eL:=⟨b'.last,b'.aO,b'.sum⟩,bE:=none,total:=fy u.total b'.sum,due:=1}) w else .ok (0,{u with bE:=some b'}) w
def dq(A:Nat):Nat:=(8-A %8)%8
def Fb(u:Us)(A:Nat)(bs:List Bool):St Us:=if bs.length<32 then .short else if num (bs.take 32) 0=u.total then .ok {u with due:=0,ended:=true} (32+dq (A+32))else .bad 21
def Fc{α:Type}(w:Nat):St α->St (Nat×α)
 | .short=> .short
 | .bad e=> .bad e
 | .ok a u=> .ok (w,a) u
def m4(unit:Nat)(u:Us)(A:Nat)(bs:List Bool):St (Nat×Us):=
 if u.due=0 then Fc 0 (E9 u bs)else if u.due=1 then Fc 0 (E' u bs)else if u.due=2 then Fa unit u bs else Fc 2 (Fb u A bs)
structure Um where
 a:Nat
 bm:Bm
def Fe(o:Option Bk)(b:Nat):Value:=match o with
 |none=> .pointer none
 |some _=> .pointer (some ⟨b,0,none⟩)
def kN(unit:Nat)(u:Us)(m:Um)(bV:Int):AB:=⟨150,true,[.int .i64 (unit:Int),.int .i64 (u.due:Int),.int .i64 (u.at_:Int),.int .i64 (u.level:Int),Fe u.bE m.bm.b,.string ⟨(bS u.eL.last).toArray⟩,.int .i64 (u.eL.aO:Int),.int .u32 (u.eL.sum:Int),.int .u32 (u.total:Int),.bool u.ended,.int .i64 bV]⟩
structure gS (h:H) (n:Nat) (L:Nat->Nat) (p unit:Nat) (u:Us) (m:Um) (bV:Int):Prop where
 get:h.get m.a=some (kN unit u m bV)
 lt:m.a<n
 la:L m.a=9
 bE:∀b,u.bE=some b->∃w,fK h n L p (u.level*unit) b m.bm w∧(bV=0->w=0)
theorem gS.aB{h h':H}{n n':Nat}{L L':Nat->Nat}{p unit:Nat}{u:Us}{m:Um}{bV:Int}(x:gS h n L p unit u m bV)(hn:n<=n')(hL:∀c,c<n->L' c=L c)(hk:∀c,c<n->2<=L c->L c<=9->h'.get c=h.get c):gS h' n' L' p unit u m bV:=
 ⟨(hk _ x.lt (by rw[x.la];omega) (by rw[x.la];omega)).trans x.get,mb x.lt hn,(hL _ x.lt).trans x.la,fun b hb=>by
   obtain⟨w,h1,h2⟩:=x.bE b hb
   exact⟨w,h1.aB hn hL fun c hc h3 h4=>hk c hc h3 (by omega),h2⟩⟩
theorem gS.put{h h':H}{n:Nat}{L:Nat->Nat}{p unit:Nat}{u u':Us}{m:Um}{bV Ct:Int}(x:gS h n L p unit u m bV)(hB:h'.get m.a=some (kN unit u' m Ct))(hk:∀c,c≠m.a->h'.get c=h.get c)(h1:∀b,u'.bE=some b->u.bE=some b∧u'.level=u.level)(h2:Ct=0->bV=0):gS h' n L p unit u' m Ct:=
 ⟨hB,x.lt,x.la,fun b hb=>by
   obtain⟨q1,q2⟩:=h1 b hb
   obtain⟨w,h3,h4⟩:=x.bE b q1
   rw[q2]
   exact⟨w,h3.aB (an _) (fun _ _=>rfl) fun c _ h5 h6=>hk c fun e=>by rw[e,x.la]at h6;omega,fun e=>h4 (h2 e)⟩⟩
def WU(L:Nat->Nat):Nat->Prop:=fun c=>1<=L c∧L c<=9
theorem xG{L:Nat->Nat}{c i:Nat}(h:L c=i)(h1:1<=i)(h2:i<=9):WU L c:=by unfold WU;omega
structure xH (unit A:Nat) (u:Us):Prop where
 at_:u.at_<=3
 due:u.due<=3
 lv:u.due≠0->1<=u.level∧u.level<=9
 xI:u.level<=9
 b2:u.due=2->∃b,u.bE=some b∧Js (u.level*unit) A b
 b0:u.due≠2->u.bE=none
 jE:u.total<4294967296
 u1:24<=unit
 u2:unit<=100000
section
variable {lf d n p unit:Nat} {h:H} {S:List UInt8} {D A:Nat} {L:Nat->Nat} {u:Us} {m:Um} {bV:Int}
theorem anp(lv un:Nat):ai (fun _=>False) n (au ah gt lf (d+1) 96 #[.int .i64 (lv:Int),.int .i64 (un:Int)]) h n fun v h' n'=>v=(if(1<=lv∧lv<=9)∧24<=un∧un<=100000 then .tuple #[.int .i64 ((lv*un:Nat)-19:Int),.int .i64 0]else .tuple #[.int .i64 0,.int .i64 1])∧h'=h∧n'=n:=by
 rw[aL (fun _=>ND) rfl]
 refine ai.aH ?_
 unfold HN
 by_cases c1:(lv:Int)<1
 ·have e:¬((1<=lv∧lv<=9)∧24<=un∧un<=100000):=by omega
  try simp(disch:=first|omega|assumption) only[af,aa,RZ,c1,e]
 by_cases c2:(9:Int)<(lv:Int)
 ·have e:¬((1<=lv∧lv<=9)∧24<=un∧un<=100000):=by omega
  try simp(disch:=first|omega|assumption) only[af,aa,RZ,c1,c2,e]
 by_cases c3:(un:Int)<24
 ·have e:¬((1<=lv∧lv<=9)∧24<=un∧un<=100000):=by omega
  try simp(disch:=first|omega|assumption) only[af,aa,RZ,c1,c2,c3,e]
 by_cases c4:(100000:Int)<(un:Int)
 ·have e:¬((1<=lv∧lv<=9)∧24<=un∧un<=100000):=by omega
  try simp(disch:=first|omega|assumption) only[af,aa,RZ,c1,c2,c3,c4,e]
 have e:(1<=lv∧lv<=9)∧24<=un∧un<=100000:=by omega
 have hm:lv*un<=9*100000:=CQ (by omega) (by omega)
 have w1:IntKind.i64.wrap ((lv:Int)*(un:Int))=((lv*un:Nat):Int):=by
  rw[show(lv:Int)*(un:Int)=((lv*un:Nat):Int) by push_cast;rfl,aJ (by omega) (by omega)]
 have w2:IntKind.i64.wrap (((lv*un:Nat):Int)-19)=((lv*un:Nat):Int)-19:=aJ (by omega) (by omega)
 try simp(disch:=first|omega|assumption) only[af,aa,RZ,c1,c2,c3,c4,e,w1,w2]
theorem anq(h1:24<=unit)(h2:unit<=100000):ai (fun _=>False) n (au ah gt lf (d+2) 58 #[.int .i64 (unit:Int)]) h n fun v h' n'=>v= .tuple #[.pointer (some ⟨n,0,none⟩),.int .i64 0]∧n'=n+1∧∀(L:Nat->Nat) (m:Um) (p:Nat),L n=9->m.a=n->gS h' n' L p unit us0 m 0:=by
 rw[aL (fun _=>Nr) rfl]
 refine ai.aH ?_
 unfold HH
 have e:(1<=1∧1<=9)∧24<=unit∧unit<=100000:=by omega
 have rm:=anp (lf:=lf) (d:=d) (n:=n) (h:=h) 1 unit
 rw[if_pos e]at rm
 refine bL rm (an _) (fun _ _ h=>h.elim) ?_
 have z0:((0:Int) !=0)=false:=rfl
 try simp(disch:=first|omega|assumption) only[af,aa,RZ,bG,ext1,z0]
 refine jH trivial _ _ ?_
 try simp(disch:=first|omega|assumption) only[af,aa,RZ]
 intro L m p hL hm
 exact⟨by rw[hm,get_eq];rfl,by rw[hm];omega,by rw[hm];exact hL,fun b hb=>(nomatch hb)⟩
theorem anr(un:Int)(h1:un<24∨100000<un):ai (fun _=>False) n (au ah gt lf (d+2) 58 #[.int .i64 un]) h n fun v h' n'=>v= .tuple #[.pointer none,.int .i64 1]∧h'=h∧n'=n:=by
 rw[aL (fun _=>Nr) rfl]
 refine ai.aH ?_
 unfold HH
 have rm:ai (fun _=>False) n (au ah gt lf (d+1) 96 #[.int .i64 1,.int .i64 un]) h n fun v h' n'=>v= .tuple #[.int .i64 0,.int .i64 1]∧h'=h∧n'=n:=by
  rw[aL (fun _=>ND) rfl]
  refine ai.aH ?_
  unfold HN
  have a1:¬((1:Int)<1):=by decide
  have a2:¬((9:Int)<1):=by decide
  by_cases c3:un<24
  ·try simp(disch:=first|omega|assumption) only[af,aa,RZ,a1,a2,c3]
  ·have c4:(100000:Int)<un:=by omega
   try simp(disch:=first|omega|assumption) only[af,aa,RZ,a1,a2,c3,c4]
 refine bL rm (an _) (fun _ _ h=>h.elim) ?_
 have z1:((1:Int) !=0)=true:=rfl
 try simp(disch:=first|omega|assumption) only[af,aa,RZ,bG,ext1,z1]
theorem ans(y:gS h n L p unit u m bV):ai (fun _=>False) n (au ah gt lf (d+1) 97 #[.pointer (some ⟨m.a,0,none⟩)]) h n fun v h' n'=>v= .bool (u.ended&&decide (u.due=0)&&decide (u.at_=0)&&decide (bV=0))∧h'=h∧n'=n:=by
 have g:=y.get
 have ha:=y.lt
 unfold kN at g
 have q1:(((u.due:Nat):Int)==0)=decide (u.due=0):=by
  by_cases c:u.due=0
  ·rw[decide_eq_true c,c];rfl
  ·rw[decide_eq_false c];exact beq_eq_false_iff_ne.2 (by omega)
 have q2:(((u.at_:Nat):Int)==0)=decide (u.at_=0):=by
  by_cases c:u.at_=0
  ·rw[decide_eq_true c,c];rfl
  ·rw[decide_eq_false c];exact beq_eq_false_iff_ne.2 (by omega)
 have q3:(bV==0)=decide (bV=0):=by
  by_cases c:bV=0
  ·rw[decide_eq_true c,c];rfl
  ·rw[decide_eq_false c];exact beq_eq_false_iff_ne.2 c
 rw[aL (fun _=>WO) rfl]
 refine ai.aH ?_
 unfold NF
 cases c1:u.ended
 ·rw[c1]at g
  try simp(disch:=first|omega|assumption) only[af,aa,RZ,g]
 ·rw[c1]at g
  cases c2:decide (u.due=0)
  ·rw[c2]at q1
   try simp(disch:=first|omega|assumption) only[af,aa,RZ,g,q1]
  ·rw[c2]at q1
   cases c3:decide (u.at_=0)
   ·rw[c3]at q2
    try simp(disch:=first|omega|assumption) only[af,aa,RZ,g,q1,q2]
   ·rw[c3]at q2
    try simp(disch:=first|omega|assumption) only[af,aa,RZ,g,q1,q2,q3]
theorem abD(a b:Nat)(ha:a<4294967296)(hb:b<4294967296):ai (fun _=>False) n (au ah gt lf (d+1) 127 #[.int .u32 (a:Int),.int .u32 (b:Int)]) h n fun v h' n'=>v= .int .u32 ((fy a b:Nat):Int)∧h'=h∧n'=n:=by
 rw[aL (fun _=>ahR) rfl]
 refine ai.aH ?_
 unfold Xl fy
 have z1:(0:Int)<=1:=by decide
 have z31:(0:Int)<=31:=by decide
 have s1:min ((1:Int)).toNat (lO).bits=1:=by decide
 have s31:min ((31:Int)).toNat (lO).bits=31:=by decide
 have w1:IntKind.u32.wrap ((a:Int)*2^(min ((1:Int)).toNat (lO).bits))=((a*2^1 %4294967296:Nat):Int):=by rw[s1];exact _root_.Go.Proofs.YtmjolmggelkjlaaGreat.B5
 have w2:((a:Int)).fdiv (2^(min ((31:Int)).toNat (lO).bits))=((a/2^31:Nat):Int):=fdiv_pow a 31 (lO).bits (by decide)
 have l1:a*2^1 %4294967296<4294967296:=m9 _ (by decide)
 have l2:a/2^31<4294967296:=adn (arO _ _) ha
 have w3:=xE l1 l2
 have w4:=xE (E7 l1 l2) hb
 try simp(disch:=first|omega|assumption) only[af,aa,RZ,z1,z31,w1,w2,w3,w4]
end
theorem ant{bs:List Bool}(h:48<=bs.length):num (bs.take 48) 0=num (bs.take 24) 0*2^24+num ((bs.drop 24).take 24) 0:=by
 have e:bs.take 48=bs.take 24++(bs.drop 24).take 24:=by
  rw[<-RG 24 (bs.take 48),List.take_take,List.drop_take]
  rfl
 rw[e,Ai,vg ((bs.drop 24).take 24),dr,b9,kR (by omega)]
theorem anu{a b:Nat}(ha:a<2^24)(hb:b<2^24):IntKind.u64.wrap ((cC IntKind.u64.bits ((a*2^24:Nat):Int)|||cC IntKind.u64.bits (b:Int)).toNat:Int)=((a*2^24+b:Nat):Int):=by
 have h1:(cC 64 ((a*2^24:Nat):Int)).toNat=a*2^24:=by rw[CR,CS];exact me (by omega)
 have h2:(cC 64 (b:Int)).toNat=b:=by rw[CR,CS];exact me (by omega)
 show IntKind.u64.wrap ((cC 64 ((a*2^24:Nat):Int)|||cC 64 (b:Int)).toNat:Int)=_
 rw[BitVec.toNat_or,h1,h2]
 have h3:a*2^24|||b=a*2^24+b:=by
  have:=Nat.two_pow_add_eq_or_of_lt (i:=24) (b:=b) hb a
  rw[Nat.mul_comm]
  exact this.symm
 rw[h3]
 exact RW _ (by omega)
section
variable {lf d n p unit room:Nat} {h:H} {S:List UInt8} {D A:Nat} {L:Nat->Nat} {u:Us} {m:Um} {k:Bk} {bm:Bm}
def anv(L:Nat->Nat)(n p:Nat)(S:List UInt8)(D room A:Nat)(k:Bk)(m:Bm)(r:St Bk)(v':Value)(h':H)(n':Nat):Prop:=match r with
 | .short=>v'= .int .i64 3∧bf h' n' p S D A∧fK h' n' L p room k m 0
 | .bad e=>v'= .int .i64 e∧(∃B,bf h' n' p S D B)∧∃L' k' m',(∀c,c<n->L' c=L c)∧m'.b=m.b∧fK h' n' L' p room k' m' e
 | .ok k' u=>v'= .int .i64 0∧bf h' n' p S D (A+u)∧∃L' m',(∀c,c<n->L' c=L c)∧m'.b=m.b∧fK h' n' L' p room k' m' 0∧m'.Fl
theorem abE{room:Nat}{b:Bk}{bs:List Bool}{e:Int}(h:hF room b bs= .bad e):e=22∨e=23∨e=25:=by
 have en:∀{b:Bk} {r:Rw} {u:Nat},iw b r u= .bad e->e=23:=fun{b r u} h=>by
  unfold iw at h
  split at h
  ·split at h
   ·cases h;rfl
   ·cases h
  ·cases h
 unfold hF at h
 split at h
 ·split at h
  ·cases h
  ·split at h
   ·cases h;exact .inr (.inr rfl)
   ·cases h
 ·split at h
  ·split at h
   ·cases h
   ·next q=>cases h;exact .inr (.inr (Jm q))
   ·cases h
  ·next r _=>
   split at h
   ·exact .inr (.inl (en h))
   ·cases e1:qH r bs with
    |short=>rw[e1]at h;cases h
    |bad x=>
     rw[e1]at h
     cases h
     unfold qH at e1
     split at e1
     ·cases e1
     ·next q=>
      cases e1
      have:=I8 q
      omega
     ·split at e1
      ·cases e1
      ·split at e1
       ·cases e1;exact .inr (.inr rfl)
       ·cases e1
    |ok r' u=>
     rw[e1]at h
     exact .inr (.inl (en h))
theorem anw(x:bf h n p S D A)(y:fK h n L p room k bm 0)(fl:bm.Fl)(lp:L p=1)(ko:Js room A k)(hA:A<=1000000000000000)(ew:room<=900000)(aC:3000000<=lf):
 ai (WB L) n (au ah gt lf (d+12) 190 #[.pointer (some ⟨bm.b,0,none⟩),.pointer (some ⟨p,0,none⟩)]) h n (anv L n p S D room A k bm (hF room k (ax S D A))):=by
 have g:=y.get
 have hb:=y.lt
 have tU:bm.b≠p:=fun e=>by have:=y.lb;rw[e,lp]at this;cases this
 unfold kK at g
 rw[ko.nd]at g
 rw[aL (fun _=>ai7) rfl]
 refine ai.aH ?_
 unfold Yx
 have z0:((0:Int) !=0)=false:=rfl
 have z3:((3:Int) !=3)=false:=rfl
 have PQ:((0:Int) !=3)=true:=rfl
 try simp(disch:=first|omega|assumption) only[af,aa,RZ,g,z0]
 refine aU aK (anm (lf:=lf) (d:=d) x y fl lp ko hA ew aC) (an _) (fun _ _ hb=> .inr hb) fun v1 h1 n1 aM aY aw=> ?_
 have wb:WB L bm.b:=r9 y.lb (by decide) (by decide)
 have iS:bm.b<n1:=by omega
 cases e:hF room k (ax S D A)with
 |short=>
  rw[e]at aw
  obtain⟨rfl,x1,y1⟩:=aw
  try simp(disch:=first|omega|assumption) only[af,aa,RZ,z3]
  exact⟨rfl,x1,y1⟩
 |bad e0=>
  rw[e]at aw
  obtain⟨rfl,⟨B,x1⟩,L',k',m',a1,a2,y1⟩:=aw
  have he:=abE e
  have z1:(e0 !=3)=true:=by rw[bne_iff_ne];omega
  have g1:=y1.get
  unfold kK at g1
  rw[a2]at g1
  try simp(disch:=first|omega|assumption) only[af,aa,RZ,z1,g1,wb]
  have PR:p≠m'.b:=by rw[a2];exact Ne.symm tU
  exact⟨rfl,⟨B,x1.aB (an _) (by rw[<-a2];exact aD _ _ PR)⟩,L',k',m',a1,a2,y1.put (by rw[a2,get_eq];unfold kK;rfl) (fun c hc=>by rw[<-a2];exact aD _ _ hc) rfl rfl⟩
 |ok k' w=>
  rw[e]at aw
  obtain⟨rfl,x1,L',m',a1,a2,y1,f1⟩:=aw
  have g1:=y1.get
  unfold kK at g1
  rw[a2]at g1
  try simp(disch:=first|omega|assumption) only[af,aa,RZ,PQ,g1,wb]
  have PR:p≠m'.b:=by rw[a2];exact Ne.symm tU
  exact⟨rfl,x1.aB (an _) (by rw[<-a2];exact aD _ _ PR),L',m',a1,a2,y1.put (by rw[a2,get_eq];unfold kK;rfl) (fun c hc=>by rw[<-a2];exact aD _ _ hc) rfl rfl,f1⟩
def PS(L:Nat->Nat)(n p:Nat)(S:List UInt8)(D A unit:Nat)(u:Us)(m:Um)(r:St Us)(v':Value)(h':H)(n':Nat):Prop:=match r with
 | .short=>v'= .int .i64 3∧bf h' n' p S D A∧gS h' n' L p unit u m 0
 | .bad e=>v'= .int .i64 e∧e=20∧(∃B,bf h' n' p S D B)∧gS h' n' L p unit u m 0
 | .ok u' w=>v'= .int .i64 0∧bf h' n' p S D (A+w)∧∃L' m',(∀c,c<n->L' c=L c)∧m'.a=m.a∧gS h' n' L' p unit u' m' 0∧m'.bm.Fl
theorem anx(x:bf h n p S D A)(y:gS h n L p unit u m 0)(fl:m.bm.Fl)(lp:L p=1)(ko:xH unit A u)(h0:u.due=0)(aC:40<=lf):ai (WU L) n (au ah gt lf (d+4) 155 #[.pointer (some ⟨m.a,0,none⟩),.pointer (some ⟨p,0,none⟩)]) h n (PS L n p S D A unit u m (E9 u (ax S D A))):=by
 obtain⟨bs,bR⟩:∃bs,ax S D A=bs:=⟨_,rfl⟩
 have oN:m.a≠p:=fun e=>by have:=y.la;rw[e,lp]at this;cases this
 have gQ:=ko.at_
 rw[aL (fun _=>XR) rfl,bR]
 refine ai.aH ?_
 unfold N6 E9
 refine aU aK (nK (lf:=lf) (d:=d) x 8 (by decide) aC) (an _) (fun b _ hb=> .inr (hb▸xG lp (by decide) (by decide))) fun v1 h1 n1 aM aY aw=> ?_
 obtain⟨rfl,aw⟩:=aw
 rw[bR]at aw
 have z0:((0:Int) !=0)=false:=rfl
 have z3:((3:Int) !=0)=true:=rfl
 rcases aw with ⟨q1,rfl,rfl⟩|⟨q1,rfl,x1⟩
 ·try simp(disch:=first|omega|assumption) only[af,aa,RZ,bG,ext1,z3,q1]
  exact⟨rfl,x,y⟩
 have c1:¬bs.length<8:=by omega
 have y1:gS h1 n1 L p unit u m 0:=y.aB (an _) (fun _ _=>rfl) fun c hc h4 _=>aY c hc fun e=>by rw[e,lp]at h4;omega
 have g:=y1.get
 have ha:=y1.lt
 unfold kN at g
 have wu:WU L m.a:=xG y.la (by decide) (by decide)
 obtain⟨c,hc⟩:∃c,num (bs.take 8) 0=c:=⟨_,rfl⟩
 have cl:c<256:=by
  have:=jI (bs.take 8)
  rw[dr,kR q1,hc]at this
  exact this
 rw[hc]
 by_cases c3:u.at_<3
 ·have nQ:(u.at_:Int)<3:=by omega
  have li:(([66,90,104]:List UInt8).getD u.at_ 0).toNat=l7.getD u.at_ 0:=by
   have:u.at_=0∨u.at_=1∨u.at_=2:=by omega
   rcases this with e|e|e<;>rw[e]<;>rfl
  have ll:l7.getD u.at_ 0<256:=by rw[<-li];exact(([66,90,104]:List UInt8).getD u.at_ 0).toNat_lt
  have w1:=fW (x:=l7.getD u.at_ 0) (by omega)
  have w2:IntKind.i64.wrap ((u.at_:Int)+1)=((u.at_+1:Nat):Int):=by rw[aJ (by omega) (by omega)];rfl
  have w3:(u.at_:Int)+1=((u.at_+1:Nat):Int):=rfl
  have b1:(0:Int)<=(u.at_:Int):=by omega
  have b2:(u.at_:Int)<((([66,90,104]:List UInt8).length:Nat):Int):=by show(u.at_:Int)<3;omega
  by_cases c4:c=l7.getD u.at_ 0
  ·have z4:((c:Int) !=((l7.getD u.at_ 0:Nat):Int))=false:=by rw[c4];exact bne_self_eq_false _
   try simp(disch:=first|omega|assumption) only[af,aa,RZ,bG,ext1,z0,g,nQ,b1,b2,li,w1,z4,w2,w3,wu,c1,c3,c4]
   refine⟨rfl,x1.aB (an _) (aD _ _ (Ne.symm oN)),L,m,fun _ _=>rfl,rfl,y1.put (by rw[get_eq];unfold kN;rfl) (fun c hc=>aD _ _ hc) (fun b hb=>⟨hb,rfl⟩) (fun _=>rfl),fl⟩
  ·have z4:((c:Int) !=((l7.getD u.at_ 0:Nat):Int))=true:=by rw[bne_iff_ne];omega
   try simp(disch:=first|omega|assumption) only[af,aa,RZ,bG,ext1,z0,g,nQ,b1,b2,li,w1,z4,c1,c3,c4]
   exact⟨rfl,rfl,⟨_,x1⟩,y1⟩
 ·have nQ:¬(u.at_:Int)<3:=by omega
  by_cases c4:c<49
  ·have vn:(c:Int)<49:=by omega
   try simp(disch:=first|omega|assumption) only[af,aa,RZ,bG,ext1,z0,g,nQ,vn,c1,c3,c4]
   exact⟨rfl,rfl,⟨_,x1⟩,y1⟩
  by_cases c5:57<c
  ·have vn:¬(c:Int)<49:=by omega
   have PT:(57:Int)<(c:Int):=by omega
   try simp(disch:=first|omega|assumption) only[af,aa,RZ,bG,ext1,z0,g,nQ,vn,PT,c1,c3,c4,c5]
   exact⟨rfl,rfl,⟨_,x1⟩,y1⟩
  ·have vn:¬(c:Int)<49:=by omega
   have PT:¬(57:Int)<(c:Int):=by omega
   have w1:IntKind.u32.wrap ((c:Int)-48)=((c-48:Nat):Int):=by rw[show(c:Int)-48=((c-48:Nat):Int) by omega];exact fW (by omega)
   have w2:IntKind.i64.wrap ((c-48:Nat):Int)=((c-48:Nat):Int):=aJ (by omega) (by omega)
   have c45:¬(c<49∨57<c):=by omega
   have bn0:=ko.b0 (by omega)
   try simp(disch:=first|omega|assumption) only[af,aa,RZ,bG,ext1,z0,g,nQ,vn,PT,w1,w2,wu,c1,c3,c4,c5]
   refine⟨rfl,x1.aB (an _) ?_,L,m,fun _ _=>rfl,rfl,y1.put (by rw[get_eq];unfold kN;rfl) (fun c hc=> ?_) (fun b hb=> ?_) (fun _=>rfl),fl⟩
   ·simp only[aD _ _ (Ne.symm oN)]
   ·simp only[aD _ _ hc]
   ·have hb:u.bE=some b:=hb
    rw[bn0]at hb
    cases hb
end
theorem anz{A:Nat}:dq A<8:=by unfold dq;omega
section
variable {lf d n p unit room:Nat} {h:H} {S:List UInt8} {D A:Nat} {L:Nat->Nat} {u:Us} {m:Um} {k:Bk} {bm:Bm}
theorem anA(aC:40<=lf):∀{A:Nat} {h:H},bf h n p S D A->ai (fun c=>c=p) n (au ah gt lf (d+1) 193 #[.pointer (some ⟨p,0,none⟩)]) h n fun _ h' n'=>n'=n∧bf h' n' p S D (A+dq A):=by
 intro A h x
 rw[aL (fun _=>YC) rfl]
 refine ai.aH ?_
 unfold Ig
 have key:∀(j fu A:Nat) (h:H),dq A=j->j<fu->bf h n p S D A->ai (fun c=>c=p) n (zU lf (au ah gt lf d) fu (Ie lf (au ah gt lf d)) (.pointer (some ⟨p,0,none⟩))) h n fun _ h' n'=>n'=n∧bf h' n' p S D (A+dq A):=by
  intro j
  induction j with
  |zero=>
   intro fu A h hj hf x
   obtain⟨fu,rfl⟩:∃f,fu=f+1:=⟨fu-1,by omega⟩
   have g:=x.get
   have hp:=x.lt
   unfold tC at g
   have e1:((A:Int)).tmod 8=((A %8:Nat):Int):=rfl
   have e2:((A %8:Nat):Int) !=0↔False:=by
    unfold dq at hj
    simp
    omega
   have e3:(((A %8:Nat):Int) !=0)=false:=by
    unfold dq at hj
    rw[bne_eq_false_iff_eq]
    omega
   rw[zU]
   try simp(disch:=first|omega|assumption) only[af,aa,RZ,g,e1,e3]
   (try unfold Ie);(try dsimp only)
   refine(qy _).2 ⟨rfl, ?_⟩
   rw[hj]
   exact x
  |succ j ih=>
   intro fu A h hj hf x
   obtain⟨fu,rfl⟩:∃f,fu=f+1:=⟨fu-1,by omega⟩
   have g:=x.get
   have hp:=x.lt
   have sm:=x.sm
   have hi:=x.hi
   unfold tC at g
   have e1:((A:Int)).tmod 8=((A %8:Nat):Int):=rfl
   have e3:(((A %8:Nat):Int) !=0)=true:=by
    unfold dq at hj
    rw[bne_iff_ne]
    omega
   have w1:IntKind.i64.wrap ((A:Int)+1)=((A+1:Nat):Int):=by rw[aJ (by omega) (by omega)];rfl
   have w2:(A:Int)+1=((A+1:Nat):Int):=rfl
   have o8:dq (A+1)=j:=by unfold dq at hj⊢;omega
   rw[zU]
   try simp(disch:=first|omega|assumption) only[af,aa,RZ,g,e1,e3,w1,w2]
   have x1:bf (h.set p (some (tC S D (A+1)))) n p S D (A+1):=⟨get_eq _ _ _,hp,by have:=x.lo;omega,by unfold dq at hj;omega,sm⟩
   have:=ih fu (A+1) _ o8 (by omega) x1
   rw[show A+dq A=A+1+dq (A+1) by rw[hj,o8];omega]
   exact this
 exact key _ lf A h rfl (by have:=@anz A;omega) x
theorem anB(x:bf h n p S D A)(y:gS h n L p unit u m 0)(fl:m.bm.Fl)(lp:L p=1)(ko:xH unit A u)(h1d:u.due=1)(aC:40<=lf):ai (WU L) n (au ah gt lf (d+4) 156 #[.pointer (some ⟨m.a,0,none⟩),.pointer (some ⟨p,0,none⟩)]) h n (PS L n p S D A unit u m (E' u (ax S D A))):=by
 obtain⟨bs,bR⟩:∃bs,ax S D A=bs:=⟨_,rfl⟩
 have oN:m.a≠p:=fun e=>by have:=y.la;rw[e,lp]at this;cases this
 rw[aL (fun _=>XS) rfl,bR]
 refine ai.aH ?_
 unfold H5 E'
 refine bL (IM (d:=d+1) x) (an _) (fun _ _ h=>h.elim) ?_
 rw[bR]
 by_cases c1:bs.length<48
 ·have pQ:((bs.length:Nat):Int)<48:=by omega
  try simp(disch:=first|omega|assumption) only[af,aa,RZ,pQ,c1]
  exact⟨rfl,x,y⟩
 have pQ:¬((bs.length:Nat):Int)<48:=by omega
 try simp(disch:=first|omega|assumption) only[af,aa,RZ,pQ,c1]
 have wp:∀b,b<n->b=p->n<=b∨WU L b:=fun b _ hb=> .inr (hb▸xG lp (by decide) (by decide))
 refine aU aK (nK (lf:=lf) (d:=d) x 24 (by decide) aC) (an _) wp fun v1 h1 n1 aM aY aw=> ?_
 obtain⟨rfl,aw⟩:=aw
 rw[bR]at aw
 rcases aw with ⟨q,_⟩|⟨_,rfl,x1⟩
 ·omega
 have r1:ax S D (A+24)=bs.drop 24:=by rw[<-rR x.lo,bR]
 try simp(disch:=first|omega|assumption) only[af,aa,RZ]
 refine aU aK (nK (lf:=lf) (d:=d) x1 24 (by decide) aC) (an _) wp fun v2 h2 n2 cJ cf bu=> ?_
 obtain⟨rfl,bu⟩:=bu
 rw[r1,b9]at bu
 rcases bu with ⟨q,_⟩|⟨_,rfl,x2⟩
 ·omega
 have y2:gS h2 n2 L p unit u m 0:=y.aB (an _) (fun _ _=>rfl) fun c hc h4 _=>by
  have ne:c≠p:=fun e=>by rw[e,lp]at h4;omega
  rw[cf c hc ne,aY c hc ne]
 have g:=y2.get
 have ha:=y2.lt
 unfold kN at g
 have wu:WU L m.a:=xG y.la (by decide) (by decide)
 obtain⟨hi,we⟩:∃v,num (bs.take 24) 0=v:=⟨_,rfl⟩
 obtain⟨lo,jj⟩:∃v,num ((bs.drop 24).take 24) 0=v:=⟨_,rfl⟩
 have qB:hi<2^24:=by
  have:=jI (bs.take 24)
  rw[dr,kR (by omega),we]at this
  exact this
 have lol:lo<2^24:=by
  have:=jI ((bs.drop 24).take 24)
  rw[dr,b9,kR (by omega),jj]at this
  exact this
 have e48:=ant (bs:=bs) (by omega)
 rw[we,jj]at e48
 rw[we,jj,e48]
 have z24:(0:Int)<=24:=by decide
 have w1:IntKind.u64.wrap (hi:Int)=(hi:Int):=RW _ (by omega)
 have w2:IntKind.u64.wrap (lo:Int)=(lo:Int):=RW _ (by omega)
 have w3:IntKind.u64.wrap ((hi:Int)*2^(min ((24:Int)).toNat (ar2).bits))=((hi*2^24:Nat):Int):=by
  rw[show min ((24:Int)).toNat (ar2).bits=24 by decide,show(hi:Int)*2^24=((hi*2^24:Nat):Int)from(RX hi (2^24)).symm]
  exact RW _ (by omega)
 have w4:=anu qB lol
 obtain⟨v,hv⟩:∃v,hi*2^24+lo=v:=⟨_,rfl⟩
 rw[hv]at w4⊢
 by_cases cm:v=jA
 ·have zm:(((v:Nat):Int)==54156738319193)=true:=by rw[cm];rfl
  have lv:=ko.lv (by omega)
  have ku1:=ko.u1
  have PU:=ko.u2
  have rm:u.level*unit<=9*100000:=CQ lv.2 PU
  have rm2:1*24<=u.level*unit:=CQ lv.1 ku1
  have w5:IntKind.i64.wrap ((u.level:Int)*(unit:Int))=((u.level*unit:Nat):Int):=by
   rw[<-RX,aJ (by omega) (by omega)]
  try simp(disch:=first|omega|assumption) only[af,aa,RZ,z24,w1,w2,w3,w4,zm,g,w5,cm]
  refine aU aK (am3 (lf:=lf) (d:=d+2) (room:=u.level*unit) (by omega) (by omega)) (an _) (fun _ _ h=>h.elim) fun v3 h3 n3 fw dK bQ=> ?_
  obtain⟨rfl,rfl,bat⟩:=bQ
  have g3:=(dK m.a ha id).trans g
  have Jt:m.a<n2+1:=by omega
  try simp(disch:=first|omega|assumption) only[af,aa,RZ,bG,ext1,g3,wu]
  refine⟨rfl,(x2.aB fw (dK p x2.lt id)).aB (an _) ?_,fun c=>if c<n2 then L c else 2,⟨m.a,⟨n2,.slice none 0 0,0,0,EG 0,0,0,.slice none 0 0⟩⟩,fun c hc=>if_pos hc,rfl,⟨?_,Jt, ?_,fun b hb=> ?_⟩,rfl,rfl⟩
  ·simp only[aD _ _ (Ne.symm oN)]
  ·rw[get_eq]
   rfl
  ·show(if m.a<n2 then L m.a else 2)=9
   rw[if_pos ha];exact y.la
  ·cases hb
   refine⟨0,(bat (fun c=>if c<n2 then L c else 2) _ p (if_neg (Nat.lt_irrefl _)) rfl rfl).aB (an _) (fun _ _=>rfl) fun c hc h4 h5=> ?_,fun _=>rfl⟩
   have ne:c≠m.a:=fun e=>by
    rw[e,if_pos ha,y.la]at h5
    omega
   simp only[aD _ _ ne]
 ·have zm:(((v:Nat):Int)==54156738319193)=false:=beq_eq_false_iff_ne.2 fun e=>cm (by unfold jA;omega)
  have b0:=ko.b0 (by omega)
  by_cases ce:v=jl
  ·have ze:(((v:Nat):Int)==25779555029136)=true:=by rw[ce];rfl
   try simp(disch:=first|omega|assumption) only[af,aa,RZ,z24,w1,w2,w3,w4,zm,ze,g,wu,cm,ce]
   have Pm:¬jl=jA:=by decide
   rw[if_neg Pm]
   refine⟨rfl,x2.aB (an _) (aD _ _ (Ne.symm oN)),L,m,fun _ _=>rfl,rfl,y2.put (by rw[get_eq];unfold kN;rfl) (fun c hc=>aD _ _ hc) (fun b hb=>⟨hb,rfl⟩) (fun _=>rfl),fl⟩
  ·have ze:(((v:Nat):Int)==25779555029136)=false:=beq_eq_false_iff_ne.2 fun e=>ce (by unfold jl;omega)
   try simp(disch:=first|omega|assumption) only[af,aa,RZ,z24,w1,w2,w3,w4,zm,ze,cm,ce]
   exact⟨rfl,rfl,⟨_,x2⟩,y2⟩
end
end Go.Proofs.YtmjolmggelkjlaaGreat
