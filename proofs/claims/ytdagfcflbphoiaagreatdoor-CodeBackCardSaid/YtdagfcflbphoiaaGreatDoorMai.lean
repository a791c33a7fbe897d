import Derived.Test.YtdagfcflbphoiaaGreatDoorMah
import Derived.Test.YtdagfcflbphoiaaGreatDoorMag
open Int renaming natCast_nonneg→aa
open Nat renaming reduceLT→ae, reduceAdd→ag, le_refl→ak, zero_add→gU
open Go.Proofs.Tryz renaming prog→ai
open List renaming getD_eq_getElem?_getD→aC, length_append→aM, replicate→cq, length_cons→cu, append_assoc→cE, append_nil→dF, length_take→dW, length_nil→iz, take_append_drop→jm, mem_cons_of_mem→lG, length_map→mM, length_replicate→mS, nil_append→vK, eq_nil_of_length_eq_zero→vL, flatMap_cons→LC, flatMap→LD
open Bool renaming not_true→gu
open UInt8 renaming ofNat→nM
set_option linter.unusedVariables false
set_option linter.unusedSimpArgs false
namespace Go.Proofs.YtdagfcflbphoiaaGreatDoor
open Go.RowKit Ev Tb Cn
theorem KY{α:Type}(l r:List α):(l++r).take l.length=l:=by rw[List.take_append_of_le_length (ak _),List.take_length]
theorem vE{α:Type}(l r:List α):(l++r).drop l.length=r:=by rw[List.drop_append_of_le_length (ak _),List.drop_length,vK]
theorem Wq{k v:Nat}(h:v<2^k)(r:List Bool):num ((cL v k++r).take k) 0=v:=by
 have:=KY (cL v k) r
 rw[dP]at this
 rw[this,JF h]
theorem KZ{q:Nat}:∀(A B:List Nat),bY q (A++B)=if q∈A then bY q A else A.length+bY q B
 |[],B=>by simp
 |a::A,B=>by
  show(if a=q then 0 else bY q (A++B)+1)=_
  by_cases e:a=q
  ·rw[if_pos e,if_pos (by simp[e])]
   show _=if a=q then 0 else _
   rw[if_pos e]
  ·rw[if_neg e,KZ A B]
   have e':¬q=a:=fun x=>e x.symm
   by_cases h:q∈A
   ·rw[if_pos h,if_pos (lG _ h)]
    show _=if a=q then 0 else _
    rw[if_neg e]
   ·rw[if_neg h,if_neg (by simp[e',h])]
    simp only[cu]
    omega
theorem agy{q:Nat}{O:List Nat}{i:Nat}(hi:i<O.length):bY q (dQ 0 O i)<=max i (bY q O):=by
 obtain⟨A,B,x,rfl,rfl⟩:∃A B x,O=A++x::B∧i=A.length:=⟨O.take i,O.drop (i+1),O[i],by rw[<-List.drop_eq_getElem_cons hi,jm],by rw[dW];omega⟩
 have e:dQ 0 (A++x::B) A.length=x::(A++B):=by
  unfold dQ
  rw[aC,List.getElem?_append_right (ak _),Nat.sub_self,KY,List.drop_append,List.drop_of_length_le (by omega),show A.length+1-A.length=1 by omega]
  rfl
 rw[e]
 show(if x=q then 0 else bY q (A++B)+1)<=_
 rw[KZ A B,KZ A (x::B)]
 by_cases hx:x=q
 ·rw[if_pos hx];omega
 ·rw[if_neg hx]
  by_cases h:q∈A
  ·rw[if_pos h,if_pos h]
   have:=Ak h
   omega
  ·rw[if_neg h,if_neg h]
   show _<=max _ (_+if x=q then 0 else bY q B+1)
   rw[if_neg hx]
   omega
theorem Wt(r:List Bool):∀(x t o:Nat),x<t->gR t o (cq x true++false::r)= .ok (o+x) (o+x+1)
 |0,t+1,o,_=>rfl
 |x+1,t+1,o,h=>by
  show gR t (o+1) (cq x true++false::r)=_
  rw[Wt r x t (o+1) (by omega),show o+1+x=o+(x+1) by omega]
theorem Wu{t cnt:Nat}(r:List Bool)(h6:t<=6)(h0:0<cnt):∀(ps:List Nat) (N a:Nat) (O done:List Nat),tn O->(∀p∈ps,p<t∧p<6)->(∀p,p<t->bY p O<t)->done.length+ps.length=cnt->(gI (dJ O ps)).length<N->
 ∃O',gE N ⟨t,cnt,O,done⟩ (gI (dJ O ps)++r) a= .ok ⟨t,cnt,O',done++ps⟩ (a+(gI (dJ O ps)).length)
 |[],N,a,O,done,_,_,_,hl,hN=>by
  obtain⟨N,rfl⟩:∃M,N=M+1:=⟨N-1,by omega⟩
  refine⟨O, ?_⟩
  unfold gE
  have hf:Pk.fin ⟨t,cnt,O,done⟩=true:=by
   unfold Pk.fin
   rw[decide_eq_true (show 0<cnt from h0),decide_eq_true (show done.length=cnt by simpa using hl)]
   rfl
  rw[if_pos hf,dF]
  rfl
 |p::ps,N,a,O,done,fq,hp,hO,hl,hN=>by
  have pp:=hp p (by simp)
  have pin:=fq.2 p pp.2
  have plt:=hO p pp.1
  have po:bY p O<6:=by omega
  have e1:dJ O (p::ps)=bY p O::dJ (dQ 0 O (bY p O)) ps:=rfl
  rw[e1,VY]at hN⊢
  simp only[aM,mS,cu]at hN
  simp only[cu]at hl
  obtain⟨N,rfl⟩:∃M,N=M+1:=⟨N-1,by omega⟩
  obtain⟨O',h⟩:=Wu (t:=t) (cnt:=cnt) r h6 h0 ps N (a+(bY p O+1)) (dQ 0 O (bY p O)) (done++[p]) (fq.dQ po) (fun q hq=>hp q (lG _ hq)) (fun q hq=>by
   have h1:=agy (q:=q) (O:=O) (i:=bY p O) (by rw[fq.1];exact po)
   have h2:=hO q hq
   omega) (by simp;omega) (by omega)
  refine⟨O', ?_⟩
  unfold gE
  have hf:¬Pk.fin ⟨t,cnt,O,done⟩=true:=by
   unfold Pk.fin
   rw[decide_eq_false (show¬done.length=cnt by omega),Bool.and_false]
   decide
  have st:eU ⟨t,cnt,O,done⟩ (cq (bY p O) true++false::gI (dJ (dQ 0 O (bY p O)) ps)++r)= .ok ⟨t,cnt,dQ 0 O (bY p O),done++[p]⟩ (bY p O+1):=by
   unfold eU
   rw[if_neg (show¬cnt=0 by omega),cE]
   show(match gR t 0 (cq (bY p O) true++(false::(gI (dJ (dQ 0 O (bY p O)) ps)++r)))with
    | .short=>St.short
    | .bad e=> .bad e
    | .ok o u=>St.ok (Pk.mk t cnt (dQ 0 O o) (done++[O.getD o 0])) u)=_
   rw[Wt _ _ _ _ plt,gU]
   show St.ok (Pk.mk t cnt (dQ 0 O (bY p O)) (done++[O.getD (bY p O) 0])) (bY p O+1)=_
   rw[KF pin]
  rw[if_neg hf,st]
  have dr:(cq (bY p O) true++false::gI (dJ (dQ 0 O (bY p O)) ps)++r).drop (bY p O+1)=gI (dJ (dQ 0 O (bY p O)) ps)++r:=by
   have:=vE (cq (bY p O) true++[false]) (gI (dJ (dQ 0 O (bY p O)) ps)++r)
   rw[aM,mS]at this
   rw[<-this]
   simp[cE]
  show gE N _ ((cq (bY p O) true++false::gI (dJ (dQ 0 O (bY p O)) ps)++r).drop (bY p O+1)) _=_
  rw[dr,h]
  congr 1
  ·simp[cE]
  ·simp only[aM,mS,cu]
   omega
theorem agz{p t:Nat}(h6:t<=6)(h:p<t):bY p en<t:=by
 have:bY p en=p:=by
  rcases p with _|_|_|_|_|_|p<;>first|rfl|omega
 omega
theorem agA{t:Nat}{ps:List Nat}(r:List Bool)(h2:2<=t)(h6:t<=6)(h0:0<ps.length)(hc:ps.length<32768)(hp:∀p∈ps,p<t)(N:Nat)(hN:(gJ t ps).length<N):
 ∃O',gE N rb (gJ t ps++r) 0= .ok ⟨t,ps.length,O',ps⟩ (gJ t ps).length:=by
 obtain⟨N,rfl⟩:∃M,N=M+1:=⟨N-1,by omega⟩
 have hl:(gJ t ps).length=18+(gI (dJ en ps)).length:=by
  unfold gJ
  rw[aM,aM,dP,dP]
  omega
 obtain⟨O',h⟩:=Wu (t:=t) r h6 h0 ps N 18 en [] Am (fun p hq=>⟨hp p hq,by have:=hp p hq;omega⟩) (fun p hq=>agz h6 hq) (by simp) (by omega)
 refine⟨O', ?_⟩
 have e18:num ((gJ t ps++r).take 18) 0=t*32768+ps.length:=by
  have e:(gJ t ps++r).take 18=cL t 3++cL ps.length 15:=by
   have:=KY (cL t 3++cL ps.length 15) (gI (dJ en ps)++r)
   rw[aM,dP,dP]at this
   rw[<-this]
   unfold gJ
   simp[cE]
  rw[e,xr,xt (cL ps.length 15),dP,JF (by omega:t<2^3),JF (show ps.length<2^15 from hc)]
 have st:eU rb (gJ t ps++r)= .ok ⟨t,ps.length,en,[]⟩ 18:=by
  unfold eU
  rw[if_pos (show rb.count=0 from rfl),if_neg (by rw[aM];omega),e18,show(t*32768+ps.length)/32768=t by omega,show(t*32768+ps.length)%32768=ps.length by omega,if_pos ⟨⟨h2,h6⟩,by omega⟩]
  rfl
 have hf:¬Pk.fin rb=true:=by decide
 unfold gE
 rw[if_neg hf,st]
 have dr:(gJ t ps++r).drop 18=gI (dJ en ps)++r:=by
  have:=vE (cL t 3++cL ps.length 15) (gI (dJ en ps)++r)
  rw[aM,dP,dP]at this
  rw[<-this]
  unfold gJ
  simp[cE]
 show gE N _ ((gJ t ps++r).drop 18) (0+18)=_
 rw[dr,gU,h,hl]
 rfl
theorem Wv{size:Nat}{lens:List Nat}(r:List Bool)(hl:lens.length≠size):∀(k now N a:Nat),1<=now->now+k<=20->2*k<=N->ey N size now lens (mJ k++r) a=ey (N-k) size (now+k) lens r (a+2*k)
 |0,now,N,a,_,_,_=>rfl
 |k+1,now,N,a,h1,pR,hN=>by
  obtain⟨N,rfl⟩:∃M,N=M+1:=⟨N-1,by omega⟩
  rw[VS]
  have st:eh now lens ([true,false]++mJ k++r)= .ok (now+1,lens) 2:=by
   unfold eh
   rw[if_neg (by omega)]
   show lq ((now:Int)+1-2*((bn false:Nat):Int)) lens 2=_
   unfold lq
   rw[if_pos (by show 1<=(now:Int)+1-2*0∧(now:Int)+1-2*0<=20;omega)]
   congr 2
  show(if lens.length=size then _ else _)=_
  rw[if_neg hl,st]
  show ey N size (now+1) lens (mJ k++r) (a+2)=_
  rw[Wv r hl k (now+1) N (a+2) (by omega) (by omega) (by omega),show N-k=N+1-(k+1) by omega,show now+1+k=now+(k+1) by omega,show a+2+2*k=a+2*(k+1) by omega]
theorem Ww{size:Nat}{lens:List Nat}(r:List Bool)(hl:lens.length≠size):∀(k now N a:Nat),k+1<=now->now<=20->2*k<=N->ey N size now lens (mK k++r) a=ey (N-k) size (now-k) lens r (a+2*k)
 |0,now,N,a,_,_,_=>rfl
 |k+1,now,N,a,h1,pR,hN=>by
  obtain⟨N,rfl⟩:∃M,N=M+1:=⟨N-1,by omega⟩
  rw[VT]
  have st:eh now lens ([true,true]++mK k++r)= .ok (now-1,lens) 2:=by
   unfold eh
   rw[if_neg (by omega)]
   show lq ((now:Int)+1-2*((bn true:Nat):Int)) lens 2=_
   unfold lq
   rw[if_pos (by show 1<=(now:Int)+1-2*1∧(now:Int)+1-2*1<=20;omega)]
   have:((now:Int)+1-2*((bn true:Nat):Int)).toNat=now-1:=by show((now:Int)+1-2*1).toNat=_;omega
   rw[this]
  show(if lens.length=size then _ else _)=_
  rw[if_neg hl,st]
  show ey N size (now-1) lens (mK k++r) (a+2)=_
  rw[Ww r hl k (now-1) N (a+2) (by omega) (by omega) (by omega),show N-k=N+1-(k+1) by omega,show now-1-k=now-(k+1) by omega,show a+2+2*k=a+2*(k+1) by omega]
theorem Wx{size:Nat}(r:List Bool):∀(ln:List Nat) (now N a:Nat) (lens:List Nat),1<=now->now<=20->(∀x∈ln,1<=x∧x<=20)->lens.length+ln.length=size->(iw now ln).length<N->
 ey N size now lens (iw now ln++r) a= .ok (lens++ln) (a+(iw now ln).length)
 |[],now,N,a,lens,_,_,_,hl,hN=>by
  obtain⟨N,rfl⟩:∃M,N=M+1:=⟨N-1,by omega⟩
  unfold ey
  rw[if_pos (by simpa using hl),dF]
  rfl
 |n::l,now,N,a,lens,h1,pR,hx,hl,hN=>by
  have hn:=hx n (by simp)
  have e:iw now (n::l)=mJ (n-now)++(mK (now-n)++(false::iw n l)):=rfl
  simp only[cu]at hl
  have ne:lens.length≠size:=by omega
  rw[e]at hN⊢
  simp only[aM,cu,Aj,EK]at hN⊢
  rw[cE,Wv _ ne _ _ _ _ h1 (by omega) (by omega),cE,Ww _ ne _ _ _ _ (by omega) (by omega) (by omega),show now+(n-now)-(now-n)=n by omega]
  obtain⟨M,hM⟩:∃M,N-(n-now)-(now-n)=M+1:=⟨N-(n-now)-(now-n)-1,by omega⟩
  rw[hM]
  have st:eh n lens (false::iw n l++r)= .ok (n,lens++[n]) 1:=by
   unfold eh
   rw[if_neg (by omega)]
   rfl
  show(if lens.length=size then _ else _)=_
  rw[if_neg ne,st]
  show ey M size n (lens++[n]) (iw n l++r) (_+1)=_
  rw[Wx r l n M _ (lens++[n]) hn.1 hn.2 (fun x h=>hx x (lG _ h)) (by simp;omega) (by omega)]
  congr 1
  ·simp
  ·omega
theorem agB{ln:List Nat}(r:List Bool)(h0:0<ln.length)(hx:∀x∈ln,1<=x∧x<=20)(N:Nat)(hN:(eZ ln).length<N):ey N ln.length 0 [] (eZ ln++r) 0= .ok ln (eZ ln).length:=by
 obtain⟨N,rfl⟩:∃M,N=M+1:=⟨N-1,by omega⟩
 obtain⟨v,hv⟩:∃v,ln.getD 0 0=v:=⟨_,rfl⟩
 have hb:1<=v∧v<=20:=by
  rw[<-hv]
  exact hx _ (Ap h0)
 have e:eZ ln=cL v 5++iw v ln:=by unfold eZ;rw[hv]
 rw[e]at hN⊢
 rw[aM,dP]at hN⊢
 have st:eh 0 [] (cL v 5++iw v ln++r)= .ok (v,[]) 5:=by
  unfold eh
  rw[if_pos rfl,if_neg (by rw[aM,aM,dP];omega),cE,Wq (by omega:v<2^5)]
  unfold lq
  rw[if_pos (by omega)]
  rfl
 show(if([]:List Nat).length=ln.length then _ else _)=_
 rw[if_neg (by simp;omega),st]
 have dr:(cL v 5++iw v ln++r).drop 5=iw v ln++r:=by
  have:=vE (cL v 5) (iw v ln++r)
  rwa[dP,<-cE]at this
 show ey N _ v [] ((cL v 5++iw v ln++r).drop 5) (0+5)=_
 rw[dr,Wx r ln v N _ [] hb.1 hb.2 hx (by simp) (by omega)]
 simp
theorem Wy{size:Nat}(r:List Bool)(hs:0<size):∀(rows:List (List Nat)) (a:Nat) (acc:List (List Nat)),(∀l∈rows,l.length=size∧(∀x∈l,1<=x∧x<=20)∧dS (iN l)=1048576)->
 jk rows.length size (rows.flatMap eZ++r) a acc= .ok (acc++rows) (a+(rows.flatMap eZ).length)
 |[],a,acc,_=>by simp[jk]
 |l::rows,a,acc,h=>by
  obtain⟨h1,h2,h3⟩:=h l (by simp)
  have d:=agB (ln:=l) (rows.flatMap eZ++r) (by omega) h2 ((LD eZ (l::rows)++r).length+1) (by rw[LC,aM,aM];omega)
  rw[h1]at d
  rw[LC,cE]at d⊢
  show(match ey ((eZ l++(LD eZ rows++r)).length+1) size 0 [] (eZ l++(LD eZ rows++r)) 0 with
   | .short=>St.short
   | .bad e=> .bad e
   | .ok ln u=>if dS (iN ln)=1048576 then jk rows.length size ((eZ l++(LD eZ rows++r)).drop u) (a+u) (acc++[ln])else .bad 22)=_
  rw[d]
  simp only[if_pos h3]
  rw[vE,Wy r hs rows _ _ fun l' hl=>h l' (lG _ hl)]
  congr 1
  ·simp
  ·rw[aM];omega
theorem agC{ln:List Nat}(w:Wh ln){x:Nat}(hx:x<ln.length)(r:List Bool):l7 ln (mc ln x++r)=some x:=by
 refine T0 ⟨hx, ?_, ?_⟩
 ·unfold mc
  rw[aM,dP]
  omega
 ·unfold mc
  rw[Wq (w.JI hx)]
theorem Wz(ln:List Nat)(x:Nat):(mc ln x).length=ln.getD x 0:=by unfold mc;rw[dP]
theorem WA{rows:List (List Nat)}{ps:List Nat}{size:Nat}(r:List Bool)(hw:∀l∈rows,Wh l)(WB:∀p∈ps,p<rows.length)(most:Int):∀(l:List Nat) (N a:Nat) (out:List Int),l≠[]->(∀x∈l,∀t∈rows,x<t.length)->(∀i,i<l.length->(l.getD i 0+1=size↔i+1=l.length))->(∀i,i<out.length+l.length->i/50<ps.length)->(gS rows ps out.length l).length<N->
 lA N rows ps size (gS rows ps out.length l++r) most out a=if most<(out.length:Int)∨(out.length:Int)+(l.length:Int)<=most then .ok (out++iN l) (a+(gS rows ps out.length l).length)else .err 2
 |[],_,_,_,h,_,_,_,_=>absurd rfl h
 |x::l,N,a,out,_,hx,zn,Aq,hN=>by
  obtain⟨N,rfl⟩:∃M,N=M+1:=⟨N-1,by omega⟩
  simp only[cu]at Aq zn
  have pi:out.length/50<ps.length:=Aq out.length (by omega)
  have pm:=WB _ (Ap pi)
  obtain⟨ln,kY⟩:∃t,rows.getD (ps.getD (out.length/50) 0) []=t:=⟨_,rfl⟩
  have jQ:ln∈rows:=by
   rw[<-kY,aC,List.getElem?_eq_getElem pm]
   exact List.getElem_mem _
  have xl:=hx x (by simp) ln jQ
  have e:gS rows ps out.length (x::l)=mc ln x++gS rows ps (out.length+1) l:=by rw[KM,kY]
  have l1:1<=ln.getD x 0:=((hw ln jQ).at xl).1
  have tM:=zn 0 (by omega)
  simp only[List.getD_cons_zero]at tM
  rw[e]at hN⊢
  rw[aM,Wz]at hN⊢
  unfold lA
  rw[if_neg (by omega),kY,cE,agC (hw ln jQ) xl]
  show(if(out.length:Int)=most then Rs.err 2 else _)=_
  by_cases hm:(out.length:Int)=most
  ·rw[if_pos hm,if_neg (by simp only[cu];omega)]
  ·rw[if_neg hm]
   by_cases hs:x+1=size
   ·have oh:l=[]:=vL (by have:=tM.1 hs;omega)
    subst oh
    rw[if_pos hs,if_pos (by simp only[cu,iz];omega)]
    rfl
   ·rw[if_neg hs]
    have cd:l≠[]:=fun q=>by
     subst q
     exact hs (tM.2 (by simp))
    have dr:(mc ln x++(gS rows ps (out.length+1) l++r)).drop (ln.getD x 0)=gS rows ps (out.length+1) l++r:=by
     have:=vE (mc ln x) (gS rows ps (out.length+1) l++r)
     rwa[Wz]at this
    have K0:(out++[(x:Int)]).length=out.length+1:=by simp
    have ih:=WA (rows:=rows) (ps:=ps) (size:=size) r hw WB most l N (a+ln.getD x 0) (out++[(x:Int)]) cd (fun y hy=>hx y (lG _ hy)) (fun i hi=>by
     have:=zn (i+1) (by omega)
     rw[List.getD_cons_succ]at this
     omega) (by intro i hi;rw[K0]at hi;exact Aq i (by omega)) (by rw[K0];omega)
    rw[K0]at ih
    rw[dr,ih]
    by_cases c:most<(out.length:Int)∨(out.length:Int)+((x::l).length:Int)<=most
    ·rw[if_pos c,if_pos (by simp only[cu]at c;omega)]
     congr 1
     ·simp[iN]
     ·omega
    ·rw[if_neg c,if_neg (by simp only[cu]at c;omega)]
theorem agD{xs:List Int}{z:Int}(hm:jj xs z)(hl:xs.length<=1000)(r:List Bool)(most:Int)(h0:0<=most):EU z.toNat (gh xs z++r) most=if(xs.length:Int)<=most then .ok xs (gh xs z).length else .err 2:=by
 have ok:=KO hm (by omega)
 have pl:=ok.pl
 have ll:(cP xs).length=xs.length:=by unfold cP;rw[mM]
 obtain⟨O',hP⟩:=agA (t:=(rowsOf xs z).length) (ps:=ft xs z) ((rowsOf xs z).flatMap eZ++gS (rowsOf xs z) (ft xs z) 0 (cP xs)++r) ok.r2 ok.r6 ok.p0 (by rw[pl];unfold fQ;omega) ok.pm ((gh xs z++r).length+1) (by
  unfold gh
  rw[aM,aM]
  omega)
 have e:gh xs z++r=gJ (rowsOf xs z).length (ft xs z)++((rowsOf xs z).flatMap eZ++gS (rowsOf xs z) (ft xs z) 0 (cP xs)++r):=by unfold gh;simp[cE]
 unfold EU
 rw[<-e]at hP
 rw[hP]
 have hz:=hm.2.1
 have tb:=Wy (size:=z.toNat) (gS (rowsOf xs z) (ft xs z) 0 (cP xs)++r) (by omega) (rowsOf xs z) 0 [] fun l hl=>by
  unfold rowsOf at hl
  obtain⟨q,hq,rfl⟩:=List.mem_map.1 hl
  have gr:=ok.Ar q hq
  exact⟨gr.len,fun x hx=>⟨gr.lo x hx,gr.hi x hx⟩,gr.sh⟩
 have dr:(gh xs z++r).drop (gJ (rowsOf xs z).length (ft xs z)).length=(rowsOf xs z).flatMap eZ++(gS (rowsOf xs z) (ft xs z) 0 (cP xs)++r):=by rw[e,vE,cE]
 simp only[dr,tb,vK,gU]
 have dr2:(gh xs z++r).drop ((gJ (rowsOf xs z).length (ft xs z)).length+((rowsOf xs z).flatMap eZ).length)=gS (rowsOf xs z) (ft xs z) 0 (cP xs)++r:=by
  rw[<-List.drop_drop,dr,vE]
 rw[dr2]
 have cd:cP xs≠[]:=fun q=>by
  have h1:=congrArg List.length q
  rw[ll,iz]at h1
  have:=hm.1
  omega
 have gd:∀i,i<xs.length->((cP xs).getD i 0:Int)=xs.getD i 0:=fun i hi=>by
  have:=pU (ln:=cP xs) (i:=i)
  rw[ok.ie]at this
  exact this.symm
 have sb:=WA (rows:=rowsOf xs z) (ps:=ft xs z) (size:=z.toNat) r ok.wh ok.pm most (cP xs) ((gh xs z++r).length+1) ((gJ (rowsOf xs z).length (ft xs z)).length+((rowsOf xs z).flatMap eZ).length) [] cd ok.sy (fun i hi=>by
  rw[ll]at hi⊢
  have h1:=hm.2.2.2 i hi
  have h2:=gd i hi
  omega) (fun i hi=>ok.at_ i (by simpa using hi)) (by
  unfold gh
  simp only[aM,iz]
  omega)
 rw[show([]:List Int).length=0 from rfl]at sb
 rw[sb,ok.ie,ll]
 have al:(gh xs z).length=(gJ (rowsOf xs z).length (ft xs z)).length+((rowsOf xs z).flatMap eZ).length+(gS (rowsOf xs z) (ft xs z) 0 (cP xs)).length:=by unfold gh;simp only[aM];omega
 by_cases c:(xs.length:Int)<=most
 ·rw[if_pos c,if_pos (by omega),al]
  rfl
 ·rw[if_neg c,if_neg (by omega)]
theorem K1:∀(k:Nat) (l:List Bool) (ws:List Nat),l.length=8*k->(gH (ws,[]) l).1=ws++oU l∧jS (bS (oU l))=l
 |0,l,ws,h=>by
  have:l=[]:=vL (by omega)
  subst this
  exact⟨by simp[gH,oU],rfl⟩
 |k+1,l,ws,h=>by
  obtain⟨a,b,rfl,ha⟩:∃a b,l=a++b∧a.length=8:=⟨l.take 8,l.drop 8,(jm 8 l).symm,by rw[dW];omega⟩
  have hb:b.length=8*k:=by rw[aM]at h;omega
  have p1:∀ws,gH (ws,[]) (a++b)=gH (ws++[num a 0],[]) b:=fun ws=>by rw[zy,ac6 ws a ha]
  have q1:=(K1 k b (ws++[num a 0]) hb).1
  have q2:=K1 k b ([]++[num a 0]) hb
  have e:oU (a++b)=num a 0::oU b:=by
   unfold oU
   rw[p1,q2.1]
   rfl
  refine⟨by rw[p1,q1,e,cE];rfl, ?_⟩
  rw[e]
  show jS (nM (num a 0)::bS (oU b))=_
  show cL (nM (num a 0)).toNat 8++jS (bS (oU b))=_
  rw[q2.2]
  have lt:=oK a
  rw[ha]at lt
  have:(nM (num a 0)).toNat=num a 0:=by
   rw[UInt8.toNat_ofNat']
   exact Nat.mod_eq_of_lt lt
  rw[this]
  have:=adb (l:=a) rfl
  rw[ha]at this
  rw[<-this]
theorem agE(l:List Bool):∃k,(oT l).length=8*k:=⟨(l.length+rj l.length)/8,by
 unfold oT rj
 rw[aM,mS]
 omega⟩
theorem agF(l:List Bool):jS (bS (oU (oT l)))=oT l:=by
 obtain⟨k,hk⟩:=agE l
 exact(K1 k (oT l) [] hk).2
theorem agG{xs:List Int}{z:Int}(hm:jj xs z)(hl:xs.length<=1000):(gh xs z).length<=400000:=by
 have ok:=KO hm (by omega)
 have r6:=ok.r6
 have hz:=hm.2.1
 have ll:(cP xs).length=xs.length:=by unfold cP;rw[mM]
 have p6:(gJ (rowsOf xs z).length (ft xs z)).length<=300:=by
  rw[V0]
  have:=KJ (l:=dJ en (ft xs z)) (EM _ _ Am fun p hp=>by have:=ok.pm p hp;omega)
  rw[Al,ok.pl]at this
  unfold fQ at this
  omega
 have fl:=KP (rows:=rowsOf xs z) fun r hr=>by
  unfold rowsOf at hr
  obtain⟨q,hq,rfl⟩:=List.mem_map.1 hr
  have gr:=ok.Ar q hq
  exact V9 gr.hi (by rw[gr.len];omega) (by rw[gr.len];omega)
 have sm:=Wf (rows:=rowsOf xs z) (ps:=ft xs z) (fun r hr y hy=>by
  unfold rowsOf at hr
  obtain⟨q,hq,rfl⟩:=List.mem_map.1 hr
  exact(ok.Ar q hq).hi y hy) (cP xs) 0
 unfold gh
 rw[aM,aM]
 omega
section
variable {lf d n:Nat} {h:H}
end
end Go.Proofs.YtdagfcflbphoiaaGreatDoor
namespace Go.Proofs.YtdagfcflbphoiaaGreatDoor
open Go.RowKit Ev Cn
section
variable {lf d n:Nat} {h:H}
end
theorem agH:jx ai 8 9=some [9]:=by kernel_rfl
theorem agI:oG ai 9=false:=by kernel_rfl
set_option maxRecDepth 20000 in
theorem agJ{h:H}{n:Nat}{v:Value}(x:nA ai h n 9 v):∃s:List UInt8,v= .string ⟨s.toArray⟩∧s.length<=9223372036854775807:=acT (f:=7) Tryz.underlying9 (Jw agH agI x)
end Go.Proofs.YtdagfcflbphoiaaGreatDoor
namespace Go.Proofs.YtdagfcflbphoiaaGreatDoor
open Go.RowKit Ev Tb Cn
section
variable {lf d n:Nat} {h:H}
set_option maxHeartbeats 1000000 in
theorem agK(g0:Gd h n){v:Value}{xs:List Int}(hR:Row h n 3 .i64 v xs)(hxl:xs.length<=9223372036854775807)(size:Int)(T:List UInt8)(hT:T.length<=9223372036854775807)(aw:3000000<=lf)(hd:600<=d):
 ah (fun _=>False) n (aq ai gt lf (d+12) 5 #[v,.int .i64 size,.string ⟨T.toArray⟩]) h n fun v' _ _=>v'= .bool true:=by
 rw[aD (fun _=>abc) rfl]
 refine ah.aB ?_
 unfold Pc
 have bL:=hR
 obtain⟨a,c,rfl⟩:=hR.len
 by_cases hl:xs.length<=700
 rotate_left
 ·have c1:(700:Int)<(xs.length:Int):=by omega
  try simp(disch:=first|omega|assumption|exact aa _) only[ag,ae,RZ,c1]
  exact EC (by omega) g0
 have c1:¬((700:Int)<(xs.length:Int)):=by omega
 by_cases ht:T.length<=100
 rotate_left
 ·have c2:(100:Int)<(T.length:Int):=by omega
  try simp(disch:=first|omega|assumption|exact aa _) only[ag,ae,RZ,c1,c2]
  exact EC (by omega) g0
 have c2:¬((100:Int)<(T.length:Int)):=by omega
 try simp(disch:=first|omega|assumption|exact aa _) only[ag,ae,RZ,c1,c2]
 refine aI aF (ago (lf:=lf) (d:=d+9) aw _ xs size bL (by omega)) (by omega) (fun _ _ h=>h.elim) fun v7 h7 n7 hn7 fr7 hq7=> ?_
 obtain⟨⟨rfl,hm⟩|⟨rfl,hm⟩,rfl,rfl⟩:=hq7
 rotate_left
 ·try simp(disch:=first|omega|assumption|exact aa _) only[ag,ae,RZ,Bool.not_false]
  exact EC (by omega) g0
 try simp(disch:=first|omega|assumption|exact aa _) only[ag,ae,RZ,gu]
 refine aI aF (afY (lf:=lf) (d:=d+10)) (by omega) (fun _ _ h=>h.elim) fun v3 h3 n3 fp dA gQ=> ?_
 obtain⟨rfl,rfl,x3⟩:=gQ
 have An:=bL.ax fp fun b hb=>dA b hb id
 have gd3:=g0.ax fp fun b hb=>dA b hb id
 refine aI aF (agv (lf:=lf) (d:=d+3) aw gd3 x3 (by have:=g0.2;omega) An (by omega) (by simp) size (by omega)) (by omega) (fun b _ hb=> .inl (by rcases hb with rfl|hb;omega;exact hb.not_nil.elim)) fun v5 h5 n5 zH vA Ah=> ?_
 have a5:∀b,b<n7->h5.get b=h7.get b:=fun b hb=>(vA b (by omega) fun q=>by
  rcases q with q|q
  ·omega
  ·exact q.not_nil).trans (dA b hb id)
 rcases Ah with ⟨_,rfl,s5,x5,EP⟩|⟨dM,_⟩
 rotate_left
 ·exact absurd hm dM
 rw[vK]at x5
 refine bV (afX (lf:=lf) (d:=d+10) x5) (by omega) (fun _ _ h=>h.elim) ?_
 have al:=agG hm (by omega)
 have WC:∀b,ar s5 b->n7<=b:=fun b hb=>((ew.own x5).lt hb).1
 refine aI aF (afW (lf:=lf) (d:=d+9) x5 (by omega) (by omega)) (by omega) (fun b _ hb=> .inl (by rcases hb with rfl|hb;omega;have:=WC b hb;omega)) fun v9 h9 n9 hn9 fr9 hq9=> ?_
 obtain⟨rfl,s9,x9,hc9⟩:=hq9
 have a9:∀b,b<n7->h9.get b=h7.get b:=fun b hb=>(fr9 b (by omega) fun q=>by
  rcases q with q|q
  ·omega
  ·have:=WC b q;omega).trans (a5 b hb)
 refine aI aF (afZ (lf:=lf) (d:=d+10) x9) (by omega) (fun b _ hb=> .inl (by omega)) fun v10 nJ xJ aiW agL agM=> ?_
 obtain⟨rfl,rfl⟩:=agM
 have K2:∀b,b<n7->nJ.get b=h7.get b:=fun b hb=>(agL b (by omega) (by omega)).trans (a9 b hb)
 have aiX:=bL.ax (n':=xJ) (by omega) K2
 have aiY:=g0.ax (n':=xJ) (by omega) K2
 obtain⟨B,hB⟩:∃B,bS (oU (oT (gh xs size)))=B:=⟨_,rfl⟩
 have WD:jS B=oT (gh xs size):=by rw[<-hB];exact agF _
 have pl8:(oT (gh xs size)).length<=(gh xs size).length+7:=by
  unfold oT rj
  rw[aM,mS]
  omega
 have bl:8*B.length=(oT (gh xs size)).length:=by rw[<-WD,JM]
 rw[hB]
 have ad:=fun(k:Value->M Value)=>Hl (k:=k) B T (by omega)
 try simp(disch:=first|omega|assumption|exact aa _) only[ag,ae,RZ,ad]
 refine aI aF (adn (lf:=lf) (d:=d+10) (S:=B++T) (by rw[aM];omega)) (by omega) (fun _ _ h=>h.elim) fun v11 mH n11 aiZ agN agO=> ?_
 obtain⟨rfl,rfl,x11⟩:=agO
 have WE:∀b,b<n7->mH.get b=h7.get b:=fun b hb=>(agN b (by omega) id).trans (K2 b hb)
 have ai0:=bL.ax (n':=xJ+1) (by omega) WE
 have hz:=hm.2.1
 have hm1:=hm.1
 obtain⟨bs,dH⟩:∃bs,bR (B++T) 0 0=bs:=⟨_,rfl⟩
 have ebs:bs=gh xs size++(cq (rj (gh xs size).length) false++jS T):=by
  rw[<-dH]
  show(jS (B++T)).drop 0=_
  rw[List.drop_zero,adi,WD,<-cE]
  rfl
 have WG:bs.length<=1000000:=by
  rw[<-dH,Ua,aM]
  omega
 have zt:((size.toNat:Nat):Int)=size:=Int.toNat_of_nonneg (by omega)
 have rd:∀most:Int,0<=most->eo (bs.length+1) (lu size.toNat) bs most [] 0=if(xs.length:Int)<=most then .ok xs (gh xs size).length else .err 2:=fun most h0=>(agx (size:=size.toNat) (by omega) (by omega) most bs).trans (by rw[ebs];exact agD hm (by omega) _ most h0)
 have WH:=Vc (lf:=lf) (d:=d) x11 (size:=size.toNat) (by omega) (by omega) (xs.length:Int) (by omega) (by rw[dH];exact WG) aw
 rw[zt,dH,rd _ (by omega),if_pos (Int.le_refl _)]at WH
 try simp(disch:=first|omega|assumption|exact aa _) only[ag,ae,RZ]
 refine aI aF WH (by omega) (fun b _ hb=> .inl (by omega)) fun v12 cV xK ai1 agP agQ=> ?_
 obtain⟨gv,rfl,og,x12⟩:=agQ
 have K3:∀b,b<n7->cV.get b=h7.get b:=fun b hb=>(agP b (by omega) (by omega)).trans (WE b hb)
 have agR:=bL.ax (n':=xK) (by omega) K3
 have ai2:=g0.ax (n':=xK) (by omega) K3
 have z0:((0:Int) !=0)=false:=rfl
 try simp(disch:=first|omega|assumption|exact aa _) only[ag,ae,RZ,cw,ext1,z0]
 refine bV (acQ lf (d+10) _ _ _ gv xs xs agR og.row (by omega) aw) (by omega) (fun _ _ h=>h.elim) ?_
 have z1:(((gh xs size).length:Int) !=((gh xs size).length:Int))=false:=by simp
 try simp(disch:=first|omega|assumption|exact aa _) only[ag,ae,RZ,decide_true,gu]
 refine bV (xu (lf:=lf) (d:=d+10) x12) (by omega) (fun _ _ h=>h.elim) ?_
 try simp(disch:=first|omega|assumption|exact aa _) only[ag,ae,RZ,z1]
 have sk:=zD (lf:=lf) (d:=d+9) x12 0 (by omega) (by omega)
 rw[show((0:Nat):Int)=0 from rfl]at sk
 have sk2:ah (fun c=>c=xJ) xK (aq ai gt lf (d+11) 21 #[.pointer (some ⟨xJ,0,none⟩),ii 0]) cV xK (fun v h' n'=>v= .int .i64 0∧n'=xK∧bP h' xK xJ (B++T) 0 0):=sk
 refine aI aF sk2 (by omega) (fun b _ hb=> .inl (by omega)) fun v13 U3 n13 ai3 agS agT=> ?_
 obtain⟨rfl,rfl,x13⟩:=agT
 have a13:∀b,b<n7->U3.get b=h7.get b:=fun b hb=>(agS b (by omega) (by omega)).trans (K3 b hb)
 have w1:IntKind.i64.wrap ((xs.length:Int)-1)=((xs.length-1:Nat):Int):=by rw[aV (by omega) (by omega)];omega
 have Em:=Vc (lf:=lf) (d:=d) x13 (size:=size.toNat) (by omega) (by omega) ((xs.length-1:Nat):Int) (by omega) (by rw[dH];exact WG) aw
 rw[zt,dH,rd _ (by omega),if_neg (by omega),show((xs.length-1:Nat):Int)=(xs.length:Int)-1 by omega]at Em
 try simp(disch:=first|omega|assumption|exact aa _) only[ag,ae,RZ]
 refine aI aF Em (by omega) (fun b _ hb=> .inl (by omega)) fun v14 h14 n14 ai4 agU agV=> ?_
 obtain⟨rfl,Ji⟩:=agV
 have agW:=g0.ax (n':=n14) (by omega) fun b hb=>(agU b (by omega) (by omega)).trans (a13 b hb)
 have z3:((2:Int)==2)=true:=rfl
 have z4:(((0:Nat):Int)==0)=true:=rfl
 try simp(disch:=first|omega|assumption|exact aa _) only[ag,ae,RZ,cw,ext1,z3]
 refine bV (xu (lf:=lf) (d:=d+10) Ji) (by omega) (fun _ _ h=>h.elim) ?_
 try simp(disch:=first|omega|assumption|exact aa _) only[ag,ae,RZ,z4]
 exact EC (by omega) agW
end
theorem agX{w:World}(hw:Ev.qA w){vs:List Value}(ha:ef (qR ai w) [22,3,9] vs):Calls ai 5 vs.toArray w fun e w'=>e= .returned (.bool true)∧Below w.heap.size w w':=
 afJ (lf:=3000000) (d:=712) hw ha fun n h fj g q=>by
  obtain⟨a,b,c,rfl,h1,h2,h3⟩:=Ev.acU q
  obtain⟨xs,hR,hl,_⟩:=afN h1
  obtain⟨z,rfl,hz⟩:=afO h2
  obtain⟨s,rfl,hs⟩:=agJ h3
  exact agK (lf:=3000000) (d:=700) g hR hl z s hs (by decide) (by decide)
end Go.Proofs.YtdagfcflbphoiaaGreatDoor
