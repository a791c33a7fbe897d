import Derived.Test.YtdagfcflbphoiaaGreatDoorMah
import Derived.Test.YtdagfcflbphoiaaGreatDoorMag
open Int renaming natCast_nonneg→aa, lt_irrefl→bH, reduceBEq→cd, reduceBNe→cj, reduceLT→cr, reduceLE→ct, reduceEq→cz, reduceNe→cA, reduceAdd→cB, reduceSub→cC, reduceMul→cD, reduceNeg→cE, toNat_natCast→mG
open Nat renaming reduceLT→ae, reduceAdd→ah, le_refl→av, le_succ→cX, zero_le→dx, lt_succ_self→fp, zero_add→iO, add_zero→mH, sub_self→nE, lt_of_lt_of_le→qJ, pow_le_pow_right→sw, min_eq_left→xM, lt_irrefl→zS, max_eq_left→am0
open Go.Proofs.Tryz renaming prog→ai, underlying3→amS
open List renaming getD_eq_getElem?_getD→aF, getElem?_eq_getElem→aM, length_append→aY, replicate→bI, range→bL, append_assoc→cI, length_take→cJ, getElem_mem→cN, append_nil→dr, length_map→dE, length_cons→dI, drop_zero→eJ, map_append→eK, take_of_length_le→hH, take_succ_eq_append_getElem→jI, length_replicate→jJ, getElem?_map→j4, take_length→j7, mem_of_mem_take→nC, drop_length→oL, getElem_map→oM, getElem?_append_left→pO, range_succ→pQ, nil_append→uD, length_singleton→Cl, replicate_succ→Hx, map→Ox, flatten_cons→amZ, take_append_getElem→am1
open Go.Value renaming string→ef, slice→jH, pointer→zO
open Bool renaming not_true→gM, not_false→iP, and_self→zN
open Option renaming getD_some→zH
open Go.IntKind renaming bits→Hn, u32→amY
set_option linter.unusedVariables false
set_option linter.unusedSimpArgs false
namespace Go.Proofs.YtdagfcflbphoiaaGreatDoor
open Go.RowKit Ev Tb
noncomputable def bA (xs:List Int) (s:Nat):Nat->List (List Int)
 |0=>lK (cU xs s) (xs.length:Int)
 |k+1=>qG (iG xs) (bA xs s k) s
theorem zn(xs:List Int)(s:Nat):∀k,(bA xs s k).length=j1 (xs.length:Int)
 |0=>MW _ _
 |k+1=>(ajS _ _ _).trans (zn xs s k)
theorem GS{xs:List Int}{s:Nat}(hl:xs.length<=1000000)(bP:dM s xs=true):GoodG s (iG xs):=by
 refine⟨fun g hg=> ?_,by rw[MS];unfold cW;omega⟩
 obtain⟨a,_,b⟩:=aiO hg
 exact⟨b,xo.2 fun x hx=>xo.1 bP x (a x hx)⟩
theorem ZW{xs:List Int}{s:Nat}(hl:xs.length<=1000000)(bP:dM s xs=true)(h3:3<=s)(fC:s<=258):∀k,GoodT s (bA xs s k)
 |0=>fun t ht=>by
  unfold bA lK at ht
  obtain⟨p,_,rfl⟩:=List.mem_map.1 ht
  exact⟨by rw[zd,jc],fun y hy=>by have:=aiR hy;omega⟩
 |k+1=>ajR (GS hl bP) h3 fC
section
variable (lf d n:Nat) (h:H) (aA:3000000<=lf)
include aA
theorem ajZ(v:Value)(xs:List Int)(s:Nat)(g:Gd h n)(hR:Row h n 3 .i64 v xs)(h0:0<xs.length)(hl:xs.length<=1000000)(h3:3<=s)(fC:s<=258)(bP:dM s xs=true)(hd:600<=d):
 aj (fun _=>False) n (au ai gt lf d 65 #[v,.int .i64 (s:Int)]) h n fun v' h' n'=>∃x y,v'= .tuple #[.agg #[x,y],.int .i64 0]∧RR h' n' 22 3 x (bA xs s 4)∧Row h' n' 3 .i64 y (eH (iG xs) (bA xs s 3)):=by
 obtain⟨d,rfl⟩:∃e,d=e+8:=⟨d-8,by omega⟩
 rw[aQ (fun _=>Kw) rfl]
 refine aj.aP ?_
 unfold AW
 have bg:=hR
 obtain⟨a,c,rfl⟩:=hR.len
 refine kU qk _ ?_
 obtain⟨ha,lM⟩:∃ha,h.set n (some ⟨67,true,[.slice none 0 0,.slice none 0 0]⟩)=ha:=⟨_,rfl⟩
 have ka:∀b,b<n->ha.get b=h.get b:=fun b hb=>by rw[<-lM];exact aK _ _ (by omega)
 have ga:ha.get n=some ⟨67,true,[.slice none 0 0,.slice none 0 0]⟩:=by rw[<-lM,get_eq]
 rw[lM]
 refine bh aW (M5 lf (d+6) (n+1) ha aA _ xs (bg.aB (cX n) ka) hl s h3 fC) (cX n) (fun _ _ h=>h.elim) fun v1 h1 n1 bQ cM hq=> ?_
 rcases hq with ⟨_,u,rfl,hu⟩|⟨oW,_⟩
 rotate_left
 ·rw[bP]at oW;cases oW
 have k1:∀b,b<n->h1.get b=h.get b:=fun b hb=>(cM b (by omega) id).trans (ka b hb)
 have dH:=bg.aB (show n<=n1 by omega) k1
 have z0:(((xs.length:Nat):Int)==0)=false:=beq_eq_false_iff_ne.2 (by omega)
 have z1:((0:Int) !=0)=false:=rfl
 try simp(disch:=first|omega|assumption|exact aa _) only[ah,ae,RZ,fk,ext1,z0,z1]
 refine bV (Gw lf (d+6) n1 h1 xs.length (by omega)) (by omega) (fun _ _ h=>h.elim) ?_
 have z2:¬((32767:Int)<(cW xs.length:Int)):=by unfold cW;omega
 try simp(disch:=first|omega|assumption|exact aa _) only[ah,ae,RZ,z2]
 refine bh aW (ajd lf (d+3) n1 h1 aA _ xs dH hl) (by omega) (fun _ _ h=>h.elim) fun vg h2 n2 ey eR dy=> ?_
 have k2:∀b,b<n->h2.get b=h.get b:=fun b hb=>(eR b (by omega) id).trans (k1 b hb)
 have q6:=hu.aB ey fun b hb=>eR b hb id
 have cm:∀x∈cU xs s,0<=x∧x<=1099511627776:=fun x hx=>by have:=Gu hx;omega
 try simp(disch:=first|omega|assumption|exact aa _) only[ah,ae,RZ]
 refine bh aW (ajn lf (d+5) n2 h2 aA u (cU xs s) (xs.length:Int) (g.aB (by omega) k2) q6 (by rw[jc];exact fC) cm (by omega) (by omega)) (by omega) (fun _ _ h=>h.elim) fun vf kX n3 fy dU hf=> ?_
 have yY:=dy.aB fy fun b hb=>dU b hb id
 have vB:=hf
 obtain⟨af,cf,rfl⟩:=hf.len
 try simp(disch:=first|omega|assumption|exact aa _) only[ah,ae,RZ]
 refine kU qk _ ?_
 refine qj (cs:=[.slice none 0 0,.slice none 0 0]) trivial (vs:=[.slice af (lK (cU xs s) (xs.length:Int)).length cf,.slice none 0 0]) rfl rfl rfl (get_eq _ _ _) (fp n3) (av _) (.inl (by omega)) _ fun h4 B7 k4=> ?_
 have GU:∀b,b<n3->h4.get b=kX.get b:=fun b hb=>by rw[k4 b (by omega),aK _ _ (by omega)]
 have rQ:=GS hl bP
 have ht:=ZW hl bP h3 fC
 have yf:=zn xs s
 have GV:=BM (xs.length:Int)
 have Nw:h4.get n=some ⟨67,true,[.slice none 0 0,.slice none 0 0]⟩:=by rw[GU n (by omega),dU n (by omega) id,eR n (by omega) id,cM n (by omega) id];exact ga
 have anC:=yY.aB (cX n3) GU
 have Ny:=vB.aB (cX n3) GU
 refine ed 4 (fun fu i (_:Unit)=>we lf (au ai gt lf (d+7)) fu (EL lf (au ai gt lf (d+7))) (.slice a xs.length c) (.int .i64 (s:Nat)) (.pointer (some ⟨n,0,none⟩)) (.int .i64 0) u (.int .i64 0) vg (.pointer (some ⟨n3,0,none⟩)) (.bool false) (.bool false) (.int .i64 (i:Nat)))
  (fun i _ h' n'=>n3<n'∧(∀b,b<n3->h'.get b=h4.get b)∧∃x y,h'.get n3=some ⟨67,true,[x,y]⟩∧RR h' n' 22 3 x (bA xs s i)∧one y=true∧(0<i->Row h' n' 3 .i64 y (eH (iG xs) (bA xs s (i-1))))) ?_ ?_ lf 0 () _ _ (dx _) (by omega) ⟨fp n3,fun _ _=>rfl,_,_,B7,Ny,rfl,fun q=>absurd q (zS 0)⟩
 ·rintro fu _ h' n' ⟨gX,eu,x,y,fj,hx,mC,hy⟩
  have z4:¬(((4:Nat):Int)<4):=by omega
  rw[we]
  try simp(disch:=first|omega|assumption|exact aa _) only[ah,ae,RZ,z4]
  (try unfold EL);(try dsimp only)
  refine Bu trivial trivial _ _ _ fj gX (by simp) ?_
  have zo:h'.get n=some ⟨67,true,[.slice none 0 0,.slice none 0 0]⟩:=by rw[eu n (by omega)];exact Nw
  have dS:=hy (by omega)
  have fU:one x=true:=by obtain⟨_,_,rfl⟩:=hx.len;rfl
  refine qj trivial (vs:=[x,y]) rfl rfl (by simp[fU,mC]) zo (by omega) (av _) (.inl (av _)) _ fun h5 nz k5=> ?_
  refine Bv trivial trivial _ _ _ nz (by omega) (by simp) ?_
  have e5:∀b,(∀B,h'.get b=some B->B.elem≠67)->h5.get b=h'.get b:=fun b hb=>k5 b fun e=>by subst e;exact hb _ zo rfl
  try simp(disch:=first|omega|assumption|exact aa _) only[ah,ae,RZ]
  refine⟨x,y,rfl, ?_,dS.fI (av _) fun b hb=>e5 b fun B hB e=>by
   obtain⟨B',q1,q2⟩:=dS.elem hb
   rw[hB]at q1;cases q1
   exact absurd (show(3:Nat)=67 from q2.symm.trans e) (by decide)⟩
  obtain⟨cs,r1,r2,r3⟩:=hx
  have vel:∀b,aD x b->∃B,h'.get b=some B∧B.elem=22:=fun b hb=>by
   rcases r1 with ⟨a,c,rfl,bE,_⟩|⟨b',off,cap,o,ks,rfl,hg,_⟩
   ·obtain⟨o,l,k,q⟩:=hb
    cases q
    exact absurd rfl (bE b o)
   ·rw[hb.inj];exact⟨_,hg,rfl⟩
  refine⟨cs,r1.aB (av _) fun b hb=>e5 b fun B hB e=> ?_,r2,fun i hi=>(r3 i hi).fI (av _) fun b hb=>e5 b fun B hB e=> ?_⟩
  ·obtain⟨B',q1,q2⟩:=vel b hb
   rw[hB]at q1;cases q1
   exact absurd (show(22:Nat)=67 from q2.symm.trans e) (by decide)
  ·obtain⟨B',q1,q2⟩:=(r3 i hi).elem hb
   rw[hB]at q1;cases q1
   exact absurd (show(3:Nat)=67 from q2.symm.trans e) (by decide)
 ·rintro fu i _ h' n' hi ⟨gX,eu,x,y,fj,hx,mC,hy⟩ next
  have e1:((i:Nat):Int)<4:=by omega
  have fU:one x=true:=by obtain⟨_,_,rfl⟩:=hx.len;rfl
  rw[we]
  try simp(disch:=first|omega|assumption|exact aa _) only[ah,ae,RZ,e1,fj]
  refine bh aW (ajT lf (d+7) n' h' aA vg x (iG xs) (bA xs s i) s (yY.aB (by omega) fun b hb=>by rw[eu b hb];exact GU b hb) hx rQ (ht i) (by rw[yf];omega) (by rw[yf];omega) h3 fC (by omega)) (by omega) (fun _ _ h=>h.elim) fun v5 h5 n5 ud uo uq=> ?_
  obtain⟨px,ty,rfl,ZX,ZY⟩:=uq
  have nz:=(uo n3 gX id).trans fj
  have ZZ:=ZX
  have aj0:=ZY
  obtain⟨a6,c6,rfl⟩:=ZX.len
  obtain⟨a7,c7,rfl⟩:=ZY.len
  try simp(disch:=first|omega|assumption|exact aa _) only[ah,ae,RZ,fk,ext1]
  refine qj trivial (vs:=[.slice a7 (qG (iG xs) (bA xs s i) s).length c7,.slice a6 (eH (iG xs) (bA xs s i)).length c6]) rfl rfl rfl nz (by omega) (av _) (.inl (by omega)) _ fun h6 GW k6=> ?_
  have e6:∀b,(∀B,h5.get b=some B->B.elem≠67)->h6.get b=h5.get b:=fun b hb=>k6 b fun e=>by subst e;exact hb _ nz rfl
  try simp(disch:=first|omega|assumption|exact aa _) only[ah,ae,RZ]
  refine next () h6 n5 ⟨by omega,fun b hb=>by rw[k6 b (by omega),uo b (by omega) id];exact eu b hb,_,_,GW, ?_,rfl,fun _=> ?_⟩
  ·obtain⟨cs,r1,r2,r3⟩:=aj0
   refine⟨cs,r1.aB (av _) fun b hb=>e6 b fun B hB e=> ?_,r2,fun i hi=>(r3 i hi).fI (av _) fun b hb=>e6 b fun B hB e=> ?_⟩
   ·rcases r1 with ⟨a,c,q,bE,_⟩|⟨b',off,cap,o,ks,q,hg,_⟩
    ·obtain⟨o,l,k,q2⟩:=hb
     rw[q2]at q
     cases q
     exact absurd rfl (bE b o)
    ·rw[q]at hb
     rw[hb.inj,hg]at hB
     cases hB
     exact absurd (show(22:Nat)=67 from e) (by decide)
   ·obtain⟨B',q1,q2⟩:=(r3 i hi).elem hb
    rw[hB]at q1;cases q1
    exact absurd (show(3:Nat)=67 from q2.symm.trans e) (by decide)
  ·exact ZZ.fI (av _) fun b hb=>e6 b fun B hB e=>by
    obtain⟨B',q1,q2⟩:=ZZ.elem hb
    rw[hB]at q1;cases q1
    exact absurd (show(3:Nat)=67 from q2.symm.trans e) (by decide)
theorem aj1(v:Value)(xs:List Int)(z:Int)(hR:Row h n 3 .i64 v xs)(hl:xs.length<=1000000)(qY:z<3∨258<z∨xs=[]∨dM z xs=false)(hd:600<=d):
 aj (fun _=>False) n (au ai gt lf d 65 #[v,.int .i64 z]) h n fun v' h' n'=>v'= .tuple #[.agg #[.slice none 0 0,.slice none 0 0],.int .i64 1]:=by
 obtain⟨d,rfl⟩:∃e,d=e+8:=⟨d-8,by omega⟩
 rw[aQ (fun _=>Kw) rfl]
 refine aj.aP ?_
 unfold AW
 have bg:=hR
 obtain⟨a,c,rfl⟩:=hR.len
 refine kU qk _ ?_
 obtain⟨ha,lM⟩:∃ha,h.set n (some ⟨67,true,[.slice none 0 0,.slice none 0 0]⟩)=ha:=⟨_,rfl⟩
 have ka:∀b,b<n->ha.get b=h.get b:=fun b hb=>by rw[<-lM];exact aK _ _ (by omega)
 have ga:ha.get n=some ⟨67,true,[.slice none 0 0,.slice none 0 0]⟩:=by rw[<-lM,get_eq]
 rw[lM]
 have fin:∀(h1:H) (n1:Nat) (k:Value->M Value),n<n1->h1.get n=some ⟨67,true,[.slice none 0 0,.slice none 0 0]⟩->(∀q,k q=ak [q,.int .i64 1])->aj (fun _=>False) n (fb 2 (.pointer (some ⟨n,0,none⟩)) (.agg #[.slice none 0 0,.slice none 0 0]) fun _=>fa 2 (.pointer (some ⟨n,0,none⟩)) k) h1 n1 fun v' h' n'=>v'= .tuple #[.agg #[.slice none 0 0,.slice none 0 0],.int .i64 1]:=by
  intro h1 n1 k hn hg hk
  refine qj trivial (vs:=[.slice none 0 0,.slice none 0 0]) rfl rfl rfl hg hn (av _) (.inl (av _)) _ fun h5 nz k5=> ?_
  refine Bv trivial trivial _ _ _ nz (by omega) (by simp) ?_
  rw[hk,yw]
  rfl
 have z1:((1:Int) !=0)=true:=rfl
 have z2:((0:Int) !=0)=false:=rfl
 by_cases c1:z<3∨258<z
 ·refine bV (aiW lf (d+6) (n+1) ha _ z c1) (cX n) (fun _ _ h=>h.elim) ?_
  try simp(disch:=first|omega|assumption|exact aa _) only[ah,ae,RZ,fk,ext1,z1]
  exact fin _ _ _ (fp n) ga fun _=>rfl
 ·obtain⟨s,rfl⟩:∃s:Nat,z=(s:Int):=⟨z.toNat,by omega⟩
  refine bh aW (M5 lf (d+6) (n+1) ha aA _ xs (bg.aB (cX n) ka) hl s (by omega) (by omega)) (cX n) (fun _ _ h=>h.elim) fun v1 h1 n1 bQ cM hq=> ?_
  have Z0:=(cM n (fp n) id).trans ga
  rcases hq with ⟨bP,u,rfl,hu⟩|⟨oW,rfl⟩
  ·have hx:xs=[]:=by
    rcases qY with q|q|q|q
    ·omega
    ·omega
    ·exact q
    ·rw[bP]at q;cases q
   subst hx
   have z0:((([]:List Int).length:Int)==0)=true:=rfl
   try simp(disch:=first|omega|assumption|exact aa _) only[ah,ae,RZ,fk,ext1,z2,z0]
   exact fin _ _ _ (by omega) Z0 fun _=>rfl
  ·try simp(disch:=first|omega|assumption|exact aa _) only[ah,ae,RZ,fk,ext1,z1]
   exact fin _ _ _ (by omega) Z0 fun _=>rfl
end
def GX(z q:Int):Int:=if z-1<q then z-1 else q
theorem aj2{xs:List Int}{z:Int}{p i:Nat}(hi:i<xs.length):aJ .i64 ((lg xs z p).take (i+1))=aJ .i64 ((lg xs z p).take i)++[.int .i64 (if fB xs z i=p then 0 else 15)]:=by
 rw[jI (by rw[zd];exact hi)]
 unfold aJ lg
 rw[eK]
 simp
section
variable (lf d n:Nat) (h:H) (aA:3000000<=lf)
include aA
set_option maxHeartbeats 1000000 in
theorem aj3(v:Value)(xs:List Int)(z:Int)(hR:Row h n 3 .i64 v xs)(hl:xs.length<=258)(hx:∀x∈xs,0<=x∧x<=1099511627776)(hz:1<=z)(lX:z<=1099511627776):
 aj (fun _=>False) n (au ai gt lf (d+2) 78 #[v,.int .i64 z]) h n fun v' h' n'=>RR h' n' 22 3 v' (lK xs z):=by
 rw[aQ (fun _=>afE) rfl]
 refine aj.aP ?_
 unfold KL
 have bg:=hR
 obtain⟨a,c,rfl⟩:=hR.len
 refine bV (ajb lf d n h z) (av _) (fun _ _ h=>h.elim) ?_
 have ht:=BM z
 obtain⟨t,nq⟩:∃t,j1 z=t:=⟨_,rfl⟩
 rw[nq]at ht⊢
 refine ed t (fun fu i (q:Value)=>tJ lf (au ai gt lf (d+1)) fu (yK lf (au ai gt lf (d+1))) (.slice a xs.length c) (.int .i64 z) (.slice none 0 0) (.int .i64 (t:Nat)) q (.int .i64 (t:Nat)) (.int .i64 (i:Nat)))
  (fun i q h' n'=>n<=n'∧(∀b,b<n->h'.get b=h.get b)∧fz h' n n' n' 22 3 q ((bL i).map (lg xs z))) ?_ ?_ lf 0 _ _ _ (dx _) (by omega) ⟨av _,fun _ _=>rfl,fz.nil _ _ _ _ _ _⟩
 ·rintro fu q h' n' ⟨hn,hk,hO⟩
  rw[tJ]
  try simp(disch:=first|omega|assumption|exact aa _) only[ah,ae,RZ,bH]
  (try unfold yK);(try dsimp only)
  try simp(disch:=first|omega|assumption|exact aa _) only[ah,ae,RZ]
  have:=hO.rr
  unfold lK
  rw[nq]
  exact this
 ·rintro fu i q h1 n1 hi ⟨hn,hk,hO⟩ next
  have e1:((i:Nat):Int)<((t:Nat):Int):=by omega
  rw[tJ]
  try simp(disch:=first|omega|assumption|exact aa _) only[ah,ae,RZ,e1]
  refine ed xs.length (fun f2 j (w:Value×Int)=>tI lf (au ai gt lf (d+1)) f2 (KJ lf (au ai gt lf (d+1)) fu (yK lf (au ai gt lf (d+1)))) (.slice a xs.length c) (.int .i64 z) (.slice none 0 0) (.int .i64 (t:Nat)) q (.int .i64 (i:Nat)) w.1 (.int .i64 w.2) (.int .i64 (t:Nat)) (.int .i64 (i:Nat)) _ (.slice a xs.length c) (.int .i64 (xs.length:Nat)) (.int .i64 (j:Nat)))
   (fun j w h' n'=>n1<=n'∧(∀b,b<n1->h'.get b=h1.get b)∧Own h' n1 n' 3 w.1 (aJ .i64 ((lg xs z i).take j))∧GX z w.2=eD xs z j∧0<=w.2∧w.2<=2199023255552) ?_ ?_ lf 0 (.slice none 0 0,0) _ _ (dx _) (by omega) ⟨av _,fun _ _=>rfl,Own.nil _ _ _ _,by unfold GX eD;simp only[List.take_zero,bp],by omega,by omega⟩
  ·rintro f2 ⟨w,q2⟩ h' n' ⟨gX,eu,qH,_,_⟩
   simp only at qH
   rw[tI]
   try simp(disch:=first|omega|assumption|exact aa _) only[ah,ae,RZ,bH]
   (try unfold KJ);(try unfold ET);(try dsimp only)
   rw[hH (by rw[zd];exact av _)]at qH
   have qA:=(hO.aB gX fun b hb _=>eu b hb).up gX
   refine Bw trivial (by decide) qA qH.row (av _) (by simp;omega) (av _) (by omega) _ fun v2 h2 o2 k2 _=> ?_
   try simp(disch:=first|omega|assumption|exact aa _) only[ah,ae,RZ]
   refine next v2 h2 (n'+2) ⟨by omega,fun b hb=> ?_, ?_⟩
   ·rw[k2 b (by omega) fun q=>by have:=(qA.lt q).1;omega,eu b (by omega)]
    exact hk b hb
   ·rw[pQ,eK]
    exact o2.up (by omega)
  ·rintro f2 j ⟨w,q2⟩ h' n' hj ⟨gX,eu,qH,hq,hq0,nA⟩ lI
   simp only at qH hq hq0 nA
   obtain⟨b,off,cap,o,cs,hv,jb,hb,_,_,_,bk⟩:=(bg.aB (show n<=n' by omega) (fun b hb=>(eu b (by omega)).trans (hk b hb))).some (by omega)
   cases hv
   have e2:((j:Nat):Int)<((xs.length:Nat):Int):=by omega
   have c1:=bk j hj
   obtain⟨g0,g1⟩:=MV (fun x lL=>(hx x lL).1) hz (v:=j)
   have g2:=Y8 (fun x lL=>(hx x lL).1) hz j
   rw[nq]at g2
   have g4:0<=eD xs z j*(t:Int):=Int.mul_nonneg g0 (by omega)
   have g5:eD xs z j*(t:Int)<=1099511627776*6:=Int.mul_le_mul (by omega) (by omega) (by omega) (by omega)
   have w1:IntKind.i64.wrap (eD xs z j*(t:Int))=eD xs z j*(t:Int):=bB (by omega) (by omega)
   have g6:(fB xs z j:Int)<=1099511627776*6:=by
    have:=Int.ediv_le_self z g4
    have h2:(eD xs z j*(t:Int))/z=(fB xs z j:Int):=by rw[<-g2,Int.tdiv_eq_ediv_of_nonneg g4]
    omega
   have w2:IntKind.i64.wrap (fB xs z j:Int)=(fB xs z j:Int):=bB (by omega) (by omega)
   have z0:z≠0:=by omega
   have xb:=hx _ (ze hj)
   have w3:IntKind.i64.wrap (eD xs z j+xs.getD j 0)=eD xs z j+xs.getD j 0:=bB (by omega) (by omega)
   have w4:IntKind.i64.wrap (z-1)=z-1:=bB (by omega) (by omega)
   have bn:=Y7 (fun x lL=>(hx x lL).1) (n:=z) hj
   have fn:=aj2 (z:=z) (p:=i) hj
   have hlen:(aJ .i64 ((lg xs z i).take j)).length+1<=1099511627776:=by rw[cT,cJ,zd];omega
   have iB:(aJ .i64 ((lg xs z i).take j)).length=j:=by rw[cT,cJ,zd];omega
   have fin:∀h2,h2.get (n'+1)=some ⟨3,true,aJ .i64 ((lg xs z i).take j)++[.int .i64 (if fB xs z j=i then 0 else 15)]⟩->(∀b,b<n'->¬aD w b->h2.get b=h'.get b)->
    aj (fun _=>False) n (tI lf (au ai gt lf (d+1)) f2 (KJ lf (au ai gt lf (d+1)) fu (yK lf (au ai gt lf (d+1)))) (.slice (some ⟨b,off,none⟩) xs.length c) (.int .i64 z) (.slice none 0 0) (.int .i64 (t:Nat)) q (.int .i64 (i:Nat)) (.slice (some ⟨n'+1,0,none⟩) (j+1) (bc+(j+1))) (.int .i64 (eD xs z j+xs.getD j 0)) (.int .i64 (t:Nat)) (.int .i64 (i:Nat)) (.bool true) (.slice (some ⟨b,off,none⟩) xs.length c) (.int .i64 (xs.length:Nat)) (.int .i64 ((j+1:Nat):Int))) h2 (n'+2) fun v' h' n'=>RR h' n' 22 3 v' (lK xs z):=by
    intro h2 dy bq
    rw[<-fn]at dy
    refine lI (_,eD xs z j+xs.getD j 0) h2 (n'+2) ⟨by omega,fun b hb=> ?_,Own.mk' dy (by omega) (by omega) (by rw[cT,cJ,zd];omega), ?_,by simp only;omega,by simp only;omega⟩
    ·rw[bq b (by omega) fun q=>by have:=(qH.lt q).1;omega]
     exact eu b hb
    ·exact bn
   have ur:∀(kk:Value->M Value),(∀h2,h2.get (n'+1)=some ⟨3,true,aJ .i64 ((lg xs z i).take j)++[.int .i64 (if fB xs z j=i then 0 else 15)]⟩->(∀b,b<n'->¬aD w b->h2.get b=h'.get b)->aj (fun _=>False) n (kk (.slice (some ⟨n'+1,0,none⟩) (j+1) (bc+(j+1)))) h2 (n'+2) fun v' h' n'=>RR h' n' 22 3 v' (lK xs z))->
    aj (fun _=>False) n (cZ 3 1 (.int .i64 (if fB xs z j=i then 0 else 15)) fun u=>cO 3 1 w u kk) h' n' fun v' h' n'=>RR h' n' 22 3 v' (lK xs z):=by
    intro kk qR
    refine m4 trivial (ky _ _) qH hlen (by omega) _ fun h2 dy bq=> ?_
    rw[iB]
    exact qR h2 dy bq
   rw[tI]
   by_cases cl:z-1<q2
   ·have q9:z-1=eD xs z j:=by rw[<-hq];unfold GX;rw[if_pos cl]
    rw[<-q9]at w1 g2 w3 fin
    by_cases m:fB xs z j=i
    ·have n1:((fB xs z j:Int)==(i:Int))=true:=by rw[m];simp
     rw[if_pos m]at ur fin
     try simp(disch:=first|omega|assumption|exact aa _) only[ah,ae,RZ,e2,jb,c1,w4,cl,w1,z0,g2,w2,n1]
     refine ur _ fun h2 dy bq=> ?_
     try simp(disch:=first|omega|assumption|exact aa _) only[ah,ae,RZ,w3]
     exact fin h2 dy bq
    ·have n1:((fB xs z j:Int)==(i:Int))=false:=beq_eq_false_iff_ne.2 fun e=>m (by omega)
     rw[if_neg m]at ur fin
     try simp(disch:=first|omega|assumption|exact aa _) only[ah,ae,RZ,e2,jb,c1,w4,cl,w1,z0,g2,w2,n1]
     refine ur _ fun h2 dy bq=> ?_
     try simp(disch:=first|omega|assumption|exact aa _) only[ah,ae,RZ,w3]
     exact fin h2 dy bq
   ·have q9:q2=eD xs z j:=by rw[<-hq];unfold GX;rw[if_neg cl]
    rw[<-q9]at w1 g2 w3 fin
    by_cases m:fB xs z j=i
    ·have n1:((fB xs z j:Int)==(i:Int))=true:=by rw[m];simp
     rw[if_pos m]at ur fin
     try simp(disch:=first|omega|assumption|exact aa _) only[ah,ae,RZ,e2,jb,c1,w4,cl,w1,z0,g2,w2,n1]
     refine ur _ fun h2 dy bq=> ?_
     try simp(disch:=first|omega|assumption|exact aa _) only[ah,ae,RZ,w3]
     exact fin h2 dy bq
    ·have n1:((fB xs z j:Int)==(i:Int))=false:=beq_eq_false_iff_ne.2 fun e=>m (by omega)
     rw[if_neg m]at ur fin
     try simp(disch:=first|omega|assumption|exact aa _) only[ah,ae,RZ,e2,jb,c1,w4,cl,w1,z0,g2,w2,n1]
     refine ur _ fun h2 dy bq=> ?_
     try simp(disch:=first|omega|assumption|exact aa _) only[ah,ae,RZ,w3]
     exact fin h2 dy bq
end
theorem aj4{p:Nat}{gs T:List (List Int)}{i:Nat}(hi:i<gs.length):jd p (gs.take (i+1)) ((fA gs T).take (i+1))=jd p (gs.take i) ((fA gs T).take i)++(if jD (gs.getD i []) T=p then gs.getD i []else []):=by
 have Nt:(fA gs T).take (i+1)=(fA gs T).take i++[jD (gs.getD i []) T]:=by
  rw[jI (by rw[um];exact hi)]
  congr 2
  unfold fA
  simp only[oM]
  rw[aF,aM hi]
  rfl
 have Nu:gs.take (i+1)=gs.take i++[gs.getD i []]:=by
  rw[jI hi,aF,aM hi]
  rfl
 rw[Nt,Nu,MU p _ _ _ _ (by rw[cJ,cJ,um])]
theorem aj5{gs T:List (List Int)}{i:Nat}(hi:i<gs.length):aJ .i64 ((eH gs T).take (i+1))=aJ .i64 ((eH gs T).take i)++[.int .i64 (jD (gs.getD i []) T:Int)]:=by
 have:(eH gs T).take (i+1)=(eH gs T).take i++[(jD (gs.getD i []) T:Int)]:=by
  rw[jI (by rw[nv];exact hi)]
  congr 2
  unfold eH fA
  simp only[oM]
  rw[aF,aM hi]
  rfl
 rw[this]
 unfold aJ
 rw[eK]
 rfl
theorem aj6{gs T:List (List Int)}{i:Nat}(hi:i<gs.length):(eH gs T).getD i 0=(jD (gs.getD i []) T:Int):=by
 have h1:i<(eH gs T).length:=by rw[nv];exact hi
 have:(eH gs T)[i]=(jD gs[i] T:Int):=by unfold eH fA;simp
 rw[aF,aM h1,zH,this,aF,aM hi]
 rfl
section
variable (lf d n:Nat) (h:H) (aA:3000000<=lf)
include aA
set_option maxHeartbeats 2000000 in
theorem aj7(v:Value)(xs:List Int)(s:Nat)(hR:Row h n 3 .i64 v xs)(h0:0<xs.length)(hl:xs.length<=1000000)(h3:3<=s)(fC:s<=258)(bP:dM s xs=true)(hd:600<=d):
 aj (fun _=>False) n (au ai gt lf d 45 #[v,.int .i64 (s:Int)]) h n fun v' h' n'=>∃x y,v'= .agg #[x,y]∧RR h' n' 22 3 x (bA xs s 4)∧Row h' n' 3 .i64 y (eH (iG xs) (bA xs s 3)):=by
 obtain⟨d,rfl⟩:∃e,d=e+8:=⟨d-8,by omega⟩
 rw[aQ (fun _=>ae9) rfl]
 refine aj.aP ?_
 unfold Km
 have bg:=hR
 obtain⟨a,c,rfl⟩:=hR.len
 refine kU AJ _ ?_
 obtain⟨ha,lM⟩:∃ha,h.set n (some ⟨78,true,[.slice none 0 0,.slice none 0 0]⟩)=ha:=⟨_,rfl⟩
 have ka:∀b,b<n->ha.get b=h.get b:=fun b hb=>by rw[<-lM];exact aK _ _ (by omega)
 have ga:ha.get n=some ⟨78,true,[.slice none 0 0,.slice none 0 0]⟩:=by rw[<-lM,get_eq]
 rw[lM]
 have zq:=bg.aB (cX n) ka
 refine bh aW (Zd lf (d+5) (n+1) ha aA _ xs zq hl s (by omega)) (cX n) (fun _ _ h=>h.elim) fun u h1 n1 bQ cM hu=> ?_
 have cm:∀x∈cU xs s,0<=x∧x<=1099511627776:=fun x hx=>by have:=Gu hx;omega
 try simp(disch:=first|omega|assumption|exact aa _) only[ah,ae,RZ]
 refine bh aW (aj3 lf (d+5) n1 h1 aA u (cU xs s) (xs.length:Int) hu (by rw[jc];exact fC) cm (by omega) (by omega)) (by omega) (fun _ _ h=>h.elim) fun vf h2 n2 ey eR hf=> ?_
 have k2:∀b,b<n+1->h2.get b=ha.get b:=fun b hb=>(eR b (by omega) id).trans (cM b hb id)
 have vB:=hf
 obtain⟨af,cf,rfl⟩:=hf.len
 try simp(disch:=first|omega|assumption|exact aa _) only[ah,ae,RZ]
 refine kU AJ _ ?_
 refine qj (cs:=[.slice none 0 0,.slice none 0 0]) trivial (vs:=[.slice af (lK (cU xs s) (xs.length:Int)).length cf,.slice none 0 0]) rfl rfl rfl (get_eq _ _ _) (fp n2) (av _) (.inl (by omega)) _ fun kX yY k3=> ?_
 have Nz:∀b,b<n2->kX.get b=h2.get b:=fun b hb=>by rw[k3 b (by omega),aK _ _ (by omega)]
 have uv:Row kX (n2+1) 3 .i64 (.slice a xs.length c) xs:=zq.aB (by omega) fun b hb=>by rw[Nz b (by omega)];exact k2 b hb
 refine bh aW (aji lf (d+6) (n2+1) kX aA _ xs uv hl) (by omega) (fun _ _ h=>h.elim) fun vg h4 n4 jF kC B7=> ?_
 have rQ:=GS hl bP
 have ht:=ZW hl bP h3 fC
 have yf:=zn xs s
 have GV:=BM (xs.length:Int)
 have Nw:h4.get n=some ⟨78,true,[.slice none 0 0,.slice none 0 0]⟩:=by rw[kC n (by omega) id,Nz n (by omega),k2 n (by omega)];exact ga
 have Z3:h4.get n2=some ⟨78,true,[.slice af (lK (cU xs s) (xs.length:Int)).length cf,.slice none 0 0]⟩:=(kC n2 (by omega) id).trans yY
 have Ny:RR h4 n4 22 3 (.slice af (lK (cU xs s) (xs.length:Int)).length cf) (bA xs s 0):=(vB.aB (cX n2) Nz).aB jF fun b hb=>kC b hb id
 obtain⟨gs,uw⟩:∃gs,iG xs=gs:=⟨_,rfl⟩
 have aj8:∀k,bA xs s (k+1)=qG gs (bA xs s k) s:=fun k=>by rw[<-uw];rfl
 have gl5:gs.length<=20000:=by rw[<-uw,MS];unfold cW;omega
 rw[uw]at rQ B7⊢
 have aj9:=B7
 obtain⟨ag,cg,rfl⟩:=B7.len
 refine ed 4 (fun fu i (_:Unit)=>rH lf (au ai gt lf (d+7)) fu (vU lf (au ai gt lf (d+7))) (.slice a xs.length c) (.int .i64 (s:Nat)) (.pointer (some ⟨n,0,none⟩)) (.pointer (some ⟨n2,0,none⟩)) (.slice ag gs.length cg) (.int .i64 (i:Nat)))
  (fun i _ h' n'=>n4<=n'∧(∀b,b<n4->b≠n2->h'.get b=h4.get b)∧∃x y,h'.get n2=some ⟨78,true,[x,y]⟩∧RR h' n' 22 3 x (bA xs s i)∧one y=true∧(0<i->Row h' n' 3 .i64 y (eH gs (bA xs s (i-1))))) ?_ ?_ lf 0 () _ _ (dx _) (by omega) ⟨av n4,fun _ _ _=>rfl,_,_,Z3,Ny,rfl,fun q=>absurd q (zS 0)⟩
 ·rintro fu _ h' n' ⟨gX,eu,x,y,fj,hx,mC,hy⟩
  have z4:¬(((4:Nat):Int)<4):=by omega
  rw[rH]
  try simp(disch:=first|omega|assumption|exact aa _) only[ah,ae,RZ,z4]
  (try unfold vU);(try dsimp only)
  refine Bu trivial trivial _ _ _ fj (by omega) (by simp) ?_
  have zo:h'.get n=some ⟨78,true,[.slice none 0 0,.slice none 0 0]⟩:=by rw[eu n (by omega) (by omega)];exact Nw
  have dS:=hy (by omega)
  have fU:one x=true:=by obtain⟨_,_,rfl⟩:=hx.len;rfl
  refine qj trivial (vs:=[x,y]) rfl rfl (by simp[fU,mC]) zo (by omega) (av _) (.inl (av _)) _ fun h5 nz k5=> ?_
  refine Bv trivial trivial _ _ _ nz (by omega) (by simp) ?_
  try simp(disch:=first|omega|assumption|exact aa _) only[ah,ae,RZ]
  refine⟨x,y,rfl,hx.nh (av _) fun b B _ hB he=>y5 zo k5 hB fun q=> ?_,dS.nh (av _) fun b B _ hB he=>y5 zo k5 hB fun q=> ?_⟩
  ·rcases he with he|he
   ·exact absurd (show(22:Nat)=78 from he.symm.trans q) (by decide)
   ·exact absurd (show(3:Nat)=78 from he.symm.trans q) (by decide)
  ·exact absurd (show(3:Nat)=78 from he.symm.trans q) (by decide)
 ·rintro fu i _ h5 n5 hi ⟨ud,ue,x,y,nz,hx,mC,hy⟩ next
  have e1:((i:Nat):Int)<4:=by omega
  obtain⟨T,hT⟩:∃T,bA xs s i=T:=⟨_,rfl⟩
  have Z4:=ht i
  have zg:=yf i
  rw[hT]at Z4 zg hx
  have jb:RR h5 n5 22 3 (.slice ag gs.length cg) gs:=aj9.nh ud fun b B hb hB he=>ue b hb fun q=>by
   subst q
   rw[Z3]at hB;cases hB
   rcases he with he|he
   ·exact absurd (show(78:Nat)=22 from he) (by decide)
   ·exact absurd (show(78:Nat)=3 from he) (by decide)
  have pD:n2<n5:=by omega
  rw[rH]
  try simp(disch:=first|omega|assumption|exact aa _) only[ah,ae,RZ,e1]
  refine ed gs.length (fun f2 j (w:Value)=>vT lf (au ai gt lf (d+7)) f2 (S6 lf (au ai gt lf (d+7)) fu (vU lf (au ai gt lf (d+7)))) (.slice a xs.length c) (.int .i64 (s:Nat)) (.pointer (some ⟨n,0,none⟩)) (.pointer (some ⟨n2,0,none⟩)) (.slice ag gs.length cg) w (.int .i64 (i:Nat)) _ (.slice ag gs.length cg) (.int .i64 (gs.length:Nat)) (.int .i64 (j:Nat)))
   (fun j w h' n'=>n5<=n'∧(∀b,b<n5->h'.get b=h5.get b)∧Own h' n5 n' 3 w (aJ .i64 ((eH gs T).take j))) ?_ ?_ lf 0 _ _ _ (dx _) (by omega) ⟨av _,fun _ _=>rfl,Own.nil _ _ _ _⟩
  rotate_left
  ·rintro f2 j w h' n' hj ⟨gX,eu,qH⟩ lI
   have e2:((j:Nat):Int)<((gs.length:Nat):Int):=by omega
   obtain⟨b,off,cap,o,cs,hv,GY,hb,bk⟩:=(jb.aB gX eu).at (by omega)
   cases hv
   obtain⟨q,hq,B8⟩:=bk j hj
   have aj':h'.get n2=some ⟨78,true,[x,y]⟩:=(eu n2 pD).trans nz
   have zr:n2<n':=by omega
   have gm:gs.getD j []∈gs:=by rw[aF,aM hj];exact cN hj
   obtain⟨g1,g2⟩:=rQ.1 _ gm
   rw[vT]
   try simp(disch:=first|omega|assumption|exact aa _) only[ah,ae,RZ,e2,GY,hq,aj']
   refine bV (ajf lf (d+4) n' h' aA q x _ T B8 (hx.aB gX eu) (by omega) (by omega) (by omega) fun t mS=> ?_) (by omega) (fun _ _ h=>h.elim) ?_
   ·obtain⟨t1,t2⟩:=Z4 t mS
    exact⟨by omega,fun y hy=>by have:=t2 y hy;omega,by rw[t1];exact g2⟩
   ·refine m4 trivial (ky _ _) qH (by rw[cT,cJ,nv];omega) (by omega) _ fun h2 dy bq=> ?_
    rw[<-aj5 hj]at dy
    try simp(disch:=first|omega|assumption|exact aa _) only[ah,ae,RZ]
    exact lI _ h2 (n'+2) ⟨by omega,fun b hb=>by rw[bq b (by omega) fun q=>by have:=(qH.lt q).1;omega];exact eu b hb,Own.mk' dy (by omega) (by omega) (by rw[cT,cT,cJ,cJ,nv];omega)⟩
  ·rintro f2 w h6 n6 ⟨Z5,GZ,xh⟩
   rw[hH (by rw[nv];exact av _)]at xh
   have GW:h6.get n2=some ⟨78,true,[x,y]⟩:=(GZ n2 pD).trans nz
   have hx6:=hx.aB Z5 GZ
   have aj_:=jb.aB Z5 GZ
   have Z6:=xh.row
   have Z7:=Z6
   obtain⟨ax,cx,G0⟩:=hx.len
   obtain⟨aw,cw,rfl⟩:=Z6.len
   have lt6:n2<n6:=by omega
   rw[vT]
   try simp(disch:=first|omega|assumption|exact aa _) only[ah,ae,RZ,bH]
   (try unfold S6);(try unfold AO);(try dsimp only)
   try simp(disch:=first|omega|assumption|exact aa _) only[ah,ae,RZ,GW,G0]
   refine ed T.length (fun f3 p (q:Value)=>tD lf (au ai gt lf (d+7)) f3 (Kl lf (au ai gt lf (d+7)) fu (vU lf (au ai gt lf (d+7)))) (.slice a xs.length c) (.int .i64 (s:Nat)) (.pointer (some ⟨n,0,none⟩)) (.pointer (some ⟨n2,0,none⟩)) (.slice ag gs.length cg) (.slice aw (eH gs T).length cw) q (.int .i64 (i:Nat)) _ _ _ _ _ (.int .i64 (T.length:Nat)) (.int .i64 (p:Nat)))
    (fun p q h' n'=>n6<=n'∧(∀b,b<n6->h'.get b=h6.get b)∧fz h' n6 n' n' 22 3 q ((bL p).map fun p=>pF (pC gs T s p))) ?_ ?_ lf 0 _ _ _ (dx _) (by omega) ⟨av _,fun _ _=>rfl,fz.nil _ _ _ _ _ _⟩
   ·rintro f3 q h7 n7 ⟨zk,zs,NA⟩
    have NB:h7.get n2=some ⟨78,true,[x,y]⟩:=(zs n2 lt6).trans GW
    have Z8:=NA.rr
    have aka:=Z8
    obtain⟨aq,cq,rfl⟩:=Z8.len
    rw[tD]
    try simp(disch:=first|omega|assumption|exact aa _) only[ah,ae,RZ,bH]
    (try unfold Kl);(try unfold ED);(try dsimp only)
    try simp(disch:=first|omega|assumption|exact aa _) only[ah,ae,RZ]
    refine qj trivial (vs:=[.slice aq ((bL T.length).map fun p=>pF (pC gs T s p)).length cq,.slice aw (eH gs T).length cw]) rfl rfl rfl NB (by omega) (av _) (.inl (by omega)) _ fun h8 hg8 k8=> ?_
    try simp(disch:=first|omega|assumption|exact aa _) only[ah,ae,RZ]
    refine next () h8 n7 ⟨by omega,fun b hb bE=>by rw[k8 b bE,zs b (by omega),GZ b (by omega)];exact ue b hb bE,_,_,hg8, ?_,rfl,fun _=> ?_⟩
    ·have:=aka.nh (h':=h8) (av _) fun b B _ hB he=>y5 NB k8 hB fun q=> ?_
     ·rw[aj8,hT]
      exact this
     ·rcases he with he|he
      ·exact absurd (show(22:Nat)=78 from he.symm.trans q) (by decide)
      ·exact absurd (show(3:Nat)=78 from he.symm.trans q) (by decide)
    ·have:=(Z7.aB zk zs).nh (h':=h8) (av _) fun b B _ hB he=>y5 NB k8 hB fun q=>absurd (show(3:Nat)=78 from he.symm.trans q) (by decide)
     rw[show i+1-1=i by omega,hT]
     exact this
   ·rintro f3 p q h7 n7 hp ⟨zk,zs,NA⟩ NC
    have e3:((p:Nat):Int)<((T.length:Nat):Int):=by omega
    rw[tD]
    try simp(disch:=first|omega|assumption|exact aa _) only[ah,ae,RZ,e3]
    refine ed gs.length (fun f4 j (w2:Value)=>tC lf (au ai gt lf (d+7)) f4 (S5 lf (au ai gt lf (d+7)) f3 (Kl lf (au ai gt lf (d+7)) fu (vU lf (au ai gt lf (d+7))))) (.slice a xs.length c) (.int .i64 (s:Nat)) (.pointer (some ⟨n,0,none⟩)) (.pointer (some ⟨n2,0,none⟩)) (.slice ag gs.length cg) (.slice aw (eH gs T).length cw) q (.int .i64 (p:Nat)) w2 (.int .i64 (i:Nat)) _ _ _ _ _ (.int .i64 (T.length:Nat)) (.int .i64 (p:Nat)) _ (.slice ag gs.length cg) (.int .i64 (gs.length:Nat)) (.int .i64 (j:Nat)))
     (fun j w2 h' n'=>n7<=n'∧(∀b,b<n7->h'.get b=h7.get b)∧Own h' n7 n' 3 w2 (aJ .i64 (jd p (gs.take j) ((fA gs T).take j)))) ?_ ?_ lf 0 _ _ _ (dx _) (by omega) ⟨av _,fun _ _=>rfl,Own.nil _ _ _ _⟩
    ·rintro f4 w2 h8 n8 ⟨BZ,zt,zu⟩
     rw[tC]
     try simp(disch:=first|omega|assumption|exact aa _) only[ah,ae,RZ,bH]
     (try unfold S5);(try unfold EC);(try dsimp only)
     rw[j7,hH (by rw[um];exact av _)]at zu
     have al:=BL p gs (fA gs T) fun g hg=>(rQ.1 g hg).1
     refine bh aW (Zd lf (d+5) n8 h8 aA _ _ zu.row (by omega) s (by omega)) (by omega) (fun _ _ h=>h.elim) fun u9 h9 n9 Z9 G3 hu9=> ?_
     refine bh aW (ajP lf (d+6) n9 h9 aA u9 (pC gs T s p) hu9 (by show 3<=(cU _ _).length;rw[jc];exact h3) (by show(cU _ _).length<=258;rw[jc];exact fC) (B6 gs T s p rQ (fun _ h=>h) (av _)) (by omega)) (by omega) (fun _ _ h=>h.elim) fun u10 qF pE ZI G4 akb=> ?_
     have aaa:=(NA.aB (show n7<=pE by omega) fun b hb _=>by rw[G4 b (by omega) id,G3 b (by omega) id];exact zt b hb).up (show n7<=pE by omega)
     refine Bw trivial (by decide) aaa akb (av _) (by simp;omega) (by omega) (by omega) _ fun v2 h11 o11 k11 _=> ?_
     try simp(disch:=first|omega|assumption|exact aa _) only[ah,ae,RZ]
     refine NC v2 h11 (pE+2) ⟨by omega,fun b hb=> ?_, ?_⟩
     ·rw[k11 b (by omega) fun q=>by have:=(aaa.lt q).1;omega,G4 b (by omega) id,G3 b (by omega) id,zt b (by omega)]
      exact zs b hb
     ·rw[pQ,eK]
      exact o11.up (by omega)
    ·rintro f4 j w2 h8 n8 hj ⟨BZ,zt,zu⟩ aab
     have e4:((j:Nat):Int)<((gs.length:Nat):Int):=by omega
     have k68:∀b,b<n6->h8.get b=h6.get b:=fun b hb=>(zt b (by omega)).trans (zs b hb)
     obtain⟨b,off,cap,o,cs,hv,GY,hb,bk⟩:=(aj_.aB (show n6<=n8 by omega) k68).at (by omega)
     cases hv
     obtain⟨g,hq,B8⟩:=bk j hj
     have hw8:=Z7.aB (show n6<=n8 by omega) k68
     obtain⟨b2,y0,M3,o2,qU,iq,ND,ig,_,_,_,xp⟩:=hw8.some (by rw[nv];omega)
     cases iq
     have e5:((j:Nat):Int)<(((eH gs T).length:Nat):Int):=by rw[nv];omega
     have c5:=xp j (by rw[nv];exact hj)
     rw[aj6 hj]at c5
     have an:=aj4 (p:=p) (T:=T) hj
     have al:=BL p (gs.take j) ((fA gs T).take j) fun g hg=>(rQ.1 g (nC hg)).1
     rw[cJ]at al
     have gm:gs.getD j []∈gs:=by rw[aF,aM hj];exact cN hj
     obtain⟨g1,g2⟩:=rQ.1 _ gm
     rw[tC]
     by_cases m:jD (gs.getD j []) T=p
     ·have n1:((jD (gs.getD j []) T:Int)==(p:Int))=true:=by rw[m];simp
      rw[if_pos m]at an
      try simp(disch:=first|omega|assumption|exact aa _) only[ah,ae,RZ,e4,GY,hq,e5,ND,c5,n1]
      refine JT trivial zu B8 (by rw[cT];omega) (by omega) (by omega) _ fun w3 h9 n9 Z9 o9 _ k9=> ?_
      try simp(disch:=first|omega|assumption|exact aa _) only[ah,ae,RZ]
      refine aab w3 h9 n9 ⟨by omega,fun b hb=>by rw[k9 b (by omega) fun q=>by have:=(zu.lt q).1;omega];exact zt b hb, ?_⟩
      rw[an]
      have:aJ .i64 (jd p (gs.take j) ((fA gs T).take j)++gs.getD j [])=aJ .i64 (jd p (gs.take j) ((fA gs T).take j))++aJ .i64 (gs.getD j []):=by unfold aJ;rw[eK]
      rw[this]
      exact o9
     ·have n1:((jD (gs.getD j []) T:Int)==(p:Int))=false:=beq_eq_false_iff_ne.2 fun e=>m (by omega)
      rw[if_neg m,dr]at an
      try simp(disch:=first|omega|assumption|exact aa _) only[ah,ae,RZ,e4,GY,hq,e5,ND,c5,n1]
      refine aab w2 h8 n8 ⟨BZ,zt, ?_⟩
      rw[an]
      exact zu
end
section
variable (lf d n:Nat) (h:H)
structure xz (h:H) (n:Nat) (v:Value) (L:List (List Int)) (K:List Int):Prop where
 ex:∃x y,v= .agg #[x,y]∧RR h n 22 3 x L∧Row h n 3 .i64 y K
theorem xz.aB{h h':H}{n n':Nat}{v:Value}{L:List (List Int)}{K:List Int}(x:xz h n v L K)(hn:n<=n')(hk:∀b,b<n->h'.get b=h.get b):xz h' n' v L K:=by
 obtain⟨x,y,hv,h1,h2⟩:=x.ex
 exact⟨x,y,hv,h1.aB hn hk,h2.aB hn hk⟩
end
theorem akc{f:FuncId}{ts:List TypeId}{vs:List Value}{w:World}{lf d:Nat}(hw:Ev.rf w)(ha:dT (rG ai w) ts vs)(r:∀n h fm,Gd h n->dT (m5 ai h n) ts fm->aj (fun _=>False) n (au ai gt lf d f fm.toArray) h n fun v _ _=>v= .bool true):
 Calls ai f vs.toArray w fun e w'=>e= .returned (.bool true)∧Below w.heap.size w w':=by
 obtain⟨m,x⟩:=Zn hw
 exact Ev.aeA Zk ai5 Zl known aW ha x fun n h fm hn hg q=>r n h fm (Gd.of hn (by rw[hg _ (by decide+kernel)];exact get_eq _ _ _)) q
theorem akd:jy ai 8 22=some [22]:=by kernel_rfl
theorem aac:jy ai 8 3=some [3]:=by kernel_rfl
theorem ake:om ai 22=false:=by kernel_rfl
theorem akf:om ai 3=false:=by kernel_rfl
set_option maxRecDepth 20000 in
theorem akg{h:H}{n:Nat}{v:Value}(x:m5 ai h n 22 v):∃xs,Row h n 3 .i64 v xs∧xs.length<=9223372036854775807∧∀y∈xs,-9223372036854775808<=y∧y<=9223372036854775807:=by
 obtain⟨xs,h1,h2,h3⟩:=ahI (f:=6) Tryz.underlying22 aac amS (XM akd ake x)
 exact⟨xs,h1,h2,fun y hy=>XN (h3 y hy)⟩
set_option maxRecDepth 20000 in
theorem akh{h:H}{n:Nat}{v:Value}(x:m5 ai h n 3 v):∃i,v= .int .i64 i∧-9223372036854775808<=i∧i<=9223372036854775807:=by
 obtain⟨i,h1,h2⟩:=F7 (f:=7) amS (XM aac akf x)
 exact⟨i,h1,XN h2⟩
theorem xz.agg{h:H}{n:Nat}{v:Value}{L:List (List Int)}{K:List Int}(x:xz h n v L K):∃a c a2 c2,v= .agg #[.slice a L.length c,.slice a2 K.length c2]∧RR h n 22 3 (.slice a L.length c) L∧Row h n 3 .i64 (.slice a2 K.length c2) K:=by
 obtain⟨x,y,rfl,h1,h2⟩:=x.ex
 have qF:=h1
 have py:=h2
 obtain⟨a,c,rfl⟩:=h1.len
 obtain⟨a2,c2,rfl⟩:=h2.len
 exact⟨a,c,a2,c2,rfl,qF,py⟩
section
variable (lf d n:Nat) (h:H)
variable (aA:3000000<=lf) (hd:700<=d)
include aA hd
end
end Go.Proofs.YtdagfcflbphoiaaGreatDoor
namespace Go.Proofs.YtdagfcflbphoiaaGreatDoor
open Go.RowKit Ev
def xA(sv:Value)(rs:List Bool)(t:Nat):AB:=⟨63,true,[sv,.int .u8 (pz rs:Int),.int .i64 (t:Int)]⟩
structure ep (h:H) (lo n w:Nat) (sv:Value) (s:List Nat×List Bool) (t:Nat):Prop where
 get:h.get w=some (xA sv s.2 t)
 lt:w<n
 ge:lo<=w
 own:Own h lo n 5 sv (mv s.1)
 ne:∀b,aD sv b->b≠w
 len:s.2.length=t %8
theorem ep.aB{h h':H}{lo n n' w:Nat}{sv:Value}{s:List Nat×List Bool}{t:Nat}(x:ep h lo n w sv s t)(hn:n<=n')(hk:∀b,b<n->(b=w∨aD sv b)->h'.get b=h.get b):ep h' lo n' w sv s t:=
 ⟨(hk w x.lt (.inl rfl)).trans x.get,qJ x.lt hn,x.ge,x.own.aB hn fun b hb=>hk b (x.own.lt hb).2 (.inr hb),x.ne,x.len⟩
section
variable {lf d lo n w t:Nat} {h:H} {sv:Value} {s:List Nat×List Bool}
set_option maxRecDepth 4000 in
theorem aad(x:ep h lo n w sv s t)(ht:t<4611686018427387904)(hs:s.1.length+1<=1099511627776)(b:Bool):aj (fun c=>c=w∨aD sv c) n (au ai gt lf (d+1) 35 #[.pointer (some ⟨w,0,none⟩),.int .u8 (bn b:Int)]) h n fun v h' n'=>v= .tuple #[]∧∃dg,ep h' lo n' w dg (kZ s b) (t+1)∧∀c,aD dg c->aD sv c∨n<=c:=by
 obtain⟨gw,hw,uZ,ow,bE,hl⟩:=x
 obtain⟨ws,rs⟩:=s
 simp only at gw ow hl hs
 have gw0:=gw
 unfold xA at gw
 rw[aQ (fun _=>SG) rfl]
 refine aj.aP ?_
 unfold Kf
 have e1:((t:Int)).tmod 8=((rs.length:Nat):Int):=by rw[hl];rfl
 have h8:rs.length<8:=by omega
 have e2:IntKind.i64.wrap (7-(rs.length:Int))=((7-rs.length:Nat):Int):=by rw[bB (by omega) (by omega)];omega
 have e3:=ahP (xe b) (show 7-rs.length<=7 by omega)
 rw[mG]at e3
 have e4:=or8 (ahN (r:=rs) (by omega)) (show bn b*2^(7-rs.length)<256 by
  have h1:=xe b
  have h2:2^(7-rs.length)<=2^7:=sw (by decide) (by omega)
  have:bn b*2^(7-rs.length)<=1*2^7:=Nat.mul_le_mul (by omega) h2
  omega)
 rw[ahO h8 b]at e4
 have e5:(0:Int)<=((7-rs.length:Nat):Int):=by omega
 by_cases h7:rs.length=7
 ·have e6:(((rs.length:Nat):Int)==7)=true:=by rw[h7];rfl
  try simp(disch:=first|omega|assumption|exact aa _) only[ah,ae,RZ,cd,cj,cr,ct,cz,cA,cB,cC,cD,cE,gw,e1,e2,e3,e4,e5,e6]
  have o1:Own ((h.set w (some ⟨63,true,[sv,.int .u8 (pz (rs++[b]):Int),.int .i64 (t:Int)]⟩)).set w (some ⟨63,true,[sv,.int .u8 (pz (rs++[b]):Int),.int .i64 ((t:Int)+1)]⟩)) lo n 5 sv (mv ws):=ow.aB (av _) fun c hc=>by rw[aK _ _ (bE c hc),aK _ _ (bE c hc)]
  refine Mj trivial (ky _ _) o1 (by rw[y4];exact hs) (fun c hc=> .inr (.inr hc)) _ fun h' hg hk=> ?_
  have g1:h'.get w=some ⟨63,true,[sv,.int .u8 (pz (rs++[b]):Int),.int .i64 ((t:Int)+1)]⟩:=by rw[hk w hw (fun q=>bE w q rfl),get_eq]
  have bQ:w≠n+1:=by omega
  try simp(disch:=first|omega|assumption|exact aa _) only[ah,ae,RZ,cd,cj,cr,ct,cz,cA,cB,cC,cD,cE,g1,true_or,or_true]
  have hp:kZ (ws,rs) b=(ws++[num (rs++[b]) 0],[]):=by unfold kZ;rw[if_pos h7]
  have hr:pz (rs++[b])=num (rs++[b]) 0:=by unfold pz;simp[h7]
  refine⟨_,⟨by rw[get_eq];unfold xA;rw[hp];rfl,by omega,uZ, ?_,fun c hc=>by rw[hc.inj];omega, ?_⟩,fun c hc=> .inr (by rw[hc.inj];omega)⟩
  ·rw[hp]
   rw[y4]
   refine .inr ⟨n+1,by simp[y4], ?_,by omega,by omega⟩
   rw[aK _ _ (by omega),aK _ _ (by omega),hg,hr,ahD]
   rfl
  ·rw[hp]
   simp;omega
 ·have e6:(((rs.length:Nat):Int)==7)=false:=by simpa using fun e:((rs.length:Nat):Int)=7=>h7 (by omega)
  try simp(disch:=first|omega|assumption|exact aa _) only[ah,ae,RZ,cd,cj,cr,ct,cz,cA,cB,cC,cD,cE,gw,e1,e2,e3,e4,e5,e6]
  have hp:kZ (ws,rs) b=(ws,rs++[b]):=by unfold kZ;rw[if_neg h7]
  refine⟨sv,⟨by rw[get_eq,hp];rfl,hw,uZ, ?_,bE,by rw[hp];simp;omega⟩,fun c hc=> .inl hc⟩
  rw[hp]
  exact ow.aB (av _) fun c hc=>by rw[aK _ _ (bE c hc),aK _ _ (bE c hc)]
end
theorem aki(v n i:Nat)(h:i<n):bY (v/2^(n-i)) i++[decide (v/2^(n-1-i)%2=1)]=bY (v/2^(n-(i+1))) (i+1):=by
 show _=bY (v/2^(n-(i+1))/2) i++_
 rw[Nat.div_div_eq_div_mul,<-Nat.pow_succ,show(n-(i+1)).succ=n-i by omega,show n-(i+1)=n-1-i by omega]
section
variable {lf d lo n w t:Nat} {h:H} {sv:Value} {s:List Nat×List Bool}
theorem akj{v k:Nat}(hk:k<=32)(hv:v<2^k):aj (fun _=>False) n (au ai gt lf (d+1) 34 #[.int .u32 (v:Int),.int .i64 (k:Int)]) h n fun v' h' n'=>v'= .bool true∧h'=h∧n'=n:=by
 rw[aQ (fun _=>SF) rfl]
 refine aj.aP ?_
 unfold Ke
 have e1:(0:Int)<=(k:Int):=by omega
 have e2:(k:Int)<=32:=by omega
 have aae:v<4294967296:=qJ hv (sw (by decide) hk)
 have e3:IntKind.u64.wrap (v:Int)=(v:Int):=IntWalk.u64_in _ (by omega)
 have e4:=fdiv_pow v k (IntKind.u64).bits (by simp[Hn];omega)
 rw[mG,Nat.div_eq_of_lt hv]at e4
 try simp(disch:=first|omega|assumption|exact aa _) only[ah,ae,RZ,cd,cj,cr,ct,cz,cA,cB,cC,cD,cE,e1,e2,e3,e4]
 rfl
theorem akk{v k:Nat}(hk:k<=32)(hv:v<2^k){x6 x8 x11:Value}(bf:t+32<4611686018427387904)(hs:s.1.length+33<=1099511627776){nn:Nat}(hs8:s.2.length<8):∀(m i fu n:Nat) (h:H) (si:Value),i+m=k->m<fu->nn<=n->w<nn->ep h lo n w si (gU s (bY (v/2^(k-i)) i)) (t+i)->(∀c,c<nn->aD si c->aD sv c)->
 aj (fun c=>c=w∨aD sv c) nn (vF lf (au ai gt lf (d+1)) fu (Ef lf (au ai gt lf (d+1))) (.pointer (some ⟨w,0,none⟩)) (.int .u32 (v:Int)) (.int .i64 (k:Int)) x6 x8 x11 (.int .i64 (k:Int)) (.int .i64 (i:Int))) h n fun v' h' n'=>v'= .int .i64 0∧∃dg,ep h' lo n' w dg (gU s (bY v k)) (t+k)∧∀c,c<nn->aD dg c->aD sv c:=by
 intro m
 induction m with
 |zero=>
  intro i fu n h si hi hf hn hw x hc
  obtain⟨fu,rfl⟩:∃f,fu=f+1:=⟨fu-1,by omega⟩
  obtain rfl:i=k:=by omega
  rw[vF]
  have e0:¬((i:Int)<(i:Int)):=by omega
  try simp(disch:=first|omega|assumption|exact aa _) only[ah,ae,RZ,cd,cj,cr,ct,cz,cA,cB,cC,cD,cE,e0]
  (try unfold Ef);(try dsimp only)
  try simp(disch:=first|omega|assumption|exact aa _) only[ah,ae,RZ,cd,cj,cr,ct,cz,cA,cB,cC,cD,cE]
  rw[nE,Nat.pow_zero,Nat.div_one]at x
  exact⟨si,x,hc⟩
 |succ m ih=>
  intro i fu n h si hi hf hn hw x hc
  obtain⟨fu,rfl⟩:∃f,fu=f+1:=⟨fu-1,by omega⟩
  rw[vF]
  have e0:(i:Int)<(k:Int):=by omega
  have e1:IntKind.i64.wrap ((k:Int)-1-(i:Int))=((k-1-i:Nat):Int):=by rw[bB (by omega) (by omega)];omega
  have e2:IntKind.i64.wrap ((k:Int)-1)=(k:Int)-1:=bB (by omega) (by omega)
  have e3:(0:Int)<=((k-1-i:Nat):Int):=by omega
  have e4:=fdiv_pow v (k-1-i) (amY).bits (by simp[Hn];omega)
  rw[mG]at e4
  have aae:v<4294967296:=qJ hv (sw (by decide) hk)
  have e5:=ahQ (Nat.lt_of_le_of_lt (Nat.div_le_self v (2^(k-1-i))) aae)
  have e6:IntKind.u8.wrap ((v/2^(k-1-i)%2:Nat):Int)=(bn (decide (v/2^(k-1-i)%2=1)):Int):=by rw[X0];exact w8 (by omega)
  try simp(disch:=first|omega|assumption|exact aa _) only[ah,ae,RZ,cd,cj,cr,ct,cz,cA,cB,cC,cD,cE,e0,e1,e2,e3,e4,e5,e6]
  have hl:(gU s (bY (v/2^(k-i)) i)).1.length<=s.1.length+i:=by
   have:=Mq (bY (v/2^(k-i)) i) s
   rw[dL]at this
   exact this
  refine bh aW (aad x (by omega) (by omega) _) hn (fun c iV hq=> ?_) ?_
  ·rcases hq with rfl|hq
   ·exact .inr (.inl rfl)
   ·by_cases rW:c<nn
    ·exact .inr (.inr (hc c rW hq))
    ·exact .inl (by omega)
  ·rintro _ h1 n1 bQ fr ⟨rfl,dg,x',mP⟩
   have e7:IntKind.i64.wrap ((i:Int)+1)=((i+1:Nat):Int):=LP (by omega)
   try simp(disch:=first|omega|assumption|exact aa _) only[ah,ae,RZ,cd,cj,cr,ct,cz,cA,cB,cC,cD,cE,e7]
   rw[show kZ (gU s (bY (v/2^(k-i)) i)) (decide (v/2^(k-1-i)%2=1))=gU s (bY (v/2^(k-(i+1))) (i+1)) by rw[<-aki v k i (by omega),Bz];rfl]at x'
   refine ih (i+1) fu n1 h1 dg (by omega) (by omega) (by omega) hw x' fun c rW hq=> ?_
   rcases mP c hq with q|q
   ·exact hc c rW q
   ·omega
theorem akl(x:ep h lo n w sv s t){v k:Nat}(hk:k<=32)(hv:v<2^k)(ht:t+32<4611686018427387904)(hs:s.1.length+33<=1099511627776)(aA:33<=lf):aj (fun c=>c=w∨aD sv c) n (au ai gt lf (d+2) 10 #[.pointer (some ⟨w,0,none⟩),.int .u32 (v:Int),.int .i64 (k:Int)]) h n fun v' h' n'=>v'= .int .i64 0∧∃dg,ep h' lo n' w dg (gU s (bY v k)) (t+k)∧∀c,c<n->aD dg c->aD sv c:=by
 rw[aQ (fun _=>R7) rfl]
 refine aj.aP ?_
 unfold Eg
 try simp(disch:=first|omega|assumption|exact aa _) only[ah,ae,RZ,cd,cj,cr,ct,cz,cA,cB,cC,cD,cE]
 refine bV (akj hk hv) (av _) (fun _ _ h=>h.elim) ?_
 try simp(disch:=first|omega|assumption|exact aa _) only[ah,ae,RZ,cd,cj,cr,ct,cz,cA,cB,cC,cD,cE]
 exact akk hk hv ht hs (by have:=x.len;omega) k 0 lf n h sv (by omega) (by omega) (av _) x.lt (by rw[Nat.sub_zero];exact x) (fun c _ q=>q)
theorem akm:aj (fun _=>False) n (au ai gt lf (d+1) 9 #[]) h n fun v h' n'=>v= .pointer (some ⟨n,0,none⟩)∧n'=n+1∧ep h' n n' n (.slice none 0 0) ([],[]) 0:=by
 rw[aQ (fun _=>R4) rfl]
 refine aj.aP ?_
 unfold J5
 try simp(disch:=first|omega|assumption|exact aa _) only[ah,ae,RZ,cd,cj,cr,ct,cz,cA,cB,cC,cD,cE]
 refine qi trivial _ _ ?_
 try simp(disch:=first|omega|assumption|exact aa _) only[ah,ae,RZ,cd,cj,cr,ct,cz,cA,cB,cC,cD,cE]
 exact⟨get_eq _ _ _,by omega,av _,Own.nil _ _ _ _,fun b hb=>hb.not_nil.elim,rfl⟩
theorem akn(x:ep h lo n w sv s t):aj (fun c=>c=w) n (au ai gt lf (d+1) 17 #[.pointer (some ⟨w,0,none⟩)]) h n fun v h' n'=>v= .string ⟨(bS s.1).toArray⟩∧n'=n∧ep h' lo n w (.slice none 0 0) ([],s.2) t:=by
 obtain⟨gw,hw,uZ,ow,bE,hl⟩:=x
 have gw0:=gw
 unfold xA at gw
 rw[aQ (fun _=>Sq) rfl]
 refine aj.aP ?_
 unfold Kb
 try simp(disch:=first|omega|assumption|exact aa _) only[ah,ae,RZ,cd,cj,cr,ct,cz,cA,cB,cC,cD,cE,gw]
 refine ahE ow _ ?_
 try simp(disch:=first|omega|assumption|exact aa _) only[ah,ae,RZ,cd,cj,cr,ct,cz,cA,cB,cC,cD,cE,gw]
 exact⟨get_eq _ _ _,hw,uZ,Own.nil _ _ _ _,fun b hb=>hb.not_nil.elim,hl⟩
end
def dV(h:H)(lo n w:Nat)(sv:Value)(l:List Bool):Prop:=ep h lo n w sv (gU ([],[]) l) l.length
def oA(t:Nat):Nat:=(8-t %8)%8
def pG(l:List Bool):List Bool:=l++bI (oA l.length) false
def NF(l:List Bool):List Nat:=(gU ([],[]) l).1
theorem dV.aB{h h':H}{lo n n' w:Nat}{sv:Value}{l:List Bool}(x:dV h lo n w sv l)(hn:n<=n')(hk:∀b,b<n->(b=w∨aD sv b)->h'.get b=h.get b):dV h' lo n' w sv l:=ep.aB x hn hk
theorem aaf(l:List Bool):(gU ([],[]) l).1.length<=l.length:=by
 have:=Mq l ([],[])
 simpa using this
section
variable {lf d lo n w:Nat} {h:H} {sv:Value} {l:List Bool}
theorem zv(x:dV h lo n w sv l){v k:Nat}(hk:k<=32)(hv:v<2^k)(hl:l.length<=1000000000)(aA:33<=lf):aj (fun c=>c=w∨aD sv c) n (au ai gt lf (d+2) 10 #[.pointer (some ⟨w,0,none⟩),.int .u32 (v:Int),.int .i64 (k:Int)]) h n fun v' h' n'=>v'= .int .i64 0∧∃dg,dV h' lo n' w dg (l++bY v k)∧∀c,c<n->aD dg c->aD sv c:=by
 have hw:=aaf l
 refine(akl (lf:=lf) (d:=d) x hk hv (by omega) (by omega) aA).mono ?_
 rintro v' h' n' _ ⟨rfl,dg,x',hc⟩
 refine⟨rfl,dg, ?_,hc⟩
 unfold dV
 rw[Bz,aY,dL]
 exact x'
theorem ako{nn:Nat}:∀(m fu n:Nat) (h:H) (si:Value) (l:List Bool),(l.length+m)%8=0->m<8->m<fu->l.length<=1000000000->nn<=n->w<nn->dV h lo n w si l->(∀c,c<nn->aD si c->aD sv c)->
 aj (fun c=>c=w∨aD sv c) nn (vM lf (au ai gt lf (d+1)) fu (Eo lf (au ai gt lf (d+1))) (.pointer (some ⟨w,0,none⟩))) h n fun v' h' n'=>v'= .tuple #[]∧∃dg,dV h' lo n' w dg (l++bI m false)∧∀c,c<nn->aD dg c->aD sv c:=by
 intro m
 induction m with
 |zero=>
  intro fu n h si l h8 hm hf hl hn hw x hc
  obtain⟨fu,rfl⟩:∃f,fu=f+1:=⟨fu-1,by omega⟩
  have gw:=ep.get x
  unfold xA at gw
  have lt:=ep.lt x
  have e1:((l.length:Nat):Int).tmod 8=((l.length %8:Nat):Int):=rfl
  have e2:((((l.length %8:Nat):Int)) !=0)=false:=by rw[show l.length %8=0 by omega];rfl
  rw[vM]
  try simp(disch:=first|omega|assumption|exact aa _) only[ah,ae,RZ,gw,e1,e2]
  (try unfold Eo);(try dsimp only)
  try simp(disch:=first|omega|assumption|exact aa _) only[ah,ae,RZ]
  refine⟨si, ?_,hc⟩
  simpa using x
 |succ m ih=>
  intro fu n h si l h8 hm hf hl hn hw x hc
  obtain⟨fu,rfl⟩:∃f,fu=f+1:=⟨fu-1,by omega⟩
  have gw:=ep.get x
  unfold xA at gw
  have lt:=ep.lt x
  have e1:((l.length:Nat):Int).tmod 8=((l.length %8:Nat):Int):=rfl
  have e2:((((l.length %8:Nat):Int)) !=0)=true:=by rw[bne_iff_ne];omega
  rw[vM]
  try simp(disch:=first|omega|assumption|exact aa _) only[ah,ae,RZ,gw,e1,e2]
  have wl:=aaf l
  have sb:=aad (lf:=lf) (d:=d) x (by omega) (by omega) false
  rw[show((bn false:Nat):Int)=0 from rfl]at sb
  refine bh aW sb hn (fun c iV hq=> ?_) ?_
  ·rcases hq with rfl|hq
   ·exact .inr (.inl rfl)
   ·by_cases rW:c<nn
    ·exact .inr (.inr (hc c rW hq))
    ·exact .inl (by omega)
  ·rintro _ h1 n1 bQ fr ⟨rfl,dg,x',mP⟩
   have x2:dV h1 lo n1 w dg (l++[false]):=by
    unfold dV
    rw[Bz,aY]
    exact x'
   try simp(disch:=first|omega|assumption|exact aa _) only[ah,ae,RZ]
   refine(ih fu n1 h1 dg (l++[false]) (by simp;omega) (by omega) (by omega) (by simp;omega) (by omega) hw x2 fun c rW hq=> ?_).mono ?_
   ·rcases mP c hq with q|q
    ·exact hc c rW q
    ·omega
   ·rintro v' h' n' _ ⟨rfl,sv2,x3,pH⟩
    refine⟨rfl,sv2, ?_,pH⟩
    rw[cI]at x3
    exact x3
theorem akp(x:dV h lo n w sv l)(hl:l.length<=100000000)(aA:33<=lf):aj (fun c=>c=w∨aD sv c) n (au ai gt lf (d+2) 16 #[.pointer (some ⟨w,0,none⟩)]) h n fun v' h' n'=>v'= .tuple #[]∧∃dg,dV h' lo n' w dg (pG l)∧∀c,c<n->aD dg c->aD sv c:=by
 rw[aQ (fun _=>Sp) rfl]
 refine aj.aP ?_
 unfold Ep
 exact ako (oA l.length) lf n h sv l (by unfold oA;omega) (by unfold oA;omega) (by unfold oA;omega) (by omega) (av _) (ep.lt x) x fun c _ q=>q
theorem akq(x:dV h lo n w sv l):aj (fun _=>False) n (au ai gt lf (d+1) 14 #[.pointer (some ⟨w,0,none⟩)]) h n fun v' h' n'=>v'= .int .i64 (l.length:Int)∧h'=h∧n'=n:=by
 have gw:=ep.get x
 unfold xA at gw
 have lt:=ep.lt x
 rw[aQ (fun _=>Si) rfl]
 refine aj.aP ?_
 unfold J9
 try simp(disch:=first|omega|assumption|exact aa _) only[ah,ae,RZ,gw]
 all_goals (first|rfl|exact⟨rfl,rfl,rfl⟩|exact⟨rfl,rfl⟩)
theorem akr:aj (fun _=>False) n (au ai gt lf (d+1) 9 #[]) h n fun v h' n'=>v= .pointer (some ⟨n,0,none⟩)∧n'=n+1∧dV h' n n' n (.slice none 0 0) []:=akm
theorem aks(x:dV h lo n w sv l):aj (fun c=>c=w) n (au ai gt lf (d+1) 17 #[.pointer (some ⟨w,0,none⟩)]) h n fun v h' n'=>v= .string ⟨(bS (NF l)).toArray⟩∧n'=n:=(akn (lf:=lf) (d:=d) x).mono fun _ _ _ _ q=>⟨q.1,q.2.1⟩
theorem akt(hl:l.length<=100000000)(aA:33<=lf):aj (fun _=>False) n (au ai gt lf (d+1) 50 #[tx l]) h n fun v' h' n'=>v'=tx (pG l)∧h'=h∧n'=n:=by
 rw[aQ (fun _=>afk) rfl]
 refine aj.aP ?_
 unfold Ku
 have key:∀(m fu:Nat) (l:List Bool),(l.length+m)%8=0->m<8->m<fu->l.length+m<=100000100->aj (fun _=>False) n (vZ lf (au ai gt lf d) fu (EJ lf (au ai gt lf d)) (tx l) (.string ⟨#[]⟩)) h n fun v' h' n'=>v'=tx (l++bI m false)∧h'=h∧n'=n:=by
  intro m
  induction m with
  |zero=>
   intro fu l h8 hm hf hl
   obtain⟨fu,rfl⟩:∃f,fu=f+1:=⟨fu-1,by omega⟩
   have e1:((l.length:Nat):Int).tmod 8=((l.length %8:Nat):Int):=rfl
   have e2:((((l.length %8:Nat):Int)) !=0)=false:=by rw[show l.length %8=0 by omega];rfl
   rw[vZ]
   try simp(disch:=first|omega|assumption|exact aa _) only[ah,ae,RZ,qy,e1,e2]
   (try unfold EJ);(try dsimp only)
   try simp(disch:=first|omega|assumption|exact aa _) only[ah,ae,RZ]
   simp
  |succ m ih=>
   intro fu l h8 hm hf hl
   obtain⟨fu,rfl⟩:∃f,fu=f+1:=⟨fu-1,by omega⟩
   have e1:((l.length:Nat):Int).tmod 8=((l.length %8:Nat):Int):=rfl
   have e2:((((l.length %8:Nat):Int)) !=0)=true:=by rw[bne_iff_ne];omega
   have e3:=lJ l [false] (by simp;omega)
   rw[vZ]
   try simp(disch:=first|omega|assumption|exact aa _) only[ah,ae,RZ,qy,e1,e2,rT,e3]
   have:=ih fu (l++[false]) (by simp;omega) (by omega) (by omega) (by simp;omega)
   rw[cI]at this
   exact this
 exact key (oA l.length) lf l (by unfold oA;omega) (by unfold oA;omega) (by unfold oA;omega) (by unfold oA;omega)
theorem aku(a b:List Nat):bS (a++b)=bS a++bS b:=by unfold bS;simp
theorem akv(aA:100<=lf)(x2:Value){nn:Nat}:∀(m fu n:Nat) (h:H) (l:List Bool) (ws:List Nat),nn<=n->l.length=8*m->m<fu->ws.length+m<=100000000->aj (fun _=>False) nn (vY lf (au ai gt lf (d+1)) fu (EI lf (au ai gt lf (d+1))) (tx l) x2 (.string ⟨(bS ws).toArray⟩)) h n fun v' h' n'=>v'= .string ⟨(bS (gU (ws,[]) l).1).toArray⟩:=by
 intro m
 induction m with
 |zero=>
  intro fu n h l ws hn h8 hf hl
  obtain⟨fu,rfl⟩:∃f,fu=f+1:=⟨fu-1,by omega⟩
  obtain rfl:l=[]:=List.eq_nil_of_length_eq_zero (by omega)
  rw[vY]
  try simp(disch:=first|omega|assumption|exact aa _) only[ah,ae,RZ,cd,cj,cr,ct,cz,cA,cB,cC,cD,cE,qy,List.length_nil]
  (try unfold EI);(try dsimp only)
  try simp(disch:=first|omega|assumption|exact aa _) only[ah,ae,RZ]
  rfl
 |succ m ih=>
  intro fu n h l ws hn h8 hf hl
  obtain⟨fu,rfl⟩:∃f,fu=f+1:=⟨fu-1,by omega⟩
  have e1:(8:Int)<=((l.length:Nat):Int):=by omega
  have s1:=fun(k:Value->M Value)=>YU l .i64 8 k (by decide) (by omega)
  have s2:=fun(k:Value->M Value)=>aiE l .i64 8 k (by decide) (by omega)
  have l8:(l.take 8).length=8:=by rw[cJ];omega
  have n8:=y6 (l.take 8)
  rw[l8]at n8
  rw[show(8:Int).toNat=8 from rfl]at s1 s2
  rw[vY]
  try simp(disch:=first|omega|assumption|exact aa _) only[ah,ae,RZ,qy,e1,s1]
  refine bV (aiG (lf:=lf) (d:=d) (l.take 8) (by omega) (by omega)) hn (fun _ _ h=>h.elim) ?_
  have w1:=w8 (x:=num (l.take 8) 0) (by omega)
  try simp(disch:=first|omega|assumption|exact aa _) only[ah,ae,RZ,w1]
  refine DX trivial (ky _ _) _ ?_
  refine XQ (ws:=[num (l.take 8) 0]) (get_eq _ _ _) (fp n) (av _) rfl _ ?_
  have a1:=fun(k:Value->M Value)=>yz k (bS ws) (bS [num (l.take 8) 0]) (by unfold bS;simp;omega)
  rw[<-aku]at a1
  try simp(disch:=first|omega|assumption|exact aa _) only[ah,ae,RZ,a1,s2]
  have:=ih fu (n+1) (h.set n (some ⟨5,true,[.int .u8 (num (l.take 8) 0:Int)]⟩)) (l.drop 8) (ws++[num (l.take 8) 0]) (by omega) (by rw[List.length_drop];omega) (by omega) (by simp;omega)
  refine this.mono ?_
  rintro v' h' n' _ rfl
  rw[show gU (ws,[]) l=gU (ws++[num (l.take 8) 0],[]) (l.drop 8) by rw[<-ahM ws (l.take 8) l8,<-Bz,List.take_append_drop]]
theorem akw(l:List Bool):(pG l).length %8=0:=by
 unfold pG oA
 simp
 omega
theorem akx(hl:l.length<=10000000)(aA:2000000<=lf):aj (fun _=>False) n (au ai gt lf (d+3) 18 #[tx l]) h n fun v' h' n'=>v'= .string ⟨(bS (NF (pG l))).toArray⟩:=by
 rw[aQ (fun _=>aeN) rfl]
 refine aj.aP ?_
 unfold Sr
 refine bV (akt (lf:=lf) (d:=d+1) (by omega) (by omega)) (av _) (fun _ _ h=>h.elim) ?_
 have hp:=akw l
 have hb:(pG l).length<=l.length+8:=by unfold pG oA;simp;omega
 have rb:aj (fun _=>False) n (au ai gt lf (d+2) 49 #[tx (pG l)]) h n fun v' h' n'=>v'= .string ⟨(bS (NF (pG l))).toArray⟩:=by
  rw[aQ (fun _=>afi) rfl]
  refine aj.aP ?_
  unfold Kt
  exact akv (by omega) _ ((pG l).length/8) lf n h (pG l) [] (av _) (by omega) (by omega) (by simp;omega)
 refine bh aW rb (av _) (fun _ _ h=>h.elim) fun v1 h1 n1 _ _ hq=> ?_
 subst hq
 try simp(disch:=first|omega|assumption|exact aa _) only[ah,ae,RZ]
end
end Go.Proofs.YtdagfcflbphoiaaGreatDoor
namespace Go.Proofs.YtdagfcflbphoiaaGreatDoor
open Go.RowKit Ev Cn
def mD(k:Nat):List Bool:=(bI k [true,false]).flatten
def oB(k:Nat):List Bool:=(bI k [true,true]).flatten
def pI:Nat->List Nat->List Bool
 |_,[]=>[]
 |now,n::l=>mD (n-now)++(oB (now-n)++(false::pI n l))
def iI(ln:List Nat):List Bool:=bY (ln.getD 0 0) 5++pI (ln.getD 0 0) ln
theorem aag(k:Nat):mD (k+1)=[true,false]++mD k:=by unfold mD;rw[Hx,amZ]
theorem aah(k:Nat):oB (k+1)=[true,true]++oB k:=by unfold oB;rw[Hx,amZ]
theorem zw(k:Nat):(mD k).length=2*k:=by unfold mD;simp;omega
theorem B9(k:Nat):(oB k).length=2*k:=by unfold oB;simp;omega
theorem NG:∀(ln:List Nat) (now:Nat),now<=20->(∀x∈ln,x<=20)->(pI now ln).length<=41*ln.length
 |[],_,_,_=>by simp[pI]
 |n::l,now,h,hl=>by
  have:=NG l n (hl n (by simp)) fun x hx=>hl x (by simp[hx])
  have:=hl n (by simp)
  unfold pI
  simp only[aY,dI,zw,B9]
  omega
def G5(r:FuncId->Array Value->M Value)(fv:Value)(W:Nat->Prop)(n0:Nat)(St:List Bool->H->Nat->Prop):Prop:=
 ∀(Q:Value->H->Nat->Prop) (l:List Bool) (h:H) (n v k:Nat) (K:Value->M Value),St l h n->l.length<=10000000->v<2^k->k<=15->(∀h' n',St (l++bY v k) h' n'->aj W n0 (K (.tuple #[])) h' n' Q)->aj W n0 (fO ai r fv [.int .i64 (v:Int),.int .i64 (k:Int)] K) h n Q
section
variable {lf:Nat} {r:FuncId->Array Value->M Value} {fv:Value} {W:Nat->Prop} {n0:Nat} {St:List Bool->H->Nat->Prop} (sk:G5 r fv W n0 St) {Q:Value->H->Nat->Prop}
include sk
theorem aky(a e f g x:Value)(N:Nat)(hN:N<=20)(K:Value->Value->Value->Value->Value->Value->Value->Value->Value->M Value):∀(m now fu:Nat) (l:List Bool) (h:H) (n:Nat),N-now<=m->m<fu->now<=20->St l h n->l.length+2*m<=10000000->
 (∀h' n',St (l++mD (N-now)) h' n'->aj W n0 (K a fv (.int .i64 ((max now N:Nat):Int)) (.int .i64 (N:Int)) e f g x (.bool false)) h' n' Q)->aj W n0 (wi lf r fu K a fv (.int .i64 (now:Int)) (.int .i64 (N:Int)) e f g x) h n Q:=by
 intro m
 induction m with
 |zero=>
  intro now fu l h n hm hf hn st hl hK
  obtain⟨fu,rfl⟩:∃f,fu=f+1:=⟨fu-1,by omega⟩
  rw[wi]
  have c:¬((now:Int)<(N:Int)):=by omega
  have:=hK h n (by rw[show N-now=0 by omega];simpa[mD]using st)
  rw[am0 (by omega)]at this
  try simp(disch:=first|omega|assumption|exact aa _) only[ah,ae,RZ,c]
  exact this
 |succ m ih=>
  intro now fu l h n hm hf hn st hl hK
  obtain⟨fu,rfl⟩:∃f,fu=f+1:=⟨fu-1,by omega⟩
  rw[wi]
  by_cases c:now<N
  ·have c':(now:Int)<(N:Int):=by omega
   have w1:((now:Int)+1)=((now+1:Nat):Int):=rfl
   try simp(disch:=first|omega|assumption|exact aa _) only[ah,ae,RZ,c']
   refine sk Q l h n 2 2 _ st (by omega) (by decide) (by omega) fun h1 n1 xB=> ?_
   try simp(disch:=first|omega|assumption|exact aa _) only[ah,ae,RZ]
   rw[w1]
   refine ih (now+1) fu _ h1 n1 (by omega) (by omega) (by omega) xB (by rw[aY,dL];omega) fun h' n' pJ=> ?_
   rw[cI,show bY 2 2=[true,false]from rfl,<-aag,show N-(now+1)+1=N-now by omega]at pJ
   have:=hK h' n' pJ
   rwa[show max (now+1) N=max now N by omega]
  ·have c':¬((now:Int)<(N:Int)):=by omega
   have:=hK h n (by rw[show N-now=0 by omega];simpa[mD]using st)
   rw[am0 (by omega)]at this
   try simp(disch:=first|omega|assumption|exact aa _) only[ah,ae,RZ,c']
   exact this
theorem akz(a e f g x y:Value)(N:Nat)(K:Value->Value->Value->Value->Value->Value->M Value):∀(m now fu:Nat) (l:List Bool) (h:H) (n:Nat),now-N<=m->m<fu->now<=20->St l h n->l.length+2*m<=10000000->
 (∀h' n',St (l++oB (now-N)) h' n'->aj W n0 (K a fv (.int .i64 ((min now N:Nat):Int)) e f g) h' n' Q)->aj W n0 (wj lf r fu K a fv (.int .i64 (now:Int)) (.int .i64 (N:Int)) e f g x y) h n Q:=by
 intro m
 induction m with
 |zero=>
  intro now fu l h n hm hf hn st hl hK
  obtain⟨fu,rfl⟩:∃f,fu=f+1:=⟨fu-1,by omega⟩
  rw[wj]
  have c:¬((N:Int)<(now:Int)):=by omega
  have:=hK h n (by rw[show now-N=0 by omega];simpa[oB]using st)
  rw[xM (by omega)]at this
  try simp(disch:=first|omega|assumption|exact aa _) only[ah,ae,RZ,c]
  exact this
 |succ m ih=>
  intro now fu l h n hm hf hn st hl hK
  obtain⟨fu,rfl⟩:∃f,fu=f+1:=⟨fu-1,by omega⟩
  rw[wj]
  by_cases c:N<now
  ·have c':(N:Int)<(now:Int):=by omega
   have w1:((now:Int)-1)=((now-1:Nat):Int):=by omega
   try simp(disch:=first|omega|assumption|exact aa _) only[ah,ae,RZ,c']
   refine sk Q l h n 3 2 _ st (by omega) (by decide) (by omega) fun h1 n1 xB=> ?_
   try simp(disch:=first|omega|assumption|exact aa _) only[ah,ae,RZ]
   rw[w1]
   refine ih (now-1) fu _ h1 n1 (by omega) (by omega) (by omega) xB (by rw[aY,dL];omega) fun h' n' pJ=> ?_
   rw[cI,show bY 3 2=[true,true]from rfl,<-aah,show now-1-N+1=now-N by omega]at pJ
   have:=hK h' n' pJ
   rwa[show min (now-1) N=min now N by omega]
  ·have c':¬((N:Int)<(now:Int)):=by omega
   have:=hK h n (by rw[show now-N=0 by omega];simpa[oB]using st)
   rw[xM (by omega)]at this
   try simp(disch:=first|omega|assumption|exact aa _) only[ah,ae,RZ,c']
   exact this
theorem akA{b off cap:Nat}{ln:List Nat}(eo:∀l h n,St l h n->Row h n 3 .i64 (.slice (some ⟨b,off,none⟩) ln.length cap) (iN ln))(py:∀x∈ln,x<=20)(ml:ln.length<=1000)(aA:3000<=lf):∀(m i now fu:Nat) (l:List Bool) (h:H) (n:Nat),ln.length-i=m->m<fu->i<=ln.length->now<=20->St l h n->l.length+41*m<=9000000->
 (∀h' n',St (l++pI now (ln.drop i)) h' n'->Q (.tuple #[]) h' n')->aj W n0 (wm lf r fu (EP lf r) (.slice (some ⟨b,off,none⟩) ln.length cap) fv (.int .i64 (now:Int)) (.slice (some ⟨b,off,none⟩) ln.length cap) (.int .i64 (ln.length:Int)) (.int .i64 (i:Int))) h n Q:=by
 intro m
 induction m with
 |zero=>
  intro i now fu l h n hm hf hi hn st hl hQ
  obtain⟨fu,rfl⟩:∃f,fu=f+1:=⟨fu-1,by omega⟩
  obtain rfl:i=ln.length:=by omega
  rw[wm]
  try simp(disch:=first|omega|assumption|exact aa _) only[ah,ae,RZ,bH]
  rw[EP]
  try simp(disch:=first|omega|assumption|exact aa _) only[ah,ae,RZ]
  refine hQ h n ?_
  rw[oL]
  simpa[pI]using st
 |succ m ih=>
  intro i now fu l h n hm hf hi hn st hl hQ
  obtain⟨fu,rfl⟩:∃f,fu=f+1:=⟨fu-1,by omega⟩
  obtain⟨b',kM,cG,o,cs,hv,hg,hb,_,_,_,bk⟩:=(eo l h n st).some (by rw[db];omega)
  have bX:jH (some ⟨b,off,none⟩) ln.length cap= .slice (some ⟨b',kM,none⟩) (iN ln).length cG:=hv
  rw[db]at bX
  cases bX
  have e1:((i:Nat):Int)<((ln.length:Nat):Int):=by omega
  have c1:=bk i (by rw[db];omega)
  rw[kz]at c1
  have hx:ln.getD i 0<=20:=py _ (by rw[aF,aM (by omega)];exact cN _)
  have w1:((i:Nat):Int)+1=((i+1:Nat):Int):=rfl
  rw[wm]
  try simp(disch:=first|omega|assumption|exact aa _) only[ah,ae,RZ,e1,hg,c1]
  refine aky sk _ _ _ _ _ (ln.getD i 0) hx _ 20 now lf l h n (by omega) (by omega) hn st (by omega) fun h1 n1 xB=> ?_
  unfold EO
  (try dsimp only)
  refine akz sk _ _ _ _ _ _ (ln.getD i 0) _ 20 (max now (ln.getD i 0)) lf _ h1 n1 (by omega) (by omega) (by omega) xB (by rw[aY,zw];omega) fun h2 n2 st2=> ?_
  unfold Kz
  (try dsimp only)
  refine sk Q _ h2 n2 0 1 _ st2 (by simp only[aY,zw,B9];omega) (by decide) (by omega) fun h3 n3 st3=> ?_
  try simp(disch:=first|omega|assumption|exact aa _) only[ah,ae,RZ]
  rw[w1,show min (max now (ln.getD i 0)) (ln.getD i 0)=ln.getD i 0 by omega]
  refine ih (i+1) (ln.getD i 0) fu _ h3 n3 (by omega) (by omega) (by omega) hx st3 (by simp only[aY,zw,B9,dL];omega) fun h' n' pJ=>hQ h' n' ?_
  rw[jW 0 (show i<ln.length by omega)]
  unfold pI
  rw[show max now (ln.getD i 0)-ln.getD i 0=now-ln.getD i 0 by omega,show bY 0 1=[false]from rfl]at pJ
  simpa[cI]using pJ
end
theorem NH{β:Type}{rec:FuncId->Array Value->M Value}{F:FuncId}(hb:mL ai F=true)(cs vs:List Value)(k:Value->M β):fO ai rec (.func (.func F) #[] cs.toArray) vs k=az rec F (vs++cs) k:=by
 unfold fO
 show aS (some _) _=_
 rw[vz]
 simp only[hb]
 exact(pc _ _).symm
section
variable {lf d n:Nat} {h:H}
theorem akB{F:FuncId}(hb:mL ai F=true)(cs:List Value)(p:Int->Bool){v:Value}{xs:List Int}(hR:Row h n 3 .i64 v xs)(hF:∀x∈xs,aj (fun _=>False) n (au ai gt lf d F ⟨.int .i64 x::cs⟩) h n fun v' h' n'=>v'= .bool (p x)∧h'=h∧n'=n)(hl:xs.length<=1000000)(aA:3000000<=lf):
 aj (fun _=>False) n (au ai gt lf (d+1) 128 #[v,.func (.func F) #[] cs.toArray]) h n fun v' h' n'=>(∃z,v'= .int .i64 z∧decide (0<=z)=xs.any p)∧h'=h∧n'=n:=by
 rw[aQ (fun _=>Fu) rfl]
 refine aj.aP ?_
 unfold yO
 have bg:=hR
 obtain⟨a,c,rfl⟩:=hR.len
 have key:∀(m i fu:Nat),xs.length-i=m->m<fu->i<=xs.length->aj (fun _=>False) n (m7 lf (au ai gt lf d) fu (pq lf (au ai gt lf d)) (.slice a xs.length c) (.func (.func F) #[] cs.toArray) (.int .i64 0) (.int .i64 (xs.length:Int)) (.int .i64 (i:Int))) h n fun v' h' n'=>(∃z,v'= .int .i64 z∧decide (0<=z)=(xs.drop i).any p)∧h'=h∧n'=n:=by
  intro m
  induction m with
  |zero=>
   intro i fu hm hf hi
   obtain⟨fu,rfl⟩:∃f,fu=f+1:=⟨fu-1,by omega⟩
   obtain rfl:i=xs.length:=by omega
   rw[m7]
   try simp(disch:=first|omega|assumption|exact aa _) only[ah,ae,RZ,bH]
   (try unfold pq);(try dsimp only)
   try simp(disch:=first|omega|assumption|exact aa _) only[ah,ae,RZ]
   exact⟨-1,rfl,by simp⟩
  |succ m ih=>
   intro i fu hm hf hi
   obtain⟨fu,rfl⟩:∃f,fu=f+1:=⟨fu-1,by omega⟩
   obtain⟨b,off,cap,o,ks,hv,hg,bO,_,_,_,bk⟩:=bg.some (by omega)
   have bX:jH a xs.length c= .slice (some ⟨b,off,none⟩) xs.length cap:=hv
   cases bX
   have e1:((i:Nat):Int)<((xs.length:Nat):Int):=by omega
   have c1:=bk i (by omega)
   have w1:((i:Nat):Int)+1=((i+1:Nat):Int):=rfl
   rw[m7]
   try simp(disch:=first|omega|assumption|exact aa _) only[ah,ae,RZ,e1,hg,c1]
   rw[NH hb]
   refine bV (hF (xs.getD i 0) (by rw[aF,aM (by omega)];exact cN _)) (av _) (fun _ _ h=>h.elim) ?_
   rw[jW 0 (show i<xs.length by omega),List.any_cons]
   cases hp:p (xs.getD i 0)with
   |true=>
    try simp(disch:=first|omega|assumption|exact aa _) only[ah,ae,RZ]
    (try unfold pq);(try dsimp only)
    try simp(disch:=first|omega|assumption|exact aa _) only[ah,ae,RZ]
    exact⟨(i:Int),rfl,by simp⟩
   |false=>
    try simp(disch:=first|omega|assumption|exact aa _) only[ah,ae,RZ]
    rw[w1,Bool.false_or]
    exact ih (i+1) fu (by omega) (by omega) (by omega)
 try simp(disch:=first|omega|assumption|exact aa _) only[ah,ae,RZ]
 exact key xs.length 0 lf (by omega) (by omega) (by omega)
theorem aai{F:FuncId}(hb:mL ai F=true)(cs:List Value)(p:Int->Bool){v:Value}{xs:List Int}(hR:Row h n 3 .i64 v xs)(hF:∀x∈xs,aj (fun _=>False) n (au ai gt lf d F ⟨.int .i64 x::cs⟩) h n fun v' h' n'=>v'= .bool (p x)∧h'=h∧n'=n)(hl:xs.length<=1000000)(aA:3000000<=lf):
 aj (fun _=>False) n (au ai gt lf (d+2) 103 #[v,.func (.func F) #[] cs.toArray]) h n fun v' h' n'=>v'= .bool (xs.any p)∧h'=h∧n'=n:=by
 rw[aQ (fun _=>E9) rfl]
 refine aj.aP ?_
 unfold A6
 refine bh aW (akB hb cs p hR hF hl aA) (av _) (fun _ _ h=>h.elim) fun v' h' n' _ _ hq=> ?_
 obtain⟨⟨r,rfl,hr⟩,rfl,rfl⟩:=hq
 try simp(disch:=first|omega|assumption|exact aa _) only[ah,ae,RZ]
 rw[hr]
theorem akC(x:Int)(h1:1<=x)(h2:x<=20):aj (fun _=>False) n (au ai gt lf (d+2) 106 #[.int .i64 x]) h n fun v' h' n'=>v'= .bool false∧h'=h∧n'=n:=by
 rw[aQ (fun _=>U3) rfl]
 refine aj.aP ?_
 unfold K5
 have s1:aj (fun _=>False) n (au ai gt lf (d+1) 107 #[.int .i64 x]) h n fun v' h' n'=>v'= .bool true∧h'=h∧n'=n:=by
  rw[aQ (fun _=>U4) rfl]
  refine aj.aP ?_
  unfold K7
  try simp(disch:=first|omega|assumption|exact aa _) only[ah,ae,RZ,h1,h2]
  all_goals (first|rfl|exact⟨rfl,rfl,rfl⟩|exact⟨rfl,rfl⟩)
 refine bV s1 (av _) (fun _ _ h=>h.elim) ?_
 try simp(disch:=first|omega|assumption|exact aa _) only[ah,ae,RZ,gM]
 all_goals (first|rfl|exact⟨rfl,rfl,rfl⟩|exact⟨rfl,rfl⟩)
theorem aaj{v:Value}{ln:List Nat}(hR:Row h n 3 .i64 v (iN ln))(h3:3<=ln.length)(hl:ln.length<=258)(lo:∀x∈ln,1<=x)(hi:∀x∈ln,x<=20)(aA:3000000<=lf):aj (fun _=>False) n (au ai gt lf (d+5) 68 #[v]) h n fun v' h' n'=>v'= .bool true∧h'=h∧n'=n:=by
 rw[aQ (fun _=>TM) rfl]
 refine aj.aP ?_
 unfold Ky
 have bg:=hR
 obtain⟨a,c,rfl⟩:=hR.len
 have bR:=db ln
 have s1:aj (fun _=>False) n (au ai gt lf (d+4) 91 #[.int .i64 ((iN ln).length:Int)]) h n fun v' h' n'=>v'= .bool true∧h'=h∧n'=n:=by
  rw[aQ (fun _=>Ut) rfl]
  refine aj.aP ?_
  unfold KX
  have c1:(3:Int)<=((iN ln).length:Int):=by omega
  have c2:((iN ln).length:Int)<=258:=by omega
  try simp(disch:=first|omega|assumption|exact aa _) only[ah,ae,RZ,c1,c2]
  all_goals (first|rfl|exact⟨rfl,rfl,rfl⟩|exact⟨rfl,rfl⟩)
 try simp(disch:=first|omega|assumption|exact aa _) only[ah,ae,RZ]
 refine bV s1 (av _) (fun _ _ h=>h.elim) ?_
 try simp(disch:=first|omega|assumption|exact aa _) only[ah,ae,RZ]
 have s2:=aai (lf:=lf) (d:=d+2) (F:=106) (by kernel_rfl) [] (fun _=>false) bg (fun x hx=>akC (lf:=lf) (d:=d) x (by
  unfold iN at hx;obtain⟨y,hy,rfl⟩:=List.mem_map.1 hx;have:=lo y hy;omega) (by
  unfold iN at hx;obtain⟨y,hy,rfl⟩:=List.mem_map.1 hx;have:=hi y hy;omega)) (by omega) aA
 refine bV s2 (av _) (fun _ _ h=>h.elim) ?_
 have e:((iN ln).any fun _=>false)=false:=by simp
 rw[e]
 try simp(disch:=first|omega|assumption|exact aa _) only[ah,ae,RZ,iP]
 all_goals (first|rfl|exact⟨rfl,rfl,rfl⟩|exact⟨rfl,rfl⟩)
theorem aak{fv:Value}{W:Nat->Prop}{n0:Nat}{St:List Bool->H->Nat->Prop}(sk:G5 (au ai gt lf d) fv W n0 St){v:Value}{ln:List Nat}(eo:∀l h n,St l h n->Row h n 3 .i64 v (iN ln))(h3:1<=ln.length)(hl:ln.length<=258)(hi:∀x∈ln,x<=20)(aA:3000000<=lf)(l:List Bool)(st:St l h n)(iB:l.length<=8000000):
 aj W n0 (au ai gt lf (d+1) 69 #[v,fv]) h n fun v' h' n'=>v'= .tuple #[]∧St (l++iI ln) h' n':=by
 rw[aQ (fun _=>TS) rfl]
 refine aj.aP ?_
 unfold ER
 obtain⟨b,off,cap,o,ks,rfl,hg,hb,_,_,_,bk⟩:=(eo l h n st).some (by rw[db];omega)
 have c1:=bk 0 (by rw[db];omega)
 rw[kz]at c1
 rw[db]at eo⊢
 rw[mH]at c1
 have h0:ln.getD 0 0<=20:=hi _ (by rw[aF,aM (by omega)];exact cN _)
 have i1:(0:Int)<((ln.length:Nat):Int):=by omega
 try simp(disch:=first|omega|assumption|exact aa _) only[ah,ae,RZ,i1,hg,c1]
 refine sk _ l h n (ln.getD 0 0) 5 _ st (by omega) (by omega) (by omega) fun h1 n1 xB=> ?_
 try simp(disch:=first|omega|assumption|exact aa _) only[ah,ae,RZ]
 refine akA sk eo hi (by omega) (by omega) ln.length 0 (ln.getD 0 0) lf _ h1 n1 (by omega) (by omega) (by omega) h0 xB (by rw[aY,dL];omega) fun h' n' pJ=>⟨rfl, ?_⟩
 rw[cI,eJ]at pJ
 exact pJ
end
section
variable {lf d lo n w:Nat} {h:H} {sv:Value} {l:List Bool}
theorem akD(x:dV h lo n w sv l){c0 v k:Nat}{e:TypeId}(gc:h.get c0=some ⟨e,true,[.pointer (some ⟨w,0,none⟩)]⟩)(hc:c0<n)(hk:k<=15)(hv:v<2^k)(hl:l.length<=1000000000)(aA:33<=lf):
 aj (fun c=>c=w∨aD sv c) n (au ai gt lf (d+3) 70 #[.int .i64 (v:Int),.int .i64 (k:Int),.pointer (some ⟨c0,0,none⟩)]) h n fun v' h' n'=>v'= .tuple #[]∧∃dg,dV h' lo n' w dg (l++bY v k)∧∀c,c<n->aD dg c->aD sv c:=by
 rw[aQ (fun _=>TU) rfl]
 refine aj.aP ?_
 unfold KB
 have p15:2^k<=2^15:=sw (by decide) hk
 have w1:=mw (x:=v) (by omega)
 try simp(disch:=first|omega|assumption|exact aa _) only[ah,ae,RZ,gc,w1]
 refine bh aW (zv (lf:=lf) (d:=d) x (by omega) hv hl aA) (av _) (fun b _ hb=> .inr hb) fun v1 h1 n1 bQ cM hq=> ?_
 obtain⟨rfl,dg,x',mP⟩:=hq
 try simp(disch:=first|omega|assumption|exact aa _) only[ah,ae,RZ]
 exact⟨dg,x',mP⟩
def StW(lo w c0 m1:Nat)(e:TypeId)(sv v:Value)(ln:List Nat)(l:List Bool)(h:H)(n:Nat):Prop:=
 m1<=n∧(∃si,dV h lo n w si l∧∀c,c<m1->aD si c->aD sv c)∧Row h n 3 .i64 v (iN ln)∧h.get c0=some ⟨e,true,[.pointer (some ⟨w,0,none⟩)]⟩
theorem akE{c0 m1 n0:Nat}{e:TypeId}{v:Value}{ln:List Nat}(hw:w<m1)(hc:c0<m1)(hcw:c0≠w)(eh:¬aD sv c0)(hv:∀b,aD v b->b<m1∧b≠w∧¬aD sv b)(h0:n0<=m1)(aA:33<=lf):
 G5 (au ai gt lf (d+3)) (.func (.func 70) #[] #[.pointer (some ⟨c0,0,none⟩)]) (fun c=>c=w∨aD sv c) n0 (StW lo w c0 m1 e sv v ln):=by
 intro Q l h n x k K st hl hx hk hK
 obtain⟨hn,⟨si,yc,zx⟩,eo,gc⟩:=st
 rw[NH (by kernel_rfl) [.pointer (some ⟨c0,0,none⟩)]]
 refine bh aW (akD (lf:=lf) (d:=d) yc gc (by omega) hk hx (by omega) aA) (by omega) (fun b hb hq=> ?_) fun v1 h1 n1 bQ cM hq=> ?_
 ·rcases hq with rfl|hq
  ·exact .inr (.inl rfl)
  ·by_cases jL:b<m1
   ·exact .inr (.inr (zx b jL hq))
   ·exact .inl (by omega)
 ·obtain⟨rfl,dg,x',mP⟩:=hq
  refine hK h1 n1 ⟨by omega,⟨dg,x',fun c xC q=>zx c xC (mP c (by omega) q)⟩,eo.fI bQ fun b hb=> ?_, ?_⟩
  ·obtain⟨q1,q2,q3⟩:=hv b hb
   exact cM b (by omega) fun q=>by
    rcases q with q|q
    ·exact q2 q
    ·exact q3 (zx b q1 q)
  ·rw[cM c0 (by omega) fun q=>by
    rcases q with q|q
    ·exact hcw q
    ·exact eh (zx c0 hc q)]
   exact gc
theorem akF(x:dV h lo n w sv l){v:Value}{ln:List Nat}(hR:Row h n 3 .i64 v (iN ln))(hd:∀b,aD v b->b≠w∧¬aD sv b)(h3:3<=ln.length)(ml:ln.length<=258)(l1:∀x∈ln,1<=x)(hi:∀x∈ln,x<=20)(hl:l.length<=8000000)(aA:3000000<=lf):
 aj (fun c=>c=w∨aD sv c) n (au ai gt lf (d+6) 38 #[.pointer (some ⟨w,0,none⟩),v]) h n fun v' h' n'=>v'= .int .i64 0∧∃dg,dV h' lo n' w dg (l++iI ln)∧∀c,c<n->aD dg c->aD sv c:=by
 rw[aQ (fun _=>SL) rfl]
 refine aj.aP ?_
 unfold Kh
 have lt:=ep.lt x
 have G6:∀b,aD sv b->b<n:=fun b hb=>(ep.own x|>.lt hb).2
 have bg:=hR
 obtain⟨a,c,rfl⟩:=hR.len
 refine qi trivial _ _ ?_
 have k1:∀b,b<n->(h.set n (some ⟨27,true,(zO (some ⟨w,0,none⟩)).cells.toList⟩)).get b=h.get b:=fun b hb=>aK _ _ (by omega)
 obtain⟨h1,lE⟩:∃h1,h.set n (some ⟨27,true,(zO (some ⟨w,0,none⟩)).cells.toList⟩)=h1:=⟨_,rfl⟩
 have g1:h1.get n=some ⟨27,true,[.pointer (some ⟨w,0,none⟩)]⟩:=by rw[<-lE,get_eq];rfl
 rw[lE]at k1⊢
 have dH:=bg.aB (cX n) k1
 try simp(disch:=first|omega|assumption|exact aa _) only[ah,ae,RZ,g1]
 refine bV (aaj (lf:=lf) (d:=d) dH h3 ml l1 hi aA) (by omega) (fun _ _ h=>h.elim) ?_
 try simp(disch:=first|omega|assumption|exact aa _) only[ah,ae,RZ,gM]
 have x1:dV h1 lo (n+1) w sv l:=x.aB (cX n) fun b hb _=>k1 b hb
 have sk:=akE (lf:=lf) (d:=d+1) (lo:=lo) (w:=w) (sv:=sv) (c0:=n) (m1:=n+1) (n0:=n+1) (e:=27) (v:= .slice a (iN ln).length c) (ln:=ln) (by omega) (by omega) (by omega) (fun q=>by have:=G6 n q;omega) (fun b hb=>⟨by have:=bg.lt hb;omega,hd b hb⟩) (by omega) (by omega)
 have ss:=aak (lf:=lf) (d:=d+4) (h:=h1) (n:=n+1) sk (v:= .slice a (iN ln).length c) (ln:=ln) (fun l h n st=>st.2.2.1) (by omega) ml hi aA l ⟨av _,⟨sv,x1,fun c _ q=>q⟩,dH,g1⟩ hl
 refine bh aW ss (by omega) (fun b _ hb=> .inr hb) fun v2 h2 n2 ey eR hq=> ?_
 obtain⟨rfl,fy,⟨si,yc,zx⟩,_⟩:=hq
 try simp(disch:=first|omega|assumption|exact aa _) only[ah,ae,RZ]
 exact⟨si,yc,fun c hc q=>zx c (by omega) q⟩
def StB(c0 m1:Nat)(v:Value)(ln:List Nat)(l:List Bool)(h:H)(n:Nat):Prop:=
 m1<=n∧Row h n 3 .i64 v (iN ln)∧h.get c0=some ⟨3,true,[.int .i64 (l.length:Int)]⟩
theorem akG{c0:Nat}{t v k:Nat}(gc:h.get c0=some ⟨3,true,[.int .i64 (t:Int)]⟩)(hc:c0<n)(ht:t<=1000000000)(hk:k<=15):
 aj (fun c=>c=c0) n (au ai gt lf (d+1) 74 #[.int .i64 (v:Int),.int .i64 (k:Int),.pointer (some ⟨c0,0,none⟩)]) h n fun v' h' n'=>v'= .tuple #[]∧n'=n∧h'.get c0=some ⟨3,true,[.int .i64 ((t+k:Nat):Int)]⟩:=by
 rw[aQ (fun _=>TY) rfl]
 refine aj.aP ?_
 unfold KF
 have w1:(t:Int)+(k:Int)=((t+k:Nat):Int):=rfl
 try simp(disch:=first|omega|assumption|exact aa _) only[ah,ae,RZ,gc,w1]
theorem akH{c0 m1 n0:Nat}{v:Value}{ln:List Nat}(hc:c0<m1)(hv:∀b,aD v b->b≠c0)(h0:n0<=m1){W:Nat->Prop}(hW:n0<=c0∨W c0):
 G5 (au ai gt lf (d+1)) (.func (.func 74) #[] #[.pointer (some ⟨c0,0,none⟩)]) W n0 (StB c0 m1 v ln):=by
 intro Q l h n x k K st hl hx hk hK
 obtain⟨hn,eo,gc⟩:=st
 rw[NH (by kernel_rfl) [.pointer (some ⟨c0,0,none⟩)]]
 refine bh aW (akG (lf:=lf) (d:=d) (v:=x) gc (by omega) (by omega) hk) (by omega) (fun b hb hq=>hq▸hW) fun v1 h1 n1 bQ cM hq=> ?_
 obtain⟨rfl,rfl,g1⟩:=hq
 refine hK h1 n1 ⟨hn,eo.fI (av _) fun b hb=>cM b (eo.lt hb) (hv b hb), ?_⟩
 rw[aY,dL]
 exact g1
theorem akI{v:Value}{ln:List Nat}(hR:Row h n 3 .i64 v (iN ln))(h3:3<=ln.length)(ml:ln.length<=258)(l1:∀x∈ln,1<=x)(hi:∀x∈ln,x<=20)(aA:3000000<=lf):
 aj (fun _=>False) n (au ai gt lf (d+6) 42 #[v]) h n fun v' h' n'=>v'= .tuple #[.int .i64 ((iI ln).length:Int),.int .i64 0]:=by
 rw[aQ (fun _=>SX) rfl]
 refine aj.aP ?_
 unfold Kj
 refine bV (aaj (lf:=lf) (d:=d) hR h3 ml l1 hi aA) (by omega) (fun _ _ h=>h.elim) ?_
 try simp(disch:=first|omega|assumption|exact aa _) only[ah,ae,RZ,gM]
 have bg:=hR
 obtain⟨a,c,rfl⟩:=hR.len
 refine kU J2 _ ?_
 try simp(disch:=first|omega|assumption|exact aa _) only[ah,ae,RZ,get_eq]
 refine⟨.inl (av _), ?_⟩
 obtain⟨h1,lE⟩:∃h1,(h.set n (some ⟨3,true,[.int .i64 0]⟩)).set n (some ⟨3,true,[.int .i64 0]⟩)=h1:=⟨_,rfl⟩
 have g1:h1.get n=some ⟨3,true,[.int .i64 0]⟩:=by rw[<-lE,get_eq]
 have k1:∀b,b<n->h1.get b=h.get b:=fun b hb=>by rw[<-lE,aK _ _ (by omega),aK _ _ (by omega)]
 rw[lE]
 have sk:=akH (lf:=lf) (d:=d+3) (c0:=n) (m1:=n+1) (n0:=n+1) (v:= .slice a (iN ln).length c) (ln:=ln) (W:=fun b=>b=n) (by omega) (fun b hb=>by have:=bg.lt hb;omega) (by omega) (.inr rfl)
 have ss:=aak (lf:=lf) (d:=d+4) (h:=h1) (n:=n+1) sk (v:= .slice a (iN ln).length c) (ln:=ln) (fun l h n st=>st.2.1) (by omega) ml hi aA [] ⟨av _,bg.aB (cX n) k1,g1⟩ (by simp)
 refine bh aW ss (by omega) (fun b _ hb=> .inl (by omega)) fun v2 h2 n2 ey eR hq=> ?_
 obtain⟨rfl,fy,_,g2⟩:=hq
 rw[uD]at g2
 have pD:n<n2:=by omega
 try simp(disch:=first|omega|assumption|exact aa _) only[ah,ae,RZ,g2]
end
def dW(p:Nat):List Nat->Nat
 |[]=>0
 |a::l=>if a=p then 0 else dW p l+1
theorem zy{p:Nat}:∀{o:List Nat},p∈o->dW p o<o.length
 |a::l,h=>by
  unfold dW
  by_cases e:a=p
  ·rw[if_pos e];simp
  ·rw[if_neg e]
   have:p∈l:=by
    rcases List.mem_cons.1 h with q|q
    ·exact absurd q.symm e
    ·exact q
   have:=zy this
   simp
   omega
theorem NI{p:Nat}:∀{o:List Nat},p∈o->o.getD (dW p o) 0=p
 |a::l,h=>by
  unfold dW
  by_cases e:a=p
  ·rw[if_pos e];exact e
  ·rw[if_neg e]
   have:p∈l:=by
    rcases List.mem_cons.1 h with q|q
    ·exact absurd q.symm e
    ·exact q
   have:=NI this
   simpa using this
theorem NJ{p:Nat}:∀{o:List Nat} {j:Nat},j<dW p o->o.getD j 0≠p
 |[],j,h=>by simp[dW]at h
 |a::l,j,h=>by
  unfold dW at h
  by_cases e:a=p
  ·rw[if_pos e]at h;omega
  ·rw[if_neg e]at h
   cases j with
   |zero=>simpa using e
   |succ j=>
    have:=NJ (p:=p) (o:=l) (j:=j) (by omega)
    simpa using this
def fh:List Nat->List Nat->List Nat
 |_,[]=>[]
 |o,p::ps=>dW p o::fh (iF 0 o (dW p o)) ps
theorem ux:∀(ps o:List Nat),(fh o ps).length=ps.length
 |[],_=>rfl
 |p::ps,o=>by unfold fh;rw[dI,ux ps,dI]
def rX(o:List Nat):Prop:=o.length=6∧∀p,p<6->p∈o
theorem uy:rX eS:=⟨rfl,by decide⟩
theorem rX.iF{o:List Nat}(h:rX o){i:Nat}(hi:i<6):rX (iF 0 o i):=by
 refine⟨aiw h.1 hi,fun p hp=> ?_⟩
 have:=h.2 p hp
 obtain⟨a,b,c,d,e,f,rfl⟩:=xi h.1
 rcases i with _|_|_|_|_|_|i
 all_goals first|omega|(simp[Go.Proofs.YtdagfcflbphoiaaGreatDoor.iF]at this⊢;omega)
theorem xD:∀(ps o:List Nat),rX o->(∀p∈ps,p<6)->∀x∈fh o ps,x<6
 |[],_,_,_,x,hx=>by simp[fh]at hx
 |p::ps,o,h,hp,x,hx=>by
  have h1:=zy (h.2 p (hp p (by simp)))
  rw[h.1]at h1
  unfold fh at hx
  rcases List.mem_cons.1 hx with rfl|hx
  ·exact h1
  ·exact xD ps _ (h.iF h1) (fun q hq=>hp q (by simp[hq])) x hx
section
variable {lf d n q:Nat} {h:H} {e:TypeId} {O:List Nat}
theorem akJ(hO:O.length=6)(g:h.get q=some ⟨e,true,aJ .i64 (iN O)⟩)(hq:q<n){i:Nat}(hi:i<6)(aA:100<=lf):aj (fun b=>b=q) n (au ai gt lf (d+1) 129 #[.pointer (some ⟨q,0,none⟩),.int .i64 (i:Int)]) h n fun v h' n'=>n'=n∧h'.get q=some ⟨e,true,aJ .i64 (iN (iF 0 O i))⟩:=by
 have t:=ait (lf:=lf) (d:=d) (h:=h) (n:=n) (q:=q) (e:=e) (A:=[]) (O:=aJ .i64 (iN O)) (Z:=[]) (i:=i) (by rw[cT,db,hO]) (fun v hv=>by
  unfold aJ at hv
  obtain⟨x,_,rfl⟩:=List.mem_map.1 hv
  rfl) (by simpa using g) hq hi aA
 refine(t.run (n0:=n) (W:=fun b=>b=q) fun x hx=> .inr hx.1).mono ?_
 rintro v h' n' _ ⟨_,rfl,g',_⟩
 refine⟨rfl, ?_⟩
 rw[aix O hO hi]at g'
 simpa using g'
theorem akK(hS:rX O)(g:h.get q=some ⟨e,true,aJ .i64 (iN O)⟩)(hq:q<n){p:Nat}(hp:p<6)(aA:100<=lf):aj (fun b=>b=q) n (au ai gt lf (d+2) 105 #[.pointer (some ⟨q,0,none⟩),.int .i64 (p:Int)]) h n fun v h' n'=>v= .int .i64 (dW p O:Int)∧n'=n∧h'.get q=some ⟨e,true,aJ .i64 (iN (iF 0 O (dW p O)))⟩:=by
 rw[aQ (fun _=>U0) rfl]
 refine aj.aP ?_
 unfold Fa
 have bP:=hS.2 p hp
 have pl:=zy bP
 have l6:=hS.1
 have key:∀(m i fu:Nat),dW p O-i=m->m<fu->i<=dW p O->aj (fun b=>b=q) n (wG lf (au ai gt lf (d+1)) fu (E' lf (au ai gt lf (d+1))) (.pointer (some ⟨q,0,none⟩)) (.int .i64 (p:Int)) (.int .i64 0) (.int .i64 (i:Int))) h n fun v h' n'=>v= .int .i64 (dW p O:Int)∧n'=n∧h'.get q=some ⟨e,true,aJ .i64 (iN (iF 0 O (dW p O)))⟩:=by
  intro m
  induction m with
  |zero=>
   intro i fu hm hf hi
   obtain⟨fu,rfl⟩:∃f,fu=f+1:=⟨fu-1,by omega⟩
   obtain rfl:i=dW p O:=by omega
   have c1:(aJ .i64 (iN O))[dW p O]? =some (.int .i64 (p:Int)):=by
    unfold aJ iN
    rw[j4,j4,aM pl]
    have:=NI bP
    rw[aF,aM pl]at this
    simp only[zH]at this
    simp only[Option.map_some,this]
   have e0:((p:Int) !=(p:Int))=false:=by simp
   have NK:((dW p O:Nat):Int)<6:=by omega
   have i0:(0:Int)<=((dW p O:Nat):Int):=by omega
   have it:((dW p O:Nat):Int).toNat=dW p O:=rfl
   rw[wG]
   try simp(disch:=first|omega|assumption|exact aa _) only[ah,ae,RZ,g,NK,it,c1,e0,iO]
   (try unfold E');(try dsimp only)
   refine bh aW (akJ (lf:=lf) (d:=d) hS.1 g hq (by omega) aA) (av _) (fun b _ hb=> .inr hb) fun v1 h1 n1 _ _ nA=> ?_
   obtain⟨rfl,g1⟩:=nA
   try simp(disch:=first|omega|assumption|exact aa _) only[ah,ae,RZ]
   exact g1
  |succ m ih=>
   intro i fu hm hf hi
   obtain⟨fu,rfl⟩:∃f,fu=f+1:=⟨fu-1,by omega⟩
   have ke:i<dW p O:=by omega
   have c1:(aJ .i64 (iN O))[i]? =some (.int .i64 (O.getD i 0:Int)):=by
    unfold aJ iN
    rw[j4,j4,aF,aM (by omega)]
    rfl
   have e0:(((O.getD i 0:Nat):Int) !=(p:Int))=true:=by
    rw[bne_iff_ne]
    have:=NJ ke
    omega
   have NK:((i:Nat):Int)<6:=by omega
   have it:((i:Nat):Int).toNat=i:=rfl
   have w1:((i:Nat):Int)+1=((i+1:Nat):Int):=rfl
   rw[wG]
   try simp(disch:=first|omega|assumption|exact aa _) only[ah,ae,RZ,g,NK,it,c1,e0,iO]
   rw[w1]
   exact ih (i+1) fu (by omega) (by omega) (by omega)
 exact key (dW p O) 0 lf (by omega) (by omega) (by omega)
end
theorem akL{pl:List Nat}{i N:Nat}(hi:i<pl.length)(hN:i<N):(pl.take i++bI (N-i) 0).set i (pl.getD i 0)=pl.take (i+1)++bI (N-(i+1)) 0:=by
 rw[List.set_append_right _ _ (by rw[cJ];omega),cJ,show i-min i pl.length=0 by omega,show N-i=(N-(i+1))+1 by omega,Hx,List.set_cons_zero,aF,aM hi,<-am1 hi,cI]
 rfl
section
variable {lf d n:Nat} {h:H}
theorem aal{v:Value}{ps:List Nat}(hR:Row h n 3 .i64 v (iN ps))(hl:ps.length<=40000)(h6:∀p∈ps,p<6)(aA:3000000<=lf):aj (fun _=>False) n (au ai gt lf (d+3) 67 #[v]) h n fun v' h' n'=>Row h' n' 3 .i64 v' (iN (fh eS ps))∧∀b,aD v' b->n<=b:=by
 rw[aQ (fun _=>TL) rfl]
 refine aj.aP ?_
 unfold EN
 have bR:=db ps
 have bg:=hR
 obtain⟨a,c,rfl⟩:=hR.len
 refine bh aW (aiv (lf:=lf) (d:=d+1) (n:=n) (h:=h) (by omega)) (av _) (fun _ _ h=>h.elim) fun v1 h1 n1 bQ cM nA=> ?_
 obtain⟨rfl,rfl⟩:=nA
 refine kU AK _ ?_
 refine xm (sz:=6) trivial (vs:=[.int .i64 0,.int .i64 1,.int .i64 2,.int .i64 3,.int .i64 4,.int .i64 5]) rfl rfl rfl (get_eq _ _ _) (by omega) (.inl (by omega)) _ fun h2 g2 k2=> ?_
 try simp(disch:=first|omega|assumption|exact aa _) only[ah,ae,RZ]
 refine Ev.run_make trivial (iN ps).length (iN ps).length _ (av _) (by omega) ?_
 try simp(disch:=first|omega|assumption|exact aa _) only[ah,ae,RZ]
 obtain⟨h3,uz⟩:∃h3,h2.set (n+2+1) (some ⟨3,true,bI (iN ps).length (.int .i64 0)⟩)=h3:=⟨_,rfl⟩
 have g3:h3.get (n+2)=some ⟨132,true,aJ .i64 (iN eS)⟩:=by rw[<-uz,aK _ _ (by omega)];exact g2
 have o3:h3.get (n+2+1)=some ⟨3,true,aJ .i64 (iN ((fh eS ps).take 0++bI (ps.length-0) 0))⟩:=by
  rw[<-uz,get_eq]
  unfold aJ iN
  simp
 have k3:∀b,b<n->h3.get b=h.get b:=fun b hb=>by rw[<-uz,aK _ _ (by omega),k2 b (by omega),aK _ _ (by omega)];exact cM b hb id
 rw[uz,bR]
 rw[bR]at bg
 have G7:=ux ps eS
 have key:∀(m i fu:Nat) (O:List Nat) (h4:H),ps.length-i=m->m<fu->i<=ps.length->rX O->fh O (ps.drop i)=(fh eS ps).drop i->h4.get (n+2)=some ⟨132,true,aJ .i64 (iN O)⟩->h4.get (n+2+1)=some ⟨3,true,aJ .i64 (iN ((fh eS ps).take i++bI (ps.length-i) 0))⟩->(∀b,b<n->h4.get b=h.get b)->
  aj (fun _=>False) n (wg lf (au ai gt lf (d+2)) fu (EM lf (au ai gt lf (d+2))) (.slice a ps.length c) nS (.pointer (some ⟨n+2,0,none⟩)) (.slice (some ⟨n+2+1,0,none⟩) ps.length ps.length) (.slice a ps.length c) (.int .i64 (ps.length:Int)) (.int .i64 (i:Int))) h4 (n+2+1+1) fun v' h' n'=>Row h' n' 3 .i64 v' (iN (fh eS ps))∧∀b,aD v' b->n<=b:=by
  intro m
  induction m with
  |zero=>
   intro i fu O h4 hm hf hi hS hp hg ho hk
   obtain⟨fu,rfl⟩:∃f,fu=f+1:=⟨fu-1,by omega⟩
   obtain rfl:i=ps.length:=by omega
   rw[wg]
   try simp(disch:=first|omega|assumption|exact aa _) only[ah,ae,RZ,bH]
   (try unfold EM);(try dsimp only)
   try simp(disch:=first|omega|assumption|exact aa _) only[ah,ae,RZ]
   rw[nE,List.replicate_zero,dr,hH (by omega)]at ho
   refine⟨.inr ⟨n+2+1,0,ps.length,true,_,by rw[db,G7],ho,by omega,by rw[cT];omega,by rw[eJ,hH (by rw[cT];omega)],by rw[db,G7];omega⟩,fun b hb=>by rw[hb.inj];omega⟩
  |succ m ih=>
   intro i fu O h4 hm hf hi hS hp hg ho hk
   obtain⟨fu,rfl⟩:∃f,fu=f+1:=⟨fu-1,by omega⟩
   obtain⟨b,off,cap,o,ks,hv,jb,bO,_,_,_,bk⟩:=((bg.aB (n':=n+2+1+1) (by omega) hk)).some (by omega)
   have bX:jH a ps.length c= .slice (some ⟨b,off,none⟩) (iN ps).length cap:=hv
   rw[bR]at bX
   cases bX
   have e1:((i:Nat):Int)<((ps.length:Nat):Int):=by omega
   have c1:=bk i (by omega)
   rw[kz]at c1
   have w1:((i:Nat):Int)+1=((i+1:Nat):Int):=rfl
   have p6:ps.getD i 0<6:=h6 _ (by rw[aF,aM (by omega)];exact cN _)
   rw[wg]
   try simp(disch:=first|omega|assumption|exact aa _) only[ah,ae,RZ,e1,jb,c1]
   refine bh aW (akK (lf:=lf) (d:=d) hS hg (by omega) p6 (by omega)) (by omega) (fun b _ hb=> .inl (by omega)) fun v5 h5 n5 ud uo uq=> ?_
   obtain⟨rfl,rfl,g5⟩:=uq
   have o5:=(uo (n+2+1) (by omega) (by omega)).trans ho
   have akM:i<(aJ .i64 (iN ((fh eS ps).take i++bI (ps.length-i) 0))).length:=by rw[cT,db,aY,cJ,jJ];omega
   have lt5:n+2+1<n+2+1+1:=by omega
   have it:((i:Nat):Int).toNat=i:=rfl
   try simp(disch:=first|omega|assumption|exact aa _) only[ah,ae,RZ,e1,it,o5,iO]
   refine⟨by simpa using akM,.inl (by omega), ?_⟩
   rw[w1]
   have dp:ps.drop i=ps.getD i 0::ps.drop (i+1):=jW 0 (by omega)
   rw[dp,fh,jW 0 (show i<(fh eS ps).length by omega)]at hp
   injection hp with HW gG
   have pl6:=zy (hS.2 _ p6)
   rw[hS.1]at pl6
   refine ih (i+1) fu _ _ (by omega) (by omega) (by omega) (hS.iF pl6) gG (by rw[aK _ _ (by omega)];exact g5) ?_ (fun b hb=>by rw[aK _ _ (by omega),uo b (by omega) (by omega)];exact hk b hb)
   rw[get_eq,YD]
   rw[HW]
   unfold iN
   rw[show((Ox (fun(x:Nat)=>(x:Int)) ((fh eS ps).take i++bI (ps.length-i) 0)).set i (((fh eS ps).getD i 0:Nat):Int))=Ox (fun(x:Nat)=>(x:Int)) (((fh eS ps).take i++bI (ps.length-i) 0).set i ((fh eS ps).getD i 0))from List.map_set.symm,akL (by omega) (by omega)]
 exact key ps.length 0 lf eS h3 (by omega) (by omega) (by omega) uy rfl g3 o3 k3
end
def lO:List Nat->List Bool
 |[]=>[]
 |x::l=>bI x true++(false::lO l)
theorem NL(x:Nat)(l:List Nat):lO (x::l)=bI x true++(false::lO l):=rfl
def lP(t:Nat)(ps:List Nat):List Bool:=bY t 3++(bY ps.length 15++lO (fh eS ps))
theorem Ca:∀{l:List Nat},(∀x∈l,x<6)->(lO l).length<=6*l.length
 |[],_=>by simp[lO]
 |x::l,h=>by
  have:=Ca fun y hy=>h y (List.mem_cons_of_mem x hy)
  have:=h x (by simp)
  unfold lO
  simp only[aY,jJ,dI]
  omega
theorem akN{x:Nat}(h:x<6):IntKind.u32.wrap (1*2^(min (x+1) (amY).bits))=((2^(x+1):Nat):Int):=by
 rcases x with _|_|_|_|_|_|x<;>first|rfl|omega
theorem akO{x:Nat}(h:x<6):IntKind.u32.wrap (((2^(x+1):Nat):Int)-2)=((2^(x+1)-2:Nat):Int):=by
 rcases x with _|_|_|_|_|_|x<;>first|rfl|omega
theorem akP{x:Nat}(h:x<6):bY (2^(x+1)-2) (x+1)=bI x true++[false]:=by
 rcases x with _|_|_|_|_|_|x<;>first|rfl|omega
section
variable {lf d n:Nat} {h:H}
theorem akQ{c0 t:Nat}{x:Int}(gc:∃e,h.get c0=some ⟨e,true,[.int .i64 (t:Int)]⟩)(hc:c0<n)(h1:0<=x)(h2:x<t):aj (fun _=>False) n (au ai gt lf (d+1) 104 #[.int .i64 x,.pointer (some ⟨c0,0,none⟩)]) h n fun v' h' n'=>v'= .bool false∧h'=h∧n'=n:=by
 obtain⟨e,gc⟩:=gc
 rw[aQ (fun _=>UX) rfl]
 refine aj.aP ?_
 unfold K4
 have c1:¬(x<0):=by omega
 have c2:¬((t:Int)<=x):=by omega
 try simp(disch:=first|omega|assumption|exact aa _) only[ah,ae,RZ,gc,c1,c2]
 all_goals (first|rfl|exact⟨rfl,rfl,rfl⟩|exact⟨rfl,rfl⟩)
theorem aam{v:Value}{ps:List Nat}{t:Nat}(hR:Row h n 3 .i64 v (iN ps))(t2:2<=t)(t6:t<=6)(h0:0<ps.length)(hl:ps.length<=32767)(hp:∀p∈ps,p<t)(aA:3000000<=lf):aj (fun _=>False) n (au ai gt lf (d+4) 66 #[v,.int .i64 (t:Int)]) h n fun v' _ _=>v'= .bool true:=by
 rw[aQ (fun _=>TI) rfl]
 refine aj.aP ?_
 unfold Kx
 have bR:=db ps
 have bg:=hR
 obtain⟨a,c,rfl⟩:=hR.len
 refine qi trivial _ _ ?_
 obtain⟨h1,lE⟩:∃h1,h.set n (some ⟨3,true,(Value.int .i64 (t:Int)).cells.toList⟩)=h1:=⟨_,rfl⟩
 have g1:h1.get n=some ⟨3,true,[.int .i64 (t:Int)]⟩:=by rw[<-lE,get_eq];rfl
 have k1:∀b,b<n->h1.get b=h.get b:=fun b hb=>by rw[<-lE];exact aK _ _ (by omega)
 rw[lE]
 have dH:=bg.aB (cX n) k1
 try simp(disch:=first|omega|assumption|exact aa _) only[ah,ae,RZ,g1]
 refine bV (aiu (lf:=lf) (d:=d+2) (t:Int)) (by omega) (fun _ _ h=>h.elim) ?_
 rw[decide_eq_true (show(2:Int)<=(t:Int) by omega),decide_eq_true (show(t:Int)<=6 by omega)]
 have e1:(((iN ps).length:Int)==0)=false:=by rw[beq_eq_false_iff_ne];omega
 have e2:¬((32767:Int)<((iN ps).length:Int)):=by omega
 try simp(disch:=first|omega|assumption|exact aa _) only[ah,ae,RZ,zN,gM,e1,e2]
 have s2:=aai (lf:=lf) (d:=d+1) (F:=104) (by kernel_rfl) [.pointer (some ⟨n,0,none⟩)] (fun _=>false) dH (fun x hx=>by
  unfold iN at hx
  obtain⟨y,hy,rfl⟩:=List.mem_map.1 hx
  have:=hp y hy
  exact akQ (lf:=lf) (d:=d) ⟨_,g1⟩ (fp n) (by omega) (by omega)) (by omega) aA
 refine bV s2 (by omega) (fun _ _ h=>h.elim) ?_
 have e:((iN ps).any fun _=>false)=false:=by simp
 rw[e]
 try simp(disch:=first|omega|assumption|exact aa _) only[ah,ae,RZ,iP]
section
variable {b off cap:Nat} {pl:List Nat} (h6:∀x∈pl,x<6) (hl:pl.length<=40000)
include h6 hl
theorem akR{x1 x2 x3 x4 x6:Value}(hR:Row h n 3 .i64 (.slice (some ⟨b,off,none⟩) pl.length cap) (iN pl)){n0:Nat}:∀(m i fu t:Nat),pl.length-i=m->m<fu->i<=pl.length->t<=18+6*i->aj (fun _=>False) n0 (vP lf (au ai gt lf d) fu (Ez lf (au ai gt lf d)) x1 x2 x3 x4 (.int .i64 (t:Int)) x6 (.slice (some ⟨b,off,none⟩) pl.length cap) (.int .i64 (pl.length:Int)) (.int .i64 (i:Int))) h n fun v' h' n'=>v'= .tuple #[.int .i64 ((t+(lO (pl.drop i)).length:Nat):Int),.int .i64 0]:=by
 intro m
 induction m with
 |zero=>
  intro i fu t hm hf hi ht
  obtain⟨fu,rfl⟩:∃f,fu=f+1:=⟨fu-1,by omega⟩
  obtain rfl:i=pl.length:=by omega
  rw[vP]
  try simp(disch:=first|omega|assumption|exact aa _) only[ah,ae,RZ,bH]
  (try unfold Ez);(try dsimp only)
  try simp(disch:=first|omega|assumption|exact aa _) only[ah,ae,RZ]
  rw[oL]
  rfl
 |succ m ih=>
  intro i fu t hm hf hi ht
  obtain⟨fu,rfl⟩:∃f,fu=f+1:=⟨fu-1,by omega⟩
  obtain⟨b',kM,cG,o,ks,hv,hg,bO,_,_,_,bk⟩:=hR.some (by rw[db];omega)
  have bX:jH (some ⟨b,off,none⟩) pl.length cap= .slice (some ⟨b',kM,none⟩) (iN pl).length cG:=hv
  rw[db]at bX
  cases bX
  have e1:((i:Nat):Int)<((pl.length:Nat):Int):=by omega
  have c1:=bk i (by rw[db];omega)
  rw[kz]at c1
  have x6:pl.getD i 0<6:=h6 _ (by rw[aF,aM (by omega)];exact cN _)
  have w1:((i:Nat):Int)+1=((i+1:Nat):Int):=rfl
  have w2:((pl.getD i 0:Nat):Int)+1=((pl.getD i 0+1:Nat):Int):=rfl
  have w3:(t:Int)+((pl.getD i 0+1:Nat):Int)=((t+(pl.getD i 0+1):Nat):Int):=rfl
  rw[vP]
  try simp(disch:=first|omega|assumption|exact aa _) only[ah,ae,RZ,e1,hg,c1,w1,w2,w3]
  refine(ih (i+1) fu (t+(pl.getD i 0+1)) (by omega) (by omega) (by omega) (by omega)).mono ?_
  rintro v' h' n' _ rfl
  rw[jW 0 (show i<pl.length by omega),NL,aY,jJ,dI,show t+(pl.getD i 0+1)+(lO (pl.drop (i+1))).length=t+(pl.getD i 0+((lO (pl.drop (i+1))).length+1)) by omega]
theorem akS(aA:3000000<=lf){lo w m1 n0:Nat}{si0:Value}{W:Nat->Prop}(hw:W w)(hwm:w<m1)(hW:∀c,aD si0 c->n0<=c∨W c)(h0:n0<=m1)(hv:∀c,aD (.slice (some ⟨b,off,none⟩) pl.length cap) c->c<m1∧c≠w∧¬aD si0 c){x2 x3 x4 x5 x6:Value}:∀(m i fu:Nat) (l:List Bool) (h:H) (n:Nat) (si:Value),pl.length-i=m->m<fu->i<=pl.length->m1<=n->dV h lo n w si l->(∀c,c<m1->aD si c->aD si0 c)->Row h n 3 .i64 (.slice (some ⟨b,off,none⟩) pl.length cap) (iN pl)->l.length+6*m<=9000000->
 aj W n0 (vO lf (au ai gt lf (d+2)) fu (Et lf (au ai gt lf (d+2))) (.pointer (some ⟨w,0,none⟩)) x2 x3 x4 x5 x6 (.slice (some ⟨b,off,none⟩) pl.length cap) (.int .i64 (pl.length:Int)) (.int .i64 (i:Int))) h n fun v' h' n'=>v'= .int .i64 0∧m1<=n'∧∃kD,dV h' lo n' w kD (l++lO (pl.drop i))∧∀c,c<m1->aD kD c->aD si0 c:=by
 intro m
 induction m with
 |zero=>
  intro i fu l h n si hm hf hi u3 x hs hR iB
  obtain⟨fu,rfl⟩:∃f,fu=f+1:=⟨fu-1,by omega⟩
  obtain rfl:i=pl.length:=by omega
  rw[vO]
  try simp(disch:=first|omega|assumption|exact aa _) only[ah,ae,RZ,bH]
  (try unfold Et);(try dsimp only)
  try simp(disch:=first|omega|assumption|exact aa _) only[ah,ae,RZ]
  refine⟨u3,si, ?_,hs⟩
  rw[oL]
  simpa[lO]using x
 |succ m ih=>
  intro i fu l h n si hm hf hi u3 x hs hR iB
  obtain⟨fu,rfl⟩:∃f,fu=f+1:=⟨fu-1,by omega⟩
  obtain⟨b',kM,cG,o,ks,iq,hg,bO,_,_,_,bk⟩:=hR.some (by rw[db];omega)
  have bX:jH (some ⟨b,off,none⟩) pl.length cap= .slice (some ⟨b',kM,none⟩) (iN pl).length cG:=iq
  rw[db]at bX
  cases bX
  have e1:((i:Nat):Int)<((pl.length:Nat):Int):=by omega
  have c1:=bk i (by rw[db];omega)
  rw[kz]at c1
  have x6:pl.getD i 0<6:=h6 _ (by rw[aF,aM (by omega)];exact cN _)
  have w1:((i:Nat):Int)+1=((i+1:Nat):Int):=rfl
  have w2:((pl.getD i 0:Nat):Int)+1=((pl.getD i 0+1:Nat):Int):=rfl
  have w3:=akN x6
  have w4:=akO x6
  rw[vO]
  try simp(disch:=first|omega|assumption|exact aa _) only[ah,ae,RZ,cd,cj,cr,ct,cz,cA,cB,cC,cD,cE,e1,hg,c1,w2,w3,w4]
  have px:2^(pl.getD i 0+1)<=2^6:=sw (by decide) (by omega)
  have p0:0<2^(pl.getD i 0+1):=Nat.pow_pos (by decide)
  refine bh aW (zv (lf:=lf) (d:=d) x (k:=pl.getD i 0+1) (v:=2^(pl.getD i 0+1)-2) (by omega) (by omega) (by omega) (by omega)) (by omega) (fun c hc hq=> ?_) fun v1 h1 n1 bQ cM nA=> ?_
  ·rcases hq with rfl|hq
   ·exact .inr hw
   ·by_cases xC:c<m1
    ·exact hW c (hs c xC hq)
    ·exact .inl (by omega)
  ·obtain⟨rfl,kD,x',mP⟩:=nA
   rw[akP x6]at x'
   try simp(disch:=first|omega|assumption|exact aa _) only[ah,ae,RZ]
   rw[w1]
   refine(ih (i+1) fu _ h1 n1 kD (by omega) (by omega) (by omega) (by omega) x' (fun c hc q=>hs c hc (mP c (by omega) q)) (hR.fI bQ fun c hc=> ?_) (by rw[aY,aY,jJ,Cl];omega)).mono ?_
   ·obtain⟨q1,q2,q3⟩:=hv c hc
    exact cM c (by omega) fun q=>by
     rcases q with q|q
     ·exact q2 q
     ·exact q3 (hs c q1 q)
   ·rintro v' h' n' _ ⟨rfl,q1,NM,x2,iV⟩
    refine⟨rfl,q1,NM, ?_,iV⟩
    rw[jW 0 (show i<pl.length by omega),NL]
    simpa[cI]using x2
end
end
section
variable {lf d n:Nat} {h:H}
theorem Cb(t:Nat)(ps:List Nat):(lP t ps).length=18+(lO (fh eS ps)).length:=by
 unfold lP
 rw[aY,aY,dL,dL]
 omega
theorem akT{v:Value}{ps:List Nat}{t:Nat}(hR:Row h n 3 .i64 v (iN ps))(t2:2<=t)(t6:t<=6)(h0:0<ps.length)(hl:ps.length<=32767)(hp:∀p∈ps,p<t)(aA:3000000<=lf):aj (fun _=>False) n (au ai gt lf (d+5) 41 #[v,.int .i64 (t:Int)]) h n fun v' _ _=>v'= .tuple #[.int .i64 ((lP t ps).length:Int),.int .i64 0]:=by
 rw[aQ (fun _=>SW) rfl]
 refine aj.aP ?_
 unfold EA
 refine y3 (aam (lf:=lf) (d:=d) hR t2 t6 h0 hl hp aA) (av _) fun h1 n1 bQ cM=> ?_
 try simp(disch:=first|omega|assumption|exact aa _) only[ah,ae,RZ,gM]
 refine bh aW (aal (lf:=lf) (d:=d+1) (hR.aB bQ cM) (by omega) (fun p hq=>by have:=hp p hq;omega) aA) (by omega) (fun _ _ h=>h.elim) fun v2 h2 n2 ey eR iE=> ?_
 obtain⟨gh,_⟩:=iE
 have G7:=ux ps eS
 obtain⟨b,off,cap,o,ks,rfl,_⟩:=gh.some (by rw[db];omega)
 rw[db]at gh⊢
 try simp(disch:=first|omega|assumption|exact aa _) only[ah,ae,RZ]
 refine(akR (lf:=lf) (d:=d+4) (xD ps eS uy fun p hq=>by have:=hp p hq;omega) (by omega) gh (fh eS ps).length 0 lf 18 (by omega) (by omega) (by omega) (by omega)).mono ?_
 rintro v' h' n' _ rfl
 rw[eJ,Cb]
theorem akU{lo w:Nat}{sv:Value}{l:List Bool}(x:dV h lo n w sv l){v:Value}{ps:List Nat}{t:Nat}(hR:Row h n 3 .i64 v (iN ps))(hd:∀b,aD v b->b≠w∧¬aD sv b)(t2:2<=t)(t6:t<=6)(h0:0<ps.length)(hl:ps.length<=32767)(hp:∀p∈ps,p<t)(iB:l.length<=1000000)(aA:3000000<=lf):
 aj (fun c=>c=w∨aD sv c) n (au ai gt lf (d+5) 37 #[.pointer (some ⟨w,0,none⟩),v,.int .i64 (t:Int)]) h n fun v' h' n'=>v'= .int .i64 0∧∃dg,dV h' lo n' w dg (l++lP t ps)∧∀c,c<n->aD dg c->aD sv c:=by
 rw[aQ (fun _=>SK) rfl]
 refine aj.aP ?_
 unfold Eu
 have hw:=ep.lt x
 try simp(disch:=first|omega|assumption|exact aa _) only[ah,ae,RZ]
 refine y3 (aam (lf:=lf) (d:=d) hR t2 t6 h0 hl hp aA) (av _) fun h1 n1 bQ cM=> ?_
 have w1:=mw (x:=t) (by omega)
 have w2:=mw (x:=ps.length) (by omega)
 have bR:=db ps
 have bg:=hR
 obtain⟨a,c,rfl⟩:=hR.len
 try simp(disch:=first|omega|assumption|exact aa _) only[ah,ae,RZ,gM,w1]
 have x1:=x.aB bQ fun b hb _=>cM b hb
 have dH:=bg.aB bQ cM
 refine bh aW (zv (lf:=lf) (d:=d+2) x1 (k:=3) (v:=t) (by omega) (by omega) (by omega) (by omega)) bQ (fun b _ hb=> .inr hb) fun v2 h2 n2 ey eR iE=> ?_
 obtain⟨rfl,s2,x2,iV⟩:=iE
 have iC:=dH.fI ey fun b hb=>eR b (dH.lt hb) fun q=>by
  obtain⟨q1,q2⟩:=hd b hb
  rcases q with q|q
  ·exact q1 q
  ·exact q2 q
 rw[bR]at*
 try simp(disch:=first|omega|assumption|exact aa _) only[ah,ae,RZ,w2]
 have eU:∀b,aD (.slice a ps.length c) b->¬aD s2 b:=fun b hb q=>(hd b hb).2 (iV b (dH.lt hb) q)
 refine bh aW (zv (lf:=lf) (d:=d+2) x2 (k:=15) (v:=ps.length) (by omega) (by omega) (by rw[aY,dL];omega) (by omega)) (by omega) (fun b hb hq=> ?_) fun v3 h3 n3 fy dU ny=> ?_
 ·rcases hq with rfl|hq
  ·exact .inr (.inl rfl)
  ·by_cases ko:b<n
   ·exact .inr (.inr (iV b (by omega) hq))
   ·exact .inl (by omega)
 obtain⟨rfl,s3,x3,pH⟩:=ny
 have uv:=iC.fI fy fun b hb=>dU b (iC.lt hb) fun q=>by
  rcases q with q|q
  ·exact(hd b hb).1 q
  ·exact eU b hb q
 try simp(disch:=first|omega|assumption|exact aa _) only[ah,ae,RZ]
 refine bh aW (aal (lf:=lf) (d:=d+1) uv (by omega) (fun p hq=>by have:=hp p hq;omega) aA) (by omega) (fun _ _ h=>h.elim) fun v4 h4 n4 jF kC xy=> ?_
 obtain⟨G8,NN⟩:=xy
 have G7:=ux ps eS
 obtain⟨b4,off,cap,o,ks,rfl,_⟩:=G8.some (by rw[db];omega)
 rw[db]at G8 NN⊢
 try simp(disch:=first|omega|assumption|exact aa _) only[ah,ae,RZ]
 have x4:=x3.aB jF fun b hb _=>kC b hb id
 have akV:∀b,aD s3 b->b<n3:=fun b hb=>((ep.own x3).lt hb).2
 have up:∀b,aD s3 b->n<=b∨(b=w∨aD sv b):=fun b hb=>by
  by_cases ko:b<n
  ·exact .inr (.inr (iV b (by omega) (pH b (by omega) hb)))
  ·exact .inl (by omega)
 refine(akS (lf:=lf) (d:=d+2) (xD ps eS uy fun p hq=>by have:=hp p hq;omega) (by omega) aA (lo:=lo) (w:=w) (m1:=n4) (n0:=n) (si0:=s3) (W:=fun c=>c=w∨aD sv c) (.inl rfl) (by omega) up (by omega) (fun b hb=>⟨G8.lt hb,by have:=NN b hb;omega,fun q=>by have:=NN b hb;have:=akV b q;omega⟩) (fh eS ps).length 0 lf _ h4 n4 s3 (by omega) (by omega) (by omega) (av _) x4 (fun c _ q=>q) G8 (by rw[aY,aY,dL,dL];omega)).mono ?_
 rintro v' h' n' _ ⟨rfl,gX,s5,x5,G9⟩
 refine⟨rfl,s5, ?_,fun c hc q=> ?_⟩
 ·rw[eJ,cI,cI]at x5
  exact x5
 ·exact iV c (by omega) (pH c (by omega) (G9 c (by omega) q))
end
def oC(ln:List Nat)(i:Nat):List Bool:=bY (ff ln i) (ln.getD i 0)
section
variable {lf d n clo chi c:Nat} {h:H} {ln:List Nat}
theorem akW(y:qw h clo chi c ln)(hn:chi<=n){i:Nat}(hi:i<ln.length):aj (fun _=>False) n (au ai gt lf (d+1) 73 #[.pointer (some ⟨c,0,none⟩),.int .i64 (i:Int)]) h n fun v' h' n'=>v'= .tuple #[.int .u32 (ff ln i:Int),.int .i64 (ln.getD i 0:Int),.int .i64 0]∧h'=h∧n'=n:=by
 obtain⟨lv,cv,ov,g,hl,_,hc,_,_,_⟩:=y.ex
 have lt:=y.lt
 have Gm:(pB ln).length=ln.length:=by unfold pB;simp
 obtain⟨b1,o1,c1,w1,k1,rfl,g1,l1,_,_,_,t1⟩:=hl.some (by rw[db];omega)
 obtain⟨b2,o2,c2,w2,k2,rfl,g2,l2,_,_,_,t2⟩:=hc.some (by rw[Gm];omega)
 have a1:=t1 i (by rw[db];omega)
 have a2:=t2 i (by rw[Gm];omega)
 rw[kz]at a1
 have ca:(pB ln).getD i 0=(ff ln i:Int):=by
  unfold pB
  rw[aF,j4,List.getElem?_range hi]
  rfl
 rw[ca]at a2
 have z0:∀a b e f g,(fg a b e f g)[0]? =some a:=fun _ _ _ _ _=>rfl
 have z1:∀a b e f g,(fg a b e f g)[1]? =some b:=fun _ _ _ _ _=>rfl
 have n0:¬((i:Int)<0):=by omega
 have il:=db ln
 have n1:¬(((iN ln).length:Int)<=(i:Int)):=by omega
 have i1:(i:Int)<((iN ln).length:Int):=by omega
 have i2:(i:Int)<((pB ln).length:Int):=by omega
 rw[aQ (fun _=>TX) rfl]
 refine aj.aP ?_
 unfold KE
 try simp(disch:=first|omega|assumption|exact aa _) only[ah,ae,RZ,g,z0,z1,n0,n1,i1,i2,g1,g2,a1,a2]
 all_goals (first|rfl|exact⟨rfl,rfl,rfl⟩|exact⟨rfl,rfl⟩)
theorem akX{lo w:Nat}{sv:Value}{l:List Bool}(x:dV h lo n w sv l)(y:qw h clo chi c ln)(hn:chi<=n)(wh:Wh ln){i:Nat}(hi:i<ln.length)(iB:l.length<=100000000)(aA:33<=lf):aj (fun c=>c=w∨aD sv c) n (au ai gt lf (d+3) 40 #[.pointer (some ⟨c,0,none⟩),.pointer (some ⟨w,0,none⟩),.int .i64 (i:Int)]) h n fun v' h' n'=>v'= .int .i64 0∧∃dg,dV h' lo n' w dg (l++oC ln i)∧∀c,c<n->aD dg c->aD sv c:=by
 rw[aQ (fun _=>SS) rfl]
 refine aj.aP ?_
 unfold Ki
 try simp(disch:=first|omega|assumption|exact aa _) only[ah,ae,RZ]
 refine bV (akW (lf:=lf) (d:=d+1) y hn hi) (av _) (fun _ _ h=>h.elim) ?_
 have x0:∀(a b c:Value) (k:Value->M Value),bm (.tuple #[a,b,c]) 0 k=k a:=fun _ _ _ _=>rfl
 have x1:∀(a b c:Value) (k:Value->M Value),bm (.tuple #[a,b,c]) 1 k=k b:=fun _ _ _ _=>rfl
 have x2:∀(a b c:Value) (k:Value->M Value),bm (.tuple #[a,b,c]) 2 k=k c:=fun _ _ _ _=>rfl
 have z:((0:Int) !=0)=false:=rfl
 try simp(disch:=first|omega|assumption|exact aa _) only[ah,ae,RZ,x0,x1,x2,z]
 refine bh aW (zv (lf:=lf) (d:=d) x (k:=ln.getD i 0) (v:=ff ln i) (by have:=(wh.at hi).2;omega) (wh.Mu hi) (by omega) aA) (av _) (fun b _ hb=> .inr hb) fun v1 h1 n1 bQ cM hq=> ?_
 obtain⟨rfl,dg,x',mP⟩:=hq
 try simp(disch:=first|omega|assumption|exact aa _) only[ah,ae,RZ]
 exact⟨dg,x',mP⟩
end
theorem NO:ef {data:=#[49,48]}=tx [true,false]:=rfl
theorem NP:ef {data:=#[49,49]}=tx [true,true]:=rfl
section
variable {lf d n:Nat} {h:H}
theorem akY{r:FuncId->Array Value->M Value}{W:Nat->Prop}{n0:Nat}{Q:Value->H->Nat->Prop}{x1 x2 x6 x7 x8:Value}{now N:Nat}(h1:now<=20)(h2:N<=20)(K:Value->Value->Value->Value->Value->Value->Value->M Value):∀(m j fu:Nat) (t:List Bool) (x9:Value),40-j=m->m<fu->j<=40->t.length<=900000+2*j->aj W n0 (K x1 x2 (tx (t++(mD (N-now-j)++oB (now-N-j)))) (.int .i64 (N:Int)) x6 x7 x8) h n Q->
 aj W n0 (tF lf ((r)) fu K x1 x2 (tx t) (.int .i64 (now:Int)) (.int .i64 (N:Int)) x6 x7 x8 x9 (.int .i64 (j:Int))) h n Q:=by
 intro m
 induction m with
 |zero=>
  intro j fu t x9 hm hf hj hl hK
  obtain⟨fu,rfl⟩:∃f,fu=f+1:=⟨fu-1,by omega⟩
  obtain rfl:j=40:=by omega
  have c:¬(((40:Nat):Int)<40):=by omega
  rw[show N-now-40=0 by omega,show now-N-40=0 by omega]at hK
  rw[tF]
  try simp(disch:=first|omega|assumption|exact aa _) only[ah,ae,RZ,c]
  simpa[mD,oB]using hK
 |succ m ih=>
  intro j fu t x9 hm hf hj hl hK
  obtain⟨fu,rfl⟩:∃f,fu=f+1:=⟨fu-1,by omega⟩
  have c:((j:Int)<40):=by omega
  have w1:(j:Int)+1=((j+1:Nat):Int):=rfl
  have a1:=fun(k:Value->M Value)=>lJ t [true,false] (by simp;omega) k
  have a2:=fun(k:Value->M Value)=>lJ t [true,true] (by simp;omega) k
  rw[tF]
  by_cases c1:(j:Int)<(N:Int)-(now:Int)
  ·have c2:¬((j:Int)<(now:Int)-(N:Int)):=by omega
   try simp(disch:=first|omega|assumption|exact aa _) only[ah,ae,RZ,c,c1,c2,NO,NP,a1,a2]
   rw[w1]
   refine ih (j+1) fu _ _ (by omega) (by omega) (by omega) (by simp;omega) ?_
   rw[show now-N-(j+1)=0 by omega,cI,<-cI [true,false],<-aag,show N-now-(j+1)+1=N-now-j by omega]
   rwa[show now-N-j=0 by omega]at hK
  ·by_cases c2:(j:Int)<(now:Int)-(N:Int)
   ·try simp(disch:=first|omega|assumption|exact aa _) only[ah,ae,RZ,c,c1,c2,NO,NP,a1,a2]
    rw[w1]
    refine ih (j+1) fu _ _ (by omega) (by omega) (by omega) (by simp;omega) ?_
    rw[show N-now-(j+1)=0 by omega,cI,show mD 0=[]from rfl,uD,<-aah,show now-N-(j+1)+1=now-N-j by omega]
    rwa[show N-now-j=0 by omega,show mD 0=[]from rfl,uD]at hK
   ·try simp(disch:=first|omega|assumption|exact aa _) only[ah,ae,RZ,c,c1,c2,NO,NP,a1,a2]
    rw[w1]
    refine ih (j+1) fu _ _ (by omega) (by omega) (by omega) (by omega) ?_
    rw[show N-now-(j+1)=0 by omega,show now-N-(j+1)=0 by omega]
    rwa[show N-now-j=0 by omega,show now-N-j=0 by omega]at hK
theorem akZ{v:Value}{ln:List Nat}(hR:Row h n 3 .i64 v (iN ln))(h3:1<=ln.length)(ml:ln.length<=258)(hi:∀x∈ln,x<=20)(aA:3000000<=lf):aj (fun _=>False) n (au ai gt lf (d+2) 47 #[v]) h n fun v' h' n'=>v'=tx (iI ln)∧h'=h∧n'=n:=by
 rw[aQ (fun _=>afc) rfl]
 refine aj.aP ?_
 unfold Kq
 obtain⟨b,off,cap,o,ks,rfl,hg,hb,_,_,_,bk⟩:=hR.some (by rw[db];omega)
 rw[db]at hR⊢
 have key:∀(m i fu now:Nat) (t:List Bool),ln.length-i=m->m<fu->i<=ln.length->now<=20->t.length<=41*i+5->aj (fun _=>False) n (vW lf (au ai gt lf (d+1)) fu (EF lf (au ai gt lf (d+1))) (.slice (some ⟨b,off,none⟩) ln.length cap) (.string ⟨#[]⟩) (tx t) (.int .i64 (now:Int)) (.slice (some ⟨b,off,none⟩) ln.length cap) (.int .i64 (ln.length:Int)) (.int .i64 (i:Int))) h n fun v' h' n'=>v'=tx (t++pI now (ln.drop i))∧h'=h∧n'=n:=by
  intro m
  induction m with
  |zero=>
   intro i fu now t hm hf ke hn ht
   obtain⟨fu,rfl⟩:∃f,fu=f+1:=⟨fu-1,by omega⟩
   obtain rfl:i=ln.length:=by omega
   rw[vW]
   try simp(disch:=first|omega|assumption|exact aa _) only[ah,ae,RZ,bH]
   (try unfold EF);(try dsimp only)
   try simp(disch:=first|omega|assumption|exact aa _) only[ah,ae,RZ]
   rw[oL]
   simp[pI]
  |succ m ih=>
   intro i fu now t hm hf ke hn ht
   obtain⟨fu,rfl⟩:∃f,fu=f+1:=⟨fu-1,by omega⟩
   have e1:((i:Nat):Int)<((ln.length:Nat):Int):=by omega
   have c1:=bk i (by rw[db];omega)
   rw[kz]at c1
   have hx:ln.getD i 0<=20:=hi _ (by rw[aF,aM (by omega)];exact cN _)
   have w1:((i:Nat):Int)+1=((i+1:Nat):Int):=rfl
   rw[vW]
   try simp(disch:=first|omega|assumption|exact aa _) only[ah,ae,RZ,e1,hg,c1]
   refine akY hn hx _ 40 0 lf t _ (by omega) (by omega) (by omega) (by omega) ?_
   have a3:=fun(k:Value->M Value)=>lJ (t++(mD (ln.getD i 0-now-0)++oB (now-ln.getD i 0-0))) [false] (by simp only[aY,zw,B9,Cl];omega) k
   unfold Kp
   (try dsimp only)
   try simp(disch:=first|omega|assumption|exact aa _) only[ah,ae,RZ,rT,a3]
   rw[w1]
   refine(ih (i+1) fu (ln.getD i 0) _ (by omega) (by omega) (by omega) hx (by simp only[aY,zw,B9,Cl];omega)).mono ?_
   rintro v' h' n' _ ⟨rfl,rfl,rfl⟩
   refine⟨?_,rfl,rfl⟩
   rw[jW 0 (show i<ln.length by omega),pI]
   simp[cI]
 have c1:=bk 0 (by rw[db];omega)
 rw[kz,mH]at c1
 have h0:ln.getD 0 0<=20:=hi _ (by rw[aF,aM (by omega)];exact cN _)
 have i1:(0:Int)<((ln.length:Nat):Int):=by omega
 have w1:=mw (x:=ln.getD 0 0) (by omega)
 try simp(disch:=first|omega|assumption|exact aa _) only[ah,ae,RZ,i1,hg,c1,w1]
 refine bV (Gr (lf:=lf) (d:=d) (ln.getD 0 0) 5 (by omega) (by omega) (by omega)) (av _) (fun _ _ h=>h.elim) ?_
 try simp(disch:=first|omega|assumption|exact aa _) only[ah,ae,RZ,i1,hg,c1]
 exact key ln.length 0 lf (ln.getD 0 0) _ (by omega) (by omega) (by omega) h0 (by rw[dL];omega)
end
theorem ak0:ef {data:=#[49,49,49,49,49,49]}=tx (bI 6 true):=rfl
theorem aan(o:List Nat)(k:Value->M Value):lA (oT o) k=k (.int .i64 (o.length:Int)):=by
 unfold oT
 rw[DQ,dE]
section
variable {lf d n:Nat} {h:H}
theorem ak1{O:List Nat}(hS:rX O)(h6:∀x∈O,x<6){p:Nat}(hp:p<6)(aA:100<=lf):aj (fun _=>False) n (au ai gt lf (d+1) 83 #[oT O,.int .u8 ((48+p:Nat):Int)]) h n fun v' h' n'=>v'= .int .i64 (dW p O:Int)∧h'=h∧n'=n:=by
 rw[aQ (fun _=>afO) rfl]
 refine aj.aP ?_
 unfold KS
 have bP:=hS.2 p hp
 have pl:=zy bP
 have l6:=hS.1
 have key:∀(m i fu:Nat),dW p O-i=m->m<fu->i<=dW p O->aj (fun _=>False) n (wx lf (au ai gt lf d) fu (EY lf (au ai gt lf d)) (oT O) (.int .u8 ((48+p:Nat):Int)) (.int .i64 0) (.int .i64 (i:Int))) h n fun v' h' n'=>v'= .int .i64 (dW p O:Int)∧h'=h∧n'=n:=by
  intro m
  induction m with
  |zero=>
   intro i fu hm hf hi
   obtain⟨fu,rfl⟩:∃f,fu=f+1:=⟨fu-1,by omega⟩
   obtain rfl:i=dW p O:=by omega
   have c:((dW p O:Nat):Int)<((O.length:Nat):Int):=by omega
   have ix:=MK O h6 (dW p O) pl
   rw[NI bP]at ix
   have e:(((48+p:Nat):Int)==((48+p:Nat):Int))=true:=by simp
   rw[wx]
   try simp(disch:=first|omega|assumption|exact aa _) only[ah,ae,RZ,aan,c,ix,e]
   (try unfold EY);(try dsimp only)
   try simp(disch:=first|omega|assumption|exact aa _) only[ah,ae,RZ]
   all_goals (first|rfl|exact⟨rfl,rfl,rfl⟩|exact⟨rfl,rfl⟩)
  |succ m ih=>
   intro i fu hm hf hi
   obtain⟨fu,rfl⟩:∃f,fu=f+1:=⟨fu-1,by omega⟩
   have c:((i:Nat):Int)<((O.length:Nat):Int):=by omega
   have ix:=MK O h6 i (by omega)
   have ne:=NJ (show i<dW p O by omega)
   have e:(((48+O.getD i 0:Nat):Int)==((48+p:Nat):Int))=false:=by rw[beq_eq_false_iff_ne];omega
   have w1:((i:Nat):Int)+1=((i+1:Nat):Int):=rfl
   rw[wx]
   try simp(disch:=first|omega|assumption|exact aa _) only[ah,ae,RZ,aan,c,ix,e]
   rw[w1]
   exact ih (i+1) fu (by omega) (by omega) (by omega)
 exact key (dW p O) 0 lf (by omega) (by omega) (by omega)
theorem ak2{O:List Nat}(h:∀x∈O,x<6){i:Nat}(hi:i<O.length):∀x∈iF 0 O i,x<6:=by
 intro x hx
 unfold iF at hx
 rcases List.mem_cons.1 hx with rfl|hx
 ·exact h _ (by rw[aF,aM hi];exact cN _)
 ·rcases List.mem_append.1 hx with q|q
  ·exact h _ (nC q)
  ·exact h _ (List.mem_of_mem_drop q)
theorem ak3{v:Value}{ps:List Nat}{t:Nat}(hR:Row h n 3 .i64 v (iN ps))(ht:t<=6)(h0:0<ps.length)(hl:ps.length<=32767)(hp:∀p∈ps,p<6)(aA:3000000<=lf):aj (fun _=>False) n (au ai gt lf (d+2) 46 #[v,.int .i64 (t:Int)]) h n fun v' h' n'=>v'=tx (lP t ps)∧h'=h∧n'=n:=by
 rw[aQ (fun _=>ae_) rfl]
 refine aj.aP ?_
 unfold Ko
 obtain⟨b,off,cap,o,ks,rfl,hg,hb,_,_,_,bk⟩:=hR.some (by rw[db];omega)
 rw[db]at hR⊢
 have key:∀(m i fu:Nat) (O:List Nat) (l:List Bool),ps.length-i=m->m<fu->i<=ps.length->rX O->(∀x∈O,x<6)->l.length<=18+6*i->aj (fun _=>False) n (vV lf (au ai gt lf (d+1)) fu (EE lf (au ai gt lf (d+1))) (.slice (some ⟨b,off,none⟩) ps.length cap) (.int .i64 (t:Int)) (.string ⟨#[]⟩) (tx l) (oT O) (.slice (some ⟨b,off,none⟩) ps.length cap) (.int .i64 (ps.length:Int)) (.int .i64 (i:Int))) h n fun v' h' n'=>v'=tx (l++lO (fh O (ps.drop i)))∧h'=h∧n'=n:=by
  intro m
  induction m with
  |zero=>
   intro i fu O l hm hf hi hS hO iB
   obtain⟨fu,rfl⟩:∃f,fu=f+1:=⟨fu-1,by omega⟩
   obtain rfl:i=ps.length:=by omega
   rw[vV]
   try simp(disch:=first|omega|assumption|exact aa _) only[ah,ae,RZ,bH]
   (try unfold EE);(try dsimp only)
   try simp(disch:=first|omega|assumption|exact aa _) only[ah,ae,RZ]
   rw[oL]
   simp[fh,lO]
  |succ m ih=>
   intro i fu O l hm hf hi hS hO iB
   obtain⟨fu,rfl⟩:∃f,fu=f+1:=⟨fu-1,by omega⟩
   have e1:((i:Nat):Int)<((ps.length:Nat):Int):=by omega
   have c1:=bk i (by rw[db];omega)
   rw[kz]at c1
   have p6:ps.getD i 0<6:=hp _ (by rw[aF,aM (by omega)];exact cN _)
   have w1:((i:Nat):Int)+1=((i+1:Nat):Int):=rfl
   have ix:=MK eS (by decide) (ps.getD i 0) p6
   rw[aiy p6]at ix
   have pl:=zy (hS.2 _ p6)
   have l6:=hS.1
   have s1:=fun(k:Value->M Value)=>YU (bI 6 true) .i64 ((dW (ps.getD i 0) O:Nat):Int) k (by omega) (by rw[jJ];omega)
   rw[mG,List.take_replicate,xM (by omega)]at s1
   have a1:=fun(k:Value->M Value)=>lJ l (bI (dW (ps.getD i 0) O) true) (by rw[jJ];omega) k
   have a2:=fun(k:Value->M Value)=>lJ (l++bI (dW (ps.getD i 0) O) true) [false] (by rw[aY,jJ,Cl];omega) k
   rw[vV]
   try simp(disch:=first|omega|assumption|exact aa _) only[ah,ae,RZ,e1,hg,c1,YV,ix]
   refine bV (ak1 (lf:=lf) (d:=d) hS hO p6 (by omega)) (av _) (fun _ _ h=>h.elim) ?_
   refine bV (aiH (lf:=lf) (d:=d) O (dW (ps.getD i 0) O) (by omega) (by omega)) (av _) (fun _ _ h=>h.elim) ?_
   try simp(disch:=first|omega|assumption|exact aa _) only[ah,ae,RZ,ak0,s1,a1,rT,a2]
   rw[w1]
   refine(ih (i+1) fu _ _ (by omega) (by omega) (by omega) (hS.iF (by omega)) (ak2 hO pl) (by rw[aY,aY,jJ,Cl];omega)).mono ?_
   rintro v' h' n' _ ⟨rfl,rfl,rfl⟩
   refine⟨?_,rfl,rfl⟩
   rw[jW 0 (show i<ps.length by omega),fh,NL]
   simp[cI]
 have w1:=mw (x:=t) (by omega)
 have w2:=mw (x:=ps.length) (by omega)
 have a1:=fun(k:Value->M Value)=>lJ (bY t 3) (bY ps.length 15) (by rw[dL,dL];omega) k
 try simp(disch:=first|omega|assumption|exact aa _) only[ah,ae,RZ,w1]
 refine bV (Gr (lf:=lf) (d:=d) t 3 (by omega) (by omega) (by omega)) (av _) (fun _ _ h=>h.elim) ?_
 try simp(disch:=first|omega|assumption|exact aa _) only[ah,ae,RZ,w2]
 refine bV (Gr (lf:=lf) (d:=d) ps.length 15 (by omega) (by omega) (by omega)) (av _) (fun _ _ h=>h.elim) ?_
 try simp(disch:=first|omega|assumption|exact aa _) only[ah,ae,RZ,a1,YV]
 refine(key ps.length 0 lf eS _ (by omega) (by omega) (by omega) uy (by decide) (by rw[aY,dL,dL];omega)).mono ?_
 rintro v' h' n' _ ⟨rfl,rfl,rfl⟩
 refine⟨?_,rfl,rfl⟩
 unfold lP
 rw[eJ,cI]
end
def iJ(xs:List Int)(z:Int):Prop:=0<xs.length∧(3<=z∧z<=258)∧dM z xs=true∧∀i,i<xs.length->(xs.getD i 0=z-1↔i+1=xs.length)
section
variable {lf d n:Nat} {h:H} (aA:3000000<=lf)
include aA
theorem aao(v:Value)(xs:List Int)(z:Int)(hR:Row h n 3 .i64 v xs)(hl:xs.length<=1000000):aj (fun _=>False) n (au ai gt lf (d+2) 13 #[v,.int .i64 z]) h n fun v' h' n'=>((v'= .bool true∧iJ xs z)∨(v'= .bool false∧¬iJ xs z))∧h'=h∧n'=n:=by
 rw[aQ (fun _=>aeJ) rfl]
 refine aj.aP ?_
 unfold J8
 have bg:=hR
 obtain⟨a,c,rfl⟩:=hR.len
 by_cases h0:xs.length=0
 ·have e:((xs.length:Int)==0)=true:=by rw[h0];rfl
  try simp(disch:=first|omega|assumption|exact aa _) only[ah,ae,RZ,e]
  have nm:¬iJ xs z:=fun m=>by have:=m.1;omega
  (first|exact nm|exact .inr nm|exact .inr ⟨rfl,nm⟩|exact⟨.inr ⟨rfl,nm⟩,rfl,rfl⟩)
 have e:((xs.length:Int)==0)=false:=by rw[beq_eq_false_iff_ne];omega
 try simp(disch:=first|omega|assumption|exact aa _) only[ah,ae,RZ,e]
 refine bV (aiY lf (d+0) n h z) (av _) (fun _ _ h=>h.elim) ?_
 by_cases hz:3<=z∧z<=258
 rotate_left
 ·have e1:(decide (3<=z)&&decide (z<=258))=false:=by
   cases e:(decide (3<=z)&&decide (z<=258))with
   |false=>rfl
   |true=>rw[Bool.and_eq_true,decide_eq_true_eq,decide_eq_true_eq]at e;exact absurd e hz
  rw[e1]
  try simp(disch:=first|omega|assumption|exact aa _) only[ah,ae,RZ,iP]
  have nm:¬iJ xs z:=fun m=>hz m.2.1
  (first|exact nm|exact .inr nm|exact .inr ⟨rfl,nm⟩|exact⟨.inr ⟨rfl,nm⟩,rfl,rfl⟩)
 rw[decide_eq_true hz.1,decide_eq_true hz.2]
 try simp(disch:=first|omega|assumption|exact aa _) only[ah,ae,RZ,zN,gM]
 refine bV (ai0 lf d n h aA _ xs bg hl z) (av _) (fun _ _ h=>h.elim) ?_
 cases hb:dM z xs with
 |false=>
  try simp(disch:=first|omega|assumption|exact aa _) only[ah,ae,RZ,iP]
  have nm:¬iJ xs z:=fun m=>by rw[m.2.2.1]at hb;cases hb
  (first|exact nm|exact .inr nm|exact .inr ⟨rfl,nm⟩|exact⟨.inr ⟨rfl,nm⟩,rfl,rfl⟩)
 |true=>
  try simp(disch:=first|omega|assumption|exact aa _) only[ah,ae,RZ,gM]
  have key:∀(m i fu:Nat),xs.length-i=m->m<fu->i<=xs.length->(∀j,j<i->(xs.getD j 0=z-1↔j+1=xs.length))->aj (fun _=>False) n (vJ lf (au ai gt lf (d+1)) fu (yG lf (au ai gt lf (d+1))) (.slice a xs.length c) (.int .i64 z) (.bool false) (.bool false) (.slice a xs.length c) (.int .i64 (xs.length:Int)) (.int .i64 (i:Int))) h n fun v' h' n'=>((v'= .bool true∧iJ xs z)∨(v'= .bool false∧¬iJ xs z))∧h'=h∧n'=n:=by
   intro m
   induction m with
   |zero=>
    intro i fu hm hf hi hj
    obtain⟨fu,rfl⟩:∃f,fu=f+1:=⟨fu-1,by omega⟩
    obtain rfl:i=xs.length:=by omega
    rw[vJ]
    try simp(disch:=first|omega|assumption|exact aa _) only[ah,ae,RZ,bH]
    (try unfold yG);(try dsimp only)
    try simp(disch:=first|omega|assumption|exact aa _) only[ah,ae,RZ]
    have nm:iJ xs z:=⟨by omega,hz,hb,hj⟩
    (first|exact nm|exact .inl nm|exact .inl ⟨rfl,nm⟩|exact⟨.inl ⟨rfl,nm⟩,rfl,rfl⟩)
   |succ m ih=>
    intro i fu hm hf hi hj
    obtain⟨fu,rfl⟩:∃f,fu=f+1:=⟨fu-1,by omega⟩
    obtain⟨b,off,cap,o,ks,hv,hg,bO,_,_,_,bk⟩:=bg.some (by omega)
    have bX:jH a xs.length c= .slice (some ⟨b,off,none⟩) xs.length cap:=hv
    cases bX
    have e1:((i:Nat):Int)<((xs.length:Nat):Int):=by omega
    have c1:=bk i (by omega)
    have w1:((i:Nat):Int)+1=((i+1:Nat):Int):=rfl
    rw[vJ]
    by_cases q1:xs.getD i 0=z-1
    ·have f1:(xs.getD i 0==z-1)=true:=by rw[beq_iff_eq];exact q1
     by_cases q2:i+1=xs.length
     ·have f2:((i:Int)==(xs.length:Int)-1)=true:=by rw[beq_iff_eq];omega
      have f3:(true !=true)=false:=rfl
      try simp(disch:=first|omega|assumption|exact aa _) only[ah,ae,RZ,e1,hg,c1,f1,f2,f3]
      rw[w1]
      refine ih (i+1) fu (by omega) (by omega) (by omega) fun j gQ=> ?_
      by_cases xE:j=i
      ·subst xE;exact⟨fun _=>q2,fun _=>q1⟩
      ·exact hj j (by omega)
     ·have f2:((i:Int)==(xs.length:Int)-1)=false:=by rw[beq_eq_false_iff_ne];omega
      have f3:(true !=false)=true:=rfl
      try simp(disch:=first|omega|assumption|exact aa _) only[ah,ae,RZ,e1,hg,c1,f1,f2,f3]
      (try unfold yG);(try dsimp only)
      try simp(disch:=first|omega|assumption|exact aa _) only[ah,ae,RZ]
      have nm:¬iJ xs z:=fun m=>q2 ((m.2.2.2 i (by omega)).1 q1)
      (first|exact nm|exact .inr nm|exact .inr ⟨rfl,nm⟩|exact⟨.inr ⟨rfl,nm⟩,rfl,rfl⟩)
    ·have f1:(xs.getD i 0==z-1)=false:=by rw[beq_eq_false_iff_ne];exact q1
     by_cases q2:i+1=xs.length
     ·have f2:((i:Int)==(xs.length:Int)-1)=true:=by rw[beq_iff_eq];omega
      have f3:(false !=true)=true:=rfl
      try simp(disch:=first|omega|assumption|exact aa _) only[ah,ae,RZ,e1,hg,c1,f1,f2,f3]
      (try unfold yG);(try dsimp only)
      try simp(disch:=first|omega|assumption|exact aa _) only[ah,ae,RZ]
      have nm:¬iJ xs z:=fun m=>q1 ((m.2.2.2 i (by omega)).2 q2)
      (first|exact nm|exact .inr nm|exact .inr ⟨rfl,nm⟩|exact⟨.inr ⟨rfl,nm⟩,rfl,rfl⟩)
     ·have f2:((i:Int)==(xs.length:Int)-1)=false:=by rw[beq_eq_false_iff_ne];omega
      have f3:(false !=false)=false:=rfl
      try simp(disch:=first|omega|assumption|exact aa _) only[ah,ae,RZ,e1,hg,c1,f1,f2,f3]
      rw[w1]
      refine ih (i+1) fu (by omega) (by omega) (by omega) fun j gQ=> ?_
      by_cases xE:j=i
      ·subst xE;exact⟨fun q=>absurd q q1,fun q=>absurd q q2⟩
      ·exact hj j (by omega)
  exact key xs.length 0 lf (by omega) (by omega) (by omega) (fun j hj=>by omega)
end
end Go.Proofs.YtdagfcflbphoiaaGreatDoor
namespace Go.Proofs.YtdagfcflbphoiaaGreatDoor
open Go.RowKit Ev Tb Cn
section
variable {lf d n:Nat} {h:H} (aA:3000000<=lf)
include aA
theorem aap(v:Value)(xs:List Int)(z:Int)(g:Gd h n)(hR:Row h n 3 .i64 v xs)(hl:xs.length<=1000000)(hd:600<=d):aj (fun _=>False) n (au ai gt lf (d+1) 36 #[v,.int .i64 z]) h n fun v' h' n'=>
 (iJ xs z∧∃x y,v'= .tuple #[.agg #[x,y],.int .i64 0]∧RR h' n' 22 3 x (bA xs z.toNat 4)∧Row h' n' 3 .i64 y (eH (iG xs) (bA xs z.toNat 3)))∨(¬iJ xs z∧v'= .tuple #[.agg #[.slice none 0 0,.slice none 0 0],.int .i64 1]):=by
 obtain⟨d,rfl⟩:∃k,d=k+1:=⟨d-1,by omega⟩
 rw[aQ (fun _=>SH) rfl]
 refine aj.aP ?_
 unfold Kg
 have bg:=hR
 obtain⟨a,c,rfl⟩:=hR.len
 refine kU qk _ ?_
 obtain⟨ha,lM⟩:∃ha,h.set n (some ⟨67,true,[.slice none 0 0,.slice none 0 0]⟩)=ha:=⟨_,rfl⟩
 have ka:∀b,b<n->ha.get b=h.get b:=fun b hb=>by rw[<-lM];exact aK _ _ (by omega)
 have ga:ha.get n=some ⟨67,true,[.slice none 0 0,.slice none 0 0]⟩:=by rw[<-lM,get_eq]
 rw[lM]
 have zq:=bg.aB (cX n) ka
 have back:∀(x y:Value) (e:Int) (h1:H) (n1:Nat) (Q:Value->H->Nat->Prop),n<n1->h1.get n=some ⟨67,true,[.slice none 0 0,.slice none 0 0]⟩->one x=true->one y=true->(∀h',(∀b,b≠n->h'.get b=h1.get b)->Q (.tuple #[.agg #[x,y],.int .i64 e]) h' n1)->
  aj (fun _=>False) n (fb 2 (.pointer (some ⟨n,0,none⟩)) (.agg #[x,y]) fun _=>fa 2 (.pointer (some ⟨n,0,none⟩)) fun b=>ak [b,.int .i64 e]) h1 n1 Q:=by
  intro x y e h1 n1 Q hn hg o1 o2 hQ
  refine xm (sz:=2) trivial (vs:=[x,y]) rfl rfl (by simp[o1,o2]) hg hn (.inl (av _)) _ fun h5 nz k5=> ?_
  refine Bv trivial trivial (sz:=2) _ _ _ nz (by omega) (by simp) ?_
  rw[yw]
  exact hQ h5 k5
 by_cases h0:xs.length=0
 ·have e:((xs.length:Int)==0)=true:=by rw[h0];rfl
  try simp(disch:=first|omega|assumption|exact aa _) only[ah,ae,RZ,e]
  exact back _ _ 1 ha (n+1) _ (fp n) ga rfl rfl fun h' _=> .inr ⟨fun m=>by have:=m.1;omega,rfl⟩
 have e:((xs.length:Int)==0)=false:=by rw[beq_eq_false_iff_ne];omega
 obtain⟨z1,hz1⟩:∃z1,IntKind.i64.wrap (z-1)=z1:=⟨_,rfl⟩
 try simp(disch:=first|omega|assumption|exact aa _) only[ah,ae,RZ,e,hz1]
 refine bh aW (Yy lf d (n+1) ha aA _ xs z1 zq hl) (by omega) (fun _ _ h=>h.elim) fun v1 h1 n1 _ _ hq=> ?_
 obtain⟨⟨r,rfl,hr⟩,rfl,rfl⟩:=hq
 have gd1:Gd h1 (n+1):=g.aB (cX n) ka
 have mem:∀i,i<xs.length->xs.getD i 0∈xs:=fun i hi=>by rw[aF,aM hi];exact cN _
 have zz:3<=z∧z<=258->z1=z-1:=fun q=>by rw[<-hz1];exact bB (by omega) (by omega)
 by_cases fM:r=(xs.length:Int)-1
 ·have f:(r !=(xs.length:Int)-1)=false:=by rw[fM];simp
  try simp(disch:=first|omega|assumption|exact aa _) only[ah,ae,RZ,f]
  by_cases hz:(3<=z∧z<=258)∧dM z xs=true
  ·have hm:iJ xs z:=by
    refine⟨by omega,hz.1,hz.2,fun j hj=> ?_⟩
    rcases hr with ⟨q,_⟩|⟨i,hi,Ns,hx,bE⟩
    ·omega
    ·rw[zz hz.1]at hx bE
     refine⟨fun q=> ?_,fun q=> ?_⟩
     ·by_cases xE:j<i
      ·exact absurd q (bE j xE)
      ·omega
     ·rw[show j=i by omega];exact hx
   obtain⟨s,rfl⟩:∃s:Nat,z=(s:Int):=⟨z.toNat,by omega⟩
   refine bh aW (ajZ lf (d+1) (n+1) h1 aA _ xs s gd1 zq (by omega) hl (by omega) (by omega) hz.2 hd) (by omega) (fun _ _ h=>h.elim) fun v2 h2 n2 ey eR iE=> ?_
   obtain⟨x,y,rfl,hx,hy⟩:=iE
   have g2:h2.get n=some ⟨67,true,[.slice none 0 0,.slice none 0 0]⟩:=(eR n (fp n) id).trans ga
   try simp(disch:=first|omega|assumption|exact aa _) only[ah,ae,RZ,fk,ext1]
   refine back x y 0 h2 n2 _ (by omega) g2 (by obtain⟨_,_,rfl⟩:=hx.len;rfl) (by obtain⟨_,_,rfl⟩:=hy.len;rfl) fun h' k'=> .inl ⟨hm,x,y,rfl, ?_, ?_⟩
   ·refine hx.nh (av _) fun b B _ hB he=>y5 g2 k' hB fun q=> ?_
    rcases he with he|he
    ·exact absurd (show(22:Nat)=67 from he.symm.trans q) (by decide)
    ·exact absurd (show(3:Nat)=67 from he.symm.trans q) (by decide)
   ·refine hy.nh (av _) fun b B _ hB he=>y5 g2 k' hB fun q=> ?_
    exact absurd (show(3:Nat)=67 from he.symm.trans q) (by decide)
  ·have no:z<3∨258<z∨xs=[]∨dM z xs=false:=by
    cases hb:dM z xs with
    |false=>exact .inr (.inr (.inr rfl))
    |true=>
     have:¬(3<=z∧z<=258):=fun q=>hz ⟨q,hb⟩
     omega
   refine bh aW (aj1 lf (d+1) (n+1) h1 aA _ xs z zq hl no hd) (by omega) (fun _ _ h=>h.elim) fun v2 h2 n2 ey eR iE=> ?_
   subst iE
   have g2:h2.get n=some ⟨67,true,[.slice none 0 0,.slice none 0 0]⟩:=(eR n (fp n) id).trans ga
   try simp(disch:=first|omega|assumption|exact aa _) only[ah,ae,RZ,fk,ext1]
   exact back _ _ 1 h2 n2 _ (by omega) g2 rfl rfl fun h' _=> .inr ⟨fun m=>hz ⟨m.2.1,m.2.2.1⟩,rfl⟩
 ·have f:(r !=(xs.length:Int)-1)=true:=by rw[bne_iff_ne];exact fM
  try simp(disch:=first|omega|assumption|exact aa _) only[ah,ae,RZ,f]
  refine back _ _ 1 h1 (n+1) _ (fp n) ga rfl rfl fun h' _=> .inr ⟨fun m=> ?_,rfl⟩
  rcases hr with ⟨_,q⟩|⟨i,hi,Ns,hx,bE⟩
  ·refine q _ (mem (xs.length-1) (by omega)) ?_
   rw[zz m.2.1]
   exact(m.2.2.2 (xs.length-1) (by omega)).2 (by omega)
  ·rw[zz m.2.1]at hx
   have:=(m.2.2.2 i hi).1 hx
   omega
end
def bu(r:List Int):List Nat:=r.map Int.toNat
theorem aaq{r:List Int}(h:∀x∈r,0<=x):iN (bu r)=r:=by
 unfold iN bu
 rw[List.map_map]
 refine(List.map_congr_left fun x hx=> ?_).trans (List.map_id r)
 have:=h x hx
 show((x.toNat:Nat):Int)=id x
 rw[Int.toNat_of_nonneg this]
 rfl
structure GoodR (s:Nat) (r:List Int):Prop where
 eq:iN (bu r)=r
 len:(bu r).length=s
 lo:∀x∈bu r,1<=x
 hi:∀x∈bu r,x<=20
 sh:iY (iN (bu r))=1048576
 wh:Wh (bu r)
theorem ak4{r:List Int}{s:Nat}(hl:r.length=s)(ha:dD 1 20 r=true)(hs:iY r=1048576):GoodR s r:=by
 have h:=iX.1 ha
 have e:=aaq (r:=r) fun x hx=>by have:=h x hx;omega
 have b:∀x∈bu r,1<=x∧x<=20:=fun x hx=>by
  unfold bu at hx
  obtain⟨y,hy,rfl⟩:=List.mem_map.1 hx
  have:=h y hy
  omega
 refine⟨e,by unfold bu;rw[dE];exact hl,fun x hx=>(b x hx).1,fun x hx=>(b x hx).2,by rw[e];exact hs,ah9 b (by rw[e];exact hs)⟩
theorem ak5{xs:List Int}{s:Nat}(hl:xs.length<=1000000)(bP:dM s xs=true)(h3:3<=s)(fC:s<=258)(k:Nat):∀r∈bA xs s (k+1),GoodR s r:=fun r hr=>by
 have gg:=GS hl bP
 unfold bA qG at hr
 obtain⟨p,_,rfl⟩:=List.mem_map.1 hr
 have hc:(pC (iG xs) (bA xs s k) s p).length=s:=by unfold pC;exact jc _ _
 have:=ZP (c:=pC (iG xs) (bA xs s k) s p) (by omega) (by omega) (B6 (iG xs) (bA xs s k) s p gg (fun g hg=>hg) (av _))
 exact ak4 (by rw[this.1,hc]) this.2.1 this.2.2
def rY(h:H)(n m1:Nat)(si gv:Value)(cs:List Value)(rows:List (List Nat)):Prop:=
 cs.length=rows.length∧∀j,j<rows.length->∃clo chi c,cs[j]? =some (.pointer (some ⟨c,0,none⟩))∧m1<=clo∧chi<=n∧qw h clo chi c (rows.getD j [])∧∀b,clo<=b->b<chi->¬aD si b∧¬aD gv b
theorem rY.aB{h h':H}{n n' m1:Nat}{si kD gv mE:Value}{cs:List Value}{rows:List (List Nat)}(x:rY h n m1 si gv cs rows)(hn:n<=n')(hk:∀b,m1<=b->b<n->¬aD si b->¬aD gv b->h'.get b=h.get b)(hs:∀b,b<n->aD kD b->aD si b)(hg:∀b,b<n->aD mE b->aD gv b):rY h' n' m1 kD mE cs rows:=by
 refine⟨x.1,fun j hj=> ?_⟩
 obtain⟨clo,chi,c,e,h1,h2,hc,ha⟩:=x.2 j hj
 exact⟨clo,chi,c,e,h1,by omega,hc.aB fun b b1 b2=>hk b (by omega) (by omega) (ha b b1 b2).1 (ha b b1 b2).2,fun b b1 b2=>⟨fun q=>(ha b b1 b2).1 (hs b (by omega) q),fun q=>(ha b b1 b2).2 (hg b (by omega) q)⟩⟩
theorem rY.push{h:H}{n m1:Nat}{si gv:Value}{cs:List Value}{rows:List (List Nat)}(x:rY h n m1 si gv cs rows){clo chi c:Nat}{ln:List Nat}(h1:m1<=clo)(h2:chi<=n)(hc:qw h clo chi c ln)(ha:∀b,clo<=b->b<chi->¬aD si b∧¬aD gv b):rY h n m1 si gv (cs++[.pointer (some ⟨c,0,none⟩)]) (rows++[ln]):=by
 refine⟨by rw[aY,aY,x.1];rfl,fun j hj=> ?_⟩
 rw[aY,Cl]at hj
 by_cases q:j<rows.length
 ·obtain⟨a,b,d,e,r⟩:=x.2 j q
  refine⟨a,b,d,by rw[pO (by rw[x.1];exact q)];exact e, ?_⟩
  rw[aF,pO q,<-aF]
  exact r
 ·obtain rfl:j=rows.length:=by omega
  refine⟨clo,chi,c, ?_,h1,h2, ?_,ha⟩
  ·rw[<-x.1];simp
  ·rw[aF];simpa using hc
theorem aar{l:List Nat}(h:0<l.length)(hi:∀x∈l,x<=20):l.getD 0 0<=20:=hi _ (by rw[aF,aM h];exact cN _)
section
variable {lf d lo w m1 n0:Nat} {si0:Value} {W:Nat->Prop} {FR:H->Prop} {tb iL iM:Nat} {T:List (List Int)} {s:Nat}
set_option maxHeartbeats 1000000 in
theorem ak6 (aA:3000000<=lf) (hw:W w) (hwm:w<m1) (hW:∀c,aD si0 c->n0<=c∨W c) (h0:n0<=m1)
 (fr:∀h h':H,FR h->(∀b,b<m1->b≠w->¬aD si0 b->h'.get b=h.get b)->FR h')
 (Cc:∀h n,m1<=n->FR h->RR h n 22 3 (.slice (some ⟨tb,iL,none⟩) T.length iM) T)
 (hT:∀r∈T,GoodR s r) (h3:3<=s) (fC:s<=258) (zg:T.length<=6) {x2 x3 x4 x5 x6 x8 x9:Value} {K:Value->Value->Value->Value->Value->Value->Value->Value->Value->Value->Value->Value->Value->M Value} {Q:Value->H->Nat->Prop}:
 ∀(m i fu:Nat) (l:List Bool) (h:H) (n:Nat) (si gv:Value) (cs:List Value),T.length-i=m->m<fu->i<=T.length->m1<=n->dV h lo n w si l->(∀c,c<m1->aD si c->aD si0 c)->FR h->Own h m1 n 72 gv cs->(∀b,aD gv b->¬aD si b)->rY h n m1 si gv cs ((T.take i).map bu)->l.length+11000*m<=7000000->
 (∀h' n' kD mE cs',m1<=n'->dV h' lo n' w kD (l++((T.drop i).map bu).flatMap iI)->(∀c,c<m1->aD kD c->aD si0 c)->FR h'->Own h' m1 n' 72 mE cs'->(∀b,aD mE b->¬aD kD b)->rY h' n' m1 kD mE cs' (T.map bu)->aj W n0 (K (.pointer (some ⟨w,0,none⟩)) x2 x3 x4 x5 x6 mE x8 x9 (.slice (some ⟨tb,iL,none⟩) T.length iM) (.int .i64 (T.length:Int)) (.int .i64 (T.length:Int)) (.bool false)) h' n' Q)->
 aj W n0 (vG lf (au ai gt lf (d+7)) fu K (.pointer (some ⟨w,0,none⟩)) x2 x3 x4 x5 x6 gv x8 x9 (.slice (some ⟨tb,iL,none⟩) T.length iM) (.int .i64 (T.length:Int)) (.int .i64 (i:Int))) h n Q:=by
 intro m
 induction m with
 |zero=>
  intro i fu l h n si gv cs hm hf hi hn x hs hF hO uw hC hl hK
  obtain⟨fu,rfl⟩:∃f,fu=f+1:=⟨fu-1,by omega⟩
  obtain rfl:i=T.length:=by omega
  rw[vG]
  try simp(disch:=first|omega|assumption|exact aa _) only[ah,ae,RZ,bH]
  rw[j7]at hC
  rw[oL]at hK
  exact hK h n si gv cs hn (by simpa using x) hs hF hO uw hC
 |succ m ih=>
  intro i fu l h n si gv cs hm hf hi hn x hs hF hO uw hC hl hK
  obtain⟨fu,rfl⟩:∃f,fu=f+1:=⟨fu-1,by omega⟩
  have e1:((i:Nat):Int)<((T.length:Nat):Int):=by omega
  obtain⟨b,off,cap,o,ks,hv,hg,hb,bk⟩:=(Cc h n hn hF).at (by omega)
  cases hv
  obtain⟨rv,Ce,eo⟩:=bk i (by omega)
  have rP:T.getD i []∈T:=by rw[aF,aM (by omega)];exact cN _
  have gr:=hT _ rP
  rw[<-gr.eq]at eo
  have wlt:=ep.lt x
  have gw:=ep.get x
  have so:=ep.own x
  have apart:∀b,aD rv b->b≠w∧¬aD si b:=fun b hb=>by
   obtain⟨B,q1,q2⟩:=eo.elem hb
   refine⟨fun e=> ?_,fun q=> ?_⟩
   ·subst e
    rw[gw]at q1;cases q1
    exact absurd (show(63:Nat)=3 from q2) (by decide)
   ·obtain⟨B',q3,q4⟩:=so.elem q
    rw[q1]at q3;cases q3
    rw[q2]at q4
    exact absurd (show(3:Nat)=5 from q4) (by decide)
  rw[vG]
  try simp(disch:=first|omega|assumption|exact aa _) only[ah,ae,RZ,e1,hg,Ce]
  refine bh aW (akF (lf:=lf) (d:=d+1) x eo apart (by rw[gr.len];omega) (by rw[gr.len];omega) gr.lo gr.hi (by omega) aA) (by omega) (fun c hc hq=> ?_) fun v2 h2 n2 ey eR iE=> ?_
  ·rcases hq with rfl|hq
   ·exact .inr hw
   ·by_cases xC:c<m1
    ·exact hW c (hs c xC hq)
    ·exact .inl (by omega)
  obtain⟨rfl,s2,x2',iV⟩:=iE
  have Nr:=eo.fI ey fun b hb=>eR b (eo.lt hb) fun q=>by
   rcases q with q|q
   ·exact(apart b hb).1 q
   ·exact(apart b hb).2 q
  try simp(disch:=first|omega|assumption|exact aa _) only[ah,ae,RZ]
  refine bh aW (ail lf d n2 h2 aA rv (bu (T.getD i [])) Nr (by rw[gr.len];omega) (by rw[gr.len];omega) gr.wh gr.sh) (by omega) (fun _ _ h=>h.elim) fun v3 kX n3 fy dU ny=> ?_
  obtain⟨c,rfl,Gp⟩:=ny
  try simp(disch:=first|omega|assumption|exact aa _) only[ah,ae,RZ,fk,ext1]
  have zA:∀b,aD gv b->m1<=b∧b<n:=fun b hb=>hO.lt hb
  have GH:Own kX m1 n3 72 gv cs:=hO.aB (by omega) fun b hb=>by
   have:=zA b hb
   rw[dU b (by omega) id,eR b (by omega) fun q=>by
    rcases q with q|q
    ·omega
    ·exact uw b hb q]
  have zB:cs.length<=6:=by rw[hC.1,dE,cJ];omega
  refine Mj trivial (aea _) GH (by omega) (fun b hb=> .inl (by have:=zA b hb;omega)) _ fun h4 g4 k4=> ?_
  try simp(disch:=first|omega|assumption|exact aa _) only[ah,ae,RZ]
  have w1:((i:Nat):Int)+1=((i+1:Nat):Int):=rfl
  rw[w1]
  have aas:∀b,aD s2 b->b<n2:=fun b hb=>((ep.own x2').lt hb).2
  have dl:(iI (bu (T.getD i []))).length<=11000:=by
   unfold iI
   rw[aY,dL]
   have py:=aar (l:=bu (T.getD i [])) (by rw[gr.len];omega) gr.hi
   have:=NG (bu (T.getD i [])) _ py gr.hi
   rw[gr.len]at this
   omega
  refine ih (i+1) fu _ h4 (n3+2) s2 _ _ (by omega) (by omega) (by omega) (by omega) (x2'.aB (by omega) fun b hb hq=> ?_) (fun c hc q=>hs c hc (iV c (by omega) q)) ?_ (Own.mk' g4 (by omega) (by omega) (by simp)) (fun b hb q=> ?_) ?_ (by rw[aY];omega) ?_
  ·rw[k4 b (by omega) fun q=>by
    rcases hq with rfl|hq
    ·have:=zA _ q;omega
    ·have:=zA b q
     exact uw b q (iV b (by omega) hq),dU b (by omega) id]
  ·refine fr h h4 hF fun b hb bE mT=> ?_
   rw[k4 b (by omega) (fun q=>by have:=zA b q;omega),dU b (by omega) id,eR b (by omega) fun q=>by
    rcases q with q|q
    ·exact bE q
    ·exact mT (hs b hb q)]
  ·rw[hb.inj]at q
   have:=aas _ q
   omega
  ·rw[show T.take (i+1)=T.take i++[T.getD i []] by rw[aF,aM (by omega)];exact(am1 (by omega)).symm,eK]
   refine rY.push (c:=c) (clo:=n2) (chi:=n3) ?_ (by omega) (by omega) (Gp.aB fun b b1 b2=>k4 b b2 fun q=>by have:=zA b q;omega) fun b b1 b2=>⟨fun q=>by have:=aas b q;omega,fun q=>by rw[q.inj]at b2;omega⟩
   refine hC.aB (by omega) (fun b b0 b1 b2 b3=> ?_) (fun b hb q=>iV b hb q) (fun b hb q=>by rw[q.inj]at hb;omega)
   rw[k4 b (by omega) b3,dU b (by omega) id,eR b (by omega) fun q=>by
    rcases q with q|q
    ·omega
    ·exact b2 q]
  ·intro h' n' kD mE cs' a1 a2 a3 a4 a5 a6 a7
   refine hK h' n' kD mE cs' a1 ?_ a3 a4 a5 a6 a7
   rw[jW [] (show i<T.length by omega),List.map_cons,List.flatMap_cons,<-cI]
   exact a2
end
def jG(rows:List (List Nat))(ps:List Nat):Nat->List Nat->List Bool
 |_,[]=>[]
 |i,x::l=>oC (rows.getD (ps.getD (i/50) 0) []) x++jG rows ps (i+1) l
theorem zC(rows:List (List Nat))(ps:List Nat)(i x:Nat)(l:List Nat):jG rows ps i (x::l)=oC (rows.getD (ps.getD (i/50) 0) []) x++jG rows ps (i+1) l:=rfl
theorem xF{l:List Nat}{i:Nat}(h:i<l.length):l.getD i 0∈l:=by
 rw[aF,aM h]
 exact cN _
section
variable {lf d lo w m1 n0 z gb gcap:Nat} {si0 xv pv tv:Value} {W:Nat->Prop} {FR:H->Prop} {rows:List (List Nat)} {ps xn:List Nat} {cs:List Value} {e gt':TypeId}
set_option maxHeartbeats 1000000 in
theorem ak7 (aA:3000000<=lf) (hw:W w) (hwm:w<m1) (hW:∀c,aD si0 c->n0<=c∨W c) (h0:n0<=m1)
 (fr:∀h h':H,FR h->(∀b,b<m1->b≠w->¬aD si0 b->h'.get b=h.get b)->FR h')
 (hx:∀h n,m1<=n->FR h->Row h n 3 .i64 xv (iN xn)) (hp:∀h n,m1<=n->FR h->Row h n 3 .i64 pv (iN ps))
 (hz:z<m1) (eE:∀h,FR h->h.get z=some ⟨e,true,[tv,pv]⟩) (Nb:gb<m1) (rC:∀h,FR h->h.get gb=some ⟨gt',true,cs⟩)
 (hcd:∀h,FR h->∀j,j<rows.length->∃clo chi c,cs[j]? =some (.pointer (some ⟨c,0,none⟩))∧chi<=m1∧qw h clo chi c (rows.getD j [])) (fG:cs.length=rows.length)
 (G':∀r∈rows,Wh r) (NQ:∀p∈ps,p<rows.length) (iT:∀i,i<xn.length->i/50<ps.length) (NS:∀x∈xn,∀r∈rows,x<r.length) (G0:xn.length<=100000) {x3 x4 x6 x8 x9 x10 x11 x12 x13:Value}:
 ∀(m i fu:Nat) (l:List Bool) (h:H) (n:Nat) (si:Value),xn.length-i=m->m<fu->i<=xn.length->m1<=n->dV h lo n w si l->(∀c,c<m1->aD si c->aD si0 c)->FR h->l.length+20*m<=9000000->
 aj W n0 (vH lf (au ai gt lf (d+3)) fu (Eh lf (au ai gt lf (d+3))) (.pointer (some ⟨w,0,none⟩)) xv x3 x4 (.pointer (some ⟨z,0,none⟩)) x6 (.slice (some ⟨gb,0,none⟩) rows.length gcap) x8 x9 x10 x11 x12 x13 xv (.int .i64 (xn.length:Int)) (.int .i64 (i:Int))) h n fun v' h' n'=>v'= .int .i64 0∧m1<=n'∧∃kD,dV h' lo n' w kD (l++jG rows ps i (xn.drop i))∧∀c,c<m1->aD kD c->aD si0 c:=by
 intro m
 induction m with
 |zero=>
  intro i fu l h n si hm hf hi hn x hs hF hl
  obtain⟨fu,rfl⟩:∃f,fu=f+1:=⟨fu-1,by omega⟩
  obtain rfl:i=xn.length:=by omega
  rw[vH]
  try simp(disch:=first|omega|assumption|exact aa _) only[ah,ae,RZ,bH]
  (try unfold Eh);(try unfold anD);(try dsimp only)
  try simp(disch:=first|omega|assumption|exact aa _) only[ah,ae,RZ]
  refine⟨hn,si, ?_,hs⟩
  rw[oL]
  simpa[jG]using x
 |succ m ih=>
  intro i fu l h n si hm hf hi hn x hs hF hl
  obtain⟨fu,rfl⟩:∃f,fu=f+1:=⟨fu-1,by omega⟩
  have il:=db xn
  have pl:=db ps
  have hq:=iT i (by omega)
  obtain⟨b1,o1,c1,w1,k1,rfl,g1,l1,_,_,_,t1⟩:=(hx h n hn hF).some (by omega)
  obtain⟨b2,o2,c2,w2,k2,rfl,g2,l2,_,_,_,t2⟩:=(hp h n hn hF).some (by omega)
  have a1:=t1 i (by omega)
  have a2:=t2 (i/50) (by omega)
  rw[kz]at a1 a2
  have pm:=NQ _ (xF hq)
  have gz:=eE h hF
  have gg:=rC h hF
  obtain⟨clo,chi,c,ec,hci,NT⟩:=hcd h hF _ pm
  have rm:rows.getD (ps.getD (i/50) 0) []∈rows:=by rw[aF,aM pm];exact cN _
  have e1:((i:Nat):Int)<((xn.length:Nat):Int):=by omega
  have NU:((i:Nat):Int)<(((iN xn).length:Nat):Int):=by omega
  have q1:((i:Nat):Int).tdiv 50=((i/50:Nat):Int):=rfl
  have q2:((i/50:Nat):Int)<(((iN ps).length:Nat):Int):=by omega
  have q3:((ps.getD (i/50) 0:Nat):Int)<((rows.length:Nat):Int):=by omega
  have q4:IntKind.i64.wrap ((i/50:Nat):Int)=((i/50:Nat):Int):=bB (by omega) (by omega)
  have ww:((i:Nat):Int)+1=((i+1:Nat):Int):=rfl
  have hzn:z<n:=by omega
  have kV:gb<n:=by omega
  have Cf:xn.getD i 0<(rows.getD (ps.getD (i/50) 0) []).length:=NS _ (xF (by omega)) _ rm
  have z1:([tv,jH (some ⟨b2,o2,none⟩) (iN ps).length c2]:List Value)[1]? =some (.slice (some ⟨b2,o2,none⟩) (iN ps).length c2):=rfl
  rw[vH]
  try simp(disch:=first|omega|assumption|exact aa _) only[ah,ae,RZ,e1,NU,g1,a1,gz,z1,q1,q4,q2,g2,a2,q3,gg,ec,iO]
  refine bh aW (akX (lf:=lf) (d:=d) x NT (by omega) (G' _ rm) Cf (by omega) (by omega)) (by omega) (fun c hc hq=> ?_) fun v2 h2 n2 ey eR iE=> ?_
  ·rcases hq with rfl|hq
   ·exact .inr hw
   ·by_cases xC:c<m1
    ·exact hW c (hs c xC hq)
    ·exact .inl (by omega)
  obtain⟨rfl,s2,x2,iV⟩:=iE
  try simp(disch:=first|omega|assumption|exact aa _) only[ah,ae,RZ]
  rw[ww]
  have cl:(oC (rows.getD (ps.getD (i/50) 0) []) (xn.getD i 0)).length<=20:=by
   unfold oC
   rw[dL]
   exact((G' _ rm).at Cf).2
  refine(ih (i+1) fu _ h2 n2 s2 (by omega) (by omega) (by omega) (by omega) x2 (fun c hc q=>hs c hc (iV c (by omega) q)) (fr h h2 hF fun b hb bE mT=>eR b (by omega) fun q=> ?_) (by rw[aY];omega)).mono ?_
  ·rcases q with q|q
   ·exact bE q
   ·exact mT (hs b hb q)
  ·rintro v' h' n' _ ⟨rfl,q1,NM,x3,pH⟩
   refine⟨rfl,q1,NM, ?_,pH⟩
   rw[jW 0 (show i<xn.length by omega),zC,<-cI]
   exact x3
end
end Go.Proofs.YtdagfcflbphoiaaGreatDoor
