import Derived.Test.YtdagfcflbphoiaaGreatDoorMae
import Derived.Test.YtdagfcflbphoiaaGreatDoorMag
open Int renaming natCast_nonneg→aa, reduceBEq→bk, reduceBNe→bm, reduceLT→bp, reduceLE→bq, reduceEq→bt, reduceNe→bu, reduceAdd→bx, reduceSub→bz, reduceMul→bA, reduceNeg→bB, lt_irrefl→c9, toNat_of_nonneg→mf, toNat_natCast→o0
open Nat renaming reduceLT→ae, reduceAdd→ag, le_refl→ak, zero_le→cb, le_succ→fg, zero_add→gU, lt_succ_self→gX, lt_of_lt_of_le→mL, min_eq_left→nR, sub_self→nT, not_lt_zero→rB, pow_le_pow_right→rC, add_assoc→E1, mod_lt→E7, le_add_right→WS, le_of_lt→ah7, sub_zero→aim, max_eq_left→aio
open Go.Proofs.Tryz renaming prog→ai, underlying3→ail
open List renaming getD_eq_getElem?_getD→aC, length_append→aM, getElem?_eq_getElem→aR, replicate→cq, length_cons→cu, append_assoc→cE, range→cN, append_nil→dF, length_take→dW, getElem_mem→ep, length_drop→eP, drop_zero→gT, length_nil→iz, take_of_length_le→kH, getElem?_map→lE, getElem?_append_left→me, length_map→mM, take_succ_eq_append_getElem→mQ, map_append→mR, length_replicate→mS, take_length→nQ, mem_of_mem_take→qh, getElem?_eq_none→vG, drop_length→xS, mem_singleton→xU, take_zero→AJ, drop_drop→AN, getElem_map→AP, map→Lt, flatMap_cons→LC, replicate_succ→Xj, length_singleton→ag9, flatten_cons→ain, take_append_getElem→aip
open Bool renaming not_true→gu, not_false→gZ, and_self→mO
open Go.Value renaming slice→jF, pointer→mP
open Go.IntKind renaming u32→AO, bits→E5
open Classical renaming epsilon→ajd, epsilon_spec→aje
set_option linter.unusedVariables false
set_option linter.unusedSimpArgs false
namespace Go.Proofs.YtdagfcflbphoiaaGreatDoor
open Go.RowKit Ev Tb
theorem kD.tx{r:Nat}{w l:List Int}(x:kD r w l):∀{r':Nat} {l':List Int},kD r' w l'->l=l':=by
 induction x with
 |stop w hW so hs=>
  intro r' l' y
  cases y with
  |stop=>rfl
  |next _ _ hn _=>exact absurd hs hn
 |next hW so hs hr ih=>
  intro r' l' y
  cases y with
  |stop _ _ _ hn=>exact absurd hn hs
  |next _ _ _ jK=>exact ih jK
noncomputable def te (c:List Int):List Int:=ajd fun l=>∃r,kD r (jD c) l∧r<=40
theorem VA{c l:List Int}{r:Nat}(h:kD r (jD c) l)(hr:r<=40):l=te c:=by
 obtain⟨r',h',_⟩:=aje (p:=fun l=>∃r,kD r (jD c) l∧r<=40) ⟨l,r,h,hr⟩
 exact h.tx h'
section
variable (lf d n:Nat) (h:H) (aw:3000000<=lf)
include aw
theorem aft(v:Value)(c:List Int)(hR:Row h n 3 .i64 v c)(h3:3<=c.length)(ek:c.length<=258)(hm:eg 0 1099511627776 c=true)(hd:400<=d):
 ah (fun _=>False) n (aq ai gt lf d 127 #[v]) h n fun v' h' n'=>∃v1,v'= .tuple #[v1,.int .i64 0]∧Row h' n' 3 .i64 v1 (te c):=by
 refine(Vz lf d n h v c hR h3 ek hm aw hd).mono ?_
 rintro v' h' n' _ ⟨v1,l,r,rfl,hr,jK,gf⟩
 rw[VA hr jK]at gf
 exact⟨v1,rfl,gf⟩
omit aw in
theorem afu{c:List Int}(h3:3<=c.length)(ek:c.length<=258)(hm:eg 0 1099511627776 c=true):∃r,kD r (jD c) (te c)∧r<=40:=by
 obtain⟨_,_,_,_,_,_,_,v1,l,r,_,hr,jK,_⟩:=Vz 3000000 400 1 (H.set .nil 0 (some ⟨3,true,aL .i64 c⟩)) _ c (Row.zZ (get_eq _ _ _) (gX 0) rfl) h3 ek hm (ak _) (ak _)
 have e:=VA hr jK
 rw[e]at hr
 exact⟨r,hr,jK⟩
omit aw in
theorem VB{c:List Int}(h3:3<=c.length)(ek:c.length<=258)(hm:eg 0 1099511627776 c=true):(te c).length=c.length∧eg 1 20 (te c)=true∧dS (te c)=1048576:=by
 obtain⟨r,hr,_⟩:=afu h3 ek hm
 obtain⟨a,b,e⟩:=hr.whole
 rw[qc]at a
 exact⟨a,b,e⟩
end
def GoodT(s:Nat)(T:List (List Int)):Prop:=∀t∈T,t.length=s∧∀y∈t,0<=y∧y<=20
def GoodG(s:Nat)(gs:List (List Int)):Prop:=(∀g∈gs,g.length<=50∧eu s g=true)∧gs.length<=40000
noncomputable def rh (gs T:List (List Int)) (s:Nat):List (List Int):=(cN T.length).map fun p=>te (tc gs T s p)
def kE(gs T:List (List Int)):List Int:=(kC gs T).map fun(x:Nat)=>(x:Int)
theorem Ad(gs T:List (List Int)):(kC gs T).length=gs.length:=by unfold kC;simp
theorem Ae(gs T:List (List Int)):(kE gs T).length=gs.length:=by unfold kE;rw[mM,Ad]
theorem EH(gs T:List (List Int))(s p:Nat){EI:List (List Int)}{qs:List Nat}(hg:GoodG s gs)(hs:∀g∈EI,g∈gs)(hl:EI.length<=gs.length):eg 0 1099511627776 (dT (ly p EI qs) s)=true:=by
 refine k8.2 fun x hx=> ?_
 have h1:=Kk hx
 have h2:=Kn p EI qs fun g fM=>(hg.1 g (hs g fM)).1
 have:=hg.2
 omega
theorem afv{s:Nat}{T:List (List Int)}{g:List Int}(hT:GoodT s T)(hs:s<=258)(hg:eu s g=true):∀t∈T,t.length<=1000000∧eg 0 1099511627776 t=true∧eu t.length g=true:=fun t ht=>by
 obtain⟨a,b⟩:=hT t ht
 exact⟨by omega,k8.2 fun y hy=>by have:=b y hy;omega,by rw[a];exact hg⟩
theorem afw{gs T:List (List Int)}{s:Nat}(hg:GoodG s gs)(h3:3<=s)(ek:s<=258):GoodT s (rh gs T s):=by
 intro t ht
 unfold rh at ht
 obtain⟨p,_,rfl⟩:=List.mem_map.1 ht
 have hl:(tc gs T s p).length=s:=kB _ _
 obtain⟨a,b,_⟩:=VB (c:=tc gs T s p) (by omega) (by omega) (EH gs T s p hg (fun _ h=>h) (ak _))
 exact⟨by omega,fun y hy=>by have:=k8.1 b y hy;omega⟩
theorem afx(gs T:List (List Int))(s:Nat):(rh gs T s).length=T.length:=by unfold rh;simp
section
variable (lf d n:Nat) (h:H) (aw:3000000<=lf)
include aw
set_option maxHeartbeats 1000000 in
theorem afy(u v:Value)(gs T:List (List Int))(s:Nat)(hG:RR h n 22 3 u gs)(hT:RR h n 22 3 v T)(hg:GoodG s gs)(ht:GoodT s T)(h0:0<T.length)(h6:T.length<=6)(h3:3<=s)(ek:s<=258)(hd:500<=d):
 ah (fun _=>False) n (aq ai gt lf d 101 #[u,v,.int .i64 (s:Int)]) h n fun v' h' n'=>∃x y,v'= .tuple #[x,y]∧Row h' n' 3 .i64 x (kE gs T)∧RR h' n' 22 3 y (rh gs T s):=by
 obtain⟨d,rfl⟩:∃e,d=e+8:=⟨d-8,by omega⟩
 rw[aD (fun _=>Rd) rfl]
 refine ah.aB ?_
 unfold C4
 have VC:=hG
 have pO:=hT
 obtain⟨a,c,rfl⟩:=hT.len
 obtain⟨a2,c2,rfl⟩:=hG.len
 obtain⟨t,rf⟩:∃t,T.length=t:=⟨_,rfl⟩
 rw[rf]at h0 h6 pO⊢
 try simp(disch:=first|omega|assumption|exact aa _) only[ag,ae,RZ]
 refine Ev.run_make trivial t t _ (ak _) (by omega) ?_
 try simp(disch:=first|omega|assumption|exact aa _) only[ag,ae,RZ]
 let jC:Nat->Value:=fun j=> .slice (some ⟨n+1+j,0,none⟩) s s
 refine iq t (fun fu i (_:Unit)=>uO lf (aq ai gt lf (d+7)) fu (y5 lf (aq ai gt lf (d+7))) (.slice a2 gs.length c2) (.slice a t c) (.int .i64 (s:Nat)) (.slice none 0 0) (.slice none 0 0) (.slice none 0 0) (.slice (some ⟨n,0,none⟩) t t) (.int .i64 (t:Nat)) (.int .i64 (i:Nat)))
  (fun i _ h' n'=>n'=n+1+i∧(∀b,b<n->h'.get b=h.get b)∧h'.get n=some ⟨22,true,rc jC (.slice none 0 0) t i⟩∧∀j,j<i->h'.get (n+1+j)=some ⟨3,true,aL .i64 (cq s 0)⟩) ?_ ?_ lf 0 () _ _ (cb _) (by omega) ⟨rfl,fun b hb=>aA _ _ (by omega),by rw[get_eq,TK],fun j hj=>absurd hj (rB j)⟩
 ·rintro fu _ h' n' ⟨rfl,hk,lV,hj⟩
  rw[uO]
  try simp(disch:=first|omega|assumption|exact aa _) only[ag,ae,RZ,c9]
  (try unfold y5);(try dsimp only)
  try simp(disch:=first|omega|assumption|exact aa _) only[ag,ae,RZ]
  rw[TL]at lV
  have Jo:=hg.2
  refine iq gs.length (fun fu i (q:Value)=>uP lf (aq ai gt lf (d+7)) fu (y4 lf (aq ai gt lf (d+7))) (.slice a2 gs.length c2) (.slice a t c) (.int .i64 (s:Nat)) (.slice none 0 0) (.slice none 0 0) q (.slice (some ⟨n,0,none⟩) t t) _ _ _ (.slice a2 gs.length c2) (.int .i64 (gs.length:Nat)) (.int .i64 (i:Nat)))
   (fun i q h' n'=>n<n'∧(∀b,b<n->h'.get b=h.get b)∧Own h' (n+1) n' 3 q (aL .i64 ((kE gs T).take i))∧∃cs:List Value,h'.get n=some ⟨22,true,cs⟩∧cs.length=t∧∀p,p<t->Row h' n' 3 .i64 (cs.getD p undef) (dT (ly p (gs.take i) ((kC gs T).take i)) s)∧(∀b,ar (cs.getD p undef) b->¬ar q b)) ?_ ?_ lf 0 _ _ _ (cb _) (by omega) ⟨by omega,hk,Own.nil _ _ _ _,_,lV,by simp,fun p hp=>⟨?_,fun b _ q=>q.not_nil⟩⟩
  ·rintro fu q h' n' ⟨hn,hk,hO,cs,oP,fU,gf⟩
   rw[uP]
   try simp(disch:=first|omega|assumption|exact aa _) only[ag,ae,RZ,c9]
   (try unfold y4);(try unfold aiS);(try dsimp only)
   try simp(disch:=first|omega|assumption|exact aa _) only[ag,ae,RZ]
   rw[kH (by rw[Ae];exact ak _)]at hO
   have Kz:∀p,p<t->Row h' n' 3 .i64 (cs.getD p undef) (tc gs T s p):=fun p hp=>by
    have:=(gf p hp).1
    rw[nQ,kH (by rw[Ad];exact ak _)]at this
    exact this
   have hx:=hO.row
   refine iq t (fun fu i (w:Value)=>uQ lf (aq ai gt lf (d+7)) fu (C1 lf (aq ai gt lf (d+7))) (.slice a2 gs.length c2) (.slice a t c) (.int .i64 (s:Nat)) (.slice none 0 0) (.slice none 0 0) q (.slice (some ⟨n,0,none⟩) t t) w _ _ _ _ _ _ _ (.slice (some ⟨n,0,none⟩) t t) (.int .i64 (t:Nat)) (.int .i64 (i:Nat)))
    (fun i w h2 n2=>n'<=n2∧(∀b,b<n'->h2.get b=h'.get b)∧iJ h2 n' n2 n2 22 3 w ((cN i).map fun p=>te (tc gs T s p))) ?_ ?_ lf 0 _ _ _ (cb _) (by omega) ⟨ak _,fun _ _=>rfl,iJ.nil _ _ _ _ _ _⟩
   ·rintro fu w h2 n2 ⟨dZ,b8,tf⟩
    rw[uQ]
    try simp(disch:=first|omega|assumption|exact aa _) only[ag,ae,RZ,c9]
    (try unfold C1);(try unfold aiT);(try dsimp only)
    try simp(disch:=first|omega|assumption|exact aa _) only[ag,ae,RZ]
    refine⟨_,_,rfl,hx.ax dZ b8, ?_⟩
    have:=tf.rr
    unfold rh
    rw[rf]
    exact this
   ·rintro fu i w h2 n2 hi ⟨dZ,b8,tf⟩ next
    have e1:((i:Nat):Int)<((t:Nat):Int):=by omega
    have afz:h2.get n=some ⟨22,true,cs⟩:=(b8 n (by omega)).trans oP
    have cx:cs[i]? =some (cs.getD i undef):=by rw[aC,aR (by omega)];rfl
    have pV:n<n2:=by omega
    have KA:=(Kz i hi).ax dZ b8
    rw[uQ]
    try simp(disch:=first|omega|assumption|exact aa _) only[ag,ae,RZ,e1,afz,cx]
    refine aI aF (aft lf (d+7) n2 h2 aw _ _ KA (by show 3<=(dT _ _).length;rw[kB];exact h3) (by show(dT _ _).length<=258;rw[kB];exact ek) (EH gs T s i hg (fun _ h=>h) (ak _)) (by omega)) (by omega) (fun _ _ h=>h.elim) fun v1 h4 n4 vz ri hq=> ?_
    obtain⟨l,rfl,hl⟩:=hq
    have VD:=(tf.ax vz fun b hb _=>ri b hb id).up vz
    try simp(disch:=first|omega|assumption|exact aa _) only[ag,ae,RZ,cw,ext1]
    refine TO trivial (by decide) VD hl (ak _) (by simp;omega) (by omega) (by omega) _ fun v2 h5 o5 k5 _=> ?_
    try simp(disch:=first|omega|assumption|exact aa _) only[ag,ae,RZ]
    refine next v2 h5 (n4+2) ⟨by omega,fun b hb=> ?_, ?_⟩
    ·rw[k5 b (by omega) fun q=>by have:=(VD.lt q).1;omega,ri b (by omega) id]
     exact b8 b hb
    ·rw[List.range_succ,mR]
     exact o5.up (by omega)
  ·rintro fu i q h' n' hi ⟨hn,hk,hO,cs,oP,fU,gf⟩ next
   have e1:((i:Nat):Int)<((gs.length:Nat):Int):=by omega
   obtain⟨b,off,cap,o,ks,hv,pX,hb,cI⟩:=(VC.ax (ah7 hn) hk).at (by omega)
   cases hv
   obtain⟨x,hx,Aa⟩:=cI i hi
   have DW:=pO.ax (ah7 hn) hk
   have gm:gs.getD i []∈gs:=by rw[aC,aR hi];exact ep hi
   obtain⟨g1,g2⟩:=hg.1 _ gm
   have pl:=Vh (gs.getD i []) (T:=T) (by omega)
   obtain⟨p,hp⟩:∃p,zX (gs.getD i []) T=p:=⟨_,rfl⟩
   rw[hp,rf]at pl
   rw[uP]
   try simp(disch:=first|omega|assumption|exact aa _) only[ag,ae,RZ,e1,pX,hx]
   refine bV (afi lf d n' h' aw x _ _ T Aa DW (by omega) (by omega) (afv ht ek g2)) (by omega) (fun _ _ h=>h.elim) ?_
   rw[hp]
   refine yN trivial (oF _ _) hO (by rw[eF,dW,Ae];omega) (by omega) _ fun h2 fG b8=> ?_
   have pn:aL .i64 ((kE gs T).take i)++[.int .i64 (p:Int)]=aL .i64 ((kE gs T).take (i+1)):=by
    have:(kE gs T).take (i+1)=(kE gs T).take i++[(p:Int)]:=by
     rw[mQ (by rw[Ae];exact hi)]
     congr 2
     unfold kE kC
     simp only[AP]
     rw[<-hp,aC,aR hi]
     rfl
    rw[this]
    unfold aL
    rw[mR]
    rfl
   rw[pn]at fG
   have pn2:(kC gs T).take (i+1)=(kC gs T).take i++[p]:=by
    rw[mQ (by rw[Ad];exact hi)]
    congr 2
    unfold kC
    simp only[AP]
    rw[<-hp,aC,aR hi]
    rfl
   have gn2:gs.take (i+1)=gs.take i++[gs.getD i []]:=by
    rw[mQ hi,aC,aR hi]
    rfl
   have ll:(aL .i64 ((kE gs T).take i)).length=i:=by rw[eF,dW,Ae];omega
   rw[ll]
   have VE:∀b,b<n+1->h2.get b=h'.get b:=fun b hb=>b8 b (by omega) fun q=>by have:=(hO.lt q).1;omega
   have tf:Own h2 (n+1) (n'+2) 3 (.slice (some ⟨n'+1,0,none⟩) (i+1) (ba+(i+1))) (aL .i64 ((kE gs T).take (i+1))):=Own.mk' fG (by omega) (by omega) (by rw[eF,dW,Ae];omega)
   have afA:Row h2 (n'+2) 3 .i64 x (gs.getD i []):=Aa.fC (by omega) fun c hc=>b8 c (Aa.lt hc) fun q=>by
    obtain⟨q1,q2⟩:=hO.lt q
    have:=(VC.ax (ak n) (fun _ _=>rfl))
    obtain⟨b',lO,cK,o',ks',ct,afB,bM,afC⟩:=this.at (by omega)
    cases ct
    obtain⟨x',re,afD⟩:=afC i hi
    rw[hk b bM,afB]at pX
    cases pX
    rw[re]at hx
    cases hx
    have:=afD.lt hc
    omega
   try simp(disch:=first|omega|assumption|exact aa _) only[ag,ae,RZ]
   refine aI aF (Kw lf (d+6) (n'+2) h2 aw x _ afA (by omega) s h3 ek) (by omega) (fun _ _ h=>h.elim) fun v3 nB n3 fp dA gQ=> ?_
   rcases gQ with ⟨_,m,rfl,hm⟩|⟨ot,_⟩
   rotate_left
   ·rw[g2]at ot;cases ot
   have e2:((p:Nat):Int)<((t:Nat):Int):=by omega
   have VF:nB.get n=some ⟨22,true,cs⟩:=by rw[dA n (by omega) id,VE n (by omega)];exact oP
   have cx:cs[p]? =some (cs.getD p undef):=by rw[aC,aR (by omega)];rfl
   have pV:n<n3:=by omega
   have VG:∀j,j<t->Row nB n3 3 .i64 (cs.getD j undef) (dT (ly j (gs.take i) ((kC gs T).take i)) s):=fun j hj=>
    ((gf j hj).1.fC (show n'<=n'+2 by omega) fun c hc=>b8 c ((gf j hj).1.lt hc) ((gf j hj).2 c hc)).ax fp fun c hc=>dA c hc id
   try simp(disch:=first|omega|assumption|exact aa _) only[ag,ae,RZ,cw,ext1,e2,VF,cx]
   refine aI aF (ae2 lf (d+1) n3 nB aw _ _ _ _ (VG p pl) hm (by rw[kB];omega) (by rw[kB,kB]) (EH gs T s p hg (fun g fM=>qh fM) (by rw[dW];omega)) (k8.2 fun y hy=>by have:=Kk hy;omega)) (by omega) (fun _ _ h=>h.elim) fun v4 h4 n4 vz ri zR=> ?_
   obtain⟨z,rfl,hz,VH⟩:=zR
   have KB:h4.get n=some ⟨22,true,cs⟩:=(ri n pV id).trans VF
   have xF:n<n4:=by omega
   have afE:one z=true:=by obtain⟨_,_,rfl⟩:=hz.len;rfl
   try simp(disch:=first|omega|assumption|exact aa _) only[ag,ae,RZ,cw,ext1,e2,KB]
   refine ac3 trivial n _ z _ KB xF (by omega) afE (.inl (ak _)) ?_
   have za:=aeQ (ly p (gs.take i) ((kC gs T).take i)) (gs.getD i []) s (by
    have:=Kn p (gs.take i) ((kC gs T).take i) fun g fM=>(hg.1 g (qh fM)).1
    rw[dW]at this
    omega)
   rw[za]at hz
   have rr:∀{y:Value} {ys:List Int} {m:Nat} (q:Row h4 m 3 .i64 y ys),Row (h4.set n (some ⟨22,true,cs.set p z⟩)) m 3 .i64 y ys:=fun q=>q.fC (ak _) fun c hc=>aA _ _ fun e=>by
    obtain⟨B,b1,b2⟩:=q.elem hc
    rw[e,KB]at b1
    cases b1
    exact absurd (show(22:Nat)=3 from b2) (by decide)
   have oo:Own (h4.set n (some ⟨22,true,cs.set p z⟩)) (n+1) n4 3 (.slice (some ⟨n'+1,0,none⟩) (i+1) (ba+(i+1))) (aL .i64 ((kE gs T).take (i+1))):=
    ((tf.ax fp fun c hc=>dA c (tf.lt hc).2 id).ax vz fun c hc=>ri c (by have:=(tf.lt hc).2;omega) id).ax (ak _) fun c hc=>aA _ _ (by have:=(tf.lt hc).1;omega)
   refine next _ _ _ ⟨by omega,fun c hc=> ?_,oo,cs.set p z,get_eq _ _ _,by simp[fU],fun j hj=> ?_⟩
   ·rw[aA _ _ (by omega),ri c (by omega) id,dA c (by omega) id,VE c (by omega)]
    exact hk c hc
   ·have al:(gs.take i).length=((kC gs T).take i).length:=by rw[dW,dW,Ad]
    rw[gn2,pn2,Vi j _ _ _ _ al]
    by_cases e:j=p
    ·subst e
     have:(cs.set j z).getD j undef=z:=by rw[aC,List.getElem?_set_self (by omega)];rfl
     rw[this,if_pos rfl]
     exact⟨rr hz,fun c hc q=>by have:=VH c hc;have:=q.inj;omega⟩
    ·have:(cs.set p z).getD j undef=cs.getD j undef:=by rw[aC,List.getElem?_set_ne (fun q=>e q.symm),aC]
     rw[this,if_neg (fun q=>e q.symm),dF]
     exact⟨rr ((VG j hj).ax vz fun c hc=>ri c hc id),fun c hc q=>by have:=(gf j hj).1.lt hc;have:=q.inj;omega⟩
  ·have:((cN t).map jC).getD p undef=jC p:=Ky _ _ hp
   rw[this]
   have e:dT (ly p (gs.take 0) ((kC gs T).take 0)) s=cq s 0:=by
    rw[AJ,AJ]
    exact Ve s
   rw[e]
   exact Row.zZ (hj p hp) (by omega) (by simp)
 ·rintro fu i _ h' n' hi ⟨rfl,hk,fM,hj⟩ next
  have e2:((i:Nat):Int)<((t:Nat):Int):=by omega
  rw[uO]
  try simp(disch:=first|omega|assumption|exact aa _) only[ag,ae,RZ,e2]
  refine Ev.run_make trivial s s _ (ak _) (by omega) ?_
  have fG:(h'.set (n+1+i) (some ⟨3,true,cq s (.int .i64 0)⟩)).get n=some ⟨22,true,rc jC (.slice none 0 0) t i⟩:=by rw[aA _ _ (by omega)];exact fM
  have xF:n<n+1+i+1:=by omega
  have rs:=TN (f:=jC) (z:= .slice none 0 0) hi
  have Ab:jC i= .slice (some ⟨n+1+i,0,none⟩) s s:=rfl
  rw[Ab]at rs
  try simp(disch:=first|omega|assumption|exact aa _) only[ag,ae,RZ,e2,fG,rs,Jz]
  refine⟨hi,.inl (by omega), ?_⟩
  refine next () _ _ ⟨by omega,fun b hb=>by rw[aA _ _ (by omega),aA _ _ (by omega)];exact hk b hb,get_eq _ _ _,fun j td=> ?_⟩
  rw[aA _ _ (by omega)]
  by_cases q:j=i
  ·subst q
   rw[get_eq,Eu]
  ·rw[aA _ _ (by omega)]
   exact hj j (by omega)
end
noncomputable def eW (xs:List Int) (s:Nat):Nat->List (List Int)
 |0=>vx (dT xs s) (xs.length:Int)
 |k+1=>rh (jV xs) (eW xs s k) s
theorem Af(xs:List Int)(s:Nat):∀k,(eW xs s k).length=lz (xs.length:Int)
 |0=>Kp _ _
 |k+1=>(afx _ _ _).trans (Af xs s k)
theorem KC{xs:List Int}{s:Nat}(hl:xs.length<=1000000)(bW:eu s xs=true):GoodG s (jV xs):=by
 refine⟨fun g hg=> ?_,by rw[Vf];unfold fQ;omega⟩
 obtain⟨a,_,b⟩:=aeP hg
 exact⟨b,Er.2 fun x hx=>Er.1 bW x (a x hx)⟩
theorem afF{xs:List Int}{s:Nat}(hl:xs.length<=1000000)(bW:eu s xs=true)(h3:3<=s)(ek:s<=258):∀k,GoodT s (eW xs s k)
 |0=>fun t ht=>by
  unfold eW vx at ht
  obtain⟨p,_,rfl⟩:=List.mem_map.1 ht
  exact⟨by rw[aeT,kB],fun y hy=>by have:=aeU hy;omega⟩
 |k+1=>afw (KC hl bW) h3 ek
section
variable (lf d n:Nat) (h:H) (aw:3000000<=lf)
include aw
theorem afG(v:Value)(xs:List Int)(s:Nat)(g:Gd h n)(hR:Row h n 3 .i64 v xs)(h0:0<xs.length)(hl:xs.length<=1000000)(h3:3<=s)(ek:s<=258)(bW:eu s xs=true)(hd:600<=d):
 ah (fun _=>False) n (aq ai gt lf d 65 #[v,.int .i64 (s:Int)]) h n fun v' h' n'=>∃x y,v'= .tuple #[.agg #[x,y],.int .i64 0]∧RR h' n' 22 3 x (eW xs s 4)∧Row h' n' 3 .i64 y (kE (jV xs) (eW xs s 3)):=by
 obtain⟨d,rfl⟩:∃e,d=e+8:=⟨d-8,by omega⟩
 rw[aD (fun _=>H') rfl]
 refine ah.aB ?_
 unfold yW
 have bL:=hR
 obtain⟨a,c,rfl⟩:=hR.len
 refine qP sE _ ?_
 obtain⟨ha,oS⟩:∃ha,h.set n (some ⟨67,true,[.slice none 0 0,.slice none 0 0]⟩)=ha:=⟨_,rfl⟩
 have ka:∀b,b<n->ha.get b=h.get b:=fun b hb=>by rw[<-oS];exact aA _ _ (by omega)
 have ga:ha.get n=some ⟨67,true,[.slice none 0 0,.slice none 0 0]⟩:=by rw[<-oS,get_eq]
 rw[oS]
 refine aI aF (Kw lf (d+6) (n+1) ha aw _ xs (bL.ax (fg n) ka) hl s h3 ek) (fg n) (fun _ _ h=>h.elim) fun v1 h1 n1 bb bJ hq=> ?_
 rcases hq with ⟨_,u,rfl,hu⟩|⟨ot,_⟩
 rotate_left
 ·rw[bW]at ot;cases ot
 have k1:∀b,b<n->h1.get b=h.get b:=fun b hb=>(bJ b (by omega) id).trans (ka b hb)
 have fJ:=bL.ax (show n<=n1 by omega) k1
 have z0:(((xs.length:Nat):Int)==0)=false:=beq_eq_false_iff_ne.2 (by omega)
 have z1:((0:Int) !=0)=false:=rfl
 try simp(disch:=first|omega|assumption|exact aa _) only[ag,ae,RZ,cw,ext1,z0,z1]
 refine bV (Kx lf (d+6) n1 h1 xs.length (by omega)) (by omega) (fun _ _ h=>h.elim) ?_
 have z2:¬((32767:Int)<(fQ xs.length:Int)):=by unfold fQ;omega
 try simp(disch:=first|omega|assumption|exact aa _) only[ag,ae,RZ,z2]
 refine aI aF (afh lf (d+3) n1 h1 aw _ xs fJ hl) (by omega) (fun _ _ h=>h.elim) fun vg h2 n2 dZ dq fG=> ?_
 have k2:∀b,b<n->h2.get b=h.get b:=fun b hb=>(dq b (by omega) id).trans (k1 b hb)
 have qw:=hu.ax dZ fun b hb=>dq b hb id
 have cm:∀x∈dT xs s,0<=x∧x<=1099511627776:=fun x hx=>by have:=Kk hx;omega
 try simp(disch:=first|omega|assumption|exact aa _) only[ag,ae,RZ]
 refine aI aF (afn lf (d+5) n2 h2 aw u (dT xs s) (xs.length:Int) (g.ax (by omega) k2) qw (by rw[kB];exact ek) cm (by omega) (by omega)) (by omega) (fun _ _ h=>h.elim) fun vf nB n3 fp dA hf=> ?_
 have DU:=fG.ax fp fun b hb=>dA b hb id
 have yO:=hf
 obtain⟨af,cf,rfl⟩:=hf.len
 try simp(disch:=first|omega|assumption|exact aa _) only[ag,ae,RZ]
 refine qP sE _ ?_
 refine wN (cs:=[.slice none 0 0,.slice none 0 0]) trivial (vs:=[.slice af (vx (dT xs s) (xs.length:Int)).length cf,.slice none 0 0]) rfl rfl rfl (get_eq _ _ _) (gX n3) (ak _) (.inl (by omega)) _ fun h4 hg4 k4=> ?_
 have EJ:∀b,b<n3->h4.get b=nB.get b:=fun b hb=>by rw[k4 b (by omega),aA _ _ (by omega)]
 have Tx:=KC hl bW
 have ht:=afF hl bW h3 ek
 have Bh:=Af xs s
 have hn6:=Ko (xs.length:Int)
 have gn4:h4.get n=some ⟨67,true,[.slice none 0 0,.slice none 0 0]⟩:=by rw[EJ n (by omega),dA n (by omega) id,dq n (by omega) id,bJ n (by omega) id];exact ga
 have aiU:=DU.ax (fg n3) EJ
 have hf4:=yO.ax (fg n3) EJ
 refine iq 4 (fun fu i (_:Unit)=>uF lf (aq ai gt lf (d+7)) fu (CN lf (aq ai gt lf (d+7))) (.slice a xs.length c) (.int .i64 (s:Nat)) (.pointer (some ⟨n,0,none⟩)) (.int .i64 0) u (.int .i64 0) vg (.pointer (some ⟨n3,0,none⟩)) (.bool false) (.bool false) (.int .i64 (i:Nat)))
  (fun i _ h' n'=>n3<n'∧(∀b,b<n3->h'.get b=h4.get b)∧∃x y,h'.get n3=some ⟨67,true,[x,y]⟩∧RR h' n' 22 3 x (eW xs s i)∧one y=true∧(0<i->Row h' n' 3 .i64 y (kE (jV xs) (eW xs s (i-1))))) ?_ ?_ lf 0 () _ _ (cb _) (by omega) ⟨gX n3,fun _ _=>rfl,_,_,hg4,hf4,rfl,fun q=>absurd q (Nat.lt_irrefl 0)⟩
 ·rintro fu _ h' n' ⟨l9,kM,x,y,fM,hx,Ag,hy⟩
  have z4:¬(((4:Nat):Int)<4):=by omega
  rw[uF]
  try simp(disch:=first|omega|assumption|exact aa _) only[ag,ae,RZ,z4]
  (try unfold CN);(try dsimp only)
  refine Jx trivial trivial _ _ _ fM l9 (by simp) ?_
  have VI:h'.get n=some ⟨67,true,[.slice none 0 0,.slice none 0 0]⟩:=by rw[kM n (by omega)];exact gn4
  have kP:=hy (by omega)
  have jH:one x=true:=by obtain⟨_,_,rfl⟩:=hx.len;rfl
  refine wN trivial (vs:=[x,y]) rfl rfl (by simp[jH,Ag]) VI (by omega) (ak _) (.inl (ak _)) _ fun h5 th k5=> ?_
  refine DY trivial trivial _ _ _ th (by omega) (by simp) ?_
  have e5:∀b,(∀B,h'.get b=some B->B.elem≠67)->h5.get b=h'.get b:=fun b hb=>k5 b fun e=>by subst e;exact hb _ VI rfl
  try simp(disch:=first|omega|assumption|exact aa _) only[ag,ae,RZ]
  refine⟨x,y,rfl, ?_,kP.fC (ak _) fun b hb=>e5 b fun B hB e=>by
   obtain⟨B',q1,q2⟩:=kP.elem hb
   rw[hB]at q1;cases q1
   exact absurd (show(3:Nat)=67 from q2.symm.trans e) (by decide)⟩
  obtain⟨cs,r1,r2,r3⟩:=hx
  have vel:∀b,ar x b->∃B,h'.get b=some B∧B.elem=22:=fun b hb=>by
   rcases r1 with ⟨a,c,rfl,cd,_⟩|⟨b',off,cap,o,ks,rfl,hg,_⟩
   ·obtain⟨o,l,k,q⟩:=hb
    cases q
    exact absurd rfl (cd b o)
   ·rw[hb.inj];exact⟨_,hg,rfl⟩
  refine⟨cs,r1.ax (ak _) fun b hb=>e5 b fun B hB e=> ?_,r2,fun i hi=>(r3 i hi).fC (ak _) fun b hb=>e5 b fun B hB e=> ?_⟩
  ·obtain⟨B',q1,q2⟩:=vel b hb
   rw[hB]at q1;cases q1
   exact absurd (show(22:Nat)=67 from q2.symm.trans e) (by decide)
  ·obtain⟨B',q1,q2⟩:=(r3 i hi).elem hb
   rw[hB]at q1;cases q1
   exact absurd (show(3:Nat)=67 from q2.symm.trans e) (by decide)
 ·rintro fu i _ h' n' hi ⟨l9,kM,x,y,fM,hx,Ag,hy⟩ next
  have e1:((i:Nat):Int)<4:=by omega
  have jH:one x=true:=by obtain⟨_,_,rfl⟩:=hx.len;rfl
  rw[uF]
  try simp(disch:=first|omega|assumption|exact aa _) only[ag,ae,RZ,e1,fM]
  refine aI aF (afy lf (d+7) n' h' aw vg x (jV xs) (eW xs s i) s (DU.ax (by omega) fun b hb=>by rw[kM b hb];exact EJ b hb) hx Tx (ht i) (by rw[Bh];omega) (by rw[Bh];omega) h3 ek (by omega)) (by omega) (fun _ _ h=>h.elim) fun v5 h5 n5 zH vA Ah=> ?_
  obtain⟨px,ty,rfl,VJ,VK⟩:=Ah
  have th:=(vA n3 l9 id).trans fM
  have VL:=VJ
  have afH:=VK
  obtain⟨a6,c6,rfl⟩:=VJ.len
  obtain⟨a7,c7,rfl⟩:=VK.len
  try simp(disch:=first|omega|assumption|exact aa _) only[ag,ae,RZ,cw,ext1]
  refine wN trivial (vs:=[.slice a7 (rh (jV xs) (eW xs s i) s).length c7,.slice a6 (kE (jV xs) (eW xs s i)).length c6]) rfl rfl rfl th (by omega) (ak _) (.inl (by omega)) _ fun h6 hg6 k6=> ?_
  have e6:∀b,(∀B,h5.get b=some B->B.elem≠67)->h6.get b=h5.get b:=fun b hb=>k6 b fun e=>by subst e;exact hb _ th rfl
  try simp(disch:=first|omega|assumption|exact aa _) only[ag,ae,RZ]
  refine next () h6 n5 ⟨by omega,fun b hb=>by rw[k6 b (by omega),vA b (by omega) id];exact kM b hb,_,_,hg6, ?_,rfl,fun _=> ?_⟩
  ·obtain⟨cs,r1,r2,r3⟩:=afH
   refine⟨cs,r1.ax (ak _) fun b hb=>e6 b fun B hB e=> ?_,r2,fun i hi=>(r3 i hi).fC (ak _) fun b hb=>e6 b fun B hB e=> ?_⟩
   ·rcases r1 with ⟨a,c,q,cd,_⟩|⟨b',off,cap,o,ks,q,hg,_⟩
    ·obtain⟨o,l,k,q2⟩:=hb
     rw[q2]at q
     cases q
     exact absurd rfl (cd b o)
    ·rw[q]at hb
     rw[hb.inj,hg]at hB
     cases hB
     exact absurd (show(22:Nat)=67 from e) (by decide)
   ·obtain⟨B',q1,q2⟩:=(r3 i hi).elem hb
    rw[hB]at q1;cases q1
    exact absurd (show(3:Nat)=67 from q2.symm.trans e) (by decide)
  ·exact VL.fC (ak _) fun b hb=>e6 b fun B hB e=>by
    obtain⟨B',q1,q2⟩:=VL.elem hb
    rw[hB]at q1;cases q1
    exact absurd (show(3:Nat)=67 from q2.symm.trans e) (by decide)
theorem afI(v:Value)(xs:List Int)(z:Int)(hR:Row h n 3 .i64 v xs)(hl:xs.length<=1000000)(qv:z<3∨258<z∨xs=[]∨eu z xs=false)(hd:600<=d):
 ah (fun _=>False) n (aq ai gt lf d 65 #[v,.int .i64 z]) h n fun v' h' n'=>v'= .tuple #[.agg #[.slice none 0 0,.slice none 0 0],.int .i64 1]:=by
 obtain⟨d,rfl⟩:∃e,d=e+8:=⟨d-8,by omega⟩
 rw[aD (fun _=>H') rfl]
 refine ah.aB ?_
 unfold yW
 have bL:=hR
 obtain⟨a,c,rfl⟩:=hR.len
 refine qP sE _ ?_
 obtain⟨ha,oS⟩:∃ha,h.set n (some ⟨67,true,[.slice none 0 0,.slice none 0 0]⟩)=ha:=⟨_,rfl⟩
 have ka:∀b,b<n->ha.get b=h.get b:=fun b hb=>by rw[<-oS];exact aA _ _ (by omega)
 have ga:ha.get n=some ⟨67,true,[.slice none 0 0,.slice none 0 0]⟩:=by rw[<-oS,get_eq]
 rw[oS]
 have fin:∀(h1:H) (n1:Nat) (k:Value->M Value),n<n1->h1.get n=some ⟨67,true,[.slice none 0 0,.slice none 0 0]⟩->(∀q,k q=aj [q,.int .i64 1])->ah (fun _=>False) n (iH 2 (.pointer (some ⟨n,0,none⟩)) (.agg #[.slice none 0 0,.slice none 0 0]) fun _=>jb 2 (.pointer (some ⟨n,0,none⟩)) k) h1 n1 fun v' h' n'=>v'= .tuple #[.agg #[.slice none 0 0,.slice none 0 0],.int .i64 1]:=by
  intro h1 n1 k hn hg hk
  refine wN trivial (vs:=[.slice none 0 0,.slice none 0 0]) rfl rfl rfl hg hn (ak _) (.inl (ak _)) _ fun h5 th k5=> ?_
  refine DY trivial trivial _ _ _ th (by omega) (by simp) ?_
  rw[hk,wH]
  rfl
 have z1:((1:Int) !=0)=true:=rfl
 have z2:((0:Int) !=0)=false:=rfl
 by_cases c1:z<3∨258<z
 ·refine bV (ae0 lf (d+6) (n+1) ha _ z c1) (fg n) (fun _ _ h=>h.elim) ?_
  try simp(disch:=first|omega|assumption|exact aa _) only[ag,ae,RZ,cw,ext1,z1]
  exact fin _ _ _ (gX n) ga fun _=>rfl
 ·obtain⟨s,rfl⟩:∃s:Nat,z=(s:Int):=⟨z.toNat,by omega⟩
  refine aI aF (Kw lf (d+6) (n+1) ha aw _ xs (bL.ax (fg n) ka) hl s (by omega) (by omega)) (fg n) (fun _ _ h=>h.elim) fun v1 h1 n1 bb bJ hq=> ?_
  have VM:=(bJ n (gX n) id).trans ga
  rcases hq with ⟨bW,u,rfl,hu⟩|⟨ot,rfl⟩
  ·have hx:xs=[]:=by
    rcases qv with q|q|q|q
    ·omega
    ·omega
    ·exact q
    ·rw[bW]at q;cases q
   subst hx
   have z0:((([]:List Int).length:Int)==0)=true:=rfl
   try simp(disch:=first|omega|assumption|exact aa _) only[ag,ae,RZ,cw,ext1,z2,z0]
   exact fin _ _ _ (by omega) VM fun _=>rfl
  ·try simp(disch:=first|omega|assumption|exact aa _) only[ag,ae,RZ,cw,ext1,z1]
   exact fin _ _ _ (by omega) VM fun _=>rfl
end
section
variable (lf d n:Nat) (h:H) (aw:3000000<=lf)
include aw
end
section
variable (lf d n:Nat) (h:H) (aw:3000000<=lf)
include aw
end
section
variable (lf d n:Nat) (h:H)
end
theorem afJ{f:FuncId}{ts:List TypeId}{vs:List Value}{w:World}{lf d:Nat}(hw:Ev.qA w)(ha:ef (qR ai w) ts vs)(r:∀n h fj,Gd h n->ef (nA ai h n) ts fj->ah (fun _=>False) n (aq ai gt lf d f fj.toArray) h n fun v _ _=>v= .bool true):
 Calls ai f vs.toArray w fun e w'=>e= .returned (.bool true)∧Below w.heap.size w w':=by
 obtain⟨m,x⟩:=Vu hw
 exact Ev.aa_ Vr ae9 Vs known aF ha x fun n h fj hn hg q=>r n h fj (Gd.of hn (by rw[hg _ (by decide+kernel)];exact get_eq _ _ _)) q
theorem afK:jx ai 8 22=some [22]:=by kernel_rfl
theorem VN:jx ai 8 3=some [3]:=by kernel_rfl
theorem afL:oG ai 22=false:=by kernel_rfl
theorem afM:oG ai 3=false:=by kernel_rfl
set_option maxRecDepth 20000 in
theorem afN{h:H}{n:Nat}{v:Value}(x:nA ai h n 22 v):∃xs,Row h n 3 .i64 v xs∧xs.length<=9223372036854775807∧∀y∈xs,-9223372036854775808<=y∧y<=9223372036854775807:=by
 obtain⟨xs,h1,h2,h3⟩:=ac2 (f:=6) Tryz.underlying22 VN ail (Jw afK afL x)
 exact⟨xs,h1,h2,fun y hy=>TG (h3 y hy)⟩
set_option maxRecDepth 20000 in
theorem afO{h:H}{n:Nat}{v:Value}(x:nA ai h n 3 v):∃i,v= .int .i64 i∧-9223372036854775808<=i∧i<=9223372036854775807:=by
 obtain⟨i,h1,h2⟩:=TF (f:=7) ail (Jw VN afM x)
 exact⟨i,h1,TG h2⟩
section
variable (lf d n:Nat) (h:H)
variable (aw:3000000<=lf) (hd:700<=d)
include aw hd
end
end Go.Proofs.YtdagfcflbphoiaaGreatDoor
namespace Go.Proofs.YtdagfcflbphoiaaGreatDoor
open Go.RowKit Ev
def vB(sv:Value)(rs:List Bool)(t:Nat):AB:=⟨63,true,[sv,.int .u8 (oL rs:Int),.int .i64 (t:Int)]⟩
structure ew (h:H) (lo n w:Nat) (sv:Value) (s:List Nat×List Bool) (t:Nat):Prop where
 get:h.get w=some (vB sv s.2 t)
 lt:w<n
 ge:lo<=w
 own:Own h lo n 5 sv (l5 s.1)
 ne:∀b,ar sv b->b≠w
 len:s.2.length=t %8
theorem ew.ax{h h':H}{lo n n' w:Nat}{sv:Value}{s:List Nat×List Bool}{t:Nat}(x:ew h lo n w sv s t)(hn:n<=n')(hk:∀b,b<n->(b=w∨ar sv b)->h'.get b=h.get b):ew h' lo n' w sv s t:=
 ⟨(hk w x.lt (.inl rfl)).trans x.get,mL x.lt hn,x.ge,x.own.ax hn fun b hb=>hk b (x.own.lt hb).2 (.inr hb),x.ne,x.len⟩
section
variable {lf d lo n w t:Nat} {h:H} {sv:Value} {s:List Nat×List Bool}
set_option maxRecDepth 4000 in
theorem VO(x:ew h lo n w sv s t)(ht:t<4611686018427387904)(hs:s.1.length+1<=1099511627776)(b:Bool):ah (fun c=>c=w∨ar sv c) n (aq ai gt lf (d+1) 35 #[.pointer (some ⟨w,0,none⟩),.int .u8 (bn b:Int)]) h n fun v h' n'=>v= .tuple #[]∧∃cY,ew h' lo n' w cY (ku s b) (t+1)∧∀c,ar cY c->ar sv c∨n<=c:=by
 obtain⟨gw,hw,tN,ow,cd,hl⟩:=x
 obtain⟨ws,rs⟩:=s
 simp only at gw ow hl hs
 have gw0:=gw
 unfold vB at gw
 rw[aD (fun _=>PK) rfl]
 refine ah.aB ?_
 unfold HP
 have e1:((t:Int)).tmod 8=((rs.length:Nat):Int):=by rw[hl];rfl
 have h8:rs.length<8:=by omega
 have e2:IntKind.i64.wrap (7-(rs.length:Int))=((7-rs.length:Nat):Int):=by rw[aV (by omega) (by omega)];omega
 have e3:=ac9 (qY b) (show 7-rs.length<=7 by omega)
 rw[o0]at e3
 have e4:=or8 (ac7 (r:=rs) (by omega)) (show bn b*2^(7-rs.length)<256 by
  have h1:=qY b
  have h2:2^(7-rs.length)<=2^7:=rC (by decide) (by omega)
  have:bn b*2^(7-rs.length)<=1*2^7:=Nat.mul_le_mul (by omega) h2
  omega)
 rw[ac8 h8 b]at e4
 have e5:(0:Int)<=((7-rs.length:Nat):Int):=by omega
 by_cases h7:rs.length=7
 ·have e6:(((rs.length:Nat):Int)==7)=true:=by rw[h7];rfl
  try simp(disch:=first|omega|assumption|exact aa _) only[ag,ae,RZ,bk,bm,bp,bq,bt,bu,bx,bz,bA,bB,gw,e1,e2,e3,e4,e5,e6]
  have o1:Own ((h.set w (some ⟨63,true,[sv,.int .u8 (oL (rs++[b]):Int),.int .i64 (t:Int)]⟩)).set w (some ⟨63,true,[sv,.int .u8 (oL (rs++[b]):Int),.int .i64 ((t:Int)+1)]⟩)) lo n 5 sv (l5 ws):=ow.ax (ak _) fun c hc=>by rw[aA _ _ (cd c hc),aA _ _ (cd c hc)]
  refine xq trivial (oF _ _) o1 (by rw[xp];exact hs) (fun c hc=> .inr (.inr hc)) _ fun h' hg hk=> ?_
  have g1:h'.get w=some ⟨63,true,[sv,.int .u8 (oL (rs++[b]):Int),.int .i64 ((t:Int)+1)]⟩:=by rw[hk w hw (fun q=>cd w q rfl),get_eq]
  have bb:w≠n+1:=by omega
  try simp(disch:=first|omega|assumption|exact aa _) only[ag,ae,RZ,bk,bm,bp,bq,bt,bu,bx,bz,bA,bB,g1,true_or,or_true]
  have hp:ku (ws,rs) b=(ws++[num (rs++[b]) 0],[]):=by unfold ku;rw[if_pos h7]
  have hr:oL (rs++[b])=num (rs++[b]) 0:=by unfold oL;simp[h7]
  refine⟨_,⟨by rw[get_eq];unfold vB;rw[hp];rfl,by omega,tN, ?_,fun c hc=>by rw[hc.inj];omega, ?_⟩,fun c hc=> .inr (by rw[hc.inj];omega)⟩
  ·rw[hp]
   rw[xp]
   refine .inr ⟨n+1,by simp[xp], ?_,by omega,by omega⟩
   rw[aA _ _ (by omega),aA _ _ (by omega),hg,hr,acV]
   rfl
  ·rw[hp]
   simp;omega
 ·have e6:(((rs.length:Nat):Int)==7)=false:=by simpa using fun e:((rs.length:Nat):Int)=7=>h7 (by omega)
  try simp(disch:=first|omega|assumption|exact aa _) only[ag,ae,RZ,bk,bm,bp,bq,bt,bu,bx,bz,bA,bB,gw,e1,e2,e3,e4,e5,e6]
  have hp:ku (ws,rs) b=(ws,rs++[b]):=by unfold ku;rw[if_neg h7]
  refine⟨sv,⟨by rw[get_eq,hp];rfl,hw,tN, ?_,cd,by rw[hp];simp;omega⟩,fun c hc=> .inl hc⟩
  rw[hp]
  exact ow.ax (ak _) fun c hc=>by rw[aA _ _ (cd c hc),aA _ _ (cd c hc)]
end
theorem afP(v n i:Nat)(h:i<n):cL (v/2^(n-i)) i++[decide (v/2^(n-1-i)%2=1)]=cL (v/2^(n-(i+1))) (i+1):=by
 show _=cL (v/2^(n-(i+1))/2) i++_
 rw[Nat.div_div_eq_div_mul,<-Nat.pow_succ,show(n-(i+1)).succ=n-i by omega,show n-(i+1)=n-1-i by omega]
section
variable {lf d lo n w t:Nat} {h:H} {sv:Value} {s:List Nat×List Bool}
theorem afQ{v k:Nat}(hk:k<=32)(hv:v<2^k):ah (fun _=>False) n (aq ai gt lf (d+1) 34 #[.int .u32 (v:Int),.int .i64 (k:Int)]) h n fun v' h' n'=>v'= .bool true∧h'=h∧n'=n:=by
 rw[aD (fun _=>PJ) rfl]
 refine ah.aB ?_
 unfold HO
 have e1:(0:Int)<=(k:Int):=by omega
 have e2:(k:Int)<=32:=by omega
 have VP:v<4294967296:=mL hv (rC (by decide) hk)
 have e3:IntKind.u64.wrap (v:Int)=(v:Int):=IntWalk.u64_in _ (by omega)
 have e4:=fdiv_pow v k (IntKind.u64).bits (by simp[E5];omega)
 rw[o0,Nat.div_eq_of_lt hv]at e4
 try simp(disch:=first|omega|assumption|exact aa _) only[ag,ae,RZ,bk,bm,bp,bq,bt,bu,bx,bz,bA,bB,e1,e2,e3,e4]
 rfl
theorem afR{v k:Nat}(hk:k<=32)(hv:v<2^k){x6 x8 x11:Value}(bf:t+32<4611686018427387904)(hs:s.1.length+33<=1099511627776){nn:Nat}(hs8:s.2.length<8):∀(m i fu n:Nat) (h:H) (si:Value),i+m=k->m<fu->nn<=n->w<nn->ew h lo n w si (gH s (cL (v/2^(k-i)) i)) (t+i)->(∀c,c<nn->ar si c->ar sv c)->
 ah (fun c=>c=w∨ar sv c) nn (ur lf (aq ai gt lf (d+1)) fu (Cy lf (aq ai gt lf (d+1))) (.pointer (some ⟨w,0,none⟩)) (.int .u32 (v:Int)) (.int .i64 (k:Int)) x6 x8 x11 (.int .i64 (k:Int)) (.int .i64 (i:Int))) h n fun v' h' n'=>v'= .int .i64 0∧∃cY,ew h' lo n' w cY (gH s (cL v k)) (t+k)∧∀c,c<nn->ar cY c->ar sv c:=by
 intro m
 induction m with
 |zero=>
  intro i fu n h si hi hf hn hw x hc
  obtain⟨fu,rfl⟩:∃f,fu=f+1:=⟨fu-1,by omega⟩
  obtain rfl:i=k:=by omega
  rw[ur]
  have e0:¬((i:Int)<(i:Int)):=by omega
  try simp(disch:=first|omega|assumption|exact aa _) only[ag,ae,RZ,bk,bm,bp,bq,bt,bu,bx,bz,bA,bB,e0]
  (try unfold Cy);(try dsimp only)
  try simp(disch:=first|omega|assumption|exact aa _) only[ag,ae,RZ,bk,bm,bp,bq,bt,bu,bx,bz,bA,bB]
  rw[nT,Nat.pow_zero,Nat.div_one]at x
  exact⟨si,x,hc⟩
 |succ m ih=>
  intro i fu n h si hi hf hn hw x hc
  obtain⟨fu,rfl⟩:∃f,fu=f+1:=⟨fu-1,by omega⟩
  rw[ur]
  have e0:(i:Int)<(k:Int):=by omega
  have e1:IntKind.i64.wrap ((k:Int)-1-(i:Int))=((k-1-i:Nat):Int):=by rw[aV (by omega) (by omega)];omega
  have e2:IntKind.i64.wrap ((k:Int)-1)=(k:Int)-1:=aV (by omega) (by omega)
  have e3:(0:Int)<=((k-1-i:Nat):Int):=by omega
  have e4:=fdiv_pow v (k-1-i) (AO).bits (by simp[E5];omega)
  rw[o0]at e4
  have VP:v<4294967296:=mL hv (rC (by decide) hk)
  have e5:=ac' (Nat.lt_of_le_of_lt (Nat.div_le_self v (2^(k-1-i))) VP)
  have e6:IntKind.u8.wrap ((v/2^(k-1-i)%2:Nat):Int)=(bn (decide (v/2^(k-1-i)%2=1)):Int):=by rw[JB];exact w8 (by omega)
  try simp(disch:=first|omega|assumption|exact aa _) only[ag,ae,RZ,bk,bm,bp,bq,bt,bu,bx,bz,bA,bB,e0,e1,e2,e3,e4,e5,e6]
  have hl:(gH s (cL (v/2^(k-i)) i)).1.length<=s.1.length+i:=by
   have:=JD (cL (v/2^(k-i)) i) s
   rw[dP]at this
   exact this
  refine aI aF (VO x (by omega) (by omega) _) hn (fun c fh hq=> ?_) ?_
  ·rcases hq with rfl|hq
   ·exact .inr (.inl rfl)
   ·by_cases lx:c<nn
    ·exact .inr (.inr (hc c lx hq))
    ·exact .inl (by omega)
  ·rintro _ h1 n1 bb fr ⟨rfl,cY,x',kO⟩
   have e7:IntKind.i64.wrap ((i:Int)+1)=((i+1:Nat):Int):=Jc (by omega)
   try simp(disch:=first|omega|assumption|exact aa _) only[ag,ae,RZ,bk,bm,bp,bq,bt,bu,bx,bz,bA,bB,e7]
   rw[show ku (gH s (cL (v/2^(k-i)) i)) (decide (v/2^(k-1-i)%2=1))=gH s (cL (v/2^(k-(i+1))) (i+1)) by rw[<-afP v k i (by omega),zy];rfl]at x'
   refine ih (i+1) fu n1 h1 cY (by omega) (by omega) (by omega) hw x' fun c lx hq=> ?_
   rcases kO c hq with q|q
   ·exact hc c lx q
   ·omega
theorem afS(x:ew h lo n w sv s t){v k:Nat}(hk:k<=32)(hv:v<2^k)(ht:t+32<4611686018427387904)(hs:s.1.length+33<=1099511627776)(aw:33<=lf):ah (fun c=>c=w∨ar sv c) n (aq ai gt lf (d+2) 10 #[.pointer (some ⟨w,0,none⟩),.int .u32 (v:Int),.int .i64 (k:Int)]) h n fun v' h' n'=>v'= .int .i64 0∧∃cY,ew h' lo n' w cY (gH s (cL v k)) (t+k)∧∀c,c<n->ar cY c->ar sv c:=by
 rw[aD (fun _=>Ph) rfl]
 refine ah.aB ?_
 unfold Cz
 try simp(disch:=first|omega|assumption|exact aa _) only[ag,ae,RZ,bk,bm,bp,bq,bt,bu,bx,bz,bA,bB]
 refine bV (afQ hk hv) (ak _) (fun _ _ h=>h.elim) ?_
 try simp(disch:=first|omega|assumption|exact aa _) only[ag,ae,RZ,bk,bm,bp,bq,bt,bu,bx,bz,bA,bB]
 exact afR hk hv ht hs (by have:=x.len;omega) k 0 lf n h sv (by omega) (by omega) (ak _) x.lt (by rw[aim];exact x) (fun c _ q=>q)
theorem afT:ah (fun _=>False) n (aq ai gt lf (d+1) 9 #[]) h n fun v h' n'=>v= .pointer (some ⟨n,0,none⟩)∧n'=n+1∧ew h' n n' n (.slice none 0 0) ([],[]) 0:=by
 rw[aD (fun _=>Pe) rfl]
 refine ah.aB ?_
 unfold HC
 try simp(disch:=first|omega|assumption|exact aa _) only[ag,ae,RZ,bk,bm,bp,bq,bt,bu,bx,bz,bA,bB]
 refine pL trivial _ _ ?_
 try simp(disch:=first|omega|assumption|exact aa _) only[ag,ae,RZ,bk,bm,bp,bq,bt,bu,bx,bz,bA,bB]
 exact⟨get_eq _ _ _,by omega,ak _,Own.nil _ _ _ _,fun b hb=>hb.not_nil.elim,rfl⟩
theorem afU(x:ew h lo n w sv s t):ah (fun c=>c=w) n (aq ai gt lf (d+1) 17 #[.pointer (some ⟨w,0,none⟩)]) h n fun v h' n'=>v= .string ⟨(bS s.1).toArray⟩∧n'=n∧ew h' lo n w (.slice none 0 0) ([],s.2) t:=by
 obtain⟨gw,hw,tN,ow,cd,hl⟩:=x
 have gw0:=gw
 unfold vB at gw
 rw[aD (fun _=>Py) rfl]
 refine ah.aB ?_
 unfold HH
 try simp(disch:=first|omega|assumption|exact aa _) only[ag,ae,RZ,bk,bm,bp,bq,bt,bu,bx,bz,bA,bB,gw]
 refine acX ow _ ?_
 try simp(disch:=first|omega|assumption|exact aa _) only[ag,ae,RZ,bk,bm,bp,bq,bt,bu,bx,bz,bA,bB,gw]
 exact⟨get_eq _ _ _,hw,tN,Own.nil _ _ _ _,fun b hb=>hb.not_nil.elim,hl⟩
end
def dU(h:H)(lo n w:Nat)(sv:Value)(l:List Bool):Prop:=ew h lo n w sv (gH ([],[]) l) l.length
def rj(t:Nat):Nat:=(8-t %8)%8
def oT(l:List Bool):List Bool:=l++cq (rj l.length) false
def oU(l:List Bool):List Nat:=(gH ([],[]) l).1
theorem dU.ax{h h':H}{lo n n' w:Nat}{sv:Value}{l:List Bool}(x:dU h lo n w sv l)(hn:n<=n')(hk:∀b,b<n->(b=w∨ar sv b)->h'.get b=h.get b):dU h' lo n' w sv l:=ew.ax x hn hk
theorem VQ(l:List Bool):(gH ([],[]) l).1.length<=l.length:=by
 have:=JD l ([],[])
 simpa using this
section
variable {lf d lo n w:Nat} {h:H} {sv:Value} {l:List Bool}
theorem Ai(x:dU h lo n w sv l){v k:Nat}(hk:k<=32)(hv:v<2^k)(hl:l.length<=1000000000)(aw:33<=lf):ah (fun c=>c=w∨ar sv c) n (aq ai gt lf (d+2) 10 #[.pointer (some ⟨w,0,none⟩),.int .u32 (v:Int),.int .i64 (k:Int)]) h n fun v' h' n'=>v'= .int .i64 0∧∃cY,dU h' lo n' w cY (l++cL v k)∧∀c,c<n->ar cY c->ar sv c:=by
 have hw:=VQ l
 refine(afS (lf:=lf) (d:=d) x hk hv (by omega) (by omega) aw).mono ?_
 rintro v' h' n' _ ⟨rfl,cY,x',hc⟩
 refine⟨rfl,cY, ?_,hc⟩
 unfold dU
 rw[zy,aM,dP]
 exact x'
theorem afV{nn:Nat}:∀(m fu n:Nat) (h:H) (si:Value) (l:List Bool),(l.length+m)%8=0->m<8->m<fu->l.length<=1000000000->nn<=n->w<nn->dU h lo n w si l->(∀c,c<nn->ar si c->ar sv c)->
 ah (fun c=>c=w∨ar sv c) nn (uy lf (aq ai gt lf (d+1)) fu (CE lf (aq ai gt lf (d+1))) (.pointer (some ⟨w,0,none⟩))) h n fun v' h' n'=>v'= .tuple #[]∧∃cY,dU h' lo n' w cY (l++cq m false)∧∀c,c<nn->ar cY c->ar sv c:=by
 intro m
 induction m with
 |zero=>
  intro fu n h si l h8 hm hf hl hn hw x hc
  obtain⟨fu,rfl⟩:∃f,fu=f+1:=⟨fu-1,by omega⟩
  have gw:=ew.get x
  unfold vB at gw
  have lt:=ew.lt x
  have e1:((l.length:Nat):Int).tmod 8=((l.length %8:Nat):Int):=rfl
  have e2:((((l.length %8:Nat):Int)) !=0)=false:=by rw[show l.length %8=0 by omega];rfl
  rw[uy]
  try simp(disch:=first|omega|assumption|exact aa _) only[ag,ae,RZ,gw,e1,e2]
  (try unfold CE);(try dsimp only)
  try simp(disch:=first|omega|assumption|exact aa _) only[ag,ae,RZ]
  refine⟨si, ?_,hc⟩
  simpa using x
 |succ m ih=>
  intro fu n h si l h8 hm hf hl hn hw x hc
  obtain⟨fu,rfl⟩:∃f,fu=f+1:=⟨fu-1,by omega⟩
  have gw:=ew.get x
  unfold vB at gw
  have lt:=ew.lt x
  have e1:((l.length:Nat):Int).tmod 8=((l.length %8:Nat):Int):=rfl
  have e2:((((l.length %8:Nat):Int)) !=0)=true:=by rw[bne_iff_ne];omega
  rw[uy]
  try simp(disch:=first|omega|assumption|exact aa _) only[ag,ae,RZ,gw,e1,e2]
  have wl:=VQ l
  have sb:=VO (lf:=lf) (d:=d) x (by omega) (by omega) false
  rw[show((bn false:Nat):Int)=0 from rfl]at sb
  refine aI aF sb hn (fun c fh hq=> ?_) ?_
  ·rcases hq with rfl|hq
   ·exact .inr (.inl rfl)
   ·by_cases lx:c<nn
    ·exact .inr (.inr (hc c lx hq))
    ·exact .inl (by omega)
  ·rintro _ h1 n1 bb fr ⟨rfl,cY,x',kO⟩
   have x2:dU h1 lo n1 w cY (l++[false]):=by
    unfold dU
    rw[zy,aM]
    exact x'
   try simp(disch:=first|omega|assumption|exact aa _) only[ag,ae,RZ]
   refine(ih fu n1 h1 cY (l++[false]) (by simp;omega) (by omega) (by omega) (by simp;omega) (by omega) hw x2 fun c lx hq=> ?_).mono ?_
   ·rcases kO c hq with q|q
    ·exact hc c lx q
    ·omega
   ·rintro v' h' n' _ ⟨rfl,sv2,x3,oV⟩
    refine⟨rfl,sv2, ?_,oV⟩
    rw[cE]at x3
    exact x3
theorem afW(x:dU h lo n w sv l)(hl:l.length<=100000000)(aw:33<=lf):ah (fun c=>c=w∨ar sv c) n (aq ai gt lf (d+2) 16 #[.pointer (some ⟨w,0,none⟩)]) h n fun v' h' n'=>v'= .tuple #[]∧∃cY,dU h' lo n' w cY (oT l)∧∀c,c<n->ar cY c->ar sv c:=by
 rw[aD (fun _=>Px) rfl]
 refine ah.aB ?_
 unfold CF
 exact afV (rj l.length) lf n h sv l (by unfold rj;omega) (by unfold rj;omega) (by unfold rj;omega) (by omega) (ak _) (ew.lt x) x fun c _ q=>q
theorem afX(x:dU h lo n w sv l):ah (fun _=>False) n (aq ai gt lf (d+1) 14 #[.pointer (some ⟨w,0,none⟩)]) h n fun v' h' n'=>v'= .int .i64 (l.length:Int)∧h'=h∧n'=n:=by
 have gw:=ew.get x
 unfold vB at gw
 have lt:=ew.lt x
 rw[aD (fun _=>Pu) rfl]
 refine ah.aB ?_
 unfold HG
 try simp(disch:=first|omega|assumption|exact aa _) only[ag,ae,RZ,gw]
 all_goals (first|rfl|exact⟨rfl,rfl,rfl⟩|exact⟨rfl,rfl⟩)
theorem afY:ah (fun _=>False) n (aq ai gt lf (d+1) 9 #[]) h n fun v h' n'=>v= .pointer (some ⟨n,0,none⟩)∧n'=n+1∧dU h' n n' n (.slice none 0 0) []:=afT
theorem afZ(x:dU h lo n w sv l):ah (fun c=>c=w) n (aq ai gt lf (d+1) 17 #[.pointer (some ⟨w,0,none⟩)]) h n fun v h' n'=>v= .string ⟨(bS (oU l)).toArray⟩∧n'=n:=(afU (lf:=lf) (d:=d) x).mono fun _ _ _ _ q=>⟨q.1,q.2.1⟩
end
end Go.Proofs.YtdagfcflbphoiaaGreatDoor
namespace Go.Proofs.YtdagfcflbphoiaaGreatDoor
open Go.RowKit Ev Cn
def mJ(k:Nat):List Bool:=(cq k [true,false]).flatten
def mK(k:Nat):List Bool:=(cq k [true,true]).flatten
def iw:Nat->List Nat->List Bool
 |_,[]=>[]
 |now,n::l=>mJ (n-now)++(mK (now-n)++(false::iw n l))
def eZ(ln:List Nat):List Bool:=cL (ln.getD 0 0) 5++iw (ln.getD 0 0) ln
theorem VS(k:Nat):mJ (k+1)=[true,false]++mJ k:=by unfold mJ;rw[Xj,ain]
theorem VT(k:Nat):mK (k+1)=[true,true]++mK k:=by unfold mK;rw[Xj,ain]
theorem Aj(k:Nat):(mJ k).length=2*k:=by unfold mJ;simp;omega
theorem EK(k:Nat):(mK k).length=2*k:=by unfold mK;simp;omega
theorem KD:∀(ln:List Nat) (now:Nat),now<=20->(∀x∈ln,x<=20)->(iw now ln).length<=41*ln.length
 |[],_,_,_=>by simp[iw]
 |n::l,now,h,hl=>by
  have:=KD l n (hl n (by simp)) fun x hx=>hl x (by simp[hx])
  have:=hl n (by simp)
  unfold iw
  simp only[aM,cu,Aj,EK]
  omega
def KE(r:FuncId->Array Value->M Value)(fv:Value)(W:Nat->Prop)(n0:Nat)(St:List Bool->H->Nat->Prop):Prop:=
 ∀(Q:Value->H->Nat->Prop) (l:List Bool) (h:H) (n v k:Nat) (K:Value->M Value),St l h n->l.length<=10000000->v<2^k->k<=15->(∀h' n',St (l++cL v k) h' n'->ah W n0 (K (.tuple #[])) h' n' Q)->ah W n0 (eM ai r fv [.int .i64 (v:Int),.int .i64 (k:Int)] K) h n Q
section
variable {lf:Nat} {r:FuncId->Array Value->M Value} {fv:Value} {W:Nat->Prop} {n0:Nat} {St:List Bool->H->Nat->Prop} (sk:KE r fv W n0 St) {Q:Value->H->Nat->Prop}
include sk
theorem af0(a e f g x:Value)(N:Nat)(hN:N<=20)(K:Value->Value->Value->Value->Value->Value->Value->Value->Value->M Value):∀(m now fu:Nat) (l:List Bool) (h:H) (n:Nat),N-now<=m->m<fu->now<=20->St l h n->l.length+2*m<=10000000->
 (∀h' n',St (l++mJ (N-now)) h' n'->ah W n0 (K a fv (.int .i64 ((max now N:Nat):Int)) (.int .i64 (N:Int)) e f g x (.bool false)) h' n' Q)->ah W n0 (uH lf r fu K a fv (.int .i64 (now:Int)) (.int .i64 (N:Int)) e f g x) h n Q:=by
 intro m
 induction m with
 |zero=>
  intro now fu l h n hm hf hn st hl hK
  obtain⟨fu,rfl⟩:∃f,fu=f+1:=⟨fu-1,by omega⟩
  rw[uH]
  have c:¬((now:Int)<(N:Int)):=by omega
  have:=hK h n (by rw[show N-now=0 by omega];simpa[mJ]using st)
  rw[aio (by omega)]at this
  try simp(disch:=first|omega|assumption|exact aa _) only[ag,ae,RZ,c]
  exact this
 |succ m ih=>
  intro now fu l h n hm hf hn st hl hK
  obtain⟨fu,rfl⟩:∃f,fu=f+1:=⟨fu-1,by omega⟩
  rw[uH]
  by_cases c:now<N
  ·have c':(now:Int)<(N:Int):=by omega
   have w1:((now:Int)+1)=((now+1:Nat):Int):=rfl
   try simp(disch:=first|omega|assumption|exact aa _) only[ag,ae,RZ,c']
   refine sk Q l h n 2 2 _ st (by omega) (by decide) (by omega) fun h1 n1 vC=> ?_
   try simp(disch:=first|omega|assumption|exact aa _) only[ag,ae,RZ]
   rw[w1]
   refine ih (now+1) fu _ h1 n1 (by omega) (by omega) (by omega) vC (by rw[aM,dP];omega) fun h' n' oW=> ?_
   rw[cE,show cL 2 2=[true,false]from rfl,<-VS,show N-(now+1)+1=N-now by omega]at oW
   have:=hK h' n' oW
   rwa[show max (now+1) N=max now N by omega]
  ·have c':¬((now:Int)<(N:Int)):=by omega
   have:=hK h n (by rw[show N-now=0 by omega];simpa[mJ]using st)
   rw[aio (by omega)]at this
   try simp(disch:=first|omega|assumption|exact aa _) only[ag,ae,RZ,c']
   exact this
theorem af1(a e f g x y:Value)(N:Nat)(K:Value->Value->Value->Value->Value->Value->M Value):∀(m now fu:Nat) (l:List Bool) (h:H) (n:Nat),now-N<=m->m<fu->now<=20->St l h n->l.length+2*m<=10000000->
 (∀h' n',St (l++mK (now-N)) h' n'->ah W n0 (K a fv (.int .i64 ((min now N:Nat):Int)) e f g) h' n' Q)->ah W n0 (uI lf r fu K a fv (.int .i64 (now:Int)) (.int .i64 (N:Int)) e f g x y) h n Q:=by
 intro m
 induction m with
 |zero=>
  intro now fu l h n hm hf hn st hl hK
  obtain⟨fu,rfl⟩:∃f,fu=f+1:=⟨fu-1,by omega⟩
  rw[uI]
  have c:¬((N:Int)<(now:Int)):=by omega
  have:=hK h n (by rw[show now-N=0 by omega];simpa[mK]using st)
  rw[nR (by omega)]at this
  try simp(disch:=first|omega|assumption|exact aa _) only[ag,ae,RZ,c]
  exact this
 |succ m ih=>
  intro now fu l h n hm hf hn st hl hK
  obtain⟨fu,rfl⟩:∃f,fu=f+1:=⟨fu-1,by omega⟩
  rw[uI]
  by_cases c:N<now
  ·have c':(N:Int)<(now:Int):=by omega
   have w1:((now:Int)-1)=((now-1:Nat):Int):=by omega
   try simp(disch:=first|omega|assumption|exact aa _) only[ag,ae,RZ,c']
   refine sk Q l h n 3 2 _ st (by omega) (by decide) (by omega) fun h1 n1 vC=> ?_
   try simp(disch:=first|omega|assumption|exact aa _) only[ag,ae,RZ]
   rw[w1]
   refine ih (now-1) fu _ h1 n1 (by omega) (by omega) (by omega) vC (by rw[aM,dP];omega) fun h' n' oW=> ?_
   rw[cE,show cL 3 2=[true,true]from rfl,<-VT,show now-1-N+1=now-N by omega]at oW
   have:=hK h' n' oW
   rwa[show min (now-1) N=min now N by omega]
  ·have c':¬((N:Int)<(now:Int)):=by omega
   have:=hK h n (by rw[show now-N=0 by omega];simpa[mK]using st)
   rw[nR (by omega)]at this
   try simp(disch:=first|omega|assumption|exact aa _) only[ag,ae,RZ,c']
   exact this
theorem af2{b off cap:Nat}{ln:List Nat}(gf:∀l h n,St l h n->Row h n 3 .i64 (.slice (some ⟨b,off,none⟩) ln.length cap) (iN ln))(pR:∀x∈ln,x<=20)(kY:ln.length<=1000)(aw:3000<=lf):∀(m i now fu:Nat) (l:List Bool) (h:H) (n:Nat),ln.length-i=m->m<fu->i<=ln.length->now<=20->St l h n->l.length+41*m<=9000000->
 (∀h' n',St (l++iw now (ln.drop i)) h' n'->Q (.tuple #[]) h' n')->ah W n0 (uJ lf r fu (CR lf r) (.slice (some ⟨b,off,none⟩) ln.length cap) fv (.int .i64 (now:Int)) (.slice (some ⟨b,off,none⟩) ln.length cap) (.int .i64 (ln.length:Int)) (.int .i64 (i:Int))) h n Q:=by
 intro m
 induction m with
 |zero=>
  intro i now fu l h n hm hf hi hn st hl hQ
  obtain⟨fu,rfl⟩:∃f,fu=f+1:=⟨fu-1,by omega⟩
  obtain rfl:i=ln.length:=by omega
  rw[uJ]
  try simp(disch:=first|omega|assumption|exact aa _) only[ag,ae,RZ,c9]
  rw[CR]
  try simp(disch:=first|omega|assumption|exact aa _) only[ag,ae,RZ]
  refine hQ h n ?_
  rw[xS]
  simpa[iw]using st
 |succ m ih=>
  intro i now fu l h n hm hf hi hn st hl hQ
  obtain⟨fu,rfl⟩:∃f,fu=f+1:=⟨fu-1,by omega⟩
  obtain⟨b',lO,cK,o,cs,hv,hg,hb,_,_,_,cI⟩:=(gf l h n st).some (by rw[dD];omega)
  have ct:jF (some ⟨b,off,none⟩) ln.length cap= .slice (some ⟨b',lO,none⟩) (iN ln).length cK:=hv
  rw[dD]at ct
  cases ct
  have e1:((i:Nat):Int)<((ln.length:Nat):Int):=by omega
  have c1:=cI i (by rw[dD];omega)
  rw[pU]at c1
  have hx:ln.getD i 0<=20:=pR _ (by rw[aC,aR (by omega)];exact ep _)
  have w1:((i:Nat):Int)+1=((i+1:Nat):Int):=rfl
  rw[uJ]
  try simp(disch:=first|omega|assumption|exact aa _) only[ag,ae,RZ,e1,hg,c1]
  refine af0 sk _ _ _ _ _ (ln.getD i 0) hx _ 20 now lf l h n (by omega) (by omega) hn st (by omega) fun h1 n1 vC=> ?_
  unfold CQ
  (try dsimp only)
  refine af1 sk _ _ _ _ _ _ (ln.getD i 0) _ 20 (max now (ln.getD i 0)) lf _ h1 n1 (by omega) (by omega) (by omega) vC (by rw[aM,Aj];omega) fun h2 n2 st2=> ?_
  unfold Ic
  (try dsimp only)
  refine sk Q _ h2 n2 0 1 _ st2 (by simp only[aM,Aj,EK];omega) (by decide) (by omega) fun h3 n3 st3=> ?_
  try simp(disch:=first|omega|assumption|exact aa _) only[ag,ae,RZ]
  rw[w1,show min (max now (ln.getD i 0)) (ln.getD i 0)=ln.getD i 0 by omega]
  refine ih (i+1) (ln.getD i 0) fu _ h3 n3 (by omega) (by omega) (by omega) hx st3 (by simp only[aM,Aj,EK,dP];omega) fun h' n' oW=>hQ h' n' ?_
  rw[mF 0 (show i<ln.length by omega)]
  unfold iw
  rw[show max now (ln.getD i 0)-ln.getD i 0=now-ln.getD i 0 by omega,show cL 0 1=[false]from rfl]at oW
  simpa[cE]using oW
end
theorem VU{β:Type}{rec:FuncId->Array Value->M Value}{F:FuncId}(hb:j1 ai F=true)(cs vs:List Value)(k:Value->M β):eM ai rec (.func (.func F) #[] cs.toArray) vs k=au rec F (vs++cs) k:=by
 unfold eM
 show aG (some _) _=_
 rw[pJ]
 simp only[hb]
 exact(ki _ _).symm
section
variable {lf d n:Nat} {h:H}
theorem af3{F:FuncId}(hb:j1 ai F=true)(cs:List Value)(p:Int->Bool){v:Value}{xs:List Int}(hR:Row h n 3 .i64 v xs)(hF:∀x∈xs,ah (fun _=>False) n (aq ai gt lf d F ⟨.int .i64 x::cs⟩) h n fun v' h' n'=>v'= .bool (p x)∧h'=h∧n'=n)(hl:xs.length<=1000000)(aw:3000000<=lf):
 ah (fun _=>False) n (aq ai gt lf (d+1) 128 #[v,.func (.func F) #[] cs.toArray]) h n fun v' h' n'=>(∃z,v'= .int .i64 z∧decide (0<=z)=xs.any p)∧h'=h∧n'=n:=by
 rw[aD (fun _=>Dk) rfl]
 refine ah.aB ?_
 unfold wX
 have bL:=hR
 obtain⟨a,c,rfl⟩:=hR.len
 have key:∀(m i fu:Nat),xs.length-i=m->m<fu->i<=xs.length->ah (fun _=>False) n (mz lf (aq ai gt lf d) fu (oH lf (aq ai gt lf d)) (.slice a xs.length c) (.func (.func F) #[] cs.toArray) (.int .i64 0) (.int .i64 (xs.length:Int)) (.int .i64 (i:Int))) h n fun v' h' n'=>(∃z,v'= .int .i64 z∧decide (0<=z)=(xs.drop i).any p)∧h'=h∧n'=n:=by
  intro m
  induction m with
  |zero=>
   intro i fu hm hf hi
   obtain⟨fu,rfl⟩:∃f,fu=f+1:=⟨fu-1,by omega⟩
   obtain rfl:i=xs.length:=by omega
   rw[mz]
   try simp(disch:=first|omega|assumption|exact aa _) only[ag,ae,RZ,c9]
   (try unfold oH);(try dsimp only)
   try simp(disch:=first|omega|assumption|exact aa _) only[ag,ae,RZ]
   exact⟨-1,rfl,by simp⟩
  |succ m ih=>
   intro i fu hm hf hi
   obtain⟨fu,rfl⟩:∃f,fu=f+1:=⟨fu-1,by omega⟩
   obtain⟨b,off,cap,o,ks,hv,hg,bM,_,_,_,cI⟩:=bL.some (by omega)
   have ct:jF a xs.length c= .slice (some ⟨b,off,none⟩) xs.length cap:=hv
   cases ct
   have e1:((i:Nat):Int)<((xs.length:Nat):Int):=by omega
   have c1:=cI i (by omega)
   have w1:((i:Nat):Int)+1=((i+1:Nat):Int):=rfl
   rw[mz]
   try simp(disch:=first|omega|assumption|exact aa _) only[ag,ae,RZ,e1,hg,c1]
   rw[VU hb]
   refine bV (hF (xs.getD i 0) (by rw[aC,aR (by omega)];exact ep _)) (ak _) (fun _ _ h=>h.elim) ?_
   rw[mF 0 (show i<xs.length by omega),List.any_cons]
   cases hp:p (xs.getD i 0)with
   |true=>
    try simp(disch:=first|omega|assumption|exact aa _) only[ag,ae,RZ]
    (try unfold oH);(try dsimp only)
    try simp(disch:=first|omega|assumption|exact aa _) only[ag,ae,RZ]
    exact⟨(i:Int),rfl,by simp⟩
   |false=>
    try simp(disch:=first|omega|assumption|exact aa _) only[ag,ae,RZ]
    rw[w1,Bool.false_or]
    exact ih (i+1) fu (by omega) (by omega) (by omega)
 try simp(disch:=first|omega|assumption|exact aa _) only[ag,ae,RZ]
 exact key xs.length 0 lf (by omega) (by omega) (by omega)
theorem VV{F:FuncId}(hb:j1 ai F=true)(cs:List Value)(p:Int->Bool){v:Value}{xs:List Int}(hR:Row h n 3 .i64 v xs)(hF:∀x∈xs,ah (fun _=>False) n (aq ai gt lf d F ⟨.int .i64 x::cs⟩) h n fun v' h' n'=>v'= .bool (p x)∧h'=h∧n'=n)(hl:xs.length<=1000000)(aw:3000000<=lf):
 ah (fun _=>False) n (aq ai gt lf (d+2) 103 #[v,.func (.func F) #[] cs.toArray]) h n fun v' h' n'=>v'= .bool (xs.any p)∧h'=h∧n'=n:=by
 rw[aD (fun _=>C5) rfl]
 refine ah.aB ?_
 unfold y6
 refine aI aF (af3 hb cs p hR hF hl aw) (ak _) (fun _ _ h=>h.elim) fun v' h' n' _ _ hq=> ?_
 obtain⟨⟨r,rfl,hr⟩,rfl,rfl⟩:=hq
 try simp(disch:=first|omega|assumption|exact aa _) only[ag,ae,RZ]
 rw[hr]
theorem af4(x:Int)(h1:1<=x)(h2:x<=20):ah (fun _=>False) n (aq ai gt lf (d+2) 106 #[.int .i64 x]) h n fun v' h' n'=>v'= .bool false∧h'=h∧n'=n:=by
 rw[aD (fun _=>Rj) rfl]
 refine ah.aB ?_
 unfold Iz
 have s1:ah (fun _=>False) n (aq ai gt lf (d+1) 107 #[.int .i64 x]) h n fun v' h' n'=>v'= .bool true∧h'=h∧n'=n:=by
  rw[aD (fun _=>IA) rfl]
  refine ah.aB ?_
  unfold C8
  try simp(disch:=first|omega|assumption|exact aa _) only[ag,ae,RZ,h1,h2]
  all_goals (first|rfl|exact⟨rfl,rfl,rfl⟩|exact⟨rfl,rfl⟩)
 refine bV s1 (ak _) (fun _ _ h=>h.elim) ?_
 try simp(disch:=first|omega|assumption|exact aa _) only[ag,ae,RZ,gu]
 all_goals (first|rfl|exact⟨rfl,rfl,rfl⟩|exact⟨rfl,rfl⟩)
theorem af5{v:Value}{ln:List Nat}(hR:Row h n 3 .i64 v (iN ln))(h3:3<=ln.length)(hl:ln.length<=258)(lo:∀x∈ln,1<=x)(hi:∀x∈ln,x<=20)(aw:3000000<=lf):ah (fun _=>False) n (aq ai gt lf (d+5) 68 #[v]) h n fun v' h' n'=>v'= .bool true∧h'=h∧n'=n:=by
 rw[aD (fun _=>Qq) rfl]
 refine ah.aB ?_
 unfold Ib
 have bL:=hR
 obtain⟨a,c,rfl⟩:=hR.len
 have eG:=dD ln
 have s1:ah (fun _=>False) n (aq ai gt lf (d+4) 91 #[.int .i64 ((iN ln).length:Int)]) h n fun v' h' n'=>v'= .bool true∧h'=h∧n'=n:=by
  rw[aD (fun _=>Im) rfl]
  refine ah.aB ?_
  unfold CU
  have c1:(3:Int)<=((iN ln).length:Int):=by omega
  have c2:((iN ln).length:Int)<=258:=by omega
  try simp(disch:=first|omega|assumption|exact aa _) only[ag,ae,RZ,c1,c2]
  all_goals (first|rfl|exact⟨rfl,rfl,rfl⟩|exact⟨rfl,rfl⟩)
 try simp(disch:=first|omega|assumption|exact aa _) only[ag,ae,RZ]
 refine bV s1 (ak _) (fun _ _ h=>h.elim) ?_
 try simp(disch:=first|omega|assumption|exact aa _) only[ag,ae,RZ]
 have s2:=VV (lf:=lf) (d:=d+2) (F:=106) (by kernel_rfl) [] (fun _=>false) bL (fun x hx=>af4 (lf:=lf) (d:=d) x (by
  unfold iN at hx;obtain⟨y,hy,rfl⟩:=List.mem_map.1 hx;have:=lo y hy;omega) (by
  unfold iN at hx;obtain⟨y,hy,rfl⟩:=List.mem_map.1 hx;have:=hi y hy;omega)) (by omega) aw
 refine bV s2 (ak _) (fun _ _ h=>h.elim) ?_
 have e:((iN ln).any fun _=>false)=false:=by simp
 rw[e]
 try simp(disch:=first|omega|assumption|exact aa _) only[ag,ae,RZ,gZ]
 all_goals (first|rfl|exact⟨rfl,rfl,rfl⟩|exact⟨rfl,rfl⟩)
theorem af6{fv:Value}{W:Nat->Prop}{n0:Nat}{St:List Bool->H->Nat->Prop}(sk:KE (aq ai gt lf d) fv W n0 St){v:Value}{ln:List Nat}(gf:∀l h n,St l h n->Row h n 3 .i64 v (iN ln))(h3:1<=ln.length)(hl:ln.length<=258)(hi:∀x∈ln,x<=20)(aw:3000000<=lf)(l:List Bool)(st:St l h n)(pN:l.length<=8000000):
 ah W n0 (aq ai gt lf (d+1) 69 #[v,fv]) h n fun v' h' n'=>v'= .tuple #[]∧St (l++eZ ln) h' n':=by
 rw[aD (fun _=>Qw) rfl]
 refine ah.aB ?_
 unfold CS
 obtain⟨b,off,cap,o,ks,rfl,hg,hb,_,_,_,cI⟩:=(gf l h n st).some (by rw[dD];omega)
 have c1:=cI 0 (by rw[dD];omega)
 rw[pU]at c1
 rw[dD]at gf⊢
 rw[Nat.add_zero]at c1
 have h0:ln.getD 0 0<=20:=hi _ (by rw[aC,aR (by omega)];exact ep _)
 have i1:(0:Int)<((ln.length:Nat):Int):=by omega
 try simp(disch:=first|omega|assumption|exact aa _) only[ag,ae,RZ,i1,hg,c1]
 refine sk _ l h n (ln.getD 0 0) 5 _ st (by omega) (by omega) (by omega) fun h1 n1 vC=> ?_
 try simp(disch:=first|omega|assumption|exact aa _) only[ag,ae,RZ]
 refine af2 sk gf hi (by omega) (by omega) ln.length 0 (ln.getD 0 0) lf _ h1 n1 (by omega) (by omega) (by omega) h0 vC (by rw[aM,dP];omega) fun h' n' oW=>⟨rfl, ?_⟩
 rw[cE,gT]at oW
 exact oW
end
section
variable {lf d lo n w:Nat} {h:H} {sv:Value} {l:List Bool}
theorem af7(x:dU h lo n w sv l){c0 v k:Nat}{e:TypeId}(gc:h.get c0=some ⟨e,true,[.pointer (some ⟨w,0,none⟩)]⟩)(hc:c0<n)(hk:k<=15)(hv:v<2^k)(hl:l.length<=1000000000)(aw:33<=lf):
 ah (fun c=>c=w∨ar sv c) n (aq ai gt lf (d+3) 70 #[.int .i64 (v:Int),.int .i64 (k:Int),.pointer (some ⟨c0,0,none⟩)]) h n fun v' h' n'=>v'= .tuple #[]∧∃cY,dU h' lo n' w cY (l++cL v k)∧∀c,c<n->ar cY c->ar sv c:=by
 rw[aD (fun _=>Qx) rfl]
 refine ah.aB ?_
 unfold Ig
 have p15:2^k<=2^15:=rC (by decide) hk
 have w1:=qZ (x:=v) (by omega)
 try simp(disch:=first|omega|assumption|exact aa _) only[ag,ae,RZ,gc,w1]
 refine aI aF (Ai (lf:=lf) (d:=d) x (by omega) hv hl aw) (ak _) (fun b _ hb=> .inr hb) fun v1 h1 n1 bb bJ hq=> ?_
 obtain⟨rfl,cY,x',kO⟩:=hq
 try simp(disch:=first|omega|assumption|exact aa _) only[ag,ae,RZ]
 exact⟨cY,x',kO⟩
def StW(lo w c0 m1:Nat)(e:TypeId)(sv v:Value)(ln:List Nat)(l:List Bool)(h:H)(n:Nat):Prop:=
 m1<=n∧(∃si,dU h lo n w si l∧∀c,c<m1->ar si c->ar sv c)∧Row h n 3 .i64 v (iN ln)∧h.get c0=some ⟨e,true,[.pointer (some ⟨w,0,none⟩)]⟩
theorem af8{c0 m1 n0:Nat}{e:TypeId}{v:Value}{ln:List Nat}(hw:w<m1)(hc:c0<m1)(hcw:c0≠w)(eJ:¬ar sv c0)(hv:∀b,ar v b->b<m1∧b≠w∧¬ar sv b)(h0:n0<=m1)(aw:33<=lf):
 KE (aq ai gt lf (d+3)) (.func (.func 70) #[] #[.pointer (some ⟨c0,0,none⟩)]) (fun c=>c=w∨ar sv c) n0 (StW lo w c0 m1 e sv v ln):=by
 intro Q l h n x k K st hl hx hk hK
 obtain⟨hn,⟨si,rT,xG⟩,gf,gc⟩:=st
 rw[VU (by kernel_rfl) [.pointer (some ⟨c0,0,none⟩)]]
 refine aI aF (af7 (lf:=lf) (d:=d) rT gc (by omega) hk hx (by omega) aw) (by omega) (fun b hb hq=> ?_) fun v1 h1 n1 bb bJ hq=> ?_
 ·rcases hq with rfl|hq
  ·exact .inr (.inl rfl)
  ·by_cases jq:b<m1
   ·exact .inr (.inr (xG b jq hq))
   ·exact .inl (by omega)
 ·obtain⟨rfl,cY,x',kO⟩:=hq
  refine hK h1 n1 ⟨by omega,⟨cY,x',fun c vD q=>xG c vD (kO c (by omega) q)⟩,gf.fC bb fun b hb=> ?_, ?_⟩
  ·obtain⟨q1,q2,q3⟩:=hv b hb
   exact bJ b (by omega) fun q=>by
    rcases q with q|q
    ·exact q2 q
    ·exact q3 (xG b q1 q)
  ·rw[bJ c0 (by omega) fun q=>by
    rcases q with q|q
    ·exact hcw q
    ·exact eJ (xG c0 hc q)]
   exact gc
theorem af9(x:dU h lo n w sv l){v:Value}{ln:List Nat}(hR:Row h n 3 .i64 v (iN ln))(hd:∀b,ar v b->b≠w∧¬ar sv b)(h3:3<=ln.length)(kY:ln.length<=258)(l1:∀x∈ln,1<=x)(hi:∀x∈ln,x<=20)(hl:l.length<=8000000)(aw:3000000<=lf):
 ah (fun c=>c=w∨ar sv c) n (aq ai gt lf (d+6) 38 #[.pointer (some ⟨w,0,none⟩),v]) h n fun v' h' n'=>v'= .int .i64 0∧∃cY,dU h' lo n' w cY (l++eZ ln)∧∀c,c<n->ar cY c->ar sv c:=by
 rw[aD (fun _=>PQ) rfl]
 refine ah.aB ?_
 unfold HR
 have lt:=ew.lt x
 have EL:∀b,ar sv b->b<n:=fun b hb=>(ew.own x|>.lt hb).2
 have bL:=hR
 obtain⟨a,c,rfl⟩:=hR.len
 refine pL trivial _ _ ?_
 have k1:∀b,b<n->(h.set n (some ⟨27,true,(mP (some ⟨w,0,none⟩)).cells.toList⟩)).get b=h.get b:=fun b hb=>aA _ _ (by omega)
 obtain⟨h1,vk⟩:∃h1,h.set n (some ⟨27,true,(mP (some ⟨w,0,none⟩)).cells.toList⟩)=h1:=⟨_,rfl⟩
 have g1:h1.get n=some ⟨27,true,[.pointer (some ⟨w,0,none⟩)]⟩:=by rw[<-vk,get_eq];rfl
 rw[vk]at k1⊢
 have fJ:=bL.ax (fg n) k1
 try simp(disch:=first|omega|assumption|exact aa _) only[ag,ae,RZ,g1]
 refine bV (af5 (lf:=lf) (d:=d) fJ h3 kY l1 hi aw) (by omega) (fun _ _ h=>h.elim) ?_
 try simp(disch:=first|omega|assumption|exact aa _) only[ag,ae,RZ,gu]
 have x1:dU h1 lo (n+1) w sv l:=x.ax (fg n) fun b hb _=>k1 b hb
 have sk:=af8 (lf:=lf) (d:=d+1) (lo:=lo) (w:=w) (sv:=sv) (c0:=n) (m1:=n+1) (n0:=n+1) (e:=27) (v:= .slice a (iN ln).length c) (ln:=ln) (by omega) (by omega) (by omega) (fun q=>by have:=EL n q;omega) (fun b hb=>⟨by have:=bL.lt hb;omega,hd b hb⟩) (by omega) (by omega)
 have ss:=af6 (lf:=lf) (d:=d+4) (h:=h1) (n:=n+1) sk (v:= .slice a (iN ln).length c) (ln:=ln) (fun l h n st=>st.2.2.1) (by omega) kY hi aw l ⟨ak _,⟨sv,x1,fun c _ q=>q⟩,fJ,g1⟩ hl
 refine aI aF ss (by omega) (fun b _ hb=> .inr hb) fun v2 h2 n2 dZ dq hq=> ?_
 obtain⟨rfl,fp,⟨si,rT,xG⟩,_⟩:=hq
 try simp(disch:=first|omega|assumption|exact aa _) only[ag,ae,RZ]
 exact⟨si,rT,fun c hc q=>xG c (by omega) q⟩
end
def bY(p:Nat):List Nat->Nat
 |[]=>0
 |a::l=>if a=p then 0 else bY p l+1
theorem Ak{p:Nat}:∀{o:List Nat},p∈o->bY p o<o.length
 |a::l,h=>by
  unfold bY
  by_cases e:a=p
  ·rw[if_pos e];simp
  ·rw[if_neg e]
   have:p∈l:=by
    rcases List.mem_cons.1 h with q|q
    ·exact absurd q.symm e
    ·exact q
   have:=Ak this
   simp
   omega
theorem KF{p:Nat}:∀{o:List Nat},p∈o->o.getD (bY p o) 0=p
 |a::l,h=>by
  unfold bY
  by_cases e:a=p
  ·rw[if_pos e];exact e
  ·rw[if_neg e]
   have:p∈l:=by
    rcases List.mem_cons.1 h with q|q
    ·exact absurd q.symm e
    ·exact q
   have:=KF this
   simpa using this
theorem VW{p:Nat}:∀{o:List Nat} {j:Nat},j<bY p o->o.getD j 0≠p
 |[],j,h=>by simp[bY]at h
 |a::l,j,h=>by
  unfold bY at h
  by_cases e:a=p
  ·rw[if_pos e]at h;omega
  ·rw[if_neg e]at h
   cases j with
   |zero=>simpa using e
   |succ j=>
    have:=VW (p:=p) (o:=l) (j:=j) (by omega)
    simpa using this
def dJ:List Nat->List Nat->List Nat
 |_,[]=>[]
 |o,p::ps=>bY p o::dJ (dQ 0 o (bY p o)) ps
theorem Al:∀(ps o:List Nat),(dJ o ps).length=ps.length
 |[],_=>rfl
 |p::ps,o=>by unfold dJ;rw[cu,Al ps,cu]
def tn(o:List Nat):Prop:=o.length=6∧∀p,p<6->p∈o
theorem Am:tn en:=⟨rfl,by decide⟩
theorem tn.dQ{o:List Nat}(h:tn o){i:Nat}(hi:i<6):tn (dQ 0 o i):=by
 refine⟨xB h.1 hi,fun p hp=> ?_⟩
 have:=h.2 p hp
 obtain⟨a,b,c,d,e,f,rfl⟩:=p7 h.1
 rcases i with _|_|_|_|_|_|i
 all_goals first|omega|(simp[Go.Proofs.YtdagfcflbphoiaaGreatDoor.dQ]at this⊢;omega)
theorem EM:∀(ps o:List Nat),tn o->(∀p∈ps,p<6)->∀x∈dJ o ps,x<6
 |[],_,_,_,x,hx=>by simp[dJ]at hx
 |p::ps,o,h,hp,x,hx=>by
  have h1:=Ak (h.2 p (hp p (by simp)))
  rw[h.1]at h1
  unfold dJ at hx
  rcases List.mem_cons.1 hx with rfl|hx
  ·exact h1
  ·exact EM ps _ (h.dQ h1) (fun q hq=>hp q (by simp[hq])) x hx
section
variable {lf d n q:Nat} {h:H} {e:TypeId} {O:List Nat}
theorem af'(hO:O.length=6)(g:h.get q=some ⟨e,true,aL .i64 (iN O)⟩)(hq:q<n){i:Nat}(hi:i<6)(aw:100<=lf):ah (fun b=>b=q) n (aq ai gt lf (d+1) 129 #[.pointer (some ⟨q,0,none⟩),.int .i64 (i:Int)]) h n fun v h' n'=>n'=n∧h'.get q=some ⟨e,true,aL .i64 (iN (dQ 0 O i))⟩:=by
 have t:=UQ (lf:=lf) (d:=d) (h:=h) (n:=n) (q:=q) (e:=e) (A:=[]) (O:=aL .i64 (iN O)) (Z:=[]) (i:=i) (by rw[eF,dD,hO]) (fun v hv=>by
  unfold aL at hv
  obtain⟨x,_,rfl⟩:=List.mem_map.1 hv
  rfl) (by simpa using g) hq hi aw
 refine(t.run (n0:=n) (W:=fun b=>b=q) fun x hx=> .inr hx.1).mono ?_
 rintro v h' n' _ ⟨_,rfl,g',_⟩
 refine⟨rfl, ?_⟩
 rw[UT O hO hi]at g'
 simpa using g'
theorem af_(hS:tn O)(g:h.get q=some ⟨e,true,aL .i64 (iN O)⟩)(hq:q<n){p:Nat}(hp:p<6)(aw:100<=lf):ah (fun b=>b=q) n (aq ai gt lf (d+2) 105 #[.pointer (some ⟨q,0,none⟩),.int .i64 (p:Int)]) h n fun v h' n'=>v= .int .i64 (bY p O:Int)∧n'=n∧h'.get q=some ⟨e,true,aL .i64 (iN (dQ 0 O (bY p O)))⟩:=by
 rw[aD (fun _=>Ri) rfl]
 refine ah.aB ?_
 unfold C7
 have bW:=hS.2 p hp
 have pl:=Ak bW
 have l6:=hS.1
 have key:∀(m i fu:Nat),bY p O-i=m->m<fu->i<=bY p O->ah (fun b=>b=q) n (uR lf (aq ai gt lf (d+1)) fu (C6 lf (aq ai gt lf (d+1))) (.pointer (some ⟨q,0,none⟩)) (.int .i64 (p:Int)) (.int .i64 0) (.int .i64 (i:Int))) h n fun v h' n'=>v= .int .i64 (bY p O:Int)∧n'=n∧h'.get q=some ⟨e,true,aL .i64 (iN (dQ 0 O (bY p O)))⟩:=by
  intro m
  induction m with
  |zero=>
   intro i fu hm hf hi
   obtain⟨fu,rfl⟩:∃f,fu=f+1:=⟨fu-1,by omega⟩
   obtain rfl:i=bY p O:=by omega
   have c1:(aL .i64 (iN O))[bY p O]? =some (.int .i64 (p:Int)):=by
    unfold aL iN
    rw[lE,lE,aR pl]
    have:=KF bW
    rw[aC,aR pl]at this
    simp only[Option.getD_some]at this
    simp only[Option.map_some,this]
   have e0:((p:Int) !=(p:Int))=false:=by simp
   have KH:((bY p O:Nat):Int)<6:=by omega
   have i0:(0:Int)<=((bY p O:Nat):Int):=by omega
   have it:((bY p O:Nat):Int).toNat=bY p O:=rfl
   rw[uR]
   try simp(disch:=first|omega|assumption|exact aa _) only[ag,ae,RZ,g,KH,it,c1,e0,gU]
   (try unfold C6);(try dsimp only)
   refine aI aF (af' (lf:=lf) (d:=d) hS.1 g hq (by omega) aw) (ak _) (fun b _ hb=> .inr hb) fun v1 h1 n1 _ _ aU=> ?_
   obtain⟨rfl,g1⟩:=aU
   try simp(disch:=first|omega|assumption|exact aa _) only[ag,ae,RZ]
   exact g1
  |succ m ih=>
   intro i fu hm hf hi
   obtain⟨fu,rfl⟩:∃f,fu=f+1:=⟨fu-1,by omega⟩
   have gL:i<bY p O:=by omega
   have c1:(aL .i64 (iN O))[i]? =some (.int .i64 (O.getD i 0:Int)):=by
    unfold aL iN
    rw[lE,lE,aC,aR (by omega)]
    rfl
   have e0:(((O.getD i 0:Nat):Int) !=(p:Int))=true:=by
    rw[bne_iff_ne]
    have:=VW gL
    omega
   have KH:((i:Nat):Int)<6:=by omega
   have it:((i:Nat):Int).toNat=i:=rfl
   have w1:((i:Nat):Int)+1=((i+1:Nat):Int):=rfl
   rw[uR]
   try simp(disch:=first|omega|assumption|exact aa _) only[ag,ae,RZ,g,KH,it,c1,e0,gU]
   rw[w1]
   exact ih (i+1) fu (by omega) (by omega) (by omega)
 exact key (bY p O) 0 lf (by omega) (by omega) (by omega)
end
theorem aga{pl:List Nat}{i N:Nat}(hi:i<pl.length)(hN:i<N):(pl.take i++cq (N-i) 0).set i (pl.getD i 0)=pl.take (i+1)++cq (N-(i+1)) 0:=by
 rw[List.set_append_right _ _ (by rw[dW];omega),dW,show i-min i pl.length=0 by omega,show N-i=(N-(i+1))+1 by omega,Xj,List.set_cons_zero,aC,aR hi,<-aip hi,cE]
 rfl
section
variable {lf d n:Nat} {h:H}
theorem agb{v:Value}{ps:List Nat}(hR:Row h n 3 .i64 v (iN ps))(hl:ps.length<=40000)(h6:∀p∈ps,p<6)(aw:3000000<=lf):ah (fun _=>False) n (aq ai gt lf (d+3) 67 #[v]) h n fun v' h' n'=>Row h' n' 3 .i64 v' (iN (dJ en ps))∧∀b,ar v' b->n<=b:=by
 rw[aD (fun _=>Qp) rfl]
 refine ah.aB ?_
 unfold CP
 have eG:=dD ps
 have bL:=hR
 obtain⟨a,c,rfl⟩:=hR.len
 refine aI aF (US (lf:=lf) (d:=d+1) (n:=n) (h:=h) (by omega)) (ak _) (fun _ _ h=>h.elim) fun v1 h1 n1 bb bJ aU=> ?_
 obtain⟨rfl,rfl⟩:=aU
 refine qP yQ _ ?_
 refine Eo (sz:=6) trivial (vs:=[.int .i64 0,.int .i64 1,.int .i64 2,.int .i64 3,.int .i64 4,.int .i64 5]) rfl rfl rfl (get_eq _ _ _) (by omega) (.inl (by omega)) _ fun h2 g2 k2=> ?_
 try simp(disch:=first|omega|assumption|exact aa _) only[ag,ae,RZ]
 refine Ev.run_make trivial (iN ps).length (iN ps).length _ (ak _) (by omega) ?_
 try simp(disch:=first|omega|assumption|exact aa _) only[ag,ae,RZ]
 obtain⟨h3,EN⟩:∃h3,h2.set (n+2+1) (some ⟨3,true,cq (iN ps).length (.int .i64 0)⟩)=h3:=⟨_,rfl⟩
 have g3:h3.get (n+2)=some ⟨132,true,aL .i64 (iN en)⟩:=by rw[<-EN,aA _ _ (by omega)];exact g2
 have o3:h3.get (n+2+1)=some ⟨3,true,aL .i64 (iN ((dJ en ps).take 0++cq (ps.length-0) 0))⟩:=by
  rw[<-EN,get_eq]
  unfold aL iN
  simp
 have k3:∀b,b<n->h3.get b=h.get b:=fun b hb=>by rw[<-EN,aA _ _ (by omega),k2 b (by omega),aA _ _ (by omega)];exact bJ b hb id
 rw[EN,eG]
 rw[eG]at bL
 have KI:=Al ps en
 have key:∀(m i fu:Nat) (O:List Nat) (h4:H),ps.length-i=m->m<fu->i<=ps.length->tn O->dJ O (ps.drop i)=(dJ en ps).drop i->h4.get (n+2)=some ⟨132,true,aL .i64 (iN O)⟩->h4.get (n+2+1)=some ⟨3,true,aL .i64 (iN ((dJ en ps).take i++cq (ps.length-i) 0))⟩->(∀b,b<n->h4.get b=h.get b)->
  ah (fun _=>False) n (uG lf (aq ai gt lf (d+2)) fu (CO lf (aq ai gt lf (d+2))) (.slice a ps.length c) nS (.pointer (some ⟨n+2,0,none⟩)) (.slice (some ⟨n+2+1,0,none⟩) ps.length ps.length) (.slice a ps.length c) (.int .i64 (ps.length:Int)) (.int .i64 (i:Int))) h4 (n+2+1+1) fun v' h' n'=>Row h' n' 3 .i64 v' (iN (dJ en ps))∧∀b,ar v' b->n<=b:=by
  intro m
  induction m with
  |zero=>
   intro i fu O h4 hm hf hi hS hp hg ho hk
   obtain⟨fu,rfl⟩:∃f,fu=f+1:=⟨fu-1,by omega⟩
   obtain rfl:i=ps.length:=by omega
   rw[uG]
   try simp(disch:=first|omega|assumption|exact aa _) only[ag,ae,RZ,c9]
   (try unfold CO);(try dsimp only)
   try simp(disch:=first|omega|assumption|exact aa _) only[ag,ae,RZ]
   rw[nT,List.replicate_zero,dF,kH (by omega)]at ho
   refine⟨.inr ⟨n+2+1,0,ps.length,true,_,by rw[dD,KI],ho,by omega,by rw[eF];omega,by rw[gT,kH (by rw[eF];omega)],by rw[dD,KI];omega⟩,fun b hb=>by rw[hb.inj];omega⟩
  |succ m ih=>
   intro i fu O h4 hm hf hi hS hp hg ho hk
   obtain⟨fu,rfl⟩:∃f,fu=f+1:=⟨fu-1,by omega⟩
   obtain⟨b,off,cap,o,ks,hv,pX,bM,_,_,_,cI⟩:=((bL.ax (n':=n+2+1+1) (by omega) hk)).some (by omega)
   have ct:jF a ps.length c= .slice (some ⟨b,off,none⟩) (iN ps).length cap:=hv
   rw[eG]at ct
   cases ct
   have e1:((i:Nat):Int)<((ps.length:Nat):Int):=by omega
   have c1:=cI i (by omega)
   rw[pU]at c1
   have w1:((i:Nat):Int)+1=((i+1:Nat):Int):=rfl
   have p6:ps.getD i 0<6:=h6 _ (by rw[aC,aR (by omega)];exact ep _)
   rw[uG]
   try simp(disch:=first|omega|assumption|exact aa _) only[ag,ae,RZ,e1,pX,c1]
   refine aI aF (af_ (lf:=lf) (d:=d) hS hg (by omega) p6 (by omega)) (by omega) (fun b _ hb=> .inl (by omega)) fun v5 h5 n5 zH vA Ah=> ?_
   obtain⟨rfl,rfl,g5⟩:=Ah
   have o5:=(vA (n+2+1) (by omega) (by omega)).trans ho
   have agc:i<(aL .i64 (iN ((dJ en ps).take i++cq (ps.length-i) 0))).length:=by rw[eF,dD,aM,dW,mS];omega
   have lt5:n+2+1<n+2+1+1:=by omega
   have it:((i:Nat):Int).toNat=i:=rfl
   try simp(disch:=first|omega|assumption|exact aa _) only[ag,ae,RZ,e1,it,o5,gU]
   refine⟨by simpa using agc,.inl (by omega), ?_⟩
   rw[w1]
   have dp:ps.drop i=ps.getD i 0::ps.drop (i+1):=mF 0 (by omega)
   rw[dp,dJ,mF 0 (show i<(dJ en ps).length by omega)]at hp
   injection hp with FA iE
   have VX:=Ak (hS.2 _ p6)
   rw[hS.1]at VX
   refine ih (i+1) fu _ _ (by omega) (by omega) (by omega) (hS.dQ VX) iE (by rw[aA _ _ (by omega)];exact g5) ?_ (fun b hb=>by rw[aA _ _ (by omega),vA b (by omega) (by omega)];exact hk b hb)
   rw[get_eq,UA]
   rw[FA]
   unfold iN
   rw[show((Lt (fun(x:Nat)=>(x:Int)) ((dJ en ps).take i++cq (ps.length-i) 0)).set i (((dJ en ps).getD i 0:Nat):Int))=Lt (fun(x:Nat)=>(x:Int)) (((dJ en ps).take i++cq (ps.length-i) 0).set i ((dJ en ps).getD i 0))from List.map_set.symm,aga (by omega) (by omega)]
 exact key ps.length 0 lf en h3 (by omega) (by omega) (by omega) Am rfl g3 o3 k3
end
def gI:List Nat->List Bool
 |[]=>[]
 |x::l=>cq x true++(false::gI l)
theorem VY(x:Nat)(l:List Nat):gI (x::l)=cq x true++(false::gI l):=rfl
def gJ(t:Nat)(ps:List Nat):List Bool:=cL t 3++(cL ps.length 15++gI (dJ en ps))
theorem KJ:∀{l:List Nat},(∀x∈l,x<6)->(gI l).length<=6*l.length
 |[],_=>by simp[gI]
 |x::l,h=>by
  have:=KJ fun y hy=>h y (List.mem_cons_of_mem x hy)
  have:=h x (by simp)
  unfold gI
  simp only[aM,mS,cu]
  omega
theorem agd{x:Nat}(h:x<6):IntKind.u32.wrap (1*2^(min (x+1) (AO).bits))=((2^(x+1):Nat):Int):=by
 rcases x with _|_|_|_|_|_|x<;>first|rfl|omega
theorem age{x:Nat}(h:x<6):IntKind.u32.wrap (((2^(x+1):Nat):Int)-2)=((2^(x+1)-2:Nat):Int):=by
 rcases x with _|_|_|_|_|_|x<;>first|rfl|omega
theorem agf{x:Nat}(h:x<6):cL (2^(x+1)-2) (x+1)=cq x true++[false]:=by
 rcases x with _|_|_|_|_|_|x<;>first|rfl|omega
section
variable {lf d n:Nat} {h:H}
theorem agh{c0 t:Nat}{x:Int}(gc:∃e,h.get c0=some ⟨e,true,[.int .i64 (t:Int)]⟩)(hc:c0<n)(h1:0<=x)(h2:x<t):ah (fun _=>False) n (aq ai gt lf (d+1) 104 #[.int .i64 x,.pointer (some ⟨c0,0,none⟩)]) h n fun v' h' n'=>v'= .bool false∧h'=h∧n'=n:=by
 obtain⟨e,gc⟩:=gc
 rw[aD (fun _=>Rf) rfl]
 refine ah.aB ?_
 unfold Iy
 have c1:¬(x<0):=by omega
 have c2:¬((t:Int)<=x):=by omega
 try simp(disch:=first|omega|assumption|exact aa _) only[ag,ae,RZ,gc,c1,c2]
 all_goals (first|rfl|exact⟨rfl,rfl,rfl⟩|exact⟨rfl,rfl⟩)
theorem agi{v:Value}{ps:List Nat}{t:Nat}(hR:Row h n 3 .i64 v (iN ps))(t2:2<=t)(t6:t<=6)(h0:0<ps.length)(hl:ps.length<=32767)(hp:∀p∈ps,p<t)(aw:3000000<=lf):ah (fun _=>False) n (aq ai gt lf (d+4) 66 #[v,.int .i64 (t:Int)]) h n fun v' _ _=>v'= .bool true:=by
 rw[aD (fun _=>Qm) rfl]
 refine ah.aB ?_
 unfold Ia
 have eG:=dD ps
 have bL:=hR
 obtain⟨a,c,rfl⟩:=hR.len
 refine pL trivial _ _ ?_
 obtain⟨h1,vk⟩:∃h1,h.set n (some ⟨3,true,(Value.int .i64 (t:Int)).cells.toList⟩)=h1:=⟨_,rfl⟩
 have g1:h1.get n=some ⟨3,true,[.int .i64 (t:Int)]⟩:=by rw[<-vk,get_eq];rfl
 have k1:∀b,b<n->h1.get b=h.get b:=fun b hb=>by rw[<-vk];exact aA _ _ (by omega)
 rw[vk]
 have fJ:=bL.ax (fg n) k1
 try simp(disch:=first|omega|assumption|exact aa _) only[ag,ae,RZ,g1]
 refine bV (UR (lf:=lf) (d:=d+2) (t:Int)) (by omega) (fun _ _ h=>h.elim) ?_
 rw[decide_eq_true (show(2:Int)<=(t:Int) by omega),decide_eq_true (show(t:Int)<=6 by omega)]
 have e1:(((iN ps).length:Int)==0)=false:=by rw[beq_eq_false_iff_ne];omega
 have e2:¬((32767:Int)<((iN ps).length:Int)):=by omega
 try simp(disch:=first|omega|assumption|exact aa _) only[ag,ae,RZ,mO,gu,e1,e2]
 have s2:=VV (lf:=lf) (d:=d+1) (F:=104) (by kernel_rfl) [.pointer (some ⟨n,0,none⟩)] (fun _=>false) fJ (fun x hx=>by
  unfold iN at hx
  obtain⟨y,hy,rfl⟩:=List.mem_map.1 hx
  have:=hp y hy
  exact agh (lf:=lf) (d:=d) ⟨_,g1⟩ (gX n) (by omega) (by omega)) (by omega) aw
 refine bV s2 (by omega) (fun _ _ h=>h.elim) ?_
 have e:((iN ps).any fun _=>false)=false:=by simp
 rw[e]
 try simp(disch:=first|omega|assumption|exact aa _) only[ag,ae,RZ,gZ]
section
variable {b off cap:Nat} {pl:List Nat} (h6:∀x∈pl,x<6) (hl:pl.length<=40000)
include h6 hl
theorem agj(aw:3000000<=lf){lo w m1 n0:Nat}{si0:Value}{W:Nat->Prop}(hw:W w)(VZ:w<m1)(hW:∀c,ar si0 c->n0<=c∨W c)(h0:n0<=m1)(hv:∀c,ar (.slice (some ⟨b,off,none⟩) pl.length cap) c->c<m1∧c≠w∧¬ar si0 c){x2 x3 x4 x5 x6:Value}:∀(m i fu:Nat) (l:List Bool) (h:H) (n:Nat) (si:Value),pl.length-i=m->m<fu->i<=pl.length->m1<=n->dU h lo n w si l->(∀c,c<m1->ar si c->ar si0 c)->Row h n 3 .i64 (.slice (some ⟨b,off,none⟩) pl.length cap) (iN pl)->l.length+6*m<=9000000->
 ah W n0 (uA lf (aq ai gt lf (d+2)) fu (CH lf (aq ai gt lf (d+2))) (.pointer (some ⟨w,0,none⟩)) x2 x3 x4 x5 x6 (.slice (some ⟨b,off,none⟩) pl.length cap) (.int .i64 (pl.length:Int)) (.int .i64 (i:Int))) h n fun v' h' n'=>v'= .int .i64 0∧m1<=n'∧∃jW,dU h' lo n' w jW (l++gI (pl.drop i))∧∀c,c<m1->ar jW c->ar si0 c:=by
 intro m
 induction m with
 |zero=>
  intro i fu l h n si hm hf hi tP x hs hR pN
  obtain⟨fu,rfl⟩:∃f,fu=f+1:=⟨fu-1,by omega⟩
  obtain rfl:i=pl.length:=by omega
  rw[uA]
  try simp(disch:=first|omega|assumption|exact aa _) only[ag,ae,RZ,c9]
  (try unfold CH);(try dsimp only)
  try simp(disch:=first|omega|assumption|exact aa _) only[ag,ae,RZ]
  refine⟨tP,si, ?_,hs⟩
  rw[xS]
  simpa[gI]using x
 |succ m ih=>
  intro i fu l h n si hm hf hi tP x hs hR pN
  obtain⟨fu,rfl⟩:∃f,fu=f+1:=⟨fu-1,by omega⟩
  obtain⟨b',lO,cK,o,ks,j7,hg,bM,_,_,_,cI⟩:=hR.some (by rw[dD];omega)
  have ct:jF (some ⟨b,off,none⟩) pl.length cap= .slice (some ⟨b',lO,none⟩) (iN pl).length cK:=j7
  rw[dD]at ct
  cases ct
  have e1:((i:Nat):Int)<((pl.length:Nat):Int):=by omega
  have c1:=cI i (by rw[dD];omega)
  rw[pU]at c1
  have x6:pl.getD i 0<6:=h6 _ (by rw[aC,aR (by omega)];exact ep _)
  have w1:((i:Nat):Int)+1=((i+1:Nat):Int):=rfl
  have w2:((pl.getD i 0:Nat):Int)+1=((pl.getD i 0+1:Nat):Int):=rfl
  have w3:=agd x6
  have w4:=age x6
  rw[uA]
  try simp(disch:=first|omega|assumption|exact aa _) only[ag,ae,RZ,bk,bm,bp,bq,bt,bu,bx,bz,bA,bB,e1,hg,c1,w2,w3,w4]
  have px:2^(pl.getD i 0+1)<=2^6:=rC (by decide) (by omega)
  have p0:0<2^(pl.getD i 0+1):=Nat.pow_pos (by decide)
  refine aI aF (Ai (lf:=lf) (d:=d) x (k:=pl.getD i 0+1) (v:=2^(pl.getD i 0+1)-2) (by omega) (by omega) (by omega) (by omega)) (by omega) (fun c hc hq=> ?_) fun v1 h1 n1 bb bJ aU=> ?_
  ·rcases hq with rfl|hq
   ·exact .inr hw
   ·by_cases vD:c<m1
    ·exact hW c (hs c vD hq)
    ·exact .inl (by omega)
  ·obtain⟨rfl,jW,x',kO⟩:=aU
   rw[agf x6]at x'
   try simp(disch:=first|omega|assumption|exact aa _) only[ag,ae,RZ]
   rw[w1]
   refine(ih (i+1) fu _ h1 n1 jW (by omega) (by omega) (by omega) (by omega) x' (fun c hc q=>hs c hc (kO c (by omega) q)) (hR.fC bb fun c hc=> ?_) (by rw[aM,aM,mS,ag9];omega)).mono ?_
   ·obtain⟨q1,q2,q3⟩:=hv c hc
    exact bJ c (by omega) fun q=>by
     rcases q with q|q
     ·exact q2 q
     ·exact q3 (hs c q1 q)
   ·rintro v' h' n' _ ⟨rfl,q1,KK,x2,fh⟩
    refine⟨rfl,q1,KK, ?_,fh⟩
    rw[mF 0 (show i<pl.length by omega),VY]
    simpa[cE]using x2
end
end
section
variable {lf d n:Nat} {h:H}
theorem V0(t:Nat)(ps:List Nat):(gJ t ps).length=18+(gI (dJ en ps)).length:=by
 unfold gJ
 rw[aM,aM,dP,dP]
 omega
theorem agk{lo w:Nat}{sv:Value}{l:List Bool}(x:dU h lo n w sv l){v:Value}{ps:List Nat}{t:Nat}(hR:Row h n 3 .i64 v (iN ps))(hd:∀b,ar v b->b≠w∧¬ar sv b)(t2:2<=t)(t6:t<=6)(h0:0<ps.length)(hl:ps.length<=32767)(hp:∀p∈ps,p<t)(pN:l.length<=1000000)(aw:3000000<=lf):
 ah (fun c=>c=w∨ar sv c) n (aq ai gt lf (d+5) 37 #[.pointer (some ⟨w,0,none⟩),v,.int .i64 (t:Int)]) h n fun v' h' n'=>v'= .int .i64 0∧∃cY,dU h' lo n' w cY (l++gJ t ps)∧∀c,c<n->ar cY c->ar sv c:=by
 rw[aD (fun _=>PO) rfl]
 refine ah.aB ?_
 unfold CI
 have hw:=ew.lt x
 try simp(disch:=first|omega|assumption|exact aa _) only[ag,ae,RZ]
 refine xo (agi (lf:=lf) (d:=d) hR t2 t6 h0 hl hp aw) (ak _) fun h1 n1 bb bJ=> ?_
 have w1:=qZ (x:=t) (by omega)
 have w2:=qZ (x:=ps.length) (by omega)
 have eG:=dD ps
 have bL:=hR
 obtain⟨a,c,rfl⟩:=hR.len
 try simp(disch:=first|omega|assumption|exact aa _) only[ag,ae,RZ,gu,w1]
 have x1:=x.ax bb fun b hb _=>bJ b hb
 have fJ:=bL.ax bb bJ
 refine aI aF (Ai (lf:=lf) (d:=d+2) x1 (k:=3) (v:=t) (by omega) (by omega) (by omega) (by omega)) bb (fun b _ hb=> .inr hb) fun v2 h2 n2 dZ dq dx=> ?_
 obtain⟨rfl,s2,x2,fh⟩:=dx
 have kZ:=fJ.fC dZ fun b hb=>dq b (fJ.lt hb) fun q=>by
  obtain⟨q1,q2⟩:=hd b hb
  rcases q with q|q
  ·exact q1 q
  ·exact q2 q
 rw[eG]at*
 try simp(disch:=first|omega|assumption|exact aa _) only[ag,ae,RZ,w2]
 have fx:∀b,ar (.slice a ps.length c) b->¬ar s2 b:=fun b hb q=>(hd b hb).2 (fh b (fJ.lt hb) q)
 refine aI aF (Ai (lf:=lf) (d:=d+2) x2 (k:=15) (v:=ps.length) (by omega) (by omega) (by rw[aM,dP];omega) (by omega)) (by omega) (fun b hb hq=> ?_) fun v3 h3 n3 fp dA gQ=> ?_
 ·rcases hq with rfl|hq
  ·exact .inr (.inl rfl)
  ·by_cases pz:b<n
   ·exact .inr (.inr (fh b (by omega) hq))
   ·exact .inl (by omega)
 obtain⟨rfl,s3,x3,oV⟩:=gQ
 have An:=kZ.fC fp fun b hb=>dA b (kZ.lt hb) fun q=>by
  rcases q with q|q
  ·exact(hd b hb).1 q
  ·exact fx b hb q
 try simp(disch:=first|omega|assumption|exact aa _) only[ag,ae,RZ]
 refine aI aF (agb (lf:=lf) (d:=d+1) An (by omega) (fun p hq=>by have:=hp p hq;omega) aw) (by omega) (fun _ _ h=>h.elim) fun v4 h4 n4 vz ri zR=> ?_
 obtain⟨EO,zT⟩:=zR
 have KI:=Al ps en
 obtain⟨b4,off,cap,o,ks,rfl,_⟩:=EO.some (by rw[dD];omega)
 rw[dD]at EO zT⊢
 try simp(disch:=first|omega|assumption|exact aa _) only[ag,ae,RZ]
 have x4:=x3.ax vz fun b hb _=>ri b hb id
 have agl:∀b,ar s3 b->b<n3:=fun b hb=>((ew.own x3).lt hb).2
 have up:∀b,ar s3 b->n<=b∨(b=w∨ar sv b):=fun b hb=>by
  by_cases pz:b<n
  ·exact .inr (.inr (fh b (by omega) (oV b (by omega) hb)))
  ·exact .inl (by omega)
 refine(agj (lf:=lf) (d:=d+2) (EM ps en Am fun p hq=>by have:=hp p hq;omega) (by omega) aw (lo:=lo) (w:=w) (m1:=n4) (n0:=n) (si0:=s3) (W:=fun c=>c=w∨ar sv c) (.inl rfl) (by omega) up (by omega) (fun b hb=>⟨EO.lt hb,by have:=zT b hb;omega,fun q=>by have:=zT b hb;have:=agl b q;omega⟩) (dJ en ps).length 0 lf _ h4 n4 s3 (by omega) (by omega) (by omega) (ak _) x4 (fun c _ q=>q) EO (by rw[aM,aM,dP,dP];omega)).mono ?_
 rintro v' h' n' _ ⟨rfl,l9,s5,x5,EP⟩
 refine⟨rfl,s5, ?_,fun c hc q=> ?_⟩
 ·rw[gT,cE,cE]at x5
  exact x5
 ·exact fh c (by omega) (oV c (by omega) (EP c (by omega) q))
end
def mc(ln:List Nat)(i:Nat):List Bool:=cL (eT ln i) (ln.getD i 0)
section
variable {lf d n clo chi c:Nat} {h:H} {ln:List Nat}
theorem agm(y:lk h clo chi c ln)(hn:chi<=n){i:Nat}(hi:i<ln.length):ah (fun _=>False) n (aq ai gt lf (d+1) 73 #[.pointer (some ⟨c,0,none⟩),.int .i64 (i:Int)]) h n fun v' h' n'=>v'= .tuple #[.int .u32 (eT ln i:Int),.int .i64 (ln.getD i 0:Int),.int .i64 0]∧h'=h∧n'=n:=by
 obtain⟨lv,cv,ov,g,hl,_,hc,_,_,_⟩:=y.ex
 have lt:=y.lt
 have Ea:(oO ln).length=ln.length:=by unfold oO;simp
 obtain⟨b1,o1,c1,w1,k1,rfl,g1,l1,_,_,_,t1⟩:=hl.some (by rw[dD];omega)
 obtain⟨b2,o2,c2,w2,k2,rfl,g2,l2,_,_,_,t2⟩:=hc.some (by rw[Ea];omega)
 have a1:=t1 i (by rw[dD];omega)
 have a2:=t2 i (by rw[Ea];omega)
 rw[pU]at a1
 have ca:(oO ln).getD i 0=(eT ln i:Int):=by
  unfold oO
  rw[aC,lE,List.getElem?_range hi]
  rfl
 rw[ca]at a2
 have z0:∀a b e f g,(dI a b e f g)[0]? =some a:=fun _ _ _ _ _=>rfl
 have z1:∀a b e f g,(dI a b e f g)[1]? =some b:=fun _ _ _ _ _=>rfl
 have n0:¬((i:Int)<0):=by omega
 have il:=dD ln
 have n1:¬(((iN ln).length:Int)<=(i:Int)):=by omega
 have i1:(i:Int)<((iN ln).length:Int):=by omega
 have i2:(i:Int)<((oO ln).length:Int):=by omega
 rw[aD (fun _=>QA) rfl]
 refine ah.aB ?_
 unfold Ij
 try simp(disch:=first|omega|assumption|exact aa _) only[ag,ae,RZ,g,z0,z1,n0,n1,i1,i2,g1,g2,a1,a2]
 all_goals (first|rfl|exact⟨rfl,rfl,rfl⟩|exact⟨rfl,rfl⟩)
theorem agn{lo w:Nat}{sv:Value}{l:List Bool}(x:dU h lo n w sv l)(y:lk h clo chi c ln)(hn:chi<=n)(wh:Wh ln){i:Nat}(hi:i<ln.length)(pN:l.length<=100000000)(aw:33<=lf):ah (fun c=>c=w∨ar sv c) n (aq ai gt lf (d+3) 40 #[.pointer (some ⟨c,0,none⟩),.pointer (some ⟨w,0,none⟩),.int .i64 (i:Int)]) h n fun v' h' n'=>v'= .int .i64 0∧∃cY,dU h' lo n' w cY (l++mc ln i)∧∀c,c<n->ar cY c->ar sv c:=by
 rw[aD (fun _=>PV) rfl]
 refine ah.aB ?_
 unfold HU
 try simp(disch:=first|omega|assumption|exact aa _) only[ag,ae,RZ]
 refine bV (agm (lf:=lf) (d:=d+1) y hn hi) (ak _) (fun _ _ h=>h.elim) ?_
 have x0:∀(a b c:Value) (k:Value->M Value),aY (.tuple #[a,b,c]) 0 k=k a:=fun _ _ _ _=>rfl
 have x1:∀(a b c:Value) (k:Value->M Value),aY (.tuple #[a,b,c]) 1 k=k b:=fun _ _ _ _=>rfl
 have x2:∀(a b c:Value) (k:Value->M Value),aY (.tuple #[a,b,c]) 2 k=k c:=fun _ _ _ _=>rfl
 have z:((0:Int) !=0)=false:=rfl
 try simp(disch:=first|omega|assumption|exact aa _) only[ag,ae,RZ,x0,x1,x2,z]
 refine aI aF (Ai (lf:=lf) (d:=d) x (k:=ln.getD i 0) (v:=eT ln i) (by have:=(wh.at hi).2;omega) (wh.JI hi) (by omega) aw) (ak _) (fun b _ hb=> .inr hb) fun v1 h1 n1 bb bJ hq=> ?_
 obtain⟨rfl,cY,x',kO⟩:=hq
 try simp(disch:=first|omega|assumption|exact aa _) only[ag,ae,RZ]
 exact⟨cY,x',kO⟩
end
section
variable {lf d n:Nat} {h:H}
end
section
variable {lf d n:Nat} {h:H}
end
def jj(xs:List Int)(z:Int):Prop:=0<xs.length∧(3<=z∧z<=258)∧eu z xs=true∧∀i,i<xs.length->(xs.getD i 0=z-1↔i+1=xs.length)
section
variable {lf d n:Nat} {h:H} (aw:3000000<=lf)
include aw
theorem ago(v:Value)(xs:List Int)(z:Int)(hR:Row h n 3 .i64 v xs)(hl:xs.length<=1000000):ah (fun _=>False) n (aq ai gt lf (d+2) 13 #[v,.int .i64 z]) h n fun v' h' n'=>((v'= .bool true∧jj xs z)∨(v'= .bool false∧¬jj xs z))∧h'=h∧n'=n:=by
 rw[aD (fun _=>abi) rfl]
 refine ah.aB ?_
 unfold HF
 have bL:=hR
 obtain⟨a,c,rfl⟩:=hR.len
 by_cases h0:xs.length=0
 ·have e:((xs.length:Int)==0)=true:=by rw[h0];rfl
  try simp(disch:=first|omega|assumption|exact aa _) only[ag,ae,RZ,e]
  have nm:¬jj xs z:=fun m=>by have:=m.1;omega
  (first|exact nm|exact .inr nm|exact .inr ⟨rfl,nm⟩|exact⟨.inr ⟨rfl,nm⟩,rfl,rfl⟩)
 have e:((xs.length:Int)==0)=false:=by rw[beq_eq_false_iff_ne];omega
 try simp(disch:=first|omega|assumption|exact aa _) only[ag,ae,RZ,e]
 refine bV (ae3 lf (d+0) n h z) (ak _) (fun _ _ h=>h.elim) ?_
 by_cases hz:3<=z∧z<=258
 rotate_left
 ·have e1:(decide (3<=z)&&decide (z<=258))=false:=by
   cases e:(decide (3<=z)&&decide (z<=258))with
   |false=>rfl
   |true=>rw[Bool.and_eq_true,decide_eq_true_eq,decide_eq_true_eq]at e;exact absurd e hz
  rw[e1]
  try simp(disch:=first|omega|assumption|exact aa _) only[ag,ae,RZ,gZ]
  have nm:¬jj xs z:=fun m=>hz m.2.1
  (first|exact nm|exact .inr nm|exact .inr ⟨rfl,nm⟩|exact⟨.inr ⟨rfl,nm⟩,rfl,rfl⟩)
 rw[decide_eq_true hz.1,decide_eq_true hz.2]
 try simp(disch:=first|omega|assumption|exact aa _) only[ag,ae,RZ,mO,gu]
 refine bV (ae4 lf d n h aw _ xs bL hl z) (ak _) (fun _ _ h=>h.elim) ?_
 cases hb:eu z xs with
 |false=>
  try simp(disch:=first|omega|assumption|exact aa _) only[ag,ae,RZ,gZ]
  have nm:¬jj xs z:=fun m=>by rw[m.2.2.1]at hb;cases hb
  (first|exact nm|exact .inr nm|exact .inr ⟨rfl,nm⟩|exact⟨.inr ⟨rfl,nm⟩,rfl,rfl⟩)
 |true=>
  try simp(disch:=first|omega|assumption|exact aa _) only[ag,ae,RZ,gu]
  have key:∀(m i fu:Nat),xs.length-i=m->m<fu->i<=xs.length->(∀j,j<i->(xs.getD j 0=z-1↔j+1=xs.length))->ah (fun _=>False) n (ux lf (aq ai gt lf (d+1)) fu (wQ lf (aq ai gt lf (d+1))) (.slice a xs.length c) (.int .i64 z) (.bool false) (.bool false) (.slice a xs.length c) (.int .i64 (xs.length:Int)) (.int .i64 (i:Int))) h n fun v' h' n'=>((v'= .bool true∧jj xs z)∨(v'= .bool false∧¬jj xs z))∧h'=h∧n'=n:=by
   intro m
   induction m with
   |zero=>
    intro i fu hm hf hi hj
    obtain⟨fu,rfl⟩:∃f,fu=f+1:=⟨fu-1,by omega⟩
    obtain rfl:i=xs.length:=by omega
    rw[ux]
    try simp(disch:=first|omega|assumption|exact aa _) only[ag,ae,RZ,c9]
    (try unfold wQ);(try dsimp only)
    try simp(disch:=first|omega|assumption|exact aa _) only[ag,ae,RZ]
    have nm:jj xs z:=⟨by omega,hz,hb,hj⟩
    (first|exact nm|exact .inl nm|exact .inl ⟨rfl,nm⟩|exact⟨.inl ⟨rfl,nm⟩,rfl,rfl⟩)
   |succ m ih=>
    intro i fu hm hf hi hj
    obtain⟨fu,rfl⟩:∃f,fu=f+1:=⟨fu-1,by omega⟩
    obtain⟨b,off,cap,o,ks,hv,hg,bM,_,_,_,cI⟩:=bL.some (by omega)
    have ct:jF a xs.length c= .slice (some ⟨b,off,none⟩) xs.length cap:=hv
    cases ct
    have e1:((i:Nat):Int)<((xs.length:Nat):Int):=by omega
    have c1:=cI i (by omega)
    have w1:((i:Nat):Int)+1=((i+1:Nat):Int):=rfl
    rw[ux]
    by_cases q1:xs.getD i 0=z-1
    ·have f1:(xs.getD i 0==z-1)=true:=by rw[beq_iff_eq];exact q1
     by_cases q2:i+1=xs.length
     ·have f2:((i:Int)==(xs.length:Int)-1)=true:=by rw[beq_iff_eq];omega
      have f3:(true !=true)=false:=rfl
      try simp(disch:=first|omega|assumption|exact aa _) only[ag,ae,RZ,e1,hg,c1,f1,f2,f3]
      rw[w1]
      refine ih (i+1) fu (by omega) (by omega) (by omega) fun j iV=> ?_
      by_cases Ao:j=i
      ·subst Ao;exact⟨fun _=>q2,fun _=>q1⟩
      ·exact hj j (by omega)
     ·have f2:((i:Int)==(xs.length:Int)-1)=false:=by rw[beq_eq_false_iff_ne];omega
      have f3:(true !=false)=true:=rfl
      try simp(disch:=first|omega|assumption|exact aa _) only[ag,ae,RZ,e1,hg,c1,f1,f2,f3]
      (try unfold wQ);(try dsimp only)
      try simp(disch:=first|omega|assumption|exact aa _) only[ag,ae,RZ]
      have nm:¬jj xs z:=fun m=>q2 ((m.2.2.2 i (by omega)).1 q1)
      (first|exact nm|exact .inr nm|exact .inr ⟨rfl,nm⟩|exact⟨.inr ⟨rfl,nm⟩,rfl,rfl⟩)
    ·have f1:(xs.getD i 0==z-1)=false:=by rw[beq_eq_false_iff_ne];exact q1
     by_cases q2:i+1=xs.length
     ·have f2:((i:Int)==(xs.length:Int)-1)=true:=by rw[beq_iff_eq];omega
      have f3:(false !=true)=true:=rfl
      try simp(disch:=first|omega|assumption|exact aa _) only[ag,ae,RZ,e1,hg,c1,f1,f2,f3]
      (try unfold wQ);(try dsimp only)
      try simp(disch:=first|omega|assumption|exact aa _) only[ag,ae,RZ]
      have nm:¬jj xs z:=fun m=>q1 ((m.2.2.2 i (by omega)).2 q2)
      (first|exact nm|exact .inr nm|exact .inr ⟨rfl,nm⟩|exact⟨.inr ⟨rfl,nm⟩,rfl,rfl⟩)
     ·have f2:((i:Int)==(xs.length:Int)-1)=false:=by rw[beq_eq_false_iff_ne];omega
      have f3:(false !=false)=false:=rfl
      try simp(disch:=first|omega|assumption|exact aa _) only[ag,ae,RZ,e1,hg,c1,f1,f2,f3]
      rw[w1]
      refine ih (i+1) fu (by omega) (by omega) (by omega) fun j iV=> ?_
      by_cases Ao:j=i
      ·subst Ao;exact⟨fun q=>absurd q q1,fun q=>absurd q q2⟩
      ·exact hj j (by omega)
  exact key xs.length 0 lf (by omega) (by omega) (by omega) (fun j hj=>by omega)
end
end Go.Proofs.YtdagfcflbphoiaaGreatDoor
namespace Go.Proofs.YtdagfcflbphoiaaGreatDoor
open Go.RowKit Ev Tb Cn
section
variable {lf d n:Nat} {h:H} (aw:3000000<=lf)
include aw
theorem agp(v:Value)(xs:List Int)(z:Int)(g:Gd h n)(hR:Row h n 3 .i64 v xs)(hl:xs.length<=1000000)(hd:600<=d):ah (fun _=>False) n (aq ai gt lf (d+1) 36 #[v,.int .i64 z]) h n fun v' h' n'=>
 (jj xs z∧∃x y,v'= .tuple #[.agg #[x,y],.int .i64 0]∧RR h' n' 22 3 x (eW xs z.toNat 4)∧Row h' n' 3 .i64 y (kE (jV xs) (eW xs z.toNat 3)))∨(¬jj xs z∧v'= .tuple #[.agg #[.slice none 0 0,.slice none 0 0],.int .i64 1]):=by
 obtain⟨d,rfl⟩:∃k,d=k+1:=⟨d-1,by omega⟩
 rw[aD (fun _=>PL) rfl]
 refine ah.aB ?_
 unfold HQ
 have bL:=hR
 obtain⟨a,c,rfl⟩:=hR.len
 refine qP sE _ ?_
 obtain⟨ha,oS⟩:∃ha,h.set n (some ⟨67,true,[.slice none 0 0,.slice none 0 0]⟩)=ha:=⟨_,rfl⟩
 have ka:∀b,b<n->ha.get b=h.get b:=fun b hb=>by rw[<-oS];exact aA _ _ (by omega)
 have ga:ha.get n=some ⟨67,true,[.slice none 0 0,.slice none 0 0]⟩:=by rw[<-oS,get_eq]
 rw[oS]
 have KL:=bL.ax (fg n) ka
 have back:∀(x y:Value) (e:Int) (h1:H) (n1:Nat) (Q:Value->H->Nat->Prop),n<n1->h1.get n=some ⟨67,true,[.slice none 0 0,.slice none 0 0]⟩->one x=true->one y=true->(∀h',(∀b,b≠n->h'.get b=h1.get b)->Q (.tuple #[.agg #[x,y],.int .i64 e]) h' n1)->
  ah (fun _=>False) n (iH 2 (.pointer (some ⟨n,0,none⟩)) (.agg #[x,y]) fun _=>jb 2 (.pointer (some ⟨n,0,none⟩)) fun b=>aj [b,.int .i64 e]) h1 n1 Q:=by
  intro x y e h1 n1 Q hn hg o1 o2 hQ
  refine Eo (sz:=2) trivial (vs:=[x,y]) rfl rfl (by simp[o1,o2]) hg hn (.inl (ak _)) _ fun h5 th k5=> ?_
  refine DY trivial trivial (sz:=2) _ _ _ th (by omega) (by simp) ?_
  rw[wH]
  exact hQ h5 k5
 by_cases h0:xs.length=0
 ·have e:((xs.length:Int)==0)=true:=by rw[h0];rfl
  try simp(disch:=first|omega|assumption|exact aa _) only[ag,ae,RZ,e]
  exact back _ _ 1 ha (n+1) _ (gX n) ga rfl rfl fun h' _=> .inr ⟨fun m=>by have:=m.1;omega,rfl⟩
 have e:((xs.length:Int)==0)=false:=by rw[beq_eq_false_iff_ne];omega
 obtain⟨z1,sY⟩:∃z1,IntKind.i64.wrap (z-1)=z1:=⟨_,rfl⟩
 try simp(disch:=first|omega|assumption|exact aa _) only[ag,ae,RZ,e,sY]
 refine aI aF (Ut lf d (n+1) ha aw _ xs z1 KL hl) (by omega) (fun _ _ h=>h.elim) fun v1 h1 n1 _ _ hq=> ?_
 obtain⟨⟨r,rfl,hr⟩,rfl,rfl⟩:=hq
 have gd1:Gd h1 (n+1):=g.ax (fg n) ka
 have mem:∀i,i<xs.length->xs.getD i 0∈xs:=fun i hi=>by rw[aC,aR hi];exact ep _
 have zz:3<=z∧z<=258->z1=z-1:=fun q=>by rw[<-sY];exact aV (by omega) (by omega)
 by_cases fH:r=(xs.length:Int)-1
 ·have f:(r !=(xs.length:Int)-1)=false:=by rw[fH];simp
  try simp(disch:=first|omega|assumption|exact aa _) only[ag,ae,RZ,f]
  by_cases hz:(3<=z∧z<=258)∧eu z xs=true
  ·have hm:jj xs z:=by
    refine⟨by omega,hz.1,hz.2,fun j hj=> ?_⟩
    rcases hr with ⟨q,_⟩|⟨i,hi,KA,hx,cd⟩
    ·omega
    ·rw[zz hz.1]at hx cd
     refine⟨fun q=> ?_,fun q=> ?_⟩
     ·by_cases Ao:j<i
      ·exact absurd q (cd j Ao)
      ·omega
     ·rw[show j=i by omega];exact hx
   obtain⟨s,rfl⟩:∃s:Nat,z=(s:Int):=⟨z.toNat,by omega⟩
   refine aI aF (afG lf (d+1) (n+1) h1 aw _ xs s gd1 KL (by omega) hl (by omega) (by omega) hz.2 hd) (by omega) (fun _ _ h=>h.elim) fun v2 h2 n2 dZ dq dx=> ?_
   obtain⟨x,y,rfl,hx,hy⟩:=dx
   have g2:h2.get n=some ⟨67,true,[.slice none 0 0,.slice none 0 0]⟩:=(dq n (gX n) id).trans ga
   try simp(disch:=first|omega|assumption|exact aa _) only[ag,ae,RZ,cw,ext1]
   refine back x y 0 h2 n2 _ (by omega) g2 (by obtain⟨_,_,rfl⟩:=hx.len;rfl) (by obtain⟨_,_,rfl⟩:=hy.len;rfl) fun h' k'=> .inl ⟨hm,x,y,rfl, ?_, ?_⟩
   ·refine hx.sS (ak _) fun b B _ hB he=>TQ g2 k' hB fun q=> ?_
    rcases he with he|he
    ·exact absurd (show(22:Nat)=67 from he.symm.trans q) (by decide)
    ·exact absurd (show(3:Nat)=67 from he.symm.trans q) (by decide)
   ·refine hy.sS (ak _) fun b B _ hB he=>TQ g2 k' hB fun q=> ?_
    exact absurd (show(3:Nat)=67 from he.symm.trans q) (by decide)
  ·have no:z<3∨258<z∨xs=[]∨eu z xs=false:=by
    cases hb:eu z xs with
    |false=>exact .inr (.inr (.inr rfl))
    |true=>
     have:¬(3<=z∧z<=258):=fun q=>hz ⟨q,hb⟩
     omega
   refine aI aF (afI lf (d+1) (n+1) h1 aw _ xs z KL hl no hd) (by omega) (fun _ _ h=>h.elim) fun v2 h2 n2 dZ dq dx=> ?_
   subst dx
   have g2:h2.get n=some ⟨67,true,[.slice none 0 0,.slice none 0 0]⟩:=(dq n (gX n) id).trans ga
   try simp(disch:=first|omega|assumption|exact aa _) only[ag,ae,RZ,cw,ext1]
   exact back _ _ 1 h2 n2 _ (by omega) g2 rfl rfl fun h' _=> .inr ⟨fun m=>hz ⟨m.2.1,m.2.2.1⟩,rfl⟩
 ·have f:(r !=(xs.length:Int)-1)=true:=by rw[bne_iff_ne];exact fH
  try simp(disch:=first|omega|assumption|exact aa _) only[ag,ae,RZ,f]
  refine back _ _ 1 h1 (n+1) _ (gX n) ga rfl rfl fun h' _=> .inr ⟨fun m=> ?_,rfl⟩
  rcases hr with ⟨_,q⟩|⟨i,hi,KA,hx,cd⟩
  ·refine q _ (mem (xs.length-1) (by omega)) ?_
   rw[zz m.2.1]
   exact(m.2.2.2 (xs.length-1) (by omega)).2 (by omega)
  ·rw[zz m.2.1]at hx
   have:=(m.2.2.2 i hi).1 hx
   omega
end
def cP(r:List Int):List Nat:=r.map Int.toNat
theorem V4{r:List Int}(h:∀x∈r,0<=x):iN (cP r)=r:=by
 unfold iN cP
 rw[List.map_map]
 refine(List.map_congr_left fun x hx=> ?_).trans (List.map_id r)
 have:=h x hx
 show((x.toNat:Nat):Int)=id x
 rw[mf this]
 rfl
structure GoodR (s:Nat) (r:List Int):Prop where
 eq:iN (cP r)=r
 len:(cP r).length=s
 lo:∀x∈cP r,1<=x
 hi:∀x∈cP r,x<=20
 sh:dS (iN (cP r))=1048576
 wh:Wh (cP r)
theorem agq{r:List Int}{s:Nat}(hl:r.length=s)(ha:eg 1 20 r=true)(hs:dS r=1048576):GoodR s r:=by
 have h:=k8.1 ha
 have e:=V4 (r:=r) fun x hx=>by have:=h x hx;omega
 have b:∀x∈cP r,1<=x∧x<=20:=fun x hx=>by
  unfold cP at hx
  obtain⟨y,hy,rfl⟩:=List.mem_map.1 hx
  have:=h y hy
  omega
 refine⟨e,by unfold cP;rw[mM];exact hl,fun x hx=>(b x hx).1,fun x hx=>(b x hx).2,by rw[e];exact hs,xx b (by rw[e];exact hs)⟩
theorem agr{xs:List Int}{s:Nat}(hl:xs.length<=1000000)(bW:eu s xs=true)(h3:3<=s)(ek:s<=258)(k:Nat):∀r∈eW xs s (k+1),GoodR s r:=fun r hr=>by
 have gg:=KC hl bW
 unfold eW rh at hr
 obtain⟨p,_,rfl⟩:=List.mem_map.1 hr
 have hc:(tc (jV xs) (eW xs s k) s p).length=s:=by unfold tc;exact kB _ _
 have:=VB (c:=tc (jV xs) (eW xs s k) s p) (by omega) (by omega) (EH (jV xs) (eW xs s k) s p gg (fun g hg=>hg) (ak _))
 exact agq (by rw[this.1,hc]) this.2.1 this.2.2
def rk(h:H)(n m1:Nat)(si gv:Value)(cs:List Value)(rows:List (List Nat)):Prop:=
 cs.length=rows.length∧∀j,j<rows.length->∃clo chi c,cs[j]? =some (.pointer (some ⟨c,0,none⟩))∧m1<=clo∧chi<=n∧lk h clo chi c (rows.getD j [])∧∀b,clo<=b->b<chi->¬ar si b∧¬ar gv b
theorem rk.ax{h h':H}{n n' m1:Nat}{si jW gv rn:Value}{cs:List Value}{rows:List (List Nat)}(x:rk h n m1 si gv cs rows)(hn:n<=n')(hk:∀b,m1<=b->b<n->¬ar si b->¬ar gv b->h'.get b=h.get b)(hs:∀b,b<n->ar jW b->ar si b)(hg:∀b,b<n->ar rn b->ar gv b):rk h' n' m1 jW rn cs rows:=by
 refine⟨x.1,fun j hj=> ?_⟩
 obtain⟨clo,chi,c,e,h1,h2,hc,ha⟩:=x.2 j hj
 exact⟨clo,chi,c,e,h1,by omega,hc.ax fun b b1 b2=>hk b (by omega) (by omega) (ha b b1 b2).1 (ha b b1 b2).2,fun b b1 b2=>⟨fun q=>(ha b b1 b2).1 (hs b (by omega) q),fun q=>(ha b b1 b2).2 (hg b (by omega) q)⟩⟩
theorem rk.push{h:H}{n m1:Nat}{si gv:Value}{cs:List Value}{rows:List (List Nat)}(x:rk h n m1 si gv cs rows){clo chi c:Nat}{ln:List Nat}(h1:m1<=clo)(h2:chi<=n)(hc:lk h clo chi c ln)(ha:∀b,clo<=b->b<chi->¬ar si b∧¬ar gv b):rk h n m1 si gv (cs++[.pointer (some ⟨c,0,none⟩)]) (rows++[ln]):=by
 refine⟨by rw[aM,aM,x.1];rfl,fun j hj=> ?_⟩
 rw[aM,ag9]at hj
 by_cases q:j<rows.length
 ·obtain⟨a,b,d,e,r⟩:=x.2 j q
  refine⟨a,b,d,by rw[me (by rw[x.1];exact q)];exact e, ?_⟩
  rw[aC,me q,<-aC]
  exact r
 ·obtain rfl:j=rows.length:=by omega
  refine⟨clo,chi,c, ?_,h1,h2, ?_,ha⟩
  ·rw[<-x.1];simp
  ·rw[aC];simpa using hc
theorem V5{l:List Nat}(h:0<l.length)(hi:∀x∈l,x<=20):l.getD 0 0<=20:=hi _ (by rw[aC,aR h];exact ep _)
section
variable {lf d lo w m1 n0:Nat} {si0:Value} {W:Nat->Prop} {FR:H->Prop} {tb qd qe:Nat} {T:List (List Int)} {s:Nat}
set_option maxHeartbeats 1000000 in
theorem ags (aw:3000000<=lf) (hw:W w) (VZ:w<m1) (hW:∀c,ar si0 c->n0<=c∨W c) (h0:n0<=m1)
 (fr:∀h h':H,FR h->(∀b,b<m1->b≠w->¬ar si0 b->h'.get b=h.get b)->FR h')
 (hrr:∀h n,m1<=n->FR h->RR h n 22 3 (.slice (some ⟨tb,qd,none⟩) T.length qe) T)
 (hT:∀r∈T,GoodR s r) (h3:3<=s) (ek:s<=258) (hTl:T.length<=6) {x2 x3 x4 x5 x6 x8 x9:Value} {K:Value->Value->Value->Value->Value->Value->Value->Value->Value->Value->Value->Value->Value->M Value} {Q:Value->H->Nat->Prop}:
 ∀(m i fu:Nat) (l:List Bool) (h:H) (n:Nat) (si gv:Value) (cs:List Value),T.length-i=m->m<fu->i<=T.length->m1<=n->dU h lo n w si l->(∀c,c<m1->ar si c->ar si0 c)->FR h->Own h m1 n 72 gv cs->(∀b,ar gv b->¬ar si b)->rk h n m1 si gv cs ((T.take i).map cP)->l.length+11000*m<=7000000->
 (∀h' n' jW rn cs',m1<=n'->dU h' lo n' w jW (l++((T.drop i).map cP).flatMap eZ)->(∀c,c<m1->ar jW c->ar si0 c)->FR h'->Own h' m1 n' 72 rn cs'->(∀b,ar rn b->¬ar jW b)->rk h' n' m1 jW rn cs' (T.map cP)->ah W n0 (K (.pointer (some ⟨w,0,none⟩)) x2 x3 x4 x5 x6 rn x8 x9 (.slice (some ⟨tb,qd,none⟩) T.length qe) (.int .i64 (T.length:Int)) (.int .i64 (T.length:Int)) (.bool false)) h' n' Q)->
 ah W n0 (uv lf (aq ai gt lf (d+7)) fu K (.pointer (some ⟨w,0,none⟩)) x2 x3 x4 x5 x6 gv x8 x9 (.slice (some ⟨tb,qd,none⟩) T.length qe) (.int .i64 (T.length:Int)) (.int .i64 (i:Int))) h n Q:=by
 intro m
 induction m with
 |zero=>
  intro i fu l h n si gv cs hm hf hi hn x hs hF hO ER hC hl hK
  obtain⟨fu,rfl⟩:∃f,fu=f+1:=⟨fu-1,by omega⟩
  obtain rfl:i=T.length:=by omega
  rw[uv]
  try simp(disch:=first|omega|assumption|exact aa _) only[ag,ae,RZ,c9]
  rw[nQ]at hC
  rw[xS]at hK
  exact hK h n si gv cs hn (by simpa using x) hs hF hO ER hC
 |succ m ih=>
  intro i fu l h n si gv cs hm hf hi hn x hs hF hO ER hC hl hK
  obtain⟨fu,rfl⟩:∃f,fu=f+1:=⟨fu-1,by omega⟩
  have e1:((i:Nat):Int)<((T.length:Nat):Int):=by omega
  obtain⟨b,off,cap,o,ks,hv,hg,hb,cI⟩:=(hrr h n hn hF).at (by omega)
  cases hv
  obtain⟨rv,hrv,gf⟩:=cI i (by omega)
  have jQ:T.getD i []∈T:=by rw[aC,aR (by omega)];exact ep _
  have gr:=hT _ jQ
  rw[<-gr.eq]at gf
  have wlt:=ew.lt x
  have gw:=ew.get x
  have so:=ew.own x
  have apart:∀b,ar rv b->b≠w∧¬ar si b:=fun b hb=>by
   obtain⟨B,q1,q2⟩:=gf.elem hb
   refine⟨fun e=> ?_,fun q=> ?_⟩
   ·subst e
    rw[gw]at q1;cases q1
    exact absurd (show(63:Nat)=3 from q2) (by decide)
   ·obtain⟨B',q3,q4⟩:=so.elem q
    rw[q1]at q3;cases q3
    rw[q2]at q4
    exact absurd (show(3:Nat)=5 from q4) (by decide)
  rw[uv]
  try simp(disch:=first|omega|assumption|exact aa _) only[ag,ae,RZ,e1,hg,hrv]
  refine aI aF (af9 (lf:=lf) (d:=d+1) x gf apart (by rw[gr.len];omega) (by rw[gr.len];omega) gr.lo gr.hi (by omega) aw) (by omega) (fun c hc hq=> ?_) fun v2 h2 n2 dZ dq dx=> ?_
  ·rcases hq with rfl|hq
   ·exact .inr hw
   ·by_cases vD:c<m1
    ·exact hW c (hs c vD hq)
    ·exact .inl (by omega)
  obtain⟨rfl,s2,V6,fh⟩:=dx
  have Kz:=gf.fC dZ fun b hb=>dq b (gf.lt hb) fun q=>by
   rcases q with q|q
   ·exact(apart b hb).1 q
   ·exact(apart b hb).2 q
  try simp(disch:=first|omega|assumption|exact aa _) only[ag,ae,RZ]
  refine aI aF (UB lf d n2 h2 aw rv (cP (T.getD i [])) Kz (by rw[gr.len];omega) (by rw[gr.len];omega) gr.wh gr.sh) (by omega) (fun _ _ h=>h.elim) fun v3 nB n3 fp dA gQ=> ?_
  obtain⟨c,rfl,Ec⟩:=gQ
  try simp(disch:=first|omega|assumption|exact aa _) only[ag,ae,RZ,cw,ext1]
  have xH:∀b,ar gv b->m1<=b∧b<n:=fun b hb=>hO.lt hb
  have hO3:Own nB m1 n3 72 gv cs:=hO.ax (by omega) fun b hb=>by
   have:=xH b hb
   rw[dA b (by omega) id,dq b (by omega) fun q=>by
    rcases q with q|q
    ·omega
    ·exact ER b hb q]
  have xI:cs.length<=6:=by rw[hC.1,mM,dW];omega
  refine xq trivial (Oz _) hO3 (by omega) (fun b hb=> .inl (by have:=xH b hb;omega)) _ fun h4 g4 k4=> ?_
  try simp(disch:=first|omega|assumption|exact aa _) only[ag,ae,RZ]
  have w1:((i:Nat):Int)+1=((i+1:Nat):Int):=rfl
  rw[w1]
  have V7:∀b,ar s2 b->b<n2:=fun b hb=>((ew.own V6).lt hb).2
  have dl:(eZ (cP (T.getD i []))).length<=11000:=by
   unfold eZ
   rw[aM,dP]
   have pR:=V5 (l:=cP (T.getD i [])) (by rw[gr.len];omega) gr.hi
   have:=KD (cP (T.getD i [])) _ pR gr.hi
   rw[gr.len]at this
   omega
  refine ih (i+1) fu _ h4 (n3+2) s2 _ _ (by omega) (by omega) (by omega) (by omega) (V6.ax (by omega) fun b hb hq=> ?_) (fun c hc q=>hs c hc (fh c (by omega) q)) ?_ (Own.mk' g4 (by omega) (by omega) (by simp)) (fun b hb q=> ?_) ?_ (by rw[aM];omega) ?_
  ·rw[k4 b (by omega) fun q=>by
    rcases hq with rfl|hq
    ·have:=xH _ q;omega
    ·have:=xH b q
     exact ER b q (fh b (by omega) hq),dA b (by omega) id]
  ·refine fr h h4 hF fun b hb cd om=> ?_
   rw[k4 b (by omega) (fun q=>by have:=xH b q;omega),dA b (by omega) id,dq b (by omega) fun q=>by
    rcases q with q|q
    ·exact cd q
    ·exact om (hs b hb q)]
  ·rw[hb.inj]at q
   have:=V7 _ q
   omega
  ·rw[show T.take (i+1)=T.take i++[T.getD i []] by rw[aC,aR (by omega)];exact(aip (by omega)).symm,mR]
   refine rk.push (c:=c) (clo:=n2) (chi:=n3) ?_ (by omega) (by omega) (Ec.ax fun b b1 b2=>k4 b b2 fun q=>by have:=xH b q;omega) fun b b1 b2=>⟨fun q=>by have:=V7 b q;omega,fun q=>by rw[q.inj]at b2;omega⟩
   refine hC.ax (by omega) (fun b b0 b1 b2 b3=> ?_) (fun b hb q=>fh b hb q) (fun b hb q=>by rw[q.inj]at hb;omega)
   rw[k4 b (by omega) b3,dA b (by omega) id,dq b (by omega) fun q=>by
    rcases q with q|q
    ·omega
    ·exact b2 q]
  ·intro h' n' jW rn cs' a1 a2 a3 a4 a5 a6 a7
   refine hK h' n' jW rn cs' a1 ?_ a3 a4 a5 a6 a7
   rw[mF [] (show i<T.length by omega),List.map_cons,LC,<-cE]
   exact a2
end
def gS(rows:List (List Nat))(ps:List Nat):Nat->List Nat->List Bool
 |_,[]=>[]
 |i,x::l=>mc (rows.getD (ps.getD (i/50) 0) []) x++gS rows ps (i+1) l
theorem KM(rows:List (List Nat))(ps:List Nat)(i x:Nat)(l:List Nat):gS rows ps i (x::l)=mc (rows.getD (ps.getD (i/50) 0) []) x++gS rows ps (i+1) l:=rfl
theorem Ap{l:List Nat}{i:Nat}(h:i<l.length):l.getD i 0∈l:=by
 rw[aC,aR h]
 exact ep _
section
variable {lf d lo w m1 n0 z gb gcap:Nat} {si0 xv pv tv:Value} {W:Nat->Prop} {FR:H->Prop} {rows:List (List Nat)} {ps xn:List Nat} {cs:List Value} {e gt':TypeId}
set_option maxHeartbeats 1000000 in
theorem agt (aw:3000000<=lf) (hw:W w) (VZ:w<m1) (hW:∀c,ar si0 c->n0<=c∨W c) (h0:n0<=m1)
 (fr:∀h h':H,FR h->(∀b,b<m1->b≠w->¬ar si0 b->h'.get b=h.get b)->FR h')
 (hx:∀h n,m1<=n->FR h->Row h n 3 .i64 xv (iN xn)) (hp:∀h n,m1<=n->FR h->Row h n 3 .i64 pv (iN ps))
 (hz:z<m1) (cS:∀h,FR h->h.get z=some ⟨e,true,[tv,pv]⟩) (hgb:gb<m1) (oE:∀h,FR h->h.get gb=some ⟨gt',true,cs⟩)
 (hcd:∀h,FR h->∀j,j<rows.length->∃clo chi c,cs[j]? =some (.pointer (some ⟨c,0,none⟩))∧chi<=m1∧lk h clo chi c (rows.getD j [])) (fU:cs.length=rows.length)
 (zU:∀r∈rows,Wh r) (Aq:∀p∈ps,p<rows.length) (dN:∀i,i<xn.length->i/50<ps.length) (hsy:∀x∈xn,∀r∈rows,x<r.length) (hxl:xn.length<=100000) {x3 x4 x6 x8 x9 x10 x11 x12 x13:Value}:
 ∀(m i fu:Nat) (l:List Bool) (h:H) (n:Nat) (si:Value),xn.length-i=m->m<fu->i<=xn.length->m1<=n->dU h lo n w si l->(∀c,c<m1->ar si c->ar si0 c)->FR h->l.length+20*m<=9000000->
 ah W n0 (uw lf (aq ai gt lf (d+3)) fu (CA lf (aq ai gt lf (d+3))) (.pointer (some ⟨w,0,none⟩)) xv x3 x4 (.pointer (some ⟨z,0,none⟩)) x6 (.slice (some ⟨gb,0,none⟩) rows.length gcap) x8 x9 x10 x11 x12 x13 xv (.int .i64 (xn.length:Int)) (.int .i64 (i:Int))) h n fun v' h' n'=>v'= .int .i64 0∧m1<=n'∧∃jW,dU h' lo n' w jW (l++gS rows ps i (xn.drop i))∧∀c,c<m1->ar jW c->ar si0 c:=by
 intro m
 induction m with
 |zero=>
  intro i fu l h n si hm hf hi hn x hs hF hl
  obtain⟨fu,rfl⟩:∃f,fu=f+1:=⟨fu-1,by omega⟩
  obtain rfl:i=xn.length:=by omega
  rw[uw]
  try simp(disch:=first|omega|assumption|exact aa _) only[ag,ae,RZ,c9]
  (try unfold CA);(try unfold aiV);(try dsimp only)
  try simp(disch:=first|omega|assumption|exact aa _) only[ag,ae,RZ]
  refine⟨hn,si, ?_,hs⟩
  rw[xS]
  simpa[gS]using x
 |succ m ih=>
  intro i fu l h n si hm hf hi hn x hs hF hl
  obtain⟨fu,rfl⟩:∃f,fu=f+1:=⟨fu-1,by omega⟩
  have il:=dD xn
  have pl:=dD ps
  have hq:=dN i (by omega)
  obtain⟨b1,o1,c1,w1,k1,rfl,g1,l1,_,_,_,t1⟩:=(hx h n hn hF).some (by omega)
  obtain⟨b2,o2,c2,w2,k2,rfl,g2,l2,_,_,_,t2⟩:=(hp h n hn hF).some (by omega)
  have a1:=t1 i (by omega)
  have a2:=t2 (i/50) (by omega)
  rw[pU]at a1 a2
  have pm:=Aq _ (Ap hq)
  have gz:=cS h hF
  have gg:=oE h hF
  obtain⟨clo,chi,c,ec,hci,hco⟩:=hcd h hF _ pm
  have rm:rows.getD (ps.getD (i/50) 0) []∈rows:=by rw[aC,aR pm];exact ep _
  have e1:((i:Nat):Int)<((xn.length:Nat):Int):=by omega
  have e1':((i:Nat):Int)<(((iN xn).length:Nat):Int):=by omega
  have q1:((i:Nat):Int).tdiv 50=((i/50:Nat):Int):=rfl
  have q2:((i/50:Nat):Int)<(((iN ps).length:Nat):Int):=by omega
  have q3:((ps.getD (i/50) 0:Nat):Int)<((rows.length:Nat):Int):=by omega
  have q4:IntKind.i64.wrap ((i/50:Nat):Int)=((i/50:Nat):Int):=aV (by omega) (by omega)
  have ww:((i:Nat):Int)+1=((i+1:Nat):Int):=rfl
  have hzn:z<n:=by omega
  have lV:gb<n:=by omega
  have V8:xn.getD i 0<(rows.getD (ps.getD (i/50) 0) []).length:=hsy _ (Ap (by omega)) _ rm
  have z1:([tv,jF (some ⟨b2,o2,none⟩) (iN ps).length c2]:List Value)[1]? =some (.slice (some ⟨b2,o2,none⟩) (iN ps).length c2):=rfl
  rw[uw]
  try simp(disch:=first|omega|assumption|exact aa _) only[ag,ae,RZ,e1,e1',g1,a1,gz,z1,q1,q4,q2,g2,a2,q3,gg,ec,gU]
  refine aI aF (agn (lf:=lf) (d:=d) x hco (by omega) (zU _ rm) V8 (by omega) (by omega)) (by omega) (fun c hc hq=> ?_) fun v2 h2 n2 dZ dq dx=> ?_
  ·rcases hq with rfl|hq
   ·exact .inr hw
   ·by_cases vD:c<m1
    ·exact hW c (hs c vD hq)
    ·exact .inl (by omega)
  obtain⟨rfl,s2,x2,fh⟩:=dx
  try simp(disch:=first|omega|assumption|exact aa _) only[ag,ae,RZ]
  rw[ww]
  have cl:(mc (rows.getD (ps.getD (i/50) 0) []) (xn.getD i 0)).length<=20:=by
   unfold mc
   rw[dP]
   exact((zU _ rm).at V8).2
  refine(ih (i+1) fu _ h2 n2 s2 (by omega) (by omega) (by omega) (by omega) x2 (fun c hc q=>hs c hc (fh c (by omega) q)) (fr h h2 hF fun b hb cd om=>dq b (by omega) fun q=> ?_) (by rw[aM];omega)).mono ?_
  ·rcases q with q|q
   ·exact cd q
   ·exact om (hs b hb q)
  ·rintro v' h' n' _ ⟨rfl,q1,KK,x3,oV⟩
   refine⟨rfl,q1,KK, ?_,oV⟩
   rw[mF 0 (show i<xn.length by omega),KM,<-cE]
   exact x3
end
noncomputable def rowsOf (xs:List Int) (z:Int):List (List Nat):=(eW xs z.toNat 4).map cP
noncomputable def ft (xs:List Int) (z:Int):List Nat:=kC (jV xs) (eW xs z.toNat 3)
noncomputable def gh (xs:List Int) (z:Int):List Bool:=gJ (rowsOf xs z).length (ft xs z)++((rowsOf xs z).flatMap eZ++gS (rowsOf xs z) (ft xs z) 0 (cP xs))
structure agu (xs:List Int) (z:Int):Prop where
 rl:(rowsOf xs z).length=lz (xs.length:Int)
 r2:2<=(rowsOf xs z).length
 r6:(rowsOf xs z).length<=6
 p0:0<(ft xs z).length
 pl:(ft xs z).length=fQ xs.length
 pm:∀p∈ft xs z,p<(rowsOf xs z).length
 Ar:∀r∈eW xs z.toNat 4,GoodR z.toNat r
 wh:∀r∈rowsOf xs z,Wh r
 ie:iN (cP xs)=xs
 sy:∀x∈cP xs,∀r∈rowsOf xs z,x<r.length
 at_:∀i,i<(cP xs).length->i/50<(ft xs z).length
theorem KO{xs:List Int}{z:Int}(m:jj xs z)(hl:xs.length<=1000000):agu xs z:=by
 obtain⟨h0,hz,bW,_⟩:=m
 have DT:eu (z.toNat:Int) xs=true:=by rw[mf (by omega)];exact bW
 have gd:=agr hl DT (s:=z.toNat) (by omega) (by omega) 3
 have n2:=Ko (xs.length:Int)
 have rl:(rowsOf xs z).length=lz (xs.length:Int):=by unfold rowsOf;rw[mM,Af]
 have ie:iN (cP xs)=xs:=V4 fun x hx=>(Er.1 bW x hx).1
 have ll:(cP xs).length=xs.length:=by unfold cP;rw[mM]
 have pl:(ft xs z).length=fQ xs.length:=by unfold ft;rw[Ad,Vf]
 refine⟨rl,by omega,by omega,by rw[pl];unfold fQ;omega,pl,fun p hp=> ?_,gd,fun r hr=> ?_,ie,fun x hx r hr=> ?_,fun i hi=>by rw[pl];unfold fQ;omega⟩
 ·unfold ft kC at hp
  obtain⟨g,_,rfl⟩:=List.mem_map.1 hp
  have:=Vh g (T:=eW xs z.toNat 3) (by rw[Af];omega)
  rw[Af]at this
  omega
 ·unfold rowsOf at hr
  obtain⟨q,hq,rfl⟩:=List.mem_map.1 hr
  exact(gd q hq).wh
 ·unfold rowsOf at hr
  obtain⟨q,hq,rfl⟩:=List.mem_map.1 hr
  rw[(gd q hq).len]
  unfold cP at hx
  obtain⟨y,hy,rfl⟩:=List.mem_map.1 hx
  have:=Er.1 bW y hy
  omega
theorem KP:∀{rows:List (List Nat)},(∀r∈rows,(eZ r).length<=11000)->(rows.flatMap eZ).length<=11000*rows.length
 |[],_=>by simp
 |r::rs,h=>by
  have h1:=h r (by simp)
  have h2:=KP (rows:=rs) fun q hq=>h q (by simp[hq])
  rw[LC,aM,cu]
  omega
theorem V9{ln:List Nat}(hi:∀x∈ln,x<=20)(h0:0<ln.length)(hl:ln.length<=258):(eZ ln).length<=11000:=by
 unfold eZ
 rw[aM,dP]
 have:=KD ln _ (V5 h0 hi) hi
 omega
section
variable {lf d lo n w:Nat} {h:H} {sv:Value} {l:List Bool}
theorem dU.apart(x:dU h lo n w sv l){b:Nat}{B:AB}(hb:h.get b=some B)(h1:B.elem≠63)(h2:B.elem≠5):b≠w∧¬ar sv b:=by
 refine⟨fun e=> ?_,fun q=> ?_⟩
 ·subst e
  rw[ew.get x]at hb
  cases hb
  exact h1 rfl
 ·obtain⟨B',q3,q4⟩:=(ew.own x).elem q
  rw[hb]at q3;cases q3
  exact h2 q4
set_option maxHeartbeats 400000 in
theorem agv(aw:3000000<=lf)(g:Gd h n)(x:dU h lo n w sv l)(hgw:0<lo){v:Value}{xs:List Int}(hR:Row h n 3 .i64 v xs)(hl:xs.length<=1000)(pN:l.length<=1000)(z:Int)(hd:600<=d):
 ah (fun c=>c=w∨ar sv c) n (aq ai gt lf (d+8) 11 #[.pointer (some ⟨w,0,none⟩),v,.int .i64 z]) h n fun v' h' n'=>
  (jj xs z∧v'= .int .i64 0∧∃cY,dU h' lo n' w cY (l++gh xs z)∧∀c,c<n->ar cY c->ar sv c)∨(¬jj xs z∧v'= .int .i64 1∧dU h' lo n' w sv l):=by
 rw[aD (fun _=>Po) rfl]
 refine ah.aB ?_
 unfold CC
 have bL:=hR
 obtain⟨a,c,rfl⟩:=hR.len
 have wlt:=ew.lt x
 try simp(disch:=first|omega|assumption|exact aa _) only[ag,ae,RZ]
 refine aI aF (agp (lf:=lf) (d:=d+6) aw _ xs z g bL (by omega) (by omega)) (ak _) (fun _ _ h=>h.elim) fun v1 h1 n1 bb bJ aU=> ?_
 have x1:=x.ax bb fun b hb _=>bJ b hb id
 have fJ:=bL.ax bb fun b hb=>bJ b hb id
 rcases aU with ⟨hm,cx,cy,rfl,jH,Ag⟩|⟨hm,rfl⟩
 rotate_left
 ·have z1:((1:Int) !=0)=true:=rfl
  try simp(disch:=first|omega|assumption|exact aa _) only[ag,ae,RZ,cw,ext1]
  refine qP sE _ ?_
  refine Eo (sz:=2) trivial (vs:=[.slice none 0 0,.slice none 0 0]) rfl rfl rfl (get_eq _ _ _) (by omega) (.inl (by omega)) _ fun h2 g2 k2=> ?_
  try simp(disch:=first|omega|assumption|exact aa _) only[ag,ae,RZ,z1]
  refine .inr ⟨hm,x1.ax (by omega) fun b hb _=> ?_⟩
  rw[k2 b (by omega),aA _ _ (by omega)]
 have ok:=KO hm (by omega)
 have zz:((0:Int) !=0)=false:=rfl
 have o1:one cx=true:=by obtain⟨_,_,rfl⟩:=jH.len;rfl
 have o2:one cy=true:=by obtain⟨_,_,rfl⟩:=Ag.len;rfl
 try simp(disch:=first|omega|assumption|exact aa _) only[ag,ae,RZ,cw,ext1]
 refine qP sE _ ?_
 refine Eo (sz:=2) trivial (vs:=[cx,cy]) rfl rfl (by simp[o1,o2]) (get_eq _ _ _) (by omega) (.inl (by omega)) _ fun h2 g2 k2=> ?_
 have ES:∀b,b<n1->h2.get b=h1.get b:=fun b hb=>by rw[k2 b (by omega),aA _ _ (by omega)]
 have x2:=x1.ax (fg n1) fun b hb _=>ES b hb
 have kZ:=fJ.ax (fg n1) ES
 have cA:=jH.ax (fg n1) ES
 have kP:=Ag.ax (fg n1) ES
 have tl:(eW xs z.toNat 4).length=(rowsOf xs z).length:=by unfold rowsOf;rw[mM]
 have KQ:Row h2 (n1+1) 3 .i64 cy (iN (ft xs z)):=kP
 have r2:=ok.r2
 obtain⟨tb,qd,qe,to,Ni,rfl,tg,_,_⟩:=cA.at (by omega)
 have pV:n1<n1+1:=by omega
 try simp(disch:=first|omega|assumption|exact aa _) only[ag,ae,RZ,zz,g2]
 rw[tl]
 refine aI aF (agk (lf:=lf) (d:=d+2) x2 KQ (fun b hb=>by
  obtain⟨B,q1,q2⟩:=KQ.elem hb
  exact x2.apart q1 (by rw[q2];decide) (by rw[q2];decide)) ok.r2 ok.r6 ok.p0 (by rw[ok.pl];unfold fQ;omega) ok.pm (by omega) aw) (by omega) (fun b hb hq=> ?_) fun v3 h3 n3 fp dA gQ=> ?_
 ·rcases hq with rfl|hq
  ·exact .inr (.inl rfl)
  ·exact .inr (.inr hq)
 obtain⟨rfl,s3,x3,oV⟩:=gQ
 have EL:∀b,ar sv b->b<n:=fun b hb=>((ew.own x).lt hb).2
 have g3:h3.get n1=some ⟨67,true,[.slice (some ⟨tb,qd,none⟩) (rowsOf xs z).length qe,cy]⟩:=by
  rw[dA n1 pV fun q=>by
   rcases q with q|q
   ·omega
   ·have:=EL n1 q;omega,g2,tl]
 have pC:RR h3 n3 22 3 (.slice (some ⟨tb,qd,none⟩) (eW xs z.toNat 4).length qe) (eW xs z.toNat 4):=cA.sS fp fun b B hb hB he=>dA b hb fun q=>by
  obtain⟨q1,q2⟩:=x2.apart hB (by rcases he with he|he<;>(rw[he];decide)) (by rcases he with he|he<;>(rw[he];decide))
  rcases q with q|q
  ·exact q1 q
  ·exact q2 q
 have V':∀{v:Value} {ys:List Int},Row h2 (n1+1) 3 .i64 v ys->Row h3 n3 3 .i64 v ys:=fun r=>r.fC fp fun b hb=>dA b (r.lt hb) fun q=>by
  obtain⟨B,e1,e2⟩:=r.elem hb
  obtain⟨q1,q2⟩:=x2.apart e1 (by rw[e2];decide) (by rw[e2];decide)
  rcases q with q|q
  ·exact q1 q
  ·exact q2 q
 have An:=V' kZ
 have hy3:=V' KQ
 have Wa:¬ar s3 n1:=fun q=>by have:=EL _ (oV n1 pV q);omega
 have Wc:n1<n3:=by omega
 have p6:(gJ (rowsOf xs z).length (ft xs z)).length<=300000:=by
  rw[V0]
  have:=KJ (l:=dJ en (ft xs z)) (EM _ _ Am fun p hp=>by have:=ok.pm p hp;have:=ok.r6;omega)
  rw[Al,ok.pl]at this
  unfold fQ at this
  omega
 try simp(disch:=first|omega|assumption|exact aa _) only[ag,ae,RZ,g3]
 rw[<-tl]
 refine ags (lf:=lf) (d:=d) (lo:=lo) (w:=w) (m1:=n3) (n0:=n) (si0:=s3) (W:=fun c=>c=w∨ar sv c) (FR:=fun h'=>∀b,b<n3->b≠w->¬ar s3 b->h'.get b=h3.get b) (T:=eW xs z.toNat 4) (s:=z.toNat) aw (.inl rfl) (by omega) (fun c hc=> ?_) (by omega) (fun h h' hF hk b hb cd om=>(hk b hb cd om).trans (hF b hb cd om)) (fun h' n' l9 hF=>pC.sS l9 fun b B hb hB he=> ?_) ok.Ar (by have:=hm.2.1;omega) (by have:=hm.2.1;omega) (by rw[tl];exact ok.r6) (eW xs z.toNat 4).length 0 lf _ h3 n3 s3 _ [] (by omega) (by have:=ok.r6;omega) (by omega) (ak _) x3 (fun c _ q=>q) (fun b _ _ _=>rfl) (Own.nil _ _ _ _) (fun b hb=>hb.not_nil.elim) ⟨rfl,fun j hj=>absurd hj (by simp)⟩ ?_ ?_
 ·by_cases lx:c<n
  ·exact .inr (.inr (oV c (by omega) hc))
  ·exact .inl (by omega)
 ·obtain⟨q1,q2⟩:=x3.apart hB (by rcases he with he|he<;>(rw[he];decide)) (by rcases he with he|he<;>(rw[he];decide))
  exact hF b hb q1 q2
 ·rw[aM]
  have:=ok.r6
  omega
 intro h4 n4 s4 g4 KR a1 a2 a3 a4 a5 a6 a7
 have ll:(cP xs).length=xs.length:=by unfold cP;rw[mM]
 (try unfold CB);(try dsimp only)
 try simp(disch:=first|omega|assumption|exact aa _) only[ag,ae,RZ]
 have xI:KR.length=(rowsOf xs z).length:=a7.1
 rcases a5 with ⟨_,e0⟩|⟨gb,rfl,gg,gb1,Wd⟩
 ·rw[e0]at xI
  simp at xI
  omega
 have We:∀h' n',n4<=n'->(∀b,b<n4->b≠w->¬ar s4 b->h'.get b=h4.get b)->∀{v:Value} {ys:List Int},Row h3 n3 3 .i64 v ys->Row h' n' 3 .i64 v ys:=fun h' n' l9 hF v ys r=>r.fC (by omega) fun b hb=>by
  obtain⟨B,e1,e2⟩:=r.elem hb
  obtain⟨q1,q2⟩:=x3.apart e1 (by rw[e2];decide) (by rw[e2];decide)
  have lb:=r.lt hb
  rw[hF b (by omega) q1 fun q=>q2 (a3 b lb q),a4 b lb q1 q2]
 have wb:=agt (lf:=lf) (d:=d+4) (lo:=lo) (w:=w) (m1:=n4) (n0:=n) (z:=n1) (gb:=gb) (gcap:=ba+KR.length) (si0:=s4) (xv:= .slice a xs.length c) (pv:=cy) (tv:= .slice (some ⟨tb,qd,none⟩) (rowsOf xs z).length qe) (W:=fun c=>c=w∨ar sv c) (FR:=fun h'=>∀b,b<n4->b≠w->¬ar s4 b->h'.get b=h4.get b) (rows:=rowsOf xs z) (ps:=ft xs z) (xn:=cP xs) (cs:=KR) (e:=67) (gt':=72) aw (.inl rfl) (by omega) (fun c hc=>by
  by_cases lx:c<n
  ·exact .inr (.inr (oV c (by omega) (a3 c (by omega) hc)))
  ·exact .inl (by omega)) (by omega) (fun h h' hF hk b hb cd om=>(hk b hb cd om).trans (hF b hb cd om)) (fun h' n' l9 hF=>by rw[ok.ie];exact We h' n' l9 hF An) (fun h' n' l9 hF=>We h' n' l9 hF hy3) (by omega) (fun h' hF=>by rw[hF n1 (by omega) (by omega) (fun q=>Wa (a3 n1 Wc q)),a4 n1 Wc (by omega) Wa];exact g3) Wd (fun h' hF=>by rw[hF gb Wd (by omega) (a6 gb ⟨_,_,_,rfl⟩)];exact gg) (fun h' hF j hj=>by
  obtain⟨clo,chi,c,e1,e2,e3,e4,e5⟩:=a7.2 j hj
  exact⟨clo,chi,c,e1,e3,e4.ax fun b b1 b2=>hF b (by omega) (by omega) (e5 b b1 b2).1⟩) xI ok.wh ok.pm ok.at_ ok.sy (by rw[ll];omega) (x3:= .int .i64 z) (x4:=ii 0) (x6:= .int .i64 0) (x8:= .bool false) (x9:= .bool false) (x10:= .slice (some ⟨tb,qd,none⟩) (eW xs z.toNat 4).length qe) (x11:= .int .i64 ((eW xs z.toNat 4).length:Int)) (x12:= .int .i64 ((eW xs z.toNat 4).length:Int)) (x13:= .bool false) (cP xs).length 0 lf _ h4 n4 s4 (by omega) (by omega) (by omega) (ak _) a2 (fun c _ q=>q) (fun b _ _ _=>rfl) ?_
 ·rw[ll,show d+4+3=d+7 from rfl,show((0:Nat):Int)=0 from rfl]at wb
  rw[<-xI]at wb
  refine wb.mono ?_
  rintro v' h' n' _ ⟨rfl,q1,s5,x5,EP⟩
  refine .inl ⟨hm,rfl,s5, ?_,fun c hc q=>oV c (by omega) (a3 c (by omega) (EP c (by omega) q))⟩
  rw[gT,gT,cE,cE,xI]at x5
  exact x5
 ·have fl:=KP (rows:=((eW xs z.toNat 4).drop 0).map cP) fun r hr=>by
   rw[gT]at hr
   obtain⟨q,hq,rfl⟩:=List.mem_map.1 hr
   have gr:=ok.Ar q hq
   exact V9 gr.hi (by rw[gr.len];have:=hm.2.1;omega) (by rw[gr.len];have:=hm.2.1;omega)
  rw[mM,gT,tl]at fl
  have:=ok.r6
  rw[aM,aM,gT,ll]
  omega
end
end Go.Proofs.YtdagfcflbphoiaaGreatDoor
namespace Go.Proofs.YtdagfcflbphoiaaGreatDoor
open Go.RowKit Ev Tb
section
variable (lf d n:Nat) (h:H) (aw:3000000<=lf)
include aw
end
end Go.Proofs.YtdagfcflbphoiaaGreatDoor
namespace Go.Proofs.YtdagfcflbphoiaaGreatDoor
open Go.RowKit Ev Tb Cn
section
variable {lf d n:Nat} {tb qd qe:Nat} {T:List (List Int)} {s:Nat}
end
section
variable {xs:List Int} {z:Int} (m:jj xs z) (hl:xs.length<=1000)
include m hl
end
theorem Wf{rows:List (List Nat)}{ps:List Nat}(h:∀r∈rows,∀y∈r,y<=20):∀(l:List Nat) (i:Nat),(gS rows ps i l).length<=20*l.length
 |[],_=>by simp[gS]
 |x::l,i=>by
  have ih:=Wf h l (i+1) (ps:=ps)
  have b:(rows.getD (ps.getD (i/50) 0) []).getD x 0<=20:=by
   by_cases hp:ps.getD (i/50) 0<rows.length
   ·by_cases hx:x<(rows.getD (ps.getD (i/50) 0) []).length
    ·refine h (rows.getD (ps.getD (i/50) 0) []) ?_ _ (Ap hx)
     rw[aC (l:=rows),aR hp]
     exact ep _
    ·rw[aC,vG (by omega)]
     exact cb _
   ·rw[show rows.getD (ps.getD (i/50) 0) []=[] by rw[aC,vG (by omega)];rfl]
    exact cb _
  rw[KM,aM,cu]
  unfold mc
  rw[dP]
  omega
section
variable {lf d n:Nat} {h:H}
end
end Go.Proofs.YtdagfcflbphoiaaGreatDoor
namespace Go.Proofs.YtdagfcflbphoiaaGreatDoor
open Go.RowKit Ev Cn
def ey:Nat->Nat->Nat->List Nat->List Bool->Nat->St (List Nat)
 |0,_,_,_,_,_=> .short
 |N+1,size,now,lens,bs,a=>if lens.length=size then .ok lens a else match eh now lens bs with
  | .short=> .short
  | .bad e=> .bad e
  | .ok (m,l) u=>ey N size m l (bs.drop u) (a+u)
section
variable {lf d n:Nat} {h:H}
end
section
variable {lf d n:Nat} {h:H}
end
section
variable {lf d n:Nat} {h:H}
end
section
variable {lf d n:Nat} {h:H}
end
theorem ET{size:Nat}:∀(N now:Nat) (lens:List Nat) (bs:List Bool) (a:Nat) (ln:List Nat) (a':Nat),xC size now lens->ey N size now lens bs a= .ok ln a'->ln.length=size∧(∀x∈ln,1<=x∧x<=20)∧a<=a'∧a'<=a+bs.length
 |0,_,_,_,_,_,_,_,h=>by simp[ey]at h
 |N+1,now,lens,bs,a,ln,a',k,h=>by
  unfold ey at h
  split at h
  ·next e=>
   simp only[St.ok.injEq]at h
   obtain⟨rfl,rfl⟩:=h
   exact⟨e,k.all,ak _,WS _ _⟩
  ·next e=>
   split at h
   ·cases h
   ·cases h
   ·next m l u h1=>
    have k2:=Eh k (Nat.lt_of_le_of_ne k.len e) h1
    have us:=Ej h1
    have:=ET N m l (bs.drop u) (a+u) ln a' k2 h
    rw[eP]at this
    exact⟨this.1,this.2.1,by omega,by omega⟩
def jk:Nat->Nat->List Bool->Nat->List (List Nat)->St (List (List Nat))
 |0,_,_,a,acc=> .ok acc a
 |t+1,size,bs,a,acc=>match ey (bs.length+1) size 0 [] bs 0 with
  | .short=> .short
  | .bad e=> .bad e
  | .ok ln u=>if dS (iN ln)=1048576 then jk t size (bs.drop u) (a+u) (acc++[ln])else .bad 22
section
variable {lf d n:Nat} {h:H}
end
end Go.Proofs.YtdagfcflbphoiaaGreatDoor
namespace Go.Proofs.YtdagfcflbphoiaaGreatDoor
open Go.RowKit Ev Tb Cn
section
variable {lf d:Nat} {tb qd qe:Nat} {T:List (List Int)} {s:Nat}
end
section
variable {lf d n z lo:Nat} {h:H} {xv pv tv gv:Value} {rows:List (List Nat)} {ps xn:List Nat} {e:TypeId}
end
section
variable {lf d n:Nat} {h:H}
end
end Go.Proofs.YtdagfcflbphoiaaGreatDoor
namespace Go.Proofs.YtdagfcflbphoiaaGreatDoor
open Go.RowKit Ev Cn
section
variable {lf d n:Nat} {h:H}
end
def lA:Nat->List (List Nat)->List Nat->Nat->List Bool->Int->List Int->Nat->Rs
 |0,_,_,_,_,_,_,_=> .err 3
 |N+1,bG,bH,size,bs,most,out,a=>if bH.length<=out.length/50 then .err 25 else
  match l7 (bG.getD (bH.getD (out.length/50) 0) []) bs with
  |none=> .err 3
  |some s=>if(out.length:Int)=most then .err 2 else
   if s+1=size then .ok (out++[(s:Int)]) (a+(bG.getD (bH.getD (out.length/50) 0) []).getD s 0)
   else lA N bG bH size (bs.drop ((bG.getD (bH.getD (out.length/50) 0) []).getD s 0)) most (out++[(s:Int)]) (a+(bG.getD (bH.getD (out.length/50) 0) []).getD s 0)
def EU(size:Nat)(bs:List Bool)(most:Int):Rs:=
 match gE (bs.length+1) rb bs 0 with
 | .short=> .err 3
 | .bad e=> .err e
 | .ok s a=>match jk s.t size (bs.drop a) 0 []with
   | .short=> .err 3
   | .bad e=> .err e
   | .ok gn u=>lA (bs.length+1) gn s.bX size (bs.drop (a+u)) most [] (a+u)
section
variable {β:Type} {W:Nat->Prop} {n0:Nat} {h:H} {n m:Nat} {Q:β->H->Nat->Prop}
end
section
variable {lf d n:Nat} {h:H}
theorem Wg{size:Nat}:∀(t:Nat) (bs:List Bool) (a:Nat) (acc gn:List (List Nat)) (a':Nat),(∀ln∈acc,Wh ln∧ln.length=size)->jk t size bs a acc= .ok gn a'->(∀ln∈gn,Wh ln∧ln.length=size)∧gn.length=acc.length+t∧a<=a'∧a'<=a+bs.length
 |0,bs,a,acc,gn,a',k,h=>by
  simp only[jk,St.ok.injEq]at h
  obtain⟨rfl,rfl⟩:=h
  exact⟨k,rfl,ak _,WS _ _⟩
 |t+1,bs,a,acc,gn,a',k,h=>by
  unfold jk at h
  split at h
  ·cases h
  ·cases h
  ·next ln u h1=>
   have ok:=ET _ _ _ _ _ _ _ ⟨cb _,cb _,fun x hx=>absurd hx (by simp)⟩ h1
   split at h
   ·next hs=>
    have:=Wg t (bs.drop u) (a+u) (acc++[ln]) gn a' (fun l hl=>by
     rcases List.mem_append.1 hl with hl|hl
     ·exact k l hl
     ·simp only[xU]at hl
      subst hl
      exact⟨xx ok.2.1 hs,ok.1⟩) h
    rw[aM,eP]at this
    simp only[cu,iz]at this
    exact⟨this.1,by omega,by omega,by omega⟩
   ·cases h
theorem KS:∀(N:Nat) (s:Pk) (bs:List Bool) (a:Nat) (s':Pk) (a':Nat),s.Ok->s.t<=6->s.ord.length=6->s.count<32768->gE N s bs a= .ok s' a'->s'.Ok∧s'.t<=6∧s'.fin=true∧s'.count<32768∧a<=a'∧a'<=a+bs.length
 |0,s,bs,a,s',a',_,_,_,_,h=>by simp[gE]at h
 |N+1,s,bs,a,s',a',ok,h6,ho,hc,h=>by
  unfold gE at h
  split at h
  ·next hf=>
   simp only[St.ok.injEq]at h
   obtain⟨rfl,rfl⟩:=h
   exact⟨ok,h6,hf,hc,ak _,WS _ _⟩
  ·next hf=>
   have hf:s.fin=false:=by simpa using hf
   split at h
   ·cases h
   ·cases h
   ·next s1 u h1=>
    obtain⟨k1,k2,k3⟩:=U6 ok h6 ho hf h1
    have kk:s1.t<=6∧s1.ord.length=6∧s1.count<32768:=by
     unfold eU at h1
     split at h1
     ·split at h1
      ·cases h1
      ·split at h1
       ·next KU=>
        simp only[St.ok.injEq]at h1
        obtain⟨rfl,_⟩:=h1
        exact⟨KU.1.2,ho,E7 _ (by decide)⟩
       ·cases h1
     ·split at h1
      ·cases h1
      ·cases h1
      ·next o u2 h5=>
       simp only[St.ok.injEq]at h1
       obtain⟨rfl,_⟩:=h1
       have:=(zV h5).2
       exact⟨h6,xB (dv:=0) ho (by omega),hc⟩
    have:=KS N s1 (bs.drop u) (a+u) s' a' k1 kk.1 kk.2.1 kk.2.2 h
    rw[eP]at this
    obtain⟨q1,q2,q3,q4,q5,q6⟩:=this
    exact⟨q1,q2,q3,q4,by omega,by omega⟩
theorem agw:rb.Ok:=⟨fun _=>⟨rfl,rfl⟩,fun j hj=>absurd hj (rB j),fun x hx=>absurd hx (by simp[rb]),fun e=>absurd rfl e,fun e=>absurd rfl e⟩
end
section
variable {lf d n:Nat} {h:H}
end
def St.add{α:Type}(a:Nat):St α->St α
 | .short=> .short
 | .bad e=> .bad e
 | .ok x u=> .ok x (a+u)
theorem Wi{size:Nat}:∀(N now:Nat) (lens:List Nat) (bs:List Bool) (a b:Nat),ey N size now lens bs (a+b)=(ey N size now lens bs b).add a
 |0,_,_,_,_,_=>rfl
 |N+1,now,lens,bs,a,b=>by
  unfold ey
  by_cases h:lens.length=size
  ·rw[if_pos h,if_pos h];rfl
  ·rw[if_neg h,if_neg h]
   cases eh now lens bs with
   |short=>rfl
   |bad e=>rfl
   |ok x u=>
    obtain⟨m,l⟩:=x
    show ey N size m l (bs.drop u) (a+b+u)=(ey N size m l (bs.drop u) (b+u)).add a
    rw[<-Wi,E1]
theorem Wj{size:Nat}:∀(t:Nat) (bs:List Bool) (a b:Nat) (acc:List (List Nat)),jk t size bs (a+b) acc=(jk t size bs b acc).add a
 |0,_,_,_,_=>rfl
 |t+1,bs,a,b,acc=>by
  unfold jk
  cases ey (bs.length+1) size 0 [] bs 0 with
  |short=>rfl
  |bad e=>rfl
  |ok ln u=>
   by_cases h:dS (iN ln)=1048576
   ·simp only[if_pos h]
    rw[<-Wj t (bs.drop u) a (b+u),E1]
   ·simp only[if_neg h]
    rfl
theorem Wk{size:Nat}:∀(N M now:Nat) (lens:List Nat) (bs:List Bool) (a:Nat),bs.length<N->bs.length<M->ey N size now lens bs a=ey M size now lens bs a
 |0,_,_,_,_,_,h,_=>by omega
 |_+1,0,_,_,_,_,_,h=>by omega
 |N+1,M+1,now,lens,bs,a,h1,h2=>by
  unfold ey
  by_cases h:lens.length=size
  ·rw[if_pos h,if_pos h]
  ·rw[if_neg h,if_neg h]
   cases e:eh now lens bs with
   |short=>rfl
   |bad e=>rfl
   |ok x u=>
    obtain⟨m,l⟩:=x
    have:=Ej e
    exact Wk N M m l (bs.drop u) (a+u) (by rw[eP];omega) (by rw[eP];omega)
theorem As:∀(N M:Nat) (c:Cd) (bs:List Bool) (most:Int) (out:List Int) (a:Nat),(c.done=false->ky c)->bs.length<N->bs.length<M->eo N c bs most out a=eo M c bs most out a
 |0,_,_,_,_,_,_,_,h,_=>by omega
 |_+1,0,_,_,_,_,_,_,_,h=>by omega
 |N+1,M+1,c,bs,most,out,a,k,h1,h2=>by
  unfold eo
  by_cases hd:c.done=true
  ·rw[if_pos hd,if_pos hd]
  ·rw[if_neg hd,if_neg hd]
   have ng:c.done=false:=by simpa using hd
   cases e:jT c bs with
   |short=>rfl
   |bad e=>rfl
   |ok x u=>
    obtain⟨sym,c'⟩:=x
    obtain⟨k1,_,k3,k4⟩:=Ka (k ng) e
    have l1:(bs.drop u).length<N:=by rw[eP];omega
    have l2:(bs.drop u).length<M:=by rw[eP];omega
    show(if sym=-1 then _ else if(out.length:Int)=most then _ else _)=(if sym=-1 then _ else if(out.length:Int)=most then _ else _)
    rw[As N M c' (bs.drop u) most out (a+u) k1 l1 l2,As N M c' (bs.drop u) most (out++[sym]) (a+u) k1 l1 l2]
theorem Wl{gn:List (List Nat)}{bH:List Nat}{size:Nat}(most:Int):∀(N:Nat) (c:Cd) (bs:List Bool) (out:List Int) (a:Nat),ky c->c.pk.fin=true->¬c.bG.length<c.pk.t->c.bG=gn->c.bH=bH->c.size=size->c.count=out.length->bs.length<N->
 eo N c bs most out a=lA N gn bH size bs most out a
 |0,_,_,_,_,_,_,_,_,_,_,_,h=>by omega
 |N+1,c,bs,out,a,k,hf,ht,e1,e2,e3,e4,hN=>by
  subst e1;subst e2;subst e3
  unfold eo lA
  rw[if_neg (by rw[k.dn];decide)]
  have sc:jT c bs=match ra c bs with
   | .short=> .short
   | .bad e=> .bad e
   | .ok (s,c') u=> .ok ((s:Int),c') u:=by
   unfold jT
   rw[if_neg (by rw[hf];decide),if_neg ht]
   cases ra c bs with
   |short=>rfl
   |bad e=>rfl
   |ok x u=>rfl
  rw[sc]
  unfold ra
  rw[e4]
  by_cases hb:c.bH.length<=out.length/50
  ·rw[if_pos hb,if_pos hb]
  ·rw[if_neg hb,if_neg hb]
   cases hg:l7 (c.bG.getD (c.bH.getD (out.length/50) 0) []) bs with
   |none=>rfl
   |some s=>
    obtain⟨ln,kY⟩:∃l,c.bG.getD (c.bH.getD (out.length/50) 0) []=l:=⟨_,rfl⟩
    rw[kY]at hg⊢
    obtain⟨m1,m2,m3⟩:=JK hg
    have bf:c.bH.getD (out.length/50) 0<c.bG.length:=by
     refine J' k hf ht _ ?_
     rw[aC,aR (by omega)]
     exact ep _
    have jQ:ln∈c.bG:=by
     rw[<-kY,aC,aR bf]
     exact ep _
    have h1u:=((k.wh ln jQ).1.at m1).1
    obtain⟨u,KV⟩:∃u,ln.getD s 0=u:=⟨_,rfl⟩
    rw[KV]at m2 h1u
    show(if(s:Int)=-1 then _ else if(out.length:Int)=most then Rs.err 2 else _)=if(out.length:Int)=most then _ else _
    rw[if_neg (by omega)]
    by_cases hm:(out.length:Int)=most
    ·rw[if_pos hm,if_pos hm]
    ·rw[if_neg hm,if_neg hm]
     by_cases hs:s+1=c.size
     ·rw[if_pos hs,KV]
      obtain⟨N,rfl⟩:∃M,N=M+1:=⟨N-1,by omega⟩
      unfold eo
      rw[if_pos (decide_eq_true hs)]
     ·rw[if_neg hs,KV]
      exact Wl most N _ (bs.drop u) (out++[(s:Int)]) (a+u) ⟨k.pk,k.fq,k.ol,k.nt,k.tk,k.cl,k.ln,k.ll,k.wh,k.lo,k.hi,k.wr,decide_eq_false hs⟩ hf ht rfl rfl rfl (by rw[aM];rfl) (by rw[eP];omega)
theorem Wm(most:Int):∀(N:Nat) (c:Cd) (bs:List Bool) (a:Nat),ky c->c.pk.fin=true->c.bG.length<c.pk.t->bs.length<N->
 eo N c bs most [] a=match ey N c.size c.now c.lens bs a with
  | .short=> .err 3
  | .bad e=> .err e
  | .ok ln u=>if dS (iN ln)=1048576 then eo N {c with now:=0,lens:=[],bG:=c.bG++[ln]} (bs.drop (u-a)) most [] u else .err 22
 |0,_,_,_,_,_,_,h=>by omega
 |N+1,c,bs,a,k,hf,ht,hN=>by
  have hlen:¬c.lens.length=c.size:=by have:=k.ll;omega
  have sc:jT c bs=match stepT c bs with
   | .short=> .short
   | .bad e=> .bad e
   | .ok c' u=> .ok (-1,c') u:=by
   unfold jT
   rw[if_neg (by rw[hf];decide),if_pos ht]
   cases stepT c bs with
   |short=>rfl
   |bad e=>rfl
   |ok x u=>rfl
  have lhs:eo (N+1) c bs most [] a=match stepT c bs with
   | .short=> .err 3
   | .bad e=> .err e
   | .ok c' u=>eo N c' (bs.drop u) most [] (a+u):=by
   show(if c.done=true then _ else _)=_
   rw[if_neg (by rw[k.dn];decide),sc]
   cases stepT c bs with
   |short=>rfl
   |bad e=>rfl
   |ok x u=>rfl
  rw[lhs]
  have rhs:ey (N+1) c.size c.now c.lens bs a=match eh c.now c.lens bs with
   | .short=> .short
   | .bad e=> .bad e
   | .ok (m,l) u=>ey N c.size m l (bs.drop u) (a+u):=by
   show(if c.lens.length=c.size then _ else _)=_
   refine(if_neg hlen).trans ?_
   cases eh c.now c.lens bs with
   |short=>rfl
   |bad e=>rfl
   |ok x u=>rfl
  rw[rhs]
  have tk:=fun c' u=>U7 (c':=c') (u:=u) (bs:=bs) k ht hf
  unfold stepT at tk⊢
  cases e:eh c.now c.lens bs with
  |short=>rfl
  |bad e=>rfl
  |ok x u=>
   obtain⟨m,l⟩:=x
   have us:=Ej e
   rw[e]at tk
   have l1:(bs.drop u).length<N:=by rw[eP];omega
   obtain⟨M,rfl⟩:∃M,N=M+1:=⟨N-1,by omega⟩
   show(match (if l.length=c.size then _ else _:St Cd)with
    | .short=>Rs.err 3
    | .bad e=> .err e
    | .ok c' u=>eo (M+1) c' (bs.drop u) most [] (a+u))=match ey (M+1) c.size m l (bs.drop u) (a+u)with
    | .short=> .err 3
    | .bad e=> .err e
    | .ok ln u=>if dS (iN ln)=1048576 then eo (M+1+1) {c with now:=0,lens:=[],bG:=c.bG++[ln]} (bs.drop (u-a)) most [] u else .err 22
   by_cases hl:l.length=c.size
   ·simp only[if_pos hl]at tk⊢
    have r2:ey (M+1) c.size m l (bs.drop u) (a+u)= .ok l (a+u):=by
     show(if l.length=c.size then _ else _)=_
     rw[if_pos hl]
    rw[r2]
    by_cases hs:dS (iN l)=1048576
    ·simp only[if_pos hs]at tk⊢
     rw[show a+u-a=u by omega]
     exact As _ _ _ _ _ _ _ (fun _=>(tk _ _ rfl).1) l1 (by omega)
    ·simp only[if_neg hs]
   ·simp only[if_neg hl]at tk⊢
    have k2:=(tk _ _ rfl).1
    rw[Wm most (M+1) _ (bs.drop u) (a+u) k2 hf ht l1]
    cases e2:ey (M+1) c.size m l (bs.drop u) (a+u)with
    |short=>rfl
    |bad e=>rfl
    |ok ln u2=>
     have ok:=Eh k.ln k.ll e
     have Wn:=ET _ _ _ _ _ _ _ ok e2
     show(if dS (iN ln)=1048576 then _ else _)=(if dS (iN ln)=1048576 then _ else _)
     by_cases hs:dS (iN ln)=1048576
     ·rw[if_pos hs,if_pos hs,AN,show u+(u2-(a+u))=u2-a by omega]
      refine As _ _ _ _ _ _ _ (fun _=> ?_) (by rw[eP];omega) (by rw[eP];omega)
      refine⟨k.pk,k.fq,k.ol,fun e=>absurd hf (by rw[show c.pk.fin=false from e];decide),k.tk,by simp;omega,⟨cb _,cb _,fun x hx=>absurd hx (by simp)⟩,by have:=k.lo;show 0<c.size;omega,fun w hw=> ?_,k.lo,k.hi,k.wr,k.dn⟩
      rcases List.mem_append.1 hw with hw|hw
      ·exact k.wh w hw
      ·simp only[xU]at hw
       subst hw
       exact⟨xx Wn.2.1 hs,Wn.1⟩
     ·rw[if_neg hs,if_neg hs]
def Rs.add(a:Nat):Rs->Rs
 | .err e=> .err e
 | .ok o u=> .ok o (a+u)
theorem Wo(most:Int):∀(t N:Nat) (c:Cd) (bs:List Bool) (a:Nat),ky c->c.pk.fin=true->c.bG.length+t=c.pk.t->c.now=0->c.lens=[]->c.count=0->bs.length<N->
 eo N c bs most [] a=match jk t c.size bs a c.bG with
  | .short=> .err 3
  | .bad e=> .err e
  | .ok gn u=>lA N gn c.bH c.size (bs.drop (u-a)) most [] u
 |0,N,c,bs,a,k,hf,ht,hn,hl,hc,hN=>by
  show _=lA N c.bG c.bH c.size (bs.drop (a-a)) most [] a
  rw[nT,gT]
  exact Wl most N c bs [] a k hf (by omega) rfl rfl rfl hc hN
 |t+1,N,c,bs,a,k,hf,ht,hn,hl,hc,hN=>by
  rw[Wm most N c bs a k hf (by omega) hN,hn,hl,Wk N (bs.length+1) 0 [] bs a hN (by omega)]
  have:=show ey (bs.length+1) c.size 0 [] bs a=_ from Wi (size:=c.size) (bs.length+1) 0 [] bs a 0
  rw[this,show jk (t+1) c.size bs a c.bG=_ from by rw[jk]]
  cases e:ey (bs.length+1) c.size 0 [] bs 0 with
  |short=>rfl
  |bad e=>rfl
  |ok ln u=>
   have ok:=ET _ _ _ _ _ _ _ ⟨cb _,cb _,fun x hx=>absurd hx (by simp)⟩ e
   show(if dS (iN ln)=1048576 then _ else _)=match (if dS (iN ln)=1048576 then _ else _:St (List (List Nat)))with
    | .short=>Rs.err 3
    | .bad e=> .err e
    | .ok gn u=>lA N gn c.bH c.size (bs.drop (u-a)) most [] u
   by_cases hs:dS (iN ln)=1048576
   ·simp only[if_pos hs]
    have k2:ky {c with now:=0,lens:=[],bG:=c.bG++[ln]}:=by
     refine⟨k.pk,k.fq,k.ol,fun e=>absurd hf (by rw[show c.pk.fin=false from e];decide),k.tk,by simp;omega,⟨cb _,cb _,fun x hx=>absurd hx (by simp)⟩,by have:=k.lo;show 0<c.size;omega,fun w hw=> ?_,k.lo,k.hi,k.wr,k.dn⟩
     rcases List.mem_append.1 hw with hw|hw
     ·exact k.wh w hw
     ·simp only[xU]at hw
      subst hw
      exact⟨xx ok.2.1 hs,ok.1⟩
    have ih:=Wo most t N {c with now:=0,lens:=[],bG:=c.bG++[ln]} (bs.drop u) (a+u) k2 hf (by rw[aM];simp only[cu,iz];omega) rfl rfl hc (by rw[eP];omega)
    rw[show a+u-a=u by omega,ih]
    cases e2:jk t c.size (bs.drop u) (a+u) (c.bG++[ln])with
    |short=>rfl
    |bad e=>rfl
    |ok gn u2=>
     have:=Wg _ _ _ _ _ _ (fun w hw=>k2.wh w hw) e2
     show lA N gn c.bH c.size ((bs.drop u).drop (u2-(a+u))) most [] u2=lA N gn c.bH c.size (bs.drop (u2-a)) most [] u2
     rw[AN,show u+(u2-(a+u))=u2-a by omega]
   ·simp only[if_neg hs]
theorem EV{s s1:Pk}{bs:List Bool}{u:Nat}(h6:s.t<=6)(ho:s.ord.length=6)(hc:s.count<32768)(h1:eU s bs= .ok s1 u):s1.t<=6∧s1.ord.length=6∧s1.count<32768:=by
 unfold eU at h1
 split at h1
 ·split at h1
  ·cases h1
  ·split at h1
   ·next KU=>
    simp only[St.ok.injEq]at h1
    obtain⟨rfl,_⟩:=h1
    exact⟨KU.1.2,ho,E7 _ (by decide)⟩
   ·cases h1
 ·split at h1
  ·cases h1
  ·cases h1
  ·next o u2 h5=>
   simp only[St.ok.injEq]at h1
   obtain⟨rfl,_⟩:=h1
   have:=(zV h5).2
   exact⟨h6,xB (dv:=0) ho (by omega),hc⟩
theorem KW:∀(N:Nat) (s:Pk) (bs:List Bool) (a:Nat) (s':Pk) (a':Nat),s.t<=6->s.ord.length=6->s.count<32768->gE N s bs a= .ok s' a'->s'.ord.length=6
 |0,s,bs,a,s',a',_,_,_,h=>by simp[gE]at h
 |N+1,s,bs,a,s',a',h6,ho,hc,h=>by
  unfold gE at h
  split at h
  ·simp only[St.ok.injEq]at h
   obtain⟨rfl,rfl⟩:=h
   exact ho
  ·split at h
   ·cases h
   ·cases h
   ·next s1 u h1=>
    obtain⟨k1,k2,k3⟩:=EV h6 ho hc h1
    exact KW N s1 (bs.drop u) (a+u) s' a' k1 k2 k3 h
theorem Wp(most:Int):∀(N:Nat) (c:Cd) (bs:List Bool) (a:Nat),ky c->c.pk.count<32768->bs.length<N->
 eo N c bs most [] a=match gE N c.pk bs a with
  | .short=> .err 3
  | .bad e=> .err e
  | .ok s u=>eo N {c with pk:=s,bH:=s.bX} (bs.drop (u-a)) most [] u
 |0,_,_,_,_,_,h=>by omega
 |N+1,c,bs,a,k,lx,hN=>by
  cases hf:c.pk.fin with
  |true=>
   have:gE (N+1) c.pk bs a= .ok c.pk a:=by
    show(if c.pk.fin=true then _ else _)=_
    rw[if_pos hf]
   rw[this]
   show _=eo (N+1) {c with pk:=c.pk,bH:=c.pk.bX} (bs.drop (a-a)) most [] a
   rw[nT,gT,<-k.tk hf]
  |false=>
   have lhs:eo (N+1) c bs most [] a=match eU c.pk bs with
    | .short=> .err 3
    | .bad e=> .err e
    | .ok s u=>eo N (qa c s) (bs.drop u) most [] (a+u):=by
    show(if c.done=true then _ else _)=_
    rw[if_neg (by rw[k.dn];decide)]
    unfold jT
    rw[if_pos hf]
    cases eU c.pk bs with
    |short=>rfl
    |bad e=>rfl
    |ok x u=>rfl
   have rhs:gE (N+1) c.pk bs a=match eU c.pk bs with
    | .short=> .short
    | .bad e=> .bad e
    | .ok s' u=>gE N s' (bs.drop u) (a+u):=by
    show(if c.pk.fin=true then _ else _)=_
    refine(if_neg (by rw[hf];decide)).trans ?_
    cases eU c.pk bs<;>rfl
   rw[lhs,rhs]
   cases e:eU c.pk bs with
   |short=>rfl
   |bad e=>rfl
   |ok s u=>
    have sc:jT c bs= .ok (-1,qa c s) u:=by
     unfold jT
     rw[if_pos hf,e]
    obtain⟨k1,_,k3,k4⟩:=Ka k sc
    have k2:ky (qa c s):=k1 k.dn
    have l1:(bs.drop u).length<N:=by rw[eP];omega
    show eo N (qa c s) (bs.drop u) most [] (a+u)=match gE N s (bs.drop u) (a+u)with
     | .short=> .err 3
     | .bad e=> .err e
     | .ok s u=>eo (N+1) {c with pk:=s,bH:=s.bX} (bs.drop (u-a)) most [] u
    rw[Wp most N (qa c s) (bs.drop u) (a+u) k2 (EV k.fq k.ol lx e).2.2 l1]
    show(match gE N s (bs.drop u) (a+u)with
     | .short=>Rs.err 3
     | .bad e=> .err e
     | .ok s2 u2=>eo N {(qa c s)with pk:=s2,bH:=s2.bX} ((bs.drop u).drop (u2-(a+u))) most [] u2)=_
    cases e2:gE N s (bs.drop u) (a+u)with
    |short=>rfl
    |bad e=>rfl
    |ok s2 u2=>
     obtain⟨n1,n2⟩:=k.nt hf
     obtain⟨p1,p2,p3,_,p4,p5⟩:=KS _ _ _ _ _ _ k2.pk k2.fq k2.ol (EV k.fq k.ol lx e).2.2 e2
     have KX:=KW _ _ _ _ _ _ k2.fq k2.ol (EV k.fq k.ol lx e).2.2 e2
     show eo N {c with pk:=s2,bH:=s2.bX} ((bs.drop u).drop (u2-(a+u))) most [] u2=eo (N+1) {c with pk:=s2,bH:=s2.bX} (bs.drop (u2-a)) most [] u2
     rw[AN,show u+(u2-(a+u))=u2-a by omega]
     refine As _ _ _ _ _ _ _ (fun _=>⟨p1,p2,KX,fun e=>absurd p3 (by rw[show s2.fin=false from e];decide),fun _=>rfl, ?_,k.ln,k.ll,k.wh,k.lo,k.hi,k.wr,k.dn⟩) (by rw[eP];omega) (by rw[eP];omega)
     show c.bG.length<=s2.t
     rw[n1];exact cb _
theorem agx{size:Nat}(h3:3<=size)(ek:size<=258)(most:Int)(bs:List Bool):eo (bs.length+1) (lu size) bs most [] 0=EU size bs most:=by
 unfold EU
 rw[Wp most (bs.length+1) (lu size) bs 0 (Kf h3 ek) (by decide:0<32768) (gX _)]
 show(match gE (bs.length+1) rb bs 0 with
  | .short=>Rs.err 3
  | .bad e=> .err e
  | .ok s u=>eo (bs.length+1) {(lu size)with pk:=s,bH:=s.bX} (bs.drop (u-0)) most [] u)=_
 cases e:gE (bs.length+1) rb bs 0 with
 |short=>rfl
 |bad e=>rfl
 |ok s a=>
  obtain⟨p1,p2,p3,p6,p4,p5⟩:=KS _ _ _ _ _ _ agw (cb _) rfl (by decide) e
  have KX:=KW _ _ _ _ _ _ (cb _) rfl (by decide) e
  have k0:=Kf h3 ek
  have k:ky {(lu size)with pk:=s,bH:=s.bX}:=⟨p1,p2,KX,fun e=>absurd p3 (by rw[show s.fin=false from e];decide),fun _=>rfl,cb _,k0.ln,k0.ll,k0.wh,k0.lo,k0.hi,k0.wr,k0.dn⟩
  have tl:(bs.drop a).length<bs.length+1:=by rw[eP];omega
  show eo (bs.length+1) {(lu size)with pk:=s,bH:=s.bX} (bs.drop (a-0)) most [] a=match jk s.t size (bs.drop a) 0 []with
   | .short=> .err 3
   | .bad e=> .err e
   | .ok gn u=>lA (bs.length+1) gn s.bX size (bs.drop (a+u)) most [] (a+u)
  rw[aim,Wo most s.t (bs.length+1) _ (bs.drop a) a k p3 (by show 0+s.t=s.t;omega) rfl rfl rfl tl]
  have:=show jk s.t size (bs.drop a) a []=_ from Wj s.t (bs.drop a) a 0 []
  show(match jk s.t size (bs.drop a) a []with
   | .short=>Rs.err 3
   | .bad e=> .err e
   | .ok gn u=>lA (bs.length+1) gn s.bX size ((bs.drop a).drop (u-a)) most [] u)=_
  rw[this]
  cases e2:jk s.t size (bs.drop a) 0 []with
  |short=>rfl
  |bad e=>rfl
  |ok gn u=>
   show lA (bs.length+1) gn s.bX size ((bs.drop a).drop (a+u-a)) most [] (a+u)=lA (bs.length+1) gn s.bX size (bs.drop (a+u)) most [] (a+u)
   rw[AN,show a+(a+u-a)=a+u by omega]
end Go.Proofs.YtdagfcflbphoiaaGreatDoor
