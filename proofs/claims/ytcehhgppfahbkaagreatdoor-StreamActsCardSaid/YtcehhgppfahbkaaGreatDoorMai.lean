import Derived.Test.YtcehhgppfahbkaaGreatDoorMaf
import Derived.Test.YtcehhgppfahbkaaGreatDoorMah
import Derived.Test.YtcehhgppfahbkaaGreatDoorMag
open Nat renaming le_refl→ai, zero_le→bU, le_succ→cH, lt_succ_self→dK, lt_of_lt_of_le→eD, zero_add→fy, add_zero→gX, sub_self→j8, pow_le_pow_right→oD, min_eq_left→r8, lt_irrefl→sa, le_of_lt→arl, sub_le→arn, max_eq_left→aro
open Go.Proofs.Tryz renaming prog→aa
open List renaming getD_eq_getElem?_getD→aC, length_append→aG, getElem?_eq_getElem→aJ, range→aY, replicate→bD, append_assoc→bW, getElem_mem→cb, length_cons→ct, append_nil→cz, length_map→cu, length_take→cB, drop_zero→dx, map_append→dU, take_length→eh, length_drop→fp, take_succ_eq_append_getElem→fq, getElem?_map→fo, take_of_length_le→fG, length_replicate→jQ, mem_of_mem_take→j4, range_succ→mv, drop_length→my, length_singleton→nC, take_zero→nE, getElem_map→nG, flatMap_cons→pG, getElem?_append_left→nB, nil_append→pF, replicate_succ→HE, flatten_cons→HG, map→OC, take_append_getElem→arp
open Go.Value renaming string→aZ, slice→fZ, tuple→aq8
open Int renaming lt_irrefl→bE, reduceBEq→cZ, reduceBNe→da, reduceLT→db, reduceLE→dc, reduceEq→de, reduceNe→dg, reduceAdd→dh, reduceSub→di, reduceMul→dj, reduceNeg→dk, toNat_natCast→eg, natCast_nonneg→gY, toNat_of_nonneg→kS
open Bool renaming and_eq_true→cD, not_true→gE, not_false→gO, and_self→Hy, false_ne_true→Oo
open Go.IntKind renaming u32→uA, bits→Ht
open Option renaming getD_some→xo
open Classical renaming epsilon→ar1, epsilon_spec→ar2
set_option linter.unusedVariables false
set_option linter.unusedSimpArgs false
namespace Go.Proofs.YtcehhgppfahbkaaGreatDoor
open Go.RowKit Ev Tb Hu
theorem jy.uF{r:Nat}{w l:List Int}(x:jy r w l):∀{b:Nat} {a:List Int},jy b w a->l=a:=by
 induction x with
 |stop w hW f c=>
  intro b a y;cases y with
  |stop=>rfl
  |next _ _ e _=>exact absurd c e
 |next hW f c h g=>
  intro b a y;cases y with
  |stop _ _ _ e=>exact absurd e c
  |next _ _ _ d=>exact g d
noncomputable def pc (c:List Int):List Int:=ar1 fun l=>∃r,jy r (fN c) l∧r<=40
theorem aa9{c l:List Int}{r:Nat}(h:jy r (fN c) l)(a:r<=40):l=pc c:=by obtain⟨d,b,_⟩:=ar2 (p:=fun l=>∃r,jy r (fN c) l∧r<=40) ⟨l,r,h,a⟩;exact h.uF b
theorem GL(ws:List Int):iW ws (mV ws):=by
 have k:∃D,iW ws D:=by
  let le:Nat->Nat->Bool:=fun i j=>decide (bk ws i<bk ws j∨bk ws i=bk ws j∧i<=j);have g:=List.mergeSort_perm (aY ws.length) le;refine⟨(aY ws.length).mergeSort le,g, ?_⟩
  have f:=List.pairwise_mergeSort (le:=le) (fun a b c f e=>by
   simp only[le,decide_eq_true_eq]at f e⊢
   omega) (fun a b=>by
   simp only[le,Bool.or_eq_true,decide_eq_true_eq]
   omega) (aY ws.length)
  have e:((aY ws.length).mergeSort le).Pairwise (·≠·):=List.nodup_iff_pairwise_ne.1 (g.nodup_iff.2 List.nodup_range);refine(f.and e).imp fun{a b} d=> ?_;obtain⟨q1,q2⟩:=d;simp only[le,decide_eq_true_eq]at q1;unfold RI;omega
 obtain⟨D,h⟩:=k;rw[h.eq];exact h
theorem alY:∀(m:Nat) (w:List Int),m<=40->Wb w (cap m)->∃l r,jy r w l∧r<=m:=by
 intro m
 induction m with
 |zero=>intro w c b;exact⟨_,0,.stop w (b.ws (GH c)) (GL w) (Wb.short b (GL w)),ai _⟩
 |succ m f=>
  intro w c b;have d:=GH c;by_cases e:lh (ik w) 0<=20
  ·exact⟨_,0,.stop w (b.ws d) (GL w) e,bU _⟩
  ·have a:=b.aaW d;obtain⟨l,r,h,i⟩:=f (gy w) jO ⟨a.l2,a.l3,a.lo,fun x g=>by have:=a.hi x g;have:=aaX m;omega⟩;exact⟨l,r+1,.next (b.ws d) (GL w) e h,jO⟩
theorem aa'{c:List Int}(g:3<=c.length)(b:c.length<=258)(f:dP 0 1099511627776 c=true):∃r,jy r (fN c) (pc c)∧r<=40:=by obtain⟨l,r,d,a⟩:=alY 40 (fN c) (ai _) (aaZ jO b (iG.1 f));have e:=aa9 d a;rw[e]at d;exact⟨r,d,a⟩
section
variable (lf d n:Nat) (h:H) (bP:3000000<=lf)
include bP
theorem alZ(v:Value)(c:List Int)(k:Row h n 3 .i64 v c)(m:3<=c.length)(b:c.length<=258)(j:dP 0 1099511627776 c=true)(hd:400<=d):
 ae (fun _=>False) n (eW lf d 217 #[v]) h n fun g h' n'=>∃e,g= .tuple #[e,jI 0]∧Row h' n' 3 .i64 e (pc c):=by
 refine(alM lf d n h v c k m b j bP hd).mono ?_;rintro g h' n' _ ⟨e,l,r,rfl,i,f,a⟩;rw[aa9 i f]at a;exact⟨e,rfl,a⟩
theorem al0(v:Value)(c:List Int)(j:Row h n 3 .i64 v c)(k:3<=c.length)(a:c.length<=258)(e:dP 0 1099511627776 c=true)(hd:300<=d):
 ae (fun _=>False) n (eW lf (d+1) 177 #[v]) h n fun f h' n'=>Row h' n' 3 .i64 f (pc c):=by
 obtain⟨r,i,b⟩:=aa' k a e;exact alX lf d n h v c _ r j jO (fun x g=>(iG.1 e x g).1) i b bP hd
omit bP in
theorem aa_{c:List Int}(h:3<=c.length)(d:c.length<=258)(g:dP 0 1099511627776 c=true):(pc c).length=c.length∧dP 1 20 (pc c)=true∧iX (pc c)=1048576:=by obtain⟨r,f,_⟩:=aa' h d g;obtain⟨a,b,e⟩:=f.whole;rw[ng]at a;exact⟨a,b,e⟩
end
def GoodT(s:Nat)(T:List (List Int)):Prop:=∀t∈T,t.length=s∧∀y∈t,0<=y∧y<=20
def GoodG(s:Nat)(a:List (List Int)):Prop:=(∀g∈a,g.length<=50∧ef s g=true)∧a.length<=40000
noncomputable def qq (a T:List (List Int)) (s:Nat):List (List Int):=(aY T.length).map fun p=>pc (o8 a T s p)
def eR(a T:List (List Int)):List Int:=(fB a T).map fun(x:Nat)=>(x:Int)
theorem uh(a T:List (List Int)):(fB a T).length=a.length:=by unfold fB;simp
theorem nh(a T:List (List Int)):(eR a T).length=a.length:=by unfold eR;rw[cu,uh]
theorem BP(c T:List (List Int))(s p:Nat){a:List (List Int)}{d:List Nat}(e:GoodG s c)(h:∀g∈a,g∈c)(i:a.length<=c.length):dP 0 1099511627776 (dn (jb p a d) s)=true:=by refine iG.2 fun x f=> ?_;have k:=Gx f;have j:=BG p a d fun g b=>(e.1 g (h g b)).1;have:=e.2;omega
theorem al1{s:Nat}{T:List (List Int)}{g:List Int}(f:GoodT s T)(h:s<=258)(e:ef s g=true):∀t∈T,t.length<=1000000∧dP 0 1099511627776 t=true∧ef t.length g=true:=fun t d=>by obtain⟨a,b⟩:=f t d;exact⟨jO,iG.2 fun y c=>by have:=b y c;omega,by rw[a];exact e⟩
theorem al2{d T:List (List Int)}{s:Nat}(i:GoodG s d)(k:3<=s)(f:s<=258):GoodT s (qq d T s):=by intro t e;unfold qq at e;obtain⟨p,_,rfl⟩:=List.mem_map.1 e;have j:(o8 d T s p).length=s:=ja _ _;obtain⟨a,b,_⟩:=aa_ (c:=o8 d T s p) jO jO (BP d T s p i (fun _ h=>h) (ai _));exact⟨jO,fun y g=>by have:=iG.1 b y g;omega⟩
theorem al3(a T:List (List Int))(s:Nat):(qq a T s).length=T.length:=by unfold qq;simp
section
variable (lf d n:Nat) (h:H) (bP:3000000<=lf)
include bP
set_option maxHeartbeats 1000000 in
theorem al4(u v:Value)(k T:List (List Int))(s:Nat)(hG:RR h n 141 3 u k)(hT:RR h n 141 3 v T)(hg:GoodG s k)(ht:GoodT s T)(h0:0<T.length)(h6:T.length<=6)(h3:3<=s)(R:s<=258)(hd:500<=d):
 ae (fun _=>False) n (eW lf d 191 #[u,v,jI (s:Int)]) h n fun v' h' n'=>∃x y,v'= .tuple #[x,y]∧Row h' n' 3 .i64 x (eR k T)∧RR h' n' 141 3 y (qq k T s):=by
 obtain⟨d,rfl⟩:∃e,d=e+8:=⟨d-8,jO⟩;rw[aF (fun _=>WZ) rfl];refine ae.aE ?_;unfold Fk;have x1:=hG;have w9:=hT;obtain⟨a,c,rfl⟩:=hT.len;obtain⟨a2,c2,rfl⟩:=hG.len;obtain⟨t,u5⟩:∃t,T.length=t:=⟨_,rfl⟩;rw[u5]at h0 h6 w9⊢;refine jB ?_;refine Ev.run_make trivial t t _ (ai _) jO ?_;refine jB ?_;let K:Nat->Value:=fun j=> .slice (some ⟨n+1+j,0,none⟩) s s
 refine cG t (fun W i (_:Unit)=>wk lf (eW lf (d+7)) W (A1 lf (eW lf (d+7))) (.slice a2 k.length c2) (.slice a t c) (jI (s:Nat)) (.slice none 0 0) (.slice none 0 0) (.slice none 0 0) (.slice (some ⟨n,0,none⟩) t t) (jI (t:Nat)) (jI (i:Nat)))
  (fun i _ h' n'=>n'=n+1+i∧(∀b,b<n->h'.get b=h.get b)∧h'.get n=some ⟨141,true,rc K (.slice none 0 0) t i⟩∧∀j,j<i->h'.get (n+1+j)=some ⟨3,true,aH .i64 (bD s 0)⟩) ?_ ?_ lf 0 () _ _ (bU _) jO ⟨rfl,fun b hb=>aB _ _ jO,by rw[get_eq,Y'],fun j L=>absurd L (Nat.not_lt_zero j)⟩
 ·rintro W _ h' n' ⟨rfl,Y,w3,L⟩;rw[wk];refine jA @bE ?_
  (try unfold A1);(try dsimp only)
  refine jB ?_;rw[Za]at w3;have z0:=hg.2
  refine cG k.length (fun W i (q:Value)=>wm lf (eW lf (d+7)) W (A0 lf (eW lf (d+7))) (.slice a2 k.length c2) (.slice a t c) (jI (s:Nat)) (.slice none 0 0) (.slice none 0 0) q (.slice (some ⟨n,0,none⟩) t t) _ _ _ (.slice a2 k.length c2) (jI (k.length:Nat)) (jI (i:Nat)))
   (fun i q h' n'=>n<n'∧(∀b,b<n->h'.get b=h.get b)∧Own h' (n+1) n' 3 q (aH .i64 ((eR k T).take i))∧∃A:List Value,h'.get n=some ⟨141,true,A⟩∧A.length=t∧∀p,p<t->Row h' n' 3 .i64 (A.getD p undef) (dn (jb p (k.take i) ((fB k T).take i)) s)∧(∀b,az (A.getD p undef) b->¬az q b)) ?_ ?_ lf 0 _ _ _ (bU _) jO ⟨jO,Y,Own.nil _ _ _ _,_,w3,jS,fun p X=>⟨?_,fun b _ q=>q.not_nil⟩⟩
  ·rintro W q h' n' ⟨hn,Y,hO,A,v5,w5,C⟩;rw[wm];refine jA @bE ?_
   (try unfold A0);(try unfold J);(try dsimp only)
   refine jB ?_;rw[fG (by rw[nh];exact ai _)]at hO
   have u7:∀p,p<t->Row h' n' 3 .i64 (A.getD p undef) (o8 k T s p):=fun p X=>by have:=(C p X).1;rw[eh,fG (by rw[uh];exact ai _)]at this;exact this
   have hx:=hO.row
   refine cG t (fun W i (w:Value)=>wo lf (eW lf (d+7)) W (Fj lf (eW lf (d+7))) (.slice a2 k.length c2) (.slice a t c) (jI (s:Nat)) (.slice none 0 0) (.slice none 0 0) q (.slice (some ⟨n,0,none⟩) t t) w _ _ _ _ _ _ _ (.slice (some ⟨n,0,none⟩) t t) (jI (t:Nat)) (jI (i:Nat)))
    (fun i w U n2=>n'<=n2∧(∀b,b<n'->U.get b=h'.get b)∧fA U n' n2 n2 141 3 w ((aY i).map fun p=>pc (o8 k T s p))) ?_ ?_ lf 0 _ _ _ (bU _) jO ⟨ai _,fun _ _=>rfl,fA.nil _ _ _ _ _ _⟩
   ·rintro W w U n2 ⟨u9,D,E⟩;rw[wo];refine jA @bE ?_
    (try unfold Fj);(try unfold I);(try dsimp only)
    refine jB ?_;refine⟨_,_,rfl,hx.ay u9 D, ?_⟩;have:=E.rr;unfold qq;rw[u5];exact this
   ·rintro W i w U n2 F ⟨u9,D,E⟩ next;have e1:(i:Int)<(t:Int):=jO;have w4:U.get n=some ⟨141,true,A⟩:=(D n jO).trans v5;have cx:A[i]? =some (A.getD i undef):=by rw[aC,aJ jO];rfl
    have v8:n<n2:=jO;have x6:=(u7 i F).ay u9 D;rw[wo];refine jA (aI @e1 (aI @w4 @cx)) ?_;refine aN aL (alZ lf (d+7) n2 U bP _ _ x6 (by show 3<=(dn _ _).length;rw[ja];exact h3) (by show(dn _ _).length<=258;rw[ja];exact R) (BP k T s i hg (fun _ h=>h) (ai _)) jO) jO (fun _ _ h=>h.elim) fun v1 h4 n4 O G hq=> ?_;obtain⟨l,rfl,hl⟩:=hq;have x0:=(E.ay O fun b hb _=>G b hb id).up O;refine jA (aI @dF @ext1) ?_;refine Bq trivial jD x0 hl (ai _) (by simp;omega) jO jO _ fun v2 h5 o5 k5 _=> ?_;refine jB ?_;refine next v2 h5 (n4+2) ⟨jO,fun b hb=> ?_, ?_⟩
    ·rw[k5 b jO fun q=>by have:=(x0.lt q).1;omega,G b jO id];exact D b hb
    ·rw[mv,dU];exact o5.up jO
  ·rintro W i q h' n' F ⟨hn,Y,hO,A,v5,w5,C⟩ next;have e1:(i:Int)<((k.length:Nat):Int):=jO;obtain⟨b,y7,cap,o,ks,hv,v0,hb,y1⟩:=(x1.ay (arl hn) Y).at jO;cases hv;obtain⟨x,hx,u6⟩:=y1 i F;have y2:=w9.ay (arl hn) Y;have gm:k.getD i []∈k:=by rw[aC,aJ F];exact cb F
   obtain⟨g1,g2⟩:=hg.1 _ gm;have pl:=aav (k.getD i []) (T:=T) jO;obtain⟨p,X⟩:∃p,jx (k.getD i []) T=p:=⟨_,rfl⟩;rw[X,u5]at pl;rw[wm];refine jA (aI @e1 (aI @v0 @hx)) ?_;refine bz (alC lf d n' h' bP x _ _ T u6 y2 jO jO (al1 ht R g2)) jO (fun _ _ h=>h.elim) ?_;rw[X];refine fJ trivial (eI _ _) hO (by rw[cj,cB,nh];omega) jO _ fun U Z D=> ?_
   have pn:aH .i64 ((eR k T).take i)++[jI (p:Int)]=aH .i64 ((eR k T).take (i+1)):=by
    have:(eR k T).take (i+1)=(eR k T).take i++[(p:Int)]:=by rw[fq (by rw[nh];exact F)];congr 2;unfold eR fB;simp only[nG];rw[<-X,aC,aJ F];rfl
    rw[this];unfold aH;rw[dU];rfl
   rw[pn]at Z
   have x3:(fB k T).take (i+1)=(fB k T).take i++[p]:=by rw[fq (by rw[uh];exact F)];congr 2;unfold fB;simp only[nG];rw[<-X,aC,aJ F];rfl
   have y3:k.take (i+1)=k.take i++[k.getD i []]:=by rw[fq F,aC,aJ F];rfl
   have ll:(aH .i64 ((eR k T).take i)).length=i:=by rw[cj,cB,nh];omega
   rw[ll];have u1:∀b,b<n+1->U.get b=h'.get b:=fun b hb=>D b jO fun q=>by have:=(hO.lt q).1;omega
   have E:Own U (n+1) (n'+2) 3 (.slice (some ⟨n'+1,0,none⟩) (i+1) (aU+(i+1))) (aH .i64 ((eR k T).take (i+1))):=Own.mk' Z jO jO (by rw[cj,cB,nh];omega)
   have v9:Row U (n'+2) 3 .i64 x (k.getD i []):=u6.fK jO fun c r=>D c (u6.lt r) fun q=>by obtain⟨q1,q2⟩:=hO.lt q;have:=(x1.ay (ai n) (fun _ _=>rfl));obtain⟨b',y4,y5,o',y8,x5,w2,y0,w7⟩:=this.at jO;cases x5;obtain⟨x',x4,w0⟩:=w7 i F;rw[Y b y0,w2]at v0;cases v0;rw[x4]at hx;cases hx;have:=w0.lt r;omega
   refine jB ?_;refine aN aL (M0 lf (d+6) (n'+2) U bP x _ v9 jO s h3 R) jO (fun _ _ h=>h.elim) fun v3 v6 n3 w1 u0 x8=> ?_;rcases x8 with ⟨_,m,rfl,hm⟩|⟨u3,_⟩
   rotate_left
   ·rw[g2]at u3;cases u3
   have e2:(p:Int)<(t:Int):=jO;have u2:v6.get n=some ⟨141,true,A⟩:=by rw[u0 n jO id,u1 n jO];exact v5
   have cx:A[p]? =some (A.getD p undef):=by rw[aC,aJ jO];rfl
   have v8:n<n3:=jO
   have N:∀j,j<t->Row v6 n3 3 .i64 (A.getD j undef) (dn (jb j (k.take i) ((fB k T).take i)) s):=fun j L=>((C j L).1.fK (show n'<=n'+2 by omega) fun c r=>D c ((C j L).1.lt r) ((C j L).2 c r)).ay w1 fun c r=>u0 c r id
   refine jA (aI @dF (aI @ext1 (aI @e2 (aI @u2 @cx)))) ?_;refine aN aL (ale lf (d+1) n3 v6 bP _ _ _ _ (N p pl) hm (by rw[ja];omega) (by rw[ja,ja]) (BP k T s p hg (fun g Q=>j4 Q) (by rw[cB];omega)) (iG.2 fun y hy=>by have:=Gx hy;omega)) jO (fun _ _ h=>h.elim) fun v4 h4 n4 O G x7=> ?_;obtain⟨z,rfl,hz,x9⟩:=x7;have P:h4.get n=some ⟨141,true,A⟩:=(G n v8 id).trans u2;have v7:n<n4:=jO;have u4:one z=true:=by obtain⟨_,_,rfl⟩:=hz.len;rfl
   refine jA (aI @dF (aI @ext1 (aI @e2 @P))) ?_;refine Br trivial n _ z _ P v7 jO u4 (.inl (ai _)) ?_
   have za:=ak9 (jb p (k.take i) ((fB k T).take i)) (k.getD i []) s (by
    have:=BG p (k.take i) ((fB k T).take i) fun g Q=>(hg.1 g (j4 Q)).1;rw[cB]at this
    omega)
   rw[za]at hz
   have rr:∀{y:Value} {ys:List Int} {m:Nat} (q:Row h4 m 3 .i64 y ys),Row (h4.set n (some ⟨141,true,A.set p z⟩)) m 3 .i64 y ys:=fun q=>q.fK (ai _) fun c r=>aB _ _ fun e=>by obtain⟨B,b1,b2⟩:=q.elem r;rw[e,P]at b1;cases b1;exact absurd (show(141:Nat)=3 from b2) jD
   have oo:Own (h4.set n (some ⟨141,true,A.set p z⟩)) (n+1) n4 3 (.slice (some ⟨n'+1,0,none⟩) (i+1) (aU+(i+1))) (aH .i64 ((eR k T).take (i+1))):=
    ((E.ay w1 fun c r=>u0 c (E.lt r).2 id).ay O fun c r=>G c (by have:=(E.lt r).2;omega) id).ay (ai _) fun c r=>aB _ _ (by have:=(E.lt r).1;omega)
   refine next _ _ _ ⟨jO,fun c r=> ?_,oo,A.set p z,get_eq _ _ _,by simp[w5],fun j L=> ?_⟩
   ·rw[aB _ _ jO,G c jO id,u0 c jO id,u1 c jO];exact Y c r
   ·have al:(k.take i).length=((fB k T).take i).length:=by rw[cB,cB,uh]
    rw[y3,x3,MU j _ _ _ _ al];by_cases e:j=p
    ·subst e;have:(A.set j z).getD j undef=z:=by rw[aC,List.getElem?_set_self jO];rfl
     rw[this,if_pos rfl];exact⟨rr hz,fun c r q=>by have:=x9 c r;have:=q.inj;omega⟩
    ·have:(A.set p z).getD j undef=A.getD j undef:=by rw[aC,List.getElem?_set_ne (fun q=>e q.symm),aC]
     rw[this,if_neg (fun q=>e q.symm),cz];exact⟨rr ((N j L).ay O fun c r=>G c r id),fun c r q=>by have:=(C j L).1.lt r;have:=q.inj;omega⟩
  ·have:((aY t).map K).getD p undef=K p:=M3 _ _ X;rw[this]
   have e:dn (jb p (k.take 0) ((fB k T).take 0)) s=bD s 0:=by rw[nE,nE];exact aap s
   rw[e];exact Row.Gz (L p X) jO jS
 ·rintro W i _ h' n' F ⟨rfl,Y,Q,L⟩ next;have e2:(i:Int)<(t:Int):=jO;rw[wk];refine jA @e2 ?_;refine Ev.run_make trivial s s _ (ai _) jO ?_;have Z:(h'.set (n+1+i) (some ⟨3,true,bD s (jI 0)⟩)).get n=some ⟨141,true,rc K (.slice none 0 0) t i⟩:=by rw[aB _ _ jO];exact Q
  have v7:n<n+1+i+1:=jO;have rs:=Zc (f:=K) (z:= .slice none 0 0) F;have w6:K i= .slice (some ⟨n+1+i,0,none⟩) s s:=rfl;rw[w6]at rs;refine jA (aI @e2 (aI @Z (aI @rs @Mm))) ?_;refine⟨F,.inl jO, ?_⟩;refine next () _ _ ⟨jO,fun b hb=>by rw[aB _ _ jO,aB _ _ jO];exact Y b hb,get_eq _ _ _,fun j y9=> ?_⟩;rw[aB _ _ jO];by_cases q:j=i
  ·subst q;rw[get_eq,Gy]
  ·rw[aB _ _ jO];exact L j jO
end
end Go.Proofs.YtcehhgppfahbkaaGreatDoor
namespace Go.Proofs.YtcehhgppfahbkaaGreatDoor
open Go.RowKit Ev Tb
noncomputable def bO (xs:List Int) (s:Nat):Nat->List (List Int)
 |0=>lu (dn xs s) (xs.length:Int)
 |k+1=>qq (iI xs) (bO xs s k) s
theorem yS(xs:List Int)(s:Nat):∀k,(bO xs s k).length=j1 (xs.length:Int)
 |0=>MW _ _
 |k+1=>(al3 _ _ _).trans (yS xs s k)
theorem GM{xs:List Int}{s:Nat}(f:xs.length<=1000000)(c:ef s xs=true):GoodG s (iI xs):=by refine⟨fun g e=> ?_,by rw[MS];unfold dq;omega⟩;obtain⟨a,_,b⟩:=ak7 e;exact⟨b,xd.2 fun x d=>xd.1 c x (a x d)⟩
theorem aba{xs:List Int}{s:Nat}(e:xs.length<=1000000)(b:ef s xs=true)(f:3<=s)(a:s<=258):∀k,GoodT s (bO xs s k)
 |0=>fun t c=>by unfold bO lu at c;obtain⟨p,_,rfl⟩:=List.mem_map.1 c;exact⟨by rw[yP,ja],fun y d=>by have:=ak' d;omega⟩
 |k+1=>al2 (GM e b) f a
section
variable (lf d n:Nat) (h:H) (bP:3000000<=lf)
include bP
theorem al5(v:Value)(xs:List Int)(s:Nat)(g:Gd h n)(hR:Row h n 3 .i64 v xs)(h0:0<xs.length)(hl:xs.length<=1000000)(h3:3<=s)(j:s<=258)(G:ef s xs=true)(hd:600<=d):
 ae (fun _=>False) n (eW lf d 161 #[v,jI (s:Int)]) h n fun v' h' n'=>∃x y,v'= .tuple #[.agg #[x,y],jI 0]∧RR h' n' 141 3 x (bO xs s 4)∧Row h' n' 3 .i64 y (eR (iI xs) (bO xs s 3)):=by
 obtain⟨d,rfl⟩:∃e,d=e+8:=⟨d-8,jO⟩;rw[aF (fun _=>KH) rfl];refine ae.aE ?_;unfold AQ;have Z:=hR;obtain⟨a,c,rfl⟩:=hR.len;refine fh qa _ ?_;obtain⟨Y,I⟩:∃Y,h.set n (some ⟨178,true,[.slice none 0 0,.slice none 0 0]⟩)=Y:=⟨_,rfl⟩;have ka:∀b,b<n->Y.get b=h.get b:=fun b f=>by rw[<-I];exact aB _ _ jO
 have ga:Y.get n=some ⟨178,true,[.slice none 0 0,.slice none 0 0]⟩:=by rw[<-I,get_eq]
 rw[I];refine aN aL (M0 lf (d+6) (n+1) Y bP _ xs (Z.ay (cH n) ka) hl s h3 j) (cH n) (fun _ _ h=>h.elim) fun v1 h1 n1 w5 u3 hq=> ?_;rcases hq with ⟨_,u,rfl,hu⟩|⟨C,_⟩
 rotate_left
 ·rw[G]at C;cases C
 have k1:∀b,b<n->h1.get b=h.get b:=fun b f=>(u3 b jO id).trans (ka b f);have v9:=Z.ay (show n<=n1 by omega) k1;have z0:(((xs.length:Nat):Int)==0)=false:=beq_eq_false_iff_ne.2 jO;have z1:((0:Int) !=0)=false:=rfl;refine jA (aI @dF (aI @ext1 (aI @z0 @z1))) ?_;refine bz (GA lf (d+6) n1 h1 xs.length jO) jO (fun _ _ h=>h.elim) ?_;have z2:¬((32767:Int)<(dq xs.length:Int)):=by unfold dq;omega
 refine jA @z2 ?_;refine aN aL (alB lf (d+3) n1 h1 bP _ xs v9 hl) jO (fun _ _ h=>h.elim) fun vg h2 n2 v0 J v6=> ?_;have k2:∀b,b<n->h2.get b=h.get b:=fun b f=>(J b jO id).trans (k1 b f);have u6:=hu.ay v0 fun b f=>J b f id;have cm:∀x∈dn xs s,0<=x∧x<=1099511627776:=fun x D=>by have:=Gx D;omega
 refine jB ?_;refine aN aL (alL lf (d+5) n2 h2 bP u (dn xs s) (xs.length:Int) (g.ay jO k2) u6 (by rw[ja];exact j) cm jO jO) jO (fun _ _ h=>h.elim) fun vf w0 p u9 u2 hf=> ?_;have X:=v6.ay u9 fun b f=>u2 b f id;have v8:=hf;obtain⟨af,cf,rfl⟩:=hf.len;refine jB ?_;refine fh qa _ ?_;refine nW (cs:=[.slice none 0 0,.slice none 0 0]) trivial (vs:=[.slice af (lu (dn xs s) (xs.length:Int)).length cf,.slice none 0 0]) rfl rfl rfl (get_eq _ _ _) (dK p) (ai _) (.inl jO) _ fun h4 v4 k4=> ?_;have r:∀b,b<p->h4.get b=w0.get b:=fun b f=>by rw[k4 b jO,aB _ _ jO]
 have v2:=GM hl G;have ht:=aba hl G h3 j;have U:=yS xs s;have w3:=BH (xs.length:Int);have w1:h4.get n=some ⟨178,true,[.slice none 0 0,.slice none 0 0]⟩:=by rw[r n jO,u2 n jO id,J n jO id,u3 n jO id];exact ga
 have w2:=X.ay (cH p) r;have v7:=v8.ay (cH p) r
 refine cG 4 (fun fu i (_:Unit)=>vT lf (eW lf (d+7)) fu (E2 lf (eW lf (d+7))) (.slice a xs.length c) (jI (s:Nat)) (jP n 0) (jI 0) u (jI 0) vg (jP p 0) (.bool false) (.bool false) (jI (i:Nat)))
  (fun i _ h' n'=>p<n'∧(∀b,b<p->h'.get b=h4.get b)∧∃x y,h'.get p=some ⟨178,true,[x,y]⟩∧RR h' n' 141 3 x (bO xs s i)∧one y=true∧(0<i->Row h' n' 3 .i64 y (eR (iI xs) (bO xs s (i-1))))) ?_ ?_ lf 0 () _ _ (bU _) jO ⟨dK p,fun _ _=>rfl,_,_,v4,v7,rfl,fun q=>absurd q (sa 0)⟩
 ·rintro fu _ h' n' ⟨F,t,x,y,z,D,P,hy⟩;have z4:¬(((4:Nat):Int)<4):=jO;rw[vT];refine jA @z4 ?_
  (try unfold E2);(try dsimp only)
  refine Bp trivial trivial _ _ _ z F jS ?_;have u0:h'.get n=some ⟨178,true,[.slice none 0 0,.slice none 0 0]⟩:=by rw[t n jO];exact w1
  have O:=hy jO;have Q:one x=true:=by obtain⟨_,_,rfl⟩:=D.len;rfl
  refine nW trivial (vs:=[x,y]) rfl rfl (by simp[Q,P]) u0 jO (ai _) (.inl (ai _)) _ fun h5 w k5=> ?_;refine yC trivial trivial _ _ _ w jO jS ?_;have e5:∀b,(∀B,h'.get b=some B->B.elem≠178)->h5.get b=h'.get b:=fun b f=>k5 b fun e=>by subst e;exact f _ u0 rfl
  refine jB ?_
  refine⟨x,y,rfl, ?_,O.fK (ai _) fun b f=>e5 b fun B m e=>by
   obtain⟨B',q1,q2⟩:=O.elem f;rw[m]at q1;cases q1
   exact absurd (show(3:Nat)=178 from q2.symm.trans e) jD⟩
  obtain⟨cs,N,r2,L⟩:=D
  have u4:∀b,az x b->∃B,h'.get b=some B∧B.elem=141:=fun b f=>by
   rcases N with ⟨a,c,rfl,E,_⟩|⟨b',u5,cap,o,ks,rfl,hg,_⟩
   ·obtain⟨o,l,k,q⟩:=f;cases q;exact absurd rfl (E b o)
   ·rw[f.inj];exact⟨_,hg,rfl⟩
  refine⟨cs,N.ay (ai _) fun b f=>e5 b fun B m e=> ?_,r2,fun i K=>(L i K).fK (ai _) fun b f=>e5 b fun B m e=> ?_⟩
  ·obtain⟨B',q1,q2⟩:=u4 b f;rw[m]at q1;cases q1;exact absurd (show(141:Nat)=178 from q2.symm.trans e) jD
  ·obtain⟨B',q1,q2⟩:=(L i K).elem f;rw[m]at q1;cases q1;exact absurd (show(3:Nat)=178 from q2.symm.trans e) jD
 ·rintro fu i _ h' n' K ⟨F,t,x,y,z,D,P,hy⟩ next;have e1:(i:Int)<4:=jO;have Q:one x=true:=by obtain⟨_,_,rfl⟩:=D.len;rfl
  rw[vT];refine jA (aI @e1 @z) ?_;refine aN aL (al4 lf (d+7) n' h' bP vg x (iI xs) (bO xs s i) s (X.ay jO fun b f=>by rw[t b f];exact r b f) D v2 (ht i) (by rw[U];omega) (by rw[U];omega) h3 j jO) jO (fun _ _ h=>h.elim) fun v5 h5 n5 w4 u1 u7=> ?_;obtain⟨px,ty,rfl,W,T⟩:=u7;have w:=(u1 p F id).trans z;have A:=W;have R:=T;obtain⟨a6,c6,rfl⟩:=W.len;obtain⟨a7,c7,rfl⟩:=T.len;refine jA (aI @dF @ext1) ?_;refine nW trivial (vs:=[.slice a7 (qq (iI xs) (bO xs s i) s).length c7,.slice a6 (eR (iI xs) (bO xs s i)).length c6]) rfl rfl rfl w jO (ai _) (.inl jO) _ fun h6 v3 k6=> ?_;have e6:∀b,(∀B,h5.get b=some B->B.elem≠178)->h6.get b=h5.get b:=fun b f=>k6 b fun e=>by subst e;exact f _ w rfl
  refine jB ?_;refine next () h6 n5 ⟨jO,fun b f=>by rw[k6 b jO,u1 b jO id];exact t b f,_,_,v3, ?_,rfl,fun _=> ?_⟩
  ·obtain⟨cs,N,r2,L⟩:=R;refine⟨cs,N.ay (ai _) fun b f=>e6 b fun B m e=> ?_,r2,fun i K=>(L i K).fK (ai _) fun b f=>e6 b fun B m e=> ?_⟩
   ·rcases N with ⟨a,c,q,E,_⟩|⟨b',u5,cap,o,ks,q,hg,_⟩
    ·obtain⟨o,l,k,q2⟩:=f;rw[q2]at q;cases q;exact absurd rfl (E b o)
    ·rw[q]at f;rw[f.inj,hg]at m;cases m;exact absurd (show(141:Nat)=178 from e) jD
   ·obtain⟨B',q1,q2⟩:=(L i K).elem f;rw[m]at q1;cases q1;exact absurd (show(3:Nat)=178 from q2.symm.trans e) jD
  ·exact A.fK (ai _) fun b f=>e6 b fun B m e=>by obtain⟨B',q1,q2⟩:=A.elem f;rw[m]at q1;cases q1;exact absurd (show(3:Nat)=178 from q2.symm.trans e) jD
theorem al6(v:Value)(xs:List Int)(z:Int)(B:Row h n 3 .i64 v xs)(L:xs.length<=1000000)(p:z<3∨258<z∨xs=[]∨ef z xs=false)(hd:600<=d):
 ae (fun _=>False) n (eW lf d 161 #[v,jI z]) h n fun o h' n'=>o= .tuple #[.agg #[.slice none 0 0,.slice none 0 0],jI 1]:=by
 obtain⟨d,rfl⟩:∃e,d=e+8:=⟨d-8,jO⟩;rw[aF (fun _=>KH) rfl];refine ae.aE ?_;unfold AQ;have w:=B;obtain⟨a,c,rfl⟩:=B.len;refine fh qa _ ?_;obtain⟨i,f⟩:∃i,h.set n (some ⟨178,true,[.slice none 0 0,.slice none 0 0]⟩)=i:=⟨_,rfl⟩;have F:∀b,b<n->i.get b=h.get b:=fun b U=>by rw[<-f];exact aB _ _ jO
 have C:i.get n=some ⟨178,true,[.slice none 0 0,.slice none 0 0]⟩:=by rw[<-f,get_eq]
 rw[f]
 have g:∀(m:H) (l:Nat) (k:Value->M Value),n<l->m.get n=some ⟨178,true,[.slice none 0 0,.slice none 0 0]⟩->(∀q,k q=aj [q,jI 1])->ae (fun _=>False) n (b9 2 (jP n 0) (.agg #[.slice none 0 0,.slice none 0 0]) fun _=>bR 2 (jP n 0) k) m l fun o h' n'=>o= .tuple #[.agg #[.slice none 0 0,.slice none 0 0],jI 1]:=by intro m l k K O N;refine nW trivial (vs:=[.slice none 0 0,.slice none 0 0]) rfl rfl rfl O K (ai _) (.inl (ai _)) _ fun W t R=> ?_;refine yC trivial trivial _ _ _ t jO jS ?_;rw[N,xU];rfl
 have y:((1:Int) !=0)=true:=rfl;have D:((0:Int) !=0)=false:=rfl;by_cases P:z<3∨258<z
 ·refine bz (ald lf (d+6) (n+1) i _ z P) (cH n) (fun _ _ h=>h.elim) ?_;refine jA (aI @dF (aI @ext1 @y)) ?_;exact g _ _ _ (dK n) C fun _=>rfl
 ·obtain⟨s,rfl⟩:∃s:Nat,z=(s:Int):=⟨z.toNat,jO⟩;refine aN aL (M0 lf (d+6) (n+1) i bP _ xs (w.ay (cH n) F) L s jO jO) (cH n) (fun _ _ h=>h.elim) fun Q m l J x I=> ?_;have j:=(x n (dK n) id).trans C;rcases I with ⟨r,u,rfl,T⟩|⟨A,rfl⟩
  ·have G:xs=[]:=by
    rcases p with q|q|q|q
    ·omega
    ·omega
    ·exact q
    ·rw[r]at q;cases q
   subst G;have E:((([]:List Int).length:Int)==0)=true:=rfl;refine jA (aI @dF (aI @ext1 (aI @D @E))) ?_;exact g _ _ _ jO j fun _=>rfl
  ·refine jA (aI @dF (aI @ext1 @y)) ?_;exact g _ _ _ jO j fun _=>rfl
end
def GO(z q:Int):Int:=if z-1<q then z-1 else q
theorem al7{xs:List Int}{z:Int}{p i:Nat}(a:i<xs.length):aH .i64 ((kM xs z p).take (i+1))=aH .i64 ((kM xs z p).take i)++[jI (if fC xs z i=p then 0 else 15)]:=by rw[fq (by rw[yP];exact a)];unfold aH kM;rw[dU];simp
section
variable (lf d n:Nat) (h:H) (bP:3000000<=lf)
include bP
set_option maxHeartbeats 1000000 in
theorem al8(v:Value)(xs:List Int)(z:Int)(hR:Row h n 3 .i64 v xs)(hl:xs.length<=258)(Y:∀x∈xs,0<=x∧x<=1099511627776)(hz:1<=z)(u6:z<=1099511627776):
 ae (fun _=>False) n (eW lf (d+2) 173 #[v,jI z]) h n fun F h' n'=>RR h' n' 141 3 F (lu xs z):=by
 rw[aF (fun _=>ah') rfl];refine ae.aE ?_;unfold KW;have u5:=hR;obtain⟨a,c,rfl⟩:=hR.len;refine bz (alz lf d n h z) (ai _) (fun _ _ h=>h.elim) ?_;have ht:=BH z;obtain⟨t,I⟩:∃t,j1 z=t:=⟨_,rfl⟩;rw[I]at ht⊢
 refine cG t (fun T i (q:Value)=>tE lf (eW lf (d+1)) T (yn lf (eW lf (d+1))) (.slice a xs.length c) (jI z) (.slice none 0 0) (jI (t:Nat)) q (jI (t:Nat)) (jI (i:Nat)))
  (fun i q h' n'=>n<=n'∧(∀b,b<n->h'.get b=h.get b)∧fA h' n n' n' 141 3 q ((aY i).map (kM xs z))) ?_ ?_ lf 0 _ _ _ (bU _) jO ⟨ai _,fun _ _=>rfl,fA.nil _ _ _ _ _ _⟩
 ·rintro T q h' n' ⟨hn,hk,hO⟩;rw[tE];refine jA @bE ?_
  (try unfold yn);(try dsimp only)
  refine jB ?_;have:=hO.rr;unfold lu;rw[I];exact this
 ·rintro T i q h1 y hi ⟨hn,hk,hO⟩ next;have e1:(i:Int)<(t:Int):=jO;rw[tE];refine jA @e1 ?_
  refine cG xs.length (fun f2 j (w:Value×Int)=>tD lf (eW lf (d+1)) f2 (KV lf (eW lf (d+1)) T (yn lf (eW lf (d+1)))) (.slice a xs.length c) (jI z) (.slice none 0 0) (jI (t:Nat)) q (jI (i:Nat)) w.1 (jI w.2) (jI (t:Nat)) (jI (i:Nat)) _ (.slice a xs.length c) (jI (xs.length:Nat)) (jI (j:Nat)))
   (fun j w h' n'=>y<=n'∧(∀b,b<y->h'.get b=h1.get b)∧Own h' y n' 3 w.1 (aH .i64 ((kM xs z i).take j))∧GO z w.2=eO xs z j∧0<=w.2∧w.2<=2199023255552) ?_ ?_ lf 0 (.slice none 0 0,0) _ _ (bU _) jO ⟨ai _,fun _ _=>rfl,Own.nil _ _ _ _,by unfold GO eO;simp only[nE,bI],jO,jO⟩
  ·rintro f2 ⟨w,q2⟩ h' n' ⟨K,B,s,_,_⟩;simp only at s;rw[tD];refine jA @bE ?_
   (try unfold KV);(try unfold E9);(try dsimp only)
   rw[fG (by rw[yP];exact ai _)]at s;have R:=(hO.ay K fun b D _=>B b D).up K;refine Bq trivial jD R s.row (ai _) (by simp;omega) (ai _) jO _ fun v2 l o2 k2 _=> ?_;refine jB ?_;refine next v2 l (n'+2) ⟨jO,fun b D=> ?_, ?_⟩
   ·rw[k2 b jO fun q=>by have:=(R.lt q).1;omega,B b jO];exact hk b D
   ·rw[mv,dU];exact o2.up jO
  ·rintro f2 j ⟨w,q2⟩ h' n' Z ⟨K,B,s,hq,u1,u0⟩ G;simp only at s hq u1 u0;obtain⟨b,P,cap,o,cs,hv,C,D,_,_,_,u4⟩:=(u5.ay (show n<=n' by omega) (fun b D=>(B b jO).trans (hk b D))).some jO;cases hv;have e2:(j:Int)<((xs.length:Nat):Int):=jO;have c1:=u4 j Z;obtain⟨g0,g1⟩:=MV (fun x A=>(Y x A).1) hz (v:=j);have E:=aax (fun x A=>(Y x A).1) hz j;rw[I]at E;have g4:0<=eO xs z j*(t:Int):=Int.mul_nonneg g0 jO;have g5:eO xs z j*(t:Int)<=1099511627776*6:=Int.mul_le_mul jO jO jO jO;have N:IntKind.i64.wrap (eO xs z j*(t:Int))=eO xs z j*(t:Int):=aV jO jO
   have g6:(fC xs z j:Int)<=1099511627776*6:=by
    have:=Int.ediv_le_self z g4;have l:(eO xs z j*(t:Int))/z=(fC xs z j:Int):=by rw[<-E,Int.tdiv_eq_ediv_of_nonneg g4]
    omega
   have X:IntKind.i64.wrap (fC xs z j:Int)=(fC xs z j:Int):=aV jO jO;have U:z≠0:=jO;have xb:=Y _ (yQ Z);have L:IntKind.i64.wrap (eO xs z j+xs.getD j 0)=eO xs z j+xs.getD j 0:=aV jO jO;have W:IntKind.i64.wrap (z-1)=z-1:=aV jO jO;have bn:=aaw (fun x A=>(Y x A).1) (n:=z) Z;have fn:=al7 (z:=z) (p:=i) Z;have Q:(aH .i64 ((kM xs z i).take j)).length+1<=1099511627776:=by rw[cj,cB,yP];omega
   have u2:(aH .i64 ((kM xs z i).take j)).length=j:=by rw[cj,cB,yP];omega
   have r:∀l,l.get (n'+1)=some ⟨3,true,aH .i64 ((kM xs z i).take j)++[jI (if fC xs z j=i then 0 else 15)]⟩->(∀b,b<n'->¬az w b->l.get b=h'.get b)->
    ae (fun _=>False) n (tD lf (eW lf (d+1)) f2 (KV lf (eW lf (d+1)) T (yn lf (eW lf (d+1)))) (.slice (some ⟨b,P,none⟩) xs.length c) (jI z) (.slice none 0 0) (jI (t:Nat)) q (jI (i:Nat)) (.slice (some ⟨n'+1,0,none⟩) (j+1) (aU+(j+1))) (jI (eO xs z j+xs.getD j 0)) (jI (t:Nat)) (jI (i:Nat)) (.bool true) (.slice (some ⟨b,P,none⟩) xs.length c) (jI (xs.length:Nat)) (jI ((j+1:Nat):Int))) l (n'+2) fun F h' n'=>RR h' n' 141 3 F (lu xs z):=by
    intro l g k;rw[<-fn]at g;refine G (_,eO xs z j+xs.getD j 0) l (n'+2) ⟨jO,fun b D=> ?_,Own.mk' g jO jO (by rw[cj,cB,yP];omega), ?_,by simp only;omega,by simp only;omega⟩
    ·rw[k b jO fun q=>by have:=(s.lt q).1;omega];exact B b D
    ·exact bn
   have f:∀(kk:Value->M Value),(∀l,l.get (n'+1)=some ⟨3,true,aH .i64 ((kM xs z i).take j)++[jI (if fC xs z j=i then 0 else 15)]⟩->(∀b,b<n'->¬az w b->l.get b=h'.get b)->ae (fun _=>False) n (kk (.slice (some ⟨n'+1,0,none⟩) (j+1) (aU+(j+1)))) l (n'+2) fun F h' n'=>RR h' n' 141 3 F (lu xs z))->
    ae (fun _=>False) n (bV 3 1 (jI (if fC xs z j=i then 0 else 15)) fun u=>bH 3 1 w u kk) h' n' fun F h' n'=>RR h' n' 141 3 F (lu xs z):=by
    intro kk u3;refine fJ trivial (eI _ _) s Q jO _ fun l g k=> ?_;rw[u2];exact u3 l g k
   rw[tD];by_cases O:z-1<q2
   ·have J:z-1=eO xs z j:=by rw[<-hq];unfold GO;rw[if_pos O]
    rw[<-J]at N E L r;by_cases m:fC xs z j=i
    ·have y:((fC xs z j:Int)==(i:Int))=true:=by rw[m];simp
     rw[if_pos m]at f r;refine jA (aI @e2 (aI @C (aI @c1 (aI @W (aI @O (aI @N (aI @U (aI @E (aI @X @y))))))))) ?_;refine f _ fun l g k=> ?_;refine jA @L ?_;exact r l g k
    ·have y:((fC xs z j:Int)==(i:Int))=false:=beq_eq_false_iff_ne.2 fun e=>m jO;rw[if_neg m]at f r;refine jA (aI @e2 (aI @C (aI @c1 (aI @W (aI @O (aI @N (aI @U (aI @E (aI @X @y))))))))) ?_;refine f _ fun l g k=> ?_;refine jA @L ?_;exact r l g k
   ·have J:q2=eO xs z j:=by rw[<-hq];unfold GO;rw[if_neg O]
    rw[<-J]at N E L r;by_cases m:fC xs z j=i
    ·have y:((fC xs z j:Int)==(i:Int))=true:=by rw[m];simp
     rw[if_pos m]at f r;refine jA (aI @e2 (aI @C (aI @c1 (aI @W (aI @O (aI @N (aI @U (aI @E (aI @X @y))))))))) ?_;refine f _ fun l g k=> ?_;refine jA @L ?_;exact r l g k
    ·have y:((fC xs z j:Int)==(i:Int))=false:=beq_eq_false_iff_ne.2 fun e=>m jO;rw[if_neg m]at f r;refine jA (aI @e2 (aI @C (aI @c1 (aI @W (aI @O (aI @N (aI @U (aI @E (aI @X @y))))))))) ?_;refine f _ fun l g k=> ?_;refine jA @L ?_;exact r l g k
end
theorem al9{p:Nat}{a T:List (List Int)}{i:Nat}(b:i<a.length):jb p (a.take (i+1)) ((fB a T).take (i+1))=jb p (a.take i) ((fB a T).take i)++(if jx (a.getD i []) T=p then a.getD i []else []):=by
 have c:(fB a T).take (i+1)=(fB a T).take i++[jx (a.getD i []) T]:=by rw[fq (by rw[uh];exact b)];congr 2;unfold fB;simp only[nG];rw[aC,aJ b];rfl
 have d:a.take (i+1)=a.take i++[a.getD i []]:=by rw[fq b,aC,aJ b];rfl
 rw[c,d,MU p _ _ _ _ (by rw[cB,cB,uh])]
theorem al'{a T:List (List Int)}{i:Nat}(b:i<a.length):aH .i64 ((eR a T).take (i+1))=aH .i64 ((eR a T).take i)++[jI (jx (a.getD i []) T:Int)]:=by
 have:(eR a T).take (i+1)=(eR a T).take i++[(jx (a.getD i []) T:Int)]:=by rw[fq (by rw[nh];exact b)];congr 2;unfold eR fB;simp only[nG];rw[aC,aJ b];rfl
 rw[this];unfold aH;rw[dU];rfl
theorem al_{a T:List (List Int)}{i:Nat}(b:i<a.length):(eR a T).getD i 0=(jx (a.getD i []) T:Int):=by
 have c:i<(eR a T).length:=by rw[nh];exact b
 have:(eR a T)[i]=(jx a[i] T:Int):=by unfold eR fB;simp
 rw[aC,aJ c,xo,this,aC,aJ b];rfl
section
variable (lf d n:Nat) (h:H) (bP:3000000<=lf)
include bP
set_option maxHeartbeats 2000000 in
theorem ama(v:Value)(xs:List Int)(s:Nat)(hR:Row h n 3 .i64 v xs)(h0:0<xs.length)(hl:xs.length<=1000000)(h3:3<=s)(J:s<=258)(x0:ef s xs=true)(hd:600<=d):
 ae (fun _=>False) n (eW lf d 145 #[v,jI (s:Int)]) h n fun v' h' n'=>∃x y,v'= .agg #[x,y]∧RR h' n' 141 3 x (bO xs s 4)∧Row h' n' 3 .i64 y (eR (iI xs) (bO xs s 3)):=by
 obtain⟨d,rfl⟩:∃e,d=e+8:=⟨d-8,jO⟩;rw[aF (fun _=>ahO) rfl];refine ae.aE ?_;unfold Kv;have l':=hR;obtain⟨a,c,rfl⟩:=hR.len;refine fh Ao _ ?_;obtain⟨ha,u4⟩:∃ha,h.set n (some ⟨195,true,[.slice none 0 0,.slice none 0 0]⟩)=ha:=⟨_,rfl⟩;have ka:∀b,b<n->ha.get b=h.get b:=fun b l=>by rw[<-u4];exact aB _ _ jO
 have ga:ha.get n=some ⟨195,true,[.slice none 0 0,.slice none 0 0]⟩:=by rw[<-u4,get_eq]
 rw[u4];have y1:=l'.ay (cH n) ka;refine aN aL (aaG lf (d+5) (n+1) ha bP _ xs y1 hl s jO) (cH n) (fun _ _ h=>h.elim) fun u h1 n1 hn1 q' hu=> ?_;have cm:∀x∈dn xs s,0<=x∧x<=1099511627776:=fun x L=>by have:=Gx L;omega
 refine jB ?_;refine aN aL (al8 lf (d+5) n1 h1 bP u (dn xs s) (xs.length:Int) hu (by rw[ja];exact J) cm jO jO) jO (fun _ _ h=>h.elim) fun vf h2 r z' p' hf=> ?_;have k2:∀b,b<n+1->h2.get b=ha.get b:=fun b l=>(p' b jO id).trans (q' b l id);have i':=hf;obtain⟨af,cf,rfl⟩:=hf.len;refine jB ?_;refine fh Ao _ ?_;refine nW (cs:=[.slice none 0 0,.slice none 0 0]) trivial (vs:=[.slice af (lu (dn xs s) (xs.length:Int)).length cf,.slice none 0 0]) rfl rfl rfl (get_eq _ _ _) (dK r) (ai _) (.inl jO) _ fun v3 e' k3=> ?_;have u1:∀b,b<r->v3.get b=h2.get b:=fun b l=>by rw[k3 b jO,aB _ _ jO]
 have k':Row v3 (r+1) 3 .i64 (.slice a xs.length c) xs:=y1.ay jO fun b l=>by rw[u1 b jO];exact k2 b l
 refine aN aL (alG lf (d+6) (r+1) v3 bP _ xs k' hl) jO (fun _ _ h=>h.elim) fun vg h4 n4 b' v5 u7=> ?_;have E:=GM hl x0;have ht:=aba hl x0 h3 J;have z7:=yS xs s;have y':=BH (xs.length:Int);have o':h4.get n=some ⟨195,true,[.slice none 0 0,.slice none 0 0]⟩:=by rw[v5 n jO id,u1 n jO,k2 n jO];exact ga
 have x8:h4.get r=some ⟨195,true,[.slice af (lu (dn xs s) (xs.length:Int)).length cf,.slice none 0 0]⟩:=(v5 r jO id).trans e';have g':RR h4 n4 141 3 (.slice af (lu (dn xs s) (xs.length:Int)).length cf) (bO xs s 0):=(i'.ay (cH r) u1).ay b' fun b l=>v5 b l id;obtain⟨f,u5⟩:∃f,iI xs=f:=⟨_,rfl⟩;have z:∀k,bO xs s (k+1)=qq f (bO xs s k) s:=fun k=>by rw[<-u5];rfl
 have gl5:f.length<=20000:=by rw[<-u5,MS];unfold dq;omega
 rw[u5]at E u7⊢;have x6:=u7;obtain⟨ag,cg,rfl⟩:=u7.len
 refine cG 4 (fun fu i (_:Unit)=>ry lf (eW lf (d+7)) fu (vO lf (eW lf (d+7))) (.slice a xs.length c) (jI (s:Nat)) (jP n 0) (jP r 0) (.slice ag f.length cg) (jI (i:Nat)))
  (fun i _ h' n'=>n4<=n'∧(∀b,b<n4->b≠r->h'.get b=h4.get b)∧∃x y,h'.get r=some ⟨195,true,[x,y]⟩∧RR h' n' 141 3 x (bO xs s i)∧one y=true∧(0<i->Row h' n' 3 .i64 y (eR f (bO xs s (i-1))))) ?_ ?_ lf 0 () _ _ (bU _) jO ⟨ai n4,fun _ _ _=>rfl,_,_,x8,g',rfl,fun q=>absurd q (sa 0)⟩
 ·rintro fu _ h' n' ⟨u3,D,x,y,f',L,v8,hy⟩;have z4:¬(((4:Nat):Int)<4):=jO;rw[ry];refine jA @z4 ?_
  (try unfold vO);(try dsimp only)
  refine Bp trivial trivial _ _ _ f' jO jS ?_;have v4:h'.get n=some ⟨195,true,[.slice none 0 0,.slice none 0 0]⟩:=by rw[D n jO jO];exact o'
  have y9:=hy jO;have z1:one x=true:=by obtain⟨_,_,rfl⟩:=L.len;rfl
  refine nW trivial (vs:=[x,y]) rfl rfl (by simp[z1,v8]) v4 jO (ai _) (.inl (ai _)) _ fun h5 P k5=> ?_;refine yC trivial trivial _ _ _ P jO jS ?_;refine jB ?_;refine⟨x,y,rfl,L.mT (ai _) fun b B _ K he=>yD v4 k5 K fun q=> ?_,y9.mT (ai _) fun b B _ K he=>yD v4 k5 K fun q=> ?_⟩
  ·rcases he with he|he
   ·exact absurd (show(141:Nat)=195 from he.symm.trans q) jD
   ·exact absurd (show(3:Nat)=195 from he.symm.trans q) jD
  ·exact absurd (show(3:Nat)=195 from he.symm.trans q) jD
 ·rintro fu i _ h5 n5 hi ⟨a',w9,x,y,P,L,v8,hy⟩ next;have e1:(i:Int)<4:=jO;obtain⟨T,hT⟩:∃T,bO xs s i=T:=⟨_,rfl⟩;have y0:=ht i;have j':=z7 i;rw[hT]at y0 j' L
  have x2:RR h5 n5 141 3 (.slice ag f.length cg) f:=x6.mT a' fun b B l K he=>w9 b l fun q=>by
   subst q;rw[x8]at K;cases K;rcases he with he|he
   ·exact absurd (show(195:Nat)=141 from he) jD
   ·exact absurd (show(195:Nat)=3 from he) jD
  have v6:r<n5:=jO;rw[ry];refine jA @e1 ?_
  refine cG f.length (fun f2 j (w:Value)=>vN lf (eW lf (d+7)) f2 (Vo lf (eW lf (d+7)) fu (vO lf (eW lf (d+7)))) (.slice a xs.length c) (jI (s:Nat)) (jP n 0) (jP r 0) (.slice ag f.length cg) w (jI (i:Nat)) _ (.slice ag f.length cg) (jI (f.length:Nat)) (jI (j:Nat)))
   (fun j w h' n'=>n5<=n'∧(∀b,b<n5->h'.get b=h5.get b)∧Own h' n5 n' 3 w (aH .i64 ((eR f T).take j))) ?_ ?_ lf 0 _ _ _ (bU _) jO ⟨ai _,fun _ _=>rfl,Own.nil _ _ _ _⟩
  rotate_left
  ·rintro f2 j w h' n' I ⟨u3,D,y3⟩ Z;have e2:(j:Int)<((f.length:Nat):Int):=jO;obtain⟨b,y5,cap,o,cs,hv,O,l,v0⟩:=(x2.ay u3 D).at jO;cases hv;obtain⟨q,hq,u2⟩:=v0 j I;have x5:h'.get r=some ⟨195,true,[x,y]⟩:=(D r v6).trans P;have w':r<n':=jO;have gm:f.getD j []∈f:=by rw[aC,aJ I];exact cb I
   obtain⟨g1,g2⟩:=E.1 _ gm;rw[vN];refine jA (aI @e2 (aI @O (aI @hq @x5))) ?_;refine bz (alD lf (d+4) n' h' bP q x _ T u2 (L.ay u3 D) jO jO jO fun t z8=> ?_) jO (fun _ _ h=>h.elim) ?_
   ·obtain⟨t1,t2⟩:=y0 t z8;exact⟨jO,fun y hy=>by have:=t2 y hy;omega,by rw[t1];exact g2⟩
   ·refine fJ trivial (eI _ _) y3 (by rw[cj,cB,nh];omega) jO _ fun h2 x7 c'=> ?_;rw[<-al' I]at x7;refine jB ?_;exact Z _ h2 (n'+2) ⟨jO,fun b l=>by rw[c' b jO fun q=>by have:=(y3.lt q).1;omega];exact D b l,Own.mk' x7 jO jO (by rw[cj,cj,cB,cB,nh];omega)⟩
  ·rintro f2 w h6 n6 ⟨R,N,y2⟩;rw[fG (by rw[nh];exact ai _)]at y2;have x4:h6.get r=some ⟨195,true,[x,y]⟩:=(N r v6).trans P;have x':=L.ay R N;have x1:=x2.ay R N;have v9:=y2.row;have Q:=v9;obtain⟨ax,cx,z0⟩:=L.len;obtain⟨aw,cw,rfl⟩:=v9.len;have y7:r<n6:=jO;rw[vN];refine jA @bE ?_
   (try unfold Vo);(try unfold AL);(try dsimp only)
   refine jA (aI @x4 @z0) ?_
   refine cG T.length (fun f3 p (q:Value)=>tw lf (eW lf (d+7)) f3 (Ku lf (eW lf (d+7)) fu (vO lf (eW lf (d+7)))) (.slice a xs.length c) (jI (s:Nat)) (jP n 0) (jP r 0) (.slice ag f.length cg) (.slice aw (eR f T).length cw) q (jI (i:Nat)) _ _ _ _ _ (jI (T.length:Nat)) (jI (p:Nat)))
    (fun p q h' n'=>n6<=n'∧(∀b,b<n6->h'.get b=h6.get b)∧fA h' n6 n' n' 141 3 q ((aY p).map fun p=>pc (o8 f T s p))) ?_ ?_ lf 0 _ _ _ (bU _) jO ⟨ai _,fun _ _=>rfl,fA.nil _ _ _ _ _ _⟩
   ·rintro f3 q h7 n7 ⟨w7,C,v1⟩;have u6:h7.get r=some ⟨195,true,[x,y]⟩:=(C r y7).trans x4;have w4:=v1.rr;have w1:=w4;obtain⟨aq,cq,rfl⟩:=w4.len;rw[tw];refine jA @bE ?_
    (try unfold Ku);(try unfold EW);(try dsimp only)
    refine jB ?_;refine nW trivial (vs:=[.slice aq ((aY T.length).map fun p=>pc (o8 f T s p)).length cq,.slice aw (eR f T).length cw]) rfl rfl rfl u6 jO (ai _) (.inl jO) _ fun W d' k8=> ?_;refine jB ?_;refine next () W n7 ⟨jO,fun b l w5=>by rw[k8 b w5,C b jO,N b jO];exact w9 b l w5,_,_,d', ?_,rfl,fun _=> ?_⟩
    ·have:=w1.mT (h':=W) (ai _) fun b B _ K he=>yD u6 k8 K fun q=> ?_
     ·rw[z,hT];exact this
     ·rcases he with he|he
      ·exact absurd (show(141:Nat)=195 from he.symm.trans q) jD
      ·exact absurd (show(3:Nat)=195 from he.symm.trans q) jD
    ·have:=(Q.ay w7 C).mT (h':=W) (ai _) fun b B _ K he=>yD u6 k8 K fun q=>absurd (show(3:Nat)=195 from he.symm.trans q) jD;rw[show i+1-1=i by omega,hT];exact this
   ·rintro f3 p q h7 n7 hp ⟨w7,C,v1⟩ Y;have e3:(p:Int)<((T.length:Nat):Int):=jO;rw[tw];refine jA @e3 ?_
    refine cG f.length (fun f4 j (w2:Value)=>tr lf (eW lf (d+7)) f4 (Vn lf (eW lf (d+7)) f3 (Ku lf (eW lf (d+7)) fu (vO lf (eW lf (d+7))))) (.slice a xs.length c) (jI (s:Nat)) (jP n 0) (jP r 0) (.slice ag f.length cg) (.slice aw (eR f T).length cw) q (jI (p:Nat)) w2 (jI (i:Nat)) _ _ _ _ _ (jI (T.length:Nat)) (jI (p:Nat)) _ (.slice ag f.length cg) (jI (f.length:Nat)) (jI (j:Nat)))
     (fun j w2 h' n'=>n7<=n'∧(∀b,b<n7->h'.get b=h7.get b)∧Own h' n7 n' 3 w2 (aH .i64 (jb p (f.take j) ((fB f T).take j)))) ?_ ?_ lf 0 _ _ _ (bU _) jO ⟨ai _,fun _ _=>rfl,Own.nil _ _ _ _⟩
    ·rintro f4 w2 W n8 ⟨w6,A,F⟩;rw[tr];refine jA @bE ?_
     (try unfold Vn);(try unfold EV);(try dsimp only)
     rw[eh,fG (by rw[uh];exact ai _)]at F;have al:=BG p f (fB f T) fun g hg=>(E.1 g hg).1;refine aN aL (aaG lf (d+5) n8 W bP _ _ F.row jO s jO) jO (fun _ _ h=>h.elim) fun u9 h9 n9 z9 y4 z6=> ?_;refine aN aL (al0 lf (d+6) n9 h9 bP u9 (o8 f T s p) z6 (by show 3<=(dn _ _).length;rw[ja];exact h3) (by show(dn _ _).length<=258;rw[ja];exact J) (BP f T s p E (fun _ h=>h) (ai _)) jO) jO (fun _ _ h=>h.elim) fun u' h10 u0 s' X w0=> ?_;have U:=(v1.ay (show n7<=u0 by omega) fun b l _=>by rw[X b jO id,y4 b jO id];exact A b l).up (show n7<=u0 by omega);refine Bq trivial jD U w0 (ai _) (by simp;omega) jO jO _ fun v2 m' y6 y8 _=> ?_;refine jB ?_;refine Y v2 m' (u0+2) ⟨jO,fun b l=> ?_, ?_⟩
     ·rw[y8 b jO fun q=>by have:=(U.lt q).1;omega,X b jO id,y4 b jO id,A b jO];exact C b l
     ·rw[mv,dU];exact y6.up jO
    ·rintro f4 j w2 W n8 I ⟨w6,A,F⟩ G;have e4:(j:Int)<((f.length:Nat):Int):=jO;have v7:∀b,b<n6->W.get b=h6.get b:=fun b l=>(A b jO).trans (C b l);obtain⟨b,y5,cap,o,cs,hv,O,l,v0⟩:=(x1.ay (show n6<=n8 by omega) v7).at jO;cases hv;obtain⟨g,hq,u2⟩:=v0 j I;have z2:=Q.ay (show n6<=n8 by omega) v7;obtain⟨b2,r',t',o2,cs2,z5,x3,hb2,_,_,_,x9⟩:=z2.some (by rw[nh];omega);cases z5;have e5:(j:Int)<(((eR f T).length:Nat):Int):=by rw[nh];omega
     have c5:=x9 j (by rw[nh];exact I);rw[al_ I]at c5;have an:=al9 (p:=p) (T:=T) I;have al:=BG p (f.take j) ((fB f T).take j) fun g hg=>(E.1 g (j4 hg)).1;rw[cB]at al;have gm:f.getD j []∈f:=by rw[aC,aJ I];exact cb I
     obtain⟨g1,g2⟩:=E.1 _ gm;rw[tr];by_cases m:jx (f.getD j []) T=p
     ·have n1:((jx (f.getD j []) T:Int)==(p:Int))=true:=by rw[m];simp
      rw[if_pos m]at an;refine jA (aI @e4 (aI @O (aI @hq (aI @e5 (aI @x3 (aI @c5 @n1)))))) ?_;refine rj trivial F u2 (by rw[cj];omega) jO jO _ fun w3 h9 n9 z9 o9 _ k9=> ?_;refine jB ?_;refine G w3 h9 n9 ⟨jO,fun b l=>by rw[k9 b jO fun q=>by have:=(F.lt q).1;omega];exact A b l, ?_⟩;rw[an];have:aH .i64 (jb p (f.take j) ((fB f T).take j)++f.getD j [])=aH .i64 (jb p (f.take j) ((fB f T).take j))++aH .i64 (f.getD j []):=by unfold aH;rw[dU]
      rw[this];exact o9
     ·have n1:((jx (f.getD j []) T:Int)==(p:Int))=false:=beq_eq_false_iff_ne.2 fun e=>m jO;rw[if_neg m,cz]at an;refine jA (aI @e4 (aI @O (aI @hq (aI @e5 (aI @x3 (aI @c5 @n1)))))) ?_;refine G w2 W n8 ⟨w6,A, ?_⟩;rw[an];exact F
end
section
variable (lf d n:Nat) (h:H)
structure xf (h:H) (n:Nat) (v:Value) (L:List (List Int)) (K:List Int):Prop where
 ex:∃x y,v= .agg #[x,y]∧RR h n 141 3 x L∧Row h n 3 .i64 y K
end
theorem xf.agg{h:H}{n:Nat}{v:Value}{L:List (List Int)}{K:List Int}(x:xf h n v L K):∃a c d b,v= .agg #[.slice a L.length c,.slice d K.length b]∧RR h n 141 3 (.slice a L.length c) L∧Row h n 3 .i64 (.slice d K.length b) K:=by obtain⟨x,y,rfl,i,g⟩:=x.ex;have f:=i;have e:=g;obtain⟨a,c,rfl⟩:=i.len;obtain⟨d,b,rfl⟩:=g.len;exact⟨a,c,d,b,rfl,f,e⟩
section
variable (lf d n:Nat) (h:H)
variable (bP:3000000<=lf) (hd:700<=d)
include bP hd
end
end Go.Proofs.YtcehhgppfahbkaaGreatDoor
namespace Go.Proofs.YtcehhgppfahbkaaGreatDoor
open Go.RowKit Ev
def xg(sv:Value)(a:List Bool)(t:Nat):AB:=⟨133,true,[sv,.int .u8 (oY a:Int),jI (t:Int)]⟩
structure ni (h:H) (lo n w:Nat) (sv:Value) (s:List Nat×List Bool) (t:Nat):Prop where
 get:h.get w=some (xg sv s.2 t)
 lt:w<n
 ge:lo<=w
 own:Own h lo n 5 sv (cF s.1)
 ne:∀b,az sv b->b≠w
 len:s.2.length=t %8
theorem ni.ay{h h':H}{lo n n' w:Nat}{sv:Value}{s:List Nat×List Bool}{t:Nat}(x:ni h lo n w sv s t)(a:n<=n')(c:∀b,b<n->(b=w∨az sv b)->h'.get b=h.get b):ni h' lo n' w sv s t:=
 ⟨(c w x.lt (.inl rfl)).trans x.get,eD x.lt a,x.ge,x.own.ay a fun b d=>c b (x.own.lt d).2 (.inr d),x.ne,x.len⟩
section
variable {lf d lo n w t:Nat} {h:H} {sv:Value} {s:List Nat×List Bool}
set_option maxRecDepth 4000 in
theorem abb(x:ni h lo n w sv s t)(Q:t<4611686018427387904)(A:s.1.length+1<=1099511627776)(b:Bool):ae (fun c=>c=w∨az sv c) n (eW lf (d+1) 90 #[jP w 0,.int .u8 (bn b:Int)]) h n fun v h' n'=>v= .tuple #[]∧∃j,ni h' lo n' w j (dG s b) (t+1)∧∀c,az j c->az sv c∨n<=c:=by
 obtain⟨m,z,k,o,f,B⟩:=x;obtain⟨ws,a⟩:=s;simp only at m o B A;have O:=m;unfold xg at m;rw[aF (fun _=>Tj) rfl];refine ae.aE ?_;unfold J0;have E:((t:Int)).tmod 8=((a.length:Nat):Int):=by rw[B];rfl
 have L:a.length<8:=jO;have D:IntKind.i64.wrap (7-(a.length:Int))=((7-a.length:Nat):Int):=by rw[aV jO jO];omega
 have y:=ajN (wS b) (show 7-a.length<=7 by omega);rw[eg]at y
 have u:=or8 (ajL (r:=a) jO) (show bn b*2^(7-a.length)<256 by
  have R:=wS b;have N:2^(7-a.length)<=2^7:=oD jD jO;have:bn b*2^(7-a.length)<=1*2^7:=Nat.mul_le_mul jO N
  omega)
 rw[ajM L b]at u;have C:(0:Int)<=((7-a.length:Nat):Int):=jO;by_cases l:a.length=7
 ·have p:(((a.length:Nat):Int)==7)=true:=by rw[l];rfl
  try simp(disch:=first|omega|assumption|exact gY _) only[Nat.reduceAdd,Nat.reduceLT,RZ,cZ,da,db,dc,de,dg,dh,di,dj,dk,m,E,D,y,u,C,p]
  have F:Own ((h.set w (some ⟨133,true,[sv,.int .u8 (oY (a++[b]):Int),jI (t:Int)]⟩)).set w (some ⟨133,true,[sv,.int .u8 (oY (a++[b]):Int),jI ((t:Int)+1)]⟩)) lo n 5 sv (cF ws):=o.ay (ai _) fun c g=>by rw[aB _ _ (f c g),aB _ _ (f c g)]
  refine F' trivial (eI _ _) F (by rw[iV];exact A) (fun c g=> .inr (.inr g)) _ fun h' K J=> ?_;have P:h'.get w=some ⟨133,true,[sv,.int .u8 (oY (a++[b]):Int),jI ((t:Int)+1)]⟩:=by rw[J w z (fun q=>f w q rfl),get_eq]
  have I:w≠n+1:=jO;try simp(disch:=first|omega|assumption|exact gY _) only[Nat.reduceAdd,Nat.reduceLT,RZ,cZ,da,db,dc,de,dg,dh,di,dj,dk,P,true_or,or_true]
  have i:dG (ws,a) b=(ws++[num (a++[b]) 0],[]):=by unfold dG;rw[if_pos l]
  have G:oY (a++[b])=num (a++[b]) 0:=by unfold oY;simp[l]
  refine⟨_,⟨by rw[get_eq];unfold xg;rw[i];rfl,jO,k, ?_,fun c g=>by rw[g.inj];omega, ?_⟩,fun c g=> .inr (by rw[g.inj];omega)⟩
  ·rw[i];rw[iV];refine .inr ⟨n+1,by simp[iV], ?_,jO,jO⟩;rw[aB _ _ jO,aB _ _ jO,K,G,Mj];rfl
  ·rw[i];simp;omega
 ·have p:(((a.length:Nat):Int)==7)=false:=by simpa using fun e:((a.length:Nat):Int)=7=>l jO
  try simp(disch:=first|omega|assumption|exact gY _) only[Nat.reduceAdd,Nat.reduceLT,RZ,cZ,da,db,dc,de,dg,dh,di,dj,dk,m,E,D,y,u,C,p]
  have i:dG (ws,a) b=(ws,a++[b]):=by unfold dG;rw[if_neg l]
  refine⟨sv,⟨by rw[get_eq,i];rfl,z,k, ?_,f,by rw[i];simp;omega⟩,fun c g=> .inl g⟩;rw[i];exact o.ay (ai _) fun c g=>by rw[aB _ _ (f c g),aB _ _ (f c g)]
end
theorem amb(v n i:Nat)(h:i<n):bh (v/2^(n-i)) i++[decide (v/2^(n-1-i)%2=1)]=bh (v/2^(n-(i+1))) (i+1):=by show _=bh (v/2^(n-(i+1))/2) i++_;rw[Nat.div_div_eq_div_mul,<-Nat.pow_succ,show(n-(i+1)).succ=n-i by omega,show n-(i+1)=n-1-i by omega]
section
variable {lf d lo n w t:Nat} {h:H} {sv:Value} {s:List Nat×List Bool}
theorem amc{v k:Nat}(f:k<=32)(b:v<2^k):ae (fun _=>False) n (eW lf (d+1) 89 #[.int .u32 (v:Int),jI (k:Int)]) h n fun e h' n'=>e= .bool true∧h'=h∧n'=n:=by
 rw[aF (fun _=>Ti) rfl];refine ae.aE ?_;unfold JZ;have j:(0:Int)<=(k:Int):=jO;have i:(k:Int)<=32:=jO;have a:v<4294967296:=eD b (oD jD f);have g:IntKind.u64.wrap (v:Int)=(v:Int):=IntWalk.u64_in _ jO;have c:=fdiv_pow v k (IntKind.u64).bits (by simp[Ht];omega);rw[eg,Nat.div_eq_of_lt b]at c;try simp(disch:=first|omega|assumption|exact gY _) only[Nat.reduceAdd,Nat.reduceLT,RZ,cZ,da,db,dc,de,dg,dh,di,dj,dk,j,i,g,c]
 rfl
theorem amd{v k:Nat}(J:k<=32)(E:v<2^k){x6 x8 x11:Value}(I:t+32<4611686018427387904)(X:s.1.length+33<=1099511627776){g:Nat}(F:s.2.length<8):∀(m i a n:Nat) (h:H) (j:Value),i+m=k->m<a->g<=n->w<g->ni h lo n w j (dv s (bh (v/2^(k-i)) i)) (t+i)->(∀c,c<g->az j c->az sv c)->
 ae (fun c=>c=w∨az sv c) g (vn lf (eW lf (d+1)) a (D2 lf (eW lf (d+1))) (jP w 0) (.int .u32 (v:Int)) (jI (k:Int)) x6 x8 x11 (jI (k:Int)) (jI (i:Int))) h n fun B h' n'=>B=jI 0∧∃b,ni h' lo n' w b (dv s (bh v k)) (t+k)∧∀c,c<g->az b c->az sv c:=by
 intro m
 induction m with
 |zero=>
  intro i a n h j K L z y x o;obtain⟨a,rfl⟩:∃f,a=f+1:=⟨a-1,jO⟩;obtain rfl:i=k:=jO;rw[vn];have r:¬((i:Int)<(i:Int)):=jO;try simp(disch:=first|omega|assumption|exact gY _) only[Nat.reduceAdd,Nat.reduceLT,RZ,cZ,da,db,dc,de,dg,dh,di,dj,dk,r]
  (try unfold D2);(try dsimp only)
  try simp(disch:=first|omega|assumption|exact gY _) only[Nat.reduceAdd,Nat.reduceLT,RZ,cZ,da,db,dc,de,dg,dh,di,dj,dk]
  rw[j8,Nat.pow_zero,Nat.div_one]at x;exact⟨j,x,o⟩
 |succ m D=>
  intro i a n h j K L z y x o;obtain⟨a,rfl⟩:∃f,a=f+1:=⟨a-1,jO⟩;rw[vn];have r:(i:Int)<(k:Int):=jO;have W:IntKind.i64.wrap ((k:Int)-1-(i:Int))=((k-1-i:Nat):Int):=by rw[aV jO jO];omega
  have U:IntKind.i64.wrap ((k:Int)-1)=(k:Int)-1:=aV jO jO;have T:(0:Int)<=((k-1-i:Nat):Int):=jO;have A:=fdiv_pow v (k-1-i) (uA).bits (by simp[Ht];omega);rw[eg]at A;have l:v<4294967296:=eD E (oD jD J);have R:=ajO (Nat.lt_of_le_of_lt (Nat.div_le_self v (2^(k-1-i))) l);have Q:IntKind.u8.wrap ((v/2^(k-1-i)%2:Nat):Int)=(bn (decide (v/2^(k-1-i)%2=1)):Int):=by rw[Zh];exact w8 jO
  try simp(disch:=first|omega|assumption|exact gY _) only[Nat.reduceAdd,Nat.reduceLT,RZ,cZ,da,db,dc,de,dg,dh,di,dj,dk,r,W,U,T,A,R,Q]
  have Y:(dv s (bh (v/2^(k-i)) i)).1.length<=s.1.length+i:=by have:=Mo (bh (v/2^(k-i)) i) s;rw[cA]at this;exact this
  refine aN aL (abb x jO jO _) z (fun c N hq=> ?_) ?_
  ·rcases hq with rfl|hq
   ·exact .inr (.inl rfl)
   ·by_cases e:c<g
    ·exact .inr (.inr (o c e hq))
    ·exact .inl jO
  ·rintro _ O C G Z ⟨rfl,b,u,p⟩;have P:IntKind.i64.wrap ((i:Int)+1)=((i+1:Nat):Int):=F3 jO;try simp(disch:=first|omega|assumption|exact gY _) only[Nat.reduceAdd,Nat.reduceLT,RZ,cZ,da,db,dc,de,dg,dh,di,dj,dk,P]
   rw[show dG (dv s (bh (v/2^(k-i)) i)) (decide (v/2^(k-1-i)%2=1))=dv s (bh (v/2^(k-(i+1))) (i+1)) by rw[<-amb v k i jO,Bs];rfl]at u;refine D (i+1) a C O b jO jO jO y u fun c e hq=> ?_;rcases p c hq with q|q
   ·exact o c e q
   ·omega
theorem ame(x:ni h lo n w sv s t){v k:Nat}(e:k<=32)(b:v<2^k)(g:t+32<4611686018427387904)(i:s.1.length+33<=1099511627776)(j:33<=lf):ae (fun c=>c=w∨az sv c) n (eW lf (d+2) 56 #[jP w 0,.int .u32 (v:Int),jI (k:Int)]) h n fun f h' n'=>f=jI 0∧∃a,ni h' lo n' w a (dv s (bh v k)) (t+k)∧∀c,c<n->az a c->az sv c:=by
 rw[aF (fun _=>SM) rfl];refine ae.aE ?_;unfold D3;try simp(disch:=first|omega|assumption|exact gY _) only[Nat.reduceAdd,Nat.reduceLT,RZ,cZ,da,db,dc,de,dg,dh,di,dj,dk]
 refine bz (amc e b) (ai _) (fun _ _ h=>h.elim) ?_;try simp(disch:=first|omega|assumption|exact gY _) only[Nat.reduceAdd,Nat.reduceLT,RZ,cZ,da,db,dc,de,dg,dh,di,dj,dk]
 exact amd e b g i (by have:=x.len;omega) k 0 lf n h sv jO jO (ai _) x.lt (by rw[Nat.sub_zero];exact x) (fun c _ q=>q)
theorem amf:ae (fun _=>False) n (eW lf (d+1) 55 #[]) h n fun v h' n'=>v=jP n 0∧n'=n+1∧ni h' n n' n (.slice none 0 0) ([],[]) 0:=by
 rw[aF (fun _=>SJ) rfl];refine ae.aE ?_;unfold JP;try simp(disch:=first|omega|assumption|exact gY _) only[Nat.reduceAdd,Nat.reduceLT,RZ,cZ,da,db,dc,de,dg,dh,di,dj,dk]
 refine kK trivial _ _ ?_;try simp(disch:=first|omega|assumption|exact gY _) only[Nat.reduceAdd,Nat.reduceLT,RZ,cZ,da,db,dc,de,dg,dh,di,dj,dk]
 exact⟨get_eq _ _ _,jO,ai _,Own.nil _ _ _ _,fun b a=>a.not_nil.elim,rfl⟩
theorem amg(x:ni h lo n w sv s t):ae (fun c=>c=w) n (eW lf (d+1) 58 #[jP w 0]) h n fun v h' n'=>v= .string ⟨(bS s.1).toArray⟩∧n'=n∧ni h' lo n w (.slice none 0 0) ([],s.2) t:=by
 obtain⟨a,g,e,f,i,j⟩:=x;have l:=a;unfold xg at a;rw[aF (fun _=>SP) rfl];refine ae.aE ?_;unfold JR;try simp(disch:=first|omega|assumption|exact gY _) only[Nat.reduceAdd,Nat.reduceLT,RZ,cZ,da,db,dc,de,dg,dh,di,dj,dk,a]
 refine Y9 f _ ?_;try simp(disch:=first|omega|assumption|exact gY _) only[Nat.reduceAdd,Nat.reduceLT,RZ,cZ,da,db,dc,de,dg,dh,di,dj,dk,a]
 exact⟨get_eq _ _ _,g,e,Own.nil _ _ _ _,fun b k=>k.not_nil.elim,j⟩
end
def oh(t:Nat):Nat:=(8-t %8)%8
def nj(l:List Bool):List Bool:=l++bD (oh l.length) false
def cO(l:List Bool):List Nat:=(dv ([],[]) l).1
def BQ(l:List Bool):List Bool:=(dv ([],[]) l).2
def cK(K:Nat)(h:H)(lo n w:Nat)(sv:Value)(l:List Bool):Prop:=K<=(cO l).length∧ni h lo n w sv ((cO l).drop K,BQ l) l.length
theorem M9:∀(f:List Bool) (s:List Nat×List Bool) (K:Nat),K<=s.1.length->dv (s.1.drop K,s.2) f=((dv s f).1.drop K,(dv s f).2)∧K<=(dv s f).1.length
 |[],s,K,h=>⟨rfl,h⟩
 |b::f,(ws,r),K,h=>by
  show dv (dG (ws.drop K,r) b) f=((dv (dG (ws,r) b) f).1.drop K,(dv (dG (ws,r) b) f).2)∧K<=(dv (dG (ws,r) b) f).1.length;have h:K<=ws.length:=h;by_cases c:r.length=7
  ·have d:dG (ws.drop K,r) b=(ws.drop K++[num (r++[b]) 0],[]):=by unfold dG;rw[if_pos c]
   have a:dG (ws,r) b=(ws++[num (r++[b]) 0],[]):=by unfold dG;rw[if_pos c]
   rw[d,a,<-List.drop_append_of_le_length h];exact M9 f (ws++[num (r++[b]) 0],[]) K (by rw[aG];exact Nat.le_add_right_of_le h)
  ·have d:dG (ws.drop K,r) b=(ws.drop K,r++[b]):=by unfold dG;rw[if_neg c]
   have a:dG (ws,r) b=(ws,r++[b]):=by unfold dG;rw[if_neg c]
   rw[d,a];exact M9 f (ws,r++[b]) K h
theorem abc{K:Nat}{l:List Bool}(h:K<=(cO l).length)(f:List Bool):dv ((cO l).drop K,BQ l) f=((cO (l++f)).drop K,BQ (l++f))∧K<=(cO (l++f)).length:=by have e:dv ([],[]) (l++f)=dv (dv ([],[]) l) f:=Bs _ _ _;unfold cO BQ;rw[e];exact M9 f _ K h
theorem cK.lt{K:Nat}{h:H}{lo n w:Nat}{sv:Value}{l:List Bool}(x:cK K h lo n w sv l):w<n:=x.2.lt
theorem cK.own{K:Nat}{h:H}{lo n w:Nat}{sv:Value}{l:List Bool}(x:cK K h lo n w sv l):Own h lo n 5 sv (cF ((cO l).drop K)):=x.2.own
theorem cK.ay{K:Nat}{h h':H}{lo n n' w:Nat}{sv:Value}{l:List Bool}(x:cK K h lo n w sv l)(a:n<=n')(c:∀b,b<n->(b=w∨az sv b)->h'.get b=h.get b):cK K h' lo n' w sv l:=⟨x.1,x.2.ay a c⟩
theorem amh(l:List Bool):(dv ([],[]) l).2.length=l.length %8:=by rw[Zi l jD];simp
theorem Na:∀(l:List Bool) (s:List Nat×List Bool),s.2.length<8->8*(dv s l).1.length+(dv s l).2.length=8*s.1.length+s.2.length+l.length
 |[],s,_=>by show 8*s.1.length+s.2.length=8*s.1.length+s.2.length+0;omega
 |b::l,(ws,r),h=>by
  show 8*(dv (dG (ws,r) b) l).1.length+(dv (dG (ws,r) b) l).2.length=8*ws.length+r.length+(l.length+1);have h:r.length<8:=h;by_cases c:r.length=7
  ·have d:dG (ws,r) b=(ws++[num (r++[b]) 0],[]):=by unfold dG;rw[if_pos c]
   have a:=Na l (ws++[num (r++[b]) 0],[]) (by show 0<8;decide);rw[d,a];show 8*(ws++[num (r++[b]) 0]).length+0+l.length=_;rw[aG];show 8*(ws.length+1)+0+l.length=_;omega
  ·have d:dG (ws,r) b=(ws,r++[b]):=by unfold dG;rw[if_neg c]
   have a:=Na l (ws,r++[b]) (by show(r++[b]).length<8;rw[aG];show r.length+1<8;omega);rw[d,a];show 8*ws.length+(r++[b]).length+l.length=_;rw[aG];show 8*ws.length+(r.length+1)+l.length=_;omega
theorem abd(l:List Bool):(dv ([],[]) l).1.length<=l.length:=by have:=Mo l ([],[]);simpa using this
section
variable {lf d lo n w K:Nat} {h:H} {sv:Value} {l:List Bool}
theorem lx(x:cK K h lo n w sv l){v k:Nat}(i:k<=32)(g:v<2^k)(q:l.length<=1000000000)(b:33<=lf):ae (fun c=>c=w∨az sv c) n (eW lf (d+2) 56 #[jP w 0,.int .u32 (v:Int),jI (k:Int)]) h n fun f h' n'=>f=jI 0∧∃a,cK K h' lo n' w a (l++bh v k)∧∀c,c<n->az a c->az sv c:=by
 have p:=abd l;obtain⟨o,m⟩:=abc x.1 (bh v k);have hd:((cO l).drop K).length<=(dv ([],[]) l).1.length:=by rw[fp];exact arn _ _
 refine(ame (lf:=lf) (d:=d) x.2 i g jO (by show((cO l).drop K).length+33<=_;omega) b).mono ?_;rintro f h' n' _ ⟨rfl,a,e,j⟩;rw[o]at e;refine⟨rfl,a,⟨m, ?_⟩,j⟩;rw[aG,cA];exact e
theorem ami{g:Nat}:∀(m b n:Nat) (h:H) (i:Value) (l:List Bool),(l.length+m)%8=0->m<8->m<b->l.length<=1000000000->g<=n->w<g->cK K h lo n w i l->(∀c,c<g->az i c->az sv c)->
 ae (fun c=>c=w∨az sv c) g (vp lf (eW lf (d+1)) b (D5 lf (eW lf (d+1))) (jP w 0)) h n fun z h' n'=>z= .tuple #[]∧∃a,cK K h' lo n' w a (l++bD m false)∧∀c,c<g->az a c->az sv c:=by
 intro m
 induction m with
 |zero=>
  intro b n h i l P J N L C B x k;obtain⟨b,rfl⟩:∃f,b=f+1:=⟨b-1,jO⟩;have j:=x.2.get;unfold xg at j;have lt:=x.2.lt;have v:((l.length:Nat):Int).tmod 8=((l.length %8:Nat):Int):=rfl;have u:((((l.length %8:Nat):Int)) !=0)=false:=by rw[show l.length %8=0 by omega];rfl
  rw[vp];refine jA (aI @j (aI @v @u)) ?_
  (try unfold D5);(try dsimp only)
  refine jB ?_;refine⟨i, ?_,k⟩;simpa using x
 |succ m G=>
  intro b n h i l P J N L C B x k;obtain⟨b,rfl⟩:∃f,b=f+1:=⟨b-1,jO⟩;have j:=x.2.get;unfold xg at j;have lt:=x.2.lt;have v:((l.length:Nat):Int).tmod 8=((l.length %8:Nat):Int):=rfl;have u:((((l.length %8:Nat):Int)) !=0)=true:=by rw[bne_iff_ne];omega
  rw[vp];refine jA (aI @j (aI @v @u)) ?_;have R:=abd l;have hd:((cO l).drop K).length<=(dv ([],[]) l).1.length:=by rw[fp];exact arn _ _
  obtain⟨t,Q⟩:=abc x.1 [false];have t:dG ((cO l).drop K,BQ l) false=_:=t;have p:=abb (lf:=lf) (d:=d) x.2 jO (by show((cO l).drop K).length+1<=_;omega) false;rw[t]at p;rw[show((bn false:Nat):Int)=0 from rfl]at p;refine aN aL p C (fun c O hq=> ?_) ?_
  ·rcases hq with rfl|hq
   ·exact .inr (.inl rfl)
   ·by_cases e:c<g
    ·exact .inr (.inr (k c e hq))
    ·exact .inl jO
  ·rintro _ D A I T ⟨rfl,a,F,s⟩
   have E:cK K D lo A w a (l++[false]):=by refine⟨Q, ?_⟩;rw[aG];exact F
   refine jB ?_;refine(G b A D a (l++[false]) (by simp;omega) jO jO (by simp;omega) jO B E fun c e hq=> ?_).mono ?_
   ·rcases s c hq with q|q
    ·exact k c e q
    ·omega
   ·rintro z h' n' _ ⟨rfl,o,y,r⟩;refine⟨rfl,o, ?_,r⟩;rw[bW]at y;exact y
theorem amj(x:cK K h lo n w sv l)(f:l.length<=100000000)(e:33<=lf):ae (fun c=>c=w∨az sv c) n (eW lf (d+2) 60 #[jP w 0]) h n fun b h' n'=>b= .tuple #[]∧∃a,cK K h' lo n' w a (nj l)∧∀c,c<n->az a c->az sv c:=by rw[aF (fun _=>SX) rfl];refine ae.aE ?_;unfold D6;exact ami (oh l.length) lf n h sv l (by unfold oh;omega) (by unfold oh;omega) (by unfold oh;omega) jO (ai _) (x.2.lt) x fun c _ q=>q
theorem amk:ae (fun _=>False) n (eW lf (d+1) 55 #[]) h n fun v h' n'=>v=jP n 0∧n'=n+1∧cK 0 h' n n' n (.slice none 0 0) []:=amf.mono fun _ _ _ _ q=>⟨q.1,q.2.1,bU _,q.2.2⟩
theorem aml(x:cK K h lo n w sv l):ae (fun c=>c=w) n (eW lf (d+1) 58 #[jP w 0]) h n fun v h' n'=>v= .string ⟨(bS ((cO l).drop K)).toArray⟩∧n'=n∧cK (cO l).length h' lo n w (.slice none 0 0) l:=(amg (lf:=lf) (d:=d) x.2).mono fun _ _ _ _ q=>⟨q.1,q.2.1,ai _,by rw[my];exact q.2.2⟩
theorem abe(i:l.length<=100000000)(o:33<=lf):ae (fun _=>False) n (eW lf (d+1) 26 #[tx l]) h n fun b h' n'=>b=tx (nj l)∧h'=h∧n'=n:=by
 rw[aF (fun _=>agw) rfl];refine ae.aE ?_;unfold JO
 have c:∀(m a:Nat) (l:List Bool),(l.length+m)%8=0->m<8->m<a->l.length+m<=100000100->ae (fun _=>False) n (vm lf (eW lf d) a (D1 lf (eW lf d)) (tx l) (.string ⟨#[]⟩)) h n fun b h' n'=>b=tx (l++bD m false)∧h'=h∧n'=n:=by
  intro m
  induction m with
  |zero=>
   intro a l q k p i;obtain⟨a,rfl⟩:∃f,a=f+1:=⟨a-1,jO⟩;have g:((l.length:Nat):Int).tmod 8=((l.length %8:Nat):Int):=rfl;have e:((((l.length %8:Nat):Int)) !=0)=false:=by rw[show l.length %8=0 by omega];rfl
   rw[vm];refine jA (aI @ql (aI @g @e)) ?_
   (try unfold D1);(try dsimp only)
   refine jB ?_;simp
  |succ m j=>
   intro a l q k p i;obtain⟨a,rfl⟩:∃f,a=f+1:=⟨a-1,jO⟩;have g:((l.length:Nat):Int).tmod 8=((l.length %8:Nat):Int):=rfl;have e:((((l.length %8:Nat):Int)) !=0)=true:=by rw[bne_iff_ne];omega
   have r:=fL l [false] (by simp;omega);rw[vm];refine jA (aI @ql (aI @g (aI @e (aI @od @r)))) ?_;have:=j a (l++[false]) (by simp;omega) jO jO (by simp;omega);rw[bW]at this;exact this
 exact c (oh l.length) lf l (by unfold oh;omega) (by unfold oh;omega) (by unfold oh;omega) (by unfold oh;omega)
theorem amm(a b:List Nat):bS (a++b)=bS a++bS b:=by unfold bS;simp
end
end Go.Proofs.YtcehhgppfahbkaaGreatDoor
namespace Go.Proofs.YtcehhgppfahbkaaGreatDoor
open Go.RowKit Ev Cn
def mc(k:Nat):List Bool:=(bD k [true,false]).flatten
def oj(k:Nat):List Bool:=(bD k [true,true]).flatten
def pd:Nat->List Nat->List Bool
 |_,[]=>[]
 |now,n::l=>mc (n-now)++(oj (now-n)++(false::pd n l))
def iJ(ln:List Nat):List Bool:=bh (ln.getD 0 0) 5++pd (ln.getD 0 0) ln
theorem abf(k:Nat):mc (k+1)=[true,false]++mc k:=by unfold mc;rw[HE,HG]
theorem abg(k:Nat):oj (k+1)=[true,true]++oj k:=by unfold oj;rw[HE,HG]
theorem yT(k:Nat):(mc k).length=2*k:=by unfold mc;simp;omega
theorem BR(k:Nat):(oj k).length=2*k:=by unfold oj;simp;omega
theorem Nb:∀(ln:List Nat) (a:Nat),a<=20->(∀x∈ln,x<=20)->(pd a ln).length<=41*ln.length
 |[],_,_,_=>by simp[pd]
 |n::l,a,h,b=>by have:=Nb l n (b n jS) fun x c=>b x (by simp[c]);have:=b n jS;unfold pd;simp only[aG,ct,yT,BR];omega
def GP(r:FuncId->Array Value->M Value)(c:Value)(W:Nat->Prop)(n0:Nat)(St:List Bool->H->Nat->Prop):Prop:=
 ∀(Q:Value->H->Nat->Prop) (l:List Bool) (h:H) (n v k:Nat) (K:Value->M Value),St l h n->l.length<=10000000->v<2^k->k<=15->(∀b a,St (l++bh v k) b a->ae W n0 (K (.tuple #[])) b a Q)->ae W n0 (gI aa r c [jI (v:Int),jI (k:Int)] K) h n Q
section
variable {lf:Nat} {r:FuncId->Array Value->M Value} {fv:Value} {W:Nat->Prop} {n0:Nat} {St:List Bool->H->Nat->Prop} (sk:GP r fv W n0 St) {Q:Value->H->Nat->Prop}
include sk
theorem amn(a e f g x:Value)(N:Nat)(A:N<=20)(K:Value->Value->Value->Value->Value->Value->Value->Value->Value->M Value):∀(m b d:Nat) (l:List Bool) (h:H) (n:Nat),N-b<=m->m<d->b<=20->St l h n->l.length+2*m<=10000000->
 (∀h' n',St (l++mc (N-b)) h' n'->ae W n0 (K a fv (jI ((max b N:Nat):Int)) (jI (N:Int)) e f g x (.bool false)) h' n' Q)->ae W n0 (vV lf r d K a fv (jI (b:Int)) (jI (N:Int)) e f g x) h n Q:=by
 intro m
 induction m with
 |zero=>intro b d l h n v y u j w k;obtain⟨d,rfl⟩:∃f,d=f+1:=⟨d-1,jO⟩;rw[vV];have c:¬((b:Int)<(N:Int)):=jO;have:=k h n (by rw[show N-b=0 by omega];simpa[mc]using j);rw[aro jO]at this;refine jA @c ?_;exact this
 |succ m t=>
  intro b d l h n v y u j w k;obtain⟨d,rfl⟩:∃f,d=f+1:=⟨d-1,jO⟩;rw[vV];by_cases c:b<N
  ·have p:(b:Int)<(N:Int):=jO;have q:((b:Int)+1)=((b+1:Nat):Int):=rfl;refine jA @p ?_;refine sk Q l h n 2 2 _ j jO jD jO fun z s o=> ?_;refine jB ?_;rw[q];refine t (b+1) d _ z s jO jO jO o (by rw[aG,cA];omega) fun h' n' i=> ?_;rw[bW,show bh 2 2=[true,false]from rfl,<-abf,show N-(b+1)+1=N-b by omega]at i;have:=k h' n' i;rwa[show max (b+1) N=max b N by omega]
  ·have p:¬((b:Int)<(N:Int)):=jO;have:=k h n (by rw[show N-b=0 by omega];simpa[mc]using j);rw[aro jO]at this;refine jA @p ?_;exact this
theorem amo(a e f g x y:Value)(N:Nat)(K:Value->Value->Value->Value->Value->Value->M Value):∀(m b d:Nat) (l:List Bool) (h:H) (n:Nat),b-N<=m->m<d->b<=20->St l h n->l.length+2*m<=10000000->
 (∀h' n',St (l++oj (b-N)) h' n'->ae W n0 (K a fv (jI ((min b N:Nat):Int)) e f g) h' n' Q)->ae W n0 (vW lf r d K a fv (jI (b:Int)) (jI (N:Int)) e f g x y) h n Q:=by
 intro m
 induction m with
 |zero=>intro b d l h n v z u j w k;obtain⟨d,rfl⟩:∃f,d=f+1:=⟨d-1,jO⟩;rw[vW];have c:¬((N:Int)<(b:Int)):=jO;have:=k h n (by rw[show b-N=0 by omega];simpa[oj]using j);rw[r8 jO]at this;refine jA @c ?_;exact this
 |succ m t=>
  intro b d l h n v z u j w k;obtain⟨d,rfl⟩:∃f,d=f+1:=⟨d-1,jO⟩;rw[vW];by_cases c:N<b
  ·have p:(N:Int)<(b:Int):=jO;have q:((b:Int)-1)=((b-1:Nat):Int):=jO;refine jA @p ?_;refine sk Q l h n 3 2 _ j jO jD jO fun A s o=> ?_;refine jB ?_;rw[q];refine t (b-1) d _ A s jO jO jO o (by rw[aG,cA];omega) fun h' n' i=> ?_;rw[bW,show bh 3 2=[true,true]from rfl,<-abg,show b-1-N+1=b-N by omega]at i;have:=k h' n' i;rwa[show min (b-1) N=min b N by omega]
  ·have p:¬((N:Int)<(b:Int)):=jO;have:=k h n (by rw[show b-N=0 by omega];simpa[oj]using j);rw[r8 jO]at this;refine jA @p ?_;exact this
theorem amp{b off cap:Nat}{ln:List Nat}(j:∀l h n,St l h n->Row h n 3 .i64 (.slice (some ⟨b,off,none⟩) ln.length cap) (iN ln))(w:∀x∈ln,x<=20)(J:ln.length<=1000)(K:3000<=lf):∀(m i a c:Nat) (l:List Bool) (h:H) (n:Nat),ln.length-i=m->m<c->i<=ln.length->a<=20->St l h n->l.length+41*m<=9000000->
 (∀h' n',St (l++pd a (ln.drop i)) h' n'->Q (.tuple #[]) h' n')->ae W n0 (vX lf r c (E6 lf r) (.slice (some ⟨b,off,none⟩) ln.length cap) fv (jI (a:Int)) (.slice (some ⟨b,off,none⟩) ln.length cap) (jI (ln.length:Int)) (jI (i:Int))) h n Q:=by
 intro m
 induction m with
 |zero=>intro i a c l h n I P N z p L v;obtain⟨c,rfl⟩:∃f,c=f+1:=⟨c-1,jO⟩;obtain rfl:i=ln.length:=jO;rw[vX];refine jA @bE ?_;rw[E6];refine jB ?_;refine v h n ?_;rw[my];simpa[pd]using p
 |succ m F=>
  intro i a c l h n I P N z p L v;obtain⟨c,rfl⟩:∃f,c=f+1:=⟨c-1,jO⟩;obtain⟨Y,e,k,o,cs,G,O,Z,_,_,_,u⟩:=(j l h n p).some (by rw[bB];omega);have g:fZ (some ⟨b,off,none⟩) ln.length cap= .slice (some ⟨Y,e,none⟩) (iN ln).length k:=G;rw[bB]at g;cases g;have X:(i:Int)<((ln.length:Nat):Int):=jO;have A:=u i (by rw[bB];omega);rw[iq]at A;have y:ln.getD i 0<=20:=w _ (by rw[aC,aJ jO];exact cb _);have B:(i:Int)+1=((i+1:Nat):Int):=rfl;rw[vX];refine jA (aI @X (aI @O @A)) ?_;refine amn sk _ _ _ _ _ (ln.getD i 0) y _ 20 a lf l h n jO jO z p jO fun U E t=> ?_;unfold E5
  (try dsimp only)
  refine amo sk _ _ _ _ _ _ (ln.getD i 0) _ 20 (max a (ln.getD i 0)) lf _ U E jO jO jO t (by rw[aG,yT];omega) fun T D s=> ?_;unfold KL
  (try dsimp only)
  refine sk Q _ T D 0 1 _ s (by simp only[aG,yT,BR];omega) jD jO fun R C q=> ?_;refine jB ?_;rw[B,show min (max a (ln.getD i 0)) (ln.getD i 0)=ln.getD i 0 by omega];refine F (i+1) (ln.getD i 0) c _ R C jO jO jO y q (by simp only[aG,yT,BR,cA];omega) fun h' n' d=>v h' n' ?_;rw[jY 0 (show i<ln.length by omega)];unfold pd;rw[show max a (ln.getD i 0)-ln.getD i 0=a-ln.getD i 0 by omega,show bh 0 1=[false]from rfl]at d;simpa[bW]using d
end
theorem Nc{a:Type}{rec:FuncId->Array Value->M Value}{F:FuncId}(b:mE aa F=true)(cs vs:List Value)(k:Value->M a):gI aa rec (.func (.func F) #[] cs.toArray) vs k=ak rec F (vs++cs) k:=by unfold gI;show bf (some _) _=_;rw[vd];simp only[b];exact(lQ _ _).symm
section
variable {lf d n:Nat} {h:H}
theorem amq{F:FuncId}(G:mE aa F=true)(cs:List Value)(p:Int->Bool){v:Value}{xs:List Int}(s:Row h n 3 .i64 v xs)(I:∀x∈xs,ae (fun _=>False) n (eW lf d F ⟨jI x::cs⟩) h n fun g h' n'=>g= .bool (p x)∧h'=h∧n'=n)(O:xs.length<=1000000)(A:3000000<=lf):
 ae (fun _=>False) n (eW lf (d+1) 218 #[v,.func (.func F) #[] cs.toArray]) h n fun g h' n'=>(∃z,g=jI z∧decide (0<=z)=xs.any p)∧h'=h∧n'=n:=by
 rw[aF (fun _=>FG) rfl];refine ae.aE ?_;unfold yu;have r:=s;obtain⟨a,c,rfl⟩:=s.len
 have k:∀(m i e:Nat),xs.length-i=m->m<e->i<=xs.length->ae (fun _=>False) n (mQ lf (eW lf d) e (oX lf (eW lf d)) (.slice a xs.length c) (.func (.func F) #[] cs.toArray) (jI 0) (jI (xs.length:Int)) (jI (i:Int))) h n fun g h' n'=>(∃z,g=jI z∧decide (0<=z)=(xs.drop i).any p)∧h'=h∧n'=n:=by
  intro m
  induction m with
  |zero=>
   intro i e y D B;obtain⟨e,rfl⟩:∃f,e=f+1:=⟨e-1,jO⟩;obtain rfl:i=xs.length:=jO;rw[mQ];refine jA @bE ?_
   (try unfold oX);(try dsimp only)
   refine jB ?_;exact⟨-1,rfl,jS⟩
  |succ m u=>
   intro i e y D B;obtain⟨e,rfl⟩:∃f,e=f+1:=⟨e-1,jO⟩;obtain⟨b,j,cap,o,L,w,C,E,_,_,_,q⟩:=r.some jO;have l:fZ a xs.length c= .slice (some ⟨b,j,none⟩) xs.length cap:=w;cases l;have J:(i:Int)<((xs.length:Nat):Int):=jO;have K:=q i jO;have t:(i:Int)+1=((i+1:Nat):Int):=rfl;rw[mQ];refine jA (aI @J (aI @C @K)) ?_;rw[Nc G];refine bz (I (xs.getD i 0) (by rw[aC,aJ jO];exact cb _)) (ai _) (fun _ _ h=>h.elim) ?_;rw[jY 0 (show i<xs.length by omega),List.any_cons];cases N:p (xs.getD i 0)with
   |true=>
    refine jB ?_
    (try unfold oX);(try dsimp only)
    refine jB ?_;exact⟨(i:Int),rfl,jS⟩
   |false=>refine jB ?_;rw[t,Bool.false_or];exact u (i+1) e jO jO jO
 refine jB ?_;exact k xs.length 0 lf jO jO jO
theorem abh{F:FuncId}(g:mE aa F=true)(cs:List Value)(p:Int->Bool){v:Value}{xs:List Int}(i:Row h n 3 .i64 v xs)(j:∀x∈xs,ae (fun _=>False) n (eW lf d F ⟨jI x::cs⟩) h n fun a h' n'=>a= .bool (p x)∧h'=h∧n'=n)(f:xs.length<=1000000)(b:3000000<=lf):
 ae (fun _=>False) n (eW lf (d+2) 193 #[v,.func (.func F) #[] cs.toArray]) h n fun a h' n'=>a= .bool (xs.any p)∧h'=h∧n'=n:=by
 rw[aF (fun _=>Fl) rfl];refine ae.aE ?_;unfold A2;refine aN aL (amq g cs p i j f b) (ai _) (fun _ _ h=>h.elim) fun a h' n' _ _ e=> ?_;obtain⟨⟨r,rfl,c⟩,rfl,rfl⟩:=e;refine jB ?_;rw[c]
theorem amr(x:Int)(c:1<=x)(h2:x<=20):ae (fun _=>False) n (eW lf (d+2) 198 #[jI x]) h n fun a h' n'=>a= .bool false∧h'=h∧n'=n:=by
 rw[aF (fun _=>W9) rfl];refine ae.aE ?_;unfold Ln
 have b:ae (fun _=>False) n (eW lf (d+1) 199 #[jI x]) h n fun a h' n'=>a= .bool true∧h'=h∧n'=n:=by rw[aF (fun _=>Xa) rfl];refine ae.aE ?_;unfold Lq;exact jC (aI @c @h2);all_goals (first|trivial|rfl|exact⟨rfl,rfl,rfl⟩|exact⟨rfl,rfl⟩)
 refine bz b (ai _) (fun _ _ h=>h.elim) ?_;exact jC @gE;all_goals (first|trivial|rfl|exact⟨rfl,rfl,rfl⟩|exact⟨rfl,rfl⟩)
theorem abj{v:Value}{ln:List Nat}(k:Row h n 3 .i64 v (iN ln))(t:3<=ln.length)(s:ln.length<=258)(lo:∀x∈ln,1<=x)(p:∀x∈ln,x<=20)(i:3000000<=lf):ae (fun _=>False) n (eW lf (d+5) 164 #[v]) h n fun f h' n'=>f= .bool true∧h'=h∧n'=n:=by
 rw[aF (fun _=>VV) rfl];refine ae.aE ?_;unfold KJ;have j:=k;obtain⟨a,c,rfl⟩:=k.len;have o:=bB ln
 have m:ae (fun _=>False) n (eW lf (d+4) 197 #[jI ((iN ln).length:Int)]) h n fun f h' n'=>f= .bool true∧h'=h∧n'=n:=by rw[aF (fun _=>W8) rfl];refine ae.aE ?_;unfold Lm;have r:(3:Int)<=((iN ln).length:Int):=jO;have q:((iN ln).length:Int)<=258:=jO;exact jC (aI @r @q);all_goals (first|trivial|rfl|exact⟨rfl,rfl,rfl⟩|exact⟨rfl,rfl⟩)
 refine jB ?_;refine bz m (ai _) (fun _ _ h=>h.elim) ?_;refine jB ?_
 have l:=abh (lf:=lf) (d:=d+2) (F:=198) (by kernel_rfl) [] (fun _=>false) j (fun x b=>amr (lf:=lf) (d:=d) x (by
  unfold iN at b;obtain⟨y,g,rfl⟩:=List.mem_map.1 b;have:=lo y g;omega) (by
  unfold iN at b;obtain⟨y,g,rfl⟩:=List.mem_map.1 b;have:=p y g;omega)) jO i
 refine bz l (ai _) (fun _ _ h=>h.elim) ?_;have e:((iN ln).any fun _=>false)=false:=jS;rw[e];exact jC @gO;all_goals (first|trivial|rfl|exact⟨rfl,rfl,rfl⟩|exact⟨rfl,rfl⟩)
theorem abk{m:Value}{W:Nat->Prop}{n0:Nat}{St:List Bool->H->Nat->Prop}(j:GP (eW lf d) m W n0 St){v:Value}{ln:List Nat}(a:∀l h n,St l h n->Row h n 3 .i64 v (iN ln))(C:1<=ln.length)(A:ln.length<=258)(k:∀x∈ln,x<=20)(t:3000000<=lf)(l:List Bool)(i:St l h n)(s:l.length<=8000000):
 ae W n0 (eW lf (d+1) 165 #[v,m]) h n fun p h' n'=>p= .tuple #[]∧St (l++iJ ln) h' n':=by
 rw[aF (fun _=>V1) rfl];refine ae.aE ?_;unfold E7;obtain⟨b,q,cap,o,z,rfl,u,B,_,_,_,f⟩:=(a l h n i).some (by rw[bB];omega);have g:=f 0 (by rw[bB];omega);rw[iq]at g;rw[bB]at a⊢;rw[gX]at g;have y:ln.getD 0 0<=20:=k _ (by rw[aC,aJ jO];exact cb _);have i1:(0:Int)<((ln.length:Nat):Int):=jO;refine jA (aI @i1 (aI @u @g)) ?_;refine j _ l h n (ln.getD 0 0) 5 _ i jO jO jO fun w r e=> ?_;refine jB ?_;refine amp j a k jO jO ln.length 0 (ln.getD 0 0) lf _ w r jO jO jO y e (by rw[aG,cA];omega) fun h' n' c=>⟨rfl, ?_⟩;rw[bW,dx]at c;exact c
end
section
variable {lf d lo n w K:Nat} {h:H} {sv:Value} {l:List Bool}
theorem ams(x:cK K h lo n w sv l){c0 v k:Nat}{e:TypeId}(y:h.get c0=some ⟨e,true,[jP w 0]⟩)(C:c0<n)(t:k<=15)(p:v<2^k)(s:l.length<=1000000000)(f:33<=lf):
 ae (fun c=>c=w∨az sv c) n (eW lf (d+3) 170 #[jI (v:Int),jI (k:Int),jP c0 0]) h n fun m h' n'=>m= .tuple #[]∧∃a,cK K h' lo n' w a (l++bh v k)∧∀c,c<n->az a c->az sv c:=by
 rw[aF (fun _=>V9) rfl];refine ae.aE ?_;unfold KR;have o:2^k<=2^15:=oD jD t;have j:=iH (x:=v) jO;refine jA (aI @y @j) ?_;refine aN aL (lx (lf:=lf) (d:=d) x jO p s f) (ai _) (fun b _ u=> .inr u) fun A D B r z q=> ?_;obtain⟨rfl,a,i,g⟩:=q;refine jB ?_;exact⟨a,i,g⟩
def StW(K lo w c0 m1:Nat)(e:TypeId)(sv v:Value)(ln:List Nat)(l:List Bool)(h:H)(n:Nat):Prop:=
 m1<=n∧(∃a,cK K h lo n w a l∧∀c,c<m1->az a c->az sv c)∧Row h n 3 .i64 v (iN ln)∧h.get c0=some ⟨e,true,[jP w 0]⟩
theorem amt{c0 m1 n0:Nat}{e:TypeId}{v:Value}{ln:List Nat}(P:w<m1)(I:c0<m1)(p:c0≠w)(r:¬az sv c0)(F:∀b,az v b->b<m1∧b≠w∧¬az sv b)(U:n0<=m1)(o:33<=lf):
 GP (eW lf (d+3)) (.func (.func 170) #[] #[jP c0 0]) (fun c=>c=w∨az sv c) n0 (StW K lo w c0 m1 e sv v ln):=by
 intro Q l h n x k K B T E G J;obtain⟨R,⟨O,j,a⟩,f,z⟩:=B;rw[Nc (by kernel_rfl) [jP c0 0]];refine aN aL (ams (lf:=lf) (d:=d) j z jO G E jO o) jO (fun b y hq=> ?_) fun N L D m g hq=> ?_
 ·rcases hq with rfl|hq
  ·exact .inr (.inl rfl)
  ·by_cases u:b<m1
   ·exact .inr (.inr (a b u hq))
   ·exact .inl jO
 ·obtain⟨rfl,i,A,t⟩:=hq;refine J L D ⟨jO,⟨i,A,fun c s q=>a c s (t c jO q)⟩,f.fK m fun b y=> ?_, ?_⟩
  ·obtain⟨q1,q2,C⟩:=F b y
   exact g b jO fun q=>by
    rcases q with q|q
    ·exact q2 q
    ·exact C (a b q1 q)
  ·rw[g c0 jO fun q=>by
    rcases q with q|q
    ·exact p q
    ·exact r (a c0 I q)]
   exact z
theorem amu(x:cK K h lo n w sv l){v:Value}{ln:List Nat}(z:Row h n 3 .i64 v (iN ln))(hd:∀b,az v b->b≠w∧¬az sv b)(P:3<=ln.length)(j:ln.length<=258)(I:∀x∈ln,1<=x)(y:∀x∈ln,x<=20)(O:l.length<=8000000)(k:3000000<=lf):
 ae (fun c=>c=w∨az sv c) n (eW lf (d+6) 137 #[jP w 0,v]) h n fun C h' n'=>C=jI 0∧∃i,cK K h' lo n' w i (l++iJ ln)∧∀c,c<n->az i c->az sv c:=by
 rw[aF (fun _=>U7) rfl];refine ae.aE ?_;unfold Ko;have lt:=x.2.lt;have g:∀b,az sv b->b<n:=fun b f=>(x.2.own|>.lt f).2;have p:=z;obtain⟨a,c,rfl⟩:=z.len;refine kK trivial _ _ ?_;have s:∀b,b<n->(h.set n (some ⟨90,true,(jP w 0).cells.toList⟩)).get b=h.get b:=fun b f=>aB _ _ jO;obtain⟨r,m⟩:∃r,h.set n (some ⟨90,true,(jP w 0).cells.toList⟩)=r:=⟨_,rfl⟩;have A:r.get n=some ⟨90,true,[jP w 0]⟩:=by rw[<-m,get_eq];rfl
 rw[m]at s⊢;have o:=p.ay (cH n) s;refine jA @A ?_;refine bz (abj (lf:=lf) (d:=d) o P j I y k) jO (fun _ _ h=>h.elim) ?_;refine jA @gE ?_;have B:cK K r lo (n+1) w sv l:=x.ay (cH n) fun b f _=>s b f;have F:=amt (K:=K) (lf:=lf) (d:=d+1) (lo:=lo) (w:=w) (sv:=sv) (c0:=n) (m1:=n+1) (n0:=n+1) (e:=90) (v:= .slice a (iN ln).length c) (ln:=ln) jO jO jO (fun q=>by have:=g n q;omega) (fun b f=>⟨by have:=p.lt f;omega,hd b f⟩) jO jO;have E:=abk (lf:=lf) (d:=d+4) (h:=r) (n:=n+1) F (v:= .slice a (iN ln).length c) (ln:=ln) (fun l h n D=>D.2.2.1) jO j y k l ⟨ai _,⟨sv,B,fun c _ q=>q⟩,o,A⟩ O;refine aN aL E jO (fun b _ f=> .inr f) fun R W T N Q J=> ?_;obtain⟨rfl,L,⟨G,u,t⟩,_⟩:=J;refine jB ?_;exact⟨G,u,fun c U q=>t c jO q⟩
def StB(c0 m1:Nat)(v:Value)(ln:List Nat)(l:List Bool)(h:H)(n:Nat):Prop:=
 m1<=n∧Row h n 3 .i64 v (iN ln)∧h.get c0=some ⟨3,true,[jI (l.length:Int)]⟩
theorem amv{c0:Nat}{t v k:Nat}(e:h.get c0=some ⟨3,true,[jI (t:Int)]⟩)(i:c0<n)(f:t<=1000000000)(g:k<=15):
 ae (fun c=>c=c0) n (eW lf (d+1) 166 #[jI (v:Int),jI (k:Int),jP c0 0]) h n fun b h' n'=>b= .tuple #[]∧n'=n∧h'.get c0=some ⟨3,true,[jI ((t+k:Nat):Int)]⟩:=by
 rw[aF (fun _=>V2) rfl];refine ae.aE ?_;unfold KO;have a:(t:Int)+(k:Int)=((t+k:Nat):Int):=rfl;exact jC (aI @e @a)
theorem amw{c0 m1 n0:Nat}{v:Value}{ln:List Nat}(A:c0<m1)(j:∀b,az v b->b≠c0)(B:n0<=m1){W:Nat->Prop}(q:n0<=c0∨W c0):
 GP (eW lf (d+1)) (.func (.func 166) #[] #[jP c0 0]) W n0 (StB c0 m1 v ln):=by
 intro Q l h n x k K g z y p r;obtain⟨o,a,t⟩:=g;rw[Nc (by kernel_rfl) [jP c0 0]];refine aN aL (amv (lf:=lf) (d:=d) (v:=x) t jO jO p) jO (fun b e c=>c▸q) fun w s i m f c=> ?_;obtain⟨rfl,rfl,u⟩:=c;refine r s i ⟨o,a.fK (ai _) fun b e=>f b (a.lt e) (j b e), ?_⟩;rw[aG,cA];exact u
theorem amx{v:Value}{ln:List Nat}(m:Row h n 3 .i64 v (iN ln))(D:3<=ln.length)(f:ln.length<=258)(y:∀x∈ln,1<=x)(o:∀x∈ln,x<=20)(g:3000000<=lf):
 ae (fun _=>False) n (eW lf (d+6) 132 #[v]) h n fun q h' n'=>q= .tuple #[jI ((iJ ln).length:Int),jI 0]:=by
 rw[aF (fun _=>UT) rfl];refine ae.aE ?_;unfold Kn;refine bz (abj (lf:=lf) (d:=d) m D f y o g) jO (fun _ _ h=>h.elim) ?_;refine jA @gE ?_;have i:=m;obtain⟨a,c,rfl⟩:=m.len;refine fh JF _ ?_;refine jA @get_eq ?_;refine⟨.inl (ai _), ?_⟩;obtain⟨j,e⟩:∃j,(h.set n (some ⟨3,true,[jI 0]⟩)).set n (some ⟨3,true,[jI 0]⟩)=j:=⟨_,rfl⟩;have E:j.get n=some ⟨3,true,[jI 0]⟩:=by rw[<-e,get_eq]
 have z:∀b,b<n->j.get b=h.get b:=fun b k=>by rw[<-e,aB _ _ jO,aB _ _ jO]
 rw[e];have t:=amw (lf:=lf) (d:=d+3) (c0:=n) (m1:=n+1) (n0:=n+1) (v:= .slice a (iN ln).length c) (ln:=ln) (W:=fun b=>b=n) jO (fun b k=>by have:=i.lt k;omega) jO (.inr rfl);have s:=abk (lf:=lf) (d:=d+4) (h:=j) (n:=n+1) t (v:= .slice a (iN ln).length c) (ln:=ln) (fun l h n r=>r.2.1) jO f o g [] ⟨ai _,i.ay (cH n) z,E⟩ jS;refine aN aL s jO (fun b _ k=> .inl jO) fun G I u C F A=> ?_;obtain⟨rfl,B,_,p⟩:=A;rw[pF]at p;have w:n<u:=jO;exact jC @p
end
def en(p:Nat):List Nat->Nat
 |[]=>0
 |a::l=>if a=p then 0 else en p l+1
theorem yU{p:Nat}:∀{o:List Nat},p∈o->en p o<o.length
 |a::l,h=>by
  unfold en;by_cases e:a=p
  ·rw[if_pos e];simp
  ·rw[if_neg e]
   have:p∈l:=by
    rcases List.mem_cons.1 h with q|q
    ·exact absurd q.symm e
    ·exact q
   have:=yU this;simp;omega
theorem Nd{p:Nat}:∀{o:List Nat},p∈o->o.getD (en p o) 0=p
 |a::l,h=>by
  unfold en;by_cases e:a=p
  ·rw[if_pos e];exact e
  ·rw[if_neg e]
   have:p∈l:=by
    rcases List.mem_cons.1 h with q|q
    ·exact absurd q.symm e
    ·exact q
   have:=Nd this;simpa using this
theorem Nf{p:Nat}:∀{o:List Nat} {j:Nat},j<en p o->o.getD j 0≠p
 |[],j,h=>by simp[en]at h
 |a::l,j,h=>by
  unfold en at h;by_cases e:a=p
  ·rw[if_pos e]at h;omega
  ·rw[if_neg e]at h;cases j with
   |zero=>simpa using e
   |succ j=>have:=Nf (p:=p) (o:=l) (j:=j) jO;simpa using this
def fb:List Nat->List Nat->List Nat
 |_,[]=>[]
 |o,p::a=>en p o::fb (dN 0 o (en p o)) a
theorem rI:∀(ps o:List Nat),(fb o ps).length=ps.length
 |[],_=>rfl
 |p::ps,o=>by unfold fb;rw[ct,rI ps,ct]
def rJ(o:List Nat):Prop:=o.length=6∧∀p,p<6->p∈o
theorem rK:rJ eM:=⟨rfl,jD⟩
theorem rJ.dN{o:List Nat}(h:rJ o){i:Nat}(j:i<6):rJ (dN 0 o i):=by refine⟨aks h.1 j,fun p g=> ?_⟩;have:=h.2 p g;obtain⟨a,b,c,d,e,f,rfl⟩:=wV h.1;rcases i with _|_|_|_|_|_|i;all_goals first|omega|(simp[Go.Proofs.YtcehhgppfahbkaaGreatDoor.dN]at this⊢;omega)
theorem ui:∀(ps o:List Nat),rJ o->(∀p∈ps,p<6)->∀x∈fb o ps,x<6
 |[],_,_,_,x,hx=>by simp[fb]at hx
 |p::ps,o,h,b,x,hx=>by
  have a:=yU (h.2 p (b p jS));rw[h.1]at a;unfold fb at hx;rcases List.mem_cons.1 hx with rfl|hx
  ·exact a
  ·exact ui ps _ (h.dN a) (fun q c=>b q (by simp[c])) x hx
section
variable {lf d n q:Nat} {h:H} {e:TypeId} {O:List Nat}
theorem amy(j:O.length=6)(g:h.get q=some ⟨e,true,aH .i64 (iN O)⟩)(m:q<n){i:Nat}(f:i<6)(a:100<=lf):ae (fun b=>b=q) n (eW lf (d+1) 219 #[jP q 0,jI (i:Int)]) h n fun v h' n'=>n'=n∧h'.get q=some ⟨e,true,aH .i64 (iN (dN 0 O i))⟩:=by
 have t:=akp (lf:=lf) (d:=d) (h:=h) (n:=n) (q:=q) (e:=e) (A:=[]) (O:=aH .i64 (iN O)) (Z:=[]) (i:=i) (by rw[cj,bB,j]) (fun v c=>by
  unfold aH at c;obtain⟨x,_,rfl⟩:=List.mem_map.1 c
  rfl) (by simpa using g) m f a
 refine(t.run (n0:=n) (W:=fun b=>b=q) fun x l=> .inr l.1).mono ?_;rintro v h' n' _ ⟨_,rfl,k,_⟩;refine⟨rfl, ?_⟩;rw[akt O j f]at k;simpa using k
theorem amz(t:rJ O)(g:h.get q=some ⟨e,true,aH .i64 (iN O)⟩)(A:q<n){p:Nat}(B:p<6)(r:100<=lf):ae (fun b=>b=q) n (eW lf (d+2) 196 #[jP q 0,jI (p:Int)]) h n fun v h' n'=>v=jI (en p O:Int)∧n'=n∧h'.get q=some ⟨e,true,aH .i64 (iN (dN 0 O (en p O)))⟩:=by
 rw[aF (fun _=>W7) rfl];refine ae.aE ?_;unfold Fq;have j:=t.2 p B;have x:=yU j;have K:=t.1
 have k:∀(m i a:Nat),en p O-i=m->m<a->i<=en p O->ae (fun b=>b=q) n (wq lf (eW lf (d+1)) a (Fp lf (eW lf (d+1))) (jP q 0) (jI (p:Int)) (jI 0) (jI (i:Int))) h n fun v h' n'=>v=jI (en p O:Int)∧n'=n∧h'.get q=some ⟨e,true,aH .i64 (iN (dN 0 O (en p O)))⟩:=by
  intro m
  induction m with
  |zero=>
   intro i a C E D;obtain⟨a,rfl⟩:∃f,a=f+1:=⟨a-1,jO⟩;obtain rfl:i=en p O:=jO
   have w:(aH .i64 (iN O))[en p O]? =some (jI (p:Int)):=by unfold aH iN;rw[fo,fo,aJ x];have:=Nd j;rw[aC,aJ x]at this;simp only[xo]at this;simp only[Option.map_some,this]
   have u:((p:Int) !=(p:Int))=false:=jS;have c:((en p O:Nat):Int)<6:=jO;have L:(0:Int)<=((en p O:Nat):Int):=jO;have l:((en p O:Nat):Int).toNat=en p O:=rfl;rw[wq];refine jA (aI @g (aI @c (aI @l (aI @w (aI @u @fy))))) ?_
   (try unfold Fp);(try dsimp only)
   refine aN aL (amy (lf:=lf) (d:=d) t.1 g A jO r) (ai _) (fun b _ F=> .inr F) fun I N J _ _ o=> ?_;obtain⟨rfl,G⟩:=o;refine jB ?_;exact G
  |succ m z=>
   intro i a C E D;obtain⟨a,rfl⟩:∃f,a=f+1:=⟨a-1,jO⟩;have s:i<en p O:=jO
   have w:(aH .i64 (iN O))[i]? =some (jI (O.getD i 0:Int)):=by unfold aH iN;rw[fo,fo,aC,aJ jO];rfl
   have u:(((O.getD i 0:Nat):Int) !=(p:Int))=true:=by rw[bne_iff_ne];have:=Nf s;omega
   have c:(i:Int)<6:=jO;have l:(i:Int).toNat=i:=rfl;have y:(i:Int)+1=((i+1:Nat):Int):=rfl;rw[wq];refine jA (aI @g (aI @c (aI @l (aI @w (aI @u @fy))))) ?_;rw[y];exact z (i+1) a jO jO jO
 exact k (en p O) 0 lf jO jO jO
end
theorem amA{a:List Nat}{i N:Nat}(b:i<a.length)(c:i<N):(a.take i++bD (N-i) 0).set i (a.getD i 0)=a.take (i+1)++bD (N-(i+1)) 0:=by rw[List.set_append_right _ _ (by rw[cB];omega),cB,show i-min i a.length=0 by omega,show N-i=(N-(i+1))+1 by omega,HE,List.set_cons_zero,aC,aJ b,<-arp b,bW];rfl
section
variable {lf d n:Nat} {h:H}
theorem abl{v:Value}{ps:List Nat}(T:Row h n 3 .i64 v (iN ps))(hl:ps.length<=40000)(h6:∀p∈ps,p<6)(u3:3000000<=lf):ae (fun _=>False) n (eW lf (d+3) 163 #[v]) h n fun r h' n'=>Row h' n' 3 .i64 r (iN (fb eM ps))∧∀b,az r b->n<=b:=by
 rw[aF (fun _=>VU) rfl];refine ae.aE ?_;unfold E4;have j:=bB ps;have z:=T;obtain⟨a,c,rfl⟩:=T.len;refine aN aL (akr (lf:=lf) (d:=d+1) (n:=n) (h:=h) jO) (ai _) (fun _ _ h=>h.elim) fun v1 h1 n1 u2 P F=> ?_;obtain⟨rfl,rfl⟩:=F;refine fh Ap _ ?_;refine iZ (sz:=6) trivial (vs:=[jI 0,jI 1,jI 2,jI 3,jI 4,jI 5]) rfl rfl rfl (get_eq _ _ _) jO (.inl jO) _ fun h2 g2 k2=> ?_;refine jB ?_;refine Ev.run_make trivial (iN ps).length (iN ps).length _ (ai _) jO ?_;refine jB ?_;obtain⟨q,g⟩:∃q,h2.set (n+2+1) (some ⟨3,true,bD (iN ps).length (jI 0)⟩)=q:=⟨_,rfl⟩;have g3:q.get (n+2)=some ⟨237,true,aH .i64 (iN eM)⟩:=by rw[<-g,aB _ _ jO];exact g2
 have Z:q.get (n+2+1)=some ⟨3,true,aH .i64 (iN ((fb eM ps).take 0++bD (ps.length-0) 0))⟩:=by rw[<-g,get_eq];unfold aH iN;simp
 have k3:∀b,b<n->q.get b=h.get b:=fun b k=>by rw[<-g,aB _ _ jO,k2 b jO,aB _ _ jO];exact P b k id
 rw[g,j];rw[j]at z;have s:=rI ps eM
 have D:∀(m i e:Nat) (O:List Nat) (l:H),ps.length-i=m->m<e->i<=ps.length->rJ O->fb O (ps.drop i)=(fb eM ps).drop i->l.get (n+2)=some ⟨237,true,aH .i64 (iN O)⟩->l.get (n+2+1)=some ⟨3,true,aH .i64 (iN ((fb eM ps).take i++bD (ps.length-i) 0))⟩->(∀b,b<n->l.get b=h.get b)->
  ae (fun _=>False) n (vU lf (eW lf (d+2)) e (E3 lf (eW lf (d+2))) (.slice a ps.length c) nS (jP (n+2) 0) (.slice (some ⟨n+2+1,0,none⟩) ps.length ps.length) (.slice a ps.length c) (jI (ps.length:Int)) (jI (i:Int))) l (n+2+1+1) fun r h' n'=>Row h' n' 3 .i64 r (iN (fb eM ps))∧∀b,az r b->n<=b:=by
  intro m
  induction m with
  |zero=>
   intro i e O l hm hf hi y J R B K;obtain⟨e,rfl⟩:∃f,e=f+1:=⟨e-1,jO⟩;obtain rfl:i=ps.length:=jO;rw[vU];refine jA @bE ?_
   (try unfold E3);(try dsimp only)
   refine jB ?_;rw[j8,List.replicate_zero,cz,fG jO]at B;refine⟨.inr ⟨n+2+1,0,ps.length,true,_,by rw[bB,s],B,jO,by rw[cj];omega,by rw[dx,fG (by rw[cj];omega)],by rw[bB,s];omega⟩,fun b k=>by rw[k.inj];omega⟩
  |succ m ih=>
   intro i e O l hm hf hi y J R B K;obtain⟨e,rfl⟩:∃f,e=f+1:=⟨e-1,jO⟩;obtain⟨b,C,cap,o,ks,hv,L,u4,_,_,_,N⟩:=((z.ay (n':=n+2+1+1) jO K)).some jO;have w:fZ a ps.length c= .slice (some ⟨b,C,none⟩) (iN ps).length cap:=hv;rw[j]at w;cases w;have U:(i:Int)<((ps.length:Nat):Int):=jO;have W:=N i jO;rw[iq]at W;have X:(i:Int)+1=((i+1:Nat):Int):=rfl;have Q:ps.getD i 0<6:=h6 _ (by rw[aC,aJ jO];exact cb _);rw[vU];refine jA (aI @U (aI @L @W)) ?_;refine aN aL (amz (lf:=lf) (d:=d) y R jO Q jO) jO (fun b _ k=> .inl jO) fun v5 h5 n5 u1 A E=> ?_;obtain⟨rfl,rfl,g5⟩:=E;have Y:=(A (n+2+1) jO jO).trans B;have u:i<(aH .i64 (iN ((fb eM ps).take i++bD (ps.length-i) 0))).length:=by rw[cj,bB,aG,cB,jQ];omega
   have u0:n+2+1<n+2+1+1:=jO;have it:(i:Int).toNat=i:=rfl;refine jA (aI @U (aI @it (aI @Y @fy))) ?_;refine⟨by simpa using u,.inl jO, ?_⟩;rw[X];have dp:ps.drop i=ps.getD i 0::ps.drop (i+1):=jY 0 jO;rw[dp,fb,jY 0 (show i<(fb eM ps).length by omega)]at J;injection J with I G;have t:=yU (y.2 _ Q);rw[y.1]at t;refine ih (i+1) e _ _ jO jO jO (y.dN t) G (by rw[aB _ _ jO];exact g5) ?_ (fun b k=>by rw[aB _ _ jO,A b jO jO];exact K b k);rw[get_eq,ZU];rw[I];unfold iN;rw[show((OC (fun(x:Nat)=>(x:Int)) ((fb eM ps).take i++bD (ps.length-i) 0)).set i (((fb eM ps).getD i 0:Nat):Int))=OC (fun(x:Nat)=>(x:Int)) (((fb eM ps).take i++bD (ps.length-i) 0).set i ((fb eM ps).getD i 0))from List.map_set.symm,amA jO jO]
 exact D ps.length 0 lf eM q jO jO jO rK rfl g3 Z k3
end
def ly:List Nat->List Bool
 |[]=>[]
 |x::l=>bD x true++(false::ly l)
theorem Ng(x:Nat)(l:List Nat):ly (x::l)=bD x true++(false::ly l):=rfl
def kP(t:Nat)(ps:List Nat):List Bool:=bh t 3++(bh ps.length 15++ly (fb eM ps))
theorem yV:∀{l:List Nat},(∀x∈l,x<6)->(ly l).length<=6*l.length
 |[],_=>by simp[ly]
 |x::l,h=>by have:=yV fun y a=>h y (List.mem_cons_of_mem x a);have:=h x jS;unfold ly;simp only[aG,jQ,ct];omega
theorem amB{x:Nat}(h:x<6):IntKind.u32.wrap (1*2^(min (x+1) (uA).bits))=((2^(x+1):Nat):Int):=by rcases x with _|_|_|_|_|_|x<;>first|rfl|omega
theorem amC{x:Nat}(h:x<6):IntKind.u32.wrap (((2^(x+1):Nat):Int)-2)=((2^(x+1)-2:Nat):Int):=by rcases x with _|_|_|_|_|_|x<;>first|rfl|omega
theorem amD{x:Nat}(h:x<6):bh (2^(x+1)-2) (x+1)=bD x true++[false]:=by rcases x with _|_|_|_|_|_|x<;>first|rfl|omega
section
variable {lf d n:Nat} {h:H}
theorem amE{c0 t:Nat}{x:Int}(a:∃e,h.get c0=some ⟨e,true,[jI (t:Int)]⟩)(g:c0<n)(i:0<=x)(h2:x<t):ae (fun _=>False) n (eW lf (d+1) 194 #[jI x,jP c0 0]) h n fun b h' n'=>b= .bool false∧h'=h∧n'=n:=by obtain⟨e,a⟩:=a;rw[aF (fun _=>W1) rfl];refine ae.aE ?_;unfold Ll;have f:¬(x<0):=jO;have c:¬((t:Int)<=x):=jO;exact jC (aI @a (aI @f @c));all_goals (first|trivial|rfl|exact⟨rfl,rfl,rfl⟩|exact⟨rfl,rfl⟩)
theorem abm{v:Value}{ps:List Nat}{t:Nat}(m:Row h n 3 .i64 v (iN ps))(D:2<=t)(C:t<=6)(I:0<ps.length)(E:ps.length<=32767)(w:∀p∈ps,p<t)(i:3000000<=lf):ae (fun _=>False) n (eW lf (d+4) 162 #[v,jI (t:Int)]) h n fun q _ _=>q= .bool true:=by
 rw[aF (fun _=>VQ) rfl];refine ae.aE ?_;unfold KI;have z:=bB ps;have k:=m;obtain⟨a,c,rfl⟩:=m.len;refine kK trivial _ _ ?_;obtain⟨g,f⟩:∃g,h.set n (some ⟨3,true,(jI (t:Int)).cells.toList⟩)=g:=⟨_,rfl⟩;have o:g.get n=some ⟨3,true,[jI (t:Int)]⟩:=by rw[<-f,get_eq];rfl
 have s:∀b,b<n->g.get b=h.get b:=fun b G=>by rw[<-f];exact aB _ _ jO
 rw[f];have j:=k.ay (cH n) s;refine jA @o ?_;refine bz (akq (lf:=lf) (d:=d+2) (t:Int)) jO (fun _ _ h=>h.elim) ?_;rw[decide_eq_true (show(2:Int)<=(t:Int) by omega),decide_eq_true (show(t:Int)<=6 by omega)];have B:(((iN ps).length:Int)==0)=false:=by rw[beq_eq_false_iff_ne];omega
 have A:¬((32767:Int)<((iN ps).length:Int)):=jO;refine jA (aI @Hy (aI @gE (aI @B @A))) ?_
 have r:=abh (lf:=lf) (d:=d+1) (F:=194) (by kernel_rfl) [jP n 0] (fun _=>false) j (fun x l=>by
  unfold iN at l;obtain⟨y,u,rfl⟩:=List.mem_map.1 l;have:=w y u
  exact amE (lf:=lf) (d:=d) ⟨_,o⟩ (dK n) jO jO) jO i
 refine bz r jO (fun _ _ h=>h.elim) ?_;have e:((iN ps).any fun _=>false)=false:=jS;rw[e];exact jC @gO
section
variable {b off cap:Nat} {pl:List Nat} (h6:∀x∈pl,x<6) (hl:pl.length<=40000)
include h6 hl
theorem amF{p x2 x3 x4 x6:Value}(C:Row h n 3 .i64 (.slice (some ⟨b,off,none⟩) pl.length cap) (iN pl)){n0:Nat}:∀(m i a t:Nat),pl.length-i=m->m<a->i<=pl.length->t<=18+6*i->ae (fun _=>False) n0 (vH lf (eW lf d) a (EI lf (eW lf d)) p x2 x3 x4 (jI (t:Int)) x6 (.slice (some ⟨b,off,none⟩) pl.length cap) (jI (pl.length:Int)) (jI (i:Int))) h n fun k h' n'=>k= .tuple #[jI ((t+(ly (pl.drop i)).length:Nat):Int),jI 0]:=by
 intro m
 induction m with
 |zero=>
  intro i a t x A y w;obtain⟨a,rfl⟩:∃f,a=f+1:=⟨a-1,jO⟩;obtain rfl:i=pl.length:=jO;rw[vH];refine jA @bE ?_
  (try unfold EI);(try dsimp only)
  refine jB ?_;rw[my];rfl
 |succ m u=>intro i a t x A y w;obtain⟨a,rfl⟩:∃f,a=f+1:=⟨a-1,jO⟩;obtain⟨E,c,g,o,F,v,z,B,_,_,_,j⟩:=C.some (by rw[bB];omega);have e:fZ (some ⟨b,off,none⟩) pl.length cap= .slice (some ⟨E,c,none⟩) (iN pl).length g:=v;rw[bB]at e;cases e;have D:(i:Int)<((pl.length:Nat):Int):=jO;have l:=j i (by rw[bB];omega);rw[iq]at l;have x6:pl.getD i 0<6:=h6 _ (by rw[aC,aJ jO];exact cb _);have s:(i:Int)+1=((i+1:Nat):Int):=rfl;have r:((pl.getD i 0:Nat):Int)+1=((pl.getD i 0+1:Nat):Int):=rfl;have q:(t:Int)+((pl.getD i 0+1:Nat):Int)=((t+(pl.getD i 0+1):Nat):Int):=rfl;rw[vH];refine jA (aI @D (aI @z (aI @l (aI @s (aI @r @q))))) ?_;refine(u (i+1) a (t+(pl.getD i 0+1)) jO jO jO jO).mono ?_;rintro k h' n' _ rfl;rw[jY 0 (show i<pl.length by omega),Ng,aG,jQ,ct,show t+(pl.getD i 0+1)+(ly (pl.drop (i+1))).length=t+(pl.getD i 0+((ly (pl.drop (i+1))).length+1)) by omega]
theorem amG(u1:3000000<=lf){lo w m1 n0 K:Nat}{si0:Value}{W:Nat->Prop}(hw:W w)(u0:w<m1)(hW:∀c,az si0 c->n0<=c∨W c)(h0:n0<=m1)(hv:∀c,az (.slice (some ⟨b,off,none⟩) pl.length cap) c->c<m1∧c≠w∧¬az si0 c){x2 x3 x4 P x6:Value}:∀(m i a:Nat) (l:List Bool) (h:H) (n:Nat) (g:Value),pl.length-i=m->m<a->i<=pl.length->m1<=n->cK K h lo n w g l->(∀c,c<m1->az g c->az si0 c)->Row h n 3 .i64 (.slice (some ⟨b,off,none⟩) pl.length cap) (iN pl)->l.length+6*m<=9000000->
 ae W n0 (vL lf (eW lf (d+2)) a (EP lf (eW lf (d+2))) (jP w 0) x2 x3 x4 P x6 (.slice (some ⟨b,off,none⟩) pl.length cap) (jI (pl.length:Int)) (jI (i:Int))) h n fun N h' n'=>N=jI 0∧m1<=n'∧∃e,cK K h' lo n' w e (l++ly (pl.drop i))∧∀c,c<m1->az e c->az si0 c:=by
 intro m
 induction m with
 |zero=>
  intro i a l h n g hm hf hi s x r I C;obtain⟨a,rfl⟩:∃f,a=f+1:=⟨a-1,jO⟩;obtain rfl:i=pl.length:=jO;rw[vL];refine jA @bE ?_
  (try unfold EP);(try dsimp only)
  refine jB ?_;refine⟨s,g, ?_,r⟩;rw[my];simpa[ly]using x
 |succ m Z=>
  intro i a l h n g hm hf hi s x r I C;obtain⟨a,rfl⟩:∃f,a=f+1:=⟨a-1,jO⟩;obtain⟨b',j,t,o,ks,z,hg,u2,_,_,_,G⟩:=I.some (by rw[bB];omega);have p:fZ (some ⟨b,off,none⟩) pl.length cap= .slice (some ⟨b',j,none⟩) (iN pl).length t:=z;rw[bB]at p;cases p;have e1:(i:Int)<((pl.length:Nat):Int):=jO;have O:=G i (by rw[bB];omega);rw[iq]at O;have x6:pl.getD i 0<6:=h6 _ (by rw[aC,aJ jO];exact cb _);have U:(i:Int)+1=((i+1:Nat):Int):=rfl;have T:((pl.getD i 0:Nat):Int)+1=((pl.getD i 0+1:Nat):Int):=rfl;have R:=amB x6;have Q:=amC x6;rw[vL];try simp(disch:=first|omega|assumption) only[Nat.reduceAdd,Nat.reduceLT,RZ,cZ,da,db,dc,de,dg,dh,di,dj,dk,e1,hg,O,T,R,Q]
  have px:2^(pl.getD i 0+1)<=2^6:=oD jD jO;have p0:0<2^(pl.getD i 0+1):=Nat.pow_pos jD;refine aN aL (lx (lf:=lf) (d:=d) x (k:=pl.getD i 0+1) (v:=2^(pl.getD i 0+1)-2) jO jO jO jO) jO (fun c u hq=> ?_) fun v1 h1 Y B J A=> ?_
  ·rcases hq with rfl|hq
   ·exact .inr hw
   ·by_cases D:c<m1
    ·exact hW c (r c D hq)
    ·exact .inl jO
  ·obtain⟨rfl,e,L,F⟩:=A;rw[amD x6]at L;refine jB ?_;rw[U];refine(Z (i+1) a _ h1 Y e jO jO jO jO L (fun c u q=>r c u (F c jO q)) (I.fK B fun c u=> ?_) (by rw[aG,aG,jQ,nC];omega)).mono ?_
   ·obtain⟨q1,q2,X⟩:=hv c u
    exact J c jO fun q=>by
     rcases q with q|q
     ·exact q2 q
     ·exact X (r c q1 q)
   ·rintro N h' n' _ ⟨rfl,q1,y,x2,E⟩;refine⟨rfl,q1,y, ?_,E⟩;rw[jY 0 (show i<pl.length by omega),Ng];simpa[bW]using x2
end
end
section
variable {lf d n:Nat} {h:H}
theorem yW(t:Nat)(ps:List Nat):(kP t ps).length=18+(ly (fb eM ps)).length:=by unfold kP;rw[aG,aG,cA,cA];omega
theorem amH{v:Value}{ps:List Nat}{t:Nat}(l:Row h n 3 .i64 v (iN ps))(q:2<=t)(m:t<=6)(x:0<ps.length)(w:ps.length<=32767)(g:∀p∈ps,p<t)(c:3000000<=lf):ae (fun _=>False) n (eW lf (d+5) 131 #[v,jI (t:Int)]) h n fun k _ _=>k= .tuple #[jI ((kP t ps).length:Int),jI 0]:=by rw[aF (fun _=>US) rfl];refine ae.aE ?_;unfold EJ;refine yB (abm (lf:=lf) (d:=d) l q m x w g c) (ai _) fun F B i j=> ?_;refine jA @gE ?_;refine aN aL (abl (lf:=lf) (d:=d+1) (l.ay i j) jO (fun p f=>by have:=g p f;omega) c) jO (fun _ _ h=>h.elim) fun z E A u y e=> ?_;obtain⟨a,_⟩:=e;have r:=rI ps eM;obtain⟨b,s,cap,o,D,rfl,_⟩:=a.some (by rw[bB];omega);rw[bB]at a⊢;refine jB ?_;refine(amF (lf:=lf) (d:=d+4) (ui ps eM rK fun p f=>by have:=g p f;omega) jO a (fb eM ps).length 0 lf 18 jO jO jO jO).mono ?_;rintro k G C _ rfl;rw[dx,yW]
theorem amI{lo w K:Nat}{sv:Value}{l:List Bool}(x:cK K h lo n w sv l){v:Value}{ps:List Nat}{t:Nat}(T:Row h n 3 .i64 v (iN ps))(hd:∀b,az v b->b≠w∧¬az sv b)(t2:2<=t)(t6:t<=6)(h0:0<ps.length)(hl:ps.length<=32767)(G:∀p∈ps,p<t)(u3:l.length<=5000000)(m:3000000<=lf):
 ae (fun c=>c=w∨az sv c) n (eW lf (d+5) 136 #[jP w 0,v,jI (t:Int)]) h n fun v' h' n'=>v'=jI 0∧∃s,cK K h' lo n' w s (l++kP t ps)∧∀c,c<n->az s c->az sv c:=by
 rw[aF (fun _=>U6) rfl];refine ae.aE ?_;unfold ER;have hw:=x.2.lt;refine jB ?_;refine yB (abm (lf:=lf) (d:=d) T t2 t6 h0 hl G m) (ai _) fun h1 n1 j A=> ?_;have w1:=iH (x:=t) jO;have w2:=iH (x:=ps.length) jO;have N:=bB ps;have R:=T;obtain⟨a,c,rfl⟩:=T.len;refine jA (aI @gE @w1) ?_;have x1:=x.ay j fun b e _=>A b e;have r:=R.ay j A;refine aN aL (lx (lf:=lf) (d:=d+2) x1 (k:=3) (v:=t) jO jO jO jO) j (fun b _ e=> .inr e) fun v2 h2 n2 L Y F=> ?_;obtain⟨rfl,s2,x2,g⟩:=F
 have z:=r.fK L fun b e=>Y b (r.lt e) fun q=>by
  obtain⟨q1,q2⟩:=hd b e;rcases q with q|q
  ·exact q1 q
  ·exact q2 q
 rw[N]at*;refine jA @w2 ?_;have C:∀b,az (.slice a ps.length c) b->¬az s2 b:=fun b e q=>(hd b e).2 (g b (r.lt e) q);refine aN aL (lx (lf:=lf) (d:=d+2) x2 (k:=15) (v:=ps.length) jO jO (by rw[aG,cA];omega) jO) jO (fun b e hq=> ?_) fun v3 h3 n3 J X E=> ?_
 ·rcases hq with rfl|hq
  ·exact .inr (.inl rfl)
  ·by_cases P:b<n
   ·exact .inr (.inr (g b jO hq))
   ·exact .inl jO
 obtain⟨rfl,B,x3,y⟩:=E
 have Q:=z.fK J fun b e=>X b (z.lt e) fun q=>by
  rcases q with q|q
  ·exact(hd b e).1 q
  ·exact C b e q
 refine jB ?_;refine aN aL (abl (lf:=lf) (d:=d+1) Q jO (fun p hq=>by have:=G p hq;omega) m) jO (fun _ _ h=>h.elim) fun v4 h4 n4 I U D=> ?_;obtain⟨f,i⟩:=D;have u0:=rI ps eM;obtain⟨b4,u1,cap,o,ks,rfl,_⟩:=f.some (by rw[bB];omega);rw[bB]at f i⊢;refine jB ?_;have x4:=x3.ay I fun b e _=>U b e id;have u:∀b,az B b->b<n3:=fun b e=>((x3.2.own).lt e).2
 have up:∀b,az B b->n<=b∨(b=w∨az sv b):=fun b e=>by
  by_cases P:b<n
  ·exact .inr (.inr (g b jO (y b jO e)))
  ·exact .inl jO
 refine(amG (lf:=lf) (d:=d+2) (ui ps eM rK fun p hq=>by have:=G p hq;omega) jO m (lo:=lo) (w:=w) (m1:=n4) (n0:=n) (si0:=B) (W:=fun c=>c=w∨az sv c) (.inl rfl) jO up jO (fun b e=>⟨f.lt e,by have:=i b e;omega,fun q=>by have:=i b e;have:=u b q;omega⟩) (fb eM ps).length 0 lf _ h4 n4 B jO jO jO (ai _) x4 (fun c _ q=>q) f (by rw[aG,aG,cA,cA];omega)).mono ?_;rintro v' h' n' _ ⟨rfl,u2,s5,Z,O⟩;refine⟨rfl,s5, ?_,fun c hc q=> ?_⟩
 ·rw[dx,bW,bW]at Z;exact Z
 ·exact g c jO (y c jO (O c jO q))
end
def om(ln:List Nat)(i:Nat):List Bool:=bh (eZ ln i) (ln.getD i 0)
section
variable {lf d n clo chi c:Nat} {h:H} {ln:List Nat}
theorem amJ(y:qk h clo chi c ln)(P:chi<=n){i:Nat}(w:i<ln.length):ae (fun _=>False) n (eW lf (d+1) 172 #[jP c 0,jI (i:Int)]) h n fun p h' n'=>p= .tuple #[.int .u32 (eZ ln i:Int),jI (ln.getD i 0:Int),jI 0]∧h'=h∧n'=n:=by
 obtain⟨I,cv,E,g,v,_,x,_,_,_⟩:=y.ex;have lt:=y.lt;have j:(oZ ln).length=ln.length:=by unfold oZ;simp
 obtain⟨U,G,R,D,N,rfl,A,K,_,_,_,r⟩:=v.some (by rw[bB];omega);obtain⟨T,F,Q,C,L,rfl,z,J,_,_,_,q⟩:=x.some (by rw[j];omega);have l:=r i (by rw[bB];omega);have k:=q i (by rw[j];omega);rw[iq]at l
 have B:(oZ ln).getD i 0=(eZ ln i:Int):=by unfold oZ;rw[aC,fo,List.getElem?_range w];rfl
 rw[B]at k;have o:∀a b e f g,(fj a b e f g)[0]? =some a:=fun _ _ _ _ _=>rfl;have m:∀a b e f g,(fj a b e f g)[1]? =some b:=fun _ _ _ _ _=>rfl;have t:¬((i:Int)<0):=jO;have O:=bB ln;have s:¬(((iN ln).length:Int)<=(i:Int)):=jO;have i1:(i:Int)<((iN ln).length:Int):=jO;have u:(i:Int)<((oZ ln).length:Int):=jO;rw[aF (fun _=>Wa) rfl];refine ae.aE ?_;unfold KU;exact jC (aI @g (aI @o (aI @m (aI @t (aI @s (aI @i1 (aI @u (aI @A (aI @z (aI @l @k))))))))));all_goals (first|trivial|rfl|exact⟨rfl,rfl,rfl⟩|exact⟨rfl,rfl⟩)
theorem amK{lo w K:Nat}{sv:Value}{l:List Bool}(x:cK K h lo n w sv l)(y:qk h clo chi c ln)(A:chi<=n)(m:Wh ln){i:Nat}(g:i<ln.length)(B:l.length<=100000000)(f:33<=lf):ae (fun c=>c=w∨az sv c) n (eW lf (d+3) 139 #[jP c 0,jP w 0,jI (i:Int)]) h n fun s h' n'=>s=jI 0∧∃e,cK K h' lo n' w e (l++om ln i)∧∀c,c<n->az e c->az sv c:=by rw[aF (fun _=>Vc) rfl];refine ae.aE ?_;unfold Kp;refine jB ?_;refine bz (amJ (lf:=lf) (d:=d+1) y A g) (ai _) (fun _ _ h=>h.elim) ?_;have q:∀(a b c:Value) (k:Value->M Value),bj (.tuple #[a,b,c]) 0 k=k a:=fun _ _ _ _=>rfl;have p:∀(a b c:Value) (k:Value->M Value),bj (.tuple #[a,b,c]) 1 k=k b:=fun _ _ _ _=>rfl;have o:∀(a b c:Value) (k:Value->M Value),bj (.tuple #[a,b,c]) 2 k=k c:=fun _ _ _ _=>rfl;have z:((0:Int) !=0)=false:=rfl;refine jA (aI @q (aI @p (aI @o @z))) ?_;refine aN aL (lx (lf:=lf) (d:=d) x (k:=ln.getD i 0) (v:=eZ ln i) (by have:=(m.at g).2;omega) (m.Ms g) jO f) (ai _) (fun b _ C=> .inr C) fun E G F u D t=> ?_;obtain⟨rfl,e,r,j⟩:=t;refine jB ?_;exact⟨e,r,j⟩
end
theorem Nh:aZ {data:=#[49,48]}=tx [true,false]:=rfl
theorem Ni:aZ {data:=#[49,49]}=tx [true,true]:=rfl
section
variable {lf d n:Nat} {h:H}
theorem amL{r:FuncId->Array Value->M Value}{W:Nat->Prop}{n0:Nat}{Q:Value->H->Nat->Prop}{q x2 x6 x7 x8:Value}{a N:Nat}(x:a<=20)(h2:N<=20)(K:Value->Value->Value->Value->Value->Value->Value->M Value):∀(m j b:Nat) (t:List Bool) (x9:Value),40-j=m->m<b->j<=40->t.length<=900000+2*j->ae W n0 (K q x2 (tx (t++(mc (N-a-j)++oj (a-N-j)))) (jI (N:Int)) x6 x7 x8) h n Q->
 ae W n0 (tA lf ((r)) b K q x2 (tx t) (jI (a:Int)) (jI (N:Int)) x6 x7 x8 x9 (jI (j:Int))) h n Q:=by
 intro m
 induction m with
 |zero=>intro j b t x9 s w v u d;obtain⟨b,rfl⟩:∃f,b=f+1:=⟨b-1,jO⟩;obtain rfl:j=40:=jO;have c:¬(((40:Nat):Int)<40):=jO;rw[show N-a-40=0 by omega,show a-N-40=0 by omega]at d;rw[tA];refine jA @c ?_;simpa[mc,oj]using d
 |succ m i=>
  intro j b t x9 s w v u d;obtain⟨b,rfl⟩:∃f,b=f+1:=⟨b-1,jO⟩;have c:((j:Int)<40):=jO;have g:(j:Int)+1=((j+1:Nat):Int):=rfl;have p:=fun(k:Value->M Value)=>fL t [true,false] (by simp;omega) k;have o:=fun(k:Value->M Value)=>fL t [true,true] (by simp;omega) k;rw[tA];by_cases l:(j:Int)<(N:Int)-(a:Int)
  ·have e:¬((j:Int)<(a:Int)-(N:Int)):=jO;refine jA (aI @c (aI @l (aI @e (aI @Nh (aI @Ni (aI @p @o)))))) ?_;rw[g];refine i (j+1) b _ _ jO jO jO (by simp;omega) ?_;rw[show a-N-(j+1)=0 by omega,bW,<-bW [true,false],<-abf,show N-a-(j+1)+1=N-a-j by omega];rwa[show a-N-j=0 by omega]at d
  ·by_cases e:(j:Int)<(a:Int)-(N:Int)
   ·refine jA (aI @c (aI @l (aI @e (aI @Nh (aI @Ni (aI @p @o)))))) ?_;rw[g];refine i (j+1) b _ _ jO jO jO (by simp;omega) ?_;rw[show N-a-(j+1)=0 by omega,bW,show mc 0=[]from rfl,pF,<-abg,show a-N-(j+1)+1=a-N-j by omega];rwa[show N-a-j=0 by omega,show mc 0=[]from rfl,pF]at d
   ·refine jA (aI @c (aI @l (aI @e (aI @Nh (aI @Ni (aI @p @o)))))) ?_;rw[g];refine i (j+1) b _ _ jO jO jO jO ?_;rw[show N-a-(j+1)=0 by omega,show a-N-(j+1)=0 by omega];rwa[show N-a-j=0 by omega,show a-N-j=0 by omega]at d
theorem amM{v:Value}{ln:List Nat}(z:Row h n 3 .i64 v (iN ln))(N:1<=ln.length)(D:ln.length<=258)(y:∀x∈ln,x<=20)(E:3000000<=lf):ae (fun _=>False) n (eW lf (d+2) 147 #[v]) h n fun l h' n'=>l=tx (iJ ln)∧h'=h∧n'=n:=by
 rw[aF (fun _=>ahT) rfl];refine ae.aE ?_;unfold Kz;obtain⟨b,g,cap,o,K,rfl,s,L,_,_,_,j⟩:=z.some (by rw[bB];omega);rw[bB]at z⊢
 have q:∀(m i c a:Nat) (t:List Bool),ln.length-i=m->m<c->i<=ln.length->a<=20->t.length<=41*i+5->ae (fun _=>False) n (vQ lf (eW lf (d+1)) c (EY lf (eW lf (d+1))) (.slice (some ⟨b,g,none⟩) ln.length cap) (.string ⟨#[]⟩) (tx t) (jI (a:Int)) (.slice (some ⟨b,g,none⟩) ln.length cap) (jI (ln.length:Int)) (jI (i:Int))) h n fun l h' n'=>l=tx (t++pd a (ln.drop i))∧h'=h∧n'=n:=by
  intro m
  induction m with
  |zero=>
   intro i c a t C F r w B;obtain⟨c,rfl⟩:∃f,c=f+1:=⟨c-1,jO⟩;obtain rfl:i=ln.length:=jO;rw[vQ];refine jA @bE ?_
   (try unfold EY);(try dsimp only)
   refine jB ?_;rw[my];simp[pd]
  |succ m A=>
   intro i c a t C F r w B;obtain⟨c,rfl⟩:∃f,c=f+1:=⟨c-1,jO⟩;have I:(i:Int)<((ln.length:Nat):Int):=jO;have e:=j i (by rw[bB];omega);rw[iq]at e;have u:ln.getD i 0<=20:=y _ (by rw[aC,aJ jO];exact cb _);have p:(i:Int)+1=((i+1:Nat):Int):=rfl;rw[vQ];refine jA (aI @I (aI @s @e)) ?_;refine amL w u _ 40 0 lf t _ jO jO jO jO ?_;have J:=fun(k:Value->M Value)=>fL (t++(mc (ln.getD i 0-a-0)++oj (a-ln.getD i 0-0))) [false] (by simp only[aG,yT,BR,nC];omega) k;unfold Ky
   (try dsimp only)
   refine jA (aI @od @J) ?_;rw[p];refine(A (i+1) c (ln.getD i 0) _ jO jO jO u (by simp only[aG,yT,BR,nC];omega)).mono ?_;rintro l h' n' _ ⟨rfl,rfl,rfl⟩;refine⟨?_,rfl,rfl⟩;rw[jY 0 (show i<ln.length by omega),pd];simp[bW]
 have e:=j 0 (by rw[bB];omega);rw[iq,gX]at e;have G:ln.getD 0 0<=20:=y _ (by rw[aC,aJ jO];exact cb _);have i1:(0:Int)<((ln.length:Nat):Int):=jO;have p:=iH (x:=ln.getD 0 0) jO;refine jA (aI @i1 (aI @s (aI @e @p))) ?_;refine bz (wX (lf:=lf) (d:=d) (ln.getD 0 0) 5 jO jO jO) (ai _) (fun _ _ h=>h.elim) ?_;refine jA (aI @i1 (aI @s @e)) ?_;exact q ln.length 0 lf (ln.getD 0 0) _ jO jO jO G (by rw[cA];omega)
end
theorem amN:aZ {data:=#[49,49,49,49,49,49]}=tx (bD 6 true):=rfl
theorem abn(o:List Nat)(k:Value->M Value):cS (oT o) k=k (jI (o.length:Int)):=by unfold oT;rw[Ad,cu]
section
variable {lf d n:Nat} {h:H}
theorem amO{O:List Nat}(l:rJ O)(o:∀x∈O,x<6){p:Nat}(t:p<6)(v:100<=lf):ae (fun _=>False) n (eW lf (d+1) 142 #[oT O,.int .u8 ((48+p:Nat):Int)]) h n fun j h' n'=>j=jI (en p O:Int)∧h'=h∧n'=n:=by
 rw[aF (fun _=>Vi) rfl];refine ae.aE ?_;unfold EU;have b:=l.2 p t;have r:=yU b;have A:=l.1
 have k:∀(m i a:Nat),en p O-i=m->m<a->i<=en p O->ae (fun _=>False) n (qc lf (eW lf d) a (yj lf (eW lf d)) (oT O) (.int .u8 ((48+p:Nat):Int)) (jI 0) (jI (i:Int))) h n fun j h' n'=>j=jI (en p O:Int)∧h'=h∧n'=n:=by
  intro m
  induction m with
  |zero=>
   intro i a u y w;obtain⟨a,rfl⟩:∃f,a=f+1:=⟨a-1,jO⟩;obtain rfl:i=en p O:=jO;have c:((en p O:Nat):Int)<((O.length:Nat):Int):=jO;have g:=MG O o (en p O) r;rw[Nd b]at g;have e:(((48+p:Nat):Int)==((48+p:Nat):Int))=true:=jS;rw[qc];refine jA (aI @abn (aI @c (aI @g @e))) ?_
   (try unfold yj);(try dsimp only)
   exact jE;all_goals (first|trivial|rfl|exact⟨rfl,rfl,rfl⟩|exact⟨rfl,rfl⟩)
  |succ m s=>
   intro i a u y w;obtain⟨a,rfl⟩:∃f,a=f+1:=⟨a-1,jO⟩;have c:(i:Int)<((O.length:Nat):Int):=jO;have g:=MG O o i jO;have z:=Nf (show i<en p O by omega);have e:(((48+O.getD i 0:Nat):Int)==((48+p:Nat):Int))=false:=by rw[beq_eq_false_iff_ne];omega
   have q:(i:Int)+1=((i+1:Nat):Int):=rfl;rw[qc];refine jA (aI @abn (aI @c (aI @g @e))) ?_;rw[q];exact s (i+1) a jO jO jO
 exact k (en p O) 0 lf jO jO jO
theorem amP{O:List Nat}(h:∀x∈O,x<6){i:Nat}(a:i<O.length):∀x∈dN 0 O i,x<6:=by
 intro x hx;unfold dN at hx;rcases List.mem_cons.1 hx with rfl|hx
 ·exact h _ (by rw[aC,aJ a];exact cb _)
 ·rcases List.mem_append.1 hx with q|q
  ·exact h _ (j4 q)
  ·exact h _ (List.mem_of_mem_drop q)
theorem amQ{v:Value}{ps:List Nat}{t:Nat}(B:Row h n 3 .i64 v (iN ps))(U:t<=6)(Y:0<ps.length)(W:ps.length<=32767)(G:∀p∈ps,p<6)(J:3000000<=lf):ae (fun _=>False) n (eW lf (d+2) 146 #[v,jI (t:Int)]) h n fun c h' n'=>c=tx (kP t ps)∧h'=h∧n'=n:=by
 rw[aF (fun _=>ahQ) rfl];refine ae.aE ?_;unfold Kx;obtain⟨b,e,cap,o,T,rfl,L,X,_,_,_,u⟩:=B.some (by rw[bB];omega);rw[bB]at B⊢
 have r:∀(m i a:Nat) (O:List Nat) (l:List Bool),ps.length-i=m->m<a->i<=ps.length->rJ O->(∀x∈O,x<6)->l.length<=18+6*i->ae (fun _=>False) n (vP lf (eW lf (d+1)) a (EX lf (eW lf (d+1))) (.slice (some ⟨b,e,none⟩) ps.length cap) (jI (t:Int)) (.string ⟨#[]⟩) (tx l) (oT O) (.slice (some ⟨b,e,none⟩) ps.length cap) (jI (ps.length:Int)) (jI (i:Int))) h n fun c h' n'=>c=tx (l++ly (fb O (ps.drop i)))∧h'=h∧n'=n:=by
  intro m
  induction m with
  |zero=>
   intro i a O l I N K g w s;obtain⟨a,rfl⟩:∃f,a=f+1:=⟨a-1,jO⟩;obtain rfl:i=ps.length:=jO;rw[vP];refine jA @bE ?_
   (try unfold EX);(try dsimp only)
   refine jB ?_;rw[my];simp[fb,ly]
  |succ m F=>intro i a O l I N K g w s;obtain⟨a,rfl⟩:∃f,a=f+1:=⟨a-1,jO⟩;have P:(i:Int)<((ps.length:Nat):Int):=jO;have C:=u i (by rw[bB];omega);rw[iq]at C;have j:ps.getD i 0<6:=G _ (by rw[aC,aJ jO];exact cb _);have q:(i:Int)+1=((i+1:Nat):Int):=rfl;have A:=MG eM jD (ps.getD i 0) j;rw[akv j]at A;have E:=yU (g.2 _ j);have R:=g.1;have z:=fun(k:Value->M Value)=>aab (bD 6 true) .i64 ((en (ps.getD i 0) O:Nat):Int) k jO (by rw[jQ];omega);rw[eg,List.take_replicate,r8 jO]at z;have y:=fun(k:Value->M Value)=>fL l (bD (en (ps.getD i 0) O) true) (by rw[jQ];omega) k;have Q:=fun(k:Value->M Value)=>fL (l++bD (en (ps.getD i 0) O) true) [false] (by rw[aG,jQ,nC];omega) k;rw[vP];refine jA (aI @P (aI @L (aI @C (aI @nd @A)))) ?_;refine bz (amO (lf:=lf) (d:=d) g w j jO) (ai _) (fun _ _ h=>h.elim) ?_;refine bz (akG (lf:=lf) (d:=d) O (en (ps.getD i 0) O) jO jO) (ai _) (fun _ _ h=>h.elim) ?_;refine jA (aI @amN (aI @z (aI @y (aI @od @Q)))) ?_;rw[q];refine(F (i+1) a _ _ jO jO jO (g.dN jO) (amP w E) (by rw[aG,aG,jQ,nC];omega)).mono ?_;rintro c h' n' _ ⟨rfl,rfl,rfl⟩;refine⟨?_,rfl,rfl⟩;rw[jY 0 (show i<ps.length by omega),fb,Ng];simp[bW]
 have q:=iH (x:=t) jO;have D:=iH (x:=ps.length) jO;have y:=fun(k:Value->M Value)=>fL (bh t 3) (bh ps.length 15) (by rw[cA,cA];omega) k;refine jA @q ?_;refine bz (wX (lf:=lf) (d:=d) t 3 jO jO jO) (ai _) (fun _ _ h=>h.elim) ?_;refine jA @D ?_;refine bz (wX (lf:=lf) (d:=d) ps.length 15 jO jO jO) (ai _) (fun _ _ h=>h.elim) ?_;refine jA (aI @y @nd) ?_;refine(r ps.length 0 lf eM _ jO jO jO rK jD (by rw[aG,cA,cA];omega)).mono ?_;rintro c h' n' _ ⟨rfl,rfl,rfl⟩;refine⟨?_,rfl,rfl⟩;unfold kP;rw[dx,bW]
end
def nk(xs:List Int)(z:Int):Prop:=0<xs.length∧(3<=z∧z<=258)∧ef z xs=true∧∀i,i<xs.length->(xs.getD i 0=z-1↔i+1=xs.length)
section
variable {lf d n:Nat} {h:H} (bP:3000000<=lf)
include bP
end
end Go.Proofs.YtcehhgppfahbkaaGreatDoor
namespace Go.Proofs.YtcehhgppfahbkaaGreatDoor
open Go.RowKit Ev Tb Cn
section
variable {lf d n:Nat} {h:H} (bP:3000000<=lf)
include bP
theorem abo(v:Value)(xs:List Int)(z:Int)(g:Gd h n)(hR:Row h n 3 .i64 v xs)(X:xs.length<=1000000)(hd:600<=d):ae (fun _=>False) n (eW lf (d+1) 130 #[v,jI z]) h n fun v' h' n'=>
 (nk xs z∧∃x y,v'= .tuple #[.agg #[x,y],jI 0]∧RR h' n' 141 3 x (bO xs z.toNat 4)∧Row h' n' 3 .i64 y (eR (iI xs) (bO xs z.toNat 3)))∨(¬nk xs z∧v'= .tuple #[.agg #[.slice none 0 0,.slice none 0 0],jI 1]):=by
 obtain⟨d,rfl⟩:∃k,d=k+1:=⟨d-1,jO⟩;rw[aF (fun _=>UP) rfl];refine ae.aE ?_;unfold Km;have u0:=hR;obtain⟨a,c,rfl⟩:=hR.len;refine fh qa _ ?_;obtain⟨E,w⟩:∃E,h.set n (some ⟨178,true,[.slice none 0 0,.slice none 0 0]⟩)=E:=⟨_,rfl⟩;have ka:∀b,b<n->E.get b=h.get b:=fun b hb=>by rw[<-w];exact aB _ _ jO
 have P:E.get n=some ⟨178,true,[.slice none 0 0,.slice none 0 0]⟩:=by rw[<-w,get_eq]
 rw[w];have A:=u0.ay (cH n) ka
 have l:∀(x y:Value) (e:Int) (o:H) (F:Nat) (Q:Value->H->Nat->Prop),n<F->o.get n=some ⟨178,true,[.slice none 0 0,.slice none 0 0]⟩->one x=true->one y=true->(∀h',(∀b,b≠n->h'.get b=o.get b)->Q (.tuple #[.agg #[x,y],jI e]) h' F)->
  ae (fun _=>False) n (b9 2 (jP n 0) (.agg #[x,y]) fun _=>bR 2 (jP n 0) fun b=>aj [b,jI e]) o F Q:=by
  intro x y e o F Q hn hg o1 o2 hQ;refine iZ (sz:=2) trivial (vs:=[x,y]) rfl rfl (by simp[o1,o2]) hg hn (.inl (ai _)) _ fun h5 Z k5=> ?_;refine yC trivial trivial (sz:=2) _ _ _ Z jO jS ?_;rw[xU];exact hQ h5 k5
 by_cases h0:xs.length=0
 ·have e:((xs.length:Int)==0)=true:=by rw[h0];rfl
  refine jA @e ?_;exact l _ _ 1 E (n+1) _ (dK n) P rfl rfl fun h' _=> .inr ⟨fun m=>by have:=m.1;omega,rfl⟩
 have e:((xs.length:Int)==0)=false:=by rw[beq_eq_false_iff_ne];omega
 obtain⟨L,G⟩:∃L,IntKind.i64.wrap (z-1)=L:=⟨_,rfl⟩;refine jA (aI @e @G) ?_;refine aN aL (ZP lf d (n+1) E bP _ xs L A X) jO (fun _ _ h=>h.elim) fun v1 o F _ _ hq=> ?_;obtain⟨⟨r,rfl,hr⟩,rfl,rfl⟩:=hq;have u1:Gd o (n+1):=g.ay (cH n) ka;have mem:∀i,i<xs.length->xs.getD i 0∈xs:=fun i N=>by rw[aC,aJ N];exact cb _
 have R:3<=z∧z<=258->L=z-1:=fun q=>by rw[<-G];exact aV jO jO
 by_cases I:r=(xs.length:Int)-1
 ·have f:(r !=(xs.length:Int)-1)=false:=by rw[I];simp
  refine jA @f ?_;by_cases D:(3<=z∧z<=258)∧ef z xs=true
  ·have hm:nk xs z:=by
    refine⟨jO,D.1,D.2,fun j hj=> ?_⟩;rcases hr with ⟨q,_⟩|⟨i,N,U,p,u⟩
    ·omega
    ·rw[R D.1]at p u;refine⟨fun q=> ?_,fun q=> ?_⟩
     ·by_cases Y:j<i
      ·exact absurd q (u j Y)
      ·omega
     ·rw[show j=i by omega];exact p
   obtain⟨s,rfl⟩:∃s:Nat,z=(s:Int):=⟨z.toNat,jO⟩;refine aN aL (al5 lf (d+1) (n+1) o bP _ xs s u1 A jO X jO jO D.2 hd) jO (fun _ _ h=>h.elim) fun v2 J T W C t=> ?_;obtain⟨x,y,rfl,p,hy⟩:=t;have K:J.get n=some ⟨178,true,[.slice none 0 0,.slice none 0 0]⟩:=(C n (dK n) id).trans P;refine jA (aI @dF @ext1) ?_;refine l x y 0 J T _ jO K (by obtain⟨_,_,rfl⟩:=p.len;rfl) (by obtain⟨_,_,rfl⟩:=hy.len;rfl) fun h' k'=> .inl ⟨hm,x,y,rfl, ?_, ?_⟩
   ·refine p.mT (ai _) fun b B _ hB he=>yD K k' hB fun q=> ?_;rcases he with he|he
    ·exact absurd (show(141:Nat)=178 from he.symm.trans q) jD
    ·exact absurd (show(3:Nat)=178 from he.symm.trans q) jD
   ·refine hy.mT (ai _) fun b B _ hB he=>yD K k' hB fun q=> ?_;exact absurd (show(3:Nat)=178 from he.symm.trans q) jD
  ·have no:z<3∨258<z∨xs=[]∨ef z xs=false:=by
    cases hb:ef z xs with
    |false=>exact .inr (.inr (.inr rfl))
    |true=>have:¬(3<=z∧z<=258):=fun q=>D ⟨q,hb⟩;omega
   refine aN aL (al6 lf (d+1) (n+1) o bP _ xs z A X no hd) jO (fun _ _ h=>h.elim) fun v2 J T W C t=> ?_;subst t;have K:J.get n=some ⟨178,true,[.slice none 0 0,.slice none 0 0]⟩:=(C n (dK n) id).trans P;refine jA (aI @dF @ext1) ?_;exact l _ _ 1 J T _ jO K rfl rfl fun h' _=> .inr ⟨fun m=>D ⟨m.2.1,m.2.2.1⟩,rfl⟩
 ·have f:(r !=(xs.length:Int)-1)=true:=by rw[bne_iff_ne];exact I
  refine jA @f ?_;refine l _ _ 1 o (n+1) _ (dK n) P rfl rfl fun h' _=> .inr ⟨fun m=> ?_,rfl⟩;rcases hr with ⟨_,q⟩|⟨i,N,U,p,u⟩
  ·refine q _ (mem (xs.length-1) jO) ?_;rw[R m.2.1];exact(m.2.2.2 (xs.length-1) jO).2 jO
  ·rw[R m.2.1]at p;have:=(m.2.2.2 i N).1 p;omega
end
def bG(r:List Int):List Nat:=r.map Int.toNat
theorem abp{r:List Int}(h:∀x∈r,0<=x):iN (bG r)=r:=by unfold iN bG;rw[List.map_map];refine(List.map_congr_left fun x a=> ?_).trans (List.map_id r);have:=h x a;show((x.toNat:Nat):Int)=id x;rw[kS this];rfl
structure GoodR (s:Nat) (r:List Int):Prop where
 eq:iN (bG r)=r
 len:(bG r).length=s
 lo:∀x∈bG r,1<=x
 hi:∀x∈bG r,x<=20
 sh:iX (iN (bG r))=1048576
 wh:Wh (bG r)
theorem amR{r:List Int}{s:Nat}(f:r.length=s)(g:dP 1 20 r=true)(c:iX r=1048576):GoodR s r:=by
 have h:=iG.1 g;have e:=abp (r:=r) fun x a=>by have:=h x a;omega
 have b:∀x∈bG r,1<=x∧x<=20:=fun x a=>by unfold bG at a;obtain⟨y,d,rfl⟩:=List.mem_map.1 a;have:=h y d;omega
 refine⟨e,by unfold bG;rw[cu];exact f,fun x a=>(b x a).1,fun x a=>(b x a).2,by rw[e];exact c,aj8 b (by rw[e];exact c)⟩
theorem amS{xs:List Int}{s:Nat}(e:xs.length<=1000000)(a:ef s xs=true)(j:3<=s)(d:s<=258)(k:Nat):∀r∈bO xs s (k+1),GoodR s r:=fun r b=>by
 have i:=GM e a;unfold bO qq at b;obtain⟨p,_,rfl⟩:=List.mem_map.1 b;have h:(o8 (iI xs) (bO xs s k) s p).length=s:=by unfold o8;exact ja _ _
 have:=aa_ (c:=o8 (iI xs) (bO xs s k) s p) jO jO (BP (iI xs) (bO xs s k) s p i (fun g f=>f) (ai _));exact amR (by rw[this.1,h]) this.2.1 this.2.2
def rL(h:H)(n m1:Nat)(e gv:Value)(cs:List Value)(rows:List (List Nat)):Prop:=
 cs.length=rows.length∧∀j,j<rows.length->∃a d c,cs[j]? =some (jP c 0)∧m1<=a∧d<=n∧qk h a d c (rows.getD j [])∧∀b,a<=b->b<d->¬az e b∧¬az gv b
theorem rL.ay{h h':H}{n n' m1:Nat}{k a gv d:Value}{cs:List Value}{rows:List (List Nat)}(x:rL h n m1 k gv cs rows)(v:n<=n')(p:∀b,m1<=b->b<n->¬az k b->¬az gv b->h'.get b=h.get b)(o:∀b,b<n->az a b->az k b)(s:∀b,b<n->az d b->az gv b):rL h' n' m1 a d cs rows:=by refine⟨x.1,fun j r=> ?_⟩;obtain⟨l,m,c,e,u,w,t,i⟩:=x.2 j r;exact⟨l,m,c,e,u,jO,t.ay fun b g f=>p b jO jO (i b g f).1 (i b g f).2,fun b g f=>⟨fun q=>(i b g f).1 (o b jO q),fun q=>(i b g f).2 (s b jO q)⟩⟩
theorem rL.push{h:H}{n m1:Nat}{f gv:Value}{cs:List Value}{rows:List (List Nat)}(x:rL h n m1 f gv cs rows){clo chi c:Nat}{ln:List Nat}(l:m1<=clo)(h2:chi<=n)(i:qk h clo chi c ln)(k:∀b,clo<=b->b<chi->¬az f b∧¬az gv b):rL h n m1 f gv (cs++[jP c 0]) (rows++[ln]):=by
 refine⟨by rw[aG,aG,x.1];rfl,fun j g=> ?_⟩;rw[aG,nC]at g;by_cases q:j<rows.length
 ·obtain⟨a,b,d,e,r⟩:=x.2 j q;refine⟨a,b,d,by rw[nB (by rw[x.1];exact q)];exact e, ?_⟩;rw[aC,nB q,<-aC];exact r
 ·obtain rfl:j=rows.length:=jO;refine⟨clo,chi,c, ?_,l,h2, ?_,k⟩
  ·rw[<-x.1];simp
  ·rw[aC];simpa using i
theorem abq{l:List Nat}(h:0<l.length)(a:∀x∈l,x<=20):l.getD 0 0<=20:=a _ (by rw[aC,aJ h];exact cb _)
section
variable {lf d lo w m1 n0 Kt:Nat} {si0:Value} {W:Nat->Prop} {FR:H->Prop} {tb qs qt:Nat} {T:List (List Int)} {s:Nat}
set_option maxHeartbeats 1000000 in
theorem amT (L:3000000<=lf) (hw:W w) (v8:w<m1) (hW:∀c,az si0 c->n0<=c∨W c) (h0:n0<=m1)
 (fr:∀h h':H,FR h->(∀b,b<m1->b≠w->¬az si0 b->h'.get b=h.get b)->FR h')
 (u1:∀h n,m1<=n->FR h->RR h n 141 3 (.slice (some ⟨tb,qs,none⟩) T.length qt) T)
 (hT:∀r∈T,GoodR s r) (h3:3<=s) (v5:s<=258) (w0:T.length<=6) {x2 x3 x4 x5 x6 x8 x9:Value} {K:Value->Value->Value->Value->Value->Value->Value->Value->Value->Value->Value->Value->Value->M Value} {Q:Value->H->Nat->Prop}:
 ∀(m i u:Nat) (l:List Bool) (h:H) (n:Nat) (A gv:Value) (cs:List Value),T.length-i=m->m<u->i<=T.length->m1<=n->cK Kt h lo n w A l->(∀c,c<m1->az A c->az si0 c)->FR h->Own h m1 n 188 gv cs->(∀b,az gv b->¬az A b)->rL h n m1 A gv cs ((T.take i).map bG)->l.length+11000*m<=7000000->
 (∀h' n' j k cs',m1<=n'->cK Kt h' lo n' w j (l++((T.drop i).map bG).flatMap iJ)->(∀c,c<m1->az j c->az si0 c)->FR h'->Own h' m1 n' 188 k cs'->(∀b,az k b->¬az j b)->rL h' n' m1 j k cs' (T.map bG)->ae W n0 (K (jP w 0) x2 x3 x4 x5 x6 k x8 x9 (.slice (some ⟨tb,qs,none⟩) T.length qt) (jI (T.length:Int)) (jI (T.length:Int)) (.bool false)) h' n' Q)->
 ae W n0 (vz lf (eW lf (d+7)) u K (jP w 0) x2 x3 x4 x5 x6 gv x8 x9 (.slice (some ⟨tb,qs,none⟩) T.length qt) (jI (T.length:Int)) (jI (i:Int))) h n Q:=by
 intro m
 induction m with
 |zero=>intro i u l h n A gv cs hm hf hi hn x I X R v N hl U;obtain⟨u,rfl⟩:∃f,u=f+1:=⟨u-1,jO⟩;obtain rfl:i=T.length:=jO;rw[vz];refine jA @bE ?_;rw[eh]at N;rw[my]at U;exact U h n A gv cs hn (by simpa using x) I X R v N
 |succ m ih=>
  intro i u l h n A gv cs hm hf hi hn x I X R v N hl U;obtain⟨u,rfl⟩:∃f,u=f+1:=⟨u-1,jO⟩;have e1:(i:Int)<((T.length:Nat):Int):=jO;obtain⟨b,v7,cap,o,ks,hv,hg,a,u9⟩:=(u1 h n hn X).at jO;cases hv;obtain⟨rv,u0,g⟩:=u9 i jO;have J:T.getD i []∈T:=by rw[aC,aJ jO];exact cb _
  have p:=hT _ J;rw[<-p.eq]at g;have v6:=x.2.lt;have gw:=x.2.get;have so:=x.2.own
  have apart:∀b,az rv b->b≠w∧¬az A b:=fun b a=>by
   obtain⟨B,q1,q2⟩:=g.elem a;refine⟨fun e=> ?_,fun q=> ?_⟩
   ·subst e;rw[gw]at q1;cases q1;exact absurd (show(133:Nat)=3 from q2) jD
   ·obtain⟨B',q3,q4⟩:=so.elem q;rw[q1]at q3;cases q3;rw[q2]at q4;exact absurd (show(3:Nat)=5 from q4) jD
  rw[vz];refine jA (aI @e1 (aI @hg @u0)) ?_;refine aN aL (amu (lf:=lf) (d:=d+1) x g apart (by rw[p.len];omega) (by rw[p.len];omega) p.lo p.hi jO L) jO (fun c hc hq=> ?_) fun v2 h2 Z u6 z u3=> ?_
  ·rcases hq with rfl|hq
   ·exact .inr hw
   ·by_cases u7:c<m1
    ·exact hW c (I c u7 hq)
    ·exact .inl jO
  obtain⟨rfl,s2,G,F⟩:=u3
  have D:=g.fK u6 fun b a=>z b (g.lt a) fun q=>by
   rcases q with q|q
   ·exact(apart b a).1 q
   ·exact(apart b a).2 q
  refine jB ?_;refine aN aL (akh lf d Z h2 L rv (bG (T.getD i [])) D (by rw[p.len];omega) (by rw[p.len];omega) p.wh p.sh) jO (fun _ _ h=>h.elim) fun v3 v1 Y v9 y u2=> ?_;obtain⟨c,rfl,E⟩:=u2;refine jA (aI @dF @ext1) ?_;have t:∀b,az gv b->m1<=b∧b<n:=fun b a=>R.lt a
  have v0:Own v1 m1 Y 188 gv cs:=R.ay jO fun b a=>by
   have:=t b a
   rw[y b jO id,z b jO fun q=>by
    rcases q with q|q
    ·omega
    ·exact v b a q]
  have w2:cs.length<=6:=by rw[N.1,cu,cB];omega
  refine F' trivial (afW _) v0 jO (fun b a=> .inl (by have:=t b a;omega)) _ fun h4 g4 P=> ?_;refine jB ?_;have w1:(i:Int)+1=((i+1:Nat):Int):=rfl;rw[w1];have C:∀b,az s2 b->b<Z:=fun b a=>((G.2.own).lt a).2
  have dl:(iJ (bG (T.getD i []))).length<=11000:=by unfold iJ;rw[aG,cA];have v4:=abq (l:=bG (T.getD i [])) (by rw[p.len];omega) p.hi;have:=Nb (bG (T.getD i [])) _ v4 p.hi;rw[p.len]at this;omega
  refine ih (i+1) u _ h4 (Y+2) s2 _ _ jO jO jO jO (G.ay jO fun b a hq=> ?_) (fun c hc q=>I c hc (F c jO q)) ?_ (Own.mk' g4 jO jO jS) (fun b a q=> ?_) ?_ (by rw[aG];omega) ?_
  ·rw[P b jO fun q=>by
    rcases hq with rfl|hq
    ·have:=t _ q;omega
    ·have:=t b q
     exact v b q (F b jO hq),y b jO id]
  ·refine fr h h4 X fun b a u5 u4=> ?_
   rw[P b jO (fun q=>by have:=t b q;omega),y b jO id,z b jO fun q=>by
    rcases q with q|q
    ·exact u5 q
    ·exact u4 (I b a q)]
  ·rw[a.inj]at q;have:=C _ q;omega
  ·rw[show T.take (i+1)=T.take i++[T.getD i []] by rw[aC,aJ jO];exact(arp jO).symm,dU];refine rL.push (c:=c) (clo:=Z) (chi:=Y) ?_ jO jO (E.ay fun b b1 O=>P b O fun q=>by have:=t b q;omega) fun b b1 O=>⟨fun q=>by have:=C b q;omega,fun q=>by rw[q.inj]at O;omega⟩;refine N.ay jO (fun b b0 b1 O b3=> ?_) (fun b a q=>F b a q) (fun b a q=>by rw[q.inj]at a;omega)
   rw[P b jO b3,y b jO id,z b jO fun q=>by
    rcases q with q|q
    ·omega
    ·exact O q]
  ·intro h' n' j k cs' a1 a2 a3 a4 a5 a6 a7;refine U h' n' j k cs' a1 ?_ a3 a4 a5 a6 a7;rw[jY [] (show i<T.length by omega),List.map_cons,pG,<-bW];exact a2
end
def jF(rows:List (List Nat))(ps:List Nat):Nat->List Nat->List Bool
 |_,[]=>[]
 |i,x::l=>om (rows.getD (ps.getD (i/50) 0) []) x++jF rows ps (i+1) l
theorem yX(rows:List (List Nat))(ps:List Nat)(i x:Nat)(l:List Nat):jF rows ps i (x::l)=om (rows.getD (ps.getD (i/50) 0) []) x++jF rows ps (i+1) l:=rfl
theorem xh{l:List Nat}{i:Nat}(h:i<l.length):l.getD i 0∈l:=by rw[aC,aJ h];exact cb _
section
variable {lf d lo w m1 n0 z gb gcap K:Nat} {si0 xv pv tv:Value} {W:Nat->Prop} {FR:H->Prop} {rows:List (List Nat)} {ps xn:List Nat} {cs:List Value} {e gt':TypeId}
set_option maxHeartbeats 1000000 in
theorem amU (u4:3000000<=lf) (hw:W w) (u2:w<m1) (hW:∀c,az si0 c->n0<=c∨W c) (h0:n0<=m1)
 (fr:∀h h':H,FR h->(∀b,b<m1->b≠w->¬az si0 b->h'.get b=h.get b)->FR h')
 (hx:∀h n,m1<=n->FR h->Row h n 3 .i64 xv (iN xn)) (hp:∀h n,m1<=n->FR h->Row h n 3 .i64 pv (iN ps))
 (hz:z<m1) (D:∀h,FR h->h.get z=some ⟨e,true,[tv,pv]⟩) (u6:gb<m1) (L:∀h,FR h->h.get gb=some ⟨gt',true,cs⟩)
 (P:∀h,FR h->∀j,j<rows.length->∃clo chi c,cs[j]? =some (jP c 0)∧chi<=m1∧qk h clo chi c (rows.getD j [])) (u7:cs.length=rows.length)
 (u:∀r∈rows,Wh r) (F:∀p∈ps,p<rows.length) (G:∀i,i<xn.length->i/50<ps.length) (C:∀x∈xn,∀r∈rows,x<r.length) (u1:xn.length<=100000) {x3 x4 x6 x8 x9 x10 x11 x12 x13:Value}:
 ∀(m i g:Nat) (l:List Bool) (h:H) (n:Nat) (s:Value),xn.length-i=m->m<g->i<=xn.length->m1<=n->cK K h lo n w s l->(∀c,c<m1->az s c->az si0 c)->FR h->l.length+20*m<=9000000->
 ae W n0 (vA lf (eW lf (d+3)) g (Ek lf (eW lf (d+3))) (jP w 0) xv x3 x4 (jP z 0) x6 (.slice (some ⟨gb,0,none⟩) rows.length gcap) x8 x9 x10 x11 x12 x13 xv (jI (xn.length:Int)) (jI (i:Int))) h n fun X h' n'=>X=jI 0∧m1<=n'∧∃o,cK K h' lo n' w o (l++jF rows ps i (xn.drop i))∧∀c,c<m1->az o c->az si0 c:=by
 intro m
 induction m with
 |zero=>
  intro i g l h n s hm hf hi y x v k hl;obtain⟨g,rfl⟩:∃f,g=f+1:=⟨g-1,jO⟩;obtain rfl:i=xn.length:=jO;rw[vA];refine jA @bE ?_
  (try unfold Ek);(try unfold a);(try dsimp only)
  refine jB ?_;refine⟨y,s, ?_,v⟩;rw[my];simpa[jF]using x
 |succ m ih=>
  intro i g l h n s hm hf hi y x v k hl;obtain⟨g,rfl⟩:∃f,g=f+1:=⟨g-1,jO⟩;have il:=bB xn;have pl:=bB ps;have hq:=G i jO;obtain⟨b1,o1,c1,w1,k1,rfl,g1,l1,_,_,_,t1⟩:=(hx h n y k).some jO;obtain⟨b2,Z,c2,w2,k2,rfl,g2,l2,_,_,_,t2⟩:=(hp h n y k).some jO;have a1:=t1 i jO;have a2:=t2 (i/50) jO;rw[iq]at a1 a2;have Y:=F _ (xh hq);have gz:=D h k;have gg:=L h k;obtain⟨clo,chi,c,ec,u9,N⟩:=P h k _ Y;have B:rows.getD (ps.getD (i/50) 0) []∈rows:=by rw[aC,aJ Y];exact cb _
  have e1:(i:Int)<((xn.length:Nat):Int):=jO;have U:(i:Int)<(((iN xn).length:Nat):Int):=jO;have q1:(i:Int).tdiv 50=((i/50:Nat):Int):=rfl;have q2:((i/50:Nat):Int)<(((iN ps).length:Nat):Int):=jO;have q3:((ps.getD (i/50) 0:Nat):Int)<((rows.length:Nat):Int):=jO;have q4:IntKind.i64.wrap ((i/50:Nat):Int)=((i/50:Nat):Int):=aV jO jO;have ww:(i:Int)+1=((i+1:Nat):Int):=rfl;have u0:z<n:=jO;have u5:gb<n:=jO;have t:xn.getD i 0<(rows.getD (ps.getD (i/50) 0) []).length:=C _ (xh jO) _ B;have z1:([tv,fZ (some ⟨b2,Z,none⟩) (iN ps).length c2]:List Value)[1]? =some (.slice (some ⟨b2,Z,none⟩) (iN ps).length c2):=rfl;rw[vA];refine jA (aI @e1 (aI @U (aI @g1 (aI @a1 (aI @gz (aI @z1 (aI @q1 (aI @q4 (aI @q2 (aI @g2 (aI @a2 (aI @q3 (aI @gg (aI @ec @fy)))))))))))))) ?_;refine aN aL (amK (lf:=lf) (d:=d) x N jO (u _ B) t jO jO) jO (fun c hc hq=> ?_) fun v2 h2 n2 u3 T E=> ?_
  ·rcases hq with rfl|hq
   ·exact .inr hw
   ·by_cases O:c<m1
    ·exact hW c (v c O hq)
    ·exact .inl jO
  obtain⟨rfl,s2,x2,R⟩:=E;refine jB ?_;rw[ww]
  have cl:(om (rows.getD (ps.getD (i/50) 0) []) (xn.getD i 0)).length<=20:=by unfold om;rw[cA];exact((u _ B).at t).2
  refine(ih (i+1) g _ h2 n2 s2 jO jO jO jO x2 (fun c hc q=>v c hc (R c jO q)) (fr h h2 k fun b hb J I=>T b jO fun q=> ?_) (by rw[aG];omega)).mono ?_
  ·rcases q with q|q
   ·exact J q
   ·exact I (v b hb q)
  ·rintro X h' n' _ ⟨rfl,q1,A,x3,Q⟩;refine⟨rfl,q1,A, ?_,Q⟩;rw[jY 0 (show i<xn.length by omega),yX,<-bW];exact x3
end
noncomputable def rowsOf (xs:List Int) (z:Int):List (List Nat):=(bO xs z.toNat 4).map bG
noncomputable def cM (xs:List Int) (z:Int):List Nat:=fB (iI xs) (bO xs z.toNat 3)
noncomputable def pf (xs:List Int) (z:Int):List Bool:=kP (rowsOf xs z).length (cM xs z)++((rowsOf xs z).flatMap iJ++jF (rowsOf xs z) (cM xs z) 0 (bG xs))
structure amV (xs:List Int) (z:Int):Prop where
 rl:(rowsOf xs z).length=j1 (xs.length:Int)
 r2:2<=(rowsOf xs z).length
 r6:(rowsOf xs z).length<=6
 p0:0<(cM xs z).length
 pl:(cM xs z).length=dq xs.length
 pm:∀p∈cM xs z,p<(rowsOf xs z).length
 me:∀r∈bO xs z.toNat 4,GoodR z.toNat r
 wh:∀r∈rowsOf xs z,Wh r
 ie:iN (bG xs)=xs
 sy:∀x∈bG xs,∀r∈rowsOf xs z,x<r.length
 at_:∀i,i<(bG xs).length->i/50<(cM xs z).length
theorem uj{xs:List Int}{z:Int}(m:nk xs z)(o:xs.length<=1000000):amV xs z:=by
 obtain⟨A,v,a,_⟩:=m;have c:ef (z.toNat:Int) xs=true:=by rw[kS jO];exact a
 have h:=amS o c (s:=z.toNat) jO jO 3;have t:=BH (xs.length:Int);have k:(rowsOf xs z).length=j1 (xs.length:Int):=by unfold rowsOf;rw[cu,yS]
 have l:iN (bG xs)=xs:=abp fun x d=>(xd.1 a x d).1;have u:(bG xs).length=xs.length:=by unfold bG;rw[cu]
 have e:(cM xs z).length=dq xs.length:=by unfold cM;rw[uh,MS]
 refine⟨k,jO,jO,by rw[e];unfold dq;omega,e,fun p j=> ?_,h,fun r b=> ?_,l,fun x d r b=> ?_,fun i w=>by rw[e];unfold dq;omega⟩
 ·unfold cM fB at j;obtain⟨g,_,rfl⟩:=List.mem_map.1 j;have:=aav g (T:=bO xs z.toNat 3) (by rw[yS];omega);rw[yS]at this;omega
 ·unfold rowsOf at b;obtain⟨q,f,rfl⟩:=List.mem_map.1 b;exact(h q f).wh
 ·unfold rowsOf at b;obtain⟨q,f,rfl⟩:=List.mem_map.1 b;rw[(h q f).len];unfold bG at d;obtain⟨y,n,rfl⟩:=List.mem_map.1 d;have:=xd.1 a y n;omega
theorem o0:∀{rows:List (List Nat)},(∀r∈rows,(iJ r).length<=11000)->(rows.flatMap iJ).length<=11000*rows.length
 |[],_=>by simp
 |r::a,h=>by have d:=h r jS;have c:=o0 (rows:=a) fun q b=>h q (by simp[b]);rw[pG,aG,ct];omega
theorem xi{ln:List Nat}(a:∀x∈ln,x<=20)(b:0<ln.length)(c:ln.length<=258):(iJ ln).length<=11000:=by unfold iJ;rw[aG,cA];have:=Nb ln _ (abq b a) a;omega
section
variable {lf d lo n w K:Nat} {h:H} {sv:Value} {l:List Bool}
theorem cK.apart(x:cK K h lo n w sv l){b:Nat}{B:AB}(a:h.get b=some B)(f:B.elem≠133)(h2:B.elem≠5):b≠w∧¬az sv b:=by
 refine⟨fun e=> ?_,fun q=> ?_⟩
 ·subst e;rw[x.2.get]at a;cases a;exact f rfl
 ·obtain⟨g,c,d⟩:=(x.2.own).elem q;rw[a]at c;cases c;exact h2 d
set_option maxHeartbeats 400000 in
theorem amW(F:3000000<=lf)(g:Gd h n)(x:cK K h lo n w sv l)(x7:1<lo){v:Value}{xs:List Int}(hR:Row h n 3 .i64 v xs)(hl:xs.length<=1000)(x0:l.length<=5000000)(z:Int)(hd:600<=d):
 ae (fun c=>c=w∨az sv c) n (eW lf (d+8) 100 #[jP w 0,v,jI z]) h n fun v' h' n'=>(nk xs z∧v'=jI 0∧∃Z,cK K h' lo n' w Z (l++pf xs z)∧∀c,c<n->az Z c->az sv c)∨(¬nk xs z∧v'=jI 1∧cK K h' lo n' w sv l):=by
 rw[aF (fun _=>TN) rfl];refine ae.aE ?_;unfold Em;have u9:=hR;obtain⟨a,c,rfl⟩:=hR.len;have w6:=x.2.lt;refine jB ?_;refine aN aL (abo (lf:=lf) (d:=d+6) F _ xs z g u9 jO jO) (ai _) (fun _ _ h=>h.elim) fun v1 h1 k u6 v2 v8=> ?_;have x1:=x.ay u6 fun b f _=>v2 b f id;have w3:=u9.ay u6 fun b f=>v2 b f id;rcases v8 with ⟨N,cx,cy,rfl,u4,u2⟩|⟨N,rfl⟩
 rotate_left
 ·have z1:((1:Int) !=0)=true:=rfl;refine jA (aI @dF @ext1) ?_;refine fh qa _ ?_;refine iZ (sz:=2) trivial (vs:=[.slice none 0 0,.slice none 0 0]) rfl rfl rfl (get_eq _ _ _) jO (.inl jO) _ fun h2 g2 k2=> ?_;refine jA @z1 ?_;refine .inr ⟨N,x1.ay jO fun b f _=> ?_⟩;rw[k2 b jO,aB _ _ jO]
 have i:=uj N jO;have zz:((0:Int) !=0)=false:=rfl;have o1:one cx=true:=by obtain⟨_,_,rfl⟩:=u4.len;rfl
 have o2:one cy=true:=by obtain⟨_,_,rfl⟩:=u2.len;rfl
 refine jA (aI @dF @ext1) ?_;refine fh qa _ ?_;refine iZ (sz:=2) trivial (vs:=[cx,cy]) rfl rfl (by simp[o1,o2]) (get_eq _ _ _) jO (.inl jO) _ fun h2 g2 k2=> ?_;have E:∀b,b<k->h2.get b=h1.get b:=fun b f=>by rw[k2 b jO,aB _ _ jO]
 have x2:=x1.ay (cH k) fun b f _=>E b f;have w2:=w3.ay (cH k) E;have u3:=u4.ay (cH k) E;have v5:=u2.ay (cH k) E;have Y:(bO xs z.toNat 4).length=(rowsOf xs z).length:=by unfold rowsOf;rw[cu]
 have y:Row h2 (k+1) 3 .i64 cy (iN (cM xs z)):=v5;have r2:=i.r2;obtain⟨tb,o,t,w7,w9,rfl,tg,_,_⟩:=u3.at jO;have u1:k<k+1:=jO;refine jA (aI @zz @g2) ?_;rw[Y]
 refine aN aL (amI (lf:=lf) (d:=d+2) x2 y (fun b f=>by
  obtain⟨B,q1,q2⟩:=y.elem f
  exact x2.apart q1 (by rw[q2];decide) (by rw[q2];decide)) i.r2 i.r6 i.p0 (by rw[i.pl];unfold dq;omega) i.pm jO F) jO (fun b f hq=> ?_) fun v3 U O u5 P v7=> ?_
 ·rcases hq with rfl|hq
  ·exact .inr (.inl rfl)
  ·exact .inr (.inr hq)
 obtain⟨rfl,s3,x3,G⟩:=v7;have I:∀b,az sv b->b<n:=fun b f=>((x.2.own).lt f).2
 have g3:U.get k=some ⟨178,true,[.slice (some ⟨tb,o,none⟩) (rowsOf xs z).length t,cy]⟩:=by
  rw[P k u1 fun q=>by
   rcases q with q|q
   ·omega
   ·have:=I k q;omega,g2,Y]
 have v6:RR U O 141 3 (.slice (some ⟨tb,o,none⟩) (bO xs z.toNat 4).length t) (bO xs z.toNat 4):=u3.mT u5 fun b B f hB he=>P b f fun q=>by
  obtain⟨q1,q2⟩:=x2.apart hB (by rcases he with he|he<;>(rw[he];decide)) (by rcases he with he|he<;>(rw[he];decide));rcases q with q|q
  ·exact q1 q
  ·exact q2 q
 have L:∀{v:Value} {R:List Int},Row h2 (k+1) 3 .i64 v R->Row U O 3 .i64 v R:=fun r=>r.fK u5 fun b f=>P b (r.lt f) fun q=>by
  obtain⟨B,e1,X⟩:=r.elem f;obtain⟨q1,q2⟩:=x2.apart e1 (by rw[X];decide) (by rw[X];decide);rcases q with q|q
  ·exact q1 q
  ·exact q2 q
 have w1:=L w2;have v4:=L y;have J:¬az s3 k:=fun q=>by have:=I _ (G k u1 q);omega
 have u0:k<O:=jO
 have p6:(kP (rowsOf xs z).length (cM xs z)).length<=300000:=by rw[yW];have:=yV (l:=fb eM (cM xs z)) (ui _ _ rK fun p hp=>by have:=i.pm p hp;have:=i.r6;omega);rw[rI,i.pl]at this;unfold dq at this;omega
 refine jA @g3 ?_;rw[<-Y];refine amT (lf:=lf) (d:=d) (lo:=lo) (w:=w) (m1:=O) (n0:=n) (si0:=s3) (W:=fun c=>c=w∨az sv c) (FR:=fun h'=>∀b,b<O->b≠w->¬az s3 b->h'.get b=U.get b) (T:=bO xs z.toNat 4) (s:=z.toNat) F (.inl rfl) jO (fun c hc=> ?_) jO (fun h h' m hk b f C A=>(hk b f C A).trans (m b f C A)) (fun h' n' u m=>v6.mT u fun b B f hB he=> ?_) i.me (by have:=N.2.1;omega) (by have:=N.2.1;omega) (by rw[Y];exact i.r6) (bO xs z.toNat 4).length 0 lf _ U O s3 _ [] jO (by have:=i.r6;omega) jO (ai _) x3 (fun c _ q=>q) (fun b _ _ _=>rfl) (Own.nil _ _ _ _) (fun b f=>f.not_nil.elim) ⟨rfl,fun j hj=>absurd hj jS⟩ ?_ ?_
 ·by_cases v9:c<n
  ·exact .inr (.inr (G c jO hc))
  ·exact .inl jO
 ·obtain⟨q1,q2⟩:=x3.apart hB (by rcases he with he|he<;>(rw[he];decide)) (by rcases he with he|he<;>(rw[he];decide));exact m b f q1 q2
 ·rw[aG];have:=i.r6;omega
 intro h4 n4 s4 g4 Q a1 a2 a3 a4 a5 a6 a7;have ll:(bG xs).length=xs.length:=by unfold bG;rw[cu]
 (try unfold El);(try dsimp only)
 refine jB ?_;have D:Q.length=(rowsOf xs z).length:=a7.1;rcases a5 with ⟨_,e0⟩|⟨gb,rfl,gg,y0,v0⟩
 ·rw[e0]at D;simp at D;omega
 have u7:∀h' n',n4<=n'->(∀b,b<n4->b≠w->¬az s4 b->h'.get b=h4.get b)->∀{v:Value} {R:List Int},Row U O 3 .i64 v R->Row h' n' 3 .i64 v R:=fun h' n' u m v R r=>r.fK jO fun b f=>by obtain⟨B,e1,X⟩:=r.elem f;obtain⟨q1,q2⟩:=x3.apart e1 (by rw[X];decide) (by rw[X];decide);have lb:=r.lt f;rw[m b jO q1 fun q=>q2 (a3 b lb q),a4 b lb q1 q2]
 have wb:=amU (lf:=lf) (d:=d+4) (lo:=lo) (w:=w) (m1:=n4) (n0:=n) (z:=k) (gb:=gb) (gcap:=aU+Q.length) (si0:=s4) (xv:= .slice a xs.length c) (pv:=cy) (tv:= .slice (some ⟨tb,o,none⟩) (rowsOf xs z).length t) (W:=fun c=>c=w∨az sv c) (FR:=fun h'=>∀b,b<n4->b≠w->¬az s4 b->h'.get b=h4.get b) (rows:=rowsOf xs z) (ps:=cM xs z) (xn:=bG xs) (cs:=Q) (e:=178) (gt':=188) F (.inl rfl) jO (fun c hc=>by
  by_cases v9:c<n
  ·exact .inr (.inr (G c jO (a3 c jO hc)))
  ·exact .inl jO) jO (fun h h' m hk b f C A=>(hk b f C A).trans (m b f C A)) (fun h' n' u m=>by rw[i.ie];exact u7 h' n' u m w1) (fun h' n' u m=>u7 h' n' u m v4) jO (fun h' m=>by rw[m k jO jO (fun q=>J (a3 k u0 q)),a4 k u0 jO J];exact g3) v0 (fun h' m=>by rw[m gb v0 jO (a6 gb ⟨_,_,_,rfl⟩)];exact gg) (fun h' m j hj=>by
  obtain⟨w4,w5,c,e1,X,e3,e4,e5⟩:=a7.2 j hj
  exact⟨w4,w5,c,e1,e3,e4.ay fun b b1 b2=>m b jO jO (e5 b b1 b2).1⟩) D i.wh i.pm i.at_ i.sy (by rw[ll];omega) (x3:=jI z) (x4:=ii 0) (x6:=jI 0) (x8:= .bool false) (x9:= .bool false) (x10:= .slice (some ⟨tb,o,none⟩) (bO xs z.toNat 4).length t) (x11:=jI ((bO xs z.toNat 4).length:Int)) (x12:=jI ((bO xs z.toNat 4).length:Int)) (x13:= .bool false) (bG xs).length 0 lf _ h4 n4 s4 jO jO jO (ai _) a2 (fun c _ q=>q) (fun b _ _ _=>rfl) ?_
 ·rw[ll,show d+4+3=d+7 from rfl,show((0:Nat):Int)=0 from rfl]at wb;rw[<-D]at wb;refine wb.mono ?_;rintro v' h' n' _ ⟨rfl,q1,s5,x5,w0⟩;refine .inl ⟨N,rfl,s5, ?_,fun c hc q=>G c jO (a3 c jO (w0 c jO q))⟩;rw[dx,dx,bW,bW,D]at x5;exact x5
 ·have fl:=o0 (rows:=((bO xs z.toNat 4).drop 0).map bG) fun r hr=>by rw[dx]at hr;obtain⟨q,hq,rfl⟩:=List.mem_map.1 hr;have gr:=i.me q hq;exact xi gr.hi (by rw[gr.len];have:=N.2.1;omega) (by rw[gr.len];have:=N.2.1;omega)
  rw[cu,dx,Y]at fl;have:=i.r6;rw[aG,aG,dx,ll];omega
end
end Go.Proofs.YtcehhgppfahbkaaGreatDoor
namespace Go.Proofs.YtcehhgppfahbkaaGreatDoor
open Go.RowKit Ev Tb
def rM(L:List (List Int))(K:List Int)(i:Nat):List Int:=L.getD (K.getD i 0).toNat []
def iL(xs:List Int)(L:List (List Int))(K:List Int)(i:Nat):Bool:=decide (0<=K.getD i 0)&&(decide (K.getD i 0<(L.length:Int))&&(ef ((rM L K i).length:Int) (eN xs i)&&dP 0 1099511627776 (rM L K i)))
def yY(xs:List Int)(L:List (List Int))(K:List Int)(i:Nat):Int:=gN (eN xs i) (rM L K i)
def ph(xs:List Int)(L:List (List Int))(K:List Int)(i:Nat):Int:=bI ((aY i).map (yY xs L K))
def rN(xs:List Int)(L:List (List Int))(K:List Int)(i:Nat):Bool:=(aY i).all (iL xs L K)
theorem abr(xs:List Int)(L:List (List Int))(K:List Int)(i:Nat):rN xs L K (i+1)=(rN xs L K i&&iL xs L K i):=by unfold rN;rw[mv,List.all_append];simp
theorem amX{xs:List Int}{L:List (List Int)}{K:List Int}{i m:Nat}(h:i<m)(a:iL xs L K i=false):rN xs L K m=false:=List.all_eq_false.2 ⟨i,List.mem_range.2 h,by rw[a];exact Oo⟩
theorem Nj(xs:List Int)(L:List (List Int))(K:List Int)(i:Nat):ph xs L K (i+1)=ph xs L K i+yY xs L K i:=by unfold ph;rw[mv,dU,nX];simp[bI]
theorem abt{xs:List Int}{L:List (List Int)}{K:List Int}:∀{i:Nat},rN xs L K i=true->0<=ph xs L K i∧ph xs L K i<=i*1099511627776
 |0,_=>by simp[ph,bI]
 |i+1,h=>by rw[abr,cD]at h;have c:=abt h.1;have a:=h.2;unfold iL at a;simp only[cD]at a;have e:=MQ (l:=eN xs i) (ls:=rM L K i) fun y b=>(iG.1 a.2.2.2 y b).1;have d:=Gw (eN xs i) (rM L K i);rw[Nj];unfold yY;simp only[Int.natCast_add,Int.add_mul,Int.natCast_one,Int.one_mul];omega
def xj(xs:List Int)(L:List (List Int))(K:List Int):Bool:=decide (K.length=dq xs.length)&&rN xs L K K.length
section
variable (lf d n:Nat) (h:H) (bP:3000000<=lf)
include bP
set_option maxHeartbeats 1000000 in
theorem amY(v u:Value)(xs:List Int)(L:List (List Int))(K:List Int)(hR:Row h n 3 .i64 v xs)(hu:xf h n u L K)(hl:xs.length<=100000)(hL:L.length<=100000∧∀l∈L,l.length<=100000)(hK:K.length<=100000):
 ae (fun _=>False) n (eW lf (d+9) 133 #[v,u]) h n fun v' h' n'=>v'=if xj xs L K=true then .tuple #[jI (gM (ph xs L K K.length)),jI 0]else .tuple #[jI 0,jI 1]:=by
 obtain⟨r,I⟩:∃r:Value,(if xj xs L K=true then aq8 #[jI (gM (ph xs L K K.length)),jI 0]else .tuple #[jI 0,jI 1])=r:=⟨_,rfl⟩;rw[I];rw[aF (fun _=>UX) rfl];refine ae.aE ?_;unfold EK;have u7:=hR;obtain⟨a,c,rfl⟩:=hR.len;obtain⟨a2,c2,Q,P,rfl,hx,Y⟩:=hu.agg;refine kK trivial _ _ ?_;obtain⟨A,t⟩:∃A,h.set n (some ⟨178,true,(Value.agg #[.slice a2 L.length c2,.slice Q K.length P]).cells.toList⟩)=A:=⟨_,rfl⟩;have N:A.get n=some ⟨178,true,[.slice a2 L.length c2,.slice Q K.length P]⟩:=by rw[<-t,get_eq];rfl
 have hk:∀b,b<n->A.get b=h.get b:=fun b D=>by rw[<-t,aB _ _ jO]
 rw[t];have u6:=u7.ay (cH n) hk;have Z:=hx.ay (cH n) hk;have X:=Y.ay (cH n) hk;have g:n<n+1:=dK n;have c1:∀p q:Value,[p,q][1]? =some q:=fun _ _=>rfl;refine jB ?_;refine tY trivial _ _ _ N g (ai _) (c1 _ _) fun T1 t1=> ?_;refine jB ?_;refine wR aL (GA lf (d+7) _ A xs.length jO) jO fun v3 h3 n3 T3 v9 w1 u3 t3=> ?_;obtain⟨j,s,C⟩:=u3;have j:v3=jI (dq xs.length:Int):=j;have s:h3=A:=s;subst j s C;have B:=t1.gq t3;by_cases eq:K.length=dq xs.length
 rotate_left
 ·have T:(((K.length:Nat):Int) !=((dq xs.length:Nat):Int))=true:=bne_iff_ne.2 jO;refine jA (aI @T (aI @B (aI @gO (aI @oU @Hy)))) ?_;rw[<-I,if_neg];unfold xj;rw[decide_eq_false eq];simp
 have T:(((K.length:Nat):Int) !=((dq xs.length:Nat):Int))=false:=by rw[eq];simp
 have Am:xj xs L K=rN xs L K K.length:=by unfold xj;rw[decide_eq_true eq,Bool.true_and]
 refine jA (aI @T (aI @B (aI @gO (aI @oU (aI @Hy @N))))) ?_
 refine cG K.length (fun fu i (q:Int)=>vI lf (eW lf (d+8)) fu (vJ lf (eW lf (d+8))) (.slice a xs.length c) (.agg #[.slice a2 L.length c2,.slice Q K.length P]) (jP n 0) (jI 0) (jI 0) (jI q) (.bool false) (.slice Q K.length P) (jI (K.length:Nat)) (jI (i:Nat)))
  (fun i q h' n'=>n+1<=n'∧(∀b,b<n+1->h'.get b=h3.get b)∧q=gM (ph xs L K i)∧rN xs L K i=true) ?_ ?_ lf 0 0 _ _ (bU _) jO ⟨ai _,fun _ _=>rfl,rfl,rfl⟩
 ·rintro fu q h' n' ⟨hn,e,rfl,J⟩;rw[vI];refine jA @bE ?_
  (try unfold vJ);(try dsimp only)
  refine jB ?_;rw[<-I,Am,if_pos J]
 ·rintro fu i q h' n' hi ⟨hn,e,rfl,J⟩ next;obtain⟨b,v5,cap,o,cs,hv,hg,D,_,_,_,u5⟩:=(X.ay hn e).some jO;cases hv;have e1:(i:Int)<((K.length:Nat):Int):=jO;have O:=u5 i hi;have F:=(e n g).trans N;have v7:n<n':=jO;have x:iL xs L K i=false->(aq8 #[jI 0,jI 1])=r:=fun D=>by rw[<-I,Am,if_neg (by rw[amX hi D];exact Oo)]
  rw[vI];by_cases R:K.getD i 0<0
  ·refine jA (aI @e1 (aI @hg (aI @O @R))) ?_
   (try unfold vJ);(try dsimp only)
   refine jB ?_;exact x (by unfold iL;rw[decide_eq_false (Int.not_le.2 R)];rfl)
  by_cases p2:((L.length:Nat):Int)<=K.getD i 0
  ·refine jA (aI @e1 (aI @hg (aI @O (aI @R (aI @F @p2))))) ?_
   (try unfold vJ);(try dsimp only)
   refine jB ?_;exact x (by unfold iL;rw[decide_eq_false (Int.not_lt.2 p2),Bool.false_and,Bool.and_false])
  obtain⟨k,m⟩:∃k:Nat,K.getD i 0=(k:Int):=⟨(K.getD i 0).toNat,jO⟩;have e3:(k:Int)<((L.length:Nat):Int):=jO;have e4:¬((L.length:Nat):Int)<=(k:Int):=jO;have e5:¬((k:Int)<0):=jO;have U:rM L K i=L.getD k []:=by unfold rM;rw[m,eg]
  have lm:L.getD k []∈L:=by rw[aC,aJ jO];exact cb jO
  rw[m]at O;refine jA (aI @e1 (aI @hg (aI @O (aI @e5 (aI @F @e4))))) ?_;refine aN aL (aaE lf (d+5) n' h' _ xs (u6.ay hn e) jO i jO) jO (fun _ _ h=>h.elim) fun v4 h4 G v8 v0 u2=> ?_;obtain⟨w,rfl,hw⟩:=u2;have W:∀b,b<n+1->h4.get b=h3.get b:=fun b D=>(v0 b jO id).trans (e b D);have u9:=(W n g).trans N;obtain⟨b2,v1,v2,o2,w2,u0,u4,w0,E⟩:=(Z.ay (show n+1<=G by omega) W).at jO;cases u0;obtain⟨q,hq,u1⟩:=E k jO;have v6:n<G:=jO;refine jA (aI @dF (aI @ext1 (aI @u9 (aI @e3 (aI @u4 @hq))))) ?_;refine bz (aaD lf (d+2) G h4 bP w q _ _ hw u1 (by rw[BF];omega) (by have:=hL.2 _ lm;omega)) jO (fun _ _ h=>h.elim) ?_;have z0:((0:Int) !=0)=false:=rfl;have z1:((1:Int) !=0)=true:=rfl;by_cases z:dP 0 1099511627776 (L.getD k [])=true∧ef ((L.getD k []).length:Int) (eN xs i)=true
  ·rw[if_pos z];have f:iL xs L K i=true:=by unfold iL;rw[U,z.1,z.2,m,decide_eq_true (show(0:Int)<=(k:Int) by omega),decide_eq_true e3];rfl
   have ca:yY xs L K i=gN (eN xs i) (L.getD k []):=by unfold yY;rw[U]
   have b1:=MQ (l:=eN xs i) (ls:=L.getD k []) fun y Y=>(iG.1 z.1 y Y).1;have b2:=Gw (eN xs i) (L.getD k []);have b3:=MM (ph xs L K i);have b4:=MN (abt J).1;refine jA (aI @dF (aI @ext1 @z0)) ?_;refine next _ h4 G ⟨jO,W, ?_,by rw[abr,J,f];rfl⟩;rw[Nj,ca,<-ML b1];rfl
  ·rw[if_neg z]
   have f:iL xs L K i=false:=by
    unfold iL;rw[U];cases q1:dP 0 1099511627776 (L.getD k [])with
    |false=>simp
    |true=>
     cases q2:ef ((L.getD k []).length:Int) (eN xs i)with
     |false=>simp
     |true=>exact absurd ⟨q1,q2⟩ z
   refine jA (aI @dF (aI @ext1 @z1)) ?_
   (try unfold vJ);(try dsimp only)
   refine jB ?_;exact x f
end
end Go.Proofs.YtcehhgppfahbkaaGreatDoor
