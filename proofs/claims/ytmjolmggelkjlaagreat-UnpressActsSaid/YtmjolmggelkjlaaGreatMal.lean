import Derived.Test.YtmjolmggelkjlaaGreatMak
open Go.Proofs.Tryz renaming prog→aa
open Nat renaming le_refl→ah, lt_succ_self→dO, le_succ→eL, le_trans→iV, lt_or_ge→pQ
open Bool renaming not_false→cx, and_self→eA, not_true→eK
open Int renaming toNat_of_nonneg→lG
set_option linter.unusedVariables false
set_option linter.unusedSimpArgs false
namespace Go.Proofs.YtmjolmggelkjlaaGreat
open Go.RowKit Ev Cn Ip
set_option maxRecDepth 20000
section
variable {Y d n n0 Z win lim K bd bj a0:Nat} {h:H} {L Ly:Nat->Nat} {e:Ex} {m my:Xm} {S:List UInt8} {at_:Nat} {tk:List Nat} {t:List Nat} {er:Int} {Q:Value->H->Nat->Prop}
theorem al5{A C E G Hh I M1 N1 P v:Value}{O0:Nat}{k:(V->V->V->V->V->V->V->V->V->V->V->V->V->V->M V)×(V->M V)}{l:List (Int×Int)}(hK:cY S Z K x0 t er)(w6:K<=93700)(hS:S.length<=200)(hu:Z<=200)(X:lim<=65536)(v9:win<=1048576)(w4:l.length<=1000)(v1:3000000<=Y):
 ∀(r i c:Nat) (h:H) (n:Nat) (L Ly:Nat->Nat) (m:Xm) (e:Ex) (at_:Nat) (tk:List Nat),i+r=l.length->r<c->lU h n v l->(∀b,aJ v b->b<n0)->lV h n n0 L Ly S Z win lim K bd bj a0 m my e at_ tk->
 (∀(h:H) (n:Nat) (L Ly:Nat->Nat) (m:Xm) (e:Ex) (at_:Nat) (tk:List Nat),lU h n v l->lV h n n0 L Ly S Z win lim K bd bj a0 m my e at_ tk->af (fun _=>False) n0 (k.1 A (.string ⟨S.toArray⟩) C (jP bd 0) E (jP a0 0) G Hh I (jP bj 0) (jI ((win+lim+36*Z+40960:Nat):Int)) M1 N1 (jI (O0:Int))) h n Q)->
 af (fun _=>False) n0 (tC Y (aj aa gt Y (d+20)) c k A (.string ⟨S.toArray⟩) C (jP bd 0) E (jP a0 0) G Hh I (jP bj 0) (jI ((win+lim+36*Z+40960:Nat):Int)) M1 N1 (jI (O0:Int)) P v (jI ((l.length:Nat):Int)) (jI (i:Int))) h n Q:=by
 intro r
 induction r with
 |zero=>intro i c h n L Ly m e at_ tk hi hf row hv q hk;obtain⟨c,rfl⟩:∃f,c=f+1:=⟨c-1,jO⟩;obtain rfl:i=l.length:=jO;rw[tC];refine jA @Int.lt_irrefl ?_;exact hk h n L Ly m e at_ tk row q
 |succ r ih=>
  intro i c h n L Ly m e at_ tk hi hf row hv q hk;obtain⟨c,rfl⟩:∃f,c=f+1:=⟨c-1,jO⟩;have v0:((i:Nat):Int)<((l.length:Nat):Int):=jO;obtain⟨p,hp⟩:∃p,l[i]? =some p:=⟨_,List.getElem?_eq_getElem jO⟩;have nn:=q.nn;have hj:=q.hj;have nj:=q.nj;rw[tC];refine jA @v0 ?_;refine al1 row hp nn _ fun h1 ga k1=> ?_;have q1:=q.grow (eL n) k1;have D:=row.au (eL n) k1;have u1:=q1.gj;have o:=q1.hj;refine fK trivial trivial bj 0 _ u1 o (show 0+4<=4 by decide) ?_;refine fK trivial trivial n 0 _ ga (dO n) (show 0+2<=2 by decide) ?_;have w1:=q1.i.len;have u4:=alH (Y:=Y) (d:=d+2) q1.x q1.i hK jO jO X jO jO p.1 p.2 v1;rw[q1.ma]at u4;refine aN aE u4 jO (fun b _ s=>q1.w b s) fun v2 h2 n2 u9 u u8=> ?_;obtain⟨e2,u3,y,rfl,g,L2,m2,b1,b2,x2⟩:=u8;have R:=q1.lj;have nW:∀{b},Lz n L b=0->¬WX (Lz n L) b:=fun s w=>by have:=w.1;omega
  have v7:=(u bj o (nW R)).trans u1;refine cq (W:=fun _=>False) (n0:=n0) (sz:=4) trivial (vs:=rC a0 u3 y true) rfl rfl rfl v7 jO (.inl nj) _ fun h3 u0 k3=> ?_;have u6:L2 bj=0:=(b1 bj o).trans R;have x3:=x2.au (h':=h3) (ah _) (fun _ _=>rfl) (fun b s x w2=>k3 b (fun w=>by rw[w,u6]at x;omega));have O:=q1.next (h':=h3) u9 (fun b s hw v6=>(k3 b v6).trans (u b s hw)) b1 x3 b2 g u0
  have B:lU h3 n2 v l:=by
   rcases D with w|⟨b,x,w2,w3⟩
   ·exact .inl w
   ·have s:=hv b (by rw[x];exact⟨_,_,_,rfl⟩);exact .inr ⟨b,x,(k3 b jO).trans ((u b w3 (nW ((fw jO).trans (q.l0 b s)))).trans w2),jO⟩
  have gx:=u0;unfold rC at gx;have v3:=O.hj;have w7:=O.gd;have w5:=O.hd;have w0:=g.len;have xl:=g.xi.len;have xo:=g.xi.out;have xh:=g.xi.held;have a:=x3.held (Y:=Y) (d:=d+14) jO g.xi.bd g.xi.lv jO jO g.bD;have j:=x3.waiting (Y:=Y) (d:=d+19);rw[O.ma]at a j;refine jB ?_;refine gI trivial bj 3 _ gx v3 (ah _) rfl fun T1 t1=> ?_;refine jA @eK ?_;refine lP aE a jO fun v4 h4 n4 T2 U u2 u7 t2=> ?_;obtain⟨N,rfl,hN⟩:=u7;have zN:¬((win+lim+36*Z+40960:Nat):Int)<(N:Int):=jO;have J:=O.grow U u2;have z:=B.au U u2;have v8:=J.gd;have v5:=J.hd;have T:=J.x.waiting (Y:=Y) (d:=d+19);rw[J.ma]at T;refine jA @zN ?_;refine lO aE T jO fun T3 t3=> ?_;refine jB ?_;refine lN trivial bd 2 _ v8 v5 rfl fun T4 t4=> ?_;have x:IntKind.i64.wrap ((lim:Int)+250)=((lim+250:Nat):Int):=by rw[aH jO jO];rfl
  have zW:¬((lim+250:Nat):Int)<((e2.out.length:Nat):Int):=jO;have u5:¬(lim:Int)+250<((e2.out.length:Nat):Int):=jO;have w2:IntKind.i64.wrap ((i:Int)+1)=((i+1:Nat):Int):=by rw[aH jO jO];rfl
  have w3:(i:Int)+1=((i+1:Nat):Int):=rfl;try simp(disch:=first|omega|assumption) only[Nat.reduceAdd,Nat.reduceLT,RZ,x,zW,u5,w2,w3,t3.cA t4,cx,eA,dQ]
  exact ih (i+1) c h4 n4 _ _ m2 e2 u3 y jO jO z hv J hk
end
section
variable {Y d n n0 Z win lim K bd bj a0:Nat} {h:H} {L Ly:Nat->Nat} {e:Ex} {m my:Xm} {S:List UInt8} {at_:Nat} {tk:List Nat} {t:List Nat} {er:Int} {Q:Value->H->Nat->Prop}
theorem al6 {A E G C I M1 N1 v:Value} {k0:(V->V->V->V->V->M V)×(V->M V)} {l:List (Int×Int)} (hK:cY S Z K x0 t er) (x:K<=93700) (hS:S.length<=200) (W:Z<=200) (k:lim<=65536) (j:win<=1048576) (s:l.length<=1000) (u:3000000<=Y) (U:∀b,aJ v b->b<n0)
 (X:∀(h:H) (n:Nat) (L Ly:Nat->Nat) (e:Ex) (m:Xm) (at_:Nat) (tk:List Nat),lV h n n0 L Ly S Z win lim K bd bj a0 m my e at_ tk->af (fun _=>False) n0 (k0.1 (.string ⟨S.toArray⟩) (jP bd 0) (jP a0 0) C (jP bj 0)) h n Q):
 ∀(r o g:Nat) (h:H) (n:Nat) (L Ly:Nat->Nat) (m:Xm) (e:Ex) (at_:Nat) (tk:List Nat),o+r=5->r<g->lU h n v l->lV h n n0 L Ly S Z win lim K bd bj a0 m my e at_ tk->
 af (fun _=>False) n0 (tD Y (aj aa gt Y (d+20)) g k0 A (.string ⟨S.toArray⟩) v (jP bd 0) E (jP a0 0) G C I (jP bj 0) (jI ((win+lim+36*Z+40960:Nat):Int)) M1 N1 (jI (o:Int))) h n Q:=by
 intro r
 induction r with
 |zero=>intro o g h n L Ly m e at_ tk hi hf row q;obtain⟨g,rfl⟩:∃f,g=f+1:=⟨g-1,jO⟩;obtain rfl:o=5:=jO;have z:¬((5:Nat):Int)<5:=jD;rw[tD];refine jA @z ?_;exact X h n L Ly e m at_ tk q
 |succ r T=>
  intro o g h n L Ly m e at_ tk hi hf row q;obtain⟨g,rfl⟩:∃f,g=f+1:=⟨g-1,jO⟩;have z:(o:Int)<5:=jO;obtain⟨a,c,ev⟩:=row.len;have R:∀K:Value->M Value,bx v K=K (jI ((l.length:Nat):Int)):=fun K=>by rw[ev];rfl
  rw[tD];refine jA (aI @z @R) ?_;refine al5 (d:=d) (O0:=o) hK x hS W k j s u l.length 0 Y h n L Ly m e at_ tk jO jO row U q fun h' O L' B P e' y p i N=> ?_;have J:IntKind.i64.wrap ((o:Int)+1)=((o+1:Nat):Int):=by rw[aH jO jO];rfl
  have D:(o:Int)+1=((o+1:Nat):Int):=rfl;unfold Hb;refine jA (aI @J @D) ?_;exact T (o+1) g h' O L' B P e' y p jO jO i N
end
section
variable {Y d n n0 Z win lim K bd bj a0:Nat} {h:H} {L Ly:Nat->Nat} {e:Ex} {m my:Xm} {S:List UInt8} {at_:Nat} {tk:List Nat} {t:List Nat} {er:Int}
theorem al7 (O:cY S Z K x0 t er) (N:K<=93700) (hS:S.length<=200) (w5:24<=Z) (hu:Z<=200) (v4:1<=lim) (v:lim<=65536) (u2:64<=win) (z3:win<=1048576) (J:300000000<=Y)
 (he:er=(oj S Z (S.length+1) 0).2) (ht:er=0->t=pO S Z (S.length+1) 0) (q:lV h n n0 L Ly S Z win lim K bd bj a0 m my e at_ tk):
 af (fun _=>False) n0 ((BT Y (aj aa gt Y (d+20))).1 (.string ⟨S.toArray⟩) (jP bd 0) (jP a0 0) (jP my.a 0) (jP bj 0)) h n fun v' _ _=>v'= .bool true:=by
 have nn:=q.nn;have hj:=q.hj;have nj:=q.nj;have i:3000000<=Y:=iV jD J;have z9:=q.i.len;have j:∀{L:Nat->Nat} {b:Nat},L b=0->¬WX L b:=fun a w=>by have:=w.1;omega
 have z5:t.length<=900000000:=by have h1:=Lr S Z K x0;have h2:x0.tot.length=0:=rfl;have h3:=O.2.1;rw[h3,List.length_append]at h1;omega
 unfold BT;dsimp only;refine fK trivial trivial bj 0 _ q.gj hj (show 0+4<=4 by decide) ?_;have rx:=Zp (Y:=Y) (d:=d+1) (ok:=true) q.x q.i O N hS v4 v u2 jO jO i;rw[q.ma]at rx;refine aN aE rx nn (fun b _ a=>q.w b a) fun v1 h1 n1 v2 R u9=> ?_;obtain⟨e1,z0,rfl,X,U,e',i1,L1,m1,b1,b2,x1⟩:=u9;have x5:=(R bj hj (j q.lj)).trans q.gj;refine cq (W:=fun _=>False) (n0:=n0) (sz:=4) trivial (vs:=rC a0 z0 t true) rfl rfl rfl x5 jO (.inl nj) _ fun h2 w9 k2=> ?_;have u0:L1 bj=0:=(b1 bj hj).trans q.lj;have x2:=x1.au (h':=h2) (ah _) (fun _ _=>rfl) (fun b a s w2=>k2 b (fun w=>by rw[w,u0]at s;omega));have jx:∀b,b<n->¬WX L b->b≠bj->h2.get b=h.get b:=fun b a hw w3=>(k2 b w3).trans (R b a hw);have y2:cN h2 n1 (Lz n Ly) Z 1048576 65536 uP my:=q.y.au v2 (fun c hc=>fw hc) (fun c hc s w2=>jx c hc (j (q.dj c hc s w2)) (fun w=>by rw[w,q.yj]at s;omega));have y0:=(jx bd q.hd (j q.ld) q.dz).trans q.gd;have w1:bd<n1:=by have:=q.hd;omega
 have v9:bj<n1:=jO
 have ap:∀b,b<n1->WX (Lz n Ly) b->L1 b=0:=fun b a w=>by
  rcases pQ b n with c|c
  ·unfold WX at w;rw[fw c]at w;exact(b1 b c).trans (q.dj b c w.1 w.2)
  ·exact absurd w (j (kN c))
 have iy:fZ S Z 1048576 65536 K uP 0 []:=⟨Zj w5 jO,rfl,rfl⟩;have ry:=Zp (Y:=Y) (d:=d+1) (ok:=true) y2 iy O N hS jD jD jD jD jD i;refine jB ?_
 refine aN aE ry jO (fun b _ a=> .inl (by
  rcases pQ b n0 with c|c
  ·exact absurd a (j ((fw jO).trans (q.y0 b c)))
  ·exact c)) fun v3 h3 g v0 C u8=> ?_
 obtain⟨e2,y9,rfl,y7,y5,d',i2,L2,m2,c1,c2,y3⟩:=u8;have x3:=x2.au (h':=h3) (n':=g) v0 (fun _ _=>rfl) (fun b a s w2=>C b a (fun w=>by rw[ap b a w]at s;omega));have x9:=(C bd w1 (j ((fw q.hd).trans q.yd))).trans y0;have w7:=(C bj v9 (j ((fw hj).trans q.yj))).trans w9;refine dL rfl _ ?_;refine cq (W:=fun _=>False) (n0:=n0) (sz:=4) trivial (vs:=rC my.a y9 t true) rfl rfl rfl (get_eq _ _ _) (dO g) (.inl jO) _ fun P x6 k4=> ?_;have u4:∀b,b<g->P.get b=h3.get b:=fun b a=>by rw[k4 b jO,aw _ _ jO]
 have x4:=x3.au (h':=P) (n':=g+1) (eL _) (fun _ _=>rfl) (fun b a _ _=>u4 b a);have y4:=y3.au (h':=P) (n':=g+1) (eL _) (fun _ _=>rfl) (fun b a _ _=>u4 b a);have x8:=(u4 bd jO).trans x9;have w6:=(u4 bj jO).trans w7;have a':bd<g+1:=jO;refine jA @x8 ?_;refine aN aE (akH (Y:=Y) (d:=d+9) (S:=S) (Z:=Z) jO jO J) jO (fun _ _ h=>h.elim) fun v5 h5 r z8 y1 f=> ?_
 obtain⟨T,rfl,hT⟩:∃T,v5= .agg [.string ⟨(bS T).toArray⟩,jI er].toArray∧(er=0->T=t):=by
  rw[<-he]at f;unfold sB at f;by_cases c:er=0
  ·rw[if_pos c]at f;exact⟨_,by rw[f,c];rfl,fun _=>(ht c).symm⟩
  ·rw[if_neg c]at f;exact⟨[],f,fun w=>absurd w c⟩
 have u5:∀b,b<g+1->h5.get b=P.get b:=fun b a=>y1 b a id;refine dL rfl _ ?_;refine cq (W:=fun _=>False) (n0:=n0) (sz:=2) trivial (vs:=[.string ⟨(bS T).toArray⟩,jI er]) rfl rfl rfl (get_eq _ _ _) (dO r) (.inl jO) _ fun h6 A k6=> ?_;have u6:∀b,b<g+1->h6.get b=P.get b:=fun b a=>by rw[k6 b jO,aw _ _ jO];exact u5 b a
 have E:=x4.au (h':=h6) (n':=r+1) jO (fun _ _=>rfl) (fun b a _ _=>u6 b a);have y6:=y4.au (h':=h6) (n':=r+1) jO (fun _ _=>rfl) (fun b a _ _=>u6 b a);have B:=(u6 bj jO).trans w6;have Q:=(u6 g jO).trans x6;have v6:bj<r+1:=jO;have w0:g<r+1:=jO;have u1:r<r+1:=jO;unfold rC at B Q;have xd:=E.done (Y:=Y) (d:=d+19);have xs:=EG (Y:=Y) (d:=d+19) E;have D:=E.err (Y:=Y) (d:=d+19);have xt:=E.steps (Y:=Y) (d:=d+19);have ye:=y6.err (Y:=Y) (d:=d+19);have yt:=y6.steps (Y:=Y) (d:=d+19);have I:iU lim e1=true:=by unfold iU;rw[X]
 rw[b2.trans q.ma]at xd xs D xt;rw[c2]at ye yt;rw[X]at xd D;rw[y7]at ye;rw[I]at xs;rw[U]at xt;rw[y5]at yt;have fx:gO (some er)=true:=rfl;have ex:mB (some er)=er:=rfl;rw[fx]at xd;rw[ex]at D ye;have z1:(er !=er)=false:=bne_self_eq_false _;have z2:(((K:Nat):Int) !=((K:Nat):Int))=false:=bne_self_eq_false _;refine lO aE xd jO fun T1 t1=> ?_;refine jA @eK ?_;refine lO aE xs jO fun T2 t2=> ?_;refine jA @eK ?_;refine lO aE D jO fun T3 t3=> ?_;refine jB ?_;refine lN trivial r 1 _ A u1 rfl fun T4 t4=> ?_;refine jA @z1 ?_;refine lO aE ye jO fun T5 t5=> ?_;refine jB ?_;refine lO aE D jO fun T6 t6=> ?_;refine jA @z1 ?_;refine lO aE xt jO fun T7 t7=> ?_;refine jB ?_;refine lO aE yt jO fun T8 t8=> ?_;refine jA @z2 ?_;refine lN trivial bj 2 _ B v6 rfl fun T9 t9=> ?_;refine jB ?_;refine lN trivial g 2 _ Q w0 rfl fun f' z4=> ?_;try simp(disch:=first|omega|assumption) only[Nat.reduceAdd,Nat.reduceLT,RZ,t3.cA t4,cx,eA,dQ,A]
 have s:∀b,WX L1 b->n0<=b∨False:=fun b a=> .inl (by
  rcases pQ b n0 with c|c
  ·exact absurd a (j ((b1 b jO).trans (q.l0 b c)))
  ·exact c)
 have u:af (fun _=>False) n0 (ai (aj aa gt Y (d+20)) 39 [jP a0 0,ii 1] fun l=>cD l (ii 0) fun m=>aA m (ai (aj aa gt Y (d+20)) 40 [jP a0 0,.string {data:=#[97]}] fun n=>cD n (ii 0) fun o=>aA o (ai (aj aa gt Y (d+20)) 28 [] fun p=>ag [p]) (ag [bF])) (ag [bF])) h6 (r+1) fun v' _ _=>v'= .bool true:=by
  have sx:=Ll (Y:=Y) (d:=d+3) E i1.xi O jO jO v 1 i;rw[b2.trans q.ma]at sx;refine aN aE sx jO (fun b _ a=>s b a) fun v7 h7 n7 z7 c' u7=> ?_;obtain⟨k,e7,rfl,sp,L7,m7,f1,f2,x7⟩:=u7
  have k0:k=0:=by
   rcases sp.Zg with w|w
   ·exact w
   ·rw[I]at w;cases w
  subst k0;have zk:(((0:Nat):Int)==0)=true:=rfl;have i7:=i1.gone sp
  have y8:e7.c.fin=some er:=by have:=sp.xi.run;rw[Nat.add_zero,U]at this;rw[this];exact O.1
  have l7:=i7.xi.len;have fd:=x7.feed (Y:=Y) (d:=d+18) [97] (by show e7.F.length+1<=1000000000;omega) i7.xi.hD i7.xi.held jO;have r0:hZ win e7 [97]=0:=by unfold hZ;rw[if_pos (.inr (by rw[y8];rfl))]
  rw[f2.trans (b2.trans q.ma),r0]at fd;refine jA @zk ?_
  refine aN aE fd jO (fun b a w=> .inl (by
   rcases pQ b n0 with c|c
   ·exact absurd w (j ((f1 b jO).trans ((b1 b jO).trans (q.l0 b c))))
   ·exact c)) fun v8 h8 n8 z6 b' u3=> ?_
  obtain⟨rfl,rfl,_⟩:=u3;refine jA @zk ?_;refine Ah jO _ ?_;rw[k8]
 by_cases c:er=0
 ·have w4:=hT c;subst w4;rw[if_neg (by rw[c];decide)];refine jA (aI @B (aI @A @decide_eq_true)) ?_;exact u
 ·rw[if_pos (by rw[bne_iff_ne];exact c)];exact u
end
section
variable {Y d n:Nat} {h:H} {S:List UInt8} {v:Value} {l:List (Int×Int)}
theorem al8(u w p:Int)(row:lU h n v l)(u6:S.length<=maxLen)(B:300000000<=Y):af (fun _=>False) n (aj aa gt Y (d+21) 8 #[.agg (EO u w p).toArray,.string ⟨S.toArray⟩,v]) h n fun v' _ _=>v'= .bool true:=by
 have A:3000000<=Y:=iV jD B;rw[aC (fun _=>ac9) rfl];refine af.aB ?_;unfold Hc;refine gu trivial _ _ ?_;obtain⟨h0,e0⟩:∃q,h.set n (some ⟨55,true,(Value.agg (EO u w p).toArray).cells.toList⟩)=q:=⟨_,rfl⟩;have g0:h0.get n=some ⟨55,true,[jI u,jI w,jI p]⟩:=by rw[<-e0,get_eq];rfl
 have k0:∀b,b<n->h0.get b=h.get b:=fun b i=>by rw[<-e0,aw _ _ jO]
 rw[e0];have z:n<n+1:=dO n;refine fK trivial trivial n 0 _ g0 z (show 0+3<=3 by decide) ?_;refine aN aE (al3 (Y:=Y) (d:=d+17) u w p) (eL n) (fun _ _ h=>h.elim) fun v1 h1 U u9 O u2=> ?_;subst u2;have J:=(O n z id).trans g0;have E:n<U:=jO;have y:lU h1 U v l:=row.au jO (fun b i=>(O b jO id).trans (k0 b i));cases hm:EP u w p with
 |false=>refine jA @cx ?_;refine Ah jO _ ?_;rw[k8]
 |true=>
  have v0:=of_decide_eq_true hm;obtain⟨Z,rfl⟩:∃q:Nat,u=(q:Int):=⟨u.toNat,(lG jO).symm⟩;obtain⟨win,rfl⟩:∃q:Nat,w=(q:Int):=⟨w.toNat,(lG jO).symm⟩;obtain⟨lim,rfl⟩:∃q:Nat,p=(q:Int):=⟨p.toNat,(lG jO).symm⟩;obtain⟨a0,c0,ev⟩:=row.len;have kl:∀K:Value->M Value,bx v K=K (jI ((l.length:Nat):Int)):=fun K=>by rw[ev];rfl
  by_cases R:(200:Int)<(Z:Int)
  ·refine jA (aI @eK (aI @J @R)) ?_;refine Ah jO _ ?_;rw[k8]
  by_cases c2:(200:Int)<((S.length:Nat):Int)
  ·refine jA (aI @eK (aI @J (aI @R @c2))) ?_;refine Ah jO _ ?_;rw[k8]
  by_cases c3:(30:Int)<((l.length:Nat):Int)
  ·refine jA (aI @eK (aI @J (aI @R (aI @c2 (aI @kl @c3))))) ?_;refine Ah jO _ ?_;rw[k8]
  refine jA (aI @eK (aI @J (aI @R (aI @c2 (aI @kl @c3))))) ?_;have X:Z<=200:=jO;have hS:S.length<=200:=jO;have e:24<=Z:=jO;refine aN aE (Zi (Y:=Y) (d:=d+17) e jO (win:=win) (lim:=lim) jO jO jO jO) jO (fun _ _ h=>h.elim) fun v2 h2 T u8 N u1=> ?_;obtain⟨L,m,rfl,l0,x2⟩:=u1;have g2:=(N n E id).trans J;have D:n<T:=jO;refine jA (aI @bI (aI @ext1 @g2)) ?_;refine aN aE (Zi (Y:=Y) (d:=d+17) e jO (win:=1048576) (lim:=65536) jD jD jD jD) jO (fun _ _ h=>h.elim) fun v3 h3 f u7 r u0=> ?_;obtain⟨Ly,my,rfl,j,y3⟩:=u0;have g3:=(r n D id).trans g2;have C:n<f:=jO;have z0:((0:Int) !=0)=false:=rfl;refine jA (aI @bI (aI @ext1 @z0)) ?_;refine dL rfl _ ?_;refine cq (W:=fun _=>False) (n0:=n) (sz:=4) trivial (vs:=rC m.a 0 [] true) rfl rfl rfl (get_eq _ _ _) (dO f) (.inl jO) _ fun I u4 k4=> ?_;have Q:∀b,b<f->I.get b=h3.get b:=fun b i=>by rw[k4 b jO,aw _ _ jO]
  have g4:=(Q n C).trans g3;have u3:n<f+1:=jO;refine jA @g4 ?_;refine bz (al4 (Y:=Y) (d:=d+19) (Z:=Z) (win:=win) (lim:=lim) jO jO jO) jO (fun _ _ h=>h.elim) ?_;obtain⟨K,t2,G,hK,hz⟩:=canon (S:=S) (Z:=Z) hS e X;have P:∀b,b<U->I.get b=h1.get b:=fun b i=>(Q b jO).trans ((r b jO id).trans (N b i id));have x:lU I (f+1) v l:=y.au jO P
  have q:lV I (f+1) n (Lz T L) (Lz f Ly) S Z win lim K n f m.a m my uP 0 []:=by
   refine⟨x2.au jO (fun c g=>fw g) (fun c g _ _=>(Q c jO).trans (r c g id)),rfl,⟨Zj e jO,rfl,rfl⟩,y3.au jO (fun c g=>fw g) (fun c g _ _=>Q c g),fun c g s w2=> ?_,fun c g=>(fw jO).trans (l0 c jO),jO,g4,u3,(fw jO).trans (l0 n E),u4,dO f,kN jO,jO,jO,kN (ah _),(fw C).trans (j n D),fun c g=>(fw jO).trans (j c jO)⟩;rcases pQ c T with k|k
   ·rw[fw jO,j c k]at s;omega
   ·exact kN k
  refine al6 (d:=d) (n0:=n) (my:=my) (t:=pO S Z (S.length+1) 0++t2) hK G hS X jO jO jO A (fun b i=> ?_) (fun h' n' L' v5 e' m' v4 u5 q'=> ?_) 5 0 Y I (f+1) _ _ m uP 0 [] jO jO x q
  ·rcases row with ⟨a,s,w2,_⟩|⟨b2,s,_,w3⟩
   ·rw[s]at i;obtain⟨o,l',c',w⟩:=i;cases w;exact absurd rfl (w2 b o)
   ·rw[s]at i;rw[i.inj];exact w3
  ·exact al7 (d:=d) hK G hS e X jO jO jO jO B rfl (fun w=>by rw[hz w,List.append_nil]) q'
end
theorem al9{w:World}{vs:List Value}(g:dR (qo aa w) [55,9,64] vs):Calls aa 8 vs.toArray w fun e w'=>e= .returned (.bool true)∧Below w.heap.size w w':=
 alT (Y:=300000000) (d:=1021) g fun n h f q=>by obtain⟨a,b,c,rfl,r,p,o⟩:=Ev.WH q;obtain⟨i,j,k,rfl⟩:=alY r;obtain⟨S,rfl,m⟩:=alV p;obtain⟨l,row⟩:=al0 o;exact al8 (d:=1000) i j k row m (ah _)
end Go.Proofs.YtmjolmggelkjlaaGreat
