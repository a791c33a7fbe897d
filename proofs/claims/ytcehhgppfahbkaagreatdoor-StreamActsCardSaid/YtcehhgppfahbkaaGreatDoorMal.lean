import Derived.Test.YtcehhgppfahbkaaGreatDoorMak
import Derived.Test.YtcehhgppfahbkaaGreatDoorMaj
import Derived.Test.YtcehhgppfahbkaaGreatDoorMai
import Derived.Test.YtcehhgppfahbkaaGreatDoorMah
open Nat renaming le_refl→ai, le_succ→cH, lt_succ_self→dK, lt_of_lt_of_le→eD, le_trans→rY
open Go.Proofs.Tryz renaming prog→aa, underlying3→Cz
open List renaming length_append→aG, range→aY, append_assoc→bW, length_cons→ct, append_nil→cz, length_take→cB, length_drop→fp, take_append_drop→jN, length_range→j7, length_singleton→nC, flatMap_cons→pG, eq_nil_of_length_eq_zero→qE, length_filter_le→OM
open Go.Value renaming string→aZ
open BitVec renaming ofInt→dR
open Int renaming toNat_natCast→eg
open Go.IntWalk renaming u32_in→Oz
open ByteArray renaming mk→ar4
set_option linter.unusedVariables false
set_option linter.unusedSimpArgs false
namespace Go.Proofs.YtcehhgppfahbkaaGreatDoor
open Go.RowKit Ev Tb Cn Ip
theorem acI{t:List Nat}(a:t≠[])(K:Value->M Value):ej (bp t) (aZ {data:=#[]}) K=K (.bool false):=by have:=Aa (k:=K) (bS t) [];rw[decide_eq_false (fun q=>a (qE (by rw[<-qn t,q];rfl)))]at this;exact this
theorem uq{n m w c:Nat}{sv a:Value}(e:∀c,c<m->az a c->az sv c)(d:n<=m)(b:c=w∨az a c):n<=c∨(c=w∨az sv c):=by
 rcases b with q|q
 ·exact .inr (.inl q)
 ·by_cases h:c<m
  ·exact .inr (.inr (e c h q))
  ·exact .inl jO
theorem ao4:bh 0 1=[false]:=jD
section
variable {lf d n lo w K:Nat} {sv:Value} {l:List Bool} {h:H}
set_option maxHeartbeats 400000 in
theorem ao5(e:3000000<=lf)(g:Gd h n)(x:cK K h lo n w sv l)(w4:1<lo){t:List Nat}(a:By t)(h0:t≠[])(hl:t.length<=900){o s:Nat}(ho:o<t.length)(hs:s<4294967296)(y7:l.length<=4900000)(hd:600<=d):
 ae (fun c=>c=w∨az sv c) n (eW lf (d+12) 64 #[jP w 0,bp t,jI (o:Int),.int .u32 (s:Int)]) h n fun v' h' n'=>v'=jI 0∧∃F,cK K h' lo n' w F (l++lz t o s)∧∀c,c<n->az F c->az sv c:=by
 have p:=Np t;have mem:∀x∈t,x∈dI t:=fun x hx=>GS a hx;have sn:=Nq a h0;have sl:=p.len;have s1:1<=(dI t).length:=List.length_pos_iff.2 sn;have L:=Ns a h0;have zl:=BT (dI t).length (dH (dI t) t) 0;rw[rF]at zl;have D:(iN (jc t)).length<=1000:=by rw[bB];unfold jc;omega
 have x2:=x.lt;have y0:=x.2.ge;have j:∀b,az sv b->lo<=b∧b<n:=fun b a=>x.own.lt a;have yb:=MK (dI t);have yf:((aY 16).filter (fM (dI t))).length<=16:=rY (OM _ _) (by rw[j7];exact ai _);rw[aF (fun _=>S3) rfl];refine ae.aE ?_;unfold JW;have x1:=fun K=>acI h0 K;have c1:¬(900000:Int)<((t.length:Nat):Int):=jO;have c2:¬(o:Int)<0:=jO;have c3:¬((t.length:Nat):Int)<=(o:Int):=jO;refine jA (aI @x1 (aI @gT (aI @c1 (aI @c2 @c3)))) ?_;refine aN aL (aoR (lf:=lf) (d:=d+9) a jO e) (ai _) (fun _ _ h=>h.elim) fun v1 h1 n1 u T w3=> ?_;obtain rfl:v1=bp (dI t):=w3;refine aN aL (aoW (lf:=lf) (d:=d+8) p sn t mem jO e) u (fun _ _ h=>h.elim) fun v2 h2 n2 O R w0=> ?_;obtain⟨o2,rfl,r2,_⟩:=w0;refine jA (aI @dF (aI @ext1 @gT)) ?_;refine aN aL (aoY (lf:=lf) (d:=d+8) s1 sl (dH (dI t) t) (yN _ _ mem) (by rw[rF];omega) r2 e) jO (fun _ _ h=>h.elim) fun v3 h3 n3 N Q v0=> ?_;obtain⟨o3,rfl,E⟩:=v0;have E:Own h3 n2 n3 3 o3 (aH .i64 (iN (jc t))):=E;have P:Gd h3 n3:=((g.ay u fun b a=>T b a id).ay O fun b a=>R b a id).ay N fun b a=>Q b a id;have x3:cK K h3 lo n3 w sv l:=((x.ay u fun b a _=>T b a id).ay O fun b a _=>R b a id).ay N fun b a _=>Q b a id;have w2:IntKind.i64.wrap ((((dI t).length:Nat):Int)+2)=(((dI t).length+2:Nat):Int):=by rw[aV jO jO];rfl
 refine jA (aI @dF (aI @ext1 (aI @gT @w2))) ?_;refine aN aL (am2 (lf:=lf) (d:=d+1) e P E.row D _ jO) jO (fun _ _ h=>h.elim) fun v4 m f r z u9=> ?_;rcases u9 with ⟨_,rfl⟩|⟨no,_⟩
 rotate_left
 ·exact absurd L no
 have z0:((0:Int) !=0)=false:=rfl;have x4:cK K m lo f w sv l:=x3.ay r fun b a _=>z b a id;have y:Gd m f:=P.ay r fun b a=>z b a id;have W:Own m n2 f 3 o3 (aH .i64 (iN (jc t))):=E.ay r fun b a=>z b (E.lt a).2 id;refine jA (aI @dF (aI @ext1 @z0)) ?_;have J:=lx (lf:=lf) (d:=d+9) x4 (v:=s) (k:=32) jD hs jO jO;rw[show((32:Nat):Int)=32 from rfl]at J;refine aN aL J jO (fun b a i=> .inr i) fun v5 h5 n5 y6 x0 u7=> ?_;obtain⟨rfl,y1,x5,c5⟩:=u7;have k5:∀b,b<f->b≠w->¬az sv b->h5.get b=m.get b:=fun b a q1 q2=>x0 b a fun q=>q.elim q1 q2;have I:=lx (lf:=lf) (d:=d+9) x5 (v:=0) (k:=1) jD jD (by rw[aG,cA];omega) jO;rw[show((1:Nat):Int)=1 from rfl,show((0:Nat):Int)=0 from rfl,ao4]at I;refine aN aL I jO (fun b a i=>uq c5 jO i) fun v6 h6 n6 y5 w9 u6=> ?_;obtain⟨rfl,u2,x6,c6⟩:=u6;have B:∀c,c<f->az u2 c->az sv c:=fun c C q=>c5 c C (c6 c jO q);have k6:∀b,b<f->b≠w->¬az sv b->h6.get b=m.get b:=fun b a q1 q2=>(w9 b jO fun q=>q.elim q1 fun q=>q2 (c5 b a q)).trans (k5 b a q1 q2);have w1:IntKind.u32.wrap (o:Int)=(o:Int):=iH jO;refine jA @w1 ?_;have G:=lx (lf:=lf) (d:=d+9) x6 (v:=o) (k:=24) jD (by show o<16777216;omega) (by rw[aG,aG,cA];simp;omega) jO;rw[show((24:Nat):Int)=24 from rfl]at G;refine aN aL G jO (fun b a i=>uq B jO i) fun v7 h7 n7 y4 w7 u5=> ?_;obtain⟨rfl,u1,x7,c7⟩:=u5;have A:∀c,c<f->az u1 c->az sv c:=fun c C q=>B c C (c7 c jO q);have k7:∀b,b<f->b≠w->¬az sv b->h7.get b=m.get b:=fun b a q1 q2=>(w7 b jO fun q=>q.elim q1 fun q=>q2 (B b a q)).trans (k6 b a q1 q2);refine aN aL (ao3 (lf:=lf) (d:=d+8) x7 p sn (by rw[aG,aG,aG,cA,cA];simp;omega) jO) jO (fun b a i=>uq A jO i) fun v8 X n8 y3 w6 u4=> ?_;obtain⟨rfl,u0,x8,c8⟩:=u4;have U:∀c,c<f->az u0 c->az sv c:=fun c C q=>A c C (c8 c jO q);have k8:∀b,b<f->b≠w->¬az sv b->X.get b=m.get b:=fun b a q1 q2=>(w6 b jO fun q=>q.elim q1 fun q=>q2 (A b a q)).trans (k7 b a q1 q2);have gg:X.get 1=m.get 1:=k8 _ y.2 jO fun q=>by have:=(j _ q).1;omega
 have w5:Gd X n8:=⟨gg.trans y.1,eD y.2 jO⟩
 have Y:Own X n2 n8 3 o3 (aH .i64 (iN (jc t))):=W.ay jO fun b a=>k8 b (W.lt a).2 (fun q=>by have:=(W.lt a).1;omega) fun q=>by have:=(j _ q).2;have:=(W.lt a).1;omega
 refine jA (aI @gT @w2) ?_;refine aN aL (amW (lf:=lf) (d:=d+3) e w5 x8 w4 Y.row D (by simp only[aG,cA,nC];omega) _ jO) jO (fun b a i=>uq U jO i) fun v9 h9 n9 y2 y8 u3=> ?_;rcases u3 with ⟨_,rfl,Z,x9,c9⟩|⟨no,_⟩
 rotate_left
 ·exact absurd L no
 refine jB ?_;refine⟨Z, ?_,fun c C q=>U c jO (c9 c jO q)⟩;unfold lz;simp only[bW]at x9;exact x9
end
end Go.Proofs.YtcehhgppfahbkaaGreatDoor
namespace Go.Proofs.YtcehhgppfahbkaaGreatDoor
open Go Go.RowKit Ev Sp Cn
section
variable {α β:Type} {W:Nat->Prop} {n0 m0:Nat} {h:H} {n:Nat} {Q:β->Prop}
end
section
variable {lf d n:Nat} {h:H} {L:Nat->Nat} {l:List UInt8} {t:Nat} {ob:Bool} {m:Tm} {x:SS} {sm:Sm} {k:Nat}
end
end Go.Proofs.YtcehhgppfahbkaaGreatDoor
namespace Go.Proofs.YtcehhgppfahbkaaGreatDoor
open Go.RowKit Ev Sp Cn Ip
section
variable {lf d n room:Nat} {h:H} {L:Nat->Nat} {N4:Int} {out:List UInt8} {s:PS} {q:Pr}
end
abbrev b3:List UInt8:=[66,90,104]
def qy(i:Nat):List Bool:=(b3.take i).flatMap fun c=>bh c.toNat 8
theorem ao6(i:Nat)(h:i<3):qy i++bh (b3.getD i 0).toNat 8=qy (i+1):=by
 match i,h with
 |0,_=>decide
 |1,_=>decide
 |2,_=>decide
theorem acJ(i:Nat):(qy i).length<=24:=by
 match i with
 |0=>decide
 |1=>decide
 |2=>decide
 |k+3=>exact Nat.le_of_eq (by unfold qy;rw[List.take_of_length_le (by show 3<=k+3;omega)];rfl)
def Hh(w:Nat):AB:=⟨93,true,[jP w 0,.int .u32 0,.bool false]⟩
def acK(n l:Nat)(v:Value)(h':H)(n':Nat):Prop:=∃p w a,v= .tuple #[jP p 0,jI 0]∧n<=p∧n<=w∧p<n'∧p≠w∧h'.get p=some (Hh w)∧cK 0 h' n n' w a (qy 3++bh (48+l) 8)
section
variable {lf d n:Nat} {h:H}
theorem ao7(u2:100<=lf){l:Nat}(h1:1<=l)(h2:l<=9):ae (fun _=>False) n (eW lf (d+3) 18 #[jI (l:Int)]) h n (acK n l):=by
 rw[aF (fun _=>JK) rfl];refine ae.aE ?_;unfold Ar;have e1:¬(l:Int)<1:=jO;have e2:¬(9:Int)<(l:Int):=jO;refine jA (aI @e1 @e2) ?_;refine aN aL (amk (h:=h)) (ai _) (fun _ _ h=>h.elim) ?_;rintro _ x _ _ _ ⟨rfl,rfl,Y⟩;refine jB ?_;refine kK trivial _ _ ?_;obtain⟨a,o⟩:∃a,x.set (n+1) (some ⟨93,true,[jP n 0,.int .u32 0,.bool false]⟩)=a:=⟨_,rfl⟩;have X:cK 0 a n (n+1+1) n (.slice none 0 0) (qy 0):=Y.ay jO fun b R _=>by rw[<-o];exact aB _ _ jO
 have gp:a.get (n+1)=some (Hh n):=by rw[<-o];exact get_eq _ _ _
 have E:∀c,az (.slice none 0 0) c->c≠n+1:=fun c J=>J.not_nil.elim;have F:∀c,az (.slice none 0 0) c->n<=c:=fun c J=>J.not_nil.elim;show ae _ _ _ (x.set (n+1) (some ⟨93,true,[jP n 0,.int .u32 0,.bool false]⟩)) _ _;rw[o];clear o;refine jB ?_
 have w:∀(m i e j:Nat) (g:H) (t:Value),i+m=3->m<e->n+2<=j->g.get (n+1)=some (Hh n)->cK 0 g n j n t (qy i)->(∀c,az t c->c≠n+1)->(∀c,az t c->n<=c)->ae (fun _=>False) n (vk lf (eW lf (d+2)) e (DW lf (eW lf (d+2))) (jI (l:Int)) (.pointer none) (jI 0) (jP (n+1) 0) (.bool false) (jI (i:Int))) g j (acK n l):=by
  intro m
  induction m with
  |zero=>
   intro i e j g t hi hf G p D B C;obtain⟨e,rfl⟩:∃f,e=f+1:=⟨e-1,jO⟩;obtain rfl:i=3:=jO;rw[vk];have z:¬((3:Nat):Int)<3:=jD;have O:IntKind.i64.wrap (48+(l:Int))=((48+l:Nat):Int):=by rw[aV jO jO];rfl
   have T:IntKind.u32.wrap ((48+l:Nat):Int)=((48+l:Nat):Int):=Oz _ jO;have Q:n+1<j:=jO;have K:=p;unfold Hh at p;refine jA @z ?_;unfold DW;refine jA (aI @p (aI @O @T)) ?_;have u4:(qy 3).length<=24:=acJ 3;have u:=lx (lf:=lf) (d:=d) D (v:=48+l) (k:=8) jD (by show 48+l<256;omega) jO jO;have N:((8:Nat):Int)=8:=rfl;rw[N]at u;refine aN aL u jO (fun b R hq=> .inl ?_) ?_
   ·rcases hq with rfl|hq
    ·exact ai _
    ·exact C b hq
   ·rintro _ g4 m4 u0 L ⟨rfl,Z,W,u3⟩;refine jB ?_;refine⟨n+1,n,Z,rfl,jO,ai _,jO,jO, ?_,W⟩;rw[L (n+1) jO (fun q=>q.elim (fun q=>by omega) fun q=>B _ q rfl)];exact K
  |succ m ih=>
   intro i e j g t hi hf G p D B C;obtain⟨e,rfl⟩:∃f,e=f+1:=⟨e-1,jO⟩;have z:(i:Int)<3:=jO;have Q:n+1<j:=jO;have bl:=acJ i;rw[vk];refine jA @z ?_;refine tY (m:=j) trivial (n+1) 0 _ p Q (ai _) rfl fun T0 r0=> ?_;have es:(ar4 #[66,90,104])=⟨b3.toArray⟩:=rfl;have U:(i:Int)<((b3.length:Nat):Int):=z;have I:(b3.getD i 0).toNat<256:=(b3.getD i 0).toNat_lt;have O:IntKind.u32.wrap (((b3.getD i 0).toNat:Nat):Int)=((b3.getD i 0).toNat:Int):=Oz _ jO;refine jA (aI @es (aI @U @O)) ?_;refine Zd (m:=j) _ _ (ai _) fun T1 r1=> ?_;refine jB ?_;have u:=lx (lf:=lf) (d:=d) D (v:=(b3.getD i 0).toNat) (k:=8) jD I jO jO;have N:((8:Nat):Int)=8:=rfl;rw[N]at u;refine ajF aL u jO (fun b R hq=> .inl ?_) ?_
   ·rcases hq with rfl|hq
    ·exact ai _
    ·exact C b hq
   ·rintro _ g1 m1 T2 u1 L ⟨rfl,s,P,A⟩;have T:IntKind.i64.wrap ((i:Int)+1)=((i+1:Nat):Int):=F3 jO;try simp(disch:=first|omega|assumption) only[Nat.reduceAdd,Nat.reduceLT,RZ,r0.gq r1,Bool.not_false,oU]
    have r:∀c,az s c->n<=c∧c≠n+1:=fun c hq=>by
     by_cases y:c<j
     ·exact⟨C c (A c y hq),B c (A c y hq)⟩
     ·omega
    rw[ao6 i jO]at P;exact ih (i+1) e m1 g1 s jO jO jO ((L (n+1) jO (fun q=>q.elim (fun q=>by omega) fun q=>B _ q rfl)).trans p) P (fun c hq=>(r c hq).2) fun c hq=>(r c hq).1
 have:=w 3 0 lf (n+1+1) a _ rfl jO jO gp X E F;exact this
end
section
variable {lf d n:Nat} {h:H}
end
end Go.Proofs.YtcehhgppfahbkaaGreatDoor
namespace Go.Proofs.YtcehhgppfahbkaaGreatDoor
open Go.RowKit Ev Tb Cn Ip
def mn(w t:Nat)(e:Bool):AB:=⟨93,true,[jP w 0,.int .u32 (t:Int),.bool e]⟩
structure SW (K:Nat) (h:H) (lo n p w:Nat) (sv:Value) (t:Nat) (e:Bool) (l:List Bool):Prop where
 get:h.get p=some (mn w t e)
 lt:p<n
 pl:lo<=p
 ne:p≠w
 ns:¬az sv p
 wr:cK K h lo n w sv l
 tl:t<4294967296
theorem SW.ay{K:Nat}{h h':H}{lo n n' p w:Nat}{sv:Value}{t:Nat}{e:Bool}{l:List Bool}(x:SW K h lo n p w sv t e l)(a:n<=n')(c:∀b,b<n->(b=p∨b=w∨az sv b)->h'.get b=h.get b):SW K h' lo n' p w sv t e l:=
 ⟨(c p x.lt (.inl rfl)).trans x.get,eD x.lt a,x.pl,x.ne,x.ns,x.wr.ay a fun b d q=>c b d (.inr q),x.tl⟩
theorem acL(a b c:Value)(K:Value->M Value):bj (.tuple #[a,b,c]) 0 K=K a:=rfl
theorem acM(a b c:Value)(K:Value->M Value):bj (.tuple #[a,b,c]) 1 K=K b:=rfl
theorem acN(a b c:Value)(K:Value->M Value):bj (.tuple #[a,b,c]) 2 K=K c:=rfl
section
variable {lf d lo n p w K tt:Nat} {sv:Value} {l:List Bool} {h:H} {e:Bool}
theorem acO(x:SW K h lo n p w sv tt e l){m a b:Nat}(X:∀K:Value->M Value,kX (.int .u64 (m:Int)) (i6 24) K=K (.int .u64 (a:Int)))(W:IntKind.u64.wrap ((dR IntKind.u64.bits (m:Int)&&&dR IntKind.u64.bits 16777215).toNat:Int)=(b:Int))(T:a<16777216)(u:b<16777216)(Q:bh a 24++bh b 24=bh m 48)(hl:l.length<=100000000)(P:100<=lf):
 ae (fun c=>c=w∨az sv c) n (eW lf (d+3) 59 #[jP p 0,.int .u64 (m:Int)]) h n fun J h' n'=>J= .tuple #[]∧∃f,cK K h' lo n' w f (l++bh m 48)∧∀c,c<n->az f c->az sv c:=by
 have z:=x.get;have j:=x.lt;unfold mn at z;rw[aF (fun _=>SQ) rfl];refine ae.aE ?_;unfold JS;have I:IntKind.u32.wrap (a:Int)=(a:Int):=iH jO;have G:IntKind.u32.wrap (b:Int)=(b:Int):=iH jO;refine jA (aI @z (aI @X @I)) ?_;have C:=lx (lf:=lf) (d:=d) x.wr (v:=a) (k:=24) jD (by show a<16777216;exact T) jO jO;rw[show((24:Nat):Int)=24 from rfl]at C;refine aN aL C (ai _) (fun b u s=> .inr s) fun v1 h1 N t A r=> ?_;obtain⟨rfl,L,F,E⟩:=r;have y:=(A p j fun q=>q.elim x.ne x.ns).trans z;have D:p<N:=jO;refine jA (aI @y (aI @W @G)) ?_;have g:=lx (lf:=lf) (d:=d) F (v:=b) (k:=24) jD (by show b<16777216;exact u) (by rw[aG,cA];omega) jO;rw[show((24:Nat):Int)=24 from rfl]at g;refine aN aL g t (fun b u s=>uq E jO s) fun Z h2 n2 O U o=> ?_;obtain⟨rfl,i,B,Y⟩:=o;refine jB ?_;refine⟨i, ?_,fun c R q=>E c R (Y c jO q)⟩;rw[bW,Q]at B;exact B
theorem ao8(x:SW K h lo n p w sv tt e l)(j:l.length<=100000000)(g:100<=lf):
 ae (fun c=>c=w∨az sv c) n (eW lf (d+3) 59 #[jP p 0,i6 54156738319193]) h n fun i h' n'=>i= .tuple #[]∧∃f,cK K h' lo n' w f (l++bh og 48)∧∀c,c<n->az f c->az sv c:=
 acO (m:=og) (a:=3227993) (b:=2511705) x (fun K=>by kernel_rfl) (by kernel_rfl) jD jD (by decide+kernel) j g
theorem ao9(x:SW K h lo n p w sv tt e l)(j:l.length<=100000000)(g:100<=lf):
 ae (fun c=>c=w∨az sv c) n (eW lf (d+3) 59 #[jP p 0,i6 25779555029136]) h n fun i h' n'=>i= .tuple #[]∧∃f,cK K h' lo n' w f (l++bh BC 48)∧∀c,c<n->az f c->az sv c:=
 acO (m:=BC) (a:=1536581) (b:=3690640) x (fun K=>by kernel_rfl) (by kernel_rfl) jD jD (by decide+kernel) j g
def lE(p w:Nat)(sv:Value)(c:Nat):Prop:=c=p∨c=w∨az sv c
theorem acP(J:3000000<=lf)(g:Gd h n)(x:SW K h lo n p w sv tt false l)(L:1<lo){t:List Nat}(k:By t)(h0:t≠[])(hl:t.length<=900){o s:Nat}(Y:o<t.length)(F:s<4294967296)(u0:l.length<=4800000)(hd:600<=d):
 ae (lE p w sv) n (eW lf (d+13) 24 #[jP p 0,bp t,jI (o:Int),.int .u32 (s:Int)]) h n fun W h' n'=>W=jI 0∧∃v,SW K h' lo n' p w v (fa tt s) false (l++(bh og 48++lz t o s))∧∀c,c<n->az v c->az sv c:=by
 have N:=x.get;have y:=x.lt;have X:=x.pl;have U:=x.wr.2.ge;have r:∀b,az sv b->lo<=b∧b<n:=fun b k=>x.wr.own.lt k;unfold mn at N;rw[aF (fun _=>D0) rfl];refine ae.aE ?_;unfold Au;have c1:¬(900000:Int)<((t.length:Nat):Int):=jO;have c2:¬(o:Int)<0:=jO;have c3:¬((t.length:Nat):Int)<=(o:Int):=jO;refine jA (aI @N (aI @gT (aI @c1 (aI @c2 @c3)))) ?_;refine aN aL (ao8 (lf:=lf) (d:=d+9) x jO jO) (ai _) (fun b k z=> .inr (.inr z)) fun v1 m E i C I=> ?_;obtain⟨rfl,u,T,i1⟩:=I;have A:=(C p y fun q=>q.elim x.ne x.ns).trans N;have a:p<E:=jO;have wp:n<=p∨lE p w sv p:= .inr (.inl rfl);refine jA @A ?_;refine bz (akY (lf:=lf) (d:=d+11) tt s x.tl F) i (fun _ _ h=>h.elim) ?_;refine jA (aI @A (aI @a (aI @wp @true_and))) ?_;have j:(m.set p (some ⟨93,true,[jP w 0,.int .u32 (fa tt s:Int),.bool false]⟩)).get p=some (mn w (fa tt s) false):=get_eq _ _ _;have f:¬az u p:=fun q=>x.ns (i1 p y q)
 have Q:cK K (m.set p (some ⟨93,true,[jP w 0,.int .u32 (fa tt s:Int),.bool false]⟩)) lo E w u (l++bh og 48):=T.ay (ai _) fun b k z=>aB _ _ (by
  rintro rfl
  exact z.elim x.ne f)
 have R:(m.set p (some ⟨93,true,[jP w 0,.int .u32 (fa tt s:Int),.bool false]⟩)).get 1=h.get 1:=by
  rw[aB _ _ (show 1≠p by omega)];refine C _ g.2 fun q=> ?_;rcases q with q|q
  ·omega
  ·have:=(r _ q).1;omega
 have B:Gd (m.set p (some ⟨93,true,[jP w 0,.int .u32 (fa tt s:Int),.bool false]⟩)) E:=⟨R.trans g.1,eD g.2 i⟩;show ae _ _ _ (m.set p (some ⟨93,true,[jP w 0,.int .u32 (fa tt s:Int),.bool false]⟩)) _ _;generalize m.set p (some ⟨93,true,[jP w 0,.int .u32 (fa tt s:Int),.bool false]⟩)=h2 at j Q R B⊢;have e:=j;unfold mn at e;refine jA @e ?_;refine aN aL (ao5 (lf:=lf) (d:=d) J B Q L k h0 hl Y F (by rw[aG,cA];omega) hd) i (fun b k z=>(uq i1 jO z).imp id fun q=> .inr q) fun v3 h3 n3 Z O G=> ?_;obtain⟨rfl,D,P,i3⟩:=G;refine jB ?_;refine⟨D,⟨(O p a fun q=>q.elim x.ne f).trans j,jO,x.pl,x.ne,fun q=>f (i3 p a q), ?_,Nl x.tl F⟩,fun c hc q=>i1 c hc (i3 c jO q)⟩;rw[bW]at P;exact P
theorem ao'(i:3000000<=lf)(g:Gd h n)(x:SW K h lo n p w sv tt false l)(v:1<lo){t:List Nat}(e:By t)(y:t≠[])(J:t.length<=900){s:Nat}(F:s<4294967296)(u:l.length<=4800000)(hd:600<=d):
 ae (lE p w sv) n (eW lf (d+14) 19 #[jP p 0,bp t,.int .u32 (s:Int)]) h n fun C h' n'=>C=jI 0∧∃f,SW K h' lo n' p w f (fa tt s) false (l++(bh og 48++lz (fw t (cX t)) (cV 0 (cX t)) s))∧∀c,c<n->az f c->az sv c:=by
 have z:=x.get;have D:=x.lt;have R:1<=t.length:=List.length_pos_iff.2 y;have m:=xm t;unfold mn at z;rw[aF (fun _=>DX) rfl];refine ae.aE ?_;unfold As;refine jA @z ?_;refine aN aL (aoN (lf:=lf) (d:=d+6) e y J i) (ai _) (fun _ _ h=>h.elim) fun O W Q a j r=> ?_;subst r;have A:((0:Int) !=0)=false:=rfl;refine jA (aI @acL (aI @acM (aI @acN @A))) ?_;refine aN aL (acP (lf:=lf) (d:=d) i (g.ay a fun b e=>j b e id) (x.ay a fun b e _=>j b e id) v (N5 e) (fun q=>by rw[q]at m;simp at m;omega) jO (by rw[m];exact(GX y).1) F u hd) a (fun b e G=> .inr G) fun N U P I L o=> ?_;obtain⟨rfl,k,B,E⟩:=o;refine jB ?_;exact⟨k,B,fun c T q=>E c jO q⟩
theorem acQ(x:SW K h lo n p w sv tt e l):ae (fun c=>c=w) n (eW lf (d+2) 20 #[jP p 0]) h n fun v h' n'=>v=bp ((cO l).drop K)∧n'=n∧SW (cO l).length h' lo n p w (.slice none 0 0) tt e l:=by have i:=x.get;have a:=x.lt;unfold mn at i;rw[aF (fun _=>Su) rfl];refine ae.aE ?_;unfold JL;refine jA @i ?_;refine aN aL (aml (lf:=lf) (d:=d) x.wr) (ai _) (fun b _ m=> .inr m) fun o s r k g f=> ?_;obtain⟨rfl,rfl,j⟩:=f;refine jB ?_;exact⟨rfl,(g p a x.ne).trans x.get,a,x.pl,x.ne,fun q=>q.not_nil.elim,j,x.tl⟩
theorem ao_(x:cK K h lo n w sv l):ae (fun _=>False) n (eW lf (d+1) 66 #[jP w 0]) h n fun g h' n'=>g=jI (((cO l).length-K:Nat):Int)∧h'=h∧n'=n:=by
 have f:=x.2.get;have lt:=x.lt;unfold xg at f;rw[aF (fun _=>agN) rfl];refine ae.aE ?_;unfold S5
 have i:∀e:Value->M Value,aT sv e=e (jI (((cO l).length-K:Nat):Int)):=fun e=>by
  have a:(cF ((cO l).drop K)).length=(cO l).length-K:=by rw[iV,fp]
  rcases x.own with ⟨c,j⟩|⟨b,c,_⟩
  ·rw[j]at a;have a:0=(cO l).length-K:=a;rw[c,<-a];rfl
  ·rw[c,a];rfl
 exact jC (aI @f @i);all_goals (first|trivial|rfl|exact⟨rfl,rfl,rfl⟩|exact⟨rfl,rfl⟩)
theorem apa(x:SW K h lo n p w sv tt e l):ae (fun _=>False) n (eW lf (d+2) 27 #[jP p 0]) h n fun b h' n'=>b=jI (((cO l).length-K:Nat):Int)∧h'=h∧n'=n:=by have a:=x.get;have c:=x.lt;unfold mn at a;rw[aF (fun _=>agx) rfl];refine ae.aE ?_;unfold SC;refine jA @a ?_;refine bz (ao_ (lf:=lf) (d:=d) x.wr) (ai _) (fun _ _ h=>h.elim) ?_;exact jE;all_goals (first|trivial|rfl|exact⟨rfl,rfl,rfl⟩|exact⟨rfl,rfl⟩)
theorem apb(u3:3000000<=lf)(x:SW K h lo n p w sv tt false l)(u2:l.length<=80000000):
 ae (lE p w sv) n (eW lf (d+4) 21 #[jP p 0]) h n fun Y h' n'=>Y=jI 0∧∃o,SW K h' lo n' p w o tt true (nj (l++xl tt))∧∀c,c<n->az o c->az sv c:=by
 have O:=x.get;have t:=x.lt;unfold mn at O;rw[aF (fun _=>JM) rfl];refine ae.aE ?_;unfold DY;refine jA @O ?_;refine aN aL (ao9 (lf:=lf) (d:=d) x jO jO) (ai _) (fun b L g=> .inr (.inr g)) fun v1 h1 D I R G=> ?_;obtain⟨rfl,m,X,i1⟩:=G;have C:=(R p t fun q=>q.elim x.ne x.ns).trans O;have f:p<D:=jO;have z:¬az m p:=fun q=>x.ns (i1 p t q);refine jA @C ?_;have s:=lx (lf:=lf) (d:=d+1) X (v:=tt) (k:=32) jD x.tl (by rw[aG,cA];omega) jO;rw[show((32:Nat):Int)=32 from rfl]at s;have r:ae (fun c=>c=w∨az m c) D (eW lf (d+3) 56 #[jP w 0,.int .u32 (tt:Int),ii 32]) h1 D _:=s;refine aN aL r I ?_ ?_
 ·exact fun b L g=>(uq i1 jO g).imp id fun q=> .inr q
 intro v2 h2 n2 u1 Q F;obtain⟨rfl,j,W,U⟩:=F;have B:=(Q p f fun q=>q.elim x.ne z).trans C;have e:p<n2:=jO;have y:¬az j p:=fun q=>z (U p f q);have A:∀c,c<n->az j c->az sv c:=fun c J q=>i1 c J (U c jO q);refine jA @B ?_;refine aN aL (amj (lf:=lf) (d:=d+1) W (by rw[aG,aG,cA,cA];omega) jO) jO (fun b L g=>(uq A jO g).imp id fun q=> .inr q) fun v3 h3 Z u0 P E=> ?_;obtain⟨rfl,i,T,i3⟩:=E;have N:=(P p e fun q=>q.elim x.ne y).trans B;have a:p<Z:=jO;have u:¬az i p:=fun q=>y (i3 p e q);have wp:n<=p∨lE p w sv p:= .inr (.inl rfl);refine jA (aI @N (aI @a (aI @wp @true_and))) ?_;refine⟨i,⟨get_eq _ _ _,a,x.pl,x.ne,u, ?_,x.tl⟩,fun c J q=>A c J (i3 c jO q)⟩;rw[bW]at T
 exact T.ay (ai _) fun b L g=>aB _ _ (by
  rintro rfl
  exact g.elim x.ne u)
end
theorem apc{xs:List Int}{z:Int}(e:nk xs z)(n:xs.length<=1000):(pf xs z).length<=66300+20*xs.length:=by
 have a:=uj e jO;have i:=a.r6;have m:=e.2.1;have k:(bG xs).length=xs.length:=by unfold bG;rw[List.length_map]
 have j:(kP (rowsOf xs z).length (cM xs z)).length<=300:=by rw[yW];have:=yV (l:=fb eM (cM xs z)) (ui _ _ rK fun p g=>by have:=a.pm p g;omega);rw[rI,a.pl]at this;unfold dq at this;omega
 have o:=o0 (rows:=rowsOf xs z) fun r b=>by unfold rowsOf at b;obtain⟨q,c,rfl⟩:=List.mem_map.1 b;have d:=a.me q c;exact xi d.hi (by rw[d.len];omega) (by rw[d.len];omega)
 have h:=GQ (rows:=rowsOf xs z) (ps:=cM xs z) (fun r b y f=>by
  unfold rowsOf at b;obtain⟨q,c,rfl⟩:=List.mem_map.1 b
  exact(a.me q c).hi y f) (bG xs) 0
 unfold pf;rw[aG,aG];omega
theorem Hi{t:List Nat}(d:By t)(e:t≠[])(h:t.length<=900)(o s:Nat):(lz t o s).length<=66660+20*t.length:=by
 have a:=Ns d e;have c:=BT (dI t).length (dH (dI t) t) 0;rw[rF]at c;have b:(iN (jc t)).length<=t.length+1:=by rw[bB];unfold jc;omega
 have i:=apc a jO;have g:=MK (dI t);have f:((aY 16).filter (fM (dI t))).length<=16:=rY (OM _ _) (by rw[j7];exact ai _);unfold lz;simp only[aG,cA,nC];omega
theorem apd(l:Nat):qy 3++bh (48+l) 8=rO l:=by unfold qy rO;simp[bW]
section
variable {lf d n:Nat} {h:H}
theorem ape(b:100<=lf){l:Nat}(g:1<=l)(h2:l<=9):ae (fun _=>False) n (eW lf (d+3) 18 #[jI (l:Int)]) h n fun v h' n'=>∃p w sv,v= .tuple #[jP p 0,jI 0]∧SW 0 h' n n' p w sv 0 false (rO l):=by refine(ao7 (lf:=lf) (d:=d) b g h2).mono ?_;rintro j h' n' _ ⟨p,w,sv,rfl,q1,q2,f,e,c,a⟩;rw[apd]at a;obtain⟨k,i⟩:=a.apart c (by show(93:Nat)≠133;decide) (by show(93:Nat)≠5;decide);exact⟨p,w,sv,rfl,c,f,q1,e,i,a,jD⟩
end
section
variable {lf d n:Nat} {h:H}
end
theorem Gd.after{K lo p w tt m m':Nat}{e:Bool}{sv:Value}{l:List Bool}{h h':H}(g:Gd h m)(x:SW K h lo m p w sv tt e l)(c:1<lo)(d:∀b,b<m->¬lE p w sv b->h'.get b=h.get b)(a:m<=m'):Gd h' m':=
 ⟨(d _ g.2 fun q=>by
   rcases q with q|q|q
   ·have:=x.pl;omega
   ·have:=x.wr.2.ge;omega
   ·have:=(x.wr.own.lt q).1;omega).trans g.1,eD g.2 a⟩
section
variable {lf d n:Nat} {h:H}
theorem acR(l:Int):ae (fun _=>False) n (eW lf (d+1) 12 #[jI l]) h n fun c h' n'=>c= .bool (decide (1<=l∧l<=9))∧h'=h∧n'=n:=by
 rw[aF (fun _=>agl) rfl];refine ae.aE ?_;unfold Sj;by_cases a:1<=l
 ·by_cases b:l<=9
  ·rw[decide_eq_true (show 1<=l∧l<=9 from⟨a,b⟩)];exact jC (aI @a @b);all_goals (first|trivial|rfl|exact⟨rfl,rfl,rfl⟩|exact⟨rfl,rfl⟩)
  ·rw[decide_eq_false (show¬(1<=l∧l<=9)from fun q=>b q.2)];exact jC (aI @a @b);all_goals (first|trivial|rfl|exact⟨rfl,rfl,rfl⟩|exact⟨rfl,rfl⟩)
 ·rw[decide_eq_false (show¬(1<=l∧l<=9)from fun q=>a q.1)];exact jC @a;all_goals (first|trivial|rfl|exact⟨rfl,rfl,rfl⟩|exact⟨rfl,rfl⟩)
end
theorem apf(l:List UInt8):aZ ⟨l.toArray⟩=bp (bN l):=by show _=aZ ⟨(bS (bN l)).toArray⟩;rw[aoK]
theorem apg(l:List UInt8):By (bN l):=fun x a=>by obtain⟨b,_,rfl⟩:=List.mem_map.1 a;exact b.toNat_lt
section
variable {lf d n:Nat} {h:H}
end
theorem ceI:kL aa 8 3=some [3]:=jK
theorem agI:p8 aa 3=false:=jK
set_option maxRecDepth 4000 in
theorem aph{h:H}{n:Nat}{v:Value}(x:oV aa h n 3 v):∃z:Int,v=jI z:=by obtain⟨z,rfl,_⟩:=F9 (f:=7) Cz (ajC ceI agI x);exact⟨z,rfl⟩
section
variable {lf d n:Nat} {h:H}
theorem api(a:List Nat)(K:Value->M Value):ej (bp a) (bp a) K=K (.bool true):=by have:=Aa (k:=K) (bS a) (bS a);rw[decide_eq_true rfl]at this;exact this
end
theorem acS:∀(f:List Bool) (s:List Nat×List Bool),∃t,(dv s f).1=s.1++t
 |[],s=>⟨[],(cz _).symm⟩
 |b::f,(ws,r)=>by
  obtain⟨t,e⟩:=acS f (dG (ws,r) b);show∃t,(dv (dG (ws,r) b) f).1=ws++t;by_cases c:r.length=7
  ·have a:dG (ws,r) b=(ws++[num (r++[b]) 0],[]):=by unfold dG;rw[if_pos c]
   rw[a]at e⊢;exact⟨[num (r++[b]) 0]++t,by rw[e,bW]⟩
  ·have a:dG (ws,r) b=(ws,r++[b]):=by unfold dG;rw[if_neg c]
   rw[a]at e⊢;exact⟨t,e⟩
theorem apj(a b:List Bool):∃t,cO (a++b)=cO a++t:=by unfold cO;rw[Bs];exact acS b _
theorem acT{a:List Bool}{K:Nat}(h:K<=(cO a).length)(b:List Bool):(cO (a++b)).take K=(cO a).take K:=by obtain⟨t,e⟩:=apj a b;rw[e,List.take_append_of_le_length h]
section
variable {lf d n:Nat} {h:H}
end
structure Ac where
 k:Int
 o:Int
 t:List Nat
 s:Nat
def lF(a:Ac):List Value:=[jI a.k,jI a.o,bp a.t,.int .u32 (a.s:Int)]
structure Ac.Ok (a:Ac):Prop where
 t:By a.t
 s:a.s<4294967296
structure Sa where
 l:List Bool
 e:Bool
 u:List Nat
def Ac.err(a:Ac)(x:Sa):Nat:=if x.e=true then 7 else if a.k=0 then(if a.t=[]then 1 else 0)else if a.k=1 then(if 0<=a.o∧a.o<(a.t.length:Int)then 0 else 1)else 0
noncomputable def Ac.more (a:Ac) (x:Sa):List Bool:=if a.k=0 then bh og 48++lz (fw a.t (cX a.t)) (cV 0 (cX a.t)) a.s else if a.k=1 then bh og 48++lz a.t a.o.toNat a.s else xl (x.u.foldl fa 0)
noncomputable def Ac.next (a:Ac) (x:Sa):Sa:=if a.err x≠0 then x else if a.k=0∨a.k=1 then⟨x.l++a.more x,x.e,x.u++[a.s]⟩else⟨nj (x.l++a.more x),true,x.u⟩
def Sa.tt(x:Sa):Nat:=x.u.foldl fa 0
theorem apk{l:List Bool}(h:l.length %8=0):nj l=l:=by unfold nj oh;rw[show(8-l.length %8)%8=0 by omega];exact cz l
theorem acU(t:Nat):(xl t).length=80:=by unfold xl;rw[aG,cA,cA]
theorem SW.apart{K lo n p w tt:Nat}{h:H}{sv:Value}{l:List Bool}{e:Bool}(x:SW K h lo n p w sv tt e l){b:Nat}{B:AB}(a:h.get b=some B)(d:B.elem≠133)(h2:B.elem≠5)(c:B.elem≠93):¬lE p w sv b:=by
 obtain⟨g,f⟩:=x.wr.apart a d h2;rintro(q|q|q)
 ·subst q;rw[x.get]at a;cases a;exact c rfl
 ·exact g q
 ·exact f q
section
variable {lf d lo n p w K tt:Nat} {sv:Value} {l:List Bool} {h:H} {e:Bool}
theorem apl(x:SW K h lo n p w sv tt true l)(c b:Value):ae (fun _=>False) n (eW lf (d+1) 19 #[jP p 0,c,b]) h n fun e h' n'=>e=jI 7∧h'=h∧n'=n:=by
 have a:=x.get;have f:=x.lt;unfold mn at a;rw[aF (fun _=>DX) rfl];refine ae.aE ?_;unfold As;try simp(disch:=first|omega|assumption) only[Nat.reduceAdd,Nat.reduceLT,RZ,a]
 all_goals (first|trivial|rfl|exact⟨rfl,rfl,rfl⟩|exact⟨rfl,rfl⟩)
theorem apm(x:SW K h lo n p w sv tt true l)(e c b:Value):ae (fun _=>False) n (eW lf (d+1) 24 #[jP p 0,e,c,b]) h n fun f h' n'=>f=jI 7∧h'=h∧n'=n:=by
 have a:=x.get;have g:=x.lt;unfold mn at a;rw[aF (fun _=>D0) rfl];refine ae.aE ?_;unfold Au;try simp(disch:=first|omega|assumption) only[Nat.reduceAdd,Nat.reduceLT,RZ,a]
 all_goals (first|trivial|rfl|exact⟨rfl,rfl,rfl⟩|exact⟨rfl,rfl⟩)
theorem apn(x:SW K h lo n p w sv tt true l):ae (fun _=>False) n (eW lf (d+1) 21 #[jP p 0]) h n fun b h' n'=>b=jI 7∧h'=h∧n'=n:=by
 have a:=x.get;have c:=x.lt;unfold mn at a;rw[aF (fun _=>JM) rfl];refine ae.aE ?_;unfold DY;try simp(disch:=first|omega|assumption) only[Nat.reduceAdd,Nat.reduceLT,RZ,a]
 all_goals (first|trivial|rfl|exact⟨rfl,rfl,rfl⟩|exact⟨rfl,rfl⟩)
theorem apo(x:SW K h lo n p w sv tt false l)(e:Value):ae (fun _=>False) n (eW lf (d+3) 19 #[jP p 0,bp [],e]) h n fun a h' n'=>a=jI 1∧h'=h∧n'=n:=by
 have c:=x.get;have f:=x.lt;have i:∀K:Value->M Value,ej (bp []) (aZ {data:=#[]}) K=K (.bool true):=fun K=>rfl;have b:((1:Int) !=0)=true:=rfl;unfold mn at c
 have g:ae (fun _=>False) n (eW lf (d+1) 91 #[bp []]) h n fun a h' n'=>a= .tuple #[.pointer none,jI 1]∧h'=h∧n'=n:=by
  rw[aF (fun _=>J1) rfl];refine ae.aE ?_;unfold Ea;try simp(disch:=first|omega|assumption) only[Nat.reduceAdd,Nat.reduceLT,RZ,i]
  all_goals (first|trivial|rfl|exact⟨rfl,rfl,rfl⟩|exact⟨rfl,rfl⟩)
 have of:ae (fun _=>False) n (eW lf (d+2) 57 #[bp []]) h n fun a h' n'=>a= .tuple #[bp [],jI 0,jI 1]∧h'=h∧n'=n:=by
  rw[aF (fun _=>JQ) rfl];refine ae.aE ?_;unfold Av;refine bz g (ai _) (fun _ _ h=>h.elim) ?_;try simp(disch:=first|omega|assumption) only[Nat.reduceAdd,Nat.reduceLT,RZ,dF,ext1,b]
  all_goals (first|trivial|rfl|exact⟨rfl,rfl,rfl⟩|exact⟨rfl,rfl⟩)
 rw[aF (fun _=>DX) rfl];refine ae.aE ?_;unfold As;try simp(disch:=first|omega|assumption) only[Nat.reduceAdd,Nat.reduceLT,RZ,c]
 refine bz of (ai _) (fun _ _ h=>h.elim) ?_;try simp(disch:=first|omega|assumption) only[Nat.reduceAdd,Nat.reduceLT,RZ,acL,acM,acN,b]
 all_goals (first|trivial|rfl|exact⟨rfl,rfl,rfl⟩|exact⟨rfl,rfl⟩)
theorem apq(x:SW K h lo n p w sv tt false l){t:List Nat}(j:t.length<=900000){o:Int}(k:¬(0<=o∧o<(t.length:Int)))(e:Value):ae (fun _=>False) n (eW lf (d+1) 24 #[jP p 0,bp t,jI o,e]) h n fun f h' n'=>f=jI 1∧h'=h∧n'=n:=by
 have a:=x.get;have g:=x.lt;unfold mn at a;rw[aF (fun _=>D0) rfl];refine ae.aE ?_;unfold Au;have c:¬(900000:Int)<((t.length:Nat):Int):=jO;by_cases b:o<0
 ·try simp(disch:=first|omega|assumption) only[Nat.reduceAdd,Nat.reduceLT,RZ,a,gT,c,b]
  all_goals (first|trivial|rfl|exact⟨rfl,rfl,rfl⟩|exact⟨rfl,rfl⟩)
 ·have i:((t.length:Nat):Int)<=o:=jO;try simp(disch:=first|omega|assumption) only[Nat.reduceAdd,Nat.reduceLT,RZ,a,gT,c,b,i]
  all_goals (first|trivial|rfl|exact⟨rfl,rfl,rfl⟩|exact⟨rfl,rfl⟩)
def Hj(K:Nat)(lo n p w:Nat)(sv:Value)(h:H)(a:Ac)(x:Sa)(d:Value)(h':H)(n':Nat):Prop:=d=jI (a.err x:Int)∧∃b,SW K h' lo n' p w b (a.next x).tt (a.next x).e (a.next x).l∧∀c,c<n->az b c->az sv c
theorem zo{a:Ac}{x:Sa}(h:a.err x≠0):a.next x=x:=by unfold Ac.next;rw[if_pos h]
theorem acW(u:List Nat)(s:Nat):(u++[s]).foldl fa 0=fa (u.foldl fa 0) s:=by rw[List.foldl_append];rfl
theorem ae.wide{c:Type}{W d:Nat->Prop}{n0:Nat}{m:M c}{h:H}{n:Nat}{Q:c->H->Nat->Prop}(x:ae d n0 m h n Q)(j:∀b,d b->W b):ae W n0 m h n Q:=by obtain⟨a,k,f,L,q,p,o,l⟩:=x;exact⟨a,k,f,L,q,p,fun e i g=>(o e i g).imp id (j _),l⟩
theorem nf(l:List Bool)(u:List Nat):¬(Sa.e ⟨l,false,u⟩=true):=fun q=>by cases q
theorem apr(k:3000000<=lf)(g:Gd h n){x:Sa}{a:Ac}(y:SW K h lo n p w sv x.tt x.e x.l)(m:1<lo)(s:a.Ok)(i:a.k=0)(B:a.t.length<=30)(f:x.l.length<=4000000)(hd:600<=d):
 ae (lE p w sv) n (eW lf (d+14) 19 #[jP p 0,bp a.t,.int .u32 (a.s:Int)]) h n (Hj K lo n p w sv h a x):=by
 obtain⟨l,e,u⟩:=x;cases e with
 |true=>
  have b:a.err ⟨l,true,u⟩=7:=by unfold Ac.err;exact if_pos rfl
  have y:SW K h lo n p w sv (Sa.tt ⟨l,true,u⟩) true l:=y;refine ae.wide ((apl (lf:=lf) (d:=d+13) y (bp a.t) (.int .u32 (a.s:Int))).mono ?_) fun _ h=>h.elim;rintro o t r _ ⟨rfl,rfl,rfl⟩;exact⟨by rw[b];rfl,sv,by rw[zo (by rw[b];decide)];exact y,fun _ _ q=>q⟩
 |false=>
  have y:SW K h lo n p w sv (Sa.tt ⟨l,false,u⟩) false l:=y;by_cases c:a.t=[]
  ·have b:a.err ⟨l,false,u⟩=1:=by unfold Ac.err;rw[if_neg (nf l u),if_pos i,if_pos c]
   rw[c];refine ae.wide ((apo (lf:=lf) (d:=d+11) y (.int .u32 (a.s:Int))).mono ?_) fun _ h=>h.elim;rintro o t r _ ⟨rfl,rfl,rfl⟩;exact⟨by rw[b];rfl,sv,by rw[zo (by rw[b];decide)];exact y,fun _ _ q=>q⟩
  ·have b:a.err ⟨l,false,u⟩=0:=by unfold Ac.err;rw[if_neg (nf l u),if_pos i,if_neg c]
   have z:a.next ⟨l,false,u⟩=⟨l++(bh og 48++lz (fw a.t (cX a.t)) (cV 0 (cX a.t)) a.s),false,u++[a.s]⟩:=by unfold Ac.next Ac.more;rw[if_neg (by rw[b];decide),if_pos (.inl i),if_pos i]
   refine(ao' (lf:=lf) (d:=d) k g y m s.t c jO s.s (by show l.length<=_;have f:l.length<=_:=f;omega) hd).mono ?_;rintro o t r _ ⟨rfl,j,v,A⟩;refine⟨by rw[b];rfl,j, ?_,A⟩;rw[z];unfold Sa.tt;rw[acW];exact v
theorem aps(r:3000000<=lf)(g:Gd h n){x:Sa}{a:Ac}(y:SW K h lo n p w sv x.tt x.e x.l)(s:1<lo)(z:a.Ok)(i:a.k=1)(E:a.t.length<=30)(f:x.l.length<=4000000)(hd:600<=d):
 ae (lE p w sv) n (eW lf (d+13) 24 #[jP p 0,bp a.t,jI a.o,.int .u32 (a.s:Int)]) h n (Hj K lo n p w sv h a x):=by
 obtain⟨l,e,u⟩:=x;have m:¬a.k=0:=jO;cases e with
 |true=>
  have b:a.err ⟨l,true,u⟩=7:=by unfold Ac.err;exact if_pos rfl
  have y:SW K h lo n p w sv (Sa.tt ⟨l,true,u⟩) true l:=y;refine ae.wide ((apm (lf:=lf) (d:=d+12) y (bp a.t) (jI a.o) (.int .u32 (a.s:Int))).mono ?_) fun _ h=>h.elim;rintro t A v _ ⟨rfl,rfl,rfl⟩;exact⟨by rw[b];rfl,sv,by rw[zo (by rw[b];decide)];exact y,fun _ _ q=>q⟩
 |false=>
  have y:SW K h lo n p w sv (Sa.tt ⟨l,false,u⟩) false l:=y;by_cases c:0<=a.o∧a.o<(a.t.length:Int)
  ·have b:a.err ⟨l,false,u⟩=0:=by unfold Ac.err;rw[if_neg (nf l u),if_neg m,if_pos i,if_pos c]
   have k:a.next ⟨l,false,u⟩=⟨l++(bh og 48++lz a.t a.o.toNat a.s),false,u++[a.s]⟩:=by unfold Ac.next Ac.more;rw[if_neg (by rw[b];decide),if_pos (.inr i),if_neg m,if_pos i]
   obtain⟨o,D⟩:∃o:Nat,a.o=(o:Int):=⟨a.o.toNat,jO⟩;rw[D]at c k⊢;rw[eg]at k;refine(acP (lf:=lf) (d:=d) r g y s z.t (fun q=>by rw[q]at c;simp at c;omega) jO (o:=o) jO z.s (by show l.length<=_;have f:l.length<=_:=f;omega) hd).mono ?_;rintro t A v _ ⟨rfl,j,B,C⟩;refine⟨by rw[b];rfl,j, ?_,C⟩;rw[k];unfold Sa.tt;rw[acW];exact B
  ·have b:a.err ⟨l,false,u⟩=1:=by unfold Ac.err;rw[if_neg (nf l u),if_neg m,if_pos i,if_neg c]
   refine ae.wide ((apq (lf:=lf) (d:=d+12) y jO c (.int .u32 (a.s:Int))).mono ?_) fun _ h=>h.elim;rintro t A v _ ⟨rfl,rfl,rfl⟩;exact⟨by rw[b];rfl,sv,by rw[zo (by rw[b];decide)];exact y,fun _ _ q=>q⟩
theorem apt(g:3000000<=lf){x:Sa}{a:Ac}(y:SW K h lo n p w sv x.tt x.e x.l)(j:a.k≠0)(i:a.k≠1)(b:x.l.length<=4000000):
 ae (lE p w sv) n (eW lf (d+4) 21 #[jP p 0]) h n (Hj K lo n p w sv h a x):=by
 obtain⟨l,e,u⟩:=x;cases e with
 |true=>
  have c:a.err ⟨l,true,u⟩=7:=by unfold Ac.err;exact if_pos rfl
  have y:SW K h lo n p w sv (Sa.tt ⟨l,true,u⟩) true l:=y;refine ae.wide ((apn (lf:=lf) (d:=d+3) y).mono ?_) fun _ h=>h.elim;rintro m t r _ ⟨rfl,rfl,rfl⟩;exact⟨by rw[c];rfl,sv,by rw[zo (by rw[c];decide)];exact y,fun _ _ q=>q⟩
 |false=>
  have y:SW K h lo n p w sv (Sa.tt ⟨l,false,u⟩) false l:=y;have c:a.err ⟨l,false,u⟩=0:=by unfold Ac.err;rw[if_neg (nf l u),if_neg j,if_neg i]
  have o:a.next ⟨l,false,u⟩=⟨nj (l++xl (Sa.tt ⟨l,false,u⟩)),true,u⟩:=by unfold Ac.next Ac.more;rw[if_neg (by rw[c];decide),if_neg jO,if_neg j,if_neg i];rfl
  refine(apb (lf:=lf) (d:=d) g y (by have b:l.length<=_:=b;omega)).mono ?_;rintro m t r _ ⟨rfl,f,k,s⟩;refine⟨by rw[c];rfl,f, ?_,s⟩;rw[o];exact k
theorem apu(s:3000000<=lf)(hd:600<=d){x:Sa}{a:Ac}(g:a.Ok)(X:a.t.length<=30){C:Value}(O:∀y∈x.u,y<4294967296)(N:x.u.length<=100)(T:Row h n 40 .u32 C (iN x.u)):ae (fun _=>False) n (eW lf (d+27) 25 #[.agg (lF a).toArray,.bool x.e,C]) h n fun I _ _=>I= .tuple #[jI (a.err x:Int),tx (if a.err x=0 then a.more x else [])]:=by
 rw[aF (fun _=>agu) rfl];refine ae.aE ?_;unfold Sz;refine kK trivial _ _ ?_;obtain⟨u,f⟩:∃u,h.set n (some ⟨51,true,(Value.agg (lF a).toArray).cells.toList⟩)=u:=⟨_,rfl⟩;have j:u.get n=some ⟨51,true,[jI a.k,jI a.o,bp a.t,.int .u32 (a.s:Int)]⟩:=by rw[<-f,get_eq];rfl
 have L:∀b,b<n->u.get b=h.get b:=fun b Z=>by rw[<-f,aB _ _ jO]
 rw[f];clear f;have W:n<n+1:=dK n;have P:=g.t;have Q:=g.s;unfold Ac.err Ac.more;cases Y:x.e with
 |true=>
  rw[if_pos rfl,if_neg jD];try simp(disch:=first|omega|assumption) only[Nat.reduceAdd,Nat.reduceLT,RZ]
  rfl
 |false=>
  rw[if_neg jD];by_cases m:a.k=0
  ·rw[if_pos m,if_pos m];have i:(a.k==0)=true:=by rw[m];rfl
   by_cases c:a.t=[]
   ·rw[if_pos c,if_neg jD];have w:∀K:Value->M Value,ej (bp a.t) (aZ {data:=#[]}) K=K (.bool true):=fun K=>by rw[c];rfl
    try simp(disch:=first|omega|assumption) only[Nat.reduceAdd,Nat.reduceLT,RZ,j,i,w]
    rfl
   ·rw[if_neg c,if_pos rfl];have w:=fun K=>acI c K;try simp(disch:=first|omega|assumption) only[Nat.reduceAdd,Nat.reduceLT,RZ,j,i,w]
    refine aN aL (anA (lf:=lf) (d:=d) g.t c jO g.s hd s) jO (fun _ _ h=>h.elim) fun B F E r t e=> ?_;subst e;rw[abB];have G:=Hi (N5 g.t) (fun q=>c (qE (by rw[<-xm a.t,q];rfl))) (by rw[xm];omega) (cV 0 (cX a.t)) a.s;rw[xm]at G;have A:=fun(K:Value->M Value)=>fL (bh og 48) (lz (fw a.t (cX a.t)) (cV 0 (cX a.t)) a.s) (by rw[cA];omega) K;try simp(disch:=first|omega|assumption) only[Nat.reduceAdd,Nat.reduceLT,RZ,A]
    rfl
  ·have i:(a.k==0)=false:=beq_eq_false_iff_ne.2 m;rw[if_neg m,if_neg m];by_cases k:a.k=1
   ·rw[if_pos k,if_pos k];have p:(a.k==1)=true:=by rw[k];rfl
    by_cases c:0<=a.o∧a.o<(a.t.length:Int)
    ·rw[if_pos c,if_pos rfl];obtain⟨o,R⟩:∃o:Nat,a.o=(o:Int):=⟨a.o.toNat,jO⟩;rw[R]at c j⊢;rw[eg];have v:¬(o:Int)<0:=jO;have z:¬((a.t.length:Nat):Int)<=(o:Int):=jO;have U:eU [aZ {data:=#[]},ii 0,i3 0] [(0,1,bp a.t),(1,1,jI (o:Int)),(2,1,Value.int .u32 (a.s:Int))]=some [bp a.t,jI (o:Int),.int .u32 (a.s:Int)]:=rfl;have D:a.t≠[]:=fun q=>by rw[q]at c;simp at c;omega
     try simp(disch:=first|omega|assumption) only[Nat.reduceAdd,Nat.reduceLT,RZ,j,i,p,v,z,gT]
     rw[U];try simp(disch:=first|omega|assumption) only[Nat.reduceAdd,Nat.reduceLT,RZ]
     refine aN aL (abK (lf:=lf) (d:=d+1) (last:=a.t) g.t D jO (frm:=o) jO g.s jO s) jO (fun _ _ h=>h.elim) fun B F E r t e=> ?_;subst e;rw[abB];have G:=Hi g.t D jO o a.s;have A:=fun(K:Value->M Value)=>fL (bh og 48) (lz a.t o a.s) (by rw[cA];omega) K;try simp(disch:=first|omega|assumption) only[Nat.reduceAdd,Nat.reduceLT,RZ,A]
     rfl
    ·rw[if_neg c,if_neg jD];by_cases v:a.o<0
     ·try simp(disch:=first|omega|assumption) only[Nat.reduceAdd,Nat.reduceLT,RZ,j,i,p,v]
      rfl
     ·have z:((a.t.length:Nat):Int)<=a.o:=jO;try simp(disch:=first|omega|assumption) only[Nat.reduceAdd,Nat.reduceLT,RZ,j,i,p,v,z,gT]
      rfl
   ·have p:(a.k==1)=false:=beq_eq_false_iff_ne.2 k;rw[if_neg k,if_neg k,if_pos rfl];try simp(disch:=first|omega|assumption) only[Nat.reduceAdd,Nat.reduceLT,RZ,j,i,p]
    refine aN aL (ang (lf:=lf) (d:=d+23) x.u O jO (T.ay (cH n) L) jO jO) jO (fun _ _ h=>h.elim) fun B F E r t e=> ?_;obtain⟨rfl,rfl,rfl⟩:=e;have J:=acU (x.u.foldl fa 0);refine bz (abe (lf:=lf) (d:=d+25) (l:=xl (x.u.foldl fa 0)) jO jO) jO (fun _ _ h=>h.elim) ?_;rw[apk (by rw[J])];try simp(disch:=first|omega|assumption) only[Nat.reduceAdd,Nat.reduceLT,RZ]
    rfl
end
def rV(h:H)(n:Nat)(v:Value)(l:List Ac):Prop:=(∃a,v= .slice a 0 0∧(∀b o,a≠some ⟨b,o,none⟩)∧l=[])∨∃b,v= .slice (some ⟨b,0,none⟩) l.length (aU+l.length)∧h.get b=some ⟨51,false,l.flatMap lF⟩∧b<n
theorem rV.ay{h h':H}{n n':Nat}{v:Value}{l:List Ac}(x:rV h n v l)(d:n<=n')(a:∀b,b<n->h'.get b=h.get b):rV h' n' v l:=by
 rcases x with q|⟨b,e,g,c⟩
 ·exact .inl q
 ·exact .inr ⟨b,e,(a b c).trans g,jO⟩
theorem rV.len{h:H}{n:Nat}{v:Value}{l:List Ac}(x:rV h n v l):∃a c,v= .slice a l.length c:=by
 rcases x with ⟨a,rfl,_,rfl⟩|⟨b,rfl,_⟩
 ·exact⟨_,_,rfl⟩
 ·exact⟨_,_,rfl⟩
theorem acX:∀l:List Ac,(l.flatMap lF).length=l.length*4
 |[]=>rfl
 |p::l=>by rw[pG,aG,acX l,ct];show 4+_=_;omega
theorem acY:∀(l:List Ac) (i:Nat) (p:Ac),l[i]? =some p->((l.flatMap lF).drop (i*4)).take 4=lF p
 |[],_,_,h=>by cases h
 |q::l,0,p,h=>by cases h;rfl
 |q::l,i+1,p,h=>by have:=acY l i p h;rw[show(i+1)*4=i*4+1+1+1+1 by omega];exact this
section
variable {β:Type} {W:Nat->Prop} {n0:Nat} {h:H} {n:Nat} {Q:β->H->Nat->Prop} {v:Value} {l:List Ac}
theorem apv (x:rV h n v l) {i:Nat} {p:Ac} (d:l[i]? =some p) (f:n0<=n) (k:Value->M β)
 (y:∀h',h'.get n=some ⟨51,true,lF p⟩->(∀c,c<n->h'.get c=h.get c)->ae W n0 (k (jP n 0)) h' (n+1) Q):
 ae W n0 (ki 4 v (jI (i:Int)) fun j=>bR 4 j fun q=>cU 51 z51 fun m=>b9 4 m q fun _=>k m) h n Q:=by
 have z:i<l.length:=(List.getElem?_eq_some_iff.1 d).1;rcases x with ⟨a,rfl,_,rfl⟩|⟨b,rfl,o,r⟩
 ·cases d
 ·rw[DJ _ 4 b 0 l.length (aU+l.length) .i64 (i:Int) jO jO];have u:0+(i:Int).toNat*4=i*4:=by rw[eg];omega
  rw[u];have w:=acX l;refine yC trivial trivial b (i*4) _ o r (show i*4+4<=(l.flatMap lF).length by omega) ?_;refine fh rfl _ ?_;have t:((l.flatMap lF).drop (i*4)).take 4=lF p:=acY l i p d;show ae W n0 (b9 4 (jP n 0) (.agg (((l.flatMap lF).drop (i*4)).take 4).toArray) _) _ _ Q;rw[t];refine iZ (W:=W) (n0:=n0) (sz:=4) (e:=51) (cs:=z51) trivial (vs:=lF p) rfl rfl rfl (get_eq _ _ _) jO (.inl f) _ fun h' s g=> ?_;exact y h' s fun c A=>by rw[g c jO,aB _ _ jO]
end
section
variable {lf d n:Nat} {h:H}
theorem apw(u:100<=lf)(x2:Value){j:Nat}:∀(m a n:Nat) (h:H) (l:List Bool) (ws:List Nat),j<=n->l.length/8=m->m<a->ws.length+m<=100000000->l.length<=100000000->ae (fun _=>False) j (vl lf (eW lf (d+1)) a (DZ lf (eW lf (d+1))) (tx l) x2 (.string ⟨(bS ws).toArray⟩)) h n fun e h' n'=>e= .string ⟨(bS (dv (ws,[]) l).1).toArray⟩:=by
 intro m
 induction m with
 |zero=>
  intro a n h l ws p y w v b;obtain⟨a,rfl⟩:∃f,a=f+1:=⟨a-1,jO⟩;have c:¬(8:Int)<=((l.length:Nat):Int):=jO;rw[Mq l ws [] (by show 0+_<8;omega)];rw[vl];try simp(disch:=first|omega|assumption) only[Nat.reduceAdd,Nat.reduceLT,RZ,ql,c]
  (try unfold DZ);(try dsimp only)
  try simp(disch:=first|omega|assumption) only[Nat.reduceAdd,Nat.reduceLT,RZ]
 |succ m t=>
  intro a n h l ws p y w v b;obtain⟨a,rfl⟩:∃f,a=f+1:=⟨a-1,jO⟩;have c:(8:Int)<=((l.length:Nat):Int):=jO;have i:=fun(k:Value->M Value)=>aab l .i64 8 k jD jO;have g:=fun(k:Value->M Value)=>akB l .i64 8 k jD jO;have o:(l.take 8).length=8:=by rw[cB];omega
  have s:=yF (l.take 8);rw[o]at s;rw[show(8:Int).toNat=8 from rfl]at i g;rw[vl];try simp(disch:=first|omega|assumption) only[Nat.reduceAdd,Nat.reduceLT,RZ,ql,c,i]
  refine bz (akE (lf:=lf) (d:=d) (l.take 8) jO jO) p (fun _ _ h=>h.elim) ?_;have r:=w8 (x:=num (l.take 8) 0) jO;try simp(disch:=first|omega|assumption) only[Nat.reduceAdd,Nat.reduceLT,RZ,r]
  refine Ai trivial (eI _ _) _ ?_;refine Ml (ws:=[num (l.take 8) 0]) (get_eq _ _ _) (dK n) (ai _) rfl _ ?_;have q:=fun(k:Value->M Value)=>rh k (bS ws) (bS [num (l.take 8) 0]) (by unfold bS;simp;omega);rw[<-amm]at q;try simp(disch:=first|omega|assumption) only[Nat.reduceAdd,Nat.reduceLT,RZ,q,g]
  have:=t a (n+1) (h.set n (some ⟨5,true,[.int .u8 (num (l.take 8) 0:Int)]⟩)) (l.drop 8) (ws++[num (l.take 8) 0]) jO (by rw[fp];omega) jO (by simp;omega) (by rw[fp];omega);refine this.mono ?_;rintro e h' n' _ rfl;rw[show dv (ws,[]) l=dv (ws++[num (l.take 8) 0],[]) (l.drop 8) by rw[<-ajK ws (l.take 8) o,<-Bs,jN]]
theorem acZ(b:3000000<=lf){l:List Bool}(c:l.length<=10000000):ae (fun _=>False) n (eW lf (d+2) 23 #[tx l]) h n fun a h' n'=>a=bp (cO l):=by rw[aF (fun _=>agt) rfl];refine ae.aE ?_;unfold JN;exact apw jO _ (l.length/8) lf n h l [] (ai _) rfl jO (by simp;omega) jO
theorem apx{l:Int}(c:¬(1<=l∧l<=9)):ae (fun _=>False) n (eW lf (d+1) 18 #[jI l]) h n fun v h' n'=>v= .tuple #[.pointer none,jI 1]∧h'=h∧n'=n:=by
 rw[aF (fun _=>JK) rfl];refine ae.aE ?_;unfold Ar;by_cases a:l<1
 ·try simp(disch:=first|omega|assumption) only[Nat.reduceAdd,Nat.reduceLT,RZ,a]
  all_goals (first|trivial|rfl|exact⟨rfl,rfl,rfl⟩|exact⟨rfl,rfl⟩)
 ·have b:(9:Int)<l:=jO;try simp(disch:=first|omega|assumption) only[Nat.reduceAdd,Nat.reduceLT,RZ,a,b]
  all_goals (first|trivial|rfl|exact⟨rfl,rfl,rfl⟩|exact⟨rfl,rfl⟩)
end
noncomputable def rW (lf:Nat) (r:RT) (p:Nat) (k:(V->V->V->V->M V)×(V->M V)) (a b c d e g j l m n o:V) (f i h:V):M V:=ak r 27 [d] fun y=>cS f fun B=>iE B (ii 8) fun C=>cS g fun D=>bL C D fun E=>hC y E fun G=>aK G (k.2 (.bool false)) (ar o (ii 1) fun y=>lg lf ((r)) p k a b c d e f g i h j l m n y)
noncomputable def zq (lf:Nat) (r:RT) (p:Nat) (k:(V->V->V->V->M V)×(V->M V)) (a b c d e f g h i j l m n o t:V) (w:V):M V:=bR 4 t fun x=>ak r 25 [x,h,i] fun y=>bj y 0 fun z=>bj y 1 fun A=>hC w z fun x=>aK x (k.2 (.bool false)) (ej z (ii 0) fun y=>aK y (ba 0 t fun B=>aM B fun C=>cE C (ii 2) fun D=>aK D (ba 0 t fun E=>aM E fun G=>pY G (ii 0) fun J=>aK J (ba 3 t fun B=>aM B fun C=>bV 40 1 C fun D=>bH 40 1 i D fun E=>ar f A fun B=>rW lf r p k a b c d e g j l m n o B h E) (ej z (ii 0) fun B=>aK B (ar f A fun C=>ak r 26 [C] fun D=>rW lf r p k a b c d e g j l m n o D (.bool true) i) (rW lf r p k a b c d e g j l m n o f h i))) (ej z (ii 0) fun y=>aK y (ar f A fun C=>ak r 26 [C] fun D=>rW lf r p k a b c d e g j l m n o D (.bool true) i) (rW lf r p k a b c d e g j l m n o f h i))) (ej z (ii 0) fun y=>aK y (ar f A fun C=>ak r 26 [C] fun D=>rW lf r p k a b c d e g j l m n o D (.bool true) i) (rW lf r p k a b c d e g j l m n o f h i)))
noncomputable def ac0 (lf:Nat) (r:RT) (p:Nat) (k:(V->V->V->V->M V)×(V->M V)) (a b c d e f g h i j l m n o t:V):M V:=ba 0 t fun q=>aM q fun s=>ej s (ii 0) fun q=>aK q (ba 2 t fun x=>aM x fun y=>ba 3 t fun z=>aM z fun A=>ak r 19 [d,y,A] fun B=>zq lf r p k a b c d e f g h i j l m n o t B) (ej s (ii 1) fun x=>aK x (ba 2 t fun y=>aM y fun z=>ba 1 t fun A=>aM A fun B=>ba 3 t fun C=>aM C fun D=>ak r 24 [d,z,B,D] fun E=>zq lf r p k a b c d e f g h i j l m n o t E) (ak r 21 [d] fun y=>zq lf r p k a b c d e f g h i j l m n o t y))
noncomputable def ac1 (lf:Nat) (r:RT) (p:Nat) (k:(V->V->V->V->M V)×(V->M V)) (a b c d e f g h i j l m n o t:V):M V:=ba 2 t fun q=>aM q fun s=>cS s fun u=>jr u (ii 30) fun v=>aK v (ak r 10 [] fun q=>k.2 q) (ba 0 t fun q=>aM q fun s=>ej s (ii 3) fun u=>aK u (ak r 20 [d] fun q=>ar g q fun s=>ak r 23 [f] fun g=>hC s g fun q=>aK q (k.2 (.bool false)) (ar o (ii 1) fun g=>lg lf ((r)) p k a b c d e f s h i j l m n g)) (ac0 lf r p k a b c d e f g h i j l m n o t))
theorem ac2(lf:Nat)(r:RT)(u:Nat)(k:(V->V->V->V->M V)×(V->M V))(a b c d e f g h i j l m n o:V):lg lf ((r)) (u+1) k a b c d e f g h i j l m n o=cE o n fun p=>aK p (ki 4 m o fun q=>bR 4 q fun s=>cU 51 z51 fun t=>b9 4 t s fun _=>ac1 lf r u k a b c d e f g h i j l m n o t) (k.1 d e f g):=rfl
theorem N8(l:List Bool):(cO l).length=l.length/8:=by have a:=Na l ([],[]) jD;have b:=amh l;unfold cO;have e:8*(dv ([],[]) l).1.length+(dv ([],[]) l).2.length=0+0+l.length:=a;omega
theorem ac3{a:Ac}{x:Sa}(h:a.Ok)(j:a.t.length<=30)(b:a.err x=0):(a.more x).length<=68000:=by
 unfold Ac.err at b;unfold Ac.more;by_cases c:x.e=true
 ·rw[if_pos c]at b;cases b
 ·rw[if_neg c]at b;by_cases g:a.k=0
  ·rw[if_pos g]at b⊢;by_cases e:a.t=[]
   ·rw[if_pos e]at b;cases b
   ·have i:=Hi (N5 h.t) (fun q=>e (qE (by rw[<-xm a.t,q];rfl))) (by rw[xm];omega) (cV 0 (cX a.t)) a.s;rw[xm]at i;rw[aG,cA];omega
  ·rw[if_neg g]at b⊢;by_cases f:a.k=1
   ·rw[if_pos f]at b⊢;by_cases d:0<=a.o∧a.o<(a.t.length:Int)
    ·have i:=Hi h.t (fun q=>by rw[q]at d;simp at d;omega) jO a.o.toNat a.s;rw[aG,cA];omega
    ·rw[if_neg d]at b;cases b
   ·rw[if_neg f,acU];decide
theorem ac4{a:Ac}{x:Sa}(b:a.Ok)(d:a.t.length<=30):(a.next x).l.length<=x.l.length+70000∧(a.next x).u.length<=x.u.length+1∧((∀y∈x.u,y<4294967296)->∀y∈(a.next x).u,y<4294967296):=by
 unfold Ac.next;by_cases c:a.err x≠0
 ·rw[if_pos c];exact⟨jO,jO,id⟩
 ·have m:=ac3 b d (Classical.not_not.1 c);rw[if_neg c];by_cases k:a.k=0∨a.k=1
  ·rw[if_pos k];refine⟨by show(x.l++a.more x).length<=_;rw[aG];omega,by show(x.u++[a.s]).length<=_;rw[aG];exact ai _,fun h y hy=> ?_⟩;rcases List.mem_append.1 hy with hy|hy
   ·exact h y hy
   ·rw[List.mem_singleton.1 hy];exact b.s
  ·rw[if_neg k];refine⟨?_,by show x.u.length<=_;omega,id⟩;show(nj (x.l++a.more x)).length<=_;unfold nj oh;rw[aG,List.length_replicate,aG];omega
section
variable {lf d lo n p w K n0:Nat} {sv:Value} {h:H} {W:Nat->Prop} {Q:Value->H->Nat->Prop} {k:(Value->Value->Value->Value->M Value)×(Value->M Value)} {A B C E J L O N:Value}
theorem Hk{x:Sa}{b i:Nat}{a:Value}{T:List Nat}(y:SW K h lo n p w sv x.tt x.e x.l)(q:T.length=K)(l:x.l.length<=10000000)(o:i<=1000)(j:n0<=n)(c:ae W n0 (lg lf (eW lf (d+28)) b k A B C (jP p 0) E (tx x.l) (bp T) (.bool x.e) a J L O N (jI ((i+1:Nat):Int))) h n Q):
 ae W n0 (rW lf (eW lf (d+28)) b k A B C (jP p 0) E (bp T) J L O N (jI (i:Int)) (tx x.l) (.bool x.e) a) h n Q:=by
 have r:=N8 x.l;have m:=y.wr.1;unfold rW;refine bz (apa (lf:=lf) (d:=d+26) y) j (fun _ _ h=>h.elim) ?_;have q1:((x.l.length:Nat):Int).tdiv 8=((x.l.length/8:Nat):Int):=rfl;have g:IntKind.i64.wrap ((x.l.length/8:Nat):Int)=((x.l.length/8:Nat):Int):=aV jO jO;have f:IntKind.i64.wrap (((x.l.length/8:Nat):Int)-((T.length:Nat):Int))=(((cO x.l).length-K:Nat):Int):=by rw[aV jO jO];omega
 have z:((((cO x.l).length-K:Nat):Int) !=(((cO x.l).length-K:Nat):Int))=false:=bne_self_eq_false _;have e:(i:Int)+1=((i+1:Nat):Int):=rfl;try simp(disch:=first|omega|assumption) only[Nat.reduceAdd,Nat.reduceLT,RZ,ql,q1,g,gT,f,z]
 rw[e];exact c
theorem apy (u2:3000000<=lf) (hd:600<=d) {x:Sa} {a:Ac} (ha:a.Ok) (hl:a.t.length<=30) {fu i t m:Nat} {P:Value} {T:List Nat} (hu:∀y∈x.u,y<4294967296) (u5:x.u.length<=90) (u6:x.l.length<=2000000) (gt':h.get t=some ⟨51,true,lF a⟩) (ht:t<n) (y:SW K h lo n p w sv (a.next x).tt (a.next x).e (a.next x).l) (o:Own h m n 40 P (aH .u32 (iN x.u))) (h0:n0<=m) (h2:m<=n) (hT:T.length=K) (Z:i<=1000)
 (c:∀I h' n',n<=n'->(∀b,b<n->¬az P b->h'.get b=h.get b)->Own h' m n' 40 I (aH .u32 (iN (a.next x).u))->SW K h' lo n' p w sv (a.next x).tt (a.next x).e (a.next x).l->ae W n0 (lg lf (eW lf (d+28)) fu k A B C (jP p 0) E (tx (a.next x).l) (bp T) (.bool (a.next x).e) I J L O N (jI ((i+1:Nat):Int))) h' n' Q):
 ae W n0 (zq lf (eW lf (d+28)) fu k A B C (jP p 0) E (tx x.l) (bp T) (.bool x.e) P J L O N (jI (i:Int)) (jP t 0) (jI (a.err x:Int))) h n Q:=by
 have u0:∀b,az P b->¬lE p w sv b:=fun b g=>by obtain⟨B',q1,q2⟩:=o.elem g;exact y.apart q1 (by rw[q2];decide) (by rw[q2];decide) (by rw[q2];decide)
 unfold zq;refine lV t 0 _ gt' ht (ai 4) ?_;refine aN aL (apu (lf:=lf) (d:=d+1) u2 jO (x:=x) ha hl hu jO o.row) jO (fun _ _ h=>h.elim) fun v1 R v r u4 u1=> ?_;subst u1;have f:∀b,b<n->R.get b=h.get b:=fun b g=>u4 b g id;have G:=y.ay r fun b g _=>f b g;have o1:=o.ay r fun b g=>f b (o.lt g).2;have g1:R.get t=some ⟨51,true,[jI a.k,jI a.o,bp a.t,.int .u32 (a.s:Int)]⟩:=(f t ht).trans gt';have t1:t<v:=jO;have nl:=ac4 (x:=x) ha hl;have z:(((a.err x:Nat):Int) !=((a.err x:Nat):Int))=false:=bne_self_eq_false _;by_cases Y:a.err x=0
 ·have X:(((a.err x:Nat):Int)==0)=true:=by rw[Y];rfl
  have j:a.next x=if a.k=0∨a.k=1 then⟨x.l++a.more x,x.e,x.u++[a.s]⟩else⟨nj (x.l++a.more x),true,x.u⟩:=by unfold Ac.next;rw[if_neg (by rw[Y];decide)]
  have ml:=ac3 ha hl Y;have ad:=fun(K2:Value->M Value)=>fL x.l (a.more x) jO K2;rw[if_pos Y];by_cases k:a.k=0∨a.k=1
  ·rw[if_pos k]at j;have c1:a.k<2:=jO;have c2:0<=a.k:=jO;try simp(disch:=first|omega|assumption) only[Nat.reduceAdd,Nat.reduceLT,RZ,dF,ext1,z,X,g1,c1,c2]
   refine fJ trivial (eI _ _) o1 (by rw[cj,bB];omega) jO _ fun h3 g3 k3=> ?_;try simp(disch:=first|omega|assumption) only[Nat.reduceAdd,Nat.reduceLT,RZ,ad]
   have U:∀b,b<n->¬az P b->h3.get b=h.get b:=fun b g q=>(k3 b jO q).trans (f b g);have y3:SW K h3 lo (v+2) p w sv (a.next x).tt (a.next x).e (a.next x).l:=y.ay jO fun b g q=>U b g fun u3=>u0 b u3 q;have F:=y3;rw[j]at F nl;refine Hk (d:=d) (x:=⟨x.l++a.more x,x.e,x.u++[a.s]⟩) F hT jO Z jO ?_
   have c:=c _ h3 (v+2) jO U (by
    rw[j,ku,kv]
    exact Own.mk' (b:=v+1) g3 jO jO (by rw[aG])) y3
   rw[j]at c;exact c
  ·rw[if_neg k]at j;have D:=c _ R v r (fun b g _=>f b g) (by rw[j];exact o1) G;have rp:=abe (lf:=lf) (d:=d+27) (n:=v) (h:=R) (l:=x.l++a.more x) (by rw[aG];omega) jO;have s:=G;rw[j]at s nl D;by_cases c1:a.k<2
   ·have c2:¬0<=a.k:=jO;try simp(disch:=first|omega|assumption) only[Nat.reduceAdd,Nat.reduceLT,RZ,dF,ext1,z,X,g1,c1,c2,ad]
    refine bz rp jO (fun _ _ h=>h.elim) ?_;exact Hk (d:=d) (x:=⟨nj (x.l++a.more x),true,x.u⟩) s hT jO Z jO D
   ·try simp(disch:=first|omega|assumption) only[Nat.reduceAdd,Nat.reduceLT,RZ,dF,ext1,z,X,g1,c1,ad]
    refine bz rp jO (fun _ _ h=>h.elim) ?_;exact Hk (d:=d) (x:=⟨nj (x.l++a.more x),true,x.u⟩) s hT jO Z jO D
 ·have X:(((a.err x:Nat):Int)==0)=false:=beq_eq_false_iff_ne.2 jO;have j:=zo Y;have D:=c _ R v r (fun b g _=>f b g) (by rw[j];exact o1) G;rw[j]at D G;try simp(disch:=first|omega|assumption) only[Nat.reduceAdd,Nat.reduceLT,RZ,dF,ext1,z,X]
  exact Hk (d:=d) (x:=x) G hT jO Z jO D
end
section
variable {lf d n:Nat} {h:H}
set_option maxHeartbeats 400000 in
theorem apz(G:3000000<=lf)(hd:600<=d)(lv:Int){v:Value}(l:List Ac)(v8:∀a∈l,a.Ok)(hv:rV h n v l)(g:Gd h n):ae (fun _=>False) n (eW lf (d+29) 6 #[jI lv,v]) h n fun v _ _=>v= .bool true:=by
 rw[aF (fun _=>agi) rfl];refine ae.aE ?_;unfold JG
 have kl:∀K:Value->M Value,aT v K=K (jI (l.length:Int)):=fun K=>by obtain⟨a,c,e⟩:=hv.len;rw[e];rfl
 by_cases c1:l.length<=8
 rotate_left
 ·have z:(8:Int)<((l.length:Nat):Int):=jO;try simp(disch:=first|omega|assumption) only[Nat.reduceAdd,Nat.reduceLT,RZ,kl,z]
  exact M1 (ai _) g
 have z:¬(8:Int)<((l.length:Nat):Int):=jO;have z0:((0:Int)==0)=true:=rfl;have z1:((1:Int)==1)=true:=rfl;try simp(disch:=first|omega|assumption) only[Nat.reduceAdd,Nat.reduceLT,RZ,kl,z]
 by_cases c2:1<=lv∧lv<=9
 rotate_left
 ·refine bz (apx (lf:=lf) (d:=d+27) c2) (ai _) (fun _ _ h=>h.elim) ?_;try simp(disch:=first|omega|assumption) only[Nat.reduceAdd,Nat.reduceLT,RZ,dF,ext1]
  refine bz (acR (lf:=lf) (d:=d+27) lv) (ai _) (fun _ _ h=>h.elim) ?_;rw[decide_eq_false c2];try simp(disch:=first|omega|assumption) only[Nat.reduceAdd,Nat.reduceLT,RZ,z1]
  exact M1 (ai _) g
 obtain⟨l1,l9⟩:=c2;obtain⟨lv,rfl⟩:∃k:Nat,lv=(k:Int):=⟨lv.toNat,jO⟩;refine aN aL (ape (lf:=lf) (d:=d+25) jO (l:=lv) jO jO) (ai _) (fun _ _ h=>h.elim) fun v1 h1 n1 U u3 v7=> ?_;obtain⟨p,w,v3,rfl,x1⟩:=v7;have v9:=g.ay U fun b j=>u3 b j id;have w2:=hv.ay U fun b j=>u3 b j id;try simp(disch:=first|omega|assumption) only[Nat.reduceAdd,Nat.reduceLT,RZ,dF,ext1]
 refine bz (acR (lf:=lf) (d:=d+27) (lv:Int)) U (fun _ _ h=>h.elim) ?_;rw[decide_eq_true (show(1:Int)<=lv∧(lv:Int)<=9 from⟨l1,l9⟩)];try simp(disch:=first|omega|assumption) only[Nat.reduceAdd,Nat.reduceLT,RZ]
 refine bz (ani (lf:=lf) (d:=d+25) lv jO jO jO) U (fun _ _ h=>h.elim) ?_;try simp(disch:=first|omega|assumption) only[Nat.reduceAdd,Nat.reduceLT,RZ,kl]
 have w4:=anf lv;refine cG l.length (fun fu i (s:Sa×Nat×Value×Value)=>lg lf (eW lf (d+28)) fu (s7 lf (eW lf (d+28))) (jI (lv:Int)) v (.bool false) (jP p 0) (jI 0) (tx s.1.l) (bp ((cO s.1.l).take s.2.1)) (.bool s.1.e) s.2.2.2 (.bool false) (.bool false) v (jI (l.length:Int)) (jI (i:Nat))) (fun i s Q o=>n1<=o∧SW s.2.1 Q n o p w s.2.2.1 s.1.tt s.1.e s.1.l∧Gd Q o∧Own Q n1 o 40 s.2.2.2 (aH .u32 (iN s.1.u))∧(∀y∈s.1.u,y<4294967296)∧s.1.u.length<=i∧s.1.l.length<=32+70000*i∧rV Q n v l) ?_ ?_ lf 0 (⟨rO lv,false,[]⟩,0,v3,nS) h1 n1 (Nat.zero_le _) jO ⟨ai _,x1,v9,Own.nil _ _ _ _,fun y hy=>(by cases hy),ai _,by show(rO lv).length<=_;omega,hv.ay (ai _) fun b j=>u3 b j id⟩
 ·rintro fu ⟨x,K,Y,X⟩ Q o ⟨e1,D,e3,e4,e5,e6,e7,e8⟩;have D:SW K Q n o p w Y x.tt x.e x.l:=D;have e7:x.l.length<=32+70000*l.length:=e7;show ae _ _ (lg lf (eW lf (d+28)) (fu+1) (s7 lf (eW lf (d+28))) (jI (lv:Int)) v (.bool false) (jP p 0) (jI 0) (tx x.l) (bp ((cO x.l).take K)) (.bool x.e) X (.bool false) (.bool false) v (jI (l.length:Int)) (jI (l.length:Nat))) _ _ _;rw[ac2];try simp(disch:=first|omega|assumption) only[Nat.reduceAdd,Nat.reduceLT,RZ,Int.lt_irrefl]
  unfold s7;dsimp only;try simp(disch:=first|omega|assumption) only[Nat.reduceAdd,Nat.reduceLT,RZ,z0]
  have bl:=N8 x.l;refine aN aL (acQ (lf:=lf) (d:=d+26) D) jO (fun b j O=> .inl (by have O:b=w:=O;have:=D.wr.2.ge;omega)) fun v2 E n2 w3 w0 v6=> ?_;obtain⟨rfl,rfl,_⟩:=v6;have C:Gd E n2:=⟨(w0 _ e3.2 fun q=>by have q:_=w:=q;have:=D.wr.2.ge;have:=g.2;omega).trans e3.1,e3.2⟩;have ad:=fun(J:Value->M Value)=>yZ ((cO x.l).take K) ((cO x.l).drop K) (by rw[cB,fp];omega) J;rw[jN]at ad;try simp(disch:=first|omega|assumption) only[Nat.reduceAdd,Nat.reduceLT,RZ,ad]
  refine aN aL (acZ (lf:=lf) (d:=d+26) G (l:=x.l) jO) jO (fun _ _ h=>h.elim) fun R A L r m t=> ?_;subst t;have se:=fun J=>api (cO x.l) J;try simp(disch:=first|omega|assumption) only[Nat.reduceAdd,Nat.reduceLT,RZ,se]
  exact M1 jO (C.ay r fun b j=>m b j id)
 ·rintro fu i ⟨x,K,Y,X⟩ Q o hi ⟨e1,D,e3,e4,e5,e6,e7,e8⟩ next;have D:SW K Q n o p w Y x.tt x.e x.l:=D;have e4:Own Q n1 o 40 X (aH .u32 (iN x.u)):=e4;have e5:∀y∈x.u,y<4294967296:=e5;have e6:x.u.length<=i:=e6;have e7:x.l.length<=32+70000*i:=e7;have c3:(i:Int)<((l.length:Nat):Int):=jO;have w1:(i:Int)+1=((i+1:Nat):Int):=rfl;obtain⟨a,ha⟩:∃a,l[i]? =some a:=⟨l[i],List.getElem?_eq_getElem hi⟩;have am:a∈l:=List.mem_of_getElem? ha;have W:=v8 a am;have next:∀x2 J u6 u5 E n2,n1<=n2->_->_->_->_->_->_->_->_:=fun x2 J u6 u5 E n2 a b c d e f g i=>next (x2,J,u6,u5) E n2 ⟨a,b,c,d,e,f,g,i⟩;dsimp only at next;show ae _ _ (lg lf (eW lf (d+28)) (fu+1) (s7 lf (eW lf (d+28))) (jI (lv:Int)) v (.bool false) (jP p 0) (jI 0) (tx x.l) (bp ((cO x.l).take K)) (.bool x.e) X (.bool false) (.bool false) v (jI (l.length:Int)) (jI (i:Nat))) _ _ _;rw[ac2];try simp(disch:=first|omega|assumption) only[Nat.reduceAdd,Nat.reduceLT,RZ,c3]
  refine apv (e8.ay (show n<=o by omega) fun _ _=>rfl) ha jO _ fun E g2 k2=> ?_;have T:∀c,c<o->E.get c=Q.get c:=k2;have B:=D.ay (cH o) fun b j _=>T b j;have C:=e3.ay (cH o) T;have o2:=e4.ay (cH o) fun b j=>T b (e4.lt j).2;have v2:=e8.ay (ai n) fun b j=>T b jO;have t2:o<o+1:=dK o;have kk:∀c,(s7 lf (eW lf (d+28))).2 c=aj [c]:=fun _=>rfl;have I:E.get o=some ⟨51,true,[jI a.k,jI a.o,bp a.t,.int .u32 (a.s:Int)]⟩:=g2;unfold ac1;by_cases c4:a.t.length<=30
  rotate_left
  ·have z4:(30:Int)<((a.t.length:Nat):Int):=jO;try simp(disch:=first|omega|assumption) only[Nat.reduceAdd,Nat.reduceLT,RZ,I,gT,z4]
   refine bz (aaV lf (d+27) (o+1) E C) jO (fun _ _ h=>h.elim) ?_;rw[kk];try simp(disch:=first|omega|assumption) only[Nat.reduceAdd,Nat.reduceLT,RZ]
  have z4:¬(30:Int)<((a.t.length:Nat):Int):=jO;have bl:=N8 x.l
  have u4:∀b,az X b->¬lE p w Y b:=fun b j=>by obtain⟨B',q1,q2⟩:=o2.elem j;exact B.apart q1 (by rw[q2];decide) (by rw[q2];decide) (by rw[q2];decide)
  have low:∀{A:H},(∀b,b<o+1->¬lE p w Y b->A.get b=E.get b)->∀b,b<n->A.get b=E.get b:=fun fr b j=>fr b jO fun q=>by
   rcases q with q|q|q
   ·have:=B.pl;omega
   ·have:=B.wr.2.ge;omega
   ·have:=(B.wr.own.lt q).1;omega
  by_cases c5:a.k=3
  ·have z5:(a.k==3)=true:=by rw[c5];rfl
   try simp(disch:=first|omega|assumption) only[Nat.reduceAdd,Nat.reduceLT,RZ,I,gT,z4,z5]
   refine aN aL (acQ (lf:=lf) (d:=d+26) B) jO (fun b j O=> .inl (by have O:b=w:=O;have:=B.wr.2.ge;omega)) fun R A L r m t=> ?_;obtain⟨rfl,rfl,y3⟩:=t;have ad:=fun(J:Value->M Value)=>yZ ((cO x.l).take K) ((cO x.l).drop K) (by rw[cB,fp];omega) J;rw[jN]at ad;try simp(disch:=first|omega|assumption) only[Nat.reduceAdd,Nat.reduceLT,RZ,ad]
   refine aN aL (acZ (lf:=lf) (d:=d+26) G (l:=x.l) jO) jO (fun _ _ h=>h.elim) fun v4 h4 n4 u1 P v5=> ?_;subst v5
   have se:∀J:Value->M Value,hC (bp (cO x.l)) (bp (cO x.l)) J=J (.bool false):=fun J=>by have:=Jq (k:=J) (bS (cO x.l)) (bS (cO x.l));rw[decide_eq_true rfl]at this;exact this
   try simp(disch:=first|omega|assumption) only[Nat.reduceAdd,Nat.reduceLT,RZ,se]
   rw[w1];have F:∀b,b<o+1->b≠w->h4.get b=E.get b:=fun b j q=>(P b jO id).trans (m b j q)
   have nw:∀b,b<o+1->h4.get b=E.get b∨b=w:=fun b j=>by
    by_cases q:b=w
    ·exact .inr q
    ·exact .inl (F b j q)
   have c:=next x (cO x.l).length _ X h4 n4 jO (y3.ay u1 fun b j _=>P b j id) (C.after B g.2 (fun b j q=>F b j fun e=>q (.inr (.inl e))) jO) (o2.ay jO fun b j=>F b (o2.lt j).2 fun e=>u4 b j (.inr (.inl e))) e5 jO jO (v2.ay (ai n) fun b j=>F b jO fun e=>by have:=B.wr.2.ge;omega);rw[List.take_length]at c;exact c
  have z5:(a.k==3)=false:=beq_eq_false_iff_ne.2 c5;try simp(disch:=first|omega|assumption) only[Nat.reduceAdd,Nat.reduceLT,RZ,I,gT,z4,z5]
  unfold ac0
  have N:∀v' A L,o+1<=L->(∀b,b<o+1->¬lE p w Y b->A.get b=E.get b)->Hj K n (o+1) p w Y E a x v' A L->ae (fun _=>False) n (zq lf (eW lf (d+28)) fu (s7 lf (eW lf (d+28))) (jI (lv:Int)) v (.bool false) (jP p 0) (jI 0) (tx x.l) (bp ((cO x.l).take K)) (.bool x.e) X (.bool false) (.bool false) v (jI (l.length:Int)) (jI (i:Nat)) (jP o 0) v') A L fun v _ _=>v= .bool true:=by
   rintro v' A L r m ⟨rfl,v0,y3,i3⟩
   have g3:A.get o=some ⟨51,true,lF a⟩:=(m o t2 fun q=>by
    rcases q with q|q|q
    ·have:=D.lt;omega
    ·have:=D.wr.lt;omega
    ·have:=(D.wr.own.lt q).2;omega).trans g2
   have o3:=o2.ay r fun b j=>m b (o2.lt j).2 (u4 b j);have u2:=C.after B g.2 m r;have R:=v2.ay (ai n) fun b j=>low m b j;have nl:=ac4 (x:=x) W c4;have hT:((cO x.l).take K).length=K:=by rw[cB];have:=D.wr.1;omega
   refine apy G hd W c4 e5 jO jO g3 jO y3 o3 jO jO hT jO fun u9 h4 n4 u1 P o4 y4=> ?_
   have e:(cO x.l).take K=(cO (a.next x).l).take K:=by
    unfold Ac.next;split
    ·rfl
    ·split
     ·exact(acT D.wr.1 _).symm
     ·unfold nj;rw[bW];exact(acT D.wr.1 _).symm
   rw[e];have u7:∀b,b<n->¬az X b:=fun b j q=>by have:=(e4.lt q).1;omega
   exact next (a.next x) K v0 u9 h4 n4 jO y4 ⟨(P _ u2.2 fun q=>by have:=(o3.lt q).1;have:=g.2;omega).trans u2.1,eD u2.2 u1⟩ o4 (nl.2.2 e5) jO jO (R.ay (ai n) fun b j=>P b jO (u7 b j))
  have u0:∀b,lE p w Y b->n<=b:=fun b q=>by
   rcases q with q|q|q
   ·have:=B.pl;omega
   ·have:=B.wr.2.ge;omega
   ·exact(B.wr.own.lt q).1
  by_cases k0:a.k=0
  ·have zk:(a.k==0)=true:=by rw[k0];rfl
   try simp(disch:=first|omega|assumption) only[Nat.reduceAdd,Nat.reduceLT,RZ,I,zk]
   refine aN aL (apr (lf:=lf) (d:=d+14) G C B g.2 W k0 c4 jO jO) jO (fun b _ O=> .inl (u0 b O)) fun R A L r m t=> ?_;exact N R A L r m t
  have zk:(a.k==0)=false:=beq_eq_false_iff_ne.2 k0;by_cases k1:a.k=1
  ·have Z:(a.k==1)=true:=by rw[k1];rfl
   try simp(disch:=first|omega|assumption) only[Nat.reduceAdd,Nat.reduceLT,RZ,I,zk,Z]
   refine aN aL (aps (lf:=lf) (d:=d+15) G C B g.2 W k1 c4 jO jO) jO (fun b _ O=> .inl (u0 b O)) fun R A L r m t=> ?_;exact N R A L r m t
  have Z:(a.k==1)=false:=beq_eq_false_iff_ne.2 k1;try simp(disch:=first|omega|assumption) only[Nat.reduceAdd,Nat.reduceLT,RZ,I,zk,Z]
  refine aN aL (apt (lf:=lf) (d:=d+24) G B k0 k1 jO) jO (fun b _ O=> .inl (u0 b O)) fun R A L r m t=> ?_;exact N R A L r m t
end
set_option maxRecDepth 20000
theorem apA:kL aa 8 51=some [3,3,9,40]:=jK
theorem apB{i:Int}(h:(Lit.int .u32 i).wf=true):0<=i∧i<=4294967295:=by have b:IntKind.u32.min=0:=jD;have a:IntKind.u32.max=4294967295:=jD;simp only[Lit.wf,b,a,Bool.and_eq_true,decide_eq_true_eq]at h;exact h
theorem ac5{h:H}{n f:Nat}:∀(m:Nat) (cs:List Value),cs.length=m*4->(∀i,i<m->ez (eV aa h n (f+1)) [3,3,9,40] ((cs.drop (i*4)).take 4))->∃l:List Ac,l.length=m∧cs=l.flatMap lF∧∀a∈l,a.Ok
 |0,cs,b,_=>⟨[],rfl,List.length_eq_zero_iff.1 jO,fun a h=>by cases h⟩
 |m+1,[],b,c=>by simp at b
 |m+1,[e],b,c=>by simp at b;omega
 |m+1,[e,j],b,c=>by simp at b;omega
 |m+1,[e,j,x],b,c=>by simp at b;omega
 |m+1,e::j::x::z::cs,b,c=>by
  have r:=c 0 (Nat.zero_lt_succ _);obtain⟨q,p,o,k,_⟩:=r;obtain⟨g,rfl,_⟩:=F9 (P:=aa) (f:=f) Cz q;obtain⟨i1,rfl,_⟩:=F9 (P:=aa) (f:=f) Cz p;obtain⟨t,rfl,_⟩:=ajB (f:=f) Tryz.underlying9 o;obtain⟨i3,rfl,d⟩:=F9 (P:=aa) (f:=f) Tryz.underlying40 k;have d:=apB d
  obtain⟨l,v,u,s⟩:=ac5 m cs (by simp only[ct]at b;omega) fun i y=>by have:=c (i+1) jO;rw[show(i+1)*4=i*4+1+1+1+1 by omega]at this;exact this
  have w:((i3.toNat:Nat):Int)=i3:=Int.toNat_of_nonneg d.1;refine⟨⟨g,i1,bN t,i3.toNat⟩::l,by rw[ct,v], ?_,fun a ha=> ?_⟩
  ·rw[pG,<-u];show _=jI g::jI i1::bp (bN t):: .int .u32 ((i3.toNat:Nat):Int)::cs;rw[w,<-apf]
  ·rcases List.mem_cons.1 ha with rfl|ha
   ·exact⟨apg t,by show i3.toNat<4294967296;omega⟩
   ·exact s a ha
theorem apC{h:H}{n:Nat}{v:Value}(x:oV aa h n 47 v):∃l,rV h n v l∧∀a∈l,a.Ok:=by
 have p:kL aa 8 47=some [47]:=jK;have i:p8 aa 47=false:=jK;obtain⟨g,c,q⟩:=x;rw[p]at c;cases c;rcases q with ⟨q,_⟩|⟨_,q⟩
 ·rw[i]at q;cases q
 ·have q1:=q.1;unfold eV at q1;rw[Tryz.underlying47]at q1;rcases q1 with ⟨a,rfl,e⟩|⟨b,len,g,r,rfl,f,t,m,o,j,s,d⟩
  ·exact⟨[],.inl ⟨a,rfl,e,rfl⟩,fun a h=>by cases h⟩
  ·rw[apA]at f;cases f;obtain⟨l,rfl,rfl,k⟩:=ac5 len r j d;exact⟨l,.inr ⟨b,rfl,m,o⟩,k⟩
theorem apD{w:World}(g:Ev.qO w){vs:List Value}(m:ez (sY aa w) [3,47] vs):Calls aa 6 vs.toArray w fun e w'=>e= .returned (.bool true)∧Below w.heap.size w w':=by refine aly g m fun n h c j k q=> ?_;obtain⟨a,b,rfl,p,o⟩:=Ev.ajD q;obtain⟨i,rfl⟩:=aph p;obtain⟨l,x,f⟩:=apC o;exact apz (lf:=3000000) (d:=971) (ai _) jD i l f x (Gd.of j k)
end Go.Proofs.YtcehhgppfahbkaaGreatDoor
