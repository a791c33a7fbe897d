import Derived.Test.YtmjolmggelkjlaaGreatMaf
open Go.Proofs.Tryz renaming prog→aa
open Nat renaming le_refl→ah, zero_le→aP, le_succ→eL, zero_add→fy, lt_of_lt_of_le→fP, min_eq_left→gZ, mod_lt→jt, not_lt_zero→kS, sub_self→sM, add_assoc→uT, le_add_right→EV, lt_of_le_of_ne→LU, mod_two_eq_zero_or_one→anj
open Go.Value renaming string→aO, int→eJ
open List renaming getD_eq_getElem?_getD→bw, getElem?_eq_getElem→bA, length_drop→bC, length_append→bE, replicate→bQ, append_nil→bR, length_cons→cK, length_take→cO, getElem_mem→dH, length_map→fQ, range→gE, length_nil→hC, getElem?_map→iW, take_length→iY, drop_drop→jf, drop_zero→js, length_replicate→jX, take_succ_eq_append_getElem→m9, map_congr_left→oC, getElem?_append_right→qM, drop_eq_getElem_cons→qP, getElem?_append_left→sH, mem_singleton→sI, drop_length→sO, take_append_of_le_length→Ff, map_drop→Fh, map_take→LV, mem_range→Z', replicate_succ'→amY, map_eq_nil_iff→ani, cons_append→anl
open Bool renaming and_eq_true→bW, not_false→cx, and_self→eA, not_true→eK, xor_false→LW, xor_true→LX
open Int renaming toNat_natCast→cR, lt_irrefl→eO
open UInt8 renaming ofNat→gP
open Prod.mk renaming injEq→kT
open List.cons renaming injEq→an2
set_option linter.unusedVariables false
set_option linter.unusedSimpArgs false
namespace Go.Proofs.YtmjolmggelkjlaaGreat
open Go.RowKit Ev Cn
def Pk.fin(s:Pk):Bool:=decide (0<s.count)&&decide (s.bu.length=s.count)
structure Pk.Ok (s:Pk):Prop where
 new:s.count=0->s.bu=[]∧s.ord=pB
 ord:∀j,j<s.t->s.ord.getD j 0<s.t
 bu:∀x∈s.bu,x<s.t
 len:s.count≠0->s.bu.length<=s.count
 two:s.count≠0->2<=s.t
structure Cd where
 size:Nat
 pk:Pk
 now:Nat
 lens:List Nat
 aZ:List (List Nat)
 took:List Nat
 count:Nat
 done:Bool
 dF:Int
structure Cm where
 q:Nat
 pv:Value
 tv:Value
 r:Nat
 lv:Value
 cv:Value
 pw:Bool
 dw:Bool
 iv:List (Nat×Nat×Nat)
def Cm.F(m:Cm)(z b:Nat):Prop:=b=z∨b=m.q∨b=m.r∨aJ m.pv b∨aJ m.lv b∨aJ m.cv b
def mq(c:Cd)(m:Cm):AB:=⟨252,true,[jI (c.size:Int),jP m.q 0,m.tv,jP m.r 0,m.cv,jI (c.count:Int),.bool c.done,jI c.dF]⟩
structure cG (h:H) (n z p:Nat) (c:Cd) (m:Cm):Prop where
 get:h.get z=some (mq c m)
 lt:z<n
 pk:gz h 0 n m.q c.pk m.pv m.pw
 de:gJ h 0 n m.r c.size c.now m.lv c.lens m.dw
 took:Row h n 3 .i64 m.tv (iN c.took)
 nQ:∀b,aJ m.tv b->¬aJ m.pv b∧¬aJ m.lv b
 mP:∀b,aJ m.pv b->¬aJ m.lv b
 cs:Own h 0 n 329 m.cv (m.iv.map fun x=>jP x.2.2 0)
 j5:m.iv.length=c.aZ.length
 code:∀i,i<c.aZ.length->∃x,m.iv[i]? =some x∧pq h x.1 x.2.1 x.2.2 (c.aZ.getD i [])∧p<x.1∧x.2.1<=n∧∀b,x.1<=b->b<x.2.1->¬m.F z b
theorem lS{h:H}{a b:Nat}{A B:AB}(f:h.get a=some A)(c:h.get b=some B)(d:A.elem≠B.elem):a≠b:=fun e=>by subst e;rw[f]at c;cases c;exact d rfl
section
variable {h:H} {n z p:Nat} {c:Cd} {m:Cm}
theorem cG.zq(x:cG h n z p c m):z≠m.q:=lS x.get x.pk.get (by decide:(252:Nat)≠282)
theorem cG.zr(x:cG h n z p c m):z≠m.r:=lS x.get x.de.get (by decide:(252:Nat)≠333)
theorem cG.qr(x:cG h n z p c m):m.q≠m.r:=lS x.pk.get x.de.get (by decide:(282:Nat)≠333)
theorem cG.int(x:cG h n z p c m){b:Nat}{B:AB}(d:h.get b=some B)(a:B.elem=3):b≠z∧b≠m.q∧b≠m.r∧¬aJ m.cv b:=by refine⟨lS d x.get (by rw[a];exact(by decide:(3:Nat)≠252)),lS d x.pk.get (by rw[a];exact(by decide:(3:Nat)≠282)),lS d x.de.get (by rw[a];exact(by decide:(3:Nat)≠333)),fun e=> ?_⟩;obtain⟨C,g,f⟩:=x.cs.elem e;exact lS d g (by rw[a,f];exact(by decide:(3:Nat)≠329)) rfl
theorem cG.tv(x:cG h n z p c m){b:Nat}(e:aJ m.tv b):b≠z∧b≠m.q∧b≠m.r∧¬aJ m.cv b∧¬aJ m.pv b∧¬aJ m.lv b:=by obtain⟨B,g,f⟩:=x.took.elem e;obtain⟨a,b,c,d⟩:=x.int g f;exact⟨a,b,c,d,x.nQ _ e⟩
theorem cG.pv(x:cG h n z p c m){b:Nat}(a:aJ m.pv b):b≠z∧b≠m.q∧b≠m.r∧¬aJ m.cv b:=by obtain⟨B,e,d⟩:=x.pk.own.elem a;exact x.int e d
theorem cG.lv(x:cG h n z p c m){b:Nat}(a:aJ m.lv b):b≠z∧b≠m.q∧b≠m.r∧¬aJ m.cv b:=by obtain⟨B,e,d⟩:=x.de.own.elem a;exact x.int e d
theorem cG.cv(x:cG h n z p c m){b:Nat}(e:aJ m.cv b):b≠z∧b≠m.q∧b≠m.r:=by obtain⟨C,d,a⟩:=x.cs.elem e;exact⟨lS d x.get (by rw[a];exact(by decide:(329:Nat)≠252)),lS d x.pk.get (by rw[a];exact(by decide:(329:Nat)≠282)),lS d x.de.get (by rw[a];exact(by decide:(329:Nat)≠333))⟩
theorem cG.th(x:cG h n z p c m){b:Nat}(hb:m.F z b):b<n:=by
 rcases hb with rfl|rfl|rfl|hb|hb|hb
 ·exact x.lt
 ·exact x.pk.lt
 ·exact x.de.lt
 ·exact(x.pk.own.lt hb).2
 ·exact(x.de.own.lt hb).2
 ·exact(x.cs.lt hb).2
theorem cG.au(x:cG h n z p c m){h':H}{n':Nat}(f:n<=n')(d:∀b,b<n->(m.F z b∨aJ m.tv b∨∃y∈m.iv,y.1<=b∧b<y.2.1)->h'.get b=h.get b):cG h' n' z p c m where
 get:=(d z x.lt (.inl (.inl rfl))).trans x.get
 lt:=fP x.lt f
 pk:=x.pk.au f fun b a g=>d b a (.inl (g.elim (fun e=> .inr (.inl e)) fun e=> .inr (.inr (.inr (.inl e)))))
 de:=x.de.au f fun b a g=>d b a (.inl (g.elim (fun e=> .inr (.inr (.inl e))) fun e=> .inr (.inr (.inr (.inr (.inl e))))))
 took:=x.took.kG f fun b a=>d b (x.took.lt a) (.inr (.inl a))
 nQ:=x.nQ
 mP:=x.mP
 cs:=x.cs.au f fun b a=>d b (x.cs.lt a).2 (.inl (.inr (.inr (.inr (.inr (.inr a))))))
 j5:=x.j5
 code:=fun i j=>by obtain⟨y,e,k,r,g,q⟩:=x.code i j;exact⟨y,e,k.au fun b o l=>d b jO (.inr (.inr ⟨y,List.mem_of_getElem? e,o,l⟩)),r,jO,q⟩
theorem cG.iv(x:cG h n z p c m){y:Nat×Nat×Nat}(f:y∈m.iv):p<y.1∧y.2.1<=n∧∀b,y.1<=b->b<y.2.1->¬m.F z b:=by obtain⟨i,a,e⟩:=List.getElem_of_mem f;obtain⟨l,d,_,k,j,g⟩:=x.code i (by rw[<-x.j5];exact a);rw[bA a,e]at d;cases d;exact⟨k,j,g⟩
end
theorem cG.DU{h:H}{n z p:Nat}{c:Cd}{m:Cm}(x:cG h n z p c m)(c':Cd)(a:Value)(C:c'.size=c.size)(A:c'.pk=c.pk)(y:c'.now=c.now)(v:c'.lens=c.lens)(g:c'.aZ=c.aZ)(r:Row h n 3 .i64 a (iN c'.took))(t:∀b,aJ a b->¬aJ m.pv b∧¬aJ m.lv b){B:Option AB}(l:B=some (mq c' {m with tv:=a})):cG (h.set z B) n z p c' {m with tv:=a} where
 get:=by rw[get_eq,l]
 lt:=x.lt
 pk:=by
  rw[A]
  exact x.pk.au (ah _) fun b d h2=>aw _ _ (by
   rcases h2 with rfl|h2
   ·exact Ne.symm x.zq
   ·exact(x.pv h2).1)
 de:=by
  rw[C,y,v]
  exact x.de.au (ah _) fun b d h2=>aw _ _ (by
   rcases h2 with rfl|h2
   ·exact Ne.symm x.zr
   ·exact(x.lv h2).1)
 took:=r.kG (ah _) fun b d=>aw _ _ (by
  obtain⟨B,u,h2⟩:=r.elem d
  exact(x.int u h2).1)
 nQ:=t
 mP:=x.mP
 cs:=x.cs.au (ah _) fun b d=>aw _ _ (x.cv d).1
 j5:=by rw[g];exact x.j5
 code:=by rw[g];intro i j;obtain⟨w,e,k,h2,s,f⟩:=x.code i j;exact⟨w,e,k.au fun b q o=>aw _ _ fun e=>f b q o (.inl e),h2,s,f⟩
structure pC (p z:Nat) (m:Cm):Prop where
 f:¬m.F z p
 t:¬aJ m.tv p
section
variable {Y d n z p:Nat} {h:H} {S:List UInt8} {D A:Nat} {c:Cd} {m:Cm}
def kI(c:Cd)(s:Pk):Cd:={c with pk:=s,took:=if s.fin=true then s.bu else c.took}
theorem ahp(x:aY h n p S D A)(y:cG h n z p c m)(O:pC p z m)(C:m.pw=false)(u6:c.pk.Ok)(K:c.pk.fin=false)(u7:100<=Y):
 af (fun b=>b=p∨m.F z b) n (aj aa gt Y (d+6) 253 #[jP z 0,jP p 0]) h n fun T h' n'=>
  match cX c.pk (ar S D A)with
  | .short=>T= .tuple #[.int .i64 (-1),.int .i64 3]∧aY h' n' p S D A∧cG h' n' z p c m
  | .bad e=>T= .tuple #[.int .i64 (-1),.int .i64 e]∧(∃B,aY h' n' p S D B)∧cG h' n' z p c {m with pw:=true}
  | .ok s u=>T= .tuple #[.int .i64 (-1),.int .i64 0]∧aY h' n' p S D (A+u)∧∃a U,cG h' n' z p (kI c s) {m with pv:=a,tv:=U}∧(∀b,aJ a b->aJ m.pv b∨n<=b)∧∀b,aJ U b->aJ m.tv b∨n<=b:=by
 obtain⟨bs,u0⟩:∃bs,ar S D A=bs:=⟨_,rfl⟩;have g:=y.get;have hz:=y.lt;unfold mq at g;have R:=y.pk;rw[C]at R;have u4:p≠m.q:=fun e=>O.f (.inr (.inl e));have u5:¬aJ m.pv p:=fun e=>O.f (.inr (.inr (.inr (.inl e))));have X:p≠z:=fun e=>O.f (.inl e)
 have hd:c.pk.count=0∨c.pk.bu.length<c.pk.count:=by
  by_cases h0:c.pk.count=0
  ·exact .inl h0
  ·refine .inr (LU (u6.len h0) fun e=> ?_);unfold Pk.fin at K;rw[e,decide_eq_true rfl,decide_eq_true (show 0<c.pk.count by omega)]at K;cases K
 rw[aC (fun _=>Vz) rfl,u0];refine af.aB ?_;unfold JF;refine jA @g ?_
 refine aN aE (aho (Y:=Y) (d:=d) x R u4 u5 hd (aP _) u7) (ah _) (fun b _ hb=> .inr (by
  rcases hb with hb|hb|hb
  ·exact .inl hb
  ·exact .inr (.inr (.inl hb))
  ·exact .inr (.inr (.inr (.inr (.inl hb)))))) fun v1 N J l u8 q=> ?_
 have L:m.F z z:= .inl rfl
 have P:∀b,b<n->b≠p->b≠m.q->¬aJ m.pv b->N.get b=h.get b:=fun b hb h2 h3 v=>u8 b hb (by
  rintro(e|e|e)
  ·exact h2 e
  ·exact h3 e
  ·exact v e)
 have nz:∀{b:Nat},¬m.F z b->b≠m.q∧¬aJ m.pv b:=fun hb=>⟨fun e=>hb (.inr (.inl e)),fun e=>hb (.inr (.inr (.inr (.inl e))))⟩;have g1:N.get z=_:=(P z hz (Ne.symm X) y.zq fun e=>(y.pv e).1 rfl).trans g;have u2:z<J:=jO
 have W:∀(s:Pk) (a:Value) (pw:Bool),gz N 0 J m.q s a pw->(∀b,aJ a b->aJ m.pv b∨n<=b)->cG N J z p {c with pk:=s} {m with pv:=a,pw:=pw}:=fun s a pw hp j=>
  {get:=g1
   lt:=u2
   pk:=hp
   de:=y.de.au l fun b hb h2=>by
    rcases h2 with rfl|h2
    ·exact P _ hb (fun e=>O.f (.inr (.inr (.inl e.symm)))) (Ne.symm y.qr) fun e=>(y.pv e).2.2.1 rfl
    ·exact P b hb (fun e=>O.f (.inr (.inr (.inr (.inr (.inl (e▸h2))))))) (y.lv h2).2.1 fun e=>y.mP b e h2
   took:=y.took.kG l fun b hb=>P b (y.took.lt hb) (fun e=>O.t (e▸hb)) (y.tv hb).2.1 (y.tv hb).2.2.2.2.1
   nQ:=fun b hb=>⟨fun e=>(j b e).elim (y.tv hb).2.2.2.2.1 fun e=>by have:=y.took.lt hb;omega,(y.tv hb).2.2.2.2.2⟩
   mP:=fun b hb=>(j b hb).elim (y.mP b) fun e h2=>by have:=(y.de.own.lt h2).2;omega
   cs:=y.cs.au l fun b hb=>P b (y.cs.lt hb).2 (fun e=>O.f (.inr (.inr (.inr (.inr (.inr (e▸hb))))))) (y.cv hb).2.1 fun e=>(y.pv e).2.2.2 hb
   j5:=y.j5
   code:=fun i hi=>by
    obtain⟨w,e,k,h2,h3,v⟩:=y.code i hi;refine⟨w,e,k.au fun b G E=>P b jO jO (nz (v b G E)).1 (nz (v b G E)).2,h2,jO,fun b G E h7=> ?_⟩;rcases h7 with h7|h7|h7|h7|h7|h7
    ·exact v b G E (.inl h7)
    ·exact v b G E (.inr (.inl h7))
    ·exact v b G E (.inr (.inr (.inl h7)))
    ·rcases j b h7 with h8|h8
     ·exact v b G E (.inr (.inr (.inr (.inl h8))))
     ·omega
    ·exact v b G E (.inr (.inr (.inr (.inr (.inl h7)))))
    ·exact v b G E (.inr (.inr (.inr (.inr (.inr h7)))))}
 have r:∀{s:Pk} {a:Value} {pw:Bool},gz N 0 J m.q s a pw->s.fin=false->af (fun _=>False) J (aj aa gt Y (d+5) 252 #[jP m.q 0]) N J fun T h' n'=>T= .bool false∧h'=N∧n'=J:=fun{s a pw} hp K=>by have:=DT (Y:=Y) (d:=d+4) hp;rw[show(decide (0<s.count)&&decide (s.bu.length=s.count))=false from K]at this;exact this
 unfold r7 at q;rw[u0]at q;split at q
 ·next e=>
  obtain⟨rfl,I,o⟩:=q;refine jA @g1 ?_;refine bz (r o K) l (fun _ _ h=>h.elim) ?_;refine jB ?_;try rw[e]
  have:=W c.pk m.pv false o fun b hb=> .inl hb;rw[<-C]at this;exact⟨I,this⟩
 ·next e0 e=>
  obtain⟨rfl,I,o⟩:=q;refine jA @g1 ?_;refine bz (r o K) l (fun _ _ h=>h.elim) ?_;refine jB ?_;try rw[e]
  first|exact⟨rfl,I,W c.pk m.pv true o fun b hb=> .inl hb⟩|exact⟨I,W c.pk m.pv true o fun b hb=> .inl hb⟩
 ·next s u e=>
  obtain⟨rfl,I,a,o,j⟩:=q;refine jA @g1 ?_;try rw[e]
  by_cases f:s.fin=true
  ·have dn:=DT (Y:=Y) (d:=d+4) o;rw[show(decide (0<s.count)&&decide (s.bu.length=s.count))=true from f]at dn;refine bz dn l (fun _ _ h=>h.elim) ?_;have t:=f;unfold Pk.fin at t;rw[bW,decide_eq_true_eq,decide_eq_true_eq]at t;have v0:=o.pA;refine jA @g1 ?_;refine aN aE (ahd (Y:=Y) (d:=d+3) o jO jO) l (fun _ _ h=>h.elim) fun v2 h2 n2 Z u1 u3=> ?_;have y2:=(W s a false o j).au Z fun b hb _=>u1 b hb id;have g2:=y2.get;unfold mq at g2;have v5:=y2.lt;obtain⟨r2,f2⟩:=u3;obtain⟨a2,c2,rfl⟩:=r2.len;refine jA (aI @g2 (aI @L (aI @true_or @or_true))) ?_;refine⟨(I.au Z (u1 p I.lt id)).au (ah _) (aw _ _ X),a,_, ?_,j,fun b hb=> .inr (by have:=f2 b hb;omega)⟩;unfold kI;rw[if_pos f];have:=y2.DU {c with pk:=s,took:=s.bu} (.slice a2 (iN s.bu).length c2) rfl rfl rfl rfl rfl r2 (fun b hb=>⟨fun e=>by have:=(o.own.lt e).2;have:=f2 b hb;omega,fun e=>by have:=(y.de.own.lt e).2;have:=f2 b hb;omega⟩) rfl;rw[<-C]at this;exact this
  ·have f:s.fin=false:=by simpa using f
   refine bz (r o f) l (fun _ _ h=>h.elim) ?_;refine jB ?_;have:=W s a false o j;refine⟨I,a,m.tv, ?_,j,fun b hb=> .inl hb⟩;unfold kI;rw[f,C];exact this
end
structure wG (size now:Nat) (lens:List Nat):Prop where
 now:now<=20
 len:lens.length<=size
 all:∀x∈lens,1<=x∧x<=20
theorem DV{size c:Nat}{a:List Nat}(k:wG size c a)(f:a.length<size){bs:List Bool}{m:Nat}{l:List Nat}{u:Nat}(h:cZ c a bs= .ok (m,l) u):wG size m l:=by
 have b:∀(z:Int) (w:Nat),jn z a w= .ok (m,l) u->wG size m l:=by
  intro z w d;unfold jn at d;split at d
  ·next hc=>simp only[St.ok.injEq,kT]at d;obtain⟨⟨rfl,rfl⟩,_⟩:=d;exact⟨jO,k.len,k.all⟩
  ·cases d
 unfold cZ at h;split at h
 ·split at h
  ·cases h
  ·exact b _ _ h
 ·next h0=>
  split at h
  ·cases h
  ·simp only[St.ok.injEq,kT]at h;obtain⟨⟨rfl,rfl⟩,_⟩:=h;refine⟨k.now,by simp;omega,fun x e=> ?_⟩;rcases List.mem_append.1 e with h1|h1
   ·exact k.all x h1
   ·simp only[sI]at h1;subst h1;have:=k.now;omega
  ·cases h
  ·exact b _ _ h
theorem Kp{d:Nat}{b:List Nat}{bs:List Bool}{e:Int}(h:cZ d b bs= .bad e):e=22:=by
 have a:∀(z:Int) (w:Nat),jn z b w= .bad e->e=22:=by
  intro z w c;unfold jn at c;split at c
  ·cases c
  ·cases c;rfl
 unfold cZ at h;split at h
 ·split at h
  ·cases h
  ·exact a _ _ h
 ·split at h
  ·cases h
  ·cases h
  ·cases h
  ·exact a _ _ h
theorem gJ.low{h:H}{lo n q size c:Nat}{lv:Value}{b:List Nat}{a:Bool}(x:gJ h lo n q size c lv b a):gJ h 0 n q size c lv b a:=⟨x.get,aP _,x.lt,x.own.low (aP _)⟩
def stepT(c:Cd)(bs:List Bool):St Cd:=
 match cZ c.now c.lens bs with
 | .short=> .short
 | .bad e=> .bad e
 | .ok (m,l) u=>if l.length=c.size then(if dM (iN l)=1048576 then .ok {c with now:=0,lens:=[],aZ:=c.aZ++[l]} u else .bad 22)else .ok {c with now:=m,lens:=l} u
section
variable {Y d n z p:Nat} {h:H} {S:List UInt8} {D A:Nat} {c:Cd} {m:Cm}
theorem ahq(x:aY h n p S D A)(y:cG h n z p c m)(J:pC p z m)(u8:m.dw=false)(u3:wG c.size c.now c.lens)(hl:c.lens.length<c.size)(w6:3<=c.size)(U:c.size<=258)(y1:c.aZ.length<=100)(u6:3000000<=Y):
 af (fun b=>b=p∨m.F z b) n (aj aa gt Y (d+8) 255 #[jP z 0,jP p 0]) h n fun v' h' n'=>
  match stepT c (ar S D A)with
  | .short=>v'= .tuple #[.int .i64 (-1),.int .i64 3]∧aY h' n' p S D A∧cG h' n' z p c m
  | .bad e=>v'= .tuple #[.int .i64 (-1),.int .i64 e]∧(∃B,aY h' n' p S D B)∧∃c' v,cG h' n' z p c' v∧c'={c with now:=c'.now,lens:=c'.lens}∧v={m with lv:=v.lv,dw:=v.dw}∧(∀b,v.F z b->m.F z b∨n<=b)∧pC p z v
  | .ok c' u=>v'= .tuple #[.int .i64 (-1),.int .i64 0]∧aY h' n' p S D (A+u)∧∃v,cG h' n' z p c' v∧v.pw=m.pw∧v.dw=false∧v.tv=m.tv∧(∀b,v.F z b->m.F z b∨n<=b)∧pC p z v∧∀y∈v.iv,y∈m.iv∨n<=y.1:=by
 obtain⟨bs,u9⟩:∃bs,ar S D A=bs:=⟨_,rfl⟩;have g:=y.get;have hz:=y.lt;unfold mq at g;have u1:=y.de;rw[u8]at u1;have w1:p≠m.r:=fun e=>J.f (.inr (.inr (.inl e)));have w2:¬aJ m.lv p:=fun e=>J.f (.inr (.inr (.inr (.inr (.inl e)))));have u0:p≠z:=fun e=>J.f (.inl e);have x8:=x.lt;have z0:((0:Int) !=0)=false:=rfl;have z3:((3:Int) !=0)=true:=rfl;rw[aC (fun _=>VB) rfl,u9];refine af.aB ?_;unfold JH stepT;refine jA @g ?_
 refine aN aE (ag3 (Y:=Y) (d:=d+2) x u1 w1 w2 u3.now hl U (aP _) jO) (ah _) (fun b _ hb=> .inr (by
  rcases hb with hb|hb|hb
  ·exact .inl hb
  ·exact .inr (.inr (.inr (.inl hb)))
  ·exact .inr (.inr (.inr (.inr (.inr (.inl hb))))))) fun v1 h1 n1 L w7 E=> ?_
 have G:∀b,b<n->b≠p->b≠m.r->¬aJ m.lv b->h1.get b=h.get b:=fun b hb h2 h3 I=>w7 b hb (by
  rintro(e|e|e)
  ·exact h2 e
  ·exact h3 e
  ·exact I e)
 have nz:∀{b:Nat},¬m.F z b->b≠m.r∧¬aJ m.lv b:=fun hb=>⟨fun e=>hb (.inr (.inr (.inl e))),fun e=>hb (.inr (.inr (.inr (.inr (.inl e)))))⟩;have g1:h1.get z=_:=(G z hz (Ne.symm u0) y.zr fun e=>(y.lv e).1 rfl).trans g;have v9:z<n1:=jO
 have mk:∀(wH:Nat) (t:List Nat) (a:Value) (dw:Bool),gJ h1 0 n1 m.r c.size wH a t dw->(∀b,aJ a b->aJ m.lv b∨n<=b)->cG h1 n1 z p {c with now:=wH,lens:=t} {m with lv:=a,dw:=dw}:=fun wH t a dw hp f=>
  {get:=g1
   lt:=v9
   pk:=y.pk.au L fun b hb h2=>by
    rcases h2 with rfl|h2
    ·exact G _ hb (fun e=>J.f (.inr (.inl e.symm))) y.qr fun e=>(y.lv e).2.1 rfl
    ·exact G b hb (fun e=>J.f (.inr (.inr (.inr (.inl (e▸h2)))))) (y.pv h2).2.2.1 (y.mP b h2)
   de:=hp
   took:=y.took.kG L fun b hb=>G b (y.took.lt hb) (fun e=>J.t (e▸hb)) (y.tv hb).2.2.1 (y.tv hb).2.2.2.2.2
   nQ:=fun b hb=>⟨(y.tv hb).2.2.2.2.1,fun e=>(f b e).elim (y.tv hb).2.2.2.2.2 fun e=>by have:=y.took.lt hb;omega⟩
   mP:=fun b hb h2=>(f b h2).elim (y.mP b hb) fun e=>by have:=(y.pk.own.lt hb).2;omega
   cs:=y.cs.au L fun b hb=>G b (y.cs.lt hb).2 (fun e=>J.f (.inr (.inr (.inr (.inr (.inr (e▸hb))))))) (y.cv hb).2.2 fun e=>(y.lv e).2.2.2 hb
   j5:=y.j5
   code:=fun i hi=>by
    obtain⟨w,e,k,h2,h3,I⟩:=y.code i hi;refine⟨w,e,k.au fun b Q C=>G b jO jO (nz (I b Q C)).1 (nz (I b Q C)).2,h2,jO,fun b Q C h7=> ?_⟩;rcases h7 with h7|h7|h7|h7|h7|h7
    ·exact I b Q C (.inl h7)
    ·exact I b Q C (.inr (.inl h7))
    ·exact I b Q C (.inr (.inr (.inl h7)))
    ·exact I b Q C (.inr (.inr (.inr (.inl h7))))
    ·rcases f b h7 with h8|h8
     ·exact I b Q C (.inr (.inr (.inr (.inr (.inl h8)))))
     ·omega
    ·exact I b Q C (.inr (.inr (.inr (.inr (.inr h7)))))}
 have fm:∀(a:Value) (dw:Bool),(∀b,aJ a b->aJ m.lv b∨n<=b)->(∀b,({m with lv:=a,dw:=dw}:Cm).F z b->m.F z b∨n<=b)∧pC p z {m with lv:=a,dw:=dw}:=by
  intro a dw f
  have k:∀b,({m with lv:=a,dw:=dw}:Cm).F z b->m.F z b∨n<=b:=by
   intro b h7;rcases h7 with h7|h7|h7|h7|h7|h7
   ·exact .inl (.inl h7)
   ·exact .inl (.inr (.inl h7))
   ·exact .inl (.inr (.inr (.inl h7)))
   ·exact .inl (.inr (.inr (.inr (.inl h7))))
   ·exact(f b h7).imp (fun h8=> .inr (.inr (.inr (.inr (.inl h8))))) id
   ·exact .inl (.inr (.inr (.inr (.inr (.inr h7)))))
  exact⟨k,⟨fun e=>(k p e).elim J.f fun e=>by omega,J.t⟩⟩
 unfold wE at E;rw[u9]at E;split at E
 ·next e=>
  obtain⟨rfl,X,T⟩:=E;refine jA @z3 ?_;try rw[e]
  have:=mk c.now c.lens m.lv false T fun b hb=> .inl hb;rw[<-u8]at this;exact⟨X,this⟩
 ·next e0 e=>
  obtain⟨rfl,X,T⟩:=E
  have w5:(e0 !=0)=true:=by rw[Kp e];rfl
  refine jA @w5 ?_;try rw[e]
  exact⟨rfl,X,_,_,mk c.now c.lens m.lv true T (fun b hb=> .inl hb),rfl,rfl,fm m.lv true fun b hb=> .inl hb⟩
 ·next wH t u e=>
  obtain⟨rfl,X,a,T,f⟩:=E;have u2:=DV u3 hl e;refine jA (aI @z0 @g1) ?_;refine bz (Xk (Y:=Y) (d:=d+6) T) L (fun _ _ h=>h.elim) ?_;try rw[e]
  by_cases j:t.length=c.size
  ·rw[decide_eq_true j];refine jA (aI @eK @g1) ?_;refine aN aE (ag0 (Y:=Y) (d:=d+5) T jO jO) L (fun _ _ h=>h.elim) fun v2 h2 P u4 v0 r2=> ?_;have W:=(mk wH t a false T f).au u4 fun b hb _=>v0 b hb id;have x2:=X.au u4 (v0 p X.lt id);have y0:=fa t;by_cases hs:dM (iN t)=1048576
   ·refine aN aE (agV Y d P h2 u6 v2 t r2 jO jO (wC u2.all hs) hs) jO (fun _ _ h=>h.elim) fun v3 h3 o K O Z=> ?_;obtain⟨c3,rfl,k3⟩:=Z;have s:=W.au K fun b hb _=>O b hb id;have x3:=x2.au K (O p x2.lt id);have g3:=s.get;unfold mq at g3;have v8:=s.lt;refine jA (aI @bI (aI @ext1 (aI @z0 @g3))) ?_;refine rX trivial (acK _) s.cs (by have h9:m.iv.length=c.aZ.length:=s.j5;show(m.iv.map _).length+1<=_;rw[fQ];omega) (fun b hb=> .inr (.inr (.inr (.inr (.inr (.inr (.inr hb))))))) _ fun I g4 k4=> ?_;have g5:I.get z=_:=(k4 z v8 fun e=>(s.cv e).1 rfl).trans g3;have v7:z<o+2:=jO;have N:m.F z z:= .inl rfl;refine jA (aI @g5 (aI @N (aI @true_or @or_true))) ?_;refine aN aE (Xj (Y:=Y) (d:=d+5) w6 U) jO (fun _ _ h=>h.elim) fun v6 C n6 x9 R w0=> ?_;obtain⟨rfl,rfl,w9⟩:=w0;have g6:C.get z=_:=(R z v7 id).trans (get_eq _ _ _);have x7:z<o+2+1:=jO;refine jA (aI @bI (aI @ext1 (aI @g6 (aI @N (aI @true_or @or_true))))) ?_;rw[if_pos j,if_pos hs]
    have G:∀(B:Option AB) b,b<o->b≠z->¬aJ m.cv b->(C.set z B).get b=h3.get b:=fun B b hb h7 h8=>by rw[aw _ _ h7,R b jO id,aw _ _ h7,k4 b hb h8]
    have x4:∀{b:Nat},aJ m.cv b->b<o:=fun hb=>(s.cs.lt hb).2;have u5:m.iv.length=c.aZ.length:=s.j5
    have v5:∀B:AB,B=mq {c with now:=0,lens:=[],aZ:=c.aZ++[t]} {m with r:=o+2,lv:= .slice none 0 0,cv:= .slice (some ⟨o+1,0,none⟩) ((m.iv.map fun x=>jP x.2.2 0).length+1) (bh+((m.iv.map fun x=>jP x.2.2 0).length+1)),dw:=false,iv:=m.iv++[(P,o,c3)]}->
     cG (C.set z (some B)) (o+2+1) z p {c with now:=0,lens:=[],aZ:=c.aZ++[t]} {m with r:=o+2,lv:= .slice none 0 0,cv:= .slice (some ⟨o+1,0,none⟩) ((m.iv.map fun x=>jP x.2.2 0).length+1) (bh+((m.iv.map fun x=>jP x.2.2 0).length+1)),dw:=false,iv:=m.iv++[(P,o,c3)]}:=fun B hB=>
     {get:=by rw[get_eq,hB]
      lt:=jO
      pk:=s.pk.au jO fun b hb h7=>by
       rcases h7 with rfl|h7
       ·exact G _ _ hb (Ne.symm s.zq) fun e=>(s.cv e).2.1 rfl
       ·exact G _ b hb (s.pv h7).1 (s.pv h7).2.2.2
      de:=(w9.low).au (ah _) fun b hb h7=>aw _ _ (by
       rcases h7 with rfl|h7
       ·omega
       ·obtain⟨_,_,_,h7⟩:=h7;cases h7)
      took:=s.took.kG jO fun b hb=>G _ b (s.took.lt hb) (s.tv hb).1 (s.tv hb).2.2.2.1
      nQ:=fun b hb=>⟨(s.tv hb).2.2.2.2.1,fun e=>by obtain⟨_,_,_,e⟩:=e;cases e⟩
      mP:=fun b hb e=>by obtain⟨_,_,_,e⟩:=e;cases e
      cs:=by
       refine .inr ⟨o+1, ?_, ?_,jO,jO⟩
       ·simp
       ·rw[aw _ _ jO,R _ jO id,aw _ _ jO,g4,List.map_append];rfl
      j5:=by simp[u5]
      code:=fun i hi=>by
       have hi:i<c.aZ.length+1:=by simpa using hi
       by_cases u7:i<c.aZ.length
       ·obtain⟨w,e,k,h7,h8,h9⟩:=s.code i u7;refine⟨w,by rw[sH jO];exact e, ?_,h7,jO,fun b q l dp=> ?_⟩
        ·have:(c.aZ++[t]).getD i []=c.aZ.getD i []:=by rw[DF,if_pos u7]
         show pq _ _ _ _ ((c.aZ++[t]).getD i []);rw[this];exact k.au fun b q l=>G _ b jO (fun e=>h9 b q l (.inl e)) fun e=>h9 b q l (.inr (.inr (.inr (.inr (.inr e)))))
        ·rcases dp with dp|dp|dp|dp|dp|dp
         ·exact h9 b q l (.inl dp)
         ·exact h9 b q l (.inr (.inl dp))
         ·have:b=o+2:=dp;omega
         ·exact h9 b q l (.inr (.inr (.inr (.inl dp))))
         ·obtain⟨_,_,_,e⟩:=dp;cases e
         ·have:=dp.inj;omega
       ·have w4:i=c.aZ.length:=jO;subst w4;refine⟨(P,o,c3),by rw[<-u5,qM (ah _),sM];rfl, ?_,x2.lt,by show o<=_;omega,fun b q l dp=> ?_⟩
        ·have:(c.aZ++[t]).getD c.aZ.length []=t:=by rw[DF,if_neg jO,if_pos rfl]
         show pq _ _ _ _ ((c.aZ++[t]).getD c.aZ.length []);rw[this];refine k3.au fun b q l=>G _ b l (fun e=>by have:=W.lt;omega) fun e=> ?_;have:=(W.cs.lt e).2;omega
        ·have q:P<=b:=q;have l:b<o:=l;rcases dp with dp|dp|dp|dp|dp|dp
         ·have:=W.lt;omega
         ·have dp:b=m.q:=dp;have:=W.pk.lt;have y2:m.q<P:=this;omega
         ·have:b=o+2:=dp;omega
         ·have:=(W.pk.own.lt dp).2;omega
         ·obtain⟨_,_,_,e⟩:=dp;cases e
         ·have:=dp.inj
          omega}
    have fk:∀b,({m with r:=o+2,lv:= .slice none 0 0,cv:= .slice (some ⟨o+1,0,none⟩) ((m.iv.map fun x=>jP x.2.2 0).length+1) (bh+((m.iv.map fun x=>jP x.2.2 0).length+1)),dw:=false,iv:=m.iv++[(P,o,c3)]}:Cm).F z b->m.F z b∨n<=b:=by
     intro b dp;rcases dp with dp|dp|dp|dp|dp|dp
     ·exact .inl (.inl dp)
     ·exact .inl (.inr (.inl dp))
     ·have:b=o+2:=dp;exact .inr jO
     ·exact .inl (.inr (.inr (.inr (.inl dp))))
     ·obtain⟨_,_,_,e⟩:=dp;cases e
     ·have:=dp.inj;exact .inr jO
    refine⟨(x3.au jO ((R p (by have:=x3.lt;omega) id).trans ((aw _ _ u0).trans (k4 p x3.lt fun e=>J.f (.inr (.inr (.inr (.inr (.inr e)))))))):aY C _ p S D (A+u)).au (ah _) (aw _ _ u0),_,v5 _ rfl,rfl,rfl,rfl,fk,⟨fun e=>(fk p e).elim J.f fun e=>by omega,J.t⟩,fun y hy=>by
     rcases List.mem_append.1 hy with hy|hy
     ·exact .inl hy
     ·simp only[sI]at hy;subst hy
      exact .inr (by show n<=P;omega)⟩
   ·refine aN aE (agU Y d P h2 u6 v2 (iN t) r2 jO jO (wv.2 fun x hx=>by
     obtain⟨w,hw,rfl⟩:=List.mem_map.1 hx;have:=u2.all w hw
     omega) hs) jO (fun _ _ h=>h.elim) fun v3 h3 o K O Z=> ?_
    subst Z;have v4:((22:Int) !=0)=true:=rfl;refine jA (aI @bI (aI @ext1 @v4)) ?_;rw[if_pos j,if_neg hs];exact⟨rfl,⟨_,x2.au K (O p x2.lt id)⟩,_,_,W.au K fun b hb _=>O b hb id,rfl,rfl,fm a false f⟩
  ·rw[decide_eq_false j];refine jA @cx ?_;rw[if_neg j];exact⟨X,_,mk wH t a false T f,rfl,rfl,rfl,(fm a false f).1,(fm a false f).2,fun y hy=> .inl hy⟩
end
def iM(c:Cd)(bs:List Bool):St (Nat×Cd):=
 if c.took.length<=c.count/50 then .bad 25 else
 match fC (c.aZ.getD (c.took.getD (c.count/50) 0) []) bs with
 |none=> .short
 |some s=> .ok (s,{c with count:=c.count+1,done:=decide (s+1=c.size)}) ((c.aZ.getD (c.took.getD (c.count/50) 0) []).getD s 0)
section
variable {Y d n z p:Nat} {h:H} {S:List UInt8} {D A:Nat} {c:Cd} {m:Cm}
theorem ahr(x:aY h n p S D A)(y:cG h n z p c m)(ap:pC p z m)(ht:∀v∈c.took,v<c.aZ.length)(hw:∀l∈c.aZ,Wh l∧l.length=c.size)(u5:c.size<=258)(hc:c.count<=1000000000000000)(u1:100<=Y):
 af (fun b=>b=p∨m.F z b) n (aj aa gt Y (d+6) 251 #[jP z 0,jP p 0]) h n fun R h' n'=>
  match iM c (ar S D A)with
  | .short=>R= .tuple #[.int .i64 (-1),.int .i64 3]∧aY h' n' p S D A∧cG h' n' z p c m
  | .bad e=>R= .tuple #[.int .i64 (-1),.int .i64 e]∧aY h' n' p S D A∧cG h' n' z p c m
  | .ok (s,c') u=>R= .tuple #[.int .i64 (s:Int),.int .i64 0]∧aY h' n' p S D (A+u)∧cG h' n' z p c' m:=by
 have g:=y.get;have hz:=y.lt;unfold mq at g;have K:p≠z:=fun e=>ap.f (.inl e);have u9:=x.lt;have z0:((0:Int) !=0)=false:=rfl;have z3:((3:Int) !=0)=true:=rfl;have N:((c.count:Nat):Int).tdiv 50=((c.count/50:Nat):Int):=rfl;have lt:=fa c.took;rw[aC (fun _=>Vx) rfl];refine af.aB ?_;unfold JD iM;by_cases E:c.took.length<=c.count/50
 ·rw[if_pos E];obtain⟨a,cc,j⟩:=y.took.len;rw[j]at g;have c1:((((iN c.took).length:Nat)):Int)<=((c.count/50:Nat):Int):=jO;refine jA (aI @g (aI @N @c1)) ?_;exact⟨x,y⟩
 ·rw[if_neg E];obtain⟨b,T,cap,o,ks,j,hg,v3,hv⟩:=y.took.some jO;have c1:¬((((iN c.took).length:Nat)):Int)<=((c.count/50:Nat):Int):=jO;rw[j]at g;obtain⟨f,i⟩:∃t,c.took.getD (c.count/50) 0=t:=⟨_,rfl⟩
  have X:ks[T+c.count/50]? =some (jI (f:Int)):=by rw[hv.2.2.2 _ jO,po,i]
  have J:f<c.aZ.length:=by refine ht f ?_;rw[<-i,bw,bA jO];exact dH _
  obtain⟨w,W,kc,Z,U,u7⟩:=y.code f J;have v2:=y.j5
  obtain⟨G,u3,u2,v4⟩:∃G,m.cv= .slice (some ⟨G,0,none⟩) m.iv.length (bh+m.iv.length)∧h.get G=some ⟨329,true,m.iv.map fun x=>jP x.2.2 0⟩∧G<n:=by
   rcases y.cs with ⟨_,e⟩|⟨G,O,h2,_,h4⟩
   ·have:m.iv.length=0:=by rw[ani]at e;rw[e];rfl
    omega
   ·rw[fQ]at O;exact⟨G,O,h2,h4⟩
  rw[u3]at g
  have B:(m.iv.map fun x=>jP x.2.2 0)[f]? =some (jP w.2.2 0):=by rw[iW,W];rfl
  have u8:(f:Int)<((m.iv.length:Nat):Int):=jO
  have L:c.aZ.getD f []∈c.aZ:=by rw[bw,bA J];exact dH _
  have I:=hw _ L;rw[i];obtain⟨ln,u0⟩:∃l,c.aZ.getD f []=l:=⟨_,rfl⟩;rw[u0]at kc I⊢;refine jA (aI @g (aI @N (aI @c1 (aI @hg (aI @X (aI @u2 @B)))))) ?_;refine aN aE (agX (Y:=Y) (d:=d) x kc I.1 U Z jO u1) (ah _) (fun b _ E=> .inr (.inl E)) fun v1 O n1 v0 u4 k=> ?_;obtain⟨rfl,k⟩:=k
  have C:cG O n1 z p c m:=y.au (ah _) fun b E h7=>u4 b E (by
   rcases h7 with h7|h7|⟨y',h7,h8,h9⟩
   ·exact fun e=>ap.f (e▸h7)
   ·exact fun e=>ap.t (e▸h7)
   ·have:=(y.iv h7).1
    omega)
  have g1:=C.get;unfold mq at g1;have u6:=C.lt;have r:m.F z z:= .inl rfl;rcases k with ⟨e,rfl,Q⟩|⟨s,e,rfl,Q⟩
  ·refine jA (aI @bI (aI @ext1 @z3)) ?_;rw[e];exact⟨Q,C⟩
  ·have w1:IntKind.i64.wrap ((c.count:Int)+1)=((c.count+1:Nat):Int):=by rw[aH jO jO];omega
   have w2:IntKind.i64.wrap ((c.size:Int)-1)=(c.size:Int)-1:=aH jO jO
   have e2:(((s:Nat):Int)==(c.size:Int)-1)=decide (s+1=c.size):=by
    by_cases q:s+1=c.size
    ·rw[decide_eq_true q];exact beq_iff_eq.2 jO
    ·rw[decide_eq_false q];exact beq_eq_false_iff_ne.2 jO
   refine jA (aI @bI (aI @ext1 (aI @z0 (aI @g1 (aI @r (aI @w1 (aI @w2 @e2))))))) ?_;rw[e];have P:=C.DU {c with count:=c.count+1} m.tv rfl rfl rfl rfl rfl C.took C.nQ rfl;have y3:=P.DU {c with count:=c.count+1,done:=decide (s+1=c.size)} m.tv rfl rfl rfl rfl rfl P.took P.nQ rfl;exact⟨rfl,(Q.au (ah _) (aw _ _ K)).au (ah _) (aw _ _ K),y3⟩
end
theorem zF:∀{r o:Nat} {bs:List Bool} {a u:Nat},fj r o bs= .ok a u->o<=a∧a<o+r
 |0,_,_,_,_,h=>by simp[fj]at h
 |_+1,_,[],_,_,h=>by simp[fj]at h
 |r+1,o,false::_,_,_,h=>by simp only[fj,St.ok.injEq]at h;omega
 |r+1,o,true::bs,_,_,h=>by have:=zF (r:=r) (o:=o+1) (bs:=bs) h;omega
theorem Xt:∀{r o:Nat} {bs:List Bool} {e:Int},fj r o bs= .bad e->e=25
 |0,_,_,_,h=>by simp only[fj,St.bad.injEq]at h;exact h.symm
 |_+1,_,[],_,h=>by simp[fj]at h
 |r+1,o,false::_,_,h=>by simp[fj]at h
 |r+1,o,true::bs,_,h=>Xt (r:=r) (o:=o+1) (bs:=bs) h
theorem ahs{a:Type}(d:a){O:List a}{i:Nat}(b:i<O.length)(j:Nat):(c6 d O i).getD j d=if j=0 then O.getD i d else if j<=i then O.getD (j-1) d else O.getD j d:=by
 unfold c6;cases j with
 |zero=>rfl
 |succ j=>
  rw[if_neg jO];show(O.take i++O.drop (i+1)).getD j d=_;simp only[bw,Nat.add_sub_cancel];by_cases h:j+1<=i
  ·rw[if_pos h,sH (by rw[cO];omega),List.getElem?_take,if_pos jO]
  ·rw[if_neg h,qM (by rw[cO];omega),cO,List.getElem?_drop,show i+1+(j-min i O.length)=j+1 by omega]
theorem Xu{j:Nat}(h:j<6):pB.getD j 0=j:=by rcases j with _|_|_|_|_|_|j<;>first|rfl|omega
theorem Xv{s:Pk}{bs:List Bool}{e:Int}(h:cX s bs= .bad e):e=25:=by
 unfold cX at h;split at h
 ·split at h
  ·cases h
  ·split at h
   ·cases h
   ·cases h;rfl
 ·split at h
  ·cases h
  ·next e' a=>cases h;exact Xt a
  ·cases h
theorem Kq{s g:Pk}{bs:List Bool}{u:Nat}(k:s.Ok)(y:s.t<=6)(v:s.ord.length=6)(f:s.fin=false)(h:cX s bs= .ok g u):g.Ok∧0<u∧u<=bs.length:=by
 unfold cX at h;split at h
 ·next h0=>
  split at h
  ·cases h
  ·split at h
   ·next hb i=>
    simp only[St.ok.injEq]at h;obtain⟨rfl,rfl⟩:=h;obtain⟨c,p⟩:=k.new h0;refine⟨⟨fun e=>absurd e i.2,fun j a=> ?_,fun x hx=> ?_,fun _=> ?_,fun _=>i.1.1⟩,jO,jO⟩
    ·show s.ord.getD j 0<_;rw[p,Xu (by have:j<num (bs.take 18) 0/32768:=a;omega)];exact a
    ·have hx:x∈s.bu:=hx;rw[c]at hx;cases hx
    ·show s.bu.length<=_;rw[c];exact aP _
   ·cases h
 ·next h0=>
  split at h
  ·cases h
  ·cases h
  ·next o q c=>
   simp only[St.ok.injEq]at h;obtain⟨rfl,rfl⟩:=h;have t:=(zF c).2
   have n:s.bu.length<s.count:=by have:=k.len h0;refine LU this fun e=> ?_;unfold Pk.fin at f;rw[e,decide_eq_true rfl,decide_eq_true (show 0<s.count by omega)]at f;cases f
   have m:∀{r o:Nat} {bs:List Bool} {d u:Nat},fj r o bs= .ok d u->u=d+1∧u<=o+bs.length:=by
    intro r
    induction r with
    |zero=>intro o bs d u h;simp[fj]at h
    |succ r l=>
     intro o bs d u h;cases bs with
     |nil=>simp[fj]at h
     |cons b bs=>
      cases b with
      |false=>simp only[fj,St.ok.injEq]at h;simp only[cK];omega
      |true=>have:=l (o:=o+1) (bs:=bs) h;simp only[cK];omega
   have:=m c;refine⟨⟨fun e=>absurd e h0,fun j a=> ?_,fun x hx=> ?_,fun _=> ?_,fun e=>k.two e⟩,jO,jO⟩
   ·show(c6 0 s.ord o).getD j 0<s.t;have a:j<s.t:=a;rw[ahs 0 jO];split
    ·exact k.ord o jO
    ·split
     ·exact k.ord _ jO
     ·exact k.ord j a
   ·rcases List.mem_append.1 hx with hx|hx
    ·exact k.bu x hx
    ·simp only[sI]at hx;rw[hx];exact k.ord o jO
   ·show(s.bu++[_]).length<=s.count;simp;omega
structure gU (c:Cd):Prop where
 pk:c.pk.Ok
 fU:c.pk.t<=6
 ol:c.pk.ord.length=6
 nt:c.pk.fin=false->c.aZ=[]∧c.took=[]
 tk:c.pk.fin=true->c.took=c.pk.bu
 cl:c.aZ.length<=c.pk.t
 ln:wG c.size c.now c.lens
 ll:c.lens.length<c.size
 wh:∀l∈c.aZ,Wh l∧l.length=c.size
 lo:3<=c.size
 hi:c.size<=258
 wr:c.dF=0
 dn:c.done=false
def dU(c:Cd)(bs:List Bool):St (Int×Cd):=
 if c.pk.fin=false then match cX c.pk bs with
  | .short=> .short
  | .bad e=> .bad e
  | .ok s u=> .ok (-1,kI c s) u
 else if c.aZ.length<c.pk.t then match stepT c bs with
  | .short=> .short
  | .bad e=> .bad e
  | .ok a u=> .ok (-1,a) u
 else match iM c bs with
  | .short=> .short
  | .bad e=> .bad e
  | .ok (s,a) u=> .ok ((s:Int),a) u
theorem DW{d:Nat}{b:List Nat}{bs:List Bool}{m:Nat}{l:List Nat}{u:Nat}(h:cZ d b bs= .ok (m,l) u):0<u∧u<=bs.length:=by
 have a:∀(z:Int) (w:Nat),jn z b w= .ok (m,l) u->u=w:=by
  intro z w c;unfold jn at c;split at c
  ·simp only[St.ok.injEq]at c;exact c.2.symm
  ·cases c
 unfold cZ at h;split at h
 ·split at h
  ·cases h
  ·have:=a _ _ h;omega
 ·split at h
  ·cases h
  ·simp only[St.ok.injEq]at h;simp only[cK];omega
  ·cases h
  ·have:=a _ _ h;simp only[cK];omega
theorem Kr{c c':Cd}{bs:List Bool}{u:Nat}(k:gU c)(g:c.aZ.length<c.pk.t)(fin:c.pk.fin=true)(h:stepT c bs= .ok c' u):gU c'∧c'.count=c.count∧0<u∧u<=bs.length:=by
 unfold stepT at h;split at h
 ·cases h
 ·cases h
 ·next m l f b=>
  have ok:=DV k.ln k.ll b;have a:=DW b;split at h
  ·next hl=>
   split at h
   ·next hs=>
    simp only[St.ok.injEq]at h;obtain⟨rfl,rfl⟩:=h;refine⟨⟨k.pk,k.fU,k.ol,fun e=>absurd fin (by rw[show c.pk.fin=false from e];decide),k.tk,by simp;omega,⟨aP _,aP _,fun x d=>absurd d jS⟩,by have:=k.lo;show 0<c.size;omega,fun w hw=> ?_,k.lo,k.hi,k.wr,k.dn⟩,rfl,a.1,a.2⟩;rcases List.mem_append.1 hw with hw|hw
    ·exact k.wh w hw
    ·simp only[sI]at hw;subst hw;exact⟨wC ok.all hs,hl⟩
   ·cases h
  ·next hl=>simp only[St.ok.injEq]at h;obtain⟨rfl,rfl⟩:=h;exact⟨⟨k.pk,k.fU,k.ol,k.nt,k.tk,k.cl,ok,LU ok.len hl,k.wh,k.lo,k.hi,k.wr,k.dn⟩,rfl,a.1,a.2⟩
theorem DX{c:Cd}(k:gU c)(fin:c.pk.fin=true)(b:¬c.aZ.length<c.pk.t):∀v∈c.took,v<c.aZ.length:=fun v a=>by rw[k.tk fin]at a;have:=k.pk.bu v a;omega
theorem wI{c c':Cd}{bs:List Bool}{sym:Int}{u:Nat}(k:gU c)(h:dU c bs= .ok (sym,c') u):(c'.done=false->gU c')∧c'.count<=c.count+1∧0<u∧u<=bs.length:=by
 unfold dU at h;split at h
 ·next hf=>
  split at h
  ·cases h
  ·cases h
  ·next s r a=>
   simp only[St.ok.injEq,kT]at h;obtain⟨⟨rfl,rfl⟩,rfl⟩:=h;obtain⟨i,d,g⟩:=Kq k.pk k.fU k.ol hf a;obtain⟨l,m⟩:=k.nt hf;refine⟨fun _=>⟨i, ?_, ?_,fun e=>⟨l, ?_⟩,fun e=> ?_, ?_,k.ln,k.ll,k.wh,k.lo,k.hi,k.wr,k.dn⟩,eL _,d,g⟩
   ·show s.t<=6;unfold cX at a;split at a
    ·split at a
     ·cases a
     ·split at a
      ·next hc=>simp only[St.ok.injEq]at a;obtain⟨rfl,_⟩:=a;exact hc.1.2
      ·cases a
    ·split at a
     ·cases a
     ·cases a
     ·simp only[St.ok.injEq]at a;obtain⟨rfl,_⟩:=a;exact k.fU
   ·show s.ord.length=6;unfold cX at a;split at a
    ·split at a
     ·cases a
     ·split at a
      ·simp only[St.ok.injEq]at a;obtain⟨rfl,_⟩:=a;exact k.ol
      ·cases a
    ·split at a
     ·cases a
     ·cases a
     ·next o j q=>simp only[St.ok.injEq]at a;obtain⟨rfl,_⟩:=a;have:=(zF q).2;have:=k.fU;exact wF (dv:=0) k.ol jO
   ·have e:s.fin=false:=e;show(if s.fin=true then s.bu else c.took)=[];rw[e];exact m
   ·have e:s.fin=true:=e;show(if s.fin=true then s.bu else c.took)=s.bu;rw[if_pos e]
   ·show c.aZ.length<=s.t;rw[l];exact aP _
 ·next hf=>
  have fin:c.pk.fin=true:=by simpa using hf
  split at h
  ·next ht=>
   split at h
   ·cases h
   ·cases h
   ·next c2 j a=>simp only[St.ok.injEq,kT]at h;obtain⟨⟨rfl,rfl⟩,rfl⟩:=h;obtain⟨i,d,g⟩:=Kr k ht fin a;exact⟨fun _=>i,jO,g⟩
  ·next ht=>
   split at h
   ·cases h
   ·cases h
   ·next s c2 j a=>
    simp only[St.ok.injEq,kT]at h;obtain⟨⟨rfl,rfl⟩,rfl⟩:=h;unfold iM at a;split at a
    ·cases a
    ·next hb=>
     split at a
     ·cases a
     ·next s' d=>
      simp only[St.ok.injEq,kT]at a;obtain⟨⟨rfl,rfl⟩,rfl⟩:=a;obtain⟨p,n,t⟩:=pj d
      have b:c.aZ.getD (c.took.getD (c.count/50) 0) []∈c.aZ:=by
       have f:c.took.getD (c.count/50) 0<c.aZ.length:=by refine DX k fin ht _ ?_;rw[bw,bA jO];exact dH _
       rw[bw,bA f];exact dH _
      have:=((k.wh _ b).1.at p).1;exact⟨fun hd=>⟨k.pk,k.fU,k.ol,k.nt,k.tk,k.cl,k.ln,k.ll,k.wh,k.lo,k.hi,k.wr,hd⟩,ah _,jO,n⟩
theorem DY{c:Cd}{bs:List Bool}{e:Int}(h:dU c bs= .bad e):e=22∨e=25:=by
 unfold dU at h;split at h
 ·split at h
  ·cases h
  ·next h1=>cases h;exact .inr (Xv h1)
  ·cases h
 ·split at h
  ·split at h
   ·cases h
   ·next h1=>
    cases h;unfold stepT at h1;split at h1
    ·cases h1
    ·next h2=>cases h1;exact .inl (Kp h2)
    ·split at h1
     ·split at h1
      ·cases h1
      ·cases h1;exact .inl rfl
     ·cases h1
   ·cases h
  ·split at h
   ·cases h
   ·next h1=>
    cases h;unfold iM at h1;split at h1
    ·cases h1;exact .inr rfl
    ·split at h1
     ·cases h1
     ·cases h1
   ·cases h
theorem Ks{b:Type}{rec:FuncId->Array Value->M Value}{f:FuncId}(c:ni aa f=true)(r a:Value)(k:Value->M b):ku aa rec (.func (.func f) #[r] #[]) [a] k=ai rec f [r,a] k:=by unfold ku;show bf (some _) _=_;rw[tq];simp only[c];exact(lK _ _).symm
section
variable {Y d n z p:Nat} {h:H} {S:List UInt8} {D A:Nat} {c:Cd} {m:Cm}
def Kt(h:H)(n p:Nat)(S:List UInt8)(D A z:Nat)(c:Cd)(m:Cm)(f:Value)(h':H)(n':Nat):Prop:=
 match dU c (ar S D A)with
 | .short=>f= .tuple #[.int .i64 0,.int .i64 3]∧aY h' n' p S D A∧cG h' n' z p c m
 | .bad e=>f= .tuple #[.int .i64 0,.int .i64 e]∧(∃B,aY h' n' p S D B)∧∃d a,cG h' n' z p d a∧d.dF=e∧d.done=false∧(∀b,a.F z b->m.F z b∨n<=b)∧pC p z a∧a.tv=m.tv∧a.iv=m.iv∧d.pk=c.pk∧d.aZ=c.aZ∧d.size=c.size
 | .ok (sym,d) u=>f= .tuple #[.int .i64 sym,.int .i64 0]∧aY h' n' p S D (A+u)∧∃a,cG h' n' z p d a∧a.pw=false∧a.dw=false∧(∀b,a.F z b->m.F z b∨n<=b)∧pC p z a∧(∀b,aJ a.tv b->aJ m.tv b∨n<=b)∧∀y∈a.iv,y∈m.iv∨n<=y.1
theorem aht(x:aY h n p S D A)(y:cG h n z p c m)(E:pC p z m)(J:m.pw=false)(T:m.dw=false)(k:gU c)(hc:c.count<=1000000000000000)(u8:3000000<=Y):
 af (fun b=>b=p∨m.F z b) n (aj aa gt Y (d+9) 241 #[jP z 0,jP p 0]) h n (Kt h n p S D A z c m):=by
 obtain⟨Z,L⟩:∃Z,ar S D A=Z:=⟨_,rfl⟩;have g:=y.get;have hz:=y.lt;unfold mq at g;rw[k.wr,k.dn]at g;have R:p≠z:=fun e=>E.f (.inl e);have z0:((0:Int) !=0)=false:=rfl;have U:m.F z z:= .inl rfl;have dn:=DT (Y:=Y) (d:=d+7) y.pk;rw[show(decide (0<c.pk.count)&&decide (c.pk.bu.length=c.pk.count))=c.pk.fin from rfl]at dn;rw[aC (fun _=>Vj) rfl];refine af.aB ?_;unfold Jv;have v4:=fun{β:Type} {rec:FuncId->Array Value->M Value} (r a:Value) (k:Value->M β)=>Ks (rec:=rec) (f:=253) (by kernel_rfl) r a k;have v3:=fun{β:Type} {rec:FuncId->Array Value->M Value} (r a:Value) (k:Value->M β)=>Ks (rec:=rec) (f:=255) (by kernel_rfl) r a k;have v2:=fun{β:Type} {rec:FuncId->Array Value->M Value} (r a:Value) (k:Value->M β)=>Ks (rec:=rec) (f:=251) (by kernel_rfl) r a k
 have tok:∀(sym:Int) (t:H) (q:Nat) (Q:Value->H->Nat->Prop),Q (.tuple #[jI sym,jI 0]) t q->
  af (fun b=>b=p∨m.F z b) n (aV (.tuple #[jI sym,jI 0]) 0 fun d=>aV (.tuple #[jI sym,jI 0]) 1 fun h=>cD h (ii 0) fun e=>aA e (ag [d,h]) (fA h (ii 3) fun j=>aA j (an (jP z 0) fun l=>ay 7 l fun m=>aK m h fun _=>ag [(ii 0),h]) (ag [(ii 0),h]))) t q Q:=by
  intro sym t q Q hQ;have N:((0:Int)==0)=true:=rfl;refine jA (aI @bI (aI @ext1 @N)) ?_;exact hQ
 have P:∀(sym:Int) (t:H) (q:Nat) (Q:Value->H->Nat->Prop),Q (.tuple #[jI 0,jI 3]) t q->
  af (fun b=>b=p∨m.F z b) n (aV (.tuple #[jI sym,jI 3]) 0 fun d=>aV (.tuple #[jI sym,jI 3]) 1 fun h=>cD h (ii 0) fun e=>aA e (ag [d,h]) (fA h (ii 3) fun j=>aA j (an (jP z 0) fun l=>ay 7 l fun m=>aK m h fun _=>ag [(ii 0),h]) (ag [(ii 0),h]))) t q Q:=by
  intro sym t q Q hQ;have N:((3:Int)==0)=false:=rfl;have e3:((3:Int) !=3)=false:=rfl;refine jA (aI @bI (aI @ext1 (aI @N @e3))) ?_;exact hQ
 have I:∀(sym e:Int) (t:H) (q:Nat) (O:Cd) (m1:Cm) (Q:Value->H->Nat->Prop),e=22∨e=25->cG t q z p O m1->
  (∀W,(∀b,b≠z->W.get b=t.get b)->cG W q z p {O with dF:=e} m1->Q (.tuple #[jI 0,jI e]) W q)->
  af (fun b=>b=p∨m.F z b) n (aV (.tuple #[jI sym,jI e]) 0 fun d=>aV (.tuple #[jI sym,jI e]) 1 fun h=>cD h (ii 0) fun e=>aA e (ag [d,h]) (fA h (ii 3) fun j=>aA j (an (jP z 0) fun l=>ay 7 l fun m=>aK m h fun _=>ag [(ii 0),h]) (ag [(ii 0),h]))) t q Q:=by
  intro sym e t q O m1 Q he v hQ;have N:(e==0)=false:=beq_eq_false_iff_ne.2 jO;have e3:(e !=3)=true:=by rw[bne_iff_ne];omega
  have g1:=v.get;unfold mq at g1;have v8:=v.lt;refine jA (aI @bI (aI @ext1 (aI @N (aI @e3 (aI @g1 @U))))) ?_;exact hQ _ (fun b G=>aw _ _ G) (v.DU {O with dF:=e} m1.tv rfl rfl rfl rfl rfl v.took v.nQ rfl)
 have ff:∀b,m.F z b->m.F z b∨n<=b:=fun b G=> .inl G;refine jA (aI @g @z0) ?_;refine bz dn (ah _) (fun _ _ h=>h.elim) ?_;have o:=@DY c Z;unfold Kt;rw[L];by_cases hf:c.pk.fin=false
 ·rw[hf];unfold dU at o⊢;rw[if_pos hf]at o⊢;refine jA (aI @cx @v4) ?_;refine aN aE (ahp (Y:=Y) (d:=d+2) x y E J k.pk hf jO) (ah _) (fun b _ G=> .inr G) fun v1 t q u2 u4 i=> ?_;rw[L]at i;cases e:cX c.pk Z with
  |short=>rw[e]at i;obtain⟨rfl,C,v⟩:=i;exact P _ t q _ ⟨rfl,C,v⟩
  |bad N=>rw[e]at i o;obtain⟨rfl,⟨B,C⟩,v⟩:=i;exact I _ _ t q _ _ _ (o rfl) v fun W k2 y2=>⟨rfl,⟨B,C.au (ah _) (k2 p R)⟩,_,_,y2,rfl,k.dn,ff,⟨E.f,E.t⟩,rfl,rfl,rfl,rfl,rfl⟩
  |ok s u=>
   rw[e]at i;obtain⟨rfl,C,v7,v6,v,u1,u0⟩:=i;refine tok _ t q _ ⟨rfl,C,_,v,J,T, ?_, ?_,u0,fun y hy=> .inl hy⟩
   ·intro b h7;rcases h7 with h7|h7|h7|h7|h7|h7
    ·exact .inl (.inl h7)
    ·exact .inl (.inr (.inl h7))
    ·exact .inl (.inr (.inr (.inl h7)))
    ·exact(u1 b h7).imp (fun h8=> .inr (.inr (.inr (.inl h8)))) id
    ·exact .inl (.inr (.inr (.inr (.inr (.inl h7)))))
    ·exact .inl (.inr (.inr (.inr (.inr (.inr h7)))))
   ·have v9:=x.lt;refine⟨fun h7=> ?_,fun h7=>(u0 p h7).elim E.t fun h8=>by omega⟩;rcases h7 with h7|h7|h7|h7|h7|h7
    ·exact E.f (.inl h7)
    ·exact E.f (.inr (.inl h7))
    ·exact E.f (.inr (.inr (.inl h7)))
    ·exact(u1 p h7).elim (fun h8=>E.f (.inr (.inr (.inr (.inl h8))))) fun h8=>by omega
    ·exact E.f (.inr (.inr (.inr (.inr (.inl h7)))))
    ·exact E.f (.inr (.inr (.inr (.inr (.inr h7)))))
 ·have fin:c.pk.fin=true:=by simpa using hf
  rw[fin];have hq:=y.pk.lt
  have v0:∃a cc,m.cv= .slice a c.aZ.length cc:=by
   rcases y.cs with ⟨X,e2⟩|⟨b,X,_⟩
   ·have:m.iv=[]:=by rw[ani]at e2;exact e2
    have h9:=y.j5;rw[this]at h9;exact⟨none,0,by rw[X,<-h9];rfl⟩
   ·rw[fQ,y.j5]at X;exact⟨_,_,X⟩
  obtain⟨ca,cc,u9⟩:=v0;rw[u9]at g;unfold dU at o⊢;rw[if_neg hf]at o⊢;refine jA (aI @eK @g) ?_;refine lN trivial _ _ _ g hz rfl fun T1 t1=> ?_;refine jB ?_;refine lN trivial _ _ _ g hz rfl fun T2 t2=> ?_;refine jB ?_;refine lO aE (ahc (Y:=Y) (d:=d+7) y.pk) (ah _) fun T3 t3=> ?_;by_cases ht:c.aZ.length<c.pk.t
  ·have O:((c.aZ.length:Nat):Int)<((c.pk.t:Nat):Int):=jO;rw[if_pos ht]at o⊢;try simp(disch:=first|omega|assumption) only[Nat.reduceAdd,Nat.reduceLT,RZ,O,t1.cA t3,cx,eA,dQ,v3]
   refine aN aE (ahq (Y:=Y) (d:=d) x y E T k.ln k.ll k.lo k.hi (by have:=k.fU;omega) u8) (ah _) (fun b _ G=> .inr G) fun v1 t q u2 u4 i=> ?_;rw[L]at i;cases e:stepT c Z with
   |short=>rw[e]at i;obtain⟨rfl,C,v⟩:=i;exact P _ t q _ ⟨rfl,C,v⟩
   |bad N=>rw[e]at i o;obtain⟨rfl,⟨B,C⟩,c',m',v,K,u3,fm,am⟩:=i;exact I _ _ t q _ _ _ (o rfl) v fun W k2 y2=>⟨rfl,⟨B,C.au (ah _) (k2 p R)⟩,_,_,y2,rfl,by rw[K];exact k.dn,fm,am,by rw[u3],by rw[u3],by rw[K],by rw[K],by rw[K]⟩
   |ok c' u=>rw[e]at i;obtain⟨rfl,C,m',v,X,e2,e3,fm,am,iv⟩:=i;exact tok _ t q _ ⟨rfl,C,m',v,X.trans J,e2,fm,am,fun b G=> .inl (by rw[e3]at G;exact G),iv⟩
  ·have O:¬((c.aZ.length:Nat):Int)<((c.pk.t:Nat):Int):=jO;rw[if_neg ht]at o⊢;try simp(disch:=first|omega|assumption) only[Nat.reduceAdd,Nat.reduceLT,RZ,O,t1.cA t3,cx,eA,dQ,v2]
   refine aN aE (ahr (Y:=Y) (d:=d+2) x y E (DX k fin ht) k.wh k.hi hc jO) (ah _) (fun b _ G=> .inr G) fun v1 t q u2 u4 i=> ?_;rw[L]at i;cases e:iM c Z with
   |short=>rw[e]at i;obtain⟨rfl,C,v⟩:=i;exact P _ t q _ ⟨rfl,C,v⟩
   |bad N=>rw[e]at i o;obtain⟨rfl,C,v⟩:=i;exact I _ _ t q _ _ _ (o rfl) v fun W k2 y2=>⟨rfl,⟨_,C.au (ah _) (k2 p R)⟩,_,_,y2,rfl,k.dn,ff,E,rfl,rfl,rfl,rfl,rfl⟩
   |ok cs u=>obtain⟨s,c'⟩:=cs;rw[e]at i;obtain⟨rfl,C,v⟩:=i;exact tok _ t q _ ⟨rfl,C,m,v,J,T,ff,E,fun b G=> .inl G,fun y hy=> .inl hy⟩
theorem ahu(y:cG h n z p c m):af (fun _=>False) n (aj aa gt Y (d+1) 243 #[jP z 0]) h n fun a h' n'=>a= .bool c.done∧h'=h∧n'=n:=by have g:=y.get;have b:=y.lt;unfold mq at g;rw[aC (fun _=>Vl) rfl];refine af.aB ?_;unfold Jx;exact jC @g
def mQ(size:Nat):Cd:=⟨size,⟨0,0,pB,[]⟩,0,[],[],[],0,false,0⟩
end
inductive Rs
 |err (e:Int)
 |ok (out:List Int) (a:Nat)
theorem DZ{size:Nat}(f:3<=size)(a:size<=258):gU (mQ size):=⟨⟨fun _=>⟨rfl,rfl⟩,fun j d=>absurd d (kS j),fun x b=>absurd b (by simp[mQ]),fun e=>absurd rfl e,fun e=>absurd rfl e⟩,aP _,rfl,fun _=>⟨rfl,rfl⟩,fun e=>absurd (show false=true from e) jD,aP _,⟨aP _,aP _,fun x b=>absurd b (by simp[mQ])⟩,(by show 0<size;omega),fun l c=>absurd c (by simp[mQ]),f,a,rfl,rfl⟩
def zG(n:Nat):Cm:=⟨n+3,.slice none 0 0,.slice none 0 0,n,.slice none 0 0,.slice none 0 0,false,false,[]⟩
theorem nR{b:Nat}:¬aJ (.slice none 0 0) b:=fun⟨_,_,_,e⟩=>by cases e
theorem ahv{n b:Nat}(h:(zG n).F (n+4) b):n<=b:=by
 rcases h with h|h|h|h|h|h
 ·omega
 ·have:b=n+3:=h;omega
 ·have:b=n:=h;omega
 ·exact absurd h nR
 ·exact absurd h nR
 ·exact absurd h nR
section
variable {Y d n z p:Nat} {h:H} {S:List UInt8} {D A:Nat} {c:Cd} {m:Cm}
theorem ahw{size:Nat}(r:3<=size)(c:size<=258)(g:100<=Y)(p:Nat):af (fun _=>False) n (aj aa gt Y (d+3) 247 #[jI (size:Int)]) h n fun v h' n'=>v= .tuple #[jP (n+4) 0,jI 0]∧n'=n+5∧cG h' n' (n+4) p (mQ size) (zG n):=by
 rw[aC (fun _=>Vt) rfl];refine af.aB ?_;unfold Jz;have k:((0:Int) !=0)=false:=rfl;refine aN aE (Xj (Y:=Y) (d:=d) r c) (ah _) (fun _ _ h=>h.elim) fun y t A o u f=> ?_;obtain⟨rfl,rfl,de⟩:=f;refine jA (aI @bI (aI @ext1 @k)) ?_;refine aN aE (ahf (Y:=Y) (d:=d) g) jO (fun _ _ h=>h.elim) fun x s z m j e=> ?_;obtain⟨rfl,rfl,pk⟩:=e;refine jB ?_;refine gu trivial _ _ ?_;refine jB ?_;have l:∀(B:Option AB) b,b<n+1->(s.set (n+1+3) B).get b=t.get b:=fun B b a=>by rw[aw _ _ jO,j b a id]
 exact
  {get:=get_eq _ _ _
   lt:=jO
   pk:=⟨(aw _ _ (by show n+3≠_;omega)).trans pk.get,aP _,by show n+3<_;omega,Own.nil _ _ _ _,rfl,aP _,(by decide:0<32768)⟩
   de:=⟨(l _ n jO).trans de.get,aP _,by show n<_;omega,Own.nil _ _ _ _⟩
   took:=(Own.nil _ 0 _ _:Own _ 0 _ _ _ (aW .i64 (iN []))).row
   nQ:=fun b a=>absurd a nR
   mP:=fun b a=>absurd a nR
   cs:=Own.nil _ _ _ _
   j5:=rfl
   code:=fun i q=>absurd q (kS i)}
end
def ch(b:Bool):UInt8:=if b=true then 49 else 48
def iq(l:List Bool):List UInt8:=l.map ch
def tx(l:List Bool):Value:= .string ⟨(iq l).toArray⟩
theorem uy(l:List Bool):(iq l).length=l.length:=by unfold iq;simp
theorem ahx(a b:List Bool):iq (a++b)=iq a++iq b:=by unfold iq;simp
theorem Xw(l:List Bool)(k:Nat):(iq l).take k=iq (l.take k):=by unfold iq;rw[LV]
theorem Xx(l:List Bool)(k:Nat):(iq l).drop k=iq (l.drop k):=by unfold iq;rw[Fh]
theorem ahy{l:List Bool}{i:Nat}(h:i<l.length):(iq l).getD i 0=ch l[i]:=by unfold iq;rw[bw,iW,bA h];rfl
theorem ahz{a b:Bool}(h:ch a=ch b):a=b:=by cases a<;>cases b<;>first|rfl|exact absurd h jD
theorem Ku:∀{a b:List Bool},iq a=iq b->a=b
 |[],[],_=>rfl
 |[],b::m,h=>by simp[iq]at h
 |a::l,[],h=>by simp[iq]at h
 |a::l,b::m,h=>by unfold iq at h;simp only[List.map_cons,an2]at h;rw[ahz h.1,Ku (a:=l) (b:=m) h.2]
theorem ahA(b:Bool):((ch b).toNat:Int)=48+(bn b:Int):=by cases b<;>rfl
theorem Xy:aO {data:=#[]}=tx []:=rfl
theorem wJ:aO {data:=#[48]}=tx [false]:=rfl
theorem D0:aO {data:=#[49]}=tx [true]:=rfl
theorem ahB:aO {data:=#[48,49]}=tx [false,true]:=rfl
theorem Xz(l:List Bool):one (tx l)=true:=rfl
theorem cV(l:List Bool)(k:Value->M Value):bJ (tx l) k=k (jI (l.length:Int)):=by unfold tx;rw[xX,uy]
theorem wK(a b:List Bool)(h:a.length+b.length<=1000000000)(k:Value->M Value):aq (tx a) (tx b) k=k (tx (a++b)):=by unfold tx;rw[vE _ _ _ (by rw[uy,uy];omega),ahx]
theorem wL(a b:List Bool)(k:Value->M Value):cD (tx a) (tx b) k=k (.bool (decide (a=b))):=by
 unfold tx;rw[vF];by_cases e:a=b
 ·rw[decide_eq_true e,decide_eq_true (by rw[e])]
 ·rw[decide_eq_false e,decide_eq_false fun q=>e (Ku q)]
theorem pD(l:List Bool)(k:IntKind)(i:Int)(a:0<=i)(h1:i<l.length)(q:Value->M Value):cP (tx l) (.int k i) q=q (.int .u8 (48+(bn (l.getD i.toNat false):Int))):=by unfold tx;rw[vG _ _ _ _ a (by rw[uy];exact h1),ahy jO,ahA,bw,bA jO];rfl
theorem D1(l:List Bool)(a:IntKind)(j:Int)(k:Value->M Value)(b:0<=j)(h1:j<=l.length):bN (tx l) none (some (.int a j)) k=k (tx (l.take j.toNat)):=by unfold tx;rw[xZ _ _ _ _ b (by rw[uy];exact h1),Xw]
theorem nT(l:List Bool)(a:IntKind)(j:Int)(k:Value->M Value)(b:0<=j)(h1:j<=l.length):bN (tx l) (some (.int a j)) none k=k (tx (l.drop j.toNat)):=by unfold tx;rw[ya _ _ _ _ b (by rw[uy];exact h1),Xx]
theorem r9(l:List Bool)(b a:IntKind)(i j:Int)(k:Value->M Value)(c:0<=i)(h1:i<=j)(h2:j<=l.length):bN (tx l) (some (.int b i)) (some (.int a j)) k=k (tx ((l.drop i.toNat).take (j.toNat-i.toNat))):=by unfold tx;rw[yc _ _ _ _ _ _ c h1 (by rw[uy];exact h2),Xx,Xw]
section
variable {Y d n:Nat} {h:H}
theorem ahC(v k:Nat)(y:v<4294967296)(I:k<=64)(A:100<=Y):af (fun _=>False) n (aj aa gt Y (d+1) 103 #[.int .u32 (v:Int),jI (k:Int)]) h n fun m h' n'=>m=tx (b8 v k)∧h'=h∧n'=n:=by
 rw[aC (fun _=>QT) rfl];refine af.aB ?_;unfold B8;refine dE k (fun a i (s:Nat×List Bool)=>tI Y (aj aa gt Y d) a (B7 Y (aj aa gt Y d)) (.int .u32 (s.1:Int)) (jI (k:Int)) (.string {data:=#[]}) (tx s.2) (jI (k:Int)) (jI (i:Nat))) (fun i s h' n'=>(h'=h∧n'=n)∧s.1<4294967296∧s.2.length=i∧b8 v k=b8 s.1 (k-i)++s.2) ?_ ?_ Y 0 (v,[]) h n (aP _) jO ⟨⟨rfl,rfl⟩,y,rfl,jS⟩
 ·rintro a ⟨w,t⟩ h' n' ⟨⟨rfl,rfl⟩,_,_,e⟩;rw[tI];refine jA @eO ?_
  (try unfold B7);(try dsimp only)
  refine jB ?_;rw[e,sM];rfl
 ·rintro a i ⟨w,t⟩ h' n' J ⟨⟨rfl,rfl⟩,c,f,e⟩ next;rw[tI];have c:w<4294967296:=c;have f:t.length=i:=f;have D:((i:Nat):Int)<((k:Nat):Int):=jO;have C:((w:Nat):Int).tmod 2=((w %2:Nat):Int):=rfl;have B:((w:Nat):Int).tdiv 2=((w/2:Nat):Int):=rfl;have l:IntKind.u32.wrap ((w %2:Nat):Int)=((w %2:Nat):Int):=fL jO;have j:IntKind.u32.wrap ((w/2:Nat):Int)=((w/2:Nat):Int):=fL jO;have g:IntKind.u32.wrap (((w %2:Nat):Int)+1)=((w %2+1:Nat):Int):=(fL (x:=w %2+1) jO)
  have b:((([48,49]:List UInt8).drop (w %2)).take (w %2+1-w %2))=[ch (decide (w %2=1))]:=by rcases anj w with q|q<;>rw[q]<;>rfl
  have G:(([48,49]:List UInt8).length)=2:=rfl;have E:([ch (decide (w %2=1))]++iq t).length=t.length+1:=by simp[iq]
  have b:((([false,true]:List Bool).drop (w %2)).take (w %2+1-w %2))=[decide (w %2=1)]:=by rcases anj w with q|q<;>rw[q]<;>rfl
  have p:[decide (w %2=1)].length+t.length<=1000000000:=by simp;omega
  have o:=fun(u:Value->M Value)=>r9 [false,true] .u32 .u32 ((w %2:Nat):Int) ((w %2+1:Nat):Int) u jO jO (by show _<=(2:Int);omega);try simp(disch:=first|omega|assumption) only[Nat.reduceAdd,Nat.reduceLT,RZ,D,C,B,l,j,g,ahB,o,b,wK _ _ p]
  refine next (w/2,decide (w %2=1)::t) _ _ ⟨⟨rfl,rfl⟩,by show w/2<_;omega,by show t.length+1=_;omega, ?_⟩;rw[e];obtain⟨r,z⟩:∃r,k-i=r+1:=⟨k-i-1,jO⟩;rw[z,show k-(i+1)=r by omega];show(b8 (w/2) r++[decide (w %2=1)])++t=b8 (w/2) r++(decide (w %2=1)::t);simp
theorem XA{S:List UInt8}(q:S.length<=100000)(m:S.length<Y)(a:100<=Y):af (fun _=>False) n (aj aa gt Y (d+2) 61 #[.string ⟨S.toArray⟩]) h n fun k h' n'=>k=tx (dS S)∧h'=h∧n'=n:=by
 rw[aC (fun _=>Qk) rfl];refine af.aB ?_;unfold B4;refine dE S.length (fun c i (_:Unit)=>tH Y (aj aa gt Y (d+1)) c (B1 Y (aj aa gt Y (d+1))) (.string ⟨S.toArray⟩) (.string {data:=#[]}) (tx (dS (S.take i))) (jI (i:Nat))) (fun i _ h' n'=>h'=h∧n'=n) ?_ ?_ Y 0 () h n (aP _) jO ⟨rfl,rfl⟩
 ·rintro c _ h' n' ⟨rfl,rfl⟩;rw[tH];refine jA @eO ?_
  (try unfold B1);(try dsimp only)
  refine jB ?_;rw[iY]
 ·rintro c i _ h' n' f ⟨rfl,rfl⟩ next;rw[tH];have p:((i:Nat):Int)<((S.length:Nat):Int):=jO;obtain⟨b,g⟩:∃b,S.getD i 0=b:=⟨_,rfl⟩;have o:=b.toNat_lt;have j:IntKind.u32.wrap ((b.toNat:Nat):Int)=((b.toNat:Nat):Int):=fL jO;refine jA (aI @p (aI @g @j)) ?_;refine bz (ahC (Y:=Y) (d:=d) b.toNat 8 jO jO a) (ah _) (fun _ _ h=>h.elim) ?_
  have l:(dS (S.take i)).length+(b8 b.toNat 8).length<=1000000000:=by rw[zy,gT,cO];omega
  try simp(disch:=first|omega|assumption) only[Nat.reduceAdd,Nat.reduceLT,RZ,wK _ _ l]
  have e:dS (S.take (i+1))=dS (S.take i)++b8 b.toNat 8:=by
   rw[m9 f,W8];have:S[i]=b:=by rw[<-g,bw,bA f];rfl
   rw[this];show _++(b8 b.toNat 8++[])=_;rw[bR]
  have:=next () h' n' ⟨rfl,rfl⟩;rw[e]at this;exact this
theorem Kv(l:List Bool)(t:l.length<=31)(q:100<=Y):af (fun _=>False) n (aj aa gt Y (d+1) 63 #[tx l]) h n fun o h' n'=>o= .int .u32 (num l 0:Int)∧h'=h∧n'=n:=by
 rw[aC (fun _=>Hq) rfl];refine af.aB ?_;unfold yl;refine dE l.length (fun a i (_:Unit)=>pd Y (aj aa gt Y d) a (vQ Y (aj aa gt Y d)) (tx l) (.int .u32 0) (.int .u32 (num (l.take i) 0:Int)) (jI (i:Nat))) (fun i _ h' n'=>h'=h∧n'=n) ?_ ?_ Y 0 () h n (aP _) jO ⟨rfl,rfl⟩
 ·rintro a _ h' n' ⟨rfl,rfl⟩;rw[pd];refine jA (aI @cV @eO) ?_
  (try unfold vQ);(try dsimp only)
  refine jB ?_;rw[iY]
 ·rintro a i _ h' n' c ⟨rfl,rfl⟩ next;rw[pd];have r:((i:Nat):Int)<((l.length:Nat):Int):=jO;obtain⟨b,f⟩:∃b,l.getD i false=b:=⟨_,rfl⟩;have u:=rY b;have p:=hH (l.take i)
  have s:num (l.take i) 0<2147483648:=fP p (by
   have:2^(l.take i).length<=2^31:=Nat.pow_le_pow_right jD (by rw[cO];omega)
   exact this)
  have m:IntKind.u8.wrap (48+(bn b:Int)-48)=(bn b:Int):=by rw[show(48+(bn b:Int)-48)=(bn b:Int) by omega];exact w8 jO
  have k:IntKind.u32.wrap ((bn b:Nat):Int)=(bn b:Int):=fL jO
  have j:IntKind.u32.wrap (2*((num (l.take i) 0:Nat):Int))=((2*num (l.take i) 0:Nat):Int):=by rw[show(2*((num (l.take i) 0:Nat):Int))=((2*num (l.take i) 0:Nat):Int) by omega];exact fL jO
  have g:IntKind.u32.wrap (((2*num (l.take i) 0:Nat):Int)+(bn b:Int))=((2*num (l.take i) 0+bn b:Nat):Int):=by rw[show(((2*num (l.take i) 0:Nat):Int)+(bn b:Int))=((2*num (l.take i) 0+bn b:Nat):Int) by omega];exact fL jO
  refine jA (aI @cV (aI @pD (aI @r (aI @f (aI @m (aI @k (aI @j @g))))))) ?_
  have e:num (l.take (i+1)) 0=2*num (l.take i) 0+bn b:=by
   rw[m9 c,zu];have:l[i]=b:=by rw[<-f,bw,bA c];rfl
   rw[this]
  have:=next () h' n' ⟨rfl,rfl⟩;rw[e]at this;exact this
def gL:List Bool->Nat
 |true::l=>gL l+1
 |_=>0
theorem XB:∀l:List Bool,gL l<=l.length
 |[]=>ah _
 |false::l=>aP _
 |true::l=>by have:=XB l;show gL l+1<=l.length+1;omega
theorem ahD(l:List Bool)(q:l.length<Y)(u:l.length<=1000000000):af (fun _=>False) n (aj aa gt Y (d+1) 196 #[tx l]) h n fun g h' n'=>g=jI (gL l:Int)∧h'=h∧n'=n:=by
 rw[aC (fun _=>afk) rfl];refine af.aB ?_;unfold IZ
 have j:∀(r:Nat) (i a:Nat),l.length-i=r->r<a->i<=l.length->gL l=i+gL (l.drop i)->af (fun _=>False) n (ud Y (aj aa gt Y d) a (yO Y (aj aa gt Y d)) (tx l) (jI 0) (jI (i:Nat))) h n fun g h' n'=>g=jI (gL l:Int)∧h'=h∧n'=n:=by
  intro r
  induction r with
  |zero=>
   intro i a p t s e;obtain⟨a,rfl⟩:∃f,a=f+1:=⟨a-1,jO⟩;obtain rfl:i=l.length:=jO;rw[ud];refine jA (aI @cV @eO) ?_
   (try unfold yO);(try dsimp only)
   refine jB ?_;rw[e,sO];rfl
  |succ r o=>
   intro i a p t s e;obtain⟨a,rfl⟩:∃f,a=f+1:=⟨a-1,jO⟩;have b:i<l.length:=jO;have m:((i:Nat):Int)<((l.length:Nat):Int):=jO;have fh:l.drop i=l[i]::l.drop (i+1):=qP b;have iG:l.getD i false=l[i]:=by rw[bw,bA b];rfl
   rw[ud];cases c:l[i]with
   |true=>have k:(48+((bn true:Nat):Int)==49)=true:=rfl;refine jA (aI @cV (aI @pD (aI @m (aI @iG (aI @c @k))))) ?_;exact o (i+1) a jO jO jO (by rw[e,fh,c];show i+(gL _+1)=_;omega)
   |false=>
    have k:(48+((bn false:Nat):Int)==49)=false:=rfl;refine jA (aI @cV (aI @pD (aI @m (aI @iG (aI @c @k))))) ?_
    (try unfold yO);(try dsimp only)
    refine jB ?_;rw[e,fh,c];rfl
 exact j l.length 0 Y jO q (aP _) (by rw[fy];rfl)
end
section
variable {β:Type} {W:Nat->Prop} {n0:Nat} {h:H} {n:Nat} {Q:β->H->Nat->Prop}
theorem cq {T:Prop} (_:T) {sz:Nat} {b:Nat} {e:TypeId} {cs vs:List Value} (f:vs.length=sz) (l:cs.length=sz) (h1:vs.all one=true) (g:h.get b=some ⟨e,true,cs⟩) (i:b<n) (d:n0<=b∨W b) (k:Value->M β)
 (x:∀h',h'.get b=some ⟨e,true,vs⟩->(∀c,c≠b->h'.get c=h.get c)->af W n0 (k undef) h' n Q):af W n0 (aM sz (jP b 0) (.agg vs.toArray) k) h n Q:=by
 refine nH trivial (vs:=vs) rfl f h1 g i jO d k fun h' j a=>x h' ?_ a;rw[j,List.take_zero,List.nil_append,List.drop_eq_nil_of_le jO,bR]
end
theorem dV{W:Nat->Prop}{n0:Nat}{h:H}{n:Nat}{Q:Value->H->Nat->Prop}{T d:Prop}(_:T)(_:d){sz:Nat}{b:Nat}{e:TypeId}{vs:List Value}(g:h.get b=some ⟨e,true,vs⟩)(a:vs.length=sz)(c:b<n)(x:Q (.agg vs.toArray) h n):af W n0 (aT sz (jP b 0) fun v=>ag [v]) h n Q:=by
 refine G3 b 0 _ g c (by show 0+sz<=vs.length;omega) ?_;rw[k8];have:((vs.drop 0).take sz)=vs:=by rw[js,<-a,iY]
 show Q (.agg ((vs.drop 0).take sz).toArray) h n;rw[this];exact x
def oT(o:List Nat):Value:= .string ⟨(o.map fun x=>gP (48+x)).toArray⟩
theorem oT0:aO {data:=#[48,49,50,51,52,53]}=oT pB:=rfl
theorem ahE(o:List Nat)(a:∀x∈o,x<6)(i:Nat)(h1:i<o.length)(k:Value->M Value):cP (oT o) (jI (i:Int)) k=k (.int .u8 ((48+o.getD i 0:Nat):Int)):=by unfold oT;rw[vG _ _ _ _ jO (by rw[fQ];omega),cR,bw,iW,bA h1,bw,bA h1];have:=a _ (dH h1);show k (eJ .u8 ((gP (48+o[i])).toNat:Int))=k (eJ .u8 ((48+o[i]:Nat):Int));rw[UInt8.toNat_ofNat',Nat.mod_eq_of_lt jO]
section
variable {Y d n:Nat} {h:H}
theorem ahF(o:List Nat)(i:Nat)(b:i<o.length)(v:o.length<=100):af (fun _=>False) n (aj aa gt Y (d+1) 167 #[oT o,jI (i:Int)]) h n fun e h' n'=>e=oT (c6 0 o i)∧h'=h∧n'=n:=by
 rw[aC (fun _=>IA) rfl];refine af.aB ?_;unfold Cy;obtain⟨l,a⟩:∃l,(o.map fun x=>gP (48+x))=l:=⟨_,rfl⟩;have m:l.length=o.length:=by rw[<-a,fQ]
 have y:(i:Int)+1=((i+1:Nat):Int):=jO;have c:IntKind.i64.wrap ((i:Int)+1)=((i+1:Nat):Int):=by rw[aH jO jO];omega
 have j:=fun(k:Value->M Value)=>yc k l .i64 .i64 (i:Int) ((i+1:Nat):Int) jO jO jO;have g:=fun(k:Value->M Value)=>xZ k l .i64 (i:Int) jO jO;have f:=fun(k:Value->M Value)=>ya k l .i64 ((i+1:Nat):Int) jO jO;have u:((l.drop i).take (i+1-i)).length=1:=by rw[cO,bC];omega
 have t:(l.take i).length=i:=by rw[cO];omega
 have s:(l.drop (i+1)).length<=o.length:=by rw[bC];omega
 have r:=fun(k:Value->M Value)=>vE k ((l.drop i).take (i+1-i)) (l.take i) jO;have q:=fun(k:Value->M Value)=>vE k ((l.drop i).take (i+1-i)++l.take i) (l.drop (i+1)) (by rw[bE];omega);unfold oT;rw[a];refine jA (aI @c (aI @j (aI @g (aI @f (aI @r @q))))) ?_;unfold c6
 have p:(l.drop i).take (i+1-i)=[gP (48+o.getD i 0)]:=by rw[show i+1-i=1 by omega,<-a,<-Fh,qP b,bw,bA b];rfl
 rw[p,<-a];simp[LV,Fh]
end
theorem Kw:∀(r o:Nat) (bs:List Bool),fj r o bs=if r<=gL bs then .bad 25 else if gL bs=bs.length then .short else .ok (o+gL bs) (o+gL bs+1)
 |0,o,bs=>by rw[if_pos (aP _)];simp[fj]
 |r+1,o,[]=>by rw[if_neg (by show¬r+1<=0;omega),if_pos (show gL []=([]:List Bool).length from rfl)];rfl
 |r+1,o,false::bs=>by rw[if_neg (by show¬r+1<=0;omega),if_neg (by show¬0=bs.length+1;omega)];rfl
 |r+1,o,true::bs=>by
  show fj r (o+1) bs=_;rw[Kw r (o+1) bs];show _=if r+1<=gL bs+1 then _ else if gL bs+1=bs.length+1 then _ else _
  by_cases h:r<=gL bs
  ·rw[if_pos h,if_pos jO]
  ·rw[if_neg h,if_neg (show¬r+1<=gL bs+1 by omega)];by_cases a:gL bs=bs.length
   ·rw[if_pos a,if_pos (show gL bs+1=bs.length+1 by omega)]
   ·rw[if_neg a,if_neg (show¬gL bs+1=bs.length+1 by omega)];show St.ok _ _=St.ok (o+(gL bs+1)) (o+(gL bs+1)+1);rw[show o+1+gL bs=o+(gL bs+1) by omega]
def dq:Nat->Pk->List Bool->Nat->St Pk
 |0,_,_,_=> .short
 |N+1,s,b,a=>if s.fin=true then .ok s a else match cX s b with
  | .short=> .short
  | .bad e=> .bad e
  | .ok c u=>dq N c (b.drop u) (a+u)
def fN:Pk:=⟨0,0,pB,[]⟩
def Kx(n:Nat)(r:St Pk)(b:Value)(h':H)(n':Nat):Prop:=∃(pv:Value) (t a u e:Int),b= .agg #[pv,jI t,jI a,jI u,jI e]∧
 match r with
 | .short=>e=3∧pv= .slice none 0 0
 | .bad c=>c=25∧e=25∧pv= .slice none 0 0
 | .ok s d=>e=0∧t=s.t∧a=(d:Int)∧Own h' n n' 3 pv (aW .i64 (iN s.bu))
section
variable {Y d n:Nat} {h:H}
theorem ahG{l:List Bool}(hl:l.length<=1000000)(u1:3000000<=Y):∀(N e:Nat) (h':H) (n':Nat) (s:Pk) (pv:Value) (a:Nat),n+1<=n'->h'.get n=some ⟨224,true,[.slice none 0 0,jI 0,jI 0,jI 0,jI 0]⟩->(l.drop a).length<N->N<=e->a<=l.length->s.t<=6->s.Ok->s.ord.length=6->(∀x∈s.ord,x<6)->s.count≠0->s.count<32768->Own h' (n+1) n' 3 pv (aW .i64 (iN s.bu))->
 af (fun _=>False) n (vX Y (aj aa gt Y (d+1)) e (vY Y (aj aa gt Y (d+1))) (tx l) (jP n 0) (jI (s.t:Int)) (jI (s.count:Int)) (oT s.ord) pv (jI (a:Int)) (.bool false) (.bool false)) h' n' (Kx n (dq N s (l.drop a) a)):=by
 intro N
 induction N with
 |zero=>intro e h' n' s pv a _ _ hN;omega
 |succ N ih=>
  intro e h' n' s pv a u0 g hN u4 u6 P ok m t u D j;obtain⟨e,rfl⟩:∃f,e=f+1:=⟨e-1,jO⟩;obtain⟨ga,gc,rfl⟩:=j.row.len;have u3:=fa s.bu;have u2:=ok.len u;rw[vX];unfold dq;by_cases O:s.bu.length=s.count
  ·have fin:s.fin=true:=by unfold Pk.fin;rw[decide_eq_true O,decide_eq_true (show 0<s.count by omega)];rfl
   have J:¬((((iN s.bu).length:Nat):Int)<((s.count:Nat):Int)):=jO;refine jA @J ?_
   (try unfold vY);(try dsimp only)
   rw[fin,if_pos rfl];refine jB ?_;refine cq (sz:=5) trivial (vs:=[.slice ga (iN s.bu).length gc,jI (s.t:Int),jI (a:Int),jI (a:Int),jI 0]) rfl rfl rfl g jO (.inl (ah _)) _ fun R q A=> ?_;refine dV trivial trivial q rfl jO ?_;exact⟨_,_,_,_,_,rfl,rfl,rfl,rfl,(j.au (ah _) fun b p=>A b (by have:=(j.lt p).1;omega)).low jO⟩
  ·have fin:s.fin=false:=by unfold Pk.fin;rw[decide_eq_false O,Bool.and_false]
   have J:((((iN s.bu).length:Nat):Int)<((s.count:Nat):Int)):=jO;have K:=fun(k:Value->M Value)=>nT l .i64 (a:Int) k jO jO;rw[cR]at K;refine jA (aI @J @K) ?_;refine bz (ahD (Y:=Y) (d:=d) (l.drop a) (by rw[bC];omega) (by rw[bC];omega)) jO (fun _ _ h=>h.elim) ?_;obtain⟨o,i⟩:∃o,gL (l.drop a)=o:=⟨_,rfl⟩;have C:=XB (l.drop a);have u5:(l.drop a).length=l.length-a:=bC;rw[i]at C⊢;rw[fin,if_neg jD];unfold cX;rw[if_neg u,Kw,i,fy];by_cases E:s.t<=o
   ·have y:((s.t:Nat):Int)<=(o:Int):=jO;refine jA @y ?_;rw[if_pos E];refine cq (sz:=5) trivial (vs:=[.slice none 0 0,jI 0,jI 0,jI ((a:Int)+(s.t:Int)),jI 25]) rfl rfl rfl g jO (.inl (ah _)) _ fun R q A=> ?_
    (try unfold vY);(try dsimp only)
    refine dV trivial trivial q rfl jO ?_;exact⟨_,_,_,_,_,rfl,rfl,rfl,rfl⟩
   ·have y:¬((s.t:Nat):Int)<=(o:Int):=jO;rw[if_neg E];by_cases G:o=(l.drop a).length
    ·have I:((a:Int)+(o:Int)==((l.length:Nat):Int))=true:=beq_iff_eq.2 jO;refine jA (aI @y (aI @cV @I)) ?_;rw[if_pos G];refine cq (sz:=5) trivial (vs:=[.slice none 0 0,jI 0,jI 0,jI 0,jI 3]) rfl rfl rfl g jO (.inl (ah _)) _ fun R q A=> ?_
     (try unfold vY);(try dsimp only)
     refine dV trivial trivial q rfl jO ?_;exact⟨_,_,_,_,_,rfl,rfl,rfl⟩
    ·have I:((a:Int)+(o:Int)==((l.length:Nat):Int))=false:=beq_eq_false_iff_ne.2 jO;rw[if_neg G];have c:o<s.ord.length:=jO;have L:=ahE s.ord t o c;obtain⟨v,r⟩:∃v,s.ord.getD o 0=v:=⟨_,rfl⟩
     have B:v<6:=by rw[<-r,bw,bA c];exact t _ (dH _)
     rw[r]at L;have U:IntKind.i64.wrap ((48+v:Nat):Int)=((48+v:Nat):Int):=aH jO jO;have T:IntKind.i64.wrap (((48+v:Nat):Int)-48)=(v:Int):=by rw[aH jO jO];omega
     refine jA (aI @y (aI @cV (aI @I (aI @L (aI @U @T))))) ?_;refine rX trivial (kF _ _) j (by rw[eh];omega) (fun b p=> .inl (by have:=(j.lt p).1;omega)) _ fun Q g2 Z=> ?_;refine bz (ahF (Y:=Y) (d:=d) s.ord o c jO) jO (fun _ _ h=>h.elim) ?_
     have W:cX s (l.drop a)= .ok ⟨s.t,s.count,c6 0 s.ord o,s.bu++[s.ord.getD o 0]⟩ (o+1):=by unfold cX;rw[if_neg u,Kw,i,fy,if_neg E,if_neg G]
     have z:=(Kq ok P m fin W).1;rw[show(a:Int)+(o:Int)+1=((a+(o+1):Nat):Int) by omega,jf];refine ih e Q (n'+2) ⟨s.t,s.count,c6 0 s.ord o,s.bu++[s.ord.getD o 0]⟩ _ (a+(o+1)) jO ((Z n jO fun p=>by have:=(j.lt p).1;omega).trans g) (by rw[bC];omega) jO jO P z (wF (dv:=0) m jO) (fun x hx=> ?_) u D ?_
     ·have hx:x∈c6 0 s.ord o:=hx;unfold c6 at hx;rcases List.mem_cons.1 hx with rfl|hx
      ·rw[r];exact B
      ·rcases List.mem_append.1 hx with hx|hx
       ·exact t x (List.mem_of_mem_take hx)
       ·exact t x (List.mem_of_mem_drop hx)
     ·have X:aW .i64 (iN (s.bu++[s.ord.getD o 0]))=aW .i64 (iN s.bu)++[jI ((v:Nat):Int)]:=by rw[pr,mO,r];rfl
      show Own Q (n+1) (n'+2) _ _ (aW .i64 (iN (s.bu++[s.ord.getD o 0])));rw[X];exact .inr ⟨n'+1,jS,g2,jO,jO⟩
theorem XC(l:List Bool)(U:l.length<=1000000)(y:3000000<=Y):af (fun _=>False) n (aj aa gt Y (d+2) 162 #[tx l]) h n (Kx n (dq (l.length+1) fN l 0)):=by
 rw[aC (fun _=>aeO) rfl];refine af.aB ?_;unfold Iv;refine dL yi _ ?_;have z:=fun(h:H) (cs:List Value)=>get_eq h n (some ⟨224,true,cs⟩);have K:fN.fin=false:=rfl;by_cases g:l.length<18
 ·have D:((l.length:Nat):Int)<18:=jO;refine jA (aI @cV @D) ?_;refine cq (sz:=5) trivial (vs:=[.slice none 0 0,jI 0,jI 0,jI 0,jI 3]) rfl rfl rfl (z _ _) jO (.inl (ah _)) _ fun X A O=> ?_;refine dV trivial trivial A rfl jO ?_
  have:dq (l.length+1) fN l 0= .short:=by unfold dq;rw[K,if_neg jD];unfold cX;rw[if_pos (show fN.count=0 from rfl),if_pos g]
  rw[this];exact⟨_,_,_,_,_,rfl,rfl,rfl⟩
 ·have D:¬((l.length:Nat):Int)<18:=jO;obtain⟨t,R⟩:∃t,num (l.take 18) 0/32768=t:=⟨_,rfl⟩;obtain⟨q,T⟩:∃q,num (l.take 18) 0 %32768=q:=⟨_,rfl⟩;have Q:=hH (l.take 18);rw[cO,gZ jO]at Q
  have f:num (l.take 3) 0=t∧num ((l.drop 3).take 15) 0=q:=by
   have e1:l.take 18=l.take 3++(l.drop 3).take 15:=by rw[<-List.take_append_drop 3 (l.take 18),List.take_take,List.drop_take];rfl
   have e2:=qw ((l.drop 3).take 15) (num (l.take 3) 0)
   have e3:num (l.take 18) 0=num (l.take 3) 0*2^15+num ((l.drop 3).take 15) 0:=by rw[e1,uw,e2,cO,bC,gZ jO]
   have Z:=hH ((l.drop 3).take 15);rw[cO,bC,gZ jO]at Z;omega
  have tl:t<8:=jO;have N:q<32768:=jO;have L:IntKind.i64.wrap ((t:Nat):Int)=(t:Int):=aH jO jO;have o:IntKind.i64.wrap ((q:Nat):Int)=(q:Int):=aH jO jO;have G:=fun(k:Value->M Value)=>D1 l .i64 (3:Int) k jO jO;have E:=fun(k:Value->M Value)=>r9 l .i64 .i64 (3:Int) (18:Int) k jO jO jO;have i1:(3:Int).toNat=3:=rfl;have P:(18:Int).toNat-(3:Int).toNat=15:=rfl;rw[i1]at G;rw[P,i1]at E
  have r:cX fN l=if(2<=t∧t<=6)∧q≠0 then .ok ⟨t,q,pB,[]⟩ 18 else .bad 25:=by unfold cX;rw[if_pos (show fN.count=0 from rfl),if_neg g,R,T];rfl
  have I:dq (l.length+1) fN l 0=if(2<=t∧t<=6)∧q≠0 then dq l.length ⟨t,q,pB,[]⟩ (l.drop 18) 18 else .bad 25:=by
   show(if fN.fin=true then _ else _)=_;rw[K,if_neg jD,r];by_cases c:(2<=t∧t<=6)∧q≠0
   ·rw[if_pos c,if_pos c]
   ·rw[if_neg c,if_neg c]
  refine jA (aI @cV (aI @D @G)) ?_;refine bz (Kv (Y:=Y) (d:=d) (l.take 3) (by rw[cO];omega) jO) jO (fun _ _ h=>h.elim) ?_;rw[f.1];refine jA (aI @E @L) ?_;refine bz (Kv (Y:=Y) (d:=d) ((l.drop 3).take 15) (by rw[cO];omega) jO) jO (fun _ _ h=>h.elim) ?_;rw[f.2]
  have b:∀(u:Int),¬((2<=t∧t<=6)∧q≠0)->af (fun _=>False) n (aM 5 (jP n 0) (.agg #[.slice none 0 0,jI 0,jI 0,jI u,jI 25]) fun _=>aT 5 (jP n 0) fun v=>ag [v]) (h.set n (some ⟨224,true,[.slice none 0 0,jI 0,jI 0,jI 0,jI 0]⟩)) (n+1) (Kx n (dq (l.length+1) fN l 0)):=by intro u W;refine cq (sz:=5) trivial (vs:=[.slice none 0 0,jI 0,jI 0,jI u,jI 25]) rfl rfl rfl (z _ _) jO (.inl (ah _)) _ fun X A O=> ?_;refine dV trivial trivial A rfl jO ?_;rw[I,if_neg W];exact⟨_,_,_,_,_,rfl,rfl,rfl,rfl⟩
  by_cases C:2<=t
  ·have i:¬((t:Int)<2):=jO;by_cases a:t<=6
   ·have p:¬((6:Int)<(t:Int)):=jO;by_cases m:q=0
    ·have B:((q:Int)==0)=true:=by rw[m];rfl
     refine jA (aI @o (aI @i (aI @p @B))) ?_;exact b 18 fun c=>c.2 m
    ·have B:((q:Int)==0)=false:=beq_eq_false_iff_ne.2 jO;refine jA (aI @o (aI @i (aI @p (aI @B @oT0)))) ?_;rw[I,if_pos ⟨⟨C,a⟩,m⟩];refine ahG U y l.length Y _ (n+1) ⟨t,q,pB,[]⟩ (.slice none 0 0) 18 (ah _) (z _ _) (by rw[bC];omega) jO jO a ⟨fun e=>absurd e m,fun j J=> ?_,fun x s=>absurd s jS,fun _=>aP _,fun _=>C⟩ rfl (fun x s=> ?_) m N (Own.nil _ _ _ _)
     ·rw[Xu (by have:j<t:=J;omega)];exact J
     ·exact(by decide:∀x∈pB,x<6) x s
   ·have p:(6:Int)<(t:Int):=jO;refine jA (aI @o (aI @i @p)) ?_;exact b 18 fun c=>a c.1.2
  ·have i:(t:Int)<2:=jO;refine jA (aI @o @i) ?_;exact b 18 fun c=>C c.1.1
end
def eu:Nat->Nat->Nat->List Nat->List Bool->Nat->St (List Nat)
 |0,_,_,_,_,_=> .short
 |N+1,c,d,b,f,a=>if b.length=c then .ok b a else match cZ d b f with
  | .short=> .short
  | .bad e=> .bad e
  | .ok (m,l) u=>eu N c m l (f.drop u) (a+u)
def sb(n:Nat)(r:St (List Nat))(a:Value)(h':H)(n':Nat):Prop:=∃(lv:Value) (u e:Int),a= .agg #[lv,jI u,jI e]∧
 match r with
 | .short=>e=3∧lv= .slice none 0 0
 | .bad c=>c=22∧e=22∧lv= .slice none 0 0
 | .ok b d=>e=0∧u=(d:Int)∧Own h' n n' 3 lv (aW .i64 (iN b))
section
variable {Y d n:Nat} {h:H}
theorem ahH{l:List Bool}(hl:l.length<=1000000)(u6:3000000<=Y){size:Nat}(u5:size<=258):∀(N r:Nat) (h':H) (n':Nat) (h:Nat) (c:List Nat) (lv:Value) (a:Nat),n+1<=n'->h'.get n=some ⟨269,true,[.slice none 0 0,jI 0,jI 0]⟩->(l.drop a).length<N->N<=r->a<=l.length->1<=h->h<=20->c.length<=size->Own h' (n+1) n' 3 lv (aW .i64 (iN c))->
 af (fun _=>False) n (rN Y (aj aa gt Y (d+1)) r (qu Y (aj aa gt Y (d+1))) (tx l) (jI (size:Int)) (jP n 0) (jI (h:Int)) lv (jI (a:Int)) (.bool false) (.bool false)) h' n' (sb n (eu N size h c (l.drop a) a)):=by
 intro N
 induction N with
 |zero=>intro r h' n' h c lv a _ _ hN;omega
 |succ N ih=>
  intro r h' n' h c lv a R g hN u8 v0 i Z T A;obtain⟨r,rfl⟩:∃f,r=f+1:=⟨r-1,jO⟩;obtain⟨ga,gc,rfl⟩:=A.row.len;have u7:=fa c;have u9:(l.drop a).length=l.length-a:=bC;have L:h≠0:=jO;rw[rN];unfold eu;by_cases hf:c.length=size
  ·have t:¬((((iN c).length:Nat):Int)<((size:Nat):Int)):=jO;refine jA @t ?_
   (try unfold qu);(try dsimp only)
   rw[if_pos hf];refine jB ?_;refine cq (sz:=3) trivial (vs:=[.slice ga (iN c).length gc,jI (a:Int),jI 0]) rfl rfl rfl g jO (.inl (ah _)) _ fun i p Q=> ?_;refine dV trivial trivial p rfl jO ?_;exact⟨_,_,_,rfl,rfl,rfl,(A.au (ah _) fun b y=>Q b (by have:=(A.lt y).1;omega)).low jO⟩
  ·have t:((((iN c).length:Nat):Int)<((size:Nat):Int)):=jO;rw[if_neg hf]
   have sh:∀(k:Value->M Value),(∀i:H,i.get n=some ⟨269,true,[.slice none 0 0,jI 0,jI 3]⟩->af (fun _=>False) n (k undef) i n' (sb n .short))->af (fun _=>False) n (aM 3 (jP n 0) (.agg #[.slice none 0 0,jI 0,jI 3]) k) h' n' (sb n .short):=fun k U=>cq (sz:=3) trivial (vs:=[.slice none 0 0,jI 0,jI 3]) rfl rfl rfl g jO (.inl (ah _)) _ fun i p Q=>U i p
   by_cases ha:a=l.length
   ·have z:((a:Int)==((l.length:Nat):Int))=true:=beq_iff_eq.2 jO;refine jA (aI @t (aI @cV @z)) ?_
    have e:cZ h c (l.drop a)= .short:=by unfold cZ;rw[if_neg L,ha,sO]
    rw[e];refine sh _ fun i p=> ?_
    (try unfold qu);(try dsimp only)
    exact dV trivial trivial p rfl jO ⟨_,_,_,rfl,rfl,rfl⟩
   ·have z:((a:Int)==((l.length:Nat):Int))=false:=beq_eq_false_iff_ne.2 jO;have hi:a<l.length:=jO;have fh:l.drop a=l[a]::l.drop (a+1):=qP hi;have iG:l.getD a false=l[a]:=by rw[bw,bA hi];rfl
    have s:=pD l .i64 (a:Int) jO jO;rw[cR,iG]at s;cases y:l[a]with
    |false=>
     rw[y]at s fh;have C:(48+((bn false:Nat):Int)==48)=true:=rfl;refine jA (aI @t (aI @cV (aI @z (aI @s @C)))) ?_;refine rX trivial (kF _ _) A (by rw[eh];omega) (fun b y=> .inl (by have:=(A.lt y).1;omega)) _ fun h2 g2 k2=> ?_
     have e:cZ h c (l.drop a)= .ok (h,c++[h]) 1:=by unfold cZ;rw[if_neg L,fh]
     rw[e];refine jB ?_
     have:=ih r h2 (n'+2) h (c++[h]) (.slice (some ⟨n'+1,0,none⟩) ((aW .i64 (iN c)).length+1) (bh+((aW .i64 (iN c)).length+1))) (a+1) jO ((k2 n jO fun y=>by have:=(A.lt y).1;omega).trans g) (by rw[bC];omega) jO jO i Z (by rw[bE];simp only[cK,hC];omega) (by
      rw[pr,mO]
      exact .inr ⟨n'+1,by simp[eh,iN],g2,jO,jO⟩)
     rw[<-jf]at this;exact this
    |true=>
     rw[y]at s fh;have C:(48+((bn true:Nat):Int)==48)=false:=rfl;by_cases X:a+1=l.length
     ·have D:((a:Int)+1==((l.length:Nat):Int))=true:=beq_iff_eq.2 jO;refine jA (aI @t (aI @cV (aI @z (aI @s (aI @C @D))))) ?_
      have e:cZ h c (l.drop a)= .short:=by unfold cZ;rw[if_neg L,fh,X,sO]
      rw[e];refine sh _ fun i p=> ?_
      (try unfold qu);(try dsimp only)
      exact dV trivial trivial p rfl jO ⟨_,_,_,rfl,rfl,rfl⟩
     ·have D:(((a+1:Nat):Int)==((l.length:Nat):Int))=false:=beq_eq_false_iff_ne.2 jO;have E:a+1<l.length:=jO;have x:l.drop (a+1)=l[a+1]::l.drop (a+1+1):=qP E;have B:l.getD (a+1) false=l[a+1]:=by rw[bw,bA E];rfl
      have o:=pD l .i64 ((a+1:Nat):Int) jO jO;rw[cR,B]at o;have K:(a:Int)+1=((a+1:Nat):Int):=jO;obtain⟨v,W⟩:∃v,l[a+1]=v:=⟨_,rfl⟩;rw[W]at o x
      have e:cZ h c (l.drop a)=jn ((h:Int)+1-2*(bn v:Int)) c 2:=by unfold cZ;rw[if_neg L,fh,x]
      rw[e]
      have j:∀(m:Int) (u2:Bool),m=(h:Int)+1-2*(bn v:Int)->(1<=m∧m<=20)->af (fun _=>False) n (rN Y (aj aa gt Y (d+1)) r (qu Y (aj aa gt Y (d+1))) (tx l) (jI (size:Int)) (jP n 0) (jI m) (.slice ga (iN c).length gc) (jI ((a:Int)+2)) (.bool false) (.bool false)) h' n' (sb n (match jn ((h:Int)+1-2*(bn v:Int)) c 2 with
       | .short=> .short
       | .bad e=> .bad e
       | .ok (m,P) u=>eu N size m P ((l.drop a).drop u) (a+u))):=by
       intro m _ hm hr;unfold jn;rw[<-hm,if_pos hr];have:=ih r h' n' m.toNat c (.slice ga (iN c).length gc) (a+2) R g (by rw[bC];omega) jO jO jO jO T A;rw[<-jf,Int.toNat_of_nonneg jO]at this;exact this
      have q:∀(k:Value->M Value),¬(1<=(h:Int)+1-2*(bn v:Int)∧(h:Int)+1-2*(bn v:Int)<=20)->(∀i:H,i.get n=some ⟨269,true,[.slice none 0 0,jI 0,jI 22]⟩->af (fun _=>False) n (k undef) i n' (sb n (.bad 22)))->af (fun _=>False) n (aM 3 (jP n 0) (.agg #[.slice none 0 0,jI 0,jI 22]) k) h' n' (sb n (match jn ((h:Int)+1-2*(bn v:Int)) c 2 with
       | .short=> .short
       | .bad e=> .bad e
       | .ok (m,P) u=>eu N size m P ((l.drop a).drop u) (a+u))):=fun k hw U=>by unfold jn;rw[if_neg hw];exact cq (sz:=3) trivial (vs:=[.slice none 0 0,jI 0,jI 22]) rfl rfl rfl g jO (.inl (ah _)) _ fun i p Q=>U i p
      cases v with
      |false=>
       have J:(48+((bn false:Nat):Int)==48)=true:=rfl;have b0:(2:Int)*((bn false:Nat):Int)=0:=rfl;have I:¬((h:Int)+1<1):=jO;by_cases G:(20:Int)<(h:Int)+1
       ·refine jA (aI @t (aI @cV (aI @z (aI @s (aI @C (aI @D (aI @K (aI @o (aI @J (aI @I @G)))))))))) ?_;refine q _ jO fun i p=> ?_
        (try unfold qu);(try dsimp only)
        exact dV trivial trivial p rfl jO ⟨_,_,_,rfl,rfl,rfl,rfl⟩
       ·refine jA (aI @t (aI @cV (aI @z (aI @s (aI @C (aI @D (aI @K (aI @o (aI @J (aI @I @G)))))))))) ?_;exact j ((h:Int)+1) false jO jO
      |true=>
       have J:(48+((bn true:Nat):Int)==48)=false:=rfl;have b0:(2:Int)*((bn true:Nat):Int)=2:=rfl;have G:¬((20:Int)<(h:Int)-1):=jO;by_cases I:(h:Int)-1<1
       ·refine jA (aI @t (aI @cV (aI @z (aI @s (aI @C (aI @D (aI @K (aI @o (aI @J (aI @I @G)))))))))) ?_;refine q _ jO fun i p=> ?_
        (try unfold qu);(try dsimp only)
        exact dV trivial trivial p rfl jO ⟨_,_,_,rfl,rfl,rfl,rfl⟩
       ·refine jA (aI @t (aI @cV (aI @z (aI @s (aI @C (aI @D (aI @K (aI @o (aI @J (aI @I @G)))))))))) ?_;exact j ((h:Int)-1) false jO jO
theorem ahI(l:List Bool)(E:l.length<=1000000)(j:3000000<=Y){size:Nat}(D:1<=size)(i:size<=258):af (fun _=>False) n (aj aa gt Y (d+2) 197 #[tx l,jI (size:Int)]) h n (sb n (eu (l.length+1) size 0 [] l 0)):=by
 rw[aC (fun _=>afm) rfl];refine af.aB ?_;unfold I0;refine dL BR _ ?_;have o:=fun(h:H) (I:List Value)=>get_eq h n (some ⟨269,true,I⟩);have c:¬([]:List Nat).length=size:=by show¬0=size;omega
 have t:eu (l.length+1) size 0 [] l 0=match cZ 0 [] l with
  | .short=> .short
  | .bad e=> .bad e
  | .ok (m,g) u=>eu l.length size m g (l.drop u) (0+u):=by
  show(if([]:List Nat).length=size then _ else _)=_;rw[if_neg c]
 have b:cZ 0 [] l=if l.length<5 then .short else jn (num (l.take 5) 0:Int) [] 5:=by unfold cZ;rw[if_pos rfl]
 by_cases y:l.length<5
 ·have r:((l.length:Nat):Int)<5:=jO;refine jA (aI @cV @r) ?_;rw[t,b,if_pos y];refine cq (sz:=3) trivial (vs:=[.slice none 0 0,jI 0,jI 3]) rfl rfl rfl (o _ _) jO (.inl (ah _)) _ fun G p A=> ?_;exact dV trivial trivial p rfl jO ⟨_,_,_,rfl,rfl,rfl⟩
 ·have r:¬((l.length:Nat):Int)<5:=jO;have s:=fun(k:Value->M Value)=>D1 l .i64 (5:Int) k jO jO;have i1:(5:Int).toNat=5:=rfl;rw[i1]at s;have x:=hH (l.take 5);rw[cO,gZ jO]at x;refine jA (aI @cV (aI @r @s)) ?_;refine bz (Kv (Y:=Y) (d:=d) (l.take 5) (by rw[cO];omega) jO) jO (fun _ _ h=>h.elim) ?_;obtain⟨v,C⟩:∃v,num (l.take 5) 0=v:=⟨_,rfl⟩;rw[C]at x b⊢;have f:IntKind.i64.wrap ((v:Nat):Int)=(v:Int):=aH jO jO;rw[t,b,if_neg y];unfold jn;rw[cR];simp only[fy]
  have a:¬(1<=(v:Int)∧(v:Int)<=20)->af (fun _=>False) n (aM 3 (jP n 0) (.agg #[.slice none 0 0,jI 0,jI 22]) fun _=>aT 3 (jP n 0) fun v=>ag [v]) (h.set n (some ⟨269,true,[.slice none 0 0,jI 0,jI 0]⟩)) (n+1) (sb n (match (if 1<=(v:Int)∧(v:Int)<=20 then St.ok (v,([]:List Nat)) 5 else .bad 22:St (Nat×List Nat))with
   | .short=> .short
   | .bad e=> .bad e
   | .ok (m,g) u=>eu l.length size m g (l.drop u) u)):=by
   intro B;rw[if_neg B];refine cq (sz:=3) trivial (vs:=[.slice none 0 0,jI 0,jI 22]) rfl rfl rfl (o _ _) jO (.inl (ah _)) _ fun G p A=> ?_;exact dV trivial trivial p rfl jO ⟨_,_,_,rfl,rfl,rfl,rfl⟩
  by_cases q:(v:Int)<1
  ·refine jA (aI @f @q) ?_;exact a jO
  ·by_cases z:(20:Int)<(v:Int)
   ·refine jA (aI @f (aI @q @z)) ?_;exact a jO
   ·refine jA (aI @f (aI @q @z)) ?_;rw[if_pos jO];exact ahH E j i l.length Y _ (n+1) v [] (.slice none 0 0) 5 (ah _) (o _ _) (by rw[bC];omega) jO jO jO jO (aP _) (Own.nil _ _ _ _)
end
theorem D2(a b:Bool):dJ aa .neq 4 (.bool a) (.bool b)=some (.bool (xor a b)):=by cases a<;>cases b<;>kernel_rfl
section
variable {Y d n:Nat} {h:H}
theorem ahJ(l:List Bool)(k:Nat)(N:k<=20)(L:l.length<=k)(I:100<=Y):af (fun _=>False) n (aj aa gt Y (d+1) 207 #[tx l,jI (k:Int)]) h n fun s h' n'=>s=tx ((ik l).1++bQ (k-l.length) false)∧h'=h∧n'=n:=by
 rw[aC (fun _=>Ux) rfl];refine af.aB ?_;unfold CZ
 have y:∀(C q:Value) (c:Bool) (r a:Nat) (t:List Bool),t=(ik l).1++bQ (k-l.length-r) false->r<=k-l.length->r<a->af (fun _=>False) n (uf Y (aj aa gt Y d) a (CY Y (aj aa gt Y d)) (tx l) (jI (k:Int)) (.string {data:=#[]}) (tx t) (.bool c) C q) h n fun s h' n'=>s=tx ((ik l).1++bQ (k-l.length) false)∧h'=h∧n'=n:=by
  intro C q c r
  induction r with
  |zero=>
   intro a t i G B;obtain⟨a,rfl⟩:∃f,a=f+1:=⟨a-1,jO⟩;have m:t.length=k:=by rw[i,bE,wA,jX];omega
   have g:¬(((t.length:Nat):Int)<(k:Int)):=jO;rw[uf];refine jA (aI @cV @g) ?_
   (try unfold CY);(try unfold e);(try dsimp only)
   refine jB ?_;rw[i];rfl
  |succ r A=>
   intro a t i G B;obtain⟨a,rfl⟩:∃f,a=f+1:=⟨a-1,jO⟩;have m:t.length=k-(r+1):=by rw[i,bE,wA,jX];omega
   have g:((t.length:Nat):Int)<(k:Int):=jO;have p:=wK t [false] (by rw[m];show _+1<=_;omega);rw[uf];refine jA (aI @cV (aI @g (aI @wJ @p))) ?_;refine A a (t++[false]) ?_ jO jO;rw[i,List.append_assoc,<-amY,show k-l.length-(r+1)+1=k-l.length-r by omega]
 have z:∀(j:Nat) (a:Nat),j<=l.length->j<a->af (fun _=>False) n (rO Y (aj aa gt Y d) a (yS Y (aj aa gt Y d)) (tx l) (jI (k:Int)) (.string {data:=#[]}) (tx (ik (l.drop j)).1) (.bool (ik (l.drop j)).2) (jI ((j:Int)-1))) h n fun s h' n'=>s=tx ((ik l).1++bQ (k-l.length) false)∧h'=h∧n'=n:=by
  intro j
  induction j with
  |zero=>
   intro a J B;obtain⟨a,rfl⟩:∃f,a=f+1:=⟨a-1,jO⟩;rw[rO];have g:decide ((0:Int)<=((0:Nat):Int)-1)=false:=decide_eq_false jO;refine jA @g ?_
   (try unfold yS);(try dsimp only)
   refine y _ _ _ (k-l.length) Y _ ?_ (ah _) jO;rw[sM,js];simp
  |succ j A=>
   intro a J B;obtain⟨a,rfl⟩:∃f,a=f+1:=⟨a-1,jO⟩;have D:j<l.length:=jO;have fh:l.drop j=l[j]::l.drop (j+1):=qP D;have iG:l.getD j false=l[j]:=by rw[bw,bA D];rfl
   have o:=pD l .i64 (j:Int) jO jO;rw[cR,iG]at o;have:=A a jO jO;rw[fh]at this;rw[rO,show(((j+1:Nat):Int)-1)=(j:Int) by omega];obtain⟨b,K⟩:∃b,l[j]=b:=⟨_,rfl⟩;obtain⟨c,E⟩:∃c,(ik (l.drop (j+1))).2=c:=⟨_,rfl⟩;obtain⟨t,i⟩:∃t,(ik (l.drop (j+1))).1=t:=⟨_,rfl⟩;have m:t.length<=20:=by rw[<-i,wA,bC];omega
   rw[K]at this o;simp only[ik]at this;rw[E,i]at this;rw[E,i];have g:(0:Int)<=(j:Int):=jO;have x:=wK [false] t (by show 1+_<=_;omega);have p:=wK [true] t (by show 1+_<=_;omega);have v:(48+((bn false:Nat):Int)==49)=false:=rfl;have u:(48+((bn true:Nat):Int)==49)=true:=rfl;cases b<;>cases c
   ·refine jA (aI @g (aI @o (aI @v (aI @u (aI @wJ (aI @D0 (aI @x (aI @p (aI @D2 (aI @LW (aI @LX (aI @eK @cx)))))))))))) ?_;exact this
   ·refine jA (aI @g (aI @o (aI @v (aI @u (aI @wJ (aI @D0 (aI @x (aI @p (aI @D2 (aI @LW (aI @LX (aI @eK @cx)))))))))))) ?_;exact this
   ·refine jA (aI @g (aI @o (aI @v (aI @u (aI @wJ (aI @D0 (aI @x (aI @p (aI @D2 (aI @LW (aI @LX (aI @eK @cx)))))))))))) ?_;exact this
   ·refine jA (aI @g (aI @o (aI @v (aI @u (aI @wJ (aI @D0 (aI @x (aI @p (aI @D2 (aI @LW (aI @LX (aI @eK @cx)))))))))))) ?_;exact this
 have:=z l.length Y (ah _) jO;rw[sO]at this;refine jA @cV ?_;exact this
end
def sd(ln:List Nat)(n i j:Nat):Value:=if ln.getD j 0<n∨(ln.getD j 0=n∧j<i)then tx (b8 (da ln j) (ln.getD j 0))else tx []
def ck(ln:List Nat)(n i:Nat):List Value:=(gE ln.length).map (sd ln n i)
theorem D3(ln:List Nat)(n i:Nat):(ck ln n i).length=ln.length:=by unfold ck;simp
theorem XD{ln:List Nat}{n i j:Nat}(h:j<(ck ln n i).length):(ck ln n i)[j]=sd ln n i j:=by have:=List.getElem_map (sd ln n i) (l:=gE ln.length) (h:=h);rw[List.getElem_range]at this;exact this
theorem ahK{ln:List Nat}{n i:Nat}(h:ln.getD i 0≠n):ck ln n (i+1)=ck ln n i:=by
 unfold ck;apply oC;intro j _;unfold sd;by_cases e:j=i
 ·subst e;by_cases a:ln.getD j 0<n
  ·rw[if_pos (.inl a),if_pos (.inl a)]
  ·rw[if_neg (by rintro(q|⟨q,_⟩);exact a q;exact h q),if_neg (by rintro(q|⟨q,_⟩);exact a q;exact h q)]
 ·by_cases a:ln.getD j 0<n∨(ln.getD j 0=n∧j<i)
  ·rw[if_pos a,if_pos jO]
  ·rw[if_neg a,if_neg jO]
theorem ahL{ln:List Nat}{n i:Nat}(c:i<ln.length)(h:ln.getD i 0=n):(ck ln n i).set i (tx (b8 (da ln i) n))=ck ln n (i+1):=by
 apply List.ext_getElem
 ·rw[List.length_set,D3,D3]
 ·intro j d b;rw[D3]at b;rw[List.getElem_set,XD,XD];unfold sd;by_cases e:i=j
  ·subst e;rw[if_pos rfl,if_pos (.inr ⟨h,jO⟩),h]
  ·rw[if_neg e];by_cases a:ln.getD j 0<n∨(ln.getD j 0=n∧j<i)
   ·rw[if_pos a,if_pos jO]
   ·rw[if_neg a,if_neg jO]
theorem ahM(ln:List Nat)(n:Nat):ck ln n ln.length=ck ln (n+1) 0:=by
 unfold ck;apply oC;intro j b;rw[Z']at b;unfold sd;by_cases a:ln.getD j 0<n+1∨(ln.getD j 0=n+1∧j<0)
 ·rw[if_pos a,if_pos jO]
 ·rw[if_neg a,if_neg jO]
theorem ahN{ln:List Nat}(w:Wh ln):ck ln 1 0=bQ ln.length (tx []):=by unfold ck;rw[List.eq_replicate_iff];refine⟨jS,fun x b=> ?_⟩;obtain⟨j,a,rfl⟩:=List.mem_map.1 b;rw[Z']at a;unfold sd;have:=(w.at a).1;rw[if_neg jO]
def uz(ln:List Nat):List Value:=(gE ln.length).map fun j=>tx (b8 (da ln j) (ln.getD j 0))
theorem ahO{ln:List Nat}(w:Wh ln):ck ln 21 0=uz ln:=by unfold ck uz;apply oC;intro j a;rw[Z']at a;unfold sd;have:=(w.at a).2;rw[if_pos jO]
section
variable {Y d n:Nat} {h:H}
theorem ahP{v:Value}{ln:List Nat}(hR:Row h n 3 .i64 v (iN ln))(w:Wh ln)(hl:ln.length<=258)(u1:0<ln.length)(u0:3000<=Y):af (fun _=>False) n (aj aa gt Y (d+2) 178 #[v]) h n fun X h' n'=>X= .slice (some ⟨n,0,none⟩) ln.length ln.length∧n'=n+1∧h'.get n=some ⟨9,true,uz ln⟩∧∀b,b<n->h'.get b=h.get b:=by
 have N:=fa ln;obtain⟨q,e,cap,o,ks,rfl,O,P,_,_,_,K⟩:=hR.some jO;rw[aC (fun _=>Ts) rfl];refine af.aB ?_;unfold CJ;refine jB ?_;rw[N];refine Ev.run_make trivial ln.length ln.length _ (ah _) jO ?_;refine dE 20 (fun C i (s:List Bool)=>rK Y (aj aa gt Y (d+1)) C (vZ Y (aj aa gt Y (d+1))) (.slice (some ⟨q,e,none⟩) ln.length cap) (.slice none 0 0) (.slice (some ⟨n,0,none⟩) ln.length ln.length) (tx s) (jI ((i+1:Nat):Int))) (fun i s h' n'=>n'=n+1∧h'.get n=some ⟨9,true,ck ln (i+1) 0⟩∧(∀b,b<n->h'.get b=h.get b)∧lk ln (i+1) 0 s∧s.length<=i) ?_ ?_ Y 0 [] _ (n+1) (aP _) jO ⟨rfl,by rw[get_eq,ahN w];rfl,fun b G=>aw _ _ jO,lk.zero w,aP _⟩
 ·rintro C s h' n' ⟨rfl,g,k,_⟩;rw[rK];have T:¬(((20+1:Nat):Int)<=20):=jO;refine jA @T ?_
  (try unfold vZ);(try dsimp only)
  refine jB ?_;exact⟨by rw[g,ahO w],k⟩
 ·rintro C i s h' n' hi ⟨rfl,g,k,lc,sl⟩ next;rw[rK];have T:((i+1:Nat):Int)<=20:=jO;refine jA @T ?_;refine dE ln.length (fun m j (s:List Bool)=>pf Y (aj aa gt Y (d+1)) m (IJ Y (aj aa gt Y (d+1)) C (vZ Y (aj aa gt Y (d+1)))) (.slice (some ⟨q,e,none⟩) ln.length cap) (.slice none 0 0) (.slice (some ⟨n,0,none⟩) ln.length ln.length) (tx s) (jI ((i+1:Nat):Int)) (.bool true) (.slice (some ⟨q,e,none⟩) ln.length cap) (jI (ln.length:Int)) (jI (j:Nat))) (fun j s h' n'=>n'=n+1∧h'.get n=some ⟨9,true,ck ln (i+1) j⟩∧(∀b,b<n->h'.get b=h.get b)∧lk ln (i+1) j s∧s.length<=i+1) ?_ ?_ Y 0 s h' (n+1) (aP _) jO ⟨rfl,g,k,lc,jO⟩
  ·rintro m s2 z n2 ⟨rfl,u,y,l,f⟩;rw[pf];refine jA @eO ?_
   (try unfold IJ);(try unfold CI);(try dsimp only)
   refine jB ?_;rw[ahM]at u;have:=next s2 z (n+1) ⟨rfl,u,y,l.row,f⟩
   first|exact this|(rw[show(((i+1:Nat):Int)+1)=((i+1+1:Nat):Int) by omega];exact this)
  ·rintro m j s2 z n2 E ⟨rfl,u,y,l,f⟩ a;rw[pf];have J:((j:Nat):Int)<((ln.length:Nat):Int):=jO;have D:=K j jO;rw[po]at D;have Q:z.get q=_:=(y q P).trans O;have u2:q<n+1:=jO;by_cases A:ln.getD j 0=i+1
   ·obtain⟨c,p⟩:=l.nN w E A;have I:((((ln.getD j 0:Nat):Int)) !=((i+1:Nat):Int))=false:=by rw[A];simp
    have nm:=ahL E A;have B:j<(ck ln (i+1) j).length:=by rw[D3];exact E
    by_cases L:s2=[]
    ·subst L;rw[if_pos rfl]at c;have R:decide (([]:List Bool)=[])=true:=rfl;refine jA (aI @J (aI @Q (aI @D (aI @I (aI @Xy (aI @wL @R)))))) ?_;refine dE (i+1) (fun x r (_:Unit)=>tX Y (aj aa gt Y (d+1)) x (Tn Y (aj aa gt Y (d+1)) m (IJ Y (aj aa gt Y (d+1)) C (vZ Y (aj aa gt Y (d+1))))) (.slice (some ⟨q,e,none⟩) ln.length cap) (.slice none 0 0) (.slice (some ⟨n,0,none⟩) ln.length ln.length) (tx (bQ r false)) (jI ((i+1:Nat):Int)) (jI (j:Nat)) (jI ((ln.getD j 0:Nat):Int)) (.bool true) (.slice (some ⟨q,e,none⟩) ln.length cap) (jI (ln.length:Int)) (jI (j:Nat)) (.bool true) (.bool false) (.bool true) (jI ((i+1:Nat):Int)) (jI (r:Nat))) (fun r _ h' n'=>n'=n+1∧h'=z) ?_ ?_ Y 0 () z (n+1) (aP _) jO ⟨rfl,rfl⟩
     ·rintro x _ U Z ⟨rfl,rfl⟩;rw[tX];refine jA @eO ?_
      (try unfold Tn);(try unfold CH);(try dsimp only)
      rw[c];refine jA @J ?_;refine J8 trivial n j _ _ u jO B (Xz _) (.inl (ah _)) ?_;refine jB ?_;rw[nm];exact a (b8 (da ln j) (i+1)) _ (n+1) ⟨rfl,get_eq _ _ _,fun b G=>by rw[aw _ _ jO];exact y b G,p,by rw[gT];exact ah _⟩
     ·rintro x r _ U Z hr ⟨rfl,rfl⟩ t;rw[tX];have c3:((r:Nat):Int)<((i+1:Nat):Int):=jO;have W:=wK (bQ r false) [false] (by rw[jX];show _+1<=_;omega);rw[<-amY]at W;refine jA (aI @c3 (aI @wJ @W)) ?_;exact t () U (n+1) ⟨rfl,rfl⟩
    ·have R:decide (s2=[])=false:=decide_eq_false L;rw[if_neg L]at c;refine jA (aI @J (aI @Q (aI @D (aI @I (aI @Xy (aI @wL @R)))))) ?_;refine bz (ahJ (Y:=Y) (d:=d) s2 (i+1) jO f jO) jO (fun _ _ h=>h.elim) ?_;rw[c];refine jB ?_;refine J8 trivial n j _ _ u jO B (Xz _) (.inl (ah _)) ?_;refine jB ?_;rw[nm];exact a (b8 (da ln j) (i+1)) _ (n+1) ⟨rfl,get_eq _ _ _,fun b G=>by rw[aw _ _ jO];exact y b G,p,by rw[gT];exact ah _⟩
   ·have I:((((ln.getD j 0:Nat):Int)) !=((i+1:Nat):Int))=true:=by rw[bne_iff_ne];omega
    refine jA (aI @J (aI @Q (aI @D @I))) ?_;rw[<-ahK A]at u;exact a s2 z (n+1) ⟨rfl,u,y,l.skip E A,f⟩
end
section
variable {Y d n:Nat} {h:H}
theorem ahQ(a b:List Bool)(j:b.length<=1000000000):af (fun _=>False) n (aj aa gt Y (d+1) 199 #[tx a,tx b]) h n fun i h' n'=>i= .bool (decide (b.length<=a.length∧a.take b.length=b))∧h'=h∧n'=n:=by
 rw[aC (fun _=>afo) rfl];refine af.aB ?_;unfold TW;by_cases c:b.length<=a.length
 ·have f:((b.length:Nat):Int)<=((a.length:Nat):Int):=jO;have g:=fun(k:Value->M Value)=>D1 a .i64 ((b.length:Nat):Int) k jO jO;rw[cR]at g;refine jA (aI @cV (aI @f (aI @g @wL))) ?_;by_cases e:a.take b.length=b
  ·rw[decide_eq_true e,decide_eq_true ⟨c,e⟩]
  ·rw[decide_eq_false e,decide_eq_false fun q=>e q.2]
 ·have f:¬((b.length:Nat):Int)<=((a.length:Nat):Int):=jO;refine jA (aI @cV @f) ?_;rw[decide_eq_false fun q=>c q.1]
theorem XE{ln:List Nat}(w:Wh ln){bs:List Bool}{i:Nat}(c:i<ln.length):Mt ln bs i↔((b8 (da ln i) (ln.getD i 0)).length<=bs.length∧bs.take (b8 (da ln i) (ln.getD i 0)).length=b8 (da ln i) (ln.getD i 0)):=by
 rw[gT];constructor
 ·rintro⟨_,a,b⟩;refine⟨a, ?_⟩;have:=wy b;rw[cO,gZ a]at this;exact this
 ·rintro⟨a,b⟩;exact⟨c,a,by rw[b,zv (w.Kd c)]⟩
theorem Ky{ln:List Nat}{i:Nat}(a:i<ln.length):(uz ln)[i]? =some (tx (b8 (da ln i) (ln.getD i 0))):=by unfold uz;rw[iW,List.getElem?_range a];rfl
def wM(o:Option Nat):Int:=match o with
 |none=>-1
 |some s=>(s:Int)
theorem XF{b:Nat}{o:Bool}{ln:List Nat}(w:Wh ln)(bs:List Bool)(g:h.get b=some ⟨9,o,uz ln⟩)(u:b<n)(t:ln.length<=258)(p:1000<=Y):af (fun _=>False) n (aj aa gt Y (d+2) 164 #[.slice (some ⟨b,0,none⟩) ln.length ln.length,tx bs]) h n fun k h' n'=>k=jI (wM (fC ln bs))∧h'=h∧n'=n:=by
 rw[aC (fun _=>aeS) rfl];refine af.aB ?_;unfold Iy;refine jB ?_;refine dE ln.length (fun f i (_:Unit)=>tV Y (aj aa gt Y (d+1)) f (yC Y (aj aa gt Y (d+1))) (.slice (some ⟨b,0,none⟩) ln.length ln.length) (tx bs) (jI 0) (.slice (some ⟨b,0,none⟩) ln.length ln.length) (jI (ln.length:Int)) (jI (i:Nat))) (fun i _ h' n'=>(h'=h∧n'=n)∧∀j,j<i->¬Mt ln bs j) ?_ ?_ Y 0 () h n (aP _) jO ⟨⟨rfl,rfl⟩,fun j e=>absurd e (kS j)⟩
 ·rintro f _ h' n' ⟨⟨rfl,rfl⟩,c⟩;rw[tV];refine jA @eO ?_
  (try unfold yC);(try dsimp only)
  refine jB ?_;rw[W2 fun i m=>c i m.1 m];rfl
 ·rintro f i _ h' n' a ⟨⟨rfl,rfl⟩,c⟩ next;rw[tV];have s:((i:Nat):Int)<((ln.length:Nat):Int):=jO;have l:=Ky a;refine jA (aI @s (aI @g @l)) ?_;have r:=(w.at a).2;refine bz (ahQ (Y:=Y) (d:=d) bs (b8 (da ln i) (ln.getD i 0)) (by rw[gT];omega)) (ah _) (fun _ _ h=>h.elim) ?_;by_cases m:Mt ln bs i
  ·rw[decide_eq_true ((XE w a).1 m)];refine jB ?_
   (try unfold yC);(try dsimp only)
   refine jB ?_;rw[DI m];rfl
  ·rw[decide_eq_false fun q=>m ((XE w a).2 q)];refine jB ?_
   exact next () h' n' ⟨⟨rfl,rfl⟩,fun j e=>by
    rcases Nat.lt_succ_iff_lt_or_eq.1 e with q|q
    ·exact c j q
    ·exact q▸m⟩
end
theorem zH{size:Nat}:∀(N c:Nat) (b:List Nat) (bs:List Bool) (a:Nat) (ln:List Nat) (d:Nat),wG size c b->eu N size c b bs a= .ok ln d->ln.length=size∧(∀x∈ln,1<=x∧x<=20)∧a<=d∧d<=a+bs.length
 |0,_,_,_,_,_,_,_,h=>by simp[eu]at h
 |N+1,c,b,bs,a,ln,d,k,h=>by
  unfold eu at h;split at h
  ·next e=>simp only[St.ok.injEq]at h;obtain⟨rfl,rfl⟩:=h;exact⟨e,k.all,ah _,EV _ _⟩
  ·next e=>
   split at h
   ·cases h
   ·cases h
   ·next m l u f=>have g:=DV k (LU k.len e) f;have i:=DW f;have:=zH N m l (bs.drop u) (a+u) ln d g h;rw[bC]at this;exact⟨this.1,this.2.1,jO,jO⟩
theorem XG{size:Nat}:∀(N c:Nat) (b:List Nat) (bs:List Bool) (a:Nat) (e:Int),eu N size c b bs a= .bad e->e=22
 |0,_,_,_,_,_,h=>by simp[eu]at h
 |N+1,c,b,bs,a,e,h=>by
  unfold eu at h;split at h
  ·cases h
  ·split at h
   ·cases h
   ·next h1=>cases h;exact Kp h1
   ·next m l u h1=>exact XG N m l (bs.drop u) (a+u) e h
def dW:Nat->Nat->List Bool->Nat->List (List Nat)->St (List (List Nat))
 |0,_,_,a,c=> .ok c a
 |t+1,b,d,a,c=>match eu (d.length+1) b 0 [] d 0 with
  | .short=> .short
  | .bad e=> .bad e
  | .ok f u=>if dM (iN f)=1048576 then dW t b (d.drop u) (a+u) (c++[f])else .bad 22
def TT(h:H)(lo n:Nat)(v:Value)(lns:List (List Nat)):Prop:=∃a,Own h lo n 230 v a∧a.length=lns.length∧∀i,i<lns.length->∃b,a.getD i undef= .slice (some ⟨b,0,none⟩) (lns.getD i []).length (lns.getD i []).length∧h.get b=some ⟨9,true,uz (lns.getD i [])⟩∧lo<=b∧b<n
theorem TT.nil(h:H)(lo n:Nat):TT h lo n (.slice none 0 0) []:=⟨[],Own.nil _ _ _ _,rfl,fun i a=>absurd a (kS i)⟩
theorem TT.au{h h':H}{lo n n':Nat}{v:Value}{lns:List (List Nat)}(x:TT h lo n v lns)(j:n<=n')(a:∀b,lo<=b->b<n->h'.get b=h.get b):TT h' lo n' v lns:=by obtain⟨p,o,k,f⟩:=x;refine⟨p,o.au j fun b c=>a b (o.lt c).1 (o.lt c).2,k,fun i l=> ?_⟩;obtain⟨b,e,g,d,m⟩:=f i l;exact⟨b,e,(a b d m).trans g,d,jO⟩
theorem TT.len{h:H}{lo n:Nat}{v:Value}{lns:List (List Nat)}(x:TT h lo n v lns):∃a c,v= .slice a lns.length c:=by
 obtain⟨i,o,e,g⟩:=x;rcases o with ⟨d,f⟩|⟨b,d,_⟩
 ·subst f;exact⟨none,0,by rw[d,<-e];rfl⟩
 ·exact⟨_,_,by rw[d,e]⟩
def XH(n:Nat)(r:St (List (List Nat)))(d:Value)(h':H)(n':Nat):Prop:=∃(tv:Value) (u e:Int),d= .agg #[tv,jI u,jI e]∧(∃a l c,tv= .slice a l c)∧
 match r with
 | .short=>e=3
 | .bad f=>f=22∧e=22
 | .ok b g=>e=0∧u=(g:Int)∧TT h' n n' tv b
section
variable {Y d n:Nat} {h:H}
theorem ahR{v:Value}{ln:List Nat}(f:Row h n 3 .i64 v (iN ln))(k:∀x∈ln,1<=x∧x<=20)(l:ln.length<=258)(b:3000000<=Y):af (fun _=>False) n (aj aa gt Y (d+2) 198 #[v]) h n fun g h' n'=>g= .bool (decide (dM (iN ln)=1048576))∧h'=h∧n'=n:=by
 rw[aC (fun _=>afn) rfl];refine af.aB ?_;unfold TV;have j:=fa ln
 have a:∀x∈iN ln,1<=x∧x<=20:=fun x c=>by obtain⟨w,i,rfl⟩:=List.mem_map.1 c;have:=k w i;omega
 refine bz (agi Y d n h v (iN ln) f 1 20 jO b) (ah _) (fun _ _ h=>h.elim) ?_;rw[wv.2 a];refine jB ?_;refine bz (agH Y d n h v (iN ln) f jO (fun x c=>by have:=a x c;omega) b) (ah _) (fun _ _ h=>h.elim) ?_
 have e:(dM (iN ln)==1048576)=decide (dM (iN ln)=1048576):=by
  by_cases q:dM (iN ln)=1048576
  ·rw[decide_eq_true q,q];rfl
  ·rw[decide_eq_false q];exact beq_eq_false_iff_ne.2 q
 exact jC @e
theorem ahS{l:List Bool}(hl:l.length<=1000000)(U:3000000<=Y){size T:Nat}(v5:3<=size)(u3:size<=258)(hT:T<=6):∀(t A i:Nat) (h':H) (n':Nat) (tv:Value) (lns:List (List Nat)) (a:Nat),i+t=T->n+2<=n'->h'.get n=some ⟨228,true,[.slice none 0 0,jI 0,jI 0]⟩->h'.get (n+1)=some ⟨228,true,[tv,jI (a:Int),jI 0]⟩->t<A->a<=l.length->lns.length=i->TT h' (n+2) n' tv lns->
 af (fun _=>False) n (tT Y (aj aa gt Y (d+3)) A (tU Y (aj aa gt Y (d+3))) (tx l) (jI (T:Int)) (jI (size:Int)) (jP n 0) (jP (n+1) 0) (jI (T:Int)) (jI (i:Int))) h' n' (XH n (dW t size (l.drop a) a lns)):=by
 intro t
 induction t with
 |zero=>
  intro A i h' n' tv lns a hi u5 g g2 hf u9 u7 P;obtain⟨A,rfl⟩:∃f,A=f+1:=⟨A-1,jO⟩;obtain rfl:i=T:=jO;obtain⟨s,r,rfl⟩:=P.len;rw[tT];refine jA @eO ?_
  (try unfold tU);(try dsimp only)
  refine WI trivial trivial (n+1) 0 _ g2 jO jS ?_;refine cq (sz:=3) trivial (vs:=[.slice s lns.length r,jI (a:Int),jI 0]) rfl rfl rfl g jO (.inl (ah _)) _ fun h1 g1 k1=> ?_;refine dV trivial trivial g1 rfl jO ?_
  exact⟨_,_,_,rfl,⟨_,_,_,rfl⟩,rfl,rfl,by
   obtain⟨K,o,h1,O⟩:=P.au (ah _) fun b p w6=>k1 b jO
   exact⟨K,o.low jO,h1,fun i hi=>by obtain⟨b,e,g,h3,h4⟩:=O i hi;exact⟨b,e,g,jO,h4⟩⟩⟩
 |succ t ih=>
  intro A i h' n' tv lns a hi u5 g g2 hf u9 u7 P;obtain⟨A,rfl⟩:∃f,A=f+1:=⟨A-1,jO⟩;obtain⟨s,r,rfl⟩:=P.len;rw[tT];unfold dW;have c1:((i:Nat):Int)<((T:Nat):Int):=jO;have s1:=fun(k:Value->M Value)=>nT l .i64 (a:Int) k jO jO;rw[cR]at s1;have w3:n+1<n':=jO;have w5:(l.drop a).length=l.length-a:=bC;refine jA (aI @c1 (aI @g2 @s1)) ?_;refine aN aE (ahI (Y:=Y) (d:=d+1) (l.drop a) jO U (size:=size) jO u3) jO (fun _ _ h=>h.elim) fun v1 h1 m v4 v3 c=> ?_;obtain⟨lv,u,e,rfl,c⟩:=c
  have u6:∃x y z,lv= .slice x y z:=by
   cases J:eu ((l.drop a).length+1) size 0 [] (l.drop a) 0 with
   |short=>rw[J]at c;exact⟨_,_,_,c.2⟩
   |bad e0=>rw[J]at c;exact⟨_,_,_,c.2.2⟩
   |ok D C=>rw[J]at c;obtain⟨x,y,z⟩:=c.2.2.row.len;exact⟨_,_,_,z⟩
  obtain⟨lx,ly,lz,rfl⟩:=u6;refine dL BR _ ?_;refine cq (sz:=3) trivial (vs:=[.slice lx ly lz,jI u,jI e]) rfl rfl rfl (get_eq _ _ _) jO (.inl jO) _ fun O g3 k3=> ?_;have un:∀b,b<n'->O.get b=h'.get b:=fun b p=>by rw[k3 b jO,aw _ _ jO,v3 b p id]
  have gr:=(un n jO).trans g;have g4:=(un (n+1) jO).trans g2;have u1:TT O (n+2) (m+1) (.slice s lns.length r) lns:=P.au jO fun b _ p=>un b p;have w2:m<m+1:=jO;have w0:n+1<m+1:=jO;cases J:eu ((l.drop a).length+1) size 0 [] (l.drop a) 0 with
  |short=>
   rw[J]at c;obtain⟨rfl,_⟩:=c;have z3:((3:Int) !=0)=true:=rfl;refine jA (aI @g3 (aI @g4 @z3)) ?_;refine cq (sz:=3) trivial (vs:=[.slice s lns.length r,jI 0,jI 3]) rfl rfl rfl gr jO (.inl (ah _)) _ fun G g5 k5=> ?_
   (try unfold tU);(try dsimp only)
   exact dV trivial trivial g5 rfl jO ⟨_,_,_,rfl,⟨_,_,_,rfl⟩,rfl⟩
  |bad e0=>
   rw[J]at c;obtain⟨rfl,rfl,_⟩:=c;have z3:((22:Int) !=0)=true:=rfl;refine jA (aI @g3 (aI @g4 @z3)) ?_;refine cq (sz:=3) trivial (vs:=[.slice s lns.length r,jI 0,jI 22]) rfl rfl rfl gr jO (.inl (ah _)) _ fun G g5 k5=> ?_
   (try unfold tU);(try dsimp only)
   exact dV trivial trivial g5 rfl jO ⟨_,_,_,rfl,⟨_,_,_,rfl⟩,rfl,rfl⟩
  |ok D C=>
   rw[J]at c;obtain⟨rfl,rfl,ol⟩:=c;have R:=zH _ _ _ _ _ _ _ ⟨aP _,aP _,fun x hx=>absurd hx jS⟩ J;have z0:((0:Int) !=0)=false:=rfl;have w1:IntKind.i64.wrap ((a:Int)+((C:Nat):Int))=((a+C:Nat):Int):=by rw[aH jO jO];omega
   have il:n<=n+1:=jO;refine jA (aI @g3 (aI @g4 (aI @z0 (aI @w1 (aI @il (aI @true_or @or_true)))))) ?_;obtain⟨G,hh⟩:∃G:H,G=O.set (n+1) (some ⟨228,true,[.slice s lns.length r,jI ((a+C:Nat):Int),jI 0]⟩):=⟨_,rfl⟩;rw[<-hh];have g6:G.get (n+1)=some ⟨228,true,[.slice s lns.length r,jI ((a+C:Nat):Int),jI 0]⟩:=by rw[hh,get_eq]
   have E:∀b,b≠n+1->G.get b=O.get b:=fun b p=>by rw[hh,aw _ _ p]
   have g7:=(E m jO).trans g3;have X:=(E n jO).trans gr
   have o5:Own G n' m 3 (.slice lx ly lz) (aW .i64 (iN D)):=ol.au (ah _) fun b p=>by have:=ol.lt p;rw[E b jO,k3 b jO,aw _ _ jO]
   have r5:Row G (m+1) 3 .i64 (.slice lx ly lz) (iN D):=(o5.au (eL m) fun _ _=>rfl).row;have u0:TT G (n+2) (m+1) (.slice s lns.length r) lns:=u1.au (ah _) fun b p _=>E b jO;refine bz (ahR (Y:=Y) (d:=d+1) r5 R.2.1 jO U) jO (fun _ _ h=>h.elim) ?_;by_cases N:dM (iN D)=1048576
   ·rw[decide_eq_true N];have e:(if dM (iN D)=1048576 then dW t size ((l.drop a).drop C) (a+C) (lns++[D])else .bad 22)=dW t size ((l.drop a).drop C) (a+C) (lns++[D]):=if_pos N;refine jA @eK ?_;refine gI trivial (n+1) 0 _ g6 (show n+1<m+1 by omega) (ah _) rfl fun T1 t1=> ?_;refine jB ?_;refine gI trivial m 0 _ g7 (show m<m+1 by omega) (ah _) rfl fun T2 t2=> ?_;refine jB ?_;have w:=wC R.2.1 N;refine lP aE (ahP (Y:=Y) (d:=d+1) r5 w jO jO jO) jO fun v6 h6 n6 T3 v8 I u4 t3=> ?_;obtain⟨rfl,rfl,v2,_⟩:=u4;obtain⟨K,Z,W,u8⟩:=u0;have L:Own h6 (n+2) (m+1+1) 230 (.slice s lns.length r) K:=Z.au jO fun b p=>I b (Z.lt p).2;refine Km trivial (acJ _ _ _) L jO (fun b p=> .inl (by have:=(L.lt p).1;omega)) _ fun w4 T4 T5 h8 g8 Q=> ?_;have nb:∀b,b<n+2->¬aJ (.slice s lns.length r) b:=fun b p q=>by have:=(L.lt q).1;omega
    have g9:=((Q (n+1) jO (nb _ jO)).trans (I (n+1) jO)).trans g6;have v0:=((Q n jO (nb _ jO)).trans (I n jO)).trans X;have v7:n+1<m+1+1+2:=jO;refine jB ?_;refine Kl (fun _ _=>rfl) ?_;try simp(disch:=first|omega|assumption) only[Nat.reduceAdd,Nat.reduceLT,RZ,g9,il,true_or,or_true,t1.cA t3,cx,eA,dQ]
    have:=ih A (i+1) (h8.set (n+1) (some ⟨228,true,[.slice (some ⟨m+1+1+1,0,none⟩) (K.length+1) (bh+(K.length+1)),jI ((a+C:Nat):Int),jI 0]⟩)) (m+1+1+2) (.slice (some ⟨m+1+1+1,0,none⟩) (K.length+1) (bh+(K.length+1))) (lns++[D]) (a+C) jO jO ((aw _ _ jO).trans v0) (get_eq _ _ _) jO jO (by rw[bE];simp only[cK,hC];omega) (by
     refine⟨K++[.slice (some ⟨m+1,0,none⟩) D.length D.length],.inr ⟨m+1+1+1,jS,by rw[aw _ _ jO];exact g8,jO,jO⟩,by simp[W],fun j hj=> ?_⟩;rw[bE]at hj;simp only[cK,hC]at hj;rw[DF,DF,W];by_cases v:j<lns.length
     ·rw[if_pos v,if_pos v];obtain⟨b,e1,e2,e3,e4⟩:=u8 j v;refine⟨b,e1, ?_,e3,jO⟩
      have u2:¬aJ (.slice s lns.length r) b:=fun q=>by obtain⟨B,q1,q2⟩:=Z.elem q;rw[e2]at q1;cases q1;exact absurd (show(9:Nat)=230 from q2) jD
      rw[aw _ _ jO,Q b jO u2,I b e4];exact e2
     ·rw[if_neg v,if_neg v,if_pos jO,if_pos jO];refine⟨m+1,rfl, ?_,jO,jO⟩;rw[aw _ _ jO,Q (m+1) jO fun q=>by have:=(Z.lt q).2;omega]
      exact v2)
    rw[<-jf]at this
    first|(rw[e];exact this)|(rw[if_pos N];exact this)
   ·rw[decide_eq_false N];have v9:n+1<m+1:=jO;refine jA (aI @cx @g6) ?_;rw[if_neg N];refine cq (sz:=3) trivial (vs:=[.slice s lns.length r,jI 0,jI 22]) rfl rfl rfl X jO (.inl (ah _)) _ fun h8 g8 Q=> ?_
    (try unfold tU);(try dsimp only)
    exact dV trivial trivial g8 rfl jO ⟨_,_,_,rfl,⟨_,_,_,rfl⟩,rfl,rfl⟩
theorem XJ(l:List Bool)(f:l.length<=1000000)(c:3000000<=Y){size T:Nat}(b:3<=size)(a:size<=258)(g:T<=6):af (fun _=>False) n (aj aa gt Y (d+4) 163 #[tx l,jI (T:Int),jI (size:Int)]) h n (XH n (dW T size l 0 [])):=by rw[aC (fun _=>aeQ) rfl];refine af.aB ?_;unfold Iw;refine dL vN _ ?_;refine jB ?_;refine dL vN _ ?_;refine cq (sz:=3) trivial (vs:=[.slice none 0 0,jI 0,jI 0]) rfl rfl rfl (get_eq _ _ _) jO (.inl jO) _ fun i j e=> ?_;have:=ahS (n:=n) (d:=d) f c b a g T Y 0 i (n+1+1) (.slice none 0 0) [] 0 jO jO (by rw[e n jO,aw _ _ jO,get_eq]) j jO (aP _) rfl (TT.nil _ _ _);rw[js]at this;exact this
end
def se:Nat->List (List Nat)->List Nat->Nat->List Bool->Int->List Int->Nat->Rs
 |0,_,_,_,_,_,_,_=> .err 3
 |N+1,b,took,c,e,d,out,a=>if took.length<=out.length/50 then .err 25 else
  match fC (b.getD (took.getD (out.length/50) 0) []) e with
  |none=> .err 3
  |some s=>if(out.length:Int)=d then .err 2 else
   if s+1=c then .ok (out++[(s:Int)]) (a+(b.getD (took.getD (out.length/50) 0) []).getD s 0)
   else se N b took c (e.drop ((b.getD (took.getD (out.length/50) 0) []).getD s 0)) d (out++[(s:Int)]) (a+(b.getD (took.getD (out.length/50) 0) []).getD s 0)
def qy(size:Nat)(bs:List Bool)(most:Int):Rs:=
 match dq (bs.length+1) fN bs 0 with
 | .short=> .err 3
 | .bad e=> .err e
 | .ok s a=>match dW s.t size (bs.drop a) 0 []with
   | .short=> .err 3
   | .bad e=> .err e
   | .ok b u=>se (bs.length+1) b s.bu size (bs.drop (a+u)) most [] (a+u)
def wN(n:Nat)(r:Rs)(held:Int)(c:Value)(h':H)(n':Nat):Prop:=∃(b:Value) (u hd e:Int),c= .agg #[b,jI u,jI hd,jI e]∧
 match r with
 | .err d=>e=d∧b= .slice none 0 0∧u=0
 | .ok out a=>e=0∧u=(a:Int)∧Own h' n n' 3 b (aW .i64 out)∧hd=held
section
variable {β:Type} {W:Nat->Prop} {n0:Nat} {h:H} {n m:Nat} {Q:β->H->Nat->Prop}
theorem XK{t:TypeId}{z cs:List Value}(a:z=cs)(k:Value×Tk->M β)(b:m<=n)(x:∀T,RB T m->af W n0 (k (jP n 0,T)) (h.set n (some ⟨t,true,cs⟩)) (n+1) Q):af W n0 ((az (cy t z M.ret)).bind k) h n Q:=by subst a;exact mj (o9 (qn _ _ (fun id=>jP id 0) _ _)) (eL n) jS (x _ ⟨jS,jS,b⟩)
end
section
variable {Y d n:Nat} {h:H}
theorem ahT {l:List Bool} (hl:l.length<=1000000) (x8:3000000<=Y) {size T:Nat} (w9:3<=size) (u6:size<=258) {lns:List (List Nat)} {took:List Nat} (most:Int) (hw:∀ln∈lns,Wh ln∧ln.length=size) (u5:∀v∈took,v<lns.length) (hT:lns.length=T) (v1:T<=6) (w5:took.length<=40000)
 {q1 q2 lo:Nat} {pv tv:Value} {x1 x2 x3 y1 y2:Int} (hq:n+1<=lo) (x5:q1<lo∧n<q1) (x4:q2<lo∧n<q2):
 ∀(N A:Nat) (h':H) (n':Nat) (ov:Value) (out:List Int) (a:Nat),lo<=n'->h'.get n=some ⟨188,true,[.slice none 0 0,jI 0,jI 0,jI 0]⟩->h'.get q1=some ⟨224,true,[pv,jI (T:Int),jI x2,jI x3,jI 0]⟩->h'.get q2=some ⟨228,true,[tv,jI y1,jI 0]⟩->Row h' lo 3 .i64 pv (iN took)->TT h' 0 lo tv lns->
  (l.drop a).length<N->N<=A->a<=l.length->out.length+(l.drop a).length<=1000000->Own h' lo n' 3 ov (aW .i64 out)->
  af (fun _=>False) n (vT Y (aj aa gt Y (d+4)) A (tL Y (aj aa gt Y (d+4))) (tx l) (jI (size:Int)) (jI most) (jP n 0) (jP q1 0) (jP q2 0) (jI (a:Int)) ov (.bool false) (.bool false)) h' n' (wN n (se N lns took size (l.drop a) most out a) ((took.length+T*size:Nat):Int)):=by
 intro N
 induction N with
 |zero=>intro A h' n' ov out a _ _ _ _ _ _ hN;omega
 |succ N ih=>
  intro A h' n' ov out a x7 g r g2 W tt hN y0 y6 x6 X;obtain⟨A,rfl⟩:∃f,A=f+1:=⟨A-1,jO⟩;obtain⟨oa,oc,rfl⟩:=X.row.len;have x9:=fa took;have y3:(l.drop a).length=l.length-a:=bC;have v7:q1<n':=jO;have v6:q2<n':=jO;have U:((out.length:Nat):Int).tdiv 50=((out.length/50:Nat):Int):=rfl;have I:IntKind.i64.wrap ((out.length/50:Nat):Int)=((out.length/50:Nat):Int):=aH jO jO
  have err:∀(e:Int) (k:Value->M Value),(∀C:H,C.get n=some ⟨188,true,[.slice none 0 0,jI 0,jI 0,jI e]⟩->af (fun _=>False) n (k undef) C n' (wN n (.err e) ((took.length+T*size:Nat):Int)))->af (fun _=>False) n (aM 4 (jP n 0) (.agg #[.slice none 0 0,jI 0,jI 0,jI e]) k) h' n' (wN n (.err e) ((took.length+T*size:Nat):Int)):=fun e k hk=>cq (sz:=4) trivial (vs:=[.slice none 0 0,jI 0,jI 0,jI e]) rfl rfl rfl g jO (.inl (ah _)) _ fun C r k1=>hk C r
  rw[vT];unfold se;by_cases x:took.length<=out.length/50
  ·obtain⟨pa,pc,rfl⟩:=W.len;have c1:(((iN took).length:Nat):Int)<=((out.length/50:Nat):Int):=jO;refine jA (aI @r (aI @U (aI @I @c1))) ?_;rw[if_pos x];refine err 25 _ fun C r=> ?_
   (try unfold tL);(try dsimp only)
   exact dV trivial trivial r rfl jO ⟨_,_,_,_,rfl,rfl,rfl,rfl⟩
  ·rw[if_neg x];obtain⟨b,u1,cap,o,ks,rfl,hg,y5,hv⟩:=W.some jO;have c1:¬(((iN took).length:Nat):Int)<=((out.length/50:Nat):Int):=jO;obtain⟨i,m⟩:∃t,took.getD (out.length/50) 0=t:=⟨_,rfl⟩
   have u2:ks[u1+out.length/50]? =some (jI (i:Int)):=by rw[hv.2.2.2 _ jO,po,m]
   have w0:b<n':=jO
   have y:i<lns.length:=by refine u5 i ?_;rw[<-m,bw,bA jO];exact dH _
   obtain⟨E,K,B,P⟩:=tt;obtain⟨bt,e1,D,_,y4⟩:=P i y
   obtain⟨v4,u4,v2,_,v8⟩:∃b,tv= .slice (some ⟨b,0,none⟩) E.length (bh+E.length)∧h'.get b=some ⟨230,true,E⟩∧0<=b∧b<lo:=by
    rcases K with ⟨_,e⟩|⟨b,p1,p2,p3,p4⟩
    ·rw[e]at B;have:lns.length=0:=B.symm;omega
    ·exact⟨b,p1,p2,p3,p4⟩
   subst u4
   have p:E[i]? =some (.slice (some ⟨bt,0,none⟩) (lns.getD i []).length (lns.getD i []).length):=by rw[<-e1,bw,bA jO];rfl
   have z:lns.getD i []∈lns:=by rw[bw,bA y];exact dH _
   obtain⟨ln,O⟩:∃l,lns.getD i []=l:=⟨_,rfl⟩;rw[m,O];rw[O]at p D z;obtain⟨G,w4⟩:=hw ln z;have w6:(i:Int)<((E.length:Nat):Int):=jO;have v0:v4<n':=jO;have s1:=fun(k:Value->M Value)=>nT l .i64 (a:Int) k jO jO;rw[cR]at s1;refine jA (aI @r (aI @g2 (aI @U (aI @I (aI @c1 (aI @hg (aI @u2 (aI @v2 (aI @p @s1))))))))) ?_;refine bz (XF (Y:=Y) (d:=d+2) G (l.drop a) D jO jO jO) jO (fun _ _ h=>h.elim) ?_;cases u8:fC ln (l.drop a)with
   |none=>
    have c2:decide (wM (none:Option Nat)<0)=true:=rfl;refine jA @c2 ?_;refine err 3 _ fun C r=> ?_
    (try unfold tL);(try dsimp only)
    exact dV trivial trivial r rfl jO ⟨_,_,_,_,rfl,rfl,rfl,rfl⟩
   |some s=>
    obtain⟨m1,m2,m3⟩:=pj u8;have c2:decide (wM (some s)<0)=false:=decide_eq_false (by show¬((s:Int)<0);omega);by_cases Z:(out.length:Int)=most
    ·have c3:(((out.length:Nat):Int)==most)=true:=beq_iff_eq.2 Z;refine jA (aI @c2 @c3) ?_;rw[if_pos Z];refine err 2 _ fun C r=> ?_
     (try unfold tL);(try dsimp only)
     exact dV trivial trivial r rfl jO ⟨_,_,_,_,rfl,rfl,rfl,rfl⟩
    ·have c3:(((out.length:Nat):Int)==most)=false:=beq_eq_false_iff_ne.2 Z;have gi:wM (some s)=(s:Int):=rfl;have L:=Ky m1;have w7:((s:Nat):Int)<((ln.length:Nat):Int):=jO;have v9:bt<n':=jO;obtain⟨u,hu⟩:∃u,ln.getD s 0=u:=⟨_,rfl⟩;have u3:=(G.at m1);rw[hu]at u3 m2 L;have u9:(b8 (da ln s) u).length=u:=gT _ _;have c4:decide (((s:Nat):Int)<0)=false:=decide_eq_false jO
     have e2:(((s:Nat):Int)==(size:Int)-1)=decide (s+1=size):=by
      by_cases q:s+1=size
      ·rw[decide_eq_true q];exact beq_iff_eq.2 jO
      ·rw[decide_eq_false q];exact beq_eq_false_iff_ne.2 jO
     refine jA (aI @c4 (aI @c3 (aI @gi (aI @D (aI @L (aI @cV (aI @u9 @e2))))))) ?_;rw[if_neg Z,hu];refine rX trivial (kF _ _) X (by rw[eh];omega) (fun b x=> .inl (by have:=(X.lt x).1;omega)) _ fun h2 g3 k3=> ?_;have J:∀b,b<lo->h2.get b=h'.get b:=fun b x=>k3 b jO fun q=>by have:=(X.lt q).1;omega
     have R:=(J q1 jO).trans r;have v3:=(J q2 jO).trans g2;have Q:=(J n jO).trans g;have on:aW .i64 (out++[(s:Int)])=aW .i64 out++[jI ((s:Nat):Int)]:=by rw[mO];rfl
     have oo:Own h2 lo (n'+2) 3 (.slice (some ⟨n'+1,0,none⟩) ((aW .i64 out).length+1) (bh+((aW .i64 out).length+1))) (aW .i64 (out++[(s:Int)])):=by rw[on];exact .inr ⟨n'+1,jS,g3,jO,jO⟩
     by_cases j:s+1=size
     ·have y7:T*size<=6*258:=Nat.mul_le_mul v1 u6
      have w1:IntKind.i64.wrap ((T:Int)*(size:Int))=((T*size:Nat):Int):=by rw[show(T:Int)*(size:Int)=((T*size:Nat):Int) by push_cast;rfl,aH jO jO]
      have w2:IntKind.i64.wrap ((((iN took).length:Nat):Int)+((T*size:Nat):Int))=((took.length+T*size:Nat):Int):=by rw[aH jO jO];omega
      have u7:q1<n'+2:=jO;rw[decide_eq_true j];refine jA (aI @R (aI @w1 @w2)) ?_;refine cq (sz:=4) trivial (vs:=[.slice (some ⟨n'+1,0,none⟩) ((aW .i64 out).length+1) (bh+((aW .i64 out).length+1)),jI ((a:Int)+(u:Int)),jI ((took.length+T*size:Nat):Int),jI 0]) rfl rfl rfl Q jO (.inl (ah _)) _ fun h5 g5 k5=> ?_
      (try unfold tL);(try dsimp only)
      refine dV trivial trivial g5 rfl jO ?_;rw[if_pos j];exact⟨_,_,_,_,rfl,rfl,jO,(oo.au (ah _) fun b x=>k5 b (by have:=(oo.lt x).1;omega)).low jO,rfl⟩
     ·rw[decide_eq_false j];refine jB ?_;rw[if_neg j];have:=ih A h2 (n'+2) _ (out++[(s:Int)]) (a+u) jO Q R v3 (W.kG (ah _) fun c hc=>J c (W.lt hc)) (TT.au ⟨E,K,B,P⟩ (ah _) fun b _ x=>J b x) (by rw[bC];omega) jO jO (by rw[bE,bC];simp only[cK,hC];omega) oo;rw[<-jf]at this
      first|exact this|(rw[show(a:Int)+(u:Int)=((a+u:Nat):Int) by omega];exact this)
theorem uA{size:Nat}:∀(t:Nat) (bs:List Bool) (a:Nat) (acc lns:List (List Nat)) (b:Nat),(∀ln∈acc,Wh ln∧ln.length=size)->dW t size bs a acc= .ok lns b->(∀ln∈lns,Wh ln∧ln.length=size)∧lns.length=acc.length+t∧a<=b∧b<=a+bs.length
 |0,bs,a,acc,lns,b,k,h=>by simp only[dW,St.ok.injEq]at h;obtain⟨rfl,rfl⟩:=h;exact⟨k,rfl,ah _,EV _ _⟩
 |t+1,bs,a,acc,lns,b,k,h=>by
  unfold dW at h;split at h
  ·cases h
  ·cases h
  ·next ln u d=>
   have ok:=zH _ _ _ _ _ _ _ ⟨aP _,aP _,fun x c=>absurd c jS⟩ d;split at h
   ·next hs=>
    have:=uA t (bs.drop u) (a+u) (acc++[ln]) lns b (fun l hl=>by
     rcases List.mem_append.1 hl with hl|hl
     ·exact k l hl
     ·simp only[sI]at hl;subst hl
      exact⟨wC ok.2.1 hs,ok.1⟩) h
    rw[bE,bC]at this;simp only[cK,hC]at this;exact⟨this.1,jO,jO,jO⟩
   ·cases h
theorem XL{size:Nat}:∀(t:Nat) (bs:List Bool) (a:Nat) (acc:List (List Nat)) (e:Int),dW t size bs a acc= .bad e->e=22
 |0,bs,a,acc,e,h=>by simp[dW]at h
 |t+1,bs,a,acc,e,h=>by
  unfold dW at h;split at h
  ·cases h
  ·next h1=>cases h;exact XG _ _ _ _ _ _ h1
  ·split at h
   ·exact XL t _ _ _ e h
   ·cases h;rfl
theorem si:∀(N:Nat) (s:Pk) (bs:List Bool) (a:Nat) (c:Pk) (d:Nat),s.Ok->s.t<=6->s.ord.length=6->s.count<32768->dq N s bs a= .ok c d->c.Ok∧c.t<=6∧c.fin=true∧c.count<32768∧a<=d∧d<=a+bs.length
 |0,s,bs,a,c,d,_,_,_,_,h=>by simp[dq]at h
 |N+1,s,bs,a,c,d,ok,g,f,i,h=>by
  unfold dq at h;split at h
  ·next hf=>simp only[St.ok.injEq]at h;obtain⟨rfl,rfl⟩:=h;exact⟨ok,g,hf,i,ah _,EV _ _⟩
  ·next hf=>
   have hf:s.fin=false:=by simpa using hf
   split at h
   ·cases h
   ·cases h
   ·next s1 u b=>
    obtain⟨l,t,r⟩:=Kq ok g f hf b
    have e:s1.t<=6∧s1.ord.length=6∧s1.count<32768:=by
     unfold cX at b;split at b
     ·split at b
      ·cases b
      ·split at b
       ·next Kz=>simp only[St.ok.injEq]at b;obtain⟨rfl,_⟩:=b;exact⟨Kz.1.2,f,jt _ jD⟩
       ·cases b
     ·split at b
      ·cases b
      ·cases b
      ·next o n m=>simp only[St.ok.injEq]at b;obtain⟨rfl,_⟩:=b;have:=(zF m).2;exact⟨g,wF (dv:=0) f jO,i⟩
    have:=si N s1 (bs.drop u) (a+u) c d l e.1 e.2.1 e.2.2 h;rw[bC]at this;obtain⟨q1,q2,k,j,q,p⟩:=this;exact⟨q1,q2,k,j,jO,jO⟩
theorem sj:fN.Ok:=⟨fun _=>⟨rfl,rfl⟩,fun j b=>absurd b (kS j),fun x a=>absurd a (by simp[fN]),fun e=>absurd rfl e,fun e=>absurd rfl e⟩
end
def D4(size:Nat)(l:List Bool):Int:=match dq (l.length+1) fN l 0 with
 | .ok s _=>((s.bu.length+s.t*size:Nat):Int)
 |_=>0
section
variable {Y d n:Nat} {h:H}
theorem ahU(l:List Bool)(U:l.length<=1000000)(I:3000000<=Y){size:Nat}(R:3<=size)(Q:size<=258)(most:Int):af (fun _=>False) n (aj aa gt Y (d+5) 129 #[tx l,jI (size:Int),jI most]) h n (wN n (qy size l most) (D4 size l)):=by
 rw[aC (fun _=>adY) rfl];refine af.aB ?_;unfold HZ;refine dL Ha _ ?_;refine aN aE (XC (Y:=Y) (d:=d+2) l U I) jO (fun _ _ h=>h.elim) fun v1 h1 j v2 u6 c=> ?_;obtain⟨pv,t,a,u,e,rfl,c⟩:=c
 have u2:∃x y z,pv= .slice x y z:=by
  cases q:dq (l.length+1) fN l 0 with
  |short=>rw[q]at c;exact⟨_,_,_,c.2⟩
  |bad e0=>rw[q]at c;exact⟨_,_,_,c.2.2⟩
  |ok s B=>rw[q]at c;obtain⟨x,y,z⟩:=c.2.2.2.row.len;exact⟨_,_,_,z⟩
 obtain⟨px,py,pz,rfl⟩:=u2;refine dL yi _ ?_;refine cq (sz:=5) trivial (vs:=[.slice px py pz,jI t,jI a,jI u,jI e]) rfl rfl rfl (get_eq _ _ _) jO (.inl jO) _ fun A L k2=> ?_;have un:∀b,b<n+1->A.get b=(h.set n (some ⟨188,true,[.slice none 0 0,jI 0,jI 0,jI 0]⟩)).get b:=fun b C=>by rw[k2 b jO,aw _ _ jO];exact u6 b C id
 have gn:=(un n jO).trans (get_eq _ _ _);have u9:j<j+1:=jO
 have err:∀(e:Int) (A:H) (n2:Nat),n<n2->A.get n=some ⟨188,true,[.slice none 0 0,jI 0,jI 0,jI 0]⟩->af (fun _=>False) n (aM 4 (jP n 0) (.agg #[.slice none 0 0,jI 0,jI 0,jI e]) fun _=>aT 4 (jP n 0) fun v=>ag [v]) A n2 (wN n (.err e) (D4 size l)):=fun e A n2 v0 g=>by refine cq (sz:=4) trivial (vs:=[.slice none 0 0,jI 0,jI 0,jI e]) rfl rfl rfl g jO (.inl (ah _)) _ fun h1 g1 k1=> ?_;exact dV trivial trivial g1 rfl jO ⟨_,_,_,_,rfl,rfl,rfl,rfl⟩
 unfold qy;cases q:dq (l.length+1) fN l 0 with
 |short=>rw[q]at c;obtain⟨rfl,_⟩:=c;have E:((3:Int) !=0)=true:=rfl;refine jA (aI @L @E) ?_;exact err 3 A (j+1) jO gn
 |bad e0=>rw[q]at c;obtain⟨rfl,rfl,_⟩:=c;have E:((25:Int) !=0)=true:=rfl;refine jA (aI @L @E) ?_;exact err 25 A (j+1) jO gn
 |ok s B=>
  rw[q]at c;obtain⟨rfl,rfl,rfl,op⟩:=c;obtain⟨ok,h6,fin,hc,_,u4⟩:=si _ _ _ _ _ _ sj (aP _) rfl jD q;rw[fy]at u4;have z0:((0:Int) !=0)=false:=rfl;have s1:=fun(k:Value->M Value)=>nT l .i64 ((B:Nat):Int) k jO jO;rw[cR]at s1;have v3:(l.drop B).length=l.length-B:=bC;have D:=fin;unfold Pk.fin at D;rw[bW,decide_eq_true_eq,decide_eq_true_eq]at D
  have oS:Own A (n+1) j 3 (.slice px py pz) (aW .i64 (iN s.bu)):=op.au (ah _) fun b C=>by have:=op.lt C;rw[k2 b jO,aw _ _ jO]
  refine jA (aI @L @z0) ?_;refine gI trivial j 2 _ L (show j<j+1 by omega) (ah _) rfl fun T1 t1=> ?_;refine jA @s1 ?_;refine WL _ _ (ah _) fun T2 t2=> ?_;refine jB ?_;refine gI trivial j 1 _ L (show j<j+1 by omega) (ah _) rfl fun T3 t3=> ?_;refine jB ?_;refine lP aE (XJ (Y:=Y) (d:=d) (l.drop B) jO I R Q h6) jO fun v6 v5 m T4 u3 u5 f t4=> ?_;obtain⟨tv,u1,e1,rfl,⟨P,O,N,rfl⟩,f⟩:=f;refine XK vN _ u3 fun T5 t5=> ?_;refine DS (fun _ _=>rfl) ?_;refine cq (sz:=3) trivial (vs:=[.slice P O N,jI u1,jI e1]) rfl rfl rfl (get_eq _ _ _) jO (.inl jO) _ fun J W k7=> ?_;have G:∀b,b<j+1->J.get b=A.get b:=fun b C=>by rw[k7 b jO,aw _ _ jO];exact u5 b C
  have K:=(G n jO).trans gn;have T:=(G j jO).trans L;have u7:m<m+1:=jO;have u8:j<m+1:=jO;cases p:dW s.t size (l.drop B) 0 []with
  |short=>
   rw[p]at f;subst f;have E:((3:Int) !=0)=true:=rfl;try simp(disch:=first|omega|assumption) only[Nat.reduceAdd,Nat.reduceLT,RZ,t4.cA t5,cx,eA,dQ,W,E]
   exact err 3 J (m+1) jO K
  |bad e0=>
   rw[p]at f;obtain⟨rfl,rfl⟩:=f;have E:((22:Int) !=0)=true:=rfl;try simp(disch:=first|omega|assumption) only[Nat.reduceAdd,Nat.reduceLT,RZ,t4.cA t5,cx,eA,dQ,W,E]
   exact err 22 J (m+1) jO K
  |ok lns X=>
   rw[p]at f;obtain⟨rfl,rfl,tt⟩:=f;obtain⟨hw,r,_,u0⟩:=uA _ _ _ _ _ _ (fun ln U=>absurd U jS) p;rw[fy]at u0;have r:lns.length=s.t:=by rw[r];show 0+s.t=s.t;omega
   have w1:IntKind.i64.wrap (((B:Nat):Int)+((X:Nat):Int))=((B+X:Nat):Int):=by rw[aH jO jO];omega
   try simp(disch:=first|omega|assumption) only[Nat.reduceAdd,Nat.reduceLT,RZ,t4.cA t5,cx,eA,dQ,W,T,z0,w1]
   have rp:Row J (m+1) 3 .i64 (.slice px py pz) (iN s.bu):=(oS.au (by omega:j<=m+1) fun b C=>G b (by have:=(oS.lt C).2;omega)).row
   have Z:TT J 0 (m+1) (.slice P O N) lns:=by
    obtain⟨cs,o,q1,q2⟩:=tt.au (h':=J) (by omega:m<=m+1) fun b C v4=>by rw[k7 b jO,aw _ _ jO]
    exact⟨cs,o.low (aP _),q1,fun i hi=>by obtain⟨b,p1,p2,p3,p4⟩:=q2 i hi;exact⟨b,p1,p2,aP _,p4⟩⟩
   have hh:D4 size l=((s.bu.length+s.t*size:Nat):Int):=by unfold D4;rw[q]
   rw[hh];exact ahT (n:=n) (d:=d) U I R Q (lns:=lns) (took:=s.bu) most hw (fun v hv=>by rw[r];exact ok.bu v hv) r h6 jO (q1:=j) (q2:=m) (lo:=m+1) (x1:=0) (y2:=0) jO ⟨jO,jO⟩ ⟨jO,jO⟩ (l.length+1) Y J (m+1) (.slice none 0 0) [] (B+X) (ah _) K T W rp Z (by rw[bC];omega) jO jO (by rw[bC];show 0+_<=_;omega) (Own.nil _ _ _ _)
end
abbrev Ck:=List Int->Int->Option Int
def fS:Nat->List (List Nat)->List Nat->Nat->List Bool->Ck->List Int->Nat->Rs
 |0,_,_,_,_,_,_,_=> .err 3
 |N+1,b,took,c,d,ck,out,a=>if took.length<=out.length/50 then .err 25 else
  match fC (b.getD (took.getD (out.length/50) 0) []) d with
  |none=> .err 3
  |some s=>match ck out (s:Int)with
   |some e=> .err e
   |none=>if s+1=c then .ok (out++[(s:Int)]) (a+(b.getD (took.getD (out.length/50) 0) []).getD s 0)
    else fS N b took c (d.drop ((b.getD (took.getD (out.length/50) 0) []).getD s 0)) ck (out++[(s:Int)]) (a+(b.getD (took.getD (out.length/50) 0) []).getD s 0)
def ir(size:Nat)(bs:List Bool)(ck:Ck):Rs:=
 match dq (bs.length+1) fN bs 0 with
 | .short=> .err 3
 | .bad e=> .err e
 | .ok s a=>match dW s.t size (bs.drop a) 0 []with
   | .short=> .err 3
   | .bad e=> .err e
   | .ok b u=>fS (bs.length+1) b s.bu size (bs.drop (a+u)) ck [] (a+u)
def dr:Nat->Cd->List Bool->Ck->List Int->Nat->Rs
 |0,_,_,_,_,_=> .err 3
 |N+1,c,b,ck,out,a=>if c.done=true then .ok out a else match dU c b with
  | .short=> .err 3
  | .bad e=> .err e
  | .ok (sym,d) u=>if sym=-1 then dr N d (b.drop u) ck out (a+u)else match ck out sym with
    |some e=> .err e
    |none=>dr N d (b.drop u) ck (out++[sym]) (a+u)
def lim(most:Int):Ck:=fun out _=>if(out.length:Int)=most then some 2 else none
theorem XM{b:List (List Nat)}{took:List Nat}{size:Nat}(most:Int):∀(N:Nat) (bs:List Bool) (out:List Int) (a:Nat),se N b took size bs most out a=fS N b took size bs (lim most) out a
 |0,_,_,_=>rfl
 |N+1,bs,out,a=>by
  unfold se fS;by_cases d:took.length<=out.length/50
  ·rw[if_pos d,if_pos d]
  ·rw[if_neg d,if_neg d];cases fC (b.getD (took.getD (out.length/50) 0) []) bs with
   |none=>rfl
   |some s=>
    show(if(out.length:Int)=most then Rs.err 2 else _)=match (if(out.length:Int)=most then some 2 else none:Option Int)with
     |some e=>Rs.err e
     |none=>_
    by_cases h:(out.length:Int)=most
    ·rw[if_pos h,if_pos h]
    ·rw[if_neg h,if_neg h];by_cases c:s+1=size
     ·rw[if_pos c];simp only[if_pos c]
     ·rw[if_neg c];simp only[if_neg c];exact XM most N _ _ _
theorem D5(size:Nat)(bs:List Bool)(most:Int):qy size bs most=ir size bs (lim most):=by
 unfold qy ir;cases dq (bs.length+1) fN bs 0 with
 |short=>rfl
 |bad e=>rfl
 |ok s a=>
  show(match dW s.t size (bs.drop a) 0 []with
   | .short=>Rs.err 3
   | .bad e=> .err e
   | .ok b u=>_)=match dW s.t size (bs.drop a) 0 []with
   | .short=>Rs.err 3
   | .bad e=> .err e
   | .ok b u=>_
  cases dW s.t size (bs.drop a) 0 []with
  |short=>rfl
  |bad e=>rfl
  |ok b u=>exact XM _ _ _ _ _
def St.add{b:Type}(a:Nat):St b->St b
 | .short=> .short
 | .bad e=> .bad e
 | .ok x u=> .ok x (a+u)
theorem XN{size:Nat}:∀(N d:Nat) (c:List Nat) (bs:List Bool) (a b:Nat),eu N size d c bs (a+b)=(eu N size d c bs b).add a
 |0,_,_,_,_,_=>rfl
 |N+1,d,c,bs,a,b=>by
  unfold eu;by_cases h:c.length=size
  ·rw[if_pos h,if_pos h];rfl
  ·rw[if_neg h,if_neg h];cases cZ d c bs with
   |short=>rfl
   |bad e=>rfl
   |ok x u=>obtain⟨m,l⟩:=x;show eu N size m l (bs.drop u) (a+b+u)=(eu N size m l (bs.drop u) (b+u)).add a;rw[<-XN,uT]
theorem XO{size:Nat}:∀(t:Nat) (bs:List Bool) (a b:Nat) (acc:List (List Nat)),dW t size bs (a+b) acc=(dW t size bs b acc).add a
 |0,_,_,_,_=>rfl
 |t+1,bs,a,b,acc=>by
  unfold dW;cases eu (bs.length+1) size 0 [] bs 0 with
  |short=>rfl
  |bad e=>rfl
  |ok c u=>
   by_cases h:dM (iN c)=1048576
   ·simp only[if_pos h];rw[<-XO t (bs.drop u) a (b+u),uT]
   ·simp only[if_neg h];rfl
theorem XP{size:Nat}:∀(N M c:Nat) (b:List Nat) (bs:List Bool) (a:Nat),bs.length<N->bs.length<M->eu N size c b bs a=eu M size c b bs a
 |0,_,_,_,_,_,h,_=>by omega
 |_+1,0,_,_,_,_,_,h=>by omega
 |N+1,M+1,c,b,bs,a,f,d=>by
  unfold eu;by_cases h:b.length=size
  ·rw[if_pos h,if_pos h]
  ·rw[if_neg h,if_neg h];cases e:cZ c b bs with
   |short=>rfl
   |bad e=>rfl
   |ok x u=>obtain⟨m,l⟩:=x;have:=DW e;exact XP N M m l (bs.drop u) (a+u) (by rw[bC];omega) (by rw[bC];omega)
theorem zI:∀(N M:Nat) (c:Cd) (bs:List Bool) (ck:Ck) (out:List Int) (a:Nat),(c.done=false->gU c)->bs.length<N->bs.length<M->dr N c bs ck out a=dr M c bs ck out a
 |0,_,_,_,_,_,_,_,h,_=>by omega
 |_+1,0,_,_,_,_,_,_,_,h=>by omega
 |N+1,M+1,c,bs,ck,out,a,k,n,m=>by
  unfold dr;by_cases hd:c.done=true
  ·rw[if_pos hd,if_pos hd]
  ·rw[if_neg hd,if_neg hd];have b:c.done=false:=by simpa using hd
   cases e:dU c bs with
   |short=>rfl
   |bad e=>rfl
   |ok x u=>
    obtain⟨sym,i⟩:=x;obtain⟨g,_,l,j⟩:=wI (k b) e;have f:(bs.drop u).length<N:=by rw[bC];omega
    have d:(bs.drop u).length<M:=by rw[bC];omega
    show(if sym=-1 then _ else match ck out sym with
     |some e=>_
     |none=>_)=(if sym=-1 then _ else match ck out sym with
     |some e=>_
     |none=>_)
    rw[zI N M i (bs.drop u) ck out (a+u) g f d,zI N M i (bs.drop u) ck (out++[sym]) (a+u) g f d]
theorem XQ{lns:List (List Nat)}{took:List Nat}{size:Nat}(ck:Ck):∀(N:Nat) (c:Cd) (bs:List Bool) (out:List Int) (a:Nat),gU c->c.pk.fin=true->¬c.aZ.length<c.pk.t->c.aZ=lns->c.took=took->c.size=size->c.count=out.length->bs.length<N->
 dr N c bs ck out a=fS N lns took size bs ck out a
 |0,_,_,_,_,_,_,_,_,_,_,_,h=>by omega
 |N+1,c,bs,out,a,k,o,m,B,A,z,y,G=>by
  subst B;subst A;subst z;unfold dr fS;rw[if_neg (by rw[k.dn];decide)]
  have r:dU c bs=match iM c bs with
   | .short=> .short
   | .bad e=> .bad e
   | .ok (s,C) u=> .ok ((s:Int),C) u:=by
   unfold dU;refine(if_neg (by rw[o];decide)).trans ((if_neg m).trans ?_);cases iM c bs with
   |short=>rfl
   |bad e=>rfl
   |ok x u=>rfl
  rw[r];unfold iM;rw[y];by_cases i:c.took.length<=out.length/50
  ·rw[if_pos i,if_pos i]
  ·rw[if_neg i,if_neg i];cases q:fC (c.aZ.getD (c.took.getD (out.length/50) 0) []) bs with
   |none=>rfl
   |some s=>
    obtain⟨j,f⟩:∃l,c.aZ.getD (c.took.getD (out.length/50) 0) []=l:=⟨_,rfl⟩;rw[f]at q⊢;obtain⟨v,t,D⟩:=pj q
    have n:c.took.getD (out.length/50) 0<c.aZ.length:=by refine DX k o m _ ?_;rw[bw,bA jO];exact dH _
    have d:j∈c.aZ:=by rw[<-f,bw,bA n];exact dH _
    have p:=((k.wh j d).1.at v).1;obtain⟨u,b⟩:∃u,j.getD s 0=u:=⟨_,rfl⟩;rw[b]at t p
    show(if(s:Int)=-1 then _ else match ck out (s:Int)with
     |some e=>Rs.err e
     |none=>_)=match ck out (s:Int)with
     |some e=>Rs.err e
     |none=>_
    rw[if_neg jO];cases E:ck out (s:Int)with
    |some e=>rfl
    |none=>
     simp only;by_cases g:s+1=c.size
     ·rw[if_pos g,b];obtain⟨N,rfl⟩:∃M,N=M+1:=⟨N-1,jO⟩;unfold dr;rw[if_pos (decide_eq_true g)]
     ·rw[if_neg g,b];exact XQ ck N _ (bs.drop u) (out++[(s:Int)]) (a+u) ⟨k.pk,k.fU,k.ol,k.nt,k.tk,k.cl,k.ln,k.ll,k.wh,k.lo,k.hi,k.wr,decide_eq_false g⟩ o m rfl rfl rfl (by rw[bE];rfl) (by rw[bC];omega)
theorem XR(ck:Ck):∀(N:Nat) (c:Cd) (bs:List Bool) (a:Nat),gU c->c.pk.fin=true->c.aZ.length<c.pk.t->bs.length<N->
 dr N c bs ck [] a=match eu N c.size c.now c.lens bs a with
  | .short=> .err 3
  | .bad e=> .err e
  | .ok ln u=>if dM (iN ln)=1048576 then dr N {c with now:=0,lens:=[],aZ:=c.aZ++[ln]} (bs.drop (u-a)) ck [] u else .err 22
 |0,_,_,_,_,_,_,h=>by omega
 |N+1,c,bs,a,k,i,j,z=>by
  have g:¬c.lens.length=c.size:=by have:=k.ll;omega
  have q:dU c bs=match stepT c bs with
   | .short=> .short
   | .bad e=> .bad e
   | .ok c' u=> .ok (-1,c') u:=by
   unfold dU;refine(if_neg (by rw[i];decide)).trans ((if_pos j).trans ?_);cases stepT c bs with
   |short=>rfl
   |bad e=>rfl
   |ok x u=>rfl
  have lhs:dr (N+1) c bs ck [] a=match stepT c bs with
   | .short=> .err 3
   | .bad e=> .err e
   | .ok c' u=>dr N c' (bs.drop u) ck [] (a+u):=by
   show(if c.done=true then _ else _)=_;rw[if_neg (by rw[k.dn];decide),q];cases stepT c bs with
   |short=>rfl
   |bad e=>rfl
   |ok x u=>rfl
  rw[lhs]
  have rhs:eu (N+1) c.size c.now c.lens bs a=match cZ c.now c.lens bs with
   | .short=> .short
   | .bad e=> .bad e
   | .ok (m,l) u=>eu N c.size m l (bs.drop u) (a+u):=by
   show(if c.lens.length=c.size then _ else _)=_;refine(if_neg g).trans ?_;cases cZ c.now c.lens bs with
   |short=>rfl
   |bad e=>rfl
   |ok x u=>rfl
  rw[rhs];have d:=fun c' u=>Kr (c':=c') (u:=u) (bs:=bs) k j i;unfold stepT at d⊢;cases e:cZ c.now c.lens bs with
  |short=>rfl
  |bad e=>rfl
  |ok x u=>
   obtain⟨m,l⟩:=x;have y:=DW e;rw[e]at d;have p:(bs.drop u).length<N:=by rw[bC];omega
   obtain⟨M,rfl⟩:∃M,N=M+1:=⟨N-1,jO⟩
   show(match (if l.length=c.size then _ else _:St Cd)with
    | .short=>Rs.err 3
    | .bad e=> .err e
    | .ok c' u=>dr (M+1) c' (bs.drop u) ck [] (a+u))=match eu (M+1) c.size m l (bs.drop u) (a+u)with
    | .short=> .err 3
    | .bad e=> .err e
    | .ok ln u=>if dM (iN ln)=1048576 then dr (M+1+1) {c with now:=0,lens:=[],aZ:=c.aZ++[ln]} (bs.drop (u-a)) ck [] u else .err 22
   by_cases n:l.length=c.size
   ·simp only[if_pos n]at d⊢
    have r:eu (M+1) c.size m l (bs.drop u) (a+u)= .ok l (a+u):=by show(if l.length=c.size then _ else _)=_;rw[if_pos n]
    rw[r];by_cases b:dM (iN l)=1048576
    ·simp only[if_pos b]at d⊢;rw[show a+u-a=u by omega];exact zI _ _ _ _ _ _ _ (fun _=>(d _ _ rfl).1) p jO
    ·simp only[if_neg b]
   ·simp only[if_neg n]at d⊢;have s:=(d _ _ rfl).1;rw[XR ck (M+1) _ (bs.drop u) (a+u) s i j p];cases v:eu (M+1) c.size m l (bs.drop u) (a+u)with
    |short=>rfl
    |bad e=>rfl
    |ok ln o=>
     have ok:=DV k.ln k.ll e;have f:=zH _ _ _ _ _ _ _ ok v;show(if dM (iN ln)=1048576 then _ else _)=(if dM (iN ln)=1048576 then _ else _);by_cases b:dM (iN ln)=1048576
     ·rw[if_pos b,if_pos b,jf,show u+(o-(a+u))=o-a by omega];refine zI _ _ _ _ _ _ _ (fun _=> ?_) (by rw[bC];omega) (by rw[bC];omega);refine⟨k.pk,k.fU,k.ol,fun e=>absurd i (by rw[show c.pk.fin=false from e];decide),k.tk,by simp;omega,⟨aP _,aP _,fun x t=>absurd t jS⟩,by have:=k.lo;show 0<c.size;omega,fun w hw=> ?_,k.lo,k.hi,k.wr,k.dn⟩;rcases List.mem_append.1 hw with hw|hw
      ·exact k.wh w hw
      ·simp only[sI]at hw;subst hw;exact⟨wC f.2.1 b,f.1⟩
     ·rw[if_neg b,if_neg b]
def Rs.add(a:Nat):Rs->Rs
 | .err e=> .err e
 | .ok o u=> .ok o (a+u)
theorem D6:∀(N:Nat) (c:Cd) (bs:List Bool) (ck:Ck) (out:List Int) (a b:Nat),dr N c bs ck out (a+b)=(dr N c bs ck out b).add a
 |0,_,_,_,_,_,_=>rfl
 |N+1,c,bs,ck,out,a,b=>by
  unfold dr;by_cases hd:c.done=true
  ·rw[if_pos hd,if_pos hd];rfl
  ·rw[if_neg hd,if_neg hd];cases dU c bs with
   |short=>rfl
   |bad e=>rfl
   |ok x u=>
    obtain⟨sym,f⟩:=x
    show(if sym=-1 then _ else match ck out sym with
     |some e=>Rs.err e
     |none=>_)=(if sym=-1 then _ else match ck out sym with
     |some e=>Rs.err e
     |none=>_:Rs).add a
    rw[uT,D6 N f (bs.drop u) ck out a (b+u),D6 N f (bs.drop u) ck (out++[sym]) a (b+u)];by_cases d:sym=-1
    ·rw[if_pos d,if_pos d]
    ·rw[if_neg d,if_neg d];cases ck out sym<;>rfl
theorem XS(ck:Ck):∀(t N:Nat) (c:Cd) (bs:List Bool) (a:Nat),gU c->c.pk.fin=true->c.aZ.length+t=c.pk.t->c.now=0->c.lens=[]->c.count=0->bs.length<N->
 dr N c bs ck [] a=match dW t c.size bs a c.aZ with
  | .short=> .err 3
  | .bad e=> .err e
  | .ok lns u=>fS N lns c.took c.size (bs.drop (u-a)) ck [] u
 |0,N,c,bs,a,k,f,p,m,n,j,g=>by show _=fS N c.aZ c.took c.size (bs.drop (a-a)) ck [] a;rw[sM,js];exact XQ ck N c bs [] a k f jO rfl rfl rfl j g
 |t+1,N,c,bs,a,k,f,p,m,n,j,g=>by
  rw[XR ck N c bs a k f jO g,m,n,XP N (bs.length+1) 0 [] bs a g jO];have:=show eu (bs.length+1) c.size 0 [] bs a=_ from XN (size:=c.size) (bs.length+1) 0 [] bs a 0;rw[this,show dW (t+1) c.size bs a c.aZ=_ from by rw[dW]];cases e:eu (bs.length+1) c.size 0 [] bs 0 with
  |short=>rfl
  |bad e=>rfl
  |ok d u=>
   have ok:=zH _ _ _ _ _ _ _ ⟨aP _,aP _,fun x h=>absurd h jS⟩ e
   show(if dM (iN d)=1048576 then _ else _)=match (if dM (iN d)=1048576 then _ else _:St (List (List Nat)))with
    | .short=>Rs.err 3
    | .bad e=> .err e
    | .ok lns u=>fS N lns c.took c.size (bs.drop (u-a)) ck [] u
   by_cases i:dM (iN d)=1048576
   ·simp only[if_pos i]
    have l:gU {c with now:=0,lens:=[],aZ:=c.aZ++[d]}:=by
     refine⟨k.pk,k.fU,k.ol,fun e=>absurd f (by rw[show c.pk.fin=false from e];decide),k.tk,by simp;omega,⟨aP _,aP _,fun x h=>absurd h jS⟩,by have:=k.lo;show 0<c.size;omega,fun w hw=> ?_,k.lo,k.hi,k.wr,k.dn⟩;rcases List.mem_append.1 hw with hw|hw
     ·exact k.wh w hw
     ·simp only[sI]at hw;subst hw;exact⟨wC ok.2.1 i,ok.1⟩
    have o:=XS ck t N {c with now:=0,lens:=[],aZ:=c.aZ++[d]} (bs.drop u) (a+u) l f (by rw[bE];simp only[cK,hC];omega) rfl rfl j (by rw[bC];omega);rw[show a+u-a=u by omega,o];cases q:dW t c.size (bs.drop u) (a+u) (c.aZ++[d])with
    |short=>rfl
    |bad e=>rfl
    |ok lns b=>have:=uA _ _ _ _ _ _ (fun w hw=>l.wh w hw) q;show fS N lns c.took c.size ((bs.drop u).drop (b-(a+u))) ck [] b=fS N lns c.took c.size (bs.drop (b-a)) ck [] b;rw[jf,show u+(b-(a+u))=b-a by omega]
   ·simp only[if_neg i]
theorem D7{s a:Pk}{bs:List Bool}{u:Nat}(d:s.t<=6)(b:s.ord.length=6)(c:s.count<32768)(h1:cX s bs= .ok a u):a.t<=6∧a.ord.length=6∧a.count<32768:=by
 unfold cX at h1;split at h1
 ·split at h1
  ·cases h1
  ·split at h1
   ·next Kz=>simp only[St.ok.injEq]at h1;obtain⟨rfl,_⟩:=h1;exact⟨Kz.1.2,b,jt _ jD⟩
   ·cases h1
 ·split at h1
  ·cases h1
  ·cases h1
  ·next o f e=>simp only[St.ok.injEq]at h1;obtain⟨rfl,_⟩:=h1;have:=(zF e).2;exact⟨d,wF (dv:=0) b jO,c⟩
theorem KA:∀(N:Nat) (s:Pk) (bs:List Bool) (a:Nat) (b:Pk) (c:Nat),s.t<=6->s.ord.length=6->s.count<32768->dq N s bs a= .ok b c->b.ord.length=6
 |0,s,bs,a,b,c,_,_,_,h=>by simp[dq]at h
 |N+1,s,bs,a,b,c,j,d,i,h=>by
  unfold dq at h;split at h
  ·simp only[St.ok.injEq]at h;obtain⟨rfl,rfl⟩:=h;exact d
  ·split at h
   ·cases h
   ·cases h
   ·next s1 u k=>obtain⟨g,f,e⟩:=D7 j d i k;exact KA N s1 (bs.drop u) (a+u) b c g f e h
theorem XT(ck:Ck):∀(N:Nat) (c:Cd) (bs:List Bool) (a:Nat),gU c->c.pk.count<32768->bs.length<N->
 dr N c bs ck [] a=match dq N c.pk bs a with
  | .short=> .err 3
  | .bad e=> .err e
  | .ok s u=>dr N {c with pk:=s,took:=s.bu} (bs.drop (u-a)) ck [] u
 |0,_,_,_,_,_,h=>by omega
 |N+1,c,bs,a,k,f,D=>by
  cases i:c.pk.fin with
  |true=>
   have:dq (N+1) c.pk bs a= .ok c.pk a:=by show(if c.pk.fin=true then _ else _)=_;rw[if_pos i]
   rw[this];show _=dr (N+1) {c with pk:=c.pk,took:=c.pk.bu} (bs.drop (a-a)) ck [] a;rw[sM,js,<-k.tk i]
  |false=>
   have lhs:dr (N+1) c bs ck [] a=match cX c.pk bs with
    | .short=> .err 3
    | .bad e=> .err e
    | .ok s u=>dr N (kI c s) (bs.drop u) ck [] (a+u):=by
    show(if c.done=true then _ else _)=_;rw[if_neg (by rw[k.dn];decide)];unfold dU;rw[if_pos i];cases cX c.pk bs with
    |short=>rfl
    |bad e=>rfl
    |ok x u=>rfl
   have rhs:dq (N+1) c.pk bs a=match cX c.pk bs with
    | .short=> .short
    | .bad e=> .bad e
    | .ok n u=>dq N n (bs.drop u) (a+u):=by
    show(if c.pk.fin=true then _ else _)=_;refine(if_neg (by rw[i];decide)).trans ?_;cases cX c.pk bs<;>rfl
   rw[lhs,rhs];cases e:cX c.pk bs with
   |short=>rfl
   |bad e=>rfl
   |ok s u=>
    have m:dU c bs= .ok (-1,kI c s) u:=by unfold dU;rw[if_pos i,e]
    obtain⟨v,_,C,B⟩:=wI k m;have g:gU (kI c s):=v k.dn;have t:(bs.drop u).length<N:=by rw[bC];omega
    show dr N (kI c s) (bs.drop u) ck [] (a+u)=match dq N s (bs.drop u) (a+u)with
     | .short=> .err 3
     | .bad e=> .err e
     | .ok s u=>dr (N+1) {c with pk:=s,took:=s.bu} (bs.drop (u-a)) ck [] u
    rw[XT ck N (kI c s) (bs.drop u) (a+u) g (D7 k.fU k.ol f e).2.2 t]
    show(match dq N s (bs.drop u) (a+u)with
     | .short=>Rs.err 3
     | .bad e=> .err e
     | .ok d b=>dr N {(kI c s)with pk:=d,took:=d.bu} ((bs.drop u).drop (b-(a+u))) ck [] b)=_
    cases l:dq N s (bs.drop u) (a+u)with
    |short=>rfl
    |bad e=>rfl
    |ok d b=>obtain⟨r,A⟩:=k.nt i;obtain⟨q,p,o,_,z,y⟩:=si _ _ _ _ _ _ g.pk g.fU g.ol (D7 k.fU k.ol f e).2.2 l;have j:=KA _ _ _ _ _ _ g.fU g.ol (D7 k.fU k.ol f e).2.2 l;show dr N {c with pk:=d,took:=d.bu} ((bs.drop u).drop (b-(a+u))) ck [] b=dr (N+1) {c with pk:=d,took:=d.bu} (bs.drop (b-a)) ck [] b;rw[jf,show u+(b-(a+u))=b-a by omega];refine zI _ _ _ _ _ _ _ (fun _=>⟨q,p,j,fun e=>absurd o (by rw[show d.fin=false from e];decide),fun _=>rfl, ?_,k.ln,k.ll,k.wh,k.lo,k.hi,k.wr,k.dn⟩) (by rw[bC];omega) (by rw[bC];omega);show c.aZ.length<=d.t;rw[r];exact aP _
theorem ahV{size:Nat}(h:3<=size)(c:size<=258)(ck:Ck)(bs:List Bool):dr (bs.length+1) (mQ size) bs ck [] 0=ir size bs ck:=by
 unfold ir;rw[XT ck (bs.length+1) (mQ size) bs 0 (DZ h c) (by decide:0<32768) (Nat.lt_succ_self _)]
 show(match dq (bs.length+1) fN bs 0 with
  | .short=>Rs.err 3
  | .bad e=> .err e
  | .ok s u=>dr (bs.length+1) {(mQ size)with pk:=s,took:=s.bu} (bs.drop (u-0)) ck [] u)=_
 cases e:dq (bs.length+1) fN bs 0 with
 |short=>rfl
 |bad e=>rfl
 |ok s a=>
  obtain⟨l,j,g,m,o,n⟩:=si _ _ _ _ _ _ sj (aP _) rfl jD e;have f:=KA _ _ _ _ _ _ (aP _) rfl jD e;have d:=DZ h c;have k:gU {(mQ size)with pk:=s,took:=s.bu}:=⟨l,j,f,fun e=>absurd g (by rw[show s.fin=false from e];decide),fun _=>rfl,aP _,d.ln,d.ll,d.wh,d.lo,d.hi,d.wr,d.dn⟩;have i:(bs.drop a).length<bs.length+1:=by rw[bC];omega
  show dr (bs.length+1) {(mQ size)with pk:=s,took:=s.bu} (bs.drop (a-0)) ck [] a=match dW s.t size (bs.drop a) 0 []with
   | .short=> .err 3
   | .bad e=> .err e
   | .ok b u=>fS (bs.length+1) b s.bu size (bs.drop (a+u)) ck [] (a+u)
  rw[Nat.sub_zero,XS ck s.t (bs.length+1) _ (bs.drop a) a k g (by show 0+s.t=s.t;omega) rfl rfl rfl i];have:=show dW s.t size (bs.drop a) a []=_ from XO s.t (bs.drop a) a 0 []
  show(match dW s.t size (bs.drop a) a []with
   | .short=>Rs.err 3
   | .bad e=> .err e
   | .ok b u=>fS (bs.length+1) b s.bu size ((bs.drop a).drop (u-a)) ck [] u)=_
  rw[this];cases p:dW s.t size (bs.drop a) 0 []with
  |short=>rfl
  |bad e=>rfl
  |ok b u=>show fS (bs.length+1) b s.bu size ((bs.drop a).drop (a+u-a)) ck [] (a+u)=fS (bs.length+1) b s.bu size (bs.drop (a+u)) ck [] (a+u);rw[jf,show a+(a+u-a)=a+u by omega]
section
variable {Y d n z p:Nat} {h:H} {c:Cd} {m:Cm}
end
theorem XU(t:List Bool):∀(r o:Nat) (bs:List Bool),fj r o bs≠ .short->fj r o (bs++t)=fj r o bs
 |0,_,_,_=>by simp only[fj]
 |_+1,_,[],h=>absurd (by simp only[fj]) h
 |_+1,o,false::_,_=>by simp only[anl,fj]
 |r+1,o,true::bs,h=>by simp only[anl,fj]at h⊢;exact XU t r (o+1) bs h
theorem ahW{s:Pk}{bs:List Bool}(t:List Bool)(h:cX s bs≠ .short):cX s (bs++t)=cX s bs:=by
 unfold cX at h⊢;by_cases a:s.count=0
 ·rw[if_pos a]at h⊢;rw[if_pos a];by_cases b:bs.length<18
  ·rw[if_pos b]at h;exact absurd rfl h
  ·rw[if_neg b,if_neg (by rw[bE];omega),Ff jO]
 ·rw[if_neg a]at h;rw[if_neg a,if_neg a,XU t _ _ _ fun e=>h (by rw[e])]
theorem ahX{c:Nat}{a:List Nat}{bs:List Bool}(t:List Bool)(h:cZ c a bs≠ .short):cZ c a (bs++t)=cZ c a bs:=by
 unfold cZ at h⊢;by_cases d:c=0
 ·rw[if_pos d]at h⊢;rw[if_pos d];by_cases e:bs.length<5
  ·rw[if_pos e]at h;exact absurd rfl h
  ·rw[if_neg e,if_neg (by rw[bE];omega),Ff jO]
 ·rw[if_neg d]at h;rw[if_neg d,if_neg d]
  match bs,h with
  |[],h=>exact absurd rfl h
  |false::_,_=>rfl
  |[true],h=>exact absurd rfl h
  |true::b::_,_=>rfl
theorem ahY{c:Cd}{bs:List Bool}(t:List Bool)(h:stepT c bs≠ .short):stepT c (bs++t)=stepT c bs:=by unfold stepT at h⊢;rw[ahX t fun e=>h (by rw[e])]
theorem ahZ{ln:List Nat}{bs:List Bool}(t:List Bool){s:Nat}(h:fC ln bs=some s):fC ln (bs++t)=some s:=by obtain⟨c,b,a⟩:=pj h;exact DI ⟨c,by rw[bE];omega,by rw[Ff b];exact a⟩
theorem ah0{c:Cd}{bs:List Bool}(t:List Bool)(h:iM c bs≠ .short):iM c (bs++t)=iM c bs:=by
 unfold iM at h⊢;split
 ·rfl
 ·next h1=>
  rw[if_neg h1]at h;cases e:fC (c.aZ.getD (c.took.getD (c.count/50) 0) []) bs with
  |none=>rw[e]at h;exact absurd rfl h
  |some s=>rw[ahZ t e]
theorem ah1{c:Cd}{bs:List Bool}(t:List Bool)(h:dU c bs≠ .short):dU c (bs++t)=dU c bs:=by
 unfold dU at h⊢;split
 ·next h1=>rw[if_pos h1]at h;rw[ahW t fun e=>h (by rw[e])]
 ·next h1=>
  rw[if_neg h1]at h;split
  ·next h2=>rw[if_pos h2]at h;rw[ahY t fun e=>h (by rw[e])]
  ·next h2=>rw[if_neg h2]at h;rw[ah0 t fun e=>h (by rw[e])]
theorem wO{c c':Cd}{bs:List Bool}{sym:Int}{u:Nat}(k:gU c)(h:dU c bs= .ok (sym,c') u):
 (c.pk.fin=false∧sym=-1∧∃s,cX c.pk bs= .ok s u∧c'=kI c s)∨(c.pk.fin=true∧sym=-1∧c'.pk=c.pk∧c'.count=c.count∧c'.size=c.size∧c'.done=false)∨
 (c.pk.fin=true∧0<=sym∧c'.pk=c.pk∧c'.aZ=c.aZ∧c'.count=c.count+1∧c'.size=c.size∧¬c.aZ.length<c.pk.t):=by
 unfold dU at h;split at h
 ·next h1=>
  cases e:cX c.pk bs with
  |short=>rw[e]at h;cases h
  |bad x=>rw[e]at h;cases h
  |ok s w=>rw[e]at h;simp only[St.ok.injEq,kT]at h;obtain⟨⟨rfl,rfl⟩,rfl⟩:=h;exact .inl ⟨h1,rfl,s,rfl,rfl⟩
 ·next h1=>
  have fin:c.pk.fin=true:=by simpa using h1
  split at h
  ·next ht=>
   cases e:stepT c bs with
   |short=>rw[e]at h;cases h
   |bad x=>rw[e]at h;cases h
   |ok b w=>
    rw[e]at h;simp only[St.ok.injEq,kT]at h;obtain⟨⟨rfl,rfl⟩,rfl⟩:=h;have d:=(Kr k ht fin e).1;unfold stepT at e;split at e
    ·cases e
    ·cases e
    ·split at e
     ·split at e
      ·simp only[St.ok.injEq]at e;obtain⟨rfl,_⟩:=e;exact .inr (.inl ⟨fin,rfl,rfl,rfl,rfl,k.dn⟩)
      ·cases e
     ·simp only[St.ok.injEq]at e;obtain⟨rfl,_⟩:=e;exact .inr (.inl ⟨fin,rfl,rfl,rfl,rfl,k.dn⟩)
  ·next ht=>
   cases e:iM c bs with
   |short=>rw[e]at h;cases h
   |bad x=>rw[e]at h;cases h
   |ok a w=>
    obtain⟨s,b⟩:=a;rw[e]at h;simp only[St.ok.injEq,kT]at h;obtain⟨⟨rfl,rfl⟩,rfl⟩:=h;unfold iM at e;split at e
    ·cases e
    ·split at e
     ·cases e
     ·simp only[St.ok.injEq,kT]at e;obtain⟨⟨rfl,rfl⟩,_⟩:=e;exact .inr (.inr ⟨fin,Int.natCast_nonneg _,rfl,rfl,rfl,rfl,ht⟩)
end Go.Proofs.YtmjolmggelkjlaaGreat
