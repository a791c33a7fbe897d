import Derived.Test.YtmjolmggelkjlaaGreatMaf
open Go.Proofs.Tryz renaming prog→aa
open Nat renaming le_refl→ah, zero_le→aO, le_succ→eL, zero_add→fD, lt_of_lt_of_le→fK, min_eq_left→ic, mod_lt→jF, not_lt_zero→lq, sub_self→sX, add_assoc→vo, le_add_right→Fo, lt_of_le_of_ne→ML, mod_two_eq_zero_or_one→aoB
open Go.Value renaming string→aM, int→eJ
open List renaming getD_eq_getElem?_getD→bz, getElem?_eq_getElem→bB, length_drop→bE, length_append→bG, replicate→bU, append_nil→bV, length_cons→cP, length_take→cT, getElem_mem→dO, length_map→fS, range→gL, length_nil→iP, getElem?_map→jd, take_length→jf, drop_drop→jm, drop_zero→jz, length_replicate→j4, take_succ_eq_append_getElem→nv, map_congr_left→oN, getElem?_append_right→qU, drop_eq_getElem_cons→qX, drop_length→qY, getElem?_append_left→sS, mem_singleton→sV, map_drop→xJ, map_take→AU, take_append_of_le_length→FJ, mem_range→abf, replicate_succ'→aog, map_eq_nil_iff→aoA, cons_append→aoD
open Bool renaming and_eq_true→bZ, not_false→cf, and_self→dJ, not_true→eK, xor_false→MM, xor_true→MN
open Int renaming toNat_natCast→cV, lt_irrefl→eT
open UInt8 renaming ofNat→gU
open Prod.mk renaming injEq→lr
open List.cons renaming injEq→apj
set_option linter.unusedVariables false
set_option linter.unusedSimpArgs false
namespace Go.Proofs.YtmjolmggelkjlaaGreat
open Go.RowKit Ev Cn
def Pk.fin(s:Pk):Bool:=decide (0<s.count)&&decide (s.bw.length=s.count)
structure Pk.Ok (s:Pk):Prop where
 new:s.count=0->s.bw=[]∧s.ord=pJ
 ord:∀j,j<s.t->s.ord.getD j 0<s.t
 bw:∀x∈s.bw,x<s.t
 len:s.count≠0->s.bw.length<=s.count
 two:s.count≠0->2<=s.t
structure Cd where
 size:Nat
 pk:Pk
 now:Nat
 lens:List Nat
 aZ:List (List Nat)
 took:List Nat
 count:Nat
 done:Bool
 dM:Int
structure Cm where
 q:Nat
 pv:Value
 tv:Value
 r:Nat
 lv:Value
 cv:Value
 pw:Bool
 dw:Bool
 iv:List (Nat×Nat×Nat)
def Cm.F(m:Cm)(z b:Nat):Prop:=b=z∨b=m.q∨b=m.r∨aK m.pv b∨aK m.lv b∨aK m.cv b
def mD(c:Cd)(m:Cm):AB:=⟨252,true,[jI (c.size:Int),jP m.q 0,m.tv,jP m.r 0,m.cv,jI (c.count:Int),.bool c.done,jI c.dM]⟩
structure cI (h:H) (n z p:Nat) (c:Cd) (m:Cm):Prop where
 get:h.get z=some (mD c m)
 lt:z<n
 pk:gH h 0 n m.q c.pk m.pv m.pw
 de:gP h 0 n m.r c.size c.now m.lv c.lens m.dw
 took:Row h n 3 .i64 m.tv (iN c.took)
 og:∀b,aK m.tv b->¬aK m.pv b∧¬aK m.lv b
 mZ:∀b,aK m.pv b->¬aK m.lv b
 cs:Own h 0 n 329 m.cv (m.iv.map fun x=>jP x.2.2 0)
 ku:m.iv.length=c.aZ.length
 code:∀i,i<c.aZ.length->∃x,m.iv[i]? =some x∧pH h x.1 x.2.1 x.2.2 (c.aZ.getD i [])∧p<x.1∧x.2.1<=n∧∀b,x.1<=b->b<x.2.1->¬m.F z b
theorem lY{h:H}{a b:Nat}{A B:AB}(f:h.get a=some A)(c:h.get b=some B)(d:A.elem≠B.elem):a≠b:=fun e=>by subst e;rw[f]at c;cases c;exact d rfl
section
variable {h:H} {n z p:Nat} {c:Cd} {m:Cm}
theorem cI.zq(x:cI h n z p c m):z≠m.q:=lY x.get x.pk.get (by decide:(252:Nat)≠282)
theorem cI.zr(x:cI h n z p c m):z≠m.r:=lY x.get x.de.get (by decide:(252:Nat)≠333)
theorem cI.qr(x:cI h n z p c m):m.q≠m.r:=lY x.pk.get x.de.get (by decide:(282:Nat)≠333)
theorem cI.int(x:cI h n z p c m){b:Nat}{B:AB}(d:h.get b=some B)(a:B.elem=3):b≠z∧b≠m.q∧b≠m.r∧¬aK m.cv b:=by refine⟨lY d x.get (by rw[a];exact(by decide:(3:Nat)≠252)),lY d x.pk.get (by rw[a];exact(by decide:(3:Nat)≠282)),lY d x.de.get (by rw[a];exact(by decide:(3:Nat)≠333)),fun e=> ?_⟩;obtain⟨C,g,f⟩:=x.cs.elem e;exact lY d g (by rw[a,f];exact(by decide:(3:Nat)≠329)) rfl
theorem cI.tv(x:cI h n z p c m){b:Nat}(e:aK m.tv b):b≠z∧b≠m.q∧b≠m.r∧¬aK m.cv b∧¬aK m.pv b∧¬aK m.lv b:=by obtain⟨B,g,f⟩:=x.took.elem e;obtain⟨a,b,c,d⟩:=x.int g f;exact⟨a,b,c,d,x.og _ e⟩
theorem cI.pv(x:cI h n z p c m){b:Nat}(a:aK m.pv b):b≠z∧b≠m.q∧b≠m.r∧¬aK m.cv b:=by obtain⟨B,e,d⟩:=x.pk.own.elem a;exact x.int e d
theorem cI.lv(x:cI h n z p c m){b:Nat}(a:aK m.lv b):b≠z∧b≠m.q∧b≠m.r∧¬aK m.cv b:=by obtain⟨B,e,d⟩:=x.de.own.elem a;exact x.int e d
theorem cI.cv(x:cI h n z p c m){b:Nat}(e:aK m.cv b):b≠z∧b≠m.q∧b≠m.r:=by obtain⟨C,d,a⟩:=x.cs.elem e;exact⟨lY d x.get (by rw[a];exact(by decide:(329:Nat)≠252)),lY d x.pk.get (by rw[a];exact(by decide:(329:Nat)≠282)),lY d x.de.get (by rw[a];exact(by decide:(329:Nat)≠333))⟩
theorem cI.tA(x:cI h n z p c m){b:Nat}(hb:m.F z b):b<n:=by
 rcases hb with rfl|rfl|rfl|hb|hb|hb
 ·exact x.lt
 ·exact x.pk.lt
 ·exact x.de.lt
 ·exact(x.pk.own.lt hb).2
 ·exact(x.de.own.lt hb).2
 ·exact(x.cs.lt hb).2
theorem cI.au(x:cI h n z p c m){h':H}{n':Nat}(f:n<=n')(d:∀b,b<n->(m.F z b∨aK m.tv b∨∃y∈m.iv,y.1<=b∧b<y.2.1)->h'.get b=h.get b):cI h' n' z p c m where
 get:=(d z x.lt (.inl (.inl rfl))).trans x.get
 lt:=fK x.lt f
 pk:=x.pk.au f fun b a g=>d b a (.inl (g.elim (fun e=> .inr (.inl e)) fun e=> .inr (.inr (.inr (.inl e)))))
 de:=x.de.au f fun b a g=>d b a (.inl (g.elim (fun e=> .inr (.inr (.inl e))) fun e=> .inr (.inr (.inr (.inr (.inl e))))))
 took:=x.took.kT f fun b a=>d b (x.took.lt a) (.inr (.inl a))
 og:=x.og
 mZ:=x.mZ
 cs:=x.cs.au f fun b a=>d b (x.cs.lt a).2 (.inl (.inr (.inr (.inr (.inr (.inr a))))))
 ku:=x.ku
 code:=fun i j=>by obtain⟨y,e,k,r,g,q⟩:=x.code i j;exact⟨y,e,k.au fun b o l=>d b jO (.inr (.inr ⟨y,List.mem_of_getElem? e,o,l⟩)),r,jO,q⟩
theorem cI.iv(x:cI h n z p c m){y:Nat×Nat×Nat}(f:y∈m.iv):p<y.1∧y.2.1<=n∧∀b,y.1<=b->b<y.2.1->¬m.F z b:=by obtain⟨i,a,e⟩:=List.getElem_of_mem f;obtain⟨l,d,_,k,j,g⟩:=x.code i (by rw[<-x.ku];exact a);rw[bB a,e]at d;cases d;exact⟨k,j,g⟩
end
theorem cI.Ek{h:H}{n z p:Nat}{c:Cd}{m:Cm}(x:cI h n z p c m)(c':Cd)(a:Value)(C:c'.size=c.size)(A:c'.pk=c.pk)(y:c'.now=c.now)(v:c'.lens=c.lens)(g:c'.aZ=c.aZ)(r:Row h n 3 .i64 a (iN c'.took))(t:∀b,aK a b->¬aK m.pv b∧¬aK m.lv b){B:Option AB}(l:B=some (mD c' {m with tv:=a})):cI (h.set z B) n z p c' {m with tv:=a} where
 get:=by rw[get_eq,l]
 lt:=x.lt
 pk:=by
  rw[A]
  exact x.pk.au (ah _) fun b d h2=>aw _ _ (by
   rcases h2 with rfl|h2
   ·exact Ne.symm x.zq
   ·exact(x.pv h2).1)
 de:=by
  rw[C,y,v]
  exact x.de.au (ah _) fun b d h2=>aw _ _ (by
   rcases h2 with rfl|h2
   ·exact Ne.symm x.zr
   ·exact(x.lv h2).1)
 took:=r.kT (ah _) fun b d=>aw _ _ (by
  obtain⟨B,u,h2⟩:=r.elem d
  exact(x.int u h2).1)
 og:=t
 mZ:=x.mZ
 cs:=x.cs.au (ah _) fun b d=>aw _ _ (x.cv d).1
 ku:=by rw[g];exact x.ku
 code:=by rw[g];intro i j;obtain⟨w,e,k,h2,s,f⟩:=x.code i j;exact⟨w,e,k.au fun b q o=>aw _ _ fun e=>f b q o (.inl e),h2,s,f⟩
structure pK (p z:Nat) (m:Cm):Prop where
 f:¬m.F z p
 t:¬aK m.tv p
section
variable {Y d n z p:Nat} {h:H} {S:List UInt8} {D A:Nat} {c:Cd} {m:Cm}
def kW(c:Cd)(s:Pk):Cd:={c with pk:=s,took:=if s.fin=true then s.bw else c.took}
theorem aiz(x:aY h n p S D A)(y:cI h n z p c m)(O:pK p z m)(C:m.pw=false)(u6:c.pk.Ok)(K:c.pk.fin=false)(u7:100<=Y):
 af (fun b=>b=p∨m.F z b) n (aj aa gt Y (d+6) 253 #[jP z 0,jP p 0]) h n fun T h' n'=>
  match c8 c.pk (ar S D A)with
  | .short=>T= .tuple #[.int .i64 (-1),.int .i64 3]∧aY h' n' p S D A∧cI h' n' z p c m
  | .bad e=>T= .tuple #[.int .i64 (-1),.int .i64 e]∧(∃B,aY h' n' p S D B)∧cI h' n' z p c {m with pw:=true}
  | .ok s u=>T= .tuple #[.int .i64 (-1),.int .i64 0]∧aY h' n' p S D (A+u)∧∃a U,cI h' n' z p (kW c s) {m with pv:=a,tv:=U}∧(∀b,aK a b->aK m.pv b∨n<=b)∧∀b,aK U b->aK m.tv b∨n<=b:=by
 obtain⟨bs,u0⟩:∃bs,ar S D A=bs:=⟨_,rfl⟩;have g:=y.get;have hz:=y.lt;unfold mD at g;have R:=y.pk;rw[C]at R;have u4:p≠m.q:=fun e=>O.f (.inr (.inl e));have u5:¬aK m.pv p:=fun e=>O.f (.inr (.inr (.inr (.inl e))));have X:p≠z:=fun e=>O.f (.inl e)
 have hd:c.pk.count=0∨c.pk.bw.length<c.pk.count:=by
  by_cases h0:c.pk.count=0
  ·exact .inl h0
  ·refine .inr (ML (u6.len h0) fun e=> ?_);unfold Pk.fin at K;rw[e,decide_eq_true rfl,decide_eq_true (show 0<c.pk.count by omega)]at K;cases K
 rw[aB (fun _=>WH) rfl,u0];refine af.aA ?_;unfold Ki;refine jA @g ?_
 refine aN aF (aiy (Y:=Y) (d:=d) x R u4 u5 hd (aO _) u7) (ah _) (fun b _ hb=> .inr (by
  rcases hb with hb|hb|hb
  ·exact .inl hb
  ·exact .inr (.inr (.inl hb))
  ·exact .inr (.inr (.inr (.inr (.inl hb)))))) fun v1 N J l u9 q=> ?_
 have L:m.F z z:= .inl rfl
 have P:∀b,b<n->b≠p->b≠m.q->¬aK m.pv b->N.get b=h.get b:=fun b hb h2 h3 v=>u9 b hb (by
  rintro(e|e|e)
  ·exact h2 e
  ·exact h3 e
  ·exact v e)
 have nz:∀{b:Nat},¬m.F z b->b≠m.q∧¬aK m.pv b:=fun hb=>⟨fun e=>hb (.inr (.inl e)),fun e=>hb (.inr (.inr (.inr (.inl e))))⟩;have g1:N.get z=_:=(P z hz (Ne.symm X) y.zq fun e=>(y.pv e).1 rfl).trans g;have u2:z<J:=jO
 have W:∀(s:Pk) (a:Value) (pw:Bool),gH N 0 J m.q s a pw->(∀b,aK a b->aK m.pv b∨n<=b)->cI N J z p {c with pk:=s} {m with pv:=a,pw:=pw}:=fun s a pw hp j=>
  {get:=g1
   lt:=u2
   pk:=hp
   de:=y.de.au l fun b hb h2=>by
    rcases h2 with rfl|h2
    ·exact P _ hb (fun e=>O.f (.inr (.inr (.inl e.symm)))) (Ne.symm y.qr) fun e=>(y.pv e).2.2.1 rfl
    ·exact P b hb (fun e=>O.f (.inr (.inr (.inr (.inr (.inl (e▸h2))))))) (y.lv h2).2.1 fun e=>y.mZ b e h2
   took:=y.took.kT l fun b hb=>P b (y.took.lt hb) (fun e=>O.t (e▸hb)) (y.tv hb).2.1 (y.tv hb).2.2.2.2.1
   og:=fun b hb=>⟨fun e=>(j b e).elim (y.tv hb).2.2.2.2.1 fun e=>by have:=y.took.lt hb;omega,(y.tv hb).2.2.2.2.2⟩
   mZ:=fun b hb=>(j b hb).elim (y.mZ b) fun e h2=>by have:=(y.de.own.lt h2).2;omega
   cs:=y.cs.au l fun b hb=>P b (y.cs.lt hb).2 (fun e=>O.f (.inr (.inr (.inr (.inr (.inr (e▸hb))))))) (y.cv hb).2.1 fun e=>(y.pv e).2.2.2 hb
   ku:=y.ku
   code:=fun i hi=>by
    obtain⟨w,e,k,h2,h3,v⟩:=y.code i hi;refine⟨w,e,k.au fun b G E=>P b jO jO (nz (v b G E)).1 (nz (v b G E)).2,h2,jO,fun b G E h7=> ?_⟩;rcases h7 with h7|h7|h7|h7|h7|h7
    ·exact v b G E (.inl h7)
    ·exact v b G E (.inr (.inl h7))
    ·exact v b G E (.inr (.inr (.inl h7)))
    ·rcases j b h7 with h8|h8
     ·exact v b G E (.inr (.inr (.inr (.inl h8))))
     ·omega
    ·exact v b G E (.inr (.inr (.inr (.inr (.inl h7)))))
    ·exact v b G E (.inr (.inr (.inr (.inr (.inr h7)))))}
 have r:∀{s:Pk} {a:Value} {pw:Bool},gH N 0 J m.q s a pw->s.fin=false->af (fun _=>False) J (aj aa gt Y (d+5) 252 #[jP m.q 0]) N J fun T h' n'=>T= .bool false∧h'=N∧n'=J:=fun{s a pw} hp K=>by have:=Ej (Y:=Y) (d:=d+4) hp;rw[show(decide (0<s.count)&&decide (s.bw.length=s.count))=false from K]at this;exact this
 unfold sq at q;rw[u0]at q;split at q
 ·next e=>
  obtain⟨rfl,I,o⟩:=q;refine jA @g1 ?_;refine bq (r o K) l (fun _ _ h=>h.elim) ?_;refine jB ?_;try rw[e]
  have:=W c.pk m.pv false o fun b hb=> .inl hb;rw[<-C]at this;exact⟨I,this⟩
 ·next e0 e=>
  obtain⟨rfl,I,o⟩:=q;refine jA @g1 ?_;refine bq (r o K) l (fun _ _ h=>h.elim) ?_;refine jB ?_;try rw[e]
  first|exact⟨rfl,I,W c.pk m.pv true o fun b hb=> .inl hb⟩|exact⟨I,W c.pk m.pv true o fun b hb=> .inl hb⟩
 ·next s u e=>
  obtain⟨rfl,I,a,o,j⟩:=q;refine jA @g1 ?_;try rw[e]
  by_cases f:s.fin=true
  ·have dn:=Ej (Y:=Y) (d:=d+4) o;rw[show(decide (0<s.count)&&decide (s.bw.length=s.count))=true from f]at dn;refine bq dn l (fun _ _ h=>h.elim) ?_;have t:=f;unfold Pk.fin at t;rw[bZ,decide_eq_true_eq,decide_eq_true_eq]at t;have v3:=o.c9;refine jA @g1 ?_;refine aN aF (ain (Y:=Y) (d:=d+3) o jO jO) l (fun _ _ h=>h.elim) fun v2 h2 n2 Z u1 u3=> ?_;have y2:=(W s a false o j).au Z fun b hb _=>u1 b hb id;have g2:=y2.get;unfold mD at g2;have v6:=y2.lt;obtain⟨r2,f2⟩:=u3;obtain⟨a2,c2,rfl⟩:=r2.len;refine jA (aI @g2 (aI @L (aI @true_or @or_true))) ?_;refine⟨(I.au Z (u1 p I.lt id)).au (ah _) (aw _ _ X),a,_, ?_,j,fun b hb=> .inr (by have:=f2 b hb;omega)⟩;unfold kW;rw[if_pos f];have:=y2.Ek {c with pk:=s,took:=s.bw} (.slice a2 (iN s.bw).length c2) rfl rfl rfl rfl rfl r2 (fun b hb=>⟨fun e=>by have:=(o.own.lt e).2;have:=f2 b hb;omega,fun e=>by have:=(y.de.own.lt e).2;have:=f2 b hb;omega⟩) rfl;rw[<-C]at this;exact this
  ·have f:s.fin=false:=by simpa using f
   refine bq (r o f) l (fun _ _ h=>h.elim) ?_;refine jB ?_;have:=W s a false o j;refine⟨I,a,m.tv, ?_,j,fun b hb=> .inl hb⟩;unfold kW;rw[f,C];exact this
end
structure wT (size now:Nat) (lens:List Nat):Prop where
 now:now<=20
 len:lens.length<=size
 all:∀x∈lens,1<=x∧x<=20
theorem El{size c:Nat}{a:List Nat}(k:wT size c a)(f:a.length<size){bs:List Bool}{m:Nat}{l:List Nat}{u:Nat}(h:da c a bs= .ok (m,l) u):wT size m l:=by
 have b:∀(z:Int) (w:Nat),ju z a w= .ok (m,l) u->wT size m l:=by
  intro z w d;unfold ju at d;split at d
  ·next hc=>simp only[St.ok.injEq,lr]at d;obtain⟨⟨rfl,rfl⟩,_⟩:=d;exact⟨jO,k.len,k.all⟩
  ·cases d
 unfold da at h;split at h
 ·split at h
  ·cases h
  ·exact b _ _ h
 ·next h0=>
  split at h
  ·cases h
  ·simp only[St.ok.injEq,lr]at h;obtain⟨⟨rfl,rfl⟩,_⟩:=h;refine⟨k.now,by simp;omega,fun x e=> ?_⟩;rcases List.mem_append.1 e with h1|h1
   ·exact k.all x h1
   ·simp only[sV]at h1;subst h1;have:=k.now;omega
  ·cases h
  ·exact b _ _ h
theorem K6{d:Nat}{b:List Nat}{bs:List Bool}{e:Int}(h:da d b bs= .bad e):e=22:=by
 have a:∀(z:Int) (w:Nat),ju z b w= .bad e->e=22:=by
  intro z w c;unfold ju at c;split at c
  ·cases c
  ·cases c;rfl
 unfold da at h;split at h
 ·split at h
  ·cases h
  ·exact a _ _ h
 ·split at h
  ·cases h
  ·cases h
  ·cases h
  ·exact a _ _ h
theorem gP.low{h:H}{lo n q size c:Nat}{lv:Value}{b:List Nat}{a:Bool}(x:gP h lo n q size c lv b a):gP h 0 n q size c lv b a:=⟨x.get,aO _,x.lt,x.own.low (aO _)⟩
def stepT(c:Cd)(bs:List Bool):St Cd:=
 match da c.now c.lens bs with
 | .short=> .short
 | .bad e=> .bad e
 | .ok (m,l) u=>if l.length=c.size then(if dT (iN l)=1048576 then .ok {c with now:=0,lens:=[],aZ:=c.aZ++[l]} u else .bad 22)else .ok {c with now:=m,lens:=l} u
section
variable {Y d n z p:Nat} {h:H} {S:List UInt8} {D A:Nat} {c:Cd} {m:Cm}
theorem aiA(x:aY h n p S D A)(y:cI h n z p c m)(J:pK p z m)(u9:m.dw=false)(u3:wT c.size c.now c.lens)(hl:c.lens.length<c.size)(w7:3<=c.size)(U:c.size<=258)(y2:c.aZ.length<=100)(u6:3000000<=Y):
 af (fun b=>b=p∨m.F z b) n (aj aa gt Y (d+8) 255 #[jP z 0,jP p 0]) h n fun v' h' n'=>
  match stepT c (ar S D A)with
  | .short=>v'= .tuple #[.int .i64 (-1),.int .i64 3]∧aY h' n' p S D A∧cI h' n' z p c m
  | .bad e=>v'= .tuple #[.int .i64 (-1),.int .i64 e]∧(∃B,aY h' n' p S D B)∧∃c' v,cI h' n' z p c' v∧c'={c with now:=c'.now,lens:=c'.lens}∧v={m with lv:=v.lv,dw:=v.dw}∧(∀b,v.F z b->m.F z b∨n<=b)∧pK p z v
  | .ok c' u=>v'= .tuple #[.int .i64 (-1),.int .i64 0]∧aY h' n' p S D (A+u)∧∃v,cI h' n' z p c' v∧v.pw=m.pw∧v.dw=false∧v.tv=m.tv∧(∀b,v.F z b->m.F z b∨n<=b)∧pK p z v∧∀y∈v.iv,y∈m.iv∨n<=y.1:=by
 obtain⟨bs,v0⟩:∃bs,ar S D A=bs:=⟨_,rfl⟩;have g:=y.get;have hz:=y.lt;unfold mD at g;have u1:=y.de;rw[u9]at u1;have w2:p≠m.r:=fun e=>J.f (.inr (.inr (.inl e)));have w3:¬aK m.lv p:=fun e=>J.f (.inr (.inr (.inr (.inr (.inl e)))));have u0:p≠z:=fun e=>J.f (.inl e);have x9:=x.lt;have z0:((0:Int) !=0)=false:=rfl;have z3:((3:Int) !=0)=true:=rfl;rw[aB (fun _=>WJ) rfl,v0];refine af.aA ?_;unfold Kk stepT;refine jA @g ?_
 refine aN aF (aia (Y:=Y) (d:=d+2) x u1 w2 w3 u3.now hl U (aO _) jO) (ah _) (fun b _ hb=> .inr (by
  rcases hb with hb|hb|hb
  ·exact .inl hb
  ·exact .inr (.inr (.inr (.inl hb)))
  ·exact .inr (.inr (.inr (.inr (.inr (.inl hb))))))) fun v1 h1 n1 L w9 E=> ?_
 have G:∀b,b<n->b≠p->b≠m.r->¬aK m.lv b->h1.get b=h.get b:=fun b hb h2 h3 I=>w9 b hb (by
  rintro(e|e|e)
  ·exact h2 e
  ·exact h3 e
  ·exact I e)
 have nz:∀{b:Nat},¬m.F z b->b≠m.r∧¬aK m.lv b:=fun hb=>⟨fun e=>hb (.inr (.inr (.inl e))),fun e=>hb (.inr (.inr (.inr (.inr (.inl e)))))⟩;have g1:h1.get z=_:=(G z hz (Ne.symm u0) y.zr fun e=>(y.lv e).1 rfl).trans g;have w0:z<n1:=jO
 have mk:∀(wU:Nat) (t:List Nat) (a:Value) (dw:Bool),gP h1 0 n1 m.r c.size wU a t dw->(∀b,aK a b->aK m.lv b∨n<=b)->cI h1 n1 z p {c with now:=wU,lens:=t} {m with lv:=a,dw:=dw}:=fun wU t a dw hp f=>
  {get:=g1
   lt:=w0
   pk:=y.pk.au L fun b hb h2=>by
    rcases h2 with rfl|h2
    ·exact G _ hb (fun e=>J.f (.inr (.inl e.symm))) y.qr fun e=>(y.lv e).2.1 rfl
    ·exact G b hb (fun e=>J.f (.inr (.inr (.inr (.inl (e▸h2)))))) (y.pv h2).2.2.1 (y.mZ b h2)
   de:=hp
   took:=y.took.kT L fun b hb=>G b (y.took.lt hb) (fun e=>J.t (e▸hb)) (y.tv hb).2.2.1 (y.tv hb).2.2.2.2.2
   og:=fun b hb=>⟨(y.tv hb).2.2.2.2.1,fun e=>(f b e).elim (y.tv hb).2.2.2.2.2 fun e=>by have:=y.took.lt hb;omega⟩
   mZ:=fun b hb h2=>(f b h2).elim (y.mZ b hb) fun e=>by have:=(y.pk.own.lt hb).2;omega
   cs:=y.cs.au L fun b hb=>G b (y.cs.lt hb).2 (fun e=>J.f (.inr (.inr (.inr (.inr (.inr (e▸hb))))))) (y.cv hb).2.2 fun e=>(y.lv e).2.2.2 hb
   ku:=y.ku
   code:=fun i hi=>by
    obtain⟨w,e,k,h2,h3,I⟩:=y.code i hi;refine⟨w,e,k.au fun b Q C=>G b jO jO (nz (I b Q C)).1 (nz (I b Q C)).2,h2,jO,fun b Q C h7=> ?_⟩;rcases h7 with h7|h7|h7|h7|h7|h7
    ·exact I b Q C (.inl h7)
    ·exact I b Q C (.inr (.inl h7))
    ·exact I b Q C (.inr (.inr (.inl h7)))
    ·exact I b Q C (.inr (.inr (.inr (.inl h7))))
    ·rcases f b h7 with h8|h8
     ·exact I b Q C (.inr (.inr (.inr (.inr (.inl h8)))))
     ·omega
    ·exact I b Q C (.inr (.inr (.inr (.inr (.inr h7)))))}
 have fm:∀(a:Value) (dw:Bool),(∀b,aK a b->aK m.lv b∨n<=b)->(∀b,({m with lv:=a,dw:=dw}:Cm).F z b->m.F z b∨n<=b)∧pK p z {m with lv:=a,dw:=dw}:=by
  intro a dw f
  have k:∀b,({m with lv:=a,dw:=dw}:Cm).F z b->m.F z b∨n<=b:=by
   intro b h7;rcases h7 with h7|h7|h7|h7|h7|h7
   ·exact .inl (.inl h7)
   ·exact .inl (.inr (.inl h7))
   ·exact .inl (.inr (.inr (.inl h7)))
   ·exact .inl (.inr (.inr (.inr (.inl h7))))
   ·exact(f b h7).imp (fun h8=> .inr (.inr (.inr (.inr (.inl h8))))) id
   ·exact .inl (.inr (.inr (.inr (.inr (.inr h7)))))
  exact⟨k,⟨fun e=>(k p e).elim J.f fun e=>by omega,J.t⟩⟩
 unfold wR at E;rw[v0]at E;split at E
 ·next e=>
  obtain⟨rfl,X,T⟩:=E;refine jA @z3 ?_;try rw[e]
  have:=mk c.now c.lens m.lv false T fun b hb=> .inl hb;rw[<-u9]at this;exact⟨X,this⟩
 ·next e0 e=>
  obtain⟨rfl,X,T⟩:=E
  have w6:(e0 !=0)=true:=by rw[K6 e];rfl
  refine jA @w6 ?_;try rw[e]
  exact⟨rfl,X,_,_,mk c.now c.lens m.lv true T (fun b hb=> .inl hb),rfl,rfl,fm m.lv true fun b hb=> .inl hb⟩
 ·next wU t u e=>
  obtain⟨rfl,X,a,T,f⟩:=E;have u2:=El u3 hl e;refine jA (aI @z0 @g1) ?_;refine bq (Yk (Y:=Y) (d:=d+6) T) L (fun _ _ h=>h.elim) ?_;try rw[e]
  by_cases j:t.length=c.size
  ·rw[decide_eq_true j];refine jA (aI @eK @g1) ?_;refine aN aF (ah9 (Y:=Y) (d:=d+5) T jO jO) L (fun _ _ h=>h.elim) fun v2 h2 P u4 v4 r2=> ?_;have W:=(mk wU t a false T f).au u4 fun b hb _=>v4 b hb id;have x2:=X.au u4 (v4 p X.lt id);have y1:=fi t;by_cases hs:dT (iN t)=1048576
   ·refine aN aF (ah4 Y d P h2 u6 v2 t r2 jO jO (wP u2.all hs) hs) jO (fun _ _ h=>h.elim) fun v3 h3 o K O Z=> ?_;obtain⟨c3,rfl,k3⟩:=Z;have s:=W.au K fun b hb _=>O b hb id;have x3:=x2.au K (O p x2.lt id);have g3:=s.get;unfold mD at g3;have v9:=s.lt;refine jA (aI @bJ (aI @ext1 (aI @z0 @g3))) ?_;refine si trivial (adP _) s.cs (by have h9:m.iv.length=c.aZ.length:=s.ku;show(m.iv.map _).length+1<=_;rw[fS];omega) (fun b hb=> .inr (.inr (.inr (.inr (.inr (.inr (.inr hb))))))) _ fun I g4 k4=> ?_;have g5:I.get z=_:=(k4 z v9 fun e=>(s.cv e).1 rfl).trans g3;have v8:z<o+2:=jO;have N:m.F z z:= .inl rfl;refine jA (aI @g5 (aI @N (aI @true_or @or_true))) ?_;refine aN aF (Yj (Y:=Y) (d:=d+5) w7 U) jO (fun _ _ h=>h.elim) fun v6 C n6 y0 R w1=> ?_;obtain⟨rfl,rfl,x1⟩:=w1;have g6:C.get z=_:=(R z v8 id).trans (get_eq _ _ _);have x8:z<o+2+1:=jO;refine jA (aI @bJ (aI @ext1 (aI @g6 (aI @N (aI @true_or @or_true))))) ?_;rw[if_pos j,if_pos hs]
    have G:∀(B:Option AB) b,b<o->b≠z->¬aK m.cv b->(C.set z B).get b=h3.get b:=fun B b hb h7 h8=>by rw[aw _ _ h7,R b jO id,aw _ _ h7,k4 b hb h8]
    have x5:∀{b:Nat},aK m.cv b->b<o:=fun hb=>(s.cs.lt hb).2;have u5:m.iv.length=c.aZ.length:=s.ku
    have v7:∀B:AB,B=mD {c with now:=0,lens:=[],aZ:=c.aZ++[t]} {m with r:=o+2,lv:= .slice none 0 0,cv:= .slice (some ⟨o+1,0,none⟩) ((m.iv.map fun x=>jP x.2.2 0).length+1) (bo+((m.iv.map fun x=>jP x.2.2 0).length+1)),dw:=false,iv:=m.iv++[(P,o,c3)]}->
     cI (C.set z (some B)) (o+2+1) z p {c with now:=0,lens:=[],aZ:=c.aZ++[t]} {m with r:=o+2,lv:= .slice none 0 0,cv:= .slice (some ⟨o+1,0,none⟩) ((m.iv.map fun x=>jP x.2.2 0).length+1) (bo+((m.iv.map fun x=>jP x.2.2 0).length+1)),dw:=false,iv:=m.iv++[(P,o,c3)]}:=fun B hB=>
     {get:=by rw[get_eq,hB]
      lt:=jO
      pk:=s.pk.au jO fun b hb h7=>by
       rcases h7 with rfl|h7
       ·exact G _ _ hb (Ne.symm s.zq) fun e=>(s.cv e).2.1 rfl
       ·exact G _ b hb (s.pv h7).1 (s.pv h7).2.2.2
      de:=(x1.low).au (ah _) fun b hb h7=>aw _ _ (by
       rcases h7 with rfl|h7
       ·omega
       ·obtain⟨_,_,_,h7⟩:=h7;cases h7)
      took:=s.took.kT jO fun b hb=>G _ b (s.took.lt hb) (s.tv hb).1 (s.tv hb).2.2.2.1
      og:=fun b hb=>⟨(s.tv hb).2.2.2.2.1,fun e=>by obtain⟨_,_,_,e⟩:=e;cases e⟩
      mZ:=fun b hb e=>by obtain⟨_,_,_,e⟩:=e;cases e
      cs:=by
       refine .inr ⟨o+1, ?_, ?_,jO,jO⟩
       ·simp
       ·rw[aw _ _ jO,R _ jO id,aw _ _ jO,g4,List.map_append];rfl
      ku:=by simp[u5]
      code:=fun i hi=>by
       have hi:i<c.aZ.length+1:=by simpa using hi
       by_cases u7:i<c.aZ.length
       ·obtain⟨w,e,k,h7,h8,h9⟩:=s.code i u7;refine⟨w,by rw[sS jO];exact e, ?_,h7,jO,fun b q l dD=> ?_⟩
        ·have:(c.aZ++[t]).getD i []=c.aZ.getD i []:=by rw[D5,if_pos u7]
         show pH _ _ _ _ ((c.aZ++[t]).getD i []);rw[this];exact k.au fun b q l=>G _ b jO (fun e=>h9 b q l (.inl e)) fun e=>h9 b q l (.inr (.inr (.inr (.inr (.inr e)))))
        ·rcases dD with dD|dD|dD|dD|dD|dD
         ·exact h9 b q l (.inl dD)
         ·exact h9 b q l (.inr (.inl dD))
         ·have:b=o+2:=dD;omega
         ·exact h9 b q l (.inr (.inr (.inr (.inl dD))))
         ·obtain⟨_,_,_,e⟩:=dD;cases e
         ·have:=dD.inj;omega
       ·have w5:i=c.aZ.length:=jO;subst w5;refine⟨(P,o,c3),by rw[<-u5,qU (ah _),sX];rfl, ?_,x2.lt,by show o<=_;omega,fun b q l dD=> ?_⟩
        ·have:(c.aZ++[t]).getD c.aZ.length []=t:=by rw[D5,if_neg jO,if_pos rfl]
         show pH _ _ _ _ ((c.aZ++[t]).getD c.aZ.length []);rw[this];refine k3.au fun b q l=>G _ b l (fun e=>by have:=W.lt;omega) fun e=> ?_;have:=(W.cs.lt e).2;omega
        ·have q:P<=b:=q;have l:b<o:=l;rcases dD with dD|dD|dD|dD|dD|dD
         ·have:=W.lt;omega
         ·have dD:b=m.q:=dD;have:=W.pk.lt;have y3:m.q<P:=this;omega
         ·have:b=o+2:=dD;omega
         ·have:=(W.pk.own.lt dD).2;omega
         ·obtain⟨_,_,_,e⟩:=dD;cases e
         ·have:=dD.inj
          omega}
    have fk:∀b,({m with r:=o+2,lv:= .slice none 0 0,cv:= .slice (some ⟨o+1,0,none⟩) ((m.iv.map fun x=>jP x.2.2 0).length+1) (bo+((m.iv.map fun x=>jP x.2.2 0).length+1)),dw:=false,iv:=m.iv++[(P,o,c3)]}:Cm).F z b->m.F z b∨n<=b:=by
     intro b dD;rcases dD with dD|dD|dD|dD|dD|dD
     ·exact .inl (.inl dD)
     ·exact .inl (.inr (.inl dD))
     ·have:b=o+2:=dD;exact .inr jO
     ·exact .inl (.inr (.inr (.inr (.inl dD))))
     ·obtain⟨_,_,_,e⟩:=dD;cases e
     ·have:=dD.inj;exact .inr jO
    refine⟨(x3.au jO ((R p (by have:=x3.lt;omega) id).trans ((aw _ _ u0).trans (k4 p x3.lt fun e=>J.f (.inr (.inr (.inr (.inr (.inr e)))))))):aY C _ p S D (A+u)).au (ah _) (aw _ _ u0),_,v7 _ rfl,rfl,rfl,rfl,fk,⟨fun e=>(fk p e).elim J.f fun e=>by omega,J.t⟩,fun y hy=>by
     rcases List.mem_append.1 hy with hy|hy
     ·exact .inl hy
     ·simp only[sV]at hy;subst hy
      exact .inr (by show n<=P;omega)⟩
   ·refine aN aF (ah3 Y d P h2 u6 v2 (iN t) r2 jO jO (wK.2 fun x hx=>by
     obtain⟨w,hw,rfl⟩:=List.mem_map.1 hx;have:=u2.all w hw
     omega) hs) jO (fun _ _ h=>h.elim) fun v3 h3 o K O Z=> ?_
    subst Z;have v5:((22:Int) !=0)=true:=rfl;refine jA (aI @bJ (aI @ext1 @v5)) ?_;rw[if_pos j,if_neg hs];exact⟨rfl,⟨_,x2.au K (O p x2.lt id)⟩,_,_,W.au K fun b hb _=>O b hb id,rfl,rfl,fm a false f⟩
  ·rw[decide_eq_false j];refine jA @cf ?_;rw[if_neg j];exact⟨X,_,mk wU t a false T f,rfl,rfl,rfl,(fm a false f).1,(fm a false f).2,fun y hy=> .inl hy⟩
end
def iV(c:Cd)(bs:List Bool):St (Nat×Cd):=
 if c.took.length<=c.count/50 then .bad 25 else
 match fI (c.aZ.getD (c.took.getD (c.count/50) 0) []) bs with
 |none=> .short
 |some s=> .ok (s,{c with count:=c.count+1,done:=decide (s+1=c.size)}) ((c.aZ.getD (c.took.getD (c.count/50) 0) []).getD s 0)
section
variable {Y d n z p:Nat} {h:H} {S:List UInt8} {D A:Nat} {c:Cd} {m:Cm}
theorem aiB(x:aY h n p S D A)(y:cI h n z p c m)(ap:pK p z m)(ht:∀v∈c.took,v<c.aZ.length)(hw:∀l∈c.aZ,Wh l∧l.length=c.size)(u5:c.size<=258)(hc:c.count<=1000000000000000)(u1:100<=Y):
 af (fun b=>b=p∨m.F z b) n (aj aa gt Y (d+6) 251 #[jP z 0,jP p 0]) h n fun R h' n'=>
  match iV c (ar S D A)with
  | .short=>R= .tuple #[.int .i64 (-1),.int .i64 3]∧aY h' n' p S D A∧cI h' n' z p c m
  | .bad e=>R= .tuple #[.int .i64 (-1),.int .i64 e]∧aY h' n' p S D A∧cI h' n' z p c m
  | .ok (s,c') u=>R= .tuple #[.int .i64 (s:Int),.int .i64 0]∧aY h' n' p S D (A+u)∧cI h' n' z p c' m:=by
 have g:=y.get;have hz:=y.lt;unfold mD at g;have K:p≠z:=fun e=>ap.f (.inl e);have v0:=x.lt;have z0:((0:Int) !=0)=false:=rfl;have z3:((3:Int) !=0)=true:=rfl;have N:((c.count:Nat):Int).tdiv 50=((c.count/50:Nat):Int):=rfl;have lt:=fi c.took;rw[aB (fun _=>WE) rfl];refine af.aA ?_;unfold Kg iV;by_cases E:c.took.length<=c.count/50
 ·rw[if_pos E];obtain⟨a,cc,j⟩:=y.took.len;rw[j]at g;have c1:((((iN c.took).length:Nat)):Int)<=((c.count/50:Nat):Int):=jO;refine jA (aI @g (aI @N @c1)) ?_;exact⟨x,y⟩
 ·rw[if_neg E];obtain⟨b,T,cap,o,ks,j,hg,v4,hv⟩:=y.took.some jO;have c1:¬((((iN c.took).length:Nat)):Int)<=((c.count/50:Nat):Int):=jO;rw[j]at g;obtain⟨f,i⟩:∃t,c.took.getD (c.count/50) 0=t:=⟨_,rfl⟩
  have X:ks[T+c.count/50]? =some (jI (f:Int)):=by rw[hv.2.2.2 _ jO,pG,i]
  have J:f<c.aZ.length:=by refine ht f ?_;rw[<-i,bz,bB jO];exact dO _
  obtain⟨w,W,kc,Z,U,u7⟩:=y.code f J;have v3:=y.ku
  obtain⟨G,u3,u2,v5⟩:∃G,m.cv= .slice (some ⟨G,0,none⟩) m.iv.length (bo+m.iv.length)∧h.get G=some ⟨329,true,m.iv.map fun x=>jP x.2.2 0⟩∧G<n:=by
   rcases y.cs with ⟨_,e⟩|⟨G,O,h2,_,h4⟩
   ·have:m.iv.length=0:=by rw[aoA]at e;rw[e];rfl
    omega
   ·rw[fS]at O;exact⟨G,O,h2,h4⟩
  rw[u3]at g
  have B:(m.iv.map fun x=>jP x.2.2 0)[f]? =some (jP w.2.2 0):=by rw[jd,W];rfl
  have u9:(f:Int)<((m.iv.length:Nat):Int):=jO
  have L:c.aZ.getD f []∈c.aZ:=by rw[bz,bB J];exact dO _
  have I:=hw _ L;rw[i];obtain⟨ln,u0⟩:∃l,c.aZ.getD f []=l:=⟨_,rfl⟩;rw[u0]at kc I⊢;refine jA (aI @g (aI @N (aI @c1 (aI @hg (aI @X (aI @u2 @B)))))) ?_;refine aN aF (ah6 (Y:=Y) (d:=d) x kc I.1 U Z jO u1) (ah _) (fun b _ E=> .inr (.inl E)) fun v1 O n1 v2 u4 k=> ?_;obtain⟨rfl,k⟩:=k
  have C:cI O n1 z p c m:=y.au (ah _) fun b E h7=>u4 b E (by
   rcases h7 with h7|h7|⟨y',h7,h8,h9⟩
   ·exact fun e=>ap.f (e▸h7)
   ·exact fun e=>ap.t (e▸h7)
   ·have:=(y.iv h7).1
    omega)
  have g1:=C.get;unfold mD at g1;have u6:=C.lt;have r:m.F z z:= .inl rfl;rcases k with ⟨e,rfl,Q⟩|⟨s,e,rfl,Q⟩
  ·refine jA (aI @bJ (aI @ext1 @z3)) ?_;rw[e];exact⟨Q,C⟩
  ·have w1:IntKind.i64.wrap ((c.count:Int)+1)=((c.count+1:Nat):Int):=by rw[aH jO jO];omega
   have w2:IntKind.i64.wrap ((c.size:Int)-1)=(c.size:Int)-1:=aH jO jO
   have e2:(((s:Nat):Int)==(c.size:Int)-1)=decide (s+1=c.size):=by
    by_cases q:s+1=c.size
    ·rw[decide_eq_true q];exact beq_iff_eq.2 jO
    ·rw[decide_eq_false q];exact beq_eq_false_iff_ne.2 jO
   refine jA (aI @bJ (aI @ext1 (aI @z0 (aI @g1 (aI @r (aI @w1 (aI @w2 @e2))))))) ?_;rw[e];have P:=C.Ek {c with count:=c.count+1} m.tv rfl rfl rfl rfl rfl C.took C.og rfl;have y3:=P.Ek {c with count:=c.count+1,done:=decide (s+1=c.size)} m.tv rfl rfl rfl rfl rfl P.took P.og rfl;exact⟨rfl,(Q.au (ah _) (aw _ _ K)).au (ah _) (aw _ _ K),y3⟩
end
theorem Ae:∀{r o:Nat} {bs:List Bool} {a u:Nat},fz r o bs= .ok a u->o<=a∧a<o+r
 |0,_,_,_,_,h=>by simp[fz]at h
 |_+1,_,[],_,_,h=>by simp[fz]at h
 |r+1,o,false::_,_,_,h=>by simp only[fz,St.ok.injEq]at h;omega
 |r+1,o,true::bs,_,_,h=>by have:=Ae (r:=r) (o:=o+1) (bs:=bs) h;omega
theorem Ys:∀{r o:Nat} {bs:List Bool} {e:Int},fz r o bs= .bad e->e=25
 |0,_,_,_,h=>by simp only[fz,St.bad.injEq]at h;exact h.symm
 |_+1,_,[],_,h=>by simp[fz]at h
 |r+1,o,false::_,_,h=>by simp[fz]at h
 |r+1,o,true::bs,_,h=>Ys (r:=r) (o:=o+1) (bs:=bs) h
theorem aiC{a:Type}(d:a){O:List a}{i:Nat}(b:i<O.length)(j:Nat):(db d O i).getD j d=if j=0 then O.getD i d else if j<=i then O.getD (j-1) d else O.getD j d:=by
 unfold db;cases j with
 |zero=>rfl
 |succ j=>
  rw[if_neg jO];show(O.take i++O.drop (i+1)).getD j d=_;simp only[bz,Nat.add_sub_cancel];by_cases h:j+1<=i
  ·rw[if_pos h,sS (by rw[cT];omega),List.getElem?_take,if_pos jO]
  ·rw[if_neg h,qU (by rw[cT];omega),cT,List.getElem?_drop,show i+1+(j-min i O.length)=j+1 by omega]
theorem Yt{j:Nat}(h:j<6):pJ.getD j 0=j:=by rcases j with _|_|_|_|_|_|j<;>first|rfl|omega
theorem Yu{s:Pk}{bs:List Bool}{e:Int}(h:c8 s bs= .bad e):e=25:=by
 unfold c8 at h;split at h
 ·split at h
  ·cases h
  ·split at h
   ·cases h
   ·cases h;rfl
 ·split at h
  ·cases h
  ·next e' a=>cases h;exact Ys a
  ·cases h
theorem K7{s g:Pk}{bs:List Bool}{u:Nat}(k:s.Ok)(y:s.t<=6)(v:s.ord.length=6)(f:s.fin=false)(h:c8 s bs= .ok g u):g.Ok∧0<u∧u<=bs.length:=by
 unfold c8 at h;split at h
 ·next h0=>
  split at h
  ·cases h
  ·split at h
   ·next hb i=>
    simp only[St.ok.injEq]at h;obtain⟨rfl,rfl⟩:=h;obtain⟨c,p⟩:=k.new h0;refine⟨⟨fun e=>absurd e i.2,fun j a=> ?_,fun x hx=> ?_,fun _=> ?_,fun _=>i.1.1⟩,jO,jO⟩
    ·show s.ord.getD j 0<_;rw[p,Yt (by have:j<num (bs.take 18) 0/32768:=a;omega)];exact a
    ·have hx:x∈s.bw:=hx;rw[c]at hx;cases hx
    ·show s.bw.length<=_;rw[c];exact aO _
   ·cases h
 ·next h0=>
  split at h
  ·cases h
  ·cases h
  ·next o q c=>
   simp only[St.ok.injEq]at h;obtain⟨rfl,rfl⟩:=h;have t:=(Ae c).2
   have n:s.bw.length<s.count:=by have:=k.len h0;refine ML this fun e=> ?_;unfold Pk.fin at f;rw[e,decide_eq_true rfl,decide_eq_true (show 0<s.count by omega)]at f;cases f
   have m:∀{r o:Nat} {bs:List Bool} {d u:Nat},fz r o bs= .ok d u->u=d+1∧u<=o+bs.length:=by
    intro r
    induction r with
    |zero=>intro o bs d u h;simp[fz]at h
    |succ r l=>
     intro o bs d u h;cases bs with
     |nil=>simp[fz]at h
     |cons b bs=>
      cases b with
      |false=>simp only[fz,St.ok.injEq]at h;simp only[cP];omega
      |true=>have:=l (o:=o+1) (bs:=bs) h;simp only[cP];omega
   have:=m c;refine⟨⟨fun e=>absurd e h0,fun j a=> ?_,fun x hx=> ?_,fun _=> ?_,fun e=>k.two e⟩,jO,jO⟩
   ·show(db 0 s.ord o).getD j 0<s.t;have a:j<s.t:=a;rw[aiC 0 jO];split
    ·exact k.ord o jO
    ·split
     ·exact k.ord _ jO
     ·exact k.ord j a
   ·rcases List.mem_append.1 hx with hx|hx
    ·exact k.bw x hx
    ·simp only[sV]at hx;rw[hx];exact k.ord o jO
   ·show(s.bw++[_]).length<=s.count;simp;omega
structure hM (c:Cd):Prop where
 pk:c.pk.Ok
 gm:c.pk.t<=6
 ol:c.pk.ord.length=6
 nt:c.pk.fin=false->c.aZ=[]∧c.took=[]
 tk:c.pk.fin=true->c.took=c.pk.bw
 cl:c.aZ.length<=c.pk.t
 ln:wT c.size c.now c.lens
 ll:c.lens.length<c.size
 wh:∀l∈c.aZ,Wh l∧l.length=c.size
 lo:3<=c.size
 hi:c.size<=258
 wr:c.dM=0
 dn:c.done=false
def ed(c:Cd)(bs:List Bool):St (Int×Cd):=
 if c.pk.fin=false then match c8 c.pk bs with
  | .short=> .short
  | .bad e=> .bad e
  | .ok s u=> .ok (-1,kW c s) u
 else if c.aZ.length<c.pk.t then match stepT c bs with
  | .short=> .short
  | .bad e=> .bad e
  | .ok a u=> .ok (-1,a) u
 else match iV c bs with
  | .short=> .short
  | .bad e=> .bad e
  | .ok (s,a) u=> .ok ((s:Int),a) u
theorem Em{d:Nat}{b:List Nat}{bs:List Bool}{m:Nat}{l:List Nat}{u:Nat}(h:da d b bs= .ok (m,l) u):0<u∧u<=bs.length:=by
 have a:∀(z:Int) (w:Nat),ju z b w= .ok (m,l) u->u=w:=by
  intro z w c;unfold ju at c;split at c
  ·simp only[St.ok.injEq]at c;exact c.2.symm
  ·cases c
 unfold da at h;split at h
 ·split at h
  ·cases h
  ·have:=a _ _ h;omega
 ·split at h
  ·cases h
  ·simp only[St.ok.injEq]at h;simp only[cP];omega
  ·cases h
  ·have:=a _ _ h;simp only[cP];omega
theorem K8{c c':Cd}{bs:List Bool}{u:Nat}(k:hM c)(g:c.aZ.length<c.pk.t)(fin:c.pk.fin=true)(h:stepT c bs= .ok c' u):hM c'∧c'.count=c.count∧0<u∧u<=bs.length:=by
 unfold stepT at h;split at h
 ·cases h
 ·cases h
 ·next m l f b=>
  have ok:=El k.ln k.ll b;have a:=Em b;split at h
  ·next hl=>
   split at h
   ·next hs=>
    simp only[St.ok.injEq]at h;obtain⟨rfl,rfl⟩:=h;refine⟨⟨k.pk,k.gm,k.ol,fun e=>absurd fin (by rw[show c.pk.fin=false from e];decide),k.tk,by simp;omega,⟨aO _,aO _,fun x d=>absurd d jS⟩,by have:=k.lo;show 0<c.size;omega,fun w hw=> ?_,k.lo,k.hi,k.wr,k.dn⟩,rfl,a.1,a.2⟩;rcases List.mem_append.1 hw with hw|hw
    ·exact k.wh w hw
    ·simp only[sV]at hw;subst hw;exact⟨wP ok.all hs,hl⟩
   ·cases h
  ·next hl=>simp only[St.ok.injEq]at h;obtain⟨rfl,rfl⟩:=h;exact⟨⟨k.pk,k.gm,k.ol,k.nt,k.tk,k.cl,ok,ML ok.len hl,k.wh,k.lo,k.hi,k.wr,k.dn⟩,rfl,a.1,a.2⟩
theorem Eo{c:Cd}(k:hM c)(fin:c.pk.fin=true)(b:¬c.aZ.length<c.pk.t):∀v∈c.took,v<c.aZ.length:=fun v a=>by rw[k.tk fin]at a;have:=k.pk.bw v a;omega
theorem wV{c c':Cd}{bs:List Bool}{sym:Int}{u:Nat}(k:hM c)(h:ed c bs= .ok (sym,c') u):(c'.done=false->hM c')∧c'.count<=c.count+1∧0<u∧u<=bs.length:=by
 unfold ed at h;split at h
 ·next hf=>
  split at h
  ·cases h
  ·cases h
  ·next s r a=>
   simp only[St.ok.injEq,lr]at h;obtain⟨⟨rfl,rfl⟩,rfl⟩:=h;obtain⟨i,d,g⟩:=K7 k.pk k.gm k.ol hf a;obtain⟨l,m⟩:=k.nt hf;refine⟨fun _=>⟨i, ?_, ?_,fun e=>⟨l, ?_⟩,fun e=> ?_, ?_,k.ln,k.ll,k.wh,k.lo,k.hi,k.wr,k.dn⟩,eL _,d,g⟩
   ·show s.t<=6;unfold c8 at a;split at a
    ·split at a
     ·cases a
     ·split at a
      ·next hc=>simp only[St.ok.injEq]at a;obtain⟨rfl,_⟩:=a;exact hc.1.2
      ·cases a
    ·split at a
     ·cases a
     ·cases a
     ·simp only[St.ok.injEq]at a;obtain⟨rfl,_⟩:=a;exact k.gm
   ·show s.ord.length=6;unfold c8 at a;split at a
    ·split at a
     ·cases a
     ·split at a
      ·simp only[St.ok.injEq]at a;obtain⟨rfl,_⟩:=a;exact k.ol
      ·cases a
    ·split at a
     ·cases a
     ·cases a
     ·next o j q=>simp only[St.ok.injEq]at a;obtain⟨rfl,_⟩:=a;have:=(Ae q).2;have:=k.gm;exact wS (dv:=0) k.ol jO
   ·have e:s.fin=false:=e;show(if s.fin=true then s.bw else c.took)=[];rw[e];exact m
   ·have e:s.fin=true:=e;show(if s.fin=true then s.bw else c.took)=s.bw;rw[if_pos e]
   ·show c.aZ.length<=s.t;rw[l];exact aO _
 ·next hf=>
  have fin:c.pk.fin=true:=by simpa using hf
  split at h
  ·next ht=>
   split at h
   ·cases h
   ·cases h
   ·next c2 j a=>simp only[St.ok.injEq,lr]at h;obtain⟨⟨rfl,rfl⟩,rfl⟩:=h;obtain⟨i,d,g⟩:=K8 k ht fin a;exact⟨fun _=>i,jO,g⟩
  ·next ht=>
   split at h
   ·cases h
   ·cases h
   ·next s c2 j a=>
    simp only[St.ok.injEq,lr]at h;obtain⟨⟨rfl,rfl⟩,rfl⟩:=h;unfold iV at a;split at a
    ·cases a
    ·next hb=>
     split at a
     ·cases a
     ·next s' d=>
      simp only[St.ok.injEq,lr]at a;obtain⟨⟨rfl,rfl⟩,rfl⟩:=a;obtain⟨p,n,t⟩:=pF d
      have b:c.aZ.getD (c.took.getD (c.count/50) 0) []∈c.aZ:=by
       have f:c.took.getD (c.count/50) 0<c.aZ.length:=by refine Eo k fin ht _ ?_;rw[bz,bB jO];exact dO _
       rw[bz,bB f];exact dO _
      have:=((k.wh _ b).1.at p).1;exact⟨fun hd=>⟨k.pk,k.gm,k.ol,k.nt,k.tk,k.cl,k.ln,k.ll,k.wh,k.lo,k.hi,k.wr,hd⟩,ah _,jO,n⟩
theorem Ep{c:Cd}{bs:List Bool}{e:Int}(h:ed c bs= .bad e):e=22∨e=25:=by
 unfold ed at h;split at h
 ·split at h
  ·cases h
  ·next h1=>cases h;exact .inr (Yu h1)
  ·cases h
 ·split at h
  ·split at h
   ·cases h
   ·next h1=>
    cases h;unfold stepT at h1;split at h1
    ·cases h1
    ·next h2=>cases h1;exact .inl (K6 h2)
    ·split at h1
     ·split at h1
      ·cases h1
      ·cases h1;exact .inl rfl
     ·cases h1
   ·cases h
  ·split at h
   ·cases h
   ·next h1=>
    cases h;unfold iV at h1;split at h1
    ·cases h1;exact .inr rfl
    ·split at h1
     ·cases h1
     ·cases h1
   ·cases h
theorem K9{b:Type}{rec:FuncId->Array Value->M Value}{f:FuncId}(c:nB aa f=true)(r a:Value)(k:Value->M b):kI aa rec (.func (.func f) #[r] #[]) [a] k=ai rec f [r,a] k:=by unfold kI;show bg (some _) _=_;rw[tG];simp only[c];exact(lT _ _).symm
section
variable {Y d n z p:Nat} {h:H} {S:List UInt8} {D A:Nat} {c:Cd} {m:Cm}
def K'(h:H)(n p:Nat)(S:List UInt8)(D A z:Nat)(c:Cd)(m:Cm)(f:Value)(h':H)(n':Nat):Prop:=
 match ed c (ar S D A)with
 | .short=>f= .tuple #[.int .i64 0,.int .i64 3]∧aY h' n' p S D A∧cI h' n' z p c m
 | .bad e=>f= .tuple #[.int .i64 0,.int .i64 e]∧(∃B,aY h' n' p S D B)∧∃d a,cI h' n' z p d a∧d.dM=e∧d.done=false∧(∀b,a.F z b->m.F z b∨n<=b)∧pK p z a∧a.tv=m.tv∧a.iv=m.iv∧d.pk=c.pk∧d.aZ=c.aZ∧d.size=c.size
 | .ok (sym,d) u=>f= .tuple #[.int .i64 sym,.int .i64 0]∧aY h' n' p S D (A+u)∧∃a,cI h' n' z p d a∧a.pw=false∧a.dw=false∧(∀b,a.F z b->m.F z b∨n<=b)∧pK p z a∧(∀b,aK a.tv b->aK m.tv b∨n<=b)∧∀y∈a.iv,y∈m.iv∨n<=y.1
theorem aiD(x:aY h n p S D A)(y:cI h n z p c m)(E:pK p z m)(J:m.pw=false)(T:m.dw=false)(k:hM c)(hc:c.count<=1000000000000000)(u9:3000000<=Y):
 af (fun b=>b=p∨m.F z b) n (aj aa gt Y (d+9) 241 #[jP z 0,jP p 0]) h n (K' h n p S D A z c m):=by
 obtain⟨Z,L⟩:∃Z,ar S D A=Z:=⟨_,rfl⟩;have g:=y.get;have hz:=y.lt;unfold mD at g;rw[k.wr,k.dn]at g;have R:p≠z:=fun e=>E.f (.inl e);have z0:((0:Int) !=0)=false:=rfl;have U:m.F z z:= .inl rfl;have dn:=Ej (Y:=Y) (d:=d+7) y.pk;rw[show(decide (0<c.pk.count)&&decide (c.pk.bw.length=c.pk.count))=c.pk.fin from rfl]at dn;rw[aB (fun _=>Wo) rfl];refine af.aA ?_;unfold J9;have v5:=fun{β:Type} {rec:FuncId->Array Value->M Value} (r a:Value) (k:Value->M β)=>K9 (rec:=rec) (f:=253) (by kernel_rfl) r a k;have v4:=fun{β:Type} {rec:FuncId->Array Value->M Value} (r a:Value) (k:Value->M β)=>K9 (rec:=rec) (f:=255) (by kernel_rfl) r a k;have v3:=fun{β:Type} {rec:FuncId->Array Value->M Value} (r a:Value) (k:Value->M β)=>K9 (rec:=rec) (f:=251) (by kernel_rfl) r a k
 have tok:∀(sym:Int) (t:H) (q:Nat) (Q:Value->H->Nat->Prop),Q (.tuple #[jI sym,jI 0]) t q->
  af (fun b=>b=p∨m.F z b) n (aU (.tuple #[jI sym,jI 0]) 0 fun d=>aU (.tuple #[jI sym,jI 0]) 1 fun h=>cH h (ii 0) fun e=>aC e (ag [d,h]) (fG h (ii 3) fun j=>aC j (ak (jP z 0) fun l=>ay 7 l fun m=>aJ m h fun _=>ag [(ii 0),h]) (ag [(ii 0),h]))) t q Q:=by
  intro sym t q Q hQ;have N:((0:Int)==0)=true:=rfl;refine jA (aI @bJ (aI @ext1 @N)) ?_;exact hQ
 have P:∀(sym:Int) (t:H) (q:Nat) (Q:Value->H->Nat->Prop),Q (.tuple #[jI 0,jI 3]) t q->
  af (fun b=>b=p∨m.F z b) n (aU (.tuple #[jI sym,jI 3]) 0 fun d=>aU (.tuple #[jI sym,jI 3]) 1 fun h=>cH h (ii 0) fun e=>aC e (ag [d,h]) (fG h (ii 3) fun j=>aC j (ak (jP z 0) fun l=>ay 7 l fun m=>aJ m h fun _=>ag [(ii 0),h]) (ag [(ii 0),h]))) t q Q:=by
  intro sym t q Q hQ;have N:((3:Int)==0)=false:=rfl;have e3:((3:Int) !=3)=false:=rfl;refine jA (aI @bJ (aI @ext1 (aI @N @e3))) ?_;exact hQ
 have I:∀(sym e:Int) (t:H) (q:Nat) (O:Cd) (m1:Cm) (Q:Value->H->Nat->Prop),e=22∨e=25->cI t q z p O m1->
  (∀W,(∀b,b≠z->W.get b=t.get b)->cI W q z p {O with dM:=e} m1->Q (.tuple #[jI 0,jI e]) W q)->
  af (fun b=>b=p∨m.F z b) n (aU (.tuple #[jI sym,jI e]) 0 fun d=>aU (.tuple #[jI sym,jI e]) 1 fun h=>cH h (ii 0) fun e=>aC e (ag [d,h]) (fG h (ii 3) fun j=>aC j (ak (jP z 0) fun l=>ay 7 l fun m=>aJ m h fun _=>ag [(ii 0),h]) (ag [(ii 0),h]))) t q Q:=by
  intro sym e t q O m1 Q he v hQ;have N:(e==0)=false:=beq_eq_false_iff_ne.2 jO;have e3:(e !=3)=true:=by rw[bne_iff_ne];omega
  have g1:=v.get;unfold mD at g1;have v9:=v.lt;refine jA (aI @bJ (aI @ext1 (aI @N (aI @e3 (aI @g1 @U))))) ?_;exact hQ _ (fun b G=>aw _ _ G) (v.Ek {O with dM:=e} m1.tv rfl rfl rfl rfl rfl v.took v.og rfl)
 have ff:∀b,m.F z b->m.F z b∨n<=b:=fun b G=> .inl G;refine jA (aI @g @z0) ?_;refine bq dn (ah _) (fun _ _ h=>h.elim) ?_;have o:=@Ep c Z;unfold K';rw[L];by_cases hf:c.pk.fin=false
 ·rw[hf];unfold ed at o⊢;rw[if_pos hf]at o⊢;refine jA (aI @cf @v5) ?_;refine aN aF (aiz (Y:=Y) (d:=d+2) x y E J k.pk hf jO) (ah _) (fun b _ G=> .inr G) fun v1 t q u2 u4 i=> ?_;rw[L]at i;cases e:c8 c.pk Z with
  |short=>rw[e]at i;obtain⟨rfl,C,v⟩:=i;exact P _ t q _ ⟨rfl,C,v⟩
  |bad N=>rw[e]at i o;obtain⟨rfl,⟨B,C⟩,v⟩:=i;exact I _ _ t q _ _ _ (o rfl) v fun W k2 y2=>⟨rfl,⟨B,C.au (ah _) (k2 p R)⟩,_,_,y2,rfl,k.dn,ff,⟨E.f,E.t⟩,rfl,rfl,rfl,rfl,rfl⟩
  |ok s u=>
   rw[e]at i;obtain⟨rfl,C,v8,v7,v,u1,u0⟩:=i;refine tok _ t q _ ⟨rfl,C,_,v,J,T, ?_, ?_,u0,fun y hy=> .inl hy⟩
   ·intro b h7;rcases h7 with h7|h7|h7|h7|h7|h7
    ·exact .inl (.inl h7)
    ·exact .inl (.inr (.inl h7))
    ·exact .inl (.inr (.inr (.inl h7)))
    ·exact(u1 b h7).imp (fun h8=> .inr (.inr (.inr (.inl h8)))) id
    ·exact .inl (.inr (.inr (.inr (.inr (.inl h7)))))
    ·exact .inl (.inr (.inr (.inr (.inr (.inr h7)))))
   ·have w0:=x.lt;refine⟨fun h7=> ?_,fun h7=>(u0 p h7).elim E.t fun h8=>by omega⟩;rcases h7 with h7|h7|h7|h7|h7|h7
    ·exact E.f (.inl h7)
    ·exact E.f (.inr (.inl h7))
    ·exact E.f (.inr (.inr (.inl h7)))
    ·exact(u1 p h7).elim (fun h8=>E.f (.inr (.inr (.inr (.inl h8))))) fun h8=>by omega
    ·exact E.f (.inr (.inr (.inr (.inr (.inl h7)))))
    ·exact E.f (.inr (.inr (.inr (.inr (.inr h7)))))
 ·have fin:c.pk.fin=true:=by simpa using hf
  rw[fin];have hq:=y.pk.lt
  have v2:∃a cc,m.cv= .slice a c.aZ.length cc:=by
   rcases y.cs with ⟨X,e2⟩|⟨b,X,_⟩
   ·have:m.iv=[]:=by rw[aoA]at e2;exact e2
    have h9:=y.ku;rw[this]at h9;exact⟨none,0,by rw[X,<-h9];rfl⟩
   ·rw[fS,y.ku]at X;exact⟨_,_,X⟩
  obtain⟨ca,cc,v0⟩:=v2;rw[v0]at g;unfold ed at o⊢;rw[if_neg hf]at o⊢;refine jA (aI @eK @g) ?_;refine kp trivial _ _ _ g hz rfl fun T1 t1=> ?_;refine jB ?_;refine kp trivial _ _ _ g hz rfl fun T2 t2=> ?_;refine jB ?_;refine kq aF (aim (Y:=Y) (d:=d+7) y.pk) (ah _) fun T3 t3=> ?_;by_cases ht:c.aZ.length<c.pk.t
  ·have O:((c.aZ.length:Nat):Int)<((c.pk.t:Nat):Int):=jO;rw[if_pos ht]at o⊢;try simp(disch:=first|omega|assumption) only[Nat.reduceAdd,Nat.reduceLT,RZ,O,t1.cy t3,cf,dJ,dG,v4]
   refine aN aF (aiA (Y:=Y) (d:=d) x y E T k.ln k.ll k.lo k.hi (by have:=k.gm;omega) u9) (ah _) (fun b _ G=> .inr G) fun v1 t q u2 u4 i=> ?_;rw[L]at i;cases e:stepT c Z with
   |short=>rw[e]at i;obtain⟨rfl,C,v⟩:=i;exact P _ t q _ ⟨rfl,C,v⟩
   |bad N=>rw[e]at i o;obtain⟨rfl,⟨B,C⟩,c',m',v,K,u3,fm,am⟩:=i;exact I _ _ t q _ _ _ (o rfl) v fun W k2 y2=>⟨rfl,⟨B,C.au (ah _) (k2 p R)⟩,_,_,y2,rfl,by rw[K];exact k.dn,fm,am,by rw[u3],by rw[u3],by rw[K],by rw[K],by rw[K]⟩
   |ok c' u=>rw[e]at i;obtain⟨rfl,C,m',v,X,e2,e3,fm,am,iv⟩:=i;exact tok _ t q _ ⟨rfl,C,m',v,X.trans J,e2,fm,am,fun b G=> .inl (by rw[e3]at G;exact G),iv⟩
  ·have O:¬((c.aZ.length:Nat):Int)<((c.pk.t:Nat):Int):=jO;rw[if_neg ht]at o⊢;try simp(disch:=first|omega|assumption) only[Nat.reduceAdd,Nat.reduceLT,RZ,O,t1.cy t3,cf,dJ,dG,v3]
   refine aN aF (aiB (Y:=Y) (d:=d+2) x y E (Eo k fin ht) k.wh k.hi hc jO) (ah _) (fun b _ G=> .inr G) fun v1 t q u2 u4 i=> ?_;rw[L]at i;cases e:iV c Z with
   |short=>rw[e]at i;obtain⟨rfl,C,v⟩:=i;exact P _ t q _ ⟨rfl,C,v⟩
   |bad N=>rw[e]at i o;obtain⟨rfl,C,v⟩:=i;exact I _ _ t q _ _ _ (o rfl) v fun W k2 y2=>⟨rfl,⟨_,C.au (ah _) (k2 p R)⟩,_,_,y2,rfl,k.dn,ff,E,rfl,rfl,rfl,rfl,rfl⟩
   |ok cs u=>obtain⟨s,c'⟩:=cs;rw[e]at i;obtain⟨rfl,C,v⟩:=i;exact tok _ t q _ ⟨rfl,C,m,v,J,T,ff,E,fun b G=> .inl G,fun y hy=> .inl hy⟩
theorem aiE(y:cI h n z p c m):af (fun _=>False) n (aj aa gt Y (d+1) 243 #[jP z 0]) h n fun a h' n'=>a= .bool c.done∧h'=h∧n'=n:=by have g:=y.get;have b:=y.lt;unfold mD at g;rw[aB (fun _=>Wq) rfl];refine af.aA ?_;unfold Ka;exact jC @g
def m4(size:Nat):Cd:=⟨size,⟨0,0,pJ,[]⟩,0,[],[],[],0,false,0⟩
end
inductive Rs
 |err (e:Int)
 |ok (out:List Int) (a:Nat)
theorem Er{size:Nat}(f:3<=size)(a:size<=258):hM (m4 size):=⟨⟨fun _=>⟨rfl,rfl⟩,fun j d=>absurd d (lq j),fun x b=>absurd b (by simp[m4]),fun e=>absurd rfl e,fun e=>absurd rfl e⟩,aO _,rfl,fun _=>⟨rfl,rfl⟩,fun e=>absurd (show false=true from e) jD,aO _,⟨aO _,aO _,fun x b=>absurd b (by simp[m4])⟩,(by show 0<size;omega),fun l c=>absurd c (by simp[m4]),f,a,rfl,rfl⟩
def Af(n:Nat):Cm:=⟨n+3,.slice none 0 0,.slice none 0 0,n,.slice none 0 0,.slice none 0 0,false,false,[]⟩
theorem oh{b:Nat}:¬aK (.slice none 0 0) b:=fun⟨_,_,_,e⟩=>by cases e
theorem aiF{n b:Nat}(h:(Af n).F (n+4) b):n<=b:=by
 rcases h with h|h|h|h|h|h
 ·omega
 ·have:b=n+3:=h;omega
 ·have:b=n:=h;omega
 ·exact absurd h oh
 ·exact absurd h oh
 ·exact absurd h oh
section
variable {Y d n z p:Nat} {h:H} {S:List UInt8} {D A:Nat} {c:Cd} {m:Cm}
theorem aiG{size:Nat}(r:3<=size)(c:size<=258)(g:100<=Y)(p:Nat):af (fun _=>False) n (aj aa gt Y (d+3) 247 #[jI (size:Int)]) h n fun v h' n'=>v= .tuple #[jP (n+4) 0,jI 0]∧n'=n+5∧cI h' n' (n+4) p (m4 size) (Af n):=by
 rw[aB (fun _=>Wz) rfl];refine af.aA ?_;unfold Kc;have k:((0:Int) !=0)=false:=rfl;refine aN aF (Yj (Y:=Y) (d:=d) r c) (ah _) (fun _ _ h=>h.elim) fun y t A o u f=> ?_;obtain⟨rfl,rfl,de⟩:=f;refine jA (aI @bJ (aI @ext1 @k)) ?_;refine aN aF (aip (Y:=Y) (d:=d) g) jO (fun _ _ h=>h.elim) fun x s z m j e=> ?_;obtain⟨rfl,rfl,pk⟩:=e;refine jB ?_;refine gD trivial _ _ ?_;refine jB ?_;have l:∀(B:Option AB) b,b<n+1->(s.set (n+1+3) B).get b=t.get b:=fun B b a=>by rw[aw _ _ jO,j b a id]
 exact
  {get:=get_eq _ _ _
   lt:=jO
   pk:=⟨(aw _ _ (by show n+3≠_;omega)).trans pk.get,aO _,by show n+3<_;omega,Own.nil _ _ _ _,rfl,aO _,(by decide:0<32768)⟩
   de:=⟨(l _ n jO).trans de.get,aO _,by show n<_;omega,Own.nil _ _ _ _⟩
   took:=(Own.nil _ 0 _ _:Own _ 0 _ _ _ (aV .i64 (iN []))).row
   og:=fun b a=>absurd a oh
   mZ:=fun b a=>absurd a oh
   cs:=Own.nil _ _ _ _
   ku:=rfl
   code:=fun i q=>absurd q (lq i)}
end
def ch(b:Bool):UInt8:=if b=true then 49 else 48
def iE(l:List Bool):List UInt8:=l.map ch
def tx(l:List Bool):Value:= .string ⟨(iE l).toArray⟩
theorem uP(l:List Bool):(iE l).length=l.length:=by unfold iE;simp
theorem aiH(a b:List Bool):iE (a++b)=iE a++iE b:=by unfold iE;simp
theorem Yv(l:List Bool)(k:Nat):(iE l).take k=iE (l.take k):=by unfold iE;rw[AU]
theorem Yw(l:List Bool)(k:Nat):(iE l).drop k=iE (l.drop k):=by unfold iE;rw[xJ]
theorem aiI{l:List Bool}{i:Nat}(h:i<l.length):(iE l).getD i 0=ch l[i]:=by unfold iE;rw[bz,jd,bB h];rfl
theorem aiJ{a b:Bool}(h:ch a=ch b):a=b:=by cases a<;>cases b<;>first|rfl|exact absurd h jD
theorem La:∀{a b:List Bool},iE a=iE b->a=b
 |[],[],_=>rfl
 |[],b::m,h=>by simp[iE]at h
 |a::l,[],h=>by simp[iE]at h
 |a::l,b::m,h=>by unfold iE at h;simp only[List.map_cons,apj]at h;rw[aiJ h.1,La (a:=l) (b:=m) h.2]
theorem aiK(b:Bool):((ch b).toNat:Int)=48+(bn b:Int):=by cases b<;>rfl
theorem Yx:aM {data:=#[]}=tx []:=rfl
theorem wW:aM {data:=#[48]}=tx [false]:=rfl
theorem Es:aM {data:=#[49]}=tx [true]:=rfl
theorem aiL:aM {data:=#[48,49]}=tx [false,true]:=rfl
theorem Yy(l:List Bool):one (tx l)=true:=rfl
theorem cZ(l:List Bool)(k:Value->M Value):bH (tx l) k=k (jI (l.length:Int)):=by unfold tx;rw[yv,uP]
theorem wX(a b:List Bool)(h:a.length+b.length<=1000000000)(k:Value->M Value):aq (tx a) (tx b) k=k (tx (a++b)):=by unfold tx;rw[tH _ _ _ (by rw[uP,uP];omega),aiH]
theorem wY(a b:List Bool)(k:Value->M Value):cH (tx a) (tx b) k=k (.bool (decide (a=b))):=by
 unfold tx;rw[tI];by_cases e:a=b
 ·rw[decide_eq_true e,decide_eq_true (by rw[e])]
 ·rw[decide_eq_false e,decide_eq_false fun q=>e (La q)]
theorem pL(l:List Bool)(k:IntKind)(i:Int)(a:0<=i)(h1:i<l.length)(q:Value->M Value):cU (tx l) (.int k i) q=q (.int .u8 (48+(bn (l.getD i.toNat false):Int))):=by unfold tx;rw[vV _ _ _ _ a (by rw[uP];exact h1),aiI jO,aiK,bz,bB jO];rfl
theorem Et(l:List Bool)(a:IntKind)(j:Int)(k:Value->M Value)(b:0<=j)(h1:j<=l.length):bL (tx l) none (some (.int a j)) k=k (tx (l.take j.toNat)):=by unfold tx;rw[yx _ _ _ _ b (by rw[uP];exact h1),Yv]
theorem oi(l:List Bool)(a:IntKind)(j:Int)(k:Value->M Value)(b:0<=j)(h1:j<=l.length):bL (tx l) (some (.int a j)) none k=k (tx (l.drop j.toNat)):=by unfold tx;rw[yy _ _ _ _ b (by rw[uP];exact h1),Yw]
theorem ss(l:List Bool)(b a:IntKind)(i j:Int)(k:Value->M Value)(c:0<=i)(h1:i<=j)(h2:j<=l.length):bL (tx l) (some (.int b i)) (some (.int a j)) k=k (tx ((l.drop i.toNat).take (j.toNat-i.toNat))):=by unfold tx;rw[yz _ _ _ _ _ _ c h1 (by rw[uP];exact h2),Yw,Yv]
section
variable {Y d n:Nat} {h:H}
theorem aiM(v k:Nat)(y:v<4294967296)(I:k<=64)(A:100<=Y):af (fun _=>False) n (aj aa gt Y (d+1) 103 #[.int .u32 (v:Int),jI (k:Int)]) h n fun m h' n'=>m=tx (cq v k)∧h'=h∧n'=n:=by
 rw[aB (fun _=>R3) rfl];refine af.aA ?_;unfold CA;refine dL k (fun a i (s:Nat×List Bool)=>tY Y (aj aa gt Y d) a (Cz Y (aj aa gt Y d)) (.int .u32 (s.1:Int)) (jI (k:Int)) (.string {data:=#[]}) (tx s.2) (jI (k:Int)) (jI (i:Nat))) (fun i s h' n'=>(h'=h∧n'=n)∧s.1<4294967296∧s.2.length=i∧cq v k=cq s.1 (k-i)++s.2) ?_ ?_ Y 0 (v,[]) h n (aO _) jO ⟨⟨rfl,rfl⟩,y,rfl,jS⟩
 ·rintro a ⟨w,t⟩ h' n' ⟨⟨rfl,rfl⟩,_,_,e⟩;rw[tY];refine jA @eT ?_
  (try unfold Cz);(try dsimp only)
  refine jB ?_;rw[e,sX];rfl
 ·rintro a i ⟨w,t⟩ h' n' J ⟨⟨rfl,rfl⟩,c,f,e⟩ next;rw[tY];have c:w<4294967296:=c;have f:t.length=i:=f;have D:((i:Nat):Int)<((k:Nat):Int):=jO;have C:((w:Nat):Int).tmod 2=((w %2:Nat):Int):=rfl;have B:((w:Nat):Int).tdiv 2=((w/2:Nat):Int):=rfl;have l:IntKind.u32.wrap ((w %2:Nat):Int)=((w %2:Nat):Int):=fU jO;have j:IntKind.u32.wrap ((w/2:Nat):Int)=((w/2:Nat):Int):=fU jO;have g:IntKind.u32.wrap (((w %2:Nat):Int)+1)=((w %2+1:Nat):Int):=(fU (x:=w %2+1) jO)
  have b:((([48,49]:List UInt8).drop (w %2)).take (w %2+1-w %2))=[ch (decide (w %2=1))]:=by rcases aoB w with q|q<;>rw[q]<;>rfl
  have G:(([48,49]:List UInt8).length)=2:=rfl;have E:([ch (decide (w %2=1))]++iE t).length=t.length+1:=by simp[iE]
  have b:((([false,true]:List Bool).drop (w %2)).take (w %2+1-w %2))=[decide (w %2=1)]:=by rcases aoB w with q|q<;>rw[q]<;>rfl
  have p:[decide (w %2=1)].length+t.length<=1000000000:=by simp;omega
  have o:=fun(u:Value->M Value)=>ss [false,true] .u32 .u32 ((w %2:Nat):Int) ((w %2+1:Nat):Int) u jO jO (by show _<=(2:Int);omega);try simp(disch:=first|omega|assumption) only[Nat.reduceAdd,Nat.reduceLT,RZ,D,C,B,l,j,g,aiL,o,b,wX _ _ p]
  refine next (w/2,decide (w %2=1)::t) _ _ ⟨⟨rfl,rfl⟩,by show w/2<_;omega,by show t.length+1=_;omega, ?_⟩;rw[e];obtain⟨r,z⟩:∃r,k-i=r+1:=⟨k-i-1,jO⟩;rw[z,show k-(i+1)=r by omega];show(cq (w/2) r++[decide (w %2=1)])++t=cq (w/2) r++(decide (w %2=1)::t);simp
theorem Yz{S:List UInt8}(q:S.length<=100000)(m:S.length<Y)(a:100<=Y):af (fun _=>False) n (aj aa gt Y (d+2) 61 #[.string ⟨S.toArray⟩]) h n fun k h' n'=>k=tx (dY S)∧h'=h∧n'=n:=by
 rw[aB (fun _=>Rk) rfl];refine af.aA ?_;unfold Cw;refine dL S.length (fun c i (_:Unit)=>tX Y (aj aa gt Y (d+1)) c (Cv Y (aj aa gt Y (d+1))) (.string ⟨S.toArray⟩) (.string {data:=#[]}) (tx (dY (S.take i))) (jI (i:Nat))) (fun i _ h' n'=>h'=h∧n'=n) ?_ ?_ Y 0 () h n (aO _) jO ⟨rfl,rfl⟩
 ·rintro c _ h' n' ⟨rfl,rfl⟩;rw[tX];refine jA @eT ?_
  (try unfold Cv);(try dsimp only)
  refine jB ?_;rw[jf]
 ·rintro c i _ h' n' f ⟨rfl,rfl⟩ next;rw[tX];have p:((i:Nat):Int)<((S.length:Nat):Int):=jO;obtain⟨b,g⟩:∃b,S.getD i 0=b:=⟨_,rfl⟩;have o:=b.toNat_lt;have j:IntKind.u32.wrap ((b.toNat:Nat):Int)=((b.toNat:Nat):Int):=fU jO;refine jA (aI @p (aI @g @j)) ?_;refine bq (aiM (Y:=Y) (d:=d) b.toNat 8 jO jO a) (ah _) (fun _ _ h=>h.elim) ?_
  have l:(dY (S.take i)).length+(cq b.toNat 8).length<=1000000000:=by rw[Aa,hH,cT];omega
  try simp(disch:=first|omega|assumption) only[Nat.reduceAdd,Nat.reduceLT,RZ,wX _ _ l]
  have e:dY (S.take (i+1))=dY (S.take i)++cq b.toNat 8:=by
   rw[nv f,X'];have:S[i]=b:=by rw[<-g,bz,bB f];rfl
   rw[this];show _++(cq b.toNat 8++[])=_;rw[bV]
  have:=next () h' n' ⟨rfl,rfl⟩;rw[e]at this;exact this
theorem Lb(l:List Bool)(t:l.length<=31)(q:100<=Y):af (fun _=>False) n (aj aa gt Y (d+1) 63 #[tx l]) h n fun o h' n'=>o= .int .u32 (num l 0:Int)∧h'=h∧n'=n:=by
 rw[aB (fun _=>H3) rfl];refine af.aA ?_;unfold yG;refine dL l.length (fun a i (_:Unit)=>pB Y (aj aa gt Y d) a (wk Y (aj aa gt Y d)) (tx l) (.int .u32 0) (.int .u32 (num (l.take i) 0:Int)) (jI (i:Nat))) (fun i _ h' n'=>h'=h∧n'=n) ?_ ?_ Y 0 () h n (aO _) jO ⟨rfl,rfl⟩
 ·rintro a _ h' n' ⟨rfl,rfl⟩;rw[pB];refine jA (aI @cZ @eT) ?_
  (try unfold wk);(try dsimp only)
  refine jB ?_;rw[jf]
 ·rintro a i _ h' n' c ⟨rfl,rfl⟩ next;rw[pB];have r:((i:Nat):Int)<((l.length:Nat):Int):=jO;obtain⟨b,f⟩:∃b,l.getD i false=b:=⟨_,rfl⟩;have u:=sj b;have p:=ig (l.take i)
  have s:num (l.take i) 0<2147483648:=fK p (by
   have:2^(l.take i).length<=2^31:=Nat.pow_le_pow_right jD (by rw[cT];omega)
   exact this)
  have m:IntKind.u8.wrap (48+(bn b:Int)-48)=(bn b:Int):=by rw[show(48+(bn b:Int)-48)=(bn b:Int) by omega];exact w8 jO
  have k:IntKind.u32.wrap ((bn b:Nat):Int)=(bn b:Int):=fU jO
  have j:IntKind.u32.wrap (2*((num (l.take i) 0:Nat):Int))=((2*num (l.take i) 0:Nat):Int):=by rw[show(2*((num (l.take i) 0:Nat):Int))=((2*num (l.take i) 0:Nat):Int) by omega];exact fU jO
  have g:IntKind.u32.wrap (((2*num (l.take i) 0:Nat):Int)+(bn b:Int))=((2*num (l.take i) 0+bn b:Nat):Int):=by rw[show(((2*num (l.take i) 0:Nat):Int)+(bn b:Int))=((2*num (l.take i) 0+bn b:Nat):Int) by omega];exact fU jO
  refine jA (aI @cZ (aI @pL (aI @r (aI @f (aI @m (aI @k (aI @j @g))))))) ?_
  have e:num (l.take (i+1)) 0=2*num (l.take i) 0+bn b:=by
   rw[nv c,zW];have:l[i]=b:=by rw[<-f,bz,bB c];rfl
   rw[this]
  have:=next () h' n' ⟨rfl,rfl⟩;rw[e]at this;exact this
def gR:List Bool->Nat
 |true::l=>gR l+1
 |_=>0
theorem YA:∀l:List Bool,gR l<=l.length
 |[]=>ah _
 |false::l=>aO _
 |true::l=>by have:=YA l;show gR l+1<=l.length+1;omega
theorem aiN(l:List Bool)(q:l.length<Y)(u:l.length<=1000000000):af (fun _=>False) n (aj aa gt Y (d+1) 196 #[tx l]) h n fun g h' n'=>g=jI (gR l:Int)∧h'=h∧n'=n:=by
 rw[aB (fun _=>agr) rfl];refine af.aA ?_;unfold JC
 have j:∀(r:Nat) (i a:Nat),l.length-i=r->r<a->i<=l.length->gR l=i+gR (l.drop i)->af (fun _=>False) n (uz Y (aj aa gt Y d) a (zv Y (aj aa gt Y d)) (tx l) (jI 0) (jI (i:Nat))) h n fun g h' n'=>g=jI (gR l:Int)∧h'=h∧n'=n:=by
  intro r
  induction r with
  |zero=>
   intro i a p t s e;obtain⟨a,rfl⟩:∃f,a=f+1:=⟨a-1,jO⟩;obtain rfl:i=l.length:=jO;rw[uz];refine jA (aI @cZ @eT) ?_
   (try unfold zv);(try dsimp only)
   refine jB ?_;rw[e,qY];rfl
  |succ r o=>
   intro i a p t s e;obtain⟨a,rfl⟩:∃f,a=f+1:=⟨a-1,jO⟩;have b:i<l.length:=jO;have m:((i:Nat):Int)<((l.length:Nat):Int):=jO;have fw:l.drop i=l[i]::l.drop (i+1):=qX b;have iR:l.getD i false=l[i]:=by rw[bz,bB b];rfl
   rw[uz];cases c:l[i]with
   |true=>have k:(48+((bn true:Nat):Int)==49)=true:=rfl;refine jA (aI @cZ (aI @pL (aI @m (aI @iR (aI @c @k))))) ?_;exact o (i+1) a jO jO jO (by rw[e,fw,c];show i+(gR _+1)=_;omega)
   |false=>
    have k:(48+((bn false:Nat):Int)==49)=false:=rfl;refine jA (aI @cZ (aI @pL (aI @m (aI @iR (aI @c @k))))) ?_
    (try unfold zv);(try dsimp only)
    refine jB ?_;rw[e,fw,c];rfl
 exact j l.length 0 Y jO q (aO _) (by rw[fD];rfl)
end
section
variable {β:Type} {W:Nat->Prop} {n0:Nat} {h:H} {n:Nat} {Q:β->H->Nat->Prop}
theorem cA {T:Prop} (_:T) {sz:Nat} {b:Nat} {e:TypeId} {cs vs:List Value} (f:vs.length=sz) (l:cs.length=sz) (h1:vs.all one=true) (g:h.get b=some ⟨e,true,cs⟩) (i:b<n) (d:n0<=b∨W b) (k:Value->M β)
 (x:∀h',h'.get b=some ⟨e,true,vs⟩->(∀c,c≠b->h'.get c=h.get c)->af W n0 (k undef) h' n Q):af W n0 (aQ sz (jP b 0) (.agg vs.toArray) k) h n Q:=by
 refine nT trivial (vs:=vs) rfl f h1 g i jO d k fun h' j a=>x h' ?_ a;rw[j,List.take_zero,List.nil_append,List.drop_eq_nil_of_le jO,bV]
end
theorem eD{W:Nat->Prop}{n0:Nat}{h:H}{n:Nat}{Q:Value->H->Nat->Prop}{T d:Prop}(_:T)(_:d){sz:Nat}{b:Nat}{e:TypeId}{vs:List Value}(g:h.get b=some ⟨e,true,vs⟩)(a:vs.length=sz)(c:b<n)(x:Q (.agg vs.toArray) h n):af W n0 (bc sz (jP b 0) fun v=>ag [v]) h n Q:=by
 refine Ht b 0 _ g c (by show 0+sz<=vs.length;omega) ?_;rw[lF];have:((vs.drop 0).take sz)=vs:=by rw[jz,<-a,jf]
 show Q (.agg ((vs.drop 0).take sz).toArray) h n;rw[this];exact x
def oT(o:List Nat):Value:= .string ⟨(o.map fun x=>gU (48+x)).toArray⟩
theorem oT0:aM {data:=#[48,49,50,51,52,53]}=oT pJ:=rfl
theorem aiO(o:List Nat)(a:∀x∈o,x<6)(i:Nat)(h1:i<o.length)(k:Value->M Value):cU (oT o) (jI (i:Int)) k=k (.int .u8 ((48+o.getD i 0:Nat):Int)):=by unfold oT;rw[vV _ _ _ _ jO (by rw[fS];omega),cV,bz,jd,bB h1,bz,bB h1];have:=a _ (dO h1);show k (eJ .u8 ((gU (48+o[i])).toNat:Int))=k (eJ .u8 ((48+o[i]:Nat):Int));rw[UInt8.toNat_ofNat',Nat.mod_eq_of_lt jO]
section
variable {Y d n:Nat} {h:H}
theorem aiP(o:List Nat)(i:Nat)(b:i<o.length)(v:o.length<=100):af (fun _=>False) n (aj aa gt Y (d+1) 167 #[oT o,jI (i:Int)]) h n fun e h' n'=>e=oT (db 0 o i)∧h'=h∧n'=n:=by
 rw[aB (fun _=>Jj) rfl];refine af.aA ?_;unfold CX;obtain⟨l,a⟩:∃l,(o.map fun x=>gU (48+x))=l:=⟨_,rfl⟩;have m:l.length=o.length:=by rw[<-a,fS]
 have y:(i:Int)+1=((i+1:Nat):Int):=jO;have c:IntKind.i64.wrap ((i:Int)+1)=((i+1:Nat):Int):=by rw[aH jO jO];omega
 have j:=fun(k:Value->M Value)=>yz k l .i64 .i64 (i:Int) ((i+1:Nat):Int) jO jO jO;have g:=fun(k:Value->M Value)=>yx k l .i64 (i:Int) jO jO;have f:=fun(k:Value->M Value)=>yy k l .i64 ((i+1:Nat):Int) jO jO;have u:((l.drop i).take (i+1-i)).length=1:=by rw[cT,bE];omega
 have t:(l.take i).length=i:=by rw[cT];omega
 have s:(l.drop (i+1)).length<=o.length:=by rw[bE];omega
 have r:=fun(k:Value->M Value)=>tH k ((l.drop i).take (i+1-i)) (l.take i) jO;have q:=fun(k:Value->M Value)=>tH k ((l.drop i).take (i+1-i)++l.take i) (l.drop (i+1)) (by rw[bG];omega);unfold oT;rw[a];refine jA (aI @c (aI @j (aI @g (aI @f (aI @r @q))))) ?_;unfold db
 have p:(l.drop i).take (i+1-i)=[gU (48+o.getD i 0)]:=by rw[show i+1-i=1 by omega,<-a,<-xJ,qX b,bz,bB b];rfl
 rw[p,<-a];simp[AU,xJ]
end
theorem Ld:∀(r o:Nat) (bs:List Bool),fz r o bs=if r<=gR bs then .bad 25 else if gR bs=bs.length then .short else .ok (o+gR bs) (o+gR bs+1)
 |0,o,bs=>by rw[if_pos (aO _)];simp[fz]
 |r+1,o,[]=>by rw[if_neg (by show¬r+1<=0;omega),if_pos (show gR []=([]:List Bool).length from rfl)];rfl
 |r+1,o,false::bs=>by rw[if_neg (by show¬r+1<=0;omega),if_neg (by show¬0=bs.length+1;omega)];rfl
 |r+1,o,true::bs=>by
  show fz r (o+1) bs=_;rw[Ld r (o+1) bs];show _=if r+1<=gR bs+1 then _ else if gR bs+1=bs.length+1 then _ else _
  by_cases h:r<=gR bs
  ·rw[if_pos h,if_pos jO]
  ·rw[if_neg h,if_neg (show¬r+1<=gR bs+1 by omega)];by_cases a:gR bs=bs.length
   ·rw[if_pos a,if_pos (show gR bs+1=bs.length+1 by omega)]
   ·rw[if_neg a,if_neg (show¬gR bs+1=bs.length+1 by omega)];show St.ok _ _=St.ok (o+(gR bs+1)) (o+(gR bs+1)+1);rw[show o+1+gR bs=o+(gR bs+1) by omega]
def dE:Nat->Pk->List Bool->Nat->St Pk
 |0,_,_,_=> .short
 |N+1,s,b,a=>if s.fin=true then .ok s a else match c8 s b with
  | .short=> .short
  | .bad e=> .bad e
  | .ok c u=>dE N c (b.drop u) (a+u)
def fV:Pk:=⟨0,0,pJ,[]⟩
def Lg(n:Nat)(r:St Pk)(b:Value)(h':H)(n':Nat):Prop:=∃(pv:Value) (t a u e:Int),b= .agg #[pv,jI t,jI a,jI u,jI e]∧
 match r with
 | .short=>e=3∧pv= .slice none 0 0
 | .bad c=>c=25∧e=25∧pv= .slice none 0 0
 | .ok s d=>e=0∧t=s.t∧a=(d:Int)∧Own h' n n' 3 pv (aV .i64 (iN s.bw))
section
variable {Y d n:Nat} {h:H}
theorem aiQ{l:List Bool}(hl:l.length<=1000000)(u1:3000000<=Y):∀(N e:Nat) (h':H) (n':Nat) (s:Pk) (pv:Value) (a:Nat),n+1<=n'->h'.get n=some ⟨224,true,[.slice none 0 0,jI 0,jI 0,jI 0,jI 0]⟩->(l.drop a).length<N->N<=e->a<=l.length->s.t<=6->s.Ok->s.ord.length=6->(∀x∈s.ord,x<6)->s.count≠0->s.count<32768->Own h' (n+1) n' 3 pv (aV .i64 (iN s.bw))->
 af (fun _=>False) n (wB Y (aj aa gt Y (d+1)) e (wC Y (aj aa gt Y (d+1))) (tx l) (jP n 0) (jI (s.t:Int)) (jI (s.count:Int)) (oT s.ord) pv (jI (a:Int)) (.bool false) (.bool false)) h' n' (Lg n (dE N s (l.drop a) a)):=by
 intro N
 induction N with
 |zero=>intro e h' n' s pv a _ _ hN;omega
 |succ N ih=>
  intro e h' n' s pv a u0 g hN u4 u6 P ok m t u D j;obtain⟨e,rfl⟩:∃f,e=f+1:=⟨e-1,jO⟩;obtain⟨ga,gc,rfl⟩:=j.row.len;have u3:=fi s.bw;have u2:=ok.len u;rw[wB];unfold dE;by_cases O:s.bw.length=s.count
  ·have fin:s.fin=true:=by unfold Pk.fin;rw[decide_eq_true O,decide_eq_true (show 0<s.count by omega)];rfl
   have J:¬((((iN s.bw).length:Nat):Int)<((s.count:Nat):Int)):=jO;refine jA @J ?_
   (try unfold wC);(try dsimp only)
   rw[fin,if_pos rfl];refine jB ?_;refine cA (sz:=5) trivial (vs:=[.slice ga (iN s.bw).length gc,jI (s.t:Int),jI (a:Int),jI (a:Int),jI 0]) rfl rfl rfl g jO (.inl (ah _)) _ fun R q A=> ?_;refine eD trivial trivial q rfl jO ?_;exact⟨_,_,_,_,_,rfl,rfl,rfl,rfl,(j.au (ah _) fun b p=>A b (by have:=(j.lt p).1;omega)).low jO⟩
  ·have fin:s.fin=false:=by unfold Pk.fin;rw[decide_eq_false O,Bool.and_false]
   have J:((((iN s.bw).length:Nat):Int)<((s.count:Nat):Int)):=jO;have K:=fun(k:Value->M Value)=>oi l .i64 (a:Int) k jO jO;rw[cV]at K;refine jA (aI @J @K) ?_;refine bq (aiN (Y:=Y) (d:=d) (l.drop a) (by rw[bE];omega) (by rw[bE];omega)) jO (fun _ _ h=>h.elim) ?_;obtain⟨o,i⟩:∃o,gR (l.drop a)=o:=⟨_,rfl⟩;have C:=YA (l.drop a);have u5:(l.drop a).length=l.length-a:=bE;rw[i]at C⊢;rw[fin,if_neg jD];unfold c8;rw[if_neg u,Ld,i,fD];by_cases E:s.t<=o
   ·have y:((s.t:Nat):Int)<=(o:Int):=jO;refine jA @y ?_;rw[if_pos E];refine cA (sz:=5) trivial (vs:=[.slice none 0 0,jI 0,jI 0,jI ((a:Int)+(s.t:Int)),jI 25]) rfl rfl rfl g jO (.inl (ah _)) _ fun R q A=> ?_
    (try unfold wC);(try dsimp only)
    refine eD trivial trivial q rfl jO ?_;exact⟨_,_,_,_,_,rfl,rfl,rfl,rfl⟩
   ·have y:¬((s.t:Nat):Int)<=(o:Int):=jO;rw[if_neg E];by_cases G:o=(l.drop a).length
    ·have I:((a:Int)+(o:Int)==((l.length:Nat):Int))=true:=beq_iff_eq.2 jO;refine jA (aI @y (aI @cZ @I)) ?_;rw[if_pos G];refine cA (sz:=5) trivial (vs:=[.slice none 0 0,jI 0,jI 0,jI 0,jI 3]) rfl rfl rfl g jO (.inl (ah _)) _ fun R q A=> ?_
     (try unfold wC);(try dsimp only)
     refine eD trivial trivial q rfl jO ?_;exact⟨_,_,_,_,_,rfl,rfl,rfl⟩
    ·have I:((a:Int)+(o:Int)==((l.length:Nat):Int))=false:=beq_eq_false_iff_ne.2 jO;rw[if_neg G];have c:o<s.ord.length:=jO;have L:=aiO s.ord t o c;obtain⟨v,r⟩:∃v,s.ord.getD o 0=v:=⟨_,rfl⟩
     have B:v<6:=by rw[<-r,bz,bB c];exact t _ (dO _)
     rw[r]at L;have U:IntKind.i64.wrap ((48+v:Nat):Int)=((48+v:Nat):Int):=aH jO jO;have T:IntKind.i64.wrap (((48+v:Nat):Int)-48)=(v:Int):=by rw[aH jO jO];omega
     refine jA (aI @y (aI @cZ (aI @I (aI @L (aI @U @T))))) ?_;refine si trivial (ke _ _) j (by rw[eu];omega) (fun b p=> .inl (by have:=(j.lt p).1;omega)) _ fun Q g2 Z=> ?_;refine bq (aiP (Y:=Y) (d:=d) s.ord o c jO) jO (fun _ _ h=>h.elim) ?_
     have W:c8 s (l.drop a)= .ok ⟨s.t,s.count,db 0 s.ord o,s.bw++[s.ord.getD o 0]⟩ (o+1):=by unfold c8;rw[if_neg u,Ld,i,fD,if_neg E,if_neg G]
     have z:=(K7 ok P m fin W).1;rw[show(a:Int)+(o:Int)+1=((a+(o+1):Nat):Int) by omega,jm];refine ih e Q (n'+2) ⟨s.t,s.count,db 0 s.ord o,s.bw++[s.ord.getD o 0]⟩ _ (a+(o+1)) jO ((Z n jO fun p=>by have:=(j.lt p).1;omega).trans g) (by rw[bE];omega) jO jO P z (wS (dv:=0) m jO) (fun x hx=> ?_) u D ?_
     ·have hx:x∈db 0 s.ord o:=hx;unfold db at hx;rcases List.mem_cons.1 hx with rfl|hx
      ·rw[r];exact B
      ·rcases List.mem_append.1 hx with hx|hx
       ·exact t x (List.mem_of_mem_take hx)
       ·exact t x (List.mem_of_mem_drop hx)
     ·have X:aV .i64 (iN (s.bw++[s.ord.getD o 0]))=aV .i64 (iN s.bw)++[jI ((v:Nat):Int)]:=by rw[pI,mY,r];rfl
      show Own Q (n+1) (n'+2) _ _ (aV .i64 (iN (s.bw++[s.ord.getD o 0])));rw[X];exact .inr ⟨n'+1,jS,g2,jO,jO⟩
theorem YB(l:List Bool)(U:l.length<=1000000)(y:3000000<=Y):af (fun _=>False) n (aj aa gt Y (d+2) 162 #[tx l]) h n (Lg n (dE (l.length+1) fV l 0)):=by
 rw[aB (fun _=>afU) rfl];refine af.aA ?_;unfold Jf;refine dX yD _ ?_;have z:=fun(h:H) (cs:List Value)=>get_eq h n (some ⟨224,true,cs⟩);have K:fV.fin=false:=rfl;by_cases g:l.length<18
 ·have D:((l.length:Nat):Int)<18:=jO;refine jA (aI @cZ @D) ?_;refine cA (sz:=5) trivial (vs:=[.slice none 0 0,jI 0,jI 0,jI 0,jI 3]) rfl rfl rfl (z _ _) jO (.inl (ah _)) _ fun X A O=> ?_;refine eD trivial trivial A rfl jO ?_
  have:dE (l.length+1) fV l 0= .short:=by unfold dE;rw[K,if_neg jD];unfold c8;rw[if_pos (show fV.count=0 from rfl),if_pos g]
  rw[this];exact⟨_,_,_,_,_,rfl,rfl,rfl⟩
 ·have D:¬((l.length:Nat):Int)<18:=jO;obtain⟨t,R⟩:∃t,num (l.take 18) 0/32768=t:=⟨_,rfl⟩;obtain⟨q,T⟩:∃q,num (l.take 18) 0 %32768=q:=⟨_,rfl⟩;have Q:=ig (l.take 18);rw[cT,ic jO]at Q
  have f:num (l.take 3) 0=t∧num ((l.drop 3).take 15) 0=q:=by
   have e1:l.take 18=l.take 3++(l.drop 3).take 15:=by rw[<-List.take_append_drop 3 (l.take 18),List.take_take,List.drop_take];rfl
   have e2:=qF ((l.drop 3).take 15) (num (l.take 3) 0)
   have e3:num (l.take 18) 0=num (l.take 3) 0*2^15+num ((l.drop 3).take 15) 0:=by rw[e1,uN,e2,cT,bE,ic jO]
   have Z:=ig ((l.drop 3).take 15);rw[cT,bE,ic jO]at Z;omega
  have tl:t<8:=jO;have N:q<32768:=jO;have L:IntKind.i64.wrap ((t:Nat):Int)=(t:Int):=aH jO jO;have o:IntKind.i64.wrap ((q:Nat):Int)=(q:Int):=aH jO jO;have G:=fun(k:Value->M Value)=>Et l .i64 (3:Int) k jO jO;have E:=fun(k:Value->M Value)=>ss l .i64 .i64 (3:Int) (18:Int) k jO jO jO;have i1:(3:Int).toNat=3:=rfl;have P:(18:Int).toNat-(3:Int).toNat=15:=rfl;rw[i1]at G;rw[P,i1]at E
  have r:c8 fV l=if(2<=t∧t<=6)∧q≠0 then .ok ⟨t,q,pJ,[]⟩ 18 else .bad 25:=by unfold c8;rw[if_pos (show fV.count=0 from rfl),if_neg g,R,T];rfl
  have I:dE (l.length+1) fV l 0=if(2<=t∧t<=6)∧q≠0 then dE l.length ⟨t,q,pJ,[]⟩ (l.drop 18) 18 else .bad 25:=by
   show(if fV.fin=true then _ else _)=_;rw[K,if_neg jD,r];by_cases c:(2<=t∧t<=6)∧q≠0
   ·rw[if_pos c,if_pos c]
   ·rw[if_neg c,if_neg c]
  refine jA (aI @cZ (aI @D @G)) ?_;refine bq (Lb (Y:=Y) (d:=d) (l.take 3) (by rw[cT];omega) jO) jO (fun _ _ h=>h.elim) ?_;rw[f.1];refine jA (aI @E @L) ?_;refine bq (Lb (Y:=Y) (d:=d) ((l.drop 3).take 15) (by rw[cT];omega) jO) jO (fun _ _ h=>h.elim) ?_;rw[f.2]
  have b:∀(u:Int),¬((2<=t∧t<=6)∧q≠0)->af (fun _=>False) n (aQ 5 (jP n 0) (.agg #[.slice none 0 0,jI 0,jI 0,jI u,jI 25]) fun _=>bc 5 (jP n 0) fun v=>ag [v]) (h.set n (some ⟨224,true,[.slice none 0 0,jI 0,jI 0,jI 0,jI 0]⟩)) (n+1) (Lg n (dE (l.length+1) fV l 0)):=by intro u W;refine cA (sz:=5) trivial (vs:=[.slice none 0 0,jI 0,jI 0,jI u,jI 25]) rfl rfl rfl (z _ _) jO (.inl (ah _)) _ fun X A O=> ?_;refine eD trivial trivial A rfl jO ?_;rw[I,if_neg W];exact⟨_,_,_,_,_,rfl,rfl,rfl,rfl⟩
  by_cases C:2<=t
  ·have i:¬((t:Int)<2):=jO;by_cases a:t<=6
   ·have p:¬((6:Int)<(t:Int)):=jO;by_cases m:q=0
    ·have B:((q:Int)==0)=true:=by rw[m];rfl
     refine jA (aI @o (aI @i (aI @p @B))) ?_;exact b 18 fun c=>c.2 m
    ·have B:((q:Int)==0)=false:=beq_eq_false_iff_ne.2 jO;refine jA (aI @o (aI @i (aI @p (aI @B @oT0)))) ?_;rw[I,if_pos ⟨⟨C,a⟩,m⟩];refine aiQ U y l.length Y _ (n+1) ⟨t,q,pJ,[]⟩ (.slice none 0 0) 18 (ah _) (z _ _) (by rw[bE];omega) jO jO a ⟨fun e=>absurd e m,fun j J=> ?_,fun x s=>absurd s jS,fun _=>aO _,fun _=>C⟩ rfl (fun x s=> ?_) m N (Own.nil _ _ _ _)
     ·rw[Yt (by have:j<t:=J;omega)];exact J
     ·exact(by decide:∀x∈pJ,x<6) x s
   ·have p:(6:Int)<(t:Int):=jO;refine jA (aI @o (aI @i @p)) ?_;exact b 18 fun c=>a c.1.2
  ·have i:(t:Int)<2:=jO;refine jA (aI @o @i) ?_;exact b 18 fun c=>C c.1.1
end
def eF:Nat->Nat->Nat->List Nat->List Bool->Nat->St (List Nat)
 |0,_,_,_,_,_=> .short
 |N+1,c,d,b,f,a=>if b.length=c then .ok b a else match da d b f with
  | .short=> .short
  | .bad e=> .bad e
  | .ok (m,l) u=>eF N c m l (f.drop u) (a+u)
def su(n:Nat)(r:St (List Nat))(a:Value)(h':H)(n':Nat):Prop:=∃(lv:Value) (u e:Int),a= .agg #[lv,jI u,jI e]∧
 match r with
 | .short=>e=3∧lv= .slice none 0 0
 | .bad c=>c=22∧e=22∧lv= .slice none 0 0
 | .ok b d=>e=0∧u=(d:Int)∧Own h' n n' 3 lv (aV .i64 (iN b))
section
variable {Y d n:Nat} {h:H}
theorem aiR{l:List Bool}(hl:l.length<=1000000)(u6:3000000<=Y){size:Nat}(u5:size<=258):∀(N r:Nat) (h':H) (n':Nat) (h:Nat) (c:List Nat) (lv:Value) (a:Nat),n+1<=n'->h'.get n=some ⟨269,true,[.slice none 0 0,jI 0,jI 0]⟩->(l.drop a).length<N->N<=r->a<=l.length->1<=h->h<=20->c.length<=size->Own h' (n+1) n' 3 lv (aV .i64 (iN c))->
 af (fun _=>False) n (rX Y (aj aa gt Y (d+1)) r (qD Y (aj aa gt Y (d+1))) (tx l) (jI (size:Int)) (jP n 0) (jI (h:Int)) lv (jI (a:Int)) (.bool false) (.bool false)) h' n' (su n (eF N size h c (l.drop a) a)):=by
 intro N
 induction N with
 |zero=>intro r h' n' h c lv a _ _ hN;omega
 |succ N ih=>
  intro r h' n' h c lv a R g hN u9 v1 i Z T A;obtain⟨r,rfl⟩:∃f,r=f+1:=⟨r-1,jO⟩;obtain⟨ga,gc,rfl⟩:=A.row.len;have u7:=fi c;have v0:(l.drop a).length=l.length-a:=bE;have L:h≠0:=jO;rw[rX];unfold eF;by_cases hf:c.length=size
  ·have t:¬((((iN c).length:Nat):Int)<((size:Nat):Int)):=jO;refine jA @t ?_
   (try unfold qD);(try dsimp only)
   rw[if_pos hf];refine jB ?_;refine cA (sz:=3) trivial (vs:=[.slice ga (iN c).length gc,jI (a:Int),jI 0]) rfl rfl rfl g jO (.inl (ah _)) _ fun i p Q=> ?_;refine eD trivial trivial p rfl jO ?_;exact⟨_,_,_,rfl,rfl,rfl,(A.au (ah _) fun b y=>Q b (by have:=(A.lt y).1;omega)).low jO⟩
  ·have t:((((iN c).length:Nat):Int)<((size:Nat):Int)):=jO;rw[if_neg hf]
   have sh:∀(k:Value->M Value),(∀i:H,i.get n=some ⟨269,true,[.slice none 0 0,jI 0,jI 3]⟩->af (fun _=>False) n (k undef) i n' (su n .short))->af (fun _=>False) n (aQ 3 (jP n 0) (.agg #[.slice none 0 0,jI 0,jI 3]) k) h' n' (su n .short):=fun k U=>cA (sz:=3) trivial (vs:=[.slice none 0 0,jI 0,jI 3]) rfl rfl rfl g jO (.inl (ah _)) _ fun i p Q=>U i p
   by_cases ha:a=l.length
   ·have z:((a:Int)==((l.length:Nat):Int))=true:=beq_iff_eq.2 jO;refine jA (aI @t (aI @cZ @z)) ?_
    have e:da h c (l.drop a)= .short:=by unfold da;rw[if_neg L,ha,qY]
    rw[e];refine sh _ fun i p=> ?_
    (try unfold qD);(try dsimp only)
    exact eD trivial trivial p rfl jO ⟨_,_,_,rfl,rfl,rfl⟩
   ·have z:((a:Int)==((l.length:Nat):Int))=false:=beq_eq_false_iff_ne.2 jO;have hi:a<l.length:=jO;have fw:l.drop a=l[a]::l.drop (a+1):=qX hi;have iR:l.getD a false=l[a]:=by rw[bz,bB hi];rfl
    have s:=pL l .i64 (a:Int) jO jO;rw[cV,iR]at s;cases y:l[a]with
    |false=>
     rw[y]at s fw;have C:(48+((bn false:Nat):Int)==48)=true:=rfl;refine jA (aI @t (aI @cZ (aI @z (aI @s @C)))) ?_;refine si trivial (ke _ _) A (by rw[eu];omega) (fun b y=> .inl (by have:=(A.lt y).1;omega)) _ fun h2 g2 k2=> ?_
     have e:da h c (l.drop a)= .ok (h,c++[h]) 1:=by unfold da;rw[if_neg L,fw]
     rw[e];refine jB ?_
     have:=ih r h2 (n'+2) h (c++[h]) (.slice (some ⟨n'+1,0,none⟩) ((aV .i64 (iN c)).length+1) (bo+((aV .i64 (iN c)).length+1))) (a+1) jO ((k2 n jO fun y=>by have:=(A.lt y).1;omega).trans g) (by rw[bE];omega) jO jO i Z (by rw[bG];simp only[cP,iP];omega) (by
      rw[pI,mY]
      exact .inr ⟨n'+1,by simp[eu,iN],g2,jO,jO⟩)
     rw[<-jm]at this;exact this
    |true=>
     rw[y]at s fw;have C:(48+((bn true:Nat):Int)==48)=false:=rfl;by_cases X:a+1=l.length
     ·have D:((a:Int)+1==((l.length:Nat):Int))=true:=beq_iff_eq.2 jO;refine jA (aI @t (aI @cZ (aI @z (aI @s (aI @C @D))))) ?_
      have e:da h c (l.drop a)= .short:=by unfold da;rw[if_neg L,fw,X,qY]
      rw[e];refine sh _ fun i p=> ?_
      (try unfold qD);(try dsimp only)
      exact eD trivial trivial p rfl jO ⟨_,_,_,rfl,rfl,rfl⟩
     ·have D:(((a+1:Nat):Int)==((l.length:Nat):Int))=false:=beq_eq_false_iff_ne.2 jO;have E:a+1<l.length:=jO;have x:l.drop (a+1)=l[a+1]::l.drop (a+1+1):=qX E;have B:l.getD (a+1) false=l[a+1]:=by rw[bz,bB E];rfl
      have o:=pL l .i64 ((a+1:Nat):Int) jO jO;rw[cV,B]at o;have K:(a:Int)+1=((a+1:Nat):Int):=jO;obtain⟨v,W⟩:∃v,l[a+1]=v:=⟨_,rfl⟩;rw[W]at o x
      have e:da h c (l.drop a)=ju ((h:Int)+1-2*(bn v:Int)) c 2:=by unfold da;rw[if_neg L,fw,x]
      rw[e]
      have j:∀(m:Int) (u2:Bool),m=(h:Int)+1-2*(bn v:Int)->(1<=m∧m<=20)->af (fun _=>False) n (rX Y (aj aa gt Y (d+1)) r (qD Y (aj aa gt Y (d+1))) (tx l) (jI (size:Int)) (jP n 0) (jI m) (.slice ga (iN c).length gc) (jI ((a:Int)+2)) (.bool false) (.bool false)) h' n' (su n (match ju ((h:Int)+1-2*(bn v:Int)) c 2 with
       | .short=> .short
       | .bad e=> .bad e
       | .ok (m,P) u=>eF N size m P ((l.drop a).drop u) (a+u))):=by
       intro m _ hm hr;unfold ju;rw[<-hm,if_pos hr];have:=ih r h' n' m.toNat c (.slice ga (iN c).length gc) (a+2) R g (by rw[bE];omega) jO jO jO jO T A;rw[<-jm,Int.toNat_of_nonneg jO]at this;exact this
      have q:∀(k:Value->M Value),¬(1<=(h:Int)+1-2*(bn v:Int)∧(h:Int)+1-2*(bn v:Int)<=20)->(∀i:H,i.get n=some ⟨269,true,[.slice none 0 0,jI 0,jI 22]⟩->af (fun _=>False) n (k undef) i n' (su n (.bad 22)))->af (fun _=>False) n (aQ 3 (jP n 0) (.agg #[.slice none 0 0,jI 0,jI 22]) k) h' n' (su n (match ju ((h:Int)+1-2*(bn v:Int)) c 2 with
       | .short=> .short
       | .bad e=> .bad e
       | .ok (m,P) u=>eF N size m P ((l.drop a).drop u) (a+u))):=fun k hw U=>by unfold ju;rw[if_neg hw];exact cA (sz:=3) trivial (vs:=[.slice none 0 0,jI 0,jI 22]) rfl rfl rfl g jO (.inl (ah _)) _ fun i p Q=>U i p
      cases v with
      |false=>
       have J:(48+((bn false:Nat):Int)==48)=true:=rfl;have b0:(2:Int)*((bn false:Nat):Int)=0:=rfl;have I:¬((h:Int)+1<1):=jO;by_cases G:(20:Int)<(h:Int)+1
       ·refine jA (aI @t (aI @cZ (aI @z (aI @s (aI @C (aI @D (aI @K (aI @o (aI @J (aI @I @G)))))))))) ?_;refine q _ jO fun i p=> ?_
        (try unfold qD);(try dsimp only)
        exact eD trivial trivial p rfl jO ⟨_,_,_,rfl,rfl,rfl,rfl⟩
       ·refine jA (aI @t (aI @cZ (aI @z (aI @s (aI @C (aI @D (aI @K (aI @o (aI @J (aI @I @G)))))))))) ?_;exact j ((h:Int)+1) false jO jO
      |true=>
       have J:(48+((bn true:Nat):Int)==48)=false:=rfl;have b0:(2:Int)*((bn true:Nat):Int)=2:=rfl;have G:¬((20:Int)<(h:Int)-1):=jO;by_cases I:(h:Int)-1<1
       ·refine jA (aI @t (aI @cZ (aI @z (aI @s (aI @C (aI @D (aI @K (aI @o (aI @J (aI @I @G)))))))))) ?_;refine q _ jO fun i p=> ?_
        (try unfold qD);(try dsimp only)
        exact eD trivial trivial p rfl jO ⟨_,_,_,rfl,rfl,rfl,rfl⟩
       ·refine jA (aI @t (aI @cZ (aI @z (aI @s (aI @C (aI @D (aI @K (aI @o (aI @J (aI @I @G)))))))))) ?_;exact j ((h:Int)-1) false jO jO
theorem aiS(l:List Bool)(E:l.length<=1000000)(j:3000000<=Y){size:Nat}(D:1<=size)(i:size<=258):af (fun _=>False) n (aj aa gt Y (d+2) 197 #[tx l,jI (size:Int)]) h n (su n (eF (l.length+1) size 0 [] l 0)):=by
 rw[aB (fun _=>agt) rfl];refine af.aA ?_;unfold JD;refine dX Cj _ ?_;have o:=fun(h:H) (I:List Value)=>get_eq h n (some ⟨269,true,I⟩);have c:¬([]:List Nat).length=size:=by show¬0=size;omega
 have t:eF (l.length+1) size 0 [] l 0=match da 0 [] l with
  | .short=> .short
  | .bad e=> .bad e
  | .ok (m,g) u=>eF l.length size m g (l.drop u) (0+u):=by
  show(if([]:List Nat).length=size then _ else _)=_;rw[if_neg c]
 have b:da 0 [] l=if l.length<5 then .short else ju (num (l.take 5) 0:Int) [] 5:=by unfold da;rw[if_pos rfl]
 by_cases y:l.length<5
 ·have r:((l.length:Nat):Int)<5:=jO;refine jA (aI @cZ @r) ?_;rw[t,b,if_pos y];refine cA (sz:=3) trivial (vs:=[.slice none 0 0,jI 0,jI 3]) rfl rfl rfl (o _ _) jO (.inl (ah _)) _ fun G p A=> ?_;exact eD trivial trivial p rfl jO ⟨_,_,_,rfl,rfl,rfl⟩
 ·have r:¬((l.length:Nat):Int)<5:=jO;have s:=fun(k:Value->M Value)=>Et l .i64 (5:Int) k jO jO;have i1:(5:Int).toNat=5:=rfl;rw[i1]at s;have x:=ig (l.take 5);rw[cT,ic jO]at x;refine jA (aI @cZ (aI @r @s)) ?_;refine bq (Lb (Y:=Y) (d:=d) (l.take 5) (by rw[cT];omega) jO) jO (fun _ _ h=>h.elim) ?_;obtain⟨v,C⟩:∃v,num (l.take 5) 0=v:=⟨_,rfl⟩;rw[C]at x b⊢;have f:IntKind.i64.wrap ((v:Nat):Int)=(v:Int):=aH jO jO;rw[t,b,if_neg y];unfold ju;rw[cV];simp only[fD]
  have a:¬(1<=(v:Int)∧(v:Int)<=20)->af (fun _=>False) n (aQ 3 (jP n 0) (.agg #[.slice none 0 0,jI 0,jI 22]) fun _=>bc 3 (jP n 0) fun v=>ag [v]) (h.set n (some ⟨269,true,[.slice none 0 0,jI 0,jI 0]⟩)) (n+1) (su n (match (if 1<=(v:Int)∧(v:Int)<=20 then St.ok (v,([]:List Nat)) 5 else .bad 22:St (Nat×List Nat))with
   | .short=> .short
   | .bad e=> .bad e
   | .ok (m,g) u=>eF l.length size m g (l.drop u) u)):=by
   intro B;rw[if_neg B];refine cA (sz:=3) trivial (vs:=[.slice none 0 0,jI 0,jI 22]) rfl rfl rfl (o _ _) jO (.inl (ah _)) _ fun G p A=> ?_;exact eD trivial trivial p rfl jO ⟨_,_,_,rfl,rfl,rfl,rfl⟩
  by_cases q:(v:Int)<1
  ·refine jA (aI @f @q) ?_;exact a jO
  ·by_cases z:(20:Int)<(v:Int)
   ·refine jA (aI @f (aI @q @z)) ?_;exact a jO
   ·refine jA (aI @f (aI @q @z)) ?_;rw[if_pos jO];exact aiR E j i l.length Y _ (n+1) v [] (.slice none 0 0) 5 (ah _) (o _ _) (by rw[bE];omega) jO jO jO jO (aO _) (Own.nil _ _ _ _)
end
theorem Eu(a b:Bool):dQ aa .neq 4 (.bool a) (.bool b)=some (.bool (xor a b)):=by cases a<;>cases b<;>kernel_rfl
section
variable {Y d n:Nat} {h:H}
theorem aiT(l:List Bool)(k:Nat)(N:k<=20)(L:l.length<=k)(I:100<=Y):af (fun _=>False) n (aj aa gt Y (d+1) 207 #[tx l,jI (k:Int)]) h n fun s h' n'=>s=tx ((iD l).1++bU (k-l.length) false)∧h'=h∧n'=n:=by
 rw[aB (fun _=>VB) rfl];refine af.aA ?_;unfold Dt
 have y:∀(C q:Value) (c:Bool) (r a:Nat) (t:List Bool),t=(iD l).1++bU (k-l.length-r) false->r<=k-l.length->r<a->af (fun _=>False) n (uB Y (aj aa gt Y d) a (Dr Y (aj aa gt Y d)) (tx l) (jI (k:Int)) (.string {data:=#[]}) (tx t) (.bool c) C q) h n fun s h' n'=>s=tx ((iD l).1++bU (k-l.length) false)∧h'=h∧n'=n:=by
  intro C q c r
  induction r with
  |zero=>
   intro a t i G B;obtain⟨a,rfl⟩:∃f,a=f+1:=⟨a-1,jO⟩;have m:t.length=k:=by rw[i,bG,wN,j4];omega
   have g:¬(((t.length:Nat):Int)<(k:Int)):=jO;rw[uB];refine jA (aI @cZ @g) ?_
   (try unfold Dr);(try unfold e);(try dsimp only)
   refine jB ?_;rw[i];rfl
  |succ r A=>
   intro a t i G B;obtain⟨a,rfl⟩:∃f,a=f+1:=⟨a-1,jO⟩;have m:t.length=k-(r+1):=by rw[i,bG,wN,j4];omega
   have g:((t.length:Nat):Int)<(k:Int):=jO;have p:=wX t [false] (by rw[m];show _+1<=_;omega);rw[uB];refine jA (aI @cZ (aI @g (aI @wW @p))) ?_;refine A a (t++[false]) ?_ jO jO;rw[i,List.append_assoc,<-aog,show k-l.length-(r+1)+1=k-l.length-r by omega]
 have z:∀(j:Nat) (a:Nat),j<=l.length->j<a->af (fun _=>False) n (rY Y (aj aa gt Y d) a (zC Y (aj aa gt Y d)) (tx l) (jI (k:Int)) (.string {data:=#[]}) (tx (iD (l.drop j)).1) (.bool (iD (l.drop j)).2) (jI ((j:Int)-1))) h n fun s h' n'=>s=tx ((iD l).1++bU (k-l.length) false)∧h'=h∧n'=n:=by
  intro j
  induction j with
  |zero=>
   intro a J B;obtain⟨a,rfl⟩:∃f,a=f+1:=⟨a-1,jO⟩;rw[rY];have g:decide ((0:Int)<=((0:Nat):Int)-1)=false:=decide_eq_false jO;refine jA @g ?_
   (try unfold zC);(try dsimp only)
   refine y _ _ _ (k-l.length) Y _ ?_ (ah _) jO;rw[sX,jz];simp
  |succ j A=>
   intro a J B;obtain⟨a,rfl⟩:∃f,a=f+1:=⟨a-1,jO⟩;have D:j<l.length:=jO;have fw:l.drop j=l[j]::l.drop (j+1):=qX D;have iR:l.getD j false=l[j]:=by rw[bz,bB D];rfl
   have o:=pL l .i64 (j:Int) jO jO;rw[cV,iR]at o;have:=A a jO jO;rw[fw]at this;rw[rY,show(((j+1:Nat):Int)-1)=(j:Int) by omega];obtain⟨b,K⟩:∃b,l[j]=b:=⟨_,rfl⟩;obtain⟨c,E⟩:∃c,(iD (l.drop (j+1))).2=c:=⟨_,rfl⟩;obtain⟨t,i⟩:∃t,(iD (l.drop (j+1))).1=t:=⟨_,rfl⟩;have m:t.length<=20:=by rw[<-i,wN,bE];omega
   rw[K]at this o;simp only[iD]at this;rw[E,i]at this;rw[E,i];have g:(0:Int)<=(j:Int):=jO;have x:=wX [false] t (by show 1+_<=_;omega);have p:=wX [true] t (by show 1+_<=_;omega);have v:(48+((bn false:Nat):Int)==49)=false:=rfl;have u:(48+((bn true:Nat):Int)==49)=true:=rfl;cases b<;>cases c
   ·refine jA (aI @g (aI @o (aI @v (aI @u (aI @wW (aI @Es (aI @x (aI @p (aI @Eu (aI @MM (aI @MN (aI @eK @cf)))))))))))) ?_;exact this
   ·refine jA (aI @g (aI @o (aI @v (aI @u (aI @wW (aI @Es (aI @x (aI @p (aI @Eu (aI @MM (aI @MN (aI @eK @cf)))))))))))) ?_;exact this
   ·refine jA (aI @g (aI @o (aI @v (aI @u (aI @wW (aI @Es (aI @x (aI @p (aI @Eu (aI @MM (aI @MN (aI @eK @cf)))))))))))) ?_;exact this
   ·refine jA (aI @g (aI @o (aI @v (aI @u (aI @wW (aI @Es (aI @x (aI @p (aI @Eu (aI @MM (aI @MN (aI @eK @cf)))))))))))) ?_;exact this
 have:=z l.length Y (ah _) jO;rw[qY]at this;refine jA @cZ ?_;exact this
end
def sw(ln:List Nat)(n i j:Nat):Value:=if ln.getD j 0<n∨(ln.getD j 0=n∧j<i)then tx (cq (di ln j) (ln.getD j 0))else tx []
def ck(ln:List Nat)(n i:Nat):List Value:=(gL ln.length).map (sw ln n i)
theorem Ew(ln:List Nat)(n i:Nat):(ck ln n i).length=ln.length:=by unfold ck;simp
theorem YC{ln:List Nat}{n i j:Nat}(h:j<(ck ln n i).length):(ck ln n i)[j]=sw ln n i j:=by have:=List.getElem_map (sw ln n i) (l:=gL ln.length) (h:=h);rw[List.getElem_range]at this;exact this
theorem aiU{ln:List Nat}{n i:Nat}(h:ln.getD i 0≠n):ck ln n (i+1)=ck ln n i:=by
 unfold ck;apply oN;intro j _;unfold sw;by_cases e:j=i
 ·subst e;by_cases a:ln.getD j 0<n
  ·rw[if_pos (.inl a),if_pos (.inl a)]
  ·rw[if_neg (by rintro(q|⟨q,_⟩);exact a q;exact h q),if_neg (by rintro(q|⟨q,_⟩);exact a q;exact h q)]
 ·by_cases a:ln.getD j 0<n∨(ln.getD j 0=n∧j<i)
  ·rw[if_pos a,if_pos jO]
  ·rw[if_neg a,if_neg jO]
theorem aiV{ln:List Nat}{n i:Nat}(c:i<ln.length)(h:ln.getD i 0=n):(ck ln n i).set i (tx (cq (di ln i) n))=ck ln n (i+1):=by
 apply List.ext_getElem
 ·rw[List.length_set,Ew,Ew]
 ·intro j d b;rw[Ew]at b;rw[List.getElem_set,YC,YC];unfold sw;by_cases e:i=j
  ·subst e;rw[if_pos rfl,if_pos (.inr ⟨h,jO⟩),h]
  ·rw[if_neg e];by_cases a:ln.getD j 0<n∨(ln.getD j 0=n∧j<i)
   ·rw[if_pos a,if_pos jO]
   ·rw[if_neg a,if_neg jO]
theorem aiW(ln:List Nat)(n:Nat):ck ln n ln.length=ck ln (n+1) 0:=by
 unfold ck;apply oN;intro j b;rw[abf]at b;unfold sw;by_cases a:ln.getD j 0<n+1∨(ln.getD j 0=n+1∧j<0)
 ·rw[if_pos a,if_pos jO]
 ·rw[if_neg a,if_neg jO]
theorem aiX{ln:List Nat}(w:Wh ln):ck ln 1 0=bU ln.length (tx []):=by unfold ck;rw[List.eq_replicate_iff];refine⟨jS,fun x b=> ?_⟩;obtain⟨j,a,rfl⟩:=List.mem_map.1 b;rw[abf]at a;unfold sw;have:=(w.at a).1;rw[if_neg jO]
def uQ(ln:List Nat):List Value:=(gL ln.length).map fun j=>tx (cq (di ln j) (ln.getD j 0))
theorem aiY{ln:List Nat}(w:Wh ln):ck ln 21 0=uQ ln:=by unfold ck uQ;apply oN;intro j a;rw[abf]at a;unfold sw;have:=(w.at a).2;rw[if_pos jO]
section
variable {Y d n:Nat} {h:H}
theorem aiZ{v:Value}{ln:List Nat}(hR:Row h n 3 .i64 v (iN ln))(w:Wh ln)(hl:ln.length<=258)(u1:0<ln.length)(u0:3000<=Y):af (fun _=>False) n (aj aa gt Y (d+2) 178 #[v]) h n fun X h' n'=>X= .slice (some ⟨n,0,none⟩) ln.length ln.length∧n'=n+1∧h'.get n=some ⟨9,true,uQ ln⟩∧∀b,b<n->h'.get b=h.get b:=by
 have N:=fi ln;obtain⟨q,e,cap,o,ks,rfl,O,P,_,_,_,K⟩:=hR.some jO;rw[aB (fun _=>UG) rfl];refine af.aA ?_;unfold Da;refine jB ?_;rw[N];refine Ev.run_make trivial ln.length ln.length _ (ah _) jO ?_;refine dL 20 (fun C i (s:List Bool)=>rT Y (aj aa gt Y (d+1)) C (wD Y (aj aa gt Y (d+1))) (.slice (some ⟨q,e,none⟩) ln.length cap) (.slice none 0 0) (.slice (some ⟨n,0,none⟩) ln.length ln.length) (tx s) (jI ((i+1:Nat):Int))) (fun i s h' n'=>n'=n+1∧h'.get n=some ⟨9,true,ck ln (i+1) 0⟩∧(∀b,b<n->h'.get b=h.get b)∧lI ln (i+1) 0 s∧s.length<=i) ?_ ?_ Y 0 [] _ (n+1) (aO _) jO ⟨rfl,by rw[get_eq,aiX w];rfl,fun b G=>aw _ _ jO,lI.zero w,aO _⟩
 ·rintro C s h' n' ⟨rfl,g,k,_⟩;rw[rT];have T:¬(((20+1:Nat):Int)<=20):=jO;refine jA @T ?_
  (try unfold wD);(try dsimp only)
  refine jB ?_;exact⟨by rw[g,aiY w],k⟩
 ·rintro C i s h' n' hi ⟨rfl,g,k,lc,sl⟩ next;rw[rT];have T:((i+1:Nat):Int)<=20:=jO;refine jA @T ?_;refine dL ln.length (fun m j (s:List Bool)=>pD Y (aj aa gt Y (d+1)) m (Jr Y (aj aa gt Y (d+1)) C (wD Y (aj aa gt Y (d+1)))) (.slice (some ⟨q,e,none⟩) ln.length cap) (.slice none 0 0) (.slice (some ⟨n,0,none⟩) ln.length ln.length) (tx s) (jI ((i+1:Nat):Int)) (.bool true) (.slice (some ⟨q,e,none⟩) ln.length cap) (jI (ln.length:Int)) (jI (j:Nat))) (fun j s h' n'=>n'=n+1∧h'.get n=some ⟨9,true,ck ln (i+1) j⟩∧(∀b,b<n->h'.get b=h.get b)∧lI ln (i+1) j s∧s.length<=i+1) ?_ ?_ Y 0 s h' (n+1) (aO _) jO ⟨rfl,g,k,lc,jO⟩
  ·rintro m s2 z n2 ⟨rfl,u,y,l,f⟩;rw[pD];refine jA @eT ?_
   (try unfold Jr);(try unfold C9);(try dsimp only)
   refine jB ?_;rw[aiW]at u;have:=next s2 z (n+1) ⟨rfl,u,y,l.row,f⟩
   first|exact this|(rw[show(((i+1:Nat):Int)+1)=((i+1+1:Nat):Int) by omega];exact this)
  ·rintro m j s2 z n2 E ⟨rfl,u,y,l,f⟩ a;rw[pD];have J:((j:Nat):Int)<((ln.length:Nat):Int):=jO;have D:=K j jO;rw[pG]at D;have Q:z.get q=_:=(y q P).trans O;have u2:q<n+1:=jO;by_cases A:ln.getD j 0=i+1
   ·obtain⟨c,p⟩:=l.nZ w E A;have I:((((ln.getD j 0:Nat):Int)) !=((i+1:Nat):Int))=false:=by rw[A];simp
    have nD:=aiV E A;have B:j<(ck ln (i+1) j).length:=by rw[Ew];exact E
    by_cases L:s2=[]
    ·subst L;rw[if_pos rfl]at c;have R:decide (([]:List Bool)=[])=true:=rfl;refine jA (aI @J (aI @Q (aI @D (aI @I (aI @Yx (aI @wY @R)))))) ?_;refine dL (i+1) (fun x r (_:Unit)=>uv Y (aj aa gt Y (d+1)) x (UC Y (aj aa gt Y (d+1)) m (Jr Y (aj aa gt Y (d+1)) C (wD Y (aj aa gt Y (d+1))))) (.slice (some ⟨q,e,none⟩) ln.length cap) (.slice none 0 0) (.slice (some ⟨n,0,none⟩) ln.length ln.length) (tx (bU r false)) (jI ((i+1:Nat):Int)) (jI (j:Nat)) (jI ((ln.getD j 0:Nat):Int)) (.bool true) (.slice (some ⟨q,e,none⟩) ln.length cap) (jI (ln.length:Int)) (jI (j:Nat)) (.bool true) (.bool false) (.bool true) (jI ((i+1:Nat):Int)) (jI (r:Nat))) (fun r _ h' n'=>n'=n+1∧h'=z) ?_ ?_ Y 0 () z (n+1) (aO _) jO ⟨rfl,rfl⟩
     ·rintro x _ U Z ⟨rfl,rfl⟩;rw[uv];refine jA @eT ?_
      (try unfold UC);(try unfold C8);(try dsimp only)
      rw[c];refine jA @J ?_;refine KM trivial n j _ _ u jO B (Yy _) (.inl (ah _)) ?_;refine jB ?_;rw[nD];exact a (cq (di ln j) (i+1)) _ (n+1) ⟨rfl,get_eq _ _ _,fun b G=>by rw[aw _ _ jO];exact y b G,p,by rw[hH];exact ah _⟩
     ·rintro x r _ U Z hr ⟨rfl,rfl⟩ t;rw[uv];have c3:((r:Nat):Int)<((i+1:Nat):Int):=jO;have W:=wX (bU r false) [false] (by rw[j4];show _+1<=_;omega);rw[<-aog]at W;refine jA (aI @c3 (aI @wW @W)) ?_;exact t () U (n+1) ⟨rfl,rfl⟩
    ·have R:decide (s2=[])=false:=decide_eq_false L;rw[if_neg L]at c;refine jA (aI @J (aI @Q (aI @D (aI @I (aI @Yx (aI @wY @R)))))) ?_;refine bq (aiT (Y:=Y) (d:=d) s2 (i+1) jO f jO) jO (fun _ _ h=>h.elim) ?_;rw[c];refine jB ?_;refine KM trivial n j _ _ u jO B (Yy _) (.inl (ah _)) ?_;refine jB ?_;rw[nD];exact a (cq (di ln j) (i+1)) _ (n+1) ⟨rfl,get_eq _ _ _,fun b G=>by rw[aw _ _ jO];exact y b G,p,by rw[hH];exact ah _⟩
   ·have I:((((ln.getD j 0:Nat):Int)) !=((i+1:Nat):Int))=true:=by rw[bne_iff_ne];omega
    refine jA (aI @J (aI @Q (aI @D @I))) ?_;rw[<-aiU A]at u;exact a s2 z (n+1) ⟨rfl,u,y,l.skip E A,f⟩
end
section
variable {Y d n:Nat} {h:H}
theorem ai0(a b:List Bool)(j:b.length<=1000000000):af (fun _=>False) n (aj aa gt Y (d+1) 199 #[tx a,tx b]) h n fun i h' n'=>i= .bool (decide (b.length<=a.length∧a.take b.length=b))∧h'=h∧n'=n:=by
 rw[aB (fun _=>agv) rfl];refine af.aA ?_;unfold Va;by_cases c:b.length<=a.length
 ·have f:((b.length:Nat):Int)<=((a.length:Nat):Int):=jO;have g:=fun(k:Value->M Value)=>Et a .i64 ((b.length:Nat):Int) k jO jO;rw[cV]at g;refine jA (aI @cZ (aI @f (aI @g @wY))) ?_;by_cases e:a.take b.length=b
  ·rw[decide_eq_true e,decide_eq_true ⟨c,e⟩]
  ·rw[decide_eq_false e,decide_eq_false fun q=>e q.2]
 ·have f:¬((b.length:Nat):Int)<=((a.length:Nat):Int):=jO;refine jA (aI @cZ @f) ?_;rw[decide_eq_false fun q=>c q.1]
theorem YD{ln:List Nat}(w:Wh ln){bs:List Bool}{i:Nat}(c:i<ln.length):Mt ln bs i↔((cq (di ln i) (ln.getD i 0)).length<=bs.length∧bs.take (cq (di ln i) (ln.getD i 0)).length=cq (di ln i) (ln.getD i 0)):=by
 rw[hH];constructor
 ·rintro⟨_,a,b⟩;refine⟨a, ?_⟩;have:=wL b;rw[cT,ic a]at this;exact this
 ·rintro⟨a,b⟩;exact⟨c,a,by rw[b,zX (w.KU c)]⟩
theorem Lh{ln:List Nat}{i:Nat}(a:i<ln.length):(uQ ln)[i]? =some (tx (cq (di ln i) (ln.getD i 0))):=by unfold uQ;rw[jd,List.getElem?_range a];rfl
def wZ(o:Option Nat):Int:=match o with
 |none=>-1
 |some s=>(s:Int)
theorem YE{b:Nat}{o:Bool}{ln:List Nat}(w:Wh ln)(bs:List Bool)(g:h.get b=some ⟨9,o,uQ ln⟩)(u:b<n)(t:ln.length<=258)(p:1000<=Y):af (fun _=>False) n (aj aa gt Y (d+2) 164 #[.slice (some ⟨b,0,none⟩) ln.length ln.length,tx bs]) h n fun k h' n'=>k=jI (wZ (fI ln bs))∧h'=h∧n'=n:=by
 rw[aB (fun _=>afY) rfl];refine af.aA ?_;unfold Jh;refine jB ?_;refine dL ln.length (fun f i (_:Unit)=>uq Y (aj aa gt Y (d+1)) f (yV Y (aj aa gt Y (d+1))) (.slice (some ⟨b,0,none⟩) ln.length ln.length) (tx bs) (jI 0) (.slice (some ⟨b,0,none⟩) ln.length ln.length) (jI (ln.length:Int)) (jI (i:Nat))) (fun i _ h' n'=>(h'=h∧n'=n)∧∀j,j<i->¬Mt ln bs j) ?_ ?_ Y 0 () h n (aO _) jO ⟨⟨rfl,rfl⟩,fun j e=>absurd e (lq j)⟩
 ·rintro f _ h' n' ⟨⟨rfl,rfl⟩,c⟩;rw[uq];refine jA @eT ?_
  (try unfold yV);(try dsimp only)
  refine jB ?_;rw[X5 fun i m=>c i m.1 m];rfl
 ·rintro f i _ h' n' a ⟨⟨rfl,rfl⟩,c⟩ next;rw[uq];have s:((i:Nat):Int)<((ln.length:Nat):Int):=jO;have l:=Lh a;refine jA (aI @s (aI @g @l)) ?_;have r:=(w.at a).2;refine bq (ai0 (Y:=Y) (d:=d) bs (cq (di ln i) (ln.getD i 0)) (by rw[hH];omega)) (ah _) (fun _ _ h=>h.elim) ?_;by_cases m:Mt ln bs i
  ·rw[decide_eq_true ((YD w a).1 m)];refine jB ?_
   (try unfold yV);(try dsimp only)
   refine jB ?_;rw[D9 m];rfl
  ·rw[decide_eq_false fun q=>m ((YD w a).2 q)];refine jB ?_
   exact next () h' n' ⟨⟨rfl,rfl⟩,fun j e=>by
    rcases Nat.lt_succ_iff_lt_or_eq.1 e with q|q
    ·exact c j q
    ·exact q▸m⟩
end
theorem Ag{size:Nat}:∀(N c:Nat) (b:List Nat) (bs:List Bool) (a:Nat) (ln:List Nat) (d:Nat),wT size c b->eF N size c b bs a= .ok ln d->ln.length=size∧(∀x∈ln,1<=x∧x<=20)∧a<=d∧d<=a+bs.length
 |0,_,_,_,_,_,_,_,h=>by simp[eF]at h
 |N+1,c,b,bs,a,ln,d,k,h=>by
  unfold eF at h;split at h
  ·next e=>simp only[St.ok.injEq]at h;obtain⟨rfl,rfl⟩:=h;exact⟨e,k.all,ah _,Fo _ _⟩
  ·next e=>
   split at h
   ·cases h
   ·cases h
   ·next m l u f=>have g:=El k (ML k.len e) f;have i:=Em f;have:=Ag N m l (bs.drop u) (a+u) ln d g h;rw[bE]at this;exact⟨this.1,this.2.1,jO,jO⟩
theorem YF{size:Nat}:∀(N c:Nat) (b:List Nat) (bs:List Bool) (a:Nat) (e:Int),eF N size c b bs a= .bad e->e=22
 |0,_,_,_,_,_,h=>by simp[eF]at h
 |N+1,c,b,bs,a,e,h=>by
  unfold eF at h;split at h
  ·cases h
  ·split at h
   ·cases h
   ·next h1=>cases h;exact K6 h1
   ·next m l u h1=>exact YF N m l (bs.drop u) (a+u) e h
def eg:Nat->Nat->List Bool->Nat->List (List Nat)->St (List (List Nat))
 |0,_,_,a,c=> .ok c a
 |t+1,b,d,a,c=>match eF (d.length+1) b 0 [] d 0 with
  | .short=> .short
  | .bad e=> .bad e
  | .ok f u=>if dT (iN f)=1048576 then eg t b (d.drop u) (a+u) (c++[f])else .bad 22
def TT(h:H)(lo n:Nat)(v:Value)(lns:List (List Nat)):Prop:=∃a,Own h lo n 230 v a∧a.length=lns.length∧∀i,i<lns.length->∃b,a.getD i undef= .slice (some ⟨b,0,none⟩) (lns.getD i []).length (lns.getD i []).length∧h.get b=some ⟨9,true,uQ (lns.getD i [])⟩∧lo<=b∧b<n
theorem TT.nil(h:H)(lo n:Nat):TT h lo n (.slice none 0 0) []:=⟨[],Own.nil _ _ _ _,rfl,fun i a=>absurd a (lq i)⟩
theorem TT.au{h h':H}{lo n n':Nat}{v:Value}{lns:List (List Nat)}(x:TT h lo n v lns)(j:n<=n')(a:∀b,lo<=b->b<n->h'.get b=h.get b):TT h' lo n' v lns:=by obtain⟨p,o,k,f⟩:=x;refine⟨p,o.au j fun b c=>a b (o.lt c).1 (o.lt c).2,k,fun i l=> ?_⟩;obtain⟨b,e,g,d,m⟩:=f i l;exact⟨b,e,(a b d m).trans g,d,jO⟩
theorem TT.len{h:H}{lo n:Nat}{v:Value}{lns:List (List Nat)}(x:TT h lo n v lns):∃a c,v= .slice a lns.length c:=by
 obtain⟨i,o,e,g⟩:=x;rcases o with ⟨d,f⟩|⟨b,d,_⟩
 ·subst f;exact⟨none,0,by rw[d,<-e];rfl⟩
 ·exact⟨_,_,by rw[d,e]⟩
def YG(n:Nat)(r:St (List (List Nat)))(d:Value)(h':H)(n':Nat):Prop:=∃(tv:Value) (u e:Int),d= .agg #[tv,jI u,jI e]∧(∃a l c,tv= .slice a l c)∧
 match r with
 | .short=>e=3
 | .bad f=>f=22∧e=22
 | .ok b g=>e=0∧u=(g:Int)∧TT h' n n' tv b
section
variable {Y d n:Nat} {h:H}
theorem ai1{v:Value}{ln:List Nat}(f:Row h n 3 .i64 v (iN ln))(k:∀x∈ln,1<=x∧x<=20)(l:ln.length<=258)(b:3000000<=Y):af (fun _=>False) n (aj aa gt Y (d+2) 198 #[v]) h n fun g h' n'=>g= .bool (decide (dT (iN ln)=1048576))∧h'=h∧n'=n:=by
 rw[aB (fun _=>agu) rfl];refine af.aA ?_;unfold U';have j:=fi ln
 have a:∀x∈iN ln,1<=x∧x<=20:=fun x c=>by obtain⟨w,i,rfl⟩:=List.mem_map.1 c;have:=k w i;omega
 refine bq (aho Y d n h v (iN ln) f 1 20 jO b) (ah _) (fun _ _ h=>h.elim) ?_;rw[wK.2 a];refine jB ?_;refine bq (ahQ Y d n h v (iN ln) f jO (fun x c=>by have:=a x c;omega) b) (ah _) (fun _ _ h=>h.elim) ?_
 have e:(dT (iN ln)==1048576)=decide (dT (iN ln)=1048576):=by
  by_cases q:dT (iN ln)=1048576
  ·rw[decide_eq_true q,q];rfl
  ·rw[decide_eq_false q];exact beq_eq_false_iff_ne.2 q
 exact jC @e
theorem ai2{l:List Bool}(hl:l.length<=1000000)(U:3000000<=Y){size T:Nat}(v7:3<=size)(u3:size<=258)(hT:T<=6):∀(t A i:Nat) (h':H) (n':Nat) (tv:Value) (lns:List (List Nat)) (a:Nat),i+t=T->n+2<=n'->h'.get n=some ⟨228,true,[.slice none 0 0,jI 0,jI 0]⟩->h'.get (n+1)=some ⟨228,true,[tv,jI (a:Int),jI 0]⟩->t<A->a<=l.length->lns.length=i->TT h' (n+2) n' tv lns->
 af (fun _=>False) n (uk Y (aj aa gt Y (d+3)) A (uo Y (aj aa gt Y (d+3))) (tx l) (jI (T:Int)) (jI (size:Int)) (jP n 0) (jP (n+1) 0) (jI (T:Int)) (jI (i:Int))) h' n' (YG n (eg t size (l.drop a) a lns)):=by
 intro t
 induction t with
 |zero=>
  intro A i h' n' tv lns a hi u5 g g2 hf v0 u7 P;obtain⟨A,rfl⟩:∃f,A=f+1:=⟨A-1,jO⟩;obtain rfl:i=T:=jO;obtain⟨s,r,rfl⟩:=P.len;rw[uk];refine jA @eT ?_
  (try unfold uo);(try dsimp only)
  refine XV trivial trivial (n+1) 0 _ g2 jO jS ?_;refine cA (sz:=3) trivial (vs:=[.slice s lns.length r,jI (a:Int),jI 0]) rfl rfl rfl g jO (.inl (ah _)) _ fun h1 g1 k1=> ?_;refine eD trivial trivial g1 rfl jO ?_
  exact⟨_,_,_,rfl,⟨_,_,_,rfl⟩,rfl,rfl,by
   obtain⟨K,o,h1,O⟩:=P.au (ah _) fun b p w7=>k1 b jO
   exact⟨K,o.low jO,h1,fun i hi=>by obtain⟨b,e,g,h3,h4⟩:=O i hi;exact⟨b,e,g,jO,h4⟩⟩⟩
 |succ t ih=>
  intro A i h' n' tv lns a hi u5 g g2 hf v0 u7 P;obtain⟨A,rfl⟩:∃f,A=f+1:=⟨A-1,jO⟩;obtain⟨s,r,rfl⟩:=P.len;rw[uk];unfold eg;have c1:((i:Nat):Int)<((T:Nat):Int):=jO;have s1:=fun(k:Value->M Value)=>oi l .i64 (a:Int) k jO jO;rw[cV]at s1;have w5:n+1<n':=jO;have w6:(l.drop a).length=l.length-a:=bE;refine jA (aI @c1 (aI @g2 @s1)) ?_;refine aN aF (aiS (Y:=Y) (d:=d+1) (l.drop a) jO U (size:=size) jO u3) jO (fun _ _ h=>h.elim) fun v1 h1 m v5 v4 c=> ?_;obtain⟨lv,u,e,rfl,c⟩:=c
  have u6:∃x y z,lv= .slice x y z:=by
   cases J:eF ((l.drop a).length+1) size 0 [] (l.drop a) 0 with
   |short=>rw[J]at c;exact⟨_,_,_,c.2⟩
   |bad e0=>rw[J]at c;exact⟨_,_,_,c.2.2⟩
   |ok D C=>rw[J]at c;obtain⟨x,y,z⟩:=c.2.2.row.len;exact⟨_,_,_,z⟩
  obtain⟨lx,ly,lz,rfl⟩:=u6;refine dX Cj _ ?_;refine cA (sz:=3) trivial (vs:=[.slice lx ly lz,jI u,jI e]) rfl rfl rfl (get_eq _ _ _) jO (.inl jO) _ fun O g3 k3=> ?_;have un:∀b,b<n'->O.get b=h'.get b:=fun b p=>by rw[k3 b jO,aw _ _ jO,v4 b p id]
  have gr:=(un n jO).trans g;have g4:=(un (n+1) jO).trans g2;have u1:TT O (n+2) (m+1) (.slice s lns.length r) lns:=P.au jO fun b _ p=>un b p;have w3:m<m+1:=jO;have w2:n+1<m+1:=jO;cases J:eF ((l.drop a).length+1) size 0 [] (l.drop a) 0 with
  |short=>
   rw[J]at c;obtain⟨rfl,_⟩:=c;have z3:((3:Int) !=0)=true:=rfl;refine jA (aI @g3 (aI @g4 @z3)) ?_;refine cA (sz:=3) trivial (vs:=[.slice s lns.length r,jI 0,jI 3]) rfl rfl rfl gr jO (.inl (ah _)) _ fun G g5 k5=> ?_
   (try unfold uo);(try dsimp only)
   exact eD trivial trivial g5 rfl jO ⟨_,_,_,rfl,⟨_,_,_,rfl⟩,rfl⟩
  |bad e0=>
   rw[J]at c;obtain⟨rfl,rfl,_⟩:=c;have z3:((22:Int) !=0)=true:=rfl;refine jA (aI @g3 (aI @g4 @z3)) ?_;refine cA (sz:=3) trivial (vs:=[.slice s lns.length r,jI 0,jI 22]) rfl rfl rfl gr jO (.inl (ah _)) _ fun G g5 k5=> ?_
   (try unfold uo);(try dsimp only)
   exact eD trivial trivial g5 rfl jO ⟨_,_,_,rfl,⟨_,_,_,rfl⟩,rfl,rfl⟩
  |ok D C=>
   rw[J]at c;obtain⟨rfl,rfl,ol⟩:=c;have R:=Ag _ _ _ _ _ _ _ ⟨aO _,aO _,fun x hx=>absurd hx jS⟩ J;have z0:((0:Int) !=0)=false:=rfl;have w1:IntKind.i64.wrap ((a:Int)+((C:Nat):Int))=((a+C:Nat):Int):=by rw[aH jO jO];omega
   have il:n<=n+1:=jO;refine jA (aI @g3 (aI @g4 (aI @z0 (aI @w1 (aI @il (aI @true_or @or_true)))))) ?_;obtain⟨G,hh⟩:∃G:H,G=O.set (n+1) (some ⟨228,true,[.slice s lns.length r,jI ((a+C:Nat):Int),jI 0]⟩):=⟨_,rfl⟩;rw[<-hh];have g6:G.get (n+1)=some ⟨228,true,[.slice s lns.length r,jI ((a+C:Nat):Int),jI 0]⟩:=by rw[hh,get_eq]
   have E:∀b,b≠n+1->G.get b=O.get b:=fun b p=>by rw[hh,aw _ _ p]
   have g7:=(E m jO).trans g3;have X:=(E n jO).trans gr
   have o5:Own G n' m 3 (.slice lx ly lz) (aV .i64 (iN D)):=ol.au (ah _) fun b p=>by have:=ol.lt p;rw[E b jO,k3 b jO,aw _ _ jO]
   have r5:Row G (m+1) 3 .i64 (.slice lx ly lz) (iN D):=(o5.au (eL m) fun _ _=>rfl).row;have u0:TT G (n+2) (m+1) (.slice s lns.length r) lns:=u1.au (ah _) fun b p _=>E b jO;refine bq (ai1 (Y:=Y) (d:=d+1) r5 R.2.1 jO U) jO (fun _ _ h=>h.elim) ?_;by_cases N:dT (iN D)=1048576
   ·rw[decide_eq_true N];have e:(if dT (iN D)=1048576 then eg t size ((l.drop a).drop C) (a+C) (lns++[D])else .bad 22)=eg t size ((l.drop a).drop C) (a+C) (lns++[D]):=if_pos N;refine jA @eK ?_;refine gF trivial (n+1) 0 _ g6 (show n+1<m+1 by omega) (ah _) rfl fun T1 t1=> ?_;refine jB ?_;refine gF trivial m 0 _ g7 (show m<m+1 by omega) (ah _) rfl fun T2 t2=> ?_;refine jB ?_;have w:=wP R.2.1 N;refine lV aF (aiZ (Y:=Y) (d:=d+1) r5 w jO jO jO) jO fun v6 h6 n6 T3 v9 I u4 t3=> ?_;obtain⟨rfl,rfl,v3,_⟩:=u4;obtain⟨K,Z,W,u9⟩:=u0;have L:Own h6 (n+2) (m+1+1) 230 (.slice s lns.length r) K:=Z.au jO fun b p=>I b (Z.lt p).2;refine K3 trivial (adO _ _ _) L jO (fun b p=> .inl (by have:=(L.lt p).1;omega)) _ fun w4 T4 T5 h8 g8 Q=> ?_;have nb:∀b,b<n+2->¬aK (.slice s lns.length r) b:=fun b p q=>by have:=(L.lt q).1;omega
    have g9:=((Q (n+1) jO (nb _ jO)).trans (I (n+1) jO)).trans g6;have v2:=((Q n jO (nb _ jO)).trans (I n jO)).trans X;have v8:n+1<m+1+1+2:=jO;refine jB ?_;refine K2 (fun _ _=>rfl) ?_;try simp(disch:=first|omega|assumption) only[Nat.reduceAdd,Nat.reduceLT,RZ,g9,il,true_or,or_true,t1.cy t3,cf,dJ,dG]
    have:=ih A (i+1) (h8.set (n+1) (some ⟨228,true,[.slice (some ⟨m+1+1+1,0,none⟩) (K.length+1) (bo+(K.length+1)),jI ((a+C:Nat):Int),jI 0]⟩)) (m+1+1+2) (.slice (some ⟨m+1+1+1,0,none⟩) (K.length+1) (bo+(K.length+1))) (lns++[D]) (a+C) jO jO ((aw _ _ jO).trans v2) (get_eq _ _ _) jO jO (by rw[bG];simp only[cP,iP];omega) (by
     refine⟨K++[.slice (some ⟨m+1,0,none⟩) D.length D.length],.inr ⟨m+1+1+1,jS,by rw[aw _ _ jO];exact g8,jO,jO⟩,by simp[W],fun j hj=> ?_⟩;rw[bG]at hj;simp only[cP,iP]at hj;rw[D5,D5,W];by_cases v:j<lns.length
     ·rw[if_pos v,if_pos v];obtain⟨b,e1,e2,e3,e4⟩:=u9 j v;refine⟨b,e1, ?_,e3,jO⟩
      have u2:¬aK (.slice s lns.length r) b:=fun q=>by obtain⟨B,q1,q2⟩:=Z.elem q;rw[e2]at q1;cases q1;exact absurd (show(9:Nat)=230 from q2) jD
      rw[aw _ _ jO,Q b jO u2,I b e4];exact e2
     ·rw[if_neg v,if_neg v,if_pos jO,if_pos jO];refine⟨m+1,rfl, ?_,jO,jO⟩;rw[aw _ _ jO,Q (m+1) jO fun q=>by have:=(Z.lt q).2;omega]
      exact v3)
    rw[<-jm]at this
    first|(rw[e];exact this)|(rw[if_pos N];exact this)
   ·rw[decide_eq_false N];have w0:n+1<m+1:=jO;refine jA (aI @cf @g6) ?_;rw[if_neg N];refine cA (sz:=3) trivial (vs:=[.slice s lns.length r,jI 0,jI 22]) rfl rfl rfl X jO (.inl (ah _)) _ fun h8 g8 Q=> ?_
    (try unfold uo);(try dsimp only)
    exact eD trivial trivial g8 rfl jO ⟨_,_,_,rfl,⟨_,_,_,rfl⟩,rfl,rfl⟩
theorem YH(l:List Bool)(f:l.length<=1000000)(c:3000000<=Y){size T:Nat}(b:3<=size)(a:size<=258)(g:T<=6):af (fun _=>False) n (aj aa gt Y (d+4) 163 #[tx l,jI (T:Int),jI (size:Int)]) h n (YG n (eg T size l 0 [])):=by rw[aB (fun _=>afW) rfl];refine af.aA ?_;unfold Jg;refine dX we _ ?_;refine jB ?_;refine dX we _ ?_;refine cA (sz:=3) trivial (vs:=[.slice none 0 0,jI 0,jI 0]) rfl rfl rfl (get_eq _ _ _) jO (.inl jO) _ fun i j e=> ?_;have:=ai2 (n:=n) (d:=d) f c b a g T Y 0 i (n+1+1) (.slice none 0 0) [] 0 jO jO (by rw[e n jO,aw _ _ jO,get_eq]) j jO (aO _) rfl (TT.nil _ _ _);rw[jz]at this;exact this
end
def sx:Nat->List (List Nat)->List Nat->Nat->List Bool->Int->List Int->Nat->Rs
 |0,_,_,_,_,_,_,_=> .err 3
 |N+1,b,took,c,e,d,out,a=>if took.length<=out.length/50 then .err 25 else
  match fI (b.getD (took.getD (out.length/50) 0) []) e with
  |none=> .err 3
  |some s=>if(out.length:Int)=d then .err 2 else
   if s+1=c then .ok (out++[(s:Int)]) (a+(b.getD (took.getD (out.length/50) 0) []).getD s 0)
   else sx N b took c (e.drop ((b.getD (took.getD (out.length/50) 0) []).getD s 0)) d (out++[(s:Int)]) (a+(b.getD (took.getD (out.length/50) 0) []).getD s 0)
def qH(size:Nat)(bs:List Bool)(most:Int):Rs:=
 match dE (bs.length+1) fV bs 0 with
 | .short=> .err 3
 | .bad e=> .err e
 | .ok s a=>match eg s.t size (bs.drop a) 0 []with
   | .short=> .err 3
   | .bad e=> .err e
   | .ok b u=>sx (bs.length+1) b s.bw size (bs.drop (a+u)) most [] (a+u)
def xa(n:Nat)(r:Rs)(held:Int)(c:Value)(h':H)(n':Nat):Prop:=∃(b:Value) (u hd e:Int),c= .agg #[b,jI u,jI hd,jI e]∧
 match r with
 | .err d=>e=d∧b= .slice none 0 0∧u=0
 | .ok out a=>e=0∧u=(a:Int)∧Own h' n n' 3 b (aV .i64 out)∧hd=held
section
variable {β:Type} {W:Nat->Prop} {n0:Nat} {h:H} {n m:Nat} {Q:β->H->Nat->Prop}
theorem YI{t:TypeId}{z cs:List Value}(a:z=cs)(k:Value×Tk->M β)(b:m<=n)(x:∀T,RB T m->af W n0 (k (jP n 0,T)) (h.set n (some ⟨t,true,cs⟩)) (n+1) Q):af W n0 ((az (cC t z M.ret)).bind k) h n Q:=by subst a;exact lG (mW (pr _ _ (fun id=>jP id 0) _ _)) (eL n) jS (x _ ⟨jS,jS,b⟩)
end
section
variable {Y d n:Nat} {h:H}
theorem ai3 {l:List Bool} (hl:l.length<=1000000) (x9:3000000<=Y) {size T:Nat} (x4:3<=size) (u6:size<=258) {lns:List (List Nat)} {took:List Nat} (most:Int) (hw:∀ln∈lns,Wh ln∧ln.length=size) (u5:∀v∈took,v<lns.length) (hT:lns.length=T) (v2:T<=6) (w6:took.length<=40000)
 {q1 q2 lo:Nat} {pv tv:Value} {x1 x2 x3 y1 y2:Int} (hq:n+1<=lo) (x6:q1<lo∧n<q1) (x5:q2<lo∧n<q2):
 ∀(N A:Nat) (h':H) (n':Nat) (ov:Value) (out:List Int) (a:Nat),lo<=n'->h'.get n=some ⟨188,true,[.slice none 0 0,jI 0,jI 0,jI 0]⟩->h'.get q1=some ⟨224,true,[pv,jI (T:Int),jI x2,jI x3,jI 0]⟩->h'.get q2=some ⟨228,true,[tv,jI y1,jI 0]⟩->Row h' lo 3 .i64 pv (iN took)->TT h' 0 lo tv lns->
  (l.drop a).length<N->N<=A->a<=l.length->out.length+(l.drop a).length<=1000000->Own h' lo n' 3 ov (aV .i64 out)->
  af (fun _=>False) n (wx Y (aj aa gt Y (d+4)) A (uc Y (aj aa gt Y (d+4))) (tx l) (jI (size:Int)) (jI most) (jP n 0) (jP q1 0) (jP q2 0) (jI (a:Int)) ov (.bool false) (.bool false)) h' n' (xa n (sx N lns took size (l.drop a) most out a) ((took.length+T*size:Nat):Int)):=by
 intro N
 induction N with
 |zero=>intro A h' n' ov out a _ _ _ _ _ _ hN;omega
 |succ N ih=>
  intro A h' n' ov out a x8 g r g2 W tt hN y3 y7 x7 X;obtain⟨A,rfl⟩:∃f,A=f+1:=⟨A-1,jO⟩;obtain⟨oa,oc,rfl⟩:=X.row.len;have y0:=fi took;have y4:(l.drop a).length=l.length-a:=bE;have v8:q1<n':=jO;have v7:q2<n':=jO;have U:((out.length:Nat):Int).tdiv 50=((out.length/50:Nat):Int):=rfl;have I:IntKind.i64.wrap ((out.length/50:Nat):Int)=((out.length/50:Nat):Int):=aH jO jO
  have err:∀(e:Int) (k:Value->M Value),(∀C:H,C.get n=some ⟨188,true,[.slice none 0 0,jI 0,jI 0,jI e]⟩->af (fun _=>False) n (k undef) C n' (xa n (.err e) ((took.length+T*size:Nat):Int)))->af (fun _=>False) n (aQ 4 (jP n 0) (.agg #[.slice none 0 0,jI 0,jI 0,jI e]) k) h' n' (xa n (.err e) ((took.length+T*size:Nat):Int)):=fun e k hk=>cA (sz:=4) trivial (vs:=[.slice none 0 0,jI 0,jI 0,jI e]) rfl rfl rfl g jO (.inl (ah _)) _ fun C r k1=>hk C r
  rw[wx];unfold sx;by_cases x:took.length<=out.length/50
  ·obtain⟨pa,pc,rfl⟩:=W.len;have c1:(((iN took).length:Nat):Int)<=((out.length/50:Nat):Int):=jO;refine jA (aI @r (aI @U (aI @I @c1))) ?_;rw[if_pos x];refine err 25 _ fun C r=> ?_
   (try unfold uc);(try dsimp only)
   exact eD trivial trivial r rfl jO ⟨_,_,_,_,rfl,rfl,rfl,rfl⟩
  ·rw[if_neg x];obtain⟨b,u1,cap,o,ks,rfl,hg,y6,hv⟩:=W.some jO;have c1:¬(((iN took).length:Nat):Int)<=((out.length/50:Nat):Int):=jO;obtain⟨i,m⟩:∃t,took.getD (out.length/50) 0=t:=⟨_,rfl⟩
   have u2:ks[u1+out.length/50]? =some (jI (i:Int)):=by rw[hv.2.2.2 _ jO,pG,m]
   have w3:b<n':=jO
   have y:i<lns.length:=by refine u5 i ?_;rw[<-m,bz,bB jO];exact dO _
   obtain⟨E,K,B,P⟩:=tt;obtain⟨bt,e1,D,_,y5⟩:=P i y
   obtain⟨v5,u4,v3,_,v9⟩:∃b,tv= .slice (some ⟨b,0,none⟩) E.length (bo+E.length)∧h'.get b=some ⟨230,true,E⟩∧0<=b∧b<lo:=by
    rcases K with ⟨_,e⟩|⟨b,p1,p2,p3,p4⟩
    ·rw[e]at B;have:lns.length=0:=B.symm;omega
    ·exact⟨b,p1,p2,p3,p4⟩
   subst u4
   have p:E[i]? =some (.slice (some ⟨bt,0,none⟩) (lns.getD i []).length (lns.getD i []).length):=by rw[<-e1,bz,bB jO];rfl
   have z:lns.getD i []∈lns:=by rw[bz,bB y];exact dO _
   obtain⟨ln,O⟩:∃l,lns.getD i []=l:=⟨_,rfl⟩;rw[m,O];rw[O]at p D z;obtain⟨G,w5⟩:=hw ln z;have w7:(i:Int)<((E.length:Nat):Int):=jO;have v1:v5<n':=jO;have s1:=fun(k:Value->M Value)=>oi l .i64 (a:Int) k jO jO;rw[cV]at s1;refine jA (aI @r (aI @g2 (aI @U (aI @I (aI @c1 (aI @hg (aI @u2 (aI @v3 (aI @p @s1))))))))) ?_;refine bq (YE (Y:=Y) (d:=d+2) G (l.drop a) D jO jO jO) jO (fun _ _ h=>h.elim) ?_;cases u9:fI ln (l.drop a)with
   |none=>
    have c2:decide (wZ (none:Option Nat)<0)=true:=rfl;refine jA @c2 ?_;refine err 3 _ fun C r=> ?_
    (try unfold uc);(try dsimp only)
    exact eD trivial trivial r rfl jO ⟨_,_,_,_,rfl,rfl,rfl,rfl⟩
   |some s=>
    obtain⟨m1,m2,m3⟩:=pF u9;have c2:decide (wZ (some s)<0)=false:=decide_eq_false (by show¬((s:Int)<0);omega);by_cases Z:(out.length:Int)=most
    ·have c3:(((out.length:Nat):Int)==most)=true:=beq_iff_eq.2 Z;refine jA (aI @c2 @c3) ?_;rw[if_pos Z];refine err 2 _ fun C r=> ?_
     (try unfold uc);(try dsimp only)
     exact eD trivial trivial r rfl jO ⟨_,_,_,_,rfl,rfl,rfl,rfl⟩
    ·have c3:(((out.length:Nat):Int)==most)=false:=beq_eq_false_iff_ne.2 Z;have gi:wZ (some s)=(s:Int):=rfl;have L:=Lh m1;have w9:((s:Nat):Int)<((ln.length:Nat):Int):=jO;have w0:bt<n':=jO;obtain⟨u,hu⟩:∃u,ln.getD s 0=u:=⟨_,rfl⟩;have u3:=(G.at m1);rw[hu]at u3 m2 L;have v0:(cq (di ln s) u).length=u:=hH _ _;have c4:decide (((s:Nat):Int)<0)=false:=decide_eq_false jO
     have e2:(((s:Nat):Int)==(size:Int)-1)=decide (s+1=size):=by
      by_cases q:s+1=size
      ·rw[decide_eq_true q];exact beq_iff_eq.2 jO
      ·rw[decide_eq_false q];exact beq_eq_false_iff_ne.2 jO
     refine jA (aI @c4 (aI @c3 (aI @gi (aI @D (aI @L (aI @cZ (aI @v0 @e2))))))) ?_;rw[if_neg Z,hu];refine si trivial (ke _ _) X (by rw[eu];omega) (fun b x=> .inl (by have:=(X.lt x).1;omega)) _ fun h2 g3 k3=> ?_;have J:∀b,b<lo->h2.get b=h'.get b:=fun b x=>k3 b jO fun q=>by have:=(X.lt q).1;omega
     have R:=(J q1 jO).trans r;have v4:=(J q2 jO).trans g2;have Q:=(J n jO).trans g;have on:aV .i64 (out++[(s:Int)])=aV .i64 out++[jI ((s:Nat):Int)]:=by rw[mY];rfl
     have oo:Own h2 lo (n'+2) 3 (.slice (some ⟨n'+1,0,none⟩) ((aV .i64 out).length+1) (bo+((aV .i64 out).length+1))) (aV .i64 (out++[(s:Int)])):=by rw[on];exact .inr ⟨n'+1,jS,g3,jO,jO⟩
     by_cases j:s+1=size
     ·have y8:T*size<=6*258:=Nat.mul_le_mul v2 u6
      have w1:IntKind.i64.wrap ((T:Int)*(size:Int))=((T*size:Nat):Int):=by rw[show(T:Int)*(size:Int)=((T*size:Nat):Int) by push_cast;rfl,aH jO jO]
      have w2:IntKind.i64.wrap ((((iN took).length:Nat):Int)+((T*size:Nat):Int))=((took.length+T*size:Nat):Int):=by rw[aH jO jO];omega
      have u7:q1<n'+2:=jO;rw[decide_eq_true j];refine jA (aI @R (aI @w1 @w2)) ?_;refine cA (sz:=4) trivial (vs:=[.slice (some ⟨n'+1,0,none⟩) ((aV .i64 out).length+1) (bo+((aV .i64 out).length+1)),jI ((a:Int)+(u:Int)),jI ((took.length+T*size:Nat):Int),jI 0]) rfl rfl rfl Q jO (.inl (ah _)) _ fun h5 g5 k5=> ?_
      (try unfold uc);(try dsimp only)
      refine eD trivial trivial g5 rfl jO ?_;rw[if_pos j];exact⟨_,_,_,_,rfl,rfl,jO,(oo.au (ah _) fun b x=>k5 b (by have:=(oo.lt x).1;omega)).low jO,rfl⟩
     ·rw[decide_eq_false j];refine jB ?_;rw[if_neg j];have:=ih A h2 (n'+2) _ (out++[(s:Int)]) (a+u) jO Q R v4 (W.kT (ah _) fun c hc=>J c (W.lt hc)) (TT.au ⟨E,K,B,P⟩ (ah _) fun b _ x=>J b x) (by rw[bE];omega) jO jO (by rw[bG,bE];simp only[cP,iP];omega) oo;rw[<-jm]at this
      first|exact this|(rw[show(a:Int)+(u:Int)=((a+u:Nat):Int) by omega];exact this)
theorem uR{size:Nat}:∀(t:Nat) (bs:List Bool) (a:Nat) (acc lns:List (List Nat)) (b:Nat),(∀ln∈acc,Wh ln∧ln.length=size)->eg t size bs a acc= .ok lns b->(∀ln∈lns,Wh ln∧ln.length=size)∧lns.length=acc.length+t∧a<=b∧b<=a+bs.length
 |0,bs,a,acc,lns,b,k,h=>by simp only[eg,St.ok.injEq]at h;obtain⟨rfl,rfl⟩:=h;exact⟨k,rfl,ah _,Fo _ _⟩
 |t+1,bs,a,acc,lns,b,k,h=>by
  unfold eg at h;split at h
  ·cases h
  ·cases h
  ·next ln u d=>
   have ok:=Ag _ _ _ _ _ _ _ ⟨aO _,aO _,fun x c=>absurd c jS⟩ d;split at h
   ·next hs=>
    have:=uR t (bs.drop u) (a+u) (acc++[ln]) lns b (fun l hl=>by
     rcases List.mem_append.1 hl with hl|hl
     ·exact k l hl
     ·simp only[sV]at hl;subst hl
      exact⟨wP ok.2.1 hs,ok.1⟩) h
    rw[bG,bE]at this;simp only[cP,iP]at this;exact⟨this.1,jO,jO,jO⟩
   ·cases h
theorem YJ{size:Nat}:∀(t:Nat) (bs:List Bool) (a:Nat) (acc:List (List Nat)) (e:Int),eg t size bs a acc= .bad e->e=22
 |0,bs,a,acc,e,h=>by simp[eg]at h
 |t+1,bs,a,acc,e,h=>by
  unfold eg at h;split at h
  ·cases h
  ·next h1=>cases h;exact YF _ _ _ _ _ _ h1
  ·split at h
   ·exact YJ t _ _ _ e h
   ·cases h;rfl
theorem sA:∀(N:Nat) (s:Pk) (bs:List Bool) (a:Nat) (c:Pk) (d:Nat),s.Ok->s.t<=6->s.ord.length=6->s.count<32768->dE N s bs a= .ok c d->c.Ok∧c.t<=6∧c.fin=true∧c.count<32768∧a<=d∧d<=a+bs.length
 |0,s,bs,a,c,d,_,_,_,_,h=>by simp[dE]at h
 |N+1,s,bs,a,c,d,ok,g,f,i,h=>by
  unfold dE at h;split at h
  ·next hf=>simp only[St.ok.injEq]at h;obtain⟨rfl,rfl⟩:=h;exact⟨ok,g,hf,i,ah _,Fo _ _⟩
  ·next hf=>
   have hf:s.fin=false:=by simpa using hf
   split at h
   ·cases h
   ·cases h
   ·next s1 u b=>
    obtain⟨l,t,r⟩:=K7 ok g f hf b
    have e:s1.t<=6∧s1.ord.length=6∧s1.count<32768:=by
     unfold c8 at b;split at b
     ·split at b
      ·cases b
      ·split at b
       ·next Li=>simp only[St.ok.injEq]at b;obtain⟨rfl,_⟩:=b;exact⟨Li.1.2,f,jF _ jD⟩
       ·cases b
     ·split at b
      ·cases b
      ·cases b
      ·next o n m=>simp only[St.ok.injEq]at b;obtain⟨rfl,_⟩:=b;have:=(Ae m).2;exact⟨g,wS (dv:=0) f jO,i⟩
    have:=sA N s1 (bs.drop u) (a+u) c d l e.1 e.2.1 e.2.2 h;rw[bE]at this;obtain⟨q1,q2,k,j,q,p⟩:=this;exact⟨q1,q2,k,j,jO,jO⟩
theorem sB:fV.Ok:=⟨fun _=>⟨rfl,rfl⟩,fun j b=>absurd b (lq j),fun x a=>absurd a (by simp[fV]),fun e=>absurd rfl e,fun e=>absurd rfl e⟩
end
def Ey(size:Nat)(l:List Bool):Int:=match dE (l.length+1) fV l 0 with
 | .ok s _=>((s.bw.length+s.t*size:Nat):Int)
 |_=>0
section
variable {Y d n:Nat} {h:H}
theorem ai4(l:List Bool)(U:l.length<=1000000)(I:3000000<=Y){size:Nat}(R:3<=size)(Q:size<=258)(most:Int):af (fun _=>False) n (aj aa gt Y (d+5) 129 #[tx l,jI (size:Int),jI most]) h n (xa n (qH size l most) (Ey size l)):=by
 rw[aB (fun _=>ae4) rfl];refine af.aA ?_;unfold IL;refine dX HC _ ?_;refine aN aF (YB (Y:=Y) (d:=d+2) l U I) jO (fun _ _ h=>h.elim) fun v1 h1 j v3 u6 c=> ?_;obtain⟨pv,t,a,u,e,rfl,c⟩:=c
 have u2:∃x y z,pv= .slice x y z:=by
  cases q:dE (l.length+1) fV l 0 with
  |short=>rw[q]at c;exact⟨_,_,_,c.2⟩
  |bad e0=>rw[q]at c;exact⟨_,_,_,c.2.2⟩
  |ok s B=>rw[q]at c;obtain⟨x,y,z⟩:=c.2.2.2.row.len;exact⟨_,_,_,z⟩
 obtain⟨px,py,pz,rfl⟩:=u2;refine dX yD _ ?_;refine cA (sz:=5) trivial (vs:=[.slice px py pz,jI t,jI a,jI u,jI e]) rfl rfl rfl (get_eq _ _ _) jO (.inl jO) _ fun A L k2=> ?_;have un:∀b,b<n+1->A.get b=(h.set n (some ⟨188,true,[.slice none 0 0,jI 0,jI 0,jI 0]⟩)).get b:=fun b C=>by rw[k2 b jO,aw _ _ jO];exact u6 b C id
 have gn:=(un n jO).trans (get_eq _ _ _);have v0:j<j+1:=jO
 have err:∀(e:Int) (A:H) (n2:Nat),n<n2->A.get n=some ⟨188,true,[.slice none 0 0,jI 0,jI 0,jI 0]⟩->af (fun _=>False) n (aQ 4 (jP n 0) (.agg #[.slice none 0 0,jI 0,jI 0,jI e]) fun _=>bc 4 (jP n 0) fun v=>ag [v]) A n2 (xa n (.err e) (Ey size l)):=fun e A n2 v2 g=>by refine cA (sz:=4) trivial (vs:=[.slice none 0 0,jI 0,jI 0,jI e]) rfl rfl rfl g jO (.inl (ah _)) _ fun h1 g1 k1=> ?_;exact eD trivial trivial g1 rfl jO ⟨_,_,_,_,rfl,rfl,rfl,rfl⟩
 unfold qH;cases q:dE (l.length+1) fV l 0 with
 |short=>rw[q]at c;obtain⟨rfl,_⟩:=c;have E:((3:Int) !=0)=true:=rfl;refine jA (aI @L @E) ?_;exact err 3 A (j+1) jO gn
 |bad e0=>rw[q]at c;obtain⟨rfl,rfl,_⟩:=c;have E:((25:Int) !=0)=true:=rfl;refine jA (aI @L @E) ?_;exact err 25 A (j+1) jO gn
 |ok s B=>
  rw[q]at c;obtain⟨rfl,rfl,rfl,op⟩:=c;obtain⟨ok,h6,fin,hc,_,u4⟩:=sA _ _ _ _ _ _ sB (aO _) rfl jD q;rw[fD]at u4;have z0:((0:Int) !=0)=false:=rfl;have s1:=fun(k:Value->M Value)=>oi l .i64 ((B:Nat):Int) k jO jO;rw[cV]at s1;have v4:(l.drop B).length=l.length-B:=bE;have D:=fin;unfold Pk.fin at D;rw[bZ,decide_eq_true_eq,decide_eq_true_eq]at D
  have o8:Own A (n+1) j 3 (.slice px py pz) (aV .i64 (iN s.bw)):=op.au (ah _) fun b C=>by have:=op.lt C;rw[k2 b jO,aw _ _ jO]
  refine jA (aI @L @z0) ?_;refine gF trivial j 2 _ L (show j<j+1 by omega) (ah _) rfl fun T1 t1=> ?_;refine jA @s1 ?_;refine KL _ _ (ah _) fun T2 t2=> ?_;refine jB ?_;refine gF trivial j 1 _ L (show j<j+1 by omega) (ah _) rfl fun T3 t3=> ?_;refine jB ?_;refine lV aF (YH (Y:=Y) (d:=d) (l.drop B) jO I R Q h6) jO fun v6 v7 m T4 u3 u5 f t4=> ?_;obtain⟨tv,u1,e1,rfl,⟨P,O,N,rfl⟩,f⟩:=f;refine YI we _ u3 fun T5 t5=> ?_;refine Ei (fun _ _=>rfl) ?_;refine cA (sz:=3) trivial (vs:=[.slice P O N,jI u1,jI e1]) rfl rfl rfl (get_eq _ _ _) jO (.inl jO) _ fun J W k7=> ?_;have G:∀b,b<j+1->J.get b=A.get b:=fun b C=>by rw[k7 b jO,aw _ _ jO];exact u5 b C
  have K:=(G n jO).trans gn;have T:=(G j jO).trans L;have u7:m<m+1:=jO;have u9:j<m+1:=jO;cases p:eg s.t size (l.drop B) 0 []with
  |short=>
   rw[p]at f;subst f;have E:((3:Int) !=0)=true:=rfl;try simp(disch:=first|omega|assumption) only[Nat.reduceAdd,Nat.reduceLT,RZ,t4.cy t5,cf,dJ,dG,W,E]
   exact err 3 J (m+1) jO K
  |bad e0=>
   rw[p]at f;obtain⟨rfl,rfl⟩:=f;have E:((22:Int) !=0)=true:=rfl;try simp(disch:=first|omega|assumption) only[Nat.reduceAdd,Nat.reduceLT,RZ,t4.cy t5,cf,dJ,dG,W,E]
   exact err 22 J (m+1) jO K
  |ok lns X=>
   rw[p]at f;obtain⟨rfl,rfl,tt⟩:=f;obtain⟨hw,r,_,u0⟩:=uR _ _ _ _ _ _ (fun ln U=>absurd U jS) p;rw[fD]at u0;have r:lns.length=s.t:=by rw[r];show 0+s.t=s.t;omega
   have w1:IntKind.i64.wrap (((B:Nat):Int)+((X:Nat):Int))=((B+X:Nat):Int):=by rw[aH jO jO];omega
   try simp(disch:=first|omega|assumption) only[Nat.reduceAdd,Nat.reduceLT,RZ,t4.cy t5,cf,dJ,dG,W,T,z0,w1]
   have rp:Row J (m+1) 3 .i64 (.slice px py pz) (iN s.bw):=(o8.au (by omega:j<=m+1) fun b C=>G b (by have:=(o8.lt C).2;omega)).row
   have Z:TT J 0 (m+1) (.slice P O N) lns:=by
    obtain⟨cs,o,q1,q2⟩:=tt.au (h':=J) (by omega:m<=m+1) fun b C v5=>by rw[k7 b jO,aw _ _ jO]
    exact⟨cs,o.low (aO _),q1,fun i hi=>by obtain⟨b,p1,p2,p3,p4⟩:=q2 i hi;exact⟨b,p1,p2,aO _,p4⟩⟩
   have hh:Ey size l=((s.bw.length+s.t*size:Nat):Int):=by unfold Ey;rw[q]
   rw[hh];exact ai3 (n:=n) (d:=d) U I R Q (lns:=lns) (took:=s.bw) most hw (fun v hv=>by rw[r];exact ok.bw v hv) r h6 jO (q1:=j) (q2:=m) (lo:=m+1) (x1:=0) (y2:=0) jO ⟨jO,jO⟩ ⟨jO,jO⟩ (l.length+1) Y J (m+1) (.slice none 0 0) [] (B+X) (ah _) K T W rp Z (by rw[bE];omega) jO jO (by rw[bE];show 0+_<=_;omega) (Own.nil _ _ _ _)
end
abbrev Ck:=List Int->Int->Option Int
def fZ:Nat->List (List Nat)->List Nat->Nat->List Bool->Ck->List Int->Nat->Rs
 |0,_,_,_,_,_,_,_=> .err 3
 |N+1,b,took,c,d,ck,out,a=>if took.length<=out.length/50 then .err 25 else
  match fI (b.getD (took.getD (out.length/50) 0) []) d with
  |none=> .err 3
  |some s=>match ck out (s:Int)with
   |some e=> .err e
   |none=>if s+1=c then .ok (out++[(s:Int)]) (a+(b.getD (took.getD (out.length/50) 0) []).getD s 0)
    else fZ N b took c (d.drop ((b.getD (took.getD (out.length/50) 0) []).getD s 0)) ck (out++[(s:Int)]) (a+(b.getD (took.getD (out.length/50) 0) []).getD s 0)
def iF(size:Nat)(bs:List Bool)(ck:Ck):Rs:=
 match dE (bs.length+1) fV bs 0 with
 | .short=> .err 3
 | .bad e=> .err e
 | .ok s a=>match eg s.t size (bs.drop a) 0 []with
   | .short=> .err 3
   | .bad e=> .err e
   | .ok b u=>fZ (bs.length+1) b s.bw size (bs.drop (a+u)) ck [] (a+u)
def dF:Nat->Cd->List Bool->Ck->List Int->Nat->Rs
 |0,_,_,_,_,_=> .err 3
 |N+1,c,b,ck,out,a=>if c.done=true then .ok out a else match ed c b with
  | .short=> .err 3
  | .bad e=> .err e
  | .ok (sym,d) u=>if sym=-1 then dF N d (b.drop u) ck out (a+u)else match ck out sym with
    |some e=> .err e
    |none=>dF N d (b.drop u) ck (out++[sym]) (a+u)
def lim(most:Int):Ck:=fun out _=>if(out.length:Int)=most then some 2 else none
theorem YK{b:List (List Nat)}{took:List Nat}{size:Nat}(most:Int):∀(N:Nat) (bs:List Bool) (out:List Int) (a:Nat),sx N b took size bs most out a=fZ N b took size bs (lim most) out a
 |0,_,_,_=>rfl
 |N+1,bs,out,a=>by
  unfold sx fZ;by_cases d:took.length<=out.length/50
  ·rw[if_pos d,if_pos d]
  ·rw[if_neg d,if_neg d];cases fI (b.getD (took.getD (out.length/50) 0) []) bs with
   |none=>rfl
   |some s=>
    show(if(out.length:Int)=most then Rs.err 2 else _)=match (if(out.length:Int)=most then some 2 else none:Option Int)with
     |some e=>Rs.err e
     |none=>_
    by_cases h:(out.length:Int)=most
    ·rw[if_pos h,if_pos h]
    ·rw[if_neg h,if_neg h];by_cases c:s+1=size
     ·rw[if_pos c];simp only[if_pos c]
     ·rw[if_neg c];simp only[if_neg c];exact YK most N _ _ _
theorem Ez(size:Nat)(bs:List Bool)(most:Int):qH size bs most=iF size bs (lim most):=by
 unfold qH iF;cases dE (bs.length+1) fV bs 0 with
 |short=>rfl
 |bad e=>rfl
 |ok s a=>
  show(match eg s.t size (bs.drop a) 0 []with
   | .short=>Rs.err 3
   | .bad e=> .err e
   | .ok b u=>_)=match eg s.t size (bs.drop a) 0 []with
   | .short=>Rs.err 3
   | .bad e=> .err e
   | .ok b u=>_
  cases eg s.t size (bs.drop a) 0 []with
  |short=>rfl
  |bad e=>rfl
  |ok b u=>exact YK _ _ _ _ _
def St.add{b:Type}(a:Nat):St b->St b
 | .short=> .short
 | .bad e=> .bad e
 | .ok x u=> .ok x (a+u)
theorem YL{size:Nat}:∀(N d:Nat) (c:List Nat) (bs:List Bool) (a b:Nat),eF N size d c bs (a+b)=(eF N size d c bs b).add a
 |0,_,_,_,_,_=>rfl
 |N+1,d,c,bs,a,b=>by
  unfold eF;by_cases h:c.length=size
  ·rw[if_pos h,if_pos h];rfl
  ·rw[if_neg h,if_neg h];cases da d c bs with
   |short=>rfl
   |bad e=>rfl
   |ok x u=>obtain⟨m,l⟩:=x;show eF N size m l (bs.drop u) (a+b+u)=(eF N size m l (bs.drop u) (b+u)).add a;rw[<-YL,vo]
theorem YM{size:Nat}:∀(t:Nat) (bs:List Bool) (a b:Nat) (acc:List (List Nat)),eg t size bs (a+b) acc=(eg t size bs b acc).add a
 |0,_,_,_,_=>rfl
 |t+1,bs,a,b,acc=>by
  unfold eg;cases eF (bs.length+1) size 0 [] bs 0 with
  |short=>rfl
  |bad e=>rfl
  |ok c u=>
   by_cases h:dT (iN c)=1048576
   ·simp only[if_pos h];rw[<-YM t (bs.drop u) a (b+u),vo]
   ·simp only[if_neg h];rfl
theorem YN{size:Nat}:∀(N M c:Nat) (b:List Nat) (bs:List Bool) (a:Nat),bs.length<N->bs.length<M->eF N size c b bs a=eF M size c b bs a
 |0,_,_,_,_,_,h,_=>by omega
 |_+1,0,_,_,_,_,_,h=>by omega
 |N+1,M+1,c,b,bs,a,f,d=>by
  unfold eF;by_cases h:b.length=size
  ·rw[if_pos h,if_pos h]
  ·rw[if_neg h,if_neg h];cases e:da c b bs with
   |short=>rfl
   |bad e=>rfl
   |ok x u=>obtain⟨m,l⟩:=x;have:=Em e;exact YN N M m l (bs.drop u) (a+u) (by rw[bE];omega) (by rw[bE];omega)
theorem Ah:∀(N M:Nat) (c:Cd) (bs:List Bool) (ck:Ck) (out:List Int) (a:Nat),(c.done=false->hM c)->bs.length<N->bs.length<M->dF N c bs ck out a=dF M c bs ck out a
 |0,_,_,_,_,_,_,_,h,_=>by omega
 |_+1,0,_,_,_,_,_,_,_,h=>by omega
 |N+1,M+1,c,bs,ck,out,a,k,n,m=>by
  unfold dF;by_cases hd:c.done=true
  ·rw[if_pos hd,if_pos hd]
  ·rw[if_neg hd,if_neg hd];have b:c.done=false:=by simpa using hd
   cases e:ed c bs with
   |short=>rfl
   |bad e=>rfl
   |ok x u=>
    obtain⟨sym,i⟩:=x;obtain⟨g,_,l,j⟩:=wV (k b) e;have f:(bs.drop u).length<N:=by rw[bE];omega
    have d:(bs.drop u).length<M:=by rw[bE];omega
    show(if sym=-1 then _ else match ck out sym with
     |some e=>_
     |none=>_)=(if sym=-1 then _ else match ck out sym with
     |some e=>_
     |none=>_)
    rw[Ah N M i (bs.drop u) ck out (a+u) g f d,Ah N M i (bs.drop u) ck (out++[sym]) (a+u) g f d]
theorem YO{lns:List (List Nat)}{took:List Nat}{size:Nat}(ck:Ck):∀(N:Nat) (c:Cd) (bs:List Bool) (out:List Int) (a:Nat),hM c->c.pk.fin=true->¬c.aZ.length<c.pk.t->c.aZ=lns->c.took=took->c.size=size->c.count=out.length->bs.length<N->
 dF N c bs ck out a=fZ N lns took size bs ck out a
 |0,_,_,_,_,_,_,_,_,_,_,_,h=>by omega
 |N+1,c,bs,out,a,k,o,m,B,A,z,y,G=>by
  subst B;subst A;subst z;unfold dF fZ;rw[if_neg (by rw[k.dn];decide)]
  have r:ed c bs=match iV c bs with
   | .short=> .short
   | .bad e=> .bad e
   | .ok (s,C) u=> .ok ((s:Int),C) u:=by
   unfold ed;refine(if_neg (by rw[o];decide)).trans ((if_neg m).trans ?_);cases iV c bs with
   |short=>rfl
   |bad e=>rfl
   |ok x u=>rfl
  rw[r];unfold iV;rw[y];by_cases i:c.took.length<=out.length/50
  ·rw[if_pos i,if_pos i]
  ·rw[if_neg i,if_neg i];cases q:fI (c.aZ.getD (c.took.getD (out.length/50) 0) []) bs with
   |none=>rfl
   |some s=>
    obtain⟨j,f⟩:∃l,c.aZ.getD (c.took.getD (out.length/50) 0) []=l:=⟨_,rfl⟩;rw[f]at q⊢;obtain⟨v,t,D⟩:=pF q
    have n:c.took.getD (out.length/50) 0<c.aZ.length:=by refine Eo k o m _ ?_;rw[bz,bB jO];exact dO _
    have d:j∈c.aZ:=by rw[<-f,bz,bB n];exact dO _
    have p:=((k.wh j d).1.at v).1;obtain⟨u,b⟩:∃u,j.getD s 0=u:=⟨_,rfl⟩;rw[b]at t p
    show(if(s:Int)=-1 then _ else match ck out (s:Int)with
     |some e=>Rs.err e
     |none=>_)=match ck out (s:Int)with
     |some e=>Rs.err e
     |none=>_
    rw[if_neg jO];cases E:ck out (s:Int)with
    |some e=>rfl
    |none=>
     simp only;by_cases g:s+1=c.size
     ·rw[if_pos g,b];obtain⟨N,rfl⟩:∃M,N=M+1:=⟨N-1,jO⟩;unfold dF;rw[if_pos (decide_eq_true g)]
     ·rw[if_neg g,b];exact YO ck N _ (bs.drop u) (out++[(s:Int)]) (a+u) ⟨k.pk,k.gm,k.ol,k.nt,k.tk,k.cl,k.ln,k.ll,k.wh,k.lo,k.hi,k.wr,decide_eq_false g⟩ o m rfl rfl rfl (by rw[bG];rfl) (by rw[bE];omega)
theorem YP(ck:Ck):∀(N:Nat) (c:Cd) (bs:List Bool) (a:Nat),hM c->c.pk.fin=true->c.aZ.length<c.pk.t->bs.length<N->
 dF N c bs ck [] a=match eF N c.size c.now c.lens bs a with
  | .short=> .err 3
  | .bad e=> .err e
  | .ok ln u=>if dT (iN ln)=1048576 then dF N {c with now:=0,lens:=[],aZ:=c.aZ++[ln]} (bs.drop (u-a)) ck [] u else .err 22
 |0,_,_,_,_,_,_,h=>by omega
 |N+1,c,bs,a,k,i,j,z=>by
  have g:¬c.lens.length=c.size:=by have:=k.ll;omega
  have q:ed c bs=match stepT c bs with
   | .short=> .short
   | .bad e=> .bad e
   | .ok c' u=> .ok (-1,c') u:=by
   unfold ed;refine(if_neg (by rw[i];decide)).trans ((if_pos j).trans ?_);cases stepT c bs with
   |short=>rfl
   |bad e=>rfl
   |ok x u=>rfl
  have lhs:dF (N+1) c bs ck [] a=match stepT c bs with
   | .short=> .err 3
   | .bad e=> .err e
   | .ok c' u=>dF N c' (bs.drop u) ck [] (a+u):=by
   show(if c.done=true then _ else _)=_;rw[if_neg (by rw[k.dn];decide),q];cases stepT c bs with
   |short=>rfl
   |bad e=>rfl
   |ok x u=>rfl
  rw[lhs]
  have rhs:eF (N+1) c.size c.now c.lens bs a=match da c.now c.lens bs with
   | .short=> .short
   | .bad e=> .bad e
   | .ok (m,l) u=>eF N c.size m l (bs.drop u) (a+u):=by
   show(if c.lens.length=c.size then _ else _)=_;refine(if_neg g).trans ?_;cases da c.now c.lens bs with
   |short=>rfl
   |bad e=>rfl
   |ok x u=>rfl
  rw[rhs];have d:=fun c' u=>K8 (c':=c') (u:=u) (bs:=bs) k j i;unfold stepT at d⊢;cases e:da c.now c.lens bs with
  |short=>rfl
  |bad e=>rfl
  |ok x u=>
   obtain⟨m,l⟩:=x;have y:=Em e;rw[e]at d;have p:(bs.drop u).length<N:=by rw[bE];omega
   obtain⟨M,rfl⟩:∃M,N=M+1:=⟨N-1,jO⟩
   show(match (if l.length=c.size then _ else _:St Cd)with
    | .short=>Rs.err 3
    | .bad e=> .err e
    | .ok c' u=>dF (M+1) c' (bs.drop u) ck [] (a+u))=match eF (M+1) c.size m l (bs.drop u) (a+u)with
    | .short=> .err 3
    | .bad e=> .err e
    | .ok ln u=>if dT (iN ln)=1048576 then dF (M+1+1) {c with now:=0,lens:=[],aZ:=c.aZ++[ln]} (bs.drop (u-a)) ck [] u else .err 22
   by_cases n:l.length=c.size
   ·simp only[if_pos n]at d⊢
    have r:eF (M+1) c.size m l (bs.drop u) (a+u)= .ok l (a+u):=by show(if l.length=c.size then _ else _)=_;rw[if_pos n]
    rw[r];by_cases b:dT (iN l)=1048576
    ·simp only[if_pos b]at d⊢;rw[show a+u-a=u by omega];exact Ah _ _ _ _ _ _ _ (fun _=>(d _ _ rfl).1) p jO
    ·simp only[if_neg b]
   ·simp only[if_neg n]at d⊢;have s:=(d _ _ rfl).1;rw[YP ck (M+1) _ (bs.drop u) (a+u) s i j p];cases v:eF (M+1) c.size m l (bs.drop u) (a+u)with
    |short=>rfl
    |bad e=>rfl
    |ok ln o=>
     have ok:=El k.ln k.ll e;have f:=Ag _ _ _ _ _ _ _ ok v;show(if dT (iN ln)=1048576 then _ else _)=(if dT (iN ln)=1048576 then _ else _);by_cases b:dT (iN ln)=1048576
     ·rw[if_pos b,if_pos b,jm,show u+(o-(a+u))=o-a by omega];refine Ah _ _ _ _ _ _ _ (fun _=> ?_) (by rw[bE];omega) (by rw[bE];omega);refine⟨k.pk,k.gm,k.ol,fun e=>absurd i (by rw[show c.pk.fin=false from e];decide),k.tk,by simp;omega,⟨aO _,aO _,fun x t=>absurd t jS⟩,by have:=k.lo;show 0<c.size;omega,fun w hw=> ?_,k.lo,k.hi,k.wr,k.dn⟩;rcases List.mem_append.1 hw with hw|hw
      ·exact k.wh w hw
      ·simp only[sV]at hw;subst hw;exact⟨wP f.2.1 b,f.1⟩
     ·rw[if_neg b,if_neg b]
def Rs.add(a:Nat):Rs->Rs
 | .err e=> .err e
 | .ok o u=> .ok o (a+u)
theorem EA:∀(N:Nat) (c:Cd) (bs:List Bool) (ck:Ck) (out:List Int) (a b:Nat),dF N c bs ck out (a+b)=(dF N c bs ck out b).add a
 |0,_,_,_,_,_,_=>rfl
 |N+1,c,bs,ck,out,a,b=>by
  unfold dF;by_cases hd:c.done=true
  ·rw[if_pos hd,if_pos hd];rfl
  ·rw[if_neg hd,if_neg hd];cases ed c bs with
   |short=>rfl
   |bad e=>rfl
   |ok x u=>
    obtain⟨sym,f⟩:=x
    show(if sym=-1 then _ else match ck out sym with
     |some e=>Rs.err e
     |none=>_)=(if sym=-1 then _ else match ck out sym with
     |some e=>Rs.err e
     |none=>_:Rs).add a
    rw[vo,EA N f (bs.drop u) ck out a (b+u),EA N f (bs.drop u) ck (out++[sym]) a (b+u)];by_cases d:sym=-1
    ·rw[if_pos d,if_pos d]
    ·rw[if_neg d,if_neg d];cases ck out sym<;>rfl
theorem YQ(ck:Ck):∀(t N:Nat) (c:Cd) (bs:List Bool) (a:Nat),hM c->c.pk.fin=true->c.aZ.length+t=c.pk.t->c.now=0->c.lens=[]->c.count=0->bs.length<N->
 dF N c bs ck [] a=match eg t c.size bs a c.aZ with
  | .short=> .err 3
  | .bad e=> .err e
  | .ok lns u=>fZ N lns c.took c.size (bs.drop (u-a)) ck [] u
 |0,N,c,bs,a,k,f,p,m,n,j,g=>by show _=fZ N c.aZ c.took c.size (bs.drop (a-a)) ck [] a;rw[sX,jz];exact YO ck N c bs [] a k f jO rfl rfl rfl j g
 |t+1,N,c,bs,a,k,f,p,m,n,j,g=>by
  rw[YP ck N c bs a k f jO g,m,n,YN N (bs.length+1) 0 [] bs a g jO];have:=show eF (bs.length+1) c.size 0 [] bs a=_ from YL (size:=c.size) (bs.length+1) 0 [] bs a 0;rw[this,show eg (t+1) c.size bs a c.aZ=_ from by rw[eg]];cases e:eF (bs.length+1) c.size 0 [] bs 0 with
  |short=>rfl
  |bad e=>rfl
  |ok d u=>
   have ok:=Ag _ _ _ _ _ _ _ ⟨aO _,aO _,fun x h=>absurd h jS⟩ e
   show(if dT (iN d)=1048576 then _ else _)=match (if dT (iN d)=1048576 then _ else _:St (List (List Nat)))with
    | .short=>Rs.err 3
    | .bad e=> .err e
    | .ok lns u=>fZ N lns c.took c.size (bs.drop (u-a)) ck [] u
   by_cases i:dT (iN d)=1048576
   ·simp only[if_pos i]
    have l:hM {c with now:=0,lens:=[],aZ:=c.aZ++[d]}:=by
     refine⟨k.pk,k.gm,k.ol,fun e=>absurd f (by rw[show c.pk.fin=false from e];decide),k.tk,by simp;omega,⟨aO _,aO _,fun x h=>absurd h jS⟩,by have:=k.lo;show 0<c.size;omega,fun w hw=> ?_,k.lo,k.hi,k.wr,k.dn⟩;rcases List.mem_append.1 hw with hw|hw
     ·exact k.wh w hw
     ·simp only[sV]at hw;subst hw;exact⟨wP ok.2.1 i,ok.1⟩
    have o:=YQ ck t N {c with now:=0,lens:=[],aZ:=c.aZ++[d]} (bs.drop u) (a+u) l f (by rw[bG];simp only[cP,iP];omega) rfl rfl j (by rw[bE];omega);rw[show a+u-a=u by omega,o];cases q:eg t c.size (bs.drop u) (a+u) (c.aZ++[d])with
    |short=>rfl
    |bad e=>rfl
    |ok lns b=>have:=uR _ _ _ _ _ _ (fun w hw=>l.wh w hw) q;show fZ N lns c.took c.size ((bs.drop u).drop (b-(a+u))) ck [] b=fZ N lns c.took c.size (bs.drop (b-a)) ck [] b;rw[jm,show u+(b-(a+u))=b-a by omega]
   ·simp only[if_neg i]
theorem EB{s a:Pk}{bs:List Bool}{u:Nat}(d:s.t<=6)(b:s.ord.length=6)(c:s.count<32768)(h1:c8 s bs= .ok a u):a.t<=6∧a.ord.length=6∧a.count<32768:=by
 unfold c8 at h1;split at h1
 ·split at h1
  ·cases h1
  ·split at h1
   ·next Li=>simp only[St.ok.injEq]at h1;obtain⟨rfl,_⟩:=h1;exact⟨Li.1.2,b,jF _ jD⟩
   ·cases h1
 ·split at h1
  ·cases h1
  ·cases h1
  ·next o f e=>simp only[St.ok.injEq]at h1;obtain⟨rfl,_⟩:=h1;have:=(Ae e).2;exact⟨d,wS (dv:=0) b jO,c⟩
theorem Lj:∀(N:Nat) (s:Pk) (bs:List Bool) (a:Nat) (b:Pk) (c:Nat),s.t<=6->s.ord.length=6->s.count<32768->dE N s bs a= .ok b c->b.ord.length=6
 |0,s,bs,a,b,c,_,_,_,h=>by simp[dE]at h
 |N+1,s,bs,a,b,c,j,d,i,h=>by
  unfold dE at h;split at h
  ·simp only[St.ok.injEq]at h;obtain⟨rfl,rfl⟩:=h;exact d
  ·split at h
   ·cases h
   ·cases h
   ·next s1 u k=>obtain⟨g,f,e⟩:=EB j d i k;exact Lj N s1 (bs.drop u) (a+u) b c g f e h
theorem YR(ck:Ck):∀(N:Nat) (c:Cd) (bs:List Bool) (a:Nat),hM c->c.pk.count<32768->bs.length<N->
 dF N c bs ck [] a=match dE N c.pk bs a with
  | .short=> .err 3
  | .bad e=> .err e
  | .ok s u=>dF N {c with pk:=s,took:=s.bw} (bs.drop (u-a)) ck [] u
 |0,_,_,_,_,_,h=>by omega
 |N+1,c,bs,a,k,f,D=>by
  cases i:c.pk.fin with
  |true=>
   have:dE (N+1) c.pk bs a= .ok c.pk a:=by show(if c.pk.fin=true then _ else _)=_;rw[if_pos i]
   rw[this];show _=dF (N+1) {c with pk:=c.pk,took:=c.pk.bw} (bs.drop (a-a)) ck [] a;rw[sX,jz,<-k.tk i]
  |false=>
   have lhs:dF (N+1) c bs ck [] a=match c8 c.pk bs with
    | .short=> .err 3
    | .bad e=> .err e
    | .ok s u=>dF N (kW c s) (bs.drop u) ck [] (a+u):=by
    show(if c.done=true then _ else _)=_;rw[if_neg (by rw[k.dn];decide)];unfold ed;rw[if_pos i];cases c8 c.pk bs with
    |short=>rfl
    |bad e=>rfl
    |ok x u=>rfl
   have rhs:dE (N+1) c.pk bs a=match c8 c.pk bs with
    | .short=> .short
    | .bad e=> .bad e
    | .ok n u=>dE N n (bs.drop u) (a+u):=by
    show(if c.pk.fin=true then _ else _)=_;refine(if_neg (by rw[i];decide)).trans ?_;cases c8 c.pk bs<;>rfl
   rw[lhs,rhs];cases e:c8 c.pk bs with
   |short=>rfl
   |bad e=>rfl
   |ok s u=>
    have m:ed c bs= .ok (-1,kW c s) u:=by unfold ed;rw[if_pos i,e]
    obtain⟨v,_,C,B⟩:=wV k m;have g:hM (kW c s):=v k.dn;have t:(bs.drop u).length<N:=by rw[bE];omega
    show dF N (kW c s) (bs.drop u) ck [] (a+u)=match dE N s (bs.drop u) (a+u)with
     | .short=> .err 3
     | .bad e=> .err e
     | .ok s u=>dF (N+1) {c with pk:=s,took:=s.bw} (bs.drop (u-a)) ck [] u
    rw[YR ck N (kW c s) (bs.drop u) (a+u) g (EB k.gm k.ol f e).2.2 t]
    show(match dE N s (bs.drop u) (a+u)with
     | .short=>Rs.err 3
     | .bad e=> .err e
     | .ok d b=>dF N {(kW c s)with pk:=d,took:=d.bw} ((bs.drop u).drop (b-(a+u))) ck [] b)=_
    cases l:dE N s (bs.drop u) (a+u)with
    |short=>rfl
    |bad e=>rfl
    |ok d b=>obtain⟨r,A⟩:=k.nt i;obtain⟨q,p,o,_,z,y⟩:=sA _ _ _ _ _ _ g.pk g.gm g.ol (EB k.gm k.ol f e).2.2 l;have j:=Lj _ _ _ _ _ _ g.gm g.ol (EB k.gm k.ol f e).2.2 l;show dF N {c with pk:=d,took:=d.bw} ((bs.drop u).drop (b-(a+u))) ck [] b=dF (N+1) {c with pk:=d,took:=d.bw} (bs.drop (b-a)) ck [] b;rw[jm,show u+(b-(a+u))=b-a by omega];refine Ah _ _ _ _ _ _ _ (fun _=>⟨q,p,j,fun e=>absurd o (by rw[show d.fin=false from e];decide),fun _=>rfl, ?_,k.ln,k.ll,k.wh,k.lo,k.hi,k.wr,k.dn⟩) (by rw[bE];omega) (by rw[bE];omega);show c.aZ.length<=d.t;rw[r];exact aO _
theorem ai5{size:Nat}(h:3<=size)(c:size<=258)(ck:Ck)(bs:List Bool):dF (bs.length+1) (m4 size) bs ck [] 0=iF size bs ck:=by
 unfold iF;rw[YR ck (bs.length+1) (m4 size) bs 0 (Er h c) (by decide:0<32768) (Nat.lt_succ_self _)]
 show(match dE (bs.length+1) fV bs 0 with
  | .short=>Rs.err 3
  | .bad e=> .err e
  | .ok s u=>dF (bs.length+1) {(m4 size)with pk:=s,took:=s.bw} (bs.drop (u-0)) ck [] u)=_
 cases e:dE (bs.length+1) fV bs 0 with
 |short=>rfl
 |bad e=>rfl
 |ok s a=>
  obtain⟨l,j,g,m,o,n⟩:=sA _ _ _ _ _ _ sB (aO _) rfl jD e;have f:=Lj _ _ _ _ _ _ (aO _) rfl jD e;have d:=Er h c;have k:hM {(m4 size)with pk:=s,took:=s.bw}:=⟨l,j,f,fun e=>absurd g (by rw[show s.fin=false from e];decide),fun _=>rfl,aO _,d.ln,d.ll,d.wh,d.lo,d.hi,d.wr,d.dn⟩;have i:(bs.drop a).length<bs.length+1:=by rw[bE];omega
  show dF (bs.length+1) {(m4 size)with pk:=s,took:=s.bw} (bs.drop (a-0)) ck [] a=match eg s.t size (bs.drop a) 0 []with
   | .short=> .err 3
   | .bad e=> .err e
   | .ok b u=>fZ (bs.length+1) b s.bw size (bs.drop (a+u)) ck [] (a+u)
  rw[Nat.sub_zero,YQ ck s.t (bs.length+1) _ (bs.drop a) a k g (by show 0+s.t=s.t;omega) rfl rfl rfl i];have:=show eg s.t size (bs.drop a) a []=_ from YM s.t (bs.drop a) a 0 []
  show(match eg s.t size (bs.drop a) a []with
   | .short=>Rs.err 3
   | .bad e=> .err e
   | .ok b u=>fZ (bs.length+1) b s.bw size ((bs.drop a).drop (u-a)) ck [] u)=_
  rw[this];cases p:eg s.t size (bs.drop a) 0 []with
  |short=>rfl
  |bad e=>rfl
  |ok b u=>show fZ (bs.length+1) b s.bw size ((bs.drop a).drop (a+u-a)) ck [] (a+u)=fZ (bs.length+1) b s.bw size (bs.drop (a+u)) ck [] (a+u);rw[jm,show a+(a+u-a)=a+u by omega]
section
variable {Y d n z p:Nat} {h:H} {c:Cd} {m:Cm}
end
theorem YS(t:List Bool):∀(r o:Nat) (bs:List Bool),fz r o bs≠ .short->fz r o (bs++t)=fz r o bs
 |0,_,_,_=>by simp only[fz]
 |_+1,_,[],h=>absurd (by simp only[fz]) h
 |_+1,o,false::_,_=>by simp only[aoD,fz]
 |r+1,o,true::bs,h=>by simp only[aoD,fz]at h⊢;exact YS t r (o+1) bs h
theorem ai6{s:Pk}{bs:List Bool}(t:List Bool)(h:c8 s bs≠ .short):c8 s (bs++t)=c8 s bs:=by
 unfold c8 at h⊢;by_cases a:s.count=0
 ·rw[if_pos a]at h⊢;rw[if_pos a];by_cases b:bs.length<18
  ·rw[if_pos b]at h;exact absurd rfl h
  ·rw[if_neg b,if_neg (by rw[bG];omega),FJ jO]
 ·rw[if_neg a]at h;rw[if_neg a,if_neg a,YS t _ _ _ fun e=>h (by rw[e])]
theorem ai7{c:Nat}{a:List Nat}{bs:List Bool}(t:List Bool)(h:da c a bs≠ .short):da c a (bs++t)=da c a bs:=by
 unfold da at h⊢;by_cases d:c=0
 ·rw[if_pos d]at h⊢;rw[if_pos d];by_cases e:bs.length<5
  ·rw[if_pos e]at h;exact absurd rfl h
  ·rw[if_neg e,if_neg (by rw[bG];omega),FJ jO]
 ·rw[if_neg d]at h;rw[if_neg d,if_neg d]
  match bs,h with
  |[],h=>exact absurd rfl h
  |false::_,_=>rfl
  |[true],h=>exact absurd rfl h
  |true::b::_,_=>rfl
theorem ai8{c:Cd}{bs:List Bool}(t:List Bool)(h:stepT c bs≠ .short):stepT c (bs++t)=stepT c bs:=by unfold stepT at h⊢;rw[ai7 t fun e=>h (by rw[e])]
theorem ai9{ln:List Nat}{bs:List Bool}(t:List Bool){s:Nat}(h:fI ln bs=some s):fI ln (bs++t)=some s:=by obtain⟨c,b,a⟩:=pF h;exact D9 ⟨c,by rw[bG];omega,by rw[FJ b];exact a⟩
theorem ai'{c:Cd}{bs:List Bool}(t:List Bool)(h:iV c bs≠ .short):iV c (bs++t)=iV c bs:=by
 unfold iV at h⊢;split
 ·rfl
 ·next h1=>
  rw[if_neg h1]at h;cases e:fI (c.aZ.getD (c.took.getD (c.count/50) 0) []) bs with
  |none=>rw[e]at h;exact absurd rfl h
  |some s=>rw[ai9 t e]
theorem ai_{c:Cd}{bs:List Bool}(t:List Bool)(h:ed c bs≠ .short):ed c (bs++t)=ed c bs:=by
 unfold ed at h⊢;split
 ·next h1=>rw[if_pos h1]at h;rw[ai6 t fun e=>h (by rw[e])]
 ·next h1=>
  rw[if_neg h1]at h;split
  ·next h2=>rw[if_pos h2]at h;rw[ai8 t fun e=>h (by rw[e])]
  ·next h2=>rw[if_neg h2]at h;rw[ai' t fun e=>h (by rw[e])]
theorem xb{c c':Cd}{bs:List Bool}{sym:Int}{u:Nat}(k:hM c)(h:ed c bs= .ok (sym,c') u):
 (c.pk.fin=false∧sym=-1∧∃s,c8 c.pk bs= .ok s u∧c'=kW c s)∨(c.pk.fin=true∧sym=-1∧c'.pk=c.pk∧c'.count=c.count∧c'.size=c.size∧c'.done=false)∨
 (c.pk.fin=true∧0<=sym∧c'.pk=c.pk∧c'.aZ=c.aZ∧c'.count=c.count+1∧c'.size=c.size∧¬c.aZ.length<c.pk.t):=by
 unfold ed at h;split at h
 ·next h1=>
  cases e:c8 c.pk bs with
  |short=>rw[e]at h;cases h
  |bad x=>rw[e]at h;cases h
  |ok s w=>rw[e]at h;simp only[St.ok.injEq,lr]at h;obtain⟨⟨rfl,rfl⟩,rfl⟩:=h;exact .inl ⟨h1,rfl,s,rfl,rfl⟩
 ·next h1=>
  have fin:c.pk.fin=true:=by simpa using h1
  split at h
  ·next ht=>
   cases e:stepT c bs with
   |short=>rw[e]at h;cases h
   |bad x=>rw[e]at h;cases h
   |ok b w=>
    rw[e]at h;simp only[St.ok.injEq,lr]at h;obtain⟨⟨rfl,rfl⟩,rfl⟩:=h;have d:=(K8 k ht fin e).1;unfold stepT at e;split at e
    ·cases e
    ·cases e
    ·split at e
     ·split at e
      ·simp only[St.ok.injEq]at e;obtain⟨rfl,_⟩:=e;exact .inr (.inl ⟨fin,rfl,rfl,rfl,rfl,k.dn⟩)
      ·cases e
     ·simp only[St.ok.injEq]at e;obtain⟨rfl,_⟩:=e;exact .inr (.inl ⟨fin,rfl,rfl,rfl,rfl,k.dn⟩)
  ·next ht=>
   cases e:iV c bs with
   |short=>rw[e]at h;cases h
   |bad x=>rw[e]at h;cases h
   |ok a w=>
    obtain⟨s,b⟩:=a;rw[e]at h;simp only[St.ok.injEq,lr]at h;obtain⟨⟨rfl,rfl⟩,rfl⟩:=h;unfold iV at e;split at e
    ·cases e
    ·split at e
     ·cases e
     ·simp only[St.ok.injEq,lr]at e;obtain⟨⟨rfl,rfl⟩,_⟩:=e;exact .inr (.inr ⟨fin,Int.natCast_nonneg _,rfl,rfl,rfl,rfl,ht⟩)
end Go.Proofs.YtmjolmggelkjlaaGreat
