import Derived.Test.YtcehhgppfahbkaaGreatDoorMac
import Derived.ProofKit
import Derived.OpenShut
open Nat renaming le_refl→ai, zero_add→fy, add_zero→gX, mul_le_mul_right→zv, succ_mul→OB
open List renaming getElem?_eq_getElem→aJ, replicate→bD, mem_cons_of_mem→fF, mem_cons_self→j6, all_eq_true→mu, getElem?_eq_none_iff→aqv
open Int renaming toNat_natCast→eg, toNat_zero→aqA
open Bool renaming not_true→gE, not_false→gO, false_eq_true→nD, true_and→oA, false_and→zx, and_false→Hs, and_true→aqe, true_eq_false→aqB
open Go.DataW renaming trod→OA, trod_int→aqr, trod_string→aqs, trod_bool→aqt, trod_slice→aqu
open Go.Addr renaming add→apL
open Go.Lit renaming int→aqo
open Go.Value renaming okWide→aqz
set_option linter.unusedVariables false
set_option linter.unusedSimpArgs false
namespace Go.Proofs.YtcehhgppfahbkaaGreatDoor.Ev
open Go Go.RowKit Go.WideShapes Go.ChangeShapes
def ez{d c:Type}(R:d->c->Prop):List d->List c->Prop
 |[],[]=>True
 |a::l,b::m=>R a b∧ez R l m
 |_,_=>False
theorem ez.length{b a:Type}{R:b->a->Prop}:∀{l:List b} {m:List a},ez R l m->l.length=m.length
 |[],[],_=>rfl
 |_::_,_::_,h=>by simp[ez.length h.2]
 |[],_::_,h=>h.elim
 |_::_,[],h=>h.elim
theorem ez.imp{d c:Type}{R S:d->c->Prop}:∀{l:List d} {m:List c},(∀a∈l,∀b,R a b->S a b)->ez R l m->ez S l m
 |[],[],_,_=>trivial
 |a::_,_::_,h,x=>⟨h a (j6 ..) _ x.1,ez.imp (fun a e=>h a (fF _ e)) x.2⟩
 |[],_::_,_,x=>x.elim
 |_::_,[],_,x=>x.elim
theorem ez.append{b a:Type}{R:b->a->Prop}:∀{l c:List b} {m m':List a},ez R l m->ez R c m'->ez R (l++c) (m++m')
 |[],_,[],_,_,h=>h
 |_::_,_,_::_,_,x,h=>⟨x.1,ez.append x.2 h⟩
 |[],_,_::_,_,x,_=>x.elim
 |_::_,_,[],_,x,_=>x.elim
def vi(g:TypeId->Option (List TypeId)):Nat->List Field->Option (List TypeId)
 |_,[]=>some []
 |o,b::r=>if b.offset=o then(match g b.type with
  |some a=>match vi g (o+a.length) r with
   |some c=>some (a++c)
   |none=>none
  |none=>none)else none
def kL(P:Program):Nat->TypeId->Option (List TypeId)
 |0,_=>none
 |f+1,t=>match P.underlying t with
  |some (.int _)|some .string|some .bool|some (.slice _)=>if P.cellsOf t=1 then some [t]else none
  |some (.struct b)=>match vi (kL P f) 0 b.toList with
   |some a=>if a.length=P.cellsOf t then some a else none
   |none=>none
  |some (.array n e)=>match kL P f e with
   |some a=>if n*a.length=P.cellsOf t∧a.length=P.cellsOf e then some (bD n a).flatten else none
   |none=>none
  |_=>none
theorem Rr{g:TypeId->Option (List TypeId)}{o:Nat}{c:Field}{r:List Field}{ts:List TypeId}(h:vi g o (c::r)=some ts):c.offset=o∧∃a b,g c.type=some a∧vi g (o+a.length) r=some b∧ts=a++b:=by
 unfold vi at h;split at h
 ·rename_i f;split at h
  ·rename_i a e;split at h
   ·rename_i b d;cases h;exact⟨f,a,b,e,d,rfl⟩
   ·cases h
  ·cases h
 ·cases h
def vj(P:Program)(w:World):Nat->TypeId->Value->Prop
 |0,_,_=>False
 |f+1,t,v=>match P.underlying t with
  |some (.int k)=>∃n,v= .int k n∧(aqo k n).wf=true
  |some .string=>∃s:ByteArray,v= .string s∧s.size<=maxLen
  |some .bool=>∃b,v= .bool b
  |some (.slice e)=>v= .slice none 0 0∨∃a len cap c,v= .slice (some a) len cap∧len<=cap∧cap<=maxLen∧kL P 8 e=some c∧0<c.length∧size? P e=some c.length∧
    ∀i,i<cap->∃d:List Value,(∀j u,d[j]? =some u->w.cell? (a.add (i*c.length+j))=some u)∧ez (vj P w f) c d
  |_=>False
def DR(P:Program):Nat->TypeId->Bool
 |0,_=>false
 |f+1,t=>match P.underlying t with
  |some (.int _)|some .string|some .bool=>true
  |some (.slice e)=>match kL P 8 e with
   |some a=>decide (0<a.length)&&decide (size? P e=some a.length)&&a.all (DR P f)
   |none=>false
  |_=>false
theorem af8{w:World}{b:Nat}{a:Addr}{n:Nat}{c:List Value}(h:w.cells? b a n=some c):c.length=n∧∀j u,c[j]? =some u->w.cell? (a.add j)=some u:=by
 unfold World.cells? at h;split at h
 ·have d:=mapM_some_length h;simp only[List.length_range]at d;refine⟨d,fun j u e=> ?_⟩;have f:=(List.getElem?_eq_some_iff.1 e).1;have:=mapM_some_get h j j (by rw[List.getElem?_range jO]);rw[this];exact e
 ·cases h
theorem add_add(a:Addr)(i j:Nat):(a.add i).add j=a.add (i+j):=by
 unfold apL;by_cases b:j=0
 ·subst b;simp
 ·by_cases c:i=0
  ·subst c;simp
  ·have:¬(i+j=0):=jO;simp only[c,b,this,if_false];congr 1;omega
section
variable {H0:Type} {enc:TypeId×Value->H0} {P:Program} {w:World} {held:Bool}
theorem Rt{g:TypeId->Option (List TypeId)}{R:TypeId->Value->Prop}{cs:List Value}:∀(k:List Field) (o:Nat) (ts:List TypeId),vi g o k=some ts->cs.length=o+ts.length->
 (∀fd∈k,∀a,g fd.type=some a->a.length=P.cellsOf fd.type∧ez R a ((cs.drop fd.offset).take (P.cellsOf fd.type)))->ez R ts (cs.drop o)
 |[],o,ts,h,c,_=>by cases h;rw[List.drop_eq_nil_of_le (by simp at c;omega)];trivial
 |fd::r,o,ts,h,c,i=>by
  obtain⟨n,a,b,m,l,rfl⟩:=Rr h;obtain⟨f,j⟩:=i fd (j6 ..) a m;have:=Rt r (o+a.length) b l (by simp at c;omega) fun fd d=>i fd (fF _ d);rw[n,<-f]at j;have e:cs.drop o=(cs.drop o).take a.length++cs.drop (o+a.length):=by rw[<-List.drop_drop,List.take_append_drop]
  rw[e];exact j.append this
theorem Ru{R:TypeId->Value->Prop}:∀(f:Nat) (t:TypeId) (cs:List Value) (ts:List TypeId) (m:Nat) (x:DataW H0×List MemPlace),kL P f t=some ts->
 (∀p∈ts,∀v m x,OA enc P w 0 (fun _=>true) held m p [v]=some x->R p v)->OA enc P w 0 (fun _=>true) held m t cs=some x->ts.length=P.cellsOf t∧ez R ts cs:=by
 intro f
 induction f with
 |zero=>intro t cs ts m x h;cases h
 |succ f Z=>
  intro t cs ts m x h T B;unfold kL at h
  have one:∀v,cs=[v]->(if P.cellsOf t=1 then some [t]else none)=some ts->ts.length=P.cellsOf t∧ez R ts cs:=by
   intro v hv C;subst hv;by_cases O:P.cellsOf t=1
   ·rw[if_pos O]at C;cases C;exact⟨O.symm,T t (j6 ..) v m x B,trivial⟩
   ·rw[if_neg O]at C;cases C
  split at h
  ·rename_i k u;obtain⟨n,rfl,_⟩:=aqr u B;exact one _ rfl h
  ·rename_i u;obtain⟨n,rfl,_⟩:=aqs u B;exact one _ rfl h
  ·rename_i u;obtain⟨n,rfl,_⟩:=aqt u B;exact one _ rfl h
  ·rename_i e u;rcases aqu u B with ⟨rfl,_⟩|⟨a,len,cap,X,Y,n,_,rfl,_⟩
   ·exact one _ rfl h
   ·exact one _ rfl h
  ·rename_i W u;split at h
   ·rename_i b A;split at h
    ·rename_i c;cases h;obtain⟨F,n,rfl,_,N,_,z⟩:=DataW.trod_struct u B;refine⟨c, ?_⟩;have:=Rt (P:=P) (R:=R) (cs:=cs) W.toList 0 ts A jO fun G E a ha=> ?_
     ·simpa using this
     ·obtain⟨i,hi⟩:=List.mem_iff_getElem?.1 E;have D:W[i]? =some G:=by simpa using hi
      have j:=z i G D;cases d:F[i]? with
      |none=>exact absurd j (by
        rw[d];have:=(Array.getElem?_eq_some_iff.1 D).1;have U:F[i]? =none:=d;rw[aqv]at U
        omega)
      |some y=>
       rw[d]at j
       exact Z G.type _ a n y ha (fun p s=>T p (by
        have:∀(l:List Field) (o:Nat) (ts:List TypeId),vi (kL P f) o l=some ts->G∈l->∀q∈a,q∈ts:=by
         intro l
         induction l with
         |nil=>intro o ts _ hm;simp at hm
         |cons g r L=>
          intro o ts hh hm q C;obtain⟨_,a2,b2,I,e2,rfl⟩:=Rr hh;rcases List.mem_cons.1 hm with rfl|hm
          ·rw[ha]at I;cases I;exact List.mem_append.2 (.inl C)
          ·exact List.mem_append.2 (.inr (L _ _ e2 hm q C))
        exact this W.toList 0 ts A E p s)) j
    ·cases h
   ·cases h
  ·rename_i n e u;split at h
   ·rename_i b A;split at h
    ·rename_i c;obtain⟨c,u1⟩:=c;obtain⟨F,m',rfl,_,N,u0,z⟩:=DataW.trod_array u B
     have Q:n=0∨∀p∈b,p∈ts:=by
      rcases Nat.eq_zero_or_pos n with q|q
      ·exact .inl q
      ·refine .inr fun p s=> ?_;cases h;rw[List.mem_flatten];exact⟨b,List.mem_replicate.2 ⟨jO,rfl⟩,s⟩
     have J:∀k,k<=n->ez R (bD k b).flatten (cs.take (k*b.length)):=by
      intro k
      induction k with
      |zero=>intro _;simp[ez]
      |succ k K=>
       intro u2;have h1:=K jO;have j:=z k jO;cases d:F[k]? with
       |none=>rw[aqv]at d;omega
       |some y=>
        rw[d]at j
        obtain⟨U,h4⟩:=Z e _ b m' y A (fun p s=>T p (by
         rcases Q with q|q
         ·omega
         ·exact q p s)) j
        rw[<-U]at h4;rw[List.replicate_succ',List.flatten_append,List.flatten_singleton]
        have I:cs.take ((k+1)*b.length)=cs.take (k*b.length)++(cs.drop (k*b.length)).take b.length:=by rw[OB,List.take_add]
        rw[I];exact h1.append h4
     cases h;refine⟨?_, ?_⟩
     ·rw[<-c];simp
     ·have:=J n (ai n);rwa[List.take_of_length_le jO]at this
    ·cases h
   ·cases h
  ·cases h
theorem af9{f:Nat}:∀(t:TypeId) (v:Value) (m:Nat) (x:DataW H0×List MemPlace),DR P f t=true->OA enc P w 0 (fun _=>true) held m t [v]=some x->vj P w f t v:=by
 induction f with
 |zero=>intro t v m x h;cases h
 |succ f N=>
  intro t v m x h l;unfold DR at h;unfold vj;split at h
  ·rename_i k d;obtain⟨n,e,_,z⟩:=aqr d l;simp at e;exact⟨n,e,z⟩
  ·rename_i d;obtain⟨s,e,_,z⟩:=aqs d l;simp at e;exact⟨s,e,z⟩
  ·rename_i d;obtain⟨b,e,_⟩:=aqt d l;simp at e;exact⟨b,e⟩
  ·rename_i e d;split at h
   ·rename_i r p;simp only[Bool.and_eq_true,decide_eq_true_eq,mu]at h;obtain⟨⟨W,F⟩,U⟩:=h
    have T:P.cellsOf e=r.length:=by unfold size? at F;unfold Program.cellsOf;rw[F];rfl
    rcases aqu d l with ⟨o,_⟩|⟨a,len,cap,G,J,n,_,o,_,_,Q,O,K,E,B,_⟩
    ·simp at o;exact .inl o
    ·simp at o;obtain⟨X,c⟩:=B rfl;refine .inr ⟨a,len,cap,r,o,Q,O,p,W,F,fun i Y=> ?_⟩
     have get:∃y,(w.cells? 0 (a.add (i*P.cellsOf e)) (P.cellsOf e)).bind (OA enc P w 0 (fun _=>true) held n e)=some y:=by
      by_cases C:i<len
      ·rw[E i C];exact⟨_,aJ jO⟩
      ·have:=c (i-len) jO;rw[show len+(i-len)=i by omega]at this;rw[this];exact⟨_,aJ jO⟩
     obtain⟨y,q⟩:=get;rw[Option.bind_eq_some_iff]at q;obtain⟨L,D,q⟩:=q;obtain⟨_,g⟩:=af8 D;refine⟨L,fun j u R=> ?_,(Ru 8 e L r n y p (fun I A v m x l=>N I v m x (U I A) l) q).2⟩;have:=g j u R;rwa[add_add,T]at this
   ·cases h
  ·cases h
end
def eV(P:Program)(h:H)(n:Nat):Nat->TypeId->Value->Prop
 |0,_,_=>False
 |f+1,t,v=>match P.underlying t with
  |some (.int k)=>∃n,v= .int k n∧(aqo k n).wf=true
  |some .string=>∃s:ByteArray,v= .string s∧s.size<=maxLen
  |some .bool=>∃b,v= .bool b
  |some (.slice e)=>(∃a,v= .slice a 0 0∧∀b o,a≠some ⟨b,o,none⟩)∨∃b len c d,v= .slice (some ⟨b,0,none⟩) len (aU+len)∧kL P 8 e=some c∧0<c.length∧h.get b=some ⟨e,false,d⟩∧b<n∧d.length=len*c.length∧len<=maxLen∧
    ∀i,i<len->ez (eV P h n f) c ((d.drop (i*c.length)).take c.length)
  |_=>False
theorem eV.ay{P:Program}{h h':H}{n n':Nat}(u:n<=n')(l:∀b,b<n->h'.get b=h.get b):∀{f:Nat} {t:TypeId} {v:Value},eV P h n f t v->eV P h' n' f t v:=by
 intro f
 induction f with
 |zero=>intro t v x;exact x
 |succ f d=>
  intro t v x;unfold eV at x⊢;split at x
  ·exact x
  ·exact x
  ·exact x
  ·rcases x with q|⟨b,len,c,s,e,g,r,o,p,k,j,a⟩
   ·exact .inl q
   ·exact .inr ⟨b,len,c,s,e,g,r,(l b p).trans o,jO,k,j,fun i m=>(a i m).imp fun _ _ _ q=>d q⟩
  ·exact x
theorem af' {P:Program} {w:World} {m:Mp} {h:H} {n:Nat} (x:Laid P w m h n) {b off len cap:Nat} {cs:Array Value} {D:TypeId} {B:Nat×Nat} (U:w.heap[b]? =some (.cells cs D B)) {e:TypeId} {sz:Nat} (W:size? P e=some sz) {vs o:List Value} (Q:bo m vs o)
 (A:∀i v,o[i]? =some v->cs[off+i]? =some v) (J:vs.length=len*sz) (K:len<=cap) (L:off+cap*sz<=cs.size):
 ∃m',Laid P w m' (h.set n (some ⟨e,false,vs⟩)) (n+1)∧VR m' (.slice (some ⟨n,0,none⟩) len (aU+len)) (.slice (some ⟨b,off,none⟩) len cap)∧Le m m':=by
 let m':Mp:=fun c=>if c=n then some ⟨b,off,cs.size,sz,D⟩else m c
 have g:Le m m':=fun c d hd=>by
  by_cases j:c=n
  ·subst j;rw[x.fresh c (ai c)]at hd;cases hd
  ·show(if c=n then _ else _)=_;rw[if_neg j];exact hd
 let N:H:=h.set n (some ⟨e,false,vs⟩);have G:m' n=some ⟨b,off,cs.size,sz,D⟩:=if_pos rfl;have p:N.get n=some ⟨e,false,vs⟩:=get_eq _ _ _;have I:len*sz<=cap*sz:=zv _ K
 have f:∀c C,N.get c=some C->C.own=false:=fun c C a=>by
  by_cases j:c=n
  ·subst j;rw[p]at a;cases a;rfl
  ·rw[aB _ _ j]at a;exact x.own c C a
 refine⟨m',⟨⟨?_, ?_⟩,x.gl.mono g,fun c L=> ?_,f,by have:=x.Zs;omega⟩,.fR G (fun _=>rfl) (fun q=>by unfold aU at q;omega) (fun _=>⟨ai _,jO⟩) K L,g⟩
 ·intro c C a;by_cases j:c=n
  ·subst j;rw[p]at a;cases a;refine⟨_,cs,B.1,B.2,G,U,rfl,by show off+vs.length<=cs.size;omega,W,fun q=>(by cases q),fun k u t=> ?_⟩;obtain⟨s,l,y⟩:=Q.get k u t;exact⟨s,A k s l,y.mono g⟩
  ·rw[aB _ _ j]at a;obtain⟨d,E,O,T,R,z,h1,h2,Z,Y,X⟩:=x.wr.live c C a;refine⟨d,E,O,T,g _ _ R,z,h1,h2,Z,Y,fun k u t=> ?_⟩;obtain⟨s,l,y⟩:=X k u t;exact⟨s,l,y.mono g⟩
 ·intro c c' C C' d d' a r F;rw[f c C a,f c' C' r]at F;simp at F
 ·show(if c=n then _ else _)=none;rw[if_neg jO];exact x.fresh c jO
def DS(P:Program)(w:World)(R:TypeId->Value->Prop)(S:H->Nat->TypeId->Value->Prop):Prop:=∀t v,R t v->∀m h n,Laid P w m h n->∃c d a e,Laid P w c d a∧VR c e v∧S d a t e∧Le m c∧n<=a∧∀b,b<n->d.get b=h.get b
theorem bo.af_{m m':Mp}(b:Le m m'){l a:List Value}(h:bo m l a):bo m' l a:=bo.mono b h
theorem DT{P:Program}{w:World}{R:TypeId->Value->Prop}{S:H->Nat->TypeId->Value->Prop}(j:∀(h h':H) (n n':Nat),n<=n'->(∀b,b<n->h'.get b=h.get b)->∀t v,S h n t v->S h' n' t v)(f:DS P w R S):
 ∀(ts:List TypeId) (vs:List Value),ez R ts vs->∀m h n,Laid P w m h n->∃m' h' n' a,Laid P w m' h' n'∧bo m' a vs∧ez (S h' n') ts a∧Le m m'∧n<=n'∧∀b,b<n->h'.get b=h.get b
 |[],[],_,m,h,n,x=>⟨m,h,n,[],x,.nil,trivial,Le.refl _,ai _,fun _ _=>rfl⟩
 |t::ts,v::vs,c,m,h,n,x=>by obtain⟨s,D,q,o,l,z,A,u,F,y⟩:=f t v c.1 m h n x;obtain⟨r,C,p,a,k,d,e,g,E,i⟩:=DT j f ts vs c.2 s D q l;exact⟨r,C,p,o::a,k,.cons (z.mono g) d,⟨j _ _ _ _ E i _ _ A,e⟩,u.trans g,jO,fun b B=>(i b jO).trans (y b B)⟩
 |[],_::_,c,_,_,_,_=>c.elim
 |_::_,[],c,_,_,_,_=>c.elim
theorem aga{a:Type}{l r:List a}{k c:Nat}(h:k+c<=l.length):((l++r).drop k).take c=(l.drop k).take c:=by rw[List.drop_append_of_le_length jO,List.take_append_of_le_length (by simp;omega)]
theorem agb{P:Program}{w:World}{R:TypeId->Value->Prop}{S:H->Nat->TypeId->Value->Prop}(G:∀(h h':H) (n n':Nat),n<=n'->(∀b,b<n->h'.get b=h.get b)->∀t v,S h n t v->S h' n' t v)(K:DS P w R S){ts:List TypeId}{a:Addr}:
 ∀(len:Nat),(∀i,i<len->∃e:List Value,(∀j u,e[j]? =some u->w.cell? (a.add (i*ts.length+j))=some u)∧ez R ts e)->∀m h n,Laid P w m h n->
  ∃m' h' n' c vs,Laid P w m' h' n'∧bo m' c vs∧vs.length=len*ts.length∧(∀i u,vs[i]? =some u->w.cell? (a.add i)=some u)∧(∀i,i<len->ez (S h' n') ts ((c.drop (i*ts.length)).take ts.length))∧Le m m'∧n<=n'∧∀b,b<n->h'.get b=h.get b:=by
 intro len
 induction len with
 |zero=>intro _ m h n x;exact⟨m,h,n,[],[],x,.nil,jS,fun i u d=>by simp at d,fun i y=>by omega,Le.refl _,ai _,fun _ _=>rfl⟩
 |succ len W=>
  intro p m h n x;obtain⟨Q,h1,N,c,vs,J,E,F,Y,X,T,g1,U⟩:=W (fun i y=>p i jO) m h n x;obtain⟨e,B,r⟩:=p len jO;obtain⟨O,h2,L,s,I,z,f,C,g2,D⟩:=DT G K ts e r Q h1 N J;have g:c.length=len*ts.length:=by rw[E.length,F]
  have o:s.length=ts.length:=f.length.symm;have l:e.length=ts.length:=r.length.symm;refine⟨O,h2,L,c++s,vs++e,I,(E.af_ C).append z,by rw[List.length_append,F,l,OB],fun i u d=> ?_,fun i y=> ?_,T.trans C,jO,fun b Z=>(D b jO).trans (U b Z)⟩
  ·by_cases y:i<vs.length
   ·rw[List.getElem?_append_left y]at d;exact Y i u d
   ·rw[List.getElem?_append_right jO]at d;have:=B _ u d;rwa[show len*ts.length+(i-vs.length)=i by omega]at this
  ·by_cases k:i<len
   ·have A:i*ts.length+ts.length<=c.length:=by rw[g,<-OB];exact zv _ k
    rw[aga A];exact(X i k).imp fun _ _ _ q=>G _ _ _ _ g2 D _ _ q
   ·obtain rfl:i=len:=jO;rw[<-g,List.drop_left,<-o,List.take_length];exact f
theorem agc{P:Program}{w:World}:∀(f:Nat),DS P w (vj P w f) (fun h n=>eV P h n f):=by
 intro f
 induction f with
 |zero=>intro t v j;exact j.elim
 |succ f ih=>
  intro t v j m h n x;unfold vj at j
  have d:∀l,VR m l v->eV P h n (f+1) t l->∃Q h' O l,Laid P w Q h' O∧VR Q l v∧eV P h' O (f+1) t l∧Le m Q∧n<=O∧∀b,b<n->h'.get b=h.get b:=
   fun l K h2=>⟨m,h,n,l,x,K,h2,Le.refl _,ai _,fun _ _=>rfl⟩
  split at j
  ·rename_i k g;obtain⟨z,rfl,R⟩:=j;exact d _ (.int k z) (by unfold eV;rw[g];exact⟨z,rfl,R⟩)
  ·rename_i g;obtain⟨z,rfl,R⟩:=j;exact d _ (.string z) (by unfold eV;rw[g];exact⟨z,rfl,R⟩)
  ·rename_i g;obtain⟨z,rfl⟩:=j;exact d _ (.bool z) (by unfold eV;rw[g];exact⟨z,rfl⟩)
  ·rename_i e g;rcases j with rfl|⟨a,len,cap,p,rfl,hl,hm,W,h0,X,y⟩
   ·exact d _ (.mI 0 0 ⟨ai _,by unfold aU;omega⟩) (by unfold eV;rw[g];exact .inl ⟨none,rfl,fun _ _=>by simp⟩)
   ·by_cases u0:cap=0
    ·obtain rfl:len=0:=jO;subst u0;exact d (.slice (some ⟨0,0,some 0⟩) 0 0) (.pP 0 0 0 a) (by unfold eV;rw[g];exact .inl ⟨_,rfl,fun b o q=>by simp at q⟩)
    ·have first:∃b off,a=⟨b,off,none⟩∧∃J N L,w.heap[b]? =some (.cells J N L)∧off+cap*p.length<=J.size:=by
      obtain⟨es,Z,Y⟩:=y (cap-1) jO;obtain⟨u1,I,G⟩:=y 0 jO;have u5:=Y.length;have u4:=G.length;have c0:=I 0 u1[0] jS;obtain⟨b,off,C⟩:=a;have s:C=none:=by simpa[apL]using World.cell?_spot c0
      subst s;obtain⟨J,N,L,E,_⟩:=Rp (by rw[nN]at c0;exact c0);refine⟨b,off,rfl,J,N,L,E, ?_⟩;have cl:=Z (p.length-1) es[p.length-1] (aJ jO);rw[nN,uH w _ _ E]at cl;have u3:=(Array.getElem?_eq_some_iff.1 cl).1
      have u2:(cap-1)*p.length+p.length=cap*p.length:=by rw[<-OB];congr 1;omega
      omega
     obtain⟨b,off,rfl,J,N,L,E,F⟩:=first
     obtain⟨m1,K,r,B,vs,x1,U,D,A,hs,l1,g1,k1⟩:=agb (S:=fun h n=>eV P h n f) (fun _ _ _ _ hn g _ _ q=>eV.ay hn g q) ih len (fun i hi=>y i jO) m h n x
     obtain⟨m2,x2,T,l2⟩:=af' (len:=len) (cap:=cap) (off:=off) x1 E X U (fun i u hu=>by
      have:=A i u hu
      rwa[nN,uH w _ _ E]at this) (by rw[U.length,D]) hl F
     have kk:∀c,c<r->(K.set r (some ⟨e,false,B⟩)).get c=K.get c:=fun c hc=>aB _ _ jO;refine⟨m2,_,r+1,_,x2,T, ?_,l1.trans l2,jO,fun c hc=>(kk c jO).trans (k1 c hc)⟩;show eV P _ (r+1) (f+1) t _;unfold eV;rw[g];refine .inr ⟨r,len,p,B,rfl,W,h0,get_eq _ _ _,Nat.lt_succ_self r,by rw[U.length,D],jO,fun i hi=>(hs i hi).imp fun _ _ _ q=>eV.ay (Nat.le_succ r) kk q⟩
  ·exact j.elim
def p8(P:Program)(t:TypeId):Bool:=match P.underlying t with
 |some (.struct _)|some (.array _ _)=>true
 |_=>false
def sY(P:Program)(w:World)(t:TypeId)(v:Value):Prop:=∃a,kL P 8 t=some a∧ez (vj P w 8) a v.cells.toList∧(p8 P t=true->∃b,v= .agg b)∧(p8 P t=false->v.cells=#[v])
def oV(P:Program)(h:H)(n:Nat)(t:TypeId)(v:Value):Prop:=∃a,kL P 8 t=some a∧((p8 P t=true∧∃b,v= .agg b∧ez (eV P h n 8) a b.toList)∨(p8 P t=false∧ez (eV P h n 8) a [v]))
def Am(P:Program)(t:TypeId):Bool:=match kL P 8 t with
 |some a=>a.all (DR P 8)
 |none=>false
theorem Rv{C:Type}{enc:TypeId×Value->C}{P:Program}{w:World}{o:Bool}{r:Reach}{I:Nat}{t:TypeId}{v:Value}{d:DataW C}{p:List MemPlace}(j:Am P t=true)(i:aqz P w r I t v)(h:DataW.Trod enc P w 0 (fun _=>true) o t v d p):sY P w t v:=by
 unfold Am at j;split at j
 ·rename_i A f;rw[mu]at j;obtain⟨m,E⟩:=h;have F:=Ru (R:=vj P w 8) 8 t v.cells.toList A m _ f (fun B s u m x D=>af9 B u m x (j B s) D) E;refine⟨A,f,F.2,fun g=> ?_,fun g=> ?_⟩
  ·unfold p8 at g;split at g
   ·rename_i G b;obtain⟨z,e,_⟩:=okWide_struct b i;exact⟨z,e⟩
   ·rename_i q e b;simp only[aqz,b]at i;obtain⟨z,e,_⟩:=i;exact⟨z,e⟩
   ·cases g
  ·have y:P.cellsOf t=1∨True:= .inr trivial;unfold kL at f;unfold p8 at g;split at f
   ·rename_i k b;obtain⟨n,e⟩:=okWide_int b i;rw[e];rfl
   ·rename_i b;obtain⟨n,e⟩:=okWide_string b i;rw[e];rfl
   ·rename_i b;obtain⟨n,e⟩:=okWide_bool b i;rw[e];rfl
   ·rename_i e b;obtain⟨a,l,c,e⟩:=okWide_slice b i;rw[e];rfl
   ·rename_i G b;rw[b]at g;cases g
   ·rename_i q e b;rw[b]at g;cases g
   ·cases f
 ·cases j
theorem agd{P:Program}{w:World}:DS P w (sY P w) (oV P):=by
 intro t v u m h n x;obtain⟨f,c,d,C,B⟩:=u;obtain⟨j,p,i,a,g,b,o,k,r,l⟩:=DT (S:=fun h n=>eV P h n 8) (fun _ _ _ _ y z _ _ q=>eV.ay y z q) (agc 8) f _ d m h n x;cases e:p8 P t with
 |true=>obtain⟨D,rfl⟩:=C e;exact⟨j,p,i,.agg a.toArray,g,.agg b,⟨f,c,.inl ⟨e,a.toArray,rfl,o⟩⟩,k,r,l⟩
 |false=>
  have A:=B e;rw[A]at b;cases b with
  |cons b s=>cases s;exact⟨j,p,i,_,g,b,⟨f,c,.inr ⟨e,o⟩⟩,k,r,l⟩
theorem oV.ay{P:Program}{h h':H}{n n':Nat}(f:n<=n')(g:∀b,b<n->h'.get b=h.get b){t:TypeId}{v:Value}(x:oV P h n t v):oV P h' n' t v:=by
 obtain⟨e,a,q⟩:=x;rcases q with ⟨d,j,c,i⟩|⟨d,c⟩
 ·exact⟨e,a,.inl ⟨d,j,c,i.imp fun _ _ _ q=>eV.ay f g q⟩⟩
 ·exact⟨e,a,.inr ⟨d,c.imp fun _ _ _ q=>eV.ay f g q⟩⟩
theorem age {P:Program} (i:sC P=true) (g:qK P KN=true) (c:P.follows .mixedOrders=true) (j:uL P KN) (hd:mO P=true) {w:World} {gt:Nat->Hint} {lf d:Nat} {f:FuncId} {ts:List TypeId} {vs:List Value} (z:ez (sY P w) ts vs) {l:Mp} {k:H} (o:Laid P w l k P.globals.size)
 (r:∀n h a,P.globals.size<=n->(∀b,b<P.globals.size->h.get b=k.get b)->ez (oV P h n) ts a->ae (fun _=>False) n (ah P gt lf d f a.toArray) h n fun v _ _=>v= .bool true):Calls P f vs.toArray w fun e w'=>e= .returned (.bool true)∧Below w.heap.size w w':=by
 obtain⟨C,A,p,a,m,t,u,_,B,s⟩:=DT (S:=oV P) (fun _ _ _ _ x y _ _ q=>oV.ay x y q) agd ts vs z l k _ o;exact af7 i g c j hd m t (r p A a B s u)
end Go.Proofs.YtcehhgppfahbkaaGreatDoor.Ev
namespace Go.Proofs.YtcehhgppfahbkaaGreatDoor.Ev
open Go Go.RowKit
end Go.Proofs.YtcehhgppfahbkaaGreatDoor.Ev
namespace Go.Proofs.YtcehhgppfahbkaaGreatDoor.Ev
open Go
set_option maxRecDepth 4000
theorem Rx:type_of%(aI @vd (aI @Qe (aI @Qf (aI @xV (aI @xW (aI @Qd (aI @Qb (aI @zZ (aI @xU (aI @Qc (aI @Q8 (aI @Q9 (aI @oU (aI @get_eq (aI @aB (aI @Qg (aI @Jo (aI @Qh (aI @Qi (aI @Qj (aI @rf (aI @Qk (aI @Ql (aI @Qm (aI @Qn (aI @Qo (aI @Qp (aI @Qq (aI @Qr (aI @Qs (aI @Qt (aI @rh (aI @Aa (aI @Qu (aI @Jq (aI @Qv (aI @Qw (aI @Ab (aI @Qx (aI @Qy (aI @Qz (aI @DI (aI @Ad (aI @QA (aI @QB (aI @QC (aI @QD (aI @QE (aI @QF (aI @QG (aI @QH (aI @QI (aI @QJ (aI @QL (aI @QM (aI @QN (aI @QO (aI @QP (aI @QQ (aI @QR (aI @QS (aI @DJ (aI @Js (aI @QT (aI @QU (aI @Af (aI @xX (aI @xY (aI @xZ (aI @QW (aI @QX (aI @QZ (aI @Q3 (aI @Q4 (aI @Q5 (aI @Q6 (aI @Q7 (aI @Rc (aI @Rd (aI @Re (aI @Rf (aI @Rg (@Rh))))))))))))))))))))))))))))))))))))))))))))))))))))))))))))))))))))))))))))))))))):=aI @vd (aI @Qe (aI @Qf (aI @xV (aI @xW (aI @Qd (aI @Qb (aI @zZ (aI @xU (aI @Qc (aI @Q8 (aI @Q9 (aI @oU (aI @get_eq (aI @aB (aI @Qg (aI @Jo (aI @Qh (aI @Qi (aI @Qj (aI @rf (aI @Qk (aI @Ql (aI @Qm (aI @Qn (aI @Qo (aI @Qp (aI @Qq (aI @Qr (aI @Qs (aI @Qt (aI @rh (aI @Aa (aI @Qu (aI @Jq (aI @Qv (aI @Qw (aI @Ab (aI @Qx (aI @Qy (aI @Qz (aI @DI (aI @Ad (aI @QA (aI @QB (aI @QC (aI @QD (aI @QE (aI @QF (aI @QG (aI @QH (aI @QI (aI @QJ (aI @QL (aI @QM (aI @QN (aI @QO (aI @QP (aI @QQ (aI @QR (aI @QS (aI @DJ (aI @Js (aI @QT (aI @QU (aI @Af (aI @xX (aI @xY (aI @xZ (aI @QW (aI @QX (aI @QZ (aI @Q3 (aI @Q4 (aI @Q5 (aI @Q6 (aI @Q7 (aI @Rc (aI @Rd (aI @Re (aI @Rf (aI @Rg (@Rh))))))))))))))))))))))))))))))))))))))))))))))))))))))))))))))))))))))))))))))))))
theorem Ry:type_of%(aI @List.getElem?_cons_zero.{0} (aI @List.getElem?_cons_succ.{0} (aI @List.set_cons_zero.{0} (aI @List.set_cons_succ.{0} (aI @List.length_cons.{0} (aI @List.length_nil.{0} (aI @eg (aI @aqA (aI @fy (aI @gX (aI @decide_eq_true_eq (aI @decide_eq_false_iff_not (aI @true_and (aI @and_true (aI @if_true.{1} (aI @if_false.{1} (aI @true_or (aI @or_true (aI @nD (aI @aqB (aI @false_and (aI @and_false (aI @gE (aI @gO (aI @beq_self_eq_true.{0} (aI @bne_self_eq_false.{0} (aI @decide_true (aI @decide_false (aI @aqe (aI @oA (aI @Hs (@zx)))))))))))))))))))))))))))))))):=aI @List.getElem?_cons_zero.{0} (aI @List.getElem?_cons_succ.{0} (aI @List.set_cons_zero.{0} (aI @List.set_cons_succ.{0} (aI @List.length_cons.{0} (aI @List.length_nil.{0} (aI @eg (aI @aqA (aI @fy (aI @gX (aI @decide_eq_true_eq (aI @decide_eq_false_iff_not (aI @true_and (aI @and_true (aI @if_true.{1} (aI @if_false.{1} (aI @true_or (aI @or_true (aI @nD (aI @aqB (aI @false_and (aI @and_false (aI @gE (aI @gO (aI @beq_self_eq_true.{0} (aI @bne_self_eq_false.{0} (aI @decide_true (aI @decide_false (aI @aqe (aI @oA (aI @Hs (@zx)))))))))))))))))))))))))))))))
end Go.Proofs.YtcehhgppfahbkaaGreatDoor.Ev
