import Derived.Test.YtmjolmggelkjlaaGreatMac
import Derived.ProofKit
import Derived.OpenShut
open Nat renaming le_refl→ah, zero_add→fy, add_zero→jd, mul_le_mul_right→qL, succ_mul→LN
open List renaming getElem?_eq_getElem→bA, replicate→bQ, mem_cons_of_mem→uZ, all_eq_true→Am, mem_cons_self→Fc, getElem?_eq_none_iff→amX
open Bool renaming not_false→cx, not_true→eK, false_eq_true→oF, and_false→E2, true_and→Lu, and_true→amJ, true_eq_false→am1, false_and→am2
open Int renaming toNat_natCast→cR, toNat_zero→am0
open Go.Lit renaming int→LL
open Go.DataW renaming trod→LM, trod_int→amT, trod_string→amU, trod_bool→amV, trod_slice→amW
open Go.Addr renaming add→ama
open Go.Value renaming okWide→amZ
set_option linter.unusedVariables false
set_option linter.unusedSimpArgs false
namespace Go.Proofs.YtmjolmggelkjlaaGreat.Ev
open Go Go.RowKit Go.WideShapes Go.ChangeShapes
def dR{d c:Type}(R:d->c->Prop):List d->List c->Prop
 |[],[]=>True
 |a::l,b::m=>R a b∧dR R l m
 |_,_=>False
theorem dR.length{b a:Type}{R:b->a->Prop}:∀{l:List b} {m:List a},dR R l m->l.length=m.length
 |[],[],_=>rfl
 |_::_,_::_,h=>by simp[dR.length h.2]
 |[],_::_,h=>h.elim
 |_::_,[],h=>h.elim
theorem dR.imp{d c:Type}{R S:d->c->Prop}:∀{l:List d} {m:List c},(∀a∈l,∀b,R a b->S a b)->dR R l m->dR S l m
 |[],[],_,_=>trivial
 |a::_,_::_,h,x=>⟨h a (Fc ..) _ x.1,dR.imp (fun a e=>h a (uZ _ e)) x.2⟩
 |[],_::_,_,x=>x.elim
 |_::_,[],_,x=>x.elim
theorem dR.append{b a:Type}{R:b->a->Prop}:∀{l d:List b} {m c:List a},dR R l m->dR R d c->dR R (l++d) (m++c)
 |[],_,[],_,_,h=>h
 |_::_,_,_::_,_,x,h=>⟨x.1,dR.append x.2 h⟩
 |[],_,_::_,_,x,_=>x.elim
 |_::_,_,[],_,x,_=>x.elim
def tz(g:TypeId->Option (List TypeId)):Nat->List Field->Option (List TypeId)
 |_,[]=>some []
 |o,b::r=>if b.offset=o then(match g b.type with
  |some a=>match tz g (o+a.length) r with
   |some c=>some (a++c)
   |none=>none
  |none=>none)else none
def jH(P:Program):Nat->TypeId->Option (List TypeId)
 |0,_=>none
 |f+1,t=>match P.underlying t with
  |some (.int _)|some .string|some .bool|some (.slice _)=>if P.cellsOf t=1 then some [t]else none
  |some (.struct b)=>match tz (jH P f) 0 b.toList with
   |some a=>if a.length=P.cellsOf t then some a else none
   |none=>none
  |some (.array n e)=>match jH P f e with
   |some a=>if n*a.length=P.cellsOf t∧a.length=P.cellsOf e then some (bQ n a).flatten else none
   |none=>none
  |_=>none
theorem OR{g:TypeId->Option (List TypeId)}{o:Nat}{c:Field}{r:List Field}{d:List TypeId}(h:tz g o (c::r)=some d):c.offset=o∧∃a b,g c.type=some a∧tz g (o+a.length) r=some b∧d=a++b:=by
 unfold tz at h;split at h
 ·rename_i i;split at h
  ·rename_i a f;split at h
   ·rename_i b e;cases h;exact⟨i,a,b,f,e,rfl⟩
   ·cases h
  ·cases h
 ·cases h
def tA(P:Program)(w:World):Nat->TypeId->Value->Prop
 |0,_,_=>False
 |f+1,t,v=>match P.underlying t with
  |some (.int k)=>∃n,v= .int k n∧(LL k n).wf=true
  |some .string=>∃s:ByteArray,v= .string s∧s.size<=maxLen
  |some .bool=>∃b,v= .bool b
  |some (.slice e)=>v= .slice none 0 0∨∃a len cap c,v= .slice (some a) len cap∧len<=cap∧cap<=maxLen∧jH P 8 e=some c∧0<c.length∧size? P e=some c.length∧
    ∀i,i<cap->∃d:List Value,(∀j u,d[j]? =some u->w.cell? (a.add (i*c.length+j))=some u)∧dR (tA P w f) c d
  |_=>False
def BN(P:Program):Nat->TypeId->Bool
 |0,_=>false
 |f+1,t=>match P.underlying t with
  |some (.int _)|some .string|some .bool=>true
  |some (.slice e)=>match jH P 8 e with
   |some a=>decide (0<a.length)&&decide (size? P e=some a.length)&&a.all (BN P f)
   |none=>false
  |_=>false
theorem acU{w:World}{b:Nat}{a:Addr}{n:Nat}{c:List Value}(h:w.cells? b a n=some c):c.length=n∧∀j u,c[j]? =some u->w.cell? (a.add j)=some u:=by
 unfold World.cells? at h;split at h
 ·have d:=mapM_some_length h;simp only[List.length_range]at d;refine⟨d,fun j u e=> ?_⟩;have f:=(List.getElem?_eq_some_iff.1 e).1;have:=mapM_some_get h j j (by rw[List.getElem?_range jO]);rw[this];exact e
 ·cases h
theorem add_add(a:Addr)(i j:Nat):(a.add i).add j=a.add (i+j):=by
 unfold ama;by_cases b:j=0
 ·subst b;simp
 ·by_cases c:i=0
  ·subst c;simp
  ·have:¬(i+j=0):=jO;simp only[c,b,this,if_false];congr 1;omega
section
variable {H0:Type} {enc:TypeId×Value->H0} {P:Program} {w:World} {held:Bool}
theorem OS{g:TypeId->Option (List TypeId)}{R:TypeId->Value->Prop}{cs:List Value}:∀(l:List Field) (o:Nat) (c:List TypeId),tz g o l=some c->cs.length=o+c.length->
 (∀fd∈l,∀a,g fd.type=some a->a.length=P.cellsOf fd.type∧dR R a ((cs.drop fd.offset).take (P.cellsOf fd.type)))->dR R c (cs.drop o)
 |[],o,c,h,d,_=>by cases h;rw[List.drop_eq_nil_of_le (by simp at d;omega)];trivial
 |fd::r,o,c,h,d,j=>by
  obtain⟨p,a,b,n,m,rfl⟩:=OR h;obtain⟨i,k⟩:=j fd (Fc ..) a n;have:=OS r (o+a.length) b m (by simp at d;omega) fun fd f=>j fd (uZ _ f);rw[p,<-i]at k;have e:cs.drop o=(cs.drop o).take a.length++cs.drop (o+a.length):=by rw[<-List.drop_drop,List.take_append_drop]
  rw[e];exact k.append this
theorem OT{R:TypeId->Value->Prop}:∀(f:Nat) (t:TypeId) (cs:List Value) (c:List TypeId) (m:Nat) (x:DataW H0×List MemPlace),jH P f t=some c->
 (∀s∈c,∀v m x,LM enc P w 0 (fun _=>true) held m s [v]=some x->R s v)->LM enc P w 0 (fun _=>true) held m t cs=some x->c.length=P.cellsOf t∧dR R c cs:=by
 intro f
 induction f with
 |zero=>intro t cs c m x h;cases h
 |succ f ih=>
  intro t cs c m x h W C;unfold jH at h
  have one:∀v,cs=[v]->(if P.cellsOf t=1 then some [t]else none)=some c->c.length=P.cellsOf t∧dR R c cs:=by
   intro v hv D;subst hv;by_cases T:P.cellsOf t=1
   ·rw[if_pos T]at D;cases D;exact⟨T.symm,W t (Fc ..) v m x C,trivial⟩
   ·rw[if_neg T]at D;cases D
  split at h
  ·rename_i k z;obtain⟨n,rfl,_⟩:=amT z C;exact one _ rfl h
  ·rename_i z;obtain⟨n,rfl,_⟩:=amU z C;exact one _ rfl h
  ·rename_i z;obtain⟨n,rfl,_⟩:=amV z C;exact one _ rfl h
  ·rename_i e z;rcases amW z C with ⟨rfl,_⟩|⟨a,len,cap,Z,rest,n,_,rfl,_⟩
   ·exact one _ rfl h
   ·exact one _ rfl h
  ·rename_i Y z;split at h
   ·rename_i b B;split at h
    ·rename_i d;cases h;obtain⟨I,n,rfl,_,Q,_,A⟩:=DataW.trod_struct z C;refine⟨d, ?_⟩;have:=OS (P:=P) (R:=R) (cs:=cs) Y.toList 0 c B jO fun J G a ha=> ?_
     ·simpa using this
     ·obtain⟨i,hi⟩:=List.mem_iff_getElem?.1 G;have E:Y[i]? =some J:=by simpa using hi
      have p:=A i J E;cases j:I[i]? with
      |none=>exact absurd p (by
        rw[j];have:=(Array.getElem?_eq_some_iff.1 E).1;have X:I[i]? =none:=j;rw[amX]at X
        omega)
      |some y=>
       rw[j]at p
       exact ih J.type _ a n y ha (fun s u=>W s (by
        have:∀(l:List Field) (o:Nat) (c:List TypeId),tz (jH P f) o l=some c->J∈l->∀q∈a,q∈c:=by
         intro l
         induction l with
         |nil=>intro o c _ hm;simp at hm
         |cons g r O=>
          intro o c hh hm q D;obtain⟨_,a2,b2,K,e2,rfl⟩:=OR hh;rcases List.mem_cons.1 hm with rfl|hm
          ·rw[ha]at K;cases K;exact List.mem_append.2 (.inl D)
          ·exact List.mem_append.2 (.inr (O _ _ e2 hm q D))
        exact this Y.toList 0 c B G s u)) p
    ·cases h
   ·cases h
  ·rename_i n e z;split at h
   ·rename_i b B;split at h
    ·rename_i d;obtain⟨d,u1⟩:=d;obtain⟨I,m',rfl,_,Q,u0,A⟩:=DataW.trod_array z C
     have U:n=0∨∀s∈b,s∈c:=by
      rcases Nat.eq_zero_or_pos n with q|q
      ·exact .inl q
      ·refine .inr fun s u=> ?_;cases h;rw[List.mem_flatten];exact⟨b,List.mem_replicate.2 ⟨jO,rfl⟩,u⟩
     have L:∀k,k<=n->dR R (bQ k b).flatten (cs.take (k*b.length)):=by
      intro k
      induction k with
      |zero=>intro _;simp[dR]
      |succ k N=>
       intro u2;have h1:=N jO;have p:=A k jO;cases j:I[k]? with
       |none=>rw[amX]at j;omega
       |some y=>
        rw[j]at p
        obtain⟨X,h4⟩:=ih e _ b m' y B (fun s u=>W s (by
         rcases U with q|q
         ·omega
         ·exact q s u)) p
        rw[<-X]at h4;rw[List.replicate_succ',List.flatten_append,List.flatten_singleton]
        have K:cs.take ((k+1)*b.length)=cs.take (k*b.length)++(cs.drop (k*b.length)).take b.length:=by rw[LN,List.take_add]
        rw[K];exact h1.append h4
     cases h;refine⟨?_, ?_⟩
     ·rw[<-d];simp
     ·have:=L n (ah n);rwa[List.take_of_length_le jO]at this
    ·cases h
   ·cases h
  ·cases h
theorem acV{f:Nat}:∀(t:TypeId) (v:Value) (m:Nat) (x:DataW H0×List MemPlace),BN P f t=true->LM enc P w 0 (fun _=>true) held m t [v]=some x->tA P w f t v:=by
 induction f with
 |zero=>intro t v m x h;cases h
 |succ f N=>
  intro t v m x h l;unfold BN at h;unfold tA;split at h
  ·rename_i k d;obtain⟨n,e,_,z⟩:=amT d l;simp at e;exact⟨n,e,z⟩
  ·rename_i d;obtain⟨s,e,_,z⟩:=amU d l;simp at e;exact⟨s,e,z⟩
  ·rename_i d;obtain⟨b,e,_⟩:=amV d l;simp at e;exact⟨b,e⟩
  ·rename_i e d;split at h
   ·rename_i r p;simp only[Bool.and_eq_true,decide_eq_true_eq,Am]at h;obtain⟨⟨W,G⟩,U⟩:=h
    have T:P.cellsOf e=r.length:=by unfold size? at G;unfold Program.cellsOf;rw[G];rfl
    rcases amW d l with ⟨o,_⟩|⟨a,len,cap,I,rest,n,_,o,_,_,Q,O,K,E,B,_⟩
    ·simp at o;exact .inl o
    ·simp at o;obtain⟨X,c⟩:=B rfl;refine .inr ⟨a,len,cap,r,o,Q,O,p,W,G,fun i Y=> ?_⟩
     have get:∃y,(w.cells? 0 (a.add (i*P.cellsOf e)) (P.cellsOf e)).bind (LM enc P w 0 (fun _=>true) held n e)=some y:=by
      by_cases C:i<len
      ·rw[E i C];exact⟨_,bA jO⟩
      ·have:=c (i-len) jO;rw[show len+(i-len)=i by omega]at this;rw[this];exact⟨_,bA jO⟩
     obtain⟨y,q⟩:=get;rw[Option.bind_eq_some_iff]at q;obtain⟨L,D,q⟩:=q;obtain⟨_,g⟩:=acU D;refine⟨L,fun j u R=> ?_,(OT 8 e L r n y p (fun J A v m x l=>N J v m x (U J A) l) q).2⟩;have:=g j u R;rwa[add_add,T]at this
   ·cases h
  ·cases h
end
def eI(P:Program)(h:H)(n:Nat):Nat->TypeId->Value->Prop
 |0,_,_=>False
 |f+1,t,v=>match P.underlying t with
  |some (.int k)=>∃n,v= .int k n∧(LL k n).wf=true
  |some .string=>∃s:ByteArray,v= .string s∧s.size<=maxLen
  |some .bool=>∃b,v= .bool b
  |some (.slice e)=>(∃a,v= .slice a 0 0∧∀b o,a≠some ⟨b,o,none⟩)∨∃b len c d,v= .slice (some ⟨b,0,none⟩) len (bh+len)∧jH P 8 e=some c∧0<c.length∧h.get b=some ⟨e,false,d⟩∧b<n∧d.length=len*c.length∧len<=maxLen∧
    ∀i,i<len->dR (eI P h n f) c ((d.drop (i*c.length)).take c.length)
  |_=>False
theorem eI.au{P:Program}{h h':H}{n n':Nat}(u:n<=n')(l:∀b,b<n->h'.get b=h.get b):∀{f:Nat} {t:TypeId} {v:Value},eI P h n f t v->eI P h' n' f t v:=by
 intro f
 induction f with
 |zero=>intro t v x;exact x
 |succ f d=>
  intro t v x;unfold eI at x⊢;split at x
  ·exact x
  ·exact x
  ·exact x
  ·rcases x with q|⟨b,len,c,s,e,g,r,o,p,k,j,a⟩
   ·exact .inl q
   ·exact .inr ⟨b,len,c,s,e,g,r,(l b p).trans o,jO,k,j,fun i m=>(a i m).imp fun _ _ _ q=>d q⟩
  ·exact x
theorem acW {P:Program} {w:World} {m:Mp} {h:H} {n:Nat} (x:Laid P w m h n) {b off len cap:Nat} {cs:Array Value} {E:TypeId} {D:Nat×Nat} (X:w.heap[b]? =some (.cells cs E D)) {e:TypeId} {sz:Nat} (Y:size? P e=some sz) {vs p:List Value} (T:bp m vs p)
 (B:∀i v,p[i]? =some v->cs[off+i]? =some v) (L:vs.length=len*sz) (N:len<=cap) (O:off+cap*sz<=cs.size):
 ∃l,Laid P w l (h.set n (some ⟨e,false,vs⟩)) (n+1)∧VR l (.slice (some ⟨n,0,none⟩) len (bh+len)) (.slice (some ⟨b,off,none⟩) len cap)∧Le m l:=by
 let l:Mp:=fun c=>if c=n then some ⟨b,off,cs.size,sz,E⟩else m c
 have g:Le m l:=fun c d hd=>by
  by_cases j:c=n
  ·subst j;rw[x.fresh c (ah c)]at hd;cases hd
  ·show(if c=n then _ else _)=_;rw[if_neg j];exact hd
 let Q:H:=h.set n (some ⟨e,false,vs⟩);have J:l n=some ⟨b,off,cs.size,sz,E⟩:=if_pos rfl;have r:Q.get n=some ⟨e,false,vs⟩:=get_eq _ _ _;have K:len*sz<=cap*sz:=qL _ N
 have f:∀c C,Q.get c=some C->C.own=false:=fun c C a=>by
  by_cases j:c=n
  ·subst j;rw[r]at a;cases a;rfl
  ·rw[aw _ _ j]at a;exact x.own c C a
 refine⟨l,⟨⟨?_, ?_⟩,x.gl.mono g,fun c O=> ?_,f,by have:=x.glo;omega⟩,.gp J (fun _=>rfl) (fun q=>by unfold bh at q;omega) (fun _=>⟨ah _,jO⟩) N O,g⟩
 ·intro c C a;by_cases j:c=n
  ·subst j;rw[r]at a;cases a;refine⟨_,cs,D.1,D.2,J,X,rfl,by show off+vs.length<=cs.size;omega,Y,fun q=>(by cases q),fun k u y=> ?_⟩;obtain⟨t,o,z⟩:=T.get k u y;exact⟨t,B k t o,z.mono g⟩
  ·rw[aw _ _ j]at a;obtain⟨d,G,R,W,U,A,h1,h2,h3,h4,Z⟩:=x.wr.live c C a;refine⟨d,G,R,W,g _ _ U,A,h1,h2,h3,h4,fun k u y=> ?_⟩;obtain⟨t,o,z⟩:=Z k u y;exact⟨t,o,z.mono g⟩
 ·intro c c' C C' d d' a s I;rw[f c C a,f c' C' s]at I;simp at I
 ·show(if c=n then _ else _)=none;rw[if_neg jO];exact x.fresh c jO
def BO(P:Program)(w:World)(R:TypeId->Value->Prop)(S:H->Nat->TypeId->Value->Prop):Prop:=∀t v,R t v->∀m h n,Laid P w m h n->∃c d a e,Laid P w c d a∧VR c e v∧S d a t e∧Le m c∧n<=a∧∀b,b<n->d.get b=h.get b
theorem bp.acX{m a:Mp}(c:Le m a){l b:List Value}(h:bp m l b):bp a l b:=bp.mono c h
theorem BP{P:Program}{w:World}{R:TypeId->Value->Prop}{S:H->Nat->TypeId->Value->Prop}(k:∀(h h':H) (n n':Nat),n<=n'->(∀b,b<n->h'.get b=h.get b)->∀t v,S h n t v->S h' n' t v)(ok:BO P w R S):
 ∀(d:List TypeId) (vs:List Value),dR R d vs->∀m h n,Laid P w m h n->∃e h' n' a,Laid P w e h' n'∧bp e a vs∧dR (S h' n') d a∧Le m e∧n<=n'∧∀b,b<n->h'.get b=h.get b
 |[],[],_,m,h,n,x=>⟨m,h,n,[],x,.nil,trivial,Le.refl _,ah _,fun _ _=>rfl⟩
 |t::d,v::vs,c,m,h,n,x=>by obtain⟨u,E,r,p,o,A,B,y,I,z⟩:=ok t v c.1 m h n x;obtain⟨s,D,q,a,l,f,g,i,G,j⟩:=BP k ok d vs c.2 u E r o;exact⟨s,D,q,p::a,l,.cons (A.mono i) f,⟨k _ _ _ _ G j _ _ B,g⟩,y.trans i,jO,fun b C=>(j b jO).trans (z b C)⟩
 |[],_::_,c,_,_,_,_=>c.elim
 |_::_,[],c,_,_,_,_=>c.elim
theorem acY{a:Type}{l r:List a}{k c:Nat}(h:k+c<=l.length):((l++r).drop k).take c=(l.drop k).take c:=by rw[List.drop_append_of_le_length jO,List.take_append_of_le_length (by simp;omega)]
theorem acZ{P:Program}{w:World}{R:TypeId->Value->Prop}{S:H->Nat->TypeId->Value->Prop}(K:∀(h h':H) (n n':Nat),n<=n'->(∀b,b<n->h'.get b=h.get b)->∀t v,S h n t v->S h' n' t v)(ok:BO P w R S){d:List TypeId}{a:Addr}:
 ∀(len:Nat),(∀i,i<len->∃f:List Value,(∀j u,f[j]? =some u->w.cell? (a.add (i*d.length+j))=some u)∧dR R d f)->∀m h n,Laid P w m h n->
  ∃A h' n' c vs,Laid P w A h' n'∧bp A c vs∧vs.length=len*d.length∧(∀i u,vs[i]? =some u->w.cell? (a.add i)=some u)∧(∀i,i<len->dR (S h' n') d ((c.drop (i*d.length)).take d.length))∧Le m A∧n<=n'∧∀b,b<n->h'.get b=h.get b:=by
 intro len
 induction len with
 |zero=>intro _ m h n x;exact⟨m,h,n,[],[],x,.nil,jS,fun i u e=>by simp at e,fun i z=>by omega,Le.refl _,ah _,fun _ _=>rfl⟩
 |succ len Y=>
  intro r m h n x;obtain⟨U,h1,Q,c,vs,N,I,J,hc,Z,W,g1,X⟩:=Y (fun i z=>r i jO) m h n x;obtain⟨f,D,s⟩:=r len jO;obtain⟨T,h2,O,y,L,B,g,E,g2,G⟩:=BP K ok d f s U h1 Q N;have k:c.length=len*d.length:=by rw[I.length,J]
  have p:y.length=d.length:=g.length.symm;have o:f.length=d.length:=s.length.symm;refine⟨T,h2,O,c++y,vs++f,L,(I.acX E).append B,by rw[List.length_append,J,o,LN],fun i u e=> ?_,fun i z=> ?_,W.trans E,jO,fun b hb=>(G b jO).trans (X b hb)⟩
  ·by_cases z:i<vs.length
   ·rw[List.getElem?_append_left z]at e;exact hc i u e
   ·rw[List.getElem?_append_right jO]at e;have:=D _ u e;rwa[show len*d.length+(i-vs.length)=i by omega]at this
  ·by_cases l:i<len
   ·have C:i*d.length+d.length<=c.length:=by rw[k,<-LN];exact qL _ l
    rw[acY C];exact(Z i l).imp fun _ _ _ q=>K _ _ _ _ g2 G _ _ q
   ·obtain rfl:i=len:=jO;rw[<-k,List.drop_left,<-p,List.take_length];exact g
theorem ac0{P:Program}{w:World}:∀(f:Nat),BO P w (tA P w f) (fun h n=>eI P h n f):=by
 intro f
 induction f with
 |zero=>intro t v g;exact g.elim
 |succ f ih=>
  intro t v g m h n x;unfold tA at g
  have same:∀j,VR m j v->eI P h n (f+1) t j->∃Q h' O j,Laid P w Q h' O∧VR Q j v∧eI P h' O (f+1) t j∧Le m Q∧n<=O∧∀b,b<n->h'.get b=h.get b:=
   fun j K h2=>⟨m,h,n,j,x,K,h2,Le.refl _,ah _,fun _ _=>rfl⟩
  split at g
  ·rename_i k d;obtain⟨z,rfl,R⟩:=g;exact same _ (.int k z) (by unfold eI;rw[d];exact⟨z,rfl,R⟩)
  ·rename_i d;obtain⟨z,rfl,R⟩:=g;exact same _ (.string z) (by unfold eI;rw[d];exact⟨z,rfl,R⟩)
  ·rename_i d;obtain⟨z,rfl⟩:=g;exact same _ (.bool z) (by unfold eI;rw[d];exact⟨z,rfl⟩)
  ·rename_i e d;rcases g with rfl|⟨a,len,cap,l,rfl,hl,hm,W,h0,X,s⟩
   ·exact same _ (.l5 0 0 ⟨ah _,by unfold bh;omega⟩) (by unfold eI;rw[d];exact .inl ⟨none,rfl,fun _ _=>by simp⟩)
   ·by_cases u0:cap=0
    ·obtain rfl:len=0:=jO;subst u0;exact same (.slice (some ⟨0,0,some 0⟩) 0 0) (.oQ 0 0 0 a) (by unfold eI;rw[d];exact .inl ⟨_,rfl,fun b o q=>by simp at q⟩)
    ·have first:∃b off,a=⟨b,off,none⟩∧∃J N L,w.heap[b]? =some (.cells J N L)∧off+cap*l.length<=J.size:=by
      obtain⟨es,Z,Y⟩:=s (cap-1) jO;obtain⟨u1,I,G⟩:=s 0 jO;have u5:=Y.length;have u4:=G.length;have c0:=I 0 u1[0] jS;obtain⟨b,off,B⟩:=a;have r:B=none:=by simpa[ama]using World.cell?_spot c0
      subst r;obtain⟨J,N,L,D,_⟩:=acR (by rw[kW]at c0;exact c0);refine⟨b,off,rfl,J,N,L,D, ?_⟩;have cl:=Z (l.length-1) es[l.length-1] (bA jO);rw[kW,vj w _ _ D]at cl;have u3:=(Array.getElem?_eq_some_iff.1 cl).1
      have u2:(cap-1)*l.length+l.length=cap*l.length:=by rw[<-LN];congr 1;omega
      omega
     obtain⟨b,off,rfl,J,N,L,D,E⟩:=first
     obtain⟨m1,K,p,A,vs,x1,U,C,y,hs,l1,g1,k1⟩:=acZ (S:=fun h n=>eI P h n f) (fun _ _ _ _ hn d _ _ q=>eI.au hn d q) ih len (fun i hi=>s i jO) m h n x
     obtain⟨m2,x2,T,l2⟩:=acW (len:=len) (cap:=cap) (off:=off) x1 D X U (fun i u hu=>by
      have:=y i u hu
      rwa[kW,vj w _ _ D]at this) (by rw[U.length,C]) hl E
     have kk:∀c,c<p->(K.set p (some ⟨e,false,A⟩)).get c=K.get c:=fun c hc=>aw _ _ jO;refine⟨m2,_,p+1,_,x2,T, ?_,l1.trans l2,jO,fun c hc=>(kk c jO).trans (k1 c hc)⟩;show eI P _ (p+1) (f+1) t _;unfold eI;rw[d];refine .inr ⟨p,len,l,A,rfl,W,h0,get_eq _ _ _,Nat.lt_succ_self p,by rw[U.length,C],jO,fun i hi=>(hs i hi).imp fun _ _ _ q=>eI.au (Nat.le_succ p) kk q⟩
  ·exact g.elim
def mN(P:Program)(t:TypeId):Bool:=match P.underlying t with
 |some (.struct _)|some (.array _ _)=>true
 |_=>false
def qo(P:Program)(w:World)(t:TypeId)(v:Value):Prop:=∃a,jH P 8 t=some a∧dR (tA P w 8) a v.cells.toList∧(mN P t=true->∃b,v= .agg b)∧(mN P t=false->v.cells=#[v])
def mm(P:Program)(h:H)(n:Nat)(t:TypeId)(v:Value):Prop:=∃a,jH P 8 t=some a∧((mN P t=true∧∃b,v= .agg b∧dR (eI P h n 8) a b.toList)∨(mN P t=false∧dR (eI P h n 8) a [v]))
def OU(P:Program)(t:TypeId):Bool:=match jH P 8 t with
 |some a=>a.all (BN P 8)
 |none=>false
theorem G5{B:Type}{enc:TypeId×Value->B}{P:Program}{w:World}{held:Bool}{r:Reach}{I:Nat}{t:TypeId}{v:Value}{d:DataW B}{p:List MemPlace}(j:OU P t=true)(i:amZ P w r I t v)(h:DataW.Trod enc P w 0 (fun _=>true) held t v d p):qo P w t v:=by
 unfold OU at j;split at j
 ·rename_i z f;rw[Am]at j;obtain⟨m,D⟩:=h;have E:=OT (R:=tA P w 8) 8 t v.cells.toList z m _ f (fun A o u m x C=>acV A u m x (j A o) C) D;refine⟨z,f,E.2,fun g=> ?_,fun g=> ?_⟩
  ·unfold mN at g;split at g
   ·rename_i G b;obtain⟨y,e,_⟩:=okWide_struct b i;exact⟨y,e⟩
   ·rename_i q e b;simp only[amZ,b]at i;obtain⟨y,e,_⟩:=i;exact⟨y,e⟩
   ·cases g
  ·have s:P.cellsOf t=1∨True:= .inr trivial;unfold jH at f;unfold mN at g;split at f
   ·rename_i k b;obtain⟨n,e⟩:=okWide_int b i;rw[e];rfl
   ·rename_i b;obtain⟨n,e⟩:=okWide_string b i;rw[e];rfl
   ·rename_i b;obtain⟨n,e⟩:=okWide_bool b i;rw[e];rfl
   ·rename_i e b;obtain⟨a,l,c,e⟩:=okWide_slice b i;rw[e];rfl
   ·rename_i G b;rw[b]at g;cases g
   ·rename_i q e b;rw[b]at g;cases g
   ·cases f
 ·cases j
theorem ac1{P:Program}{w:World}:BO P w (qo P w) (mm P):=by
 intro t v u m h n x;obtain⟨f,c,d,C,B⟩:=u;obtain⟨j,p,i,a,g,b,o,k,r,l⟩:=BP (S:=fun h n=>eI P h n 8) (fun _ _ _ _ y z _ _ q=>eI.au y z q) (ac0 8) f _ d m h n x;cases e:mN P t with
 |true=>obtain⟨D,rfl⟩:=C e;exact⟨j,p,i,.agg a.toArray,g,.agg b,⟨f,c,.inl ⟨e,a.toArray,rfl,o⟩⟩,k,r,l⟩
 |false=>
  have A:=B e;rw[A]at b;cases b with
  |cons b s=>cases s;exact⟨j,p,i,_,g,b,⟨f,c,.inr ⟨e,o⟩⟩,k,r,l⟩
theorem mm.au{P:Program}{h h':H}{n n':Nat}(f:n<=n')(g:∀b,b<n->h'.get b=h.get b){t:TypeId}{v:Value}(x:mm P h n t v):mm P h' n' t v:=by
 obtain⟨e,a,q⟩:=x;rcases q with ⟨d,j,c,i⟩|⟨d,c⟩
 ·exact⟨e,a,.inl ⟨d,j,c,i.imp fun _ _ _ q=>eI.au f g q⟩⟩
 ·exact⟨e,a,.inr ⟨d,c.imp fun _ _ _ q=>eI.au f g q⟩⟩
theorem ac2 {P:Program} (j:qU P=true) (i:pY P KN=true) (c:P.follows .mixedOrders=true) (k:sX P KN) (hd:kD P=true) {w:World} {gt:Nat->Hint} {Y d:Nat} {f:FuncId} {g:List TypeId} {vs:List Value} (y:dR (qo P w) g vs) {m0:Mp} {l:H} (x0:Laid P w m0 l P.globals.size)
 (r:∀n h a,P.globals.size<=n->(∀b,b<P.globals.size->h.get b=l.get b)->dR (mm P h n) g a->af (fun _=>False) n (aj P gt Y d f a.toArray) h n fun v _ _=>v= .bool true):Calls P f vs.toArray w fun e w'=>e= .returned (.bool true)∧Below w.heap.size w w':=by
 obtain⟨B,z,o,a,m,s,t,_,A,p⟩:=BP (S:=mm P) (fun _ _ _ _ u x _ _ q=>mm.au u x q) ac1 g vs y m0 l _ x0;exact acT j i c k hd m s (r o z a A p t)
end Go.Proofs.YtmjolmggelkjlaaGreat.Ev
namespace Go.Proofs.YtmjolmggelkjlaaGreat.Ev
open Go Go.RowKit
end Go.Proofs.YtmjolmggelkjlaaGreat.Ev
namespace Go.Proofs.YtmjolmggelkjlaaGreat.Ev
open Go
set_option maxRecDepth 4000
theorem OV:type_of%(aI @tq (aI @ND (aI @NF (aI @NA (aI @NC (aI @Nz (aI @Nw (aI @k8 (aI @xW (aI @Ny (aI @Oz (aI @OA (aI @dQ (aI @get_eq (aI @aw (aI @NG (aI @NH (aI @NI (aI @NJ (aI @NK (aI @NL (aI @NM (aI @NN (aI @NO (aI @NP (aI @NQ (aI @NS (aI @NT (aI @NU (aI @NW (aI @NX (aI @vE (aI @vF (aI @GN (aI @NY (aI @NZ (aI @GO (aI @N0 (aI @N2 (aI @N3 (aI @N4 (aI @xX (aI @N5 (aI @N6 (aI @N7 (aI @N8 (aI @N9 (aI @N' (aI @Oa (aI @Ob (aI @Oc (aI @Od (aI @Oe (aI @Of (aI @Og (aI @Oh (aI @Oi (aI @Oj (aI @Ol (aI @On (aI @GQ (aI @GR (aI @Oo (aI @Oq (aI @vG (aI @xZ (aI @ya (aI @yc (aI @GU (aI @GV (aI @GW (aI @Ou (aI @Ov (aI @Ow (aI @Oy (aI @GX (aI @OB (aI @OC (aI @OD (aI @OE (aI @OG (@OH)))))))))))))))))))))))))))))))))))))))))))))))))))))))))))))))))))))))))))))))))):=aI @tq (aI @ND (aI @NF (aI @NA (aI @NC (aI @Nz (aI @Nw (aI @k8 (aI @xW (aI @Ny (aI @Oz (aI @OA (aI @dQ (aI @get_eq (aI @aw (aI @NG (aI @NH (aI @NI (aI @NJ (aI @NK (aI @NL (aI @NM (aI @NN (aI @NO (aI @NP (aI @NQ (aI @NS (aI @NT (aI @NU (aI @NW (aI @NX (aI @vE (aI @vF (aI @GN (aI @NY (aI @NZ (aI @GO (aI @N0 (aI @N2 (aI @N3 (aI @N4 (aI @xX (aI @N5 (aI @N6 (aI @N7 (aI @N8 (aI @N9 (aI @N' (aI @Oa (aI @Ob (aI @Oc (aI @Od (aI @Oe (aI @Of (aI @Og (aI @Oh (aI @Oi (aI @Oj (aI @Ol (aI @On (aI @GQ (aI @GR (aI @Oo (aI @Oq (aI @vG (aI @xZ (aI @ya (aI @yc (aI @GU (aI @GV (aI @GW (aI @Ou (aI @Ov (aI @Ow (aI @Oy (aI @GX (aI @OB (aI @OC (aI @OD (aI @OE (aI @OG (@OH)))))))))))))))))))))))))))))))))))))))))))))))))))))))))))))))))))))))))))))))))
theorem OW:type_of%(aI @List.getElem?_cons_zero.{0} (aI @List.getElem?_cons_succ.{0} (aI @List.set_cons_zero.{0} (aI @List.set_cons_succ.{0} (aI @List.length_cons.{0} (aI @List.length_nil.{0} (aI @cR (aI @am0 (aI @fy (aI @jd (aI @decide_eq_true_eq (aI @decide_eq_false_iff_not (aI @true_and (aI @and_true (aI @if_true.{1} (aI @if_false.{1} (aI @true_or (aI @or_true (aI @oF (aI @am1 (aI @false_and (aI @and_false (aI @eK (aI @cx (aI @beq_self_eq_true.{0} (aI @bne_self_eq_false.{0} (aI @decide_true (aI @decide_false (aI @amJ (aI @Lu (aI @E2 (@am2)))))))))))))))))))))))))))))))):=aI @List.getElem?_cons_zero.{0} (aI @List.getElem?_cons_succ.{0} (aI @List.set_cons_zero.{0} (aI @List.set_cons_succ.{0} (aI @List.length_cons.{0} (aI @List.length_nil.{0} (aI @cR (aI @am0 (aI @fy (aI @jd (aI @decide_eq_true_eq (aI @decide_eq_false_iff_not (aI @true_and (aI @and_true (aI @if_true.{1} (aI @if_false.{1} (aI @true_or (aI @or_true (aI @oF (aI @am1 (aI @false_and (aI @and_false (aI @eK (aI @cx (aI @beq_self_eq_true.{0} (aI @bne_self_eq_false.{0} (aI @decide_true (aI @decide_false (aI @amJ (aI @Lu (aI @E2 (@am2)))))))))))))))))))))))))))))))
end Go.Proofs.YtmjolmggelkjlaaGreat.Ev
