import Derived.Test.YtmjolmggelkjlaaGreatMac
import Derived.ProofKit
import Derived.OpenShut
open Nat renaming le_refl→ah, zero_add→fD, add_zero→iO, mul_le_mul_right→qT, succ_mul→MF
open List renaming getElem?_eq_getElem→bB, replicate→bU, mem_cons_of_mem→vv, all_eq_true→AK, mem_cons_self→FH, getElem?_eq_none_iff→aof
open Bool renaming not_false→cf, not_true→eK, false_eq_true→oQ, true_and→Mn, and_false→Fw, and_true→an3, true_eq_false→aoj, false_and→aok
open Int renaming toNat_natCast→cV, toNat_zero→aoi
open Go.Lit renaming int→MD
open Go.DataW renaming trod→ME, trod_int→aob, trod_string→aoc, trod_bool→aod, trod_slice→aoe
open Go.Addr renaming add→ant
open Go.Value renaming okWide→aoh
set_option linter.unusedVariables false
set_option linter.unusedSimpArgs false
namespace Go.Proofs.YtmjolmggelkjlaaGreat.Ev
open Go Go.RowKit Go.WideShapes Go.ChangeShapes
def dS{d c:Type}(R:d->c->Prop):List d->List c->Prop
 |[],[]=>True
 |a::l,b::m=>R a b∧dS R l m
 |_,_=>False
theorem dS.length{b a:Type}{R:b->a->Prop}:∀{l:List b} {m:List a},dS R l m->l.length=m.length
 |[],[],_=>rfl
 |_::_,_::_,h=>by simp[dS.length h.2]
 |[],_::_,h=>h.elim
 |_::_,[],h=>h.elim
theorem dS.imp{d c:Type}{R S:d->c->Prop}:∀{l:List d} {m:List c},(∀a∈l,∀b,R a b->S a b)->dS R l m->dS S l m
 |[],[],_,_=>trivial
 |a::_,_::_,h,x=>⟨h a (FH ..) _ x.1,dS.imp (fun a e=>h a (vv _ e)) x.2⟩
 |[],_::_,_,x=>x.elim
 |_::_,[],_,x=>x.elim
theorem dS.append{b a:Type}{R:b->a->Prop}:∀{l d:List b} {m c:List a},dS R l m->dS R d c->dS R (l++d) (m++c)
 |[],_,[],_,_,h=>h
 |_::_,_,_::_,_,x,h=>⟨x.1,dS.append x.2 h⟩
 |[],_,_::_,_,x,_=>x.elim
 |_::_,_,[],_,x,_=>x.elim
def tN(g:TypeId->Option (List TypeId)):Nat->List Field->Option (List TypeId)
 |_,[]=>some []
 |o,b::r=>if b.offset=o then(match g b.type with
  |some a=>match tN g (o+a.length) r with
   |some c=>some (a++c)
   |none=>none
  |none=>none)else none
def jR(P:Program):Nat->TypeId->Option (List TypeId)
 |0,_=>none
 |f+1,t=>match P.underlying t with
  |some (.int _)|some .string|some .bool|some (.slice _)=>if P.cellsOf t=1 then some [t]else none
  |some (.struct b)=>match tN (jR P f) 0 b.toList with
   |some a=>if a.length=P.cellsOf t then some a else none
   |none=>none
  |some (.array n e)=>match jR P f e with
   |some a=>if n*a.length=P.cellsOf t∧a.length=P.cellsOf e then some (bU n a).flatten else none
   |none=>none
  |_=>none
theorem Pz{g:TypeId->Option (List TypeId)}{o:Nat}{c:Field}{r:List Field}{d:List TypeId}(h:tN g o (c::r)=some d):c.offset=o∧∃a b,g c.type=some a∧tN g (o+a.length) r=some b∧d=a++b:=by
 unfold tN at h;split at h
 ·rename_i i;split at h
  ·rename_i a f;split at h
   ·rename_i b e;cases h;exact⟨i,a,b,f,e,rfl⟩
   ·cases h
  ·cases h
 ·cases h
def tO(P:Program)(w:World):Nat->TypeId->Value->Prop
 |0,_,_=>False
 |f+1,t,v=>match P.underlying t with
  |some (.int k)=>∃n,v= .int k n∧(MD k n).wf=true
  |some .string=>∃s:ByteArray,v= .string s∧s.size<=maxLen
  |some .bool=>∃b,v= .bool b
  |some (.slice e)=>v= .slice none 0 0∨∃a len cap c,v= .slice (some a) len cap∧len<=cap∧cap<=maxLen∧jR P 8 e=some c∧0<c.length∧size? P e=some c.length∧
    ∀i,i<cap->∃d:List Value,(∀j u,d[j]? =some u->w.cell? (a.add (i*c.length+j))=some u)∧dS (tO P w f) c d
  |_=>False
def Cg(P:Program):Nat->TypeId->Bool
 |0,_=>false
 |f+1,t=>match P.underlying t with
  |some (.int _)|some .string|some .bool=>true
  |some (.slice e)=>match jR P 8 e with
   |some a=>decide (0<a.length)&&decide (size? P e=some a.length)&&a.all (Cg P f)
   |none=>false
  |_=>false
theorem adZ{w:World}{b:Nat}{a:Addr}{n:Nat}{c:List Value}(h:w.cells? b a n=some c):c.length=n∧∀j u,c[j]? =some u->w.cell? (a.add j)=some u:=by
 unfold World.cells? at h;split at h
 ·have d:=mapM_some_length h;simp only[List.length_range]at d;refine⟨d,fun j u e=> ?_⟩;have f:=(List.getElem?_eq_some_iff.1 e).1;have:=mapM_some_get h j j (by rw[List.getElem?_range jO]);rw[this];exact e
 ·cases h
theorem add_add(a:Addr)(i j:Nat):(a.add i).add j=a.add (i+j):=by
 unfold ant;by_cases b:j=0
 ·subst b;simp
 ·by_cases c:i=0
  ·subst c;simp
  ·have:¬(i+j=0):=jO;simp only[c,b,this,if_false];congr 1;omega
section
variable {H0:Type} {enc:TypeId×Value->H0} {P:Program} {w:World} {held:Bool}
theorem PA{g:TypeId->Option (List TypeId)}{R:TypeId->Value->Prop}{cs:List Value}:∀(l:List Field) (o:Nat) (c:List TypeId),tN g o l=some c->cs.length=o+c.length->
 (∀fd∈l,∀a,g fd.type=some a->a.length=P.cellsOf fd.type∧dS R a ((cs.drop fd.offset).take (P.cellsOf fd.type)))->dS R c (cs.drop o)
 |[],o,c,h,d,_=>by cases h;rw[List.drop_eq_nil_of_le (by simp at d;omega)];trivial
 |fd::r,o,c,h,d,j=>by
  obtain⟨p,a,b,n,m,rfl⟩:=Pz h;obtain⟨i,k⟩:=j fd (FH ..) a n;have:=PA r (o+a.length) b m (by simp at d;omega) fun fd f=>j fd (vv _ f);rw[p,<-i]at k;have e:cs.drop o=(cs.drop o).take a.length++cs.drop (o+a.length):=by rw[<-List.drop_drop,List.take_append_drop]
  rw[e];exact k.append this
theorem PB{R:TypeId->Value->Prop}:∀(f:Nat) (t:TypeId) (cs:List Value) (c:List TypeId) (m:Nat) (x:DataW H0×List MemPlace),jR P f t=some c->
 (∀s∈c,∀v m x,ME enc P w 0 (fun _=>true) held m s [v]=some x->R s v)->ME enc P w 0 (fun _=>true) held m t cs=some x->c.length=P.cellsOf t∧dS R c cs:=by
 intro f
 induction f with
 |zero=>intro t cs c m x h;cases h
 |succ f ih=>
  intro t cs c m x h W C;unfold jR at h
  have one:∀v,cs=[v]->(if P.cellsOf t=1 then some [t]else none)=some c->c.length=P.cellsOf t∧dS R c cs:=by
   intro v hv D;subst hv;by_cases T:P.cellsOf t=1
   ·rw[if_pos T]at D;cases D;exact⟨T.symm,W t (FH ..) v m x C,trivial⟩
   ·rw[if_neg T]at D;cases D
  split at h
  ·rename_i k z;obtain⟨n,rfl,_⟩:=aob z C;exact one _ rfl h
  ·rename_i z;obtain⟨n,rfl,_⟩:=aoc z C;exact one _ rfl h
  ·rename_i z;obtain⟨n,rfl,_⟩:=aod z C;exact one _ rfl h
  ·rename_i e z;rcases aoe z C with ⟨rfl,_⟩|⟨a,len,cap,Z,rest,n,_,rfl,_⟩
   ·exact one _ rfl h
   ·exact one _ rfl h
  ·rename_i Y z;split at h
   ·rename_i b B;split at h
    ·rename_i d;cases h;obtain⟨I,n,rfl,_,Q,_,A⟩:=DataW.trod_struct z C;refine⟨d, ?_⟩;have:=PA (P:=P) (R:=R) (cs:=cs) Y.toList 0 c B jO fun J G a ha=> ?_
     ·simpa using this
     ·obtain⟨i,hi⟩:=List.mem_iff_getElem?.1 G;have E:Y[i]? =some J:=by simpa using hi
      have p:=A i J E;cases j:I[i]? with
      |none=>exact absurd p (by
        rw[j];have:=(Array.getElem?_eq_some_iff.1 E).1;have X:I[i]? =none:=j;rw[aof]at X
        omega)
      |some y=>
       rw[j]at p
       exact ih J.type _ a n y ha (fun s u=>W s (by
        have:∀(l:List Field) (o:Nat) (c:List TypeId),tN (jR P f) o l=some c->J∈l->∀q∈a,q∈c:=by
         intro l
         induction l with
         |nil=>intro o c _ hm;simp at hm
         |cons g r O=>
          intro o c hh hm q D;obtain⟨_,a2,b2,K,e2,rfl⟩:=Pz hh;rcases List.mem_cons.1 hm with rfl|hm
          ·rw[ha]at K;cases K;exact List.mem_append.2 (.inl D)
          ·exact List.mem_append.2 (.inr (O _ _ e2 hm q D))
        exact this Y.toList 0 c B G s u)) p
    ·cases h
   ·cases h
  ·rename_i n e z;split at h
   ·rename_i b B;split at h
    ·rename_i d;obtain⟨d,u1⟩:=d;obtain⟨I,m',rfl,_,Q,u0,A⟩:=DataW.trod_array z C
     have U:n=0∨∀s∈b,s∈c:=by
      rcases Nat.eq_zero_or_pos n with q|q
      ·exact .inl q
      ·refine .inr fun s u=> ?_;cases h;rw[List.mem_flatten];exact⟨b,List.mem_replicate.2 ⟨jO,rfl⟩,u⟩
     have L:∀k,k<=n->dS R (bU k b).flatten (cs.take (k*b.length)):=by
      intro k
      induction k with
      |zero=>intro _;simp[dS]
      |succ k N=>
       intro u2;have h1:=N jO;have p:=A k jO;cases j:I[k]? with
       |none=>rw[aof]at j;omega
       |some y=>
        rw[j]at p
        obtain⟨X,h4⟩:=ih e _ b m' y B (fun s u=>W s (by
         rcases U with q|q
         ·omega
         ·exact q s u)) p
        rw[<-X]at h4;rw[List.replicate_succ',List.flatten_append,List.flatten_singleton]
        have K:cs.take ((k+1)*b.length)=cs.take (k*b.length)++(cs.drop (k*b.length)).take b.length:=by rw[MF,List.take_add]
        rw[K];exact h1.append h4
     cases h;refine⟨?_, ?_⟩
     ·rw[<-d];simp
     ·have:=L n (ah n);rwa[List.take_of_length_le jO]at this
    ·cases h
   ·cases h
  ·cases h
theorem ad0{f:Nat}:∀(t:TypeId) (v:Value) (m:Nat) (x:DataW H0×List MemPlace),Cg P f t=true->ME enc P w 0 (fun _=>true) held m t [v]=some x->tO P w f t v:=by
 induction f with
 |zero=>intro t v m x h;cases h
 |succ f N=>
  intro t v m x h l;unfold Cg at h;unfold tO;split at h
  ·rename_i k d;obtain⟨n,e,_,z⟩:=aob d l;simp at e;exact⟨n,e,z⟩
  ·rename_i d;obtain⟨s,e,_,z⟩:=aoc d l;simp at e;exact⟨s,e,z⟩
  ·rename_i d;obtain⟨b,e,_⟩:=aod d l;simp at e;exact⟨b,e⟩
  ·rename_i e d;split at h
   ·rename_i r p;simp only[Bool.and_eq_true,decide_eq_true_eq,AK]at h;obtain⟨⟨W,G⟩,U⟩:=h
    have T:P.cellsOf e=r.length:=by unfold size? at G;unfold Program.cellsOf;rw[G];rfl
    rcases aoe d l with ⟨o,_⟩|⟨a,len,cap,I,rest,n,_,o,_,_,Q,O,K,E,B,_⟩
    ·simp at o;exact .inl o
    ·simp at o;obtain⟨X,c⟩:=B rfl;refine .inr ⟨a,len,cap,r,o,Q,O,p,W,G,fun i Y=> ?_⟩
     have get:∃y,(w.cells? 0 (a.add (i*P.cellsOf e)) (P.cellsOf e)).bind (ME enc P w 0 (fun _=>true) held n e)=some y:=by
      by_cases C:i<len
      ·rw[E i C];exact⟨_,bB jO⟩
      ·have:=c (i-len) jO;rw[show len+(i-len)=i by omega]at this;rw[this];exact⟨_,bB jO⟩
     obtain⟨y,q⟩:=get;rw[Option.bind_eq_some_iff]at q;obtain⟨L,D,q⟩:=q;obtain⟨_,g⟩:=adZ D;refine⟨L,fun j u R=> ?_,(PB 8 e L r n y p (fun J A v m x l=>N J v m x (U J A) l) q).2⟩;have:=g j u R;rwa[add_add,T]at this
   ·cases h
  ·cases h
end
def eS(P:Program)(h:H)(n:Nat):Nat->TypeId->Value->Prop
 |0,_,_=>False
 |f+1,t,v=>match P.underlying t with
  |some (.int k)=>∃n,v= .int k n∧(MD k n).wf=true
  |some .string=>∃s:ByteArray,v= .string s∧s.size<=maxLen
  |some .bool=>∃b,v= .bool b
  |some (.slice e)=>(∃a,v= .slice a 0 0∧∀b o,a≠some ⟨b,o,none⟩)∨∃b len c d,v= .slice (some ⟨b,0,none⟩) len (bo+len)∧jR P 8 e=some c∧0<c.length∧h.get b=some ⟨e,false,d⟩∧b<n∧d.length=len*c.length∧len<=maxLen∧
    ∀i,i<len->dS (eS P h n f) c ((d.drop (i*c.length)).take c.length)
  |_=>False
theorem eS.au{P:Program}{h h':H}{n n':Nat}(u:n<=n')(l:∀b,b<n->h'.get b=h.get b):∀{f:Nat} {t:TypeId} {v:Value},eS P h n f t v->eS P h' n' f t v:=by
 intro f
 induction f with
 |zero=>intro t v x;exact x
 |succ f d=>
  intro t v x;unfold eS at x⊢;split at x
  ·exact x
  ·exact x
  ·exact x
  ·rcases x with q|⟨b,len,c,s,e,g,r,o,p,k,j,a⟩
   ·exact .inl q
   ·exact .inr ⟨b,len,c,s,e,g,r,(l b p).trans o,jO,k,j,fun i m=>(a i m).imp fun _ _ _ q=>d q⟩
  ·exact x
theorem ad1 {P:Program} {w:World} {m:Mp} {h:H} {n:Nat} (x:Laid P w m h n) {b off len cap:Nat} {cs:Array Value} {E:TypeId} {D:Nat×Nat} (X:w.heap[b]? =some (.cells cs E D)) {e:TypeId} {sz:Nat} (Y:size? P e=some sz) {vs p:List Value} (T:bu m vs p)
 (B:∀i v,p[i]? =some v->cs[off+i]? =some v) (L:vs.length=len*sz) (N:len<=cap) (O:off+cap*sz<=cs.size):
 ∃l,Laid P w l (h.set n (some ⟨e,false,vs⟩)) (n+1)∧VR l (.slice (some ⟨n,0,none⟩) len (bo+len)) (.slice (some ⟨b,off,none⟩) len cap)∧Le m l:=by
 let l:Mp:=fun c=>if c=n then some ⟨b,off,cs.size,sz,E⟩else m c
 have g:Le m l:=fun c d hd=>by
  by_cases j:c=n
  ·subst j;rw[x.fresh c (ah c)]at hd;cases hd
  ·show(if c=n then _ else _)=_;rw[if_neg j];exact hd
 let Q:H:=h.set n (some ⟨e,false,vs⟩);have J:l n=some ⟨b,off,cs.size,sz,E⟩:=if_pos rfl;have r:Q.get n=some ⟨e,false,vs⟩:=get_eq _ _ _;have K:len*sz<=cap*sz:=qT _ N
 have f:∀c C,Q.get c=some C->C.own=false:=fun c C a=>by
  by_cases j:c=n
  ·subst j;rw[r]at a;cases a;rfl
  ·rw[aw _ _ j]at a;exact x.own c C a
 refine⟨l,⟨⟨?_, ?_⟩,x.gl.mono g,fun c O=> ?_,f,by have:=x.glo;omega⟩,.gB J (fun _=>rfl) (fun q=>by unfold bo at q;omega) (fun _=>⟨ah _,jO⟩) N O,g⟩
 ·intro c C a;by_cases j:c=n
  ·subst j;rw[r]at a;cases a;refine⟨_,cs,D.1,D.2,J,X,rfl,by show off+vs.length<=cs.size;omega,Y,fun q=>(by cases q),fun k u y=> ?_⟩;obtain⟨t,o,z⟩:=T.get k u y;exact⟨t,B k t o,z.mono g⟩
  ·rw[aw _ _ j]at a;obtain⟨d,G,R,W,U,A,h1,h2,h3,h4,Z⟩:=x.wr.live c C a;refine⟨d,G,R,W,g _ _ U,A,h1,h2,h3,h4,fun k u y=> ?_⟩;obtain⟨t,o,z⟩:=Z k u y;exact⟨t,o,z.mono g⟩
 ·intro c c' C C' d d' a s I;rw[f c C a,f c' C' s]at I;simp at I
 ·show(if c=n then _ else _)=none;rw[if_neg jO];exact x.fresh c jO
def Ch(P:Program)(w:World)(R:TypeId->Value->Prop)(S:H->Nat->TypeId->Value->Prop):Prop:=∀t v,R t v->∀m h n,Laid P w m h n->∃c d a e,Laid P w c d a∧VR c e v∧S d a t e∧Le m c∧n<=a∧∀b,b<n->d.get b=h.get b
theorem bu.ad2{m a:Mp}(c:Le m a){l b:List Value}(h:bu m l b):bu a l b:=bu.mono c h
theorem Ci{P:Program}{w:World}{R:TypeId->Value->Prop}{S:H->Nat->TypeId->Value->Prop}(k:∀(h h':H) (n n':Nat),n<=n'->(∀b,b<n->h'.get b=h.get b)->∀t v,S h n t v->S h' n' t v)(ok:Ch P w R S):
 ∀(d:List TypeId) (vs:List Value),dS R d vs->∀m h n,Laid P w m h n->∃e h' n' a,Laid P w e h' n'∧bu e a vs∧dS (S h' n') d a∧Le m e∧n<=n'∧∀b,b<n->h'.get b=h.get b
 |[],[],_,m,h,n,x=>⟨m,h,n,[],x,.nil,trivial,Le.refl _,ah _,fun _ _=>rfl⟩
 |t::d,v::vs,c,m,h,n,x=>by obtain⟨u,E,r,p,o,A,B,y,I,z⟩:=ok t v c.1 m h n x;obtain⟨s,D,q,a,l,f,g,i,G,j⟩:=Ci k ok d vs c.2 u E r o;exact⟨s,D,q,p::a,l,.cons (A.mono i) f,⟨k _ _ _ _ G j _ _ B,g⟩,y.trans i,jO,fun b C=>(j b jO).trans (z b C)⟩
 |[],_::_,c,_,_,_,_=>c.elim
 |_::_,[],c,_,_,_,_=>c.elim
theorem ad3{a:Type}{l r:List a}{k c:Nat}(h:k+c<=l.length):((l++r).drop k).take c=(l.drop k).take c:=by rw[List.drop_append_of_le_length jO,List.take_append_of_le_length (by simp;omega)]
theorem ad4{P:Program}{w:World}{R:TypeId->Value->Prop}{S:H->Nat->TypeId->Value->Prop}(K:∀(h h':H) (n n':Nat),n<=n'->(∀b,b<n->h'.get b=h.get b)->∀t v,S h n t v->S h' n' t v)(ok:Ch P w R S){d:List TypeId}{a:Addr}:
 ∀(len:Nat),(∀i,i<len->∃f:List Value,(∀j u,f[j]? =some u->w.cell? (a.add (i*d.length+j))=some u)∧dS R d f)->∀m h n,Laid P w m h n->
  ∃A h' n' c vs,Laid P w A h' n'∧bu A c vs∧vs.length=len*d.length∧(∀i u,vs[i]? =some u->w.cell? (a.add i)=some u)∧(∀i,i<len->dS (S h' n') d ((c.drop (i*d.length)).take d.length))∧Le m A∧n<=n'∧∀b,b<n->h'.get b=h.get b:=by
 intro len
 induction len with
 |zero=>intro _ m h n x;exact⟨m,h,n,[],[],x,.nil,jS,fun i u e=>by simp at e,fun i z=>by omega,Le.refl _,ah _,fun _ _=>rfl⟩
 |succ len Y=>
  intro r m h n x;obtain⟨U,h1,Q,c,vs,N,I,J,hc,Z,W,g1,X⟩:=Y (fun i z=>r i jO) m h n x;obtain⟨f,D,s⟩:=r len jO;obtain⟨T,h2,O,y,L,B,g,E,g2,G⟩:=Ci K ok d f s U h1 Q N;have k:c.length=len*d.length:=by rw[I.length,J]
  have p:y.length=d.length:=g.length.symm;have o:f.length=d.length:=s.length.symm;refine⟨T,h2,O,c++y,vs++f,L,(I.ad2 E).append B,by rw[List.length_append,J,o,MF],fun i u e=> ?_,fun i z=> ?_,W.trans E,jO,fun b hb=>(G b jO).trans (X b hb)⟩
  ·by_cases z:i<vs.length
   ·rw[List.getElem?_append_left z]at e;exact hc i u e
   ·rw[List.getElem?_append_right jO]at e;have:=D _ u e;rwa[show len*d.length+(i-vs.length)=i by omega]at this
  ·by_cases l:i<len
   ·have C:i*d.length+d.length<=c.length:=by rw[k,<-MF];exact qT _ l
    rw[ad3 C];exact(Z i l).imp fun _ _ _ q=>K _ _ _ _ g2 G _ _ q
   ·obtain rfl:i=len:=jO;rw[<-k,List.drop_left,<-p,List.take_length];exact g
theorem ad5{P:Program}{w:World}:∀(f:Nat),Ch P w (tO P w f) (fun h n=>eS P h n f):=by
 intro f
 induction f with
 |zero=>intro t v g;exact g.elim
 |succ f ih=>
  intro t v g m h n x;unfold tO at g
  have same:∀j,VR m j v->eS P h n (f+1) t j->∃Q h' O j,Laid P w Q h' O∧VR Q j v∧eS P h' O (f+1) t j∧Le m Q∧n<=O∧∀b,b<n->h'.get b=h.get b:=
   fun j K h2=>⟨m,h,n,j,x,K,h2,Le.refl _,ah _,fun _ _=>rfl⟩
  split at g
  ·rename_i k d;obtain⟨z,rfl,R⟩:=g;exact same _ (.int k z) (by unfold eS;rw[d];exact⟨z,rfl,R⟩)
  ·rename_i d;obtain⟨z,rfl,R⟩:=g;exact same _ (.string z) (by unfold eS;rw[d];exact⟨z,rfl,R⟩)
  ·rename_i d;obtain⟨z,rfl⟩:=g;exact same _ (.bool z) (by unfold eS;rw[d];exact⟨z,rfl⟩)
  ·rename_i e d;rcases g with rfl|⟨a,len,cap,l,rfl,hl,hm,W,h0,X,s⟩
   ·exact same _ (.mh 0 0 ⟨ah _,by unfold bo;omega⟩) (by unfold eS;rw[d];exact .inl ⟨none,rfl,fun _ _=>by simp⟩)
   ·by_cases u0:cap=0
    ·obtain rfl:len=0:=jO;subst u0;exact same (.slice (some ⟨0,0,some 0⟩) 0 0) (.o4 0 0 0 a) (by unfold eS;rw[d];exact .inl ⟨_,rfl,fun b o q=>by simp at q⟩)
    ·have first:∃b off,a=⟨b,off,none⟩∧∃J N L,w.heap[b]? =some (.cells J N L)∧off+cap*l.length<=J.size:=by
      obtain⟨es,Z,Y⟩:=s (cap-1) jO;obtain⟨u1,I,G⟩:=s 0 jO;have u5:=Y.length;have u4:=G.length;have c0:=I 0 u1[0] jS;obtain⟨b,off,B⟩:=a;have r:B=none:=by simpa[ant]using World.cell?_spot c0
      subst r;obtain⟨J,N,L,D,_⟩:=adW (by rw[lC]at c0;exact c0);refine⟨b,off,rfl,J,N,L,D, ?_⟩;have cl:=Z (l.length-1) es[l.length-1] (bB jO);rw[lC,vD w _ _ D]at cl;have u3:=(Array.getElem?_eq_some_iff.1 cl).1
      have u2:(cap-1)*l.length+l.length=cap*l.length:=by rw[<-MF];congr 1;omega
      omega
     obtain⟨b,off,rfl,J,N,L,D,E⟩:=first
     obtain⟨m1,K,p,A,vs,x1,U,C,y,hs,l1,g1,k1⟩:=ad4 (S:=fun h n=>eS P h n f) (fun _ _ _ _ hn d _ _ q=>eS.au hn d q) ih len (fun i hi=>s i jO) m h n x
     obtain⟨m2,x2,T,l2⟩:=ad1 (len:=len) (cap:=cap) (off:=off) x1 D X U (fun i u hu=>by
      have:=y i u hu
      rwa[lC,vD w _ _ D]at this) (by rw[U.length,C]) hl E
     have kk:∀c,c<p->(K.set p (some ⟨e,false,A⟩)).get c=K.get c:=fun c hc=>aw _ _ jO;refine⟨m2,_,p+1,_,x2,T, ?_,l1.trans l2,jO,fun c hc=>(kk c jO).trans (k1 c hc)⟩;show eS P _ (p+1) (f+1) t _;unfold eS;rw[d];refine .inr ⟨p,len,l,A,rfl,W,h0,get_eq _ _ _,Nat.lt_succ_self p,by rw[U.length,C],jO,fun i hi=>(hs i hi).imp fun _ _ _ q=>eS.au (Nat.le_succ p) kk q⟩
  ·exact g.elim
def mX(P:Program)(t:TypeId):Bool:=match P.underlying t with
 |some (.struct _)|some (.array _ _)=>true
 |_=>false
def qz(P:Program)(w:World)(t:TypeId)(v:Value):Prop:=∃a,jR P 8 t=some a∧dS (tO P w 8) a v.cells.toList∧(mX P t=true->∃b,v= .agg b)∧(mX P t=false->v.cells=#[v])
def mA(P:Program)(h:H)(n:Nat)(t:TypeId)(v:Value):Prop:=∃a,jR P 8 t=some a∧((mX P t=true∧∃b,v= .agg b∧dS (eS P h n 8) a b.toList)∨(mX P t=false∧dS (eS P h n 8) a [v]))
def PC(P:Program)(t:TypeId):Bool:=match jR P 8 t with
 |some a=>a.all (Cg P 8)
 |none=>false
theorem Hw{B:Type}{enc:TypeId×Value->B}{P:Program}{w:World}{held:Bool}{r:Reach}{I:Nat}{t:TypeId}{v:Value}{d:DataW B}{p:List MemPlace}(j:PC P t=true)(i:aoh P w r I t v)(h:DataW.Trod enc P w 0 (fun _=>true) held t v d p):qz P w t v:=by
 unfold PC at j;split at j
 ·rename_i z f;rw[AK]at j;obtain⟨m,D⟩:=h;have E:=PB (R:=tO P w 8) 8 t v.cells.toList z m _ f (fun A o u m x C=>ad0 A u m x (j A o) C) D;refine⟨z,f,E.2,fun g=> ?_,fun g=> ?_⟩
  ·unfold mX at g;split at g
   ·rename_i G b;obtain⟨y,e,_⟩:=okWide_struct b i;exact⟨y,e⟩
   ·rename_i q e b;simp only[aoh,b]at i;obtain⟨y,e,_⟩:=i;exact⟨y,e⟩
   ·cases g
  ·have s:P.cellsOf t=1∨True:= .inr trivial;unfold jR at f;unfold mX at g;split at f
   ·rename_i k b;obtain⟨n,e⟩:=okWide_int b i;rw[e];rfl
   ·rename_i b;obtain⟨n,e⟩:=okWide_string b i;rw[e];rfl
   ·rename_i b;obtain⟨n,e⟩:=okWide_bool b i;rw[e];rfl
   ·rename_i e b;obtain⟨a,l,c,e⟩:=okWide_slice b i;rw[e];rfl
   ·rename_i G b;rw[b]at g;cases g
   ·rename_i q e b;rw[b]at g;cases g
   ·cases f
 ·cases j
theorem ad6{P:Program}{w:World}:Ch P w (qz P w) (mA P):=by
 intro t v u m h n x;obtain⟨f,c,d,C,B⟩:=u;obtain⟨j,p,i,a,g,b,o,k,r,l⟩:=Ci (S:=fun h n=>eS P h n 8) (fun _ _ _ _ y z _ _ q=>eS.au y z q) (ad5 8) f _ d m h n x;cases e:mX P t with
 |true=>obtain⟨D,rfl⟩:=C e;exact⟨j,p,i,.agg a.toArray,g,.agg b,⟨f,c,.inl ⟨e,a.toArray,rfl,o⟩⟩,k,r,l⟩
 |false=>
  have A:=B e;rw[A]at b;cases b with
  |cons b s=>cases s;exact⟨j,p,i,_,g,b,⟨f,c,.inr ⟨e,o⟩⟩,k,r,l⟩
theorem mA.au{P:Program}{h h':H}{n n':Nat}(f:n<=n')(g:∀b,b<n->h'.get b=h.get b){t:TypeId}{v:Value}(x:mA P h n t v):mA P h' n' t v:=by
 obtain⟨e,a,q⟩:=x;rcases q with ⟨d,j,c,i⟩|⟨d,c⟩
 ·exact⟨e,a,.inl ⟨d,j,c,i.imp fun _ _ _ q=>eS.au f g q⟩⟩
 ·exact⟨e,a,.inr ⟨d,c.imp fun _ _ _ q=>eS.au f g q⟩⟩
theorem ad7 {P:Program} (j:ri P=true) (i:qf P KN=true) (c:P.follows .mixedOrders=true) (k:tg P KN) (hd:j9 P=true) {w:World} {gt:Nat->Hint} {Y d:Nat} {f:FuncId} {g:List TypeId} {vs:List Value} (y:dS (qz P w) g vs) {m0:Mp} {l:H} (x0:Laid P w m0 l P.globals.size)
 (r:∀n h a,P.globals.size<=n->(∀b,b<P.globals.size->h.get b=l.get b)->dS (mA P h n) g a->af (fun _=>False) n (aj P gt Y d f a.toArray) h n fun v _ _=>v= .bool true):Calls P f vs.toArray w fun e w'=>e= .returned (.bool true)∧Below w.heap.size w w':=by
 obtain⟨B,z,o,a,m,s,t,_,A,p⟩:=Ci (S:=mA P) (fun _ _ _ _ u x _ _ q=>mA.au u x q) ad6 g vs y m0 l _ x0;exact adY j i c k hd m s (r o z a A p t)
end Go.Proofs.YtmjolmggelkjlaaGreat.Ev
namespace Go.Proofs.YtmjolmggelkjlaaGreat.Ev
open Go Go.RowKit
end Go.Proofs.YtmjolmggelkjlaaGreat.Ev
namespace Go.Proofs.YtmjolmggelkjlaaGreat.Ev
open Go
set_option maxRecDepth 4000
theorem PD:type_of%(aI @tG (aI @On (aI @Oo (aI @Oj (aI @Ol (aI @Oi (aI @Og (aI @lF (aI @yu (aI @Oh (aI @Pf (aI @Pg (aI @dG (aI @get_eq (aI @aw (aI @Oq (aI @Ot (aI @Ou (aI @Ov (aI @Ow (aI @Oy (aI @Oz (aI @OA (aI @OB (aI @OC (aI @OD (aI @OE (aI @OG (aI @OH (aI @OI (aI @OJ (aI @tH (aI @tI (aI @apy (aI @He (aI @OK (aI @OL (aI @Hf (aI @OM (aI @ON (aI @OO (aI @OP (aI @yv (aI @OQ (aI @OR (aI @OS (aI @OT (aI @OU (aI @OV (aI @OW (aI @OX (aI @OY (aI @OZ (aI @O1 (aI @O2 (aI @O3 (aI @O4 (aI @O5 (aI @O6 (aI @O7 (aI @O8 (aI @Hi (aI @Hj (aI @O9 (aI @O' (aI @vV (aI @yx (aI @yy (aI @yz (aI @Hl (aI @Hm (aI @Hn (aI @Pb (aI @Pc (aI @Pd (aI @Pe (aI @Ho (aI @Ph (aI @Pj (aI @Pl (aI @Pm (aI @Pn (@Po))))))))))))))))))))))))))))))))))))))))))))))))))))))))))))))))))))))))))))))))))):=aI @tG (aI @On (aI @Oo (aI @Oj (aI @Ol (aI @Oi (aI @Og (aI @lF (aI @yu (aI @Oh (aI @Pf (aI @Pg (aI @dG (aI @get_eq (aI @aw (aI @Oq (aI @Ot (aI @Ou (aI @Ov (aI @Ow (aI @Oy (aI @Oz (aI @OA (aI @OB (aI @OC (aI @OD (aI @OE (aI @OG (aI @OH (aI @OI (aI @OJ (aI @tH (aI @tI (aI @apy (aI @He (aI @OK (aI @OL (aI @Hf (aI @OM (aI @ON (aI @OO (aI @OP (aI @yv (aI @OQ (aI @OR (aI @OS (aI @OT (aI @OU (aI @OV (aI @OW (aI @OX (aI @OY (aI @OZ (aI @O1 (aI @O2 (aI @O3 (aI @O4 (aI @O5 (aI @O6 (aI @O7 (aI @O8 (aI @Hi (aI @Hj (aI @O9 (aI @O' (aI @vV (aI @yx (aI @yy (aI @yz (aI @Hl (aI @Hm (aI @Hn (aI @Pb (aI @Pc (aI @Pd (aI @Pe (aI @Ho (aI @Ph (aI @Pj (aI @Pl (aI @Pm (aI @Pn (@Po))))))))))))))))))))))))))))))))))))))))))))))))))))))))))))))))))))))))))))))))))
theorem PE:type_of%(aI @List.getElem?_cons_zero.{0} (aI @List.getElem?_cons_succ.{0} (aI @List.set_cons_zero.{0} (aI @List.set_cons_succ.{0} (aI @List.length_cons.{0} (aI @List.length_nil.{0} (aI @cV (aI @aoi (aI @fD (aI @iO (aI @decide_eq_true_eq (aI @decide_eq_false_iff_not (aI @true_and (aI @and_true (aI @if_true.{1} (aI @if_false.{1} (aI @true_or (aI @or_true (aI @oQ (aI @aoj (aI @false_and (aI @and_false (aI @eK (aI @cf (aI @beq_self_eq_true.{0} (aI @bne_self_eq_false.{0} (aI @decide_true (aI @decide_false (aI @an3 (aI @Mn (aI @Fw (@aok)))))))))))))))))))))))))))))))):=aI @List.getElem?_cons_zero.{0} (aI @List.getElem?_cons_succ.{0} (aI @List.set_cons_zero.{0} (aI @List.set_cons_succ.{0} (aI @List.length_cons.{0} (aI @List.length_nil.{0} (aI @cV (aI @aoi (aI @fD (aI @iO (aI @decide_eq_true_eq (aI @decide_eq_false_iff_not (aI @true_and (aI @and_true (aI @if_true.{1} (aI @if_false.{1} (aI @true_or (aI @or_true (aI @oQ (aI @aoj (aI @false_and (aI @and_false (aI @eK (aI @cf (aI @beq_self_eq_true.{0} (aI @bne_self_eq_false.{0} (aI @decide_true (aI @decide_false (aI @an3 (aI @Mn (aI @Fw (@aok)))))))))))))))))))))))))))))))
end Go.Proofs.YtmjolmggelkjlaaGreat.Ev
