import Derived.Test.YtcehhgppfahbkaaGreatDoorMac
import Derived.ProofKit
import Derived.OpenShut
import Derived.Lib.Strings
import Derived.WideShapes
import Derived.WalkLawsBesides
open Nat renaming le_refl→ag, ble→bh, beq→bq, le_succ→cI, lt_of_lt_of_le→dC, lt_succ_self→dL, add_mul→ff, zero_add→fD, add_assoc→gH, add_zero→iA, not_lt_zero→jr, ble_eq_true_of_le→jT, mod_eq_of_lt→kB, mod_lt→lH, pow_succ→ng, one_mul→ow, mul_comm→oy, min_eq_left→p9, beq_refl→rq, eq_zero_or_pos→tX, lt_irrefl→ub, mul_le_mul_right→vJ, add_comm→vL, mul_assoc→yx, succ_mul→C9, zero_mul→It, sub_zero→IJ, add_left_comm→IM, add_sub_cancel→ahg, lt_or_gt_of_ne→ahh
open List renaming getD_eq_getElem?_getD→au, length_append→ay, getElem?_eq_getElem→aC, range→aV, replicate→bI, length_cons→bL, append_nil→bV, getElem_mem→cu, drop_zero→dj, length_nil→eF, length_map→eR, mem_cons_of_mem→eU, take_length→fi, length_drop→fO, take_of_length_le→fZ, take_append_drop→iC, getElem?_eq_none→jq, mem_cons_self→jW, all_eq_true→kz, length_range→kC, map_cons→lE, ext_getElem→mr, getElem?_append_right→ou, mem_cons→ox, pairwise_append→oB, getElem?_append_left→pX, nil_append→p7, mem_append→p8, pairwise_cons→qa, take_zero→ru, eq_nil_of_length_eq_zero→uc, not_mem_nil→vM, foldl_cons→CT, flatten_cons→Db, mem_singleton→Dc, sum_cons→Dd, mem_append_left→Im, pairwise_iff_getElem→IL, pairwise_singleton→IQ, getElem?_take→Vt, getElem?_drop→Vu, flatten_append→VH, drop_eq_nil_of_le→ag2, drop_drop→ag3, getElem?_eq_none_iff→ag8, drop_left→ag', take_left→aha, take_take→ahb, getElem?_set→ahf, getD_cons_zero→ahi
open Bool renaming and_eq_true→bE, not_true→fY, not_false→iD, false_eq_true→lF, or_eq_true→ml, true_and→oq, false_and→vO, false_or→yn, and_false→CZ, eq_false_iff→VI, and_eq_true_iff→VJ, eq_iff_iff→agk, and_true→agR, true_eq_false→ahk
open UInt8 renaming ofNat→dZ, lt_irrefl→yv, lt_iff_toNat_lt→IK, le_antisymm→ahc
open Int renaming toNat_natCast→fg, toNat_zero→ahj
open Go.Value renaming slice→fN, okWide→ag_
open Prod renaming ext_iff→oz
open List.Perm renaming refl→ud, eq_of_pairwise→ahe
open Option renaming some→vN
open Decidable renaming byContradiction→yw
open Go.DataW renaming trod→II, trod_int→ag4, trod_string→ag5, trod_bool→ag6, trod_slice→ag7
open List.Pairwise renaming nil→IP, imp→aix
open Go.Lit renaming int→VG
open Go.Addr renaming add→agh
set_option linter.unusedVariables false
set_option linter.unusedSimpArgs false
namespace Go.Proofs.YtcehhgppfahbkaaGreatDoor.Ev
open Go Go.RowKit Go.WideShapes Go.ChangeShapes
def dz{d c:Type}(R:d->c->Prop):List d->List c->Prop
 |[],[]=>True
 |a::l,b::m=>R a b∧dz R l m
 |_,_=>False
theorem dz.length{b a:Type}{R:b->a->Prop}:∀{l:List b} {m:List a},dz R l m->l.length=m.length
 |[],[],_=>rfl
 |_::_,_::_,h=>by simp[dz.length h.2]
 |[],_::_,h=>h.elim
 |_::_,[],h=>h.elim
theorem dz.imp{d c:Type}{R S:d->c->Prop}:∀{l:List d} {m:List c},(∀a∈l,∀b,R a b->S a b)->dz R l m->dz S l m
 |[],[],_,_=>trivial
 |a::_,_::_,h,x=>⟨h a (jW ..) _ x.1,dz.imp (fun a e=>h a (eU _ e)) x.2⟩
 |[],_::_,_,x=>x.elim
 |_::_,[],_,x=>x.elim
theorem dz.append{b a:Type}{R:b->a->Prop}:∀{l c:List b} {m m':List a},dz R l m->dz R c m'->dz R (l++c) (m++m')
 |[],_,[],_,_,h=>h
 |_::_,_,_::_,_,x,h=>⟨x.1,dz.append x.2 h⟩
 |[],_,_::_,_,x,_=>x.elim
 |_::_,_,[],_,x,_=>x.elim
def r4(g:TypeId->Option (List TypeId)):Nat->List Field->Option (List TypeId)
 |_,[]=>some []
 |o,b::r=>if b.offset=o then(match g b.type with
  |some a=>match r4 g (o+a.length) r with
   |some c=>some (a++c)
   |none=>none
  |none=>none)else none
def jG(P:Program):Nat->TypeId->Option (List TypeId)
 |0,_=>none
 |f+1,t=>match P.underlying t with
  |some (.int _)|some .string|some .bool|some (.slice _)=>if P.cellsOf t=1 then some [t]else none
  |some (.struct b)=>match r4 (jG P f) 0 b.toList with
   |some a=>if a.length=P.cellsOf t then some a else none
   |none=>none
  |some (.array n e)=>match jG P f e with
   |some a=>if n*a.length=P.cellsOf t∧a.length=P.cellsOf e then some (bI n a).flatten else none
   |none=>none
  |_=>none
theorem LG{g:TypeId->Option (List TypeId)}{o:Nat}{c:Field}{r:List Field}{ts:List TypeId}(h:r4 g o (c::r)=some ts):c.offset=o∧∃a b,g c.type=some a∧r4 g (o+a.length) r=some b∧ts=a++b:=by
 unfold r4 at h;split at h
 ·rename_i f;split at h
  ·rename_i a e;split at h
   ·rename_i b d;cases h;exact⟨f,a,b,e,d,rfl⟩
   ·cases h
  ·cases h
 ·cases h
def r5(P:Program)(w:World):Nat->TypeId->Value->Prop
 |0,_,_=>False
 |f+1,t,v=>match P.underlying t with
  |some (.int k)=>∃n,v= .int k n∧(VG k n).wf=true
  |some .string=>∃s:ByteArray,v= .string s∧s.size<=maxLen
  |some .bool=>∃b,v= .bool b
  |some (.slice e)=>v= .slice none 0 0∨∃a len cap c,v= .slice (some a) len cap∧len<=cap∧cap<=maxLen∧jG P 8 e=some c∧0<c.length∧size? P e=some c.length∧
    ∀i,i<cap->∃d:List Value,(∀j u,d[j]? =some u->w.cell? (a.add (i*c.length+j))=some u)∧dz (r5 P w f) c d
  |_=>False
def zV(P:Program):Nat->TypeId->Bool
 |0,_=>false
 |f+1,t=>match P.underlying t with
  |some (.int _)|some .string|some .bool=>true
  |some (.slice e)=>match jG P 8 e with
   |some a=>decide (0<a.length)&&decide (size? P e=some a.length)&&a.all (zV P f)
   |none=>false
  |_=>false
theorem YI{w:World}{b:Nat}{a:Addr}{n:Nat}{c:List Value}(h:w.cells? b a n=some c):c.length=n∧∀j u,c[j]? =some u->w.cell? (a.add j)=some u:=by
 unfold World.cells? at h;split at h
 ·have d:=mapM_some_length h;simp only[kC]at d;refine⟨d,fun j u e=> ?_⟩;have f:=(List.getElem?_eq_some_iff.1 e).1;have:=mapM_some_get h j j (by rw[List.getElem?_range jO]);rw[this];exact e
 ·cases h
theorem add_add(a:Addr)(i j:Nat):(a.add i).add j=a.add (i+j):=by
 unfold agh;by_cases b:j=0
 ·subst b;simp
 ·by_cases c:i=0
  ·subst c;simp
  ·have:¬(i+j=0):=jO;simp only[c,b,this,if_false];congr 1;omega
section
variable {H0:Type} {enc:TypeId×Value->H0} {P:Program} {w:World} {held:Bool}
theorem LH{g:TypeId->Option (List TypeId)}{R:TypeId->Value->Prop}{cs:List Value}:∀(k:List Field) (o:Nat) (ts:List TypeId),r4 g o k=some ts->cs.length=o+ts.length->
 (∀fd∈k,∀a,g fd.type=some a->a.length=P.cellsOf fd.type∧dz R a ((cs.drop fd.offset).take (P.cellsOf fd.type)))->dz R ts (cs.drop o)
 |[],o,ts,h,c,_=>by cases h;rw[ag2 (by simp at c;omega)];trivial
 |fd::r,o,ts,h,c,i=>by
  obtain⟨n,a,b,m,l,rfl⟩:=LG h;obtain⟨f,j⟩:=i fd (jW ..) a m;have:=LH r (o+a.length) b l (by simp at c;omega) fun fd d=>i fd (eU _ d);rw[n,<-f]at j;have e:cs.drop o=(cs.drop o).take a.length++cs.drop (o+a.length):=by rw[<-ag3,iC]
  rw[e];exact j.append this
theorem LI{R:TypeId->Value->Prop}:∀(f:Nat) (t:TypeId) (cs:List Value) (ts:List TypeId) (m:Nat) (x:DataW H0×List MemPlace),jG P f t=some ts->
 (∀p∈ts,∀v m x,II enc P w 0 (fun _=>true) held m p [v]=some x->R p v)->II enc P w 0 (fun _=>true) held m t cs=some x->ts.length=P.cellsOf t∧dz R ts cs:=by
 intro f
 induction f with
 |zero=>intro t cs ts m x h;cases h
 |succ f Z=>
  intro t cs ts m x h T B;unfold jG at h
  have one:∀v,cs=[v]->(if P.cellsOf t=1 then some [t]else none)=some ts->ts.length=P.cellsOf t∧dz R ts cs:=by
   intro v hv C;subst hv;by_cases O:P.cellsOf t=1
   ·rw[if_pos O]at C;cases C;exact⟨O.symm,T t (jW ..) v m x B,trivial⟩
   ·rw[if_neg O]at C;cases C
  split at h
  ·rename_i k u;obtain⟨n,rfl,_⟩:=ag4 u B;exact one _ rfl h
  ·rename_i u;obtain⟨n,rfl,_⟩:=ag5 u B;exact one _ rfl h
  ·rename_i u;obtain⟨n,rfl,_⟩:=ag6 u B;exact one _ rfl h
  ·rename_i e u;rcases ag7 u B with ⟨rfl,_⟩|⟨a,len,cap,X,Y,n,_,rfl,_⟩
   ·exact one _ rfl h
   ·exact one _ rfl h
  ·rename_i W u;split at h
   ·rename_i b A;split at h
    ·rename_i c;cases h;obtain⟨F,n,rfl,_,N,_,z⟩:=DataW.trod_struct u B;refine⟨c, ?_⟩;have:=LH (P:=P) (R:=R) (cs:=cs) W.toList 0 ts A jO fun G E a ha=> ?_
     ·simpa using this
     ·obtain⟨i,hi⟩:=List.mem_iff_getElem?.1 E;have D:W[i]? =some G:=by simpa using hi
      have j:=z i G D;cases d:F[i]? with
      |none=>exact absurd j (by
        rw[d];have:=(Array.getElem?_eq_some_iff.1 D).1;have U:F[i]? =none:=d;rw[ag8]at U
        omega)
      |some y=>
       rw[d]at j
       exact Z G.type _ a n y ha (fun p s=>T p (by
        have:∀(l:List Field) (o:Nat) (ts:List TypeId),r4 (jG P f) o l=some ts->G∈l->∀q∈a,q∈ts:=by
         intro l
         induction l with
         |nil=>intro o ts _ hm;simp at hm
         |cons g r L=>
          intro o ts hh hm q C;obtain⟨_,a2,b2,I,e2,rfl⟩:=LG hh;rcases ox.1 hm with rfl|hm
          ·rw[ha]at I;cases I;exact p8.2 (.inl C)
          ·exact p8.2 (.inr (L _ _ e2 hm q C))
        exact this W.toList 0 ts A E p s)) j
    ·cases h
   ·cases h
  ·rename_i n e u;split at h
   ·rename_i b A;split at h
    ·rename_i c;obtain⟨c,u1⟩:=c;obtain⟨F,m',rfl,_,N,u0,z⟩:=DataW.trod_array u B
     have Q:n=0∨∀p∈b,p∈ts:=by
      rcases tX n with q|q
      ·exact .inl q
      ·refine .inr fun p s=> ?_;cases h;rw[List.mem_flatten];exact⟨b,List.mem_replicate.2 ⟨jO,rfl⟩,s⟩
     have J:∀k,k<=n->dz R (bI k b).flatten (cs.take (k*b.length)):=by
      intro k
      induction k with
      |zero=>intro _;simp[dz]
      |succ k K=>
       intro u2;have h1:=K jO;have j:=z k jO;cases d:F[k]? with
       |none=>rw[ag8]at d;omega
       |some y=>
        rw[d]at j
        obtain⟨U,h4⟩:=Z e _ b m' y A (fun p s=>T p (by
         rcases Q with q|q
         ·omega
         ·exact q p s)) j
        rw[<-U]at h4;rw[List.replicate_succ',VH,List.flatten_singleton]
        have I:cs.take ((k+1)*b.length)=cs.take (k*b.length)++(cs.drop (k*b.length)).take b.length:=by rw[C9,List.take_add]
        rw[I];exact h1.append h4
     cases h;refine⟨?_, ?_⟩
     ·rw[<-c];simp
     ·have:=J n (ag n);rwa[fZ jO]at this
    ·cases h
   ·cases h
  ·cases h
theorem YJ{f:Nat}:∀(t:TypeId) (v:Value) (m:Nat) (x:DataW H0×List MemPlace),zV P f t=true->II enc P w 0 (fun _=>true) held m t [v]=some x->r5 P w f t v:=by
 induction f with
 |zero=>intro t v m x h;cases h
 |succ f N=>
  intro t v m x h l;unfold zV at h;unfold r5;split at h
  ·rename_i k d;obtain⟨n,e,_,z⟩:=ag4 d l;simp at e;exact⟨n,e,z⟩
  ·rename_i d;obtain⟨s,e,_,z⟩:=ag5 d l;simp at e;exact⟨s,e,z⟩
  ·rename_i d;obtain⟨b,e,_⟩:=ag6 d l;simp at e;exact⟨b,e⟩
  ·rename_i e d;split at h
   ·rename_i r p;simp only[bE,decide_eq_true_eq,kz]at h;obtain⟨⟨W,F⟩,U⟩:=h
    have T:P.cellsOf e=r.length:=by unfold size? at F;unfold Program.cellsOf;rw[F];rfl
    rcases ag7 d l with ⟨o,_⟩|⟨a,len,cap,G,J,n,_,o,_,_,Q,O,K,E,B,_⟩
    ·simp at o;exact .inl o
    ·simp at o;obtain⟨X,c⟩:=B rfl;refine .inr ⟨a,len,cap,r,o,Q,O,p,W,F,fun i Y=> ?_⟩
     have get:∃y,(w.cells? 0 (a.add (i*P.cellsOf e)) (P.cellsOf e)).bind (II enc P w 0 (fun _=>true) held n e)=some y:=by
      by_cases C:i<len
      ·rw[E i C];exact⟨_,aC jO⟩
      ·have:=c (i-len) jO;rw[show len+(i-len)=i by omega]at this;rw[this];exact⟨_,aC jO⟩
     obtain⟨y,q⟩:=get;rw[Option.bind_eq_some_iff]at q;obtain⟨L,D,q⟩:=q;obtain⟨_,g⟩:=YI D;refine⟨L,fun j u R=> ?_,(LI 8 e L r n y p (fun I A v m x l=>N I v m x (U I A) l) q).2⟩;have:=g j u R;rwa[add_add,T]at this
   ·cases h
  ·cases h
end
def eg(P:Program)(h:H)(n:Nat):Nat->TypeId->Value->Prop
 |0,_,_=>False
 |f+1,t,v=>match P.underlying t with
  |some (.int k)=>∃n,v= .int k n∧(VG k n).wf=true
  |some .string=>∃s:ByteArray,v= .string s∧s.size<=maxLen
  |some .bool=>∃b,v= .bool b
  |some (.slice e)=>(∃a,v= .slice a 0 0∧∀b o,a≠some ⟨b,o,none⟩)∨∃b len c d,v= .slice (some ⟨b,0,none⟩) len (aL+len)∧jG P 8 e=some c∧0<c.length∧h.get b=some ⟨e,false,d⟩∧b<n∧d.length=len*c.length∧len<=maxLen∧
    ∀i,i<len->dz (eg P h n f) c ((d.drop (i*c.length)).take c.length)
  |_=>False
theorem eg.ar{P:Program}{h h':H}{n n':Nat}(u:n<=n')(l:∀b,b<n->h'.get b=h.get b):∀{f:Nat} {t:TypeId} {v:Value},eg P h n f t v->eg P h' n' f t v:=by
 intro f
 induction f with
 |zero=>intro t v x;exact x
 |succ f d=>
  intro t v x;unfold eg at x⊢;split at x
  ·exact x
  ·exact x
  ·exact x
  ·rcases x with q|⟨b,len,c,s,e,g,r,o,p,k,j,a⟩
   ·exact .inl q
   ·exact .inr ⟨b,len,c,s,e,g,r,(l b p).trans o,jO,k,j,fun i m=>(a i m).imp fun _ _ _ q=>d q⟩
  ·exact x
theorem YK {P:Program} {w:World} {m:Mp} {h:H} {n:Nat} (x:Laid P w m h n) {b off len cap:Nat} {cs:Array Value} {D:TypeId} {B:Nat×Nat} (U:w.heap[b]? =some (.cells cs D B)) {e:TypeId} {sz:Nat} (W:size? P e=some sz) {vs o:List Value} (Q:aT m vs o)
 (A:∀i v,o[i]? =some v->cs[off+i]? =some v) (J:vs.length=len*sz) (K:len<=cap) (L:off+cap*sz<=cs.size):
 ∃m',Laid P w m' (h.set n (some ⟨e,false,vs⟩)) (n+1)∧VR m' (.slice (some ⟨n,0,none⟩) len (aL+len)) (.slice (some ⟨b,off,none⟩) len cap)∧Le m m':=by
 let m':Mp:=fun c=>if c=n then some ⟨b,off,cs.size,sz,D⟩else m c
 have g:Le m m':=fun c d hd=>by
  by_cases j:c=n
  ·subst j;rw[x.fresh c (ag c)]at hd;cases hd
  ·show(if c=n then _ else _)=_;rw[if_neg j];exact hd
 let N:H:=h.set n (some ⟨e,false,vs⟩);have G:m' n=some ⟨b,off,cs.size,sz,D⟩:=if_pos rfl;have p:N.get n=some ⟨e,false,vs⟩:=get_eq _ _ _;have I:len*sz<=cap*sz:=vJ _ K
 have f:∀c C,N.get c=some C->C.own=false:=fun c C a=>by
  by_cases j:c=n
  ·subst j;rw[p]at a;cases a;rfl
  ·rw[ak _ _ j]at a;exact x.own c C a
 refine⟨m',⟨⟨?_, ?_⟩,x.gl.mono g,fun c L=> ?_,f,by have:=x.YD;omega⟩,.eH G (fun _=>rfl) (fun q=>by unfold aL at q;omega) (fun _=>⟨ag _,jO⟩) K L,g⟩
 ·intro c C a;by_cases j:c=n
  ·subst j;rw[p]at a;cases a;refine⟨_,cs,B.1,B.2,G,U,rfl,by show off+vs.length<=cs.size;omega,W,fun q=>(by cases q),fun k u t=> ?_⟩;obtain⟨s,l,y⟩:=Q.get k u t;exact⟨s,A k s l,y.mono g⟩
  ·rw[ak _ _ j]at a;obtain⟨d,E,O,T,R,z,h1,h2,Z,Y,X⟩:=x.wr.live c C a;refine⟨d,E,O,T,g _ _ R,z,h1,h2,Z,Y,fun k u t=> ?_⟩;obtain⟨s,l,y⟩:=X k u t;exact⟨s,l,y.mono g⟩
 ·intro c c' C C' d d' a r F;rw[f c C a,f c' C' r]at F;simp at F
 ·show(if c=n then _ else _)=none;rw[if_neg jO];exact x.fresh c jO
def zW(P:Program)(w:World)(R:TypeId->Value->Prop)(S:H->Nat->TypeId->Value->Prop):Prop:=∀t v,R t v->∀m h n,Laid P w m h n->∃c d a e,Laid P w c d a∧VR c e v∧S d a t e∧Le m c∧n<=a∧∀b,b<n->d.get b=h.get b
theorem aT.YL{m m':Mp}(b:Le m m'){l a:List Value}(h:aT m l a):aT m' l a:=aT.mono b h
theorem zX{P:Program}{w:World}{R:TypeId->Value->Prop}{S:H->Nat->TypeId->Value->Prop}(i:∀(h h':H) (n n':Nat),n<=n'->(∀b,b<n->h'.get b=h.get b)->∀t v,S h n t v->S h' n' t v)(ok:zW P w R S):
 ∀(ts:List TypeId) (vs:List Value),dz R ts vs->∀m h n,Laid P w m h n->∃m' h' n' a,Laid P w m' h' n'∧aT m' a vs∧dz (S h' n') ts a∧Le m m'∧n<=n'∧∀b,b<n->h'.get b=h.get b
 |[],[],_,m,h,n,x=>⟨m,h,n,[],x,.nil,trivial,Le.refl _,ag _,fun _ _=>rfl⟩
 |t::ts,v::vs,c,m,h,n,x=>by obtain⟨r,C,p,l,k,y,z,s,E,u⟩:=ok t v c.1 m h n x;obtain⟨q,B,o,a,j,d,e,f,D,g⟩:=zX i ok ts vs c.2 r C p k;exact⟨q,B,o,l::a,j,.cons (y.mono f) d,⟨i _ _ _ _ D g _ _ z,e⟩,s.trans f,jO,fun b A=>(g b jO).trans (u b A)⟩
 |[],_::_,c,_,_,_,_=>c.elim
 |_::_,[],c,_,_,_,_=>c.elim
theorem YM{a:Type}{l r:List a}{k c:Nat}(h:k+c<=l.length):((l++r).drop k).take c=(l.drop k).take c:=by rw[List.drop_append_of_le_length jO,List.take_append_of_le_length (by simp;omega)]
theorem YN{P:Program}{w:World}{R:TypeId->Value->Prop}{S:H->Nat->TypeId->Value->Prop}(G:∀(h h':H) (n n':Nat),n<=n'->(∀b,b<n->h'.get b=h.get b)->∀t v,S h n t v->S h' n' t v)(ok:zW P w R S){ts:List TypeId}{a:Addr}:
 ∀(len:Nat),(∀i,i<len->∃e:List Value,(∀j u,e[j]? =some u->w.cell? (a.add (i*ts.length+j))=some u)∧dz R ts e)->∀m h n,Laid P w m h n->
  ∃m' h' n' c vs,Laid P w m' h' n'∧aT m' c vs∧vs.length=len*ts.length∧(∀i u,vs[i]? =some u->w.cell? (a.add i)=some u)∧(∀i,i<len->dz (S h' n') ts ((c.drop (i*ts.length)).take ts.length))∧Le m m'∧n<=n'∧∀b,b<n->h'.get b=h.get b:=by
 intro len
 induction len with
 |zero=>intro _ m h n x;exact⟨m,h,n,[],[],x,.nil,jS,fun i u d=>by simp at d,fun i y=>by omega,Le.refl _,ag _,fun _ _=>rfl⟩
 |succ len U=>
  intro p m h n x;obtain⟨O,h1,L,c,vs,J,E,F,X,W,Q,g1,T⟩:=U (fun i y=>p i jO) m h n x;obtain⟨e,B,r⟩:=p len jO;obtain⟨N,Z,K,s,I,z,f,C,g2,D⟩:=zX G ok ts e r O h1 L J;have g:c.length=len*ts.length:=by rw[E.length,F]
  have o:s.length=ts.length:=f.length.symm;have l:e.length=ts.length:=r.length.symm;refine⟨N,Z,K,c++s,vs++e,I,(E.YL C).append z,by rw[ay,F,l,C9],fun i u d=> ?_,fun i y=> ?_,Q.trans C,jO,fun b Y=>(D b jO).trans (T b Y)⟩
  ·by_cases y:i<vs.length
   ·rw[pX y]at d;exact X i u d
   ·rw[ou jO]at d;have:=B _ u d;rwa[show len*ts.length+(i-vs.length)=i by omega]at this
  ·by_cases k:i<len
   ·have A:i*ts.length+ts.length<=c.length:=by rw[g,<-C9];exact vJ _ k
    rw[YM A];exact(W i k).imp fun _ _ _ q=>G _ _ _ _ g2 D _ _ q
   ·obtain rfl:i=len:=jO;rw[<-g,ag',<-o,fi];exact f
theorem YO{P:Program}{w:World}:∀(f:Nat),zW P w (r5 P w f) (fun h n=>eg P h n f):=by
 intro f
 induction f with
 |zero=>intro t v j;exact j.elim
 |succ f ih=>
  intro t v j m h n x;unfold r5 at j
  have d:∀l,VR m l v->eg P h n (f+1) t l->∃Q h' O l,Laid P w Q h' O∧VR Q l v∧eg P h' O (f+1) t l∧Le m Q∧n<=O∧∀b,b<n->h'.get b=h.get b:=
   fun l K h2=>⟨m,h,n,l,x,K,h2,Le.refl _,ag _,fun _ _=>rfl⟩
  split at j
  ·rename_i k g;obtain⟨z,rfl,R⟩:=j;exact d _ (.int k z) (by unfold eg;rw[g];exact⟨z,rfl,R⟩)
  ·rename_i g;obtain⟨z,rfl,R⟩:=j;exact d _ (.string z) (by unfold eg;rw[g];exact⟨z,rfl,R⟩)
  ·rename_i g;obtain⟨z,rfl⟩:=j;exact d _ (.bool z) (by unfold eg;rw[g];exact⟨z,rfl⟩)
  ·rename_i e g;rcases j with rfl|⟨a,len,cap,p,rfl,hl,hm,W,h0,X,y⟩
   ·exact d _ (.kK 0 0 ⟨ag _,by unfold aL;omega⟩) (by unfold eg;rw[g];exact .inl ⟨none,rfl,fun _ _=>by simp⟩)
   ·by_cases u0:cap=0
    ·obtain rfl:len=0:=jO;subst u0;exact d (.slice (some ⟨0,0,some 0⟩) 0 0) (.nz 0 0 0 a) (by unfold eg;rw[g];exact .inl ⟨_,rfl,fun b o q=>by simp at q⟩)
    ·have first:∃b off,a=⟨b,off,none⟩∧∃J N L,w.heap[b]? =some (.cells J N L)∧off+cap*p.length<=J.size:=by
      obtain⟨es,Z,Y⟩:=y (cap-1) jO;obtain⟨u1,I,G⟩:=y 0 jO;have u5:=Y.length;have u4:=G.length;have c0:=I 0 u1[0] jS;obtain⟨b,off,C⟩:=a;have s:C=none:=by simpa[agh]using World.cell?_spot c0
      subst s;obtain⟨J,N,L,E,_⟩:=LF (by rw[lP]at c0;exact c0);refine⟨b,off,rfl,J,N,L,E, ?_⟩;have cl:=Z (p.length-1) es[p.length-1] (aC jO);rw[lP,rE w _ _ E]at cl;have u3:=(Array.getElem?_eq_some_iff.1 cl).1
      have u2:(cap-1)*p.length+p.length=cap*p.length:=by rw[<-C9];congr 1;omega
      omega
     obtain⟨b,off,rfl,J,N,L,E,F⟩:=first
     obtain⟨m1,K,r,B,vs,x1,U,D,A,hs,l1,g1,k1⟩:=YN (S:=fun h n=>eg P h n f) (fun _ _ _ _ hn g _ _ q=>eg.ar hn g q) ih len (fun i hi=>y i jO) m h n x
     obtain⟨m2,x2,T,l2⟩:=YK (len:=len) (cap:=cap) (off:=off) x1 E X U (fun i u hu=>by
      have:=A i u hu
      rwa[lP,rE w _ _ E]at this) (by rw[U.length,D]) hl F
     have kk:∀c,c<r->(K.set r (some ⟨e,false,B⟩)).get c=K.get c:=fun c hc=>ak _ _ jO;refine⟨m2,_,r+1,_,x2,T, ?_,l1.trans l2,jO,fun c hc=>(kk c jO).trans (k1 c hc)⟩;show eg P _ (r+1) (f+1) t _;unfold eg;rw[g];refine .inr ⟨r,len,p,B,rfl,W,h0,get_eq _ _ _,dL r,by rw[U.length,D],jO,fun i hi=>(hs i hi).imp fun _ _ _ q=>eg.ar (cI r) kk q⟩
  ·exact j.elim
def nK(P:Program)(t:TypeId):Bool:=match P.underlying t with
 |some (.struct _)|some (.array _ _)=>true
 |_=>false
def qH(P:Program)(w:World)(t:TypeId)(v:Value):Prop:=∃a,jG P 8 t=some a∧dz (r5 P w 8) a v.cells.toList∧(nK P t=true->∃b,v= .agg b)∧(nK P t=false->v.cells=#[v])
def mL(P:Program)(h:H)(n:Nat)(t:TypeId)(v:Value):Prop:=∃a,jG P 8 t=some a∧((nK P t=true∧∃b,v= .agg b∧dz (eg P h n 8) a b.toList)∨(nK P t=false∧dz (eg P h n 8) a [v]))
def wD(P:Program)(t:TypeId):Bool:=match jG P 8 t with
 |some a=>a.all (zV P 8)
 |none=>false
theorem LJ{C:Type}{enc:TypeId×Value->C}{P:Program}{w:World}{o:Bool}{r:Reach}{I:Nat}{t:TypeId}{v:Value}{d:DataW C}{p:List MemPlace}(j:wD P t=true)(i:ag_ P w r I t v)(h:DataW.Trod enc P w 0 (fun _=>true) o t v d p):qH P w t v:=by
 unfold wD at j;split at j
 ·rename_i A f;rw[kz]at j;obtain⟨m,E⟩:=h;have F:=LI (R:=r5 P w 8) 8 t v.cells.toList A m _ f (fun B s u m x D=>YJ B u m x (j B s) D) E;refine⟨A,f,F.2,fun g=> ?_,fun g=> ?_⟩
  ·unfold nK at g;split at g
   ·rename_i G b;obtain⟨z,e,_⟩:=okWide_struct b i;exact⟨z,e⟩
   ·rename_i q e b;simp only[ag_,b]at i;obtain⟨z,e,_⟩:=i;exact⟨z,e⟩
   ·cases g
  ·have y:P.cellsOf t=1∨True:= .inr trivial;unfold jG at f;unfold nK at g;split at f
   ·rename_i k b;obtain⟨n,e⟩:=okWide_int b i;rw[e];rfl
   ·rename_i b;obtain⟨n,e⟩:=okWide_string b i;rw[e];rfl
   ·rename_i b;obtain⟨n,e⟩:=okWide_bool b i;rw[e];rfl
   ·rename_i e b;obtain⟨a,l,c,e⟩:=okWide_slice b i;rw[e];rfl
   ·rename_i G b;rw[b]at g;cases g
   ·rename_i q e b;rw[b]at g;cases g
   ·cases f
 ·cases j
theorem YP{P:Program}{w:World}:zW P w (qH P w) (mL P):=by
 intro t v u m h n x;obtain⟨f,c,d,C,B⟩:=u;obtain⟨j,p,i,a,g,b,o,k,r,l⟩:=zX (S:=fun h n=>eg P h n 8) (fun _ _ _ _ y z _ _ q=>eg.ar y z q) (YO 8) f _ d m h n x;cases e:nK P t with
 |true=>obtain⟨D,rfl⟩:=C e;exact⟨j,p,i,.agg a.toArray,g,.agg b,⟨f,c,.inl ⟨e,a.toArray,rfl,o⟩⟩,k,r,l⟩
 |false=>
  have A:=B e;rw[A]at b;cases b with
  |cons b s=>cases s;exact⟨j,p,i,_,g,b,⟨f,c,.inr ⟨e,o⟩⟩,k,r,l⟩
theorem mL.ar{P:Program}{h h':H}{n n':Nat}(f:n<=n')(g:∀b,b<n->h'.get b=h.get b){t:TypeId}{v:Value}(x:mL P h n t v):mL P h' n' t v:=by
 obtain⟨e,a,q⟩:=x;rcases q with ⟨d,j,c,i⟩|⟨d,c⟩
 ·exact⟨e,a,.inl ⟨d,j,c,i.imp fun _ _ _ q=>eg.ar f g q⟩⟩
 ·exact⟨e,a,.inr ⟨d,c.imp fun _ _ _ q=>eg.ar f g q⟩⟩
theorem YQ {P:Program} (i:qi P=true) (g:oK P KN=true) (c:P.follows .mixedOrders=true) (j:rI P KN) (hd:lW P=true) {w:World} {gt:Nat->Hint} {lf d:Nat} {f:FuncId} {ts:List TypeId} {vs:List Value} (z:dz (qH P w) ts vs) {l:Mp} {k:H} (o:Laid P w l k P.globals.size)
 (r:∀n h a,P.globals.size<=n->(∀b,b<P.globals.size->h.get b=k.get b)->dz (mL P h n) ts a->aa (fun _=>False) n (ah P gt lf d f a.toArray) h n fun v _ _=>v= .bool true):Calls P f vs.toArray w fun e w'=>e= .returned (.bool true)∧Below w.heap.size w w':=by
 obtain⟨C,A,p,a,m,t,u,_,B,s⟩:=zX (S:=mL P) (fun _ _ _ _ x y _ _ q=>mL.ar x y q) YP ts vs z l k _ o;exact YH i g c j hd m t (r p A a B s u)
end Go.Proofs.YtcehhgppfahbkaaGreatDoor.Ev
namespace Go.Proofs.YtcehhgppfahbkaaGreatDoor.Ev
open Go Go.RowKit
section
variable {P:Program} {h:H} {n f:Nat} {t:TypeId} {v:Value}
theorem YR{k:IntKind}(a:P.underlying t=some (.int k))(x:eg P h n (f+1) t v):∃i,v= .int k i∧(VG k i).wf=true:=by unfold eg at x;rw[a]at x;exact x
theorem YS(b:P.underlying t=some .string)(x:eg P h n (f+1) t v):∃l:List UInt8,v= .string ⟨l.toArray⟩∧l.length<=maxLen:=by unfold eg at x;rw[b]at x;obtain⟨s,a,c⟩:=x;exact⟨s.data.toList,by rw[a],by rw[<-zG,<-XI];exact c⟩
theorem LK(d:jG P 8 t=some [t])(c:nK P t=false)(x:mL P h n t v):eg P h n 8 t v:=by
 obtain⟨f,a,q⟩:=x;rw[d]at a;cases a;rcases q with ⟨b,_⟩|⟨_,e⟩
 ·rw[c]at b;cases b
 ·exact e.1
theorem YT{e d:Type}{R:e->d->Prop}{a f:e}{l:List d}(x:dz R [a,f] l):∃b c,l=[b,c]∧R a b∧R f c:=by
 match l,x with
 |[b,c],x=>exact⟨b,c,rfl,x.1,x.2.1⟩
end
theorem zY{a:Type}{W:Nat->Prop}{n0:Nat}{h:H}{n:Nat}{Q:a->H->Nat->Prop}{T f:Prop}(_:T)(_:f){sz:Nat}(b off:Nat)(k:Value->M a){B:AB}(d:h.get b=some B)(e:b<n)(c:off+sz<=B.cells.length)(x:aa W n0 (k (.agg ((B.cells.drop off).take sz).toArray)) h n Q):aa W n0 (bO sz (.pointer (some ⟨b,off,none⟩)) k) h n Q:=mK b off k d e c x
section
variable {P:Program} {w:World} {f:Nat} {t:TypeId} {v:Value}
end
section
variable {β:Type} {W:Nat->Prop} {n0:Nat} {h:H} {n:Nat} {Q:β->H->Nat->Prop} {P:Program}
theorem zZ{T e:Prop}(_:T)(_:e){sz:Nat}(b off:Nat)(k:Value->M β){B:AB}(c:h.get b=some B)(d:b<n)(a:off+sz<=B.cells.length)(x:aa W n0 (k (.agg ((B.cells.drop off).take sz).toArray)) h n Q):aa W n0 (bO sz (.pointer (some ⟨b,off,none⟩)) k) h n Q:=mK b off k c d a x
theorem YU{a b:Tk}(i:∀e∈a.log,e.wr=false)(h2:∀e∈b.log,e.wr=false)(h:∀e∈a.log,e.b<b.n)(g:∀e∈b.log,e.b<a.n):a.gf b=false:=by
 unfold Tk.gf;simp only[Bool.or_eq_false_iff,List.any_eq_false,bE,decide_eq_true_eq,not_and];refine⟨⟨⟨fun x c d=> ?_,fun x c d=> ?_⟩,fun x c f=> ?_⟩,fun x c f=> ?_⟩
 ·rw[i x c]at d;cases d
 ·rw[h2 x c]at d;cases d
 ·have:=h x c;omega
 ·have:=g x c;omega
end
def bJ(ws:List Nat):List Value:=ws.map fun(x:Nat)=>Value.int .u8 (x:Int)
theorem gy(ws:List Nat):(bJ ws).length=ws.length:=by unfold bJ;simp
theorem E5(a b:List Nat):bJ (a++b)=bJ a++bJ b:=by unfold bJ;simp
def bS(ws:List Nat):List UInt8:=ws.map dZ
theorem E6:∀ws:List Nat,j2 (bJ ws)=some (bS ws)
 |[]=>rfl
 |x::ws=>by
  show(match j2 (bJ ws)with
   |some l=>some (dZ ((x:Int)).toNat::l)
   |none=>none)=_
  rw[E6 ws];rfl
section
variable {β:Type} {W:Nat->Prop} {n0:Nat} {h:H} {n:Nat} {Q:β->H->Nat->Prop} {P:Program}
theorem YV{b off cp:Nat}{B:AB}{ws:List Nat}(f:h.get b=some B)(i:b<n)(d:off+ws.length<=B.cells.length)(g:(B.cells.drop off).take ws.length=bJ ws)(k:Value->M β)(y:aa W n0 (k (.string ⟨(bS ws).toArray⟩)) h n Q):aa W n0 (kQ (.slice (some ⟨b,off,none⟩) ws.length cp) k) h n Q:=by
 obtain⟨L,a,o⟩:=nI (n:=n) f i ws.length off d;rw[g]at a;refine gx ?_
 have e:((gn b off ws.length).bind fun c=>match j2 c with
  |some l=>M.ret (Value.string ⟨⟨l⟩⟩)
  |none=> .fail) h n=some ⟨.string ⟨(bS ws).toArray⟩,h,n,L++[]⟩:=by
  rw[mE];refine bz a ?_;rw[E6];rfl
 obtain⟨p,m,j⟩:=wA (W:=W) (n0:=n0) e (by simpa using o);exact aa.step m (ag _) j y
theorem LL{lo:Nat}{e:TypeId}{v:Value}{ws:List Nat}(o:Own h lo n e v (bJ ws))(k:Value->M β)(y:aa W n0 (k (.string ⟨(bS ws).toArray⟩)) h n Q):aa W n0 (kQ v k) h n Q:=by
 rcases o with ⟨rfl,a⟩|⟨b,rfl,c,_,d⟩
 ·have:ws=[]:=by unfold bJ at a;simpa using a
  subst this;exact y
 ·rw[gy];exact YV (B:=⟨e,true,bJ ws⟩) c d (by simp[gy]) (by rw[dj,<-gy ws,fi]) k y
theorem E7 {T:Prop} (c:T) {e:TypeId} {x:Value} (a:one x=true) {lo:Nat} {v:Value} {cs:List Value} (o:Own h lo n e v cs) (i:cs.length+1<=1099511627776) (f:∀b,aq v b->n0<=b∨W b) (k:Value->M β)
 (y:∀h',h'.get (n+1)=some ⟨e,true,cs++[x]⟩->(∀b,b<n->¬aq v b->h'.get b=h.get b)->aa W n0 (k (.slice (some ⟨n+1,0,none⟩) (cs.length+1) (aL+(cs.length+1)))) h' (n+2) Q):aa W n0 (db e 1 x fun w=>cN e 1 v w k) h n Q:=by
 rcases o with ⟨rfl,rfl⟩|⟨b,rfl,d,m,j⟩
 ·exact Lz c a k (y _ (get_eq _ _ _) fun b d _=>by rw[ak _ _ jO,ak _ _ jO])
 ·refine zU c a d j rfl i jO (f b ⟨_,_,_,rfl⟩) k (y _ (get_eq _ _ _) fun c l g=> ?_);have:c≠b:=fun e=>g ⟨0,_,_,by rw[e]⟩;rw[ak _ _ jO,ak _ _ this,ak _ _ jO]
end
def rc(f:Nat->Value)(z:Value)(N i:Nat):List Value:=(aV N).map fun j=>if j<i then f j else z
theorem E8(f:Nat->Value)(z:Value)(N i:Nat):(rc f z N i).length=N:=by unfold rc;simp
theorem LM(f:Nat->Value)(z:Value)(N:Nat):rc f z N 0=bI N z:=by
 unfold rc;apply mr
 ·simp
 ·intro i b a;simp
theorem LN(f:Nat->Value)(z:Value)(N:Nat):rc f z N N=(aV N).map f:=by unfold rc;apply List.map_congr_left;intro j a;rw[if_pos (List.mem_range.1 a)]
theorem LO{f:Nat->Value}{z:Value}{N i j:Nat}(h:j<(rc f z N i).length):(rc f z N i)[j]=if j<i then f j else z:=by simp[rc]
theorem LP{f:Nat->Value}{z:Value}{N i:Nat}(h:i<N):(rc f z N i).set i (f i)=rc f z N (i+1):=by
 apply mr
 ·simp[E8]
 ·intro j c b;rw[List.getElem_set,LO,LO];by_cases e:i=j
  ·subst e;simp
  ·rw[if_neg e];by_cases a:j<i
   ·rw[if_pos a,if_pos jO]
   ·rw[if_neg a,if_neg jO]
section
variable {β:Type} {W:Nat->Prop} {n0:Nat} {h:H} {n:Nat} {Q:β->H->Nat->Prop} {P:Program}
theorem YW (hd:lW P=true) {gt:Nat->Hint} {lf d:Nat} {f:FuncId} {vs:List Value} {i:Nat->Prop} {Q':Value->H->Nat->Prop} (s:aa i n (ah P gt lf d f ⟨vs⟩) h n Q') (j:n0<=n) (l:∀b,b<n->i b->n0<=b∨W b) {k:Value×Tk->M β}
 (x:∀v g e T,n<=e->(∀b,b<n->¬i b->g.get b=h.get b)->Q' v g e->aa W n0 (k (v,T)) g e Q):aa W n0 ((bk (aj (ah P gt lf d) f vs M.ret)).bind k) h n Q:=
 E2 hd s j l fun v g e L a b c _ _=>x v g e _ a b c
end
structure RB (t:Tk) (m:Nat):Prop where
 wr:∀e∈t.log,e.wr=false
 lt:∀e∈t.log,e.b<m
 le:m<=t.n
theorem RB.gf{a b:Tk}{m:Nat}(x:RB a m)(y:RB b m):fo a b=false:=(D3 a b).trans<|YU x.wr y.wr (fun e c=>dC (x.lt e c) y.le) (fun e c=>dC (y.lt e c) x.le)
section
variable {β:Type} {W:Nat->Prop} {n0:Nat} {h:H} {n m:Nat} {Q:β->H->Nat->Prop} {P:Program}
theorem uQ{T:Prop}(f:T)(b off:Nat)(k:Value×Tk->M β){B:AB}(d:h.get b=some B)(e:b<m)(c:m<=n){v:Value}(a:B.cells[off]? =some v)(x:∀T,RB T m->aa W n0 (k (v,T)) h n Q):aa W n0 ((bk (aG (.pointer (some ⟨b,off,none⟩)) M.ret)).bind k) h n Q:=
 E1 f b off k d jO a (x _ ⟨jS,by simpa using e,c⟩)
theorem YX(v:Value)(k:Value×Tk->M β)(a:m<=n)(y:∀T,RB T m->aa W n0 (k (v,T)) h n Q):aa W n0 ((bk (M.ret v)).bind k) h n Q:=
 r3 (L:=[]) rfl (ag _) jS (y _ ⟨jS,jS,a⟩)
theorem E9 (hd:lW P=true) {gt:Nat->Hint} {lf d:Nat} {f:FuncId} {vs:List Value} {Q':Value->H->Nat->Prop} (s:aa (fun _=>False) n (ah P gt lf d f ⟨vs⟩) h n Q') (l:n0<=n) {k:Value×Tk->M β}
 (x:∀v c a T,n<=a->(∀b,b<n->c.get b=h.get b)->Q' v c a->RB T n->aa W n0 (k (v,T)) c a Q):aa W n0 ((bk (aj (ah P gt lf d) f vs M.ret)).bind k) h n Q:=by
 refine E2 hd s l (fun _ _ h=>h.elim) fun v c a L i q g p j=>x v c a _ i (fun b o=>q b o id) g ⟨fun e m=> ?_,p,ag _⟩;cases g:e.wr with
 |false=>rfl
 |true=>exact(j e m g).elim
theorem YY{m:M Value}{Q':Value->H->Nat->Prop}(s:aa W n0 m h n Q'){k:Value×Tk->M β}(x:∀v b a T,n<=a->Q' v b a->aa W n0 (k (v,T)) b a Q):aa W n0 ((bk m).bind k) h n Q:=by obtain⟨v,b,a,L,f,c,e,d⟩:=s;exact r3 f c e (x v b a _ c d)
end
theorem dP {g c:Type} {W:Nat->Prop} {n0:Nat} {Q:g->H->Nat->Prop} (N:Nat) (b:Nat->Nat->c->M g) (I:Nat->c->H->Nat->Prop)
 (last:∀a s h n,I N s h n->aa W n0 (b (a+1) N s) h n Q)
 (step:∀a i s h n,i<N->I i s h n->(∀d h' n',I (i+1) d h' n'->aa W n0 (b a (i+1) d) h' n' Q)->aa W n0 (b (a+1) i s) h n Q):
 ∀(a i:Nat) (s:c) (h:H) (n:Nat),i<=N->N-i<a->I i s h n->aa W n0 (b a i s) h n Q:=by
 have e:∀(m a i:Nat) (s:c) (h:H) (n:Nat),N-i=m->i<=N->N-i<a->I i s h n->aa W n0 (b a i s) h n Q:=by
  intro m
  induction m with
  |zero=>intro a i s h n k l o x;obtain⟨a,rfl⟩:∃f,a=f+1:=⟨a-1,jO⟩;obtain rfl:i=N:=jO;exact last a s h n x
  |succ m j=>intro a i s h n k l o x;obtain⟨a,rfl⟩:∃f,a=f+1:=⟨a-1,jO⟩;exact step a i s h n jO x fun d h' n' y=>j a (i+1) d h' n' jO jO jO y
 exact fun a i s h n=>e _ a i s h n rfl
def ig(h:H)(n:Nat)(e:TypeId)(v:Value)(cs:List Value):Prop:=
 (∃a c,v= .slice a 0 c∧(∀b o,a≠some ⟨b,o,none⟩)∧cs=[])∨∃b d cap o f,v= .slice (some ⟨b,d,none⟩) cs.length cap∧h.get b=some ⟨e,o,f⟩∧b<n∧d+cs.length<=f.length∧(f.drop d).take cs.length=cs∧cs.length<=cap
section
variable {h h':H} {n n' lo hi:Nat} {e e' es ei:TypeId} {v v':Value} {cs cs':List Value} {dJ:List (List Int)}
theorem ig.ar(r:ig h n e v cs)(i:n<=n')(f:∀b,aq v b->h'.get b=h.get b):ig h' n' e v cs:=by
 rcases r with q|⟨b,a,cap,o,d,c,g,j,r⟩
 ·exact .inl q
 ·exact .inr ⟨b,a,cap,o,d,c,(f b ⟨_,_,_,c⟩).trans g,jO,r⟩
theorem ig.len(r:ig h n e v cs):∃a c,v= .slice a cs.length c:=by
 rcases r with ⟨a,c,rfl,_,rfl⟩|⟨b,d,cap,o,f,rfl,_⟩
 ·exact⟨a,c,rfl⟩
 ·exact⟨_,cap,rfl⟩
theorem ig.some(r:ig h n e v cs)(l:0<cs.length):∃b off cap o d,v= .slice (some ⟨b,off,none⟩) cs.length cap∧h.get b=some ⟨e,o,d⟩∧b<n∧∀i,i<cs.length->d[off+i]? =some (cs.getD i undef):=by
 rcases r with ⟨a,c,_,_,rfl⟩|⟨b,off,cap,o,d,f,j,k,m,g,p⟩
 ·simp at l
 ·refine⟨b,off,cap,o,d,f,j,k,fun i hi=> ?_⟩;have:=congrArg (fun z=>z[i]?) g;simp only[Vt,hi,if_true,Vu]at this;rw[this,au,aC hi];rfl
theorem ig.lt(r:ig h n e v cs){b:Nat}(g:aq v b):b<n:=by
 rcases r with ⟨a,c,rfl,d,_⟩|⟨c,i,cap,o,j,rfl,m,f,_⟩
 ·obtain⟨o,l,k,q⟩:=g;cases q;exact absurd rfl (d b o)
 ·rw[g.inj];exact f
theorem Own.z'(o:Own h lo n e v cs):ig h n e v cs:=by
 rcases o with ⟨rfl,rfl⟩|⟨b,rfl,a,_,c⟩
 ·exact .inl ⟨none,0,rfl,fun _ _ q=>(nomatch q),rfl⟩
 ·exact .inr ⟨b,0,aL+cs.length,true,_,rfl,a,c,jO,by rw[dj,fi],jO⟩
theorem Own.elem(o:Own h lo n e v cs){b:Nat}(a:aq v b):∃B,h.get b=vN B∧B.elem=e:=by
 rcases o with ⟨rfl,_⟩|⟨c,rfl,d,_⟩
 ·exact a.not_nil.elim
 ·rw[a.inj];exact⟨_,d,rfl⟩
theorem Row.elem{k:IntKind}{xs:List Int}(r:Row h n e k v xs){b:Nat}(f:aq v b):∃B,h.get b=vN B∧B.elem=e:=by
 rcases r with ⟨a,c,rfl,d,_⟩|⟨c,g,cap,o,j,rfl,i,_⟩
 ·obtain⟨o,l,k,q⟩:=f;cases q;exact absurd rfl (d b o)
 ·rw[f.inj];exact⟨_,i,rfl⟩
theorem Own.apart(o:Own h lo n e v cs){a:Nat}(g:Own h a n e' v' cs')(c:e≠e'){b:Nat}(i:aq v b):¬aq v' b:=fun d=>by obtain⟨B,l,k⟩:=o.elem i;obtain⟨m,f,j⟩:=g.elem d;rw[l]at f;cases f;exact c (k.symm.trans j)
theorem Row.apart{k:IntKind}{xs:List Int}(o:Row h n e k v xs){a:Nat}(g:Own h a n e' v' cs')(c:e≠e'){b:Nat}(i:aq v b):¬aq v' b:=fun d=>by obtain⟨B,m,l⟩:=o.elem i;obtain⟨p,f,j⟩:=g.elem d;rw[m]at f;cases f;exact c (l.symm.trans j)
def RR(h:H)(n:Nat)(es ei:TypeId)(v:Value)(dJ:List (List Int)):Prop:=∃cs,ig h n es v cs∧cs.length=dJ.length∧∀i,i<dJ.length->Row h n ei .i64 (cs.getD i undef) (dJ.getD i [])
theorem RR.len(r:RR h n es ei v dJ):∃a c,v= .slice a dJ.length c:=by obtain⟨cs,r,b,_⟩:=r;rw[<-b];exact r.len
theorem RR.ar(r:RR h n es ei v dJ)(a:n<=n')(c:∀b,b<n->h'.get b=h.get b):RR h' n' es ei v dJ:=by obtain⟨cs,r,e,d⟩:=r;exact⟨cs,r.ar a fun b f=>c b (r.lt f),e,fun i hi=>(d i hi).ar a c⟩
theorem RR.at(r:RR h n es ei v dJ)(k:0<dJ.length):∃b off cap o a,v= .slice (some ⟨b,off,none⟩) dJ.length cap∧h.get b=some ⟨es,o,a⟩∧b<n∧∀i,i<dJ.length->∃x,a[off+i]? =some x∧Row h n ei .i64 x (dJ.getD i []):=by obtain⟨cs,r,e,d⟩:=r;obtain⟨b,off,cap,o,a,c,f,g,j⟩:=r.some jO;exact⟨b,off,cap,o,a,by rw[c,e],f,g,fun i hi=>⟨_,j i jO,d i hi⟩⟩
def gB(h:H)(lo hi n:Nat)(es ei:TypeId)(v:Value)(dJ:List (List Int)):Prop:=∃cs,Own h lo n es v cs∧cs.length=dJ.length∧∀i,i<dJ.length->Row h n ei .i64 (cs.getD i undef) (dJ.getD i [])∧∀b,aq (cs.getD i undef) b->b<hi
theorem gB.nil(h:H)(lo hi n:Nat)(es ei:TypeId):gB h lo hi n es ei (.slice none 0 0) []:=⟨[],Own.nil _ _ _ _,rfl,fun i hi=>absurd hi jS⟩
theorem gB.rr(o:gB h lo hi n es ei v dJ):RR h n es ei v dJ:=by obtain⟨cs,o,b,a⟩:=o;exact⟨cs,o.z',b,fun i hi=>(a i hi).1⟩
theorem gB.lt(o:gB h lo hi n es ei v dJ){b:Nat}(a:aq v b):lo<=b∧b<n:=by obtain⟨cs,o,_⟩:=o;exact o.lt a
theorem gB.elem(o:gB h lo hi n es ei v dJ){b:Nat}(a:aq v b):∃B,h.get b=vN B∧B.elem=es:=by obtain⟨cs,o,_⟩:=o;exact o.elem a
theorem gB.ar(o:gB h lo hi n es ei v dJ)(d:n<=n')(e:∀b,b<n->(b<hi∨aq v b)->h'.get b=h.get b):gB h' lo hi n' es ei v dJ:=by obtain⟨cs,o,f,c⟩:=o;exact⟨cs,o.ar d fun b a=>e b (o.lt a).2 (.inr a),f,fun i hi=>⟨(c i hi).1.fz d fun b a=>e b ((c i hi).1.lt a) (.inl ((c i hi).2 b a)),(c i hi).2⟩⟩
theorem gB.up(o:gB h lo hi n es ei v dJ){a:Nat}(hh:hi<=a):gB h lo a n es ei v dJ:=by obtain⟨cs,o,d,c⟩:=o;exact⟨cs,o,d,fun i hi=>⟨(c i hi).1,fun b e=>dC ((c i hi).2 b e) hh⟩⟩
theorem LQ{a:Type}(d:a)(l:List a)(x:a)(i:Nat):(l++[x]).getD i d=if i<l.length then l.getD i d else if i=l.length then x else d:=by
 rw[au,au];split
 ·rename_i h;rw[pX h]
 ·rename_i h;split
  ·rename_i b;subst b;simp
  ·rw[jq (by simp;omega)];rfl
theorem LR {l:Type} {W:Nat->Prop} {n0:Nat} {Q:l->H->Nat->Prop} {T:Prop} (c:T) (f:ei≠es) (o:gB h lo hi n es ei v dJ) {x:Value} {xs:List Int} (r:Row h n ei .i64 x xs) (hh:hi<=n) (C:dJ.length+1<=1099511627776) (g:n0<=lo) (z:lo<=n) (k:Value->M l)
 (y:∀v' h',gB h' lo n (n+2) es ei v' (dJ++[xs])->(∀b,b<n->¬aq v b->h'.get b=h.get b)->(∀b,aq v' b->n<=b)->aa W n0 (k v') h' (n+2) Q):aa W n0 (db es 1 x fun w=>cN es 1 v w k) h n Q:=by
 obtain⟨cs,o,A,p⟩:=o;have t:one x=true:=by obtain⟨a,c,rfl⟩:=r.len;rfl
 refine nJ c t o jO g k fun h' B s=> ?_;have e:∀{u:Value} {m:List Int},Row h n ei .i64 u m->Row h' (n+2) ei .i64 u m:=fun q=>q.fz jO fun b d=>s b (q.lt d) (q.apart o f d);refine y _ h' ⟨cs++[x],.inr ⟨n+1,jS,B,jO,jO⟩,by simp[A],fun i hi=> ?_⟩ s fun b d=>by rw[d.inj];omega
 rw[LQ,LQ];by_cases j:i<dJ.length
 ·rw[if_pos jO,if_pos j];exact⟨e (p i j).1,fun b d=>by have:=(p i j).2 b d;omega⟩
 ·have:i=dJ.length:=by simp at hi;omega
  subst this;rw[if_neg jO,if_pos jO,if_neg jO,if_pos rfl];exact⟨e r,fun b d=>r.lt d⟩
end
section
variable {h h':H} {n n':Nat} {e es ei:TypeId} {v:Value} {cs:List Value} {dJ:List (List Int)}
theorem ig.elem(r:ig h n e v cs){b:Nat}(f:aq v b):∃B,h.get b=vN B∧B.elem=e:=by
 rcases r with ⟨a,c,rfl,d,_⟩|⟨c,g,cap,o,j,rfl,i,_⟩
 ·obtain⟨o,l,k,q⟩:=f;cases q;exact absurd rfl (d b o)
 ·rw[f.inj];exact⟨_,i,rfl⟩
theorem Row.qI{k:IntKind}{xs:List Int}(r:Row h n e k v xs)(c:n<=n')(d:∀b B,b<n->h.get b=vN B->B.elem=e->h'.get b=h.get b):Row h' n' e k v xs:=
 r.fz c fun b a=>by obtain⟨B,g,f⟩:=r.elem a;exact d b B (r.lt a) g f
theorem ig.qI(r:ig h n e v cs)(c:n<=n')(d:∀b B,b<n->h.get b=vN B->B.elem=e->h'.get b=h.get b):ig h' n' e v cs:=
 r.ar c fun b a=>by obtain⟨B,g,f⟩:=r.elem a;exact d b B (r.lt a) g f
theorem RR.qI(r:RR h n es ei v dJ)(e:n<=n')(f:∀b B,b<n->h.get b=vN B->(B.elem=es∨B.elem=ei)->h'.get b=h.get b):RR h' n' es ei v dJ:=by obtain⟨cs,r,j,g⟩:=r;exact⟨cs,r.qI e fun b B c d a=>f b B c d (.inl a),j,fun i k=>(g i k).qI e fun b B c d a=>f b B c d (.inr a)⟩
theorem LS{p:Nat}{C:AB}(c:h.get p=some C)(d:∀b,b≠p->h'.get b=h.get b){b:Nat}{B:AB}(a:h.get b=some B)(e:B.elem≠C.elem):h'.get b=h.get b:=d b fun q=>by subst q;rw[c]at a;cases a;exact e rfl
end
section
variable {P:Program} {h:H} {n f:Nat} {t e:TypeId} {v:Value}
theorem ig.row{k:IntKind}{xs:List Int}(r:ig h n e v (aR k xs)):Row h n e k v xs:=by
 rcases r with ⟨a,c,rfl,f,g⟩|⟨b,d,cap,o,p,i,q,s,l,j,m⟩
 ·exact .inl ⟨a,c,rfl,f,by unfold aR at g;simpa using g⟩
 ·rw[cO]at i l j m;exact .inr ⟨b,d,cap,o,p,i,q,s,l,j,m⟩
end
section
variable {β:Type} {W:Nat->Prop} {n0:Nat} {h:H} {n m:Nat} {Q:β->H->Nat->Prop} {P:Program}
theorem LU{b:Nat}{B:AB}(d:h.get b=some B)(f:b<n):∀(c k:Nat),k+c<=B.cells.length->∃L,cc b k c h n=some ⟨(B.cells.drop k).take c,h,n,L⟩∧∀e∈L,e.wr=false∧e.b=b
 |0,k,_=>⟨[],by rw[ru];rfl,jS⟩
 |c+1,k,j=>by
  obtain⟨L,e,g⟩:=LU d f c (k+1) jO;have a:k<B.cells.length:=jO;refine⟨[⟨false,b,some k⟩]++(L++[]), ?_, ?_⟩
  ·unfold cc
   have i:rd b k h n=some ⟨B.cells[k],h,n,[⟨false,b,some k⟩]⟩:=by unfold rd;simp only[f,d,if_true,aC a]
   refine bz i (bz e ?_);rw[List.drop_eq_getElem_cons a,List.take_succ_cons];rfl
  ·intro x hx;simp only[bV,p8,ox,vM,or_false]at hx;rcases hx with rfl|hx
   ·exact⟨rfl,rfl⟩
   ·exact g x hx
theorem LV{T:Prop}(_:T)(b off:Nat)(v:Value)(k:Value->M β){e:TypeId}{cs:List Value}(d:h.get b=some ⟨e,true,cs⟩)(f:b<n)(c:off<cs.length)(g:one v=true)(a:n0<=b∨W b)(x:aa W n0 (k undef) (h.set b (some ⟨e,true,cs.set off v⟩)) n Q):aa W n0 (aK (.pointer (some ⟨b,off,none⟩)) v k) h n Q:=
 (uN b off v k f g).2 (by rw[d];exact⟨rfl,c,a,x⟩)
theorem YZ{e:TypeId}{z:Value}(l:Nat)(k:Value×Tk->M β){b a:IntKind}(c:l<=1099511627776)(x:aa W n0 (k (.slice (some ⟨n,0,none⟩) l l,⟨n,n+1,[]⟩)) (h.set n (some ⟨e,true,bI l z⟩)) (n+1) Q):aa W n0 ((bk (fQ e [z] (.int b l) (.int a l) M.ret)).bind k) h n Q:=by
 have d:fQ e [z] (.int b l) (.int a l) M.ret=dy ((hZ e (iL [z] l)).bind fun id=>M.ret (fN (some ⟨id,0,none⟩) l l)) M.ret:=by
  show(match bh l l with
   |true=>match bh l 1099511627776 with
    |true=>dy ((hZ e (iL [z] l)).bind fun id=>M.ret (fN (some ⟨id,0,none⟩) l l)) M.ret
    |false=> .fail
   |false=> .fail)=_
  rw[jT (ag l),jT c]
 rw[d,E0];exact r3 (wC (nH _ _ (fun id=>fN (some ⟨id,0,none⟩) l l) _ _)) (cI n) jS x
end
section
variable {β:Type} {W:Nat->Prop} {n0:Nat} {h h1:H} {n n1:Nat} {Q:β->H->Nat->Prop} {kn:List FuncId}
end
end Go.Proofs.YtcehhgppfahbkaaGreatDoor.Ev
namespace Go.Proofs.YtcehhgppfahbkaaGreatDoor
open Go.RowKit Ev
section
variable {β:Type} {W:Nat->Prop} {n0:Nat} {h:H} {n:Nat} {Q:β->H->Nat->Prop}
theorem j7 {T:Prop} (_:T) {sz:Nat} {b:Nat} {e:TypeId} {cs vs:List Value} (f:vs.length=sz) (m:cs.length=sz) (j:vs.all one=true) (g:h.get b=some ⟨e,true,cs⟩) (i:b<n) (d:n0<=b∨W b) (k:Value->M β)
 (x:∀h',h'.get b=some ⟨e,true,vs⟩->(∀c,c≠b->h'.get c=h.get c)->aa W n0 (k undef) h' n Q):aa W n0 (bW sz (.pointer (some ⟨b,0,none⟩)) (.agg vs.toArray) k) h n Q:=by
 refine qG trivial (vs:=vs) rfl f j g i jO d k fun h' l a=>x h' ?_ a;rw[l,ru,p7,ag2 jO,bV]
end
theorem LW{W:Nat->Prop}{n0:Nat}{h:H}{n:Nat}{Q:Value->H->Nat->Prop}{T d:Prop}(_:T)(_:d){sz:Nat}{b:Nat}{e:TypeId}{vs:List Value}(g:h.get b=some ⟨e,true,vs⟩)(a:vs.length=sz)(c:b<n)(x:Q (.agg vs.toArray) h n):aa W n0 (bO sz (.pointer (some ⟨b,0,none⟩)) fun v=>ae [v]) h n Q:=by
 refine mK b 0 _ g c (by show 0+sz<=vs.length;omega) ?_;rw[zQ];have:((vs.drop 0).take sz)=vs:=by rw[dj,<-a,fi]
 show Q (.agg ((vs.drop 0).take sz).toArray) h n;rw[this];exact x
section
variable {β:Type} {W:Nat->Prop} {n0:Nat} {h:H} {n:Nat} {Q:β->H->Nat->Prop}
theorem Y0(b off:Nat)(v:Value)(k:Value×Tk->M β){e:TypeId}{cs:List Value}(i:h.get b=some ⟨e,true,cs⟩)(j:b<n)(g:off<cs.length)(c:one v=true)(f:n0<=b∨W b)(x:∀T,aa W n0 (k (undef,T)) (h.set b (some ⟨e,true,cs.set off v⟩)) n Q):aa W n0 ((bk (aK (.pointer (some ⟨b,off,none⟩)) v M.ret)).bind k) h n Q:=
 YY (Q':=fun a l d=>a=undef∧l=h.set b (some ⟨e,true,cs.set off v⟩)∧d=n) (LV trivial b off v _ i j g c f ((qE _).2 ⟨rfl,rfl,rfl⟩)) fun a c q T r ⟨p,o,m⟩=>by subst p;subst o;subst m;exact x T
end
end Go.Proofs.YtcehhgppfahbkaaGreatDoor
namespace Go.Proofs.YtcehhgppfahbkaaGreatDoor.Ev
open Go Go.RowKit
section
variable {β:Type} {W:Nat->Prop} {n0:Nat} {h:H} {n:Nat} {Q:β->H->Nat->Prop} {e:TypeId} {sz:Nat}
theorem ph{sz:Nat}:∀{ts:List (List Value)},(∀t∈ts,t.length=sz)->ts.flatten.length=ts.length*sz
 |[],_=>by simp
 |t::ts,h=>by rw[Db,ay,h t jS,ph fun u a=>h u (by simp[a]),bL,ff,ow,vL]
theorem LX{sz:Nat}:∀{ts:List (List Value)} {i:Nat},(∀t∈ts,t.length=sz)->i<ts.length->(ts.flatten.drop (i*sz)).take sz=ts.getD i []
 |t::ts,0,h,_=>by rw[It,dj,Db,<-h t jS,aha];rfl
 |t::ts,i+1,h,b=>by have:=LX (ts:=ts) (i:=i) (fun u a=>h u (by simp[a])) (by simpa using b);rw[Db,ff,ow,vL,<-ag3,<-h t jS,ag',h t jS,this];rfl
end
section
variable {β:Type} {W:Nat->Prop} {n0:Nat} {h:H} {n:Nat} {Q:β->H->Nat->Prop} {e:TypeId} {sz:Nat}
structure iM (h:H) (n:Nat) (e:TypeId) (sz b cp:Nat) (ts:List (List Value)):Prop where
 get:∃cs,h.get b=some ⟨e,true,cs⟩∧ts.length*sz<=cs.length∧cs.take (ts.length*sz)=ts.flatten
 lt:b<n
 ln:∀t∈ts,t.length=sz
 cp:ts.length<=cp
variable {b cp:Nat} {ts:List (List Value)}
theorem iM.ar{h':H}{n':Nat}(x:iM h n e sz b cp ts)(a:n<=n')(c:h'.get b=h.get b):iM h' n' e sz b cp ts:=⟨by rw[c];exact x.get,dC x.lt a,x.ln,x.cp⟩
theorem iM.cut(x:iM h n e sz b cp ts){us vs:List (List Value)}(a:ts=us++vs):iM h n e sz b cp us:=by subst a;obtain⟨i,g,f,d⟩:=x.get;have c:us.flatten.length=us.length*sz:=ph fun t a=>x.ln t (Im _ a);rw[ay,ff]at f;refine⟨⟨i,g,jO, ?_⟩,x.lt,fun t a=>x.ln t (Im _ a),by have:=x.cp;rw[ay]at this;omega⟩;have:=congrArg (List.take (us.length*sz)) d;rw[ahb,ay,ff,p9 jO,VH,<-c,aha]at this;rw[<-c];exact this
theorem iM.at(x:iM h n e sz b cp ts){i:Nat}(a:i<ts.length):∃cs,h.get b=some ⟨e,true,cs⟩∧0+i*sz+sz<=cs.length∧(cs.drop (0+i*sz)).take sz=ts.getD i []:=by
 obtain⟨cs,g,d,c⟩:=x.get;have q:i*sz+sz<=ts.length*sz:=by rw[<-C9];exact vJ sz a
 refine⟨cs,g,jO, ?_⟩;have:=LX x.ln a;rw[<-c,List.drop_take,ahb,p9 jO]at this;rw[fD];exact this
theorem iM.cell(x:iM h n e sz b cp ts){i j:Nat}(c:i<ts.length)(a:j<sz):∃cs,h.get b=some ⟨e,true,cs⟩∧cs[0+i*sz+j]? =(ts.getD i [])[j]? :=by obtain⟨cs,g,_,d⟩:=x.at c;refine⟨cs,g, ?_⟩;rw[<-d,Vt,if_pos a,Vu]
theorem LY(x:iM h n e sz b cp ts){i:Nat}(d:i<ts.length)(K:Value->M β)(y:aa W n0 (K (.agg (ts.getD i []).toArray)) h n Q):aa W n0 (bO sz (.pointer (some ⟨b,i*sz,none⟩)) K) h n Q:=by obtain⟨f,g,c,a⟩:=x.at d;rw[fD]at c a;refine mK b _ K g x.lt c ?_;show aa W n0 (K (.agg ((f.drop (i*sz)).take sz).toArray)) h n Q;rw[a];exact y
theorem LZ(x:iM h n e sz b cp ts){N m:Nat}(c:ts.length=N)(k:m<=N){a:IntKind}(K:Value->M β)(y:aa W n0 (K (.slice (some ⟨b,0,none⟩) m cp)) h n Q):aa W n0 (j5 e sz (.slice (some ⟨b,0,none⟩) N cp) none (some (.int a (m:Int))) K) h n Q:=by
 subst c;obtain⟨o,g,_,_⟩:=x.get;have l:=x.cp;refine gx ?_
 have i:((uC b).bind fun j=>match bq j e with
  |true=>M.lift (o7 sz (some ⟨b,0,none⟩) ts.length cp none (some (.int a (m:Int))))
  |false=> .fail) h n=some ⟨.slice (some ⟨b,0,none⟩) m cp,h,n,[⟨false,b,some 1099511627776⟩]++[]⟩:=by
  rw[qu];refine bz (uO g x.lt) ?_;rw[rq];simp only;unfold o7;simp only[pe,wB];have:(decide (0<=m)&&decide (m<=cp)&&decide (cp<=cp)&&(decide (cp<aL)||(none:Option Value).isNone&&decide (m<=ts.length)))=true:=by simp;omega
  simp only[this,if_true,It,iA,ite_self,IJ];rfl
 obtain⟨p,f,d⟩:=wA (W:=W) (n0:=n0) i jS;exact aa.step f (ag _) d y
theorem L0 (x:iM h n e sz b cp ts) {us:List (List Value)} {c cap N M':Nat} {o:Bool} (O:ts.length=N) (P:us.length=M') (j:∀t∈us,t.length=sz) (X:0<us.length) (l:us.flatten.all one=true) (J:h.get c=some ⟨e,o,us.flatten⟩) (z:c<n) (D:N+M'<=1099511627776) (w:aL<=cp∨cp<N+M') (G:n0<=b∨W b) (K:Value->M β)
 (y:∀h',iM h' (n+1) e sz n (aL+(N+M')) (ts++us)->(∀q,q<n->q≠b->h'.get q=h.get q)->aa W n0 (K (.slice (some ⟨n,0,none⟩) (N+M') (aL+(N+M')))) h' (n+1) Q):aa W n0 (cN e sz (.slice (some ⟨b,0,none⟩) N cp) (.slice (some ⟨c,0,none⟩) M' cap) K) h n Q:=by
 subst O;subst P;obtain⟨U,g,Y,T⟩:=x.get;have bn:=x.lt;have A:=ph j;obtain⟨L,s,C⟩:=nI (n:=n) J z (us.length*sz) 0 (by show 0+us.length*sz<=us.flatten.length;omega)
 have s:iE sz us.length (.slice (some ⟨c,0,none⟩) us.length cap) h n=some ⟨us.flatten,h,n,L⟩:=by unfold iE;show cc c 0 (us.length*sz) _ _=_;rw[s,dj,fZ (by show us.flatten.length<=_;omega)]
 have m:(decide (us.flatten.length=us.length*sz)&&us.flatten.all one)=true:=by rw[l,decide_eq_true A];rfl
 obtain⟨F,u,B⟩:=nI (n:=n) g bn (ts.length*sz) 0 (by show 0+ts.length*sz<=U.length;omega);rw[dj,T]at u
 have r:∀p:H,p.get b=h.get b∨p.get b=none->(∀q,q≠b->p.get q=h.get q)->iM (p.set n (some ⟨e,true,ts.flatten++us.flatten⟩)) (n+1) e sz n (aL+(ts.length+us.length)) (ts++us):=fun p _ _=>by
  have lt:ts.flatten.length=ts.length*sz:=ph x.ln;refine⟨⟨_,get_eq _ _ _, ?_, ?_⟩,dL n,fun t I=> ?_,by rw[ay];omega⟩
  ·rw[ay,ay,lt,A,ff];exact ag _
  ·rw[VH,fZ];rw[ay,ay,lt,A,ff];exact ag _
  ·rcases p8.1 I with q|q
   ·exact x.ln t q
   ·exact j t q
 refine gx ?_;by_cases R:aL<=cp
 ·have f:∃i,kP e sz (.slice (some ⟨b,0,none⟩) ts.length cp) (.slice (some ⟨c,0,none⟩) us.length cap) h n=some ⟨.slice (some ⟨n,0,none⟩) (ts.length+us.length) (aL+(ts.length+us.length)),(h.set b none).set n (some ⟨e,true,ts.flatten++us.flatten⟩),n+1,i⟩∧∀y∈i,y.wr=true->y.b=b:=by
   refine⟨[⟨false,b,some 1099511627776⟩]++(L++(F++([⟨false,b,none⟩,⟨true,b,none⟩]++([]++[])))), ?_, ?_⟩
   ·unfold kP uE;rw[qw,j0,qu,zs,mE];simp only[fx];rw[if_neg jO,if_pos D];refine bz (uO g bn) ?_;simp only[if_true];refine bz s ?_;rw[if_pos m,if_neg jO];refine bz u (bz (Lv g rfl bn) ?_);exact bz (uM _ _ _ _) rfl
   ·intro y hy a;simp only[bV,p8,ox,vM,or_false]at hy;rcases hy with rfl|hy|hy|rfl|rfl
    ·cases a
    ·rw[C y hy]at a;cases a
    ·rw[B y hy]at a;cases a
    ·cases a
    ·rfl
  obtain⟨i,f,d⟩:=f;refine aa.step (hH f) jO (fun y hy a=> ?_) (y _ (r _ (.inr (get_eq _ _ _)) fun q v=>ak _ _ v) fun q v k=>by rw[ak _ _ jO,ak _ _ k]);rw[d y (List.mem_filter.1 hy).1 a];exact G
 ·have E:cp<ts.length+us.length:=w.resolve_left R
  have f:∃i,kP e sz (.slice (some ⟨b,0,none⟩) ts.length cp) (.slice (some ⟨c,0,none⟩) us.length cap) h n=some ⟨.slice (some ⟨n,0,none⟩) (ts.length+us.length) (aL+(ts.length+us.length)),h.set n (some ⟨e,true,ts.flatten++us.flatten⟩),n+1,i⟩∧∀y∈i,y.wr=false:=by
   refine⟨[⟨false,b,some 1099511627776⟩]++(L++(F++([]++[]))), ?_, ?_⟩
   ·unfold kP uE;rw[qw,j0,qu,zs,mE];simp only[fx];rw[if_neg jO,if_pos D];refine bz (uO g bn) ?_;simp only[if_true];refine bz s ?_;rw[if_pos m,if_pos jO,if_neg jO];refine bz u ?_;exact bz (uM _ _ _ _) rfl
   ·intro y hy;simp only[bV,p8,Dc]at hy;rcases hy with rfl|hy|hy
    ·rfl
    ·exact C y hy
    ·exact B y hy
  obtain⟨i,f,d⟩:=f;refine aa.step (hH f) jO (fun y hy a=> ?_) (y _ (r _ (.inl rfl) fun _ _=>rfl) fun q v k=>by rw[ak _ _ jO]);rw[d y (List.mem_filter.1 hy).1]at a;cases a
theorem Y1{z cs:List Value}{len:Nat}{ps:List (Nat×Nat×Value)}(a:ee z ps=some cs)(K:Value->M β)(y:aa W n0 (K (.slice (some ⟨n,0,none⟩) len len)) (h.set n (some ⟨e,true,cs⟩)) (n+1) Q):aa W n0 (o6 e z len ps K) h n Q:=by unfold o6;rw[a];exact gx (pd (nH _ _ (fun id=>fN (some ⟨id,0,none⟩) len len) _ _) (cI n) y)
theorem Ma{vs:List Value}(a:vs.length=sz)(K:Value->M β)(y:aa W n0 (K (.slice (some ⟨n,0,none⟩) 1 1)) (h.set n (some ⟨e,true,vs⟩)) (n+1) Q):aa W n0 (db e sz (.agg vs.toArray) K) h n Q:=by unfold db;rw[show bq (dU (cS (.agg vs.toArray))) sz=true by rw[j1,show cS (.agg vs.toArray)=vs from rfl,a,rq]];exact gx (pd (nH _ _ (fun id=>fN (some ⟨id,0,none⟩) 1 1) _ _) (cI n) y)
end
end Go.Proofs.YtcehhgppfahbkaaGreatDoor.Ev
namespace Go.Proofs.YtcehhgppfahbkaaGreatDoor.Pl
def ij(s:ByteArray)(i:Int):Bool:=decide (0<=i∧i<s.size)
theorem Y2{s:ByteArray}{i:Int}(h:ij s i=true):0<=i∧i<s.size:=by simpa[ij]using h
theorem uR{s:ByteArray}{i:Int}(h:0<=i)(h2:i<s.size):ij s i=true:=by simp[ij,h,h2]
def mM(l:List UInt8)(i:Nat):List UInt8:=l.drop i++l.take i
def cmpL:List UInt8->List UInt8->Int
 |x::b,y::a=>if x<y then-1 else if y<x then 1 else cmpL b a
 |_,_=>0
theorem nL(l:List UInt8)(i:Nat):(mM l i).length=l.length:=by simp[mM];omega
theorem uS(l:List UInt8)(i k:Nat)(b:i<l.length)(a:k<l.length):(mM l i).getD k 0=l.getD ((i+k)%l.length) 0:=by
 unfold mM;simp only[au];by_cases h:i+k<l.length
 ·rw[kB h];rw[pX (by simp;omega)];simp[Vu]
 ·have e:(i+k)%l.length=i+k-l.length:=by rw[Nat.mod_eq_sub_mod jO,kB jO]
  rw[e,ou (by simp;omega)];simp only[fO,Vt];rw[if_pos jO,show k-(l.length-i)=i+k-l.length by omega]
def ik(s:ByteArray)(i k:Int):Int:=cmpL (mM s.data.toList i.toNat) (mM s.data.toList k.toNat)
def gO(s:ByteArray)(i k:Int):Bool:=ij s i&&ij s k&&(decide (ik s i k<0)||ik s i k==0&&decide (i<k))
def fS(s:ByteArray)(xs:List Int)(j:Nat):Bool:=ij s (xs.getD j 0)&&(j==0||gO s (xs.getD (j-1) 0) (xs.getD j 0))
def wE(s:ByteArray)(xs:List Int):Bool:=(aV xs.length).all (fS s xs)&&xs.length==s.size
theorem Y3(s:ByteArray)(xs:List Int)(h:∀j,j<xs.length->fS s xs j=true):wE s xs=(xs.length==s.size):=by
 unfold wE
 have:(aV xs.length).all (fS s xs)=true:=by rw[kz];intro j a;exact h j (by simpa using a)
 rw[this,oq]
theorem Mb:∀(a b:List UInt8),a.length=b.length->(cmpL a b=0↔a=b)
 |[],[],_=>by simp[cmpL]
 |x::f,y::e,h=>by
  have g:=Mb f e (by simpa using h);simp only[cmpL];by_cases c:x<y
  ·have:¬x=y:=by rintro rfl;exact yv _ c
   simp[c,this]
  ·by_cases d:y<x
   ·have:¬x=y:=by rintro rfl;exact yv _ d
    simp[c,d,this]
   ·have:x=y:=ahc (UInt8.not_lt.1 d) (UInt8.not_lt.1 c);subst this;simp[g]
 |[],y::e,h=>by simp at h
 |x::f,[],h=>by simp at h
theorem Mc(s:ByteArray):s.data.toList.length=s.size:=by rw[Array.length_toList];rfl
def l5(s:ByteArray)(i:Int)(a:List Int×Bool)(k:Int):List Int×Bool:=
 if !a.2&&gO s i k then(a.1++[i]++[k],true)else(a.1++[k],a.2)
def mN(s:ByteArray)(i:Int)(l:List Int)(j:Nat):List Int×Bool:=(l.take j).foldl (l5 s i) ([],false)
def wF(s:ByteArray)(i:Int)(l:List Int):List Int:=if(mN s i l l.length).2 then(mN s i l l.length).1 else(mN s i l l.length).1++[i]
def gP(s:ByteArray):Nat->List Int
 |0=>[]
 |i+1=>wF s i (gP s i)
theorem Y4(s:ByteArray)(i:Int)(l:List Int)(j:Nat)(h:j<l.length):mN s i l (j+1)=l5 s i (mN s i l j) (l.getD j 0):=by unfold mN;rw[List.take_succ_eq_append_getElem h,List.foldl_append,au,aC h];rfl
theorem Md(s:ByteArray)(i:Int)(l:List Int):∀j,j<=l.length->(mN s i l j).1.length=j+(if(mN s i l j).2 then 1 else 0)
 |0,_=>by simp[mN]
 |j+1,h=>by have a:=Md s i l j jO;rw[Y4 s i l j jO];unfold l5;cases c:(mN s i l j).2<;>cases b:gO s i (l.getD j 0)<;>simp_all
theorem Y5(s:ByteArray)(i:Int)(l:List Int):(wF s i l).length=l.length+1:=by have:=Md s i l l.length (ag _);unfold wF;split<;>simp_all
theorem wG(s:ByteArray):∀i,(gP s i).length=i
 |0=>rfl
 |i+1=>by rw[gP,Y5,wG s i]
theorem Me:∀a:List UInt8,cmpL a a=0
 |[]=>rfl
 |x::b=>by simp[cmpL,yv,Me b]
theorem Mf:∀a b:List UInt8,cmpL b a=-cmpL a b
 |[],[]=>rfl
 |[],_::_=>rfl
 |_::_,[]=>rfl
 |x::f,y::e=>by
  have g:=Mf f e;simp only[cmpL,IK];by_cases c:x.toNat<y.toNat
  ·have:¬y.toNat<x.toNat:=jO;simp[c,this]
  ·by_cases d:y.toNat<x.toNat
   ·simp[c,d]
   ·simp[c,d,g]
theorem Mg:∀a b c:List UInt8,a.length=b.length->b.length=c.length->cmpL a b<=0->cmpL b c<=0->cmpL a c<=0∧(cmpL a c=0->cmpL a b=0∧cmpL b c=0)
 |[],[],[],_,_,_,_=>by simp[cmpL]
 |x::m,y::l,z::k,h,o,i,f=>by
  have n:=Mg m l k (by simpa using h) (by simpa using o);simp only[cmpL,IK]at*;by_cases g:x.toNat<y.toNat
  ·by_cases d:y.toNat<z.toNat
   ·have:x.toNat<z.toNat:=jO;simp[g,d,this]
   ·by_cases e:z.toNat<y.toNat
    ·simp[d,e]at f
    ·have:x.toNat<z.toNat:=jO;simp[this]
  ·by_cases j:y.toNat<x.toNat
   ·simp[g,j]at i
   ·by_cases d:y.toNat<z.toNat
    ·have:x.toNat<z.toNat:=jO;simp[this]
    ·by_cases e:z.toNat<y.toNat
     ·simp[d,e]at f
     ·have q:¬x.toNat<z.toNat:=jO;have p:¬z.toNat<x.toNat:=jO;simp only[g,j,d,e,q,p,if_false]at*;exact n i f
 |[],_::_,_,h,_,_,_=>by simp at h
 |_::_,[],_,h,_,_,_=>by simp at h
 |_,[],_::_,_,h,_,_=>by simp at h
 |_,_::_,[],_,h,_,_=>by simp at h
theorem Y6(s:ByteArray)(i:Int):ik s i i=0:=Me _
theorem Mh(s:ByteArray)(i k:Int):ik s k i=-ik s i k:=Mf _ _
theorem Y7(s:ByteArray)(i k m:Int):ik s i k<=0->ik s k m<=0->ik s i m<=0∧(ik s i m=0->ik s i k=0∧ik s k m=0):=
 Mg _ _ _ (by simp[nL]) (by simp[nL])
theorem uT(s:ByteArray)(i k:Int):gO s i k=true↔ij s i=true∧ij s k=true∧(ik s i k<0∨ik s i k=0∧i<k):=by unfold gO;simp[and_assoc]
theorem Y8(s:ByteArray)(i k:Int)(h:gO s i k=true):gO s k i=false:=by rw[VI];intro a;rw[uT]at*;have:=Mh s i k;omega
theorem Y9(s:ByteArray)(i k:Int)(b:ij s i=true)(a:ij s k=true)(c:i≠k):gO s i k=true∨gO s k i=true:=by
 rw[uT,uT];have:=Mh s i k;by_cases h:ik s i k<0
 ·exact .inl ⟨b,a,.inl h⟩
 ·by_cases e:ik s i k=0
  ·by_cases d:i<k
   ·exact .inl ⟨b,a,.inr ⟨e,d⟩⟩
   ·exact .inr ⟨a,b,.inr ⟨jO,jO⟩⟩
  ·exact .inr ⟨a,b,.inl jO⟩
theorem Y'(s:ByteArray)(i:Int):gO s i i=false:=by rw[VI];intro a;rw[uT,Y6]at a;omega
theorem Mi(s:ByteArray)(i k m:Int)(h:gO s i k=true)(h2:gO s k m=true):gO s i m=true:=by
 rw[uT]at*;obtain⟨c,f,e⟩:=h;obtain⟨d,b,b3⟩:=h2;have t:=Y7 s i k m jO jO;refine⟨c,b, ?_⟩;by_cases a:ik s i m=0
 ·have:=t.2 a;exact .inr ⟨a,jO⟩
 ·exact .inl jO
def ez(s:ByteArray)(m:Nat):UInt8:=s.data.toList.getD (m %s.size) 0
theorem Za(s:ByteArray)(i k:Nat)(j:i<s.size)(g:k<s.size):mM s.data.toList i=mM s.data.toList k↔∀m,m<s.size->ez s (i+m)=ez s (k+m):=by
 have c:=Mc s;constructor
 ·intro h m f;have a:=uS s.data.toList i m jO jO;have b:=uS s.data.toList k m jO jO;rw[c]at a b;unfold ez;rw[<-a,<-b,h]
 ·intro h;apply mr (by simp[nL]);intro m a b;rw[nL]at a;have e:=uS s.data.toList i m jO jO;have d:=uS s.data.toList k m jO jO;rw[c]at e d;have:=h m jO;unfold ez at this;rw[<-e,<-d]at this;rw[au,au,aC (by rw[nL];omega),aC (by rw[nL];omega)]at this;simpa using this
theorem exists_least(P:Nat->Prop)(n:Nat)(h:P n):∃m,P m∧∀q,q<m->¬P q:=by
 induction n using Nat.strongRecOn with
 |_ n d=>
  by_cases a:∃q,q<n∧P q
  ·obtain⟨q,a,c⟩:=a;exact d q a c
  ·exact⟨n,h,fun q b c=>a ⟨q,b,c⟩⟩
def l6(s:ByteArray)(i:Int):List Int->List Int
 |[]=>[i]
 |k::a=>if gO s i k then i::k::a else k::l6 s i a
theorem Mj(s:ByteArray)(i:Int):∀(l a:List Int),l.foldl (l5 s i) (a,true)=(a++l,true)
 |[],a=>by simp
 |k::b,a=>by rw[CT,show l5 s i (a,true) k=(a++[k],true)from rfl,Mj s i b];simp
theorem Mk(s:ByteArray)(i:Int):∀(l a:List Int),(if(l.foldl (l5 s i) (a,false)).2 then(l.foldl (l5 s i) (a,false)).1 else(l.foldl (l5 s i) (a,false)).1++[i])=a++l6 s i l
 |[],a=>by simp[l6]
 |k::b,a=>by
  rw[CT];cases h:gO s i k with
  |true=>rw[show l5 s i (a,false) k=(a++[i]++[k],true) by simp[l5,h],Mj];simp[l6,h]
  |false=>rw[show l5 s i (a,false) k=(a++[k],false) by simp[l5,h],Mk s i b];simp[l6,h]
theorem Ml(s:ByteArray)(i:Int)(l:List Int):wF s i l=l6 s i l:=by have:=Mk s i l [];unfold wF mN;rw[fi];simpa using this
theorem E'(s:ByteArray)(i x:Int):∀l,x∈l6 s i l↔x=i∨x∈l
 |[]=>by simp[l6]
 |k::a=>by
  simp only[l6];split
  ·simp
  ·simp only[ox,E' s i x a];exact⟨fun h=>by rcases h with h|h|h<;>simp[h],fun h=>by rcases h with h|h|h<;>simp[h]⟩
theorem wH(s:ByteArray)(x:Int):∀i:Nat,x∈gP s i↔0<=x∧x<i
 |0=>by
  constructor
  ·intro h;simp[gP]at h
  ·intro h;omega
 |i+1=>by rw[gP,Ml,E',wH s x i];omega
def l7(s:ByteArray)(a b:Int):Prop:=gO s a b=true
theorem Mm(s:ByteArray)(i:Int)(f:ij s i=true):∀l:List Int,(∀x∈l,ij s x=true∧x≠i)->l.Pairwise (l7 s)->(l6 s i l).Pairwise (l7 s)
 |[],_,_=>by simp[l6]
 |k::g,h,a=>by
  rw[qa]at a;simp only[l6];split
  ·rename_i b;rw[qa,qa];refine⟨fun x hx=> ?_,a⟩;cases ox.1 hx with
   |inl e=>subst e;exact b
   |inr e=>exact Mi s i k x b (a.1 x e)
  ·rename_i b;have d:=h k jS
   have c:gO s k i=true:=by
    rcases Y9 s i k f d.1 (fun e=>d.2 e.symm)with e|e
    ·exact absurd e b
    ·exact e
   rw[qa];refine⟨fun x hx=> ?_,Mm s i f g (fun x hx=>h x (by simp[hx])) a.2⟩;rw[E']at hx;rcases hx with rfl|hx
   ·exact c
   ·exact a.1 x hx
theorem Mn(s:ByteArray):∀i:Nat,i<=s.size->(gP s i).Pairwise (l7 s)
 |0,_=>by simp[gP]
 |i+1,h=>by rw[gP,Ml];refine Mm s i (uR jO jO) _ (fun x a=> ?_) (Mn s i jO);rw[wH]at a;exact⟨uR a.1 jO,jO⟩
theorem Fa(s:ByteArray){l:List Int}(h:l.Pairwise (l7 s)):l.Nodup:=by refine aix ?_ h;intro a b c e;subst e;have:=Y' s a;rw[c]at this;cases this
theorem Zb(s:ByteArray)(xs:List Int)(h:∀j,j<xs.length->fS s xs j=true):xs.Pairwise (l7 s):=by
 rw[IL]
 have step:∀j,j+1<xs.length->gO s (xs.getD j 0) (xs.getD (j+1) 0)=true:=by intro j b;have:=h (j+1) b;unfold fS at this;simpa using (VJ.1 this).2
 have c:∀d i,i+d+1<xs.length->gO s (xs.getD i 0) (xs.getD (i+d+1) 0)=true:=by
  intro d
  induction d with
  |zero=>intro i a;exact step i a
  |succ d e=>intro i a;exact Mi s _ _ _ (e i jO) (step (i+d+1) jO)
 intro i j a b f;have:=c (j-i-1) i jO;rw[show i+(j-i-1)+1=j by omega,au,au,aC a,aC b]at this;exact this
theorem Mo(s:ByteArray)(xs:List Int)(h:xs.Pairwise (l7 s))(b:∀x∈xs,ij s x=true):∀j,j<xs.length->fS s xs j=true:=by
 intro j a;rw[IL]at h;unfold fS;rw[VJ];constructor
 ·rw[au,aC a];exact b _ (cu a)
 ·by_cases c:j=0
  ·subst c;rfl
  ·have:=h (j-1) j jO a jO;rw[au,au,aC a,aC (show j-1<xs.length by omega)];rw[Bool.or_eq_true_iff];right;exact this
theorem sorted_perm(s:ByteArray)(xs:List Int)(h:xs.Pairwise (l7 s))(f:∀x∈xs,ij s x=true)(k:xs.length=s.size):∀a,a∈xs↔a∈gP s s.size:=by
 have g:=Fa s h;have b:∀x∈xs,x∈gP s s.size:=fun x c=>by rw[wH];exact Y2 (f x c)
 intro a;refine⟨b a,fun i=> ?_⟩;refine yw fun d=> ?_;have j:(a::xs).Nodup:=List.nodup_cons.2 ⟨d,g⟩
 have:=j.length_le_of_subset (l₂:=gP s s.size) (fun x c=>by
  cases ox.1 c with
  |inl e=>subst e;exact i
  |inr e=>exact b x e)
 rw[wG]at this;simp at this;omega
theorem Zc(s:ByteArray)(xs:List Int):wE s xs=(xs==gP s s.size):=by
 have d:=Mn s s.size (ag _);have m:∀x∈gP s s.size,ij s x=true:=fun x g=>by rw[wH]at g;exact uR g.1 g.2
 rw[agk];constructor
 ·intro h;unfold wE at h;rw[VJ,kz,beq_iff_eq]at h;have i:∀j,j<xs.length->fS s xs j=true:=fun j f=>h.1 j (by simpa using f);have c:=Zb s xs i
  have o:∀x∈xs,ij s x=true:=by intro x g;obtain⟨j,f,rfl⟩:=List.mem_iff_getElem.1 g;have:=(VJ.1 (i j f)).1;rwa[au,aC f]at this
  have k:=sorted_perm s xs c o h.2;have e:=(List.perm_ext_iff_of_nodup (Fa s c) (Fa s d)).2 k;rw[beq_iff_eq];refine ahe (le:=l7 s) (fun a b _ _ n l=> ?_) c d e;have:=Y8 s a b n;unfold l7 at l;rw[l]at this;cases this
 ·intro h;rw[beq_iff_eq]at h;subst h;unfold wE;rw[VJ,kz,beq_iff_eq,wG];exact⟨fun j f=>Mo s _ d m j (by rw[wG];simpa using f),rfl⟩
end Go.Proofs.YtcehhgppfahbkaaGreatDoor.Pl
namespace Go.Proofs.YtcehhgppfahbkaaGreatDoor
open Go.RowKit
structure SS where
 ord:List Nat
 cls:List Nat
 bg:List Nat
 reach:Nat
 aU:List (Nat×Nat×Nat)
 lo:Nat
 mid:Nat
 hi:Nat
 laid:Nat
 one:Nat
 two:Nat
 aP:Nat
 last:Nat
 steps:Nat
 done:Bool
namespace Sp
def fG(k l:Nat×Nat):Bool:=decide (l.1<k.1)||(k.1==l.1&&decide (l.2<k.2))
def eK(s:ByteArray)(b:Nat)(c:List Nat)(a:Nat):Nat×Nat:=if b=0 then((s.data.toList.getD a 0).toNat,0)else(c.getD a 0,c.getD ((a+b)%s.size) 0)
def pj(s:ByteArray)(x:SS)(a b:Nat):Bool:=fG (eK s x.reach x.cls a) (eK s x.reach x.cls b)
def bR(x:SS):SS:=match x.aU with
 |[]=>x
 |p::r=>if x.hi=0∧p.2.1≠0 then{x with lo:=p.1,mid:=p.2.1,hi:=p.2.2,aU:=r,laid:=0,one:=0,two:=p.2.1}else x
def kR(x:SS):SS:={x with bg:=x.bg.set x.laid (x.ord.getD (x.lo+x.laid) 0),laid:=x.laid+1}
def gQ(s:ByteArray)(x:SS):Bool:=x.two==x.hi||(decide (x.one<x.laid)&& !(pj s x (x.bg.getD x.one 0) (x.ord.getD x.two 0)))
def fH(x:SS):Nat:=x.lo+x.one+x.two-x.mid
def fI(x:SS)(e:Bool):SS:=if e then{x with lo:=0,mid:=0,hi:=0}else x
def dO(s:ByteArray)(x:SS):SS:=
 fI (if gQ s x then{x with ord:=x.ord.set (fH x) (x.bg.getD x.one 0),one:=x.one+1}else{x with ord:=x.ord.set (fH x) (x.ord.getD x.two 0),two:=x.two+1}) (fH x+1==x.hi)
def j8(x:SS):SS:=match x.aU with
 |[]=>x
 |p::r=>if p.2.2-p.1<2 then{x with aU:=r}else{x with aU:=(p.1,0,(p.1+p.2.2)/2)::((p.1+p.2.2)/2,0,p.2.2)::(p.1,(p.1+p.2.2)/2,p.2.2)::r}
def kS(s:ByteArray)(x:SS):Nat:=if x.aP=0 then 0 else if pj s x (x.ord.getD x.aP 0) (x.ord.getD (x.aP-1) 0)then x.last+1 else x.last
def fT(x:SS):SS:=if x.last+1=x.ord.length∨x.ord.length<=x.reach then{x with cls:=x.bg,bg:=x.cls,aP:=0,done:=true}
 else{x with cls:=x.bg,bg:=x.cls,aP:=0,reach:=max 1 (2*x.reach),aU:=(0,0,x.ord.length)::x.aU}
def bo(s:ByteArray)(x:SS):SS:={x with last:=kS s x,bg:=x.bg.set (x.ord.getD x.aP 0) (kS s x),aP:=x.aP+1}
def fA(s:ByteArray)(x:SS):SS:=if(bo s x).aP=x.ord.length then fT (bo s x)else bo s x
def kT(s:ByteArray)(x:SS):SS:=if 0<x.hi then(if x.laid<x.mid-x.lo then kR x else dO s x)else match x.aU with|[]=>fA s x|_=>j8 x
def di(s:ByteArray)(x:SS):SS:={kT s (bR x)with steps:=x.steps+1}
def et(n:Nat):SS:=⟨aV n,bI n 0,bI n 0,0,[(0,0,n)],0,0,0,0,0,0,0,0,0,decide (n<2)⟩
def cj(s:ByteArray):Nat->SS->SS
 |0,x=>x
 |k+1,x=>cj s k (di s x)
def ct(m:Nat):Nat:=if h:m<2 then 1 else 1+ct (m/2)+ct (m-m/2)+m/2+m
termination_by m
theorem wI{m:Nat}(h:m<2):ct m=1:=by rw[ct];simp[h]
theorem Aa{m:Nat}(h:2<=m):ct m=1+ct (m/2)+ct (m-m/2)+m/2+m:=by rw[ct];simp[show¬m<2 by omega]
theorem Zd(m:Nat):1<=ct m:=by
 by_cases h:m<2
 ·rw[wI h];omega
 ·rw[Aa jO];omega
theorem Fb:∀b m,1<=m->m<=2^b->ct m<=(3+3*b)*m
 |0,m,c,a=>by
  have:m=1:=by simp at a;omega
  subst this;rw[wI jO];omega
 |b+1,m,c,a=>by
  by_cases h:m<2
  ·rw[wI h];have:0<(3+3*(b+1))*m:=Nat.mul_pos jO jO;omega
  ·rw[Aa jO];rw[ng]at a;have g:=Fb b (m/2) jO jO;have f:=Fb b (m-m/2) jO jO;have e:(3+3*b)*(m/2)+(3+3*b)*(m-m/2)=(3+3*b)*m:=by rw[<-Nat.mul_add];congr 1;omega
   have d:(3+3*(b+1))*m=(3+3*b)*m+3*m:=by rw[<-ff];congr 1
   omega
def po(p:Nat×Nat×Nat):Nat:=if p.2.1=0 then ct (p.2.2-p.1)else(p.2.1-p.1)+(p.2.2-p.1)
def je(x:SS):Nat:=if x.hi=0 then 0 else(x.mid-x.lo-x.laid)+(x.hi-x.lo-(x.one+(x.two-x.mid)))
def eZ(n:Nat)(x:SS):Nat:=(x.aU.map po).sum+je x+(n-x.aP)
def Fc(n:Nat)(p:Nat×Nat×Nat):Prop:=p.1<=p.2.2∧p.2.2<=n∧(p.2.1=0∨p.1<p.2.1∧p.2.1<p.2.2)
structure Mq (n:Nat) (x:SS):Prop where
 lm:x.lo<x.mid
 mh:x.mid<x.hi
 hn:x.hi<=n
 laid:x.laid<=x.mid-x.lo
 one:x.one<=x.laid
 aij:x.mid<=x.two
 aik:x.two<=x.hi
 fresh:x.laid<x.mid-x.lo->x.one=0∧x.two=x.mid
 more:x.lo+x.one+x.two-x.mid<x.hi
 bg:∀i,i<x.laid->x.bg.getD i 0<n
structure Ok (n m:Nat) (x:SS):Prop where
 ol:x.ord.length=n
 cl:x.cls.length=n
 al:x.bg.length=n
 ord:∀i,i<n->x.ord.getD i 0<n
 reach:x.reach=0∧1<=m∧n<=2^(m-1)∨1<=x.reach∧n<=x.reach*2^m
 kU:x.reach<=2*n
 aU:∀p,p∈x.aU->Fc n p
 merge:x.hi=0∨Mq n x
 aP:x.done=false->x.aP<n
 pq:0<x.aP->x.aU=[]∧x.hi=0
 last:x.last<=n
 py:x.aP=0∨x.last<x.aP
theorem Fe{l:List Nat}{i j v:Nat}:(l.set i v).getD j 0=if i=j∧i<l.length then v else l.getD j 0:=by
 simp only[au,ahf];by_cases h:i=j
 ·subst h;by_cases a:i<l.length
  ·simp[a]
  ·simp[a,jq (Nat.le_of_not_lt a)]
 ·simp[h]
theorem Ok.join{n m:Nat}{x:SS}(h:Ok n m x):Ok n m (bR x):=by
 unfold bR;split
 ·exact h
 ·rename_i p r a;split
  ·rename_i f;obtain⟨i,g⟩:=f;have e:=h.aU p (by rw[a];simp);obtain⟨q1,q2,c⟩:=e;have c:=c.resolve_left g
   have b:x.aP=0:=by
    rcases tX x.aP with h2|h2
    ·exact h2
    ·rw[(h.pq h2).1]at a;cases a
   refine⟨h.ol,h.cl,h.al,h.ord,h.reach,h.kU,fun q d=>h.aU q (by rw[a];exact eU _ d),.inr ⟨?_, ?_, ?_, ?_, ?_, ?_, ?_, ?_, ?_, ?_⟩,h.aP,fun h2=> ?_,h.last,.inl b⟩<;>simp only at*<;>try omega
   exact fun _=>⟨trivial,trivial⟩
  ·exact h
theorem Ok.lay{n m:Nat}{x:SS}(h:Ok n m x)(u:0<x.hi)(r:x.laid<x.mid-x.lo):Ok n m (kR x):=by
 have o:=h.merge.resolve_left jO;obtain⟨j,g,f,t,s,e,d,c,b,a⟩:=o;have:=c r;refine⟨h.ol,h.cl,by simpa[kR]using h.al,h.ord,h.reach,h.kU,h.aU,.inr ⟨j,g,f, ?_, ?_,e,d, ?_,b, ?_⟩,h.aP,h.pq,h.last,h.py⟩
 ·simp only[kR];omega
 ·simp only[kR];omega
 ·intro _;exact this
 ·intro i p;simp only[kR,Fe];have k:=h.ol;have q:=h.al;split
  ·exact h.ord _ jO
  ·rename_i l;exact a i (by simp only[kR]at p;omega)
theorem Ok.put{n m:Nat}{x:SS}(s:ByteArray)(h:Ok n m x)(z:0<x.hi)(y:¬x.laid<x.mid-x.lo):Ok n m (dO s x):=by
 have t:=h.merge.resolve_left jO;obtain⟨o,l,k,j,r,q,p,v,u,e⟩:=t
 have w:x.aP=0:=by
  rcases tX x.aP with h2|h2
  ·exact h2
  ·have:=(h.pq h2).2;omega
 have c:=h.ol;unfold dO;by_cases d:gQ s x=true
 ·rw[if_pos d]
  have f:x.one<x.laid:=by
   unfold gQ at d;rw[ml,bE,decide_eq_true_iff]at d;rcases d with h2|h2
   ·have:x.two=x.hi:=by simpa using h2
    omega
   ·exact h2.1
  have a:∀i,i<n->(x.ord.set (fH x) (x.bg.getD x.one 0)).getD i 0<n:=by
   intro i g;rw[Fe];split
   ·exact e _ f
   ·exact h.ord i g
  unfold fI;by_cases b:(fH x+1==x.hi)=true
  ·rw[if_pos b];exact⟨by simpa using c,h.cl,h.al,a,h.reach,h.kU,h.aU,.inl rfl,h.aP,fun h2=>⟨(h.pq h2).1,rfl⟩,h.last,h.py⟩
  ·rw[if_neg b];have b:¬fH x+1=x.hi:=by simpa using b
   unfold fH at b;refine⟨by simpa using c,h.cl,h.al,a,h.reach,h.kU,h.aU,.inr ⟨o,l,k,j, ?_,q,p, ?_, ?_,e⟩,h.aP,h.pq,h.last,h.py⟩
   ·simp only;omega
   ·simp only;omega
   ·simp only;omega
 ·rw[if_neg d]
  have f:x.two<x.hi:=by unfold gQ at d;rw[ml]at d;have h2:¬x.two=x.hi:=fun h2=>d (.inl (by simpa using h2));omega
  have a:∀i,i<n->(x.ord.set (fH x) (x.ord.getD x.two 0)).getD i 0<n:=by
   intro i g;rw[Fe];split
   ·exact h.ord _ jO
   ·exact h.ord i g
  unfold fI;by_cases b:(fH x+1==x.hi)=true
  ·rw[if_pos b];exact⟨by simpa using c,h.cl,h.al,a,h.reach,h.kU,h.aU,.inl rfl,h.aP,fun h2=>⟨(h.pq h2).1,rfl⟩,h.last,h.py⟩
  ·rw[if_neg b];have b:¬fH x+1=x.hi:=by simpa using b
   unfold fH at b;refine⟨by simpa using c,h.cl,h.al,a,h.reach,h.kU,h.aU,.inr ⟨o,l,k,j,r, ?_, ?_, ?_, ?_,e⟩,h.aP,h.pq,h.last,h.py⟩
   ·simp only;omega
   ·simp only;omega
   ·simp only;omega
   ·simp only;omega
theorem Ok.Ze{n m:Nat}{x:SS}(h:Ok n m x)(c:x.hi=0):Ok n m (j8 x):=by
 unfold j8;split
 ·exact h
 ·rename_i p r b
  have f:x.aP=0:=by
   rcases tX x.aP with h2|h2
   ·exact h2
   ·have:=(h.pq h2).1;rw[b]at this;cases this
  have d:=h.aU p (by rw[b];simp);have a:∀q,q∈r->Fc n q:=fun q hq=>h.aU q (by rw[b];exact eU _ hq);obtain⟨q1,q2,e⟩:=d;split
  ·exact⟨h.ol,h.cl,h.al,h.ord,h.reach,h.kU,a,.inl c,h.aP,fun h2=>by simp only at h2;omega,h.last,h.py⟩
  ·refine⟨h.ol,h.cl,h.al,h.ord,h.reach,h.kU,fun q hq=> ?_,.inl c,h.aP,fun h2=>by simp only at h2;omega,h.last,h.py⟩;simp only[ox]at hq;rcases hq with rfl|rfl|rfl|hq
   ·exact⟨by simp only;omega,by simp only;omega,.inl rfl⟩
   ·exact⟨by simp only;omega,by simp only;omega,.inl rfl⟩
   ·exact⟨by simp only;omega,by simp only;omega,.inr (by simp only;omega)⟩
   ·exact a q hq
theorem Mr{n m:Nat}{x:SS}(s:ByteArray)(h:Ok n m x):kS s x<=x.aP:=by
 unfold kS;have:=h.py;split
 ·omega
 ·split<;>omega
theorem Ok.Ms{n m:Nat}{x:SS}(s:ByteArray)(h:Ok n m x)(c:x.hi=0)(f:x.aU=[])(hd:x.done=false):
 Ok n (if x.aP+1=n∧(fA s x).done=false then m-1 else m) (fA s x)∧(x.aP+1=n->(fA s x).done=false->1<=m):=by
 have r:=Mr s h;have i:=h.aP hd;have j:=h.ol;unfold fA;by_cases b:(bo s x).aP=x.ord.length
 ·rw[if_pos b];have a:x.aP+1=n:=by simp only[bo]at b;omega
  unfold fT;by_cases d:(bo s x).last+1=(bo s x).ord.length∨(bo s x).ord.length<=(bo s x).reach
  ·rw[if_pos d];refine⟨?_,fun _ h2=>by simp at h2⟩;rw[if_neg jS];exact⟨h.ol,by simpa[bo]using h.al,h.cl,h.ord,h.reach,h.kU,h.aU,.inl c,fun h2=>(by cases h2),fun h2=>by simp only at h2;omega,by simp only[bo];omega,.inl rfl⟩
  ·rw[if_neg d];have o:x.reach<n:=by simp only[bo]at d;omega
   have l:1<=m:=by
    rcases h.reach with h2|h2
    ·exact h2.2.1
    ·rcases tX m with h3|h3
     ·subst h3;simp at h2;omega
     ·exact h3
   refine⟨?_,fun _ _=>l⟩;rw[if_pos ⟨a,by simpa[bo]using hd⟩];refine⟨h.ol,by simpa[bo]using h.al,h.cl,h.ord, ?_, ?_, ?_,.inl c,fun _=>by simp only;omega,fun h2=>by simp only at h2;omega,by simp only[bo];omega,.inl rfl⟩
   ·right;simp only[bo];refine⟨jO, ?_⟩;rcases h.reach with h2|h2
    ·rw[h2.1];simpa using h2.2.2
    ·have e:max 1 (2*x.reach)=2*x.reach:=jO;rw[e]
     have p:2*x.reach*2^(m-1)=x.reach*2^m:=by obtain⟨k,rfl⟩:∃k,m=k+1:=⟨m-1,jO⟩;rw[ng,ahg,oy 2 x.reach,yx,oy 2]
     rw[p];exact h2.2
   ·simp only[bo];omega
   ·intro q g;simp only[bo,f,Dc]at g;subst g;exact⟨jS,by simp only;omega,.inl rfl⟩
 ·rw[if_neg b];have a:x.aP+1≠n:=by simp only[bo]at b;omega
  rw[if_neg jO];refine⟨?_,fun h2=>absurd h2 a⟩;exact⟨h.ol,h.cl,by simpa[bo]using h.al,h.ord,h.reach,h.kU,h.aU,.inl c,fun _=>by simp only[bo];omega,fun _=>⟨f,c⟩,by simp only[bo];omega,.inr (by simp only[bo];omega)⟩
theorem Zf{n m:Nat}{x:SS}(h:Ok n m x):eZ n (bR x)=eZ n x:=by
 unfold bR;split
 ·rfl
 ·rename_i p r b;split
  ·rename_i a;have c:=(h.aU p (by rw[b];simp)).2.2.resolve_left a.2;unfold eZ je;rw[b];simp only[lE,Dd,a.1,if_true,po,if_neg a.2];rw[if_neg jO];omega
  ·rfl
theorem Zg{n m:Nat}{x:SS}(h:Ok n m x)(b:0<x.hi)(a:x.laid<x.mid-x.lo):eZ n (kR x)+1=eZ n x:=by unfold eZ je kR;simp only;rw[if_neg jO,if_neg jO];omega
theorem Zh{n m:Nat}{x:SS}(s:ByteArray)(h:Ok n m x)(C:0<x.hi)(B:¬x.laid<x.mid-x.lo):eZ n (dO s x)+1=eZ n x:=by
 obtain⟨A,z,w,v,u,t,r,q,p,f⟩:=h.merge.resolve_left jO
 have o:je x=x.hi-x.lo-(x.one+(x.two-x.mid)):=by unfold je;rw[if_neg jO];omega
 have b:∀y:SS,y.aU=x.aU->y.aP=x.aP->y.lo=x.lo->y.mid=x.mid->y.hi=x.hi->y.laid=x.laid->(y.one=x.one+1∧y.two=x.two∨y.one=x.one∧y.two=x.two+1)->eZ n (fI y (fH x+1==x.hi))+1=eZ n x:=by
  intro y e d l k j i D;unfold eZ;rw[o];have g:fH x=x.lo+x.one+x.two-x.mid:=rfl;by_cases c:fH x+1=x.hi
  ·have a:(fH x+1==x.hi)=true:=by simpa using c
   have:je (fI y true)=0:=by simp[je,fI]
   rw[a,this];simp only[fI,if_true,e,d];omega
  ·have a:(fH x+1==x.hi)=false:=by simpa using c
   rw[a]
   have:je (fI y false)=x.hi-x.lo-(y.one+(y.two-x.mid)):=by unfold je;simp only[fI,lF,if_false];rw[if_neg jO,l,k,j,i];omega
   rw[this];simp only[fI,lF,if_false,e,d];omega
 unfold dO;split
 ·exact b _ rfl rfl rfl rfl rfl rfl (.inl ⟨rfl,rfl⟩)
 ·exact b _ rfl rfl rfl rfl rfl rfl (.inr ⟨rfl,rfl⟩)
theorem Zi{n m:Nat}{x:SS}(h:Ok n m x)(d:x.hi=0){p:Nat×Nat×Nat}{r:List (Nat×Nat×Nat)}(a:x.aU=p::r)(b:p.2.1=0):eZ n (j8 x)+1=eZ n x:=by
 unfold j8;rw[a];simp only;split
 ·rename_i c;unfold eZ je;rw[a];simp only[lE,Dd,d,if_true,po,b];rw[wI c];omega
 ·rename_i c;have e:=h.aU p (by rw[a];simp);have q1:=e.1;unfold eZ je;rw[a];simp only[lE,Dd,d,if_true,po,b];rw[Aa (m:=p.2.2-p.1) jO,if_neg jO];have g:(p.1+p.2.2)/2-p.1=(p.2.2-p.1)/2:=jO;have f:p.2.2-(p.1+p.2.2)/2=p.2.2-p.1-(p.2.2-p.1)/2:=jO;rw[g,f];omega
def total(n m:Nat)(x:SS):Nat:=eZ n x+m*(ct n+n)
theorem Zj{n m:Nat}{x:SS}(s:ByteArray)(h:Ok n m x)(c:x.hi=0)(b:x.aU=[])(hd:x.done=false)(a:(fA s x).done=false):
 total n (if x.aP+1=n∧(fA s x).done=false then m-1 else m) (fA s x)+1=total n m x:=by
 have f:=(h.Ms s c b hd).2;have i:=h.aP hd;have d:=h.ol;have l:eZ n x=n-x.aP:=by unfold eZ je;rw[b,if_pos c];simp
 unfold total;rw[l];by_cases g:x.aP+1=n
 ·have f:=f g a;rw[if_pos ⟨g,a⟩];obtain⟨k,rfl⟩:∃k,m=k+1:=⟨m-1,jO⟩
  have e:eZ n (fA s x)=ct n+n:=by
   unfold fA at a⊢;rw[if_pos (by simp only[bo];omega)]at a⊢;unfold fT at a⊢;split at a
   ·cases a
   ·rename_i j;rw[if_neg j];unfold eZ je;simp[bo,b,c,po,d]
  rw[e,ahg,ff,ow];omega
 ·rw[if_neg jO]
  have e:eZ n (fA s x)=n-(x.aP+1):=by unfold fA;rw[if_neg (by simp only[bo];omega)];unfold eZ je;simp[bo,b,c]
  rw[e];omega
theorem Ok.of_steps{n m:Nat}{x:SS}(h:Ok n m x)(k:Nat):Ok n m {x with steps:=k}:=⟨h.ol,h.cl,h.al,h.ord,h.reach,h.kU,h.aU,(h.merge.imp id fun⟨a,b,c,d,e,f,g,i,j,l⟩=>⟨a,b,c,d,e,f,g,i,j,l⟩),h.aP,h.pq,h.last,h.py⟩
theorem join_top{x:SS}{p:Nat×Nat×Nat}{r:List (Nat×Nat×Nat)}(a:(bR x).aU=p::r)(c:(bR x).hi=0){n m:Nat}(h:Ok n m x):p.2.1=0:=by
 unfold bR at a c;split at a
 ·rename_i b;rw[b]at a;cases a
 ·rename_i q f b;split at a
  ·rename_i d;rw[b]at c;simp only[if_pos d]at c;have:=(h.aU q (by rw[b];simp)).2.2.resolve_left d.2;omega
  ·rename_i d;rw[b]at c;simp only[if_neg d]at c;rw[b]at a;cases a;exact yw fun e=>d ⟨c,e⟩
theorem Ff(x:SS):(bR x).done=x.done:=by
 unfold bR;split
 ·rfl
 ·split<;>rfl
theorem Ok.step{n m:Nat}{x:SS}(s:ByteArray)(h:Ok n m x)(hd:x.done=false):
 ∃m',Ok n m' (di s x)∧((di s x).done=false->total n m' (di s x)+1=total n m x):=by
 have c:=h.join;have l:=Zf h;have f:(bR x).done=false:=by rw[Ff];exact hd
 unfold di;have j:∀(m':Nat) (y:SS) (k:Nat),total n m' {y with steps:=k}=total n m' y:=fun m' y k=>rfl
 have b:∀m' y,Ok n m' y->(y.done=false->total n m' y+1=total n m (bR x))->∃m',Ok n m' {y with steps:=x.steps+1}∧(({y with steps:=x.steps+1}:SS).done=false->total n m' {y with steps:=x.steps+1}+1=total n m x):=fun m' y d i=>⟨m',d.of_steps _,fun g=>by rw[j,i g];unfold total;rw[l]⟩
 unfold kT;by_cases a:0<(bR x).hi
 ·rw[if_pos a];by_cases d:(bR x).laid<(bR x).mid-(bR x).lo
  ·rw[if_pos d];exact b m _ (c.lay a d) fun _=>by unfold total;rw[<-Zg c a d];omega
  ·rw[if_neg d];exact b m _ (c.put s a d) fun _=>by unfold total;rw[<-Zh s c a d];omega
 ·rw[if_neg a];have a:(bR x).hi=0:=jO;split
  ·rename_i e;exact b _ _ (c.Ms s a e f).1 fun g=>Zj s c a e f g
  ·rename_i e
   obtain⟨p,r,e⟩:∃p r,(bR x).aU=p::r:=by
    cases i:(bR x).aU with
    |nil=>exact absurd i e
    |cons p r=>exact⟨p,r,rfl⟩
   exact b m _ (c.Ze a) fun _=>by unfold total;rw[<-Zi c a e (join_top e a h)];omega
end Sp
end Go.Proofs.YtcehhgppfahbkaaGreatDoor
namespace Go.Proofs.YtcehhgppfahbkaaGreatDoor
open Go.RowKit
namespace Sp
theorem mO(k l:Nat×Nat):fG k l=true↔l.1<k.1∨l.1=k.1∧l.2<k.2:=by unfold fG;rw[ml,bE,decide_eq_true_iff,decide_eq_true_iff,beq_iff_eq];constructor<;>intro h<;>omega
theorem Fg(k l:Nat×Nat):fG k l=false↔fG l k=true∨k=l:=by rw[VI,ne_eq,mO,mO,oz];omega
def Rk(k:Nat->Nat×Nat)(a b:Nat):Prop:=fG (k b) (k a)=true∨k a=k b∧a<b
theorem kV(s:ByteArray):∀a b x,cj s (a+b) x=cj s b (cj s a x)
 |0,b,x=>by rw[fD];rfl
 |a+1,b,x=>by rw[Nat.add_right_comm];exact kV s a b (di s x)
theorem Fh{x:SS}(h:0<x.hi):bR x=x:=by
 unfold bR;split
 ·rfl
 ·rw[if_neg jO]
theorem Zk(s:ByteArray)(x:SS)(h:0<(bR x).hi)(a:(bR x).steps=x.steps):di s x=di s (bR x):=by unfold di;rw[Fh h,a]
theorem Zl(s:ByteArray)(c:Nat)(x:SS)(h:0<(bR x).hi)(a:(bR x).steps=x.steps):cj s (c+1) x=cj s (c+1) (bR x):=by show cj s c (di s x)=cj s c (di s (bR x));rw[Zk s x h a]
theorem qJ(pre:List Nat)(v:Nat)(post:List Nat):(pre++v::post).getD pre.length 0=v:=by simp[au]
theorem Ab(pre:List Nat)(v u:Nat)(post:List Nat):(pre++v::post).set pre.length u=pre++u::post:=by rw[List.set_append_right (h:=ag _),Nat.sub_self];rfl
theorem Mu(s:ByteArray):∀(A D E:List Nat) (x:SS) (pre B post:List Nat),x.ord=pre++(D++A)++B++post->x.lo=pre.length->x.mid=x.lo+D.length+A.length->0<x.hi->x.bg=D++E->x.laid=D.length->A.length<=E.length->
 cj s A.length x={x with bg:=D++A++E.drop A.length,laid:=D.length+A.length,steps:=x.steps+A.length}
 |[],D,E,x,pre,B,post,_,_,_,_,d,b,_=>by simp only[cj,eF,bV,dj,iA];rw[<-d,<-b]
 |a::A,D,[],x,pre,B,post,_,_,_,_,_,_,g=>by simp at g
 |a::A,D,e::E,x,pre,B,post,i,h,k,f,d,b,g=>by
  simp only[bL]at*
  have c:di s x={x with bg:=(D++[a])++E,laid:=x.laid+1,steps:=x.steps+1}:=by
   have j:x.ord.getD (x.lo+x.laid) 0=a:=by rw[i,h,b,show pre++(D++a::A)++B++post=(pre++D)++a::(A++B++post) by simp,<-ay];exact qJ _ _ _
   unfold di;rw[Fh f];unfold kT;rw[if_pos f,if_pos jO];unfold kR;rw[j,d,b,Ab];simp
  show cj s A.length (di s x)=_;rw[c];rw[Mu s A (D++[a]) E {x with bg:=(D++[a])++E,laid:=x.laid+1,steps:=x.steps+1} pre B post (by simp[i]) h (by simp only[ay,bL,eF];omega) f rfl (by simp[b]) jO];simp[gH,vL,IM]
theorem Fi(s:ByteArray)(k:Nat->Nat×Nat):∀(c:Nat) (x:SS) (pre P J B post D A E:List Nat),A.length+B.length=c->0<c->(∀a,k a=eK s x.reach x.cls a)->
 x.ord=pre++P++J++B++post->x.bg=D++A++E->J.length=A.length->x.lo=pre.length->x.hi=x.lo+P.length+J.length+B.length->x.two+B.length=x.hi->x.one=D.length->x.laid=D.length+A.length->x.mid=x.lo+x.laid->x.mid<=x.two->P.length=x.one+(x.two-x.mid)->0<x.laid->
 (P++A).Pairwise (Rk k)->(P++B).Pairwise (Rk k)->(∀a∈A,∀b∈B,k a=k b->a<b)->
 ∃Q one two,Q.Perm (A++B)∧(P++Q).Pairwise (Rk k)∧cj s c x={x with ord:=pre++P++Q++post,lo:=0,mid:=0,hi:=0,one:=one,two:=two,steps:=x.steps+c}
 |0,_,_,_,_,_,_,_,_,_,_,h0,_,_,_,_,_,_,_,_,_,_,_,_,_,_,_,_=>absurd h0 (ub 0)
 |c+1,x,pre,P,J,B,post,D,A,E,hc,_,W,Y,h2,X,h4,F,R,h7,O,h9,u1,u5,U,w,r,cr=>by
  have y:fH x=(pre++P).length:=by unfold fH;rw[ay];omega
  have K:0<x.hi:=jO
  have l:di s x={dO s x with steps:=x.steps+1}:=by unfold di;rw[Fh K];unfold kT;rw[if_pos K,if_neg jO]
  have ga:∀a g,A=a::g->x.bg.getD x.one 0=a:=by intro a g e;rw[h2,h7,e,show D++a::g++E=D++a::(g++E) by simp];exact qJ _ _ _
  have gb:∀b f,B=b::f->x.ord.getD x.two 0=b:=by
   intro b f e;have:x.two=(pre++P++J).length:=by simp only[ay];omega
   rw[Y,e,this,show pre++P++J++b::f++post=(pre++P++J)++b::(f++post) by simp];exact qJ _ _ _
  have z:(fH x+1==x.hi)=decide (c=0):=by rw[y,agk,beq_iff_eq,decide_eq_true_iff,ay];omega
  have first:∀a g,A=a::g->gQ s x=true->(∀b∈B,Rk k a b)->∃Q one two,Q.Perm (A++B)∧(P++Q).Pairwise (Rk k)∧cj s (c+1) x={x with ord:=pre++P++Q++post,lo:=0,mid:=0,hi:=0,one:=one,two:=two,steps:=x.steps+(c+1)}:=by
   intro a g eA ht C
   obtain⟨j,d,eJ⟩:∃j d,J=j::d:=by
    cases J with
    |nil=>rw[eA]at X;simp at X
    |cons j d=>exact⟨j,d,rfl⟩
   subst eA eJ;simp only[bL]at*
   have hC:x.ord.set (fH x) a=pre++(P++[a])++d++B++post:=by rw[y,Y,show pre++P++j::d++B++post=(pre++P)++j::(d++B++post) by simp,Ab];simp
   have m:dO s x=fI {x with ord:=pre++(P++[a])++d++B++post,one:=x.one+1} (decide (c=0)):=by unfold dO;rw[if_pos ht,ga a g rfl,hC,z]
   have t:((P++[a])++g).Pairwise (Rk k):=by simpa using w
   have o:((P++[a])++B).Pairwise (Rk k):=by
    rw[oB]at w r⊢;refine⟨?_,r.2.1,fun p hp b hb=> ?_⟩
    ·rw[oB];exact⟨r.1,jS,fun p hp q I=>w.2.2 p hp q (by simp at I;simp[I])⟩
    ·rw[p8]at hp;rcases hp with hp|hp
     ·exact r.2.2 p hp b hb
     ·simp at hp;subst hp;exact C b hb
   show∃Q one two,_∧_∧cj s c (di s x)=_;rw[l,m];cases c with
   |zero=>have e1:g=[]:=uc jO;have e2:B=[]:=uc jO;subst e1 e2;have e3:d=[]:=uc (by simpa using X);subst e3;refine⟨[a],x.one+1,x.two,jS,by simpa using t, ?_⟩;simp[cj,fI]
   |succ c=>rw[show decide (c+1=0)=false by simp];obtain⟨Q,one,two,q1,q2,Z⟩:=Fi s k (c+1) {x with ord:=pre++(P++[a])++d++B++post,one:=x.one+1,steps:=x.steps+1} pre (P++[a]) d B post (D++[a]) g E jO jO W rfl (by simp[h2]) jO h4 (by simp only[ay,bL,eF];omega) R (by simp[h7]) (by simp only[ay,bL,eF];omega) h9 u1 (by simp only[ay,bL,eF];omega) U t o (fun u hu=>cr u (eU _ hu));refine⟨a::Q,one,two,by simpa using q1.cons a,by simpa using q2, ?_⟩;show cj s (c+1) _=_;rw[show({fI {x with ord:=pre++(P++[a])++d++B++post,one:=x.one+1} false with steps:=x.steps+1}:SS)={x with ord:=pre++(P++[a])++d++B++post,one:=x.one+1,steps:=x.steps+1}from rfl,Z];simp[gH,vL,IM]
  have h:∀b f,B=b::f->gQ s x=false->(∀a∈A,Rk k b a)->∃Q one two,Q.Perm (A++B)∧(P++Q).Pairwise (Rk k)∧cj s (c+1) x={x with ord:=pre++P++Q++post,lo:=0,mid:=0,hi:=0,one:=one,two:=two,steps:=x.steps+(c+1)}:=by
   intro b f eB ht C;subst eB;simp only[bL]at*
   obtain⟨d,eJ,u0⟩:∃d,x.ord.set (fH x) b=pre++(P++[b])++d++f++post∧d.length=J.length:=by
    cases J with
    |nil=>exact⟨[],by rw[y,Y,show pre++P++[]++b::f++post=(pre++P)++b::(f++post) by simp,Ab];simp,rfl⟩
    |cons j d=>exact⟨d++[b],by rw[y,Y,show pre++P++j::d++b::f++post=(pre++P)++j::(d++b::f++post) by simp,Ab];simp,jS⟩
   have m:dO s x=fI {x with ord:=pre++(P++[b])++d++f++post,two:=x.two+1} (decide (c=0)):=by unfold dO;rw[if_neg (by simp[ht]),gb b f rfl,eJ,z]
   have o:((P++[b])++f).Pairwise (Rk k):=by simpa using r
   have t:((P++[b])++A).Pairwise (Rk k):=by
    rw[oB]at w r⊢;refine⟨?_,w.2.1,fun p hp a ha=> ?_⟩
    ·rw[oB];exact⟨w.1,jS,fun p hp q I=>r.2.2 p hp q (by simp at I;simp[I])⟩
    ·rw[p8]at hp;rcases hp with hp|hp
     ·exact w.2.2 p hp a ha
     ·simp at hp;subst hp;exact C a ha
   show∃Q one two,_∧_∧cj s c (di s x)=_;rw[l,m];cases c with
   |zero=>have e1:A=[]:=uc jO;have e2:f=[]:=uc jO;subst e1 e2;have e3:d=[]:=uc (by rw[u0];simpa using X);subst e3;refine⟨[b],x.one,x.two+1,jS,by simpa using o, ?_⟩;simp[cj,fI]
   |succ c=>rw[show decide (c+1=0)=false by simp];obtain⟨Q,one,two,q1,q2,Z⟩:=Fi s k (c+1) {x with ord:=pre++(P++[b])++d++f++post,two:=x.two+1,steps:=x.steps+1} pre (P++[b]) d f post D A E jO jO W rfl h2 jO h4 (by simp only[ay,bL,eF];omega) (by simp only;omega) h7 O h9 (by simp only;omega) (by simp only[ay,bL,eF];omega) U t o (fun u hu v hv=>cr u hu v (eU _ hv));refine⟨b::Q,one,two,((q1.cons b).trans List.perm_middle.symm),by simpa using q2, ?_⟩;show cj s (c+1) _=_;rw[show({fI {x with ord:=pre++(P++[b])++d++f++post,two:=x.two+1} false with steps:=x.steps+1}:SS)={x with ord:=pre++(P++[b])++d++f++post,two:=x.two+1,steps:=x.steps+1}from rfl,Z];simp[gH,vL,IM]
  cases n:B with
  |nil=>
   cases i:A with
   |nil=>rw[i,n]at hc;simp at hc
   |cons a g=>
    rw[<-i,<-n];refine first a g i ?_ (by rw[n];simp)
    unfold gQ;rw[show(x.two==x.hi)=true by rw[n]at R;simpa using R];rfl
  |cons b f=>
   have T:(x.two==x.hi)=false:=by rw[n]at R;simp at R⊢;omega
   rw[<-n];cases i:A with
   |nil=>rw[<-i];refine h b f n ?_ (by rw[i];simp);unfold gQ;rw[T,yn];rw[show decide (x.one<x.laid)=false by rw[i]at O;simp at O⊢;omega];rfl
   |cons a g=>
    rw[<-i];have N:pj s x (x.bg.getD x.one 0) (x.ord.getD x.two 0)=fG (k a) (k b):=by unfold pj;rw[ga a g i,gb b f n,W,W]
    have G:gQ s x= !fG (k a) (k b):=by unfold gQ;rw[T,yn,show decide (x.one<x.laid)=true by rw[i]at O;simp at O⊢;omega,oq,N]
    rw[oB]at w r;have sB:=r.2.1;have sA:=w.2.1;rw[n,qa]at sB;rw[i,qa]at sA;cases hg:fG (k a) (k b)with
    |false=>
     refine first a g i (by rw[G,hg];rfl) fun v hv=> ?_
     have hx:=cr a (by rw[i];simp) v hv;rw[n,ox]at hv;rcases hv with rfl|hv
     ·rw[Fg]at hg;rcases hg with hg|hg
      ·exact .inl hg
      ·exact .inr ⟨hg,hx hg⟩
     ·rw[Fg,mO,oz]at hg;have F:=sB.1 v hv;unfold Rk at F⊢;rw[mO,oz]at F⊢;by_cases L:k a=k v
      ·rw[oz]at L;exact .inr ⟨L,hx (Prod.ext L.1 L.2)⟩
      ·rw[oz]at L;left;omega
    |true=>
     refine h b f n (by rw[G,hg];rfl) fun v hv=> ?_;rw[i,ox]at hv;rcases hv with rfl|hv
     ·exact .inl hg
     ·have F:=sA.1 v hv;unfold Rk at F⊢;rw[mO]at hg;rw[mO,oz]at F⊢;left;omega
theorem Zm{R:Nat->Nat->Prop}{a d b c:List Nat}(h:(a++b).Pairwise R)(i:d.Perm a)(g:c.Perm b):∀u∈d,∀v∈c,R u v:=by rw[oB]at h;exact fun u f v e=>h.2.2 u (i.mem_iff.1 f) v (g.mem_iff.1 e)
theorem Fj(s:ByteArray)(k:Nat->Nat×Nat):∀(f m:Nat),m<=f->∀(x:SS) (pre d post:List Nat) (c:List (Nat×Nat×Nat)),d.length=m->(∀a,k a=eK s x.reach x.cls a)->x.ord=pre++d++post->x.bg.length=x.ord.length->x.aU=(pre.length,0,pre.length+m)::c->x.hi=0->
 d.Pairwise (fun a b=>k a=k b->a<b)->
 ∃h i lo mid laid one two,h.Perm d∧h.Pairwise (Rk k)∧i.length=x.bg.length∧cj s (ct m) x={x with ord:=pre++h++post,bg:=i,aU:=c,lo:=lo,mid:=mid,hi:=0,laid:=laid,one:=one,two:=two,steps:=x.steps+ct m}
 |f,m,T,x,pre,d,post,c,P,R,D,I,C,h4,j=>by
  have hj:bR x=x:=by unfold bR;rw[C];simp
  by_cases hm:m<2
  ·rw[wI hm];refine⟨d,x.bg,x.lo,x.mid,x.laid,x.one,x.two,ud _, ?_,rfl, ?_⟩
   ·match d,P with
    |[],_=>exact IP
    |[a],_=>exact IQ _ _
    |a::b::r,P=>simp at P;omega
   ·show cj s 0 (di s x)=_;show di s x=_;unfold di;rw[hj];unfold kT;rw[if_neg jO,C];simp only;unfold j8;rw[C];simp only;rw[if_pos jO,<-D,<-h4]
  ·match f,T with
   |0,T=>omega
   |f+1,T=>
    have u1:1<=m/2:=jO;rw[Aa jO];obtain⟨A,B,hA,hB,z⟩:∃A B,A.length=m/2∧B.length=m-m/2∧d=A++B:=⟨d.take (m/2),d.drop (m/2),by rw[List.length_take];omega,by rw[fO];omega,(iC _ _).symm⟩;subst z;have w:=j;rw[oB]at j
    have O:di s x={x with aU:=(pre.length,0,pre.length+m/2)::((pre++A).length,0,(pre++A).length+(m-m/2))::(pre.length,pre.length+m/2,pre.length+m)::c,steps:=x.steps+1}:=by unfold di;rw[hj];unfold kT;rw[if_neg jO,C];simp only;unfold j8;rw[C];simp only;rw[if_neg jO,show(pre.length+(pre.length+m))/2=pre.length+m/2 by omega,ay,hA,show pre.length+m/2+(m-m/2)=pre.length+m by omega]
    rw[show 1+ct (m/2)+ct (m-m/2)+m/2+m=1+(ct (m/2)+(ct (m-m/2)+(m/2+m))) by omega,kV];show∃h i lo mid laid one two,_∧_∧_∧cj s _ (di s x)=_;rw[O,kV];obtain⟨g,E,L,v,n,u,q,F,a2,a3,a4⟩:=Fj s k f (m/2) jO {x with aU:=(pre.length,0,pre.length+m/2)::((pre++A).length,0,(pre++A).length+(m-m/2))::(pre.length,pre.length+m/2,pre.length+m)::c,steps:=x.steps+1} pre A (B++post) _ hA R (by simp[D]) I rfl h4 j.1;rw[a4,kV]
    obtain⟨G,e,u0,Z,N,Y,X,U,b2,b3,b4⟩:=Fj s k f (m-m/2) jO {x with ord:=pre++g++(B++post),bg:=E,aU:=((pre++A).length,0,(pre++A).length+(m-m/2))::(pre.length,pre.length+m/2,pre.length+m)::c,lo:=L,mid:=v,hi:=0,laid:=n,one:=u,two:=q,steps:=x.steps+1+ct (m/2)} (pre++g) B post ((pre.length,pre.length+m/2,pre.length+m)::c) hB R jS (by
     have:=F.length_eq
     simp only[ay]at*;rw[a3,I,D];simp only[ay];omega) (by simp only[ay,F.length_eq]) rfl j.2.1
    simp only[List.append_assoc]at b4⊢;rw[b4];have lA:=F.length_eq;have lB:=U.length_eq
    have l:e.length=(pre++(g++G++post)).length:=by rw[b3];simp only[a3,I,D,ay];omega
    rw[show m/2+m=(m/2-1)+1+m by omega,kV]
    have o:∀(y:SS),y.hi=0->y.aU=(pre.length,pre.length+m/2,pre.length+m)::c->bR y={y with lo:=pre.length,mid:=pre.length+m/2,hi:=pre.length+m,aU:=c,laid:=0,one:=0,two:=pre.length+m/2}:=by intro y e1 e2;unfold bR;rw[e2];simp only;rw[if_pos ⟨e1,jO⟩]
    rw[Zl s (m/2-1) _ (by rw[o _ rfl rfl];simp only;omega) (by rw[o _ rfl rfl])];rw[o _ rfl rfl];rw[show m/2-1+1=g.length by omega];rw[Mu s g [] e {x with ord:=pre++(g++(G++post)),bg:=e,aU:=c,lo:=pre.length,mid:=pre.length+m/2,hi:=pre.length+m,laid:=0,one:=0,two:=pre.length+m/2,steps:=x.steps+1+ct (m/2)+ct (m-m/2)} pre G post jS rfl (by simp only[eF];omega) (by simp only;omega) rfl rfl (by rw[l];simp only[ay];omega)];obtain⟨Q,t,p,c1,c2,c3⟩:=Fi s k m {x with ord:=pre++(g++(G++post)),bg:=[]++g++e.drop g.length,aU:=c,lo:=pre.length,mid:=pre.length+m/2,hi:=pre.length+m,laid:=[].length+g.length,one:=0,two:=pre.length+m/2,steps:=x.steps+1+ct (m/2)+ct (m-m/2)+g.length} pre [] g G post [] g (e.drop g.length) jO jO R jS rfl rfl rfl (by simp only[eF];omega) (by simp only;omega) rfl jS (by simp only[eF];omega) (by simp only;omega) jS (by simp only[eF];omega) (by simpa using a2) (by simpa using b2) (Zm w F U);rw[c3];refine⟨Q,g++e.drop g.length,0,0,g.length,t,p,c1.trans (F.append U),by simpa using c2, ?_, ?_⟩
    ·rw[ay,fO,l,I,D];simp only[ay];omega
    ·rw[show x.steps+1+ct (m/2)+ct (m-m/2)+g.length+m=x.steps+(1+(ct (m/2)+(ct (m-m/2)+(g.length+m)))) by omega];simp
end Sp
end Go.Proofs.YtcehhgppfahbkaaGreatDoor
namespace Go.Proofs.YtcehhgppfahbkaaGreatDoor
open Go.RowKit
namespace Sp
open Pl
def fJ(s:ByteArray)(L a b:Nat):Prop:=∀i,i<L->ez s (a+i)=ez s (b+i)
def jf(s:ByteArray)(L a b:Nat):Prop:=∃j,j<L∧(∀i,i<j->ez s (a+i)=ez s (b+i))∧ez s (a+j)<ez s (b+j)
def RL(s:ByteArray)(L a b:Nat):Prop:=jf s L a b∨fJ s L a b∧a<b
def kW(s:ByteArray)(L:Nat):Prop:=∀a b,a<b->b<s.size->¬fJ s L a b
theorem Mv(s:ByteArray)(a i:Nat):ez s (a %s.size+i)=ez s (a+i):=by unfold ez;rw[Nat.mod_add_mod]
theorem Ac(s:ByteArray)(a i:Nat):ez s (a+i %s.size)=ez s (a+i):=by unfold ez;rw[Nat.add_mod_mod]
theorem Zn(s:ByteArray)(L a b:Nat):fJ s L (a %s.size) (b %s.size)↔fJ s L a b:=by unfold fJ;simp only[Mv]
theorem Zo(s:ByteArray)(L a b:Nat):jf s L (a %s.size) (b %s.size)↔jf s L a b:=by unfold jf;simp only[Mv]
theorem Fk{s:ByteArray}{L a b:Nat}(h:jf s L a b):¬fJ s L a b:=by obtain⟨j,e,f,c⟩:=h;intro d;rw[d j e]at c;exact yv _ c
theorem Ad{s:ByteArray}{L a b:Nat}(h:fJ s L a b):fJ s L b a:=fun i c=>(h i c).symm
theorem Mw(s:ByteArray)(a b:Nat):∀L,jf s L a b∨fJ s L a b∨jf s L b a
 |0=> .inr (.inl fun i d=>absurd d (jr i))
 |L+1=>by
  rcases Mw s a b L with ⟨j,e,c⟩|h|⟨j,e,c⟩
  ·exact .inl ⟨j,jO,c⟩
  ·by_cases e:ez s (a+L)<ez s (b+L)
   ·exact .inl ⟨L,jO,h,e⟩
   ·by_cases c:ez s (b+L)<ez s (a+L)
    ·exact .inr (.inr ⟨L,jO,fun i d=>(h i d).symm,c⟩)
    ·refine .inr (.inl fun i d=> ?_);by_cases f:i<L
     ·exact h i f
     ·obtain rfl:i=L:=jO;exact ahc (UInt8.not_lt.1 c) (UInt8.not_lt.1 e)
  ·exact .inr (.inr ⟨j,jO,c⟩)
theorem Zp(s:ByteArray)(r a b:Nat):jf s (2*r) a b↔jf s r a b∨fJ s r a b∧jf s r (a+r) (b+r):=by
 constructor
 ·rintro⟨j,g,d,c⟩;by_cases e:j<r
  ·exact .inl ⟨j,e,d,c⟩
  ·refine .inr ⟨fun i f=>d i jO,j-r,jO,fun i f=> ?_, ?_⟩
   ·rw[gH,gH];exact d _ jO
   ·rw[gH,gH,show r+(j-r)=j by omega];exact c
 ·rintro(⟨j,g,d,c⟩|⟨h,j,g,d,c⟩)
  ·exact⟨j,jO,d,c⟩
  ·refine⟨r+j,jO,fun i f=> ?_, ?_⟩
   ·by_cases e:i<r
    ·exact h i e
    ·have:=d (i-r) jO;rw[gH,gH,show r+(i-r)=i by omega]at this;exact this
   ·rw[gH,gH]at c;exact c
theorem Zq(s:ByteArray)(r a b:Nat):fJ s (2*r) a b↔fJ s r a b∧fJ s r (a+r) (b+r):=by
 constructor
 ·intro h;refine⟨fun i c=>h i jO,fun i c=> ?_⟩;rw[gH,gH];exact h _ jO
 ·rintro⟨h,k⟩ i c;by_cases d:i<r
  ·exact h i d
  ·have:=k (i-r) jO;rw[gH,gH,show r+(i-r)=i by omega]at this;exact this
theorem Mx{s:ByteArray}(c:0<s.size){L a b:Nat}(e:s.size<=L):fJ s L a b↔fJ s s.size a b:=by
 constructor
 ·intro h i d;exact h i jO
 ·intro h i d;rw[<-Ac s a i,<-Ac s b i];exact h _ (lH _ c)
theorem Zs{s:ByteArray}(e:0<s.size){L a b:Nat}(h:jf s L a b):jf s s.size a b:=by
 obtain⟨j,l,d,c⟩:=h;by_cases g:j<s.size
 ·exact⟨j,g,d,c⟩
 ·exfalso;have f:fJ s s.size a b:=fun i k=>d i jO;rw[<-Ac s a j,<-Ac s b j,f _ (lH _ e)]at c;exact yv _ c
structure pz (k:Nat->Nat×Nat) (o u:Nat->Nat) (i last:Nat):Prop where
 lt:∀p,p<i->∀q,q<i->(u (o p)<u (o q)↔fG (k (o q)) (k (o p))=true)
 le:∀p,p<i->u (o p)<=last
 top:0<i->u (o (i-1))=last∧last+1<=i
 all:0<i->(last+1=i↔∀p q,p<q->q<i->k (o p)≠k (o q))
theorem pz.next {k:Nat->Nat×Nat} {o u z:Nat->Nat} {n i last c:Nat} (h:pz k o u i last) (A:i<n) (inj:∀p q,p<q->q<n->o p≠o q) (pw:∀p q,p<q->q<n->fG (k (o q)) (k (o p))=true∨k (o p)=k (o q))
 (j:c=if i=0 then 0 else if fG (k (o i)) (k (o (i-1)))=true then last+1 else last) (E:∀v,z v=if v=o i then c else u v):pz k o z (i+1) c:=by
 have self:∀v,fG (k v) (k v)=false:=fun v=>by rw[Fg];exact .inr rfl
 have t:∀p,p<i->z (o p)=u (o p):=fun p d=>by rw[E,if_neg (inj p i d A)]
 have s:z (o i)=c:=by rw[E,if_pos rfl]
 by_cases F:i=0
 ·subst F;rw[if_pos rfl]at j;subst j;have D:∀p,p<0+1->p=0:=fun p d=>by omega
  refine⟨fun p d q w=> ?_,fun p d=> ?_,fun _=>⟨s,jO⟩,fun _=>⟨fun _ p q l w=>by omega,fun _=>by omega⟩⟩
  ·rw[D p d,D q w,self];simp
  ·rw[D p d,s];exact ag _
 ·rw[if_neg F]at j;have f:=h.top jO
  have r:∀p,p<i->(u (o p)<c↔fG (k (o i)) (k (o p))=true)∧u (o p)<=c:=by
   intro p d;have B:=h.le p d;have G:=h.lt p d (i-1) jO
   have a:fG (k (o (i-1))) (k (o p))=true∨k (o p)=k (o (i-1)):=by
    by_cases e:p=i-1
    ·subst e;exact .inr rfl
    ·exact pw p (i-1) jO jO
   by_cases g:fG (k (o i)) (k (o (i-1)))=true
   ·rw[if_pos g]at j;refine⟨⟨fun _=> ?_,fun _=>by omega⟩,jO⟩;rw[mO]at g a⊢;rw[oz]at a;omega
   ·rw[if_neg g]at j;have C:=(pw (i-1) i jO A).resolve_left g;rw[j,<-f.1,G,C];exact⟨Iff.rfl,by rw[f.1];exact B⟩
  refine⟨fun p d q w=> ?_,fun p d=> ?_,fun _=>⟨s, ?_⟩,fun _=> ?_⟩
  ·by_cases a:p=i
   ·by_cases b:q=i
    ·subst a b;rw[self];simp
    ·subst a;rw[t q jO,s];have:=(r q jO).2;constructor
     ·intro m;omega
     ·intro m;have y:=pw q p jO A;rw[mO]at m y;rw[oz]at y;omega
   ·by_cases b:q=i
    ·subst b;rw[t p jO,s];exact(r p jO).1
    ·rw[t p jO,t q jO];exact h.lt p jO q jO
  ·by_cases a:p=i
   ·subst a;rw[s];exact ag _
   ·rw[t p jO];exact(r p jO).2
  ·have:c<=last+1:=by rw[j];split<;>omega
   omega
  ·have x:=h.all jO;by_cases g:fG (k (o i)) (k (o (i-1)))=true
   ·rw[if_pos g]at j;rw[j,show last+1+1=i+1↔last+1=i by omega,x];constructor
    ·intro m p q l w;by_cases b:q=i
     ·subst b;intro e
      have y:fG (k (o (q-1))) (k (o p))=true∨k (o p)=k (o (q-1)):=by
       by_cases e:p=q-1
       ·subst e;exact .inr rfl
       ·exact pw p (q-1) jO jO
      rw[<-e]at g;rw[mO]at g y;rw[oz]at y;omega
     ·exact m p q l jO
    ·intro m p q l w;exact m p q l jO
   ·rw[if_neg g]at j;have C:=(pw (i-1) i jO A).resolve_left g;constructor
    ·intro m;omega
    ·intro m;exact absurd C (m (i-1) i jO jO)
theorem Zt(l:List Nat)(i v j:Nat)(a:i<l.length):(l.set i v).getD j 0=if j=i then v else l.getD j 0:=by
 rw[au,ahf];by_cases h:j=i
 ·subst h;simp[a]
 ·rw[if_neg (fun e=>h e.symm),if_neg h,au]
structure Ae (k:Nat->Nat×Nat) (n:Nat) (ord:List Nat):Prop where
 len:ord.length=n
 lt:∀i,i<n->ord.getD i 0<n
 inj:∀p q,p<q->q<n->ord.getD p 0≠ord.getD q 0
 pw:∀p q,p<q->q<n->fG (k (ord.getD q 0)) (k (ord.getD p 0))=true∨k (ord.getD p 0)=k (ord.getD q 0)
theorem My(s:ByteArray){k:Nat->Nat×Nat}{n:Nat}{x:SS}(e:∀a,k a=eK s x.reach x.cls a)(b:Ae k n x.ord)(d:x.bg.length=n)(c:x.aP<n)(h:pz k (fun p=>x.ord.getD p 0) (fun v=>x.bg.getD v 0) x.aP x.last):
 pz k (fun p=>x.ord.getD p 0) (fun v=>(bo s x).bg.getD v 0) (x.aP+1) (bo s x).last∧(bo s x).bg.length=n:=by
 refine⟨h.next c b.inj b.pw ?_ (fun v=> ?_),by simp[bo,d]⟩
 ·unfold bo kS pj;simp only[<-e]
 ·exact Zt _ _ _ _ (by rw[d];exact b.lt _ c)
theorem Mz(s:ByteArray){x:SS}(c:x.hi=0)(a:x.aU=[]):di s x={fA s x with steps:=x.steps+1}:=by
 have b:bR x=x:=by unfold bR;rw[a]
 unfold di;rw[b];unfold kT;rw[if_neg jO,a]
theorem MA(s:ByteArray){k:Nat->Nat×Nat}{n:Nat}:∀(j:Nat) (x:SS),x.aU=[]->x.hi=0->x.aP+j<n->(∀a,k a=eK s x.reach x.cls a)->Ae k n x.ord->x.bg.length=n->pz k (fun p=>x.ord.getD p 0) (fun v=>x.bg.getD v 0) x.aP x.last->
 ∃bg last,bg.length=n∧pz k (fun p=>x.ord.getD p 0) (fun v=>bg.getD v 0) (x.aP+j) last∧cj s j x={x with bg:=bg,last:=last,aP:=x.aP+j,steps:=x.steps+j}
 |0,x,_,_,_,_,_,c,h=>⟨x.bg,x.last,c,h,rfl⟩
 |j+1,x,d,g,q,f,b,c,h=>by
  obtain⟨o,m⟩:=My s f b c jO h
  have l:di s x={bo s x with steps:=x.steps+1}:=by rw[Mz s g d];unfold fA;rw[if_neg (by rw[b.len];simp only[bo];omega)]
  obtain⟨bg,last,q1,q2,i⟩:=MA s j {bo s x with steps:=x.steps+1} d g (by simp only[bo];omega) f b m o;refine⟨bg,last,q1, ?_, ?_⟩
  ·have e:(bo s x).aP+j=x.aP+(j+1):=by simp only[bo];omega
   exact e▸q2
  ·show cj s j (di s x)=_;rw[l,i];simp[bo,gH,vL,IM]
structure uU (s:ByteArray) (x:SS):Prop where
 n2:2<=s.size
 aU:x.aU=[(0,0,s.size)]
 hi:x.hi=0
 aP:x.aP=0
 done:x.done=false
 perm:x.ord.Perm (aV s.size)
 al:x.bg.length=s.size
 cl:x.cls.length=s.size
 cls:x.reach≠0->∀a b,a<s.size->b<s.size->(x.cls.getD a 0<x.cls.getD b 0↔jf s x.reach a b)
 old:x.ord.Pairwise (fun a b=>fJ s x.reach a b->a<b)
def fU(x:SS):Nat:=max 1 (2*x.reach)
theorem Zu{s:ByteArray}{x:SS}(h:uU s x)(a b:Nat)(k:a<s.size)(g:b<s.size):
 (fG (eK s x.reach x.cls b) (eK s x.reach x.cls a)=true↔jf s (fU x) a b)∧(eK s x.reach x.cls a=eK s x.reach x.cls b↔fJ s (fU x) a b):=by
 have d:∀c,c<s.size->ez s (c+0)=s.data.toList.getD c 0:=fun c f=>by unfold ez;rw[iA,kB f]
 unfold fU eK;by_cases o:x.reach=0
 ·rw[o];simp only[if_pos];rw[mO,oz];constructor
  ·constructor
   ·intro l;refine⟨0,jO,fun i z=>by omega, ?_⟩;rw[d a k,d b g,IK];simpa using l
   ·rintro⟨j,l,_,r⟩;obtain rfl:j=0:=jO;rw[d a k,d b g,IK]at r;exact .inl r
  ·constructor
   ·rintro⟨l,_⟩ i z;obtain rfl:i=0:=jO;rw[d a k,d b g];exact UInt8.toNat_inj.1 l
   ·intro l;have:=l 0 jO;rw[d a k,d b g]at this;exact⟨by rw[this],rfl⟩
 ·rw[if_neg o,if_neg o,show max 1 (2*x.reach)=2*x.reach by omega];have f:=h.cls o;have n:∀c,(c+x.reach)%s.size<s.size:=fun c=>lH _ jO
  have m:∀u v,u<s.size->v<s.size->(x.cls.getD u 0=x.cls.getD v 0↔fJ s x.reach u v):=by
   intro u v q p;have y:=f u v q p;have w:=f v u p q;constructor
   ·intro e;rcases Mw s u v x.reach with t|t|t
    ·have:=y.2 t;omega
    ·exact t
    ·have:=w.2 t;omega
   ·intro e;have B:¬x.cls.getD u 0<x.cls.getD v 0:=fun t=>Fk (y.1 t) e;have A:¬x.cls.getD v 0<x.cls.getD u 0:=fun t=>Fk (w.1 t) (Ad e);omega
  rw[mO,oz,Zp,Zq];simp only;rw[f a b k g,m a b k g,f _ _ (n a) (n b),m _ _ (n a) (n b),Zo,Zn];exact⟨Iff.rfl,Iff.rfl⟩
theorem Zv(s:ByteArray)(x:SS)(h:x.done=true):(di s x).done=true:=by
 have a:(bR x).done=true:=by rw[Ff];exact h
 have c:∀y:SS,y.done=true->(fT y).done=true:=fun y b=>by unfold fT;split<;>simp[b]
 have d:∀(y:SS) (e:Bool),y.done=true->(fI y e).done=true:=fun y e b=>by unfold fI;cases e<;>simp[b]
 unfold di;show(kT s (bR x)).done=true;generalize bR x=y at*;unfold kT;split
 ·split
  ·exact a
  ·unfold dO;split<;>exact d _ _ a
 ·split
  ·unfold fA;split
   ·exact c _ a
   ·exact a
  ·unfold j8;split
   ·exact a
   ·split<;>exact a
theorem MB(s:ByteArray):∀j (x:SS),x.done=true->(cj s j x).done=true
 |0,_,h=>h
 |j+1,x,h=>MB s j _ (Zv s x h)
theorem Zw(s:ByteArray){j m:Nat}{x:SS}(h:(cj s m x).done=false)(a:j<=m):(cj s j x).done=false:=by
 obtain⟨d,rfl⟩:∃d,m=j+d:=⟨m-j,jO⟩;rw[kV]at h;cases hd:(cj s j x).done with
 |false=>rfl
 |true=>rw[MB s d _ hd]at h;cases h
theorem MC{n:Nat}{l:List Nat}(h:l.Perm (aV n)):l.length=n∧(∀i,i<n->l.getD i 0<n)∧(∀p q,p<q->q<n->l.getD p 0≠l.getD q 0):=by
 have f:l.length=n:=by have:=h.length_eq;simpa using this
 have c:∀i (b:i<n),l.getD i 0=l[i]'jO:=fun i b=>by rw[au,aC jO];rfl
 refine⟨f,fun i b=> ?_,fun p q a d=> ?_⟩
 ·rw[c i b];have:=h.mem_iff.1 (cu (l:=l) (n:=i) jO);simpa using this
 ·have e:l.Nodup:=h.nodup_iff.2 List.nodup_range;rw[c p jO,c q d];have:=IL.1 e p q jO jO a;exact this
theorem Af{n:Nat}{l:List Nat}(h:l.Perm (aV n))(a:Nat)(d:a<n):∃p,p<n∧l.getD p 0=a:=by
 have c:a∈l:=h.mem_iff.2 (by simpa using d);obtain⟨p,b,e⟩:=List.mem_iff_getElem.1 c;have f:l.length=n:=by have:=h.length_eq;simpa using this
 exact⟨p,jO,by rw[au,aC b];exact e⟩
theorem Ag{R S:Nat->Nat->Prop}{n:Nat}{l:List Nat}(h:l.Perm (aV n))(g:l.Pairwise R)(k:∀a b,a<n->b<n->R a b->S a b):l.Pairwise S:=by
 have f:∀a∈l,a<n:=fun a m=>by simpa using h.mem_iff.1 m
 rw[IL]at*;intro i j c e d;exact k _ _ (f _ (cu c)) (f _ (cu e)) (g i j c e d)
theorem Fl{s:ByteArray}{x:SS}(h:uU s x):
 (∀j,j<ct s.size+s.size->(cj s j x).done=false)∧
 ((kW s (fU x)∨s.size<=x.reach)->(cj s (ct s.size+s.size) x).done=true∧(cj s (ct s.size+s.size) x).ord.Perm (aV s.size)∧(cj s (ct s.size+s.size) x).ord.Pairwise (RL s (fU x)))∧
 (¬(kW s (fU x)∨s.size<=x.reach)->uU s (cj s (ct s.size+s.size) x)∧(cj s (ct s.size+s.size) x).reach=fU x):=by
 have n2:=h.n2;obtain⟨hl,v7,_⟩:=MC h.perm;obtain⟨k,hk⟩:∃k:Nat->Nat×Nat,∀a,k a=eK s x.reach x.cls a:=⟨_,fun _=>rfl⟩;have f:∀a b,a<s.size->b<s.size->(fG (k b) (k a)=true↔jf s (fU x) a b)∧(k a=k b↔fJ s (fU x) a b):=fun a b D t=>by rw[hk,hk];exact Zu h a b D t
 have u6:x.ord.Pairwise (fun a b=>k a=k b->a<b):=by refine Ag h.perm h.old fun a b D t h1 B=>h1 ?_;rw[(f a b D t).2]at B;intro i hi;exact B i (by unfold fU;omega)
 obtain⟨ord,bg,lo,mid,laid,one,two,o1,o2,o3,o4⟩:=Fj s k s.size s.size (ag _) x [] x.ord [] [] hl hk jS (by rw[h.al,hl]) (by rw[h.aU];simp) h.hi u6;have c:ord.Perm (aV s.size):=o1.trans h.perm;obtain⟨ol,Q,I⟩:=MC c;have hg:∀i (hi:i<s.size),ord.getD i 0=ord[i]'jO:=fun i hi=>by rw[au,aC jO];rfl
 have u3:ord.Pairwise (RL s (fU x)):=by refine Ag c o2 fun a b D t h1=> ?_;unfold Rk at h1;rw[(f a b D t).1,(f a b D t).2]at h1;exact h1
 have u4:Ae k s.size ord:=⟨ol,Q,I,fun p q T J=>by
  have:=IL.1 o2 p q jO jO T;rw[hg p jO,hg q J];rcases this with h1|h1
  ·exact .inl h1
  ·exact .inr h1.1⟩
 simp only[p7,bV]at o4;obtain⟨y,r⟩:∃y:SS,y={x with ord:=ord,bg:=bg,aU:=[],lo:=lo,mid:=mid,hi:=0,laid:=laid,one:=one,two:=two,steps:=x.steps+ct s.size}:=⟨_,rfl⟩;rw[<-r]at o4
 have Z:pz k (fun p=>y.ord.getD p 0) (fun v=>y.bg.getD v 0) y.aP y.last:=by
  have:y.aP=0:=by rw[r];exact h.aP
  rw[this];exact⟨fun p o=>absurd o (jr _),fun p o=>absurd o (jr _),fun o=>absurd o (jr _),fun o=>absurd o (jr _)⟩
 have yr:y.aP=0:=by rw[r];exact h.aP
 have Y:y.reach=x.reach:=by rw[r]
 have u0:y.cls=x.cls:=by rw[r]
 have w:y.ord=ord:=by rw[r]
 have u1:y.bg.length=s.size:=by rw[r];show bg.length=_;rw[o3,h.al]
 have yk:∀a,k a=eK s y.reach y.cls a:=by rw[Y,u0];exact hk
 have v1:Ae k s.size y.ord:=w▸u4;have P:y.done=false:=by rw[r];exact h.done
 obtain⟨N,A,q1,q2,q3⟩:=MA s (s.size-1) y (by rw[r]) (by rw[r]) jO yk v1 u1 Z;obtain⟨z,C⟩:∃z:SS,z={y with bg:=N,last:=A,aP:=y.aP+(s.size-1),steps:=y.steps+(s.size-1)}:=⟨_,rfl⟩;rw[<-C]at q3;have zr:z.aP=s.size-1:=by rw[C];simp only[yr];omega
 have d:z.ord=ord:=by rw[C];exact w
 have l:z.reach=x.reach:=by rw[C];exact Y
 have F:z.cls=x.cls:=by rw[C];exact u0
 have G:z.bg=N:=by rw[C]
 have O:z.last=A:=by rw[C]
 have E:z.aU=[]:=by rw[C,r]
 have X:z.hi=0:=by rw[C,r]
 have u:z.done=false:=by rw[C];exact P
 have zk:∀a,k a=eK s z.reach z.cls a:=by rw[l,F];exact hk
 have K:cj s (ct s.size+(s.size-1)) x=z:=by rw[kV,o4,q3]
 have u7:cj s (ct s.size+s.size) x=di s z:=by rw[show ct s.size+s.size=ct s.size+(s.size-1)+1 by omega,kV,K];rfl
 have W:pz k (fun p=>z.ord.getD p 0) (fun v=>z.bg.getD v 0) z.aP z.last:=by rw[d,G,zr,O];rw[w,yr,fD]at q2;exact q2
 obtain⟨c1,c2⟩:=My s (n:=s.size) zk (d▸u4) (by rw[G];exact q1) jO W
 have R:di s z={fT (bo s z)with steps:=z.steps+1}:=by rw[Mz s X E];unfold fA;rw[if_pos (by simp only[bo];rw[d,ol,zr];omega)]
 have g:(bo s z).ord.length=s.size:=by simp only[bo];rw[d,ol]
 have e:(bo s z).reach=x.reach:=l;rw[show z.aP+1=s.size by omega,d]at c1
 have u9:∀a b,a<s.size->b<s.size->((bo s z).bg.getD a 0<(bo s z).bg.getD b 0↔jf s (fU x) a b):=by intro a b D t;obtain⟨p,o,rfl⟩:=Af c a D;obtain⟨q,J,rfl⟩:=Af c b t;have:=c1.lt p o q J;rw[this,(f _ _ D t).1]
 have L:(bo s z).last+1=s.size↔kW s (fU x):=by
  rw[c1.all jO];constructor
  ·intro h1 a b v8 t he;obtain⟨p,o,ea⟩:=Af c a jO;obtain⟨q,J,eb⟩:=Af c b t;have U:p≠q:=by rintro rfl;omega
   have B:=(f a b jO t).2.2 he;rw[<-ea,<-eb]at B;rcases ahh U with h3|h3
   ·exact h1 p q h3 J B
   ·exact h1 q p h3 o B.symm
  ·intro h1 p q T J he;have o:=Q p jO;have u5:=Q q J;have U:=I p q T J;have B:=(f _ _ o u5).2.1 he;rcases ahh U with h3|h3
   ·exact h1 _ _ h3 u5 B
   ·exact h1 _ _ h3 o (Ad B)
 rw[u7,R];refine⟨fun j hj=>Zw s (m:=ct s.size+(s.size-1)) (by rw[K];exact u) jO,fun hd=> ?_,fun hd=> ?_⟩
 ·have:fT (bo s z)={bo s z with cls:=(bo s z).bg,bg:=(bo s z).cls,aP:=0,done:=true}:=by unfold fT;rw[if_pos (by rw[g,e,L];exact hd)]
  rw[this];exact⟨rfl,by show z.ord.Perm _;rw[d];exact c,by show z.ord.Pairwise _;rw[d];exact u3⟩
 ·have:fT (bo s z)={bo s z with cls:=(bo s z).bg,bg:=(bo s z).cls,aP:=0,reach:=max 1 (2*x.reach),aU:=[(0,0,s.size)]}:=by unfold fT;rw[if_neg (by rw[g,e,L];exact hd),g,e];show _=_;simp only[bo,E]
  rw[this];refine⟨⟨n2,rfl,X,rfl,u,by show z.ord.Perm _;rw[d];exact c, ?_,c2,fun _=>u9, ?_⟩,rfl⟩
  ·show z.cls.length=_;rw[F];exact h.cl
  ·show z.ord.Pairwise _;rw[d];refine u3.imp fun{a b} h1 B=> ?_;rcases h1 with h1|h1
   ·exact absurd B (Fk h1)
   ·exact h1.2
end Sp
end Go.Proofs.YtcehhgppfahbkaaGreatDoor
namespace Go.Proofs.YtcehhgppfahbkaaGreatDoor
open Go.RowKit
namespace Sp
open Pl
def Ah(s:ByteArray)(L a b:Nat):Bool:=(aV L).all fun i=>ez s (a+i)==ez s (b+i)
def uV(s:ByteArray)(L:Nat):Bool:=(aV s.size).all fun i=>(aV i).all fun k=> !(Ah s L i k)
theorem MD(s:ByteArray)(L a b:Nat):Ah s L a b=true↔fJ s L a b:=by unfold Ah fJ;rw[kz];simp
theorem Fm(s:ByteArray)(L:Nat):uV s L=true↔kW s L:=by
 unfold uV kW;rw[kz];constructor
 ·intro h a b e d c;have g:=h b (by simpa using d);rw[kz]at g;have f:=g a (by simpa using e);have j:=(MD s L b a).2 (Ad c);rw[j]at f;cases f
 ·intro h b d;rw[kz];intro a i;cases c:Ah s L b a with
  |false=>rfl
  |true=>exact absurd (Ad ((MD s L b a).1 c)) (h a b (by simpa using i) (by simpa using d))
theorem Zx{s:ByteArray}(a:0<s.size)(L:Nat):kW s (min L s.size)↔kW s L:=by
 by_cases h:L<=s.size
 ·rw[p9 h]
 ·rw[Nat.min_eq_right jO];unfold kW;simp only[Mx a (show s.size<=L by omega)]
def wJ(s:ByteArray)(a:Nat):Nat->Nat->Nat
 |0,_=>0
 |f+1,r=>if s.size<=r||uV s (min (2*r) s.size)then a else a+wJ s a f (2*r)
def dQ(s:ByteArray):Nat:=if s.size<2 then 0 else if uV s 1 then ct s.size+s.size else ct s.size+s.size+wJ s (ct s.size+s.size) 30 1
structure Fin (s:ByteArray) (x:SS) (T:Nat):Prop where
 before:∀j,j<T->(cj s j x).done=false
 after:(cj s T x).done=true
 perm:(cj s T x).ord.Perm (aV s.size)
 sorted:(cj s T x).ord.Pairwise (RL s s.size)
theorem Zy{s:ByteArray}(c:0<s.size){L a b:Nat}(e:a<s.size)(d:b<s.size)(h:RL s L a b)(hL:kW s L∨s.size<=L):RL s s.size a b:=by
 rcases h with h|h
 ·exact .inl (Zs c h)
 ·rcases hL with hL|hL
  ·exact absurd h.1 (hL a b h.2 d)
  ·exact .inr ⟨(Mx c hL).1 h.1,h.2⟩
theorem Fin.ME{s:ByteArray}{x:SS}(h:uU s x)(hd:kW s (fU x)∨s.size<=x.reach):Fin s x (ct s.size+s.size):=by obtain⟨e,d,_⟩:=Fl h;obtain⟨q1,q2,c⟩:=d hd;have j:=h.n2;refine⟨e,q1,q2,Ag q2 c fun a b g f i=>Zy jO g f i (hd.imp id fun h=> ?_)⟩;unfold fU;omega
theorem Fin.then{s:ByteArray}{x:SS}{c T:Nat}(h:Fin s (cj s c x) T)(a:∀j,j<c->(cj s j x).done=false):Fin s x (c+T):=by
 refine⟨fun j d=> ?_,by rw[kV];exact h.after,by rw[kV];exact h.perm,by rw[kV];exact h.sorted⟩;by_cases b:j<c
 ·exact a j b
 ·rw[show j=c+(j-c) by omega,kV];exact h.before _ jO
theorem MF{s:ByteArray}:∀(f:Nat) (x:SS),uU s x->1<=x.reach->s.size<=x.reach*2^f->Fin s x (wJ s (ct s.size+s.size) (f+1) x.reach)
 |f,x,h,j,a=>by
  have i:=h.n2;have b:fU x=2*x.reach:=by unfold fU;omega
  have c:(decide (s.size<=x.reach)||uV s (min (2*x.reach) s.size))=true↔(kW s (fU x)∨s.size<=x.reach):=by rw[ml,decide_eq_true_iff,Fm,Zx jO,b];exact Or.comm
  by_cases hd:kW s (fU x)∨s.size<=x.reach
  ·rw[wJ,if_pos (c.2 hd)];exact Fin.ME h hd
  ·rw[wJ,if_neg (fun e=>hd (c.1 e))];obtain⟨g,_,d⟩:=Fl h;obtain⟨q1,q2⟩:=d hd
   match f with
   |0=>simp at a;exact absurd (.inr a) hd
   |f+1=>have:=MF f _ q1 (by rw[q2,b];omega) (by rw[q2,b];rw[ng]at a;rw[oy 2 x.reach,yx,oy 2];exact a);rw[q2,b]at this;exact this.then g
theorem Zz(n:Nat)(R:Nat->Nat->Prop):(aV n).Pairwise (fun a b=>R a b->a<b):=by rw[IL];intro i j e d c _;simpa using c
theorem ZA(s:ByteArray)(h:2<=s.size):uU s (et s.size):=
 ⟨h,rfl,rfl,rfl,by show decide (s.size<2)=false;simp;omega,ud _,by simp[et],by simp[et],fun h=>absurd rfl h,Zz _ _⟩
theorem whole(s:ByteArray)(h:2<=s.size)(h2:s.size<=536870912):Fin s (et s.size) (dQ s):=by
 have c:=ZA s h;have b:fU (et s.size)=1:=rfl;unfold dQ;rw[if_neg jO];by_cases hd:uV s 1=true
 ·rw[if_pos hd];exact Fin.ME c (.inl (by rw[b];exact(Fm s 1).1 hd))
 ·rw[if_neg hd]
  have a:¬(kW s (fU (et s.size))∨s.size<=(et s.size).reach):=by
   rintro(h1|h1)
   ·rw[b,<-Fm]at h1;exact hd h1
   ·have h1:s.size<=0:=h1;omega
  obtain⟨e,_,d⟩:=Fl c;obtain⟨q1,q2⟩:=d a;rw[b]at q2;have:=MF 29 _ q1 (by rw[q2];exact ag _) (by rw[q2];omega);rw[q2]at this;exact this.then e
theorem MG:∀(j:Nat) (u v:List UInt8),j<u.length->j<v.length->(∀i,i<j->u.getD i 0=v.getD i 0)->u.getD j 0<v.getD j 0->cmpL u v<0
 |_,[],_,h,_,_,_=>by simp at h
 |_,_::_,[],_,h,_,_=>by simp at h
 |0,x::b,y::a,_,_,_,h=>by simp only[ahi]at h;simp[cmpL,h]
 |j+1,x::b,y::a,g,f,c,h=>by have d:=c 0 jO;simp only[ahi]at d;subst d;have e:=MG j b a (by simpa using g) (by simpa using f) (fun i k=>by simpa using c (i+1) jO) (by simpa using h);simp only[cmpL,if_neg (yv x)];exact e
theorem ZB(s:ByteArray)(a b:Nat)(g:a<s.size)(f:b<s.size)(h:RL s s.size a b):l7 s a b:=by
 have l:=Mc s
 have d:∀c j,c<s.size->j<s.size->(mM s.data.toList c).getD j 0=ez s (c+j):=fun c j p o=>by rw[uS _ _ _ jO jO,l];rfl
 unfold l7;rw[uT];refine⟨uR jO jO,uR jO jO, ?_⟩;rcases h with ⟨j,e,k,n⟩|⟨e,k⟩
 ·left;unfold ik;simp only[fg];refine MG j _ _ (by rw[nL];omega) (by rw[nL];omega) (fun i m=> ?_) ?_
  ·rw[d a i g jO,d b i f jO];exact k i m
  ·rw[d a j g e,d b j f e];exact n
 ·right;refine⟨?_,jO⟩;unfold ik;simp only[fg];rw[Mb _ _ (by simp[nL]),Za s a b g f];exact e
theorem MH{s:ByteArray}{l:List Nat}(d:l.Perm (aV s.size))(i:l.Pairwise (RL s s.size)):l.map (fun(v:Nat)=>(v:Int))=gP s s.size:=by
 have e:∀a∈l,a<s.size:=fun a c=>by simpa using d.mem_iff.1 c
 have m:(l.map (fun(v:Nat)=>(v:Int))).Pairwise (l7 s):=by rw[List.pairwise_map];exact Ag d i fun a b c e h=>ZB s a b c e h
 have k:∀x∈l.map (fun(v:Nat)=>(v:Int)),ij s x=true:=by intro x g;rw[List.mem_map]at g;obtain⟨a,c,rfl⟩:=g;have:=e a c;exact uR jO jO
 have f:=Zc s (l.map (fun(v:Nat)=>(v:Int)));rw[Y3 s _ (Mo s _ m k)]at f
 have j:((l.map (fun(v:Nat)=>(v:Int))).length==s.size)=true:=by rw[eR,d.length_eq,kC];simp
 rw[j]at f;exact beq_iff_eq.1 f.symm
theorem ZC(s:ByteArray)(h:s.size<2):(aV s.size).map (fun(v:Nat)=>(v:Int))=gP s s.size:=by
 refine MH (ud _) ?_;obtain h|h:s.size=0∨s.size=1:=jO
 ·rw[h];exact IP
 ·rw[h];exact IQ _ _
theorem wK(s:ByteArray)(h2:s.size<=536870912):(∀j,j<dQ s->(cj s j (et s.size)).done=false)∧(cj s (dQ s) (et s.size)).done=true∧(cj s (dQ s) (et s.size)).ord.map (fun(v:Nat)=>(v:Int))=gP s s.size:=by
 by_cases h:s.size<2
 ·have:dQ s=0:=by unfold dQ;rw[if_pos h]
  rw[this];exact⟨fun j a=>absurd a (jr _),by show decide (s.size<2)=true;simpa using h,ZC s h⟩
 ·have:=whole s jO h2;exact⟨this.before,this.after,MH this.perm this.sorted⟩
theorem MI(s:ByteArray):∀j (x:SS),(cj s j x).steps=x.steps+j
 |0,_=>rfl
 |j+1,x=>by show(cj s j (di s x)).steps=_;rw[MI s j];simp only[di];omega
end Sp
end Go.Proofs.YtcehhgppfahbkaaGreatDoor
namespace Go.Proofs.YtcehhgppfahbkaaGreatDoor
open Go.RowKit
namespace Sp
open Pl
def eh(s:ByteArray)(j:Nat):SS:=cj s j (et s.size)
theorem Fo(s:ByteArray)(j:Nat):eh s (j+1)=di s (eh s j):=by unfold eh;rw[kV];rfl
theorem Ai(s:ByteArray)(j:Nat):(eh s j).steps=j:=by unfold eh;rw[MI];exact fD j
theorem Ok.start(n b:Nat)(h:n<=2^b):Ok n (b+1) (et n):=by
 refine⟨by simp[et],by simp[et],by simp[et],fun i c=>by simp[et,c],.inl ⟨rfl,jO,h⟩,by simp[et],fun p a=> ?_,.inl rfl,fun h=> ?_,fun h=>absurd h (ub 0),by simp[et],.inl rfl⟩
 ·simp only[et,Dc]at a;subst a;exact⟨Nat.zero_le _,ag _,.inl rfl⟩
 ·have:¬n<2:=by simpa[et]using h
  show 0<n;omega
theorem MJ(n b:Nat)(c:1<=n)(h:n<=2^b):total n (b+1) (et n)<=n*((4+3*b)*(b+2)):=by
 have d:=Fb b n c h
 have e:total n (b+1) (et n)=(b+2)*(ct n+n):=by unfold total eZ je et po;simp only[lE,List.map_nil,Dd,List.sum_nil,if_true,IJ,iA];rw[show b+2=(b+1)+1 from rfl,ff (b+1) 1,ow,vL]
 rw[e]
 have a:ct n+n<=(4+3*b)*n:=by
  have:(4+3*b)*n=(3+3*b)*n+n:=by rw[show 4+3*b=(3+3*b)+1 by omega,ff,ow]
  omega
 calc (b+2)*(ct n+n)<=(b+2)*((4+3*b)*n):=Nat.mul_le_mul_left _ a
  _=n*((4+3*b)*(b+2)):=by rw[<-yx,oy (b+2),oy]
theorem Fp(s:ByteArray)(b:Nat)(h:Ok s.size b (et s.size)):∀j,(∀i,i<j->(eh s i).done=false)->∃m,Ok s.size m (eh s j)∧((eh s j).done=false->total s.size m (eh s j)+j=total s.size b (et s.size))
 |0,_=>⟨b,h,fun _=>rfl⟩
 |j+1,c=>by obtain⟨m,f,e⟩:=Fp s b h j (fun i g=>c i jO);have hd:=c j jO;obtain⟨d,q1,q2⟩:=f.step s hd;refine⟨d,by rw[Fo];exact q1,fun a=> ?_⟩;rw[Fo]at a⊢;have:=q2 a;have:=e hd;omega
theorem ZD{n m:Nat}{x:SS}(h:Ok n m x):x.aU.length<=total n m x:=by
 have d:∀l:List (Nat×Nat×Nat),(∀p∈l,Fc n p)->l.length<=(l.map po).sum:=by
  intro l
  induction l with
  |nil=>intro _;simp
  |cons p r b=>
   intro a;have g:=b (fun q c=>a q (by simp[c]))
   have f:1<=po p:=by
    unfold po;split
    ·exact Zd _
    ·rename_i e;have:=(a p jS).2.2.resolve_left e;omega
   simp only[bL,lE,Dd];omega
 have:=d x.aU h.aU;unfold total eZ;omega
theorem Fq(n:Nat)(h:n<=900000):n<=2^20:=by have:(2:Nat)^20=1048576:=rfl;omega
structure Reach (s:ByteArray) (j:Nat):Prop where
 ok:∃m,Ok s.size m (eh s j)
 aU:(eh s j).aU.length<=1099511627776
 jle:j<=1099511627776
theorem MK(s:ByteArray)(b:Nat)(h2:s.size<=536870912)(c:s.size<=2^b):dQ s<=s.size*((4+3*b)*(b+2)):=by
 by_cases h:s.size<2
 ·have:dQ s=0:=by unfold dQ;rw[if_pos h]
  omega
 ·obtain⟨a,g,_⟩:=wK s h2;have f:=Ok.start s.size b c;cases d:dQ s with
  |zero=>omega
  |succ T=>
   rw[d]at a g;obtain⟨m,q1,q2⟩:=Fp s _ f T (fun i k=>a i jO);have hd:=a T jO;have e:=q2 hd;have j:=q1.aP hd;have:1<=total s.size m (eh s T):=by unfold total eZ;omega
   have:=MJ s.size b jO c;omega
theorem ML(s:ByteArray)(h:s.size<=900000)(j:Nat)(a:j<dQ s):(eh s j).done=false:=(wK s jO).1 j a
theorem Fs(s:ByteArray)(h:s.size<=900000):(eh s (dQ s)).done=true:=(wK s jO).2.1
theorem MM(s:ByteArray)(h:s.size<=900000):(eh s (dQ s)).ord.map (fun(v:Nat)=>(v:Int))=gP s s.size:=(wK s jO).2.2
theorem ZE(s:ByteArray)(h:s.size<=900000):dQ s<=1267200000:=by have b:=MK s 20 jO (Fq s.size h);have a:s.size*((4+3*20)*(20+2))<=900000*((4+3*20)*(20+2)):=vJ _ h;omega
theorem ZF(s:ByteArray)(h:s.size<=900000):(eh s (dQ s)).ord.length=s.size:=by have:=congrArg List.length (MM s h);rwa[eR,wG]at this
end Sp
end Go.Proofs.YtcehhgppfahbkaaGreatDoor
namespace Go.Proofs.YtcehhgppfahbkaaGreatDoor.Ev
open Go
set_option maxRecDepth 4000
theorem MN:type_of%(aI @rZ (aI @Kg (aI @Kh (aI @uK (aI @uL (aI @Kf (aI @Kd (aI @zQ (aI @uJ (aI @Ke (aI @Ll (aI @Lm (aI @pf (aI @get_eq (aI @ak (aI @Ki (aI @ES (aI @Kj (aI @Kk (aI @Kl (aI @pc (aI @Km (aI @Kn (aI @Ko (aI @Kp (aI @Kq (aI @Kr (aI @Ks (aI @Ku (aI @Kv (aI @Kw (aI @Kx (aI @EU (aI @Kz (aI @Ky (aI @KA (aI @KB (aI @wx (aI @KC (aI @KD (aI @KE (aI @KF (aI @EV (aI @KH (aI @KI (aI @KJ (aI @KK (aI @KL (aI @KM (aI @KO (aI @KP (aI @KQ (aI @KR (aI @KS (aI @KU (aI @KV (aI @KW (aI @KX (aI @KY (aI @KZ (aI @K0 (aI @K1 (aI @EX (aI @K2 (aI @K3 (aI @EY (aI @K4 (aI @K5 (aI @K6 (aI @K7 (aI @K8 (aI @K' (aI @Lb (aI @Ld (aI @Lg (aI @Lh (aI @Li (aI @Ln (aI @Lq (aI @Lr (aI @Ls (aI @Lt (@Lu))))))))))))))))))))))))))))))))))))))))))))))))))))))))))))))))))))))))))))))))))):=aI @rZ (aI @Kg (aI @Kh (aI @uK (aI @uL (aI @Kf (aI @Kd (aI @zQ (aI @uJ (aI @Ke (aI @Ll (aI @Lm (aI @pf (aI @get_eq (aI @ak (aI @Ki (aI @ES (aI @Kj (aI @Kk (aI @Kl (aI @pc (aI @Km (aI @Kn (aI @Ko (aI @Kp (aI @Kq (aI @Kr (aI @Ks (aI @Ku (aI @Kv (aI @Kw (aI @Kx (aI @EU (aI @Kz (aI @Ky (aI @KA (aI @KB (aI @wx (aI @KC (aI @KD (aI @KE (aI @KF (aI @EV (aI @KH (aI @KI (aI @KJ (aI @KK (aI @KL (aI @KM (aI @KO (aI @KP (aI @KQ (aI @KR (aI @KS (aI @KU (aI @KV (aI @KW (aI @KX (aI @KY (aI @KZ (aI @K0 (aI @K1 (aI @EX (aI @K2 (aI @K3 (aI @EY (aI @K4 (aI @K5 (aI @K6 (aI @K7 (aI @K8 (aI @K' (aI @Lb (aI @Ld (aI @Lg (aI @Lh (aI @Li (aI @Ln (aI @Lq (aI @Lr (aI @Ls (aI @Lt (@Lu))))))))))))))))))))))))))))))))))))))))))))))))))))))))))))))))))))))))))))))))))
theorem MO:type_of%(aI @List.getElem?_cons_zero.{0} (aI @List.getElem?_cons_succ.{0} (aI @List.set_cons_zero.{0} (aI @List.set_cons_succ.{0} (aI @bL.{0} (aI @eF.{0} (aI @fg (aI @ahj (aI @fD (aI @iA (aI @decide_eq_true_eq (aI @decide_eq_false_iff_not (aI @true_and (aI @and_true (aI @if_true.{1} (aI @if_false.{1} (aI @true_or (aI @or_true (aI @lF (aI @ahk (aI @false_and (aI @and_false (aI @fY (aI @iD (aI @beq_self_eq_true.{0} (aI @bne_self_eq_false.{0} (aI @decide_true (aI @decide_false (aI @agR (aI @oq (aI @CZ (@vO)))))))))))))))))))))))))))))))):=aI @List.getElem?_cons_zero.{0} (aI @List.getElem?_cons_succ.{0} (aI @List.set_cons_zero.{0} (aI @List.set_cons_succ.{0} (aI @bL.{0} (aI @eF.{0} (aI @fg (aI @ahj (aI @fD (aI @iA (aI @decide_eq_true_eq (aI @decide_eq_false_iff_not (aI @true_and (aI @and_true (aI @if_true.{1} (aI @if_false.{1} (aI @true_or (aI @or_true (aI @lF (aI @ahk (aI @false_and (aI @and_false (aI @fY (aI @iD (aI @beq_self_eq_true.{0} (aI @bne_self_eq_false.{0} (aI @decide_true (aI @decide_false (aI @agR (aI @oq (aI @CZ (@vO)))))))))))))))))))))))))))))))
end Go.Proofs.YtcehhgppfahbkaaGreatDoor.Ev
