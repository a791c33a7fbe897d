import Derived.Test.YtmjolmggelkjlaaGreatMac
import Derived.ProofKit
import Derived.OpenShut
open Nat renaming le_refl→an, zero_add→fB, add_zero→kQ, mul_le_mul_right→xY, succ_mul→FL
open List renaming getElem?_eq_getElem→bD, replicate→cr, mem_cons_of_mem→AV, all_eq_true→FG, mem_cons_self→Kq, getElem?_eq_none_iff→ary
open Int renaming toNat_natCast→cL, toNat_zero→arC
open Bool renaming not_false→cP, not_true→jP, false_eq_true→sE, true_and→xX, and_false→Kh, false_and→Kr, and_true→ari, true_eq_false→arD
open Go.Lit renaming int→RE
open Go.DataW renaming trod→RH, trod_int→aru, trod_string→arv, trod_bool→arw, trod_slice→arx
open Go.Addr renaming add→aqL
open Go.Value renaming okWide→arB
set_option linter.unusedVariables false
set_option linter.unusedSimpArgs false
namespace Go.Proofs.YtmjolmggelkjlaaGreat.Ev
open Go Go.RowKit Go.WideShapes Go.ChangeShapes
def fD{α β:Type}(R:α->β->Prop):List α->List β->Prop
 |[],[]=>True
 |a::l,b::m=>R a b∧fD R l m
 |_,_=>False
theorem fD.length{α β:Type}{R:α->β->Prop}:∀{l:List α} {m:List β},fD R l m->l.length=m.length
 |[],[],_=>rfl
 |_::_,_::_,h=>by simp[fD.length h.2]
 |[],_::_,h=>h.elim
 |_::_,[],h=>h.elim
theorem fD.imp{α β:Type}{R S:α->β->Prop}:∀{l:List α} {m:List β},(∀a∈l,∀b,R a b->S a b)->fD R l m->fD S l m
 |[],[],_,_=>trivial
 |a::_,_::_,h,x=>⟨h a (Kq ..) _ x.1,fD.imp (fun a ha=>h a (AV _ ha)) x.2⟩
 |[],_::_,_,x=>x.elim
 |_::_,[],_,x=>x.elim
theorem fD.append{α β:Type}{R:α->β->Prop}:∀{l l':List α} {m m':List β},fD R l m->fD R l' m'->fD R (l++l') (m++m')
 |[],_,[],_,_,h=>h
 |_::_,_,_::_,_,x,h=>⟨x.1,fD.append x.2 h⟩
 |[],_,_::_,_,x,_=>x.elim
 |_::_,_,[],_,x,_=>x.elim
def za(g:TypeId->Option (List TypeId)):Nat->List Field->Option (List TypeId)
 |_,[]=>some []
 |o,fd::r=>if fd.offset=o then(match g fd.type with
  |some ts=>match za g (o+ts.length) r with
   |some rs=>some (ts++rs)
   |none=>none
  |none=>none)else none
def nG(P:Program):Nat->TypeId->Option (List TypeId)
 |0,_=>none
 |f+1,t=>match P.underlying t with
  |some (.int _)|some .string|some .bool|some (.slice _)=>if P.cellsOf t=1 then some [t]else none
  |some (.struct fs)=>match za (nG P f) 0 fs.toList with
   |some ts=>if ts.length=P.cellsOf t then some ts else none
   |none=>none
  |some (.array n e)=>match nG P f e with
   |some ts=>if n*ts.length=P.cellsOf t∧ts.length=P.cellsOf e then some (cr n ts).flatten else none
   |none=>none
  |_=>none
theorem U3{g:TypeId->Option (List TypeId)}{o:Nat}{fd:Field}{r:List Field}{ts:List TypeId}(h:za g o (fd::r)=some ts):fd.offset=o∧∃a b,g fd.type=some a∧za g (o+a.length) r=some b∧ts=a++b:=by
 unfold za at h
 split at h
 ·rename_i h0
  split at h
  ·rename_i a ha
   split at h
   ·rename_i b hb
    cases h
    exact⟨h0,a,b,ha,hb,rfl⟩
   ·cases h
  ·cases h
 ·cases h
def zb(P:Program)(w:World):Nat->TypeId->Value->Prop
 |0,_,_=>False
 |f+1,t,v=>match P.underlying t with
  |some (.int k)=>∃n,v= .int k n∧(RE k n).wf=true
  |some .string=>∃s:ByteArray,v= .string s∧s.size<=maxLen
  |some .bool=>∃b,v= .bool b
  |some (.slice e)=>v= .slice none 0 0∨∃a len cap ts,v= .slice (some a) len cap∧len<=cap∧cap<=maxLen∧nG P 8 e=some ts∧0<ts.length∧size? P e=some ts.length∧
    ∀i,i<cap->∃es:List Value,(∀j u,es[j]? =some u->w.cell? (a.add (i*ts.length+j))=some u)∧fD (zb P w f) ts es
  |_=>False
def Ht(P:Program):Nat->TypeId->Bool
 |0,_=>false
 |f+1,t=>match P.underlying t with
  |some (.int _)|some .string|some .bool=>true
  |some (.slice e)=>match nG P 8 e with
   |some ts=>decide (0<ts.length)&&decide (size? P e=some ts.length)&&ts.all (Ht P f)
   |none=>false
  |_=>false
theorem agN{w:World}{b:Nat}{a:Addr}{n:Nat}{es:List Value}(h:w.cells? b a n=some es):es.length=n∧∀j u,es[j]? =some u->w.cell? (a.add j)=some u:=by
 unfold World.cells? at h
 split at h
 ·have hl:=mapM_some_length h
  simp only[List.length_range]at hl
  refine⟨hl,fun j u hj=> ?_⟩
  have rj:=(List.getElem?_eq_some_iff.1 hj).1
  have:=mapM_some_get h j j (by rw[List.getElem?_range (by omega)])
  rw[this];exact hj
 ·cases h
theorem add_add(a:Addr)(i j:Nat):(a.add i).add j=a.add (i+j):=by
 unfold aqL
 by_cases hj:j=0
 ·subst hj;simp
 ·by_cases hi:i=0
  ·subst hi;simp
  ·have:¬(i+j=0):=by omega
   simp only[hi,hj,this,if_false]
   congr 1
   omega
section
variable {H0:Type} {enc:TypeId×Value->H0} {P:Program} {w:World} {held:Bool}
theorem U4{g:TypeId->Option (List TypeId)}{R:TypeId->Value->Prop}{cs:List Value}:∀(fs:List Field) (o:Nat) (ts:List TypeId),za g o fs=some ts->cs.length=o+ts.length->
 (∀fd∈fs,∀a,g fd.type=some a->a.length=P.cellsOf fd.type∧fD R a ((cs.drop fd.offset).take (P.cellsOf fd.type)))->fD R ts (cs.drop o)
 |[],o,ts,h,hl,_=>by
  cases h
  rw[List.drop_eq_nil_of_le (by simp at hl;omega)]
  trivial
 |fd::r,o,ts,h,hl,hf=>by
  obtain⟨h0,a,b,ha,hb,rfl⟩:=U3 h
  obtain⟨zf,h2⟩:=hf fd (Kq ..) a ha
  have:=U4 r (o+a.length) b hb (by simp at hl;omega) fun fd Hv=>hf fd (AV _ Hv)
  rw[h0,<-zf]at h2
  have e:cs.drop o=(cs.drop o).take a.length++cs.drop (o+a.length):=by rw[<-List.drop_drop,List.take_append_drop]
  rw[e]
  exact h2.append this
theorem U5{R:TypeId->Value->Prop}:∀(f:Nat) (t:TypeId) (cs:List Value) (ts:List TypeId) (m:Nat) (x:DataW H0×List MemPlace),nG P f t=some ts->
 (∀t'∈ts,∀v m x,RH enc P w 0 (fun _=>true) held m t' [v]=some x->R t' v)->RH enc P w 0 (fun _=>true) held m t cs=some x->ts.length=P.cellsOf t∧fD R ts cs:=by
 intro f
 induction f with
 |zero=>intro t cs ts m x h;cases h
 |succ f ih=>
  intro t cs ts m x h hR hx
  unfold nG at h
  have one:∀v,cs=[v]->(if P.cellsOf t=1 then some [t]else none)=some ts->ts.length=P.cellsOf t∧fD R ts cs:=by
   intro v hv hq
   subst hv
   by_cases hc:P.cellsOf t=1
   ·rw[if_pos hc]at hq
    cases hq
    exact⟨hc.symm,hR t (Kq ..) v m x hx,trivial⟩
   ·rw[if_neg hc]at hq;cases hq
  split at h
  ·rename_i k hk
   obtain⟨n,rfl,_⟩:=aru hk hx
   exact one _ rfl h
  ·rename_i hk
   obtain⟨n,rfl,_⟩:=arv hk hx
   exact one _ rfl h
  ·rename_i hk
   obtain⟨n,rfl,_⟩:=arw hk hx
   exact one _ rfl h
  ·rename_i e hk
   rcases arx hk hx with ⟨rfl,_⟩|⟨a,len,cap,elems,rest,n,_,rfl,_⟩
   ·exact one _ rfl h
   ·exact one _ rfl h
  ·rename_i fs hk
   split at h
   ·rename_i kH eg
    split at h
    ·rename_i hlen
     cases h
     obtain⟨xs,n,rfl,_,gN,_,ku⟩:=DataW.trod_struct hk hx
     refine⟨hlen, ?_⟩
     have:=U4 (P:=P) (R:=R) (cs:=cs) fs.toList 0 ts eg (by omega) fun fd Hv a ha=> ?_
     ·simpa using this
     ·obtain⟨i,hi⟩:=List.mem_iff_getElem?.1 Hv
      have uI:fs[i]? =some fd:=by simpa using hi
      have ee:=ku i fd uI
      cases nH:xs[i]? with
      |none=>exact absurd ee (by
        rw[nH]
        have:=(Array.getElem?_eq_some_iff.1 uI).1
        have h3:xs[i]? =none:=nH
        rw[ary]at h3
        omega)
      |some y=>
       rw[nH]at ee
       exact ih fd.type _ a n y ha (fun t' q9=>hR t' (by
        have:∀(l:List Field) (o:Nat) (ts:List TypeId),za (nG P f) o l=some ts->fd∈l->∀q∈a,q∈ts:=by
         intro l
         induction l with
         |nil=>intro o ts _ hm;simp at hm
         |cons g r ih2=>
          intro o ts hh hm q hq
          obtain⟨_,a2,b2,e1,e2,rfl⟩:=U3 hh
          rcases List.mem_cons.1 hm with rfl|hm
          ·rw[ha]at e1;cases e1
           exact List.mem_append.2 (.inl hq)
          ·exact List.mem_append.2 (.inr (ih2 _ _ e2 hm q hq))
        exact this fs.toList 0 ts eg Hv t' q9)) ee
    ·cases h
   ·cases h
  ·rename_i n e hk
   split at h
   ·rename_i kH eg
    split at h
    ·rename_i hlen
     obtain⟨hlen,hle⟩:=hlen
     obtain⟨xs,m',rfl,_,gN,hxn,ku⟩:=DataW.trod_array hk hx
     have hR':n=0∨∀t'∈kH,t'∈ts:=by
      rcases Nat.eq_zero_or_pos n with q|q
      ·exact .inl q
      ·refine .inr fun t' q9=> ?_
       cases h
       rw[List.mem_flatten]
       exact⟨kH,List.mem_replicate.2 ⟨by omega,rfl⟩,q9⟩
     have key:∀k,k<=n->fD R (cr k kH).flatten (cs.take (k*kH.length)):=by
      intro k
      induction k with
      |zero=>intro _;simp[fD]
      |succ k ihk=>
       intro lB
       have h1:=ihk (by omega)
       have ee:=ku k (by omega)
       cases nH:xs[k]? with
       |none=>rw[ary]at nH;omega
       |some y=>
        rw[nH]at ee
        obtain⟨h3,h4⟩:=ih e _ kH m' y eg (fun t' q9=>hR t' (by
         rcases hR' with q|q
         ·omega
         ·exact q t' q9)) ee
        rw[<-h3]at h4
        rw[List.replicate_succ',List.flatten_append,List.flatten_singleton]
        have e1:cs.take ((k+1)*kH.length)=cs.take (k*kH.length)++(cs.drop (k*kH.length)).take kH.length:=by
         rw[FL,List.take_add]
        rw[e1]
        exact h1.append h4
     cases h
     refine⟨?_, ?_⟩
     ·rw[<-hlen];simp
     ·have:=key n (an n)
      rwa[List.take_of_length_le (by omega)]at this
    ·cases h
   ·cases h
  ·cases h
theorem agO{f:Nat}:∀(t:TypeId) (v:Value) (m:Nat) (x:DataW H0×List MemPlace),Ht P f t=true->RH enc P w 0 (fun _=>true) held m t [v]=some x->zb P w f t v:=by
 induction f with
 |zero=>intro t v m x h;cases h
 |succ f ih=>
  intro t v m x h hx
  unfold Ht at h
  unfold zb
  split at h
  ·rename_i k hk
   obtain⟨n,e,_,hw⟩:=aru hk hx
   simp at e
   exact⟨n,e,hw⟩
  ·rename_i hk
   obtain⟨s,e,_,hw⟩:=arv hk hx
   simp at e
   exact⟨s,e,hw⟩
  ·rename_i hk
   obtain⟨b,e,_⟩:=arw hk hx
   simp at e
   exact⟨b,e⟩
  ·rename_i e hk
   split at h
   ·rename_i ts eg
    simp only[Bool.and_eq_true,decide_eq_true_eq,FG]at h
    obtain⟨⟨h0,h1⟩,h2⟩:=h
    have hc:P.cellsOf e=ts.length:=by
     unfold size? at h1
     unfold Program.cellsOf
     rw[h1];rfl
    rcases arx hk hx with ⟨hv,_⟩|⟨a,len,cap,elems,rest,n,_,hv,_,_,hl,hm,hlen,qm,hsp,_⟩
    ·simp at hv
     exact .inl hv
    ·simp at hv
     obtain⟨hr,M8⟩:=hsp rfl
     refine .inr ⟨a,len,cap,ts,hv,hl,hm,eg,h0,h1,fun i hi=> ?_⟩
     have get:∃y,(w.cells? 0 (a.add (i*P.cellsOf e)) (P.cellsOf e)).bind (RH enc P w 0 (fun _=>true) held n e)=some y:=by
      by_cases qB:i<len
      ·rw[qm i qB]
       exact⟨_,bD (by omega)⟩
      ·have:=M8 (i-len) (by omega)
       rw[show len+(i-len)=i by omega]at this
       rw[this]
       exact⟨_,bD (by omega)⟩
     obtain⟨y,hy⟩:=get
     rw[Option.bind_eq_some_iff]at hy
     obtain⟨es,rh,hy⟩:=hy
     obtain⟨_,nI⟩:=agN rh
     refine⟨es,fun j u hj=> ?_,(U5 8 e es ts n y eg (fun t' q9 v m x hx=>ih t' v m x (h2 t' q9) hx) hy).2⟩
     have:=nI j u hj
     rwa[add_add,hc]at this
   ·cases h
  ·cases h
end
def gX(P:Program)(h:H)(n:Nat):Nat->TypeId->Value->Prop
 |0,_,_=>False
 |f+1,t,v=>match P.underlying t with
  |some (.int k)=>∃n,v= .int k n∧(RE k n).wf=true
  |some .string=>∃s:ByteArray,v= .string s∧s.size<=maxLen
  |some .bool=>∃b,v= .bool b
  |some (.slice e)=>(∃a,v= .slice a 0 0∧∀b o,a≠some ⟨b,o,none⟩)∨∃b len ts cs,v= .slice (some ⟨b,0,none⟩) len (bq+len)∧nG P 8 e=some ts∧0<ts.length∧h.get b=some ⟨e,false,cs⟩∧b<n∧cs.length=len*ts.length∧len<=maxLen∧
    ∀i,i<len->fD (gX P h n f) ts ((cs.drop (i*ts.length)).take ts.length)
  |_=>False
theorem gX.aB{P:Program}{h h':H}{n n':Nat}(hn:n<=n')(hk:∀b,b<n->h'.get b=h.get b):∀{f:Nat} {t:TypeId} {v:Value},gX P h n f t v->gX P h' n' f t v:=by
 intro f
 induction f with
 |zero=>intro t v x;exact x
 |succ f ih=>
  intro t v x
  unfold gX at x⊢
  split at x
  ·exact x
  ·exact x
  ·exact x
  ·rcases x with q|⟨b,len,ts,cs,hv,ht,h0,hg,hb,hl,hm,ku⟩
   ·exact .inl q
   ·exact .inr ⟨b,len,ts,cs,hv,ht,h0,(hk b hb).trans hg,by omega,hl,hm,fun i hi=>(ku i hi).imp fun _ _ _ q=>ih q⟩
  ·exact x
theorem agP {P:Program} {w:World} {m:Mp} {h:H} {n:Nat} (x:Laid P w m h n) {b off len cap:Nat} {cs:Array Value} {e':TypeId} {fr:Nat×Nat} (hg:w.heap[b]? =some (.cells cs e' fr)) {e:TypeId} {sz:Nat} (he:size? P e=some sz) {vs dD:List Value} (hv:bA m vs dD)
 (gQ:∀i v,dD[i]? =some v->cs[off+i]? =some v) (hlen:vs.length=len*sz) (hl:len<=cap) (hc:off+cap*sz<=cs.size):
 ∃m',Laid P w m' (h.set n (some ⟨e,false,vs⟩)) (n+1)∧VR m' (.slice (some ⟨n,0,none⟩) len (bq+len)) (.slice (some ⟨b,off,none⟩) len cap)∧Le m m':=by
 let m':Mp:=fun c=>if c=n then some ⟨b,off,cs.size,sz,e'⟩else m c
 have hle:Le m m':=fun c d hd=>by
  by_cases ec:c=n
  ·subst ec;rw[x.fresh c (an c)]at hd;cases hd
  ·show(if c=n then _ else _)=_;rw[if_neg ec];exact hd
 let h':H:=h.set n (some ⟨e,false,vs⟩)
 have hn:m' n=some ⟨b,off,cs.size,sz,e'⟩:=if_pos rfl
 have Hw:h'.get n=some ⟨e,false,vs⟩:=get_eq _ _ _
 have hmul:len*sz<=cap*sz:=xY _ hl
 have oh:∀c C,h'.get c=some C->C.own=false:=fun c C mo=>by
  by_cases ec:c=n
  ·subst ec;rw[Hw]at mo;cases mo;rfl
  ·rw[aD _ _ ec]at mo;exact x.own c C mo
 refine⟨m',⟨⟨?_, ?_⟩,x.gl.mono hle,fun c hc=> ?_,oh,by have:=x.glo;omega⟩,.iC hn (fun _=>rfl) (fun q=>by unfold bq at q;omega) (fun _=>⟨an _,by omega⟩) hl hc,hle⟩
 ·intro c C mo
  by_cases ec:c=n
  ·subst ec
   rw[Hw]at mo
   cases mo
   refine⟨_,cs,fr.1,fr.2,hn,hg,rfl,by show off+vs.length<=cs.size;omega,he,fun q=>(by cases q),fun k u hu=> ?_⟩
   obtain⟨u',uD,hr⟩:=hv.get k u hu
   exact⟨u',gQ k u' uD,hr.mono hle⟩
  ·rw[aD _ _ ec]at mo
   obtain⟨d,C9,lo,hi,hm,KJ,h1,h2,h3,h4,h5⟩:=x.wr.live c C mo
   refine⟨d,C9,lo,hi,hle _ _ hm,KJ,h1,h2,h3,h4,fun k u hu=> ?_⟩
   obtain⟨u',uD,hr⟩:=h5 k u hu
   exact⟨u',uD,hr.mono hle⟩
 ·intro c c' C C' d d' mo agQ ho
  rw[oh c C mo,oh c' C' agQ]at ho
  simp at ho
 ·show(if c=n then _ else _)=none
  rw[if_neg (by omega)]
  exact x.fresh c (by omega)
def Hx(P:Program)(w:World)(R:TypeId->Value->Prop)(S:H->Nat->TypeId->Value->Prop):Prop:=∀t v,R t v->∀m h n,Laid P w m h n->∃m' h' n' v0,Laid P w m' h' n'∧VR m' v0 v∧S h' n' t v0∧Le m m'∧n<=n'∧∀b,b<n->h'.get b=h.get b
theorem bA.agR{m m':Mp}(hl:Le m m'){l l':List Value}(h:bA m l l'):bA m' l l':=bA.mono hl h
theorem Hy{P:Program}{w:World}{R:TypeId->Value->Prop}{S:H->Nat->TypeId->Value->Prop}(hk:∀(h h':H) (n n':Nat),n<=n'->(∀b,b<n->h'.get b=h.get b)->∀t v,S h n t v->S h' n' t v)(ok:Hx P w R S):
 ∀(ts:List TypeId) (vs:List Value),fD R ts vs->∀m h n,Laid P w m h n->∃m' h' n' gY,Laid P w m' h' n'∧bA m' gY vs∧fD (S h' n') ts gY∧Le m m'∧n<=n'∧∀b,b<n->h'.get b=h.get b
 |[],[],_,m,h,n,x=>⟨m,h,n,[],x,.nil,trivial,Le.refl _,an _,fun _ _=>rfl⟩
 |t::ts,v::vs,hr,m,h,n,x=>by
  obtain⟨m1,h1,n1,v0,x1,hv,hs,l1,g1,k1⟩:=ok t v hr.1 m h n x
  obtain⟨m2,h2,n2,gY,x2,gI,hss,l2,g2,k2⟩:=Hy hk ok ts vs hr.2 m1 h1 n1 x1
  exact⟨m2,h2,n2,v0::gY,x2,.cons (hv.mono l2) gI,⟨hk _ _ _ _ g2 k2 _ _ hs,hss⟩,l1.trans l2,by omega,fun b hb=>(k2 b (by omega)).trans (k1 b hb)⟩
 |[],_::_,hr,_,_,_,_=>hr.elim
 |_::_,[],hr,_,_,_,_=>hr.elim
theorem agS{α:Type}{l r:List α}{k c:Nat}(h:k+c<=l.length):((l++r).drop k).take c=(l.drop k).take c:=by
 rw[List.drop_append_of_le_length (by omega),List.take_append_of_le_length (by simp;omega)]
theorem agT{P:Program}{w:World}{R:TypeId->Value->Prop}{S:H->Nat->TypeId->Value->Prop}(hk:∀(h h':H) (n n':Nat),n<=n'->(∀b,b<n->h'.get b=h.get b)->∀t v,S h n t v->S h' n' t v)(ok:Hx P w R S){ts:List TypeId}{a:Addr}:
 ∀(len:Nat),(∀i,i<len->∃es:List Value,(∀j u,es[j]? =some u->w.cell? (a.add (i*ts.length+j))=some u)∧fD R ts es)->∀m h n,Laid P w m h n->
  ∃m' h' n' gY vs,Laid P w m' h' n'∧bA m' gY vs∧vs.length=len*ts.length∧(∀i u,vs[i]? =some u->w.cell? (a.add i)=some u)∧(∀i,i<len->fD (S h' n') ts ((gY.drop (i*ts.length)).take ts.length))∧Le m m'∧n<=n'∧∀b,b<n->h'.get b=h.get b:=by
 intro len
 induction len with
 |zero=>intro _ m h n x;exact⟨m,h,n,[],[],x,.nil,by simp,fun i u hu=>by simp at hu,fun i hi=>by omega,Le.refl _,an _,fun _ _=>rfl⟩
 |succ len ih=>
  intro qm m h n x
  obtain⟨m1,h1,n1,gY,vs,x1,hv,hl,hc,hs,l1,g1,k1⟩:=ih (fun i hi=>qm i (by omega)) m h n x
  obtain⟨es,M9,nA⟩:=qm len (by omega)
  obtain⟨m2,h2,n2,U6,x2,sS,dN,l2,g2,k2⟩:=Hy hk ok ts es nA m1 h1 n1 x1
  have uK:gY.length=len*ts.length:=by rw[hv.length,hl]
  have agU:U6.length=ts.length:=dN.length.symm
  have agV:es.length=ts.length:=nA.length.symm
  refine⟨m2,h2,n2,gY++U6,vs++es,x2,(hv.agR l2).append sS,by rw[List.length_append,hl,agV,FL],fun i u hu=> ?_,fun i hi=> ?_,l1.trans l2,by omega,fun b hb=>(k2 b (by omega)).trans (k1 b hb)⟩
  ·by_cases hi:i<vs.length
   ·rw[List.getElem?_append_left hi]at hu
    exact hc i u hu
   ·rw[List.getElem?_append_right (by omega)]at hu
    have:=M9 _ u hu
    rwa[show len*ts.length+(i-vs.length)=i by omega]at this
  ·by_cases qB:i<len
   ·have hle:i*ts.length+ts.length<=gY.length:=by
     rw[uK,<-FL];exact xY _ qB
    rw[agS hle]
    exact(hs i qB).imp fun _ _ _ q=>hk _ _ _ _ g2 k2 _ _ q
   ·obtain rfl:i=len:=by omega
    rw[<-uK,List.drop_left,<-agU,List.take_length]
    exact dN
theorem agW{P:Program}{w:World}:∀(f:Nat),Hx P w (zb P w f) (fun h n=>gX P h n f):=by
 intro f
 induction f with
 |zero=>intro t v hr;exact hr.elim
 |succ f ih=>
  intro t v hr m h n x
  unfold zb at hr
  have same:∀v0,VR m v0 v->gX P h n (f+1) t v0->∃m' h' n' v0,Laid P w m' h' n'∧VR m' v0 v∧gX P h' n' (f+1) t v0∧Le m m'∧n<=n'∧∀b,b<n->h'.get b=h.get b:=
   fun v0 h1 h2=>⟨m,h,n,v0,x,h1,h2,Le.refl _,an _,fun _ _=>rfl⟩
  split at hr
  ·rename_i k hk
   obtain⟨z,rfl,hw⟩:=hr
   exact same _ (.int k z) (by unfold gX;rw[hk];exact⟨z,rfl,hw⟩)
  ·rename_i hk
   obtain⟨z,rfl,hw⟩:=hr
   exact same _ (.string z) (by unfold gX;rw[hk];exact⟨z,rfl,hw⟩)
  ·rename_i hk
   obtain⟨z,rfl⟩:=hr
   exact same _ (.bool z) (by unfold gX;rw[hk];exact⟨z,rfl⟩)
  ·rename_i e hk
   rcases hr with rfl|⟨a,len,cap,ts,rfl,hl,hm,eg,h0,dS,qm⟩
   ·exact same _ (.o0 0 0 ⟨an _,by unfold bq;omega⟩) (by unfold gX;rw[hk];exact .inl ⟨none,rfl,fun _ _=>by simp⟩)
   ·by_cases hc0:cap=0
    ·obtain rfl:len=0:=by omega
     subst hc0
     exact same (.slice (some ⟨0,0,some 0⟩) 0 0) (.sQ 0 0 0 a) (by unfold gX;rw[hk];exact .inl ⟨_,rfl,fun b o q=>by simp at q⟩)
    ·have first:∃b off,a=⟨b,off,none⟩∧∃cs e' fr,w.heap[b]? =some (.cells cs e' fr)∧off+cap*ts.length<=cs.size:=by
      obtain⟨es,M9,nA⟩:=qm (cap-1) (by omega)
      obtain⟨es',agX,agY⟩:=qm 0 (by omega)
      have M':=nA.length
      have mP:=agY.length
      have c0:=agX 0 es'[0] (by simp)
      obtain⟨b,off,spot⟩:=a
      have agZ:spot=none:=by simpa[aqL]using World.cell?_spot c0
      subst agZ
      obtain⟨cs,e',fr,hg,_⟩:=agK (by rw[nm]at c0;exact c0)
      refine⟨b,off,rfl,cs,e',fr,hg, ?_⟩
      have cl:=M9 (ts.length-1) es[ts.length-1] (bD (by omega))
      rw[nm,A8 w _ _ hg]at cl
      have bM:=(Array.getElem?_eq_some_iff.1 cl).1
      have hmul:(cap-1)*ts.length+ts.length=cap*ts.length:=by
       rw[<-FL];congr 1;omega
      omega
     obtain⟨b,off,rfl,cs,e',fr,hg,SL⟩:=first
     obtain⟨m1,h1,n1,gY,vs,x1,hv,yH,nI,hs,l1,g1,k1⟩:=agT (S:=fun h n=>gX P h n f) (fun _ _ _ _ hn hk _ _ q=>gX.aB hn hk q) ih len (fun i hi=>qm i (by omega)) m h n x
     obtain⟨m2,x2,sS,l2⟩:=agP (len:=len) (cap:=cap) (off:=off) x1 hg dS hv (fun i u hu=>by
      have:=nI i u hu
      rwa[nm,A8 w _ _ hg]at this) (by rw[hv.length,yH]) hl SL
     have kk:∀c,c<n1->(h1.set n1 (some ⟨e,false,gY⟩)).get c=h1.get c:=fun c hc=>aD _ _ (by omega)
     refine⟨m2,_,n1+1,_,x2,sS, ?_,l1.trans l2,by omega,fun c hc=>(kk c (by omega)).trans (k1 c hc)⟩
     show gX P _ (n1+1) (f+1) t _
     unfold gX
     rw[hk]
     refine .inr ⟨n1,len,ts,gY,rfl,eg,h0,get_eq _ _ _,Nat.lt_succ_self n1,by rw[hv.length,yH],by omega,fun i hi=>(hs i hi).imp fun _ _ _ q=>gX.aB (Nat.le_succ n1) kk q⟩
  ·exact hr.elim
def tg(P:Program)(t:TypeId):Bool:=match P.underlying t with
 |some (.struct _)|some (.array _ _)=>true
 |_=>false
def wJ(P:Program)(w:World)(t:TypeId)(v:Value):Prop:=∃ts,nG P 8 t=some ts∧fD (zb P w 8) ts v.cells.toList∧(tg P t=true->∃cs,v= .agg cs)∧(tg P t=false->v.cells=#[v])
def rL(P:Program)(h:H)(n:Nat)(t:TypeId)(v:Value):Prop:=∃ts,nG P 8 t=some ts∧((tg P t=true∧∃cs,v= .agg cs∧fD (gX P h n 8) ts cs.toList)∨(tg P t=false∧fD (gX P h n 8) ts [v]))
def U7(P:Program)(t:TypeId):Bool:=match nG P 8 t with
 |some ts=>ts.all (Ht P 8)
 |none=>false
theorem U8{H0:Type}{enc:TypeId×Value->H0}{P:Program}{w:World}{held:Bool}{r:Reach}{b0:Nat}{t:TypeId}{v:Value}{d:DataW H0}{p:List MemPlace}(ho:U7 P t=true)(hv:arB P w r b0 t v)(h:DataW.Trod enc P w 0 (fun _=>true) held t v d p):wJ P w t v:=by
 unfold U7 at ho
 split at ho
 ·rename_i ts eg
  rw[FG]at ho
  obtain⟨m,hm⟩:=h
  have hc:=U5 (R:=zb P w 8) 8 t v.cells.toList ts m _ eg (fun t' q9 u m x hx=>agO t' u m x (ho t' q9) hx) hm
  refine⟨ts,eg,hc.2,fun ha=> ?_,fun ha=> ?_⟩
  ·unfold tg at ha
   split at ha
   ·rename_i fs hk
    obtain⟨cs,e,_⟩:=okWide_struct hk hv
    exact⟨cs,e⟩
   ·rename_i q e hk
    simp only[arB,hk]at hv
    obtain⟨cs,e,_⟩:=hv
    exact⟨cs,e⟩
   ·cases ha
  ·have nI:P.cellsOf t=1∨True:= .inr trivial
   unfold nG at eg
   unfold tg at ha
   split at eg
   ·rename_i k hk
    obtain⟨n,e⟩:=okWide_int hk hv
    rw[e];rfl
   ·rename_i hk
    obtain⟨n,e⟩:=okWide_string hk hv
    rw[e];rfl
   ·rename_i hk
    obtain⟨n,e⟩:=okWide_bool hk hv
    rw[e];rfl
   ·rename_i e hk
    obtain⟨a,l,c,e⟩:=okWide_slice hk hv
    rw[e];rfl
   ·rename_i fs hk
    rw[hk]at ha
    cases ha
   ·rename_i q e hk
    rw[hk]at ha
    cases ha
   ·cases eg
 ·cases ho
theorem ag0{P:Program}{w:World}:Hx P w (wJ P w) (rL P):=by
 intro t v hr m h n x
 obtain⟨ts,eg,ku,ha,hb⟩:=hr
 obtain⟨m1,h1,n1,gY,x1,hv,hs,l1,g1,k1⟩:=Hy (S:=fun h n=>gX P h n 8) (fun _ _ _ _ hn hk _ _ q=>gX.aB hn hk q) (agW 8) ts _ ku m h n x
 cases hg:tg P t with
 |true=>
  obtain⟨cs,rfl⟩:=ha hg
  exact⟨m1,h1,n1,.agg gY.toArray,x1,.agg hv,⟨ts,eg,.inl ⟨hg,gY.toArray,rfl,hs⟩⟩,l1,g1,k1⟩
 |false=>
  have hc:=hb hg
  rw[hc]at hv
  cases hv with
  |cons hv ht=>
   cases ht
   exact⟨m1,h1,n1,_,x1,hv,⟨ts,eg,.inr ⟨hg,hs⟩⟩,l1,g1,k1⟩
theorem rL.aB{P:Program}{h h':H}{n n':Nat}(hn:n<=n')(hk:∀b,b<n->h'.get b=h.get b){t:TypeId}{v:Value}(x:rL P h n t v):rL P h' n' t v:=by
 obtain⟨ts,eg,q⟩:=x
 rcases q with ⟨h1,cs,h2,h3⟩|⟨h1,h2⟩
 ·exact⟨ts,eg,.inl ⟨h1,cs,h2,h3.imp fun _ _ _ q=>gX.aB hn hk q⟩⟩
 ·exact⟨ts,eg,.inr ⟨h1,h2.imp fun _ _ _ q=>gX.aB hn hk q⟩⟩
theorem ag1 {P:Program} (oB:vQ P=true) (cG:qW P KN=true) (o9:P.follows .mixedOrders=true) (lB:uL P KN) (hd:lW P=true) {w:World} {gt:Nat->Hint} {lf d:Nat} {f:FuncId} {ts:List TypeId} {vs:List Value} (ha:fD (wJ P w) ts vs) {m0:Mp} {h0:H} (x0:Laid P w m0 h0 P.globals.size)
 (r:∀n h gY,P.globals.size<=n->(∀b,b<P.globals.size->h.get b=h0.get b)->fD (rL P h n) ts gY->ai (fun _=>False) n (au P gt lf d f gY.toArray) h n fun v _ _=>v= .bool true):Calls P f vs.toArray w fun e w'=>e= .returned (.bool true)∧Below w.heap.size w w':=by
 obtain⟨m1,h1,n1,gY,x1,hv,hs,_,g1,k1⟩:=Hy (S:=rL P) (fun _ _ _ _ hn hk _ _ q=>rL.aB hn hk q) ag0 ts vs ha m0 h0 _ x0
 exact agM oB cG o9 lB hd x1 hv (r n1 h1 gY g1 k1 hs)
end Go.Proofs.YtmjolmggelkjlaaGreat.Ev
namespace Go.Proofs.YtmjolmggelkjlaaGreat.Ev
open Go Go.RowKit
end Go.Proofs.YtmjolmggelkjlaaGreat.Ev
namespace Go.Proofs.YtmjolmggelkjlaaGreat.Ev
open Go
set_option maxRecDepth 4000
theorem U9:type_of%(aI @wG (aI @TP (aI @TQ (aI @TN (aI @TO (aI @TM (aI @TJ (aI @lX (aI @TK (aI @TL (aI @UO (aI @UP (aI @eh (aI @get_eq (aI @aD (aI @TR (aI @TS (aI @TU (aI @TV (aI @TW (aI @TX (aI @TY (aI @TZ (aI @T7 (aI @T8 (aI @Ua (aI @Ub (aI @Uc (aI @Ud (aI @Ue (aI @Uf (aI @y6 (aI @Hm (aI @MP (aI @Ug (aI @Uh (aI @MQ (aI @Ui (aI @Uj (aI @Uk (aI @Ul (aI @y8 (aI @Un (aI @Uo (aI @Up (aI @Uq (aI @Ur (aI @Ut (aI @Uu (aI @Uv (aI @Uw (aI @Ux (aI @Uy (aI @Uz (aI @UA (aI @UB (aI @UC (aI @UD (aI @UE (aI @UF (aI @BB (aI @MS (aI @UG (aI @UH (aI @BC (aI @DJ (aI @DK (aI @DL (aI @MU (aI @MV (aI @MW (aI @UK (aI @UL (aI @UM (aI @UN (aI @MX (aI @UQ (aI @UR (aI @US (aI @UT (aI @UU (@UW)))))))))))))))))))))))))))))))))))))))))))))))))))))))))))))))))))))))))))))))))):=aI @wG (aI @TP (aI @TQ (aI @TN (aI @TO (aI @TM (aI @TJ (aI @lX (aI @TK (aI @TL (aI @UO (aI @UP (aI @eh (aI @get_eq (aI @aD (aI @TR (aI @TS (aI @TU (aI @TV (aI @TW (aI @TX (aI @TY (aI @TZ (aI @T7 (aI @T8 (aI @Ua (aI @Ub (aI @Uc (aI @Ud (aI @Ue (aI @Uf (aI @y6 (aI @Hm (aI @MP (aI @Ug (aI @Uh (aI @MQ (aI @Ui (aI @Uj (aI @Uk (aI @Ul (aI @y8 (aI @Un (aI @Uo (aI @Up (aI @Uq (aI @Ur (aI @Ut (aI @Uu (aI @Uv (aI @Uw (aI @Ux (aI @Uy (aI @Uz (aI @UA (aI @UB (aI @UC (aI @UD (aI @UE (aI @UF (aI @BB (aI @MS (aI @UG (aI @UH (aI @BC (aI @DJ (aI @DK (aI @DL (aI @MU (aI @MV (aI @MW (aI @UK (aI @UL (aI @UM (aI @UN (aI @MX (aI @UQ (aI @UR (aI @US (aI @UT (aI @UU (@UW)))))))))))))))))))))))))))))))))))))))))))))))))))))))))))))))))))))))))))))))))
theorem U':type_of%(aI @List.getElem?_cons_zero.{0} (aI @List.getElem?_cons_succ.{0} (aI @List.set_cons_zero.{0} (aI @List.set_cons_succ.{0} (aI @List.length_cons.{0} (aI @List.length_nil.{0} (aI @cL (aI @arC (aI @fB (aI @kQ (aI @decide_eq_true_eq (aI @decide_eq_false_iff_not (aI @true_and (aI @and_true (aI @if_true.{1} (aI @if_false.{1} (aI @true_or (aI @or_true (aI @sE (aI @arD (aI @false_and (aI @and_false (aI @jP (aI @cP (aI @beq_self_eq_true.{0} (aI @bne_self_eq_false.{0} (aI @decide_true (aI @decide_false (aI @ari (aI @xX (aI @Kh (@Kr)))))))))))))))))))))))))))))))):=aI @List.getElem?_cons_zero.{0} (aI @List.getElem?_cons_succ.{0} (aI @List.set_cons_zero.{0} (aI @List.set_cons_succ.{0} (aI @List.length_cons.{0} (aI @List.length_nil.{0} (aI @cL (aI @arC (aI @fB (aI @kQ (aI @decide_eq_true_eq (aI @decide_eq_false_iff_not (aI @true_and (aI @and_true (aI @if_true.{1} (aI @if_false.{1} (aI @true_or (aI @or_true (aI @sE (aI @arD (aI @false_and (aI @and_false (aI @jP (aI @cP (aI @beq_self_eq_true.{0} (aI @bne_self_eq_false.{0} (aI @decide_true (aI @decide_false (aI @ari (aI @xX (aI @Kh (@Kr)))))))))))))))))))))))))))))))
end Go.Proofs.YtmjolmggelkjlaaGreat.Ev
