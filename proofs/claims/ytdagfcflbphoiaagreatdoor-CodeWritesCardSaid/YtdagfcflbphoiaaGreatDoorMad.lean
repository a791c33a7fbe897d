import Derived.Test.YtdagfcflbphoiaaGreatDoorMac
import Derived.ProofKit
import Derived.OpenShut
open Nat renaming le_refl→av, zero_add→iO, add_zero→mH, mul_le_mul_right→Og, succ_mul→Ow
open List renaming getElem?_eq_getElem→aM, replicate→bI, mem_cons_of_mem→oK, mem_cons_self→uE, all_eq_true→Oc, getElem?_eq_none_iff→amn
open Bool renaming not_true→gM, not_false→iP, false_eq_true→sd, and_false→Hm, true_and→N', and_true→amc, true_eq_false→ams, false_and→amt
open Int renaming toNat_natCast→mG, toNat_zero→amr
open Go.Lit renaming int→Cv
open Go.DataW renaming trod→Ov, trod_int→amj, trod_string→amk, trod_bool→aml, trod_slice→amm
open Go.Addr renaming add→alL
open Go.Value renaming okWide→amq
set_option linter.unusedVariables false
set_option linter.unusedSimpArgs false
namespace Go.Proofs.YtdagfcflbphoiaaGreatDoor.Ev
open Go Go.RowKit Go.WideShapes Go.ChangeShapes
def dT{α β:Type}(R:α->β->Prop):List α->List β->Prop
 |[],[]=>True
 |a::l,b::m=>R a b∧dT R l m
 |_,_=>False
theorem dT.length{α β:Type}{R:α->β->Prop}:∀{l:List α} {m:List β},dT R l m->l.length=m.length
 |[],[],_=>rfl
 |_::_,_::_,h=>by simp[dT.length h.2]
 |[],_::_,h=>h.elim
 |_::_,[],h=>h.elim
theorem dT.imp{α β:Type}{R S:α->β->Prop}:∀{l:List α} {m:List β},(∀a∈l,∀b,R a b->S a b)->dT R l m->dT S l m
 |[],[],_,_=>trivial
 |a::_,_::_,h,x=>⟨h a (uE ..) _ x.1,dT.imp (fun a ha=>h a (oK _ ha)) x.2⟩
 |[],_::_,_,x=>x.elim
 |_::_,[],_,x=>x.elim
theorem dT.append{α β:Type}{R:α->β->Prop}:∀{l l':List α} {m m':List β},dT R l m->dT R l' m'->dT R (l++l') (m++m')
 |[],_,[],_,_,h=>h
 |_::_,_,_::_,_,x,h=>⟨x.1,dT.append x.2 h⟩
 |[],_,_::_,_,x,_=>x.elim
 |_::_,_,[],_,x,_=>x.elim
def vC(g:TypeId->Option (List TypeId)):Nat->List Field->Option (List TypeId)
 |_,[]=>some []
 |o,fd::r=>if fd.offset=o then(match g fd.type with
  |some ts=>match vC g (o+ts.length) r with
   |some rs=>some (ts++rs)
   |none=>none
  |none=>none)else none
def jy(P:Program):Nat->TypeId->Option (List TypeId)
 |0,_=>none
 |f+1,t=>match P.underlying t with
  |some (.int _)|some .string|some .bool|some (.slice _)=>if P.cellsOf t=1 then some [t]else none
  |some (.struct fs)=>match vC (jy P f) 0 fs.toList with
   |some ts=>if ts.length=P.cellsOf t then some ts else none
   |none=>none
  |some (.array n e)=>match jy P f e with
   |some ts=>if n*ts.length=P.cellsOf t∧ts.length=P.cellsOf e then some (bI n ts).flatten else none
   |none=>none
  |_=>none
theorem Rw{g:TypeId->Option (List TypeId)}{o:Nat}{fd:Field}{r:List Field}{ts:List TypeId}(h:vC g o (fd::r)=some ts):fd.offset=o∧∃a b,g fd.type=some a∧vC g (o+a.length) r=some b∧ts=a++b:=by
 unfold vC at h
 split at h
 ·rename_i h0
  split at h
  ·rename_i a ha
   split at h
   ·rename_i b hb
    cases h
    exact⟨h0,a,b,ha,hb,rfl⟩
   ·cases h
  ·cases h
 ·cases h
def vD(P:Program)(w:World):Nat->TypeId->Value->Prop
 |0,_,_=>False
 |f+1,t,v=>match P.underlying t with
  |some (.int k)=>∃n,v= .int k n∧(Cv k n).wf=true
  |some .string=>∃s:ByteArray,v= .string s∧s.size<=maxLen
  |some .bool=>∃b,v= .bool b
  |some (.slice e)=>v= .slice none 0 0∨∃a len cap ts,v= .slice (some a) len cap∧len<=cap∧cap<=maxLen∧jy P 8 e=some ts∧0<ts.length∧size? P e=some ts.length∧
    ∀i,i<cap->∃es:List Value,(∀j u,es[j]? =some u->w.cell? (a.add (i*ts.length+j))=some u)∧dT (vD P w f) ts es
  |_=>False
def D8(P:Program):Nat->TypeId->Bool
 |0,_=>false
 |f+1,t=>match P.underlying t with
  |some (.int _)|some .string|some .bool=>true
  |some (.slice e)=>match jy P 8 e with
   |some ts=>decide (0<ts.length)&&decide (size? P e=some ts.length)&&ts.all (D8 P f)
   |none=>false
  |_=>false
theorem ael{w:World}{b:Nat}{a:Addr}{n:Nat}{es:List Value}(h:w.cells? b a n=some es):es.length=n∧∀j u,es[j]? =some u->w.cell? (a.add j)=some u:=by
 unfold World.cells? at h
 split at h
 ·have hl:=mapM_some_length h
  simp only[List.length_range]at hl
  refine⟨hl,fun j u hj=> ?_⟩
  have eM:=(List.getElem?_eq_some_iff.1 hj).1
  have:=mapM_some_get h j j (by rw[List.getElem?_range (by omega)])
  rw[this];exact hj
 ·cases h
theorem add_add(a:Addr)(i j:Nat):(a.add i).add j=a.add (i+j):=by
 unfold alL
 by_cases hj:j=0
 ·subst hj;simp
 ·by_cases hi:i=0
  ·subst hi;simp
  ·have:¬(i+j=0):=by omega
   simp only[hi,hj,this,if_false]
   congr 1
   omega
section
variable {H0:Type} {enc:TypeId×Value->H0} {P:Program} {w:World} {held:Bool}
theorem Rx{g:TypeId->Option (List TypeId)}{R:TypeId->Value->Prop}{cs:List Value}:∀(fs:List Field) (o:Nat) (ts:List TypeId),vC g o fs=some ts->cs.length=o+ts.length->
 (∀fd∈fs,∀a,g fd.type=some a->a.length=P.cellsOf fd.type∧dT R a ((cs.drop fd.offset).take (P.cellsOf fd.type)))->dT R ts (cs.drop o)
 |[],o,ts,h,hl,_=>by
  cases h
  rw[List.drop_eq_nil_of_le (by simp at hl;omega)]
  trivial
 |fd::r,o,ts,h,hl,hf=>by
  obtain⟨h0,a,b,ha,hb,rfl⟩:=Rw h
  obtain⟨D9,h2⟩:=hf fd (uE ..) a ha
  have:=Rx r (o+a.length) b hb (by simp at hl;omega) fun fd D'=>hf fd (oK _ D')
  rw[h0,<-D9]at h2
  have e:cs.drop o=(cs.drop o).take a.length++cs.drop (o+a.length):=by rw[<-List.drop_drop,List.take_append_drop]
  rw[e]
  exact h2.append this
theorem Ry{R:TypeId->Value->Prop}:∀(f:Nat) (t:TypeId) (cs:List Value) (ts:List TypeId) (m:Nat) (x:DataW H0×List MemPlace),jy P f t=some ts->
 (∀t'∈ts,∀v m x,Ov enc P w 0 (fun _=>true) held m t' [v]=some x->R t' v)->Ov enc P w 0 (fun _=>true) held m t cs=some x->ts.length=P.cellsOf t∧dT R ts cs:=by
 intro f
 induction f with
 |zero=>intro t cs ts m x h;cases h
 |succ f ih=>
  intro t cs ts m x h hR hx
  unfold jy at h
  have one:∀v,cs=[v]->(if P.cellsOf t=1 then some [t]else none)=some ts->ts.length=P.cellsOf t∧dT R ts cs:=by
   intro v hv hq
   subst hv
   by_cases hc:P.cellsOf t=1
   ·rw[if_pos hc]at hq
    cases hq
    exact⟨hc.symm,hR t (uE ..) v m x hx,trivial⟩
   ·rw[if_neg hc]at hq;cases hq
  split at h
  ·rename_i k hk
   obtain⟨n,rfl,_⟩:=amj hk hx
   exact one _ rfl h
  ·rename_i hk
   obtain⟨n,rfl,_⟩:=amk hk hx
   exact one _ rfl h
  ·rename_i hk
   obtain⟨n,rfl,_⟩:=aml hk hx
   exact one _ rfl h
  ·rename_i e hk
   rcases amm hk hx with ⟨rfl,_⟩|⟨a,len,cap,elems,rest,n,_,rfl,_⟩
   ·exact one _ rfl h
   ·exact one _ rfl h
  ·rename_i fs hk
   split at h
   ·rename_i iz eN
    split at h
    ·rename_i hlen
     cases h
     obtain⟨xs,n,rfl,_,fG,_,gR⟩:=DataW.trod_struct hk hx
     refine⟨hlen, ?_⟩
     have:=Rx (P:=P) (R:=R) (cs:=cs) fs.toList 0 ts eN (by omega) fun fd D' a ha=> ?_
     ·simpa using this
     ·obtain⟨i,hi⟩:=List.mem_iff_getElem?.1 D'
      have p9:fs[i]? =some fd:=by simpa using hi
      have bN:=gR i fd p9
      cases jS:xs[i]? with
      |none=>exact absurd bN (by
        rw[jS]
        have:=(Array.getElem?_eq_some_iff.1 p9).1
        have h3:xs[i]? =none:=jS
        rw[amn]at h3
        omega)
      |some y=>
       rw[jS]at bN
       exact ih fd.type _ a n y ha (fun t' mS=>hR t' (by
        have:∀(l:List Field) (o:Nat) (ts:List TypeId),vC (jy P f) o l=some ts->fd∈l->∀q∈a,q∈ts:=by
         intro l
         induction l with
         |nil=>intro o ts _ hm;simp at hm
         |cons g r yD=>
          intro o ts hh hm q hq
          obtain⟨_,a2,b2,e1,e2,rfl⟩:=Rw hh
          rcases List.mem_cons.1 hm with rfl|hm
          ·rw[ha]at e1;cases e1
           exact List.mem_append.2 (.inl hq)
          ·exact List.mem_append.2 (.inr (yD _ _ e2 hm q hq))
        exact this fs.toList 0 ts eN D' t' mS)) bN
    ·cases h
   ·cases h
  ·rename_i n e hk
   split at h
   ·rename_i iz eN
    split at h
    ·rename_i hlen
     obtain⟨hlen,hle⟩:=hlen
     obtain⟨xs,m',rfl,_,fG,hxn,gR⟩:=DataW.trod_array hk hx
     have hR':n=0∨∀t'∈iz,t'∈ts:=by
      rcases Nat.eq_zero_or_pos n with q|q
      ·exact .inl q
      ·refine .inr fun t' mS=> ?_
       cases h
       rw[List.mem_flatten]
       exact⟨iz,List.mem_replicate.2 ⟨by omega,rfl⟩,mS⟩
     have key:∀k,k<=n->dT R (bI k iz).flatten (cs.take (k*iz.length)):=by
      intro k
      induction k with
      |zero=>intro _;simp[dT]
      |succ k ihk=>
       intro kp
       have h1:=ihk (by omega)
       have bN:=gR k (by omega)
       cases jS:xs[k]? with
       |none=>rw[amn]at jS;omega
       |some y=>
        rw[jS]at bN
        obtain⟨h3,h4⟩:=ih e _ iz m' y eN (fun t' mS=>hR t' (by
         rcases hR' with q|q
         ·omega
         ·exact q t' mS)) bN
        rw[<-h3]at h4
        rw[List.replicate_succ',List.flatten_append,List.flatten_singleton]
        have e1:cs.take ((k+1)*iz.length)=cs.take (k*iz.length)++(cs.drop (k*iz.length)).take iz.length:=by
         rw[Ow,List.take_add]
        rw[e1]
        exact h1.append h4
     cases h
     refine⟨?_, ?_⟩
     ·rw[<-hlen];simp
     ·have:=key n (av n)
      rwa[List.take_of_length_le (by omega)]at this
    ·cases h
   ·cases h
  ·cases h
theorem aem{f:Nat}:∀(t:TypeId) (v:Value) (m:Nat) (x:DataW H0×List MemPlace),D8 P f t=true->Ov enc P w 0 (fun _=>true) held m t [v]=some x->vD P w f t v:=by
 induction f with
 |zero=>intro t v m x h;cases h
 |succ f ih=>
  intro t v m x h hx
  unfold D8 at h
  unfold vD
  split at h
  ·rename_i k hk
   obtain⟨n,e,_,hw⟩:=amj hk hx
   simp at e
   exact⟨n,e,hw⟩
  ·rename_i hk
   obtain⟨s,e,_,hw⟩:=amk hk hx
   simp at e
   exact⟨s,e,hw⟩
  ·rename_i hk
   obtain⟨b,e,_⟩:=aml hk hx
   simp at e
   exact⟨b,e⟩
  ·rename_i e hk
   split at h
   ·rename_i ts eN
    simp only[Bool.and_eq_true,decide_eq_true_eq,Oc]at h
    obtain⟨⟨h0,h1⟩,h2⟩:=h
    have hc:P.cellsOf e=ts.length:=by
     unfold size? at h1
     unfold Program.cellsOf
     rw[h1];rfl
    rcases amm hk hx with ⟨hv,_⟩|⟨a,len,cap,elems,rest,n,_,hv,_,_,hl,hm,hlen,nQ,hsp,_⟩
    ·simp at hv
     exact .inl hv
    ·simp at hv
     obtain⟨hr,aen⟩:=hsp rfl
     refine .inr ⟨a,len,cap,ts,hv,hl,hm,eN,h0,h1,fun i hi=> ?_⟩
     have get:∃y,(w.cells? 0 (a.add (i*P.cellsOf e)) (P.cellsOf e)).bind (Ov enc P w 0 (fun _=>true) held n e)=some y:=by
      by_cases bR:i<len
      ·rw[nQ i bR]
       exact⟨_,aM (by omega)⟩
      ·have:=aen (i-len) (by omega)
       rw[show len+(i-len)=i by omega]at this
       rw[this]
       exact⟨_,aM (by omega)⟩
     obtain⟨y,hy⟩:=get
     rw[Option.bind_eq_some_iff]at hy
     obtain⟨es,oS,hy⟩:=hy
     obtain⟨_,Ea⟩:=ael oS
     refine⟨es,fun j u hj=> ?_,(Ry 8 e es ts n y eN (fun t' mS v m x hx=>ih t' v m x (h2 t' mS) hx) hy).2⟩
     have:=Ea j u hj
     rwa[add_add,hc]at this
   ·cases h
  ·cases h
end
def eF(P:Program)(h:H)(n:Nat):Nat->TypeId->Value->Prop
 |0,_,_=>False
 |f+1,t,v=>match P.underlying t with
  |some (.int k)=>∃n,v= .int k n∧(Cv k n).wf=true
  |some .string=>∃s:ByteArray,v= .string s∧s.size<=maxLen
  |some .bool=>∃b,v= .bool b
  |some (.slice e)=>(∃a,v= .slice a 0 0∧∀b o,a≠some ⟨b,o,none⟩)∨∃b len ts cs,v= .slice (some ⟨b,0,none⟩) len (bc+len)∧jy P 8 e=some ts∧0<ts.length∧h.get b=some ⟨e,false,cs⟩∧b<n∧cs.length=len*ts.length∧len<=maxLen∧
    ∀i,i<len->dT (eF P h n f) ts ((cs.drop (i*ts.length)).take ts.length)
  |_=>False
theorem eF.aB{P:Program}{h h':H}{n n':Nat}(hn:n<=n')(hk:∀b,b<n->h'.get b=h.get b):∀{f:Nat} {t:TypeId} {v:Value},eF P h n f t v->eF P h' n' f t v:=by
 intro f
 induction f with
 |zero=>intro t v x;exact x
 |succ f ih=>
  intro t v x
  unfold eF at x⊢
  split at x
  ·exact x
  ·exact x
  ·exact x
  ·rcases x with q|⟨b,len,ts,cs,hv,ht,h0,hg,hb,hl,hm,gR⟩
   ·exact .inl q
   ·exact .inr ⟨b,len,ts,cs,hv,ht,h0,(hk b hb).trans hg,by omega,hl,hm,fun i hi=>(gR i hi).imp fun _ _ _ q=>ih q⟩
  ·exact x
theorem aeo {P:Program} {w:World} {m:Mp} {h:H} {n:Nat} (x:Laid P w m h n) {b off len cap:Nat} {cs:Array Value} {e':TypeId} {fr:Nat×Nat} (hg:w.heap[b]? =some (.cells cs e' fr)) {e:TypeId} {sz:Nat} (he:size? P e=some sz) {vs dh:List Value} (hv:ba m vs dh)
 (bk:∀i v,dh[i]? =some v->cs[off+i]? =some v) (hlen:vs.length=len*sz) (hl:len<=cap) (hc:off+cap*sz<=cs.size):
 ∃m',Laid P w m' (h.set n (some ⟨e,false,vs⟩)) (n+1)∧VR m' (.slice (some ⟨n,0,none⟩) len (bc+len)) (.slice (some ⟨b,off,none⟩) len cap)∧Le m m':=by
 let m':Mp:=fun c=>if c=n then some ⟨b,off,cs.size,sz,e'⟩else m c
 have hle:Le m m':=fun c d hd=>by
  by_cases ec:c=n
  ·subst ec;rw[x.fresh c (av c)]at hd;cases hd
  ·show(if c=n then _ else _)=_;rw[if_neg ec];exact hd
 let h':H:=h.set n (some ⟨e,false,vs⟩)
 have hn:m' n=some ⟨b,off,cs.size,sz,e'⟩:=if_pos rfl
 have kV:h'.get n=some ⟨e,false,vs⟩:=get_eq _ _ _
 have hmul:len*sz<=cap*sz:=Og _ hl
 have oP:∀c C,h'.get c=some C->C.own=false:=fun c C kf=>by
  by_cases ec:c=n
  ·subst ec;rw[kV]at kf;cases kf;rfl
  ·rw[aK _ _ ec]at kf;exact x.own c C kf
 refine⟨m',⟨⟨?_, ?_⟩,x.gl.mono hle,fun c hc=> ?_,oP,by have:=x.glo;omega⟩,.fV hn (fun _=>rfl) (fun q=>by unfold bc at q;omega) (fun _=>⟨av _,by omega⟩) hl hc,hle⟩
 ·intro c C kf
  by_cases ec:c=n
  ·subst ec
   rw[kV]at kf
   cases kf
   refine⟨_,cs,fr.1,fr.2,hn,hg,rfl,by show off+vs.length<=cs.size;omega,he,fun q=>(by cases q),fun k u hu=> ?_⟩
   obtain⟨u',qT,hr⟩:=hv.get k u hu
   exact⟨u',bk k u' qT,hr.mono hle⟩
  ·rw[aK _ _ ec]at kf
   obtain⟨d,qU,lo,hi,hm,dy,h1,h2,h3,h4,h5⟩:=x.wr.live c C kf
   refine⟨d,qU,lo,hi,hle _ _ hm,dy,h1,h2,h3,h4,fun k u hu=> ?_⟩
   obtain⟨u',qT,hr⟩:=h5 k u hu
   exact⟨u',qT,hr.mono hle⟩
 ·intro c c' C C' d d' kf aep ho
  rw[oP c C kf,oP c' C' aep]at ho
  simp at ho
 ·show(if c=n then _ else _)=none
  rw[if_neg (by omega)]
  exact x.fresh c (by omega)
def Eb(P:Program)(w:World)(R:TypeId->Value->Prop)(S:H->Nat->TypeId->Value->Prop):Prop:=∀t v,R t v->∀m h n,Laid P w m h n->∃m' h' n' v0,Laid P w m' h' n'∧VR m' v0 v∧S h' n' t v0∧Le m m'∧n<=n'∧∀b,b<n->h'.get b=h.get b
theorem ba.aeq{m m':Mp}(hl:Le m m'){l l':List Value}(h:ba m l l'):ba m' l l':=ba.mono hl h
theorem Ec{P:Program}{w:World}{R:TypeId->Value->Prop}{S:H->Nat->TypeId->Value->Prop}(hk:∀(h h':H) (n n':Nat),n<=n'->(∀b,b<n->h'.get b=h.get b)->∀t v,S h n t v->S h' n' t v)(ok:Eb P w R S):
 ∀(ts:List TypeId) (vs:List Value),dT R ts vs->∀m h n,Laid P w m h n->∃m' h' n' fm,Laid P w m' h' n'∧ba m' fm vs∧dT (S h' n') ts fm∧Le m m'∧n<=n'∧∀b,b<n->h'.get b=h.get b
 |[],[],_,m,h,n,x=>⟨m,h,n,[],x,.nil,trivial,Le.refl _,av _,fun _ _=>rfl⟩
 |t::ts,v::vs,hr,m,h,n,x=>by
  obtain⟨m1,h1,n1,v0,x1,hv,hs,l1,g1,k1⟩:=ok t v hr.1 m h n x
  obtain⟨m2,h2,n2,fm,x2,fE,hss,l2,g2,k2⟩:=Ec hk ok ts vs hr.2 m1 h1 n1 x1
  exact⟨m2,h2,n2,v0::fm,x2,.cons (hv.mono l2) fE,⟨hk _ _ _ _ g2 k2 _ _ hs,hss⟩,l1.trans l2,by omega,fun b hb=>(k2 b (by omega)).trans (k1 b hb)⟩
 |[],_::_,hr,_,_,_,_=>hr.elim
 |_::_,[],hr,_,_,_,_=>hr.elim
theorem aer{α:Type}{l r:List α}{k c:Nat}(h:k+c<=l.length):((l++r).drop k).take c=(l.drop k).take c:=by
 rw[List.drop_append_of_le_length (by omega),List.take_append_of_le_length (by simp;omega)]
theorem aes{P:Program}{w:World}{R:TypeId->Value->Prop}{S:H->Nat->TypeId->Value->Prop}(hk:∀(h h':H) (n n':Nat),n<=n'->(∀b,b<n->h'.get b=h.get b)->∀t v,S h n t v->S h' n' t v)(ok:Eb P w R S){ts:List TypeId}{a:Addr}:
 ∀(len:Nat),(∀i,i<len->∃es:List Value,(∀j u,es[j]? =some u->w.cell? (a.add (i*ts.length+j))=some u)∧dT R ts es)->∀m h n,Laid P w m h n->
  ∃m' h' n' fm vs,Laid P w m' h' n'∧ba m' fm vs∧vs.length=len*ts.length∧(∀i u,vs[i]? =some u->w.cell? (a.add i)=some u)∧(∀i,i<len->dT (S h' n') ts ((fm.drop (i*ts.length)).take ts.length))∧Le m m'∧n<=n'∧∀b,b<n->h'.get b=h.get b:=by
 intro len
 induction len with
 |zero=>intro _ m h n x;exact⟨m,h,n,[],[],x,.nil,by simp,fun i u hu=>by simp at hu,fun i hi=>by omega,Le.refl _,av _,fun _ _=>rfl⟩
 |succ len ih=>
  intro nQ m h n x
  obtain⟨m1,h1,n1,fm,vs,x1,hv,hl,hc,hs,l1,g1,k1⟩:=ih (fun i hi=>nQ i (by omega)) m h n x
  obtain⟨es,JZ,mf⟩:=nQ len (by omega)
  obtain⟨m2,h2,n2,Rz,x2,iq,eU,l2,g2,k2⟩:=Ec hk ok ts es mf m1 h1 n1 x1
  have qa:fm.length=len*ts.length:=by rw[hv.length,hl]
  have aet:Rz.length=ts.length:=eU.length.symm
  have aeu:es.length=ts.length:=mf.length.symm
  refine⟨m2,h2,n2,fm++Rz,vs++es,x2,(hv.aeq l2).append iq,by rw[List.length_append,hl,aeu,Ow],fun i u hu=> ?_,fun i hi=> ?_,l1.trans l2,by omega,fun b hb=>(k2 b (by omega)).trans (k1 b hb)⟩
  ·by_cases hi:i<vs.length
   ·rw[List.getElem?_append_left hi]at hu
    exact hc i u hu
   ·rw[List.getElem?_append_right (by omega)]at hu
    have:=JZ _ u hu
    rwa[show len*ts.length+(i-vs.length)=i by omega]at this
  ·by_cases bR:i<len
   ·have hle:i*ts.length+ts.length<=fm.length:=by
     rw[qa,<-Ow];exact Og _ bR
    rw[aer hle]
    exact(hs i bR).imp fun _ _ _ q=>hk _ _ _ _ g2 k2 _ _ q
   ·obtain rfl:i=len:=by omega
    rw[<-qa,List.drop_left,<-aet,List.take_length]
    exact eU
theorem aev{P:Program}{w:World}:∀(f:Nat),Eb P w (vD P w f) (fun h n=>eF P h n f):=by
 intro f
 induction f with
 |zero=>intro t v hr;exact hr.elim
 |succ f ih=>
  intro t v hr m h n x
  unfold vD at hr
  have same:∀v0,VR m v0 v->eF P h n (f+1) t v0->∃m' h' n' v0,Laid P w m' h' n'∧VR m' v0 v∧eF P h' n' (f+1) t v0∧Le m m'∧n<=n'∧∀b,b<n->h'.get b=h.get b:=
   fun v0 h1 h2=>⟨m,h,n,v0,x,h1,h2,Le.refl _,av _,fun _ _=>rfl⟩
  split at hr
  ·rename_i k hk
   obtain⟨z,rfl,hw⟩:=hr
   exact same _ (.int k z) (by unfold eF;rw[hk];exact⟨z,rfl,hw⟩)
  ·rename_i hk
   obtain⟨z,rfl,hw⟩:=hr
   exact same _ (.string z) (by unfold eF;rw[hk];exact⟨z,rfl,hw⟩)
  ·rename_i hk
   obtain⟨z,rfl⟩:=hr
   exact same _ (.bool z) (by unfold eF;rw[hk];exact⟨z,rfl⟩)
  ·rename_i e hk
   rcases hr with rfl|⟨a,len,cap,ts,rfl,hl,hm,eN,h0,fL,nQ⟩
   ·exact same _ (.mO 0 0 ⟨av _,by unfold bc;omega⟩) (by unfold eF;rw[hk];exact .inl ⟨none,rfl,fun _ _=>by simp⟩)
   ·by_cases yE:cap=0
    ·obtain rfl:len=0:=by omega
     subst yE
     exact same (.slice (some ⟨0,0,some 0⟩) 0 0) (.pX 0 0 0 a) (by unfold eF;rw[hk];exact .inl ⟨_,rfl,fun b o q=>by simp at q⟩)
    ·have first:∃b off,a=⟨b,off,none⟩∧∃cs e' fr,w.heap[b]? =some (.cells cs e' fr)∧off+cap*ts.length<=cs.size:=by
      obtain⟨es,JZ,mf⟩:=nQ (cap-1) (by omega)
      obtain⟨es',aew,aex⟩:=nQ 0 (by omega)
      have mn:=mf.length
      have fN:=aex.length
      have c0:=aew 0 es'[0] (by simp)
      obtain⟨b,off,spot⟩:=a
      have aey:spot=none:=by simpa[alL]using World.cell?_spot c0
      subst aey
      obtain⟨cs,e',fr,hg,_⟩:=Rt (by rw[nO]at c0;exact c0)
      refine⟨b,off,rfl,cs,e',fr,hg, ?_⟩
      have cl:=JZ (ts.length-1) es[ts.length-1] (aM (by omega))
      rw[nO,uM w _ _ hg]at cl
      have bf:=(Array.getElem?_eq_some_iff.1 cl).1
      have hmul:(cap-1)*ts.length+ts.length=cap*ts.length:=by
       rw[<-Ow];congr 1;omega
      omega
     obtain⟨b,off,rfl,cs,e',fr,hg,Ph⟩:=first
     obtain⟨m1,h1,n1,fm,vs,x1,hv,CT,Ea,hs,l1,g1,k1⟩:=aes (S:=fun h n=>eF P h n f) (fun _ _ _ _ hn hk _ _ q=>eF.aB hn hk q) ih len (fun i hi=>nQ i (by omega)) m h n x
     obtain⟨m2,x2,iq,l2⟩:=aeo (len:=len) (cap:=cap) (off:=off) x1 hg fL hv (fun i u hu=>by
      have:=Ea i u hu
      rwa[nO,uM w _ _ hg]at this) (by rw[hv.length,CT]) hl Ph
     have kk:∀c,c<n1->(h1.set n1 (some ⟨e,false,fm⟩)).get c=h1.get c:=fun c hc=>aK _ _ (by omega)
     refine⟨m2,_,n1+1,_,x2,iq, ?_,l1.trans l2,by omega,fun c hc=>(kk c (by omega)).trans (k1 c hc)⟩
     show eF P _ (n1+1) (f+1) t _
     unfold eF
     rw[hk]
     refine .inr ⟨n1,len,ts,fm,rfl,eN,h0,get_eq _ _ _,Nat.lt_succ_self n1,by rw[hv.length,CT],by omega,fun i hi=>(hs i hi).imp fun _ _ _ q=>eF.aB (Nat.le_succ n1) kk q⟩
  ·exact hr.elim
def om(P:Program)(t:TypeId):Bool:=match P.underlying t with
 |some (.struct _)|some (.array _ _)=>true
 |_=>false
def rG(P:Program)(w:World)(t:TypeId)(v:Value):Prop:=∃ts,jy P 8 t=some ts∧dT (vD P w 8) ts v.cells.toList∧(om P t=true->∃cs,v= .agg cs)∧(om P t=false->v.cells=#[v])
def m5(P:Program)(h:H)(n:Nat)(t:TypeId)(v:Value):Prop:=∃ts,jy P 8 t=some ts∧((om P t=true∧∃cs,v= .agg cs∧dT (eF P h n 8) ts cs.toList)∨(om P t=false∧dT (eF P h n 8) ts [v]))
def AH(P:Program)(t:TypeId):Bool:=match jy P 8 t with
 |some ts=>ts.all (D8 P 8)
 |none=>false
theorem J0{H0:Type}{enc:TypeId×Value->H0}{P:Program}{w:World}{held:Bool}{r:Reach}{b0:Nat}{t:TypeId}{v:Value}{d:DataW H0}{p:List MemPlace}(ho:AH P t=true)(hv:amq P w r b0 t v)(h:DataW.Trod enc P w 0 (fun _=>true) held t v d p):rG P w t v:=by
 unfold AH at ho
 split at ho
 ·rename_i ts eN
  rw[Oc]at ho
  obtain⟨m,hm⟩:=h
  have hc:=Ry (R:=vD P w 8) 8 t v.cells.toList ts m _ eN (fun t' mS u m x hx=>aem t' u m x (ho t' mS) hx) hm
  refine⟨ts,eN,hc.2,fun ha=> ?_,fun ha=> ?_⟩
  ·unfold om at ha
   split at ha
   ·rename_i fs hk
    obtain⟨cs,e,_⟩:=okWide_struct hk hv
    exact⟨cs,e⟩
   ·rename_i q e hk
    simp only[amq,hk]at hv
    obtain⟨cs,e,_⟩:=hv
    exact⟨cs,e⟩
   ·cases ha
  ·have Ea:P.cellsOf t=1∨True:= .inr trivial
   unfold jy at eN
   unfold om at ha
   split at eN
   ·rename_i k hk
    obtain⟨n,e⟩:=okWide_int hk hv
    rw[e];rfl
   ·rename_i hk
    obtain⟨n,e⟩:=okWide_string hk hv
    rw[e];rfl
   ·rename_i hk
    obtain⟨n,e⟩:=okWide_bool hk hv
    rw[e];rfl
   ·rename_i e hk
    obtain⟨a,l,c,e⟩:=okWide_slice hk hv
    rw[e];rfl
   ·rename_i fs hk
    rw[hk]at ha
    cases ha
   ·rename_i q e hk
    rw[hk]at ha
    cases ha
   ·cases eN
 ·cases ho
theorem aez{P:Program}{w:World}:Eb P w (rG P w) (m5 P):=by
 intro t v hr m h n x
 obtain⟨ts,eN,gR,ha,hb⟩:=hr
 obtain⟨m1,h1,n1,fm,x1,hv,hs,l1,g1,k1⟩:=Ec (S:=fun h n=>eF P h n 8) (fun _ _ _ _ hn hk _ _ q=>eF.aB hn hk q) (aev 8) ts _ gR m h n x
 cases hg:om P t with
 |true=>
  obtain⟨cs,rfl⟩:=ha hg
  exact⟨m1,h1,n1,.agg fm.toArray,x1,.agg hv,⟨ts,eN,.inl ⟨hg,fm.toArray,rfl,hs⟩⟩,l1,g1,k1⟩
 |false=>
  have hc:=hb hg
  rw[hc]at hv
  cases hv with
  |cons hv ht=>
   cases ht
   exact⟨m1,h1,n1,_,x1,hv,⟨ts,eN,.inr ⟨hg,hs⟩⟩,l1,g1,k1⟩
theorem m5.aB{P:Program}{h h':H}{n n':Nat}(hn:n<=n')(hk:∀b,b<n->h'.get b=h.get b){t:TypeId}{v:Value}(x:m5 P h n t v):m5 P h' n' t v:=by
 obtain⟨ts,eN,q⟩:=x
 rcases q with ⟨h1,cs,h2,h3⟩|⟨h1,h2⟩
 ·exact⟨ts,eN,.inl ⟨h1,cs,h2,h3.imp fun _ _ _ q=>eF.aB hn hk q⟩⟩
 ·exact⟨ts,eN,.inr ⟨h1,h2.imp fun _ _ _ q=>eF.aB hn hk q⟩⟩
theorem aeA {P:Program} (nX:sE P=true) (cH:qQ P KN=true) (mR:P.follows .mixedOrders=true) (kp:u6 P KN) (hd:mZ P=true) {w:World} {gt:Nat->Hint} {lf d:Nat} {f:FuncId} {ts:List TypeId} {vs:List Value} (ha:dT (rG P w) ts vs) {m0:Mp} {h0:H} (x0:Laid P w m0 h0 P.globals.size)
 (r:∀n h fm,P.globals.size<=n->(∀b,b<P.globals.size->h.get b=h0.get b)->dT (m5 P h n) ts fm->aj (fun _=>False) n (au P gt lf d f fm.toArray) h n fun v _ _=>v= .bool true):Calls P f vs.toArray w fun e w'=>e= .returned (.bool true)∧Below w.heap.size w w':=by
 obtain⟨m1,h1,n1,fm,x1,hv,hs,_,g1,k1⟩:=Ec (S:=m5 P) (fun _ _ _ _ hn hk _ _ q=>m5.aB hn hk q) aez ts vs ha m0 h0 _ x0
 exact aek nX cH mR kp hd x1 hv (r n1 h1 fm g1 k1 hs)
end Go.Proofs.YtdagfcflbphoiaaGreatDoor.Ev
namespace Go.Proofs.YtdagfcflbphoiaaGreatDoor.Ev
open Go Go.RowKit
end Go.Proofs.YtdagfcflbphoiaaGreatDoor.Ev
namespace Go.Proofs.YtdagfcflbphoiaaGreatDoor.Ev
open Go
set_option maxRecDepth 4000
theorem RA:type_of%(And.intro @vz (And.intro @Qh (And.intro @Qi (And.intro @yx (And.intro @yy (And.intro @Qg (And.intro @Qe (And.intro @JH (And.intro @yw (And.intro @Qf (And.intro @Re (And.intro @Rf (And.intro @tw (And.intro @get_eq (And.intro @aK (And.intro @Qj (And.intro @JI (And.intro @Qk (And.intro @Ql (And.intro @Qm (And.intro @rE (And.intro @Qn (And.intro @Qo (And.intro @Qp (And.intro @Qq (And.intro @Qr (And.intro @Qs (And.intro @Qt (And.intro @Qu (And.intro @Qv (And.intro @Qw (And.intro @yz (And.intro @JK (And.intro @Qx (And.intro @Qy (And.intro @Qz (And.intro @Az (And.intro @QA (And.intro @QB (And.intro @QC (And.intro @DP (And.intro @DQ (And.intro @QD (And.intro @QE (And.intro @QF (And.intro @QG (And.intro @QH (And.intro @QI (And.intro @QJ (And.intro @QL (And.intro @QM (And.intro @QN (And.intro @QO (And.intro @QP (And.intro @QR (And.intro @QS (And.intro @QT (And.intro @QU (And.intro @QW (And.intro @QX (And.intro @JM (And.intro @JN (And.intro @QY (And.intro @QZ (And.intro @DR (And.intro @DT (And.intro @DU (And.intro @DV (And.intro @Q3 (And.intro @Q4 (And.intro @Q6 (And.intro @Q7 (And.intro @Q8 (And.intro @Q9 (And.intro @Rc (And.intro @Rd (And.intro @Rg (And.intro @Rh (And.intro @Ri (And.intro @Rj (And.intro @Rk (@Rl)))))))))))))))))))))))))))))))))))))))))))))))))))))))))))))))))))))))))))))))))):=And.intro @vz (And.intro @Qh (And.intro @Qi (And.intro @yx (And.intro @yy (And.intro @Qg (And.intro @Qe (And.intro @JH (And.intro @yw (And.intro @Qf (And.intro @Re (And.intro @Rf (And.intro @tw (And.intro @get_eq (And.intro @aK (And.intro @Qj (And.intro @JI (And.intro @Qk (And.intro @Ql (And.intro @Qm (And.intro @rE (And.intro @Qn (And.intro @Qo (And.intro @Qp (And.intro @Qq (And.intro @Qr (And.intro @Qs (And.intro @Qt (And.intro @Qu (And.intro @Qv (And.intro @Qw (And.intro @yz (And.intro @JK (And.intro @Qx (And.intro @Qy (And.intro @Qz (And.intro @Az (And.intro @QA (And.intro @QB (And.intro @QC (And.intro @DP (And.intro @DQ (And.intro @QD (And.intro @QE (And.intro @QF (And.intro @QG (And.intro @QH (And.intro @QI (And.intro @QJ (And.intro @QL (And.intro @QM (And.intro @QN (And.intro @QO (And.intro @QP (And.intro @QR (And.intro @QS (And.intro @QT (And.intro @QU (And.intro @QW (And.intro @QX (And.intro @JM (And.intro @JN (And.intro @QY (And.intro @QZ (And.intro @DR (And.intro @DT (And.intro @DU (And.intro @DV (And.intro @Q3 (And.intro @Q4 (And.intro @Q6 (And.intro @Q7 (And.intro @Q8 (And.intro @Q9 (And.intro @Rc (And.intro @Rd (And.intro @Rg (And.intro @Rh (And.intro @Ri (And.intro @Rj (And.intro @Rk (@Rl)))))))))))))))))))))))))))))))))))))))))))))))))))))))))))))))))))))))))))))))))
theorem RC:type_of%(And.intro @List.getElem?_cons_zero.{0} (And.intro @List.getElem?_cons_succ.{0} (And.intro @List.set_cons_zero.{0} (And.intro @List.set_cons_succ.{0} (And.intro @List.length_cons.{0} (And.intro @List.length_nil.{0} (And.intro @mG (And.intro @amr (And.intro @iO (And.intro @mH (And.intro @decide_eq_true_eq (And.intro @decide_eq_false_iff_not (And.intro @true_and (And.intro @and_true (And.intro @if_true.{1} (And.intro @if_false.{1} (And.intro @true_or (And.intro @or_true (And.intro @sd (And.intro @ams (And.intro @false_and (And.intro @and_false (And.intro @gM (And.intro @iP (And.intro @beq_self_eq_true.{0} (And.intro @bne_self_eq_false.{0} (And.intro @decide_true (And.intro @decide_false (And.intro @amc (And.intro @N' (And.intro @Hm (@amt)))))))))))))))))))))))))))))))):=And.intro @List.getElem?_cons_zero.{0} (And.intro @List.getElem?_cons_succ.{0} (And.intro @List.set_cons_zero.{0} (And.intro @List.set_cons_succ.{0} (And.intro @List.length_cons.{0} (And.intro @List.length_nil.{0} (And.intro @mG (And.intro @amr (And.intro @iO (And.intro @mH (And.intro @decide_eq_true_eq (And.intro @decide_eq_false_iff_not (And.intro @true_and (And.intro @and_true (And.intro @if_true.{1} (And.intro @if_false.{1} (And.intro @true_or (And.intro @or_true (And.intro @sd (And.intro @ams (And.intro @false_and (And.intro @and_false (And.intro @gM (And.intro @iP (And.intro @beq_self_eq_true.{0} (And.intro @bne_self_eq_false.{0} (And.intro @decide_true (And.intro @decide_false (And.intro @amc (And.intro @N' (And.intro @Hm (@amt)))))))))))))))))))))))))))))))
end Go.Proofs.YtdagfcflbphoiaaGreatDoor.Ev
