import Derived.Test.YtcehhgppfahbkaaGreatDoorMaj
import Derived.Test.YtcehhgppfahbkaaGreatDoorMag
import Derived.Test.YtcehhgppfahbkaaGreatDoorMaf
import Derived.Test.YtcehhgppfahbkaaGreatDoorMad
import Derived.Test.YtcehhgppfahbkaaGreatDoorMai
open Nat renaming le_refl→ai, zero_le→bU, le_succ→cH, lt_succ_self→dK, lt_of_lt_of_le→eD, zero_add→fy, add_mul→fW, add_assoc→iA, add_zero→gX, sub_self→j8, pow_succ→lH, mod_eq_of_lt→lJ, mul_comm→mz, not_lt_zero→lL, pow_le_pow_right→oD, min_eq_left→r8, one_mul→r7, mod_lt→ux, lt_irrefl→sa, mul_le_mul_right→zv, add_comm→xt, mul_assoc→zE, sub_zero→adv, zero_lt_succ→aqd, lt_of_le_of_lt→aq6, lt_or_gt_of_ne→arj, min_eq_right→arz, lt_of_succ_lt_succ→arB
open List renaming getD_eq_getElem?_getD→aC, length_append→aG, getElem?_eq_getElem→aJ, range→aY, replicate→bD, append_assoc→bW, getElem_mem→cb, length_cons→ct, append_nil→cz, length_map→cu, length_take→cB, drop_zero→dx, map_append→dU, take_length→eh, length_drop→fp, take_succ_eq_append_getElem→fq, getElem?_map→fo, take_of_length_le→fG, map_cons→je, getElem?_eq_none→jM, length_range→j7, range_succ→mv, map_congr_left→mq, length→lK, all_eq_true→mu, length_singleton→nC, take_zero→nE, getElem?_append_right→oC, nil_append→pF, map_map→qA, mem_append→qB, drop→sb, map_replicate→zB, getElem?_range→Cu, mem_singleton→CA, sum_cons→HK, pairwise_singleton→adr, filter_append→aqS, pairwise_iff_getElem→OO, ext_getElem?→apI, getElem?_set→aqC, nodup_range→aqU, map_id→arq, getD_cons_zero→arA
open Int renaming lt_irrefl→bE, toNat_natCast→eg, natCast_nonneg→gY, toNat→Cw, ofNat_tdiv→HJ, ofNat_tmod→arx
open BitVec renaming ofInt→dR
open UInt8 renaming ofNat→dT, lt_irrefl→CB, lt_iff_toNat_lt→HI, toNat_ofNat_of_lt'→arC
open Bool renaming not_true→gE, not_false→gO, true_and→oA, false_and→zx, or_false→adk, or_true→ar_
open Prod renaming ext_iff→qF
open Option.some renaming inj→r3
open List.Perm renaming refl→uz
open Go.Value renaming agg→uw, bool→adD
open Decidable renaming byContradiction→zF
open Go.Lib renaming indexByte→Oa, bytesOf→ac7
open List.cons renaming inj→Ov
open Go.IntWalk renaming u32_in→Oz, u8_in→aqQ
open List.Pairwise renaming nil→OG
open ByteArray renaming size→aqj
set_option linter.unusedVariables false
set_option linter.unusedSimpArgs false
namespace Go.Proofs.YtcehhgppfahbkaaGreatDoor
open Go.RowKit
namespace Sp
open Pl
def iz(s:ByteArray)(L a b:Nat):Prop:=∀i,i<L->fO s (a+i)=fO s (b+i)
def kR(s:ByteArray)(L a b:Nat):Prop:=∃j,j<L∧(∀i,i<j->fO s (a+i)=fO s (b+i))∧fO s (a+j)<fO s (b+j)
def RL(s:ByteArray)(L a b:Nat):Prop:=kR s L a b∨iz s L a b∧a<b
def nz(s:ByteArray)(L:Nat):Prop:=∀a b,a<b->b<s.size->¬iz s L a b
theorem ab8(s:ByteArray)(a i:Nat):fO s (a %s.size+i)=fO s (a+i):=by unfold fO;rw[Nat.mod_add_mod]
theorem G5(s:ByteArray)(a i:Nat):fO s (a+i %s.size)=fO s (a+i):=by unfold fO;rw[Nat.add_mod_mod]
theorem anY(s:ByteArray)(L a b:Nat):iz s L (a %s.size) (b %s.size)↔iz s L a b:=by unfold iz;simp only[ab8]
theorem anZ(s:ByteArray)(L a b:Nat):kR s L (a %s.size) (b %s.size)↔kR s L a b:=by unfold kR;simp only[ab8]
theorem NP{s:ByteArray}{L a b:Nat}(h:kR s L a b):¬iz s L a b:=by obtain⟨j,e,f,c⟩:=h;intro d;rw[d j e]at c;exact CB _ c
theorem G6{s:ByteArray}{L a b:Nat}(h:iz s L a b):iz s L b a:=fun i c=>(h i c).symm
theorem ab9(s:ByteArray)(a b:Nat):∀L,kR s L a b∨iz s L a b∨kR s L b a
 |0=> .inr (.inl fun i d=>absurd d (lL i))
 |L+1=>by
  rcases ab9 s a b L with ⟨j,e,c⟩|h|⟨j,e,c⟩
  ·exact .inl ⟨j,jO,c⟩
  ·by_cases e:fO s (a+L)<fO s (b+L)
   ·exact .inl ⟨L,jO,h,e⟩
   ·by_cases c:fO s (b+L)<fO s (a+L)
    ·exact .inr (.inr ⟨L,jO,fun i d=>(h i d).symm,c⟩)
    ·refine .inr (.inl fun i d=> ?_);by_cases f:i<L
     ·exact h i f
     ·obtain rfl:i=L:=jO;exact UInt8.le_antisymm (UInt8.not_lt.1 c) (UInt8.not_lt.1 e)
  ·exact .inr (.inr ⟨j,jO,c⟩)
theorem an0(s:ByteArray)(r a b:Nat):kR s (2*r) a b↔kR s r a b∨iz s r a b∧kR s r (a+r) (b+r):=by
 constructor
 ·rintro⟨j,g,d,c⟩;by_cases e:j<r
  ·exact .inl ⟨j,e,d,c⟩
  ·refine .inr ⟨fun i f=>d i jO,j-r,jO,fun i f=> ?_, ?_⟩
   ·rw[iA,iA];exact d _ jO
   ·rw[iA,iA,show r+(j-r)=j by omega];exact c
 ·rintro(⟨j,g,d,c⟩|⟨h,j,g,d,c⟩)
  ·exact⟨j,jO,d,c⟩
  ·refine⟨r+j,jO,fun i f=> ?_, ?_⟩
   ·by_cases e:i<r
    ·exact h i e
    ·have:=d (i-r) jO;rw[iA,iA,show r+(i-r)=i by omega]at this;exact this
   ·rw[iA,iA]at c;exact c
theorem an1(s:ByteArray)(r a b:Nat):iz s (2*r) a b↔iz s r a b∧iz s r (a+r) (b+r):=by
 constructor
 ·intro h;refine⟨fun i c=>h i jO,fun i c=> ?_⟩;rw[iA,iA];exact h _ jO
 ·rintro⟨h,k⟩ i c;by_cases d:i<r
  ·exact h i d
  ·have:=k (i-r) jO;rw[iA,iA,show r+(i-r)=i by omega]at this;exact this
theorem ab'{s:ByteArray}(c:0<s.size){L a b:Nat}(e:s.size<=L):iz s L a b↔iz s s.size a b:=by
 constructor
 ·intro h i d;exact h i jO
 ·intro h i d;rw[<-G5 s a i,<-G5 s b i];exact h _ (ux _ c)
theorem an2{s:ByteArray}(e:0<s.size){L a b:Nat}(h:kR s L a b):kR s s.size a b:=by
 obtain⟨j,l,d,c⟩:=h;by_cases g:j<s.size
 ·exact⟨j,g,d,c⟩
 ·exfalso;have f:iz s s.size a b:=fun i k=>d i jO;rw[<-G5 s a j,<-G5 s b j,f _ (ux _ e)]at c;exact CB _ c
structure rT (k:Nat->Nat×Nat) (o u:Nat->Nat) (i last:Nat):Prop where
 lt:∀p,p<i->∀q,q<i->(u (o p)<u (o q)↔iw (k (o q)) (k (o p))=true)
 le:∀p,p<i->u (o p)<=last
 top:0<i->u (o (i-1))=last∧last+1<=i
 all:0<i->(last+1=i↔∀p q,p<q->q<i->k (o p)≠k (o q))
theorem rT.next {k:Nat->Nat×Nat} {o u z:Nat->Nat} {n i last c:Nat} (h:rT k o u i last) (A:i<n) (inj:∀p q,p<q->q<n->o p≠o q) (pw:∀p q,p<q->q<n->iw (k (o q)) (k (o p))=true∨k (o p)=k (o q))
 (j:c=if i=0 then 0 else if iw (k (o i)) (k (o (i-1)))=true then last+1 else last) (E:∀v,z v=if v=o i then c else u v):rT k o z (i+1) c:=by
 have self:∀v,iw (k v) (k v)=false:=fun v=>by rw[NL];exact .inr rfl
 have t:∀p,p<i->z (o p)=u (o p):=fun p d=>by rw[E,if_neg (inj p i d A)]
 have s:z (o i)=c:=by rw[E,if_pos rfl]
 by_cases F:i=0
 ·subst F;rw[if_pos rfl]at j;subst j;have D:∀p,p<0+1->p=0:=fun p d=>by omega
  refine⟨fun p d q w=> ?_,fun p d=> ?_,fun _=>⟨s,jO⟩,fun _=>⟨fun _ p q l w=>by omega,fun _=>by omega⟩⟩
  ·rw[D p d,D q w,self];simp
  ·rw[D p d,s];exact ai _
 ·rw[if_neg F]at j;have f:=h.top jO
  have r:∀p,p<i->(u (o p)<c↔iw (k (o i)) (k (o p))=true)∧u (o p)<=c:=by
   intro p d;have B:=h.le p d;have G:=h.lt p d (i-1) jO
   have a:iw (k (o (i-1))) (k (o p))=true∨k (o p)=k (o (i-1)):=by
    by_cases e:p=i-1
    ·subst e;exact .inr rfl
    ·exact pw p (i-1) jO jO
   by_cases g:iw (k (o i)) (k (o (i-1)))=true
   ·rw[if_pos g]at j;refine⟨⟨fun _=> ?_,fun _=>by omega⟩,jO⟩;rw[py]at g a⊢;rw[qF]at a;omega
   ·rw[if_neg g]at j;have C:=(pw (i-1) i jO A).resolve_left g;rw[j,<-f.1,G,C];exact⟨Iff.rfl,by rw[f.1];exact B⟩
  refine⟨fun p d q w=> ?_,fun p d=> ?_,fun _=>⟨s, ?_⟩,fun _=> ?_⟩
  ·by_cases a:p=i
   ·by_cases b:q=i
    ·subst a b;rw[self];simp
    ·subst a;rw[t q jO,s];have:=(r q jO).2;constructor
     ·intro m;omega
     ·intro m;have y:=pw q p jO A;rw[py]at m y;rw[qF]at y;omega
   ·by_cases b:q=i
    ·subst b;rw[t p jO,s];exact(r p jO).1
    ·rw[t p jO,t q jO];exact h.lt p jO q jO
  ·by_cases a:p=i
   ·subst a;rw[s];exact ai _
   ·rw[t p jO];exact(r p jO).2
  ·have:c<=last+1:=by rw[j];split<;>omega
   omega
  ·have x:=h.all jO;by_cases g:iw (k (o i)) (k (o (i-1)))=true
   ·rw[if_pos g]at j;rw[j,show last+1+1=i+1↔last+1=i by omega,x];constructor
    ·intro m p q l w;by_cases b:q=i
     ·subst b;intro e
      have y:iw (k (o (q-1))) (k (o p))=true∨k (o p)=k (o (q-1)):=by
       by_cases e:p=q-1
       ·subst e;exact .inr rfl
       ·exact pw p (q-1) jO jO
      rw[<-e]at g;rw[py]at g y;rw[qF]at y;omega
     ·exact m p q l jO
    ·intro m p q l w;exact m p q l jO
   ·rw[if_neg g]at j;have C:=(pw (i-1) i jO A).resolve_left g;constructor
    ·intro m;omega
    ·intro m;exact absurd C (m (i-1) i jO jO)
theorem an3(l:List Nat)(i v j:Nat)(a:i<l.length):(l.set i v).getD j 0=if j=i then v else l.getD j 0:=by
 rw[aC,aqC];by_cases h:j=i
 ·subst h;simp[a]
 ·rw[if_neg (fun e=>h e.symm),if_neg h,aC]
structure G7 (k:Nat->Nat×Nat) (n:Nat) (ord:List Nat):Prop where
 len:ord.length=n
 lt:∀i,i<n->ord.getD i 0<n
 inj:∀p q,p<q->q<n->ord.getD p 0≠ord.getD q 0
 pw:∀p q,p<q->q<n->iw (k (ord.getD q 0)) (k (ord.getD p 0))=true∨k (ord.getD p 0)=k (ord.getD q 0)
theorem ab_(s:ByteArray){k:Nat->Nat×Nat}{n:Nat}{x:SS}(e:∀a,k a=fS s x.reach x.cls a)(b:G7 k n x.ord)(d:x.bJ.length=n)(c:x.bg<n)(h:rT k (fun p=>x.ord.getD p 0) (fun v=>x.bJ.getD v 0) x.bg x.last):
 rT k (fun p=>x.ord.getD p 0) (fun v=>(bQ s x).bJ.getD v 0) (x.bg+1) (bQ s x).last∧(bQ s x).bJ.length=n:=by
 refine⟨h.next c b.inj b.pw ?_ (fun v=> ?_),by simp[bQ,d]⟩
 ·unfold bQ nq rP;simp only[<-e]
 ·exact an3 _ _ _ _ (by rw[d];exact b.lt _ c)
theorem aca(s:ByteArray){x:SS}(c:x.hi=0)(a:x.bq=[]):ed s x={gU s x with steps:=x.steps+1}:=by
 have b:cL x=x:=by unfold cL;rw[a]
 unfold ed;rw[b];unfold nu;rw[if_neg jO,a]
theorem acb(s:ByteArray){k:Nat->Nat×Nat}{n:Nat}:∀(j:Nat) (x:SS),x.bq=[]->x.hi=0->x.bg+j<n->(∀a,k a=fS s x.reach x.cls a)->G7 k n x.ord->x.bJ.length=n->rT k (fun p=>x.ord.getD p 0) (fun v=>x.bJ.getD v 0) x.bg x.last->
 ∃bJ last,bJ.length=n∧rT k (fun p=>x.ord.getD p 0) (fun v=>bJ.getD v 0) (x.bg+j) last∧cY s j x={x with bJ:=bJ,last:=last,bg:=x.bg+j,steps:=x.steps+j}
 |0,x,_,_,_,_,_,c,h=>⟨x.bJ,x.last,c,h,rfl⟩
 |j+1,x,d,g,q,f,b,c,h=>by
  obtain⟨o,m⟩:=ab_ s f b c jO h
  have l:ed s x={bQ s x with steps:=x.steps+1}:=by rw[aca s g d];unfold gU;rw[if_neg (by rw[b.len];simp only[bQ];omega)]
  obtain⟨bJ,last,q1,q2,i⟩:=acb s j {bQ s x with steps:=x.steps+1} d g (by simp only[bQ];omega) f b m o;refine⟨bJ,last,q1, ?_, ?_⟩
  ·have e:(bQ s x).bg+j=x.bg+(j+1):=by simp only[bQ];omega
   exact e▸q2
  ·show cY s j (ed s x)=_;rw[l,i];simp[bQ,iA,xt,Nat.add_left_comm]
structure ze (s:ByteArray) (x:SS):Prop where
 n2:2<=s.size
 bq:x.bq=[(0,0,s.size)]
 hi:x.hi=0
 bg:x.bg=0
 done:x.done=false
 perm:x.ord.Perm (aY s.size)
 al:x.bJ.length=s.size
 cl:x.cls.length=s.size
 cls:x.reach≠0->∀a b,a<s.size->b<s.size->(x.cls.getD a 0<x.cls.getD b 0↔kR s x.reach a b)
 old:x.ord.Pairwise (fun a b=>iz s x.reach a b->a<b)
def iP(x:SS):Nat:=max 1 (2*x.reach)
theorem an4{s:ByteArray}{x:SS}(h:ze s x)(a b:Nat)(k:a<s.size)(g:b<s.size):
 (iw (fS s x.reach x.cls b) (fS s x.reach x.cls a)=true↔kR s (iP x) a b)∧(fS s x.reach x.cls a=fS s x.reach x.cls b↔iz s (iP x) a b):=by
 have d:∀c,c<s.size->fO s (c+0)=s.data.toList.getD c 0:=fun c f=>by unfold fO;rw[gX,lJ f]
 unfold iP fS;by_cases o:x.reach=0
 ·rw[o];simp only[if_pos];rw[py,qF];constructor
  ·constructor
   ·intro l;refine⟨0,jO,fun i z=>by omega, ?_⟩;rw[d a k,d b g,HI];simpa using l
   ·rintro⟨j,l,_,r⟩;obtain rfl:j=0:=jO;rw[d a k,d b g,HI]at r;exact .inl r
  ·constructor
   ·rintro⟨l,_⟩ i z;obtain rfl:i=0:=jO;rw[d a k,d b g];exact UInt8.toNat_inj.1 l
   ·intro l;have:=l 0 jO;rw[d a k,d b g]at this;exact⟨by rw[this],rfl⟩
 ·rw[if_neg o,if_neg o,show max 1 (2*x.reach)=2*x.reach by omega];have f:=h.cls o;have n:∀c,(c+x.reach)%s.size<s.size:=fun c=>ux _ jO
  have m:∀u v,u<s.size->v<s.size->(x.cls.getD u 0=x.cls.getD v 0↔iz s x.reach u v):=by
   intro u v q p;have y:=f u v q p;have w:=f v u p q;constructor
   ·intro e;rcases ab9 s u v x.reach with t|t|t
    ·have:=y.2 t;omega
    ·exact t
    ·have:=w.2 t;omega
   ·intro e;have B:¬x.cls.getD u 0<x.cls.getD v 0:=fun t=>NP (y.1 t) e;have A:¬x.cls.getD v 0<x.cls.getD u 0:=fun t=>NP (w.1 t) (G6 e);omega
  rw[py,qF,an0,an1];simp only;rw[f a b k g,m a b k g,f _ _ (n a) (n b),m _ _ (n a) (n b),anZ,anY];exact⟨Iff.rfl,Iff.rfl⟩
theorem an5(s:ByteArray)(x:SS)(h:x.done=true):(ed s x).done=true:=by
 have a:(cL x).done=true:=by rw[NK];exact h
 have c:∀y:SS,y.done=true->(iO y).done=true:=fun y b=>by unfold iO;split<;>simp[b]
 have d:∀(y:SS) (e:Bool),y.done=true->(iy y e).done=true:=fun y e b=>by unfold iy;cases e<;>simp[b]
 unfold ed;show(nu s (cL x)).done=true;generalize cL x=y at*;unfold nu;split
 ·split
  ·exact a
  ·unfold aq7;split<;>exact d _ _ a
 ·split
  ·unfold gU;split
   ·exact c _ a
   ·exact a
  ·unfold mf;split
   ·exact a
   ·split<;>exact a
theorem acd(s:ByteArray):∀j (x:SS),x.done=true->(cY s j x).done=true
 |0,_,h=>h
 |j+1,x,h=>acd s j _ (an5 s x h)
theorem an6(s:ByteArray){j m:Nat}{x:SS}(h:(cY s m x).done=false)(a:j<=m):(cY s j x).done=false:=by
 obtain⟨d,rfl⟩:∃d,m=j+d:=⟨m-j,jO⟩;rw[ny]at h;cases hd:(cY s j x).done with
 |false=>rfl
 |true=>rw[acd s d _ hd]at h;cases h
theorem ace{n:Nat}{l:List Nat}(h:l.Perm (aY n)):l.length=n∧(∀i,i<n->l.getD i 0<n)∧(∀p q,p<q->q<n->l.getD p 0≠l.getD q 0):=by
 have f:l.length=n:=by have:=h.length_eq;simpa using this
 have c:∀i (b:i<n),l.getD i 0=l[i]'jO:=fun i b=>by rw[aC,aJ jO];rfl
 refine⟨f,fun i b=> ?_,fun p q a d=> ?_⟩
 ·rw[c i b];have:=h.mem_iff.1 (cb (l:=l) (n:=i) jO);simpa using this
 ·have e:l.Nodup:=h.nodup_iff.2 aqU;rw[c p jO,c q d];have:=OO.1 e p q jO jO a;exact this
theorem G8{n:Nat}{l:List Nat}(h:l.Perm (aY n))(a:Nat)(d:a<n):∃p,p<n∧l.getD p 0=a:=by
 have c:a∈l:=h.mem_iff.2 (by simpa using d);obtain⟨p,b,e⟩:=List.mem_iff_getElem.1 c;have f:l.length=n:=by have:=h.length_eq;simpa using this
 exact⟨p,jO,by rw[aC,aJ b];exact e⟩
theorem G9{R S:Nat->Nat->Prop}{n:Nat}{l:List Nat}(h:l.Perm (aY n))(g:l.Pairwise R)(k:∀a b,a<n->b<n->R a b->S a b):l.Pairwise S:=by
 have f:∀a∈l,a<n:=fun a m=>by simpa using h.mem_iff.1 m
 rw[OO]at*;intro i j c e d;exact k _ _ (f _ (cb c)) (f _ (cb e)) (g i j c e d)
theorem NQ{s:ByteArray}{x:SS}(h:ze s x):
 (∀j,j<dr s.size+s.size->(cY s j x).done=false)∧
 ((nz s (iP x)∨s.size<=x.reach)->(cY s (dr s.size+s.size) x).done=true∧(cY s (dr s.size+s.size) x).ord.Perm (aY s.size)∧(cY s (dr s.size+s.size) x).ord.Pairwise (RL s (iP x)))∧
 (¬(nz s (iP x)∨s.size<=x.reach)->ze s (cY s (dr s.size+s.size) x)∧(cY s (dr s.size+s.size) x).reach=iP x):=by
 have n2:=h.n2;obtain⟨hl,v7,_⟩:=ace h.perm;obtain⟨k,hk⟩:∃k:Nat->Nat×Nat,∀a,k a=fS s x.reach x.cls a:=⟨_,fun _=>rfl⟩;have f:∀a b,a<s.size->b<s.size->(iw (k b) (k a)=true↔kR s (iP x) a b)∧(k a=k b↔iz s (iP x) a b):=fun a b D t=>by rw[hk,hk];exact an4 h a b D t
 have u6:x.ord.Pairwise (fun a b=>k a=k b->a<b):=by refine G9 h.perm h.old fun a b D t h1 B=>h1 ?_;rw[(f a b D t).2]at B;intro i hi;exact B i (by unfold iP;omega)
 obtain⟨ord,bJ,lo,mid,laid,one,two,o1,o2,o3,o4⟩:=NO s k s.size s.size (ai _) x [] x.ord [] [] hl hk jS (by rw[h.al,hl]) (by rw[h.bq];simp) h.hi u6;have c:ord.Perm (aY s.size):=o1.trans h.perm;obtain⟨ol,Q,I⟩:=ace c;have hg:∀i (hi:i<s.size),ord.getD i 0=ord[i]'jO:=fun i hi=>by rw[aC,aJ jO];rfl
 have u3:ord.Pairwise (RL s (iP x)):=by refine G9 c o2 fun a b D t h1=> ?_;unfold Rk at h1;rw[(f a b D t).1,(f a b D t).2]at h1;exact h1
 have u4:G7 k s.size ord:=⟨ol,Q,I,fun p q T J=>by
  have:=OO.1 o2 p q jO jO T;rw[hg p jO,hg q J];rcases this with h1|h1
  ·exact .inl h1
  ·exact .inr h1.1⟩
 simp only[pF,cz]at o4;obtain⟨y,r⟩:∃y:SS,y={x with ord:=ord,bJ:=bJ,bq:=[],lo:=lo,mid:=mid,hi:=0,laid:=laid,one:=one,two:=two,steps:=x.steps+dr s.size}:=⟨_,rfl⟩;rw[<-r]at o4
 have Z:rT k (fun p=>y.ord.getD p 0) (fun v=>y.bJ.getD v 0) y.bg y.last:=by
  have:y.bg=0:=by rw[r];exact h.bg
  rw[this];exact⟨fun p o=>absurd o (lL _),fun p o=>absurd o (lL _),fun o=>absurd o (lL _),fun o=>absurd o (lL _)⟩
 have yr:y.bg=0:=by rw[r];exact h.bg
 have Y:y.reach=x.reach:=by rw[r]
 have u0:y.cls=x.cls:=by rw[r]
 have w:y.ord=ord:=by rw[r]
 have u1:y.bJ.length=s.size:=by rw[r];show bJ.length=_;rw[o3,h.al]
 have yk:∀a,k a=fS s y.reach y.cls a:=by rw[Y,u0];exact hk
 have v1:G7 k s.size y.ord:=w▸u4;have P:y.done=false:=by rw[r];exact h.done
 obtain⟨N,A,q1,q2,q3⟩:=acb s (s.size-1) y (by rw[r]) (by rw[r]) jO yk v1 u1 Z;obtain⟨z,C⟩:∃z:SS,z={y with bJ:=N,last:=A,bg:=y.bg+(s.size-1),steps:=y.steps+(s.size-1)}:=⟨_,rfl⟩;rw[<-C]at q3;have zr:z.bg=s.size-1:=by rw[C];simp only[yr];omega
 have d:z.ord=ord:=by rw[C];exact w
 have l:z.reach=x.reach:=by rw[C];exact Y
 have F:z.cls=x.cls:=by rw[C];exact u0
 have G:z.bJ=N:=by rw[C]
 have O:z.last=A:=by rw[C]
 have E:z.bq=[]:=by rw[C,r]
 have X:z.hi=0:=by rw[C,r]
 have u:z.done=false:=by rw[C];exact P
 have zk:∀a,k a=fS s z.reach z.cls a:=by rw[l,F];exact hk
 have K:cY s (dr s.size+(s.size-1)) x=z:=by rw[ny,o4,q3]
 have u7:cY s (dr s.size+s.size) x=ed s z:=by rw[show dr s.size+s.size=dr s.size+(s.size-1)+1 by omega,ny,K];rfl
 have W:rT k (fun p=>z.ord.getD p 0) (fun v=>z.bJ.getD v 0) z.bg z.last:=by rw[d,G,zr,O];rw[w,yr,fy]at q2;exact q2
 obtain⟨c1,c2⟩:=ab_ s (n:=s.size) zk (d▸u4) (by rw[G];exact q1) jO W
 have R:ed s z={iO (bQ s z)with steps:=z.steps+1}:=by rw[aca s X E];unfold gU;rw[if_pos (by simp only[bQ];rw[d,ol,zr];omega)]
 have g:(bQ s z).ord.length=s.size:=by simp only[bQ];rw[d,ol]
 have e:(bQ s z).reach=x.reach:=l;rw[show z.bg+1=s.size by omega,d]at c1
 have u9:∀a b,a<s.size->b<s.size->((bQ s z).bJ.getD a 0<(bQ s z).bJ.getD b 0↔kR s (iP x) a b):=by intro a b D t;obtain⟨p,o,rfl⟩:=G8 c a D;obtain⟨q,J,rfl⟩:=G8 c b t;have:=c1.lt p o q J;rw[this,(f _ _ D t).1]
 have L:(bQ s z).last+1=s.size↔nz s (iP x):=by
  rw[c1.all jO];constructor
  ·intro h1 a b v8 t he;obtain⟨p,o,ea⟩:=G8 c a jO;obtain⟨q,J,eb⟩:=G8 c b t;have U:p≠q:=by rintro rfl;omega
   have B:=(f a b jO t).2.2 he;rw[<-ea,<-eb]at B;rcases arj U with h3|h3
   ·exact h1 p q h3 J B
   ·exact h1 q p h3 o B.symm
  ·intro h1 p q T J he;have o:=Q p jO;have u5:=Q q J;have U:=I p q T J;have B:=(f _ _ o u5).2.1 he;rcases arj U with h3|h3
   ·exact h1 _ _ h3 u5 B
   ·exact h1 _ _ h3 o (G6 B)
 rw[u7,R];refine⟨fun j hj=>an6 s (m:=dr s.size+(s.size-1)) (by rw[K];exact u) jO,fun hd=> ?_,fun hd=> ?_⟩
 ·have:iO (bQ s z)={bQ s z with cls:=(bQ s z).bJ,bJ:=(bQ s z).cls,bg:=0,done:=true}:=by unfold iO;rw[if_pos (by rw[g,e,L];exact hd)]
  rw[this];exact⟨rfl,by show z.ord.Perm _;rw[d];exact c,by show z.ord.Pairwise _;rw[d];exact u3⟩
 ·have:iO (bQ s z)={bQ s z with cls:=(bQ s z).bJ,bJ:=(bQ s z).cls,bg:=0,reach:=max 1 (2*x.reach),bq:=[(0,0,s.size)]}:=by unfold iO;rw[if_neg (by rw[g,e,L];exact hd),g,e];show _=_;simp only[bQ,E]
  rw[this];refine⟨⟨n2,rfl,X,rfl,u,by show z.ord.Perm _;rw[d];exact c, ?_,c2,fun _=>u9, ?_⟩,rfl⟩
  ·show z.cls.length=_;rw[F];exact h.cl
  ·show z.ord.Pairwise _;rw[d];refine u3.imp fun{a b} h1 B=> ?_;rcases h1 with h1|h1
   ·exact absurd B (NP h1)
   ·exact h1.2
end Sp
end Go.Proofs.YtcehhgppfahbkaaGreatDoor
namespace Go.Proofs.YtcehhgppfahbkaaGreatDoor
open Go.RowKit
namespace Sp
open Pl
def G'(s:ByteArray)(L a b:Nat):Bool:=(aY L).all fun i=>fO s (a+i)==fO s (b+i)
def zf(s:ByteArray)(L:Nat):Bool:=(aY s.size).all fun i=>(aY i).all fun k=> !(G' s L i k)
theorem acf(s:ByteArray)(L a b:Nat):G' s L a b=true↔iz s L a b:=by unfold G' iz;rw[mu];simp
theorem NS(s:ByteArray)(L:Nat):zf s L=true↔nz s L:=by
 unfold zf nz;rw[mu];constructor
 ·intro h a b e d c;have g:=h b (by simpa using d);rw[mu]at g;have f:=g a (by simpa using e);have j:=(acf s L b a).2 (G6 c);rw[j]at f;cases f
 ·intro h b d;rw[mu];intro a i;cases c:G' s L b a with
  |false=>rfl
  |true=>exact absurd (G6 ((acf s L b a).1 c)) (h a b (by simpa using i) (by simpa using d))
theorem an7{s:ByteArray}(a:0<s.size)(L:Nat):nz s (min L s.size)↔nz s L:=by
 by_cases h:L<=s.size
 ·rw[r8 h]
 ·rw[arz jO];unfold nz;simp only[ab' a (show s.size<=L by omega)]
def B6(s:ByteArray)(a:Nat):Nat->Nat->Nat
 |0,_=>0
 |f+1,r=>if s.size<=r||zf s (min (2*r) s.size)then a else a+B6 s a f (2*r)
def fc(s:ByteArray):Nat:=if s.size<2 then 0 else if zf s 1 then dr s.size+s.size else dr s.size+s.size+B6 s (dr s.size+s.size) 30 1
structure Fin (s:ByteArray) (x:SS) (T:Nat):Prop where
 before:∀j,j<T->(cY s j x).done=false
 after:(cY s T x).done=true
 perm:(cY s T x).ord.Perm (aY s.size)
 sorted:(cY s T x).ord.Pairwise (RL s s.size)
theorem an8{s:ByteArray}(c:0<s.size){L a b:Nat}(e:a<s.size)(d:b<s.size)(h:RL s L a b)(hL:nz s L∨s.size<=L):RL s s.size a b:=by
 rcases h with h|h
 ·exact .inl (an2 c h)
 ·rcases hL with hL|hL
  ·exact absurd h.1 (hL a b h.2 d)
  ·exact .inr ⟨(ab' c hL).1 h.1,h.2⟩
theorem Fin.acg{s:ByteArray}{x:SS}(h:ze s x)(hd:nz s (iP x)∨s.size<=x.reach):Fin s x (dr s.size+s.size):=by obtain⟨e,d,_⟩:=NQ h;obtain⟨q1,q2,c⟩:=d hd;have j:=h.n2;refine⟨e,q1,q2,G9 q2 c fun a b g f i=>an8 jO g f i (hd.imp id fun h=> ?_)⟩;unfold iP;omega
theorem Fin.then{s:ByteArray}{x:SS}{c T:Nat}(h:Fin s (cY s c x) T)(a:∀j,j<c->(cY s j x).done=false):Fin s x (c+T):=by
 refine⟨fun j d=> ?_,by rw[ny];exact h.after,by rw[ny];exact h.perm,by rw[ny];exact h.sorted⟩;by_cases b:j<c
 ·exact a j b
 ·rw[show j=c+(j-c) by omega,ny];exact h.before _ jO
theorem ach{s:ByteArray}:∀(f:Nat) (x:SS),ze s x->1<=x.reach->s.size<=x.reach*2^f->Fin s x (B6 s (dr s.size+s.size) (f+1) x.reach)
 |f,x,h,j,a=>by
  have i:=h.n2;have b:iP x=2*x.reach:=by unfold iP;omega
  have c:(decide (s.size<=x.reach)||zf s (min (2*x.reach) s.size))=true↔(nz s (iP x)∨s.size<=x.reach):=by rw[Bool.or_eq_true,decide_eq_true_iff,NS,an7 jO,b];exact Or.comm
  by_cases hd:nz s (iP x)∨s.size<=x.reach
  ·rw[B6,if_pos (c.2 hd)];exact Fin.acg h hd
  ·rw[B6,if_neg (fun e=>hd (c.1 e))];obtain⟨g,_,d⟩:=NQ h;obtain⟨q1,q2⟩:=d hd
   match f with
   |0=>simp at a;exact absurd (.inr a) hd
   |f+1=>have:=ach f _ q1 (by rw[q2,b];omega) (by rw[q2,b];rw[lH]at a;rw[mz 2 x.reach,zE,mz 2];exact a);rw[q2,b]at this;exact this.then g
theorem an9(n:Nat)(R:Nat->Nat->Prop):(aY n).Pairwise (fun a b=>R a b->a<b):=by rw[OO];intro i j e d c _;simpa using c
theorem an'(s:ByteArray)(h:2<=s.size):ze s (fD s.size):=
 ⟨h,rfl,rfl,rfl,by show decide (s.size<2)=false;simp;omega,uz _,by simp[fD],by simp[fD],fun h=>absurd rfl h,an9 _ _⟩
theorem whole(s:ByteArray)(h:2<=s.size)(h2:s.size<=536870912):Fin s (fD s.size) (fc s):=by
 have c:=an' s h;have b:iP (fD s.size)=1:=rfl;unfold fc;rw[if_neg jO];by_cases hd:zf s 1=true
 ·rw[if_pos hd];exact Fin.acg c (.inl (by rw[b];exact(NS s 1).1 hd))
 ·rw[if_neg hd]
  have a:¬(nz s (iP (fD s.size))∨s.size<=(fD s.size).reach):=by
   rintro(h1|h1)
   ·rw[b,<-NS]at h1;exact hd h1
   ·have h1:s.size<=0:=h1;omega
  obtain⟨e,_,d⟩:=NQ c;obtain⟨q1,q2⟩:=d a;rw[b]at q2;have:=ach 29 _ q1 (by rw[q2];exact ai _) (by rw[q2];omega);rw[q2]at this;exact this.then e
theorem aci:∀(j:Nat) (u v:List UInt8),j<u.length->j<v.length->(∀i,i<j->u.getD i 0=v.getD i 0)->u.getD j 0<v.getD j 0->cmpL u v<0
 |_,[],_,h,_,_,_=>by simp at h
 |_,_::_,[],_,h,_,_=>by simp at h
 |0,x::b,y::a,_,_,_,h=>by simp only[arA]at h;simp[cmpL,h]
 |j+1,x::b,y::a,g,f,c,h=>by have d:=c 0 jO;simp only[arA]at d;subst d;have e:=aci j b a (by simpa using g) (by simpa using f) (fun i k=>by simpa using c (i+1) jO) (by simpa using h);simp only[cmpL,if_neg (CB x)];exact e
theorem an_(s:ByteArray)(a b:Nat)(g:a<s.size)(f:b<s.size)(h:RL s s.size a b):ow s a b:=by
 have l:=abQ s
 have d:∀c j,c<s.size->j<s.size->(po s.data.toList c).getD j 0=fO s (c+j):=fun c j p o=>by rw[zc _ _ _ jO jO,l];rfl
 unfold ow;rw[zd];refine⟨zb jO jO,zb jO jO, ?_⟩;rcases h with ⟨j,e,k,n⟩|⟨e,k⟩
 ·left;unfold j3;simp only[eg];refine aci j _ _ (by rw[qw];omega) (by rw[qw];omega) (fun i m=> ?_) ?_
  ·rw[d a i g jO,d b i f jO];exact k i m
  ·rw[d a j g e,d b j f e];exact n
 ·right;refine⟨?_,jO⟩;unfold j3;simp only[eg];rw[abP _ _ (by simp[qw]),anL s a b g f];exact e
theorem acj{s:ByteArray}{l:List Nat}(d:l.Perm (aY s.size))(i:l.Pairwise (RL s s.size)):l.map (fun(v:Nat)=>(v:Int))=jH s s.size:=by
 have e:∀a∈l,a<s.size:=fun a c=>by simpa using d.mem_iff.1 c
 have m:(l.map (fun(v:Nat)=>(v:Int))).Pairwise (ow s):=by rw[List.pairwise_map];exact G9 d i fun a b c e h=>an_ s a b c e h
 have k:∀x∈l.map (fun(v:Nat)=>(v:Int)),j2 s x=true:=by intro x g;rw[List.mem_map]at g;obtain⟨a,c,rfl⟩:=g;have:=e a c;exact zb jO jO
 have f:=anN s (l.map (fun(v:Nat)=>(v:Int)));rw[anD s _ (ab3 s _ m k)]at f
 have j:((l.map (fun(v:Nat)=>(v:Int))).length==s.size)=true:=by rw[cu,d.length_eq,j7];simp
 rw[j]at f;exact beq_iff_eq.1 f.symm
theorem aoa(s:ByteArray)(h:s.size<2):(aY s.size).map (fun(v:Nat)=>(v:Int))=jH s s.size:=by
 refine acj (uz _) ?_;obtain h|h:s.size=0∨s.size=1:=jO
 ·rw[h];exact OG
 ·rw[h];exact adr _ _
theorem B7(s:ByteArray)(h2:s.size<=536870912):(∀j,j<fc s->(cY s j (fD s.size)).done=false)∧(cY s (fc s) (fD s.size)).done=true∧(cY s (fc s) (fD s.size)).ord.map (fun(v:Nat)=>(v:Int))=jH s s.size:=by
 by_cases h:s.size<2
 ·have:fc s=0:=by unfold fc;rw[if_pos h]
  rw[this];exact⟨fun j a=>absurd a (lL _),by show decide (s.size<2)=true;simpa using h,aoa s h⟩
 ·have:=whole s jO h2;exact⟨this.before,this.after,acj this.perm this.sorted⟩
theorem ack(s:ByteArray):∀j (x:SS),(cY s j x).steps=x.steps+j
 |0,_=>rfl
 |j+1,x=>by show(cY s j (ed s x)).steps=_;rw[ack s j];simp only[ed];omega
end Sp
end Go.Proofs.YtcehhgppfahbkaaGreatDoor
namespace Go.Proofs.YtcehhgppfahbkaaGreatDoor
open Go.RowKit
namespace Sp
open Pl
def fx(s:ByteArray)(j:Nat):SS:=cY s j (fD s.size)
theorem NT(s:ByteArray)(j:Nat):fx s (j+1)=ed s (fx s j):=by unfold fx;rw[ny];rfl
theorem Ha(s:ByteArray)(j:Nat):(fx s j).steps=j:=by unfold fx;rw[ack];exact fy j
theorem Ok.start(n b:Nat)(h:n<=2^b):Ok n (b+1) (fD n):=by
 refine⟨by simp[fD],by simp[fD],by simp[fD],fun i c=>by simp[fD,c],.inl ⟨rfl,jO,h⟩,by simp[fD],fun p a=> ?_,.inl rfl,fun h=> ?_,fun h=>absurd h (sa 0),by simp[fD],.inl rfl⟩
 ·simp only[fD,CA]at a;subst a;exact⟨bU _,ai _,.inl rfl⟩
 ·have:¬n<2:=by simpa[fD]using h
  show 0<n;omega
theorem acm(n b:Nat)(c:1<=n)(h:n<=2^b):total n (b+1) (fD n)<=n*((4+3*b)*(b+2)):=by
 have d:=NH b n c h
 have e:total n (b+1) (fD n)=(b+2)*(dr n+n):=by unfold total gC kQ fD rQ;simp only[je,List.map_nil,HK,List.sum_nil,if_true,adv,gX];rw[show b+2=(b+1)+1 from rfl,fW (b+1) 1,r7,xt]
 rw[e]
 have a:dr n+n<=(4+3*b)*n:=by
  have:(4+3*b)*n=(3+3*b)*n+n:=by rw[show 4+3*b=(3+3*b)+1 by omega,fW,r7]
  omega
 calc (b+2)*(dr n+n)<=(b+2)*((4+3*b)*n):=Nat.mul_le_mul_left _ a
  _=n*((4+3*b)*(b+2)):=by rw[<-zE,mz (b+2),mz]
theorem NU(s:ByteArray)(b:Nat)(h:Ok s.size b (fD s.size)):∀j,(∀i,i<j->(fx s i).done=false)->∃m,Ok s.size m (fx s j)∧((fx s j).done=false->total s.size m (fx s j)+j=total s.size b (fD s.size))
 |0,_=>⟨b,h,fun _=>rfl⟩
 |j+1,c=>by obtain⟨m,f,e⟩:=NU s b h j (fun i g=>c i jO);have hd:=c j jO;obtain⟨d,q1,q2⟩:=f.step s hd;refine⟨d,by rw[NT];exact q1,fun a=> ?_⟩;rw[NT]at a⊢;have:=q2 a;have:=e hd;omega
theorem aob{n m:Nat}{x:SS}(h:Ok n m x):x.bq.length<=total n m x:=by
 have d:∀l:List (Nat×Nat×Nat),(∀p∈l,NI n p)->l.length<=(l.map rQ).sum:=by
  intro l
  induction l with
  |nil=>intro _;simp
  |cons p r b=>
   intro a;have g:=b (fun q c=>a q (by simp[c]))
   have f:1<=rQ p:=by
    unfold rQ;split
    ·exact anO _
    ·rename_i e;have:=(a p jS).2.2.resolve_left e;omega
   simp only[ct,je,HK];omega
 have:=d x.bq h.bq;unfold total gC;omega
theorem NW(n:Nat)(h:n<=900000):n<=2^20:=by have:(2:Nat)^20=1048576:=rfl;omega
structure Reach (s:ByteArray) (j:Nat):Prop where
 ok:∃m,Ok s.size m (fx s j)
 bq:(fx s j).bq.length<=1099511627776
 jle:j<=1099511627776
theorem acn(s:ByteArray)(b:Nat)(h2:s.size<=536870912)(c:s.size<=2^b):fc s<=s.size*((4+3*b)*(b+2)):=by
 by_cases h:s.size<2
 ·have:fc s=0:=by unfold fc;rw[if_pos h]
  omega
 ·obtain⟨a,g,_⟩:=B7 s h2;have f:=Ok.start s.size b c;cases d:fc s with
  |zero=>omega
  |succ T=>
   rw[d]at a g;obtain⟨m,q1,q2⟩:=NU s _ f T (fun i k=>a i jO);have hd:=a T jO;have e:=q2 hd;have j:=q1.bg hd;have:1<=total s.size m (fx s T):=by unfold total gC;omega
   have:=acm s.size b jO c;omega
theorem aco(s:ByteArray)(h:s.size<=900000)(j:Nat)(a:j<fc s):(fx s j).done=false:=(B7 s jO).1 j a
theorem NX(s:ByteArray)(h:s.size<=900000):(fx s (fc s)).done=true:=(B7 s jO).2.1
theorem acp(s:ByteArray)(h:s.size<=900000):(fx s (fc s)).ord.map (fun(v:Nat)=>(v:Int))=jH s s.size:=(B7 s jO).2.2
theorem aoc(s:ByteArray)(h:s.size<=900000):fc s<=1267200000:=by have b:=acn s 20 jO (NW s.size h);have a:s.size*((4+3*20)*(20+2))<=900000*((4+3*20)*(20+2)):=zv _ h;omega
theorem aod(s:ByteArray)(h:s.size<=900000):(fx s (fc s)).ord.length=s.size:=by have:=congrArg lK (acp s h);rwa[cu,B1]at this
end Sp
end Go.Proofs.YtcehhgppfahbkaaGreatDoor
namespace Go.Proofs.YtcehhgppfahbkaaGreatDoor
open Go.RowKit Ev Sp
def nV(l:List Nat):List Value:=l.map fun(x:Nat)=>jI (x:Int)
theorem zg(l:List Nat):(nV l).length=l.length:=cu _
theorem uo{l:List Nat}{i:Nat}(h:i<l.length):(nV l)[i]? =some (jI ((l.getD i 0:Nat):Int)):=by unfold nV;rw[fo,aJ h,aC,aJ h];rfl
theorem mg(l:List Nat)(i x:Nat):(nV l).set i (jI (x:Int))=nV (l.set i x):=by unfold nV;rw[List.map_set]
abbrev bA(l:List UInt8):ByteArray:=⟨l.toArray⟩
theorem fE(l:List UInt8):(bA l).size=l.length:=by simp[aqj]
structure Sm where
 p:Nat
 o:Nat
 c:Nat
 a:Nat
 k:Nat
 cp:Nat
def pV(p:Nat×Nat×Nat):List Value:=[jI (p.1:Int),jI (p.2.1:Int),jI (p.2.2:Int)]
def jd(l:List (Nat×Nat×Nat)):List (List Value):=l.reverse.map pV
theorem B8(l:List (Nat×Nat×Nat)):(jd l).length=l.length:=by unfold jd;simp
theorem NY(p:Nat×Nat×Nat)(l:List (Nat×Nat×Nat)):jd (p::l)=jd l++[pV p]:=by unfold jd;simp
theorem acq(p:Nat×Nat×Nat)(l:List (Nat×Nat×Nat)):(jd (p::l)).getD l.length []=pV p:=by rw[NY,aC,oC (by rw[B8];exact ai _),B8,j8];rfl
def dQ(l:List UInt8)(x:SS)(m:Sm):AB:=⟨205,true,[.string ⟨l.toArray⟩,.slice (some ⟨m.o,0,none⟩) l.length l.length,.slice (some ⟨m.c,0,none⟩) l.length l.length,.slice (some ⟨m.a,0,none⟩) l.length l.length,jI (x.reach:Int),.slice (some ⟨m.k,0,none⟩) x.bq.length m.cp,jI (x.lo:Int),jI (x.mid:Int),jI (x.hi:Int),jI (x.laid:Int),jI (x.one:Int),jI (x.two:Int),jI (x.bg:Int),jI (x.last:Int),jI (x.steps:Int),.bool x.done]⟩
structure dJ (h:H) (n:Nat) (L:Nat->Nat) (l:List UInt8) (x:SS) (m:Sm):Prop where
 get:h.get m.p=some (dQ l x m)
 lp:m.p<n
 lo:m.o<n
 lc:m.c<n
 la:m.a<n
 o:h.get m.o=some ⟨3,true,nV x.ord⟩
 c:h.get m.c=some ⟨3,true,nV x.cls⟩
 a:h.get m.a=some ⟨3,true,nV x.bJ⟩
 ca:m.c≠m.a
 k:kz h n 203 3 m.k m.cp (jd x.bq)
 kc:x.done=false->aU<=m.cp∨m.cp=1∧x.bq=[(0,0,l.length)]
 Lp:L m.p=21
 Lo:L m.o=22
 Lc:L m.c=23
 La:L m.a=23
 Lk:L m.k=24
def WS(L:Nat->Nat):Nat->Prop:=fun c=>21<=L c∧L c<=24
theorem ox{L:Nat->Nat}{c i:Nat}(h:L c=i)(a:21<=i)(h2:i<=24):WS L c:=by unfold WS;omega
theorem dS{L:Nat->Nat}{a b i j:Nat}(d:L a=i)(c:L b=j)(h:i≠j):a≠b:=fun e=>h (by rw[<-d,<-c,e])
theorem dJ.ay{h h':H}{n n':Nat}{L L':Nat->Nat}{l:List UInt8}{x:SS}{m:Sm}(y:dJ h n L l x m)(b:n<=n')(d:∀c,c<n->L' c=L c)(e:∀c,c<n->21<=L c->L c<=24->h'.get c=h.get c):dJ h' n' L' l x m:=by
 have a:∀{c i},c<n->L c=i->21<=i->i<=24->h'.get c=h.get c:=fun f g k j=>e _ f jO jO
 exact⟨(a y.lp y.Lp jD jD).trans y.get,eD y.lp b,eD y.lo b,eD y.lc b,eD y.la b,
  (a y.lo y.Lo jD jD).trans y.o,(a y.lc y.Lc jD jD).trans y.c,(a y.la y.La jD jD).trans y.a,y.ca,
  y.k.ay b (a y.k.lt y.Lk jD jD),y.kc,(d _ y.lp).trans y.Lp,(d _ y.lo).trans y.Lo,(d _ y.lc).trans y.Lc,(d _ y.la).trans y.La,(d _ y.k.lt).trans y.Lk⟩
theorem aoe(a b:Nat):(a:Int).tmod (b:Int)=((a %b:Nat):Int):=(arx a b).symm
section
variable {lf d n:Nat} {h:H} {L:Nat->Nat} {l:List UInt8} {x:SS} {m:Sm}
theorem acr(y:dJ h n L l x m){a:Nat}(K:a<l.length)(P:x.cls.length=l.length)(I:x.reach<=2*l.length)(N:l.length<=900000):ae (fun _=>False) n (eW lf (d+1) 232 #[jP m.p 0,jI (a:Int)]) h n fun s _ _=>s= .agg #[jI ((fS (bA l) x.reach x.cls a).1:Int),jI ((fS (bA l) x.reach x.cls a).2:Int)]:=by
 rw[aF (fun _=>X2) rfl];refine ae.aE ?_;unfold LK;refine fh rfl _ ?_;have J:=y.lp;have v:m.p≠n:=jO;have w:m.c≠n:=by have:=y.lc;omega
 have E:m.p<n+1:=jO;have G:m.c<n+1:=by have:=y.lc;omega
 have g:=(aB h (some ⟨31,true,z31⟩) v).trans y.get;have o:=(aB h (some ⟨31,true,z31⟩) w).trans y.c;have c:=get_eq h n (some ⟨31,true,z31⟩);unfold dQ at g;have C:=fE l;generalize h.set n (some ⟨31,true,z31⟩)=O at g o c⊢;unfold fS;by_cases j:x.reach=0
 ·have f:(((x.reach:Nat):Int)==0)=true:=by rw[j];rfl
  have k:(a:Int)<((l.length:Nat):Int):=jO;have u:=(l.getD a 0).toNat_lt;have b:IntKind.i64.wrap (((l.getD a 0).toNat:Nat):Int)=(((l.getD a 0).toNat:Nat):Int):=aV jO jO;rw[if_pos j];refine jA (aI @g (aI @f (aI @k @b))) ?_;refine iZ (sz:=2) trivial (vs:=[jI (((l.getD a 0).toNat:Nat):Int),jI 0]) rfl rfl rfl c jO (.inl jO) _ fun B e A=> ?_;exact Gn trivial trivial e rfl jO rfl
 ·have f:(((x.reach:Nat):Int)==0)=false:=beq_eq_false_iff_ne.2 jO;have k:(a:Int)<((l.length:Nat):Int):=jO;have b:IntKind.i64.wrap ((a:Int)+((x.reach:Nat):Int))=((a+x.reach:Nat):Int):=by rw[aV jO jO];rfl
  have t:=aoe (a+x.reach) l.length;have z:¬((l.length:Nat):Int)=0:=jO;have F:(a+x.reach)%l.length<l.length:=ux _ jO;have D:(((a+x.reach)%l.length:Nat):Int)<((l.length:Nat):Int):=jO;have r:=uo (l:=x.cls) (i:=a) jO;have p:=uo (l:=x.cls) (i:=(a+x.reach)%l.length) jO;rw[if_neg j,C];generalize (a+x.reach)%l.length=q at*;try simp(disch:=first|omega|assumption) only[Nat.reduceAdd,Nat.reduceLT,RZ,g,o,f,k,b,t,z,D,r,p,ne_eq,not_false_eq_true]
  refine iZ (sz:=2) trivial (vs:=[jI ((x.cls.getD a 0:Nat):Int),jI ((x.cls.getD q 0:Nat):Int)]) rfl rfl rfl c jO (.inl jO) _ fun B e A=> ?_;exact Gn trivial trivial e rfl jO rfl
theorem acs(y:dJ h n L l x m){a b:Nat}(Q:a<l.length)(P:b<l.length)(C:x.cls.length=l.length)(A:x.reach<=2*l.length)(B:l.length<=900000):ae (fun _=>False) n (eW lf (d+2) 212 #[jP m.p 0,jI (a:Int),jI (b:Int)]) h n fun F _ _=>F= .bool (rP (bA l) x a b):=by
 rw[aF (fun _=>Xz) rfl];refine ae.aE ?_;unfold LB;refine aN aL (acr (lf:=lf) (d:=d) y Q C A B) (ai _) (fun _ _ h=>h.elim) fun Y R I r u q=> ?_;subst q;have E:dJ R I L l x m:=y.ay r (fun _ _=>rfl) fun c O _ _=>u c O id;refine aN aL (acr (lf:=lf) (d:=d) E P C A B) jO (fun _ _ h=>h.elim) fun X h2 g N U p=> ?_;subst p;unfold rP iw;generalize (fS (bA l) x.reach x.cls a).1=f;generalize (fS (bA l) x.reach x.cls a).2=k;generalize (fS (bA l) x.reach x.cls b).1=e;generalize (fS (bA l) x.reach x.cls b).2=j;refine fh rfl _ ?_;refine fh rfl _ ?_;refine iZ (sz:=2) trivial (vs:=[jI (f:Int),jI (k:Int)]) rfl rfl rfl ((aB _ _ jO).trans (get_eq _ g _)) jO (.inl jO) _ fun h3 T K=> ?_;refine iZ (sz:=2) trivial (vs:=[jI (e:Int),jI (j:Int)]) rfl rfl rfl ((K (g+1) jO).trans (get_eq _ _ _)) jO (.inl jO) _ fun Z t J=> ?_;have s:=(J g jO).trans T;have q1:g<g+1+1:=jO;have q2:g+1<g+1+1:=jO;have i1:(0:Int)<2:=jD;have o:(1:Int)<2:=jD;have G:(1:Int).toNat=1:=rfl;by_cases D:e<f
 ·have i:(e:Int)<(f:Int):=jO;rw[decide_eq_true D];refine jA (aI @s (aI @t (aI @i (aI @i1 @o)))) ?_;all_goals (first|trivial|rfl|exact⟨rfl,rfl,rfl⟩|exact⟨rfl,rfl⟩)
 ·have i:¬(e:Int)<(f:Int):=jO;rw[decide_eq_false D];by_cases z:f=e
  ·have w:((f:Int)==(e:Int))=true:=by rw[z];exact beq_iff_eq.2 rfl
   have v:(f==e)=true:=by rw[z];exact beq_iff_eq.2 rfl
   have W:decide ((j:Int)<(k:Int))=decide (j<k):=by
    by_cases c:j<k
    ·rw[decide_eq_true c,decide_eq_true jO]
    ·rw[decide_eq_false c,decide_eq_false jO]
   rw[v];refine jA (aI @s (aI @t (aI @i (aI @w (aI @W (aI @i1 (aI @o @G))))))) ?_;all_goals (first|trivial|rfl|exact⟨rfl,rfl,rfl⟩|exact⟨rfl,rfl⟩)
  ·have w:((f:Int)==(e:Int))=false:=beq_eq_false_iff_ne.2 jO;have v:(f==e)=false:=beq_eq_false_iff_ne.2 z;rw[v];refine jA (aI @s (aI @t (aI @i (aI @w (aI @i1 @o))))) ?_;all_goals (first|trivial|rfl|exact⟨rfl,rfl,rfl⟩|exact⟨rfl,rfl⟩)
end
theorem aof(a b:List (Nat×Nat×Nat)):jd (a++b)=jd b++jd a:=by unfold jd;simp
section
variable {lf d n:Nat} {h:H} {L:Nat->Nat} {l:List UInt8} {x:SS} {m:Sm}
theorem dJ.mX(y:dJ h n L l x m){h':H}{x':SS}(d:h'.get m.p=some (dQ l x' m))(e:h'.get m.o=some ⟨3,true,nV x'.ord⟩)(g:h'.get m.c=some ⟨3,true,nV x'.cls⟩)(i:h'.get m.a=some ⟨3,true,nV x'.bJ⟩)(f:h'.get m.k=h.get m.k){us:List (Nat×Nat×Nat)}(c:x.bq=us++x'.bq)(b:x'.done=false->aU<=m.cp∨m.cp=1∧x'.bq=[(0,0,l.length)]){n':Nat}(a:n<=n'):dJ h' n' L l x' m:=by refine⟨d,eD y.lp a,eD y.lo a,eD y.lc a,eD y.la a,e,g,i,y.ca, ?_,b,y.Lp,y.Lo,y.Lc,y.La,y.Lk⟩;have k:=y.k;rw[c,aof]at k;exact(k.cut rfl).ay a f
theorem dJ.put(y:dJ h n L l x m){h':H}{x':SS}(f:h'.get m.p=some (dQ l x' m))(a:∀c,c<n->c≠m.p->h'.get c=h.get c)(j:x'.ord=x.ord)(i:x'.cls=x.cls)(g:x'.bJ=x.bJ){us:List (Nat×Nat×Nat)}(d:x.bq=us++x'.bq)(b:x'.done=false->aU<=m.cp∨m.cp=1∧x'.bq=[(0,0,l.length)]){n':Nat}(e:n<=n'):dJ h' n' L l x' m:=
 y.mX f ((a _ y.lo (dS y.Lo y.Lp jD)).trans (by rw[j];exact y.o)) ((a _ y.lc (dS y.Lc y.Lp jD)).trans (by rw[i];exact y.c)) ((a _ y.la (dS y.La y.Lp jD)).trans (by rw[g];exact y.a)) (a _ y.k.lt (dS y.Lk y.Lp jD)) d b e
theorem aog(y:dJ h n L l x m)(E:x.bq.length<=1000000000000)(K:x.done=false):ae (WS L) n (eW lf (d+1) 182 #[jP m.p 0]) h n fun _ h' n'=>n'=n∧dJ h' n L l (cL x) m:=by
 have g:=y.get;have D:=y.lp;have wp:WS L m.p:=ox y.Lp jD jD;unfold dQ at g;rw[aF (fun _=>Wy) rfl];refine ae.aE ?_;unfold K7;cases a:x.bq with
 |nil=>
  rw[a]at g;have b:IntKind.i64.wrap (((0:Nat):Int)-1)=-1:=rfl;have s:(-1:Int)<0:=jD;have e:cL x=x:=by unfold cL;rw[a]
  rw[e];refine jA (aI @g (aI @b @s)) ?_;exact y
 |cons p r=>
  rw[a,ct]at g E;have b:IntKind.i64.wrap (((r.length+1:Nat):Int)-1)=((r.length:Nat):Int):=by rw[aV jO jO];omega
  have s:¬((r.length:Nat):Int)<0:=jO;by_cases O:0<x.hi
  ·have u:(0:Int)<((x.hi:Nat):Int):=jO
   have e:cL x=x:=by unfold cL;rw[a];dsimp only;rw[if_neg jO]
   rw[e];refine jA (aI @g (aI @b (aI @s @u))) ?_;exact y
  have u:¬(0:Int)<((x.hi:Nat):Int):=jO;have C:(jd x.bq).length=r.length+1:=by rw[B8,a];rfl
  obtain⟨I,z,k⟩:=y.k.cell (i:=r.length) (j:=1) jO jD;have f:(jd x.bq).getD r.length []=pV p:=by rw[a];exact acq p r
  rw[f,fy]at k;have k:I[r.length*3+1]? =some (jI (p.2.1:Int)):=k;have J:=y.k.lt;have i1:((r.length:Nat):Int)<((r.length+1:Nat):Int):=jO;by_cases w:p.2.1=0
  ·have v:(((p.2.1:Nat):Int)==0)=true:=by rw[w];rfl
   have e:cL x=x:=by unfold cL;rw[a];dsimp only;rw[if_neg jO]
   rw[e];refine jA (aI @g (aI @b (aI @s (aI @u (aI @i1 (aI @z (aI @k @v))))))) ?_;exact y
  have v:(((p.2.1:Nat):Int)==0)=false:=beq_eq_false_iff_ne.2 jO
  have G:cL x={x with lo:=p.1,mid:=p.2.1,hi:=p.2.2,bq:=r,laid:=0,one:=0,two:=p.2.1}:=by unfold cL;rw[a];dsimp only;rw[if_pos ⟨jO,w⟩]
  refine jA (aI @g (aI @b (aI @s (aI @u (aI @i1 (aI @z (aI @k @v))))))) ?_;refine abL y.k (i:=r.length) jO _ ?_;rw[f];refine jA @g ?_;refine nW trivial (vs:=pV p) rfl rfl rfl g D (show 6+3<=16 by decide) (.inr wp) _ fun F t A=> ?_;have t:F.get m.p=some ⟨205,true,[.string ⟨l.toArray⟩,.slice (some ⟨m.o,0,none⟩) l.length l.length,.slice (some ⟨m.c,0,none⟩) l.length l.length,.slice (some ⟨m.a,0,none⟩) l.length l.length,jI (x.reach:Int),.slice (some ⟨m.k,0,none⟩) (r.length+1) m.cp,jI (p.1:Int),jI (p.2.1:Int),jI (p.2.2:Int),jI (x.laid:Int),jI (x.one:Int),jI (x.two:Int),jI (x.bg:Int),jI (x.last:Int),jI (x.steps:Int),.bool x.done]⟩:=t;have B:=y.k.ay (ai n) (A m.k (dS y.Lk y.Lp jD));refine jA @t ?_;refine abM B (N:=(r.length+1)) C (m:=r.length) jO _ ?_;refine jA (aI @t (aI @wp (aI @or_true @true_and))) ?_;rw[G];refine y.put (x':={x with lo:=p.1,mid:=p.2.1,hi:=p.2.2,bq:=r,laid:=0,one:=0,two:=p.2.1}) (us:=[p]) ?_ (fun c _ o=>by rw[aB _ _ o,aB _ _ o,aB _ _ o,aB _ _ o];exact A c o) rfl rfl rfl a (fun hd=> ?_) (ai n)
  ·rw[get_eq];rfl
  ·rcases y.kc hd with q|⟨_,q⟩
   ·exact .inl q
   ·rw[a]at q;cases q;exact absurd rfl w
theorem aoh(y:dJ h n L l x m)(z:x.lo+x.laid<l.length)(h2:x.laid<l.length)(t:x.ord.length=l.length)(A:x.bJ.length=l.length)(w:l.length<=900000):ae (WS L) n (eW lf (d+1) 183 #[jP m.p 0]) h n fun _ h' n'=>n'=n∧dJ h' n L l (nn x) m:=by
 have g:=y.get;have v:=y.lp;have lo:=y.lo;have u:=y.la;have a:=y.o;have s:=y.a;have wp:WS L m.p:=ox y.Lp jD jD;have c:WS L m.a:=ox y.La jD jD;have p:m.o≠m.a:=dS y.Lo y.La jD;have o:m.o≠m.p:=dS y.Lo y.Lp jD;have b:m.a≠m.p:=dS y.La y.Lp jD;have k:m.p≠m.a:=Ne.symm b;unfold dQ at g;rw[aF (fun _=>Wz) rfl];refine ae.aE ?_;unfold K8;have f:IntKind.i64.wrap (((x.lo:Nat):Int)+((x.laid:Nat):Int))=((x.lo+x.laid:Nat):Int):=by rw[aV jO jO];rfl
 have e:IntKind.i64.wrap (((x.laid:Nat):Int)+1)=((x.laid+1:Nat):Int):=by rw[aV jO jO];rfl
 have i1:((x.lo+x.laid:Nat):Int)<((l.length:Nat):Int):=jO;have r:((x.laid:Nat):Int)<((l.length:Nat):Int):=jO;have j:=uo (l:=x.ord) (i:=x.lo+x.laid) jO;have q:x.laid<(nV x.bJ).length:=by rw[zg];omega
 try simp(disch:=first|omega|assumption) only[Nat.reduceAdd,Nat.reduceLT,RZ,g,a,s,f,e,i1,r,j,q,c,wp,k,mg,or_true,true_and,ne_eq,not_false_eq_true]
 refine y.mX (x':=nn x) (us:=[]) ?_ ?_ ?_ ?_ ?_ rfl y.kc (ai n)
 ·rw[get_eq];rfl
 ·rw[aB _ _ o,aB _ _ p];exact a
 ·rw[aB _ _ (dS y.Lc y.Lp jD),aB _ _ y.ca];exact y.c
 ·rw[aB _ _ b,get_eq];rfl
 ·rw[aB _ _ (dS y.Lk y.Lp jD),aB _ _ (dS y.Lk y.La jD)]
end
section
variable {lf d n:Nat} {h:H} {L:Nat->Nat} {l:List UInt8} {x:SS} {m:Sm}
theorem aoi{W:Nat->Prop}{n0:Nat}(y:dJ h n L l x m){e pt:Nat}(ge:h.get e=some ⟨203,true,[jI (x.lo:Int),jI (x.mid:Int),jI (x.hi:Int)]⟩)(s:e<n)(r:1<=x.hi)(t:x.hi<=900000)(wp:W m.p)(q:pt<=10000000)(i:x.done=false->aU<=m.cp∨m.cp=1∧x.bq=[(0,0,l.length)]):ae W n0 (aM (jP e 2) fun c=>bL c (ii 1) fun d=>ej (jI (pt:Int)) d fun f=>aK f (b9 3 (jP m.p 6) (.agg #[ii 0,ii 0,ii 0]) fun _=>aj []) (aj [])) h n fun _ h' n'=>n'=n∧dJ h' n L l (iy x (pt+1==x.hi)) m:=by
 have g:=y.get;have j:=y.lp;unfold dQ at g;have b:IntKind.i64.wrap (((x.hi:Nat):Int)-1)=((x.hi-1:Nat):Int):=by rw[aV jO jO];omega
 by_cases c:pt+1=x.hi
 ·have z:((pt:Int)==((x.hi-1:Nat):Int))=true:=beq_iff_eq.2 jO;have a:(pt+1==x.hi)=true:=beq_iff_eq.2 c;rw[a];refine jA (aI @ge (aI @b @z)) ?_;refine nW trivial (vs:=pV (0,0,0)) rfl rfl rfl g j (show 6+3<=16 by decide) (.inr wp) _ fun u o p=> ?_;refine jB ?_;exact y.put (x':=iy x true) (us:=[]) (o.trans rfl) (fun c _ k=>p c k) rfl rfl rfl rfl i (ai n)
 ·have z:((pt:Int)==((x.hi-1:Nat):Int))=false:=beq_eq_false_iff_ne.2 jO;have a:(pt+1==x.hi)=false:=beq_eq_false_iff_ne.2 c;rw[a];refine jA (aI @ge (aI @b @z)) ?_;exact y
set_option maxHeartbeats 1000000 in
theorem aoj(y:dJ h n L l x m)(mo:ab4 l.length x)(u5:x.laid=x.mid-x.lo)(ol:x.ord.length=l.length)(cl:x.cls.length=l.length)(al:x.bJ.length=l.length)(P:∀i,i<l.length->x.ord.getD i 0<l.length)(hr:x.reach<=2*l.length)(hN:l.length<=900000):ae (WS L) n (eW lf (d+3) 184 #[jP m.p 0]) h n fun _ h' n'=>dJ h' n' L l (Sp.aq7 (bA l) x) m:=by
 obtain⟨m1,m2,m3,m4,m5,m6,m7,m8,m9,R⟩:=mo;have g:=y.get;have Y:=y.lp;have wp:WS L m.p:=ox y.Lp jD jD;have C:WS L m.o:=ox y.Lo jD jD;have w:m.o≠m.p:=dS y.Lo y.Lp jD;have E:m.p≠m.o:=Ne.symm w;have co:m.c≠m.o:=dS y.Lc y.Lo jD;have cp:m.c≠m.p:=dS y.Lc y.Lp jD;have ao:m.a≠m.o:=dS y.La y.Lo jD;have ap:m.a≠m.p:=dS y.La y.Lp jD;have ko:m.k≠m.o:=dS y.Lk y.Lo jD;have kp:m.k≠m.p:=dS y.Lk y.Lp jD;unfold dQ at g;rw[aF (fun _=>WA) rfl];refine ae.aE ?_;unfold K9;refine jB ?_;refine lV m.p 6 _ g Y (show 6+3<=16 by decide) ?_;refine jB ?_;refine fh rfl _ ?_;refine iZ (sz:=3) trivial (vs:=pV (x.lo,x.mid,x.hi)) rfl rfl rfl (get_eq _ _ _) jO (.inl jO) _ fun Z g2 k2=> ?_;have ge:Z.get n=some ⟨203,true,[jI (x.lo:Int),jI (x.mid:Int),jI (x.hi:Int)]⟩:=g2;have b:dJ Z (n+1) L l x m:=y.ay jO (fun _ _=>rfl) fun c k _ _=>(k2 c jO).trans (aB _ _ jO);clear g2 k2;have g:=b.get;have Y:=b.lp;have lo:=b.lo;have la:=b.la;have u:=b.o;have r:=b.a;have np:m.p≠n:=by have:=y.lp;omega
 have no:m.o≠n:=by have:=y.lo;omega
 have pn:=Ne.symm np;have on:=Ne.symm no;have z:n<n+1:=dK n;unfold dQ at g;obtain⟨pt,A⟩:∃pt,ix x=pt:=⟨_,rfl⟩;have u4:x.lo+x.one+x.two-x.mid=pt:=A;have tl:pt<l.length:=jO;have w1:IntKind.i64.wrap (((x.lo:Nat):Int)+((x.one:Nat):Int))=((x.lo+x.one:Nat):Int):=by rw[aV jO jO];rfl
 have w2:IntKind.i64.wrap (((x.lo+x.one:Nat):Int)+((x.two:Nat):Int))=((x.lo+x.one+x.two:Nat):Int):=by rw[aV jO jO];rfl
 have w3:IntKind.i64.wrap (((x.lo+x.one+x.two:Nat):Int)-((x.mid:Nat):Int))=(pt:Int):=by rw[aV jO jO];omega
 have w4:IntKind.i64.wrap (((x.one:Nat):Int)+1)=((x.one+1:Nat):Int):=by rw[aV jO jO];rfl
 have w5:IntKind.i64.wrap (((x.two:Nat):Int)+1)=((x.two+1:Nat):Int):=by rw[aV jO jO];rfl
 have G:(pt:Int)<((l.length:Nat):Int):=jO;have F:pt<(nV x.ord).length:=by rw[zg];omega
 refine jA (aI @g (aI @ge (aI @z (aI @w1 (aI @w2 @w3))))) ?_;obtain⟨T,hT⟩:∃T:M Value,T=(aM (jP n 2) fun c=>bL c (ii 1) fun d=>ej (jI (pt:Int)) d fun f=>aK f (b9 3 (jP m.p 6) (.agg #[ii 0,ii 0,ii 0]) fun _=>aj []) (aj [])):=⟨_,rfl⟩;rw[<-hT]
 have j:∀(h':H) (n':Nat) (a:SS),n+1<=n'->h'.get m.p=some (dQ l a m)->h'.get m.o=some ⟨3,true,nV a.ord⟩->(∀c,c<n+1->c≠m.p->c≠m.o->h'.get c=Z.get c)->a.cls=x.cls->a.bJ=x.bJ->a.bq=x.bq->a.lo=x.lo->a.mid=x.mid->a.hi=x.hi->a.done=x.done->ae (WS L) n T h' n' fun _ u0 Q=>dJ u0 Q L l (iy a (pt+1==a.hi)) m:=by intro h' n' a hn gp u1 I e1 e2 e3 e4 e5 e6 e7;have y1:dJ h' n' L l a m:=b.mX (x':=a) (us:=[]) gp u1 ((I _ b.lc cp co).trans (by rw[e1];exact b.c)) ((I _ la ap ao).trans (by rw[e2];exact r)) (I _ b.k.lt kp ko) (by rw[e3];rfl) (fun q=>by rw[e3];exact b.kc (e7▸q)) hn;rw[hT];refine(aoi (W:=WS L) (n0:=n) y1 (e:=n) (pt:=pt) (by rw[I n z pn on,e4,e5,e6];exact ge) jO (by rw[e6];omega) (by rw[e6];omega) wp jO y1.kc).mono fun v8 h8 n8 _ q=> ?_;rw[q.1];exact q.2
 unfold Sp.aq7;rw[A];by_cases c1:x.two=x.hi
 ·have B:(((x.two:Nat):Int)==((x.hi:Nat):Int))=true:=by rw[c1];exact beq_iff_eq.2 rfl
  have o:jJ (bA l) x=true:=by unfold jJ;rw[show(x.two==x.hi)=true from beq_iff_eq.2 c1];rfl
  have i1:((x.one:Nat):Int)<((l.length:Nat):Int):=jO;have D:=uo (l:=x.bJ) (i:=x.one) jO;rw[if_pos o];try simp(disch:=first|omega|assumption) only[Nat.reduceAdd,Nat.reduceLT,RZ,g,ge,u,r,z,w4,B,G,i1,D,F,C,wp,E,mg,or_true,true_and,ne_eq,not_false_eq_true]
  refine j _ _ _ (ai _) ?_ ?_ ?_ rfl rfl rfl rfl rfl rfl rfl
  ·rw[get_eq];rfl
  ·rw[aB _ _ w,get_eq]
  ·intro c k q1 q2;rw[aB _ _ q1,aB _ _ q2]
 have B:(((x.two:Nat):Int)==((x.hi:Nat):Int))=false:=beq_eq_false_iff_ne.2 jO;have v:(x.two==x.hi)=false:=beq_eq_false_iff_ne.2 c1;have U:((x.two:Nat):Int)<((l.length:Nat):Int):=jO;have O:=uo (l:=x.ord) (i:=x.two) jO;by_cases J:x.one<x.laid
 ·have N:((x.one:Nat):Int)<((x.laid:Nat):Int):=jO;have i1:((x.one:Nat):Int)<((l.length:Nat):Int):=jO;have D:=uo (l:=x.bJ) (i:=x.one) jO;refine jA (aI @g (aI @ge (aI @u (aI @r (aI @z (aI @B (aI @N (aI @i1 (aI @U (aI @D @O)))))))))) ?_;refine aN aL (acs (lf:=lf) (d:=d) b (R x.one J) (P x.two jO) cl hr hN) jO (fun _ _ h=>h.elim) fun v3 h3 n3 p s X=> ?_;subst X;have t:dJ h3 n3 L l x m:=b.ay p (fun _ _=>rfl) fun c k _ _=>s c k id;have g:=t.get;have Y:=t.lp;have lo:=t.lo;have la:=t.la;have u:=t.o;have r:=t.a;unfold dQ at g;cases ab:rP (bA l) x (x.bJ.getD x.one 0) (x.ord.getD x.two 0)with
  |false=>
   have o:jJ (bA l) x=true:=by unfold jJ;rw[ab,decide_eq_true J];simp
   rw[if_pos o];try simp(disch:=first|omega|assumption) only[Nat.reduceAdd,Nat.reduceLT,RZ,g,u,r,w4,G,i1,D,F,C,wp,E,mg,or_true,true_and,ne_eq,not_false_eq_true,gO]
   refine j _ _ _ p ?_ ?_ ?_ rfl rfl rfl rfl rfl rfl rfl
   ·rw[get_eq];rfl
   ·rw[aB _ _ w,get_eq]
   ·intro c k q1 q2;rw[aB _ _ q1,aB _ _ q2];exact s c k id
  |true=>
   have o:¬jJ (bA l) x=true:=by unfold jJ;rw[ab,decide_eq_true J,v];simp
   rw[if_neg o];try simp(disch:=first|omega|assumption) only[Nat.reduceAdd,Nat.reduceLT,RZ,g,u,r,w5,G,U,O,F,C,wp,E,mg,or_true,true_and,ne_eq,not_false_eq_true,gE]
   refine j _ _ _ p ?_ ?_ ?_ rfl rfl rfl rfl rfl rfl rfl
   ·rw[get_eq];rfl
   ·rw[aB _ _ w,get_eq]
   ·intro c k q1 q2;rw[aB _ _ q1,aB _ _ q2];exact s c k id
 ·have N:¬((x.one:Nat):Int)<((x.laid:Nat):Int):=jO
  have o:¬jJ (bA l) x=true:=by unfold jJ;rw[decide_eq_false J,v];simp
  rw[if_neg o];try simp(disch:=first|omega|assumption) only[Nat.reduceAdd,Nat.reduceLT,RZ,g,ge,u,r,z,w5,B,N,G,U,O,F,C,wp,E,mg,or_true,true_and,ne_eq,not_false_eq_true]
  refine j _ _ _ (ai _) ?_ ?_ ?_ rfl rfl rfl rfl rfl rfl rfl
  ·rw[get_eq];rfl
  ·rw[aB _ _ w,get_eq]
  ·intro c k q1 q2;rw[aB _ _ q1,aB _ _ q2]
end
def jL(L:Nat->Nat)(n:Nat)(l:List UInt8)(x':SS)(m:Sm)(h':H)(n':Nat):Prop:=∃b a,(∀c,c<n->b c=L c)∧a.p=m.p∧dJ h' n' b l x' a
section
variable {lf d n:Nat} {h:H} {L:Nat->Nat} {l:List UInt8} {x:SS} {m:Sm}
theorem dJ.stack(y:dJ h n L l x m){h':H}{n' k cp:Nat}{x':SS}{m':Sm}(i:m'={m with k:=k,cp:=cp}∨m'={m with c:=m.a,a:=m.c,k:=k,cp:=cp})(j:h'.get m.p=some (dQ l x' m'))(o:h'.get m.o=some ⟨3,true,nV x'.ord⟩)(p:h'.get m'.c=some ⟨3,true,nV x'.cls⟩)(q:h'.get m'.a=some ⟨3,true,nV x'.bJ⟩)(f:kz h' n' 203 3 k cp (jd x'.bq))(e:aU<=cp)(s:n<=k)(d:n<=n'):jL L n l x' m h' n':=by
 have b:∀c,c<n->(if c<n then L c else 24)=L c:=fun c r=>if_pos r;refine⟨fun c=>if c<n then L c else 24,m',b, ?_, ?_⟩
 ·rcases i with rfl|rfl<;>rfl
 ·have g:(if k<n then L k else 24)=24:=if_neg jO;rcases i with rfl|rfl
  ·exact⟨j,eD y.lp d,eD y.lo d,eD y.lc d,eD y.la d,o,p,q,y.ca,f,fun _=> .inl e,(b _ y.lp).trans y.Lp,(b _ y.lo).trans y.Lo,(b _ y.lc).trans y.Lc,(b _ y.la).trans y.La,g⟩
  ·exact⟨j,eD y.lp d,eD y.lo d,eD y.la d,eD y.lc d,o,p,q,Ne.symm y.ca,f,fun _=> .inl e,(b _ y.lp).trans y.Lp,(b _ y.lo).trans y.Lo,(b _ y.la).trans y.La,(b _ y.lc).trans y.Lc,g⟩
theorem dJ.post(y:dJ h n L l x m){h':H}{n':Nat}{x':SS}(z:dJ h' n' L l x' m):jL L n l x' m h' n':=⟨L,m,fun _ _=>rfl,rfl,z⟩
theorem aok(y:dJ h n L l x m){p:Nat×Nat×Nat}{r:List (Nat×Nat×Nat)}(a:x.bq=p::r)(p1:p.1<=p.2.2)(p2:p.2.2<=l.length)(h2:2<=l.length)(hd:x.done=false)(hl:x.bq.length<=1000000000000)(hN:l.length<=900000):ae (WS L) n (eW lf (d+1) 185 #[jP m.p 0]) h n fun _ h' n'=>jL L n l (mf x) m h' n':=by
 have g:=y.get;have hp:=y.lp;have wp:WS L m.p:=ox y.Lp jD jD;have W:WS L m.k:=ox y.Lk jD jD;have J:m.k≠m.p:=dS y.Lk y.Lp jD;unfold dQ at g;rw[a,ct]at g hl;rw[aF (fun _=>WB) rfl];refine ae.aE ?_;unfold K';have F:IntKind.i64.wrap (((r.length+1:Nat):Int)-1)=((r.length:Nat):Int):=by rw[aV jO jO];omega
 have kN:(jd x.bq).length=r.length+1:=by rw[B8,a];rfl
 have u:(jd x.bq).getD r.length []=pV p:=by rw[a];exact acq p r
 have i1:((r.length:Nat):Int)<((r.length+1:Nat):Int):=jO;refine jA (aI @g (aI @F @i1)) ?_;refine abL y.k (i:=r.length) jO _ ?_;rw[u];refine fh rfl _ ?_;refine iZ (sz:=3) trivial (vs:=pV p) rfl rfl rfl (get_eq _ _ _) jO (.inl jO) _ fun b U P=> ?_;have ge:b.get n=some ⟨203,true,[jI (p.1:Int),jI (p.2.1:Int),jI (p.2.2:Int)]⟩:=U;have e:dJ b (n+1) L l x m:=y.ay jO (fun _ _=>rfl) fun c j _ _=>(P c jO).trans (aB _ _ jO);clear U P;have g:=e.get;have hp:=e.lp;have A:m.p≠n:=by have:=y.lp;omega
 have G:=Ne.symm A;have I:n<n+1:=dK n;unfold dQ at g;rw[a,ct]at g;refine jA (aI @g @F) ?_;refine abM e.k kN (m:=r.length) jO _ ?_;have E:IntKind.i64.wrap (((p.2.2:Nat):Int)-((p.1:Nat):Int))=((p.2.2-p.1:Nat):Int):=by rw[aV jO jO];omega
 have s:aU<=m.cp∨m.cp=1∧p=(0,0,l.length)∧r=[]:=by
  rcases y.kc hd with q|⟨q1,q2⟩
  ·exact .inl q
  ·rw[a]at q2;exact .inr ⟨q1,(Ov q2).1,(Ov q2).2⟩
 by_cases c:p.2.2-p.1<2
 ·have z:((p.2.2-p.1:Nat):Int)<2:=jO
  have D:mf x={x with bq:=r}:=by unfold mf;rw[a];dsimp only;rw[if_pos c]
  rw[D];try simp(disch:=first|omega|assumption) only[Nat.reduceAdd,Nat.reduceLT,RZ,g,ge,E,z,I,wp,A,G,or_true,true_and,ne_eq,not_false_eq_true]
  refine y.post (e.put (x':={x with bq:=r}) (us:=[p]) ?_ (fun c _ j=>by rw[aB _ _ j]) rfl rfl rfl a (fun _=> .inl ?_) (ai _))
  ·rw[get_eq];rfl
  ·rcases s with q|⟨_,q,_⟩
   ·exact q
   ·rw[q]at c;dsimp only at c;omega
 ·have z:¬((p.2.2-p.1:Nat):Int)<2:=jO;obtain⟨mid,f⟩:∃mid,(p.1+p.2.2)/2=mid:=⟨_,rfl⟩;have Y:IntKind.i64.wrap (((p.1:Nat):Int)+((p.2.2:Nat):Int))=((p.1+p.2.2:Nat):Int):=by rw[aV jO jO];rfl
  have X:IntKind.i64.wrap (((p.1+p.2.2:Nat):Int).tdiv 2)=(mid:Int):=by rw[show(2:Int)=((2:Nat):Int)from rfl,<-HJ,f,aV jO jO]
  have D:mf x={x with bq:=(p.1,0,mid)::(mid,0,p.2.2)::(p.1,mid,p.2.2)::r}:=by unfold mf;rw[a];dsimp only;rw[if_neg c,f]
  rw[D];try simp(disch:=first|omega|assumption) only[Nat.reduceAdd,Nat.reduceLT,RZ,g,ge,E,Y,X,z,I,wp,A,G,or_true,true_and,ne_eq,not_false_eq_true]
  refine anB (cs:=[pV (p.1,mid,p.2.2),pV (mid,0,p.2.2),pV (p.1,0,mid)].flatten) rfl _ ?_
  have C:∀o:H,o.get m.p=some (dQ l {x with bq:=r} m)->(∀c,c≠m.p->o.get c=b.get c)->ae (WS L) n (bH 203 3 (.slice (some ⟨m.k,0,none⟩) r.length m.cp) (.slice (some ⟨n+1,0,none⟩) 3 3) fun v=>bc (jP m.p 5) v fun _=>aj []) (o.set (n+1) (some ⟨203,true,[pV (p.1,mid,p.2.2),pV (mid,0,p.2.2),pV (p.1,0,mid)].flatten⟩)) (n+1+1) fun _ h' n'=>jL L n l {x with bq:=(p.1,0,mid)::(mid,0,p.2.2)::(p.1,mid,p.2.2)::r} m h' n':=fun o g3 O=>by
   have lk:=y.k.lt;have Z:=(e.k.cut (us:=jd r) (vs:=[pV p]) (by rw[a,NY])).ay (h':=o.set (n+1) (some ⟨203,true,[pV (p.1,mid,p.2.2),pV (mid,0,p.2.2),pV (p.1,0,mid)].flatten⟩)) (n':=n+1+1) jO (by rw[aB _ _ jO];exact O _ J);have e3:jd ((p.1,0,mid)::(mid,0,p.2.2)::(p.1,mid,p.2.2)::r)=jd r++[pV (p.1,mid,p.2.2),pV (mid,0,p.2.2),pV (p.1,0,mid)]:=by simp only[NY,bW,List.cons_append,pF]
   refine abN Z (N:=r.length) (M':=3) (us:=[pV (p.1,mid,p.2.2),pV (mid,0,p.2.2),pV (p.1,0,mid)]) (B8 r) rfl (by intro t Q;simp only[List.mem_cons,List.not_mem_nil,or_false]at Q;rcases Q with rfl|rfl|rfl<;>rfl) (aqd _) rfl (get_eq _ _ _) jO jO (by
    rcases s with q|⟨q,_,_⟩
    ·exact .inl q
    ·exact .inr jO) (.inr W) _ fun R w K=> ?_
   have T:R.get m.p=some (dQ l {x with bq:=r} m):=(K _ jO (Ne.symm J)).trans ((aB _ _ jO).trans g3);unfold dQ at T;have u0:m.p<n+1+1+1:=jO;refine jA (aI @T (aI @wp (aI @or_true @true_and))) ?_;have B:∀c,c<n->c≠m.p->c≠m.k->(R.set m.p (some (dQ l {x with bq:=(p.1,0,mid)::(mid,0,p.2.2)::(p.1,mid,p.2.2)::r} {m with k:=n+1+1,cp:=aU+(r.length+3)}))).get c=b.get c:=fun c j q1 q2=>by rw[aB _ _ q1,K _ jO q2,aB _ _ jO,O _ q1]
   exact y.stack (m':={m with k:=n+1+1,cp:=aU+(r.length+3)}) (.inl rfl) (get_eq _ _ _) ((B _ y.lo (dS y.Lo y.Lp jD) (dS y.Lo y.Lk jD)).trans e.o) ((B _ y.lc (dS y.Lc y.Lp jD) (dS y.Lc y.Lk jD)).trans e.c) ((B _ y.la (dS y.La y.Lp jD) (dS y.La y.Lk jD)).trans e.a) (by rw[e3];exact w.ay (ai _) (aB _ _ jO)) jO jO jO
  exact C _ (get_eq _ _ _) fun c j=>aB _ _ j
end
section
variable {lf d n:Nat} {h:H} {L:Nat->Nat} {l:List UInt8} {x:SS} {m:Sm}
theorem aol(y:dJ h n L l x m)(f:x.bq=[])(U:x.ord.length=l.length)(h2:2<=l.length)(hN:l.length<=900000)(hl:x.last<=l.length)(hr:x.reach<=2*l.length)(hd:x.done=false):ae (WS L) n (eW lf (d+1) 213 #[jP m.p 0]) h n fun _ h' n'=>jL L n l (iO x) m h' n':=by
 have g:=y.get;have Y:=y.lp;have wp:WS L m.p:=ox y.Lp jD jD;have R:WS L m.k:=ox y.Lk jD jD;have u:m.k≠m.p:=dS y.Lk y.Lp jD;have F:m.o≠m.p:=dS y.Lo y.Lp jD;have cp:m.c≠m.p:=dS y.Lc y.Lp jD;have P:m.a≠m.p:=dS y.La y.Lp jD
 have A:aU<=m.cp:=by
  rcases y.kc hd with q|⟨_,q⟩
  ·exact q
  ·rw[f]at q;cases q
 unfold dQ at g;rw[f,List.length_nil]at g;rw[aF (fun _=>XA) rfl];refine ae.aE ?_;unfold LC;have r:IntKind.i64.wrap (((l.length:Nat):Int)-1)=((l.length-1:Nat):Int):=by rw[aV jO jO];omega
 have O:∀h':H,x.last+1=x.ord.length∨x.ord.length<=x.reach->h'.get m.p=some (dQ l (iO x) {m with c:=m.a,a:=m.c})->(∀c,c≠m.p->h'.get c=h.get c)->jL L n l (iO x) m h' n:=fun h' c K o=>by
  have e:iO x={x with cls:=x.bJ,bJ:=x.cls,bg:=0,done:=true}:=by unfold iO;rw[if_pos c]
  rw[e]at K⊢;exact⟨L,{m with c:=m.a,a:=m.c},fun _ _=>rfl,rfl,⟨K,Y,y.lo,y.la,y.lc,(o _ F).trans y.o,(o _ P).trans y.a,(o _ cp).trans y.c,Ne.symm y.ca,y.k.ay (ai n) (o _ u),fun q=>(by cases q),y.Lp,y.Lo,y.La,y.Lc,y.Lk⟩⟩
 by_cases D:x.last+1=x.ord.length
 ·have j:(((x.last:Nat):Int)==((l.length-1:Nat):Int))=true:=beq_iff_eq.2 jO;refine jA (aI @g (aI @r (aI @j (aI @wp (aI @or_true @true_and))))) ?_;refine O _ (.inl D) ?_ (fun c b=>by rw[aB _ _ b,aB _ _ b,aB _ _ b,aB _ _ b]);rw[get_eq];unfold iO;rw[if_pos (.inl D)];unfold dQ;dsimp only;rw[f];rfl
 have j:(((x.last:Nat):Int)==((l.length-1:Nat):Int))=false:=beq_eq_false_iff_ne.2 jO;by_cases C:x.ord.length<=x.reach
 ·have p:((l.length:Nat):Int)<=((x.reach:Nat):Int):=jO;refine jA (aI @g (aI @r (aI @j (aI @p (aI @wp (aI @or_true @true_and)))))) ?_;refine O _ (.inr C) ?_ (fun c b=>by rw[aB _ _ b,aB _ _ b,aB _ _ b,aB _ _ b]);rw[get_eq];unfold iO;rw[if_pos (.inr C)];unfold dQ;dsimp only;rw[f];rfl
 have p:¬((l.length:Nat):Int)<=((x.reach:Nat):Int):=jO;have T:IntKind.i64.wrap (2*((x.reach:Nat):Int))=((2*x.reach:Nat):Int):=by rw[aV jO jO];rfl
 have Q:(if(1:Int)<((2*x.reach:Nat):Int)then((2*x.reach:Nat):Int)else 1)=((max 1 (2*x.reach):Nat):Int):=by split<;>omega
 have e:iO x={x with cls:=x.bJ,bJ:=x.cls,bg:=0,reach:=max 1 (2*x.reach),bq:=[(0,0,l.length)]}:=by unfold iO;rw[if_neg (fun q=>q.elim D C),f,U]
 rw[e];refine jA (aI @g (aI @r (aI @T (aI @Q (aI @j (aI @p (aI @wp (aI @or_true @true_and)))))))) ?_;refine abO (vs:=pV (0,0,l.length)) rfl _ ?_
 have z:∀i:H,i.get m.p=some (dQ l {x with cls:=x.bJ,bJ:=x.cls,bg:=0,reach:=max 1 (2*x.reach)} {m with c:=m.a,a:=m.c})->(∀c,c≠m.p->i.get c=h.get c)->ae (WS L) n (bH 203 3 (.slice (some ⟨m.k,0,none⟩) 0 m.cp) (.slice (some ⟨n,0,none⟩) 1 1) fun v=>bc (jP m.p 5) v fun _=>aj []) (i.set n (some ⟨203,true,pV (0,0,l.length)⟩)) (n+1) fun _ h' n'=>jL L n l {x with cls:=x.bJ,bJ:=x.cls,bg:=0,reach:=max 1 (2*x.reach),bq:=[(0,0,l.length)]} m h' n':=fun i g3 I=>by
  have lk:=y.k.lt;have E:=y.k.ay (h':=i.set n (some ⟨203,true,pV (0,0,l.length)⟩)) (n':=n+1) jO (by rw[aB _ _ jO];exact I _ u);rw[f]at E;refine abN E (N:=0) (M':=1) (us:=[pV (0,0,l.length)]) rfl rfl (by intro t W;rw[CA.1 W];rfl) (aqd _) rfl ((get_eq _ _ _).trans rfl) jO jO (.inl A) (.inr R) _ fun Z s G=> ?_;have J:=(G m.p jO (Ne.symm u)).trans ((aB _ _ jO).trans g3);unfold dQ at J;have X:m.p<n+1+1:=jO;refine jA (aI @J (aI @wp (aI @or_true @true_and))) ?_;have w:∀(B:AB) c,c<n->c≠m.p->c≠m.k->(Z.set m.p (some B)).get c=h.get c:=fun B c b q1 q2=>by rw[aB _ _ q1,G _ jO q2,aB _ _ jO,I _ q1]
  refine y.stack (k:=n+1) (cp:=aU+(0+1)) (m':={m with c:=m.a,a:=m.c,k:=n+1,cp:=aU+(0+1)}) (.inr rfl) (get_eq _ _ _) ((w _ _ y.lo F (dS y.Lo y.Lk jD)).trans y.o) ((w _ _ y.la P (dS y.La y.Lk jD)).trans y.a) ((w _ _ y.lc cp (dS y.Lc y.Lk jD)).trans y.c) (s.ay (ai _) (aB _ _ jO)) jO jO jO
 refine z _ ((get_eq _ _ _).trans ?_) fun c b=>by rw[aB _ _ b,aB _ _ b,aB _ _ b,aB _ _ b]
 unfold dQ;dsimp only;rw[f];rfl
set_option maxHeartbeats 1000000 in
theorem aom(y:dJ h n L l x m)(hs:x.bq=[])(ol:x.ord.length=l.length)(cl:x.cls.length=l.length)(al:x.bJ.length=l.length)(E:∀i,i<l.length->x.ord.getD i 0<l.length)(h2:2<=l.length)(hN:l.length<=900000)(hr:x.reach<=2*l.length)(hd:x.done=false)(rn:x.bg<l.length)(v0:nq (bA l) x<=x.bg)(u9:x.last<=l.length):ae (WS L) n (eW lf (d+3) 186 #[jP m.p 0]) h n fun _ h' n'=>jL L n l (gU (bA l) x) m h' n':=by
 have g:=y.get;have hp:=y.lp;have lo:=y.lo;have la:=y.la;have wp:WS L m.p:=ox y.Lp jD jD;have A:WS L m.a:=ox y.La jD jD;have t:m.o≠m.p:=dS y.Lo y.Lp jD;have u:m.o≠m.a:=dS y.Lo y.La jD;have k:m.a≠m.p:=dS y.La y.Lp jD;have C:m.p≠m.a:=Ne.symm k;have cp:m.c≠m.p:=dS y.Lc y.Lp jD;have kp:m.k≠m.p:=dS y.Lk y.Lp jD;have ka:m.k≠m.a:=dS y.Lk y.La jD;have r:=y.o;unfold dQ at g;rw[aF (fun _=>WC) rfl];refine ae.aE ?_;unfold Lb;have i1:((x.bg:Nat):Int)<((l.length:Nat):Int):=jO;have s:=uo (l:=x.ord) (i:=x.bg) jO;have R:=E x.bg rn;have i3:((x.ord.getD x.bg 0:Nat):Int)<((l.length:Nat):Int):=jO;have B:IntKind.i64.wrap (((x.bg:Nat):Int)+1)=((x.bg+1:Nat):Int):=by rw[aV jO jO];rfl
 have j:x.ord.getD x.bg 0<(nV x.bJ).length:=by rw[zg];omega
 have D:∀(Z:H) (K:Nat),n<=K->dJ Z K L l x m->∀h':H,h'.get m.p=some (dQ l (bQ (bA l) x) m)->h'.get m.a=some ⟨3,true,nV (bQ (bA l) x).bJ⟩->(∀c,c≠m.p->c≠m.a->h'.get c=Z.get c)->dJ h' K L l (bQ (bA l) x) m:=fun Z K u7 J h' gp p U=>J.mX (x':=bQ (bA l) x) (us:=[]) gp ((U _ t u).trans J.o) ((U _ cp y.ca).trans J.c) p (U _ kp ka) rfl (fun q=>J.kc q) (ai _)
 have v:∀(h':H) (n':Nat),n<=n'->dJ h' n' L l (bQ (bA l) x) m->x.bg+1=l.length->ae (WS L) n (ak (eW lf (d+2)) 213 [jP m.p 0] fun c=>aj []) h' n' fun _ u0 T=>jL L n l (gU (bA l) x) m u0 T:=by
  intro h' n' Y y2 c
  have er:gU (bA l) x=iO (bQ (bA l) x):=by unfold gU;exact if_pos (show x.bg+1=x.ord.length by omega)
  refine aN aL (aol (lf:=lf) (d:=d+1) y2 hs ol h2 hN (by show nq (bA l) x<=_;omega) hr hd) Y (fun b _ hb=> .inr hb) fun v8 h8 n8 u6 v1 W=> ?_;refine jB ?_;rw[er];obtain⟨L',m',e1,e2,e3⟩:=W;exact⟨L',m',fun c hc=>e1 c jO,e2,e3⟩
 have w:x.bg+1≠l.length->gU (bA l) x=bQ (bA l) x:=fun c=>by unfold gU;exact if_neg (show¬x.bg+1=x.ord.length by omega)
 have Q:∀c:x.bg+1=l.length,(((x.bg+1:Nat):Int)==((l.length:Nat):Int))=true:=fun c=>beq_iff_eq.2 jO;have P:∀c:x.bg+1≠l.length,(((x.bg+1:Nat):Int)==((l.length:Nat):Int))=false:=fun c=>beq_eq_false_iff_ne.2 jO;by_cases N:x.bg=0
 ·have I:(((x.bg:Nat):Int)==0)=true:=by rw[N];rfl
  have f:nq (bA l) x=0:=by unfold nq;rw[if_pos N]
  have p:=y.a;by_cases c:x.bg+1=l.length
  ·have z:=Q c;try simp(disch:=first|omega|assumption) only[Nat.reduceAdd,Nat.reduceLT,RZ,g,r,p,I,z,i1,s,i3,B,j,A,wp,C,t,u,k,mg,or_true,true_and,ne_eq,not_false_eq_true]
   refine v _ _ (ai n) (D h n (ai n) y _ ?_ ?_ fun c q1 q2=>by rw[aB _ _ q1,aB _ _ q2,aB _ _ q1]) c
   ·rw[get_eq];unfold bQ dQ;dsimp only;rw[f];try rfl
   ·rw[aB _ _ k,get_eq];unfold bQ;dsimp only;rw[f,<-mg];rfl
  ·have z:=P c;rw[w c];try simp(disch:=first|omega|assumption) only[Nat.reduceAdd,Nat.reduceLT,RZ,g,r,p,I,z,i1,s,i3,B,j,A,wp,C,t,u,k,mg,or_true,true_and,ne_eq,not_false_eq_true]
   refine y.post (D h n (ai n) y _ ?_ ?_ fun c q1 q2=>by rw[aB _ _ q1,aB _ _ q2,aB _ _ q1])
   ·rw[get_eq];unfold bQ dQ;dsimp only;rw[f];try rfl
   ·rw[aB _ _ k,get_eq];unfold bQ;dsimp only;rw[f,<-mg];rfl
 have I:(((x.bg:Nat):Int)==0)=false:=beq_eq_false_iff_ne.2 jO;have w1:IntKind.i64.wrap (((x.bg:Nat):Int)-1)=((x.bg-1:Nat):Int):=by rw[aV jO jO];omega
 have v2:=uo (l:=x.ord) (i:=x.bg-1) jO;have i2:((x.bg-1:Nat):Int)<((l.length:Nat):Int):=jO;have w5:IntKind.i64.wrap (((x.last:Nat):Int)+1)=((x.last+1:Nat):Int):=by rw[aV jO jO];rfl
 refine jA (aI @g (aI @r (aI @I (aI @w1 (aI @i1 (aI @i2 (aI @s @v2))))))) ?_;refine aN aL (acs (lf:=lf) (d:=d) y R (E (x.bg-1) jO) cl hr hN) (ai n) (fun _ _ h=>h.elim) fun v3 G F e u1 X=> ?_;subst X;have o:dJ G F L l x m:=y.ay e (fun _ _=>rfl) fun c hc _ _=>u1 c hc id;have g:=o.get;have hp:=o.lp;have lo:=o.lo;have la:=o.la;have r:=o.o;have p:=o.a;unfold dQ at g;cases ab:rP (bA l) x (x.ord.getD x.bg 0) (x.ord.getD (x.bg-1) 0)with
 |true=>
  have f:nq (bA l) x=x.last+1:=by unfold nq;rw[if_neg N,if_pos ab]
  by_cases c:x.bg+1=l.length
  ·have z:=Q c;try simp(disch:=first|omega|assumption) only[Nat.reduceAdd,Nat.reduceLT,RZ,g,r,p,z,i1,s,i3,B,w5,j,A,wp,C,t,u,k,mg,or_true,true_and,ne_eq,not_false_eq_true]
   refine v _ _ e (D G F e o _ ?_ ?_ fun c q1 q2=>by rw[aB _ _ q1,aB _ _ q2,aB _ _ q1]) c
   ·rw[get_eq];unfold bQ dQ;dsimp only;rw[f];try rfl
   ·rw[aB _ _ k,get_eq];unfold bQ;dsimp only;rw[f]
  ·have z:=P c;rw[w c];try simp(disch:=first|omega|assumption) only[Nat.reduceAdd,Nat.reduceLT,RZ,g,r,p,z,i1,s,i3,B,w5,j,A,wp,C,t,u,k,mg,or_true,true_and,ne_eq,not_false_eq_true]
   refine⟨L,m,fun _ _=>rfl,rfl,D G F e o _ ?_ ?_ fun c q1 q2=>by rw[aB _ _ q1,aB _ _ q2,aB _ _ q1]⟩
   ·rw[get_eq];unfold bQ dQ;dsimp only;rw[f];try rfl
   ·rw[aB _ _ k,get_eq];unfold bQ;dsimp only;rw[f]
 |false=>
  have f:nq (bA l) x=x.last:=by unfold nq;rw[if_neg N,if_neg (by rw[ab];decide)]
  by_cases c:x.bg+1=l.length
  ·have z:=Q c;try simp(disch:=first|omega|assumption) only[Nat.reduceAdd,Nat.reduceLT,RZ,g,r,p,z,i1,s,i3,B,j,A,wp,C,t,u,k,mg,or_true,true_and,ne_eq,not_false_eq_true]
   refine v _ _ e (D G F e o _ ?_ ?_ fun c q1 q2=>by rw[aB _ _ q1,aB _ _ q2]) c
   ·rw[get_eq];unfold bQ dQ;dsimp only;rw[f];try rfl
   ·rw[aB _ _ k,get_eq];unfold bQ;dsimp only;rw[f]
  ·have z:=P c;rw[w c];try simp(disch:=first|omega|assumption) only[Nat.reduceAdd,Nat.reduceLT,RZ,g,r,p,z,i1,s,i3,B,j,A,wp,C,t,u,k,mg,or_true,true_and,ne_eq,not_false_eq_true]
   refine⟨L,m,fun _ _=>rfl,rfl,D G F e o _ ?_ ?_ fun c q1 q2=>by rw[aB _ _ q1,aB _ _ q2]⟩
   ·rw[get_eq];unfold bQ dQ;dsimp only;rw[f];try rfl
   ·rw[aB _ _ k,get_eq];unfold bQ;dsimp only;rw[f]
end
theorem aon(s:ByteArray)(x:SS):(nu s x).steps=x.steps:=by
 unfold nu nn Sp.aq7 iy mf gU iO bQ
 repeat' split
 all_goals rfl
theorem aoo(x:SS):(cL x).steps=x.steps:=by
 unfold cL
 repeat' split
 all_goals rfl
structure acu (l:List UInt8) (x:SS):Prop where
 ok:∃mm,Ok l.length mm x
 bq:x.bq.length<=10000000000
 stp:x.steps<=10000000000
theorem aop{l:List UInt8}(k:l.length<=900000){j:Nat}(c:j<fc (bA l)):acu l (fx (bA l) j):=by
 have b:=fE l;have f:=Ok.start (bA l).size 20 (NW _ jO);obtain⟨a,r,_⟩:=B7 (bA l) jO
 have q:¬(bA l).size<2:=by
  intro d;have:fc (bA l)=0:=by unfold fc;rw[if_pos d]
  omega
 obtain⟨m,q1,q2⟩:=NU (bA l) _ f j (fun i h=>a i jO);have e:=q2 (a j c);have g:=acm (bA l).size 20 jO (NW _ jO);have p:(bA l).size*((4+3*20)*(20+2))<=900000*((4+3*20)*(20+2)):=zv _ jO;have o:=aob q1;have n:=Ha (bA l) j;rw[b]at q1;exact⟨⟨m,q1⟩,jO,jO⟩
theorem jL.trans{L L':Nat->Nat}{n a n2:Nat}{l:List UInt8}{x2:SS}{m m':Sm}{h2:H}(k:n<=a)(f:∀c,c<n->L' c=L c)(d:m'.p=m.p)(q:jL L' a l x2 m' h2 n2):jL L n l x2 m h2 n2:=by obtain⟨j,b,i,h,g⟩:=q;exact⟨j,b,fun c e=>(i c jO).trans (f c e),h.trans d,g⟩
section
variable {lf d n:Nat} {h:H} {L:Nat->Nat} {l:List UInt8} {x:SS} {m:Sm}
theorem aoq(y:dJ h n L l x m)(so:acu l x)(hd:x.done=false)(h2:2<=l.length)(C:l.length<=900000):ae (WS L) n (eW lf (d+4) 155 #[jP m.p 0]) h n fun _ h' n'=>jL L n l (ed (bA l) x) m h' n':=by
 obtain⟨⟨mm,Z⟩,G,ss⟩:=so;rw[aF (fun _=>VH) rfl];refine ae.aE ?_;unfold KC;obtain⟨T,Q⟩:∃T:M Value,T=(au (jP m.p 0) fun b=>ba 14 b fun c=>aM c fun d=>ar d (ii 1) fun e=>au (jP m.p 0) fun f=>ba 14 f fun g=>bc g e fun _=>aj []):=⟨_,rfl⟩;rw[<-Q];have w1:IntKind.i64.wrap (((x.steps:Nat):Int)+1)=((x.steps+1:Nat):Int):=by rw[aV jO jO];rfl
 have k:∀(x':SS) (h':H) (n':Nat),n<=n'->x'.steps=x.steps->jL L n l x' m h' n'->ae (WS L) n T h' n' fun _ U J=>jL L n l {x' with steps:=x.steps+1} m U J:=by rintro x' h' n' u2 N ⟨L',m',e1,w,A⟩;have g:=A.get;have hp:=A.lp;unfold dQ at g;rw[N,w]at g;rw[w]at hp;have wp:WS L m.p:=ox y.Lp jD jD;rw[Q];refine jA (aI @g (aI @w1 (aI @wp (aI @or_true @true_and)))) ?_;refine⟨L',m',e1,w, ?_⟩;have:=A.put (h':=h'.set m.p (some (dQ l {x' with steps:=x.steps+1} m'))) (x':={x' with steps:=x.steps+1}) (us:=[]) (by rw[w];exact get_eq _ _ _) (fun c _ hc=>aB _ _ (by rw[w]at hc;exact hc)) rfl rfl rfl rfl A.kc (ai n');exact this
 clear Q;refine aN aL (aog (lf:=lf) (d:=d+2) y jO hd) (ai n) (fun b _ P=> .inr P) fun v1 h1 u u1 u3 O=> ?_;obtain⟨rfl,s⟩:=O;have a:=Z.join;have D:(cL x).done=false:=by rw[NK];exact hd
 have X:=aoo x
 have kj:(cL x).bq.length<=10000000000:=by
  unfold cL;split
  ·exact G
  ·rename_i p r q;split
   ·rw[q,ct]at G;show r.length<=_;omega
   ·exact G
 have es:ed (bA l) x={nu (bA l) (cL x)with steps:=x.steps+1}:=rfl;have i:=aon (bA l) (cL x);rw[X]at i;have jt:=fun p r (q:(cL x).bq=p::r) h0=>join_top q h0 Z;rw[es];generalize cL x=z at s a D X kj i jt⊢;have g:=s.get;have hp:=s.lp;unfold dQ at g;unfold nu at i⊢;have B:∀b,b<u->WS L b->u<=b∨WS L b:=fun b _ P=> .inr P;by_cases c1:0<z.hi
 ·have v:(0:Int)<((z.hi:Nat):Int):=jO;have K:=a.merge.resolve_left jO;obtain⟨m1,m2,m3,m4,m5,m6,m7,m8,m9,u0⟩:=K;have K:=a.merge.resolve_left jO;have W:IntKind.i64.wrap (((z.mid:Nat):Int)-((z.lo:Nat):Int))=((z.mid-z.lo:Nat):Int):=by rw[aV jO jO];omega
  rw[if_pos c1]at i⊢;by_cases c2:z.laid<z.mid-z.lo
  ·have E:((z.laid:Nat):Int)<((z.mid-z.lo:Nat):Int):=jO;rw[if_pos c2]at i⊢;refine jA (aI @g (aI @v (aI @W @E))) ?_;refine aN aL (aoh (lf:=lf) (d:=d+2) s jO jO a.ol a.al C) (ai u) B fun F R I o t j=> ?_;obtain⟨rfl,y8⟩:=j;exact k _ _ _ (ai _) i (s.post y8)
  ·have E:¬((z.laid:Nat):Int)<((z.mid-z.lo:Nat):Int):=jO;rw[if_neg c2]at i⊢;refine jA (aI @g (aI @v (aI @W @E))) ?_;refine aN aL (aoj (lf:=lf) (d:=d) s K jO a.ol a.cl a.al a.ord (by have:=a.nv;omega) C) (ai u) B fun F R I o t j=> ?_;exact k _ _ _ o i ⟨L,m,fun _ _=>rfl,rfl,j⟩
 ·have v:¬(0:Int)<((z.hi:Nat):Int):=jO;have h0:z.hi=0:=jO;rw[if_neg c1]at i⊢;cases q:z.bq with
  |nil=>rw[q]at i g;have rn:=a.bg D;have la:=a.last;have lS:=ab5 (bA l) a;refine jA (aI @g (aI @v @bE)) ?_;refine aN aL (aom (lf:=lf) (d:=d) s q a.ol a.cl a.al a.ord h2 C a.nv D rn lS la) (ai u) B fun F R I o t j=> ?_;exact k _ _ _ o i j
  |cons p r=>rw[q]at i g;rw[ct]at g;have Y:=a.bq p (by rw[q];simp);have z3:(0:Int)<((r.length+1:Nat):Int):=jO;refine jA (aI @g (aI @v @z3)) ?_;refine aN aL (aok (lf:=lf) (d:=d+2) s q Y.1 Y.2.1 h2 D jO C) (ai u) B fun F R I o t j=> ?_;exact k _ _ _ o i j
def Hb(l:List UInt8)(j:Nat)(a:Int):Nat:=min a.toNat (fc (bA l)-j)
theorem aor{j:Nat}(y:dJ h n L l (fx (bA l) j) m)(R:j<=fc (bA l))(p:l.length<=900000)(a:Int)(I:a<=2000000000000)(F:fc (bA l)<lf):ae (WS L) n (eW lf (d+5) 121 #[jP m.p 0,jI a]) h n fun C h' n'=>C=jI (Hb l j a:Int)∧jL L n l (fx (bA l) (j+Hb l j a)) m h' n':=by
 have g:=y.get;have s:=y.lp;have Q:=aoc (bA l) (by rw[fE];exact p);unfold dQ at g;rw[Ha]at g;rw[aF (fun _=>UC) rfl];refine ae.aE ?_;unfold EE;refine jA @g ?_;obtain⟨G,hG⟩:∃G,Hb l j a=G:=⟨_,rfl⟩;have J:G=min a.toNat (fc (bA l)-j):=hG.symm;rw[hG];refine cG G (fun x i (_:Unit)=>vF lf (eW lf (d+4)) x (AE lf (eW lf (d+4))) (jP m.p 0) (jI a) (jI 0) (jI (j:Int)) (.bool false)) (fun i _ h' n'=>n<=n'∧jL L n l (fx (bA l) (j+i)) m h' n') ?_ ?_ lf 0 () h n (bU _) jO ⟨ai n,⟨L,m,fun _ _=>rfl,rfl,y⟩⟩
 ·rintro x _ h' n' ⟨q1,z,t,r,f,e⟩;have g:=e.get;have s:=e.lp;unfold dQ at g;rw[Ha,f]at g;rw[f]at s;have k:IntKind.i64.wrap (((j+G:Nat):Int)-(j:Int))=(G:Int):=by rw[aV jO jO];omega
  rw[vF];cases hd:(fx (bA l) (j+G)).done with
  |true=>rw[hd]at g;refine jA (aI @g @gE) ?_;unfold AE;refine jA (aI @g @k) ?_;exact⟨z,t,r,f,e⟩
  |false=>
   rw[hd]at g
   have c:¬(G:Int)<a:=by intro c;have:j+G=fc (bA l):=jO;rw[this,NX (bA l) (by rw[fE];exact p)]at hd;cases hd
   refine jA (aI @g (aI @gO (aI @k @c))) ?_;unfold AE;refine jA (aI @g @k) ?_;exact⟨z,t,r,f,e⟩
 ·rintro x i _ h' n' T ⟨q1,z,t,r,f,e⟩ next;have g:=e.get;have s:=e.lp;have o:j+i<fc (bA l):=jO;have B:=aco (bA l) (by rw[fE];exact p) (j+i) o
  have N:2<=l.length:=by
   refine zF fun q=> ?_;have:fc (bA l)=0:=by unfold fc;rw[if_pos (by rw[fE];omega)]
   omega
  have A:=aoq (lf:=lf) (d:=d) e (aop p o) B N p;unfold dQ at g;rw[Ha,B,f]at g;rw[f]at s A;have k:IntKind.i64.wrap (((j+i:Nat):Int)-(j:Int))=(i:Int):=by rw[aV jO jO];omega
  have c:(i:Int)<a:=jO;rw[vF];refine jA (aI @g (aI @gO (aI @k @c))) ?_;refine aN aL A q1 (fun b I u=> ?_) fun P K D E O v=> ?_
  ·by_cases w:b<n
   ·refine .inr ?_;unfold WS at u⊢;rw[r b w]at u;exact u
   ·exact .inl jO
  ·refine next () K D ⟨jO, ?_⟩;rw[<-iA,NT];exact jL.trans q1 r f v
end
end Go.Proofs.YtcehhgppfahbkaaGreatDoor
namespace Go.Proofs.YtcehhgppfahbkaaGreatDoor
open Go.RowKit Ev Sp Cn
theorem B9(l:List Nat):nV l=aH .i64 (iN l):=by unfold nV aH iN;rw[qA];rfl
section
variable {lf d n:Nat} {h:H} {L:Nat->Nat} {l:List UInt8} {x:SS} {m:Sm}
theorem Hc(y:dJ h n L l x m):ae (fun _=>False) n (eW lf (d+1) 122 #[jP m.p 0]) h n fun a h' n'=>a= .bool x.done∧h'=h∧n'=n:=by have g:=y.get;have b:=y.lp;unfold dQ at g;rw[aF (fun _=>UD) rfl];refine ae.aE ?_;unfold Kg;exact jC @g
theorem aos(y:dJ h n L l x m)(hd:x.done=true)(c:x.ord.length=l.length)(s:1<=l.length)(q:l.length<=900000):ae (fun _=>False) n (eW lf (d+2) 123 #[jP m.p 0]) h n fun b h' n'=>Own h' n n' 3 b (nV x.ord):=by
 have g:=y.get;have p:=y.lp;have a:=Hc (lf:=lf) (d:=d) y;rw[hd]at a;unfold dQ at g;rw[aF (fun _=>UE) rfl];refine ae.aE ?_;unfold Kh;refine bz a (ai n) (fun _ _ h=>h.elim) ?_
 have i:Row h n 3 .i64 (.slice (some ⟨m.o,0,none⟩) l.length l.length) (iN x.ord):=by
  refine .inr ⟨m.o,0,l.length,true,nV x.ord,by rw[bB,c],y.o,y.lo, ?_, ?_,by rw[bB];omega⟩
  ·rw[bB,zg];omega
  ·rw[dx,B9,bB];exact fG (by rw[cj,bB];exact ai _)
 refine jA (aI @g @gE) ?_;refine aN aL (yz lf d n h _ (iN x.ord) i (by rw[bB];omega) (by rw[bB];omega)) (ai _) (fun _ _ h=>h.elim) fun k r o f j e=> ?_;refine jB ?_;rw[B9];exact e.1 (by rw[bB];omega)
theorem NZ(n:Nat):bD n (jI 0)=nV (bD n 0):=by unfold nV;rw[zB];rfl
def mi(n i:Nat):List Nat:=(aY n).map fun k=>if k<i then k else 0
theorem aot(n i:Nat):(mi n i).length=n:=by unfold mi;simp
theorem aou(n:Nat):mi n 0=bD n 0:=by unfold mi;refine List.eq_replicate_iff.2 ⟨jS,fun b a=> ?_⟩;obtain⟨k,_,rfl⟩:=List.mem_map.1 a;rfl
theorem aov(n:Nat):mi n n=aY n:=by
 unfold mi
 conv=>rhs;rw[<-arq (aY n)]
 refine mq fun k a=> ?_;rw[if_pos (List.mem_range.1 a)];rfl
theorem aow{n i:Nat}(h:i<n):(mi n i).set i i=mi n (i+1):=by
 refine List.ext_getElem (by simp[mi]) fun k a f=> ?_;have e:∀j (d:k<(mi n j).length),(mi n j)[k]=if k<j then k else 0:=fun j d=>by simp[mi]
 rw[List.getElem_set,e (i+1),e i (by rw[List.length_set]at a;exact a)];by_cases c:i=k
 ·rw[if_pos c,if_pos jO];exact c
 ·rw[if_neg c];by_cases b:k<i
  ·rw[if_pos b,if_pos jO]
  ·rw[if_neg b,if_neg jO]
theorem aox(v:1<=l.length)(I:l.length<=900000)(C:l.length<lf)(L:Nat->Nat):ae (fun _=>False) n (eW lf (d+1) 120 #[.string ⟨l.toArray⟩]) h n fun x h' n'=>∃L' m,x= .tuple #[jP m.p 0,jI 0]∧(∀c,c<n->L' c=L c)∧(∀c,n<=c->21<=L' c∧L' c<=24)∧n<=m.p∧dJ h' n' L' l (fx (bA l) 0) m:=by
 rw[aF (fun _=>Uz) rfl];refine ae.aE ?_;unfold ED;have G:¬(900000:Int)<((l.length:Nat):Int):=jO;refine jA @G ?_;refine Ev.run_make trivial (e:=3) (z:=jI 0) l.length l.length _ (ai _) jO ?_;refine Ev.run_make trivial (e:=3) (z:=jI 0) l.length l.length _ (ai _) jO ?_;refine Ev.run_make trivial (e:=3) (z:=jI 0) l.length l.length _ (ai _) jO ?_;refine jB ?_;refine kK trivial _ _ ?_;refine jB ?_;obtain⟨B,p⟩:∃B:AB,B=⟨205,true,[.string ⟨l.toArray⟩,.slice (some ⟨n,0,none⟩) l.length l.length,.slice (some ⟨n+1,0,none⟩) l.length l.length,.slice (some ⟨n+1+1,0,none⟩) l.length l.length,ii 0,nS,ii 0,ii 0,ii 0,ii 0,ii 0,ii 0,ii 0,ii 0,ii 0,.bool (decide (((l.length:Nat):Int)<2))]⟩:=⟨_,rfl⟩;rw[<-p]
 refine cG l.length (fun q i (_:Unit)=>vE lf (eW lf d) q (EC lf (eW lf d)) (.string ⟨l.toArray⟩) nP (ii 0) (jI (l.length:Int)) (jP (n+1+1+1) 0) (.bool false) (jI (l.length:Int)) (jI (i:Int)))
  (fun i _ h' n'=>n'=n+1+1+1+1∧h'.get n=some ⟨3,true,nV (mi l.length i)⟩∧h'.get (n+1)=some ⟨3,true,nV (bD l.length 0)⟩∧h'.get (n+1+1)=some ⟨3,true,nV (bD l.length 0)⟩∧h'.get (n+1+1+1)=some B) ?_ ?_ lf 0 () _ _ (bU _) jO ⟨rfl, ?_, ?_, ?_,get_eq _ _ _⟩
 ·rintro q _ h' n' ⟨rfl,q1,q2,g,a⟩;rw[aov]at q1;rw[p]at a;rw[vE];refine jA @bE ?_;unfold EC;refine jB ?_;refine abO (vs:=pV (0,0,l.length)) rfl _ ?_;have f:=(aB h' (some ⟨203,true,pV (0,0,l.length)⟩) (show n+1+1+1≠n+1+1+1+1 by omega)).trans a;refine jA (aI @f (aI @ai (aI @or_false (aI @true_and @true_or)))) ?_
  have F:fx (bA l) 0=fD l.length:=by show fD (bA l).size=_;rw[fE]
  have E:decide (((l.length:Nat):Int)<2)=decide (l.length<2):=by
   by_cases c:l.length<2
   ·rw[decide_eq_true c,decide_eq_true jO]
   ·rw[decide_eq_false c,decide_eq_false jO]
  rw[F,E];have b:∀{c:Nat},c≠n+1+1+1->c≠n+1+1+1+1->∀A B:AB,((h'.set (n+1+1+1+1) (some A)).set (n+1+1+1) (some B)).get c=h'.get c:=fun v D A B=>by rw[aB _ _ v,aB _ _ D]
  refine⟨jO,fun c=>if c<n then L c else if c=n then 22 else if c=n+1 then 23 else if c=n+1+1 then 23 else if c=n+1+1+1 then 21 else 24,⟨n+1+1+1,n,n+1,n+1+1,n+1+1+1+1,1⟩,rfl,fun c u=>if_pos u,fun c u=> ?_,by show n<=n+1+1+1;omega, ?_⟩
  ·dsimp only;rw[if_neg jO]
   repeat' split
   all_goals exact⟨jD,jD⟩
  ·have lt:¬n+1<n:=jO;have o:¬n+1+1<n:=jO;have k:¬n+1+1+1<n:=jO;have j:¬n+1+1+1+1<n:=jO;refine⟨get_eq _ _ _,by show n+1+1+1<_;omega,by show n<_;omega,by show n+1<_;omega,by show n+1+1<_;omega,(b (c:=n) jO jO _ _).trans q1,(b (c:=n+1) jO jO _ _).trans q2,(b (c:=n+1+1) jO jO _ _).trans g,by show n+1≠n+1+1;omega, ?_,fun _=> .inr ⟨rfl,rfl⟩, ?_, ?_, ?_, ?_, ?_⟩
   ·refine⟨⟨pV (0,0,l.length),(aB _ _ (by show n+1+1+1+1≠_;omega)).trans (get_eq _ _ _),ai 3,rfl⟩,by show n+1+1+1+1<_;omega,fun t r=> ?_,ai 1⟩;rw[show jd (fD l.length).bq=[pV (0,0,l.length)]from rfl]at r;rw[CA.1 r];rfl
   ·dsimp only;rw[if_neg k,if_neg jO,if_neg jO,if_neg jO,if_pos rfl]
   ·dsimp only;rw[if_neg jO,if_pos rfl]
   ·dsimp only;rw[if_neg lt,if_neg jO,if_pos rfl]
   ·dsimp only;rw[if_neg o,if_neg jO,if_neg jO,if_pos rfl]
   ·dsimp only;rw[if_neg j,if_neg jO,if_neg jO,if_neg jO,if_neg jO]
 ·rintro q i _ h' n' s ⟨rfl,q1,q2,g,a⟩ next;have f:=a;rw[p]at f;have i1:(i:Int)<((l.length:Nat):Int):=jO;have w:(i:Int)+1=((i+1:Nat):Int):=rfl;have y:i<(nV (mi l.length i)).length:=by rw[zg,aot];exact s
  have b:n+1+1+1≠n:=jO;rw[vE];refine jA (aI @f (aI @q1 (aI @i1 (aI @y (aI @b (aI @mg (aI @ai (aI @or_false (aI @true_and @true_or))))))))) ?_;rw[w];refine next () _ _ ⟨rfl, ?_, ?_, ?_, ?_⟩
  ·rw[get_eq,aow s]
  ·rw[aB _ _ jO];exact q2
  ·rw[aB _ _ jO];exact g
  ·rw[aB _ _ jO];exact a
 ·rw[aB _ _ jO,aB _ _ jO,aB _ _ jO,get_eq,aou,NZ]
 ·rw[aB _ _ jO,aB _ _ jO,get_eq,NZ]
 ·rw[aB _ _ jO,get_eq,NZ]
end
def zh(l:List UInt8)(i:Nat):Nat:=(l.getD (if i=0 then l.length-1 else i-1) 0).toNat
def gD(l:List UInt8):List Nat:=(fx (bA l) (fc (bA l))).ord
def oy(l:List UInt8)(k:Nat):List Nat:=((gD l).take k).map (zh l)
def pz(l:List UInt8):Nat->Nat
 |0=>0
 |k+1=>if(gD l).getD k 0=0 then k else pz l k
def TS(l:List UInt8):Nat:=fc (bA l)
structure Tm where
 a:Nat
 s:Sm
 ov:Value
 lv:Value
def pA(l:List UInt8)(t:Nat)(m:Tm):AB:=⟨155,true,[.string ⟨l.toArray⟩,jP m.s.p 0,m.ov,m.lv,jI (pz l (t-TS l):Int)]⟩
structure pB (h:H) (n:Nat) (L:Nat->Nat) (l:List UInt8) (t:Nat) (ob:Bool) (m:Tm):Prop where
 get:h.get m.a=some (pA l t m)
 lt:m.a<n
 la:L m.a=25
 so:dJ h n L l (fx (bA l) (min t (TS l))) m.s
 ord:if ob=true then Own h 0 n 3 m.ov (nV (gD l))else m.ov=nS
 lo:∀b,az m.ov b->L b=26
 qx:Own h 0 n 5 m.lv (cF (oy l (t-TS l)))
 ll:∀b,az m.lv b->L b=27
 N0:TS l<t->ob=true
 N1:ob=true->TS l<=t
 Ca:t<=TS l+l.length
def pC(L:Nat->Nat):Nat->Prop:=fun c=>21<=L c∧L c<=27
theorem N2{L:Nat->Nat}{c i:Nat}(h:L c=i)(a:21<=i)(h2:i<=27):pC L c:=by unfold pC;omega
theorem pB.ay{h h':H}{n n':Nat}{L L':Nat->Nat}{l:List UInt8}{t:Nat}{g:Bool}{m:Tm}(y:pB h n L l t g m)(d:n<=n')(f:∀c,c<n->L' c=L c)(e:∀c,c<n->21<=L c->L c<=27->h'.get c=h.get c):pB h' n' L' l t g m:=by
 have i:∀b,az m.ov b->b<n:=fun b a=>by
  have:=y.ord;split at this
  ·exact(this.lt a).2
  ·rw[this]at a;exact a.not_nil.elim
 refine⟨(e _ y.lt (by rw[y.la];decide) (by rw[y.la];decide)).trans y.get,eD y.lt d,(f _ y.lt).trans y.la,y.so.ay d f fun c j k o=>e c j k jO, ?_,fun b a=>(f b (i b a)).trans (y.lo b a),y.qx.ay d fun b a=>e b (y.qx.lt a).2 (by rw[y.ll b a];decide) (by rw[y.ll b a];decide),fun b a=>(f b (y.qx.lt a).2).trans (y.ll b a),y.N0,y.N1,y.Ca⟩;have:=y.ord;by_cases c:g=true
 ·rw[if_pos c]at this⊢;exact this.ay d fun b a=>e b (this.lt a).2 (by rw[y.lo b a];decide) (by rw[y.lo b a];decide)
 ·rw[if_neg c]at this⊢;exact this
theorem rU{l:List UInt8}(a:l.length<=900000):(gD l).length=l.length:=by unfold gD;rw[aod (bA l) (by rw[fE];exact a),fE]
theorem aoy{l:List UInt8}(a:l.length<=900000){i:Nat}(c:i<l.length):(gD l).getD i 0<l.length:=by
 have d:=acp (bA l) (by rw[fE];exact a)
 have b:((gD l).getD i 0:Int)∈Pl.jH (bA l) (bA l).size:=by rw[<-d];refine List.mem_map.2 ⟨_, ?_,rfl⟩;rw[aC,aJ (by rw[rU a];exact c)];exact cb _
 have:=(Pl.B4 (bA l) _ _).1 b;rw[fE]at this;omega
theorem acv{l:List UInt8}(a:l.length<=900000){k:Nat}(b:k<=l.length):(oy l k).length=k:=by unfold oy;rw[cu,cB,rU a];omega
theorem aoz{l:List UInt8}(c:l.length<=900000){k:Nat}(b:k<l.length):oy l (k+1)=oy l k++[zh l ((gD l).getD k 0)]:=by
 have a:k<(gD l).length:=by rw[rU c];exact b
 unfold oy;rw[fq a,dU,aC,aJ a];rfl
section
variable {lf d n:Nat} {h:H} {L:Nat->Nat} {l:List UInt8} {t:Nat} {ob:Bool} {m:Tm}
theorem aoA{i:Nat}(e:i<l.length)(f:l.length<=900000):ae (fun _=>False) n (eW lf (d+1) 157 #[.string ⟨l.toArray⟩,jI (i:Int)]) h n fun b h' n'=>b= .int .u8 (zh l i:Int)∧h'=h∧n'=n:=by
 rw[aF (fun _=>VJ) rfl];refine ae.aE ?_;unfold KE zh;by_cases c:i=0
 ·have z:((i:Int)==0)=true:=by rw[c];rfl
  have a:IntKind.i64.wrap (((l.length:Nat):Int)-1)=((l.length-1:Nat):Int):=by rw[aV jO jO];omega
  have i1:((l.length-1:Nat):Int)<((l.length:Nat):Int):=jO;rw[if_pos c];exact jC (aI @z (aI @a @i1));all_goals (first|trivial|rfl|exact⟨rfl,rfl,rfl⟩|exact⟨rfl,rfl⟩)
 ·have z:((i:Int)==0)=false:=beq_eq_false_iff_ne.2 jO;have a:IntKind.i64.wrap ((i:Int)-1)=((i-1:Nat):Int):=by rw[aV jO jO];omega
  have i1:((i-1:Nat):Int)<((l.length:Nat):Int):=jO;rw[if_neg c];exact jC (aI @z (aI @a @i1));all_goals (first|trivial|rfl|exact⟨rfl,rfl,rfl⟩|exact⟨rfl,rfl⟩)
theorem Cb(y:pB h n L l t ob m)(f:l.length<=900000):ae (fun _=>False) n (eW lf (d+1) 92 #[jP m.a 0]) h n fun b h' n'=>b= .bool (decide (t-TS l=l.length))∧h'=h∧n'=n:=by
 have g:=y.get;have j:=y.lt;have i:=y.Ca;obtain⟨a,c,e⟩:=y.qx.Ga.len;rw[iV,acv f jO]at e;unfold pA at g;rw[e]at g
 have z:(((t-TS l:Nat):Int)==((l.length:Nat):Int))=decide (t-TS l=l.length):=by
  by_cases c:t-TS l=l.length
  ·rw[decide_eq_true c,c];exact beq_iff_eq.2 rfl
  ·rw[decide_eq_false c];exact beq_eq_false_iff_ne.2 jO
 rw[aF (fun _=>Tl) rfl];refine ae.aE ?_;unfold J2;exact jC (aI @g @z)
def mj(L:Nat->Nat)(n:Nat)(l:List UInt8)(t:Nat)(ob:Bool)(m:Tm)(h':H)(n':Nat):Prop:=∃b a,(∀c,c<n->b c=L c)∧a.a=m.a∧pB h' n' b l t ob a
theorem aoB(y:pB h n L l t true m)(A:TS l<=t)(h2:t<TS l+l.length)(w:l.length<=900000):ae (pC L) n (eW lf (d+2) 124 #[jP m.a 0]) h n fun _ h' n'=>mj L n l (t+1) true m h' n':=by
 have g:=y.get;have I:=y.lt;have K:pC L m.a:=N2 y.la jD jD;have u:=y.qx;have o:=y.ord;rw[if_pos rfl]at o;obtain⟨k,hk⟩:∃k,t-TS l=k:=⟨_,rfl⟩;have G:k<l.length:=jO;have F:=acv w (Nat.le_of_lt G);have k1:t+1-TS l=k+1:=jO;obtain⟨a,c,e⟩:=u.Ga.len;rw[iV,hk,F]at e;have al:=aoy w G;rw[B9]at o;obtain⟨bb,u0,cap,oo,ks,ev,hg,u2,_,_,_,Q⟩:=o.row.some (by rw[bB,rU w];omega);have X:=Q k (by rw[bB,rU w];exact G);rw[iq]at X;rw[bB,rU w]at ev;unfold pA at g;rw[hk]at g u;have g0:=g;rw[e,ev]at g;have i1:(k:Int)<((l.length:Nat):Int):=jO;rw[aF (fun _=>UF) rfl];refine ae.aE ?_;unfold Ki;have u4:m.a≠bb:=dS y.la (y.lo bb (by rw[ev];exact⟨_,_,_,rfl⟩)) jD
 have r:∀(A:H),A.get m.a=some ⟨155,true,[.string ⟨l.toArray⟩,jP m.s.p 0,m.ov,.slice a k c,jI (pz l (k+1):Int)]⟩->(∀c,c≠m.a->A.get c=h.get c)->ae (pC L) n ((bx (aM (jP m.a 3) M.ret)).bind fun f=>(bx (aM (jP m.a 0) M.ret)).bind fun j=>(bx (ak (eW lf (d+1)) 157 [j.1,jI ((gD l).getD k 0:Nat)] M.ret)).bind fun l=>(bx (bV 5 1 l.1 M.ret)).bind fun s=>(bx (bH 5 1 f.1 s.1 M.ret)).bind fun n=>(bx (bc (jP m.a 3) n.1 M.ret)).bind fun q=>lT (!(fs f.2 l.2)) (aj [])) A n fun _ h' n'=>mj L n l (t+1) true m h' n':=by
  intro A U k2;have C:Own A 0 n 5 m.lv (cF (oy l k)):=u.ay (ai n) fun b i=>k2 b (dS (y.ll b i) y.la jD);refine jB ?_;refine tY (m:=n) trivial m.a 3 _ U I (ai _) rfl fun T1 t1=> ?_;refine jB ?_;refine tY (m:=n) trivial m.a 0 _ U I (ai _) rfl fun T2 t2=> ?_;refine jB ?_;refine wR aL (aoA (lf:=lf) (d:=d) al w) (ai n) fun v3 h3 x T3 u1 u3 P t3=> ?_;obtain⟨rfl,rfl,rfl⟩:=P;refine jB ?_;rw[<-e];refine akk trivial rfl C (by rw[iV,F];omega) (fun b i=> .inr (N2 (y.ll b i) jD jD)) _ fun w4 T4 T5 h4 g4 k4=> ?_;refine jB ?_;have O:¬az m.lv m.a:=fun q=>dS (y.ll _ q) y.la jD rfl;have g5:=(k4 m.a I O).trans U;refine akF m.a 3 _ _ g5 jO (show 3<5 by decide) rfl (.inr K) fun T6=> ?_;try simp(disch:=first|omega|assumption) only[Nat.reduceAdd,Nat.reduceLT,RZ,t1.gq t3,gO,Bool.and_self,oU]
  have J:∀c,c<x->(if c<x then L c else 27)=L c:=fun c v=>if_pos v
  have Z:∀c,c<x->L c≠25->L c≠27->∀B:AB,(h4.set m.a (some B)).get c=h.get c:=fun c v q1 q2 B=>by have ca:c≠m.a:=fun q=>q1 (by rw[q];exact y.la);rw[aB _ _ ca,k4 c v (fun q=>q2 (y.ll c q))];exact k2 c ca
  refine⟨fun c=>if c<x then L c else 27,{m with lv:= .slice (some ⟨x+1,0,none⟩) (k+1) (aU+(k+1))},J,rfl, ?_⟩;have mt:min (t+1) (TS l)=min t (TS l):=jO;refine⟨?_,by show m.a<_;omega,(J _ I).trans y.la, ?_, ?_, ?_, ?_, ?_,fun _=>rfl,fun _=>by omega,jO⟩
  ·rw[get_eq];unfold pA;rw[k1,iV,F];try rfl
  ·rw[mt];exact y.so.ay jO J fun c v q1 q2=>Z c v jO jO _
  ·rw[if_pos rfl,B9];exact o.ay jO fun b i=>Z b (o.lt i).2 (by rw[y.lo b i];decide) (by rw[y.lo b i];decide) _
  ·exact fun b i=>(J b (o.lt i).2).trans (y.lo b i)
  ·rw[k1,aoz w G,Mj];refine Own.mk' ((aB _ _ jO).trans g4) (bU _) jO ?_;rw[aG,iV,F];try rfl
  ·intro b i;have i:b=x+1:=i.inj;rw[i];exact if_neg jO
 obtain⟨T,R⟩:∃T:M Value,T=((bx (aM (jP m.a 3) M.ret)).bind fun f=>(bx (aM (jP m.a 0) M.ret)).bind fun j=>(bx (ak (eW lf (d+1)) 157 [j.1,jI ((gD l).getD k 0:Nat)] M.ret)).bind fun l=>(bx (bV 5 1 l.1 M.ret)).bind fun s=>(bx (bH 5 1 f.1 s.1 M.ret)).bind fun n=>(bx (bc (jP m.a 3) n.1 M.ret)).bind fun q=>lT (!(fs f.2 l.2)) (aj [])):=⟨_,rfl⟩;rw[<-R]at r;obtain⟨N,D⟩:∃N,pz l (k+1)=N:=⟨_,rfl⟩;have p:(if(gD l).getD k 0=0 then k else pz l k)=N:=D;rw[D]at r;by_cases W:(gD l).getD k 0=0
 ·have z:((((gD l).getD k 0:Nat):Int)==0)=true:=by rw[W];rfl
  rw[if_pos W]at p;refine jA (aI @g (aI @hg (aI @X (aI @i1 (aI @z (aI @K (aI @or_true @true_and))))))) ?_;rw[<-R];refine r _ ?_ fun c v=>aB _ _ v;rw[get_eq,<-ev,p]
 ·have z:((((gD l).getD k 0:Nat):Int)==0)=false:=beq_eq_false_iff_ne.2 jO;rw[if_neg W]at p;refine jA (aI @g (aI @hg (aI @X (aI @i1 (aI @z (aI @K (aI @or_true @true_and))))))) ?_;rw[<-R];refine r _ ?_ fun _ _=>rfl;rw[g,<-ev,p]
end
def nA(l:List UInt8)(t:Nat)(a:Int):Nat:=min a.toNat (TS l+l.length-t)
def zi(l:List UInt8)(t:Nat)(b:Bool)(a:Int):Bool:=b||(decide (1<=a)&&decide (TS l<=t+nA l t a))
theorem N3{l:List UInt8}(a:l.length<=900000){j:Nat}(b:j<=TS l):(fx (bA l) j).done=decide (j=TS l):=by
 by_cases c:j=TS l
 ·rw[decide_eq_true c,c];exact NX (bA l) (by rw[fE];exact a)
 ·rw[decide_eq_false c];exact aco (bA l) (by rw[fE];exact a) j (by unfold TS at*;omega)
theorem mj.trans{L L':Nat->Nat}{n b n2:Nat}{l:List UInt8}{t:Nat}{a:Bool}{m m':Tm}{h2:H}(o:n<=b)(g:∀c,c<n->L' c=L c)(e:m'.a=m.a)(q:mj L' b l t a m' h2 n2):mj L n l t a m h2 n2:=by obtain⟨k,d,j,i,h⟩:=q;exact⟨k,d,fun c f=>(j c jO).trans (g c f),i.trans e,h⟩
section
variable {lf d n:Nat} {h:H} {L:Nat->Nat} {l:List UInt8} {t:Nat} {ob:Bool} {m:Tm}
theorem pB.sorted(y:pB h n L l t ob m){g:Nat}(E:min t (TS l)+g<=TS l){d:H}{j:Nat}(o:n<=j)(q:jL L n l (fx (bA l) (min t (TS l)+g)) m.s d j)(A:∀b,b<n->¬WS L b->d.get b=h.get b):mj L n l (t+g) ob m d j:=by
 obtain⟨D,v,e,C,B⟩:=q;have mt:min (t+g) (TS l)=min t (TS l)+g:=jO;have p:t+g-TS l=t-TS l:=jO;have z:=y.get;have r:=y.Ca;have i:=y.N0;have f:=y.N1;have k:∀c,c<n->25<=L c->d.get c=h.get c:=fun c x q=>A c x fun w=>by have:=w.2;omega
 have u:∀b,az m.ov b->b<n:=fun b a=>by
  have:=y.ord;split at this
  ·exact(this.lt a).2
  ·rw[this]at a;exact a.not_nil.elim
 refine⟨D,{m with s:=v},e,rfl,⟨?_,eD y.lt o,(e _ y.lt).trans y.la,by rw[mt];exact B, ?_,fun b a=>(e b (u b a)).trans (y.lo b a),by rw[p];exact y.qx.ay o fun b a=>k b (y.qx.lt a).2 (by rw[y.ll b a];decide),fun b a=>(e b (y.qx.lt a).2).trans (y.ll b a),fun q=>i jO,fun q=>by have:=f q;omega,jO⟩⟩
 ·rw[k m.a y.lt (by rw[y.la];decide),z];unfold pA;dsimp only;rw[C,p]
 ·have:=y.ord;by_cases c:ob=true
  ·rw[if_pos c]at this⊢;exact this.ay o fun b a=>k b (this.lt a).2 (by rw[y.lo b a];decide)
  ·rw[if_neg c]at this⊢;exact this
theorem aoC(Z:1<=l.length)(s:l.length<=900000){c:Int}(P:c<=2000000000000)(O:l.length+10<lf){e a u:Nat}{j:H}{F E:Bool}(N:n<=u)(W:a<=TS l+l.length)(Y:(e:Int)<=c)(post:mj L n l a (decide (TS l<=a)) m j u):ae (pC L) n (oW lf (eW lf (d+5)) lf (qb lf (eW lf (d+5))) (jP m.a 0) (jI c) (jI 0) (jI (e:Int)) (.bool F) (.bool E)) j u fun t h' n'=>∃G:Nat,G=(if TS l<=a then min (c.toNat-e) (TS l+l.length-a)else 0)∧t=jI ((e+G:Nat):Int)∧mj L n l (a+G) (decide (TS l<=a)) m h' n':=by
 obtain⟨G,hG⟩:∃G:Nat,G=(if TS l<=a then min (c.toNat-e) (TS l+l.length-a)else 0):=⟨_,rfl⟩;have GN:G<=l.length:=by rw[hG];split<;>omega
 refine(cG (Q:=fun t h' n'=>t=jI ((e+G:Nat):Int)∧mj L n l (a+G) (decide (TS l<=a)) m h' n') G (fun D i (_:Unit)=>oW lf (eW lf (d+5)) D (qb lf (eW lf (d+5))) (jP m.a 0) (jI c) (jI 0) (jI ((e+i:Nat):Int)) (.bool F) (.bool E)) (fun i _ h' n'=>n<=n'∧mj L n l (a+i) (decide (TS l<=a)) m h' n') ?_ ?_ lf 0 () j u (bU _) jO ⟨N,post⟩).mono fun t h' n' _ q=>⟨G,hG,q⟩
 ·rintro D _ h' n' ⟨q1,x,v,k,f,y⟩;have g:=y.get;have B:=y.lt;unfold pA at g;rw[f]at g B;have r:=Hc (lf:=lf) (d:=d+4) y.so;rw[N3 s jO]at r;have p:=Cb (lf:=lf) (d:=d+4) y s;rw[f]at p;rw[oW];refine jA @g ?_;refine bz r q1 (fun _ _ h=>h.elim) ?_;by_cases o:TS l<=a
  ·rw[decide_eq_true (by omega:min (a+G) (TS l)=TS l)];rw[if_pos o]at hG;by_cases w:((e+G:Nat):Int)<c
   ·refine jA @w ?_;refine bz p q1 (fun _ _ h=>h.elim) ?_;rw[decide_eq_true (by omega:a+G-TS l=l.length)];refine jA @gE ?_;unfold qb;refine jB ?_;exact⟨x,v,k,f,y⟩
   ·refine jA @w ?_;unfold qb;refine jB ?_;exact⟨x,v,k,f,y⟩
  ·rw[if_neg o]at hG;rw[decide_eq_false (by omega:¬min (a+G) (TS l)=TS l)];refine jB ?_;unfold qb;refine jB ?_;exact⟨x,v,k,f,y⟩
 ·rintro D i _ h' n' X ⟨q1,x,v,k,f,y⟩ next;have o:TS l<=a:=zF fun q=>by rw[if_neg q]at hG;omega
  rw[if_pos o]at hG;have g:=y.get;have B:=y.lt;unfold pA at g;rw[f]at g B;have r:=Hc (lf:=lf) (d:=d+4) y.so;rw[N3 s jO,decide_eq_true (by omega:min (a+i) (TS l)=TS l)]at r;have p:=Cb (lf:=lf) (d:=d+4) y s;rw[f,decide_eq_false (by omega:¬a+i-TS l=l.length)]at p;have w:((e+i:Nat):Int)<c:=jO;have I:IntKind.i64.wrap (((e+i:Nat):Int)+1)=((e+(i+1):Nat):Int):=by rw[aV jO jO];omega
  rw[decide_eq_true o]at y;have tt:=aoB (lf:=lf) (d:=d+3) y jO jO s;rw[f]at tt;rw[oW];refine jA @g ?_;refine bz r q1 (fun _ _ h=>h.elim) ?_;refine jA @w ?_;refine bz p q1 (fun _ _ h=>h.elim) ?_;refine jA @gO ?_;refine aN aL tt q1 (fun b P z=> ?_) fun U R J K T A=> ?_
  ·by_cases C:b<n
   ·refine .inr ?_;unfold pC at z⊢;rw[k b C]at z;exact z
   ·exact .inl jO
  ·refine jA @I ?_;refine next () R J ⟨jO, ?_⟩;rw[decide_eq_true o];exact mj.trans q1 k f A
theorem aoD(y:pB h n L l t ob m)(W:1<=l.length)(v:l.length<=900000)(a:Int)(u:a<=2000000000000)(u7:TS l+l.length+10<lf):ae (pC L) n (eW lf (d+6) 93 #[jP m.a 0,jI a]) h n fun R h' n'=>R=jI (nA l t a:Int)∧mj L n l (t+nA l t a) (zi l t ob a) m h' n':=by
 have g:=y.get;have N:=y.lt;have u3:=y.Ca;have u6:=y.N0;have w:=y.N1;unfold pA at g;rw[aF (fun _=>Tp) rfl];refine ae.aE ?_;unfold Eb;by_cases c0:a<1
 ·have e0:nA l t a=0:=by unfold nA;omega
  have Q:zi l t ob a=ob:=by unfold zi;rw[decide_eq_false (by omega:¬1<=a)];simp
  rw[e0,Q];refine jA @c0 ?_;exact⟨rfl,L,m,fun _ _=>rfl,rfl,y⟩
 refine jA (aI @c0 @g) ?_;refine aN aL (aor (lf:=lf) (d:=d) y.so (by show min t (TS l)<=TS l;omega) v a u (by show TS l<lf;omega)) (ai n) (fun b _ hw=> .inr ⟨hw.1,by have:=hw.2;omega⟩) fun v2 h2 J o Z X=> ?_;obtain⟨rfl,post⟩:=X;obtain⟨e,O⟩:∃e,Hb l (min t (TS l)) a=e:=⟨_,rfl⟩;have u9:e=min a.toNat (TS l-min t (TS l)):=O.symm;rw[O]at post⊢;obtain⟨C,T,Q,E,f⟩:=y.sorted jO o post Z;have g:=f.get;have N:=f.lt;have z:=f.la;have s:=f.Ca;unfold pA at g;rw[E]at g N z;have wa:pC L m.a:=N2 y.la jD jD
 have p:∀(U:H) (x:Nat) (b0 bm:Bool),n<=x->mj L n l (t+e) (decide (TS l<=t+e)) m U x->ae (pC L) n (oW lf (eW lf (d+5)) lf (qb lf (eW lf (d+5))) (jP m.a 0) (jI a) (jI 0) (jI (e:Int)) (.bool b0) (.bool bm)) U x fun R h' n'=>R=jI (nA l t a:Int)∧mj L n l (t+nA l t a) (zi l t ob a) m h' n':=by
  intro U x b0 bm A q;refine(aoC (lf:=lf) (d:=d) W v u jO A s jO q).mono ?_;rintro R h' n' _ ⟨G,hG,rfl,q2⟩
  have e3:e+G=nA l t a:=by unfold nA;rw[hG];split<;>omega
  have e4:decide (TS l<=t+e)=zi l t ob a:=by
   unfold zi;rw[decide_eq_true (by omega:1<=a),oA];by_cases c:TS l<=t+e
   ·rw[decide_eq_true c,decide_eq_true (by omega:TS l<=t+nA l t a),ar_]
   ·rw[if_neg c]at hG;rw[decide_eq_false c,decide_eq_false (by omega:¬TS l<=t+nA l t a),adk];cases ob with
    |false=>rfl
    |true=>exact absurd (w rfl) jO
  rw[e3];refine⟨rfl, ?_⟩;rw[<-e3,<-iA,<-e4];exact q2
 have j:=f.ord;cases k:ob with
 |true=>rw[k,if_pos rfl]at j;rw[k]at f w;have tt:=w rfl;have dt:decide (TS l<=t+e)=true:=decide_eq_true jO;rw[B9]at j;obtain⟨bb,u5,cap,oo,ks,ev,hg,v0,_,_,_,v1⟩:=j.row.some (by rw[bB,rU v];omega);rw[ev]at g;rw[k]at p;refine jA @g ?_;refine p _ _ _ _ o ?_;rw[dt];exact⟨C,T,Q,E,f⟩
 |false=>
  rw[k,if_neg jD]at j;rw[k]at f p;rw[j]at g;have sd:=Hc (lf:=lf) (d:=d+4) f.so;rw[N3 v jO]at sd;refine jA @g ?_;refine bz sd o (fun _ _ h=>h.elim) ?_;by_cases c:TS l<=t+e
  ·have mt:min (t+e) (TS l)=TS l:=jO;rw[decide_eq_true mt];have I:=f.so;rw[mt]at I;have oo:=aos (lf:=lf) (d:=d+3) I (NX (bA l) (by rw[fE];exact v)) (rU v) W v;refine jA @g ?_;refine aN aL oo o (fun _ _ h=>h.elim) fun v3 U x A P r=> ?_;have g3:=(P m.a N id).trans g;have Y:m.a<x:=jO;obtain⟨a3,c3,B⟩:=r.Ga.len;rw[zg,show(fx (bA l) (TS l)).ord.length=l.length from rU v]at B;rw[B];refine jA (aI @g3 (aI @wa (aI @or_true @true_and))) ?_;rw[<-B];refine p _ _ _ _ jO ?_;rw[decide_eq_true c];have K:∀c,c<J->(if c<J then C c else 26)=C c:=fun c D=>if_pos D;have F:=f.ay (L':=fun c=>if c<J then C c else 26) A K fun c D _ _=>P c D id;have na:∀{c i},(if c<J then C c else 26)=i->i≠25->c≠m.a:=fun{c i} W h2 q=>h2 (by rw[<-W,q,if_pos N];exact z);refine⟨fun c=>if c<J then C c else 26,{T with ov:=v3},fun c D=>(K c jO).trans (Q c D),E,⟨?_,by show T.a<x;rw[E];exact Y,F.la,F.so.ay (ai _) (fun _ _=>rfl) fun c D q1 q2=>aB _ _ fun q=>by rw[q,if_pos N,z]at q2;omega, ?_,fun b u=>if_neg (by have:=(r.lt u).1;omega),F.qx.ay (ai _) fun b u=>aB _ _ (na (F.ll b u) jD),F.ll,fun _=>rfl,fun _=>c,s⟩⟩
   ·rw[E,get_eq];rfl
   ·rw[if_pos rfl];exact(r.low (bU _)).ay (ai _) fun b u=>aB _ _ (by have:=(r.lt u).1;omega)
  ·rw[decide_eq_false (by omega:¬min (t+e) (TS l)=TS l)];refine jB ?_;refine p _ _ _ _ o ?_;rw[decide_eq_false c];exact⟨C,T,Q,E,f⟩
end
section
variable {lf d n:Nat} {h:H} {L:Nat->Nat} {l:List UInt8} {t:Nat} {ob:Bool} {m:Tm}
theorem aoE(p:1<=l.length)(B:l.length<=900000)(j:l.length<lf)(L:Nat->Nat):ae (fun _=>False) n (eW lf (d+2) 91 #[.string ⟨l.toArray⟩]) h n fun v h' n'=>∃L' m,v= .tuple #[jP m.a 0,jI 0]∧(∀c,c<n->L' c=L c)∧n<=m.a∧pB h' n' L' l 0 false m:=by
 have z:(l=[])=False:=eq_false fun q=>by rw[q]at p;exact absurd p jD
 rw[aF (fun _=>J1) rfl];refine ae.aE ?_;unfold Ea;refine jA @z ?_;refine aN aL (aox (lf:=lf) (d:=d) p B j L) (ai n) (fun _ _ h=>h.elim) fun F D a i E g=> ?_;obtain⟨r,w,rfl,k,C,y,u⟩:=g;refine jA (aI @dF @ext1) ?_;refine kK trivial _ _ ?_;refine jB ?_;refine⟨fun c=>if c<a then r c else 25,⟨a,w,nS,nS⟩,rfl,fun c f=>(if_pos jO).trans (k c f),i, ?_⟩;have x:∀c,c<a->(if c<a then r c else 25)=r c:=fun c f=>if_pos f;have s:0-TS l=0:=Nat.zero_sub _;have t:∀b,¬az nS b:=fun b e=>(by obtain⟨o,l,c,A⟩:=e;cases A);refine⟨?_,dK a,if_neg (sa a), ?_,rfl,fun b e=>(t b e).elim, ?_,fun b e=>(t b e).elim,fun q=>(lL _ q).elim,(fun q=>by cases q),bU _⟩
 ·refine(get_eq _ _ _).trans ?_;unfold pA;rw[s];rfl
 ·rw[Nat.zero_min];exact u.ay (cH a) x fun c f _ _=>aB _ _ jO
 ·rw[s];exact Own.nil _ _ _ _
end
end Go.Proofs.YtcehhgppfahbkaaGreatDoor
namespace Go.Proofs.YtcehhgppfahbkaaGreatDoor
open Go.RowKit Ev
section
variable {β:Type} {W:Nat->Prop} {n0 n lf d:Nat} {h:H} {Q:β->H->Nat->Prop}
end
end Go.Proofs.YtcehhgppfahbkaaGreatDoor
namespace Go.Proofs.YtcehhgppfahbkaaGreatDoor
open Go.RowKit Ev Cn Ip
section
variable {lf d n:Nat} {h:H}
def pkR(p:Nat×Nat)(x:Nat):Nat×Nat:=if 0<p.2∧p.1≠x then(x,1)else if p.2=254 then(0,0)else(x,p.2+1)
def Hd(p:Nat×Nat)(x:Nat):List Nat:=if 0<p.2∧p.1≠x then MJ p else if p.2=254 then MJ (x,255)else []
end
end Go.Proofs.YtcehhgppfahbkaaGreatDoor
namespace Go.Proofs.YtcehhgppfahbkaaGreatDoor.Ev
open Go Go.RowKit
section
variable {β:Type} {W:Nat->Prop} {n0:Nat} {h:H} {n:Nat} {Q:β->H->Nat->Prop}
variable {e:TypeId} {v:Value} {ws:List Nat}
end
end Go.Proofs.YtcehhgppfahbkaaGreatDoor.Ev
namespace Go.Proofs.YtcehhgppfahbkaaGreatDoor
open Go.RowKit Ev Cn Ip
section
variable {β:Type} {W:Nat->Prop} {n0 n:Nat} {h:H} {Q:β->H->Nat->Prop}
end
abbrev wY(ps:List (Nat×Nat)):List Nat:=ps.flatMap MJ
structure Pm where
 p:Nat
 c:Nat
 q:Nat
 bv:Value
section
variable {lf d n room:Nat} {h:H} {L:Nat->Nat} {ps:List (Nat×Nat)} {row:Nat×Nat} {m:Pm}
end
section
variable {lf d n room:Nat} {h:H} {L:Nat->Nat} {ps:List (Nat×Nat)} {row:Nat×Nat} {m:Pm}
end
section
variable {lf d n room:Nat} {h:H} {L:Nat->Nat} {ps:List (Nat×Nat)} {row:Nat×Nat} {m:Pm}
def qP(row:Nat×Nat)(x:Nat):Nat×Nat:=if row.1=x then(x,row.2+1)else row
def oP(room:Nat)(ps:List (Nat×Nat))(row:Nat×Nat)(x:Nat):List (Nat×Nat):=if Hd row x=[]then []else if room<(wY ps).length+(Hd row x).length then ps else []
def nP'(room:Nat)(ps:List (Nat×Nat))(row:Nat×Nat)(x:Nat):List (Nat×Nat):=if Hd row x=[]then ps else(if room<(wY ps).length+(Hd row x).length then []else ps)++[qP row x]
end
section
variable {lf d n room:Nat} {h:H} {L:Nat->Nat} {ps:List (Nat×Nat)} {row:Nat×Nat} {m:Pm}
end
structure PS where
 Cc:List UInt8
 ps:List (Nat×Nat)
 row:Nat×Nat
 dD:List (Nat×Nat)
 tu:Bool
 t:Nat
 ob:Bool
 arO:Nat
structure Pr where
 p:Nat
 m:Pm
 tm:Tm
 bv:Value
 wv:Value
 st:Int
section
variable {lf d n room:Nat} {h:H} {L:Nat->Nat} {N4:Int} {out:List UInt8} {s:PS} {q:Pr}
end
section
variable {β:Type} {W:Nat->Prop} {n0:Nat} {h:H} {n:Nat} {Q:β->H->Nat->Prop}
end
def jJ(a:Nat)(s:PS):PS:={s with Cc:=s.Cc.tail,ps:=nP' a s.ps s.row (s.Cc.headD 0).toNat,row:=pkR s.row (s.Cc.headD 0).toNat,dD:=oP a s.ps s.row (s.Cc.headD 0).toNat}
section
variable {lf d n room:Nat} {h:H} {L:Nat->Nat} {N4:Int} {out:List UInt8} {s:PS} {q:Pr}
end
section
variable {lf d n room:Nat} {h:H} {L:Nat->Nat} {N4:Int} {out:List UInt8} {s:PS} {q:Pr}
end
end Go.Proofs.YtcehhgppfahbkaaGreatDoor
namespace Go.Proofs.YtcehhgppfahbkaaGreatDoor
open Go.RowKit Ev Sp Cn Ip
section
variable {lf d n n0 lo:Nat} {h:H} {W:Nat->Prop} {Q:Value->H->Nat->Prop}
end
section
variable {lf d n room:Nat} {h:H} {L:Nat->Nat} {ps:List (Nat×Nat)} {row:Nat×Nat} {m:Pm}
end
end Go.Proofs.YtcehhgppfahbkaaGreatDoor
namespace Go.Proofs.YtcehhgppfahbkaaGreatDoor
open Go.RowKit Ev Sp Cn
section
variable {lf d n:Nat} {h:H} {L:Nat->Nat} {l:List UInt8} {t:Nat} {ob:Bool} {m:Tm}
theorem aoF(y:pB h n L l t ob m)(hd:t-TS l=l.length)(o:l.length<=900000):ae (fun _=>False) n (eW lf (d+2) 94 #[jP m.a 0]) h n fun f h' n'=>f= .tuple #[.string ⟨(bS (oy l l.length)).toArray⟩,jI (pz l l.length:Int)]:=by rw[aF (fun _=>Tq) rfl];refine ae.aE ?_;unfold J3;refine aN aL (Cb (lf:=lf) (d:=d) y o) (ai n) (fun _ _ h=>h.elim) fun q s b k p c=> ?_;obtain⟨rfl,rfl,rfl⟩:=c;have g:=y.get;have e:=y.lt;have a:=y.qx;unfold pA at g;rw[hd]at g a;rw[decide_eq_true hd];refine jB ?_;refine tY (m:=b) trivial m.a 3 _ g e (ai _) rfl fun w r=> ?_;refine jB ?_;refine akX (m:=b) a (ai _) _ fun v j=> ?_;refine jB ?_;refine tY (m:=b) trivial m.a 4 _ g e (ai _) rfl fun u i=> ?_;try simp(disch:=first|omega|assumption) only[Nat.reduceAdd,Nat.reduceLT,RZ,j.gq i,gO,oU]
theorem aoG(e:1<=l.length)(D:l.length<=900)(C:3000000<=lf):ae (fun _=>False) n (eW lf (d+7) 57 #[.string ⟨l.toArray⟩]) h n fun g h' n'=>g= .tuple #[.string ⟨(bS (oy l l.length)).toArray⟩,jI (pz l l.length:Int),jI 0]:=by
 have Z:TS l<=900*((4+3*10)*(10+2)):=by have e:=acn (bA l) 10 (by rw[fE];omega) (by rw[fE];show l.length<=1024;omega);rw[fE]at e;exact Nat.le_trans e (zv _ D)
 rw[aF (fun _=>JQ) rfl];refine ae.aE ?_;unfold Av;refine aN aL (aoE (lf:=lf) (d:=d+4) e jO jO fun _=>0) (ai n) (fun _ _ h=>h.elim) fun Y r v a O o=> ?_;obtain⟨L1,w,rfl,R,ma,t⟩:=o;refine jA (aI @dF @ext1) ?_;obtain⟨s,q⟩:∃s,lf=s+1+1:=⟨lf-2,jO⟩
 have I:∀F,F=lf->ae (fun _=>False) n (vo lf (eW lf (d+6)) F (D4 lf (eW lf (d+6))) (.string ⟨l.toArray⟩) (.string ⟨#[]⟩) (jI 0) (jI 0) (jP w.a 0) (jI 0) (.bool false)) r v fun g h' n'=>g= .tuple #[.string ⟨(bS (oy l l.length)).toArray⟩,jI (pz l l.length:Int),jI 0]:=by
  intro F G;obtain rfl:F=s+1+1:=G.trans q;rw[vo];refine aN aL (Cb (lf:=lf) (d:=d+5) t jO) a (fun _ _ h=>h.elim) fun X h2 n2 B N m=> ?_;obtain⟨rfl,rfl,rfl⟩:=m;have Q:¬(0-TS l=l.length):=jO;rw[decide_eq_false Q];refine jB ?_;refine aN aL (aoD (lf:=lf) (d:=d) t e jO 1099511627776 jD jO) a (fun b hb x=> .inl ?_) fun W h3 n3 A L k=> ?_
  ·by_cases c:b<n
   ·have:=R b c;unfold pC at x;omega
   ·omega
  obtain⟨rfl,L3,m3,E,p,f⟩:=k
  have P:0+nA l 0 1099511627776=TS l+l.length:=by unfold nA;rw[adv,fy];exact arz (by show _<=1099511627776;omega)
  rw[P]at f;refine jB ?_;rw[<-p,vo];refine aN aL (Cb (lf:=lf) (d:=d+5) f jO) jO (fun _ _ h=>h.elim) fun U h4 n4 z K j=> ?_;obtain⟨rfl,rfl,rfl⟩:=j;have u:TS l+l.length-TS l=l.length:=jO;rw[decide_eq_true u];refine jB ?_;unfold D4;refine aN aL (aoF (lf:=lf) (d:=d+4) f u jO) jO (fun _ _ h=>h.elim) fun T h5 n5 y J i=> ?_;subst i;exact jC (aI @dF @ext1)
 exact I lf rfl
end
end Go.Proofs.YtcehhgppfahbkaaGreatDoor
namespace Go.Proofs.YtcehhgppfahbkaaGreatDoor
open Go.RowKit Ev Sp Cn Ip
theorem acw:∀(j:Nat) (u v:List Nat),j<u.length->j<v.length->(∀i,i<j->u.getD i 0=v.getD i 0)->u.getD j 0<v.getD j 0->u<v
 |_,[],_,h,_,_,_=>absurd h (lL _)
 |_,_::_,[],_,h,_,_=>absurd h (lL _)
 |0,x::b,y::a,_,_,_,h=>List.cons_lt_cons_iff.2 (.inl h)
 |j+1,x::b,y::a,e,d,c,h=>by have f:x=y:=c 0 jO;exact List.cons_lt_cons_iff.2 (.inr ⟨f,acw j b a (arB e) (arB d) (fun i g=>c (i+1) jO) h⟩)
theorem zj{l:List UInt8}{a j:Nat}(d:a<l.length)(c:j<l.length):(dO (bN l) a).getD j 0=(Pl.fO (bA l) (a+j)).toNat:=by
 rw[<-BU];have e:=Pl.zc l a j d c;unfold bN;rw[aC,fo];have b:j<(ky l a).length:=by show j<(Pl.po l a).length;rw[Pl.qw];exact c
 rw[aJ b];show((ky l a)[j]).toNat=_
 have f:(ky l a)[j]=(Pl.po l a).getD j 0:=by rw[aC];show _=((ky l a)[j]?).getD 0;rw[aJ b];rfl
 rw[f,e];unfold Pl.fO;rw[fE]
theorem aoH{l:List UInt8}{a b:Nat}(f:a<l.length)(e:b<l.length)(h:RL (bA l) (bA l).size a b):iM (bN l) a b=true:=by
 have p:(dO (bN l) a).length=l.length:=by rw[BE,GV]
 have o:(dO (bN l) b).length=l.length:=by rw[BE,GV]
 rw[uk];rcases h with ⟨j,d,g,m⟩|⟨d,g⟩
 ·rw[fE]at d;refine .inl (acw j _ _ jO jO (fun i c=> ?_) ?_)
  ·rw[zj f jO,zj e jO,g i c]
  ·rw[zj f d,zj e d];exact HI.1 m
 ·refine .inr ⟨apI fun i=> ?_,g⟩;by_cases c:i<l.length
  ·have k:=zj f c;have n:=zj e c;rw[d i (by rw[fE];exact c),<-n]at k;rw[aC,aC,aJ jO,aJ jO]at k;rw[aJ jO,aJ jO];exact congrArg some k
  ·rw[jM jO,jM jO]
theorem aoI{l:List UInt8}(g:l.length<=900000):gD l=cX (bN l):=by
 unfold gD cX fx;by_cases h:l.length<2
 ·have e:fc (bA l)=0:=by unfold fc;rw[if_pos (by rw[fE];exact h)]
  rw[e];refine abH ?_ ?_
  ·show(aY (bA l).size).Perm _;rw[fE,GV]
  ·show(aY (bA l).size).Pairwise _;rw[fE];obtain h|h:l.length=0∨l.length=1:=jO
   ·rw[h];exact OG
   ·rw[h];exact adr _ _
 ·have W:=whole (bA l) (by rw[fE];omega) (by rw[fE];omega);have c:=W.perm;refine abH (by rw[GV,<-fE l];exact c) (W.sorted.imp_of_mem fun{a b} f d r=>aoH ?_ ?_ r)
  ·have:=List.mem_range.1 (c.mem_iff.1 f);rw[fE]at this;exact this
  ·have:=List.mem_range.1 (c.mem_iff.1 d);rw[fE]at this;exact this
theorem aoJ{t:List Nat}{i:Nat}(a:i<t.length):qo (dO t i)=t.getD (if i=0 then t.length-1 else i-1) 0:=by
 unfold qo;rw[List.getLastD_eq_getLast?,List.getLast?_eq_getElem?,BE];unfold dO;by_cases c:i=0
 ·subst c;rw[if_pos rfl,dx,nE,cz,aC]
 ·rw[if_neg c,oC (by rw[fp];omega),fp,List.getElem?_take,if_pos jO,aC,show t.length-1-(t.length-i)=i-1 by omega]
theorem aoK(l:List UInt8):bS (bN l)=l:=by
 unfold bS bN;rw[qA]
 conv=>rhs;rw[<-arq l]
 refine mq fun x _=> ?_;show dT x.toNat=x;exact UInt8.ofNat_toNat
theorem aoL{t:List Nat}(b:By t){i:Nat}(a:i<t.length):zh (bS t) i=qo (dO t i):=by rw[aoJ a];unfold zh;rw[qn];exact Gs b (by split<;>omega)
theorem acx{l:List UInt8}{p:Nat}(b:(gD l)[p]? =some 0)(e:(gD l).Nodup):∀k,k<=(gD l).length->pz l k=if p<k then p else 0
 |0,_=>rfl
 |k+1,h=>by
  have f:=acx b e k jO;have a:(gD l)[k]? =some ((gD l).getD k 0):=by rw[aC,aJ (show k<(gD l).length from h)];rfl
  show(if(gD l).getD k 0=0 then k else pz l k)=_;by_cases c:(gD l).getD k 0=0
  ·rw[c]at a;have:k=p:=(List.getElem?_inj h e).1 (a.trans b.symm);rw[if_pos c,if_pos jO,this]
  ·have:k≠p:=fun q=>by rw[q,b]at a;rw[q]at c;exact c (r3 a).symm
   rw[if_neg c,f];by_cases d:p<k
   ·rw[if_pos d,if_pos jO]
   ·rw[if_neg d,if_neg jO]
theorem aoM{t:List Nat}(b:By t)(f:t≠[])(i:t.length<=900000):oy (bS t) (bS t).length=fw t (cX t)∧pz (bS t) (bS t).length=cV 0 (cX t):=by
 have j:(bS t).length=t.length:=qn t;have a:=aoI (l:=bS t) jO;rw[abI b]at a;have g:=GW t;obtain⟨h,c⟩:=GX f;constructor
 ·unfold oy fw;rw[a,fG jO];exact mq fun x e=>aoL b ((Ny t).1 e)
 ·have d:(cX t).Nodup:=(qu _ _).nodup_iff.2 aqU;rw[acx (p:=cV 0 (cX t)) (by rw[a];exact c) (by rw[a];exact d) _ (by rw[a];omega),if_pos jO]
theorem N5{t:List Nat}(a:By t):By (fw t (cX t)):=aaj (Nw t) a
theorem xm(t:List Nat):(fw t (cX t)).length=t.length:=aai (Nw t)
section
variable {lf d n:Nat} {h:H}
theorem aoN{t:List Nat}(e:By t)(b:t≠[])(j:t.length<=900)(a:3000000<=lf):ae (fun _=>False) n (eW lf (d+7) 57 #[bp t]) h n fun c h' n'=>c= .tuple #[bp (fw t (cX t)),jI (cV 0 (cX t):Int),jI 0]:=by have k:(bS t).length=t.length:=qn t;have i:1<=t.length:=List.length_pos_iff.2 b;obtain⟨g,f⟩:=aoM e b jO;have:=aoG (lf:=lf) (d:=d) (n:=n) (h:=h) (l:=bS t) jO jO a;rw[g,f]at this;exact this
end
end Go.Proofs.YtcehhgppfahbkaaGreatDoor
namespace Go.Proofs.YtcehhgppfahbkaaGreatDoor
open Go.RowKit Ev Cn Ip
def fV(l:List Nat):List Value:=(aY 256).map fun b=>adD (decide (b∈l))
theorem zm(l:List Nat):(fV l).length=256:=by unfold fV;rw[cu,j7]
theorem He(l:List Nat){i:Nat}(h:i<256):(fV l)[i]? =some (.bool (decide (i∈l))):=by unfold fV;rw[fo,Cu h];rfl
theorem aoO:fV []=bD 256 (.bool false):=by
 unfold fV
 have:(fun b:Nat=>adD (decide (b∈([]:List Nat))))=fun _=>adD false:=by funext b;rw[decide_eq_false jS]
 rw[this,List.map_const',j7]
theorem aoP(l:List Nat){x:Nat}(a:x<256):(fV l).set x (.bool true)=fV (l++[x]):=by
 refine apI fun i=> ?_;rw[aqC];by_cases c:x=i
 ·subst c;rw[if_pos rfl,if_pos (by rw[zm];exact a),He _ a,decide_eq_true jS]
 ·rw[if_neg c];by_cases b:i<256
  ·rw[He _ b,He _ b]
   have:(i∈l++[x])=(i∈l):=by rw[qB,CA,eq_iff_iff];exact⟨fun h=>h.resolve_right fun q=>c q.symm,.inl⟩
   simp only[this]
  ·rw[jM (by rw[zm];omega),jM (by rw[zm];omega)]
section
variable {lf d n:Nat} {h:H}
theorem aoQ(l:List Nat)(u:300<=lf):ae (fun _=>False) n (eW lf (d+1) 125 #[.agg (fV l).toArray]) h n fun s h' n'=>s= .string ⟨(bS (dI l)).toArray⟩:=by
 rw[aF (fun _=>UI) rfl];refine ae.aE ?_;unfold EF;refine kK trivial _ _ ?_;have p:(h.set n (some ⟨169,true,(uw (fV l).toArray).cells.toList⟩)).get n=some ⟨169,true,fV l⟩:=(get_eq _ _ _).trans rfl;generalize h.set n (some ⟨169,true,(uw (fV l).toArray).cells.toList⟩)=x at p⊢;have t:=zm l;refine lV n 0 _ p (dK n) (by show 0+256<=(fV l).length;omega) ?_;have A:uw ((sb 0 (fV l)).take 256).toArray= .agg (fV l).toArray:=by rw[dx,<-t,eh]
 show ae _ _ (ru lf (eW lf d) lf (AF lf (eW lf d)) (.agg (fV l).toArray) (jP n 0) (.string ⟨#[]⟩) nS (.agg ((sb 0 (fV l)).take 256).toArray) (ii 0)) _ _ _;rw[A];refine cG 256 (fun j i (o:Value)=>ru lf (eW lf d) j (AF lf (eW lf d)) (.agg (fV l).toArray) (jP n 0) (.string ⟨#[]⟩) o (.agg (fV l).toArray) (jI (i:Nat))) (fun i o h' n'=>n<=n'∧Own h' n n' 5 o (cF ((aY i).filter fun b=>decide (b∈l)))) ?_ ?_ lf 0 nS x (n+1) (bU _) jO ⟨cH n,Own.nil _ _ _ _⟩
 ·rintro j o h' n' ⟨q1,q2⟩;have z:¬((256:Nat):Int)<256:=jD;rw[ru];refine jA @z ?_;unfold AF;refine Y9 q2 _ ?_;refine jB ?_;try rfl
 ·rintro j i o h' n' v ⟨q1,q2⟩ next;have q:(i:Int)<256:=jO;have k:(i:Int)+1=((i+1:Nat):Int):=rfl;have f:=He l v;have next:∀o' m g,n<=g->_->_:=fun o' m g a b=>next o' m g ⟨a,b⟩;rw[mv,aqS]at next;have C:(cF ((aY i).filter fun b=>decide (b∈l))).length<=256:=by rw[iV];have:=List.length_filter_le (fun b=>decide (b∈l)) (aY i);rw[j7]at this;omega
  rw[ru];by_cases c:i∈l
  ·have e:[i].filter (fun b=>decide (b∈l))=[i]:=by simp[c]
   have r:IntKind.u8.wrap (i:Int)=(i:Int):=aqQ _ jO;rw[decide_eq_true c]at f;rw[e]at next;refine jA (aI @q (aI @f (aI @r @eg))) ?_;refine fJ trivial (eI _ _) q2 jO (ai n) _ fun w y B=> ?_;refine jB ?_;rw[k];refine next _ w _ jO ?_;rw[Mj];exact Own.mk' y jO jO (by rw[aG];rfl)
  ·have e:[i].filter (fun b=>decide (b∈l))=[]:=by simp[c]
   rw[decide_eq_false c]at f;rw[e,cz]at next;refine jA (aI @q (aI @f @eg)) ?_;rw[k];exact next o h' n' q1 q2
theorem aoR{t:List Nat}(l:∀x∈t,x<256)(I:t.length<=1000000)(A:3000000<=lf):ae (fun _=>False) n (eW lf (d+2) 95 #[.string ⟨(bS t).toArray⟩]) h n fun s h' n'=>s= .string ⟨(bS (dI t)).toArray⟩:=by
 rw[aF (fun _=>Tu) rfl];refine ae.aE ?_;unfold Ed;refine fh rfl _ ?_;refine jA @qn ?_
 have m:(h.set n (some ⟨169,true,JD⟩)).get n=some ⟨169,true,fV []⟩:=by rw[get_eq,aoO];exact congrArg (fun z=>some (⟨169,true,z⟩:AB)) (PO _ _)
 generalize h.set n (some ⟨169,true,JD⟩)=B at m⊢;refine cG t.length (fun j i (_:Unit)=>vv lf (eW lf (d+1)) j (Ec lf (eW lf (d+1))) (.string ⟨(bS t).toArray⟩) (.string ⟨#[]⟩) (jP n 0) (jI (t.length:Int)) (jI (i:Nat))) (fun i _ h' n'=>n'=n+1∧h'.get n=some ⟨169,true,fV (t.take i)⟩) ?_ ?_ lf 0 () B (n+1) (bU _) jO ⟨rfl,m⟩
 ·rintro j _ h' n' ⟨rfl,q1⟩;rw[eh]at q1;have u:=zm t;have D:uw ((sb 0 (fV t)).take 256).toArray= .agg (fV t).toArray:=by rw[dx,<-u,eh]
  rw[vv];refine jA @bE ?_;unfold Ec;refine lV n 0 _ q1 (dK n) (by show 0+256<=(fV t).length;omega) ?_;show ae _ _ (ak (eW lf (d+1)) 125 [.agg ((sb 0 (fV t)).take 256).toArray] fun c=>aj [c]) _ _ _;rw[D];refine aN aL (aoQ (lf:=lf) (d:=d) t jO) jO (fun _ _ h=>h.elim) fun F g G y C f=> ?_;subst f;exact jE
 ·rintro j i _ h' n' b ⟨rfl,q1⟩ next;have o:(i:Int)<((t.length:Nat):Int):=jO;have k:(i:Int)<(((bS t).length:Nat):Int):=by rw[qn];exact o
  have r:(i:Int)+1=((i+1:Nat):Int):=rfl
  have v:t.take (i+1)=t.take i++[t.getD i 0]:=by rw[fq b,aC,aJ b];rfl
  have e:t.getD i 0<256:=l _ (by rw[aC,aJ b];exact cb _);have p:((bS t).getD i 0).toNat=t.getD i 0:=Gs l b;have next:∀g,_->_:=fun g a=>next () g (n+1) ⟨rfl,a⟩;rw[v]at next;generalize t.getD i 0=x at e p next;have E:(x:Int)<256:=jO;have w:n<n+1:=dK n;have q:x<(fV (t.take i)).length:=by rw[zm];exact e
  rw[vv];refine jA (aI @o (aI @k (aI @p (aI @E (aI @q1 (aI @w (aI @q (aI @ai (aI @true_or (aI @true_and @eg)))))))))) ?_;rw[r];exact next _ ((get_eq _ _ _).trans (by rw[aoP _ e]))
end
theorem aoS(l:List Nat):ac7 (iN l)=bS l:=by unfold ac7 iN bS;rw[qA];refine mq fun x _=> ?_;show dT (Cw (x:Int))=_;rw[eg]
theorem acy{x:Nat}(a:x<256):∀{l:List Nat},(∀y∈l,y<256)->x∈l->Oa (bS l) (dT x)=(cV x l:Int)
 |[],_,h=>by cases h
 |y::l,b,h=>by
  have g:=b y (List.mem_cons_self ..);show(if(dT y==dT x)=true then(0:Int)else if(Oa (bS l) (dT x)==-1)=true then-1 else Oa (bS l) (dT x)+1)=_;unfold cV;by_cases c:y=x
  ·have e:(dT y==dT x)=true:=by rw[c];exact beq_self_eq_true _
   rw[if_pos e,if_pos c];rfl
  ·have e:¬(dT y==dT x)=true:=fun q=>c (by
    have q:=congrArg UInt8.toNat (eq_of_beq q);have k:(dT y).toNat=y:=arC g;have j:(dT x).toNat=x:=arC a;rw[k,j]at q
    exact q)
   have i:x∈l:=(List.mem_cons.1 h).resolve_left fun q=>c q.symm;have d:=acy a (fun z f=>b z (List.mem_cons_of_mem y f)) i
   rw[if_neg e,if_neg c,d,if_neg (by
    intro q;have q:=eq_of_beq q
    omega)]
   rfl
theorem acz:∀l:List Nat,sG (cF l)=some (iN l)
 |[]=>rfl
 |x::l=>by show(match sG (cF l)with|some r=>some ((x:Int)::r)|none=>none)=_;rw[acz l];rfl
section
variable {lf d n:Nat} {h:H}
theorem aoT{b c:Nat}{o:Bool}{a:List Nat}(l:h.get b=some ⟨5,o,cF a⟩)(m:b<n)(f:∀y∈a,y<256){x:Nat}(g:x∈a):ae (fun _=>False) n (eW lf (d+1) 158 #[.slice (some ⟨b,0,none⟩) a.length c,.int .u8 (x:Int)]) h n fun j h' n'=>j=jI (cV x a:Int)∧h'=h∧n'=n:=by
 have e:eW lf (d+1) 158 #[.slice (some ⟨b,0,none⟩) a.length c,.int .u8 (x:Int)]=zH b 0 a.length (x:Int):=jK;have k:=iV a;obtain⟨L,r,q⟩:=nU l m a.length 0 (by show 0+_<=(cF a).length;omega);have p:((cF a).drop 0).take a.length=cF a:=by rw[dx,<-k,eh]
 rw[e];unfold zH;refine ae.step r (ai n) (fun x g i=>by rw[q x g]at i;cases i) ?_;show ae _ _ (HN _ (sG (((cF a).drop 0).take a.length))) _ _ _;rw[p,acz];show ae _ _ (M.ret (jI (Oa (ac7 (iN a)) (Cw (x:Int)).toUInt8))) _ _ _;rw[aoS,eg,sV];exact⟨congrArg _ (acy (f x g) f g),rfl,rfl⟩
theorem aoU{l:Nat}{v:Value}{a:List Nat}(x:qm h n l v a)(m:∀y∈a,y<256){c:Nat}(i:c∈a)(f:a.length<=1000):ae (fun b=>az v b) n (eW lf (d+2) 127 #[jP l 0,.int .u8 (c:Int)]) h n fun s h' n'=>s= .tuple #[jI (cV c a:Int),jI 0]∧n'=n∧qm h' n' l v (dN 0 a (cV c a)):=by
 have g:=x.get;have L:=x.lt;obtain⟨t,I⟩:=wZ i;have o:=iV a;rw[aF (fun _=>UK) rfl];refine ae.aE ?_;unfold Kk;refine jA @g ?_;rcases x.own with ⟨_,e⟩|⟨b,q,E,_,D⟩
 ·have:=congrArg lK e;rw[o]at this;simp at this;rw[this]at i;cases i
 ·rw[o]at q;have p:=aoT (lf:=lf) (d:=d) (c:=aU+a.length) E D m i;rw[<-q]at p;refine aN aL p (ai n) (fun _ _ h=>h.elim) fun G P K A C k=> ?_;obtain⟨rfl,rfl,rfl⟩:=k;have z:¬((cV c a:Nat):Int)<0:=jO;refine jA @z ?_;refine aN aL (akU (lf:=lf) (d:=d) x t f) (ai _) (fun b N u=> .inr u) fun F O J w B j=> ?_;obtain⟨rfl,rfl,r⟩:=j;refine jB ?_;exact r
end
theorem aoV(A:List Nat)(m x:Nat):(aH .i64 (iN (A++bD (m+1) 0))).set A.length (jI (x:Int))=aH .i64 (iN ((A++[x])++bD m 0)):=by
 have e:∀l:List Nat,aH .i64 (iN l)=l.map fun y:Nat=>jI (y:Int):=fun l=>by unfold aH iN;rw[qA];rfl
 rw[e,e,dU,List.set_append_right _ _ (by rw[cu];exact ai _),cu,j8,bW,dU];rfl
section
variable {lf d n:Nat} {h:H}
theorem aoW{s:List Nat}(k:Sy s)(Z:s≠[])(t:List Nat)(u:∀x∈t,x∈s)(hl:t.length<=1000000)(Y:3000000<=lf):ae (fun _=>False) n (eW lf (d+3) 96 #[.string ⟨(bS t).toArray⟩,.string ⟨(bS s).toArray⟩]) h n fun N h' n'=>∃o,N= .tuple #[o,jI 0]∧Row h' n' 3 .i64 o (iN (dH s t))∧∀b,az o b->n<=b:=by
 have sl:=k.len;have Q:By t:=fun x f=>k.lt x (u x f);rw[aF (fun _=>Tx) rfl];refine ae.aE ?_;unfold Ef;refine aN aL (akV (lf:=lf) (d:=d) k Z jO) (ai _) (fun _ _ h=>h.elim) fun v1 h1 n1 X u0 w=> ?_;obtain⟨rfl,rfl,T,K,c⟩:=w;refine jA (aI @dF (aI @ext1 @qn)) ?_;refine Ev.run_make trivial (e:=3) (z:=jI 0) t.length t.length _ (ai _) jO ?_;refine jB ?_;have mt:∀i,∀x∈t.take i,x∈s:=fun i x f=>u x (List.mem_of_mem_take f);refine cG t.length (fun A i (_:Unit)=>vw lf (eW lf (d+2)) A (Ee lf (eW lf (d+2))) (.string ⟨(bS t).toArray⟩) (.string ⟨(bS s).toArray⟩) nS (jI 0) (jP (n+1) 0) (jI 0) (.slice (some ⟨n+2,0,none⟩) t.length t.length) (.bool false) (jI (t.length:Int)) (jI (i:Nat))) (fun i _ h' n'=>n'=n+2+1∧qm h' n' (n+1) T (fk s (dH s (t.take i))).2∧h'.get (n+2)=some ⟨3,true,aH .i64 (iN (dH s (t.take i)++bD (t.length-i) 0))⟩) ?_ ?_ lf 0 () _ _ (bU _) jO ⟨rfl,K.ay jO (aB _ _ jO) fun b g=>aB _ _ (by rw[c b g];omega), ?_⟩
 ·rintro A _ h' n' ⟨rfl,q1,q2⟩;rw[eh,j8,List.replicate_zero,cz]at q2;have j:=rF t s;rw[vw];refine jA @bE ?_;unfold Ee;refine jB ?_;refine⟨_,rfl,.inr ⟨n+2,0,t.length,true,_, ?_,q2,jO, ?_, ?_, ?_⟩,fun b g=>by rw[g.inj];omega⟩
  ·rw[bB,j]
  ·rw[cj,bB];omega
  ·rw[dx,<-cj .i64 (iN (dH s t)),eh]
  ·rw[bB,j];exact ai _
 ·rintro A i _ h' n' l ⟨rfl,q1,q2⟩ next;have D:(i:Int)<((t.length:Nat):Int):=jO;have C:(i:Int)<(((bS t).length:Nat):Int):=by rw[qn];exact D
  have L:(i:Int)+1=((i+1:Nat):Int):=rfl
  have P:t.take (i+1)=t.take i++[t.getD i 0]:=by rw[fq l,aC,aJ l];rfl
  have f:t.getD i 0∈s:=u _ (by rw[aC,aJ l];exact cb _);have lt:=yN (t.take i) s (mt i);have j:=rF (t.take i) s;have ol:=Nn (dH s (t.take i)) s lt;have p:=NB (dH s (t.take i)) s lt k.lt;have oa:=NA (dH s (t.take i)) s lt _ f
  have F:dH s (t.take (i+1))=dH s (t.take i)++[cV (t.getD i 0) (fk s (dH s (t.take i))).2]:=by rw[P,Nz _ _ _ (mt i)];rfl
  have m:(fk s (dH s (t.take (i+1)))).2=dN 0 (fk s (dH s (t.take i))).2 (cV (t.getD i 0) (fk s (dH s (t.take i))).2):=by rw[F,MH];rfl
  have next:∀y,_->_->_:=fun y a b=>next () y (n+2+1) ⟨rfl,a,b⟩;rw[m,F]at next;rw[cB]at j;have bt:((bS t).getD i 0).toNat=t.getD i 0:=Gs Q l;generalize dH s (t.take i)=E at q1 q2 next lt j ol p oa;generalize (fk s E).2=O at q1 next ol p oa;rw[vw];refine jA (aI @D (aI @C (aI @bt @eg))) ?_;generalize t.getD i 0=x at f next oa;refine aN aL (aoU (lf:=lf) (d:=d) q1 p oa jO) jO (fun b g r=> .inl (by rw[c b r];exact ai n)) fun v2 y G W B v=> ?_;obtain⟨rfl,rfl,J⟩:=v;have R:=(B (n+2) jO (fun r=>by have:=c _ r;omega)).trans q2;have u1:(aH .i64 (iN (E++bD (t.length-i) 0))).length=t.length:=by rw[cj,bB,aG,List.length_replicate];omega
  have q:n+2<n+2+1:=dK _;have U:i<(aH .i64 (iN (E++bD (t.length-i) 0))).length:=jO;have ei:E.length=i:=jO;have G:n<=n+2:=jO;have er:t.length-i=(t.length-(i+1))+1:=jO;have I:=aoV E (t.length-(i+1)) (cV x O);rw[ei,<-er]at I;refine jA (aI @dF (aI @ext1 (aI @D (aI @R (aI @U (aI @q (aI @G (aI @true_or @true_and)))))))) ?_;rw[L];refine next _ (J.ay (ai _) (aB _ _ jO) fun b g=>aB _ _ (by rw[c b g];omega)) ((get_eq _ _ _).trans ?_);rw[I]
 ·have e0:dH s (t.take 0)=[]:=by rw[nE];cases s<;>rfl
  refine(get_eq _ _ _).trans ?_;rw[e0,pF,adv];unfold aH iN;rw[qA,zB];rfl
end
end Go.Proofs.YtcehhgppfahbkaaGreatDoor
namespace Go.Proofs.YtcehhgppfahbkaaGreatDoor
open Go.RowKit Ev Tb Cn Ip
section
variable {lf d n:Nat} {h:H}
theorem aoX{a:Nat}(f:1<=a)(h2:a<=256):ae (fun _=>False) n (eW lf (d+1) 128 #[jI (a:Int)]) h n fun b h' n'=>b= .bool true∧h'=h∧n'=n:=by rw[aF (fun _=>UL) rfl];refine ae.aE ?_;unfold Kl;have e:(1:Int)<=(a:Int):=jO;have c:(a:Int)<=256:=jO;exact jC (aI @e @c);try rfl
theorem N6{a:Nat}:∀(F m b n:Nat) (h:H) (o:Value) (A:List Nat),m<=F->F<b->m+A.length<=1000000000->a<=n->Own h a n 3 o (aH .i64 (iN A))->ae (fun _=>False) a (vG lf (eW lf d) b (EG lf (eW lf d)) (jI (m:Int)) nS o) h n fun r h' n'=>Own h' a n' 3 r (aH .i64 (iN (A++ee F m)))
 |F,m,0,_,_,_,_,_,q,_,_,_=>absurd q (lL F)
 |F,0,b+1,n,h,o,A,_,_,_,_,f=>by
  have s:ee F 0=[]:=by cases F<;>rfl
  have e:¬(0:Int)<((0:Nat):Int):=jD;rw[vG,s,cz];refine jA @e ?_;unfold EG;refine jB ?_;exact f
 |F,m+1,b+1,n,h,o,A,u,q,v,t,f=>by
  obtain⟨F,rfl⟩:∃g,F=g+1:=⟨F-1,jO⟩;have e:(0:Int)<((m+1:Nat):Int):=jO;have p:((m+1:Nat):Int).tmod 2=(((m+1)%2:Nat):Int):=by rw[show(2:Int)=((2:Nat):Int)from rfl,<-arx]
  rw[vG];by_cases c:(m+1)%2=1
  ·have l:((((m+1)%2:Nat):Int)==1)=true:=by rw[c];rfl
   have i:ee (F+1) (m+1)=[0]++ee F (m/2):=by show(if m+1=0 then []else if(m+1)%2=1 then 0::ee F ((m+1-1)/2)else _)=_;rw[if_neg jO,if_pos c,Nat.add_sub_cancel];rfl
   refine jA (aI @e (aI @p @l)) ?_;refine fJ trivial (eI _ _) f (by rw[cj,bB];omega) (ai a) _ fun j k _=> ?_;have q2:IntKind.i64.wrap ((((m+1:Nat):Int)-0-1).tdiv 2)=(((m)/2:Nat):Int):=by rw[show((m+1:Nat):Int)-0-1=(m:Int) by omega,show(2:Int)=((2:Nat):Int)from rfl,<-HJ,aV jO jO]
   rw[q2,i,<-bW];refine N6 F ((m)/2) b (n+2) j _ (A++[0]) jO jO (by rw[aG,nC];omega) jO ?_;rw[ku,kv];exact Own.mk' k jO jO (by rw[aG];rfl)
  ·have l:((((m+1)%2:Nat):Int)==1)=false:=beq_eq_false_iff_ne.2 jO
   have i:ee (F+1) (m+1)=[1]++ee F ((m-1)/2):=by show(if m+1=0 then []else if(m+1)%2=1 then 0::ee F ((m+1-1)/2)else 1::ee F ((m+1-2)/2))=_;rw[if_neg jO,if_neg c,show m+1-2=m-1 by omega];rfl
   refine jA (aI @e (aI @p @l)) ?_;refine fJ trivial (eI _ _) f (by rw[cj,bB];omega) (ai a) _ fun j k _=> ?_;have q2:IntKind.i64.wrap ((((m+1:Nat):Int)-1-1).tdiv 2)=(((m-1)/2:Nat):Int):=by rw[show((m+1:Nat):Int)-1-1=((m-1:Nat):Int) by omega,show(2:Int)=((2:Nat):Int)from rfl,<-HJ,aV jO jO]
   rw[q2,i,<-bW];refine N6 F ((m-1)/2) b (n+2) j _ (A++[1]) jO jO (by rw[aG,nC];omega) jO ?_;rw[ku,kv];exact Own.mk' k jO jO (by rw[aG];rfl)
theorem acA(m:Nat)(c:m<=1000000)(b:m+1<lf):ae (fun _=>False) n (eW lf (d+1) 129 #[jI (m:Int)]) h n fun a h' n'=>Own h' n n' 3 a (aH .i64 (iN (ee m m))):=by rw[aF (fun _=>UO) rfl];refine ae.aE ?_;unfold EH;exact N6 m m lf n h nS [] (ai m) jO (by show m+0<=_;omega) (ai n) (Own.nil _ _ _ _)
theorem aoY{v:Value}{f:Nat}(h1:1<=f)(h2:f<=256)(l:List Nat)(hp:∀p∈l,p<f)(hl:l.length<=1000000)(T:Row h n 3 .i64 v (iN l))(u0:3000000<=lf):ae (fun _=>False) n (eW lf (d+3) 97 #[v,jI (f:Int)]) h n fun Z h' n'=>∃o,Z= .tuple #[o,jI 0]∧Own h' n n' 3 o (aH .i64 (iN (lr f 0 l))):=by
 have Q:(iN l).length=l.length:=bB l;rw[aF (fun _=>TA) rfl];refine ae.aE ?_;unfold Eh
 have kl:∀K:Value->M Value,aT v K=K (jI (l.length:Int)):=fun K=>by obtain⟨a,c,e⟩:=T.len;rw[e,Q];rfl
 refine bz (aoX (lf:=lf) (d:=d+1) (h:=h) (n:=n) h1 h2) (ai n) (fun _ _ h=>h.elim) ?_;refine jA @kl ?_;refine cG l.length (fun L i (o:Value)=>s9 lf (eW lf (d+2)) L (Eg lf (eW lf (d+2))) v (jI (f:Int)) nS (jI 0) o (jI ((eo (l.take i)).2:Int)) (.bool false) v (jI (l.length:Int)) (jI (i:Nat))) (fun i o h' n'=>n<=n'∧(∀b,b<n->h'.get b=h.get b)∧Own h' n n' 3 o (aH .i64 (iN (eo (l.take i)).1))) ?_ ?_ lf 0 nS h n (bU _) jO ⟨ai _,fun _ _=>rfl,Own.nil _ _ _ _⟩
 ·rintro L o h' n' ⟨q1,q2,g⟩;have s:=BW l l.length (ai _);rw[eh]at g s⊢;have N:=NC f l ([],0);have N:lr f 0 l=(eo l).1++(ee (eo l).2 (eo l).2++[f+1]):=N;rw[N];have y:IntKind.i64.wrap ((f:Int)+1)=((f+1:Nat):Int):=by rw[aV jO jO];rfl
  have D:=pj (eo l).2 (eo l).2;generalize (eo l).1=A at g s⊢;generalize (eo l).2=B at s D⊢;rw[s9];refine jA @bE ?_;unfold Eg;refine jB ?_;refine aN aL (acA (lf:=lf) (d:=d+1) (h:=h') (n:=n') B jO jO) q1 (fun _ _ h=>h.elim) fun Y h8 n8 m j k=> ?_;refine rj trivial (g.ay m fun b u=>j b (g.lt u).2 id) k.row (by rw[cj,bB,bB];omega) (ai n) jO _ fun X h9 F I z _ _=> ?_;refine jA @y ?_;refine fJ trivial (eI _ _) z (by rw[aG,cj,cj,bB,bB];omega) (ai n) _ fun w r t=> ?_;refine jB ?_;refine⟨_,rfl, ?_⟩;rw[ku,ku,kv,kv,<-bW];exact Own.mk' (b:=F+1) r jO jO (by simp[aH,iN];omega)
 ·rintro L i o h' n' R ⟨q1,q2,g⟩ next;have U:(i:Int)<((l.length:Nat):Int):=jO;have y:(i:Int)+1=((i+1:Nat):Int):=rfl;obtain⟨bb,E,cap,oo,ks,ev,hg,u1,_,_,_,J⟩:=(T.ay q1 q2).some jO;have P:=J i jO;rw[iq]at P;rw[Q]at ev
  have kx:∀K:Value->M Value,aO v (jI (i:Int)) K=K (jP bb (E+i)):=fun K=>by rw[ev];exact jC @U
  have s:=BW l i jO;have W:=ND R;have hx:=hp (l.getD i 0) (by rw[aC,aJ R];exact cb _);have D:=pj (eo (l.take i)).2 (eo (l.take i)).2;have next:∀o' h2 G,n<=G->_->_->_:=fun o' h2 G a b c=>next o' h2 G ⟨a,b,c⟩;rw[W]at next;generalize l.getD i 0=x at P hx next;generalize (eo (l.take i)).1=A at g s next⊢;generalize (eo (l.take i)).2=B at s D next⊢;have c3:¬(x:Int)<0:=jO;have c4:¬(f:Int)<=(x:Int):=jO;rw[s9];refine jA (aI @U (aI @kx (aI @hg (aI @P (aI @c3 @c4))))) ?_;by_cases c:x=0
  ·have O:((x:Int)==0)=true:=by rw[c];rfl
   have C:IntKind.i64.wrap ((B:Int)+1)=((B+1:Nat):Int):=by rw[aV jO jO];rfl
   rw[if_pos c]at next;refine jA (aI @O @C) ?_;rw[y];exact next o h' n' q1 q2 g
  ·have O:((x:Int)==0)=false:=beq_eq_false_iff_ne.2 jO;have C:IntKind.i64.wrap ((x:Int)+1)=((x+1:Nat):Int):=by rw[aV jO jO];rfl
   rw[if_neg c]at next;refine jA @O ?_;refine aN aL (acA (lf:=lf) (d:=d+1) (h:=h') (n:=n') B jO jO) q1 (fun _ _ h=>h.elim) fun Y h8 n8 m j k=> ?_;refine rj trivial (g.ay m fun b u=>j b (g.lt u).2 id) k.row (by rw[cj,bB,bB];omega) (ai n) jO _ fun X h9 F I z _ k9=> ?_;refine jA @C ?_;refine fJ trivial (eI _ _) z (by rw[aG,cj,cj,bB,bB];omega) (ai n) _ fun w r t=> ?_;refine jB ?_;rw[y];refine next _ w _ jO (fun b u=> ?_) ?_
   ·rw[t b jO (fun q=>by have:=(z.lt q).1;omega),k9 b jO (fun q=>by have:=(g.lt q).1;omega),j b jO id];exact q2 b u
   ·rw[<-bW,ku,ku,kv,kv];exact Own.mk' (b:=F+1) r jO jO (by simp[aH,iN];omega)
end
end Go.Proofs.YtcehhgppfahbkaaGreatDoor
namespace Go.Proofs.YtcehhgppfahbkaaGreatDoor
open Go.RowKit Ev Cn Ip
theorem acB:∀(n v i:Nat),i<n->(bh v n)[i]? =some (v.testBit (n-1-i))
 |0,_,_,h=>absurd h (lL _)
 |n+1,v,i,h=>by
  show(bh (v/2) n++[decide (v %2=1)])[i]? =_;have a:=cA n (v/2);by_cases c:i<n
  ·rw[List.getElem?_append_left jO,acB n (v/2) i c,show n+1-1-i=(n-1-i)+1 by omega,Nat.testBit_succ]
  ·obtain rfl:i=n:=jO;rw[oC jO,a,j8,show i+1-1-i=0 by omega,Nat.testBit_zero];rfl
theorem acC:∀(l:List Bool) (a:Nat),num l a<(a+1)*2^l.length
 |[],a=>by show a<(a+1)*1;omega
 |b::l,a=>by
  have c:=acC l (2*a+bn b);have d:bn b<=1:=by unfold bn;split<;>decide
  show num l (2*a+bn b)<(a+1)*2^(l.length+1);rw[lH,mz (2^l.length) 2,<-zE];exact eD c (zv _ jO)
theorem acD:∀(n:Nat) (l:List Bool),l.length=n->bh (num l 0) n=l
 |0,l,h=>by rw[List.length_eq_zero_iff.1 h];rfl
 |n+1,l,h=>by
  obtain⟨m,b,rfl⟩:∃m b,l=m++[b]:=⟨l.dropLast,l.getLast (by intro q;rw[q]at h;cases h),(List.dropLast_concat_getLast _).symm⟩;rw[aG,nC]at h;rw[yE];show bh ((2*num m 0+bn b)/2) n++[decide ((2*num m 0+bn b)%2=1)]=_;have d:bn b<=1:=by cases b<;>decide
  have c:(2*num m 0+bn b)/2=num m 0:=jO
  have a:decide ((2*num m 0+bn b)%2=1)=b:=by
   cases b with
   |false=>exact decide_eq_false (by show¬(2*num m 0+0)%2=1;omega)
   |true=>exact decide_eq_true (by show(2*num m 0+1)%2=1;omega)
  rw[c,a,acD n m jO]
def iQ(s:List Nat)(j:Nat):Nat:=num (iu s j) 0
theorem Hf(s:List Nat)(j:Nat):bh (iQ s j) 16=iu s j:=acD 16 _ (ub s j)
theorem Ce(s:List Nat)(j:Nat):iQ s j<65536:=by have:=acC (iu s j) 0;rw[ub]at this;exact this
theorem N7(s:List Nat)(j b:Nat):(iQ s j).testBit b=(decide (b<16)&&decide (16*j+(15-b)∈s)):=by
 by_cases c:b<16
 ·have h:=acB 16 (iQ s j) (15-b) jO;rw[Hf,show 16-1-(15-b)=b by omega]at h;unfold iu at h;rw[fo,Cu jO]at h;rw[decide_eq_true c,oA];exact(r3 h).symm
 ·rw[decide_eq_false c,zx];exact Nat.testBit_lt_two_pow (eD (Ce s j) (oD (show 0<2 by decide) (show 16<=b by omega)))
theorem acE(s:List Nat)(x:Nat)(j:Nat):iQ (s++[x]) j=if x/16=j then iQ s j|||2^(15-x %16)else iQ s j:=by
 refine Nat.eq_of_testBit_eq fun b=> ?_;rw[N7];by_cases c:x/16=j
 ·rw[if_pos c,Nat.testBit_or,N7,Nat.testBit_two_pow];by_cases a:b<16
  ·rw[decide_eq_true a,oA,oA];by_cases e:16*j+(15-b)=x
   ·rw[decide_eq_true (show 16*j+(15-b)∈s++[x] by rw[e];simp),decide_eq_true (show 15-x %16=b by omega),ar_]
   ·rw[decide_eq_false (show¬15-x %16=b by omega),adk];congr 1;rw[qB,CA,eq_iff_iff];exact⟨fun h=>h.resolve_right e,.inl⟩
  ·rw[decide_eq_false a,zx,zx,decide_eq_false (show¬15-x %16=b by omega)];rfl
 ·rw[if_neg c,N7];by_cases a:b<16
  ·congr 2;rw[qB,CA,eq_iff_iff];exact⟨fun h=>h.resolve_right fun e=>c jO,.inl⟩
  ·rw[decide_eq_false a,zx,zx]
theorem Hg(s:List Nat)(j:Nat):(iQ s j=0)↔fM s j=false:=by
 have c:=ub s j
 have a:(iu s j=bD 16 false)↔fM s j=false:=by unfold fM;rw[List.any_eq_false,List.eq_replicate_iff];exact⟨fun h x b q=>(by rw[h.2 x b]at q;cases q),fun h=>⟨c,fun x b=>Bool.eq_false_iff.2 (h x b)⟩⟩
 rw[<-a];constructor
 ·intro h;rw[<-Hf,h];decide
 ·intro h;unfold iQ;rw[h];decide
def fm(s:List Nat):List Value:=(aY 16).map fun j=>Value.int .u32 (iQ s j:Int)
theorem zn(s:List Nat):(fm s).length=16:=by unfold fm;rw[cu,j7]
theorem Cf(s:List Nat){j:Nat}(h:j<16):(fm s)[j]? =some (.int .u32 (iQ s j:Int)):=by unfold fm;rw[fo,Cu h];rfl
theorem acF{a b:Nat}(d:a<4294967296)(c:b<4294967296):IntKind.u32.wrap ((dR IntKind.u32.bits (a:Int)|||dR IntKind.u32.bits (b:Int)).toNat:Int)=((a|||b:Nat):Int):=by
 have e:∀{a:Nat},a<4294967296->(dR 32 (a:Int)).toNat=a:=fun h=>by rw[BitVec.ofInt_natCast,BitVec.toNat_ofNat];exact lJ jO
 show IntKind.u32.wrap ((dR 32 (a:Int)|||dR 32 (b:Int)).toNat:Int)=_;rw[BitVec.toNat_or,e d,e c]
 exact Oz _ (by
  have:=Nat.or_lt_two_pow (n:=32) d c
  omega)
theorem acG{k:Nat}(a:k<=31):IntKind.u32.wrap (1*2^min k IntKind.u32.bits)=((2^k:Nat):Int):=by have c:min k IntKind.u32.bits=k:=r8 (show k<=32 by omega);have b:2^k<=2^31:=oD (show 0<2 by decide) a;have d:(2:Nat)^31=2147483648:=rfl;rw[c,Int.one_mul,show((2:Int)^k)=((2^k:Nat):Int) by rw[Int.natCast_pow];rfl];generalize (2:Nat)^k=P at b⊢;exact Oz _ jO
theorem aoZ(s:List Nat){x:Nat}(b:x<256):(fm s).set (x/16) (.int .u32 ((iQ s (x/16)|||2^(15-x %16):Nat):Int))=fm (s++[x]):=by
 refine apI fun i=> ?_;rw[aqC];by_cases a:i<16
 ·rw[Cf _ a,Cf _ a,acE];by_cases c:x/16=i
  ·rw[if_pos c,if_pos (by rw[zn];omega),if_pos c,c]
  ·rw[if_neg c,if_neg c]
 ·rw[if_neg jO,jM (by rw[zn];omega),jM (by rw[zn];omega)]
theorem acH(s:List Nat):(fm s).all one=true:=by unfold fm;rw[List.all_map];exact mu.2 fun _ _=>rfl
section
variable {lf d n:Nat} {h:H}
theorem ao0{s:List Nat}(p:∀x∈s,x<256)(R:s.length<=256)(K:300<=lf):ae (fun _=>False) n (eW lf (d+1) 135 #[.string ⟨(bS s).toArray⟩]) h n fun y h' n'=>y= .agg (fm s).toArray:=by
 rw[aF (fun _=>U3) rfl];refine ae.aE ?_;unfold EO;refine fh rfl _ ?_;refine fh rfl _ ?_;obtain⟨e,c⟩:∃e,(h.set n (some ⟨184,true,p9⟩)).set (n+1) (some ⟨184,true,p9⟩)=e:=⟨_,rfl⟩;have O:e.get n=some ⟨184,true,p9⟩:=by rw[<-c,aB _ _ jO,get_eq]
 have N:e.get (n+1)=some ⟨184,true,fm []⟩:=by rw[<-c,get_eq];rfl
 rw[c];clear c;refine jA @qn ?_;refine cG s.length (fun j i (_:Unit)=>vK lf (eW lf d) j (EN lf (eW lf d)) (.string ⟨(bS s).toArray⟩) (jP n 0) (jP (n+1) 0) (jI (s.length:Int)) (jI (i:Nat))) (fun i _ h' n'=>n'=n+1+1∧h'.get n=some ⟨184,true,p9⟩∧h'.get (n+1)=some ⟨184,true,fm (s.take i)⟩) ?_ ?_ lf 0 () e (n+1+1) (bU _) jO ⟨rfl,O,N⟩
 ·rintro j _ h' n' ⟨rfl,g,q1⟩;rw[eh]at q1;rw[vK];refine jA @bE ?_;unfold EN;refine jB ?_;have m:=zn s;have q:(sb 0 (fm s)).take 16=fm s:=by rw[dx,<-m,eh]
  refine lV (sz:=16) (n+1) 0 _ q1 jO (by show 0+16<=(fm s).length;omega) ?_;show ae _ _ (b9 16 (jP n 0) (.agg ((sb 0 (fm s)).take 16).toArray) fun x=>bR 16 (jP n 0) fun b=>aj [b]) _ _ _;rw[q];refine iZ (sz:=16) (cs:=p9) trivial (vs:=fm s) m rfl (acH s) g jO (.inl (ai n)) _ fun T L Q=> ?_;refine lV (sz:=16) n 0 _ L jO (by show 0+16<=(fm s).length;omega) ?_;show ae _ _ (aj [.agg ((sb 0 (fm s)).take 16).toArray]) _ _ _;rw[q];exact jE
 ·rintro j i _ h' n' f ⟨rfl,g,q1⟩ next;have r:(i:Int)<((s.length:Nat):Int):=jO;have l:(i:Int)<(((bS s).length:Nat):Int):=by rw[qn];exact r
  have w:(i:Int)+1=((i+1:Nat):Int):=rfl
  have z:s.take (i+1)=s.take i++[s.getD i 0]:=by rw[fq f,aC,aJ f];rfl
  have o:s.getD i 0<256:=p _ (by rw[aC,aJ f];exact cb _);have t:((bS s).getD i 0).toNat=s.getD i 0:=Gs p f;rw[z]at next;generalize s.getD i 0=x at o t next;have B:(x:Int).tdiv 16=((x/16:Nat):Int):=by rw[show(16:Int)=((16:Nat):Int)from rfl,<-HJ]
  have A:(x:Int).tmod 16=((x %16:Nat):Int):=by rw[show(16:Int)=((16:Nat):Int)from rfl,<-arx]
  have v:IntKind.u8.wrap ((x/16:Nat):Int)=((x/16:Nat):Int):=aqQ _ jO;have u:IntKind.u8.wrap (15-((x %16:Nat):Int))=((15-x %16:Nat):Int):=by rw[show(15:Int)-((x %16:Nat):Int)=((15-x %16:Nat):Int) by omega];exact aqQ _ jO
  have P:((x/16:Nat):Int)<16:=jO;rw[vK];have D:=Cf (s.take i) (show x/16<16 by omega);have C:=acG (k:=15-x %16) jO;have E:2^(15-x %16)<4294967296:=aq6 (oD (show 0<2 by decide) (show 15-x %16<=15 by omega)) jD;have F:=acF (a:=iQ (s.take i) (x/16)) (b:=2^(15-x %16)) (by have:=Ce (s.take i) (x/16);omega) E;have J:x/16<(fm (s.take i)).length:=by rw[zn];omega
  have G:n+1<n+1+1:=dK _;have I:n<=n+1:=cH n;try simp(disch:=first|omega|assumption|exact gY _) only[Nat.reduceAdd,Nat.reduceLT,RZ,r,l,t,B,A,v,u,P,q1,D,C,F,J,G,I,true_or,true_and,eg]
  rw[w];exact next () _ _ ⟨rfl,(aB _ _ jO).trans g,(get_eq _ _ _).trans (by rw[aoZ _ o])⟩
end
def oz(s:List Nat)(i:Nat):Nat:=iQ ((aY i).filter (fM s)) 0
theorem ao1(s:List Nat){i:Nat}(a:i<16):oz s (i+1)=if fM s i=true then oz s i|||2^(15-i)else oz s i:=by
 unfold oz;rw[mv,aqS];by_cases c:fM s i=true
 ·rw[if_pos c,show [i].filter (fM s)=[i] by simp[c],acE,if_pos jO,lJ a]
 ·rw[if_neg c,show [i].filter (fM s)=[] by simp[c],cz]
theorem ao2(s:List Nat):bh (oz s 16) 16=xa s:=by
 unfold oz;rw[Hf];unfold iu xa;refine mq fun k a=> ?_;rw[Nat.mul_zero,fy];cases h:fM s k with
 |true=>exact decide_eq_true (List.mem_filter.2 ⟨a,h⟩)
 |false=>exact decide_eq_false fun q=>by rw[(List.mem_filter.1 q).2]at h;cases h
section
variable {lf d n lo w K:Nat} {sv:Value} {l:List Bool} {h:H}
set_option maxHeartbeats 1000000 in
theorem ao3(x:cK K h lo n w sv l){s:List Nat}(I:Sy s)(h0:s≠[])(hl:l.length<=5000000)(t:300<=lf):ae (fun c=>c=w∨az sv c) n (eW lf (d+3) 99 #[jP w 0,.string ⟨(bS s).toArray⟩]) h n fun v' h' n'=>v'=jI 0∧∃m,cK K h' lo n' w m (l++xc s)∧∀c,c<n->az m c->az sv c:=by
 have sl:=I.len;rw[aF (fun _=>TI) rfl];refine ae.aE ?_;unfold Ej;refine jB ?_;refine aN aL (aaf (lf:=lf) (d:=d+1) I h0 t) (ai n) (fun _ _ h=>h.elim) fun v1 h1 n1 u1 u4 O=> ?_;obtain⟨rfl,rfl,rfl⟩:=O;refine jB ?_;refine aN aL (ao0 (lf:=lf) (d:=d+1) I.lt sl t) (ai _) (fun _ _ h=>h.elim) fun v2 h2 e Q W N=> ?_;subst N;have C:cK K h2 lo e w sv l:=x.ay Q fun b f _=>W b f id;refine fh rfl _ ?_;have Y:=zn s;have e3:(sb 0 (fm s)).take 16=fm s:=by rw[dx,<-Y,eh]
 refine iZ (sz:=16) (cs:=p9) trivial (vs:=fm s) Y rfl (acH s) (get_eq _ _ _) jO (.inl jO) _ fun T g5 k5=> ?_;have x5:cK K T lo (e+1) w sv l:=C.ay (cH _) fun b f _=>(k5 b jO).trans (aB _ _ jO);refine lV (sz:=16) e 0 _ g5 jO (by show 0+16<=(fm s).length;omega) ?_;show ae _ _ (rm lf (eW lf (d+2)) lf (yi lf (eW lf (d+2))) (jP w 0) (.string ⟨(bS s).toArray⟩) (ii 0) (jP e 0) (i3 0) (.bool false) (.bool false) (.agg ((sb 0 (fm s)).take 16).toArray) (ii 0)) _ _ _;rw[e3];refine cG 16 (fun g i (_:Unit)=>rm lf (eW lf (d+2)) g (yi lf (eW lf (d+2))) (jP w 0) (.string ⟨(bS s).toArray⟩) (ii 0) (jP e 0) (.int .u32 (oz s i:Int)) (.bool false) (.bool false) (.agg (fm s).toArray) (jI (i:Nat))) (fun i _ h' n'=>h'=T∧n'=e+1) ?_ ?_ lf 0 () T (e+1) (bU _) jO ⟨rfl,rfl⟩
 ·rintro g _ h' n' ⟨rfl,rfl⟩;have z:¬((16:Nat):Int)<16:=jD;rw[rm];refine jA @z ?_;unfold yi;have X:=lx (lf:=lf) (d:=d) x5 (v:=oz s 16) (k:=16) jD (Ce _ _) jO jO;have y:((16:Nat):Int)=16:=rfl;rw[y,ao2]at X;refine aN aL X jO (fun b f hq=> .inr hq) fun v6 h6 n6 P U L=> ?_;obtain⟨rfl,D,x6,G⟩:=L
  have nw:¬(e=w∨az sv e):=fun q=>by
   rcases q with q|q
   ·have:=C.lt;omega
   ·have:=(C.own.lt q).2;omega
  have g6:=(U e jO nw).trans g5;refine lV (sz:=16) e 0 _ g6 jO (by show 0+16<=(fm s).length;omega) ?_;show ae _ _ (rq lf (eW lf (d+2)) lf (Aw lf (eW lf (d+2))) (jP w 0) (.string ⟨(bS s).toArray⟩) (ii 0) (jP e 0) (.int .u32 (oz s 16:Int)) (.bool false) (.bool false) (.agg (fm s).toArray) (jI 16) _ (.agg ((sb 0 (fm s)).take 16).toArray) (ii 0)) _ _ _;rw[e3]
  have E:∀i,i<=16->(l++xa s++qv s i).length<=6000000:=fun i u=>by have:=G0 s i;rw[aG,aG,aam];omega
  refine cG 16 (fun g i (_:Value)=>rq lf (eW lf (d+2)) g (Aw lf (eW lf (d+2))) (jP w 0) (.string ⟨(bS s).toArray⟩) (ii 0) (jP e 0) (.int .u32 (oz s 16:Int)) (.bool false) (.bool false) (.agg (fm s).toArray) (jI 16) (.bool false) (.agg (fm s).toArray) (jI (i:Nat))) (fun i sw h' n'=>e+1<=n'∧cK K h' lo n' w sw (l++xa s++qv s i)∧∀c,c<e+1->az sw c->az sv c) ?_ ?_ lf 0 D h6 n6 (bU _) jO ⟨P,by rw[show qv s 0=[]from rfl,cz];exact x6,G⟩
  ·rintro g sw h' n' ⟨q1,q2,r⟩;rw[rq];refine jA @z ?_;unfold Aw;refine jB ?_;refine⟨sw, ?_,fun c Z=>r c jO⟩;rw[bW]at q2;exact q2
  ·rintro g i sw h' n' u ⟨q1,q2,r⟩ next;have A:(i:Int)<16:=jO;have j:(i:Int)+1=((i+1:Nat):Int):=rfl;have p:=Cf s u;have bd:=E i jO;rw[rq];cases f:fM s i with
   |false=>
    have B:(((iQ s i:Nat):Int) !=0)=false:=by rw[(Hg s i).2 f];rfl
    refine jA (aI @A (aI @p (aI @B @eg))) ?_;rw[j];refine next sw h' n' ⟨q1, ?_,r⟩;rw[GZ,f,if_neg jD,cz];exact q2
   |true=>
    have B:(((iQ s i:Nat):Int) !=0)=true:=by rw[bne_iff_ne];intro q;have:iQ s i=0:=jO;rw[(Hg s i).1 this]at f;cases f
    refine jA (aI @A (aI @p (aI @B @eg))) ?_;have o:=lx (lf:=lf) (d:=d) q2 (v:=iQ s i) (k:=16) jD (Ce _ _) jO jO;rw[y,Hf]at o;refine aN aL o jO (fun b u2 hq=> ?_) fun v8 h8 n8 u0 u3 J=> ?_
    ·rcases hq with hq|hq
     ·exact .inr (.inl hq)
     ·by_cases R:b<e+1
      ·exact .inr (.inr (r b R hq))
      ·exact .inl jO
    obtain⟨rfl,sw8,x8,F⟩:=J;refine jB ?_;rw[j];refine next sw8 h8 n8 ⟨jO, ?_,fun c Z hq=>r c Z (F c jO hq)⟩;rw[GZ,f,if_pos rfl,<-bW];exact x8
 ·rintro g i _ h' n' u ⟨rfl,rfl⟩ next;have A:(i:Int)<16:=jO;have j:(i:Int)+1=((i+1:Nat):Int):=rfl;have p:=Cf s u;have next:=next () _ _ ⟨rfl,rfl⟩;rw[ao1 s u]at next;have w3:IntKind.i64.wrap (15-(i:Int))=((15-i:Nat):Int):=by rw[aV jO jO];omega
  rw[rm];cases f:fM s i with
  |false=>
   have z:(((iQ s i:Nat):Int) !=0)=false:=by rw[(Hg s i).2 f];rfl
   rw[if_neg (by rw[f];decide)]at next;refine jA (aI @A (aI @p (aI @z @eg))) ?_;rw[j];exact next
  |true=>
   have z:(((iQ s i:Nat):Int) !=0)=true:=by rw[bne_iff_ne];intro q;have:iQ s i=0:=jO;rw[(Hg s i).1 this]at f;cases f
   have sh:=acG (k:=15-i) jO;have pl:2^(15-i)<4294967296:=aq6 (oD (show 0<2 by decide) (show 15-i<=15 by omega)) jD;have oo:=acF (a:=oz s i) (b:=2^(15-i)) (by have:=Ce ((aY i).filter (fM s)) 0;unfold oz;omega) pl;rw[if_pos f]at next;try simp(disch:=first|omega|assumption|exact gY _) only[Nat.reduceAdd,Nat.reduceLT,RZ,A,p,z,w3,sh,oo,eg]
   rw[j];exact next
end
end Go.Proofs.YtcehhgppfahbkaaGreatDoor
