import Derived.Test.YtcehhgppfahbkaaGreatDoorMag
import Derived.Test.YtcehhgppfahbkaaGreatDoorMaf
import Derived.Test.YtcehhgppfahbkaaGreatDoorMad
import Derived.Test.YtcehhgppfahbkaaGreatDoorMae
import Derived.WalkKit
import Derived.Test.YtcehhgppfahbkaaGreatDoorMac
import Derived.Shelf.Strings.Builder1
import Derived.Shelf.Strings.Builder2
import Derived.Shelf.Strings.BuilderF
import Derived.Shelf.Strings.Prefix
import Derived.Shelf.Bits.Mul64
import Derived.Shelf.Strings.Repeat
import Derived.Shelf.Bytes.IndexByte
import Derived.Test.YtcehhgppfahbkaaGreatDoorProg
import Derived.Test.YtcehhgppfahbkaaGreatDoorRows
import Derived.Test.YtcehhgppfahbkaaGreatDoorMab
import Derived.MakeChecks
import Derived.OpenShut
import Derived.ChangeArms
open Go.Proofs.Tryz renaming prog→ad, underlying3→VT, underlying5→VU, isAgg5→VV, sizeOf5→VW, zeroValue5→VX, isAgg3→ahQ, sizeOf3→ahR, zeroValue3→ahS, underlying99→ahT, isAgg99→ahU, sizeOf99→ahV, zeroValue99→ahW
open Nat renaming le_refl→ag, beq→bq, le_succ→cI, zero_le→cL, lt_of_lt_of_le→dC, lt_succ_self→dL, zero_add→fD, not_lt_zero→jr, pow_le_pow_right→kD, le_trans→pU, lt_irrefl→ub, sub_zero→IJ, mul_le_mul→agE, le_of_lt→ahJ
open List renaming getD_eq_getElem?_getD→au, length_append→ay, getElem?_eq_getElem→aC, range→aV, replicate→bI, length_cons→bL, getElem_mem→cu, drop_zero→dj, length_take→ed, length_map→eR, mem_cons_of_mem→eU, take_length→fi, getElem?_map→fw, length_drop→fO, take_of_length_le→fZ, map_append→gZ, take_succ_eq_append_getElem→jV, mem_cons_self→jW, length_range→kC, mem_of_mem_take→lG, ext_getElem→mr, map_congr_left→ni, drop_length→qc, take_zero→ru, getElem?_range→ua, mem_of_mem_drop→ue, range_succ→uf, getElem_map→vS, getElem_set→Da, mem_map→De, map_replicate→Dg, cons_append→ahl
open Int renaming lt_irrefl→cb, reduceBEq→cw, reduceBNe→cz, reduceLT→cA, reduceLE→cB, reduceEq→cC, reduceNe→cD, reduceAdd→cE, reduceSub→cF, reduceMul→cG, reduceNeg→cH, toNat_natCast→fg, natCast_nonneg→fE, toNat→vQ, le_refl→ahm, tdiv_eq_ediv_of_nonneg→ahH, mul_nonneg→ahM
open Bool renaming not_true→fY, not_false→iD
open Go.IntKind renaming bits→C0
open List.cons renaming inj→ID
open Go.Shelf renaming Ren→ahP
open Go.Proofs.Lays renaming n105→aiz, n187→aiA
open Classical renaming epsilon→aiB, epsilon_spec→aiC
set_option linter.unusedVariables false
set_option linter.unusedSimpArgs false
namespace Go.Proofs.YtcehhgppfahbkaaGreatDoor
open Go.RowKit Ev Cn
def eN(x:Nat):List Nat->Nat
 |[]=>0
 |y::l=>if y=x then 0 else eN x l+1
theorem xL{x:Nat}:∀{l:List Nat},x∈l->eN x l<l.length∧l.getD (eN x l) 0=x
 |[],h=>by cases h
 |y::l,h=>by
  unfold eN;by_cases c:y=x
  ·rw[if_pos c];exact⟨Nat.zero_lt_succ _,c⟩
  ·rw[if_neg c]
   have d:x∈l:=by
    rcases List.mem_cons.1 h with q|q
    ·exact absurd q.symm c
    ·exact q
   obtain⟨a,b⟩:=xL d;exact⟨Nat.succ_lt_succ a,b⟩
def en:List Nat->List Nat->List Nat
 |_,[]=>[]
 |ord,x::l=>eN x ord::en (dv 0 ord (eN x ord)) l
theorem HD{a:List Nat}{i x:Nat}(h:i<a.length)(b:x∈a):x∈dv 0 a i:=by
 unfold dv;obtain⟨j,d,rfl⟩:=List.getElem_of_mem b;rcases Nat.lt_trichotomy j i with c|c|c
 ·refine eU _ (List.mem_append_left _ ?_);rw[List.mem_take_iff_getElem];exact⟨j,jO,rfl⟩
 ·subst c;rw[au,aC h];exact jW
 ·refine eU _ (List.mem_append_right _ ?_);rw[List.mem_drop_iff_getElem];exact⟨j-(i+1),jO,by congr 1;omega⟩
theorem vq:∀(s a:List Nat),(en a s).length=s.length
 |[],_=>rfl
 |x::s,a=>by show(en _ s).length+1=_;rw[vq s];rfl
theorem Ch:∀(s c:List Nat),(∀x∈s,x∈c)->∀p∈en c s,p<c.length
 |[],_,_,p,d=>by cases d
 |x::s,c,h,p,d=>by
  obtain⟨a,b⟩:=xL (h x jW);rcases List.mem_cons.1 d with q|q
  ·rw[q];exact a
  ·have:=Ch s _ (fun y e=>HD a (h y (eU _ e))) p q;rwa[xH a]at this
def ew:Nat->Nat->List Nat
 |0,_=>[]
 |f+1,m=>if m=0 then []else if m %2=1 then 0::ew f ((m-1)/2)else 1::ew f ((m-2)/2)
def lu(n:Nat):Nat->List Nat->List Nat
 |q,[]=>ew q q++[n+1]
 |q,p::l=>if p=0 then lu n (q+1) l else ew q q++(p+1)::lu n 0 l
def HE(p:Nat×Nat):List Nat:=if p.2<4 then bI p.2 p.1 else bI 4 p.1++[p.2-4]
end Go.Proofs.YtcehhgppfahbkaaGreatDoor
namespace Go.Proofs.YtcehhgppfahbkaaGreatDoor
open Go.RowKit Ev Ip
end Go.Proofs.YtcehhgppfahbkaaGreatDoor
namespace Go.Proofs.YtcehhgppfahbkaaGreatDoor
open Go.RowKit Ev
section
variable {β:Type} {W:Nat->Prop} {n0 n lf d:Nat} {h:H} {Q:β->H->Nat->Prop}
end
end Go.Proofs.YtcehhgppfahbkaaGreatDoor
namespace Go.Proofs.YtcehhgppfahbkaaGreatDoor
open Go.RowKit Ev Cn Ip
section
variable {lf d n:Nat} {h:H}
def pkR(p:Nat×Nat)(x:Nat):Nat×Nat:=if 0<p.2∧p.1≠x then(x,1)else if p.2=254 then(0,0)else(x,p.2+1)
def Ci(p:Nat×Nat)(x:Nat):List Nat:=if 0<p.2∧p.1≠x then HE p else if p.2=254 then HE (x,255)else []
end
end Go.Proofs.YtcehhgppfahbkaaGreatDoor
namespace Go.Proofs.YtcehhgppfahbkaaGreatDoor.Ev
open Go Go.RowKit
theorem Tz(ws:List Nat):(bJ ws).all one=true:=by unfold bJ;simp[one]
section
variable {β:Type} {W:Nat->Prop} {n0:Nat} {h:H} {n:Nat} {Q:β->H->Nat->Prop}
variable {e:TypeId} {v:Value} {ws:List Nat}
end
end Go.Proofs.YtcehhgppfahbkaaGreatDoor.Ev
namespace Go.Proofs.YtcehhgppfahbkaaGreatDoor
open Go.RowKit Ev Cn Ip
section
variable {β:Type} {W:Nat->Prop} {n0 n:Nat} {h:H} {Q:β->H->Nat->Prop}
end
abbrev TE(ps:List (Nat×Nat)):List Nat:=ps.flatMap HE
structure Pm where
 p:Nat
 c:Nat
 q:Nat
 bv:Value
section
variable {lf d n room:Nat} {h:H} {L:Nat->Nat} {ps:List (Nat×Nat)} {row:Nat×Nat} {m:Pm}
end
section
variable {lf d n room:Nat} {h:H} {L:Nat->Nat} {ps:List (Nat×Nat)} {row:Nat×Nat} {m:Pm}
end
end Go.Proofs.YtcehhgppfahbkaaGreatDoor
namespace Go.Proofs.YtcehhgppfahbkaaGreatDoor
open Go.RowKit Ev Sp Cn
section
variable {lf d n:Nat} {h:H} {L:Nat->Nat} {l:List UInt8} {t:Nat} {ob:Bool} {m:Tm}
theorem adm(y:mW h n L l t ob m)(hd:t-TS l=l.length)(o:l.length<=900000):aa (fun _=>False) n (ah ad gt lf (d+2) 94 #[jP m.a 0]) h n fun f h' n'=>f= .tuple #[.string ⟨(bS (me l l.length)).toArray⟩,jI (mU l l.length:Int)]:=by
 rw[aF (fun _=>Om) rfl];refine aa.aD ?_;unfold FO;refine aJ aE (xG (lf:=lf) (d:=d) y o) (ag n) (fun _ _ h=>h.elim) fun q s b k p c=> ?_;obtain⟨rfl,rfl,rfl⟩:=c;have g:=y.get;have e:=y.lt;have a:=y.nY;unfold mV at g;rw[hd]at g a;rw[decide_eq_true hd];try simp(disch:=first|omega|assumption) only[Nat.reduceAdd,Nat.reduceLT,RZ]
 refine uQ (m:=b) trivial m.a 3 _ g e (ag _) rfl fun w r=> ?_;try simp(disch:=first|omega|assumption) only[Nat.reduceAdd,Nat.reduceLT,RZ]
 refine adh (m:=b) a (ag _) _ fun v j=> ?_;try simp(disch:=first|omega|assumption) only[Nat.reduceAdd,Nat.reduceLT,RZ]
 refine uQ (m:=b) trivial m.a 4 _ g e (ag _) rfl fun u i=> ?_;try simp(disch:=first|omega|assumption) only[Nat.reduceAdd,Nat.reduceLT,RZ,j.gf i,iD,pf]
theorem adn(e:1<=l.length)(D:l.length<=900)(C:3000000<=lf):aa (fun _=>False) n (ah ad gt lf (d+7) 57 #[.string ⟨l.toArray⟩]) h n fun g h' n'=>g= .tuple #[.string ⟨(bS (me l l.length)).toArray⟩,jI (mU l l.length:Int),jI 0]:=by
 have Z:TS l<=900*((4+3*10)*(10+2)):=by have e:=MK (bA l) 10 (by rw[eu];omega) (by rw[eu];show l.length<=1024;omega);rw[eu]at e;exact pU e (Nat.mul_le_mul_right _ D)
 rw[aF (fun _=>NY) rfl];refine aa.aD ?_;unfold Ar;refine aJ aE (ac2 (lf:=lf) (d:=d+4) e jO jO fun _=>0) (ag n) (fun _ _ h=>h.elim) fun Y r v a O o=> ?_;obtain⟨L1,w,rfl,R,ma,t⟩:=o;try simp(disch:=first|omega|assumption) only[Nat.reduceAdd,Nat.reduceLT,RZ,dq,ext1]
 obtain⟨s,q⟩:∃s,lf=s+1+1:=⟨lf-2,jO⟩
 have I:∀F,F=lf->aa (fun _=>False) n (sa lf (ah ad gt lf (d+6)) F (Aq lf (ah ad gt lf (d+6))) (.string ⟨l.toArray⟩) (.string ⟨#[]⟩) (jI 0) (jI 0) (jP w.a 0) (jI 0) (.bool false)) r v fun g h' n'=>g= .tuple #[.string ⟨(bS (me l l.length)).toArray⟩,jI (mU l l.length:Int),jI 0]:=by
  intro F G;obtain rfl:F=s+1+1:=G.trans q;rw[sa];refine aJ aE (xG (lf:=lf) (d:=d+5) t jO) a (fun _ _ h=>h.elim) fun X h2 n2 B N m=> ?_;obtain⟨rfl,rfl,rfl⟩:=m;have Q:¬(0-TS l=l.length):=jO;rw[decide_eq_false Q];try simp(disch:=first|omega|assumption) only[Nat.reduceAdd,Nat.reduceLT,RZ]
  refine aJ aE (ac1 (lf:=lf) (d:=d) t e jO 1099511627776 jD jO) a (fun b hb x=> .inl ?_) fun W h3 n3 A L k=> ?_
  ·by_cases c:b<n
   ·have:=R b c;unfold mX at x;omega
   ·omega
  obtain⟨rfl,L3,m3,E,p,f⟩:=k
  have P:0+lq l 0 1099511627776=TS l+l.length:=by unfold lq;rw[IJ,fD];exact Nat.min_eq_right (by show _<=1099511627776;omega)
  rw[P]at f;try simp(disch:=first|omega|assumption) only[Nat.reduceAdd,Nat.reduceLT,RZ]
  rw[<-p,sa];refine aJ aE (xG (lf:=lf) (d:=d+5) f jO) jO (fun _ _ h=>h.elim) fun U h4 n4 z K j=> ?_;obtain⟨rfl,rfl,rfl⟩:=j;have u:TS l+l.length-TS l=l.length:=jO;rw[decide_eq_true u];try simp(disch:=first|omega|assumption) only[Nat.reduceAdd,Nat.reduceLT,RZ]
  unfold Aq;refine aJ aE (adm (lf:=lf) (d:=d+4) f u jO) jO (fun _ _ h=>h.elim) fun T h5 n5 y J i=> ?_;subst i;try simp(disch:=first|omega|assumption) only[Nat.reduceAdd,Nat.reduceLT,RZ,dq,ext1]
 exact I lf rfl
end
end Go.Proofs.YtcehhgppfahbkaaGreatDoor
namespace Go.Proofs.YtcehhgppfahbkaaGreatDoor
open Go.RowKit Ev Cn
def eo(s:List Nat)(i:Nat):List Nat:=s.drop i++s.take i
def vr(w:List Nat):Nat:=w.getLastD 0
structure xM (s σ:List Nat):Prop where
 perm:σ.Perm (aV s.length)
 srt:σ.Pairwise fun i k=>eo s i<=eo s k
def mg(s a:List Nat):List Nat:=a.map fun i=>vr (eo s i)
theorem Cj(s:List Nat)(i:Nat):(eo s i).length=s.length:=by unfold eo;rw[ay,fO,ed];omega
section
variable {s σ:List Nat}
theorem ado(k:xM s σ):(mg s σ).length=s.length:=by unfold mg;rw[eR,k.perm.length_eq,kC]
theorem xM.len(k:xM s σ):σ.length=s.length:=by rw[k.perm.length_eq,kC]
theorem adp{w:List Nat}(h:w≠[]):vr w∈w:=by unfold vr;rw[List.getLastD_eq_getLast?,List.getLast?_eq_some_getLast h];exact List.getLast_mem h
theorem adq(k:xM s σ)(a:By s):By (mg s σ):=fun x b=>by
 obtain⟨i,c,rfl⟩:=De.1 b;have e:i<s.length:=List.mem_range.1 (k.perm.mem_iff.1 c);have d:eo s i≠[]:=fun q=>by have:=Cj s i;rw[q]at this;simp at this;omega
 have:=adp d;unfold eo at this;rcases List.mem_append.1 this with q|q
 ·exact a _ (ue q)
 ·exact a _ (lG q)
end
def mi(s:List Nat)(i:Nat):List Bool:=(aV 16).map fun k=>decide (16*i+k∈s)
def fW(s:List Nat)(i:Nat):Bool:=(mi s i).any id
def tF(s:List Nat):List Bool:=(aV 16).map (fW s)
def Cl(s:List Nat):List Bool:=tF s++((aV 16).filter (fW s)).flatMap (mi s)
theorem xN(s:List Nat)(i:Nat):(mi s i).length=16:=by unfold mi;simp
theorem TF(s:List Nat):(tF s).length=16:=by unfold tF;simp
theorem TG(s:List Nat):(Cl s).length=16+16*((aV 16).filter (fW s)).length:=by
 unfold Cl;rw[ay,TF];congr 1;generalize (aV 16).filter (fW s)=l
 induction l with
 |nil=>rfl
 |cons a l b=>rw[List.flatMap_cons,ay,xN,b,bL];omega
end Go.Proofs.YtcehhgppfahbkaaGreatDoor
namespace Go.Proofs.YtcehhgppfahbkaaGreatDoor.Tb
def gF(x:Int):Int:=if 1099511627776<x then 1099511627776 else x
theorem TH{a y:Int}(b:0<=y):gF (gF a+y)=gF (a+y):=by
 unfold gF
 repeat' split
 all_goals omega
theorem TI(x:Int):gF x<=1099511627776:=by unfold gF;split<;>omega
theorem TJ{x:Int}(h:0<=x):0<=gF x:=by unfold gF;split<;>omega
theorem HF{x:Int}(h:x<=1099511627776):gF x=x:=by unfold gF;rw[if_neg jO]
def bu:List Int->Int
 |[]=>0
 |x::l=>x+bu l
theorem nR:∀a b:List Int,bu (a++b)=bu a+bu b
 |[],b=>by simp[bu]
 |x::a,b=>by simp only[ahl,bu,nR a b];omega
theorem HG:∀{l:List Int},(∀x∈l,0<=x)->0<=bu l
 |[],_=>ahm 0
 |x::l,h=>by have:=HG (l:=l) fun y a=>h y (eU _ a);have:=h x jW;simp only[bu];omega
theorem vi(B:Int):∀{l:List Int},(∀x∈l,x<=B)->bu l<=l.length*B
 |[],_=>by simp[bu]
 |x::l,h=>by have:=vi B (l:=l) fun y a=>h y (eU _ a);have:=h x jW;simp only[bu,bL,Int.natCast_add,Int.add_mul];omega
theorem adr{l:List Int}{i:Nat}(h:i<l.length):bu (l.take (i+1))=bu (l.take i)+l.getD i 0:=by rw[jV h,nR,au,aC h];simp[bu]
def look(ls:List Int)(x:Int):Int:=ls.getD x.toNat 0
def mY(l ls:List Int):Int:=bu (l.map (look ls))
def jM(l ls:List Int):Int:=gF (mY l ls)
theorem HH{ls:List Int}(h:∀x∈ls,0<=x)(x:Int):0<=look ls x:=by
 unfold look;rw[au];by_cases a:x.toNat<ls.length
 ·rw[aC a];exact h _ (cu a)
 ·rw[List.getElem?_eq_none jO];exact ahm 0
theorem ads{l ls:List Int}(h:∀x∈ls,0<=x):0<=mY l ls:=HG fun x a=>by obtain⟨y,_,rfl⟩:=De.1 a;exact HH h y
theorem HI{l ls:List Int}(h:∀x∈ls,0<=x):0<=jM l ls:=TJ (ads h)
theorem HJ(l ls:List Int):jM l ls<=1099511627776:=TI _
theorem adt{l ls:List Int}{i:Nat}(h:i<l.length):mY (l.take (i+1)) ls=mY (l.take i) ls+look ls (l.getD i 0):=by unfold mY;rw[jV h,gZ,nR,au,aC h];simp[bu]
theorem adu{l ls:List Int}(a:∀x∈ls,0<=x){i:Nat}(h:i<l.length):gF (jM (l.take i) ls+look ls (l.getD i 0))=jM (l.take (i+1)) ls:=by unfold jM;rw[TH (HH a _),adt h]
def jj(l:List Int)(v:Nat):Nat:=l.countP fun x=>x==(v:Int)
def dx(l:List Int)(a:Nat):List Int:=(aV a).map fun v=>(jj l v:Int)
theorem jk(l:List Int)(a:Nat):(dx l a).length=a:=by unfold dx;simp
theorem HK{l:List Int}{a v:Nat}(h:v<a):(dx l a).getD v 0=(jj l v:Int):=by unfold dx;rw[au,fw,ua h];rfl
theorem Co(l:List Int)(v:Nat):jj l v<=l.length:=List.countP_le_length
theorem TK(a b:List Int)(v:Nat):jj (a++b) v=jj a v+jj b v:=List.countP_append
theorem adv{l:List Int}{i:Nat}(h:i<l.length)(v:Nat):jj (l.take (i+1)) v=jj (l.take i) v+(if l.getD i 0=(v:Int)then 1 else 0):=by rw[jV h,TK,au,aC h];unfold jj;simp only[List.countP_cons,List.countP_nil,Option.getD_some,beq_iff_eq,fD]
theorem HL{l:List Int}{a:Nat}{x:Int}(h:x∈dx l a):0<=x∧x<=l.length:=by unfold dx at h;obtain⟨v,_,rfl⟩:=De.1 h;have:=Co l v;omega
theorem TL(a:Nat):dx [] a=bI a 0:=by
 apply mr
 ·simp[jk]
 ·intro i c b;simp[dx,jj]
theorem adw{l:List Int}{a i v:Nat}(h:i<l.length)(b:l.getD i 0=(v:Int))(d:v<a):(dx (l.take i) a).set v ((jj (l.take i) v:Int)+1)=dx (l.take (i+1)) a:=by
 apply mr
 ·simp[jk]
 ·intro j g f;have e:∀(m:List Int) (h:j<(dx m a).length),(dx m a)[j]=(jj m j:Int):=fun m h=>by simp[dx]
  rw[Da,e,e,adv h,b];by_cases c:v=j
  ·subst c;simp
  ·rw[if_neg c,if_neg jO];simp
theorem adx{ls:List Int}(h:∀x∈ls,0<=x)(i:Nat):0<=ls.getD i 0:=by have:=HH h (i:Int);simpa[look]using this
def cY(n:Nat):Nat:=(n+49)/50
def eO(l:List Int)(i:Nat):List Int:=(l.drop (50*i)).take 50
def iR(l:List Int):List (List Int):=(aV (cY l.length)).map (eO l)
theorem TM(l:List Int):(iR l).length=cY l.length:=by unfold iR;simp
theorem TN{l:List Int}{i:Nat}{x:Int}(h:x∈eO l i):x∈l:=ue (lG h)
theorem xO(l:List Int)(i:Nat):(eO l i).length=min 50 (l.length-50*i):=by unfold eO;simp
theorem TO{l:List Int}{i:Nat}(h:i<cY l.length):0<(eO l i).length:=by rw[xO];unfold cY at h;omega
theorem ady{l g:List Int}(h:g∈iR l):(∀x∈g,x∈l)∧0<g.length∧g.length<=50:=by unfold iR at h;obtain⟨i,b,rfl⟩:=De.1 h;have:=TO (List.mem_range.1 b);exact⟨fun x a=>TN a,this,by rw[xO];omega⟩
def tG(g:List Int):List (List Int)->Nat->Nat->Int->Nat
 |[],_,b,_=>b
 |t::T,p,b,m=>if jM g t<m then tG g T (p+1) p (jM g t)else tG g T (p+1) b m
def xP(g:List Int)(T:List (List Int)):Nat:=tG g T 0 0 1099511627776
theorem HM(g:List Int)(N:Nat):∀(T:List (List Int)) (p b:Nat) (m:Int),p+T.length<=N->b<N->tG g T p b m<N
 |[],_,_,_,_,a=>a
 |t::T,p,b,m,h,a=>by
  simp only[bL]at h;simp only[tG];split
  ·exact HM g N T (p+1) p _ jO jO
  ·exact HM g N T (p+1) b _ jO a
theorem TP(g:List Int){T:List (List Int)}(h:0<T.length):xP g T<T.length:=HM g T.length T 0 0 _ jO h
def jm(a T:List (List Int)):List Nat:=a.map fun g=>xP g T
def jN(p:Nat):List (List Int)->List Nat->List Int
 |g::b,q::a=>(if q=p then g else [])++jN p b a
 |_,_=>[]
theorem TQ(p:Nat):∀(d:List (List Int)) (c:List Nat) (g:List Int) (q:Nat),d.length=c.length->jN p (d++[g]) (c++[q])=jN p d c++(if q=p then g else [])
 |[],[],g,q,_=>by simp[jN]
 |[],_::_,_,_,h=>by simp at h
 |_::_,[],_,_,h=>by simp at h
 |a::d,b::c,g,q,h=>by simp only[ahl,jN,List.append_assoc];rw[TQ p d c g q (by simpa using h)]
theorem HN(p:Nat):∀(c:List (List Int)) (d:List Nat),(∀g∈c,g.length<=50)->(jN p c d).length<=50*c.length
 |[],_,_=>by simp[jN]
 |_::_,[],_=>by simp[jN]
 |a::c,b::d,h=>by have:=HN p c d fun g e=>h g (eU _ e);have:=h a jW;simp only[jN,ay,bL];split<;>simp<;>omega
def ra(b T:List (List Int))(a p:Nat):List Int:=dx (jN p b (jm b T)) a
def lx(a b:List Int):List Int:=(aV a.length).map fun i=>gF (a.getD i 0+b.getD i 0)
theorem adz(a b:List Int)(c:Nat)(h:a.length+b.length<=1099511627776):lx (dx a c) (dx b c)=dx (a++b) c:=by
 apply mr
 ·simp[lx,jk]
 ·intro i j e;have d:i<c:=by rw[jk]at e;exact e
  have:(lx (dx a c) (dx b c))[i]=gF ((dx a c).getD i 0+(dx b c).getD i 0):=by simp[lx]
  rw[this,HK d,HK d,show(dx (a++b) c)[i]=((jj (a++b) i:Nat):Int) by simp[dx],TK];have g:=Co a i;have f:=Co b i;rw[HF jO];omega
def jQ(n:Int):Nat:=if n<200 then 2 else if n<600 then 3 else if n<1200 then 4 else if n<2400 then 5 else 6
theorem HO(n:Int):2<=jQ n∧jQ n<=6:=by unfold jQ;repeat' split
                                      all_goals omega
def gG(a:List Int)(n:Int)(v:Nat):Int:=if n-1<bu (a.take v)then n-1 else bu (a.take v)
theorem adA{a:List Int}(b:∀x∈a,0<=x){n:Int}{v:Nat}(h:v<a.length):(if n-1<gG a n v+a.getD v 0 then n-1 else gG a n v+a.getD v 0)=gG a n (v+1):=by
 have:=adx b v;unfold gG;rw[adr h]
 repeat' split
 all_goals omega
theorem TR{a:List Int}(c:∀x∈a,0<=x){n:Int}(d:1<=n)(v:Nat):0<=gG a n v∧gG a n v<=n-1:=by have:=HG (l:=a.take v) fun x b=>c x (lG b);unfold gG;split<;>omega
def ku(a:List Int)(n:Int)(v:Nat):Nat:=(gG a n v*(jQ n:Int)/n).toNat
theorem adB{a:List Int}(e:∀x∈a,0<=x){n:Int}(c:1<=n)(v:Nat):(gG a n v*(jQ n:Int)).tdiv n=(ku a n v:Int):=by have d:=(TR e c v).1;have b:0<=gG a n v*(jQ n:Int):=ahM d jO;rw[ahH b];unfold ku;have:=Int.ediv_nonneg b (show 0<=n by omega);omega
def tH(a:List Int)(n:Int)(p:Nat):List Int:=(aV a.length).map fun v=>if ku a n v=p then 0 else 15
def tI(a:List Int)(n:Int):List (List Int):=(aV (jQ n)).map (tH a n)
theorem HP(a:List Int)(n:Int):(tI a n).length=jQ n:=by unfold tI;simp
theorem adC(a:List Int)(n:Int)(p:Nat):(tH a n p).length=a.length:=by unfold tH;simp
theorem adD{a:List Int}{n:Int}{p:Nat}{x:Int}(h:x∈tH a n p):0<=x∧x<=15:=by unfold tH at h;obtain⟨v,_,rfl⟩:=De.1 h;split<;>omega
end Go.Proofs.YtcehhgppfahbkaaGreatDoor.Tb
namespace Go.Proofs.YtcehhgppfahbkaaGreatDoor
open Go.RowKit Ev Tb
theorem TT{a:Type}(d:a)(p:a->Bool){xs:List a}{i:Nat}(h:i<xs.length):(xs.take (i+1)).all p=((xs.take i).all p&&p (xs.getD i d)):=by rw[jV h,List.all_append,au,aC h];simp
theorem HQ{a:Type}(d:a)(p:a->Bool){xs:List a}{i:Nat}(h:i<xs.length)(b:p (xs.getD i d)=false):xs.all p=false:=by rw[au,aC h]at b;exact List.all_eq_false.2 ⟨_,cu h,by simpa using b⟩
def dA(k:Int)(xs:List Int):Bool:=xs.all fun x=>decide (0<=x)&&decide (x<k)
theorem vt{k:Int}{xs:List Int}:dA k xs=true↔∀x∈xs,0<=x∧x<k:=by unfold dA;simp
theorem Cp{xs:List Int}{i:Nat}(h:i<xs.length):xs.getD i 0∈xs:=by rw[au,aC h];exact cu h
theorem TU{k:Int}{xs:List Int}{i:Nat}(h:i<xs.length)(a:xs.getD i 0<0):dA k xs=false:=
 HQ 0 _ h (by show(decide (0<=xs.getD i 0)&&decide (xs.getD i 0<k))=false;rw[decide_eq_false (Int.not_le.2 a)];rfl)
theorem TV{k:Int}{xs:List Int}{i:Nat}(h:i<xs.length)(a:k<=xs.getD i 0):dA k xs=false:=
 HQ 0 _ h (by show(decide (0<=xs.getD i 0)&&decide (xs.getD i 0<k))=false;rw[decide_eq_false (Int.not_lt.2 a),Bool.and_false])
theorem TW{k x:Int}{xs:List Int}{i:Nat}(h:i<xs.length)(a:dA k (xs.take i)=true)(b:xs.getD i 0=x)(d:0<=x)(c:x<k):dA k (xs.take (i+1))=true:=by unfold dA at a⊢;rw[TT 0 _ h,a,b,decide_eq_true d,decide_eq_true c];rfl
theorem xQ{i N:Nat}(h:i<N)(a:N<=9223372036854775807):IntKind.i64.wrap ((i:Int)+1)=((i+1:Nat):Int):=by rw[aO jO jO];rfl
section
variable (lf d n:Nat) (h:H)
theorem adE(x:Int):aa (fun _=>False) n (ah ad gt lf (d+1) 221 #[jI x]) h n fun a h' n'=>a= .bool (decide (0<=x)&&decide (x<=1099511627776))∧h'=h∧n'=n:=by
 rw[aF (fun _=>Rr) rfl];refine aa.aD ?_;unfold GO;by_cases c:0<=x
 ·try simp(disch:=first|omega|assumption) only[Nat.reduceAdd,Nat.reduceLT,RZ,c]
 ·try simp(disch:=first|omega|assumption) only[Nat.reduceAdd,Nat.reduceLT,RZ,c]
theorem adF(x:Int):aa (fun _=>False) n (ah ad gt lf (d+2) 220 #[jI x]) h n fun a h' n'=>a= .bool (!(decide (0<=x)&&decide (x<=1099511627776)))∧h'=h∧n'=n:=by rw[aF (fun _=>Rq) rfl];refine aa.aD ?_;unfold GM;refine bU (adE lf d n h x) (ag _) (fun _ _ h=>h.elim) ?_;try simp(disch:=first|omega|assumption) only[Nat.reduceAdd,Nat.reduceLT,RZ]
theorem adG{b:Type}{rec:FuncId->Array Value->M Value}(a:Value)(k:Value->M b):fm ad rec (.func (.func 220) #[] #[]) [a] k=aj rec 220 [a] k:=by unfold fm;show aN (some _) _=_;rw[rZ];simp only[show kG ad 220=true by kernel_rfl];exact(j3 _ _).symm
variable (bB:3000000<=lf)
include bB
theorem HR(v:Value)(xs:List Int)(m:Row h n 3 .i64 v xs)(C:xs.length<=1000000):
 aa (fun _=>False) n (ah ad gt lf (d+5) 201 #[v]) h n fun e h' n'=>e= .bool (dk 0 1099511627776 xs)∧h'=h∧n'=n:=by
 have t:aa (fun _=>False) n (ah ad gt lf (d+3) 218 #[v,.func (.func 220) #[] #[]]) h n fun e h' n'=>(∃r:Int,e=jI r∧decide (0<=r)= !dk 0 1099511627776 xs)∧h'=h∧n'=n:=by
  rw[aF (fun _=>BB) rfl];refine aa.aD ?_;unfold vd;have k:=m;obtain⟨a,c,rfl⟩:=m.len;try simp(disch:=first|omega|assumption) only[Nat.reduceAdd,Nat.reduceLT,RZ]
  refine dP xs.length (fun l i (_:Unit)=>kY lf (ah ad gt lf (d+2)) l (mQ lf (ah ad gt lf (d+2))) (.slice a xs.length c) (.func (.func 220) #[] #[]) _ (jI (xs.length:Nat)) (jI (i:Nat))) (fun i _ h' n'=>(h'=h∧n'=n)∧dk 0 1099511627776 (xs.take i)=true) ?_ ?_ lf 0 () h n (cL _) jO ⟨⟨rfl,rfl⟩,rfl⟩
  ·rintro l _ h' n' ⟨⟨rfl,rfl⟩,f⟩;rw[kY];try simp(disch:=first|omega|assumption) only[Nat.reduceAdd,Nat.reduceLT,RZ,cb]
   (try unfold mQ);(try dsimp only)
   try simp(disch:=first|omega|assumption) only[Nat.reduceAdd,Nat.reduceLT,RZ]
   rw[fi]at f;exact⟨-1,rfl,by rw[f];rfl⟩
  ·rintro l i _ h' n' g ⟨⟨rfl,rfl⟩,f⟩ next;obtain⟨b,u,cap,o,E,w,z,D,_,_,_,j⟩:=k.some jO;cases w;have A:((i:Nat):Int)<((xs.length:Nat):Int):=jO;have B:=j i g;have q:=xQ g jO;rw[kY];try simp(disch:=first|omega|assumption) only[Nat.reduceAdd,Nat.reduceLT,RZ,A,z,B,adG]
   refine bU (adF lf d n' h' (xs.getD i 0)) (ag _) (fun _ _ h=>h.elim) ?_;cases p:(decide (0<=xs.getD i 0)&&decide (xs.getD i 0<=1099511627776))with
   |true=>
    try simp(disch:=first|omega|assumption) only[Nat.reduceAdd,Nat.reduceLT,RZ,fY,q]
    exact next () _ _ ⟨⟨rfl,rfl⟩,by unfold dk at f⊢;rw[TT 0 _ g,f,p];rfl⟩
   |false=>
    try simp(disch:=first|omega|assumption) only[Nat.reduceAdd,Nat.reduceLT,RZ,iD]
    (try unfold mQ);(try dsimp only)
    try simp(disch:=first|omega|assumption) only[Nat.reduceAdd,Nat.reduceLT,RZ]
    have:dk 0 1099511627776 xs=false:=HQ 0 _ g p;exact⟨(i:Nat),rfl,by rw[this];simp⟩
 have s:aa (fun _=>False) n (ah ad gt lf (d+4) 193 #[v,.func (.func 220) #[] #[]]) h n fun e h' n'=>e= .bool (!dk 0 1099511627776 xs)∧h'=h∧n'=n:=by
  rw[aF (fun _=>Bl) rfl];refine aa.aD ?_;unfold xd;refine aJ aE t (ag _) (fun _ _ h=>h.elim) fun e h' n' _ _ y=> ?_;obtain⟨⟨r,rfl,x⟩,rfl,rfl⟩:=y;try simp(disch:=first|omega|assumption) only[Nat.reduceAdd,Nat.reduceLT,RZ]
  rw[x]
 rw[aF (fun _=>QU) rfl];refine aa.aD ?_;unfold GG;refine bU s (ag _) (fun _ _ h=>h.elim) ?_;rw[wx,Bool.not_not];try simp(disch:=first|omega|assumption) only[Nat.reduceAdd,Nat.reduceLT,RZ]
omit bB in
theorem TX(a b:Int)(f:0<=a+b)(e:a+b<=9223372036854775807):aa (fun _=>False) n (ah ad gt lf (d+1) 202 #[jI a,jI b]) h n fun c h' n'=>c=jI (gF (a+b))∧h'=h∧n'=n:=by
 rw[aF (fun _=>QW) rfl];refine aa.aD ?_;unfold GH;have w:IntKind.i64.wrap (a+b)=a+b:=aO jO jO;try simp(disch:=first|omega|assumption) only[Nat.reduceAdd,Nat.reduceLT,RZ,w]
 all_goals (first|trivial|rfl|exact⟨rfl,rfl,rfl⟩|exact⟨rfl,rfl⟩)
theorem TY(v u:Value)(xs ls:List Int)(O:Row h n 3 .i64 v xs)(F:Row h n 3 .i64 u ls)(hl:xs.length<=1000000)(z:ls.length<=1000000):
 aa (fun _=>False) n (ah ad gt lf (d+6) 169 #[v,u]) h n fun W h' n'=>W=(if dk 0 1099511627776 ls=true∧dA ls.length xs=true then .tuple #[jI (jM xs ls),jI 0]else .tuple #[jI 0,jI 1])∧h'=h∧n'=n:=by
 obtain⟨r,f⟩:∃r:Value,(if dk 0 1099511627776 ls=true∧dA ls.length xs=true then Value.tuple #[jI (jM xs ls),jI 0]else .tuple #[jI 0,jI 1])=r:=⟨_,rfl⟩;rw[f];rw[aF (fun _=>Qd) rfl];refine aa.aD ?_;unfold Bd;refine bU (HR lf d n h bB u ls F z) (ag _) (fun _ _ h=>h.elim) ?_;cases w:dk 0 1099511627776 ls with
 |false=>
  rw[if_neg (by rw[w];simp)]at f;try simp(disch:=first|omega|assumption) only[Nat.reduceAdd,Nat.reduceLT,RZ,iD]
  rw[<-f]
 |true=>
  have e:=iu.1 w;have D:=O;have E:=F;obtain⟨a,c,rfl⟩:=O.len;obtain⟨a2,T,rfl⟩:=F.len;try simp(disch:=first|omega|assumption) only[Nat.reduceAdd,Nat.reduceLT,RZ,fY]
  refine dP xs.length (fun I i (a:Int)=>sQ lf (ah ad gt lf (d+5)) I (uY lf (ah ad gt lf (d+5))) _ _ (jI 0) (jI 0) (jI a) (.bool false) _ (jI (xs.length:Nat)) (jI (i:Nat))) (fun i a h' n'=>(h'=h∧n'=n)∧a=jM (xs.take i) ls∧dA ls.length (xs.take i)=true) ?_ ?_ lf 0 0 h n (cL _) jO ⟨⟨rfl,rfl⟩,rfl,rfl⟩
  ·rintro I q h' n' ⟨⟨rfl,rfl⟩,rfl,p⟩;rw[sQ];try simp(disch:=first|omega|assumption) only[Nat.reduceAdd,Nat.reduceLT,RZ,cb]
   (try unfold uY);(try dsimp only)
   try simp(disch:=first|omega|assumption) only[Nat.reduceAdd,Nat.reduceLT,RZ]
   rw[fi]at p⊢;rw[<-f,if_pos ⟨w,p⟩]
  ·rintro I i q h' n' g ⟨⟨rfl,rfl⟩,rfl,p⟩ next;obtain⟨b,X,cap,o,cs,Z,B,m,_,_,_,C⟩:=D.some jO;cases Z;have J:((i:Nat):Int)<((xs.length:Nat):Int):=jO;have s:=C i g;have U:=xQ g jO;rw[sQ];by_cases G:xs.getD i 0<0
   ·have m:dA ls.length xs=false:=TU g G;try simp(disch:=first|omega|assumption) only[Nat.reduceAdd,Nat.reduceLT,RZ,J,B,s,G]
    (try unfold uY);(try dsimp only)
    try simp(disch:=first|omega|assumption) only[Nat.reduceAdd,Nat.reduceLT,RZ]
    rw[<-f,if_neg (by rw[m];simp)]
   ·by_cases P:((ls.length:Nat):Int)<=xs.getD i 0
    ·have m:dA ls.length xs=false:=TV g P;try simp(disch:=first|omega|assumption) only[Nat.reduceAdd,Nat.reduceLT,RZ,J,B,s,G,P]
     (try unfold uY);(try dsimp only)
     try simp(disch:=first|omega|assumption) only[Nat.reduceAdd,Nat.reduceLT,RZ]
     rw[<-f,if_neg (by rw[m];simp)]
    ·obtain⟨b2,K,R,o2,u1,t,A,u0,_,_,_,j⟩:=E.some jO;cases t;obtain⟨x,N⟩:∃x:Nat,xs.getD i 0=(x:Int):=⟨(xs.getD i 0).toNat,jO⟩;have T:=j x jO;have k:=e (ls.getD x 0) (Cp jO);have Q:(x:Int)<((ls.length:Nat):Int):=jO;have e4:¬((ls.length:Nat):Int)<=(x:Int):=jO;have e5:¬((x:Int)<0):=jO;have k1:=HI (l:=xs.take i) fun y k=>(e y k).1;have k2:=HJ (xs.take i) ls;have L:=adu (l:=xs) (fun y k=>(e y k).1) g;rw[N]at s L;have Y:Tb.look ls (x:Int)=ls.getD x 0:=by unfold Tb.look;rw[fg]
     try simp(disch:=first|omega|assumption) only[Nat.reduceAdd,Nat.reduceLT,RZ,J,B,s,e4,e5,Q,A,T]
     refine bU (TX lf (d+4) n' h' _ _ jO jO) (ag _) (fun _ _ h=>h.elim) ?_;try simp(disch:=first|omega|assumption) only[Nat.reduceAdd,Nat.reduceLT,RZ,U]
     exact next _ _ _ ⟨⟨rfl,rfl⟩,by rw[<-Y,L],TW g p N jO Q⟩
end
theorem HS(k:IntKind)(l:List Int)(i:Nat)(x:Int):(aR k l).set i (.int k x)=aR k (l.set i x):=by unfold aR;rw[List.map_set]
theorem Cq(k:IntKind)(n:Nat)(x:Int):bI n (Value.int k x)=aR k (bI n x):=by unfold aR;rw[Dg]
theorem Row.Cr{h:H}{n b:Nat}{e:TypeId}{o:Bool}{xs:List Int}{m:Nat}(c:h.get b=some ⟨e,o,aR .i64 xs⟩)(d:b<n)(a:xs.length=m):Row h n e .i64 (.slice (some ⟨b,0,none⟩) m m) xs:=by subst a;exact .inr ⟨b,0,xs.length,o,_,rfl,c,d,by rw[cO];omega,by rw[dj,fZ (by rw[cO];omega)],ag _⟩
theorem adH {i:Type} {W:Nat->Prop} {n0:Nat} {h:H} {n:Nat} {Q:i->H->Nat->Prop} {v:Value} {xs:List Int} (u:Row h n 3 .i64 v xs) {l hh:Nat} (w:l<hh) (h2:hh<=xs.length) {q f:IntKind} (k:Value->M i)
 (y:∀j,Row h n 3 .i64 j ((xs.drop l).take (hh-l))->aa W n0 (k j) h n Q):aa W n0 (j5 3 1 v (some (.int q (l:Int))) (some (.int f (hh:Int))) k) h n Q:=by
 rcases u with ⟨a,c,rfl,_,rfl⟩|⟨b,e,cap,o,g,rfl,m,p,s,r,t⟩
 ·simp at h2;omega
 ·refine uP trivial m rfl p e xs.length cap _ _ (pe _ _ _) (pe _ _ _) jO h2 t _ trivial ?_;rw[if_neg jO];have d:((xs.drop l).take (hh-l)).length=hh-l:=by simp;omega
  refine y _ (.inr ⟨b,e+l,cap-l,o,g,by rw[d],m,p,by rw[d];omega, ?_,by rw[d];omega⟩);rw[d]
  have:(g.drop (e+l)).take (hh-l)=(((g.drop e).take xs.length).drop l).take (hh-l):=by rw[List.drop_take,List.take_take,List.drop_drop,Nat.min_eq_left jO]
  rw[this,r];unfold aR;rw[List.map_take,List.map_drop]
section
variable (lf d n:Nat) (h:H) (bB:3000000<=lf)
theorem adI(v:Value)(z:Int)(e:z<3∨258<z):aa (fun _=>False) n (ah ad gt lf (d+1) 188 #[v,jI z]) h n fun a h' n'=>a= .tuple #[.slice none 0 0,jI 1]∧h'=h∧n'=n:=by
 rw[aF (fun _=>Gv) rfl];refine aa.aD ?_;unfold wW;by_cases c:z<3
 ·try simp(disch:=first|omega|assumption) only[Nat.reduceAdd,Nat.reduceLT,RZ,c]
 ·have b:258<z:=jO;try simp(disch:=first|omega|assumption) only[Nat.reduceAdd,Nat.reduceLT,RZ,c,b]
include bB
theorem HU(v:Value)(xs:List Int)(B:Row h n 3 .i64 v xs)(R:xs.length<=1000000)(s:Nat)(T:3<=s)(C:s<=258):
 aa (fun _=>False) n (ah ad gt lf (d+1) 188 #[v,jI (s:Int)]) h n fun A h' n'=>(dA s xs=true∧∃u,A= .tuple #[u,jI 0]∧Row h' n' 3 .i64 u (dx xs s))∨(dA s xs=false∧A= .tuple #[.slice none 0 0,jI 1]):=by
 rw[aF (fun _=>Gv) rfl];refine aa.aD ?_;unfold wW;have t:=B;obtain⟨a,c,rfl⟩:=B.len;have L:¬((s:Int)<3):=jO;have K:¬((258:Int)<(s:Int)):=jO;try simp(disch:=first|omega|assumption) only[Nat.reduceAdd,Nat.reduceLT,RZ,L,K]
 refine Ev.run_make trivial s s _ (ag _) jO ?_;try simp(disch:=first|omega|assumption) only[Nat.reduceAdd,Nat.reduceLT,RZ]
 refine dP xs.length (fun y i (_:Unit)=>sR lf (ah ad gt lf d) y (uZ lf (ah ad gt lf d)) _ _ (.slice none 0 0) (jI 0) (.slice (some ⟨n,0,none⟩) s s) (.bool false) _ (jI (xs.length:Nat)) (jI (i:Nat)))
  (fun i _ h' n'=>n'=n+1∧(∀b,b<n->h'.get b=h.get b)∧h'.get n=some ⟨3,true,aR .i64 (dx (xs.take i) s)⟩∧dA s (xs.take i)=true) ?_ ?_ lf 0 () _ _ (cL _) jO ⟨rfl,fun b e=>ak _ _ jO,by rw[get_eq,ru,TL,Cq],rfl⟩
 ·rintro y _ h' n' ⟨rfl,m,g,j⟩;rw[sR];try simp(disch:=first|omega|assumption) only[Nat.reduceAdd,Nat.reduceLT,RZ,cb]
  (try unfold uZ);(try dsimp only)
  try simp(disch:=first|omega|assumption) only[Nat.reduceAdd,Nat.reduceLT,RZ]
  rw[fi]at j g;exact .inl ⟨j,_,rfl,Row.Cr g jO (jk _ _)⟩
 ·rintro y i _ h' n' f ⟨rfl,m,p,j⟩ next;have r:=t.ar (cI n) m;obtain⟨b,F,cap,o,U,G,g,e,_,_,_,q⟩:=r.some jO;cases G;have z:((i:Nat):Int)<((xs.length:Nat):Int):=jO;have k:=q i f;have Q:=xQ f jO;rw[sR];by_cases w:xs.getD i 0<0
  ·have e:dA s xs=false:=TU f w;try simp(disch:=first|omega|assumption) only[Nat.reduceAdd,Nat.reduceLT,RZ,z,g,k,w]
   (try unfold uZ);(try dsimp only)
   try simp(disch:=first|omega|assumption) only[Nat.reduceAdd,Nat.reduceLT,RZ]
   first|exact .inr e|exact .inr ⟨e,rfl⟩
  ·by_cases D:(s:Int)<=xs.getD i 0
   ·have e:dA s xs=false:=TV f D;try simp(disch:=first|omega|assumption) only[Nat.reduceAdd,Nat.reduceLT,RZ,z,g,k,w,D]
    (try unfold uZ);(try dsimp only)
    try simp(disch:=first|omega|assumption) only[Nat.reduceAdd,Nat.reduceLT,RZ]
    first|exact .inr e|exact .inr ⟨e,rfl⟩
   ·obtain⟨x,l⟩:∃x:Nat,xs.getD i 0=(x:Int):=⟨(xs.getD i 0).toNat,jO⟩;have J:¬(s:Int)<=(x:Int):=jO;have I:¬((x:Int)<0):=jO;have E:(x:Int)<(s:Int):=jO
    have P:(aR .i64 (dx (xs.take i) s))[x]? =some (jI (jj (xs.take i) x:Int)):=by rw[LC (by rw[jk];omega),HK jO]
    have O:=adw f l (show x<s by omega);have X:=Co (xs.take i) x;have W:(xs.take i).length<=1000000:=by rw[ed];omega
    have N:IntKind.i64.wrap ((jj (xs.take i) x:Int)+1)=(jj (xs.take i) x:Int)+1:=aO jO jO;rw[l]at k;try simp(disch:=first|omega|assumption) only[Nat.reduceAdd,Nat.reduceLT,RZ,z,g,k,J,I,E,p,P,N,HS,O,cO,jk]
    refine⟨jO,.inl jO, ?_⟩;rw[show((i:Nat):Int)+1=((i+1:Nat):Int) by omega];refine next () _ _ ⟨rfl,fun b e=>by rw[ak _ _ jO];exact m b e,get_eq _ _ _,TW f j l jO E⟩
omit bB in
theorem Cs(x:Nat)(j:x<=9223372036854775807):aa (fun _=>False) n (ah ad gt lf (d+1) 167 #[jI (x:Int)]) h n fun b h' n'=>b=jI (cY x:Int)∧h'=h∧n'=n:=by
 rw[aF (fun _=>P') rfl];refine aa.aD ?_;unfold Gi;by_cases c:x=0
 ·subst c;have a:((0:Nat):Int)<=0:=jO;try simp(disch:=first|omega|assumption) only[Nat.reduceAdd,Nat.reduceLT,RZ,a]
  all_goals (first|trivial|rfl|exact⟨rfl,rfl,rfl⟩|exact⟨rfl,rfl⟩)
 ·have a:¬((x:Int)<=0):=jO;have i:IntKind.i64.wrap ((x:Int)-1)=((x-1:Nat):Int):=by rw[aO jO jO];omega
  have g:((x-1:Nat):Int).tdiv 50=(((x-1)/50:Nat):Int):=rfl;have f:IntKind.i64.wrap (((x-1)/50:Nat):Int)=(((x-1)/50:Nat):Int):=aO jO jO;have e:IntKind.i64.wrap ((((x-1)/50:Nat):Int)+1)=(cY x:Int):=by rw[aO jO jO];unfold cY;omega
  try simp(disch:=first|omega|assumption) only[Nat.reduceAdd,Nat.reduceLT,RZ,a,i,g,f,e]
omit bB in
theorem TZ(v:Value)(xs:List Int)(m:Row h n 3 .i64 v xs)(D:xs.length<=1000000)(i:Nat)(l:i<cY xs.length):
 aa (fun _=>False) n (ah ad gt lf (d+3) 168 #[v,jI (i:Int)]) h n fun b h' n'=>∃u,b= .tuple #[u,jI 0]∧Row h' n' 3 .i64 u (eO xs i):=by
 rw[aF (fun _=>Qa) rfl];refine aa.aD ?_;unfold Gj;have g:=m;obtain⟨a,c,rfl⟩:=m.len;have C:¬((i:Int)<0):=jO;try simp(disch:=first|omega|assumption) only[Nat.reduceAdd,Nat.reduceLT,RZ,C]
 refine bU (Cs lf (d+1) n h xs.length jO) (ag _) (fun _ _ h=>h.elim) ?_;have B:¬((cY xs.length:Int)<=(i:Int)):=jO;try simp(disch:=first|omega|assumption) only[Nat.reduceAdd,Nat.reduceLT,RZ,B]
 have s:=TO l;unfold cY at l
 have p:aa (fun _=>False) n (ah ad gt lf (d+2) 200 #[.slice a xs.length c,jI (i:Int),jI 50]) h n fun b h' n'=>Row h' n' 3 .i64 b (eO xs i):=by
  rw[aF (fun _=>QT) rfl];refine aa.aD ?_;unfold GF;have A:IntKind.i64.wrap ((i:Int)*50)=((50*i:Nat):Int):=by rw[aO jO jO];omega
  have z:IntKind.i64.wrap ((i:Int)+1)=((i+1:Nat):Int):=xQ (N:=1000000) jO jO;have y:IntKind.i64.wrap (((i+1:Nat):Int)*50)=((50*i+50:Nat):Int):=by rw[aO jO jO];omega
  have x:(if((50*i+50:Nat):Int)<((xs.length:Nat):Int)then((50*i+50:Nat):Int)else((xs.length:Nat):Int))=((min xs.length (50*i+50):Nat):Int):=by split<;>omega
  try simp(disch:=first|omega|assumption) only[Nat.reduceAdd,Nat.reduceLT,RZ,A,z,y,x]
  refine adH g jO jO _ fun b k=> ?_
  have t:(xs.drop (50*i)).take (min xs.length (50*i+50)-50*i)=eO xs i:=by
   unfold eO;by_cases q:xs.length<=50*i+50
   ·rw[fZ (by simp;omega),fZ (by simp;omega)]
   ·congr 1;omega
  rw[t]at k;refine aJ aE (vl lf d n h b _ k s (by rw[xO];omega)) (ag _) (fun _ _ h=>h.elim) fun o w r f j e=> ?_;try simp(disch:=first|omega|assumption) only[Nat.reduceAdd,Nat.reduceLT,RZ]
  exact e.2.1
 refine aJ aE p (ag _) (fun _ _ h=>h.elim) fun o w r f j e=> ?_;try simp(disch:=first|omega|assumption) only[Nat.reduceAdd,Nat.reduceLT,RZ]
 exact⟨_,rfl,e⟩
theorem adJ(v u:Value)(xs ys:List Int)(F:Row h n 3 .i64 v xs)(G:Row h n 3 .i64 u ys)(R:xs.length<=1000000)(r:xs.length=ys.length)(E:dk 0 1099511627776 xs=true)(D:dk 0 1099511627776 ys=true):
 aa (fun _=>False) n (ah ad gt lf (d+6) 216 #[v,u]) h n fun L h' n'=>∃z,L= .tuple #[z,jI 0]∧Row h' n' 3 .i64 z (lx xs ys)∧∀b,aq z b->n<=b:=by
 rw[aF (fun _=>Re) rfl];refine aa.aD ?_;unfold Bx;have k:=F;have l:=G;obtain⟨a,c,rfl⟩:=F.len;obtain⟨a2,K,rfl⟩:=G.len;have W:(((xs.length:Nat):Int) !=((ys.length:Nat):Int))=false:=by rw[r];simp
 try simp(disch:=first|omega|assumption) only[Nat.reduceAdd,Nat.reduceLT,RZ,W]
 refine bU (HR lf d n h bB _ xs k R) (ag _) (fun _ _ h=>h.elim) ?_;rw[E];try simp(disch:=first|omega|assumption) only[Nat.reduceAdd,Nat.reduceLT,RZ,fY]
 refine bU (HR lf d n h bB _ ys l jO) (ag _) (fun _ _ h=>h.elim) ?_;rw[D];try simp(disch:=first|omega|assumption) only[Nat.reduceAdd,Nat.reduceLT,RZ,fY]
 refine Ev.run_make trivial xs.length xs.length _ (ag _) jO ?_;try simp(disch:=first|omega|assumption) only[Nat.reduceAdd,Nat.reduceLT,RZ]
 have e:(lx xs ys).length=xs.length:=by unfold lx;simp
 have B:∀i,i<xs.length->(lx xs ys).getD i 0=gF (xs.getD i 0+ys.getD i 0):=fun i f=>by unfold lx;rw[au,fw,ua f];rfl
 have s:=iu.1 E;have q:=iu.1 D
 refine dP xs.length (fun A i (_:Unit)=>s0 lf (ah ad gt lf (d+5)) A (Bw lf (ah ad gt lf (d+5))) _ _ (.slice none 0 0) (jI 0) (.slice (some ⟨n,0,none⟩) xs.length xs.length) (.bool false) (jI (xs.length:Nat)) (jI (i:Nat)))
  (fun i _ h' n'=>n'=n+1∧(∀b,b<n->h'.get b=h.get b)∧h'.get n=some ⟨3,true,aR .i64 (part (lx xs ys) i)⟩) ?_ ?_ lf 0 () _ _ (cL _) jO ⟨rfl,fun b g=>ak _ _ jO,by rw[get_eq,Hs,e,Cq]⟩
 ·rintro A _ h' n' ⟨rfl,m,p⟩;rw[s0];try simp(disch:=first|omega|assumption) only[Nat.reduceAdd,Nat.reduceLT,RZ,cb]
  (try unfold Bw);(try dsimp only)
  try simp(disch:=first|omega|assumption) only[Nat.reduceAdd,Nat.reduceLT,RZ]
  rw[<-e,Hr]at p;exact⟨_,rfl,Row.Cr p jO e,fun b g=>by rw[g.inj];exact ag n⟩
 ·rintro A i _ h' n' f ⟨rfl,m,w⟩ next;obtain⟨b,P,cap,o,cs,Q,p,g,_,_,_,y⟩:=(k.ar (cI n) m).some jO;cases Q;obtain⟨Z,C,J,o2,X,t,x,T,_,_,_,j⟩:=(l.ar (cI n) m).some jO;cases t;have I:((i:Nat):Int)<((xs.length:Nat):Int):=jO;have U:((i:Nat):Int)<((ys.length:Nat):Int):=jO;have Y:=y i f;have K:=j i jO;have w1:=xQ f jO;have b1:=s _ (Cp f);have Z:=q _ (Cp (show i<ys.length by omega));have O:(part (lx xs ys) i).length=xs.length:=by rw[Hp _ jO,e]
  have N:(part (lx xs ys) i).set i (gF (xs.getD i 0+ys.getD i 0))=part (lx xs ys) (i+1):=by rw[<-B i f,Hq jO]
  rw[s0];try simp(disch:=first|omega|assumption) only[Nat.reduceAdd,Nat.reduceLT,RZ,I,U,p,Y,x,K]
  refine bU (TX lf (d+4) _ h' _ _ jO jO) jO (fun _ _ h=>h.elim) ?_;try simp(disch:=first|omega|assumption) only[Nat.reduceAdd,Nat.reduceLT,RZ,I,w,HS,cO,O,N]
  refine⟨jO,.inl jO, ?_⟩;rw[show((i:Nat):Int)+1=((i+1:Nat):Int) by omega];exact next () _ _ ⟨rfl,fun b g=>by rw[ak _ _ jO];exact m b g,get_eq _ _ _⟩
end
section
variable (lf d n:Nat) (h:H) (bB:3000000<=lf)
include bB
end
end Go.Proofs.YtcehhgppfahbkaaGreatDoor
namespace Go.Proofs.YtcehhgppfahbkaaGreatDoor.Ev
open Go Go.RowKit
theorem adK{P:Program}{kn:List FuncId}(i:qi P=true)(c:oK P kn=true)(a:P.follows .mixedOrders=true)(j:rI P kn)(hd:lW P=true){gt:Nat->Hint}{lf d:Nat}{f:FuncId}{w:World}{m:Mp}{h:H}(x:Laid P w m h P.globals.size)(b:yJ (rY kn P gt lf d f #[] h P.globals.size)=true):
 Calls P f #[] w fun e w'=>e= .returned (.bool true)∧Below w.heap.size w w':=by
 cases g:rY kn P gt lf d f #[] h P.globals.size with
 |none=>rw[g]at b;cases b
 |some o=>obtain⟨v,p,n,L⟩:=o;rw[g]at b;obtain⟨l,k⟩:=Kb hd d f #[] h _ v p n L g;refine YG i c a j x (fuel:=l) ?_;have e:cq P kn l f #[] h P.globals.size=some ⟨v,p,n,L⟩:=k l (ag _);rw[e];exact b
noncomputable def Ct:Nat->Type
 |0=>M Value
 |n+1=>Value->Ct n
noncomputable def az:(n:Nat)->Ct n->(List Value->M Value)->List Value->M Value
 |0,F,_,[]=>F
 |n+1,F,K,v::s=>az n (F v) (fun s=>K (v::s)) s
 |0,_,K,x::s=>K (x::s)
 |_+1,_,K,[]=>K []
noncomputable def T7:(n:Nat)->Ct n->(List Value->M Value)->Prop
 |0,F,K=>F=K []
 |n+1,F,K=>∀v,T7 n (F v) (fun s=>K (v::s))
theorem aB:∀(n:Nat) (F:Ct n) (K:List Value->M Value),T7 n F K->az n F K=K:=by
 intro n
 induction n with
 |zero=>
  intro F K h;funext s;cases s with
  |nil=>exact h
  |cons x s=>rfl
 |succ n a=>
  intro F K h;funext s;cases s with
  |nil=>rfl
  |cons v s=>show az n (F v) (fun s=>K (v::s)) s=_;rw[a (F v) (fun s=>K (v::s)) (h v)]
noncomputable def Cu {a:Type} (f:Nat):List (Nat×a)->Option a
 |[]=>none
 |p::r=>match bq p.1 f with
  |true=>some p.2
  |false=>Cu f r
abbrev xR:=List (Nat×(Nat->(FuncId->Array Value->M Value)->List Value->M Value))
noncomputable def Cv (C:Nat->FuncId->Array Value->M Value):xR->Prop
 |[]=>True
 |p::r=>(∀d,p.2 d (C d)=fun l=>C (d+1) p.1 l.toArray)∧Cv C r
theorem T8{C:Nat->FuncId->Array Value->M Value}{f:Nat}{E:Nat->(FuncId->Array Value->M Value)->List Value->M Value}:∀{T:xR},Cv C T->Cu f T=some E->∀d,E d (C d)=fun l=>C (d+1) f l.toArray
 |[],_,h=>by cases h
 |p::r,ok,h=>by
  unfold Cu at h;cases a:bq p.1 f with
  |true=>rw[a]at h;cases h;rw[<-Nat.eq_of_beq_eq_true a];exact ok.1
  |false=>rw[a]at h;exact T8 ok.2 h
noncomputable def Cw (C:Nat->FuncId->Array Value->M Value) (T:xR):Nat->FuncId->Array Value->M Value
 |0,f,a=>C 0 f a
 |d+1,f,a=>match Cu f T with
  |some E=>E d (Cw C T d) a.toList
  |none=>C (d+1) f a
theorem T9{C:Nat->FuncId->Array Value->M Value}{T:xR}(ok:Cv C T):∀d,Cw C T d=C d
 |0=>rfl
 |d+1=>by
  have b:=T9 ok d;funext f a;unfold Cw;rw[b];split
  ·rename_i E c;rw[T8 ok c d]
  ·rfl
end Go.Proofs.YtcehhgppfahbkaaGreatDoor.Ev
namespace Go.Proofs.YtcehhgppfahbkaaGreatDoor
open Go Ev
def rb:List FuncId:=[229,158,211]
noncomputable section
def eC(lf:Nat):Nat->FuncId->Array Value->M Value:=rY rb ad gt lf
theorem aA{lf d:Nat}{f:FuncId}{a:Array Value}{X:M Value}(s:aw ad gt lf (eC lf d) f a=X)(h:rb.contains f=false:=by rfl):X=eC lf (d+1) f a:=by
 show X=(match rb.contains f with
  |true=>_
  |false=>aw ad gt lf (eC lf d) f a:M Value)
 rw[h];exact s.symm
def T'(lf:Nat):xR:=[(10,fun d r=>az 0 (inside (Fw lf r)) fun l=>eC lf (d+1) 10 l.toArray),
 (15,fun d r=>az 2 (fun a b=>inside (Nu lf r a b)) fun l=>eC lf (d+1) 15 l.toArray),
 (29,fun d r=>az 1 (fun a=>inside (FC lf r a)) fun l=>eC lf (d+1) 29 l.toArray),
 (11,fun d r=>az 3 (fun a b c=>inside (Fx lf r a b c)) fun l=>eC lf (d+1) 11 l.toArray),
 (16,fun d r=>az 2 (fun a b=>inside (Nv lf r a b)) fun l=>eC lf (d+1) 16 l.toArray),
 (18,fun d r=>az 1 (fun a=>inside (Am lf r a)) fun l=>eC lf (d+1) 18 l.toArray),
 (17,fun d r=>az 2 (fun a b=>inside (Fy lf r a b)) fun l=>eC lf (d+1) 17 l.toArray),
 (19,fun d r=>az 3 (fun a b c=>inside (Fz lf r a b c)) fun l=>eC lf (d+1) 19 l.toArray),
 (21,fun d r=>az 1 (fun a=>inside (NG lf r a)) fun l=>eC lf (d+1) 21 l.toArray),
 (20,fun d r=>az 1 (fun a=>inside (FA lf r a)) fun l=>eC lf (d+1) 20 l.toArray),
 (55,fun d r=>az 0 (inside (FE lf r)) fun l=>eC lf (d+1) 55 l.toArray),
 (56,fun d r=>az 3 (fun a b c=>inside (Ap lf r a b c)) fun l=>eC lf (d+1) 56 l.toArray),
 (52,fun d r=>az 1 (fun a=>inside (NN lf r a)) fun l=>eC lf (d+1) 52 l.toArray),
 (53,fun d r=>az 2 (fun a b=>inside (NO lf r a b)) fun l=>eC lf (d+1) 53 l.toArray),
 (54,fun d r=>az 1 (fun a=>inside (NP lf r a)) fun l=>eC lf (d+1) 54 l.toArray),
 (57,fun d r=>az 1 (fun a=>inside (Ar lf r a)) fun l=>eC lf (d+1) 57 l.toArray),
 (24,fun d r=>az 4 (fun a b c d=>inside (FB lf r a b c d)) fun l=>eC lf (d+1) 24 l.toArray),
 (59,fun d r=>az 2 (fun a b=>inside (FG lf r a b)) fun l=>eC lf (d+1) 59 l.toArray),
 (60,fun d r=>az 1 (fun a=>inside (FH lf r a)) fun l=>eC lf (d+1) 60 l.toArray),
 (58,fun d r=>az 1 (fun a=>inside (FF lf r a)) fun l=>eC lf (d+1) 58 l.toArray),
 (89,fun d r=>az 2 (fun a b=>inside (FK lf r a b)) fun l=>eC lf (d+1) 89 l.toArray),
 (90,fun d r=>az 2 (fun a b=>inside (FL lf r a b)) fun l=>eC lf (d+1) 90 l.toArray),
 (82,fun d r=>az 0 (inside (N8 lf r)) fun l=>eC lf (d+1) 82 l.toArray),
 (83,fun d r=>az 0 (inside (N9 lf r)) fun l=>eC lf (d+1) 83 l.toArray),
 (84,fun d r=>az 1 (fun a=>inside (N' lf r a)) fun l=>eC lf (d+1) 84 l.toArray),
 (85,fun d r=>az 2 (fun a b=>inside (Oa lf r a b)) fun l=>eC lf (d+1) 85 l.toArray),
 (86,fun d r=>az 3 (fun a b c=>inside (Ob lf r a b c)) fun l=>eC lf (d+1) 86 l.toArray),
 (87,fun d r=>az 1 (fun a=>inside (Oc lf r a)) fun l=>eC lf (d+1) 87 l.toArray),
 (88,fun d r=>az 1 (fun a=>inside (Od lf r a)) fun l=>eC lf (d+1) 88 l.toArray),
 (91,fun d r=>az 1 (fun a=>inside (FM lf r a)) fun l=>eC lf (d+1) 91 l.toArray),
 (92,fun d r=>az 1 (fun a=>inside (FN lf r a)) fun l=>eC lf (d+1) 92 l.toArray),
 (93,fun d r=>az 2 (fun a b=>inside (Au lf r a b)) fun l=>eC lf (d+1) 93 l.toArray),
 (94,fun d r=>az 1 (fun a=>inside (FO lf r a)) fun l=>eC lf (d+1) 94 l.toArray),
 (63,fun d r=>az 2 (fun a b=>inside (FI lf r a b)) fun l=>eC lf (d+1) 63 l.toArray),
 (64,fun d r=>az 4 (fun a b c d=>inside (FJ lf r a b c d)) fun l=>eC lf (d+1) 64 l.toArray),
 (115,fun d r=>az 0 (inside (FW lf r)) fun l=>eC lf (d+1) 115 l.toArray),
 (116,fun d r=>az 1 (fun a=>inside (OU lf r a)) fun l=>eC lf (d+1) 116 l.toArray),
 (117,fun d r=>az 2 (fun a b=>inside (FX lf r a b)) fun l=>eC lf (d+1) 117 l.toArray),
 (118,fun d r=>az 1 (fun a=>inside (OY lf r a)) fun l=>eC lf (d+1) 118 l.toArray),
 (119,fun d r=>az 1 (fun a=>inside (OZ lf r a)) fun l=>eC lf (d+1) 119 l.toArray),
 (120,fun d r=>az 1 (fun a=>inside (AO lf r a)) fun l=>eC lf (d+1) 120 l.toArray),
 (121,fun d r=>az 2 (fun a b=>inside (AP lf r a b)) fun l=>eC lf (d+1) 121 l.toArray),
 (122,fun d r=>az 1 (fun a=>inside (FY lf r a)) fun l=>eC lf (d+1) 122 l.toArray),
 (123,fun d r=>az 1 (fun a=>inside (FZ lf r a)) fun l=>eC lf (d+1) 123 l.toArray),
 (124,fun d r=>az 1 (fun a=>inside (F0 lf r a)) fun l=>eC lf (d+1) 124 l.toArray),
 (95,fun d r=>az 1 (fun a=>inside (Aw lf r a)) fun l=>eC lf (d+1) 95 l.toArray),
 (96,fun d r=>az 2 (fun a b=>inside (Ay lf r a b)) fun l=>eC lf (d+1) 96 l.toArray),
 (97,fun d r=>az 2 (fun a b=>inside (AA lf r a b)) fun l=>eC lf (d+1) 97 l.toArray),
 (98,fun d r=>az 2 (fun a b=>inside (AD lf r a b)) fun l=>eC lf (d+1) 98 l.toArray),
 (99,fun d r=>az 2 (fun a b=>inside (AE lf r a b)) fun l=>eC lf (d+1) 99 l.toArray),
 (100,fun d r=>az 3 (fun a b c=>inside (AH lf r a b c)) fun l=>eC lf (d+1) 100 l.toArray),
 (153,fun d r=>az 1 (fun a=>inside (PL lf r a)) fun l=>eC lf (d+1) 153 l.toArray),
 (154,fun d r=>az 2 (fun a b=>inside (PM lf r a b)) fun l=>eC lf (d+1) 154 l.toArray),
 (155,fun d r=>az 1 (fun a=>inside (F8 lf r a)) fun l=>eC lf (d+1) 155 l.toArray),
 (156,fun d r=>az 1 (fun a=>inside (F9 lf r a)) fun l=>eC lf (d+1) 156 l.toArray),
 (157,fun d r=>az 2 (fun a b=>inside (F' lf r a b)) fun l=>eC lf (d+1) 157 l.toArray),
 (125,fun d r=>az 1 (fun a=>inside (AQ lf r a)) fun l=>eC lf (d+1) 125 l.toArray),
 (126,fun d r=>az 1 (fun a=>inside (F1 lf r a)) fun l=>eC lf (d+1) 126 l.toArray),
 (127,fun d r=>az 2 (fun a b=>inside (F2 lf r a b)) fun l=>eC lf (d+1) 127 l.toArray),
 (128,fun d r=>az 1 (fun a=>inside (F3 lf r a)) fun l=>eC lf (d+1) 128 l.toArray),
 (129,fun d r=>az 1 (fun a=>inside (AU lf r a)) fun l=>eC lf (d+1) 129 l.toArray),
 (130,fun d r=>az 2 (fun a b=>inside (F4 lf r a b)) fun l=>eC lf (d+1) 130 l.toArray),
 (131,fun d r=>az 2 (fun a b=>inside (AW lf r a b)) fun l=>eC lf (d+1) 131 l.toArray),
 (132,fun d r=>az 1 (fun a=>inside (F5 lf r a)) fun l=>eC lf (d+1) 132 l.toArray),
 (133,fun d r=>az 2 (fun a b=>inside (AX lf r a b)) fun l=>eC lf (d+1) 133 l.toArray),
 (134,fun d r=>az 1 (fun a=>inside (AZ lf r a)) fun l=>eC lf (d+1) 134 l.toArray),
 (135,fun d r=>az 1 (fun a=>inside (A1 lf r a)) fun l=>eC lf (d+1) 135 l.toArray),
 (136,fun d r=>az 3 (fun a b c=>inside (A3 lf r a b c)) fun l=>eC lf (d+1) 136 l.toArray),
 (137,fun d r=>az 2 (fun a b=>inside (F6 lf r a b)) fun l=>eC lf (d+1) 137 l.toArray),
 (138,fun d r=>az 1 (fun a=>inside (A5 lf r a)) fun l=>eC lf (d+1) 138 l.toArray),
 (139,fun d r=>az 3 (fun a b c=>inside (F7 lf r a b c)) fun l=>eC lf (d+1) 139 l.toArray),
 (180,fun d r=>az 1 (fun a=>inside (Qh lf r a)) fun l=>eC lf (d+1) 180 l.toArray),
 (181,fun d r=>az 3 (fun a b c=>inside (Qi lf r a b c)) fun l=>eC lf (d+1) 181 l.toArray),
 (182,fun d r=>az 1 (fun a=>inside (Gp lf r a)) fun l=>eC lf (d+1) 182 l.toArray),
 (183,fun d r=>az 1 (fun a=>inside (Gq lf r a)) fun l=>eC lf (d+1) 183 l.toArray),
 (184,fun d r=>az 1 (fun a=>inside (Gr lf r a)) fun l=>eC lf (d+1) 184 l.toArray),
 (185,fun d r=>az 1 (fun a=>inside (Gs lf r a)) fun l=>eC lf (d+1) 185 l.toArray),
 (186,fun d r=>az 1 (fun a=>inside (Gu lf r a)) fun l=>eC lf (d+1) 186 l.toArray),
 (159,fun d r=>az 2 (fun a b=>inside (Ga lf r a b)) fun l=>eC lf (d+1) 159 l.toArray),
 (160,fun d r=>az 2 (fun a b=>inside (A6 lf r a b)) fun l=>eC lf (d+1) 160 l.toArray),
 (161,fun d r=>az 2 (fun a b=>inside (wV lf r a b)) fun l=>eC lf (d+1) 161 l.toArray),
 (162,fun d r=>az 2 (fun a b=>inside (Gc lf r a b)) fun l=>eC lf (d+1) 162 l.toArray),
 (163,fun d r=>az 1 (fun a=>inside (A9 lf r a)) fun l=>eC lf (d+1) 163 l.toArray),
 (164,fun d r=>az 1 (fun a=>inside (Ge lf r a)) fun l=>eC lf (d+1) 164 l.toArray),
 (166,fun d r=>az 3 (fun a b c=>inside (Gh lf r a b c)) fun l=>eC lf (d+1) 166 l.toArray),
 (165,fun d r=>az 2 (fun a b=>inside (Bc lf r a b)) fun l=>eC lf (d+1) 165 l.toArray),
 (167,fun d r=>az 1 (fun a=>inside (Gi lf r a)) fun l=>eC lf (d+1) 167 l.toArray),
 (168,fun d r=>az 2 (fun a b=>inside (Gj lf r a b)) fun l=>eC lf (d+1) 168 l.toArray),
 (169,fun d r=>az 2 (fun a b=>inside (Bd lf r a b)) fun l=>eC lf (d+1) 169 l.toArray),
 (170,fun d r=>az 3 (fun a b c=>inside (Gk lf r a b c)) fun l=>eC lf (d+1) 170 l.toArray),
 (171,fun d r=>az 1 (fun a=>inside (Gm lf r a)) fun l=>eC lf (d+1) 171 l.toArray),
 (172,fun d r=>az 2 (fun a b=>inside (Gn lf r a b)) fun l=>eC lf (d+1) 172 l.toArray),
 (212,fun d r=>az 3 (fun a b c=>inside (GJ lf r a b c)) fun l=>eC lf (d+1) 212 l.toArray),
 (213,fun d r=>az 1 (fun a=>inside (GK lf r a)) fun l=>eC lf (d+1) 213 l.toArray),
 (188,fun d r=>az 2 (fun a b=>inside (wW lf r a b)) fun l=>eC lf (d+1) 188 l.toArray),
 (189,fun d r=>az 1 (fun a=>inside (Bf lf r a)) fun l=>eC lf (d+1) 189 l.toArray),
 (190,fun d r=>az 2 (fun a b=>inside (Bh lf r a b)) fun l=>eC lf (d+1) 190 l.toArray),
 (191,fun d r=>az 3 (fun a b c=>inside (Bj lf r a b c)) fun l=>eC lf (d+1) 191 l.toArray),
 (192,fun d r=>az 1 (fun a=>inside (Gz lf r a)) fun l=>eC lf (d+1) 192 l.toArray),
 (194,fun d r=>az 2 (fun a b=>inside (GA lf r a b)) fun l=>eC lf (d+1) 194 l.toArray),
 (193,fun d r=>az 2 (fun a b=>inside (xd lf r a b)) fun l=>eC lf (d+1) 193 l.toArray),
 (195,fun d r=>az 0 (inside (Bo lf r)) fun l=>eC lf (d+1) 195 l.toArray),
 (196,fun d r=>az 2 (fun a b=>inside (Bq lf r a b)) fun l=>eC lf (d+1) 196 l.toArray),
 (197,fun d r=>az 1 (fun a=>inside (GB lf r a)) fun l=>eC lf (d+1) 197 l.toArray),
 (198,fun d r=>az 1 (fun a=>inside (GC lf r a)) fun l=>eC lf (d+1) 198 l.toArray),
 (200,fun d r=>az 3 (fun a b c=>inside (GF lf r a b c)) fun l=>eC lf (d+1) 200 l.toArray),
 (201,fun d r=>az 1 (fun a=>inside (GG lf r a)) fun l=>eC lf (d+1) 201 l.toArray),
 (202,fun d r=>az 2 (fun a b=>inside (GH lf r a b)) fun l=>eC lf (d+1) 202 l.toArray),
 (203,fun d r=>az 1 (fun a=>inside (Bs lf r a)) fun l=>eC lf (d+1) 203 l.toArray),
 (204,fun d r=>az 2 (fun a b=>inside (GI lf r a b)) fun l=>eC lf (d+1) 204 l.toArray),
 (232,fun d r=>az 2 (fun a b=>inside (GQ lf r a b)) fun l=>eC lf (d+1) 232 l.toArray),
 (214,fun d r=>az 1 (fun a=>inside (Bt lf r a)) fun l=>eC lf (d+1) 214 l.toArray),
 (215,fun d r=>az 2 (fun a b=>inside (Bv lf r a b)) fun l=>eC lf (d+1) 215 l.toArray),
 (216,fun d r=>az 2 (fun a b=>inside (Bx lf r a b)) fun l=>eC lf (d+1) 216 l.toArray),
 (217,fun d r=>az 1 (fun a=>inside (BA lf r a)) fun l=>eC lf (d+1) 217 l.toArray),
 (218,fun d r=>az 2 (fun a b=>inside (vd lf r a b)) fun l=>eC lf (d+1) 218 l.toArray),
 (219,fun d r=>az 2 (fun a b=>inside (BD lf r a b)) fun l=>eC lf (d+1) 219 l.toArray),
 (199,fun d r=>az 1 (fun a=>inside (GD lf r a)) fun l=>eC lf (d+1) 199 l.toArray),
 (220,fun d r=>az 1 (fun a=>inside (GM lf r a)) fun l=>eC lf (d+1) 220 l.toArray),
 (222,fun d r=>az 3 (fun a b c=>inside (GP lf r a b c)) fun l=>eC lf (d+1) 222 l.toArray),
 (233,fun d r=>az 1 (fun a=>inside (BF lf r a)) fun l=>eC lf (d+1) 233 l.toArray),
 (234,fun d r=>az 1 (fun a=>inside (BH lf r a)) fun l=>eC lf (d+1) 234 l.toArray),
 (235,fun d r=>az 1 (fun a=>inside (BJ lf r a)) fun l=>eC lf (d+1) 235 l.toArray),
 (221,fun d r=>az 1 (fun a=>inside (GO lf r a)) fun l=>eC lf (d+1) 221 l.toArray),
 (236,fun d r=>az 3 (fun a b c=>inside (GU lf r a b c)) fun l=>eC lf (d+1) 236 l.toArray),
 (243,fun d r=>az 1 (fun a=>inside (BK lf r a)) fun l=>eC lf (d+1) 243 l.toArray),
 (244,fun d r=>az 1 (fun a=>inside (GW lf r a)) fun l=>eC lf (d+1) 244 l.toArray),
 (245,fun d r=>az 3 (fun a b c=>inside (GX lf r a b c)) fun l=>eC lf (d+1) 245 l.toArray),
 (249,fun d r=>az 3 (fun a b c=>inside (GZ lf r a b c)) fun l=>eC lf (d+1) 249 l.toArray),
 (248,fun d r=>az 2 (fun a b=>inside (GY lf r a b)) fun l=>eC lf (d+1) 248 l.toArray),
 (250,fun d r=>az 2 (fun a b=>inside (G0 lf r a b)) fun l=>eC lf (d+1) 250 l.toArray),
 (251,fun d r=>az 3 (fun a b c=>inside (BN lf r a b c)) fun l=>eC lf (d+1) 251 l.toArray),
 (252,fun d r=>az 1 (fun a=>inside (G2 lf r a)) fun l=>eC lf (d+1) 252 l.toArray),
 (253,fun d r=>az 4 (fun a b c d=>inside (xj lf r a b c d)) fun l=>eC lf (d+1) 253 l.toArray),
 (254,fun d r=>az 5 (fun a b c d e=>inside (ve lf r a b c d e)) fun l=>eC lf (d+1) 254 l.toArray),
 (255,fun d r=>az 5 (fun a b c d e=>inside (BQ lf r a b c d e)) fun l=>eC lf (d+1) 255 l.toArray),
 (256,fun d r=>az 5 (fun a b c d e=>inside (BR lf r a b c d e)) fun l=>eC lf (d+1) 256 l.toArray)]
theorem adL(lf:Nat):Cv (eC lf) (T' lf):=⟨fun d=>aB _ _ _ (aA Nq),
 ⟨fun d=>aB _ _ _ (fun a b=>aA ZR),
 ⟨fun d=>aB _ _ _ (fun a=>aA NK),
 ⟨fun d=>aB _ _ _ (fun a b c=>aA ZQ),
 ⟨fun d=>aB _ _ _ (fun a b=>aA ZS),
 ⟨fun d=>aB _ _ _ (fun a=>aA NC),
 ⟨fun d=>aB _ _ _ (fun a b=>aA ZU),
 ⟨fun d=>aB _ _ _ (fun a b c=>aA ND),
 ⟨fun d=>aB _ _ _ (fun a=>aA ZW),
 ⟨fun d=>aB _ _ _ (fun a=>aA NF),
 ⟨fun d=>aB _ _ _ (aA NQ),
 ⟨fun d=>aB _ _ _ (fun a b c=>aA NU),
 ⟨fun d=>aB _ _ _ (fun a=>aA Z3),
 ⟨fun d=>aB _ _ _ (fun a b=>aA Z4),
 ⟨fun d=>aB _ _ _ (fun a=>aA Z5),
 ⟨fun d=>aB _ _ _ (fun a=>aA NY),
 ⟨fun d=>aB _ _ _ (fun a b c d=>aA NH),
 ⟨fun d=>aB _ _ _ (fun a b=>aA N0),
 ⟨fun d=>aB _ _ _ (fun a=>aA Z9),
 ⟨fun d=>aB _ _ _ (fun a=>aA NZ),
 ⟨fun d=>aB _ _ _ (fun a b=>aA Oe),
 ⟨fun d=>aB _ _ _ (fun a b=>aA Of),
 ⟨fun d=>aB _ _ _ (aA aab),
 ⟨fun d=>aB _ _ _ (aA aac),
 ⟨fun d=>aB _ _ _ (fun a=>aA aad),
 ⟨fun d=>aB _ _ _ (fun a b=>aA aae),
 ⟨fun d=>aB _ _ _ (fun a b c=>aA aaf),
 ⟨fun d=>aB _ _ _ (fun a=>aA aag),
 ⟨fun d=>aB _ _ _ (fun a=>aA aah),
 ⟨fun d=>aB _ _ _ (fun a=>aA Og),
 ⟨fun d=>aB _ _ _ (fun a=>aA Oh),
 ⟨fun d=>aB _ _ _ (fun a b=>aA Ol),
 ⟨fun d=>aB _ _ _ (fun a=>aA Om),
 ⟨fun d=>aB _ _ _ (fun a b=>aA N4),
 ⟨fun d=>aB _ _ _ (fun a b c d=>aA N5),
 ⟨fun d=>aB _ _ _ (aA aat),
 ⟨fun d=>aB _ _ _ (fun a=>aA aau),
 ⟨fun d=>aB _ _ _ (fun a b=>aA aaw),
 ⟨fun d=>aB _ _ _ (fun a=>aA aax),
 ⟨fun d=>aB _ _ _ (fun a=>aA aay),
 ⟨fun d=>aB _ _ _ (fun a=>aA O2),
 ⟨fun d=>aB _ _ _ (fun a b=>aA O5),
 ⟨fun d=>aB _ _ _ (fun a=>aA O6),
 ⟨fun d=>aB _ _ _ (fun a=>aA O7),
 ⟨fun d=>aB _ _ _ (fun a=>aA O8),
 ⟨fun d=>aB _ _ _ (fun a=>aA Oq),
 ⟨fun d=>aB _ _ _ (fun a b=>aA Ov),
 ⟨fun d=>aB _ _ _ (fun a b=>aA Oy),
 ⟨fun d=>aB _ _ _ (fun a b=>aA OB),
 ⟨fun d=>aB _ _ _ (fun a b=>aA OH),
 ⟨fun d=>aB _ _ _ (fun a b c=>aA OM),
 ⟨fun d=>aB _ _ _ (fun a=>aA aaK),
 ⟨fun d=>aB _ _ _ (fun a b=>aA aaL),
 ⟨fun d=>aB _ _ _ (fun a=>aA PN),
 ⟨fun d=>aB _ _ _ (fun a=>aA PO),
 ⟨fun d=>aB _ _ _ (fun a b=>aA PQ),
 ⟨fun d=>aB _ _ _ (fun a=>aA Pa),
 ⟨fun d=>aB _ _ _ (fun a=>aA Pb),
 ⟨fun d=>aB _ _ _ (fun a b=>aA Pc),
 ⟨fun d=>aB _ _ _ (fun a=>aA Pd),
 ⟨fun d=>aB _ _ _ (fun a=>aA Pg),
 ⟨fun d=>aB _ _ _ (fun a b=>aA Ph),
 ⟨fun d=>aB _ _ _ (fun a b=>aA Po),
 ⟨fun d=>aB _ _ _ (fun a=>aA Pp),
 ⟨fun d=>aB _ _ _ (fun a b=>aA Pu),
 ⟨fun d=>aB _ _ _ (fun a=>aA Px),
 ⟨fun d=>aB _ _ _ (fun a=>aA PA),
 ⟨fun d=>aB _ _ _ (fun a b c=>aA PD),
 ⟨fun d=>aB _ _ _ (fun a b=>aA PE),
 ⟨fun d=>aB _ _ _ (fun a=>aA PJ),
 ⟨fun d=>aB _ _ _ (fun a b c=>aA PK),
 ⟨fun d=>aB _ _ _ (fun a=>aA aaS),
 ⟨fun d=>aB _ _ _ (fun a b c=>aA aaT),
 ⟨fun d=>aB _ _ _ (fun a=>aA Qj),
 ⟨fun d=>aB _ _ _ (fun a=>aA Qk),
 ⟨fun d=>aB _ _ _ (fun a=>aA Ql),
 ⟨fun d=>aB _ _ _ (fun a=>aA Qm),
 ⟨fun d=>aB _ _ _ (fun a=>aA Qn),
 ⟨fun d=>aB _ _ _ (fun a b=>aA PR),
 ⟨fun d=>aB _ _ _ (fun a b=>aA PV),
 ⟨fun d=>aB _ _ _ (fun a b=>aA Gb),
 ⟨fun d=>aB _ _ _ (fun a b=>aA PY),
 ⟨fun d=>aB _ _ _ (fun a=>aA P1),
 ⟨fun d=>aB _ _ _ (fun a=>aA P2),
 ⟨fun d=>aB _ _ _ (fun a b c=>aA P9),
 ⟨fun d=>aB _ _ _ (fun a b=>aA P8),
 ⟨fun d=>aB _ _ _ (fun a=>aA P'),
 ⟨fun d=>aB _ _ _ (fun a b=>aA Qa),
 ⟨fun d=>aB _ _ _ (fun a b=>aA Qd),
 ⟨fun d=>aB _ _ _ (fun a b c=>aA Qe),
 ⟨fun d=>aB _ _ _ (fun a=>aA Qf),
 ⟨fun d=>aB _ _ _ (fun a b=>aA Qg),
 ⟨fun d=>aB _ _ _ (fun a b c=>aA Q4),
 ⟨fun d=>aB _ _ _ (fun a=>aA Q5),
 ⟨fun d=>aB _ _ _ (fun a b=>aA Gv),
 ⟨fun d=>aB _ _ _ (fun a=>aA Qs),
 ⟨fun d=>aB _ _ _ (fun a b=>aA Qz),
 ⟨fun d=>aB _ _ _ (fun a b c=>aA QG),
 ⟨fun d=>aB _ _ _ (fun a=>aA QH),
 ⟨fun d=>aB _ _ _ (fun a b=>aA QI),
 ⟨fun d=>aB _ _ _ (fun a b=>aA Bl),
 ⟨fun d=>aB _ _ _ (aA QM),
 ⟨fun d=>aB _ _ _ (fun a b=>aA QP),
 ⟨fun d=>aB _ _ _ (fun a=>aA QQ),
 ⟨fun d=>aB _ _ _ (fun a=>aA QR),
 ⟨fun d=>aB _ _ _ (fun a b c=>aA QT),
 ⟨fun d=>aB _ _ _ (fun a=>aA QU),
 ⟨fun d=>aB _ _ _ (fun a b=>aA QW),
 ⟨fun d=>aB _ _ _ (fun a=>aA QZ),
 ⟨fun d=>aB _ _ _ (fun a b=>aA Q3),
 ⟨fun d=>aB _ _ _ (fun a b=>aA Ru),
 ⟨fun d=>aB _ _ _ (fun a=>aA Q8),
 ⟨fun d=>aB _ _ _ (fun a b=>aA Rb),
 ⟨fun d=>aB _ _ _ (fun a b=>aA Re),
 ⟨fun d=>aB _ _ _ (fun a=>aA Rj),
 ⟨fun d=>aB _ _ _ (fun a b=>aA BB),
 ⟨fun d=>aB _ _ _ (fun a b=>aA Rp),
 ⟨fun d=>aB _ _ _ (fun a=>aA QS),
 ⟨fun d=>aB _ _ _ (fun a=>aA Rq),
 ⟨fun d=>aB _ _ _ (fun a b c=>aA Rt),
 ⟨fun d=>aB _ _ _ (fun a=>aA RA),
 ⟨fun d=>aB _ _ _ (fun a=>aA RE),
 ⟨fun d=>aB _ _ _ (fun a=>aA RH),
 ⟨fun d=>aB _ _ _ (fun a=>aA Rr),
 ⟨fun d=>aB _ _ _ (fun a b c=>aA RJ),
 ⟨fun d=>aB _ _ _ (fun a=>aA RN),
 ⟨fun d=>aB _ _ _ (fun a=>aA RO),
 ⟨fun d=>aB _ _ _ (fun a b c=>aA RP),
 ⟨fun d=>aB _ _ _ (fun a b c=>aA RS),
 ⟨fun d=>aB _ _ _ (fun a b=>aA RQ),
 ⟨fun d=>aB _ _ _ (fun a b=>aA RU),
 ⟨fun d=>aB _ _ _ (fun a b c=>aA R1),
 ⟨fun d=>aB _ _ _ (fun a=>aA R2),
 ⟨fun d=>aB _ _ _ (fun a b c d=>aA G3),
 ⟨fun d=>aB _ _ _ (fun a b c d e=>aA BP),
 ⟨fun d=>aB _ _ _ (fun a b c d e=>aA Sh),
 ⟨fun d=>aB _ _ _ (fun a b c d e=>aA Sk),trivial⟩⟩⟩⟩⟩⟩⟩⟩⟩⟩⟩⟩⟩⟩⟩⟩⟩⟩⟩⟩⟩⟩⟩⟩⟩⟩⟩⟩⟩⟩⟩⟩⟩⟩⟩⟩⟩⟩⟩⟩⟩⟩⟩⟩⟩⟩⟩⟩⟩⟩⟩⟩⟩⟩⟩⟩⟩⟩⟩⟩⟩⟩⟩⟩⟩⟩⟩⟩⟩⟩⟩⟩⟩⟩⟩⟩⟩⟩⟩⟩⟩⟩⟩⟩⟩⟩⟩⟩⟩⟩⟩⟩⟩⟩⟩⟩⟩⟩⟩⟩⟩⟩⟩⟩⟩⟩⟩⟩⟩⟩⟩⟩⟩⟩⟩⟩⟩⟩⟩⟩⟩⟩⟩⟩⟩⟩⟩⟩⟩⟩⟩⟩⟩⟩⟩⟩⟩
def Ua(lf:Nat):Nat->FuncId->Array Value->M Value:=Cw (eC lf) (T' lf)
theorem adM(lf d:Nat):Ua lf d=eC lf d:=T9 (adL lf) d
end
end Go.Proofs.YtcehhgppfahbkaaGreatDoor
namespace Go.Proofs.YtcehhgppfahbkaaGreatDoor
open Go.Shelf
def Tryz.Ub:ahP:=⟨fun|105=>211|212=>226|99=>227|165=>228|166=>229|170=>230|169=>231|263=>238|264=>239|206=>240|240=>241|241=>242|276=>246|277=>247|n=>n,fun|9=>9|3=>3|4=>4|20=>20|0=>0|46=>140|109=>253|5=>5|72=>258|76=>262|51=>40|146=>268|53=>98|148=>270|70=>256|37=>99|75=>261|127=>272|164=>277|80=>44|n=>n,fun|n=>n⟩
theorem Tryz.adN:aiz ad Tryz.Ub:={
 mixed:=by kernel_rfl
 f99:=Tryz.func227.trans (congrArg some (by kernel_rfl))
 f105:=Tryz.func211.trans (congrArg some (by kernel_rfl))
 f165:=Tryz.func228.trans (congrArg some (by kernel_rfl))
 f166:=Tryz.func229.trans (congrArg some (by kernel_rfl))
 f169:=Tryz.func231.trans (congrArg some (by kernel_rfl))
 f170:=Tryz.func230.trans (congrArg some (by kernel_rfl))
 f206:=Tryz.func240.trans (congrArg some (by kernel_rfl))
 f212:=Tryz.func226.trans (congrArg some (by kernel_rfl))
 f240:=Tryz.func241.trans (congrArg some (by kernel_rfl))
 f241:=Tryz.func242.trans (congrArg some (by kernel_rfl))
 f263:=Tryz.func238.trans (congrArg some (by kernel_rfl))
 f264:=Tryz.func239.trans (congrArg some (by kernel_rfl))
 f276:=Tryz.func246.trans (congrArg some (by kernel_rfl))
 f277:=Tryz.func247.trans (congrArg some (by kernel_rfl))
 t0:=Tryz.underlying0
 a0:=Tryz.isAgg0
 z0:=Tryz.sizeOf0
 v0:=Tryz.zeroValue0
 t3:=VT
 a3:=ahQ
 z3:=ahR
 v3:=ahS
 t4:=Tryz.underlying4
 a4:=Tryz.isAgg4
 z4:=Tryz.sizeOf4
 v4:=Tryz.zeroValue4
 t5:=VU
 a5:=VV
 z5:=VW
 v5:=VX
 t9:=Tryz.underlying9
 a9:=Tryz.isAgg9
 z9:=Tryz.sizeOf9
 v9:=Tryz.zeroValue9
 t20:=Tryz.underlying20
 a20:=Tryz.isAgg20
 z20:=Tryz.sizeOf20
 v20:=Tryz.zeroValue20
 t37:=ahT
 a37:=ahU
 z37:=ahV
 v37:=ahW
 t46:=Tryz.underlying140
 a46:=Tryz.isAgg140
 z46:=Tryz.sizeOf140
 v46:=Tryz.zeroValue140
 t51:=Tryz.underlying40
 a51:=Tryz.isAgg40
 z51:=Tryz.sizeOf40
 v51:=Tryz.zeroValue40
 t53:=Tryz.underlying98
 a53:=Tryz.isAgg98
 z53:=Tryz.sizeOf98
 v53:=Tryz.zeroValue98
 t70:=Tryz.underlying256
 a70:=Tryz.isAgg256
 z70:=Tryz.sizeOf256
 v70:=Tryz.zeroValue256
 t72:=Tryz.underlying258
 a72:=Tryz.isAgg258
 z72:=Tryz.sizeOf258
 v72:=Tryz.zeroValue258
 t75:=Tryz.underlying261
 a75:=Tryz.isAgg261
 z75:=Tryz.sizeOf261
 v75:=Tryz.zeroValue261
 t76:=Tryz.underlying262
 a76:=Tryz.isAgg262
 z76:=Tryz.sizeOf262
 v76:=Tryz.zeroValue262
 t109:=Tryz.underlying253
 a109:=Tryz.isAgg253
 z109:=Tryz.sizeOf253
 v109:=Tryz.zeroValue253
 t127:=Tryz.underlying272
 a127:=Tryz.isAgg272
 z127:=Tryz.sizeOf272
 v127:=Tryz.zeroValue272
 t146:=Tryz.underlying268
 a146:=Tryz.isAgg268
 z146:=Tryz.sizeOf268
 v146:=Tryz.zeroValue268
 t148:=Tryz.underlying270
 a148:=Tryz.isAgg270
 z148:=Tryz.sizeOf270
 v148:=Tryz.zeroValue270
 t164:=Tryz.underlying277
 a164:=Tryz.isAgg277
 z164:=Tryz.sizeOf277
 v164:=Tryz.zeroValue277}
theorem Tryz.adO:Builder.Extra ad Tryz.Ub:={
 sizeBuilder:=by kernel_rfl
 liesBuilder:=by kernel_rfl
 t5:=VU
 a5:=VV
 z5:=VW
 v5:=VX
 infoByte:=by kernel_rfl
 cellsByte:=by kernel_rfl
 sizeByte:=by kernel_rfl
 neB5:=by decide}
open Go.RowKit Go.Lib in
theorem Tryz.strings_Repeat(s:ByteArray)(c:Nat)(w:World)(b:c<=9223372036854775807)(a:s.size*c<=140737488355328):
 Calls ad 211 #[.string s,jI c] w fun e w'=>e= .returned (.string ⟨(Lib.repeatL s.data.toList c).toArray⟩)∧Below w.heap.size w w':=Any.strings_Repeat Tryz.adN Tryz.adO s c w b a
def Tryz.adP:ahP:=⟨fun|187=>158|255=>187|n=>n,fun|37=>99|5=>5|3=>3|n=>n,fun|n=>n⟩
theorem Tryz.adQ:aiA ad Tryz.adP:={
 mixed:=by kernel_rfl
 f187:=Tryz.func158.trans (congrArg some (by kernel_rfl))
 f255:=Tryz.func187.trans (congrArg some (by kernel_rfl))
 t3:=VT
 a3:=ahQ
 z3:=ahR
 v3:=ahS
 t5:=VU
 a5:=VV
 z5:=VW
 v5:=VX
 t37:=ahT
 a37:=ahU
 z37:=ahV
 v37:=ahW}
theorem Tryz.bytes_IndexByte(b o n c:Nat)(xs:List Int)(cv:Int)(w:World)(a:xs.length=n)(d:∀i,i<n->w.cell? ⟨b,o+i,none⟩=some (.int .u8 (xs.getD i 0))):
 Calls ad 158 #[.slice (some ⟨b,o,none⟩) n c,.int .u8 cv] w fun e w'=>e= .returned (jI (Lib.indexByte (Lib.bytesOf xs) cv.toNat.toUInt8))∧w'=w:=Any.bytes_IndexByte Tryz.adQ b o n c xs cv w a d
end Go.Proofs.YtcehhgppfahbkaaGreatDoor
namespace Go.Proofs.YtcehhgppfahbkaaGreatDoor
open Go.RowKit Ev
theorem Uc:Ev.qi ad=true:=jK
theorem Ud:Tryz.prog.follows .mixedOrders=true:=jK
theorem adR:Ev.oK ad rb=true:=jK
theorem adS:Ev.oK ad Ev.KN=true:=jK
theorem Ue{kn:List FuncId}(j:∀f k,kn.contains f=true->ny f=some k->(f=158∧k=1)∨(f=211∧k=2)):Ev.DI ad kn:=by
 intro f k p l;rcases j f k p l with ⟨rfl,rfl⟩|⟨rfl,rfl⟩
 ·exact⟨fun _ b o n c d cv w g a=>(Tryz.bytes_IndexByte b o n c d cv w g a).mono fun e q ⟨m,h⟩=>⟨m,by rw[h];exact Below.refl _ _⟩,fun e=>(by cases e),fun e=>(by cases e),fun e=>(by cases e)⟩
 ·exact⟨fun e=>(by cases e),fun _ s c w a i=>Tryz.strings_Repeat s c w jO (pU (agE i a) jD),fun e=>(by cases e),fun e=>(by cases e)⟩
theorem Uf{f:FuncId}{k:Nat}(b:f=229∨f=158∨f=211)(a:ny f=some k):(f=158∧k=1)∨(f=211∧k=2):=by
 rcases b with rfl|rfl|rfl
 ·cases a
 ·cases a;exact .inl ⟨rfl,rfl⟩
 ·cases a;exact .inr ⟨rfl,rfl⟩
theorem Ug{f:FuncId}(c:f=229∨f=158∨f=211)(b:ny f=none)(a:Ev.qk ad f=true):False:=by
 rcases c with rfl|rfl|rfl
 ·have e:Ev.qk ad 229=false:=jK;rw[e]at a;cases a
 ·cases b
 ·cases b
theorem adT:Ev.rI ad rb:=
 ⟨fun f a c b w _=>(Ug (by simpa[rb]using a) c b).elim,Ue fun f k d a=>Uf (by simpa[rb]using d) a⟩
def gV:List Value:=[jI 200,jI 600,jI 1200,jI 2400]
def hG:H:=H.set .nil 1 (some ⟨3,false,gV⟩)
theorem Uh{w:World}(x:Ev.oO w):∃m,Laid ad w m hG Tryz.prog.globals.size:=by
 refine YF x (by decide+kernel) (sz:=1) (by kernel_rfl) jD (fun k v a=> ?_) jD
 match k,a with
 |0,a=>cases a;simp[KG]
 |1,a=>cases a;simp[KG]
 |2,a=>cases a;simp[KG]
 |3,a=>cases a;simp[KG]
set_option maxRecDepth 100000 in
theorem adU:Ev.yJ ((inside (Fw 300000000 (Ua 300000000 1000))) hG Tryz.prog.globals.size)=true:=jK
theorem adV(w:World)(x:Ev.oO w):Calls ad 10 #[] w fun e w'=>e= .returned (.bool true)∧Below w.heap.size w w':=by obtain⟨m,x⟩:=Uh x;refine Ev.adK (kn:=rb) Uc adR Ud adT aE x (gt:=gt) (lf:=300000000) (d:=1001) ?_;have:=adU;rw[adM,aA Nq]at this;exact this
theorem known:Ev.rI ad Ev.KN:=by
 have b:∀f,Ev.KN.contains f=true->f=10∨(f=229∨f=158∨f=211):=fun f a=>by simpa[Ev.KN]using a
 refine⟨fun f a d c w x=> ?_,Ue fun f k hb a=> ?_⟩
 ·rcases b f a with rfl|hb
  ·exact adV w x
  ·exact(Ug hb d c).elim
 ·rcases b f hb with rfl|hb
  ·cases a
  ·exact Uf hb a
end Go.Proofs.YtcehhgppfahbkaaGreatDoor
namespace Go.Proofs.YtcehhgppfahbkaaGreatDoor
open Go Go.RowKit Go.WideShapes Go.ChangeShapes Go.MakeChecks
theorem Ui:Tryz.prog.globalNamed "baler/tables.bounds" =some 1:=jK
theorem adW:(Tryz.prog.globals[1]?).map (·.type)=some 265:=jK
theorem adX:Tryz.prog.cellsOf 3=1:=jK
theorem adY:Tryz.prog.cellsOf 265=4:=jK
set_option maxRecDepth 10000 in
theorem adZ{w:World}(r:laidMetH ad [("baler/tables.bounds",Rows.laid_baler_tables_bounds)] w):Ev.oO w:=by
 rw[laidMetH_plain _ _ _ rfl]at r;obtain⟨J,⟨g,t,I,u,p,q,h,n,d,x,_⟩,_⟩:=r;rw[Ui]at h;cases h;rw[adW]at n;cases n;unfold World.var? at d;rw[Ui]at d;simp only[Option.bind_some]at d;split at d
 ·rename_i G K F A;cases d;obtain⟨j,m,rfl,l,e,v,a⟩:=DataW.trod_array Tryz.underlying265 x;rw[adY]at e;rw[adX]at a
  have f:∀(i:Nat) (z:Int),i<4->(j.map (·.1))[i]? =some (.lit (.int .i64 z))->w.cell? ⟨1,i,none⟩=some (.int .i64 z):=by
   intro i z C c;rw[fw]at c;cases b:j[i]? with
   |none=>rw[b]at c;cases c
   |some y=>
    rw[b]at c;have o:=a i C;rw[b]at o;obtain⟨k,s,E,_⟩:=DataW.trod_int VT o;rw[E]at c;cases c
    have D:I.toList[i]? =some (.int .i64 z):=by rw[Nat.mul_one,List.drop_eq_getElem_cons jO,List.take_succ_cons,ru]at s;rw[aC jO];exact congrArg some (ID s).1
    unfold World.cell?;simp only[A];simpa using D
  have B:j.map (·.1)=[.lit (.int .i64 200),.lit (.int .i64 600),.lit (.int .i64 1200),.lit (.int .i64 2400)]:=by have:=congrArg Prod.fst l;simp only[Rows.laid_baler_tables_bounds]at this;injection this with this;exact this.symm
  rw[B]at f;intro g h;have:g=(1,0,.int .i64 200)∨g=(1,1,.int .i64 600)∨g=(1,2,.int .i64 1200)∨g=(1,3,.int .i64 2400):=by simpa[Ev.KG]using h
  rcases this with rfl|rfl|rfl|rfl
  ·exact f 0 200 jD rfl
  ·exact f 1 600 jD rfl
  ·exact f 2 1200 jD rfl
  ·exact f 3 2400 jD rfl
 ·cases d
end Go.Proofs.YtcehhgppfahbkaaGreatDoor
namespace Go.Proofs.YtcehhgppfahbkaaGreatDoor
open Go.RowKit Ev
theorem ad0{f:FuncId}{ts:List TypeId}{vs:List Value}{w:World}(b:Ev.oO w)(g:dz (qH ad w) ts vs)(r:∀n h a,Tryz.prog.globals.size<=n->h.get 1=some ⟨3,false,gV⟩->dz (mL ad h n) ts a->aa (fun _=>False) n (ah ad gt 3000000 1000 f a.toArray) h n fun v _ _=>v= .bool true):
 Calls ad f vs.toArray w fun e w'=>e= .returned (.bool true)∧Below w.heap.size w w':=by
 obtain⟨m,x⟩:=Uh b;exact Ev.YQ Uc adS Ud known aE g x fun n h a c d q=>r n h a c (by rw[d _ (by decide+kernel)];exact get_eq _ _ _) q
def Gd(h:H)(n:Nat):Prop:=h.get 1=some ⟨3,false,gV⟩∧1<n
theorem Gd.ar{h h':H}{n n':Nat}(x:Gd h n)(a:n<=n')(c:∀b,b<n->h'.get b=h.get b):Gd h' n':=⟨(c _ x.2).trans x.1,dC x.2 a⟩
theorem Gd.of{h:H}{n:Nat}(a:Tryz.prog.globals.size<=n)(b:h.get 1=some ⟨3,false,gV⟩):Gd h n:=⟨b,dC (by decide+kernel) a⟩
theorem ad1(lf d n:Nat)(h:H)(x:Gd h n):aa (fun _=>False) n (ah ad gt lf (d+1) 10 #[]) h n fun i h' n'=>i= .bool true∧h'=h∧n'=n:=by
 obtain⟨o,j⟩:=x;have e:ah ad gt lf (d+1) 10 #[]=(kH ad KG).bind fun _=>M.ret (.bool true):=jK;rw[e]
 have b:∀(k:Nat) (v:Value),gV[k]? =some v->rd 1 k h n=some ⟨v,h,n,[⟨false,1,some k⟩]⟩:=fun k v g=>by unfold rd;simp only[j,o,g,if_true]
 have f:decide (1<Tryz.prog.globals.size)=true:=by decide+kernel
 have a:∀(k:Nat) (x:Int) (l:List (Nat×Nat×Value)) (L:List En),gV[k]? =some (jI x)->kH ad l h n=some ⟨(),h,n,L⟩->kH ad ((1,k,jI x)::l) h n=some ⟨(),h,n,[⟨false,1,some k⟩]++L⟩:=fun k x l L g m=>by unfold kH;refine bz (b k _ g) ?_;simp only[f,uq,decide_true,Bool.and_self,if_true];exact m
 have c:=a 0 200 _ _ rfl (a 1 600 _ _ rfl (a 2 1200 _ _ rfl (a 3 2400 [] [] rfl rfl)));refine aa.step c (ag _) jS ?_;rw[qE];exact⟨rfl,rfl,rfl⟩
theorem vu{lf d n n0:Nat}{h:H}{W:Nat->Prop}(a:n0<=n)(x:Gd h n):aa W n0 (aj (ah ad gt lf (d+1)) 10 [] fun v=>ae [v]) h n fun v _ _=>v= .bool true:=by refine bU (ad1 lf d n h x) a (fun _ _ h=>h.elim) ?_;rw[zQ]
end Go.Proofs.YtcehhgppfahbkaaGreatDoor
namespace Go.Proofs.YtcehhgppfahbkaaGreatDoor
open Go.RowKit Ev Tb
section
variable (lf d n:Nat) (h:H) (bB:3000000<=lf)
theorem xS:([jI 200,jI 600,jI 1200,jI 2400]:List Value)[vQ 0]? =some (jI 200):=rfl
theorem xT:([jI 200,jI 600,jI 1200,jI 2400]:List Value)[vQ 1]? =some (jI 600):=rfl
theorem xU:([jI 200,jI 600,jI 1200,jI 2400]:List Value)[vQ 2]? =some (jI 1200):=rfl
theorem xV:([jI 200,jI 600,jI 1200,jI 2400]:List Value)[vQ 3]? =some (jI 2400):=rfl
theorem ad2(z:Int)(g:Gd h n)(o:5<=lf):aa (fun _=>False) n (ah ad gt lf (d+1) 214 #[jI z]) h n fun k h' n'=>k=jI (jQ z:Int)∧h'=h∧n'=n:=by
 rw[aF (fun _=>Q8) rfl];refine aa.aD ?_;unfold Bt;refine zY trivial trivial 1 0 _ g.1 g.2 jD ?_
 have p:∀F,5<=F->aa (fun _=>False) n (dS lf (ah ad gt lf d) F (qT lf (ah ad gt lf d)) (jI z) (jI 0) (jI 2) (.agg #[jI 200,jI 600,jI 1200,jI 2400]) (jI 0)) h n fun k h' n'=>k=jI (jQ z:Int)∧h'=h∧n'=n:=by
  intro F q;obtain⟨F,rfl⟩:∃f,F=f+1+1+1+1+1:=⟨F-5,jO⟩;have w:∀x:Int,0<=x->x<100->IntKind.i64.wrap (x+1)=x+1:=fun x s r=>aO jO jO;unfold jQ;by_cases i:z<200
  ·have e:¬(200<=z):=jO;have c:¬(600<=z):=jO;have b:¬(1200<=z):=jO;have a:¬(2400<=z):=jO;rw[dS];try simp(disch:=first|omega|assumption) only[Nat.reduceAdd,Nat.reduceLT,RZ,cw,cz,cA,cB,cC,cD,cE,cF,cG,cH,xS,e]
   rw[dS];try simp(disch:=first|omega|assumption) only[Nat.reduceAdd,Nat.reduceLT,RZ,cw,cz,cA,cB,cC,cD,cE,cF,cG,cH,xT,c]
   rw[dS];try simp(disch:=first|omega|assumption) only[Nat.reduceAdd,Nat.reduceLT,RZ,cw,cz,cA,cB,cC,cD,cE,cF,cG,cH,xU,b]
   rw[dS];try simp(disch:=first|omega|assumption) only[Nat.reduceAdd,Nat.reduceLT,RZ,cw,cz,cA,cB,cC,cD,cE,cF,cG,cH,xV,a]
   rw[dS];try simp(disch:=first|omega|assumption) only[Nat.reduceAdd,Nat.reduceLT,RZ,cw,cz,cA,cB,cC,cD,cE,cF,cG,cH]
   (try unfold qT);(try dsimp only)
   try simp(disch:=first|omega|assumption) only[Nat.reduceAdd,Nat.reduceLT,RZ,cw,cz,cA,cB,cC,cD,cE,cF,cG,cH,i]
   all_goals (first|trivial|rfl|exact⟨rfl,rfl,rfl⟩|exact⟨rfl,rfl⟩)
  ·have e:200<=z:=jO;by_cases j:z<600
   ·have c:¬(600<=z):=jO;have b:¬(1200<=z):=jO;have a:¬(2400<=z):=jO;rw[dS];try simp(disch:=first|omega|assumption) only[Nat.reduceAdd,Nat.reduceLT,RZ,cw,cz,cA,cB,cC,cD,cE,cF,cG,cH,xS,e]
    rw[dS];try simp(disch:=first|omega|assumption) only[Nat.reduceAdd,Nat.reduceLT,RZ,cw,cz,cA,cB,cC,cD,cE,cF,cG,cH,xT,c]
    rw[dS];try simp(disch:=first|omega|assumption) only[Nat.reduceAdd,Nat.reduceLT,RZ,cw,cz,cA,cB,cC,cD,cE,cF,cG,cH,xU,b]
    rw[dS];try simp(disch:=first|omega|assumption) only[Nat.reduceAdd,Nat.reduceLT,RZ,cw,cz,cA,cB,cC,cD,cE,cF,cG,cH,xV,a]
    rw[dS];try simp(disch:=first|omega|assumption) only[Nat.reduceAdd,Nat.reduceLT,RZ,cw,cz,cA,cB,cC,cD,cE,cF,cG,cH]
    (try unfold qT);(try dsimp only)
    try simp(disch:=first|omega|assumption) only[Nat.reduceAdd,Nat.reduceLT,RZ,cw,cz,cA,cB,cC,cD,cE,cF,cG,cH,i,j]
    all_goals (first|trivial|rfl|exact⟨rfl,rfl,rfl⟩|exact⟨rfl,rfl⟩)
   ·have c:600<=z:=jO;by_cases l:z<1200
    ·have b:¬(1200<=z):=jO;have a:¬(2400<=z):=jO;rw[dS];try simp(disch:=first|omega|assumption) only[Nat.reduceAdd,Nat.reduceLT,RZ,cw,cz,cA,cB,cC,cD,cE,cF,cG,cH,xS,e]
     rw[dS];try simp(disch:=first|omega|assumption) only[Nat.reduceAdd,Nat.reduceLT,RZ,cw,cz,cA,cB,cC,cD,cE,cF,cG,cH,xT,c]
     rw[dS];try simp(disch:=first|omega|assumption) only[Nat.reduceAdd,Nat.reduceLT,RZ,cw,cz,cA,cB,cC,cD,cE,cF,cG,cH,xU,b]
     rw[dS];try simp(disch:=first|omega|assumption) only[Nat.reduceAdd,Nat.reduceLT,RZ,cw,cz,cA,cB,cC,cD,cE,cF,cG,cH,xV,a]
     rw[dS];try simp(disch:=first|omega|assumption) only[Nat.reduceAdd,Nat.reduceLT,RZ,cw,cz,cA,cB,cC,cD,cE,cF,cG,cH]
     (try unfold qT);(try dsimp only)
     try simp(disch:=first|omega|assumption) only[Nat.reduceAdd,Nat.reduceLT,RZ,cw,cz,cA,cB,cC,cD,cE,cF,cG,cH,i,j,l]
     all_goals (first|trivial|rfl|exact⟨rfl,rfl,rfl⟩|exact⟨rfl,rfl⟩)
    ·have b:1200<=z:=jO;by_cases m:z<2400
     ·have a:¬(2400<=z):=jO;rw[dS];try simp(disch:=first|omega|assumption) only[Nat.reduceAdd,Nat.reduceLT,RZ,cw,cz,cA,cB,cC,cD,cE,cF,cG,cH,xS,e]
      rw[dS];try simp(disch:=first|omega|assumption) only[Nat.reduceAdd,Nat.reduceLT,RZ,cw,cz,cA,cB,cC,cD,cE,cF,cG,cH,xT,c]
      rw[dS];try simp(disch:=first|omega|assumption) only[Nat.reduceAdd,Nat.reduceLT,RZ,cw,cz,cA,cB,cC,cD,cE,cF,cG,cH,xU,b]
      rw[dS];try simp(disch:=first|omega|assumption) only[Nat.reduceAdd,Nat.reduceLT,RZ,cw,cz,cA,cB,cC,cD,cE,cF,cG,cH,xV,a]
      rw[dS];try simp(disch:=first|omega|assumption) only[Nat.reduceAdd,Nat.reduceLT,RZ,cw,cz,cA,cB,cC,cD,cE,cF,cG,cH]
      (try unfold qT);(try dsimp only)
      try simp(disch:=first|omega|assumption) only[Nat.reduceAdd,Nat.reduceLT,RZ,cw,cz,cA,cB,cC,cD,cE,cF,cG,cH,i,j,l,m]
      all_goals (first|trivial|rfl|exact⟨rfl,rfl,rfl⟩|exact⟨rfl,rfl⟩)
     ·have a:2400<=z:=jO;rw[dS];try simp(disch:=first|omega|assumption) only[Nat.reduceAdd,Nat.reduceLT,RZ,cw,cz,cA,cB,cC,cD,cE,cF,cG,cH,xS,e]
      rw[dS];try simp(disch:=first|omega|assumption) only[Nat.reduceAdd,Nat.reduceLT,RZ,cw,cz,cA,cB,cC,cD,cE,cF,cG,cH,xT,c]
      rw[dS];try simp(disch:=first|omega|assumption) only[Nat.reduceAdd,Nat.reduceLT,RZ,cw,cz,cA,cB,cC,cD,cE,cF,cG,cH,xU,b]
      rw[dS];try simp(disch:=first|omega|assumption) only[Nat.reduceAdd,Nat.reduceLT,RZ,cw,cz,cA,cB,cC,cD,cE,cF,cG,cH,xV,a]
      rw[dS];try simp(disch:=first|omega|assumption) only[Nat.reduceAdd,Nat.reduceLT,RZ,cw,cz,cA,cB,cC,cD,cE,cF,cG,cH]
      (try unfold qT);(try dsimp only)
      try simp(disch:=first|omega|assumption) only[Nat.reduceAdd,Nat.reduceLT,RZ,cw,cz,cA,cB,cC,cD,cE,cF,cG,cH,i,j,l,m]
      all_goals (first|trivial|rfl|exact⟨rfl,rfl,rfl⟩|exact⟨rfl,rfl⟩)
 exact p lf o
include bB
theorem ad3(v:Value)(xs:List Int)(s:Row h n 3 .i64 v xs)(A:xs.length<=1000000):
 aa (fun _=>False) n (ah ad gt lf (d+4) 189 #[v]) h n fun t h' n'=>RR h' n' 141 3 t (iR xs):=by
 rw[aF (fun _=>Qs) rfl];refine aa.aD ?_;unfold Bf;have o:=s;obtain⟨a,c,rfl⟩:=s.len;try simp(disch:=first|omega|assumption) only[Nat.reduceAdd,Nat.reduceLT,RZ]
 refine bU (Cs lf (d+2) n h xs.length jO) (ag _) (fun _ _ h=>h.elim) ?_;have C:cY xs.length<=1000000:=by unfold cY;omega
 refine dP (cY xs.length) (fun r i (u:Value)=>sS lf (ah ad gt lf (d+3)) r (Be lf (ah ad gt lf (d+3))) _ _ u (jI (cY xs.length:Nat)) (jI (i:Nat))) (fun i u h' n'=>n<=n'∧(∀b,b<n->h'.get b=h.get b)∧gB h' n n' n' 141 3 u ((aV i).map (eO xs))) ?_ ?_ lf 0 _ h n (cL _) jO ⟨ag _,fun _ _=>rfl,gB.nil _ _ _ _ _ _⟩
 ·rintro r u h' n' ⟨k,l,p⟩;rw[sS];try simp(disch:=first|omega|assumption) only[Nat.reduceAdd,Nat.reduceLT,RZ,cb]
  (try unfold Be);(try dsimp only)
  try simp(disch:=first|omega|assumption) only[Nat.reduceAdd,Nat.reduceLT,RZ]
  exact p.rr
 ·rintro r i u h' n' B ⟨k,l,p⟩ next;have F:((i:Nat):Int)<((cY xs.length:Nat):Int):=jO;rw[sS];try simp(disch:=first|omega|assumption) only[Nat.reduceAdd,Nat.reduceLT,RZ,F]
  refine aJ aE (TZ lf d n' h' _ xs (o.ar k l) A i B) k (fun _ _ h=>h.elim) fun G I x e j z=> ?_;obtain⟨g,rfl,D⟩:=z;have f:=(p.ar e fun b m _=>j b m id).up e;try simp(disch:=first|omega|assumption) only[Nat.reduceAdd,Nat.reduceLT,RZ,dq,ext1]
  refine LR trivial jD f D (ag _) (by simp;omega) (ag _) jO _ fun v2 E w y _=> ?_;try simp(disch:=first|omega|assumption) only[Nat.reduceAdd,Nat.reduceLT,RZ]
  refine next v2 E (x+2) ⟨jO,fun b m=> ?_, ?_⟩
  ·rw[y b jO fun q=>by have:=(f.lt q).1;omega,j b jO id];exact l b m
  ·rw[uf,gZ];exact w.up jO
theorem ad4(v u:Value)(g:List Int)(T:List (List Int))(J:Row h n 3 .i64 v g)(s:RR h n 141 3 u T)(F:g.length<=1000000)(I:T.length<=1000)(m:∀t∈T,t.length<=1000000∧dk 0 1099511627776 t=true∧dA t.length g=true):
 aa (fun _=>False) n (ah ad gt lf (d+7) 215 #[v,u]) h n fun w h' n'=>w=jI (xP g T:Int)∧h'=h∧n'=n:=by
 rw[aF (fun _=>Rb) rfl];refine aa.aD ?_;unfold Bv;have p:=s;obtain⟨a,c,rfl⟩:=s.len;try simp(disch:=first|omega|assumption) only[Nat.reduceAdd,Nat.reduceLT,RZ]
 refine dP T.length (fun r i (q:Nat×Int)=>qU lf (ah ad gt lf (d+6)) r (Bu lf (ah ad gt lf (d+6))) _ _ _ (jI (q.1:Nat)) (jI q.2) _ (jI (T.length:Nat)) (jI (i:Nat))) (fun i q h' n'=>(h'=h∧n'=n)∧xP g T=tG g (T.drop i) i q.1 q.2) ?_ ?_ lf 0 (0,1099511627776) h n (cL _) jO ⟨⟨rfl,rfl⟩,rfl⟩
 ·rintro r q h' n' ⟨⟨rfl,rfl⟩,e⟩;rw[qU];try simp(disch:=first|omega|assumption) only[Nat.reduceAdd,Nat.reduceLT,RZ,cb]
  (try unfold Bu);(try dsimp only)
  try simp(disch:=first|omega|assumption) only[Nat.reduceAdd,Nat.reduceLT,RZ]
  rw[qc]at e;rw[e];all_goals (first|trivial|rfl|exact⟨rfl,rfl,rfl⟩|exact⟨rfl,rfl⟩)
 ·rintro r i q h' n' f ⟨⟨rfl,rfl⟩,e⟩ next;obtain⟨b,y,cap,o,N,D,G,L,l⟩:=p.at jO;cases D;obtain⟨x,C,k⟩:=l i f;have K:((i:Nat):Int)<((T.length:Nat):Int):=jO;rw[lh [] f]at e;have E:T.getD i []∈T:=by rw[au,aC f];exact cu f
  obtain⟨B,A,z⟩:=m _ E;rw[qU];try simp(disch:=first|omega|assumption) only[Nat.reduceAdd,Nat.reduceLT,RZ,K,G,C]
  refine bU (TY lf d _ h' bB v x g _ J k F B) (ag _) (fun _ _ h=>h.elim) ?_;rw[if_pos ⟨A,z⟩];unfold tG at e;by_cases j:jM g (T.getD i [])<q.2
  ·rw[if_pos j]at e;try simp(disch:=first|omega|assumption) only[Nat.reduceAdd,Nat.reduceLT,RZ,dq,ext1,j]
   exact next (i,jM g (T.getD i [])) _ _ ⟨⟨rfl,rfl⟩,e⟩
  ·rw[if_neg j]at e;try simp(disch:=first|omega|assumption) only[Nat.reduceAdd,Nat.reduceLT,RZ,dq,ext1,j]
   exact next q _ _ ⟨⟨rfl,rfl⟩,e⟩
end
section
variable (lf d n:Nat) (h:H) (bB:3000000<=lf)
include bB
end
theorem HV{a:Type}(d:a)(f:Nat->a){N i:Nat}(h:i<N):((aV N).map f).getD i d=f i:=by rw[au,fw,ua h];rfl
def kv(a:List Int)(z:Int)(p v:Nat):List Int:=(aV a.length).map fun u=>if u<v then(if ku a z u=p then 0 else 15)else 0
theorem Cx(a:List Int)(z:Int)(p v:Nat):(kv a z p v).length=a.length:=by unfold kv;simp
theorem ad5(a:List Int)(z:Int)(p:Nat):kv a z p 0=bI a.length 0:=by
 apply mr
 ·simp[Cx]
 ·intro i c b;simp[kv]
theorem ad6(a:List Int)(z:Int)(p:Nat):kv a z p a.length=tH a z p:=by unfold kv tH;apply ni;intro u b;rw[if_pos (List.mem_range.1 b)]
theorem ad7{a:List Int}{z:Int}{p v:Nat}(b:ku a z v=p):kv a z p (v+1)=kv a z p v:=by
 unfold kv;apply ni;intro u e;by_cases c:u<v
 ·rw[if_pos c,if_pos (show u<v+1 by omega)]
 ·by_cases d:u=v
  ·subst d;rw[if_pos (show u<u+1 by omega),if_pos b,if_neg (ub u)]
  ·rw[if_neg c,if_neg (show¬u<v+1 by omega)]
theorem ad8{a:List Int}{z:Int}{p v:Nat}(e:v<a.length)(d:ku a z v≠p):(kv a z p v).set v 15=kv a z p (v+1):=by
 apply mr
 ·simp[Cx]
 ·intro i g f;rw[Da];simp only[kv,vS,List.getElem_range];by_cases c:v=i
  ·subst c;rw[if_pos rfl,if_pos (show v<v+1 by omega),if_neg d]
  ·rw[if_neg c];by_cases b:i<v
   ·rw[if_pos b,if_pos (show i<v+1 by omega)]
   ·rw[if_neg b,if_neg (show¬i<v+1 by omega)]
section
variable (lf d n:Nat) (h:H) (bB:3000000<=lf)
include bB
theorem ad9(v:Value)(xs:List Int)(z:Int)(g:Gd h n)(hR:Row h n 3 .i64 v xs)(hl:xs.length<=258)(O:∀x∈xs,0<=x∧x<=1099511627776)(hz:1<=z)(u1:z<=1099511627776):
 aa (fun _=>False) n (ah ad gt lf (d+2) 190 #[v,jI z]) h n fun v' h' n'=>RR h' n' 141 3 v' (tI xs z):=by
 rw[aF (fun _=>Qz) rfl];refine aa.aD ?_;unfold Bh;have X:=hR;obtain⟨a,c,rfl⟩:=hR.len;refine bU (ad2 lf d n h z g jO) (ag _) (fun _ _ h=>h.elim) ?_;have ht:=HO z;obtain⟨t,A⟩:∃t,jQ z=t:=⟨_,rfl⟩;rw[A]at ht⊢;refine Ev.run_make trivial t t _ (ag _) jO ?_;try simp(disch:=first|omega|assumption) only[Nat.reduceAdd,Nat.reduceLT,RZ]
 let k:Nat->Value:=fun j=> .slice (some ⟨n+1+j,0,none⟩) xs.length xs.length
 refine dP t (fun I i (_:Unit)=>sT lf (ah ad gt lf (d+1)) I (wZ lf (ah ad gt lf (d+1))) (.slice a xs.length c) (jI z) (.slice none 0 0) (jI (t:Nat)) (.slice (some ⟨n,0,none⟩) t t) (jI (t:Nat)) (jI (i:Nat)))
  (fun i _ h' n'=>n'=n+1+i∧(∀b,b<n->h'.get b=h.get b)∧h'.get n=some ⟨141,true,rc k (.slice none 0 0) t i⟩∧∀j,j<i->h'.get (n+1+j)=some ⟨3,true,aR .i64 (bI xs.length 0)⟩) ?_ ?_ lf 0 () _ _ (cL _) jO ⟨rfl,fun b L=>ak _ _ jO,by rw[get_eq,LM],fun j E=>absurd E (jr j)⟩
 ·rintro I _ h' n' ⟨rfl,K,G,E⟩;rw[sT];try simp(disch:=first|omega|assumption) only[Nat.reduceAdd,Nat.reduceLT,RZ,cb]
  (try unfold wZ);(try dsimp only)
  try simp(disch:=first|omega|assumption) only[Nat.reduceAdd,Nat.reduceLT,RZ]
  rw[LN]at G
  refine dP xs.length (fun I i (q:Int)=>qS lf (ah ad gt lf (d+1)) I (wY lf (ah ad gt lf (d+1))) (.slice a xs.length c) (jI z) (.slice none 0 0) (jI (t:Nat)) (.slice (some ⟨n,0,none⟩) t t) (jI q) _ _ _ (.slice a xs.length c) (jI (xs.length:Nat)) (jI (i:Nat)))
   (fun i q h' n'=>q=gG xs z i∧n'=n+1+t∧(∀b,b<n->h'.get b=h.get b)∧h'.get n=some ⟨141,true,(aV t).map k⟩∧∀j,j<t->h'.get (n+1+j)=some ⟨3,true,aR .i64 (kv xs z j i)⟩) ?_ ?_ lf 0 0 _ _ (cL _) jO ⟨by unfold gG;simp only[ru,bu];rw[if_neg jO],rfl,K,G,fun j l=>by rw[ad5];exact E j l⟩
  ·rintro I q h' n' ⟨rfl,rfl,K,G,E⟩;rw[qS];try simp(disch:=first|omega|assumption) only[Nat.reduceAdd,Nat.reduceLT,RZ,cb]
   (try unfold wY);(try unfold u);(try dsimp only)
   try simp(disch:=first|omega|assumption) only[Nat.reduceAdd,Nat.reduceLT,RZ]
   have P:((aV t).map k).length=t:=jS;refine⟨(aV t).map k,.inr ⟨n,0,t,true,_,by rw[P],G,jO,by rw[P];omega,by rw[dj,fi],by rw[P];exact ag _⟩,by rw[P,HP,A],fun j D=> ?_⟩;rw[HP,A]at D;unfold tI;rw[A,HV _ _ D,HV _ _ D,<-ad6];exact Row.Cr (E j D) jO (Cx _ _ _ _)
  ·rintro I i q h' n' F ⟨rfl,rfl,K,G,E⟩ next;obtain⟨b,Q,cap,o,cs,hv,U,L,_,_,_,W⟩:=(X.ar (ag n) K).some jO;cases hv;have u2:b<n+1+t:=jO;have e1:((i:Nat):Int)<((xs.length:Nat):Int):=jO;have c1:=W i F;obtain⟨g0,g1⟩:=TR (fun x y=>(O x y).1) hz (v:=i);have Y:=adB (fun x y=>(O x y).1) hz i;rw[A]at Y;have g4:0<=gG xs z i*(t:Int):=ahM g0 jO;have g5:gG xs z i*(t:Int)<=1099511627776*6:=Int.mul_le_mul jO jO jO jO;have w1:IntKind.i64.wrap (gG xs z i*(t:Int))=gG xs z i*(t:Int):=aO jO jO
   have g6:(ku xs z i:Int)<=1099511627776*6:=by
    have:=Int.ediv_le_self z g4;have h2:(gG xs z i*(t:Int))/z=(ku xs z i:Int):=by rw[<-Y,ahH g4]
    omega
   have w2:IntKind.i64.wrap (ku xs z i:Int)=(ku xs z i:Int):=aO jO jO;have z0:z≠0:=jO;have xb:=O _ (Cp F);have w3:IntKind.i64.wrap (gG xs z i+xs.getD i 0)=gG xs z i+xs.getD i 0:=aO jO jO;have w4:IntKind.i64.wrap (z-1)=z-1:=aO jO jO;have bn:=adA (fun x y=>(O x y).1) (n:=z) F;rw[qS];try simp(disch:=first|omega|assumption) only[Nat.reduceAdd,Nat.reduceLT,RZ,e1,U,c1,w1,z0,Y,w2]
   refine dP t (fun Z p (_:Unit)=>qR lf (ah ad gt lf (d+1)) Z (Qv lf (ah ad gt lf (d+1)) I (wY lf (ah ad gt lf (d+1)))) (.slice (some ⟨b,Q,none⟩) xs.length c) (jI z) (.slice none 0 0) (jI (t:Nat)) (.slice (some ⟨n,0,none⟩) t t) (jI (gG xs z i)) (jI (i:Nat)) (jI (xs.getD i 0)) (jI (ku xs z i:Nat)) _ _ _ _ _ (jI (i:Nat)) _ (jI (t:Nat)) (jI (p:Nat)))
    (fun p _ h' n'=>n'=n+1+t∧(∀b,b<n->h'.get b=h.get b)∧h'.get n=some ⟨141,true,(aV t).map k⟩∧∀j,j<t->h'.get (n+1+j)=some ⟨3,true,aR .i64 (kv xs z j (if j<p then i+1 else i))⟩) ?_ ?_ lf 0 () _ _ (cL _) jO ⟨rfl,K,G,fun j l=>by rw[if_neg (jr j)];exact E j l⟩
   ·rintro Z _ h2 n2 ⟨rfl,C,s,l⟩;rw[qR];try simp(disch:=first|omega|assumption) only[Nat.reduceAdd,Nat.reduceLT,RZ,cb]
    (try unfold Qv);(try unfold Bg);(try dsimp only)
    try simp(disch:=first|omega|assumption) only[Nat.reduceAdd,Nat.reduceLT,RZ,w3,w4,bn]
    exact next _ _ _ ⟨rfl,rfl,C,s,fun j r=>by have:=l j r;rwa[if_pos r]at this⟩
   ·rintro Z p _ h2 n2 hp ⟨rfl,C,s,l⟩ w;have N:((p:Nat):Int)<((t:Nat):Int):=jO;have J:=l p hp;rw[if_neg (ub p)]at J;rw[qR];by_cases m:ku xs z i=p
    ·have R:((p:Int) !=(ku xs z i:Int))=false:=by rw[m];simp
     try simp(disch:=first|omega|assumption) only[Nat.reduceAdd,Nat.reduceLT,RZ,N,R]
     refine w () _ _ ⟨rfl,C,s,fun j r=> ?_⟩;by_cases q:j=p
     ·subst q;rw[if_pos jO,ad7 m];exact J
     ·have:=l j r;by_cases q2:j<p
      ·rw[if_pos q2]at this;rw[if_pos jO];exact this
      ·rw[if_neg q2]at this;rw[if_neg jO];exact this
    ·have R:((p:Int) !=(ku xs z i:Int))=true:=bne_iff_ne.2 fun e=>m jO;have c2:((aV t).map k)[p]? =some (k p):=by rw[fw,ua hp];rfl
     have B:k p= .slice (some ⟨n+1+p,0,none⟩) xs.length xs.length:=rfl;have u0:n+1+p<n+1+t:=jO;have T:n<n+1+t:=jO;try simp(disch:=first|omega|assumption) only[Nat.reduceAdd,Nat.reduceLT,RZ,N,R,s,c2,B,e1,J,HS,ad8 F m,cO,Cx]
     refine⟨F,.inl jO, ?_⟩;refine w () _ _ ⟨rfl,fun b L=>by rw[ak _ _ jO];exact C b L,by rw[ak _ _ jO];exact s,fun j r=> ?_⟩;by_cases q:j=p
     ·subst q;rw[if_pos jO,get_eq]
     ·rw[ak _ _ jO];have:=l j r;by_cases q2:j<p
      ·rw[if_pos q2]at this;rw[if_pos jO];exact this
      ·rw[if_neg q2]at this;rw[if_neg jO];exact this
 ·rintro I i _ h' n' F ⟨rfl,K,G,E⟩ next;have N:((i:Nat):Int)<((t:Nat):Int):=jO;rw[sT];try simp(disch:=first|omega|assumption) only[Nat.reduceAdd,Nat.reduceLT,RZ,N]
  refine Ev.run_make trivial xs.length xs.length _ (ag _) jO ?_;have s:(h'.set (n+1+i) (some ⟨3,true,bI xs.length (jI 0)⟩)).get n=some ⟨141,true,rc k (.slice none 0 0) t i⟩:=by rw[ak _ _ jO];exact G
  have T:n<n+1+i+1:=jO;have rs:=LP (f:=k) (z:= .slice none 0 0) F;have B:k i= .slice (some ⟨n+1+i,0,none⟩) xs.length xs.length:=rfl;rw[B]at rs;try simp(disch:=first|omega|assumption) only[Nat.reduceAdd,Nat.reduceLT,RZ,N,s,rs,E8]
  refine⟨F,.inl jO, ?_⟩;refine next () _ _ ⟨jO,fun b L=>by rw[ak _ _ jO,ak _ _ jO];exact K b L,get_eq _ _ _,fun j r=> ?_⟩;rw[ak _ _ jO];by_cases q:j=i
  ·subst q;rw[get_eq,Cq]
  ·rw[ak _ _ jO];exact E j jO
end
end Go.Proofs.YtcehhgppfahbkaaGreatDoor
namespace Go.Proofs.YtcehhgppfahbkaaGreatDoor
open Go.RowKit Ev Hu
inductive iS:Nat->List Int->List Int->Prop
 |stop (w:List Int) (hW:Ws w) (so:ix w (mS w)) (h:lj (jJ w) 0<=20):iS 0 w (jJ w)
 |next {k:Nat} {w l:List Int} (hW:Ws w) (so:ix w (mS w)) (h:¬lj (jJ w) 0<=20) (r:iS k (jg w) l):iS (k+1) w l
theorem iS.out{k:Nat}{w l:List Int}(r:iS k w l):∃w',Ws w'∧ix w' (mS w')∧lj (jJ w') 0<=20∧l=jJ w'∧w'.length=w.length:=by
 induction r with
 |stop w hW a h=>exact⟨w,hW,a,h,rfl,rfl⟩
 |next hW a h r b=>obtain⟨w',g,f,e,d,c⟩:=b;exact⟨w',g,f,e,d,by rw[c,nW]⟩
structure Wb (ws:List Int) (c:Int):Prop where
 l2:2<=ws.length
 l3:ws.length<=258
 lo:∀x∈ws,1<=x
 hi:∀x∈ws,x<=c
theorem Wb.ws{ws:List Int}{c:Int}(h:Wb ws c)(b:c<=2199023255552):Ws ws:=⟨h.l2,h.l3,fun x a=>by have:=h.lo x a;omega,fun x a=>by have:=h.hi x a;omega⟩
theorem Wb.Uj{ws:List Int}{c:Int}(h:Wb ws c)(e:c<=2199023255552):Wb (jg ws) (c/2+1):=by
 refine⟨by rw[nW];exact h.l2,by rw[nW];exact h.l3,fun x a=> ?_,fun x a=> ?_⟩
 all_goals
  unfold jg at a;rw[De]at a;obtain⟨y,b,rfl⟩:=a;have g:=h.lo y b;have f:=h.hi y b;have d:=Tc y jO;have:=d.2.2 jO;omega
def cap(k:Nat):Int:=2^k+2
theorem Uk(k:Nat):cap (k+1)/2+1<=cap k:=by unfold cap;rw[Int.pow_succ];omega
theorem Cy{k:Nat}(h:k<=40):cap k<=2199023255552:=by unfold cap;have a:(2:Nat)^k<=2^40:=kD jO h;have e:((2:Int)^k)=(((2:Nat)^k:Nat):Int):=jS;rw[e];generalize (2:Nat)^k=z at a;omega
theorem Wb.short{ws:List Int}(h:Wb ws 3)(e:ix ws (mS ws)):lj (jJ ws) 0<=20:=by
 obtain⟨w,I,A,B,X,R,dep,D⟩:=(h.ws jO).Ta e;have g:=h.l2;have f:=h.l3;have c:=D.m.root
 have b:bu ((aV ws.length).map w)<=((aV ws.length).map w).length*3:=Hn 3 _ (fun x d=>by
  rw[De]at d;obtain⟨i,a,rfl⟩:=d;have a:=List.mem_range.1 a;rw[D.ww i a]
  exact h.hi _ (Td a))
 rw[eR,kC]at b;rw[Hg];refine⟨jO, ?_⟩;unfold jJ;rw[D.mem];intro i a;have:=D.m.short D.d0 D.d1 a (by rw[D.ww i a];exact h.lo _ (Td a)) jO;omega
theorem ofB(lf d:Nat)(g:3000000<=lf)(hd:300<=d)(x0 x2 J I G F E:Value){W:Nat->Prop}{n0:Nat}:
 ∀(m i:Nat) (w:List Int) (h:H) (n:Nat) (x4:Value),m<i->m<=40->Wb w (cap m)->n0<=n->Row h n 3 .i64 x4 w->
  aa W n0 (s8 lf (ah ad gt lf d) i (xe lf (ah ad gt lf d)) x0 x2 (jI 0) x4 J I G F E) h n fun Z h' n'=>∃k l r,Z= .tuple #[k,jI 0]∧iS r w l∧r<=m∧Row h' n' 3 .i64 k l:=by
 intro m
 induction m with
 |zero=>
  intro i w h n x4 U Q v P D;obtain⟨i,rfl⟩:∃f,i=f+1:=⟨i-1,jO⟩;obtain⟨e,rfl⟩:∃e,d=e+1:=⟨d-1,jO⟩;rw[s8];have hW:=v.ws (Cy Q);refine aJ aE (S' lf (e+1) n h x4 w D hW g hd) P (fun _ _ h=>h.elim) fun k q p A C O=> ?_;obtain⟨t,c,_⟩:=O;have T:=hW.l2;have R:=hW.l3;have dl:=Ho (ws:=w) jO;refine bU (SK lf e p q k _ c jO g) jO (fun _ _ h=>h.elim) ?_;have o:=Wb.short v t;try simp(disch:=first|omega|assumption) only[Nat.reduceAdd,Nat.reduceLT,RZ,o]
  refine aJ aE (vl lf e p q k _ c jO jO) jO (fun _ _ h=>h.elim) fun s Y K z B u=> ?_
  (try unfold xe);(try unfold a);(try dsimp only)
  rw[uJ];exact⟨s,_,0,rfl,.stop w hW t o,ag _,u.2.1⟩
 |succ m ih=>
  intro i w h n x4 U Q v P D;obtain⟨i,rfl⟩:∃f,i=f+1:=⟨i-1,jO⟩;obtain⟨e,rfl⟩:∃e,d=e+1:=⟨d-1,jO⟩;rw[s8];have hc:=Cy Q;have hW:=v.ws hc;refine aJ aE (S' lf (e+1) n h x4 w D hW g hd) P (fun _ _ h=>h.elim) fun k q p A C O=> ?_;obtain⟨t,c,_⟩:=O;have T:=hW.l2;have R:=hW.l3;have dl:=Ho (ws:=w) jO;refine bU (SK lf e p q k _ c jO g) jO (fun _ _ h=>h.elim) ?_;by_cases o:lj (jJ w) 0<=20
  ·try simp(disch:=first|omega|assumption) only[Nat.reduceAdd,Nat.reduceLT,RZ,o]
   refine aJ aE (vl lf e p q k _ c jO jO) jO (fun _ _ h=>h.elim) fun s Y K z B u=> ?_
   (try unfold xe);(try unfold a);(try dsimp only)
   rw[uJ];exact⟨s,_,0,rfl,.stop w hW t o,cL _,u.2.1⟩
  ·try simp(disch:=first|omega|assumption) only[Nat.reduceAdd,Nat.reduceLT,RZ,o]
   have X:=D.ar A (fun b hb=>C b hb id);refine aJ aE (acu lf e p q x4 w X jO (fun x L=>by have:=hW.hi x L;omega) g) jO (fun _ _ h=>h.elim) fun s Y K z B u=> ?_;have j:=v.Uj hc;have N:Wb (jg w) (cap m):=⟨j.l2,j.l3,j.lo,fun x L=>by have:=j.hi x L;have:=Uk m;omega⟩;refine(ih i (jg w) Y K s jO jO N jO u.1).mono ?_;rintro Z h' n' _ ⟨v4,l,r,rfl,hr,u0,y⟩;exact⟨v4,l,r+1,rfl,.next hW t o hr,jO,y⟩
def Cz(x:Int):Int:=if x<1 then 1 else x
def gY(xs:List Int):List Int:=xs.map Cz
theorem og(xs:List Int):(gY xs).length=xs.length:=by unfold gY;simp
theorem ad'{xs:List Int}{i:Nat}(h:i<xs.length):(gY xs).getD i 0=Cz (xs.getD i 0):=by unfold gY;rw[au,fw,aC h,au,aC h];rfl
theorem Ul{xs:List Int}(h2:2<=xs.length)(c:xs.length<=258)(h:∀x∈xs,0<=x∧x<=1099511627776):Wb (gY xs) (cap 40):=by
 refine⟨by rw[og];exact h2,by rw[og];exact c,fun x a=> ?_,fun x a=> ?_⟩
 all_goals
  unfold gY at a;rw[De]at a;obtain⟨y,b,rfl⟩:=a;have:=h y b;unfold Cz
 ·split<;>omega
 ·have:cap 40=1099511627778:=rfl;split<;>omega
theorem ofA (lf d n:Nat) (h:H) (v:Value) (xs:List Int) (y:Row h n 3 .i64 v xs) (O:xs.length<=1000000) (x x3 j:Value) (c:Nat) (I:xs.length<=c) {W:Nat->Prop} {n0:Nat} (q:n0<=n) {Q:Value->H->Nat->Prop} (k:(Value->Value->Value->Value->Value->Value->Value->Value->Value->M Value))
 (K:∀e p,Row e (n+1) 3 .i64 (.slice (some ⟨n,0,none⟩) xs.length c) (gY xs)->aa W n0 (k v x x3 (.slice (some ⟨n,0,none⟩) xs.length c) j v (jI (xs.length:Nat)) (jI (xs.length:Nat)) p) e (n+1) Q):
 ∀(m i a:Nat) (e:H),xs.length-i=m->m<a->i<=xs.length->(∀b,b<n->e.get b=h.get b)->e.get n=some ⟨3,true,ints (part (gY xs) i)⟩->
  aa W n0 (s7 lf (ah ad gt lf d) a k v x x3 (.slice (some ⟨n,0,none⟩) xs.length c) j v (jI (xs.length:Nat)) (jI (i:Nat))) e (n+1) Q:=by
 intro m
 induction m with
 |zero=>
  intro i a e E t F s g;obtain⟨a,rfl⟩:∃f,a=f+1:=⟨a-1,jO⟩;obtain rfl:i=xs.length:=jO;rw[s7];try simp(disch:=first|omega|assumption) only[Nat.reduceAdd,Nat.reduceLT,RZ,cb]
  rw[<-og xs,Hr]at g;refine K e _ (.inr ⟨n,0,c,true,_,by rw[og],g,dL n,by rw[jH];omega, ?_,by rw[og];exact I⟩);rw[dj,fZ (by rw[jH];exact ag _)];rfl
 |succ m D=>
  intro i a e E t F s g;obtain⟨a,rfl⟩:∃f,a=f+1:=⟨a-1,jO⟩;have w:Row e (n+1) 3 .i64 v xs:=y.ar (cI n) s;have r:=fun b l=>y.lt (b:=b) l;obtain⟨b,C,cap,o,P,rfl,G,l,_,_,_,u⟩:=w.some jO;have J:b<n:=r b ⟨_,_,_,rfl⟩;have L:((i:Nat):Int)<((xs.length:Nat):Int):=jO;have N:=u i jO;have z:((i:Nat):Int)+1=((i+1:Nat):Int):=jO;have B:(part (gY xs) i).length=xs.length:=by rw[Hp _ (by rw[og];omega),og]
  have A:(part (gY xs) i).set i (if xs.getD i 0<1 then 1 else xs.getD i 0)=part (gY xs) (i+1):=by show(part (gY xs) i).set i (Cz (xs.getD i 0))=_;rw[<-ad' jO,Hq (by rw[og];omega)]
  rw[s7];try simp(disch:=first|omega|assumption) only[Nat.reduceAdd,Nat.reduceLT,RZ,L,G,N,g,ints_set,jH,B,A]
  refine⟨jO,.inl q, ?_⟩;rw[z];exact D (i+1) a _ jO jO jO (fun b l=>by rw[ak _ _ jO];exact s b l) (get_eq _ _ _)
theorem ad_(lf d n:Nat)(h:H)(v:Value)(xs:List Int)(u:Row h n 3 .i64 v xs)(y:3<=xs.length)(m:xs.length<=258)(t:dk 0 1099511627776 xs=true)(g:3000000<=lf)(hd:400<=d):
 aa (fun _=>False) n (ah ad gt lf d 217 #[v]) h n fun x h' n'=>∃q l r,x= .tuple #[q,jI 0]∧iS r (gY xs) l∧r<=40∧Row h' n' 3 .i64 q l:=by
 obtain⟨d,rfl⟩:∃e,d=e+5:=⟨d-5,jO⟩;have k:=iu.1 t;rw[aF (fun _=>Rj) rfl];refine aa.aD ?_;unfold BA;have i:=u;obtain⟨a,c,rfl⟩:=u.len;have C:¬((xs.length:Nat):Int)<3:=jO;have B:¬(258:Int)<((xs.length:Nat):Int):=jO;try simp(disch:=first|omega|assumption) only[Nat.reduceAdd,Nat.reduceLT,RZ,C,B]
 refine vm (SJ lf d n h _ xs i 0 1099511627776 jO g) (ag _) fun A s f p=> ?_;have o:=i.ar f p;rw[t,wx,fY];try simp(disch:=first|omega|assumption) only[Nat.reduceAdd,Nat.reduceLT,RZ]
 refine Ev.run_make trivial xs.length xs.length _ (ag _) jO ?_;try simp(disch:=first|omega|assumption) only[Nat.reduceAdd,Nat.reduceLT,RZ]
 refine ofA lf (d+4) s A _ xs o jO _ _ _ xs.length (ag _) f _ (fun z w j=> ?_) xs.length 0 lf _ jO jO jO (fun b D=>ak _ _ jO) ?_
 ·(try unfold Bz);(try dsimp only)
  exact ofB lf (d+4) g jO _ _ _ _ _ _ _ 40 lf (gY xs) z (s+1) _ jO (ag _) (Ul jO m k) jO j
 ·rw[get_eq,Hs,og];unfold ints;rw[Dg]
theorem iS.whole{k:Nat}{w l:List Int}(r:iS k w l):l.length=w.length∧dk 1 20 l=true∧gD l=1048576:=by
 obtain⟨j,a,b,h,rfl,e⟩:=r.out;obtain⟨g,I,A,B,X,R,dep,D⟩:=a.Ta b;have d:=a.l2;rw[Hg]at h;refine⟨by rw[Ho jO,e],iu.2 fun x c=>⟨?_,h.2 x c⟩, ?_⟩
 ·revert x;unfold jJ;rw[D.mem];intro i f;have:=D.ge1 f;omega
 ·unfold jJ at h⊢;exact D.share h.2
abbrev RTr:=Int×Nat×Value
def tv(t:RTr):V3:=(jI t.1,jI (t.2.1:Nat),t.2.2)
end Go.Proofs.YtcehhgppfahbkaaGreatDoor
namespace Go.Proofs.YtcehhgppfahbkaaGreatDoor
open Ev Hu
section
variable {N:Nat} {w:Nat->Int} {I A B:Nat->Nat} {X R:Nat->List Nat} {dep:Nat->Nat}
end
end Go.Proofs.YtcehhgppfahbkaaGreatDoor
namespace Go.Proofs.YtcehhgppfahbkaaGreatDoor
open Go.RowKit Ev Hu
end Go.Proofs.YtcehhgppfahbkaaGreatDoor
namespace Go.Proofs.YtcehhgppfahbkaaGreatDoor
open Go.RowKit Ev Tb Hu
theorem iS.rC{r:Nat}{w l:List Int}(x:iS r w l):∀{b:Nat} {a:List Int},iS b w a->l=a:=by
 induction x with
 |stop w hW f c=>
  intro b a y;cases y with
  |stop=>rfl
  |next _ _ e _=>exact absurd c e
 |next hW f c h g=>
  intro b a y;cases y with
  |stop _ _ _ e=>exact absurd e c
  |next _ _ _ d=>exact g d
noncomputable def re (c:List Int):List Int:=aiB fun l=>∃r,iS r (gY c) l∧r<=40
theorem Un{c l:List Int}{r:Nat}(h:iS r (gY c) l)(a:r<=40):l=re c:=by obtain⟨d,b,_⟩:=aiC (p:=fun l=>∃r,iS r (gY c) l∧r<=40) ⟨l,r,h,a⟩;exact h.rC b
theorem CA(ws:List Int):ix ws (mS ws):=by
 have k:∃D,ix ws D:=by
  let le:Nat->Nat->Bool:=fun i j=>decide (aS ws i<aS ws j∨aS ws i=aS ws j∧i<=j);have g:=List.mergeSort_perm (aV ws.length) le;refine⟨(aV ws.length).mergeSort le,g, ?_⟩
  have f:=List.pairwise_mergeSort (le:=le) (fun a b c f e=>by
   simp only[le,decide_eq_true_eq]at f e⊢
   omega) (fun a b=>by
   simp only[le,Bool.or_eq_true,decide_eq_true_eq]
   omega) (aV ws.length)
  have e:((aV ws.length).mergeSort le).Pairwise (·≠·):=List.nodup_iff_pairwise_ne.1 (g.nodup_iff.2 List.nodup_range);refine(f.and e).imp fun{a b} d=> ?_;obtain⟨q1,q2⟩:=d;simp only[le,decide_eq_true_eq]at q1;unfold RI;omega
 obtain⟨D,h⟩:=k;rw[h.eq];exact h
theorem aea:∀(m:Nat) (w:List Int),m<=40->Wb w (cap m)->∃l r,iS r w l∧r<=m:=by
 intro m
 induction m with
 |zero=>intro w c b;exact⟨_,0,.stop w (b.ws (Cy c)) (CA w) (Wb.short b (CA w)),ag _⟩
 |succ m f=>
  intro w c b;have d:=Cy c;by_cases e:lj (jJ w) 0<=20
  ·exact⟨_,0,.stop w (b.ws d) (CA w) e,cL _⟩
  ·have a:=b.Uj d;obtain⟨l,r,h,i⟩:=f (jg w) jO ⟨a.l2,a.l3,a.lo,fun x g=>by have:=a.hi x g;have:=Uk m;omega⟩;exact⟨l,r+1,.next (b.ws d) (CA w) e h,jO⟩
theorem aeb{c:List Int}(g:3<=c.length)(b:c.length<=258)(f:dk 0 1099511627776 c=true):∃r,iS r (gY c) (re c)∧r<=40:=by obtain⟨l,r,d,a⟩:=aea 40 (gY c) (ag _) (Ul jO b (iu.1 f));have e:=Un d a;rw[e]at d;exact⟨r,d,a⟩
section
variable (lf d n:Nat) (h:H) (bB:3000000<=lf)
include bB
theorem aec(v:Value)(c:List Int)(k:Row h n 3 .i64 v c)(m:3<=c.length)(b:c.length<=258)(j:dk 0 1099511627776 c=true)(hd:400<=d):
 aa (fun _=>False) n (ah ad gt lf d 217 #[v]) h n fun g h' n'=>∃e,g= .tuple #[e,jI 0]∧Row h' n' 3 .i64 e (re c):=by
 refine(ad_ lf d n h v c k m b j bB hd).mono ?_;rintro g h' n' _ ⟨e,l,r,rfl,i,f,a⟩;rw[Un i f]at a;exact⟨e,rfl,a⟩
omit bB in
theorem Uo{c:List Int}(h:3<=c.length)(d:c.length<=258)(g:dk 0 1099511627776 c=true):(re c).length=c.length∧dk 1 20 (re c)=true∧gD (re c)=1048576:=by obtain⟨r,f,_⟩:=aeb h d g;obtain⟨a,b,e⟩:=f.whole;rw[og]at a;exact⟨a,b,e⟩
end
def GoodT(s:Nat)(T:List (List Int)):Prop:=∀t∈T,t.length=s∧∀y∈t,0<=y∧y<=20
def GoodG(s:Nat)(a:List (List Int)):Prop:=(∀g∈a,g.length<=50∧dA s g=true)∧a.length<=40000
noncomputable def pL (a T:List (List Int)) (s:Nat):List (List Int):=(aV T.length).map fun p=>re (ra a T s p)
def jn(a T:List (List Int)):List Int:=(jm a T).map fun(x:Nat)=>(x:Int)
theorem xW(a T:List (List Int)):(jm a T).length=a.length:=by unfold jm;simp
theorem xX(a T:List (List Int)):(jn a T).length=a.length:=by unfold jn;rw[eR,xW]
theorem CB(c T:List (List Int))(s p:Nat){a:List (List Int)}{d:List Nat}(e:GoodG s c)(h:∀g∈a,g∈c)(i:a.length<=c.length):dk 0 1099511627776 (dx (jN p a d) s)=true:=by refine iu.2 fun x f=> ?_;have k:=HL f;have j:=HN p a d fun g b=>(e.1 g (h g b)).1;have:=e.2;omega
theorem aed{s:Nat}{T:List (List Int)}{g:List Int}(f:GoodT s T)(h:s<=258)(e:dA s g=true):∀t∈T,t.length<=1000000∧dk 0 1099511627776 t=true∧dA t.length g=true:=fun t d=>by obtain⟨a,b⟩:=f t d;exact⟨jO,iu.2 fun y c=>by have:=b y c;omega,by rw[a];exact e⟩
theorem aee{d T:List (List Int)}{s:Nat}(i:GoodG s d)(k:3<=s)(f:s<=258):GoodT s (pL d T s):=by intro t e;unfold pL at e;obtain⟨p,_,rfl⟩:=De.1 e;have j:(ra d T s p).length=s:=jk _ _;obtain⟨a,b,_⟩:=Uo (c:=ra d T s p) jO jO (CB d T s p i (fun _ h=>h) (ag _));exact⟨jO,fun y g=>by have:=iu.1 b y g;omega⟩
theorem aef(a T:List (List Int))(s:Nat):(pL a T s).length=T.length:=by unfold pL;simp
section
variable (lf d n:Nat) (h:H) (bB:3000000<=lf)
include bB
set_option maxHeartbeats 1000000 in
theorem aeg(u v:Value)(k T:List (List Int))(s:Nat)(hG:RR h n 141 3 u k)(hT:RR h n 141 3 v T)(hg:GoodG s k)(ht:GoodT s T)(h0:0<T.length)(h6:T.length<=6)(h3:3<=s)(R:s<=258)(hd:500<=d):
 aa (fun _=>False) n (ah ad gt lf d 191 #[u,v,jI (s:Int)]) h n fun v' h' n'=>∃x y,v'= .tuple #[x,y]∧Row h' n' 3 .i64 x (jn k T)∧RR h' n' 141 3 y (pL k T s):=by
 obtain⟨d,rfl⟩:∃e,d=e+8:=⟨d-8,jO⟩;rw[aF (fun _=>QG) rfl];refine aa.aD ?_;unfold Bj;have x1:=hG;have w9:=hT;obtain⟨a,c,rfl⟩:=hT.len;obtain⟨a2,c2,rfl⟩:=hG.len;obtain⟨t,u5⟩:∃t,T.length=t:=⟨_,rfl⟩;rw[u5]at h0 h6 w9⊢;try simp(disch:=first|omega|assumption) only[Nat.reduceAdd,Nat.reduceLT,RZ]
 refine Ev.run_make trivial t t _ (ag _) jO ?_;try simp(disch:=first|omega|assumption) only[Nat.reduceAdd,Nat.reduceLT,RZ]
 let K:Nat->Value:=fun j=> .slice (some ⟨n+1+j,0,none⟩) s s
 refine dP t (fun W i (_:Unit)=>sU lf (ah ad gt lf (d+7)) W (xc lf (ah ad gt lf (d+7))) (.slice a2 k.length c2) (.slice a t c) (jI (s:Nat)) (.slice none 0 0) (.slice none 0 0) (.slice none 0 0) (.slice (some ⟨n,0,none⟩) t t) (jI (t:Nat)) (jI (i:Nat)))
  (fun i _ h' n'=>n'=n+1+i∧(∀b,b<n->h'.get b=h.get b)∧h'.get n=some ⟨141,true,rc K (.slice none 0 0) t i⟩∧∀j,j<i->h'.get (n+1+j)=some ⟨3,true,aR .i64 (bI s 0)⟩) ?_ ?_ lf 0 () _ _ (cL _) jO ⟨rfl,fun b hb=>ak _ _ jO,by rw[get_eq,LM],fun j L=>absurd L (jr j)⟩
 ·rintro W _ h' n' ⟨rfl,Y,w3,L⟩;rw[sU];try simp(disch:=first|omega|assumption) only[Nat.reduceAdd,Nat.reduceLT,RZ,cb]
  (try unfold xc);(try dsimp only)
  try simp(disch:=first|omega|assumption) only[Nat.reduceAdd,Nat.reduceLT,RZ]
  rw[LN]at w3;have z0:=hg.2
  refine dP k.length (fun W i (q:Value)=>sV lf (ah ad gt lf (d+7)) W (xa lf (ah ad gt lf (d+7))) (.slice a2 k.length c2) (.slice a t c) (jI (s:Nat)) (.slice none 0 0) (.slice none 0 0) q (.slice (some ⟨n,0,none⟩) t t) _ _ _ (.slice a2 k.length c2) (jI (k.length:Nat)) (jI (i:Nat)))
   (fun i q h' n'=>n<n'∧(∀b,b<n->h'.get b=h.get b)∧Own h' (n+1) n' 3 q (aR .i64 ((jn k T).take i))∧∃A:List Value,h'.get n=some ⟨141,true,A⟩∧A.length=t∧∀p,p<t->Row h' n' 3 .i64 (A.getD p undef) (dx (jN p (k.take i) ((jm k T).take i)) s)∧(∀b,aq (A.getD p undef) b->¬aq q b)) ?_ ?_ lf 0 _ _ _ (cL _) jO ⟨jO,Y,Own.nil _ _ _ _,_,w3,jS,fun p X=>⟨?_,fun b _ q=>q.not_nil⟩⟩
  ·rintro W q h' n' ⟨hn,Y,hO,A,v5,w5,C⟩;rw[sV];try simp(disch:=first|omega|assumption) only[Nat.reduceAdd,Nat.reduceLT,RZ,cb]
   (try unfold xa);(try unfold J);(try dsimp only)
   try simp(disch:=first|omega|assumption) only[Nat.reduceAdd,Nat.reduceLT,RZ]
   rw[fZ (by rw[xX];exact ag _)]at hO
   have u7:∀p,p<t->Row h' n' 3 .i64 (A.getD p undef) (ra k T s p):=fun p X=>by have:=(C p X).1;rw[fi,fZ (by rw[xW];exact ag _)]at this;exact this
   have hx:=hO.row
   refine dP t (fun W i (w:Value)=>sW lf (ah ad gt lf (d+7)) W (Bi lf (ah ad gt lf (d+7))) (.slice a2 k.length c2) (.slice a t c) (jI (s:Nat)) (.slice none 0 0) (.slice none 0 0) q (.slice (some ⟨n,0,none⟩) t t) w _ _ _ _ _ _ _ (.slice (some ⟨n,0,none⟩) t t) (jI (t:Nat)) (jI (i:Nat)))
    (fun i w U n2=>n'<=n2∧(∀b,b<n'->U.get b=h'.get b)∧gB U n' n2 n2 141 3 w ((aV i).map fun p=>re (ra k T s p))) ?_ ?_ lf 0 _ _ _ (cL _) jO ⟨ag _,fun _ _=>rfl,gB.nil _ _ _ _ _ _⟩
   ·rintro W w U n2 ⟨u9,D,E⟩;rw[sW];try simp(disch:=first|omega|assumption) only[Nat.reduceAdd,Nat.reduceLT,RZ,cb]
    (try unfold Bi);(try unfold I);(try dsimp only)
    try simp(disch:=first|omega|assumption) only[Nat.reduceAdd,Nat.reduceLT,RZ]
    refine⟨_,_,rfl,hx.ar u9 D, ?_⟩;have:=E.rr;unfold pL;rw[u5];exact this
   ·rintro W i w U n2 F ⟨u9,D,E⟩ next;have e1:((i:Nat):Int)<((t:Nat):Int):=jO;have w4:U.get n=some ⟨141,true,A⟩:=(D n jO).trans v5;have cx:A[i]? =some (A.getD i undef):=by rw[au,aC jO];rfl
    have v8:n<n2:=jO;have x6:=(u7 i F).ar u9 D;rw[sW];try simp(disch:=first|omega|assumption) only[Nat.reduceAdd,Nat.reduceLT,RZ,e1,w4,cx]
    refine aJ aE (aec lf (d+7) n2 U bB _ _ x6 (by show 3<=(dx _ _).length;rw[jk];exact h3) (by show(dx _ _).length<=258;rw[jk];exact R) (CB k T s i hg (fun _ h=>h) (ag _)) jO) jO (fun _ _ h=>h.elim) fun v1 h4 n4 O G hq=> ?_;obtain⟨l,rfl,hl⟩:=hq;have x0:=(E.ar O fun b hb _=>G b hb id).up O;try simp(disch:=first|omega|assumption) only[Nat.reduceAdd,Nat.reduceLT,RZ,dq,ext1]
    refine LR trivial jD x0 hl (ag _) (by simp;omega) jO jO _ fun v2 h5 o5 k5 _=> ?_;try simp(disch:=first|omega|assumption) only[Nat.reduceAdd,Nat.reduceLT,RZ]
    refine next v2 h5 (n4+2) ⟨jO,fun b hb=> ?_, ?_⟩
    ·rw[k5 b jO fun q=>by have:=(x0.lt q).1;omega,G b jO id];exact D b hb
    ·rw[uf,gZ];exact o5.up jO
  ·rintro W i q h' n' F ⟨hn,Y,hO,A,v5,w5,C⟩ next;have e1:((i:Nat):Int)<((k.length:Nat):Int):=jO;obtain⟨b,y7,cap,o,ks,hv,v0,hb,y1⟩:=(x1.ar (ahJ hn) Y).at jO;cases hv;obtain⟨x,hx,u6⟩:=y1 i F;have y2:=w9.ar (ahJ hn) Y;have gm:k.getD i []∈k:=by rw[au,aC F];exact cu F
   obtain⟨g1,g2⟩:=hg.1 _ gm;have pl:=TP (k.getD i []) (T:=T) jO;obtain⟨p,X⟩:∃p,xP (k.getD i []) T=p:=⟨_,rfl⟩;rw[X,u5]at pl;rw[sV];try simp(disch:=first|omega|assumption) only[Nat.reduceAdd,Nat.reduceLT,RZ,e1,v0,hx]
   refine bU (ad4 lf d n' h' bB x _ _ T u6 y2 jO jO (aed ht R g2)) jO (fun _ _ h=>h.elim) ?_;rw[X];refine nJ trivial (l4 _ _) hO (by rw[cO,ed,xX];omega) jO _ fun U Z D=> ?_
   have pn:aR .i64 ((jn k T).take i)++[jI (p:Int)]=aR .i64 ((jn k T).take (i+1)):=by
    have:(jn k T).take (i+1)=(jn k T).take i++[(p:Int)]:=by rw[jV (by rw[xX];exact F)];congr 2;unfold jn jm;simp only[vS];rw[<-X,au,aC F];rfl
    rw[this];unfold aR;rw[gZ];rfl
   rw[pn]at Z
   have x3:(jm k T).take (i+1)=(jm k T).take i++[p]:=by rw[jV (by rw[xW];exact F)];congr 2;unfold jm;simp only[vS];rw[<-X,au,aC F];rfl
   have y3:k.take (i+1)=k.take i++[k.getD i []]:=by rw[jV F,au,aC F];rfl
   have ll:(aR .i64 ((jn k T).take i)).length=i:=by rw[cO,ed,xX];omega
   rw[ll];have u1:∀b,b<n+1->U.get b=h'.get b:=fun b hb=>D b jO fun q=>by have:=(hO.lt q).1;omega
   have E:Own U (n+1) (n'+2) 3 (.slice (some ⟨n'+1,0,none⟩) (i+1) (aL+(i+1))) (aR .i64 ((jn k T).take (i+1))):=Own.mk' Z jO jO (by rw[cO,ed,xX];omega)
   have v9:Row U (n'+2) 3 .i64 x (k.getD i []):=u6.fz jO fun c r=>D c (u6.lt r) fun q=>by obtain⟨q1,q2⟩:=hO.lt q;have:=(x1.ar (ag n) (fun _ _=>rfl));obtain⟨b',y4,y5,o',y8,x5,w2,y0,w7⟩:=this.at jO;cases x5;obtain⟨x',x4,w0⟩:=w7 i F;rw[Y b y0,w2]at v0;cases v0;rw[x4]at hx;cases hx;have:=w0.lt r;omega
   try simp(disch:=first|omega|assumption) only[Nat.reduceAdd,Nat.reduceLT,RZ]
   refine aJ aE (HU lf (d+6) (n'+2) U bB x _ v9 jO s h3 R) jO (fun _ _ h=>h.elim) fun v3 v6 n3 w1 u0 x8=> ?_;rcases x8 with ⟨_,m,rfl,hm⟩|⟨u3,_⟩
   rotate_left
   ·rw[g2]at u3;cases u3
   have e2:((p:Nat):Int)<((t:Nat):Int):=jO;have u2:v6.get n=some ⟨141,true,A⟩:=by rw[u0 n jO id,u1 n jO];exact v5
   have cx:A[p]? =some (A.getD p undef):=by rw[au,aC jO];rfl
   have v8:n<n3:=jO
   have N:∀j,j<t->Row v6 n3 3 .i64 (A.getD j undef) (dx (jN j (k.take i) ((jm k T).take i)) s):=fun j L=>((C j L).1.fz (show n'<=n'+2 by omega) fun c r=>D c ((C j L).1.lt r) ((C j L).2 c r)).ar w1 fun c r=>u0 c r id
   try simp(disch:=first|omega|assumption) only[Nat.reduceAdd,Nat.reduceLT,RZ,dq,ext1,e2,u2,cx]
   refine aJ aE (adJ lf (d+1) n3 v6 bB _ _ _ _ (N p pl) hm (by rw[jk];omega) (by rw[jk,jk]) (CB k T s p hg (fun g Q=>lG Q) (by rw[ed];omega)) (iu.2 fun y hy=>by have:=HL hy;omega)) jO (fun _ _ h=>h.elim) fun v4 h4 n4 O G x7=> ?_;obtain⟨z,rfl,hz,x9⟩:=x7;have P:h4.get n=some ⟨141,true,A⟩:=(G n v8 id).trans u2;have v7:n<n4:=jO;have u4:one z=true:=by obtain⟨_,_,rfl⟩:=hz.len;rfl
   try simp(disch:=first|omega|assumption) only[Nat.reduceAdd,Nat.reduceLT,RZ,dq,ext1,e2,P]
   refine LV trivial n _ z _ P v7 jO u4 (.inl (ag _)) ?_
   have za:=adz (jN p (k.take i) ((jm k T).take i)) (k.getD i []) s (by
    have:=HN p (k.take i) ((jm k T).take i) fun g Q=>(hg.1 g (lG Q)).1;rw[ed]at this
    omega)
   rw[za]at hz
   have rr:∀{y:Value} {ys:List Int} {m:Nat} (q:Row h4 m 3 .i64 y ys),Row (h4.set n (some ⟨141,true,A.set p z⟩)) m 3 .i64 y ys:=fun q=>q.fz (ag _) fun c r=>ak _ _ fun e=>by obtain⟨B,b1,b2⟩:=q.elem r;rw[e,P]at b1;cases b1;exact absurd (show(141:Nat)=3 from b2) jD
   have oo:Own (h4.set n (some ⟨141,true,A.set p z⟩)) (n+1) n4 3 (.slice (some ⟨n'+1,0,none⟩) (i+1) (aL+(i+1))) (aR .i64 ((jn k T).take (i+1))):=
    ((E.ar w1 fun c r=>u0 c (E.lt r).2 id).ar O fun c r=>G c (by have:=(E.lt r).2;omega) id).ar (ag _) fun c r=>ak _ _ (by have:=(E.lt r).1;omega)
   refine next _ _ _ ⟨jO,fun c r=> ?_,oo,A.set p z,get_eq _ _ _,by simp[w5],fun j L=> ?_⟩
   ·rw[ak _ _ jO,G c jO id,u0 c jO id,u1 c jO];exact Y c r
   ·have al:(k.take i).length=((jm k T).take i).length:=by rw[ed,ed,xW]
    rw[y3,x3,TQ j _ _ _ _ al];by_cases e:j=p
    ·subst e;have:(A.set j z).getD j undef=z:=by rw[au,List.getElem?_set_self jO];rfl
     rw[this,if_pos rfl];exact⟨rr hz,fun c r q=>by have:=x9 c r;have:=q.inj;omega⟩
    ·have:(A.set p z).getD j undef=A.getD j undef:=by rw[au,List.getElem?_set_ne (fun q=>e q.symm),au]
     rw[this,if_neg (fun q=>e q.symm),List.append_nil];exact⟨rr ((N j L).ar O fun c r=>G c r id),fun c r q=>by have:=(C j L).1.lt r;have:=q.inj;omega⟩
  ·have:((aV t).map K).getD p undef=K p:=HV _ _ X;rw[this]
   have e:dx (jN p (k.take 0) ((jm k T).take 0)) s=bI s 0:=by rw[ru,ru];exact TL s
   rw[e];exact Row.Cr (L p X) jO jS
 ·rintro W i _ h' n' F ⟨rfl,Y,Q,L⟩ next;have e2:((i:Nat):Int)<((t:Nat):Int):=jO;rw[sU];try simp(disch:=first|omega|assumption) only[Nat.reduceAdd,Nat.reduceLT,RZ,e2]
  refine Ev.run_make trivial s s _ (ag _) jO ?_;have Z:(h'.set (n+1+i) (some ⟨3,true,bI s (jI 0)⟩)).get n=some ⟨141,true,rc K (.slice none 0 0) t i⟩:=by rw[ak _ _ jO];exact Q
  have v7:n<n+1+i+1:=jO;have rs:=LP (f:=K) (z:= .slice none 0 0) F;have w6:K i= .slice (some ⟨n+1+i,0,none⟩) s s:=rfl;rw[w6]at rs;try simp(disch:=first|omega|assumption) only[Nat.reduceAdd,Nat.reduceLT,RZ,e2,Z,rs,E8]
  refine⟨F,.inl jO, ?_⟩;refine next () _ _ ⟨jO,fun b hb=>by rw[ak _ _ jO,ak _ _ jO];exact Y b hb,get_eq _ _ _,fun j y9=> ?_⟩;rw[ak _ _ jO];by_cases q:j=i
  ·subst q;rw[get_eq,Cq]
  ·rw[ak _ _ jO];exact L j jO
end
end Go.Proofs.YtcehhgppfahbkaaGreatDoor
namespace Go.Proofs.YtcehhgppfahbkaaGreatDoor
open Go.RowKit Ev Tb
noncomputable def bH (xs:List Int) (s:Nat):Nat->List (List Int)
 |0=>tI (dx xs s) (xs.length:Int)
 |k+1=>pL (iR xs) (bH xs s k) s
theorem xY(xs:List Int)(s:Nat):∀k,(bH xs s k).length=jQ (xs.length:Int)
 |0=>HP _ _
 |k+1=>(aef _ _ _).trans (xY xs s k)
theorem HW{xs:List Int}{s:Nat}(f:xs.length<=1000000)(c:dA s xs=true):GoodG s (iR xs):=by refine⟨fun g e=> ?_,by rw[TM];unfold cY;omega⟩;obtain⟨a,_,b⟩:=ady e;exact⟨b,vt.2 fun x d=>vt.1 c x (a x d)⟩
theorem aeh{xs:List Int}{s:Nat}(e:xs.length<=1000000)(b:dA s xs=true)(f:3<=s)(a:s<=258):∀k,GoodT s (bH xs s k)
 |0=>fun t c=>by unfold bH tI at c;obtain⟨p,_,rfl⟩:=De.1 c;exact⟨by rw[adC,jk],fun y d=>by have:=adD d;omega⟩
 |k+1=>aee (HW e b) f a
section
variable (lf d n:Nat) (h:H) (bB:3000000<=lf)
include bB
theorem aei(v:Value)(xs:List Int)(s:Nat)(g:Gd h n)(hR:Row h n 3 .i64 v xs)(h0:0<xs.length)(hl:xs.length<=1000000)(h3:3<=s)(j:s<=258)(G:dA s xs=true)(hd:600<=d):
 aa (fun _=>False) n (ah ad gt lf d 161 #[v,jI (s:Int)]) h n fun v' h' n'=>∃x y,v'= .tuple #[.agg #[x,y],jI 0]∧RR h' n' 141 3 x (bH xs s 4)∧Row h' n' 3 .i64 y (jn (iR xs) (bH xs s 3)):=by
 obtain⟨d,rfl⟩:∃e,d=e+8:=⟨d-8,jO⟩;rw[aF (fun _=>Gb) rfl];refine aa.aD ?_;unfold wV;have Z:=hR;obtain⟨a,c,rfl⟩:=hR.len;refine fR nN _ ?_;obtain⟨Y,I⟩:∃Y,h.set n (some ⟨178,true,[.slice none 0 0,.slice none 0 0]⟩)=Y:=⟨_,rfl⟩;have ka:∀b,b<n->Y.get b=h.get b:=fun b f=>by rw[<-I];exact ak _ _ jO
 have ga:Y.get n=some ⟨178,true,[.slice none 0 0,.slice none 0 0]⟩:=by rw[<-I,get_eq]
 rw[I];refine aJ aE (HU lf (d+6) (n+1) Y bB _ xs (Z.ar (cI n) ka) hl s h3 j) (cI n) (fun _ _ h=>h.elim) fun v1 h1 n1 w5 u3 hq=> ?_;rcases hq with ⟨_,u,rfl,hu⟩|⟨C,_⟩
 rotate_left
 ·rw[G]at C;cases C
 have k1:∀b,b<n->h1.get b=h.get b:=fun b f=>(u3 b jO id).trans (ka b f);have v9:=Z.ar (show n<=n1 by omega) k1;have z0:(((xs.length:Nat):Int)==0)=false:=beq_eq_false_iff_ne.2 jO;have z1:((0:Int) !=0)=false:=rfl;try simp(disch:=first|omega|assumption) only[Nat.reduceAdd,Nat.reduceLT,RZ,dq,ext1,z0,z1]
 refine bU (Cs lf (d+6) n1 h1 xs.length jO) jO (fun _ _ h=>h.elim) ?_;have z2:¬((32767:Int)<(cY xs.length:Int)):=by unfold cY;omega
 try simp(disch:=first|omega|assumption) only[Nat.reduceAdd,Nat.reduceLT,RZ,z2]
 refine aJ aE (ad3 lf (d+3) n1 h1 bB _ xs v9 hl) jO (fun _ _ h=>h.elim) fun vg h2 n2 v0 J v6=> ?_;have k2:∀b,b<n->h2.get b=h.get b:=fun b f=>(J b jO id).trans (k1 b f);have u6:=hu.ar v0 fun b f=>J b f id;have cm:∀x∈dx xs s,0<=x∧x<=1099511627776:=fun x D=>by have:=HL D;omega
 try simp(disch:=first|omega|assumption) only[Nat.reduceAdd,Nat.reduceLT,RZ]
 refine aJ aE (ad9 lf (d+5) n2 h2 bB u (dx xs s) (xs.length:Int) (g.ar jO k2) u6 (by rw[jk];exact j) cm jO jO) jO (fun _ _ h=>h.elim) fun vf w0 p u9 u2 hf=> ?_;have X:=v6.ar u9 fun b f=>u2 b f id;have v8:=hf;obtain⟨af,cf,rfl⟩:=hf.len;try simp(disch:=first|omega|assumption) only[Nat.reduceAdd,Nat.reduceLT,RZ]
 refine fR nN _ ?_;refine qG (cs:=[.slice none 0 0,.slice none 0 0]) trivial (vs:=[.slice af (tI (dx xs s) (xs.length:Int)).length cf,.slice none 0 0]) rfl rfl rfl (get_eq _ _ _) (dL p) (ag _) (.inl jO) _ fun h4 v4 k4=> ?_;have r:∀b,b<p->h4.get b=w0.get b:=fun b f=>by rw[k4 b jO,ak _ _ jO]
 have v2:=HW hl G;have ht:=aeh hl G h3 j;have U:=xY xs s;have w3:=HO (xs.length:Int);have w1:h4.get n=some ⟨178,true,[.slice none 0 0,.slice none 0 0]⟩:=by rw[r n jO,u2 n jO id,J n jO id,u3 n jO id];exact ga
 have w2:=X.ar (cI p) r;have v7:=v8.ar (cI p) r
 refine dP 4 (fun fu i (_:Unit)=>sL lf (ah ad gt lf (d+7)) fu (A7 lf (ah ad gt lf (d+7))) (.slice a xs.length c) (jI (s:Nat)) (jP n 0) (jI 0) u (jI 0) vg (jP p 0) (.bool false) (.bool false) (jI (i:Nat)))
  (fun i _ h' n'=>p<n'∧(∀b,b<p->h'.get b=h4.get b)∧∃x y,h'.get p=some ⟨178,true,[x,y]⟩∧RR h' n' 141 3 x (bH xs s i)∧one y=true∧(0<i->Row h' n' 3 .i64 y (jn (iR xs) (bH xs s (i-1))))) ?_ ?_ lf 0 () _ _ (cL _) jO ⟨dL p,fun _ _=>rfl,_,_,v4,v7,rfl,fun q=>absurd q (ub 0)⟩
 ·rintro fu _ h' n' ⟨F,t,x,y,z,D,P,hy⟩;have z4:¬(((4:Nat):Int)<4):=jO;rw[sL];try simp(disch:=first|omega|assumption) only[Nat.reduceAdd,Nat.reduceLT,RZ,z4]
  (try unfold A7);(try dsimp only)
  refine zY trivial trivial _ _ _ z F jS ?_;have u0:h'.get n=some ⟨178,true,[.slice none 0 0,.slice none 0 0]⟩:=by rw[t n jO];exact w1
  have O:=hy jO;have Q:one x=true:=by obtain⟨_,_,rfl⟩:=D.len;rfl
  refine qG trivial (vs:=[x,y]) rfl rfl (by simp[Q,P]) u0 jO (ag _) (.inl (ag _)) _ fun h5 w k5=> ?_;refine zZ trivial trivial _ _ _ w jO jS ?_;have e5:∀b,(∀B,h'.get b=some B->B.elem≠178)->h5.get b=h'.get b:=fun b f=>k5 b fun e=>by subst e;exact f _ u0 rfl
  try simp(disch:=first|omega|assumption) only[Nat.reduceAdd,Nat.reduceLT,RZ]
  refine⟨x,y,rfl, ?_,O.fz (ag _) fun b f=>e5 b fun B m e=>by
   obtain⟨B',q1,q2⟩:=O.elem f;rw[m]at q1;cases q1
   exact absurd (show(3:Nat)=178 from q2.symm.trans e) jD⟩
  obtain⟨cs,N,r2,L⟩:=D
  have u4:∀b,aq x b->∃B,h'.get b=some B∧B.elem=141:=fun b f=>by
   rcases N with ⟨a,c,rfl,E,_⟩|⟨b',u5,cap,o,ks,rfl,hg,_⟩
   ·obtain⟨o,l,k,q⟩:=f;cases q;exact absurd rfl (E b o)
   ·rw[f.inj];exact⟨_,hg,rfl⟩
  refine⟨cs,N.ar (ag _) fun b f=>e5 b fun B m e=> ?_,r2,fun i K=>(L i K).fz (ag _) fun b f=>e5 b fun B m e=> ?_⟩
  ·obtain⟨B',q1,q2⟩:=u4 b f;rw[m]at q1;cases q1;exact absurd (show(141:Nat)=178 from q2.symm.trans e) jD
  ·obtain⟨B',q1,q2⟩:=(L i K).elem f;rw[m]at q1;cases q1;exact absurd (show(3:Nat)=178 from q2.symm.trans e) jD
 ·rintro fu i _ h' n' K ⟨F,t,x,y,z,D,P,hy⟩ next;have e1:((i:Nat):Int)<4:=jO;have Q:one x=true:=by obtain⟨_,_,rfl⟩:=D.len;rfl
  rw[sL];try simp(disch:=first|omega|assumption) only[Nat.reduceAdd,Nat.reduceLT,RZ,e1,z]
  refine aJ aE (aeg lf (d+7) n' h' bB vg x (iR xs) (bH xs s i) s (X.ar jO fun b f=>by rw[t b f];exact r b f) D v2 (ht i) (by rw[U];omega) (by rw[U];omega) h3 j jO) jO (fun _ _ h=>h.elim) fun v5 h5 n5 w4 u1 u7=> ?_;obtain⟨px,ty,rfl,W,T⟩:=u7;have w:=(u1 p F id).trans z;have A:=W;have R:=T;obtain⟨a6,c6,rfl⟩:=W.len;obtain⟨a7,c7,rfl⟩:=T.len;try simp(disch:=first|omega|assumption) only[Nat.reduceAdd,Nat.reduceLT,RZ,dq,ext1]
  refine qG trivial (vs:=[.slice a7 (pL (iR xs) (bH xs s i) s).length c7,.slice a6 (jn (iR xs) (bH xs s i)).length c6]) rfl rfl rfl w jO (ag _) (.inl jO) _ fun h6 v3 k6=> ?_;have e6:∀b,(∀B,h5.get b=some B->B.elem≠178)->h6.get b=h5.get b:=fun b f=>k6 b fun e=>by subst e;exact f _ w rfl
  try simp(disch:=first|omega|assumption) only[Nat.reduceAdd,Nat.reduceLT,RZ]
  refine next () h6 n5 ⟨jO,fun b f=>by rw[k6 b jO,u1 b jO id];exact t b f,_,_,v3, ?_,rfl,fun _=> ?_⟩
  ·obtain⟨cs,N,r2,L⟩:=R;refine⟨cs,N.ar (ag _) fun b f=>e6 b fun B m e=> ?_,r2,fun i K=>(L i K).fz (ag _) fun b f=>e6 b fun B m e=> ?_⟩
   ·rcases N with ⟨a,c,q,E,_⟩|⟨b',u5,cap,o,ks,q,hg,_⟩
    ·obtain⟨o,l,k,q2⟩:=f;rw[q2]at q;cases q;exact absurd rfl (E b o)
    ·rw[q]at f;rw[f.inj,hg]at m;cases m;exact absurd (show(141:Nat)=178 from e) jD
   ·obtain⟨B',q1,q2⟩:=(L i K).elem f;rw[m]at q1;cases q1;exact absurd (show(3:Nat)=178 from q2.symm.trans e) jD
  ·exact A.fz (ag _) fun b f=>e6 b fun B m e=>by obtain⟨B',q1,q2⟩:=A.elem f;rw[m]at q1;cases q1;exact absurd (show(3:Nat)=178 from q2.symm.trans e) jD
theorem aej(v:Value)(xs:List Int)(z:Int)(B:Row h n 3 .i64 v xs)(L:xs.length<=1000000)(p:z<3∨258<z∨xs=[]∨dA z xs=false)(hd:600<=d):
 aa (fun _=>False) n (ah ad gt lf d 161 #[v,jI z]) h n fun o h' n'=>o= .tuple #[.agg #[.slice none 0 0,.slice none 0 0],jI 1]:=by
 obtain⟨d,rfl⟩:∃e,d=e+8:=⟨d-8,jO⟩;rw[aF (fun _=>Gb) rfl];refine aa.aD ?_;unfold wV;have w:=B;obtain⟨a,c,rfl⟩:=B.len;refine fR nN _ ?_;obtain⟨i,f⟩:∃i,h.set n (some ⟨178,true,[.slice none 0 0,.slice none 0 0]⟩)=i:=⟨_,rfl⟩;have F:∀b,b<n->i.get b=h.get b:=fun b U=>by rw[<-f];exact ak _ _ jO
 have C:i.get n=some ⟨178,true,[.slice none 0 0,.slice none 0 0]⟩:=by rw[<-f,get_eq]
 rw[f]
 have g:∀(m:H) (l:Nat) (k:Value->M Value),n<l->m.get n=some ⟨178,true,[.slice none 0 0,.slice none 0 0]⟩->(∀q,k q=ae [q,jI 1])->aa (fun _=>False) n (bW 2 (jP n 0) (.agg #[.slice none 0 0,.slice none 0 0]) fun _=>bO 2 (jP n 0) k) m l fun o h' n'=>o= .tuple #[.agg #[.slice none 0 0,.slice none 0 0],jI 1]:=by intro m l k K O N;refine qG trivial (vs:=[.slice none 0 0,.slice none 0 0]) rfl rfl rfl O K (ag _) (.inl (ag _)) _ fun W t R=> ?_;refine zZ trivial trivial _ _ _ t jO jS ?_;rw[N,uJ];rfl
 have y:((1:Int) !=0)=true:=rfl;have D:((0:Int) !=0)=false:=rfl;by_cases P:z<3∨258<z
 ·refine bU (adI lf (d+6) (n+1) i _ z P) (cI n) (fun _ _ h=>h.elim) ?_;try simp(disch:=first|omega|assumption) only[Nat.reduceAdd,Nat.reduceLT,RZ,dq,ext1,y]
  exact g _ _ _ (dL n) C fun _=>rfl
 ·obtain⟨s,rfl⟩:∃s:Nat,z=(s:Int):=⟨z.toNat,jO⟩;refine aJ aE (HU lf (d+6) (n+1) i bB _ xs (w.ar (cI n) F) L s jO jO) (cI n) (fun _ _ h=>h.elim) fun Q m l J x I=> ?_;have j:=(x n (dL n) id).trans C;rcases I with ⟨r,u,rfl,T⟩|⟨A,rfl⟩
  ·have G:xs=[]:=by
    rcases p with q|q|q|q
    ·omega
    ·omega
    ·exact q
    ·rw[r]at q;cases q
   subst G;have E:((([]:List Int).length:Int)==0)=true:=rfl;try simp(disch:=first|omega|assumption) only[Nat.reduceAdd,Nat.reduceLT,RZ,dq,ext1,D,E]
   exact g _ _ _ jO j fun _=>rfl
  ·try simp(disch:=first|omega|assumption) only[Nat.reduceAdd,Nat.reduceLT,RZ,dq,ext1,y]
   exact g _ _ _ jO j fun _=>rfl
end
section
variable (lf d n:Nat) (h:H) (bB:3000000<=lf)
include bB
end
section
variable (lf d n:Nat) (h:H) (bB:3000000<=lf)
include bB
end
section
variable (lf d n:Nat) (h:H)
structure tJ (h:H) (n:Nat) (v:Value) (L:List (List Int)) (K:List Int):Prop where
 ex:∃x y,v= .agg #[x,y]∧RR h n 141 3 x L∧Row h n 3 .i64 y K
theorem tJ.ar{h h':H}{n n':Nat}{v:Value}{L:List (List Int)}{K:List Int}(x:tJ h n v L K)(a:n<=n')(c:∀b,b<n->h'.get b=h.get b):tJ h' n' v L K:=by obtain⟨x,y,d,f,e⟩:=x.ex;exact⟨x,y,d,f.ar a c,e.ar a c⟩
end
theorem tJ.agg{h:H}{n:Nat}{v:Value}{L:List (List Int)}{K:List Int}(x:tJ h n v L K):∃a c d b,v= .agg #[.slice a L.length c,.slice d K.length b]∧RR h n 141 3 (.slice a L.length c) L∧Row h n 3 .i64 (.slice d K.length b) K:=by obtain⟨x,y,rfl,i,g⟩:=x.ex;have f:=i;have e:=g;obtain⟨a,c,rfl⟩:=i.len;obtain⟨d,b,rfl⟩:=g.len;exact⟨a,c,d,b,rfl,f,e⟩
section
variable (lf d n:Nat) (h:H)
variable (bB:3000000<=lf) (hd:700<=d)
include bB hd
end
end Go.Proofs.YtcehhgppfahbkaaGreatDoor
namespace Go.Proofs.YtcehhgppfahbkaaGreatDoor
open Go.RowKit Ev
def xZ(sv:Value)(a:List Bool)(t:Nat):AB:=⟨133,true,[sv,.int .u8 (mR a:Int),jI (t:Int)]⟩
structure ly (h:H) (lo n w:Nat) (sv:Value) (s:List Nat×List Bool) (t:Nat):Prop where
 get:h.get w=some (xZ sv s.2 t)
 lt:w<n
 ge:lo<=w
 own:Own h lo n 5 sv (bJ s.1)
 ne:∀b,aq sv b->b≠w
 len:s.2.length=t %8
theorem ly.ar{h h':H}{lo n n' w:Nat}{sv:Value}{s:List Nat×List Bool}{t:Nat}(x:ly h lo n w sv s t)(a:n<=n')(c:∀b,b<n->(b=w∨aq sv b)->h'.get b=h.get b):ly h' lo n' w sv s t:=
 ⟨(c w x.lt (.inl rfl)).trans x.get,dC x.lt a,x.ge,x.own.ar a fun b d=>c b (x.own.lt d).2 (.inr d),x.ne,x.len⟩
section
variable {lf d lo n w t:Nat} {h:H} {sv:Value} {s:List Nat×List Bool}
set_option maxRecDepth 4000 in
theorem aek(x:ly h lo n w sv s t)(Q:t<4611686018427387904)(A:s.1.length+1<=1099511627776)(b:Bool):aa (fun c=>c=w∨aq sv c) n (ah ad gt lf (d+1) 90 #[jP w 0,.int .u8 (bn b:Int)]) h n fun v h' n'=>v= .tuple #[]∧∃j,ly h' lo n' w j (ek s b) (t+1)∧∀c,aq j c->aq sv c∨n<=c:=by
 obtain⟨m,z,k,o,f,B⟩:=x;obtain⟨ws,a⟩:=s;simp only at m o B A;have O:=m;unfold xZ at m;rw[aF (fun _=>Of) rfl];refine aa.aD ?_;unfold FL;have E:((t:Int)).tmod 8=((a.length:Nat):Int):=by rw[B];rfl
 have L:a.length<8:=jO;have D:IntKind.i64.wrap (7-(a.length:Int))=((7-a.length:Nat):Int):=by rw[aO jO jO];omega
 have y:=aca (B5 b) (show 7-a.length<=7 by omega);rw[fg]at y
 have u:=or8 (ab' (r:=a) jO) (show bn b*2^(7-a.length)<256 by
  have R:=B5 b;have N:2^(7-a.length)<=2^7:=kD jD jO;have:bn b*2^(7-a.length)<=1*2^7:=agE jO N
  omega)
 rw[ab_ L b]at u;have C:(0:Int)<=((7-a.length:Nat):Int):=jO;by_cases l:a.length=7
 ·have p:(((a.length:Nat):Int)==7)=true:=by rw[l];rfl
  try simp(disch:=first|omega|assumption|exact fE _) only[Nat.reduceAdd,Nat.reduceLT,RZ,cw,cz,cA,cB,cC,cD,cE,cF,cG,cH,m,E,D,y,u,C,p]
  have F:Own ((h.set w (some ⟨133,true,[sv,.int .u8 (mR (a++[b]):Int),jI (t:Int)]⟩)).set w (some ⟨133,true,[sv,.int .u8 (mR (a++[b]):Int),jI ((t:Int)+1)]⟩)) lo n 5 sv (bJ ws):=o.ar (ag _) fun c g=>by rw[ak _ _ (f c g),ak _ _ (f c g)]
  refine E7 trivial (l4 _ _) F (by rw[gy];exact A) (fun c g=> .inr (.inr g)) _ fun h' K J=> ?_;have P:h'.get w=some ⟨133,true,[sv,.int .u8 (mR (a++[b]):Int),jI ((t:Int)+1)]⟩:=by rw[J w z (fun q=>f w q rfl),get_eq]
  have I:w≠n+1:=jO;try simp(disch:=first|omega|assumption|exact fE _) only[Nat.reduceAdd,Nat.reduceLT,RZ,cw,cz,cA,cB,cC,cD,cE,cF,cG,cH,P,true_or,or_true]
  have i:ek (ws,a) b=(ws++[num (a++[b]) 0],[]):=by unfold ek;rw[if_pos l]
  have G:mR (a++[b])=num (a++[b]) 0:=by unfold mR;simp[l]
  refine⟨_,⟨by rw[get_eq];unfold xZ;rw[i];rfl,jO,k, ?_,fun c g=>by rw[g.inj];omega, ?_⟩,fun c g=> .inr (by rw[g.inj];omega)⟩
  ·rw[i];rw[gy];refine .inr ⟨n+1,by simp[gy], ?_,jO,jO⟩;rw[ak _ _ jO,ak _ _ jO,K,G,E5];rfl
  ·rw[i];simp;omega
 ·have p:(((a.length:Nat):Int)==7)=false:=by simpa using fun e:((a.length:Nat):Int)=7=>l jO
  try simp(disch:=first|omega|assumption|exact fE _) only[Nat.reduceAdd,Nat.reduceLT,RZ,cw,cz,cA,cB,cC,cD,cE,cF,cG,cH,m,E,D,y,u,C,p]
  have i:ek (ws,a) b=(ws,a++[b]):=by unfold ek;rw[if_neg l]
  refine⟨sv,⟨by rw[get_eq,i];rfl,z,k, ?_,f,by rw[i];simp;omega⟩,fun c g=> .inl g⟩;rw[i];exact o.ar (ag _) fun c g=>by rw[ak _ _ (f c g),ak _ _ (f c g)]
end
theorem ael(v n i:Nat)(h:i<n):bQ (v/2^(n-i)) i++[decide (v/2^(n-1-i)%2=1)]=bQ (v/2^(n-(i+1))) (i+1):=by show _=bQ (v/2^(n-(i+1))/2) i++_;rw[Nat.div_div_eq_div_mul,<-Nat.pow_succ,show(n-(i+1)).succ=n-i by omega,show n-(i+1)=n-1-i by omega]
section
variable {lf d lo n w t:Nat} {h:H} {sv:Value} {s:List Nat×List Bool}
theorem aem{v k:Nat}(f:k<=32)(b:v<2^k):aa (fun _=>False) n (ah ad gt lf (d+1) 89 #[.int .u32 (v:Int),jI (k:Int)]) h n fun e h' n'=>e= .bool true∧h'=h∧n'=n:=by
 rw[aF (fun _=>Oe) rfl];refine aa.aD ?_;unfold FK;have j:(0:Int)<=(k:Int):=jO;have i:(k:Int)<=32:=jO;have a:v<4294967296:=dC b (kD jD f);have g:IntKind.u64.wrap (v:Int)=(v:Int):=IntWalk.u64_in _ jO;have c:=fdiv_pow v k (IntKind.u64).bits (by simp[C0];omega);rw[fg,Nat.div_eq_of_lt b]at c;try simp(disch:=first|omega|assumption|exact fE _) only[Nat.reduceAdd,Nat.reduceLT,RZ,cw,cz,cA,cB,cC,cD,cE,cF,cG,cH,j,i,g,c]
 rfl
theorem aen{v k:Nat}(J:k<=32)(E:v<2^k){x6 x8 x11:Value}(I:t+32<4611686018427387904)(X:s.1.length+33<=1099511627776){g:Nat}(F:s.2.length<8):∀(m i a n:Nat) (h:H) (j:Value),i+m=k->m<a->g<=n->w<g->ly h lo n w j (dN s (bQ (v/2^(k-i)) i)) (t+i)->(∀c,c<g->aq j c->aq sv c)->
 aa (fun c=>c=w∨aq sv c) g (r' lf (ah ad gt lf (d+1)) a (Ao lf (ah ad gt lf (d+1))) (jP w 0) (.int .u32 (v:Int)) (jI (k:Int)) x6 x8 x11 (jI (k:Int)) (jI (i:Int))) h n fun B h' n'=>B=jI 0∧∃b,ly h' lo n' w b (dN s (bQ v k)) (t+k)∧∀c,c<g->aq b c->aq sv c:=by
 intro m
 induction m with
 |zero=>
  intro i a n h j K L z y x o;obtain⟨a,rfl⟩:∃f,a=f+1:=⟨a-1,jO⟩;obtain rfl:i=k:=jO;rw[r'];have r:¬((i:Int)<(i:Int)):=jO;try simp(disch:=first|omega|assumption|exact fE _) only[Nat.reduceAdd,Nat.reduceLT,RZ,cw,cz,cA,cB,cC,cD,cE,cF,cG,cH,r]
  (try unfold Ao);(try dsimp only)
  try simp(disch:=first|omega|assumption|exact fE _) only[Nat.reduceAdd,Nat.reduceLT,RZ,cw,cz,cA,cB,cC,cD,cE,cF,cG,cH]
  rw[Nat.sub_self,Nat.pow_zero,Nat.div_one]at x;exact⟨j,x,o⟩
 |succ m D=>
  intro i a n h j K L z y x o;obtain⟨a,rfl⟩:∃f,a=f+1:=⟨a-1,jO⟩;rw[r'];have r:(i:Int)<(k:Int):=jO;have W:IntKind.i64.wrap ((k:Int)-1-(i:Int))=((k-1-i:Nat):Int):=by rw[aO jO jO];omega
  have U:IntKind.i64.wrap ((k:Int)-1)=(k:Int)-1:=aO jO jO;have T:(0:Int)<=((k-1-i:Nat):Int):=jO;have A:=fdiv_pow v (k-1-i) (IntKind.u32).bits (by simp[C0];omega);rw[fg]at A;have l:v<4294967296:=dC E (kD jD J);have R:=acb (Nat.lt_of_le_of_lt (Nat.div_le_self v (2^(k-1-i))) l);have Q:IntKind.u8.wrap ((v/2^(k-1-i)%2:Nat):Int)=(bn (decide (v/2^(k-1-i)%2=1)):Int):=by rw[ab8];exact w8 jO
  try simp(disch:=first|omega|assumption|exact fE _) only[Nat.reduceAdd,Nat.reduceLT,RZ,cw,cz,cA,cB,cC,cD,cE,cF,cG,cH,r,W,U,T,A,R,Q]
  have Y:(dN s (bQ (v/2^(k-i)) i)).1.length<=s.1.length+i:=by have:=Hi (bQ (v/2^(k-i)) i) s;rw[dM]at this;exact this
  refine aJ aE (aek x jO jO _) z (fun c N hq=> ?_) ?_
  ·rcases hq with rfl|hq
   ·exact .inr (.inl rfl)
   ·by_cases e:c<g
    ·exact .inr (.inr (o c e hq))
    ·exact .inl jO
  ·rintro _ O C G Z ⟨rfl,b,u,p⟩;have P:IntKind.i64.wrap ((i:Int)+1)=((i+1:Nat):Int):=BU jO;try simp(disch:=first|omega|assumption|exact fE _) only[Nat.reduceAdd,Nat.reduceLT,RZ,cw,cz,cA,cB,cC,cD,cE,cF,cG,cH,P]
   rw[show ek (dN s (bQ (v/2^(k-i)) i)) (decide (v/2^(k-1-i)%2=1))=dN s (bQ (v/2^(k-(i+1))) (i+1)) by rw[<-ael v k i jO,SM];rfl]at u;refine D (i+1) a C O b jO jO jO y u fun c e hq=> ?_;rcases p c hq with q|q
   ·exact o c e q
   ·omega
theorem aeo(x:ly h lo n w sv s t){v k:Nat}(e:k<=32)(b:v<2^k)(g:t+32<4611686018427387904)(i:s.1.length+33<=1099511627776)(j:33<=lf):aa (fun c=>c=w∨aq sv c) n (ah ad gt lf (d+2) 56 #[jP w 0,.int .u32 (v:Int),jI (k:Int)]) h n fun f h' n'=>f=jI 0∧∃a,ly h' lo n' w a (dN s (bQ v k)) (t+k)∧∀c,c<n->aq a c->aq sv c:=by
 rw[aF (fun _=>NU) rfl];refine aa.aD ?_;unfold Ap;try simp(disch:=first|omega|assumption|exact fE _) only[Nat.reduceAdd,Nat.reduceLT,RZ,cw,cz,cA,cB,cC,cD,cE,cF,cG,cH]
 refine bU (aem e b) (ag _) (fun _ _ h=>h.elim) ?_;try simp(disch:=first|omega|assumption|exact fE _) only[Nat.reduceAdd,Nat.reduceLT,RZ,cw,cz,cA,cB,cC,cD,cE,cF,cG,cH]
 exact aen e b g i (by have:=x.len;omega) k 0 lf n h sv jO jO (ag _) x.lt (by rw[IJ];exact x) (fun c _ q=>q)
theorem aep:aa (fun _=>False) n (ah ad gt lf (d+1) 55 #[]) h n fun v h' n'=>v=jP n 0∧n'=n+1∧ly h' n n' n (.slice none 0 0) ([],[]) 0:=by
 rw[aF (fun _=>NQ) rfl];refine aa.aD ?_;unfold FE;try simp(disch:=first|omega|assumption|exact fE _) only[Nat.reduceAdd,Nat.reduceLT,RZ,cw,cz,cA,cB,cC,cD,cE,cF,cG,cH]
 refine lX trivial _ _ ?_;try simp(disch:=first|omega|assumption|exact fE _) only[Nat.reduceAdd,Nat.reduceLT,RZ,cw,cz,cA,cB,cC,cD,cE,cF,cG,cH]
 exact⟨get_eq _ _ _,jO,ag _,Own.nil _ _ _ _,fun b a=>a.not_nil.elim,rfl⟩
theorem aeq(x:ly h lo n w sv s t):aa (fun c=>c=w) n (ah ad gt lf (d+1) 58 #[jP w 0]) h n fun v h' n'=>v= .string ⟨(bS s.1).toArray⟩∧n'=n∧ly h' lo n w (.slice none 0 0) ([],s.2) t:=by
 obtain⟨a,g,e,f,i,j⟩:=x;have l:=a;unfold xZ at a;rw[aF (fun _=>NZ) rfl];refine aa.aD ?_;unfold FF;try simp(disch:=first|omega|assumption|exact fE _) only[Nat.reduceAdd,Nat.reduceLT,RZ,cw,cz,cA,cB,cC,cD,cE,cF,cG,cH,a]
 refine LL f _ ?_;try simp(disch:=first|omega|assumption|exact fE _) only[Nat.reduceAdd,Nat.reduceLT,RZ,cw,cz,cA,cB,cC,cD,cE,cF,cG,cH,a]
 exact⟨get_eq _ _ _,g,e,Own.nil _ _ _ _,fun b k=>k.not_nil.elim,j⟩
end
def fc(l:List Bool):List Nat:=(dN ([],[]) l).1
def CC(l:List Bool):List Bool:=(dN ([],[]) l).2
def b8(K:Nat)(h:H)(lo n w:Nat)(sv:Value)(l:List Bool):Prop:=K<=(fc l).length∧ly h lo n w sv ((fc l).drop K,CC l) l.length
theorem HX:∀(f:List Bool) (s:List Nat×List Bool) (K:Nat),K<=s.1.length->dN (s.1.drop K,s.2) f=((dN s f).1.drop K,(dN s f).2)∧K<=(dN s f).1.length
 |[],s,K,h=>⟨rfl,h⟩
 |b::f,(ws,r),K,h=>by
  show dN (ek (ws.drop K,r) b) f=((dN (ek (ws,r) b) f).1.drop K,(dN (ek (ws,r) b) f).2)∧K<=(dN (ek (ws,r) b) f).1.length;have h:K<=ws.length:=h;by_cases c:r.length=7
  ·have d:ek (ws.drop K,r) b=(ws.drop K++[num (r++[b]) 0],[]):=by unfold ek;rw[if_pos c]
   have a:ek (ws,r) b=(ws++[num (r++[b]) 0],[]):=by unfold ek;rw[if_pos c]
   rw[d,a,<-List.drop_append_of_le_length h];exact HX f (ws++[num (r++[b]) 0],[]) K (by rw[ay];exact Nat.le_add_right_of_le h)
  ·have d:ek (ws.drop K,r) b=(ws.drop K,r++[b]):=by unfold ek;rw[if_neg c]
   have a:ek (ws,r) b=(ws,r++[b]):=by unfold ek;rw[if_neg c]
   rw[d,a];exact HX f (ws,r++[b]) K h
theorem aer{K:Nat}{l:List Bool}(h:K<=(fc l).length)(f:List Bool):dN ((fc l).drop K,CC l) f=((fc (l++f)).drop K,CC (l++f))∧K<=(fc (l++f)).length:=by have e:dN ([],[]) (l++f)=dN (dN ([],[]) l) f:=SM _ _ _;unfold fc CC;rw[e];exact HX f _ K h
theorem b8.lt{K:Nat}{h:H}{lo n w:Nat}{sv:Value}{l:List Bool}(x:b8 K h lo n w sv l):w<n:=x.2.lt
theorem b8.own{K:Nat}{h:H}{lo n w:Nat}{sv:Value}{l:List Bool}(x:b8 K h lo n w sv l):Own h lo n 5 sv (bJ ((fc l).drop K)):=x.2.own
theorem b8.ar{K:Nat}{h h':H}{lo n n' w:Nat}{sv:Value}{l:List Bool}(x:b8 K h lo n w sv l)(a:n<=n')(c:∀b,b<n->(b=w∨aq sv b)->h'.get b=h.get b):b8 K h' lo n' w sv l:=⟨x.1,x.2.ar a c⟩
theorem HY:∀(l:List Bool) (s:List Nat×List Bool),s.2.length<8->8*(dN s l).1.length+(dN s l).2.length=8*s.1.length+s.2.length+l.length
 |[],s,_=>by show 8*s.1.length+s.2.length=8*s.1.length+s.2.length+0;omega
 |b::l,(ws,r),h=>by
  show 8*(dN (ek (ws,r) b) l).1.length+(dN (ek (ws,r) b) l).2.length=8*ws.length+r.length+(l.length+1);have h:r.length<8:=h;by_cases c:r.length=7
  ·have d:ek (ws,r) b=(ws++[num (r++[b]) 0],[]):=by unfold ek;rw[if_pos c]
   have a:=HY l (ws++[num (r++[b]) 0],[]) (by show 0<8;decide);rw[d,a];show 8*(ws++[num (r++[b]) 0]).length+0+l.length=_;rw[ay];show 8*(ws.length+1)+0+l.length=_;omega
  ·have d:ek (ws,r) b=(ws,r++[b]):=by unfold ek;rw[if_neg c]
   have a:=HY l (ws,r++[b]) (by show(r++[b]).length<8;rw[ay];show r.length+1<8;omega);rw[d,a];show 8*ws.length+(r++[b]).length+l.length=_;rw[ay];show 8*ws.length+(r.length+1)+l.length=_;omega
theorem aes(l:List Bool):8*(fc l).length<=l.length:=by have:=HY l ([],[]) jD;unfold fc;have e:8*([]:List Nat).length+([]:List Bool).length+l.length=l.length:=jS;rw[show([]:List Nat).length=0 from rfl,show([]:List Bool).length=0 from rfl]at e;simp at this;omega
theorem aet(l:List Bool):(dN ([],[]) l).1.length<=l.length:=by have:=Hi l ([],[]);simpa using this
section
variable {lf d lo n w K:Nat} {h:H} {sv:Value} {l:List Bool}
theorem ky(x:b8 K h lo n w sv l){v k:Nat}(i:k<=32)(g:v<2^k)(q:l.length<=1000000000)(b:33<=lf):aa (fun c=>c=w∨aq sv c) n (ah ad gt lf (d+2) 56 #[jP w 0,.int .u32 (v:Int),jI (k:Int)]) h n fun f h' n'=>f=jI 0∧∃a,b8 K h' lo n' w a (l++bQ v k)∧∀c,c<n->aq a c->aq sv c:=by
 have p:=aet l;obtain⟨o,m⟩:=aer x.1 (bQ v k);have hd:((fc l).drop K).length<=(dN ([],[]) l).1.length:=by rw[fO];exact Nat.sub_le _ _
 refine(aeo (lf:=lf) (d:=d) x.2 i g jO (by show((fc l).drop K).length+33<=_;omega) b).mono ?_;rintro f h' n' _ ⟨rfl,a,e,j⟩;rw[o]at e;refine⟨rfl,a,⟨m, ?_⟩,j⟩;rw[ay,dM];exact e
theorem aeu:aa (fun _=>False) n (ah ad gt lf (d+1) 55 #[]) h n fun v h' n'=>v=jP n 0∧n'=n+1∧b8 0 h' n n' n (.slice none 0 0) []:=aep.mono fun _ _ _ _ q=>⟨q.1,q.2.1,cL _,q.2.2⟩
theorem aev(x:b8 K h lo n w sv l):aa (fun c=>c=w) n (ah ad gt lf (d+1) 58 #[jP w 0]) h n fun v h' n'=>v= .string ⟨(bS ((fc l).drop K)).toArray⟩∧n'=n∧b8 (fc l).length h' lo n w (.slice none 0 0) l:=(aeq (lf:=lf) (d:=d) x.2).mono fun _ _ _ _ q=>⟨q.1,q.2.1,ag _,by rw[qc];exact q.2.2⟩
end
end Go.Proofs.YtcehhgppfahbkaaGreatDoor
