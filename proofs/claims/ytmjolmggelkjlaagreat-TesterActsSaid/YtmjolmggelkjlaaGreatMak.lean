import Derived.Test.YtmjolmggelkjlaaGreatMad
import Derived.Test.YtmjolmggelkjlaaGreatMaf
import Derived.Test.YtmjolmggelkjlaaGreatMaj
import Derived.Test.YtmjolmggelkjlaaGreatMai
import Derived.Test.YtmjolmggelkjlaaGreatMac
open Go.Proofs.Tryz renaming prog→aa
open Nat renaming le_refl→ah, zero_le→aO, beq→bY, lt_succ_self→dI, le_succ→eL, zero_add→fD, lt_of_lt_of_le→fK, le_trans→gV, min_eq_left→ic, add_zero→iO, mul_le_mul_right→qT, mul_zero→sW, strongRecOn→xD, mul_le_mul→AM, sub_zero→AV, le_add_right→Fo, min_le_left→anT
open List renaming length_drop→bE, length_append→bG, append_nil→bV, length_take→cT, append_assoc→ey, length_map→fS, take_length→jf, not_mem_nil→jl, drop_drop→jm, drop_zero→jz, nil_append→lk, length→pZ, map_append→qa, drop_length→qY, map_drop→xJ, take_append_drop→AP, map_take→AU, take_of_length_le→FE, drop_append_of_le_length→FI, take_take→MH, drop_nil→aoX
open Bool renaming not_false→cf, and_self→dJ, not_true→eK, noConfusion→FM
open Int renaming toNat_natCast→cV
open Go.Value renaming int→eJ, slice→j3
set_option linter.unusedVariables false
set_option linter.unusedSimpArgs false
namespace Go.Proofs.YtmjolmggelkjlaaGreat.Ev
open Go Go.RowKit
def Mc(h:H)(n:Nat)(x:Value)(news:List Value):Prop:=∃L,kF 1 news.length x h n=some ⟨news,h,n,L⟩∧(∀e∈L,e.wr=false)∧iz x=some news.length
theorem EH(ws:List Nat):(b8 ws).all one=true:=by unfold b8;simp[one]
theorem amp{h:H}{n:Nat}{t:List Nat}(d:∀x∈t,x<256):Mc h n (.string ⟨(bS t).toArray⟩) (b8 t):=by
 have a:(bS t).length=t.length:=by unfold bS;rw[fS]
 refine⟨[], ?_,fun e f=>absurd f jl, ?_⟩
 ·rw[<-qp];show M.ret (((bS t).take (b8 t).length).map fun b=>eJ .u8 (.ofNat b.toNat)) h n=_
  have:((bS t).take (b8 t).length).map (fun b=>eJ .u8 (.ofNat b.toNat))=b8 t:=by rw[FE (by rw[gO,a];exact ah _)];unfold bS b8;rw[List.map_map];refine List.map_congr_left fun x c=> ?_;show eJ .u8 (.ofNat (UInt8.ofNat x).toNat)=_;rw[UInt8.toNat_ofNat',Nat.mod_eq_of_lt (d x c)];rfl
  rw[this];rfl
 ·rw[gO,<-a];rfl
section
variable {β:Type} {W:Nat->Prop} {n0:Nat} {h:H} {n:Nat} {Q:β->H->Nat->Prop}
theorem amq {T:Prop} (_:T) {e:TypeId} {x:Value} {news:List Value} (s:Mc h n x news) (o:0<news.length) (d:news.length<=1099511627776) (h1:news.all one=true) (k:Value->M β)
 (y:af W n0 (k (.slice (some ⟨n,0,none⟩) news.length (bo+news.length))) (h.set n (some ⟨e,true,news⟩)) (n+1) Q):af W n0 (bN e 1 (.slice none 0 0) x k) h n Q:=by
 obtain⟨L,m,l,j⟩:=s
 have i:mz e 1 (.slice none 0 0) x h n=some ⟨.slice (some ⟨n,0,none⟩) news.length (bo+news.length),h.set n (some ⟨e,true,news⟩),n+1,L⟩:=by
  unfold mz;rw[qp,lS];simp only[j];rw[if_neg jO,if_pos d]
  have g:(if(decide (news.length=news.length*1)&&news.all one)=true then(cW e ([]++news)).bind fun id=>M.ret (j3 (some ⟨id,0,none⟩) (0+news.length) (bo+(0+news.length)))else M.fail) h n=some ⟨.slice (some ⟨n,0,none⟩) news.length (bo+news.length),h.set n (some ⟨e,true,news⟩),n+1,[]⟩:=by rw[if_pos (by simp;simpa using h1)];simp only[fD,lk];exact bW (vW _ _ _ _) rfl
  have:=bW (f:=fun a=>if(decide (a.length=news.length*1)&&a.all one)=true then(cW e ([]++a)).bind fun id=>M.ret (j3 (some ⟨id,0,none⟩) (0+news.length) (bo+(0+news.length)))else M.fail) m g;simpa using this
 refine jQ (af.step (jL i) (eL n) (fun x c b=> ?_) y);rw[l x (List.mem_filter.1 c).1]at b;cases b
theorem amr {T:Prop} (_:T) {e:TypeId} {x:Value} {news olds:List Value} (s:Mc h n x news) (B:0<news.length) (h1:news.all one=true) {b cp:Nat} {cs:List Value} (c:h.get b=some ⟨e,true,cs⟩) (d:b<n) (off l:Nat)
 (p:off+l<=cs.length) (m:(cs.drop off).take l=olds) (o:l+news.length<=1099511627776) (A:bo<=cp) (j:n0<=b∨W b) (k:Value->M β)
 (y:af W n0 (k (.slice (some ⟨n,0,none⟩) (l+news.length) (bo+(l+news.length)))) ((h.set b none).set n (some ⟨e,true,olds++news⟩)) (n+1) Q):af W n0 (bN e 1 (.slice (some ⟨b,off,none⟩) l cp) x k) h n Q:=by
 obtain⟨L,v,u,t⟩:=s;obtain⟨z,r,q⟩:=rK (n:=n) c d l off p
 have g:∃i,mz e 1 (.slice (some ⟨b,off,none⟩) l cp) x h n=some ⟨.slice (some ⟨n,0,none⟩) (l+news.length) (bo+(l+news.length)),(h.set b none).set n (some ⟨e,true,olds++news⟩),n+1,i⟩∧∀e∈i,e.wr=true->e.b=b:=by
  refine⟨[⟨false,b,some 1099511627776⟩]++(L++(z++([⟨false,b,none⟩,⟨true,b,none⟩]++[]))), ?_, ?_⟩
  ·unfold mz yp;rw[qp,lS,vN,Gn,mq];simp only[t];rw[if_neg jO,if_pos o];refine bW (Ca c d) ?_;simp only[if_true];refine bW v ?_;rw[if_pos (by simp;simpa using h1)];rw[if_neg jO,Nat.mul_one];refine bW r (bW (Pp c rfl d) ?_);rw[m];exact bW (vW _ _ _ _) rfl
  ·intro x hx a;simp only[List.mem_append,List.mem_cons,jl,or_false]at hx;rcases hx with rfl|hx|hx|rfl|rfl
   ·cases a
   ·rw[u x hx]at a;cases a
   ·rw[q x hx]at a;cases a
   ·cases a
   ·rfl
 obtain⟨i,g,f⟩:=g;refine jQ (af.step (jL g) (eL n) (fun x hx a=> ?_) y);rw[f x (List.mem_filter.1 hx).1 a];exact j
def kC(h:H)(n:Nat)(e:TypeId)(v:Value)(ws:List Nat):Prop:=(v= .slice none 0 0∧ws=[])∨∃b a d c,v= .slice (some ⟨b,a,none⟩) ws.length d∧h.get b=some ⟨e,true,c⟩∧b<n∧a+ws.length<=c.length∧(c.drop a).take ws.length=b8 ws∧bo+ws.length<=d
variable {e:TypeId} {v:Value} {ws:List Nat}
theorem kC.au{h':H}{n':Nat}(o:kC h n e v ws)(d:n<=n')(f:∀b,aK v b->h'.get b=h.get b):kC h' n' e v ws:=by
 rcases o with q|⟨b,a,k,j,c,g,i,r⟩
 ·exact .inl q
 ·exact .inr ⟨b,a,k,j,c,(f b ⟨_,_,_,c⟩).trans g,fK i d,r⟩
theorem kC.lt(o:kC h n e v ws){b:Nat}(a:aK v b):b<n:=by
 rcases o with ⟨rfl,_⟩|⟨c,d,i,g,rfl,_,f,_⟩
 ·exact a.not_nil.elim
 ·rw[a.inj];exact f
theorem kC.len(o:kC h n e v ws):∃a c,v= .slice a ws.length c:=by
 rcases o with ⟨rfl,rfl⟩|⟨b,d,g,f,rfl,_⟩
 ·exact⟨none,0,rfl⟩
 ·exact⟨_,_,rfl⟩
theorem kC.app (o:kC h n e v ws) {t:List Nat} (p:∀x∈t,x<256) (B:ws.length+t.length<=1000000000) (m:∀b,aK v b->n0<=b∨W b) (k:Value->M β)
 (y:∀g h' n',n<=n'->kC h' n' e g (ws++t)->(∀b,aK g b->aK v b∨n<=b)->(∀b,b<n->¬aK v b->h'.get b=h.get b)->af W n0 (k g) h' n' Q):af W n0 (bN e 1 v (.string ⟨(bS t).toArray⟩) k) h n Q:=by
 have d:=gO t;by_cases A:t.length=0
 ·have l:t=[]:=List.length_eq_zero_iff.1 A;subst l;obtain⟨a,c,rfl⟩:=o.len;refine Cb (news:=[]) trivial (x:= .string ⟨(bS []).toArray⟩) rfl a _ c k ?_;exact y _ h n (ah n) (by rw[bV];exact o) (fun b j=> .inl j) (fun b _ _=>rfl)
 ·have s:=amp (h:=h) (n:=n) p;rcases o with ⟨rfl,rfl⟩|⟨b,i,E,D,rfl,r,j,z,u,C⟩
  ·refine amq trivial s jO (by rw[d];omega) (EH t) k ?_;rw[d];exact y _ _ (n+1) (eL n) (.inr ⟨n,0,_,_,by rw[lk],get_eq _ _ _,dI n,by rw[d,lk];omega,by rw[lk,jz,FE jO],by rw[lk];exact ah _⟩) (fun c f=> .inr (by rw[f.inj];exact ah n)) (fun c f _=>aw _ _ jO)
  ·refine amr trivial s jO (EH t) r j i ws.length z u (by rw[d];omega) jO (m b ⟨_,_,_,rfl⟩) k ?_;rw[d];refine y _ _ (n+1) (eL n) (.inr ⟨n,0,_,_,by rw[bG],get_eq _ _ _,dI n,by rw[bG,bG,gO,d];omega,by rw[<-D2,jz,FE (by rw[gO];exact ah _)],by rw[bG];exact ah _⟩) (fun c f=> .inr (by rw[f.inj];exact ah n)) (fun c f q=> ?_);have:c≠b:=fun e=>q ⟨_,_,_,by rw[e]⟩;rw[aw _ _ jO,aw _ _ this]
theorem kC.front(o:kC h n e v ws){m:Nat}(c:m<=ws.length)(j:IntKind)(k:Value->M β)(y:af W n0 (k (.string ⟨(bS (ws.take m)).toArray⟩)) h n Q):af W n0 (nQ e 1 v none (some (.int j (m:Int))) fun g=>hC g k) h n Q:=by
 rcases o with ⟨rfl,rfl⟩|⟨b,off,cp,a,rfl,f,i,r,q,p⟩
 ·obtain rfl:m=0:=by simpa using c
  refine Pv trivial 0 0 _ _ (yB _) (tM _ _ _) (ah _) (ah _) (ah _) _ trivial ?_;exact y
 ·refine Cc trivial f rfl i off ws.length cp _ _ (yB _) (tM _ _ _) (aO _) c jO _ trivial ?_;have l:cp≠0:=by unfold bo at p;omega
  rw[if_neg l,iO,AV,AV];have d:(ws.take m).length=m:=by rw[cT];omega
  have:=uL (W:=W) (n0:=n0) (Q:=Q) (off:=off) (cp:=cp) (ws:=ws.take m) f i (by rw[d];show off+m<=a.length;omega) (by
   rw[d];show(a.drop off).take m=_;have:(a.drop off).take m=((a.drop off).take ws.length).take m:=by rw[MH,ic c]
   rw[this,q];unfold b8
   rw[AU]) k y
  rw[d]at this;exact this
theorem kC.drop(o:kC h n e v ws){m:Nat}(i:m<=ws.length)(p:IntKind)(k:Value->M β)(y:∀f,kC h n e f (ws.drop m)->(∀b,aK f b->aK v b)->af W n0 (k f) h n Q):af W n0 (nQ e 1 v (some (.int p (m:Int))) none k) h n Q:=by
 rcases o with ⟨rfl,rfl⟩|⟨b,a,l,g,rfl,j,d,t,s,r⟩
 ·obtain rfl:m=0:=by simpa using i
  refine Pv trivial 0 0 _ _ (tM _ _ _) (yB _) (ah _) (ah _) (ah _) _ trivial ?_;exact y _ (.inl ⟨rfl,rfl⟩) (fun b d=>d)
 ·refine Cc trivial j rfl d a ws.length l _ _ (tM _ _ _) (yB _) i (ah _) jO _ trivial ?_;rw[if_neg (by unfold bo at r;omega)];refine y _ (.inr ⟨b,a+m,l-m,g,by rw[bE],j,d,by rw[bE];omega, ?_,by rw[bE];omega⟩) (fun c q=>by rw[q.inj];exact⟨_,_,_,rfl⟩);rw[bE];have:(g.drop (a+m)).take (ws.length-m)=((g.drop a).take ws.length).drop m:=by rw[List.drop_take,jm]
  rw[this,s];unfold b8;rw[xJ]
end
end Go.Proofs.YtmjolmggelkjlaaGreat.Ev
namespace Go.Proofs.YtmjolmggelkjlaaGreat
open Go.RowKit Ev Cn Ip
theorem aah:∀(k:Nat) (S:List UInt8),dY (S.drop k)=(dY S).drop (8*k)
 |0,S=>rfl
 |k+1,[]=>by rw[aoX];show []=List.drop _ [];rw[aoX]
 |k+1,b::S=>by rw[List.drop_succ_cons,aah k S];show _=(cq b.toNat 8++dY S).drop (8*(k+1));rw[show 8*(k+1)=8+8*k by omega,<-jm,List.drop_left' (hH _ _)]
theorem ams{S:List UInt8}{D A k:Nat}(h:8*(D+k)<=A):ar (S.drop k) (D+k) A=ar S D A:=by unfold ar;rw[aah,jm];congr 1;omega
section
variable {Y d n p:Nat} {h:H} {S:List UInt8} {D A:Nat}
theorem aai(x:aY h n p S D A):af (fun _=>False) n (aj aa gt Y (d+1) 85 #[jP p 0]) h n fun v h' n'=>v=jI ((S.length:Nat):Int)∧h'=h∧n'=n:=by have g:=x.get;have a:=x.lt;unfold mC at g;rw[aB (fun _=>RJ) rfl];refine af.aA ?_;unfold Ia;exact jC @g
theorem Md(x:aY h n p S D A):af (fun c=>c=p) n (aj aa gt Y (d+1) 119 #[jP p 0]) h n fun _ h' n'=>n'=n∧aY h' n p (S.drop (A/8-D)) (A/8) A∧∀c,c≠p->h'.get c=h.get c:=by
 have g:=x.get;have k:=x.lt;have m:=x.sm;have l:=x.lo;have o:=x.hi;unfold mC at g;rw[aB (fun _=>Sr) rfl];refine af.aA ?_;unfold IB;have i:((A:Int)).tdiv 8=((A/8:Nat):Int):=rfl;have f:IntKind.i64.wrap ((A/8:Nat):Int)=((A/8:Nat):Int):=aH jO jO;have e:IntKind.i64.wrap (((A/8:Nat):Int)-(D:Int))=((A/8-D:Nat):Int):=by rw[aH jO jO];omega
 have i1:(0:Int)<=((A/8-D:Nat):Int):=jO;have j:((A/8-D:Nat):Int)<=(S.length:Int):=jO;have b:IntKind.i64.wrap ((D:Int)+((A/8-D:Nat):Int))=((A/8:Nat):Int):=by rw[aH jO jO];omega
 refine jA (aI @g (aI @i (aI @f (aI @e (aI @i1 (aI @j (aI @b @cV))))))) ?_;refine⟨⟨get_eq _ _ _,k,jO, ?_, ?_⟩,fun c a=>by rw[aw _ _ a,aw _ _ a]⟩
 ·rw[bE];omega
 ·rw[bE];omega
end
section
variable {Y d n p q lo z:Nat} {h:H} {s:Pk} {pv:Value} {dM:Bool} {c:Cd} {m:Cm}
theorem amt{v:Value}{xs:List Int}(o:Own h lo n 3 v (aV .i64 xs))(i:xs.length<=1000000):af (fun _=>False) n (aj aa gt Y (d+1) 208 #[v]) h n fun e _ _=>∃a c,e= .slice a xs.length c:=by
 by_cases j:0<xs.length
 ·exact(D0 Y d n h v xs o.row j i).mono fun e p k _ g=>g.2.1.len
 ·have f:xs=[]:=List.length_eq_zero_iff.1 jO;subst f;rw[aB (fun _=>JN) rfl];refine af.aA ?_;unfold Du;rcases o with ⟨rfl,_⟩|⟨b,rfl,l,_,m⟩
  ·refine jB ?_;exact⟨none,0,rfl⟩
  ·refine jB ?_;refine Pw trivial _ ?_;refine Cb (news:=[]) trivial rfl _ _ _ _ ?_;refine jB ?_;exact⟨_,_,rfl⟩
theorem amu(x:gH h lo n q s pv dM)(r:s.bw.length<=100000):af (fun _=>False) n (aj aa gt Y (d+2) 180 #[jP q 0]) h n fun j _ _=>∃a c,j= .slice a s.bw.length c:=by obtain⟨a,b,c,v,e,f,t,g⟩:=x.cells;have i:=x.lt;have k:=fi s.bw;rw[aB (fun _=>Js) rfl];refine af.aA ?_;unfold Dd;refine jA @g ?_;refine aN aF (amt (Y:=Y) (d:=d) x.own jO) (ah _) (fun _ _ h=>h.elim) fun o u p l m i=> ?_;refine jB ?_;rw[k]at i;exact i
theorem amv(x:cI h n z p c m)(J:c.pk.bw.length<=32768)(B:c.aZ.length<=6)(A:c.size<=258):af (fun _=>False) n (aj aa gt Y (d+3) 146 #[jP z 0]) h n fun u _ _=>u=jI ((c.pk.bw.length+c.size*c.aZ.length:Nat):Int):=by
 have g:=x.get;have f:=x.lt;unfold mD at g
 obtain⟨O,N,k⟩:∃a D,m.cv= .slice a c.aZ.length D:=by
  have l:=x.ku;rcases x.cs with ⟨i,C⟩|⟨b,i,_⟩
  ·have:m.iv=[]:=List.map_eq_nil_iff.1 C;rw[this]at l;rw[i,<-l];exact⟨_,_,rfl⟩
  ·rw[i,fS,l];exact⟨_,_,rfl⟩
 rw[k]at g;have K:c.size*c.aZ.length<=258*6:=AM A B
 have t:IntKind.i64.wrap ((c.size:Int)*((c.aZ.length:Nat):Int))=((c.size*c.aZ.length:Nat):Int):=by rw[show(c.size:Int)*((c.aZ.length:Nat):Int)=((c.size*c.aZ.length:Nat):Int) by push_cast;rfl,aH jO jO]
 have s:IntKind.i64.wrap (((c.pk.bw.length:Nat):Int)+((c.size*c.aZ.length:Nat):Int))=((c.pk.bw.length+c.size*c.aZ.length:Nat):Int):=by rw[aH jO jO];rfl
 rw[aB (fun _=>afy) rfl];refine af.aA ?_;unfold Tu;refine jB ?_;refine gF trivial z 1 _ g f (ah _) rfl fun T G=> ?_;refine jB ?_;refine lV aF (amu (Y:=Y) (d:=d) x.pk jO) (ah _) fun E i I R e o j q=> ?_;obtain⟨a,L,rfl⟩:=j;have r:=(o z f).trans g;refine jB ?_;refine gF trivial z 0 _ r f e rfl fun Q y=> ?_;refine jB ?_;refine gF trivial z 4 _ r f e rfl fun P v=> ?_;try simp(disch:=first|omega|assumption) only[Nat.reduceAdd,Nat.reduceLT,RZ,t,s,q.cy y,q.cy v,cf,dJ,dG]
end
section
variable {Y d n p room Z:Nat} {h:H} {L:Nat->Nat} {k:Bk} {m:Bm} {dM:Int}
theorem Bk.Bd.held{r:Rw}(b:k.Bd room)(d:k.row=some r):r.cd.pk.bw.length<=32768∧r.cd.aZ.length<=6∧r.cd.size<=258:=by
 obtain⟨g,a,f,e⟩:=b.2 r d;refine⟨?_,f,e⟩;by_cases c:r.cd.pk.count=0
 ·rw[(a.new c).1];exact aO _
 ·have:=a.len c;omega
theorem amw(y:eH h n L p room k m dM)(bd:k.Bd room)(Q:room<=900000):af (fun _=>False) n (aj aa gt Y (d+4) 115 #[jP m.b 0]) h n fun x _ _=>∃N:Nat,x=jI (N:Int)∧N<=room+34400:=by
 have g:=y.get;have o:=y.lt;have U:=bd.1;unfold iW at g
 obtain⟨W,T,l⟩:∃a G,m.lv= .slice a k.last.length G:=by
  rcases y.last with ⟨c,D⟩|⟨b,c,_⟩
  ·have:k.last=[]:=by have:=congrArg pZ D;rw[gO]at this;exact List.length_eq_zero_iff.1 this
   rw[c,this];exact⟨_,_,rfl⟩
  ·rw[c,gO];exact⟨_,_,rfl⟩
 rw[l]at g;rw[aB (fun _=>Sn) rfl];refine af.aA ?_;unfold Iw;cases e:k.row with
 |none=>rw[e]at g;unfold uT at g;refine jA @g ?_;exact⟨k.last.length,rfl,jO⟩
 |some r=>
  rw[e]at g;unfold uT at g;have f:=y.row r e;have s:=f.get;have B:=f.lt;unfold qJ at s;obtain⟨I,u,t⟩:=bd.held e;have R:r.cd.size*r.cd.aZ.length<=258*6:=AM t u;have ch:=amv (Y:=Y) (d:=d) f.cd I u t;obtain⟨N,C⟩:∃N,r.cd.pk.bw.length+r.cd.size*r.cd.aZ.length=N:=⟨_,rfl⟩;rw[C]at ch;have v:IntKind.i64.wrap ((N:Int)+((k.last.length:Nat):Int))=((N+k.last.length:Nat):Int):=by rw[aH jO jO];rfl
  refine jA @g ?_;refine gF trivial m.b 0 _ g o (ah _) rfl fun T1 O=> ?_;refine jB ?_;refine gF trivial m.x 0 _ s B (ah _) rfl fun T2 K=> ?_;refine jB ?_;refine lV aF ch (ah _) fun J c P Z j q i A=> ?_;subst i;have E:=(q m.b o).trans g;refine jB ?_;refine gF trivial m.b 5 _ E o j rfl fun X z=> ?_;try simp(disch:=first|omega|assumption) only[Nat.reduceAdd,Nat.reduceLT,RZ,v,A.cy z,cf,dJ,dG]
  exact⟨N+k.last.length,rfl,jO⟩
theorem amx{u:Us}{m:Um}(y:eh h n L p Z u m dM)(bd:∀b,u.bf=some b->b.Bd (u.level*Z))(lv:u.level<=9)(t:Z<=100000):af (fun _=>False) n (aj aa gt Y (d+5) 86 #[jP m.a 0]) h n fun e _ _=>∃N:Nat,e=jI (N:Int)∧N<=9*Z+34400∧(u.bf=none->N=0):=by
 have g:=y.get;have x:=y.lt;unfold iX at g;have v:u.level*Z<=9*Z:=qT _ lv;rw[aB (fun _=>aeJ) rfl];refine af.aA ?_;unfold RK;cases c:u.bf with
 |none=>
  rw[c]at g;unfold uW at g
  have a:af (fun _=>False) n (aj aa gt Y (d+4) 115 #[.pointer none]) h n fun e l j=>e=jI 0∧l=h∧j=n:=by rw[aB (fun _=>Sn) rfl];refine af.aA ?_;unfold Iw;exact jE
  refine jA @g ?_;refine bq a (ah _) (fun _ _ h=>h.elim) ?_;refine jB ?_;exact⟨0,rfl,aO _,fun _=>rfl⟩
 |some b=>rw[c]at g;unfold uW at g;obtain⟨w,i,_⟩:=y.bf b c;refine jA @g ?_;refine aN aF (amw (Y:=Y) (d:=d) i (bd b c) jO) (ah _) (fun _ _ h=>h.elim) fun r A s k o f=> ?_;obtain⟨N,rfl,z⟩:=f;refine jB ?_;exact⟨N,rfl,jO,fun q=>nomatch q⟩
theorem amy{a j b s:Nat}{l:List Nat}(x:gT h n a l b s j (.slice none 0 0) [])(m:l.length<=900000):af (fun _=>False) n (aj aa gt Y (d+1) 87 #[jP a 0]) h n fun i h' n'=>i=jI ((2*l.length:Nat):Int)∧h'=h∧n'=n:=by
 have g:=x.get;have o:=x.lt;have k:=lZ l;have f:IntKind.i64.wrap (2*((l.length:Nat):Int))=((2*l.length:Nat):Int):=by rw[aH jO jO];rfl
 have e:IntKind.i64.wrap (((2*l.length:Nat):Int)+0)=((2*l.length:Nat):Int):=by rw[Int.add_zero,aH jO jO]
 have c:((0:Nat):Int)=0:=rfl;rw[aB (fun _=>aeK) rfl];refine af.aA ?_;unfold RL;exact jC (aI @g (aI @xj (aI @LB (aI @k (aI @f (aI @c @e))))))
end
structure Ex where
 c:Xc
 ru:Us
 wr:Int
 D:Nat
 F:List UInt8
 ended:Bool
 short:Bool
 out:List Nat
 steps:Nat
structure Xm where
 a:Nat
 p:Nat
 um:Um
 oa:Nat
 om:Om
 ov:Value
def lN(o:Option j0)(a:Nat):Value:=match o with
 |none=> .pointer none
 |some _=> .pointer (some ⟨a,0,none⟩)
def lO(f:Option Int):Int:=match f with
 |none=>0
 |some e=>e
def fX(f:Option Int):Bool:=match f with
 |none=>false
 |some _=>true
def jb(win lim:Nat)(x:Ex)(m:Xm):AB:=⟨132,true,[jI (win:Int),jI (lim:Int),.bool x.ended,jP m.p 0,jP m.um.a 0,lN x.c.op m.oa,.bool x.short,m.ov,.bool (fX x.c.fin),jI (lO x.c.fin),jI (x.steps:Int)]⟩
structure eI (h:H) (n:Nat) (L:Nat->Nat) (Z win lim:Nat) (x:Ex) (m:Xm):Prop where
 get:h.get m.a=some (jb win lim x m)
 lt:m.a<n
 la:L m.a=18
 rd:∃B,aY h n m.p (x.F.drop x.D) x.D B∧(x.c.fin=none->B=x.c.A)
 lp:L m.p=1
 us:eh h n L m.p Z x.ru m.um x.wr
 fl:x.c.fin=none->m.um.bm.Fl
 op:∀o,x.c.op=some o->nq h n L m.oa m.om x.c.u.aS o
 out:kC h n 5 m.ov x.out
 lo:∀b,aK m.ov b->L b=19
def WX(L:Nat->Nat):Nat->Prop:=fun c=>1<=L c∧L c<=19
theorem pW{L:Nat->Nat}{c i:Nat}(h:L c=i)(h1:1<=i)(h2:i<=19):WX L c:=by unfold WX;omega
theorem eI.au{h h':H}{n n':Nat}{L L':Nat->Nat}{Z win lim:Nat}{e:Ex}{m:Xm}(x:eI h n L Z win lim e m)(d:n<=n')(g:∀c,c<n->L' c=L c)(f:∀c,c<n->1<=L c->L c<=19->h'.get c=h.get c):eI h' n' L' Z win lim e m:=by
 obtain⟨B,i,k⟩:=x.rd
 exact⟨(f _ x.lt (by rw[x.la];decide) (by rw[x.la];decide)).trans x.get,fK x.lt d,(g _ x.lt).trans x.la,
  ⟨B,i.au d (f _ i.lt (by rw[x.lp];decide) (by rw[x.lp];decide)),k⟩,(g _ i.lt).trans x.lp,
  x.us.au d g (fun c j q p=>f c j jO jO),x.fl,
  fun o l=>(x.op o l).au d g (fun c j q p=>f c j jO jO),
  x.out.au d (fun b a=>f b (x.out.lt a) (by rw[x.lo b a];decide) (by rw[x.lo b a];decide)),fun b a=>(g b (x.out.lt a)).trans (x.lo b a)⟩
def pX(L:Nat->Nat)(n Z win lim:Nat)(m:Xm)(d:Ex)(h':H)(n':Nat):Prop:=∃b a,(∀c,c<n->b c=L c)∧a.a=m.a∧eI h' n' b Z win lim d a
def dx(lim:Nat)(e:Ex):Bool:=match e.c.fin with
 |some _=>true
 |none=>match e.c.op with
  |some _=>decide (lim<=e.out.length)
  |none=>e.short
def nr(g:Gt)(o:j0):List Nat:=match hY g o with
 | .fail t _=>t
 | .fin t=>t
 | .go t _=>t
def sP(e:Ex)(o:j0):Ex:={e with c:=dU e.c o,out:=e.out++nr e.c.u.aS o}
theorem amz{g:Gt}{o:j0}{t:List Nat}{e:Int}(h:hY g o= .fail t e):e=25∨e=21:=by
 unfold hY at h;split at h
 ·cases h
 ·split at h
  ·cases h;exact .inl rfl
  ·split at h
   ·split at h
    ·cases h;exact .inl rfl
    ·split at h
     ·cases h
     ·cases h;exact .inr rfl
   ·cases h
section
variable {Y d n Z win lim:Nat} {h:H} {L:Nat->Nat} {e:Ex} {m:Xm} {o:j0}
theorem aaj(x:eI h n L Z win lim e m):af (fun _=>False) n (aj aa gt Y (d+1) 37 #[jP m.a 0]) h n fun v h' n'=>v= .bool (dx lim e)∧h'=h∧n'=n:=by
 have g:=x.get;have i:=x.lt;obtain⟨k,j,a⟩:=x.out.len;unfold jb at g;rw[a]at g;rw[aB (fun _=>QM) rfl];refine af.aA ?_;unfold HL dx;cases f:e.c.fin with
 |some q=>rw[f]at g;simp only[fX]at g;exact jC @g
 |none=>
  rw[f]at g;simp only[fX]at g;cases b:e.c.op with
  |none=>rw[b]at g;simp only[lN]at g;exact jC @g
  |some o=>
   rw[b]at g;simp only[lN]at g
   have z:decide (((lim:Nat):Int)<=((e.out.length:Nat):Int))=decide (lim<=e.out.length):=by
    by_cases c:lim<=e.out.length
    ·rw[decide_eq_true c,decide_eq_true jO]
    ·rw[decide_eq_false c,decide_eq_false jO]
   exact jC (aI @g @z)
theorem E7{a:Nat}{p o m l k s j i r q b:Value}(g:h.get a=some ⟨132,true,[p,o,m,l,k,s,j,i,r,q,b]⟩)(t:a<n)(f:Int):af (fun c=>c=a) n (aj aa gt Y (d+1) 117 #[jP a 0,jI f]) h n fun _ h' n'=>n'=n∧h'.get a=some ⟨132,true,[p,o,m,l,k,.pointer none,j,i,.bool true,jI f,b]⟩∧∀c,c≠a->h'.get c=h.get c:=by rw[aB (fun _=>Sp) rfl];refine af.aA ?_;unfold Iz;refine jA @g ?_;exact fun c e=>by rw[aw _ _ e,aw _ _ e,aw _ _ e]
theorem amA(x:eI h n L Z win lim e m)(ef:e.c.fin=none)(eo:e.c.op=some o)(ok:l5 e.c.u.aS.last e.c.u.aS.bK)(hs:e.c.u.aS.sum<4294967296)(hk:o.k<3*e.c.u.aS.last.length)(v7:e.out.length<=1000000)(v2:3000000<=Y):af (WX L) n (aj aa gt Y (d+5) 88 #[jP m.a 0]) h n fun _ h' n'=>pX L n Z win lim m (sP e o) h' n':=by
 have g:=x.get;have ha:=x.lt;have la:=x.la;have p:=x.op o eo;obtain⟨B,r1,r2⟩:=x.rd;have lp:=x.lp;unfold jb at g;rw[ef,eo]at g;simp only[fX,lO,lN]at g;rw[aB (fun _=>RM) rfl];refine af.aA ?_;unfold Ib;refine jA @g ?_;refine aN aF (amn (Y:=Y) (d:=d) p ok hs hk v2) (ah _) (fun b _ i=> .inr (by have C:=i.1;have D:=i.2;unfold WX;omega)) fun v1 C J v0 W s=> ?_;have nw:∀c,L c<14∨17<L c->¬WO L c:=fun c f q=>by have C:=q.1;have D:=q.2;omega
 have g1:=(W m.a ha (nw _ jO)).trans g;have u2:m.a<J:=jO;have o1:kC C J 5 m.ov e.out:=x.out.au v0 fun b i=>W b (x.out.lt i) (nw b (by have:=x.lo b i;omega))
 obtain⟨t,K,rfl,bt,lt,ht,f⟩:∃t K,v1= .tuple #[.string ⟨(bS t).toArray⟩,jI K]∧By t∧t.length<=251∧nr e.c.u.aS o=t∧((hY e.c.u.aS o= .fail t K∧K≠0)∨(hY e.c.u.aS o= .fin t∧K=0∧C.get m.oa=some (sO e.c.u.aS m.om)∧gT C J m.om.ia e.c.u.aS.last e.c.u.aS.bK (3*e.c.u.aS.last.length) m.om.lb (.slice none 0 0) [])∨(∃r,hY e.c.u.aS o= .go t r∧K=0∧nq C J L m.oa m.om e.c.u.aS r∧r.k<3*e.c.u.aS.last.length)):=by
  unfold Ma at s;unfold nr;cases l:hY e.c.u.aS o with
  |fail t K=>rw[l]at s;obtain⟨C,D,O⟩:=s;exact⟨t,K,C,D,O,rfl,.inl ⟨rfl,by rcases amz l with q|q<;>omega⟩⟩
  |fin t=>rw[l]at s;obtain⟨C,⟨D,O⟩,y,h5⟩:=s;exact⟨t,0,C,y,h5,rfl,.inr (.inl ⟨rfl,rfl,D,O⟩)⟩
  |go t r=>rw[l]at s;obtain⟨C,D,O,y,h5⟩:=s;exact⟨t,0,C,O,y,rfl,.inr (.inr ⟨r,rfl,rfl,D,h5⟩)⟩
 refine jA (aI @bJ (aI @ext1 @g1)) ?_;refine o1.app bt jO (fun b i=> .inr (pW (x.lo b i) jD jD)) _ fun R D n2 u1 o2 ib k=> ?_;have j:∀c,L c≠19->¬aK m.ov c:=fun c f q=>f (x.lo c q);have g2:=(k m.a u2 (j _ jO)).trans g1;have v3:m.a<n2:=jO;have X:WX L m.a:=pW la jD jD
 have u5:∀{b},aK R b->b≠m.a:=fun{b} i q=>by
  rcases ib b i with w|w
  ·have:=x.lo b w;rw[q]at this;omega
  ·omega
 have jJ:∀c,c<n->¬WO L c->L c≠19->D.get c=h.get c:=fun c f O y=>(k c jO (j c y)).trans (W c f O)
 have G:∀(y:H) (n4:Nat) (I:Ex),n2<=n4->(∀c,c≠m.a->y.get c=D.get c)->I.F=e.F->I.D=e.D->I.c.A=e.c.A->I.ru=e.ru->I.wr=e.wr->I.out=e.out++t->I.c.u=e.c.u->y.get m.a=some (jb win lim I {m with ov:=R})->(∀r,I.c.op=some r->nq C J L m.oa m.om e.c.u.aS r)->pX L n Z win lim m I y n4:=by
  intro y n4 I u0 k4 i1 i2 i3 i4 i5 i6 i7 g4 bC;have kk:∀c,c<n->¬WO L c->L c≠19->L c≠18->y.get c=h.get c:=fun c f O h5 h6=>(k4 c (fun q=>h6 (q▸la))).trans (jJ c f O h5);have Ls:∀c,c<J->(fun c=>if c<J then L c else 19) c=L c:=fun c f=>if_pos f;have P:∀c,c<n->(fun c=>if c<J then L c else 19) c=L c:=fun c f=>if_pos jO;refine⟨fun c=>if c<J then L c else 19,{m with ov:=R},P,rfl,⟨g4,by show m.a<n4;omega,(Ls _ u2).trans la, ?_,(P _ r1.lt).trans lp, ?_,fun _=>x.fl ef, ?_, ?_, ?_⟩⟩
  ·rw[i1,i2,i3];exact⟨B,r1.au jO (kk _ r1.lt (nw _ jO) jO jO),fun _=>r2 ef⟩
  ·rw[i4,i5];exact x.us.au jO P (fun c f q1 q2=>kk c f (nw c jO) jO jO)
  ·intro r v;rw[i7];exact(bC r v).au jO Ls (fun c f q1 q2=>(k4 c (fun q=>by rw[q]at q2;omega)).trans (k c f (j c jO)))
  ·rw[i6];exact o2.au u0 (fun b i=>k4 b (u5 i))
  ·intro b i;rcases ib b i with w|w
   ·exact(P b (x.out.lt w)).trans (x.lo b w)
   ·show(if b<J then L b else 19)=19;rw[if_neg jO]
 obtain⟨a7,c7,N⟩:=o2.len;rw[N];rcases f with ⟨l,u9⟩|⟨l,rfl,v5,U⟩|⟨r,l,rfl,Q,v9⟩
 ·have z:(K !=0)=true:=by rw[bne_iff_ne];exact u9
  refine jA (aI @g2 (aI @z (aI @X (aI @or_true @true_and)))) ?_;refine aN aF (E7 (Y:=Y) (d:=d+3) (get_eq _ _ _) v3 K) jO (fun b _ i=> .inr (by have i:b=m.a:=i;rw[i];exact X)) fun v4 y n4 u0 w0 u6=> ?_;obtain⟨rfl,g4,k4⟩:=u6;refine(kS _).2 ?_;refine G y _ _ (ah _) (fun c f=>(k4 c f).trans (aw _ _ f)) rfl rfl ?_ rfl rfl (by show e.out++nr _ _=_;rw[ht]) ?_ ?_ ?_
  ·show(dU e.c o).A=_;unfold dU;rw[l]
  ·show(dU e.c o).u=_;unfold dU;rw[l]
  ·rw[g4];unfold jb sP dU;rw[l,<-N];rfl
  ·intro r v;have:(dU e.c o).op=some r:=v;unfold dU at this;rw[l]at this;cases this
 ·have z:((0:Int) !=0)=false:=rfl;have a:=Aq (Y:=Y) (d:=d+3) (U.au (h':=D.set m.a (some ⟨132,true,[jI (win:Int),jI (lim:Int),.bool e.ended,jP m.p 0,jP m.um.a 0,jP m.oa 0,.bool e.short,.slice a7 (e.out++t).length c7,.bool false,jI 0,jI (e.steps:Int)]⟩)) u1 (by rw[aw _ _ (fun q=>by have:=p.li;rw[q]at this;omega)];exact k _ U.lt (j _ (by have:=p.li;omega))) (by rw[aw _ _ (fun q=>by have:=p.ll;rw[q]at this;omega)];exact k _ U.sH (j _ (by have:=p.ll;omega))) (fun b i=>i.not_nil.elim)) ok (ah _);rw[decide_eq_true rfl]at a;have E:=(k m.oa (by have:=p.lt;omega) (j _ (by have:=p.la;omega))).trans v5;have u7:m.oa<n2:=by have:=p.lt;omega
  have T:m.oa≠m.a:=fun q=>by have:=p.la;rw[q]at this;omega
  unfold sO at E;refine jA (aI @g2 (aI @z (aI @E (aI @T (aI @X (aI @or_true @true_and)))))) ?_;refine bq a jO (fun _ _ h=>h.elim) ?_;refine jA (aI @X (aI @or_true @true_and)) ?_;refine G _ _ _ (ah _) (fun c f=>by rw[aw _ _ f,aw _ _ f]) rfl rfl ?_ rfl rfl (by show e.out++nr _ _=_;rw[ht]) ?_ ?_ ?_
  ·show(dU e.c o).A=_;unfold dU;rw[l]
  ·show(dU e.c o).u=_;unfold dU;rw[l]
  ·rw[get_eq];unfold jb sP dU;rw[l,<-N];show _=some (AB.mk _ _ [_,_,_,_,_,_,_,_,.bool (fX e.c.fin),jI (lO e.c.fin),_]);rw[ef];rfl
  ·intro r v;have:(dU e.c o).op=some r:=v;unfold dU at this;rw[l]at this;cases this
 ·have z:((0:Int) !=0)=false:=rfl;have xi:=Q.inv;have a:=Aq (Y:=Y) (d:=d+3) (xi.au (h':=D.set m.a (some ⟨132,true,[jI (win:Int),jI (lim:Int),.bool e.ended,jP m.p 0,jP m.um.a 0,jP m.oa 0,.bool e.short,.slice a7 (e.out++t).length c7,.bool false,jI 0,jI (e.steps:Int)]⟩)) u1 (by rw[aw _ _ (fun q=>by have:=p.li;rw[q]at this;omega)];exact k _ xi.lt (j _ (by have:=p.li;omega))) (by rw[aw _ _ (fun q=>by have:=p.ll;rw[q]at this;omega)];exact k _ xi.sH (j _ (by have:=p.ll;omega))) (fun b i=>i.not_nil.elim)) ok jO;rw[decide_eq_false jO]at a;have E:=(k m.oa (by have:=p.lt;omega) (j _ (by have:=p.la;omega))).trans Q.get;have u7:m.oa<n2:=by have:=p.lt;omega
  have T:m.oa≠m.a:=fun q=>by have:=p.la;rw[q]at this;omega
  unfold sO at E;refine jA (aI @g2 (aI @z (aI @E (aI @T (aI @X (aI @or_true @true_and)))))) ?_;refine bq a jO (fun _ _ h=>h.elim) ?_;refine jA (aI @X (aI @or_true @true_and)) ?_;refine G _ _ _ (ah _) (fun c f=>by rw[aw _ _ f]) rfl rfl ?_ rfl rfl (by show e.out++nr _ _=_;rw[ht]) ?_ ?_ ?_
  ·show(dU e.c o).A=_;unfold dU;rw[l]
  ·show(dU e.c o).u=_;unfold dU;rw[l]
  ·rw[get_eq];unfold jb sP dU;rw[l,<-N];show _=some (AB.mk _ _ [_,_,_,_,_,_,_,_,.bool (fX e.c.fin),jI (lO e.c.fin),_]);rw[ef];rfl
  ·intro u4 v;have:(dU e.c o).op=some u4:=v;unfold dU at this;rw[l]at this;cases this;exact Q
end
def E8(e:Ex)(a:Int):Ex:={e with c:={e.c with fin:=some a}}
def amB(e:Ex)(a:Us)(w b:Nat):Ex:={e with c:={e.c with u:=a,A:=e.c.A+w,op:=if b=1 then some mI else none},ru:=a,wr:=0,D:=(e.c.A+w)/8}
def j1(e:Ex):List Bool:=ar (e.F.drop e.D) e.D e.c.A
def E9(Z:Nat)(e:Ex)(v:Value)(c:Ex):Prop:=match dc Z e.c.u e.c.A (j1 e)with
 | .short=>if e.ended=true then v= .bool true∧c={E8 e 24 with D:=e.c.A/8}else v= .bool false∧c={e with short:=true,D:=e.c.A/8}
 | .bad d=>v= .bool true∧∃a B,c={E8 e d with ru:=a,wr:=d,D:=B/8}∧8*e.D<=B∧B<=8*e.F.length∧a.level<=9∧∀b,a.bf=some b->b.Bd (a.level*Z)
 | .ok (f,a) w=>v= .bool true∧c=amB e a w f∧e.c.A+w<=8*e.F.length
def xx(Z:Nat)(e:Ex)(v:Value)(a:Ex):Prop:=if e.ended=true∧e.c.u.may=true∧(j1 e).length=0 then v= .bool true∧a=E8 e 0 else E9 Z e v a
noncomputable def xy (r:RT) (a:Value):M Value:=ak a fun b=>ay 4 b fun c=>aP c fun d=>ak a fun e=>ay 3 e fun f=>aP f fun g=>ai r 99 [d,g] fun h=>aU h 0 fun i=>aU h 1 fun j=>ak a fun b=>ay 3 b fun c=>aP c fun d=>ai r 119 [d] fun e=>cH j (ii 3) fun b=>aC b (ak a fun c=>ay 2 c fun d=>aP d fun e=>dC e fun f=>aC f (ak a fun b=>ay 6 b fun c=>aJ c bT fun _=>ag [bF]) (cH j (ii 3) fun b=>aC b (ai r 117 [a,(ii 24)] fun c=>ag [bT]) (fG j (ii 0) fun c=>aC c (ai r 117 [a,j] fun d=>ag [bT]) (cH i (ii 1) fun d=>aC d (ak a fun e=>ay 4 e fun g=>aP g fun h=>ai r 121 [h] fun l=>ai r 120 [l] fun m=>ak a fun n=>ay 5 n fun o=>aJ o m fun _=>ag [bT]) (ag [bT]))))) (cH j (ii 3) fun b=>aC b (ai r 117 [a,(ii 24)] fun c=>ag [bT]) (fG j (ii 0) fun c=>aC c (ai r 117 [a,j] fun d=>ag [bT]) (cH i (ii 1) fun d=>aC d (ak a fun e=>ay 4 e fun f=>aP f fun g=>ai r 121 [g] fun h=>ai r 120 [h] fun l=>ak a fun m=>ay 5 m fun n=>aJ n l fun _=>ag [bT]) (ag [bT]))))
theorem amC(Y:Nat)(r:RT)(a:Value):Ic Y r a=ak a fun b=>ay 2 b fun c=>aP c fun d=>aC d (ak a fun e=>ay 4 e fun f=>aP f fun g=>ai r 97 [g] fun h=>aC h (ak a fun i=>ay 3 i fun j=>aP j fun l=>ai r 98 [l] fun m=>cH m (ii 0) fun n=>aC n (ai r 117 [a,(ii 0)] fun b=>ag [bT]) (xy r a)) (xy r a)) (xy r a):=rfl
section
variable {Y d n Z win lim:Nat} {h:H} {L:Nat->Nat} {e:Ex} {m:Xm}
theorem amD(x:eI h n L Z win lim e m)(ef:e.c.fin=none)(eo:e.c.op=none)(hr:e.ru=e.c.u)(hw:e.wr=0)(ko:m9 Z e.c.A e.c.u)(hD:e.D<=e.F.length)(hg:∀u' w,dc Z e.c.u e.c.A (j1 e)= .ok (1,u') w->At u'.aS)(hA:e.c.A<=1000000000000000)(v0:3000000<=Y):af (WX L) n
 (xy (aj aa gt Y (d+15)) (jP m.a 0))
 h n fun v' h' n'=>∃p,E9 Z e v' p∧pX L n Z win lim m p h' n':=by
 have g:=x.get;have ha:=x.lt;have la:=x.la;have lp:=x.lp;obtain⟨B0,r1,r2⟩:=x.rd;obtain rfl:=r2 ef;have y:=x.us;rw[hr,hw]at y;have fl:=x.fl ef;unfold jb at g;rw[ef,eo]at g;simp only[fX,lO,lN]at g;have wa:WX L m.a:=pW la jD jD;have x5:(e.F.drop e.D).length=e.F.length-e.D:=bE
 have u4:∀{B:Nat},8*e.D<=B->(e.F.drop e.D).drop (B/8-e.D)=e.F.drop (B/8):=fun{B} hB=>by rw[jm];congr 1;omega
 have l:∀(i:H) (R:Nat) (L4:Nat->Nat) (p:Ex) (z:Um) (K:Nat) (J:Om),n<=R->(∀c,c<n->L4 c=L c)->(∀c,c<n->L c=19->i.get c=h.get c)->(∃B,aY i R m.p (p.F.drop p.D) p.D B∧(p.c.fin=none->B=p.c.A))->eh i R L4 m.p Z p.ru z p.wr->(p.c.fin=none->z.bm.Fl)->(∀o,p.c.op=some o->nq i R L4 K J p.c.u.aS o)->p.out=e.out->i.get m.a=some (jb win lim p ⟨m.a,m.p,z,K,J,m.ov⟩)->pX L n Z win lim m p i R:=fun i R L4 p z K J hn hL hk rd us fl op u6 g4=>⟨L4,⟨m.a,m.p,z,K,J,m.ov⟩,hL,rfl,⟨g4,fK ha hn,(hL _ ha).trans la,rd,(hL _ r1.lt).trans lp,us,fl,op,by rw[u6];exact x.out.au hn (fun b f=>hk b (x.out.lt f) (x.lo b f)),fun b f=>(hL b (x.out.lt f)).trans (x.lo b f)⟩⟩
 have v9:=aj9 (Y:=Y) (d:=d) r1 y fl lp ko hA v0;unfold xy;refine jA @g ?_;refine aN aF v9 (ah _) (fun b _ f=> .inr (by have h1:=f.1;have P:=f.2;unfold WX;omega)) fun v1 h1 n1 u0 v8 s=> ?_;have nw:∀c,10<=L c->¬WU L c:=fun c a q=>by have:=q.2;omega
 have g1:=(v8 m.a ha (nw m.a jO)).trans g;have v6:m.a<n1:=jO;have E:m.p≠m.a:=fun q=>by rw[q]at lp;omega
 have u2:m.a≠m.p:=fun q=>E q.symm;have X:∀c,c<n->L c=19->h1.get c=h.get c:=fun c a j=>v8 c a (nw c jO);unfold E9;have w4:j1 e=ar (e.F.drop e.D) e.D e.c.A:=rfl;rw[w4]at hg⊢;have wp:∀b,b=m.p->WX L b:=fun b f=>by rw[f];exact pW lp jD jD
 cases es:dc Z e.c.u e.c.A (ar (e.F.drop e.D) e.D e.c.A)with
 |short=>
  rw[es]at s;obtain⟨rfl,v,y1⟩:=s;have U:((3:Int)==3)=true:=rfl;refine jA (aI @bJ (aI @ext1 @g1)) ?_;refine aN aF (Md (Y:=Y) (d:=d+14) v) u0 (fun b _ f=> .inr (wp b f)) fun v2 P n2 u9 v7 D=> ?_;obtain⟨rfl,I,A⟩:=D;rw[u4 v.lo]at I;have u:=(A m.a u2).trans g1;have Q:eh P _ L m.p Z e.c.u m.um 0:=y1.au (ah _) (fun _ _=>rfl) fun c a r i=>A c fun q=>by rw[q]at r;omega
  have k:∀c,c<n->L c=19->P.get c=h.get c:=fun c a j=>(A c (fun q=>by rw[q]at j;omega)).trans (X c a j);cases ee:e.ended with
  |true=>
   rw[ee]at u;refine jA (aI @U (aI @u @eK)) ?_;refine aN aF (E7 (Y:=Y) (d:=d+14) u jO 24) jO (fun b _ f=> .inr (by have f:b=m.a:=f;rw[f];exact wa)) fun v3 r n3 u7 u3 C=> ?_;obtain⟨rfl,g3,W⟩:=C;refine(kS _).2 ⟨_,⟨rfl,rfl⟩, ?_⟩;refine l r _ L _ m.um m.oa m.om jO (fun _ _=>rfl) (fun c a j=>(W c (fun q=>by rw[q]at j;omega)).trans (k c a j)) ⟨_,I.au (ah _) (W _ E),fun q=>nomatch q⟩ ?_ (fun q=>nomatch q) (fun o O=> ?_) rfl ?_
   ·show eh _ _ _ _ _ e.ru _ e.wr;rw[hr,hw];exact Q.au (ah _) (fun _ _=>rfl) fun c a r i=>W c fun q=>by rw[q]at i;omega
   ·have:e.c.op=some o:=O;rw[eo]at this;cases this
   ·rw[g3];show _=some (AB.mk _ _ [_,_,.bool e.ended,_,_,lN e.c.op _,_,_,_,_,_]);rw[ee,eo];rfl
  |false=>
   rw[ee]at u;refine jA (aI @U (aI @u (aI @cf (aI @wa (aI @or_true @true_and))))) ?_;refine⟨_,rfl, ?_⟩;refine l _ _ L _ m.um m.oa m.om jO (fun _ _=>rfl) (fun c a j=>(aw _ _ (fun q=>by rw[q]at j;omega)).trans (k c a j)) ⟨_,I.au (ah _) (aw _ _ E),fun _=>rfl⟩ ?_ (fun _=>fl) (fun o O=> ?_) rfl ?_
   ·show eh _ _ _ _ _ e.ru _ e.wr;rw[hr,hw];exact Q.au (ah _) (fun _ _=>rfl) fun c a r i=>aw _ _ fun q=>by rw[q]at i;omega
   ·have:e.c.op=some o:=O;rw[eo]at this;cases this
   ·rw[get_eq];show _=some (AB.mk _ _ [_,_,_,_,_,lN e.c.op _,_,_,.bool (fX e.c.fin),jI (lO e.c.fin),_]);rw[eo,ef];rfl
 |bad er=>
  rw[es]at s;obtain⟨rfl,he,⟨B,v⟩,G,u1,N,T,a2,y1,w0,x1⟩:=s;have U:(er==3)=false:=beq_eq_false_iff_ne.2 jO;have z0:(er !=0)=true:=by rw[bne_iff_ne];omega
  refine jA (aI @bJ (aI @ext1 @g1)) ?_;refine aN aF (Md (Y:=Y) (d:=d+14) v) u0 (fun b _ f=> .inr (wp b f)) fun v2 P n2 u9 v7 D=> ?_;obtain⟨rfl,I,A⟩:=D;rw[u4 v.lo]at I;have u:=(A m.a u2).trans g1;have w1:G m.p=1:=(T _ r1.lt).trans lp;have w3:G m.a=18:=(T _ ha).trans la;have Q:eh P _ G m.p Z u1 N er:=y1.au (ah _) (fun _ _=>rfl) fun c a r i=>A c fun q=>by rw[q]at r;omega
  refine jA (aI @U (aI @z0 @u)) ?_;refine aN aF (E7 (Y:=Y) (d:=d+14) u jO er) jO (fun b _ f=> .inr (by have f:b=m.a:=f;rw[f];exact wa)) fun v3 r n3 u7 u3 C=> ?_;obtain⟨rfl,g3,W⟩:=C;have w6:=v.hi;refine(kS _).2 ⟨_,⟨rfl,u1,B,rfl,v.lo,jO,w0,x1⟩, ?_⟩;refine l r _ G _ N m.oa m.om jO T (fun c a j=>(W c (fun q=>by rw[q]at j;omega)).trans ((A c (fun q=>by rw[q]at j;omega)).trans (X c a j))) ⟨_,I.au (ah _) (W _ E),fun q=>nomatch q⟩ ?_ (fun q=>nomatch q) (fun o O=> ?_) rfl ?_
  ·exact Q.au (ah _) (fun _ _=>rfl) fun c a r i=>W c fun q=>by rw[q]at i;omega
  ·have:e.c.op=some o:=O;rw[eo]at this;cases this
  ·rw[g3];show _=some (AB.mk _ _ [_,_,_,_,jP N.a 0,lN e.c.op _,_,_,_,_,_]);rw[a2,eo];rfl
 |ok t w=>
  obtain⟨wh,u1⟩:=t;have v5:=hg u1 w;rw[es]at s v5;obtain⟨rfl,v,G,N,T,a2,y1,f1⟩:=s;have U:((0:Int)==3)=false:=rfl;have z0:((0:Int) !=0)=false:=rfl;have w6:=v.hi;have w2:=v.lo;refine jA (aI @bJ (aI @ext1 @g1)) ?_;refine aN aF (Md (Y:=Y) (d:=d+14) v) u0 (fun b _ f=> .inr (wp b f)) fun v2 P n2 u9 v7 D=> ?_;obtain⟨rfl,I,A⟩:=D;rw[u4 w2]at I;have u:=(A m.a u2).trans g1;have w1:G m.p=1:=(T _ r1.lt).trans lp;have w3:G m.a=18:=(T _ ha).trans la;have Q:eh P _ G m.p Z u1 N 0:=y1.au (ah _) (fun _ _=>rfl) fun c a r i=>A c fun q=>by rw[q]at r;omega
  have k:∀c,c<n->L c=19->P.get c=h.get c:=fun c a j=>(A c (fun q=>by rw[q]at j;omega)).trans (X c a j);by_cases c1:wh=1
  ·subst c1;have z1:(((1:Nat):Int)==1)=true:=rfl;obtain⟨w7,x4⟩:=v5 rfl;refine jA (aI @U (aI @z0 (aI @z1 @u))) ?_;rw[<-a2];refine aN aF (aj' (Y:=Y) (d:=d+14) Q) jO (fun _ _ h=>h.elim) fun v3 r n3 u7 u3 C=> ?_;subst C;refine aN aF (amo (Y:=Y) (d:=d+11) w7 G v0) jO (fun _ _ h=>h.elim) fun v4 i R x2 w9 w5=> ?_;obtain⟨a5,m5,L5,rfl,b1,xo⟩:=w5;have k4:∀c,c<n2->i.get c=P.get c:=fun c a=>(w9 c jO id).trans (u3 c jO id);have g4:=(k4 m.a v6).trans u;have x3:m.a<R:=jO;have u5:∀c,c<n2->L5 c=G c:=fun c a=>b1 c jO;refine jA (aI @g4 (aI @wa (aI @or_true @true_and))) ?_;refine⟨_,⟨rfl,jO⟩, ?_⟩;refine l _ _ L5 _ N a5 m5 jO (fun c a=>(u5 c jO).trans (T c a)) (fun c a j=>(aw _ _ (fun q=>by rw[q]at j;omega)).trans ((k4 c jO).trans (k c a j))) ⟨_,I.au jO ((aw _ _ E).trans (k4 _ (by have:=r1.lt;omega))),fun _=>rfl⟩ ?_ (fun _=>f1) (fun o O=> ?_) rfl ?_
   ·exact Q.au jO u5 fun c a r i=>(aw _ _ fun q=>by rw[q]at i;omega).trans (k4 c a)
   ·have:some mI=some o:=O;cases this;refine xo.au (ah _) (fun _ _=>rfl) fun c a r i=>aw _ _ fun q=> ?_;have:=u5 m.a v6;rw[q]at i;omega
   ·rw[get_eq];show _=some (AB.mk _ _ [_,_,_,_,jP N.a 0,_,_,_,.bool (fX e.c.fin),jI (lO e.c.fin),_]);rw[a2,ef];rfl
  ·have z1:(((wh:Nat):Int)==1)=false:=beq_eq_false_iff_ne.2 jO;refine jA (aI @U (aI @z0 @z1)) ?_;refine⟨_,⟨rfl,jO⟩, ?_⟩;refine l _ _ G _ N m.oa m.om jO T k ⟨_,I,fun _=>rfl⟩ Q (fun _=>f1) (fun o O=> ?_) rfl ?_
   ·have:(if wh=1 then some mI else none)=some o:=O;rw[if_neg c1]at this;cases this
   ·rw[u];show _=some (AB.mk _ _ [_,_,_,_,jP N.a 0,lN (if wh=1 then some mI else none) _,_,_,.bool (fX e.c.fin),jI (lO e.c.fin),_]);rw[a2,ef,if_neg c1];rfl
theorem amE(x:eI h n L Z win lim e m)(t:e.c.fin=none)(k:e.c.op=none)(E:e.ru=e.c.u)(D:e.wr=0)(K:m9 Z e.c.A e.c.u)(R:e.D<=e.F.length)(Q:∀u w,dc Z e.c.u e.c.A (j1 e)= .ok (1,u) w->At u.aS)(T:e.c.A<=1000000000000000)(s:3000000<=Y):af (WX L) n (aj aa gt Y (d+16) 89 #[jP m.a 0]) h n fun j h' n'=>∃a,xx Z e j a∧pX L n Z win lim m a h' n':=by
 have rest:=amD (Y:=Y) (d:=d) x t k E D K R Q T s;have g:=x.get;have G:=x.lt;have C:=x.la;have B:=x.lp;obtain⟨B0,v,J⟩:=x.rd;obtain rfl:=J t;have y:=x.us;rw[E,D]at y;unfold jb at g;rw[t,k]at g;simp only[fX,lO,lN]at g;have A:=ajV (Y:=Y) (d:=d+14) y
 have P:(e.c.u.ended&&decide (e.c.u.due=0)&&decide (e.c.u.at_=0)&&decide ((0:Int)=0))=e.c.u.may:=by unfold Us.may;rw[decide_eq_true rfl,Bool.and_true]
 rw[P]at A;have no:¬(e.ended=true∧e.c.u.may=true∧(j1 e).length=0)->af (WX L) n (xy (aj aa gt Y (d+15)) (jP m.a 0)) h n fun j h' n'=>∃a,xx Z e j a∧pX L n Z win lim m a h' n':=fun q=>rest.mono fun j h' n' _ ⟨a,q1,q2⟩=>⟨a,by unfold xx;rw[if_neg q];exact q1,q2⟩;rw[aB (fun _=>RN) rfl];refine af.aA ?_;rw[amC];cases i:e.ended with
 |false=>have no:=no (fun q=>by rw[i]at q;exact FM q.1);rw[i]at g;refine jA @g ?_;exact no
 |true=>
  rw[i]at g;refine jA @g ?_;refine bq A (ah _) (fun _ _ h=>h.elim) ?_;cases I:e.c.u.may with
  |false=>have no:=no (fun q=>by rw[I]at q;exact FM q.2.1);refine jA @g ?_;exact no
  |true=>
   refine jA @g ?_;refine bq (Ed (Y:=Y) (d:=d+13) v) (ah _) (fun _ _ h=>h.elim) ?_;by_cases c:(j1 e).length=0
   ·have z:((((ar (e.F.drop e.D) e.D e.c.A).length:Nat):Int)==0)=true:=by have:(ar (e.F.drop e.D) e.D e.c.A).length=0:=c;rw[this];rfl
    refine jA @z ?_;refine aN aF (E7 (Y:=Y) (d:=d+14) g G 0) (ah _) (fun b _ f=> .inr (by have f:b=m.a:=f;rw[f];exact pW C jD jD)) fun v3 W n3 O u0 p=> ?_;obtain⟨rfl,X,l⟩:=p;refine(kS _).2 ⟨E8 e 0,by unfold xx;rw[if_pos ⟨i,I,c⟩];exact⟨rfl,rfl⟩,L,m,fun _ _=>rfl,rfl, ?_⟩;have r:m.p≠m.a:=fun q=>by rw[q]at B;omega
    refine⟨?_,G,C,⟨_,v.au (ah _) (l _ r),fun q=>nomatch q⟩,B, ?_,fun q=>(nomatch q),fun o N=> ?_,x.out.au (ah _) (fun b f=>l b (fun q=>by have:=x.lo b f;rw[q]at this;omega)),x.lo⟩
    ·rw[X];show _=some (AB.mk _ _ [_,_,.bool e.ended,_,_,lN e.c.op _,_,_,_,_,_]);rw[i,k];rfl
    ·exact x.us.au (ah _) (fun _ _=>rfl) fun c hc W U=>l c fun q=>by rw[q]at U;omega
    ·have:e.c.op=some o:=N;rw[k]at this;cases this
   ·have z:((((ar (e.F.drop e.D) e.D e.c.A).length:Nat):Int)==0)=false:=by rw[beq_eq_false_iff_ne];have:(ar (e.F.drop e.D) e.D e.c.A).length≠0:=c;omega
    have no:=no (fun q=>c q.2.2);refine jA (aI @z @g) ?_;exact no
end
def jc(win:Nat)(e:Ex)(T:List UInt8):Nat:=if e.ended=true∨fX e.c.fin=true then 0 else min T.length (win-(e.F.length-e.D))
def hZ(win:Nat)(e:Ex)(T:List UInt8):Ex:=if e.ended=true∨fX e.c.fin=true then e else{e with F:=e.F++T.take (jc win e T),short:=if 0<jc win e T then false else e.short}
def l7(e:Ex):Ex:=if e.ended=true then e else{e with ended:=true,short:=false}
def takeN(e:Ex)(most:Int):Nat:=min most.toNat e.out.length
section
variable {Y d n Z win lim:Nat} {h:H} {L:Nat->Nat} {e:Ex} {m:Xm}
theorem eI.done(x:eI h n L Z win lim e m):af (fun _=>False) n (aj aa gt Y (d+1) 31 #[jP m.a 0]) h n fun v h' n'=>v= .bool (fX e.c.fin)∧h'=h∧n'=n:=by have g:=x.get;have a:=x.lt;unfold jb at g;rw[aB (fun _=>QG) rfl];refine af.aA ?_;unfold HI;exact jC @g
theorem eI.err(x:eI h n L Z win lim e m):af (fun _=>False) n (aj aa gt Y (d+1) 32 #[jP m.a 0]) h n fun v h' n'=>v=jI (lO e.c.fin)∧h'=h∧n'=n:=by have g:=x.get;have a:=x.lt;unfold jb at g;rw[aB (fun _=>QH) rfl];refine af.aA ?_;unfold HJ;exact jC @g
theorem eI.steps(x:eI h n L Z win lim e m):af (fun _=>False) n (aj aa gt Y (d+1) 38 #[jP m.a 0]) h n fun v h' n'=>v=jI (e.steps:Int)∧h'=h∧n'=n:=by have g:=x.get;have a:=x.lt;unfold jb at g;rw[aB (fun _=>QN) rfl];refine af.aA ?_;unfold HM;exact jC @g
theorem eI.waiting(x:eI h n L Z win lim e m):af (fun _=>False) n (aj aa gt Y (d+1) 36 #[jP m.a 0]) h n fun v h' n'=>v=jI ((e.out.length:Nat):Int)∧h'=h∧n'=n:=by have g:=x.get;have b:=x.lt;obtain⟨f,c,a⟩:=x.out.len;unfold jb at g;rw[a]at g;rw[aB (fun _=>QL) rfl];refine af.aA ?_;unfold HK;exact jC @g
theorem eI.put(x:eI h n L Z win lim e m){h':H}{a:Ex}(g:h'.get m.a=some (jb win lim a m))(d:∀c,c≠m.a->h'.get c=h.get c)(h1:a.F=e.F)(h2:a.D=e.D)(f:a.c=e.c)(u:a.ru=e.ru)(t:a.wr=e.wr)(s:a.out=e.out):eI h' n L Z win lim a m:=by
 have p:=x.la;have i:=x.lp;obtain⟨B,l,k⟩:=x.rd;refine⟨g,x.lt,p,⟨B, ?_,by rw[f];exact k⟩,i, ?_,by rw[f];exact x.fl,fun o j=> ?_, ?_,x.lo⟩
 ·rw[h1,h2];exact l.au (ah _) (d _ (fun q=>by rw[q]at i;omega))
 ·rw[u,t];exact x.us.au (ah _) (fun _ _=>rfl) fun c _ q1 q2=>d c fun q=>by rw[q]at q2;omega
 ·rw[f]at j⊢;exact(x.op o j).au (ah _) (fun _ _=>rfl) fun c _ q1 q2=>d c fun q=>by rw[q]at q2;omega
 ·rw[s];exact x.out.au (ah _) fun b r=>d b fun q=>by have:=x.lo b r;rw[q]at this;omega
theorem eI.end_(x:eI h n L Z win lim e m):af (WX L) n (aj aa gt Y (d+1) 82 #[jP m.a 0]) h n fun v h' n'=>v=jI (if e.ended=true then 7 else 0)∧n'=n∧eI h' n L Z win lim (l7 e) m:=by
 have g:=x.get;have j:=x.lt;have i:WX L m.a:=pW x.la jD jD;unfold jb at g;rw[aB (fun _=>RG) rfl];refine af.aA ?_;unfold H8 l7;cases f:e.ended with
 |true=>
  rw[f]at g;try simp(disch:=first|omega|assumption) only[Nat.reduceAdd,Nat.reduceLT,RZ,g,if_pos]
  exact x
 |false=>rw[f]at g;have a:¬(false=true):=FM;rw[if_neg a,if_neg a];refine jA (aI @g (aI @i (aI @or_true @true_and))) ?_;refine x.put ?_ (fun c b=>by rw[aw _ _ b,aw _ _ b]) rfl rfl rfl rfl rfl rfl;rw[get_eq];rfl
theorem eI.take(x:eI h n L Z win lim e m)(most:Int)(K:e.out.length<=1000000):af (WX L) n (aj aa gt Y (d+1) 83 #[jP m.a 0,jI most]) h n fun v h' n'=>v= .string ⟨(bS (e.out.take (takeN e most))).toArray⟩∧n'=n∧∃ov,eI h' n L Z win lim {e with out:=e.out.drop (takeN e most)} {m with ov:=ov}:=by
 have g:=x.get;have I:=x.lt;have l:=x.la;have D:=x.lp;have z:WX L m.a:=pW l jD jD;obtain⟨B,C,A⟩:=x.rd;obtain⟨Q,O,a⟩:=x.out.len;unfold jb at g;rw[aB (fun _=>RH) rfl];refine af.aA ?_;unfold H9 takeN;by_cases y:most<1
 ·have J:min most.toNat e.out.length=0:=jO;rw[J];refine jA @y ?_;exact⟨rfl,m.ov,x⟩
 ·obtain⟨t,E⟩:∃t,min most.toNat e.out.length=t:=⟨_,rfl⟩;have s:t<=e.out.length:=jO;have k:(if((e.out.length:Nat):Int)<most then((e.out.length:Nat):Int)else most)=(t:Int):=by split<;>omega
  rw[E];have j:=g;rw[a]at j;refine jA (aI @y (aI @j @k)) ?_;rw[<-a];refine x.out.front s .i64 _ ?_;refine jA @j ?_;rw[<-a];refine x.out.drop s .i64 _ fun ov u i=> ?_;obtain⟨P,N,f⟩:=u.len;rw[f];refine jA (aI @j (aI @z (aI @or_true @true_and))) ?_;refine⟨ov, ?_⟩;have ne:∀{c},L c≠18->c≠m.a:=fun G q=>G (q▸l);refine⟨?_,I,l,⟨B,C.au (ah _) (aw _ _ (ne jO)),A⟩,D,x.us.au (ah _) (fun _ _=>rfl) fun c _ q1 q2=>aw _ _ (ne jO),x.fl,fun o p=>(x.op o p).au (ah _) (fun _ _=>rfl) fun c _ q1 q2=>aw _ _ (ne jO),u.au (ah _) fun b r=>aw _ _ (ne (by have:=x.lo b (i b r);omega)),fun b r=>x.lo b (i b r)⟩;rw[get_eq,<-f];rfl
theorem eI.held(x:eI h n L Z win lim e m)(hF:e.F.length<=1000000000)(bd:∀b,e.ru.bf=some b->b.Bd (e.ru.level*Z))(lv:e.ru.level<=9)(K:Z<=100000)(hl:e.out.length<=1000000)(bC:∀o,e.c.op=some o->e.ru.bf=none∧e.c.u.aS.last.length<=9*Z):af (fun _=>False) n (aj aa gt Y (d+6) 35 #[jP m.a 0]) h n fun v _ _=>∃N:Nat,v=jI (N:Int)∧N<=(e.F.length-e.D)+e.out.length+18*Z+34400:=by
 have g:=x.get;have p:=x.lt;obtain⟨B,G,r2⟩:=x.rd;obtain⟨a7,c7,u⟩:=x.out.len;unfold jb at g;rw[u]at g;have u0:(e.F.drop e.D).length=e.F.length-e.D:=bE;rw[aB (fun _=>aei) rfl];refine af.aA ?_;unfold QJ;refine jB ?_;refine gF trivial m.a 3 _ g p (ah _) rfl fun T1 t1=> ?_;refine jB ?_;refine lV aF (aai (Y:=Y) (d:=d+4) G) (ah _) fun v1 h1 n1 T2 P X t l=> ?_;obtain⟨rfl,rfl,rfl⟩:=t;refine jB ?_;refine gF trivial m.a 4 _ g p (ah _) rfl fun T3 C=> ?_;refine jB ?_;refine lV aF (amx (Y:=Y) (d:=d) x.us bd lv K) (ah _) fun v2 h2 I T4 a j s A=> ?_;obtain⟨N,rfl,hN,y⟩:=s;have f:=(j m.a p).trans g;have U:m.a<I:=jO;have E:IntKind.i64.wrap ((((e.F.drop e.D).length:Nat):Int)+(N:Int))=(((e.F.drop e.D).length+N:Nat):Int):=by rw[aH jO jO];rfl
 have z:IntKind.i64.wrap ((((e.F.drop e.D).length+N:Nat):Int)+((e.out.length:Nat):Int))=(((e.F.drop e.D).length+N+e.out.length:Nat):Int):=by rw[aH jO jO];rfl
 refine jA @E ?_;refine gF trivial m.a 7 _ f p a rfl fun T5 k=> ?_;cases q:e.c.op with
 |none=>
  rw[q]at f;simp only[lN]at f;try simp(disch:=first|omega|assumption) only[Nat.reduceAdd,Nat.reduceLT,RZ,z,l.cy C,l.cy k,A.cy k,cf,dJ,dG,f]
  exact⟨_,rfl,jO⟩
 |some o=>
  rw[q]at f;simp only[lN]at f;obtain⟨T,Q⟩:=bC o q;have W:=y T;have r:=(x.op o q).au a (fun _ _=>rfl) (fun c R _ _=>j c R);have i:=r.get;have O:=r.lt;unfold sO at i;have J:=amy (Y:=Y) (d:=d+4) r.inv jO;have D:IntKind.i64.wrap ((((e.F.drop e.D).length+N+e.out.length:Nat):Int)+((2*e.c.u.aS.last.length:Nat):Int))=(((e.F.drop e.D).length+N+e.out.length+2*e.c.u.aS.last.length:Nat):Int):=by rw[aH jO jO];rfl
  try simp(disch:=first|omega|assumption) only[Nat.reduceAdd,Nat.reduceLT,RZ,z,l.cy C,l.cy k,A.cy k,cf,dJ,dG,f,i]
  refine bq J a (fun _ _ h=>h.elim) ?_;refine jA @D ?_;exact⟨_,rfl,jO⟩
theorem eI.feed(x:eI h n L Z win lim e m)(T:List UInt8)(hF:e.F.length+T.length<=1000000000)(hD:e.D<=e.F.length)(hw:e.F.length-e.D<=win)(O:win<=2000000):af (WX L) n (aj aa gt Y (d+2) 40 #[jP m.a 0,.string ⟨T.toArray⟩]) h n fun v h' n'=>v=jI ((jc win e T:Nat):Int)∧n'=n∧eI h' n L Z win lim (hZ win e T) m:=by
 have g:=x.get;have p:=x.lt;have N:=x.la;have t:=x.lp;have R:WX L m.a:=pW N jD jD;obtain⟨B,J,r2⟩:=x.rd;have u4:(e.F.drop e.D).length=e.F.length-e.D:=bE;unfold jb at g;rw[aB (fun _=>QR) rfl];refine af.aA ?_;unfold HN;cases f:e.ended with
 |true=>
  have r:jc win e T=0:=by unfold jc;rw[if_pos (.inl f)]
  have G:hZ win e T=e:=by unfold hZ;rw[if_pos (.inl f)]
  rw[f]at g;rw[r,G];refine jA @g ?_;exact⟨rfl,x⟩
 |false=>
  cases j:fX e.c.fin with
  |true=>
   have r:jc win e T=0:=by unfold jc;rw[if_pos (.inr j)]
   have G:hZ win e T=e:=by unfold hZ;rw[if_pos (.inr j)]
   rw[f,j]at g;rw[r,G];refine jA @g ?_;exact⟨rfl,x⟩
  |false=>
   have K:¬(e.ended=true∨fX e.c.fin=true):=by rw[f,j];simp
   obtain⟨k,A⟩:∃k,jc win e T=k:=⟨_,rfl⟩;have u2:k=min T.length (win-(e.F.length-e.D)):=by rw[<-A];unfold jc;rw[if_neg K]
   have gx:=g;rw[f,j]at g;have U:IntKind.i64.wrap ((win:Int)-(((e.F.drop e.D).length:Nat):Int))=((win-(e.F.length-e.D):Nat):Int):=by rw[aH jO jO];omega
   have P:(if((win-(e.F.length-e.D):Nat):Int)<((T.length:Nat):Int)then((win-(e.F.length-e.D):Nat):Int)else((T.length:Nat):Int))=(k:Int):=by split<;>omega
   have i1:(0:Int)<=(k:Int):=jO;have i2:(k:Int)<=((T.length:Nat):Int):=jO;refine jA @g ?_;refine gF trivial m.a 0 _ g p (ah _) rfl fun T1 t1=> ?_;refine jB ?_;refine gF trivial m.a 3 _ g p (ah _) rfl fun T2 t2=> ?_;refine jB ?_;refine lV aF (aai (Y:=Y) (d:=d) J) (ah _) fun v1 h1 n1 T3 u1 u3 y X=> ?_;obtain⟨rfl,rfl,rfl⟩:=y;try simp(disch:=first|omega|assumption) only[Nat.reduceAdd,Nat.reduceLT,RZ,U,P,t1.cy X,cf,dJ,dG,g,i1,i2,cV]
   have W:(T.take k).length=k:=by rw[cT];omega
   refine aN aF (ahO (Y:=Y) (d:=d) J (T.take k) (by rw[bG,W];omega)) (ah _) (fun b _ i=> .inr (by have i:b=m.p:=i;rw[i];exact pW t jD jD)) fun v2 C s u0 E u=> ?_;obtain⟨rfl,rfl,Q⟩:=u;have r3:aY C s m.p ((e.F++T.take k).drop e.D) e.D B:=by rw[FI hD];exact Q
   have ne:∀{c},L c≠1->c≠m.p:=fun a q=>a (q▸t);have l:∀c,c<s->L c≠1->C.get c=h1.get c:=fun c a hl=>E c a (ne hl);have g2:=(l m.a p jO).trans g;have D:=(l m.a p jO).trans gx;have I:eI C s L Z win lim {e with F:=e.F++T.take k} m:=⟨D,p,N,⟨B,r3,r2⟩,t,x.us.au (ah _) (fun _ _=>rfl) fun c a q1 q2=>l c a jO,x.fl,fun o ho=>(x.op o ho).au (ah _) (fun _ _=>rfl) fun c a q1 q2=>l c a jO,x.out.au (ah _) fun b i=>l b (x.out.lt i) (by have:=x.lo b i;omega),x.lo⟩;have fe:hZ win e T={e with F:=e.F++T.take k,short:=if 0<k then false else e.short}:=by unfold hZ;rw[if_neg K,A]
   rw[fe,A];by_cases c:0<k
   ·have z:(0:Int)<(k:Int):=jO;refine jA (aI @z (aI @g2 (aI @R (aI @or_true @true_and)))) ?_;rw[if_pos c];refine I.put ?_ (fun c a=>aw _ _ a) rfl rfl rfl rfl rfl rfl;rw[get_eq];show some (AB.mk _ _ [_,_,.bool false,_,_,_,_,_,.bool false,_,_])=some (AB.mk _ _ [_,_,.bool e.ended,_,_,_,_,_,.bool (fX e.c.fin),_,_]);rw[f,j]
   ·have z:¬(0:Int)<(k:Int):=jO;refine jA @z ?_;rw[if_neg c];exact I
end
theorem amF{Z A w:Nat}{u c:Us}{bs:List Bool}(k:vd Z A u)(h:dc Z u A bs= .ok (1,c) w):c.aS.last.length<=9*Z:=by
 obtain⟨ok,i⟩:=k;unfold dc at h;split at h
 ·cases e:pN u bs with
  |short=>rw[e]at h;cases h
  |bad x=>rw[e]at h;cases h
  |ok a v=>rw[e]at h;cases h
 ·split at h
  ·cases e:qK u bs with
   |short=>rw[e]at h;cases h
   |bad x=>rw[e]at h;cases h
   |ok a v=>rw[e]at h;cases h
  ·split at h
   ·next d2=>
    have lv:=ok.lv jO;have m:=Zo lv.2 ok.u2;unfold pO at h;split at h
    ·cases h
    ·next b g=>
     have f:=i b g;cases e:dp (u.level*Z) b bs with
     |short=>rw[e]at h;cases h
     |bad x=>rw[e]at h;cases h
     |ok j l=>
      rw[e]at h;simp only at h;obtain⟨q1,q2,d⟩:=Zm f jO e;split at h
      ·next hd=>cases h;obtain⟨q,p,o,n⟩:=d hd;have:u.level*Z<=9*Z:=qT _ lv.2;show j.last.length<=_;omega
      ·cases h
   ·cases e:qL u A bs with
    |short=>rw[e]at h;cases h
    |bad x=>rw[e]at h;cases h
    |ok a v=>rw[e]at h;cases h
theorem amG{run d b c a:Nat}{t:List Nat}(h:ja run d b=some (t,c,a)):t.length<=251:=by
 unfold ja at h;split at h
 ·split at h
  ·cases h
  ·cases h;rw[List.length_replicate];omega
 ·cases h;exact Nat.le_of_ble_eq_true rfl
theorem aak{g:Gt}{o:j0}:(nr g o).length<=251:=by
 unfold nr hY;cases iI g.last g.bK o.k with
 |nil=>exact aO _
 |cons b r=>
  dsimp only;cases h:ja o.run o.prev b with
  |none=>exact aO _
  |some q=>
   obtain⟨t,a,c⟩:=q;have:=amG h;dsimp only;by_cases f:o.k+1=3*g.last.length
   ·rw[if_pos f];by_cases e:a=4
    ·rw[if_pos e];exact this
    ·rw[if_neg e];by_cases d:iJ (o.mH++t)=g.sum
     ·rw[if_pos d];exact this
     ·rw[if_neg d];exact this
   ·rw[if_neg f];exact this
theorem amH{g:Gt}{o a:j0}{t:List Nat}(h:hY g o= .go t a)(b:o.k<3*g.last.length):a.k<3*g.last.length:=by
 unfold hY at h;split at h
 ·next e=>
  cases h;show o.k+1<_
  have:¬2*g.last.length<=o.k:=fun q=>by unfold iI at e;rw[if_pos q]at e;cases e
  omega
 ·split at h
  ·cases h
  ·split at h
   ·split at h
    ·cases h
    ·split at h<;>cases h
   ·next c=>cases h;show o.k+1<_;omega
theorem Me(S:List UInt8)(Z:Nat):∀(k:Nat) (x:Xc),nm S Z (k+1) x=iw S Z (nm S Z k x)
 |0,_=>rfl
 |k+1,x=>Me S Z k (iw S Z x)
structure XI (S:List UInt8) (Z win lim K N:Nat) (e:Ex):Prop where
 pre:∃R,S=e.F++R
 all:e.ended=true->e.F=S
 ru:e.c.fin=none->e.ru=e.c.u
 wr:e.c.fin=none->e.wr=0
 us:e.c.fin=none->vd Z e.c.A e.c.u
 A:e.c.A<=8*e.F.length
 D8:e.c.fin=none->e.D=e.c.A/8
 hD:e.D<=e.F.length
 op:∀o,e.c.op=some o->e.c.fin=none∧At e.c.u.aS∧o.k<3*e.c.u.aS.last.length∧e.c.u.bf=none∧e.c.u.aS.last.length<=9*Z
 sh:e.short=true->e.c.fin=none->e.ended=false∧dc Z e.c.u e.c.A (ar e.F 0 e.c.A)= .short∧e.c.op=none∧e.D=e.c.A/8
 held:e.F.length-e.D<=win
 out:e.out.length<=lim+250
 lv:e.ru.level<=9
 bd:∀b,e.ru.bf=some b->b.Bd (e.ru.level*Z)
 run:e.c=nm S Z N x0
 st:N<=K
section
variable {S:List UInt8} {Z win lim K N:Nat} {e:Ex}
theorem XI.rest(i:XI S Z win lim K N e)(a:e.c.fin=none):j1 e=ar e.F 0 e.c.A:=by have h:=i.D8 a;have:=ams (S:=e.F) (D:=0) (k:=e.D) (A:=e.c.A) jO;rw[fD]at this;exact this
theorem amI{F R:List UInt8}{A:Nat}(h:A<=8*F.length):ar (F++R) 0 A=ar F 0 A++dY R:=by rw[vi,vi,X',FI (by rw[Aa];exact h)]
theorem XI.lt{t:List Nat}{d:Int}(i:XI S Z win lim K N e)(c:cY S Z K x0 t d)(f:e.c.fin=none):N<K:=by
 rcases Nat.lt_or_ge N K with q|q
 ·exact q
 ·exfalso;have:N=K:=Nat.le_antisymm i.st q;have b:=i.run;rw[this]at b;have a:=c.1;rw[<-b,f]at a;cases a
theorem amJ{t:List Nat}{k:Int}{o:j0}(i:XI S Z win lim K N e)(p:cY S Z K x0 t k)(l:e.c.op=some o)(m:e.short=false)(z:e.out.length<lim):XI S Z win lim K (N+1) (sP e o):=by
 obtain⟨d,s,n,bn,r⟩:=i.op o l;have j:=i.lt p d;have y:=aak (g:=e.c.u.aS) (o:=o);have b:(sP e o).c=dU e.c o:=rfl
 have f:(dU e.c o).u=e.c.u∧(dU e.c o).A=e.c.A:=by unfold dU;cases hY e.c.u.aS o<;>exact⟨rfl,rfl⟩
 have run:(sP e o).c=nm S Z (N+1) x0:=by rw[Me,<-i.run,b];unfold iw;rw[l]
 refine⟨i.pre,i.all,fun _=> ?_,fun _=>i.wr d,fun _=> ?_, ?_,fun _=> ?_,i.hD,fun x a=> ?_,fun q=> ?_,i.held, ?_,i.lv,i.bd,run,j⟩
 ·rw[b,f.1];exact i.ru d
 ·rw[b,f.1,f.2];exact i.us d
 ·rw[b,f.2];exact i.A
 ·rw[b,f.2];exact i.D8 d
 ·rw[b,f.1];rw[b]at a;unfold dU at a⊢;cases h:hY e.c.u.aS o with
  |fail t k=>rw[h]at a;cases a
  |fin t=>rw[h]at a;cases a
  |go t v=>rw[h]at a;cases a;exact⟨d,s,amH h n,bn,r⟩
 ·have:e.short=true:=q;rw[m]at this;cases this
 ·show(e.out++nr _ _).length<=_;rw[bG];omega
theorem amK{t:List Nat}{er:Int}{v:Value}{a:Ex}(i:XI S Z win lim K N e)(hK:cY S Z K x0 t er)(z:e.c.fin=none)(T:e.c.op=none)(k:e.short=false)(r:xx Z e v a):
 (v= .bool true∧XI S Z win lim K (N+1) a∧a.short=false∧a.out=e.out∧a.F=e.F∧a.ended=e.ended∧a.steps=e.steps∧a.c.tot=e.c.tot)∨(v= .bool false∧XI S Z win lim K N a∧a.short=true∧a.c=e.c∧a.out=e.out∧a.F=e.F∧a.ended=e.ended∧a.steps=e.steps):=by
 have u:=i.lt hK z;have f:=i.rest z;have X:=i.us z;have d8:=i.D8 z;have iA:=i.A;obtain⟨R,hR⟩:=i.pre
 have next:∀{x:Xc},lM S Z e.c=x->x=nm S Z (N+1) x0:=fun{x} h=>by rw[Me,<-i.run,<-h];unfold iw;rw[T]
 have more:ar S 0 e.c.A=j1 e++dY R:=by rw[f,hR,amI iA]
 have u2:∀{c:Bool},e.short=true->c=true:=fun h=>by rw[k]at h;cases h
 have stop:∀(d:Ex) (m:Int),d.c={e.c with fin:=some m}->lM S Z e.c={e.c with fin:=some m}->d.F=e.F->d.ended=e.ended->d.out=e.out->d.short=e.short->e.D<=d.D->d.D<=e.F.length->d.ru.level<=9->(∀b,d.ru.bf=some b->b.Bd (d.ru.level*Z))->XI S Z win lim K (N+1) d:=by
  intro d m y h2 l O h5 h6 h7 h8 h9 P;have C:d.c.fin≠none:=by rw[y];exact fun q=>nomatch q
  refine⟨by rw[l];exact i.pre,by rw[l,O];exact i.all,fun q=>absurd q C,fun q=>absurd q C,fun q=>absurd q C,by rw[y,l];exact iA,fun q=>absurd q C,by rw[l];exact h8,fun o j=> ?_,fun q=> ?_,by rw[l];have:=i.held;omega,by rw[h5];exact i.out,h9,P,by rw[y];exact next h2,u⟩
  ·rw[y]at j;have:e.c.op=some o:=j;rw[T]at this;cases this
  ·rw[h6,k]at q;cases q
 have dA:e.D<=e.c.A/8:=jO;have A:e.c.A/8<=e.F.length:=jO;unfold xx at r;split at r
 ·next c=>
  obtain⟨rfl,rfl⟩:=r;refine .inl ⟨rfl,stop _ 0 rfl ?_ rfl rfl rfl rfl (ah _) i.hD i.lv i.bd,k,rfl,rfl,rfl,rfl,rfl⟩;have J:=i.all c.1;have:ar S 0 e.c.A=j1 e:=by rw[f,J]
  unfold lM;rw[if_pos ⟨c.2.1,by rw[this];exact c.2.2⟩]
 ·next c=>
  unfold E9 at r
  have same:dc Z e.c.u e.c.A (j1 e)≠ .short∨e.ended=true->¬(e.c.u.may=true∧(ar S 0 e.c.A).length=0)∧dc Z e.c.u e.c.A (ar S 0 e.c.A)=dc Z e.c.u e.c.A (j1 e):=fun h=>by
   rcases h with h|h
   ·refine⟨fun q=> ?_,by rw[more];exact ame _ h⟩
    have l0:(j1 e).length=0:=by have:=q.2;rw[more,bG]at this;omega
    have I:=q.1;unfold Us.may at I;simp only[Bool.and_eq_true,decide_eq_true_eq]at I;apply h;unfold dc pN;rw[if_pos I.1.2,if_pos jO];rfl
   ·have J:=i.all h;have:ar S 0 e.c.A=j1 e:=by rw[f,J]
    rw[this];exact⟨fun q=>c ⟨h,q⟩,rfl⟩
  cases g:dc Z e.c.u e.c.A (j1 e)with
  |short=>
   rw[g]at r;dsimp only at r;split at r
   ·next ee=>obtain⟨rfl,rfl⟩:=r;obtain⟨s,p⟩:=same (.inr ee);refine .inl ⟨rfl,stop _ 24 rfl ?_ rfl rfl rfl rfl dA A i.lv i.bd,k,rfl,rfl,rfl,rfl,rfl⟩;unfold lM;rw[if_neg s,p,g]
   ·next ee=>
    obtain⟨rfl,rfl⟩:=r
    have ee:e.ended=false:=by cases h:e.ended with
     |true=>exact absurd h ee
     |false=>rfl
    refine .inr ⟨rfl,⟨i.pre,i.all,i.ru,i.wr,i.us,i.A,fun _=>rfl,A,i.op,fun _ _=>⟨ee,by rw[<-f];exact g,T,rfl⟩,by show e.F.length-e.c.A/8<=win;have:=i.held;omega,i.out,i.lv,i.bd,i.run,i.st⟩,rfl,rfl,rfl,rfl,rfl,rfl⟩
  |bad e1=>rw[g]at r;obtain⟨rfl,Y,B,rfl,y,h2,l,O⟩:=r;obtain⟨s,p⟩:=same (.inl (by rw[g];exact fun q=>nomatch q));refine .inl ⟨rfl,stop _ e1 rfl ?_ rfl rfl rfl rfl (by show e.D<=B/8;omega) (by show B/8<=_;omega) l O,k,rfl,rfl,rfl,rfl,rfl⟩;unfold lM;rw[if_neg s,p,g]
  |ok q w=>
   obtain⟨W,Y⟩:=q;rw[g]at r;obtain⟨rfl,rfl,L⟩:=r;obtain⟨s,p⟩:=same (.inl (by rw[g];exact fun q=>nomatch q));have len:(j1 e).length=8*e.F.length-e.c.A:=by rw[f,fy,sW,AV]
   obtain⟨q1,q2,q3,_,_⟩:=xq X g (by rw[len];omega);refine .inl ⟨rfl,⟨i.pre,i.all,fun _=>rfl,fun _=>rfl,fun _=>q2,L,fun _=>rfl,by show(e.c.A+w)/8<=e.F.length;omega,fun o j=> ?_,fun q=> ?_,by show e.F.length-(e.c.A+w)/8<=win;have:=i.held;omega,i.out,q2.ok.pP,q2.ok.bd,next ?_,u⟩,k,rfl,rfl,rfl,rfl,rfl⟩
   ·have j:(if W=1 then some mI else none)=some o:=j;by_cases c1:W=1
    ·subst c1;rw[if_pos rfl]at j;cases j;obtain⟨g1,g2,g3⟩:=q3 rfl;have:=g1.1.pos;refine⟨z,g1,by show 0<3*Y.aS.last.length;omega,q2.ok.b0 jO,amF X g⟩
    ·rw[if_neg c1]at j;cases j
   ·have:e.short=true:=q;rw[k]at this;cases this
   ·unfold lM;rw[if_neg s,p,g];rfl
end
theorem aal(x:Xc)(o:j0):(dU x o).tot=x.tot++nr x.u.aS o:=by unfold dU nr;cases hY x.u.aS o<;>rfl
section
variable {S:List UInt8} {Z win lim K N:Nat} {e:Ex}
theorem XI.len(i:XI S Z win lim K N e):e.F.length<=S.length:=by obtain⟨R,a⟩:=i.pre;rw[a,bG];omega
theorem XI.aS(i:XI S Z win lim K N e)(b:e.c.fin=none):∀a w,dc Z e.c.u e.c.A (j1 e)= .ok (1,a) w->At a.aS:=fun a w h=>by
 have c:=i.A;have len:(j1 e).length=8*e.F.length-e.c.A:=by rw[i.rest b,fy,sW,AV]
 exact((xq (i.us b) h (by rw[len];omega)).2.2.1 rfl).1
theorem XI.steps(i:XI S Z win lim K N e)(s:Nat):XI S Z win lim K N {e with steps:=s}:=
 ⟨i.pre,i.all,i.ru,i.wr,i.us,i.A,i.D8,i.hD,i.op,i.sh,i.held,i.out,i.lv,i.bd,i.run,i.st⟩
end
structure xz (S:List UInt8) (Z win lim K:Nat) (e:Ex) (B:Int) (k:Nat) (e':Ex):Prop where
 le:(k:Int)<=max B 0
 xi:XI S Z win lim K (e.steps+k) e'
 st:e'.steps=e.steps+k
 E':k=0∨dx lim e=false
 all:(k:Int)=max B 0∨dx lim e'=true
 F:e'.F=e.F
 ended:e'.ended=e.ended
 out:∃t,e'.out=e.out++t∧e'.c.tot=e.c.tot++t
section
variable {Y d n Z win lim K:Nat} {h:H} {L:Nat->Nat} {e:Ex} {m:Xm} {S:List UInt8} {t:List Nat} {er:Int}
theorem amL(x:eI h n L Z win lim e m)(i:XI S Z win lim K e.steps e)(hK:cY S Z K x0 t er)(u9:K<=1000000)(hS:S.length<=1000000)(u7:lim<=65536)(B:Int)(T:3000000<=Y):af (WX L) n (aj aa gt Y (d+17) 39 #[jP m.a 0,jI B]) h n fun v h' n'=>∃k a,v=jI ((k:Nat):Int)∧xz S Z win lim K e B k a∧pX L n Z win lim m a h' n':=by
 rw[aB (fun _=>QQ) rfl];refine af.aA ?_;unfold Cs;obtain⟨y,E⟩:∃y,e.steps=y:=⟨_,rfl⟩
 have WW:∀{N:Nat->Nat} {n':Nat},(∀c,c<n->N c=L c)->∀b,b<n'->WX N b->n<=b∨WX L b:=fun{N n'} Q b _ hb=>by
  by_cases c:b<n
  ·refine .inr ?_;unfold WX at hb⊢;rw[Q b c]at hb;exact hb
  ·exact .inl jO
 have u1:∀(r j G:Nat) (h':H) (n':Nat) (N:Nat->Nat) (m':Xm) (a:Ex),2*(K-(y+j))+(if a.short=true then 0 else 1)<=r->r<G->n<=n'->(∀c,c<n->N c=L c)->m'.a=m.a->eI h' n' N Z win lim a m'->XI S Z win lim K (y+j) a->a.steps=y->(j:Int)<=max B 0->(j=0∨dx lim e=false)->(j=0->a.short=false->dx lim a=dx lim e)->a.F=e.F->a.ended=e.ended->(∃t,a.out=e.out++t∧a.c.tot=e.c.tot++t)->
  af (WX L) n (rM Y (aj aa gt Y (d+16)) G (yE Y (aj aa gt Y (d+16))) (jP m.a 0) (jI B) (ii 0) (jI (j:Int))) h' n' fun v h' n'=>∃k a,v=jI ((k:Nat):Int)∧xz S Z win lim K e B k a∧pX L n Z win lim m a h' n':=by
  intro r
  induction r using xD with
  |ind r ih=>
   intro j G h' n' N m' a hr hf hn Q g R l C U p z hF D I;obtain⟨G,rfl⟩:∃f,G=f+1:=⟨G-1,jO⟩;have u5:=R.lt;have J:=R.get;have iK:=l.st;have wa:WX L m.a:=pW x.la jD jD
   have stop:((j:Int)=max B 0∨dx lim a=true)->af (WX L) n (yE Y (aj aa gt Y (d+16)) (jP m.a 0) (jI (j:Int))) h' n' fun v h' n'=>∃k a,v=jI ((k:Nat):Int)∧xz S Z win lim K e B k a∧pX L n Z win lim m a h' n':=fun X=>by
    unfold yE;have w1:IntKind.i64.wrap ((y:Int)+(j:Int))=((y+j:Nat):Int):=by rw[aH jO jO];rfl
    have g2:=J;have u4:=u5;unfold jb at g2;rw[g,C]at g2;rw[g]at u4;refine jA (aI @g2 (aI @w1 (aI @wa (aI @or_true @true_and)))) ?_;refine⟨j,{a with steps:=y+j},rfl,⟨U,by rw[E];exact l.steps _,by rw[E],p,X,hF,D,I⟩,N,m',Q,g,R.put ?_ (fun c W=>aw _ _ (by rw[<-g];exact W)) rfl rfl rfl rfl rfl rfl⟩;rw[g,get_eq];rfl
   rw[rM];by_cases cB:(j:Int)<B
   ·refine jA @cB ?_;rw[<-g];refine bq (aaj (Y:=Y) (d:=d+15) R) hn (fun _ _ h=>h.elim) ?_;cases u:dx lim a with
    |true=>refine jA @eK ?_;rw[g];exact stop (.inr u)
    |false=>
     have s:a.c.fin=none:=by
      cases h:a.c.fin with
      |none=>rfl
      |some q=>unfold dx at u;rw[h]at u;cases u
     have lt:=l.lt hK s;have w1:IntKind.i64.wrap ((j:Int)+1)=((j+1:Nat):Int):=by rw[aH jO jO];rfl
     obtain⟨t1,o1,o2⟩:=I;unfold jb at J;cases A:a.c.op with
     |some o=>
      have hl:a.out.length<lim:=by unfold dx at u;rw[s,A]at u;have:=of_decide_eq_false u;omega
      have O:a.short=false:=by
       cases u2:a.short with
       |false=>rfl
       |true=>have:=(l.sh u2 s).2.2.1;rw[A]at this;cases this
      rw[O,if_neg jD]at hr;obtain⟨_,gk,hk,bn,gl⟩:=l.op o A;rw[s,A]at J;simp only[fX,lO,lN]at J;refine jA (aI @J @cf) ?_;refine aN aF (amA (Y:=Y) (d:=d+11) R s A gk.1 gk.2 hk (by have:=l.out;omega) T) hn (WW Q) fun v1 h1 n1 u3 u6 P=> ?_;obtain⟨L1,m1,b1,b2,x1⟩:=P;refine jA @w1 ?_;rw[g];refine ih (2*(K-(y+(j+1)))+1) jO (j+1) G h1 n1 L1 m1 (sP a o) (by split<;>omega) jO jO (fun c W=>(b1 c jO).trans (Q c W)) (b2.trans g) x1 (amJ l hK A O hl) C jO (.inr ?_) (fun q=>by omega) hF D ⟨t1++nr a.c.u.aS o,by show a.out++_=_;rw[o1,ey],by show(dU a.c o).tot=_;rw[aal,o2,ey]⟩;rcases p with q|q
      ·rw[<-z q O];exact u
      ·exact q
     |none=>
      have O:a.short=false:=by unfold dx at u;rw[s,A]at u;exact u
      rw[O,if_neg jD]at hr;have hA:a.c.A<=1000000000000000:=by have:=l.A;have:=l.len;omega
      rw[s,A]at J;simp only[fX,lO,lN]at J;refine jA (aI @J @cf) ?_;refine aN aF (amE (Y:=Y) (d:=d) R s A (l.ru s) (l.wr s) (l.us s).ok l.hD (l.aS s) hA T) hn (WW Q) fun v1 h1 n1 u3 u6 P=> ?_;obtain⟨e1,r1,L1,m1,b1,b2,x1⟩:=P;have u0:∀c,c<n->L1 c=L c:=fun c W=>(b1 c jO).trans (Q c W);rcases amK l hK s A O r1 with ⟨rfl,i1,s1,q1,q2,q3,q4,q5⟩|⟨rfl,i1,s1,q0,q1,q2,q3,q4⟩
      ·refine jA (aI @eK @w1) ?_;rw[g];refine ih (2*(K-(y+(j+1)))+1) jO (j+1) G h1 n1 L1 m1 e1 (by split<;>omega) jO jO u0 (b2.trans g) x1 i1 (q4.trans C) jO (.inr ?_) (fun q=>by omega) (q2.trans hF) (q3.trans D) ⟨t1,q1.trans o1,q5.trans o2⟩;rcases p with q|q
       ·rw[<-z q O];exact u
       ·exact q
      ·refine jA @cf ?_;rw[g];exact ih (2*(K-(y+j))) jO j G h1 n1 L1 m1 e1 (by rw[s1,if_pos rfl];omega) jO jO u0 (b2.trans g) x1 i1 (q4.trans C) U p (fun _ q=>by rw[s1]at q;cases q) (q2.trans hF) (q3.trans D) ⟨t1,q1.trans o1,by rw[q0];exact o2⟩
   ·refine jA @cB ?_;exact stop (.inl jO)
 refine u1 (2*(K-y)+1) 0 Y h n L m e (by split<;>omega) jO (ah _) (fun _ _=>rfl) rfl x (by rw[<-E];exact i) E jO (.inl rfl) (fun _ _=>rfl) rfl rfl ⟨[],by rw[bV],by rw[bV]⟩
end
def bm0:Bm:=⟨0,.slice none 0 0,0,0,⟨0,.slice none 0 0,.slice none 0 0,0,.slice none 0 0,.slice none 0 0,false,false,[]⟩,0,0,.slice none 0 0⟩
def vj:Ex:=⟨x0,Ao,0,0,[],false,false,[],0⟩
theorem amM{Z:Nat}(h1:24<=Z)(h2:Z<=100000):vd Z 0 Ao:=
 ⟨⟨aO _,aO _,fun q=>absurd rfl q,aO _,fun q=>(by cases q),fun _=>rfl,jD,h1,h2⟩,fun b a=>(by cases a)⟩
section
variable {Y d n Z win lim:Nat} {h:H}
theorem amN(win lim:Nat):af (fun _=>False) n (aj aa gt Y (d+1) 84 #[jI (win:Int),jI (lim:Int)]) h n fun v h' n'=>v= .bool (decide ((64<=win∧win<=1048576)∧1<=lim∧lim<=65536))∧h'=h∧n'=n:=by
 rw[aB (fun _=>RI) rfl];refine af.aA ?_;unfold H';by_cases a:(64:Int)<=(win:Int)
 ·by_cases b:(win:Int)<=1048576
  ·by_cases c:(1:Int)<=(lim:Int)
   ·by_cases f:(lim:Int)<=65536
    ·have e:decide ((64<=win∧win<=1048576)∧1<=lim∧lim<=65536)=true:=decide_eq_true jO;rw[e];exact jC (aI @a (aI @b (aI @c @f)))
    ·have e:decide ((64<=win∧win<=1048576)∧1<=lim∧lim<=65536)=false:=decide_eq_false jO;rw[e];exact jC (aI @a (aI @b (aI @c @f)))
   ·have e:decide ((64<=win∧win<=1048576)∧1<=lim∧lim<=65536)=false:=decide_eq_false jO;rw[e];exact jC (aI @a (aI @b @c))
  ·have e:decide ((64<=win∧win<=1048576)∧1<=lim∧lim<=65536)=false:=decide_eq_false jO;rw[e];exact jC (aI @a @b)
 ·have e:decide ((64<=win∧win<=1048576)∧1<=lim∧lim<=65536)=false:=decide_eq_false jO;rw[e];exact jC @a
theorem amO(h1:24<=Z)(h2:Z<=100000)(G:64<=win)(E:win<=1048576)(D:1<=lim)(C:lim<=65536):af (fun _=>False) n (aj aa gt Y (d+3) 29 #[jI (Z:Int),jI (win:Int),jI (lim:Int)]) h n fun v h' n'=>∃L m,v= .tuple #[jP m.a 0,jI 0]∧(∀c,c<n->L c=0)∧eI h' n' L Z win lim vj m:=by
 rw[aB (fun _=>QF) rfl];refine af.aA ?_;unfold HH;refine jB ?_;refine aN aF (ajU (Y:=Y) (d:=d) h1 h2) (ah _) (fun _ _ h=>h.elim) fun z f B s x e=> ?_;obtain⟨rfl,rfl,l⟩:=e;have k:((0:Int) !=0)=false:=rfl;have i:=amN (Y:=Y) (d:=d+1) (n:=n+1) (h:=f) win lim;rw[decide_eq_true jO]at i;refine jA (aI @bJ (aI @ext1 @k)) ?_;refine bq i jO (fun _ _ h=>h.elim) ?_;refine jA @eK ?_;refine aN aF (ahN (Y:=Y) (d:=d+1) (S:=[]) (aO _)) jO (fun _ _ h=>h.elim) fun y u A r g a=> ?_;obtain⟨rfl,rfl,p⟩:=a;refine jB ?_;refine gD trivial _ _ ?_;refine jB ?_;refine⟨fun c=>if c=n then 9 else if c=n+1 then 1 else if c=n+1+1 then 18 else 0,⟨n+1+1,n+1,⟨n,bm0⟩,0,⟨0,0,0,0⟩,.slice none 0 0⟩,rfl,fun c j=> ?_, ?_⟩
 ·show(if c=n then 9 else if c=n+1 then 1 else if c=n+1+1 then 18 else 0)=0;rw[if_neg jO,if_neg jO,if_neg jO]
 ·refine⟨get_eq _ _ _,dI _, ?_,⟨0,p.au (eL _) (aw _ _ (by show n+1≠n+1+1;omega)),fun _=>rfl⟩, ?_, ?_,fun _=> ?_,fun o q=>(by cases q),.inl ⟨rfl,rfl⟩,fun b t=>t.not_nil.elim⟩
  ·show(if n+1+1=n then 9 else if n+1+1=n+1 then 1 else if n+1+1=n+1+1 then 18 else 0)=18;rw[if_neg jO,if_neg jO,if_pos rfl]
  ·show(if n+1=n then 9 else if n+1=n+1 then 1 else if n+1=n+1+1 then 18 else 0)=1;rw[if_neg jO,if_pos rfl]
  ·have:=l (fun c=>if c=n then 9 else if c=n+1 then 1 else if c=n+1+1 then 18 else 0) ⟨n,bm0⟩ (n+1) (if_pos rfl) rfl;refine this.au jO (fun _ _=>rfl) fun c j q1 q2=> ?_;rw[aw _ _ jO];exact g c j id
  ·exact⟨rfl,rfl⟩
end
section
variable {S:List UInt8} {Z win lim K N:Nat} {e:Ex}
theorem xi0(h1:24<=Z)(h2:Z<=100000):XI S Z win lim K 0 vj:=
 ⟨⟨S,rfl⟩,fun q=>(by cases q),fun _=>rfl,fun _=>rfl,fun _=>amM h1 h2,aO _,fun _=>rfl,aO _,fun o a=>(by cases a),fun q=>(by cases q),aO _,aO _,aO _,fun b c=>(by cases c),rfl,aO _⟩
theorem amP{at_ m:Nat}(i:XI S Z win lim K N e)(f:at_=e.F.length):XI S Z win lim K N (hZ win e ((S.drop at_).take m)):=by
 unfold hZ;split
 ·exact i
 ·next hn=>
  obtain⟨k,j⟩:∃k,jc win e ((S.drop at_).take m)=k:=⟨_,rfl⟩;have a:k=min ((S.drop at_).take m).length (win-(e.F.length-e.D)):=by rw[<-j];unfold jc;rw[if_neg hn]
  rw[j];obtain⟨R,l⟩:=i.pre;have hd:S.drop at_=R:=by rw[f,l,List.drop_left]
  rw[hd]at a⊢
  have ne:e.ended=false:=by
   cases h:e.ended with
   |false=>rfl
   |true=>exact absurd (.inl h) hn
  have g:((R.take m).take k).length=k:=by rw[cT];omega
  have b:(e.F++(R.take m).take k).length=e.F.length+k:=by rw[bG,g]
  have t:=i.hD;refine⟨⟨R.drop k, ?_⟩,fun q=> ?_,i.ru,i.wr,i.us, ?_,i.D8, ?_,i.op,fun q s=> ?_, ?_,i.out,i.lv,i.bd,i.run,i.st⟩
  ·show S=e.F++(R.take m).take k++R.drop k;have d:k<=m:=by have:=g;rw[a,cT];omega
   rw[l,ey,MH,ic d,AP]
  ·have q:e.ended=true:=q;rw[ne]at q;cases q
  ·show e.c.A<=8*(e.F++_).length;rw[b];have:=i.A;omega
  ·show e.D<=(e.F++_).length;rw[b];omega
  ·have q:(if 0<k then false else e.short)=true:=q;by_cases c:0<k
   ·rw[if_pos c]at q;cases q
   ·rw[if_neg c]at q;obtain rfl:k=0:=jO;obtain⟨r,p,o,n⟩:=i.sh q s;refine⟨r, ?_,o,n⟩;show dc Z e.c.u e.c.A (ar (e.F++(R.take m).take 0) 0 e.c.A)=_;rw[List.take_zero,bV];exact p
  ·show(e.F++_).length-e.D<=win;rw[b];have:=i.held;omega
theorem amQ(i:XI S Z win lim K N e)(b:e.F.length=S.length):XI S Z win lim K N (l7 e):=by
 unfold l7;split
 ·exact i
 ·obtain⟨R,a⟩:=i.pre
  have c:e.F=S:=by
   have:R=[]:=by have:=congrArg pZ a;rw[bG]at this;exact List.length_eq_zero_iff.1 jO
   rw[a,this,bV]
  exact⟨i.pre,fun _=>c,i.ru,i.wr,i.us,i.A,i.D8,i.hD,i.op,fun q=>(by cases q),i.held,i.out,i.lv,i.bd,i.run,i.st⟩
theorem amR(i:XI S Z win lim K N e)(k:Nat):XI S Z win lim K N {e with out:=e.out.drop k}:=
 ⟨i.pre,i.all,i.ru,i.wr,i.us,i.A,i.D8,i.hD,i.op,i.sh,i.held,by show(e.out.drop k).length<=_;rw[bE];have:=i.out;omega,i.lv,i.bd,i.run,i.st⟩
end
def rC(a at_:Nat)(b:List Nat)(ok:Bool):List Value:=[jP a 0,jI (at_:Int),.string ⟨(bS b).toArray⟩,.bool ok]
def rV(a at_:Nat)(b:List Nat)(ok:Bool):Value:= .agg (rC a at_ b ok).toArray
def qR(S:List UInt8)(at_:Nat)(c:Int):Nat:=min (max c 0).toNat (S.length-at_)
def mJ(win:Nat)(S:List UInt8)(e:Ex)(at_:Nat)(c:Int):Nat:=jc win e ((S.drop at_).take (qR S at_ c))
def fR(win:Nat)(S:List UInt8)(e:Ex)(at_:Nat)(c:Int):Ex:=if at_+mJ win S e at_ c=S.length then l7 (hZ win e ((S.drop at_).take (qR S at_ c)))else hZ win e ((S.drop at_).take (qR S at_ c))
def Lz(n:Nat)(L:Nat->Nat):Nat->Nat:=fun c=>if c<n then L c else 0
theorem gw{n c:Nat}{L:Nat->Nat}(h:c<n):Lz n L c=L c:=if_pos h
theorem mK{n c:Nat}{L:Nat->Nat}(h:n<=c):Lz n L c=0:=if_neg jO
section
variable {S:List UInt8} {Z win lim K N:Nat} {e:Ex}
theorem room_le(T:List UInt8):jc win e T<=T.length:=by
 unfold jc;split
 ·exact aO _
 ·exact anT _ _
theorem Mf(T:List UInt8):(hZ win e T).F.length=e.F.length+jc win e T:=by
 unfold hZ;split
 ·next h=>unfold jc;rw[if_pos h];rfl
 ·show(e.F++T.take (jc win e T)).length=_;rw[bG,cT,ic (room_le T)]
theorem aam(T:List UInt8):(hZ win e T).c=e.c:=by unfold hZ;split<;>rfl
theorem aan(T:List UInt8):(hZ win e T).out=e.out∧(hZ win e T).steps=e.steps∧(hZ win e T).ended=e.ended:=by unfold hZ;split<;>exact⟨rfl,rfl,rfl⟩
theorem amS(e:Ex):(l7 e).out=e.out∧(l7 e).steps=e.steps∧(l7 e).c=e.c∧(l7 e).F=e.F:=by unfold l7;split<;>exact⟨rfl,rfl,rfl,rfl⟩
theorem amT{at_:Nat}{c:Int}(i:XI S Z win lim K N e)(a:at_=e.F.length):XI S Z win lim K N (fR win S e at_ c):=by
 have i1:=amP (m:=qR S at_ c) i a;unfold fR;split
 ·next h=>exact amQ i1 (by rw[Mf,<-a];exact h)
 ·exact i1
theorem aao(at_:Nat)(c:Int):(fR win S e at_ c).out=e.out∧(fR win S e at_ c).steps=e.steps∧(fR win S e at_ c).c=e.c∧(fR win S e at_ c).F.length=e.F.length+mJ win S e at_ c:=by
 unfold fR;obtain⟨b,a,i⟩:=aan (win:=win) (e:=e) ((S.drop at_).take (qR S at_ c));split
 ·obtain⟨h,g,f,d⟩:=amS (hZ win e ((S.drop at_).take (qR S at_ c)));exact⟨h.trans b,g.trans a,f.trans (aam _),by rw[d];exact Mf _⟩
 ·exact⟨b,a,aam _,Mf _⟩
end
section
variable {Y d n Z win lim K N:Nat} {h:H} {L:Nat->Nat} {e:Ex} {m:Xm} {S:List UInt8}
end
section
variable {S:List UInt8} {Z win lim K:Nat} {e:Ex} {at_:Nat} {tk:List Nat}
end
section
variable {Y d n Z win lim K:Nat} {h:H} {L:Nat->Nat} {e:Ex} {m:Xm} {S:List UInt8} {t:List Nat} {er:Int}
end
section
variable {S:List UInt8} {Z win lim K k:Nat} {e e2:Ex} {at_:Nat} {tk:List Nat}
theorem aap(e:Ex):(l7 e).ended=true:=by
 unfold l7;split
 ·assumption
 ·rfl
end
section
variable {β:Type} {W:Nat->Prop} {n0:Nat} {h:H} {n:Nat} {Q:β->H->Nat->Prop}
theorem aaq(b off:Nat)(v:Value)(k:Value×Tk->M β){e:TypeId}{cs:List Value}(g:h.get b=some ⟨e,true,cs⟩)(i:b<n)(f:off<cs.length)(h1:one v=true)(d:n0<=b∨W b)(x:∀T,af W n0 (k (undef,T)) (h.set b (some ⟨e,true,cs.set off v⟩)) n Q):af W n0 ((az (aJ (jP b off) v M.ret)).bind k) h n Q:=
 ahB (Q':=fun a j c=>a=undef∧j=h.set b (some ⟨e,true,cs.set off v⟩)∧c=n) (KM trivial b off v _ g i f h1 d ((kS _).2 ⟨rfl,rfl,rfl⟩)) fun a h1 p T q ⟨o,m,l⟩=>by subst o;subst m;subst l;exact x T
end
section
variable {Y d n Z win lim K:Nat} {h:H} {L L1:Nat->Nat} {e:Ex} {m:Xm} {S:List UInt8} {Q:Value->H->Nat->Prop}
variable {t:List Nat} {er:Int}
end
structure Te where
 e:Ex
 c9:Nat
 cz:List Nat
 told:Bool
def kZ(T:Te)(a:Nat):AB:=⟨144,true,[jP a 0,jI (T.c9:Int),.string ⟨(bS T.cz).toArray⟩,.bool T.told]⟩
structure cD (h:H) (n:Nat) (L:Nat->Nat) (Z win ta:Nat) (T:Te) (m:Xm):Prop where
 x:eI h n L Z win 4096 T.e m
 get:h.get ta=some (kZ T m.a)
 lt:ta<n
 la:L ta=20
def WT(L:Nat->Nat):Nat->Prop:=fun c=>1<=L c∧L c<=20
theorem AA{L:Nat->Nat}{c:Nat}(h:WX L c):WT L c:=⟨h.1,gV h.2 jD⟩
theorem cD.au{h h':H}{n n':Nat}{L L':Nat->Nat}{Z win a:Nat}{T:Te}{m:Xm}(x:cD h n L Z win a T m)(b:n<=n')(e:∀c,c<n->L' c=L c)(d:∀c,c<n->1<=L c->L c<=20->h'.get c=h.get c):cD h' n' L' Z win a T m:=
 ⟨x.x.au b e (fun c f i g=>d c f i (gV g jD)),(d _ x.lt (by rw[x.la];decide) (by rw[x.la];decide)).trans x.get,fK x.lt b,(e _ x.lt).trans x.la⟩
def oI(L:Nat->Nat)(n Z win d:Nat)(m:Xm)(e:Te)(h':H)(n':Nat):Prop:=∃b a,(∀c,c<n->b c=L c)∧a.a=m.a∧cD h' n' b Z win d e a
section
variable {Y d n Z win ta:Nat} {h:H} {L:Nat->Nat} {T:Te} {m:Xm}
theorem cD.nx(x:cD h n L Z win ta T m):¬WX L ta:=fun q=>by have:=q.2;rw[x.la]at this;omega
theorem cD.step{h':H}{n':Nat}{a:Ex}(x:cD h n L Z win ta T m)(g:n<=n')(i:∀b,b<n->¬WX L b->h'.get b=h.get b)(p:pX L n Z win 4096 m a h' n'):oI L n Z win ta m {T with e:=a} h' n':=by obtain⟨k,f,d,c,j⟩:=p;refine⟨k,f,d,c,j, ?_,fK x.lt g,(d _ x.lt).trans x.la⟩;rw[c];exact(i ta x.lt x.nx).trans x.get
theorem cD.put{h':H}{a:Te}(x:cD h n L Z win ta T m)(d:a.e=T.e)(g:h'.get ta=some (kZ a m.a))(b:∀c,c≠ta->h'.get c=h.get c):cD h' n L Z win ta a m:=
 ⟨by rw[d];exact x.x.au (ah _) (fun _ _=>rfl) (fun c _ f e=>b c (fun q=>by rw[q,x.la]at e;omega)),g,x.lt,x.la⟩
theorem cD.done(x:cD h n L Z win ta T m):af (fun _=>False) n (aj aa gt Y (d+2) 48 #[jP ta 0]) h n fun v h' n'=>v= .bool (fX T.e.c.fin)∧h'=h∧n'=n:=by have g:=x.get;have a:=x.lt;unfold kZ at g;rw[aB (fun _=>Q4) rfl];refine af.aA ?_;unfold HS;refine jA @g ?_;refine bq (x.x.done (Y:=Y) (d:=d)) (ah n) (fun _ _ h=>h.elim) ?_;exact jE
theorem cD.err(x:cD h n L Z win ta T m):af (fun _=>False) n (aj aa gt Y (d+2) 49 #[jP ta 0]) h n fun v h' n'=>v=jI (lO T.e.c.fin)∧h'=h∧n'=n:=by have g:=x.get;have a:=x.lt;unfold kZ at g;rw[aB (fun _=>Q5) rfl];refine af.aA ?_;unfold HU;refine jA @g ?_;refine bq (x.x.err (Y:=Y) (d:=d)) (ah n) (fun _ _ h=>h.elim) ?_;exact jE
theorem cD.steps(x:cD h n L Z win ta T m):af (fun _=>False) n (aj aa gt Y (d+2) 57 #[jP ta 0]) h n fun v h' n'=>v=jI (T.e.steps:Int)∧h'=h∧n'=n:=by have g:=x.get;have a:=x.lt;unfold kZ at g;rw[aB (fun _=>Rf) rfl];refine af.aA ?_;unfold HY;refine jA @g ?_;refine bq (x.x.steps (Y:=Y) (d:=d)) (ah n) (fun _ _ h=>h.elim) ?_;exact jE
theorem cD.Mg(x:cD h n L Z win ta T m):af (fun _=>False) n (aj aa gt Y (d+2) 93 #[jP ta 0]) h n fun v h' n'=>v= .bool (dx 4096 T.e)∧h'=h∧n'=n:=by have g:=x.get;have a:=x.lt;unfold kZ at g;rw[aB (fun _=>RS) rfl];refine af.aA ?_;unfold Ih;refine jA @g ?_;refine bq (aaj (Y:=Y) (d:=d) x.x) (ah n) (fun _ _ h=>h.elim) ?_;exact jE
theorem cD.count(x:cD h n L Z win ta T m):af (fun _=>False) n (aj aa gt Y (d+1) 50 #[jP ta 0]) h n fun v h' n'=>v=jI (T.c9:Int)∧h'=h∧n'=n:=by have g:=x.get;have a:=x.lt;unfold kZ at g;rw[aB (fun _=>Q6) rfl];refine af.aA ?_;unfold HV;exact jC @g
theorem cD.waiting(x:cD h n L Z win ta T m):af (fun _=>False) n (aj aa gt Y (d+1) 51 #[jP ta 0]) h n fun v h' n'=>v=jI ((T.cz.length:Nat):Int)∧h'=h∧n'=n:=by have g:=x.get;have a:=x.lt;unfold kZ at g;rw[aB (fun _=>aem) rfl];refine af.aA ?_;unfold Q7;exact jC (aI @g @lZ)
theorem cD.take(x:cD h n L Z win ta T m)(most:Int)(p:T.cz.length<=1000000){k:Nat}(q:k=min most.toNat T.cz.length):af (WT L) n (aj aa gt Y (d+1) 92 #[jP ta 0,jI most]) h n fun v h' n'=>v= .string ⟨(bS (T.cz.take k)).toArray⟩∧n'=n∧(∀c,c≠ta->h'.get c=h.get c)∧cD h' n L Z win ta {T with cz:=T.cz.drop k} m:=by
 have g:=x.get;have r:=x.lt;have f:WT L ta:=⟨by rw[x.la];decide,by rw[x.la];decide⟩;have o:=lZ T.cz;unfold kZ at g;rw[aB (fun _=>RR) rfl];refine af.aA ?_;unfold Ig;by_cases b:most<1
 ·have j:k=0:=jO;subst j;refine jA @b ?_;exact⟨rfl,fun _ _=>trivial,x⟩
 ·have e:(if((T.cz.length:Nat):Int)<most then((T.cz.length:Nat):Int)else most)=(k:Int):=by split<;>omega
  have i1:(0:Int)<=(k:Int):=jO;have i:(k:Int)<=(((bS T.cz).length:Nat):Int):=jO;have l:(bS T.cz).take k=bS (T.cz.take k):=by unfold bS;rw[AU]
  have bd:(bS T.cz).drop k=bS (T.cz.drop k):=by unfold bS;rw[xJ]
  refine jA (aI @b (aI @g (aI @o (aI @e (aI @i1 (aI @i (aI @cV (aI @l (aI @bd (aI @f (aI @or_true @true_and))))))))))) ?_;refine⟨fun c a=>aw _ _ a,x.put rfl ?_ fun c a=>aw _ _ a⟩;rw[get_eq];rfl
theorem cD.end_(x:cD h n L Z win ta T m):af (WX L) n (aj aa gt Y (d+2) 46 #[jP ta 0]) h n fun v h' n'=>n'=n∧cD h' n L Z win ta {T with e:=l7 T.e} m:=by have g:=x.get;have f:=x.lt;unfold kZ at g;rw[aB (fun _=>QX) rfl];refine af.aA ?_;unfold HR;refine jA @g ?_;refine aN aF (x.x.end_ (Y:=Y) (d:=d)) (ah n) (fun b _ k=> .inr k) fun l p o j c a=> ?_;obtain⟨rfl,rfl,i⟩:=a;refine jB ?_;exact⟨i,(c ta f x.nx).trans x.get,f,x.la⟩
theorem cD.feed(x:cD h n L Z win ta T m)(S:List UInt8)(p:T.e.F.length+S.length<=1000000000)(q:T.e.D<=T.e.F.length)(k:T.e.F.length-T.e.D<=win)(a:win<=2000000):af (WX L) n (aj aa gt Y (d+3) 45 #[jP ta 0,.string ⟨S.toArray⟩]) h n fun v h' n'=>v=jI ((jc win T.e S:Nat):Int)∧n'=n∧cD h' n L Z win ta {T with e:=hZ win T.e S} m:=by have g:=x.get;have i:=x.lt;unfold kZ at g;rw[aB (fun _=>QW) rfl];refine af.aA ?_;unfold HQ;refine jA @g ?_;refine aN aF (x.x.feed (Y:=Y) (d:=d) S p q k a) (ah n) (fun b _ o=> .inr o) fun r t s l f c=> ?_;obtain⟨rfl,rfl,j⟩:=c;refine jB ?_;exact⟨j,(f ta i x.nx).trans x.get,i,x.la⟩
theorem cD.held(x:cD h n L Z win ta T m)(r:T.e.F.length<=1000000000)(bd:∀b,T.e.ru.bf=some b->b.Bd (T.e.ru.level*Z))(lv:T.e.ru.level<=9)(p:Z<=100000)(q:T.e.out.length<=1000000)(bC:∀o,T.e.c.op=some o->T.e.ru.bf=none∧T.e.c.u.aS.last.length<=9*Z)(i:T.cz.length<=1000):af (fun _=>False) n (aj aa gt Y (d+7) 55 #[jP ta 0]) h n fun v _ _=>∃N:Nat,v=jI (N:Int)∧N<=(T.e.F.length-T.e.D)+T.e.out.length+18*Z+34400+T.cz.length:=by
 have g:=x.get;have e:=x.lt;have t:=lZ T.cz;unfold kZ at g;rw[aB (fun _=>aer) rfl];refine af.aA ?_;unfold Rc;refine jB ?_;refine gF trivial ta 0 _ g e (ah _) rfl fun E y=> ?_;refine jB ?_;refine lV aF (x.x.held (Y:=Y) (d:=d) r bd lv p q bC) (ah _) fun u B z D c f a l=> ?_;obtain⟨N,rfl,A⟩:=a;have s:=(f ta e).trans g;have j:IntKind.i64.wrap ((N:Int)+((T.cz.length:Nat):Int))=((N+T.cz.length:Nat):Int):=by rw[aH jO jO];rfl
 refine jB ?_;refine gF trivial ta 2 _ s e c rfl fun C k=> ?_;try simp(disch:=first|omega|assumption) only[Nat.reduceAdd,Nat.reduceLT,RZ,t,j,l.cy k,cf,dJ,dG]
 exact⟨_,rfl,jO⟩
end
def amU(T:Te):Te:={T with e:={T.e with out:=[]},c9:=T.c9+T.e.out.length}
def oJ(T:Te):Te:=if T.e.c.fin=some 0∧T.told=false then{T with told:=true,cz:=iu 19 T.c9}else T
section
variable {Y d n Z win ta:Nat} {h:H} {L:Nat->Nat} {T:Te} {m:Xm}
theorem cD.forget(x:cD h n L Z win ta T m)(I:T.e.out.length<=1000000)(hc:T.c9<=1000000000000):af (WT L) n (aj aa gt Y (d+2) 94 #[jP ta 0]) h n fun v h' n'=>n'=n∧∃ov,cD h' n L Z win ta (amU T) {m with ov:=ov}:=by
 have g:=x.get;have a:=x.lt;have B:WT L ta:=⟨by rw[x.la];decide,by rw[x.la];decide⟩;unfold kZ at g;rw[aB (fun _=>RU) rfl];refine af.aA ?_;unfold Ii;refine jB ?_;refine uM trivial ta 1 _ g a (v:=jI (T.c9:Int)) rfl fun T1 t s r=> ?_;refine jB ?_;refine uM trivial ta 0 _ g a (v:=jP m.a 0) rfl fun T2 b1 X W=> ?_;refine jB ?_;refine uM trivial ta 0 _ g a (v:=jP m.a 0) rfl fun T3 _ _ _=> ?_;refine D4 aF (x.x.waiting (Y:=Y) (d:=d)) (ah n) (fun _ _ h=>h.elim) fun v1 K n1 T4 G O f p o l=> ?_;obtain⟨rfl,rfl,rfl⟩:=f;have j:=x.x.take (Y:=Y) (d:=d) ((T.e.out.length:Nat):Int) I;have D:takeN T.e ((T.e.out.length:Nat):Int)=T.e.out.length:=by unfold takeN;omega
 rw[D,jf,qY]at j;refine D4 aF j (ah _) (fun b _ J=> .inr (AA J)) fun v2 k n2 T5 E i e R Q P=> ?_;obtain⟨rfl,rfl,ov,A⟩:=e;have z:=zV (W':=fun _=>False) t s r p o l a id;have y:=zV t s r R Q P a x.nx;have u:=zV (W':=fun _=>False) b1 X W p o l a id;have N:=(i ta a x.nx).trans g;have U:=lZ T.e.out;have C:IntKind.i64.wrap ((T.c9:Int)+((T.e.out.length:Nat):Int))=((T.c9+T.e.out.length:Nat):Int):=by rw[aH jO jO];rfl
 refine jA (aI @U @C) ?_;refine aaq ta 1 _ _ N a (show 1<4 by decide) rfl (.inr B) fun T6=> ?_;refine jA (aI @z (aI @y (aI @u (aI @cf (aI @dJ @dG))))) ?_;refine⟨ov,⟨A.au (ah _) (fun _ _=>rfl) (fun c _ K k=>aw _ _ (fun q=>by rw[q,x.la]at k;omega)), ?_,a,x.la⟩⟩;rw[get_eq];rfl
theorem cD.tell(x:cD h n L Z win ta T m)(b:T.c9<=1000000000000):af (WT L) n (aj aa gt Y (d+22) 95 #[jP ta 0]) h n fun v h' n'=>∃L',(∀c,c<n->L' c=L c)∧cD h' n' L' Z win ta (oJ T) m:=by
 have g:=x.get;have u:=x.lt;have t:WT L ta:=⟨by rw[x.la];decide,by rw[x.la];decide⟩;unfold kZ at g;rw[aB (fun _=>RV) rfl];refine af.aA ?_;unfold Ij;have a:¬(T.e.c.fin=some 0∧T.told=false)->∃L',(∀c,c<n->L' c=L c)∧cD h n L' Z win ta (oJ T) m:=fun q=>⟨L,fun _ _=>rfl,by unfold oJ;rw[if_neg q];exact x⟩;have hd:=x.x.done (Y:=Y) (d:=d+20);have p:=x.x.err (Y:=Y) (d:=d+20);refine jA @g ?_;cases f:T.e.c.fin with
 |none=>rw[f]at hd;simp only[fX]at hd;refine bq hd (ah n) (fun _ _ h=>h.elim) ?_;refine jB ?_;exact a (fun q=>by rw[f]at q;cases q.1)
 |some s=>
  rw[f]at hd p;simp only[fX,lO]at hd p;refine bq hd (ah n) (fun _ _ h=>h.elim) ?_;refine jA @g ?_;refine bq p (ah n) (fun _ _ h=>h.elim) ?_;by_cases k:s=0
  ·have i:(s==0)=true:=beq_iff_eq.2 k;cases j:T.told with
   |true=>rw[j]at g;refine jA (aI @i (aI @g @eK)) ?_;exact a (fun q=>by rw[j]at q;cases q.2)
   |false=>
    rw[j]at g;have y:oJ T={T with told:=true,cz:=iu 19 T.c9}:=by unfold oJ;rw[if_pos ⟨by rw[f,k],j⟩]
    refine jA (aI @i (aI @g (aI @cf (aI @t (aI @or_true @true_and))))) ?_;have C:=akL (kn:=KN) ⟨jD⟩ Y (d+2) 18 T.c9 n (h.set ta (some ⟨144,true,[jP m.a 0,jI (T.c9:Int),.string ⟨(bS T.cz).toArray⟩,.bool true]⟩)) jO jO jD;refine aN aF C (ah _) (fun _ _ h=>h.elim) fun D E z o e l=> ?_;subst l;have B:=(e ta u id).trans (get_eq _ _ _);have r:ta<z:=jO;refine jA (aI @B (aI @t (aI @or_true @true_and))) ?_;refine⟨fun c=>if c<n then L c else 0,fun c b=>if_pos b, ?_⟩;rw[y];refine⟨x.x.au o (fun c b=>if_pos b) (fun c b G A=> ?_), ?_,r,(if_pos u).trans x.la⟩
    ·have:c≠ta:=fun q=>by rw[q,x.la]at A;omega
     rw[aw _ _ this];exact(e c b id).trans (aw _ _ this)
    ·rw[get_eq];rfl
  ·have i:(s==0)=false:=beq_eq_false_iff_ne.2 k;refine jA @i ?_;exact a (fun q=>by rw[f]at q;cases q.1;exact k rfl)
end
theorem Mh(S:List UInt8)(Z:Nat):∀(k:Nat) (x:Xc),(nm S Z k x).tot.length<=x.tot.length+251*k
 |0,x=>ah _
 |k+1,x=>by
  have b:=Mh S Z k (iw S Z x)
  have a:(iw S Z x).tot.length<=x.tot.length+251:=by
   unfold iw;cases x.op with
   |some o=>show(dU x o).tot.length<=_;rw[aal,bG];have:=aak (g:=x.u.aS) (o:=o);omega
   |none=>
    show(lM S Z x).tot.length<=_;unfold lM;split
    ·exact Fo _ _
    ·split<;>exact Fo _ _
  show(nm S Z k (iw S Z x)).tot.length<=_;omega
theorem XI.aar{S:List UInt8}{Z win lim K N:Nat}{e:Ex}(i:XI S Z win lim K N e):e.c.tot.length<=251*K:=by have a:=Mh S Z N x0;rw[<-i.run]at a;have b:x0.tot.length=0:=rfl;have:=i.st;omega
theorem XI.amV{S:List UInt8}{Z win lim K N:Nat}{e:Ex}(i:XI S Z win lim K N e):XI S Z win lim K N {e with out:=[]}:=by have:=amR i e.out.length;rwa[qY]at this
theorem xz.still{S:List UInt8}{Z win lim K:Nat}{e a:Ex}{B:Int}(i:XI S Z win lim K e.steps e)(s:xz S Z win lim K e B 0 a)(b:dx lim e=false)(h1:dx lim a=true):dx lim {a with out:=[]}=true:=by
 have c:a.c=e.c:=by rw[s.xi.run,i.run];rfl
 obtain⟨t,f,d⟩:=s.out
 have h:t=[]:=by rw[c]at d;have:=congrArg pZ d;rw[bG]at this;exact List.length_eq_zero_iff.1 jO
 rw[h,bV]at f;unfold dx at b h1⊢
 show(match a.c.fin with
  |some _=>true
  |none=>match a.c.op with
   |some _=>decide (lim<=([]:List Nat).length)
   |none=>a.short)=true
 rw[c,f]at h1;rw[c];cases j:e.c.fin with
 |some q=>rfl
 |none=>
  rw[j]at b h1;cases g:e.c.op with
  |some o=>rw[g]at b h1;exact absurd (b.symm.trans h1) jD
  |none=>rw[g]at h1;exact h1
structure vk (S:List UInt8) (Z win K:Nat) (T:Te) (B:Int) (k:Nat) (T':Te):Prop where
 le:(k:Int)<=max B 0
 xi:XI S Z win 4096 K (T.e.steps+k) T'.e
 st:T'.e.steps=T.e.steps+k
 E':k=0∨dx 4096 T.e=false
 all:(k:Int)=max B 0∨dx 4096 T'.e=true
 F:T'.e.F=T.e.F
 ended:T'.e.ended=T.e.ended
 tot:T'.e.c.tot.length=T'.c9+T'.e.out.length
 dn:T'.e.c.fin≠none->T'.e.out=[]
 sm:T'.e.out.length<4096
 same:T.e.c.fin≠none->T'.c9=T.c9
 tl:T'=oJ ⟨T'.e,T'.c9,T.cz,T.told⟩
theorem amW(T:Te):(oJ T).e=T.e∧(oJ T).c9=T.c9:=by unfold oJ;split<;>exact⟨rfl,rfl⟩
section
variable {Y d n Z win ta K:Nat} {h:H} {L:Nat->Nat} {T:Te} {m:Xm} {S:List UInt8} {t:List Nat} {er:Int}
theorem Mi(x:cD h n L Z win ta T m)(i:XI S Z win 4096 K T.e.steps T.e)(hK:cY S Z K x0 t er)(w6:K<=1000000)(hS:S.length<=1000000)(B:Int)(hB:B<=9223372036854775807)(u1:T.e.c.tot.length=T.c9+T.e.out.length)(w5:T.e.c.fin≠none->T.e.out=[])(v9:T.e.out.length<4096)(w3:3000000<=Y):af (WT L) n (aj aa gt Y (d+23) 47 #[jP ta 0,jI B]) h n fun v h' n'=>∃k a,v=jI ((k:Nat):Int)∧vk S Z win K T B k a∧oI L n Z win ta m a h' n':=by
 rw[aB (fun _=>Q3) rfl];refine af.aA ?_;unfold Ct;refine jB ?_;obtain⟨I,E⟩:∃I,T.e.steps=I:=⟨_,rfl⟩
 have WW:∀{R:Nat->Nat} {n':Nat},(∀c,c<n->R c=L c)->∀b,b<n'->WT R b->n<=b∨WT L b:=fun{R n'} W b _ hb=>by
  by_cases c:b<n
  ·refine .inr ?_;unfold WT at hb⊢;rw[W b c]at hb;exact hb
  ·exact .inl jO
 have v8:∀(r j G:Nat) (h':H) (n':Nat) (R:Nat->Nat) (m':Xm) (a:Te),2*(K-(I+j))+(if dx 4096 a.e=true then 0 else 1)<=r->r<G->n<=n'->(∀c,c<n->R c=L c)->m'.a=m.a->cD h' n' R Z win ta a m'->XI S Z win 4096 K (I+j) a.e->a.e.steps=I+j->(j:Int)<=max B 0->(j=0∨dx 4096 T.e=false)->(dx 4096 T.e=false∨a=T)->a.e.F=T.e.F->a.e.ended=T.e.ended->a.e.c.tot.length=a.c9+a.e.out.length->(a.e.c.fin≠none->a.e.out=[])->a.e.out.length<4096->a.cz=T.cz->a.told=T.told->
  af (WT L) n (pA Y (aj aa gt Y (d+22)) G (tV Y (aj aa gt Y (d+22))) (jP ta 0) (jI B) (ii 0) (jI (j:Int)) (.bool false)) h' n' fun v h' n'=>∃k a,v=jI ((k:Nat):Int)∧vk S Z win K T B k a∧oI L n Z win ta m a h' n':=by
  intro r
  induction r using xD with
  |ind r ih=>
   intro j G h' n' R m' a hr hf hn W u4 U i' y w4 u0 A hF u6 P u7 u2 C p;obtain⟨G,rfl⟩:∃f,G=f+1:=⟨G-1,jO⟩;have x6:=U.lt;have g':=U.get;have iK:=i'.st;have tb:=i'.aar;unfold kZ at g'
   have stop:((j:Int)=max B 0∨dx 4096 a.e=true)->af (WT L) n (tV Y (aj aa gt Y (d+22)) (jP ta 0) (jI (j:Int))) h' n' fun v h' n'=>∃k a,v=jI ((k:Nat):Int)∧vk S Z win K T B k a∧oI L n Z win ta m a h' n':=fun u9=>by
    unfold tV;refine aN aF (U.tell (Y:=Y) (d:=d) jO) hn (WW W) fun v1 h1 n1 u3 v3 Q=> ?_;obtain⟨L1,b1,J⟩:=Q;refine jB ?_;obtain⟨D,tc⟩:=amW a;refine⟨j,oJ a,rfl,⟨w4,by rw[D,E];exact i',by rw[D,y,E],u0,by rw[D];exact u9,by rw[D];exact hF,by rw[D];exact u6,by rw[D,tc];exact P,by rw[D];exact u7,by rw[D];exact u2,fun q=> ?_, ?_⟩,L1,m',fun c hc=>(b1 c jO).trans (W c hc),u4,J⟩
    ·rw[tc];rcases A with w|w
     ·exfalso;unfold dx at w;cases u5:T.e.c.fin with
      |none=>exact q u5
      |some z=>rw[u5]at w;cases w
     ·rw[w]
    ·rw[D,tc,<-C,<-p]
   rw[pA];by_cases cB:(j:Int)<B
   ·refine jA @cB ?_;refine bq (U.Mg (Y:=Y) (d:=d+20)) hn (fun _ _ h=>h.elim) ?_;cases es:dx 4096 a.e with
    |true=>refine jA @eK ?_;exact stop (.inr es)
    |false=>
     have w1:IntKind.i64.wrap (B-(j:Int))=B-(j:Int):=aH jO jO
     have N:dx 4096 T.e=false:=by
      rcases A with q|q
      ·exact q
      ·rw[<-q];exact es
     rw[es,if_neg jD]at hr;refine jA (aI @cf (aI @g' @w1)) ?_;have i2:XI S Z win 4096 K a.e.steps a.e:=by rw[y];exact i'
     refine aN aF (amL (Y:=Y) (d:=d+5) U.x i2 hK w6 hS jD (B-(j:Int)) w3) hn (fun b hb w=>WW W b hb (AA w)) fun v1 h1 n1 u3 v3 Q=> ?_;obtain⟨u,e,rfl,s,p1⟩:=Q;obtain⟨L1,m1,b1,b2,J⟩:=U.step u3 v3 p1;obtain⟨t1,o1,o2⟩:=s.out;have sK:=s.xi.st;rw[y]at sK;have l1:=congrArg pZ o1;have l2:=congrArg pZ o2;rw[bG]at l1 l2;have x3:=s.xi.out;have w9:=s.xi.aar;have v4:=s.st;have x1:=s.le;have w2:IntKind.i64.wrap ((j:Int)+(u:Int))=((j+u:Nat):Int):=by rw[aH jO jO];rfl
     have X:XI S Z win 4096 K (I+(j+u)) e:=by have:=s.xi;rw[y]at this;rwa[<-Nat.add_assoc]
     have g1:=J.get;have x5:=J.lt;unfold kZ at g1;have v0:∀c,c<n->L1 c=L c:=fun c hc=>(b1 c jO).trans (W c hc)
     have next:∀(h2:H) (m2:Xm) (l:Te),m2.a=m1.a->cD h2 n1 L1 Z win ta l m2->XI S Z win 4096 K (I+(j+u)) l.e->(u=0->dx 4096 l.e=true)->l.e.steps=e.steps->l.e.F=e.F->l.e.ended=e.ended->l.e.c.tot.length=l.c9+l.e.out.length->(l.e.c.fin≠none->l.e.out=[])->l.e.out.length<4096->l.cz=T.cz->l.told=T.told->af (WT L) n (pA Y (aj aa gt Y (d+22)) G (tV Y (aj aa gt Y (d+22))) (jP ta 0) (jI B) (ii 0) (jI ((j+u:Nat):Int)) (.bool false)) h2 n1 fun v h' n'=>∃k a,v=jI ((k:Nat):Int)∧vk S Z win K T B k a∧oI L n Z win ta m a h' n':=by
      intro h2 m2 l q1 q2 q3 q4 q5 q6 q7 q8 q9 v5 v7 v6
      have mm:2*(K-(I+(j+u)))+(if dx 4096 l.e=true then 0 else 1)<=r-1:=by
       by_cases ck:u=0
       ·rw[if_pos (q4 ck)];omega
       ·split<;>omega
      exact ih (r-1) jO (j+u) G h2 n1 L1 m2 l mm jO jO v0 (q1.trans (b2.trans u4)) q2 q3 (by rw[q5,v4,y];omega) jO (.inr N) (.inl N) (q6.trans (s.F.trans hF)) (q7.trans (s.ended.trans u6)) q8 q9 v5 v7 v6
     have still:u=0->dx 4096 {e with out:=[]}=true:=fun q=>by
      subst q;refine xz.still i2 s es ?_;rcases s.all with w|w
      ·exfalso;omega
      ·exact w
     have fo:af (WT L) n (ai (aj aa gt Y (d+22)) 94 [jP ta 0] fun g=>pA Y (aj aa gt Y (d+22)) G (tV Y (aj aa gt Y (d+22))) (jP ta 0) (jI B) (ii 0) (jI ((j+u:Nat):Int)) (.bool false)) h1 n1 fun v h' n'=>∃k a,v=jI ((k:Nat):Int)∧vk S Z win K T B k a∧oI L n Z win ta m a h' n':=by refine aN aF (J.forget (Y:=Y) (d:=d+20) (by show e.out.length<=_;omega) (by show a.c9<=_;omega)) jO (WW v0) fun v2 h2 n2 x4 x7 w0=> ?_;obtain⟨rfl,ov,x2⟩:=w0;exact next h2 {m1 with ov:=ov} _ rfl x2 X.amV still rfl rfl rfl (by show e.c.tot.length=a.c9+e.out.length+0;omega) (fun _=>rfl) (show 0<4096 by decide) C p
     refine jA (aI @w2 @g1) ?_;refine bq (J.x.waiting (Y:=Y) (d:=d+21)) jO (fun _ _ h=>h.elim) ?_;by_cases c4:(4096:Int)<=((e.out.length:Nat):Int)
     ·refine jA @c4 ?_;exact fo
     ·refine jA (aI @c4 @g1) ?_;refine bq (J.x.done (Y:=Y) (d:=d+21)) jO (fun _ _ h=>h.elim) ?_;cases O:fX e.c.fin with
      |true=>refine jB ?_;exact fo
      |false=>
       refine jB ?_
       have ef:e.c.fin=none:=by
        cases h:e.c.fin with
        |none=>rfl
        |some q=>rw[h]at O;cases O
       refine next h1 m1 _ rfl J X (fun q=> ?_) rfl rfl rfl (by show e.c.tot.length=a.c9+e.out.length;omega) (fun q=>absurd ef q) (by show e.out.length<4096;omega) C p;have w:=still q;unfold dx at w⊢
       show(match e.c.fin with
        |some _=>true
        |none=>match e.c.op with
         |some _=>decide (4096<=e.out.length)
         |none=>e.short)=true
       have w:(match e.c.fin with
        |some _=>true
        |none=>match e.c.op with
         |some _=>decide (4096<=([]:List Nat).length)
         |none=>e.short)=true:=w
       rw[ef]at w⊢;cases ho:e.c.op with
       |some o=>rw[ho]at w;cases w
       |none=>rw[ho]at w;exact w
   ·refine jA @cB ?_;exact stop (.inl jO)
 exact v8 (2*(K-I)+1) 0 Y h n L m T (by split<;>omega) jO (ah _) (fun _ _=>rfl) rfl x (by rw[iO,<-E];exact i) E jO (.inl rfl) (.inr rfl) rfl rfl u1 w5 v9 rfl rfl
end
structure RunT (S:List UInt8) (Z win K:Nat) (T:Te) (at_:Nat) (tk:List Nat):Prop where
 xi:XI S Z win 4096 K T.e.steps T.e
 at_:at_=T.e.F.length
 tot:T.e.c.tot.length=T.c9+T.e.out.length
 dn:T.e.c.fin≠none->T.e.out=[]
 sm:T.e.out.length<4096
 told:T.told=true↔T.e.c.fin=some 0
 AD:T.told=true->tk++T.cz=iu 19 T.c9
 xA:T.told=false->tk=[]∧T.cz=[]
section
variable {S:List UInt8} {Z win K:Nat} {T:Te} {at_:Nat} {tk:List Nat}
theorem RunT.Mj(i:RunT S Z win K T at_ tk):tk.length+T.cz.length<=19:=by
 cases h:T.told with
 |true=>have a:=congrArg pZ (i.AD h);rw[bG]at a;have b:=akK 19 T.c9;omega
 |false=>obtain⟨a,b⟩:=i.xA h;rw[a,b];decide
theorem RunT.fed(i:RunT S Z win K T at_ tk)(c:Int):RunT S Z win K {T with e:=fR win S T.e at_ c} (at_+mJ win S T.e at_ c) tk:=by obtain⟨b,f,a,d⟩:=aao (win:=win) (S:=S) (e:=T.e) at_ c;exact⟨by show XI S Z win 4096 K (fR win S T.e at_ c).steps _;rw[f];exact amT i.xi i.at_,by show _=(fR win S T.e at_ c).F.length;rw[d,i.at_],by show(fR win S T.e at_ c).c.tot.length=T.c9+(fR win S T.e at_ c).out.length;rw[a,b];exact i.tot,fun q=>by have q:(fR win S T.e at_ c).c.fin≠none:=q;rw[a]at q;show(fR win S T.e at_ c).out=[];rw[b];exact i.dn q,by show(fR win S T.e at_ c).out.length<4096;rw[b];exact i.sm,by show _↔(fR win S T.e at_ c).c.fin=_;rw[a];exact i.told,i.AD,i.xA⟩
theorem amX{lim:Nat}{e:Ex}(h:dx lim e=false):e.c.fin=none:=by
 unfold dx at h;cases a:e.c.fin with
 |none=>rfl
 |some q=>rw[a]at h;cases h
theorem RunT.gone{B:Int}{k:Nat}{d:Te}(i:RunT S Z win K T at_ tk)(s:vk S Z win K T B k d):RunT S Z win K d at_ tk:=by
 have f:=s.tl
 have same:T.e.c.fin≠none->d.e.c=T.e.c:=fun q=>by
  have m:k=0:=by
   rcases s.E' with w|w
   ·exact w
   ·exact absurd (amX w) q
  rw[s.xi.run,m,i.xi.run];rfl
 have l:(d.e.c.fin=some 0∧T.told=false∧d.told=true∧d.cz=iu 19 d.c9)∨(T.told=true∧d.told=true∧d.cz=T.cz)∨(d.e.c.fin≠some 0∧T.told=false∧d.told=false∧d.cz=T.cz):=by
  unfold oJ at f;by_cases c:d.e.c.fin=some 0∧T.told=false
  ·rw[if_pos c]at f;exact .inl ⟨c.1,c.2,by rw[f],by rw[f]⟩
  ·rw[if_neg c]at f;cases j:T.told with
   |true=>exact .inr (.inl ⟨rfl,by rw[f];exact j,by rw[f]⟩)
   |false=>exact .inr (.inr ⟨fun q=>c ⟨q,j⟩,rfl,by rw[f];exact j,by rw[f]⟩)
 refine⟨by rw[s.st];exact s.xi,by rw[s.F];exact i.at_,s.tot,s.dn,s.sm, ?_,fun q=> ?_,fun q=> ?_⟩
 ·rcases l with ⟨b,e,a,g⟩|⟨b,e,a⟩|⟨b,e,a,g⟩
  ·exact⟨fun _=>b,fun _=>a⟩
  ·have h:=i.told.1 b;exact⟨fun _=>by rw[same (by rw[h];exact fun q=>nomatch q)];exact h,fun _=>e⟩
  ·exact⟨fun q=>(by rw[a]at q;cases q),fun q=>absurd q b⟩
 ·rcases l with ⟨b,e,a,g⟩|⟨b,e,a⟩|⟨b,e,a,g⟩
  ·rw[(i.xA e).1,g];rfl
  ·have h:=i.told.1 b;rw[a,s.same (by rw[h];exact fun q=>nomatch q)];exact i.AD b
  ·rw[a]at q;cases q
 ·rcases l with ⟨b,e,a,g⟩|⟨b,e,a⟩|⟨b,e,a,g⟩
  ·rw[a]at q;cases q
  ·rw[e]at q;cases q
  ·rw[g];exact i.xA e
theorem RunT.taken(i:RunT S Z win K T at_ tk)(k:Nat):RunT S Z win K {T with cz:=T.cz.drop k} at_ (tk++T.cz.take k):=
 ⟨i.xi,i.at_,i.tot,i.dn,i.sm,i.told,fun q=>by show tk++T.cz.take k++T.cz.drop k=_;rw[ey,AP];exact i.AD q,fun q=>by
   obtain⟨b,a⟩:=i.xA q;show tk++T.cz.take k=[]∧T.cz.drop k=[];rw[b,a]
   exact⟨jS,jS⟩⟩
end
theorem Fa{n n0:Nat}{L:Nat->Nat}(d:n0<=n):∀b,WT (Lz n L) b->n0<=b∨WT L b:=fun b a=>by
 by_cases c:b<n
 ·refine .inr ?_;unfold WT at a⊢;rw[gw c]at a;exact a
 ·exact .inl jO
section
variable {Y d n Z win ta K:Nat} {h:H} {L:Nat->Nat} {T:Te} {m:Xm} {S:List UInt8} {t:List Nat} {er:Int}
theorem aas{at_:Nat}{r:List Nat}(x:cD h n L Z win ta T m)(i:RunT S Z win K T at_ r)(hK:cY S Z K x0 t er)(v7:K<=1000000)(hS:S.length<=1000000)(u3:win<=2000000)(z c:Int)(hc:c<=9223372036854775807)(v6:3000000<=Y):af (WT L) n (aj aa gt Y (d+24) 54 #[rV ta at_ r true,.string ⟨S.toArray⟩,.agg #[jI z,jI c]]) h n fun v h' n'=>∃G o j,v=rV ta o j true∧RunT S Z win K G o j∧oI L n Z win ta m G h' n'∧(z=0->G={T with e:=fR win S T.e at_ c}∧o=at_+mJ win S T.e at_ c∧j=r):=by
 have A:=i.xi;have iK:=A.st;have v8:=A.out;have x4:=i.Mj;rw[aB (fun _=>aeq) rfl];refine af.aA ?_;unfold Rb;refine gD trivial _ _ ?_;refine gD trivial _ _ ?_;refine dX rfl _ ?_;obtain⟨h0,e0⟩:∃q,((h.set n (some ⟨85,true,(rV ta at_ r true).cells.toList⟩)).set (n+1) (some ⟨87,true,(Value.agg #[jI z,jI c]).cells.toList⟩)).set (n+1+1) (some ⟨85,true,z85⟩)=q:=⟨_,rfl⟩;have X:h0.get n=some ⟨85,true,[jP ta 0,jI (at_:Int),.string ⟨(bS r).toArray⟩,.bool true]⟩:=by rw[<-e0,aw _ _ jO,aw _ _ jO,get_eq];rfl
 have ge:h0.get (n+1)=some ⟨87,true,[jI z,jI c]⟩:=by rw[<-e0,aw _ _ jO,get_eq];rfl
 have gf:h0.get (n+1+1)=some ⟨85,true,[.pointer none,jI 0,.string ⟨#[]⟩,.bool false]⟩:=by rw[<-e0,get_eq];rfl
 have k0:∀b,b<n->h0.get b=h.get b:=fun b g=>by rw[<-e0,aw _ _ jO,aw _ _ jO,aw _ _ jO]
 rw[e0];have P:n<n+1+1+1:=jO;have u4:n+1<n+1+1+1:=jO;have O:n+1+1<n+1+1+1:=jO;have x0:cD h0 (n+1+1+1) (Lz n L) Z win ta T m:=x.au jO (fun b g=>gw g) (fun b g _ _=>k0 b g)
 have nz:∀{b},n<=b->¬WT (Lz n L) b:=fun g q=>by have:=q.1;rw[mK g]at this;omega
 have nx:∀{b},n<=b->¬WX (Lz n L) b:=fun g q=>nz g (AA q)
 have last:∀(J:H) (n2:Nat) (L2:Nat->Nat) (m2:Xm) (T2:Te) (B:Nat) (y:List Nat),n+1+1+1<=n2->J.get n=some ⟨85,true,[jP ta 0,jI (B:Int),.string ⟨(bS y).toArray⟩,.bool true]⟩->J.get (n+1+1)=some ⟨85,true,[.pointer none,jI 0,.string ⟨#[]⟩,.bool false]⟩->(∀b,b<n+1+1+1->L2 b=Lz n L b)->m2.a=m.a->cD J n2 L2 Z win ta T2 m2->RunT S Z win K T2 B y->(z=0->T2={T with e:=fR win S T.e at_ c}∧B=at_+mJ win S T.e at_ c∧y=r)->
  af (WT L) n (bc 4 (jP n 0) fun i=>aQ 4 (jP (n+1+1) 0) i fun x=>bc 4 (jP (n+1+1) 0) fun a=>ag [a]) J n2 fun v h' n'=>∃G o j,v=rV ta o j true∧RunT S Z win K G o j∧oI L n Z win ta m G h' n'∧(z=0->G={T with e:=fR win S T.e at_ c}∧o=at_+mJ win S T.e at_ c∧j=r):=by
  intro J n2 L2 m2 T2 B y v9 U Q u6 v5 x2 i2 hz;refine gE trivial trivial n 0 _ U jO (show 0+4<=4 by decide) ?_;refine cA (W:=WT L) (n0:=n) (sz:=4) trivial (vs:=rC ta B y true) rfl rfl rfl Q jO (.inl jO) _ fun h3 g3 k3=> ?_;exact eD trivial trivial g3 rfl jO ⟨T2,B,y,rfl,i2,⟨L2,m2,fun c hc=>(u6 c jO).trans (gw hc),v5,x2.au (ah _) (fun _ _=>rfl) (fun b g q1 q2=>k3 b (fun q=>by rw[q,u6 _ O,mK jO]at q1;omega))⟩,hz⟩
 obtain⟨M,I⟩:∃M:Int,(if c<0 then(0:Int)else c)=M:=⟨_,rfl⟩;have u5:max c 0=M:=by rw[<-I];split<;>omega
 by_cases c0:z=0
 ·have z0:(z==0)=true:=beq_iff_eq.2 c0;have hl:=A.len;have hD:=A.hD;have hh:=A.held;have w9:=i.at_;obtain⟨l,u1⟩:∃l,qR S at_ c=l:=⟨_,rfl⟩;have w6:l=min (max c 0).toNat (S.length-at_):=by rw[<-u1];rfl
  have w1:IntKind.i64.wrap (((S.length:Nat):Int)-(at_:Int))=((S.length-at_:Nat):Int):=by rw[aH jO jO];omega
  have u9:(if((S.length-at_:Nat):Int)<M then((S.length-at_:Nat):Int)else M)=(l:Int):=by rw[<-I];split<;>split at*<;>omega
  have w2:IntKind.i64.wrap ((at_:Int)+(l:Int))=((at_+l:Nat):Int):=by rw[aH jO jO];rfl
  have i1:(0:Int)<=(at_:Int):=jO;have i2:(at_:Int)<=((at_+l:Nat):Int):=jO;have i3:((at_+l:Nat):Int)<=((S.length:Nat):Int):=jO;refine jA (aI @ge (aI @z0 (aI @X (aI @I (aI @w1 (aI @u9 (aI @w2 (aI @i1 (aI @i2 (aI @i3 @cV)))))))))) ?_;obtain⟨R,hT⟩:∃R,(S.drop at_).take l=R:=⟨_,rfl⟩;have x5:R.length<=l:=by rw[<-hT,cT];exact anT _ _
  obtain⟨k,hk⟩:∃k,jc win T.e R=k:=⟨_,rfl⟩;have w7:k<=R.length:=by rw[<-hk];exact room_le R
  have hK:mJ win S T.e at_ c=k:=by unfold mJ;rw[u1,hT,hk]
  have hE:fR win S T.e at_ c=if at_+k=S.length then l7 (hZ win T.e R)else hZ win T.e R:=by unfold fR;rw[hK,u1,hT]
  have s:=i.fed c;rw[hK]at s;rw[show at_+l-at_=l by omega,hT];refine aN aF (x0.feed (Y:=Y) (d:=d+20) R jO hD hh u3) jO (fun b _ g=>Fa jO b (AA g)) fun v1 h1 n1 D p C=> ?_;obtain⟨rfl,rfl,x1⟩:=C;rw[hk];have f:=(p n P (nx (ah _))).trans X;have E:=(p (n+1+1) O (nx jO)).trans gf;have zA:¬(k:Int)<0:=jO;have zB:¬(l:Int)<(k:Int):=jO;have w3:IntKind.i64.wrap ((at_:Int)+(k:Int))=((at_+k:Nat):Int):=by rw[aH jO jO];rfl
  have wn:n<=n∨WT L n:= .inl (ah n);refine jA (aI @zA (aI @zB (aI @f @w3))) ?_;refine⟨wn, ?_⟩;obtain⟨J,e2⟩:∃q,h1.set n (some ⟨85,true,[jP ta 0,jI ((at_+k:Nat):Int),.string ⟨(bS r).toArray⟩,.bool true]⟩)=q:=⟨_,rfl⟩;have U:J.get n=some ⟨85,true,[jP ta 0,jI ((at_+k:Nat):Int),.string ⟨(bS r).toArray⟩,.bool true]⟩:=by rw[<-e2,get_eq]
  have k2:∀b,b≠n->J.get b=h1.get b:=fun b g=>by rw[<-e2,aw _ _ g]
  have Q:=(k2 (n+1+1) jO).trans E;have x2:cD J (n+1+1+1) (Lz n L) Z win ta {T with e:=hZ win T.e R} m:=x1.au (ah _) (fun _ _=>rfl) (fun b g q1 q2=>k2 b (fun q=>by rw[q,mK (ah n)]at q1;omega));rw[e2];by_cases cE:at_+k=S.length
  ·rw[if_pos (show(((at_+k:Nat):Int)==((S.length:Nat):Int))=true by rw[cE];exact beq_iff_eq.2 rfl)];rw[if_pos cE]at hE;refine aN aF (x2.end_ (Y:=Y) (d:=d+21)) jO (fun b _ g=>Fa jO b (AA g)) fun v3 h3 n3 w5 u7 v2=> ?_;obtain⟨rfl,x3⟩:=v2;rw[hE]at s;exact last h3 _ _ m _ _ r (ah _) ((u7 n jO (nx (ah _))).trans U) ((u7 (n+1+1) jO (nx jO)).trans Q) (fun _ _=>rfl) rfl x3 s (fun _=>⟨by rw[hE],by rw[hK],rfl⟩)
  ·rw[if_neg (show¬(((at_+k:Nat):Int)==((S.length:Nat):Int))=true from fun q=>cE (by have:=beq_iff_eq.1 q;omega))];rw[if_neg cE]at hE;rw[hE]at s;exact last J _ _ m _ _ r (ah _) U Q (fun _ _=>rfl) rfl x2 s (fun _=>⟨by rw[hE],by rw[hK],rfl⟩)
 have z0:(z==0)=false:=beq_eq_false_iff_ne.2 c0;by_cases c1:z=1
 ·have z1:(z==1)=true:=beq_iff_eq.2 c1;refine jA (aI @ge (aI @z0 (aI @z1 @X))) ?_;refine bq (x0.steps (Y:=Y) (d:=d+21)) jO (fun _ _ h=>h.elim) ?_;refine jA @X ?_;refine bq (x0.Mg (Y:=Y) (d:=d+21)) jO (fun _ _ h=>h.elim) ?_;refine jA (aI @X @ge) ?_;refine aN aF (Mi (Y:=Y) (d:=d) x0 A hK v7 hS c hc i.tot i.dn i.sm v6) jO (fun b _ g=>Fa jO b g) fun v1 h1 n1 D p C=> ?_;obtain⟨k,T1,rfl,sp,L1,m1,b1,b2,x1⟩:=C;have f:=(p n P (nz (ah _))).trans X;have u:=(p (n+1) u4 (nz jO)).trans ge;have E:=(p (n+1+1) O (nz jO)).trans gf;have iA:(0:Int)<=(k:Int):=jO;have iB:(k:Int)<=M:=by have:=sp.le;omega
  have sK:=sp.xi.st;have zS:(((T.e.steps+k:Nat):Int)==(T.e.steps:Int)+(k:Int))=true:=beq_iff_eq.2 rfl;have u2:=x1.steps (Y:=Y) (d:=d+21);rw[sp.st]at u2;have N:=x1.Mg (Y:=Y) (d:=d+21)
  have fin:(n<=n∨WT L n)∧af (WT L) n (bc 4 (jP n 0) fun i=>aQ 4 (jP (n+1+1) 0) i fun x=>bc 4 (jP (n+1+1) 0) fun a=>ag [a]) (h1.set n (some ⟨85,true,[jP ta 0,jI (at_:Int),.string ⟨(bS r).toArray⟩,.bool true]⟩)) n1 fun v h' n'=>∃G o j,v=rV ta o j true∧RunT S Z win K G o j∧oI L n Z win ta m G h' n'∧(z=0->G={T with e:=fR win S T.e at_ c}∧o=at_+mJ win S T.e at_ c∧j=r):=
   ⟨.inl (ah n),last _ _ L1 m1 T1 at_ r D (get_eq _ _ _) ((aw _ _ jO).trans E) b1 b2 (x1.au (ah _) (fun _ _=>rfl) (fun b g q1 q2=>aw _ _ (fun q=>by rw[q,b1 _ P,mK (ah n)]at q1;omega))) (i.gone sp) (fun q=>absurd q c0)⟩
  refine jA (aI @f (aI @u (aI @I (aI @iA @iB)))) ?_;refine bq u2 jO (fun _ _ h=>h.elim) ?_;have w4:n<n1:=jO;have w0:n+1<n1:=jO;by_cases ck:k=0
  ·have zk:((k:Int)==0)=true:=by rw[ck];rfl
   by_cases cM:(k:Int)=M
   ·have zM:((k:Int)==M)=true:=beq_iff_eq.2 cM;refine jA (aI @zS (aI @zk (aI @f (aI @u (aI @I @zM))))) ?_;exact fin
   ·have zM:((k:Int)==M)=false:=beq_eq_false_iff_ne.2 cM
    have hs:dx 4096 T1.e=true:=by
     rcases sp.all with q|q
     ·exact absurd (q.trans u5) cM
     ·exact q
    rw[hs]at N;refine jA (aI @zS (aI @zk (aI @f (aI @u (aI @I @zM))))) ?_;refine bq N jO (fun _ _ h=>h.elim) ?_;refine jA @f ?_;exact fin
  ·have zk:((k:Int)==0)=false:=beq_eq_false_iff_ne.2 jO
   have u0:dx 4096 T.e=false:=by
    rcases sp.E' with q|q
    ·exact absurd q ck
    ·exact q
   by_cases cM:(k:Int)=M
   ·have zM:((k:Int)==M)=true:=beq_iff_eq.2 cM;refine jA (aI @zS (aI @zk (aI @f (aI @u (aI @I (aI @zM (aI @u0 @cf))))))) ?_;exact fin
   ·have zM:((k:Int)==M)=false:=beq_eq_false_iff_ne.2 cM
    have hs:dx 4096 T1.e=true:=by
     rcases sp.all with q|q
     ·exact absurd (q.trans u5) cM
     ·exact q
    rw[hs]at N;refine jA (aI @zS (aI @zk (aI @f (aI @u (aI @I (aI @zM (aI @u0 @cf))))))) ?_;refine bq N jO (fun _ _ h=>h.elim) ?_;refine jA @f ?_;exact fin
 ·have z1:(z==1)=false:=beq_eq_false_iff_ne.2 c1;refine jA (aI @ge (aI @z0 (aI @z1 @X))) ?_;refine bq (x0.waiting (Y:=Y) (d:=d+22)) jO (fun _ _ h=>h.elim) ?_;refine jA (aI @X @ge) ?_;obtain⟨q,v4⟩:∃q,q=min c.toNat T.cz.length:=⟨_,rfl⟩;refine aN aF (x0.take (Y:=Y) (d:=d+22) c jO v4) jO (fun b _ g=>Fa jO b g) fun v1 h1 n1 D p C=> ?_;obtain⟨rfl,rfl,_,x1⟩:=C;have f:=(p n P (nz (ah _))).trans X;have u:=(p (n+1) u4 (nz jO)).trans ge;have E:=(p (n+1+1) O (nz jO)).trans gf;have bl:(bS (T.cz.take q)).length=q:=by rw[lZ,cT];omega
  have zt:(if M<((T.cz.length:Nat):Int)then M else((T.cz.length:Nat):Int))=(q:Int):=by rw[<-I];split<;>split at*<;>omega
  have zq:(((q:Nat):Int)==((q:Nat):Int))=true:=beq_iff_eq.2 rfl;have wa:=x1.waiting (Y:=Y) (d:=d+22);have dl:(T.cz.drop q).length=T.cz.length-q:=bE;have zd:((((T.cz.drop q).length:Nat):Int)==((T.cz.length:Nat):Int)-((q:Nat):Int))=true:=beq_iff_eq.2 jO;have g:bS r++bS (T.cz.take q)=bS (r++T.cz.take q):=by unfold bS;rw[qa]
  have v0:(bS r).length+(bS (T.cz.take q)).length<=9223372036854775807:=by rw[bl,lZ];omega
  refine jA (aI @f (aI @u (aI @I (aI @bl (aI @zt @zq))))) ?_;refine bq wa jO (fun _ _ h=>h.elim) ?_;refine jA (aI @f (aI @bl (aI @zd (aI @v0 @g)))) ?_;exact⟨.inl (ah n),.inl (ah n),last _ _ (Lz n L) m _ at_ _ (ah _) (get_eq _ _ _) ((aw _ _ jO).trans ((aw _ _ jO).trans E)) (fun _ _=>rfl) rfl (x1.au (ah _) (fun _ _=>rfl) (fun b g q1 q2=>(aw _ _ (fun q=>by rw[q,mK (ah n)]at q1;omega)).trans (aw _ _ (fun q=>by rw[q,mK (ah n)]at q1;omega)))) (i.taken q) (fun w=>absurd w c0)⟩
end
def xB(S:List UInt8)(e:Ex):Nat:=(S.length-e.F.length)+(if e.ended=true then 0 else 1)+(if dx 4096 e=true then 0 else 1)
def k8(t:List Nat)(a:Int):List Nat:=if a=0 then iu 19 t.length else []
section
variable {S:List UInt8} {Z win K k:Nat} {T T2:Te} {at_:Nat} {tk:List Nat}
theorem amY{B:Int}(L:(K:Int)<B)(i:RunT S Z win K T at_ tk)(g:T.e.c.fin=none)(G:64<=win)(s:vk S Z win K {T with e:=fR win S T.e at_ (S.length:Int)} B k T2):xB S T2.e+1<=xB S T.e:=by
 obtain⟨R,Q,P,t⟩:=aao (win:=win) (S:=S) (e:=T.e) at_ (S.length:Int)
 have l:T.e.ended=true->(fR win S T.e at_ (S.length:Int)).ended=true:=fun h=>by
  unfold fR;split
  ·exact aap _
  ·exact((aan _).2.2).trans h
 have b:at_+mJ win S T.e at_ (S.length:Int)=S.length->(fR win S T.e at_ (S.length:Int)).ended=true:=fun q=>by unfold fR;rw[if_pos q,aap]
 obtain⟨f,n⟩:∃f,mJ win S T.e at_ (S.length:Int)=f:=⟨_,rfl⟩;rw[n]at t b
 have j:dx 4096 T2.e=true:=by
  rcases s.all with q|q
  ·exfalso;have d:=s.xi.st;have p:k<=K:=gV (Nat.le_add_left _ _) d;omega
  ·exact q
 have E:T2.e.F.length=T.e.F.length+f:=by rw[s.F];exact t
 have u:T2.e.ended=(fR win S T.e at_ (S.length:Int)).ended:=s.ended;have y:=s.xi.len;have z:=i.at_;have I:=i.xi.len;unfold xB;rw[j,if_pos rfl,u]
 have D:(if(fR win S T.e at_ (S.length:Int)).ended=true then 0 else 1)<=(if T.e.ended=true then 0 else 1):=by
  by_cases c:T.e.ended=true
  ·rw[if_pos c,if_pos (l c)];exact ah _
  ·rw[if_neg c];split<;>omega
 cases x:dx 4096 T.e with
 |false=>rw[if_neg (show¬(false=true)from FM)];omega
 |true=>
  have a:=x;unfold dx at a;rw[g]at a;cases r:T.e.c.op with
  |some o=>rw[r]at a;have:=of_decide_eq_true a;have:=i.sm;omega
  |none=>
   rw[r]at a;obtain⟨d,p,_,N⟩:=i.xi.sh a g;by_cases C:at_+f=S.length
   ·rw[b C,if_pos rfl,d,if_neg (show¬(false=true)from FM)];omega
   ·have O:f≠0:=fun q=>by
     have v:¬(T.e.ended=true∨fX T.e.c.fin=true):=by rw[d,g];simp[fX]
     have A:qR S at_ (S.length:Int)=S.length-at_:=by unfold qR;omega
     have m:jc win T.e ((S.drop at_).take (S.length-at_))=0:=by have:=n;unfold mJ at this;rw[A]at this;omega
     unfold jc at m;rw[if_neg v,cT,bE]at m;have J:=i.xi.held;refine ama (i.xi.us g).ok ?_ p;rw[fy];omega
    omega
theorem RunT.fin{t:List Nat}{d:Int}(i:RunT S Z win K T at_ tk)(f:cY S Z K x0 t d)(l:fX T.e.c.fin=true):T.e.c.fin=some d∧T.e.steps=K∧T.c9=t.length∧T.e.out=[]∧tk++T.cz=k8 t d:=by
 have j:T.e.steps=K:=by
  rcases Nat.lt_or_eq_of_le i.xi.st with q|q
  ·have:=f.2.2 _ q;rw[<-i.xi.run]at this;rw[this]at l;cases l
  ·exact q
 have e:=i.xi.run;rw[j]at e;have a:T.e.c.fin=some d:=by rw[e];exact f.1
 have k:=i.dn (by rw[a];exact fun q=>nomatch q);have g:=i.tot;rw[e,f.2.1,k]at g;have b:T.c9=t.length:=g.symm;refine⟨a,j,b,k, ?_⟩;unfold k8;by_cases c:d=0
 ·rw[if_pos c,<-b];exact i.AD (i.told.2 (by rw[a,c]))
 ·rw[if_neg c]
  have:T.told=false:=by
   cases h:T.told with
   |false=>rfl
   |true=>have:=i.told.1 h;rw[a]at this;cases this;exact absurd rfl c
  obtain⟨n,m⟩:=i.xA this;rw[n,m];rfl
end
section
variable {Y d n Z win ta K:Nat} {h:H} {L:Nat->Nat} {T:Te} {m:Xm} {S:List UInt8} {t:List Nat} {er:Int}
theorem aat{at_:Nat}{O:List Nat}(x:cD h n L Z win ta T m)(i:RunT S Z win K T at_ O)(hK:cY S Z K x0 t er)(x6:K<=93700)(hS:S.length<=200)(hw:64<=win)(u0:win<=2000000)(u4:3000000<=Y):af (WT L) n (aj aa gt Y (d+25) 56 #[rV ta at_ O true,.string ⟨S.toArray⟩]) h n fun v h' n'=>∃e a,v=rV ta a (k8 t er) true∧e.e.c.fin=some er∧e.e.steps=K∧e.c9=t.length∧RunT S Z win K e a (k8 t er)∧oI L n Z win ta m e h' n':=by
 rw[aB (fun _=>aet) rfl];refine af.aA ?_;unfold HX;refine gD trivial _ _ ?_;refine dX rfl _ ?_;obtain⟨h0,e0⟩:∃q,(h.set n (some ⟨85,true,(rV ta at_ O true).cells.toList⟩)).set (n+1) (some ⟨85,true,z85⟩)=q:=⟨_,rfl⟩;have gd:h0.get n=some ⟨85,true,rC ta at_ O true⟩:=by rw[<-e0,aw _ _ jO,get_eq];rfl
 have ge:h0.get (n+1)=some ⟨85,true,[.pointer none,jI 0,.string ⟨#[]⟩,.bool false]⟩:=by rw[<-e0,get_eq];rfl
 have k0:∀b,b<n->h0.get b=h.get b:=fun b p=>by rw[<-e0,aw _ _ jO,aw _ _ jO]
 rw[e0];have w3:n<n+1+1:=jO;have w0:n+1<n+1+1:=jO;have v0:cD h0 (n+1+1) (Lz n L) Z win ta T m:=x.au jO (fun b p=>gw p) (fun b p _ _=>k0 b p)
 have v6:∀(r j N:Nat) (h':H) (n':Nat) (E:Nat->Nat) (m':Xm) (e:Te) (a:Nat) (s:List Nat),xB S e.e<=r->j+r<=1000->r+2<N->n+1+1<=n'->h'.get n=some ⟨85,true,rC ta a s true⟩->h'.get (n+1)=some ⟨85,true,[.pointer none,jI 0,.string ⟨#[]⟩,.bool false]⟩->(∀b,b<n+1+1->E b=Lz n L b)->m'.a=m.a->cD h' n' E Z win ta e m'->RunT S Z win K e a s->
  af (WT L) n (wj Y (aj aa gt Y (d+24)) N (Cu Y (aj aa gt Y (d+24))) (rV ta at_ O true) (.string ⟨S.toArray⟩) (jP n 0) (jP (n+1) 0) (jI (j:Int))) h' n' fun v h' n'=>∃e a,v=rV ta a (k8 t er) true∧e.e.c.fin=some er∧e.e.steps=K∧e.c9=t.length∧RunT S Z win K e a (k8 t er)∧oI L n Z win ta m e h' n':=by
  intro r
  induction r using xD with
  |ind r ih=>
   intro j N h' n' E m' e a s x4 x5 hf hn A u6 y u3 x' X;obtain⟨N,rfl⟩:∃f,N=f+1:=⟨N-1,jO⟩;have g:n<n':=jO;have l:n+1<n':=jO;have cj:(j:Int)<2000:=jO;have C:E n=0:=(y n w3).trans (mK (ah n));have u:E (n+1)=0:=(y (n+1) w0).trans (mK (eL n))
   have WW:∀b,b<n'->WT E b->n<=b∨WT L b:=fun b p q=>by
    by_cases c:b<n
    ·refine .inr ?_;unfold WT at q⊢;rw[y b jO,gw c]at q;exact q
    ·exact .inl jO
   have R:∀{b},E b=0->¬WT E b:=fun p q=>by have:=q.1;omega
   have nd:=x'.done (Y:=Y) (d:=d+22);have gx:=A;unfold rC at gx;rw[wj];cases o:fX e.e.c.fin with
   |true=>
    rw[o]at nd;refine jA (aI @cj @gx) ?_;refine bq nd jO (fun _ _ h=>h.elim) ?_;obtain⟨f1,f2,f3,f4,f5⟩:=X.fin hK o;have al:=X.Mj;have i4:=X.taken e.cz.length;rw[jf,qY,f5]at i4;unfold Cu;refine jB ?_;refine uM trivial n 2 _ A g (v:= .string ⟨(bS s).toArray⟩) rfl fun T1 t1 t2 t3=> ?_;refine jB ?_;refine uM trivial n 0 _ A g (v:=jP ta 0) rfl fun T2 _ _ _=> ?_;have P:=x'.take (Y:=Y) (d:=d+23) 1000 jO (k:=e.cz.length) jO;rw[jf,qY]at P;refine D4 aF P jO WW fun v1 h1 n2 T3 w9 fr hq t4 t5 t6=> ?_;obtain⟨rfl,rfl,_,x1⟩:=hq;have z:=zV t1 t2 t3 t4 t5 t6 g (R C);have J:=(fr n g (R C)).trans A;have I:=(fr (n+1) l (R u)).trans u6;have p:bS s++bS e.cz=bS (k8 t er):=by rw[<-f5];unfold bS;rw[qa]
    have v7:(bS s).length+(bS e.cz).length<=9223372036854775807:=by rw[lZ,lZ];omega
    refine jA (aI @v7 @p) ?_;refine aaq n 2 _ _ J g (show 2<4 by decide) rfl (.inl (ah n)) fun T4=> ?_;refine jA (aI @z (aI @cf (aI @dJ @dG))) ?_;obtain⟨h2,e2⟩:∃q,h1.set n (some ⟨85,true,(rC ta a s true).set 2 (.string ⟨(bS (k8 t er)).toArray⟩)⟩)=q:=⟨_,rfl⟩;have D:h2.get n=some ⟨85,true,rC ta a (k8 t er) true⟩:=by rw[<-e2,get_eq];rfl
    have U:∀b,b≠n->h2.get b=h1.get b:=fun b p=>by rw[<-e2,aw _ _ p]
    have G:=(U (n+1) jO).trans I;have x2:=x1.au (h':=h2) (ah _) (fun _ _=>rfl) (fun b p q1 q2=>U b (fun q=>by rw[q,C]at q1;omega));rw[e2];refine gE trivial trivial n 0 _ D g (show 0+4<=4 by decide) ?_;refine cA (W:=WT L) (n0:=n) (sz:=4) trivial (vs:=rC ta a (k8 t er) true) rfl rfl rfl G l (.inl (eL n)) _ fun h3 g3 k3=> ?_;exact eD trivial trivial g3 rfl l ⟨{e with cz:=[]},a,rfl,f1,f2,f3,i4,E,m',fun c hc=>(y c jO).trans (gw hc),u3,x2.au (ah _) (fun _ _=>rfl) (fun b p q1 q2=>k3 b (fun q=>by rw[q,u]at q1;omega))⟩
   |false=>
    rw[o]at nd
    have ef:e.e.c.fin=none:=by
     cases h:e.e.c.fin with
     |none=>rfl
     |some q=>rw[h]at o;cases o
    refine jA (aI @cj @gx) ?_;refine bq nd jO (fun _ _ h=>h.elim) ?_;refine jB ?_;refine gE trivial trivial n 0 _ A g (show 0+4<=4 by decide) ?_;refine jB ?_;have fd:=aas (Y:=Y) (d:=d) x' X hK jO jO u0 0 ((S.length:Nat):Int) jO u4;refine aN aF fd jO WW fun v1 x7 n1 w6 u9 v9=> ?_;obtain⟨T1,x8,v2,rfl,i1,⟨L1,m1,b1,b2,x1⟩,hz⟩:=v9;obtain⟨rfl,rfl,rfl⟩:=hz rfl;have J:=(u9 n g (R C)).trans A;have I:=(u9 (n+1) l (R u)).trans u6;refine cA (W:=WT L) (n0:=n) (sz:=4) trivial (vs:=rC ta (a+mJ win S e.e a (S.length:Int)) v2 true) rfl rfl rfl J jO (.inl (ah n)) _ fun h2 D U=> ?_;have l1:L1 n=0:=(b1 n g).trans C;have v5:L1 (n+1)=0:=(b1 (n+1) l).trans u;have G:=(U (n+1) jO).trans I;have x2:=x1.au (h':=h2) (ah _) (fun _ _=>rfl) (fun b p q1 q2=>U b (fun q=>by rw[q,l1]at q1;omega));have u5:=D;unfold rC at u5;refine jA @u5 ?_;have st:=Mi (Y:=Y) (d:=d+1) x2 i1.xi hK jO jO 1000000 jD i1.tot i1.dn i1.sm u4
    have W1:∀b,b<n1->WT L1 b->n<=b∨WT L b:=fun b p q=>by
     by_cases c:b<n
     ·refine .inr ?_;unfold WT at q⊢;rw[b1 b jO,y b jO,gw c]at q;exact q
     ·exact .inl jO
    refine aN aF st jO W1 fun v3 h3 n3 w7 u7 v8=> ?_;obtain⟨k,T3,rfl,sp,L3,m3,c1,c2,x3⟩:=v8;have Q:∀{b},L1 b=0->¬WT L1 b:=fun p q=>by have:=q.1;omega
    have w5:=(u7 n jO (Q l1)).trans D;have w4:=(u7 (n+1) jO (Q v5)).trans G;have i3:=i1.gone sp;have mu:=amY (B:=1000000) jO X ef hw sp;have w1:IntKind.i64.wrap ((j:Int)+1)=((j+1:Nat):Int):=by rw[aH jO jO];rfl
    have w2:(j:Int)+1=((j+1:Nat):Int):=rfl;refine jA (aI @w1 @w2) ?_;exact ih (r-1) jO (j+1) N h3 n3 L3 m3 T3 _ _ jO jO jO jO w5 w4 (fun b p=>(c1 b jO).trans ((b1 b jO).trans (y b p))) (c2.trans (b2.trans u3)) x3 i3
 have v4:xB S T.e<=300:=by
  unfold xB;have u1:(if T.e.ended=true then 0 else 1)<=1:=by split<;>omega
  have u2:(if dx 4096 T.e=true then 0 else 1)<=1:=by split<;>omega
  omega
 exact v6 300 0 Y h0 (n+1+1) (Lz n L) m T at_ O v4 jO jO (ah _) gd ge (fun _ _=>rfl) rfl v0 i
end
end Go.Proofs.YtmjolmggelkjlaaGreat
namespace Go.Proofs.YtmjolmggelkjlaaGreat.Ev
open Go Go.RowKit
theorem amZ{P:Program}{kn:List FuncId}(i:ri P=true)(c:qf P kn=true)(a:P.follows .mixedOrders=true)(j:tg P kn)(hd:j9 P=true){gt:Nat->Hint}{Y d:Nat}{f:FuncId}{w:World}{m:Mp}{h:H}(x:Laid P w m h P.globals.size)(b:A8 (kR kn P gt Y d f #[] h P.globals.size)=true):
 Calls P f #[] w fun e w'=>e= .returned (.bool true)∧Below w.heap.size w w':=by
 cases g:kR kn P gt Y d f #[] h P.globals.size with
 |none=>rw[g]at b;cases b
 |some o=>obtain⟨v,p,n,L⟩:=o;rw[g]at b;obtain⟨l,k⟩:=B4 hd d f #[] h _ v p n L g;refine adX i c a j x (fuel:=l) ?_;have e:cK P kn l f #[] h P.globals.size=some ⟨v,p,n,L⟩:=k l (ah _);rw[e];exact b
noncomputable def Fb:Nat->Type
 |0=>M Value
 |n+1=>Value->Fb n
noncomputable def aD:(n:Nat)->Fb n->(List Value->M Value)->List Value->M Value
 |0,F,_,[]=>F
 |n+1,F,K,v::s=>aD n (F v) (fun s=>K (v::s)) s
 |0,_,K,x::s=>K (x::s)
 |_+1,_,K,[]=>K []
noncomputable def aau:(n:Nat)->Fb n->(List Value->M Value)->Prop
 |0,F,K=>F=K []
 |n+1,F,K=>∀v,aau n (F v) (fun s=>K (v::s))
theorem aG:∀(n:Nat) (F:Fb n) (K:List Value->M Value),aau n F K->aD n F K=K:=by
 intro n
 induction n with
 |zero=>
  intro F K h;funext s;cases s with
  |nil=>exact h
  |cons x s=>rfl
 |succ n a=>
  intro F K h;funext s;cases s with
  |nil=>rfl
  |cons v s=>show aD n (F v) (fun s=>K (v::s)) s=_;rw[a (F v) (fun s=>K (v::s)) (h v)]
noncomputable def Fc {a:Type} (f:Nat):List (Nat×a)->Option a
 |[]=>none
 |p::r=>match bY p.1 f with
  |true=>some p.2
  |false=>Fc f r
abbrev AE:=List (Nat×(Nat->(FuncId->Array Value->M Value)->List Value->M Value))
noncomputable def Fe (C:Nat->FuncId->Array Value->M Value):AE->Prop
 |[]=>True
 |p::r=>(∀d,p.2 d (C d)=fun l=>C (d+1) p.1 l.toArray)∧Fe C r
theorem aav{C:Nat->FuncId->Array Value->M Value}{f:Nat}{E:Nat->(FuncId->Array Value->M Value)->List Value->M Value}:∀{T:AE},Fe C T->Fc f T=some E->∀d,E d (C d)=fun l=>C (d+1) f l.toArray
 |[],_,h=>by cases h
 |p::r,ok,h=>by
  unfold Fc at h;cases a:bY p.1 f with
  |true=>rw[a]at h;cases h;rw[<-Nat.eq_of_beq_eq_true a];exact ok.1
  |false=>rw[a]at h;exact aav ok.2 h
noncomputable def Ff (C:Nat->FuncId->Array Value->M Value) (T:AE):Nat->FuncId->Array Value->M Value
 |0,f,a=>C 0 f a
 |d+1,f,a=>match Fc f T with
  |some E=>E d (Ff C T d) a.toList
  |none=>C (d+1) f a
theorem aaw{C:Nat->FuncId->Array Value->M Value}{T:AE}(ok:Fe C T):∀d,Ff C T d=C d
 |0=>rfl
 |d+1=>by
  have b:=aaw ok d;funext f a;unfold Ff;rw[b];split
  ·rename_i E c;rw[aav ok c d]
  ·rfl
end Go.Proofs.YtmjolmggelkjlaaGreat.Ev
namespace Go.Proofs.YtmjolmggelkjlaaGreat
open Go Ev
def sQ:List FuncId:=[65,183]
noncomputable section
def eC(Y:Nat):Nat->FuncId->Array Value->M Value:=kR sQ aa gt Y
theorem aE{Y d:Nat}{f:FuncId}{a:Array Value}{X:M Value}(s:ax aa gt Y (eC Y d) f a=X)(h:sQ.contains f=false:=by rfl):X=eC Y (d+1) f a:=by
 show X=(match sQ.contains f with
  |true=>_
  |false=>ax aa gt Y (eC Y d) f a:M Value)
 rw[h];exact s.symm
def aax(Y:Nat):AE:=[(43,fun d r=>aD 0 (inside (HO Y r)) fun l=>eC Y (d+1) 43 l.toArray),
 (44,fun d r=>aD 2 (fun a b=>inside (HP Y r a b)) fun l=>eC Y (d+1) 44 l.toArray),
 (24,fun d r=>aD 3 (fun a b c=>inside (HF Y r a b c)) fun l=>eC Y (d+1) 24 l.toArray),
 (45,fun d r=>aD 2 (fun a b=>inside (HQ Y r a b)) fun l=>eC Y (d+1) 45 l.toArray),
 (47,fun d r=>aD 2 (fun a b=>inside (Ct Y r a b)) fun l=>eC Y (d+1) 47 l.toArray),
 (46,fun d r=>aD 1 (fun a=>inside (HR Y r a)) fun l=>eC Y (d+1) 46 l.toArray),
 (48,fun d r=>aD 1 (fun a=>inside (HS Y r a)) fun l=>eC Y (d+1) 48 l.toArray),
 (49,fun d r=>aD 1 (fun a=>inside (HU Y r a)) fun l=>eC Y (d+1) 49 l.toArray),
 (50,fun d r=>aD 1 (fun a=>inside (HV Y r a)) fun l=>eC Y (d+1) 50 l.toArray),
 (57,fun d r=>aD 1 (fun a=>inside (HY Y r a)) fun l=>eC Y (d+1) 57 l.toArray),
 (92,fun d r=>aD 2 (fun a b=>inside (Ig Y r a b)) fun l=>eC Y (d+1) 92 l.toArray),
 (29,fun d r=>aD 3 (fun a b c=>inside (HH Y r a b c)) fun l=>eC Y (d+1) 29 l.toArray),
 (72,fun d r=>aD 1 (fun a=>inside (Rn Y r a)) fun l=>eC Y (d+1) 72 l.toArray),
 (73,fun d r=>aD 2 (fun a b=>inside (H4 Y r a b)) fun l=>eC Y (d+1) 73 l.toArray),
 (75,fun d r=>aD 1 (fun a=>inside (Rv Y r a)) fun l=>eC Y (d+1) 75 l.toArray),
 (74,fun d r=>aD 2 (fun a b=>inside (Ru Y r a b)) fun l=>eC Y (d+1) 74 l.toArray),
 (77,fun d r=>aD 1 (fun a=>inside (Ry Y r a)) fun l=>eC Y (d+1) 77 l.toArray),
 (76,fun d r=>aD 1 (fun a=>inside (Rx Y r a)) fun l=>eC Y (d+1) 76 l.toArray),
 (40,fun d r=>aD 2 (fun a b=>inside (HN Y r a b)) fun l=>eC Y (d+1) 40 l.toArray),
 (93,fun d r=>aD 1 (fun a=>inside (Ih Y r a)) fun l=>eC Y (d+1) 93 l.toArray),
 (39,fun d r=>aD 2 (fun a b=>inside (Cs Y r a b)) fun l=>eC Y (d+1) 39 l.toArray),
 (36,fun d r=>aD 1 (fun a=>inside (HK Y r a)) fun l=>eC Y (d+1) 36 l.toArray),
 (31,fun d r=>aD 1 (fun a=>inside (HI Y r a)) fun l=>eC Y (d+1) 31 l.toArray),
 (94,fun d r=>aD 1 (fun a=>inside (Ii Y r a)) fun l=>eC Y (d+1) 94 l.toArray),
 (95,fun d r=>aD 1 (fun a=>inside (Ij Y r a)) fun l=>eC Y (d+1) 95 l.toArray),
 (82,fun d r=>aD 1 (fun a=>inside (H8 Y r a)) fun l=>eC Y (d+1) 82 l.toArray),
 (32,fun d r=>aD 1 (fun a=>inside (HJ Y r a)) fun l=>eC Y (d+1) 32 l.toArray),
 (38,fun d r=>aD 1 (fun a=>inside (HM Y r a)) fun l=>eC Y (d+1) 38 l.toArray),
 (58,fun d r=>aD 1 (fun a=>inside (HZ Y r a)) fun l=>eC Y (d+1) 58 l.toArray),
 (84,fun d r=>aD 2 (fun a b=>inside (H' Y r a b)) fun l=>eC Y (d+1) 84 l.toArray),
 (59,fun d r=>aD 1 (fun a=>inside (H2 Y r a)) fun l=>eC Y (d+1) 59 l.toArray),
 (61,fun d r=>aD 1 (fun a=>inside (Cw Y r a)) fun l=>eC Y (d+1) 61 l.toArray),
 (108,fun d r=>aD 1 (fun a=>inside (Ir Y r a)) fun l=>eC Y (d+1) 108 l.toArray),
 (109,fun d r=>aD 1 (fun a=>inside (It Y r a)) fun l=>eC Y (d+1) 109 l.toArray),
 (112,fun d r=>aD 1 (fun a=>inside (CE Y r a)) fun l=>eC Y (d+1) 112 l.toArray),
 (110,fun d r=>aD 1 (fun a=>inside (Sc Y r a)) fun l=>eC Y (d+1) 110 l.toArray),
 (111,fun d r=>aD 1 (fun a=>inside (Sd Y r a)) fun l=>eC Y (d+1) 111 l.toArray),
 (25,fun d r=>aD 1 (fun a=>inside (Cr Y r a)) fun l=>eC Y (d+1) 25 l.toArray),
 (103,fun d r=>aD 2 (fun a b=>inside (CA Y r a b)) fun l=>eC Y (d+1) 103 l.toArray),
 (114,fun d r=>aD 1 (fun a=>inside (Iv Y r a)) fun l=>eC Y (d+1) 114 l.toArray),
 (113,fun d r=>aD 1 (fun a=>inside (Iu Y r a)) fun l=>eC Y (d+1) 113 l.toArray),
 (85,fun d r=>aD 1 (fun a=>inside (Ia Y r a)) fun l=>eC Y (d+1) 85 l.toArray),
 (90,fun d r=>aD 2 (fun a b=>inside (Ie Y r a b)) fun l=>eC Y (d+1) 90 l.toArray),
 (37,fun d r=>aD 1 (fun a=>inside (HL Y r a)) fun l=>eC Y (d+1) 37 l.toArray),
 (88,fun d r=>aD 1 (fun a=>inside (Ib Y r a)) fun l=>eC Y (d+1) 88 l.toArray),
 (89,fun d r=>aD 1 (fun a=>inside (Ic Y r a)) fun l=>eC Y (d+1) 89 l.toArray),
 (83,fun d r=>aD 2 (fun a b=>inside (H9 Y r a b)) fun l=>eC Y (d+1) 83 l.toArray),
 (107,fun d r=>aD 1 (fun a=>inside (CB Y r a)) fun l=>eC Y (d+1) 107 l.toArray),
 (96,fun d r=>aD 2 (fun a b=>inside (Ik Y r a b)) fun l=>eC Y (d+1) 96 l.toArray),
 (137,fun d r=>aD 1 (fun a=>inside (IX Y r a)) fun l=>eC Y (d+1) 137 l.toArray),
 (145,fun d r=>aD 2 (fun a b=>inside (I6 Y r a b)) fun l=>eC Y (d+1) 145 l.toArray),
 (139,fun d r=>aD 1 (fun a=>inside (IZ Y r a)) fun l=>eC Y (d+1) 139 l.toArray),
 (138,fun d r=>aD 2 (fun a b=>inside (IY Y r a b)) fun l=>eC Y (d+1) 138 l.toArray),
 (140,fun d r=>aD 1 (fun a=>inside (CO Y r a)) fun l=>eC Y (d+1) 140 l.toArray),
 (141,fun d r=>aD 2 (fun a b=>inside (I0 Y r a b)) fun l=>eC Y (d+1) 141 l.toArray),
 (142,fun d r=>aD 2 (fun a b=>inside (I1 Y r a b)) fun l=>eC Y (d+1) 142 l.toArray),
 (143,fun d r=>aD 1 (fun a=>inside (I2 Y r a)) fun l=>eC Y (d+1) 143 l.toArray),
 (144,fun d r=>aD 2 (fun a b=>inside (I4 Y r a b)) fun l=>eC Y (d+1) 144 l.toArray),
 (78,fun d r=>aD 2 (fun a b=>inside (H5 Y r a b)) fun l=>eC Y (d+1) 78 l.toArray),
 (63,fun d r=>aD 1 (fun a=>inside (yG Y r a)) fun l=>eC Y (d+1) 63 l.toArray),
 (116,fun d r=>aD 1 (fun a=>inside (Iy Y r a)) fun l=>eC Y (d+1) 116 l.toArray),
 (117,fun d r=>aD 2 (fun a b=>inside (Iz Y r a b)) fun l=>eC Y (d+1) 117 l.toArray),
 (118,fun d r=>aD 1 (fun a=>inside (IA Y r a)) fun l=>eC Y (d+1) 118 l.toArray),
 (97,fun d r=>aD 1 (fun a=>inside (Il Y r a)) fun l=>eC Y (d+1) 97 l.toArray),
 (98,fun d r=>aD 1 (fun a=>inside (Im Y r a)) fun l=>eC Y (d+1) 98 l.toArray),
 (99,fun d r=>aD 2 (fun a b=>inside (Io Y r a b)) fun l=>eC Y (d+1) 99 l.toArray),
 (119,fun d r=>aD 1 (fun a=>inside (IB Y r a)) fun l=>eC Y (d+1) 119 l.toArray),
 (121,fun d r=>aD 1 (fun a=>inside (ID Y r a)) fun l=>eC Y (d+1) 121 l.toArray),
 (120,fun d r=>aD 1 (fun a=>inside (IC Y r a)) fun l=>eC Y (d+1) 120 l.toArray),
 (179,fun d r=>aD 1 (fun a=>inside (Dc Y r a)) fun l=>eC Y (d+1) 179 l.toArray),
 (171,fun d r=>aD 3 (fun a b c=>inside (Ua Y r a b c)) fun l=>eC Y (d+1) 171 l.toArray),
 (170,fun d r=>aD 2 (fun a b=>inside (TZ Y r a b)) fun l=>eC Y (d+1) 170 l.toArray),
 (172,fun d r=>aD 2 (fun a b=>inside (CZ Y r a b)) fun l=>eC Y (d+1) 172 l.toArray),
 (166,fun d r=>aD 1 (fun a=>inside (Ji Y r a)) fun l=>eC Y (d+1) 166 l.toArray),
 (173,fun d r=>aD 2 (fun a b=>inside (Jl Y r a b)) fun l=>eC Y (d+1) 173 l.toArray),
 (167,fun d r=>aD 2 (fun a b=>inside (CX Y r a b)) fun l=>eC Y (d+1) 167 l.toArray),
 (174,fun d r=>aD 1 (fun a=>inside (Uh Y r a)) fun l=>eC Y (d+1) 174 l.toArray),
 (175,fun d r=>aD 2 (fun a b=>inside (Jn Y r a b)) fun l=>eC Y (d+1) 175 l.toArray),
 (176,fun d r=>aD 2 (fun a b=>inside (Jp Y r a b)) fun l=>eC Y (d+1) 176 l.toArray),
 (177,fun d r=>aD 1 (fun a=>inside (Jq Y r a)) fun l=>eC Y (d+1) 177 l.toArray),
 (178,fun d r=>aD 1 (fun a=>inside (Da Y r a)) fun l=>eC Y (d+1) 178 l.toArray),
 (147,fun d r=>aD 2 (fun a b=>inside (CT Y r a b)) fun l=>eC Y (d+1) 147 l.toArray),
 (148,fun d r=>aD 1 (fun a=>inside (I7 Y r a)) fun l=>eC Y (d+1) 148 l.toArray),
 (149,fun d r=>aD 2 (fun a b=>inside (I8 Y r a b)) fun l=>eC Y (d+1) 149 l.toArray),
 (150,fun d r=>aD 2 (fun a b=>inside (CV Y r a b)) fun l=>eC Y (d+1) 150 l.toArray),
 (151,fun d r=>aD 1 (fun a=>inside (I9 Y r a)) fun l=>eC Y (d+1) 151 l.toArray),
 (122,fun d r=>aD 1 (fun a=>inside (IE Y r a)) fun l=>eC Y (d+1) 122 l.toArray),
 (123,fun d r=>aD 2 (fun a b=>inside (IF Y r a b)) fun l=>eC Y (d+1) 123 l.toArray),
 (152,fun d r=>aD 2 (fun a b=>inside (I' Y r a b)) fun l=>eC Y (d+1) 152 l.toArray),
 (153,fun d r=>aD 0 (inside (Ja Y r)) fun l=>eC Y (d+1) 153 l.toArray),
 (154,fun d r=>aD 0 (inside (Jb Y r)) fun l=>eC Y (d+1) 154 l.toArray),
 (203,fun d r=>aD 2 (fun a b=>inside (JG Y r a b)) fun l=>eC Y (d+1) 203 l.toArray),
 (202,fun d r=>aD 2 (fun a b=>inside (JF Y r a b)) fun l=>eC Y (d+1) 202 l.toArray),
 (204,fun d r=>aD 1 (fun a=>inside (JH Y r a)) fun l=>eC Y (d+1) 204 l.toArray),
 (205,fun d r=>aD 2 (fun a b=>inside (JI Y r a b)) fun l=>eC Y (d+1) 205 l.toArray),
 (206,fun d r=>aD 1 (fun a=>inside (JK Y r a)) fun l=>eC Y (d+1) 206 l.toArray),
 (207,fun d r=>aD 2 (fun a b=>inside (Dt Y r a b)) fun l=>eC Y (d+1) 207 l.toArray),
 (181,fun d r=>aD 1 (fun a=>inside (Jt Y r a)) fun l=>eC Y (d+1) 181 l.toArray),
 (182,fun d r=>aD 1 (fun a=>inside (Ju Y r a)) fun l=>eC Y (d+1) 182 l.toArray),
 (184,fun d r=>aD 2 (fun a b=>inside (Jv Y r a b)) fun l=>eC Y (d+1) 184 l.toArray),
 (185,fun d r=>aD 1 (fun a=>inside (Jw Y r a)) fun l=>eC Y (d+1) 185 l.toArray),
 (186,fun d r=>aD 1 (fun a=>inside (Jx Y r a)) fun l=>eC Y (d+1) 186 l.toArray),
 (155,fun d r=>aD 2 (fun a b=>inside (Jc Y r a b)) fun l=>eC Y (d+1) 155 l.toArray),
 (156,fun d r=>aD 2 (fun a b=>inside (CW Y r a b)) fun l=>eC Y (d+1) 156 l.toArray),
 (157,fun d r=>aD 2 (fun a b=>inside (Jd Y r a b)) fun l=>eC Y (d+1) 157 l.toArray),
 (158,fun d r=>aD 2 (fun a b=>inside (Je Y r a b)) fun l=>eC Y (d+1) 158 l.toArray),
 (187,fun d r=>aD 0 (inside (Df Y r)) fun l=>eC Y (d+1) 187 l.toArray),
 (220,fun d r=>aD 2 (fun a b=>inside (JS Y r a b)) fun l=>eC Y (d+1) 220 l.toArray),
 (219,fun d r=>aD 1 (fun a=>inside (VO Y r a)) fun l=>eC Y (d+1) 219 l.toArray),
 (221,fun d r=>aD 2 (fun a b=>inside (JT Y r a b)) fun l=>eC Y (d+1) 221 l.toArray),
 (222,fun d r=>aD 1 (fun a=>inside (JV Y r a)) fun l=>eC Y (d+1) 222 l.toArray),
 (217,fun d r=>aD 3 (fun a b c=>inside (Dw Y r a b c)) fun l=>eC Y (d+1) 217 l.toArray),
 (223,fun d r=>aD 1 (fun a=>inside (JX Y r a)) fun l=>eC Y (d+1) 223 l.toArray),
 (209,fun d r=>aD 1 (fun a=>inside (Dv Y r a)) fun l=>eC Y (d+1) 209 l.toArray),
 (214,fun d r=>aD 3 (fun a b c=>inside (JO Y r a b c)) fun l=>eC Y (d+1) 214 l.toArray),
 (188,fun d r=>aD 2 (fun a b=>inside (Dh Y r a b)) fun l=>eC Y (d+1) 188 l.toArray),
 (189,fun d r=>aD 1 (fun a=>inside (Jy Y r a)) fun l=>eC Y (d+1) 189 l.toArray),
 (190,fun d r=>aD 2 (fun a b=>inside (Jz Y r a b)) fun l=>eC Y (d+1) 190 l.toArray),
 (191,fun d r=>aD 1 (fun a=>inside (JA Y r a)) fun l=>eC Y (d+1) 191 l.toArray),
 (192,fun d r=>aD 1 (fun a=>inside (JB Y r a)) fun l=>eC Y (d+1) 192 l.toArray),
 (127,fun d r=>aD 2 (fun a b=>inside (IH Y r a b)) fun l=>eC Y (d+1) 127 l.toArray),
 (193,fun d r=>aD 1 (fun a=>inside (Dj Y r a)) fun l=>eC Y (d+1) 193 l.toArray),
 (234,fun d r=>aD 1 (fun a=>inside (Wc Y r a)) fun l=>eC Y (d+1) 234 l.toArray),
 (235,fun d r=>aD 1 (fun a=>inside (J4 Y r a)) fun l=>eC Y (d+1) 235 l.toArray),
 (236,fun d r=>aD 2 (fun a b=>inside (J5 Y r a b)) fun l=>eC Y (d+1) 236 l.toArray),
 (215,fun d r=>aD 2 (fun a b=>inside (JP Y r a b)) fun l=>eC Y (d+1) 215 l.toArray),
 (216,fun d r=>aD 2 (fun a b=>inside (JQ Y r a b)) fun l=>eC Y (d+1) 216 l.toArray),
 (244,fun d r=>aD 2 (fun a b=>inside (Ws Y r a b)) fun l=>eC Y (d+1) 244 l.toArray),
 (228,fun d r=>aD 2 (fun a b=>inside (JY Y r a b)) fun l=>eC Y (d+1) 228 l.toArray),
 (229,fun d r=>aD 2 (fun a b=>inside (JZ Y r a b)) fun l=>eC Y (d+1) 229 l.toArray),
 (230,fun d r=>aD 1 (fun a=>inside (J0 Y r a)) fun l=>eC Y (d+1) 230 l.toArray),
 (231,fun d r=>aD 1 (fun a=>inside (J1 Y r a)) fun l=>eC Y (d+1) 231 l.toArray),
 (232,fun d r=>aD 2 (fun a b=>inside (J2 Y r a b)) fun l=>eC Y (d+1) 232 l.toArray),
 (233,fun d r=>aD 1 (fun a=>inside (DF Y r a)) fun l=>eC Y (d+1) 233 l.toArray),
 (238,fun d r=>aD 1 (fun a=>inside (J6 Y r a)) fun l=>eC Y (d+1) 238 l.toArray),
 (239,fun d r=>aD 2 (fun a b=>inside (J7 Y r a b)) fun l=>eC Y (d+1) 239 l.toArray),
 (240,fun d r=>aD 2 (fun a b=>inside (J8 Y r a b)) fun l=>eC Y (d+1) 240 l.toArray),
 (241,fun d r=>aD 2 (fun a b=>inside (J9 Y r a b)) fun l=>eC Y (d+1) 241 l.toArray),
 (242,fun d r=>aD 2 (fun a b=>inside (J' Y r a b)) fun l=>eC Y (d+1) 242 l.toArray),
 (243,fun d r=>aD 1 (fun a=>inside (Ka Y r a)) fun l=>eC Y (d+1) 243 l.toArray),
 (126,fun d r=>aD 1 (fun a=>inside (IG Y r a)) fun l=>eC Y (d+1) 126 l.toArray),
 (245,fun d r=>aD 1 (fun a=>inside (DH Y r a)) fun l=>eC Y (d+1) 245 l.toArray),
 (246,fun d r=>aD 2 (fun a b=>inside (Kb Y r a b)) fun l=>eC Y (d+1) 246 l.toArray),
 (247,fun d r=>aD 1 (fun a=>inside (Kc Y r a)) fun l=>eC Y (d+1) 247 l.toArray),
 (248,fun d r=>aD 2 (fun a b=>inside (Kd Y r a b)) fun l=>eC Y (d+1) 248 l.toArray),
 (249,fun d r=>aD 1 (fun a=>inside (Ke Y r a)) fun l=>eC Y (d+1) 249 l.toArray),
 (250,fun d r=>aD 2 (fun a b=>inside (Kf Y r a b)) fun l=>eC Y (d+1) 250 l.toArray),
 (251,fun d r=>aD 2 (fun a b=>inside (Kg Y r a b)) fun l=>eC Y (d+1) 251 l.toArray),
 (252,fun d r=>aD 1 (fun a=>inside (Kh Y r a)) fun l=>eC Y (d+1) 252 l.toArray),
 (253,fun d r=>aD 2 (fun a b=>inside (Ki Y r a b)) fun l=>eC Y (d+1) 253 l.toArray),
 (254,fun d r=>aD 1 (fun a=>inside (Kj Y r a)) fun l=>eC Y (d+1) 254 l.toArray),
 (255,fun d r=>aD 2 (fun a b=>inside (Kk Y r a b)) fun l=>eC Y (d+1) 255 l.toArray),
 (256,fun d r=>aD 2 (fun a b=>inside (Kl Y r a b)) fun l=>eC Y (d+1) 256 l.toArray),
 (257,fun d r=>aD 1 (fun a=>inside (DJ Y r a)) fun l=>eC Y (d+1) 257 l.toArray),
 (258,fun d r=>aD 1 (fun a=>inside (DK Y r a)) fun l=>eC Y (d+1) 258 l.toArray),
 (259,fun d r=>aD 1 (fun a=>inside (Km Y r a)) fun l=>eC Y (d+1) 259 l.toArray),
 (260,fun d r=>aD 0 (inside (Kn Y r)) fun l=>eC Y (d+1) 260 l.toArray),
 (261,fun d r=>aD 1 (fun a=>inside (Ko Y r a)) fun l=>eC Y (d+1) 261 l.toArray),
 (262,fun d r=>aD 1 (fun a=>inside (DM Y r a)) fun l=>eC Y (d+1) 262 l.toArray),
 (263,fun d r=>aD 2 (fun a b=>inside (Kp Y r a b)) fun l=>eC Y (d+1) 263 l.toArray),
 (264,fun d r=>aD 2 (fun a b=>inside (Kq Y r a b)) fun l=>eC Y (d+1) 264 l.toArray),
 (180,fun d r=>aD 1 (fun a=>inside (Dd Y r a)) fun l=>eC Y (d+1) 180 l.toArray),
 (265,fun d r=>aD 2 (fun a b=>inside (Kr Y r a b)) fun l=>eC Y (d+1) 265 l.toArray),
 (266,fun d r=>aD 1 (fun a=>inside (Ks Y r a)) fun l=>eC Y (d+1) 266 l.toArray),
 (268,fun d r=>aD 1 (fun a=>inside (Ku Y r a)) fun l=>eC Y (d+1) 268 l.toArray),
 (267,fun d r=>aD 1 (fun a=>inside (zQ Y r a)) fun l=>eC Y (d+1) 267 l.toArray),
 (269,fun d r=>aD 2 (fun a b=>inside (Kv Y r a b)) fun l=>eC Y (d+1) 269 l.toArray),
 (270,fun d r=>aD 1 (fun a=>inside (Kw Y r a)) fun l=>eC Y (d+1) 270 l.toArray),
 (271,fun d r=>aD 1 (fun a=>inside (Kx Y r a)) fun l=>eC Y (d+1) 271 l.toArray),
 (272,fun d r=>aD 0 (inside (DP Y r)) fun l=>eC Y (d+1) 272 l.toArray),
 (273,fun d r=>aD 2 (fun a b=>inside (DQ Y r a b)) fun l=>eC Y (d+1) 273 l.toArray),
 (274,fun d r=>aD 2 (fun a b=>inside (DR Y r a b)) fun l=>eC Y (d+1) 274 l.toArray),
 (275,fun d r=>aD 2 (fun a b=>inside (Ky Y r a b)) fun l=>eC Y (d+1) 275 l.toArray),
 (208,fun d r=>aD 1 (fun a=>inside (Du Y r a)) fun l=>eC Y (d+1) 208 l.toArray),
 (276,fun d r=>aD 2 (fun a b=>inside (Kz Y r a b)) fun l=>eC Y (d+1) 276 l.toArray),
 (277,fun d r=>aD 1 (fun a=>inside (KA Y r a)) fun l=>eC Y (d+1) 277 l.toArray),
 (278,fun d r=>aD 2 (fun a b=>inside (DT Y r a b)) fun l=>eC Y (d+1) 278 l.toArray),
 (279,fun d r=>aD 1 (fun a=>inside (KB Y r a)) fun l=>eC Y (d+1) 279 l.toArray),
 (280,fun d r=>aD 1 (fun a=>inside (KC Y r a)) fun l=>eC Y (d+1) 280 l.toArray),
 (281,fun d r=>aD 2 (fun a b=>inside (KD Y r a b)) fun l=>eC Y (d+1) 281 l.toArray),
 (282,fun d r=>aD 1 (fun a=>inside (DV Y r a)) fun l=>eC Y (d+1) 282 l.toArray),
 (283,fun d r=>aD 2 (fun a b=>inside (KE Y r a b)) fun l=>eC Y (d+1) 283 l.toArray),
 (284,fun d r=>aD 1 (fun a=>inside (KF Y r a)) fun l=>eC Y (d+1) 284 l.toArray),
 (285,fun d r=>aD 3 (fun a b c=>inside (KH Y r a b c)) fun l=>eC Y (d+1) 285 l.toArray),
 (286,fun d r=>aD 2 (fun a b=>inside (DW Y r a b)) fun l=>eC Y (d+1) 286 l.toArray),
 (288,fun d r=>aD 3 (fun a b c=>inside (KJ Y r a b c)) fun l=>eC Y (d+1) 288 l.toArray),
 (287,fun d r=>aD 2 (fun a b=>inside (KI Y r a b)) fun l=>eC Y (d+1) 287 l.toArray),
 (289,fun d r=>aD 2 (fun a b=>inside (DX Y r a b)) fun l=>eC Y (d+1) 289 l.toArray)]
theorem am0(Y:Nat):Fe (eC Y) (aax Y):=⟨fun d=>aG _ _ _ (aE QT),
 ⟨fun d=>aG _ _ _ (fun a b=>aE QU),
 ⟨fun d=>aG _ _ _ (fun a b c=>aE aed),
 ⟨fun d=>aG _ _ _ (fun a b=>aE QW),
 ⟨fun d=>aG _ _ _ (fun a b=>aE Q3),
 ⟨fun d=>aG _ _ _ (fun a=>aE QX),
 ⟨fun d=>aG _ _ _ (fun a=>aE Q4),
 ⟨fun d=>aG _ _ _ (fun a=>aE Q5),
 ⟨fun d=>aG _ _ _ (fun a=>aE Q6),
 ⟨fun d=>aG _ _ _ (fun a=>aE Rf),
 ⟨fun d=>aG _ _ _ (fun a b=>aE RR),
 ⟨fun d=>aG _ _ _ (fun a b c=>aE QF),
 ⟨fun d=>aG _ _ _ (fun a=>aE aew),
 ⟨fun d=>aG _ _ _ (fun a b=>aE aez),
 ⟨fun d=>aG _ _ _ (fun a=>aE aeB),
 ⟨fun d=>aG _ _ _ (fun a b=>aE aeA),
 ⟨fun d=>aG _ _ _ (fun a=>aE aeD),
 ⟨fun d=>aG _ _ _ (fun a=>aE aeC),
 ⟨fun d=>aG _ _ _ (fun a b=>aE QR),
 ⟨fun d=>aG _ _ _ (fun a=>aE RS),
 ⟨fun d=>aG _ _ _ (fun a b=>aE QQ),
 ⟨fun d=>aG _ _ _ (fun a=>aE QL),
 ⟨fun d=>aG _ _ _ (fun a=>aE QG),
 ⟨fun d=>aG _ _ _ (fun a=>aE RU),
 ⟨fun d=>aG _ _ _ (fun a=>aE RV),
 ⟨fun d=>aG _ _ _ (fun a=>aE RG),
 ⟨fun d=>aG _ _ _ (fun a=>aE QH),
 ⟨fun d=>aG _ _ _ (fun a=>aE QN),
 ⟨fun d=>aG _ _ _ (fun a=>aE Rg),
 ⟨fun d=>aG _ _ _ (fun a b=>aE RI),
 ⟨fun d=>aG _ _ _ (fun a=>aE Rh),
 ⟨fun d=>aG _ _ _ (fun a=>aE Rk),
 ⟨fun d=>aG _ _ _ (fun a=>aE aeQ),
 ⟨fun d=>aG _ _ _ (fun a=>aE aeS),
 ⟨fun d=>aG _ _ _ (fun a=>aE Sg),
 ⟨fun d=>aG _ _ _ (fun a=>aE aeT),
 ⟨fun d=>aG _ _ _ (fun a=>aE aeU),
 ⟨fun d=>aG _ _ _ (fun a=>aE QC),
 ⟨fun d=>aG _ _ _ (fun a b=>aE R3),
 ⟨fun d=>aG _ _ _ (fun a=>aE aeZ),
 ⟨fun d=>aG _ _ _ (fun a=>aE aeX),
 ⟨fun d=>aG _ _ _ (fun a=>aE RJ),
 ⟨fun d=>aG _ _ _ (fun a b=>aE RP),
 ⟨fun d=>aG _ _ _ (fun a=>aE QM),
 ⟨fun d=>aG _ _ _ (fun a=>aE RM),
 ⟨fun d=>aG _ _ _ (fun a=>aE RN),
 ⟨fun d=>aG _ _ _ (fun a b=>aE RH),
 ⟨fun d=>aG _ _ _ (fun a=>aE Iq),
 ⟨fun d=>aG _ _ _ (fun a b=>aE RW),
 ⟨fun d=>aG _ _ _ (fun a=>aE afi),
 ⟨fun d=>aG _ _ _ (fun a b=>aE Tt),
 ⟨fun d=>aG _ _ _ (fun a=>aE afn),
 ⟨fun d=>aG _ _ _ (fun a b=>aE afk),
 ⟨fun d=>aG _ _ _ (fun a=>aE S'),
 ⟨fun d=>aG _ _ _ (fun a b=>aE afq),
 ⟨fun d=>aG _ _ _ (fun a b=>aE afs),
 ⟨fun d=>aG _ _ _ (fun a=>aE afv),
 ⟨fun d=>aG _ _ _ (fun a b=>aE afx),
 ⟨fun d=>aG _ _ _ (fun a b=>aE Rz),
 ⟨fun d=>aG _ _ _ (fun a=>aE H3),
 ⟨fun d=>aG _ _ _ (fun a=>aE So),
 ⟨fun d=>aG _ _ _ (fun a b=>aE Sp),
 ⟨fun d=>aG _ _ _ (fun a=>aE Sq),
 ⟨fun d=>aG _ _ _ (fun a=>aE RX),
 ⟨fun d=>aG _ _ _ (fun a=>aE RY),
 ⟨fun d=>aG _ _ _ (fun a b=>aE R0),
 ⟨fun d=>aG _ _ _ (fun a=>aE Sr),
 ⟨fun d=>aG _ _ _ (fun a=>aE Su),
 ⟨fun d=>aG _ _ _ (fun a=>aE Ss),
 ⟨fun d=>aG _ _ _ (fun a=>aE UK),
 ⟨fun d=>aG _ _ _ (fun a b c=>aE af5),
 ⟨fun d=>aG _ _ _ (fun a b=>aE af4),
 ⟨fun d=>aG _ _ _ (fun a b=>aE Ud),
 ⟨fun d=>aG _ _ _ (fun a=>aE TS),
 ⟨fun d=>aG _ _ _ (fun a b=>aE af8),
 ⟨fun d=>aG _ _ _ (fun a b=>aE Jj),
 ⟨fun d=>aG _ _ _ (fun a=>aE af9),
 ⟨fun d=>aG _ _ _ (fun a b=>aE agb),
 ⟨fun d=>aG _ _ _ (fun a b=>aE agd),
 ⟨fun d=>aG _ _ _ (fun a=>aE agh),
 ⟨fun d=>aG _ _ _ (fun a=>aE UG),
 ⟨fun d=>aG _ _ _ (fun a b=>aE Tx),
 ⟨fun d=>aG _ _ _ (fun a=>aE Ty),
 ⟨fun d=>aG _ _ _ (fun a b=>aE Tz),
 ⟨fun d=>aG _ _ _ (fun a b=>aE TC),
 ⟨fun d=>aG _ _ _ (fun a=>aE TD),
 ⟨fun d=>aG _ _ _ (fun a=>aE Sv),
 ⟨fun d=>aG _ _ _ (fun a b=>aE Sw),
 ⟨fun d=>aG _ _ _ (fun a b=>aE TE),
 ⟨fun d=>aG _ _ _ (aE TF),
 ⟨fun d=>aG _ _ _ (aE TG),
 ⟨fun d=>aG _ _ _ (fun a b=>aE agD),
 ⟨fun d=>aG _ _ _ (fun a b=>aE agB),
 ⟨fun d=>aG _ _ _ (fun a=>aE agF),
 ⟨fun d=>aG _ _ _ (fun a b=>aE agH),
 ⟨fun d=>aG _ _ _ (fun a=>aE agJ),
 ⟨fun d=>aG _ _ _ (fun a b=>aE VB),
 ⟨fun d=>aG _ _ _ (fun a=>aE UL),
 ⟨fun d=>aG _ _ _ (fun a=>aE UM),
 ⟨fun d=>aG _ _ _ (fun a b=>aE UN),
 ⟨fun d=>aG _ _ _ (fun a=>aE UO),
 ⟨fun d=>aG _ _ _ (fun a=>aE UP),
 ⟨fun d=>aG _ _ _ (fun a b=>aE TH),
 ⟨fun d=>aG _ _ _ (fun a b=>aE TI),
 ⟨fun d=>aG _ _ _ (fun a b=>aE TJ),
 ⟨fun d=>aG _ _ _ (fun a b=>aE TK),
 ⟨fun d=>aG _ _ _ (aE UU),
 ⟨fun d=>aG _ _ _ (fun a b=>aE agT),
 ⟨fun d=>aG _ _ _ (fun a=>aE agR),
 ⟨fun d=>aG _ _ _ (fun a b=>aE agW),
 ⟨fun d=>aG _ _ _ (fun a=>aE agZ),
 ⟨fun d=>aG _ _ _ (fun a b c=>aE VK),
 ⟨fun d=>aG _ _ _ (fun a=>aE ag1),
 ⟨fun d=>aG _ _ _ (fun a=>aE VE),
 ⟨fun d=>aG _ _ _ (fun a b c=>aE VF),
 ⟨fun d=>aG _ _ _ (fun a b=>aE UY),
 ⟨fun d=>aG _ _ _ (fun a=>aE UZ),
 ⟨fun d=>aG _ _ _ (fun a b=>aE U0),
 ⟨fun d=>aG _ _ _ (fun a=>aE U1),
 ⟨fun d=>aG _ _ _ (fun a=>aE U2),
 ⟨fun d=>aG _ _ _ (fun a b=>aE Sz),
 ⟨fun d=>aG _ _ _ (fun a=>aE U5),
 ⟨fun d=>aG _ _ _ (fun a=>aE ag2),
 ⟨fun d=>aG _ _ _ (fun a=>aE ag4),
 ⟨fun d=>aG _ _ _ (fun a b=>aE ag6),
 ⟨fun d=>aG _ _ _ (fun a b=>aE VG),
 ⟨fun d=>aG _ _ _ (fun a b=>aE VH),
 ⟨fun d=>aG _ _ _ (fun a b=>aE ag7),
 ⟨fun d=>aG _ _ _ (fun a b=>aE V8),
 ⟨fun d=>aG _ _ _ (fun a b=>aE V9),
 ⟨fun d=>aG _ _ _ (fun a=>aE V'),
 ⟨fun d=>aG _ _ _ (fun a=>aE Wa),
 ⟨fun d=>aG _ _ _ (fun a b=>aE Wb),
 ⟨fun d=>aG _ _ _ (fun a=>aE J3),
 ⟨fun d=>aG _ _ _ (fun a=>aE Wk),
 ⟨fun d=>aG _ _ _ (fun a b=>aE Wm),
 ⟨fun d=>aG _ _ _ (fun a b=>aE Wn),
 ⟨fun d=>aG _ _ _ (fun a b=>aE Wo),
 ⟨fun d=>aG _ _ _ (fun a b=>aE Wp),
 ⟨fun d=>aG _ _ _ (fun a=>aE Wq),
 ⟨fun d=>aG _ _ _ (fun a=>aE Sx),
 ⟨fun d=>aG _ _ _ (fun a=>aE Wx),
 ⟨fun d=>aG _ _ _ (fun a b=>aE Wy),
 ⟨fun d=>aG _ _ _ (fun a=>aE Wz),
 ⟨fun d=>aG _ _ _ (fun a b=>aE WA),
 ⟨fun d=>aG _ _ _ (fun a=>aE WC),
 ⟨fun d=>aG _ _ _ (fun a b=>aE WD),
 ⟨fun d=>aG _ _ _ (fun a b=>aE WE),
 ⟨fun d=>aG _ _ _ (fun a=>aE WG),
 ⟨fun d=>aG _ _ _ (fun a b=>aE WH),
 ⟨fun d=>aG _ _ _ (fun a=>aE WI),
 ⟨fun d=>aG _ _ _ (fun a b=>aE WJ),
 ⟨fun d=>aG _ _ _ (fun a b=>aE WK),
 ⟨fun d=>aG _ _ _ (fun a=>aE WN),
 ⟨fun d=>aG _ _ _ (fun a=>aE WV),
 ⟨fun d=>aG _ _ _ (fun a=>aE WY),
 ⟨fun d=>aG _ _ _ (aE WZ),
 ⟨fun d=>aG _ _ _ (fun a=>aE W0),
 ⟨fun d=>aG _ _ _ (fun a=>aE W4),
 ⟨fun d=>aG _ _ _ (fun a b=>aE W5),
 ⟨fun d=>aG _ _ _ (fun a b=>aE W6),
 ⟨fun d=>aG _ _ _ (fun a=>aE Js),
 ⟨fun d=>aG _ _ _ (fun a b=>aE W7),
 ⟨fun d=>aG _ _ _ (fun a=>aE W8),
 ⟨fun d=>aG _ _ _ (fun a=>aE Xe),
 ⟨fun d=>aG _ _ _ (fun a=>aE Kt),
 ⟨fun d=>aG _ _ _ (fun a b=>aE Xf),
 ⟨fun d=>aG _ _ _ (fun a=>aE Xg),
 ⟨fun d=>aG _ _ _ (fun a=>aE Xh),
 ⟨fun d=>aG _ _ _ (aE Xk),
 ⟨fun d=>aG _ _ _ (fun a b=>aE Xo),
 ⟨fun d=>aG _ _ _ (fun a b=>aE Xr),
 ⟨fun d=>aG _ _ _ (fun a b=>aE Xs),
 ⟨fun d=>aG _ _ _ (fun a=>aE JN),
 ⟨fun d=>aG _ _ _ (fun a b=>aE Xt),
 ⟨fun d=>aG _ _ _ (fun a=>aE Xu),
 ⟨fun d=>aG _ _ _ (fun a b=>aE Xx),
 ⟨fun d=>aG _ _ _ (fun a=>aE Xy),
 ⟨fun d=>aG _ _ _ (fun a=>aE Xz),
 ⟨fun d=>aG _ _ _ (fun a b=>aE XA),
 ⟨fun d=>aG _ _ _ (fun a=>aE XD),
 ⟨fun d=>aG _ _ _ (fun a b=>aE XE),
 ⟨fun d=>aG _ _ _ (fun a=>aE XF),
 ⟨fun d=>aG _ _ _ (fun a b c=>aE XG),
 ⟨fun d=>aG _ _ _ (fun a b=>aE XK),
 ⟨fun d=>aG _ _ _ (fun a b c=>aE XM),
 ⟨fun d=>aG _ _ _ (fun a b=>aE XL),
 ⟨fun d=>aG _ _ _ (fun a b=>aE XP),trivial⟩⟩⟩⟩⟩⟩⟩⟩⟩⟩⟩⟩⟩⟩⟩⟩⟩⟩⟩⟩⟩⟩⟩⟩⟩⟩⟩⟩⟩⟩⟩⟩⟩⟩⟩⟩⟩⟩⟩⟩⟩⟩⟩⟩⟩⟩⟩⟩⟩⟩⟩⟩⟩⟩⟩⟩⟩⟩⟩⟩⟩⟩⟩⟩⟩⟩⟩⟩⟩⟩⟩⟩⟩⟩⟩⟩⟩⟩⟩⟩⟩⟩⟩⟩⟩⟩⟩⟩⟩⟩⟩⟩⟩⟩⟩⟩⟩⟩⟩⟩⟩⟩⟩⟩⟩⟩⟩⟩⟩⟩⟩⟩⟩⟩⟩⟩⟩⟩⟩⟩⟩⟩⟩⟩⟩⟩⟩⟩⟩⟩⟩⟩⟩⟩⟩⟩⟩⟩⟩⟩⟩⟩⟩⟩⟩⟩⟩⟩⟩⟩⟩⟩⟩⟩⟩⟩⟩⟩⟩⟩⟩⟩⟩⟩⟩⟩⟩⟩⟩⟩⟩⟩⟩⟩⟩⟩⟩⟩⟩⟩⟩⟩⟩⟩⟩⟩⟩⟩
def aay(Y:Nat):Nat->FuncId->Array Value->M Value:=Ff (eC Y) (aax Y)
theorem am1(Y d:Nat):aay Y d=eC Y d:=aaw (am0 Y) d
end
end Go.Proofs.YtmjolmggelkjlaaGreat
