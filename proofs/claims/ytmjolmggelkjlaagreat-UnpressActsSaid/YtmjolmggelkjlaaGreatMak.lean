import Derived.Test.YtmjolmggelkjlaaGreatMad
import Derived.Test.YtmjolmggelkjlaaGreatMaf
import Derived.Test.YtmjolmggelkjlaaGreatMaj
import Derived.Test.YtmjolmggelkjlaaGreatMac
import Derived.Shelf.Strings.Builder1
import Derived.Shelf.Strings.Builder2
import Derived.Shelf.Strings.BuilderF
import Derived.Shelf.Strings.Prefix
import Derived.Shelf.Bits.Mul64
import Derived.Shelf.Strings.Repeat
import Derived.Ground.Names2Prog
import Derived.Shelf.Slices.Clone
import Derived.Ground.SlgnProg
import Derived.Shelf.SlicesE.Clone
import Derived.Test.YtmjolmggelkjlaaGreatProg
import Derived.Test.YtmjolmggelkjlaaGreatRows
open Go.Proofs.Tryz renaming prog→aa, underlying3→anH, underlying5→anI, isAgg5→anJ, sizeOf5→anK, zeroValue5→anL, underlying9→anM
open Nat renaming le_refl→ah, zero_le→aP, beq→bV, lt_succ_self→dO, le_succ→eL, zero_add→fy, lt_of_lt_of_le→fP, min_eq_left→gZ, le_trans→iV, lt_or_ge→pQ, mul_le_mul_right→qL, mul_zero→sJ, mul_le_mul→xn, strongRecOn→Al, sub_zero→Au, le_add_right→EV, min_le_left→amz
open List renaming length_drop→bC, length_append→bE, append_nil→bR, length_cons→cK, length_take→cO, append_assoc→dY, length_map→fQ, length_nil→hC, take_length→iY, not_mem_nil→je, drop_drop→jf, drop_zero→js, nil_append→kQ, map_append→pT, length→sN, drop_length→sO, take_append_drop→Aq, take_of_length_le→E', drop_append_of_le_length→Fe, take_take→LP, drop_nil→anG, flatMap_cons→anN
open Bool renaming not_false→cx, and_self→eA, not_true→eK, noConfusion→aai
open Int renaming toNat_natCast→cR
open Go.Value renaming int→eJ, slice→kR, agg→mC
open Go.Shelf renaming Ren→an4
open Go.Proofs.Lays renaming n105→an5
set_option linter.unusedVariables false
set_option linter.unusedSimpArgs false
namespace Go.Proofs.YtmjolmggelkjlaaGreat.Ev
open Go Go.RowKit
def Li(h:H)(n:Nat)(x:Value)(news:List Value):Prop:=∃L,kp 1 news.length x h n=some ⟨news,h,n,L⟩∧(∀e∈L,e.wr=false)∧ic x=some news.length
theorem Ed(ws:List Nat):(bZ ws).all one=true:=by unfold bZ;simp[one]
theorem alc{h:H}{n:Nat}{t:List Nat}(d:∀x∈t,x<256):Li h n (.string ⟨(bS t).toArray⟩) (bZ t):=by
 have a:(bS t).length=t.length:=by unfold bS;rw[fQ]
 refine⟨[], ?_,fun e f=>absurd f je, ?_⟩
 ·rw[<-qg];show M.ret (((bS t).take (bZ t).length).map fun b=>eJ .u8 (.ofNat b.toNat)) h n=_
  have:((bS t).take (bZ t).length).map (fun b=>eJ .u8 (.ofNat b.toNat))=bZ t:=by rw[E' (by rw[gH,a];exact ah _)];unfold bS bZ;rw[List.map_map];refine List.map_congr_left fun x c=> ?_;show eJ .u8 (.ofNat (UInt8.ofNat x).toNat)=_;rw[UInt8.toNat_ofNat',Nat.mod_eq_of_lt (d x c)];rfl
  rw[this];rfl
 ·rw[gH,<-a];rfl
section
variable {β:Type} {W:Nat->Prop} {n0:Nat} {h:H} {n:Nat} {Q:β->H->Nat->Prop}
theorem ald {T:Prop} (_:T) {e:TypeId} {x:Value} {news:List Value} (s:Li h n x news) (o:0<news.length) (d:news.length<=1099511627776) (h1:news.all one=true) (k:Value->M β)
 (y:af W n0 (k (.slice (some ⟨n,0,none⟩) news.length (bh+news.length))) (h.set n (some ⟨e,true,news⟩)) (n+1) Q):af W n0 (bL e 1 (.slice none 0 0) x k) h n Q:=by
 obtain⟨L,m,l,j⟩:=s
 have i:mi e 1 (.slice none 0 0) x h n=some ⟨.slice (some ⟨n,0,none⟩) news.length (bh+news.length),h.set n (some ⟨e,true,news⟩),n+1,L⟩:=by
  unfold mi;rw[qg,lI];simp only[j];rw[if_neg jO,if_pos d]
  have g:(if(decide (news.length=news.length*1)&&news.all one)=true then(cS e ([]++news)).bind fun id=>M.ret (kR (some ⟨id,0,none⟩) (0+news.length) (bh+(0+news.length)))else M.fail) h n=some ⟨.slice (some ⟨n,0,none⟩) news.length (bh+news.length),h.set n (some ⟨e,true,news⟩),n+1,[]⟩:=by rw[if_pos (by simp;simpa using h1)];simp only[fy,kQ];exact bX (vH _ _ _ _) rfl
  have:=bX (f:=fun a=>if(decide (a.length=news.length*1)&&a.all one)=true then(cS e ([]++a)).bind fun id=>M.ret (kR (some ⟨id,0,none⟩) (0+news.length) (bh+(0+news.length)))else M.fail) m g;simpa using this
 refine jG (af.step (jy i) (eL n) (fun x c b=> ?_) y);rw[l x (List.mem_filter.1 c).1]at b;cases b
theorem ale {T:Prop} (_:T) {e:TypeId} {x:Value} {news olds:List Value} (s:Li h n x news) (B:0<news.length) (h1:news.all one=true) {b cp:Nat} {cs:List Value} (c:h.get b=some ⟨e,true,cs⟩) (d:b<n) (off l:Nat)
 (p:off+l<=cs.length) (m:(cs.drop off).take l=olds) (o:l+news.length<=1099511627776) (A:bh<=cp) (j:n0<=b∨W b) (k:Value->M β)
 (y:af W n0 (k (.slice (some ⟨n,0,none⟩) (l+news.length) (bh+(l+news.length)))) ((h.set b none).set n (some ⟨e,true,olds++news⟩)) (n+1) Q):af W n0 (bL e 1 (.slice (some ⟨b,off,none⟩) l cp) x k) h n Q:=by
 obtain⟨L,v,u,t⟩:=s;obtain⟨z,r,q⟩:=rA (n:=n) c d l off p
 have g:∃i,mi e 1 (.slice (some ⟨b,off,none⟩) l cp) x h n=some ⟨.slice (some ⟨n,0,none⟩) (l+news.length) (bh+(l+news.length)),(h.set b none).set n (some ⟨e,true,olds++news⟩),n+1,i⟩∧∀e∈i,e.wr=true->e.b=b:=by
  refine⟨[⟨false,b,some 1099511627776⟩]++(L++(z++([⟨false,b,none⟩,⟨true,b,none⟩]++[]))), ?_, ?_⟩
  ·unfold mi xT;rw[qg,lI,vu,FW,mM];simp only[t];rw[if_neg jO,if_pos o];refine bX (BJ c d) ?_;simp only[if_true];refine bX v ?_;rw[if_pos (by simp;simpa using h1)];rw[if_neg jO,Nat.mul_one];refine bX r (bX (OI c rfl d) ?_);rw[m];exact bX (vH _ _ _ _) rfl
  ·intro x hx a;simp only[List.mem_append,List.mem_cons,je,or_false]at hx;rcases hx with rfl|hx|hx|rfl|rfl
   ·cases a
   ·rw[u x hx]at a;cases a
   ·rw[q x hx]at a;cases a
   ·cases a
   ·rfl
 obtain⟨i,g,f⟩:=g;refine jG (af.step (jy g) (eL n) (fun x hx a=> ?_) y);rw[f x (List.mem_filter.1 hx).1 a];exact j
def ke(h:H)(n:Nat)(e:TypeId)(v:Value)(ws:List Nat):Prop:=(v= .slice none 0 0∧ws=[])∨∃b a d c,v= .slice (some ⟨b,a,none⟩) ws.length d∧h.get b=some ⟨e,true,c⟩∧b<n∧a+ws.length<=c.length∧(c.drop a).take ws.length=bZ ws∧bh+ws.length<=d
variable {e:TypeId} {v:Value} {ws:List Nat}
theorem ke.au{h':H}{n':Nat}(o:ke h n e v ws)(d:n<=n')(f:∀b,aJ v b->h'.get b=h.get b):ke h' n' e v ws:=by
 rcases o with q|⟨b,a,k,j,c,g,i,r⟩
 ·exact .inl q
 ·exact .inr ⟨b,a,k,j,c,(f b ⟨_,_,_,c⟩).trans g,fP i d,r⟩
theorem ke.lt(o:ke h n e v ws){b:Nat}(a:aJ v b):b<n:=by
 rcases o with ⟨rfl,_⟩|⟨c,d,i,g,rfl,_,f,_⟩
 ·exact a.not_nil.elim
 ·rw[a.inj];exact f
theorem ke.len(o:ke h n e v ws):∃a c,v= .slice a ws.length c:=by
 rcases o with ⟨rfl,rfl⟩|⟨b,d,g,f,rfl,_⟩
 ·exact⟨none,0,rfl⟩
 ·exact⟨_,_,rfl⟩
theorem ke.app (o:ke h n e v ws) {t:List Nat} (p:∀x∈t,x<256) (B:ws.length+t.length<=1000000000) (m:∀b,aJ v b->n0<=b∨W b) (k:Value->M β)
 (y:∀g h' n',n<=n'->ke h' n' e g (ws++t)->(∀b,aJ g b->aJ v b∨n<=b)->(∀b,b<n->¬aJ v b->h'.get b=h.get b)->af W n0 (k g) h' n' Q):af W n0 (bL e 1 v (.string ⟨(bS t).toArray⟩) k) h n Q:=by
 have d:=gH t;by_cases A:t.length=0
 ·have l:t=[]:=List.length_eq_zero_iff.1 A;subst l;obtain⟨a,c,rfl⟩:=o.len;refine BK (news:=[]) trivial (x:= .string ⟨(bS []).toArray⟩) rfl a _ c k ?_;exact y _ h n (ah n) (by rw[bR];exact o) (fun b j=> .inl j) (fun b _ _=>rfl)
 ·have s:=alc (h:=h) (n:=n) p;rcases o with ⟨rfl,rfl⟩|⟨b,i,E,D,rfl,r,j,z,u,C⟩
  ·refine ald trivial s jO (by rw[d];omega) (Ed t) k ?_;rw[d];exact y _ _ (n+1) (eL n) (.inr ⟨n,0,_,_,by rw[kQ],get_eq _ _ _,dO n,by rw[d,kQ];omega,by rw[kQ,js,E' jO],by rw[kQ];exact ah _⟩) (fun c f=> .inr (by rw[f.inj];exact ah n)) (fun c f _=>aw _ _ jO)
  ·refine ale trivial s jO (Ed t) r j i ws.length z u (by rw[d];omega) jO (m b ⟨_,_,_,rfl⟩) k ?_;rw[d];refine y _ _ (n+1) (eL n) (.inr ⟨n,0,_,_,by rw[bE],get_eq _ _ _,dO n,by rw[bE,bE,gH,d];omega,by rw[<-DD,js,E' (by rw[gH];exact ah _)],by rw[bE];exact ah _⟩) (fun c f=> .inr (by rw[f.inj];exact ah n)) (fun c f q=> ?_);have:c≠b:=fun e=>q ⟨_,_,_,by rw[e]⟩;rw[aw _ _ jO,aw _ _ this]
theorem ke.front(o:ke h n e v ws){m:Nat}(c:m<=ws.length)(j:IntKind)(k:Value->M β)(y:af W n0 (k (.string ⟨(bS (ws.take m)).toArray⟩)) h n Q):af W n0 (nF e 1 v none (some (.int j (m:Int))) fun g=>iI g k) h n Q:=by
 rcases o with ⟨rfl,rfl⟩|⟨b,off,cp,a,rfl,f,i,r,q,p⟩
 ·obtain rfl:m=0:=by simpa using c
  refine ON trivial 0 0 _ _ (yg _) (tu _ _ _) (ah _) (ah _) (ah _) _ trivial ?_;exact y
 ·refine BL trivial f rfl i off ws.length cp _ _ (yg _) (tu _ _ _) (aP _) c jO _ trivial ?_;have l:cp≠0:=by unfold bh at p;omega
  rw[if_neg l,Nat.add_zero,Au,Au];have d:(ws.take m).length=m:=by rw[cO];omega
  have:=wx (W:=W) (n0:=n0) (Q:=Q) (off:=off) (cp:=cp) (ws:=ws.take m) f i (by rw[d];show off+m<=a.length;omega) (by
   rw[d];show(a.drop off).take m=_;have:(a.drop off).take m=((a.drop off).take ws.length).take m:=by rw[LP,gZ c]
   rw[this,q];unfold bZ
   rw[List.map_take]) k y
  rw[d]at this;exact this
theorem ke.drop(o:ke h n e v ws){m:Nat}(i:m<=ws.length)(p:IntKind)(k:Value->M β)(y:∀f,ke h n e f (ws.drop m)->(∀b,aJ f b->aJ v b)->af W n0 (k f) h n Q):af W n0 (nF e 1 v (some (.int p (m:Int))) none k) h n Q:=by
 rcases o with ⟨rfl,rfl⟩|⟨b,a,l,g,rfl,j,d,t,s,r⟩
 ·obtain rfl:m=0:=by simpa using i
  refine ON trivial 0 0 _ _ (tu _ _ _) (yg _) (ah _) (ah _) (ah _) _ trivial ?_;exact y _ (.inl ⟨rfl,rfl⟩) (fun b d=>d)
 ·refine BL trivial j rfl d a ws.length l _ _ (tu _ _ _) (yg _) i (ah _) jO _ trivial ?_;rw[if_neg (by unfold bh at r;omega)];refine y _ (.inr ⟨b,a+m,l-m,g,by rw[bC],j,d,by rw[bC];omega, ?_,by rw[bC];omega⟩) (fun c q=>by rw[q.inj];exact⟨_,_,_,rfl⟩);rw[bC];have:(g.drop (a+m)).take (ws.length-m)=((g.drop a).take ws.length).drop m:=by rw[List.drop_take,jf]
  rw[this,s];unfold bZ;rw[List.map_drop]
end
end Go.Proofs.YtmjolmggelkjlaaGreat.Ev
namespace Go.Proofs.YtmjolmggelkjlaaGreat
open Go.RowKit Ev Cn Ip
theorem Zc:∀(k:Nat) (S:List UInt8),dS (S.drop k)=(dS S).drop (8*k)
 |0,S=>rfl
 |k+1,[]=>by rw[anG];show []=List.drop _ [];rw[anG]
 |k+1,b::S=>by rw[List.drop_succ_cons,Zc k S];show _=(b8 b.toNat 8++dS S).drop (8*(k+1));rw[show 8*(k+1)=8+8*k by omega,<-jf,List.drop_left' (gT _ _)]
theorem alf{S:List UInt8}{D A k:Nat}(h:8*(D+k)<=A):ar (S.drop k) (D+k) A=ar S D A:=by unfold ar;rw[Zc,jf];congr 1;omega
section
variable {Y d n p:Nat} {h:H} {S:List UInt8} {D A:Nat}
theorem Zd(x:aY h n p S D A):af (fun _=>False) n (aj aa gt Y (d+1) 85 #[jP p 0]) h n fun v h' n'=>v=jI ((S.length:Nat):Int)∧h'=h∧n'=n:=by have g:=x.get;have a:=x.lt;unfold mo at g;rw[aC (fun _=>QG) rfl];refine af.aB ?_;unfold Hz;exact jC @g
theorem Lj(x:aY h n p S D A):af (fun c=>c=p) n (aj aa gt Y (d+1) 119 #[jP p 0]) h n fun _ h' n'=>n'=n∧aY h' n p (S.drop (A/8-D)) (A/8) A∧∀c,c≠p->h'.get c=h.get c:=by
 have g:=x.get;have k:=x.lt;have m:=x.sm;have l:=x.lo;have o:=x.hi;unfold mo at g;rw[aC (fun _=>Rl) rfl];refine af.aB ?_;unfold HP;have i:((A:Int)).tdiv 8=((A/8:Nat):Int):=rfl;have f:IntKind.i64.wrap ((A/8:Nat):Int)=((A/8:Nat):Int):=aH jO jO;have e:IntKind.i64.wrap (((A/8:Nat):Int)-(D:Int))=((A/8-D:Nat):Int):=by rw[aH jO jO];omega
 have i1:(0:Int)<=((A/8-D:Nat):Int):=jO;have j:((A/8-D:Nat):Int)<=(S.length:Int):=jO;have b:IntKind.i64.wrap ((D:Int)+((A/8-D:Nat):Int))=((A/8:Nat):Int):=by rw[aH jO jO];omega
 refine jA (aI @g (aI @i (aI @f (aI @e (aI @i1 (aI @j (aI @b @cR))))))) ?_;refine⟨⟨get_eq _ _ _,k,jO, ?_, ?_⟩,fun c a=>by rw[aw _ _ a,aw _ _ a]⟩
 ·rw[bC];omega
 ·rw[bC];omega
end
section
variable {Y d n p q lo z:Nat} {h:H} {s:Pk} {pv:Value} {dF:Bool} {c:Cd} {m:Cm}
theorem alg{v:Value}{xs:List Int}(o:Own h lo n 3 v (aW .i64 xs))(i:xs.length<=1000000):af (fun _=>False) n (aj aa gt Y (d+1) 208 #[v]) h n fun e _ _=>∃a c,e= .slice a xs.length c:=by
 by_cases j:0<xs.length
 ·exact(DB Y d n h v xs o.row j i).mono fun e p k _ g=>g.2.1.len
 ·have f:xs=[]:=List.length_eq_zero_iff.1 jO;subst f;rw[aC (fun _=>I') rfl];refine af.aB ?_;unfold C0;rcases o with ⟨rfl,_⟩|⟨b,rfl,l,_,m⟩
  ·refine jB ?_;exact⟨none,0,rfl⟩
  ·refine jB ?_;refine OO trivial _ ?_;refine BK (news:=[]) trivial rfl _ _ _ _ ?_;refine jB ?_;exact⟨_,_,rfl⟩
theorem alh(x:gz h lo n q s pv dF)(r:s.bu.length<=100000):af (fun _=>False) n (aj aa gt Y (d+2) 180 #[jP q 0]) h n fun j _ _=>∃a c,j= .slice a s.bu.length c:=by obtain⟨a,b,c,v,e,f,t,g⟩:=x.cells;have i:=x.lt;have k:=fa s.bu;rw[aC (fun _=>IK) rfl];refine af.aB ?_;unfold CM;refine jA @g ?_;refine aN aE (alg (Y:=Y) (d:=d) x.own jO) (ah _) (fun _ _ h=>h.elim) fun o u p l m i=> ?_;refine jB ?_;rw[k]at i;exact i
theorem ali(x:cG h n z p c m)(J:c.pk.bu.length<=32768)(B:c.aZ.length<=6)(A:c.size<=258):af (fun _=>False) n (aj aa gt Y (d+3) 146 #[jP z 0]) h n fun u _ _=>u=jI ((c.pk.bu.length+c.size*c.aZ.length:Nat):Int):=by
 have g:=x.get;have f:=x.lt;unfold mq at g
 obtain⟨O,N,k⟩:∃a D,m.cv= .slice a c.aZ.length D:=by
  have l:=x.j5;rcases x.cs with ⟨i,C⟩|⟨b,i,_⟩
  ·have:m.iv=[]:=List.map_eq_nil_iff.1 C;rw[this]at l;rw[i,<-l];exact⟨_,_,rfl⟩
  ·rw[i,fQ,l];exact⟨_,_,rfl⟩
 rw[k]at g;have K:c.size*c.aZ.length<=258*6:=xn A B
 have t:IntKind.i64.wrap ((c.size:Int)*((c.aZ.length:Nat):Int))=((c.size*c.aZ.length:Nat):Int):=by rw[show(c.size:Int)*((c.aZ.length:Nat):Int)=((c.size*c.aZ.length:Nat):Int) by push_cast;rfl,aH jO jO]
 have s:IntKind.i64.wrap (((c.pk.bu.length:Nat):Int)+((c.size*c.aZ.length:Nat):Int))=((c.pk.bu.length+c.size*c.aZ.length:Nat):Int):=by rw[aH jO jO];rfl
 rw[aC (fun _=>aes) rfl];refine af.aB ?_;unfold So;refine jB ?_;refine gI trivial z 1 _ g f (ah _) rfl fun T G=> ?_;refine jB ?_;refine lP aE (alh (Y:=Y) (d:=d) x.pk jO) (ah _) fun E i I R e o j q=> ?_;obtain⟨a,L,rfl⟩:=j;have r:=(o z f).trans g;refine jB ?_;refine gI trivial z 0 _ r f e rfl fun Q y=> ?_;refine jB ?_;refine gI trivial z 4 _ r f e rfl fun P v=> ?_;try simp(disch:=first|omega|assumption) only[Nat.reduceAdd,Nat.reduceLT,RZ,t,s,q.cA y,q.cA v,cx,eA,dQ]
end
section
variable {Y d n p room Z:Nat} {h:H} {L:Nat->Nat} {k:Bk} {m:Bm} {dF:Int}
theorem Bk.Bd.held{r:Rw}(b:k.Bd room)(d:k.row=some r):r.cd.pk.bu.length<=32768∧r.cd.aZ.length<=6∧r.cd.size<=258:=by
 obtain⟨g,a,f,e⟩:=b.2 r d;refine⟨?_,f,e⟩;by_cases c:r.cd.pk.count=0
 ·rw[(a.new c).1];exact aP _
 ·have:=a.len c;omega
theorem alj(y:ey h n L p room k m dF)(bd:k.Bd room)(Q:room<=900000):af (fun _=>False) n (aj aa gt Y (d+4) 115 #[jP m.b 0]) h n fun x _ _=>∃N:Nat,x=jI (N:Int)∧N<=room+34400:=by
 have g:=y.get;have o:=y.lt;have U:=bd.1;unfold iO at g
 obtain⟨W,T,l⟩:∃a G,m.lv= .slice a k.last.length G:=by
  rcases y.last with ⟨c,D⟩|⟨b,c,_⟩
  ·have:k.last=[]:=by have:=congrArg sN D;rw[gH]at this;exact List.length_eq_zero_iff.1 this
   rw[c,this];exact⟨_,_,rfl⟩
  ·rw[c,gH];exact⟨_,_,rfl⟩
 rw[l]at g;rw[aC (fun _=>Rh) rfl];refine af.aB ?_;unfold HL;cases e:k.row with
 |none=>rw[e]at g;unfold uC at g;refine jA @g ?_;exact⟨k.last.length,rfl,jO⟩
 |some r=>
  rw[e]at g;unfold uC at g;have f:=y.row r e;have s:=f.get;have B:=f.lt;unfold qA at s;obtain⟨I,u,t⟩:=bd.held e;have R:r.cd.size*r.cd.aZ.length<=258*6:=xn t u;have ch:=ali (Y:=Y) (d:=d) f.cd I u t;obtain⟨N,C⟩:∃N,r.cd.pk.bu.length+r.cd.size*r.cd.aZ.length=N:=⟨_,rfl⟩;rw[C]at ch;have v:IntKind.i64.wrap ((N:Int)+((k.last.length:Nat):Int))=((N+k.last.length:Nat):Int):=by rw[aH jO jO];rfl
  refine jA @g ?_;refine gI trivial m.b 0 _ g o (ah _) rfl fun T1 O=> ?_;refine jB ?_;refine gI trivial m.x 0 _ s B (ah _) rfl fun T2 K=> ?_;refine jB ?_;refine lP aE ch (ah _) fun J c P Z j q i A=> ?_;subst i;have E:=(q m.b o).trans g;refine jB ?_;refine gI trivial m.b 5 _ E o j rfl fun X z=> ?_;try simp(disch:=first|omega|assumption) only[Nat.reduceAdd,Nat.reduceLT,RZ,v,A.cA z,cx,eA,dQ]
  exact⟨N+k.last.length,rfl,jO⟩
theorem alk{u:Us}{m:Um}(y:dX h n L p Z u m dF)(bd:∀b,u.bc=some b->b.Bd (u.level*Z))(lv:u.level<=9)(t:Z<=100000):af (fun _=>False) n (aj aa gt Y (d+5) 86 #[jP m.a 0]) h n fun e _ _=>∃N:Nat,e=jI (N:Int)∧N<=9*Z+34400∧(u.bc=none->N=0):=by
 have g:=y.get;have x:=y.lt;unfold iP at g;have v:u.level*Z<=9*Z:=qL _ lv;rw[aC (fun _=>adE) rfl];refine af.aB ?_;unfold QH;cases c:u.bc with
 |none=>
  rw[c]at g;unfold uF at g
  have a:af (fun _=>False) n (aj aa gt Y (d+4) 115 #[.pointer none]) h n fun e l j=>e=jI 0∧l=h∧j=n:=by rw[aC (fun _=>Rh) rfl];refine af.aB ?_;unfold HL;exact jE
  refine jA @g ?_;refine bz a (ah _) (fun _ _ h=>h.elim) ?_;refine jB ?_;exact⟨0,rfl,aP _,fun _=>rfl⟩
 |some b=>rw[c]at g;unfold uF at g;obtain⟨w,i,_⟩:=y.bc b c;refine jA @g ?_;refine aN aE (alj (Y:=Y) (d:=d) i (bd b c) jO) (ah _) (fun _ _ h=>h.elim) fun r A s k o f=> ?_;obtain⟨N,rfl,z⟩:=f;refine jB ?_;exact⟨N,rfl,jO,fun q=>nomatch q⟩
theorem alm{a j b s:Nat}{l:List Nat}(x:gN h n a l b s j (.slice none 0 0) [])(m:l.length<=900000):af (fun _=>False) n (aj aa gt Y (d+1) 87 #[jP a 0]) h n fun i h' n'=>i=jI ((2*l.length:Nat):Int)∧h'=h∧n'=n:=by
 have g:=x.get;have o:=x.lt;have k:=qD l;have f:IntKind.i64.wrap (2*((l.length:Nat):Int))=((2*l.length:Nat):Int):=by rw[aH jO jO];rfl
 have e:IntKind.i64.wrap (((2*l.length:Nat):Int)+0)=((2*l.length:Nat):Int):=by rw[Int.add_zero,aH jO jO]
 have c:((0:Nat):Int)=0:=rfl;rw[aC (fun _=>adF) rfl];refine af.aB ?_;unfold QI;exact jC (aI @g (aI @wR (aI @KR (aI @k (aI @f (aI @c @e))))))
end
structure Ex where
 c:Xc
 ru:Us
 wr:Int
 D:Nat
 F:List UInt8
 ended:Bool
 short:Bool
 out:List Nat
 steps:Nat
structure Xm where
 a:Nat
 p:Nat
 um:Um
 oa:Nat
 om:Om
 ov:Value
def lC(o:Option jU)(a:Nat):Value:=match o with
 |none=> .pointer none
 |some _=> .pointer (some ⟨a,0,none⟩)
def mB(f:Option Int):Int:=match f with
 |none=>0
 |some e=>e
def gO(f:Option Int):Bool:=match f with
 |none=>false
 |some _=>true
def iT(win lim:Nat)(x:Ex)(m:Xm):AB:=⟨132,true,[jI (win:Int),jI (lim:Int),.bool x.ended,jP m.p 0,jP m.um.a 0,lC x.c.op m.oa,.bool x.short,m.ov,.bool (gO x.c.fin),jI (mB x.c.fin),jI (x.steps:Int)]⟩
structure cN (h:H) (n:Nat) (L:Nat->Nat) (Z win lim:Nat) (x:Ex) (m:Xm):Prop where
 get:h.get m.a=some (iT win lim x m)
 lt:m.a<n
 la:L m.a=18
 rd:∃B,aY h n m.p (x.F.drop x.D) x.D B∧(x.c.fin=none->B=x.c.A)
 lp:L m.p=1
 us:dX h n L m.p Z x.ru m.um x.wr
 fl:x.c.fin=none->m.um.bm.Fl
 op:∀o,x.c.op=some o->mZ h n L m.oa m.om x.c.u.aS o
 out:ke h n 5 m.ov x.out
 lo:∀b,aJ m.ov b->L b=19
def WX(L:Nat->Nat):Nat->Prop:=fun c=>1<=L c∧L c<=19
theorem pP{L:Nat->Nat}{c i:Nat}(h:L c=i)(h1:1<=i)(h2:i<=19):WX L c:=by unfold WX;omega
theorem cN.au{h h':H}{n n':Nat}{L L':Nat->Nat}{Z win lim:Nat}{e:Ex}{m:Xm}(x:cN h n L Z win lim e m)(d:n<=n')(g:∀c,c<n->L' c=L c)(f:∀c,c<n->1<=L c->L c<=19->h'.get c=h.get c):cN h' n' L' Z win lim e m:=by
 obtain⟨B,i,k⟩:=x.rd
 exact⟨(f _ x.lt (by rw[x.la];decide) (by rw[x.la];decide)).trans x.get,fP x.lt d,(g _ x.lt).trans x.la,
  ⟨B,i.au d (f _ i.lt (by rw[x.lp];decide) (by rw[x.lp];decide)),k⟩,(g _ i.lt).trans x.lp,
  x.us.au d g (fun c j q p=>f c j jO jO),x.fl,
  fun o l=>(x.op o l).au d g (fun c j q p=>f c j jO jO),
  x.out.au d (fun b a=>f b (x.out.lt a) (by rw[x.lo b a];decide) (by rw[x.lo b a];decide)),fun b a=>(g b (x.out.lt a)).trans (x.lo b a)⟩
def kL(L:Nat->Nat)(n Z win lim:Nat)(m:Xm)(d:Ex)(h':H)(n':Nat):Prop:=∃b a,(∀c,c<n->b c=L c)∧a.a=m.a∧cN h' n' b Z win lim d a
def iU(lim:Nat)(e:Ex):Bool:=match e.c.fin with
 |some _=>true
 |none=>match e.c.op with
  |some _=>decide (lim<=e.out.length)
  |none=>e.short
def m4(g:Gt)(o:jU):List Nat:=match gY g o with
 | .fail t _=>t
 | .fin t=>t
 | .go t _=>t
def sE(e:Ex)(o:jU):Ex:={e with c:=dN e.c o,out:=e.out++m4 e.c.u.aS o}
theorem aln{g:Gt}{o:jU}{t:List Nat}{e:Int}(h:gY g o= .fail t e):e=25∨e=21:=by
 unfold gY at h;split at h
 ·cases h
 ·split at h
  ·cases h;exact .inl rfl
  ·split at h
   ·split at h
    ·cases h;exact .inl rfl
    ·split at h
     ·cases h
     ·cases h;exact .inr rfl
   ·cases h
section
variable {Y d n Z win lim:Nat} {h:H} {L:Nat->Nat} {e:Ex} {m:Xm} {o:jU}
theorem EG(x:cN h n L Z win lim e m):af (fun _=>False) n (aj aa gt Y (d+1) 37 #[jP m.a 0]) h n fun v h' n'=>v= .bool (iU lim e)∧h'=h∧n'=n:=by
 have g:=x.get;have i:=x.lt;obtain⟨k,j,a⟩:=x.out.len;unfold iT at g;rw[a]at g;rw[aC (fun _=>P') rfl];refine af.aB ?_;unfold Hl iU;cases f:e.c.fin with
 |some q=>rw[f]at g;simp only[gO]at g;exact jC @g
 |none=>
  rw[f]at g;simp only[gO]at g;cases b:e.c.op with
  |none=>rw[b]at g;simp only[lC]at g;exact jC @g
  |some o=>
   rw[b]at g;simp only[lC]at g
   have z:decide (((lim:Nat):Int)<=((e.out.length:Nat):Int))=decide (lim<=e.out.length):=by
    by_cases c:lim<=e.out.length
    ·rw[decide_eq_true c,decide_eq_true jO]
    ·rw[decide_eq_false c,decide_eq_false jO]
   exact jC (aI @g @z)
theorem EH{a:Nat}{p o m l k s j i r q b:Value}(g:h.get a=some ⟨132,true,[p,o,m,l,k,s,j,i,r,q,b]⟩)(t:a<n)(f:Int):af (fun c=>c=a) n (aj aa gt Y (d+1) 117 #[jP a 0,jI f]) h n fun _ h' n'=>n'=n∧h'.get a=some ⟨132,true,[p,o,m,l,k,.pointer none,j,i,.bool true,jI f,b]⟩∧∀c,c≠a->h'.get c=h.get c:=by rw[aC (fun _=>Rj) rfl];refine af.aB ?_;unfold HN;refine jA @g ?_;exact fun c e=>by rw[aw _ _ e,aw _ _ e,aw _ _ e]
theorem alo(x:cN h n L Z win lim e m)(ef:e.c.fin=none)(eo:e.c.op=some o)(ok:lT e.c.u.aS.last e.c.u.aS.bH)(hs:e.c.u.aS.sum<4294967296)(hk:o.k<3*e.c.u.aS.last.length)(v6:e.out.length<=1000000)(v0:3000000<=Y):af (WX L) n (aj aa gt Y (d+5) 88 #[jP m.a 0]) h n fun _ h' n'=>kL L n Z win lim m (sE e o) h' n':=by
 have g:=x.get;have ha:=x.lt;have la:=x.la;have p:=x.op o eo;obtain⟨B,r1,r2⟩:=x.rd;have lp:=x.lp;unfold iT at g;rw[ef,eo]at g;simp only[gO,mB,lC]at g;rw[aC (fun _=>QJ) rfl];refine af.aB ?_;unfold HA;refine jA @g ?_;refine aN aE (ala (Y:=Y) (d:=d) p ok hs hk v0) (ah _) (fun b _ i=> .inr (by have C:=i.1;have D:=i.2;unfold WX;omega)) fun v1 C J u9 W s=> ?_;have nw:∀c,L c<14∨17<L c->¬WO L c:=fun c f q=>by have C:=q.1;have D:=q.2;omega
 have g1:=(W m.a ha (nw _ jO)).trans g;have u2:m.a<J:=jO;have o1:ke C J 5 m.ov e.out:=x.out.au u9 fun b i=>W b (x.out.lt i) (nw b (by have:=x.lo b i;omega))
 obtain⟨t,K,rfl,bt,lt,ht,f⟩:∃t K,v1= .tuple #[.string ⟨(bS t).toArray⟩,jI K]∧By t∧t.length<=251∧m4 e.c.u.aS o=t∧((gY e.c.u.aS o= .fail t K∧K≠0)∨(gY e.c.u.aS o= .fin t∧K=0∧C.get m.oa=some (sC e.c.u.aS m.om)∧gN C J m.om.ia e.c.u.aS.last e.c.u.aS.bH (3*e.c.u.aS.last.length) m.om.lb (.slice none 0 0) [])∨(∃r,gY e.c.u.aS o= .go t r∧K=0∧mZ C J L m.oa m.om e.c.u.aS r∧r.k<3*e.c.u.aS.last.length)):=by
  unfold Lg at s;unfold m4;cases l:gY e.c.u.aS o with
  |fail t K=>rw[l]at s;obtain⟨C,D,O⟩:=s;exact⟨t,K,C,D,O,rfl,.inl ⟨rfl,by rcases aln l with q|q<;>omega⟩⟩
  |fin t=>rw[l]at s;obtain⟨C,⟨D,O⟩,y,h5⟩:=s;exact⟨t,0,C,y,h5,rfl,.inr (.inl ⟨rfl,rfl,D,O⟩)⟩
  |go t r=>rw[l]at s;obtain⟨C,D,O,y,h5⟩:=s;exact⟨t,0,C,O,y,rfl,.inr (.inr ⟨r,rfl,rfl,D,h5⟩)⟩
 refine jA (aI @bI (aI @ext1 @g1)) ?_;refine o1.app bt jO (fun b i=> .inr (pP (x.lo b i) jD jD)) _ fun R D n2 u1 o2 ib k=> ?_;have j:∀c,L c≠19->¬aJ m.ov c:=fun c f q=>f (x.lo c q);have g2:=(k m.a u2 (j _ jO)).trans g1;have v2:m.a<n2:=jO;have X:WX L m.a:=pP la jD jD
 have u5:∀{b},aJ R b->b≠m.a:=fun{b} i q=>by
  rcases ib b i with w|w
  ·have:=x.lo b w;rw[q]at this;omega
  ·omega
 have jx:∀c,c<n->¬WO L c->L c≠19->D.get c=h.get c:=fun c f O y=>(k c jO (j c y)).trans (W c f O)
 have G:∀(y:H) (n4:Nat) (I:Ex),n2<=n4->(∀c,c≠m.a->y.get c=D.get c)->I.F=e.F->I.D=e.D->I.c.A=e.c.A->I.ru=e.ru->I.wr=e.wr->I.out=e.out++t->I.c.u=e.c.u->y.get m.a=some (iT win lim I {m with ov:=R})->(∀r,I.c.op=some r->mZ C J L m.oa m.om e.c.u.aS r)->kL L n Z win lim m I y n4:=by
  intro y n4 I u0 k4 i1 i2 i3 i4 i5 i6 i7 g4 bD;have kk:∀c,c<n->¬WO L c->L c≠19->L c≠18->y.get c=h.get c:=fun c f O h5 h6=>(k4 c (fun q=>h6 (q▸la))).trans (jx c f O h5);have Ls:∀c,c<J->(fun c=>if c<J then L c else 19) c=L c:=fun c f=>if_pos f;have P:∀c,c<n->(fun c=>if c<J then L c else 19) c=L c:=fun c f=>if_pos jO;refine⟨fun c=>if c<J then L c else 19,{m with ov:=R},P,rfl,⟨g4,by show m.a<n4;omega,(Ls _ u2).trans la, ?_,(P _ r1.lt).trans lp, ?_,fun _=>x.fl ef, ?_, ?_, ?_⟩⟩
  ·rw[i1,i2,i3];exact⟨B,r1.au jO (kk _ r1.lt (nw _ jO) jO jO),fun _=>r2 ef⟩
  ·rw[i4,i5];exact x.us.au jO P (fun c f q1 q2=>kk c f (nw c jO) jO jO)
  ·intro r v;rw[i7];exact(bD r v).au jO Ls (fun c f q1 q2=>(k4 c (fun q=>by rw[q]at q2;omega)).trans (k c f (j c jO)))
  ·rw[i6];exact o2.au u0 (fun b i=>k4 b (u5 i))
  ·intro b i;rcases ib b i with w|w
   ·exact(P b (x.out.lt w)).trans (x.lo b w)
   ·show(if b<J then L b else 19)=19;rw[if_neg jO]
 obtain⟨a7,c7,N⟩:=o2.len;rw[N];rcases f with ⟨l,u8⟩|⟨l,rfl,v3,U⟩|⟨r,l,rfl,Q,v8⟩
 ·have z:(K !=0)=true:=by rw[bne_iff_ne];exact u8
  refine jA (aI @g2 (aI @z (aI @X (aI @or_true @true_and)))) ?_;refine aN aE (EH (Y:=Y) (d:=d+3) (get_eq _ _ _) v2 K) jO (fun b _ i=> .inr (by have i:b=m.a:=i;rw[i];exact X)) fun v4 y n4 u0 v9 u6=> ?_;obtain⟨rfl,g4,k4⟩:=u6;refine(kE _).2 ?_;refine G y _ _ (ah _) (fun c f=>(k4 c f).trans (aw _ _ f)) rfl rfl ?_ rfl rfl (by show e.out++m4 _ _=_;rw[ht]) ?_ ?_ ?_
  ·show(dN e.c o).A=_;unfold dN;rw[l]
  ·show(dN e.c o).u=_;unfold dN;rw[l]
  ·rw[g4];unfold iT sE dN;rw[l,<-N];rfl
  ·intro r v;have:(dN e.c o).op=some r:=v;unfold dN at this;rw[l]at this;cases this
 ·have z:((0:Int) !=0)=false:=rfl;have a:=zT (Y:=Y) (d:=d+3) (U.au (h':=D.set m.a (some ⟨132,true,[jI (win:Int),jI (lim:Int),.bool e.ended,jP m.p 0,jP m.um.a 0,jP m.oa 0,.bool e.short,.slice a7 (e.out++t).length c7,.bool false,jI 0,jI (e.steps:Int)]⟩)) u1 (by rw[aw _ _ (fun q=>by have:=p.li;rw[q]at this;omega)];exact k _ U.lt (j _ (by have:=p.li;omega))) (by rw[aw _ _ (fun q=>by have:=p.ll;rw[q]at this;omega)];exact k _ U.su (j _ (by have:=p.ll;omega))) (fun b i=>i.not_nil.elim)) ok (ah _);rw[decide_eq_true rfl]at a;have E:=(k m.oa (by have:=p.lt;omega) (j _ (by have:=p.la;omega))).trans v3;have u7:m.oa<n2:=by have:=p.lt;omega
  have T:m.oa≠m.a:=fun q=>by have:=p.la;rw[q]at this;omega
  unfold sC at E;refine jA (aI @g2 (aI @z (aI @E (aI @T (aI @X (aI @or_true @true_and)))))) ?_;refine bz a jO (fun _ _ h=>h.elim) ?_;refine jA (aI @X (aI @or_true @true_and)) ?_;refine G _ _ _ (ah _) (fun c f=>by rw[aw _ _ f,aw _ _ f]) rfl rfl ?_ rfl rfl (by show e.out++m4 _ _=_;rw[ht]) ?_ ?_ ?_
  ·show(dN e.c o).A=_;unfold dN;rw[l]
  ·show(dN e.c o).u=_;unfold dN;rw[l]
  ·rw[get_eq];unfold iT sE dN;rw[l,<-N];show _=some (AB.mk _ _ [_,_,_,_,_,_,_,_,.bool (gO e.c.fin),jI (mB e.c.fin),_]);rw[ef];rfl
  ·intro r v;have:(dN e.c o).op=some r:=v;unfold dN at this;rw[l]at this;cases this
 ·have z:((0:Int) !=0)=false:=rfl;have xi:=Q.inv;have a:=zT (Y:=Y) (d:=d+3) (xi.au (h':=D.set m.a (some ⟨132,true,[jI (win:Int),jI (lim:Int),.bool e.ended,jP m.p 0,jP m.um.a 0,jP m.oa 0,.bool e.short,.slice a7 (e.out++t).length c7,.bool false,jI 0,jI (e.steps:Int)]⟩)) u1 (by rw[aw _ _ (fun q=>by have:=p.li;rw[q]at this;omega)];exact k _ xi.lt (j _ (by have:=p.li;omega))) (by rw[aw _ _ (fun q=>by have:=p.ll;rw[q]at this;omega)];exact k _ xi.su (j _ (by have:=p.ll;omega))) (fun b i=>i.not_nil.elim)) ok jO;rw[decide_eq_false jO]at a;have E:=(k m.oa (by have:=p.lt;omega) (j _ (by have:=p.la;omega))).trans Q.get;have u7:m.oa<n2:=by have:=p.lt;omega
  have T:m.oa≠m.a:=fun q=>by have:=p.la;rw[q]at this;omega
  unfold sC at E;refine jA (aI @g2 (aI @z (aI @E (aI @T (aI @X (aI @or_true @true_and)))))) ?_;refine bz a jO (fun _ _ h=>h.elim) ?_;refine jA (aI @X (aI @or_true @true_and)) ?_;refine G _ _ _ (ah _) (fun c f=>by rw[aw _ _ f]) rfl rfl ?_ rfl rfl (by show e.out++m4 _ _=_;rw[ht]) ?_ ?_ ?_
  ·show(dN e.c o).A=_;unfold dN;rw[l]
  ·show(dN e.c o).u=_;unfold dN;rw[l]
  ·rw[get_eq];unfold iT sE dN;rw[l,<-N];show _=some (AB.mk _ _ [_,_,_,_,_,_,_,_,.bool (gO e.c.fin),jI (mB e.c.fin),_]);rw[ef];rfl
  ·intro u4 v;have:(dN e.c o).op=some u4:=v;unfold dN at this;rw[l]at this;cases this;exact Q
end
def EI(e:Ex)(a:Int):Ex:={e with c:={e.c with fin:=some a}}
def alp(e:Ex)(a:Us)(w b:Nat):Ex:={e with c:={e.c with u:=a,A:=e.c.A+w,op:=if b=1 then some mA else none},ru:=a,wr:=0,D:=(e.c.A+w)/8}
def jV(e:Ex):List Bool:=ar (e.F.drop e.D) e.D e.c.A
def EJ(Z:Nat)(e:Ex)(v:Value)(c:Ex):Prop:=match c8 Z e.c.u e.c.A (jV e)with
 | .short=>if e.ended=true then v= .bool true∧c={EI e 24 with D:=e.c.A/8}else v= .bool false∧c={e with short:=true,D:=e.c.A/8}
 | .bad d=>v= .bool true∧∃a B,c={EI e d with ru:=a,wr:=d,D:=B/8}∧8*e.D<=B∧B<=8*e.F.length∧a.level<=9∧∀b,a.bc=some b->b.Bd (a.level*Z)
 | .ok (f,a) w=>v= .bool true∧c=alp e a w f∧e.c.A+w<=8*e.F.length
def xa(Z:Nat)(e:Ex)(v:Value)(a:Ex):Prop:=if e.ended=true∧e.c.u.may=true∧(jV e).length=0 then v= .bool true∧a=EI e 0 else EJ Z e v a
noncomputable def xb (r:RT) (a:Value):M Value:=an a fun b=>ay 4 b fun c=>aQ c fun d=>an a fun e=>ay 3 e fun f=>aQ f fun g=>ai r 99 [d,g] fun h=>aV h 0 fun i=>aV h 1 fun j=>an a fun b=>ay 3 b fun c=>aQ c fun d=>ai r 119 [d] fun e=>cD j (ii 3) fun b=>aA b (an a fun c=>ay 2 c fun d=>aQ d fun e=>dC e fun f=>aA f (an a fun b=>ay 6 b fun c=>aK c bT fun _=>ag [bF]) (cD j (ii 3) fun b=>aA b (ai r 117 [a,(ii 24)] fun c=>ag [bT]) (fA j (ii 0) fun c=>aA c (ai r 117 [a,j] fun d=>ag [bT]) (cD i (ii 1) fun d=>aA d (an a fun e=>ay 4 e fun g=>aQ g fun h=>ai r 121 [h] fun l=>ai r 120 [l] fun m=>an a fun n=>ay 5 n fun o=>aK o m fun _=>ag [bT]) (ag [bT]))))) (cD j (ii 3) fun b=>aA b (ai r 117 [a,(ii 24)] fun c=>ag [bT]) (fA j (ii 0) fun c=>aA c (ai r 117 [a,j] fun d=>ag [bT]) (cD i (ii 1) fun d=>aA d (an a fun e=>ay 4 e fun f=>aQ f fun g=>ai r 121 [g] fun h=>ai r 120 [h] fun l=>an a fun m=>ay 5 m fun n=>aK n l fun _=>ag [bT]) (ag [bT]))))
theorem alq(Y:Nat)(r:RT)(a:Value):HB Y r a=an a fun b=>ay 2 b fun c=>aQ c fun d=>aA d (an a fun e=>ay 4 e fun f=>aQ f fun g=>ai r 97 [g] fun h=>aA h (an a fun i=>ay 3 i fun j=>aQ j fun l=>ai r 98 [l] fun m=>cD m (ii 0) fun n=>aA n (ai r 117 [a,(ii 0)] fun b=>ag [bT]) (xb r a)) (xb r a)) (xb r a):=rfl
section
variable {Y d n Z win lim:Nat} {h:H} {L:Nat->Nat} {e:Ex} {m:Xm}
theorem alr(x:cN h n L Z win lim e m)(ef:e.c.fin=none)(eo:e.c.op=none)(hr:e.ru=e.c.u)(hw:e.wr=0)(ko:mT Z e.c.A e.c.u)(hD:e.D<=e.F.length)(hg:∀u' w,c8 Z e.c.u e.c.A (jV e)= .ok (1,u') w->zX u'.aS)(hA:e.c.A<=1000000000000000)(u9:3000000<=Y):af (WX L) n
 (xb (aj aa gt Y (d+15)) (jP m.a 0))
 h n fun v' h' n'=>∃p,EJ Z e v' p∧kL L n Z win lim m p h' n':=by
 have g:=x.get;have ha:=x.lt;have la:=x.la;have lp:=x.lp;obtain⟨B0,r1,r2⟩:=x.rd;obtain rfl:=r2 ef;have y:=x.us;rw[hr,hw]at y;have fl:=x.fl ef;unfold iT at g;rw[ef,eo]at g;simp only[gO,mB,lC]at g;have wa:WX L m.a:=pP la jD jD;have x4:(e.F.drop e.D).length=e.F.length-e.D:=bC
 have u4:∀{B:Nat},8*e.D<=B->(e.F.drop e.D).drop (B/8-e.D)=e.F.drop (B/8):=fun{B} hB=>by rw[jf];congr 1;omega
 have l:∀(i:H) (R:Nat) (L4:Nat->Nat) (p:Ex) (z:Um) (K:Nat) (J:Om),n<=R->(∀c,c<n->L4 c=L c)->(∀c,c<n->L c=19->i.get c=h.get c)->(∃B,aY i R m.p (p.F.drop p.D) p.D B∧(p.c.fin=none->B=p.c.A))->dX i R L4 m.p Z p.ru z p.wr->(p.c.fin=none->z.bm.Fl)->(∀o,p.c.op=some o->mZ i R L4 K J p.c.u.aS o)->p.out=e.out->i.get m.a=some (iT win lim p ⟨m.a,m.p,z,K,J,m.ov⟩)->kL L n Z win lim m p i R:=fun i R L4 p z K J hn hL hk rd us fl op u6 g4=>⟨L4,⟨m.a,m.p,z,K,J,m.ov⟩,hL,rfl,⟨g4,fP ha hn,(hL _ ha).trans la,rd,(hL _ r1.lt).trans lp,us,fl,op,by rw[u6];exact x.out.au hn (fun b f=>hk b (x.out.lt f) (x.lo b f)),fun b f=>(hL b (x.out.lt f)).trans (x.lo b f)⟩⟩
 have v8:=ai0 (Y:=Y) (d:=d) r1 y fl lp ko hA u9;unfold xb;refine jA @g ?_;refine aN aE v8 (ah _) (fun b _ f=> .inr (by have h1:=f.1;have P:=f.2;unfold WX;omega)) fun v1 h1 n1 u0 v7 s=> ?_;have nw:∀c,10<=L c->¬WU L c:=fun c a q=>by have:=q.2;omega
 have g1:=(v7 m.a ha (nw m.a jO)).trans g;have v5:m.a<n1:=jO;have E:m.p≠m.a:=fun q=>by rw[q]at lp;omega
 have u2:m.a≠m.p:=fun q=>E q.symm;have X:∀c,c<n->L c=19->h1.get c=h.get c:=fun c a j=>v7 c a (nw c jO);unfold EJ;have w3:jV e=ar (e.F.drop e.D) e.D e.c.A:=rfl;rw[w3]at hg⊢;have wp:∀b,b=m.p->WX L b:=fun b f=>by rw[f];exact pP lp jD jD
 cases es:c8 Z e.c.u e.c.A (ar (e.F.drop e.D) e.D e.c.A)with
 |short=>
  rw[es]at s;obtain⟨rfl,v,y1⟩:=s;have U:((3:Int)==3)=true:=rfl;refine jA (aI @bI (aI @ext1 @g1)) ?_;refine aN aE (Lj (Y:=Y) (d:=d+14) v) u0 (fun b _ f=> .inr (wp b f)) fun v2 P n2 u8 v6 D=> ?_;obtain⟨rfl,I,A⟩:=D;rw[u4 v.lo]at I;have u:=(A m.a u2).trans g1;have Q:dX P _ L m.p Z e.c.u m.um 0:=y1.au (ah _) (fun _ _=>rfl) fun c a r i=>A c fun q=>by rw[q]at r;omega
  have k:∀c,c<n->L c=19->P.get c=h.get c:=fun c a j=>(A c (fun q=>by rw[q]at j;omega)).trans (X c a j);cases ee:e.ended with
  |true=>
   rw[ee]at u;refine jA (aI @U (aI @u @eK)) ?_;refine aN aE (EH (Y:=Y) (d:=d+14) u jO 24) jO (fun b _ f=> .inr (by have f:b=m.a:=f;rw[f];exact wa)) fun v3 r n3 u7 u3 C=> ?_;obtain⟨rfl,g3,W⟩:=C;refine(kE _).2 ⟨_,⟨rfl,rfl⟩, ?_⟩;refine l r _ L _ m.um m.oa m.om jO (fun _ _=>rfl) (fun c a j=>(W c (fun q=>by rw[q]at j;omega)).trans (k c a j)) ⟨_,I.au (ah _) (W _ E),fun q=>nomatch q⟩ ?_ (fun q=>nomatch q) (fun o O=> ?_) rfl ?_
   ·show dX _ _ _ _ _ e.ru _ e.wr;rw[hr,hw];exact Q.au (ah _) (fun _ _=>rfl) fun c a r i=>W c fun q=>by rw[q]at i;omega
   ·have:e.c.op=some o:=O;rw[eo]at this;cases this
   ·rw[g3];show _=some (AB.mk _ _ [_,_,.bool e.ended,_,_,lC e.c.op _,_,_,_,_,_]);rw[ee,eo];rfl
  |false=>
   rw[ee]at u;refine jA (aI @U (aI @u (aI @cx (aI @wa (aI @or_true @true_and))))) ?_;refine⟨_,rfl, ?_⟩;refine l _ _ L _ m.um m.oa m.om jO (fun _ _=>rfl) (fun c a j=>(aw _ _ (fun q=>by rw[q]at j;omega)).trans (k c a j)) ⟨_,I.au (ah _) (aw _ _ E),fun _=>rfl⟩ ?_ (fun _=>fl) (fun o O=> ?_) rfl ?_
   ·show dX _ _ _ _ _ e.ru _ e.wr;rw[hr,hw];exact Q.au (ah _) (fun _ _=>rfl) fun c a r i=>aw _ _ fun q=>by rw[q]at i;omega
   ·have:e.c.op=some o:=O;rw[eo]at this;cases this
   ·rw[get_eq];show _=some (AB.mk _ _ [_,_,_,_,_,lC e.c.op _,_,_,.bool (gO e.c.fin),jI (mB e.c.fin),_]);rw[eo,ef];rfl
 |bad er=>
  rw[es]at s;obtain⟨rfl,he,⟨B,v⟩,G,u1,N,T,a2,y1,v9,w9⟩:=s;have U:(er==3)=false:=beq_eq_false_iff_ne.2 jO;have z0:(er !=0)=true:=by rw[bne_iff_ne];omega
  refine jA (aI @bI (aI @ext1 @g1)) ?_;refine aN aE (Lj (Y:=Y) (d:=d+14) v) u0 (fun b _ f=> .inr (wp b f)) fun v2 P n2 u8 v6 D=> ?_;obtain⟨rfl,I,A⟩:=D;rw[u4 v.lo]at I;have u:=(A m.a u2).trans g1;have w0:G m.p=1:=(T _ r1.lt).trans lp;have w2:G m.a=18:=(T _ ha).trans la;have Q:dX P _ G m.p Z u1 N er:=y1.au (ah _) (fun _ _=>rfl) fun c a r i=>A c fun q=>by rw[q]at r;omega
  refine jA (aI @U (aI @z0 @u)) ?_;refine aN aE (EH (Y:=Y) (d:=d+14) u jO er) jO (fun b _ f=> .inr (by have f:b=m.a:=f;rw[f];exact wa)) fun v3 r n3 u7 u3 C=> ?_;obtain⟨rfl,g3,W⟩:=C;have w5:=v.hi;refine(kE _).2 ⟨_,⟨rfl,u1,B,rfl,v.lo,jO,v9,w9⟩, ?_⟩;refine l r _ G _ N m.oa m.om jO T (fun c a j=>(W c (fun q=>by rw[q]at j;omega)).trans ((A c (fun q=>by rw[q]at j;omega)).trans (X c a j))) ⟨_,I.au (ah _) (W _ E),fun q=>nomatch q⟩ ?_ (fun q=>nomatch q) (fun o O=> ?_) rfl ?_
  ·exact Q.au (ah _) (fun _ _=>rfl) fun c a r i=>W c fun q=>by rw[q]at i;omega
  ·have:e.c.op=some o:=O;rw[eo]at this;cases this
  ·rw[g3];show _=some (AB.mk _ _ [_,_,_,_,jP N.a 0,lC e.c.op _,_,_,_,_,_]);rw[a2,eo];rfl
 |ok t w=>
  obtain⟨wh,u1⟩:=t;have v0:=hg u1 w;rw[es]at s v0;obtain⟨rfl,v,G,N,T,a2,y1,f1⟩:=s;have U:((0:Int)==3)=false:=rfl;have z0:((0:Int) !=0)=false:=rfl;have w5:=v.hi;have w1:=v.lo;refine jA (aI @bI (aI @ext1 @g1)) ?_;refine aN aE (Lj (Y:=Y) (d:=d+14) v) u0 (fun b _ f=> .inr (wp b f)) fun v2 P n2 u8 v6 D=> ?_;obtain⟨rfl,I,A⟩:=D;rw[u4 w1]at I;have u:=(A m.a u2).trans g1;have w0:G m.p=1:=(T _ r1.lt).trans lp;have w2:G m.a=18:=(T _ ha).trans la;have Q:dX P _ G m.p Z u1 N 0:=y1.au (ah _) (fun _ _=>rfl) fun c a r i=>A c fun q=>by rw[q]at r;omega
  have k:∀c,c<n->L c=19->P.get c=h.get c:=fun c a j=>(A c (fun q=>by rw[q]at j;omega)).trans (X c a j);by_cases c1:wh=1
  ·subst c1;have z1:(((1:Nat):Int)==1)=true:=rfl;obtain⟨w6,x3⟩:=v0 rfl;refine jA (aI @U (aI @z0 (aI @z1 @u))) ?_;rw[<-a2];refine aN aE (ai1 (Y:=Y) (d:=d+14) Q) jO (fun _ _ h=>h.elim) fun v3 r n3 u7 u3 C=> ?_;subst C;refine aN aE (alb (Y:=Y) (d:=d+11) w6 G u9) jO (fun _ _ h=>h.elim) fun v4 i R x1 w7 w4=> ?_;obtain⟨a5,m5,L5,rfl,b1,xo⟩:=w4;have k4:∀c,c<n2->i.get c=P.get c:=fun c a=>(w7 c jO id).trans (u3 c jO id);have g4:=(k4 m.a v5).trans u;have x2:m.a<R:=jO;have u5:∀c,c<n2->L5 c=G c:=fun c a=>b1 c jO;refine jA (aI @g4 (aI @wa (aI @or_true @true_and))) ?_;refine⟨_,⟨rfl,jO⟩, ?_⟩;refine l _ _ L5 _ N a5 m5 jO (fun c a=>(u5 c jO).trans (T c a)) (fun c a j=>(aw _ _ (fun q=>by rw[q]at j;omega)).trans ((k4 c jO).trans (k c a j))) ⟨_,I.au jO ((aw _ _ E).trans (k4 _ (by have:=r1.lt;omega))),fun _=>rfl⟩ ?_ (fun _=>f1) (fun o O=> ?_) rfl ?_
   ·exact Q.au jO u5 fun c a r i=>(aw _ _ fun q=>by rw[q]at i;omega).trans (k4 c a)
   ·have:some mA=some o:=O;cases this;refine xo.au (ah _) (fun _ _=>rfl) fun c a r i=>aw _ _ fun q=> ?_;have:=u5 m.a v5;rw[q]at i;omega
   ·rw[get_eq];show _=some (AB.mk _ _ [_,_,_,_,jP N.a 0,_,_,_,.bool (gO e.c.fin),jI (mB e.c.fin),_]);rw[a2,ef];rfl
  ·have z1:(((wh:Nat):Int)==1)=false:=beq_eq_false_iff_ne.2 jO;refine jA (aI @U (aI @z0 @z1)) ?_;refine⟨_,⟨rfl,jO⟩, ?_⟩;refine l _ _ G _ N m.oa m.om jO T k ⟨_,I,fun _=>rfl⟩ Q (fun _=>f1) (fun o O=> ?_) rfl ?_
   ·have:(if wh=1 then some mA else none)=some o:=O;rw[if_neg c1]at this;cases this
   ·rw[u];show _=some (AB.mk _ _ [_,_,_,_,jP N.a 0,lC (if wh=1 then some mA else none) _,_,_,.bool (gO e.c.fin),jI (mB e.c.fin),_]);rw[a2,ef,if_neg c1];rfl
theorem als(x:cN h n L Z win lim e m)(t:e.c.fin=none)(k:e.c.op=none)(E:e.ru=e.c.u)(D:e.wr=0)(K:mT Z e.c.A e.c.u)(R:e.D<=e.F.length)(Q:∀u w,c8 Z e.c.u e.c.A (jV e)= .ok (1,u) w->zX u.aS)(T:e.c.A<=1000000000000000)(s:3000000<=Y):af (WX L) n (aj aa gt Y (d+16) 89 #[jP m.a 0]) h n fun j h' n'=>∃a,xa Z e j a∧kL L n Z win lim m a h' n':=by
 have rest:=alr (Y:=Y) (d:=d) x t k E D K R Q T s;have g:=x.get;have G:=x.lt;have C:=x.la;have B:=x.lp;obtain⟨B0,v,J⟩:=x.rd;obtain rfl:=J t;have y:=x.us;rw[E,D]at y;unfold iT at g;rw[t,k]at g;simp only[gO,mB,lC]at g;have A:=aiM (Y:=Y) (d:=d+14) y
 have P:(e.c.u.ended&&decide (e.c.u.due=0)&&decide (e.c.u.at_=0)&&decide ((0:Int)=0))=e.c.u.may:=by unfold Us.may;rw[decide_eq_true rfl,Bool.and_true]
 rw[P]at A;have no:¬(e.ended=true∧e.c.u.may=true∧(jV e).length=0)->af (WX L) n (xb (aj aa gt Y (d+15)) (jP m.a 0)) h n fun j h' n'=>∃a,xa Z e j a∧kL L n Z win lim m a h' n':=fun q=>rest.mono fun j h' n' _ ⟨a,q1,q2⟩=>⟨a,by unfold xa;rw[if_neg q];exact q1,q2⟩;rw[aC (fun _=>QL) rfl];refine af.aB ?_;rw[alq];cases i:e.ended with
 |false=>have no:=no (fun q=>by rw[i]at q;exact aai q.1);rw[i]at g;refine jA @g ?_;exact no
 |true=>
  rw[i]at g;refine jA @g ?_;refine bz A (ah _) (fun _ _ h=>h.elim) ?_;cases I:e.c.u.may with
  |false=>have no:=no (fun q=>by rw[I]at q;exact aai q.2.1);refine jA @g ?_;exact no
  |true=>
   refine jA @g ?_;refine bz (DN (Y:=Y) (d:=d+13) v) (ah _) (fun _ _ h=>h.elim) ?_;by_cases c:(jV e).length=0
   ·have z:((((ar (e.F.drop e.D) e.D e.c.A).length:Nat):Int)==0)=true:=by have:(ar (e.F.drop e.D) e.D e.c.A).length=0:=c;rw[this];rfl
    refine jA @z ?_;refine aN aE (EH (Y:=Y) (d:=d+14) g G 0) (ah _) (fun b _ f=> .inr (by have f:b=m.a:=f;rw[f];exact pP C jD jD)) fun v3 W n3 O u0 p=> ?_;obtain⟨rfl,X,l⟩:=p;refine(kE _).2 ⟨EI e 0,by unfold xa;rw[if_pos ⟨i,I,c⟩];exact⟨rfl,rfl⟩,L,m,fun _ _=>rfl,rfl, ?_⟩;have r:m.p≠m.a:=fun q=>by rw[q]at B;omega
    refine⟨?_,G,C,⟨_,v.au (ah _) (l _ r),fun q=>nomatch q⟩,B, ?_,fun q=>(nomatch q),fun o N=> ?_,x.out.au (ah _) (fun b f=>l b (fun q=>by have:=x.lo b f;rw[q]at this;omega)),x.lo⟩
    ·rw[X];show _=some (AB.mk _ _ [_,_,.bool e.ended,_,_,lC e.c.op _,_,_,_,_,_]);rw[i,k];rfl
    ·exact x.us.au (ah _) (fun _ _=>rfl) fun c hc W U=>l c fun q=>by rw[q]at U;omega
    ·have:e.c.op=some o:=N;rw[k]at this;cases this
   ·have z:((((ar (e.F.drop e.D) e.D e.c.A).length:Nat):Int)==0)=false:=by rw[beq_eq_false_iff_ne];have:(ar (e.F.drop e.D) e.D e.c.A).length≠0:=c;omega
    have no:=no (fun q=>c q.2.2);refine jA (aI @z @g) ?_;exact no
end
def hZ(win:Nat)(e:Ex)(T:List UInt8):Nat:=if e.ended=true∨gO e.c.fin=true then 0 else min T.length (win-(e.F.length-e.D))
def fY(win:Nat)(e:Ex)(T:List UInt8):Ex:=if e.ended=true∨gO e.c.fin=true then e else{e with F:=e.F++T.take (hZ win e T),short:=if 0<hZ win e T then false else e.short}
def lD(e:Ex):Ex:=if e.ended=true then e else{e with ended:=true,short:=false}
def takeN(e:Ex)(most:Int):Nat:=min most.toNat e.out.length
section
variable {Y d n Z win lim:Nat} {h:H} {L:Nat->Nat} {e:Ex} {m:Xm}
theorem cN.done(x:cN h n L Z win lim e m):af (fun _=>False) n (aj aa gt Y (d+1) 31 #[jP m.a 0]) h n fun v h' n'=>v= .bool (gO e.c.fin)∧h'=h∧n'=n:=by have g:=x.get;have a:=x.lt;unfold iT at g;rw[aC (fun _=>P4) rfl];refine af.aB ?_;unfold Hj;exact jC @g
theorem cN.err(x:cN h n L Z win lim e m):af (fun _=>False) n (aj aa gt Y (d+1) 32 #[jP m.a 0]) h n fun v h' n'=>v=jI (mB e.c.fin)∧h'=h∧n'=n:=by have g:=x.get;have a:=x.lt;unfold iT at g;rw[aC (fun _=>P5) rfl];refine af.aB ?_;unfold Hk;exact jC @g
theorem cN.steps(x:cN h n L Z win lim e m):af (fun _=>False) n (aj aa gt Y (d+1) 38 #[jP m.a 0]) h n fun v h' n'=>v=jI (e.steps:Int)∧h'=h∧n'=n:=by have g:=x.get;have a:=x.lt;unfold iT at g;rw[aC (fun _=>Qa) rfl];refine af.aB ?_;unfold Hm;exact jC @g
theorem cN.waiting(x:cN h n L Z win lim e m):af (fun _=>False) n (aj aa gt Y (d+1) 36 #[jP m.a 0]) h n fun v h' n'=>v=jI ((e.out.length:Nat):Int)∧h'=h∧n'=n:=by have g:=x.get;have b:=x.lt;obtain⟨f,c,a⟩:=x.out.len;unfold iT at g;rw[a]at g;rw[aC (fun _=>adm) rfl];refine af.aB ?_;unfold P9;exact jC @g
theorem cN.put(x:cN h n L Z win lim e m){h':H}{a:Ex}(g:h'.get m.a=some (iT win lim a m))(d:∀c,c≠m.a->h'.get c=h.get c)(h1:a.F=e.F)(h2:a.D=e.D)(f:a.c=e.c)(u:a.ru=e.ru)(t:a.wr=e.wr)(s:a.out=e.out):cN h' n L Z win lim a m:=by
 have p:=x.la;have i:=x.lp;obtain⟨B,l,k⟩:=x.rd;refine⟨g,x.lt,p,⟨B, ?_,by rw[f];exact k⟩,i, ?_,by rw[f];exact x.fl,fun o j=> ?_, ?_,x.lo⟩
 ·rw[h1,h2];exact l.au (ah _) (d _ (fun q=>by rw[q]at i;omega))
 ·rw[u,t];exact x.us.au (ah _) (fun _ _=>rfl) fun c _ q1 q2=>d c fun q=>by rw[q]at q2;omega
 ·rw[f]at j⊢;exact(x.op o j).au (ah _) (fun _ _=>rfl) fun c _ q1 q2=>d c fun q=>by rw[q]at q2;omega
 ·rw[s];exact x.out.au (ah _) fun b r=>d b fun q=>by have:=x.lo b r;rw[q]at this;omega
theorem cN.end_(x:cN h n L Z win lim e m):af (WX L) n (aj aa gt Y (d+1) 82 #[jP m.a 0]) h n fun v h' n'=>v=jI (if e.ended=true then 7 else 0)∧n'=n∧cN h' n L Z win lim (lD e) m:=by
 have g:=x.get;have j:=x.lt;have i:WX L m.a:=pP x.la jD jD;unfold iT at g;rw[aC (fun _=>QD) rfl];refine af.aB ?_;unfold Hw lD;cases f:e.ended with
 |true=>
  rw[f]at g;try simp(disch:=first|omega|assumption) only[Nat.reduceAdd,Nat.reduceLT,RZ,g,if_pos]
  exact x
 |false=>rw[f]at g;have a:¬(false=true):=aai;rw[if_neg a,if_neg a];refine jA (aI @g (aI @i (aI @or_true @true_and))) ?_;refine x.put ?_ (fun c b=>by rw[aw _ _ b,aw _ _ b]) rfl rfl rfl rfl rfl rfl;rw[get_eq];rfl
theorem cN.take(x:cN h n L Z win lim e m)(most:Int)(K:e.out.length<=1000000):af (WX L) n (aj aa gt Y (d+1) 83 #[jP m.a 0,jI most]) h n fun v h' n'=>v= .string ⟨(bS (e.out.take (takeN e most))).toArray⟩∧n'=n∧∃ov,cN h' n L Z win lim {e with out:=e.out.drop (takeN e most)} {m with ov:=ov}:=by
 have g:=x.get;have I:=x.lt;have l:=x.la;have D:=x.lp;have z:WX L m.a:=pP l jD jD;obtain⟨B,C,A⟩:=x.rd;obtain⟨Q,O,a⟩:=x.out.len;unfold iT at g;rw[aC (fun _=>QE) rfl];refine af.aB ?_;unfold Hx takeN;by_cases y:most<1
 ·have J:min most.toNat e.out.length=0:=jO;rw[J];refine jA @y ?_;exact⟨rfl,m.ov,x⟩
 ·obtain⟨t,E⟩:∃t,min most.toNat e.out.length=t:=⟨_,rfl⟩;have s:t<=e.out.length:=jO;have k:(if((e.out.length:Nat):Int)<most then((e.out.length:Nat):Int)else most)=(t:Int):=by split<;>omega
  rw[E];have j:=g;rw[a]at j;refine jA (aI @y (aI @j @k)) ?_;rw[<-a];refine x.out.front s .i64 _ ?_;refine jA @j ?_;rw[<-a];refine x.out.drop s .i64 _ fun ov u i=> ?_;obtain⟨P,N,f⟩:=u.len;rw[f];refine jA (aI @j (aI @z (aI @or_true @true_and))) ?_;refine⟨ov, ?_⟩;have ne:∀{c},L c≠18->c≠m.a:=fun G q=>G (q▸l);refine⟨?_,I,l,⟨B,C.au (ah _) (aw _ _ (ne jO)),A⟩,D,x.us.au (ah _) (fun _ _=>rfl) fun c _ q1 q2=>aw _ _ (ne jO),x.fl,fun o p=>(x.op o p).au (ah _) (fun _ _=>rfl) fun c _ q1 q2=>aw _ _ (ne jO),u.au (ah _) fun b r=>aw _ _ (ne (by have:=x.lo b (i b r);omega)),fun b r=>x.lo b (i b r)⟩;rw[get_eq,<-f];rfl
theorem cN.held(x:cN h n L Z win lim e m)(hF:e.F.length<=1000000000)(bd:∀b,e.ru.bc=some b->b.Bd (e.ru.level*Z))(lv:e.ru.level<=9)(K:Z<=100000)(hl:e.out.length<=1000000)(bD:∀o,e.c.op=some o->e.ru.bc=none∧e.c.u.aS.last.length<=9*Z):af (fun _=>False) n (aj aa gt Y (d+6) 35 #[jP m.a 0]) h n fun v _ _=>∃N:Nat,v=jI (N:Int)∧N<=(e.F.length-e.D)+e.out.length+18*Z+34400:=by
 have g:=x.get;have p:=x.lt;obtain⟨B,G,r2⟩:=x.rd;obtain⟨a7,c7,u⟩:=x.out.len;unfold iT at g;rw[u]at g;have u0:(e.F.drop e.D).length=e.F.length-e.D:=bC;rw[aC (fun _=>adl) rfl];refine af.aB ?_;unfold P8;refine jB ?_;refine gI trivial m.a 3 _ g p (ah _) rfl fun T1 t1=> ?_;refine jB ?_;refine lP aE (Zd (Y:=Y) (d:=d+4) G) (ah _) fun v1 h1 n1 T2 P X t l=> ?_;obtain⟨rfl,rfl,rfl⟩:=t;refine jB ?_;refine gI trivial m.a 4 _ g p (ah _) rfl fun T3 C=> ?_;refine jB ?_;refine lP aE (alk (Y:=Y) (d:=d) x.us bd lv K) (ah _) fun v2 h2 I T4 a j s A=> ?_;obtain⟨N,rfl,hN,y⟩:=s;have f:=(j m.a p).trans g;have U:m.a<I:=jO;have E:IntKind.i64.wrap ((((e.F.drop e.D).length:Nat):Int)+(N:Int))=(((e.F.drop e.D).length+N:Nat):Int):=by rw[aH jO jO];rfl
 have z:IntKind.i64.wrap ((((e.F.drop e.D).length+N:Nat):Int)+((e.out.length:Nat):Int))=(((e.F.drop e.D).length+N+e.out.length:Nat):Int):=by rw[aH jO jO];rfl
 refine jA @E ?_;refine gI trivial m.a 7 _ f p a rfl fun T5 k=> ?_;cases q:e.c.op with
 |none=>
  rw[q]at f;simp only[lC]at f;try simp(disch:=first|omega|assumption) only[Nat.reduceAdd,Nat.reduceLT,RZ,z,l.cA C,l.cA k,A.cA k,cx,eA,dQ,f]
  exact⟨_,rfl,jO⟩
 |some o=>
  rw[q]at f;simp only[lC]at f;obtain⟨T,Q⟩:=bD o q;have W:=y T;have r:=(x.op o q).au a (fun _ _=>rfl) (fun c R _ _=>j c R);have i:=r.get;have O:=r.lt;unfold sC at i;have J:=alm (Y:=Y) (d:=d+4) r.inv jO;have D:IntKind.i64.wrap ((((e.F.drop e.D).length+N+e.out.length:Nat):Int)+((2*e.c.u.aS.last.length:Nat):Int))=(((e.F.drop e.D).length+N+e.out.length+2*e.c.u.aS.last.length:Nat):Int):=by rw[aH jO jO];rfl
  try simp(disch:=first|omega|assumption) only[Nat.reduceAdd,Nat.reduceLT,RZ,z,l.cA C,l.cA k,A.cA k,cx,eA,dQ,f,i]
  refine bz J a (fun _ _ h=>h.elim) ?_;refine jA @D ?_;exact⟨_,rfl,jO⟩
theorem cN.feed(x:cN h n L Z win lim e m)(T:List UInt8)(hF:e.F.length+T.length<=1000000000)(hD:e.D<=e.F.length)(hw:e.F.length-e.D<=win)(O:win<=2000000):af (WX L) n (aj aa gt Y (d+2) 40 #[jP m.a 0,.string ⟨T.toArray⟩]) h n fun v h' n'=>v=jI ((hZ win e T:Nat):Int)∧n'=n∧cN h' n L Z win lim (fY win e T) m:=by
 have g:=x.get;have p:=x.lt;have N:=x.la;have t:=x.lp;have R:WX L m.a:=pP N jD jD;obtain⟨B,J,r2⟩:=x.rd;have u4:(e.F.drop e.D).length=e.F.length-e.D:=bC;unfold iT at g;rw[aC (fun _=>Qe) rfl];refine af.aB ?_;unfold Hn;cases f:e.ended with
 |true=>
  have r:hZ win e T=0:=by unfold hZ;rw[if_pos (.inl f)]
  have G:fY win e T=e:=by unfold fY;rw[if_pos (.inl f)]
  rw[f]at g;rw[r,G];refine jA @g ?_;exact⟨rfl,x⟩
 |false=>
  cases j:gO e.c.fin with
  |true=>
   have r:hZ win e T=0:=by unfold hZ;rw[if_pos (.inr j)]
   have G:fY win e T=e:=by unfold fY;rw[if_pos (.inr j)]
   rw[f,j]at g;rw[r,G];refine jA @g ?_;exact⟨rfl,x⟩
  |false=>
   have K:¬(e.ended=true∨gO e.c.fin=true):=by rw[f,j];simp
   obtain⟨k,A⟩:∃k,hZ win e T=k:=⟨_,rfl⟩;have u2:k=min T.length (win-(e.F.length-e.D)):=by rw[<-A];unfold hZ;rw[if_neg K]
   have gx:=g;rw[f,j]at g;have U:IntKind.i64.wrap ((win:Int)-(((e.F.drop e.D).length:Nat):Int))=((win-(e.F.length-e.D):Nat):Int):=by rw[aH jO jO];omega
   have P:(if((win-(e.F.length-e.D):Nat):Int)<((T.length:Nat):Int)then((win-(e.F.length-e.D):Nat):Int)else((T.length:Nat):Int))=(k:Int):=by split<;>omega
   have i1:(0:Int)<=(k:Int):=jO;have i2:(k:Int)<=((T.length:Nat):Int):=jO;refine jA @g ?_;refine gI trivial m.a 0 _ g p (ah _) rfl fun T1 t1=> ?_;refine jB ?_;refine gI trivial m.a 3 _ g p (ah _) rfl fun T2 t2=> ?_;refine jB ?_;refine lP aE (Zd (Y:=Y) (d:=d) J) (ah _) fun v1 h1 n1 T3 u1 u3 y X=> ?_;obtain⟨rfl,rfl,rfl⟩:=y;try simp(disch:=first|omega|assumption) only[Nat.reduceAdd,Nat.reduceLT,RZ,U,P,t1.cA X,cx,eA,dQ,g,i1,i2,cR]
   have W:(T.take k).length=k:=by rw[cO];omega
   refine aN aE (agF (Y:=Y) (d:=d) J (T.take k) (by rw[bE,W];omega)) (ah _) (fun b _ i=> .inr (by have i:b=m.p:=i;rw[i];exact pP t jD jD)) fun v2 C s u0 E u=> ?_;obtain⟨rfl,rfl,Q⟩:=u;have r3:aY C s m.p ((e.F++T.take k).drop e.D) e.D B:=by rw[Fe hD];exact Q
   have ne:∀{c},L c≠1->c≠m.p:=fun a q=>a (q▸t);have l:∀c,c<s->L c≠1->C.get c=h1.get c:=fun c a hl=>E c a (ne hl);have g2:=(l m.a p jO).trans g;have D:=(l m.a p jO).trans gx;have I:cN C s L Z win lim {e with F:=e.F++T.take k} m:=⟨D,p,N,⟨B,r3,r2⟩,t,x.us.au (ah _) (fun _ _=>rfl) fun c a q1 q2=>l c a jO,x.fl,fun o ho=>(x.op o ho).au (ah _) (fun _ _=>rfl) fun c a q1 q2=>l c a jO,x.out.au (ah _) fun b i=>l b (x.out.lt i) (by have:=x.lo b i;omega),x.lo⟩;have fe:fY win e T={e with F:=e.F++T.take k,short:=if 0<k then false else e.short}:=by unfold fY;rw[if_neg K,A]
   rw[fe,A];by_cases c:0<k
   ·have z:(0:Int)<(k:Int):=jO;refine jA (aI @z (aI @g2 (aI @R (aI @or_true @true_and)))) ?_;rw[if_pos c];refine I.put ?_ (fun c a=>aw _ _ a) rfl rfl rfl rfl rfl rfl;rw[get_eq];show some (AB.mk _ _ [_,_,.bool false,_,_,_,_,_,.bool false,_,_])=some (AB.mk _ _ [_,_,.bool e.ended,_,_,_,_,_,.bool (gO e.c.fin),_,_]);rw[f,j]
   ·have z:¬(0:Int)<(k:Int):=jO;refine jA @z ?_;rw[if_neg c];exact I
end
theorem alu{Z A w:Nat}{u c:Us}{bs:List Bool}(k:uK Z A u)(h:c8 Z u A bs= .ok (1,c) w):c.aS.last.length<=9*Z:=by
 obtain⟨ok,i⟩:=k;unfold c8 at h;split at h
 ·cases e:pF u bs with
  |short=>rw[e]at h;cases h
  |bad x=>rw[e]at h;cases h
  |ok a v=>rw[e]at h;cases h
 ·split at h
  ·cases e:qB u bs with
   |short=>rw[e]at h;cases h
   |bad x=>rw[e]at h;cases h
   |ok a v=>rw[e]at h;cases h
  ·split at h
   ·next d2=>
    have lv:=ok.lv jO;have m:=Yq lv.2 ok.u2;unfold pG at h;split at h
    ·cases h
    ·next b g=>
     have f:=i b g;cases e:db (u.level*Z) b bs with
     |short=>rw[e]at h;cases h
     |bad x=>rw[e]at h;cases h
     |ok j l=>
      rw[e]at h;simp only at h;obtain⟨q1,q2,d⟩:=Yo f jO e;split at h
      ·next hd=>cases h;obtain⟨q,p,o,n⟩:=d hd;have:u.level*Z<=9*Z:=qL _ lv.2;show j.last.length<=_;omega
      ·cases h
   ·cases e:qC u A bs with
    |short=>rw[e]at h;cases h
    |bad x=>rw[e]at h;cases h
    |ok a v=>rw[e]at h;cases h
theorem alv{run d b c a:Nat}{t:List Nat}(h:iS run d b=some (t,c,a)):t.length<=251:=by
 unfold iS at h;split at h
 ·split at h
  ·cases h
  ·cases h;rw[List.length_replicate];omega
 ·cases h;exact Nat.le_of_ble_eq_true rfl
theorem Ze{g:Gt}{o:jU}:(m4 g o).length<=251:=by
 unfold m4 gY;cases iz g.last g.bH o.k with
 |nil=>exact aP _
 |cons b r=>
  dsimp only;cases h:iS o.run o.prev b with
  |none=>exact aP _
  |some q=>
   obtain⟨t,a,c⟩:=q;have:=alv h;dsimp only;by_cases f:o.k+1=3*g.last.length
   ·rw[if_pos f];by_cases e:a=4
    ·rw[if_pos e];exact this
    ·rw[if_neg e];by_cases d:iC (o.mz++t)=g.sum
     ·rw[if_pos d];exact this
     ·rw[if_neg d];exact this
   ·rw[if_neg f];exact this
theorem alw{g:Gt}{o a:jU}{t:List Nat}(h:gY g o= .go t a)(b:o.k<3*g.last.length):a.k<3*g.last.length:=by
 unfold gY at h;split at h
 ·next e=>
  cases h;show o.k+1<_
  have:¬2*g.last.length<=o.k:=fun q=>by unfold iz at e;rw[if_pos q]at e;cases e
  omega
 ·split at h
  ·cases h
  ·split at h
   ·split at h
    ·cases h
    ·split at h<;>cases h
   ·next c=>cases h;show o.k+1<_;omega
theorem Lk(S:List UInt8)(Z:Nat):∀(k:Nat) (x:Xc),mY S Z (k+1) x=hY S Z (mY S Z k x)
 |0,_=>rfl
 |k+1,x=>Lk S Z k (hY S Z x)
structure XI (S:List UInt8) (Z win lim K N:Nat) (e:Ex):Prop where
 pre:∃R,S=e.F++R
 all:e.ended=true->e.F=S
 ru:e.c.fin=none->e.ru=e.c.u
 wr:e.c.fin=none->e.wr=0
 us:e.c.fin=none->uK Z e.c.A e.c.u
 A:e.c.A<=8*e.F.length
 D8:e.c.fin=none->e.D=e.c.A/8
 hD:e.D<=e.F.length
 op:∀o,e.c.op=some o->e.c.fin=none∧zX e.c.u.aS∧o.k<3*e.c.u.aS.last.length∧e.c.u.bc=none∧e.c.u.aS.last.length<=9*Z
 sh:e.short=true->e.c.fin=none->e.ended=false∧c8 Z e.c.u e.c.A (ar e.F 0 e.c.A)= .short∧e.c.op=none∧e.D=e.c.A/8
 held:e.F.length-e.D<=win
 out:e.out.length<=lim+250
 lv:e.ru.level<=9
 bd:∀b,e.ru.bc=some b->b.Bd (e.ru.level*Z)
 run:e.c=mY S Z N x0
 st:N<=K
section
variable {S:List UInt8} {Z win lim K N:Nat} {e:Ex}
theorem XI.rest(i:XI S Z win lim K N e)(a:e.c.fin=none):jV e=ar e.F 0 e.c.A:=by have h:=i.D8 a;have:=alf (S:=e.F) (D:=0) (k:=e.D) (A:=e.c.A) jO;rw[fy]at this;exact this
theorem alx{F R:List UInt8}{A:Nat}(h:A<=8*F.length):ar (F++R) 0 A=ar F 0 A++dS R:=by rw[uO,uO,W8,Fe (by rw[zy];exact h)]
theorem XI.lt{t:List Nat}{d:Int}(i:XI S Z win lim K N e)(c:cY S Z K x0 t d)(f:e.c.fin=none):N<K:=by
 rcases pQ N K with q|q
 ·exact q
 ·exfalso;have:N=K:=Nat.le_antisymm i.st q;have b:=i.run;rw[this]at b;have a:=c.1;rw[<-b,f]at a;cases a
theorem aly{t:List Nat}{k:Int}{o:jU}(i:XI S Z win lim K N e)(p:cY S Z K x0 t k)(l:e.c.op=some o)(m:e.short=false)(z:e.out.length<lim):XI S Z win lim K (N+1) (sE e o):=by
 obtain⟨d,s,n,bn,r⟩:=i.op o l;have j:=i.lt p d;have y:=Ze (g:=e.c.u.aS) (o:=o);have b:(sE e o).c=dN e.c o:=rfl
 have f:(dN e.c o).u=e.c.u∧(dN e.c o).A=e.c.A:=by unfold dN;cases gY e.c.u.aS o<;>exact⟨rfl,rfl⟩
 have run:(sE e o).c=mY S Z (N+1) x0:=by rw[Lk,<-i.run,b];unfold hY;rw[l]
 refine⟨i.pre,i.all,fun _=> ?_,fun _=>i.wr d,fun _=> ?_, ?_,fun _=> ?_,i.hD,fun x a=> ?_,fun q=> ?_,i.held, ?_,i.lv,i.bd,run,j⟩
 ·rw[b,f.1];exact i.ru d
 ·rw[b,f.1,f.2];exact i.us d
 ·rw[b,f.2];exact i.A
 ·rw[b,f.2];exact i.D8 d
 ·rw[b,f.1];rw[b]at a;unfold dN at a⊢;cases h:gY e.c.u.aS o with
  |fail t k=>rw[h]at a;cases a
  |fin t=>rw[h]at a;cases a
  |go t v=>rw[h]at a;cases a;exact⟨d,s,alw h n,bn,r⟩
 ·have:e.short=true:=q;rw[m]at this;cases this
 ·show(e.out++m4 _ _).length<=_;rw[bE];omega
theorem alz{t:List Nat}{er:Int}{v:Value}{a:Ex}(i:XI S Z win lim K N e)(hK:cY S Z K x0 t er)(z:e.c.fin=none)(T:e.c.op=none)(k:e.short=false)(r:xa Z e v a):
 (v= .bool true∧XI S Z win lim K (N+1) a∧a.short=false∧a.out=e.out∧a.F=e.F∧a.ended=e.ended∧a.steps=e.steps∧a.c.tot=e.c.tot)∨(v= .bool false∧XI S Z win lim K N a∧a.short=true∧a.c=e.c∧a.out=e.out∧a.F=e.F∧a.ended=e.ended∧a.steps=e.steps):=by
 have u:=i.lt hK z;have f:=i.rest z;have X:=i.us z;have d8:=i.D8 z;have iA:=i.A;obtain⟨R,hR⟩:=i.pre
 have next:∀{x:Xc},lB S Z e.c=x->x=mY S Z (N+1) x0:=fun{x} h=>by rw[Lk,<-i.run,<-h];unfold hY;rw[T]
 have more:ar S 0 e.c.A=jV e++dS R:=by rw[f,hR,alx iA]
 have u2:∀{c:Bool},e.short=true->c=true:=fun h=>by rw[k]at h;cases h
 have stop:∀(d:Ex) (m:Int),d.c={e.c with fin:=some m}->lB S Z e.c={e.c with fin:=some m}->d.F=e.F->d.ended=e.ended->d.out=e.out->d.short=e.short->e.D<=d.D->d.D<=e.F.length->d.ru.level<=9->(∀b,d.ru.bc=some b->b.Bd (d.ru.level*Z))->XI S Z win lim K (N+1) d:=by
  intro d m y h2 l O h5 h6 h7 h8 h9 P;have C:d.c.fin≠none:=by rw[y];exact fun q=>nomatch q
  refine⟨by rw[l];exact i.pre,by rw[l,O];exact i.all,fun q=>absurd q C,fun q=>absurd q C,fun q=>absurd q C,by rw[y,l];exact iA,fun q=>absurd q C,by rw[l];exact h8,fun o j=> ?_,fun q=> ?_,by rw[l];have:=i.held;omega,by rw[h5];exact i.out,h9,P,by rw[y];exact next h2,u⟩
  ·rw[y]at j;have:e.c.op=some o:=j;rw[T]at this;cases this
  ·rw[h6,k]at q;cases q
 have dA:e.D<=e.c.A/8:=jO;have A:e.c.A/8<=e.F.length:=jO;unfold xa at r;split at r
 ·next c=>
  obtain⟨rfl,rfl⟩:=r;refine .inl ⟨rfl,stop _ 0 rfl ?_ rfl rfl rfl rfl (ah _) i.hD i.lv i.bd,k,rfl,rfl,rfl,rfl,rfl⟩;have J:=i.all c.1;have:ar S 0 e.c.A=jV e:=by rw[f,J]
  unfold lB;rw[if_pos ⟨c.2.1,by rw[this];exact c.2.2⟩]
 ·next c=>
  unfold EJ at r
  have same:c8 Z e.c.u e.c.A (jV e)≠ .short∨e.ended=true->¬(e.c.u.may=true∧(ar S 0 e.c.A).length=0)∧c8 Z e.c.u e.c.A (ar S 0 e.c.A)=c8 Z e.c.u e.c.A (jV e):=fun h=>by
   rcases h with h|h
   ·refine⟨fun q=> ?_,by rw[more];exact ak3 _ h⟩
    have l0:(jV e).length=0:=by have:=q.2;rw[more,bE]at this;omega
    have I:=q.1;unfold Us.may at I;simp only[Bool.and_eq_true,decide_eq_true_eq]at I;apply h;unfold c8 pF;rw[if_pos I.1.2,if_pos jO];rfl
   ·have J:=i.all h;have:ar S 0 e.c.A=jV e:=by rw[f,J]
    rw[this];exact⟨fun q=>c ⟨h,q⟩,rfl⟩
  cases g:c8 Z e.c.u e.c.A (jV e)with
  |short=>
   rw[g]at r;dsimp only at r;split at r
   ·next ee=>obtain⟨rfl,rfl⟩:=r;obtain⟨s,p⟩:=same (.inr ee);refine .inl ⟨rfl,stop _ 24 rfl ?_ rfl rfl rfl rfl dA A i.lv i.bd,k,rfl,rfl,rfl,rfl,rfl⟩;unfold lB;rw[if_neg s,p,g]
   ·next ee=>
    obtain⟨rfl,rfl⟩:=r
    have ee:e.ended=false:=by cases h:e.ended with
     |true=>exact absurd h ee
     |false=>rfl
    refine .inr ⟨rfl,⟨i.pre,i.all,i.ru,i.wr,i.us,i.A,fun _=>rfl,A,i.op,fun _ _=>⟨ee,by rw[<-f];exact g,T,rfl⟩,by show e.F.length-e.c.A/8<=win;have:=i.held;omega,i.out,i.lv,i.bd,i.run,i.st⟩,rfl,rfl,rfl,rfl,rfl,rfl⟩
  |bad e1=>rw[g]at r;obtain⟨rfl,Y,B,rfl,y,h2,l,O⟩:=r;obtain⟨s,p⟩:=same (.inl (by rw[g];exact fun q=>nomatch q));refine .inl ⟨rfl,stop _ e1 rfl ?_ rfl rfl rfl rfl (by show e.D<=B/8;omega) (by show B/8<=_;omega) l O,k,rfl,rfl,rfl,rfl,rfl⟩;unfold lB;rw[if_neg s,p,g]
  |ok q w=>
   obtain⟨W,Y⟩:=q;rw[g]at r;obtain⟨rfl,rfl,L⟩:=r;obtain⟨s,p⟩:=same (.inl (by rw[g];exact fun q=>nomatch q));have len:(jV e).length=8*e.F.length-e.c.A:=by rw[f,fi,sJ,Au]
   obtain⟨q1,q2,q3,_,_⟩:=wV X g (by rw[len];omega);refine .inl ⟨rfl,⟨i.pre,i.all,fun _=>rfl,fun _=>rfl,fun _=>q2,L,fun _=>rfl,by show(e.c.A+w)/8<=e.F.length;omega,fun o j=> ?_,fun q=> ?_,by show e.F.length-(e.c.A+w)/8<=win;have:=i.held;omega,i.out,q2.ok.pH,q2.ok.bd,next ?_,u⟩,k,rfl,rfl,rfl,rfl,rfl⟩
   ·have j:(if W=1 then some mA else none)=some o:=j;by_cases c1:W=1
    ·subst c1;rw[if_pos rfl]at j;cases j;obtain⟨g1,g2,g3⟩:=q3 rfl;have:=g1.1.pos;refine⟨z,g1,by show 0<3*Y.aS.last.length;omega,q2.ok.b0 jO,alu X g⟩
    ·rw[if_neg c1]at j;cases j
   ·have:e.short=true:=q;rw[k]at this;cases this
   ·unfold lB;rw[if_neg s,p,g];rfl
end
theorem Zf(x:Xc)(o:jU):(dN x o).tot=x.tot++m4 x.u.aS o:=by unfold dN m4;cases gY x.u.aS o<;>rfl
section
variable {S:List UInt8} {Z win lim K N:Nat} {e:Ex}
theorem XI.len(i:XI S Z win lim K N e):e.F.length<=S.length:=by obtain⟨R,a⟩:=i.pre;rw[a,bE];omega
theorem XI.aS(i:XI S Z win lim K N e)(b:e.c.fin=none):∀a w,c8 Z e.c.u e.c.A (jV e)= .ok (1,a) w->zX a.aS:=fun a w h=>by
 have c:=i.A;have len:(jV e).length=8*e.F.length-e.c.A:=by rw[i.rest b,fi,sJ,Au]
 exact((wV (i.us b) h (by rw[len];omega)).2.2.1 rfl).1
theorem XI.steps(i:XI S Z win lim K N e)(s:Nat):XI S Z win lim K N {e with steps:=s}:=
 ⟨i.pre,i.all,i.ru,i.wr,i.us,i.A,i.D8,i.hD,i.op,i.sh,i.held,i.out,i.lv,i.bd,i.run,i.st⟩
end
structure Ae (S:List UInt8) (Z win lim K:Nat) (e:Ex) (B:Int) (k:Nat) (e':Ex):Prop where
 le:(k:Int)<=max B 0
 xi:XI S Z win lim K (e.steps+k) e'
 st:e'.steps=e.steps+k
 Zg:k=0∨iU lim e=false
 all:(k:Int)=max B 0∨iU lim e'=true
 F:e'.F=e.F
 ended:e'.ended=e.ended
 out:∃t,e'.out=e.out++t∧e'.c.tot=e.c.tot++t
section
variable {Y d n Z win lim K:Nat} {h:H} {L:Nat->Nat} {e:Ex} {m:Xm} {S:List UInt8} {t:List Nat} {er:Int}
theorem Ll(x:cN h n L Z win lim e m)(i:XI S Z win lim K e.steps e)(hK:cY S Z K x0 t er)(u8:K<=1000000)(hS:S.length<=1000000)(u7:lim<=65536)(B:Int)(T:3000000<=Y):af (WX L) n (aj aa gt Y (d+17) 39 #[jP m.a 0,jI B]) h n fun v h' n'=>∃k a,v=jI ((k:Nat):Int)∧Ae S Z win lim K e B k a∧kL L n Z win lim m a h' n':=by
 rw[aC (fun _=>Qd) rfl];refine af.aB ?_;unfold BZ;obtain⟨y,E⟩:∃y,e.steps=y:=⟨_,rfl⟩
 have WW:∀{N:Nat->Nat} {n':Nat},(∀c,c<n->N c=L c)->∀b,b<n'->WX N b->n<=b∨WX L b:=fun{N n'} Q b _ hb=>by
  by_cases c:b<n
  ·refine .inr ?_;unfold WX at hb⊢;rw[Q b c]at hb;exact hb
  ·exact .inl jO
 have u1:∀(r j G:Nat) (h':H) (n':Nat) (N:Nat->Nat) (m':Xm) (a:Ex),2*(K-(y+j))+(if a.short=true then 0 else 1)<=r->r<G->n<=n'->(∀c,c<n->N c=L c)->m'.a=m.a->cN h' n' N Z win lim a m'->XI S Z win lim K (y+j) a->a.steps=y->(j:Int)<=max B 0->(j=0∨iU lim e=false)->(j=0->a.short=false->iU lim a=iU lim e)->a.F=e.F->a.ended=e.ended->(∃t,a.out=e.out++t∧a.c.tot=e.c.tot++t)->
  af (WX L) n (rD Y (aj aa gt Y (d+16)) G (yk Y (aj aa gt Y (d+16))) (jP m.a 0) (jI B) (ii 0) (jI (j:Int))) h' n' fun v h' n'=>∃k a,v=jI ((k:Nat):Int)∧Ae S Z win lim K e B k a∧kL L n Z win lim m a h' n':=by
  intro r
  induction r using Al with
  |ind r ih=>
   intro j G h' n' N m' a hr hf hn Q g R l C U p z hF D I;obtain⟨G,rfl⟩:∃f,G=f+1:=⟨G-1,jO⟩;have u5:=R.lt;have J:=R.get;have iK:=l.st;have wa:WX L m.a:=pP x.la jD jD
   have stop:((j:Int)=max B 0∨iU lim a=true)->af (WX L) n (yk Y (aj aa gt Y (d+16)) (jP m.a 0) (jI (j:Int))) h' n' fun v h' n'=>∃k a,v=jI ((k:Nat):Int)∧Ae S Z win lim K e B k a∧kL L n Z win lim m a h' n':=fun X=>by
    unfold yk;have w1:IntKind.i64.wrap ((y:Int)+(j:Int))=((y+j:Nat):Int):=by rw[aH jO jO];rfl
    have g2:=J;have u4:=u5;unfold iT at g2;rw[g,C]at g2;rw[g]at u4;refine jA (aI @g2 (aI @w1 (aI @wa (aI @or_true @true_and)))) ?_;refine⟨j,{a with steps:=y+j},rfl,⟨U,by rw[E];exact l.steps _,by rw[E],p,X,hF,D,I⟩,N,m',Q,g,R.put ?_ (fun c W=>aw _ _ (by rw[<-g];exact W)) rfl rfl rfl rfl rfl rfl⟩;rw[g,get_eq];rfl
   rw[rD];by_cases cB:(j:Int)<B
   ·refine jA @cB ?_;rw[<-g];refine bz (EG (Y:=Y) (d:=d+15) R) hn (fun _ _ h=>h.elim) ?_;cases u:iU lim a with
    |true=>refine jA @eK ?_;rw[g];exact stop (.inr u)
    |false=>
     have s:a.c.fin=none:=by
      cases h:a.c.fin with
      |none=>rfl
      |some q=>unfold iU at u;rw[h]at u;cases u
     have lt:=l.lt hK s;have w1:IntKind.i64.wrap ((j:Int)+1)=((j+1:Nat):Int):=by rw[aH jO jO];rfl
     obtain⟨t1,o1,o2⟩:=I;unfold iT at J;cases A:a.c.op with
     |some o=>
      have hl:a.out.length<lim:=by unfold iU at u;rw[s,A]at u;have:=of_decide_eq_false u;omega
      have O:a.short=false:=by
       cases u2:a.short with
       |false=>rfl
       |true=>have:=(l.sh u2 s).2.2.1;rw[A]at this;cases this
      rw[O,if_neg jD]at hr;obtain⟨_,gk,hk,bn,gl⟩:=l.op o A;rw[s,A]at J;simp only[gO,mB,lC]at J;refine jA (aI @J @cx) ?_;refine aN aE (alo (Y:=Y) (d:=d+11) R s A gk.1 gk.2 hk (by have:=l.out;omega) T) hn (WW Q) fun v1 h1 n1 u3 u6 P=> ?_;obtain⟨L1,m1,b1,b2,x1⟩:=P;refine jA @w1 ?_;rw[g];refine ih (2*(K-(y+(j+1)))+1) jO (j+1) G h1 n1 L1 m1 (sE a o) (by split<;>omega) jO jO (fun c W=>(b1 c jO).trans (Q c W)) (b2.trans g) x1 (aly l hK A O hl) C jO (.inr ?_) (fun q=>by omega) hF D ⟨t1++m4 a.c.u.aS o,by show a.out++_=_;rw[o1,dY],by show(dN a.c o).tot=_;rw[Zf,o2,dY]⟩;rcases p with q|q
      ·rw[<-z q O];exact u
      ·exact q
     |none=>
      have O:a.short=false:=by unfold iU at u;rw[s,A]at u;exact u
      rw[O,if_neg jD]at hr;have hA:a.c.A<=1000000000000000:=by have:=l.A;have:=l.len;omega
      rw[s,A]at J;simp only[gO,mB,lC]at J;refine jA (aI @J @cx) ?_;refine aN aE (als (Y:=Y) (d:=d) R s A (l.ru s) (l.wr s) (l.us s).ok l.hD (l.aS s) hA T) hn (WW Q) fun v1 h1 n1 u3 u6 P=> ?_;obtain⟨e1,r1,L1,m1,b1,b2,x1⟩:=P;have u0:∀c,c<n->L1 c=L c:=fun c W=>(b1 c jO).trans (Q c W);rcases alz l hK s A O r1 with ⟨rfl,i1,s1,q1,q2,q3,q4,q5⟩|⟨rfl,i1,s1,q0,q1,q2,q3,q4⟩
      ·refine jA (aI @eK @w1) ?_;rw[g];refine ih (2*(K-(y+(j+1)))+1) jO (j+1) G h1 n1 L1 m1 e1 (by split<;>omega) jO jO u0 (b2.trans g) x1 i1 (q4.trans C) jO (.inr ?_) (fun q=>by omega) (q2.trans hF) (q3.trans D) ⟨t1,q1.trans o1,q5.trans o2⟩;rcases p with q|q
       ·rw[<-z q O];exact u
       ·exact q
      ·refine jA @cx ?_;rw[g];exact ih (2*(K-(y+j))) jO j G h1 n1 L1 m1 e1 (by rw[s1,if_pos rfl];omega) jO jO u0 (b2.trans g) x1 i1 (q4.trans C) U p (fun _ q=>by rw[s1]at q;cases q) (q2.trans hF) (q3.trans D) ⟨t1,q1.trans o1,by rw[q0];exact o2⟩
   ·refine jA @cB ?_;exact stop (.inl jO)
 refine u1 (2*(K-y)+1) 0 Y h n L m e (by split<;>omega) jO (ah _) (fun _ _=>rfl) rfl x (by rw[<-E];exact i) E jO (.inl rfl) (fun _ _=>rfl) rfl rfl ⟨[],by rw[bR],by rw[bR]⟩
end
def Zh:Bm:=⟨0,.slice none 0 0,0,0,⟨0,.slice none 0 0,.slice none 0 0,0,.slice none 0 0,.slice none 0 0,false,false,[]⟩,0,0,.slice none 0 0⟩
def uP:Ex:=⟨x0,zQ,0,0,[],false,false,[],0⟩
theorem alA{Z:Nat}(h1:24<=Z)(h2:Z<=100000):uK Z 0 zQ:=
 ⟨⟨aP _,aP _,fun q=>absurd rfl q,aP _,fun q=>(by cases q),fun _=>rfl,jD,h1,h2⟩,fun b a=>(by cases a)⟩
section
variable {Y d n Z win lim:Nat} {h:H}
theorem alB(win lim:Nat):af (fun _=>False) n (aj aa gt Y (d+1) 84 #[jI (win:Int),jI (lim:Int)]) h n fun v h' n'=>v= .bool (decide ((64<=win∧win<=1048576)∧1<=lim∧lim<=65536))∧h'=h∧n'=n:=by
 rw[aC (fun _=>QF) rfl];refine af.aB ?_;unfold Hy;by_cases a:(64:Int)<=(win:Int)
 ·by_cases b:(win:Int)<=1048576
  ·by_cases c:(1:Int)<=(lim:Int)
   ·by_cases f:(lim:Int)<=65536
    ·have e:decide ((64<=win∧win<=1048576)∧1<=lim∧lim<=65536)=true:=decide_eq_true jO;rw[e];exact jC (aI @a (aI @b (aI @c @f)))
    ·have e:decide ((64<=win∧win<=1048576)∧1<=lim∧lim<=65536)=false:=decide_eq_false jO;rw[e];exact jC (aI @a (aI @b (aI @c @f)))
   ·have e:decide ((64<=win∧win<=1048576)∧1<=lim∧lim<=65536)=false:=decide_eq_false jO;rw[e];exact jC (aI @a (aI @b @c))
  ·have e:decide ((64<=win∧win<=1048576)∧1<=lim∧lim<=65536)=false:=decide_eq_false jO;rw[e];exact jC (aI @a @b)
 ·have e:decide ((64<=win∧win<=1048576)∧1<=lim∧lim<=65536)=false:=decide_eq_false jO;rw[e];exact jC @a
theorem Zi(h1:24<=Z)(h2:Z<=100000)(G:64<=win)(E:win<=1048576)(D:1<=lim)(C:lim<=65536):af (fun _=>False) n (aj aa gt Y (d+3) 29 #[jI (Z:Int),jI (win:Int),jI (lim:Int)]) h n fun v h' n'=>∃L m,v= .tuple #[jP m.a 0,jI 0]∧(∀c,c<n->L c=0)∧cN h' n' L Z win lim uP m:=by
 rw[aC (fun _=>P1) rfl];refine af.aB ?_;unfold Hg;refine jB ?_;refine aN aE (aiL (Y:=Y) (d:=d) h1 h2) (ah _) (fun _ _ h=>h.elim) fun z f B s x e=> ?_;obtain⟨rfl,rfl,l⟩:=e;have k:((0:Int) !=0)=false:=rfl;have i:=alB (Y:=Y) (d:=d+1) (n:=n+1) (h:=f) win lim;rw[decide_eq_true jO]at i;refine jA (aI @bI (aI @ext1 @k)) ?_;refine bz i jO (fun _ _ h=>h.elim) ?_;refine jA @eK ?_;refine aN aE (agE (Y:=Y) (d:=d+1) (S:=[]) (aP _)) jO (fun _ _ h=>h.elim) fun y u A r g a=> ?_;obtain⟨rfl,rfl,p⟩:=a;refine jB ?_;refine gu trivial _ _ ?_;refine jB ?_;refine⟨fun c=>if c=n then 9 else if c=n+1 then 1 else if c=n+1+1 then 18 else 0,⟨n+1+1,n+1,⟨n,Zh⟩,0,⟨0,0,0,0⟩,.slice none 0 0⟩,rfl,fun c j=> ?_, ?_⟩
 ·show(if c=n then 9 else if c=n+1 then 1 else if c=n+1+1 then 18 else 0)=0;rw[if_neg jO,if_neg jO,if_neg jO]
 ·refine⟨get_eq _ _ _,dO _, ?_,⟨0,p.au (eL _) (aw _ _ (by show n+1≠n+1+1;omega)),fun _=>rfl⟩, ?_, ?_,fun _=> ?_,fun o q=>(by cases q),.inl ⟨rfl,rfl⟩,fun b t=>t.not_nil.elim⟩
  ·show(if n+1+1=n then 9 else if n+1+1=n+1 then 1 else if n+1+1=n+1+1 then 18 else 0)=18;rw[if_neg jO,if_neg jO,if_pos rfl]
  ·show(if n+1=n then 9 else if n+1=n+1 then 1 else if n+1=n+1+1 then 18 else 0)=1;rw[if_neg jO,if_pos rfl]
  ·have:=l (fun c=>if c=n then 9 else if c=n+1 then 1 else if c=n+1+1 then 18 else 0) ⟨n,Zh⟩ (n+1) (if_pos rfl) rfl;refine this.au jO (fun _ _=>rfl) fun c j q1 q2=> ?_;rw[aw _ _ jO];exact g c j id
  ·exact⟨rfl,rfl⟩
end
section
variable {S:List UInt8} {Z win lim K N:Nat} {e:Ex}
theorem Zj(h1:24<=Z)(h2:Z<=100000):XI S Z win lim K 0 uP:=
 ⟨⟨S,rfl⟩,fun q=>(by cases q),fun _=>rfl,fun _=>rfl,fun _=>alA h1 h2,aP _,fun _=>rfl,aP _,fun o a=>(by cases a),fun q=>(by cases q),aP _,aP _,aP _,fun b c=>(by cases c),rfl,aP _⟩
theorem alC{at_ m:Nat}(i:XI S Z win lim K N e)(f:at_=e.F.length):XI S Z win lim K N (fY win e ((S.drop at_).take m)):=by
 unfold fY;split
 ·exact i
 ·next hn=>
  obtain⟨k,j⟩:∃k,hZ win e ((S.drop at_).take m)=k:=⟨_,rfl⟩;have a:k=min ((S.drop at_).take m).length (win-(e.F.length-e.D)):=by rw[<-j];unfold hZ;rw[if_neg hn]
  rw[j];obtain⟨R,l⟩:=i.pre;have hd:S.drop at_=R:=by rw[f,l,List.drop_left]
  rw[hd]at a⊢
  have ne:e.ended=false:=by
   cases h:e.ended with
   |false=>rfl
   |true=>exact absurd (.inl h) hn
  have g:((R.take m).take k).length=k:=by rw[cO];omega
  have b:(e.F++(R.take m).take k).length=e.F.length+k:=by rw[bE,g]
  have t:=i.hD;refine⟨⟨R.drop k, ?_⟩,fun q=> ?_,i.ru,i.wr,i.us, ?_,i.D8, ?_,i.op,fun q s=> ?_, ?_,i.out,i.lv,i.bd,i.run,i.st⟩
  ·show S=e.F++(R.take m).take k++R.drop k;have d:k<=m:=by have:=g;rw[a,cO];omega
   rw[l,dY,LP,gZ d,Aq]
  ·have q:e.ended=true:=q;rw[ne]at q;cases q
  ·show e.c.A<=8*(e.F++_).length;rw[b];have:=i.A;omega
  ·show e.D<=(e.F++_).length;rw[b];omega
  ·have q:(if 0<k then false else e.short)=true:=q;by_cases c:0<k
   ·rw[if_pos c]at q;cases q
   ·rw[if_neg c]at q;obtain rfl:k=0:=jO;obtain⟨r,p,o,n⟩:=i.sh q s;refine⟨r, ?_,o,n⟩;show c8 Z e.c.u e.c.A (ar (e.F++(R.take m).take 0) 0 e.c.A)=_;rw[List.take_zero,bR];exact p
  ·show(e.F++_).length-e.D<=win;rw[b];have:=i.held;omega
theorem alD(i:XI S Z win lim K N e)(b:e.F.length=S.length):XI S Z win lim K N (lD e):=by
 unfold lD;split
 ·exact i
 ·obtain⟨R,a⟩:=i.pre
  have c:e.F=S:=by
   have:R=[]:=by have:=congrArg sN a;rw[bE]at this;exact List.length_eq_zero_iff.1 jO
   rw[a,this,bR]
  exact⟨i.pre,fun _=>c,i.ru,i.wr,i.us,i.A,i.D8,i.hD,i.op,fun q=>(by cases q),i.held,i.out,i.lv,i.bd,i.run,i.st⟩
theorem alE(i:XI S Z win lim K N e)(k:Nat):XI S Z win lim K N {e with out:=e.out.drop k}:=
 ⟨i.pre,i.all,i.ru,i.wr,i.us,i.A,i.D8,i.hD,i.op,i.sh,i.held,by show(e.out.drop k).length<=_;rw[bC];have:=i.out;omega,i.lv,i.bd,i.run,i.st⟩
end
def rC(a at_:Nat)(tk:List Nat)(ok:Bool):List Value:=[jP a 0,jI (at_:Int),.string ⟨(bS tk).toArray⟩,.bool ok]
def rV(a at_:Nat)(tk:List Nat)(ok:Bool):Value:= .agg (rC a at_ tk ok).toArray
def qJ(S:List UInt8)(at_:Nat)(c:Int):Nat:=min (max c 0).toNat (S.length-at_)
def ot(win:Nat)(S:List UInt8)(e:Ex)(at_:Nat)(c:Int):Nat:=hZ win e ((S.drop at_).take (qJ S at_ c))
def kf(win:Nat)(S:List UInt8)(e:Ex)(at_:Nat)(c:Int):Ex:=if at_+ot win S e at_ c=S.length then lD (fY win e ((S.drop at_).take (qJ S at_ c)))else fY win e ((S.drop at_).take (qJ S at_ c))
def Lz(n:Nat)(L:Nat->Nat):Nat->Nat:=fun c=>if c<n then L c else 0
theorem fw{n c:Nat}{L:Nat->Nat}(h:c<n):Lz n L c=L c:=if_pos h
theorem kN{n c:Nat}{L:Nat->Nat}(h:n<=c):Lz n L c=0:=if_neg jO
theorem Af{n n0:Nat}{L:Nat->Nat}(d:n0<=n):∀b,WX (Lz n L) b->n0<=b∨WX L b:=fun b a=>by
 by_cases c:b<n
 ·refine .inr ?_;unfold WX at a⊢;rw[fw c]at a;exact a
 ·exact .inl jO
section
variable {S:List UInt8} {Z win lim K N:Nat} {e:Ex}
theorem room_le(T:List UInt8):hZ win e T<=T.length:=by
 unfold hZ;split
 ·exact aP _
 ·exact amz _ _
theorem Lm(T:List UInt8):(fY win e T).F.length=e.F.length+hZ win e T:=by
 unfold fY;split
 ·next h=>unfold hZ;rw[if_pos h];rfl
 ·show(e.F++T.take (hZ win e T)).length=_;rw[bE,cO,gZ (room_le T)]
theorem Ln(T:List UInt8):(fY win e T).c=e.c:=by unfold fY;split<;>rfl
theorem Zk(T:List UInt8):(fY win e T).out=e.out∧(fY win e T).steps=e.steps∧(fY win e T).ended=e.ended:=by unfold fY;split<;>exact⟨rfl,rfl,rfl⟩
theorem alF(e:Ex):(lD e).out=e.out∧(lD e).steps=e.steps∧(lD e).c=e.c∧(lD e).F=e.F:=by unfold lD;split<;>exact⟨rfl,rfl,rfl,rfl⟩
theorem alG{at_:Nat}{c:Int}(i:XI S Z win lim K N e)(a:at_=e.F.length):XI S Z win lim K N (kf win S e at_ c):=by
 have i1:=alC (m:=qJ S at_ c) i a;unfold kf;split
 ·next h=>exact alD i1 (by rw[Lm,<-a];exact h)
 ·exact i1
theorem Zl(at_:Nat)(c:Int):(kf win S e at_ c).out=e.out∧(kf win S e at_ c).steps=e.steps∧(kf win S e at_ c).c=e.c∧(kf win S e at_ c).F.length=e.F.length+ot win S e at_ c:=by
 unfold kf;obtain⟨b,a,i⟩:=Zk (win:=win) (e:=e) ((S.drop at_).take (qJ S at_ c));split
 ·obtain⟨h,g,f,d⟩:=alF (fY win e ((S.drop at_).take (qJ S at_ c)));exact⟨h.trans b,g.trans a,f.trans (Ln _),by rw[d];exact Lm _⟩
 ·exact⟨b,a,Ln _,Lm _⟩
end
section
variable {Y d n Z win lim K N:Nat} {h:H} {L:Nat->Nat} {e:Ex} {m:Xm} {S:List UInt8}
theorem Zm{at_:Nat}{tk:List Nat}{ok:Bool}(x:cN h n L Z win lim e m)(i:XI S Z win lim K N e)(u8:at_=e.F.length)(hS:S.length<=1000000)(s:win<=2000000)(c:Int):af (WX L) n (aj aa gt Y (d+3) 41 #[rV m.a at_ tk ok,.string ⟨S.toArray⟩,jI c]) h n fun v h' n'=>v=rV m.a (at_+ot win S e at_ c) tk ok∧kL L n Z win lim m (kf win S e at_ c) h' n':=by
 have hl:=i.len;have hD:=i.hD;have hh:=i.held;rw[aC (fun _=>ado) rfl];refine af.aB ?_;unfold Qf;refine gu trivial _ _ ?_;refine dL rfl _ ?_;obtain⟨G,I⟩:∃q,(h.set n (some ⟨60,true,(rV m.a at_ tk ok).cells.toList⟩)).set (n+1) (some ⟨60,true,lM⟩)=q:=⟨_,rfl⟩;have gd:G.get n=some ⟨60,true,[jP m.a 0,jI (at_:Int),.string ⟨(bS tk).toArray⟩,.bool ok]⟩:=by rw[<-I,aw _ _ jO,get_eq];rfl
 have ge:G.get (n+1)=some ⟨60,true,[.pointer none,jI 0,.string ⟨#[]⟩,.bool false]⟩:=by rw[<-I,get_eq];rfl
 have k0:∀b,b<n->G.get b=h.get b:=fun b f=>by rw[<-I,aw _ _ jO,aw _ _ jO]
 rw[I];have U:n<n+1+1:=jO;have u5:n+1<n+1+1:=jO;obtain⟨l,p⟩:∃l,qJ S at_ c=l:=⟨_,rfl⟩;have u6:l=min (max c 0).toNat (S.length-at_):=by rw[<-p];rfl
 have x0:cN G (n+1+1) (Lz n L) Z win lim e m:=x.au jO (fun b f=>fw f) (fun b f _ _=>k0 b f);have w1:IntKind.i64.wrap (((S.length:Nat):Int)-(at_:Int))=((S.length-at_:Nat):Int):=by rw[aH jO jO];omega
 have z1:(if(if c<0 then(0:Int)else c)<((S.length-at_:Nat):Int)then(if c<0 then(0:Int)else c)else((S.length-at_:Nat):Int))=(l:Int):=by split<;>split<;>omega
 have O:(if((S.length-at_:Nat):Int)<(if c<0 then(0:Int)else c)then((S.length-at_:Nat):Int)else(if c<0 then(0:Int)else c))=(l:Int):=by split<;>split<;>omega
 have w2:IntKind.i64.wrap ((at_:Int)+(l:Int))=((at_+l:Nat):Int):=by rw[aH jO jO];rfl
 have i1:(0:Int)<=(at_:Int):=jO;have i2:(at_:Int)<=((at_+l:Nat):Int):=jO;have i3:((at_+l:Nat):Int)<=((S.length:Nat):Int):=jO;refine jA (aI @gd (aI @w1 (aI @O (aI @w2 (aI @i1 (aI @i2 (aI @i3 @cR))))))) ?_;obtain⟨T,E⟩:∃T,(S.drop at_).take l=T:=⟨_,rfl⟩;have u9:T.length<=l:=by rw[<-E,cO];exact amz _ _
 obtain⟨k,D⟩:∃k,hZ win e T=k:=⟨_,rfl⟩;have u7:k<=T.length:=by rw[<-D];exact room_le T
 have hK:ot win S e at_ c=k:=by unfold ot;rw[p,E,D]
 have hE:kf win S e at_ c=if at_+k=S.length then lD (fY win e T)else fY win e T:=by unfold kf;rw[hK,p,E]
 rw[show at_+l-at_=l by omega,E,hK,hE]
 have last:∀(g:H) (C:Nat) (r:Ex),n+1+1<=C->g.get n=some ⟨60,true,[jP m.a 0,jI ((at_+k:Nat):Int),.string ⟨(bS tk).toArray⟩,.bool ok]⟩->g.get (n+1)=some ⟨60,true,[.pointer none,jI 0,.string ⟨#[]⟩,.bool false]⟩->cN g C (Lz n L) Z win lim r m->(if at_+k=S.length then lD (fY win e T)else fY win e T)=r->
  af (WX L) n (aT 4 (jP n 0) fun c=>aM 4 (jP (n+1) 0) c fun x=>aT 4 (jP (n+1) 0) fun a=>ag [a]) g C fun v h' n'=>v=rV m.a (at_+k) tk ok∧kL L n Z win lim m (if at_+k=S.length then lD (fY win e T)else fY win e T) h' n':=by
  intro g C r u4 o j z u0;rw[u0];refine fK trivial trivial n 0 _ o jO (show 0+4<=4 by decide) ?_;refine cq (W:=WX L) (n0:=n) (sz:=4) trivial (vs:=rC m.a (at_+k) tk ok) rfl rfl rfl j jO (.inl jO) _ fun h3 g3 k3=> ?_;exact dV trivial trivial g3 rfl jO ⟨rfl,Lz n L,m,fun c hc=>fw hc,rfl,z.au (ah _) (fun _ _=>rfl) (fun b f q1 q2=>k3 b (fun q=>by rw[q,kN jO]at q1;omega))⟩
 refine aN aE (x0.feed (Y:=Y) (d:=d) T jO hD hh s) jO (fun b _ f=>Af jO b f) fun v1 h1 n1 u2 y R=> ?_;obtain⟨rfl,rfl,x1⟩:=R;rw[D]
 have A:∀{b},n<=b->¬WX (Lz n L) b:=fun f q=>by have:=q.1;rw[kN f]at this;omega
 have t:=(y n jO (A (ah _))).trans gd;have u1:=(y (n+1) jO (A jO)).trans ge;have zA:¬(k:Int)<0:=jO;have zB:¬(l:Int)<(k:Int):=jO;have w3:IntKind.i64.wrap ((at_:Int)+(k:Int))=((at_+k:Nat):Int):=by rw[aH jO jO];rfl
 have dn:=x1.done (Y:=Y) (d:=d+1);rw[Ln]at dn
 have e3:∀(B X:M Value),aA (.bool (gO e.c.fin)) (aA (.bool (decide ((0:Int)<(k:Int)))) B X) X=X:=fun B X=>by
  cases hf:gO e.c.fin with
  |false=>rfl
  |true=>
   have P:k=0:=by rw[<-D];unfold hZ;rw[if_pos (.inr hf)]
   rw[P];rfl
 refine jA (aI @zA (aI @zB @t)) ?_;refine bz dn jO (fun _ _ h=>h.elim) ?_;rw[e3];have hn:n<n+1+1:=U;have wn:n<=n∨WX L n:= .inl (ah n);refine jA (aI @t @w3) ?_;obtain⟨g,r⟩:∃q,h1.set n (some ⟨60,true,[jP m.a 0,jI ((at_+k:Nat):Int),.string ⟨(bS tk).toArray⟩,.bool ok]⟩)=q:=⟨_,rfl⟩;have o:g.get n=some ⟨60,true,[jP m.a 0,jI ((at_+k:Nat):Int),.string ⟨(bS tk).toArray⟩,.bool ok]⟩:=by rw[<-r,get_eq]
 have k2:∀b,b≠n->g.get b=h1.get b:=fun b f=>by rw[<-r,aw _ _ f]
 have j:=(k2 (n+1) jO).trans u1;have z:cN g (n+1+1) (Lz n L) Z win lim (fY win e T) m:=x1.au (ah _) (fun _ _=>rfl) (fun b f q1 q2=>k2 b (fun q=>by rw[q,kN (ah n)]at q1;omega));refine⟨.inl (ah n), ?_⟩;rw[r];by_cases J:at_+k=S.length
 ·rw[if_pos (show(((at_+k:Nat):Int)==((S.length:Nat):Int))=true by rw[J];exact beq_iff_eq.2 rfl)];refine aN aE (z.end_ (Y:=Y) (d:=d+1)) jO (fun b _ f=>Af jO b f) fun v3 h3 n3 u3 u Q=> ?_;obtain⟨rfl,rfl,x3⟩:=Q;exact last h3 _ _ (ah _) ((u n jO (A (ah _))).trans o) ((u (n+1) jO (A jO)).trans j) x3 (if_pos J)
 ·rw[if_neg (show¬(((at_+k:Nat):Int)==((S.length:Nat):Int))=true from fun q=>J (by have:=beq_iff_eq.1 q;omega))];exact last g _ _ (ah _) o j z (if_neg J)
end
structure fZ (S:List UInt8) (Z win lim K:Nat) (e:Ex) (at_:Nat) (tk:List Nat):Prop where
 xi:XI S Z win lim K e.steps e
 at_:at_=e.F.length
 tot:e.c.tot=tk++e.out
section
variable {S:List UInt8} {Z win lim K:Nat} {e:Ex} {at_:Nat} {tk:List Nat}
theorem fZ.Lo(i:fZ S Z win lim K e at_ tk)(c:Int):fZ S Z win lim K (kf win S e at_ c) (at_+ot win S e at_ c) tk:=by obtain⟨f,d,b,a⟩:=Zl (win:=win) (S:=S) (e:=e) at_ c;exact⟨by rw[d];exact alG i.xi i.at_,by rw[a,i.at_],by rw[b,f];exact i.tot⟩
theorem fZ.gone{B:Int}{k:Nat}{a:Ex}(i:fZ S Z win lim K e at_ tk)(s:Ae S Z win lim K e B k a):fZ S Z win lim K a at_ tk:=by obtain⟨t,c,b⟩:=s.out;exact⟨by rw[s.st];exact s.xi,by rw[s.F];exact i.at_,by rw[b,c,i.tot,dY]⟩
theorem fZ.taken(i:fZ S Z win lim K e at_ tk)(k:Nat):fZ S Z win lim K {e with out:=e.out.drop k} at_ (tk++e.out.take k):=
 ⟨alE i.xi k,i.at_,by show e.c.tot=tk++e.out.take k++e.out.drop k;rw[i.tot,dY,Aq]⟩
end
section
variable {Y d n Z win lim K:Nat} {h:H} {L:Nat->Nat} {e:Ex} {m:Xm} {S:List UInt8} {t:List Nat} {er:Int}
theorem alH{at_:Nat}{tk:List Nat}(x:cN h n L Z win lim e m)(i:fZ S Z win lim K e at_ tk)(hK:cY S Z K x0 t er)(u9:K<=1000000)(hS:S.length<=1000000)(u3:lim<=65536)(u1:win<=2000000)(v7:tk.length+e.out.length<=1000000000)(D c:Int)(u8:3000000<=Y):af (WX L) n (aj aa gt Y (d+18) 34 #[rV m.a at_ tk true,.string ⟨S.toArray⟩,.agg #[jI D,jI c]]) h n fun v h' n'=>∃P o l,v=rV m.a o l true∧fZ S Z win lim K P o l∧kL L n Z win lim m P h' n':=by
 have E:=i.xi;have iK:=E.st;have v3:=E.out;rw[aC (fun _=>adk) rfl];refine af.aB ?_;unfold P7;refine gu trivial _ _ ?_;refine gu trivial _ _ ?_;refine dL rfl _ ?_;obtain⟨h0,e0⟩:∃q,((h.set n (some ⟨60,true,(rV m.a at_ tk true).cells.toList⟩)).set (n+1) (some ⟨67,true,(mC #[jI D,jI c]).cells.toList⟩)).set (n+1+1) (some ⟨60,true,lM⟩)=q:=⟨_,rfl⟩;have O:h0.get n=some ⟨60,true,[jP m.a 0,jI (at_:Int),.string ⟨(bS tk).toArray⟩,.bool true]⟩:=by rw[<-e0,aw _ _ jO,aw _ _ jO,get_eq];rfl
 have N:h0.get (n+1)=some ⟨67,true,[jI D,jI c]⟩:=by rw[<-e0,aw _ _ jO,get_eq];rfl
 have gf:h0.get (n+1+1)=some ⟨60,true,[.pointer none,jI 0,.string ⟨#[]⟩,.bool false]⟩:=by rw[<-e0,get_eq];rfl
 have k0:∀b,b<n->h0.get b=h.get b:=fun b j=>by rw[<-e0,aw _ _ jO,aw _ _ jO,aw _ _ jO]
 rw[e0];have G:n<n+1+1+1:=jO;have u2:n+1<n+1+1+1:=jO;have y:n+1+1<n+1+1+1:=jO;have x0:cN h0 (n+1+1+1) (Lz n L) Z win lim e m:=x.au jO (fun b j=>fw j) (fun b j _ _=>k0 b j)
 have T:∀{b},n<=b->¬WX (Lz n L) b:=fun j q=>by have:=q.1;rw[kN j]at this;omega
 have last:∀(h2:H) (n2:Nat) (L2:Nat->Nat) (m2:Xm) (e2:Ex) (B:Nat) (r:List Nat),n+1+1+1<=n2->h2.get n=some ⟨60,true,[jP m.a 0,jI (B:Int),.string ⟨(bS r).toArray⟩,.bool true]⟩->h2.get (n+1+1)=some ⟨60,true,[.pointer none,jI 0,.string ⟨#[]⟩,.bool false]⟩->(∀b,b<n+1+1+1->L2 b=Lz n L b)->m2.a=m.a->cN h2 n2 L2 Z win lim e2 m2->fZ S Z win lim K e2 B r->
  af (WX L) n (aT 4 (jP n 0) fun i=>aM 4 (jP (n+1+1) 0) i fun x=>aT 4 (jP (n+1+1) 0) fun a=>ag [a]) h2 n2 fun v h' n'=>∃P o l,v=rV m.a o l true∧fZ S Z win lim K P o l∧kL L n Z win lim m P h' n':=by
  intro h2 n2 L2 m2 e2 B r v4 v2 v0 u5 u7 x2 i2;refine fK trivial trivial n 0 _ v2 jO (show 0+4<=4 by decide) ?_;refine cq (W:=WX L) (n0:=n) (sz:=4) trivial (vs:=rC m.a B r true) rfl rfl rfl v0 jO (.inl jO) _ fun h3 g3 k3=> ?_;exact dV trivial trivial g3 rfl jO ⟨e2,B,r,rfl,i2,L2,m2,fun c hc=>(u5 c jO).trans (fw hc),u7,x2.au (ah _) (fun _ _=>rfl) (fun b j q1 q2=>k3 b (fun q=>by rw[q,u5 _ y,kN jO]at q1;omega))⟩
 by_cases c0:D=0
 ·have z0:(D==0)=true:=beq_iff_eq.2 c0;refine jA (aI @N @z0) ?_;refine fK trivial trivial n 0 _ O G (show 0+4<=4 by decide) ?_;refine jA @N ?_;have fd:=Zm (Y:=Y) (d:=d+14) (tk:=tk) (ok:=true) x0 E i.at_ hS u1 c;refine aN aE fd jO (fun b _ j=>Af jO b j) fun v1 h1 n1 z g u=> ?_;obtain⟨rfl,L1,m1,b1,b2,C⟩:=u;have A:=(g (n+1+1) y (T jO)).trans gf;refine cq (W:=WX L) (n0:=n) (sz:=4) trivial (vs:=rC m.a (at_+ot win S e at_ c) tk true) rfl rfl rfl A jO (.inl jO) _ fun h3 g3 k3=> ?_;exact dV trivial trivial g3 rfl jO ⟨_,_,_,rfl,i.Lo c,L1,m1,fun c hc=>(b1 c jO).trans (fw hc),b2,C.au (ah _) (fun _ _=>rfl) (fun b j q1 q2=>k3 b (fun q=>by rw[q,b1 _ y,kN jO]at q1;omega))⟩
 have z0:(D==0)=false:=beq_eq_false_iff_ne.2 c0;obtain⟨M,J⟩:∃M:Int,(if c<0 then(0:Int)else c)=M:=⟨_,rfl⟩;have u4:max c 0=M:=by rw[<-J];split<;>omega
 by_cases c1:D=1
 ·have z1:(D==1)=true:=beq_iff_eq.2 c1;refine jA (aI @N (aI @z0 (aI @z1 @O))) ?_;refine bz (x0.steps (Y:=Y) (d:=d+16)) jO (fun _ _ h=>h.elim) ?_;refine jA @O ?_;refine bz (EG (Y:=Y) (d:=d+16) x0) jO (fun _ _ h=>h.elim) ?_;refine jA (aI @O @N) ?_;refine aN aE (Ll (Y:=Y) (d:=d) x0 E hK u9 hS u3 c u8) jO (fun b _ j=>Af jO b j) fun v1 h1 n1 z g u=> ?_;obtain⟨k,e1,rfl,R,L1,m1,b1,b2,C⟩:=u;have f:=(g n G (T jO)).trans O;have p:=(g (n+1) u2 (T jO)).trans N;have A:=(g (n+1+1) y (T jO)).trans gf;have iA:(0:Int)<=(k:Int):=jO;have iB:(k:Int)<=M:=by have:=R.le;omega
  have sK:=R.xi.st;have zS:(((e.steps+k:Nat):Int)==(e.steps:Int)+(k:Int))=true:=beq_iff_eq.2 rfl;have u0:=C.steps (Y:=Y) (d:=d+16);rw[b2,R.st]at u0;have s:=EG (Y:=Y) (d:=d+16) C;rw[b2]at s
  have fin:(n<=n∨WX L n)∧af (WX L) n (aT 4 (jP n 0) fun i=>aM 4 (jP (n+1+1) 0) i fun x=>aT 4 (jP (n+1+1) 0) fun a=>ag [a]) (h1.set n (some ⟨60,true,[jP m.a 0,jI (at_:Int),.string ⟨(bS tk).toArray⟩,.bool true]⟩)) n1 fun v h' n'=>∃P o l,v=rV m.a o l true∧fZ S Z win lim K P o l∧kL L n Z win lim m P h' n':=
   ⟨.inl (ah n),last _ _ L1 m1 e1 at_ tk z (get_eq _ _ _) ((aw _ _ jO).trans A) b1 b2 (C.au (ah _) (fun _ _=>rfl) (fun b j q1 q2=>aw _ _ (fun q=>by rw[q,b1 _ G,kN (ah n)]at q1;omega))) (i.gone R)⟩
  refine jA (aI @f (aI @p (aI @J (aI @iA @iB)))) ?_;refine bz u0 jO (fun _ _ h=>h.elim) ?_;have v6:n<n1:=jO;have v5:n+1<n1:=jO;by_cases ck:k=0
  ·have X:((k:Int)==0)=true:=by rw[ck];rfl
   by_cases U:(k:Int)=M
   ·have Q:((k:Int)==M)=true:=beq_iff_eq.2 U;refine jA (aI @zS (aI @X (aI @f (aI @p (aI @J @Q))))) ?_;exact fin
   ·have Q:((k:Int)==M)=false:=beq_eq_false_iff_ne.2 U
    have hs:iU lim e1=true:=by
     rcases R.all with q|q
     ·exact absurd (q.trans u4) U
     ·exact q
    rw[hs]at s;refine jA (aI @zS (aI @X (aI @f (aI @p (aI @J @Q))))) ?_;refine bz s jO (fun _ _ h=>h.elim) ?_;refine jA @f ?_;exact fin
  ·have X:((k:Int)==0)=false:=beq_eq_false_iff_ne.2 jO
   have I:iU lim e=false:=by
    rcases R.Zg with q|q
    ·exact absurd q ck
    ·exact q
   by_cases U:(k:Int)=M
   ·have Q:((k:Int)==M)=true:=beq_iff_eq.2 U;refine jA (aI @zS (aI @X (aI @f (aI @p (aI @J (aI @Q (aI @I @cx))))))) ?_;exact fin
   ·have Q:((k:Int)==M)=false:=beq_eq_false_iff_ne.2 U
    have hs:iU lim e1=true:=by
     rcases R.all with q|q
     ·exact absurd (q.trans u4) U
     ·exact q
    rw[hs]at s;refine jA (aI @zS (aI @X (aI @f (aI @p (aI @J (aI @Q (aI @I @cx))))))) ?_;refine bz s jO (fun _ _ h=>h.elim) ?_;refine jA @f ?_;exact fin
 ·have z1:(D==1)=false:=beq_eq_false_iff_ne.2 c1;refine jA (aI @N (aI @z0 (aI @z1 @O))) ?_;refine bz (x0.waiting (Y:=Y) (d:=d+16)) jO (fun _ _ h=>h.elim) ?_;refine jA (aI @O @N) ?_;refine aN aE (x0.take (Y:=Y) (d:=d+16) c jO) jO (fun b _ j=>Af jO b j) fun v1 h1 n1 z g u=> ?_;obtain⟨rfl,rfl,ov,C⟩:=u;obtain⟨q,hq⟩:∃q,takeN e c=q:=⟨_,rfl⟩;have v8:q=min c.toNat e.out.length:=by rw[<-hq];rfl
  rw[hq]at C⊢;have f:=(g n G (T jO)).trans O;have p:=(g (n+1) u2 (T jO)).trans N;have A:=(g (n+1+1) y (T jO)).trans gf;have bl:(bS (e.out.take q)).length=q:=by rw[qD,cO];omega
  have zt:(if M<((e.out.length:Nat):Int)then M else((e.out.length:Nat):Int))=(q:Int):=by rw[<-J];split<;>split at*<;>omega
  have zq:(((q:Nat):Int)==((q:Nat):Int))=true:=beq_iff_eq.2 rfl;have wa:=C.waiting (Y:=Y) (d:=d+16);have dl:(e.out.drop q).length=e.out.length-q:=bC;have zd:((((e.out.drop q).length:Nat):Int)==((e.out.length:Nat):Int)-((q:Nat):Int))=true:=beq_iff_eq.2 jO;have j:bS tk++bS (e.out.take q)=bS (tk++e.out.take q):=by unfold bS;rw[pT]
  have u6:(bS tk).length+(bS (e.out.take q)).length<=9223372036854775807:=by rw[bl,qD];omega
  refine jA (aI @f (aI @p (aI @J (aI @bl (aI @zt @zq))))) ?_;refine bz wa jO (fun _ _ h=>h.elim) ?_;refine jA (aI @f (aI @bl (aI @zd (aI @u6 @j)))) ?_;exact⟨.inl (ah n),.inl (ah n),last _ _ (Lz n L) {m with ov:=ov} _ at_ _ (ah _) (get_eq _ _ _) ((aw _ _ jO).trans ((aw _ _ jO).trans A)) (fun _ _=>rfl) rfl (C.au (ah _) (fun _ _=>rfl) (fun b j q1 q2=>(aw _ _ (fun q=>by rw[q,kN (ah n)]at q1;omega)).trans (aw _ _ (fun q=>by rw[q,kN (ah n)]at q1;omega)))) (i.taken q)⟩
end
def xc(K:Nat)(S:List UInt8)(e:Ex):Nat:=(K-e.steps)+(S.length-e.F.length)+(if e.ended=true then 0 else 1)+(if e.out=[]then 0 else 1)
section
variable {S:List UInt8} {Z win lim K k:Nat} {e e2:Ex} {at_:Nat} {tk:List Nat}
theorem Zn(e:Ex):(lD e).ended=true:=by
 unfold lD;split
 ·assumption
 ·rfl
theorem prog{B:Int}(hB:0<B)(i:fZ S Z win lim K e at_ tk)(p:e.c.fin=none)(h1:1<=lim)(hw:64<=win)(s:Ae S Z win lim K (kf win S e at_ (S.length:Int)) B k e2):xc K S {e2 with out:=[]}+1<=xc K S e:=by
 obtain⟨N,L,J,n⟩:=Zl (win:=win) (S:=S) (e:=e) at_ (S.length:Int);have i1:=i.Lo (S.length:Int)
 have g:e.ended=true->(kf win S e at_ (S.length:Int)).ended=true:=fun h=>by
  unfold kf;split
  ·exact Zn _
  ·exact((Zk _).2.2).trans h
 have d:(kf win S e at_ (S.length:Int)).ended=false->at_+ot win S e at_ (S.length:Int)≠S.length:=fun h q=>by unfold kf at h;rw[if_pos q,Zn]at h;cases h
 obtain⟨f,Q⟩:∃f,ot win S e at_ (S.length:Int)=f:=⟨_,rfl⟩;rw[Q]at n d;obtain⟨b,D⟩:∃b,kf win S e at_ (S.length:Int)=b:=⟨_,rfl⟩;rw[D]at s N L J n g d i1;have T:=s.st;have a:=s.xi;have u:=s.F;have O:=s.ended;have A:=a.st;have C:=a.len
 have y:k≠0∨f≠0∨(e.ended=false∧b.ended=true)∨e.out≠[]:=by
  by_cases ck:k=0
  ·by_cases cf:f=0
   ·by_cases E:e.out=[]
    ·by_cases r:b.ended=true
     ·by_cases G:e.ended=true
      ·exfalso;subst ck;have m:e2.c=b.c:=by rw[a.run,i1.xi.run];rfl
       have f2:e2.c.fin=none:=by rw[m,J];exact p
       obtain⟨t,x,j⟩:=s.out
       have z:t=[]:=by rw[m]at j;have:=congrArg sN j;rw[bE]at this;exact List.length_eq_zero_iff.1 jO
       have v:e2.out=[]:=by rw[x,z,N,E];rfl
       have q:iU lim e2=true:=by
        rcases s.all with q|q
        ·exfalso;omega
        ·exact q
       unfold iU at q;rw[f2]at q;cases l:e2.c.op with
       |some o=>rw[l]at q;have q:=of_decide_eq_true q;rw[v]at q;simp only[hC]at q;omega
       |none=>rw[l]at q;have:=(a.sh q f2).1;rw[O,r]at this;cases this
      ·exact .inr (.inr (.inl ⟨by cases h:e.ended with
        |true=>exact absurd h G
        |false=>rfl,r⟩))
     ·exfalso;subst ck
      have I:b.ended=false:=by
       cases h:b.ended with
       |true=>exact absurd h r
       |false=>rfl
      have ee:e.ended=false:=by
       cases h:e.ended with
       |true=>exact absurd (g h) r
       |false=>rfl
      have m:e2.c=b.c:=by rw[a.run,i1.xi.run];rfl
      have R:e2.c=e.c:=m.trans J;have f2:e2.c.fin=none:=by rw[R];exact p
      obtain⟨t,x,j⟩:=s.out
      have z:t=[]:=by rw[m]at j;have:=congrArg sN j;rw[bE]at this;exact List.length_eq_zero_iff.1 jO
      have v:e2.out=[]:=by rw[x,z,N,E];rfl
      have q:iU lim e2=true:=by
       rcases s.all with q|q
       ·exfalso;omega
       ·exact q
      unfold iU at q;rw[f2]at q;have u0:=i.at_;have X:=d I;have Y:=i.xi.len;have fd:qJ S at_ (S.length:Int)=S.length-at_:=by unfold qJ;omega
      have P:hZ win e ((S.drop at_).take (S.length-at_))=0:=by have:=Q;unfold ot at this;rw[fd]at this;omega
      have W:¬(e.ended=true∨gO e.c.fin=true):=by rw[ee,p];simp[gO]
      unfold hZ at P;rw[if_neg W,cO,bC]at P;have hh:=i.xi.held;have hD:=i.xi.D8 p;cases l:e2.c.op with
      |some o=>rw[l]at q;have q:=of_decide_eq_true q;rw[v]at q;simp only[hC]at q;omega
      |none=>rw[l]at q;obtain⟨_,U,_,_⟩:=a.sh q f2;refine akZ (a.us f2).ok ?_ U;rw[fi,u,n,R];omega
    ·exact .inr (.inr (.inr E))
   ·exact .inr (.inl cf)
  ·exact .inl ck
 unfold xc;show(K-e2.steps)+(S.length-e2.F.length)+(if e2.ended=true then 0 else 1)+(if([]:List Nat)=[]then 0 else 1)+1<=_;rw[T,u,O,L,n,if_pos rfl];rw[L]at A;rw[u,n]at C
 have u1:(if b.ended=true then 0 else 1)<=(if e.ended=true then 0 else 1):=by
  by_cases c:e.ended=true
  ·rw[if_pos c,if_pos (g c)];exact ah _
  ·rw[if_neg c];split<;>omega
 rcases y with q|q|⟨q1,q2⟩|q
 ·omega
 ·omega
 ·rw[q2,q1,if_pos rfl,if_neg jD];omega
 ·rw[if_neg q];omega
end
section
variable {β:Type} {W:Nat->Prop} {n0:Nat} {h:H} {n:Nat} {Q:β->H->Nat->Prop}
theorem alI(b off:Nat)(v:Value)(k:Value×Tk->M β){e:TypeId}{cs:List Value}(g:h.get b=some ⟨e,true,cs⟩)(i:b<n)(f:off<cs.length)(h1:one v=true)(d:n0<=b∨W b)(x:∀T,af W n0 (k (undef,T)) (h.set b (some ⟨e,true,cs.set off v⟩)) n Q):af W n0 ((az (aK (jP b off) v M.ret)).bind k) h n Q:=
 ags (Q':=fun a j c=>a=undef∧j=h.set b (some ⟨e,true,cs.set off v⟩)∧c=n) (J8 trivial b off v _ g i f h1 d ((kE _).2 ⟨rfl,rfl,rfl⟩)) fun a h1 p T q ⟨o,m,l⟩=>by subst o;subst m;subst l;exact x T
end
section
variable {Y d n Z win lim K:Nat} {h:H} {L L1:Nat->Nat} {e:Ex} {m:Xm} {S:List UInt8} {Q:Value->H->Nat->Prop}
theorem Zo {a a0 at_:Nat} {tk:List Nat} {ok:Bool} (B:Int) (A:M Value) (x:cN h a L1 Z win lim e m) (j:m.a=a0) (r:h.get n=some ⟨60,true,rC a0 at_ tk ok⟩) (f:n<a) (X:L1 n=0) (WW:∀b,b<a->WX L1 b->n<=b∨WX L b) (hB:e.out.length<=B.toNat) (W:e.out.length<=1000000) (R:tk.length+e.out.length<=1000000000000)
 (y:∀h2 ov,cN h2 a L1 Z win lim {e with out:=[]} {m with ov:=ov}->h2.get n=some ⟨60,true,rC a0 at_ (tk++e.out) ok⟩->(∀b,b<a->¬WX L1 b->b≠n->h2.get b=h.get b)->af (WX L) n A h2 a Q):
 af (WX L) n ((az (aQ (jP n 2) M.ret)).bind fun hh=>(az (aQ (jP n 0) M.ret)).bind fun l=>(az (ai (aj aa gt Y (d+1)) 83 [l.1,jI B] M.ret)).bind fun t=>aq hh.1 t.1 fun O=>(az (aK (jP n 2) O M.ret)).bind fun p=>dD (!cz hh.2 t.2) A) h a Q:=by
 subst j;have s:¬WX L1 n:=fun q=>by have:=q.1;omega
 refine DE trivial n 2 _ r f (v:= .string ⟨(bS tk).toArray⟩) rfl fun T1 K J I=> ?_;refine DE trivial n 0 _ r f (v:=jP m.a 0) rfl fun T2 _ _ _=> ?_;have c:=x.take (Y:=Y) (d:=d) B W;have N:takeN e B=e.out.length:=by unfold takeN;omega
 rw[N,iY,sO]at c;refine WM aE c jO WW fun v1 h1 n2 T3 U u T G E D=> ?_;obtain⟨rfl,rfl,ov,C⟩:=T;have z:=WN K J I G E D f s;have o:=(u n f s).trans r;have g:bS tk++bS e.out=bS (tk++e.out):=by unfold bS;rw[pT]
 have i:(bS tk).length+(bS e.out).length<=9223372036854775807:=by rw[qD,qD];omega
 refine jA (aI @i @g) ?_;refine alI n 2 _ _ o f (show 2<4 by decide) rfl (.inl (ah n)) fun T4=> ?_;refine jA (aI @z (aI @cx @dQ)) ?_;refine y _ ov (C.au (ah _) (fun _ _=>rfl) (fun b g q1 q2=>aw _ _ (fun q=>by rw[q,X]at q1;omega))) ?_ (fun b g P k=>(aw _ _ k).trans (u b g P));rw[get_eq];rfl
variable {t:List Nat} {er:Int}
theorem Zp{at_:Nat}{tk:List Nat}{ok:Bool}(x:cN h n L Z win lim e m)(i:fZ S Z win lim K e at_ tk)(hK:cY S Z K x0 t er)(y4:K<=93700)(hS:S.length<=200)(h1:1<=lim)(u0:lim<=65536)(hw:64<=win)(X:win<=2000000)(y0:tk.length<=10000000000)(v7:3000000<=Y):af (WX L) n (aj aa gt Y (d+19) 30 #[rV m.a at_ tk ok,.string ⟨S.toArray⟩]) h n fun v h' n'=>∃g a,v=rV m.a a t ok∧g.c.fin=some er∧g.steps=K∧g.out=[]∧fZ S Z win lim K g a t∧kL L n Z win lim m g h' n':=by
 rw[aC (fun _=>adi) rfl];refine af.aB ?_;unfold Hi;refine gu trivial _ _ ?_;refine dL rfl _ ?_;obtain⟨h0,e0⟩:∃q,(h.set n (some ⟨60,true,(rV m.a at_ tk ok).cells.toList⟩)).set (n+1) (some ⟨60,true,lM⟩)=q:=⟨_,rfl⟩;have gd:h0.get n=some ⟨60,true,rC m.a at_ tk ok⟩:=by rw[<-e0,aw _ _ jO,get_eq];rfl
 have ge:h0.get (n+1)=some ⟨60,true,[.pointer none,jI 0,.string ⟨#[]⟩,.bool false]⟩:=by rw[<-e0,get_eq];rfl
 have k0:∀b,b<n->h0.get b=h.get b:=fun b y=>by rw[<-e0,aw _ _ jO,aw _ _ jO]
 rw[e0];have v6:n<n+1+1:=jO;have v5:n+1<n+1+1:=jO;have u7:cN h0 (n+1+1) (Lz n L) Z win lim e m:=x.au jO (fun b y=>fw y) (fun b y _ _=>k0 b y);have I:∀{g:Ex} {a:Nat} {o:List Nat},fZ S Z win lim K g a o->g.out.length<=65786:=fun z=>by have:=z.xi.out;omega
 have v0:∀(r j P:Nat) (h':H) (n':Nat) (G:Nat->Nat) (m':Xm) (g:Ex) (a:Nat) (o:List Nat),xc K S g<=r->j+r<=99000->r+2<P->o.length+70000*r<=100000000000->n+1+1<=n'->h'.get n=some ⟨60,true,rC m.a a o ok⟩->h'.get (n+1)=some ⟨60,true,[.pointer none,jI 0,.string ⟨#[]⟩,.bool false]⟩->(∀b,b<n+1+1->G b=Lz n L b)->m'.a=m.a->cN h' n' G Z win lim g m'->fZ S Z win lim K g a o->
  af (WX L) n (vP Y (aj aa gt Y (d+18)) P (BX Y (aj aa gt Y (d+18))) (rV m.a at_ tk ok) (.string ⟨S.toArray⟩) (jP n 0) (jP (n+1) 0) (jI (j:Int))) h' n' fun v h' n'=>∃g a,v=rV m.a a t ok∧g.c.fin=some er∧g.steps=K∧g.out=[]∧fZ S Z win lim K g a t∧kL L n Z win lim m g h' n':=by
  intro r
  induction r using Al with
  |ind r ih=>
   intro j P h' n' G m' g a o y2 y3 hf x9 hn E u4 u s x' z;obtain⟨P,rfl⟩:∃f,P=f+1:=⟨P-1,jO⟩;have C:n<n':=jO;have p:n+1<n':=jO;have cj:(j:Int)<100000:=jO;have N:G n=0:=(u n v6).trans (kN (ah n));have A:G (n+1)=0:=(u (n+1) v5).trans (kN (eL n))
   have WW:∀b,b<n'->WX G b->n<=b∨WX L b:=fun b y q=>by
    by_cases c:b<n
    ·refine .inr ?_;unfold WX at q⊢;rw[u b jO,fw c]at q;exact q
    ·exact .inl jO
   have Q:=x'.done (Y:=Y) (d:=d+17);rw[s]at Q;have gx:=E;unfold rC at gx;rw[vP];cases l:gO g.c.fin with
   |true=>
    rw[l]at Q;refine jA (aI @cj @gx) ?_;refine bz Q jO (fun _ _ h=>h.elim) ?_
    have hs:g.steps=K:=by
     rcases Nat.lt_or_eq_of_le z.xi.st with q|q
     ·have:=hK.2.2 _ q;rw[<-z.xi.run]at this;rw[this]at l;cases l
     ·exact q
    have hc:=z.xi.run;rw[hs]at hc;have v8:g.c.fin=some er:=by rw[hc];exact hK.1
    have J:o++g.out=t:=by rw[<-z.tot,hc,hK.2.1];rfl
    have ob:=I z;have U:=z.taken g.out.length;rw[iY,sO,J]at U;unfold BX;refine jB ?_;refine Zo (d:=d+17) 1048576 _ x' s E C N WW (by show g.out.length<=1048576;omega) jO jO fun h2 ov x2 D k2=> ?_;have O:=(k2 (n+1) p (fun q=>by have:=q.1;omega) jO).trans u4;rw[J]at D;refine fK trivial trivial n 0 _ D C (show 0+4<=4 by decide) ?_;refine cq (W:=WX L) (n0:=n) (sz:=4) trivial (vs:=rC m.a a t ok) rfl rfl rfl O p (.inl (eL n)) _ fun h3 g3 k3=> ?_;exact dV trivial trivial g3 rfl p ⟨{g with out:=[]},a,rfl,v8,hs,rfl,U,G,{m' with ov:=ov},fun c hc=>(u c jO).trans (fw hc),s,x2.au (ah _) (fun _ _=>rfl) (fun b y q1 q2=>k3 b (fun q=>by rw[q,A]at q1;omega))⟩
   |false=>
    rw[l]at Q
    have ef:g.c.fin=none:=by
     cases h:g.c.fin with
     |none=>rfl
     |some q=>rw[h]at l;cases l
    refine jA (aI @cj @gx) ?_;refine bz Q jO (fun _ _ h=>h.elim) ?_;refine jB ?_;refine fK trivial trivial n 0 _ E C (show 0+4<=4 by decide) ?_;refine jB ?_;have fd:=Zm (Y:=Y) (d:=d+15) (tk:=o) (ok:=ok) x' z.xi z.at_ jO X (S.length:Int);rw[s]at fd;refine aN aE fd jO WW fun v1 y5 n1 x5 u6 v4=> ?_;obtain⟨rfl,L1,m1,b1,b2,x1⟩:=v4;have nW:∀{b},G b=0->¬WX G b:=fun y q=>by have:=q.1;omega
    have w6:=(u6 n C (nW N)).trans E;have w3:=(u6 (n+1) p (nW A)).trans u4;refine cq (W:=WX L) (n0:=n) (sz:=4) trivial (vs:=rC m.a (a+ot win S g a (S.length:Int)) o ok) rfl rfl rfl w6 jO (.inl (ah n)) _ fun h2 D k2=> ?_;have l1:L1 n=0:=(b1 n C).trans N;have T:L1 (n+1)=0:=(b1 (n+1) p).trans A;have O:=(k2 (n+1) jO).trans w3;have x2:=x1.au (h':=h2) (ah _) (fun _ _=>rfl) (fun b y q1 q2=>k2 b (fun q=>by rw[q,l1]at q1;omega));have i2:=z.Lo (S.length:Int);have u3:=D;unfold rC at u3;refine jA @u3 ?_;have st:=Ll (Y:=Y) (d:=d+1) x2 i2.xi hK jO jO u0 100000 v7;rw[b2.trans s]at st
    have W1:∀b,b<n1->WX L1 b->n<=b∨WX L b:=fun b y q=>by
     by_cases c:b<n
     ·refine .inr ?_;unfold WX at q⊢;rw[b1 b jO,u b jO,fw c]at q;exact q
     ·exact .inl jO
    refine aN aE st jO W1 fun v3 h3 n3 y1 u5 v2=> ?_;obtain⟨k,e3,rfl,sp,L3,m3,c1,c2,x3⟩:=v2;have R:∀{b},L1 b=0->¬WX L1 b:=fun y q=>by have:=q.1;omega
    have w5:=(u5 n jO (R l1)).trans D;have w0:=(u5 (n+1) jO (R T)).trans O;have l3:L3 n=0:=(c1 n jO).trans l1;have x8:L3 (n+1)=0:=(c1 (n+1) jO).trans T;have i3:=i2.gone sp;have ob:=I i3;have mu:=prog (B:=100000) jD z ef h1 hw sp
    have W3:∀b,b<n3->WX L3 b->n<=b∨WX L b:=fun b y q=>by
     by_cases c:b<n
     ·refine .inr ?_;unfold WX at q⊢;rw[c1 b jO,b1 b jO,u b jO,fw c]at q;exact q
     ·exact .inl jO
    refine jB ?_;refine Zo (d:=d+17) 100000 _ x3 (c2.trans (b2.trans s)) w5 jO l3 W3 (by show e3.out.length<=100000;omega) jO jO fun h4 ov x4 w4 k4=> ?_;have v9:=(k4 (n+1) jO (fun q=>by have:=q.1;omega) jO).trans w0;have U:=i3.taken e3.out.length;rw[iY,sO]at U;have w1:IntKind.i64.wrap ((j:Int)+1)=((j+1:Nat):Int):=by rw[aH jO jO];rfl
    have w2:(j:Int)+1=((j+1:Nat):Int):=rfl;refine jA (aI @w1 @w2) ?_;refine ih (r-1) jO (j+1) P h4 n3 L3 {m3 with ov:=ov} _ _ _ jO jO jO (by rw[bE];omega) jO w4 v9 (fun b y=>(c1 b jO).trans ((b1 b jO).trans (u b y))) (c2.trans (b2.trans s)) x4 U
 have u9:xc K S e<=93902:=by
  unfold xc;have u1:(if e.ended=true then 0 else 1)<=1:=by split<;>omega
  have u2:(if e.out=[]then 0 else 1)<=1:=by split<;>omega
  omega
 exact v0 93902 0 Y h0 (n+1+1) (Lz n L) m e at_ tk u9 jO jO jO (ah _) gd ge (fun _ _=>rfl) rfl u7 i
end
end Go.Proofs.YtmjolmggelkjlaaGreat
namespace Go.Proofs.YtmjolmggelkjlaaGreat.Ev
open Go Go.RowKit
theorem alJ{P:Program}{kn:List FuncId}(i:qU P=true)(c:pY P kn=true)(a:P.follows .mixedOrders=true)(j:sX P kn)(hd:kD P=true){gt:Nat->Hint}{Y d:Nat}{f:FuncId}{w:World}{m:Mp}{h:H}(x:Laid P w m h P.globals.size)(b:AK (o8 kn P gt Y d f #[] h P.globals.size)=true):
 Calls P f #[] w fun e w'=>e= .returned (.bool true)∧Below w.heap.size w w':=by
 cases g:o8 kn P gt Y d f #[] h P.globals.size with
 |none=>rw[g]at b;cases b
 |some o=>obtain⟨v,p,n,L⟩:=o;rw[g]at b;obtain⟨l,k⟩:=BD hd d f #[] h _ v p n L g;refine acS i c a j x (fuel:=l) ?_;have e:cH P kn l f #[] h P.globals.size=some ⟨v,p,n,L⟩:=k l (ah _);rw[e];exact b
noncomputable def EK:Nat->Type
 |0=>M Value
 |n+1=>Value->EK n
noncomputable def aD:(n:Nat)->EK n->(List Value->M Value)->List Value->M Value
 |0,F,_,[]=>F
 |n+1,F,K,v::s=>aD n (F v) (fun s=>K (v::s)) s
 |0,_,K,x::s=>K (x::s)
 |_+1,_,K,[]=>K []
noncomputable def Zq:(n:Nat)->EK n->(List Value->M Value)->Prop
 |0,F,K=>F=K []
 |n+1,F,K=>∀v,Zq n (F v) (fun s=>K (v::s))
theorem aG:∀(n:Nat) (F:EK n) (K:List Value->M Value),Zq n F K->aD n F K=K:=by
 intro n
 induction n with
 |zero=>
  intro F K h;funext s;cases s with
  |nil=>exact h
  |cons x s=>rfl
 |succ n a=>
  intro F K h;funext s;cases s with
  |nil=>rfl
  |cons v s=>show aD n (F v) (fun s=>K (v::s)) s=_;rw[a (F v) (fun s=>K (v::s)) (h v)]
noncomputable def EL {a:Type} (f:Nat):List (Nat×a)->Option a
 |[]=>none
 |p::r=>match bV p.1 f with
  |true=>some p.2
  |false=>EL f r
abbrev Ag:=List (Nat×(Nat->(FuncId->Array Value->M Value)->List Value->M Value))
noncomputable def EM (C:Nat->FuncId->Array Value->M Value):Ag->Prop
 |[]=>True
 |p::r=>(∀d,p.2 d (C d)=fun l=>C (d+1) p.1 l.toArray)∧EM C r
theorem Zs{C:Nat->FuncId->Array Value->M Value}{f:Nat}{E:Nat->(FuncId->Array Value->M Value)->List Value->M Value}:∀{T:Ag},EM C T->EL f T=some E->∀d,E d (C d)=fun l=>C (d+1) f l.toArray
 |[],_,h=>by cases h
 |p::r,ok,h=>by
  unfold EL at h;cases a:bV p.1 f with
  |true=>rw[a]at h;cases h;rw[<-Nat.eq_of_beq_eq_true a];exact ok.1
  |false=>rw[a]at h;exact Zs ok.2 h
noncomputable def EN (C:Nat->FuncId->Array Value->M Value) (T:Ag):Nat->FuncId->Array Value->M Value
 |0,f,a=>C 0 f a
 |d+1,f,a=>match EL f T with
  |some E=>E d (EN C T d) a.toList
  |none=>C (d+1) f a
theorem Zt{C:Nat->FuncId->Array Value->M Value}{T:Ag}(ok:EM C T):∀d,EN C T d=C d
 |0=>rfl
 |d+1=>by
  have b:=Zt ok d;funext f a;unfold EN;rw[b];split
  ·rename_i E c;rw[Zs ok c d]
  ·rfl
end Go.Proofs.YtmjolmggelkjlaaGreat.Ev
namespace Go.Proofs.YtmjolmggelkjlaaGreat
open Go Ev
def sF:List FuncId:=[65,183]
noncomputable section
def eC(Y:Nat):Nat->FuncId->Array Value->M Value:=o8 sF aa gt Y
theorem aF{Y d:Nat}{f:FuncId}{a:Array Value}{X:M Value}(s:ax aa gt Y (eC Y d) f a=X)(h:sF.contains f=false:=by rfl):X=eC Y (d+1) f a:=by
 show X=(match sF.contains f with
  |true=>_
  |false=>ax aa gt Y (eC Y d) f a:M Value)
 rw[h];exact s.symm
def Zu(Y:Nat):Ag:=[(28,fun d r=>aD 0 (inside (Hf Y r)) fun l=>eC Y (d+1) 28 l.toArray),
 (29,fun d r=>aD 3 (fun a b c=>inside (Hg Y r a b c)) fun l=>eC Y (d+1) 29 l.toArray),
 (24,fun d r=>aD 3 (fun a b c=>inside (Hd Y r a b c)) fun l=>eC Y (d+1) 24 l.toArray),
 (40,fun d r=>aD 2 (fun a b=>inside (Hn Y r a b)) fun l=>eC Y (d+1) 40 l.toArray),
 (39,fun d r=>aD 2 (fun a b=>inside (BZ Y r a b)) fun l=>eC Y (d+1) 39 l.toArray),
 (82,fun d r=>aD 1 (fun a=>inside (Hw Y r a)) fun l=>eC Y (d+1) 82 l.toArray),
 (31,fun d r=>aD 1 (fun a=>inside (Hj Y r a)) fun l=>eC Y (d+1) 31 l.toArray),
 (32,fun d r=>aD 1 (fun a=>inside (Hk Y r a)) fun l=>eC Y (d+1) 32 l.toArray),
 (38,fun d r=>aD 1 (fun a=>inside (Hm Y r a)) fun l=>eC Y (d+1) 38 l.toArray),
 (83,fun d r=>aD 2 (fun a b=>inside (Hx Y r a b)) fun l=>eC Y (d+1) 83 l.toArray),
 (58,fun d r=>aD 1 (fun a=>inside (Ho Y r a)) fun l=>eC Y (d+1) 58 l.toArray),
 (84,fun d r=>aD 2 (fun a b=>inside (Hy Y r a b)) fun l=>eC Y (d+1) 84 l.toArray),
 (59,fun d r=>aD 1 (fun a=>inside (Hp Y r a)) fun l=>eC Y (d+1) 59 l.toArray),
 (72,fun d r=>aD 1 (fun a=>inside (Qn Y r a)) fun l=>eC Y (d+1) 72 l.toArray),
 (73,fun d r=>aD 2 (fun a b=>inside (Hr Y r a b)) fun l=>eC Y (d+1) 73 l.toArray),
 (75,fun d r=>aD 1 (fun a=>inside (Qu Y r a)) fun l=>eC Y (d+1) 75 l.toArray),
 (74,fun d r=>aD 2 (fun a b=>inside (Qt Y r a b)) fun l=>eC Y (d+1) 74 l.toArray),
 (77,fun d r=>aD 1 (fun a=>inside (Qw Y r a)) fun l=>eC Y (d+1) 77 l.toArray),
 (76,fun d r=>aD 1 (fun a=>inside (Qv Y r a)) fun l=>eC Y (d+1) 76 l.toArray),
 (85,fun d r=>aD 1 (fun a=>inside (Hz Y r a)) fun l=>eC Y (d+1) 85 l.toArray),
 (90,fun d r=>aD 2 (fun a b=>inside (HC Y r a b)) fun l=>eC Y (d+1) 90 l.toArray),
 (37,fun d r=>aD 1 (fun a=>inside (Hl Y r a)) fun l=>eC Y (d+1) 37 l.toArray),
 (88,fun d r=>aD 1 (fun a=>inside (HA Y r a)) fun l=>eC Y (d+1) 88 l.toArray),
 (89,fun d r=>aD 1 (fun a=>inside (HB Y r a)) fun l=>eC Y (d+1) 89 l.toArray),
 (96,fun d r=>aD 2 (fun a b=>inside (HD Y r a b)) fun l=>eC Y (d+1) 96 l.toArray),
 (61,fun d r=>aD 1 (fun a=>inside (B4 Y r a)) fun l=>eC Y (d+1) 61 l.toArray),
 (108,fun d r=>aD 1 (fun a=>inside (HH Y r a)) fun l=>eC Y (d+1) 108 l.toArray),
 (109,fun d r=>aD 1 (fun a=>inside (HI Y r a)) fun l=>eC Y (d+1) 109 l.toArray),
 (112,fun d r=>aD 1 (fun a=>inside (Cb Y r a)) fun l=>eC Y (d+1) 112 l.toArray),
 (110,fun d r=>aD 1 (fun a=>inside (Q6 Y r a)) fun l=>eC Y (d+1) 110 l.toArray),
 (111,fun d r=>aD 1 (fun a=>inside (Q7 Y r a)) fun l=>eC Y (d+1) 111 l.toArray),
 (25,fun d r=>aD 1 (fun a=>inside (BW Y r a)) fun l=>eC Y (d+1) 25 l.toArray),
 (103,fun d r=>aD 2 (fun a b=>inside (B8 Y r a b)) fun l=>eC Y (d+1) 103 l.toArray),
 (114,fun d r=>aD 1 (fun a=>inside (HK Y r a)) fun l=>eC Y (d+1) 114 l.toArray),
 (113,fun d r=>aD 1 (fun a=>inside (HJ Y r a)) fun l=>eC Y (d+1) 113 l.toArray),
 (116,fun d r=>aD 1 (fun a=>inside (HM Y r a)) fun l=>eC Y (d+1) 116 l.toArray),
 (117,fun d r=>aD 2 (fun a b=>inside (HN Y r a b)) fun l=>eC Y (d+1) 117 l.toArray),
 (118,fun d r=>aD 1 (fun a=>inside (HO Y r a)) fun l=>eC Y (d+1) 118 l.toArray),
 (97,fun d r=>aD 1 (fun a=>inside (HE Y r a)) fun l=>eC Y (d+1) 97 l.toArray),
 (98,fun d r=>aD 1 (fun a=>inside (HF Y r a)) fun l=>eC Y (d+1) 98 l.toArray),
 (99,fun d r=>aD 2 (fun a b=>inside (HG Y r a b)) fun l=>eC Y (d+1) 99 l.toArray),
 (119,fun d r=>aD 1 (fun a=>inside (HP Y r a)) fun l=>eC Y (d+1) 119 l.toArray),
 (121,fun d r=>aD 1 (fun a=>inside (HR Y r a)) fun l=>eC Y (d+1) 121 l.toArray),
 (120,fun d r=>aD 1 (fun a=>inside (HQ Y r a)) fun l=>eC Y (d+1) 120 l.toArray),
 (137,fun d r=>aD 1 (fun a=>inside (H8 Y r a)) fun l=>eC Y (d+1) 137 l.toArray),
 (145,fun d r=>aD 2 (fun a b=>inside (Ii Y r a b)) fun l=>eC Y (d+1) 145 l.toArray),
 (139,fun d r=>aD 1 (fun a=>inside (H' Y r a)) fun l=>eC Y (d+1) 139 l.toArray),
 (138,fun d r=>aD 2 (fun a b=>inside (H9 Y r a b)) fun l=>eC Y (d+1) 138 l.toArray),
 (140,fun d r=>aD 1 (fun a=>inside (Cp Y r a)) fun l=>eC Y (d+1) 140 l.toArray),
 (141,fun d r=>aD 2 (fun a b=>inside (Ia Y r a b)) fun l=>eC Y (d+1) 141 l.toArray),
 (142,fun d r=>aD 2 (fun a b=>inside (Ib Y r a b)) fun l=>eC Y (d+1) 142 l.toArray),
 (143,fun d r=>aD 1 (fun a=>inside (Ic Y r a)) fun l=>eC Y (d+1) 143 l.toArray),
 (144,fun d r=>aD 2 (fun a b=>inside (Ig Y r a b)) fun l=>eC Y (d+1) 144 l.toArray),
 (78,fun d r=>aD 2 (fun a b=>inside (Hs Y r a b)) fun l=>eC Y (d+1) 78 l.toArray),
 (63,fun d r=>aD 1 (fun a=>inside (yl Y r a)) fun l=>eC Y (d+1) 63 l.toArray),
 (147,fun d r=>aD 2 (fun a b=>inside (Cu Y r a b)) fun l=>eC Y (d+1) 147 l.toArray),
 (148,fun d r=>aD 1 (fun a=>inside (Ij Y r a)) fun l=>eC Y (d+1) 148 l.toArray),
 (149,fun d r=>aD 2 (fun a b=>inside (Ik Y r a b)) fun l=>eC Y (d+1) 149 l.toArray),
 (150,fun d r=>aD 2 (fun a b=>inside (Cw Y r a b)) fun l=>eC Y (d+1) 150 l.toArray),
 (151,fun d r=>aD 1 (fun a=>inside (Il Y r a)) fun l=>eC Y (d+1) 151 l.toArray),
 (122,fun d r=>aD 1 (fun a=>inside (HS Y r a)) fun l=>eC Y (d+1) 122 l.toArray),
 (123,fun d r=>aD 2 (fun a b=>inside (HU Y r a b)) fun l=>eC Y (d+1) 123 l.toArray),
 (152,fun d r=>aD 2 (fun a b=>inside (Im Y r a b)) fun l=>eC Y (d+1) 152 l.toArray),
 (153,fun d r=>aD 0 (inside (Io Y r)) fun l=>eC Y (d+1) 153 l.toArray),
 (154,fun d r=>aD 0 (inside (Iq Y r)) fun l=>eC Y (d+1) 154 l.toArray),
 (179,fun d r=>aD 1 (fun a=>inside (CL Y r a)) fun l=>eC Y (d+1) 179 l.toArray),
 (171,fun d r=>aD 3 (fun a b c=>inside (SX Y r a b c)) fun l=>eC Y (d+1) 171 l.toArray),
 (170,fun d r=>aD 2 (fun a b=>inside (SW Y r a b)) fun l=>eC Y (d+1) 170 l.toArray),
 (172,fun d r=>aD 2 (fun a b=>inside (CA Y r a b)) fun l=>eC Y (d+1) 172 l.toArray),
 (166,fun d r=>aD 1 (fun a=>inside (Iz Y r a)) fun l=>eC Y (d+1) 166 l.toArray),
 (173,fun d r=>aD 2 (fun a b=>inside (IC Y r a b)) fun l=>eC Y (d+1) 173 l.toArray),
 (167,fun d r=>aD 2 (fun a b=>inside (Cy Y r a b)) fun l=>eC Y (d+1) 167 l.toArray),
 (174,fun d r=>aD 1 (fun a=>inside (S4 Y r a)) fun l=>eC Y (d+1) 174 l.toArray),
 (175,fun d r=>aD 2 (fun a b=>inside (IE Y r a b)) fun l=>eC Y (d+1) 175 l.toArray),
 (176,fun d r=>aD 2 (fun a b=>inside (IG Y r a b)) fun l=>eC Y (d+1) 176 l.toArray),
 (177,fun d r=>aD 1 (fun a=>inside (IH Y r a)) fun l=>eC Y (d+1) 177 l.toArray),
 (178,fun d r=>aD 1 (fun a=>inside (CJ Y r a)) fun l=>eC Y (d+1) 178 l.toArray),
 (181,fun d r=>aD 1 (fun a=>inside (IL Y r a)) fun l=>eC Y (d+1) 181 l.toArray),
 (182,fun d r=>aD 1 (fun a=>inside (IM Y r a)) fun l=>eC Y (d+1) 182 l.toArray),
 (184,fun d r=>aD 2 (fun a b=>inside (IP Y r a b)) fun l=>eC Y (d+1) 184 l.toArray),
 (185,fun d r=>aD 1 (fun a=>inside (IQ Y r a)) fun l=>eC Y (d+1) 185 l.toArray),
 (186,fun d r=>aD 1 (fun a=>inside (IU Y r a)) fun l=>eC Y (d+1) 186 l.toArray),
 (155,fun d r=>aD 2 (fun a b=>inside (Ir Y r a b)) fun l=>eC Y (d+1) 155 l.toArray),
 (156,fun d r=>aD 2 (fun a b=>inside (Cx Y r a b)) fun l=>eC Y (d+1) 156 l.toArray),
 (157,fun d r=>aD 2 (fun a b=>inside (It Y r a b)) fun l=>eC Y (d+1) 157 l.toArray),
 (158,fun d r=>aD 2 (fun a b=>inside (Iu Y r a b)) fun l=>eC Y (d+1) 158 l.toArray),
 (187,fun d r=>aD 0 (inside (CO Y r)) fun l=>eC Y (d+1) 187 l.toArray),
 (203,fun d r=>aD 2 (fun a b=>inside (I3 Y r a b)) fun l=>eC Y (d+1) 203 l.toArray),
 (202,fun d r=>aD 2 (fun a b=>inside (I2 Y r a b)) fun l=>eC Y (d+1) 202 l.toArray),
 (204,fun d r=>aD 1 (fun a=>inside (I4 Y r a)) fun l=>eC Y (d+1) 204 l.toArray),
 (205,fun d r=>aD 2 (fun a b=>inside (I5 Y r a b)) fun l=>eC Y (d+1) 205 l.toArray),
 (206,fun d r=>aD 1 (fun a=>inside (I7 Y r a)) fun l=>eC Y (d+1) 206 l.toArray),
 (207,fun d r=>aD 2 (fun a b=>inside (CZ Y r a b)) fun l=>eC Y (d+1) 207 l.toArray),
 (209,fun d r=>aD 1 (fun a=>inside (C1 Y r a)) fun l=>eC Y (d+1) 209 l.toArray),
 (214,fun d r=>aD 3 (fun a b c=>inside (Ja Y r a b c)) fun l=>eC Y (d+1) 214 l.toArray),
 (188,fun d r=>aD 2 (fun a b=>inside (CQ Y r a b)) fun l=>eC Y (d+1) 188 l.toArray),
 (189,fun d r=>aD 1 (fun a=>inside (IV Y r a)) fun l=>eC Y (d+1) 189 l.toArray),
 (190,fun d r=>aD 2 (fun a b=>inside (IW Y r a b)) fun l=>eC Y (d+1) 190 l.toArray),
 (191,fun d r=>aD 1 (fun a=>inside (IX Y r a)) fun l=>eC Y (d+1) 191 l.toArray),
 (192,fun d r=>aD 1 (fun a=>inside (IY Y r a)) fun l=>eC Y (d+1) 192 l.toArray),
 (127,fun d r=>aD 2 (fun a b=>inside (HW Y r a b)) fun l=>eC Y (d+1) 127 l.toArray),
 (193,fun d r=>aD 1 (fun a=>inside (CS Y r a)) fun l=>eC Y (d+1) 193 l.toArray),
 (220,fun d r=>aD 2 (fun a b=>inside (Je Y r a b)) fun l=>eC Y (d+1) 220 l.toArray),
 (219,fun d r=>aD 1 (fun a=>inside (UL Y r a)) fun l=>eC Y (d+1) 219 l.toArray),
 (221,fun d r=>aD 2 (fun a b=>inside (Jf Y r a b)) fun l=>eC Y (d+1) 221 l.toArray),
 (222,fun d r=>aD 1 (fun a=>inside (Jh Y r a)) fun l=>eC Y (d+1) 222 l.toArray),
 (217,fun d r=>aD 3 (fun a b c=>inside (C4 Y r a b c)) fun l=>eC Y (d+1) 217 l.toArray),
 (223,fun d r=>aD 1 (fun a=>inside (Jj Y r a)) fun l=>eC Y (d+1) 223 l.toArray),
 (215,fun d r=>aD 2 (fun a b=>inside (Jb Y r a b)) fun l=>eC Y (d+1) 215 l.toArray),
 (216,fun d r=>aD 2 (fun a b=>inside (Jc Y r a b)) fun l=>eC Y (d+1) 216 l.toArray),
 (234,fun d r=>aD 1 (fun a=>inside (U' Y r a)) fun l=>eC Y (d+1) 234 l.toArray),
 (235,fun d r=>aD 1 (fun a=>inside (Jq Y r a)) fun l=>eC Y (d+1) 235 l.toArray),
 (236,fun d r=>aD 2 (fun a b=>inside (Jr Y r a b)) fun l=>eC Y (d+1) 236 l.toArray),
 (228,fun d r=>aD 2 (fun a b=>inside (Jk Y r a b)) fun l=>eC Y (d+1) 228 l.toArray),
 (229,fun d r=>aD 2 (fun a b=>inside (Jl Y r a b)) fun l=>eC Y (d+1) 229 l.toArray),
 (230,fun d r=>aD 1 (fun a=>inside (Jm Y r a)) fun l=>eC Y (d+1) 230 l.toArray),
 (231,fun d r=>aD 1 (fun a=>inside (Jn Y r a)) fun l=>eC Y (d+1) 231 l.toArray),
 (232,fun d r=>aD 2 (fun a b=>inside (Jo Y r a b)) fun l=>eC Y (d+1) 232 l.toArray),
 (233,fun d r=>aD 1 (fun a=>inside (Dd Y r a)) fun l=>eC Y (d+1) 233 l.toArray),
 (244,fun d r=>aD 2 (fun a b=>inside (Vm Y r a b)) fun l=>eC Y (d+1) 244 l.toArray),
 (238,fun d r=>aD 1 (fun a=>inside (Js Y r a)) fun l=>eC Y (d+1) 238 l.toArray),
 (239,fun d r=>aD 2 (fun a b=>inside (Jt Y r a b)) fun l=>eC Y (d+1) 239 l.toArray),
 (240,fun d r=>aD 2 (fun a b=>inside (Ju Y r a b)) fun l=>eC Y (d+1) 240 l.toArray),
 (241,fun d r=>aD 2 (fun a b=>inside (Jv Y r a b)) fun l=>eC Y (d+1) 241 l.toArray),
 (242,fun d r=>aD 2 (fun a b=>inside (Jw Y r a b)) fun l=>eC Y (d+1) 242 l.toArray),
 (243,fun d r=>aD 1 (fun a=>inside (Jx Y r a)) fun l=>eC Y (d+1) 243 l.toArray),
 (126,fun d r=>aD 1 (fun a=>inside (HV Y r a)) fun l=>eC Y (d+1) 126 l.toArray),
 (245,fun d r=>aD 1 (fun a=>inside (Df Y r a)) fun l=>eC Y (d+1) 245 l.toArray),
 (246,fun d r=>aD 2 (fun a b=>inside (Jy Y r a b)) fun l=>eC Y (d+1) 246 l.toArray),
 (247,fun d r=>aD 1 (fun a=>inside (Jz Y r a)) fun l=>eC Y (d+1) 247 l.toArray),
 (248,fun d r=>aD 2 (fun a b=>inside (JA Y r a b)) fun l=>eC Y (d+1) 248 l.toArray),
 (249,fun d r=>aD 1 (fun a=>inside (JB Y r a)) fun l=>eC Y (d+1) 249 l.toArray),
 (250,fun d r=>aD 2 (fun a b=>inside (JC Y r a b)) fun l=>eC Y (d+1) 250 l.toArray),
 (251,fun d r=>aD 2 (fun a b=>inside (JD Y r a b)) fun l=>eC Y (d+1) 251 l.toArray),
 (252,fun d r=>aD 1 (fun a=>inside (JE Y r a)) fun l=>eC Y (d+1) 252 l.toArray),
 (253,fun d r=>aD 2 (fun a b=>inside (JF Y r a b)) fun l=>eC Y (d+1) 253 l.toArray),
 (254,fun d r=>aD 1 (fun a=>inside (JG Y r a)) fun l=>eC Y (d+1) 254 l.toArray),
 (255,fun d r=>aD 2 (fun a b=>inside (JH Y r a b)) fun l=>eC Y (d+1) 255 l.toArray),
 (256,fun d r=>aD 2 (fun a b=>inside (JI Y r a b)) fun l=>eC Y (d+1) 256 l.toArray),
 (257,fun d r=>aD 1 (fun a=>inside (Dh Y r a)) fun l=>eC Y (d+1) 257 l.toArray),
 (258,fun d r=>aD 1 (fun a=>inside (Di Y r a)) fun l=>eC Y (d+1) 258 l.toArray),
 (259,fun d r=>aD 1 (fun a=>inside (JJ Y r a)) fun l=>eC Y (d+1) 259 l.toArray),
 (260,fun d r=>aD 0 (inside (JK Y r)) fun l=>eC Y (d+1) 260 l.toArray),
 (261,fun d r=>aD 1 (fun a=>inside (JL Y r a)) fun l=>eC Y (d+1) 261 l.toArray),
 (262,fun d r=>aD 1 (fun a=>inside (Dk Y r a)) fun l=>eC Y (d+1) 262 l.toArray),
 (263,fun d r=>aD 2 (fun a b=>inside (JM Y r a b)) fun l=>eC Y (d+1) 263 l.toArray),
 (264,fun d r=>aD 2 (fun a b=>inside (JN Y r a b)) fun l=>eC Y (d+1) 264 l.toArray),
 (180,fun d r=>aD 1 (fun a=>inside (CM Y r a)) fun l=>eC Y (d+1) 180 l.toArray),
 (265,fun d r=>aD 2 (fun a b=>inside (JO Y r a b)) fun l=>eC Y (d+1) 265 l.toArray),
 (266,fun d r=>aD 1 (fun a=>inside (JP Y r a)) fun l=>eC Y (d+1) 266 l.toArray),
 (268,fun d r=>aD 1 (fun a=>inside (JR Y r a)) fun l=>eC Y (d+1) 268 l.toArray),
 (267,fun d r=>aD 1 (fun a=>inside (zg Y r a)) fun l=>eC Y (d+1) 267 l.toArray),
 (269,fun d r=>aD 2 (fun a b=>inside (JS Y r a b)) fun l=>eC Y (d+1) 269 l.toArray),
 (270,fun d r=>aD 1 (fun a=>inside (JT Y r a)) fun l=>eC Y (d+1) 270 l.toArray),
 (271,fun d r=>aD 1 (fun a=>inside (JU Y r a)) fun l=>eC Y (d+1) 271 l.toArray),
 (272,fun d r=>aD 0 (inside (Dp Y r)) fun l=>eC Y (d+1) 272 l.toArray),
 (273,fun d r=>aD 2 (fun a b=>inside (Dq Y r a b)) fun l=>eC Y (d+1) 273 l.toArray),
 (274,fun d r=>aD 2 (fun a b=>inside (Dr Y r a b)) fun l=>eC Y (d+1) 274 l.toArray),
 (275,fun d r=>aD 2 (fun a b=>inside (JV Y r a b)) fun l=>eC Y (d+1) 275 l.toArray),
 (208,fun d r=>aD 1 (fun a=>inside (C0 Y r a)) fun l=>eC Y (d+1) 208 l.toArray),
 (276,fun d r=>aD 2 (fun a b=>inside (JW Y r a b)) fun l=>eC Y (d+1) 276 l.toArray),
 (277,fun d r=>aD 1 (fun a=>inside (JX Y r a)) fun l=>eC Y (d+1) 277 l.toArray),
 (278,fun d r=>aD 2 (fun a b=>inside (Du Y r a b)) fun l=>eC Y (d+1) 278 l.toArray),
 (279,fun d r=>aD 1 (fun a=>inside (JY Y r a)) fun l=>eC Y (d+1) 279 l.toArray),
 (280,fun d r=>aD 1 (fun a=>inside (JZ Y r a)) fun l=>eC Y (d+1) 280 l.toArray),
 (281,fun d r=>aD 2 (fun a b=>inside (J0 Y r a b)) fun l=>eC Y (d+1) 281 l.toArray),
 (282,fun d r=>aD 1 (fun a=>inside (Dw Y r a)) fun l=>eC Y (d+1) 282 l.toArray),
 (283,fun d r=>aD 2 (fun a b=>inside (J1 Y r a b)) fun l=>eC Y (d+1) 283 l.toArray),
 (284,fun d r=>aD 1 (fun a=>inside (J2 Y r a)) fun l=>eC Y (d+1) 284 l.toArray),
 (285,fun d r=>aD 3 (fun a b c=>inside (J3 Y r a b c)) fun l=>eC Y (d+1) 285 l.toArray),
 (286,fun d r=>aD 2 (fun a b=>inside (Dx Y r a b)) fun l=>eC Y (d+1) 286 l.toArray),
 (288,fun d r=>aD 3 (fun a b c=>inside (J5 Y r a b c)) fun l=>eC Y (d+1) 288 l.toArray),
 (287,fun d r=>aD 2 (fun a b=>inside (J4 Y r a b)) fun l=>eC Y (d+1) 287 l.toArray),
 (289,fun d r=>aD 2 (fun a b=>inside (Dy Y r a b)) fun l=>eC Y (d+1) 289 l.toArray)]
theorem alK(Y:Nat):EM (eC Y) (Zu Y):=⟨fun d=>aG _ _ _ (aF P0),
 ⟨fun d=>aG _ _ _ (fun a b c=>aF P1),
 ⟨fun d=>aG _ _ _ (fun a b c=>aF ada),
 ⟨fun d=>aG _ _ _ (fun a b=>aF Qe),
 ⟨fun d=>aG _ _ _ (fun a b=>aF Qd),
 ⟨fun d=>aG _ _ _ (fun a=>aF QD),
 ⟨fun d=>aG _ _ _ (fun a=>aF P4),
 ⟨fun d=>aG _ _ _ (fun a=>aF P5),
 ⟨fun d=>aG _ _ _ (fun a=>aF Qa),
 ⟨fun d=>aG _ _ _ (fun a b=>aF QE),
 ⟨fun d=>aG _ _ _ (fun a=>aF Qg),
 ⟨fun d=>aG _ _ _ (fun a b=>aF QF),
 ⟨fun d=>aG _ _ _ (fun a=>aF Qh),
 ⟨fun d=>aG _ _ _ (fun a=>aF adr),
 ⟨fun d=>aG _ _ _ (fun a b=>aF adu),
 ⟨fun d=>aG _ _ _ (fun a=>aF adw),
 ⟨fun d=>aG _ _ _ (fun a b=>aF adv),
 ⟨fun d=>aG _ _ _ (fun a=>aF ady),
 ⟨fun d=>aG _ _ _ (fun a=>aF adx),
 ⟨fun d=>aG _ _ _ (fun a=>aF QG),
 ⟨fun d=>aG _ _ _ (fun a b=>aF QM),
 ⟨fun d=>aG _ _ _ (fun a=>aF P'),
 ⟨fun d=>aG _ _ _ (fun a=>aF QJ),
 ⟨fun d=>aG _ _ _ (fun a=>aF QL),
 ⟨fun d=>aG _ _ _ (fun a b=>aF QN),
 ⟨fun d=>aG _ _ _ (fun a=>aF Qk),
 ⟨fun d=>aG _ _ _ (fun a=>aF adK),
 ⟨fun d=>aG _ _ _ (fun a=>aF adM),
 ⟨fun d=>aG _ _ _ (fun a=>aF Ra),
 ⟨fun d=>aG _ _ _ (fun a=>aF adN),
 ⟨fun d=>aG _ _ _ (fun a=>aF adO),
 ⟨fun d=>aG _ _ _ (fun a=>aF PW),
 ⟨fun d=>aG _ _ _ (fun a b=>aF QT),
 ⟨fun d=>aG _ _ _ (fun a=>aF adT),
 ⟨fun d=>aG _ _ _ (fun a=>aF adR),
 ⟨fun d=>aG _ _ _ (fun a=>aF Ri),
 ⟨fun d=>aG _ _ _ (fun a b=>aF Rj),
 ⟨fun d=>aG _ _ _ (fun a=>aF Rk),
 ⟨fun d=>aG _ _ _ (fun a=>aF QO),
 ⟨fun d=>aG _ _ _ (fun a=>aF QP),
 ⟨fun d=>aG _ _ _ (fun a b=>aF QQ),
 ⟨fun d=>aG _ _ _ (fun a=>aF Rl),
 ⟨fun d=>aG _ _ _ (fun a=>aF Rn),
 ⟨fun d=>aG _ _ _ (fun a=>aF Rm),
 ⟨fun d=>aG _ _ _ (fun a=>aF aec),
 ⟨fun d=>aG _ _ _ (fun a b=>aF Sn),
 ⟨fun d=>aG _ _ _ (fun a=>aF aeh),
 ⟨fun d=>aG _ _ _ (fun a b=>aF aee),
 ⟨fun d=>aG _ _ _ (fun a=>aF R7),
 ⟨fun d=>aG _ _ _ (fun a b=>aF aek),
 ⟨fun d=>aG _ _ _ (fun a b=>aF aem),
 ⟨fun d=>aG _ _ _ (fun a=>aF aep),
 ⟨fun d=>aG _ _ _ (fun a b=>aF aer),
 ⟨fun d=>aG _ _ _ (fun a b=>aF Qx),
 ⟨fun d=>aG _ _ _ (fun a=>aF Hq),
 ⟨fun d=>aG _ _ _ (fun a b=>aF Sr),
 ⟨fun d=>aG _ _ _ (fun a=>aF Ss),
 ⟨fun d=>aG _ _ _ (fun a b=>aF Su),
 ⟨fun d=>aG _ _ _ (fun a b=>aF Sx),
 ⟨fun d=>aG _ _ _ (fun a=>aF Sz),
 ⟨fun d=>aG _ _ _ (fun a=>aF Ro),
 ⟨fun d=>aG _ _ _ (fun a b=>aF Rp),
 ⟨fun d=>aG _ _ _ (fun a b=>aF SA),
 ⟨fun d=>aG _ _ _ (aF SB),
 ⟨fun d=>aG _ _ _ (aF SC),
 ⟨fun d=>aG _ _ _ (fun a=>aF Tv),
 ⟨fun d=>aG _ _ _ (fun a b c=>aF aeZ),
 ⟨fun d=>aG _ _ _ (fun a b=>aF aeY),
 ⟨fun d=>aG _ _ _ (fun a b=>aF S0),
 ⟨fun d=>aG _ _ _ (fun a=>aF SO),
 ⟨fun d=>aG _ _ _ (fun a b=>aF ae2),
 ⟨fun d=>aG _ _ _ (fun a b=>aF IA),
 ⟨fun d=>aG _ _ _ (fun a=>aF ae3),
 ⟨fun d=>aG _ _ _ (fun a b=>aF ae7),
 ⟨fun d=>aG _ _ _ (fun a b=>aF ae9),
 ⟨fun d=>aG _ _ _ (fun a=>aF afa),
 ⟨fun d=>aG _ _ _ (fun a=>aF Ts),
 ⟨fun d=>aG _ _ _ (fun a=>aF Tw),
 ⟨fun d=>aG _ _ _ (fun a=>aF Tx),
 ⟨fun d=>aG _ _ _ (fun a b=>aF Ty),
 ⟨fun d=>aG _ _ _ (fun a=>aF Tz),
 ⟨fun d=>aG _ _ _ (fun a=>aF TA),
 ⟨fun d=>aG _ _ _ (fun a b=>aF SD),
 ⟨fun d=>aG _ _ _ (fun a b=>aF SE),
 ⟨fun d=>aG _ _ _ (fun a b=>aF SF),
 ⟨fun d=>aG _ _ _ (fun a b=>aF SG),
 ⟨fun d=>aG _ _ _ (aF TF),
 ⟨fun d=>aG _ _ _ (fun a b=>aF afw),
 ⟨fun d=>aG _ _ _ (fun a b=>aF afu),
 ⟨fun d=>aG _ _ _ (fun a=>aF afy),
 ⟨fun d=>aG _ _ _ (fun a b=>aF afA),
 ⟨fun d=>aG _ _ _ (fun a=>aF afC),
 ⟨fun d=>aG _ _ _ (fun a b=>aF Ux),
 ⟨fun d=>aG _ _ _ (fun a=>aF UA),
 ⟨fun d=>aG _ _ _ (fun a b c=>aF UB),
 ⟨fun d=>aG _ _ _ (fun a b=>aF TI),
 ⟨fun d=>aG _ _ _ (fun a=>aF TJ),
 ⟨fun d=>aG _ _ _ (fun a b=>aF TK),
 ⟨fun d=>aG _ _ _ (fun a=>aF TL),
 ⟨fun d=>aG _ _ _ (fun a=>aF TM),
 ⟨fun d=>aG _ _ _ (fun a b=>aF Rr),
 ⟨fun d=>aG _ _ _ (fun a=>aF TP),
 ⟨fun d=>aG _ _ _ (fun a b=>aF afM),
 ⟨fun d=>aG _ _ _ (fun a=>aF afK),
 ⟨fun d=>aG _ _ _ (fun a b=>aF afP),
 ⟨fun d=>aG _ _ _ (fun a=>aF afS),
 ⟨fun d=>aG _ _ _ (fun a b c=>aF UG),
 ⟨fun d=>aG _ _ _ (fun a=>aF afU),
 ⟨fun d=>aG _ _ _ (fun a b=>aF UC),
 ⟨fun d=>aG _ _ _ (fun a b=>aF UD),
 ⟨fun d=>aG _ _ _ (fun a=>aF afV),
 ⟨fun d=>aG _ _ _ (fun a=>aF afX),
 ⟨fun d=>aG _ _ _ (fun a b=>aF afZ),
 ⟨fun d=>aG _ _ _ (fun a b=>aF U5),
 ⟨fun d=>aG _ _ _ (fun a b=>aF U6),
 ⟨fun d=>aG _ _ _ (fun a=>aF U7),
 ⟨fun d=>aG _ _ _ (fun a=>aF U8),
 ⟨fun d=>aG _ _ _ (fun a b=>aF U9),
 ⟨fun d=>aG _ _ _ (fun a=>aF Jp),
 ⟨fun d=>aG _ _ _ (fun a b=>aF af0),
 ⟨fun d=>aG _ _ _ (fun a=>aF Vg),
 ⟨fun d=>aG _ _ _ (fun a b=>aF Vh),
 ⟨fun d=>aG _ _ _ (fun a b=>aF Vi),
 ⟨fun d=>aG _ _ _ (fun a b=>aF Vj),
 ⟨fun d=>aG _ _ _ (fun a b=>aF Vk),
 ⟨fun d=>aG _ _ _ (fun a=>aF Vl),
 ⟨fun d=>aG _ _ _ (fun a=>aF Rq),
 ⟨fun d=>aG _ _ _ (fun a=>aF Vr),
 ⟨fun d=>aG _ _ _ (fun a b=>aF Vs),
 ⟨fun d=>aG _ _ _ (fun a=>aF Vt),
 ⟨fun d=>aG _ _ _ (fun a b=>aF Vu),
 ⟨fun d=>aG _ _ _ (fun a=>aF Vv),
 ⟨fun d=>aG _ _ _ (fun a b=>aF Vw),
 ⟨fun d=>aG _ _ _ (fun a b=>aF Vx),
 ⟨fun d=>aG _ _ _ (fun a=>aF Vy),
 ⟨fun d=>aG _ _ _ (fun a b=>aF Vz),
 ⟨fun d=>aG _ _ _ (fun a=>aF VA),
 ⟨fun d=>aG _ _ _ (fun a b=>aF VB),
 ⟨fun d=>aG _ _ _ (fun a b=>aF VC),
 ⟨fun d=>aG _ _ _ (fun a=>aF VF),
 ⟨fun d=>aG _ _ _ (fun a=>aF VI),
 ⟨fun d=>aG _ _ _ (fun a=>aF VJ),
 ⟨fun d=>aG _ _ _ (aF VK),
 ⟨fun d=>aG _ _ _ (fun a=>aF VL),
 ⟨fun d=>aG _ _ _ (fun a=>aF VO),
 ⟨fun d=>aG _ _ _ (fun a b=>aF VP),
 ⟨fun d=>aG _ _ _ (fun a b=>aF VQ),
 ⟨fun d=>aG _ _ _ (fun a=>aF IK),
 ⟨fun d=>aG _ _ _ (fun a b=>aF VS),
 ⟨fun d=>aG _ _ _ (fun a=>aF VT),
 ⟨fun d=>aG _ _ _ (fun a=>aF VY),
 ⟨fun d=>aG _ _ _ (fun a=>aF JQ),
 ⟨fun d=>aG _ _ _ (fun a b=>aF VZ),
 ⟨fun d=>aG _ _ _ (fun a=>aF V0),
 ⟨fun d=>aG _ _ _ (fun a=>aF V1),
 ⟨fun d=>aG _ _ _ (aF V4),
 ⟨fun d=>aG _ _ _ (fun a b=>aF V7),
 ⟨fun d=>aG _ _ _ (fun a b=>aF V'),
 ⟨fun d=>aG _ _ _ (fun a b=>aF Wa),
 ⟨fun d=>aG _ _ _ (fun a=>aF I'),
 ⟨fun d=>aG _ _ _ (fun a b=>aF Wb),
 ⟨fun d=>aG _ _ _ (fun a=>aF Wc),
 ⟨fun d=>aG _ _ _ (fun a b=>aF Wf),
 ⟨fun d=>aG _ _ _ (fun a=>aF Wg),
 ⟨fun d=>aG _ _ _ (fun a=>aF Wi),
 ⟨fun d=>aG _ _ _ (fun a b=>aF Wj),
 ⟨fun d=>aG _ _ _ (fun a=>aF Wn),
 ⟨fun d=>aG _ _ _ (fun a b=>aF Wo),
 ⟨fun d=>aG _ _ _ (fun a=>aF Wp),
 ⟨fun d=>aG _ _ _ (fun a b c=>aF Wq),
 ⟨fun d=>aG _ _ _ (fun a b=>aF Wu),
 ⟨fun d=>aG _ _ _ (fun a b c=>aF Ww),
 ⟨fun d=>aG _ _ _ (fun a b=>aF Wv),
 ⟨fun d=>aG _ _ _ (fun a b=>aF Wz),trivial⟩⟩⟩⟩⟩⟩⟩⟩⟩⟩⟩⟩⟩⟩⟩⟩⟩⟩⟩⟩⟩⟩⟩⟩⟩⟩⟩⟩⟩⟩⟩⟩⟩⟩⟩⟩⟩⟩⟩⟩⟩⟩⟩⟩⟩⟩⟩⟩⟩⟩⟩⟩⟩⟩⟩⟩⟩⟩⟩⟩⟩⟩⟩⟩⟩⟩⟩⟩⟩⟩⟩⟩⟩⟩⟩⟩⟩⟩⟩⟩⟩⟩⟩⟩⟩⟩⟩⟩⟩⟩⟩⟩⟩⟩⟩⟩⟩⟩⟩⟩⟩⟩⟩⟩⟩⟩⟩⟩⟩⟩⟩⟩⟩⟩⟩⟩⟩⟩⟩⟩⟩⟩⟩⟩⟩⟩⟩⟩⟩⟩⟩⟩⟩⟩⟩⟩⟩⟩⟩⟩⟩⟩⟩⟩⟩⟩⟩⟩⟩⟩⟩⟩⟩⟩⟩⟩⟩⟩⟩⟩⟩⟩⟩⟩⟩⟩⟩⟩⟩⟩⟩⟩⟩⟩
def Zv(Y:Nat):Nat->FuncId->Array Value->M Value:=EN (eC Y) (Zu Y)
theorem alL(Y d:Nat):Zv Y d=eC Y d:=Zt (alK Y) d
end
end Go.Proofs.YtmjolmggelkjlaaGreat
namespace Go.Proofs.YtmjolmggelkjlaaGreat
open Go.Shelf
def Tryz.Zw:an4:=⟨fun|105=>183|212=>210|99=>211|165=>212|166=>65|170=>213|169=>66|263=>224|264=>225|206=>226|240=>106|241=>227|276=>136|277=>237|n=>n,fun|9=>9|3=>3|4=>4|20=>20|0=>0|46=>222|109=>283|5=>5|72=>107|76=>110|51=>31|146=>292|53=>263|148=>294|70=>105|37=>73|75=>109|127=>163|164=>197|80=>112|n=>n,fun|n=>n⟩
theorem Tryz.alM:an5 aa Tryz.Zw:={
 mixed:=by kernel_rfl
 f99:=Tryz.func211.trans (congrArg some (by kernel_rfl))
 f105:=Tryz.func183.trans (congrArg some (by kernel_rfl))
 f165:=Tryz.func212.trans (congrArg some (by kernel_rfl))
 f166:=Tryz.func65.trans (congrArg some (by kernel_rfl))
 f169:=Tryz.func66.trans (congrArg some (by kernel_rfl))
 f170:=Tryz.func213.trans (congrArg some (by kernel_rfl))
 f206:=Tryz.func226.trans (congrArg some (by kernel_rfl))
 f212:=Tryz.func210.trans (congrArg some (by kernel_rfl))
 f240:=Tryz.func106.trans (congrArg some (by kernel_rfl))
 f241:=Tryz.func227.trans (congrArg some (by kernel_rfl))
 f263:=Tryz.func224.trans (congrArg some (by kernel_rfl))
 f264:=Tryz.func225.trans (congrArg some (by kernel_rfl))
 f276:=Tryz.func136.trans (congrArg some (by kernel_rfl))
 f277:=Tryz.func237.trans (congrArg some (by kernel_rfl))
 t0:=Tryz.underlying0
 a0:=Tryz.isAgg0
 z0:=Tryz.sizeOf0
 v0:=Tryz.zeroValue0
 t3:=anH
 a3:=Tryz.isAgg3
 z3:=Tryz.sizeOf3
 v3:=Tryz.zeroValue3
 t4:=Tryz.underlying4
 a4:=Tryz.isAgg4
 z4:=Tryz.sizeOf4
 v4:=Tryz.zeroValue4
 t5:=anI
 a5:=anJ
 z5:=anK
 v5:=anL
 t9:=anM
 a9:=Tryz.isAgg9
 z9:=Tryz.sizeOf9
 v9:=Tryz.zeroValue9
 t20:=Tryz.underlying20
 a20:=Tryz.isAgg20
 z20:=Tryz.sizeOf20
 v20:=Tryz.zeroValue20
 t37:=Tryz.underlying73
 a37:=Tryz.isAgg73
 z37:=Tryz.sizeOf73
 v37:=Tryz.zeroValue73
 t46:=Tryz.underlying222
 a46:=Tryz.isAgg222
 z46:=Tryz.sizeOf222
 v46:=Tryz.zeroValue222
 t51:=Tryz.underlying31
 a51:=Tryz.isAgg31
 z51:=Tryz.sizeOf31
 v51:=Tryz.zeroValue31
 t53:=Tryz.underlying263
 a53:=Tryz.isAgg263
 z53:=Tryz.sizeOf263
 v53:=Tryz.zeroValue263
 t70:=Tryz.underlying105
 a70:=Tryz.isAgg105
 z70:=Tryz.sizeOf105
 v70:=Tryz.zeroValue105
 t72:=Tryz.underlying107
 a72:=Tryz.isAgg107
 z72:=Tryz.sizeOf107
 v72:=Tryz.zeroValue107
 t75:=Tryz.underlying109
 a75:=Tryz.isAgg109
 z75:=Tryz.sizeOf109
 v75:=Tryz.zeroValue109
 t76:=Tryz.underlying110
 a76:=Tryz.isAgg110
 z76:=Tryz.sizeOf110
 v76:=Tryz.zeroValue110
 t109:=Tryz.underlying283
 a109:=Tryz.isAgg283
 z109:=Tryz.sizeOf283
 v109:=Tryz.zeroValue283
 t127:=Tryz.underlying163
 a127:=Tryz.isAgg163
 z127:=Tryz.sizeOf163
 v127:=Tryz.zeroValue163
 t146:=Tryz.underlying292
 a146:=Tryz.isAgg292
 z146:=Tryz.sizeOf292
 v146:=Tryz.zeroValue292
 t148:=Tryz.underlying294
 a148:=Tryz.isAgg294
 z148:=Tryz.sizeOf294
 v148:=Tryz.zeroValue294
 t164:=Tryz.underlying197
 a164:=Tryz.isAgg197
 z164:=Tryz.sizeOf197
 v164:=Tryz.zeroValue197}
theorem Tryz.alN:Builder.Extra aa Tryz.Zw:={
 sizeBuilder:=by kernel_rfl
 liesBuilder:=by kernel_rfl
 t5:=anI
 a5:=anJ
 z5:=anK
 v5:=anL
 infoByte:=by kernel_rfl
 cellsByte:=by kernel_rfl
 sizeByte:=by kernel_rfl
 neB5:=by decide}
open Go.RowKit Go.Lib in
theorem Tryz.strings_Repeat(s:ByteArray)(c:Nat)(w:World)(b:c<=9223372036854775807)(a:s.size*c<=140737488355328):
 Calls aa 183 #[.string s,jI c] w fun e w'=>e= .returned (.string ⟨(Lib.repeatL s.data.toList c).toArray⟩)∧Below w.heap.size w w':=Any.strings_Repeat Tryz.alM Tryz.alN s c w b a
end Go.Proofs.YtmjolmggelkjlaaGreat
namespace Go.Proofs.YtmjolmggelkjlaaGreat
open Go.RowKit Ev
theorem Zx:Ev.qU aa=true:=jK
theorem Zy:Tryz.prog.follows .mixedOrders=true:=jK
theorem alO:Ev.pY aa sF=true:=jK
theorem alP:Ev.pY aa Ev.KN=true:=jK
theorem Zz{kn:List FuncId}(b:∀f k,kn.contains f=true->qX f=some k->f=183∧k=2):Ev.FG aa kn:=by intro f k h d;obtain⟨rfl,rfl⟩:=b f k h d;exact⟨fun e=>(by cases e),fun _ s c w g a=>Tryz.strings_Repeat s c w jO (iV (xn a g) jD),fun e=>(by cases e),fun e=>(by cases e)⟩
theorem alQ:Ev.sX aa sF:=by
 refine⟨fun f b d c w _=> ?_,Zz fun f k a b=> ?_⟩
 ·have a:f=65∨f=183:=by simpa[sF]using b
  rcases a with rfl|rfl
  ·have e:Ev.qW aa 65=false:=jK;exact absurd (e.symm.trans c) jD
  ·exact absurd d jD
 ·have a:f=65∨f=183:=by simpa[sF]using a
  rcases a with rfl|rfl
  ·cases b
  ·cases b;exact⟨rfl,rfl⟩
set_option maxRecDepth 100000 in
theorem alR:Ev.AK ((inside (Hf 300000000 (Zv 300000000 1000))) .nil Tryz.prog.globals.size)=true:=jK
theorem alS(w:World):Calls aa 28 #[] w fun e w'=>e= .returned (.bool true)∧Below w.heap.size w w':=by obtain⟨m,x⟩:=OQ aa w;refine Ev.alJ (kn:=sF) Zx alO Zy alQ aE x (gt:=gt) (Y:=300000000) (d:=1001) ?_;have:=alR;rw[alL,aF P0]at this;exact this
theorem known:Ev.sX aa Ev.KN:=by
 refine⟨fun f a d c w _=> ?_,Zz fun f k b a=> ?_⟩
 ·have b:f=28∨f=65∨f=183:=by simpa[Ev.KN]using a
  rcases b with rfl|rfl|rfl
  ·exact alS w
  ·have e:Ev.qW aa 65=false:=jK;exact absurd (e.symm.trans c) jD
  ·exact absurd d jD
 ·have b:f=28∨f=65∨f=183:=by simpa[Ev.KN]using b
  rcases b with rfl|rfl|rfl
  ·cases a
  ·cases a
  ·cases a;exact⟨rfl,rfl⟩
end Go.Proofs.YtmjolmggelkjlaaGreat
namespace Go.Proofs.YtmjolmggelkjlaaGreat
open Go.RowKit Ev Cn Ip
set_option maxRecDepth 20000
theorem alT{Y d:Nat}{f:FuncId}{b:List TypeId}{vs:List Value}{w:World}(c:dR (qo aa w) b vs)(r:∀n h a,dR (mm aa h n) b a->af (fun _=>False) n (aj aa gt Y d f a.toArray) h n fun v _ _=>v= .bool true):
 Calls aa f vs.toArray w fun e w'=>e= .returned (.bool true)∧Below w.heap.size w w':=by
 obtain⟨m,x⟩:=OQ aa w;exact Ev.ac2 Zx alP Zy known aE c x fun n h a _ _ q=>r n h a q
theorem alU(Y d n:Nat)(h:H):af (fun _=>False) n (aj aa gt Y (d+1) 28 #[]) h n fun a h' n'=>a= .bool true∧h'=h∧n'=n:=by have e:aj aa gt Y (d+1) 28 #[]=(nk aa KG).bind fun _=>M.ret (.bool true):=jK;rw[e];have c:nk aa KG h n=some ⟨(),h,n,[]⟩:=rfl;refine af.step c (ah _) jS ?_;exact(kE _).2 ⟨rfl,rfl,rfl⟩
theorem Ah{a:Type}{Y d n n0:Nat}{h:H}{W:Nat->Prop}{Q:a->H->Nat->Prop}(b:n0<=n)(K:Value->M a)(y:af W n0 (K (.bool true)) h n Q):af W n0 (ai (aj aa gt Y (d+1)) 28 [] K) h n Q:=
 bz (alU Y d n h) b (fun _ _ h=>h.elim) y
theorem alV{h:H}{n:Nat}{v:Value}(x:mm aa h n 9 v):∃l:List UInt8,v= .string ⟨l.toArray⟩∧l.length<=maxLen:=by have c:jH aa 8 9=some [9]:=jK;have g:mN aa 9=false:=jK;exact agn (f:=7) anM (ago (P:=aa) (h:=h) (n:=n) (t:=9) (v:=v) c g x)
theorem Ai{h:H}{n f:Nat}{v:Value}(x:eI aa h n (f+1) 3 v):∃i,v=jI i∧-9223372036854775808<=i∧i<=9223372036854775807:=by obtain⟨i,rfl,a⟩:=agm (P:=aa) (f:=f) anH x;exact⟨i,rfl,agq a⟩
theorem alW:jH aa 8 55=some [3,3,3]:=jK
theorem alX:mN aa 55=true:=jK
theorem alY{h:H}{n:Nat}{v:Value}(x:mm aa h n 55 v):∃a b c:Int,v= .agg #[jI a,jI b,jI c]:=by obtain⟨g,rfl,e⟩:=agp alW alX x;obtain⟨a,b,c,rfl,q1,q2,d⟩:=WH e;obtain⟨i,rfl,_⟩:=Ai (f:=7) q1;obtain⟨j,rfl,_⟩:=Ai (f:=7) q2;obtain⟨k,rfl,_⟩:=Ai (f:=7) d;exact⟨i,j,k,rfl⟩
def ou(p:Int×Int):List Value:=[jI p.1,jI p.2]
def lU(h:H)(n:Nat)(v:Value)(l:List (Int×Int)):Prop:=(∃a,v= .slice a 0 0∧(∀b o,a≠some ⟨b,o,none⟩)∧l=[])∨∃b,v= .slice (some ⟨b,0,none⟩) l.length (bh+l.length)∧h.get b=some ⟨67,false,l.flatMap ou⟩∧b<n
theorem alZ:jH aa 8 67=some [3,3]:=jK
theorem ZA{h:H}{n f:Nat}:∀(m:Nat) (cs:List Value),cs.length=m*2->(∀i,i<m->dR (eI aa h n (f+1)) [3,3] ((cs.drop (i*2)).take 2))->∃l:List (Int×Int),l.length=m∧cs=l.flatMap ou
 |0,cs,a,_=>⟨[],rfl,List.length_eq_zero_iff.1 jO⟩
 |m+1,[],a,b=>by simp at a
 |m+1,[k],a,b=>by simp at a;omega
 |m+1,k::p::cs,a,b=>by
  have x0:=b 0 (Nat.zero_lt_succ _);obtain⟨d,c,_⟩:=x0;obtain⟨e,rfl,_⟩:=Ai d;obtain⟨i1,rfl,_⟩:=Ai c
  obtain⟨l,j,g⟩:=ZA m cs (by simp only[cK]at a;omega) fun i o=>by have:=b (i+1) jO;rw[show(i+1)*2=i*2+1+1 by omega]at this;exact this
  exact⟨(e,i1)::l,by rw[cK,j],by rw[anN,<-g];rfl⟩
theorem al0{h:H}{n:Nat}{v:Value}(x:mm aa h n 64 v):∃l,lU h n v l:=by
 have o:jH aa 8 64=some [64]:=jK;have i:mN aa 64=false:=jK;obtain⟨g,c,q⟩:=x;rw[o]at c;cases c;rcases q with ⟨q,_⟩|⟨_,q⟩
 ·rw[i]at q;cases q
 ·have q1:=q.1;unfold eI at q1;rw[Tryz.underlying64]at q1;rcases q1 with ⟨a,rfl,e⟩|⟨b,len,g,p,rfl,f,s,k,m,j,r,d⟩
  ·exact⟨[],.inl ⟨a,rfl,e,rfl⟩⟩
  ·rw[alZ]at f;cases f;obtain⟨l,rfl,rfl⟩:=ZA len p j d;exact⟨l,.inr ⟨b,rfl,k,m⟩⟩
theorem lU.au{h h':H}{n n':Nat}{v:Value}{l:List (Int×Int)}(x:lU h n v l)(d:n<=n')(a:∀b,b<n->h'.get b=h.get b):lU h' n' v l:=by
 rcases x with q|⟨b,e,g,c⟩
 ·exact .inl q
 ·exact .inr ⟨b,e,(a b c).trans g,jO⟩
theorem lU.len{h:H}{n:Nat}{v:Value}{l:List (Int×Int)}(x:lU h n v l):∃a c,v= .slice a l.length c:=by
 rcases x with ⟨a,rfl,_,rfl⟩|⟨b,rfl,_⟩
 ·exact⟨_,_,rfl⟩
 ·exact⟨_,_,rfl⟩
theorem ZB:∀l:List (Int×Int),(l.flatMap ou).length=l.length*2
 |[]=>rfl
 |p::l=>by rw[anN,bE,ZB l,cK];show 2+_=_;omega
theorem ZC:∀(l:List (Int×Int)) (i:Nat) (p:Int×Int),l[i]? =some p->((l.flatMap ou).drop (i*2)).take 2=ou p
 |[],_,_,h=>by cases h
 |q::l,0,p,h=>by cases h;rfl
 |q::l,i+1,p,h=>by have:=ZC l i p h;rw[show(i+1)*2=i*2+1+1 by omega];exact this
section
variable {β:Type} {W:Nat->Prop} {n0:Nat} {h:H} {n:Nat} {Q:β->H->Nat->Prop} {v:Value} {l:List (Int×Int)}
theorem al1 (x:lU h n v l) {i:Nat} {p:Int×Int} (d:l[i]? =some p) (f:n0<=n) (k:Value->M β)
 (y:∀h',h'.get n=some ⟨67,true,ou p⟩->(∀c,c<n->h'.get c=h.get c)->af W n0 (k (jP n 0)) h' (n+1) Q):
 af W n0 (mh 2 v (jI (i:Int)) fun j=>aT 2 j fun q=>cy 67 BQ fun m=>aM 2 m q fun _=>k m) h n Q:=by
 have A:i<l.length:=(List.getElem?_eq_some_iff.1 d).1;rcases x with ⟨a,rfl,_,rfl⟩|⟨b,rfl,o,r⟩
 ·cases d
 ·rw[GQ _ 2 b 0 l.length (bh+l.length) .i64 (i:Int) jO jO];have u:0+(i:Int).toNat*2=i*2:=by rw[cR];omega
  rw[u];have z:=ZB l;refine fK trivial trivial b (i*2) _ o r (show i*2+2<=(l.flatMap ou).length by omega) ?_;refine dL rfl _ ?_;have t:((l.flatMap ou).drop (i*2)).take 2=ou p:=ZC l i p d;show af W n0 (aM 2 (jP n 0) (.agg (((l.flatMap ou).drop (i*2)).take 2).toArray) _) _ _ Q;rw[t];refine cq (W:=W) (n0:=n0) (sz:=2) (e:=67) (cs:=BQ) trivial (vs:=ou p) rfl rfl rfl (get_eq _ _ _) jO (.inl f) _ fun h' s g=> ?_;exact y h' s fun c B=>by rw[g c jO,aw _ _ jO]
end
end Go.Proofs.YtmjolmggelkjlaaGreat
namespace Go.Proofs.YtmjolmggelkjlaaGreat
open Go.RowKit Ev Cn Ip
def EO(u w l:Int):List Value:=[jI u,jI w,jI l]
def EP(u w l:Int):Bool:=decide ((24<=u∧u<=100000)∧(64<=w∧w<=1048576)∧1<=l∧l<=65536)
section
variable {Y d n:Nat} {h:H}
theorem al2(u w l:Int):af (fun _=>False) n (aj aa gt Y (d+2) 81 #[jI u,jI w,jI l]) h n fun v h' n'=>v= .bool (EP u w l)∧h'=h∧n'=n:=by
 rw[aC (fun _=>adD) rfl];refine af.aB ?_;unfold QC EP;refine bz (ajC (Y:=Y) (d:=d) u) (ah n) (fun _ _ h=>h.elim) ?_;by_cases f:24<=u∧u<=100000
 ·rw[decide_eq_true f];by_cases a:64<=w
  ·by_cases b:w<=1048576
   ·by_cases c:1<=l
    ·by_cases e:l<=65536
     ·rw[decide_eq_true (show(24<=u∧u<=100000)∧(64<=w∧w<=1048576)∧1<=l∧l<=65536 from⟨f,⟨a,b⟩,c,e⟩)];exact jC (aI @a (aI @b (aI @c @e)))
     ·rw[decide_eq_false (show¬((24<=u∧u<=100000)∧(64<=w∧w<=1048576)∧1<=l∧l<=65536) by omega)];exact jC (aI @a (aI @b (aI @c @e)))
    ·rw[decide_eq_false (show¬((24<=u∧u<=100000)∧(64<=w∧w<=1048576)∧1<=l∧l<=65536) by omega)];exact jC (aI @a (aI @b @c))
   ·rw[decide_eq_false (show¬((24<=u∧u<=100000)∧(64<=w∧w<=1048576)∧1<=l∧l<=65536) by omega)];exact jC (aI @a @b)
  ·rw[decide_eq_false (show¬((24<=u∧u<=100000)∧(64<=w∧w<=1048576)∧1<=l∧l<=65536) by omega)];exact jC @a
 ·rw[decide_eq_false f,decide_eq_false (show¬((24<=u∧u<=100000)∧(64<=w∧w<=1048576)∧1<=l∧l<=65536) by omega)];exact jE
theorem al3(u w l:Int):af (fun _=>False) n (aj aa gt Y (d+3) 27 #[.agg (EO u w l).toArray]) h n fun v h' n'=>v= .bool (EP u w l):=by
 rw[aC (fun _=>adg) rfl];refine af.aB ?_;unfold PZ EO;refine gu trivial _ _ ?_;obtain⟨b,a⟩:∃q,h.set n (some ⟨55,true,(mC #[jI u,jI w,jI l]).cells.toList⟩)=q:=⟨_,rfl⟩;have c:b.get n=some ⟨55,true,[jI u,jI w,jI l]⟩:=by rw[<-a,get_eq];rfl
 have e:n<n+1:=dO n;rw[a];refine jA @c ?_;refine bz (al2 (Y:=Y) (d:=d) u w l) (eL n) (fun _ _ h=>h.elim) ?_;exact jE
theorem al4{Z win lim:Nat}(h1:Z<=100000)(h2:win<=1048576)(f:lim<=65536):af (fun _=>False) n (aj aa gt Y (d+1) 33 #[jI (Z:Int),jI (win:Int),jI (lim:Int)]) h n fun v h' n'=>v=jI ((win+lim+36*Z+40960:Nat):Int)∧h'=h∧n'=n:=by
 have e:IntKind.i64.wrap ((win:Int)+(lim:Int))=((win+lim:Nat):Int):=by rw[aH jO jO];rfl
 have c:IntKind.i64.wrap (36*(Z:Int))=((36*Z:Nat):Int):=by rw[aH jO jO];rfl
 have b:IntKind.i64.wrap (((win+lim:Nat):Int)+((36*Z:Nat):Int))=((win+lim+36*Z:Nat):Int):=by rw[aH jO jO];rfl
 have a:IntKind.i64.wrap (((win+lim+36*Z:Nat):Int)+40960)=((win+lim+36*Z+40960:Nat):Int):=by rw[aH jO jO];rfl
 rw[aC (fun _=>adj) rfl];refine af.aB ?_;unfold P6;exact jC (aI @e (aI @c (aI @b @a)))
end
structure lV (h:H) (n n0:Nat) (L Ly:Nat->Nat) (S:List UInt8) (Z win lim K bd bj a0:Nat) (m my:Xm) (e:Ex) (at_:Nat) (tk:List Nat):Prop where
 x:cN h n L Z win lim e m
 ma:m.a=a0
 i:fZ S Z win lim K e at_ tk
 y:cN h n Ly Z 1048576 65536 uP my
 dj:∀c,c<n->1<=Ly c->Ly c<=19->L c=0
 l0:∀c,c<n0->L c=0
 nn:n0<=n
 gd:h.get bd=some ⟨55,true,[jI (Z:Int),jI (win:Int),jI (lim:Int)]⟩
 hd:bd<n
 ld:L bd=0
 gj:h.get bj=some ⟨60,true,rC a0 at_ tk true⟩
 hj:bj<n
 lj:L bj=0
 nj:n0<=bj
 dz:bd≠bj
 yj:Ly bj=0
 yd:Ly bd=0
 y0:∀c,c<n0->Ly c=0
section
variable {h h':H} {n n' n0:Nat} {L L' Ly:Nat->Nat} {S:List UInt8} {Z win lim K bd bj a0:Nat} {m m' my:Xm} {e e':Ex} {at_ Lp:Nat} {tk Lq:List Nat}
theorem lV.next(q:lV h n n0 L Ly S Z win lim K bd bj a0 m my e at_ tk)(f:n<=n')(o:∀b,b<n->¬WX L b->b≠bj->h'.get b=h.get b)(g:∀c,c<n->L' c=L c)(x:cN h' n' L' Z win lim e' m')(r:m'.a=m.a)(i:fZ S Z win lim K e' Lp Lq)(s:h'.get bj=some ⟨60,true,rC a0 Lp Lq true⟩):
 lV h' n' n0 L' (Lz n Ly) S Z win lim K bd bj a0 m' my e' Lp Lq:=by
 have l:∀{b},L b=0->¬WX L b:=fun t w=>by have:=w.1;omega
 have p:∀c,c<n->1<=Ly c->Ly c<=19->h'.get c=h.get c:=fun c a d j=>o c a (l (q.dj c a d j)) (fun k=>by rw[k,q.yj]at d;omega);refine⟨x,r.trans q.ma,i,q.y.au f (fun c a=>fw a) p,fun c a d j=> ?_,fun c a=>(g c (fP a q.nn)).trans (q.l0 c a),iV q.nn f,(o bd q.hd (l q.ld) q.dz).trans q.gd,fP q.hd f,(g bd q.hd).trans q.ld,s,fP q.hj f,(g bj q.hj).trans q.lj,q.nj,q.dz,(fw q.hj).trans q.yj,(fw q.hd).trans q.yd,fun c a=>(fw (fP a q.nn)).trans (q.y0 c a)⟩;by_cases k:c<n
 ·rw[fw k]at d j;exact(g c k).trans (q.dj c k d j)
 ·rw[kN jO]at d;omega
theorem lV.grow(q:lV h n n0 L Ly S Z win lim K bd bj a0 m my e at_ tk)(f:n<=n')(d:∀b,b<n->h'.get b=h.get b):lV h' n' n0 (Lz n L) (Lz n Ly) S Z win lim K bd bj a0 m my e at_ tk:=
 q.next f (fun b g _ _=>d b g) (fun c a=>fw a) (q.x.au f (fun c a=>fw a) (fun c a _ _=>d c a)) rfl q.i ((d bj q.hj).trans q.gj)
theorem lV.w(q:lV h n n0 L Ly S Z win lim K bd bj a0 m my e at_ tk):∀b,WX L b->n0<=b∨False:=fun b a=>by
 rcases pQ b n0 with c|c
 ·have:=a.1;rw[q.l0 b c]at this;omega
 ·exact .inl c
end
section
variable {S:List UInt8} {Z win lim K:Nat} {e:Ex} {at_:Nat} {tk:List Nat}
theorem Lr(S:List UInt8)(Z:Nat):∀(k:Nat) (x:Xc),(mY S Z k x).tot.length<=x.tot.length+251*k
 |0,x=>ah _
 |k+1,x=>by
  have b:=Lr S Z k (hY S Z x)
  have a:(hY S Z x).tot.length<=x.tot.length+251:=by
   unfold hY;cases x.op with
   |some o=>show(dN x o).tot.length<=_;rw[Zf,bE];have:=Ze (g:=x.u.aS) (o:=o);omega
   |none=>
    show(lB S Z x).tot.length<=_;unfold lB;split
    ·exact EV _ _
    ·split<;>exact EV _ _
  show(mY S Z k (hY S Z x)).tot.length<=_;omega
theorem fZ.len(i:fZ S Z win lim K e at_ tk):tk.length+e.out.length<=251*K:=by have a:=Lr S Z e.steps x0;rw[<-i.xi.run,i.tot,bE]at a;have b:x0.tot.length=0:=rfl;have:=i.xi.st;omega
theorem fZ.bD(i:fZ S Z win lim K e at_ tk):∀o,e.c.op=some o->e.ru.bc=none∧e.c.u.aS.last.length<=9*Z:=fun o a=>by obtain⟨c,_,_,bn,b⟩:=i.xi.op o a;rw[i.xi.ru c];exact⟨bn,b⟩
end
end Go.Proofs.YtmjolmggelkjlaaGreat
