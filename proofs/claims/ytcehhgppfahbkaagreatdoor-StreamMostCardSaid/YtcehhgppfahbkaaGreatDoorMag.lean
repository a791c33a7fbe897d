import Derived.Test.YtcehhgppfahbkaaGreatDoorMaf
import Derived.Laws.BitsAllLaws
import Derived.IntWalk
import Derived.Test.YtcehhgppfahbkaaGreatDoorMad
import Derived.WalkKit
open Go.Proofs.Tryz renaming prog→ad
open Nat renaming le_refl→ag, le_succ→cI, zero_le→cL, lt_of_lt_of_le→dC, lt_succ_self→dL, add_mul→ff, zero_add→fD, add_zero→iA, not_lt_zero→jr, mod_eq_of_lt→kB, pow_le_pow_right→kD, mod_lt→lH, pow_succ→ng, mul_comm→oy, sub_self→oA, le_trans→pU, min_eq_left→p9, lt_irrefl→ub, mul_assoc→yx, two_pow_pos→VM, pow_add→ahv, mul_lt_mul_of_pos_right→ahw, zero_min→ahK
open List renaming getD_eq_getElem?_getD→au, length_append→ay, getElem?_eq_getElem→aC, range→aV, replicate→bI, length_cons→bL, append_nil→bV, append_assoc→b9, getElem_mem→cu, drop_zero→dj, length_take→ed, mem_cons_of_mem→eU, take_length→fi, getElem?_map→fw, take_of_length_le→fZ, map_append→gZ, take_succ_eq_append_getElem→jV, all_eq_true→kz, map_cons→lE, mem_of_mem_take→lG, map_map→mq, ext_getElem→mr, map_congr_left→ni, getElem?_append_right→ou, length_set→oC, length_replicate→oD, range'→pW, getElem?_append_left→pX, pairwise_cons→qa, drop_length→qc, mem_of_mem_drop→ue, getElem_map→vS, set_cons_succ→yq, set_append_right→C8, getElem_set→Da, map_replicate→Dg, getElem_range→IX, countP_cons→VN, filter_cons→agS, nodup_cons→ahA, getElem?_replicate→ahF, set_append_left→ahI
open Go.Value renaming string→bM, slice→fN, int→iz
open Int renaming lt_irrefl→cb, reduceBEq→cw, reduceBNe→cz, reduceLT→cA, reduceLE→cB, reduceEq→cC, reduceNe→cD, reduceAdd→cE, reduceSub→cF, reduceMul→cG, reduceNeg→cH, toNat_natCast→fg, mul_le_mul_of_nonneg_right→Vs, pow_succ→ahr, one_mul→ahs, mul_assoc→ahC, mul_comm→ahD, pow_nonneg→ahE, pow_add→ahG
open BitVec renaming ofInt→cR, ofInt_natCast→agO, toNat_ofNat→agP
open UInt8 renaming ofNat→dZ, toNat_ofNat'→Dh
open Bool renaming not_true→fY, not_false→iD, and_self→C6
open Go.IntKind renaming u32→vR, u8→ahy
open Decidable renaming byContradiction→yw
open Option renaming getD_some→Il
open List.Sublist renaming countP_le→aiy
set_option linter.unusedVariables false
set_option linter.unusedSimpArgs false
namespace Go.Proofs.YtcehhgppfahbkaaGreatDoor
open Go.RowKit Ev Hu
def dk(lo a:Int)(xs:List Int):Bool:=xs.all fun x=>decide (lo<=x)&&decide (x<=a)
theorem iu{lo a:Int}{xs:List Int}:dk lo a xs=true↔∀x∈xs,lo<=x∧x<=a:=by unfold dk;simp
theorem lh{a:Type}(d:a){xs:List a}{i:Nat}(h:i<xs.length):xs.drop i=xs.getD i d::xs.drop (i+1):=by rw[List.drop_eq_getElem_cons h,au,aC h];rfl
theorem ab3{lo a:Int}{xs:List Int}{i:Nat}(h:i<xs.length):dk lo a (xs.drop i)=(decide (lo<=xs.getD i 0)&&decide (xs.getD i 0<=a)&&dk lo a (xs.drop (i+1))):=by rw[lh 0 h];unfold dk;simp
theorem ab4{b:Type}{rec:FuncId->Array Value->M Value}(p q a:Value)(k:Value->M b):fm ad rec (.func (.func 236) #[] #[p,q]) [a] k=aj rec 236 [a,p,q] k:=by unfold fm;show aN (some _) _=_;rw[rZ];simp only[show kG ad 236=true by kernel_rfl];exact(j3 _ _).symm
theorem ab5(lf d n:Nat)(h:H)(x lo c:Int)(p q:Nat)(r:p<n)(o:q<n){m l:TypeId}{k j:Bool}(f:h.get p=some ⟨m,k,[jI lo]⟩)(e:h.get q=some ⟨l,j,[jI c]⟩):
 aa (fun _=>False) n (ah ad gt lf (d+1) 236 #[jI x,jP p 0,jP q 0]) h n fun i h' n'=>i= .bool (!(decide (lo<=x)&&decide (x<=c)))∧h'=h∧n'=n:=by
 rw[aF (fun _=>RJ) rfl];refine aa.aD ?_;unfold GU;have g:∀z:Value,[z][0]? =some z:=fun _=>rfl;by_cases b:x<lo
 ·refine jA (aI @f (aI @e (aI @g @b))) ?_;rw[decide_eq_false (Int.not_le.2 b)];simp
 ·refine jA (aI @f (aI @e (aI @g @b))) ?_;by_cases a:c<x
  ·simp[a,Int.not_le.2 a]
  ·simp[a,Int.not_lt.1 b,Int.not_lt.1 a]
theorem ixL(lf d n:Nat)(h:H)(v:Value)(xs:List Int)(E:Row h n 3 .i64 v xs)(K:xs.length<=1000000000)(lo g:Int)(p q:Nat)(B:p<n)(A:q<n){l I:TypeId}{y x:Bool}(G:h.get p=some ⟨l,y,[jI lo]⟩)(F:h.get q=some ⟨I,x,[jI g]⟩)(x4:Value){W:Nat->Prop}{n0:Nat}(c:n0<=n):
 ∀(m i a:Nat),xs.length-i=m->m<a->i<=xs.length->
  aa W n0 (kY lf (ah ad gt lf (d+1)) a (mQ lf (ah ad gt lf (d+1))) v (.func (.func 236) #[] #[jP p 0,jP q 0]) x4 (jI (xs.length:Nat)) (jI (i:Nat))) h n (fun u h' n'=>(∃r:Int,u=jI r∧decide (0<=r)= !dk lo g (xs.drop i))∧h'=h∧n'=n):=by
 intro m
 induction m with
 |zero=>
  intro i a C j e;obtain⟨a,rfl⟩:∃f,a=f+1:=⟨a-1,jO⟩;obtain rfl:i=xs.length:=jO;rw[kY];refine jA @cb ?_
  (try unfold mQ);(try dsimp only)
  refine jB ?_;exact⟨-1,rfl,by simp[dk]⟩
 |succ m z=>
  intro i a C j e;obtain⟨a,rfl⟩:∃f,a=f+1:=⟨a-1,jO⟩;obtain⟨b,w,cap,o,N,rfl,D,L,_,_,_,k⟩:=E.some jO;have l:((i:Nat):Int)<((xs.length:Nat):Int):=jO;have J:=k i jO;have t:((i:Nat):Int)+1=((i+1:Nat):Int):=jO;rw[kY];refine jA (aI @l (aI @D (aI @J @ab4))) ?_;refine bU (ab5 lf d n h (xs.getD i 0) lo _ p q B A G F) c (fun _ _ h=>h.elim) ?_;rw[ab3 jO];by_cases s:(decide (lo<=xs.getD i 0)&&decide (xs.getD i 0<=g))=true
  ·rw[s];refine jB ?_;rw[t];exact z (i+1) a jO jO jO
  ·rw[Bool.eq_false_iff.2 s];refine jB ?_
   (try unfold mQ);(try dsimp only)
   refine jB ?_;exact⟨(i:Nat),rfl,jS⟩
theorem SJ(lf d n:Nat)(h:H)(v:Value)(xs:List Int)(k:Row h n 3 .i64 v xs)(lo g:Int)(w:xs.length<=1000000)(q:3000000<=lf):
 aa (fun _=>False) n (ah ad gt lf (d+4) 222 #[v,jI lo,jI g]) h n fun i h' n'=>i= .bool (dk lo g xs):=by
 rw[aF (fun _=>Rt) rfl];refine aa.aD ?_;unfold GP;refine lX trivial _ _ ?_;refine lX trivial _ _ ?_;obtain⟨e,f⟩:∃e,(h.set n (some ⟨3,true,(jI lo).cells.toList⟩)).set (n+1) (some ⟨3,true,(jI g).cells.toList⟩)=e:=⟨_,rfl⟩;have u:e.get n=some ⟨3,true,[jI lo]⟩:=by rw[<-f,ak _ _ jO,get_eq];rfl
 have t:e.get (n+1)=some ⟨3,true,[jI g]⟩:=by rw[<-f,get_eq];rfl
 have s:∀b,b<n->e.get b=h.get b:=fun b x=>by rw[<-f,ak _ _ jO,ak _ _ jO]
 rw[f];have j:Row e (n+2) 3 .i64 v xs:=k.ar jO s;obtain⟨a,c,rfl⟩:=k.len
 have m:aa (fun _=>False) (n+2) (ah ad gt lf (d+2) 218 #[.slice a xs.length c,.func (.func 236) #[] #[jP n 0,jP (n+1) 0]]) e (n+2) fun i h' n'=>(∃r:Int,i=jI r∧decide (0<=r)= !dk lo g xs)∧h'=e∧n'=n+2:=by rw[aF (fun _=>BB) rfl];refine aa.aD ?_;unfold vd;refine jB ?_;exact ixL lf d (n+2) e _ xs j jO lo g n (n+1) jO jO u t _ (ag _) xs.length 0 lf jO jO jO
 have l:aa (fun _=>False) (n+2) (ah ad gt lf (d+3) 193 #[.slice a xs.length c,.func (.func 236) #[] #[jP n 0,jP (n+1) 0]]) e (n+2) fun i h' n'=>i= .bool (!dk lo g xs)∧h'=e∧n'=n+2:=by rw[aF (fun _=>Bl) rfl];refine aa.aD ?_;unfold xd;refine aJ aE m (ag _) (fun _ _ h=>h.elim) fun i h' n' _ _ p=> ?_;obtain⟨⟨r,rfl,o⟩,rfl,rfl⟩:=p;refine jB ?_;rw[o]
 refine bU l jO (fun _ _ h=>h.elim) ?_;rw[wx,Bool.not_not];exact jE
theorem vm {i:Type} {W:Nat->Prop} {n0:Nat} {h:H} {n:Nat} {Q:i->H->Nat->Prop} {lf d:Nat} {f:FuncId} {args:List Value} {b:Bool} (s:aa (fun _=>False) n (ah ad gt lf d f ⟨args⟩) h n fun j _ _=>j= .bool b) (m:n0<=n) {k:Value->M i}
 (x:∀e a,n<=a->(∀c,c<n->e.get c=h.get c)->aa W n0 (k (.bool b)) e a Q):aa W n0 (aj (ah ad gt lf d) f args k) h n Q:=by
 refine aJ aE s m (fun _ _ h=>h.elim) fun q e a g p l=> ?_;subst l;exact x e a g fun c o=>p c o id
def lj:List Int->Int->Int
 |[],a=>a
 |x::l,a=>lj l (if a<x then x else a)
theorem Hg(B:Int):∀(l:List Int) (a:Int),lj l a<=B↔(a<=B∧∀x∈l,x<=B)
 |[],a=>by simp[lj]
 |x::l,a=>by
  unfold lj;rw[Hg B l];simp only[List.mem_cons,forall_eq_or_imp];by_cases h:a<x
  ·rw[if_pos h];constructor
   ·rintro⟨p,q⟩;exact⟨jO,p,q⟩
   ·rintro⟨p,q,r⟩;exact⟨q,r⟩
  ·rw[if_neg h];constructor
   ·rintro⟨p,q⟩;exact⟨p,jO,q⟩
   ·rintro⟨p,q,r⟩;exact⟨p,r⟩
theorem ab6(lf d n:Nat)(h:H)(v:Value)(xs:List Int)(u:Row h n 3 .i64 v xs)(y:xs.length<=1000000)(j:Value){W:Nat->Prop}{n0:Nat}:
 ∀(m i c:Nat) (a:Int),xs.length-i=m->m<c->i<=xs.length->
  aa W n0 (td lf (ah ad gt lf d) c (BG lf (ah ad gt lf d)) v j (jI a) v (jI (xs.length:Nat)) (jI (i:Nat))) h n (fun l h' n'=>l=jI (lj (xs.drop i) a)∧h'=h∧n'=n):=by
 intro m
 induction m with
 |zero=>
  intro i c a r e s;obtain⟨c,rfl⟩:∃f,c=f+1:=⟨c-1,jO⟩;obtain rfl:i=xs.length:=jO;rw[td];try simp(disch:=first|omega|assumption) only[Nat.reduceAdd,Nat.reduceLT,RZ,cb]
  (try unfold BG);(try dsimp only)
  rw[qc];try simp(disch:=first|omega|assumption) only[Nat.reduceAdd,Nat.reduceLT,RZ]
  simp[lj]
 |succ m q=>
  intro i c a r e s;obtain⟨c,rfl⟩:∃f,c=f+1:=⟨c-1,jO⟩;obtain⟨b,p,cap,o,A,rfl,t,z,_,_,_,g⟩:=u.some jO;have w:((i:Nat):Int)<((xs.length:Nat):Int):=jO;have x:=g i jO;have k:((i:Nat):Int)+1=((i+1:Nat):Int):=jO;rw[td,lh 0 (show i<xs.length by omega)];try simp(disch:=first|omega|assumption) only[Nat.reduceAdd,Nat.reduceLT,RZ,w,t,x]
  rw[k];exact q (i+1) c _ jO jO jO
theorem SK(lf d n:Nat)(h:H)(v:Value)(xs:List Int)(e:Row h n 3 .i64 v xs)(i:xs.length<=1000000)(g:3000000<=lf):
 aa (fun _=>False) n (ah ad gt lf (d+1) 234 #[v]) h n fun f h' n'=>f=jI (lj xs 0)∧h'=h∧n'=n:=by
 rw[aF (fun _=>RE) rfl];refine aa.aD ?_;unfold BH;have b:=e;obtain⟨a,c,rfl⟩:=e.len;try simp(disch:=first|omega|assumption) only[Nat.reduceAdd,Nat.reduceLT,RZ]
 exact ab6 lf d n h _ xs b i _ xs.length 0 lf 0 jO jO jO
end Go.Proofs.YtcehhgppfahbkaaGreatDoor
namespace Go.Proofs.YtcehhgppfahbkaaGreatDoor
open Go
def bn(b:Bool):Nat:=if b then 1 else 0
theorem B5(b:Bool):bn b<2:=by cases b<;>decide
def num:List Bool->Nat->Nat
 |[],a=>a
 |b::l,a=>num l (2*a+bn b)
theorem Hh:∀(l m:List Bool) (a:Nat),num (l++m) a=num m (num l a)
 |[],_,_=>rfl
 |b::l,m,a=>Hh l m _
theorem SL:∀(l:List Bool) (a k:Nat),a<2^k->num l a<2^(k+l.length)
 |[],a,k,h=>h
 |b::l,a,k,h=>by have:=B5 b;have:=SL l (2*a+bn b) (k+1) (by rw[ng];omega);rw[bL,show k+(l.length+1)=k+1+l.length by omega];exact this
theorem ab7(l:List Bool):num l 0<2^l.length:=by have:=SL l 0 0 jD;rwa[fD]at this
def bQ:Nat->Nat->List Bool
 |_,0=>[]
 |v,n+1=>bQ (v/2) n++[decide (v %2=1)]
theorem dM:∀(n v:Nat),(bQ v n).length=n
 |0,_=>rfl
 |n+1,v=>by simp[bQ,dM n]
theorem ab8(v:Nat):bn (decide (v %2=1))=v %2:=by unfold bn;by_cases h:v %2=1<;>simp[h]<;>omega
def ek(s:List Nat×List Bool)(b:Bool):List Nat×List Bool:=if s.2.length=7 then(s.1++[num (s.2++[b]) 0],[])else(s.1,s.2++[b])
def dN(s:List Nat×List Bool)(l:List Bool):List Nat×List Bool:=l.foldl ek s
theorem SM(s:List Nat×List Bool)(l m:List Bool):dN s (l++m)=dN (dN s l) m:=by unfold dN;rw[List.foldl_append]
theorem ab9(s:List Nat×List Bool)(b:Bool):(ek s b).1.length<=s.1.length+1:=by unfold ek;split<;>simp
theorem Hi:∀(l:List Bool) (s:List Nat×List Bool),(dN s l).1.length<=s.1.length+l.length
 |[],s=>ag _
 |b::l,s=>by have c:=ab9 s b;have a:=Hi l (ek s b);show(dN (ek s b) l).1.length<=_;rw[bL];omega
def mR(r:List Bool):Nat:=num r 0*2^(8-r.length)
theorem ab'{r:List Bool}(h:r.length<=8):mR r<256:=by
 have b:=ab7 r;have a:2^r.length*2^(8-r.length)=256:=by rw[<-ahv,show r.length+(8-r.length)=8 by omega]
 unfold mR
 calc num r 0*2^(8-r.length)<2^r.length*2^(8-r.length):=ahw b (VM _)
  _=256:=a
theorem ab_{r:List Bool}(h:r.length<8)(b:Bool):mR r|||(bn b*2^(7-r.length))=mR (r++[b]):=by
 have a:bn b*2^(7-r.length)<2^(8-r.length):=by rw[show 8-r.length=7-r.length+1 by omega,ng,oy _ 2];have:=VM (7-r.length);exact ahw (B5 b) this
 unfold mR;rw[oy (num r 0),<-Nat.two_pow_add_eq_or_of_lt a,Hh];show _=(2*num r 0+bn b)*2^(8-(r++[b]).length);rw[ay,List.length_singleton,show 8-r.length=7-r.length+1 by omega,show 8-(r.length+1)=7-r.length by omega,ng,ff];congr 1;rw[oy (2^(7-r.length)) 2,yx,yx,oy (2^(7-r.length))]
theorem or8{a b:Nat}(d:a<256)(c:b<256):IntKind.u8.wrap ((cR IntKind.u8.bits (a:Int)|||cR IntKind.u8.bits (b:Int)).toNat:Int)=((a|||b:Nat):Int):=u8_or_nat a b d c
theorem w8{x:Nat}(h:x<256):IntKind.u8.wrap (x:Int)=(x:Int):=IntWalk.u8_in _ jO
theorem kg{x:Nat}(h:x<4294967296):IntKind.u32.wrap (x:Int)=(x:Int):=IntWalk.u32_in _ jO
theorem aca{b k:Nat}(f:b<2)(a:k<=7):IntKind.u8.wrap ((b:Int)*2^(min ((k:Int)).toNat (ahy).bits))=((b*2^k:Nat):Int):=by
 have e:min ((k:Int)).toNat (ahy).bits=k:=by rw[fg];exact p9 (pU a jD)
 rw[e];have c:2^k<=2^7:=kD jD a
 have:b*2^k<256:=by have:b*2^k<=1*2^7:=Nat.mul_le_mul jO c;omega
 have d:(b:Int)*2^k=((b*2^k:Nat):Int):=by push_cast;rfl
 rw[d];exact w8 this
theorem fdiv_pow(v k:Nat)(a:Nat)(h:k<=a):((v:Int)).fdiv (2^(min ((k:Int)).toNat a))=((v/2^k:Nat):Int):=by
 have e:min ((k:Int)).toNat a=k:=by rw[fg];exact p9 h
 rw[e];have b:((2:Int)^k)=((2^k:Nat):Int):=by push_cast;rfl
 rw[b,Int.fdiv_eq_ediv_of_nonneg _ (Int.natCast_nonneg _)];rfl
theorem acb{a:Nat}(d:a<4294967296):IntKind.u32.wrap ((cR IntKind.u32.bits (a:Int)&&&cR IntKind.u32.bits (1:Int)).toNat:Int)=((a %2:Nat):Int):=by
 have c:(cR 32 (a:Int)).toNat=a:=by rw[agO,agP];exact kB jO
 show IntKind.u32.wrap ((cR 32 (a:Int)&&&cR 32 (1:Int)).toNat:Int)=_;rw[BitVec.toNat_and,c];have b:(cR 32 (1:Int)).toNat=1:=jD;rw[b,Nat.and_one_is_mod];exact kg jO
end Go.Proofs.YtcehhgppfahbkaaGreatDoor
namespace Go.Proofs.YtcehhgppfahbkaaGreatDoor.Cn
open Go
def cn(ln:List Nat)(n:Nat):Nat:=ln.countP fun x=>x==n
def gW(ln:List Nat)(n i:Nat):Nat:=cn (ln.take i) n
theorem B6{ln:List Nat}{i:Nat}(h:i<ln.length)(n:Nat):gW ln n (i+1)=gW ln n i+(if ln.getD i 0=n then 1 else 0):=by unfold gW cn;rw[jV h,List.countP_append,au,aC h];simp only[VN,List.countP_nil,Il,beq_iff_eq,fD]
theorem B7(ln:List Nat)(n:Nat):gW ln n ln.length=cn ln n:=by unfold gW;rw[fi]
theorem SN(ln:List Nat)(n i:Nat):gW ln n i<=cn ln n:=by unfold gW cn;exact aiy (List.take_sublist _ _)
theorem acd{ln:List Nat}{i:Nat}(h:i<ln.length):gW ln (ln.getD i 0) i<cn ln (ln.getD i 0):=by have a:=B6 h (ln.getD i 0);rw[if_pos rfl]at a;have:=SN ln (ln.getD i 0) (i+1);omega
def dr(ln:List Nat):Nat->Nat
 |0=>0
 |n+1=>2*(dr ln n+cn ln n)
def bX(ln:List Nat):Nat->Nat
 |0=>0
 |n+1=>bX ln n+cn ln n
def fB(ln:List Nat)(i:Nat):Nat:=dr ln (ln.getD i 0)+gW ln (ln.getD i 0) i
def gX(ln:List Nat):Nat->Nat
 |0=>0
 |n+1=>gX ln n+cn ln n*2^(20-n)
theorem SO(ln:List Nat):∀{n:Nat},n<=20->dr ln n*2^(20-n)=gX ln n
 |0,_=>by simp[dr,gX]
 |n+1,h=>by have a:=SO ln (n:=n) jO;have e:20-n=20-(n+1)+1:=jO;unfold dr gX;rw[<-a,e,ng];simp only[oy 2,ff,yx]
theorem SP(ln:List Nat):∀{n m:Nat},n<=m->gX ln n<=gX ln m
 |n,0,h=>by have:n=0:=jO
            subst this;exact ag _
 |n,m+1,h=>by
  by_cases e:n=m+1
  ·subst e;exact ag _
  ·have:=SP ln (n:=n) (m:=m) jO;show gX ln n<=gX ln m+cn ln m*2^(20-m);omega
structure Wh (ln:List Nat):Prop where
 lo:∀x∈ln,1<=x∧x<=20
 kr:gX ln 21=1048576
section
variable {ln:List Nat} (w:Wh ln)
include w
theorem Wh.at{i:Nat}(h:i<ln.length):1<=ln.getD i 0∧ln.getD i 0<=20:=by rw[au,aC h];exact w.lo _ (cu h)
theorem Wh.cap{n:Nat}(h:n<=20):dr ln n+cn ln n<=2^n:=by
 have d:=SO ln h;have a:=SP ln (show n+1<=21 by omega);rw[w.kr]at a;have c:gX ln (n+1)=gX ln n+cn ln n*2^(20-n):=rfl;rw[c,<-d,<-ff]at a;have b:2^n*2^(20-n)=1048576:=by rw[<-ahv,show n+(20-n)=20 by omega]
 rw[<-b]at a;exact Nat.le_of_mul_le_mul_right a (VM _)
theorem Wh.SQ{i:Nat}(h:i<ln.length):fB ln i<2^ln.getD i 0:=by have b:=w.cap (w.at h).2;have a:=acd h;unfold fB;omega
end
def Mt(ln:List Nat)(a:List Bool)(i:Nat):Prop:=i<ln.length∧ln.getD i 0<=a.length∧num (a.take (ln.getD i 0)) 0=fB ln i
def SU(ln:List Nat)(a:List Bool):Option Nat:=(aV ln.length).find? fun i=>decide (ln.getD i 0<=a.length)&&decide (num (a.take (ln.getD i 0)) 0=fB ln i)
def fq(ln:List Nat)(n i:Nat):List Nat:=(aV i).filter fun s=>ln.getD s 0==n
theorem B8(ln:List Nat)(n i:Nat):fq ln n (i+1)=fq ln n i++(if ln.getD i 0=n then [i]else []):=by
 unfold fq;rw[List.range_succ,List.filter_append];congr 1;by_cases h:ln.getD i 0=n
 ·rw[if_pos h,agS,if_pos (by rw[h];simp)];rfl
 ·rw[if_neg h,agS,if_neg (by simpa using h)];rfl
theorem xz{ln:List Nat}(n:Nat):∀{i:Nat},i<=ln.length->(fq ln n i).length=gW ln n i
 |0,_=>by simp[fq,gW,cn]
 |i+1,h=>by rw[B8,ay,xz n (i:=i) jO,B6 jO];split<;>rfl
theorem SV{ln:List Nat}{n:Nat}:∀{i r s:Nat},i<=ln.length->(fq ln n i)[r]? =some s->s<i∧ln.getD s 0=n∧gW ln n s=r
 |0,r,s,_,h=>by simp[fq]at h
 |i+1,r,s,g,h=>by
  rw[B8]at h;by_cases q:r<(fq ln n i).length
  ·rw[pX q]at h;obtain⟨a,b,c⟩:=SV (i:=i) jO h;exact⟨jO,b,c⟩
  ·rw[ou jO]at h;have f:=xz (ln:=ln) n (i:=i) jO;split at h
   ·rename_i e
    have d:r-(fq ln n i).length=0:=by
     cases q2:r-(fq ln n i).length with
     |zero=>rfl
     |succ k=>rw[q2]at h;simp at h
    rw[d]at h;simp at h;subst h;exact⟨jO,e,jO⟩
   ·simp at h
def iw(ln:List Nat):Nat->List Nat
 |0=>[]
 |n+1=>iw ln n++fq ln n ln.length
theorem pH(ln:List Nat):∀n,(iw ln n).length=bX ln n
 |0=>rfl
 |n+1=>by unfold iw bX;rw[ay,pH ln n,xz n (ag _),B7]
theorem SX{ln:List Nat}{n r:Nat}(f:r<cn ln n):∀{m:Nat},n<m->∃s,(iw ln m)[bX ln n+r]? =some s∧s<ln.length∧ln.getD s 0=n∧gW ln n s=r
 |0,h=>absurd h (jr n)
 |m+1,h=>by
  unfold iw;by_cases e:n=m
  ·subst e;have g:=xz (ln:=ln) n (ag _);rw[B7]at g
   have:((iw ln n++fq ln n ln.length)[bX ln n+r]?)=some ((fq ln n ln.length)[r]'jO):=by rw[ou (by rw[pH];omega),pH,show bX ln n+r-bX ln n=r by omega,aC]
   obtain⟨a,b,c⟩:=SV (ln:=ln) (n:=n) (i:=ln.length) (r:=r) (s:=(fq ln n ln.length)[r]'jO) (ag _) (aC _);exact⟨_,this,a,b,c⟩
  ·obtain⟨s,d,j⟩:=SX f (m:=m) jO;refine⟨s, ?_,j⟩;rw[pX ((List.getElem?_eq_some_iff.1 d).1)];exact d
theorem SY{ln:List Nat}:∀{n m:Nat},n<=m->bX ln n<=bX ln m
 |n,0,h=>by have:n=0:=jO
            subst this;exact ag _
 |n,m+1,h=>by
  by_cases e:n=m+1
  ·subst e;exact ag _
  ·have:=SY (ln:=ln) (n:=n) (m:=m) jO;show bX ln n<=bX ln m+cn ln m;omega
theorem Hj{ln:List Nat}{e:List Bool}{n:Nat}(g:n<=e.length)(h:dr ln n<=num (e.take n) 0)(h2:num (e.take n) 0<dr ln n+cn ln n):∃s,(iw ln 21)[bX ln n+(num (e.take n) 0-dr ln n)]? =some s∧(n<=20->Mt ln e s∧ln.getD s 0=n)∨20<n:=by
 by_cases f:20<n
 ·exact⟨0,.inr f⟩
 ·obtain⟨s,a,b,c,d⟩:=SX (ln:=ln) (n:=n) (r:=num (e.take n) 0-dr ln n) jO (m:=21) jO;refine⟨s,.inl ⟨a,fun _=>⟨⟨b,jO, ?_⟩,c⟩⟩⟩;unfold fB;rw[c,d];omega
def iP(ln:List Nat)(n i:Nat):Nat:=dr ln n+gW ln n i
theorem SZ{ln:List Nat}{n i:Nat}(h:i<ln.length):iP ln n (i+1)=iP ln n i+(if ln.getD i 0=n then 1 else 0):=by unfold iP;rw[B6 h];omega
theorem ace{ln:List Nat}{n i:Nat}(h:ln.getD i 0=n):iP ln n i=fB ln i:=by unfold iP fB;rw[h]
theorem S0{ln:List Nat}(w:Wh ln):cn ln 0=0:=by unfold cn;rw[List.countP_eq_zero];intro x a;have:=(w.lo x a).1;simp;omega
theorem acf{ln:List Nat}(w:Wh ln):bX ln 1=0:=by show 0+cn ln 0=0;rw[S0 w]
theorem DC:∀(n v r:Nat) (h:r<n),(bQ v n)[r]? =some (decide (v/2^(n-1-r)%2=1))
 |0,_,_,h=>absurd h (jr _)
 |n+1,v,r,h=>by
  show(bQ (v/2) n++[decide (v %2=1)])[r]? =_;by_cases e:r<n
  ·rw[pX (by rw[dM];exact e),DC n (v/2) r e,Nat.div_div_eq_div_mul,<-Nat.pow_succ',show(n-1-r).succ=n+1-1-r by omega]
  ·have:r=n:=jO;subst this;rw[ou (by rw[dM];exact ag _),dM,oA,show r+1-1-r=0 by omega,Nat.pow_zero,Nat.div_one];rfl
theorem S1{a:Nat}(b:2*a<4294967296):IntKind.u32.wrap ((a:Int)*2^(min ((1:Int)).toNat (vR).bits))=((2*a:Nat):Int):=by have e:min ((1:Int)).toNat (vR).bits=1:=jD;rw[e];have:(a:Int)*2^1=((2*a:Nat):Int):=jO;rw[this];exact kg b
end Go.Proofs.YtcehhgppfahbkaaGreatDoor.Cn
namespace Go.Proofs.YtcehhgppfahbkaaGreatDoor
open Go.RowKit Ev Cn
section
variable {lf d n p:Nat} {h:H} {S:List UInt8} {D A:Nat}
end
end Go.Proofs.YtcehhgppfahbkaaGreatDoor
namespace Go.Proofs.YtcehhgppfahbkaaGreatDoor
open Hu
def wt(n k:Nat)(t:HT):List Nat:=t.leaves++pW t.aZ (n+k-t.aZ)
structure xA (n k:Nat) (last:Int) (t:HT):Prop where
 ls:t.leaves.Pairwise (RI (bj t))
 js:∀i j,n<=i->i<=j->j<n+k->bj t i<=bj t j
 mx:∀i,n<=i->i<n+k->bj t i<=2*last
 lo:∀x∈wt n k t,last<=bj t x
 l0:0<=last
theorem tw(t:HT):bj (taken t)=bj t:=by unfold taken;split<;>rfl
theorem S2{n k:Nat}{P:List Nat}{S last:Int}{t:HT}(h:fV n k P S t)(s:xA n k last t)(C:1<=t.leaves.length+(n+k-t.aZ)):
 (wt n k t).Perm (Hu.leastOf t::wt n k (taken t))∧(∀x∈wt n k (taken t),RI (bj t) (Hu.leastOf t) x)∧xA n k (bj t (Hu.leastOf t)) (taken t)∧last<=bj t (Hu.leastOf t):=by
 have m:(wt n k t).Perm (Hu.leastOf t::wt n k (taken t))∧(∀x∈wt n k (taken t),RI (bj t) (Hu.leastOf t) x)∧(taken t).leaves.Pairwise (RI (bj t)):=by
  cases c:fK t with
  |true=>
   obtain⟨r,l,z,w⟩:=G' h C c;have b:=s.ls;generalize Hu.leastOf t=a at*;rw[l,qa]at b;rw[z];refine⟨by unfold wt;rw[l];exact .refl _,fun x f=> ?_,b.2⟩;unfold wt at f;rcases List.mem_append.1 f with h2|h2
   ·exact b.1 x h2
   ·have h2:=List.mem_range'_1.1 h2;have h2:t.aZ<=x∧x<t.aZ+(n+k-t.aZ):=h2;have j:=h.jl;unfold fK at c;rw[Bool.or_eq_true,beq_iff_eq,Bool.and_eq_true,decide_eq_true_iff,decide_eq_true_iff]at c;rcases c with c|⟨_,c⟩
    ·have:=h.wl;omega
    ·have D:t.leaves.getD 0 0=a:=by rw[l];rfl
     rw[D]at c;have:=s.js t.aZ x j h2.1 jO;unfold RI;omega
  |false=>
   obtain⟨l,z,w⟩:=Sl h c;rw[w,l];have j:=h.jl;refine⟨?_,fun x f=> ?_,s.ls⟩
   ·unfold wt;obtain⟨d,hd⟩:∃d,n+k-t.aZ=d+1:=⟨n+k-t.aZ-1,jO⟩;rw[hd,List.range'_succ];show(t.leaves++t.aZ::pW (t.aZ+1) d).Perm (t.aZ::(t.leaves++pW (t.aZ+1) (n+k-(t.aZ+1))));rw[show n+k-(t.aZ+1)=d by omega];exact List.perm_middle
   ·unfold wt at f;rcases List.mem_append.1 f with h2|h2
    ·have h2:x∈t.leaves:=h2;have v:0<t.leaves.length:=List.length_pos_of_mem h2;unfold fK at c;rw[Bool.or_eq_false_iff,Bool.and_eq_false_iff]at c
     have g:¬bj t (t.leaves.getD 0 0)<=bj t t.aZ:=by
      rcases c.2 with q|q
      ·simp only[v,decide_true]at q;cases q
      ·exact of_decide_eq_false q
     obtain⟨y,r,e⟩:=List.exists_cons_of_length_pos v;have b:=s.ls;rw[e]at h2 b g;rw[qa]at b;have g:¬bj t y<=bj t t.aZ:=g;rcases List.mem_cons.1 h2 with q|q
     ·subst q;unfold RI;omega
     ·have:=b.1 x q;unfold RI at this⊢;omega
    ·have h2:=List.mem_range'_1.1 h2;have h2:t.aZ+1<=x∧x<t.aZ+1+(n+k-(t.aZ+1)):=h2;have:=s.js t.aZ x j jO jO;unfold RI;omega
 obtain⟨u,p,A⟩:=m;have o:last<=bj t (Hu.leastOf t):=s.lo _ (u.mem_iff.2 jS);refine⟨u,p,⟨by rw[tw];exact A,by rw[tw];exact s.js,fun i h2 B=>by rw[tw];have:=s.mx i h2 B;omega,fun x f=> ?_,by have:=s.l0;omega⟩,o⟩;rw[tw];have:=p x f;unfold RI at this;omega
theorem acg{n k:Nat}{P:List Nat}{S:Int}{t:HT}(h:fV n k P S t)(a b:Nat):(∀i,i<n+k->bj (gT t a b) i=bj t i)∧bj (gT t a b) (n+k)=bj t a+bj t b:=by refine⟨fun i c=>BT _ _ _ (by rw[h.wl];exact c), ?_⟩;unfold bj gT;rw[au,ou (by rw[h.wl];exact ag _),h.wl,oA];rfl
theorem S3{n k:Nat}{P:List Nat}{S:Int}{t:HT}(h:fV n k P S t):∀x∈wt n k t,x<n+k:=fun x a=>by
 unfold wt at a;rcases List.mem_append.1 a with h2|h2
 ·have:=h.leaf x h2;omega
 ·have:=List.mem_range'_1.1 h2;have:=h.jh;omega
structure Step (n k:Nat) (a b:Nat) (r:List Nat) (t t':HT):Prop where
 perm:(wt n k t).Perm (a::b::r)
 next:(wt n (k+1) t').Perm ((n+k)::r)
 old:∀i,i<n+k->bj t' i=bj t i
 new:bj t' (n+k)=bj t a+bj t b
 mA:∀x∈b::r,RI (bj t) a x
 mB:∀x∈r,RI (bj t) b x
 ia:t'.bK.getD a 0=((n+k:Nat):Int)
 ib:t'.bK.getD b 0=((n+k:Nat):Int)
 io:∀i,i<n+k->i∉wt n k t->t'.bK.getD i 0=t.bK.getD i 0
theorem S4{n k:Nat}{S last:Int}{t:HT}(h:fV n k [] S t)(s:xA n k last t)(X:k+2<=n):∃g,xA n (k+1) g (pD t)∧Step n k (Hu.leastOf t) (Hu.leastOf (taken t)) (wt n k (taken (taken t))) t (pD t):=by
 obtain⟨N,P,f,a2,h3,_⟩:=step_ok h X;have W:=h.left;have z:=N.left;simp only[bL,List.length_nil]at W z;obtain⟨u,R,Q,q1⟩:=S2 h s jO;obtain⟨r,v,G,q2⟩:=S2 N Q jO;rw[tw]at v G q2;have E:bj (taken (taken t))=bj t:=by rw[tw,tw]
 unfold pD at h3⊢;generalize Hu.leastOf t=a at*;generalize Hu.leastOf (taken t)=b at*;obtain⟨d,m⟩:=acg f a b;rw[E]at d m;have Z:=f.jh;have Y:=f.jl
 have I:wt n (k+1) (gT (taken (taken t)) a b)=wt n k (taken (taken t))++[n+k]:=by unfold wt;show(taken (taken t)).leaves++pW (taken (taken t)).aZ (n+(k+1)-(taken (taken t)).aZ)=_;rw[show n+(k+1)-(taken (taken t)).aZ=(n+k-(taken (taken t)).aZ)+1 by omega,List.range'_concat,<-b9];rw[show(taken (taken t)).aZ+1*(n+k-(taken (taken t)).aZ)=n+k by omega]
 have B:b∈wt n k (taken t):=r.mem_iff.2 jS;have o:=fun i c=>(h.pos i c).1;have pa:=o a P;have U:=s.l0;refine⟨bj t b,⟨?_,fun i j c A hj=> ?_,fun i c hj=> ?_,fun x l=> ?_,jO⟩,⟨u.trans (r.cons a),by rw[I];exact List.perm_append_singleton _ _,d,m,fun x l=>R x (r.mem_iff.2 l),v, ?_, ?_,fun i c L=> ?_⟩⟩
 ·have K:=G.ls;rw[E]at K;refine K.imp_of_mem (S:=RI (bj (gT (taken (taken t)) a b))) fun{x y} l T J=> ?_;have:=f.leaf x l;have:=f.leaf y T;unfold RI at J⊢;rw[d x jO,d y jO];exact J
 ·by_cases e:j<n+k
  ·rw[d i jO,d j e];exact s.js i j c A e
  ·obtain rfl:j=n+k:=jO;by_cases O:i<n+k
   ·rw[d i O,m];have:=s.mx i c O;omega
   ·obtain rfl:i=n+k:=jO;omega
 ·by_cases e:i<n+k
  ·rw[d i e];have:=s.mx i c e;omega
  ·obtain rfl:i=n+k:=jO;rw[m];omega
 ·rw[I]at l;rcases List.mem_append.1 l with q|q
  ·rw[d x (S3 f x q)];have:=v x q;unfold RI at this;omega
  ·obtain rfl:x=n+k:=by simpa using q
   rw[m];omega
 all_goals
  have D:∀i,i<n+k->(gT (taken (taken t)) a b).bK.getD i 0=if i=b then((n+k:Nat):Int)else if i=a then((n+k:Nat):Int)else t.bK.getD i 0:=fun i c=>by
   have w:(taken (taken t)).bK.length=n+k:=f.il;have F:(taken (taken t)).bK=t.bK:=by unfold taken;split<;>split<;>rfl
   unfold gT;simp only;rw[BT _ _ _ (by simp[w];exact c),pE,pE,f.wl,F];rw[F]at w;simp only[oC,w];by_cases p:i=b
   ·subst p;simp[c]
   ·by_cases C:i=a
    ·subst C;simp[c,p,Ne.symm p]
    ·simp[C,p,Ne.symm C,Ne.symm p]
 ·rw[D a P];split<;>simp
 ·rw[D b a2,if_pos rfl]
 ·have hb:b∈wt n k t:=u.mem_iff.2 (by simp[B]);have ha:a∈wt n k t:=u.mem_iff.2 jS;rw[D i c,if_neg (fun e=>L (by rw[e];exact hb)),if_neg (fun e=>L (by rw[e];exact ha))]
theorem S5{ws:List Int}{D:List Nat}(p:2<=ws.length)(m:D.Perm (aV ws.length))(l:D.Pairwise (RI (aS ws)))(g:∀x∈ws,0<=x):∀k,k+1<=ws.length->fV ws.length k [] (bu ws) (cT k (Start ws D))∧∃last,xA ws.length k last (cT k (Start ws D)):=by
 intro k
 induction k with
 |zero=>intro _;have b:=SH m g rfl;refine⟨b,0,l,fun i j o n q=>by omega,fun i o n=>by omega,fun x f=>(b.pos x (S3 b x f)).1,Int.le_refl _⟩
 |succ k e=>intro c;obtain⟨h,last,s⟩:=e jO;rw[vh];obtain⟨a,d,_⟩:=S4 h s c;exact⟨(step_ok h c).2.2.2.2.1,a,d⟩
theorem ach{ws:List Int}{D:List Nat}(f:2<=ws.length)(d:D.Perm (aV ws.length))(c:D.Pairwise (RI (aS ws)))(b:∀x∈ws,0<=x)(k:Nat)(e:k+2<=ws.length):
 Step ws.length k (Hu.leastOf (cT k (Start ws D))) (Hu.leastOf (taken (cT k (Start ws D)))) (wt ws.length k (taken (taken (cT k (Start ws D))))) (cT k (Start ws D)) (cT (k+1) (Start ws D)):=by
 obtain⟨h,last,s⟩:=S5 f d c b k jO;obtain⟨a,_,r⟩:=S4 h s e;rw[vh];exact r
structure cW (N:Nat) (w:Nat->Int) (I:Nat->Nat) (A B:Nat->Nat) (X R:Nat->List Nat):Prop where
 two:2<=N
 x0:(X 0).Perm (aV N)
 st:∀k,k+2<=N->(X k).Perm (A k::B k::R k)
 nx:∀k,k+2<=N->(X (k+1)).Perm ((N+k)::R k)
 wn:∀k,k+2<=N->w (N+k)=w (A k)+w (B k)
 ia:∀k,k+2<=N->I (A k)=N+k
 ib:∀k,k+2<=N->I (B k)=N+k
 mA:∀k,k+2<=N->∀x∈B k::R k,RI w (A k) x
 mB:∀k,k+2<=N->∀x∈R k,RI w (B k) x
 mono:∀i j,N<=i->i<=j->j<=2*N-2->w i<=w j
 pos:∀i,i<=2*N-2->0<=w i
section
variable {N:Nat} {X R:Nat->List Nat} {A B:Nat->Nat}
theorem Hk(b:(X 0).Perm (aV N))(h:∀k,k+2<=N->(X k).Perm (A k::B k::R k))(i:∀k,k+2<=N->(X (k+1)).Perm ((N+k)::R k)):∀k,k+1<=N->(∀x∈X k,x<N+k)∧(X k).Nodup∧(X k).length=N-k:=by
 intro k
 induction k with
 |zero=>intro _;exact⟨fun x a=>by have:=List.mem_range.1 (b.mem_iff.1 a);omega,b.nodup_iff.2 List.nodup_range,by rw[b.length_eq,List.length_range];omega⟩
 |succ k m=>
  intro f;obtain⟨g,o,r⟩:=m jO;have p:=h k f;have q:=i k f;have d:∀x∈R k,x∈X k:=fun x a=>p.mem_iff.2 (by simp[a]);have c:=p.nodup_iff.1 o;refine⟨fun x a=> ?_,q.nodup_iff.2 (ahA.2 ⟨fun n=> ?_,(ahA.1 (ahA.1 c).2).2⟩), ?_⟩
  ·rcases List.mem_cons.1 (q.mem_iff.1 a)with e|e
   ·omega
   ·have:=g x (d x e);omega
  ·have:=g _ (d _ n);omega
  ·have l:=p.length_eq;have j:=q.length_eq;simp only[bL]at l j;omega
end
theorem aci{ws:List Int}{D:List Nat}(C:2<=ws.length)(z:D.Perm (aV ws.length))(I:D.Pairwise (RI (aS ws)))(G:∀x∈ws,0<=x):∃A B X R,cW ws.length (bj (fa ws D)) (fun i=>((fa ws D).bK.getD i 0).toNat) A B X R∧∀i,i<ws.length->bj (fa ws D) i=ws.getD i 0:=by
 have all:=S5 C z I G;have c:=ach C z I G
 have f:∀d k,k+d+1=ws.length->∀i,i<ws.length+k->bj (fa ws D) i=bj (cT k (Start ws D)) i:=by
  intro d
  induction d with
  |zero=>intro k b i q;unfold fa;rw[show ws.length-1=k by omega]
  |succ d y=>intro k b i q;rw[y (k+1) jO i jO];exact(c k jO).old i q
 have E:(wt ws.length 0 (cT 0 (Start ws D))).Perm (aV ws.length):=by show(D++pW ws.length (ws.length+0-ws.length)).Perm _;rw[iA,oA,List.range'_zero,bV];exact z
 have w:=Hk (X:=fun k=>wt ws.length k (cT k (Start ws D))) (R:=fun k=>wt ws.length k (taken (taken (cT k (Start ws D))))) (A:=fun k=>Hu.leastOf (cT k (Start ws D))) (B:=fun k=>Hu.leastOf (taken (cT k (Start ws D)))) E (fun k b=>(c k b).perm) (fun k b=>(c k b).next)
 have m:∀d k,k+d+1=ws.length->∀i,i<ws.length+k->i∉wt ws.length k (cT k (Start ws D))->(fa ws D).bK.getD i 0=(cT k (Start ws D)).bK.getD i 0:=by
  intro d
  induction d with
  |zero=>intro k b i q _;unfold fa;rw[show ws.length-1=k by omega]
  |succ d y=>
   intro k b i q J;have s:=c k jO;rw[y (k+1) jO i jO (fun t=> ?_)]
   ·exact s.io i q J
   ·rcases List.mem_cons.1 (s.next.mem_iff.1 t)with e|e
    ·omega
    ·exact J (s.perm.mem_iff.2 (by simp[e]))
 have a:∀k,k+2<=ws.length->Hu.leastOf (cT k (Start ws D))<ws.length+k∧Hu.leastOf (taken (cT k (Start ws D)))<ws.length+k∧Hu.leastOf (cT k (Start ws D))∉wt ws.length (k+1) (cT (k+1) (Start ws D))∧Hu.leastOf (taken (cT k (Start ws D)))∉wt ws.length (k+1) (cT (k+1) (Start ws D)):=by
  intro k b;have s:=c k b;obtain⟨F,K,_⟩:=w k jO;have l:=F (Hu.leastOf (cT k (Start ws D))) (s.perm.mem_iff.2 jS);have g:=F (Hu.leastOf (taken (cT k (Start ws D)))) (s.perm.mem_iff.2 jS);have p:=s.perm.nodup_iff.1 K;rw[ahA,ahA]at p;refine⟨l,g,fun t=> ?_,fun t=> ?_⟩
  ·rcases List.mem_cons.1 (s.next.mem_iff.1 t)with e|e
   ·omega
   ·exact p.1 (by simp[e])
  ·rcases List.mem_cons.1 (s.next.mem_iff.1 t)with e|e
   ·omega
   ·exact p.2.1 e
 have n:∀k,k+2<=ws.length->∀i,i<ws.length+k->bj (fa ws D) i=bj (cT k (Start ws D)) i:=fun k b=>f (ws.length-1-k) k jO;refine⟨fun k=>Hu.leastOf (cT k (Start ws D)),fun k=>Hu.leastOf (taken (cT k (Start ws D))),fun k=>wt ws.length k (cT k (Start ws D)),fun k=>wt ws.length k (taken (taken (cT k (Start ws D)))),⟨C,E,fun k b=>(c k b).perm,fun k b=>(c k b).next,fun k b=> ?_,fun k b=> ?_,fun k b=> ?_,fun k b x r=> ?_,fun k b x r=> ?_,fun i j N L O=> ?_,fun i q=> ?_⟩,fun i q=> ?_⟩
 ·obtain⟨l,g,_⟩:=a k b;rw[f (ws.length-1-(k+1)) (k+1) jO _ jO,(c k b).new,n k b _ l,n k b _ g]
 ·obtain⟨l,g,v,u⟩:=a k b;show((fa ws D).bK.getD _ 0).toNat=_;rw[m (ws.length-1-(k+1)) (k+1) jO _ jO v,(c k b).ia];omega
 ·obtain⟨l,g,v,u⟩:=a k b;show((fa ws D).bK.getD _ 0).toNat=_;rw[m (ws.length-1-(k+1)) (k+1) jO _ jO u,(c k b).ib];omega
 ·obtain⟨l,g,v,u⟩:=a k b;have:=(c k b).mA x r;have o:=(w k jO).1 x ((c k b).perm.mem_iff.2 (eU _ r));unfold RI at this⊢;rw[n k b _ l,n k b _ o];exact this
 ·obtain⟨l,g,v,u⟩:=a k b;have:=(c k b).mB x r;have o:=(w k jO).1 x ((c k b).perm.mem_iff.2 (eU _ (eU _ r)));unfold RI at this⊢;rw[n k b _ g,n k b _ o];exact this
 ·obtain⟨h,last,s⟩:=all (ws.length-1) jO;exact s.js i j N L jO
 ·obtain⟨h,last,s⟩:=all (ws.length-1) jO;exact(h.pos i jO).1
 ·rw[n 0 jO i jO];rfl
theorem B9{a b:List Int}(h:a.Perm b):bu a=bu b:=by
 induction h with
 |nil=>rfl
 |cons x _ e=>simp only[bu,e]
 |swap x y l=>simp only[bu];omega
 |trans _ _ d c=>exact d.trans c
section
variable {N:Nat} {w:Nat->Int} {I A B:Nat->Nat} {X R:Nat->List Nat}
theorem cW.lt(m:cW N w I A B X R){k:Nat}(b:k+1<=N){x:Nat}(a:x∈X k):x<N+k:=(Hk m.x0 m.st m.nx k b).1 x a
theorem cW.len(m:cW N w I A B X R){k:Nat}(a:k+1<=N):(X k).length=N-k:=(Hk m.x0 m.st m.nx k a).2.2
theorem cW.last(m:cW N w I A B X R):X (N-1)=[2*N-2]:=by
 have d:=m.two;have c:=m.len (k:=N-1) jO
 have a:2*N-2∈X (N-1):=by have:=m.nx (N-2) jO;rw[show N-2+1=N-1 by omega]at this;exact this.mem_iff.2 (by rw[show N+(N-2)=2*N-2 by omega];simp)
 obtain⟨y,b⟩:=List.length_eq_one_iff.1 (show(X (N-1)).length=1 by omega);rw[b]at a⊢;rw[List.mem_singleton.1 a]
theorem cW.aX(m:cW N w I A B X R){k:Nat}(b:k+2<=N):A k∈X k∧B k∈X k∧(∀x∈R k,x∈X k)∧(∀x∈R k,x∈X (k+1))∧N+k∈X (k+1):=by have p:=m.st k b;have q:=m.nx k b;exact⟨p.mem_iff.2 jS,p.mem_iff.2 jS,fun x a=>p.mem_iff.2 (by simp[a]),fun x a=>q.mem_iff.2 (by simp[a]),q.mem_iff.2 jS⟩
theorem cW.Hl(m:cW N w I A B X R):∀k,k+1<=N->∀p,p<N+k->p∈X k∨I p<N+k:=by
 intro k
 induction k with
 |zero=>intro _ p c;exact .inl (m.x0.mem_iff.2 (List.mem_range.2 jO))
 |succ k b=>
  intro a p c;obtain⟨i,h,g,f,d⟩:=m.aX a;by_cases e:p=N+k
  ·exact .inl (by rw[e];exact d)
  ·rcases b jO p jO with q|q
   ·rcases List.mem_cons.1 ((m.st k a).mem_iff.1 q)with r|r
    ·right;rw[r,m.ia k a];omega
    ·rcases List.mem_cons.1 r with r|r
     ·right;rw[r,m.ib k a];omega
     ·exact .inl (f p r)
   ·right;omega
theorem cW.ge(m:cW N w I A B X R):∀d k,k+d+1=N->∀x∈X k,x=2*N-2∨N+k<=I x:=by
 intro d
 induction d with
 |zero=>intro k e x b;have:=m.last;rw[show N-1=k by omega]at this;rw[this]at b;exact .inl (List.mem_singleton.1 b)
 |succ d c=>
  intro k e x b;have a:k+2<=N:=jO;rcases List.mem_cons.1 ((m.st k a).mem_iff.1 b)with r|r
  ·right;rw[r,m.ia k a];exact ag _
  ·rcases List.mem_cons.1 r with r|r
   ·right;rw[r,m.ib k a];exact ag _
   ·rcases c (k+1) jO x ((m.aX a).2.2.2.1 x r)with q|q
    ·exact .inl q
    ·right;omega
theorem cW.Hm(m:cW N w I A B X R){k:Nat}(c:k+1<=N){x:Nat}(a:x∈X k)(b:x≠2*N-2):N+k<=I x:=(m.ge (N-1-k) k jO x a).resolve_left b
theorem cW.up(m:cW N w I A B X R){i:Nat}(b:i<2*N-2):i<I i∧I i<=2*N-2∧N<=I i:=by
 have c:=m.two
 have d:I i<=2*N-2:=by
  rcases m.Hl (N-1) jO i jO with q|q
  ·rw[m.last]at q;have:=List.mem_singleton.1 q;omega
  ·omega
 by_cases a:i<N
 ·have:=m.Hm (k:=0) jO (m.x0.mem_iff.2 (List.mem_range.2 a)) jO;omega
 ·have:=m.Hm (k:=i-N+1) jO (x:=i) (by have:=(m.aX (k:=i-N) jO).2.2.2.2;rwa[show N+(i-N)=i by omega]at this) jO;omega
theorem cW.inv(m:cW N w I A B X R){q k:Nat}(a:k+2<=N)(c:q<2*N-2)(h:I q=N+k):q∈X k∧(q=A k∨q=B k):=by
 have d:=(m.up c).1
 have b:q∈X k:=by
  rcases m.Hl k jO q jO with r|r
  ·exact r
  ·omega
 refine⟨b, ?_⟩;rcases List.mem_cons.1 ((m.st k a).mem_iff.1 b)with r|r
 ·exact .inl r
 ·rcases List.mem_cons.1 r with r|r
  ·exact .inr r
  ·have:=m.Hm (k:=k+1) jO ((m.aX a).2.2.2.1 q r) jO;omega
theorem cW.mid(m:cW N w I A B X R){dep:Nat->Nat}(z:dep (2*N-2)=0)(n:∀i,i<2*N-2->dep i=dep (I i)+1):∀f p q,2*N-2-p<=f->N<=p->p<=q->q<=2*N-2->dep q<=dep p:=by
 intro f
 induction f with
 |zero=>intro p q x l j h;obtain rfl:p=q:=jO;exact ag _
 |succ f o=>
  intro p q x l j h;by_cases e:q=2*N-2
  ·rw[e,z];omega
  by_cases y:p=q
  ·rw[y];exact ag _
  rw[n p jO,n q jO];have up:=m.up (show p<2*N-2 by omega);have C:=m.up (show q<2*N-2 by omega)
  have b:I p<=I q:=by
   obtain⟨k,g⟩:∃k,I q=N+k:=⟨I q-N,jO⟩;have a:k+2<=N:=jO;obtain⟨u,c⟩:=m.inv a jO g;have v:=m.lt jO u;rw[g];rcases m.Hl k jO p jO with r|r
   ·rcases List.mem_cons.1 ((m.st k a).mem_iff.1 r)with s|s
    ·rw[s,m.ia k a];exact ag _
    ·rcases List.mem_cons.1 s with s|s
     ·rw[s,m.ib k a];exact ag _
     ·have d:RI w q p:=by
       rcases c with t|t
       ·rw[t];exact m.mA k a p (eU _ s)
       ·rw[t];exact m.mB k a p s
      have:=m.mono p q l j h;unfold RI at d;omega
   ·omega
  have:=o (I p) (I q) jO jO b jO;omega
theorem cW.S6(m:cW N w I A B X R){dep:Nat->Nat}(a:dep (2*N-2)=0)(g:∀i,i<2*N-2->dep i=dep (I i)+1):∀f i,2*N-2-i<=f->i<=2*N-2->dep i<=2*N-2-i:=by
 intro f
 induction f with
 |zero=>intro i d c;obtain rfl:i=2*N-2:=jO
        rw[a];omega
 |succ f b=>
  intro i d c;by_cases e:i=2*N-2
  ·rw[e,a];omega
  ·have u:=m.up (show i<2*N-2 by omega);have:=b (I i) jO jO;rw[g i jO];omega
theorem cW.keeps(m:cW N w I A B X R)(f:Nat->Int)(g:∀k,k+2<=N->f (A k)+f (B k)=f (N+k)):∀k,k+1<=N->bu ((X k).map f)=f (2*N-2):=by
 have h:=m.two
 have:∀d k,k+d+1=N->bu ((X k).map f)=f (2*N-2):=by
  intro d
  induction d with
  |zero=>intro k b;have:=m.last;rw[show N-1=k by omega]at this;rw[this];simp[bu]
  |succ d e=>intro k b;have a:k+2<=N:=jO;have c:=e (k+1) jO;rw[B9 ((m.nx k a).map f)]at c;rw[B9 ((m.st k a).map f)];simp only[lE,bu]at c⊢;have:=g k a;omega
 exact fun k b=>this (N-1-k) k jO
theorem cW.xB(m:cW N w I A B X R){k:Nat}(a:k+2<=N):A k<2*N-2∧B k<2*N-2:=by have h:=m.aX a;have:=m.lt jO h.1;have:=m.lt jO h.2.1;omega
theorem cW.acj(m:cW N w I A B X R){dep:Nat->Nat}(b:∀i,i<2*N-2->dep i=dep (I i)+1){k:Nat}(a:k+2<=N):dep (A k)=dep (N+k)+1∧dep (B k)=dep (N+k)+1:=by have h:=m.xB a;rw[b _ h.1,b _ h.2,m.ia k a,m.ib k a];exact⟨rfl,rfl⟩
theorem cW.ack(m:cW N w I A B X R){dep:Nat->Nat}(b:dep (2*N-2)=0)(a:∀i,i<2*N-2->dep i=dep (I i)+1)(M:Nat)(j:2*N<=M):bu ((aV N).map fun i=>(2:Int)^(M-dep i))=2^M:=by
 have g:=m.two
 have h:=m.keeps (fun i=>(2:Int)^(M-dep i)) (fun k c=>by
  obtain⟨e,d⟩:=m.acj a c;have f:=m.S6 b a (2*N) (N+k) jO jO;show(2:Int)^(M-dep (A k))+2^(M-dep (B k))=2^(M-dep (N+k));rw[e,d,show M-dep (N+k)=(M-(dep (N+k)+1))+1 by omega,ahr]
  omega) 0 jO
 rw[B9 (m.x0.map _),b]at h;exact h
theorem cW.root(m:cW N w I A B X R):bu ((aV N).map w)=w (2*N-2):=by have b:=m.two;have h:=m.keeps w (fun k a=>(m.wn k a).symm) 0 jO;rw[B9 (m.x0.map _)]at h;exact h
theorem cW.acm(m:cW N w I A B X R){c:Int}(j:0<=c):∀d k,(∀x∈X k,c<=w x)->k+d+1<=N->∀x∈X (k+d),c<=w x:=by
 intro d
 induction d with
 |zero=>intro k h _;exact h
 |succ d f=>
  intro k h i x g;have p:=f k h jO;have b:(k+d)+2<=N:=jO;have a:=m.aX b;rcases List.mem_cons.1 ((m.nx (k+d) b).mem_iff.1 g)with e|e
  ·rw[e,m.wn _ b];have:=p _ a.1;have:=p _ a.2.1;omega
  ·exact p x (a.2.2.1 x e)
theorem cW.acn(m:cW N w I A B X R){x:Nat}(g:x<2*N-2)(f:I x<2*N-2):w x<=w (I x)∧2*w x<=w (I (I x)):=by
 have u:=m.up g;have q:=m.up f;obtain⟨k,h⟩:∃k,I x=N+k:=⟨I x-N,jO⟩;obtain⟨j,p⟩:∃j,I (I x)=N+j:=⟨I (I x)-N,jO⟩;have c:k+2<=N:=jO;have d:j+2<=N:=jO;have a:=m.aX c
 have n:w x<=w (B k)∧w x<=w (N+k):=by have:=(m.inv c g h).2;have i:=m.mA k c (B k) jS;have:=m.wn k c;have:=m.pos (A k) (by have:=m.xB c;omega);have:=m.pos (B k) (by have:=m.xB c;omega);unfold RI at i;rcases (m.inv c g h).2 with e|e<;>rw[e]<;>omega
 refine⟨by rw[h];exact n.2, ?_⟩
 have l:=m.acm (m.pos x jO) (j-(k+1)) (k+1) (fun y o=>by
  rcases List.mem_cons.1 ((m.nx k c).mem_iff.1 o)with e|e
  ·rw[e];exact n.2
  ·have:=m.mB k c y e;unfold RI at this
   omega) jO
 rw[show k+1+(j-(k+1))=j by omega]at l;have b:=m.aX d;rw[p,m.wn j d];have:=l _ b.1;have:=l _ b.2.1;omega
theorem cW.deep(m:cW N w I A B X R){dep:Nat->Nat}(c:dep (2*N-2)=0)(b:∀i,i<2*N-2->dep i=dep (I i)+1):∀f x,2*N-2-x<=f->x<=2*N-2->w x*2^(dep x/2)<=w (2*N-2):=by
 intro f
 induction f with
 |zero=>intro x o n;obtain rfl:x=2*N-2:=jO;rw[c];simp
 |succ f h=>
  intro x o n;by_cases e:x=2*N-2
  ·rw[e,c];simp
  have u:=m.up (show x<2*N-2 by omega);by_cases g:I x=2*N-2
  ·rw[b x jO,g,c];obtain⟨k,d⟩:∃k,I x=N+k:=⟨I x-N,jO⟩;have a:k+2<=N:=jO;have l:=(m.inv a jO d).2;have j:=m.wn k a;rw[<-d,g]at j;have:=m.pos (A k) (by have:=m.xB a;omega);have:=m.pos (B k) (by have:=m.xB a;omega);simp;rcases l with r|r<;>rw[r]<;>omega
  ·have p:=m.up (show I x<2*N-2 by omega);have t:=(m.acn (show x<2*N-2 by omega) jO).2;rw[b x jO,b (I x) jO];have:=h (I (I x)) jO jO;rw[show(dep (I (I x))+1+1)/2=dep (I (I x))/2+1 by omega,ahr,<-ahC,ahD (w x) _,ahC];refine Int.le_trans ?_ this;rw[ahD];exact Vs jO (ahE jO)
end
theorem cW.short{N:Nat}{w:Nat->Int}{I A B:Nat->Nat}{X R:Nat->List Nat}(m:cW N w I A B X R){dep:Nat->Nat}(c:dep (2*N-2)=0)(b:∀i,i<2*N-2->dep i=dep (I i)+1){x:Nat}(d:x<N)(a:1<=w x)(e:w (2*N-2)<1024):dep x<=19:=by
 have g:=m.two;have h:=m.deep c b (2*N) x jO jO;apply yw;intro f
 have k:(2:Int)^10<=2^(dep x/2):=by
  have:(2:Nat)^10<=2^(dep x/2):=kD jO jO
  exact_mod_cast this
 have j:(2:Int)^(dep x/2)<=w x*2^(dep x/2):=by have:(1:Int)*2^(dep x/2)<=w x*2^(dep x/2):=Vs a (ahE jO);omega
 omega
theorem Ca(a:List Int):∀(i:Nat) (out:List Int) (j:Nat),i<=j->(ir a i out).getD j 0=out.getD j 0
 |0,out,j,_=>rfl
 |i+1,out,j,h=>by unfold ir;rw[Ca a i _ j jO,pE,if_neg jO]
theorem S7(a:List Int)(T:Nat):∀(i:Nat) (out:List Int),out.length=T->i<=T->(∀j,j<i->j<(a.getD j 0).toNat∧(a.getD j 0).toNat<T)->∀j,j<i->(ir a i out).getD j 0=(ir a i out).getD (a.getD j 0).toNat 0+1
 |0,out,_,_,_,j,c=>by omega
 |i+1,out,d,f,b,j,c=>by
  have g:=b i jO;unfold ir;by_cases e:j=i
  ·subst e;rw[Ca a j _ j jO,Ca a j _ _ jO,pE,pE,if_pos ⟨rfl,jO⟩,if_neg jO]
  ·exact S7 a T i _ (by rw[oC];exact d) jO (fun j c=>b j jO) j jO
theorem S8(a:List Int):∀(i:Nat) (out:List Int),(∀j,0<=out.getD j 0)->∀j,0<=(ir a i out).getD j 0
 |0,out,h,j=>h j
 |i+1,out,h,j=>by unfold ir;refine S8 a i _ (fun j=> ?_) j;rw[pE];have:=h j;have:=h (a.getD i 0).toNat;split<;>omega
structure mc (ws:List Int) (D:List Nat) (w:Nat->Int) (I A B:Nat->Nat) (X R:Nat->List Nat) (dep:Nat->Nat):Prop where
 m:cW ws.length w I A B X R
 d0:dep (2*ws.length-2)=0
 d1:∀i,i<2*ws.length-2->dep i=dep (I i)+1
 ww:∀i,i<ws.length->w i=ws.getD i 0
 eq:mb ws D=(aV ws.length).map fun i=>(dep i:Int)
theorem aco{ws:List Int}{D:List Nat}(n:2<=ws.length)(h:D.Perm (aV ws.length))(g:D.Pairwise (RI (aS ws)))(f:∀x∈ws,0<=x):∃w I A B X R dep,mc ws D w I A B X R dep:=by
 obtain⟨A,B,X,R,m,e⟩:=aci n h g f;obtain⟨out,a⟩:∃out,ir (fa ws D).bK (2*ws.length-2) (bI (2*ws.length-1) 0)=out:=⟨_,rfl⟩
 have b:∀j,0<=out.getD j 0:=by rw[<-a];refine S8 _ _ _ fun j=> ?_;rw[au,ahF];split<;>simp
 have c:out.length=2*ws.length-1:=by rw[<-a,B4,oD]
 refine⟨_,_,A,B,X,R,fun i=>(out.getD i 0).toNat,m, ?_,fun i l=> ?_,e, ?_⟩
 ·rw[<-a,Ca _ _ _ _ (ag _),au,ahF];split<;>rfl
 ·have d:=S7 (fa ws D).bK (2*ws.length-1) (2*ws.length-2) (bI (2*ws.length-1) 0) (by rw[oD]) jO (fun j k=>by
   have:=m.up k
   omega) i l
  rw[a]at d;have:=b ((fa ws D).bK.getD i 0).toNat;show(out.getD i 0).toNat=(out.getD ((fa ws D).bK.getD i 0).toNat 0).toNat+1;rw[d];omega
 ·unfold mb;rw[a];apply mr
  ·simp[c];omega
  ·intro i d o;have p:i<ws.length:=by simpa using o
   have:=b i;rw[au,aC jO]at this;simp only[List.getElem_take,vS,IX];rw[au,aC jO];simp only[Il]at this⊢;omega
theorem S9{k:Nat->Int}:∀{a b:List Nat},a.Perm b->a.Pairwise (RI k)->b.Pairwise (RI k)->a=b
 |[],b,h,_,_=>(List.nil_perm.1 h).symm
 |x::a,[],h,_,_=>by simp at h
 |x::a,y::b,h,m,l=>by
  have d:=qa.1 m;have c:=qa.1 l
  have e:x=y:=by
   have j:x∈y::b:=h.mem_iff.1 jS;have i:y∈x::a:=h.mem_iff.2 jS;rcases List.mem_cons.1 j with e|e
   ·exact e
   ·rcases List.mem_cons.1 i with e2|e2
    ·exact e2.symm
    ·have g:=c.1 x e;have f:=d.1 y e2;unfold RI at g f;omega
  subst e;rw[S9 h.cons_inv d.2 c.2]
def ix(ws:List Int)(D:List Nat):Prop:=D.Perm (aV ws.length)∧D.Pairwise (RI (aS ws))
theorem ix.one{ws:List Int}{D E:List Nat}(h:ix ws D)(k:ix ws E):D=E:=S9 (h.1.trans k.1.symm) h.2 k.2
open Classical in
noncomputable def mS (ws:List Int):List Nat:=if h:∃D,ix ws D then h.choose else []
theorem ix.eq{ws:List Int}{D:List Nat}(h:ix ws D):mS ws=D:=by unfold mS;have a:∃D,ix ws D:=⟨D,h⟩;rw[dif_pos a];exact a.choose_spec.one h
noncomputable def jJ (ws:List Int):List Int:=mb ws (mS ws)
theorem ix.dep{ws:List Int}{D:List Nat}(h:ix ws D):mb ws D=jJ ws:=by unfold jJ;rw[h.eq]
theorem acp{f:Nat->Int}{n i:Nat}(h:i<n):((aV n).map f).getD i 0=f i:=by rw[au,fw,List.getElem?_range h];rfl
section
variable {ws:List Int} {D:List Nat} {w:Nat->Int} {I A B:Nat->Nat} {X R:Nat->List Nat} {dep:Nat->Nat}
theorem mc.at_(d:mc ws D w I A B X R dep){i:Nat}(h:i<ws.length):(mb ws D).getD i 0=dep i:=by rw[d.eq,acp h]
theorem mc.ge1(d:mc ws D w I A B X R dep){i:Nat}(h:i<ws.length):1<=dep i:=by have:=d.m.two;rw[d.d1 i jO];omega
theorem mc.le(d:mc ws D w I A B X R dep){i:Nat}(h:i<ws.length):dep i<ws.length:=by have a:=d.m.two;have u:=d.m.up (show i<2*ws.length-2 by omega);have:=d.m.S6 d.d0 d.d1 (2*ws.length) (I i) jO jO;rw[d.d1 i jO];omega
theorem mc.mem(d:mc ws D w I A B X R dep){P:Int->Prop}:(∀x∈mb ws D,P x)↔∀i,i<ws.length->P (dep i):=by rw[d.eq];simp
end
def jL(x:Int):Int:=2^(20-x).toNat
def gD(xs:List Int):Int:=bu (xs.map jL)
theorem mc.share{ws:List Int}{D:List Nat}{w:Nat->Int}{I A B:Nat->Nat}{X R:Nat->List Nat}{dep:Nat->Nat}(d:mc ws D w I A B X R dep)(h:∀x∈mb ws D,x<=20):gD (mb ws D)=1048576:=by
 have h:=d.mem.1 h;have k:=d.m.two;obtain⟨M,m⟩:∃M,M=2*ws.length+20:=⟨_,rfl⟩;have b:=d.m.ack d.d0 d.d1 M jO
 have e:∀l:List Nat,(∀i∈l,i<ws.length)->bu (l.map fun i=>(2:Int)^(M-dep i))=2^(M-20)*bu (l.map fun i=>jL (dep i)):=by
  intro l
  induction l with
  |nil=>intro _;simp[bu]
  |cons x l g=>intro f;have j:=h x (f x jS);simp only[lE,bu];rw[g (fun i c=>f i (by simp[c])),Int.mul_add];congr 1;unfold jL;rw[<-ahG];congr 1;omega
 rw[e _ (fun i c=>List.mem_range.1 c)]at b;unfold gD;rw[d.eq,mq]
 have a:(2:Int)^M=2^(M-20)*1048576:=by rw[show(1048576:Int)=2^20 by rfl,<-ahG];congr 1;omega
 rw[a]at b;exact Int.eq_of_mul_eq_mul_left (Int.ne_of_gt (Int.pow_pos jO)) b
end Go.Proofs.YtcehhgppfahbkaaGreatDoor
namespace Go.Proofs.YtcehhgppfahbkaaGreatDoor
open Go.RowKit Ev Hu
theorem Hn(c:Int):∀l:List Int,(∀x∈l,x<=c)->bu l<=l.length*c
 |[],_=>by simp[bu]
 |x::l,h=>by have b:=Hn c l (fun y a=>h y (by simp[a]));have:=h x jS;simp only[bu,bL];rw[show((l.length+1:Nat):Int)*c=l.length*c+c by rw[show((l.length+1:Nat):Int)=(l.length:Int)+1 by omega,Int.add_mul,ahs]];omega
theorem acq{ws:List Int}(b:ws.length<=258)(a:∀x∈ws,x<=2199023255552):bu ws<=1152921504606846976:=by have h:=Hn 2199023255552 ws a;have:(ws.length:Int)*2199023255552<=258*2199023255552:=Vs jO jO;omega
structure Ws (ws:List Int):Prop where
 l2:2<=ws.length
 l3:ws.length<=258
 lo:∀x∈ws,0<=x
 hi:∀x∈ws,x<=2199023255552
theorem Ho{ws:List Int}(h:1<=ws.length):(jJ ws).length=ws.length:=xy _ _ h
theorem S'(lf d n:Nat)(h:H)(v:Value)(ws:List Int)(o:Row h n 3 .i64 v ws)(a:Ws ws)(g:3000000<=lf)(hd:300<=d):
 aa (fun _=>False) n (ah ad gt lf d 233 #[v]) h n fun c h' n'=>ix ws (mS ws)∧Row h' n' 3 .i64 c (jJ ws)∧∀b,aq c b->n<=b:=by
 obtain⟨e,rfl⟩:∃e,d=e+ws.length+8:=⟨d-ws.length-8,by have:=a.l3;omega⟩;have l:=a.l3;refine(ab2 lf e n h v ws o a.l2 jO g a.lo (acq a.l3 a.hi)).mono ?_;rintro c h' n' _ ⟨D,k,j,i,m⟩;have f:ix ws D:=⟨k,j⟩;rw[f.dep]at i;exact⟨by rw[f.eq];exact f,i,m⟩
theorem Ws.Ta{ws:List Int}(b:Ws ws)(a:ix ws (mS ws)):∃w I A B X R dep,mc ws (mS ws) w I A B X R dep:=aco b.l2 a.1 a.2 b.lo
def pI(x:Int):Int:=(if x<0 then 0 else x).tdiv 2+1
def jg(xs:List Int):List Int:=xs.map pI
theorem Tc(x:Int)(h:x<=9223372036854775807):1<=pI x∧pI x<=4611686018427387904∧(0<=x->pI x=x/2+1):=by unfold pI;have:(if x<0 then 0 else x).tdiv 2=(if x<0 then 0 else x)/2:=Int.tdiv_eq_ediv_of_nonneg (by split<;>omega);rw[this];split<;>omega
theorem acr(x:Int)(h:x<=9223372036854775807):IntKind.i64.wrap ((if x<0 then 0 else x).tdiv 2)=(if x<0 then 0 else x).tdiv 2∧IntKind.i64.wrap ((if x<0 then 0 else x).tdiv 2+1)=pI x:=by have:=Tc x h;unfold pI at this⊢;exact⟨aO jO jO,aO jO jO⟩
theorem nW(xs:List Int):(jg xs).length=xs.length:=by unfold jg;simp
theorem acs{xs:List Int}{i:Nat}(h:i<xs.length):(jg xs).getD i 0=pI (xs.getD i 0):=by unfold jg;rw[au,fw,aC h,au,aC h];rfl
def part(L:List Int)(i:Nat):List Int:=L.take i++bI (L.length-i) 0
theorem Hp(L:List Int){i:Nat}(h:i<=L.length):(part L i).length=L.length:=by unfold part;simp;omega
theorem Hq{L:List Int}{i:Nat}(h:i<L.length):(part L i).set i (L.getD i 0)=part L (i+1):=by unfold part;rw[C8 _ _ (by simp;omega),ed,p9 jO,oA];obtain⟨e,a⟩:∃e,L.length-i=e+1:=⟨L.length-i-1,jO⟩;rw[a,List.replicate_succ,List.set_cons_zero,show L.length-(i+1)=e by omega,jV h,b9];rw[au,aC h];rfl
theorem Hr(L:List Int):part L L.length=L:=by unfold part;simp
theorem Hs(L:List Int):part L 0=bI L.length 0:=by unfold part;simp
theorem hvL(lf d n:Nat)(h:H)(v:Value)(xs:List Int)(w:Row h n 3 .i64 v xs)(Q:xs.length<=1000000)(G:∀x∈xs,x<=9223372036854775807)(y:Value)(c:Nat)(L:xs.length<=c){W:Nat->Prop}{n0:Nat}(l:n0<=n):
 ∀(m i a:Nat) (j:H),xs.length-i=m->m<a->i<=xs.length->(∀b,b<n->j.get b=h.get b)->j.get n=some ⟨3,true,ints (part (jg xs) i)⟩->
  aa W n0 (te lf (ah ad gt lf d) a (BI lf (ah ad gt lf d)) v y (.slice (some ⟨n,0,none⟩) xs.length c) v (jI (xs.length:Nat)) (jI (i:Nat))) j (n+1) (fun u h' n'=>Row h' n' 3 .i64 u (jg xs)∧∀b,aq u b->n<=b):=by
 intro m
 induction m with
 |zero=>
  intro i a j I r J q e;obtain⟨a,rfl⟩:∃f,a=f+1:=⟨a-1,jO⟩;obtain rfl:i=xs.length:=jO;rw[te];try simp(disch:=first|omega|assumption) only[Nat.reduceAdd,Nat.reduceLT,RZ,cb]
  (try unfold BI);(try dsimp only)
  try simp(disch:=first|omega|assumption) only[Nat.reduceAdd,Nat.reduceLT,RZ]
  rw[<-nW xs,Hr]at e;refine⟨.inr ⟨n,0,c,true,_,by rw[nW],e,dL n,by rw[jH];omega, ?_,by rw[nW];exact L⟩,fun b g=>by rw[g.inj];exact ag n⟩;rw[dj,fZ (by rw[jH];exact ag _)];rfl
 |succ m F=>
  intro i a j I r J q e;obtain⟨a,rfl⟩:∃f,a=f+1:=⟨a-1,jO⟩;have t:Row j (n+1) 3 .i64 v xs:=w.ar (cI n) q;have p:=fun b g=>w.lt (b:=b) g;obtain⟨b,E,cap,o,R,rfl,K,g,_,_,_,s⟩:=t.some jO;have N:b<n:=p b ⟨_,_,_,rfl⟩;have O:((i:Nat):Int)<((xs.length:Nat):Int):=jO;have P:=s i jO;have B:((i:Nat):Int)+1=((i+1:Nat):Int):=jO;have k:=G (xs.getD i 0) (by rw[au,aC jO];exact cu _);obtain⟨A,z⟩:=acr _ k;have D:(part (jg xs) i).length=xs.length:=by rw[Hp _ (by rw[nW];omega),nW]
  have C:(part (jg xs) i).set i (pI (xs.getD i 0))=part (jg xs) (i+1):=by rw[<-acs jO,Hq (by rw[nW];omega)]
  rw[te];try simp(disch:=first|omega|assumption) only[Nat.reduceAdd,Nat.reduceLT,RZ,O,K,P,A,z,e,ints_set,jH,D,C]
  refine⟨jO,.inl l, ?_⟩;rw[B];exact F (i+1) a _ jO jO jO (fun b g=>by rw[ak _ _ jO];exact q b g) (get_eq _ _ _)
theorem acu(lf d n:Nat)(h:H)(v:Value)(xs:List Int)(g:Row h n 3 .i64 v xs)(k:xs.length<=1000000)(i:∀x∈xs,x<=9223372036854775807)(j:3000000<=lf):
 aa (fun _=>False) n (ah ad gt lf (d+1) 235 #[v]) h n fun f h' n'=>Row h' n' 3 .i64 f (jg xs)∧∀b,aq f b->n<=b:=by
 rw[aF (fun _=>RH) rfl];refine aa.aD ?_;unfold BJ;have e:=g;obtain⟨a,c,rfl⟩:=g.len;try simp(disch:=first|omega|assumption) only[Nat.reduceAdd,Nat.reduceLT,RZ]
 refine Ev.run_make trivial xs.length xs.length _ (ag _) jO ?_;try simp(disch:=first|omega|assumption) only[Nat.reduceAdd,Nat.reduceLT,RZ]
 refine hvL lf d n h _ xs e k i _ xs.length (ag _) (ag n) xs.length 0 lf _ jO jO jO (fun b l=>ak _ _ jO) ?_;rw[get_eq,Hs,nW];unfold ints;rw[Dg]
theorem acv{x:Int}(c:0<=x)(a:x<=20):1<=jL x∧jL x<=1048576:=by unfold jL;have a:(2:Nat)^(20-x).toNat<=2^20:=kD jO jO;have b:1<=(2:Nat)^(20-x).toNat:=Nat.one_le_two_pow;have e:((2:Int)^(20-x).toNat)=(((2:Nat)^(20-x).toNat:Nat):Int):=jS;rw[e];omega
end Go.Proofs.YtcehhgppfahbkaaGreatDoor
namespace Go.Proofs.YtcehhgppfahbkaaGreatDoor
open Hu
end Go.Proofs.YtcehhgppfahbkaaGreatDoor
namespace Go.Proofs.YtcehhgppfahbkaaGreatDoor
open Go.RowKit Ev Hu
theorem dq(a b:Value):qg (.tuple #[a,b]) 0=some a:=rfl
theorem ext1(a b:Value):qg (.tuple #[a,b]) 1=some b:=rfl
theorem Td{xs:List Int}{i:Nat}(h:i<xs.length):xs.getD i 0∈xs:=by rw[au,aC h];exact cu _
end Go.Proofs.YtcehhgppfahbkaaGreatDoor
namespace Go.Proofs.YtcehhgppfahbkaaGreatDoor
open Go.RowKit Ev Cn
def iN(ln:List Nat):List Int:=ln.map fun(x:Nat)=>(x:Int)
theorem bC(ln:List Nat):(iN ln).length=ln.length:=by unfold iN;simp
theorem ki{ln:List Nat}{i:Nat}:(iN ln).getD i 0=(ln.getD i 0:Int):=by unfold iN;rw[au,fw,au];cases ln[i]? <;>rfl
theorem Te(x:Nat)(ln:List Nat):∀m,gX (x::ln) m=gX ln m+(if x<m then 2^(20-x)else 0)
 |0=>by simp[gX]
 |m+1=>by
  show gX (x::ln) m+cn (x::ln) m*2^(20-m)=gX ln m+cn ln m*2^(20-m)+_;rw[Te x ln m];have e:cn (x::ln) m=cn ln m+(if x=m then 1 else 0):=by unfold cn;rw[VN];simp
  rw[e,ff];by_cases h:x=m
  ·subst h;rw[if_pos rfl,if_neg (ub x),if_pos (dL x)];omega
  ·rw[if_neg h];by_cases a:x<m
   ·rw[if_pos a,if_pos jO];omega
   ·rw[if_neg a,if_neg jO];omega
theorem Tf:∀{ln:List Nat},(∀x∈ln,x<=20)->gD (iN ln)=(gX ln 21:Int)
 |[],_=>by
  have:∀m,gX [] m=0:=by
   intro m
   induction m with
   |zero=>rfl
   |succ m a=>show gX [] m+cn [] m*_=0;rw[a];simp[cn]
  rw[this];rfl
 |x::ln,h=>by
  have a:=Tf (ln:=ln) fun y b=>h y (eU _ b);have c:=h x List.mem_cons_self;rw[Te,if_pos (show x<21 by omega)];show jL (x:Int)+gD (iN ln)=_;rw[a];unfold jL;rw[show(20-(x:Int)).toNat=20-x by omega];have:((2:Int)^(20-x))=((2^(20-x):Nat):Int):=by push_cast;rfl
  rw[this];omega
theorem acw{ln:List Nat}(h:∀x∈ln,1<=x∧x<=20)(b:gD (iN ln)=1048576):Wh ln:=⟨h,by
 have:=Tf (ln:=ln) fun x a=>(h x a).2
 omega⟩
section
variable (lf d n:Nat) (h:H) (bB:3000000<=lf)
include bB
theorem acx(v:Value)(xs:List Int)(x:Row h n 3 .i64 v xs)(O:xs.length<=258)(w:dk 0 20 xs=true):
 aa (fun _=>False) n (ah ad gt lf (d+5) 203 #[v]) h n fun C h' n'=>C= .tuple #[jI (gD xs),jI 0]:=by
 have l:=iu.1 w;rw[aF (fun _=>QZ) rfl];refine aa.aD ?_;unfold Bs;have f:=x;obtain⟨a,c,rfl⟩:=x.len;have J:¬((258:Int)<((xs.length:Nat):Int)):=jO;refine jA @J ?_;refine vm (SJ lf d n h _ xs f 0 20 jO bB) (ag _) fun y u k t=> ?_;rw[w];have r:=f.ar k t;refine jA @fY ?_;refine dP xs.length (fun s i (q:Int)=>sY lf (ah ad gt lf (d+4)) s (Br lf (ah ad gt lf (d+4))) (.slice a xs.length c) (jI 0) (jI 0) (jI q) (.bool false) (.slice a xs.length c) (jI (xs.length:Nat)) (jI (i:Nat))) (fun i q h' n'=>(h'=y∧n'=u)∧0<=q∧q<=i*1048576∧q+gD (xs.drop i)=gD xs) ?_ ?_ lf 0 0 y u (cL _) jO ⟨⟨rfl,rfl⟩,jO,jO,by rw[dj];omega⟩
 ·rintro s q h' n' ⟨⟨rfl,rfl⟩,D,q1,q2⟩;rw[sY];refine jA @cb ?_
  (try unfold Br);(try dsimp only)
  refine jB ?_;rw[qc]at q2;have:gD []=0:=rfl;rw[<-q2,this,Int.add_zero]
 ·rintro s i q h' n' m ⟨⟨rfl,rfl⟩,D,q1,q2⟩ next;obtain⟨b,E,cap,o,R,F,G,P,_,_,_,p⟩:=r.some jO;cases F;have I:((i:Nat):Int)<((xs.length:Nat):Int):=jO;have K:=p i m;have e:=l (xs.getD i 0) (by rw[au,aC m];exact cu _);obtain⟨N,L⟩:=acv e.1 e.2;have B:IntKind.i64.wrap (20-xs.getD i 0)=(((20-xs.getD i 0).toNat:Nat):Int):=by rw[aO jO jO];omega
  have j:IntKind.i64.wrap (1*2^(min (((20-xs.getD i 0).toNat:Nat):Int).toNat IntKind.i64.bits))=jL (xs.getD i 0):=by rw[fg,p9 (pU (show(20-xs.getD i 0).toNat<=20 by omega) jD),ahs];exact aO (by unfold jL at N;omega) (by unfold jL at L;omega)
  have g:IntKind.i64.wrap (1*2^(min (20-xs.getD i 0).toNat IntKind.i64.bits))=jL (xs.getD i 0):=by rw[fg]at j;exact j
  have A:IntKind.i64.wrap (q+jL (xs.getD i 0))=q+jL (xs.getD i 0):=aO jO jO;have z:(0:Int)<=(((20-xs.getD i 0).toNat:Nat):Int):=jO;have Q:gD (xs.drop i)=jL (xs.getD i 0)+gD (xs.drop (i+1)):=by rw[lh 0 m];rfl
  rw[sY];refine jA (aI @I (aI @G (aI @K (aI @B (aI @z (aI @j (aI @g @A))))))) ?_;refine next _ _ _ ⟨⟨rfl,rfl⟩,jO,jO,jO⟩
theorem Tg(v:Value)(xs:List Int)(z:Int)(u:Row h n 3 .i64 v xs)(E:xs.length<=1000000):
 aa (fun _=>False) n (ah ad gt lf (d+1) 160 #[v,jI z]) h n fun A h' n'=>(∃r:Int,A=jI r∧((r=-1∧∀x∈xs,x≠z)∨∃i,i<xs.length∧r=(i:Int)∧xs.getD i 0=z∧∀j,j<i->xs.getD j 0≠z))∧h'=h∧n'=n:=by
 rw[aF (fun _=>PV) rfl];refine aa.aD ?_;unfold A6;have l:=u;obtain⟨a,c,rfl⟩:=u.len;refine jB ?_;refine dP xs.length (fun m i (_:Unit)=>sK lf (ah ad gt lf d) m (wU lf (ah ad gt lf d)) (.slice a xs.length c) (jI z) (jI 0) (jI (xs.length:Nat)) (jI (i:Nat))) (fun i _ h' n'=>(h'=h∧n'=n)∧∀j,j<i->xs.getD j 0≠z) ?_ ?_ lf 0 () h n (cL _) jO ⟨⟨rfl,rfl⟩,fun j f=>absurd f (jr j)⟩
 ·rintro m _ h' n' ⟨⟨rfl,rfl⟩,g⟩;rw[sK];refine jA @cb ?_
  (try unfold wU);(try dsimp only)
  refine jB ?_;refine⟨-1,rfl,.inl ⟨rfl,fun x C=> ?_⟩⟩;obtain⟨j,f,rfl⟩:=List.mem_iff_getElem.1 C;have:=g j f;rw[au,aC f]at this;exact this
 ·rintro m i _ h' n' s ⟨⟨rfl,rfl⟩,g⟩ next;obtain⟨b,B,cap,o,G,D,t,F,_,_,_,k⟩:=l.some jO;cases D;have w:((i:Nat):Int)<((xs.length:Nat):Int):=jO;have y:=k i s;rw[sK];by_cases q:z=xs.getD i 0
  ·have p:(z==xs.getD i 0)=true:=by rw[<-q];simp
   refine jA (aI @w (aI @t (aI @y @p))) ?_
   (try unfold wU);(try dsimp only)
   refine jB ?_;exact⟨_,rfl,.inr ⟨i,s,rfl,q.symm,g⟩⟩
  ·have p:(z==xs.getD i 0)=false:=beq_eq_false_iff_ne.2 q;refine jA (aI @w (aI @t (aI @y @p))) ?_;refine next () _ _ ⟨⟨rfl,rfl⟩,fun j f=> ?_⟩;by_cases e:j=i
   ·subst e;exact fun r=>q r.symm
   ·exact g j jO
set_option maxRecDepth 8000 in
theorem acy(v:Value)(xs:List Int)(m:Row h n 3 .i64 v xs)(A:xs.length<=258)(z:dk 1 20 xs=true):
 aa (fun _=>False) n (ah ad gt lf (d+6) 171 #[v]) h n fun c h' n'=>c= .bool (decide (gD xs=1048576)):=by
 have a:=iu.1 z;rw[aF (fun _=>Qf) rfl];refine aa.aD ?_;unfold Gm;refine aJ aE (acx lf d n h bB v xs m A (iu.2 fun x s=>by have:=a x s;omega)) (ag _) (fun _ _ h=>h.elim) fun G o f j k u=> ?_;subst u;have l:((0:Int)==0)=true:=rfl;by_cases q:gD xs=1048576
 ·have e:(gD xs==1048576)=true:=by rw[q];exact beq_self_eq_true _
  rw[decide_eq_true q]
  have p:aa (fun _=>False) f (ah ad gt lf (d+5) 204 #[v,jI 0]) o f fun c h' n'=>c= .bool false:=by
   rw[aF (fun _=>Q3) rfl];refine aa.aD ?_;unfold GI;refine aJ aE (Tg lf (d+3) f o bB v xs 0 (m.ar j fun b C=>k b C id) jO) (ag _) (fun _ _ h=>h.elim) fun F N J y E g=> ?_;obtain⟨⟨r,rfl,t⟩,_,_⟩:=g;rcases t with ⟨rfl,_⟩|⟨i,B,_,K,_⟩
   ·try simp(disch:=first|omega|assumption) only[Nat.reduceAdd,Nat.reduceLT,RZ,cw,cz,cA,cB,cC,cD,cE,cF,cG,cH]
    all_goals (first|trivial|rfl|exact⟨rfl,rfl,rfl⟩|exact⟨rfl,rfl⟩)
   ·have:=a (xs.getD i 0) (by rw[au,aC B];exact cu _);omega
  refine jA (aI @dq (aI @ext1 (aI @l @e))) ?_;refine vm p jO fun L I w D=> ?_;exact jC @iD
 ·have e:(gD xs==1048576)=false:=beq_eq_false_iff_ne.2 q;rw[decide_eq_false q];exact jC (aI @dq (aI @ext1 (aI @l @e)))
end
end Go.Proofs.YtcehhgppfahbkaaGreatDoor
namespace Go.Proofs.YtcehhgppfahbkaaGreatDoor
open Go.RowKit Ev Sp Cn
theorem xC(l:List Nat):nV l=aR .i64 (iN l):=by unfold nV aR iN;rw[mq];rfl
section
variable {lf d n:Nat} {h:H} {L:Nat->Nat} {l:List UInt8} {x:SS} {m:Sm}
theorem Cb(y:cP h n L l x m):aa (fun _=>False) n (ah ad gt lf (d+1) 122 #[jP m.p 0]) h n fun a h' n'=>a= .bool x.done∧h'=h∧n'=n:=by have g:=y.get;have b:=y.lp;unfold cV at g;rw[aF (fun _=>O6) rfl];refine aa.aD ?_;unfold FY;try simp(disch:=first|omega|assumption) only[Nat.reduceAdd,Nat.reduceLT,RZ,g]
theorem acz(y:cP h n L l x m)(hd:x.done=true)(c:x.ord.length=l.length)(s:1<=l.length)(q:l.length<=900000):aa (fun _=>False) n (ah ad gt lf (d+2) 123 #[jP m.p 0]) h n fun b h' n'=>Own h' n n' 3 b (nV x.ord):=by
 have g:=y.get;have p:=y.lp;have a:=Cb (lf:=lf) (d:=d) y;rw[hd]at a;unfold cV at g;rw[aF (fun _=>O7) rfl];refine aa.aD ?_;unfold FZ;refine bU a (ag n) (fun _ _ h=>h.elim) ?_
 have i:Row h n 3 .i64 (.slice (some ⟨m.o,0,none⟩) l.length l.length) (iN x.ord):=by
  refine .inr ⟨m.o,0,l.length,true,nV x.ord,by rw[bC,c],y.o,y.lo, ?_, ?_,by rw[bC];omega⟩
  ·rw[bC,vj];omega
  ·rw[dj,xC,bC];exact fZ (by rw[cO,bC];exact ag _)
 try simp(disch:=first|omega|assumption) only[Nat.reduceAdd,Nat.reduceLT,RZ,g,fY]
 refine aJ aE (vl lf d n h _ (iN x.ord) i (by rw[bC];omega) (by rw[bC];omega)) (ag _) (fun _ _ h=>h.elim) fun k r o f j e=> ?_;try simp(disch:=first|omega|assumption) only[Nat.reduceAdd,Nat.reduceLT,RZ]
 rw[xC];exact e.1 (by rw[bC];omega)
theorem Ht(n:Nat):bI n (jI 0)=nV (bI n 0):=by unfold nV;rw[Dg];rfl
def kq(n i:Nat):List Nat:=(aV n).map fun k=>if k<i then k else 0
theorem acA(n i:Nat):(kq n i).length=n:=by unfold kq;simp
theorem acB(n:Nat):kq n 0=bI n 0:=by unfold kq;refine List.eq_replicate_iff.2 ⟨jS,fun b a=> ?_⟩;obtain⟨k,_,rfl⟩:=List.mem_map.1 a;rfl
theorem acC(n:Nat):kq n n=aV n:=by
 unfold kq
 conv=>rhs;rw[<-List.map_id (aV n)]
 refine ni fun k a=> ?_;rw[if_pos (List.mem_range.1 a)];rfl
theorem acD{n i:Nat}(h:i<n):(kq n i).set i i=kq n (i+1):=by
 refine mr (by simp[kq]) fun k a f=> ?_;have e:∀j (d:k<(kq n j).length),(kq n j)[k]=if k<j then k else 0:=fun j d=>by simp[kq]
 rw[Da,e (i+1),e i (by rw[oC]at a;exact a)];by_cases c:i=k
 ·rw[if_pos c,if_pos jO];exact c
 ·rw[if_neg c];by_cases b:k<i
  ·rw[if_pos b,if_pos jO]
  ·rw[if_neg b,if_neg jO]
theorem acE(v:1<=l.length)(I:l.length<=900000)(C:l.length<lf)(L:Nat->Nat):aa (fun _=>False) n (ah ad gt lf (d+1) 120 #[.string ⟨l.toArray⟩]) h n fun x h' n'=>∃L' m,x= .tuple #[jP m.p 0,jI 0]∧(∀c,c<n->L' c=L c)∧(∀c,n<=c->21<=L' c∧L' c<=24)∧n<=m.p∧cP h' n' L' l (eh (bA l) 0) m:=by
 rw[aF (fun _=>O2) rfl];refine aa.aD ?_;unfold AO;have G:¬(900000:Int)<((l.length:Nat):Int):=jO;try simp(disch:=first|omega|assumption) only[Nat.reduceAdd,Nat.reduceLT,RZ,G]
 refine Ev.run_make trivial (e:=3) (z:=jI 0) l.length l.length _ (ag _) jO ?_;refine Ev.run_make trivial (e:=3) (z:=jI 0) l.length l.length _ (ag _) jO ?_;refine Ev.run_make trivial (e:=3) (z:=jI 0) l.length l.length _ (ag _) jO ?_;try simp(disch:=first|omega|assumption) only[Nat.reduceAdd,Nat.reduceLT,RZ]
 refine lX trivial _ _ ?_;try simp(disch:=first|omega|assumption) only[Nat.reduceAdd,Nat.reduceLT,RZ]
 obtain⟨B,p⟩:∃B:AB,B=⟨205,true,[.string ⟨l.toArray⟩,.slice (some ⟨n,0,none⟩) l.length l.length,.slice (some ⟨n+1,0,none⟩) l.length l.length,.slice (some ⟨n+1+1,0,none⟩) l.length l.length,ii 0,nS,ii 0,ii 0,ii 0,ii 0,ii 0,ii 0,ii 0,ii 0,ii 0,.bool (decide (((l.length:Nat):Int)<2))]⟩:=⟨_,rfl⟩;rw[<-p]
 refine dP l.length (fun q i (_:Unit)=>sx lf (ah ad gt lf d) q (AN lf (ah ad gt lf d)) (.string ⟨l.toArray⟩) nP (ii 0) (jI (l.length:Int)) (jP (n+1+1+1) 0) (.bool false) (jI (l.length:Int)) (jI (i:Int)))
  (fun i _ h' n'=>n'=n+1+1+1+1∧h'.get n=some ⟨3,true,nV (kq l.length i)⟩∧h'.get (n+1)=some ⟨3,true,nV (bI l.length 0)⟩∧h'.get (n+1+1)=some ⟨3,true,nV (bI l.length 0)⟩∧h'.get (n+1+1+1)=some B) ?_ ?_ lf 0 () _ _ (cL _) jO ⟨rfl, ?_, ?_, ?_,get_eq _ _ _⟩
 ·rintro q _ h' n' ⟨rfl,q1,q2,g,a⟩;rw[acC]at q1;rw[p]at a;rw[sx];try simp(disch:=first|omega|assumption) only[Nat.reduceAdd,Nat.reduceLT,RZ,cb]
  unfold AN;try simp(disch:=first|omega|assumption) only[Nat.reduceAdd,Nat.reduceLT,RZ]
  refine Ma (vs:=pV (0,0,l.length)) rfl _ ?_;have f:=(ak h' (some ⟨203,true,pV (0,0,l.length)⟩) (show n+1+1+1≠n+1+1+1+1 by omega)).trans a;try simp(disch:=first|omega|assumption) only[Nat.reduceAdd,Nat.reduceLT,RZ,f,ag,or_false,true_and,true_or]
  have F:eh (bA l) 0=et l.length:=by show et (bA l).size=_;rw[eu]
  have E:decide (((l.length:Nat):Int)<2)=decide (l.length<2):=by
   by_cases c:l.length<2
   ·rw[decide_eq_true c,decide_eq_true jO]
   ·rw[decide_eq_false c,decide_eq_false jO]
  rw[F,E];have b:∀{c:Nat},c≠n+1+1+1->c≠n+1+1+1+1->∀A B:AB,((h'.set (n+1+1+1+1) (some A)).set (n+1+1+1) (some B)).get c=h'.get c:=fun v D A B=>by rw[ak _ _ v,ak _ _ D]
  refine⟨jO,fun c=>if c<n then L c else if c=n then 22 else if c=n+1 then 23 else if c=n+1+1 then 23 else if c=n+1+1+1 then 21 else 24,⟨n+1+1+1,n,n+1,n+1+1,n+1+1+1+1,1⟩,rfl,fun c u=>if_pos u,fun c u=> ?_,by show n<=n+1+1+1;omega, ?_⟩
  ·dsimp only;rw[if_neg jO]
   repeat' split
   all_goals exact⟨jD,jD⟩
  ·have lt:¬n+1<n:=jO;have o:¬n+1+1<n:=jO;have k:¬n+1+1+1<n:=jO;have j:¬n+1+1+1+1<n:=jO;refine⟨get_eq _ _ _,by show n+1+1+1<_;omega,by show n<_;omega,by show n+1<_;omega,by show n+1+1<_;omega,(b (c:=n) jO jO _ _).trans q1,(b (c:=n+1) jO jO _ _).trans q2,(b (c:=n+1+1) jO jO _ _).trans g,by show n+1≠n+1+1;omega, ?_,fun _=> .inr ⟨rfl,rfl⟩, ?_, ?_, ?_, ?_, ?_⟩
   ·refine⟨⟨pV (0,0,l.length),(ak _ _ (by show n+1+1+1+1≠_;omega)).trans (get_eq _ _ _),ag 3,rfl⟩,by show n+1+1+1+1<_;omega,fun t r=> ?_,ag 1⟩;rw[show gC (et l.length).aU=[pV (0,0,l.length)]from rfl]at r;rw[List.mem_singleton.1 r];rfl
   ·dsimp only;rw[if_neg k,if_neg jO,if_neg jO,if_neg jO,if_pos rfl]
   ·dsimp only;rw[if_neg jO,if_pos rfl]
   ·dsimp only;rw[if_neg lt,if_neg jO,if_pos rfl]
   ·dsimp only;rw[if_neg o,if_neg jO,if_neg jO,if_pos rfl]
   ·dsimp only;rw[if_neg j,if_neg jO,if_neg jO,if_neg jO,if_neg jO]
 ·rintro q i _ h' n' s ⟨rfl,q1,q2,g,a⟩ next;have f:=a;rw[p]at f;have i1:((i:Nat):Int)<((l.length:Nat):Int):=jO;have w:((i:Nat):Int)+1=((i+1:Nat):Int):=rfl;have y:i<(nV (kq l.length i)).length:=by rw[vj,acA];exact s
  have b:n+1+1+1≠n:=jO;rw[sx];try simp(disch:=first|omega|assumption) only[Nat.reduceAdd,Nat.reduceLT,RZ,f,q1,i1,y,b,ke,ag,or_false,true_and,true_or]
  rw[w];refine next () _ _ ⟨rfl, ?_, ?_, ?_, ?_⟩
  ·rw[get_eq,acD s]
  ·rw[ak _ _ jO];exact q2
  ·rw[ak _ _ jO];exact g
  ·rw[ak _ _ jO];exact a
 ·rw[ak _ _ jO,ak _ _ jO,ak _ _ jO,get_eq,acB,Ht]
 ·rw[ak _ _ jO,ak _ _ jO,get_eq,Ht]
 ·rw[ak _ _ jO,get_eq,Ht]
end
end Go.Proofs.YtcehhgppfahbkaaGreatDoor
namespace Go.Proofs.YtcehhgppfahbkaaGreatDoor
open Go.RowKit Ev Cn
def tz(f:Nat->Nat)(N:Nat):List Value:=(aV N).map fun j=>jI (f j:Int)
theorem xD(f:Nat->Nat)(N:Nat):(tz f N).length=N:=by unfold tz;simp
def ld(f:Nat->Nat)(j v:Nat):Nat->Nat:=fun i=>if i=j then v else f i
theorem Th{f:Nat->Nat}{N j v:Nat}:(tz f N).set j (jI (v:Int))=tz (ld f j v) N:=by
 apply mr
 ·simp[xD]
 ·intro i b a;rw[Da];simp only[tz,vS,IX,ld];by_cases e:j=i
  ·subst e;simp
  ·rw[if_neg e,if_neg (fun q=>e q.symm)]
def dW(lv cv ov:Value)(f g:Nat->Nat):List Value:=lv::cv::ov::(tz f 21++tz g 22)
theorem acF{lv cv ov:Value}{f g:Nat->Nat}{j v:Nat}(h:j<21):(dW lv cv ov f g).set (3+j) (jI (v:Int))=dW lv cv ov (ld f j v) g:=by unfold dW;rw[show 3+j=j+1+1+1 by omega,yq,yq,yq,ahI _ _ (by rw[xD];exact h),Th]
theorem Ti{lv cv ov:Value}{f g:Nat->Nat}{j v:Nat}:(dW lv cv ov f g).set (24+j) (jI (v:Int))=dW lv cv ov f (ld g j v):=by unfold dW;rw[show 24+j=21+j+1+1+1 by omega,yq,yq,yq,C8 _ _ (by rw[xD];omega),xD,show 21+j-21=j by omega,Th]
theorem Hv(lv cv ov:Value)(f g:Nat->Nat):(dW lv cv ov f g).length=46:=by unfold dW;simp[xD]
def cU(f:Nat->Nat)(n:Nat):Nat->Nat:=fun j=>if j<=n then f j else 0
theorem Hw(f:Nat->Nat)(n:Nat):ld (cU f n) (n+1) (f (n+1))=cU f (n+1):=by
 funext j;unfold ld cU;by_cases e:j=n+1
 ·subst e;simp
 ·rw[if_neg e];by_cases a:j<=n
  ·rw[if_pos a,if_pos jO]
  ·rw[if_neg a,if_neg jO]
theorem Tj{f:Nat->Nat}(h:f 0=0):cU f 0=fun _=>0:=by
 funext j;unfold cU;by_cases e:j<=0
 ·have:j=0:=jO;subst this;rw[if_pos e,h]
 ·rw[if_neg e]
def gE(ln:List Nat)(n s:Nat):List Int:=(aV ln.length).map fun t=>if ln.getD t 0<n∨(ln.getD t 0=n∧t<s)then(fB ln t:Int)else 0
theorem Cc(ln:List Nat)(n s:Nat):(gE ln n s).length=ln.length:=by unfold gE;simp
theorem acG(ln:List Nat)(n:Nat):gE ln n ln.length=gE ln (n+1) 0:=by
 unfold gE;apply ni;intro t a;have:=List.mem_range.1 a;by_cases e:ln.getD t 0<n∨(ln.getD t 0=n∧t<ln.length)
 ·rw[if_pos e,if_pos jO]
 ·rw[if_neg e,if_neg jO]
theorem acH{ln:List Nat}{n s:Nat}(h:ln.getD s 0≠n):gE ln n (s+1)=gE ln n s:=by
 unfold gE;apply ni;intro t b;by_cases e:ln.getD t 0<n∨(ln.getD t 0=n∧t<s)
 ·rw[if_pos e,if_pos jO]
 ·rw[if_neg e,if_neg];rintro(q|⟨q1,q2⟩)
  ·exact e (.inl q)
  ·by_cases a:t=s
   ·subst a;exact h q1
   ·exact e (.inr ⟨q1,jO⟩)
theorem acI{ln:List Nat}{n s:Nat}(a:s<ln.length)(h:ln.getD s 0=n):(gE ln n s).set s (fB ln s:Int)=gE ln n (s+1):=by
 apply mr
 ·simp[Cc]
 ·intro t c b;rw[Da];simp only[gE,vS,IX];by_cases e:s=t
  ·subst e;rw[if_pos rfl,if_pos (.inr ⟨h,dL s⟩)]
  ·rw[if_neg e];by_cases q:ln.getD t 0<n∨(ln.getD t 0=n∧t<s)
   ·rw[if_pos q,if_pos jO]
   ·rw[if_neg q,if_neg jO]
theorem acJ{ln:List Nat}(w:Wh ln):gE ln 1 0=bI ln.length 0:=by
 apply mr
 ·simp[Cc]
 ·intro t a b;rw[Cc]at a;have:=w.at a;simp only[gE,vS,IX,List.getElem_replicate];rw[if_neg jO]
def mT(ln:List Nat):List Int:=(aV ln.length).map fun t=>(fB ln t:Int)
theorem acK{ln:List Nat}(w:Wh ln):gE ln 21 0=mT ln:=by unfold gE mT;apply ni;intro t a;have:=w.at (List.mem_range.1 a);rw[if_pos jO]
theorem Tl:∀(ln:List Nat) (m:Nat),bX ln m<=ln.length
 |[],m=>by
  have:∀m,bX [] m=0:=by
   intro m
   induction m with
   |zero=>rfl
   |succ m b=>show bX [] m+cn [] m=0;rw[b];simp[cn]
  rw[this];exact ag 0
 |x::ln,m=>by
  have a:∀m,bX (x::ln) m=bX ln m+(if x<m then 1 else 0):=by
   intro m
   induction m with
   |zero=>rfl
   |succ m b=>
    show bX (x::ln) m+cn (x::ln) m=bX ln m+cn ln m+_;have e:cn (x::ln) m=cn ln m+(if x=m then 1 else 0):=by unfold cn;rw[VN];simp
    rw[b,e];by_cases h:x=m
    ·subst h;rw[if_neg (ub x),if_pos rfl,if_pos (dL x)];omega
    ·rw[if_neg h];by_cases c:x<m
     ·rw[if_pos c,if_pos jO];omega
     ·rw[if_neg c,if_neg jO];omega
  have:=Tl ln m;rw[a,bL];split<;>omega
theorem acL(ln:List Nat):(iw ln 21).length<=ln.length:=by rw[pH];exact Tl ln 21
structure nX (h:H) (lo hi c:Nat) (ln:List Nat):Prop where
 ge:lo<=c
 lt:c<hi
 ex:∃lv cv ov,h.get c=some ⟨223,true,dW lv cv ov (cU (dr ln) 20) (cU (bX ln) 21)⟩∧Row h hi 3 .i64 lv (iN ln)∧(∀b,aq lv b->lo<=b)∧Row h hi 40 .u32 cv (mT ln)∧(∀b,aq cv b->lo<=b)∧Row h hi 3 .i64 ov (iN (iw ln 21))∧(∀b,aq ov b->lo<=b)
theorem nX.ar{h h':H}{lo e c:Nat}{ln:List Nat}(x:nX h lo e c ln)(d:∀b,lo<=b->b<e->h'.get b=h.get b):nX h' lo e c ln:=by obtain⟨i,f,q,cv,p,g,o,n,m,l,k,j⟩:=x;exact⟨i,f,q,cv,p,(d c i f).trans g,o.fz (ag _) fun b a=>d b (n b a) (o.lt a),n,m.fz (ag _) fun b a=>d b (l b a) (m.lt a),l,k.fz (ag _) fun b a=>d b (j b a) (k.lt a),j⟩
theorem tA(a b:List Nat):iN (a++b)=iN a++iN b:=by unfold iN;rw[gZ]
theorem tB(k:IntKind)(a b:List Int):aR k (a++b)=aR k a++aR k b:=by unfold aR;rw[gZ]
theorem Tn(k:IntKind)(l:List Int)(i:Nat)(x:Int):(aR k l).set i (.int k x)=aR k (l.set i x):=by unfold aR;rw[List.map_set]
theorem acM(e:Option Addr)(a c:Nat)(d:Option Addr)(n2 b:Nat):(if 0<Fu.length then ee (Fu.set 0 (.slice e a c)) [(1,1,.slice d n2 b)]else none)=some (dW (.slice e a c) (.slice d n2 b) (.slice none 0 0) (fun _=>0) (fun _=>0)):=jK
section
variable (lf d n:Nat) (h:H) (bB:3000000<=lf)
include bB
set_option maxHeartbeats 2000000 in
theorem acN(v:Value)(ln:List Nat)(hR:Row h n 3 .i64 v (iN ln))(h3:3<=ln.length)(hl:ln.length<=258)(w:Wh ln)(hs:gD (iN ln)=1048576):
 aa (fun _=>False) n (ah ad gt lf (d+7) 138 #[v]) h n fun v' h' n'=>∃c,v'= .tuple #[jP c 0,jI 0]∧nX h' n n' c ln:=by
 have U:=bC ln;rw[aF (fun _=>PJ) rfl];refine aa.aD ?_;unfold A5;have v3:=hR;obtain⟨a,c,rfl⟩:=hR.len;have e1:¬((((iN ln).length:Nat):Int)<3):=jO;have e2:¬((258:Int)<(((iN ln).length:Nat):Int)):=jO
 have hm:dk 1 20 (iN ln)=true:=iu.2 fun x hx=>by unfold iN at hx;obtain⟨y,hy,rfl⟩:=List.mem_map.1 hx;have:=w.lo y hy;omega
 refine jA (aI @e1 @e2) ?_;refine vm (b:=true) ((acy lf d n h bB _ _ v3 jO hm).mono fun v' _ _ _ e=>by rw[e,decide_eq_true hs]) (ag _) fun h1 n1 u4 x4=> ?_;have v1:=v3.ar u4 x4;refine jA @fY ?_;refine E9 aE (vl lf (d+5) n1 h1 _ _ v1 jO jO) u4 fun v2 h2 k T1 w7 x3 w2 t1=> ?_;obtain⟨_,v0,u7⟩:=w2;have K:=v0;obtain⟨t,r,rfl⟩:=v0.len;rw[U]at K u7⊢;refine jB ?_;refine YZ ln.length _ jO ?_;have t2:RB ⟨k,k+1,[]⟩ n1:=⟨fun e he=>(nomatch he),fun e he=>(nomatch he),w7⟩;dsimp only;rw[acM,rZ];refine LB trivial _ _ ?_;try simp(disch:=first|omega|assumption) only[Nat.reduceAdd,Nat.reduceLT,RZ,t1.gf t2,iD,C6,pf]
 obtain⟨hb,Q⟩:∃hb,(h2.set k (some ⟨40,true,bI ln.length (.int .u32 0)⟩)).set (k+1) (some ⟨223,true,dW (.slice t ln.length r) (.slice (some ⟨k,0,none⟩) ln.length ln.length) (.slice none 0 0) (fun _=>0) (fun _=>0)⟩)=hb:=⟨_,rfl⟩
 have gc:hb.get (k+1)=some ⟨223,true,dW (.slice t ln.length r) (.slice (some ⟨k,0,none⟩) ln.length ln.length) (.slice none 0 0) (cU (dr ln) 0) (cU (bX ln) 0)⟩:=by rw[Tj (f:=dr ln) rfl,Tj (f:=bX ln) rfl,<-Q,get_eq]
 have gv:hb.get k=some ⟨40,true,aR .u32 (gE ln 1 0)⟩:=by rw[<-Q,ak _ _ jO,get_eq,acJ w];unfold aR;rw[Dg]
 have kb:∀b,b<k->hb.get b=h2.get b:=fun b l=>by rw[<-Q,ak _ _ jO,ak _ _ jO]
 rw[Q]
 have u0:iw ln 1=[]:=by apply List.eq_nil_of_length_eq_zero;rw[pH,acf w]
 have To:iP ln 0 ln.length=0:=by unfold iP;rw[B7,S0 w];rfl
 have x1:∀{h':H} {n':Nat},k<=n'->(∀b,b<k->h'.get b=h2.get b)->Row h' n' 3 .i64 (.slice a ln.length c) (iN ln):=fun{h'} {n'} u5 G=>by have:=v1.ar (show n1<=n' by omega) fun b l=>(G b jO).trans (x3 b l);rw[U]at this;exact this
 refine dP 20 (fun fu i (q:Nat)=>qO lf (ah ad gt lf (d+6)) fu (wT lf (ah ad gt lf (d+6))) (.slice a ln.length c) (.pointer none) (jI 0) (jP (k+1) 0) (jI (q:Int)) (jI ((i+1:Nat):Int)) (.bool false) (.bool false))
  (fun i q h' n'=>k+2<=n'∧(∀b,b<k->h'.get b=h2.get b)∧q=iP ln i ln.length∧h'.get k=some ⟨40,true,aR .u32 (gE ln (i+1) 0)⟩∧∃ov,h'.get (k+1)=some ⟨223,true,dW (.slice t ln.length r) (.slice (some ⟨k,0,none⟩) ln.length ln.length) ov (cU (dr ln) i) (cU (bX ln) i)⟩∧Own h' (k+2) n' 3 ov (aR .i64 (iN (iw ln (i+1))))) ?_ ?_ lf 0 0 _ _ (cL _) jO ⟨ag _,kb,To.symm,gv,_,gc,by rw[u0];exact Own.nil _ _ _ _⟩
 ·rintro fu q h' n' ⟨u5,G,rfl,Y,ov,I,O⟩;have e3:¬(((20+1:Nat):Int)<=20):=jO;have c2:(dW (.slice t ln.length r) (.slice (some ⟨k,0,none⟩) ln.length ln.length) ov (cU (dr ln) 20) (cU (bX ln) 20))[2]? =some ov:=rfl;have L:=O.row;obtain⟨ao,Z,u⟩:=L.len;have C:(iN (iw ln 21)).length=bX ln 21:=by rw[bC,pH]
  rw[C]at u;have cg:=Ti (lv:= .slice t ln.length r) (cv:= .slice (some ⟨k,0,none⟩) ln.length ln.length) (ov:=ov) (f:=cU (dr ln) 20) (g:=cU (bX ln) 20) (j:=21) (v:=bX ln 21);rw[Hw]at cg;have w0:k+1<n':=jO;have u1:24+21<(dW (.slice t ln.length r) (.slice (some ⟨k,0,none⟩) ln.length ln.length) ov (cU (dr ln) 20) (cU (bX ln) 20)).length:=by rw[Hv];omega
  rw[qO];refine jA @e3 ?_
  (try unfold wT);(try dsimp only)
  rw[u]at I c2 cg u1 L;have x6:((21:Int)).toNat=21:=rfl;try simp(disch:=first|omega|assumption) only[Nat.reduceAdd,Nat.reduceLT,RZ,cw,cz,cA,cB,cC,cD,cE,cF,cG,cH,I,c2,x6]
  refine⟨by simpa using u1,.inl jO, ?_⟩
  have x5:∀h9,h9.get (k+1)=some ⟨223,true,dW (.slice t ln.length r) (.slice (some ⟨k,0,none⟩) ln.length ln.length) (.slice ao (bX ln 21) Z) (cU (dr ln) 20) (cU (bX ln) 21)⟩->(∀b,b≠k+1->h9.get b=h'.get b)->nX h9 n n' (k+1) ln:=by
   intro h9 w9 W
   have oe:∀b,aq (.slice ao (bX ln 21) Z) b->b≠k+1:=fun b l e=>by rw[u]at O;have:=(O.lt l).1;omega
   refine⟨jO,jO,_,_,_,w9, ?_,fun b l=>by have:=u7 b l;omega, ?_,fun b l=>by rw[l.inj];omega,L.fz (ag _) fun b l=>W b (oe b l),fun b l=>by rw[u]at O;have:=(O.lt l).1;omega⟩
   ·exact K.fz jO fun b l=>by have:=K.lt l;rw[W b jO,G b this]
   ·have e:h9.get k=some ⟨40,true,aR .u32 (mT ln)⟩:=by rw[W k jO,Y,acK w]
    have y0:(mT ln).length=ln.length:=by unfold mT;simp
    exact .inr ⟨k,0,ln.length,true,_,by rw[y0],e,jO,by rw[cO];omega,by rw[dj,fZ (by rw[cO];omega)],jO⟩
  refine⟨k+1,rfl,x5 _ (by rw[get_eq];congr 2) fun b l=>ak _ _ l⟩
 ·rintro fu i q h' n' hi ⟨u5,G,rfl,Y,ov,I,O⟩ next;have e3:(((i+1:Nat):Int)<=20):=jO;have c2:∀f g,(dW (.slice t ln.length r) (.slice (some ⟨k,0,none⟩) ln.length ln.length) ov f g)[2]? =some ov:=fun _ _=>rfl;have y2:=w.cap (n:=i+1) jO;have y3:2^(i+1)<=2^20:=kD jD jO;have fe:dr ln (i+1)=2*iP ln i ln.length:=by unfold iP;rw[B7];rfl
  have w1:IntKind.i64.wrap (((iP ln i ln.length:Nat):Int)*2)=((dr ln (i+1):Nat):Int):=by rw[aO jO jO];omega
  have L:=O.row;obtain⟨ao,Z,u⟩:=L.len;have C:(iN (iw ln (i+1))).length=bX ln (i+1):=by rw[bC,pH]
  rw[C]at u;have sf:=acF (lv:= .slice t ln.length r) (cv:= .slice (some ⟨k,0,none⟩) ln.length ln.length) (ov:=ov) (f:=cU (dr ln) i) (g:=cU (bX ln) i) (j:=i+1) (v:=dr ln (i+1)) jO;rw[Hw]at sf;have sg:=Ti (lv:= .slice t ln.length r) (cv:= .slice (some ⟨k,0,none⟩) ln.length ln.length) (ov:=ov) (f:=cU (dr ln) (i+1)) (g:=cU (bX ln) i) (j:=i+1) (v:=bX ln (i+1));rw[Hw]at sg;have w0:k+1<n':=jO;have i1:((i+1:Nat):Int)<21:=jO;have i2:((i+1:Nat):Int)<22:=jO;have i0:(0:Int)<=((i+1:Nat):Int):=jO;have it:((i+1:Nat):Int).toNat=i+1:=rfl;have lc:∀f g,(dW (.slice t ln.length r) (.slice (some ⟨k,0,none⟩) ln.length ln.length) ov f g).length=46:=fun f g=>Hv _ _ _ _ _;rw[qO];rw[u]at I c2 sf sg lc;refine jA (aI @e3 (aI @w1 (aI @i0 (aI @i1 (aI @i2 (aI @it (aI @I (aI @sf (aI @lc (aI @true_or @or_true)))))))))) ?_;refine⟨jO,.inl jO, ?_⟩;refine jA (aI @get_eq (aI @c2 (aI @sg @lc))) ?_;refine⟨jO,.inl jO, ?_⟩;obtain⟨hA,X⟩:∃hA,((h'.set (k+1) (some ⟨223,true,dW (.slice t ln.length r) (.slice (some ⟨k,0,none⟩) ln.length ln.length) (.slice ao (bX ln (i+1)) Z) (cU (dr ln) (i+1)) (cU (bX ln) i)⟩)).set (k+1) (some ⟨223,true,dW (.slice t ln.length r) (.slice (some ⟨k,0,none⟩) ln.length ln.length) (.slice ao (bX ln (i+1)) Z) (cU (dr ln) (i+1)) (cU (bX ln) (i+1))⟩))=hA:=⟨_,rfl⟩;have gA:hA.get (k+1)=some ⟨223,true,dW (.slice t ln.length r) (.slice (some ⟨k,0,none⟩) ln.length ln.length) (.slice ao (bX ln (i+1)) Z) (cU (dr ln) (i+1)) (cU (bX ln) (i+1))⟩:=by rw[<-X,get_eq]
  have kA:∀b,b≠k+1->hA.get b=h'.get b:=fun b l=>by rw[<-X,ak _ _ l,ak _ _ l]
  rw[X];have v9:iP ln (i+1) 0=dr ln (i+1):=by unfold iP;simp[gW,cn]
  rw[u]at O
  refine dP ln.length (fun f2 s (q:Nat)=>qN lf (ah ad gt lf (d+6)) f2 (PG lf (ah ad gt lf (d+6)) fu (wT lf (ah ad gt lf (d+6)))) (.slice a ln.length c) (.pointer none) (jI 0) (jP (k+1) 0) (jI (q:Int)) (jI ((i+1:Nat):Int)) (.bool false) (.bool false) (.bool true) (.slice a ln.length c) (jI (ln.length:Int)) (jI (s:Int)))
   (fun s q P B=>n'<=B∧(∀b,b<k->P.get b=h2.get b)∧q=iP ln (i+1) s∧P.get k=some ⟨40,true,aR .u32 (gE ln (i+1) s)⟩∧∃ov,P.get (k+1)=some ⟨223,true,dW (.slice t ln.length r) (.slice (some ⟨k,0,none⟩) ln.length ln.length) ov (cU (dr ln) (i+1)) (cU (bX ln) (i+1))⟩∧Own P (k+2) B 3 ov (aR .i64 (iN (iw ln (i+1)++fq ln (i+1) s)))) ?_ ?_ lf 0 (dr ln (i+1)) _ _ (cL _) jO ⟨ag _,fun b l=>by rw[kA b jO];exact G b l,v9.symm,by rw[kA k jO];exact Y,_,gA, ?_⟩
  rotate_left 2
  ·have:fq ln (i+1) 0=[]:=rfl;rw[this,bV];exact O.ar (ag _) fun b l=>kA b fun e=>by have:=(O.lt l).1;omega
  ·rintro f2 q P B ⟨u3,F,rfl,A,p,z,N⟩;have w3:IntKind.i64.wrap (((i+1:Nat):Int)+1)=((i+1+1:Nat):Int):=by rw[aO jO jO];rfl
   have v6:((i+1:Nat):Int)+1=((i+1+1:Nat):Int):=rfl;rw[qN];refine jA @cb ?_
   (try unfold PG);(try unfold A4);(try dsimp only)
   refine jA (aI @w3 @v6) ?_;refine next (iP ln (i+1) ln.length) P B ⟨jO,F,rfl, ?_,p,z,N⟩;rw[<-acG];exact A
  ·rintro f2 s q P B E ⟨u3,F,rfl,A,p,z,N⟩ D;obtain⟨b,v8,cap,o,ks,hv,u6,y6,_,_,_,x0⟩:=(x1 (show k<=B by omega) F).some jO;have u2:fN a ln.length c= .slice (some ⟨b,v8,none⟩) (iN ln).length cap:=hv;rw[U]at u2;cases u2;have e5:((s:Nat):Int)<((ln.length:Nat):Int):=jO;have c5:=x0 s jO;rw[ki]at c5;have y5:k+1<B:=jO;have y1:k<B:=jO;rw[qN];by_cases m:ln.getD s 0=i+1
   ·have T:(((ln.getD s 0:Nat):Int)==((i+1:Nat):Int))=true:=by rw[m];simp
    have J:iP ln (i+1) s=fB ln s:=ace m;have u9:=w.SQ E;rw[m]at u9;have w4:IntKind.u32.wrap ((fB ln s:Nat):Int)=((fB ln s:Nat):Int):=kg jO;have x9:(dW (.slice t ln.length r) (.slice (some ⟨k,0,none⟩) ln.length ln.length) p (cU (dr ln) (i+1)) (cU (bX ln) (i+1)))[1]? =some (.slice (some ⟨k,0,none⟩) ln.length ln.length):=rfl;have x8:(dW (.slice t ln.length r) (.slice (some ⟨k,0,none⟩) ln.length ln.length) p (cU (dr ln) (i+1)) (cU (bX ln) (i+1)))[2]? =some p:=rfl;have x7:∀x,(dW (.slice t ln.length r) (.slice (some ⟨k,0,none⟩) ln.length ln.length) p (cU (dr ln) (i+1)) (cU (bX ln) (i+1))).set 2 x=dW (.slice t ln.length r) (.slice (some ⟨k,0,none⟩) ln.length ln.length) x (cU (dr ln) (i+1)) (cU (bX ln) (i+1)):=fun _=>rfl;have w5:IntKind.i64.wrap (((fB ln s:Nat):Int)+1)=((fB ln s+1:Nat):Int):=by rw[aO jO jO];rfl
    have v5:((fB ln s:Nat):Int)+1=((fB ln s+1:Nat):Int):=rfl;have w6:((s:Nat):Int)+1=((s+1:Nat):Int):=rfl;have ch:=acI E m;rw[J];refine jA (aI @e5 (aI @u6 (aI @c5 (aI @T (aI @z (aI @x9 (aI @w4 (aI @A (aI @Tn (aI @ch (aI @cO @Cc))))))))))) ?_;refine⟨E,.inl jO, ?_⟩;have v4:(P.set k (some ⟨40,true,aR .u32 (gE ln (i+1) (s+1))⟩)).get (k+1)=some ⟨223,true,dW (.slice t ln.length r) (.slice (some ⟨k,0,none⟩) ln.length ln.length) p (cU (dr ln) (i+1)) (cU (bX ln) (i+1))⟩:=by rw[ak _ _ jO];exact z
    refine jA (aI @v4 @x8) ?_;have R:Own (P.set k (some ⟨40,true,aR .u32 (gE ln (i+1) (s+1))⟩)) (k+2) B 3 p (aR .i64 (iN (iw ln (i+1)++fq ln (i+1) s))):=N.ar (ag _) fun b l=>ak _ _ (by have:=(N.lt l).1;omega)
    have v7:(aR .i64 (iN (iw ln (i+1)++fq ln (i+1) s))).length<=1000:=by
     rw[cO,bC,ay,pH,xz _ jO];have h1:=SY (ln:=ln) (show i+1<=21 by omega)
     have y9:bX ln 21<=ln.length:=by have:=pH ln 21;rw[<-this];exact acL ln
     have y8:=SN ln (i+1) s;have y7:cn ln (i+1)<=ln.length:=List.countP_le_length;omega
    refine nJ trivial (l4 _ _) R jO jO _ fun h7 g7 k7=> ?_;have x2:h7.get (k+1)=some ⟨223,true,dW (.slice t ln.length r) (.slice (some ⟨k,0,none⟩) ln.length ln.length) p (cU (dr ln) (i+1)) (cU (bX ln) (i+1))⟩:=by rw[k7 (k+1) jO fun q=>by have:=(R.lt q).1;omega];exact v4
    have y4:k+1<B+2:=jO;refine jA (aI @x2 (aI @x7 @Hv)) ?_;refine⟨.inl jO, ?_⟩;rw[v5,w6];have sn:fq ln (i+1) (s+1)=fq ln (i+1) s++[s]:=by rw[B8,if_pos m]
    have on:aR .i64 (iN (iw ln (i+1)++fq ln (i+1) (s+1)))=aR .i64 (iN (iw ln (i+1)++fq ln (i+1) s))++[jI (s:Int)]:=by rw[sn,<-b9,tA,tB];rfl
    refine D (fB ln s+1) _ _ ⟨jO,fun b l=> ?_,by rw[SZ E,if_pos m,J], ?_,_,get_eq _ _ _, ?_⟩
    ·rw[ak _ _ jO,k7 b jO (fun q=>by have:=(R.lt q).1;omega),ak _ _ jO];exact F b l
    ·rw[ak _ _ jO,k7 k jO (fun q=>by have:=(R.lt q).1;omega),get_eq]
    ·rw[on];refine Or.inr ⟨B+1,jS,by rw[ak _ _ jO];exact g7,jO,jO⟩
   ·have T:(((ln.getD s 0:Nat):Int)==((i+1:Nat):Int))=false:=beq_eq_false_iff_ne.2 fun e=>m jO;have w6:((s:Nat):Int)+1=((s+1:Nat):Int):=rfl;have sn:fq ln (i+1) (s+1)=fq ln (i+1) s:=by rw[B8,if_neg m,bV]
    refine jA (aI @e5 (aI @u6 (aI @c5 @T))) ?_;refine D (iP ln (i+1) s) P B ⟨u3,F,by rw[SZ E,if_neg m];rfl,by rw[acH m];exact A,p,z,by rw[sn];exact N⟩
end
section
variable {lf d n p c lo hi:Nat} {h:H} {S:List UInt8} {D A:Nat} {ln:List Nat}
end
inductive St (α:Type)
 |short
 |bad (e:Int)
 |ok (a:α) (used:Nat)
section
variable {lf d n p q lo size now:Nat} {h:H} {S:List UInt8} {D A:Nat} {lv:Value} {lens:List Nat} {xE:Bool}
end
def fC{c:Type}(E:En->Prop)(m:M c)(h:H)(n:Nat)(Q:c->H->Nat->Prop):Prop:=
 ∃a d b L,m h n=some ⟨a,d,b,L⟩∧n<=b∧(∀e∈L,e.wr=true->E e)∧Q a d b
section
variable {α β:Type} {E:En->Prop} {m:M α} {k:α->M β} {h h1:H} {n n1:Nat} {a:α} {L:List En} {Q:β->H->Nat->Prop}
theorem fC.step(e:m h n=some ⟨a,h1,n1,L⟩)(p:n<=n1)(f:∀e∈L,e.wr=true->E e)(x:fC E (k a) h1 n1 Q):fC E (m.bind k) h n Q:=by
 obtain⟨b,g,c,o,l,r,j,i⟩:=x;refine⟨b,g,c,L++o,bz e l,jO,fun x d=> ?_,i⟩;rcases List.mem_append.1 d with q|q
 ·exact f x q
 ·exact j x q
theorem fC.aD{Q':α->H->Nat->Prop}(x:fC E m h n Q'):fC E (inside m) h n Q':=by obtain⟨a,h1,n1,L,g,f,d,c⟩:=x;exact⟨a,h1,n1,_,hH g,f,fun e b=>d e (List.mem_filter.1 b).1,c⟩
theorem fC.run{Q':α->H->Nat->Prop}{W:Nat->Prop}{n0:Nat}(x:fC E m h n Q')(d:∀e,E e->n0<=e.b∨W e.b):aa W n0 m h n Q':=by obtain⟨a,h1,n1,L,j,i,g,f⟩:=x;exact⟨a,h1,n1,L,j,i,fun e c b=>d e (g e c b),f⟩
theorem acO{a:Value->H->Nat->Prop}(v:Value)(x:a v h n):fC E (ae [v]) h n a:=
 ⟨v,h,n,[],rfl,ag _,fun e b=>(nomatch b),x⟩
end
section
variable {β:Type} {E:En->Prop} {h h1:H} {n n1:Nat} {Q:β->H->Nat->Prop} {P:Program}
theorem fC.ins{m:M Value}{v:Value}{L:List En}{k:Value->M β}(e:m h n=some ⟨v,h1,n1,L⟩)(d:n<=n1)(c:∀e∈L,e.wr=true->E e)(x:fC E (k v) h1 n1 Q):fC E (dy m k) h n Q:=by rw[j3];exact fC.step (hH e) d (fun x b a=>c x (List.mem_filter.1 b).1 a) x
theorem Tp{T:Prop}(_:T)(b off:Nat)(k:Value->M β){B:AB}(c:h.get b=some B)(d:b<n){v:Value}(a:B.cells[off]? =some v)(x:fC E (k v) h n Q):fC E (aG (jP b off) k) h n Q:=by
 have e:uB b off h n=some ⟨v,h,n,[⟨false,b,some off⟩]⟩:=by rw[zo];unfold rd;simp only[d,c,a,if_true]
 exact fC.ins e (ag _) jS x
theorem Tq{T:Prop}(_:T)(b off:Nat)(v:Value)(k:Value->M β){e:TypeId}{cs:List Value}(j:h.get b=some ⟨e,true,cs⟩)(l:b<n)(i:off<cs.length)(h1:one v=true)(g:E ⟨true,b,some off⟩)(x:fC E (k undef) (h.set b (some ⟨e,true,cs.set off v⟩)) n Q):
 fC E (aK (jP b off) v k) h n Q:=by
 have c:wr b off v h n=some ⟨(),h.set b (some ⟨e,true,cs.set off v⟩),n,[⟨false,b,some off⟩,⟨true,b,some off⟩]⟩:=by unfold wr;simp[l,j,i,h1]
 have m:((rR b off v).bind fun _=>M.ret undef) h n=some ⟨undef,h.set b (some ⟨e,true,cs.set off v⟩),n,[⟨false,b,some off⟩,⟨true,b,some off⟩]⟩:=by rw[zq];have:=bz (f:=fun _=>M.ret undef) c (L2:=[]) (b:=undef) (h2:=h.set b (some ⟨e,true,cs.set off v⟩)) (n2:=n) rfl;simpa using this
 show fC E (match one v with
  |true=>dy ((rR b off v).bind fun _=>M.ret undef) k
  |false=> .fail) h n Q
 rw[h1];refine fC.ins m (ag _) (fun y d a=> ?_) x;simp at d;rcases d with rfl|rfl
 ·cases a
 ·exact g
end
section
variable {β:Type} {W:Nat->Prop} {n0:Nat} {h:H} {n:Nat} {Q:β->H->Nat->Prop} {P:Program}
theorem acP{m:M Value}(f:Value->M β):dy m f=(dy m M.ret).bind f:=by
 rw[j3,j3];funext h n;unfold M.bind M.ret;cases inside m h n with
 |none=>rfl
 |some r=>simp
theorem acQ {T:Prop} (c:T) {e:TypeId} {x:Value} (p:one x=true) {lo:Nat} {v:Value} {cs:List Value} (o:Own h lo n e v cs) (s:cs.length+1<=1099511627776) (q:∀b,aq v b->n0<=b∨W b) (K:Value×Tk->Value×Tk->M β)
 (y:∀w G F h',h'.get (n+1)=some ⟨e,true,cs++[x]⟩->(∀b,b<n->¬aq v b->h'.get b=h.get b)->aa W n0 (K (w,G) (.slice (some ⟨n+1,0,none⟩) (cs.length+1) (aL+(cs.length+1)),F)) h' (n+2) Q):
 aa W n0 ((bk (db e 1 x M.ret)).bind fun a=>(bk (cN e 1 v a.1 M.ret)).bind fun b=>K a b) h n Q:=by
 obtain⟨a,P,N,L,i,U,d,D⟩:=E7 (Q:=fun j h' m=>j=fN (some ⟨n+1,0,none⟩) (cs.length+1) (aL+(cs.length+1))∧m=n+2∧h'.get (n+1)=some ⟨e,true,cs++[x]⟩∧∀b,b<n->¬aq v b->h'.get b=h.get b) c p o s q M.ret fun h' g k=>(qE _).2 ⟨rfl,rfl,g,k⟩
 have E:db e 1 x (fun w=>cN e 1 v w M.ret)=(db e 1 x M.ret).bind fun w=>cN e 1 v w M.ret:=by
  unfold db;split
  ·exact acP _
  ·rfl
 rw[E]at i;obtain⟨w,O,f,J,I,B,C,rfl⟩:=Ev.bind_some i;obtain⟨rfl,rfl,g,k⟩:=D;obtain⟨b,t,l,X,A,R,z,u⟩:=y w ⟨n,f,J⟩ ⟨f,n+2,I⟩ _ g k;refine⟨b,t,l,_,bz (yX B) (bz (yX C) A),jO,fun r hr=> ?_,u⟩;simp only[List.mem_append]at hr d;rcases hr with hr|hr|hr
 ·exact d r (.inl hr)
 ·exact d r (.inr hr)
 ·exact z r hr
end
def dv{a:Type}(d:a)(O:List a)(i:Nat):List a:=O.getD i d::(O.take i++O.drop (i+1))
def q8(O:List Value)(i j:Nat):List Value:=O.take (j+1)++((O.drop j).take (i-j)++O.drop (i+1))
theorem tC{g:Type}{O:List g}(h:O.length=6):∃a b c d e f,O=[a,b,c,d,e,f]:=by
 match O,h with
 |[a,b,c,d,e,f],_=>exact⟨a,b,c,d,e,f,rfl⟩
theorem acR{O:List Value}(h:O.length=6){i:Nat}(g:i<6):q8 O i i=O:=by obtain⟨a,b,c,d,e,f,rfl⟩:=tC h;rcases i with _|_|_|_|_|_|i<;>first|rfl|omega
theorem acS{O:List Value}(h:O.length=6){i j:Nat}(k:i<6)(g:j<i):(q8 O i (j+1)).set (j+1) (O.getD j undef)=q8 O i j:=by obtain⟨a,b,c,d,e,f,rfl⟩:=tC h;rcases i with _|_|_|_|_|_|i<;>rcases j with _|_|_|_|_|j<;>first|rfl|omega
theorem acT{O:List Value}(h:O.length=6){i j:Nat}(k:i<6)(g:j<i):(q8 O i (j+1)).getD j undef=O.getD j undef:=by obtain⟨a,b,c,d,e,f,rfl⟩:=tC h;rcases i with _|_|_|_|_|_|i<;>rcases j with _|_|_|_|_|j<;>first|rfl|omega
theorem acU{O:List Value}(h:O.length=6){i:Nat}(g:i<6):(q8 O i 0).set 0 (O.getD i undef)=dv undef O i:=by obtain⟨a,b,c,d,e,f,rfl⟩:=tC h;rcases i with _|_|_|_|_|_|i<;>first|rfl|omega
theorem Ts{O:List Value}(h:O.length=6){i j:Nat}(k:i<6)(g:j<=i):(q8 O i j).length=6:=by obtain⟨a,b,c,d,e,f,rfl⟩:=tC h;rcases i with _|_|_|_|_|_|i<;>rcases j with _|_|_|_|_|_|j<;>first|rfl|omega
theorem Tt{O:List Value}{j:Nat}(h:j<O.length):O.getD j undef∈O:=by rw[au,aC h];exact cu h
theorem Tu{A O Z:List Value}{j:Nat}(h:j<O.length):(A++(O++Z))[A.length+j]? =some (O.getD j undef):=by rw[ou jO,show A.length+j-A.length=j by omega,pX h,au,aC h];rfl
theorem Tv{A O Z:List Value}{j:Nat}(h:j<O.length)(v:Value):(A++(O++Z)).set (A.length+j) v=A++(O.set j v++Z):=by rw[C8 _ _ jO,show A.length+j-A.length=j by omega,ahI _ _ h]
section
variable {lf d n q:Nat} {h:H} {e:TypeId} {A O Z:List Value} {i:Nat}
def Tw(q off:Nat):En->Prop:=fun x=>x.b=q∧∃j,x.k=some j∧off<=j∧j<off+6
theorem acV(m:O.length=6)(C:∀v∈O,one v=true)(g:h.get q=some ⟨e,true,A++(O++Z)⟩)(r:q<n)(l:i<6)(E:100<=lf):
 fC (Tw q A.length) (ah ad gt lf (d+1) 219 #[jP q A.length,jI (i:Int)]) h n fun v h' n'=>v=O.getD i undef∧n'=n∧h'.get q=some ⟨e,true,A++(dv undef O i++Z)⟩∧∀b,b≠q->h'.get b=h.get b:=by
 rw[aF (fun _=>Rp) rfl];refine fC.aD ?_;unfold BD
 have p:∀(j:Nat),j<6->∀(k:Value->M Value),eW 6 (jP q A.length) (jI (j:Int)) k=k (jP q (A.length+j)):=fun j x k=>by rw[EX _ 6 q A.length .i64 (j:Int) jO jO,fg]
 have B:i<O.length:=jO
 have u:∀(j a:Nat) (h':H),j<=i->j<a->h'.get q=some ⟨e,true,A++(q8 O i j++Z)⟩->(∀b,b≠q->h'.get b=h.get b)->
  fC (Tw q A.length) (s9 lf (ah ad gt lf d) a (BC lf (ah ad gt lf d)) (jP q A.length) (jI (i:Int)) (jI 0) (O.getD i undef) (jI (j:Int))) h' n fun v h' n'=>v=O.getD i undef∧n'=n∧h'.get q=some ⟨e,true,A++(dv undef O i++Z)⟩∧∀b,b≠q->h'.get b=h.get b:=by
  intro j
  induction j with
  |zero=>
   intro a h' x F s w;obtain⟨a,rfl⟩:∃f,a=f+1:=⟨a-1,jO⟩;rw[s9];have t:decide ((0:Int)<((0:Nat):Int))=false:=decide_eq_false jO;refine jA @t ?_
   (try unfold BC);(try dsimp only)
   have z:=p 0 jO;simp only[iA]at z;refine jA @z ?_;have c:=Ts (j:=0) m l (cL _);refine Tq trivial q A.length _ _ s r (by simp[c];omega) (C _ (Tt B)) ⟨rfl,_,rfl,jS,jS⟩ ?_;refine acO _ ⟨rfl,rfl, ?_,fun b o=> ?_⟩
   ·rw[get_eq];have:=Tv (A:=A) (Z:=Z) (O:=q8 O i 0) (j:=0) jO (O.getD i undef);rw[iA]at this;rw[this,acU m l]
   ·rw[ak _ _ o];exact w b o
  |succ j D=>
   intro a h' x F s w;obtain⟨a,rfl⟩:∃f,a=f+1:=⟨a-1,jO⟩;rw[s9];have t:decide ((0:Int)<((j+1:Nat):Int))=true:=decide_eq_true jO;have y:IntKind.i64.wrap (((j+1:Nat):Int)-1)=(j:Int):=by rw[aO jO jO];omega
   try simp(disch:=first|omega|assumption) only[Nat.reduceAdd,Nat.reduceLT,RZ,t,y,p j jO]
   have c:=Ts (j:=j+1) m l x;refine Tp trivial q (A.length+j) _ s r (Tu jO) ?_;rw[acT m l jO];try simp(disch:=first|omega|assumption) only[Nat.reduceAdd,Nat.reduceLT,RZ,p (j+1) jO]
   refine Tq trivial q (A.length+(j+1)) _ _ s r (by simp[c];omega) (C _ (Tt jO)) ⟨rfl,_,rfl,jS,by simp;omega⟩ ?_;refine jA (aI @t @y) ?_;refine D a _ jO jO ?_ fun b o=> ?_
   ·rw[get_eq,Tv jO,acS m l jO]
   ·rw[ak _ _ o];exact w b o
 try simp(disch:=first|omega|assumption) only[Nat.reduceAdd,Nat.reduceLT,RZ,p i l]
 refine Tp trivial q (A.length+i) _ g r (Tu B) ?_;exact u i lf h (ag _) jO (by rw[acR m l];exact g) fun _ _=>rfl
end
end Go.Proofs.YtcehhgppfahbkaaGreatDoor
namespace Go.Proofs.YtcehhgppfahbkaaGreatDoor
open Go.RowKit Ev Sp Cn
def vn(l:List UInt8)(i:Nat):Nat:=(l.getD (if i=0 then l.length-1 else i-1) 0).toNat
def fb(l:List UInt8):List Nat:=(eh (bA l) (dQ (bA l))).ord
def me(l:List UInt8)(k:Nat):List Nat:=((fb l).take k).map (vn l)
def mU(l:List UInt8):Nat->Nat
 |0=>0
 |k+1=>if(fb l).getD k 0=0 then k else mU l k
def TS(l:List UInt8):Nat:=dQ (bA l)
structure Tm where
 a:Nat
 s:Sm
 ov:Value
 lv:Value
def mV(l:List UInt8)(t:Nat)(m:Tm):AB:=⟨155,true,[.string ⟨l.toArray⟩,jP m.s.p 0,m.ov,m.lv,jI (mU l (t-TS l):Int)]⟩
structure mW (h:H) (n:Nat) (L:Nat->Nat) (l:List UInt8) (t:Nat) (ob:Bool) (m:Tm):Prop where
 get:h.get m.a=some (mV l t m)
 lt:m.a<n
 la:L m.a=25
 so:cP h n L l (eh (bA l) (min t (TS l))) m.s
 ord:if ob=true then Own h 0 n 3 m.ov (nV (fb l))else m.ov=nS
 lo:∀b,aq m.ov b->L b=26
 nY:Own h 0 n 5 m.lv (bJ (me l (t-TS l)))
 ll:∀b,aq m.lv b->L b=27
 Hx:TS l<t->ob=true
 Hy:ob=true->TS l<=t
 xF:t<=TS l+l.length
def mX(L:Nat->Nat):Nat->Prop:=fun c=>21<=L c∧L c<=27
theorem Hz{L:Nat->Nat}{c i:Nat}(h:L c=i)(a:21<=i)(h2:i<=27):mX L c:=by unfold mX;omega
theorem mW.ar{h h':H}{n n':Nat}{L L':Nat->Nat}{l:List UInt8}{t:Nat}{g:Bool}{m:Tm}(y:mW h n L l t g m)(d:n<=n')(f:∀c,c<n->L' c=L c)(e:∀c,c<n->21<=L c->L c<=27->h'.get c=h.get c):mW h' n' L' l t g m:=by
 have i:∀b,aq m.ov b->b<n:=fun b a=>by
  have:=y.ord;split at this
  ·exact(this.lt a).2
  ·rw[this]at a;exact a.not_nil.elim
 refine⟨(e _ y.lt (by rw[y.la];decide) (by rw[y.la];decide)).trans y.get,dC y.lt d,(f _ y.lt).trans y.la,y.so.ar d f fun c j k o=>e c j k jO, ?_,fun b a=>(f b (i b a)).trans (y.lo b a),y.nY.ar d fun b a=>e b (y.nY.lt a).2 (by rw[y.ll b a];decide) (by rw[y.ll b a];decide),fun b a=>(f b (y.nY.lt a).2).trans (y.ll b a),y.Hx,y.Hy,y.xF⟩;have:=y.ord;by_cases c:g=true
 ·rw[if_pos c]at this⊢;exact this.ar d fun b a=>e b (this.lt a).2 (by rw[y.lo b a];decide) (by rw[y.lo b a];decide)
 ·rw[if_neg c]at this⊢;exact this
theorem pJ{l:List UInt8}(a:l.length<=900000):(fb l).length=l.length:=by unfold fb;rw[ZF (bA l) (by rw[eu];exact a),eu]
theorem acW{l:List UInt8}(a:l.length<=900000){i:Nat}(c:i<l.length):(fb l).getD i 0<l.length:=by
 have d:=MM (bA l) (by rw[eu];exact a)
 have b:((fb l).getD i 0:Int)∈Pl.gP (bA l) (bA l).size:=by rw[<-d];refine List.mem_map.2 ⟨_, ?_,rfl⟩;rw[au,aC (by rw[pJ a];exact c)];exact cu _
 have:=(Pl.wH (bA l) _ _).1 b;rw[eu]at this;omega
theorem Tx{l:List UInt8}(a:l.length<=900000){k:Nat}(b:k<=l.length):(me l k).length=k:=by unfold me;rw[List.length_map,ed,pJ a];omega
theorem acX{l:List UInt8}(c:l.length<=900000){k:Nat}(b:k<l.length):me l (k+1)=me l k++[vn l ((fb l).getD k 0)]:=by
 have a:k<(fb l).length:=by rw[pJ c];exact b
 unfold me;rw[jV a,gZ,au,aC a];rfl
section
variable {lf d n:Nat} {h:H} {L:Nat->Nat} {l:List UInt8} {t:Nat} {ob:Bool} {m:Tm}
theorem acY{i:Nat}(e:i<l.length)(f:l.length<=900000):aa (fun _=>False) n (ah ad gt lf (d+1) 157 #[.string ⟨l.toArray⟩,jI (i:Int)]) h n fun b h' n'=>b= .int .u8 (vn l i:Int)∧h'=h∧n'=n:=by
 rw[aF (fun _=>PQ) rfl];refine aa.aD ?_;unfold F' vn;by_cases c:i=0
 ·have z:(((i:Nat):Int)==0)=true:=by rw[c];rfl
  have a:IntKind.i64.wrap (((l.length:Nat):Int)-1)=((l.length-1:Nat):Int):=by rw[aO jO jO];omega
  have i1:((l.length-1:Nat):Int)<((l.length:Nat):Int):=jO;rw[if_pos c];try simp(disch:=first|omega|assumption) only[Nat.reduceAdd,Nat.reduceLT,RZ,z,a,i1]
  all_goals (first|trivial|rfl|exact⟨rfl,rfl,rfl⟩|exact⟨rfl,rfl⟩)
 ·have z:(((i:Nat):Int)==0)=false:=beq_eq_false_iff_ne.2 jO;have a:IntKind.i64.wrap (((i:Nat):Int)-1)=((i-1:Nat):Int):=by rw[aO jO jO];omega
  have i1:((i-1:Nat):Int)<((l.length:Nat):Int):=jO;rw[if_neg c];try simp(disch:=first|omega|assumption) only[Nat.reduceAdd,Nat.reduceLT,RZ,z,a,i1]
  all_goals (first|trivial|rfl|exact⟨rfl,rfl,rfl⟩|exact⟨rfl,rfl⟩)
theorem xG(y:mW h n L l t ob m)(f:l.length<=900000):aa (fun _=>False) n (ah ad gt lf (d+1) 92 #[jP m.a 0]) h n fun b h' n'=>b= .bool (decide (t-TS l=l.length))∧h'=h∧n'=n:=by
 have g:=y.get;have j:=y.lt;have i:=y.xF;obtain⟨a,c,e⟩:=y.nY.z'.len;rw[gy,Tx f jO]at e;unfold mV at g;rw[e]at g
 have z:(((t-TS l:Nat):Int)==((l.length:Nat):Int))=decide (t-TS l=l.length):=by
  by_cases c:t-TS l=l.length
  ·rw[decide_eq_true c,c];exact beq_iff_eq.2 rfl
  ·rw[decide_eq_false c];exact beq_eq_false_iff_ne.2 jO
 rw[aF (fun _=>Oh) rfl];refine aa.aD ?_;unfold FN;try simp(disch:=first|omega|assumption) only[Nat.reduceAdd,Nat.reduceLT,RZ,g,z]
def kt(L:Nat->Nat)(n:Nat)(l:List UInt8)(t:Nat)(ob:Bool)(m:Tm)(h':H)(n':Nat):Prop:=∃b a,(∀c,c<n->b c=L c)∧a.a=m.a∧mW h' n' b l t ob a
theorem acZ(y:mW h n L l t true m)(A:TS l<=t)(h2:t<TS l+l.length)(w:l.length<=900000):aa (mX L) n (ah ad gt lf (d+2) 124 #[jP m.a 0]) h n fun _ h' n'=>kt L n l (t+1) true m h' n':=by
 have g:=y.get;have I:=y.lt;have K:mX L m.a:=Hz y.la jD jD;have u:=y.nY;have o:=y.ord;rw[if_pos rfl]at o;obtain⟨k,hk⟩:∃k,t-TS l=k:=⟨_,rfl⟩;have G:k<l.length:=jO;have F:=Tx w (Nat.le_of_lt G);have k1:t+1-TS l=k+1:=jO;obtain⟨a,c,e⟩:=u.z'.len;rw[gy,hk,F]at e;have al:=acW w G;rw[xC]at o;obtain⟨bb,u0,cap,oo,ks,ev,hg,u2,_,_,_,Q⟩:=o.row.some (by rw[bC,pJ w];omega);have X:=Q k (by rw[bC,pJ w];exact G);rw[ki]at X;rw[bC,pJ w]at ev;unfold mV at g;rw[hk]at g u;have g0:=g;rw[e,ev]at g;have i1:((k:Nat):Int)<((l.length:Nat):Int):=jO;rw[aF (fun _=>O8) rfl];refine aa.aD ?_;unfold F0;have u4:m.a≠bb:=cX y.la (y.lo bb (by rw[ev];exact⟨_,_,_,rfl⟩)) jD
 have r:∀(A:H),A.get m.a=some ⟨155,true,[.string ⟨l.toArray⟩,jP m.s.p 0,m.ov,.slice a k c,jI (mU l (k+1):Int)]⟩->(∀c,c≠m.a->A.get c=h.get c)->aa (mX L) n ((bk (aG (jP m.a 3) M.ret)).bind fun f=>(bk (aG (jP m.a 0) M.ret)).bind fun j=>(bk (aj (ah ad gt lf (d+1)) 157 [j.1,jI ((fb l).getD k 0:Nat)] M.ret)).bind fun l=>(bk (db 5 1 l.1 M.ret)).bind fun s=>(bk (cN 5 1 f.1 s.1 M.ret)).bind fun n=>(bk (aK (jP m.a 3) n.1 M.ret)).bind fun q=>lV (!(fo f.2 l.2)) (ae [])) A n fun _ h' n'=>kt L n l (t+1) true m h' n':=by
  intro A U k2;have C:Own A 0 n 5 m.lv (bJ (me l k)):=u.ar (ag n) fun b i=>k2 b (cX (y.ll b i) y.la jD);try simp(disch:=first|omega|assumption) only[Nat.reduceAdd,Nat.reduceLT,RZ]
  refine uQ (m:=n) trivial m.a 3 _ U I (ag _) rfl fun T1 t1=> ?_;try simp(disch:=first|omega|assumption) only[Nat.reduceAdd,Nat.reduceLT,RZ]
  refine uQ (m:=n) trivial m.a 0 _ U I (ag _) rfl fun T2 t2=> ?_;try simp(disch:=first|omega|assumption) only[Nat.reduceAdd,Nat.reduceLT,RZ]
  refine E9 aE (acY (lf:=lf) (d:=d) al w) (ag n) fun v3 h3 x T3 u1 u3 P t3=> ?_;obtain⟨rfl,rfl,rfl⟩:=P;try simp(disch:=first|omega|assumption) only[Nat.reduceAdd,Nat.reduceLT,RZ]
  rw[<-e];refine acQ trivial rfl C (by rw[gy,F];omega) (fun b i=> .inr (Hz (y.ll b i) jD jD)) _ fun w4 T4 T5 h4 g4 k4=> ?_;try simp(disch:=first|omega|assumption) only[Nat.reduceAdd,Nat.reduceLT,RZ]
  have O:¬aq m.lv m.a:=fun q=>cX (y.ll _ q) y.la jD rfl;have g5:=(k4 m.a I O).trans U;refine Y0 m.a 3 _ _ g5 jO (show 3<5 by decide) rfl (.inr K) fun T6=> ?_;try simp(disch:=first|omega|assumption) only[Nat.reduceAdd,Nat.reduceLT,RZ,t1.gf t3,iD,C6,pf]
  have J:∀c,c<x->(if c<x then L c else 27)=L c:=fun c v=>if_pos v
  have Z:∀c,c<x->L c≠25->L c≠27->∀B:AB,(h4.set m.a (some B)).get c=h.get c:=fun c v q1 q2 B=>by have ca:c≠m.a:=fun q=>q1 (by rw[q];exact y.la);rw[ak _ _ ca,k4 c v (fun q=>q2 (y.ll c q))];exact k2 c ca
  refine⟨fun c=>if c<x then L c else 27,{m with lv:= .slice (some ⟨x+1,0,none⟩) (k+1) (aL+(k+1))},J,rfl, ?_⟩;have mt:min (t+1) (TS l)=min t (TS l):=jO;refine⟨?_,by show m.a<_;omega,(J _ I).trans y.la, ?_, ?_, ?_, ?_, ?_,fun _=>rfl,fun _=>by omega,jO⟩
  ·rw[get_eq];unfold mV;rw[k1,gy,F];try rfl
  ·rw[mt];exact y.so.ar jO J fun c v q1 q2=>Z c v jO jO _
  ·rw[if_pos rfl,xC];exact o.ar jO fun b i=>Z b (o.lt i).2 (by rw[y.lo b i];decide) (by rw[y.lo b i];decide) _
  ·exact fun b i=>(J b (o.lt i).2).trans (y.lo b i)
  ·rw[k1,acX w G,E5];refine Own.mk' ((ak _ _ jO).trans g4) (cL _) jO ?_;rw[ay,gy,F];try rfl
  ·intro b i;have i:b=x+1:=i.inj;rw[i];exact if_neg jO
 obtain⟨T,R⟩:∃T:M Value,T=((bk (aG (jP m.a 3) M.ret)).bind fun f=>(bk (aG (jP m.a 0) M.ret)).bind fun j=>(bk (aj (ah ad gt lf (d+1)) 157 [j.1,jI ((fb l).getD k 0:Nat)] M.ret)).bind fun l=>(bk (db 5 1 l.1 M.ret)).bind fun s=>(bk (cN 5 1 f.1 s.1 M.ret)).bind fun n=>(bk (aK (jP m.a 3) n.1 M.ret)).bind fun q=>lV (!(fo f.2 l.2)) (ae [])):=⟨_,rfl⟩;rw[<-R]at r;obtain⟨N,D⟩:∃N,mU l (k+1)=N:=⟨_,rfl⟩;have p:(if(fb l).getD k 0=0 then k else mU l k)=N:=D;rw[D]at r;by_cases W:(fb l).getD k 0=0
 ·have z:((((fb l).getD k 0:Nat):Int)==0)=true:=by rw[W];rfl
  rw[if_pos W]at p;try simp(disch:=first|omega|assumption) only[Nat.reduceAdd,Nat.reduceLT,RZ,g,hg,X,i1,z,K,or_true,true_and]
  rw[<-R];refine r _ ?_ fun c v=>ak _ _ v;rw[get_eq,<-ev,p]
 ·have z:((((fb l).getD k 0:Nat):Int)==0)=false:=beq_eq_false_iff_ne.2 jO;rw[if_neg W]at p;try simp(disch:=first|omega|assumption) only[Nat.reduceAdd,Nat.reduceLT,RZ,g,hg,X,i1,z,K,or_true,true_and]
  rw[<-R];refine r _ ?_ fun _ _=>rfl;rw[g,<-ev,p]
end
def lq(l:List UInt8)(t:Nat)(a:Int):Nat:=min a.toNat (TS l+l.length-t)
def vo(l:List UInt8)(t:Nat)(b:Bool)(a:Int):Bool:=b||(decide (1<=a)&&decide (TS l<=t+lq l t a))
theorem HA{l:List UInt8}(a:l.length<=900000){j:Nat}(b:j<=TS l):(eh (bA l) j).done=decide (j=TS l):=by
 by_cases c:j=TS l
 ·rw[decide_eq_true c,c];exact Fs (bA l) (by rw[eu];exact a)
 ·rw[decide_eq_false c];exact ML (bA l) (by rw[eu];exact a) j (by unfold TS at*;omega)
theorem kt.trans{L L':Nat->Nat}{n b n2:Nat}{l:List UInt8}{t:Nat}{a:Bool}{m m':Tm}{h2:H}(o:n<=b)(g:∀c,c<n->L' c=L c)(e:m'.a=m.a)(q:kt L' b l t a m' h2 n2):kt L n l t a m h2 n2:=by obtain⟨k,d,j,i,h⟩:=q;exact⟨k,d,fun c f=>(j c jO).trans (g c f),i.trans e,h⟩
section
variable {lf d n:Nat} {h:H} {L:Nat->Nat} {l:List UInt8} {t:Nat} {ob:Bool} {m:Tm}
theorem mW.sorted(y:mW h n L l t ob m){g:Nat}(E:min t (TS l)+g<=TS l){d:H}{j:Nat}(o:n<=j)(q:gU L n l (eh (bA l) (min t (TS l)+g)) m.s d j)(A:∀b,b<n->¬WS L b->d.get b=h.get b):kt L n l (t+g) ob m d j:=by
 obtain⟨D,v,e,C,B⟩:=q;have mt:min (t+g) (TS l)=min t (TS l)+g:=jO;have p:t+g-TS l=t-TS l:=jO;have z:=y.get;have r:=y.xF;have i:=y.Hx;have f:=y.Hy;have k:∀c,c<n->25<=L c->d.get c=h.get c:=fun c x q=>A c x fun w=>by have:=w.2;omega
 have u:∀b,aq m.ov b->b<n:=fun b a=>by
  have:=y.ord;split at this
  ·exact(this.lt a).2
  ·rw[this]at a;exact a.not_nil.elim
 refine⟨D,{m with s:=v},e,rfl,⟨?_,dC y.lt o,(e _ y.lt).trans y.la,by rw[mt];exact B, ?_,fun b a=>(e b (u b a)).trans (y.lo b a),by rw[p];exact y.nY.ar o fun b a=>k b (y.nY.lt a).2 (by rw[y.ll b a];decide),fun b a=>(e b (y.nY.lt a).2).trans (y.ll b a),fun q=>i jO,fun q=>by have:=f q;omega,jO⟩⟩
 ·rw[k m.a y.lt (by rw[y.la];decide),z];unfold mV;dsimp only;rw[C,p]
 ·have:=y.ord;by_cases c:ob=true
  ·rw[if_pos c]at this⊢;exact this.ar o fun b a=>k b (this.lt a).2 (by rw[y.lo b a];decide)
  ·rw[if_neg c]at this⊢;exact this
theorem ac0(h1:1<=l.length)(s:l.length<=900000){c:Int}(R:c<=2000000000000)(P:l.length+10<lf){e a u:Nat}{j:H}{I F:Bool}(O:n<=u)(X:a<=TS l+l.length)(Z:(e:Int)<=c)(post:kt L n l a (decide (TS l<=a)) m j u):aa (mX L) n (mP lf (ah ad gt lf (d+5)) lf (nO lf (ah ad gt lf (d+5))) (jP m.a 0) (jI c) (jI 0) (jI (e:Int)) (.bool I) (.bool F)) j u fun t h' n'=>∃G:Nat,G=(if TS l<=a then min (c.toNat-e) (TS l+l.length-a)else 0)∧t=jI ((e+G:Nat):Int)∧kt L n l (a+G) (decide (TS l<=a)) m h' n':=by
 obtain⟨G,hG⟩:∃G:Nat,G=(if TS l<=a then min (c.toNat-e) (TS l+l.length-a)else 0):=⟨_,rfl⟩;have GN:G<=l.length:=by rw[hG];split<;>omega
 refine(dP (Q:=fun t h' n'=>t=jI ((e+G:Nat):Int)∧kt L n l (a+G) (decide (TS l<=a)) m h' n') G (fun D i (_:Unit)=>mP lf (ah ad gt lf (d+5)) D (nO lf (ah ad gt lf (d+5))) (jP m.a 0) (jI c) (jI 0) (jI ((e+i:Nat):Int)) (.bool I) (.bool F)) (fun i _ h' n'=>n<=n'∧kt L n l (a+i) (decide (TS l<=a)) m h' n') ?_ ?_ lf 0 () j u (cL _) jO ⟨O,post⟩).mono fun t h' n' _ q=>⟨G,hG,q⟩
 ·rintro D _ h' n' ⟨q1,x,v,k,f,y⟩;have g:=y.get;have B:=y.lt;unfold mV at g;rw[f]at g B;have r:=Cb (lf:=lf) (d:=d+4) y.so;rw[HA s jO]at r;have p:=xG (lf:=lf) (d:=d+4) y s;rw[f]at p;rw[mP];try simp(disch:=first|omega|assumption) only[Nat.reduceAdd,Nat.reduceLT,RZ,g]
  refine bU r q1 (fun _ _ h=>h.elim) ?_;by_cases o:TS l<=a
  ·rw[decide_eq_true (by omega:min (a+G) (TS l)=TS l)];rw[if_pos o]at hG;by_cases w:((e+G:Nat):Int)<c
   ·try simp(disch:=first|omega|assumption) only[Nat.reduceAdd,Nat.reduceLT,RZ,w]
    refine bU p q1 (fun _ _ h=>h.elim) ?_;rw[decide_eq_true (by omega:a+G-TS l=l.length)];try simp(disch:=first|omega|assumption) only[Nat.reduceAdd,Nat.reduceLT,RZ,fY]
    unfold nO;try simp(disch:=first|omega|assumption) only[Nat.reduceAdd,Nat.reduceLT,RZ]
    exact⟨x,v,k,f,y⟩
   ·try simp(disch:=first|omega|assumption) only[Nat.reduceAdd,Nat.reduceLT,RZ,w]
    unfold nO;try simp(disch:=first|omega|assumption) only[Nat.reduceAdd,Nat.reduceLT,RZ]
    exact⟨x,v,k,f,y⟩
  ·rw[if_neg o]at hG;rw[decide_eq_false (by omega:¬min (a+G) (TS l)=TS l)];try simp(disch:=first|omega|assumption) only[Nat.reduceAdd,Nat.reduceLT,RZ]
   unfold nO;try simp(disch:=first|omega|assumption) only[Nat.reduceAdd,Nat.reduceLT,RZ]
   exact⟨x,v,k,f,y⟩
 ·rintro D i _ h' n' Y ⟨q1,x,v,k,f,y⟩ next;have o:TS l<=a:=yw fun q=>by rw[if_neg q]at hG;omega
  rw[if_pos o]at hG;have g:=y.get;have B:=y.lt;unfold mV at g;rw[f]at g B;have r:=Cb (lf:=lf) (d:=d+4) y.so;rw[HA s jO,decide_eq_true (by omega:min (a+i) (TS l)=TS l)]at r;have p:=xG (lf:=lf) (d:=d+4) y s;rw[f,decide_eq_false (by omega:¬a+i-TS l=l.length)]at p;have w:((e+i:Nat):Int)<c:=jO;have J:IntKind.i64.wrap (((e+i:Nat):Int)+1)=((e+(i+1):Nat):Int):=by rw[aO jO jO];omega
  rw[decide_eq_true o]at y;have E:=acZ (lf:=lf) (d:=d+3) y jO jO s;rw[f]at E;rw[mP];try simp(disch:=first|omega|assumption) only[Nat.reduceAdd,Nat.reduceLT,RZ,g]
  refine bU r q1 (fun _ _ h=>h.elim) ?_;try simp(disch:=first|omega|assumption) only[Nat.reduceAdd,Nat.reduceLT,RZ,w]
  refine bU p q1 (fun _ _ h=>h.elim) ?_;try simp(disch:=first|omega|assumption) only[Nat.reduceAdd,Nat.reduceLT,RZ,iD]
  refine aJ aE E q1 (fun b R z=> ?_) fun W T K N U A=> ?_
  ·by_cases C:b<n
   ·refine .inr ?_;unfold mX at z⊢;rw[k b C]at z;exact z
   ·exact .inl jO
  ·try simp(disch:=first|omega|assumption) only[Nat.reduceAdd,Nat.reduceLT,RZ,J]
   refine next () T K ⟨jO, ?_⟩;rw[decide_eq_true o];exact kt.trans q1 k f A
theorem ac1(y:mW h n L l t ob m)(W:1<=l.length)(v:l.length<=900000)(a:Int)(u:a<=2000000000000)(u7:TS l+l.length+10<lf):aa (mX L) n (ah ad gt lf (d+6) 93 #[jP m.a 0,jI a]) h n fun R h' n'=>R=jI (lq l t a:Int)∧kt L n l (t+lq l t a) (vo l t ob a) m h' n':=by
 have g:=y.get;have N:=y.lt;have u3:=y.xF;have u6:=y.Hx;have w:=y.Hy;unfold mV at g;rw[aF (fun _=>Ol) rfl];refine aa.aD ?_;unfold Au;by_cases c0:a<1
 ·have e0:lq l t a=0:=by unfold lq;omega
  have Q:vo l t ob a=ob:=by unfold vo;rw[decide_eq_false (by omega:¬1<=a)];simp
  rw[e0,Q];try simp(disch:=first|omega|assumption) only[Nat.reduceAdd,Nat.reduceLT,RZ,c0]
  exact⟨rfl,L,m,fun _ _=>rfl,rfl,y⟩
 try simp(disch:=first|omega|assumption) only[Nat.reduceAdd,Nat.reduceLT,RZ,c0,g]
 refine aJ aE (abB (lf:=lf) (d:=d) y.so (by show min t (TS l)<=TS l;omega) v a u (by show TS l<lf;omega)) (ag n) (fun b _ hw=> .inr ⟨hw.1,by have:=hw.2;omega⟩) fun v2 h2 J o Z X=> ?_;obtain⟨rfl,post⟩:=X;obtain⟨e,O⟩:∃e,BV l (min t (TS l)) a=e:=⟨_,rfl⟩;have u9:e=min a.toNat (TS l-min t (TS l)):=O.symm;rw[O]at post⊢;obtain⟨C,T,Q,E,f⟩:=y.sorted jO o post Z;have g:=f.get;have N:=f.lt;have z:=f.la;have s:=f.xF;unfold mV at g;rw[E]at g N z;have wa:mX L m.a:=Hz y.la jD jD
 have p:∀(U:H) (x:Nat) (b0 bm:Bool),n<=x->kt L n l (t+e) (decide (TS l<=t+e)) m U x->aa (mX L) n (mP lf (ah ad gt lf (d+5)) lf (nO lf (ah ad gt lf (d+5))) (jP m.a 0) (jI a) (jI 0) (jI (e:Int)) (.bool b0) (.bool bm)) U x fun R h' n'=>R=jI (lq l t a:Int)∧kt L n l (t+lq l t a) (vo l t ob a) m h' n':=by
  intro U x b0 bm A q;refine(ac0 (lf:=lf) (d:=d) W v u jO A s jO q).mono ?_;rintro R h' n' _ ⟨G,hG,rfl,q2⟩
  have e3:e+G=lq l t a:=by unfold lq;rw[hG];split<;>omega
  have e4:decide (TS l<=t+e)=vo l t ob a:=by
   unfold vo;rw[decide_eq_true (by omega:1<=a),Bool.true_and];by_cases c:TS l<=t+e
   ·rw[decide_eq_true c,decide_eq_true (by omega:TS l<=t+lq l t a),Bool.or_true]
   ·rw[if_neg c]at hG;rw[decide_eq_false c,decide_eq_false (by omega:¬TS l<=t+lq l t a),Bool.or_false];cases ob with
    |false=>rfl
    |true=>exact absurd (w rfl) jO
  rw[e3];refine⟨rfl, ?_⟩;rw[<-e3,<-Nat.add_assoc,<-e4];exact q2
 have j:=f.ord;cases k:ob with
 |true=>
  rw[k,if_pos rfl]at j;rw[k]at f w;have tt:=w rfl;have dt:decide (TS l<=t+e)=true:=decide_eq_true jO;rw[xC]at j;obtain⟨bb,u5,cap,oo,ks,ev,hg,v0,_,_,_,v1⟩:=j.row.some (by rw[bC,pJ v];omega);rw[ev]at g;rw[k]at p;try simp(disch:=first|omega|assumption) only[Nat.reduceAdd,Nat.reduceLT,RZ,g]
  refine p _ _ _ _ o ?_;rw[dt];exact⟨C,T,Q,E,f⟩
 |false=>
  rw[k,if_neg jD]at j;rw[k]at f p;rw[j]at g;have sd:=Cb (lf:=lf) (d:=d+4) f.so;rw[HA v jO]at sd;try simp(disch:=first|omega|assumption) only[Nat.reduceAdd,Nat.reduceLT,RZ,g]
  refine bU sd o (fun _ _ h=>h.elim) ?_;by_cases c:TS l<=t+e
  ·have mt:min (t+e) (TS l)=TS l:=jO;rw[decide_eq_true mt];have I:=f.so;rw[mt]at I;have oo:=acz (lf:=lf) (d:=d+3) I (Fs (bA l) (by rw[eu];exact v)) (pJ v) W v;try simp(disch:=first|omega|assumption) only[Nat.reduceAdd,Nat.reduceLT,RZ,g]
   refine aJ aE oo o (fun _ _ h=>h.elim) fun v3 U x A P r=> ?_;have g3:=(P m.a N id).trans g;have Y:m.a<x:=jO;obtain⟨a3,c3,B⟩:=r.z'.len;rw[vj,show(eh (bA l) (TS l)).ord.length=l.length from pJ v]at B;rw[B];try simp(disch:=first|omega|assumption) only[Nat.reduceAdd,Nat.reduceLT,RZ,g3,wa,or_true,true_and]
   rw[<-B];refine p _ _ _ _ jO ?_;rw[decide_eq_true c];have K:∀c,c<J->(if c<J then C c else 26)=C c:=fun c D=>if_pos D;have F:=f.ar (L':=fun c=>if c<J then C c else 26) A K fun c D _ _=>P c D id;have na:∀{c i},(if c<J then C c else 26)=i->i≠25->c≠m.a:=fun{c i} W h2 q=>h2 (by rw[<-W,q,if_pos N];exact z);refine⟨fun c=>if c<J then C c else 26,{T with ov:=v3},fun c D=>(K c jO).trans (Q c D),E,⟨?_,by show T.a<x;rw[E];exact Y,F.la,F.so.ar (ag _) (fun _ _=>rfl) fun c D q1 q2=>ak _ _ fun q=>by rw[q,if_pos N,z]at q2;omega, ?_,fun b u=>if_neg (by have:=(r.lt u).1;omega),F.nY.ar (ag _) fun b u=>ak _ _ (na (F.ll b u) jD),F.ll,fun _=>rfl,fun _=>c,s⟩⟩
   ·rw[E,get_eq];rfl
   ·rw[if_pos rfl];exact(r.low (cL _)).ar (ag _) fun b u=>ak _ _ (by have:=(r.lt u).1;omega)
  ·rw[decide_eq_false (by omega:¬min (t+e) (TS l)=TS l)];try simp(disch:=first|omega|assumption) only[Nat.reduceAdd,Nat.reduceLT,RZ]
   refine p _ _ _ _ o ?_;rw[decide_eq_false c];exact⟨C,T,Q,E,f⟩
end
section
variable {lf d n:Nat} {h:H} {L:Nat->Nat} {l:List UInt8} {t:Nat} {ob:Bool} {m:Tm}
theorem ac2(p:1<=l.length)(B:l.length<=900000)(j:l.length<lf)(L:Nat->Nat):aa (fun _=>False) n (ah ad gt lf (d+2) 91 #[.string ⟨l.toArray⟩]) h n fun v h' n'=>∃L' m,v= .tuple #[jP m.a 0,jI 0]∧(∀c,c<n->L' c=L c)∧n<=m.a∧mW h' n' L' l 0 false m:=by
 have z:(l=[])=False:=eq_false fun q=>by rw[q]at p;exact absurd p jD
 rw[aF (fun _=>Og) rfl];refine aa.aD ?_;unfold FM;try simp(disch:=first|omega|assumption) only[Nat.reduceAdd,Nat.reduceLT,RZ,z]
 refine aJ aE (acE (lf:=lf) (d:=d) p B j L) (ag n) (fun _ _ h=>h.elim) fun F D a i E g=> ?_;obtain⟨r,w,rfl,k,C,y,u⟩:=g;try simp(disch:=first|omega|assumption) only[Nat.reduceAdd,Nat.reduceLT,RZ,dq,ext1]
 refine lX trivial _ _ ?_;try simp(disch:=first|omega|assumption) only[Nat.reduceAdd,Nat.reduceLT,RZ]
 refine⟨fun c=>if c<a then r c else 25,⟨a,w,nS,nS⟩,rfl,fun c f=>(if_pos jO).trans (k c f),i, ?_⟩;have x:∀c,c<a->(if c<a then r c else 25)=r c:=fun c f=>if_pos f;have s:0-TS l=0:=Nat.zero_sub _;have t:∀b,¬aq nS b:=fun b e=>(by obtain⟨o,l,c,A⟩:=e;cases A);refine⟨?_,dL a,if_neg (ub a), ?_,rfl,fun b e=>(t b e).elim, ?_,fun b e=>(t b e).elim,fun q=>(jr _ q).elim,(fun q=>by cases q),cL _⟩
 ·refine(get_eq _ _ _).trans ?_;unfold mV;rw[s];rfl
 ·rw[ahK];exact u.ar (cI a) x fun c f _ _=>ak _ _ jO
 ·rw[s];exact Own.nil _ _ _ _
end
end Go.Proofs.YtcehhgppfahbkaaGreatDoor
namespace Go.Proofs.YtcehhgppfahbkaaGreatDoor
open Go.RowKit Ev Cn
structure Pk where
 t:Nat
 count:Nat
 ord:List Nat
 aio:List Nat
section
variable {lf d n p q lo:Nat} {h:H} {S:List UInt8} {D A:Nat} {pv:Value} {s:Pk} {xE:Bool}
theorem ac3(z:Int):aa (fun _=>False) n (ah ad gt lf (d+1) 192 #[jI z]) h n fun a h' n'=>a= .bool (decide (2<=z)&&decide (z<=6))∧h'=h∧n'=n:=by
 rw[aF (fun _=>QH) rfl];refine aa.aD ?_;unfold Gz;by_cases c:2<=z
 ·exact jC @c
 ·exact jC @c
end
section
variable {lf d n p q lo:Nat} {h:H} {S:List UInt8} {D A:Nat} {pv:Value} {s:Pk} {xE:Bool}
def eM:List Nat:=[0,1,2,3,4,5]
theorem ac4(g:100<=lf):aa (fun _=>False) n (ah ad gt lf (d+1) 195 #[]) h n fun b h' n'=>b= .agg #[jI 0,jI 1,jI 2,jI 3,jI 4,jI 5]∧n'=n+2:=by
 rw[aF (fun _=>QM) rfl];refine aa.aD ?_;unfold Bo;refine fR wM _ ?_;refine fR wM _ ?_;obtain⟨j,c⟩:∃f,lf=f+7:=⟨lf-7,jO⟩
 have a:aa (fun _=>False) n (va lf (ah ad gt lf d) (j+7) (Bn lf (ah ad gt lf d)) (jP n 0) (jP (n+1) 0) (jI 0)) ((h.set n (some ⟨237,true,[jI 0,jI 0,jI 0,jI 0,jI 0,jI 0]⟩)).set (n+1) (some ⟨237,true,[jI 0,jI 0,jI 0,jI 0,jI 0,jI 0]⟩)) (n+2) fun b h' n'=>b= .agg #[jI 0,jI 1,jI 2,jI 3,jI 4,jI 5]∧n'=n+2:=by
  iterate 7
   rw[va];try simp(disch:=first|omega|assumption) only[Nat.reduceAdd,Nat.reduceLT,RZ,cw,cz,cA,cB,cC,cD,cE,cF,cG,cH,Int.reduceToNat,Nat.le_add_right,Nat.reduceLT]
  (try unfold Bn);(try dsimp only)
  refine zY trivial trivial (sz:=6) (n+1) 0 _ (get_eq _ _ _) jO jS ?_;refine qG (sz:=6) trivial (e:=237) (cs:=[jI 0,jI 0,jI 0,jI 0,jI 0,jI 0]) (vs:=[jI 0,jI 1,jI 2,jI 3,jI 4,jI 5]) rfl rfl rfl ?_ jO (ag _) (.inl (ag _)) _ fun l i k=> ?_
  ·try simp(disch:=first|omega|assumption) only[Nat.reduceAdd,Nat.reduceLT,RZ,cw,cz,cA,cB,cC,cD,cE,cF,cG,cH]
  refine zZ trivial trivial (sz:=6) _ _ _ i jO jS ?_;try simp(disch:=first|omega|assumption) only[Nat.reduceAdd,Nat.reduceLT,RZ,cw,cz,cA,cB,cC,cD,cE,cF,cG,cH]
  all_goals (first|trivial|rfl|exact⟨rfl,rfl,rfl⟩|exact⟨rfl,rfl⟩)
 rw[<-c]at a;exact a
theorem ac5{a:Type}{b:a}{O:List a}(d:O.length=6){i:Nat}(c:i<6):(dv b O i).length=6:=by unfold dv;simp;omega
theorem ac6(O:List Nat)(g:O.length=6){i:Nat}(h:i<6):dv undef (aR .i64 (iN O)) i=aR .i64 (iN (dv 0 O i)):=by obtain⟨a,b,c,d,e,f,rfl⟩:=tC g;rcases i with _|_|_|_|_|_|i<;>first|rfl|omega
end
structure Cd where
 size:Nat
 pk:Pk
 now:Nat
 lens:List Nat
 HB:List (List Nat)
 mf:List Nat
 count:Nat
 done:Bool
 xE:Int
structure Cm where
 q:Nat
 pv:Value
 tv:Value
 r:Nat
 lv:Value
 cv:Value
 pw:Bool
 dw:Bool
 iv:List (Nat×Nat×Nat)
theorem ac7{h:H}{a b:Nat}{A B:AB}(f:h.get a=some A)(c:h.get b=some B)(d:A.elem≠B.elem):a≠b:=fun e=>by subst e;rw[f]at c;cases c;exact d rfl
section
variable {h:H} {n z p:Nat} {c:Cd} {m:Cm}
end
section
variable {lf d n z p:Nat} {h:H} {S:List UInt8} {D A:Nat} {c:Cd} {m:Cm}
end
section
variable {lf d n z p:Nat} {h:H} {S:List UInt8} {D A:Nat} {c:Cd} {m:Cm}
end
def di(c:Cd)(a:List Bool):St (Nat×Cd):=
 if c.mf.length<=c.count/50 then .bad 25 else
 match SU (c.HB.getD (c.mf.getD (c.count/50) 0) []) a with
 |none=> .short
 |some s=> .ok (s,{c with count:=c.count+1,done:=decide (s+1=c.size)}) ((c.HB.getD (c.mf.getD (c.count/50) 0) []).getD s 0)
section
variable {lf d n z p:Nat} {h:H} {S:List UInt8} {D A:Nat} {c:Cd} {m:Cm}
end
section
variable {lf d n z p:Nat} {h:H} {S:List UInt8} {D A:Nat} {c:Cd} {m:Cm}
end
inductive Rs
 |err (e:Int)
 |ok (out:List Int) (a:Nat)
section
variable {lf d n z p:Nat} {h:H} {S:List UInt8} {D A:Nat} {c:Cd} {m:Cm}
end
def ch(b:Bool):UInt8:=if b=true then 49 else 48
def bsT(l:List Bool):List UInt8:=l.map ch
def tx(l:List Bool):Value:= .string ⟨(bsT l).toArray⟩
section
variable {lf d n:Nat} {h:H}
end
section
variable {lf d n:Nat} {h:H}
end
section
variable {lf d n:Nat} {h:H}
end
section
variable {lf d n:Nat} {h:H}
end
section
variable {lf d n:Nat} {h:H}
end
def ckV(ln:List Nat)(n i j:Nat):Value:=if ln.getD j 0<n∨(ln.getD j 0=n∧j<i)then tx (bQ (fB ln j) (ln.getD j 0))else tx []
def ck(ln:List Nat)(n i:Nat):List Value:=(aV ln.length).map (ckV ln n i)
section
variable {lf d n:Nat} {h:H}
end
section
variable {lf d n:Nat} {h:H}
end
section
variable {lf d n:Nat} {h:H}
end
section
variable {β:Type} {W:Nat->Prop} {n0:Nat} {h:H} {n m:Nat} {Q:β->H->Nat->Prop}
end
section
variable {lf d n:Nat} {h:H}
end
section
variable {lf d n:Nat} {h:H}
end
abbrev Ck:=List Int->Int->Option Int
def cT:Nat->List (List Nat)->List Nat->Nat->List Bool->Ck->List Int->Nat->Rs
 |0,_,_,_,_,_,_,_=> .err 3
 |N+1,b,mf,c,d,ck,out,a=>if mf.length<=out.length/50 then .err 25 else
  match SU (b.getD (mf.getD (out.length/50) 0) []) d with
  |none=> .err 3
  |some s=>match ck out (s:Int)with
   |some e=> .err e
   |none=>if s+1=c then .ok (out++[(s:Int)]) (a+(b.getD (mf.getD (out.length/50) 0) []).getD s 0)
    else cT N b mf c (d.drop ((b.getD (mf.getD (out.length/50) 0) []).getD s 0)) ck (out++[(s:Int)]) (a+(b.getD (mf.getD (out.length/50) 0) []).getD s 0)
def St.add{b:Type}(a:Nat):St b->St b
 | .short=> .short
 | .bad e=> .bad e
 | .ok x u=> .ok x (a+u)
def Rs.add(a:Nat):Rs->Rs
 | .err e=> .err e
 | .ok o u=> .ok o (a+u)
section
variable {lf d n z p:Nat} {h:H} {c:Cd} {m:Cm}
end
structure Sy (s:List Nat):Prop where
 inc:s.Pairwise (·<·)
 lt:∀x∈s,x<256
theorem Sy.len{s:List Nat}(h:Sy s):s.length<=256:=by have:=(List.nodup_iff_pairwise_ne.2 (h.inc.imp fun q=>Nat.ne_of_lt q)).length_le_of_subset (l₂:=aV 256) fun x a=>List.mem_range.2 (h.lt x a);simpa using this
structure Zr where
 n:Nat
 most:Nat
 told:Nat
 fy:Nat
 weight:Nat
 done:Bool
def fL:List Nat->List Nat->List Nat×List Nat
 |ord,[]=>([],ord)
 |ord,p::l=>(ord.getD p 0::(fL (dv 0 ord p) l).1,(fL (dv 0 ord p) l).2)
theorem Ty:∀(l k a:List Nat),fL a (l++k)=((fL a l).1++(fL (fL a l).2 k).1,(fL (fL a l).2 k).2)
 |[],k,a=>rfl
 |p::l,k,a=>by show(a.getD p 0::(fL (dv 0 a p) (l++k)).1,(fL (dv 0 a p) (l++k)).2)=_;rw[Ty l k];rfl
theorem xH{a:List Nat}{i:Nat}(h:i<a.length):(dv 0 a i).length=a.length:=by unfold dv;simp;omega
theorem ac8{a:List Nat}{i x:Nat}(h:i<a.length)(hx:x∈dv 0 a i):x∈a:=by
 unfold dv at hx;rcases List.mem_cons.1 hx with rfl|hx
 ·rw[au,aC h];exact cu _
 ·rcases List.mem_append.1 hx with q|q
  ·exact lG q
  ·exact ue q
structure Rw where
 cd:Cd
 z:Zr
 ord:List Nat
 due:Nat
 place:Nat
structure Bk where
 head:Bool
 sum:Nat
 xI:Nat
 row:Option Rw
 last:List Nat
 done:Bool
section
variable {lf d n:Nat} {h:H}
end
section
variable {lf d n y:Nat} {h:H} {z:Zr}
end
section
variable {β:Type} {W:Nat->Prop} {n0:Nat} {h:H} {n:Nat} {Q:β->H->Nat->Prop}
theorem ac9 {b off a f d t j:Nat} {e:TypeId} {cs:List Value} (o:h.get b=some ⟨e,true,cs⟩) (p:b<n) (r:cs.all one=true) (D:d<=f) (h2:0<d) (F:off+d<=cs.length) (E:a+d<=cs.length) (B:n0<=b∨W b) (k:Value->M β)
 (x:∀h',h'.get b=some ⟨e,true,cs.take off++(cs.drop a).take d++cs.drop (off+d)⟩->(∀c,c≠b->h'.get c=h.get c)->aa W n0 (k (jI (d:Int))) h' n Q):aa W n0 (zF 1 (.slice (some ⟨b,off,none⟩) f t) (.slice (some ⟨b,a,none⟩) d j) k) h n Q:=by
 obtain⟨u,O,N⟩:=nI o p d a E;have i:((cs.drop a).take d).length=d:=by simp;omega
 have l:((cs.drop a).take d).all one=true:=by rw[kz]at r⊢;exact fun v C=>r v (ue (lG C))
 obtain⟨h',P,J,s,I,G⟩:=E4 _ b off e cs h n o p (by rw[i];exact F) l;rw[i]at s;refine gx (m:=rV 1 _ _) ?_;have z:Nat.min d f=d:=p9 D
 have L:rV 1 (.slice (some ⟨b,off,none⟩) f t) (.slice (some ⟨b,a,none⟩) d j) h n=some ⟨jI (d:Int),h',n,u++(P++[])⟩:=by
  show(if 0<Nat.min d f then(qv 1 (Nat.min d f) (.slice (some ⟨b,a,none⟩) d j)).bind (fun w=>(mD b off w).bind fun _=>M.ret (jI (Nat.min d f)))else M.ret (jI 0)) h n=_;rw[z,if_pos h2]
  have K:qv 1 d (.slice (some ⟨b,a,none⟩) d j) h n=some ⟨(cs.drop a).take d,h,n,u⟩:=by rw[qw];show cc b a (d*1) h n=_;rw[Nat.mul_one];exact O
  exact bz K (by rw[wi];exact bz J rfl)
 refine aa.step (hH L) (ag _) (fun y A g=> ?_) (x h' s I);have:=(List.mem_filter.1 A).1;rw[bV]at this;rcases List.mem_append.1 this with q|q
 ·rw[N y q]at g;cases g
 ·rw[G y q];exact B
theorem ac'{c g f d:Nat}{a b:Option Addr}(h2:g=0)(k:Value->M β)(x:aa W n0 (k (jI 0)) h n Q):aa W n0 (zF 1 (.slice a c f) (.slice b g d) k) h n Q:=by
 subst h2
 have e:rV 1 (.slice a c f) (.slice b 0 d)=M.ret (jI 0):=by
  have i:¬0<Nat.min 0 c:=by have:Nat.min 0 c=0:=ahK c;omega
  simp only[rV,fx,i,if_false]
 show aa W n0 (dy (rV 1 (.slice a c f) (.slice b 0 d)) k) h n Q;rw[e,j3,Yz];exact x
theorem ac_{e:TypeId}(l:List UInt8)(a:l.length<=1099511627776)(k:Value->M β)(x:aa W n0 (k (.slice (some ⟨n,0,none⟩) l.length (aL+l.length))) (h.set n (some ⟨e,true,l.map fun b=>iz .u8 (b.toNat:Int)⟩)) (n+1) Q):aa W n0 (uF e (.string ⟨l.toArray⟩) k) h n Q:=by
 have c:uF e (.string ⟨l.toArray⟩) k=dy ((hZ e (l.map fun(b:UInt8)=>iz .u8 (b.toNat:Int))).bind fun id=>M.ret (fN (some ⟨id,0,none⟩) l.length (aL+l.length))) k:=by
  show(match Nat.ble (gN l) 1099511627776 with
   |true=>dy ((hZ e (l.map fun(b:UInt8)=>iz .u8 (.ofNat b.toNat))).bind fun id=>M.ret (fN (some ⟨id,0,none⟩) (gN l) (aL+gN l))) k
   |false=> .fail)=_
  rw[nD,Nat.ble_eq_true_of_le a];rfl
 rw[c];exact gx (pd (nH _ _ (fun id=>fN (some ⟨id,0,none⟩) l.length (aL+l.length)) _ _) (cI n) x)
end
structure nZ (h:H) (n l:Nat) (v:Value) (ord:List Nat):Prop where
 get:h.get l=some ⟨211,true,[v]⟩
 lt:l<n
 own:Own h 0 n 5 v (bJ ord)
theorem nZ.ar{h h':H}{n n' l:Nat}{v:Value}{a:List Nat}(x:nZ h n l v a)(d:n<=n')(e:h'.get l=h.get l)(c:∀b,aq v b->h'.get b=h.get b):nZ h' n' l v a:=⟨e.trans x.get,dC x.lt d,x.own.ar d c⟩
theorem ada{a:List Nat}{i:Nat}(h:i<a.length):(bJ a)[i]? =some (.int .u8 ((a.getD i 0:Nat):Int)):=by unfold bJ;rw[fw,aC h,au,aC h];rfl
theorem Tz(a:List Nat):(bJ a).all one=true:=by rw[kz];intro v b;obtain⟨x,_,rfl⟩:=List.mem_map.1 b;rfl
theorem adb{a:List Nat}{i:Nat}(h:i<a.length):((bJ a).take 1++((bJ a).drop 0).take i++(bJ a).drop (1+i)).set 0 (.int .u8 ((a.getD i 0:Nat):Int))=bJ (dv 0 a i):=by
 obtain⟨x,o,rfl⟩:∃x o,a=x::o:=by
  cases a with
  |nil=>simp at h
  |cons x o=>exact⟨x,o,rfl⟩
 unfold dv bJ;simp only[Nat.add_comm 1 i,lE,gZ,List.map_take,List.map_drop,dj];rfl
section
variable {lf d n l:Nat} {h:H} {v:Value} {ord:List Nat}
theorem ade(x:nZ h n l v ord){i:Nat}(y:i<ord.length)(z:ord.length<=1000):aa (fun b=>aq v b) n (ah ad gt lf (d+1) 159 #[jP l 0,jI (i:Int)]) h n fun s h' n'=>s= .int .u8 ((ord.getD i 0:Nat):Int)∧n'=n∧nZ h' n' l v (dv 0 ord i):=by
 have g:=x.get;have F:=x.lt
 obtain⟨o,rfl,j,_,q⟩:∃o,v= .slice (some ⟨o,0,none⟩) ord.length (aL+ord.length)∧h.get o=some ⟨5,true,bJ ord⟩∧0<=o∧o<n:=by
  rcases x.own with ⟨_,e⟩|⟨o,A,a,I,G⟩
  ·have:ord.length=0:=by rw[<-gy ord,e];rfl
   omega
  ·rw[gy]at A;exact⟨o,A,a,I,G⟩
 have k:l≠o:=ac7 g j (by decide:(211:Nat)≠5);have m:aq (.slice (some ⟨o,0,none⟩) ord.length (aL+ord.length)) o:=⟨_,_,_,rfl⟩;have t:=gy ord;have K:=ada y;have C:IntKind.i64.wrap ((i:Int)+1)=((i+1:Nat):Int):=by rw[aO jO jO];rfl
 have cap:aL=1152921504606846976:=rfl;rw[aF (fun _=>PR) rfl];refine aa.aD ?_;unfold Ga;have ii:(i:Int)<((ord.length:Nat):Int):=jO;have E:(0:Int)<((ord.length:Nat):Int):=jO;refine jA (aI @g (aI @j (aI @K (aI @ii @C)))) ?_;refine uP trivial j rfl q 0 ord.length (aL+ord.length) (some (jI 1)) (some (jI ((i+1:Nat):Int))) (l:=1) (hh:=i+1) (pe .i64 1 0) (pe .i64 (i+1) _) jO jO jO _ trivial ?_;refine jA @g ?_;refine uP trivial j rfl q 0 ord.length (aL+ord.length) none (some (jI (i:Int))) (l:=0) (hh:=i) (wB 0) (pe .i64 i _) jO jO jO _ trivial ?_;rw[if_neg jO,if_neg jO]
 have p:∀a,a.get o=some ⟨5,true,(bJ ord).take 1++((bJ ord).drop 0).take i++(bJ ord).drop (1+i)⟩->(∀c,c≠o->a.get c=h.get c)->
  aa (fun b=>aq (.slice (some ⟨o,0,none⟩) ord.length (aL+ord.length)) b) n (ai (jP l 0) fun c=>aQ 0 c fun d=>aG d fun e=>aM e (jI 0) fun f=>aK f (.int .u8 ((ord.getD i 0:Nat):Int)) fun _=>ae [.int .u8 ((ord.getD i 0:Nat):Int)]) a n fun s h' n'=>s= .int .u8 ((ord.getD i 0:Nat):Int)∧n'=n∧nZ h' n' l (.slice (some ⟨o,0,none⟩) ord.length (aL+ord.length)) (dv 0 ord i):=fun a r u=>by
  have B:=(u l k).trans g;have w:0<((bJ ord).take 1++((bJ ord).drop 0).take i++(bJ ord).drop (1+i)).length:=by simp[t];omega
  refine jA (aI @B (aI @E (aI @r (aI @m @w)))) ?_;refine⟨(ak _ _ k).trans B,F, ?_⟩;have D:=xH y;refine .inr ⟨o,by rw[gy,D], ?_,cL _,q⟩;rw[get_eq,adb y]
 by_cases J:i=0
 ·refine ac' jO _ ?_;refine p h ?_ fun _ _=>rfl;rw[j];subst J;congr 2;rw[List.take_zero,bV,iA,List.take_append_drop]
 ·refine ac9 j q (Tz _) jO jO (by rw[t];omega) (by rw[t];omega) (.inr m) _ fun a r u=> ?_;rw[Nat.sub_zero]at r;exact p a r u
theorem TA{s:List Nat}(k:Sy s)(y:s≠[])(w:300<=lf):aa (fun _=>False) n (ah ad gt lf (d+1) 134 #[.string ⟨(bS s).toArray⟩]) h n fun u h' n'=>u= .bool true∧h'=h∧n'=n:=by
 have D:=k.len;have m:(bS s).length=s.length:=by unfold bS;simp
 rw[aF (fun _=>Px) rfl];refine aa.aD ?_;unfold AZ;refine jB ?_;rw[m]
 refine dP s.length (fun g i (q:Unit)=>qM lf (ah ad gt lf d) g (AY lf (ah ad gt lf d)) (.string ⟨(bS s).toArray⟩) (.bool false) (jI ((s.length:Nat):Int)) (jI (i:Int)))
  (fun i q h' n'=>h'=h∧n'=n) ?_ ?_ lf 0 () h n (cL _) jO ⟨rfl,rfl⟩
 ·rintro g q h' n' ⟨rfl,rfl⟩;rw[qM];refine jA @cb ?_
  (try unfold AY);(try dsimp only)
  have e:decide ((bS s)=([]:List UInt8))=false:=decide_eq_false fun e=>y (by
   rw[e]at m
   exact List.length_eq_zero_iff.1 m.symm)
  exact jC @e
 ·rintro g i q h' n' b ⟨rfl,rfl⟩ next;have r:(i:Int)<((s.length:Nat):Int):=jO;have p:IntKind.i64.wrap ((i:Int)+1)=((i+1:Nat):Int):=by rw[aO jO jO];rfl
  have o:(i:Int)+1=((i+1:Nat):Int):=rfl;rw[qM];by_cases x:i=0
  ·have l:¬((0:Int)<(i:Int)):=jO;refine jA (aI @r (aI @l (aI @p @o))) ?_;exact next () _ _ ⟨rfl,rfl⟩
  ·have l:(0:Int)<(i:Int):=jO;have t:IntKind.i64.wrap ((i:Int)-1)=((i-1:Nat):Int):=by rw[aO jO jO];omega
   have C:(0:Int)<=((i-1:Nat):Int):=jO;have B:((i-1:Nat):Int)<(((bS s).length:Nat):Int):=jO;have A:(i:Int)<(((bS s).length:Nat):Int):=jO
   have at_:∀j,j<s.length->(((bS s).getD j 0).toNat:Int)=((s.getD j 0:Nat):Int)∧s.getD j 0<256:=fun j a=>by
    have f:s.getD j 0=s[j]:=by rw[au,aC a];rfl
    have c:=k.lt s[j] (cu a);rw[f];unfold bS;rw[au,fw,aC a];show((dZ s[j]).toNat:Int)=_∧_;rw[Dh,kB jO];exact⟨rfl,c⟩
   have i1:=(at_ i b).1;have v:=(at_ (i-1) jO).1
   have lt:s.getD (i-1) 0<s.getD i 0:=by
    have f:s.getD i 0=s[i]:=by rw[au,aC b];rfl
    have c:s.getD (i-1) 0=s[i-1]:=by rw[au,aC jO];rfl
    rw[f,c];exact List.pairwise_iff_getElem.1 k.inc (i-1) i jO b jO
   have z:¬(((s.getD i 0:Nat):Int)<=((s.getD (i-1) 0:Nat):Int)):=jO;refine jA (aI @r (aI @l (aI @t (aI @C (aI @B (aI @A (aI @i1 (aI @v (aI @z (aI @p @o)))))))))) ?_;exact next () _ _ ⟨rfl,rfl⟩
theorem adf{s:List Nat}(k:Sy s)(g:s≠[])(a:300<=lf):aa (fun _=>False) n (ah ad gt lf (d+2) 126 #[.string ⟨(bS s).toArray⟩]) h n fun c h' n'=>c= .tuple #[jP (n+1) 0,jI 0]∧n'=n+2∧∃o,nZ h' n' (n+1) o s∧∀b,aq o b->b=n:=by
 have j:=k.len;have i:(bS s).length=s.length:=by unfold bS;simp
 rw[aF (fun _=>Pb) rfl];refine aa.aD ?_;unfold F1;refine bU (TA (d:=d) k g a) (ag _) (fun _ _ h=>h.elim) ?_;refine jA @fY ?_;refine ac_ _ jO _ ?_;refine jB ?_;refine lX trivial _ _ ?_;refine jB ?_;refine⟨_,⟨get_eq _ _ _,jO, ?_⟩,fun b f=>f.inj⟩;refine .inr ⟨n,by rw[i,gy], ?_,cL _,jO⟩;rw[ak _ _ jO,get_eq];congr 2;unfold bS bJ;rw[mq];refine ni fun x e=> ?_;have:=k.lt x e;show iz .u8 ((dZ x).toNat:Int)=_;rw[Dh,kB jO]
end
section
variable {β:Type} {W:Nat->Prop} {n0:Nat} {h:H} {n:Nat} {Q:β->H->Nat->Prop}
theorem adg{lo:Nat}{e:TypeId}{v:Value}{ws:List Nat}(o:Own h lo n e v (bJ ws)):∃L,kQ v M.ret h n=some ⟨.string ⟨(bS ws).toArray⟩,h,n,L⟩∧∀x∈L,x.wr=false∧aq v x.b:=by
 rcases o with ⟨rfl,m⟩|⟨b,rfl,f,_,g⟩
 ·have:ws=[]:=by
   cases ws with
   |nil=>rfl
   |cons x l=>simp[bJ]at m
  subst this;exact⟨[],rfl,jS⟩
 ·obtain⟨L,k,a⟩:=LU f g (bJ ws).length 0 (by show 0+(bJ ws).length<=(bJ ws).length;omega);have j:((bJ ws).drop 0).take (bJ ws).length=bJ ws:=by rw[dj,fi]
  have i:((gn b 0 (bJ ws).length).bind fun c=>match j2 c with
   |some l=>M.ret (bM ⟨⟨l⟩⟩)
   |none=> .fail) h n=some ⟨.string ⟨(bS ws).toArray⟩,h,n,L++[]⟩:=by
   rw[mE];refine bz k ?_
   show(match j2 (((bJ ws).drop 0).take (bJ ws).length)with
    |some l=>M.ret (bM ⟨⟨l⟩⟩)
    |none=>M.fail) h n=_
   rw[j,E6];rfl
  refine⟨_,wC i,fun x d=> ?_⟩;have:=(List.mem_filter.1 d).1;rw[bV]at this;exact⟨(a x this).1,_,_,_,by rw[(a x this).2]⟩
theorem adh{lo m:Nat}{e:TypeId}{v:Value}{ws:List Nat}(o:Own h lo m e v (bJ ws))(d:m<=n)(k:Value×Tk->M β)(y:∀T,RB T m->aa W n0 (k (.string ⟨(bS ws).toArray⟩,T)) h n Q):aa W n0 ((bk (kQ v M.ret)).bind k) h n Q:=by obtain⟨L,f,b⟩:=adg (o.ar d fun _ _=>rfl);exact r3 f (ag _) (fun x a c=>by rw[(b x a).1]at c;cases c) (y _ ⟨fun x a=>(b x a).1,fun x a=>(o.lt (b x a).2).2,d⟩)
end
structure Bm where
 b:Nat
 lv:Value
 x:Nat
 z:Nat
 m:Cm
 y:Nat
 l:Nat
 ov:Value
section
variable {lf d n p room:Nat} {h:H} {S:List UInt8} {D A:Nat} {L:Nat->Nat} {k:Bk} {m:Bm} {xE:Int}
end
section
variable {lf d n p:Nat} {h:H} {S:List UInt8} {D A:Nat}
end
section
variable {lf d n p room:Nat} {h:H} {S:List UInt8} {D A:Nat} {L:Nat->Nat} {k:Bk} {m:Bm} {r:Rw}
end
section
variable {lf d n p room:Nat} {h:H} {S:List UInt8} {D A:Nat} {L:Nat->Nat} {k:Bk} {m:Bm} {r:Rw}
end
section
variable {lf d n p room:Nat} {h:H} {S:List UInt8} {D A:Nat} {L:Nat->Nat} {k:Bk} {m:Bm} {r:Rw}
end
section
variable {lf d n p room:Nat} {h:H} {S:List UInt8} {D A:Nat} {L:Nat->Nat} {k:Bk} {m:Bm} {r:Rw}
end
end Go.Proofs.YtcehhgppfahbkaaGreatDoor
namespace Go.Proofs.YtcehhgppfahbkaaGreatDoor
open Go
theorem S1{x k:Nat}:IntKind.u32.wrap ((x:Int)*2^k)=((x*2^k %4294967296:Nat):Int):=by
 have a:(x:Int)*2^k=((x*2^k:Nat):Int):=by push_cast;rfl
 rw[a,IntKind.wrap_u32'];rfl
theorem TB{a:Nat}(h:a<4294967296):(cR 32 (a:Int)).toNat=a:=by rw[agO,agP];exact kB jO
theorem xJ{a b:Nat}(d:a<4294967296)(c:b<4294967296):a^^^b<4294967296:=Nat.xor_lt_two_pow (n:=32) d c
theorem Ce{a b:Nat}(d:a<4294967296)(c:b<4294967296):IntKind.u32.wrap ((cR IntKind.u32.bits (a:Int)^^^cR IntKind.u32.bits (b:Int)).toNat:Int)=((a^^^b:Nat):Int):=by show IntKind.u32.wrap ((cR 32 (a:Int)^^^cR 32 (b:Int)).toNat:Int)=_;rw[BitVec.toNat_xor,TB d,TB c];exact kg (xJ d c)
def ji(x:Nat):Nat:=(x*2^1 %4294967296)^^^(x/2^31*79764919 %4294967296)
theorem adi(x:Nat):ji x<4294967296:=xJ (lH _ jD) (lH _ jD)
def iQ:Nat->Nat->Nat
 |0,x=>x
 |i+1,x=>ji (iQ i x)
theorem Cf:∀(i x:Nat),x<4294967296->iQ i x<4294967296
 |0,_,h=>h
 |i+1,_,_=>adi _
def HC(b:Nat):Nat:=iQ 8 (b*2^24 %4294967296)
theorem adj(b:Nat):HC b<4294967296:=Cf _ _ (lH _ jD)
end Go.Proofs.YtcehhgppfahbkaaGreatDoor
namespace Go.Proofs.YtcehhgppfahbkaaGreatDoor
open Go.RowKit Ev Cn
structure Gt where
 last:List Nat
 xI:Nat
 sum:Nat
def lr(t b:Nat):Nat:=((t*2^1 %4294967296)^^^(t/2^31))^^^b
structure Us where
 due:Nat
 at_:Nat
 level:Nat
 cM:Option Bk
 got:Gt
 total:Nat
 ended:Bool
def q9:Nat:=54156738319193
structure Um where
 a:Nat
 bm:Bm
section
variable {lf d n p Z:Nat} {h:H} {S:List UInt8} {D A:Nat} {L:Nat->Nat} {u:Us} {m:Um} {xE:Int}
theorem adk(a b:Nat)(p:a<4294967296)(o:b<4294967296):aa (fun _=>False) n (ah ad gt lf (d+1) 63 #[.int .u32 (a:Int),.int .u32 (b:Int)]) h n fun v h' n'=>v= .int .u32 ((lr a b:Nat):Int)∧h'=h∧n'=n:=by
 rw[aF (fun _=>N4) rfl];refine aa.aD ?_;unfold FI lr;have f:(0:Int)<=1:=jD;have z31:(0:Int)<=31:=jD;have m:min ((1:Int)).toNat (vR).bits=1:=jD;have l:min ((31:Int)).toNat (vR).bits=31:=jD;have k:IntKind.u32.wrap ((a:Int)*2^(min ((1:Int)).toNat (vR).bits))=((a*2^1 %4294967296:Nat):Int):=by rw[m];exact _root_.Go.Proofs.YtcehhgppfahbkaaGreatDoor.S1
 have j:((a:Int)).fdiv (2^(min ((31:Int)).toNat (vR).bits))=((a/2^31:Nat):Int):=fdiv_pow a 31 (vR).bits jD;have e:a*2^1 %4294967296<4294967296:=lH _ jD;have c:a/2^31<4294967296:=Nat.lt_of_le_of_lt (Nat.div_le_self _ _) p;have i:=Ce e c;have g:=Ce (xJ e c) o;exact jC (aI @f (aI @z31 (aI @k (aI @j (aI @i @g)))))
end
section
variable {lf d n p Z room:Nat} {h:H} {S:List UInt8} {D A:Nat} {L:Nat->Nat} {u:Us} {m:Um} {k:Bk} {bm:Bm}
end
section
variable {lf d n p Z room:Nat} {h:H} {S:List UInt8} {D A:Nat} {L:Nat->Nat} {u:Us} {m:Um} {k:Bk} {bm:Bm}
end
section
variable {lf d n p Z room:Nat} {h:H} {S:List UInt8} {D A:Nat} {L:Nat->Nat} {u:Us} {m:Um} {k:Bk} {bm:Bm}
end
section
variable {lf d n p Z room:Nat} {h:H} {S:List UInt8} {D A:Nat} {L:Nat->Nat} {u:Us} {m:Um}
end
def By(l:List Nat):Prop:=∀x∈l,x<256
theorem By.at{l:List Nat}(k:By l){i:Nat}(h:i<l.length):l.getD i 0<256:=by rw[au,aC h];exact k _ (cu _)
theorem oc(l:List Nat):(bS l).length=l.length:=by unfold bS;simp
theorem Cg{l:List Nat}(k:By l){i:Nat}(h:i<l.length):((bS l).getD i 0).toNat=l.getD i 0:=by have:=k.at h;unfold bS;rw[au,fw,aC h,au,aC h]at*;show(dZ l[i]).toNat=l[i];rw[Dh];exact kB this
def xK(l:List Nat)(s:Nat):Nat->Nat:=fun b=>if s<l.length then gW l b s else if s<=2*l.length then bX l b+gW l b (s-l.length)else bX l b+cn l b
theorem To{l:List Nat}{s:Nat}(h:s+1<l.length):ld (xK l s) (l.getD s 0) (xK l s (l.getD s 0)+1)=xK l (s+1):=by
 have a:∀b,xK l s b=gW l b s:=fun b=>if_pos jO;have c:∀b,xK l (s+1) b=gW l b (s+1):=fun b=>if_pos h;funext b;unfold ld;rw[a,a,c,B6 jO];by_cases e:b=l.getD s 0
 ·rw[if_pos e,e,if_pos rfl]
 ·rw[if_neg e,if_neg (Ne.symm e),iA]
section
variable {sv lv av ov st w:Value} {f:Nat->Nat}
end
section
variable {lf d n a lb org s:Nat} {h:H} {l out:List Nat} {ov:Value}
end
section
variable {lf d n a lb org s:Nat} {h:H} {l out:List Nat} {ov:Value}
end
section
variable {lf d n lo q:Nat} {h:H} {out:List Nat}
end
def tD(s b:Nat):Nat:=(s*2^8 %4294967296)^^^HC ((s/2^24)^^^b)
theorem adl(s b:Nat):tD s b<4294967296:=xJ (lH _ jD) (adj _)
def od(l:List Nat):Nat:=l.foldl tD 4294967295
theorem TC(l:List Nat):od l<4294967296:=by
 unfold od
 have:∀(l:List Nat) (s:Nat),s<4294967296->l.foldl tD s<4294967296:=by
  intro l
  induction l with
  |nil=>intro s h;exact h
  |cons x l a=>intro s h;exact a _ (adl _ _)
 exact this l _ jD
def pK(l:List Nat):Nat:=4294967295-od l
section
variable {lf d n a s:Nat} {h:H}
end
section
variable {lf d n:Nat} {h:H}
end
end Go.Proofs.YtcehhgppfahbkaaGreatDoor
namespace Go.Proofs.YtcehhgppfahbkaaGreatDoor.Ip
open Go
structure Pt where
 what:Int
 level:Int
 xI:Int
 vp:Int
 sum:Int
 TD:Int
 last:Int
 len:Int
def iy(l:List Nat):Value:= .string ⟨(l.map dZ).toArray⟩
def tE(n:Int):Bool:=decide (-9223372036854775808<=n)&&decide (n<=9223372036854775807)
def Pt.ok(p:Pt):Bool:=tE p.what&&tE p.level&&tE p.xI&&tE p.vp&&decide (0<=p.sum)&&decide (p.sum<4294967296)&&tE p.TD&&tE p.last&&tE p.len
def Pt.cells(p:Pt):List Value:=[jI p.what,jI p.level,jI p.xI,jI p.vp,.int .u32 p.sum,jI p.TD,jI p.last,jI p.len]
end Go.Proofs.YtcehhgppfahbkaaGreatDoor.Ip
namespace Go.Proofs.YtcehhgppfahbkaaGreatDoor
open Go.RowKit Ev Cn Ip
structure Is where
 u:Us
 A:Nat
 ps:List Pt
 next:Nat
 total:Nat
def Is.add(s:Is)(p:Pt)(vp:Nat):Is:={s with ps:=s.ps++[{p with xI:=s.next,vp:=vp}],next:=vp}
section
variable {lf d n rp p Z:Nat} {h:H} {S:List UInt8} {L:Nat->Nat} {s:Is} {m:Um} {pv:Value}
end
def Is.fresh(s:Is):Bool:=match s.ps.getLast? with
 |none=>true
 |some q=>decide (q.what=3)
section
variable {lf d n rp p Z:Nat} {h:H} {S:List UInt8} {L:Nat->Nat} {s:Is} {m:Um} {pv:Value}
end
section
variable {lf d n rp p Z:Nat} {h:H} {S:List UInt8} {L:Nat->Nat} {s:Is} {m:Um} {pv:Value}
end
def Is.mf(s:Is)(u:Us)(w:Nat):Is:={s with u:=u,A:=s.A+w}
section
variable {lf d n rp p Z:Nat} {h:H} {S:List UInt8} {L:Nat->Nat} {s:Is} {m:Um} {pv:Value}
end
section
variable {lf d n rp p Z:Nat} {h:H} {S:List UInt8} {L:Nat->Nat} {s:Is} {m:Um} {pv:Value}
end
section
variable {s:List Nat} {room:Nat}
end
end Go.Proofs.YtcehhgppfahbkaaGreatDoor
