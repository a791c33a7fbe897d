import Derived.Test.YtcehhgppfahbkaaGreatDoorMaf
import Derived.WalkKit
open Nat renaming le_refl→ai, zero_le→bU, le_succ→cH, lt_succ_self→dK, lt_of_lt_of_le→eD, zero_add→fy, add_mul→fW, add_zero→gX, sub_self→j8, pow_succ→lH, mod_eq_of_lt→lJ, mul_comm→mz, not_lt_zero→lL, pow_le_pow_right→oD, min_eq_left→r8, one_mul→r7, lt_irrefl→sa, add_comm→xt, mul_one→xu, mul_assoc→zE, mul_zero→OH, lt_trichotomy→aqG, pow_add→aqN, pow_zero→aqT, mod_two_eq_zero_or_one→aq4
open List renaming getD_eq_getElem?_getD→aC, length_append→aG, getElem?_eq_getElem→aJ, range→aY, replicate→bD, append_assoc→bW, getElem_mem→cb, length_cons→ct, append_nil→cz, length_map→cu, length_take→cB, drop_zero→dx, map_append→dU, take_length→eh, length_drop→fp, take_succ_eq_append_getElem→fq, getElem?_map→fo, take_of_length_le→fG, mem_cons_of_mem→fF, map_cons→je, length_replicate→jQ, mem_of_mem_take→j4, mem_cons_self→j6, length_range→j7, range_succ→mv, map_congr_left→mq, all_eq_true→mu, ext_getElem→mw, drop_length→my, take_zero→nE, getElem_map→nG, getElem?_append_left→nB, getElem?_append_right→oC, map_map→qA, length_set→qC, range'→rZ, pairwise_cons→r9, drop_eq_getElem_cons→uv, mem_of_mem_drop→zA, getElem_range→xw, map_drop→xx, map_replicate→zB, map_take→zC, set_cons_succ→Cs, mem_range→Cy, replicate_succ→HE, countP_cons→HF, flatten_cons→HG, getElem_set→HD, set_append_right→HA, filter_cons→aqf, cons_append→adq, replicate_succ'→aqw, countP_append→adw, countP_nil→aj5, nodup_cons→aqV, getElem?_replicate→aqZ, set_append_left→aq2, countP_le_length→ak0
open Go.Value renaming string→aZ, slice→fZ, int→gW
open Int renaming lt_irrefl→bE, reduceBEq→cZ, reduceBNe→da, reduceLT→db, reduceLE→dc, reduceEq→de, reduceNe→dg, reduceAdd→dh, reduceSub→di, reduceMul→dj, reduceNeg→dk, toNat_natCast→eg, mul_le_mul_of_nonneg_right→ade, le_refl→aqD, one_mul→OE, pow_succ→aqJ, mul_assoc→aqW, mul_comm→aqX, pow_nonneg→aqY, pow_add→aq0, add_mul→adu, tdiv_eq_ediv_of_nonneg→aq1
open BitVec renaming ofInt→dR
open UInt8 renaming ofNat→dT, toNat_ofNat'→Cx
open Bool renaming not_true→gE, not_false→gO, xor_false→OI, xor_true→OJ
open Go.IntKind renaming u32→uA
open Option renaming getD_some→xo
open Decidable renaming byContradiction→zF
open List.cons renaming injEq→aq3
open List.Sublist renaming countP_le→arX
set_option linter.unusedVariables false
set_option linter.unusedSimpArgs false
namespace Go.Proofs.YtcehhgppfahbkaaGreatDoor.Cn
open Go
theorem yG:∀(l:List Bool) (a:Nat),num l a=a*2^l.length+num l 0
 |[],a=>by simp[num]
 |b::l,a=>by
  show num l (2*a+bn b)=_;have c:num (b::l) 0=num l (bn b):=by show num l (2*0+bn b)=_;rw[OH,fy]
  rw[yG l (2*a+bn b),c,yG l (bn b),ct,lH,fW,mz 2 a,zE,mz 2];omega
theorem ajP(l:List Bool)(b:Bool):num (l++[b]) 0=2*num l 0+bn b:=by rw[yE];rfl
theorem Zj(k:Nat):num (bD k false) 0=0:=by
 induction k with
 |zero=>rfl
 |succ k a=>rw[HE];exact a
theorem ajQ(l:List Bool)(k:Nat):num (l++bD k false) 0=num l 0*2^k:=by rw[yE,yG,Zj,jQ,gX]
theorem ajR{a b:Bool}(h:bn a=bn b):a=b:=by cases a<;>cases b<;>simp[bn]at h<;>rfl
theorem Zk:∀{l m:List Bool},l.length=m.length->num l 0=num m 0->l=m
 |[],[],_,_=>rfl
 |[],_::_,h,_=>by simp at h
 |_::_,[],h,_=>by simp at h
 |a::l,b::m,h,e=>by
  have f:l.length=m.length:=by simpa using h
  have e:num l (bn a)=num m (bn b):=by
   have d:num (a::l) 0=num l (bn a):=by show num l (2*0+bn a)=_;rw[OH,fy]
   have c:num (b::m) 0=num m (bn b):=by show num m (2*0+bn b)=_;rw[OH,fy]
   rw[<-d,<-c];exact e
  rw[yG l,yG m,f]at e;have i:=yF l;have j:=yF m;rw[f]at i
  have g:bn a=bn b:=by
   have n:=wS a;have k:=wS b;rcases aqG (bn a) (bn b)with q|q|q
   ·have d:bn a=0:=jO;have c:bn b=1:=jO;rw[d,c]at e;omega
   ·exact q
   ·have d:bn b=0:=jO;have c:bn a=1:=jO;rw[d,c]at e;omega
  rw[g]at e;rw[ajR g,Zk f jO]
theorem Mr{l:List Bool}{v:Nat}(h:num l 0=v):l=bh v l.length:=by refine Zk (cA _ _).symm ?_;rw[Mn,<-h,lJ (yF l)]
theorem Zl{n v:Nat}(h:v<2^n):num (bh v n) 0=v:=by rw[Mn,lJ h]
def cn(ln:List Nat)(n:Nat):Nat:=ln.countP fun x=>x==n
def ig(ln:List Nat)(n i:Nat):Nat:=cn (ln.take i) n
theorem Gb{ln:List Nat}{i:Nat}(h:i<ln.length)(n:Nat):ig ln n (i+1)=ig ln n i+(if ln.getD i 0=n then 1 else 0):=by unfold ig cn;rw[fq h,adw,aC,aJ h];simp only[HF,aj5,xo,beq_iff_eq,fy]
theorem Bt(ln:List Nat)(n:Nat):ig ln n ln.length=cn ln n:=by unfold ig;rw[eh]
theorem Zm(ln:List Nat)(n i:Nat):ig ln n i<=cn ln n:=by unfold ig cn;exact arX (List.take_sublist _ _)
theorem ajS{ln:List Nat}{i:Nat}(h:i<ln.length):ig ln (ln.getD i 0) i<cn ln (ln.getD i 0):=by have a:=Gb h (ln.getD i 0);rw[if_pos rfl]at a;have:=Zm ln (ln.getD i 0) (i+1);omega
def dZ(ln:List Nat):Nat->Nat
 |0=>0
 |n+1=>2*(dZ ln n+cn ln n)
def cN(ln:List Nat):Nat->Nat
 |0=>0
 |n+1=>cN ln n+cn ln n
def eZ(ln:List Nat)(i:Nat):Nat:=dZ ln (ln.getD i 0)+ig ln (ln.getD i 0) i
def jv(ln:List Nat):Nat->Nat
 |0=>0
 |n+1=>jv ln n+cn ln n*2^(20-n)
theorem Zn(ln:List Nat):∀{n:Nat},n<=20->dZ ln n*2^(20-n)=jv ln n
 |0,_=>by simp[dZ,jv]
 |n+1,h=>by have a:=Zn ln (n:=n) jO;have e:20-n=20-(n+1)+1:=jO;unfold dZ jv;rw[<-a,e,lH];simp only[mz 2,fW,zE]
theorem Zo(ln:List Nat):∀{n m:Nat},n<=m->jv ln n<=jv ln m
 |n,0,h=>by have:n=0:=jO
            subst this;exact ai _
 |n,m+1,h=>by
  by_cases e:n=m+1
  ·subst e;exact ai _
  ·have:=Zo ln (n:=n) (m:=m) jO;show jv ln n<=jv ln m+cn ln m*2^(20-m);omega
structure Wh (ln:List Nat):Prop where
 lo:∀x∈ln,1<=x∧x<=20
 kr:jv ln 21=1048576
section
variable {ln:List Nat} (w:Wh ln)
include w
theorem Wh.at{i:Nat}(h:i<ln.length):1<=ln.getD i 0∧ln.getD i 0<=20:=by rw[aC,aJ h];exact w.lo _ (cb h)
theorem Wh.cap{n:Nat}(h:n<=20):dZ ln n+cn ln n<=2^n:=by
 have d:=Zn ln h;have a:=Zo ln (show n+1<=21 by omega);rw[w.kr]at a;have c:jv ln (n+1)=jv ln n+cn ln n*2^(20-n):=rfl;rw[c,<-d,<-fW]at a;have b:2^n*2^(20-n)=1048576:=by rw[<-aqN,show n+(20-n)=20 by omega]
 rw[<-b]at a;exact Nat.le_of_mul_le_mul_right a (Nat.two_pow_pos _)
theorem Wh.Ms{i:Nat}(h:i<ln.length):eZ ln i<2^ln.getD i 0:=by have b:=w.cap (w.at h).2;have a:=ajS h;unfold eZ;omega
end
def Zp(ln:List Nat)(a:List Bool):Option Nat:=(aY ln.length).find? fun i=>decide (ln.getD i 0<=a.length)&&decide (num (a.take (ln.getD i 0)) 0=eZ ln i)
def gL(ln:List Nat)(n i:Nat):List Nat:=(aY i).filter fun s=>ln.getD s 0==n
theorem Gc(ln:List Nat)(n i:Nat):gL ln n (i+1)=gL ln n i++(if ln.getD i 0=n then [i]else []):=by
 unfold gL;rw[mv,List.filter_append];congr 1;by_cases h:ln.getD i 0=n
 ·rw[if_pos h,aqf,if_pos (by rw[h];simp)];rfl
 ·rw[if_neg h,aqf,if_neg (by simpa using h)];rfl
theorem Bu{ln:List Nat}(n:Nat):∀{i:Nat},i<=ln.length->(gL ln n i).length=ig ln n i
 |0,_=>by simp[gL,ig,cn]
 |i+1,h=>by rw[Gc,aG,Bu n (i:=i) jO,Gb jO];split<;>rfl
def j0(ln:List Nat):Nat->List Nat
 |0=>[]
 |n+1=>j0 ln n++gL ln n ln.length
theorem rE(ln:List Nat):∀n,(j0 ln n).length=cN ln n
 |0=>rfl
 |n+1=>by unfold j0 cN;rw[aG,rE ln n,Bu n (ai _),Bt]
theorem Zt{ln:List Nat}:∀{n m:Nat},n<=m->cN ln n<=cN ln m
 |n,0,h=>by have:n=0:=jO
            subst this;exact ai _
 |n,m+1,h=>by
  by_cases e:n=m+1
  ·subst e;exact ai _
  ·have:=Zt (ln:=ln) (n:=n) (m:=m) jO;show cN ln n<=cN ln m+cn ln m;omega
def fU(ln:List Nat)(n i:Nat):Nat:=dZ ln n+ig ln n i
theorem Zu(ln:List Nat)(n:Nat):fU ln (n+1) 0=2*fU ln n ln.length:=by unfold fU;rw[Bt];show 2*(dZ ln n+cn ln n)+ig ln (n+1) 0=_;simp[ig,cn]
theorem Ge{ln:List Nat}{n i:Nat}(h:i<ln.length):fU ln n (i+1)=fU ln n i+(if ln.getD i 0=n then 1 else 0):=by unfold fU;rw[Gb h];omega
theorem Gf{ln:List Nat}{n i:Nat}(h:ln.getD i 0=n):fU ln n i=eZ ln i:=by unfold fU eZ;rw[h]
def ij:List Bool->List Bool×Bool
 |[]=>([],true)
 |b::l=>((xor b (ij l).2)::(ij l).1,b&&(ij l).2)
theorem yI:∀l:List Bool,(ij l).1.length=l.length
 |[]=>rfl
 |b::l=>by simp[ij,yI l]
theorem Zv:∀l:List Bool,num (ij l).1 0+bn (ij l).2*2^l.length=num l 0+1
 |[]=>rfl
 |b::l=>by
  have a:=Zv l
  have e:∀(c:Bool) (m:List Bool),num (c::m) 0=bn c*2^m.length+num m 0:=fun c m=>by show num m (2*0+bn c)=_;rw[OH,fy,yG]
  simp only[ij,e,yI,ct,lH];cases b<;>cases d:(ij l).2<;>simp[bn,d]at a⊢<;>omega
theorem ajT{c m:Nat}(h:c+1<2^m):(ij (bh c m)).1=bh (c+1) m:=by
 have a:=Zv (bh c m);rw[Zl jO,cA]at a
 have d:num (ij (bh c m)).1 0=c+1:=by
  cases b:(ij (bh c m)).2 with
  |false=>rw[b]at a;simpa[bn]using a
  |true=>rw[b]at a;simp[bn]at a;omega
 have:=Mr d;rw[yI,cA]at this;exact this
theorem ajU{v m k:Nat}(h:v<2^m):bh v m++bD k false=bh (v*2^k) (m+k):=by have:=Mr (l:=bh v m++bD k false) (v:=v*2^k) (by rw[ajQ,Zl h]);rw[aG,cA,jQ]at this;exact this
def lj(ln:List Nat)(n i:Nat)(a:List Bool):Prop:=(a=[]∧fU ln n i=0)∨∃c m,1<=m∧m<=n∧a=bh c m∧c<2^m∧(c+1)*2^(n-m)=fU ln n i
theorem lj.skip{ln:List Nat}{n i:Nat}{a:List Bool}(h:lj ln n i a)(c:i<ln.length)(b:ln.getD i 0≠n):lj ln n (i+1) a:=by
 have e:fU ln n (i+1)=fU ln n i:=by rw[Ge c,if_neg b,gX]
 unfold lj;rw[e];exact h
theorem lj.row{ln:List Nat}{n:Nat}{d:List Bool}(h:lj ln n ln.length d):lj ln (n+1) 0 d:=by
 rcases h with ⟨a,b⟩|⟨c,m,i,j,g,f,e⟩
 ·exact .inl ⟨a,by rw[Zu,b]⟩
 ·refine .inr ⟨c,m,i,jO,g,f, ?_⟩;rw[Zu,<-e,show n+1-m=n-m+1 by omega,lH];rw[<-zE,mz 2]
theorem lj.yH{ln:List Nat}(w:Wh ln){n i:Nat}{d:List Bool}(h:lj ln n i d)(l:i<ln.length)(f:ln.getD i 0=n):(if d=[]then bD n false else(ij d).1++bD (n-d.length) false)=bh (eZ ln i) n∧lj ln n (i+1) (bh (eZ ln i) n):=by
 have j:=w.Ms l;have p:=w.at l;rw[f]at j p;have e:fU ln n (i+1)=eZ ln i+1:=by rw[Ge l,if_pos f,Gf f]
 refine⟨?_,.inr ⟨eZ ln i,n,p.1,ai n,rfl,j,by rw[e,j8,aqT,xu]⟩⟩;rcases h with ⟨a,b⟩|⟨c,m,v,u,r,t,o⟩
 ·rw[if_pos a];rw[Gf f]at b;have:=Mr (Zj n);rw[jQ]at this;rw[b];exact this
 ·rw[Gf f]at o
  have k:d≠[]:=by intro q;have:=congrArg List.length (q.symm.trans r);rw[cA]at this;simp at this;omega
  have g:c+1<2^m:=by
   have s:2^m*2^(n-m)=2^n:=by rw[<-aqN,show m+(n-m)=n by omega]
   rw[<-o,<-s]at j;exact Nat.lt_of_mul_lt_mul_right j
  rw[if_neg k,r,ajT g,cA,ajU g,o,show m+(n-m)=n by omega]
theorem Mu{ln:List Nat}(w:Wh ln):cn ln 0=0:=by unfold cn;rw[List.countP_eq_zero];intro x a;have:=(w.lo x a).1;simp;omega
theorem ajV{ln:List Nat}(w:Wh ln):dZ ln 1=0:=by show 2*(0+cn ln 0)=0;rw[Mu w]
theorem ajW{ln:List Nat}(w:Wh ln):cN ln 1=0:=by show 0+cn ln 0=0;rw[Mu w]
theorem lj.zero{ln:List Nat}(w:Wh ln):lj ln 1 0 []:= .inl ⟨rfl,by
 unfold fU;rw[ajV w]
 simp[ig,cn]⟩
def nZ(s:List UInt8):List Bool:=s.flatMap fun b=>bh b.toNat 8
theorem Zw:∀s:List UInt8,(nZ s).length=8*s.length
 |[]=>rfl
 |b::s=>by show(bh b.toNat 8++nZ s).length=_;rw[aG,cA,Zw s,ct];omega
theorem ajX(a b:List UInt8):nZ (a++b)=nZ a++nZ b:=by unfold nZ;rw[List.flatMap_append]
theorem H5:∀(n v r:Nat) (h:r<n),(bh v n)[r]? =some (decide (v/2^(n-1-r)%2=1))
 |0,_,_,h=>absurd h (lL _)
 |n+1,v,r,h=>by
  show(bh (v/2) n++[decide (v %2=1)])[r]? =_;by_cases e:r<n
  ·rw[nB (by rw[cA];exact e),H5 n (v/2) r e,Nat.div_div_eq_div_mul,<-Nat.pow_succ',show(n-1-r).succ=n+1-1-r by omega]
  ·have:r=n:=jO;subst this;rw[oC (by rw[cA];exact ai _),cA,j8,show r+1-1-r=0 by omega,aqT,Nat.div_one];rfl
theorem Zx{a:Nat}(b:2*a<4294967296):IntKind.u32.wrap ((a:Int)*2^(min ((1:Int)).toNat (uA).bits))=((2*a:Nat):Int):=by have e:min ((1:Int)).toNat (uA).bits=1:=jD;rw[e];have:(a:Int)*2^1=((2*a:Nat):Int):=jO;rw[this];exact iH b
end Go.Proofs.YtcehhgppfahbkaaGreatDoor.Cn
namespace Go.Proofs.YtcehhgppfahbkaaGreatDoor
open Go.RowKit Ev Cn
section
variable {lf d n p:Nat} {h:H} {S:List UInt8} {D A:Nat}
end
end Go.Proofs.YtcehhgppfahbkaaGreatDoor
namespace Go.Proofs.YtcehhgppfahbkaaGreatDoor
open Hu
def wt(n k:Nat)(t:HT):List Nat:=t.leaves++rZ t.bu (n+k-t.bu)
structure Bv (n k:Nat) (last:Int) (t:HT):Prop where
 ls:t.leaves.Pairwise (RI (bM t))
 js:∀i j,n<=i->i<=j->j<n+k->bM t i<=bM t j
 mx:∀i,n<=i->i<n+k->bM t i<=2*last
 lo:∀x∈wt n k t,last<=bM t x
 l0:0<=last
theorem wT(t:HT):bM (taken t)=bM t:=by unfold taken;split<;>rfl
theorem Zy{n k:Nat}{P:List Nat}{S last:Int}{t:HT}(h:iF n k P S t)(s:Bv n k last t)(C:1<=t.leaves.length+(n+k-t.bu)):
 (wt n k t).Perm (Hu.leastOf t::wt n k (taken t))∧(∀x∈wt n k (taken t),RI (bM t) (Hu.leastOf t) x)∧Bv n k (bM t (Hu.leastOf t)) (taken t)∧last<=bM t (Hu.leastOf t):=by
 have m:(wt n k t).Perm (Hu.leastOf t::wt n k (taken t))∧(∀x∈wt n k (taken t),RI (bM t) (Hu.leastOf t) x)∧(taken t).leaves.Pairwise (RI (bM t)):=by
  cases c:ic t with
  |true=>
   obtain⟨r,l,z,w⟩:=Md h C c;have b:=s.ls;generalize Hu.leastOf t=a at*;rw[l,r9]at b;rw[z];refine⟨by unfold wt;rw[l];exact .refl _,fun x f=> ?_,b.2⟩;unfold wt at f;rcases List.mem_append.1 f with h2|h2
   ·exact b.1 x h2
   ·have h2:=List.mem_range'_1.1 h2;have h2:t.bu<=x∧x<t.bu+(n+k-t.bu):=h2;have j:=h.jl;unfold ic at c;rw[Bool.or_eq_true,beq_iff_eq,Bool.and_eq_true,decide_eq_true_iff,decide_eq_true_iff]at c;rcases c with c|⟨_,c⟩
    ·have:=h.wl;omega
    ·have D:t.leaves.getD 0 0=a:=by rw[l];rfl
     rw[D]at c;have:=s.js t.bu x j h2.1 jO;unfold RI;omega
  |false=>
   obtain⟨l,z,w⟩:=YN h c;rw[w,l];have j:=h.jl;refine⟨?_,fun x f=> ?_,s.ls⟩
   ·unfold wt;obtain⟨d,hd⟩:∃d,n+k-t.bu=d+1:=⟨n+k-t.bu-1,jO⟩;rw[hd,List.range'_succ];show(t.leaves++t.bu::rZ (t.bu+1) d).Perm (t.bu::(t.leaves++rZ (t.bu+1) (n+k-(t.bu+1))));rw[show n+k-(t.bu+1)=d by omega];exact List.perm_middle
   ·unfold wt at f;rcases List.mem_append.1 f with h2|h2
    ·have h2:x∈t.leaves:=h2;have v:0<t.leaves.length:=List.length_pos_of_mem h2;unfold ic at c;rw[Bool.or_eq_false_iff,Bool.and_eq_false_iff]at c
     have g:¬bM t (t.leaves.getD 0 0)<=bM t t.bu:=by
      rcases c.2 with q|q
      ·simp only[v,decide_true]at q;cases q
      ·exact of_decide_eq_false q
     obtain⟨y,r,e⟩:=List.exists_cons_of_length_pos v;have b:=s.ls;rw[e]at h2 b g;rw[r9]at b;have g:¬bM t y<=bM t t.bu:=g;rcases List.mem_cons.1 h2 with q|q
     ·subst q;unfold RI;omega
     ·have:=b.1 x q;unfold RI at this⊢;omega
    ·have h2:=List.mem_range'_1.1 h2;have h2:t.bu+1<=x∧x<t.bu+1+(n+k-(t.bu+1)):=h2;have:=s.js t.bu x j jO jO;unfold RI;omega
 obtain⟨u,p,A⟩:=m;have o:last<=bM t (Hu.leastOf t):=s.lo _ (u.mem_iff.2 jS);refine⟨u,p,⟨by rw[wT];exact A,by rw[wT];exact s.js,fun i h2 B=>by rw[wT];have:=s.mx i h2 B;omega,fun x f=> ?_,by have:=s.l0;omega⟩,o⟩;rw[wT];have:=p x f;unfold RI at this;omega
theorem ajY{n k:Nat}{P:List Nat}{S:Int}{t:HT}(h:iF n k P S t)(a b:Nat):(∀i,i<n+k->bM (ju t a b) i=bM t i)∧bM (ju t a b) (n+k)=bM t a+bM t b:=by refine⟨fun i c=>F2 _ _ _ (by rw[h.wl];exact c), ?_⟩;unfold bM ju;rw[aC,oC (by rw[h.wl];exact ai _),h.wl,j8];rfl
theorem Zz{n k:Nat}{P:List Nat}{S:Int}{t:HT}(h:iF n k P S t):∀x∈wt n k t,x<n+k:=fun x a=>by
 unfold wt at a;rcases List.mem_append.1 a with h2|h2
 ·have:=h.leaf x h2;omega
 ·have:=List.mem_range'_1.1 h2;have:=h.jh;omega
structure Step (n k:Nat) (a b:Nat) (r:List Nat) (t t':HT):Prop where
 perm:(wt n k t).Perm (a::b::r)
 next:(wt n (k+1) t').Perm ((n+k)::r)
 old:∀i,i<n+k->bM t' i=bM t i
 new:bM t' (n+k)=bM t a+bM t b
 mA:∀x∈b::r,RI (bM t) a x
 mB:∀x∈r,RI (bM t) b x
 ia:t'.cI.getD a 0=((n+k:Nat):Int)
 ib:t'.cI.getD b 0=((n+k:Nat):Int)
 io:∀i,i<n+k->i∉wt n k t->t'.cI.getD i 0=t.cI.getD i 0
theorem ZA{n k:Nat}{S last:Int}{t:HT}(h:iF n k [] S t)(s:Bv n k last t)(X:k+2<=n):∃g,Bv n (k+1) g (rB t)∧Step n k (Hu.leastOf t) (Hu.leastOf (taken t)) (wt n k (taken (taken t))) t (rB t):=by
 obtain⟨N,P,f,a2,h3,_⟩:=step_ok h X;have W:=h.left;have z:=N.left;simp only[ct,List.length_nil]at W z;obtain⟨u,R,Q,q1⟩:=Zy h s jO;obtain⟨r,v,G,q2⟩:=Zy N Q jO;rw[wT]at v G q2;have E:bM (taken (taken t))=bM t:=by rw[wT,wT]
 unfold rB at h3⊢;generalize Hu.leastOf t=a at*;generalize Hu.leastOf (taken t)=b at*;obtain⟨d,m⟩:=ajY f a b;rw[E]at d m;have Z:=f.jh;have Y:=f.jl
 have I:wt n (k+1) (ju (taken (taken t)) a b)=wt n k (taken (taken t))++[n+k]:=by unfold wt;show(taken (taken t)).leaves++rZ (taken (taken t)).bu (n+(k+1)-(taken (taken t)).bu)=_;rw[show n+(k+1)-(taken (taken t)).bu=(n+k-(taken (taken t)).bu)+1 by omega,List.range'_concat,<-bW];rw[show(taken (taken t)).bu+1*(n+k-(taken (taken t)).bu)=n+k by omega]
 have B:b∈wt n k (taken t):=r.mem_iff.2 jS;have o:=fun i c=>(h.pos i c).1;have pa:=o a P;have U:=s.l0;refine⟨bM t b,⟨?_,fun i j c A hj=> ?_,fun i c hj=> ?_,fun x l=> ?_,jO⟩,⟨u.trans (r.cons a),by rw[I];exact List.perm_append_singleton _ _,d,m,fun x l=>R x (r.mem_iff.2 l),v, ?_, ?_,fun i c L=> ?_⟩⟩
 ·have K:=G.ls;rw[E]at K;refine K.imp_of_mem (S:=RI (bM (ju (taken (taken t)) a b))) fun{x y} l T J=> ?_;have:=f.leaf x l;have:=f.leaf y T;unfold RI at J⊢;rw[d x jO,d y jO];exact J
 ·by_cases e:j<n+k
  ·rw[d i jO,d j e];exact s.js i j c A e
  ·obtain rfl:j=n+k:=jO;by_cases O:i<n+k
   ·rw[d i O,m];have:=s.mx i c O;omega
   ·obtain rfl:i=n+k:=jO;omega
 ·by_cases e:i<n+k
  ·rw[d i e];have:=s.mx i c e;omega
  ·obtain rfl:i=n+k:=jO;rw[m];omega
 ·rw[I]at l;rcases List.mem_append.1 l with q|q
  ·rw[d x (Zz f x q)];have:=v x q;unfold RI at this;omega
  ·obtain rfl:x=n+k:=by simpa using q
   rw[m];omega
 all_goals
  have D:∀i,i<n+k->(ju (taken (taken t)) a b).cI.getD i 0=if i=b then((n+k:Nat):Int)else if i=a then((n+k:Nat):Int)else t.cI.getD i 0:=fun i c=>by
   have w:(taken (taken t)).cI.length=n+k:=f.il;have F:(taken (taken t)).cI=t.cI:=by unfold taken;split<;>split<;>rfl
   unfold ju;simp only;rw[F2 _ _ _ (by simp[w];exact c),qg,qg,f.wl,F];rw[F]at w;simp only[qC,w];by_cases p:i=b
   ·subst p;simp[c]
   ·by_cases C:i=a
    ·subst C;simp[c,p,Ne.symm p]
    ·simp[C,p,Ne.symm C,Ne.symm p]
 ·rw[D a P];split<;>simp
 ·rw[D b a2,if_pos rfl]
 ·have hb:b∈wt n k t:=u.mem_iff.2 (by simp[B]);have ha:a∈wt n k t:=u.mem_iff.2 jS;rw[D i c,if_neg (fun e=>L (by rw[e];exact hb)),if_neg (fun e=>L (by rw[e];exact ha))]
theorem ZB{ws:List Int}{D:List Nat}(p:2<=ws.length)(m:D.Perm (aY ws.length))(l:D.Pairwise (RI (bk ws)))(g:∀x∈ws,0<=x):∀k,k+1<=ws.length->iF ws.length k [] (bI ws) (dL k (Start ws D))∧∃last,Bv ws.length k last (dL k (Start ws D)):=by
 intro k
 induction k with
 |zero=>intro _;have b:=Y1 m g rfl;refine⟨b,0,l,fun i j o n q=>by omega,fun i o n=>by omega,fun x f=>(b.pos x (Zz b x f)).1,aqD _⟩
 |succ k e=>intro c;obtain⟨h,last,s⟩:=e jO;rw[yw];obtain⟨a,d,_⟩:=ZA h s c;exact⟨(step_ok h c).2.2.2.2.1,a,d⟩
theorem ajZ{ws:List Int}{D:List Nat}(f:2<=ws.length)(d:D.Perm (aY ws.length))(c:D.Pairwise (RI (bk ws)))(b:∀x∈ws,0<=x)(k:Nat)(e:k+2<=ws.length):
 Step ws.length k (Hu.leastOf (dL k (Start ws D))) (Hu.leastOf (taken (dL k (Start ws D)))) (wt ws.length k (taken (taken (dL k (Start ws D))))) (dL k (Start ws D)) (dL (k+1) (Start ws D)):=by
 obtain⟨h,last,s⟩:=ZB f d c b k jO;obtain⟨a,_,r⟩:=ZA h s e;rw[yw];exact r
structure dC (N:Nat) (w:Nat->Int) (I:Nat->Nat) (A B:Nat->Nat) (X R:Nat->List Nat):Prop where
 two:2<=N
 x0:(X 0).Perm (aY N)
 st:∀k,k+2<=N->(X k).Perm (A k::B k::R k)
 nx:∀k,k+2<=N->(X (k+1)).Perm ((N+k)::R k)
 wn:∀k,k+2<=N->w (N+k)=w (A k)+w (B k)
 ia:∀k,k+2<=N->I (A k)=N+k
 ib:∀k,k+2<=N->I (B k)=N+k
 mA:∀k,k+2<=N->∀x∈B k::R k,RI w (A k) x
 mB:∀k,k+2<=N->∀x∈R k,RI w (B k) x
 mono:∀i j,N<=i->i<=j->j<=2*N-2->w i<=w j
 pos:∀i,i<=2*N-2->0<=w i
section
variable {N:Nat} {X R:Nat->List Nat} {A B:Nat->Nat}
theorem Mv(b:(X 0).Perm (aY N))(h:∀k,k+2<=N->(X k).Perm (A k::B k::R k))(i:∀k,k+2<=N->(X (k+1)).Perm ((N+k)::R k)):∀k,k+1<=N->(∀x∈X k,x<N+k)∧(X k).Nodup∧(X k).length=N-k:=by
 intro k
 induction k with
 |zero=>intro _;exact⟨fun x a=>by have:=Cy.1 (b.mem_iff.1 a);omega,b.nodup_iff.2 List.nodup_range,by rw[b.length_eq,j7];omega⟩
 |succ k m=>
  intro f;obtain⟨g,o,r⟩:=m jO;have p:=h k f;have q:=i k f;have d:∀x∈R k,x∈X k:=fun x a=>p.mem_iff.2 (by simp[a]);have c:=p.nodup_iff.1 o;refine⟨fun x a=> ?_,q.nodup_iff.2 (aqV.2 ⟨fun n=> ?_,(aqV.1 (aqV.1 c).2).2⟩), ?_⟩
  ·rcases List.mem_cons.1 (q.mem_iff.1 a)with e|e
   ·omega
   ·have:=g x (d x e);omega
  ·have:=g _ (d _ n);omega
  ·have l:=p.length_eq;have j:=q.length_eq;simp only[ct]at l j;omega
end
theorem aj0{ws:List Int}{D:List Nat}(C:2<=ws.length)(z:D.Perm (aY ws.length))(I:D.Pairwise (RI (bk ws)))(G:∀x∈ws,0<=x):∃A B X R,dC ws.length (bM (gx ws D)) (fun i=>((gx ws D).cI.getD i 0).toNat) A B X R∧∀i,i<ws.length->bM (gx ws D) i=ws.getD i 0:=by
 have all:=ZB C z I G;have c:=ajZ C z I G
 have f:∀d k,k+d+1=ws.length->∀i,i<ws.length+k->bM (gx ws D) i=bM (dL k (Start ws D)) i:=by
  intro d
  induction d with
  |zero=>intro k b i q;unfold gx;rw[show ws.length-1=k by omega]
  |succ d y=>intro k b i q;rw[y (k+1) jO i jO];exact(c k jO).old i q
 have E:(wt ws.length 0 (dL 0 (Start ws D))).Perm (aY ws.length):=by show(D++rZ ws.length (ws.length+0-ws.length)).Perm _;rw[gX,j8,List.range'_zero,cz];exact z
 have w:=Mv (X:=fun k=>wt ws.length k (dL k (Start ws D))) (R:=fun k=>wt ws.length k (taken (taken (dL k (Start ws D))))) (A:=fun k=>Hu.leastOf (dL k (Start ws D))) (B:=fun k=>Hu.leastOf (taken (dL k (Start ws D)))) E (fun k b=>(c k b).perm) (fun k b=>(c k b).next)
 have m:∀d k,k+d+1=ws.length->∀i,i<ws.length+k->i∉wt ws.length k (dL k (Start ws D))->(gx ws D).cI.getD i 0=(dL k (Start ws D)).cI.getD i 0:=by
  intro d
  induction d with
  |zero=>intro k b i q _;unfold gx;rw[show ws.length-1=k by omega]
  |succ d y=>
   intro k b i q J;have s:=c k jO;rw[y (k+1) jO i jO (fun t=> ?_)]
   ·exact s.io i q J
   ·rcases List.mem_cons.1 (s.next.mem_iff.1 t)with e|e
    ·omega
    ·exact J (s.perm.mem_iff.2 (by simp[e]))
 have a:∀k,k+2<=ws.length->Hu.leastOf (dL k (Start ws D))<ws.length+k∧Hu.leastOf (taken (dL k (Start ws D)))<ws.length+k∧Hu.leastOf (dL k (Start ws D))∉wt ws.length (k+1) (dL (k+1) (Start ws D))∧Hu.leastOf (taken (dL k (Start ws D)))∉wt ws.length (k+1) (dL (k+1) (Start ws D)):=by
  intro k b;have s:=c k b;obtain⟨F,K,_⟩:=w k jO;have l:=F (Hu.leastOf (dL k (Start ws D))) (s.perm.mem_iff.2 jS);have g:=F (Hu.leastOf (taken (dL k (Start ws D)))) (s.perm.mem_iff.2 jS);have p:=s.perm.nodup_iff.1 K;rw[aqV,aqV]at p;refine⟨l,g,fun t=> ?_,fun t=> ?_⟩
  ·rcases List.mem_cons.1 (s.next.mem_iff.1 t)with e|e
   ·omega
   ·exact p.1 (by simp[e])
  ·rcases List.mem_cons.1 (s.next.mem_iff.1 t)with e|e
   ·omega
   ·exact p.2.1 e
 have n:∀k,k+2<=ws.length->∀i,i<ws.length+k->bM (gx ws D) i=bM (dL k (Start ws D)) i:=fun k b=>f (ws.length-1-k) k jO;refine⟨fun k=>Hu.leastOf (dL k (Start ws D)),fun k=>Hu.leastOf (taken (dL k (Start ws D))),fun k=>wt ws.length k (dL k (Start ws D)),fun k=>wt ws.length k (taken (taken (dL k (Start ws D)))),⟨C,E,fun k b=>(c k b).perm,fun k b=>(c k b).next,fun k b=> ?_,fun k b=> ?_,fun k b=> ?_,fun k b x r=> ?_,fun k b x r=> ?_,fun i j N L O=> ?_,fun i q=> ?_⟩,fun i q=> ?_⟩
 ·obtain⟨l,g,_⟩:=a k b;rw[f (ws.length-1-(k+1)) (k+1) jO _ jO,(c k b).new,n k b _ l,n k b _ g]
 ·obtain⟨l,g,v,u⟩:=a k b;show((gx ws D).cI.getD _ 0).toNat=_;rw[m (ws.length-1-(k+1)) (k+1) jO _ jO v,(c k b).ia];omega
 ·obtain⟨l,g,v,u⟩:=a k b;show((gx ws D).cI.getD _ 0).toNat=_;rw[m (ws.length-1-(k+1)) (k+1) jO _ jO u,(c k b).ib];omega
 ·obtain⟨l,g,v,u⟩:=a k b;have:=(c k b).mA x r;have o:=(w k jO).1 x ((c k b).perm.mem_iff.2 (fF _ r));unfold RI at this⊢;rw[n k b _ l,n k b _ o];exact this
 ·obtain⟨l,g,v,u⟩:=a k b;have:=(c k b).mB x r;have o:=(w k jO).1 x ((c k b).perm.mem_iff.2 (fF _ (fF _ r)));unfold RI at this⊢;rw[n k b _ g,n k b _ o];exact this
 ·obtain⟨h,last,s⟩:=all (ws.length-1) jO;exact s.js i j N L jO
 ·obtain⟨h,last,s⟩:=all (ws.length-1) jO;exact(h.pos i jO).1
 ·rw[n 0 jO i jO];rfl
theorem Gg{a b:List Int}(h:a.Perm b):bI a=bI b:=by
 induction h with
 |nil=>rfl
 |cons x _ e=>simp only[bI,e]
 |swap x y l=>simp only[bI];omega
 |trans _ _ d c=>exact d.trans c
section
variable {N:Nat} {w:Nat->Int} {I A B:Nat->Nat} {X R:Nat->List Nat}
theorem dC.lt(m:dC N w I A B X R){k:Nat}(b:k+1<=N){x:Nat}(a:x∈X k):x<N+k:=(Mv m.x0 m.st m.nx k b).1 x a
theorem dC.len(m:dC N w I A B X R){k:Nat}(a:k+1<=N):(X k).length=N-k:=(Mv m.x0 m.st m.nx k a).2.2
theorem dC.last(m:dC N w I A B X R):X (N-1)=[2*N-2]:=by
 have d:=m.two;have c:=m.len (k:=N-1) jO
 have a:2*N-2∈X (N-1):=by have:=m.nx (N-2) jO;rw[show N-2+1=N-1 by omega]at this;exact this.mem_iff.2 (by rw[show N+(N-2)=2*N-2 by omega];simp)
 obtain⟨y,b⟩:=List.length_eq_one_iff.1 (show(X (N-1)).length=1 by omega);rw[b]at a⊢;rw[List.mem_singleton.1 a]
theorem dC.aX(m:dC N w I A B X R){k:Nat}(b:k+2<=N):A k∈X k∧B k∈X k∧(∀x∈R k,x∈X k)∧(∀x∈R k,x∈X (k+1))∧N+k∈X (k+1):=by have p:=m.st k b;have q:=m.nx k b;exact⟨p.mem_iff.2 jS,p.mem_iff.2 jS,fun x a=>p.mem_iff.2 (by simp[a]),fun x a=>q.mem_iff.2 (by simp[a]),q.mem_iff.2 jS⟩
theorem dC.Mw(m:dC N w I A B X R):∀k,k+1<=N->∀p,p<N+k->p∈X k∨I p<N+k:=by
 intro k
 induction k with
 |zero=>intro _ p c;exact .inl (m.x0.mem_iff.2 (Cy.2 jO))
 |succ k b=>
  intro a p c;obtain⟨i,h,g,f,d⟩:=m.aX a;by_cases e:p=N+k
  ·exact .inl (by rw[e];exact d)
  ·rcases b jO p jO with q|q
   ·rcases List.mem_cons.1 ((m.st k a).mem_iff.1 q)with r|r
    ·right;rw[r,m.ia k a];omega
    ·rcases List.mem_cons.1 r with r|r
     ·right;rw[r,m.ib k a];omega
     ·exact .inl (f p r)
   ·right;omega
theorem dC.ge(m:dC N w I A B X R):∀d k,k+d+1=N->∀x∈X k,x=2*N-2∨N+k<=I x:=by
 intro d
 induction d with
 |zero=>intro k e x b;have:=m.last;rw[show N-1=k by omega]at this;rw[this]at b;exact .inl (List.mem_singleton.1 b)
 |succ d c=>
  intro k e x b;have a:k+2<=N:=jO;rcases List.mem_cons.1 ((m.st k a).mem_iff.1 b)with r|r
  ·right;rw[r,m.ia k a];exact ai _
  ·rcases List.mem_cons.1 r with r|r
   ·right;rw[r,m.ib k a];exact ai _
   ·rcases c (k+1) jO x ((m.aX a).2.2.2.1 x r)with q|q
    ·exact .inl q
    ·right;omega
theorem dC.Mx(m:dC N w I A B X R){k:Nat}(c:k+1<=N){x:Nat}(a:x∈X k)(b:x≠2*N-2):N+k<=I x:=(m.ge (N-1-k) k jO x a).resolve_left b
theorem dC.up(m:dC N w I A B X R){i:Nat}(b:i<2*N-2):i<I i∧I i<=2*N-2∧N<=I i:=by
 have c:=m.two
 have d:I i<=2*N-2:=by
  rcases m.Mw (N-1) jO i jO with q|q
  ·rw[m.last]at q;have:=List.mem_singleton.1 q;omega
  ·omega
 by_cases a:i<N
 ·have:=m.Mx (k:=0) jO (m.x0.mem_iff.2 (Cy.2 a)) jO;omega
 ·have:=m.Mx (k:=i-N+1) jO (x:=i) (by have:=(m.aX (k:=i-N) jO).2.2.2.2;rwa[show N+(i-N)=i by omega]at this) jO;omega
theorem dC.inv(m:dC N w I A B X R){q k:Nat}(a:k+2<=N)(c:q<2*N-2)(h:I q=N+k):q∈X k∧(q=A k∨q=B k):=by
 have d:=(m.up c).1
 have b:q∈X k:=by
  rcases m.Mw k jO q jO with r|r
  ·exact r
  ·omega
 refine⟨b, ?_⟩;rcases List.mem_cons.1 ((m.st k a).mem_iff.1 b)with r|r
 ·exact .inl r
 ·rcases List.mem_cons.1 r with r|r
  ·exact .inr r
  ·have:=m.Mx (k:=k+1) jO ((m.aX a).2.2.2.1 q r) jO;omega
theorem dC.ZC(m:dC N w I A B X R){dep:Nat->Nat}(a:dep (2*N-2)=0)(g:∀i,i<2*N-2->dep i=dep (I i)+1):∀f i,2*N-2-i<=f->i<=2*N-2->dep i<=2*N-2-i:=by
 intro f
 induction f with
 |zero=>intro i d c;obtain rfl:i=2*N-2:=jO
        rw[a];omega
 |succ f b=>
  intro i d c;by_cases e:i=2*N-2
  ·rw[e,a];omega
  ·have u:=m.up (show i<2*N-2 by omega);have:=b (I i) jO jO;rw[g i jO];omega
theorem dC.keeps(m:dC N w I A B X R)(f:Nat->Int)(g:∀k,k+2<=N->f (A k)+f (B k)=f (N+k)):∀k,k+1<=N->bI ((X k).map f)=f (2*N-2):=by
 have h:=m.two
 have:∀d k,k+d+1=N->bI ((X k).map f)=f (2*N-2):=by
  intro d
  induction d with
  |zero=>intro k b;have:=m.last;rw[show N-1=k by omega]at this;rw[this];simp[bI]
  |succ d e=>intro k b;have a:k+2<=N:=jO;have c:=e (k+1) jO;rw[Gg ((m.nx k a).map f)]at c;rw[Gg ((m.st k a).map f)];simp only[je,bI]at c⊢;have:=g k a;omega
 exact fun k b=>this (N-1-k) k jO
theorem dC.Bw(m:dC N w I A B X R){k:Nat}(a:k+2<=N):A k<2*N-2∧B k<2*N-2:=by have h:=m.aX a;have:=m.lt jO h.1;have:=m.lt jO h.2.1;omega
theorem dC.ZD(m:dC N w I A B X R){dep:Nat->Nat}(b:∀i,i<2*N-2->dep i=dep (I i)+1){k:Nat}(a:k+2<=N):dep (A k)=dep (N+k)+1∧dep (B k)=dep (N+k)+1:=by have h:=m.Bw a;rw[b _ h.1,b _ h.2,m.ia k a,m.ib k a];exact⟨rfl,rfl⟩
theorem dC.aj1(m:dC N w I A B X R){dep:Nat->Nat}(b:dep (2*N-2)=0)(a:∀i,i<2*N-2->dep i=dep (I i)+1)(M:Nat)(j:2*N<=M):bI ((aY N).map fun i=>(2:Int)^(M-dep i))=2^M:=by
 have g:=m.two
 have h:=m.keeps (fun i=>(2:Int)^(M-dep i)) (fun k c=>by
  obtain⟨e,d⟩:=m.ZD a c;have f:=m.ZC b a (2*N) (N+k) jO jO;show(2:Int)^(M-dep (A k))+2^(M-dep (B k))=2^(M-dep (N+k));rw[e,d,show M-dep (N+k)=(M-(dep (N+k)+1))+1 by omega,aqJ]
  omega) 0 jO
 rw[Gg (m.x0.map _),b]at h;exact h
theorem dC.root(m:dC N w I A B X R):bI ((aY N).map w)=w (2*N-2):=by have b:=m.two;have h:=m.keeps w (fun k a=>(m.wn k a).symm) 0 jO;rw[Gg (m.x0.map _)]at h;exact h
theorem dC.aj2(m:dC N w I A B X R){c:Int}(j:0<=c):∀d k,(∀x∈X k,c<=w x)->k+d+1<=N->∀x∈X (k+d),c<=w x:=by
 intro d
 induction d with
 |zero=>intro k h _;exact h
 |succ d f=>
  intro k h i x g;have p:=f k h jO;have b:(k+d)+2<=N:=jO;have a:=m.aX b;rcases List.mem_cons.1 ((m.nx (k+d) b).mem_iff.1 g)with e|e
  ·rw[e,m.wn _ b];have:=p _ a.1;have:=p _ a.2.1;omega
  ·exact p x (a.2.2.1 x e)
theorem dC.aj3(m:dC N w I A B X R){x:Nat}(g:x<2*N-2)(f:I x<2*N-2):w x<=w (I x)∧2*w x<=w (I (I x)):=by
 have u:=m.up g;have q:=m.up f;obtain⟨k,h⟩:∃k,I x=N+k:=⟨I x-N,jO⟩;obtain⟨j,p⟩:∃j,I (I x)=N+j:=⟨I (I x)-N,jO⟩;have c:k+2<=N:=jO;have d:j+2<=N:=jO;have a:=m.aX c
 have n:w x<=w (B k)∧w x<=w (N+k):=by have:=(m.inv c g h).2;have i:=m.mA k c (B k) jS;have:=m.wn k c;have:=m.pos (A k) (by have:=m.Bw c;omega);have:=m.pos (B k) (by have:=m.Bw c;omega);unfold RI at i;rcases (m.inv c g h).2 with e|e<;>rw[e]<;>omega
 refine⟨by rw[h];exact n.2, ?_⟩
 have l:=m.aj2 (m.pos x jO) (j-(k+1)) (k+1) (fun y o=>by
  rcases List.mem_cons.1 ((m.nx k c).mem_iff.1 o)with e|e
  ·rw[e];exact n.2
  ·have:=m.mB k c y e;unfold RI at this
   omega) jO
 rw[show k+1+(j-(k+1))=j by omega]at l;have b:=m.aX d;rw[p,m.wn j d];have:=l _ b.1;have:=l _ b.2.1;omega
theorem dC.deep(m:dC N w I A B X R){dep:Nat->Nat}(c:dep (2*N-2)=0)(b:∀i,i<2*N-2->dep i=dep (I i)+1):∀f x,2*N-2-x<=f->x<=2*N-2->w x*2^(dep x/2)<=w (2*N-2):=by
 intro f
 induction f with
 |zero=>intro x o n;obtain rfl:x=2*N-2:=jO;rw[c];simp
 |succ f h=>
  intro x o n;by_cases e:x=2*N-2
  ·rw[e,c];simp
  have u:=m.up (show x<2*N-2 by omega);by_cases g:I x=2*N-2
  ·rw[b x jO,g,c];obtain⟨k,d⟩:∃k,I x=N+k:=⟨I x-N,jO⟩;have a:k+2<=N:=jO;have l:=(m.inv a jO d).2;have j:=m.wn k a;rw[<-d,g]at j;have:=m.pos (A k) (by have:=m.Bw a;omega);have:=m.pos (B k) (by have:=m.Bw a;omega);simp;rcases l with r|r<;>rw[r]<;>omega
  ·have p:=m.up (show I x<2*N-2 by omega);have t:=(m.aj3 (show x<2*N-2 by omega) jO).2;rw[b x jO,b (I x) jO];have:=h (I (I x)) jO jO;rw[show(dep (I (I x))+1+1)/2=dep (I (I x))/2+1 by omega,aqJ,<-aqW,aqX (w x) _,aqW];refine Int.le_trans ?_ this;rw[aqX];exact ade jO (aqY jO)
end
theorem dC.short{N:Nat}{w:Nat->Int}{I A B:Nat->Nat}{X R:Nat->List Nat}(m:dC N w I A B X R){dep:Nat->Nat}(c:dep (2*N-2)=0)(b:∀i,i<2*N-2->dep i=dep (I i)+1){x:Nat}(d:x<N)(a:1<=w x)(e:w (2*N-2)<1024):dep x<=19:=by
 have g:=m.two;have h:=m.deep c b (2*N) x jO jO;apply zF;intro f
 have k:(2:Int)^10<=2^(dep x/2):=by
  have:(2:Nat)^10<=2^(dep x/2):=oD jO jO
  exact_mod_cast this
 have j:(2:Int)^(dep x/2)<=w x*2^(dep x/2):=by have:(1:Int)*2^(dep x/2)<=w x*2^(dep x/2):=ade a (aqY jO);omega
 omega
theorem Gh(a:List Int):∀(i:Nat) (out:List Int) (j:Nat),i<=j->(jX a i out).getD j 0=out.getD j 0
 |0,out,j,_=>rfl
 |i+1,out,j,h=>by unfold jX;rw[Gh a i _ j jO,qg,if_neg jO]
theorem ZE(a:List Int)(T:Nat):∀(i:Nat) (out:List Int),out.length=T->i<=T->(∀j,j<i->j<(a.getD j 0).toNat∧(a.getD j 0).toNat<T)->∀j,j<i->(jX a i out).getD j 0=(jX a i out).getD (a.getD j 0).toNat 0+1
 |0,out,_,_,_,j,c=>by omega
 |i+1,out,d,f,b,j,c=>by
  have g:=b i jO;unfold jX;by_cases e:j=i
  ·subst e;rw[Gh a j _ j jO,Gh a j _ _ jO,qg,qg,if_pos ⟨rfl,jO⟩,if_neg jO]
  ·exact ZE a T i _ (by rw[qC];exact d) jO (fun j c=>b j jO) j jO
theorem ZF(a:List Int):∀(i:Nat) (out:List Int),(∀j,0<=out.getD j 0)->∀j,0<=(jX a i out).getD j 0
 |0,out,h,j=>h j
 |i+1,out,h,j=>by unfold jX;refine ZF a i _ (fun j=> ?_) j;rw[qg];have:=h j;have:=h (a.getD i 0).toNat;split<;>omega
structure mU (ws:List Int) (D:List Nat) (w:Nat->Int) (I A B:Nat->Nat) (X R:Nat->List Nat) (dep:Nat->Nat):Prop where
 m:dC ws.length w I A B X R
 d0:dep (2*ws.length-2)=0
 d1:∀i,i<2*ws.length-2->dep i=dep (I i)+1
 ww:∀i,i<ws.length->w i=ws.getD i 0
 eq:l5 ws D=(aY ws.length).map fun i=>(dep i:Int)
theorem aj4{ws:List Int}{D:List Nat}(n:2<=ws.length)(h:D.Perm (aY ws.length))(g:D.Pairwise (RI (bk ws)))(f:∀x∈ws,0<=x):∃w I A B X R dep,mU ws D w I A B X R dep:=by
 obtain⟨A,B,X,R,m,e⟩:=aj0 n h g f;obtain⟨out,a⟩:∃out,jX (gx ws D).cI (2*ws.length-2) (bD (2*ws.length-1) 0)=out:=⟨_,rfl⟩
 have b:∀j,0<=out.getD j 0:=by rw[<-a];refine ZF _ _ _ fun j=> ?_;rw[aC,aqZ];split<;>simp
 have c:out.length=2*ws.length-1:=by rw[<-a,F8,jQ]
 refine⟨_,_,A,B,X,R,fun i=>(out.getD i 0).toNat,m, ?_,fun i l=> ?_,e, ?_⟩
 ·rw[<-a,Gh _ _ _ _ (ai _),aC,aqZ];split<;>rfl
 ·have d:=ZE (gx ws D).cI (2*ws.length-1) (2*ws.length-2) (bD (2*ws.length-1) 0) (by rw[jQ]) jO (fun j k=>by
   have:=m.up k
   omega) i l
  rw[a]at d;have:=b ((gx ws D).cI.getD i 0).toNat;show(out.getD i 0).toNat=(out.getD ((gx ws D).cI.getD i 0).toNat 0).toNat+1;rw[d];omega
 ·unfold l5;rw[a];apply mw
  ·simp[c];omega
  ·intro i d o;have p:i<ws.length:=by simpa using o
   have:=b i;rw[aC,aJ jO]at this;simp only[List.getElem_take,nG,xw];rw[aC,aJ jO];simp only[xo]at this⊢;omega
theorem ZG{k:Nat->Int}:∀{a b:List Nat},a.Perm b->a.Pairwise (RI k)->b.Pairwise (RI k)->a=b
 |[],b,h,_,_=>(List.nil_perm.1 h).symm
 |x::a,[],h,_,_=>by simp at h
 |x::a,y::b,h,m,l=>by
  have d:=r9.1 m;have c:=r9.1 l
  have e:x=y:=by
   have j:x∈y::b:=h.mem_iff.1 jS;have i:y∈x::a:=h.mem_iff.2 jS;rcases List.mem_cons.1 j with e|e
   ·exact e
   ·rcases List.mem_cons.1 i with e2|e2
    ·exact e2.symm
    ·have g:=c.1 x e;have f:=d.1 y e2;unfold RI at g f;omega
  subst e;rw[ZG h.cons_inv d.2 c.2]
def iW(ws:List Int)(D:List Nat):Prop:=D.Perm (aY ws.length)∧D.Pairwise (RI (bk ws))
theorem iW.one{ws:List Int}{D E:List Nat}(h:iW ws D)(k:iW ws E):D=E:=ZG (h.1.trans k.1.symm) h.2 k.2
open Classical in
noncomputable def mV (ws:List Int):List Nat:=if h:∃D,iW ws D then h.choose else []
theorem iW.eq{ws:List Int}{D:List Nat}(h:iW ws D):mV ws=D:=by unfold mV;have a:∃D,iW ws D:=⟨D,h⟩;rw[dif_pos a];exact a.choose_spec.one h
noncomputable def ik (ws:List Int):List Int:=l5 ws (mV ws)
theorem iW.dep{ws:List Int}{D:List Nat}(h:iW ws D):l5 ws D=ik ws:=by unfold ik;rw[h.eq]
section
variable {ws:List Int} {D:List Nat} {w:Nat->Int} {I A B:Nat->Nat} {X R:Nat->List Nat} {dep:Nat->Nat}
theorem mU.ZH(d:mU ws D w I A B X R dep){i:Nat}(h:i<ws.length):1<=dep i:=by have:=d.m.two;rw[d.d1 i jO];omega
theorem mU.le(d:mU ws D w I A B X R dep){i:Nat}(h:i<ws.length):dep i<ws.length:=by have a:=d.m.two;have u:=d.m.up (show i<2*ws.length-2 by omega);have:=d.m.ZC d.d0 d.d1 (2*ws.length) (I i) jO jO;rw[d.d1 i jO];omega
theorem mU.mem(d:mU ws D w I A B X R dep){P:Int->Prop}:(∀x∈l5 ws D,P x)↔∀i,i<ws.length->P (dep i):=by rw[d.eq];simp
end
def lq(x:Int):Int:=2^(20-x).toNat
def iX(xs:List Int):Int:=bI (xs.map lq)
theorem mU.share{ws:List Int}{D:List Nat}{w:Nat->Int}{I A B:Nat->Nat}{X R:Nat->List Nat}{dep:Nat->Nat}(d:mU ws D w I A B X R dep)(h:∀x∈l5 ws D,x<=20):iX (l5 ws D)=1048576:=by
 have h:=d.mem.1 h;have k:=d.m.two;obtain⟨M,m⟩:∃M,M=2*ws.length+20:=⟨_,rfl⟩;have b:=d.m.aj1 d.d0 d.d1 M jO
 have e:∀l:List Nat,(∀i∈l,i<ws.length)->bI (l.map fun i=>(2:Int)^(M-dep i))=2^(M-20)*bI (l.map fun i=>lq (dep i)):=by
  intro l
  induction l with
  |nil=>intro _;simp[bI]
  |cons x l g=>intro f;have j:=h x (f x jS);simp only[je,bI];rw[g (fun i c=>f i (by simp[c])),Int.mul_add];congr 1;unfold lq;rw[<-aq0];congr 1;omega
 rw[e _ (fun i c=>Cy.1 c)]at b;unfold iX;rw[d.eq,qA]
 have a:(2:Int)^M=2^(M-20)*1048576:=by rw[show(1048576:Int)=2^20 by rfl,<-aq0];congr 1;omega
 rw[a]at b;exact Int.eq_of_mul_eq_mul_left (Int.ne_of_gt (Int.pow_pos jO)) b
end Go.Proofs.YtcehhgppfahbkaaGreatDoor
namespace Go.Proofs.YtcehhgppfahbkaaGreatDoor
open Go.RowKit Ev Hu
theorem My(c:Int):∀l:List Int,(∀x∈l,x<=c)->bI l<=l.length*c
 |[],_=>by simp[bI]
 |x::l,h=>by have b:=My c l (fun y a=>h y (by simp[a]));have:=h x jS;simp only[bI,ct];rw[show((l.length+1:Nat):Int)*c=l.length*c+c by rw[show((l.length+1:Nat):Int)=(l.length:Int)+1 by omega,adu,OE]];omega
theorem ZI{ws:List Int}(b:ws.length<=258)(a:∀x∈ws,x<=2199023255552):bI ws<=1152921504606846976:=by have h:=My 2199023255552 ws a;have:(ws.length:Int)*2199023255552<=258*2199023255552:=ade jO jO;omega
structure Ws (ws:List Int):Prop where
 l2:2<=ws.length
 l3:ws.length<=258
 lo:∀x∈ws,0<=x
 hi:∀x∈ws,x<=2199023255552
theorem Bx{ws:List Int}(h:1<=ws.length):(ik ws).length=ws.length:=yA _ _ h
theorem ZJ(lf d n:Nat)(h:H)(v:Value)(ws:List Int)(o:Row h n 3 .i64 v ws)(a:Ws ws)(g:3000000<=lf)(hd:300<=d):
 ae (fun _=>False) n (eW lf d 233 #[v]) h n fun c h' n'=>iW ws (mV ws)∧Row h' n' 3 .i64 c (ik ws)∧∀b,az c b->n<=b:=by
 obtain⟨e,rfl⟩:∃e,d=e+ws.length+8:=⟨d-ws.length-8,by have:=a.l3;omega⟩;have l:=a.l3;refine(ajw lf e n h v ws o a.l2 jO g a.lo (ZI a.l3 a.hi)).mono ?_;rintro c h' n' _ ⟨D,k,j,i,m⟩;have f:iW ws D:=⟨k,j⟩;rw[f.dep]at i;exact⟨by rw[f.eq];exact f,i,m⟩
theorem Ws.Gi{ws:List Int}(b:Ws ws)(a:iW ws (mV ws)):∃w I A B X R dep,mU ws (mV ws) w I A B X R dep:=aj4 b.l2 a.1 a.2 b.lo
def qj(x:Int):Int:=(if x<0 then 0 else x).tdiv 2+1
def gy(xs:List Int):List Int:=xs.map qj
theorem ZK(x:Int)(h:x<=9223372036854775807):1<=qj x∧qj x<=4611686018427387904∧(0<=x->qj x=x/2+1):=by unfold qj;have:(if x<0 then 0 else x).tdiv 2=(if x<0 then 0 else x)/2:=aq1 (by split<;>omega);rw[this];split<;>omega
theorem ZL(x:Int)(h:x<=9223372036854775807):IntKind.i64.wrap ((if x<0 then 0 else x).tdiv 2)=(if x<0 then 0 else x).tdiv 2∧IntKind.i64.wrap ((if x<0 then 0 else x).tdiv 2+1)=qj x:=by have:=ZK x h;unfold qj at this⊢;exact⟨aV jO jO,aV jO jO⟩
theorem mW(xs:List Int):(gy xs).length=xs.length:=by unfold gy;simp
theorem ZM{xs:List Int}{i:Nat}(h:i<xs.length):(gy xs).getD i 0=qj (xs.getD i 0):=by unfold gy;rw[aC,fo,aJ h,aC,aJ h];rfl
def part(L:List Int)(i:Nat):List Int:=L.take i++bD (L.length-i) 0
theorem Mz(L:List Int){i:Nat}(h:i<=L.length):(part L i).length=L.length:=by unfold part;simp;omega
theorem MA{L:List Int}{i:Nat}(h:i<L.length):(part L i).set i (L.getD i 0)=part L (i+1):=by unfold part;rw[HA _ _ (by simp;omega),cB,r8 jO,j8];obtain⟨e,a⟩:∃e,L.length-i=e+1:=⟨L.length-i-1,jO⟩;rw[a,HE,List.set_cons_zero,show L.length-(i+1)=e by omega,fq h,bW];rw[aC,aJ h];rfl
theorem MB(L:List Int):part L L.length=L:=by unfold part;simp
theorem MC(L:List Int):part L 0=bD L.length 0:=by unfold part;simp
theorem hvL(lf d n:Nat)(h:H)(v:Value)(xs:List Int)(w:Row h n 3 .i64 v xs)(P:xs.length<=1000000)(F:∀x∈xs,x<=9223372036854775807)(x2:Value)(c:Nat)(K:xs.length<=c){W:Nat->Prop}{n0:Nat}(l:n0<=n):
 ∀(m i a:Nat) (j:H),xs.length-i=m->m<a->i<=xs.length->(∀b,b<n->j.get b=h.get b)->j.get n=some ⟨3,true,ints (part (gy xs) i)⟩->
  ae W n0 (wH lf (eW lf d) a (FP lf (eW lf d)) v x2 (.slice (some ⟨n,0,none⟩) xs.length c) v (jI (xs.length:Nat)) (jI (i:Nat))) j (n+1) (fun u h' n'=>Row h' n' 3 .i64 u (gy xs)∧∀b,az u b->n<=b):=by
 intro m
 induction m with
 |zero=>
  intro i a j G r I q e;obtain⟨a,rfl⟩:∃f,a=f+1:=⟨a-1,jO⟩;obtain rfl:i=xs.length:=jO;rw[wH];try simp(disch:=first|omega|assumption) only[Nat.reduceAdd,Nat.reduceLT,RZ,bE]
  (try unfold FP);(try dsimp only)
  try simp(disch:=first|omega|assumption) only[Nat.reduceAdd,Nat.reduceLT,RZ]
  rw[<-mW xs,MB]at e;refine⟨.inr ⟨n,0,c,true,_,by rw[mW],e,dK n,by rw[jV];omega, ?_,by rw[mW];exact K⟩,fun b g=>by rw[g.inj];exact ai n⟩;rw[dx,fG (by rw[jV];exact ai _)];rfl
 |succ m E=>
  intro i a j G r I q e;obtain⟨a,rfl⟩:∃f,a=f+1:=⟨a-1,jO⟩;have t:Row j (n+1) 3 .i64 v xs:=w.ay (cH n) q;have p:=fun b g=>w.lt (b:=b) g;obtain⟨b,D,cap,o,Q,rfl,J,g,_,_,_,s⟩:=t.some jO;have L:b<n:=p b ⟨_,_,_,rfl⟩;have N:(i:Int)<((xs.length:Nat):Int):=jO;have O:=s i jO;have A:(i:Int)+1=((i+1:Nat):Int):=jO;have k:=F (xs.getD i 0) (by rw[aC,aJ jO];exact cb _);obtain⟨z,y⟩:=ZL _ k;have C:(part (gy xs) i).length=xs.length:=by rw[Mz _ (by rw[mW];omega),mW]
  have B:(part (gy xs) i).set i (qj (xs.getD i 0))=part (gy xs) (i+1):=by rw[<-ZM jO,MA (by rw[mW];omega)]
  rw[wH];try simp(disch:=first|omega|assumption) only[Nat.reduceAdd,Nat.reduceLT,RZ,N,J,O,z,y,e,ints_set,jV,C,B]
  refine⟨jO,.inl l, ?_⟩;rw[A];exact E (i+1) a _ jO jO jO (fun b g=>by rw[aB _ _ jO];exact q b g) (get_eq _ _ _)
theorem aj6(lf d n:Nat)(h:H)(v:Value)(xs:List Int)(g:Row h n 3 .i64 v xs)(k:xs.length<=1000000)(i:∀x∈xs,x<=9223372036854775807)(j:3000000<=lf):
 ae (fun _=>False) n (eW lf (d+1) 235 #[v]) h n fun f h' n'=>Row h' n' 3 .i64 f (gy xs)∧∀b,az f b->n<=b:=by
 rw[aF (fun _=>Yc) rfl];refine ae.aE ?_;unfold FQ;have e:=g;obtain⟨a,c,rfl⟩:=g.len;try simp(disch:=first|omega|assumption) only[Nat.reduceAdd,Nat.reduceLT,RZ]
 refine Ev.run_make trivial xs.length xs.length _ (ai _) jO ?_;try simp(disch:=first|omega|assumption) only[Nat.reduceAdd,Nat.reduceLT,RZ]
 refine hvL lf d n h _ xs e k i _ xs.length (ai _) (ai n) xs.length 0 lf _ jO jO jO (fun b l=>aB _ _ jO) ?_;rw[get_eq,MC,mW];unfold ints;rw[zB]
theorem aj7{x:Int}(c:0<=x)(a:x<=20):1<=lq x∧lq x<=1048576:=by unfold lq;have a:(2:Nat)^(20-x).toNat<=2^20:=oD jO jO;have b:1<=(2:Nat)^(20-x).toNat:=Nat.one_le_two_pow;have e:((2:Int)^(20-x).toNat)=(((2:Nat)^(20-x).toNat:Nat):Int):=jS;rw[e];omega
end Go.Proofs.YtcehhgppfahbkaaGreatDoor
namespace Go.Proofs.YtcehhgppfahbkaaGreatDoor
open Hu
end Go.Proofs.YtcehhgppfahbkaaGreatDoor
namespace Go.Proofs.YtcehhgppfahbkaaGreatDoor
open Go.RowKit Ev Hu
theorem dF(a b:Value):su (.tuple #[a,b]) 0=some a:=rfl
theorem ext1(a b:Value):su (.tuple #[a,b]) 1=some b:=rfl
theorem Gj{xs:List Int}{i:Nat}(h:i<xs.length):xs.getD i 0∈xs:=by rw[aC,aJ h];exact cb _
end Go.Proofs.YtcehhgppfahbkaaGreatDoor
namespace Go.Proofs.YtcehhgppfahbkaaGreatDoor
open Go.RowKit Ev Cn
def iN(ln:List Nat):List Int:=ln.map fun(x:Nat)=>(x:Int)
theorem bB(ln:List Nat):(iN ln).length=ln.length:=by unfold iN;simp
theorem iq{ln:List Nat}{i:Nat}:(iN ln).getD i 0=(ln.getD i 0:Int):=by unfold iN;rw[aC,fo,aC];cases ln[i]? <;>rfl
theorem ZN(x:Nat)(ln:List Nat):∀m,jv (x::ln) m=jv ln m+(if x<m then 2^(20-x)else 0)
 |0=>by simp[jv]
 |m+1=>by
  show jv (x::ln) m+cn (x::ln) m*2^(20-m)=jv ln m+cn ln m*2^(20-m)+_;rw[ZN x ln m];have e:cn (x::ln) m=cn ln m+(if x=m then 1 else 0):=by unfold cn;rw[HF];simp
  rw[e,fW];by_cases h:x=m
  ·subst h;rw[if_pos rfl,if_neg (sa x),if_pos (dK x)];omega
  ·rw[if_neg h];by_cases a:x<m
   ·rw[if_pos a,if_pos jO];omega
   ·rw[if_neg a,if_neg jO];omega
theorem ZO:∀{ln:List Nat},(∀x∈ln,x<=20)->iX (iN ln)=(jv ln 21:Int)
 |[],_=>by
  have:∀m,jv [] m=0:=by
   intro m
   induction m with
   |zero=>rfl
   |succ m a=>show jv [] m+cn [] m*_=0;rw[a];simp[cn]
  rw[this];rfl
 |x::ln,h=>by
  have a:=ZO (ln:=ln) fun y b=>h y (fF _ b);have c:=h x j6;rw[ZN,if_pos (show x<21 by omega)];show lq (x:Int)+iX (iN ln)=_;rw[a];unfold lq;rw[show(20-(x:Int)).toNat=20-x by omega];have:((2:Int)^(20-x))=((2^(20-x):Nat):Int):=by push_cast;rfl
  rw[this];omega
theorem aj8{ln:List Nat}(h:∀x∈ln,1<=x∧x<=20)(b:iX (iN ln)=1048576):Wh ln:=⟨h,by
 have:=ZO (ln:=ln) fun x a=>(h x a).2
 omega⟩
section
variable (lf d n:Nat) (h:H) (bP:3000000<=lf)
include bP
theorem aj9(v:Value)(xs:List Int)(x:Row h n 3 .i64 v xs)(O:xs.length<=258)(w:dP 0 20 xs=true):
 ae (fun _=>False) n (eW lf (d+5) 203 #[v]) h n fun C h' n'=>C= .tuple #[jI (iX xs),jI 0]:=by
 have l:=iG.1 w;rw[aF (fun _=>Xg) rfl];refine ae.aE ?_;unfold Ft;have f:=x;obtain⟨a,c,rfl⟩:=x.len;have J:¬((258:Int)<((xs.length:Nat):Int)):=jO;refine jA @J ?_;refine yB (Y5 lf d n h _ xs f 0 20 jO bP) (ai _) fun y u k t=> ?_;rw[w];have r:=f.ay k t;refine jA @gE ?_;refine cG xs.length (fun s i (q:Int)=>wu lf (eW lf (d+4)) s (Fs lf (eW lf (d+4))) (.slice a xs.length c) (jI 0) (jI 0) (jI q) (.bool false) (.slice a xs.length c) (jI (xs.length:Nat)) (jI (i:Nat))) (fun i q h' n'=>(h'=y∧n'=u)∧0<=q∧q<=i*1048576∧q+iX (xs.drop i)=iX xs) ?_ ?_ lf 0 0 y u (bU _) jO ⟨⟨rfl,rfl⟩,jO,jO,by rw[dx];omega⟩
 ·rintro s q h' n' ⟨⟨rfl,rfl⟩,D,q1,q2⟩;rw[wu];refine jA @bE ?_
  (try unfold Fs);(try dsimp only)
  refine jB ?_;rw[my]at q2;have:iX []=0:=rfl;rw[<-q2,this,Int.add_zero]
 ·rintro s i q h' n' m ⟨⟨rfl,rfl⟩,D,q1,q2⟩ next;obtain⟨b,E,cap,o,R,F,G,P,_,_,_,p⟩:=r.some jO;cases F;have I:(i:Int)<((xs.length:Nat):Int):=jO;have K:=p i m;have e:=l (xs.getD i 0) (by rw[aC,aJ m];exact cb _);obtain⟨N,L⟩:=aj7 e.1 e.2;have B:IntKind.i64.wrap (20-xs.getD i 0)=(((20-xs.getD i 0).toNat:Nat):Int):=by rw[aV jO jO];omega
  have j:IntKind.i64.wrap (1*2^(min (((20-xs.getD i 0).toNat:Nat):Int).toNat IntKind.i64.bits))=lq (xs.getD i 0):=by rw[eg,r8 (Nat.le_trans (show(20-xs.getD i 0).toNat<=20 by omega) jD),OE];exact aV (by unfold lq at N;omega) (by unfold lq at L;omega)
  have g:IntKind.i64.wrap (1*2^(min (20-xs.getD i 0).toNat IntKind.i64.bits))=lq (xs.getD i 0):=by rw[eg]at j;exact j
  have A:IntKind.i64.wrap (q+lq (xs.getD i 0))=q+lq (xs.getD i 0):=aV jO jO;have z:(0:Int)<=(((20-xs.getD i 0).toNat:Nat):Int):=jO;have Q:iX (xs.drop i)=lq (xs.getD i 0)+iX (xs.drop (i+1)):=by rw[jY 0 m];rfl
  rw[wu];refine jA (aI @I (aI @G (aI @K (aI @B (aI @z (aI @j (aI @g @A))))))) ?_;refine next _ _ _ ⟨⟨rfl,rfl⟩,jO,jO,jO⟩
theorem ZP(v:Value)(xs:List Int)(z:Int)(u:Row h n 3 .i64 v xs)(E:xs.length<=1000000):
 ae (fun _=>False) n (eW lf (d+1) 160 #[v,jI z]) h n fun A h' n'=>(∃r:Int,A=jI r∧((r=-1∧∀x∈xs,x≠z)∨∃i,i<xs.length∧r=(i:Int)∧xs.getD i 0=z∧∀j,j<i->xs.getD j 0≠z))∧h'=h∧n'=n:=by
 rw[aF (fun _=>VN) rfl];refine ae.aE ?_;unfold E1;have l:=u;obtain⟨a,c,rfl⟩:=u.len;refine jB ?_;refine cG xs.length (fun m i (_:Unit)=>vS lf (eW lf d) m (AP lf (eW lf d)) (.slice a xs.length c) (jI z) (jI 0) (jI (xs.length:Nat)) (jI (i:Nat))) (fun i _ h' n'=>(h'=h∧n'=n)∧∀j,j<i->xs.getD j 0≠z) ?_ ?_ lf 0 () h n (bU _) jO ⟨⟨rfl,rfl⟩,fun j f=>absurd f (lL j)⟩
 ·rintro m _ h' n' ⟨⟨rfl,rfl⟩,g⟩;rw[vS];refine jA @bE ?_
  (try unfold AP);(try dsimp only)
  refine jB ?_;refine⟨-1,rfl,.inl ⟨rfl,fun x C=> ?_⟩⟩;obtain⟨j,f,rfl⟩:=List.mem_iff_getElem.1 C;have:=g j f;rw[aC,aJ f]at this;exact this
 ·rintro m i _ h' n' s ⟨⟨rfl,rfl⟩,g⟩ next;obtain⟨b,B,cap,o,G,D,t,F,_,_,_,k⟩:=l.some jO;cases D;have w:(i:Int)<((xs.length:Nat):Int):=jO;have y:=k i s;rw[vS];by_cases q:z=xs.getD i 0
  ·have p:(z==xs.getD i 0)=true:=by rw[<-q];simp
   refine jA (aI @w (aI @t (aI @y @p))) ?_
   (try unfold AP);(try dsimp only)
   refine jB ?_;exact⟨_,rfl,.inr ⟨i,s,rfl,q.symm,g⟩⟩
  ·have p:(z==xs.getD i 0)=false:=beq_eq_false_iff_ne.2 q;refine jA (aI @w (aI @t (aI @y @p))) ?_;refine next () _ _ ⟨⟨rfl,rfl⟩,fun j f=> ?_⟩;by_cases e:j=i
   ·subst e;exact fun r=>q r.symm
   ·exact g j jO
set_option maxRecDepth 8000 in
theorem aj'(v:Value)(xs:List Int)(m:Row h n 3 .i64 v xs)(A:xs.length<=258)(z:dP 1 20 xs=true):
 ae (fun _=>False) n (eW lf (d+6) 171 #[v]) h n fun c h' n'=>c= .bool (decide (iX xs=1048576)):=by
 have a:=iG.1 z;rw[aF (fun _=>V') rfl];refine ae.aE ?_;unfold KS;refine aN aL (aj9 lf d n h bP v xs m A (iG.2 fun x s=>by have:=a x s;omega)) (ai _) (fun _ _ h=>h.elim) fun G o f j k u=> ?_;subst u;have l:((0:Int)==0)=true:=rfl;by_cases q:iX xs=1048576
 ·have e:(iX xs==1048576)=true:=by rw[q];exact beq_self_eq_true _
  rw[decide_eq_true q]
  have p:ae (fun _=>False) f (eW lf (d+5) 204 #[v,jI 0]) o f fun c h' n'=>c= .bool false:=by
   rw[aF (fun _=>Xh) rfl];refine ae.aE ?_;unfold Lu;refine aN aL (ZP lf (d+3) f o bP v xs 0 (m.ay j fun b C=>k b C id) jO) (ai _) (fun _ _ h=>h.elim) fun F N J y E g=> ?_;obtain⟨⟨r,rfl,t⟩,_,_⟩:=g;rcases t with ⟨rfl,_⟩|⟨i,B,_,K,_⟩
   ·try simp(disch:=first|omega|assumption) only[Nat.reduceAdd,Nat.reduceLT,RZ,cZ,da,db,dc,de,dg,dh,di,dj,dk]
    all_goals (first|trivial|rfl|exact⟨rfl,rfl,rfl⟩|exact⟨rfl,rfl⟩)
   ·have:=a (xs.getD i 0) (by rw[aC,aJ B];exact cb _);omega
  refine jA (aI @dF (aI @ext1 (aI @l @e))) ?_;refine yB p jO fun L I w D=> ?_;exact jC @gO
 ·have e:(iX xs==1048576)=false:=beq_eq_false_iff_ne.2 q;rw[decide_eq_false q];exact jC (aI @dF (aI @ext1 (aI @l @e)))
end
def wU(f:Nat->Nat)(N:Nat):List Value:=(aY N).map fun j=>jI (f j:Int)
theorem Bz(f:Nat->Nat)(N:Nat):(wU f N).length=N:=by unfold wU;simp
def mX(f:Nat->Nat)(j v:Nat):Nat->Nat:=fun i=>if i=j then v else f i
theorem ZQ{f:Nat->Nat}{N j v:Nat}:(wU f N).set j (jI (v:Int))=wU (mX f j v) N:=by
 apply mw
 ·simp[Bz]
 ·intro i b a;rw[HD];simp only[wU,nG,xw,mX];by_cases e:j=i
  ·subst e;simp
  ·rw[if_neg e,if_neg (fun q=>e q.symm)]
def fj(lv cv ov:Value)(f g:Nat->Nat):List Value:=lv::cv::ov::(wU f 21++wU g 22)
theorem aj_{lv cv ov:Value}{f g:Nat->Nat}{j v:Nat}(h:j<21):(fj lv cv ov f g).set (3+j) (jI (v:Int))=fj lv cv ov (mX f j v) g:=by unfold fj;rw[show 3+j=j+1+1+1 by omega,Cs,Cs,Cs,aq2 _ _ (by rw[Bz];exact h),ZQ]
theorem ZR{lv cv ov:Value}{f g:Nat->Nat}{j v:Nat}:(fj lv cv ov f g).set (24+j) (jI (v:Int))=fj lv cv ov f (mX g j v):=by unfold fj;rw[show 24+j=21+j+1+1+1 by omega,Cs,Cs,Cs,HA _ _ (by rw[Bz];omega),Bz,show 21+j-21=j by omega,ZQ]
theorem MD(lv cv ov:Value)(f g:Nat->Nat):(fj lv cv ov f g).length=46:=by unfold fj;simp[Bz]
def dM(f:Nat->Nat)(n:Nat):Nat->Nat:=fun j=>if j<=n then f j else 0
theorem ME(f:Nat->Nat)(n:Nat):mX (dM f n) (n+1) (f (n+1))=dM f (n+1):=by
 funext j;unfold mX dM;by_cases e:j=n+1
 ·subst e;simp
 ·rw[if_neg e];by_cases a:j<=n
  ·rw[if_pos a,if_pos jO]
  ·rw[if_neg a,if_neg jO]
theorem ZS{f:Nat->Nat}(h:f 0=0):dM f 0=fun _=>0:=by
 funext j;unfold dM;by_cases e:j<=0
 ·have:j=0:=jO;subst this;rw[if_pos e,h]
 ·rw[if_neg e]
def iY(ln:List Nat)(n s:Nat):List Int:=(aY ln.length).map fun t=>if ln.getD t 0<n∨(ln.getD t 0=n∧t<s)then(eZ ln t:Int)else 0
theorem Gk(ln:List Nat)(n s:Nat):(iY ln n s).length=ln.length:=by unfold iY;simp
theorem aka(ln:List Nat)(n:Nat):iY ln n ln.length=iY ln (n+1) 0:=by
 unfold iY;apply mq;intro t a;have:=Cy.1 a;by_cases e:ln.getD t 0<n∨(ln.getD t 0=n∧t<ln.length)
 ·rw[if_pos e,if_pos jO]
 ·rw[if_neg e,if_neg jO]
theorem akb{ln:List Nat}{n s:Nat}(h:ln.getD s 0≠n):iY ln n (s+1)=iY ln n s:=by
 unfold iY;apply mq;intro t b;by_cases e:ln.getD t 0<n∨(ln.getD t 0=n∧t<s)
 ·rw[if_pos e,if_pos jO]
 ·rw[if_neg e,if_neg];rintro(q|⟨q1,q2⟩)
  ·exact e (.inl q)
  ·by_cases a:t=s
   ·subst a;exact h q1
   ·exact e (.inr ⟨q1,jO⟩)
theorem akc{ln:List Nat}{n s:Nat}(a:s<ln.length)(h:ln.getD s 0=n):(iY ln n s).set s (eZ ln s:Int)=iY ln n (s+1):=by
 apply mw
 ·simp[Gk]
 ·intro t c b;rw[HD];simp only[iY,nG,xw];by_cases e:s=t
  ·subst e;rw[if_pos rfl,if_pos (.inr ⟨h,dK s⟩)]
  ·rw[if_neg e];by_cases q:ln.getD t 0<n∨(ln.getD t 0=n∧t<s)
   ·rw[if_pos q,if_pos jO]
   ·rw[if_neg q,if_neg jO]
theorem akd{ln:List Nat}(w:Wh ln):iY ln 1 0=bD ln.length 0:=by
 apply mw
 ·simp[Gk]
 ·intro t a b;rw[Gk]at a;have:=w.at a;simp only[iY,nG,xw,List.getElem_replicate];rw[if_neg jO]
def oZ(ln:List Nat):List Int:=(aY ln.length).map fun t=>(eZ ln t:Int)
theorem ake{ln:List Nat}(w:Wh ln):iY ln 21 0=oZ ln:=by unfold iY oZ;apply mq;intro t a;have:=w.at (Cy.1 a);rw[if_pos jO]
theorem ZT:∀(ln:List Nat) (m:Nat),cN ln m<=ln.length
 |[],m=>by
  have:∀m,cN [] m=0:=by
   intro m
   induction m with
   |zero=>rfl
   |succ m b=>show cN [] m+cn [] m=0;rw[b];simp[cn]
  rw[this];exact ai 0
 |x::ln,m=>by
  have a:∀m,cN (x::ln) m=cN ln m+(if x<m then 1 else 0):=by
   intro m
   induction m with
   |zero=>rfl
   |succ m b=>
    show cN (x::ln) m+cn (x::ln) m=cN ln m+cn ln m+_;have e:cn (x::ln) m=cn ln m+(if x=m then 1 else 0):=by unfold cn;rw[HF];simp
    rw[b,e];by_cases h:x=m
    ·subst h;rw[if_neg (sa x),if_pos rfl,if_pos (dK x)];omega
    ·rw[if_neg h];by_cases c:x<m
     ·rw[if_pos c,if_pos jO];omega
     ·rw[if_neg c,if_neg jO];omega
  have:=ZT ln m;rw[a,ct];split<;>omega
theorem akf(ln:List Nat):(j0 ln 21).length<=ln.length:=by rw[rE];exact ZT ln 21
structure qk (h:H) (lo hi c:Nat) (ln:List Nat):Prop where
 ge:lo<=c
 lt:c<hi
 ex:∃lv cv ov,h.get c=some ⟨223,true,fj lv cv ov (dM (dZ ln) 20) (dM (cN ln) 21)⟩∧Row h hi 3 .i64 lv (iN ln)∧(∀b,az lv b->lo<=b)∧Row h hi 40 .u32 cv (oZ ln)∧(∀b,az cv b->lo<=b)∧Row h hi 3 .i64 ov (iN (j0 ln 21))∧(∀b,az ov b->lo<=b)
theorem qk.ay{h h':H}{lo e c:Nat}{ln:List Nat}(x:qk h lo e c ln)(d:∀b,lo<=b->b<e->h'.get b=h.get b):qk h' lo e c ln:=by obtain⟨i,f,q,cv,p,g,o,n,m,l,k,j⟩:=x;exact⟨i,f,q,cv,p,(d c i f).trans g,o.fK (ai _) fun b a=>d b (n b a) (o.lt a),n,m.fK (ai _) fun b a=>d b (l b a) (m.lt a),l,k.fK (ai _) fun b a=>d b (j b a) (k.lt a),j⟩
theorem ku(a b:List Nat):iN (a++b)=iN a++iN b:=by unfold iN;rw[dU]
theorem kv(k:IntKind)(a b:List Int):aH k (a++b)=aH k a++aH k b:=by unfold aH;rw[dU]
theorem ZU(k:IntKind)(l:List Int)(i:Nat)(x:Int):(aH k l).set i (.int k x)=aH k (l.set i x):=by unfold aH;rw[List.map_set]
theorem akg(e:Option Addr)(a c:Nat)(d:Option Addr)(n2 b:Nat):(if 0<JE.length then eU (JE.set 0 (.slice e a c)) [(1,1,.slice d n2 b)]else none)=some (fj (.slice e a c) (.slice d n2 b) (.slice none 0 0) (fun _=>0) (fun _=>0)):=jK
section
variable (lf d n:Nat) (h:H) (bP:3000000<=lf)
include bP
set_option maxHeartbeats 2000000 in
theorem akh(v:Value)(ln:List Nat)(hR:Row h n 3 .i64 v (iN ln))(h3:3<=ln.length)(hl:ln.length<=258)(w:Wh ln)(hs:iX (iN ln)=1048576):
 ae (fun _=>False) n (eW lf (d+7) 138 #[v]) h n fun v' h' n'=>∃c,v'= .tuple #[jP c 0,jI 0]∧qk h' n n' c ln:=by
 have U:=bB ln;rw[aF (fun _=>Vb) rfl];refine ae.aE ?_;unfold ET;have v3:=hR;obtain⟨a,c,rfl⟩:=hR.len;have e1:¬((((iN ln).length:Nat):Int)<3):=jO;have e2:¬((258:Int)<(((iN ln).length:Nat):Int)):=jO
 have hm:dP 1 20 (iN ln)=true:=iG.2 fun x hx=>by unfold iN at hx;obtain⟨y,hy,rfl⟩:=List.mem_map.1 hx;have:=w.lo y hy;omega
 refine jA (aI @e1 @e2) ?_;refine yB (b:=true) ((aj' lf d n h bP _ _ v3 jO hm).mono fun v' _ _ _ e=>by rw[e,decide_eq_true hs]) (ai _) fun h1 n1 u4 x5=> ?_;have v1:=v3.ay u4 x5;refine jA @gE ?_;refine wR aL (yz lf (d+5) n1 h1 _ _ v1 jO jO) u4 fun v2 h2 k T1 w9 x4 w7 t1=> ?_;obtain⟨_,v0,u7⟩:=w7;have K:=v0;obtain⟨t,r,rfl⟩:=v0.len;rw[U]at K u7⊢;refine jB ?_;refine ajH ln.length _ jO ?_;have t2:RB ⟨k,k+1,[]⟩ n1:=⟨fun e he=>(nomatch he),fun e he=>(nomatch he),w9⟩;dsimp only;rw[akg,vd];refine Rn trivial _ _ ?_;try simp(disch:=first|omega|assumption) only[Nat.reduceAdd,Nat.reduceLT,RZ,t1.gq t2,gO,Bool.and_self,oU]
 obtain⟨hb,Q⟩:∃hb,(h2.set k (some ⟨40,true,bD ln.length (.int .u32 0)⟩)).set (k+1) (some ⟨223,true,fj (.slice t ln.length r) (.slice (some ⟨k,0,none⟩) ln.length ln.length) (.slice none 0 0) (fun _=>0) (fun _=>0)⟩)=hb:=⟨_,rfl⟩
 have gc:hb.get (k+1)=some ⟨223,true,fj (.slice t ln.length r) (.slice (some ⟨k,0,none⟩) ln.length ln.length) (.slice none 0 0) (dM (dZ ln) 0) (dM (cN ln) 0)⟩:=by rw[ZS (f:=dZ ln) rfl,ZS (f:=cN ln) rfl,<-Q,get_eq]
 have gv:hb.get k=some ⟨40,true,aH .u32 (iY ln 1 0)⟩:=by rw[<-Q,aB _ _ jO,get_eq,akd w];unfold aH;rw[zB]
 have kb:∀b,b<k->hb.get b=h2.get b:=fun b l=>by rw[<-Q,aB _ _ jO,aB _ _ jO]
 rw[Q]
 have u0:j0 ln 1=[]:=by apply List.eq_nil_of_length_eq_zero;rw[rE,ajW w]
 have w0:fU ln 0 ln.length=0:=by unfold fU;rw[Bt,Mu w];rfl
 have x2:∀{h':H} {n':Nat},k<=n'->(∀b,b<k->h'.get b=h2.get b)->Row h' n' 3 .i64 (.slice a ln.length c) (iN ln):=fun{h'} {n'} u5 G=>by have:=v1.ay (show n1<=n' by omega) fun b l=>(G b jO).trans (x4 b l);rw[U]at this;exact this
 refine cG 20 (fun fu i (q:Nat)=>tq lf (eW lf (d+6)) fu (AH lf (eW lf (d+6))) (.slice a ln.length c) (.pointer none) (jI 0) (jP (k+1) 0) (jI (q:Int)) (jI ((i+1:Nat):Int)) (.bool false) (.bool false))
  (fun i q h' n'=>k+2<=n'∧(∀b,b<k->h'.get b=h2.get b)∧q=fU ln i ln.length∧h'.get k=some ⟨40,true,aH .u32 (iY ln (i+1) 0)⟩∧∃ov,h'.get (k+1)=some ⟨223,true,fj (.slice t ln.length r) (.slice (some ⟨k,0,none⟩) ln.length ln.length) ov (dM (dZ ln) i) (dM (cN ln) i)⟩∧Own h' (k+2) n' 3 ov (aH .i64 (iN (j0 ln (i+1))))) ?_ ?_ lf 0 0 _ _ (bU _) jO ⟨ai _,kb,w0.symm,gv,_,gc,by rw[u0];exact Own.nil _ _ _ _⟩
 ·rintro fu q h' n' ⟨u5,G,rfl,Y,ov,I,O⟩;have e3:¬(((20+1:Nat):Int)<=20):=jO;have c2:(fj (.slice t ln.length r) (.slice (some ⟨k,0,none⟩) ln.length ln.length) ov (dM (dZ ln) 20) (dM (cN ln) 20))[2]? =some ov:=rfl;have L:=O.row;obtain⟨ao,Z,u⟩:=L.len;have C:(iN (j0 ln 21)).length=cN ln 21:=by rw[bB,rE]
  rw[C]at u;have cg:=ZR (lv:= .slice t ln.length r) (cv:= .slice (some ⟨k,0,none⟩) ln.length ln.length) (ov:=ov) (f:=dM (dZ ln) 20) (g:=dM (cN ln) 20) (j:=21) (v:=cN ln 21);rw[ME]at cg;have w2:k+1<n':=jO;have u1:24+21<(fj (.slice t ln.length r) (.slice (some ⟨k,0,none⟩) ln.length ln.length) ov (dM (dZ ln) 20) (dM (cN ln) 20)).length:=by rw[MD];omega
  rw[tq];refine jA @e3 ?_
  (try unfold AH);(try dsimp only)
  rw[u]at I c2 cg u1 L;have x7:((21:Int)).toNat=21:=rfl;try simp(disch:=first|omega|assumption) only[Nat.reduceAdd,Nat.reduceLT,RZ,cZ,da,db,dc,de,dg,dh,di,dj,dk,I,c2,x7]
  refine⟨by simpa using u1,.inl jO, ?_⟩
  have x6:∀h9,h9.get (k+1)=some ⟨223,true,fj (.slice t ln.length r) (.slice (some ⟨k,0,none⟩) ln.length ln.length) (.slice ao (cN ln 21) Z) (dM (dZ ln) 20) (dM (cN ln) 21)⟩->(∀b,b≠k+1->h9.get b=h'.get b)->qk h9 n n' (k+1) ln:=by
   intro h9 x0 W
   have oe:∀b,az (.slice ao (cN ln 21) Z) b->b≠k+1:=fun b l e=>by rw[u]at O;have:=(O.lt l).1;omega
   refine⟨jO,jO,_,_,_,x0, ?_,fun b l=>by have:=u7 b l;omega, ?_,fun b l=>by rw[l.inj];omega,L.fK (ai _) fun b l=>W b (oe b l),fun b l=>by rw[u]at O;have:=(O.lt l).1;omega⟩
   ·exact K.fK jO fun b l=>by have:=K.lt l;rw[W b jO,G b this]
   ·have e:h9.get k=some ⟨40,true,aH .u32 (oZ ln)⟩:=by rw[W k jO,Y,ake w]
    have y1:(oZ ln).length=ln.length:=by unfold oZ;simp
    exact .inr ⟨k,0,ln.length,true,_,by rw[y1],e,jO,by rw[cj];omega,by rw[dx,fG (by rw[cj];omega)],jO⟩
  refine⟨k+1,rfl,x6 _ (by rw[get_eq];congr 2) fun b l=>aB _ _ l⟩
 ·rintro fu i q h' n' hi ⟨u5,G,rfl,Y,ov,I,O⟩ next;have e3:(((i+1:Nat):Int)<=20):=jO;have c2:∀f g,(fj (.slice t ln.length r) (.slice (some ⟨k,0,none⟩) ln.length ln.length) ov f g)[2]? =some ov:=fun _ _=>rfl;have y3:=w.cap (n:=i+1) jO;have y4:2^(i+1)<=2^20:=oD jD jO;have fe:dZ ln (i+1)=2*fU ln i ln.length:=by unfold fU;rw[Bt];rfl
  have w1:IntKind.i64.wrap (((fU ln i ln.length:Nat):Int)*2)=((dZ ln (i+1):Nat):Int):=by rw[aV jO jO];omega
  have L:=O.row;obtain⟨ao,Z,u⟩:=L.len;have C:(iN (j0 ln (i+1))).length=cN ln (i+1):=by rw[bB,rE]
  rw[C]at u;have sf:=aj_ (lv:= .slice t ln.length r) (cv:= .slice (some ⟨k,0,none⟩) ln.length ln.length) (ov:=ov) (f:=dM (dZ ln) i) (g:=dM (cN ln) i) (j:=i+1) (v:=dZ ln (i+1)) jO;rw[ME]at sf;have sg:=ZR (lv:= .slice t ln.length r) (cv:= .slice (some ⟨k,0,none⟩) ln.length ln.length) (ov:=ov) (f:=dM (dZ ln) (i+1)) (g:=dM (cN ln) i) (j:=i+1) (v:=cN ln (i+1));rw[ME]at sg;have w2:k+1<n':=jO;have i1:((i+1:Nat):Int)<21:=jO;have i2:((i+1:Nat):Int)<22:=jO;have i0:(0:Int)<=((i+1:Nat):Int):=jO;have it:((i+1:Nat):Int).toNat=i+1:=rfl;have lc:∀f g,(fj (.slice t ln.length r) (.slice (some ⟨k,0,none⟩) ln.length ln.length) ov f g).length=46:=fun f g=>MD _ _ _ _ _;rw[tq];rw[u]at I c2 sf sg lc;refine jA (aI @e3 (aI @w1 (aI @i0 (aI @i1 (aI @i2 (aI @it (aI @I (aI @sf (aI @lc (aI @true_or @or_true)))))))))) ?_;refine⟨jO,.inl jO, ?_⟩;refine jA (aI @get_eq (aI @c2 (aI @sg @lc))) ?_;refine⟨jO,.inl jO, ?_⟩;obtain⟨hA,X⟩:∃hA,((h'.set (k+1) (some ⟨223,true,fj (.slice t ln.length r) (.slice (some ⟨k,0,none⟩) ln.length ln.length) (.slice ao (cN ln (i+1)) Z) (dM (dZ ln) (i+1)) (dM (cN ln) i)⟩)).set (k+1) (some ⟨223,true,fj (.slice t ln.length r) (.slice (some ⟨k,0,none⟩) ln.length ln.length) (.slice ao (cN ln (i+1)) Z) (dM (dZ ln) (i+1)) (dM (cN ln) (i+1))⟩))=hA:=⟨_,rfl⟩;have gA:hA.get (k+1)=some ⟨223,true,fj (.slice t ln.length r) (.slice (some ⟨k,0,none⟩) ln.length ln.length) (.slice ao (cN ln (i+1)) Z) (dM (dZ ln) (i+1)) (dM (cN ln) (i+1))⟩:=by rw[<-X,get_eq]
  have kA:∀b,b≠k+1->hA.get b=h'.get b:=fun b l=>by rw[<-X,aB _ _ l,aB _ _ l]
  rw[X];have v9:fU ln (i+1) 0=dZ ln (i+1):=by unfold fU;simp[ig,cn]
  rw[u]at O
  refine cG ln.length (fun f2 s (q:Nat)=>tp lf (eW lf (d+6)) f2 (U9 lf (eW lf (d+6)) fu (AH lf (eW lf (d+6)))) (.slice a ln.length c) (.pointer none) (jI 0) (jP (k+1) 0) (jI (q:Int)) (jI ((i+1:Nat):Int)) (.bool false) (.bool false) (.bool true) (.slice a ln.length c) (jI (ln.length:Int)) (jI (s:Int)))
   (fun s q P B=>n'<=B∧(∀b,b<k->P.get b=h2.get b)∧q=fU ln (i+1) s∧P.get k=some ⟨40,true,aH .u32 (iY ln (i+1) s)⟩∧∃ov,P.get (k+1)=some ⟨223,true,fj (.slice t ln.length r) (.slice (some ⟨k,0,none⟩) ln.length ln.length) ov (dM (dZ ln) (i+1)) (dM (cN ln) (i+1))⟩∧Own P (k+2) B 3 ov (aH .i64 (iN (j0 ln (i+1)++gL ln (i+1) s)))) ?_ ?_ lf 0 (dZ ln (i+1)) _ _ (bU _) jO ⟨ai _,fun b l=>by rw[kA b jO];exact G b l,v9.symm,by rw[kA k jO];exact Y,_,gA, ?_⟩
  rotate_left 2
  ·have:gL ln (i+1) 0=[]:=rfl;rw[this,cz];exact O.ay (ai _) fun b l=>kA b fun e=>by have:=(O.lt l).1;omega
  ·rintro f2 q P B ⟨u3,F,rfl,A,p,z,N⟩;have w3:IntKind.i64.wrap (((i+1:Nat):Int)+1)=((i+1+1:Nat):Int):=by rw[aV jO jO];rfl
   have v6:((i+1:Nat):Int)+1=((i+1+1:Nat):Int):=rfl;rw[tp];refine jA @bE ?_
   (try unfold U9);(try unfold ES);(try dsimp only)
   refine jA (aI @w3 @v6) ?_;refine next (fU ln (i+1) ln.length) P B ⟨jO,F,rfl, ?_,p,z,N⟩;rw[<-aka];exact A
  ·rintro f2 s q P B E ⟨u3,F,rfl,A,p,z,N⟩ D;obtain⟨b,v8,cap,o,ks,hv,u6,y7,_,_,_,x1⟩:=(x2 (show k<=B by omega) F).some jO;have u2:fZ a ln.length c= .slice (some ⟨b,v8,none⟩) (iN ln).length cap:=hv;rw[U]at u2;cases u2;have e5:(s:Int)<((ln.length:Nat):Int):=jO;have c5:=x1 s jO;rw[iq]at c5;have y6:k+1<B:=jO;have y2:k<B:=jO;rw[tp];by_cases m:ln.getD s 0=i+1
   ·have T:(((ln.getD s 0:Nat):Int)==((i+1:Nat):Int))=true:=by rw[m];simp
    have J:fU ln (i+1) s=eZ ln s:=Gf m;have u9:=w.Ms E;rw[m]at u9;have w4:IntKind.u32.wrap ((eZ ln s:Nat):Int)=((eZ ln s:Nat):Int):=iH jO;have y0:(fj (.slice t ln.length r) (.slice (some ⟨k,0,none⟩) ln.length ln.length) p (dM (dZ ln) (i+1)) (dM (cN ln) (i+1)))[1]? =some (.slice (some ⟨k,0,none⟩) ln.length ln.length):=rfl;have x9:(fj (.slice t ln.length r) (.slice (some ⟨k,0,none⟩) ln.length ln.length) p (dM (dZ ln) (i+1)) (dM (cN ln) (i+1)))[2]? =some p:=rfl;have x8:∀x,(fj (.slice t ln.length r) (.slice (some ⟨k,0,none⟩) ln.length ln.length) p (dM (dZ ln) (i+1)) (dM (cN ln) (i+1))).set 2 x=fj (.slice t ln.length r) (.slice (some ⟨k,0,none⟩) ln.length ln.length) x (dM (dZ ln) (i+1)) (dM (cN ln) (i+1)):=fun _=>rfl;have w5:IntKind.i64.wrap (((eZ ln s:Nat):Int)+1)=((eZ ln s+1:Nat):Int):=by rw[aV jO jO];rfl
    have v5:((eZ ln s:Nat):Int)+1=((eZ ln s+1:Nat):Int):=rfl;have w6:(s:Int)+1=((s+1:Nat):Int):=rfl;have ch:=akc E m;rw[J];refine jA (aI @e5 (aI @u6 (aI @c5 (aI @T (aI @z (aI @y0 (aI @w4 (aI @A (aI @ZU (aI @ch (aI @cj @Gk))))))))))) ?_;refine⟨E,.inl jO, ?_⟩;have v4:(P.set k (some ⟨40,true,aH .u32 (iY ln (i+1) (s+1))⟩)).get (k+1)=some ⟨223,true,fj (.slice t ln.length r) (.slice (some ⟨k,0,none⟩) ln.length ln.length) p (dM (dZ ln) (i+1)) (dM (cN ln) (i+1))⟩:=by rw[aB _ _ jO];exact z
    refine jA (aI @v4 @x9) ?_;have R:Own (P.set k (some ⟨40,true,aH .u32 (iY ln (i+1) (s+1))⟩)) (k+2) B 3 p (aH .i64 (iN (j0 ln (i+1)++gL ln (i+1) s))):=N.ay (ai _) fun b l=>aB _ _ (by have:=(N.lt l).1;omega)
    have v7:(aH .i64 (iN (j0 ln (i+1)++gL ln (i+1) s))).length<=1000:=by
     rw[cj,bB,aG,rE,Bu _ jO];have h1:=Zt (ln:=ln) (show i+1<=21 by omega)
     have z0:cN ln 21<=ln.length:=by have:=rE ln 21;rw[<-this];exact akf ln
     have y9:=Zm ln (i+1) s;have y8:cn ln (i+1)<=ln.length:=ak0;omega
    refine fJ trivial (eI _ _) R jO jO _ fun h7 g7 k7=> ?_;have x3:h7.get (k+1)=some ⟨223,true,fj (.slice t ln.length r) (.slice (some ⟨k,0,none⟩) ln.length ln.length) p (dM (dZ ln) (i+1)) (dM (cN ln) (i+1))⟩:=by rw[k7 (k+1) jO fun q=>by have:=(R.lt q).1;omega];exact v4
    have y5:k+1<B+2:=jO;refine jA (aI @x3 (aI @x8 @MD)) ?_;refine⟨.inl jO, ?_⟩;rw[v5,w6];have sn:gL ln (i+1) (s+1)=gL ln (i+1) s++[s]:=by rw[Gc,if_pos m]
    have on:aH .i64 (iN (j0 ln (i+1)++gL ln (i+1) (s+1)))=aH .i64 (iN (j0 ln (i+1)++gL ln (i+1) s))++[jI (s:Int)]:=by rw[sn,<-bW,ku,kv];rfl
    refine D (eZ ln s+1) _ _ ⟨jO,fun b l=> ?_,by rw[Ge E,if_pos m,J], ?_,_,get_eq _ _ _, ?_⟩
    ·rw[aB _ _ jO,k7 b jO (fun q=>by have:=(R.lt q).1;omega),aB _ _ jO];exact F b l
    ·rw[aB _ _ jO,k7 k jO (fun q=>by have:=(R.lt q).1;omega),get_eq]
    ·rw[on];refine Or.inr ⟨B+1,jS,by rw[aB _ _ jO];exact g7,jO,jO⟩
   ·have T:(((ln.getD s 0:Nat):Int)==((i+1:Nat):Int))=false:=beq_eq_false_iff_ne.2 fun e=>m jO;have w6:(s:Int)+1=((s+1:Nat):Int):=rfl;have sn:gL ln (i+1) (s+1)=gL ln (i+1) s:=by rw[Gc,if_neg m,cz]
    refine jA (aI @e5 (aI @u6 (aI @c5 @T))) ?_;refine D (fU ln (i+1) s) P B ⟨u3,F,by rw[Ge E,if_neg m];rfl,by rw[akb m];exact A,p,z,by rw[sn];exact N⟩
end
section
variable {lf d n p c lo hi:Nat} {h:H} {S:List UInt8} {D A:Nat} {ln:List Nat}
end
inductive St (α:Type)
 |short
 |bad (e:Int)
 |ok (a:α) (used:Nat)
section
variable {lf d n p q lo size now:Nat} {h:H} {S:List UInt8} {D A:Nat} {lv:Value} {lens:List Nat} {BA:Bool}
end
def gR{c:Type}(E:En->Prop)(m:M c)(h:H)(n:Nat)(Q:c->H->Nat->Prop):Prop:=
 ∃a d b L,m h n=some ⟨a,d,b,L⟩∧n<=b∧(∀e∈L,e.wr=true->E e)∧Q a d b
section
variable {α β:Type} {E:En->Prop} {m:M α} {k:α->M β} {h h1:H} {n n1:Nat} {a:α} {L:List En} {Q:β->H->Nat->Prop}
theorem gR.step(e:m h n=some ⟨a,h1,n1,L⟩)(p:n<=n1)(f:∀e∈L,e.wr=true->E e)(x:gR E (k a) h1 n1 Q):gR E (m.bind k) h n Q:=by
 obtain⟨b,g,c,o,l,r,j,i⟩:=x;refine⟨b,g,c,L++o,bY e l,jO,fun x d=> ?_,i⟩;rcases List.mem_append.1 d with q|q
 ·exact f x q
 ·exact j x q
theorem gR.aE{Q':α->H->Nat->Prop}(x:gR E m h n Q'):gR E (inside m) h n Q':=by obtain⟨a,h1,n1,L,g,f,d,c⟩:=x;exact⟨a,h1,n1,_,iS g,f,fun e b=>d e (List.mem_filter.1 b).1,c⟩
theorem gR.run{Q':α->H->Nat->Prop}{W:Nat->Prop}{n0:Nat}(x:gR E m h n Q')(d:∀e,E e->n0<=e.b∨W e.b):ae W n0 m h n Q':=by obtain⟨a,h1,n1,L,j,i,g,f⟩:=x;exact⟨a,h1,n1,L,j,i,fun e c b=>d e (g e c b),f⟩
theorem aki{a:Value->H->Nat->Prop}(v:Value)(x:a v h n):gR E (aj [v]) h n a:=
 ⟨v,h,n,[],rfl,ai _,fun e b=>(nomatch b),x⟩
end
section
variable {β:Type} {E:En->Prop} {h h1:H} {n n1:Nat} {Q:β->H->Nat->Prop} {P:Program}
theorem gR.ins{m:M Value}{v:Value}{L:List En}{k:Value->M β}(e:m h n=some ⟨v,h1,n1,L⟩)(d:n<=n1)(c:∀e∈L,e.wr=true->E e)(x:gR E (k v) h1 n1 Q):gR E (ew m k) h n Q:=by rw[lQ];exact gR.step (iS e) d (fun x b a=>c x (List.mem_filter.1 b).1 a) x
theorem ZW{T:Prop}(_:T)(b off:Nat)(k:Value->M β){B:AB}(c:h.get b=some B)(d:b<n){v:Value}(a:B.cells[off]? =some v)(x:gR E (k v) h n Q):gR E (aM (jP b off) k) h n Q:=by
 have e:xN b off h n=some ⟨v,h,n,[⟨false,b,some off⟩]⟩:=by rw[Dh];unfold rd;simp only[d,c,a,if_true]
 exact gR.ins e (ai _) jS x
theorem ZX{T:Prop}(_:T)(b off:Nat)(v:Value)(k:Value->M β){e:TypeId}{cs:List Value}(j:h.get b=some ⟨e,true,cs⟩)(l:b<n)(i:off<cs.length)(h1:one v=true)(g:E ⟨true,b,some off⟩)(x:gR E (k undef) (h.set b (some ⟨e,true,cs.set off v⟩)) n Q):
 gR E (bc (jP b off) v k) h n Q:=by
 have c:wr b off v h n=some ⟨(),h.set b (some ⟨e,true,cs.set off v⟩),n,[⟨false,b,some off⟩,⟨true,b,some off⟩]⟩:=by unfold wr;simp[l,j,i,h1]
 have m:((uU b off v).bind fun _=>M.ret undef) h n=some ⟨undef,h.set b (some ⟨e,true,cs.set off v⟩),n,[⟨false,b,some off⟩,⟨true,b,some off⟩]⟩:=by rw[Di];have:=bY (f:=fun _=>M.ret undef) c (L2:=[]) (b:=undef) (h2:=h.set b (some ⟨e,true,cs.set off v⟩)) (n2:=n) rfl;simpa using this
 show gR E (match one v with
  |true=>ew ((uU b off v).bind fun _=>M.ret undef) k
  |false=> .fail) h n Q
 rw[h1];refine gR.ins m (ai _) (fun y d a=> ?_) x;simp at d;rcases d with rfl|rfl
 ·cases a
 ·exact g
end
section
variable {β:Type} {W:Nat->Prop} {n0:Nat} {h:H} {n:Nat} {Q:β->H->Nat->Prop} {P:Program}
theorem akj{m:M Value}(f:Value->M β):ew m f=(ew m M.ret).bind f:=by
 rw[lQ,lQ];funext h n;unfold M.bind M.ret;cases inside m h n with
 |none=>rfl
 |some r=>simp
theorem akk {T:Prop} (c:T) {e:TypeId} {x:Value} (p:one x=true) {lo:Nat} {v:Value} {cs:List Value} (o:Own h lo n e v cs) (s:cs.length+1<=1099511627776) (q:∀b,az v b->n0<=b∨W b) (K:Value×Tk->Value×Tk->M β)
 (y:∀w G F h',h'.get (n+1)=some ⟨e,true,cs++[x]⟩->(∀b,b<n->¬az v b->h'.get b=h.get b)->ae W n0 (K (w,G) (.slice (some ⟨n+1,0,none⟩) (cs.length+1) (aU+(cs.length+1)),F)) h' (n+2) Q):
 ae W n0 ((bx (bV e 1 x M.ret)).bind fun a=>(bx (bH e 1 v a.1 M.ret)).bind fun b=>K a b) h n Q:=by
 obtain⟨a,P,N,L,i,U,d,D⟩:=F' (Q:=fun j h' m=>j=fZ (some ⟨n+1,0,none⟩) (cs.length+1) (aU+(cs.length+1))∧m=n+2∧h'.get (n+1)=some ⟨e,true,cs++[x]⟩∧∀b,b<n->¬az v b->h'.get b=h.get b) c p o s q M.ret fun h' g k=>(sV _).2 ⟨rfl,rfl,g,k⟩
 have E:bV e 1 x (fun w=>bH e 1 v w M.ret)=(bV e 1 x M.ret).bind fun w=>bH e 1 v w M.ret:=by
  unfold bV;split
  ·exact akj _
  ·rfl
 rw[E]at i;obtain⟨w,O,f,J,I,B,C,rfl⟩:=Ev.bind_some i;obtain⟨rfl,rfl,g,k⟩:=D;obtain⟨b,t,l,X,A,R,z,u⟩:=y w ⟨n,f,J⟩ ⟨f,n+2,I⟩ _ g k;refine⟨b,t,l,_,bY (C1 B) (bY (C1 C) A),jO,fun r hr=> ?_,u⟩;simp only[List.mem_append]at hr d;rcases hr with hr|hr|hr
 ·exact d r (.inl hr)
 ·exact d r (.inr hr)
 ·exact z r hr
end
def dN{a:Type}(d:a)(O:List a)(i:Nat):List a:=O.getD i d::(O.take i++O.drop (i+1))
def tZ(O:List Value)(i j:Nat):List Value:=O.take (j+1)++((O.drop j).take (i-j)++O.drop (i+1))
theorem wV{g:Type}{O:List g}(h:O.length=6):∃a b c d e f,O=[a,b,c,d,e,f]:=by
 match O,h with
 |[a,b,c,d,e,f],_=>exact⟨a,b,c,d,e,f,rfl⟩
theorem akl{O:List Value}(h:O.length=6){i:Nat}(g:i<6):tZ O i i=O:=by obtain⟨a,b,c,d,e,f,rfl⟩:=wV h;rcases i with _|_|_|_|_|_|i<;>first|rfl|omega
theorem akm{O:List Value}(h:O.length=6){i j:Nat}(k:i<6)(g:j<i):(tZ O i (j+1)).set (j+1) (O.getD j undef)=tZ O i j:=by obtain⟨a,b,c,d,e,f,rfl⟩:=wV h;rcases i with _|_|_|_|_|_|i<;>rcases j with _|_|_|_|_|j<;>first|rfl|omega
theorem akn{O:List Value}(h:O.length=6){i j:Nat}(k:i<6)(g:j<i):(tZ O i (j+1)).getD j undef=O.getD j undef:=by obtain⟨a,b,c,d,e,f,rfl⟩:=wV h;rcases i with _|_|_|_|_|_|i<;>rcases j with _|_|_|_|_|j<;>first|rfl|omega
theorem ako{O:List Value}(h:O.length=6){i:Nat}(g:i<6):(tZ O i 0).set 0 (O.getD i undef)=dN undef O i:=by obtain⟨a,b,c,d,e,f,rfl⟩:=wV h;rcases i with _|_|_|_|_|_|i<;>first|rfl|omega
theorem ZY{O:List Value}(h:O.length=6){i j:Nat}(k:i<6)(g:j<=i):(tZ O i j).length=6:=by obtain⟨a,b,c,d,e,f,rfl⟩:=wV h;rcases i with _|_|_|_|_|_|i<;>rcases j with _|_|_|_|_|_|j<;>first|rfl|omega
theorem ZZ{O:List Value}{j:Nat}(h:j<O.length):O.getD j undef∈O:=by rw[aC,aJ h];exact cb h
theorem Z0{A O Z:List Value}{j:Nat}(h:j<O.length):(A++(O++Z))[A.length+j]? =some (O.getD j undef):=by rw[oC jO,show A.length+j-A.length=j by omega,nB h,aC,aJ h];rfl
theorem Z3{A O Z:List Value}{j:Nat}(h:j<O.length)(v:Value):(A++(O++Z)).set (A.length+j) v=A++(O.set j v++Z):=by rw[HA _ _ jO,show A.length+j-A.length=j by omega,aq2 _ _ h]
section
variable {lf d n q:Nat} {h:H} {e:TypeId} {A O Z:List Value} {i:Nat}
def Z4(q off:Nat):En->Prop:=fun x=>x.b=q∧∃j,x.k=some j∧off<=j∧j<off+6
theorem akp(m:O.length=6)(C:∀v∈O,one v=true)(g:h.get q=some ⟨e,true,A++(O++Z)⟩)(r:q<n)(l:i<6)(E:100<=lf):
 gR (Z4 q A.length) (eW lf (d+1) 219 #[jP q A.length,jI (i:Int)]) h n fun v h' n'=>v=O.getD i undef∧n'=n∧h'.get q=some ⟨e,true,A++(dN undef O i++Z)⟩∧∀b,b≠q->h'.get b=h.get b:=by
 rw[aF (fun _=>XT) rfl];refine gR.aE ?_;unfold FI
 have p:∀(j:Nat),j<6->∀(k:Value->M Value),gu 6 (jP q A.length) (jI (j:Int)) k=k (jP q (A.length+j)):=fun j x k=>by rw[Js _ 6 q A.length .i64 (j:Int) jO jO,eg]
 have B:i<O.length:=jO
 have u:∀(j a:Nat) (h':H),j<=i->j<a->h'.get q=some ⟨e,true,A++(tZ O i j++Z)⟩->(∀b,b≠q->h'.get b=h.get b)->
  gR (Z4 q A.length) (wD lf (eW lf d) a (FH lf (eW lf d)) (jP q A.length) (jI (i:Int)) (jI 0) (O.getD i undef) (jI (j:Int))) h' n fun v h' n'=>v=O.getD i undef∧n'=n∧h'.get q=some ⟨e,true,A++(dN undef O i++Z)⟩∧∀b,b≠q->h'.get b=h.get b:=by
  intro j
  induction j with
  |zero=>
   intro a h' x F s w;obtain⟨a,rfl⟩:∃f,a=f+1:=⟨a-1,jO⟩;rw[wD];have t:decide ((0:Int)<((0:Nat):Int))=false:=decide_eq_false jO;refine jA @t ?_
   (try unfold FH);(try dsimp only)
   have z:=p 0 jO;simp only[gX]at z;refine jA @z ?_;have c:=ZY (j:=0) m l (bU _);refine ZX trivial q A.length _ _ s r (by simp[c];omega) (C _ (ZZ B)) ⟨rfl,_,rfl,jS,jS⟩ ?_;refine aki _ ⟨rfl,rfl, ?_,fun b o=> ?_⟩
   ·rw[get_eq];have:=Z3 (A:=A) (Z:=Z) (O:=tZ O i 0) (j:=0) jO (O.getD i undef);rw[gX]at this;rw[this,ako m l]
   ·rw[aB _ _ o];exact w b o
  |succ j D=>
   intro a h' x F s w;obtain⟨a,rfl⟩:∃f,a=f+1:=⟨a-1,jO⟩;rw[wD];have t:decide ((0:Int)<((j+1:Nat):Int))=true:=decide_eq_true jO;have y:IntKind.i64.wrap (((j+1:Nat):Int)-1)=(j:Int):=by rw[aV jO jO];omega
   try simp(disch:=first|omega|assumption) only[Nat.reduceAdd,Nat.reduceLT,RZ,t,y,p j jO]
   have c:=ZY (j:=j+1) m l x;refine ZW trivial q (A.length+j) _ s r (Z0 jO) ?_;rw[akn m l jO];try simp(disch:=first|omega|assumption) only[Nat.reduceAdd,Nat.reduceLT,RZ,p (j+1) jO]
   refine ZX trivial q (A.length+(j+1)) _ _ s r (by simp[c];omega) (C _ (ZZ jO)) ⟨rfl,_,rfl,jS,by simp;omega⟩ ?_;refine jA (aI @t @y) ?_;refine D a _ jO jO ?_ fun b o=> ?_
   ·rw[get_eq,Z3 jO,akm m l jO]
   ·rw[aB _ _ o];exact w b o
 try simp(disch:=first|omega|assumption) only[Nat.reduceAdd,Nat.reduceLT,RZ,p i l]
 refine ZW trivial q (A.length+i) _ g r (Z0 B) ?_;exact u i lf h (ai _) jO (by rw[akl m l];exact g) fun _ _=>rfl
end
structure Pk where
 t:Nat
 count:Nat
 ord:List Nat
 Gm:List Nat
section
variable {lf d n p q lo:Nat} {h:H} {S:List UInt8} {D A:Nat} {pv:Value} {s:Pk} {BA:Bool}
theorem akq(z:Int):ae (fun _=>False) n (eW lf (d+1) 192 #[jI z]) h n fun a h' n'=>a= .bool (decide (2<=z)&&decide (z<=6))∧h'=h∧n'=n:=by
 rw[aF (fun _=>W0) rfl];refine ae.aE ?_;unfold Lj;by_cases c:2<=z
 ·exact jC @c
 ·exact jC @c
end
section
variable {lf d n p q lo:Nat} {h:H} {S:List UInt8} {D A:Nat} {pv:Value} {s:Pk} {BA:Bool}
def eM:List Nat:=[0,1,2,3,4,5]
theorem akr(g:100<=lf):ae (fun _=>False) n (eW lf (d+1) 195 #[]) h n fun b h' n'=>b= .agg #[jI 0,jI 1,jI 2,jI 3,jI 4,jI 5]∧n'=n+2:=by
 rw[aF (fun _=>W4) rfl];refine ae.aE ?_;unfold Fo;refine fh Ap _ ?_;refine fh Ap _ ?_;obtain⟨j,c⟩:∃f,lf=f+7:=⟨lf-7,jO⟩
 have a:ae (fun _=>False) n (yp lf (eW lf d) (j+7) (Fm lf (eW lf d)) (jP n 0) (jP (n+1) 0) (jI 0)) ((h.set n (some ⟨237,true,[jI 0,jI 0,jI 0,jI 0,jI 0,jI 0]⟩)).set (n+1) (some ⟨237,true,[jI 0,jI 0,jI 0,jI 0,jI 0,jI 0]⟩)) (n+2) fun b h' n'=>b= .agg #[jI 0,jI 1,jI 2,jI 3,jI 4,jI 5]∧n'=n+2:=by
  iterate 7
   rw[yp];try simp(disch:=first|omega|assumption) only[Nat.reduceAdd,Nat.reduceLT,RZ,cZ,da,db,dc,de,dg,dh,di,dj,dk,Int.reduceToNat,Nat.le_add_right,Nat.reduceLT]
  (try unfold Fm);(try dsimp only)
  refine Bp trivial trivial (sz:=6) (n+1) 0 _ (get_eq _ _ _) jO jS ?_;refine nW (sz:=6) trivial (e:=237) (cs:=[jI 0,jI 0,jI 0,jI 0,jI 0,jI 0]) (vs:=[jI 0,jI 1,jI 2,jI 3,jI 4,jI 5]) rfl rfl rfl ?_ jO (ai _) (.inl (ai _)) _ fun l i k=> ?_
  ·try simp(disch:=first|omega|assumption) only[Nat.reduceAdd,Nat.reduceLT,RZ,cZ,da,db,dc,de,dg,dh,di,dj,dk]
  refine yC trivial trivial (sz:=6) _ _ _ i jO jS ?_;try simp(disch:=first|omega|assumption) only[Nat.reduceAdd,Nat.reduceLT,RZ,cZ,da,db,dc,de,dg,dh,di,dj,dk]
  all_goals (first|trivial|rfl|exact⟨rfl,rfl,rfl⟩|exact⟨rfl,rfl⟩)
 rw[<-c]at a;exact a
theorem aks{a:Type}{b:a}{O:List a}(d:O.length=6){i:Nat}(c:i<6):(dN b O i).length=6:=by unfold dN;simp;omega
theorem akt(O:List Nat)(g:O.length=6){i:Nat}(h:i<6):dN undef (aH .i64 (iN O)) i=aH .i64 (iN (dN 0 O i)):=by obtain⟨a,b,c,d,e,f,rfl⟩:=wV g;rcases i with _|_|_|_|_|_|i<;>first|rfl|omega
end
structure Cd where
 size:Nat
 pk:Pk
 now:Nat
 lens:List Nat
 MF:List (List Nat)
 oc:List Nat
 count:Nat
 done:Bool
 BA:Int
structure Cm where
 q:Nat
 pv:Value
 tv:Value
 r:Nat
 lv:Value
 cv:Value
 pw:Bool
 dw:Bool
 iv:List (Nat×Nat×Nat)
theorem aku{h:H}{a b:Nat}{A B:AB}(f:h.get a=some A)(c:h.get b=some B)(d:A.elem≠B.elem):a≠b:=fun e=>by subst e;rw[f]at c;cases c;exact d rfl
section
variable {h:H} {n z p:Nat} {c:Cd} {m:Cm}
end
section
variable {lf d n z p:Nat} {h:H} {S:List UInt8} {D A:Nat} {c:Cd} {m:Cm}
end
section
variable {lf d n z p:Nat} {h:H} {S:List UInt8} {D A:Nat} {c:Cd} {m:Cm}
end
section
variable {lf d n z p:Nat} {h:H} {S:List UInt8} {D A:Nat} {c:Cd} {m:Cm}
end
theorem akv{j:Nat}(h:j<6):eM.getD j 0=j:=by rcases j with _|_|_|_|_|_|j<;>first|rfl|omega
section
variable {lf d n z p:Nat} {h:H} {S:List UInt8} {D A:Nat} {c:Cd} {m:Cm}
end
inductive Rs
 |err (e:Int)
 |ok (out:List Int) (a:Nat)
section
variable {lf d n z p:Nat} {h:H} {S:List UInt8} {D A:Nat} {c:Cd} {m:Cm}
end
def ch(b:Bool):UInt8:=if b=true then 49 else 48
def ir(l:List Bool):List UInt8:=l.map ch
def tx(l:List Bool):Value:= .string ⟨(ir l).toArray⟩
theorem wW(l:List Bool):(ir l).length=l.length:=by unfold ir;simp
theorem akw(a b:List Bool):ir (a++b)=ir a++ir b:=by unfold ir;simp
theorem Z5(l:List Bool)(k:Nat):(ir l).take k=ir (l.take k):=by unfold ir;rw[zC]
theorem Z6(l:List Bool)(k:Nat):(ir l).drop k=ir (l.drop k):=by unfold ir;rw[xx]
theorem akx{l:List Bool}{i:Nat}(h:i<l.length):(ir l).getD i 0=ch l[i]:=by unfold ir;rw[aC,fo,aJ h];rfl
theorem aky{a b:Bool}(h:ch a=ch b):a=b:=by cases a<;>cases b<;>first|rfl|exact absurd h jD
theorem Z7:∀{a b:List Bool},ir a=ir b->a=b
 |[],[],_=>rfl
 |[],b::m,h=>by simp[ir]at h
 |a::l,[],h=>by simp[ir]at h
 |a::l,b::m,h=>by unfold ir at h;simp only[je,aq3]at h;rw[aky h.1,Z7 (a:=l) (b:=m) h.2]
theorem akz(b:Bool):((ch b).toNat:Int)=48+(bn b:Int):=by cases b<;>rfl
theorem Z8:aZ {data:=#[]}=tx []:=rfl
theorem od:aZ {data:=#[48]}=tx [false]:=rfl
theorem yJ:aZ {data:=#[49]}=tx [true]:=rfl
theorem akA:aZ {data:=#[48,49]}=tx [false,true]:=rfl
theorem Z9(l:List Bool):one (tx l)=true:=rfl
theorem ql(l:List Bool)(k:Value->M Value):cS (tx l) k=k (jI (l.length:Int)):=by unfold tx;rw[Ad,wW]
theorem fL(a b:List Bool)(h:a.length+b.length<=1000000000)(k:Value->M Value):ar (tx a) (tx b) k=k (tx (a++b)):=by unfold tx;rw[rh _ _ _ (by rw[wW,wW];omega),akw]
theorem Z'(a b:List Bool)(k:Value->M Value):ej (tx a) (tx b) k=k (.bool (decide (a=b))):=by
 unfold tx;rw[Aa];by_cases e:a=b
 ·rw[decide_eq_true e,decide_eq_true (by rw[e])]
 ·rw[decide_eq_false e,decide_eq_false fun q=>e (Z7 q)]
theorem aaa(l:List Bool)(k:IntKind)(i:Int)(b:0<=i)(a:i<l.length)(q:Value->M Value):gJ (tx l) (.int k i) q=q (.int .u8 (48+(bn (l.getD i.toNat false):Int))):=by unfold tx;rw[Af _ _ _ _ b (by rw[wW];exact a),akx jO,akz,aC,aJ jO];rfl
theorem aab(l:List Bool)(a:IntKind)(j:Int)(k:Value->M Value)(c:0<=j)(b:j<=l.length):gK (tx l) none (some (.int a j)) k=k (tx (l.take j.toNat)):=by unfold tx;rw[xX _ _ _ _ c (by rw[wW];exact b),Z5]
theorem akB(l:List Bool)(a:IntKind)(j:Int)(k:Value->M Value)(c:0<=j)(b:j<=l.length):gK (tx l) (some (.int a j)) none k=k (tx (l.drop j.toNat)):=by unfold tx;rw[xY _ _ _ _ c (by rw[wW];exact b),Z6]
theorem akC(l:List Bool)(b a:IntKind)(i j:Int)(k:Value->M Value)(d:0<=i)(c:i<=j)(h2:j<=l.length):gK (tx l) (some (.int b i)) (some (.int a j)) k=k (tx ((l.drop i.toNat).take (j.toNat-i.toNat))):=by unfold tx;rw[xZ _ _ _ _ _ _ d c (by rw[wW];exact h2),Z6,Z5]
section
variable {lf d n:Nat} {h:H}
theorem wX(v k:Nat)(y:v<4294967296)(G:k<=64)(A:100<=lf):ae (fun _=>False) n (eW lf (d+1) 80 #[.int .u32 (v:Int),jI (k:Int)]) h n fun m h' n'=>m=tx (bh v k)∧h'=h∧n'=n:=by
 rw[aF (fun _=>agQ) rfl];refine ae.aE ?_;unfold JX;refine cG k (fun a i (s:Nat×List Bool)=>vt lf (eW lf d) a (D9 lf (eW lf d)) (.int .u32 (s.1:Int)) (jI (k:Int)) (.string {data:=#[]}) (tx s.2) (jI (k:Int)) (jI (i:Nat))) (fun i s h' n'=>(h'=h∧n'=n)∧s.1<4294967296∧s.2.length=i∧bh v k=bh s.1 (k-i)++s.2) ?_ ?_ lf 0 (v,[]) h n (bU _) jO ⟨⟨rfl,rfl⟩,y,rfl,jS⟩
 ·rintro a ⟨w,t⟩ h' n' ⟨⟨rfl,rfl⟩,_,_,e⟩;rw[vt];refine jA @bE ?_
  (try unfold D9);(try dsimp only)
  refine jB ?_;rw[e,j8];rfl
 ·rintro a i ⟨w,t⟩ h' n' I ⟨⟨rfl,rfl⟩,c,f,e⟩ next;rw[vt];have c:w<4294967296:=c;have f:t.length=i:=f;have D:(i:Int)<(k:Int):=jO;have C:(w:Int).tmod 2=((w %2:Nat):Int):=rfl;have B:(w:Int).tdiv 2=((w/2:Nat):Int):=rfl;have l:IntKind.u32.wrap ((w %2:Nat):Int)=((w %2:Nat):Int):=iH jO;have j:IntKind.u32.wrap ((w/2:Nat):Int)=((w/2:Nat):Int):=iH jO;have g:IntKind.u32.wrap (((w %2:Nat):Int)+1)=((w %2+1:Nat):Int):=(iH (x:=w %2+1) jO)
  have b:((([48,49]:List UInt8).drop (w %2)).take (w %2+1-w %2))=[ch (decide (w %2=1))]:=by rcases aq4 w with q|q<;>rw[q]<;>rfl
  have F:(([48,49]:List UInt8).length)=2:=rfl;have E:([ch (decide (w %2=1))]++ir t).length=t.length+1:=by simp[ir]
  have b:((([false,true]:List Bool).drop (w %2)).take (w %2+1-w %2))=[decide (w %2=1)]:=by rcases aq4 w with q|q<;>rw[q]<;>rfl
  have p:[decide (w %2=1)].length+t.length<=1000000000:=by simp;omega
  have o:=fun(u:Value->M Value)=>akC [false,true] .u32 .u32 ((w %2:Nat):Int) ((w %2+1:Nat):Int) u jO jO (by show _<=(2:Int);omega);try simp(disch:=first|omega|assumption) only[Nat.reduceAdd,Nat.reduceLT,RZ,D,C,B,l,j,g,akA,o,b,fL _ _ p]
  refine next (w/2,decide (w %2=1)::t) _ _ ⟨⟨rfl,rfl⟩,by show w/2<_;omega,by show t.length+1=_;omega, ?_⟩;rw[e];obtain⟨r,z⟩:∃r,k-i=r+1:=⟨k-i-1,jO⟩;rw[z,show k-(i+1)=r by omega];show(bh (w/2) r++[decide (w %2=1)])++t=bh (w/2) r++(decide (w %2=1)::t);simp
theorem akD{S:List UInt8}(q:S.length<=100000)(m:S.length<lf)(a:100<=lf):ae (fun _=>False) n (eW lf (d+2) 61 #[.string ⟨S.toArray⟩]) h n fun k h' n'=>k=tx (nZ S)∧h'=h∧n'=n:=by
 rw[aF (fun _=>agJ) rfl];refine ae.aE ?_;unfold JT;refine cG S.length (fun c i (_:Unit)=>vq lf (eW lf (d+1)) c (D7 lf (eW lf (d+1))) (.string ⟨S.toArray⟩) (.string {data:=#[]}) (tx (nZ (S.take i))) (jI (i:Nat))) (fun i _ h' n'=>h'=h∧n'=n) ?_ ?_ lf 0 () h n (bU _) jO ⟨rfl,rfl⟩
 ·rintro c _ h' n' ⟨rfl,rfl⟩;rw[vq];refine jA @bE ?_
  (try unfold D7);(try dsimp only)
  refine jB ?_;rw[eh]
 ·rintro c i _ h' n' f ⟨rfl,rfl⟩ next;rw[vq];have p:(i:Int)<((S.length:Nat):Int):=jO;obtain⟨b,g⟩:∃b,S.getD i 0=b:=⟨_,rfl⟩;have o:=b.toNat_lt;have j:IntKind.u32.wrap ((b.toNat:Nat):Int)=((b.toNat:Nat):Int):=iH jO;refine jA (aI @p (aI @g @j)) ?_;refine bz (wX (lf:=lf) (d:=d) b.toNat 8 jO jO a) (ai _) (fun _ _ h=>h.elim) ?_
  have l:(nZ (S.take i)).length+(bh b.toNat 8).length<=1000000000:=by rw[Zw,cA,cB];omega
  try simp(disch:=first|omega|assumption) only[Nat.reduceAdd,Nat.reduceLT,RZ,fL _ _ l]
  have e:nZ (S.take (i+1))=nZ (S.take i)++bh b.toNat 8:=by
   rw[fq f,ajX];have:S[i]=b:=by rw[<-g,aC,aJ f];rfl
   rw[this];show _++(bh b.toNat 8++[])=_;rw[cz]
  have:=next () h' n' ⟨rfl,rfl⟩;rw[e]at this;exact this
theorem akE(l:List Bool)(t:l.length<=31)(q:100<=lf):ae (fun _=>False) n (eW lf (d+1) 62 #[tx l]) h n fun o h' n'=>o= .int .u32 (num l 0:Int)∧h'=h∧n'=n:=by
 rw[aF (fun _=>agL) rfl];refine ae.aE ?_;unfold JU;refine cG l.length (fun a i (_:Unit)=>vr lf (eW lf d) a (D8 lf (eW lf d)) (tx l) (.int .u32 0) (.int .u32 (num (l.take i) 0:Int)) (jI (i:Nat))) (fun i _ h' n'=>h'=h∧n'=n) ?_ ?_ lf 0 () h n (bU _) jO ⟨rfl,rfl⟩
 ·rintro a _ h' n' ⟨rfl,rfl⟩;rw[vr];refine jA (aI @ql @bE) ?_
  (try unfold D8);(try dsimp only)
  refine jB ?_;rw[eh]
 ·rintro a i _ h' n' c ⟨rfl,rfl⟩ next;rw[vr];have r:(i:Int)<((l.length:Nat):Int):=jO;obtain⟨b,f⟩:∃b,l.getD i false=b:=⟨_,rfl⟩;have u:=wS b;have p:=yF (l.take i)
  have s:num (l.take i) 0<2147483648:=eD p (by
   have:2^(l.take i).length<=2^31:=oD jD (by rw[cB];omega)
   exact this)
  have m:IntKind.u8.wrap (48+(bn b:Int)-48)=(bn b:Int):=by rw[show(48+(bn b:Int)-48)=(bn b:Int) by omega];exact w8 jO
  have k:IntKind.u32.wrap ((bn b:Nat):Int)=(bn b:Int):=iH jO
  have j:IntKind.u32.wrap (2*((num (l.take i) 0:Nat):Int))=((2*num (l.take i) 0:Nat):Int):=by rw[show(2*((num (l.take i) 0:Nat):Int))=((2*num (l.take i) 0:Nat):Int) by omega];exact iH jO
  have g:IntKind.u32.wrap (((2*num (l.take i) 0:Nat):Int)+(bn b:Int))=((2*num (l.take i) 0+bn b:Nat):Int):=by rw[show(((2*num (l.take i) 0:Nat):Int)+(bn b:Int))=((2*num (l.take i) 0+bn b:Nat):Int) by omega];exact iH jO
  refine jA (aI @ql (aI @aaa (aI @r (aI @f (aI @m (aI @k (aI @j @g))))))) ?_
  have e:num (l.take (i+1)) 0=2*num (l.take i) 0+bn b:=by
   rw[fq c,ajP];have:l[i]=b:=by rw[<-f,aC,aJ c];rfl
   rw[this]
  have:=next () h' n' ⟨rfl,rfl⟩;rw[e]at this;exact this
end
end Go.Proofs.YtcehhgppfahbkaaGreatDoor
namespace Go.Proofs.YtcehhgppfahbkaaGreatDoor.Ev
open Go Go.RowKit
section
variable {β:Type} {W:Nat->Prop} {n0:Nat} {h h1:H} {n n1:Nat} {Q:β->H->Nat->Prop} {kn:List FuncId}
end
end Go.Proofs.YtcehhgppfahbkaaGreatDoor.Ev
namespace Go.Proofs.YtcehhgppfahbkaaGreatDoor
open Go.RowKit Ev
section
variable {β:Type} {W:Nat->Prop} {n0:Nat} {h:H} {n:Nat} {Q:β->H->Nat->Prop}
theorem iZ {T:Prop} (_:T) {sz:Nat} {b:Nat} {e:TypeId} {cs vs:List Value} (f:vs.length=sz) (m:cs.length=sz) (j:vs.all one=true) (g:h.get b=some ⟨e,true,cs⟩) (i:b<n) (d:n0<=b∨W b) (k:Value->M β)
 (x:∀h',h'.get b=some ⟨e,true,vs⟩->(∀c,c≠b->h'.get c=h.get c)->ae W n0 (k undef) h' n Q):ae W n0 (b9 sz (jP b 0) (.agg vs.toArray) k) h n Q:=by
 refine nW trivial (vs:=vs) rfl f j g i jO d k fun h' l a=>x h' ?_ a;rw[l,nE,List.nil_append,List.drop_eq_nil_of_le jO,cz]
end
theorem Gn{W:Nat->Prop}{n0:Nat}{h:H}{n:Nat}{Q:Value->H->Nat->Prop}{T d:Prop}(_:T)(_:d){sz:Nat}{b:Nat}{e:TypeId}{vs:List Value}(g:h.get b=some ⟨e,true,vs⟩)(a:vs.length=sz)(c:b<n)(x:Q (.agg vs.toArray) h n):ae W n0 (bR sz (jP b 0) fun v=>aj [v]) h n Q:=by
 refine lV b 0 _ g c (by show 0+sz<=vs.length;omega) ?_;rw[zZ];have:((vs.drop 0).take sz)=vs:=by rw[dx,<-a,eh]
 show Q (.agg ((vs.drop 0).take sz).toArray) h n;rw[this];exact x
section
variable {β:Type} {W:Nat->Prop} {n0:Nat} {h:H} {n:Nat} {Q:β->H->Nat->Prop}
theorem akF(b off:Nat)(v:Value)(k:Value×Tk->M β){e:TypeId}{cs:List Value}(i:h.get b=some ⟨e,true,cs⟩)(j:b<n)(g:off<cs.length)(c:one v=true)(f:n0<=b∨W b)(x:∀T,ae W n0 (k (undef,T)) (h.set b (some ⟨e,true,cs.set off v⟩)) n Q):ae W n0 ((bx (bc (jP b off) v M.ret)).bind k) h n Q:=
 ajG (Q':=fun a l d=>a=undef∧l=h.set b (some ⟨e,true,cs.set off v⟩)∧d=n) (Br trivial b off v _ i j g c f ((sV _).2 ⟨rfl,rfl,rfl⟩)) fun a c q T r ⟨p,o,m⟩=>by subst p;subst o;subst m;exact x T
end
end Go.Proofs.YtcehhgppfahbkaaGreatDoor
namespace Go.Proofs.YtcehhgppfahbkaaGreatDoor
open Go.RowKit Ev Cn
def oT(o:List Nat):Value:= .string ⟨(o.map fun x=>dT (48+x)).toArray⟩
theorem nd:aZ {data:=#[48,49,50,51,52,53]}=oT eM:=rfl
theorem MG(o:List Nat)(b:∀x∈o,x<6)(i:Nat)(a:i<o.length)(k:Value->M Value):gJ (oT o) (jI (i:Int)) k=k (.int .u8 ((48+o.getD i 0:Nat):Int)):=by unfold oT;rw[Af _ _ _ _ jO (by rw[cu];omega),eg,aC,fo,aJ a,aC,aJ a];have:=b _ (cb a);show k (gW .u8 ((dT (48+o[i])).toNat:Int))=k (gW .u8 ((48+o[i]:Nat):Int));rw[Cx,lJ jO]
section
variable {lf d n:Nat} {h:H}
theorem akG(o:List Nat)(i:Nat)(b:i<o.length)(v:o.length<=100):ae (fun _=>False) n (eW lf (d+1) 143 #[oT o,jI (i:Int)]) h n fun e h' n'=>e=oT (dN 0 o i)∧h'=h∧n'=n:=by
 rw[aF (fun _=>Vj) rfl];refine ae.aE ?_;unfold Kr;obtain⟨l,a⟩:∃l,(o.map fun x=>dT (48+x))=l:=⟨_,rfl⟩;have m:l.length=o.length:=by rw[<-a,cu]
 have w:(i:Int)+1=((i+1:Nat):Int):=jO;have c:IntKind.i64.wrap ((i:Int)+1)=((i+1:Nat):Int):=by rw[aV jO jO];omega
 have j:=fun(k:Value->M Value)=>xZ k l .i64 .i64 (i:Int) ((i+1:Nat):Int) jO jO jO;have g:=fun(k:Value->M Value)=>xX k l .i64 (i:Int) jO jO;have f:=fun(k:Value->M Value)=>xY k l .i64 ((i+1:Nat):Int) jO jO;have u:((l.drop i).take (i+1-i)).length=1:=by rw[cB,fp];omega
 have t:(l.take i).length=i:=by rw[cB];omega
 have s:(l.drop (i+1)).length<=o.length:=by rw[fp];omega
 have r:=fun(k:Value->M Value)=>rh k ((l.drop i).take (i+1-i)) (l.take i) jO;have q:=fun(k:Value->M Value)=>rh k ((l.drop i).take (i+1-i)++l.take i) (l.drop (i+1)) (by rw[aG];omega);unfold oT;rw[a];refine jA (aI @c (aI @j (aI @g (aI @f (aI @r @q))))) ?_;unfold dN
 have p:(l.drop i).take (i+1-i)=[dT (48+o.getD i 0)]:=by rw[show i+1-i=1 by omega,<-a,<-xx,uv b,aC,aJ b];rfl
 rw[p,<-a];simp[zC,xx]
end
section
variable {lf d n:Nat} {h:H}
end
section
variable {lf d n:Nat} {h:H}
end
theorem Gp(a b:Bool):dW Tryz.prog .neq 4 (.bool a) (.bool b)=some (.bool (xor a b)):=by cases a<;>cases b<;>kernel_rfl
section
variable {lf d n:Nat} {h:H}
theorem akH(l:List Bool)(k:Nat)(K:k<=20)(J:l.length<=k)(F:100<=lf):ae (fun _=>False) n (eW lf (d+1) 178 #[tx l,jI (k:Int)]) h n fun s h' n'=>s=tx ((ij l).1++bD (k-l.length) false)∧h'=h∧n'=n:=by
 rw[aF (fun _=>aij) rfl];refine ae.aE ?_;unfold K4
 have x:∀(B q:Value) (c:Bool) (r a:Nat) (t:List Bool),t=(ij l).1++bD (k-l.length-r) false->r<=k-l.length->r<a->ae (fun _=>False) n (we lf (eW lf d) a (Fe lf (eW lf d)) (tx l) (jI (k:Int)) (.string {data:=#[]}) (tx t) (.bool c) B q) h n fun s h' n'=>s=tx ((ij l).1++bD (k-l.length) false)∧h'=h∧n'=n:=by
  intro B q c r
  induction r with
  |zero=>
   intro a t i E A;obtain⟨a,rfl⟩:∃f,a=f+1:=⟨a-1,jO⟩;have m:t.length=k:=by rw[i,aG,yI,jQ];omega
   have g:¬(((t.length:Nat):Int)<(k:Int)):=jO;rw[we];refine jA (aI @ql @g) ?_
   (try unfold Fe);(try unfold e);(try dsimp only)
   refine jB ?_;rw[i];rfl
  |succ r z=>
   intro a t i E A;obtain⟨a,rfl⟩:∃f,a=f+1:=⟨a-1,jO⟩;have m:t.length=k-(r+1):=by rw[i,aG,yI,jQ];omega
   have g:((t.length:Nat):Int)<(k:Int):=jO;have p:=fL t [false] (by rw[m];show _+1<=_;omega);rw[we];refine jA (aI @ql (aI @g (aI @od @p))) ?_;refine z a (t++[false]) ?_ jO jO;rw[i,bW,<-aqw,show k-l.length-(r+1)+1=k-l.length-r by omega]
 have y:∀(j:Nat) (a:Nat),j<=l.length->j<a->ae (fun _=>False) n (tG lf (eW lf d) a (AV lf (eW lf d)) (tx l) (jI (k:Int)) (.string {data:=#[]}) (tx (ij (l.drop j)).1) (.bool (ij (l.drop j)).2) (jI ((j:Int)-1))) h n fun s h' n'=>s=tx ((ij l).1++bD (k-l.length) false)∧h'=h∧n'=n:=by
  intro j
  induction j with
  |zero=>
   intro a G A;obtain⟨a,rfl⟩:∃f,a=f+1:=⟨a-1,jO⟩;rw[tG];have g:decide ((0:Int)<=((0:Nat):Int)-1)=false:=decide_eq_false jO;refine jA @g ?_
   (try unfold AV);(try dsimp only)
   refine x _ _ _ (k-l.length) lf _ ?_ (ai _) jO;rw[j8,dx];simp
  |succ j z=>
   intro a G A;obtain⟨a,rfl⟩:∃f,a=f+1:=⟨a-1,jO⟩;have C:j<l.length:=jO;have gZ:l.drop j=l[j]::l.drop (j+1):=uv C;have kH:l.getD j false=l[j]:=by rw[aC,aJ C];rfl
   have o:=aaa l .i64 (j:Int) jO jO;rw[eg,kH]at o;have:=z a jO jO;rw[gZ]at this;rw[tG,show(((j+1:Nat):Int)-1)=(j:Int) by omega];obtain⟨b,I⟩:∃b,l[j]=b:=⟨_,rfl⟩;obtain⟨c,D⟩:∃c,(ij (l.drop (j+1))).2=c:=⟨_,rfl⟩;obtain⟨t,i⟩:∃t,(ij (l.drop (j+1))).1=t:=⟨_,rfl⟩;have m:t.length<=20:=by rw[<-i,yI,fp];omega
   rw[I]at this o;simp only[ij]at this;rw[D,i]at this;rw[D,i];have g:(0:Int)<=(j:Int):=jO;have w:=fL [false] t (by show 1+_<=_;omega);have p:=fL [true] t (by show 1+_<=_;omega);have v:(48+((bn false:Nat):Int)==49)=false:=rfl;have u:(48+((bn true:Nat):Int)==49)=true:=rfl;cases b<;>cases c
   ·refine jA (aI @g (aI @o (aI @v (aI @u (aI @od (aI @yJ (aI @w (aI @p (aI @Gp (aI @OI (aI @OJ (aI @gE @gO)))))))))))) ?_;exact this
   ·refine jA (aI @g (aI @o (aI @v (aI @u (aI @od (aI @yJ (aI @w (aI @p (aI @Gp (aI @OI (aI @OJ (aI @gE @gO)))))))))))) ?_;exact this
   ·refine jA (aI @g (aI @o (aI @v (aI @u (aI @od (aI @yJ (aI @w (aI @p (aI @Gp (aI @OI (aI @OJ (aI @gE @gO)))))))))))) ?_;exact this
   ·refine jA (aI @g (aI @o (aI @v (aI @u (aI @od (aI @yJ (aI @w (aI @p (aI @Gp (aI @OI (aI @OJ (aI @gE @gO)))))))))))) ?_;exact this
 have:=y l.length lf (ai _) jO;rw[my]at this;refine jA @ql ?_;exact this
end
def ua(ln:List Nat)(n i j:Nat):Value:=if ln.getD j 0<n∨(ln.getD j 0=n∧j<i)then tx (bh (eZ ln j) (ln.getD j 0))else tx []
def ck(ln:List Nat)(n i:Nat):List Value:=(aY ln.length).map (ua ln n i)
theorem Gq(ln:List Nat)(n i:Nat):(ck ln n i).length=ln.length:=by unfold ck;simp
theorem aac{ln:List Nat}{n i j:Nat}(h:j<(ck ln n i).length):(ck ln n i)[j]=ua ln n i j:=by have:=nG (ua ln n i) (l:=aY ln.length) (h:=h);rw[xw]at this;exact this
theorem akI{ln:List Nat}{n i:Nat}(h:ln.getD i 0≠n):ck ln n (i+1)=ck ln n i:=by
 unfold ck;apply mq;intro j _;unfold ua;by_cases e:j=i
 ·subst e;by_cases a:ln.getD j 0<n
  ·rw[if_pos (.inl a),if_pos (.inl a)]
  ·rw[if_neg (by rintro(q|⟨q,_⟩);exact a q;exact h q),if_neg (by rintro(q|⟨q,_⟩);exact a q;exact h q)]
 ·by_cases a:ln.getD j 0<n∨(ln.getD j 0=n∧j<i)
  ·rw[if_pos a,if_pos jO]
  ·rw[if_neg a,if_neg jO]
theorem akJ{ln:List Nat}{n i:Nat}(c:i<ln.length)(h:ln.getD i 0=n):(ck ln n i).set i (tx (bh (eZ ln i) n))=ck ln n (i+1):=by
 apply mw
 ·rw[qC,Gq,Gq]
 ·intro j d b;rw[Gq]at b;rw[HD,aac,aac];unfold ua;by_cases e:i=j
  ·subst e;rw[if_pos rfl,if_pos (.inr ⟨h,jO⟩),h]
  ·rw[if_neg e];by_cases a:ln.getD j 0<n∨(ln.getD j 0=n∧j<i)
   ·rw[if_pos a,if_pos jO]
   ·rw[if_neg a,if_neg jO]
theorem akK(ln:List Nat)(n:Nat):ck ln n ln.length=ck ln (n+1) 0:=by
 unfold ck;apply mq;intro j b;rw[Cy]at b;unfold ua;by_cases a:ln.getD j 0<n+1∨(ln.getD j 0=n+1∧j<0)
 ·rw[if_pos a,if_pos jO]
 ·rw[if_neg a,if_neg jO]
theorem akL{ln:List Nat}(w:Wh ln):ck ln 1 0=bD ln.length (tx []):=by unfold ck;rw[List.eq_replicate_iff];refine⟨jS,fun x b=> ?_⟩;obtain⟨j,a,rfl⟩:=List.mem_map.1 b;rw[Cy]at a;unfold ua;have:=(w.at a).1;rw[if_neg jO]
def yK(ln:List Nat):List Value:=(aY ln.length).map fun j=>tx (bh (eZ ln j) (ln.getD j 0))
theorem akM{ln:List Nat}(w:Wh ln):ck ln 21 0=yK ln:=by unfold ck yK;apply mq;intro j a;rw[Cy]at a;unfold ua;have:=(w.at a).2;rw[if_pos jO]
section
variable {lf d n:Nat} {h:H}
theorem akN{v:Value}{ln:List Nat}(hR:Row h n 3 .i64 v (iN ln))(w:Wh ln)(hl:ln.length<=258)(u1:0<ln.length)(u0:3000<=lf):ae (fun _=>False) n (eW lf (d+2) 148 #[v]) h n fun W h' n'=>W= .slice (some ⟨n,0,none⟩) ln.length ln.length∧n'=n+1∧h'.get n=some ⟨9,true,yK ln⟩∧∀b,b<n->h'.get b=h.get b:=by
 have L:=bB ln;obtain⟨q,e,cap,o,ks,rfl,N,O,_,_,_,J⟩:=hR.some jO;rw[aF (fun _=>ahX) rfl];refine ae.aE ?_;unfold KB;refine jB ?_;rw[L];refine Ev.run_make trivial ln.length ln.length _ (ai _) jO ?_;refine cG 20 (fun C i (s:List Bool)=>tB lf (eW lf (d+1)) C (yl lf (eW lf (d+1))) (.slice (some ⟨q,e,none⟩) ln.length cap) (.slice none 0 0) (.slice (some ⟨n,0,none⟩) ln.length ln.length) (tx s) (jI ((i+1:Nat):Int))) (fun i s h' n'=>n'=n+1∧h'.get n=some ⟨9,true,ck ln (i+1) 0⟩∧(∀b,b<n->h'.get b=h.get b)∧lj ln (i+1) 0 s∧s.length<=i) ?_ ?_ lf 0 [] _ (n+1) (bU _) jO ⟨rfl,by rw[get_eq,akL w];rfl,fun b F=>aB _ _ jO,lj.zero w,bU _⟩
 ·rintro C s h' n' ⟨rfl,g,k,_⟩;rw[tB];have R:¬(((20+1:Nat):Int)<=20):=jO;refine jA @R ?_
  (try unfold yl);(try dsimp only)
  refine jB ?_;exact⟨by rw[g,akM w],k⟩
 ·rintro C i s h' n' hi ⟨rfl,g,k,Z,sl⟩ next;rw[tB];have R:((i+1:Nat):Int)<=20:=jO;refine jA @R ?_;refine cG ln.length (fun m j (s:List Bool)=>qd lf (eW lf (d+1)) m (KA lf (eW lf (d+1)) C (yl lf (eW lf (d+1)))) (.slice (some ⟨q,e,none⟩) ln.length cap) (.slice none 0 0) (.slice (some ⟨n,0,none⟩) ln.length ln.length) (tx s) (jI ((i+1:Nat):Int)) (.bool true) (.slice (some ⟨q,e,none⟩) ln.length cap) (jI (ln.length:Int)) (jI (j:Nat))) (fun j s h' n'=>n'=n+1∧h'.get n=some ⟨9,true,ck ln (i+1) j⟩∧(∀b,b<n->h'.get b=h.get b)∧lj ln (i+1) j s∧s.length<=i+1) ?_ ?_ lf 0 s h' (n+1) (bU _) jO ⟨rfl,g,k,Z,jO⟩
  ·rintro m s2 z Y ⟨rfl,u,y,l,f⟩;rw[qd];refine jA @bE ?_
   (try unfold KA);(try unfold E0);(try dsimp only)
   refine jB ?_;rw[akK]at u;have:=next s2 z (n+1) ⟨rfl,u,y,l.row,f⟩
   first|exact this|(rw[show(((i+1:Nat):Int)+1)=((i+1+1:Nat):Int) by omega];exact this)
  ·rintro m j s2 z Y E ⟨rfl,u,y,l,f⟩ a;rw[qd];have I:(j:Int)<((ln.length:Nat):Int):=jO;have D:=J j jO;rw[iq]at D;have P:z.get q=_:=(y q O).trans N;have u2:q<n+1:=jO;by_cases A:ln.getD j 0=i+1
   ·obtain⟨c,p⟩:=l.yH w E A;have G:((((ln.getD j 0:Nat):Int)) !=((i+1:Nat):Int))=false:=by rw[A];simp
    have iD:=akJ E A;have B:j<(ck ln (i+1) j).length:=by rw[Gq];exact E
    by_cases K:s2=[]
    ·subst K;rw[if_pos rfl]at c;have Q:decide (([]:List Bool)=[])=true:=rfl;refine jA (aI @I (aI @P (aI @D (aI @G (aI @Z8 (aI @Z' @Q)))))) ?_;refine cG (i+1) (fun x r (_:Unit)=>vR lf (eW lf (d+1)) x (Vz lf (eW lf (d+1)) m (KA lf (eW lf (d+1)) C (yl lf (eW lf (d+1))))) (.slice (some ⟨q,e,none⟩) ln.length cap) (.slice none 0 0) (.slice (some ⟨n,0,none⟩) ln.length ln.length) (tx (bD r false)) (jI ((i+1:Nat):Int)) (jI (j:Nat)) (jI ((ln.getD j 0:Nat):Int)) (.bool true) (.slice (some ⟨q,e,none⟩) ln.length cap) (jI (ln.length:Int)) (jI (j:Nat)) (.bool true) (.bool false) (.bool true) (jI ((i+1:Nat):Int)) (jI (r:Nat))) (fun r _ h' n'=>n'=n+1∧h'=z) ?_ ?_ lf 0 () z (n+1) (bU _) jO ⟨rfl,rfl⟩
     ·rintro x _ T X ⟨rfl,rfl⟩;rw[vR];refine jA @bE ?_
      (try unfold Vz);(try unfold EZ);(try dsimp only)
      rw[c];refine jA @I ?_;refine Br trivial n j _ _ u jO B (Z9 _) (.inl (ai _)) ?_;refine jB ?_;rw[iD];exact a (bh (eZ ln j) (i+1)) _ (n+1) ⟨rfl,get_eq _ _ _,fun b F=>by rw[aB _ _ jO];exact y b F,p,by rw[cA];exact ai _⟩
     ·rintro x r _ T X hr ⟨rfl,rfl⟩ t;rw[vR];have c3:(r:Int)<((i+1:Nat):Int):=jO;have U:=fL (bD r false) [false] (by rw[jQ];show _+1<=_;omega);rw[<-aqw]at U;refine jA (aI @c3 (aI @od @U)) ?_;exact t () T (n+1) ⟨rfl,rfl⟩
    ·have Q:decide (s2=[])=false:=decide_eq_false K;rw[if_neg K]at c;refine jA (aI @I (aI @P (aI @D (aI @G (aI @Z8 (aI @Z' @Q)))))) ?_;refine bz (akH (lf:=lf) (d:=d) s2 (i+1) jO f jO) jO (fun _ _ h=>h.elim) ?_;rw[c];refine jB ?_;refine Br trivial n j _ _ u jO B (Z9 _) (.inl (ai _)) ?_;refine jB ?_;rw[iD];exact a (bh (eZ ln j) (i+1)) _ (n+1) ⟨rfl,get_eq _ _ _,fun b F=>by rw[aB _ _ jO];exact y b F,p,by rw[cA];exact ai _⟩
   ·have G:((((ln.getD j 0:Nat):Int)) !=((i+1:Nat):Int))=true:=by rw[bne_iff_ne];omega
    refine jA (aI @I (aI @P (aI @D @G))) ?_;rw[<-akI A]at u;exact a s2 z (n+1) ⟨rfl,u,y,l.skip E A,f⟩
end
section
variable {lf d n:Nat} {h:H}
end
def TT(h:H)(lo n:Nat)(v:Value)(a:List (List Nat)):Prop:=∃c,Own h lo n 199 v c∧c.length=a.length∧∀i,i<a.length->∃b,c.getD i undef= .slice (some ⟨b,0,none⟩) (a.getD i []).length (a.getD i []).length∧h.get b=some ⟨9,true,yK (a.getD i [])⟩∧lo<=b∧b<n
theorem TT.nil(h:H)(lo n:Nat):TT h lo n (.slice none 0 0) []:=⟨[],Own.nil _ _ _ _,rfl,fun i a=>absurd a (lL i)⟩
section
variable {lf d n:Nat} {h:H}
end
section
variable {β:Type} {W:Nat->Prop} {n0:Nat} {h:H} {n m:Nat} {Q:β->H->Nat->Prop}
end
section
variable {lf d n:Nat} {h:H}
end
section
variable {lf d n:Nat} {h:H}
end
abbrev Ck:=List Int->Int->Option Int
def dL:Nat->List (List Nat)->List Nat->Nat->List Bool->Ck->List Int->Nat->Rs
 |0,_,_,_,_,_,_,_=> .err 3
 |N+1,b,c,d,f,ck,out,a=>if c.length<=out.length/50 then .err 25 else
  match Zp (b.getD (c.getD (out.length/50) 0) []) f with
  |none=> .err 3
  |some s=>match ck out (s:Int)with
   |some e=> .err e
   |none=>if s+1=d then .ok (out++[(s:Int)]) (a+(b.getD (c.getD (out.length/50) 0) []).getD s 0)
    else dL N b c d (f.drop ((b.getD (c.getD (out.length/50) 0) []).getD s 0)) ck (out++[(s:Int)]) (a+(b.getD (c.getD (out.length/50) 0) []).getD s 0)
section
variable {lf d n z p:Nat} {h:H} {c:Cd} {m:Cm}
end
structure Sy (s:List Nat):Prop where
 inc:s.Pairwise (·<·)
 lt:∀x∈s,x<256
theorem Sy.len{s:List Nat}(h:Sy s):s.length<=256:=by have:=(List.nodup_iff_pairwise_ne.2 (h.inc.imp fun q=>Nat.ne_of_lt q)).length_le_of_subset (l₂:=aY 256) fun x a=>Cy.2 (h.lt x a);simpa using this
structure Zr where
 n:Nat
 most:Nat
 told:Nat
 gf:Nat
 weight:Nat
 done:Bool
def fk:List Nat->List Nat->List Nat×List Nat
 |ord,[]=>([],ord)
 |ord,p::l=>(ord.getD p 0::(fk (dN 0 ord p) l).1,(fk (dN 0 ord p) l).2)
theorem MH:∀(l k a:List Nat),fk a (l++k)=((fk a l).1++(fk (fk a l).2 k).1,(fk (fk a l).2 k).2)
 |[],k,a=>rfl
 |p::l,k,a=>by show(a.getD p 0::(fk (dN 0 a p) (l++k)).1,(fk (dN 0 a p) (l++k)).2)=_;rw[MH l k];rfl
theorem BB{a:List Nat}{i:Nat}(h:i<a.length):(dN 0 a i).length=a.length:=by unfold dN;simp;omega
theorem akO{a:List Nat}{i x:Nat}(h:i<a.length)(hx:x∈dN 0 a i):x∈a:=by
 unfold dN at hx;rcases List.mem_cons.1 hx with rfl|hx
 ·rw[aC,aJ h];exact cb _
 ·rcases List.mem_append.1 hx with q|q
  ·exact j4 q
  ·exact zA q
structure Rw where
 cd:Cd
 z:Zr
 ord:List Nat
 due:Nat
 place:Nat
structure Bk where
 head:Bool
 sum:Nat
 frm:Nat
 row:Option Rw
 last:List Nat
 done:Bool
section
variable {lf d n:Nat} {h:H}
theorem aad:∀{a b:List Nat},a.Pairwise (·<·)->b.Pairwise (·<·)->(∀x,x∈a↔x∈b)->a=b
 |[],[],_,_,_=>rfl
 |[],y::b,_,_,h=>absurd ((h y).2 jS) jS
 |x::a,[],_,_,h=>absurd ((h x).1 jS) jS
 |x::a,y::b,g,f,h=>by
  obtain⟨d,j⟩:=r9.1 g;obtain⟨c,i⟩:=r9.1 f
  have e:x=y:=by
   rcases List.mem_cons.1 ((h x).1 jS)with q|q
   ·exact q
   ·have k:=c x q;rcases List.mem_cons.1 ((h y).2 jS)with q2|q2
    ·exact q2.symm
    ·have:=d y q2;omega
  subst e;rw[aad j i fun z=>⟨fun q=> ?_,fun q=> ?_⟩]
  ·rcases List.mem_cons.1 ((h z).1 (by simp[q]))with q2|q2
   ·have:=d z q;omega
   ·exact q2
  ·rcases List.mem_cons.1 ((h z).2 (by simp[q]))with q2|q2
   ·have:=c z q;omega
   ·exact q2
end
section
variable {lf d n y:Nat} {h:H} {z:Zr}
end
section
variable {β:Type} {W:Nat->Prop} {n0:Nat} {h:H} {n:Nat} {Q:β->H->Nat->Prop}
theorem akP {b off a f d t j:Nat} {e:TypeId} {cs:List Value} (o:h.get b=some ⟨e,true,cs⟩) (p:b<n) (r:cs.all one=true) (D:d<=f) (h2:0<d) (F:off+d<=cs.length) (E:a+d<=cs.length) (B:n0<=b∨W b) (k:Value->M β)
 (x:∀h',h'.get b=some ⟨e,true,cs.take off++(cs.drop a).take d++cs.drop (off+d)⟩->(∀c,c≠b->h'.get c=h.get c)->ae W n0 (k (jI (d:Int))) h' n Q):ae W n0 (Dx 1 (.slice (some ⟨b,off,none⟩) f t) (.slice (some ⟨b,a,none⟩) d j) k) h n Q:=by
 obtain⟨u,O,N⟩:=nU o p d a E;have i:((cs.drop a).take d).length=d:=by simp;omega
 have l:((cs.drop a).take d).all one=true:=by rw[mu]at r⊢;exact fun v C=>r v (zA (j4 C))
 obtain⟨h',P,J,s,I,G⟩:=Jz _ b off e cs h n o p (by rw[i];exact F) l;rw[i]at s;refine hH (m:=uX 1 _ _) ?_;have z:Nat.min d f=d:=r8 D
 have L:uX 1 (.slice (some ⟨b,off,none⟩) f t) (.slice (some ⟨b,a,none⟩) d j) h n=some ⟨jI (d:Int),h',n,u++(P++[])⟩:=by
  show(if 0<Nat.min d f then(sO 1 (Nat.min d f) (.slice (some ⟨b,a,none⟩) d j)).bind (fun w=>(oM b off w).bind fun _=>M.ret (jI (Nat.min d f)))else M.ret (jI 0)) h n=_;rw[z,if_pos h2]
  have K:sO 1 d (.slice (some ⟨b,a,none⟩) d j) h n=some ⟨(cs.drop a).take d,h,n,u⟩:=by rw[pW];show cW b a (d*1) h n=_;rw[xu];exact O
  exact bY K (by rw[zR];exact bY J rfl)
 refine ae.step (iS L) (ai _) (fun y A g=> ?_) (x h' s I);have:=(List.mem_filter.1 A).1;rw[cz]at this;rcases List.mem_append.1 this with q|q
 ·rw[N y q]at g;cases g
 ·rw[G y q];exact B
theorem akQ{c g f d:Nat}{a b:Option Addr}(h2:g=0)(k:Value->M β)(x:ae W n0 (k (jI 0)) h n Q):ae W n0 (Dx 1 (.slice a c f) (.slice b g d) k) h n Q:=by
 subst h2
 have e:uX 1 (.slice a c f) (.slice b 0 d)=M.ret (jI 0):=by
  have i:¬0<Nat.min 0 c:=by have:Nat.min 0 c=0:=Nat.zero_min c;omega
  simp only[uX,gd,i,if_false]
 show ae W n0 (ew (uX 1 (.slice a c f) (.slice b 0 d)) k) h n Q;rw[e,lQ,af0];exact x
theorem akR{e:TypeId}(l:List UInt8)(a:l.length<=1099511627776)(k:Value->M β)(x:ae W n0 (k (.slice (some ⟨n,0,none⟩) l.length (aU+l.length))) (h.set n (some ⟨e,true,l.map fun b=>gW .u8 (b.toNat:Int)⟩)) (n+1) Q):ae W n0 (xQ e (.string ⟨l.toArray⟩) k) h n Q:=by
 have c:xQ e (.string ⟨l.toArray⟩) k=ew ((jo e (l.map fun(b:UInt8)=>gW .u8 (b.toNat:Int))).bind fun id=>M.ret (fZ (some ⟨id,0,none⟩) l.length (aU+l.length))) k:=by
  show(match Nat.ble (jn l) 1099511627776 with
   |true=>ew ((jo e (l.map fun(b:UInt8)=>gW .u8 (.ofNat b.toNat))).bind fun id=>M.ret (fZ (some ⟨id,0,none⟩) (jn l) (aU+jn l))) k
   |false=> .fail)=_
  rw[pT,Nat.ble_eq_true_of_le a];rfl
 rw[c];exact hH (p7 (oS _ _ (fun id=>fZ (some ⟨id,0,none⟩) l.length (aU+l.length)) _ _) (cH n) x)
end
structure qm (h:H) (n l:Nat) (v:Value) (ord:List Nat):Prop where
 get:h.get l=some ⟨211,true,[v]⟩
 lt:l<n
 own:Own h 0 n 5 v (cF ord)
theorem qm.ay{h h':H}{n n' l:Nat}{v:Value}{a:List Nat}(x:qm h n l v a)(d:n<=n')(e:h'.get l=h.get l)(c:∀b,az v b->h'.get b=h.get b):qm h' n' l v a:=⟨e.trans x.get,eD x.lt d,x.own.ay d c⟩
theorem akS{a:List Nat}{i:Nat}(h:i<a.length):(cF a)[i]? =some (.int .u8 ((a.getD i 0:Nat):Int)):=by unfold cF;rw[fo,aJ h,aC,aJ h];rfl
theorem aae(a:List Nat):(cF a).all one=true:=by rw[mu];intro v b;obtain⟨x,_,rfl⟩:=List.mem_map.1 b;rfl
theorem akT{a:List Nat}{i:Nat}(h:i<a.length):((cF a).take 1++((cF a).drop 0).take i++(cF a).drop (1+i)).set 0 (.int .u8 ((a.getD i 0:Nat):Int))=cF (dN 0 a i):=by
 obtain⟨x,o,rfl⟩:∃x o,a=x::o:=by
  cases a with
  |nil=>simp at h
  |cons x o=>exact⟨x,o,rfl⟩
 unfold dN cF;simp only[xt 1 i,je,dU,zC,xx,dx];rfl
section
variable {lf d n l:Nat} {h:H} {v:Value} {ord:List Nat}
theorem akU(x:qm h n l v ord){i:Nat}(y:i<ord.length)(z:ord.length<=1000):ae (fun b=>az v b) n (eW lf (d+1) 159 #[jP l 0,jI (i:Int)]) h n fun s h' n'=>s= .int .u8 ((ord.getD i 0:Nat):Int)∧n'=n∧qm h' n' l v (dN 0 ord i):=by
 have g:=x.get;have F:=x.lt
 obtain⟨o,rfl,j,_,q⟩:∃o,v= .slice (some ⟨o,0,none⟩) ord.length (aU+ord.length)∧h.get o=some ⟨5,true,cF ord⟩∧0<=o∧o<n:=by
  rcases x.own with ⟨_,e⟩|⟨o,A,a,I,G⟩
  ·have:ord.length=0:=by rw[<-iV ord,e];rfl
   omega
  ·rw[iV]at A;exact⟨o,A,a,I,G⟩
 have k:l≠o:=aku g j (by decide:(211:Nat)≠5);have m:az (.slice (some ⟨o,0,none⟩) ord.length (aU+ord.length)) o:=⟨_,_,_,rfl⟩;have t:=iV ord;have K:=akS y;have C:IntKind.i64.wrap ((i:Int)+1)=((i+1:Nat):Int):=by rw[aV jO jO];rfl
 have cap:aU=1152921504606846976:=rfl;rw[aF (fun _=>VK) rfl];refine ae.aE ?_;unfold KF;have ii:(i:Int)<((ord.length:Nat):Int):=jO;have E:(0:Int)<((ord.length:Nat):Int):=jO;refine jA (aI @g (aI @j (aI @K (aI @ii @C)))) ?_;refine yc trivial j rfl q 0 ord.length (aU+ord.length) (some (jI 1)) (some (jI ((i+1:Nat):Int))) (l:=1) (hh:=i+1) (ri .i64 1 0) (ri .i64 (i+1) _) jO jO jO _ trivial ?_;refine jA @g ?_;refine yc trivial j rfl q 0 ord.length (aU+ord.length) none (some (jI (i:Int))) (l:=0) (hh:=i) (Aj 0) (ri .i64 i _) jO jO jO _ trivial ?_;rw[if_neg jO,if_neg jO]
 have p:∀a,a.get o=some ⟨5,true,(cF ord).take 1++((cF ord).drop 0).take i++(cF ord).drop (1+i)⟩->(∀c,c≠o->a.get c=h.get c)->
  ae (fun b=>az (.slice (some ⟨o,0,none⟩) ord.length (aU+ord.length)) b) n (au (jP l 0) fun c=>ba 0 c fun d=>aM d fun e=>aO e (jI 0) fun f=>bc f (.int .u8 ((ord.getD i 0:Nat):Int)) fun _=>aj [.int .u8 ((ord.getD i 0:Nat):Int)]) a n fun s h' n'=>s= .int .u8 ((ord.getD i 0:Nat):Int)∧n'=n∧qm h' n' l (.slice (some ⟨o,0,none⟩) ord.length (aU+ord.length)) (dN 0 ord i):=fun a r u=>by
  have B:=(u l k).trans g;have w:0<((cF ord).take 1++((cF ord).drop 0).take i++(cF ord).drop (1+i)).length:=by simp[t];omega
  refine jA (aI @B (aI @E (aI @r (aI @m @w)))) ?_;refine⟨(aB _ _ k).trans B,F, ?_⟩;have D:=BB y;refine .inr ⟨o,by rw[iV,D], ?_,bU _,q⟩;rw[get_eq,akT y]
 by_cases J:i=0
 ·refine akQ jO _ ?_;refine p h ?_ fun _ _=>rfl;rw[j];subst J;congr 2;rw[nE,cz,gX,List.take_append_drop]
 ·refine akP j q (aae _) jO jO (by rw[t];omega) (by rw[t];omega) (.inr m) _ fun a r u=> ?_;rw[Nat.sub_zero]at r;exact p a r u
theorem aaf{s:List Nat}(k:Sy s)(y:s≠[])(w:300<=lf):ae (fun _=>False) n (eW lf (d+1) 134 #[.string ⟨(bS s).toArray⟩]) h n fun u h' n'=>u= .bool true∧h'=h∧n'=n:=by
 have D:=k.len;have m:(bS s).length=s.length:=by unfold bS;simp
 rw[aF (fun _=>U0) rfl];refine ae.aE ?_;unfold EM;refine jB ?_;rw[m]
 refine cG s.length (fun g i (q:Unit)=>tn lf (eW lf d) g (EL lf (eW lf d)) (.string ⟨(bS s).toArray⟩) (.bool false) (jI ((s.length:Nat):Int)) (jI (i:Int)))
  (fun i q h' n'=>h'=h∧n'=n) ?_ ?_ lf 0 () h n (bU _) jO ⟨rfl,rfl⟩
 ·rintro g q h' n' ⟨rfl,rfl⟩;rw[tn];refine jA @bE ?_
  (try unfold EL);(try dsimp only)
  have e:decide ((bS s)=([]:List UInt8))=false:=decide_eq_false fun e=>y (by
   rw[e]at m
   exact List.length_eq_zero_iff.1 m.symm)
  exact jC @e
 ·rintro g i q h' n' b ⟨rfl,rfl⟩ next;have r:(i:Int)<((s.length:Nat):Int):=jO;have p:IntKind.i64.wrap ((i:Int)+1)=((i+1:Nat):Int):=by rw[aV jO jO];rfl
  have o:(i:Int)+1=((i+1:Nat):Int):=rfl;rw[tn];by_cases x:i=0
  ·have l:¬((0:Int)<(i:Int)):=jO;refine jA (aI @r (aI @l (aI @p @o))) ?_;exact next () _ _ ⟨rfl,rfl⟩
  ·have l:(0:Int)<(i:Int):=jO;have t:IntKind.i64.wrap ((i:Int)-1)=((i-1:Nat):Int):=by rw[aV jO jO];omega
   have C:(0:Int)<=((i-1:Nat):Int):=jO;have B:((i-1:Nat):Int)<(((bS s).length:Nat):Int):=jO;have A:(i:Int)<(((bS s).length:Nat):Int):=jO
   have at_:∀j,j<s.length->(((bS s).getD j 0).toNat:Int)=((s.getD j 0:Nat):Int)∧s.getD j 0<256:=fun j a=>by
    have f:s.getD j 0=s[j]:=by rw[aC,aJ a];rfl
    have c:=k.lt s[j] (cb a);rw[f];unfold bS;rw[aC,fo,aJ a];show((dT s[j]).toNat:Int)=_∧_;rw[Cx,lJ jO];exact⟨rfl,c⟩
   have i1:=(at_ i b).1;have v:=(at_ (i-1) jO).1
   have lt:s.getD (i-1) 0<s.getD i 0:=by
    have f:s.getD i 0=s[i]:=by rw[aC,aJ b];rfl
    have c:s.getD (i-1) 0=s[i-1]:=by rw[aC,aJ jO];rfl
    rw[f,c];exact List.pairwise_iff_getElem.1 k.inc (i-1) i jO b jO
   have z:¬(((s.getD i 0:Nat):Int)<=((s.getD (i-1) 0:Nat):Int)):=jO;refine jA (aI @r (aI @l (aI @t (aI @C (aI @B (aI @A (aI @i1 (aI @v (aI @z (aI @p @o)))))))))) ?_;exact next () _ _ ⟨rfl,rfl⟩
theorem akV{s:List Nat}(k:Sy s)(g:s≠[])(a:300<=lf):ae (fun _=>False) n (eW lf (d+2) 126 #[.string ⟨(bS s).toArray⟩]) h n fun c h' n'=>c= .tuple #[jP (n+1) 0,jI 0]∧n'=n+2∧∃o,qm h' n' (n+1) o s∧∀b,az o b->b=n:=by
 have j:=k.len;have i:(bS s).length=s.length:=by unfold bS;simp
 rw[aF (fun _=>UJ) rfl];refine ae.aE ?_;unfold Kj;refine bz (aaf (d:=d) k g a) (ai _) (fun _ _ h=>h.elim) ?_;refine jA @gE ?_;refine akR _ jO _ ?_;refine jB ?_;refine kK trivial _ _ ?_;refine jB ?_;refine⟨_,⟨get_eq _ _ _,jO, ?_⟩,fun b f=>f.inj⟩;refine .inr ⟨n,by rw[i,iV], ?_,bU _,jO⟩;rw[aB _ _ jO,get_eq];congr 2;unfold bS cF;rw[qA];refine mq fun x e=> ?_;have:=k.lt x e;show gW .u8 ((dT x).toNat:Int)=_;rw[Cx,lJ jO]
end
section
variable {β:Type} {W:Nat->Prop} {n0:Nat} {h:H} {n:Nat} {Q:β->H->Nat->Prop}
theorem akW{lo:Nat}{e:TypeId}{v:Value}{ws:List Nat}(o:Own h lo n e v (cF ws)):∃L,kZ v M.ret h n=some ⟨.string ⟨(bS ws).toArray⟩,h,n,L⟩∧∀x∈L,x.wr=false∧az v x.b:=by
 rcases o with ⟨rfl,m⟩|⟨b,rfl,f,_,g⟩
 ·have:ws=[]:=by
   cases ws with
   |nil=>rfl
   |cons x l=>simp[cF]at m
  subst this;exact⟨[],rfl,jS⟩
 ·obtain⟨L,k,a⟩:=Zf f g (cF ws).length 0 (by show 0+(cF ws).length<=(cF ws).length;omega);have j:((cF ws).drop 0).take (cF ws).length=cF ws:=by rw[dx,eh]
  have i:((iT b 0 (cF ws).length).bind fun c=>match lP c with
   |some l=>M.ret (aZ ⟨⟨l⟩⟩)
   |none=> .fail) h n=some ⟨.string ⟨(bS ws).toArray⟩,h,n,L++[]⟩:=by
   rw[nT];refine bY k ?_
   show(match lP (((cF ws).drop 0).take (cF ws).length)with
    |some l=>M.ret (aZ ⟨⟨l⟩⟩)
    |none=>M.fail) h n=_
   rw[j,Mk];rfl
  refine⟨_,Ak i,fun x d=> ?_⟩;have:=(List.mem_filter.1 d).1;rw[cz]at this;exact⟨(a x this).1,_,_,_,by rw[(a x this).2]⟩
theorem akX{lo m:Nat}{e:TypeId}{v:Value}{ws:List Nat}(o:Own h lo m e v (cF ws))(d:m<=n)(k:Value×Tk->M β)(y:∀T,RB T m->ae W n0 (k (.string ⟨(bS ws).toArray⟩,T)) h n Q):ae W n0 ((bx (kZ v M.ret)).bind k) h n Q:=by obtain⟨L,f,b⟩:=akW (o.ay d fun _ _=>rfl);exact vh f (ai _) (fun x a c=>by rw[(b x a).1]at c;cases c) (y _ ⟨fun x a=>(b x a).1,fun x a=>(o.lt (b x a).2).2,d⟩)
end
structure Bm where
 b:Nat
 lv:Value
 x:Nat
 z:Nat
 m:Cm
 y:Nat
 l:Nat
 ov:Value
section
variable {lf d n p room:Nat} {h:H} {S:List UInt8} {D A:Nat} {L:Nat->Nat} {k:Bk} {m:Bm} {BA:Int}
end
section
variable {lf d n p:Nat} {h:H} {S:List UInt8} {D A:Nat}
end
section
variable {lf d n p room:Nat} {h:H} {S:List UInt8} {D A:Nat} {L:Nat->Nat} {k:Bk} {m:Bm} {r:Rw}
end
section
variable {lf d n p room:Nat} {h:H} {S:List UInt8} {D A:Nat} {L:Nat->Nat} {k:Bk} {m:Bm} {r:Rw}
end
section
variable {lf d n p room:Nat} {h:H} {S:List UInt8} {D A:Nat} {L:Nat->Nat} {k:Bk} {m:Bm} {r:Rw}
end
section
variable {lf d n p room:Nat} {h:H} {S:List UInt8} {D A:Nat} {L:Nat->Nat} {k:Bk} {m:Bm} {r:Rw}
end
end Go.Proofs.YtcehhgppfahbkaaGreatDoor
namespace Go.Proofs.YtcehhgppfahbkaaGreatDoor
open Go
theorem Zx{x k:Nat}:IntKind.u32.wrap ((x:Int)*2^k)=((x*2^k %4294967296:Nat):Int):=by
 have a:(x:Int)*2^k=((x*2^k:Nat):Int):=by push_cast;rfl
 rw[a,IntKind.wrap_u32'];rfl
theorem aag{a:Nat}(h:a<4294967296):(dR 32 (a:Int)).toNat=a:=by rw[BitVec.ofInt_natCast,BitVec.toNat_ofNat];exact lJ jO
theorem aah{a b:Nat}(d:a<4294967296)(c:b<4294967296):a^^^b<4294967296:=Nat.xor_lt_two_pow (n:=32) d c
theorem Gr{a b:Nat}(d:a<4294967296)(c:b<4294967296):IntKind.u32.wrap ((dR IntKind.u32.bits (a:Int)^^^dR IntKind.u32.bits (b:Int)).toNat:Int)=((a^^^b:Nat):Int):=by show IntKind.u32.wrap ((dR 32 (a:Int)^^^dR 32 (b:Int)).toNat:Int)=_;rw[BitVec.toNat_xor,aag d,aag c];exact iH (aah d c)
end Go.Proofs.YtcehhgppfahbkaaGreatDoor
namespace Go.Proofs.YtcehhgppfahbkaaGreatDoor
open Go.RowKit Ev Cn
structure Gt where
 last:List Nat
 frm:Nat
 sum:Nat
def fa(t b:Nat):Nat:=((t*2^1 %4294967296)^^^(t/2^31))^^^b
structure Us where
 due:Nat
 at_:Nat
 level:Nat
 dD:Option Bk
 got:Gt
 total:Nat
 ended:Bool
def og:Nat:=54156738319193
def BC:Nat:=25779555029136
structure Um where
 a:Nat
 bm:Bm
section
variable {lf d n p Z:Nat} {h:H} {S:List UInt8} {D A:Nat} {L:Nat->Nat} {u:Us} {m:Um} {BA:Int}
theorem akY(a b:Nat)(p:a<4294967296)(o:b<4294967296):ae (fun _=>False) n (eW lf (d+1) 63 #[.int .u32 (a:Int),.int .u32 (b:Int)]) h n fun v h' n'=>v= .int .u32 ((fa a b:Nat):Int)∧h'=h∧n'=n:=by
 rw[aF (fun _=>S2) rfl];refine ae.aE ?_;unfold JV fa;have f:(0:Int)<=1:=jD;have z31:(0:Int)<=31:=jD;have m:min ((1:Int)).toNat (uA).bits=1:=jD;have l:min ((31:Int)).toNat (uA).bits=31:=jD;have k:IntKind.u32.wrap ((a:Int)*2^(min ((1:Int)).toNat (uA).bits))=((a*2^1 %4294967296:Nat):Int):=by rw[m];exact _root_.Go.Proofs.YtcehhgppfahbkaaGreatDoor.Zx
 have j:((a:Int)).fdiv (2^(min ((31:Int)).toNat (uA).bits))=((a/2^31:Nat):Int):=fdiv_pow a 31 (uA).bits jD;have e:a*2^1 %4294967296<4294967296:=Nat.mod_lt _ jD;have c:a/2^31<4294967296:=Nat.lt_of_le_of_lt (Nat.div_le_self _ _) p;have i:=Gr e c;have g:=Gr (aah e c) o;exact jC (aI @f (aI @z31 (aI @k (aI @j (aI @i @g)))))
end
section
variable {lf d n p Z room:Nat} {h:H} {S:List UInt8} {D A:Nat} {L:Nat->Nat} {u:Us} {m:Um} {k:Bk} {bm:Bm}
end
section
variable {lf d n p Z room:Nat} {h:H} {S:List UInt8} {D A:Nat} {L:Nat->Nat} {u:Us} {m:Um} {k:Bk} {bm:Bm}
end
section
variable {lf d n p Z room:Nat} {h:H} {S:List UInt8} {D A:Nat} {L:Nat->Nat} {u:Us} {m:Um} {k:Bk} {bm:Bm}
end
section
variable {lf d n p Z room:Nat} {h:H} {S:List UInt8} {D A:Nat} {L:Nat->Nat} {u:Us} {m:Um}
end
def By(l:List Nat):Prop:=∀x∈l,x<256
theorem By.at{l:List Nat}(k:By l){i:Nat}(h:i<l.length):l.getD i 0<256:=by rw[aC,aJ h];exact k _ (cb _)
theorem qn(l:List Nat):(bS l).length=l.length:=by unfold bS;simp
theorem Gs{l:List Nat}(k:By l){i:Nat}(h:i<l.length):((bS l).getD i 0).toNat=l.getD i 0:=by have:=k.at h;unfold bS;rw[aC,fo,aJ h,aC,aJ h]at*;show(dT l[i]).toNat=l[i];rw[Cx];exact lJ this
def dO(s:List Nat)(i:Nat):List Nat:=s.drop i++s.take i
def qo(w:List Nat):Nat:=w.getLastD 0
structure yL (s σ:List Nat):Prop where
 perm:σ.Perm (aY s.length)
 Gu:σ.Pairwise fun i k=>dO s i<=dO s k
def fw(s a:List Nat):List Nat:=a.map fun i=>qo (dO s i)
theorem BE(s:List Nat)(i:Nat):(dO s i).length=s.length:=by unfold dO;rw[aG,fp,cB];omega
section
variable {s σ:List Nat}
theorem aai(k:yL s σ):(fw s σ).length=s.length:=by unfold fw;rw[cu,k.perm.length_eq,j7]
theorem akZ{w:List Nat}(h:w≠[]):qo w∈w:=by unfold qo;rw[List.getLastD_eq_getLast?,List.getLast?_eq_some_getLast h];exact List.getLast_mem h
theorem aaj(k:yL s σ)(a:By s):By (fw s σ):=fun x b=>by
 obtain⟨i,c,rfl⟩:=List.mem_map.1 b;have e:i<s.length:=Cy.1 (k.perm.mem_iff.1 c);have d:dO s i≠[]:=fun q=>by have:=BE s i;rw[q]at this;simp at this;omega
 have:=akZ d;unfold dO at this;rcases List.mem_append.1 this with q|q
 ·exact a _ (zA q)
 ·exact a _ (j4 q)
end
end Go.Proofs.YtcehhgppfahbkaaGreatDoor
namespace Go.Proofs.YtcehhgppfahbkaaGreatDoor.Ev
open Go Go.RowKit
section
variable {β:Type} {W:Nat->Prop} {n0:Nat} {h:H} {n:Nat} {Q:β->H->Nat->Prop} {e:TypeId} {sz:Nat}
theorem o0{sz:Nat}:∀{ts:List (List Value)},(∀t∈ts,t.length=sz)->ts.flatten.length=ts.length*sz
 |[],_=>by simp
 |t::ts,h=>by rw[HG,aG,h t jS,o0 fun u a=>h u (by simp[a]),ct,fW,r7,xt]
theorem aak{sz:Nat}:∀{ts:List (List Value)} {i:Nat},(∀t∈ts,t.length=sz)->i<ts.length->(ts.flatten.drop (i*sz)).take sz=ts.getD i []
 |t::ts,0,h,_=>by rw[Nat.zero_mul,dx,HG,<-h t jS,List.take_left];rfl
 |t::ts,i+1,h,b=>by have:=aak (ts:=ts) (i:=i) (fun u a=>h u (by simp[a])) (by simpa using b);rw[HG,fW,r7,xt,<-List.drop_drop,<-h t jS,List.drop_left,h t jS,this];rfl
end
end Go.Proofs.YtcehhgppfahbkaaGreatDoor.Ev
namespace Go.Proofs.YtcehhgppfahbkaaGreatDoor
open Go.RowKit Ev Cn
section
variable {sv lv av ov st w:Value} {f:Nat->Nat}
end
section
variable {lf d n a lb org s:Nat} {h:H} {l out:List Nat} {ov:Value}
end
section
variable {lf d n a lb org s:Nat} {h:H} {l out:List Nat} {ov:Value}
end
section
variable {lf d n lo q:Nat} {h:H} {out:List Nat}
end
section
variable {lf d n a s:Nat} {h:H}
end
section
variable {lf d n:Nat} {h:H}
end
end Go.Proofs.YtcehhgppfahbkaaGreatDoor
namespace Go.Proofs.YtcehhgppfahbkaaGreatDoor.Ip
open Go
structure Pt where
 what:Int
 level:Int
 frm:Int
 yM:Int
 sum:Int
 aal:Int
 last:Int
 len:Int
def bp(l:List Nat):Value:= .string ⟨(l.map dT).toArray⟩
end Go.Proofs.YtcehhgppfahbkaaGreatDoor.Ip
namespace Go.Proofs.YtcehhgppfahbkaaGreatDoor
open Go.RowKit Ev Cn Ip
structure Is where
 u:Us
 A:Nat
 ps:List Pt
 next:Nat
 total:Nat
section
variable {lf d n rp p Z:Nat} {h:H} {S:List UInt8} {L:Nat->Nat} {s:Is} {m:Um} {pv:Value}
end
section
variable {lf d n rp p Z:Nat} {h:H} {S:List UInt8} {L:Nat->Nat} {s:Is} {m:Um} {pv:Value}
end
section
variable {lf d n rp p Z:Nat} {h:H} {S:List UInt8} {L:Nat->Nat} {s:Is} {m:Um} {pv:Value}
end
section
variable {lf d n rp p Z:Nat} {h:H} {S:List UInt8} {L:Nat->Nat} {s:Is} {m:Um} {pv:Value}
end
section
variable {lf d n rp p Z:Nat} {h:H} {S:List UInt8} {L:Nat->Nat} {s:Is} {m:Um} {pv:Value}
end
section
variable {s:List Nat} {room:Nat}
end
end Go.Proofs.YtcehhgppfahbkaaGreatDoor
namespace Go.Proofs.YtcehhgppfahbkaaGreatDoor
open Go.RowKit Ev Cn
def cV(x:Nat):List Nat->Nat
 |[]=>0
 |y::l=>if y=x then 0 else cV x l+1
theorem wZ{x:Nat}:∀{l:List Nat},x∈l->cV x l<l.length∧l.getD (cV x l) 0=x
 |[],h=>by cases h
 |y::l,h=>by
  unfold cV;by_cases c:y=x
  ·rw[if_pos c];exact⟨Nat.zero_lt_succ _,c⟩
  ·rw[if_neg c]
   have d:x∈l:=by
    rcases List.mem_cons.1 h with q|q
    ·exact absurd q.symm c
    ·exact q
   obtain⟨a,b⟩:=wZ d;exact⟨Nat.succ_lt_succ a,b⟩
def dH:List Nat->List Nat->List Nat
 |_,[]=>[]
 |ord,x::l=>cV x ord::dH (dN 0 ord (cV x ord)) l
theorem MI{a:List Nat}{i x:Nat}(h:i<a.length)(b:x∈a):x∈dN 0 a i:=by
 unfold dN;obtain⟨j,d,rfl⟩:=List.getElem_of_mem b;rcases aqG j i with c|c|c
 ·refine fF _ (List.mem_append_left _ ?_);rw[List.mem_take_iff_getElem];exact⟨j,jO,rfl⟩
 ·subst c;rw[aC,aJ h];exact j6
 ·refine fF _ (List.mem_append_right _ ?_);rw[List.mem_drop_iff_getElem];exact⟨j-(i+1),jO,by congr 1;omega⟩
theorem rF:∀(s a:List Nat),(dH a s).length=s.length
 |[],_=>rfl
 |x::s,a=>by show(dH _ s).length+1=_;rw[rF s];rfl
theorem yN:∀(s c:List Nat),(∀x∈s,x∈c)->∀p∈dH c s,p<c.length
 |[],_,_,p,d=>by cases d
 |x::s,c,h,p,d=>by
  obtain⟨a,b⟩:=wZ (h x j6);rcases List.mem_cons.1 d with q|q
  ·rw[q];exact a
  ·have:=yN s _ (fun y e=>MI a (h y (fF _ e))) p q;rwa[BB a]at this
def ee:Nat->Nat->List Nat
 |0,_=>[]
 |f+1,m=>if m=0 then []else if m %2=1 then 0::ee f ((m-1)/2)else 1::ee f ((m-2)/2)
def lr(n:Nat):Nat->List Nat->List Nat
 |q,[]=>ee q q++[n+1]
 |q,p::l=>if p=0 then lr n (q+1) l else ee q q++(p+1)::lr n 0 l
def MJ(p:Nat×Nat):List Nat:=if p.2<4 then bD p.2 p.1 else bD 4 p.1++[p.2-4]
def iu(s:List Nat)(i:Nat):List Bool:=(aY 16).map fun k=>decide (16*i+k∈s)
def fM(s:List Nat)(i:Nat):Bool:=(iu s i).any id
def xa(s:List Nat):List Bool:=(aY 16).map (fM s)
def xc(s:List Nat):List Bool:=xa s++((aY 16).filter (fM s)).flatMap (iu s)
theorem ub(s:List Nat)(i:Nat):(iu s i).length=16:=by unfold iu;simp
theorem aam(s:List Nat):(xa s).length=16:=by unfold xa;simp
theorem MK(s:List Nat):(xc s).length=16+16*((aY 16).filter (fM s)).length:=by
 unfold xc;rw[aG,aam];congr 1;generalize (aY 16).filter (fM s)=l
 induction l with
 |nil=>rfl
 |cons a l b=>rw[List.flatMap_cons,aG,ub,b,ct];omega
end Go.Proofs.YtcehhgppfahbkaaGreatDoor
namespace Go.Proofs.YtcehhgppfahbkaaGreatDoor.Tb
def gM(x:Int):Int:=if 1099511627776<x then 1099511627776 else x
theorem ML{a y:Int}(b:0<=y):gM (gM a+y)=gM (a+y):=by
 unfold gM
 repeat' split
 all_goals omega
theorem MM(x:Int):gM x<=1099511627776:=by unfold gM;split<;>omega
theorem MN{x:Int}(h:0<=x):0<=gM x:=by unfold gM;split<;>omega
theorem MO{x:Int}(h:x<=1099511627776):gM x=x:=by unfold gM;rw[if_neg jO]
def bI:List Int->Int
 |[]=>0
 |x::l=>x+bI l
theorem nX:∀a b:List Int,bI (a++b)=bI a+bI b
 |[],b=>by simp[bI]
 |x::a,b=>by simp only[adq,bI,nX a b];omega
theorem Gv:∀{l:List Int},(∀x∈l,0<=x)->0<=bI l
 |[],_=>aqD 0
 |x::l,h=>by have:=Gv (l:=l) fun y a=>h y (fF _ a);have:=h x j6;simp only[bI];omega
theorem ak1{l:List Int}{i:Nat}(h:i<l.length):bI (l.take (i+1))=bI (l.take i)+l.getD i 0:=by rw[fq h,nX,aC,aJ h];simp[bI]
def look(ls:List Int)(x:Int):Int:=ls.getD x.toNat 0
def mY(l ls:List Int):Int:=bI (l.map (look ls))
def gN(l ls:List Int):Int:=gM (mY l ls)
theorem MP{ls:List Int}(h:∀x∈ls,0<=x)(x:Int):0<=look ls x:=by
 unfold look;rw[aC];by_cases a:x.toNat<ls.length
 ·rw[aJ a];exact h _ (cb a)
 ·rw[List.getElem?_eq_none jO];exact aqD 0
theorem ak2{l ls:List Int}(h:∀x∈ls,0<=x):0<=mY l ls:=Gv fun x a=>by obtain⟨y,_,rfl⟩:=List.mem_map.1 a;exact MP h y
theorem MQ{l ls:List Int}(h:∀x∈ls,0<=x):0<=gN l ls:=MN (ak2 h)
theorem Gw(l ls:List Int):gN l ls<=1099511627776:=MM _
theorem ak3{l ls:List Int}{i:Nat}(h:i<l.length):mY (l.take (i+1)) ls=mY (l.take i) ls+look ls (l.getD i 0):=by unfold mY;rw[fq h,dU,nX,aC,aJ h];simp[bI]
theorem ak4{l ls:List Int}(a:∀x∈ls,0<=x){i:Nat}(h:i<l.length):gM (gN (l.take i) ls+look ls (l.getD i 0))=gN (l.take (i+1)) ls:=by unfold gN;rw[ML (MP a _),ak3 h]
def eQ(l:List Int)(v:Nat):Nat:=l.countP fun x=>x==(v:Int)
def dn(l:List Int)(a:Nat):List Int:=(aY a).map fun v=>(eQ l v:Int)
theorem ja(l:List Int)(a:Nat):(dn l a).length=a:=by unfold dn;simp
theorem MR{l:List Int}{a v:Nat}(h:v<a):(dn l a).getD v 0=(eQ l v:Int):=by unfold dn;rw[aC,fo,List.getElem?_range h];rfl
theorem yO(l:List Int)(v:Nat):eQ l v<=l.length:=ak0
theorem aan(a b:List Int)(v:Nat):eQ (a++b) v=eQ a v+eQ b v:=adw
theorem aao{l:List Int}{i:Nat}(h:i<l.length)(v:Nat):eQ (l.take (i+1)) v=eQ (l.take i) v+(if l.getD i 0=(v:Int)then 1 else 0):=by rw[fq h,aan,aC,aJ h];unfold eQ;simp only[HF,aj5,xo,beq_iff_eq,fy]
theorem Gx{l:List Int}{a:Nat}{x:Int}(h:x∈dn l a):0<=x∧x<=l.length:=by unfold dn at h;obtain⟨v,_,rfl⟩:=List.mem_map.1 h;have:=yO l v;omega
theorem aap(a:Nat):dn [] a=bD a 0:=by
 apply mw
 ·simp[ja]
 ·intro i c b;simp[dn,eQ]
theorem ak5{l:List Int}{a i v:Nat}(h:i<l.length)(b:l.getD i 0=(v:Int))(d:v<a):(dn (l.take i) a).set v ((eQ (l.take i) v:Int)+1)=dn (l.take (i+1)) a:=by
 apply mw
 ·simp[ja]
 ·intro j g f;have e:∀(m:List Int) (h:j<(dn m a).length),(dn m a)[j]=(eQ m j:Int):=fun m h=>by simp[dn]
  rw[HD,e,e,aao h,b];by_cases c:v=j
  ·subst c;simp
  ·rw[if_neg c,if_neg jO];simp
theorem aaq(f:Nat->Int)(x:Nat):∀n:Nat,bI ((aY n).map fun v=>if x=v then f v else 0)=if x<n then f x else 0
 |0=>by simp[bI]
 |n+1=>by
  rw[mv,dU,nX,aaq f x n];simp only[je,List.map_nil,bI];by_cases h:x=n
  ·subst h;rw[if_neg jO,if_pos rfl,if_pos jO];omega
  ·rw[if_neg h];by_cases a:x<n
   ·rw[if_pos a,if_pos jO];omega
   ·rw[if_neg a,if_neg jO];omega
theorem sum_add(f g:Nat->Int):∀l:List Nat,bI (l.map fun v=>f v+g v)=bI (l.map f)+bI (l.map g)
 |[]=>rfl
 |x::l=>by simp only[je,bI,sum_add f g l];omega
theorem aar{ls:List Int}:∀{l:List Int},(∀x∈l,0<=x∧x<ls.length)->bI ((aY ls.length).map fun v=>(eQ l v:Int)*ls.getD v 0)=mY l ls
 |[],_=>by
  have:∀m:List Nat,bI (m.map fun v=>(eQ [] v:Int)*ls.getD v 0)=0:=by
   intro m
   induction m with
   |nil=>rfl
   |cons a m b=>simp only[je,bI,b];simp[eQ]
  rw[this];rfl
 |x::l,h=>by
  have f:=h x j6;have b:=aar (l:=l) fun y d=>h y (fF _ d)
  have e:(fun v:Nat=>(eQ (x::l) v:Int)*ls.getD v 0)=fun v=>(eQ l v:Int)*ls.getD v 0+(if x.toNat=v then ls.getD v 0 else 0):=by
   funext v;unfold eQ;rw[HF];by_cases c:x.toNat=v
   ·have:(x==(v:Int))=true:=by rw[beq_iff_eq];omega
    rw[if_pos c,this,if_pos rfl];simp only[Int.natCast_add,adu,Int.natCast_one,OE]
   ·have:(x==(v:Int))=false:=by rw[beq_eq_false_iff_ne];omega
    rw[if_neg c,this];simp
  rw[e,sum_add,b,aaq (fun v=>ls.getD v 0),if_pos jO];unfold mY;simp only[je,bI,look];omega
def qp(l ls:List Int)(i:Nat):Int:=bI ((aY i).map fun v=>(eQ l v:Int)*ls.getD v 0)
theorem ak6(l ls:List Int)(i:Nat):qp l ls (i+1)=qp l ls i+(eQ l i:Int)*ls.getD i 0:=by unfold qp;rw[mv,dU,nX];simp[bI]
theorem aas{ls:List Int}(h:∀x∈ls,0<=x)(i:Nat):0<=ls.getD i 0:=by have:=MP h (i:Int);simpa[look]using this
def dq(n:Nat):Nat:=(n+49)/50
def eN(l:List Int)(i:Nat):List Int:=(l.drop (50*i)).take 50
def iI(l:List Int):List (List Int):=(aY (dq l.length)).map (eN l)
theorem MS(l:List Int):(iI l).length=dq l.length:=by unfold iI;simp
theorem aat{l:List Int}{i:Nat}{x:Int}(h:x∈eN l i):x∈l:=zA (j4 h)
theorem BF(l:List Int)(i:Nat):(eN l i).length=min 50 (l.length-50*i):=by unfold eN;simp
theorem aau{l:List Int}{i:Nat}(h:i<dq l.length):0<(eN l i).length:=by rw[BF];unfold dq at h;omega
theorem ak7{l g:List Int}(h:g∈iI l):(∀x∈g,x∈l)∧0<g.length∧g.length<=50:=by unfold iI at h;obtain⟨i,b,rfl⟩:=List.mem_map.1 h;have:=aau (Cy.1 b);exact⟨fun x a=>aat a,this,by rw[BF];omega⟩
def l6(g:List Int):List (List Int)->Nat->Nat->Int->Nat
 |[],_,b,_=>b
 |t::T,p,b,m=>if gN g t<m then l6 g T (p+1) p (gN g t)else l6 g T (p+1) b m
def jx(g:List Int)(T:List (List Int)):Nat:=l6 g T 0 0 1099511627776
theorem ak8(g t:List Int)(T:List (List Int)):jx g (t::T)=l6 g T 1 0 (gN g t):=by
 unfold jx;simp only[l6];have:=Gw g t;split
 ·rfl
 ·rw[show(1099511627776:Int)=gN g t by omega]
theorem MT(g:List Int)(N:Nat):∀(T:List (List Int)) (p b:Nat) (m:Int),p+T.length<=N->b<N->l6 g T p b m<N
 |[],_,_,_,_,a=>a
 |t::T,p,b,m,h,a=>by
  simp only[ct]at h;simp only[l6];split
  ·exact MT g N T (p+1) p _ jO jO
  ·exact MT g N T (p+1) b _ jO a
theorem aav(g:List Int){T:List (List Int)}(h:0<T.length):jx g T<T.length:=MT g T.length T 0 0 _ jO h
def fB(a T:List (List Int)):List Nat:=a.map fun g=>jx g T
def jb(p:Nat):List (List Int)->List Nat->List Int
 |g::b,q::a=>(if q=p then g else [])++jb p b a
 |_,_=>[]
theorem MU(p:Nat):∀(d:List (List Int)) (c:List Nat) (g:List Int) (q:Nat),d.length=c.length->jb p (d++[g]) (c++[q])=jb p d c++(if q=p then g else [])
 |[],[],g,q,_=>by simp[jb]
 |[],_::_,_,_,h=>by simp at h
 |_::_,[],_,_,h=>by simp at h
 |a::d,b::c,g,q,h=>by simp only[adq,jb,bW];rw[MU p d c g q (by simpa using h)]
theorem BG(p:Nat):∀(c:List (List Int)) (d:List Nat),(∀g∈c,g.length<=50)->(jb p c d).length<=50*c.length
 |[],_,_=>by simp[jb]
 |_::_,[],_=>by simp[jb]
 |a::c,b::d,h=>by have:=BG p c d fun g e=>h g (fF _ e);have:=h a j6;simp only[jb,aG,ct];split<;>simp<;>omega
def o8(b T:List (List Int))(a p:Nat):List Int:=dn (jb p b (fB b T)) a
def mZ(a b:List Int):List Int:=(aY a.length).map fun i=>gM (a.getD i 0+b.getD i 0)
theorem ak9(a b:List Int)(c:Nat)(h:a.length+b.length<=1099511627776):mZ (dn a c) (dn b c)=dn (a++b) c:=by
 apply mw
 ·simp[mZ,ja]
 ·intro i j e;have d:i<c:=by rw[ja]at e;exact e
  have:(mZ (dn a c) (dn b c))[i]=gM ((dn a c).getD i 0+(dn b c).getD i 0):=by simp[mZ]
  rw[this,MR d,MR d,show(dn (a++b) c)[i]=((eQ (a++b) i:Nat):Int) by simp[dn],aan];have g:=yO a i;have f:=yO b i;rw[MO jO];omega
def j1(n:Int):Nat:=if n<200 then 2 else if n<600 then 3 else if n<1200 then 4 else if n<2400 then 5 else 6
theorem BH(n:Int):2<=j1 n∧j1 n<=6:=by unfold j1;repeat' split
                                      all_goals omega
def eO(a:List Int)(n:Int)(v:Nat):Int:=if n-1<bI (a.take v)then n-1 else bI (a.take v)
theorem aaw{a:List Int}(b:∀x∈a,0<=x){n:Int}{v:Nat}(h:v<a.length):(if n-1<eO a n v+a.getD v 0 then n-1 else eO a n v+a.getD v 0)=eO a n (v+1):=by
 have:=aas b v;unfold eO;rw[ak1 h]
 repeat' split
 all_goals omega
theorem MV{a:List Int}(c:∀x∈a,0<=x){n:Int}(d:1<=n)(v:Nat):0<=eO a n v∧eO a n v<=n-1:=by have:=Gv (l:=a.take v) fun x b=>c x (j4 b);unfold eO;split<;>omega
def fC(a:List Int)(n:Int)(v:Nat):Nat:=(eO a n v*(j1 n:Int)/n).toNat
theorem aax{a:List Int}(e:∀x∈a,0<=x){n:Int}(c:1<=n)(v:Nat):(eO a n v*(j1 n:Int)).tdiv n=(fC a n v:Int):=by have d:=(MV e c v).1;have b:0<=eO a n v*(j1 n:Int):=Int.mul_nonneg d jO;rw[aq1 b];unfold fC;have:=Int.ediv_nonneg b (show 0<=n by omega);omega
def kM(a:List Int)(n:Int)(p:Nat):List Int:=(aY a.length).map fun v=>if fC a n v=p then 0 else 15
def lu(a:List Int)(n:Int):List (List Int):=(aY (j1 n)).map (kM a n)
theorem MW(a:List Int)(n:Int):(lu a n).length=j1 n:=by unfold lu;simp
theorem yP(a:List Int)(n:Int)(p:Nat):(kM a n p).length=a.length:=by unfold kM;simp
theorem ak'{a:List Int}{n:Int}{p:Nat}{x:Int}(h:x∈kM a n p):0<=x∧x<=15:=by unfold kM at h;obtain⟨v,_,rfl⟩:=List.mem_map.1 h;split<;>omega
end Go.Proofs.YtcehhgppfahbkaaGreatDoor.Tb
