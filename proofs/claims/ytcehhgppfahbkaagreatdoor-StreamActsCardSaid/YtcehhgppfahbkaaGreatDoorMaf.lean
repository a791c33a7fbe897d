import Derived.Test.YtcehhgppfahbkaaGreatDoorMae
import Derived.WideShapes
import Derived.WalkLawsBesides
import Derived.Test.YtcehhgppfahbkaaGreatDoorMac
import Derived.Test.YtcehhgppfahbkaaGreatDoorMad
import Derived.Laws.BitsAllLaws
import Derived.IntWalk
open Nat renaming le_refl→ai, ble→bK, zero_le→bU, lt_of_lt_of_le→eD, zero_add→fy, add_mul→fW, add_zero→gX, sub_self→j8, pow_succ→lH, mod_eq_of_lt→lJ, ble_eq_true_of_le→lI, mul_comm→mz, min_eq_left→r8, one_mul→r7, mul_le_mul_right→zv, mul_assoc→zE, mul_lt_mul_of_pos_right→aqO, two_pow_pos→aqP
open Go.Proofs.Tryz renaming prog→aa
open List renaming getD_eq_getElem?_getD→aC, length_append→aG, getElem?_eq_getElem→aJ, range→aY, replicate→bD, append_assoc→bW, getElem_mem→cb, length_cons→ct, append_nil→cz, length_take→cB, drop_zero→dx, map_append→dU, take_length→eh, length_drop→fp, take_succ_eq_append_getElem→fq, take_of_length_le→fG, length_nil→fH, map_cons→je, take_append_drop→jN, length_replicate→jQ, getElem?_eq_none→jM, mem_of_mem_take→j4, length_range→j7, map_congr_left→mq, length→lK, ext_getElem→mw, mem_cons→nF, getElem?_append_left→nB, getElem?_append_right→oC, nil_append→pF, length_set→qC, pairwise_append→qD, eq_nil_of_length_eq_zero→qE, range'→rZ, pairwise_cons→r9, drop_eq_getElem_cons→uv, mem_of_mem_drop→zA, mem_append_right→Ci, map_nil→Cv, mem_map→HC, mem_append_left→Oc, getElem?_take→Oh, getElem?_drop→Oi, map→OC, length_tail→OD, take_sublist→ads, drop_drop→aqq, take_append_of_le_length→aqy, map_set→aqF, dropLast_concat_getLast→aqH, perm_append_singleton→aqI, perm_middle→aqK, drop_sublist→aqL
open Int renaming lt_irrefl→bE, toNat_natCast→eg, natCast_nonneg→gY, fdiv_eq_ediv_of_nonneg→Oy, add_sub_cancel→aqE
open BitVec renaming ofInt→dR
open UInt8 renaming ofNat→dT
open Go.Value renaming slice→fZ, int→gW
open Bool renaming not_true→gE, not_false→gO, or_eq_false_iff→xq
open List.Perm renaming refl→uz
open Option renaming getD_some→xo, some→zD
open List.Pairwise renaming nil→OG
open Go.IntKind renaming u8→aqR
set_option linter.unusedVariables false
set_option linter.unusedSimpArgs false
namespace Go.Proofs.YtcehhgppfahbkaaGreatDoor
end Go.Proofs.YtcehhgppfahbkaaGreatDoor
namespace Go.Proofs.YtcehhgppfahbkaaGreatDoor.Hu
structure HT where
 weight:List Int
 cI:List Int
 leaves:List Nat
 bu:Nat
def bM(t:HT)(i:Nat):Int:=t.weight.getD i 0
def ic(t:HT):Bool:=t.bu==t.weight.length||(decide (0<t.leaves.length)&&decide (bM t (t.leaves.getD 0 0)<=bM t t.bu))
def leastOf(t:HT):Nat:=if ic t then t.leaves.getD 0 0 else t.bu
def taken(t:HT):HT:=if ic t then{t with leaves:=t.leaves.tail}else{t with bu:=t.bu+1}
def ju(t:HT)(a b:Nat):HT:={t with weight:=t.weight++[bM t a+bM t b],cI:=((t.cI.set a t.weight.length).set b t.weight.length)++[-1]}
def rB(t:HT):HT:=ju (taken (taken t)) (leastOf t) (leastOf (taken t))
def dL:Nat->HT->HT
 |0,t=>t
 |k+1,t=>dL k (rB t)
theorem yw:∀(k:Nat) (t:HT),dL (k+1) t=rB (dL k t)
 |0,_=>rfl
 |k+1,t=>by show dL (k+1) (rB t)=_;rw[yw k (rB t)];rfl
theorem F2(l r:List Int)(i:Nat)(h:i<l.length):(l++r).getD i 0=l.getD i 0:=by rw[aC,nB h,aC]
theorem qg(l:List Int)(i j:Nat)(v:Int):(l.set i v).getD j 0=if i=j∧i<l.length then v else l.getD j 0:=by
 simp only[aC,List.getElem?_set];by_cases h:i=j
 ·subst h;by_cases a:i<l.length
  ·simp[a]
  ·simp[a,jM (show l.length<=i by omega)]
 ·simp[h]
def bI:List Int->Int
 |[]=>0
 |x::a=>x+bI a
theorem nX:∀a b:List Int,bI (a++b)=bI a+bI b
 |[],b=>by simp[bI]
 |x::a,b=>by simp only[List.cons_append,bI,nX a b];omega
theorem yx:∀(l:List Int),(∀x∈l,0<=x)->0<=bI l∧∀x∈l,x<=bI l
 |[],_=>⟨Int.le_refl _,fun x h=>by simp at h⟩
 |y::l,h=>by
  have b:=yx l (fun x a=>h x (by simp[a]));have c:=h y jS;refine⟨by simp only[bI];omega,fun x a=> ?_⟩;simp only[bI];rcases nF.1 a with e|e
  ·subst e;omega
  ·have:=b.2 x e;omega
def rC(n k:Nat)(P:List Nat)(t:HT):List Nat:=P++t.leaves++rZ t.bu (n+k-t.bu)
structure iF (n k:Nat) (P:List Nat) (S:Int) (t:HT):Prop where
 wl:t.weight.length=n+k
 il:t.cI.length=n+k
 leaf:∀i∈t.leaves,i<n
 pl:∀i∈P,i<n+k
 jl:n<=t.bu
 jh:t.bu<=n+k
 left:t.leaves.length+(n+k-t.bu)+k+P.length=n
 pos:∀i,i<n+k->0<=bM t i∧bM t i<=S
 sum:bI ((rC n k P t).map (bM t))=S
 cI:∀i,i<n+k->i∉t.leaves->i<t.bu->i∉P->(i:Int)<t.cI.getD i 0∧t.cI.getD i 0<((n+k:Nat):Int)
theorem Md{n k:Nat}{P:List Nat}{S:Int}{t:HT}(h:iF n k P S t)(c:1<=t.leaves.length+(n+k-t.bu))(a:ic t=true):∃r,t.leaves=leastOf t::r∧taken t={t with leaves:=r}∧leastOf t<n:=by
 have b:t.leaves≠[]:=by intro e;unfold ic at a;rw[e]at a;simp at a;have:=h.wl;rw[e]at c;simp at c;omega
 obtain⟨i,r,e⟩:=List.exists_cons_of_ne_nil b;have d:leastOf t=i:=by unfold leastOf;rw[if_pos a,e];rfl
 refine⟨r,by rw[d];exact e,by unfold taken;rw[if_pos a,e];rfl, ?_⟩;rw[d];exact h.leaf i (by rw[e];simp)
theorem YN{n k:Nat}{P:List Nat}{S:Int}{t:HT}(h:iF n k P S t)(a:ic t=false):leastOf t=t.bu∧t.bu<n+k∧taken t={t with bu:=t.bu+1}:=by refine⟨by unfold leastOf;rw[a];rfl, ?_,by unfold taken;rw[a];rfl⟩;unfold ic at a;rw[xq,beq_eq_false_iff_ne]at a;have:=h.wl;have:=h.jh;omega
theorem iF.take{n k:Nat}{P:List Nat}{S:Int}{t:HT}(h:iF n k P S t)(u:1<=t.leaves.length+(n+k-t.bu)):iF n k (P++[leastOf t]) S (taken t)∧leastOf t<n+k:=by
 cases q:ic t with
 |true=>
  obtain⟨r,f,l,s⟩:=Md h u q;generalize leastOf t=a at*;rw[l];have b:=h.left;rw[f]at b;simp only[ct]at b;refine⟨⟨h.wl,h.il,fun i c=>h.leaf i (by rw[f];simp[c]),fun i c=> ?_,h.jl,h.jh,by simp only[aG,ct,fH];omega,h.pos, ?_,fun i c h2 j g=> ?_⟩,jO⟩
  ·rcases List.mem_append.1 c with h2|h2
   ·exact h.pl i h2
   ·simp at h2;omega
  ·have:=h.sum;unfold rC at this⊢;rw[f]at this;simp only[dU,je,Cv,nX,bI]at this⊢;show bI (P.map (bM t))+_+_+_=S;have o:bM {t with leaves:=r}=bM t:=rfl;rw[o];omega
  ·refine h.cI i c (fun p=> ?_) j (fun m=>g (by simp[m]));rw[f]at p;rcases nF.1 p with e|e
   ·exact g (by simp[e])
   ·exact h2 e
 |false=>
  obtain⟨f,l,s⟩:=YN h q;rw[s,f];have b:=h.left;refine⟨⟨h.wl,h.il,h.leaf,fun i c=> ?_,Nat.le_succ_of_le h.jl,l,by simp only[aG,ct,fH];omega,h.pos, ?_,fun i c h2 j g=> ?_⟩,l⟩
  ·rcases List.mem_append.1 c with h2|h2
   ·exact h.pl i h2
   ·simp at h2;omega
  ·have:=h.sum;unfold rC at this⊢;obtain⟨d,hd⟩:∃d,n+k-t.bu=d+1:=⟨n+k-t.bu-1,jO⟩;rw[hd,List.range'_succ]at this;show bI (OC _ (P++[t.bu]++t.leaves++rZ (t.bu+1) (n+k-(t.bu+1))))=S;rw[show n+k-(t.bu+1)=d by omega];simp only[dU,je,Cv,nX,bI]at this⊢;have o:bM {t with bu:=t.bu+1}=bM t:=rfl;rw[o];omega
  ·have j:i<t.bu+1:=j;refine h.cI i c h2 ?_ (fun m=>g (by simp[m]));have:i≠t.bu:=fun e=>g (by simp[e]);omega
theorem iF.join{n k a b:Nat}{S:Int}{t:HT}(h:iF n k [a,b] S t):iF n (k+1) [] S (ju t a b):=by
 have D:=h.pl a jS;have B:=h.pl b jS;have m:=h.left;have z:=h.jh;have s:=h.jl;have d:=h.sum;simp only[ct,fH]at m;have p:∀i,i<n+k->bM (ju t a b) i=bM t i:=fun i c=>F2 _ _ _ (by rw[h.wl];exact c)
 have f:bM (ju t a b) (n+k)=bM t a+bM t b:=by unfold bM ju;rw[aC,oC (by rw[h.wl];exact ai _),h.wl,j8];rfl
 have g:∀l:List Nat,(∀i∈l,i<n+k)->l.map (bM (ju t a b))=l.map (bM t):=fun l y=>mq fun i c=>p i (y i c);have r:∀i∈rZ t.bu (n+k-t.bu),i<n+k:=fun i c=>by rw[List.mem_range'_1]at c;omega
 have j:∀i∈rC n k [a,b] t,i<n+k:=by
  intro i c;unfold rC at c;rcases List.mem_append.1 c with h2|h2
  ·rcases List.mem_append.1 h2 with h3|h3
   ·exact h.pl i h3
   ·have:=h.leaf i h3;omega
  ·exact r i h2
 have q:=yx ((rC n k [a,b] t).map (bM t)) (fun x o=>by
  rw[HC]at o;obtain⟨i,c,rfl⟩:=o
  exact(h.pos i (j i c)).1)
 rw[d]at q
 have C:bM t a+bM t b<=S:=by
  have h2:=yx ((t.leaves++rZ t.bu (n+k-t.bu)).map (bM t)) (fun x o=>by
   rw[HC]at o;obtain⟨i,c,rfl⟩:=o;refine(h.pos i ?_).1;rcases List.mem_append.1 c with h3|h3
   ·have:=h.leaf i h3;omega
   ·exact r i h3)
  have h3:=d;unfold rC at h3;simp only[dU,je,Cv,nX,bI]at h3 h2;omega
 refine⟨by simp[ju,h.wl];omega,by simp[ju,h.il];omega,h.leaf,fun i c=>by simp at c,s,by show t.bu<=_;omega,by show t.leaves.length+(n+(k+1)-t.bu)+(k+1)+0=n;omega,fun i c=> ?_, ?_,fun i c h2 h3 _=> ?_⟩
 ·by_cases e:i<n+k
  ·rw[p i e];exact h.pos i e
  ·obtain rfl:i=n+k:=jO;rw[f];have:=(h.pos a D).1;have:=(h.pos b B).1;omega
 ·unfold rC at d⊢;show bI (OC _ ([]++t.leaves++rZ t.bu (n+(k+1)-t.bu)))=S;rw[show n+(k+1)-t.bu=(n+k-t.bu)+1 by omega,List.range'_concat];simp only[pF,dU,je,Cv,nX,bI]at d⊢;rw[g t.leaves (fun i c=>by have:=h.leaf i c;omega),g _ r];rw[show t.bu+1*(n+k-t.bu)=n+k by omega,f];omega
 ·have h3:i<t.bu:=h3;have A:=h.il
  have E:(ju t a b).cI.getD i 0=if i=a∨i=b then((n+k:Nat):Int)else t.cI.getD i 0:=by
   unfold ju;rw[F2 _ _ _ (by simp;omega),qg,qC,qg,h.wl];by_cases u:b=i
   ·subst u;rw[if_pos ⟨rfl,jO⟩,if_pos (.inr rfl)]
   ·rw[if_neg (fun e=>u e.1)];by_cases v:a=i
    ·subst v;rw[if_pos ⟨rfl,jO⟩,if_pos (.inl rfl)]
    ·rw[if_neg (fun e=>v e.1),if_neg (fun e=>by rcases e with e|e;exact v e.symm;exact u e.symm)]
  rw[E];split
  ·omega
  ·rename_i w;have:=h.cI i jO h2 h3 (fun e=>by simp at e;exact w e);omega
end Go.Proofs.YtcehhgppfahbkaaGreatDoor.Hu
namespace Go.Proofs.YtcehhgppfahbkaaGreatDoor
open Go.RowKit Ev Hu
theorem F3{x:Nat}(h:x<9223372036854775807):IntKind.i64.wrap ((x:Int)+1)=((x+1:Nat):Int):=by rw[aV jO jO];rfl
theorem YO{x:Nat}(h:x<9223372036854775807):IntKind.i64.wrap (((x+1:Nat):Int)-1)=(x:Int):=by rw[aV jO jO];omega
theorem RZ:type_of%(aI @Rx (aI @Ry (aI @aV (aI @F3 (aI @YO (aI @JF (aI @RK (aI @RN (aI @RP (aI @RQ (aI @RS (aI @RU (aI @RV (aI @RW (aI @RX (aI @RY (aI @R0 (aI @R1 (aI @R2 (aI @R3 (aI @R4 (aI @R5 (aI @qa (aI @R6 (aI @Ao (aI @R7 (aI @R9 (aI @R' (aI @Ap (aI @Sb (@Sc))))))))))))))))))))))))))))))):=aI @Rx (aI @Ry (aI @aV (aI @F3 (aI @YO (aI @JF (aI @RK (aI @RN (aI @RP (aI @RQ (aI @RS (aI @RU (aI @RV (aI @RW (aI @RX (aI @RY (aI @R0 (aI @R1 (aI @R2 (aI @R3 (aI @R4 (aI @R5 (aI @qa (aI @R6 (aI @Ao (aI @R7 (aI @R9 (aI @R' (aI @Ap (aI @Sb (@Sc))))))))))))))))))))))))))))))
theorem jA{F p q:Prop}(f:F)(x:q)(e:F->p=q:=by intro f;conv=>lhs;(try simp(disch:=first|omega|assumption|exact gY _) only[Nat.reduceAdd,Nat.reduceLT,RZ,f])):p:=(e f).mpr x
theorem jB{p q:Prop}(x:q)(e:p=q:=by conv=>lhs;(try simp(disch:=first|omega|assumption|exact gY _) only[Nat.reduceAdd,Nat.reduceLT,RZ])):p:=e.mpr x
theorem jC{F p:Prop}(f:F)(e:F->p:=by intro f;(try simp(disch:=first|omega|assumption|exact gY _) only[Nat.reduceAdd,Nat.reduceLT,RZ,f])):p:=e f
theorem jE{p:Prop}(e:p:=by(try simp(disch:=first|omega|assumption|exact gY _) only[Nat.reduceAdd,Nat.reduceLT,RZ])):p:=e
abbrev jP(b o:Nat):Value:= .pointer (some ⟨b,o,none⟩)
abbrev jI(n:Int):Value:= .int .i64 n
def ints(xs:List Int):List Value:=xs.map (gW .i64)
def cJ(xs:List Nat):List Value:=xs.map fun(x:Nat)=>gW .i64 x
theorem jV(xs:List Int):(ints xs).length=xs.length:=by unfold ints;simp
theorem ints_at{xs:List Int}{i:Nat}(h:i<xs.length):(ints xs)[i]? =some (.int .i64 (xs.getD i 0)):=by unfold ints;simp[h]
structure mR (h:H) (n g:Nat) (t:HT) (bw bi bl off cl:Nat) (cs:List Value):Prop where
 hg:h.get g=some ⟨276,true,[.slice (some ⟨bw,0,none⟩) t.weight.length (aU+t.weight.length),.slice (some ⟨bi,0,none⟩) t.cI.length (aU+t.cI.length),.slice (some ⟨bl,off,none⟩) t.leaves.length cl,.int .i64 (t.bu:Nat)]⟩
 hw:h.get bw=some ⟨3,true,ints t.weight⟩
 hi:h.get bi=some ⟨3,true,ints t.cI⟩
 hl:h.get bl=some ⟨3,true,cs⟩
 hlen:off+t.leaves.length<=cs.length
 hcs:(cs.drop off).take t.leaves.length=cJ t.leaves
 hcl:t.leaves.length<=cl
 d:g≠bw∧g≠bi∧g≠bl∧bw≠bi∧bw≠bl∧bi≠bl∧g<n∧bw<n∧bi<n∧bl<n
theorem YP{cs:List Value}{off:Nat}{l:List Nat}(a:(cs.drop off).take l.length=cJ l){i:Nat}(b:i<l.length):cs[off+i]? =some (.int .i64 (l.getD i 0:Nat)):=by have h:=congrArg (fun z=>z[i]?) a;simp only[Oh,b,if_true,Oi]at h;rw[h];unfold cJ;simp[b]
theorem mR.leaf {h:H} {n g:Nat} {t:HT} {l o m off k:Nat} {cs:List Value} (s:mR h n g t l o m off k cs) (c:ic t=true) (v:0<t.leaves.length) {a:Nat} (b:a=off+1∨t.leaves.length=1∧a=off) {x:H}
 (q:x=h.set g (some ⟨276,true,[.slice (some ⟨l,0,none⟩) t.weight.length (aU+t.weight.length),.slice (some ⟨o,0,none⟩) t.cI.length (aU+t.cI.length),.slice (some ⟨m,a,none⟩) (t.leaves.length-1) (k-1),.int .i64 (t.bu:Nat)]⟩)):mR x n g (taken t) l o m a (k-1) cs:=by
 obtain⟨u,f,j,i,p,d,r,hd⟩:=s;subst q;have e:taken t={t with leaves:=t.leaves.tail}:=by unfold taken;rw[if_pos c]
 rw[e];refine⟨?_, ?_, ?_, ?_, ?_, ?_, ?_,hd⟩
 ·rw[get_eq];simp
 ·rw[aB _ _ jO];exact f
 ·rw[aB _ _ jO];exact j
 ·rw[aB _ _ jO];exact i
 ·simp only[OD];omega
 ·simp only[OD];rcases b with b|⟨b,_⟩
  ·subst b;have:=congrArg List.tail d;unfold cJ at this⊢;rw[<-List.map_tail]at this;rw[<-this,<-List.drop_one,List.drop_take,aqq]
  ·have:t.leaves.tail=[]:=by rw[<-List.length_eq_zero_iff,OD];omega
   rw[this,b];simp[cJ]
 ·simp only[OD];omega
theorem mR.bu {h:H} {n g:Nat} {t:HT} {l o m off k:Nat} {cs:List Value} (q:mR h n g t l o m off k cs) (b:ic t=false) {x:H}
 (p:x=h.set g (some ⟨276,true,[.slice (some ⟨l,0,none⟩) t.weight.length (aU+t.weight.length),.slice (some ⟨o,0,none⟩) t.cI.length (aU+t.cI.length),.slice (some ⟨m,off,none⟩) t.leaves.length k,.int .i64 ((t.bu+1:Nat):Int)]⟩)):mR x n g (taken t) l o m off k cs:=by
 obtain⟨r,f,j,i,a,c,d,hd⟩:=q;subst p;have e:taken t={t with bu:=t.bu+1}:=by unfold taken;rw[b];rfl
 rw[e];refine⟨?_, ?_, ?_, ?_,a,c,d,hd⟩
 ·rw[get_eq]
 ·rw[aB _ _ jO];exact f
 ·rw[aB _ _ jO];exact j
 ·rw[aB _ _ jO];exact i
theorem YQ(lf d g n:Nat)(h:H)(t:HT)(N P O off A:Nat)(cs:List Value)(J:mR h n g t N P O off A cs)(U:t.bu<=100000)(T:t.leaves.length<=100000)(Y:t.weight.length<=100000)(B:ic t=true->0<t.leaves.length)(w:0<t.leaves.length->t.leaves.getD 0 0<t.weight.length)(F:t.bu<=t.weight.length):
 ae (fun b=>b=g) n (eW lf (d+1) 244 #[.pointer (some ⟨g,0,none⟩)]) h n fun v h' n'=>v= .int .i64 (leastOf t:Nat)∧n'=n∧∃s E,mR h' n g (taken t) N P O s E cs:=by
 have m:=J;obtain⟨r,j,k,c,G,x,X,hd⟩:=J;rw[aF (fun _=>Yi) rfl];refine ae.aE ?_;unfold LP;have W:=hd.2.2.2.2.2.2.1;have Q:=hd.2.2.2.2.2.2.2.1;have R:=hd.2.2.2.2.2.2.2.2.2;have K:ic t=true->leastOf t=t.leaves.getD 0 0:=fun e=>by unfold leastOf;rw[if_pos e]
 have L:ic t=false->leastOf t=t.bu:=fun e=>by unfold leastOf;rw[e];rfl
 have I:0<t.leaves.length->0<A:=fun _=>by omega
 by_cases z:t.bu=t.weight.length
 ·have a:ic t=true:=by unfold ic;simp[z]
  have p:=B a;have i:cs[off]? =some (.int .i64 (t.leaves.getD 0 0:Nat)):=YP x p;have y:(((t.bu:Nat):Int)==((t.weight.length:Nat):Int))=true:=by rw[z];simp
  refine jA (aI @r (aI @j (aI @k (aI @c (aI @y @i))))) ?_;refine yc trivial (n0:=n) (l:=1) (hh:=t.leaves.length) c rfl jO off t.leaves.length A _ _ (ri _ 1 0) (Aj _) jO jO jO _ trivial ?_;refine jA @r ?_;exact⟨by rw[K a],_,_,m.leaf a p (by split;exact .inr ⟨jO,rfl⟩;exact .inl rfl) rfl⟩
 ·have y:(((t.bu:Nat):Int)==((t.weight.length:Nat):Int))=false:=by rw[beq_eq_false_iff_ne];omega
  have D:t.bu<t.weight.length:=jO;have q:(ints t.weight)[t.bu]? =some (.int .i64 (bM t t.bu)):=ints_at D;by_cases p:0<t.leaves.length
  ·have i:cs[off]? =some (.int .i64 (t.leaves.getD 0 0:Nat)):=YP x p;have C:=w p;have u:(ints t.weight)[t.leaves.getD 0 0]? =some (.int .i64 (bM t (t.leaves.getD 0 0))):=ints_at C;have o:(0:Int)<(t.leaves.length:Int):=jO;have a:ic t=decide (bM t (t.leaves.getD 0 0)<=bM t t.bu):=by unfold ic;simp[z,p]
   by_cases f:bM t (t.leaves.getD 0 0)<=bM t t.bu
   ·rw[decide_eq_true f]at a;refine jA (aI @r (aI @j (aI @k (aI @c (aI @y (aI @i (aI @u (aI @q (aI @o @f))))))))) ?_;refine yc trivial (n0:=n) (l:=1) (hh:=t.leaves.length) c rfl jO off t.leaves.length A _ _ (ri _ 1 0) (Aj _) jO jO jO _ trivial ?_;refine jA @r ?_;exact⟨by rw[K a],_,_,m.leaf a p (by split;exact .inr ⟨jO,rfl⟩;exact .inl rfl) rfl⟩
   ·rw[decide_eq_false f]at a;refine jA (aI @r (aI @j (aI @k (aI @c (aI @y (aI @i (aI @u (aI @q (aI @o @f))))))))) ?_;exact⟨by rw[L a,aqE],_,_,m.bu a rfl⟩
  ·have o:¬(0:Int)<(t.leaves.length:Int):=jO;have a:ic t=false:=by unfold ic;simp[z,p]
   refine jA (aI @r (aI @j (aI @k (aI @c (aI @y (aI @q @o)))))) ?_;exact⟨by rw[L a,aqE],_,_,m.bu a rfl⟩
theorem ints_set(xs:List Int)(i:Nat)(v:Int):(ints xs).set i (.int .i64 v)=ints (xs.set i v):=by unfold ints;rw[aqF]
theorem YR(xs:List Int)(v:Int):ints xs++[.int .i64 v]=ints (xs++[v]):=by unfold ints;simp
set_option maxHeartbeats 1000000 in
theorem ai8(lf d g n a b:Nat)(h:H)(t:HT)(z B A off y:Nat)(cs:List Value)(w:mR h n g t z B A off y cs)(J:t.weight.length<=100000)(K:t.cI.length=t.weight.length)(u:a<t.weight.length)(s:b<t.weight.length)(r:∀x∈t.weight,0<=x∧x<=1152921504606846976):
 ae (fun x=>x=g∨x=z∨x=B) n (eW lf (d+1) 245 #[.pointer (some ⟨g,0,none⟩),.int .i64 (a:Nat),.int .i64 (b:Nat)]) h n fun v h' n'=>v= .tuple #[]∧n<=n'∧∃k l,mR h' n' g (ju t a b) k l A off y cs∧n<=k∧n<=l:=by
 have F:=w;obtain⟨m,c,e,q,j,o,p,hd⟩:=w;rw[aF (fun _=>Yj) rfl];refine ae.aE ?_;unfold LQ;have E:=hd.2.2.2.2.2.2.1;have C:=hd.2.2.2.2.2.2.2.1;have D:=hd.2.2.2.2.2.2.2.2.1;have i:(ints t.weight)[a]? =some (.int .i64 (bM t a)):=ints_at u;have f:(ints t.weight)[b]? =some (.int .i64 (bM t b)):=ints_at s;have I:0<=bM t a∧bM t a<=1152921504606846976:=r _ (by unfold bM;simp[u]);have G:0<=bM t b∧bM t b<=1152921504606846976:=r _ (by unfold bM;simp[s]);try simp(disch:=first|omega|assumption) only[Nat.reduceAdd,Nat.reduceLT,RZ,m,c,e,ints_set,jV,qC,i,f]
 refine⟨jO,jO, ?_⟩;refine DN trivial (eI _ _) (by rw[aB _ _ jO,aB _ _ jO];exact c) jO (jV _) jO jO (.inr (.inr (.inl rfl))) _ ?_;try simp(disch:=first|omega|assumption) only[Nat.reduceAdd,Nat.reduceLT,RZ,m,c,e,ints_set,jV,qC,i,f]
 refine DN trivial (cs:=ints ((t.cI.set a (t.weight.length:Nat)).set b (t.weight.length:Nat))) (eI _ _) (by try simp(disch:=first|omega|assumption) only[Nat.reduceAdd,Nat.reduceLT,RZ]) jO (by simp[jV]) jO jO (.inr (.inr (.inr rfl))) _ ?_;refine jA (aI @m (aI @c @e)) ?_;refine⟨jO,n+1,n+2+1, ?_,jO,jO⟩;refine⟨?_, ?_, ?_, ?_,j,o,p,jO⟩
 ·refine jB ?_;simp[ju]
 ·refine jB ?_;rw[YR];rfl
 ·refine jB ?_;rw[YR];rfl
 ·exact jC @q
end Go.Proofs.YtcehhgppfahbkaaGreatDoor
namespace Go.Proofs.YtcehhgppfahbkaaGreatDoor
open Go.RowKit Hu
def Bg(x y:Int):Int:=if x<y then-1 else if y<x then 1 else 0
def RI(k:Nat->Int)(a b:Nat):Prop:=k a<k b∨k a=k b∧a<b
theorem ai9{k:Nat->Int}{L R:List Nat}{x:Nat}(h:(L++R).Pairwise (RI k))(j:∀r∈R,k x<k r)(h2:∀l∈L,k l<=k x)(i:∀l∈L,k l=k x->l<x):(L++x::R).Pairwise (RI k):=by
 rw[qD]at h⊢;refine⟨h.1, ?_,fun a c b g=> ?_⟩
 ·rw[r9];exact⟨fun r f=> .inl (j r f),h.2.1⟩
 ·rcases nF.1 g with e|e
  ·subst e;have:=h2 a c;by_cases d:k a=k b
   ·exact .inr ⟨d,i a c d⟩
   ·exact .inl jO
  ·exact h.2.2 a c b e
def bk(ws:List Int)(i:Nat):Int:=ws.getD i 0
theorem ai'(pre:List Nat)(v:Nat)(post:List Nat):(pre++v::post).getD pre.length 0=v:=by simp[aC]
theorem F4(x y:Int):decide (Bg x y<0)=decide (x<y):=by
 unfold Bg;by_cases h:x<y
 ·simp[h]
 ·by_cases a:y<x
  ·simp[h,a]
  ·simp[h,a]
theorem qh(pre:List Nat)(v:Nat)(post:List Nat)(j:Nat)(a:j=pre.length):(pre++v::post).getD j 0=v:=by subst a;exact ai' _ _ _
theorem tW(pre:List Nat)(v u:Nat)(post:List Nat)(j:Nat)(a:j=pre.length):(pre++v::post).set j u=pre++u::post:=by subst a;rw[List.set_append_right (h:=ai _),j8];rfl
theorem RI.trans'{k:Nat->Int}{a b c:Nat}(d:RI k a b)(h2:RI k b c):RI k a c:=by unfold RI at*;omega
theorem Me{k:Nat->Int}{x y:Nat}(a:x<y)(h:¬k y<k x):RI k x y:=by unfold RI;omega
theorem Bh{k:Nat->Int}{L:List Nat}(h:L.Pairwise (RI k)){i j:Nat}(b:i<=j)(c:j<L.length):L.getD i 0=L.getD j 0∨RI k (L.getD i 0) (L.getD j 0):=by
 rcases Nat.lt_or_eq_of_le b with a|rfl
 ·right;have:=List.pairwise_iff_getElem.1 h i j jO c a;rw[aC,aC,aJ jO,aJ c];exact this
 ·left;rfl
theorem Mf{k:Nat->Int}{L:List Nat}(h:L.Pairwise (RI k)){i j c:Nat}(a:i<=j)(d:j<L.length)(b:RI k (L.getD j 0) c):RI k (L.getD i 0) c:=by
 rcases Bh h a d with e|e
 ·rw[e];exact b
 ·exact e.trans' b
theorem Mg{k:Nat->Int}{L:List Nat}(h:L.Pairwise (RI k)){i j c:Nat}(a:i<=j)(d:j<L.length)(b:RI k c (L.getD i 0)):RI k c (L.getD j 0):=by
 rcases Bh h a d with e|e
 ·rw[<-e];exact b
 ·exact b.trans' e
theorem Mh{L:List Nat}{n:Nat}{u:Nat}(h:u∈L.take n):∃i,i<n∧i<L.length∧L.getD i 0=u:=by obtain⟨i,a,e⟩:=List.mem_iff_getElem.1 h;rw[cB]at a;refine⟨i,jO,jO, ?_⟩;rw[List.getElem_take]at e;rw[aC,aJ jO];exact e
theorem Bi{L:List Nat}{n:Nat}{u:Nat}(h:u∈L.drop n):∃i,n<=i∧i<L.length∧L.getD i 0=u:=by obtain⟨i,a,e⟩:=List.mem_iff_getElem.1 h;rw[fp]at a;refine⟨n+i,jO,jO, ?_⟩;rw[List.getElem_drop]at e;rw[aC,aJ jO];exact e
theorem ai_{k:Nat->Int}{L R:List Nat}{x:Nat}(h:(L++R).Pairwise (RI k))(f:∀r∈R,RI k x r)(h2:∀l∈L,RI k l x):(L++x::R).Pairwise (RI k):=by
 rw[qD]at h⊢;refine⟨h.1, ?_,fun a c b d=> ?_⟩
 ·rw[r9];exact⟨f,h.2.1⟩
 ·rcases nF.1 d with e|e
  ·subst e;exact h2 a c
  ·exact h.2.2 a c b e
theorem YS{k:Nat->Int}{Y:List Nat}{x p:Nat}(b:Y.Pairwise (RI k))(f:p<=Y.length)(e:p=0∨RI k (Y.getD (p-1) 0) x)(h2:p=Y.length∨RI k x (Y.getD p 0)):(Y.take p++x::Y.drop p).Pairwise (RI k):=by
 refine ai_ (by rw[jN];exact b) (fun r d=> ?_) (fun l a=> ?_)
 ·obtain⟨i,c,a,rfl⟩:=Bi d;rcases h2 with h|h
  ·omega
  ·exact Mg b c a h
 ·obtain⟨i,c,a,rfl⟩:=Mh a;rcases e with h|h
  ·omega
  ·exact Mf b jO jO h
theorem aja{k:Nat->Int}{X Y:List Nat}(d:X.Pairwise (RI k))(c:Y.Pairwise (RI k))(h s:Nat)(n:s<=X.length)(hh:s<=h)(o:h-s<=Y.length)(m:s=0∨h-s=Y.length∨RI k (X.getD (s-1) 0) (Y.getD (h-s) 0))(l:s=X.length∨s=h∨RI k (Y.getD (h-1-s) 0) (X.getD s 0)):∀u∈X.take s++Y.take (h-s),∀v∈X.drop s++Y.drop (h-s),RI k u v:=by
 intro u hu v hv;rcases List.mem_append.1 hu with hu|hu
 ·obtain⟨i,g,f,rfl⟩:=Mh hu;rcases List.mem_append.1 hv with hv|hv
  ·obtain⟨j,b,a,rfl⟩:=Bi hv;rcases Bh d (i:=i) (j:=j) jO a with e|e
   ·exfalso;have:=List.pairwise_iff_getElem.1 d i j jO a jO;rw[aC,aC,aJ jO,aJ a]at e;unfold RI at this;simp only[xo]at e;rw[e]at this;omega
   ·exact e
  ·obtain⟨j,b,a,rfl⟩:=Bi hv;rcases m with h1|h1|h1
   ·omega
   ·omega
   ·exact Mf d (j:=s-1) jO jO (Mg c b a h1)
 ·obtain⟨i,g,f,rfl⟩:=Mh hu;rcases List.mem_append.1 hv with hv|hv
  ·obtain⟨j,b,a,rfl⟩:=Bi hv;rcases l with h1|h1|h1
   ·omega
   ·omega
   ·exact Mf c (j:=h-1-s) jO jO (Mg d b a h1)
  ·obtain⟨j,b,a,rfl⟩:=Bi hv;rcases Bh c (i:=i) (j:=j) jO a with e|e
   ·exfalso;have:=List.pairwise_iff_getElem.1 c i j jO a jO;rw[aC,aC,aJ jO,aJ a]at e;unfold RI at this;simp only[xo]at e;rw[e]at this;omega
   ·exact e
theorem ajb{k:Nat->Int}{Z1 Z2 X Y:List Nat}{h s:Nat}(d:Z1.Perm (X.take s++Y.take (h-s)))(c:Z2.Perm (X.drop s++Y.drop (h-s)))(f:Z1.Pairwise (RI k))(e:Z2.Pairwise (RI k))(g:∀u∈X.take s++Y.take (h-s),∀v∈X.drop s++Y.drop (h-s),RI k u v):(Z1++Z2).Perm (X++Y)∧(Z1++Z2).Pairwise (RI k):=by
 refine⟨(d.append c).trans ?_,qD.2 ⟨f,e,fun a j b i=>g a (d.mem_iff.1 j) b (c.mem_iff.1 i)⟩⟩;have m:X.take s++Y.take (h-s)++(X.drop s++Y.drop (h-s))=X.take s++(Y.take (h-s)++X.drop s)++Y.drop (h-s):=jS
 have l:X++Y=X.take s++(X.drop s++Y.take (h-s))++Y.drop (h-s):=by
  have o:=jN s X;have n:=jN (h-s) Y
  calc X++Y=(X.take s++X.drop s)++(Y.take (h-s)++Y.drop (h-s)):=by rw[o,n]
   _=_:=by simp only[bW]
 rw[m,l];exact((List.perm_append_comm).append_left _).append_right _
theorem tX(P X Q:List Nat)(i j:Nat)(a:j=P.length+i)(b:i<X.length):(P++X++Q).getD j 0=X.getD i 0:=by subst a;rw[aC,aC,bW,oC jO,Nat.add_sub_cancel_left,nB b]
def BS(k:Nat->Int)(c:Nat)(D:List Nat):Prop:=∀i,((D.drop (i*c)).take c).Pairwise (RI k)∧∀x∈D.take (i*c),∀y∈D.drop (i*c),x<y
theorem BS.nil(k:Nat->Int)(c:Nat):BS k c []:=fun i=>⟨jS,fun x a=>by simp at a⟩
theorem BS.drop{k:Nat->Int}{c:Nat}{D:List Nat}(h:BS k c D)(m:Nat):BS k c (D.drop (m*c)):=by intro i;have a:=h (m+i);rw[fW]at a;rw[aqq];refine⟨a.1,fun x b y d=>a.2 x ?_ y d⟩;rw[List.take_drop]at b;exact zA b
theorem BS.first{k:Nat->Int}{c:Nat}{D:List Nat}(h:BS k c D):(D.take c).Pairwise (RI k):=by have:=(h 0).1;rw[Nat.zero_mul,dx]at this;exact this
theorem BS.YT{k:Nat->Int}{c:Nat}{D:List Nat}(h:BS k c D):∀x∈D.take c,∀y∈D.drop c,x<y:=by have:=(h 1).2;rw[r7]at this;exact this
theorem BS.snoc{k:Nat->Int}{c t:Nat}{U Z:List Nat}(h:BS k c U)(b:U.length=t*c)(g:Z.length<=c)(j:Z.Pairwise (RI k))(e:∀x∈U,∀z∈Z,x<z):BS k c (U++Z):=by
 intro i;rcases Nat.lt_trichotomy i t with l|heq|hgt
 ·have d:i*c+c<=U.length:=by rw[b];have:=zv c (show i+1<=t by omega);rw[fW]at this;omega
  have f:=h i;rw[List.drop_append_of_le_length jO,aqy (by rw[fp];omega),aqy jO];refine⟨f.1,fun x a y hy=> ?_⟩;rcases List.mem_append.1 hy with hy|hy
  ·exact f.2 x a y hy
  ·exact e x (j4 a) y hy
 ·subst heq;rw[<-b,List.drop_left,List.take_left,fG g];exact⟨j,e⟩
 ·have d:(U++Z).length<=i*c:=by rw[aG,b];have:=zv c (show t+1<=i by omega);rw[fW]at this;omega
  rw[List.drop_of_length_le d];exact⟨jS,fun x a y hy=>by simp at hy⟩
theorem BS.all{k:Nat->Int}{c:Nat}{D:List Nat}(h:BS k c D)(a:D.length<=c):D.Pairwise (RI k):=by have:=h.first;rwa[fG a]at this
def qi(k:Nat->Int)(xs:List Nat)(t:Nat)(U V:List Nat):Prop:=U.length=t*20∧BS k 20 U∧V.Pairwise (fun a b=>a<b)∧(∀x∈U,∀y∈V,x<y)∧(U++V).Perm xs
theorem qi.start(k:Nat->Int){xs:List Nat}(h:xs.Pairwise (fun a b=>a<b)):qi k xs 0 [] xs:=⟨jS,BS.nil k 20,h,fun x c=>by simp at c,uz _⟩
theorem YU{U V Z:List Nat}{n:Nat}(p:Z.Perm (V.take n)):(U++Z++V.drop n).Perm (U++V):=by have h:=((p.append_left U).append_right (V.drop n));rw[bW U (V.take n),jN]at h;exact h
theorem qi.next{k:Nat->Int}{xs U V Z:List Nat}{t:Nat}(h:qi k xs t U V)(n:20<=V.length)(p:Z.Perm (V.take 20))(s:Z.Pairwise (RI k)):qi k xs (t+1) (U++Z) (V.drop 20):=by
 obtain⟨i,m,l,g,j⟩:=h;have d:Z.length=20:=by rw[p.length_eq,cB];omega
 have f:∀z∈Z,z∈V.take 20:=fun z d=>p.mem_iff.1 d;have c:(V.take 20++V.drop 20).Pairwise (fun a b=>a<b):=by rw[jN];exact l
 rw[qD]at c;refine⟨by rw[aG,i,d,fW],m.snoc i jO s fun x hx z d=>g x hx z (j4 (f z d)),c.2.1,fun x hx y e=> ?_,(YU p).trans j⟩;rcases List.mem_append.1 hx with hx|hx
 ·exact g x hx y (zA e)
 ·exact c.2.2 x (f x hx) y e
theorem qi.last{k:Nat->Int}{xs U V Z:List Nat}{t:Nat}(h:qi k xs t U V)(g:V.length<20)(p:Z.Perm V)(s:Z.Pairwise (RI k)):BS k 20 (U++Z)∧(U++Z).Perm xs:=by obtain⟨f,e,i,d,c⟩:=h;exact⟨e.snoc f (by rw[p.length_eq];omega) s fun x b z a=>d x b z (p.mem_iff.1 a),(p.append_left U).trans c⟩
def nY(k:Nat->Int)(xs:List Nat)(C t:Nat)(U V:List Nat):Prop:=U.length=t*(2*C)∧BS k (2*C) U∧BS k C V∧(∀x∈U,∀y∈V,x<y)∧(U++V).Perm xs
theorem nY.start{k:Nat->Int}{xs D:List Nat}{C:Nat}(h:BS k C D)(p:D.Perm xs):nY k xs C 0 [] D:=⟨jS,BS.nil k _,h,fun x a=>by simp at a,p⟩
theorem YV(V:List Nat)(C:Nat):V.take C++(V.drop C).take C=V.take (2*C):=by rw[Nat.two_mul,List.take_add]
theorem nY.next{k:Nat->Int}{xs U V Z:List Nat}{C t:Nat}(h:nY k xs C t U V)(j:2*C<=V.length)(p:Z.Perm (V.take C++(V.drop C).take C))(s:Z.Pairwise (RI k)):nY k xs C (t+1) (U++Z) (V.drop (2*C)):=by
 obtain⟨f,i,e,d,g⟩:=h;rw[YV]at p;have a:Z.length=2*C:=by rw[p.length_eq,cB];omega
 have c:∀z∈Z,z∈V.take (2*C):=fun z a=>p.mem_iff.1 a;refine⟨by rw[aG,f,a,fW,r7],i.snoc f jO s fun x hx z a=>d x hx z (j4 (c z a)),e.drop 2,fun x hx y b=> ?_,(YU p).trans g⟩;rcases List.mem_append.1 hx with hx|hx
 ·exact d x hx y (zA b)
 ·exact(e 2).2 x (c x hx) y b
theorem nY.last{k:Nat->Int}{xs U V Z:List Nat}{C t:Nat}(h:nY k xs C t U V)(g:V.length<2*C)(p:Z.Perm (V.take C++V.drop C))(s:Z.Pairwise (RI k)):BS k (2*C) (U++Z)∧(U++Z).Perm xs:=by obtain⟨f,e,i,d,c⟩:=h;rw[jN]at p;exact⟨e.snoc f (by rw[p.length_eq];omega) s fun x b z a=>d x b z (p.mem_iff.1 a),(p.append_left U).trans c⟩
theorem nY.none{k:Nat->Int}{xs U V:List Nat}{C t:Nat}(h:nY k xs C t U V)(c:V.length<=C):BS k (2*C) (U++V)∧(U++V).Perm xs:=by obtain⟨i,g,f,e,d⟩:=h;exact⟨g.snoc i jO (f.all c) fun x b z a=>e x b z a,d⟩
end Go.Proofs.YtcehhgppfahbkaaGreatDoor
namespace Go.Proofs.YtcehhgppfahbkaaGreatDoor
open Go.RowKit Ev Hu
theorem ajc{d:Type}{rec:FuncId->Array Value->M Value}(g:FuncId)(e:mE aa g=true)(c:Value)(a b:Value)(k:Value->M d):gI aa rec (.func (.func g) #[] #[c]) [a,b] k=ak rec g [a,b,c] k:=by unfold gI;show bf (some _) _=_;rw[vd];simp only[e];exact(lQ _ _).symm
theorem F5{d:Type}{rec:FuncId->Array Value->M Value}(c:Value)(a b:Value)(k:Value->M d):gI aa rec (.func (.func 249) #[] #[c]) [a,b] k=ak rec 249 [a,b,c] k:=ajc _ (by kernel_rfl) c a b k
theorem YW(lf d:Nat)(h:H)(n:Nat)(x:Int):ae (fun _=>False) n (eW lf (d+1) 252 #[jI x]) h n fun v h' n'=>v= .bool false∧h'=h∧n'=n:=by rw[aF (fun _=>Yt) rfl];refine ae.aE ?_;unfold LW;have e:(x !=x)=false:=jS;exact jC @e
theorem ajd(lf d:Nat)(h:H)(n:Nat)(x y:Int):ae (fun _=>False) n (eW lf (d+2) 250 #[jI x,jI y]) h n fun v h' n'=>v=jI (Bg x y)∧h'=h∧n'=n:=by
 rw[aF (fun _=>Ym) rfl];refine ae.aE ?_;unfold LU;refine bz (YW _ _ _ _ _) (ai _) (fun _ _ h=>h.elim) ?_;refine bz (YW _ _ _ _ _) (ai _) (fun _ _ h=>h.elim) ?_;unfold Bg;refine jB ?_;by_cases a:x<y
 ·simp[a]
 ·by_cases b:y<x
  ·simp[a,b]
  ·simp[a,b]
structure jW (h:H) (n g pw:Nat) (ws:List Int):Prop where
 ex:∃wb off cap e1 o1 e2 o2 cs,h.get pw=some ⟨e1,o1,[.slice (some ⟨wb,off,none⟩) ws.length cap]⟩∧h.get wb=some ⟨e2,o2,cs⟩∧wb<n∧wb≠g∧∀i,i<ws.length->cs[off+i]? =some (jI (ws.getD i 0))
 pn:pw<n
 pg:pw≠g
theorem jW.keeps{h h':H}{n g pw:Nat}{ws:List Int}(e:jW h n g pw ws)(k:∀b,b≠g->h'.get b=h.get b):jW h' n g pw ws:=by obtain⟨⟨c,a,cap,s,j,r,i,t,q,p,o,f,m⟩,l,d⟩:=e;exact⟨⟨c,a,cap,s,j,r,i,t,by rw[k pw d];exact q,by rw[k c f];exact p,o,f,m⟩,l,d⟩
theorem F6(lf d a b:Nat)(h:H)(n g pw:Nat)(ws:List Int)(k:jW h n g pw ws)(j:a<ws.length)(i:b<ws.length):ae (fun _=>False) n (eW lf (d+3) 249 #[jI (a:Nat),jI (b:Nat),jP pw 0]) h n fun v h' n'=>v=jI (Bg (bk ws a) (bk ws b))∧h'=h∧n'=n:=by obtain⟨⟨q,c,cap,z,s,y,r,f,m,l,x,w,e⟩,u,t⟩:=k;have p:f[c+a]? =some (jI (bk ws a)):=e a j;have o:f[c+b]? =some (jI (bk ws b)):=e b i;rw[aF (fun _=>Yl) rfl];refine ae.aE ?_;unfold LS;refine jA (aI @m (aI @l (aI @p @o))) ?_;refine bz (ajd _ _ _ _ _ _) (ai _) (fun _ _ h=>h.elim) ?_;exact jE
theorem lX{xs:List Nat}{i:Nat}(h:i<xs.length):(cJ xs)[i]? =some (jI (xs.getD i 0:Nat)):=by unfold cJ;simp[h]
theorem rD(xs:List Nat):(cJ xs).length=xs.length:=by unfold cJ;simp
theorem F7(xs:List Nat)(i v:Nat):(cJ xs).set i (jI (v:Nat))=cJ (xs.set i v):=by unfold cJ;rw[aqF]
def At(h a:H)(g:Nat)(xs:List Nat):Prop:=a.get g=some ⟨3,true,cJ xs⟩∧∀b,b≠g->a.get b=h.get b
theorem At.set{h c:H}{g:Nat}{xs ys:List Nat}(a:At h c g xs){e:TypeId}{o:Bool}(i:e=3)(f:o=true):At h (c.set g (some ⟨e,o,cJ ys⟩)) g ys:=by subst i f;exact⟨get_eq _ _ _,fun b d=>by rw[aB _ _ d];exact a.2 b d⟩
set_option maxHeartbeats 1000000 in
theorem aje (lf d g n cap pw:Nat) (ws:List Int) (h:H) (pre post Y:List Nat) (x:Nat) (D:List Nat) (N:Nat) (A:(pre++(D++x::Y)++post).length=N) (P:N<=1000000) (T:jW h n g pw ws) (hg:g<n) (K:x<ws.length) (U:∀z∈D,z<ws.length) {W:Nat->Prop} {n0:Nat} (q:n0<=n) (w:n0<=g∨W g) {Q:Value->H->Nat->Prop} (k:V->V->V->V->V->M V) (x2 x8 p:Value)
 (B:∀L R hr,L++R=D->(∀r∈R,bk ws x<bk ws r)->(L=[]∨¬bk ws x<bk ws (L.getD (L.length-1) 0))->At h hr g (pre++(L++x::R++Y)++post)->ae W n0 (k (.slice (some ⟨g,0,none⟩) N cap) (jI (pre.length:Nat)) x2 (.func (.func 249) #[] #[jP pw 0]) x8) hr n Q):
 ∀(m:Nat) (L R:List Nat) (c:Nat) (hr:H),L.length=m->m<c->L++R=D->(∀r∈R,bk ws x<bk ws r)->At h hr g (pre++(L++x::R++Y)++post)->
  ae W n0 (wL lf (eW lf (d+3)) c k (.slice (some ⟨g,0,none⟩) N cap) (jI (pre.length:Nat)) x2 (.func (.func 249) #[] #[jP pw 0]) x8 (jI ((pre.length+m:Nat):Int)) p) hr n Q:=by
 intro m
 induction m with
 |zero=>intro L R c hr j s b o l;obtain⟨c,rfl⟩:∃f,c=f+1:=⟨c-1,jO⟩;have:L=[]:=List.length_eq_zero_iff.1 j;subst this;rw[wL];refine jA @bE ?_;exact B [] R hr b o (.inl rfl) l
 |succ m I=>
  intro L R c hr j s b o l;obtain⟨c,rfl⟩:∃f,c=f+1:=⟨c-1,jO⟩;obtain⟨a,y,rfl⟩:∃a y,L=a++[y]:=⟨L.dropLast,L.getLast (by intro e;rw[e]at j;simp at j),(aqH _).symm⟩;have t:a.length=m:=by simp at j;exact j
  have v:pre.length+(m+1)<N:=by rw[<-A,<-b];simp;omega
  have e1:((pre.length:Nat):Int)<((pre.length+(m+1):Nat):Int):=jO;have Z:pre++(a++[y]++x::R++Y)++post=(pre++a)++y::(x::R++Y++post):=jS;have F:pre++(a++[y]++x::R++Y)++post=(pre++a++[y])++x::(R++Y++post):=jS;have O:(pre++(a++[y]++x::R++Y)++post).length=N:=by rw[<-A,<-b];simp;omega
  have E:(cJ (pre++(a++[y]++x::R++Y)++post))[pre.length+(m+1)]? =some (jI (x:Nat)):=by rw[lX jO,F,qh _ _ _ _ (by simp;omega)]
  have C:(cJ (pre++(a++[y]++x::R++Y)++post))[pre.length+m]? =some (jI (y:Nat)):=by rw[lX jO,Z,qh _ _ _ _ (by simp;omega)]
  have J:y<ws.length:=U y (by rw[<-b];simp);have u:IntKind.i64.wrap (((pre.length+(m+1):Nat):Int)-1)=((pre.length+m:Nat):Int):=by rw[aV jO jO];omega
  have G:=l.1
  have iD:((pre++(a++[y]++x::R++Y)++post).set (pre.length+(m+1)) y).set (pre.length+m) x=pre++(a++x::(y::R)++Y)++post:=by rw[F,tW _ _ _ _ _ (by simp;omega)];have:pre++a++[y]++y::(R++Y++post)=(pre++a)++y::(y::(R++Y++post)):=jS;rw[this,tW _ _ _ _ _ (by simp;omega)];simp
  rw[wL];refine jA (aI @e1 (aI @G (aI @E (aI @C (aI @u @F5))))) ?_;refine bz (F6 lf d x y hr n g pw ws (T.keeps l.2) K J) q (fun _ _ h=>h.elim) ?_;have X:=F4 (bk ws x) (bk ws y);refine jA @X ?_;by_cases i:bk ws x<bk ws y
  ·try simp(disch:=first|omega|assumption) only[Nat.reduceAdd,Nat.reduceLT,RZ,i,G,E,C,u,rD,F7,qC,iD]
   refine⟨jO,w,jO,w, ?_⟩
   exact I a (y::R) c _ t jO (by rw[<-b];simp) (fun r hr=>by
    rcases nF.1 hr with rfl|hr
    ·exact i
    ·exact o r hr) ((l.set rfl rfl).set rfl rfl)
  ·refine jA @i ?_;exact B (a++[y]) R hr b o (.inr (by simpa using i)) l
theorem ajf (lf d g n cap pw:Nat) (ws:List Int) (h:H) (pre post c:List Nat) (N:Nat) (u1:2000000<=lf) (T:(pre++c++post).length=N) (J:N<=1000000) (hE:jW h n g pw ws) (hg:g<n) (A:∀z∈c,z<ws.length) (F:c.Pairwise (fun a b=>bk ws a=bk ws b->a<b)) {W:Nat->Prop} {n0:Nat} (I:n0<=n) (hW:n0<=g∨W g) {Q:Value->H->Nat->Prop} (k:M V)
 (hK:∀D r,D.Perm c->D.Pairwise (RI (bk ws))->At h r g (pre++D++post)->ae W n0 k r n Q):
 ∀(Y D w:List Nat) (o:Nat) (r:H),Y.length<o->c=w++Y->D.Perm w->D.Pairwise (RI (bk ws))->At h r g (pre++(D++Y)++post)->
  ae W n0 (qf lf (eW lf (d+3)) o k (.slice (some ⟨g,0,none⟩) N cap) (jI (pre.length:Nat)) (jI ((pre.length+c.length:Nat):Int)) (.func (.func 249) #[] #[jP pw 0]) (jI ((pre.length+D.length:Nat):Int))) r n Q:=by
 intro Y
 induction Y with
 |nil=>intro D w o r v p u s C;obtain⟨o,rfl⟩:∃f,o=f+1:=⟨o-1,by simp at v;omega⟩;rw[cz]at p C;subst p;rw[u.length_eq];rw[qf];refine jA @bE ?_;exact hK D r u s C
 |cons x Y X=>
  intro D w o r v p u s C;obtain⟨o,rfl⟩:∃f,o=f+1:=⟨o-1,jO⟩;have u2:=u.length_eq;have u0:c.length=D.length+1+Y.length:=by rw[p];simp;omega
  have u3:pre.length+c.length+post.length=N:=by rw[<-T];simp;omega
  have e1:((pre.length+D.length:Nat):Int)<((pre.length+c.length:Nat):Int):=jO;have Z:x<ws.length:=A x (by rw[p];simp);have hD:∀z∈D,z<ws.length:=fun z E=>A z (by rw[p];simp[u.mem_iff.1 E])
  have K:∀z∈D,bk ws z=bk ws x->z<x:=by intro z E;have U:=F;rw[p,qD]at U;exact U.2.2 z (u.mem_iff.1 E) x jS
  rw[qf];refine jA @e1 ?_;refine aje lf d g n cap pw ws h pre post Y x D N (by rw[<-T,p];simp;omega) J hE hg Z hD I hW _ _ _ _ (fun L R G m hR B O=> ?_) D.length D [] lf r rfl jO jS jS (by simpa using C)
  (try unfold ai0);(try unfold FY);(try dsimp only)
  refine jB ?_;have t:(L++x::R).length=D.length+1:=by rw[<-m];simp;omega
  have e3:((pre.length+D.length+1:Nat):Int)=((pre.length+(L++x::R).length:Nat):Int):=by rw[t];omega
  have e4:((pre.length+D.length:Nat):Int)+1=((pre.length+(L++x::R).length:Nat):Int):=by rw[t];omega
  first|rw[e3]|rw[e4]
  refine X (L++x::R) (w++[x]) o G (by simp at v;omega) (by rw[p];simp) ?_ ?_ O
  ·refine(List.perm_middle.trans ?_:(L++x::R).Perm (w++[x]));rw[m];exact(u.cons x).trans (aqI x w).symm
  ·refine ai9 (by rw[m];exact s) hR (fun l y=> ?_) (fun l y=>K l (by rw[<-m];simp[y]));rcases B with h|h2
   ·rw[h]at y;simp at y
   ·have h4:(L++R).Pairwise (RI (bk ws)):=by rw[m];exact s
    obtain⟨i,P,e⟩:=List.mem_iff_getElem.1 y;rcases Bh (qD.1 h4).1 (i:=i) (j:=L.length-1) jO jO with q|q
    ·have:l=L.getD (L.length-1) 0:=by rw[<-q,<-e];simp[P]
     rw[this];omega
    ·have:L.getD i 0=l:=by rw[<-e];simp[P]
     rw[this]at q;unfold RI at q;omega
theorem ajg(lf d g n cap pw:Nat)(ws:List Int)(h:H)(pre c post:List Nat)(N:Nat)(j:2000000<=lf)(m:(pre++c++post).length=N)(l:N<=1000000)(A:1<=c.length)(w:jW h n g pw ws)(t:g<n)(hh:h.get g=some ⟨3,true,cJ (pre++c++post)⟩)(k:∀z∈c,z<ws.length)(i:c.Pairwise (fun a b=>a<b))(a b:Int)(u:a=(pre.length:Nat))(o:b=((pre.length+c.length:Nat):Int)):
 ae (fun x=>x=g) n (eW lf (d+4) 253 #[.slice (some ⟨g,0,none⟩) N cap,jI a,jI b,.func (.func 249) #[] #[jP pw 0]]) h n fun v h' n'=>n'=n∧∃D,D.Perm c∧D.Pairwise (RI (bk ws))∧At h h' g (pre++D++post):=by
 subst u o;rw[aF (fun _=>LX) rfl];refine ae.aE ?_;unfold Bc;have r:pre.length<=N:=by rw[<-m];simp
 refine jB ?_
 obtain⟨e,f,rfl⟩:∃e f,c=e::f:=by
  cases c with
  |nil=>simp at A
  |cons e f=>exact⟨e,f,rfl⟩
 rw[show((pre.length:Nat):Int)+1=((pre.length+[e].length:Nat):Int) by simp];refine ajf (W:=fun x=>x=g) lf d g n cap pw ws h pre post (e::f) N j m l w t k (i.imp (S:=fun a b=>bk ws a=bk ws b->a<b) fun{_ _} q _=>q) (ai _) (.inr rfl) _ (fun D B s p y=> ?_) f [e] [e] lf h (by simp at m;omega) rfl (uz _) (List.pairwise_singleton _ _) ⟨by simpa using hh,fun b o=>rfl⟩
 (try unfold Bb);(try dsimp only)
 refine jB ?_;exact⟨D,s,p,y⟩
theorem At.trans{h e h2:H}{g:Nat}{xs ys:List Nat}(a:At h e g xs)(b:At e h2 g ys):At h h2 g ys:=⟨b.1,fun c d=>(b.2 c d).trans (a.2 c d)⟩
theorem swA (lf d g n cap:Nat) (h:H) (P Z Q:List Nat) (U V:List Nat) (N:Nat) (F:(P++U++Z++V++Q).length=N) (E:N<=1000000) (T:g<n) {W:Nat->Prop} {n0:Nat} (s:n0<=g∨W g) {R:Value->H->Nat->Prop} (k:(M Value))
 (G:∀j,At h j g (P++V++Z++U++Q)->ae W n0 (k) j n R):
 ∀(c b a e:List Nat) (i:Nat) (j:H),c.length<i->c.length=b.length->a.length=e.length->a++c=U->e++b=V->At h j g (P++e++c++Z++a++b++Q)->
  ae W n0 (wP lf (eW lf d) i k (.slice (some ⟨g,0,none⟩) N cap) (jI (P.length:Nat)) (jI ((P.length+U.length+Z.length:Nat):Int)) (jI (U.length:Nat)) (jI (a.length:Nat))) j n R:=by
 intro c
 induction c with
 |nil=>intro b a e i j l q t o m p;obtain⟨i,rfl⟩:∃f,i=f+1:=⟨i-1,by simp at l;omega⟩;have:b=[]:=List.length_eq_zero_iff.1 q.symm;subst this;rw[cz]at o m;subst o m;rw[wP];refine jA @bE ?_;exact G j (by simpa using p)
 |cons u c D=>
  intro b a e i j l q t o m p;obtain⟨i,rfl⟩:∃f,i=f+1:=⟨i-1,jO⟩
  obtain⟨v,b,rfl⟩:∃v V3,b=v::V3:=by
   cases b with
   |nil=>simp at q
   |cons x Y=>exact⟨x,Y,rfl⟩
  have C:=congrArg lK o;have B:=congrArg lK m;simp only[aG,ct]at C B q F l;have L:((a.length:Nat):Int)<((U.length:Nat):Int):=jO;have r:P++e++u::c++Z++a++v::b++Q=(P++e)++u::(c++Z++a++v::b++Q):=jS;have A:P++e++u::c++Z++a++v::b++Q=(P++e++u::c++Z++a)++v::(b++Q):=jS;have z:(P++e)++v::(c++Z++a++v::b++Q)=(P++e++v::c++Z++a)++v::(b++Q):=jS;have O:(P++e++u::c++Z++a++v::b++Q).length=N:=by simp only[aG,ct];omega
  have y:IntKind.i64.wrap (((P.length:Nat):Int)+((a.length:Nat):Int))=((P.length+a.length:Nat):Int):=by rw[aV jO jO];omega
  have w:IntKind.i64.wrap (((P.length+U.length+Z.length:Nat):Int)+((a.length:Nat):Int))=((P.length+U.length+Z.length+a.length:Nat):Int):=by rw[aV jO jO];omega
  have J:(cJ (P++e++u::c++Z++a++v::b++Q))[P.length+a.length]? =some (jI (u:Nat)):=by rw[lX jO,r,qh _ _ _ _ (by simp;omega)]
  have I:(cJ (P++e++u::c++Z++a++v::b++Q))[P.length+U.length+Z.length+a.length]? =some (jI (v:Nat)):=by rw[lX jO,A,qh _ _ _ _ (by simp;omega)]
  have iD:((P++e++u::c++Z++a++v::b++Q).set (P.length+a.length) v).set (P.length+U.length+Z.length+a.length) u=P++(e++[v])++c++Z++(a++[u])++b++Q:=by rw[r,tW _ _ _ _ _ (by simp;omega),z,tW _ _ _ _ _ (by simp;omega)];simp
  have K:=p.1;rw[wP];try simp(disch:=first|omega|assumption) only[Nat.reduceAdd,Nat.reduceLT,RZ,L,K,J,I,y,w,rD,F7,qC,iD]
  refine⟨jO,s,jO,s, ?_⟩;have:=D b (a++[u]) (e++[v]) i _ jO jO (by simp[t]) (by rw[<-o];simp) (by rw[<-m];simp) ((p.set (ys:=(P++e++u::c++Z++a++v::b++Q).set (P.length+a.length) v) rfl rfl).set (ys:=P++(e++[v])++c++Z++(a++[u])++b++Q) rfl rfl);rw[show(a++[u]).length=a.length+1 by simp]at this;exact this
theorem Mi(lf d g n cap:Nat)(h:H)(P U Z V Q:List Nat)(N:Nat)(f:Value)(a b c:Int)(l:2000000<=lf)(k:(P++U++Z++V++Q).length=N)(i:N<=1000000)(e:U.length=V.length)(m:g<n)(p:a=(P.length:Nat))(j:b=((P.length+U.length+Z.length:Nat):Int))(o:c=(U.length:Nat))(hh:h.get g=some ⟨3,true,cJ (P++U++Z++V++Q)⟩):
 ae (fun x=>x=g) n (eW lf (d+1) 256 #[.slice (some ⟨g,0,none⟩) N cap,jI a,jI b,jI c,f]) h n fun v h' n'=>n'=n∧At h h' g (P++V++Z++U++Q):=by
 subst p j o;rw[aF (fun _=>YM) rfl];refine ae.aE ?_;unfold F1;have s:U.length<=N:=by rw[<-k];simp;omega
 refine swA (W:=fun x=>x=g) lf d g n cap h P Z Q U V N k i m (.inr rfl) _ (fun r q=> ?_) U V [] [] lf h jO e rfl rfl rfl ⟨by simpa using hh,fun b j=>rfl⟩
 (try unfold Mc);(try dsimp only)
 refine jB ?_;exact q
theorem roA (lf d g n cap:Nat) (h:H) (f:Value) (T:List Nat) (N i:Nat) (L x3:Value) (s:2000000<=lf) (hT:T.length=N) (w:N<=1000000) (J:g<n) {W:Nat->Prop} {n0:Nat} (r:n0<=n) (K:n0<=g∨W g) {R:Value->H->Nat->Prop} (k:(Value->Value->Value->Value->M Value))
 (hK:∀c (I:Nat) P U V Q,I=U.length->U.length=V.length->P.length+I=i->P++V++U++Q=T->At h c g (P++U++V++Q)->ae W n0 (k (.slice (some ⟨g,0,none⟩) N cap) (jI (i:Nat)) f (jI (I:Nat))) c n R):
 ∀(m:Nat) (P U V Q:List Nat) (e:Nat) (c:H),U.length+V.length<=m->m<e->1<=U.length->1<=V.length->P.length+U.length=i->P++V++U++Q=T->At h c g (P++U++V++Q)->
  ae W n0 (wO lf (eW lf (d+1)) e k (.slice (some ⟨g,0,none⟩) N cap) L (jI (i:Nat)) x3 f (jI (U.length:Nat)) (jI (V.length:Nat))) c n R:=by
 intro m
 induction m with
 |zero=>intro P U V Q e c z _ h2;omega
 |succ m G=>
  intro P U V Q e c hm u0 hU hV hP y x;obtain⟨e,rfl⟩:∃f,e=f+1:=⟨e-1,jO⟩;have F:=congrArg lK y;simp only[aG]at F;rw[hT]at F;rw[wO];by_cases j:U.length=V.length
  ·have A:(((U.length:Nat):Int) !=((V.length:Nat):Int))=false:=by rw[j];simp
   refine jA @A ?_;try rw[<-j]
   exact hK c _ P U V Q rfl j hP y x
  ·have A:(((U.length:Nat):Int) !=((V.length:Nat):Int))=true:=by simp;omega
   by_cases Z:V.length<U.length
   ·have E:((V.length:Nat):Int)<((U.length:Nat):Int):=jO;have p:IntKind.i64.wrap (((U.length:Nat):Int)-((V.length:Nat):Int))=((U.length-V.length:Nat):Int):=by rw[aV jO jO];omega
    have B:IntKind.i64.wrap ((i:Int)-((U.length:Nat):Int))=((P.length:Nat):Int):=by rw[aV jO jO];omega
    refine jA (aI @A (aI @E (aI @p @B))) ?_;have a:(U.take V.length).length=V.length:=by rw[cB];omega
    have q:P++U++V++Q=P++U.take V.length++U.drop V.length++V++Q:=by rw[bW P (U.take _),jN]
    refine aN aL (Mi lf d g n cap c P (U.take V.length) (U.drop V.length) V Q N f _ _ _ s (by rw[<-q];simp;omega) w a J rfl (by rw[a,fp];omega) (by rw[a]) (by rw[<-q];exact x.1)) r (fun b _ D=>D▸K) fun v z Y _ _ C=> ?_;obtain⟨rfl,o⟩:=C;refine jA @p ?_;have l:=x.trans o;have:=G (P++V) (U.drop V.length) (U.take V.length) Q e z (by rw[a,fp];omega) jO (by rw[fp];omega) jO (by rw[aG,fp];omega) (by rw[<-y];simp) l;rw[a,fp]at this;exact this
   ·have E:¬((V.length:Nat):Int)<((U.length:Nat):Int):=jO;have p:IntKind.i64.wrap (((V.length:Nat):Int)-((U.length:Nat):Int))=((V.length-U.length:Nat):Int):=by rw[aV jO jO];omega
    have B:IntKind.i64.wrap ((i:Int)-((U.length:Nat):Int))=((P.length:Nat):Int):=by rw[aV jO jO];omega
    have X:IntKind.i64.wrap ((i:Int)+((V.length:Nat):Int))=((i+V.length:Nat):Int):=by rw[aV jO jO];omega
    have O:IntKind.i64.wrap (((i+V.length:Nat):Int)-((U.length:Nat):Int))=((P.length+V.length:Nat):Int):=by rw[aV jO jO];omega
    refine jA (aI @A (aI @E (aI @p (aI @B (aI @X @O))))) ?_;have u:(V.drop (V.length-U.length)).length=U.length:=by rw[fp];omega
    have t:(V.take (V.length-U.length)).length=V.length-U.length:=by rw[cB];omega
    have q:P++U++V++Q=P++U++V.take (V.length-U.length)++V.drop (V.length-U.length)++Q:=by rw[bW (P++U) (V.take _),jN]
    refine aN aL (Mi lf d g n cap c P U (V.take (V.length-U.length)) (V.drop (V.length-U.length)) Q N f _ _ _ s (by rw[<-q];simp;omega) w u.symm J rfl (by rw[t];omega) rfl (by rw[<-q];exact x.1)) r (fun b _ D=>D▸K) fun v z Y _ _ C=> ?_;obtain⟨rfl,o⟩:=C;refine jA @p ?_;have l:=x.trans o;have:=G P (V.drop (V.length-U.length)) (V.take (V.length-U.length)) (U++Q) e z jO jO jO jO jO (by rw[<-y];rw[<-bW,bW P,jN]) (by rw[<-bW];exact l);rw[u,t]at this;exact this
theorem ajh(lf d g n cap:Nat)(h:H)(P X Y Q:List Nat)(N:Nat)(f:Value)(a m b:Int)(B:3000000<=lf)(k:(P++X++Y++Q).length=N)(c:N<=1000000)(E:1<=X.length)(D:1<=Y.length)(l:g<n)(C:a=(P.length:Nat))(A:m=((P.length+X.length:Nat):Int))(i:b=((P.length+X.length+Y.length:Nat):Int))(hh:h.get g=some ⟨3,true,cJ (P++X++Y++Q)⟩):
 ae (fun x=>x=g) n (eW lf (d+2) 255 #[.slice (some ⟨g,0,none⟩) N cap,jI a,jI m,jI b,f]) h n fun v h' n'=>n'=n∧At h h' g (P++Y++X++Q):=by
 subst C A i;rw[aF (fun _=>YJ) rfl];refine ae.aE ?_;unfold F0;have w:=k;simp only[aG]at w;have t:IntKind.i64.wrap (((P.length+X.length:Nat):Int)-((P.length:Nat):Int))=((X.length:Nat):Int):=by rw[aV jO jO];omega
 have s:IntKind.i64.wrap (((P.length+X.length+Y.length:Nat):Int)-((P.length+X.length:Nat):Int))=((Y.length:Nat):Int):=by rw[aV jO jO];omega
 refine jA (aI @t @s) ?_;refine roA (W:=fun x=>x=g) lf d g n cap h f (P++Y++X++Q) N (P.length+X.length) _ _ jO (by rw[<-k];simp;omega) c l (ai _) (.inr rfl) _ (fun y I q U V Q1 F j J o p=> ?_) _ P X Y Q lf h (ai _) jO E D rfl rfl ⟨hh,fun b i=>rfl⟩
 (try unfold Mb);(try dsimp only)
 have u:=congrArg lK o;simp only[aG]at u;have r:IntKind.i64.wrap (((P.length+X.length:Nat):Int)-(I:Int))=((q.length:Nat):Int):=by rw[aV jO jO];omega
 refine jA @r ?_;refine aN aL (Mi lf d g n cap y q U [] V Q1 N f _ _ _ jO (by rw[<-k];simp;omega) c j l rfl (by simp;omega) (by rw[F]) (by rw[cz];exact p.1)) (ai _) (fun b _ i=> .inr i) fun v K G _ _ z=> ?_;obtain⟨rfl,e⟩:=z;refine jB ?_;rw[cz,o]at e;exact p.trans e
theorem wrap_u64{x:Int}(a:0<=x)(b:x<=9223372036854775807):IntKind.u64.wrap x=x:=by unfold IntKind.wrap;have:(2:Int)^IntKind.u64.bits=18446744073709551616:=jD;simp only[show IntKind.u64.signed=false from rfl,Bool.false_eq_true,false_and,if_false,this];exact Int.emod_eq_of_lt a jO
theorem yy(x:Int):x.fdiv (2^min 1 IntKind.u64.bits)=x/2:=by rw[show min 1 IntKind.u64.bits=1 from rfl,Int.pow_succ,Int.pow_zero,Int.one_mul,Oy _ jO]
theorem Bj(x:Int):x.fdiv (2^min (Int.toNat 1) IntKind.u64.bits)=x/2:=yy x
theorem aji (lf d g n cap pw:Nat) (ws:List Int) (h:H) (P Y Q:List Nat) (x:Nat) (N:Nat) (K:(P++x::Y++Q).length=N) (J:N<=1000000) (L:jW h n g pw ws) (hg:g<n) (hh:h.get g=some ⟨3,true,cJ (P++x::Y++Q)⟩) (C:x<ws.length) (I:∀z∈Y,z<ws.length) {W:Nat->Prop} {n0:Nat} (s:n0<=n) {R:Value->H->Nat->Prop} (k:(Value->Value->Value->Value->Value->Value->Value->Value->Value->M Value)) (x2 x3 b:Value)
 (v:∀p o,p<=Y.length->(p=0∨bk ws (Y.getD (p-1) 0)<bk ws x)->(p=Y.length∨¬bk ws (Y.getD p 0)<bk ws x)->ae W n0 (k (.slice (some ⟨g,0,none⟩) N cap) (jI (P.length:Nat)) x2 x3 (.func (.func 249) #[] #[jP pw 0]) (jI ((P.length+1+p:Nat):Int)) (jI ((P.length+1+p:Nat):Int)) b o) h n R):
 ∀(m p q a:Nat),q-p<=m->m<a->p<=q->q<=Y.length->(p=0∨bk ws (Y.getD (p-1) 0)<bk ws x)->(q=Y.length∨¬bk ws (Y.getD q 0)<bk ws x)->
  ae W n0 (tT lf (eW lf (d+3)) a k (.slice (some ⟨g,0,none⟩) N cap) (jI (P.length:Nat)) x2 x3 (.func (.func 249) #[] #[jP pw 0]) (jI ((P.length+1+p:Nat):Int)) (jI ((P.length+1+q:Nat):Int)) b) h n R:=by
 have A:=K;simp only[aG,ct]at A;intro m
 induction m with
 |zero=>intro p q a D t r e l j;obtain⟨a,rfl⟩:∃f,a=f+1:=⟨a-1,jO⟩;obtain rfl:p=q:=jO;rw[tT];refine jA @bE ?_;exact v p _ e l j
 |succ m u=>
  intro p q a D t r e l j;obtain⟨a,rfl⟩:∃f,a=f+1:=⟨a-1,jO⟩;rw[tT];by_cases E:p<q
  ·obtain⟨c,hc⟩:∃c,(P.length+1+p+(P.length+1+q))/2=P.length+1+c:=⟨(p+q)/2,jO⟩;have G:p<=c:=jO;have F:c<q:=jO;have Z:((P.length+1+p:Nat):Int)<((P.length+1+q:Nat):Int):=jO;have X:(((P.length+1+p:Nat):Int)+((P.length+1+q:Nat):Int))/2=((P.length+1+c:Nat):Int):=jO;have B:Y.getD c 0<ws.length:=I _ (by rw[aC,aJ jO];exact cb _)
   have T:(cJ (P++x::Y++Q))[P.length+1+c]? =some (jI (Y.getD c 0:Nat)):=by rw[lX jO,show P++x::Y++Q=(P++[x])++Y++Q by simp,tX _ _ _ c _ jS jO]
   have O:(cJ (P++x::Y++Q))[P.length]? =some (jI (x:Nat)):=by rw[lX jO,show P++x::Y++Q=P++x::(Y++Q) by simp,qh _ _ _ _ rfl]
   refine jA (aI @Z (aI @wrap_u64 (aI @yy (aI @Bj (aI @X (aI @hh (aI @T (aI @O @F5)))))))) ?_;refine bz (F6 lf d _ x h n g pw ws L B C) s (fun _ _ h=>h.elim) ?_;have U:=F4 (bk ws (Y.getD c 0)) (bk ws x);refine jA @U ?_;by_cases i:bk ws (Y.getD c 0)<bk ws x
   ·have y:IntKind.i64.wrap (((P.length+1+c:Nat):Int)+1)=((P.length+1+(c+1):Nat):Int):=by rw[aV jO jO];omega
    refine jA (aI @i @y) ?_;have w:((P.length+1+c:Nat):Int)+1=((P.length+1+(c+1):Nat):Int):=jO;try rw[w]
    exact u (c+1) q a jO jO jO e (.inr (by simpa using i)) j
   ·refine jA @i ?_;exact u p c a jO jO jO jO l (.inr i)
  ·obtain rfl:p=q:=jO;refine jA @bE ?_;exact v p _ e l j
theorem ajj (lf d g n cap:Nat) (h:H) (P Y Q:List Nat) (x p:Nat) (N:Nat) (G:(P++x::Y++Q).length=N) (F:N<=1000000) (T:p<=Y.length) (X:g<n) {W:Nat->Prop} {n0:Nat} (r:n0<=g∨W g) {R:Value->H->Nat->Prop} (k:(M Value)) (u x2 x3 x4 x11 j i:Value)
 (s:∀b,At h b g (P++(Y.take p++x::Y.drop p)++Q)->ae W n0 (k) b n R):
 ∀(m t a:Nat) (b:H),p-t<=m->m<a->t<=p->At h b g (P++(Y.take t++x::Y.drop t)++Q)->
  ae W n0 (wM lf (eW lf d) a k (.slice (some ⟨g,0,none⟩) N cap) u x2 x3 x4 (jI ((P.length+1+p:Nat):Int)) x11 (jI ((P.length+t:Nat):Int)) j i) b n R:=by
 have z:=G;simp only[aG,ct]at z;have l:IntKind.i64.wrap (((P.length+1+p:Nat):Int)-1)=((P.length+p:Nat):Int):=by rw[aV jO jO];omega
 intro m
 induction m with
 |zero=>intro t a b D o C c;obtain⟨a,rfl⟩:∃f,a=f+1:=⟨a-1,jO⟩;obtain rfl:t=p:=jO;rw[wM];refine jA (aI @bE @l) ?_;exact s b c
 |succ m A=>
  intro t a b D o C c;obtain⟨a,rfl⟩:∃f,a=f+1:=⟨a-1,jO⟩;rw[wM];by_cases E:t<p
  ·have K:((P.length+t:Nat):Int)<((P.length+p:Nat):Int):=jO;have v:IntKind.i64.wrap (((P.length+t:Nat):Int)+1)=((P.length+(t+1):Nat):Int):=by rw[aV jO jO];omega
   have hd:Y.drop t=Y.getD t 0::Y.drop (t+1):=by rw[uv jO,aC,aJ jO];rfl
   have e:Y.take (t+1)=Y.take t++[Y.getD t 0]:=by rw[fq jO,aC,aJ jO];rfl
   obtain⟨y,B⟩:∃y,Y.getD t 0=y:=⟨_,rfl⟩;rw[B]at hd e;have lt:(Y.take t).length=t:=by rw[cB];omega
   have O:(Y.drop (t+1)).length=Y.length-(t+1):=fp;rw[hd]at c;have q:P++(Y.take t++x::y::Y.drop (t+1))++Q=(P++Y.take t)++x::(y::(Y.drop (t+1)++Q)):=jS;have w:P++(Y.take t++x::y::Y.drop (t+1))++Q=(P++Y.take t++[x])++y::(Y.drop (t+1)++Q):=jS;have U:(P++(Y.take t++x::y::Y.drop (t+1))++Q).length=N:=by simp;omega
   have J:(cJ (P++(Y.take t++x::y::Y.drop (t+1))++Q))[P.length+t]? =some (jI (x:Nat)):=by rw[lX jO,q,qh _ _ _ _ (by simp;omega)]
   have I:(cJ (P++(Y.take t++x::y::Y.drop (t+1))++Q))[P.length+(t+1)]? =some (jI (y:Nat)):=by rw[lX jO,w,qh _ _ _ _ (by simp;omega)]
   have iD:((P++(Y.take t++x::y::Y.drop (t+1))++Q).set (P.length+t) y).set (P.length+(t+1)) x=P++(Y.take (t+1)++x::Y.drop (t+1))++Q:=by rw[q,tW _ _ _ _ _ (by simp;omega),show P++Y.take t++y::y::(Y.drop (t+1)++Q)=(P++Y.take t++[y])++y::(Y.drop (t+1)++Q) by simp,tW _ _ _ _ _ (by simp;omega),e];simp
   have L:=c.1;try simp(disch:=first|omega|assumption) only[Nat.reduceAdd,Nat.reduceLT,RZ,K,l,v,L,J,I,rD,F7,qC,iD]
   refine⟨jO,r,jO,r, ?_⟩;exact A (t+1) a _ jO jO jO ((c.set (ys:=(P++(Y.take t++x::y::Y.drop (t+1))++Q).set (P.length+t) y) rfl rfl).set rfl rfl)
  ·obtain rfl:t=p:=jO;refine jA (aI @bE @l) ?_;exact s b c
theorem ajk (lf d g n cap pw:Nat) (ws:List Int) (h:H) (P X Q:List Nat) (y:Nat) (N:Nat) (O:(P++X++y::Q).length=N) (L:N<=1000000) (T:jW h n g pw ws) (hg:g<n) (hh:h.get g=some ⟨3,true,cJ (P++X++y::Q)⟩) (D:y<ws.length) (K:∀z∈X,z<ws.length) {W:Nat->Prop} {n0:Nat} (t:n0<=n) {R:Value->H->Nat->Prop} (k:(Value->Value->Value->Value->Value->Value->Value->Value->Value->Value->M Value)) (v x3 e b:Value)
 (x:∀p r,p<=X.length->(p=0∨¬bk ws y<bk ws (X.getD (p-1) 0))->(p=X.length∨bk ws y<bk ws (X.getD p 0))->ae W n0 (k (.slice (some ⟨g,0,none⟩) N cap) v (jI ((P.length+X.length:Nat):Int)) x3 (.func (.func 249) #[] #[jP pw 0]) (jI ((P.length+p:Nat):Int)) (jI ((P.length+p:Nat):Int)) e b r) h n R):
 ∀(m p q a:Nat),q-p<=m->m<a->p<=q->q<=X.length->(p=0∨¬bk ws y<bk ws (X.getD (p-1) 0))->(q=X.length∨bk ws y<bk ws (X.getD q 0))->
  ae W n0 (tU lf (eW lf (d+3)) a k (.slice (some ⟨g,0,none⟩) N cap) v (jI ((P.length+X.length:Nat):Int)) x3 (.func (.func 249) #[] #[jP pw 0]) (jI ((P.length+p:Nat):Int)) (jI ((P.length+q:Nat):Int)) e b) h n R:=by
 have C:=O;simp only[aG,ct]at C;intro m
 induction m with
 |zero=>intro p q a F u s i o l;obtain⟨a,rfl⟩:∃f,a=f+1:=⟨a-1,jO⟩;obtain rfl:p=q:=jO;rw[tU];refine jA @bE ?_;exact x p _ i o l
 |succ m w=>
  intro p q a F u s i o l;obtain⟨a,rfl⟩:∃f,a=f+1:=⟨a-1,jO⟩;rw[tU];by_cases G:p<q
  ·obtain⟨c,hc⟩:∃c,(P.length+p+(P.length+q))/2=P.length+c:=⟨(p+q)/2,jO⟩;have J:p<=c:=jO;have I:c<q:=jO;have e1:((P.length+p:Nat):Int)<((P.length+q:Nat):Int):=jO;have e2:(((P.length+p:Nat):Int)+((P.length+q:Nat):Int))/2=((P.length+c:Nat):Int):=jO;have E:X.getD c 0<ws.length:=K _ (by rw[aC,aJ jO];exact cb _)
   have Y:(cJ (P++X++y::Q))[P.length+c]? =some (jI (X.getD c 0:Nat)):=by rw[lX jO,tX _ _ _ c _ rfl jO]
   have U:(cJ (P++X++y::Q))[P.length+X.length]? =some (jI (y:Nat)):=by rw[lX jO,qh _ _ _ _ jS]
   refine jA (aI @e1 (aI @wrap_u64 (aI @yy (aI @Bj (aI @e2 (aI @hh (aI @Y (aI @U @F5)))))))) ?_;refine bz (F6 lf d y _ h n g pw ws T D E) t (fun _ _ h=>h.elim) ?_;have Z:=F4 (bk ws y) (bk ws (X.getD c 0));refine jA @Z ?_;by_cases j:bk ws y<bk ws (X.getD c 0)
   ·refine jA (aI @j (aI @decide_true @gE)) ?_;exact w p c a jO jO jO jO o (.inr j)
   ·have B:IntKind.i64.wrap (((P.length+c:Nat):Int)+1)=((P.length+(c+1):Nat):Int):=by rw[aV jO jO];omega
    have A:((P.length+c:Nat):Int)+1=((P.length+(c+1):Nat):Int):=jO;refine jA (aI @j (aI @decide_false (aI @gO @B))) ?_;try rw[A]
    exact w (c+1) q a jO jO jO i (.inr (by simpa using j)) l
  ·obtain rfl:p=q:=jO;refine jA @bE ?_;exact x p _ i o l
theorem ajl (lf d g n cap:Nat) (h:H) (P X Q:List Nat) (y p:Nat) (N:Nat) (G:(P++X++y::Q).length=N) (F:N<=1000000) (U:p<=X.length) (Z:g<n) {W:Nat->Prop} {n0:Nat} (u:n0<=g∨W g) {R:Value->H->Nat->Prop} (k:(M Value)) (v x2 x3 x4 o l j i:Value)
 (I:∀b,At h b g (P++(X.take p++y::X.drop p)++Q)->ae W n0 (k) b n R):
 ∀(m t a:Nat) (b:H),t-p=m->m<a->p<=t->t<=X.length->At h b g (P++(X.take t++y::X.drop t)++Q)->
  ae W n0 (wN lf (eW lf d) a k (.slice (some ⟨g,0,none⟩) N cap) v x2 x3 x4 (jI ((P.length+p:Nat):Int)) o (jI ((P.length+t:Nat):Int)) l j i) b n R:=by
 have A:=G;simp only[aG,ct]at A;intro m
 induction m with
 |zero=>intro t a b E r D q e;obtain⟨a,rfl⟩:∃f,a=f+1:=⟨a-1,jO⟩;obtain rfl:t=p:=jO;rw[wN];refine jA @bE ?_;exact I b e
 |succ m B=>
  intro t a b E r D q e;obtain⟨a,rfl⟩:∃f,a=f+1:=⟨a-1,jO⟩;obtain⟨t,rfl⟩:∃f,t=f+1:=⟨t-1,jO⟩;rw[wN];have L:((P.length+p:Nat):Int)<((P.length+(t+1):Nat):Int):=jO;have w:IntKind.i64.wrap (((P.length+(t+1):Nat):Int)-1)=((P.length+t:Nat):Int):=by rw[aV jO jO];omega
  have hd:X.drop t=X.getD t 0::X.drop (t+1):=by rw[uv jO,aC,aJ jO];rfl
  have c:X.take (t+1)=X.take t++[X.getD t 0]:=by rw[fq jO,aC,aJ jO];rfl
  obtain⟨x,C⟩:∃y,X.getD t 0=y:=⟨_,rfl⟩;rw[C]at hd c;have lt:(X.take t).length=t:=by rw[cB];omega
  have T:(X.drop (t+1)).length=X.length-(t+1):=fp;rw[c]at e;have z:P++(X.take t++[x]++y::X.drop (t+1))++Q=(P++X.take t)++x::(y::(X.drop (t+1)++Q)):=jS;have s:P++(X.take t++[x]++y::X.drop (t+1))++Q=(P++X.take t++[x])++y::(X.drop (t+1)++Q):=jS;have Y:(P++(X.take t++[x]++y::X.drop (t+1))++Q).length=N:=by simp;omega
  have K:(cJ (P++(X.take t++[x]++y::X.drop (t+1))++Q))[P.length+t]? =some (jI (x:Nat)):=by rw[lX jO,z,qh _ _ _ _ (by simp;omega)]
  have J:(cJ (P++(X.take t++[x]++y::X.drop (t+1))++Q))[P.length+(t+1)]? =some (jI (y:Nat)):=by rw[lX jO,s,qh _ _ _ _ (by simp;omega)]
  have iD:((P++(X.take t++[x]++y::X.drop (t+1))++Q).set (P.length+(t+1)) x).set (P.length+t) y=P++(X.take t++y::X.drop t)++Q:=by rw[s,tW _ _ _ _ _ (by simp;omega),show P++X.take t++[x]++x::(X.drop (t+1)++Q)=(P++X.take t)++x::(x::(X.drop (t+1)++Q)) by simp,tW _ _ _ _ _ (by simp;omega),hd];simp
  have O:=e.1;try simp(disch:=first|omega|assumption) only[Nat.reduceAdd,Nat.reduceLT,RZ,L,w,O,K,J,rD,F7,qC,iD]
  refine⟨jO,u,jO,u, ?_⟩;exact B t a _ jO jO jO jO ((e.set (ys:=(P++(X.take t++[x]++y::X.drop (t+1))++Q).set (P.length+(t+1)) x) rfl rfl).set rfl rfl)
def mS(h:H)(g n:Nat)(ws:List Int)(P a Q:List Nat)(h':H)(n':Nat):Prop:=n'=n∧∃Z,Z.Perm a∧Z.Pairwise (RI (bk ws))∧At h h' g (P++Z++Q)
def FT(pw:Nat):Value:= .func (.func 249) #[] #[jP pw 0]
theorem ajm(lf d g n cap pw:Nat)(ws:List Int)(h:H)(P Y Q:List Nat)(x:Nat)(N:Nat)(a m b:Int)(A:3000000<=lf)(k:(P++x::Y++Q).length=N)(f:N<=1000000)(B:a=(P.length:Nat))(w:m=((P.length+1:Nat):Int))(q:b=((P.length+1+Y.length:Nat):Int))(C:jW h n g pw ws)(o:g<n)(hh:h.get g=some ⟨3,true,cJ (P++x::Y++Q)⟩)(e:∀z∈x::Y,z<ws.length)(v:Y.Pairwise (RI (bk ws)))(i:∀y∈Y,x<y):
 ae (fun z=>z=g) n (eW lf (d+4) 254 #[.slice (some ⟨g,0,none⟩) N cap,jI a,jI m,jI b,FT pw]) h n fun _ h' n'=>mS h g n ws P (x::Y) Q h' n':=by
 subst B w q;have t:=k;simp only[aG,ct]at t;rw[aF (fun _=>FZ) rfl];refine ae.aE ?_;unfold yv FT;have s:IntKind.i64.wrap (((P.length+1:Nat):Int)-((P.length:Nat):Int))=1:=by rw[aV jO jO];omega
 try simp(disch:=first|omega|assumption) only[Nat.reduceAdd,Nat.reduceLT,RZ,s,beq_self_eq_true]
 have:=aji (W:=fun z=>z=g) lf d g n cap pw ws h P Y Q x N k f C o hh (e x jS) (fun z u=>e z (by simp[u])) (ai n) (R:=fun _ h' n'=>mS h g n ws P (x::Y) Q h' n') (Bf lf (eW lf (d+3))) (jI ((P.length+1:Nat):Int)) (jI ((P.length+1+Y.length:Nat):Int)) (.bool true) (fun p r l h1 h2=>by
  (try unfold Bf);(try dsimp only)
  refine ajj (W:=fun z=>z=g) lf (d+3) g n cap h P Y Q x p N k f l o (.inr rfl) _ _ _ _ _ _ _ _ (fun E D=> ?_) p 0 lf h jO jO (bU _) ⟨by simpa using hh,fun b q=>rfl⟩
  (try unfold LZ);(try unfold c);(try dsimp only)
  refine jB ?_;refine⟨rfl,_, ?_, ?_,D⟩
  ·have:=aqK (a:=x) (l₁:=Y.take p) (l₂:=Y.drop p);rw[jN]at this;exact this
  ·refine YS v l ?_ ?_
   ·rcases h1 with h1|h1
    ·exact .inl h1
    ·exact .inr (.inl h1)
   ·rcases h2 with h2|h2
    ·exact .inl h2
    ·by_cases j:p=Y.length
     ·exact .inl j
     ·exact .inr (Me (i _ (by rw[aC,aJ jO];exact cb _)) h2)) Y.length 0 Y.length lf jO jO jO jO (.inl rfl) (.inl rfl)
 exact this
theorem ajn(lf d g n cap pw:Nat)(ws:List Int)(h:H)(P X Q:List Nat)(y:Nat)(N:Nat)(a m b:Int)(D:3000000<=lf)(r:(P++X++y::Q).length=N)(f:N<=1000000)(F:2<=X.length)(E:a=(P.length:Nat))(C:m=((P.length+X.length:Nat):Int))(t:b=((P.length+X.length+1:Nat):Int))(G:jW h n g pw ws)(s:g<n)(hh:h.get g=some ⟨3,true,cJ (P++X++y::Q)⟩)(j:y<ws.length)(q:∀z∈X,z<ws.length)(B:X.Pairwise (RI (bk ws)))(k:∀x∈X,x<y):
 ae (fun z=>z=g) n (eW lf (d+4) 254 #[.slice (some ⟨g,0,none⟩) N cap,jI a,jI m,jI b,FT pw]) h n fun _ h' n'=>mS h g n ws P (X++[y]) Q h' n':=by
 subst E C t;have A:=r;simp only[aG,ct]at A;rw[aF (fun _=>FZ) rfl];refine ae.aE ?_;unfold yv FT;have w:(IntKind.i64.wrap (((P.length+X.length:Nat):Int)-((P.length:Nat):Int))==1)=false:=by rw[aV jO jO,beq_eq_false_iff_ne];omega
 have i:((((P.length+X.length:Nat):Int)-((P.length:Nat):Int))==1)=false:=by rw[beq_eq_false_iff_ne];omega
 have v:IntKind.i64.wrap (((P.length+X.length+1:Nat):Int)-((P.length+X.length:Nat):Int))=1:=by rw[aV jO jO];omega
 try simp(disch:=first|omega|assumption) only[Nat.reduceAdd,Nat.reduceLT,RZ,w,i,v,beq_self_eq_true]
 have:=ajk (W:=fun z=>z=g) lf d g n cap pw ws h P X Q y N r f G s hh j q (ai n) (R:=fun _ h' n'=>mS h g n ws P (X++[y]) Q h' n') (Be lf (eW lf (d+3))) (jI ((P.length:Nat):Int)) (jI ((P.length+X.length+1:Nat):Int)) (.bool false) (.bool true) (fun p u o h1 h2=>by
  (try unfold Be);(try unfold e);(try dsimp only)
  refine ajl (W:=fun z=>z=g) lf (d+3) g n cap h P X Q y p N r f o s (.inr rfl) _ _ _ _ _ _ _ _ _ (fun J I=> ?_) (X.length-p) X.length lf h rfl jO o (ai _) ⟨by simpa using hh,fun b t=>rfl⟩
  (try unfold LY);(try unfold c);(try dsimp only)
  refine jB ?_;refine⟨rfl,_, ?_, ?_,I⟩
  ·have:=aqK (a:=y) (l₁:=X.take p) (l₂:=X.drop p);rw[jN]at this;exact this.trans (aqI y X).symm
  ·refine YS B o ?_ ?_
   ·rcases h1 with h1|h1
    ·exact .inl h1
    ·by_cases l:p=0
     ·exact .inl l
     ·exact .inr (Me (k _ (by rw[aC,aJ jO];exact cb _)) h1)
   ·rcases h2 with h2|h2
    ·exact .inl h2
    ·exact .inr (.inl h2)) X.length 0 X.length lf jO jO jO jO (.inl rfl) (.inl rfl)
 exact this
theorem ajo (lf d g n cap pw:Nat) (ws:List Int) (h:H) (P X Y Q:List Nat) (a:Nat) (N:Nat) (hN:(P++X++Y++Q).length=N) (u5:N<=1000000) (hE:jW h n g pw ws) (hg:g<n) (hh:h.get g=some ⟨3,true,cJ (P++X++Y++Q)⟩) (hX:∀z∈X,z<ws.length) (hY:∀z∈Y,z<ws.length) (B:∀x∈X,∀y∈Y,x<y) (u2:a<=X.length+Y.length) {W:Nat->Prop} {n0:Nat} (E:n0<=n) {R:Value->H->Nat->Prop} (k:(Value->Value->Value->Value->Value->Value->Value->Value->M Value)) (G x2 x3 o l w v p:Value) (A:Int) (u0:A=((P.length+a+P.length+X.length:Nat):Int)-1)
 (L:∀s,s<=X.length->s<=a->a-s<=Y.length->(s=0∨a-s=Y.length∨RI (bk ws) (X.getD (s-1) 0) (Y.getD (a-s) 0))->(s=X.length∨s=a∨RI (bk ws) (Y.getD (a-1-s) 0) (X.getD s 0))->ae W n0 (k (.slice (some ⟨g,0,none⟩) N cap) G x2 x3 (FT pw) o l (jI ((P.length+s:Nat):Int))) h n R):
 ∀(m s r b:Nat),r-s<=m->m<b->s<=r->r<=X.length->r<=a->a-s<=Y.length->(s=0∨a-s=Y.length∨RI (bk ws) (X.getD (s-1) 0) (Y.getD (a-s) 0))->(r=X.length∨r=a∨RI (bk ws) (Y.getD (a-1-r) 0) (X.getD r 0))->
  ae W n0 (tV lf (eW lf (d+3)) b k (.slice (some ⟨g,0,none⟩) N cap) G x2 x3 (FT pw) o l (jI ((P.length+s:Nat):Int)) (jI ((P.length+r:Nat):Int)) (jI A) w v p) h n R:=by
 have Z:=hN;simp only[aG]at Z;intro m
 induction m with
 |zero=>intro s r b D F C j i e u t;obtain⟨b,rfl⟩:∃f,b=f+1:=⟨b-1,jO⟩;obtain rfl:s=r:=jO;rw[tV];refine jA @bE ?_;exact L s j i e u t
 |succ m I=>
  intro s r b D F C j i e u t;obtain⟨b,rfl⟩:∃f,b=f+1:=⟨b-1,jO⟩;rw[tV];by_cases u1:s<r
  ·obtain⟨c,hc⟩:∃c,(P.length+s+(P.length+r))/2=P.length+c:=⟨(s+r)/2,jO⟩;have u4:s<=c:=jO;have u3:c<r:=jO;have e1:((P.length+s:Nat):Int)<((P.length+r:Nat):Int):=jO;have e2:(((P.length+s:Nat):Int)+((P.length+r:Nat):Int))/2=((P.length+c:Nat):Int):=jO;have K:X.getD c 0∈X:=by rw[aC,aJ jO];exact cb _
   have J:Y.getD (a-1-c) 0∈Y:=by rw[aC,aJ jO];exact cb _
   have U:IntKind.i64.wrap (A-((P.length+c:Nat):Int))=((P.length+X.length+(a-1-c):Nat):Int):=by rw[aV jO jO];omega
   have g1:(cJ (P++X++Y++Q))[P.length+c]? =some (jI (X.getD c 0:Nat)):=by rw[lX (by simp;omega),show P++X++Y++Q=P++X++(Y++Q) by simp,tX _ _ _ c _ rfl jO]
   have g2:(cJ (P++X++Y++Q))[P.length+X.length+(a-1-c)]? =some (jI (Y.getD (a-1-c) 0:Nat)):=by rw[lX (by simp;omega),tX (P++X) Y Q (a-1-c) _ jS jO]
   unfold FT at*;refine jA (aI @e1 (aI @wrap_u64 (aI @yy (aI @Bj (aI @e2 (aI @U (aI @hh (aI @g1 (aI @g2 @F5))))))))) ?_;refine bz (F6 lf d _ _ h n g pw ws hE (hY _ J) (hX _ K)) E (fun _ _ h=>h.elim) ?_;have e4:=F4 (bk ws (Y.getD (a-1-c) 0)) (bk ws (X.getD c 0));refine jA @e4 ?_;by_cases q:bk ws (Y.getD (a-1-c) 0)<bk ws (X.getD c 0)
   ·refine jA (aI @q (aI @decide_true @gE)) ?_;exact I s c b jO jO jO jO jO e u (.inr (.inr (.inl q)))
   ·have T:IntKind.i64.wrap (((P.length+c:Nat):Int)+1)=((P.length+(c+1):Nat):Int):=by rw[aV jO jO];omega
    have O:((P.length+c:Nat):Int)+1=((P.length+(c+1):Nat):Int):=jO;refine jA (aI @q (aI @decide_false (aI @gO @T))) ?_;try rw[O]
    refine I (c+1) r b jO jO jO j i jO (.inr (.inr ?_)) t;rw[show c+1-1=c by omega,show a-(c+1)=a-1-c by omega];exact Me (B _ K _ J) q
  ·obtain rfl:s=r:=jO;refine jA @bE ?_;exact L s j i e u t
def YX(lf g cap pw N:Nat)(ws:List Int)(l:Nat):Prop:=
 ∀(d n:Nat) (h:H) (P X Y Q:List Nat) (a m b:Int),X.length+Y.length<=l->(P++X++Y++Q).length=N->a=(P.length:Nat)->m=((P.length+X.length:Nat):Int)->b=((P.length+X.length+Y.length:Nat):Int)->1<=X.length->1<=Y.length->jW h n g pw ws->g<n->h.get g=some ⟨3,true,cJ (P++X++Y++Q)⟩->(∀z∈X++Y,z<ws.length)->X.Pairwise (RI (bk ws))->Y.Pairwise (RI (bk ws))->(∀x∈X,∀y∈Y,x<y)->
  ae (fun z=>z=g) n (eW lf (d+l+4) 254 #[.slice (some ⟨g,0,none⟩) N cap,jI a,jI m,jI b,FT pw]) h n fun _ e c=>mS h g n ws P (X++Y) Q e c
set_option maxHeartbeats 1000000 in
theorem ajp(lf g cap pw N:Nat)(ws:List Int)(x4:3000000<=lf)(v6:N<=1000000)(l:Nat)(ih:YX lf g cap pw N ws l)(d n:Nat)(h:H)(P X Y Q:List Nat)(hl:X.length+Y.length<=l+1)(hN:(P++X++Y++Q).length=N)(y7:2<=X.length)(y6:2<=Y.length)(hE:jW h n g pw ws)(hg:g<n)(hh:h.get g=some ⟨3,true,cJ (P++X++Y++Q)⟩)(J:∀z∈X++Y,z<ws.length)(hx:X.Pairwise (RI (bk ws)))(U:Y.Pairwise (RI (bk ws)))(u0:∀x∈X,∀y∈Y,x<y):
 ae (fun z=>z=g) n (eW lf (d+l+4+1) 254 #[.slice (some ⟨g,0,none⟩) N cap,jI (P.length:Nat),jI ((P.length+X.length:Nat):Int),jI ((P.length+X.length+Y.length:Nat):Int),FT pw]) h n fun _ h' n'=>mS h g n ws P (X++Y) Q h' n':=by
 have lN:=hN;simp only[aG]at lN;rw[aF (fun _=>FZ) rfl];refine ae.aE ?_;unfold yv;obtain⟨c,y5⟩:∃c,(P.length+(P.length+X.length+Y.length))/2=P.length+c:=⟨(X.length+Y.length)/2,jO⟩;have y4:1<=c:=jO;have y3:c<X.length+Y.length:=jO;have w1:(((P.length+X.length:Nat):Int)-((P.length:Nat):Int)==1)=false:=by rw[beq_eq_false_iff_ne];omega
 have w2:(((P.length+X.length+Y.length:Nat):Int)-((P.length+X.length:Nat):Int)==1)=false:=by rw[beq_eq_false_iff_ne];omega
 have w3:(((P.length:Nat):Int)+((P.length+X.length+Y.length:Nat):Int))/2=((P.length+c:Nat):Int):=jO;have w4:IntKind.i64.wrap (((P.length+c:Nat):Int)+((P.length+X.length:Nat):Int))=((P.length+c+P.length+X.length:Nat):Int):=by rw[aV jO jO];omega
 have v7:∀s,s<=X.length->s<=c->c-s<=Y.length->(s=0∨c-s=Y.length∨RI (bk ws) (X.getD (s-1) 0) (Y.getD (c-s) 0))->(s=X.length∨s=c∨RI (bk ws) (Y.getD (c-1-s) 0) (X.getD s 0))->
  ae (fun z=>z=g) n (Bd lf (eW lf (d+l+4)) (.slice (some ⟨g,0,none⟩) N cap) (jI (P.length:Nat)) (jI ((P.length+X.length:Nat):Int)) (jI ((P.length+X.length+Y.length:Nat):Int)) (FT pw) (jI ((P.length+c:Nat):Int)) (jI ((P.length+c+P.length+X.length:Nat):Int)) (jI ((P.length+s:Nat):Int))) h n fun _ h' n'=>mS h g n ws P (X++Y) Q h' n':=by
  intro s x3 x1 x2 h1 h2;have hc:=aja hx U c s x3 x1 x2 h1 h2;obtain⟨p,L⟩:∃p,X.take s=p:=⟨_,rfl⟩;obtain⟨f,u⟩:∃f,X.drop s=f:=⟨_,rfl⟩;obtain⟨o,K⟩:∃o,Y.take (c-s)=o:=⟨_,rfl⟩;obtain⟨i,t⟩:∃i,Y.drop (c-s)=i:=⟨_,rfl⟩;have sj:=fun Z1 Z2 p1 T s1 O=>ajb (Z1:=Z1) (Z2:=Z2) (X:=X) (Y:=Y) (h:=c) (s:=s) (k:=bk ws) p1 T s1 O hc;have eX:p++f=X:=by rw[<-L,<-u];exact jN _ _
  have eY:o++i=Y:=by rw[<-K,<-t];exact jN _ _
  have y2:p.length=s:=by rw[<-L,cB];omega
  have y0:o.length=c-s:=by rw[<-K,cB];omega
  have y1:f.length=X.length-s:=by rw[<-u,fp]
  have x9:i.length=Y.length-(c-s):=by rw[<-t,fp]
  have v0:p.Pairwise (RI (bk ws)):=by rw[<-L];exact hx.sublist (ads _ _)
  have u9:f.Pairwise (RI (bk ws)):=by rw[<-u];exact hx.sublist (aqL _ _)
  have u7:o.Pairwise (RI (bk ws)):=by rw[<-K];exact U.sublist (ads _ _)
  have u6:i.Pairwise (RI (bk ws)):=by rw[<-t];exact U.sublist (aqL _ _)
  simp only[L,u,K,t]at sj;have v5:∀z∈p,z∈X:=fun z r=>by rw[<-eX];simp[r]
  have v4:∀z∈f,z∈X:=fun z r=>by rw[<-eX];simp[r]
  have v3:∀z∈o,z∈Y:=fun z r=>by rw[<-eY];simp[r]
  have v2:∀z∈i,z∈Y:=fun z r=>by rw[<-eY];simp[r]
  (try unfold Bd);(try unfold e);(try dsimp only)
  have w5:IntKind.i64.wrap (((P.length+c+P.length+X.length:Nat):Int)-((P.length+s:Nat):Int))=((P.length+X.length+(c-s):Nat):Int):=by rw[aV jO jO];omega
  have t3:∀A Z,Z.Perm (p++o)->Z.Pairwise (RI (bk ws))->At h A g (P++Z++(f++i)++Q)->ae (fun z=>z=g) n (
   cE (jI ((P.length+c:Nat):Int)) (jI ((P.length+X.length+(c-s):Nat):Int)) fun m=>
   aK m (
    cE (jI ((P.length+X.length+(c-s):Nat):Int)) (jI ((P.length+X.length+Y.length:Nat):Int)) fun j=>
    aK j (
     ak (eW lf (d+l+4)) 254 [.slice (some ⟨g,0,none⟩) N cap,jI ((P.length+c:Nat):Int),jI ((P.length+X.length+(c-s):Nat):Int),jI ((P.length+X.length+Y.length:Nat):Int),FT pw] fun B=>
     aj []) (
     aj [])) (
    aj [])) A n fun _ h' n'=>mS h g n ws P (X++Y) Q h' n':=by
   intro A Z pZ sZ I;have lZ:=pZ.length_eq;simp only[aG]at lZ
   have done:∀h' Z2,Z2.Perm (f++i)->Z2.Pairwise (RI (bk ws))->At h h' g (P++Z++Z2++Q)->mS h g n ws P (X++Y) Q h' n:=fun h' Z2 T O F=>by obtain⟨q1,q2⟩:=sj Z Z2 pZ T sZ O;exact⟨rfl,Z++Z2,q1,q2,by rw[<-bW];exact F⟩
   by_cases c1:f=[]∨i=[]
   ·
    have u1:(f++i).Pairwise (RI (bk ws)):=by
     rcases c1 with c1|c1
     ·rw[c1];exact u6
     ·rw[c1,cz];exact u9
    have D:=done A _ (uz _) u1 I;by_cases w:((P.length+c:Nat):Int)<((P.length+X.length+(c-s):Nat):Int)
    ·by_cases G:((P.length+X.length+(c-s):Nat):Int)<((P.length+X.length+Y.length:Nat):Int)
     ·exfalso;rcases c1 with c1|c1<;>(have q:=congrArg lK c1;simp only[fH]at q;omega)
     ·refine jA (aI @w @G) ?_;exact D
    ·refine jA @w ?_;exact D
   ·have E:1<=f.length:=by cases f with|nil=>exact absurd (.inl rfl) c1|cons a l=>simp
    have C:1<=i.length:=by cases i with|nil=>exact absurd (.inr rfl) c1|cons a l=>simp
    have w:((P.length+c:Nat):Int)<((P.length+X.length+(c-s):Nat):Int):=jO;have G:((P.length+X.length+(c-s):Nat):Int)<((P.length+X.length+Y.length:Nat):Int):=jO;refine jA (aI @w @G) ?_;have u2:A.get g=some ⟨3,true,cJ (P++Z++f++i++Q)⟩:=by rw[I.1];simp
    refine aN aL (ih d n A (P++Z) f i Q _ _ _ jO (by simp;omega) (by simp;omega) (by simp;omega) (by simp;omega) E C (hE.keeps I.2) hg u2 (fun z r=>J z (by rcases List.mem_append.1 r with q|q;exact Oc _ (v4 z q);exact Ci _ (v2 z q))) u9 u6 (fun x hx y U=>u0 x (v4 x hx) y (v2 y U))) (ai n) (fun b _ hb=> .inr hb) fun v h1 n1 _ _ hq=> ?_;refine jB ?_;obtain⟨rfl,Z2,T,O,F⟩:=hq;exact done h1 Z2 T O (I.trans F)
  have t2:∀A,At h A g (P++(p++o)++(f++i)++Q)->ae (fun z=>z=g) n (
   cE (jI (P.length:Nat)) (jI ((P.length+s:Nat):Int)) fun u4=>
   aK u4 (
    cE (jI ((P.length+s:Nat):Int)) (jI ((P.length+c:Nat):Int)) fun u3=>
    aK u3 (
     ak (eW lf (d+l+4)) 254 [.slice (some ⟨g,0,none⟩) N cap,jI (P.length:Nat),jI ((P.length+s:Nat):Int),jI ((P.length+c:Nat):Int),FT pw] fun x8=>
     cE (jI ((P.length+c:Nat):Int)) (jI ((P.length+X.length+(c-s):Nat):Int)) fun m=>
     aK m (
      cE (jI ((P.length+X.length+(c-s):Nat):Int)) (jI ((P.length+X.length+Y.length:Nat):Int)) fun j=>
      aK j (
       ak (eW lf (d+l+4)) 254 [.slice (some ⟨g,0,none⟩) N cap,jI ((P.length+c:Nat):Int),jI ((P.length+X.length+(c-s):Nat):Int),jI ((P.length+X.length+Y.length:Nat):Int),FT pw] fun B=>
       aj []) (
       aj [])) (
      aj [])) (
     cE (jI ((P.length+c:Nat):Int)) (jI ((P.length+X.length+(c-s):Nat):Int)) fun m=>
     aK m (
      cE (jI ((P.length+X.length+(c-s):Nat):Int)) (jI ((P.length+X.length+Y.length:Nat):Int)) fun j=>
      aK j (
       ak (eW lf (d+l+4)) 254 [.slice (some ⟨g,0,none⟩) N cap,jI ((P.length+c:Nat):Int),jI ((P.length+X.length+(c-s):Nat):Int),jI ((P.length+X.length+Y.length:Nat):Int),FT pw] fun B=>
       aj []) (
       aj [])) (
      aj []))) (
    cE (jI ((P.length+c:Nat):Int)) (jI ((P.length+X.length+(c-s):Nat):Int)) fun m=>
    aK m (
     cE (jI ((P.length+X.length+(c-s):Nat):Int)) (jI ((P.length+X.length+Y.length:Nat):Int)) fun j=>
     aK j (
      ak (eW lf (d+l+4)) 254 [.slice (some ⟨g,0,none⟩) N cap,jI ((P.length+c:Nat):Int),jI ((P.length+X.length+(c-s):Nat):Int),jI ((P.length+X.length+Y.length:Nat):Int),FT pw] fun B=>
      aj []) (
      aj [])) (
     aj []))) A n fun _ h' n'=>mS h g n ws P (X++Y) Q h' n':=by
   intro A I;by_cases c1:p=[]∨o=[]
   ·have u1:(p++o).Pairwise (RI (bk ws)):=by
     rcases c1 with c1|c1
     ·rw[c1];exact u7
     ·rw[c1,cz];exact v0
    have D:=t3 A _ (uz _) u1 I;by_cases w:((P.length:Nat):Int)<((P.length+s:Nat):Int)
    ·by_cases G:((P.length+s:Nat):Int)<((P.length+c:Nat):Int)
     ·exfalso;rcases c1 with c1|c1<;>(have q:=congrArg lK c1;simp only[fH]at q;omega)
     ·simp only[rf,decide_eq_true w,decide_eq_false G,xV,xW];simpa only[rf]using D
    ·simp only[rf,decide_eq_false w,xW];simpa only[rf]using D
   ·have E:1<=p.length:=by cases p with|nil=>exact absurd (.inl rfl) c1|cons a l=>simp
    have C:1<=o.length:=by cases o with|nil=>exact absurd (.inr rfl) c1|cons a l=>simp
    have w:((P.length:Nat):Int)<((P.length+s:Nat):Int):=jO;have G:((P.length+s:Nat):Int)<((P.length+c:Nat):Int):=jO;simp only[rf,decide_eq_true w,decide_eq_true G,xV];have u2:A.get g=some ⟨3,true,cJ (P++p++o++(f++i++Q))⟩:=by rw[I.1];simp
    refine aN aL (ih d n A P p o (f++i++Q) _ _ _ jO (by simp;omega) rfl jO jO E C (hE.keeps I.2) hg u2 (fun z r=>J z (by rcases List.mem_append.1 r with q|q;exact Oc _ (v5 z q);exact Ci _ (v3 z q))) v0 u7 (fun x hx y U=>u0 x (v5 x hx) y (v3 y U))) (ai n) (fun b _ hb=> .inr hb) fun v h1 n1 _ _ hq=> ?_;obtain⟨rfl,Z2,T,O,F⟩:=hq;simpa only[rf]using t3 h1 Z2 T O (by have:=I.trans F;rwa[show P++Z2++(f++i)++Q=P++Z2++(f++i++Q) by simp])
  simp only[rf,Jo,w5]at t2⊢;by_cases c1:f=[]∨o=[]
  ·have x6:At h h g (P++(p++o)++(f++i)++Q):=by refine⟨?_,fun b hb=>rfl⟩;rw[hh,<-eX,<-eY];rcases c1 with c1|c1<;>(rw[c1];simp)
   have D:=t2 h x6;by_cases w:((P.length+s:Nat):Int)<((P.length+X.length:Nat):Int)
   ·by_cases G:((P.length+X.length:Nat):Int)<((P.length+X.length+(c-s):Nat):Int)
    ·exfalso;rcases c1 with c1|c1<;>(have q:=congrArg lK c1;simp only[fH]at q;omega)
    ·simp only[decide_eq_true w,decide_eq_false G,xV,xW];exact D
   ·simp only[decide_eq_false w,xW];exact D
  ·have E:1<=f.length:=by cases f with|nil=>exact absurd (.inl rfl) c1|cons a l=>simp
   have C:1<=o.length:=by cases o with|nil=>exact absurd (.inr rfl) c1|cons a l=>simp
   have w:((P.length+s:Nat):Int)<((P.length+X.length:Nat):Int):=jO;have G:((P.length+X.length:Nat):Int)<((P.length+X.length+(c-s):Nat):Int):=jO;simp only[decide_eq_true w,decide_eq_true G,xV];have x5:h.get g=some ⟨3,true,cJ (P++p++f++o++(i++Q))⟩:=by rw[hh,<-eX,<-eY];simp
   refine aN aL (ajh lf (d+l+2) g n cap h (P++p) f o (i++Q) N _ _ _ _ x4 (by simp;omega) v6 E C hg (by simp;omega) (by simp;omega) (by simp;omega) x5) (ai n) (fun b _ hb=> .inr hb) fun v h1 n1 _ _ hq=> ?_;obtain⟨rfl,I⟩:=hq;exact t2 h1 (by rwa[show P++(p++o)++(f++i)++Q=P++p++o++f++(i++Q) by simp])
 have run:=ajo (W:=fun z=>z=g) lf (d+l+1) g n cap pw ws h P X Y Q c N hN v6 hE hg hh (fun z r=>J z (by simp[r])) (fun z r=>J z (by simp[r])) u0 jO (ai n) (R:=fun _ h' n'=>mS h g n ws P (X++Y) Q h' n') (Bd lf (eW lf (d+l+4))) (jI (P.length:Nat)) (jI ((P.length+X.length:Nat):Int)) (jI ((P.length+X.length+Y.length:Nat):Int)) (jI ((P.length+c:Nat):Int)) (jI ((P.length+c+P.length+X.length:Nat):Int)) (.bool false) (.bool false);by_cases c0:c<X.length
 ·have c1:((P.length+c:Nat):Int)<((P.length+X.length:Nat):Int):=jO;have w6:IntKind.i64.wrap (((P.length+c+P.length+X.length:Nat):Int)-((P.length+X.length+Y.length:Nat):Int))=((P.length+(c-Y.length):Nat):Int):=by rw[aV jO jO];omega
  refine jA (aI @w1 (aI @w2 (aI @w3 (aI @w4 (aI @wrap_u64 (aI @yy (aI @Bj (aI @c1 @w6)))))))) ?_;exact run (.bool true) _ rfl (fun s a1 a2 a3 a4 a5=>v7 s a1 a2 a3 a4 a5) (X.length+Y.length) (c-Y.length) c lf jO jO jO jO jO jO jO jO
 ·have c1:¬((P.length+c:Nat):Int)<((P.length+X.length:Nat):Int):=jO;refine jA (aI @w1 (aI @w2 (aI @w3 (aI @w4 (aI @wrap_u64 (aI @yy (aI @Bj @c1))))))) ?_;exact run (.bool false) _ rfl (fun s a1 a2 a3 a4 a5=>v7 s a1 a2 a3 a4 a5) (X.length+Y.length) 0 X.length lf jO jO jO jO jO jO jO jO
theorem YY(lf g cap pw N:Nat)(ws:List Int)(i:3000000<=lf)(j:N<=1000000):∀l,YX lf g cap pw N ws l:=by
 intro l
 induction l with
 |zero=>intro d n h P X Y Q a m b A s r p q D C;omega
 |succ l B=>
  intro d n h P X Y Q a m b A s r p q D C w v u c o k f;by_cases F:X.length=1
  ·obtain⟨x,rfl⟩:=List.length_eq_one_iff.1 F;have e:P++[x]++Y++Q=P++x::Y++Q:=jS;exact ajm lf (d+l+1) g n cap pw ws h P Y Q x N a m b i (by rw[<-e];exact s) j r p q w v (by rw[<-e];exact u) (fun z t=>c z (by simpa using t)) k (fun y k=>f x jS y k)
  ·by_cases E:Y.length=1
   ·obtain⟨y,rfl⟩:=List.length_eq_one_iff.1 E;have e:P++X++[y]++Q=P++X++y::Q:=jS;exact ajn lf (d+l+1) g n cap pw ws h P X Q y N a m b i (by rw[<-e];exact s) j jO r p q w v (by rw[<-e];exact u) (c y jS) (fun z t=>c z (by simp[t])) o (fun x o=>f x o y jS)
   ·subst r p q;exact ajp lf g cap pw N ws i j l B d n h P X Y Q A s jO jO w v u c o k f
section
variable (lf g cap pw N:Nat) (ws:List Int) (bP:3000000<=lf) (wQ:N<=1000000) (d n:Nat) (h:H) (xs:List Nat) (hN:xs.length=N) (hE:jW h n g pw ws) (hg:g<n) (Bl:∀z∈xs,z<ws.length)
variable {W:Nat->Prop} {n0:Nat} (Bn:n0<=n) (hW:n0<=g∨W g) {R:Value->H->Nat->Prop}
theorem YZ(pre c post:List Nat)(a b:Int)(i:(pre++c++post).length=N)(o:a=(pre.length:Nat))(l:b=((pre.length+c.length:Nat):Int))(e:∀z∈c,z<ws.length)(k:c.Pairwise (fun a b=>a<b))(hh:h.get g=some ⟨3,true,cJ (pre++c++post)⟩)(bP:3000000<=lf)(wQ:N<=1000000)(hE:jW h n g pw ws)(hg:g<n):
 ae (fun x=>x=g) n (eW lf (d+4) 253 #[.slice (some ⟨g,0,none⟩) N cap,jI a,jI b,FT pw]) h n fun v h' n'=>n'=n∧∃D,D.Perm c∧D.Pairwise (RI (bk ws))∧At h h' g (pre++D++post):=by
 by_cases r:1<=c.length
 ·exact ajg lf d g n cap pw ws h pre c post N jO i wQ r hE hg hh e k a b o l
 ·have s:c=[]:=qE jO;subst s;subst o l;have p:pre.length<=N:=by rw[<-i];simp
  rw[aF (fun _=>LX) rfl];refine ae.aE ?_;unfold Bc FT
  have m:∀j,0<j->ae (fun x=>x=g) n (qf lf (eW lf (d+3)) j (Bb lf (eW lf (d+3))) (.slice (some ⟨g,0,none⟩) N cap) (jI (pre.length:Nat)) (jI (pre.length:Nat)) (.func (.func 249) #[] #[jP pw 0]) (jI ((pre.length:Nat)+1:Int))) h n fun v h' n'=>n'=n∧∃D,D.Perm []∧D.Pairwise (RI (bk ws))∧At h h' g (pre++D++post):=by
   intro j q;obtain⟨f,rfl⟩:∃f,j=f+1:=⟨j-1,jO⟩;have t:¬((pre.length:Nat):Int)+1<((pre.length:Nat):Int):=jO;rw[qf];refine jA @t ?_
   (try unfold Bb);(try dsimp only)
   refine jB ?_;exact⟨[],uz _,OG,hh,fun b l=>rfl⟩
  refine jB ?_;exact m lf jO
include bP wQ hN hE hg Bl Bn hW
theorem ajq(k:Value->Value->Value->Value->Value->Value->Value->M Value)(A:∀e t U V (a:Int) q,V.length<20->qi (bk ws) xs t U V->a=((U.length+20:Nat):Int)->At h e g (U++V)->ae W n0 (k (.slice (some ⟨g,0,none⟩) N cap) (jI (N:Nat)) (FT pw) (jI 20) (jI (U.length:Nat)) (jI a) q) e n R):
 ∀(m:Nat) (U V:List Nat) (t c:Nat) (e:H) (a:Int),V.length<=m->m<c->qi (bk ws) xs t U V->a=((U.length+20:Nat):Int)->At h e g (U++V)->
  ae W n0 (wJ lf (eW lf (d+4)) c k (.slice (some ⟨g,0,none⟩) N cap) (jI (N:Nat)) (FT pw) (jI 20) (jI (U.length:Nat)) (jI a)) e n R:=by
 intro m
 induction m with
 |zero=>intro U V t c e a J w i o j;obtain⟨c,rfl⟩:∃f,c=f+1:=⟨c-1,jO⟩;have r:=i.2.2.2.2.length_eq;simp only[aG]at r;rw[wJ];have l:¬a<=(N:Int):=jO;refine jA @l ?_;exact A e t U V a _ jO i o j
 |succ m E=>
  intro U V t c e a J w i o j;obtain⟨c,rfl⟩:∃f,c=f+1:=⟨c-1,jO⟩;have r:=i.2.2.2.2.length_eq;simp only[aG]at r;rw[wJ];by_cases y:20<=V.length
  ·have l:a<=(N:Int):=jO;refine jA @l ?_;have B:U++V.take 20++V.drop 20=U++V:=by rw[bW,jN]
   have u:(V.take 20).length=20:=by rw[cB];omega
   refine aN aL (YZ lf g cap pw N ws d n e U (V.take 20) (V.drop 20) _ _ (by rw[B,aG];omega) rfl (by rw[u];exact o) (fun z F=>Bl z (i.2.2.2.2.mem_iff.1 (Ci _ (j4 F)))) (i.2.2.1.sublist (ads _ _)) (by rw[B];exact j.1) bP wQ (hE.keeps j.2) hg) Bn (fun b _ I=>I▸hW) fun v K O _ _ G=> ?_;obtain⟨rfl,D,p,s,x⟩:=G;have C:IntKind.i64.wrap (a+20)=a+20:=aV jO jO;refine jA @C ?_;have P:=p.length_eq;have L:a=(((U++D).length:Nat):Int):=by rw[aG];omega
   rw[L];exact E (U++D) (V.drop 20) (t+1) c K _ (by rw[fp];omega) jO (i.next y p s) jO (j.trans x)
  ·have l:¬a<=(N:Int):=jO;refine jA @l ?_;exact A e t U V a _ jO i o j
theorem ajr (C:Nat) (u1:20<=C) (u0:C<=2000000) (x13 r:Value) (k:Value->Value->Value->Value->Value->Value->Value->M Value)
 (F:∀e t U V (a:Int),V.length<2*C->nY (bk ws) xs C t U V->At h e g (U++V)->ae W n0 (k (.slice (some ⟨g,0,none⟩) N cap) (jI (N:Nat)) (FT pw) (jI (C:Nat)) (jI (U.length:Nat)) (jI a) x13) e n R):
 ∀(m:Nat) (U V:List Nat) (t c:Nat) (e:H) (a:Int),V.length<=m->m<c->nY (bk ws) xs C t U V->a=((U.length+2*C:Nat):Int)->At h e g (U++V)->
  ae W n0 (wK lf (eW lf (d+N+4)) c k (.slice (some ⟨g,0,none⟩) N cap) (jI (N:Nat)) (FT pw) (jI (C:Nat)) (jI (U.length:Nat)) (jI a) x13 r) e n R:=by
 intro m
 induction m with
 |zero=>intro U V t c e a hV w i Y j;obtain⟨c,rfl⟩:∃f,c=f+1:=⟨c-1,jO⟩;have u:=i.2.2.2.2.length_eq;simp only[aG]at u;rw[wK];have o:¬a<=(N:Int):=jO;refine jA @o ?_;exact F e t U V a jO i j
 |succ m L=>
  intro U V t c e a hV w i Y j;obtain⟨c,rfl⟩:∃f,c=f+1:=⟨c-1,jO⟩;have u:=i.2.2.2.2.length_eq;simp only[aG]at u;rw[wK];by_cases B:2*C<=V.length
  ·have o:a<=(N:Int):=jO;have I:IntKind.i64.wrap (((U.length:Nat):Int)+(C:Int))=((U.length+C:Nat):Int):=by rw[aV jO jO];omega
   have E:IntKind.i64.wrap (2*(C:Int))=((2*C:Nat):Int):=by rw[aV jO jO];omega
   have D:IntKind.i64.wrap (a+((2*C:Nat):Int))=a+((2*C:Nat):Int):=aV jO jO;refine jA (aI @o (aI @I (aI @E @D))) ?_;have G:U++V.take C++(V.drop C).take C++V.drop (2*C)=U++V:=by rw[bW U,YV,bW,jN]
   have lC:(V.take C).length=C:=by rw[cB];omega
   have lY:((V.drop C).take C).length=C:=by rw[cB,fp];omega
   have l:∀z∈V.take C++(V.drop C).take C,z<ws.length:=fun z O=>Bl z (i.2.2.2.2.mem_iff.1 (Ci _ (by
    rcases List.mem_append.1 O with q|q
    ·exact j4 q
    ·exact zA (j4 q))))
   have J:((V.drop C).take C).Pairwise (RI (bk ws)):=by have:=(i.2.2.1 1).1;rwa[r7]at this
   refine aN aL (YY lf g cap pw N ws bP wQ N d n e U (V.take C) ((V.drop C).take C) (V.drop (2*C)) _ _ _ jO (by rw[G,aG];omega) rfl jO jO jO jO (hE.keeps j.2) hg (by rw[G];exact j.1) l i.2.2.1.first J (fun x Q y P=>i.2.2.1.YT x Q y (j4 P))) Bn (fun b _ X=>X▸hW) fun v h1 n1 _ _ T=> ?_;obtain⟨rfl,Z,p,s,A⟩:=T;refine jA (aI @E @D) ?_;have K:=p.length_eq;rw[aG]at K;have e2:a=(((U++Z).length:Nat):Int):=by rw[aG];omega
   rw[e2];exact L (U++Z) (V.drop (2*C)) (t+1) c h1 _ (by rw[fp];omega) jO (i.next B p s) jO (j.trans A)
  ·have o:¬a<=(N:Int):=jO;refine jA @o ?_;exact F e t U V a jO i j
theorem ajs(x13:Value)(k:M Value)(J:∀c D,D.Perm xs->D.Pairwise (RI (bk ws))->At h c g D->ae W n0 (k) c n R):
 ∀(m C a:Nat) (D:List Nat) (c:H) (x7 x8:Value),N-C<=m->m<a->20<=C->C<=2000000->BS (bk ws) C D->D.Perm xs->At h c g D->
  ae W n0 (tS lf (eW lf (d+N+4)) a k (.slice (some ⟨g,0,none⟩) N cap) (jI (N:Nat)) (FT pw) (jI (C:Nat)) x7 x8 x13) c n R:=by
 intro m
 induction m with
 |zero=>intro C a D c x7 x8 hm E A K u i w;obtain⟨a,rfl⟩:∃f,a=f+1:=⟨a-1,jO⟩;rw[tS];have r:¬(C:Int)<(N:Int):=jO;refine jA @r ?_;exact J c D i (u.all (by rw[i.length_eq,hN];omega)) w
 |succ m I=>
  intro C a D c x7 x8 hm E A K u i w;obtain⟨a,rfl⟩:∃f,a=f+1:=⟨a-1,jO⟩;rw[tS];by_cases u0:C<N
  ·have r:(C:Int)<(N:Int):=jO;have O:IntKind.i64.wrap (2*(C:Int))=((2*C:Nat):Int):=by rw[aV jO jO];omega
   have B:IntKind.i64.wrap ((C:Int)*2)=((2*C:Nat):Int):=by rw[aV jO jO];omega
   have lD:=i.length_eq;refine jA (aI @r @O) ?_;refine ajr lf g cap pw N ws bP wQ d n h xs hN hE hg Bl Bn hW C A K _ _ _ (fun l t U V a8 hV j e=> ?_) D.length [] D 0 lf c _ (ai _) jO (nY.start u i) jS w
   (try unfold aiX);(try unfold FV);(try dsimp only)
   have Q:=j.2.2.2.2.length_eq;simp only[aG]at Q;have G:IntKind.i64.wrap (((U.length:Nat):Int)+(C:Int))=((U.length+C:Nat):Int):=by rw[aV jO jO];omega
   by_cases hM:C<V.length
   ·have F:((U.length+C:Nat):Int)<(N:Int):=jO;refine jA (aI @G (aI @F @B)) ?_;have L:U++V.take C++V.drop C++[]=U++V:=by rw[cz,bW,jN]
    have lC:(V.take C).length=C:=by rw[cB];omega
    have lY:(V.drop C).length=V.length-C:=fp;have o:∀z∈V.take C++V.drop C,z<ws.length:=fun z T=>Bl z (j.2.2.2.2.mem_iff.1 (Ci _ (by rwa[jN]at T)))
    have P:(V.drop C).Pairwise (RI (bk ws)):=by have:=(j.2.2.1 1).1;rw[r7,fG jO]at this;exact this
    refine aN aL (YY lf g cap pw N ws bP wQ N d n l U (V.take C) (V.drop C) [] _ _ _ jO (by rw[L,aG];omega) rfl jO jO jO jO (hE.keeps e.2) hg (by rw[L];exact e.1) o j.2.2.1.first P (fun x Y y X=>j.2.2.1.YT x Y y X)) Bn (fun b _ hb=>hb▸hW) fun v A n1 _ _ hq=> ?_;obtain⟨rfl,Z,p,s,q⟩:=hq;refine jA @B ?_;rw[cz]at q;obtain⟨q1,q2⟩:=j.last hV p s;exact I (2*C) a (U++Z) A _ _ jO jO jO jO q1 q2 (e.trans q)
   ·have F:¬((U.length+C:Nat):Int)<(N:Int):=jO;refine jA (aI @G (aI @F @B)) ?_;obtain⟨q1,q2⟩:=j.none jO;exact I (2*C) a (U++V) l _ _ jO jO jO jO q1 q2 e
  ·have r:¬(C:Int)<(N:Int):=jO;refine jA @r ?_;exact J c D i (u.all (by rw[i.length_eq,hN];omega)) w
end
theorem ajt(lf g cap pw N:Nat)(ws:List Int)(e:3000000<=lf)(i:N<=1000000)(d n:Nat)(h:H)(xs:List Nat)(C:xs.length=N)(y:jW h n g pw ws)(w:g<n)(f:∀z∈xs,z<ws.length)(r:xs.Pairwise (fun a b=>a<b))(hh:h.get g=some ⟨3,true,cJ xs⟩):
 ae (fun x=>x=g) n (eW lf (d+N+6) 248 #[.slice (some ⟨g,0,none⟩) N cap,FT pw]) h n fun v h' n'=>n'=n∧∃D,D.Perm xs∧D.Pairwise (RI (bk ws))∧At h h' g D:=by
 rw[aF (fun _=>Yk) rfl];refine ae.aE ?_;unfold LR;refine jB ?_
 have k:ae (fun x=>x=g) n (eW lf (d+N+5) 251 #[.slice (some ⟨g,0,none⟩) N cap,jI (N:Nat),FT pw]) h n fun v h' n'=>n'=n∧∃D,D.Perm xs∧D.Pairwise (RI (bk ws))∧At h h' g D:=by
  rw[aF (fun _=>Ys) rfl];refine ae.aE ?_;unfold FX
  have:=ajq (W:=fun x=>x=g) (R:=fun v h' n'=>n'=n∧∃D,D.Perm xs∧D.Pairwise (RI (bk ws))∧At h h' g D) lf g cap pw N ws e i (d+N) n h xs C y w f (ai n) (.inr rfl) (A9 lf (eW lf (d+N+4))) (fun L t U V P q T o O B=>by
   (try unfold A9);(try dsimp only)
   have I:=o.2.2.2.2.length_eq;simp only[aG]at I;refine aN aL (YZ lf g cap pw N ws (d+N) n L U V [] _ _ (by rw[cz,aG];omega) rfl jO (fun z J=>f z (o.2.2.2.2.mem_iff.1 (Ci _ J))) o.2.2.1 (by rw[cz];exact B.1) e i (y.keeps B.2) w) (ai n) (fun b _ m=> .inr m) fun v E j _ _ u=> ?_;obtain⟨rfl,D,p,s,l⟩:=u;rw[cz]at l;obtain⟨q1,q2⟩:=o.last jO p s
   have:=ajs (W:=fun x=>x=g) (n0:=j) (R:=fun v h' n'=>n'=j∧∃D,D.Perm xs∧D.Pairwise (RI (bk ws))∧At h h' g D) lf g cap pw N ws e i d j h xs C y w f (ai j) (.inr rfl) q (FW lf (eW lf (d+N+4))) (fun K Q G F A=>by
    (try unfold FW);(try unfold c);(try dsimp only)
    refine jB ?_
    exact⟨Q,G,F,A⟩) N 20 lf (U++D) E (jI (U.length:Nat)) (jI P) jO jO jO jO q1 q2 (B.trans l)
   exact this) N [] xs 0 lf h 20 jO jO (qi.start _ r) jS ⟨by simpa using hh,fun b m=>rfl⟩
  exact this
 refine aN aL k (ai n) (fun b _ m=> .inr m) fun v E j _ _ u=> ?_;refine jB ?_;exact u
theorem yz(lf d n:Nat)(h:H)(v:Value)(xs:List Int)(t:Row h n 3 .i64 v xs)(u:0<xs.length)(x:xs.length<=1000000):
 ae (fun _=>False) n (eW lf (d+1) 156 #[v]) h n fun g h' n'=>(0<xs.length->Own h' n n' 3 g (aH .i64 xs))∧Row h' n' 3 .i64 g xs∧∀b,az g b->n<=b:=by
 rw[aF (fun _=>VI) rfl];refine ae.aE ?_;unfold KD;rcases t with ⟨a,c,rfl,_,rfl⟩|⟨b,e,cap,o,w,rfl,r,f,i,p,y⟩
 ·exact absurd u jS
 ·refine jB ?_;refine af1 trivial _ ?_;have j:(h.set n (some ⟨3,true,[]⟩)).get b=some ⟨3,o,w⟩:=by rw[aB _ _ jO];exact r
  by_cases k:xs.length=0
  ·have m:xs=[]:=List.length_eq_zero_iff.1 k;subst m;refine Ri (news:=[]) trivial rfl _ _ _ _ ?_;refine jB ?_;refine⟨fun q=>absurd q jS,.inr ⟨n,0,0,true,[],rfl,get_eq _ _ _,jO,jS,by simp[aH],jS⟩,fun b f=>by rw[f.inj];exact ai n⟩
  ·have s:Src (h.set n (some ⟨3,true,[]⟩)) (n+1) (.slice (some ⟨b,e,none⟩) xs.length cap) (aH .i64 xs):=⟨b,e,cap,_,by rw[cj],j,jO,by rw[cj];exact i,by rw[cj];exact p⟩;refine afZ trivial s (by rw[cj];omega) (Jw _ _) (get_eq _ _ _) rfl (Nat.lt_succ_self n) 0 0 jS rfl (by rw[cj];omega) (by unfold aU;omega) (by rw[cj];omega) _ ?_;refine jB ?_;have l:Own ((h.set n (some ⟨3,true,[]⟩)).set (n+1) (some ⟨3,true,[]++aH .i64 xs⟩)) n (n+1+1) 3 (.slice (some ⟨n+1,0,none⟩) (aH .i64 xs).length (aU+(aH .i64 xs).length)) (aH .i64 xs):= .inr ⟨n+1,rfl,by rw[get_eq];rfl,jO,jO⟩;exact⟨fun _=>l,l.row,fun b f=>by rw[f.inj];omega⟩
structure Y0 (h1 hr:H) (n1 nr g:Nat) (wv lv iv:Value) (N i:Nat):Prop where
 hg:hr.get g=some ⟨276,true,[wv,iv,lv,jI (N:Nat)]⟩
 ay:∀b,b<n1->b≠g->hr.get b=h1.get b
 ol:Own hr n1 nr 3 lv (cJ (aY i))
 oi:Own hr n1 nr 3 iv (ints (bD i (-1)))
 dis:∀b,az lv b->¬az iv b
 le:n1<=nr
theorem trA (lf d:Nat) (G:H) (v g:Nat) (s:Value) (N:Nat) (J D x2:Value) (hg:g<v) (hN:N<=1000000) {W:Nat->Prop} {n0:Nat} (O:n0<=g) {R:Value->H->Nat->Prop} (k:(Value->Value->M Value))
 (E:∀l c lv e,Y0 G l v c g s lv e N N->ae W n0 (k D (jP g 0)) l c R):
 ∀(m i j:Nat) (l:H) (c:Nat) (lv e:Value),N-i<=m->m<j->i<=N->Y0 G l v c g s lv e N i->
  ae W n0 (wI lf (eW lf d) j k J D x2 (jP g 0) (jI (N:Nat)) (jI (i:Nat))) l c R:=by
 intro m
 induction m with
 |zero=>
  intro i j l c lv e P C U w;obtain⟨j,rfl⟩:∃f,j=f+1:=⟨j-1,jO⟩;obtain rfl:i=N:=jO;rw[wI];try simp(disch:=first|omega|assumption) only[Nat.reduceAdd,Nat.reduceLT,RZ,bE]
  exact E l c lv e w
 |succ m L=>
  intro i j l c lv e P C U w;obtain⟨j,rfl⟩:∃f,j=f+1:=⟨j-1,jO⟩;rw[wI];by_cases Q:i<N
  ·have Z:(i:Int)<(N:Int):=jO;obtain⟨I,x,n,h,u,T⟩:=w;have X:g<c:=jO;try simp(disch:=first|omega|assumption) only[Nat.reduceAdd,Nat.reduceLT,RZ,Z,I]
   refine fJ trivial (eI _ _) n (by rw[rD];simp;omega) jO _ (fun F B p=> ?_);have y:∀b,az lv b->b≠g:=fun b a=>by have:=(n.lt a).1;omega
   have c2:F.get g=some ⟨276,true,[s,e,lv,jI (N:Nat)]⟩:=by rw[p g jO (fun a=>y g a rfl)];exact I
   try simp(disch:=first|omega|assumption) only[Nat.reduceAdd,Nat.reduceLT,RZ,c2]
   refine⟨.inl jO, ?_⟩
   have t:Own (F.set g (some ⟨276,true,[s,e,.slice (some ⟨c+1,0,none⟩) ((cJ (aY i)).length+1) (aU+((cJ (aY i)).length+1)),jI (N:Nat)]⟩)) v (c+2) 3 e (ints (bD i (-1))):=h.ay jO fun b a=>by have:=h.lt a;rw[aB _ _ jO];exact p b jO (fun q=>u b q a)
   refine fJ trivial (eI _ _) t (by rw[jV];simp;omega) jO _ (fun Y A o=> ?_);have z:∀b,az e b->b≠g:=fun b a=>by have:=(h.lt a).1;omega
   have c3:Y.get g=some ⟨276,true,[s,e,.slice (some ⟨c+1,0,none⟩) ((cJ (aY i)).length+1) (aU+((cJ (aY i)).length+1)),jI (N:Nat)]⟩:=by rw[o g jO (fun a=>z g a rfl),get_eq]
   try simp(disch:=first|omega|assumption) only[Nat.reduceAdd,Nat.reduceLT,RZ,c3]
   refine⟨.inl jO, ?_⟩;have K:(i:Int)+1=((i+1:Nat):Int):=jO;rw[K];refine L (i+1) j _ _ _ _ jO jO jO ⟨by rw[get_eq],fun b a r=> ?_, ?_, ?_,fun b a q=> ?_,jO⟩
   ·rw[aB _ _ r,o b jO (fun q=>by have:=(h.lt q).1;omega),aB _ _ r,p b jO (fun q=>by have:=(n.lt q).1;omega)];exact x b a r
   ·have:cJ (aY (i+1))=cJ (aY i)++[jI (i:Nat)]:=by unfold cJ;rw[List.range_succ,dU];rfl
    rw[this];refine Own.mk' ?_ jO jO jS;rw[aB _ _ jO,o _ jO (fun q=>by have:=(h.lt q).2;omega),aB _ _ jO];exact B
   ·have:ints (bD (i+1) (-1))=ints (bD i (-1))++[jI (-1)]:=by unfold ints;rw[List.replicate_succ',dU];rfl
    rw[this];refine Own.mk' ?_ jO jO jS;rw[aB _ _ jO];exact A
   ·rw[a.inj]at q;have:=q.inj;omega
  ·obtain rfl:i=N:=jO;try simp(disch:=first|omega|assumption) only[Nat.reduceAdd,Nat.reduceLT,RZ,bE]
   exact E l c lv e w
def Start(ws:List Int)(D:List Nat):HT:={weight:=ws,cI:=bD ws.length (-1),leaves:=D,bu:=ws.length}
set_option maxHeartbeats 1000000 in
theorem aju(lf d n:Nat)(h:H)(v:Value)(ws:List Int)(hR:Row h n 3 .i64 v ws)(h1:1<=ws.length)(Q:ws.length<=1000000)(O:3000000<=lf):
 ae (fun _=>False) n (eW lf (d+ws.length+7) 243 #[v]) h n fun v' h' n'=>∃g i l f cl D,v'=jP g 0∧D.Perm (aY ws.length)∧D.Pairwise (RI (bk ws))∧mR h' n' g (Start ws D) i l f 0 cl (cJ D)∧n<=g∧n<=i∧n<=l∧n<=f:=by
 have Y:=hR;obtain⟨b,j,cap,o,cs,rfl,hg,U,u4,ht,T,W⟩:=hR.some jO;rw[aF (fun _=>Yh) rfl];refine ae.aE ?_;unfold FU;refine kK trivial _ _ ?_;obtain⟨x,u⟩:∃x,h.set n (some ⟨141,true,(fZ (some ⟨b,j,none⟩) ws.length cap).cells.toList⟩)=x:=⟨_,rfl⟩;have p2:x.get n=some ⟨141,true,[.slice (some ⟨b,j,none⟩) ws.length cap]⟩:=by rw[<-u,get_eq];rfl
 have k2:∀c,c<n->x.get c=h.get c:=fun c T=>by rw[<-u,aB _ _ jO]
 rw[u];have X:Row x (n+1) 3 .i64 (.slice (some ⟨b,j,none⟩) ws.length cap) ws:=Y.ay jO k2;refine DP trivial n 0 _ p2 jO rfl ?_;refine DQ aL (yz lf (d+ws.length+5) (n+1) x _ ws X jO Q) jO (fun _ _ h=>h.elim) fun v3 F k L u3 C G v0 Z=> ?_;obtain⟨G,_,_⟩:=G;have m:=G jO
 obtain⟨i,rfl⟩:∃i,v3= .slice (some ⟨i,0,none⟩) ws.length (aU+ws.length):=by
  rcases m with ⟨_,q⟩|⟨i,q,_⟩
  ·have:=congrArg lK q;rw[cj]at this;simp only[fH]at this;omega
  ·rw[cj]at q;exact⟨i,q⟩
 have u9:=m.lt ⟨_,_,_,rfl⟩
 have u0:F.get i=some ⟨3,true,ints ws⟩:=by
  rcases m with ⟨q,_⟩|⟨c,q,r,_⟩
  ·cases q
  ·injection q with q;injection q with q;injection q with q;rw[q];exact r
 have p3:F.get n=some ⟨141,true,[.slice (some ⟨b,j,none⟩) ws.length cap]⟩:=by rw[C n jO (fun q=>q)];exact p2
 refine DP trivial n 0 _ p3 jO rfl ?_;try simp(disch:=first|omega|assumption) only[Nat.reduceAdd,Nat.reduceLT,RZ]
 refine Rn trivial _ _ ?_
 have R:fs ⟨n+1,k,L⟩ ⟨k,k,[⟨false,n,some 0⟩]⟩=false:=(Dm _ _).trans<|af3 (fun e he=>by
  cases hw:e.wr with
  |false=>rfl
  |true=>exact(Z e he hw).elim) (by show n<n+1;omega)
 simp only[R,gO,Bool.and_self,oU];obtain⟨w,t⟩:∃w,F.set k (some ⟨276,true,(Value.agg #[.slice (some ⟨i,0,none⟩) ws.length (aU+ws.length),.slice none 0 0,.slice none 0 0,jI (ws.length:Nat)]).cells.toList⟩)=w:=⟨_,rfl⟩;rw[t];have g4:w.get k=some ⟨276,true,[.slice (some ⟨i,0,none⟩) ws.length (aU+ws.length),.slice none 0 0,.slice none 0 0,jI (ws.length:Nat)]⟩:=by rw[<-t,get_eq];rfl
 have I:∀c,c<k->w.get c=F.get c:=fun c T=>by rw[<-t,aB _ _ jO]
 have p4:w.get n=some ⟨141,true,[.slice (some ⟨b,j,none⟩) ws.length cap]⟩:=by rw[I n jO];exact p3
 try simp(disch:=first|omega|assumption) only[Nat.reduceAdd,Nat.reduceLT,RZ,p4]
 refine trA lf (d+ws.length+6) w (k+1) k (.slice (some ⟨i,0,none⟩) ws.length (aU+ws.length)) ws.length _ _ _ jO Q jO _ (fun p y lv iv hT=> ?_) ws.length 0 lf w (k+1) (.slice none 0 0) (.slice none 0 0) jO jO (bU _) ⟨g4,fun b _ _=>rfl,Own.nil _ _ _ _,Own.nil _ _ _ _,fun b U=>U.not_nil.elim,ai _⟩
 (try unfold LO);(try dsimp only)
 obtain⟨c0,s,K,N,A,u2⟩:=hT
 obtain⟨f,rfl,gl,u5,P⟩:∃f,lv= .slice (some ⟨f,0,none⟩) ws.length (aU+ws.length)∧p.get f=some ⟨3,true,cJ (aY ws.length)⟩∧k+1<=f∧f<y:=by
  rcases K with ⟨_,q⟩|⟨f,q,r,a,c⟩
  ·have:=congrArg lK q;rw[rD,j7]at this;simp only[fH]at this;omega
  ·rw[rD,j7]at q;exact⟨f,q,r,a,c⟩
 obtain⟨l,rfl,gi,u7,u6⟩:∃l,iv= .slice (some ⟨l,0,none⟩) ws.length (aU+ws.length)∧p.get l=some ⟨3,true,ints (bD ws.length (-1))⟩∧k+1<=l∧l<y:=by
  rcases N with ⟨_,q⟩|⟨f,q,r,a,c⟩
  ·have:=congrArg lK q;rw[jV,jQ]at this;simp only[fH]at this;omega
  ·rw[jV,jQ]at q;exact⟨f,q,r,a,c⟩
 have B:f≠l:=fun e=>A f ⟨_,_,_,rfl⟩ ⟨0,_,_,by rw[e]⟩;have v1:k<y:=jO;try simp(disch:=first|omega|assumption) only[Nat.reduceAdd,Nat.reduceLT,RZ,c0]
 have pr:p.get n=some ⟨141,true,[.slice (some ⟨b,j,none⟩) ws.length cap]⟩:=by rw[s n jO jO];exact p4
 have br:p.get b=some ⟨3,o,cs⟩:=by rw[s b jO jO,I b jO,C b jO (fun q=>q),k2 b U];exact hg
 have wr:p.get i=some ⟨3,true,ints ws⟩:=by rw[s i jO jO,I i jO];exact u0
 have u1:jW p y f n ws:=⟨⟨b,j,cap,_,_,_,_,cs,pr,br,jO,jO,W⟩,jO,jO⟩;refine aN aL (ajt lf f (aU+ws.length) n ws.length ws O Q d y p (aY ws.length) jS u1 P (fun z hz=>List.mem_range.1 hz) List.pairwise_lt_range gl) jO (fun c _ T=> .inl jO) fun v5 h5 n5 _ _ r=> ?_;obtain⟨rfl,D,J,hs,E⟩:=r;try simp(disch:=first|omega|assumption) only[Nat.reduceAdd,Nat.reduceLT,RZ]
 refine⟨k,i,l,f,aU+ws.length,D,rfl,J,hs,⟨?_, ?_, ?_,E.1, ?_, ?_, ?_,jO⟩,jO,jO,jO,jO⟩
 ·rw[E.2 k jO,c0];have:=J.length_eq;simp at this;simp[Start,this]
 ·rw[E.2 i jO];exact wr
 ·rw[E.2 l (fun e=>B e.symm)];exact gi
 ·rw[rD];exact Nat.le_of_eq (fy _)
 ·rw[dx];show(cJ D).take D.length=cJ D;rw[fG (by rw[rD];exact ai _)]
 ·have:=J.length_eq;simp at this;show D.length<=_;omega
def jX(a:List Int):Nat->List Int->List Int
 |0,out=>out
 |i+1,out=>jX a i (out.set i (out.getD (a.getD i 0).toNat 0+1))
def gx(ws:List Int)(D:List Nat):HT:=dL (ws.length-1) (Start ws D)
def l5(ws:List Int)(D:List Nat):List Int:=(jX (gx ws D).cI (2*ws.length-2) (bD (2*ws.length-1) 0)).take ws.length
theorem F8(a:List Int):∀(i:Nat) (out:List Int),(jX a i out).length=out.length
 |0,out=>rfl
 |i+1,out=>by unfold jX;rw[F8 a i];simp
theorem yA(ws:List Int)(D:List Nat)(h:1<=ws.length):(l5 ws D).length=ws.length:=by unfold l5;rw[cB,F8,jQ];omega
theorem Y1{ws:List Int}{D:List Nat}{S:Int}(j:D.Perm (aY ws.length))(o:∀x∈ws,0<=x)(p:bI ws=S):iF ws.length 0 [] S (Start ws D):=by
 have c:=j.length_eq;rw[j7]at c;have f:∀i∈D,i<ws.length:=fun i g=>List.mem_range.1 (j.mem_iff.1 g);have e:=yx ws o;rw[p]at e
 have d:∀{a b:List Int},a.Perm b->bI a=bI b:=by
  intro a b h
  induction h with
  |nil=>rfl
  |cons x _ q=>simp only[bI,q]
  |swap x y l=>simp only[bI];omega
  |trans _ _ m k=>exact m.trans k
 refine⟨rfl,by simp[Start],f,fun i g=>by simp at g,ai _,ai _,by simp[Start,c],fun i g=> ?_, ?_,fun i g n=> ?_⟩
 ·have:ws.getD i 0∈ws:=by rw[aC,aJ jO];exact cb _
  exact⟨o _ this,e.2 _ this⟩
 ·unfold rC;simp only[Start,gX,j8,List.range'_zero,cz,pF];rw[d (j.map _),<-p];congr 1;apply mw
  ·simp
  ·intro i r n;simp[bM,n]
 ·exact absurd (j.mem_iff.2 (List.mem_range.2 jO)) n
theorem step_ok{n k:Nat}{S:Int}{t:HT}(h:iF n k [] S t)(g:k+2<=n):iF n k [Hu.leastOf t] S (taken t)∧Hu.leastOf t<n+k∧iF n k [Hu.leastOf t,Hu.leastOf (taken t)] S (taken (taken t))∧Hu.leastOf (taken t)<n+k∧iF n (k+1) [] S (rB t)∧(rB t).bu<=n+k:=by have d:=h.left;simp only[fH]at d;obtain⟨c,f⟩:=h.take jO;have a:=c.left;simp only[pF,ct,fH]at a;obtain⟨b,e⟩:=c.take jO;exact⟨c,f,b,e,b.join,b.jh⟩
theorem Y2{n k:Nat}{P:List Nat}{S:Int}{t:HT}(h:iF n k P S t)(b:1<=t.leaves.length+(n+k-t.bu)):(ic t=true->0<t.leaves.length)∧(0<t.leaves.length->t.leaves.getD 0 0<t.weight.length)∧t.bu<=t.weight.length:=by
 refine⟨fun a=> ?_,fun c=> ?_,by rw[h.wl];exact h.jh⟩
 ·obtain⟨r,e,_⟩:=Md h b a;rw[e];simp
 ·have:=h.leaf (t.leaves.getD 0 0) (by rw[aC,aJ c];exact cb _);rw[h.wl];omega
set_option maxHeartbeats 2000000 in
theorem dpA (lf d n:Nat) (N:Nat) (S:Int) (s:HT) (g:Nat) (X x2:Value) (u6:2<=N) (u5:N<=1000) (hS:S<=1152921504606846976) {W:Nat->Prop} {n0:Nat} {R:Value->H->Nat->Prop} (k:(Value->Value->Value->Value->Value->Value->M Value)) (lo:Nat) (u2:n0<=lo) (hg:lo<=g)
 (hK:∀p b j o l off u cs D,n<=b->mR p b g (dL (N-1) s) j o l off u cs->iF N (N-1) [] S (dL (N-1) s)->(dL (N-1) s).bu<N+(N-1)->ae W n0 (k X x2 (jP g 0) (jI ((N-1:Nat):Int)) (jI ((N-1:Nat):Int)) D) p b R):
 ∀(m a h:Nat) (p:H) (b j o l off u:Nat) (cs:List Value),N-1-a=m->m<h->a<=N-1->n<=b->lo<=b->lo<=j->lo<=o->mR p b g (dL a s) j o l off u cs->iF N a [] S (dL a s)->(a=0∨(dL a s).bu<N+a)->
  ae W n0 (wE lf (eW lf (d+1)) h k X x2 (jP g 0) (jI ((N-1:Nat):Int)) (jI (a:Nat))) p b R:=by
 intro m
 induction m with
 |zero=>intro a h p b j o l off u cs hm K J Y I G F C q Z;obtain⟨h,rfl⟩:∃f,h=f+1:=⟨h-1,jO⟩;obtain rfl:a=N-1:=jO;rw[wE];refine jA @bE ?_;exact hK p b j o l off u cs _ Y C q jO
 |succ m ih=>
  intro a h p b j o l off u cs hm K J Y I G F C q Z;obtain⟨h,rfl⟩:∃f,h=f+1:=⟨h-1,jO⟩;rw[wE];have e1:(a:Int)<((N-1:Nat):Int):=jO;obtain⟨t,B⟩:∃t,dL a s=t:=⟨_,rfl⟩;rw[B]at C q Z;obtain⟨v,s2,A,s4,s5,s6⟩:=step_ok q jO;have q1:=Y2 q (by have:=q.left;simp only[fH]at this;omega);have q2:=Y2 v (by have:=v.left;simp only[ct,fH]at this;omega);have wl:=q.wl;have hl:=q.left;have u0:=v.wl;have l1:=v.left;have E:=A.wl;have l2:=A.left;simp only[ct,fH]at l1 l2;have e2:(a:Int)+1=((a+1:Nat):Int):=jO;refine jA @e1 ?_;refine aN aL (YQ lf d g b p t j o l off u cs C (by have:=q.jh;omega) jO jO q1.1 q1.2.1 q1.2.2) jO (fun c _ hc=> .inl jO) fun v1 h1 n1 _ _ y=> ?_;obtain⟨rfl,rfl,w,Q,P⟩:=y;refine aN aL (YQ lf d g n1 h1 (taken t) j o l w Q cs P (by have:=v.jh;omega) jO jO q2.1 q2.2.1 q2.2.2) jO (fun c _ hc=> .inl jO) fun v2 h2 n2 _ _ y=> ?_;obtain⟨rfl,rfl,r,z,O⟩:=y;refine aN aL (ai8 lf d g n2 (Hu.leastOf t) (Hu.leastOf (taken t)) h2 (taken (taken t)) j o l r z cs O jO (by rw[E,A.il]) jO jO (fun x hx=> ?_)) jO (fun c _ hc=> .inl jO) fun v3 h3 n3 _ _ y=> ?_
  ·obtain⟨i,hi,e⟩:=List.mem_iff_getElem.1 hx;have:=A.pos i jO;have e3:bM (taken (taken t)) i=x:=by unfold bM;rw[aC,aJ hi,<-e];rfl
   rw[e3]at this;omega
  obtain⟨rfl,u1,T,U,L,u4,u3⟩:=y;refine jB ?_;rw[e2];refine ih (a+1) h h3 n3 T U l r z cs jO jO jO jO jO jO jO ?_ ?_ ?_
  ·rw[yw,B];exact L
  ·rw[yw,B];exact s5
  ·rw[yw,B];exact .inr jO
def ajv(T i:Nat)(out:List Int):Prop:=out.length=T∧∀j,j<T->0<=out.getD j 0∧out.getD j 0<=((T-j:Nat):Int)
theorem dpB (lf d n:Nat) (N T:Nat) (t:HT) (g r ci e D:Nat) (E lv F:Value) (A x2 x11 x12 x13:Value) (U:1<=T) (Q:T<=100000) (il:t.cI.length=T) (O:e<n) (L:g<n) (B:r<n) (P:e≠g∧e≠r) (v:∀i,i<T-1->(i:Int)<t.cI.getD i 0∧t.cI.getD i 0<(T:Int)) {W:Nat->Prop} {n0:Nat} (u:n0<=e) {R:Value->H->Nat->Prop} (k:(Value->Value->M Value)) (l:List Int)
 (X:∀c,c.get e=some ⟨3,true,ints l⟩->ae W n0 (k A (.slice (some ⟨e,0,none⟩) T D)) c n R):
 ∀(i b:Nat) (c:H) (out:List Int),i<b->i<=T-1->c.get g=some ⟨276,true,[E,.slice (some ⟨r,0,none⟩) T ci,lv,F]⟩->c.get r=some ⟨3,true,ints t.cI⟩->c.get e=some ⟨3,true,ints out⟩->ajv T i out->jX t.cI i out=l->
  ae W n0 (wF lf (eW lf d) b k A x2 (jP g 0) (.slice (some ⟨e,0,none⟩) T D) (jI ((i:Int)-1)) x11 x12 x13) c n R:=by
 intro i
 induction i with
 |zero=>intro b c out x K w o s q a;obtain⟨b,rfl⟩:∃f,b=f+1:=⟨b-1,jO⟩;rw[wF];have z:¬(0:Int)<=((0:Nat):Int)-1:=jO;refine jA @z ?_;unfold jX at a;subst a;exact X c s
 |succ i G=>
  intro b c out x K w o s q a;obtain⟨b,rfl⟩:∃f,b=f+1:=⟨b-1,jO⟩;obtain⟨q1,q2⟩:=v i jO;obtain⟨J,C⟩:∃J:Nat,t.cI.getD i 0=(J:Nat):=⟨(t.cI.getD i 0).toNat,jO⟩;have g1:(ints t.cI)[i]? =some (jI (J:Int)):=by rw[ints_at jO,C]
  have y:J<T:=jO;have Y:i<J:=jO;have Z:(ints out)[J]? =some (jI (out.getD J 0)):=ints_at (by rw[q.1];omega);have oJ:=q.2 J y;have e0:(((i+1:Nat):Int)-1)=(i:Int):=jO;have z:(0:Int)<=(i:Int):=jO;have p:out.length=T:=q.1
  have m:jX t.cI i (out.set i (out.getD J 0+1))=l:=by rw[<-a];show _=jX t.cI i (out.set i (out.getD (t.cI.getD i 0).toNat 0+1));rw[C];rfl
  rw[wF,e0];refine jA (aI @z (aI @w (aI @o (aI @s (aI @g1 (aI @Z (aI @ints_set (aI @jV @p)))))))) ?_;refine⟨jO,.inl u, ?_⟩;refine G b _ (out.set i (out.getD J 0+1)) jO jO (by rw[aB _ _ jO];exact w) (by rw[aB _ _ jO];exact o) (get_eq _ _ _) ?_ m
  ·refine⟨by rw[qC];exact p,fun j I=> ?_⟩;rw[qg];have:=q.2 j I;split
   ·rename_i h;obtain⟨rfl,_⟩:=h;omega
   ·exact this
set_option maxHeartbeats 2000000 in
theorem ajw(lf d n:Nat)(h:H)(v:Value)(ws:List Int)(O:Row h n 3 .i64 v ws)(h2:2<=ws.length)(hl:ws.length<=1000)(w:3000000<=lf)(X:∀x∈ws,0<=x)(hS:bI ws<=1152921504606846976):
 ae (fun _=>False) n (eW lf (d+ws.length+8) 233 #[v]) h n fun F h' n'=>∃D,D.Perm (aY ws.length)∧D.Pairwise (RI (bk ws))∧Row h' n' 3 .i64 F (l5 ws D)∧∀b,az F b->n<=b:=by
 rw[aF (fun _=>X7) rfl];refine ae.aE ?_;unfold FM;refine aN aL (aju lf d n h v ws O jO jO w) (ai n) (fun _ _ h=>h.elim) fun v1 h1 G u1 u5 hq=> ?_;obtain⟨g,bw,bi,bl,cl,D,rfl,J,Y,hT,B,u,A,u2⟩:=hq;obtain⟨a,c,rfl⟩:=O.len;have T:IntKind.i64.wrap (((ws.length:Nat):Int)-1)=((ws.length-1:Nat):Int):=by rw[aV jO jO];omega
 refine jA @T ?_;refine dpA lf (d+ws.length+6) G ws.length (bI ws) (Start ws D) g _ _ h2 hl hS _ n (ai n) B (fun hr t u7 E u9 U u6 cs P u0 r s y=> ?_) (ws.length-1) 0 lf h1 G bw bi bl 0 cl (cJ D) jO jO jO (ai _) jO u A hT (Y1 J X rfl) (.inl rfl)
 (try unfold FL);(try dsimp only)
 have m:dL (ws.length-1) (Start ws D)=gx ws D:=rfl;rw[m]at r s y;obtain⟨k,L,q,N,_,_,_,C⟩:=r;have u4:g<t:=C.2.2.2.2.2.2.1;have Q:(gx ws D).weight.length=2*ws.length-1:=by rw[s.wl];omega
 have I:(gx ws D).cI.length=2*ws.length-1:=by rw[s.il];omega
 have e:=s.left;simp only[fH]at e;have p:(gx ws D).leaves=[]:=qE jO;have u3:(gx ws D).bu=2*ws.length-2:=by rw[p]at e;simp only[fH]at e;omega
 have z:∀i,i<2*ws.length-1-1->(i:Int)<(gx ws D).cI.getD i 0∧(gx ws D).cI.getD i 0<((2*ws.length-1:Nat):Int):=fun i hi=>by have:=s.cI i jO (by rw[p];simp) jO jS;omega
 rw[Q,I]at k;refine jA @k ?_;refine Ev.run_make trivial (2*ws.length-1) (2*ws.length-1) _ (ai _) jO ?_;have R:IntKind.i64.wrap (((2*ws.length-1:Nat):Int)-2)=((2*ws.length-2:Nat):Int)-1:=by rw[aV jO jO];omega
 refine jA @R ?_;have W:bD (2*ws.length-1) (jI 0)=ints (bD (2*ws.length-1) 0):=by unfold ints;rw[List.map_replicate]
 refine dpB lf (d+ws.length+7) (t+1) ws.length (2*ws.length-1) (gx ws D) g E (aU+(2*ws.length-1)) t (2*ws.length-1) _ _ _ _ _ _ _ _ jO jO I jO jO jO jO z jO _ (jX (gx ws D).cI (2*ws.length-2) (bD (2*ws.length-1) 0)) (fun Z K=> ?_) (2*ws.length-2) lf _ (bD (2*ws.length-1) 0) jO jO (by rw[aB _ _ jO];exact k) (by rw[aB _ _ jO];exact q) (by rw[get_eq,W]) ⟨jS,fun j y=>by rw[aC,aJ (by simpa using y),List.getElem_replicate];simp⟩ rfl
 (try unfold LL);(try unfold f);(try dsimp only)
 refine jB ?_;have o:(jX (gx ws D).cI (2*ws.length-2) (bD (2*ws.length-1) 0)).length=2*ws.length-1:=by rw[F8,jQ]
 refine yc trivial (l:=0) (hh:=ws.length) K rfl jO 0 (2*ws.length-1) (2*ws.length-1) _ _ (Aj _) (ri _ ws.length _) jO jO jO _ trivial ?_;refine jB ?_;refine⟨D,J,Y,.inr ⟨t,0,2*ws.length-1,true,_, ?_,K,jO, ?_, ?_, ?_⟩,fun b hb=> ?_⟩
 ·rw[yA _ _ jO];simp
 ·rw[yA _ _ jO,jV,o];omega
 ·rw[yA _ _ jO,dx];unfold l5 ints aH;rw[List.map_take]
 ·rw[yA _ _ jO];omega
 ·rw[hb.inj];omega
def dP(lo a:Int)(xs:List Int):Bool:=xs.all fun x=>decide (lo<=x)&&decide (x<=a)
theorem iG{lo a:Int}{xs:List Int}:dP lo a xs=true↔∀x∈xs,lo<=x∧x<=a:=by unfold dP;simp
theorem jY{a:Type}(d:a){xs:List a}{i:Nat}(h:i<xs.length):xs.drop i=xs.getD i d::xs.drop (i+1):=by rw[uv h,aC,aJ h];rfl
theorem Y3{lo a:Int}{xs:List Int}{i:Nat}(h:i<xs.length):dP lo a (xs.drop i)=(decide (lo<=xs.getD i 0)&&decide (xs.getD i 0<=a)&&dP lo a (xs.drop (i+1))):=by rw[jY 0 h];unfold dP;simp
theorem ajx(lf d n:Nat)(h:H)(v:Value)(xs:List Int)(y:Row h n 3 .i64 v xs)(z:xs.length<=1000000000)(lo j:Int)(x6:Value){W:Nat->Prop}{n0:Nat}:
 ∀(m i a:Nat),xs.length-i=m->m<a->i<=xs.length->
  ae W n0 (wz lf (eW lf d) a (yq lf (eW lf d)) v (jI lo) (jI j) x6 v (jI (xs.length:Nat)) (jI (i:Nat))) h n (fun t h' n'=>t= .bool (dP lo j (xs.drop i))∧h'=h∧n'=n):=by
 intro m
 induction m with
 |zero=>
  intro i a x l g;obtain⟨a,rfl⟩:∃f,a=f+1:=⟨a-1,jO⟩;obtain rfl:i=xs.length:=jO;rw[wz];refine jA @bE ?_
  (try unfold yq);(try dsimp only)
  refine jB ?_;simp[dP]
 |succ m w=>
  intro i a x l g;obtain⟨a,rfl⟩:∃f,a=f+1:=⟨a-1,jO⟩;obtain⟨b,u,cap,o,B,rfl,k,A,_,_,_,p⟩:=y.some jO;have q:(i:Int)<((xs.length:Nat):Int):=jO;have r:=p i jO;have s:(i:Int)+1=((i+1:Nat):Int):=jO;rw[wz,Y3 jO];by_cases c:xs.getD i 0<lo
  ·refine jA (aI @q (aI @k (aI @r @c))) ?_
   (try unfold yq);(try dsimp only)
   refine jB ?_;rw[decide_eq_false (Int.not_le.2 c)];simp
  ·by_cases e:j<xs.getD i 0
   ·refine jA (aI @q (aI @k (aI @r (aI @c @e)))) ?_
    (try unfold yq);(try dsimp only)
    refine jB ?_;rw[decide_eq_false (Int.not_le.2 e)];simp
   ·refine jA (aI @q (aI @k (aI @r (aI @c @e)))) ?_;rw[s];have:=w (i+1) a jO jO jO;rw[decide_eq_true (Int.not_lt.1 c),decide_eq_true (Int.not_lt.1 e)];exact this
theorem Y4(lf d n:Nat)(h:H)(v:Value)(xs:List Int)(f:Row h n 3 .i64 v xs)(lo b:Int)(j:xs.length<=1000000)(i:3000000<=lf):
 ae (fun _=>False) n (eW lf (d+1) 209 #[v,jI lo,jI b]) h n fun g h' n'=>g= .bool (dP lo b xs)∧h'=h∧n'=n:=by
 rw[aF (fun _=>aiE) rfl];refine ae.aE ?_;unfold Lz;have e:=f;obtain⟨a,c,rfl⟩:=f.len;refine jB ?_;exact ajx lf d n h _ xs e jO lo b _ xs.length 0 lf jO jO jO
theorem ajy{b:Type}{rec:FuncId->Array Value->M Value}(p q a:Value)(k:Value->M b):gI aa rec (.func (.func 236) #[] #[p,q]) [a] k=ak rec 236 [a,p,q] k:=by unfold gI;show bf (some _) _=_;rw[vd];simp only[show mE aa 236=true by kernel_rfl];exact(lQ _ _).symm
theorem ajz(lf d n:Nat)(h:H)(x lo c:Int)(p q:Nat)(r:p<n)(o:q<n){m l:TypeId}{k j:Bool}(f:h.get p=some ⟨m,k,[jI lo]⟩)(e:h.get q=some ⟨l,j,[jI c]⟩):
 ae (fun _=>False) n (eW lf (d+1) 236 #[jI x,jP p 0,jP q 0]) h n fun i h' n'=>i= .bool (!(decide (lo<=x)&&decide (x<=c)))∧h'=h∧n'=n:=by
 rw[aF (fun _=>Yd) rfl];refine ae.aE ?_;unfold LN;have g:∀z:Value,[z][0]? =some z:=fun _=>rfl;by_cases b:x<lo
 ·refine jA (aI @f (aI @e (aI @g @b))) ?_;rw[decide_eq_false (Int.not_le.2 b)];simp
 ·refine jA (aI @f (aI @e (aI @g @b))) ?_;by_cases a:c<x
  ·simp[a,Int.not_le.2 a]
  ·simp[a,Int.not_lt.1 b,Int.not_lt.1 a]
theorem ixL(lf d n:Nat)(h:H)(v:Value)(xs:List Int)(E:Row h n 3 .i64 v xs)(K:xs.length<=1000000000)(lo g:Int)(p q:Nat)(B:p<n)(A:q<n){l I:TypeId}{y x:Bool}(G:h.get p=some ⟨l,y,[jI lo]⟩)(F:h.get q=some ⟨I,x,[jI g]⟩)(x4:Value){W:Nat->Prop}{n0:Nat}(c:n0<=n):
 ∀(m i a:Nat),xs.length-i=m->m<a->i<=xs.length->
  ae W n0 (mQ lf (eW lf (d+1)) a (oX lf (eW lf (d+1))) v (.func (.func 236) #[] #[jP p 0,jP q 0]) x4 (jI (xs.length:Nat)) (jI (i:Nat))) h n (fun u h' n'=>(∃r:Int,u=jI r∧decide (0<=r)= !dP lo g (xs.drop i))∧h'=h∧n'=n):=by
 intro m
 induction m with
 |zero=>
  intro i a C j e;obtain⟨a,rfl⟩:∃f,a=f+1:=⟨a-1,jO⟩;obtain rfl:i=xs.length:=jO;rw[mQ];refine jA @bE ?_
  (try unfold oX);(try dsimp only)
  refine jB ?_;exact⟨-1,rfl,by simp[dP]⟩
 |succ m z=>
  intro i a C j e;obtain⟨a,rfl⟩:∃f,a=f+1:=⟨a-1,jO⟩;obtain⟨b,w,cap,o,N,rfl,D,L,_,_,_,k⟩:=E.some jO;have l:(i:Int)<((xs.length:Nat):Int):=jO;have J:=k i jO;have t:(i:Int)+1=((i+1:Nat):Int):=jO;rw[mQ];refine jA (aI @l (aI @D (aI @J @ajy))) ?_;refine bz (ajz lf d n h (xs.getD i 0) lo _ p q B A G F) c (fun _ _ h=>h.elim) ?_;rw[Y3 jO];by_cases s:(decide (lo<=xs.getD i 0)&&decide (xs.getD i 0<=g))=true
  ·rw[s];refine jB ?_;rw[t];exact z (i+1) a jO jO jO
  ·rw[Bool.eq_false_iff.2 s];refine jB ?_
   (try unfold oX);(try dsimp only)
   refine jB ?_;exact⟨(i:Nat),rfl,jS⟩
theorem Y5(lf d n:Nat)(h:H)(v:Value)(xs:List Int)(k:Row h n 3 .i64 v xs)(lo g:Int)(w:xs.length<=1000000)(q:3000000<=lf):
 ae (fun _=>False) n (eW lf (d+4) 222 #[v,jI lo,jI g]) h n fun i h' n'=>i= .bool (dP lo g xs):=by
 rw[aF (fun _=>XW) rfl];refine ae.aE ?_;unfold LH;refine kK trivial _ _ ?_;refine kK trivial _ _ ?_;obtain⟨e,f⟩:∃e,(h.set n (some ⟨3,true,(jI lo).cells.toList⟩)).set (n+1) (some ⟨3,true,(jI g).cells.toList⟩)=e:=⟨_,rfl⟩;have u:e.get n=some ⟨3,true,[jI lo]⟩:=by rw[<-f,aB _ _ jO,get_eq];rfl
 have t:e.get (n+1)=some ⟨3,true,[jI g]⟩:=by rw[<-f,get_eq];rfl
 have s:∀b,b<n->e.get b=h.get b:=fun b x=>by rw[<-f,aB _ _ jO,aB _ _ jO]
 rw[f];have j:Row e (n+2) 3 .i64 v xs:=k.ay jO s;obtain⟨a,c,rfl⟩:=k.len
 have m:ae (fun _=>False) (n+2) (eW lf (d+2) 218 #[.slice a xs.length c,.func (.func 236) #[] #[jP n 0,jP (n+1) 0]]) e (n+2) fun i h' n'=>(∃r:Int,i=jI r∧decide (0<=r)= !dP lo g xs)∧h'=e∧n'=n+2:=by rw[aF (fun _=>FG) rfl];refine ae.aE ?_;unfold yu;refine jB ?_;exact ixL lf d (n+2) e _ xs j jO lo g n (n+1) jO jO u t _ (ai _) xs.length 0 lf jO jO jO
 have l:ae (fun _=>False) (n+2) (eW lf (d+3) 193 #[.slice a xs.length c,.func (.func 236) #[] #[jP n 0,jP (n+1) 0]]) e (n+2) fun i h' n'=>i= .bool (!dP lo g xs)∧h'=e∧n'=n+2:=by rw[aF (fun _=>Fl) rfl];refine ae.aE ?_;unfold A2;refine aN aL m (ai _) (fun _ _ h=>h.elim) fun i h' n' _ _ p=> ?_;obtain⟨⟨r,rfl,o⟩,rfl,rfl⟩:=p;refine jB ?_;rw[o]
 refine bz l jO (fun _ _ h=>h.elim) ?_;rw[Ab,Bool.not_not];exact jE
theorem yB {i:Type} {W:Nat->Prop} {n0:Nat} {h:H} {n:Nat} {Q:i->H->Nat->Prop} {lf d:Nat} {f:FuncId} {args:List Value} {b:Bool} (s:ae (fun _=>False) n (eW lf d f ⟨args⟩) h n fun j _ _=>j= .bool b) (m:n0<=n) {k:Value->M i}
 (x:∀e a,n<=a->(∀c,c<n->e.get c=h.get c)->ae W n0 (k (.bool b)) e a Q):ae W n0 (ak (eW lf d) f args k) h n Q:=by
 refine aN aL s m (fun _ _ h=>h.elim) fun q e a g p l=> ?_;subst l;exact x e a g fun c o=>p c o id
def lh:List Int->Int->Int
 |[],a=>a
 |x::l,a=>lh l (if a<x then x else a)
theorem Bo(B:Int):∀(l:List Int) (a:Int),lh l a<=B↔(a<=B∧∀x∈l,x<=B)
 |[],a=>by simp[lh]
 |x::l,a=>by
  unfold lh;rw[Bo B l];simp only[nF,forall_eq_or_imp];by_cases h:a<x
  ·rw[if_pos h];constructor
   ·rintro⟨p,q⟩;exact⟨jO,p,q⟩
   ·rintro⟨p,q,r⟩;exact⟨q,r⟩
  ·rw[if_neg h];constructor
   ·rintro⟨p,q⟩;exact⟨p,jO,q⟩
   ·rintro⟨p,q,r⟩;exact⟨p,r⟩
theorem ajA(lf d n:Nat)(h:H)(v:Value)(xs:List Int)(t:Row h n 3 .i64 v xs)(x:xs.length<=1000000)(x2:Value){W:Nat->Prop}{n0:Nat}:
 ∀(m i c:Nat) (a:Int),xs.length-i=m->m<c->i<=xs.length->
  ae W n0 (wG lf (eW lf d) c (FN lf (eW lf d)) v x2 (jI a) v (jI (xs.length:Nat)) (jI (i:Nat))) h n (fun k h' n'=>k=jI (lh (xs.drop i) a)∧h'=h∧n'=n):=by
 intro m
 induction m with
 |zero=>
  intro i c a q e r;obtain⟨c,rfl⟩:∃f,c=f+1:=⟨c-1,jO⟩;obtain rfl:i=xs.length:=jO;rw[wG];try simp(disch:=first|omega|assumption) only[Nat.reduceAdd,Nat.reduceLT,RZ,bE]
  (try unfold FN);(try dsimp only)
  rw[List.drop_length];try simp(disch:=first|omega|assumption) only[Nat.reduceAdd,Nat.reduceLT,RZ]
  simp[lh]
 |succ m p=>
  intro i c a q e r;obtain⟨c,rfl⟩:∃f,c=f+1:=⟨c-1,jO⟩;obtain⟨b,l,cap,o,z,rfl,s,y,_,_,_,g⟩:=t.some jO;have u:(i:Int)<((xs.length:Nat):Int):=jO;have w:=g i jO;have j:(i:Int)+1=((i+1:Nat):Int):=jO;rw[wG,jY 0 (show i<xs.length by omega)];try simp(disch:=first|omega|assumption) only[Nat.reduceAdd,Nat.reduceLT,RZ,u,s,w]
  rw[j];exact p (i+1) c _ jO jO jO
theorem Y6(lf d n:Nat)(h:H)(v:Value)(xs:List Int)(e:Row h n 3 .i64 v xs)(i:xs.length<=1000000)(g:3000000<=lf):
 ae (fun _=>False) n (eW lf (d+1) 234 #[v]) h n fun f h' n'=>f=jI (lh xs 0)∧h'=h∧n'=n:=by
 rw[aF (fun _=>X') rfl];refine ae.aE ?_;unfold FO;have b:=e;obtain⟨a,c,rfl⟩:=e.len;try simp(disch:=first|omega|assumption) only[Nat.reduceAdd,Nat.reduceLT,RZ]
 exact ajA lf d n h _ xs b i _ xs.length 0 lf 0 jO jO jO
end Go.Proofs.YtcehhgppfahbkaaGreatDoor
namespace Go.Proofs.YtcehhgppfahbkaaGreatDoor.Ev
open Go Go.RowKit
section
variable {P:Program} {h:H} {n f:Nat} {t:TypeId} {v:Value}
theorem F9{k:IntKind}(a:P.underlying t=some (.int k))(x:eV P h n (f+1) t v):∃i,v= .int k i∧(Lit.int k i).wf=true:=by unfold eV at x;rw[a]at x;exact x
theorem ajB(b:P.underlying t=some .string)(x:eV P h n (f+1) t v):∃l:List UInt8,v= .string ⟨l.toArray⟩∧l.length<=maxLen:=by unfold eV at x;rw[b]at x;obtain⟨s,a,c⟩:=x;exact⟨s.data.toList,by rw[a],by rw[<-Dy,<-ae9];exact c⟩
theorem ajC(d:kL P 8 t=some [t])(c:p8 P t=false)(x:oV P h n t v):eV P h n 8 t v:=by
 obtain⟨f,a,q⟩:=x;rw[d]at a;cases a;rcases q with ⟨b,_⟩|⟨_,e⟩
 ·rw[c]at b;cases b
 ·exact e.1
theorem ajD{e d:Type}{R:e->d->Prop}{a f:e}{l:List d}(x:ez R [a,f] l):∃b c,l=[b,c]∧R a b∧R f c:=by
 match l,x with
 |[b,c],x=>exact⟨b,c,rfl,x.1,x.2.1⟩
end
theorem Bp{a:Type}{W:Nat->Prop}{n0:Nat}{h:H}{n:Nat}{Q:a->H->Nat->Prop}{T f:Prop}(_:T)(_:f){sz:Nat}(b off:Nat)(k:Value->M a){B:AB}(d:h.get b=some B)(e:b<n)(c:off+sz<=B.cells.length)(x:ae W n0 (k (.agg ((B.cells.drop off).take sz).toArray)) h n Q):ae W n0 (bR sz (jP b off) k) h n Q:=lV b off k d e c x
section
variable {P:Program} {w:World} {f:Nat} {t:TypeId} {v:Value}
end
section
variable {β:Type} {W:Nat->Prop} {n0:Nat} {h:H} {n:Nat} {Q:β->H->Nat->Prop} {P:Program}
theorem yC{T e:Prop}(_:T)(_:e){sz:Nat}(b off:Nat)(k:Value->M β){B:AB}(c:h.get b=some B)(d:b<n)(a:off+sz<=B.cells.length)(x:ae W n0 (k (.agg ((B.cells.drop off).take sz).toArray)) h n Q):ae W n0 (bR sz (jP b off) k) h n Q:=lV b off k c d a x
theorem Y7{a b:Tk}(i:∀e∈a.log,e.wr=false)(h2:∀e∈b.log,e.wr=false)(h:∀e∈a.log,e.b<b.n)(g:∀e∈b.log,e.b<a.n):a.gq b=false:=by
 unfold Tk.gq;simp only[xq,List.any_eq_false,Bool.and_eq_true,decide_eq_true_eq,not_and];refine⟨⟨⟨fun x c d=> ?_,fun x c d=> ?_⟩,fun x c f=> ?_⟩,fun x c f=> ?_⟩
 ·rw[i x c]at d;cases d
 ·rw[h2 x c]at d;cases d
 ·have:=h x c;omega
 ·have:=g x c;omega
structure RO (t:Tk) (n:Nat):Prop where
 wr:∀e∈t.log,e.wr=false
 lt:∀e∈t.log,e.b<n
 n:t.n=n
theorem RO.gq{a b:Tk}{m:Nat}(x:RO a m)(y:RO b m):fs a b=false:=(Dm a b).trans<|Y7 x.wr y.wr (fun e c=>by rw[y.n];exact x.lt e c) (fun e c=>by rw[x.n];exact y.lt e c)
theorem ajE{T:Prop}(c:T)(b off:Nat)(k:Value×Tk->M β){B:AB}(e:h.get b=some B)(a:b<n){v:Value}(d:B.cells[off]? =some v)(x:∀T,RO T n->ae W n0 (k (v,T)) h n Q):ae W n0 ((bx (aM (jP b off) M.ret)).bind k) h n Q:=
 DP c b off k e a d (x _ ⟨jS,by simpa using a,rfl⟩)
theorem Y8{lf d:Nat}{gt:Nat->Hint}(hd:mO P=true){f:FuncId}{vs:List Value}{v:Value}(s:ae (fun _=>False) n (ah P gt lf d f ⟨vs⟩) h n fun b h' n'=>b=v∧h'=h∧n'=n)(g:n0<=n){k:Value×Tk->M β}(x:∀T,RO T n->ae W n0 (k (v,T)) h n Q):ae W n0 ((bx (ak (ah P gt lf d) f vs M.ret)).bind k) h n Q:=by
 refine DQ hd s g (fun _ _ h=>h.elim) fun b h' n' L _ _ a j c=> ?_;obtain⟨rfl,rfl,rfl⟩:=a;refine x _ ⟨fun e i=> ?_,j,rfl⟩;cases a:e.wr with
 |false=>rfl
 |true=>exact(c e i a).elim
end
def cF(ws:List Nat):List Value:=ws.map fun(x:Nat)=>gW .u8 (x:Int)
theorem iV(ws:List Nat):(cF ws).length=ws.length:=by unfold cF;simp
theorem Mj(a b:List Nat):cF (a++b)=cF a++cF b:=by unfold cF;simp
def bS(ws:List Nat):List UInt8:=ws.map dT
theorem Mk:∀ws:List Nat,lP (cF ws)=some (bS ws)
 |[]=>rfl
 |x::ws=>by
  show(match lP (cF ws)with
   |some l=>some (dT ((x:Int)).toNat::l)
   |none=>none)=_
  rw[Mk ws];rfl
section
variable {β:Type} {W:Nat->Prop} {n0:Nat} {h:H} {n:Nat} {Q:β->H->Nat->Prop} {P:Program}
theorem Ml{b off cp:Nat}{B:AB}{ws:List Nat}(f:h.get b=some B)(i:b<n)(d:off+ws.length<=B.cells.length)(g:(B.cells.drop off).take ws.length=cF ws)(k:Value->M β)(y:ae W n0 (k (.string ⟨(bS ws).toArray⟩)) h n Q):ae W n0 (kZ (.slice (some ⟨b,off,none⟩) ws.length cp) k) h n Q:=by
 obtain⟨L,a,o⟩:=nU (n:=n) f i ws.length off d;rw[g]at a;refine hH ?_
 have e:((iT b off ws.length).bind fun c=>match lP c with
  |some l=>M.ret (Value.string ⟨⟨l⟩⟩)
  |none=> .fail) h n=some ⟨.string ⟨(bS ws).toArray⟩,h,n,L++[]⟩:=by
  rw[nT];refine bY a ?_;rw[Mk];rfl
 obtain⟨p,m,j⟩:=Ah (W:=W) (n0:=n0) e (by simpa using o);exact ae.step m (ai _) j y
theorem Y9{lo:Nat}{e:TypeId}{v:Value}{ws:List Nat}(o:Own h lo n e v (cF ws))(k:Value->M β)(y:ae W n0 (k (.string ⟨(bS ws).toArray⟩)) h n Q):ae W n0 (kZ v k) h n Q:=by
 rcases o with ⟨rfl,a⟩|⟨b,rfl,c,_,d⟩
 ·have:ws=[]:=by unfold cF at a;simpa using a
  subst this;exact y
 ·rw[iV];exact Ml (B:=⟨e,true,cF ws⟩) c d (by simp[iV]) (by rw[dx,<-iV ws,eh]) k y
theorem F' {T:Prop} (c:T) {e:TypeId} {x:Value} (a:one x=true) {lo:Nat} {v:Value} {cs:List Value} (o:Own h lo n e v cs) (i:cs.length+1<=1099511627776) (f:∀b,az v b->n0<=b∨W b) (k:Value->M β)
 (y:∀h',h'.get (n+1)=some ⟨e,true,cs++[x]⟩->(∀b,b<n->¬az v b->h'.get b=h.get b)->ae W n0 (k (.slice (some ⟨n+1,0,none⟩) (cs.length+1) (aU+(cs.length+1)))) h' (n+2) Q):ae W n0 (bV e 1 x fun w=>bH e 1 v w k) h n Q:=by
 rcases o with ⟨rfl,rfl⟩|⟨b,rfl,d,m,j⟩
 ·exact DO c a k (y _ (get_eq _ _ _) fun b d _=>by rw[aB _ _ jO,aB _ _ jO])
 ·refine DN c a d j rfl i jO (f b ⟨_,_,_,rfl⟩) k (y _ (get_eq _ _ _) fun c l g=> ?_);have:c≠b:=fun e=>g ⟨0,_,_,by rw[e]⟩;rw[aB _ _ jO,aB _ _ this,aB _ _ jO]
end
def rc(f:Nat->Value)(z:Value)(N i:Nat):List Value:=(aY N).map fun j=>if j<i then f j else z
theorem Mm(f:Nat->Value)(z:Value)(N i:Nat):(rc f z N i).length=N:=by unfold rc;simp
theorem Y'(f:Nat->Value)(z:Value)(N:Nat):rc f z N 0=bD N z:=by
 unfold rc;apply mw
 ·simp
 ·intro i b a;simp
theorem Za(f:Nat->Value)(z:Value)(N:Nat):rc f z N N=(aY N).map f:=by unfold rc;apply mq;intro j a;rw[if_pos (List.mem_range.1 a)]
theorem Zb{f:Nat->Value}{z:Value}{N i j:Nat}(h:j<(rc f z N i).length):(rc f z N i)[j]=if j<i then f j else z:=by simp[rc]
theorem Zc{f:Nat->Value}{z:Value}{N i:Nat}(h:i<N):(rc f z N i).set i (f i)=rc f z N (i+1):=by
 apply mw
 ·simp[Mm]
 ·intro j c b;rw[List.getElem_set,Zb,Zb];by_cases e:i=j
  ·subst e;simp
  ·rw[if_neg e];by_cases a:j<i
   ·rw[if_pos a,if_pos jO]
   ·rw[if_neg a,if_neg jO]
section
variable {β:Type} {W:Nat->Prop} {n0:Nat} {h:H} {n:Nat} {Q:β->H->Nat->Prop} {P:Program}
theorem ajF (hd:mO P=true) {gt:Nat->Hint} {lf d:Nat} {f:FuncId} {vs:List Value} {i:Nat->Prop} {Q':Value->H->Nat->Prop} (s:ae i n (ah P gt lf d f ⟨vs⟩) h n Q') (j:n0<=n) (l:∀b,b<n->i b->n0<=b∨W b) {k:Value×Tk->M β}
 (x:∀v g e T,n<=e->(∀b,b<n->¬i b->g.get b=h.get b)->Q' v g e->ae W n0 (k (v,T)) g e Q):ae W n0 ((bx (ak (ah P gt lf d) f vs M.ret)).bind k) h n Q:=
 DQ hd s j l fun v g e L a b c _ _=>x v g e _ a b c
end
structure RB (t:Tk) (m:Nat):Prop where
 wr:∀e∈t.log,e.wr=false
 lt:∀e∈t.log,e.b<m
 le:m<=t.n
theorem RB.gq{a b:Tk}{m:Nat}(x:RB a m)(y:RB b m):fs a b=false:=(Dm a b).trans<|Y7 x.wr y.wr (fun e c=>eD (x.lt e c) y.le) (fun e c=>eD (y.lt e c) x.le)
section
variable {β:Type} {W:Nat->Prop} {n0:Nat} {h:H} {n m:Nat} {Q:β->H->Nat->Prop} {P:Program}
theorem tY{T:Prop}(f:T)(b off:Nat)(k:Value×Tk->M β){B:AB}(d:h.get b=some B)(e:b<m)(c:m<=n){v:Value}(a:B.cells[off]? =some v)(x:∀T,RB T m->ae W n0 (k (v,T)) h n Q):ae W n0 ((bx (aM (jP b off) M.ret)).bind k) h n Q:=
 DP f b off k d jO a (x _ ⟨jS,by simpa using e,c⟩)
theorem Zd(v:Value)(k:Value×Tk->M β)(a:m<=n)(y:∀T,RB T m->ae W n0 (k (v,T)) h n Q):ae W n0 ((bx (M.ret v)).bind k) h n Q:=
 vh (L:=[]) rfl (ai _) jS (y _ ⟨jS,jS,a⟩)
theorem wR (hd:mO P=true) {gt:Nat->Hint} {lf d:Nat} {f:FuncId} {vs:List Value} {Q':Value->H->Nat->Prop} (s:ae (fun _=>False) n (ah P gt lf d f ⟨vs⟩) h n Q') (l:n0<=n) {k:Value×Tk->M β}
 (x:∀v c a T,n<=a->(∀b,b<n->c.get b=h.get b)->Q' v c a->RB T n->ae W n0 (k (v,T)) c a Q):ae W n0 ((bx (ak (ah P gt lf d) f vs M.ret)).bind k) h n Q:=by
 refine DQ hd s l (fun _ _ h=>h.elim) fun v c a L i q g p j=>x v c a _ i (fun b o=>q b o id) g ⟨fun e m=> ?_,p,ai _⟩;cases g:e.wr with
 |false=>rfl
 |true=>exact(j e m g).elim
theorem ajG{m:M Value}{Q':Value->H->Nat->Prop}(s:ae W n0 m h n Q'){k:Value×Tk->M β}(x:∀v b a T,n<=a->Q' v b a->ae W n0 (k (v,T)) b a Q):ae W n0 ((bx m).bind k) h n Q:=by obtain⟨v,b,a,L,f,c,e,d⟩:=s;exact vh f c e (x v b a _ c d)
end
theorem cG {g c:Type} {W:Nat->Prop} {n0:Nat} {Q:g->H->Nat->Prop} (N:Nat) (b:Nat->Nat->c->M g) (I:Nat->c->H->Nat->Prop)
 (last:∀a s h n,I N s h n->ae W n0 (b (a+1) N s) h n Q)
 (step:∀a i s h n,i<N->I i s h n->(∀d h' n',I (i+1) d h' n'->ae W n0 (b a (i+1) d) h' n' Q)->ae W n0 (b (a+1) i s) h n Q):
 ∀(a i:Nat) (s:c) (h:H) (n:Nat),i<=N->N-i<a->I i s h n->ae W n0 (b a i s) h n Q:=by
 have e:∀(m a i:Nat) (s:c) (h:H) (n:Nat),N-i=m->i<=N->N-i<a->I i s h n->ae W n0 (b a i s) h n Q:=by
  intro m
  induction m with
  |zero=>intro a i s h n k l o x;obtain⟨a,rfl⟩:∃f,a=f+1:=⟨a-1,jO⟩;obtain rfl:i=N:=jO;exact last a s h n x
  |succ m j=>intro a i s h n k l o x;obtain⟨a,rfl⟩:∃f,a=f+1:=⟨a-1,jO⟩;exact step a i s h n jO x fun d h' n' y=>j a (i+1) d h' n' jO jO jO y
 exact fun a i s h n=>e _ a i s h n rfl
def jZ(h:H)(n:Nat)(e:TypeId)(v:Value)(cs:List Value):Prop:=
 (∃a c,v= .slice a 0 c∧(∀b o,a≠some ⟨b,o,none⟩)∧cs=[])∨∃b d cap o f,v= .slice (some ⟨b,d,none⟩) cs.length cap∧h.get b=some ⟨e,o,f⟩∧b<n∧d+cs.length<=f.length∧(f.drop d).take cs.length=cs∧cs.length<=cap
section
variable {h h':H} {n n' lo hi:Nat} {e e' es ei:TypeId} {v v':Value} {cs cs':List Value} {eL:List (List Int)}
theorem jZ.ay(r:jZ h n e v cs)(i:n<=n')(f:∀b,az v b->h'.get b=h.get b):jZ h' n' e v cs:=by
 rcases r with q|⟨b,a,cap,o,d,c,g,j,r⟩
 ·exact .inl q
 ·exact .inr ⟨b,a,cap,o,d,c,(f b ⟨_,_,_,c⟩).trans g,jO,r⟩
theorem jZ.len(r:jZ h n e v cs):∃a c,v= .slice a cs.length c:=by
 rcases r with ⟨a,c,rfl,_,rfl⟩|⟨b,d,cap,o,f,rfl,_⟩
 ·exact⟨a,c,rfl⟩
 ·exact⟨_,cap,rfl⟩
theorem jZ.some(r:jZ h n e v cs)(l:0<cs.length):∃b off cap o d,v= .slice (some ⟨b,off,none⟩) cs.length cap∧h.get b=some ⟨e,o,d⟩∧b<n∧∀i,i<cs.length->d[off+i]? =some (cs.getD i undef):=by
 rcases r with ⟨a,c,_,_,rfl⟩|⟨b,off,cap,o,d,f,j,k,m,g,p⟩
 ·simp at l
 ·refine⟨b,off,cap,o,d,f,j,k,fun i hi=> ?_⟩;have:=congrArg (fun z=>z[i]?) g;simp only[Oh,hi,if_true,Oi]at this;rw[this,aC,aJ hi];rfl
theorem jZ.lt(r:jZ h n e v cs){b:Nat}(g:az v b):b<n:=by
 rcases r with ⟨a,c,rfl,d,_⟩|⟨c,i,cap,o,j,rfl,m,f,_⟩
 ·obtain⟨o,l,k,q⟩:=g;cases q;exact absurd rfl (d b o)
 ·rw[g.inj];exact f
theorem Own.Ga(o:Own h lo n e v cs):jZ h n e v cs:=by
 rcases o with ⟨rfl,rfl⟩|⟨b,rfl,a,_,c⟩
 ·exact .inl ⟨none,0,rfl,fun _ _ q=>(nomatch q),rfl⟩
 ·exact .inr ⟨b,0,aU+cs.length,true,_,rfl,a,c,jO,by rw[dx,eh],jO⟩
theorem Own.elem(o:Own h lo n e v cs){b:Nat}(a:az v b):∃B,h.get b=zD B∧B.elem=e:=by
 rcases o with ⟨rfl,_⟩|⟨c,rfl,d,_⟩
 ·exact a.not_nil.elim
 ·rw[a.inj];exact⟨_,d,rfl⟩
theorem Row.elem{k:IntKind}{xs:List Int}(r:Row h n e k v xs){b:Nat}(f:az v b):∃B,h.get b=zD B∧B.elem=e:=by
 rcases r with ⟨a,c,rfl,d,_⟩|⟨c,g,cap,o,j,rfl,i,_⟩
 ·obtain⟨o,l,k,q⟩:=f;cases q;exact absurd rfl (d b o)
 ·rw[f.inj];exact⟨_,i,rfl⟩
theorem Row.apart{k:IntKind}{xs:List Int}(o:Row h n e k v xs){a:Nat}(g:Own h a n e' v' cs')(c:e≠e'){b:Nat}(i:az v b):¬az v' b:=fun d=>by obtain⟨B,m,l⟩:=o.elem i;obtain⟨p,f,j⟩:=g.elem d;rw[m]at f;cases f;exact c (l.symm.trans j)
def RR(h:H)(n:Nat)(es ei:TypeId)(v:Value)(eL:List (List Int)):Prop:=∃cs,jZ h n es v cs∧cs.length=eL.length∧∀i,i<eL.length->Row h n ei .i64 (cs.getD i undef) (eL.getD i [])
theorem RR.len(r:RR h n es ei v eL):∃a c,v= .slice a eL.length c:=by obtain⟨cs,r,b,_⟩:=r;rw[<-b];exact r.len
theorem RR.ay(r:RR h n es ei v eL)(a:n<=n')(c:∀b,b<n->h'.get b=h.get b):RR h' n' es ei v eL:=by obtain⟨cs,r,e,d⟩:=r;exact⟨cs,r.ay a fun b f=>c b (r.lt f),e,fun i hi=>(d i hi).ay a c⟩
theorem RR.at(r:RR h n es ei v eL)(k:0<eL.length):∃b off cap o a,v= .slice (some ⟨b,off,none⟩) eL.length cap∧h.get b=some ⟨es,o,a⟩∧b<n∧∀i,i<eL.length->∃x,a[off+i]? =some x∧Row h n ei .i64 x (eL.getD i []):=by obtain⟨cs,r,e,d⟩:=r;obtain⟨b,off,cap,o,a,c,f,g,j⟩:=r.some jO;exact⟨b,off,cap,o,a,by rw[c,e],f,g,fun i hi=>⟨_,j i jO,d i hi⟩⟩
def fA(h:H)(lo hi n:Nat)(es ei:TypeId)(v:Value)(eL:List (List Int)):Prop:=∃cs,Own h lo n es v cs∧cs.length=eL.length∧∀i,i<eL.length->Row h n ei .i64 (cs.getD i undef) (eL.getD i [])∧∀b,az (cs.getD i undef) b->b<hi
theorem fA.nil(h:H)(lo hi n:Nat)(es ei:TypeId):fA h lo hi n es ei (.slice none 0 0) []:=⟨[],Own.nil _ _ _ _,rfl,fun i hi=>absurd hi jS⟩
theorem fA.rr(o:fA h lo hi n es ei v eL):RR h n es ei v eL:=by obtain⟨cs,o,b,a⟩:=o;exact⟨cs,o.Ga,b,fun i hi=>(a i hi).1⟩
theorem fA.lt(o:fA h lo hi n es ei v eL){b:Nat}(a:az v b):lo<=b∧b<n:=by obtain⟨cs,o,_⟩:=o;exact o.lt a
theorem fA.elem(o:fA h lo hi n es ei v eL){b:Nat}(a:az v b):∃B,h.get b=zD B∧B.elem=es:=by obtain⟨cs,o,_⟩:=o;exact o.elem a
theorem fA.ay(o:fA h lo hi n es ei v eL)(d:n<=n')(e:∀b,b<n->(b<hi∨az v b)->h'.get b=h.get b):fA h' lo hi n' es ei v eL:=by obtain⟨cs,o,f,c⟩:=o;exact⟨cs,o.ay d fun b a=>e b (o.lt a).2 (.inr a),f,fun i hi=>⟨(c i hi).1.fK d fun b a=>e b ((c i hi).1.lt a) (.inl ((c i hi).2 b a)),(c i hi).2⟩⟩
theorem fA.up(o:fA h lo hi n es ei v eL){a:Nat}(hh:hi<=a):fA h lo a n es ei v eL:=by obtain⟨cs,o,d,c⟩:=o;exact⟨cs,o,d,fun i hi=>⟨(c i hi).1,fun b e=>eD ((c i hi).2 b e) hh⟩⟩
theorem Ze{a:Type}(d:a)(l:List a)(x:a)(i:Nat):(l++[x]).getD i d=if i<l.length then l.getD i d else if i=l.length then x else d:=by
 rw[aC,aC];split
 ·rename_i h;rw[nB h]
 ·rename_i h;split
  ·rename_i b;subst b;simp
  ·rw[jM (by simp;omega)];rfl
theorem Bq {l:Type} {W:Nat->Prop} {n0:Nat} {Q:l->H->Nat->Prop} {T:Prop} (c:T) (f:ei≠es) (o:fA h lo hi n es ei v eL) {x:Value} {xs:List Int} (r:Row h n ei .i64 x xs) (hh:hi<=n) (C:eL.length+1<=1099511627776) (g:n0<=lo) (z:lo<=n) (k:Value->M l)
 (y:∀v' h',fA h' lo n (n+2) es ei v' (eL++[xs])->(∀b,b<n->¬az v b->h'.get b=h.get b)->(∀b,az v' b->n<=b)->ae W n0 (k v') h' (n+2) Q):ae W n0 (bV es 1 x fun w=>bH es 1 v w k) h n Q:=by
 obtain⟨cs,o,A,p⟩:=o;have t:one x=true:=by obtain⟨a,c,rfl⟩:=r.len;rfl
 refine fJ c t o jO g k fun h' B s=> ?_;have e:∀{u:Value} {m:List Int},Row h n ei .i64 u m->Row h' (n+2) ei .i64 u m:=fun q=>q.fK jO fun b d=>s b (q.lt d) (q.apart o f d);refine y _ h' ⟨cs++[x],.inr ⟨n+1,jS,B,jO,jO⟩,by simp[A],fun i hi=> ?_⟩ s fun b d=>by rw[d.inj];omega
 rw[Ze,Ze];by_cases j:i<eL.length
 ·rw[if_pos jO,if_pos j];exact⟨e (p i j).1,fun b d=>by have:=(p i j).2 b d;omega⟩
 ·have:i=eL.length:=by simp at hi;omega
  subst this;rw[if_neg jO,if_pos jO,if_neg jO,if_pos rfl];exact⟨e r,fun b d=>r.lt d⟩
end
section
variable {h h':H} {n n':Nat} {e es ei:TypeId} {v:Value} {cs:List Value} {eL:List (List Int)}
theorem jZ.elem(r:jZ h n e v cs){b:Nat}(f:az v b):∃B,h.get b=zD B∧B.elem=e:=by
 rcases r with ⟨a,c,rfl,d,_⟩|⟨c,g,cap,o,j,rfl,i,_⟩
 ·obtain⟨o,l,k,q⟩:=f;cases q;exact absurd rfl (d b o)
 ·rw[f.inj];exact⟨_,i,rfl⟩
theorem Row.mT{k:IntKind}{xs:List Int}(r:Row h n e k v xs)(c:n<=n')(d:∀b B,b<n->h.get b=zD B->B.elem=e->h'.get b=h.get b):Row h' n' e k v xs:=
 r.fK c fun b a=>by obtain⟨B,g,f⟩:=r.elem a;exact d b B (r.lt a) g f
theorem jZ.mT(r:jZ h n e v cs)(c:n<=n')(d:∀b B,b<n->h.get b=zD B->B.elem=e->h'.get b=h.get b):jZ h' n' e v cs:=
 r.ay c fun b a=>by obtain⟨B,g,f⟩:=r.elem a;exact d b B (r.lt a) g f
theorem RR.mT(r:RR h n es ei v eL)(e:n<=n')(f:∀b B,b<n->h.get b=zD B->(B.elem=es∨B.elem=ei)->h'.get b=h.get b):RR h' n' es ei v eL:=by obtain⟨cs,r,j,g⟩:=r;exact⟨cs,r.mT e fun b B c d a=>f b B c d (.inl a),j,fun i k=>(g i k).mT e fun b B c d a=>f b B c d (.inr a)⟩
theorem yD{p:Nat}{C:AB}(c:h.get p=some C)(d:∀b,b≠p->h'.get b=h.get b){b:Nat}{B:AB}(a:h.get b=some B)(e:B.elem≠C.elem):h'.get b=h.get b:=d b fun q=>by subst q;rw[c]at a;cases a;exact e rfl
end
section
variable {P:Program} {h:H} {n f:Nat} {t e:TypeId} {v:Value}
end
section
variable {β:Type} {W:Nat->Prop} {n0:Nat} {h:H} {n m:Nat} {Q:β->H->Nat->Prop} {P:Program}
theorem Zf{b:Nat}{B:AB}(d:h.get b=some B)(f:b<n):∀(c k:Nat),k+c<=B.cells.length->∃L,cW b k c h n=some ⟨(B.cells.drop k).take c,h,n,L⟩∧∀e∈L,e.wr=false∧e.b=b
 |0,k,_=>⟨[],by rw[List.take_zero];rfl,jS⟩
 |c+1,k,j=>by
  obtain⟨L,e,g⟩:=Zf d f c (k+1) jO;have a:k<B.cells.length:=jO;refine⟨[⟨false,b,some k⟩]++(L++[]), ?_, ?_⟩
  ·unfold cW
   have i:rd b k h n=some ⟨B.cells[k],h,n,[⟨false,b,some k⟩]⟩:=by unfold rd;simp only[f,d,if_true,aJ a]
   refine bY i (bY e ?_);rw[uv a,List.take_succ_cons];rfl
  ·intro x hx;simp only[cz,List.mem_append,nF,List.not_mem_nil,or_false]at hx;rcases hx with rfl|hx
   ·exact⟨rfl,rfl⟩
   ·exact g x hx
theorem Br{T:Prop}(_:T)(b off:Nat)(v:Value)(k:Value->M β){e:TypeId}{cs:List Value}(d:h.get b=some ⟨e,true,cs⟩)(f:b<n)(c:off<cs.length)(g:one v=true)(a:n0<=b∨W b)(x:ae W n0 (k undef) (h.set b (some ⟨e,true,cs.set off v⟩)) n Q):ae W n0 (bc (jP b off) v k) h n Q:=
 (ya b off v k f g).2 (by rw[d];exact⟨rfl,c,a,x⟩)
theorem ajH{e:TypeId}{z:Value}(l:Nat)(k:Value×Tk->M β){b a:IntKind}(c:l<=1099511627776)(x:ae W n0 (k (.slice (some ⟨n,0,none⟩) l l,⟨n,n+1,[]⟩)) (h.set n (some ⟨e,true,bD l z⟩)) (n+1) Q):ae W n0 ((bx (gP e [z] (.int b l) (.int a l) M.ret)).bind k) h n Q:=by
 have d:gP e [z] (.int b l) (.int a l) M.ret=ew ((jo e (kq [z] l)).bind fun id=>M.ret (fZ (some ⟨id,0,none⟩) l l)) M.ret:=by
  show(match bK l l with
   |true=>match bK l 1099511627776 with
    |true=>ew ((jo e (kq [z] l)).bind fun id=>M.ret (fZ (some ⟨id,0,none⟩) l l)) M.ret
    |false=> .fail
   |false=> .fail)=_
  rw[lI (ai l),lI c]
 rw[d,Ju];exact vh (Ak (oS _ _ (fun id=>fZ (some ⟨id,0,none⟩) l l) _ _)) (Nat.le_succ n) jS x
end
end Go.Proofs.YtcehhgppfahbkaaGreatDoor.Ev
namespace Go.Proofs.YtcehhgppfahbkaaGreatDoor
open Go
def bn(b:Bool):Nat:=if b then 1 else 0
theorem wS(b:Bool):bn b<2:=by cases b<;>decide
def num:List Bool->Nat->Nat
 |[],a=>a
 |b::l,a=>num l (2*a+bn b)
theorem yE:∀(l m:List Bool) (a:Nat),num (l++m) a=num m (num l a)
 |[],_,_=>rfl
 |b::l,m,a=>yE l m _
theorem Zg:∀(l:List Bool) (a k:Nat),a<2^k->num l a<2^(k+l.length)
 |[],a,k,h=>h
 |b::l,a,k,h=>by have:=wS b;have:=Zg l (2*a+bn b) (k+1) (by rw[lH];omega);rw[ct,show k+(l.length+1)=k+1+l.length by omega];exact this
theorem yF(l:List Bool):num l 0<2^l.length:=by have:=Zg l 0 0 jD;rwa[fy]at this
def bh:Nat->Nat->List Bool
 |_,0=>[]
 |v,n+1=>bh (v/2) n++[decide (v %2=1)]
theorem cA:∀(n v:Nat),(bh v n).length=n
 |0,_=>rfl
 |n+1,v=>by simp[bh,cA n]
theorem Zh(v:Nat):bn (decide (v %2=1))=v %2:=by unfold bn;by_cases h:v %2=1<;>simp[h]<;>omega
theorem Mn:∀(n v:Nat),num (bh v n) 0=v %2^n
 |0,v=>by simp[bh,num,Nat.mod_one]
 |n+1,v=>by show num (bh (v/2) n++[decide (v %2=1)]) 0=_;rw[yE,Mn n];show 2*(v/2 %2^n)+bn _=_;rw[Zh,lH,mz (2^n) 2,Nat.mod_mul];omega
def dG(s:List Nat×List Bool)(b:Bool):List Nat×List Bool:=if s.2.length=7 then(s.1++[num (s.2++[b]) 0],[])else(s.1,s.2++[b])
def dv(s:List Nat×List Bool)(l:List Bool):List Nat×List Bool:=l.foldl dG s
theorem Bs(s:List Nat×List Bool)(l m:List Bool):dv s (l++m)=dv (dv s l) m:=by unfold dv;rw[List.foldl_append]
theorem ajI{s:List Nat×List Bool}(h:s.2.length<8)(b:Bool):(dG s b).2.length=(s.2.length+1)%8:=by
 unfold dG;split
 ·rename_i e;rw[e];rfl
 ·rename_i e;simp;omega
theorem Zi:∀(l:List Bool) {s:List Nat×List Bool},s.2.length<8->(dv s l).2.length=(s.2.length+l.length)%8
 |[],s,h=>by show s.2.length=_;rw[fH,gX,lJ h]
 |b::l,s,h=>by show(dv (dG s b) l).2.length=_;have a:=ajI h b;rw[Zi l (by rw[a];exact Nat.mod_lt _ jD),a,ct];omega
theorem ajJ(s:List Nat×List Bool)(b:Bool):(dG s b).1.length<=s.1.length+1:=by unfold dG;split<;>simp
theorem Mo:∀(l:List Bool) (s:List Nat×List Bool),(dv s l).1.length<=s.1.length+l.length
 |[],s=>ai _
 |b::l,s=>by have c:=ajJ s b;have a:=Mo l (dG s b);show(dv (dG s b) l).1.length<=_;rw[ct];omega
theorem Mq:∀(l:List Bool) (ws:List Nat) (r:List Bool),r.length+l.length<8->dv (ws,r) l=(ws,r++l)
 |[],ws,r,_=>by simp[dv]
 |b::l,ws,r,h=>by
  simp only[ct]at h;show dv (dG (ws,r) b) l=_;have:dG (ws,r) b=(ws,r++[b]):=by unfold dG;rw[if_neg (by simp;omega)]
  rw[this,Mq l ws (r++[b]) (by simp;omega)];simp
theorem ajK(ws:List Nat)(l:List Bool)(h:l.length=8):dv (ws,[]) l=(ws++[num l 0],[]):=by
 have c:l≠[]:=by intro e;rw[e]at h;simp at h
 obtain⟨a,b,rfl⟩:∃a b,l=a++[b]:=⟨l.dropLast,l.getLast c,(aqH c).symm⟩;have d:a.length=7:=by simpa using h
 rw[Bs,Mq a ws [] (by rw[d];decide)];show dG (ws,[]++a) b=_;unfold dG;rw[if_pos (by simpa using d)];rfl
def oY(r:List Bool):Nat:=num r 0*2^(8-r.length)
theorem ajL{r:List Bool}(h:r.length<=8):oY r<256:=by
 have b:=yF r;have a:2^r.length*2^(8-r.length)=256:=by rw[<-Nat.pow_add,show r.length+(8-r.length)=8 by omega]
 unfold oY
 calc num r 0*2^(8-r.length)<2^r.length*2^(8-r.length):=aqO b (aqP _)
  _=256:=a
theorem ajM{r:List Bool}(h:r.length<8)(b:Bool):oY r|||(bn b*2^(7-r.length))=oY (r++[b]):=by
 have a:bn b*2^(7-r.length)<2^(8-r.length):=by rw[show 8-r.length=7-r.length+1 by omega,lH,mz _ 2];have:=aqP (7-r.length);exact aqO (wS b) this
 unfold oY;rw[mz (num r 0),<-Nat.two_pow_add_eq_or_of_lt a,yE];show _=(2*num r 0+bn b)*2^(8-(r++[b]).length);rw[aG,List.length_singleton,show 8-r.length=7-r.length+1 by omega,show 8-(r.length+1)=7-r.length by omega,lH,fW];congr 1;rw[mz (2^(7-r.length)) 2,zE,zE,mz (2^(7-r.length))]
theorem or8{a b:Nat}(d:a<256)(c:b<256):IntKind.u8.wrap ((dR IntKind.u8.bits (a:Int)|||dR IntKind.u8.bits (b:Int)).toNat:Int)=((a|||b:Nat):Int):=u8_or_nat a b d c
theorem w8{x:Nat}(h:x<256):IntKind.u8.wrap (x:Int)=(x:Int):=IntWalk.u8_in _ jO
theorem iH{x:Nat}(h:x<4294967296):IntKind.u32.wrap (x:Int)=(x:Int):=IntWalk.u32_in _ jO
theorem ajN{b k:Nat}(f:b<2)(a:k<=7):IntKind.u8.wrap ((b:Int)*2^(min ((k:Int)).toNat (aqR).bits))=((b*2^k:Nat):Int):=by
 have e:min ((k:Int)).toNat (aqR).bits=k:=by rw[eg];exact r8 (Nat.le_trans a jD)
 rw[e];have c:2^k<=2^7:=Nat.pow_le_pow_right jD a
 have:b*2^k<256:=by have:b*2^k<=1*2^7:=Nat.mul_le_mul jO c;omega
 have d:(b:Int)*2^k=((b*2^k:Nat):Int):=by push_cast;rfl
 rw[d];exact w8 this
theorem fdiv_pow(v k:Nat)(a:Nat)(h:k<=a):((v:Int)).fdiv (2^(min ((k:Int)).toNat a))=((v/2^k:Nat):Int):=by
 have e:min ((k:Int)).toNat a=k:=by rw[eg];exact r8 h
 rw[e];have b:((2:Int)^k)=((2^k:Nat):Int):=by push_cast;rfl
 rw[b,Oy _ (gY _)];rfl
theorem ajO{a:Nat}(d:a<4294967296):IntKind.u32.wrap ((dR IntKind.u32.bits (a:Int)&&&dR IntKind.u32.bits (1:Int)).toNat:Int)=((a %2:Nat):Int):=by
 have c:(dR 32 (a:Int)).toNat=a:=by rw[BitVec.ofInt_natCast,BitVec.toNat_ofNat];exact lJ jO
 show IntKind.u32.wrap ((dR 32 (a:Int)&&&dR 32 (1:Int)).toNat:Int)=_;rw[BitVec.toNat_and,c];have b:(dR 32 (1:Int)).toNat=1:=jD;rw[b,Nat.and_one_is_mod];exact iH jO
end Go.Proofs.YtcehhgppfahbkaaGreatDoor
