import Derived.Test.YtcehhgppfahbkaaGreatDoorMab
import Derived.ProofKit
import Derived.OpenShut
open Nat renaming le_refl→ag, ble→bh, beq→bq, le_succ→cI, lt_succ_self→dL, succ→dT, le_of_ble_eq_true→eS, add→eT, add_mul→ff, zero_add→fD, add_zero→iA, mod→iB, eq_of_beq_eq_true→iX, ble_eq_true_of_le→jT, mod_eq_of_lt→kB, mod_lt→lH, one_mul→ow, beq_refl→rq, mul_one→yu
open List renaming getElem?_eq_getElem→aC, replicate→bI, length_cons→bL, append_nil→bV, append_assoc→b9, drop_zero→dj, mem_cons_of_mem→eU, take_length→fi, take_of_length_le→fZ, getElem?_eq_none→jq, mem_cons→ox, nil_append→p7, mem_append→p8, not_mem_nil→vM, reverse_cons→VF, extract_eq_take_drop→agy
open Bool renaming and_eq_true→bE, false_eq_true→lF, or_eq_true→ml, or_eq_false_iff→yl, false_ne_true→Iz, not_eq_true'→IA
open BitVec renaming ofInt→cR, toNat_and→agX, toNat_or→agY, toNat_xor→agZ
open Option.some renaming injEq→dm
open Go.Region renaming wanted→eE
open Int renaming ofNat→fh, natCast_nonneg→fE, toNat_of_nonneg→jU, fdiv_eq_ediv_of_nonneg→ag0, natCast_ediv→ag1
open Go renaming binOp→fM, convert→Iy
open Go.Value renaming slice→fN, agg→tZ, pointer→C7
open Go.Instr renaming fill→jR, index→yo, sliceAt→CV, sliceBound→Iv
open Go.Op renaming equal→pY, equalIn→tY, bytesLess→IE, stringOp→IF, maxDepth→agF, intDiv→agU, shift→agV
open Array renaming all_eq_true_iff_forall_mem→rk, getElem?_toList→CY, length_toList→C5
open Go.Next renaming value→IG
open ByteArray renaming data_extract→Vx, size→agW
open Go.ByteArray renaming toList_eq→aiw
set_option linter.unusedVariables false
set_option linter.unusedSimpArgs false
set_option linter.unusedSectionVars false
namespace Go.Proofs.YtcehhgppfahbkaaGreatDoor.Ev
open Go Go.RowKit
theorem fF{P:Program}{a:BinOp}{t:TypeId}{x y v:Value}(e:jY P t=false)(c:(scalar x&&scalar y)=true)(d:gJ P (do pure (.value (<-fM a t x y)))=some v)(b:scalar v=true):dg P a t x y=some v:=by unfold dg DK kL;rw[e,c];simp only;rw[d];simp only[b]
section
variable {P:Program} {t:TypeId} {k:IntKind} (hn:jY P t=false) (a b:Int)
include hn
theorem Xs:dg P .add t (.int k a) (.int k b)=some (.int k (k.wrap (a+b))):=fF hn rfl (by unfold fM;simp only[ne_eq,not_true_eq_false,if_false];rfl) rfl
theorem Xt:dg P .sub t (.int k a) (.int k b)=some (.int k (k.wrap (a-b))):=fF hn rfl (by unfold fM;simp only[ne_eq,not_true_eq_false,if_false];rfl) rfl
theorem Xu:dg P .mul t (.int k a) (.int k b)=some (.int k (k.wrap (a*b))):=fF hn rfl (by unfold fM;simp only[ne_eq,not_true_eq_false,if_false];rfl) rfl
theorem Xv(c:b≠0):dg P .quo t (.int k a) (.int k b)=some (.int k (k.wrap (a.tdiv b))):=fF hn rfl (by unfold fM agU;simp only[ne_eq,not_true_eq_false,if_false,c];rfl) rfl
theorem Xw(c:b≠0):dg P .rem t (.int k a) (.int k b)=some (.int k (a.tmod b)):=fF hn rfl (by unfold fM agU;simp only[ne_eq,not_true_eq_false,if_false,c];rfl) rfl
theorem Xx:dg P .eql t (.int k a) (.int k b)=some (.bool (a==b)):=fF hn rfl (by unfold fM;simp only[ne_eq,not_true_eq_false,if_false];rfl) rfl
theorem Xy:dg P .neq t (.int k a) (.int k b)=some (.bool (a !=b)):=fF hn rfl (by unfold fM;simp only[ne_eq,not_true_eq_false,if_false];rfl) rfl
theorem Xz:dg P .lss t (.int k a) (.int k b)=some (.bool (decide (a<b))):=fF hn rfl (by unfold fM;simp only[ne_eq,not_true_eq_false,if_false];rfl) rfl
theorem XA:dg P .leq t (.int k a) (.int k b)=some (.bool (decide (a<=b))):=fF hn rfl (by unfold fM;simp only[ne_eq,not_true_eq_false,if_false];rfl) rfl
theorem XB:dg P .gtr t (.int k a) (.int k b)=some (.bool (decide (b<a))):=fF hn rfl (by unfold fM;simp only[ne_eq,not_true_eq_false,if_false];rfl) rfl
theorem XC:dg P .geq t (.int k a) (.int k b)=some (.bool (decide (b<=a))):=fF hn rfl (by unfold fM;simp only[ne_eq,not_true_eq_false,if_false];rfl) rfl
theorem XD{c:IntKind}(d:0<=b):dg P .shl t (.int k a) (.int c b)=some (.int k (k.wrap (a*2^(min b.toNat k.bits)))):=fF hn rfl (by unfold fM agV;simp only[show¬b<0 by omega,if_false];rfl) rfl
theorem XE{c:IntKind}(d:0<=b):dg P .shr t (.int k a) (.int c b)=some (.int k (a.fdiv (2^(min b.toNat k.bits)))):=fF hn rfl (by unfold fM agV;simp only[show¬b<0 by omega,if_false];rfl) rfl
theorem XF:dg P .and t (.int k a) (.int k b)=some (.int k (k.wrap (cR k.bits a&&&cR k.bits b).toNat)):=fF hn rfl (by unfold fM;simp only[ne_eq,not_true_eq_false,if_false];rfl) rfl
theorem XG:dg P .or t (.int k a) (.int k b)=some (.int k (k.wrap (cR k.bits a|||cR k.bits b).toNat)):=fF hn rfl (by unfold fM;simp only[ne_eq,not_true_eq_false,if_false];rfl) rfl
theorem XH:dg P .xor t (.int k a) (.int k b)=some (.int k (k.wrap (cR k.bits a^^^cR k.bits b).toNat)):=fF hn rfl (by unfold fM;simp only[ne_eq,not_true_eq_false,if_false];rfl) rfl
end
theorem zG(l:List UInt8):(⟨l.toArray⟩:ByteArray).size=l.length:=by simp[agW]
theorem D'(l:List UInt8):(⟨l.toArray⟩:ByteArray).toList=l:=by rw[aiw]
theorem XI(s:ByteArray):s=⟨s.data.toList.toArray⟩:=by cases s;simp
theorem XJ(a b:List UInt8):(⟨a.toArray⟩:ByteArray)++⟨b.toArray⟩=⟨(a++b).toArray⟩:=by apply ByteArray.ext;simp
theorem zH(l:List UInt8)(i j:Nat):(⟨l.toArray⟩:ByteArray).extract i j=⟨((l.drop i).take (j-i)).toArray⟩:=by apply ByteArray.ext;simp[Vx,agy]
section
variable {P:Program} {t:TypeId}
theorem XK(c:jY P t=false)(a b:List UInt8):dg P .eql t (.string ⟨a.toArray⟩) (.string ⟨b.toArray⟩)=some (.bool (decide (a=b))):=by
 refine fF c rfl ?_ rfl;unfold fM IF;simp only[D']
 have:(a==b)=decide (a=b):=by
  by_cases h:a=b
  ·subst h;simp
  ·simp[h]
 rw[this];rfl
theorem XL(c:jY P t=false)(a b:List UInt8):dg P .lss t (.string ⟨a.toArray⟩) (.string ⟨b.toArray⟩)=some (.bool (IE a b)):=by refine fF c rfl ?_ rfl;unfold fM IF;simp only[D'];rfl
theorem XM(c:jY P t=false)(a b:List UInt8):dg P .neq t (.string ⟨a.toArray⟩) (.string ⟨b.toArray⟩)=some (.bool (!decide (a=b))):=by
 refine fF c rfl ?_ rfl;unfold fM IF;simp only[D']
 have:(a==b)=decide (a=b):=by
  by_cases h:a=b
  ·subst h;simp
  ·simp[h]
 rw[this];rfl
theorem XN(c:jY P t=false)(a b:List UInt8)(h:a.length+b.length<=9223372036854775807):dg P .add t (.string ⟨a.toArray⟩) (.string ⟨b.toArray⟩)=some (.string ⟨(a++b).toArray⟩):=by
 refine fF c rfl ?_ rfl;unfold fM IF;simp only[zG,XJ]
 have d:¬(((a.length+b.length:Nat):Int)>IntKind.i64.max):=by have:IntKind.i64.max=9223372036854775807:=jD;rw[this];omega
 rw[if_neg d];rfl
end
section
variable {P:Program} {t:TypeId}
theorem XO(h:P.underlying t=some .string)(l:List UInt8)(k:IntKind)(i:Int)(e:0<=i)(f:i<l.length):rM P t (.string ⟨l.toArray⟩) (.int k i)=some (.int .u8 (l.getD i.toNat 0).toNat):=by
 have b:i.toNat<l.length:=jO;have c:mw P t=true:=by unfold mw;rw[h]
 unfold rM yO kL;rw[c];simp only[isStr,scalar]
 have d:(⟨l.toArray⟩:ByteArray)[i.toNat]? =some (l.getD i.toNat 0):=by
  have a:i.toNat<(⟨l.toArray⟩:ByteArray).size:=by rw[zG];exact b
  rw[getElem?_pos (⟨l.toArray⟩:ByteArray) i.toNat a];rw[List.getD_eq_getElem?_getD,aC b];rfl
 have:gJ P (do pure (IG (<-yo t (.string ⟨l.toArray⟩) (.int k i))))=some (.int .u8 (l.getD i.toNat 0).toNat):=by unfold yo;simp only[asIntOf,pure_bind,bind_assoc];rw[nB h];simp only[e,if_true,d];rfl
 rw[this]
theorem XP(h:P.underlying t=some .string){A:Type}(l:List UInt8)(lo g:Option Value){a b:Nat}(z:dE lo 0=some a)(x:dE g l.length=some b)(s:a<=b)(h2:b<=l.length)(k:Value->M A):ux P t (.string ⟨l.toArray⟩) lo g none k=k (.string ⟨((l.drop a).take (b-a)).toArray⟩):=by
 have B:mw P t=true:=by unfold mw;rw[h]
 have p:∀(o:Option Value) (d m:Nat),dE o d=some m->(o=none∧m=d)∨∃n i,o=some (.int n i)∧0<=i∧m=i.toNat:=by
  intro o d m f;unfold dE at f;split at f
  ·cases f;exact .inl ⟨rfl,rfl⟩
  ·rename_i n i;split at f
   ·rename_i u;cases f;exact .inr ⟨n,i,rfl,u,rfl⟩
   ·cases f
  ·cases f
 have r:(rK lo&&rK g&&rK none)=true:=by rcases p lo _ _ z with ⟨rfl,_⟩|⟨_,_,rfl,_⟩<;>rcases p g _ _ x with ⟨rfl,_⟩|⟨_,_,rfl,_⟩<;>rfl
 have e:∀(n:IntKind) (i:Int) (y:Nat) (c:BoundsCode),0<=i->i.toNat<=y->Iv (.int n i) y c=pure i.toNat:=by intro n i y c u s;unfold Iv asIntOf;simp only[pure_bind];rw[if_pos ⟨u,jO⟩]
 have q:gJ P (do pure (IG (<-CV t (.string ⟨l.toArray⟩) lo g none)))=some (.string ⟨((l.drop a).take (b-a)).toArray⟩):=by
  unfold CV;simp only[bind_assoc];rw[nB h];simp only;unfold Instr.slice;simp only[bind_assoc];rw[nB h];simp only[Option.isSome_none,lF,if_false,pure_bind,bind_assoc,zG];unfold Instr.sliceBounds;rcases p lo _ _ z with ⟨rfl,rfl⟩|⟨_,i,rfl,w,rfl⟩<;>rcases p g _ _ x with ⟨rfl,rfl⟩|⟨_,j,rfl,v,rfl⟩
  ·simp only[pure_bind,bind_assoc,zH];rfl
  ·simp only[e _ j l.length _ v h2,pure_bind,bind_assoc,zH];rfl
  ·simp only[e _ i l.length _ w s,pure_bind,bind_assoc,zH];rfl
  ·simp only[e _ j l.length _ v h2,e _ i j.toNat _ w s,pure_bind,bind_assoc,zH];rfl
 unfold ux;rw[B];simp only
 have:yN P t (.string ⟨l.toArray⟩) lo g none=some (.string ⟨((l.drop a).take (b-a)).toArray⟩):=by unfold yN kL;simp only[isStr,r];rw[q];rfl
 rw[this];rfl
end
section
variable {β:Type} {P:Program} {t:TypeId} {x y:Value} {k:Value->M β} {h:H} {n:Nat} {r:Out β}
theorem dG{o:Option Value}{v:Value}(e:o=some v)(a:k v h n=some r):aN o k h n=some r:=by subst e;exact a
theorem o8{e:BinOp}{f:IntKind->Int->Int->Value}(g:∀j a b,dg P e t (.int j a) (.int j b)=some (f j a b))(c:iI f x y k h n=some r):aN (dg P e t x y) k h n=some r:=by
 unfold iI at c;split at c
 ·split at c
  ·rename_i a p _ b q;cases d:nE a b with
   |false=>simp only[d]at c;cases c
   |true=>obtain rfl:=zi d;simp only[d]at c;exact dG (g _ _ _) c
  ·cases c
 ·cases c
theorem Ea{e:BinOp}{f:Nat->Nat->Nat}(g:∀(j:IntKind) (a b:Nat),dg P e t (.int j (.ofNat a)) (.int j (.ofNat b))=some (.int j (j.wrap (.ofNat (f (iB a (pw j)) (iB b (pw j)))))))(c:rS f x y k h n=some r):aN (dg P e t x y) k h n=some r:=by
 unfold rS at c;split at c
 ·split at c
  ·rename_i a p _ b q;cases d:nE a b with
   |false=>simp only[d]at c;cases c
   |true=>obtain rfl:=zi d;simp only[d]at c;exact dG (g _ _ _) (by rw[<-jb];exact c)
  ·cases c
 ·cases c
theorem qC{j:IntKind}(a b:Nat):(cR j.bits (fh a)).toNat=iB a (pw j)∧(cR j.bits (fh b)).toNat=iB b (pw j):=by rw[Xo];exact⟨JM _ _,JM _ _⟩
end
noncomputable def Eb {a:Type} (b:BinOp) (x y:Value) (k:Value->M a):M a:=match b with
 | .add=>ax x y k
 | .sub=>bx x y k
 | .mul=>gq x y k
 | .quo=>mH x y k
 | .rem=>oZ x y k
 | .eql=>gu x y k
 | .neq=>iJ x y k
 | .lss=>da x y k
 | .leq=>lU x y k
 | .gtr=>j4 x y k
 | .geq=>rT x y k
 | .and=>zw x y k
 | .or=>wk x y k
 | .xor=>oY x y k
 | .shl=>kO x y k
 | .shr=>jy x y k
 | .andNot=> .fail
noncomputable def JZ {a:Type} (b:BinOp) (c:Option (List Nat)) (x y:Value) (k:Value->M a):M a:=match c with
 |some l=>match b with
  | .eql=>JV l x y k
  | .neq=>JW l x y k
  |_=> .fail
 |none=> .fail
noncomputable def Ec {b:Type} (d:Option TypeDesc) (c:Option (List Nat)) (a:BinOp) (x y:Value) (k:Value->M b):M b:=match d,a with
 |some (.struct _),a=>JZ a c x y k
 |some (.pointer _),.eql=>nG x y k
 |some (.pointer _),.neq=>wm x y k
 |some (.slice _),.eql=>wo x y k
 |some (.slice _),.neq=>wq x y k
 |some (.func _ _ _),.eql=>D4 x y k
 |some (.func _ _ _),.neq=>D5 x y k
 |_,_=> .fail
def Ed:Option TypeDesc->Bool
 |some .bool=>true
 |_=>false
noncomputable def J0 {a:Type} (b:BinOp) (x y:Value) (k:Value->M a):M a:=match b with
 | .eql=>zx x y k
 | .neq=>zy x y k
 |_=> .fail
noncomputable def Ee {b:Type} (P:Program) (a:BinOp) (t:TypeId) (x y:Value) (k:Value->M b):M b:=match jY P t with
 |true=>Ec (P.underlying t) (rz P t) a x y k
 |false=>match Ed (P.underlying t)with
  |true=>J0 a x y k
  |false=>Eb a x y k
section
variable {β:Type} {P:Program} {t:TypeId} {x y:Value} {k:Value->M β} {h:H} {n:Nat} {r:Out β}
theorem J1(a b:List UInt8)(c:jY P t=false):dg P .eql t (.string ⟨⟨a⟩⟩) (.string ⟨⟨b⟩⟩)=some (.bool (oT a b))∧dg P .neq t (.string ⟨⟨a⟩⟩) (.string ⟨⟨b⟩⟩)=some (.bool (!oT a b)):=by rw[ze];exact⟨XK c a b,XM c a b⟩
theorem XQ{g:BinOp}(d:jY P t=false)(c:Eb g x y k h n=some r):aN (dg P g t x y) k h n=some r:=by
 cases g<;>simp only[Eb]at c
 case add=>
  unfold ax at c;split at c
  ·split at c
   ·rename_i a _ b;cases i:bh (eT (gN a) (gN b)) 9223372036854775807 with
    |false=>simp only[i]at c;cases c
    |true=>simp only[i]at c;have:=eS i;rw[nD,nD]at this;exact dG (XN (P:=P) d _ _ this) (by rw[<-DP];exact c)
   ·cases c
  ·exact o8 (fun j a b=>by rw[Xs d,jb,JK]) c
 case sub=>exact o8 (fun j a b=>by rw[Xt d,jb,zb]) c
 case mul=>exact o8 (fun j a b=>by rw[Xu d,jb,JL]) c
 case quo=>
  unfold mH at c;split at c
  ·split at c
   ·rename_i a p _ b q;cases f:nE a b with
    |false=>simp only[f]at c;cases c
    |true=>
     obtain rfl:=zi f;cases e:nC q 0 with
     |true=>simp only[f,e]at c;cases c
     |false=>simp only[f,e]at c;rw[qp]at e;exact dG (Xv d _ _ (beq_eq_false_iff_ne.1 e)) (by rw[<-jb];exact c)
   ·cases c
  ·cases c
 case rem=>
  unfold oZ at c;split at c
  ·split at c
   ·rename_i a p _ b q;cases f:nE a b with
    |false=>simp only[f]at c;cases c
    |true=>
     obtain rfl:=zi f;cases e:nC q 0 with
     |true=>simp only[f,e]at c;cases c
     |false=>simp only[f,e]at c;rw[qp]at e;exact dG (Xw d _ _ (beq_eq_false_iff_ne.1 e)) c
   ·cases c
  ·cases c
 case and=>exact Ea (fun j a b=>by rw[XF d,agX,(qC a b).1,(qC a b).2];rfl) c
 case or=>exact Ea (fun j a b=>by rw[XG d,agY,(qC a b).1,(qC a b).2];rfl) c
 case xor=>exact Ea (fun j a b=>by rw[XH d,agZ,(qC a b).1,(qC a b).2];rfl) c
 case shl=>
  unfold kO at c;split at c
  ·rename_i a p;split at c
   ·rename_i j q;exact dG (XD d _ _ (fE q)) (by rw[<-jb];exact c)
   ·cases c
  ·cases c
 case shr=>
  unfold jy at c;split at c
  ·rename_i a p;split at c
   ·rename_i j q;refine dG (XE d _ _ (fE q)) ?_
    have l:(fh p).fdiv (2^min (fh q).toNat a.bits)=fh (p/2^min q a.bits):=by show((p:Nat):Int).fdiv (2^min q a.bits)=((p/2^(min q a.bits):Nat):Int);have l:(2:Int)^(min q a.bits)=((2^(min q a.bits):Nat):Int):=jS;rw[l,ag0 _ (fE _),<-ag1]
    exact l▸c
   ·cases c
  ·cases c
 case andNot=>cases c
 case eql=>
  unfold gu at c;split at c
  ·split at c
   ·exact dG (J1 _ _ d).1 c
   ·cases c
  ·exact o8 (fun j a b=>by rw[Xx d,qp]) c
 case neq=>
  unfold iJ at c;split at c
  ·split at c
   ·exact dG (J1 _ _ d).2 c
   ·cases c
  ·exact o8 (fun j a b=>by rw[Xy d,qp];rfl) c
 case lss=>
  unfold da at c;split at c
  ·split at c
   ·exact dG ((XL d _ _).trans (by rw[DO])) c
   ·cases c
  ·exact o8 (fun j a b=>by rw[Xz d,oS]) c
 case leq=>exact o8 (fun j a b=>by rw[XA d,zd]) c
 case gtr=>exact o8 (fun j a b=>by rw[XB d,oS]) c
 case geq=>exact o8 (fun j a b=>by rw[XC d,zd]) c
end
section
variable {β:Type} {P:Program} {t:TypeId} {x y a:Value} {k:Value->M β} {h:H} {n:Nat} {r:Out β}
theorem jF{m m':M Value}(e:m=m')(a:dy m k h n=some r):((inside m').bind k) h n=some r:=by subst e;rw[<-j3];exact a
theorem XR{f:BinOp}(w:jY P t=true)(a:Ec (P.underlying t) (rz P t) f x y k h n=some r):aN (dg P f t x y) k h n=some r:=by
 have g:∀(b:Bool) (v:Value),nm P t x y=some b->((f= .eql∧v= .bool b)∨(f= .neq∧v= .bool (!b)))->k v h n=some r->aN (dg P f t x y) k h n=some r:=by intro b v e u q;refine dG (v:=v) ?_ q;unfold dg DJ;rw[w,e];rcases u with ⟨rfl,rfl⟩|⟨rfl,rfl⟩<;>rfl
 have c:∀(b:Bool) (v:Value),nk (P.underlying t) x y=some b->((f= .eql∧v= .bool b)∨(f= .neq∧v= .bool (!b)))->k v h n=some r->aN (dg P f t x y) k h n=some r:=fun b v e=>g b v (by unfold nm;rw[e]);have eK:∀(s:Array Field) (b:Bool) (v:Value),P.underlying t=some (.struct s)->Dj (rz P t) x y=some b->((f= .eql∧v= .bool b)∨(f= .neq∧v= .bool (!b)))->k v h n=some r->aN (dg P f t x y) k h n=some r:=fun s b v z e=>g b v (by unfold nm nk;rw[z];exact e);generalize hd:P.underlying t=d at a c eK;generalize q:rz P t=A at a eK;unfold Ec at a;split at a
 ·unfold JZ at a;split at a
  ·rename_i l;split at a
   ·unfold JV at a;cases x<;>try(cases a;done)
    rename_i o;obtain⟨p⟩:=o;cases y<;>try(cases a;done)
    rename_i j;obtain⟨m⟩:=j;simp only at a;cases i:ju l p m with
    |none=>simp only[i]at a;cases a
    |some b=>simp only[i]at a;exact eK _ b _ rfl i (.inl ⟨rfl,rfl⟩) a
   ·unfold JW at a;cases x<;>try(cases a;done)
    rename_i o;obtain⟨p⟩:=o;cases y<;>try(cases a;done)
    rename_i j;obtain⟨m⟩:=j;simp only at a;cases i:ju l p m with
    |none=>simp only[i]at a;cases a
    |some b=>simp only[i]at a;exact eK _ b _ rfl i (.inr ⟨rfl,rfl⟩) a
   ·cases a
  ·cases a
 ·unfold nG zA at a;split at a<;>first|(split at a<;>first|exact c _ _ rfl (.inl ⟨rfl,rfl⟩) a|cases a)|cases a
 ·unfold wm zA at a;split at a<;>first|(split at a<;>first|exact c _ _ rfl (.inr ⟨rfl,rfl⟩) a|cases a)|cases a
 ·unfold wo zB at a;split at a<;>first|(split at a<;>first|exact c _ _ rfl (.inl ⟨rfl,rfl⟩) a|cases a)|cases a
 ·unfold wq zB at a;split at a<;>first|(split at a<;>first|exact c _ _ rfl (.inr ⟨rfl,rfl⟩) a|cases a)|cases a
 ·unfold D4 zC at a;split at a<;>first|(split at a<;>first|exact c _ _ rfl (.inl ⟨rfl,rfl⟩) a|cases a)|cases a
 ·unfold D5 zC at a;split at a<;>first|(split at a<;>first|exact c _ _ rfl (.inr ⟨rfl,rfl⟩) a|cases a)|cases a
 ·cases a
theorem XS{b c:Bool}(e:P.underlying t=some .bool):gJ P (do pure (.value (.bool (<-pY t (.bool b) (.bool c)))))=some (.bool (b==c)):=by unfold pY agF tY;simp only[bind_assoc];rw[nB e];rfl
theorem XT{i:BinOp}(a:Ee P i t x y k h n=some r):aN (dg P i t x y) k h n=some r:=by
 unfold Ee at a;cases g:jY P t with
 |true=>simp only[g]at a;exact XR g a
 |false=>
  simp only[g]at a;cases f:Ed (P.underlying t)with
  |false=>simp only[f]at a;exact XQ g a
  |true=>
   simp only[f]at a
   have e:P.underlying t=some .bool:=by
    revert f;generalize P.underlying t=d;intro f;unfold Ed at f;split at f
    ·rfl
    ·cases f
   unfold J0 at a;split at a
   ·unfold zx at a;split at a
    ·split at a
     ·rename_i b _ c;refine dG (v:= .bool (b==c)) (fF g rfl ?_ rfl) (by cases b<;>cases c<;>exact a);unfold fM;simp only[bind_assoc,pure_bind];exact XS e
     ·cases a
    ·cases a
   ·unfold zy at a;split at a
    ·split at a
     ·rename_i b _ c;refine dG (v:= .bool (!(b==c))) (fF g rfl ?_ rfl) (by cases b<;>cases c<;>exact a);unfold fM;simp only[bind_assoc,pure_bind];unfold pY agF tY;simp only[bind_assoc];rw[nB e];rfl
     ·cases a
    ·cases a
   ·cases a
end
noncomputable section
variable {β:Type} (P:Program)
def Ef(a:UnOp)(x:Value)(k:Value->M β):M β:=match a with
 | .not=>dI x k
 | .neg=>zD x k
 | .xor=>D6 x k
 |_=> .fail
def Eg(src a:TypeId)(x:Value)(k:Value->M β):M β:=match qe (P.underlying src) (P.underlying a)with
 |some e=>match lM P e with
  |true=>kQ x k
  |false=> .fail
 |none=>match rJ (P.underlying src) (P.underlying a)with
  |some e=>match lM P e&&size? P e==some 1 with
   |true=>uF e x k
   |false=> .fail
  |none=>match P.underlying src with
   |some _=>match P.underlying a with
    |some (.int b)=>ep b x k
    |some .string=>JX x k
    |_=> .fail
   |none=> .fail
def zI(t:TypeId)(a:Value)(k:Value->M β):M β:=match gI P t with
 |some true=>match size? P t with
  |some b=>bO b a k
  |none=> .fail
 |some false=>aG a k
 |none=> .fail
def Eh(t:TypeId)(a x:Value)(k:Value->M β):M β:=match size? P t with
 |some b=>match gI P t with
  |some true=>bW b a x k
  |some false=>match bq b 1 with
   |true=>aK a x k
   |false=> .fail
  |none=> .fail
 |none=> .fail
def Ei(e:TypeId)(k:Value->M β):M β:=match eG P e with
 |some z=>dF e (cS z) k
 |none=> .fail
def Ej(e:TypeId)(x:Value)(k:Value->M β):M β:=match size? P e with
 |some _=>fp e x k
 |none=> .fail
def uG(a:Nat->Option (Nat×Nat)):List (Nat×Value)->Option (List (Nat×Nat×Value))
 |[]=>some []
 |q::r=>match a q.1 with
  |some p=>match uG a r with
   |some l=>some ((p.1,p.2,q.2)::l)
   |none=>none
  |none=>none
def Ek(t:TypeId)(ps:List (Nat×Value))(k:Value->M β):M β:=match eG P t with
 |some z=>match P.underlying t with
  |some d=>match uh P d with
   |some b=>aN (uG b ps) fun a=>dh (cS z) a k
   |none=> .fail
  |none=> .fail
 |none=> .fail
def lone:Nat->List (Nat×Value)->Option Value
 |1,[(0,v)]=>some v
 |_,_=>none
def El(t:TypeId)(len:Nat)(ps:List (Nat×Value))(k:Value->M β):M β:=match P.underlying t with
 |some (.slice e)=>match size? P e with
  |some a=>match eG P e with
   |some z=>match bq len 0&&ps.isEmpty with
    |true=>o6 e [] 0 [] k
    |false=>match bh 1 (len*a)&&bh (len*a) 65536&&bq (dU (cS z)) a with
     |true=>match lone len ps with
      |some v=>db e a v k
      |none=>aN (uG (fun i=>some (i*a,a)) ps) fun b=>o6 e (iL (cS z) len) len b k
     |false=> .fail
   |none=> .fail
  |none=> .fail
 |_=> .fail
def Em(t:TypeId)(l c:Value)(k:Value->M β):M β:=match P.underlying t with
 |some (.slice e)=>match P.info? e with
  |some a=>match eG P e with
   |some z=>match bh a.bytes 64&&bq (dU (cS z)) a.size&&bh 1 a.size with
    |true=>fQ e (cS z) l c k
    |false=> .fail
   |none=> .fail
  |none=> .fail
 |_=> .fail
def Eo(t:TypeId)(x:Value)(lo a c:Option Value)(k:Value->M β):M β:=match c with
 |some _=> .fail
 |none=>match P.underlying t with
  |some .string=>rU x lo a k
  |some (.slice e)=>match size? P e with
   |some b=>j5 e b x lo a k
   |none=> .fail
  |_=> .fail
def Ep(t:TypeId)(x:Value)(f:Nat)(k:Value->M β):M β:=match P.underlying t with
 |some (.struct b)=>match b[f]? with
  |some a=>match size? P a.type with
   |some (_+1)=>aQ a.offset x k
   |_=> .fail
  |none=> .fail
 |_=> .fail
def Er(t:TypeId)(x:Value)(f:Nat)(k:Value->M β):M β:=match P.underlying t with
 |some (.struct b)=>match b[f]? with
  |some a=>match gI P a.type with
   |some true=>match size? P a.type with
    |some m=>D9 a.offset m x k
    |none=> .fail
   |some false=>D8 a.offset x k
   |none=> .fail
  |none=> .fail
 |_=> .fail
def Es(t:TypeId)(x b:Value)(k:Value->M β):M β:=match P.underlying t with
 |some (.slice e)=>match size? P e with
  |some a=>match bq a 1 with
   |true=>aM x b k
   |false=>qA a x b k
  |none=> .fail
 |some (.array len e)=>match size? P e with
  |some a=>match bq a 1 with
   |true=>eW len x b k
   |false=>zE len a x b k
  |none=> .fail
 |_=> .fail
def Et(t:TypeId)(x a:Value)(k:Value->M β):M β:=match P.underlying t with
 |some .string=>jc x a k
 |some (.array len e)=>match gI P e with
  |some false=>match size? P e with
   |some b=>match bq b 1 with
    |true=>qB len x a k
    |false=> .fail
   |none=> .fail
  |_=> .fail
 |_=> .fail
def Eu(a:Array TypeId)(vs:List Value)(k:Value->M β):M β:=match a[0]? with
 |some t=>match vs with
  |[x]=>match P.underlying t with
   |some (.slice _)=>aY x k
   |some .string=>eI x k
   |_=> .fail
  |_=> .fail
 |none=> .fail
def Ew(vs:List Value)(k:Value->M β):M β:=match vs with
 |[x,y]=>jz x y k
 |[x,y,z,u,v,w]=>JY x y z u v w k
 |_=> .fail
def Ey(vs:List Value)(k:Value->M β):M β:=match vs with
 |[x,y]=>qz x y k
 |_=> .fail
def Ez(t:TypeId)(s x:Value)(k:Value->M β):M β:=match P.underlying t with
 |some (.slice e)=>match P.info? e with
  |some a=>match eG P e with
   |some z=>match bh a.bytes 64&&bq (dU (cS z)) a.size&&bh 1 a.size with
    |true=>cN e a.size s x k
    |false=> .fail
   |none=> .fail
  |none=> .fail
 |_=> .fail
def EA(t:TypeId)(d s:Value)(k:Value->M β):M β:=match P.underlying t with
 |some (.slice e)=>match size? P e with
  |some a=>zF a d s k
  |none=> .fail
 |_=> .fail
variable (rec:FuncId->Array Value->M Value)
def EB(s:Fr)(c:Call)(vs:List Value)(k:Value->M β):M β:=match c.callee with
 | .value (.func g)=>match kG P g with
   |true=>aj rec g vs k
   |false=> .fail
 | .value f=>aN (ba s f) fun a=>fm P rec a vs k
 | .builtin .append=>aN (uk P c.argTypes vs) fun q=>Ez P q.1 q.2.1 q.2.2 k
 | .builtin .copy=>aN (um c.argTypes vs) fun q=>EA P q.1 q.2.1 q.2.2 k
 | .builtin .len=>Eu P c.argTypes vs k
 | .builtin .min=>Ew vs k
 | .builtin .max=>Ey vs k
 |_=> .fail
def jd(s:Fr)(o:Oper)(k:Value->M β):M β:=
 match o.op with
 | .move x| .assign x=>aN (ba s x) k
 | .pick c a b=>aN (ba s c) fun c=>aN (ba s a) fun a=>aN (ba s b) fun b=>D7 c a b k
 | .alloc e=>Ei P e k
 | .box e x=>aN (ba s x) fun x=>Ej P e x k
 | .build t d=>jx s (d.toList.map (·.2)) fun h=>Ek P t ((d.toList.map (·.1)).zip h) k
 | .buildSlice t len d=>jx s (d.toList.map (·.2)) fun h=>El P t len ((d.toList.map (·.1)).zip h) k
 | .load t a=>aN (ba s a) fun a=>zI P t a k
 | .store t a x=>aN (ba s a) fun a=>aN (ba s x) fun x=>Eh P t a x k
 | .nilCheck x=>aN (ba s x) fun x=>ai x k
 | .binOp j t x y _=>aN (ba s x) fun x=>aN (ba s y) fun y=>Ee P j t x y k
 | .unOp j _ x=>aN (ba s x) fun x=>Ef j x k
 | .convert src q x=>aN (ba s x) fun x=>Eg P src q x k
 | .makeFunc r a b=>jx s a.toList fun a=>jx s b.toList fun b=>k (.func r a.toArray b.toArray)
 | .makeSlice t l c=>aN (ba s l) fun l=>aN (ba s c) fun c=>Em P t l c k
 | .slice t x n p m=>aN (ba s x) fun x=>oQ s n fun n=>oQ s p fun p=>oQ s m fun m=>Eo P t x n p m k
 | .fieldAddr t x f=>aN (ba s x) fun x=>Ep P t x f k
 | .field t x f=>aN (ba s x) fun x=>Er P t x f k
 | .indexAddr t x g=>aN (ba s x) fun x=>aN (ba s g) fun g=>Es P t x g k
 | .index t x g=>aN (ba s x) fun x=>aN (ba s g) fun g=>Et P t x g k
 | .extract t i=>aN (ba s t) fun t=>aW t i k
 | .call c=>jx s c.args.toList fun h=>EB P rec s c h k
 |_=> .fail
end
section
variable {β:Type} {P:Program} {t:TypeId} {x y a:Value} {k:Value->M β} {h:H} {n:Nat} {r:Out β}
theorem XU{P:Program}{p:Nat}(d:p<=4294967295):yK P .xor (.int .u32 (.ofNat p))=some (.int .u32 (.ofNat (Nat.sub 4294967295 p))):=by
 have e:Op.unary .xor (.int .u32 (.ofNat p))=pure (.int .u32 (IntKind.u32.wrap (cR 32 4294967295^^^cR 32 (fh p)).toNat)):=rfl
 have c:(cR 32 4294967295^^^cR 32 (fh p)).toNat=4294967295-p:=by
  have a:cR 32 4294967295=BitVec.allOnes 32:=jD;rw[a,BitVec.allOnes_xor,BitVec.toNat_not]
  have:(cR 32 (fh p)).toNat=p:=by show(cR 32 (p:Int)).toNat=p;rw[BitVec.ofInt_natCast,BitVec.toNat_ofNat];exact kB jO
  rw[this]
 have b:IntKind.u32.wrap ((4294967295-p:Nat):Int)=((4294967295-p:Nat):Int):=IntWalk.u32_in _ jO;unfold yK kL;rw[e,c,b];rfl
theorem XV{c:UnOp}(a:Ef c x k h n=some r):aN (yK P c x) k h n=some r:=by
 unfold Ef at a;split at a
 ·unfold dI at a;split at a
  ·exact dG rfl a
  ·cases a
 ·unfold zD at a;split at a
  ·rename_i j p;exact dG (v:= .int j (j.wrap (0-p))) rfl (by rw[<-jb,<-zb];exact a)
  ·cases a
 ·unfold D6 at a;split at a
  ·rename_i p;cases b:bh p 4294967295 with
   |false=>simp only[b]at a;cases a
   |true=>simp only[b]at a;exact dG (XU (eS b)) a
  ·cases a
 ·cases a
theorem EC{v:Value}(a:k v h n=some r):((inside (M.ret v)).bind k) h n=some r:=by obtain⟨c,d,b,L⟩:=r;exact bz (L1:=[]) rfl a
theorem XW(d:kQ x k h n=some r):((inside (lL x)).bind k) h n=some r:=by
 unfold kQ at d;split at d
 ·rename_i b a len c
  refine jF (m:=(gn b a len).bind fun e=>match j2 e with
  |some l=> .ret (.string ⟨⟨l⟩⟩)
  |none=> .fail) ?_ d
  have:=congrFun Xq (.slice (some ⟨b,a,none⟩) len c);exact this
 ·exact EC d
 ·cases d
theorem XX{e:TypeId}(a:uF e x k h n=some r):((inside (yL e x)).bind k) h n=some r:=by
 unfold uF at a;split at a
 ·rename_i l;cases b:bh (gN l) 1099511627776 with
  |false=>simp only[b]at a;cases a
  |true=>simp only[b]at a;refine jF ?_ a;have:=eS b;rw[nD]at this⊢;unfold yL oH;rw[j0];have c:(⟨⟨l⟩⟩:ByteArray).size=l.length:=rfl;simp only[c];rw[if_pos this];simp
 ·cases a
theorem XY{src b:TypeId}(a:Eg P src b x k h n=some r):yM P src b x k h n=some r:=by
 unfold Eg at a;unfold yM;cases g:qe (P.underlying src) (P.underlying b)with
 |some e=>
  simp only[g]at a⊢;cases c:lM P e with
  |true=>simp only[c]at a⊢;exact XW a
  |false=>simp only[c]at a;cases a
 |none=>
  simp only[g]at a⊢;cases i:rJ (P.underlying src) (P.underlying b)with
  |some e=>
   simp only[i]at a⊢;cases c:(lM P e&&size? P e==some 1)with
   |true=>simp only[c]at a⊢;exact XX a
   |false=>simp only[c]at a;cases a
  |none=>
   simp only[i]at a⊢;cases hd:P.underlying src with
   |none=>simp only[hd]at a;cases a
   |some m=>
    simp only[hd]at a;cases f:P.underlying b with
    |none=>simp only[f]at a;cases a
    |some l=>
     simp only[f]at a;cases l<;>try(cases a;done)
     ·cases x<;>try(cases a;done)
      ·rename_i d j p;refine dG (v:= .int d (d.wrap p)) ?_ (by rw[<-jb];exact a);unfold kL;simp only[scalar]
       have:gJ P (do pure (IG (<-Iy src b (.int j p))))=some (.int d (d.wrap p)):=by unfold Iy;simp only[bind_assoc];rw[nB hd,nB f];rfl
       rw[this]
     ·cases x<;>try(cases a;done)
      ·rename_i s;refine dG (v:= .string s) ?_ a;unfold kL;simp only[scalar]
       have:gJ P (do pure (IG (<-Iy src b (.string s))))=some (.string s):=by unfold Iy;simp only[bind_assoc];rw[nB hd,nB f];rfl
       rw[this]
theorem J2(c:zI P t a k h n=some r):((inside (gK P t a)).bind k) h n=some r:=by
 unfold zI at c;cases d:gI P t with
 |none=>simp only[d]at c;cases c
 |some b=>
  cases b with
  |false=>
   simp only[d]at c;unfold aG at c;split at c
   ·refine jF ?_ c;rw[zo];unfold gK;simp only[d]
   ·cases c
  |true=>
   simp only[d]at c;cases e:size? P t with
   |none=>simp only[e]at c;cases c
   |some f=>
    simp only[e]at c;unfold bO at c;split at c
    ·refine jF ?_ c;rw[mE];unfold gK;simp only[d,e]
    ·cases c
theorem XZ(c:Eh P t a x k h n=some r):((inside (mv P t a x)).bind k) h n=some r:=by
 unfold Eh at c;cases e:size? P t with
 |none=>simp only[e]at c;cases c
 |some p=>
  simp only[e]at c;cases j:gI P t with
  |none=>simp only[j]at c;cases c
  |some b=>
   cases b with
   |true=>
    simp only[j]at c;unfold bW at c;split at c
    ·split at c
     ·rename_i b d _ l;cases g:bq (dU l) p with
      |false=>simp only[g]at c;cases c
      |true=>simp only[g]at c;refine jF ?_ c;have:=iX g;rw[j1]at this;unfold mv;have i:(tZ ⟨l⟩).cells=⟨l⟩:=rfl;simp only[e,i];rw[if_pos (by simpa using this),wi]
     ·cases c
    ·cases c
   |false=>
    simp only[j]at c;cases m:bq p 1 with
    |false=>simp only[m]at c;cases c
    |true=>
     simp only[m]at c;have:=iX m;subst this;unfold aK at c;split at c
     ·rename_i b d;cases f:one x with
      |false=>simp only[f]at c;cases c
      |true=>
       simp only[f]at c;refine jF ?_ c;have i:x.cells=#[x]:=by cases x<;>first|rfl|(simp[one]at f)
       unfold mv;simp only[e,i];rw[zq];funext q n;show _=((dH b d [x]).bind fun _=>M.ret undef) q n;unfold dH dH M.bind;cases wr b d x q n with
       |none=>rfl
       |some o=>simp[M.ret]
     ·cases c
theorem X0{e:TypeId}(a:Ei P e k h n=some r):((inside (lJ P e)).bind k) h n=some r:=by
 unfold Ei at a;cases b:eG P e with
 |none=>simp only[b]at a;cases a
 |some z=>simp only[b]at a;refine jF ?_ a;unfold lJ;rw[b,j0,mG]
theorem X1{e:TypeId}(a:Ej P e x k h n=some r):((inside (lK P e x)).bind k) h n=some r:=by
 unfold Ej at a;cases b:size? P e with
 |none=>simp only[b]at a;cases a
 |some z=>simp only[b]at a;refine jF ?_ a;unfold lK;rw[b,j0,mG]
theorem ED{b:Nat->Option (Nat×Nat)}:∀(ps:List (Nat×Value)) (a:List (Nat×Nat×Value)) (cs:List Value),uG b ps=some a->ee cs a=qx b cs ps
 |[],a,cs,e=>by cases e;rfl
 |(i,v)::r,a,cs,e=>by
  unfold uG at e;unfold qx;simp only at e;cases f:b i with
  |none=>simp only[f]at e;cases e
  |some p=>
   obtain⟨c,g⟩:=p;simp only[f]at e⊢;cases d:uG b r with
   |none=>simp only[d]at e;cases e
   |some l=>
    simp only[d]at e;cases e;unfold ee;simp only;cases bq (dU (cS v)) g with
    |false=>rfl
    |true=>
     simp only[Bool.true_and];cases bh (eT c (dU (cS v))) (dU cs)with
     |false=>rfl
     |true=>exact ED r l _ d
theorem X2{ps:List (Nat×Value)}(a:Ek P t ps k h n=some r):((inside (kE P t ps)).bind k) h n=some r:=by
 unfold Ek at a;cases b:eG P t with
 |none=>simp only[b]at a;cases a
 |some z=>
  simp only[b]at a;cases c:P.underlying t with
  |none=>simp only[c]at a;cases a
  |some d=>
   simp only[c]at a;cases f:uh P d with
   |none=>simp only[f]at a;cases a
   |some g=>
    simp only[f]at a;obtain⟨l,m,a⟩:=bZ a;unfold dh at a;have e:=ED ps l (cS z) m;rw[mG,zu]at e;rw[mG,e]at a
    have:kE P t ps=match jR g z.cells ps with
     |some j=>M.ret (.agg j)
     |none=> .fail:=by
     unfold kE;simp only[b,c,f];rfl
    rw[this];cases i:jR g z.cells ps with
    |none=>rw[i]at a;cases a
    |some j=>rw[i]at a;exact EC a
end
section
variable {β:Type} {P:Program} {t:TypeId} {x y a:Value} {k:Value->M β} {h:H} {n:Nat} {r:Out β}
theorem EE:∀a b:List Value,oW a b=a++b
 |[],_=>rfl
 |v::a,b=>by show v::oW a b=_;rw[EE a b];rfl
theorem X3{z:Value}{n i:Nat}(b:0<z.cells.size)(h:i<n):(fy z n).toList[i]? =some (z.cells.toList[i %z.cells.size]'(by rw[C5];exact lH _ b)):=by unfold fy;have a:=lH i b;simp[h,a]
theorem J3(l:List Value):∀c,(iL l c).length=c*l.length
 |0=>by simp[iL]
 |c+1=>by unfold iL;rw[EE,List.length_append,J3 l c,ff,ow,Nat.add_comm]
theorem J4(l:List Value)(b:0<l.length):∀c i,i<c*l.length->(iL l c)[i]? =some (l[i %l.length]'(lH _ b))
 |0,i,h=>by simp at h
 |c+1,i,h=>by
  unfold iL;rw[EE];by_cases a:i<l.length
  ·rw[List.getElem?_append_left a,aC a];simp only[kB a]
  ·rw[List.getElem?_append_right jO,J4 l b c (i-l.length) (by rw[ff,ow]at h;omega)]
   have:(i-l.length)%l.length=i %l.length:=by conv=>rhs;rw[show i=i-l.length+l.length by omega,Nat.add_mod_right]
   simp only[this]
theorem EF{z:Value}(d:0<z.cells.size)(c:Nat):iL (cS z) c=(fy z (c*z.cells.size)).toList:=by
 rw[mG];have a:z.cells.toList.length=z.cells.size:=C5;apply List.ext_getElem?;intro i;by_cases b:i<c*z.cells.size
 ·rw[J4 _ jO c i (by rw[a];exact b),X3 d b];simp only[a]
 ·rw[jq (by rw[J3,a];omega),jq (by unfold fy;simp;omega)]
theorem J5:∀(l cs:List Value),l.length=cs.length->over l cs=l
 |[],[],_=>rfl
 |[],_::_,h=>by simp at h
 |_::_,[],h=>by simp at h
 |x::l,c::cs,h=>by show x::over l cs=_;rw[J5 l cs (by simpa using h)]
theorem X4{len:Nat}{ps:List (Nat×Value)}{v:Value}(e:lone len ps=some v):len=1∧ps=[(0,v)]:=by
 unfold lone at e;split at e
 ·cases e;exact⟨rfl,rfl⟩
 ·cases e
theorem X5{len:Nat}{ps:List (Nat×Value)}(a:El P t len ps k h n=some r):((inside (kF P t len ps)).bind k) h n=some r:=by
 unfold El at a;cases w:P.underlying t with
 |none=>simp only[w]at a;cases a
 |some u=>
  simp only[w]at a;cases u<;>try(cases a;done)
  rename_i e;simp only at a;cases x:size? P e with
  |none=>simp only[x]at a;cases a
  |some b=>
   simp only[x]at a;cases p:eG P e with
   |none=>simp only[p]at a;cases a
   |some z=>
    simp only[p]at a
    have G:kF P t len ps=if len=0&&ps.isEmpty then(cJ e []).bind fun id=> .ret (.slice (some ⟨id,0,none⟩) 0 0)else
     if 0<len*b&&len*b<=65536 then
      match jR (fun i=>some (i*b,b)) (fy z (len*b)) ps with
      |some A=>(cJ e A.toList).bind fun id=> .ret (.slice (some ⟨id,0,none⟩) len len)
      |none=> .fail
     else .fail:=by
     unfold kF;simp only[w,x,p];rfl
    rw[G];cases c:(bq len 0&&ps.isEmpty)with
    |true=>simp only[c]at a;rw[bE]at c;have:=iX c.1;rw[if_pos (by simp[this,c.2])];unfold o6 ee at a;simp only at a;refine jF ?_ a;rw[j0]
    |false=>
     simp only[c]at a
     have y:¬((decide (len=0)&&ps.isEmpty)=true):=by intro q;rw[bE,decide_eq_true_eq]at q;obtain⟨rfl,q⟩:=q;rw[q]at c;cases c
     rw[if_neg y];cases o:(bh 1 (len*b)&&bh (len*b) 65536&&bq (dU (cS z)) b)with
     |false=>simp only[o]at a;cases a
     |true=>
      simp only[o]at a;rw[bE,bE]at o;obtain⟨⟨m,C⟩,g⟩:=o;have m:=eS m;have C:=eS C;have g:=iX g;rw[j1,mG,C5]at g;rw[if_pos (by simp;omega)]
      have j:0<z.cells.size:=by rw[g];exact Nat.pos_of_ne_zero fun q=>by rw[q]at m;simp at m
      cases s:lone len ps with
      |some v=>
       simp only[s]at a;obtain⟨rfl,rfl⟩:=X4 s;unfold db at a;cases d:bq (dU (cS v)) b with
       |false=>simp only[d]at a;cases a
       |true=>
        simp only[d]at a;have d:=iX d;have f:=zu (fun i=>some (i*b,b)) [(0,v)] (fy z (1*b));have B:(fy z (1*b)).toList.length=b:=by unfold fy;simp
        have F:qx (fun i=>some (i*b,b)) (fy z (1*b)).toList [(0,v)]=some (cS v):=by unfold qx;simp only[Nat.zero_mul];rw[j1 (fy z (1*b)).toList,B,d];have J:bq b b=true:=rq b;have I:bh (eT 0 b) b=true:=jT (by show 0+b<=b;omega);simp only[J,I,Bool.and_self];unfold qx;rw[D1,<-D0,J5 _ _ (by rw[B,<-j1,d])]
        rw[F]at f;cases l:jR (fun i=>some (i*b,b)) (fy z (1*b)) [(0,v)]with
        |none=>rw[l]at f;cases f
        |some A=>rw[l]at f;simp only[Option.map_some,dm]at f;refine jF ?_ a;rw[j0,f]
      |none=>
       simp only[s]at a;obtain⟨D,E,a⟩:=bZ a;unfold o6 at a;have f:=ED ps D (iL (cS z) len) E;rw[EF j,g,zu]at f;rw[EF j,g,f]at a;cases l:jR (fun i=>some (i*b,b)) (fy z (len*b)) ps with
       |none=>rw[l]at a;cases a
       |some A=>rw[l]at a;refine jF ?_ a;rw[j0]
theorem X6{l c:Value}(a:Em P t l c k h n=some r):((inside (lO P t l c)).bind k) h n=some r:=by
 unfold Em at a;cases m:P.underlying t with
 |none=>simp only[m]at a;cases a
 |some u=>
  simp only[m]at a;cases u<;>try(cases a;done)
  rename_i e;simp only at a;cases o:P.info? e with
  |none=>simp only[o]at a;cases a
  |some i=>
   simp only[o]at a;cases j:eG P e with
   |none=>simp only[j]at a;cases a
   |some z=>
    simp only[j]at a;cases g:(bh i.bytes 64&&bq (dU (cS z)) i.size&&bh 1 i.size)with
    |false=>simp only[g]at a;cases a
    |true=>
     simp only[g]at a;rw[bE,bE]at g;obtain⟨⟨q,f⟩,p⟩:=g;have q:=eS q;have f:=iX f;have p:=eS p;rw[j1,mG,C5]at f;unfold fQ at a;split at a
     ·split at a
      ·rename_i w l _ v c;cases d:bh l c with
       |false=>simp only[d]at a;cases a
       |true=>
        simp only[d]at a;cases b:bh c 1099511627776 with
        |false=>simp only[b]at a;cases a
        |true=>simp only[b]at a;have d:=eS d;have b:=eS b;refine jF ?_ a;unfold lO;simp only[m,o,j];have q1:(0:Int)<=fh l:=fE _;have q2:fh l<=fh c:=Int.ofNat_le.2 d;have s:fh c<=1099511627776:=Int.ofNat_le.2 b;rw[if_pos (by simp[q1,q2,s,q,f,p];omega),j0,EF jO,f];rfl
      ·cases a
     ·cases a
theorem J6{P:Program}{t e:TypeId}{sz:Nat}(f:P.underlying t=some (.slice e))(g:size? P e=some sz)(a:Option Addr)(len cap:Nat)(lo d:Option Value):o7 sz a len cap lo d=ug P t (.slice a len cap) lo d none:=by
 unfold o7 ug;simp only[f,g];cases i:dE d len with
 |none=>simp
 |some b=>
  cases h:dE lo 0 with
  |none=>simp[dE]
  |some c=>simp[dE];rfl
theorem X7{lo j B:Option Value}(f:Eo P t x lo j B k h n=some r):ux P t x lo j B k h n=some r:=by
 unfold Eo at f;cases B with
 |some _=>cases f
 |none=>
  simp only at f;cases i:P.underlying t with
  |none=>simp only[i]at f;cases f
  |some u=>
   simp only[i]at f;cases u<;>try(cases f;done)
   ·unfold rU at f;cases x<;>try(cases f;done)
    rename_i s;obtain⟨⟨l⟩⟩:=s;simp only at f;cases E:o0 lo 0 with
    |none=>simp only[E]at f;cases f
    |some a=>
     simp only[E]at f;cases y:o0 j (gN l)with
     |none=>simp only[y]at f;cases f
     |some b=>
      simp only[y]at f;cases g:bh a b with
      |false=>simp only[g]at f;cases f
      |true=>
       simp only[g]at f;cases m:bh b (gN l)with
       |false=>simp only[m]at f;cases f
       |true=>
        simp only[m]at f
        have bn:∀{o:Option Value} {d a:Nat},o0 o d=some a->dE o d=some a:=by
         intro o d a h;unfold o0 at h;split at h
         ·exact h
         ·cases h;unfold dE;simp
         ·cases h
        have m:=eS m;rw[nD]at m y;have e:=XP i l lo j (bn E) (bn y) (eS g) m k;exact(congrFun (congrFun e h) n).trans f
   ·rename_i e;simp only at f;cases q:size? P e with
    |none=>simp only[q]at f;cases f
    |some J=>
     simp only[q]at f;unfold ux;have D:mw P t=false:=by unfold mw;rw[i]
     rw[D];simp only;cases x<;>try(cases f;done)
     rename_i G len cap;cases G with
     |none=>
      unfold j5 at f;simp only at f;cases g:o7 J none len cap lo j with
      |none=>simp only[g]at f;cases f
      |some v=>
       simp only[g]at f
       have F:rL P t (.slice none len cap) lo j none=M.ret v:=by unfold rL;simp only[isStr];unfold mu;simp only;rw[<-J6 i q,g];rfl
       rw[F];exact EC f
     |some G=>
      obtain⟨b,A,p⟩:=G;cases p with
      |some _=>cases f
      |none=>
       unfold j5 at f;simp only at f;obtain⟨c,m,X,L⟩:=r;rw[j3]at f;obtain⟨v,g,K,L1,L2,F,T,R⟩:=bind_some f;obtain⟨U,Q,O⟩:=rO F;obtain⟨w,Y,W,L3,Z,I,z,N⟩:=bind_some Q
       have:rL P t (.slice (some ⟨b,A,none⟩) len cap) lo j none h n=some ⟨v,g,K,U⟩:=by
        unfold rL;simp only[isStr];unfold mu;simp only;rw[qu]at I;rw[N];refine bz I ?_;cases C:bq w e with
        |false=>simp only[C]at z;cases z
        |true=>simp only[C]at z;have:=iX C;subst this;simp only[i,if_true];rw[<-J6 i q];exact z
       rw[R,O];exact bz (hH this) T
theorem X8{s:Value}(a:Ez P t s x k h n=some r):((inside (nj P t s x)).bind k) h n=some r:=by
 unfold Ez at a;cases f:P.underlying t with
 |none=>simp only[f]at a;cases a
 |some u=>
  simp only[f]at a;cases u<;>try(cases a;done)
  rename_i e;simp only at a;cases g:P.info? e with
  |none=>simp only[g]at a;cases a
  |some b=>
   simp only[g]at a;cases d:eG P e with
   |none=>simp only[d]at a;cases a
   |some z=>
    simp only[d]at a;cases c:(bh b.bytes 64&&bq (dU (cS z)) b.size&&bh 1 b.size)with
    |false=>simp only[c]at a;cases a
    |true=>
     simp only[c]at a;rw[bE,bE]at c;obtain⟨⟨l,i⟩,j⟩:=c;have l:=eS l;have i:=iX i;have j:=eS j;rw[j1,mG,C5]at i;refine jF ?_ a;unfold nj kP;simp only[f,g,d];cases fx x with
     |none=>rfl
     |some m=>
      simp only;have o:(decide (z.cells.size=b.size)&&decide (1<=b.size)&&decide (b.bytes<=64))=true:=by simp;omega
      rw[if_pos o];unfold ry uE lI;rw[qw,mE,wi,zs,qu,j0];rfl
theorem X9{d s:Value}(a:EA P t d s k h n=some r):((inside (nn P t d s)).bind k) h n=some r:=by
 unfold EA at a;cases b:P.underlying t with
 |none=>simp only[b]at a;cases a
 |some u=>
  simp only[b]at a;cases u<;>try(cases a;done)
  rename_i e;simp only at a;cases c:size? P e with
  |none=>simp only[c]at a;cases a
  |some f=>
   simp only[c]at a;refine jF ?_ a;unfold nn rV;simp only[b,c];rw[qw,wi];cases d<;>try rfl
   cases fx s<;>rfl
theorem X'{f:Nat}(a:Ep P t x f k h n=some r):aN (ui P t x f) k h n=some r:=by
 unfold Ep at a;cases c:P.underlying t with
 |none=>simp only[c]at a;cases a
 |some u=>
  simp only[c]at a;cases u<;>try(cases a;done)
  rename_i g;simp only at a;cases d:g[f]? with
  |none=>simp only[d]at a;cases a
  |some i=>
   simp only[d]at a;cases b:size? P i.type with
   |none=>simp only[b]at a;cases a
   |some e=>
    cases e with
    |zero=>simp only[b]at a;cases a
    |succ e=>
     simp only[b]at a;unfold aQ at a;split at a
     ·refine dG ?_ a;unfold ui;simp only[c,d,b];rw[if_neg jO];rfl
     ·cases a
theorem EG {l:List Value} {K:Nat} {β:Type} {k:Value->M β} {h:H} {n:Nat} {r:Out β} (a:(match qt l K with
 |some v=>k v
 |none=>M.fail) h n=some r):aN l[K]? k h n=some r:=by
 rw[zn]at a;cases e:l[K]? with
 |none=>rw[e]at a;cases a
 |some v=>rw[e]at a;exact a
theorem Ya{f:Nat}(a:Er P t x f k h n=some r):aN (qf P t x f) k h n=some r:=by
 unfold Er at a;cases d:P.underlying t with
 |none=>simp only[d]at a;cases a
 |some u=>
  simp only[d]at a;cases u<;>try(cases a;done)
  rename_i p;simp only at a;cases g:p[f]? with
  |none=>simp only[g]at a;cases a
  |some j=>
   simp only[g]at a;cases c:gI P j.type with
   |none=>simp only[c]at a;cases a
   |some b=>
    cases b with
    |false=>
     simp only[c]at a;unfold D8 at a;cases x<;>try(cases a;done)
     rename_i o;obtain⟨l⟩:=o;have:=EG a
     have e:qf P t (.agg ⟨l⟩) f=l[j.offset]? :=by unfold qf partOf;simp only[d,g,c];simp
     rw[e];exact this
    |true=>
     simp only[c]at a;cases i:size? P j.type with
     |none=>simp only[i]at a;cases a
     |some m=>
      simp only[i]at a;unfold D9 at a;cases x<;>try(cases a;done)
      rename_i o;obtain⟨l⟩:=o;refine dG ?_ a;unfold qf partOf;simp only[d,g,c,i];congr 2;apply Array.ext';simp[agy]
theorem Yb{p:Value}(a:Es P t x p k h n=some r):aN (oI P t x p) k h n=some r:=by
 unfold Es at a;cases l:P.underlying t with
 |none=>simp only[l]at a;cases a
 |some u=>
  simp only[l]at a;have one:∀{g:Nat} (i:Nat),bq g 1=true->i*g=i:=fun i h=>by rw[iX h,yu]
  cases u<;>try(cases a;done)
  case array m e=>
   simp only at a;cases f:size? P e with
   |none=>simp only[f]at a;cases a
   |some g=>
    simp only[f]at a;cases j:bq g 1 with
    |true=>
     simp only[j]at a;unfold eW at a;split at a
     ·split at a
      ·rename_i b d _ o i;cases c:bh (dT i) m with
       |false=>simp only[c]at a;cases a
       |true=>simp only[c]at a;refine dG ?_ a;have:=eS c;unfold oI;simp only[l,f];rw[if_pos ⟨fE _,Int.ofNat_lt.2 this⟩];show some (C7 (some ⟨b,d+i*g,none⟩))=_;rw[one i j];rfl
      ·cases a
     ·cases a
    |false=>
     simp only[j]at a;unfold zE at a;split at a
     ·split at a
      ·rename_i b d _ o i;cases c:bh (dT i) m with
       |false=>simp only[c]at a;cases a
       |true=>simp only[c]at a;refine dG ?_ a;have:=eS c;unfold oI;simp only[l,f];rw[if_pos ⟨fE _,Int.ofNat_lt.2 this⟩];rfl
      ·cases a
     ·cases a
  case slice e=>
   simp only at a;cases f:size? P e with
   |none=>simp only[f]at a;cases a
   |some g=>
    simp only[f]at a;cases j:bq g 1 with
    |true=>
     simp only[j]at a;unfold aM at a;split at a
     ·split at a
      ·rename_i b d m _ _ o i;cases c:bh (dT i) m with
       |false=>simp only[c]at a;cases a
       |true=>simp only[c]at a;refine dG ?_ a;have:=eS c;unfold oI;simp only[l,f];rw[if_pos ⟨fE _,Int.ofNat_lt.2 this⟩];show some (C7 (some ⟨b,d+i*g,none⟩))=_;rw[one i j];rfl
      ·cases a
     ·cases a
    |false=>
     simp only[j]at a;unfold qA at a;split at a
     ·split at a
      ·rename_i b d m _ _ o i;cases c:bh (dT i) m with
       |false=>simp only[c]at a;cases a
       |true=>simp only[c]at a;refine dG ?_ a;have:=eS c;unfold oI;simp only[l,f];rw[if_pos ⟨fE _,Int.ofNat_lt.2 this⟩];rfl
      ·cases a
     ·cases a
theorem Yc{w:Value}(a:Et P t x w k h n=some r):aN (rM P t x w) k h n=some r:=by
 unfold Et at a;cases d:P.underlying t with
 |none=>simp only[d]at a;cases a
 |some u=>
  simp only[d]at a;cases u<;>try(cases a;done)
  case string=>
   unfold jc at a;cases x<;>try(cases a;done)
   rename_i s;obtain⟨⟨l⟩⟩:=s;simp only at a;split at a
   ·rename_i o i;cases v:oU l i with
    |none=>simp only[v]at a;cases a
    |some c=>simp only[v]at a;obtain⟨j,z⟩:=DQ _ _ _ v;have:=XO (P:=P) d l o (i:Int) jO jO;rw[Int.toNat_natCast,z]at this;exact dG this a
   ·cases a
  case array m e=>
   simp only at a;cases g:gI P e with
   |none=>simp only[g]at a;cases a
   |some b=>
    cases b with
    |true=>simp only[g]at a;cases a
    |false=>
     simp only[g]at a;cases q:size? P e with
     |none=>simp only[q]at a;cases a
     |some y=>
      simp only[q]at a;cases j:bq y 1 with
      |false=>simp only[j]at a;cases a
      |true=>
       simp only[j]at a;have:=iX j;subst this;unfold qB at a;cases x<;>try(cases a;done)
       rename_i A;obtain⟨l⟩:=A;simp only at a;split at a
       ·rename_i o i;cases f:bh (dT i) m with
        |false=>simp only[f]at a;cases a
        |true=>
         simp only[f]at a;have a:=EG a;have f:=eS f;have p:mw P t=false:=by unfold mw;rw[d]
         have e:rM P t (.agg ⟨l⟩) (.int o (.ofNat i))=l[i]? :=by unfold rM;rw[p];simp only;unfold yP;simp only[isStr];unfold uj;simp only[d,q];rw[if_pos ⟨fE _,Int.ofNat_lt.2 f⟩];unfold partOf;simp only[g,yu];simp
         rw[e];exact a
       ·cases a
theorem Yd{b:Array TypeId}{vs:List Value}(a:Eu P b vs k h n=some r):aN (vZ P b vs) k h n=some r:=by
 unfold Eu at a;cases d:b[0]? with
 |none=>simp only[d]at a;cases a
 |some t=>
  simp only[d]at a;split at a
  ·rename_i x;cases c:P.underlying t with
   |none=>simp only[c]at a;cases a
   |some u=>
    simp only[c]at a;cases u<;>try(cases a;done)
    ·unfold eI at a;cases x<;>try(cases a;done)
     rename_i s;obtain⟨⟨l⟩⟩:=s;refine dG (v:= .int .i64 (l.length:Nat)) ?_ (by rw[<-nD];exact a);unfold vZ;simp only[d,c];rfl
    ·unfold aY at a;cases x<;>try(cases a;done)
     refine dG ?_ a;unfold vZ;simp only[d,c];rfl
  ·cases a
theorem Ye{vs:List Value}(c:Ew vs k h n=some r):aN (min2 vs) k h n=some r:=by
 unfold Ew at c;split at c
 ·rename_i x y;unfold jz at c;split at c
  ·split at c
   ·rename_i a p _ b q;refine dG (v:= .int a (if q<p then q else p)) rfl ?_;rw[oS]at c;by_cases e:q<p
    ·rw[if_pos e];simp only[e,decide_true]at c;exact c
    ·rw[if_neg e];simp only[e,decide_false]at c;exact c
   ·cases c
  ·cases c
 ·rename_i x y z u v w;unfold JY at c
  have d:∀{x y:Value} {k:Value->M β},jz x y k h n=some r->∃a p b q,x= .int a p∧y= .int b q∧k (.int a (rN p q)) h n=some r:=by
   intro x y k c;unfold jz at c;split at c
   ·split at c
    ·rename_i a p _ b q;refine⟨a,p,b,q,rfl,rfl, ?_⟩;rw[oS]at c;unfold rN;by_cases e:q<p
     ·rw[if_pos e];simp only[e,decide_true]at c;exact c
     ·rw[if_neg e];simp only[e,decide_false]at c;exact c
    ·cases c
   ·cases c
  obtain⟨a,p,b,q,rfl,rfl,l⟩:=d c;obtain⟨P,G,K,q2,t,rfl,j⟩:=d l;obtain⟨O,F,b3,C,s,rfl,i⟩:=d j;obtain⟨N,E,J,B,o,rfl,g⟩:=d i;obtain⟨L,D,I,A,m,rfl,f⟩:=d g;cases t;cases s;cases o;cases m;exact dG rfl f
 ·cases c
theorem Yf{vs:List Value}(c:Ey vs k h n=some r):aN (max2 vs) k h n=some r:=by
 unfold Ey at c;split at c
 ·rename_i x y;unfold qz at c;split at c
  ·split at c
   ·rename_i a p _ b q;refine dG (v:= .int a (if p<q then q else p)) rfl ?_;rw[oS]at c;by_cases e:p<q
    ·rw[if_pos e];simp only[e,decide_true]at c;exact c
    ·rw[if_neg e];simp only[e,decide_false]at c;exact c
   ·cases c
  ·cases c
 ·cases c
end
section
variable {α β:Type} {h:H} {n:Nat} {r:Out β}
theorem eL{o:Option α}{k a:α->M β}(c:∀v,k v h n=some r->a v h n=some r)(b:aN o k h n=some r):aN o a h n=some r:=by
 cases o with
 |none=>cases b
 |some v=>exact c v b
theorem zJ{s:Fr}:∀{l:List Operand} {k c:List Value->M β},(∀v,k v h n=some r->c v h n=some r)->jx s l k h n=some r->jx s l c h n=some r
 |[],_,_,b,a=>b _ a
 |_::_,_,_,b,a=>eL (fun _ q=>zJ (fun _ q=>b _ q) q) a
theorem EH{s:Fr}{x:Option Operand}{k a:Option Value->M β}(c:∀v,k v h n=some r->a v h n=some r)(b:oQ s x k h n=some r):oQ s x a h n=some r:=by
 cases x with
 |none=>exact c _ b
 |some x=>exact eL (fun _ q=>c _ q) b
variable {P:Program} {rec:FuncId->Array Value->M Value}
theorem Yg{s:Fr}{c:Call}{vs:List Value}{k:Value->M β}(a:EB P rec s c vs k h n=some r):call2 P rec s c vs k h n=some r:=by
 unfold EB at a;unfold call2;cases e:c.callee with
 |value f=>
  simp only[e]at a⊢;cases f with
  |func g=>
   simp only at a;cases i:kG P g with
   |false=>simp only[i]at a;cases a
   |true=>
    simp only[i]at a;show fm P rec (.func (.func g) #[] #[]) vs k h n=some r;unfold fm
    show(match kG P g with
     |true=>(inside (rec g ((#[]:Array Value).toList++vs++(#[]:Array Value).toList).toArray)).bind k
     |false=>M.fail) h n=some r
    rw[i];refine jF ?_ a;simp
  |_=>exact a
 |builtin b=>
  simp only[e]at a⊢;cases b<;>try(cases a;done)
  case append=>exact eL (fun q d=>X8 d) a
  case copy=>exact eL (fun q d=>X9 d) a
  case len=>exact Yd a
  case max=>exact Yf a
  case min=>exact Ye a
 |invoke _ _=>simp only[e]at a;cases a
theorem Yh{s:Fr}{o:Oper}{k:Value->M β}(g:jd P rec s o k h n=some r):yQ P rec s o k h n=some r:=by
 obtain⟨u,j,D,pos,after,guard⟩:=o;unfold jd at g;unfold yQ;cases j with
 |move x=>exact g
 |assign x=>exact g
 |pick c a b=>
  refine eL (fun A=>eL fun C=>eL fun B q=> ?_) g;unfold D7 at q;split at q
  ·exact dG rfl q
  ·exact dG rfl q
  ·cases q
 |alloc e=>exact X0 g
 |box e x=>exact eL (fun _ q=>X1 q) g
 |build t m=>exact zJ (fun _ q=>X2 q) g
 |buildSlice t len m=>exact zJ (fun _ q=>X5 q) g
 |load t a=>exact eL (fun _ q=>J2 q) g
 |store t a x=>exact eL (fun _=>eL fun _ q=>XZ q) g
 |nilCheck x=>
  refine eL (fun v q=> ?_) g;unfold ai at q;split at q
  ·exact dG rfl q
  ·exact dG rfl q
  ·cases q
 |binOp j t x y z=>exact eL (fun _=>eL fun _ q=>XT q) g
 |unOp j t x=>exact eL (fun _ q=>XV q) g
 |convert src d x=>exact eL (fun _ q=>XY q) g
 |makeFunc I a b=>exact g
 |makeSlice t l c=>exact eL (fun _=>eL fun _ q=>X6 q) g
 |slice t x F G E=>exact eL (fun _=>EH fun _=>EH fun _=>EH fun _ q=>X7 q) g
 |fieldAddr t x f=>exact eL (fun _ q=>X' q) g
 |field t x f=>exact eL (fun _ q=>Ya q) g
 |indexAddr t x p=>exact eL (fun _=>eL fun _ q=>Yb q) g
 |index t x p=>exact eL (fun _=>eL fun _ q=>Yc q) g
 |extract t i=>
  refine eL (fun v q=> ?_) g;unfold aW at q;cases v<;>try(cases q;done)
  rename_i w;obtain⟨l⟩:=w;have e:qg (.tuple ⟨l⟩) i=l[i]? :=by simp[qg]
  rw[e];exact EG q
 |call c=>exact zJ (fun _ q=>Yg q) g
 |_=>cases g
end
end Go.Proofs.YtcehhgppfahbkaaGreatDoor.Ev
namespace Go.Proofs.YtcehhgppfahbkaaGreatDoor.Ev
open Go
noncomputable section
variable (P:Program) (rec:FuncId->Array Value->M Value)
def dV(ops:Array Oper)(a:Option Tmp):List Nat->List Nat
 |[]=>[]
 |j::r=>match (ops[j]?).bind (·.dst),a with
  |some t,some d=>match bq t d with
   |true=>dV ops a r
   |false=>j::dV ops a r
  |_,_=>j::dV ops a r
def rW(j:Nat):List Nat->Bool
 |[]=>false
 |i::r=>match bq i j with
  |true=>true
  |false=>rW j r
def mI{c:Type}(ops:Array Oper):List Oper->Nat->List Nat->Fr->(Fr->M c)->M c
 |[],_,_,s,k=>k s
 |o::r,i,a,s,k=>match o.guard with
  |none=>jd P rec s o fun v=>mI ops r (i+1) (dV ops o.dst a) (fk s o.dst v) k
  |some (j,b)=>match rW j a with
   |true=>mI ops r (i+1) (i::dV ops o.dst a) (fk s o.dst undef) k
   |false=>match (ops[j]?).bind (·.dst)with
    |none=> .fail
    |some t=>aN (s.at_ t) fun g=>
     aH g (match b with
      |true=>jd P rec ((t,.bool true)::s) o fun v=>mI ops r (i+1) (dV ops o.dst a) (fk ((t,.bool true)::s) o.dst v) k
      |false=>mI ops r (i+1) (i::dV ops o.dst a) (fk ((t,.bool true)::s) o.dst undef) k)
      (match b with
        |true=>mI ops r (i+1) (i::dV ops o.dst a) (fk ((t,.bool false)::s) o.dst undef) k
        |false=>jd P rec ((t,.bool false)::s) o fun v=>mI ops r (i+1) (dV ops o.dst a) (fk ((t,.bool false)::s) o.dst v) k)
abbrev Hint:=List Nat×List Nat×List (Nat×List Nat)
def J7:List (Nat×List Nat)->Nat->Option (List Nat)
 |[],_=>none
 |q::r,i=>match bq q.1 i with
  |true=>some q.2
  |false=>J7 r i
def Hint.out(G:Hint)(id:Nat)(s:Fr):Fr:=match J7 G.2.2 id with
 |some l=>s.ar l
 |none=>s
def zK{a:Type}(b:Nat)(k:Tk->M a):M a:=match b with
 |0=>k ⟨0,0,[]⟩
 |_=>(bk (M.ret undef)).bind fun x=>k x.2
def ic{e:Type}(ops:Array Oper):List Oper->Nat->List Nat->Fr->List Tk->(Fr->List Tk->M e)->M e
 |[],_,_,s,a,k=>k s a.reverse
 |o::r,i,b,s,a,k=>match o.guard with
  |none=>match kind o.op with
   |0=>jd P rec s o fun v=>ic ops r (i+1) (dV ops o.dst b) (fk s o.dst v) (⟨0,0,[]⟩::a) k
   |_=>(bk (jd P rec s o M.ret)).bind fun x=>ic ops r (i+1) (dV ops o.dst b) (fk s o.dst x.1) (x.2::a) k
  |some (j,c)=>match rW j b with
   |true=>zK (kind o.op) fun d=>ic ops r (i+1) (i::dV ops o.dst b) (fk s o.dst undef) (d::a) k
   |false=>match (ops[j]?).bind (·.dst)with
    |none=> .fail
    |some t=>aN (s.at_ t) fun g=>
     aH g (match c with
      |true=>match kind o.op with
       |0=>jd P rec ((t,.bool true)::s) o fun v=>ic ops r (i+1) (dV ops o.dst b) (fk ((t,.bool true)::s) o.dst v) (⟨0,0,[]⟩::a) k
       |_=>(bk (jd P rec ((t,.bool true)::s) o M.ret)).bind fun x=>ic ops r (i+1) (dV ops o.dst b) (fk ((t,.bool true)::s) o.dst x.1) (x.2::a) k
      |false=>zK (kind o.op) fun d=>ic ops r (i+1) (i::dV ops o.dst b) (fk ((t,.bool true)::s) o.dst undef) (d::a) k)
      (match c with
        |true=>zK (kind o.op) fun d=>ic ops r (i+1) (i::dV ops o.dst b) (fk ((t,.bool false)::s) o.dst undef) (d::a) k
        |false=>match kind o.op with
         |0=>jd P rec ((t,.bool false)::s) o fun v=>ic ops r (i+1) (dV ops o.dst b) (fk ((t,.bool false)::s) o.dst v) (⟨0,0,[]⟩::a) k
         |_=>(bk (jd P rec ((t,.bool false)::s) o M.ret)).bind fun x=>ic ops r (i+1) (dV ops o.dst b) (fk ((t,.bool false)::s) o.dst x.1) (x.2::a) k)
def zL(a:List Nat)(ops:Array Oper)(j:Nat)(b:Oper)(d:Tk)(k:Nat)(ok:Oper)(c:Tk):Bool:=
 (a.getD k 0).testBit j||(!(nq ops b ok)&&(match fits (kind b.op) (kind ok.op)with
   |true=>true
   |false=> !(fo d c)))
def zM(a:List Nat)(ops:Array Oper)(j:Nat)(c:Oper)(b:Tk):Nat->List Oper->List Tk->Bool
 |k,ok::r,d::t=>zL a ops j c b k ok d&&zM a ops j c b (k+1) r t
 |_,_,_=>true
def uH(a:List Nat)(ops:Array Oper):Nat->List Oper->List Tk->Bool
 |j,c::r,b::t=>zM a ops j c b (j+1) r t&&uH a ops (j+1) r t
 |_,_,_=>true
def lV{a:Type}(b:Bool)(m:M a):M a:=match b with
 |true=>m
 |false=> .fail
def EI{c:Type}(ops:Array Oper)(a:Bool)(s:Fr)(k:Fr->M c):M c:=
 match !a||yT ops with
 |true=>mI P rec ops ops.toList 0 [] s k
 |false=>match qh ops with
  |true=>ic P rec ops ops.toList 0 [] s [] fun d b=>lV (uH (jX ops.toList []) ops 0 ops.toList b) (k d)
  |false=> .fail
def J8{b:Type}(c:Fr->(Ex->Fr->M b)->M b)(k:Ex->Fr->M b):Ex->Fr->M b
 | .normal,a=>c a k
 | .ret,a=>k .ret a
 | .exit i,a=>k (.exit i) a
def zN{b:Type}(id:Nat)(k:Ex->Fr->M b):Ex->Fr->M b
 | .normal,a=>k .normal a
 | .ret,a=>k .ret a
 | .exit i,a=>match bq i id with
   |true=>k .normal a
   |false=>k (.exit i) a
def J9{c:Type}(a:Fr->M c)(k:Ex->Fr->M c):Ex->Fr->M c
 | .normal,b=>a b
 | .ret,b=>k .ret b
 | .exit i,b=>k (.exit i) b
def bc{b:Type}(a:Fr->(Ex->Fr->M b)->M b)(keys:List Nat):Nat->Fr->(Ex->Fr->M b)->M b
 |0,_,_=> .fail
 |f+1,s,k=>a s (J9 (fun c=>bc a keys f (c.ar keys) k) k)
def mJ{h:Type}(G:Hint)(lf:Nat):Code->Fr->(Ex->Fr->M h)->M h
 | .skip,s,k=>k .normal s
 | .label _,s,k=>k .normal s
 | .region _ f e,s,k=>EI P rec f e s fun d=>k .normal (d.ar G.1)
 | .seq a b,s,k=>mJ G lf a s (J8 (fun d g=>mJ G lf b d g) k)
 | .cond c a b,s,k=>aN (ba s c) fun v=>aH v (mJ G lf a s k) (mJ G lf b s k)
 | .block id c,s,k=>mJ G lf c s (zN id k)
 | .loop c,s,k=>bc (fun d g=>mJ G lf c d g) s.keys lf s k
 | .exit id,s,k=>k (.exit id) (G.out id s)
 | .ret,s,k=>k .ret (s.ar G.2.1)
 |_,_,_=> .fail
def qD:Code->List Bool->Code
 | .seq a b,t::p=>match t with
   |true=>qD b p
   |false=>qD a p
 | .cond _ a b,t::p=>match t with
   |true=>qD b p
   |false=>qD a p
 | .block _ c,_::p=>qD c p
 | .loop c,_::p=>qD c p
 |c,_=>c
def rX{d:Type}(G:Hint)(lf:Nat):Code->List Bool->(Ex->Fr->M d)->Ex->Fr->M d
 | .seq a b,t::p,k=>match t with
   |true=>rX G lf b p k
   |false=>rX G lf a p (J8 (fun e f=>mJ P rec G lf b e f) k)
 | .cond _ a b,t::p,k=>match t with
   |true=>rX G lf b p k
   |false=>rX G lf a p k
 | .block id c,_::p,k=>rX G lf c p (zN id k)
 |_,_,k=>k
def uI{c:Type}(s:Fr):List ResultVar->(List Value->M c)->M c
 |[],k=>k []
 | .tmp t::r,k=>aN (s.at_ t) fun v=>uI s r fun b=>k (v::b)
 | .cell a t::r,k=>aN (s.at_ a) fun a=>zI P t a fun v=>uI s r fun b=>k (v::b)
def ae(vs:List Value):M Value:= .ret (match vs with|[v]=>v|_=> .tuple vs.toArray)
def J'(a:List ResultVar):Ex->Fr->M Value
 | .normal,s=>uI P s a ae
 | .ret,s=>uI P s a ae
 | .exit _,_=> .fail
def zO:Nat->List Value->Fr
 |_,[]=>[]
 |i,v::r=>(i,v)::zO (i+1) r
end
def EJ(P:Program)(f:FuncId):Code:=match P.funcs[f]? with
 |some a=>match a.body with
  |some c=>c
  |none=> .skip
 |none=> .skip
def Yi(P:Program)(f:FuncId):List ResultVar:=match P.funcs[f]? with
 |some a=>a.results.toList
 |none=>[]
noncomputable def aw (P:Program) (gt:Nat->Hint) (lf:Nat) (rec:FuncId->Array Value->M Value) (f:FuncId) (args:Array Value):M Value:=match P.funcs[f]? with
 |some a=>match a.body with
  |some c=>match decide (args.size<=a.ntmps)&&decide (a.ntmps<1000)with
   |true=>inside (mJ P rec (gt f) lf c (zO 0 args.toList) (J' P a.results.toList))
   |false=> .fail
  |none=> .fail
 |none=> .fail
noncomputable def rY (kn:List FuncId) (P:Program) (gt:Nat->Hint) (lf:Nat):Nat->FuncId->Array Value->M Value
 |0,_,_=> .fail
 |d+1,f,args=>match kn.contains f with
  |true=>match ny f with
   |some k=>qm f k args.toList
   |none=>match decide (args.size=0)&&qk P f with
    |true=>(kH P KG).bind fun _=> .ret (.bool true)
    |false=> .fail
  |false=>aw P gt lf (rY kn P gt lf d) f args
noncomputable def ah (P:Program) (gt:Nat->Hint) (lf:Nat):Nat->FuncId->Array Value->M Value:=rY KN P gt lf
def j6(nt:Nat):Code->Bool
 | .region _ e _=>e.all fun o=>match o.dst with
   |some d=>d<nt&&d<1023
   |none=>true
 | .seq a b=>j6 nt a&&j6 nt b
 | .cond _ a b=>j6 nt a&&j6 nt b
 | .block _ c| .loop c=>j6 nt c
 |_=>true
def lW(P:Program):Bool:=P.funcs.all fun a=>match a.body with
 |some c=>j6 a.ntmps c
 |none=>true
theorem Sub.nil(a:S):Sub [] a:=fun t v h=>by cases h
theorem EK(d:Nat)(v:Value)(s:Fr)(t:Nat):Fr.at_ ((d,v)::s) t=if d=t then some v else s.at_ t:=by
 show(match bq d t with|true=>some v|false=>s.at_ t)=_;by_cases e:d=t
 ·subst e;rw[rq,if_pos rfl]
 ·have:bq d t=false:=Bool.eq_false_iff.2 fun q=>e (iX q);rw[this,if_neg e]
theorem Sub.cons{s:Fr}{b:S}(c:Sub s b){d:Nat}{v:Value}(h:b.get d=v):Sub ((d,v)::s) b:=fun t u a=>by
 rw[EK]at a;by_cases e:d=t
 ·rw[if_pos e]at a;cases a;rw[<-e];exact h
 ·rw[if_neg e]at a;exact c t u a
theorem Sub.put{s:Fr}{c:S}(g:Sub s c){nt:Nat}{a:Option Tmp}(hd:∀d,a=some d->d<nt∧d<1023)(v:Value):∃f,dO nt c a v=some f∧Sub (fk s a v) f:=by
 cases a with
 |none=>exact⟨c,rfl,g⟩
 |some d=>
  obtain⟨i,h⟩:=hd d rfl;refine⟨c.put d v,by unfold dO;simp[i,h],fun t u b=> ?_⟩;rw[S.nA _ _ _ _ h];have b:Fr.at_ ((d,v)::s) t=some u:=b;rw[EK]at b;by_cases e:d=t
  ·rw[if_pos e]at b;rw[if_pos e.symm];cases b;rfl
  ·rw[if_neg e]at b;rw[if_neg (fun q=>e q.symm)];exact g t u b
theorem EL(s:Fr):∀(G:List Nat) (t:Nat) (v:Value),(s.ar G).at_ t=some v->s.at_ t=some v
 |[],t,v,h=>by cases h
 |g::G,t,v,h=>by
  unfold Fr.ar at h;split at h
  ·rename_i u a;rw[EK]at h;by_cases e:g=t
   ·rw[if_pos e]at h;cases h;rw[<-e];exact a
   ·rw[if_neg e]at h;exact EL s G t v h
  ·exact EL s G t v h
theorem Sub.ar{s:Fr}{a:S}(b:Sub s a)(G:List Nat):Sub (s.ar G) a:=fun t v h=>b t v (EL s G t v h)
theorem Sub.out{s:Fr}{a:S}(b:Sub s a)(G:Hint)(id:Nat):Sub (G.out id s) a:=by
 unfold Hint.out;split
 ·exact b.ar _
 ·exact b
section
variable {P:Program} {kn:List FuncId} {rec:FuncId->Array Value->M Value} (ef:∀f args h n v h1 n1 L,rec f args h n=some ⟨v,h1,n1,L⟩->dn (fun fuel=>cq P kn fuel f args) h n v h1 n1 L)
include ef
theorem EM{ops:Array Oper}{o:Oper}{s:Fr}{c:S}{d:Type}{k:Value->M d}{h:H}{n:Nat}{r:Out d}(e:eE o (fj ops c)=true)(f:Sub s c)(g:jd P rec s o k h n=some r):
 ∃v b a L1 L2,dn (fun fuel=>inside (ey P (cq P kn fuel) ops o c)) h n v b a L1∧k v b a=some ⟨r.val,r.h,r.n,L2⟩∧r.log=L1++L2:=by
 obtain⟨v,b,a,L1,L2,l,j,i⟩:=Xd ef f (Yh g);refine⟨v,b,a,L1,L2,l.map fun fuel=> ?_,j,i⟩;rw[JH e];rfl
theorem Ka{ops:Array Oper}{o:Oper}{a:S}{h:H}{n:Nat}(b:eE o (fj ops a)=false):dn (fun fuel=>inside (ey P (cq P kn fuel) ops o a)) h n undef h n []:=by refine⟨0,fun fuel _=> ?_⟩;show inside (ey P (cq P kn fuel) ops o a) h n=_;unfold ey;rw[if_neg (by rw[b];exact Iz)];rfl
theorem EN{b:Type}{v:Value}{x y:M b}{h:H}{n:Nat}{r:Out b}(a:aH v x y h n=some r):(v= .bool true∧x h n=some r)∨(v= .bool false∧y h n=some r):=by
 unfold aH at a;split at a
 ·exact .inl ⟨rfl,a⟩
 ·exact .inr ⟨rfl,a⟩
 ·cases a
theorem wu {nt:Nat} {ops:Array Oper} {o:Oper} {l:List Oper} {c g:S} {h i h2:H} {n a n2:Nat} {v:Value} {L1 L2:List En} {y:S×List Tk} (e:dn (fun fuel=>inside (ey P (cq P kn fuel) ops o c)) h n v i a L1)
 (j:dO nt c o.dst v=some g) (d:dn (fun fuel=>gh P (cq P kn fuel) nt ops l g) i a y h2 n2 L2):dn (fun fuel=>gh P (cq P kn fuel) nt ops (o::l) c) h n (y.1,⟨n,a,L1⟩::y.2) h2 n2 (L1++L2):=by
 obtain⟨q,e⟩:=e;obtain⟨p,d⟩:=d;refine⟨max q p,fun fuel r=> ?_⟩;have m:=yX (e fuel jO);have k:=d fuel jO;show gh P (cq P kn fuel) nt ops (o::l) c h n=_;unfold gh;refine bz m ?_;simp only[j,rP,my];have:=bz (f:=fun y:S×List Tk=>M.ret (y.1,(⟨n,a,L1⟩:Tk)::y.2)) k (h2:=h2) (n2:=n2) (L2:=[]) (b:=(y.1,(⟨n,a,L1⟩:Tk)::y.2)) rfl;rw[bV]at this;exact this
theorem EO{j:Nat}:∀{l:List Nat},rW j l=true->j∈l
 |[],h=>by cases h
 |i::r,h=>by
  unfold rW at h;cases a:bq i j with
  |true=>rw[iX a];simp
  |false=>rw[a]at h;exact eU _ (EO h)
def Idle(ops:Array Oper)(b:S)(a:List Nat):Prop:=∀j∈a,fj ops b j=none
theorem Idle.put{ops:Array Oper}{l f:S}{nt:Nat}{a:Option Tmp}{v:Value}:∀{g:List Nat},Idle ops l g->dO nt l a v=some f->Idle ops f (dV ops a g)
 |[],_,_=>fun j hj=>by cases hj
 |i::r,h,b=>by
  have m:Idle ops f (dV ops a r):=Idle.put (fun j hj=>h j (eU _ hj)) b;have k:=h i jS
  have get:∀t,a≠some t->f.get t=l.get t:=by
   intro t c;cases a with
   |none=>simp only[dO,dm]at b;rw[b]
   |some d=>
    unfold dO at b;simp only at b;split at b
    ·rename_i hd;simp only[bE,decide_eq_true_eq]at hd;cases b;rw[S.nA _ _ _ _ hd.2,if_neg (fun e=>c (by rw[e]))]
    ·cases b
  have ar:(∀t,(ops[i]?).bind (·.dst)=some t->a≠some t)->Idle ops f (i::dV ops a r):=by
   intro o j hj;rcases ox.1 hj with rfl|hj
   ·unfold fj at k⊢;cases c:(ops[j]?).bind (·.dst)with
    |none=>rfl
    |some t=>rw[c]at k;simp only at k⊢;rw[get t (o t c)];exact k
   ·exact m j hj
  unfold dV;cases c:(ops[i]?).bind (·.dst)with
  |none=>exact ar fun t h=>by rw[c]at h;cases h
  |some t=>
   cases a with
   |none=>exact ar fun t h e=>by cases e
   |some d=>
    simp only;cases n:bq t d with
    |true=>exact m
    |false=>refine ar fun p h=> ?_;rw[c]at h;cases h;rintro⟨⟩;rw[rq]at n;cases n
theorem Idle.add{ops:Array Oper}{f e:S}{nt:Nat}{o:Oper}{i:Nat}(g:ops[i]? =some o){b:List Nat}(h:Idle ops e b)(a:dO nt f o.dst undef=some e):Idle ops e (i::b):=by
 intro j hj;rcases ox.1 hj with rfl|hj
 ·unfold fj;rw[g];simp only[Option.bind_some];cases hd:o.dst with
  |none=>rfl
  |some d=>
   rw[hd]at a;unfold dO at a;simp only at a;split at a
   ·rename_i c;simp only[bE,decide_eq_true_eq]at c;cases a;simp only;rw[S.nA _ _ _ _ c.2,if_pos rfl];rfl
   ·cases a
 ·exact h j hj
theorem Yj{β:Type}{nt:Nat}{ops:Array Oper}:∀(l:List Oper) (_:∀o∈l,∀d,o.dst=some d->d<nt∧d<1023) (i:Nat) (_:∀q o,l[q]? =some o->ops[i+q]? =some o) (e:List Nat) (s:Fr) (c:S) (_:Idle ops c e) (k:Fr->M β) (h:H) (n:Nat) (r:Out β),Sub s c->mI P rec ops l i e s k h n=some r->
 ∃f y z x L1 L2,dn (fun fuel=>gh P (cq P kn fuel) nt ops l c) h n y z x L1∧Sub f y.1∧k f z x=some ⟨r.val,r.h,r.n,L2⟩∧r.log=L1++L2:=by
 intro l
 induction l with
 |nil=>intro _ i _ e s c _ k h n r m a;exact⟨s,(c,[]),h,n,[],r.log,dn.of rfl,m,a,rfl⟩
 |cons o l ih=>
  intro hd i C e s c w k h n r m a;have K:=hd o jS;have J:∀o∈l,∀d,o.dst=some d->d<nt∧d<1023:=fun F ho=>hd F (by simp[ho]);have U:ops[i]? =some o:=by have:=C 0 o rfl;rwa[iA]at this
  have I:∀q F,l[q]? =some F->ops[i+1+q]? =some F:=fun q F hq=>by have:=C (q+1) F (by simpa using hq);rwa[show i+1+q=i+(q+1) by omega]
  have Z:∀(s:Fr),Sub s c->eE o (fj ops c)=true->jd P rec s o (fun v=>mI P rec ops l (i+1) (dV ops o.dst e) (fk s o.dst v) k) h n=some r->
   ∃f y z x L1 L2,dn (fun fuel=>gh P (cq P kn fuel) nt ops (o::l) c) h n y z x L1∧Sub f y.1∧k f z x=some ⟨r.val,r.h,r.n,L2⟩∧r.log=L1++L2:=by
   intro s m R a;obtain⟨v,z,x,L1,L2,e1,e2,e3⟩:=EM ef R m a;obtain⟨O,G,E⟩:=m.put K v;obtain⟨f,y,Y,Q,L3,L4,e4,e5,e6,N⟩:=ih J _ I _ _ O (Idle.put ef w G) k z x _ E e2;exact⟨f,_,Y,Q,_,L4,wu ef e1 G e4,e5,e6,by rw[e3];simp only at N;rw[N,b9]⟩
  have p:∀(s:Fr),Sub s c->eE o (fj ops c)=false->mI P rec ops l (i+1) (i::dV ops o.dst e) (fk s o.dst undef) k h n=some r->
   ∃f y z x L1 L2,dn (fun fuel=>gh P (cq P kn fuel) nt ops (o::l) c) h n y z x L1∧Sub f y.1∧k f z x=some ⟨r.val,r.h,r.n,L2⟩∧r.log=L1++L2:=by
   intro s m R a;obtain⟨O,G,E⟩:=m.put K undef;obtain⟨f,y,Y,Q,L3,L4,e4,e5,e6,N⟩:=ih J _ I _ _ O (Idle.add ef U (Idle.put ef w G) G) k h n _ E a;exact⟨f,_,Y,Q,_,L4,wu ef (Ka ef R) G e4,e5,e6,N⟩
  unfold mI at a;cases D:o.guard with
  |none=>rw[D]at a;exact Z s m (by unfold eE;rw[D]) a
  |some jw=>
   obtain⟨j,B⟩:=jw;rw[D]at a;simp only at a;cases X:rW j e with
   |true=>rw[X]at a;refine p s m ?_ a;unfold eE;rw[D];simp only;rw[w j (EO ef X)];rfl
   |false=>
   rw[X]at a;simp only at a;cases T:(ops[j]?).bind (·.dst)with
   |none=>rw[T]at a;cases a
   |some t=>
    rw[T]at a;simp only at a;obtain⟨g,W,a⟩:=bZ a;have jZ:=m t g W
    have L:∀b,g= .bool b->fj ops c j=some b:=fun b A=>by unfold fj;rw[T];simp only[jZ,A]
    rcases EN ef a with ⟨A,a⟩|⟨A,a⟩
    ·have u:Sub ((t,.bool true)::s) c:=m.cons (by rw[jZ,A]);cases B with
     |true=>exact Z _ u (by unfold eE;rw[D];simp only;rw[L _ A];rfl) a
     |false=>exact p _ u (by unfold eE;rw[D];simp only;rw[L _ A];rfl) a
    ·have u:Sub ((t,.bool false)::s) c:=m.cons (by rw[jZ,A]);cases B with
     |true=>exact p _ u (by unfold eE;rw[D];simp only;rw[L _ A];rfl) a
     |false=>exact Z _ u (by unfold eE;rw[D];simp only;rw[L _ A];rfl) a
end
theorem zP{d:Type}{a c:d}{h h2:H}{n n2:Nat}{L:List En}(b:(M.ret a) h n=some ⟨c,h2,n2,L⟩):c=a∧h2=h∧n2=n∧L=[]:=by simp only[M.ret,dm,Out.mk.injEq]at b;exact⟨b.1.symm,b.2.1.symm,b.2.2.1.symm,b.2.2.2.symm⟩
def Match:List Oper->List Tk->List Tk->Prop
 |[],[],[]=>True
 |o::l,c::a,t::b=>(kind o.op=0∨c=t)∧Match l a b
 |_,_,_=>False
theorem Match.get:∀{l:List Oper} {a ts:List Tk},Match l a ts->∀(i:Nat) (o:Oper) (t:Tk),l[i]? =some o->ts[i]? =some t->∃b,a[i]? =some b∧(kind o.op=0∨b=t)
 |[],[],[],_,i,o,t,h,_=>by simp at h
 |o::l,b::a,t::ts,h,0,e,u,d,c=>by simp at d c;subst d c;exact⟨b,rfl,h.1⟩
 |o::l,b::a,t::ts,h,i+1,e,u,d,c=>by simpa using Match.get h.2 i e u (by simpa using d) (by simpa using c)
theorem Yk{ops:Array Oper}{a:List Nat}{j:Nat}{e:Oper}{d:Tk}:∀(l:List Oper) (ts:List Tk) (k:Nat),zM a ops j e d k l ts=true->∀i o t,l[i]? =some o->ts[i]? =some t->zL a ops j e d (k+i) o t=true:=by
 intro l
 induction l with
 |nil=>intro ts k _ i o t h;simp at h
 |cons o l m=>
  intro ts k h i g f c b;cases ts with
  |nil=>simp at b
  |cons t ts=>
   unfold zM at h;simp only[bE]at h;cases i with
   |zero=>simp at c b;subst c b;exact h.1
   |succ i=>rw[show k+(i+1)=k+1+i by omega];exact m ts (k+1) h.2 i g f (by simpa using c) (by simpa using b)
theorem Yl{ops:Array Oper}{e:List Nat}:∀(l:List Oper) (ts:List Tk) (j:Nat),uH e ops j l ts=true->∀p q d b c a,p<q->l[p]? =some d->l[q]? =some b->ts[p]? =some c->ts[q]? =some a->zL e ops (j+p) d c (j+q) b a=true:=by
 intro l
 induction l with
 |nil=>intro ts j _ p q d b c a _ h;simp at h
 |cons o l m=>
  intro ts j h p q d b c a n g k f i;cases ts with
  |nil=>simp at f
  |cons t ts=>
   unfold uH at h;simp only[bE]at h;cases q with
   |zero=>omega
   |succ q=>
    cases p with
    |zero=>simp at g f;subst g f;have:=Yk l ts (j+1) h.1 q b a (by simpa using k) (by simpa using i);rw[show j+(q+1)=j+1+q by omega,iA];exact this
    |succ p=>have:=m ts (j+1) h.2 p q d b c a jO (by simpa using g) (by simpa using k) (by simpa using f) (by simpa using i);rw[show j+(q+1)=j+1+q by omega,show j+(p+1)=j+1+p by omega];exact this
theorem Ym{i j:Nat}(h:fits i j=false):i≠0∧j≠0:=by unfold fits at h;simp only[yl,beq_eq_false_iff_ne]at h;exact⟨h.1.1.1.1,h.1.1.1.2⟩
theorem Yn{ops:Array Oper}{a ts:List Tk}{n m:Nat}(x:mz n ops.toList ts m)(i:Match ops.toList a ts)(h:uH (jX ops.toList []) ops 0 ops.toList a=true):nu ops (jX ops.toList []) (tagged 0 ts)=true:=by
 refine JI ops.toList ts n m 0 x (JJ ops) fun p q e d t s f l k v u=> ?_;obtain⟨c,z,g2⟩:=i.get p e t l v;obtain⟨b,y,g4⟩:=i.get q d s k u;have:=Yl _ _ 0 h p q e d c b f l k z y;unfold zL at this;simp only[ml,bE,IA]at this;rcases this with g|⟨w,g⟩
 ·exact .inl g
 ·refine .inr ⟨?_,w⟩;cases j:fits (kind e.op) (kind d.op)with
  |true=>exact .inl rfl
  |false=>
   rw[j]at g;obtain⟨r,o⟩:=Ym j;rcases g2 with g2|g2
   ·exact absurd g2 r
   ·rcases g4 with g4|g4
    ·exact absurd g4 o
    ·subst g2 g4;exact .inr (by rw[<-D3];simpa using g)
section
variable {P:Program} {kn:List FuncId} {rec:FuncId->Array Value->M Value} (ef:∀f args h n v h1 n1 L,rec f args h n=some ⟨v,h1,n1,L⟩->dn (fun fuel=>cq P kn fuel f args) h n v h1 n1 L)
include ef
theorem Yo{β:Type}{nt:Nat}{ops:Array Oper}:∀(l:List Oper) (_:∀o∈l,∀d,o.dst=some d->d<nt∧d<1023) (i:Nat) (_:∀q o,l[q]? =some o->ops[i+q]? =some o) (f:List Nat) (s:Fr) (m:S) (_:Idle ops m f) (e:List Tk) (k:Fr->List Tk->M β) (h:H) (n:Nat) (r:Out β),Sub s m->ic P rec ops l i f s e k h n=some r->
 ∃p y ts A z L1 L2,dn (fun fuel=>gh P (cq P kn fuel) nt ops l m) h n y A z L1∧Sub p y.1∧k p (e.reverse++ts) A z=some ⟨r.val,r.h,r.n,L2⟩∧r.log=L1++L2∧Match l ts y.2:=by
 intro l
 induction l with
 |nil=>intro _ i _ f s m _ e k h n r u a;exact⟨s,(m,[]),[],h,n,[],r.log,dn.of rfl,u,by rw[bV];exact a,rfl,trivial⟩
 |cons o l ih=>
  intro hd i I f s m w e k h n r u a;have Q:=hd o jS;have O:∀o∈l,∀d,o.dst=some d->d<nt∧d<1023:=fun T ho=>hd T (by simp[ho]);have u1:ops[i]? =some o:=by have:=I 0 o rfl;rwa[iA]at this
  have N:∀q T,l[q]? =some T->ops[i+1+q]? =some T:=fun q T hq=>by have:=I (q+1) T (by simpa using hq);rwa[show i+1+q=i+(q+1) by omega]
  have go:∀(s:Fr),Sub s m->eE o (fj ops m)=true->
   (match kind o.op with
     |0=>jd P rec s o fun v=>ic P rec ops l (i+1) (dV ops o.dst f) (fk s o.dst v) (⟨0,0,[]⟩::e) k
     |_=>(bk (jd P rec s o M.ret)).bind fun x=>ic P rec ops l (i+1) (dV ops o.dst f) (fk s o.dst x.1) (x.2::e) k) h n=some r->
   ∃p y ts A z L1 L2,dn (fun fuel=>gh P (cq P kn fuel) nt ops (o::l) m) h n y A z L1∧Sub p y.1∧k p (e.reverse++ts) A z=some ⟨r.val,r.h,r.n,L2⟩∧r.log=L1++L2∧Match (o::l) ts y.2:=by
   intro s u hw a;by_cases hk:kind o.op=0
   ·simp only[hk]at a;obtain⟨v,A,z,L1,L2,e1,e2,U⟩:=EM ef hw u a;obtain⟨W,E,C⟩:=u.put Q v;obtain⟨p,y,ts,Y,X,L3,L4,e4,e5,L,K,Z⟩:=ih O _ N _ _ W (Idle.put ef w E) _ k A z _ C e2;refine⟨p,_,(⟨0,0,[]⟩:Tk)::ts,Y,X,_,L4,wu ef e1 E e4,e5, ?_,by rw[U];simp only at K;rw[K,b9], ?_⟩
    ·rw[VF,b9]at L;exact L
    ·exact⟨.inl hk,Z⟩
   ·have a:((bk (jd P rec s o M.ret)).bind fun x=>ic P rec ops l (i+1) (dV ops o.dst f) (fk s o.dst x.1) (x.2::e) k) h n=some r:=by
     revert a;generalize kind o.op=kk at hk;intro a
     match kk,hk with
     |kk+1,_=>exact a
    obtain⟨c,hc,nc,Lc⟩:=r;obtain⟨x,A,z,L1,L2,e1,e2,U⟩:=bind_some a;obtain⟨g1,g2⟩:=DM e1;obtain⟨v,u4,u3,u6,u5,q1,q2,q3⟩:=EM ef hw u g1;obtain⟨rfl,rfl,rfl,rfl⟩:=zP q2;simp only[bV]at q3;subst q3;obtain⟨W,E,C⟩:=u.put Q x.1;obtain⟨p,y,ts,Y,X,L3,L4,e4,e5,L,K,Z⟩:=ih O _ N _ _ W (Idle.put ef w E) _ k _ _ _ C e2;refine⟨p,_,x.2::ts,Y,X,_,L4,wu ef q1 E e4,e5, ?_,by rw[U];simp only at K;rw[K,b9], ?_⟩
    ·rw[VF,b9]at L;exact L
    ·exact⟨.inr g2,Z⟩
  have B:∀(s:Fr),Sub s m->eE o (fj ops m)=false->(zK (kind o.op) fun R=>ic P rec ops l (i+1) (i::dV ops o.dst f) (fk s o.dst undef) (R::e) k) h n=some r->
   ∃p y ts A z L1 L2,dn (fun fuel=>gh P (cq P kn fuel) nt ops (o::l) m) h n y A z L1∧Sub p y.1∧k p (e.reverse++ts) A z=some ⟨r.val,r.h,r.n,L2⟩∧r.log=L1++L2∧Match (o::l) ts y.2:=by
   intro s u hw a;obtain⟨c,hc,nc,Lc⟩:=r
   have a:∃R,(kind o.op=0∨R=⟨n,n,[]⟩)∧ic P rec ops l (i+1) (i::dV ops o.dst f) (fk s o.dst undef) (R::e) k h n=some ⟨c,hc,nc,Lc⟩:=by
    revert a;generalize kind o.op=kk;intro a
    match kk,a with
    |0,a=>exact⟨_,.inl rfl,a⟩
    |kk+1,a=>have a:((bk (M.ret undef)).bind fun x=>ic P rec ops l (i+1) (i::dV ops o.dst f) (fk s o.dst undef) (x.2::e) k) h n=some ⟨c,hc,nc,Lc⟩:=a;obtain⟨x,A,z,L1,L2,e1,e2,U⟩:=bind_some a;obtain⟨g1,g2⟩:=DM e1;obtain⟨-,rfl,rfl,rfl⟩:=zP g1;refine⟨x.2,.inr g2, ?_⟩;simp only[p7]at U;rw[U];exact e2
   obtain⟨R,u0,a⟩:=a;obtain⟨W,E,C⟩:=u.put Q undef;obtain⟨p,y,ts,Y,X,L3,L4,e4,e5,L,K,Z⟩:=ih O _ N _ _ W (Idle.add ef u1 (Idle.put ef w E) E) _ k _ _ _ C a;refine⟨p,_,R::ts,Y,X,_,L4,wu ef (Ka ef hw) E e4,e5, ?_,by simp only at K;rw[K];simp, ?_⟩
   ·rw[VF,b9]at L;exact L
   ·exact⟨u0,Z⟩
  unfold ic at a;cases J:o.guard with
  |none=>rw[J]at a;exact go s u (by unfold eE;rw[J]) a
  |some jw=>
   obtain⟨j,G⟩:=jw;rw[J]at a;simp only at a;cases hI:rW j f with
   |true=>rw[hI]at a;refine B s u ?_ a;unfold eE;rw[J];simp only;rw[w j (EO ef hI)];rfl
   |false=>
   rw[hI]at a;simp only at a;cases ht:(ops[j]?).bind (·.dst)with
   |none=>rw[ht]at a;cases a
   |some t=>
    rw[ht]at a;simp only at a;obtain⟨g,u2,a⟩:=bZ a;have jZ:=u t g u2
    have hy:∀b,g= .bool b->fj ops m j=some b:=fun b F=>by unfold fj;rw[ht];simp only[jZ,F]
    rcases EN ef a with ⟨F,a⟩|⟨F,a⟩
    ·have D:Sub ((t,.bool true)::s) m:=u.cons (by rw[jZ,F]);cases G with
     |true=>exact go _ D (by unfold eE;rw[J];simp only;rw[hy _ F];rfl) a
     |false=>exact B _ D (by unfold eE;rw[J];simp only;rw[hy _ F];rfl) a
    ·have D:Sub ((t,.bool false)::s) m:=u.cons (by rw[jZ,F]);cases G with
     |true=>exact B _ D (by unfold eE;rw[J];simp only;rw[hy _ F];rfl) a
     |false=>exact go _ D (by unfold eE;rw[J];simp only;rw[hy _ F];rfl) a
theorem Yp{I:Type}{nt:Nat}{ops:Array Oper}{c:Bool}(hd:∀o∈ops.toList,∀d,o.dst=some d->d<nt∧d<1023){s:Fr}{t:S}{k:Fr->M I}{h:H}{n:Nat}{r:Out I}(K:Sub s t)(p:EI P rec ops c s k h n=some r):
 ∃w J l i L1 L2,dn (fun fuel=>nv P (cq P kn fuel) nt ops c t) h n J l i L1∧Sub w J∧k w l i=some ⟨r.val,r.h,r.n,L2⟩∧r.log=L1++L2:=by
 have A:∀{y:S×List Tk} {l:H} {i:Nat} {L1:List En},dn (fun fuel=>gh P (cq P kn fuel) nt ops ops.toList t) h n y l i L1->(mz n ops.toList y.2 i->(!c||(qh ops&&nu ops (jX ops.toList []) (tagged 0 y.2)))=true)->dn (fun fuel=>nv P (cq P kn fuel) nt ops c t) h n y.1 l i L1:=by
  intro y l i L1 z u
  have u:=u (by
   obtain⟨B,e⟩:=z
   exact Xj (fun f a=>Loc.cq P kn B f a) _ _ _ _ _ _ _ _ (e B (ag _)))
  obtain⟨B,e⟩:=z;refine⟨B,fun fuel N=> ?_⟩;show nv P (cq P kn fuel) nt ops c t h n=_;unfold nv;have:=bz (f:=fun y:S×List Tk=>if(!c||(qh ops&&nu ops (jX ops.toList []) (tagged 0 y.2)))=true then M.ret y.1 else .fail) (e fuel N) (L2:=[]) (b:=y.1) (h2:=l) (n2:=i) (by rw[if_pos u];rfl);rw[bV]at this;exact this
 unfold EI at p;cases m:(!c||yT ops)with
 |true=>
  simp only[m]at p;obtain⟨w,y,l,i,L1,L2,z,G,v,F⟩:=Yj ef ops.toList hd 0 (fun q o C=>by rw[fD,<-CY];exact C) [] s t (fun j D=>by cases D) k h n r K p;refine⟨w,y.1,l,i,L1,L2,A z fun x=> ?_,G,v,F⟩;simp only[ml,IA]at m;rcases m with g|g
  ·rw[g];rfl
  ·obtain⟨Q,O⟩:=Xn x g;rw[Q,O];simp
 |false=>
  simp only[m]at p;cases E:qh ops with
  |false=>simp only[E]at p;cases p
  |true=>
   simp only[E]at p;obtain⟨w,y,L,l,i,L1,L2,z,G,v,F,R⟩:=Yo ef ops.toList hd 0 (fun q o C=>by rw[fD,<-CY];exact C) [] s t (fun j D=>by cases D) [] _ h n r K p;simp only[List.reverse_nil,p7]at v;cases u:uH (jX ops.toList []) ops 0 ops.toList L with
   |false=>rw[u]at v;cases v
   |true=>rw[u]at v;exact⟨w,y.1,l,i,L1,L2,A z fun x=>by rw[E,Yn x R u];simp,G,v,F⟩
def Yq(kn:List FuncId)(P:Program)(nt:Nat)(c:Code)(d:S)(h:H)(n:Nat)(x:Ex×S)(g:H)(e:Nat)(L:List En):Prop:=∃b,∀a,b<=a->∀f,b<=f->de P (cq P kn a) nt f c d h n=some ⟨x,g,e,L⟩
def EP(kn:List FuncId)(P:Program)(nt:Nat)(c:Code)(l:S){a:Type}(k:Ex->Fr->M a)(h:H)(n:Nat)(r:Out a):Prop:=
 ∃e d b g f j i,Yq kn P nt c l h n (e,b) g f j∧Sub d b∧k e d g f=some ⟨r.val,r.h,r.n,i⟩∧r.log=j++i
theorem Yr{T:Type}{nt:Nat}{G:Hint}{lf:Nat}:∀(c:Code) (_:j6 nt c=true) (s:Fr) (g:S) (k:Ex->Fr->M T) (h:H) (n:Nat) (r:Out T),Sub s g->mJ P rec G lf c s k h n=some r->EP kn P nt c g k h n r:=by
 intro c
 induction c with
 |skip=>intro _ s g k h n r t j;exact⟨.normal,s,g,h,n,[],r.log,⟨1,fun m _ f q=>by match f,q with|f+1,_=>rfl⟩,t,j,rfl⟩
 |label l=>intro _ s g k h n r t j;exact⟨.normal,s,g,h,n,[],r.log,⟨1,fun m _ f q=>by match f,q with|f+1,_=>rfl⟩,t,j,rfl⟩
 |region id u4 u3=>
  intro hd s g k h n r t j;unfold j6 at hd;rw[rk]at hd
  obtain⟨C,z,x,w,u,L2,⟨A,e1⟩,e2,e3,e4⟩:=Yp ef (fun o ho d u1=>by
   have:=hd o (by simpa using ho);rw[u1]at this
   simpa using this) t j
  refine⟨.normal,C.ar G.1,z,x,w,u,L2,⟨A+1,fun m p f q=> ?_⟩,e2.ar G.1,e3,e4⟩
  match f,q with
  |f+1,_=>unfold de;have:=bz (f:=fun g=>M.ret (Ex.normal,g)) (e1 m jO) (L2:=[]) (h2:=x) (n2:=w) (b:=(Ex.normal,z)) rfl;rw[bV]at this;exact this
 |seq a b K J=>
  intro hd s g k h n r t j;unfold j6 at hd;simp only[bE]at hd;obtain⟨e,C,z,x,w,u,L2,⟨A,B⟩,E,y,D⟩:=K hd.1 s g _ h n r t j;cases e with
  |normal=>
   obtain⟨e,W,U,h3,Y,L3,L4,⟨f1,q1⟩,q2,X,N⟩:=J hd.2 C z k x w _ E y;refine⟨e,W,U,h3,Y,u++L3,L4,⟨max A f1+1,fun m p f q=> ?_⟩,q2,X,by rw[D];simp only at N;rw[N,b9]⟩
   match f,q with
   |f+1,_=>unfold de;exact bz (B m jO f jO) (q1 m jO f jO)
  |ret=>
   refine⟨.ret,C,z,x,w,u,L2,⟨A+1,fun m p f q=> ?_⟩,E,y,D⟩
   match f,q with
   |f+1,_=>unfold de;rw[<-bV u];exact bz (B m jO f jO) rfl
  |exit i=>
   refine⟨.exit i,C,z,x,w,u,L2,⟨A+1,fun m p f q=> ?_⟩,E,y,D⟩
   match f,q with
   |f+1,_=>unfold de;rw[<-bV u];exact bz (B m jO f jO) rfl
 |cond c a b K J=>
  intro hd s g k h n r t j;unfold j6 at hd;simp only[bE]at hd;obtain⟨v,hv,j⟩:=bZ j;have hc:=t.ba hv;rcases EN ef j with ⟨rfl,j⟩|⟨rfl,j⟩
  ·obtain⟨e,C,z,x,w,u,L2,⟨A,B⟩,E,y,D⟩:=K hd.1 s g k h n r t j;refine⟨e,C,z,x,w,u,L2,⟨A+1,fun m p f q=> ?_⟩,E,y,D⟩
   match f,q with
   |f+1,_=>unfold de;simp only[hc,if_true];exact B m jO f jO
  ·obtain⟨e,C,z,x,w,u,L2,⟨A,B⟩,E,y,D⟩:=J hd.2 s g k h n r t j;refine⟨e,C,z,x,w,u,L2,⟨A+1,fun m p f q=> ?_⟩,E,y,D⟩
   match f,q with
   |f+1,_=>unfold de;simp only[hc,lF,if_false];exact B m jO f jO
 |block id c ih=>
  intro hd s g k h n r t j;unfold j6 at hd;obtain⟨e,C,z,x,w,u,L2,⟨A,B⟩,E,y,D⟩:=ih hd s g _ h n r t j
  have I:∀R:Ex,(∀m,A<=m->∀f,A<=f->de P (cq P kn m) nt (f+1) (.block id c) g h n=some ⟨(R,z),x,w,u⟩)->k R C x w=some ⟨r.val,r.h,r.n,L2⟩->EP kn P nt (.block id c) g k h n r:=by
   intro R O hk;refine⟨R,C,z,x,w,u,L2,⟨A+1,fun m p f q=> ?_⟩,E,hk,D⟩
   match f,q with
   |f+1,_=>exact O m jO f jO
  cases e with
  |normal=>exact I .normal (fun m p f q=>by unfold de;rw[<-bV u];exact bz (B m p f q) rfl) y
  |ret=>exact I .ret (fun m p f q=>by unfold de;rw[<-bV u];exact bz (B m p f q) rfl) y
  |exit i=>
   cases Q:bq i id with
   |true=>have L:i=id:=iX Q;simp only[zN,Q]at y;exact I .normal (fun m p f q=>by unfold de;rw[<-bV u];exact bz (B m p f q) (by simp only[if_pos L];rfl)) y
   |false=>
    have L:¬i=id:=by rintro rfl;rw[rq]at Q;cases Q
    simp only[zN,Q]at y;exact I (.exit i) (fun m p f q=>by unfold de;rw[<-bV u];exact bz (B m p f q) (by simp only[if_neg L];rfl)) y
 |loop c ih=>
  intro hd s g k h n r t j;have u2:j6 nt c=true:=by unfold j6 at hd;exact hd
  have Z:∀(F:Nat) (keys:List Nat) (s:Fr) (g:S) (h:H) (n:Nat) (r:Out T),Sub s g->bc (fun g k1=>mJ P rec G lf c g k1) keys F s k h n=some r->EP kn P nt (.loop c) g k h n r:=by
   intro F
   induction F with
   |zero=>intro keys s g h n r _ j;cases j
   |succ F u0=>
    intro keys s g h n r t j;unfold bc at j;obtain⟨e,C,z,x,w,u,L2,⟨A,B⟩,E,y,D⟩:=ih u2 s g _ h n r t j;cases e with
    |normal=>
     obtain⟨e,W,U,h3,Y,L3,L4,⟨f1,q1⟩,q2,X,N⟩:=u0 keys _ z x w _ (E.ar keys) y;refine⟨e,W,U,h3,Y,u++L3,L4,⟨max A f1+1,fun m p f q=> ?_⟩,q2,X,by rw[D];simp only at N;rw[N,b9]⟩
     match f,q with
     |f+1,_=>unfold de;exact bz (B m jO f jO) (q1 m jO f jO)
    |ret=>
     refine⟨.ret,C,z,x,w,u,L2,⟨A+1,fun m p f q=> ?_⟩,E,y,D⟩
     match f,q with
     |f+1,_=>unfold de;rw[<-bV u];exact bz (B m jO f jO) rfl
    |exit i=>
     refine⟨.exit i,C,z,x,w,u,L2,⟨A+1,fun m p f q=> ?_⟩,E,y,D⟩
     match f,q with
     |f+1,_=>unfold de;rw[<-bV u];exact bz (B m jO f jO) rfl
  exact Z lf s.keys s g h n r t j
 |exit id=>intro _ s g k h n r t j;exact⟨.exit id,_,g,h,n,[],r.log,⟨1,fun m _ f q=>by match f,q with|f+1,_=>rfl⟩,t.out G id,j,rfl⟩
 |ret=>intro _ s g k h n r t j;exact⟨.ret,_,g,h,n,[],r.log,⟨1,fun m _ f q=>by match f,q with|f+1,_=>rfl⟩,t.ar _,j,rfl⟩
 |rangeFunc _ _ _ _=>intro _ s g k h n r t j;cases j
 |scope _=>intro _ s g k h n r t j;cases j
 |goto _=>intro _ s g k h n r t j;cases j
 |refuse _=>intro _ s g k h n r t j;cases j
end
theorem Ys{P:Program}{s:Fr}{m:S}(p:Sub s m):∀(l:List ResultVar) (k:List Value->M Value) (h:H) (n:Nat) (r:Out Value),uI P s l k h n=some r->∃vs e d L1 L2,gL P m l h n=some ⟨vs,e,d,L1⟩∧k vs e d=some ⟨r.val,r.h,r.n,L2⟩∧r.log=L1++L2:=by
 intro l
 induction l with
 |nil=>intro k h n r b;exact⟨[],h,n,[],r.log,rfl,b,rfl⟩
 |cons x l o=>
  intro k h n r b;cases x with
  |tmp t=>obtain⟨v,g,b⟩:=bZ b;obtain⟨vs,e,d,L1,L2,f,j,i⟩:=o _ h n r b;refine⟨v::vs,e,d,L1,L2, ?_,j,i⟩;unfold gL;rw[p t v g,<-bV L1];exact bz f rfl
  |cell a t=>obtain⟨v,g,b⟩:=bZ b;obtain⟨c,G,F,I⟩:=r;obtain⟨u,e,d,L1,L2,f,j,i⟩:=bind_some (J2 b);obtain⟨J,w,q⟩:=rO f;obtain⟨rfl,_⟩:=Q1.load P t v _ _ _ _ _ _ w;rw[List.filter_eq_self.2 (fun x _=>by simp;omega)]at q;subst q;have f:=w;obtain⟨vs,B,A,z,E,D,C,y⟩:=o _ e d _ j;refine⟨u::vs,B,A,L1++z,E, ?_,C,by rw[i];simp only at y;rw[y,b9]⟩;unfold gL;rw[p a v g];refine bz f ?_;rw[<-bV z];exact bz D rfl
theorem Yt:∀(l:List Value) (i:Nat) (s:S),i+l.length<1023->Sub (zO i l) (qj i l s):=by
 intro l
 induction l with
 |nil=>intro i s _;exact Sub.nil _
 |cons v l a=>intro i s h;simp only[bL]at h;show Sub ((i,v)::zO (i+1) l) (qj (i+1) l (s.put i v));refine(a (i+1) (s.put i v) jO).cons ?_;rw[Jj _ _ _ _ jO,if_neg jO,S.nA _ _ _ _ jO,if_pos rfl]
theorem Kb{P:Program}{kn:List FuncId}(hd:lW P=true){gt:Nat->Hint}{lf:Nat}:∀(d:Nat) (f:FuncId) (args:Array Value) (h:H) (n:Nat) (v:Value) (r:H) (q:Nat) (L:List En),rY kn P gt lf d f args h n=some ⟨v,r,q,L⟩->dn (fun fuel=>cq P kn fuel f args) h n v r q L:=by
 intro d
 induction d with
 |zero=>intro f args h n v r q L a;cases a
 |succ d K=>
  intro f args h n v r q L a;unfold rY at a;cases j:kn.contains f with
  |true=>
   rw[j]at a;simp only at a;cases g:ny f with
   |some k=>
    rw[g]at a;refine⟨1,fun fuel o=> ?_⟩
    match fuel,o with
    |fuel+1,o=>show cq P kn (fuel+1) f args h n=_;unfold cq;rw[if_pos j,g];exact a
   |none=>
   rw[g]at a;simp only at a;cases z:(decide (args.size=0)&&qk P f)with
   |false=>rw[z]at a;cases a
   |true=>
    rw[z]at a;refine⟨1,fun fuel o=> ?_⟩
    match fuel,o with
    |fuel+1,o=>show cq P kn (fuel+1) f args h n=_;unfold cq;rw[if_pos j,g];show(if(decide (args.size=0)&&qk P f)=true then _ else _:M Value) h n=_;rw[if_pos z];exact a
  |false=>
  rw[j]at a;simp only at a;unfold aw at a;cases l:P.funcs[f]? with
  |none=>rw[l]at a;cases a
  |some p=>
   rw[l]at a;simp only at a;cases u:p.body with
   |none=>rw[u]at a;cases a
   |some c=>
    rw[u]at a;simp only at a;cases b:(decide (args.size<=p.ntmps)&&decide (p.ntmps<1000))with
    |false=>rw[b]at a;cases a
    |true=>
     rw[b]at a;simp only at a;have m:=b;simp only[bE,decide_eq_true_eq]at b;obtain⟨L',a,N⟩:=rO a
     have A:j6 p.ntmps c=true:=by unfold lW at hd;rw[rk]at hd;have:=hd p (Array.mem_of_getElem? l);rw[u]at this;exact this
     obtain⟨e,J,E,B,y,Z,D,⟨O,R⟩,Q,C,I⟩:=Yr K c A _ (qj 0 args.toList .nil) _ h n _ (Yt _ 0 _ (by simp;omega)) a
     have t:∀(G:e= .normal∨e= .ret),uI P J p.results.toList ae B y=some ⟨v,r,q,D⟩->dn (fun fuel=>cq P kn fuel f args) h n v r q L:=by
      intro G s;obtain⟨T,W,U,Y,X,F,x,w⟩:=Ys Q _ _ _ _ _ s;simp only at x w;unfold ae at x;obtain⟨rfl,rfl,rfl,rfl⟩:=zP x;rw[bV]at w;subst w;simp only at I;refine⟨O+1,fun fuel o=> ?_⟩
      match fuel,o with
      |fuel+1,o=>
       show cq P kn (fuel+1) f args h n=_;unfold cq;rw[if_neg (by rw[j];simp)];simp only[l,u];rw[if_pos m];rw[N,I];refine hH (bz (R fuel jO fuel jO) ?_);rcases G with rfl|rfl
       ·show((gL P E p.results.toList).bind _) B y=_;rw[<-bV D];exact bz F rfl
       ·show((gL P E p.results.toList).bind _) B y=_;rw[<-bV D];exact bz F rfl
     cases e with
     |normal=>exact t (.inl rfl) C
     |ret=>exact t (.inr rfl) C
     |exit i=>cases C
theorem ER{P:Program}(hd:lW P=true){gt:Nat->Hint}{lf:Nat}(d:Nat)(f:FuncId)(args:Array Value)(h:H)(n:Nat)(v:Value)(b:H)(a:Nat)(L:List En)(e:ah P gt lf d f args h n=some ⟨v,b,a,L⟩):dn (fun fuel=>cq P KN fuel f args) h n v b a L:=Kb hd d f args h n v b a L e
def aa{c:Type}(W:Nat->Prop)(n0:Nat)(m:M c)(h:H)(n:Nat)(Q:c->H->Nat->Prop):Prop:=
 ∃a d b L,m h n=some ⟨a,d,b,L⟩∧n<=b∧(∀e∈L,e.wr=true->n0<=e.b∨W e.b)∧Q a d b
theorem aa.mono{d:Type}{W:Nat->Prop}{n0:Nat}{m:M d}{h:H}{n:Nat}{Q Q':d->H->Nat->Prop}(x:aa W n0 m h n Q)(f:∀a c b,n<=b->Q a c b->Q' a c b):aa W n0 m h n Q':=by obtain⟨a,c,b,L,j,e,i,g⟩:=x;exact⟨a,c,b,L,j,e,i,f _ _ _ e g⟩
section
variable {α β:Type} {W:Nat->Prop} {n0:Nat} {m:M α} {k:α->M β} {h h1:H} {n n1:Nat} {a:α} {L:List En} {Q:β->H->Nat->Prop}
theorem aa.step(e:m h n=some ⟨a,h1,n1,L⟩)(p:n<=n1)(f:∀e∈L,e.wr=true->n0<=e.b∨W e.b)(x:aa W n0 (k a) h1 n1 Q):aa W n0 (m.bind k) h n Q:=by
 obtain⟨b,g,c,o,l,r,j,i⟩:=x;refine⟨b,g,c,L++o,bz e l,jO,fun x d=> ?_,i⟩;rcases p8.1 d with q|q
 ·exact f x q
 ·exact j x q
theorem aa.Kc(e:m h n=some ⟨a,h1,n1,L⟩)(r:n1=n)(x:aa W n0 (m.bind k) h n Q):aa W n0 (k a) h1 n1 Q:=by obtain⟨b,g,d,w,o,t,l,j⟩:=x;obtain⟨u,s,q,v,p,c,i,rfl⟩:=bind_some o;rw[e]at c;simp only[dm,Out.mk.injEq]at c;obtain⟨rfl,rfl,rfl,rfl⟩:=c;exact⟨b,g,d,p,i,jO,fun x f=>l x (p8.2 (.inr f)),j⟩
theorem aa.iff(e:m h n=some ⟨a,h1,n,L⟩)(b:∀e∈L,e.wr=true->n0<=e.b∨W e.b):aa W n0 (m.bind k) h n Q↔aa W n0 (k a) h1 n Q:=
 ⟨aa.Kc e rfl,aa.step e (ag _) b⟩
theorem aa.aD{Q':α->H->Nat->Prop}(x:aa W n0 m h n Q'):aa W n0 (inside m) h n Q':=by obtain⟨a,h1,n1,L,g,f,d,c⟩:=x;exact⟨a,h1,n1,_,hH g,f,fun e b=>d e (List.mem_filter.1 b).1,c⟩
end
section
variable {β:Type} {W:Nat->Prop} {n0:Nat} {h h1:H} {n n1:Nat} {Q:β->H->Nat->Prop} {QV:Value->H->Nat->Prop}
theorem qE(a:β):aa W n0 (M.ret a) h n Q↔Q a h n:=by
 constructor
 ·rintro⟨b,i,g,L,f,k,j,d⟩;obtain⟨rfl,rfl,rfl,rfl⟩:=zP f;exact d
 ·intro x;exact⟨a,h,n,[],rfl,ag _,fun e c=>(nomatch c),x⟩
theorem Kd:aa W n0 (ae []) h n QV↔QV (.tuple #[]) h n:=qE _
theorem zQ(v:Value):aa W n0 (ae [v]) h n QV↔QV v h n:=qE _
theorem uJ(v w:Value):aa W n0 (ae [v,w]) h n QV↔QV (.tuple #[v,w]) h n:=qE _
theorem Ke(v w u:Value):aa W n0 (ae [v,w,u]) h n QV↔QV (.tuple #[v,w,u]) h n:=qE _
theorem rZ{b:Type}(a:b)(k:b->M β):aN (some a) k=k a:=rfl
theorem Kf(b:Bool)(x y:M β):aa W n0 (aH (.bool b) x y) h n Q↔if b=true then aa W n0 x h n Q else aa W n0 y h n Q:=by
 cases b
 ·rw[if_neg Iz];exact Iff.rfl
 ·rw[if_pos rfl];exact Iff.rfl
theorem uK(x y:M β):aH (.bool true) x y=x:=rfl
theorem uL(x y:M β):aH (.bool false) x y=y:=rfl
section
variable {β:Type} (k:Value->M β)
theorem Kg(a:Addr):ai (.pointer (some a)) k=k (.pointer (some a)):=rfl
theorem Kh(f:FuncId)(a b:Array Value):ai (.func (.func f) a b) k=k (.func (.func f) a b):=rfl
theorem o9(f:IntKind->Int->Int->Value)(j:IntKind)(a b:Int):iI f (.int j a) (.int j b) k=k (f j a b):=by unfold iI;simp only[zh]
theorem Ki(j:IntKind)(a b:Int):ax (.int j a) (.int j b) k=k (.int j (j.wrap (a+b))):=by show iI (fun k a b=> .int k (mC k (yY a b))) (.int j a) (.int j b) k=_;rw[o9,jb,JK]
theorem ES(j:IntKind)(a b:Int):bx (.int j a) (.int j b) k=k (.int j (j.wrap (a-b))):=by unfold bx;rw[o9,jb,zb]
theorem Kj(j:IntKind)(a b:Int):gq (.int j a) (.int j b) k=k (.int j (j.wrap (a*b))):=by unfold gq;rw[o9,jb,JL]
theorem Kk(j:IntKind)(a b:Int):gu (.int j a) (.int j b) k=k (.bool (a==b)):=by show iI (fun _ a b=> .bool (nC a b)) (.int j a) (.int j b) k=_;rw[o9,qp]
theorem Kl(j:IntKind)(a b:Int):iJ (.int j a) (.int j b) k=k (.bool (a !=b)):=by show iI (fun _ a b=> .bool (!nC a b)) (.int j a) (.int j b) k=_;rw[o9,qp];rfl
theorem pc(j:IntKind)(a b:Int):da (.int j a) (.int j b) k=k (.bool (decide (a<b))):=by show iI (fun _ a b=> .bool (rQ a b)) (.int j a) (.int j b) k=_;rw[o9,oS]
theorem Km(j:IntKind)(a b:Int):lU (.int j a) (.int j b) k=k (.bool (decide (a<=b))):=by unfold lU;rw[o9,zd]
theorem Kn(j:IntKind)(a b:Int):j4 (.int j a) (.int j b) k=k (.bool (decide (b<a))):=by unfold j4;rw[o9,oS]
theorem Ko(j:IntKind)(a b:Int):rT (.int j a) (.int j b) k=k (.bool (decide (b<=a))):=by unfold rT;rw[o9,zd]
theorem Kp(j:IntKind)(a b:Int)(c:b≠0):mH (.int j a) (.int j b) k=k (.int j (j.wrap (a.tdiv b))):=by unfold mH;simp only[zh,qp,beq_eq_false_iff_ne.2 c,jb]
theorem Kq(j:IntKind)(a b:Int)(c:b≠0):oZ (.int j a) (.int j b) k=k (.int j (a.tmod b)):=by unfold oZ;simp only[zh,qp,beq_eq_false_iff_ne.2 c]
theorem ET{f:Nat->Nat->Nat}{g:(w:Nat)->BitVec w->BitVec w->BitVec w}(c:∀w x y,(g w x y).toNat=f x.toNat y.toNat)(j:IntKind)(a b:Int)(e:0<=a)(d:0<=b):rS f (.int j a) (.int j b) k=k (.int j (j.wrap (g j.bits (cR j.bits a) (cR j.bits b)).toNat)):=by obtain⟨p,rfl⟩:∃p:Nat,a=fh p:=⟨a.toNat,(jU e).symm⟩;obtain⟨q,rfl⟩:∃q:Nat,b=fh q:=⟨b.toNat,(jU d).symm⟩;unfold rS;simp only[zh,jb,c,(qC p q).1,(qC p q).2];rfl
theorem Kr(j:IntKind)(a b:Int)(d:0<=a)(c:0<=b):zw (.int j a) (.int j b) k=k (.int j (j.wrap (cR j.bits a&&&cR j.bits b).toNat)):=ET k (g:=fun _ x y=>x&&&y) (fun _ _ _=>agX ..) j a b d c
theorem Ks(j:IntKind)(a b:Int)(d:0<=a)(c:0<=b):wk (.int j a) (.int j b) k=k (.int j (j.wrap (cR j.bits a|||cR j.bits b).toNat)):=ET k (g:=fun _ x y=>x|||y) (fun _ _ _=>agY ..) j a b d c
theorem Ku(j:IntKind)(a b:Int)(d:0<=a)(c:0<=b):oY (.int j a) (.int j b) k=k (.int j (j.wrap (cR j.bits a^^^cR j.bits b).toNat)):=ET k (g:=fun _ x y=>x^^^y) (fun _ _ _=>agZ ..) j a b d c
theorem Kv(j c:IntKind)(a b:Int)(e:0<=a)(d:0<=b):kO (.int j a) (.int c b) k=k (.int j (j.wrap (a*2^(min b.toNat j.bits)))):=by obtain⟨p,rfl⟩:∃p:Nat,a=fh p:=⟨a.toNat,(jU e).symm⟩;obtain⟨q,rfl⟩:∃q:Nat,b=fh q:=⟨b.toNat,(jU d).symm⟩;unfold kO;simp only[jb];congr 3
theorem Kw(j c:IntKind)(a b:Int)(e:0<=a)(d:0<=b):jy (.int j a) (.int c b) k=k (.int j (a.fdiv (2^(min b.toNat j.bits)))):=by obtain⟨p,rfl⟩:∃p:Nat,a=fh p:=⟨a.toNat,(jU e).symm⟩;obtain⟨q,rfl⟩:∃q:Nat,b=fh q:=⟨b.toNat,(jU d).symm⟩;unfold jy;simp only;congr 2;show((p/2^(min q j.bits):Nat):Int)=((p:Nat):Int).fdiv (2^min q j.bits);have f:(2:Int)^(min q j.bits)=((2^(min q j.bits):Nat):Int):=jS;rw[f,ag0 _ (fE _),<-ag1]
theorem Kx(a b:List UInt8)(h:a.length+b.length<=9223372036854775807):ax (.string ⟨a.toArray⟩) (.string ⟨b.toArray⟩) k=k (.string ⟨(a++b).toArray⟩):=by unfold ax;simp only[nD];rw[show bh (eT a.length b.length) 9223372036854775807=true from jT h];simp only[DP]
theorem EU(a b:List UInt8):gu (.string ⟨a.toArray⟩) (.string ⟨b.toArray⟩) k=k (.bool (decide (a=b))):=by unfold gu;simp only[ze]
theorem Ky(a b:List UInt8):iJ (.string ⟨a.toArray⟩) (.string ⟨b.toArray⟩) k=k (.bool (!decide (a=b))):=by unfold iJ;simp only[ze]
theorem Kz(a b:List UInt8):da (.string ⟨a.toArray⟩) (.string ⟨b.toArray⟩) k=k (.bool (IE a b)):=by unfold da;simp only[DO]
theorem KA(a b:Bool):zx (.bool a) (.bool b) k=k (.bool (a==b)):=by cases a<;>cases b<;>rfl
theorem KB(a b:Bool):zy (.bool a) (.bool b) k=k (.bool (a !=b)):=by cases a<;>cases b<;>rfl
theorem wx(b:Bool):dI (.bool b) k=k (.bool (!b)):=rfl
theorem KC(j:IntKind)(a:Int):zD (.int j a) k=k (.int j (j.wrap (0-a))):=by unfold zD;simp only[jb,zb]
theorem KD(b j:IntKind)(a:Int):ep b (.int j a) k=k (.int b (b.wrap a)):=by unfold ep;simp only[jb]
theorem KE(s:ByteArray):JX (.string s) k=k (.string s):=rfl
theorem KF(a:Option Addr)(n c:Nat):aY (.slice a n c) k=k (.int .i64 (n:Int)):=rfl
theorem EV(l:List UInt8):eI (.string ⟨l.toArray⟩) k=k (.int .i64 (l.length:Int)):=by unfold eI;simp only[nD];rfl
theorem KH(j c:IntKind)(a b:Int):jz (.int j a) (.int c b) k=k (.int j (if b<a then b else a)):=by unfold jz;simp only[oS];by_cases h:b<a<;>simp only[h,decide_true,decide_false,if_true,if_false]
theorem KI(j c:IntKind)(a b:Int):qz (.int j a) (.int c b) k=k (.int j (if a<b then b else a)):=by unfold qz;simp only[oS];by_cases h:a<b<;>simp only[h,decide_true,decide_false,if_true,if_false]
theorem KJ(b:Bool)(x y:Value):D7 (.bool b) x y k=k (if b=true then x else y):=by cases b<;>rfl
theorem KK(a:Addr):nG (.pointer (some a)) (.pointer none) k=k (.bool false):=rfl
theorem KL:nG (.pointer none) (.pointer none) k=k (.bool true):=rfl
theorem KM(a:Addr):wm (.pointer (some a)) (.pointer none) k=k (.bool true):=rfl
theorem KO:wm (.pointer none) (.pointer none) k=k (.bool false):=rfl
theorem KP(a:Addr)(n c m d:Nat):wo (.slice (some a) n c) (.slice none m d) k=k (.bool false):=rfl
theorem KQ(n c m d:Nat):wo (.slice none n c) (.slice none m d) k=k (.bool true):=rfl
theorem KR(a:Addr)(n c m d:Nat):wq (.slice (some a) n c) (.slice none m d) k=k (.bool true):=rfl
theorem KS(n c m d:Nat):wq (.slice none n c) (.slice none m d) k=k (.bool false):=rfl
theorem KU(f:Fn)(a b:Array Value):D4 (.func f a b) .nilFunc k=k (.bool false):=rfl
theorem KV(f:Fn)(a b:Array Value):D5 (.func f a b) .nilFunc k=k (.bool true):=rfl
theorem KW(K b off:Nat):aQ K (.pointer (some ⟨b,off,none⟩)) k=k (.pointer (some ⟨b,off+K,none⟩)):=rfl
theorem EW(l:List Value)(i:Nat):(match qt l i with
 |some v=>k v
 |none=>M.fail)=aN l[i]? k:=by
 rw[zn];cases l[i]? <;>rfl
theorem KX(K:Nat)(l:List Value):D8 K (.agg l.toArray) k=aN l[K]? k:=EW k l K
theorem KY(K m:Nat)(l:List Value):D9 K m (.agg l.toArray) k=k (.agg ((l.drop K).take m).toArray):=rfl
theorem KZ(l:List Value)(i:Nat):aW (.tuple l.toArray) i k=aN l[i]? k:=EW k l i
theorem dq(a b:Value):aW (.tuple #[a,b]) 0 k=k a:=rfl
theorem ext1(a b:Value):aW (.tuple #[a,b]) 1 k=k b:=rfl
theorem wy{i:Int}{n:Nat}(h1:i<n){j:Nat}(e:i=fh j):bh (dT j) n=true:=by subst e;exact jT (Int.ofNat_lt.1 h1)
theorem K0(b off n c:Nat)(j:IntKind)(i:Int)(a:0<=i)(h1:i<n):aM (.slice (some ⟨b,off,none⟩) n c) (.int j i) k=k (.pointer (some ⟨b,off+i.toNat,none⟩)):=by obtain⟨p,rfl⟩:∃p:Nat,i=fh p:=⟨i.toNat,(jU a).symm⟩;unfold aM;simp only[wy h1 rfl];rfl
theorem K1(sz b off n c:Nat)(j:IntKind)(i:Int)(a:0<=i)(h1:i<n):qA sz (.slice (some ⟨b,off,none⟩) n c) (.int j i) k=k (.pointer (some ⟨b,off+i.toNat*sz,none⟩)):=by obtain⟨p,rfl⟩:∃p:Nat,i=fh p:=⟨i.toNat,(jU a).symm⟩;unfold qA;simp only[wy h1 rfl];rfl
theorem EX(n b off:Nat)(j:IntKind)(i:Int)(a:0<=i)(h1:i<n):eW n (.pointer (some ⟨b,off,none⟩)) (.int j i) k=k (.pointer (some ⟨b,off+i.toNat,none⟩)):=by obtain⟨p,rfl⟩:∃p:Nat,i=fh p:=⟨i.toNat,(jU a).symm⟩;unfold eW;simp only[wy h1 rfl];rfl
theorem K2(n sz b off:Nat)(j:IntKind)(i:Int)(a:0<=i)(h1:i<n):zE n sz (.pointer (some ⟨b,off,none⟩)) (.int j i) k=k (.pointer (some ⟨b,off+i.toNat*sz,none⟩)):=by obtain⟨p,rfl⟩:∃p:Nat,i=fh p:=⟨i.toNat,(jU a).symm⟩;unfold zE;simp only[wy h1 rfl];rfl
theorem K3(n:Nat)(l:List Value)(j:IntKind)(i:Int)(a:0<=i)(h1:i<n):qB n (.agg l.toArray) (.int j i) k=aN l[i.toNat]? k:=by obtain⟨p,rfl⟩:∃p:Nat,i=fh p:=⟨i.toNat,(jU a).symm⟩;unfold qB;simp only[wy h1 rfl];exact EW k l p
theorem EY(l:List UInt8)(j:IntKind)(i:Int)(g:0<=i)(h1:i<l.length):jc (.string ⟨l.toArray⟩) (.int j i) k=k (.int .u8 ((l.getD i.toNat 0).toNat:Int)):=by
 obtain⟨p,rfl⟩:∃p:Nat,i=fh p:=⟨i.toNat,(jU g).symm⟩;have f:p<l.length:=Int.ofNat_lt.1 h1
 have e:oU l p=some (l.getD p 0):=by
  cases b:oU l p with
  |some c=>rw[(DQ _ _ _ b).2]
  |none=>
   exfalso
   have:∀(l:List UInt8) (p:Nat),p<l.length->oU l p≠none:=by
    intro l
    induction l with
    |nil=>intro p h;simp at h
    |cons a l d=>
     intro p h e;cases p with
     |zero=>cases e
     |succ p=>exact d p (by simpa using h) e
   exact this l p f b
 unfold jc;simp only[e];rfl
theorem EZ(l:List UInt8)(lo c:Option Value){a b:Nat}(e:o0 lo 0=some a)(d:o0 c l.length=some b)(h1:a<=b)(h2:b<=l.length):rU (.string ⟨l.toArray⟩) lo c k=k (.string ⟨((l.drop a).take (b-a)).toArray⟩):=by unfold rU;simp only[e,nD,d,jT h1,jT h2];rfl
theorem zR(j:IntKind){i:Int}(d:Nat)(h:0<=i):o0 (some (.int j i)) d=some i.toNat:=by obtain⟨p,rfl⟩:∃p:Nat,i=fh p:=⟨i.toNat,(jU h).symm⟩;rfl
theorem K4(l:List UInt8)(c:IntKind)(j:Int)(d:0<=j)(h1:j<=l.length):rU (.string ⟨l.toArray⟩) none (some (.int c j)) k=k (.string ⟨(l.take j.toNat).toArray⟩):=by rw[EZ k l none _ (a:=0) (b:=j.toNat) rfl (zR c _ d) jO jO];simp
theorem K5(l:List UInt8)(c:IntKind)(i:Int)(d:0<=i)(h1:i<=l.length):rU (.string ⟨l.toArray⟩) (some (.int c i)) none k=k (.string ⟨(l.drop i.toNat).toArray⟩):=by rw[EZ k l _ none (a:=i.toNat) (b:=l.length) (zR c _ d) rfl jO jO];rw[fZ jS]
theorem K6(l:List UInt8)(b a:IntKind)(i j:Int)(c:0<=i)(h1:i<=j)(h2:j<=l.length):rU (.string ⟨l.toArray⟩) (some (.int b i)) (some (.int a j)) k=k (.string ⟨((l.drop i.toNat).take (j.toNat-i.toNat)).toArray⟩):=
 EZ k l _ _ (zR b _ c) (zR a _ jO) jO jO
theorem K7(z:List Value)(ps:List (Nat×Nat×Value)):dh z ps k=aN (ee z ps) fun cs=>k (.agg cs.toArray):=by unfold dh;cases ee z ps<;>rfl
theorem K8(cs:List Value):ee cs []=some cs:=rfl
theorem Yu(cs:List Value)(q:Nat×Nat×Value)(r:List (Nat×Nat×Value)):ee cs (q::r)=match bq (dU (cS q.2.2)) q.2.1 with
 |true=>match bh (eT q.1 (dU (cS q.2.2))) (dU cs)with
  |true=>ee (nF cs q.1 (cS q.2.2)) r
  |false=>none
 |false=>none:=rfl
theorem K9{cs vs:List Value}{off sz:Nat}{v:Value}{r:List (Nat×Nat×Value)}(i:cS v=vs):ee cs ((off,sz,v)::r)=if vs.length=sz then(if off+sz<=cs.length then ee (cs.take off++(vs++cs.drop (off+sz))) r else none)else none:=by
 have f:∀(off:Nat) (cs l:List Value),off+l.length<=cs.length->nF cs off l=cs.take off++(l++cs.drop (off+l.length)):=by
  have g:∀(l cs:List Value),l.length<=cs.length->over l cs=l++cs.drop l.length:=by
   intro l
   induction l with
   |nil=>intro cs _;simp[over]
   |cons x l b=>
    intro cs h;cases cs with
    |nil=>simp at h
    |cons c cs=>show x::over l cs=_;rw[b cs (by simpa using h)];simp
  intro off
  induction off with
  |zero=>
   intro cs l h;have e:nF cs 0 l=over l cs:=by cases cs<;>rfl
   rw[e,g l cs jO];simp
  |succ off b=>
   intro cs l h;cases cs with
   |nil=>simp at h
   |cons c cs=>show c::nF cs off l=_;rw[b cs l (by simp at h;omega),show off+1+l.length=off+l.length+1 by omega];simp
 subst i;rw[Yu];simp only[j1];by_cases h1:(cS v).length=sz
 ·rw[if_pos h1];subst h1;rw[rq];simp only;by_cases a:off+(cS v).length<=cs.length
  ·rw[if_pos a,show bh (eT off (cS v).length) cs.length=true from jT a,f _ _ _ a]
  ·rw[if_neg a]
   have:bh (eT off (cS v).length) cs.length=false:=by
    cases d:bh (eT off (cS v).length) cs.length with
    |false=>rfl
    |true=>exact absurd (eS d) a
   rw[this]
 ·rw[if_neg h1]
  have:bq (cS v).length sz=false:=by
   cases d:bq (cS v).length sz with
   |false=>rfl
   |true=>exact absurd (iX d) h1
  rw[this]
theorem wz{cs:List Value}{off:Nat}{v:Value}{r:List (Nat×Nat×Value)}(a:cS v=[v]):ee cs ((off,1,v)::r)=if off<cs.length then ee (cs.set off v) r else none:=by
 rw[K9 a,if_pos (show [v].length=1 from rfl)];by_cases h:off<cs.length
 ·rw[if_pos h,if_pos jO];congr 1;rw[List.set_eq_take_append_cons_drop,if_pos h];rfl
 ·rw[if_neg h,if_neg jO]
section
variable (cs:List Value) (off:Nat) (r:List (Nat×Nat×Value))
theorem K'(j:IntKind)(x:Int):ee cs ((off,1,.int j x)::r)=if off<cs.length then ee (cs.set off (.int j x)) r else none:=wz rfl
theorem Lb(b:Bool):ee cs ((off,1,.bool b)::r)=if off<cs.length then ee (cs.set off (.bool b)) r else none:=wz rfl
theorem Ld(s:ByteArray):ee cs ((off,1,.string s)::r)=if off<cs.length then ee (cs.set off (.string s)) r else none:=wz rfl
theorem Lg(a:Option Addr)(n c:Nat):ee cs ((off,1,.slice a n c)::r)=if off<cs.length then ee (cs.set off (.slice a n c)) r else none:=wz rfl
theorem Lh(a:Option Addr):ee cs ((off,1,.pointer a)::r)=if off<cs.length then ee (cs.set off (.pointer a)) r else none:=wz rfl
theorem Li(sz:Nat)(vs:List Value):ee cs ((off,sz,.agg vs.toArray)::r)=if vs.length=sz then(if off+sz<=cs.length then ee (cs.take off++(vs++cs.drop (off+sz))) r else none)else none:=K9 rfl
end
end
theorem get_eq(h:H)(i:Nat)(x:Option AB):(h.set i x).get i=x:=by rw[H.gM,if_pos rfl]
theorem ak(h:H){i j:Nat}(x:Option AB)(e:j≠i):(h.set i x).get j=h.get j:=by rw[H.gM,if_neg e]
theorem wA{c:Type}{m:M c}{h h1:H}{n n1:Nat}{a:c}{L:List En}(e:m h n=some ⟨a,h1,n1,L⟩)(f:∀e∈L,e.wr=false):∃L',inside m h n=some ⟨a,h1,n1,L'⟩∧∀e∈L',e.wr=true->n0<=e.b∨W e.b:=
 ⟨_,hH e,fun x d b=>by rw[f x (List.mem_filter.1 d).1]at b;cases b⟩
theorem uM(e:TypeId)(cs:List Value)(h:H)(n:Nat):cJ e cs h n=some ⟨n,h.set n (some ⟨e,true,cs⟩),n+1,[]⟩:=by unfold cJ;rw[if_pos (dL n)]
theorem pd{b:Type}{m:M b}{a:b}{k:b->M β}{h1:H}{n1:Nat}(e:m h n=some ⟨a,h1,n1,[]⟩)(d:n<=n1)(x:aa W n0 (k a) h1 n1 Q):aa W n0 ((inside m).bind k) h n Q:=
 aa.step (hH e) d (fun x c=>by simp at c) x
theorem gx{a:Type}{m:M a}{b:a->M β}(x:aa W n0 ((inside m).bind b) h n Q):aa W n0 (dy m b) h n Q:=by rw[j3];exact x
theorem nH(e:TypeId)(cs:List Value)(f:Nat->Value)(h:H)(n:Nat):((hZ e cs).bind fun id=>M.ret (f id)) h n=some ⟨f n,h.set n (some ⟨e,true,cs⟩),n+1,[]⟩:=by rw[j0];exact bz (uM _ _ _ _) rfl
theorem lX{T:Prop}(_:T){t:TypeId}(v:Value)(k:Value->M β)(x:aa W n0 (k (.pointer (some ⟨n,0,none⟩))) (h.set n (some ⟨t,true,v.cells.toList⟩)) (n+1) Q):aa W n0 (fp t v k) h n Q:=by rw[<-mG]at x;exact gx (pd (nH _ _ (fun id=>C7 (some ⟨id,0,none⟩)) _ _) (cI n) x)
theorem fR{t:TypeId}{z cs:List Value}(a:z=cs)(k:Value->M β)(x:aa W n0 (k (.pointer (some ⟨n,0,none⟩))) (h.set n (some ⟨t,true,cs⟩)) (n+1) Q):aa W n0 (dF t z k) h n Q:=by subst a;exact gx (pd (nH _ _ (fun id=>C7 (some ⟨id,0,none⟩)) _ _) (cI n) x)
theorem E0(z:Value):∀m,iL [z] m=bI m z
 |0=>rfl
 |m+1=>by show z::iL [z] m=_;rw[E0 z m];rfl
theorem run_make{T:Prop}(_:T){e:TypeId}{z:Value}(l m:Nat)(k:Value->M β){b a:IntKind}(d:l<=m)(c:m<=1099511627776)(x:aa W n0 (k (.slice (some ⟨n,0,none⟩) l m)) (h.set n (some ⟨e,true,bI m z⟩)) (n+1) Q):aa W n0 (fQ e [z] (.int b l) (.int a m) k) h n Q:=by
 have f:fQ e [z] (.int b l) (.int a m) k=dy ((hZ e (iL [z] m)).bind fun id=>M.ret (fN (some ⟨id,0,none⟩) l m)) k:=by
  show(match bh l m with
   |true=>match bh m 1099511627776 with
    |true=>dy ((hZ e (iL [z] m)).bind fun id=>M.ret (fN (some ⟨id,0,none⟩) l m)) k
    |false=> .fail
   |false=> .fail)=_
  rw[jT d,jT c]
 rw[f,E0];exact gx (pd (nH _ _ (fun id=>fN (some ⟨id,0,none⟩) l m) _ _) (cI n) x)
theorem Lj{T:Prop}(_:T){e:TypeId}{v:Value}(h1:one v=true)(k:Value->M β)(x:aa W n0 (k (.slice (some ⟨n,0,none⟩) 1 1)) (h.set n (some ⟨e,true,[v]⟩)) (n+1) Q):aa W n0 (db e 1 v k) h n Q:=by
 have a:cS v=[v]:=by cases v<;>first|rfl|(simp[one]at h1)
 unfold db;rw[a];exact gx (pd (nH _ _ (fun id=>fN (some ⟨id,0,none⟩) 1 1) _ _) (cI n) x)
end
def qF{b:Type}(o:Option b)(p:b->Prop):Prop:=match o with
 |some a=>p a
 |none=>False
theorem Ll{b:Type}(a:b)(p:b->Prop):qF (some a) p=p a:=rfl
theorem l4(k:IntKind)(x:Int):one (.int k x)=true:=rfl
theorem Yv(a:Option Addr):one (.pointer a)=true:=rfl
theorem Lm(cs:Array Value):(tZ cs).cells=cs:=rfl
section
variable {β:Type} {W:Nat->Prop} {n0:Nat} {h h1:H} {n n1:Nat} {Q:β->H->Nat->Prop}
theorem Yw:¬aa W n0 (M.fail:M β) h n Q:=by rintro⟨_,_,_,_,e,_⟩;cases e
theorem zS{b:Type}{m:M b}{k:b->M β}(e:m h n=none):¬aa W n0 (m.bind k) h n Q:=by rintro⟨_,_,_,_,a,_⟩;unfold M.bind at a;rw[e]at a;cases a
theorem zT{a:Type}{m:M a}(e:m h n=none):Ev.inside m h n=none:=by unfold Ev.inside;rw[e]
theorem Ln(b off:Nat)(k:Value->M β)(d:b<n):aa W n0 (aG (.pointer (some ⟨b,off,none⟩)) k) h n Q↔qF (h.get b) fun B=>aa W n0 (aN (B.cells[off]?) k) h n Q:=by
 show aa W n0 (dy (uB b off) k) h n Q↔_;rw[j3,zo];cases a:h.get b with
 |none=>refine⟨fun x=>absurd x (zS (zT ?_)),fun x=>x.elim⟩;unfold rd;simp[a]
 |some B=>
  show _↔aa W n0 (aN (B.cells[off]?) k) h n Q;cases c:B.cells[off]? with
  |none=>refine⟨fun x=>absurd x (zS (zT ?_)),fun x=>absurd x Yw⟩;unfold rd;simp[a,c]
  |some v=>
   have e:rd b off h n=some ⟨v,h,n,[⟨false,b,some off⟩]⟩:=by unfold rd;simp only[d,a,c,if_true]
   obtain⟨i,g,f⟩:=wA (W:=W) (n0:=n0) e jS;exact aa.iff g f
theorem Yx(b off:Nat){v:Value}(k:Value->M β)(h1:one v=true):aK (.pointer (some ⟨b,off,none⟩)) v k=(inside ((wr b off v).bind fun _=> .ret undef)).bind k:=by
 show(match one v with
  |true=>dy ((rR b off v).bind fun _=> .ret undef) k
  |false=> .fail)=_
 rw[h1,zq];exact j3 _ _
theorem uN(b off:Nat)(v:Value)(k:Value->M β)(o:b<n)(h1:one v=true):aa W n0 (aK (.pointer (some ⟨b,off,none⟩)) v k) h n Q↔
 qF (h.get b) fun B=>B.own=true∧off<B.cells.length∧(n0<=b∨W b)∧aa W n0 (k undef) (h.set b (some ⟨B.elem,B.own,B.cells.set off v⟩)) n Q:=by
 rw[Yx b off k h1];cases g:h.get b with
 |none=>refine⟨fun x=>absurd x (zS (zT ?_)),fun x=>x.elim⟩;unfold M.bind wr;simp[g]
 |some B=>
  show _↔(B.own=true∧off<B.cells.length∧(n0<=b∨W b)∧_);by_cases a:B.own=true∧off<B.cells.length
  ·obtain⟨l,m⟩:=a
   have d:wr b off v h n=some ⟨(),h.set b (some ⟨B.elem,B.own,B.cells.set off v⟩),n,[⟨false,b,some off⟩,⟨true,b,some off⟩]⟩:=by unfold wr;simp[o,g,l,m,h1]
   have e:((wr b off v).bind fun _=>M.ret undef) h n=some ⟨undef,h.set b (some ⟨B.elem,B.own,B.cells.set off v⟩),n,[⟨false,b,some off⟩,⟨true,b,some off⟩]⟩:=by have:=bz (f:=fun _=>M.ret undef) d (L2:=[]) (b:=undef) (h2:=h.set b (some ⟨B.elem,B.own,B.cells.set off v⟩)) (n2:=n) rfl;simpa using this
   have i:=hH e;constructor
   ·intro x;refine⟨l,m, ?_,aa.Kc i rfl x⟩;obtain⟨_,_,_,L,s,_,r,_⟩:=x;obtain⟨_,_,_,u,t,j,_,rfl⟩:=bind_some s;rw[i]at j;simp only[dm,Out.mk.injEq]at j;refine r ⟨true,b,some off⟩ (p8.2 (.inl ?_)) rfl;rw[<-j.2.2.2];refine List.mem_filter.2 ⟨jS, ?_⟩;simp;omega
   ·rintro⟨_,_,q,x⟩;refine aa.step i (ag _) (fun x c p=> ?_) x;have c:=(List.mem_filter.1 c).1;simp at c;rcases c with rfl|rfl<;>exact q
  ·refine⟨fun x=>absurd x (zS (zT ?_)),fun x=>absurd ⟨x.1,x.2.1⟩ a⟩;unfold M.bind wr;simp only[o,g,if_true,h1,Bool.and_true];rw[if_neg (by simpa using a)]
section
variable (b off:Nat) (k:Value->M β) (hb:b<n)
include hb
theorem Lq(j:IntKind)(x:Int):aa W n0 (aK (.pointer (some ⟨b,off,none⟩)) (.int j x) k) h n Q↔qF (h.get b) fun B=>B.own=true∧off<B.cells.length∧(n0<=b∨W b)∧aa W n0 (k undef) (h.set b (some ⟨B.elem,B.own,B.cells.set off (.int j x)⟩)) n Q:=uN b off _ k hb rfl
theorem Lr(x:Bool):aa W n0 (aK (.pointer (some ⟨b,off,none⟩)) (.bool x) k) h n Q↔qF (h.get b) fun B=>B.own=true∧off<B.cells.length∧(n0<=b∨W b)∧aa W n0 (k undef) (h.set b (some ⟨B.elem,B.own,B.cells.set off (.bool x)⟩)) n Q:=uN b off _ k hb rfl
theorem Ls(x:ByteArray):aa W n0 (aK (.pointer (some ⟨b,off,none⟩)) (.string x) k) h n Q↔qF (h.get b) fun B=>B.own=true∧off<B.cells.length∧(n0<=b∨W b)∧aa W n0 (k undef) (h.set b (some ⟨B.elem,B.own,B.cells.set off (.string x)⟩)) n Q:=uN b off _ k hb rfl
theorem Lt(x:Option Addr):aa W n0 (aK (.pointer (some ⟨b,off,none⟩)) (.pointer x) k) h n Q↔qF (h.get b) fun B=>B.own=true∧off<B.cells.length∧(n0<=b∨W b)∧aa W n0 (k undef) (h.set b (some ⟨B.elem,B.own,B.cells.set off (.pointer x)⟩)) n Q:=uN b off _ k hb rfl
theorem Lu(x:Option Addr)(l c:Nat):aa W n0 (aK (.pointer (some ⟨b,off,none⟩)) (.slice x l c) k) h n Q↔qF (h.get b) fun B=>B.own=true∧off<B.cells.length∧(n0<=b∨W b)∧aa W n0 (k undef) (h.set b (some ⟨B.elem,B.own,B.cells.set off (.slice x l c)⟩)) n Q:=uN b off _ k hb rfl
end
theorem nI{b:Nat}{B:AB}(d:h.get b=some B)(f:b<n):∀(c k:Nat),k+c<=B.cells.length->∃L,cc b k c h n=some ⟨(B.cells.drop k).take c,h,n,L⟩∧∀e∈L,e.wr=false
 |0,k,_=>⟨[],by rw[List.take_zero];rfl,jS⟩
 |c+1,k,j=>by
  obtain⟨L,e,g⟩:=nI d f c (k+1) jO;have a:k<B.cells.length:=jO;refine⟨[⟨false,b,some k⟩]++(L++[]), ?_, ?_⟩
  ·unfold cc
   have i:rd b k h n=some ⟨B.cells[k],h,n,[⟨false,b,some k⟩]⟩:=by unfold rd;simp only[f,d,if_true,aC a]
   refine bz i (bz e ?_);rw[List.drop_eq_getElem_cons a,List.take_succ_cons];rfl
  ·intro x hx;simp only[bV,p8,ox,vM,or_false]at hx;rcases hx with rfl|hx
   ·rfl
   ·exact g x hx
theorem uO{b:Nat}{B:AB}(a:h.get b=some B)(c:b<n):gd b h n=some ⟨B.elem,h,n,[⟨false,b,some 1099511627776⟩]⟩:=by unfold gd;simp only[c,a,if_true]
theorem Lv{b:Nat}{B:AB}(c:h.get b=some B)(a:B.own=true)(d:b<n):kill b h n=some ⟨(),h.set b none,n,[⟨false,b,none⟩,⟨true,b,none⟩]⟩:=by unfold kill;simp only[d,c,a,if_true]
def Src(h:H)(n:Nat)(x:Value)(news:List Value):Prop:=∃b a c B,x= .slice (some ⟨b,a,none⟩) news.length c∧h.get b=some B∧b<n∧a+news.length<=B.cells.length∧(B.cells.drop a).take news.length=news
theorem Src.run{x:Value}{news:List Value}(s:Src h n x news):∃L,iE 1 news.length x h n=some ⟨news,h,n,L⟩∧(∀e∈L,e.wr=false)∧fx x=some news.length:=by obtain⟨b,a,c,B,rfl,g,i,f,d⟩:=s;obtain⟨L,e,j⟩:=nI g i news.length a f;refine⟨L, ?_,j,rfl⟩;unfold iE;rw[yu];show cc b a news.length h n=_;rw[e,d]
theorem Lw{T:Prop}(c:T){e:TypeId}{x:Value}{news:List Value}(b:fx x=some 0)(a:Option Addr)(l cp:Nat)(k:Value->M β)(y:aa W n0 (k (.slice a l cp)) h n Q):aa W n0 (cN e 1 (.slice a l cp) x k) h n Q:=by refine gx (pd (a:= .slice a l cp) ?_ (ag n) y);unfold kP;simp only[b];rfl
theorem Lx {T:Prop} (c:T) {e:TypeId} {x:Value} {news:List Value} (s:Src h n x news) (p:0<news.length) (i:news.length<=1099511627776) (h1:news.all one=true) (k:Value->M β)
 (y:aa W n0 (k (.slice (some ⟨n,0,none⟩) news.length (aL+news.length))) (h.set n (some ⟨e,true,news⟩)) (n+1) Q):aa W n0 (cN e 1 (.slice none 0 0) x k) h n Q:=by
 obtain⟨L,o,m,l⟩:=s.run
 have j:kP e 1 (.slice none 0 0) x h n=some ⟨.slice (some ⟨n,0,none⟩) news.length (aL+news.length),h.set n (some ⟨e,true,news⟩),n+1,L⟩:=by
  unfold kP;rw[qw,j0];simp only[l];rw[if_neg jO,if_pos i]
  have g:(if(decide (news.length=news.length*1)&&news.all one)=true then(cJ e ([]++news)).bind fun id=>M.ret (fN (some ⟨id,0,none⟩) (0+news.length) (aL+(0+news.length)))else M.fail) h n=some ⟨.slice (some ⟨n,0,none⟩) news.length (aL+news.length),h.set n (some ⟨e,true,news⟩),n+1,[]⟩:=by rw[if_pos (by simp;simpa using h1)];simp only[fD,p7];exact bz (uM _ _ _ _) rfl
  have:=bz (f:=fun a=>if(decide (a.length=news.length*1)&&a.all one)=true then(cJ e ([]++a)).bind fun id=>M.ret (fN (some ⟨id,0,none⟩) (0+news.length) (aL+(0+news.length)))else M.fail) o g;simpa using this
 refine gx (aa.step (hH j) (cI n) (fun x d b=> ?_) y);rw[m x (List.mem_filter.1 d).1]at b;cases b
theorem Ly {T:Prop} (c:T) {e:TypeId} {x:Value} {news olds:List Value} (s:Src h n x news) (B:0<news.length) (h1:news.all one=true) {b cp:Nat} {cs:List Value} (d:h.get b=some ⟨e,true,cs⟩) (f:b<n) (off l:Nat)
 (q:off+l<=cs.length) (o:(cs.drop off).take l=olds) (p:l+news.length<=1099511627776) (A:aL<=cp) (m:n0<=b∨W b) (k:Value->M β)
 (y:aa W n0 (k (.slice (some ⟨n,0,none⟩) (l+news.length) (aL+(l+news.length)))) ((h.set b none).set n (some ⟨e,true,olds++news⟩)) (n+1) Q):aa W n0 (cN e 1 (.slice (some ⟨b,off,none⟩) l cp) x k) h n Q:=by
 obtain⟨L,w,v,u⟩:=s.run;obtain⟨z,t,r⟩:=nI (n:=n) d f l off q
 have i:∃j,kP e 1 (.slice (some ⟨b,off,none⟩) l cp) x h n=some ⟨.slice (some ⟨n,0,none⟩) (l+news.length) (aL+(l+news.length)),(h.set b none).set n (some ⟨e,true,olds++news⟩),n+1,j⟩∧∀e∈j,e.wr=true->e.b=b:=by
  refine⟨[⟨false,b,some 1099511627776⟩]++(L++(z++([⟨false,b,none⟩,⟨true,b,none⟩]++[]))), ?_, ?_⟩
  ·unfold kP uE;rw[qw,j0,qu,zs,mE];simp only[u];rw[if_neg jO,if_pos p];refine bz (uO d f) ?_;simp only[if_true];refine bz w ?_;rw[if_pos (by simp;simpa using h1)];rw[if_neg jO,yu];refine bz t (bz (Lv d rfl f) ?_);rw[o];exact bz (uM _ _ _ _) rfl
  ·intro x hx a;simp only[p8,ox,vM,or_false]at hx;rcases hx with rfl|hx|hx|rfl|rfl
   ·cases a
   ·rw[v x hx]at a;cases a
   ·rw[r x hx]at a;cases a
   ·cases a
   ·rfl
 obtain⟨j,i,g⟩:=i;refine gx (aa.step (hH i) (cI n) (fun x hx a=> ?_) y);rw[g x (List.mem_filter.1 hx).1 a];exact m
theorem Yy {T:Prop} (c:T) {e:TypeId} {x:Value} {news olds:List Value} (s:Src h n x news) (D:0<news.length) (h1:news.all one=true) {b cp:Nat} {B:AB} (i:h.get b=some B) (q:B.elem=e) (j:b<n) (off l:Nat)
 (p:off+l<=B.cells.length) (m:(B.cells.drop off).take l=olds) (o:l+news.length<=1099511627776) (r:cp<aL) (C:cp<l+news.length) (k:Value->M β)
 (y:aa W n0 (k (.slice (some ⟨n,0,none⟩) (l+news.length) (aL+(l+news.length)))) (h.set n (some ⟨e,true,olds++news⟩)) (n+1) Q):aa W n0 (cN e 1 (.slice (some ⟨b,off,none⟩) l cp) x k) h n Q:=by
 obtain⟨L,z,w,v⟩:=s.run;obtain⟨A,u,t⟩:=nI (n:=n) i j l off p
 have f:∃g,kP e 1 (.slice (some ⟨b,off,none⟩) l cp) x h n=some ⟨.slice (some ⟨n,0,none⟩) (l+news.length) (aL+(l+news.length)),h.set n (some ⟨e,true,olds++news⟩),n+1,g⟩∧∀e∈g,e.wr=false:=by
  refine⟨[⟨false,b,some 1099511627776⟩]++(L++(A++[])), ?_, ?_⟩
  ·unfold kP uE;rw[qw,j0,qu,mE];simp only[v];rw[if_neg jO,if_pos o];refine bz (uO i j) ?_;simp only[q,if_true];refine bz z ?_;rw[if_pos (by simp;simpa using h1)];rw[if_pos r,if_neg jO,yu];refine bz u ?_;rw[m];exact bz (uM _ _ _ _) rfl
  ·intro x hx;simp only[bV,p8,ox,vM,or_false]at hx;rcases hx with rfl|hx|hx
   ·rfl
   ·exact w x hx
   ·exact t x hx
 obtain⟨g,f,d⟩:=f;refine gx (aa.step (hH f) (cI n) (fun x hx a=> ?_) y);rw[d x (List.mem_filter.1 hx).1]at a;cases a
theorem zU {T:Prop} (c:T) {e:TypeId} {v:Value} (d:one v=true) {b cp l:Nat} {cs:List Value} (j:h.get b=some ⟨e,true,cs⟩) (o:b<n) (i:cs.length=l) (g:l+1<=1099511627776) (m:aL<=cp) (f:n0<=b∨W b) (k:Value->M β)
 (y:aa W n0 (k (.slice (some ⟨n+1,0,none⟩) (l+1) (aL+(l+1)))) (((h.set n (some ⟨e,true,[v]⟩)).set b none).set (n+1) (some ⟨e,true,cs++[v]⟩)) (n+2) Q):aa W n0 (db e 1 v fun w=>cN e 1 (.slice (some ⟨b,0,none⟩) l cp) w k) h n Q:=by
 refine Lj c d _ ?_;have a:(h.set n (some ⟨e,true,[v]⟩)).get b=some ⟨e,true,cs⟩:=by rw[ak _ _ jO];exact j
 exact Ly c (news:=[v]) (olds:=cs) ⟨n,0,1,⟨e,true,[v]⟩,rfl,get_eq _ _ _,dL n,jS,jS⟩ jS (by simp[d]) a jO 0 l jO (by rw[dj,<-i,fi]) g m f k y
theorem Lz {T:Prop} (c:T) {e:TypeId} {v:Value} (a:one v=true) (k:Value->M β)
 (y:aa W n0 (k (.slice (some ⟨n+1,0,none⟩) 1 (aL+1))) ((h.set n (some ⟨e,true,[v]⟩)).set (n+1) (some ⟨e,true,[v]⟩)) (n+2) Q):aa W n0 (db e 1 v fun w=>cN e 1 (.slice none 0 0) w k) h n Q:=by
 refine Lj c a _ ?_;exact Lx c (news:=[v]) ⟨n,0,1,⟨e,true,[v]⟩,rfl,get_eq _ _ _,dL n,jS,jS⟩ jS jS (by simp[a]) k y
theorem wB(d:Nat):dE none d=some d:=rfl
theorem uP {T r:Prop} (c:T) {e:TypeId} {b:Nat} {B:AB} (g:h.get b=some B) (i:B.elem=e) (j:b<n) (off len cp:Nat) (lo d:Option Value) {l hh:Nat} (a:dE lo 0=some l) (f:dE d len=some hh) (h1:l<=hh) (h2:hh<=len) (s:len<=cp) (k:Value->M β) (_:r)
 (y:aa W n0 (k (.slice (some ⟨b,if cp=l then off else off+l,none⟩) (hh-l) (cp-l))) h n Q):aa W n0 (j5 e 1 (.slice (some ⟨b,off,none⟩) len cp) lo d k) h n Q:=by
 refine gx ?_
 have p:((uC b).bind fun q=>match bq q e with
  |true=>M.lift (o7 1 (some ⟨b,off,none⟩) len cp lo d)
  |false=> .fail) h n=some ⟨.slice (some ⟨b,if cp=l then off else off+l,none⟩) (hh-l) (cp-l),h,n,[⟨false,b,some 1099511627776⟩]++[]⟩:=by
  rw[qu];refine bz (uO g j) ?_;rw[i,rq];simp only;unfold o7;simp only[a,f];have:(decide (l<=hh)&&decide (hh<=cp)&&decide (cp<=cp)&&(decide (cp<aL)||(none:Option Value).isNone&&decide (hh<=len)))=true:=by simp;omega
  simp only[this,if_true,yu];rfl
 obtain⟨t,o,m⟩:=wA (W:=W) (n0:=n0) p jS;exact aa.step o (ag _) m y
theorem pe(k:IntKind)(x d:Nat):dE (some (.int k (x:Int))) d=some x:=by unfold dE;simp
theorem LA{P:Program}(hd:lW P=true){gt:Nat->Hint}{lf d:Nat}{f:FuncId}{args:Array Value}{v:Value}{L:List En}(e:ah P gt lf d f args h n=some ⟨v,h1,n1,L⟩){c:Nat->Prop}(g:∀e∈L,e.wr=true->n<=e.b∨c e.b):∀b,b<n->¬c b->h1.get b=h.get b:=by
 obtain⟨a,o⟩:=ER hd d f args h n v h1 n1 L e;have A:=Loc.cq P KN a f args h n v h1 n1 L (o a (ag _));intro b p i;refine Dt fun k=>A.frame b k ?_ jO;rintro⟨e,j,m,l,_⟩;rcases g e j m with q|q
 ·omega
 ·exact i (l▸q)
theorem aJ {P:Program} (hd:lW P=true) {gt:Nat->Hint} {lf d:Nat} {f:FuncId} {vs:List Value} {g:Nat->Prop} {Q':Value->H->Nat->Prop} (s:aa g n (ah P gt lf d f ⟨vs⟩) h n Q') (u:n0<=n) (p:∀b,b<n->g b->n0<=b∨W b) {k:Value->M β}
 (x:∀v h1 n1,n<=n1->(∀b,b<n->¬g b->h1.get b=h.get b)->Q' v h1 n1->aa W n0 (k v) h1 n1 Q):aa W n0 (aj (ah P gt lf d) f vs k) h n Q:=by
 obtain⟨v,h1,n1,L,l,j,i,t⟩:=s;refine gx (m:=ah P gt lf d f ⟨vs⟩) (aa.step (hH l) j (fun e o a=> ?_) (x v h1 n1 j (LA hd l i) t));have r:=(List.mem_filter.1 o).1;rcases i e r a with q|q
 ·exact .inl jO
 ·by_cases c:e.b<n
  ·exact p _ c q
  ·exact .inl jO
end
section
variable {β:Type} {W:Nat->Prop} {n0:Nat} {h h1:H} {n n1:Nat} {Q:β->H->Nat->Prop}
theorem Yz(v:Value)(k:Value->M β):(inside (M.ret v)).bind k=k v:=by
 have:inside (M.ret v)=M.ret v:=by funext h n;rfl
 rw[this,my]
theorem YA{T:Prop}(c:T){e:TypeId}(k:Value->M β)(x:aa W n0 (k (.slice (some ⟨n,0,none⟩) 0 0)) (h.set n (some ⟨e,true,[]⟩)) (n+1) Q):aa W n0 (o6 e [] 0 [] k) h n Q:=
 gx (pd (nH _ _ (fun id=>fN (some ⟨id,0,none⟩) 0 0) _ _) (cI n) x)
theorem pf(m:M β):lV true m=m:=rfl
theorem r3{m:M Value}{v:Value}{L:List En}{k:Value×Tk->M β}(e:m h n=some ⟨v,h1,n1,L⟩)(b:n<=n1)(a:∀e∈L,e.wr=true->n0<=e.b∨W e.b)(x:aa W n0 (k (v,⟨n,n1,L⟩)) h1 n1 Q):aa W n0 ((bk m).bind k) h n Q:=
 aa.step (yX e) b a x
theorem YB{m:M Value}{v:Value}{L:List En}(e:m h n=some ⟨v,h1,n1,L⟩):(m.bind fun v=>M.ret v) h n=some ⟨v,h1,n1,L⟩:=by have:=bz (f:=fun v=>M.ret v) e (L2:=[]) (b:=v) (h2:=h1) (n2:=n1) rfl;rwa[bV]at this
theorem wC{m:M Value}{v:Value}{L:List En}(e:m h n=some ⟨v,h1,n1,L⟩):(dy m M.ret) h n=some ⟨v,h1,n1,L.filter fun e=> !(decide (n<=e.b)&&decide (e.b<n1))⟩:=by rw[j3];exact YB (hH e)
theorem E1{T:Prop}(_:T)(b off:Nat)(k:Value×Tk->M β){B:AB}(d:h.get b=some B)(g:b<n){v:Value}(c:B.cells[off]? =some v)(x:aa W n0 (k (v,⟨n,n,[⟨false,b,some off⟩]⟩)) h n Q):aa W n0 ((bk (aG (.pointer (some ⟨b,off,none⟩)) M.ret)).bind k) h n Q:=by
 have e:uB b off h n=some ⟨v,h,n,[⟨false,b,some off⟩]⟩:=by rw[zo];unfold rd;simp only[g,d,c,if_true]
 have a:=wC e
 have f:[(⟨false,b,some off⟩:En)].filter (fun e=> !(decide (n<=e.b)&&decide (e.b<n)))=[⟨false,b,some off⟩]:=by simp;omega
 rw[f]at a;exact r3 a (ag _) jS x
theorem LB{T:Prop}(_:T){t:TypeId}(v:Value)(k:Value×Tk->M β)(x:aa W n0 (k (.pointer (some ⟨n,0,none⟩),⟨n,n+1,[]⟩)) (h.set n (some ⟨t,true,v.cells.toList⟩)) (n+1) Q):aa W n0 ((bk (fp t v M.ret)).bind k) h n Q:=by rw[<-mG]at x;exact r3 (wC (nH t (cS v) (fun id=>C7 (some ⟨id,0,none⟩)) h n)) (cI n) jS x
theorem E2 {P:Program} (hd:lW P=true) {gt:Nat->Hint} {lf d:Nat} {f:FuncId} {vs:List Value} {i:Nat->Prop} {Q':Value->H->Nat->Prop} (s:aa i n (ah P gt lf d f ⟨vs⟩) h n Q') (y:n0<=n) (r:∀b,b<n->i b->n0<=b∨W b) {k:Value×Tk->M β}
 (x:∀v h1 n1 L,n<=n1->(∀b,b<n->¬i b->h1.get b=h.get b)->Q' v h1 n1->(∀e∈L,e.b<n)->(∀e∈L,e.wr=true->i e.b)->aa W n0 (k (v,⟨n,n1,L⟩)) h1 n1 Q):aa W n0 ((bk (aj (ah P gt lf d) f vs M.ret)).bind k) h n Q:=by
 obtain⟨v,h1,n1,L,l,p,o,u⟩:=s;obtain⟨m,w⟩:=ER hd d f ⟨vs⟩ h n v h1 n1 L l;have A:=Loc.cq P KN m f ⟨vs⟩ h n v h1 n1 L (w m (ag _))
 have a:∀e∈L.filter (fun e=> !(decide (n<=e.b)&&decide (e.b<n1))),e.b<n:=fun e c=>by obtain⟨h1,t⟩:=List.mem_filter.1 c;have:=A.lt e h1;simp at t;omega
 have g:∀e∈L.filter (fun e=> !(decide (n<=e.b)&&decide (e.b<n1))),e.wr=true->i e.b:=fun e c j=>by
  rcases o e (List.mem_filter.1 c).1 j with q|q
  ·have:=a e c;omega
  ·exact q
 exact r3 (wC l) p (fun e c j=>r _ (a e c) (g e c j)) (x v h1 n1 _ p (LA hd l o) u a g)
theorem YC{a:Tk}{b k n2:Nat}(d:∀e∈a.log,e.wr=false)(f:b<a.n):a.gf ⟨n2,n2,[⟨false,b,some k⟩]⟩=false:=by
 unfold Tk.gf;simp only[yl];refine⟨⟨⟨any_false fun x c=>by rw[d x c];rfl,any_false fun x c=> ?_⟩,any_false fun x c=> ?_⟩,any_false fun x c=> ?_⟩
 ·simp only[ox,vM,or_false]at c;subst c;rfl
 ·first|(simp;done)|(simp;omega)
 ·simp only[ox,vM,or_false]at c;subst c;first|(simp;done)|(simp;omega)
end
section
variable {β:Type} {W:Nat->Prop} {n0:Nat} {h h1:H} {n n1:Nat} {Q:β->H->Nat->Prop}
def aq(v:Value)(b:Nat):Prop:=∃o l c,v= .slice (some ⟨b,o,none⟩) l c
def Own(h:H)(lo n:Nat)(e:TypeId)(v:Value)(cs:List Value):Prop:=(v= .slice none 0 0∧cs=[])∨∃b,v= .slice (some ⟨b,0,none⟩) cs.length (aL+cs.length)∧h.get b=some ⟨e,true,cs⟩∧lo<=b∧b<n
theorem Own.nil(h:H)(lo n:Nat)(e:TypeId):Own h lo n e (.slice none 0 0) []:= .inl ⟨rfl,rfl⟩
theorem aq.inj{b c o l k:Nat}(h:aq (.slice (some ⟨b,o,none⟩) l k) c):c=b:=by obtain⟨_,_,_,h⟩:=h;cases h;rfl
theorem aq.not_nil{l k c:Nat}(h:aq (.slice none l k) c):False:=by obtain⟨_,_,_,h⟩:=h;cases h
theorem Own.lt{lo:Nat}{e:TypeId}{v:Value}{cs:List Value}(o:Own h lo n e v cs){b:Nat}(a:aq v b):lo<=b∧b<n:=by
 rcases o with ⟨rfl,_⟩|⟨c,rfl,_,h1,d⟩
 ·exact a.not_nil.elim
 ·rw[a.inj];exact⟨h1,d⟩
theorem Own.ar{lo:Nat}{e:TypeId}{v:Value}{cs:List Value}{h':H}{n':Nat}(o:Own h lo n e v cs)(f:n<=n')(a:∀b,aq v b->h'.get b=h.get b):Own h' lo n' e v cs:=by
 rcases o with q|⟨c,rfl,d,h1,g⟩
 ·exact .inl q
 ·exact .inr ⟨c,rfl,(a c ⟨_,_,_,rfl⟩).trans d,h1,jO⟩
theorem Own.low{lo a:Nat}{e:TypeId}{v:Value}{cs:List Value}(o:Own h lo n e v cs)(g:a<=lo):Own h a n e v cs:=by
 rcases o with q|⟨c,b,d,h1,f⟩
 ·exact .inl q
 ·exact .inr ⟨c,b,d,jO,f⟩
theorem nJ {T:Prop} (c:T) {e:TypeId} {x:Value} (a:one x=true) {lo:Nat} {v:Value} {cs:List Value} (o:Own h lo n e v cs) (g:cs.length+1<=1099511627776) (i:n0<=lo) (k:Value->M β)
 (y:∀h',h'.get (n+1)=some ⟨e,true,cs++[x]⟩->(∀b,b<n->¬aq v b->h'.get b=h.get b)->aa W n0 (k (.slice (some ⟨n+1,0,none⟩) (cs.length+1) (aL+(cs.length+1)))) h' (n+2) Q):aa W n0 (db e 1 x fun w=>cN e 1 v w k) h n Q:=by
 rcases o with ⟨rfl,rfl⟩|⟨b,rfl,d,h1,j⟩
 ·exact Lz c a k (y _ (get_eq _ _ _) fun b d _=>by rw[ak _ _ jO,ak _ _ jO])
 ·refine zU c a d j rfl g jO (.inl jO) k (y _ (get_eq _ _ _) fun c l f=> ?_);have:c≠b:=fun e=>f ⟨0,_,_,by rw[e]⟩;rw[ak _ _ jO,ak _ _ this,ak _ _ jO]
theorem Own.mk'{lo b:Nat}{e:TypeId}{cs:List Value}(c:h.get b=some ⟨e,true,cs⟩)(h1:lo<=b)(h2:b<n){l:Nat}(a:l=cs.length):Own h lo n e (.slice (some ⟨b,0,none⟩) l (aL+l)) cs:= .inr ⟨b,by rw[a],c,h1,h2⟩
def aR(k:IntKind)(xs:List Int):List Value:=xs.map (Value.int k)
theorem cO(k:IntKind)(xs:List Int):(aR k xs).length=xs.length:=by unfold aR;simp
theorem LC{k:IntKind}{xs:List Int}{i:Nat}(h:i<xs.length):(aR k xs)[i]? =some (.int k (xs.getD i 0)):=by unfold aR;simp[h]
theorem E3(k:IntKind)(xs:List Int):(aR k xs).all one=true:=by unfold aR;simp[one]
def Row(h:H)(n:Nat)(e:TypeId)(k:IntKind)(v:Value)(xs:List Int):Prop:=
 (∃a c,v= .slice a 0 c∧(∀b o,a≠some ⟨b,o,none⟩)∧xs=[])∨∃b d cap o f,v= .slice (some ⟨b,d,none⟩) xs.length cap∧h.get b=some ⟨e,o,f⟩∧b<n∧d+xs.length<=f.length∧(f.drop d).take xs.length=aR k xs∧xs.length<=cap
theorem Row.ar{e:TypeId}{k:IntKind}{v:Value}{xs:List Int}{h':H}{n':Nat}(r:Row h n e k v xs)(j:n<=n')(d:∀b,b<n->h'.get b=h.get b):Row h' n' e k v xs:=by
 rcases r with q|⟨b,a,cap,o,i,c,f,g,r⟩
 ·exact .inl q
 ·exact .inr ⟨b,a,cap,o,i,c,(d b g).trans f,jO,r⟩
theorem Row.fz{e:TypeId}{k:IntKind}{v:Value}{xs:List Int}{h':H}{n':Nat}(r:Row h n e k v xs)(i:n<=n')(d:∀b,aq v b->h'.get b=h.get b):Row h' n' e k v xs:=by
 rcases r with q|⟨b,a,cap,o,g,c,f,j,r⟩
 ·exact .inl q
 ·exact .inr ⟨b,a,cap,o,g,c,(d b ⟨_,_,_,c⟩).trans f,jO,r⟩
theorem Row.lt{e:TypeId}{k:IntKind}{v:Value}{xs:List Int}(r:Row h n e k v xs){b:Nat}(g:aq v b):b<n:=by
 rcases r with ⟨a,c,rfl,d,_⟩|⟨c,i,cap,o,m,rfl,j,f,_⟩
 ·obtain⟨o,l,k,q⟩:=g;cases q;exact absurd rfl (d b o)
 ·rw[g.inj];exact f
theorem Row.some{e:TypeId}{k:IntKind}{v:Value}{xs:List Int}(r:Row h n e k v xs)(q:0<xs.length):∃b off cap o cs,v= .slice (some ⟨b,off,none⟩) xs.length cap∧h.get b=some ⟨e,o,cs⟩∧b<n∧off+xs.length<=cs.length∧(cs.drop off).take xs.length=aR k xs∧xs.length<=cap∧∀i,i<xs.length->cs[off+i]? =some (.int k (xs.getD i 0)):=by
 rcases r with ⟨a,c,_,_,rfl⟩|⟨b,off,cap,o,cs,g,l,p,j,d,m⟩
 ·simp at q
 ·refine⟨b,off,cap,o,cs,g,l,p,j,d,m,fun i f=> ?_⟩;have:=congrArg (fun z=>z[i]?) d;simp only[List.getElem?_take,f,if_true,List.getElem?_drop]at this;rw[this,LC f]
theorem Row.len{e:TypeId}{k:IntKind}{v:Value}{xs:List Int}(r:Row h n e k v xs):∃a c,v= .slice a xs.length c:=by
 rcases r with ⟨a,c,rfl,_,rfl⟩|⟨b,d,cap,o,f,rfl,_⟩
 ·exact⟨a,c,rfl⟩
 ·exact⟨_,cap,rfl⟩
theorem Own.row{lo:Nat}{e:TypeId}{k:IntKind}{v:Value}{xs:List Int}(o:Own h lo n e v (aR k xs)):Row h n e k v xs:=by
 rcases o with ⟨rfl,q⟩|⟨b,rfl,a,_,c⟩
 ·exact .inl ⟨none,0,rfl,fun _ _ q=>(nomatch q),by unfold aR at q;simpa using q⟩
 ·rw[cO];exact .inr ⟨b,0,aL+xs.length,true,_,rfl,a,c,by rw[cO];omega,by rw[dj,fZ (by rw[cO];omega)],jO⟩
theorem Row.src{e:TypeId}{k:IntKind}{v:Value}{xs:List Int}(r:Row h n e k v xs)(j:0<xs.length):Src h n v (aR k xs):=by obtain⟨b,a,cap,o,l,c,g,i,f,d,m,_⟩:=r.some j;exact⟨b,a,cap,⟨e,o,l⟩,by rw[c,cO],g,i,by rw[cO];exact f,by rw[cO];exact d⟩
theorem LD {T:Prop} (c:T) {e:TypeId} {lo:Nat} {v w:Value} {cs:List Value} {k:IntKind} {ys:List Int} {E:TypeId} (o:Own h lo n e v cs) (r:Row h n E k w ys) (m:cs.length+ys.length<=1099511627776) (A:n0<=lo) (f:lo<=n) (d:Value->M β)
 (y:∀j h' n',n<=n'->Own h' lo n' e j (cs++aR k ys)->(∀b,aq j b->aq v b∨n<=b)->(∀b,b<n->¬aq v b->h'.get b=h.get b)->aa W n0 (d j) h' n' Q):aa W n0 (cN e 1 v w d) h n Q:=by
 by_cases D:ys.length=0
 ·have t:ys=[]:=List.length_eq_zero_iff.1 D;subst t;obtain⟨a,I,u⟩:=r.len;have g:fx w=some 0:=by rw[u];rfl
  obtain⟨G,q,F,x⟩:∃a l c,v= .slice a l c:=by
   rcases o with ⟨rfl,_⟩|⟨b,rfl,_⟩
   ·exact⟨_,_,_,rfl⟩
   ·exact⟨_,_,_,rfl⟩
  subst x;refine Lw (news:=[]) c g G q F d ?_;exact y _ h n (ag n) (by simpa[aR]using o) (fun b i=> .inl i) (fun b _ _=>rfl)
 ·have s:=r.src jO;have g:=cO k ys;rcases o with ⟨rfl,rfl⟩|⟨b,rfl,B,h1,C⟩
  ·refine Lx c s jO (by rw[g];simp at m;omega) (E3 k ys) d ?_;refine y _ _ (n+1) (cI n) (.inr ⟨n,rfl,by rw[get_eq];simp,f,dL n⟩) (fun b i=> .inr (by rw[i.inj];exact ag n)) (fun b i _=>ak _ _ jO)
  ·refine Ly c s jO (E3 k ys) B C 0 cs.length jO (by rw[dj,fi]) (by rw[g];exact m) jO (.inl jO) d ?_;refine y _ _ (n+1) (cI n) (.inr ⟨n,jS,get_eq _ _ _,f,dL n⟩) (fun c p=> .inr (by rw[p.inj];exact ag n)) (fun c p z=> ?_);have:c≠b:=fun e=>z ⟨0,_,_,by rw[e]⟩;rw[ak _ _ jO,ak _ _ this]
end
end Go.Proofs.YtcehhgppfahbkaaGreatDoor.Ev
namespace Go.Proofs.YtcehhgppfahbkaaGreatDoor.Ev
open Go Go.RowKit
theorem LF{w:World}{b off:Nat}{v:Value}(h:w.cell? ⟨b,off,none⟩=some v):∃cs e c,w.heap[b]? =some (.cells cs e c)∧cs[off]? =some v:=by
 unfold World.cell? at h;cases a:w.heap[b]? with
 |none=>simp[a]at h
 |some o=>
  cases o with
  |cells cs e c=>exact⟨cs,e,c,rfl,by simpa[a]using h⟩
  |_=>simp[a]at h
structure Laid (P:Program) (w:World) (m:Mp) (h:H) (n:Nat):Prop where
 wr:WR P m w.heap.size h w.heap
 gl:Gl P m
 fresh:∀b,n<=b->m b=none
 own:∀b B,h.get b=some B->B.own=false
 YD:P.globals.size<=n
theorem YE{P:Program}{w:World}{g:Nat}(r:g<P.globals.size){cs:Array Value}{e n:TypeId}{h:Nat×Nat}(o:w.heap[g]? =some (.cells cs n h)){sz:Nat}(s:size? P e=some sz){vs:List Value}(p:vs.length<=cs.size)(i:∀(k:Nat) (v:Value),vs[k]? =some v->cs[k]? =some v∧scalar v=true):
 ∃m,Laid P w m (H.set .nil g (some ⟨e,false,vs⟩)) P.globals.size:=by
 have only:∀b B,(H.set .nil g (some ⟨e,false,vs⟩)).get b=some B->b=g∧B=⟨e,false,vs⟩:=fun b B a=>by
  by_cases l:b=g
  ·subst l;rw[get_eq]at a;cases a;exact⟨rfl,rfl⟩
  ·rw[ak _ _ l]at a;unfold H.get at a;rw[Tr.get_nil]at a;cases a
 refine⟨fun c=>if c<P.globals.size then some ⟨c,0,cs.size,sz,n⟩else none,⟨fun b B a=> ?_,fun b u B x d z a f y=> ?_⟩,fun c t=>⟨_,if_pos t,rfl,rfl⟩,fun b a=>if_neg jO,fun b B a=> ?_,ag _⟩
 ·obtain⟨rfl,rfl⟩:=only b B a;exact⟨_,cs,h.1,h.2,if_pos r,o,rfl,by simpa using p,s,fun q=>(by cases q),fun k v j=>⟨v,by simpa using (i k v j).1,VR.self (i k v j).2⟩⟩
 ·obtain⟨rfl,_⟩:=only b B a;obtain⟨rfl,_⟩:=only u x f;exact fun _ _ _=>rfl
 ·obtain⟨_,rfl⟩:=only b B a;rfl
theorem YF{P:Program}{w:World}(hG:oO w){g:Nat}(i:g<P.globals.size){e:TypeId}{sz:Nat}(j:size? P e=some sz){vs:List Value}(l:0<vs.length)(f:∀(k:Nat) (v:Value),vs[k]? =some v->(g,k,v)∈KG)(d:vs.all scalar=true):
 ∃m,Laid P w m (H.set .nil g (some ⟨e,false,vs⟩)) P.globals.size:=by
 have c:∀(k:Nat) (v:Value),vs[k]? =some v->w.cell? ⟨g,k,none⟩=some v:=fun k v h=>hG _ (f k v h);obtain⟨n,p,o,b,_⟩:=LF (c 0 vs[0] (aC l))
 have a:∀(k:Nat) (v:Value),vs[k]? =some v->n[k]? =some v:=fun k v h=>by have:=c k v h;rwa[rE w _ _ b]at this
 refine YE i b j ?_ fun k v h=>⟨a k v h,List.all_eq_true.1 d v (List.mem_of_getElem? h)⟩;have:=(Array.getElem?_eq_some_iff.1 (a (vs.length-1) vs[vs.length-1] (aC jO))).1;omega
theorem YG{P:Program}{c:List FuncId}(i:qi P=true)(g:oK P c=true)(d:P.follows .mixedOrders=true)(j:rI P c){fuel:Nat}{f:FuncId}{w:World}{m:Mp}{h:H}(x:Laid P w m h P.globals.size)(a:yJ (cq P c fuel f #[] h P.globals.size)=true):
 Calls P f #[] w fun e w'=>e= .returned (.bool true)∧Below w.heap.size w w':=by
 unfold yJ at a;split at a
 ·rename_i o q;obtain⟨v,k,l,L⟩:=o;simp only at a;split at a
  ·rename_i b t;subst a;refine(Jw i g d j fuel f #[] h P.globals.size _ k l L m w #[] q x.wr (ag w.heap.size) .nil (fun b k _=>x.fresh b k) x.gl).mono ?_;rintro e w' ⟨s,r,rfl,p,n⟩;refine⟨?_,p.below⟩;cases n;rfl
  ·cases a
 ·cases a
theorem YH {P:Program} (i:qi P=true) (g:oK P KN=true) (c:P.follows .mixedOrders=true) (j:rI P KN) (hd:lW P=true) {w:World} {m:Mp} {h:H} {n:Nat} (x:Laid P w m h n) {gt:Nat->Hint} {lf d:Nat} {f:FuncId} {args a:Array Value} (u:aT m args.toList a.toList)
 (r:aa (fun _=>False) n (ah P gt lf d f args) h n fun v _ _=>v= .bool true):Calls P f a w fun e w'=>e= .returned (.bool true)∧Below w.heap.size w w':=by
 obtain⟨v,o,l,L,y,B,_,rfl⟩:=r;obtain⟨p,k⟩:=ER hd d f args h n _ o l L y;refine(Jw i g c j p f args h n _ o l L m w a (k p (ag _)) x.wr (ag _) u (fun b t _=>x.fresh b t) x.gl).mono ?_;rintro e w' ⟨A,z,rfl,s,q⟩;refine⟨?_,s.below⟩;cases q;rfl
end Go.Proofs.YtcehhgppfahbkaaGreatDoor.Ev
namespace Go.Proofs.YtcehhgppfahbkaaGreatDoor.Ev
open Go
abbrev V3:=Value×Value×Value
section
variable {β:Type} {W:Nat->Prop} {n0:Nat} {h:H} {n:Nat} {Q:β->H->Nat->Prop} {e:TypeId}
theorem mK{sz:Nat}(b off:Nat)(k:Value->M β){B:AB}(d:h.get b=some B)(f:b<n)(c:off+sz<=B.cells.length)(x:aa W n0 (k (.agg ((B.cells.drop off).take sz).toArray)) h n Q):aa W n0 (bO sz (.pointer (some ⟨b,off,none⟩)) k) h n Q:=by
 obtain⟨L,l,j⟩:=nI d f sz off c;refine gx ?_
 have e:((gn b off sz).bind fun a=>M.ret (tZ ⟨a⟩)) h n=some ⟨.agg ((B.cells.drop off).take sz).toArray,h,n,L++[]⟩:=by rw[mE];exact bz l rfl
 obtain⟨m,i,g⟩:=wA (W:=W) (n0:=n0) e (by simpa using j);exact aa.step i (ag _) g x
theorem E4:∀(vs:List Value) (b off:Nat) (e:TypeId) (cs:List Value) (h:H) (n:Nat),h.get b=some ⟨e,true,cs⟩->b<n->off+vs.length<=cs.length->vs.all one=true->
 ∃h' L,dH b off vs h n=some ⟨(),h',n,L⟩∧h'.get b=some ⟨e,true,cs.take off++vs++cs.drop (off+vs.length)⟩∧(∀c,c≠b->h'.get c=h.get c)∧∀x∈L,x.b=b
 |[],b,off,e,cs,h,n,a,d,g,_=>⟨h,[],rfl,by simpa using a,fun _ _=>rfl,jS⟩
 |v::vs,b,off,e,cs,h,n,a,d,g,f=>by
  simp only[List.all_cons,bE]at f;simp only[bL]at g
  have k:wr b off v h n=some ⟨(),h.set b (some ⟨e,true,cs.set off v⟩),n,[⟨false,b,some off⟩,⟨true,b,some off⟩]⟩:=by unfold wr;have:off<cs.length:=jO;simp[d,a,this,f.1]
  obtain⟨h',L,r,p,o,m⟩:=E4 vs b (off+1) e (cs.set off v) (h.set b (some ⟨e,true,cs.set off v⟩)) n (get_eq _ _ _) d (by simp;omega) f.2;refine⟨h',_,bz k r, ?_,fun c i=>(o c i).trans (ak _ _ i),fun x j=> ?_⟩
  ·rw[p];congr 2
   have l:(cs.set off v).take (off+1)=cs.take off++[v]:=by rw[List.take_set,List.take_succ_eq_append_getElem jO,List.set_append_right _ _ (by simp;omega)];simp[Nat.min_eq_left (show off<=cs.length by omega)]
   have hd:(cs.set off v).drop (off+1+vs.length)=cs.drop (off+(v::vs).length):=by rw[List.drop_set_of_lt jO];congr 1;simp only[bL];omega
   rw[l,hd];simp
  ·rcases p8.1 j with q|q
   ·simp at q;rcases q with rfl|rfl<;>rfl
   ·exact m x q
theorem qG {T:Prop} (_:T) {sz b off:Nat} {e:TypeId} {cs vs:List Value} {v:Value} (j:v= .agg vs.toArray) (a:vs.length=sz) (o:vs.all one=true) (l:h.get b=some ⟨e,true,cs⟩) (m:b<n) (u:off+sz<=cs.length) (i:n0<=b∨W b) (k:Value->M β)
 (x:∀h',h'.get b=some ⟨e,true,cs.take off++vs++cs.drop (off+sz)⟩->(∀c,c≠b->h'.get c=h.get c)->aa W n0 (k undef) h' n Q):aa W n0 (bW sz (.pointer (some ⟨b,off,none⟩)) v k) h n Q:=by
 obtain⟨h',L,t,s,r,q⟩:=E4 vs b off e cs h n l m jO o;subst j
 have d:bW sz (.pointer (some ⟨b,off,none⟩)) (.agg vs.toArray) k=dy ((mD b off vs).bind fun _=> .ret undef) k:=by
  show(match bq (dU vs) sz with
   |true=>dy ((mD b off vs).bind fun _=> .ret undef) k
   |false=> .fail)=_
  rw[j1,a,rq]
 rw[d];refine gx ?_
 have p:((mD b off vs).bind fun _=>M.ret undef) h n=some ⟨undef,h',n,L++[]⟩:=by rw[wi];exact bz t rfl
 refine aa.step (hH p) (ag _) (fun y g f=> ?_) (x h' (by rw[s,a]) r);have:=(List.mem_filter.1 g).1;rw[bV]at this;rw[q y this];exact i
end
end Go.Proofs.YtcehhgppfahbkaaGreatDoor.Ev
