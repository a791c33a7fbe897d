import Derived.Test.YtcehhgppfahbkaaGreatDoorMab
import Derived.ProofKit
import Derived.OpenShut
open Nat renaming le_refl→ai, ble→bK, beq→bZ, le_succ→cH, lt_succ_self→dK, succ→ff, zero_add→fy, add_mul→fW, le_of_ble_eq_true→fX, add→fY, add_zero→gX, mod→j5, eq_of_beq_eq_true→kC, mod_eq_of_lt→lJ, ble_eq_true_of_le→lI, one_mul→r7, mod_lt→ux, beq_refl→uy, mul_one→xu
open List renaming getElem?_eq_getElem→aJ, replicate→bD, append_assoc→bW, length_cons→ct, append_nil→cz, drop_zero→dx, take_length→eh, take_of_length_le→fG, mem_cons_of_mem→fF, getElem?_eq_none→jM, mem_cons→nF, nil_append→pF, mem_append→qB, not_mem_nil→Ct, reverse_cons→adp, extract_eq_take_drop→ap2
open Bool renaming and_eq_true→cD, or_eq_true→mr, false_eq_true→nD, or_eq_false_iff→xq, false_ne_true→Oo, not_eq_true'→Oq
open BitVec renaming ofInt→dR, toNat_and→aqk, toNat_or→aql, toNat_xor→aqm
open Option.some renaming injEq→ep
open Int renaming natCast_nonneg→gY, ofNat→gF, toNat_of_nonneg→kS, fdiv_eq_ediv_of_nonneg→Oy, natCast_ediv→aqn
open Go.Region renaming wanted→fP
open Go.Value renaming slice→fZ, agg→uw, pointer→Hz
open Go renaming binOp→iB, convert→On
open Go.Instr renaming fill→lG, index→Cp, sliceAt→Ho, sliceBound→Oj
open Go.Op renaming equal→r4, equalIn→xr, bytesLess→Cq, stringOp→Ow, maxDepth→ap8, intDiv→aqh, shift→aqi
open Array renaming all_eq_true_iff_forall_mem→ur, getElem?_toList→Hr, length_toList→Hx
open Go.Next renaming value→Ox
open ByteArray renaming data_extract→adh, size→aqj
open Go.ByteArray renaming toList_eq→arW
set_option linter.unusedVariables false
set_option linter.unusedSimpArgs false
set_option linter.unusedSectionVars false
namespace Go.Proofs.YtcehhgppfahbkaaGreatDoor.Ev
open Go Go.RowKit
theorem hF{P:Program}{a:BinOp}{t:TypeId}{x y v:Value}(e:lO P t=false)(c:(scalar x&&scalar y)=true)(d:jg P (do pure (.value (<-iB a t x y)))=some v)(b:scalar v=true):dW P a t x y=some v:=by unfold dW Ic mJ;rw[e,c];simp only;rw[d];simp only[b]
section
variable {P:Program} {t:TypeId} {k:IntKind} (hn:lO P t=false) (a b:Int)
include hn
theorem aeT:dW P .add t (.int k a) (.int k b)=some (.int k (k.wrap (a+b))):=hF hn rfl (by unfold iB;simp only[ne_eq,not_true_eq_false,if_false];rfl) rfl
theorem aeU:dW P .sub t (.int k a) (.int k b)=some (.int k (k.wrap (a-b))):=hF hn rfl (by unfold iB;simp only[ne_eq,not_true_eq_false,if_false];rfl) rfl
theorem aeV:dW P .mul t (.int k a) (.int k b)=some (.int k (k.wrap (a*b))):=hF hn rfl (by unfold iB;simp only[ne_eq,not_true_eq_false,if_false];rfl) rfl
theorem aeW(c:b≠0):dW P .quo t (.int k a) (.int k b)=some (.int k (k.wrap (a.tdiv b))):=hF hn rfl (by unfold iB aqh;simp only[ne_eq,not_true_eq_false,if_false,c];rfl) rfl
theorem aeX(c:b≠0):dW P .rem t (.int k a) (.int k b)=some (.int k (a.tmod b)):=hF hn rfl (by unfold iB aqh;simp only[ne_eq,not_true_eq_false,if_false,c];rfl) rfl
theorem aeY:dW P .eql t (.int k a) (.int k b)=some (.bool (a==b)):=hF hn rfl (by unfold iB;simp only[ne_eq,not_true_eq_false,if_false];rfl) rfl
theorem aeZ:dW P .neq t (.int k a) (.int k b)=some (.bool (a !=b)):=hF hn rfl (by unfold iB;simp only[ne_eq,not_true_eq_false,if_false];rfl) rfl
theorem ae0:dW P .lss t (.int k a) (.int k b)=some (.bool (decide (a<b))):=hF hn rfl (by unfold iB;simp only[ne_eq,not_true_eq_false,if_false];rfl) rfl
theorem ae1:dW P .leq t (.int k a) (.int k b)=some (.bool (decide (a<=b))):=hF hn rfl (by unfold iB;simp only[ne_eq,not_true_eq_false,if_false];rfl) rfl
theorem ae2:dW P .gtr t (.int k a) (.int k b)=some (.bool (decide (b<a))):=hF hn rfl (by unfold iB;simp only[ne_eq,not_true_eq_false,if_false];rfl) rfl
theorem ae3:dW P .geq t (.int k a) (.int k b)=some (.bool (decide (b<=a))):=hF hn rfl (by unfold iB;simp only[ne_eq,not_true_eq_false,if_false];rfl) rfl
theorem ae4{c:IntKind}(d:0<=b):dW P .shl t (.int k a) (.int c b)=some (.int k (k.wrap (a*2^(min b.toNat k.bits)))):=hF hn rfl (by unfold iB aqi;simp only[show¬b<0 by omega,if_false];rfl) rfl
theorem ae5{c:IntKind}(d:0<=b):dW P .shr t (.int k a) (.int c b)=some (.int k (a.fdiv (2^(min b.toNat k.bits)))):=hF hn rfl (by unfold iB aqi;simp only[show¬b<0 by omega,if_false];rfl) rfl
theorem ae6:dW P .and t (.int k a) (.int k b)=some (.int k (k.wrap (dR k.bits a&&&dR k.bits b).toNat)):=hF hn rfl (by unfold iB;simp only[ne_eq,not_true_eq_false,if_false];rfl) rfl
theorem ae7:dW P .or t (.int k a) (.int k b)=some (.int k (k.wrap (dR k.bits a|||dR k.bits b).toNat)):=hF hn rfl (by unfold iB;simp only[ne_eq,not_true_eq_false,if_false];rfl) rfl
theorem ae8:dW P .xor t (.int k a) (.int k b)=some (.int k (k.wrap (dR k.bits a^^^dR k.bits b).toNat)):=hF hn rfl (by unfold iB;simp only[ne_eq,not_true_eq_false,if_false];rfl) rfl
end
theorem Dy(l:List UInt8):(⟨l.toArray⟩:ByteArray).size=l.length:=by simp[aqj]
theorem IG(l:List UInt8):(⟨l.toArray⟩:ByteArray).toList=l:=by rw[arW]
theorem ae9(s:ByteArray):s=⟨s.data.toList.toArray⟩:=by cases s;simp
theorem ae'(a b:List UInt8):(⟨a.toArray⟩:ByteArray)++⟨b.toArray⟩=⟨(a++b).toArray⟩:=by apply ByteArray.ext;simp
theorem Dz(l:List UInt8)(i j:Nat):(⟨l.toArray⟩:ByteArray).extract i j=⟨((l.drop i).take (j-i)).toArray⟩:=by apply ByteArray.ext;simp[adh,ap2]
section
variable {P:Program} {t:TypeId}
theorem ae_(c:lO P t=false)(a b:List UInt8):dW P .eql t (.string ⟨a.toArray⟩) (.string ⟨b.toArray⟩)=some (.bool (decide (a=b))):=by
 refine hF c rfl ?_ rfl;unfold iB Ow;simp only[IG]
 have:(a==b)=decide (a=b):=by
  by_cases h:a=b
  ·subst h;simp
  ·simp[h]
 rw[this];rfl
theorem afa(c:lO P t=false)(a b:List UInt8):dW P .lss t (.string ⟨a.toArray⟩) (.string ⟨b.toArray⟩)=some (.bool (Cq a b)):=by refine hF c rfl ?_ rfl;unfold iB Ow;simp only[IG];rfl
theorem afb(c:lO P t=false)(a b:List UInt8):dW P .neq t (.string ⟨a.toArray⟩) (.string ⟨b.toArray⟩)=some (.bool (!decide (a=b))):=by
 refine hF c rfl ?_ rfl;unfold iB Ow;simp only[IG]
 have:(a==b)=decide (a=b):=by
  by_cases h:a=b
  ·subst h;simp
  ·simp[h]
 rw[this];rfl
theorem afc(c:lO P t=false)(a b:List UInt8)(h:a.length+b.length<=9223372036854775807):dW P .add t (.string ⟨a.toArray⟩) (.string ⟨b.toArray⟩)=some (.string ⟨(a++b).toArray⟩):=by
 refine hF c rfl ?_ rfl;unfold iB Ow;simp only[Dy,ae']
 have d:¬(((a.length+b.length:Nat):Int)>IntKind.i64.max):=by have:IntKind.i64.max=9223372036854775807:=jD;rw[this];omega
 rw[if_neg d];rfl
end
section
variable {P:Program} {t:TypeId}
theorem afd(h:P.underlying t=some .string)(l:List UInt8)(k:IntKind)(i:Int)(e:0<=i)(f:i<l.length):uP P t (.string ⟨l.toArray⟩) (.int k i)=some (.int .u8 (l.getD i.toNat 0).toNat):=by
 have b:i.toNat<l.length:=jO;have c:oH P t=true:=by unfold oH;rw[h]
 unfold uP CS mJ;rw[c];simp only[isStr,scalar]
 have d:(⟨l.toArray⟩:ByteArray)[i.toNat]? =some (l.getD i.toNat 0):=by
  have a:i.toNat<(⟨l.toArray⟩:ByteArray).size:=by rw[Dy];exact b
  rw[getElem?_pos (⟨l.toArray⟩:ByteArray) i.toNat a];rw[List.getD_eq_getElem?_getD,aJ b];rfl
 have:jg P (do pure (Ox (<-Cp t (.string ⟨l.toArray⟩) (.int k i))))=some (.int .u8 (l.getD i.toNat 0).toNat):=by unfold Cp;simp only[asIntOf,pure_bind,bind_assoc];rw[pR h];simp only[e,if_true,d];rfl
 rw[this]
theorem afe(h:P.underlying t=some .string){A:Type}(l:List UInt8)(lo g:Option Value){a b:Nat}(z:eG lo 0=some a)(x:eG g l.length=some b)(s:a<=b)(h2:b<=l.length)(k:Value->M A):xJ P t (.string ⟨l.toArray⟩) lo g none k=k (.string ⟨((l.drop a).take (b-a)).toArray⟩):=by
 have B:oH P t=true:=by unfold oH;rw[h]
 have p:∀(o:Option Value) (d m:Nat),eG o d=some m->(o=none∧m=d)∨∃n i,o=some (.int n i)∧0<=i∧m=i.toNat:=by
  intro o d m f;unfold eG at f;split at f
  ·cases f;exact .inl ⟨rfl,rfl⟩
  ·rename_i n i;split at f
   ·rename_i u;cases f;exact .inr ⟨n,i,rfl,u,rfl⟩
   ·cases f
  ·cases f
 have r:(uN lo&&uN g&&uN none)=true:=by rcases p lo _ _ z with ⟨rfl,_⟩|⟨_,_,rfl,_⟩<;>rcases p g _ _ x with ⟨rfl,_⟩|⟨_,_,rfl,_⟩<;>rfl
 have e:∀(n:IntKind) (i:Int) (y:Nat) (c:BoundsCode),0<=i->i.toNat<=y->Oj (.int n i) y c=pure i.toNat:=by intro n i y c u s;unfold Oj asIntOf;simp only[pure_bind];rw[if_pos ⟨u,jO⟩]
 have q:jg P (do pure (Ox (<-Ho t (.string ⟨l.toArray⟩) lo g none)))=some (.string ⟨((l.drop a).take (b-a)).toArray⟩):=by
  unfold Ho;simp only[bind_assoc];rw[pR h];simp only;unfold Instr.slice;simp only[bind_assoc];rw[pR h];simp only[Option.isSome_none,nD,if_false,pure_bind,bind_assoc,Dy];unfold Instr.sliceBounds;rcases p lo _ _ z with ⟨rfl,rfl⟩|⟨_,i,rfl,w,rfl⟩<;>rcases p g _ _ x with ⟨rfl,rfl⟩|⟨_,j,rfl,v,rfl⟩
  ·simp only[pure_bind,bind_assoc,Dz];rfl
  ·simp only[e _ j l.length _ v h2,pure_bind,bind_assoc,Dz];rfl
  ·simp only[e _ i l.length _ w s,pure_bind,bind_assoc,Dz];rfl
  ·simp only[e _ j l.length _ v h2,e _ i j.toNat _ w s,pure_bind,bind_assoc,Dz];rfl
 unfold xJ;rw[B];simp only
 have:CR P t (.string ⟨l.toArray⟩) lo g none=some (.string ⟨((l.drop a).take (b-a)).toArray⟩):=by unfold CR mJ;simp only[isStr,r];rw[q];rfl
 rw[this];rfl
end
section
variable {β:Type} {P:Program} {t:TypeId} {x y:Value} {k:Value->M β} {h:H} {n:Nat} {r:Out β}
theorem eH{o:Option Value}{v:Value}(e:o=some v)(a:k v h n=some r):bf o k h n=some r:=by subst e;exact a
theorem rb{e:BinOp}{f:IntKind->Int->Int->Value}(g:∀j a b,dW P e t (.int j a) (.int j b)=some (f j a b))(c:kg f x y k h n=some r):bf (dW P e t x y) k h n=some r:=by
 unfold kg at c;split at c
 ·split at c
  ·rename_i a p _ b q;cases d:pU a b with
   |false=>simp only[d]at c;cases c
   |true=>obtain rfl:=Dd d;simp only[d]at c;exact eH (g _ _ _) c
  ·cases c
 ·cases c
theorem IH{e:BinOp}{f:Nat->Nat->Nat}(g:∀(j:IntKind) (a b:Nat),dW P e t (.int j (.ofNat a)) (.int j (.ofNat b))=some (.int j (j.wrap (.ofNat (f (j5 a (pw j)) (j5 b (pw j)))))))(c:uV f x y k h n=some r):bf (dW P e t x y) k h n=some r:=by
 unfold uV at c;split at c
 ·split at c
  ·rename_i a p _ b q;cases d:pU a b with
   |false=>simp only[d]at c;cases c
   |true=>obtain rfl:=Dd d;simp only[d]at c;exact eH (g _ _ _) (by rw[<-kG];exact c)
  ·cases c
 ·cases c
theorem sT{j:IntKind}(a b:Nat):(dR j.bits (gF a)).toNat=j5 a (pw j)∧(dR j.bits (gF b)).toNat=j5 b (pw j):=by rw[aeP];exact⟨PI _ _,PI _ _⟩
end
noncomputable def II {a:Type} (b:BinOp) (x y:Value) (k:Value->M a):M a:=match b with
 | .add=>ar x y k
 | .sub=>bL x y k
 | .mul=>jq x y k
 | .quo=>iE x y k
 | .rem=>mN x y k
 | .eql=>ej x y k
 | .neq=>hC x y k
 | .lss=>cE x y k
 | .leq=>mL x y k
 | .gtr=>jr x y k
 | .geq=>pY x y k
 | .and=>Dp x y k
 | .or=>zT x y k
 | .xor=>qZ x y k
 | .shl=>mM x y k
 | .shr=>kX x y k
 | .andNot=> .fail
noncomputable def PX {a:Type} (b:BinOp) (c:Option (List Nat)) (x y:Value) (k:Value->M a):M a:=match c with
 |some l=>match b with
  | .eql=>PT l x y k
  | .neq=>PU l x y k
  |_=> .fail
 |none=> .fail
noncomputable def IJ {b:Type} (d:Option TypeDesc) (c:Option (List Nat)) (a:BinOp) (x y:Value) (k:Value->M b):M b:=match d,a with
 |some (.struct _),a=>PX a c x y k
 |some (.pointer _),.eql=>p5 x y k
 |some (.pointer _),.neq=>zV x y k
 |some (.slice _),.eql=>zW x y k
 |some (.slice _),.neq=>zX x y k
 |some (.func _ _ _),.eql=>IA x y k
 |some (.func _ _ _),.neq=>IB x y k
 |_,_=> .fail
def IK:Option TypeDesc->Bool
 |some .bool=>true
 |_=>false
noncomputable def PY {a:Type} (b:BinOp) (x y:Value) (k:Value->M a):M a:=match b with
 | .eql=>Dq x y k
 | .neq=>zU x y k
 |_=> .fail
noncomputable def IL {b:Type} (P:Program) (a:BinOp) (t:TypeId) (x y:Value) (k:Value->M b):M b:=match lO P t with
 |true=>IJ (P.underlying t) (uC P t) a x y k
 |false=>match IK (P.underlying t)with
  |true=>PY a x y k
  |false=>II a x y k
section
variable {β:Type} {P:Program} {t:TypeId} {x y:Value} {k:Value->M β} {h:H} {n:Nat} {r:Out β}
theorem PZ(a b:List UInt8)(c:lO P t=false):dW P .eql t (.string ⟨⟨a⟩⟩) (.string ⟨⟨b⟩⟩)=some (.bool (qT a b))∧dW P .neq t (.string ⟨⟨a⟩⟩) (.string ⟨⟨b⟩⟩)=some (.bool (!qT a b)):=by rw[C9];exact⟨ae_ c a b,afb c a b⟩
theorem aff{g:BinOp}(d:lO P t=false)(c:II g x y k h n=some r):bf (dW P g t x y) k h n=some r:=by
 cases g<;>simp only[II]at c
 case add=>
  unfold ar at c;split at c
  ·split at c
   ·rename_i a _ b;cases i:bK (fY (jn a) (jn b)) 9223372036854775807 with
    |false=>simp only[i]at c;cases c
    |true=>simp only[i]at c;have:=fX i;rw[pT,pT]at this;exact eH (afc (P:=P) d _ _ this) (by rw[<-Ij];exact c)
   ·cases c
  ·exact rb (fun j a b=>by rw[aeT d,kG,PG]) c
 case sub=>exact rb (fun j a b=>by rw[aeU d,kG,C6]) c
 case mul=>exact rb (fun j a b=>by rw[aeV d,kG,PH]) c
 case quo=>
  unfold iE at c;split at c
  ·split at c
   ·rename_i a p _ b q;cases f:pU a b with
    |false=>simp only[f]at c;cases c
    |true=>
     obtain rfl:=Dd f;cases e:pS q 0 with
     |true=>simp only[f,e]at c;cases c
     |false=>simp only[f,e]at c;rw[sK]at e;exact eH (aeW d _ _ (beq_eq_false_iff_ne.1 e)) (by rw[<-kG];exact c)
   ·cases c
  ·cases c
 case rem=>
  unfold mN at c;split at c
  ·split at c
   ·rename_i a p _ b q;cases f:pU a b with
    |false=>simp only[f]at c;cases c
    |true=>
     obtain rfl:=Dd f;cases e:pS q 0 with
     |true=>simp only[f,e]at c;cases c
     |false=>simp only[f,e]at c;rw[sK]at e;exact eH (aeX d _ _ (beq_eq_false_iff_ne.1 e)) c
   ·cases c
  ·cases c
 case and=>exact IH (fun j a b=>by rw[ae6 d,aqk,(sT a b).1,(sT a b).2];rfl) c
 case or=>exact IH (fun j a b=>by rw[ae7 d,aql,(sT a b).1,(sT a b).2];rfl) c
 case xor=>exact IH (fun j a b=>by rw[ae8 d,aqm,(sT a b).1,(sT a b).2];rfl) c
 case shl=>
  unfold mM at c;split at c
  ·rename_i a p;split at c
   ·rename_i j q;exact eH (ae4 d _ _ (gY q)) (by rw[<-kG];exact c)
   ·cases c
  ·cases c
 case shr=>
  unfold kX at c;split at c
  ·rename_i a p;split at c
   ·rename_i j q;refine eH (ae5 d _ _ (gY q)) ?_
    have l:(gF p).fdiv (2^min (gF q).toNat a.bits)=gF (p/2^min q a.bits):=by show(p:Int).fdiv (2^min q a.bits)=((p/2^(min q a.bits):Nat):Int);have l:(2:Int)^(min q a.bits)=((2^(min q a.bits):Nat):Int):=jS;rw[l,Oy _ (gY _),<-aqn]
    exact l▸c
   ·cases c
  ·cases c
 case andNot=>cases c
 case eql=>
  unfold ej at c;split at c
  ·split at c
   ·exact eH (PZ _ _ d).1 c
   ·cases c
  ·exact rb (fun j a b=>by rw[aeY d,sK]) c
 case neq=>
  unfold hC at c;split at c
  ·split at c
   ·exact eH (PZ _ _ d).2 c
   ·cases c
  ·exact rb (fun j a b=>by rw[aeZ d,sK];rfl) c
 case lss=>
  unfold cE at c;split at c
  ·split at c
   ·exact eH ((afa d _ _).trans (by rw[Ii])) c
   ·cases c
  ·exact rb (fun j a b=>by rw[ae0 d,qS]) c
 case leq=>exact rb (fun j a b=>by rw[ae1 d,C8]) c
 case gtr=>exact rb (fun j a b=>by rw[ae2 d,qS]) c
 case geq=>exact rb (fun j a b=>by rw[ae3 d,C8]) c
end
section
variable {β:Type} {P:Program} {t:TypeId} {x y a:Value} {k:Value->M β} {h:H} {n:Nat} {r:Out β}
theorem ld{m m':M Value}(e:m=m')(a:ew m k h n=some r):((inside m').bind k) h n=some r:=by subst e;rw[<-lQ];exact a
theorem afg{f:BinOp}(w:lO P t=true)(a:IJ (P.underlying t) (uC P t) f x y k h n=some r):bf (dW P f t x y) k h n=some r:=by
 have g:∀(b:Bool) (v:Value),pJ P t x y=some b->((f= .eql∧v= .bool b)∨(f= .neq∧v= .bool (!b)))->k v h n=some r->bf (dW P f t x y) k h n=some r:=by intro b v e u q;refine eH (v:=v) ?_ q;unfold dW Ib;rw[w,e];rcases u with ⟨rfl,rfl⟩|⟨rfl,rfl⟩<;>rfl
 have c:∀(b:Bool) (v:Value),pI (P.underlying t) x y=some b->((f= .eql∧v= .bool b)∨(f= .neq∧v= .bool (!b)))->k v h n=some r->bf (dW P f t x y) k h n=some r:=fun b v e=>g b v (by unfold pJ;rw[e]);have fS:∀(s:Array Field) (b:Bool) (v:Value),P.underlying t=some (.struct s)->HM (uC P t) x y=some b->((f= .eql∧v= .bool b)∨(f= .neq∧v= .bool (!b)))->k v h n=some r->bf (dW P f t x y) k h n=some r:=fun s b v z e=>g b v (by unfold pJ pI;rw[z];exact e);generalize hd:P.underlying t=d at a c fS;generalize q:uC P t=A at a fS;unfold IJ at a;split at a
 ·unfold PX at a;split at a
  ·rename_i l;split at a
   ·unfold PT at a;cases x<;>try(cases a;done)
    rename_i o;obtain⟨p⟩:=o;cases y<;>try(cases a;done)
    rename_i j;obtain⟨m⟩:=j;simp only at a;cases i:kT l p m with
    |none=>simp only[i]at a;cases a
    |some b=>simp only[i]at a;exact fS _ b _ rfl i (.inl ⟨rfl,rfl⟩) a
   ·unfold PU at a;cases x<;>try(cases a;done)
    rename_i o;obtain⟨p⟩:=o;cases y<;>try(cases a;done)
    rename_i j;obtain⟨m⟩:=j;simp only at a;cases i:kT l p m with
    |none=>simp only[i]at a;cases a
    |some b=>simp only[i]at a;exact fS _ b _ rfl i (.inr ⟨rfl,rfl⟩) a
   ·cases a
  ·cases a
 ·unfold p5 Dr at a;split at a<;>first|(split at a<;>first|exact c _ _ rfl (.inl ⟨rfl,rfl⟩) a|cases a)|cases a
 ·unfold zV Dr at a;split at a<;>first|(split at a<;>first|exact c _ _ rfl (.inr ⟨rfl,rfl⟩) a|cases a)|cases a
 ·unfold zW Dt at a;split at a<;>first|(split at a<;>first|exact c _ _ rfl (.inl ⟨rfl,rfl⟩) a|cases a)|cases a
 ·unfold zX Dt at a;split at a<;>first|(split at a<;>first|exact c _ _ rfl (.inr ⟨rfl,rfl⟩) a|cases a)|cases a
 ·unfold IA Du at a;split at a<;>first|(split at a<;>first|exact c _ _ rfl (.inl ⟨rfl,rfl⟩) a|cases a)|cases a
 ·unfold IB Du at a;split at a<;>first|(split at a<;>first|exact c _ _ rfl (.inr ⟨rfl,rfl⟩) a|cases a)|cases a
 ·cases a
theorem afh{b c:Bool}(e:P.underlying t=some .bool):jg P (do pure (.value (.bool (<-r4 t (.bool b) (.bool c)))))=some (.bool (b==c)):=by unfold r4 ap8 xr;simp only[bind_assoc];rw[pR e];rfl
theorem afi{i:BinOp}(a:IL P i t x y k h n=some r):bf (dW P i t x y) k h n=some r:=by
 unfold IL at a;cases g:lO P t with
 |true=>simp only[g]at a;exact afg g a
 |false=>
  simp only[g]at a;cases f:IK (P.underlying t)with
  |false=>simp only[f]at a;exact aff g a
  |true=>
   simp only[f]at a
   have e:P.underlying t=some .bool:=by
    revert f;generalize P.underlying t=d;intro f;unfold IK at f;split at f
    ·rfl
    ·cases f
   unfold PY at a;split at a
   ·unfold Dq at a;split at a
    ·split at a
     ·rename_i b _ c;refine eH (v:= .bool (b==c)) (hF g rfl ?_ rfl) (by cases b<;>cases c<;>exact a);unfold iB;simp only[bind_assoc,pure_bind];exact afh e
     ·cases a
    ·cases a
   ·unfold zU at a;split at a
    ·split at a
     ·rename_i b _ c;refine eH (v:= .bool (!(b==c))) (hF g rfl ?_ rfl) (by cases b<;>cases c<;>exact a);unfold iB;simp only[bind_assoc,pure_bind];unfold r4 ap8 xr;simp only[bind_assoc];rw[pR e];rfl
     ·cases a
    ·cases a
   ·cases a
end
noncomputable section
variable {β:Type} (P:Program)
def IM(a:UnOp)(x:Value)(k:Value->M β):M β:=match a with
 | .not=>ek x k
 | .neg=>Dv x k
 | .xor=>IC x k
 |_=> .fail
def IP(src a:TypeId)(x:Value)(k:Value->M β):M β:=match si (P.underlying src) (P.underlying a)with
 |some e=>match nL P e with
  |true=>kZ x k
  |false=> .fail
 |none=>match uM (P.underlying src) (P.underlying a)with
  |some e=>match nL P e&&size? P e==some 1 with
   |true=>xQ e x k
   |false=> .fail
  |none=>match P.underlying src with
   |some _=>match P.underlying a with
    |some (.int b)=>ey b x k
    |some .string=>PV x k
    |_=> .fail
   |none=> .fail
def DA(t:TypeId)(a:Value)(k:Value->M β):M β:=match jf P t with
 |some true=>match size? P t with
  |some b=>bR b a k
  |none=> .fail
 |some false=>aM a k
 |none=> .fail
def IQ(t:TypeId)(a x:Value)(k:Value->M β):M β:=match size? P t with
 |some b=>match jf P t with
  |some true=>b9 b a x k
  |some false=>match bZ b 1 with
   |true=>bc a x k
   |false=> .fail
  |none=> .fail
 |none=> .fail
def IU(e:TypeId)(k:Value->M β):M β:=match fQ P e with
 |some z=>cU e (dE z) k
 |none=> .fail
def IV(e:TypeId)(x:Value)(k:Value->M β):M β:=match size? P e with
 |some _=>fz e x k
 |none=> .fail
def xR(a:Nat->Option (Nat×Nat)):List (Nat×Value)->Option (List (Nat×Nat×Value))
 |[]=>some []
 |q::r=>match a q.1 with
  |some p=>match xR a r with
   |some l=>some ((p.1,p.2,q.2)::l)
   |none=>none
  |none=>none
def IW(t:TypeId)(ps:List (Nat×Value))(k:Value->M β):M β:=match fQ P t with
 |some z=>match P.underlying t with
  |some d=>match xz P d with
   |some b=>bf (xR b ps) fun a=>dz (dE z) a k
   |none=> .fail
  |none=> .fail
 |none=> .fail
def lone:Nat->List (Nat×Value)->Option Value
 |1,[(0,v)]=>some v
 |_,_=>none
def IX(t:TypeId)(len:Nat)(ps:List (Nat×Value))(k:Value->M β):M β:=match P.underlying t with
 |some (.slice e)=>match size? P e with
  |some a=>match fQ P e with
   |some z=>match bZ len 0&&ps.isEmpty with
    |true=>q8 e [] 0 [] k
    |false=>match bK 1 (len*a)&&bK (len*a) 65536&&bZ (eT (dE z)) a with
     |true=>match lone len ps with
      |some v=>bV e a v k
      |none=>bf (xR (fun i=>some (i*a,a)) ps) fun b=>q8 e (kq (dE z) len) len b k
     |false=> .fail
   |none=> .fail
  |none=> .fail
 |_=> .fail
def IY(t:TypeId)(l c:Value)(k:Value->M β):M β:=match P.underlying t with
 |some (.slice e)=>match P.info? e with
  |some a=>match fQ P e with
   |some z=>match bK a.bytes 64&&bZ (eT (dE z)) a.size&&bK 1 a.size with
    |true=>gP e (dE z) l c k
    |false=> .fail
   |none=> .fail
  |none=> .fail
 |_=> .fail
def IZ(t:TypeId)(x:Value)(lo a c:Option Value)(k:Value->M β):M β:=match c with
 |some _=> .fail
 |none=>match P.underlying t with
  |some .string=>gK x lo a k
  |some (.slice e)=>match size? P e with
   |some b=>lR e b x lo a k
   |none=> .fail
  |_=> .fail
def I0(t:TypeId)(x:Value)(f:Nat)(k:Value->M β):M β:=match P.underlying t with
 |some (.struct b)=>match b[f]? with
  |some a=>match size? P a.type with
   |some (_+1)=>ba a.offset x k
   |_=> .fail
  |none=> .fail
 |_=> .fail
def I1(t:TypeId)(x:Value)(f:Nat)(k:Value->M β):M β:=match P.underlying t with
 |some (.struct b)=>match b[f]? with
  |some a=>match jf P a.type with
   |some true=>match size? P a.type with
    |some m=>IF a.offset m x k
    |none=> .fail
   |some false=>IE a.offset x k
   |none=> .fail
  |none=> .fail
 |_=> .fail
def I2(t:TypeId)(x b:Value)(k:Value->M β):M β:=match P.underlying t with
 |some (.slice e)=>match size? P e with
  |some a=>match bZ a 1 with
   |true=>aO x b k
   |false=>ki a x b k
  |none=> .fail
 |some (.array len e)=>match size? P e with
  |some a=>match bZ a 1 with
   |true=>gu len x b k
   |false=>Dw len a x b k
  |none=> .fail
 |_=> .fail
def I3(t:TypeId)(x a:Value)(k:Value->M β):M β:=match P.underlying t with
 |some .string=>gJ x a k
 |some (.array len e)=>match jf P e with
  |some false=>match size? P e with
   |some b=>match bZ b 1 with
    |true=>sS len x a k
    |false=> .fail
   |none=> .fail
  |_=> .fail
 |_=> .fail
def I4(a:Array TypeId)(vs:List Value)(k:Value->M β):M β:=match a[0]? with
 |some t=>match vs with
  |[x]=>match P.underlying t with
   |some (.slice _)=>aT x k
   |some .string=>cS x k
   |_=> .fail
  |_=> .fail
 |none=> .fail
def I5(vs:List Value)(k:Value->M β):M β:=match vs with
 |[x,y]=>kY x y k
 |[x,y,z,u,v,w]=>PW x y z u v w k
 |_=> .fail
def I6(vs:List Value)(k:Value->M β):M β:=match vs with
 |[x,y]=>sR x y k
 |_=> .fail
def I7(t:TypeId)(s x:Value)(k:Value->M β):M β:=match P.underlying t with
 |some (.slice e)=>match P.info? e with
  |some a=>match fQ P e with
   |some z=>match bK a.bytes 64&&bZ (eT (dE z)) a.size&&bK 1 a.size with
    |true=>bH e a.size s x k
    |false=> .fail
   |none=> .fail
  |none=> .fail
 |_=> .fail
def I8(t:TypeId)(d s:Value)(k:Value->M β):M β:=match P.underlying t with
 |some (.slice e)=>match size? P e with
  |some a=>Dx a d s k
  |none=> .fail
 |_=> .fail
variable (rec:FuncId->Array Value->M Value)
def I9(s:Fr)(c:Call)(vs:List Value)(k:Value->M β):M β:=match c.callee with
 | .value (.func g)=>match mE P g with
   |true=>ak rec g vs k
   |false=> .fail
 | .value f=>bf (bC s f) fun a=>gI P rec a vs k
 | .builtin .append=>bf (xC P c.argTypes vs) fun q=>I7 P q.1 q.2.1 q.2.2 k
 | .builtin .copy=>bf (xD c.argTypes vs) fun q=>I8 P q.1 q.2.1 q.2.2 k
 | .builtin .len=>I4 P c.argTypes vs k
 | .builtin .min=>I5 vs k
 | .builtin .max=>I6 vs k
 |_=> .fail
def kJ(s:Fr)(o:Oper)(k:Value->M β):M β:=
 match o.op with
 | .move x| .assign x=>bf (bC s x) k
 | .pick c a b=>bf (bC s c) fun c=>bf (bC s a) fun a=>bf (bC s b) fun b=>ID c a b k
 | .alloc e=>IU P e k
 | .box e x=>bf (bC s x) fun x=>IV P e x k
 | .build t d=>kV s (d.toList.map (·.2)) fun h=>IW P t ((d.toList.map (·.1)).zip h) k
 | .buildSlice t len d=>kV s (d.toList.map (·.2)) fun h=>IX P t len ((d.toList.map (·.1)).zip h) k
 | .load t a=>bf (bC s a) fun a=>DA P t a k
 | .store t a x=>bf (bC s a) fun a=>bf (bC s x) fun x=>IQ P t a x k
 | .nilCheck x=>bf (bC s x) fun x=>au x k
 | .binOp j t x y _=>bf (bC s x) fun x=>bf (bC s y) fun y=>IL P j t x y k
 | .unOp j _ x=>bf (bC s x) fun x=>IM j x k
 | .convert src q x=>bf (bC s x) fun x=>IP P src q x k
 | .makeFunc r a b=>kV s a.toList fun a=>kV s b.toList fun b=>k (.func r a.toArray b.toArray)
 | .makeSlice t l c=>bf (bC s l) fun l=>bf (bC s c) fun c=>IY P t l c k
 | .slice t x n p m=>bf (bC s x) fun x=>qQ s n fun n=>qQ s p fun p=>qQ s m fun m=>IZ P t x n p m k
 | .fieldAddr t x f=>bf (bC s x) fun x=>I0 P t x f k
 | .field t x f=>bf (bC s x) fun x=>I1 P t x f k
 | .indexAddr t x g=>bf (bC s x) fun x=>bf (bC s g) fun g=>I2 P t x g k
 | .index t x g=>bf (bC s x) fun x=>bf (bC s g) fun g=>I3 P t x g k
 | .extract t i=>bf (bC s t) fun t=>bj t i k
 | .call c=>kV s c.args.toList fun h=>I9 P rec s c h k
 |_=> .fail
end
section
variable {β:Type} {P:Program} {t:TypeId} {x y a:Value} {k:Value->M β} {h:H} {n:Nat} {r:Out β}
theorem afj{P:Program}{p:Nat}(d:p<=4294967295):CO P .xor (.int .u32 (.ofNat p))=some (.int .u32 (.ofNat (Nat.sub 4294967295 p))):=by
 have e:Op.unary .xor (.int .u32 (.ofNat p))=pure (.int .u32 (IntKind.u32.wrap (dR 32 4294967295^^^dR 32 (gF p)).toNat)):=rfl
 have c:(dR 32 4294967295^^^dR 32 (gF p)).toNat=4294967295-p:=by
  have a:dR 32 4294967295=BitVec.allOnes 32:=jD;rw[a,BitVec.allOnes_xor,BitVec.toNat_not]
  have:(dR 32 (gF p)).toNat=p:=by show(dR 32 (p:Int)).toNat=p;rw[BitVec.ofInt_natCast,BitVec.toNat_ofNat];exact lJ jO
  rw[this]
 have b:IntKind.u32.wrap ((4294967295-p:Nat):Int)=((4294967295-p:Nat):Int):=IntWalk.u32_in _ jO;unfold CO mJ;rw[e,c,b];rfl
theorem afk{c:UnOp}(a:IM c x k h n=some r):bf (CO P c x) k h n=some r:=by
 unfold IM at a;split at a
 ·unfold ek at a;split at a
  ·exact eH rfl a
  ·cases a
 ·unfold Dv at a;split at a
  ·rename_i j p;exact eH (v:= .int j (j.wrap (0-p))) rfl (by rw[<-kG,<-C6];exact a)
  ·cases a
 ·unfold IC at a;split at a
  ·rename_i p;cases b:bK p 4294967295 with
   |false=>simp only[b]at a;cases a
   |true=>simp only[b]at a;exact eH (afj (fX b)) a
  ·cases a
 ·cases a
theorem I'{v:Value}(a:k v h n=some r):((inside (M.ret v)).bind k) h n=some r:=by obtain⟨c,d,b,L⟩:=r;exact bY (L1:=[]) rfl a
theorem afl(d:kZ x k h n=some r):((inside (nK x)).bind k) h n=some r:=by
 unfold kZ at d;split at d
 ·rename_i b a len c
  refine ld (m:=(iT b a len).bind fun e=>match lP e with
  |some l=> .ret (.string ⟨⟨l⟩⟩)
  |none=> .fail) ?_ d
  have:=congrFun aeR (.slice (some ⟨b,a,none⟩) len c);exact this
 ·exact I' d
 ·cases d
theorem afm{e:TypeId}(a:xQ e x k h n=some r):((inside (CP e x)).bind k) h n=some r:=by
 unfold xQ at a;split at a
 ·rename_i l;cases b:bK (jn l) 1099511627776 with
  |false=>simp only[b]at a;cases a
  |true=>simp only[b]at a;refine ld ?_ a;have:=fX b;rw[pT]at this⊢;unfold CP qI;rw[kI];have c:(⟨⟨l⟩⟩:ByteArray).size=l.length:=rfl;simp only[c];rw[if_pos this];simp
 ·cases a
theorem afn{src b:TypeId}(a:IP P src b x k h n=some r):CQ P src b x k h n=some r:=by
 unfold IP at a;unfold CQ;cases g:si (P.underlying src) (P.underlying b)with
 |some e=>
  simp only[g]at a⊢;cases c:nL P e with
  |true=>simp only[c]at a⊢;exact afl a
  |false=>simp only[c]at a;cases a
 |none=>
  simp only[g]at a⊢;cases i:uM (P.underlying src) (P.underlying b)with
  |some e=>
   simp only[i]at a⊢;cases c:(nL P e&&size? P e==some 1)with
   |true=>simp only[c]at a⊢;exact afm a
   |false=>simp only[c]at a;cases a
  |none=>
   simp only[i]at a⊢;cases hd:P.underlying src with
   |none=>simp only[hd]at a;cases a
   |some m=>
    simp only[hd]at a;cases f:P.underlying b with
    |none=>simp only[f]at a;cases a
    |some l=>
     simp only[f]at a;cases l<;>try(cases a;done)
     ·cases x<;>try(cases a;done)
      ·rename_i d j p;refine eH (v:= .int d (d.wrap p)) ?_ (by rw[<-kG];exact a);unfold mJ;simp only[scalar]
       have:jg P (do pure (Ox (<-On src b (.int j p))))=some (.int d (d.wrap p)):=by unfold On;simp only[bind_assoc];rw[pR hd,pR f];rfl
       rw[this]
     ·cases x<;>try(cases a;done)
      ·rename_i s;refine eH (v:= .string s) ?_ a;unfold mJ;simp only[scalar]
       have:jg P (do pure (Ox (<-On src b (.string s))))=some (.string s):=by unfold On;simp only[bind_assoc];rw[pR hd,pR f];rfl
       rw[this]
theorem P0(c:DA P t a k h n=some r):((inside (jj P t a)).bind k) h n=some r:=by
 unfold DA at c;cases d:jf P t with
 |none=>simp only[d]at c;cases c
 |some b=>
  cases b with
  |false=>
   simp only[d]at c;unfold aM at c;split at c
   ·refine ld ?_ c;rw[Dh];unfold jj;simp only[d]
   ·cases c
  |true=>
   simp only[d]at c;cases e:size? P t with
   |none=>simp only[e]at c;cases c
   |some f=>
    simp only[e]at c;unfold bR at c;split at c
    ·refine ld ?_ c;rw[nT];unfold jj;simp only[d,e]
    ·cases c
theorem afo(c:IQ P t a x k h n=some r):((inside (oF P t a x)).bind k) h n=some r:=by
 unfold IQ at c;cases e:size? P t with
 |none=>simp only[e]at c;cases c
 |some p=>
  simp only[e]at c;cases j:jf P t with
  |none=>simp only[j]at c;cases c
  |some b=>
   cases b with
   |true=>
    simp only[j]at c;unfold b9 at c;split at c
    ·split at c
     ·rename_i b d _ l;cases g:bZ (eT l) p with
      |false=>simp only[g]at c;cases c
      |true=>simp only[g]at c;refine ld ?_ c;have:=kC g;rw[kW]at this;unfold oF;have i:(uw ⟨l⟩).cells=⟨l⟩:=rfl;simp only[e,i];rw[if_pos (by simpa using this),zR]
     ·cases c
    ·cases c
   |false=>
    simp only[j]at c;cases m:bZ p 1 with
    |false=>simp only[m]at c;cases c
    |true=>
     simp only[m]at c;have:=kC m;subst this;unfold bc at c;split at c
     ·rename_i b d;cases f:one x with
      |false=>simp only[f]at c;cases c
      |true=>
       simp only[f]at c;refine ld ?_ c;have i:x.cells=#[x]:=by cases x<;>first|rfl|(simp[one]at f)
       unfold oF;simp only[e,i];rw[Di];funext q n;show _=((eK b d [x]).bind fun _=>M.ret undef) q n;unfold eK eK M.bind;cases wr b d x q n with
       |none=>rfl
       |some o=>simp[M.ret]
     ·cases c
theorem afp{e:TypeId}(a:IU P e k h n=some r):((inside (nI P e)).bind k) h n=some r:=by
 unfold IU at a;cases b:fQ P e with
 |none=>simp only[b]at a;cases a
 |some z=>simp only[b]at a;refine ld ?_ a;unfold nI;rw[b,kI,oO]
theorem afq{e:TypeId}(a:IV P e x k h n=some r):((inside (nJ P e x)).bind k) h n=some r:=by
 unfold IV at a;cases b:size? P e with
 |none=>simp only[b]at a;cases a
 |some z=>simp only[b]at a;refine ld ?_ a;unfold nJ;rw[b,kI,oO]
theorem Ja{b:Nat->Option (Nat×Nat)}:∀(ps:List (Nat×Value)) (a:List (Nat×Nat×Value)) (cs:List Value),xR b ps=some a->eU cs a=sP b cs ps
 |[],a,cs,e=>by cases e;rfl
 |(i,v)::r,a,cs,e=>by
  unfold xR at e;unfold sP;simp only at e;cases f:b i with
  |none=>simp only[f]at e;cases e
  |some p=>
   obtain⟨c,g⟩:=p;simp only[f]at e⊢;cases d:xR b r with
   |none=>simp only[d]at e;cases e
   |some l=>
    simp only[d]at e;cases e;unfold eU;simp only;cases bZ (eT (dE v)) g with
    |false=>rfl
    |true=>
     simp only[Bool.true_and];cases bK (fY c (eT (dE v))) (eT cs)with
     |false=>rfl
     |true=>exact Ja r l _ d
theorem afr{ps:List (Nat×Value)}(a:IW P t ps k h n=some r):((inside (mC P t ps)).bind k) h n=some r:=by
 unfold IW at a;cases b:fQ P t with
 |none=>simp only[b]at a;cases a
 |some z=>
  simp only[b]at a;cases c:P.underlying t with
  |none=>simp only[c]at a;cases a
  |some d=>
   simp only[c]at a;cases f:xz P d with
   |none=>simp only[f]at a;cases a
   |some g=>
    simp only[f]at a;obtain⟨l,m,a⟩:=cR a;unfold dz at a;have e:=Ja ps l (dE z) m;rw[oO,Dk]at e;rw[oO,e]at a
    have:mC P t ps=match lG g z.cells ps with
     |some j=>M.ret (.agg j)
     |none=> .fail:=by
     unfold mC;simp only[b,c,f];rfl
    rw[this];cases i:lG g z.cells ps with
    |none=>rw[i]at a;cases a
    |some j=>rw[i]at a;exact I' a
end
section
variable {β:Type} {P:Program} {t:TypeId} {x y a:Value} {k:Value->M β} {h:H} {n:Nat} {r:Out β}
theorem Jb:∀a b:List Value,qX a b=a++b
 |[],_=>rfl
 |v::a,b=>by show v::qX a b=_;rw[Jb a b];rfl
theorem afs{z:Value}{n i:Nat}(b:0<z.cells.size)(h:i<n):(gf z n).toList[i]? =some (z.cells.toList[i %z.cells.size]'(by rw[Hx];exact ux _ b)):=by unfold gf;have a:=ux i b;simp[h,a]
theorem P1(l:List Value):∀c,(kq l c).length=c*l.length
 |0=>by simp[kq]
 |c+1=>by unfold kq;rw[Jb,List.length_append,P1 l c,fW,r7,Nat.add_comm]
theorem P2(l:List Value)(b:0<l.length):∀c i,i<c*l.length->(kq l c)[i]? =some (l[i %l.length]'(ux _ b))
 |0,i,h=>by simp at h
 |c+1,i,h=>by
  unfold kq;rw[Jb];by_cases a:i<l.length
  ·rw[List.getElem?_append_left a,aJ a];simp only[lJ a]
  ·rw[List.getElem?_append_right jO,P2 l b c (i-l.length) (by rw[fW,r7]at h;omega)]
   have:(i-l.length)%l.length=i %l.length:=by conv=>rhs;rw[show i=i-l.length+l.length by omega,Nat.add_mod_right]
   simp only[this]
theorem Jc{z:Value}(d:0<z.cells.size)(c:Nat):kq (dE z) c=(gf z (c*z.cells.size)).toList:=by
 rw[oO];have a:z.cells.toList.length=z.cells.size:=Hx;apply List.ext_getElem?;intro i;by_cases b:i<c*z.cells.size
 ·rw[P2 _ jO c i (by rw[a];exact b),afs d b];simp only[a]
 ·rw[jM (by rw[P1,a];omega),jM (by unfold gf;simp;omega)]
theorem P3:∀(l cs:List Value),l.length=cs.length->over l cs=l
 |[],[],_=>rfl
 |[],_::_,h=>by simp at h
 |_::_,[],h=>by simp at h
 |x::l,c::cs,h=>by show x::over l cs=_;rw[P3 l cs (by simpa using h)]
theorem aft{len:Nat}{ps:List (Nat×Value)}{v:Value}(e:lone len ps=some v):len=1∧ps=[(0,v)]:=by
 unfold lone at e;split at e
 ·cases e;exact⟨rfl,rfl⟩
 ·cases e
theorem afu{len:Nat}{ps:List (Nat×Value)}(a:IX P t len ps k h n=some r):((inside (mD P t len ps)).bind k) h n=some r:=by
 unfold IX at a;cases w:P.underlying t with
 |none=>simp only[w]at a;cases a
 |some u=>
  simp only[w]at a;cases u<;>try(cases a;done)
  rename_i e;simp only at a;cases x:size? P e with
  |none=>simp only[x]at a;cases a
  |some b=>
   simp only[x]at a;cases p:fQ P e with
   |none=>simp only[p]at a;cases a
   |some z=>
    simp only[p]at a
    have G:mD P t len ps=if len=0&&ps.isEmpty then(dy e []).bind fun id=> .ret (.slice (some ⟨id,0,none⟩) 0 0)else
     if 0<len*b&&len*b<=65536 then
      match lG (fun i=>some (i*b,b)) (gf z (len*b)) ps with
      |some A=>(dy e A.toList).bind fun id=> .ret (.slice (some ⟨id,0,none⟩) len len)
      |none=> .fail
     else .fail:=by
     unfold mD;simp only[w,x,p];rfl
    rw[G];cases c:(bZ len 0&&ps.isEmpty)with
    |true=>simp only[c]at a;rw[cD]at c;have:=kC c.1;rw[if_pos (by simp[this,c.2])];unfold q8 eU at a;simp only at a;refine ld ?_ a;rw[kI]
    |false=>
     simp only[c]at a
     have y:¬((decide (len=0)&&ps.isEmpty)=true):=by intro q;rw[cD,decide_eq_true_eq]at q;obtain⟨rfl,q⟩:=q;rw[q]at c;cases c
     rw[if_neg y];cases o:(bK 1 (len*b)&&bK (len*b) 65536&&bZ (eT (dE z)) b)with
     |false=>simp only[o]at a;cases a
     |true=>
      simp only[o]at a;rw[cD,cD]at o;obtain⟨⟨m,C⟩,g⟩:=o;have m:=fX m;have C:=fX C;have g:=kC g;rw[kW,oO,Hx]at g;rw[if_pos (by simp;omega)]
      have j:0<z.cells.size:=by rw[g];exact Nat.pos_of_ne_zero fun q=>by rw[q]at m;simp at m
      cases s:lone len ps with
      |some v=>
       simp only[s]at a;obtain⟨rfl,rfl⟩:=aft s;unfold bV at a;cases d:bZ (eT (dE v)) b with
       |false=>simp only[d]at a;cases a
       |true=>
        simp only[d]at a;have d:=kC d;have f:=Dk (fun i=>some (i*b,b)) [(0,v)] (gf z (1*b));have B:(gf z (1*b)).toList.length=b:=by unfold gf;simp
        have F:sP (fun i=>some (i*b,b)) (gf z (1*b)).toList [(0,v)]=some (dE v):=by unfold sP;simp only[Nat.zero_mul];rw[kW (gf z (1*b)).toList,B,d];have J:bZ b b=true:=uy b;have I:bK (fY 0 b) b=true:=lI (by show 0+b<=b;omega);simp only[J,I,Bool.and_self];unfold sP;rw[Iy,<-Ix,P3 _ _ (by rw[B,<-kW,d])]
        rw[F]at f;cases l:lG (fun i=>some (i*b,b)) (gf z (1*b)) [(0,v)]with
        |none=>rw[l]at f;cases f
        |some A=>rw[l]at f;simp only[Option.map_some,ep]at f;refine ld ?_ a;rw[kI,f]
      |none=>
       simp only[s]at a;obtain⟨D,E,a⟩:=cR a;unfold q8 at a;have f:=Ja ps D (kq (dE z) len) E;rw[Jc j,g,Dk]at f;rw[Jc j,g,f]at a;cases l:lG (fun i=>some (i*b,b)) (gf z (len*b)) ps with
       |none=>rw[l]at a;cases a
       |some A=>rw[l]at a;refine ld ?_ a;rw[kI]
theorem afv{l c:Value}(a:IY P t l c k h n=some r):((inside (nM P t l c)).bind k) h n=some r:=by
 unfold IY at a;cases m:P.underlying t with
 |none=>simp only[m]at a;cases a
 |some u=>
  simp only[m]at a;cases u<;>try(cases a;done)
  rename_i e;simp only at a;cases o:P.info? e with
  |none=>simp only[o]at a;cases a
  |some i=>
   simp only[o]at a;cases j:fQ P e with
   |none=>simp only[j]at a;cases a
   |some z=>
    simp only[j]at a;cases g:(bK i.bytes 64&&bZ (eT (dE z)) i.size&&bK 1 i.size)with
    |false=>simp only[g]at a;cases a
    |true=>
     simp only[g]at a;rw[cD,cD]at g;obtain⟨⟨q,f⟩,p⟩:=g;have q:=fX q;have f:=kC f;have p:=fX p;rw[kW,oO,Hx]at f;unfold gP at a;split at a
     ·split at a
      ·rename_i w l _ v c;cases d:bK l c with
       |false=>simp only[d]at a;cases a
       |true=>
        simp only[d]at a;cases b:bK c 1099511627776 with
        |false=>simp only[b]at a;cases a
        |true=>simp only[b]at a;have d:=fX d;have b:=fX b;refine ld ?_ a;unfold nM;simp only[m,o,j];have q1:(0:Int)<=gF l:=gY _;have q2:gF l<=gF c:=Int.ofNat_le.2 d;have s:gF c<=1099511627776:=Int.ofNat_le.2 b;rw[if_pos (by simp[q1,q2,s,q,f,p];omega),kI,Jc jO,f];rfl
      ·cases a
     ·cases a
theorem P4{P:Program}{t e:TypeId}{sz:Nat}(f:P.underlying t=some (.slice e))(g:size? P e=some sz)(a:Option Addr)(len cap:Nat)(lo d:Option Value):q9 sz a len cap lo d=xy P t (.slice a len cap) lo d none:=by
 unfold q9 xy;simp only[f,g];cases i:eG d len with
 |none=>simp
 |some b=>
  cases h:eG lo 0 with
  |none=>simp[eG]
  |some c=>simp[eG];rfl
theorem afw{lo j B:Option Value}(f:IZ P t x lo j B k h n=some r):xJ P t x lo j B k h n=some r:=by
 unfold IZ at f;cases B with
 |some _=>cases f
 |none=>
  simp only at f;cases i:P.underlying t with
  |none=>simp only[i]at f;cases f
  |some u=>
   simp only[i]at f;cases u<;>try(cases f;done)
   ·unfold gK at f;cases x<;>try(cases f;done)
    rename_i s;obtain⟨⟨l⟩⟩:=s;simp only at f;cases E:q7 lo 0 with
    |none=>simp only[E]at f;cases f
    |some a=>
     simp only[E]at f;cases y:q7 j (jn l)with
     |none=>simp only[y]at f;cases f
     |some b=>
      simp only[y]at f;cases g:bK a b with
      |false=>simp only[g]at f;cases f
      |true=>
       simp only[g]at f;cases m:bK b (jn l)with
       |false=>simp only[m]at f;cases f
       |true=>
        simp only[m]at f
        have bn:∀{o:Option Value} {d a:Nat},q7 o d=some a->eG o d=some a:=by
         intro o d a h;unfold q7 at h;split at h
         ·exact h
         ·cases h;unfold eG;simp
         ·cases h
        have m:=fX m;rw[pT]at m y;have e:=afe i l lo j (bn E) (bn y) (fX g) m k;exact(congrFun (congrFun e h) n).trans f
   ·rename_i e;simp only at f;cases q:size? P e with
    |none=>simp only[q]at f;cases f
    |some J=>
     simp only[q]at f;unfold xJ;have D:oH P t=false:=by unfold oH;rw[i]
     rw[D];simp only;cases x<;>try(cases f;done)
     rename_i G len cap;cases G with
     |none=>
      unfold lR at f;simp only at f;cases g:q9 J none len cap lo j with
      |none=>simp only[g]at f;cases f
      |some v=>
       simp only[g]at f
       have F:uO P t (.slice none len cap) lo j none=M.ret v:=by unfold uO;simp only[isStr];unfold oE;simp only;rw[<-P4 i q,g];rfl
       rw[F];exact I' f
     |some G=>
      obtain⟨b,A,p⟩:=G;cases p with
      |some _=>cases f
      |none=>
       unfold lR at f;simp only at f;obtain⟨c,m,X,L⟩:=r;rw[lQ]at f;obtain⟨v,g,K,L1,L2,F,T,R⟩:=bind_some f;obtain⟨U,Q,O⟩:=uR F;obtain⟨w,Y,W,L3,Z,I,z,N⟩:=bind_some Q
       have:uO P t (.slice (some ⟨b,A,none⟩) len cap) lo j none h n=some ⟨v,g,K,U⟩:=by
        unfold uO;simp only[isStr];unfold oE;simp only;rw[qW]at I;rw[N];refine bY I ?_;cases C:bZ w e with
        |false=>simp only[C]at z;cases z
        |true=>simp only[C]at z;have:=kC C;subst this;simp only[i,if_true];rw[<-P4 i q];exact z
       rw[R,O];exact bY (iS this) T
theorem afx{s:Value}(a:I7 P t s x k h n=some r):((inside (pH P t s x)).bind k) h n=some r:=by
 unfold I7 at a;cases f:P.underlying t with
 |none=>simp only[f]at a;cases a
 |some u=>
  simp only[f]at a;cases u<;>try(cases a;done)
  rename_i e;simp only at a;cases g:P.info? e with
  |none=>simp only[g]at a;cases a
  |some b=>
   simp only[g]at a;cases d:fQ P e with
   |none=>simp only[d]at a;cases a
   |some z=>
    simp only[d]at a;cases c:(bK b.bytes 64&&bZ (eT (dE z)) b.size&&bK 1 b.size)with
    |false=>simp only[c]at a;cases a
    |true=>
     simp only[c]at a;rw[cD,cD]at c;obtain⟨⟨l,i⟩,j⟩:=c;have l:=fX l;have i:=kC i;have j:=fX j;rw[kW,oO,Hx]at i;refine ld ?_ a;unfold pH kt;simp only[f,g,d];cases gd x with
     |none=>rfl
     |some m=>
      simp only;have o:(decide (z.cells.size=b.size)&&decide (1<=b.size)&&decide (b.bytes<=64))=true:=by simp;omega
      rw[if_pos o];unfold uB uW nH;rw[pW,nT,zR,zQ,qW,kI];rfl
theorem afy{d s:Value}(a:I8 P t d s k h n=some r):((inside (pK P t d s)).bind k) h n=some r:=by
 unfold I8 at a;cases b:P.underlying t with
 |none=>simp only[b]at a;cases a
 |some u=>
  simp only[b]at a;cases u<;>try(cases a;done)
  rename_i e;simp only at a;cases c:size? P e with
  |none=>simp only[c]at a;cases a
  |some f=>
   simp only[c]at a;refine ld ?_ a;unfold pK uX;simp only[b,c];rw[pW,zR];cases d<;>try rfl
   cases gd s<;>rfl
theorem afz{f:Nat}(a:I0 P t x f k h n=some r):bf (xA P t x f) k h n=some r:=by
 unfold I0 at a;cases c:P.underlying t with
 |none=>simp only[c]at a;cases a
 |some u=>
  simp only[c]at a;cases u<;>try(cases a;done)
  rename_i g;simp only at a;cases d:g[f]? with
  |none=>simp only[d]at a;cases a
  |some i=>
   simp only[d]at a;cases b:size? P i.type with
   |none=>simp only[b]at a;cases a
   |some e=>
    cases e with
    |zero=>simp only[b]at a;cases a
    |succ e=>
     simp only[b]at a;unfold ba at a;split at a
     ·refine eH ?_ a;unfold xA;simp only[c,d,b];rw[if_neg jO];rfl
     ·cases a
theorem Jd {l:List Value} {K:Nat} {β:Type} {k:Value->M β} {h:H} {n:Nat} {r:Out β} (a:(match sN l K with
 |some v=>k v
 |none=>M.fail) h n=some r):bf l[K]? k h n=some r:=by
 rw[Dg]at a;cases e:l[K]? with
 |none=>rw[e]at a;cases a
 |some v=>rw[e]at a;exact a
theorem afA{f:Nat}(a:I1 P t x f k h n=some r):bf (sq P t x f) k h n=some r:=by
 unfold I1 at a;cases d:P.underlying t with
 |none=>simp only[d]at a;cases a
 |some u=>
  simp only[d]at a;cases u<;>try(cases a;done)
  rename_i p;simp only at a;cases g:p[f]? with
  |none=>simp only[g]at a;cases a
  |some j=>
   simp only[g]at a;cases c:jf P j.type with
   |none=>simp only[c]at a;cases a
   |some b=>
    cases b with
    |false=>
     simp only[c]at a;unfold IE at a;cases x<;>try(cases a;done)
     rename_i o;obtain⟨l⟩:=o;have:=Jd a
     have e:sq P t (.agg ⟨l⟩) f=l[j.offset]? :=by unfold sq partOf;simp only[d,g,c];simp
     rw[e];exact this
    |true=>
     simp only[c]at a;cases i:size? P j.type with
     |none=>simp only[i]at a;cases a
     |some m=>
      simp only[i]at a;unfold IF at a;cases x<;>try(cases a;done)
      rename_i o;obtain⟨l⟩:=o;refine eH ?_ a;unfold sq partOf;simp only[d,g,c,i];congr 2;apply Array.ext';simp[ap2]
theorem afB{p:Value}(a:I2 P t x p k h n=some r):bf (qJ P t x p) k h n=some r:=by
 unfold I2 at a;cases l:P.underlying t with
 |none=>simp only[l]at a;cases a
 |some u=>
  simp only[l]at a;have one:∀{g:Nat} (i:Nat),bZ g 1=true->i*g=i:=fun i h=>by rw[kC h,xu]
  cases u<;>try(cases a;done)
  case array m e=>
   simp only at a;cases f:size? P e with
   |none=>simp only[f]at a;cases a
   |some g=>
    simp only[f]at a;cases j:bZ g 1 with
    |true=>
     simp only[j]at a;unfold gu at a;split at a
     ·split at a
      ·rename_i b d _ o i;cases c:bK (ff i) m with
       |false=>simp only[c]at a;cases a
       |true=>simp only[c]at a;refine eH ?_ a;have:=fX c;unfold qJ;simp only[l,f];rw[if_pos ⟨gY _,Int.ofNat_lt.2 this⟩];show some (Hz (some ⟨b,d+i*g,none⟩))=_;rw[one i j];rfl
      ·cases a
     ·cases a
    |false=>
     simp only[j]at a;unfold Dw at a;split at a
     ·split at a
      ·rename_i b d _ o i;cases c:bK (ff i) m with
       |false=>simp only[c]at a;cases a
       |true=>simp only[c]at a;refine eH ?_ a;have:=fX c;unfold qJ;simp only[l,f];rw[if_pos ⟨gY _,Int.ofNat_lt.2 this⟩];rfl
      ·cases a
     ·cases a
  case slice e=>
   simp only at a;cases f:size? P e with
   |none=>simp only[f]at a;cases a
   |some g=>
    simp only[f]at a;cases j:bZ g 1 with
    |true=>
     simp only[j]at a;unfold aO at a;split at a
     ·split at a
      ·rename_i b d m _ _ o i;cases c:bK (ff i) m with
       |false=>simp only[c]at a;cases a
       |true=>simp only[c]at a;refine eH ?_ a;have:=fX c;unfold qJ;simp only[l,f];rw[if_pos ⟨gY _,Int.ofNat_lt.2 this⟩];show some (Hz (some ⟨b,d+i*g,none⟩))=_;rw[one i j];rfl
      ·cases a
     ·cases a
    |false=>
     simp only[j]at a;unfold ki at a;split at a
     ·split at a
      ·rename_i b d m _ _ o i;cases c:bK (ff i) m with
       |false=>simp only[c]at a;cases a
       |true=>simp only[c]at a;refine eH ?_ a;have:=fX c;unfold qJ;simp only[l,f];rw[if_pos ⟨gY _,Int.ofNat_lt.2 this⟩];rfl
      ·cases a
     ·cases a
theorem afC{w:Value}(a:I3 P t x w k h n=some r):bf (uP P t x w) k h n=some r:=by
 unfold I3 at a;cases d:P.underlying t with
 |none=>simp only[d]at a;cases a
 |some u=>
  simp only[d]at a;cases u<;>try(cases a;done)
  case string=>
   unfold gJ at a;cases x<;>try(cases a;done)
   rename_i s;obtain⟨⟨l⟩⟩:=s;simp only at a;split at a
   ·rename_i o i;cases v:qU l i with
    |none=>simp only[v]at a;cases a
    |some c=>simp only[v]at a;obtain⟨j,z⟩:=Ik _ _ _ v;have:=afd (P:=P) d l o (i:Int) jO jO;rw[Int.toNat_natCast,z]at this;exact eH this a
   ·cases a
  case array m e=>
   simp only at a;cases g:jf P e with
   |none=>simp only[g]at a;cases a
   |some b=>
    cases b with
    |true=>simp only[g]at a;cases a
    |false=>
     simp only[g]at a;cases q:size? P e with
     |none=>simp only[q]at a;cases a
     |some y=>
      simp only[q]at a;cases j:bZ y 1 with
      |false=>simp only[j]at a;cases a
      |true=>
       simp only[j]at a;have:=kC j;subst this;unfold sS at a;cases x<;>try(cases a;done)
       rename_i A;obtain⟨l⟩:=A;simp only at a;split at a
       ·rename_i o i;cases f:bK (ff i) m with
        |false=>simp only[f]at a;cases a
        |true=>
         simp only[f]at a;have a:=Jd a;have f:=fX f;have p:oH P t=false:=by unfold oH;rw[d]
         have e:uP P t (.agg ⟨l⟩) (.int o (.ofNat i))=l[i]? :=by unfold uP;rw[p];simp only;unfold CT;simp only[isStr];unfold xB;simp only[d,q];rw[if_pos ⟨gY _,Int.ofNat_lt.2 f⟩];unfold partOf;simp only[g,xu];simp
         rw[e];exact a
       ·cases a
theorem afD{b:Array TypeId}{vs:List Value}(a:I4 P b vs k h n=some r):bf (zM P b vs) k h n=some r:=by
 unfold I4 at a;cases d:b[0]? with
 |none=>simp only[d]at a;cases a
 |some t=>
  simp only[d]at a;split at a
  ·rename_i x;cases c:P.underlying t with
   |none=>simp only[c]at a;cases a
   |some u=>
    simp only[c]at a;cases u<;>try(cases a;done)
    ·unfold cS at a;cases x<;>try(cases a;done)
     rename_i s;obtain⟨⟨l⟩⟩:=s;refine eH (v:= .int .i64 (l.length:Nat)) ?_ (by rw[<-pT];exact a);unfold zM;simp only[d,c];rfl
    ·unfold aT at a;cases x<;>try(cases a;done)
     refine eH ?_ a;unfold zM;simp only[d,c];rfl
  ·cases a
theorem afE{vs:List Value}(c:I5 vs k h n=some r):bf (min2 vs) k h n=some r:=by
 unfold I5 at c;split at c
 ·rename_i x y;unfold kY at c;split at c
  ·split at c
   ·rename_i a p _ b q;refine eH (v:= .int a (if q<p then q else p)) rfl ?_;rw[qS]at c;by_cases e:q<p
    ·rw[if_pos e];simp only[e,decide_true]at c;exact c
    ·rw[if_neg e];simp only[e,decide_false]at c;exact c
   ·cases c
  ·cases c
 ·rename_i x y z u v w;unfold PW at c
  have d:∀{x y:Value} {k:Value->M β},kY x y k h n=some r->∃a p b q,x= .int a p∧y= .int b q∧k (.int a (uQ p q)) h n=some r:=by
   intro x y k c;unfold kY at c;split at c
   ·split at c
    ·rename_i a p _ b q;refine⟨a,p,b,q,rfl,rfl, ?_⟩;rw[qS]at c;unfold uQ;by_cases e:q<p
     ·rw[if_pos e];simp only[e,decide_true]at c;exact c
     ·rw[if_neg e];simp only[e,decide_false]at c;exact c
    ·cases c
   ·cases c
  obtain⟨a,p,b,q,rfl,rfl,l⟩:=d c;obtain⟨P,G,K,q2,t,rfl,j⟩:=d l;obtain⟨O,F,b3,C,s,rfl,i⟩:=d j;obtain⟨N,E,J,B,o,rfl,g⟩:=d i;obtain⟨L,D,I,A,m,rfl,f⟩:=d g;cases t;cases s;cases o;cases m;exact eH rfl f
 ·cases c
theorem afF{vs:List Value}(c:I6 vs k h n=some r):bf (max2 vs) k h n=some r:=by
 unfold I6 at c;split at c
 ·rename_i x y;unfold sR at c;split at c
  ·split at c
   ·rename_i a p _ b q;refine eH (v:= .int a (if p<q then q else p)) rfl ?_;rw[qS]at c;by_cases e:p<q
    ·rw[if_pos e];simp only[e,decide_true]at c;exact c
    ·rw[if_neg e];simp only[e,decide_false]at c;exact c
   ·cases c
  ·cases c
 ·cases c
end
section
variable {α β:Type} {h:H} {n:Nat} {r:Out β}
theorem fT{o:Option α}{k a:α->M β}(c:∀v,k v h n=some r->a v h n=some r)(b:bf o k h n=some r):bf o a h n=some r:=by
 cases o with
 |none=>cases b
 |some v=>exact c v b
theorem DB{s:Fr}:∀{l:List Operand} {k c:List Value->M β},(∀v,k v h n=some r->c v h n=some r)->kV s l k h n=some r->kV s l c h n=some r
 |[],_,_,b,a=>b _ a
 |_::_,_,_,b,a=>fT (fun _ q=>DB (fun _ q=>b _ q) q) a
theorem Je{s:Fr}{x:Option Operand}{k a:Option Value->M β}(c:∀v,k v h n=some r->a v h n=some r)(b:qQ s x k h n=some r):qQ s x a h n=some r:=by
 cases x with
 |none=>exact c _ b
 |some x=>exact fT (fun _ q=>c _ q) b
variable {P:Program} {rec:FuncId->Array Value->M Value}
theorem afG{s:Fr}{c:Call}{vs:List Value}{k:Value->M β}(a:I9 P rec s c vs k h n=some r):call2 P rec s c vs k h n=some r:=by
 unfold I9 at a;unfold call2;cases e:c.callee with
 |value f=>
  simp only[e]at a⊢;cases f with
  |func g=>
   simp only at a;cases i:mE P g with
   |false=>simp only[i]at a;cases a
   |true=>
    simp only[i]at a;show gI P rec (.func (.func g) #[] #[]) vs k h n=some r;unfold gI
    show(match mE P g with
     |true=>(inside (rec g ((#[]:Array Value).toList++vs++(#[]:Array Value).toList).toArray)).bind k
     |false=>M.fail) h n=some r
    rw[i];refine ld ?_ a;simp
  |_=>exact a
 |builtin b=>
  simp only[e]at a⊢;cases b<;>try(cases a;done)
  case append=>exact fT (fun q d=>afx d) a
  case copy=>exact fT (fun q d=>afy d) a
  case len=>exact afD a
  case max=>exact afF a
  case min=>exact afE a
 |invoke _ _=>simp only[e]at a;cases a
theorem afH{s:Fr}{o:Oper}{k:Value->M β}(g:kJ P rec s o k h n=some r):CU P rec s o k h n=some r:=by
 obtain⟨u,j,D,pos,after,guard⟩:=o;unfold kJ at g;unfold CU;cases j with
 |move x=>exact g
 |assign x=>exact g
 |pick c a b=>
  refine fT (fun A=>fT fun C=>fT fun B q=> ?_) g;unfold ID at q;split at q
  ·exact eH rfl q
  ·exact eH rfl q
  ·cases q
 |alloc e=>exact afp g
 |box e x=>exact fT (fun _ q=>afq q) g
 |build t m=>exact DB (fun _ q=>afr q) g
 |buildSlice t len m=>exact DB (fun _ q=>afu q) g
 |load t a=>exact fT (fun _ q=>P0 q) g
 |store t a x=>exact fT (fun _=>fT fun _ q=>afo q) g
 |nilCheck x=>
  refine fT (fun v q=> ?_) g;unfold au at q;split at q
  ·exact eH rfl q
  ·exact eH rfl q
  ·cases q
 |binOp j t x y z=>exact fT (fun _=>fT fun _ q=>afi q) g
 |unOp j t x=>exact fT (fun _ q=>afk q) g
 |convert src d x=>exact fT (fun _ q=>afn q) g
 |makeFunc I a b=>exact g
 |makeSlice t l c=>exact fT (fun _=>fT fun _ q=>afv q) g
 |slice t x F G E=>exact fT (fun _=>Je fun _=>Je fun _=>Je fun _ q=>afw q) g
 |fieldAddr t x f=>exact fT (fun _ q=>afz q) g
 |field t x f=>exact fT (fun _ q=>afA q) g
 |indexAddr t x p=>exact fT (fun _=>fT fun _ q=>afB q) g
 |index t x p=>exact fT (fun _=>fT fun _ q=>afC q) g
 |extract t i=>
  refine fT (fun v q=> ?_) g;unfold bj at q;cases v<;>try(cases q;done)
  rename_i w;obtain⟨l⟩:=w;have e:su (.tuple ⟨l⟩) i=l[i]? :=by simp[su]
  rw[e];exact Jd q
 |call c=>exact DB (fun _ q=>afG q) g
 |_=>cases g
end
end Go.Proofs.YtcehhgppfahbkaaGreatDoor.Ev
namespace Go.Proofs.YtcehhgppfahbkaaGreatDoor.Ev
open Go
noncomputable section
variable (P:Program) (rec:FuncId->Array Value->M Value)
def fg(ops:Array Oper)(a:Option Tmp):List Nat->List Nat
 |[]=>[]
 |j::r=>match (ops[j]?).bind (·.dst),a with
  |some t,some d=>match bZ t d with
   |true=>fg ops a r
   |false=>j::fg ops a r
  |_,_=>j::fg ops a r
def uY(j:Nat):List Nat->Bool
 |[]=>false
 |i::r=>match bZ i j with
  |true=>true
  |false=>uY j r
def oQ{c:Type}(ops:Array Oper):List Oper->Nat->List Nat->Fr->(Fr->M c)->M c
 |[],_,_,s,k=>k s
 |o::r,i,a,s,k=>match o.guard with
  |none=>kJ P rec s o fun v=>oQ ops r (i+1) (fg ops o.dst a) (gH s o.dst v) k
  |some (j,b)=>match uY j a with
   |true=>oQ ops r (i+1) (i::fg ops o.dst a) (gH s o.dst undef) k
   |false=>match (ops[j]?).bind (·.dst)with
    |none=> .fail
    |some t=>bf (s.at_ t) fun g=>
     aK g (match b with
      |true=>kJ P rec ((t,.bool true)::s) o fun v=>oQ ops r (i+1) (fg ops o.dst a) (gH ((t,.bool true)::s) o.dst v) k
      |false=>oQ ops r (i+1) (i::fg ops o.dst a) (gH ((t,.bool true)::s) o.dst undef) k)
      (match b with
        |true=>oQ ops r (i+1) (i::fg ops o.dst a) (gH ((t,.bool false)::s) o.dst undef) k
        |false=>kJ P rec ((t,.bool false)::s) o fun v=>oQ ops r (i+1) (fg ops o.dst a) (gH ((t,.bool false)::s) o.dst v) k)
abbrev Hint:=List Nat×List Nat×List (Nat×List Nat)
def P5:List (Nat×List Nat)->Nat->Option (List Nat)
 |[],_=>none
 |q::r,i=>match bZ q.1 i with
  |true=>some q.2
  |false=>P5 r i
def Hint.out(G:Hint)(id:Nat)(s:Fr):Fr:=match P5 G.2.2 id with
 |some l=>s.ay l
 |none=>s
def DC{a:Type}(b:Nat)(k:Tk->M a):M a:=match b with
 |0=>k ⟨0,0,[]⟩
 |_=>(bx (M.ret undef)).bind fun x=>k x.2
def jT{e:Type}(ops:Array Oper):List Oper->Nat->List Nat->Fr->List Tk->(Fr->List Tk->M e)->M e
 |[],_,_,s,a,k=>k s a.reverse
 |o::r,i,b,s,a,k=>match o.guard with
  |none=>match kind o.op with
   |0=>kJ P rec s o fun v=>jT ops r (i+1) (fg ops o.dst b) (gH s o.dst v) (⟨0,0,[]⟩::a) k
   |_=>(bx (kJ P rec s o M.ret)).bind fun x=>jT ops r (i+1) (fg ops o.dst b) (gH s o.dst x.1) (x.2::a) k
  |some (j,c)=>match uY j b with
   |true=>DC (kind o.op) fun d=>jT ops r (i+1) (i::fg ops o.dst b) (gH s o.dst undef) (d::a) k
   |false=>match (ops[j]?).bind (·.dst)with
    |none=> .fail
    |some t=>bf (s.at_ t) fun g=>
     aK g (match c with
      |true=>match kind o.op with
       |0=>kJ P rec ((t,.bool true)::s) o fun v=>jT ops r (i+1) (fg ops o.dst b) (gH ((t,.bool true)::s) o.dst v) (⟨0,0,[]⟩::a) k
       |_=>(bx (kJ P rec ((t,.bool true)::s) o M.ret)).bind fun x=>jT ops r (i+1) (fg ops o.dst b) (gH ((t,.bool true)::s) o.dst x.1) (x.2::a) k
      |false=>DC (kind o.op) fun d=>jT ops r (i+1) (i::fg ops o.dst b) (gH ((t,.bool true)::s) o.dst undef) (d::a) k)
      (match c with
        |true=>DC (kind o.op) fun d=>jT ops r (i+1) (i::fg ops o.dst b) (gH ((t,.bool false)::s) o.dst undef) (d::a) k
        |false=>match kind o.op with
         |0=>kJ P rec ((t,.bool false)::s) o fun v=>jT ops r (i+1) (fg ops o.dst b) (gH ((t,.bool false)::s) o.dst v) (⟨0,0,[]⟩::a) k
         |_=>(bx (kJ P rec ((t,.bool false)::s) o M.ret)).bind fun x=>jT ops r (i+1) (fg ops o.dst b) (gH ((t,.bool false)::s) o.dst x.1) (x.2::a) k)
def DD(a:List Nat)(ops:Array Oper)(j:Nat)(c:Oper)(e:Tk)(k:Nat)(b:Oper)(d:Tk):Bool:=
 (a.getD k 0).testBit j||(!(pL ops c b)&&(match fits (kind c.op) (kind b.op)with
   |true=>true
   |false=> !(fs e d)))
def DE(a:List Nat)(ops:Array Oper)(j:Nat)(c:Oper)(b:Tk):Nat->List Oper->List Tk->Bool
 |k,e::r,d::t=>DD a ops j c b k e d&&DE a ops j c b (k+1) r t
 |_,_,_=>true
def xS(a:List Nat)(ops:Array Oper):Nat->List Oper->List Tk->Bool
 |j,c::r,b::t=>DE a ops j c b (j+1) r t&&xS a ops (j+1) r t
 |_,_,_=>true
def lT{a:Type}(b:Bool)(m:M a):M a:=match b with
 |true=>m
 |false=> .fail
def Jf{c:Type}(ops:Array Oper)(a:Bool)(s:Fr)(k:Fr->M c):M c:=
 match !a||CX ops with
 |true=>oQ P rec ops ops.toList 0 [] s k
 |false=>match sx ops with
  |true=>jT P rec ops ops.toList 0 [] s [] fun d b=>lT (xS (lM ops.toList []) ops 0 ops.toList b) (k d)
  |false=> .fail
def P6{b:Type}(c:Fr->(Ex->Fr->M b)->M b)(k:Ex->Fr->M b):Ex->Fr->M b
 | .normal,a=>c a k
 | .ret,a=>k .ret a
 | .exit i,a=>k (.exit i) a
def DF{b:Type}(id:Nat)(k:Ex->Fr->M b):Ex->Fr->M b
 | .normal,a=>k .normal a
 | .ret,a=>k .ret a
 | .exit i,a=>match bZ i id with
   |true=>k .normal a
   |false=>k (.exit i) a
def P7{c:Type}(a:Fr->M c)(k:Ex->Fr->M c):Ex->Fr->M c
 | .normal,b=>a b
 | .ret,b=>k .ret b
 | .exit i,b=>k (.exit i) b
def aP{b:Type}(a:Fr->(Ex->Fr->M b)->M b)(keys:List Nat):Nat->Fr->(Ex->Fr->M b)->M b
 |0,_,_=> .fail
 |f+1,s,k=>a s (P7 (fun c=>aP a keys f (c.ay keys) k) k)
def oR{h:Type}(G:Hint)(lf:Nat):Code->Fr->(Ex->Fr->M h)->M h
 | .skip,s,k=>k .normal s
 | .label _,s,k=>k .normal s
 | .region _ f e,s,k=>Jf P rec f e s fun d=>k .normal (d.ay G.1)
 | .seq a b,s,k=>oR G lf a s (P6 (fun d g=>oR G lf b d g) k)
 | .cond c a b,s,k=>bf (bC s c) fun v=>aK v (oR G lf a s k) (oR G lf b s k)
 | .block id c,s,k=>oR G lf c s (DF id k)
 | .loop c,s,k=>aP (fun d g=>oR G lf c d g) s.keys lf s k
 | .exit id,s,k=>k (.exit id) (G.out id s)
 | .ret,s,k=>k .ret (s.ay G.2.1)
 |_,_,_=> .fail
def sU:Code->List Bool->Code
 | .seq a b,t::p=>match t with
   |true=>sU b p
   |false=>sU a p
 | .cond _ a b,t::p=>match t with
   |true=>sU b p
   |false=>sU a p
 | .block _ c,_::p=>sU c p
 | .loop c,_::p=>sU c p
 |c,_=>c
def uZ{d:Type}(G:Hint)(lf:Nat):Code->List Bool->(Ex->Fr->M d)->Ex->Fr->M d
 | .seq a b,t::p,k=>match t with
   |true=>uZ G lf b p k
   |false=>uZ G lf a p (P6 (fun e f=>oR P rec G lf b e f) k)
 | .cond _ a b,t::p,k=>match t with
   |true=>uZ G lf b p k
   |false=>uZ G lf a p k
 | .block id c,_::p,k=>uZ G lf c p (DF id k)
 |_,_,k=>k
def xT{c:Type}(s:Fr):List ResultVar->(List Value->M c)->M c
 |[],k=>k []
 | .tmp t::r,k=>bf (s.at_ t) fun v=>xT s r fun b=>k (v::b)
 | .cell a t::r,k=>bf (s.at_ a) fun a=>DA P t a fun v=>xT s r fun b=>k (v::b)
def aj(vs:List Value):M Value:= .ret (match vs with|[v]=>v|_=> .tuple vs.toArray)
def P8(a:List ResultVar):Ex->Fr->M Value
 | .normal,s=>xT P s a aj
 | .ret,s=>xT P s a aj
 | .exit _,_=> .fail
def DG:Nat->List Value->Fr
 |_,[]=>[]
 |i,v::r=>(i,v)::DG (i+1) r
end
def Jg(P:Program)(f:FuncId):Code:=match P.funcs[f]? with
 |some a=>match a.body with
  |some c=>c
  |none=> .skip
 |none=> .skip
def afI(P:Program)(f:FuncId):List ResultVar:=match P.funcs[f]? with
 |some a=>a.results.toList
 |none=>[]
noncomputable def aD (P:Program) (gt:Nat->Hint) (lf:Nat) (rec:FuncId->Array Value->M Value) (f:FuncId) (args:Array Value):M Value:=match P.funcs[f]? with
 |some a=>match a.body with
  |some c=>match decide (args.size<=a.ntmps)&&decide (a.ntmps<1000)with
   |true=>inside (oR P rec (gt f) lf c (DG 0 args.toList) (P8 P a.results.toList))
   |false=> .fail
  |none=> .fail
 |none=> .fail
noncomputable def va (kn:List FuncId) (P:Program) (gt:Nat->Hint) (lf:Nat):Nat->FuncId->Array Value->M Value
 |0,_,_=> .fail
 |d+1,f,args=>match kn.contains f with
  |true=>match pO f with
   |some k=>sH f k args.toList
   |none=>match decide (args.size=0)&&sF P f with
    |true=>(mF P KG).bind fun _=> .ret (.bool true)
    |false=> .fail
  |false=>aD P gt lf (va kn P gt lf d) f args
noncomputable def ah (P:Program) (gt:Nat->Hint) (lf:Nat):Nat->FuncId->Array Value->M Value:=va KN P gt lf
def lU(nt:Nat):Code->Bool
 | .region _ e _=>e.all fun o=>match o.dst with
   |some d=>d<nt&&d<1023
   |none=>true
 | .seq a b=>lU nt a&&lU nt b
 | .cond _ a b=>lU nt a&&lU nt b
 | .block _ c| .loop c=>lU nt c
 |_=>true
def mO(P:Program):Bool:=P.funcs.all fun a=>match a.body with
 |some c=>lU a.ntmps c
 |none=>true
theorem Sub.nil(a:S):Sub [] a:=fun t v h=>by cases h
theorem Jh(d:Nat)(v:Value)(s:Fr)(t:Nat):Fr.at_ ((d,v)::s) t=if d=t then some v else s.at_ t:=by
 show(match bZ d t with|true=>some v|false=>s.at_ t)=_;by_cases e:d=t
 ·subst e;rw[uy,if_pos rfl]
 ·have:bZ d t=false:=Bool.eq_false_iff.2 fun q=>e (kC q);rw[this,if_neg e]
theorem Sub.cons{s:Fr}{b:S}(c:Sub s b){d:Nat}{v:Value}(h:b.get d=v):Sub ((d,v)::s) b:=fun t u a=>by
 rw[Jh]at a;by_cases e:d=t
 ·rw[if_pos e]at a;cases a;rw[<-e];exact h
 ·rw[if_neg e]at a;exact c t u a
theorem Sub.put{s:Fr}{c:S}(g:Sub s c){nt:Nat}{a:Option Tmp}(hd:∀d,a=some d->d<nt∧d<1023)(v:Value):∃f,aq7 nt c a v=some f∧Sub (gH s a v) f:=by
 cases a with
 |none=>exact⟨c,rfl,g⟩
 |some d=>
  obtain⟨i,h⟩:=hd d rfl;refine⟨c.put d v,by unfold aq7;simp[i,h],fun t u b=> ?_⟩;rw[S.pQ _ _ _ _ h];have b:Fr.at_ ((d,v)::s) t=some u:=b;rw[Jh]at b;by_cases e:d=t
  ·rw[if_pos e]at b;rw[if_pos e.symm];cases b;rfl
  ·rw[if_neg e]at b;rw[if_neg (fun q=>e q.symm)];exact g t u b
theorem Ji(s:Fr):∀(G:List Nat) (t:Nat) (v:Value),(s.ay G).at_ t=some v->s.at_ t=some v
 |[],t,v,h=>by cases h
 |g::G,t,v,h=>by
  unfold Fr.ay at h;split at h
  ·rename_i u a;rw[Jh]at h;by_cases e:g=t
   ·rw[if_pos e]at h;cases h;rw[<-e];exact a
   ·rw[if_neg e]at h;exact Ji s G t v h
  ·exact Ji s G t v h
theorem Sub.ay{s:Fr}{a:S}(b:Sub s a)(G:List Nat):Sub (s.ay G) a:=fun t v h=>b t v (Ji s G t v h)
theorem Sub.out{s:Fr}{a:S}(b:Sub s a)(G:Hint)(id:Nat):Sub (G.out id s) a:=by
 unfold Hint.out;split
 ·exact b.ay _
 ·exact b
section
variable {P:Program} {kn:List FuncId} {rec:FuncId->Array Value->M Value} (ft:∀f args h n v h1 n1 L,rec f args h n=some ⟨v,h1,n1,L⟩->eu (fun fuel=>dm P kn fuel f args) h n v h1 n1 L)
include ft
theorem Jj{ops:Array Oper}{o:Oper}{s:Fr}{c:S}{d:Type}{k:Value->M d}{h:H}{n:Nat}{r:Out d}(e:fP o (gG ops c)=true)(f:Sub s c)(g:kJ P rec s o k h n=some r):
 ∃v b a L1 L2,eu (fun fuel=>inside (fI P (dm P kn fuel) ops o c)) h n v b a L1∧k v b a=some ⟨r.val,r.h,r.n,L2⟩∧r.log=L1++L2:=by
 obtain⟨v,b,a,L1,L2,l,j,i⟩:=aeE ft f (afH g);refine⟨v,b,a,L1,L2,l.map fun fuel=> ?_,j,i⟩;rw[PD e];rfl
theorem P9{ops:Array Oper}{o:Oper}{a:S}{h:H}{n:Nat}(b:fP o (gG ops a)=false):eu (fun fuel=>inside (fI P (dm P kn fuel) ops o a)) h n undef h n []:=by refine⟨0,fun fuel _=> ?_⟩;show inside (fI P (dm P kn fuel) ops o a) h n=_;unfold fI;rw[if_neg (by rw[b];exact Oo)];rfl
theorem Jk{b:Type}{v:Value}{x y:M b}{h:H}{n:Nat}{r:Out b}(a:aK v x y h n=some r):(v= .bool true∧x h n=some r)∨(v= .bool false∧y h n=some r):=by
 unfold aK at a;split at a
 ·exact .inl ⟨rfl,a⟩
 ·exact .inr ⟨rfl,a⟩
 ·cases a
theorem zY {nt:Nat} {ops:Array Oper} {o:Oper} {l:List Oper} {c g:S} {h i h2:H} {n a n2:Nat} {v:Value} {L1 L2:List En} {y:S×List Tk} (e:eu (fun fuel=>inside (fI P (dm P kn fuel) ops o c)) h n v i a L1)
 (j:aq7 nt c o.dst v=some g) (d:eu (fun fuel=>iR P (dm P kn fuel) nt ops l g) i a y h2 n2 L2):eu (fun fuel=>iR P (dm P kn fuel) nt ops (o::l) c) h n (y.1,⟨n,a,L1⟩::y.2) h2 n2 (L1++L2):=by
 obtain⟨q,e⟩:=e;obtain⟨p,d⟩:=d;refine⟨max q p,fun fuel r=> ?_⟩;have m:=C1 (e fuel jO);have k:=d fuel jO;show iR P (dm P kn fuel) nt ops (o::l) c h n=_;unfold iR;refine bY m ?_;simp only[j,uS,oI];have:=bY (f:=fun y:S×List Tk=>M.ret (y.1,(⟨n,a,L1⟩:Tk)::y.2)) k (h2:=h2) (n2:=n2) (L2:=[]) (b:=(y.1,(⟨n,a,L1⟩:Tk)::y.2)) rfl;rw[cz]at this;exact this
theorem Jl{j:Nat}:∀{l:List Nat},uY j l=true->j∈l
 |[],h=>by cases h
 |i::r,h=>by
  unfold uY at h;cases a:bZ i j with
  |true=>rw[kC a];simp
  |false=>rw[a]at h;exact fF _ (Jl h)
def Idle(ops:Array Oper)(b:S)(a:List Nat):Prop:=∀j∈a,gG ops b j=none
theorem Idle.put{ops:Array Oper}{l f:S}{nt:Nat}{a:Option Tmp}{v:Value}:∀{g:List Nat},Idle ops l g->aq7 nt l a v=some f->Idle ops f (fg ops a g)
 |[],_,_=>fun j hj=>by cases hj
 |i::r,h,b=>by
  have m:Idle ops f (fg ops a r):=Idle.put (fun j hj=>h j (fF _ hj)) b;have k:=h i jS
  have get:∀t,a≠some t->f.get t=l.get t:=by
   intro t c;cases a with
   |none=>simp only[aq7,ep]at b;rw[b]
   |some d=>
    unfold aq7 at b;simp only at b;split at b
    ·rename_i hd;simp only[cD,decide_eq_true_eq]at hd;cases b;rw[S.pQ _ _ _ _ hd.2,if_neg (fun e=>c (by rw[e]))]
    ·cases b
  have ay:(∀t,(ops[i]?).bind (·.dst)=some t->a≠some t)->Idle ops f (i::fg ops a r):=by
   intro o j hj;rcases nF.1 hj with rfl|hj
   ·unfold gG at k⊢;cases c:(ops[j]?).bind (·.dst)with
    |none=>rfl
    |some t=>rw[c]at k;simp only at k⊢;rw[get t (o t c)];exact k
   ·exact m j hj
  unfold fg;cases c:(ops[i]?).bind (·.dst)with
  |none=>exact ay fun t h=>by rw[c]at h;cases h
  |some t=>
   cases a with
   |none=>exact ay fun t h e=>by cases e
   |some d=>
    simp only;cases n:bZ t d with
    |true=>exact m
    |false=>refine ay fun p h=> ?_;rw[c]at h;cases h;rintro⟨⟩;rw[uy]at n;cases n
theorem Idle.add{ops:Array Oper}{f e:S}{nt:Nat}{o:Oper}{i:Nat}(g:ops[i]? =some o){b:List Nat}(h:Idle ops e b)(a:aq7 nt f o.dst undef=some e):Idle ops e (i::b):=by
 intro j hj;rcases nF.1 hj with rfl|hj
 ·unfold gG;rw[g];simp only[Option.bind_some];cases hd:o.dst with
  |none=>rfl
  |some d=>
   rw[hd]at a;unfold aq7 at a;simp only at a;split at a
   ·rename_i c;simp only[cD,decide_eq_true_eq]at c;cases a;simp only;rw[S.pQ _ _ _ _ c.2,if_pos rfl];rfl
   ·cases a
 ·exact h j hj
theorem afJ{β:Type}{nt:Nat}{ops:Array Oper}:∀(l:List Oper) (_:∀o∈l,∀d,o.dst=some d->d<nt∧d<1023) (i:Nat) (_:∀q o,l[q]? =some o->ops[i+q]? =some o) (e:List Nat) (s:Fr) (c:S) (_:Idle ops c e) (k:Fr->M β) (h:H) (n:Nat) (r:Out β),Sub s c->oQ P rec ops l i e s k h n=some r->
 ∃f y z x L1 L2,eu (fun fuel=>iR P (dm P kn fuel) nt ops l c) h n y z x L1∧Sub f y.1∧k f z x=some ⟨r.val,r.h,r.n,L2⟩∧r.log=L1++L2:=by
 intro l
 induction l with
 |nil=>intro _ i _ e s c _ k h n r m a;exact⟨s,(c,[]),h,n,[],r.log,eu.of rfl,m,a,rfl⟩
 |cons o l ih=>
  intro hd i C e s c w k h n r m a;have K:=hd o jS;have J:∀o∈l,∀d,o.dst=some d->d<nt∧d<1023:=fun F ho=>hd F (by simp[ho]);have U:ops[i]? =some o:=by have:=C 0 o rfl;rwa[gX]at this
  have I:∀q F,l[q]? =some F->ops[i+1+q]? =some F:=fun q F hq=>by have:=C (q+1) F (by simpa using hq);rwa[show i+1+q=i+(q+1) by omega]
  have Z:∀(s:Fr),Sub s c->fP o (gG ops c)=true->kJ P rec s o (fun v=>oQ P rec ops l (i+1) (fg ops o.dst e) (gH s o.dst v) k) h n=some r->
   ∃f y z x L1 L2,eu (fun fuel=>iR P (dm P kn fuel) nt ops (o::l) c) h n y z x L1∧Sub f y.1∧k f z x=some ⟨r.val,r.h,r.n,L2⟩∧r.log=L1++L2:=by
   intro s m R a;obtain⟨v,z,x,L1,L2,e1,e2,e3⟩:=Jj ft R m a;obtain⟨O,G,E⟩:=m.put K v;obtain⟨f,y,Y,Q,L3,L4,e4,e5,e6,N⟩:=ih J _ I _ _ O (Idle.put ft w G) k z x _ E e2;exact⟨f,_,Y,Q,_,L4,zY ft e1 G e4,e5,e6,by rw[e3];simp only at N;rw[N,bW]⟩
  have p:∀(s:Fr),Sub s c->fP o (gG ops c)=false->oQ P rec ops l (i+1) (i::fg ops o.dst e) (gH s o.dst undef) k h n=some r->
   ∃f y z x L1 L2,eu (fun fuel=>iR P (dm P kn fuel) nt ops (o::l) c) h n y z x L1∧Sub f y.1∧k f z x=some ⟨r.val,r.h,r.n,L2⟩∧r.log=L1++L2:=by
   intro s m R a;obtain⟨O,G,E⟩:=m.put K undef;obtain⟨f,y,Y,Q,L3,L4,e4,e5,e6,N⟩:=ih J _ I _ _ O (Idle.add ft U (Idle.put ft w G) G) k h n _ E a;exact⟨f,_,Y,Q,_,L4,zY ft (P9 ft R) G e4,e5,e6,N⟩
  unfold oQ at a;cases D:o.guard with
  |none=>rw[D]at a;exact Z s m (by unfold fP;rw[D]) a
  |some jw=>
   obtain⟨j,B⟩:=jw;rw[D]at a;simp only at a;cases X:uY j e with
   |true=>rw[X]at a;refine p s m ?_ a;unfold fP;rw[D];simp only;rw[w j (Jl ft X)];rfl
   |false=>
   rw[X]at a;simp only at a;cases T:(ops[j]?).bind (·.dst)with
   |none=>rw[T]at a;cases a
   |some t=>
    rw[T]at a;simp only at a;obtain⟨g,W,a⟩:=cR a;have kH:=m t g W
    have L:∀b,g= .bool b->gG ops c j=some b:=fun b A=>by unfold gG;rw[T];simp only[kH,A]
    rcases Jk ft a with ⟨A,a⟩|⟨A,a⟩
    ·have u:Sub ((t,.bool true)::s) c:=m.cons (by rw[kH,A]);cases B with
     |true=>exact Z _ u (by unfold fP;rw[D];simp only;rw[L _ A];rfl) a
     |false=>exact p _ u (by unfold fP;rw[D];simp only;rw[L _ A];rfl) a
    ·have u:Sub ((t,.bool false)::s) c:=m.cons (by rw[kH,A]);cases B with
     |true=>exact p _ u (by unfold fP;rw[D];simp only;rw[L _ A];rfl) a
     |false=>exact Z _ u (by unfold fP;rw[D];simp only;rw[L _ A];rfl) a
end
theorem DH{d:Type}{a c:d}{h h2:H}{n n2:Nat}{L:List En}(b:(M.ret a) h n=some ⟨c,h2,n2,L⟩):c=a∧h2=h∧n2=n∧L=[]:=by simp only[M.ret,ep,Out.mk.injEq]at b;exact⟨b.1.symm,b.2.1.symm,b.2.2.1.symm,b.2.2.2.symm⟩
def Match:List Oper->List Tk->List Tk->Prop
 |[],[],[]=>True
 |o::l,c::a,t::b=>(kind o.op=0∨c=t)∧Match l a b
 |_,_,_=>False
theorem Match.get:∀{l:List Oper} {a ts:List Tk},Match l a ts->∀(i:Nat) (o:Oper) (t:Tk),l[i]? =some o->ts[i]? =some t->∃b,a[i]? =some b∧(kind o.op=0∨b=t)
 |[],[],[],_,i,o,t,h,_=>by simp at h
 |o::l,b::a,t::ts,h,0,e,u,d,c=>by simp at d c;subst d c;exact⟨b,rfl,h.1⟩
 |o::l,b::a,t::ts,h,i+1,e,u,d,c=>by simpa using Match.get h.2 i e u (by simpa using d) (by simpa using c)
theorem afK{ops:Array Oper}{a:List Nat}{j:Nat}{e:Oper}{d:Tk}:∀(l:List Oper) (ts:List Tk) (k:Nat),DE a ops j e d k l ts=true->∀i o t,l[i]? =some o->ts[i]? =some t->DD a ops j e d (k+i) o t=true:=by
 intro l
 induction l with
 |nil=>intro ts k _ i o t h;simp at h
 |cons o l m=>
  intro ts k h i g f c b;cases ts with
  |nil=>simp at b
  |cons t ts=>
   unfold DE at h;simp only[cD]at h;cases i with
   |zero=>simp at c b;subst c b;exact h.1
   |succ i=>rw[show k+(i+1)=k+1+i by omega];exact m ts (k+1) h.2 i g f (by simpa using c) (by simpa using b)
theorem afL{ops:Array Oper}{e:List Nat}:∀(l:List Oper) (ts:List Tk) (j:Nat),xS e ops j l ts=true->∀p q d b c a,p<q->l[p]? =some d->l[q]? =some b->ts[p]? =some c->ts[q]? =some a->DD e ops (j+p) d c (j+q) b a=true:=by
 intro l
 induction l with
 |nil=>intro ts j _ p q d b c a _ h;simp at h
 |cons o l m=>
  intro ts j h p q d b c a n g k f i;cases ts with
  |nil=>simp at f
  |cons t ts=>
   unfold xS at h;simp only[cD]at h;cases q with
   |zero=>omega
   |succ q=>
    cases p with
    |zero=>simp at g f;subst g f;have:=afK l ts (j+1) h.1 q b a (by simpa using k) (by simpa using i);rw[show j+(q+1)=j+1+q by omega,gX];exact this
    |succ p=>have:=m ts (j+1) h.2 p q d b c a jO (by simpa using g) (by simpa using k) (by simpa using f) (by simpa using i);rw[show j+(q+1)=j+1+q by omega,show j+(p+1)=j+1+p by omega];exact this
theorem afM{i j:Nat}(h:fits i j=false):i≠0∧j≠0:=by unfold fits at h;simp only[xq,beq_eq_false_iff_ne]at h;exact⟨h.1.1.1.1,h.1.1.1.2⟩
theorem afN{ops:Array Oper}{a ts:List Tk}{n m:Nat}(x:oK n ops.toList ts m)(i:Match ops.toList a ts)(h:xS (lM ops.toList []) ops 0 ops.toList a=true):pM ops (lM ops.toList []) (tagged 0 ts)=true:=by
 refine PE ops.toList ts n m 0 x (PF ops) fun p q e d t s f l k v u=> ?_;obtain⟨c,z,g2⟩:=i.get p e t l v;obtain⟨b,y,g4⟩:=i.get q d s k u;have:=afL _ _ 0 h p q e d c b f l k z y;unfold DD at this;simp only[mr,cD,Oq]at this;rcases this with g|⟨w,g⟩
 ·exact .inl g
 ·refine .inr ⟨?_,w⟩;cases j:fits (kind e.op) (kind d.op)with
  |true=>exact .inl rfl
  |false=>
   rw[j]at g;obtain⟨r,o⟩:=afM j;rcases g2 with g2|g2
   ·exact absurd g2 r
   ·rcases g4 with g4|g4
    ·exact absurd g4 o
    ·subst g2 g4;exact .inr (by rw[<-Dm];simpa using g)
section
variable {P:Program} {kn:List FuncId} {rec:FuncId->Array Value->M Value} (ft:∀f args h n v h1 n1 L,rec f args h n=some ⟨v,h1,n1,L⟩->eu (fun fuel=>dm P kn fuel f args) h n v h1 n1 L)
include ft
theorem afO{β:Type}{nt:Nat}{ops:Array Oper}:∀(l:List Oper) (_:∀o∈l,∀d,o.dst=some d->d<nt∧d<1023) (i:Nat) (_:∀q o,l[q]? =some o->ops[i+q]? =some o) (f:List Nat) (s:Fr) (m:S) (_:Idle ops m f) (e:List Tk) (k:Fr->List Tk->M β) (h:H) (n:Nat) (r:Out β),Sub s m->jT P rec ops l i f s e k h n=some r->
 ∃p y ts A z L1 L2,eu (fun fuel=>iR P (dm P kn fuel) nt ops l m) h n y A z L1∧Sub p y.1∧k p (e.reverse++ts) A z=some ⟨r.val,r.h,r.n,L2⟩∧r.log=L1++L2∧Match l ts y.2:=by
 intro l
 induction l with
 |nil=>intro _ i _ f s m _ e k h n r u a;exact⟨s,(m,[]),[],h,n,[],r.log,eu.of rfl,u,by rw[cz];exact a,rfl,trivial⟩
 |cons o l ih=>
  intro hd i I f s m w e k h n r u a;have Q:=hd o jS;have O:∀o∈l,∀d,o.dst=some d->d<nt∧d<1023:=fun T ho=>hd T (by simp[ho]);have u1:ops[i]? =some o:=by have:=I 0 o rfl;rwa[gX]at this
  have N:∀q T,l[q]? =some T->ops[i+1+q]? =some T:=fun q T hq=>by have:=I (q+1) T (by simpa using hq);rwa[show i+1+q=i+(q+1) by omega]
  have go:∀(s:Fr),Sub s m->fP o (gG ops m)=true->
   (match kind o.op with
     |0=>kJ P rec s o fun v=>jT P rec ops l (i+1) (fg ops o.dst f) (gH s o.dst v) (⟨0,0,[]⟩::e) k
     |_=>(bx (kJ P rec s o M.ret)).bind fun x=>jT P rec ops l (i+1) (fg ops o.dst f) (gH s o.dst x.1) (x.2::e) k) h n=some r->
   ∃p y ts A z L1 L2,eu (fun fuel=>iR P (dm P kn fuel) nt ops (o::l) m) h n y A z L1∧Sub p y.1∧k p (e.reverse++ts) A z=some ⟨r.val,r.h,r.n,L2⟩∧r.log=L1++L2∧Match (o::l) ts y.2:=by
   intro s u hw a;by_cases hk:kind o.op=0
   ·simp only[hk]at a;obtain⟨v,A,z,L1,L2,e1,e2,U⟩:=Jj ft hw u a;obtain⟨W,E,C⟩:=u.put Q v;obtain⟨p,y,ts,Y,X,L3,L4,e4,e5,L,K,Z⟩:=ih O _ N _ _ W (Idle.put ft w E) _ k A z _ C e2;refine⟨p,_,(⟨0,0,[]⟩:Tk)::ts,Y,X,_,L4,zY ft e1 E e4,e5, ?_,by rw[U];simp only at K;rw[K,bW], ?_⟩
    ·rw[adp,bW]at L;exact L
    ·exact⟨.inl hk,Z⟩
   ·have a:((bx (kJ P rec s o M.ret)).bind fun x=>jT P rec ops l (i+1) (fg ops o.dst f) (gH s o.dst x.1) (x.2::e) k) h n=some r:=by
     revert a;generalize kind o.op=kk at hk;intro a
     match kk,hk with
     |kk+1,_=>exact a
    obtain⟨c,hc,nc,Lc⟩:=r;obtain⟨x,A,z,L1,L2,e1,e2,U⟩:=bind_some a;obtain⟨g1,g2⟩:=Ig e1;obtain⟨v,u4,u3,u6,u5,q1,q2,q3⟩:=Jj ft hw u g1;obtain⟨rfl,rfl,rfl,rfl⟩:=DH q2;simp only[cz]at q3;subst q3;obtain⟨W,E,C⟩:=u.put Q x.1;obtain⟨p,y,ts,Y,X,L3,L4,e4,e5,L,K,Z⟩:=ih O _ N _ _ W (Idle.put ft w E) _ k _ _ _ C e2;refine⟨p,_,x.2::ts,Y,X,_,L4,zY ft q1 E e4,e5, ?_,by rw[U];simp only at K;rw[K,bW], ?_⟩
    ·rw[adp,bW]at L;exact L
    ·exact⟨.inr g2,Z⟩
  have B:∀(s:Fr),Sub s m->fP o (gG ops m)=false->(DC (kind o.op) fun R=>jT P rec ops l (i+1) (i::fg ops o.dst f) (gH s o.dst undef) (R::e) k) h n=some r->
   ∃p y ts A z L1 L2,eu (fun fuel=>iR P (dm P kn fuel) nt ops (o::l) m) h n y A z L1∧Sub p y.1∧k p (e.reverse++ts) A z=some ⟨r.val,r.h,r.n,L2⟩∧r.log=L1++L2∧Match (o::l) ts y.2:=by
   intro s u hw a;obtain⟨c,hc,nc,Lc⟩:=r
   have a:∃R,(kind o.op=0∨R=⟨n,n,[]⟩)∧jT P rec ops l (i+1) (i::fg ops o.dst f) (gH s o.dst undef) (R::e) k h n=some ⟨c,hc,nc,Lc⟩:=by
    revert a;generalize kind o.op=kk;intro a
    match kk,a with
    |0,a=>exact⟨_,.inl rfl,a⟩
    |kk+1,a=>have a:((bx (M.ret undef)).bind fun x=>jT P rec ops l (i+1) (i::fg ops o.dst f) (gH s o.dst undef) (x.2::e) k) h n=some ⟨c,hc,nc,Lc⟩:=a;obtain⟨x,A,z,L1,L2,e1,e2,U⟩:=bind_some a;obtain⟨g1,g2⟩:=Ig e1;obtain⟨-,rfl,rfl,rfl⟩:=DH g1;refine⟨x.2,.inr g2, ?_⟩;simp only[pF]at U;rw[U];exact e2
   obtain⟨R,u0,a⟩:=a;obtain⟨W,E,C⟩:=u.put Q undef;obtain⟨p,y,ts,Y,X,L3,L4,e4,e5,L,K,Z⟩:=ih O _ N _ _ W (Idle.add ft u1 (Idle.put ft w E) E) _ k _ _ _ C a;refine⟨p,_,R::ts,Y,X,_,L4,zY ft (P9 ft hw) E e4,e5, ?_,by simp only at K;rw[K];simp, ?_⟩
   ·rw[adp,bW]at L;exact L
   ·exact⟨u0,Z⟩
  unfold jT at a;cases J:o.guard with
  |none=>rw[J]at a;exact go s u (by unfold fP;rw[J]) a
  |some jw=>
   obtain⟨j,G⟩:=jw;rw[J]at a;simp only at a;cases hI:uY j f with
   |true=>rw[hI]at a;refine B s u ?_ a;unfold fP;rw[J];simp only;rw[w j (Jl ft hI)];rfl
   |false=>
   rw[hI]at a;simp only at a;cases ht:(ops[j]?).bind (·.dst)with
   |none=>rw[ht]at a;cases a
   |some t=>
    rw[ht]at a;simp only at a;obtain⟨g,u2,a⟩:=cR a;have kH:=u t g u2
    have hy:∀b,g= .bool b->gG ops m j=some b:=fun b F=>by unfold gG;rw[ht];simp only[kH,F]
    rcases Jk ft a with ⟨F,a⟩|⟨F,a⟩
    ·have D:Sub ((t,.bool true)::s) m:=u.cons (by rw[kH,F]);cases G with
     |true=>exact go _ D (by unfold fP;rw[J];simp only;rw[hy _ F];rfl) a
     |false=>exact B _ D (by unfold fP;rw[J];simp only;rw[hy _ F];rfl) a
    ·have D:Sub ((t,.bool false)::s) m:=u.cons (by rw[kH,F]);cases G with
     |true=>exact B _ D (by unfold fP;rw[J];simp only;rw[hy _ F];rfl) a
     |false=>exact go _ D (by unfold fP;rw[J];simp only;rw[hy _ F];rfl) a
theorem afP{I:Type}{nt:Nat}{ops:Array Oper}{c:Bool}(hd:∀o∈ops.toList,∀d,o.dst=some d->d<nt∧d<1023){s:Fr}{t:S}{k:Fr->M I}{h:H}{n:Nat}{r:Out I}(K:Sub s t)(p:Jf P rec ops c s k h n=some r):
 ∃w J l i L1 L2,eu (fun fuel=>pN P (dm P kn fuel) nt ops c t) h n J l i L1∧Sub w J∧k w l i=some ⟨r.val,r.h,r.n,L2⟩∧r.log=L1++L2:=by
 have A:∀{y:S×List Tk} {l:H} {i:Nat} {L1:List En},eu (fun fuel=>iR P (dm P kn fuel) nt ops ops.toList t) h n y l i L1->(oK n ops.toList y.2 i->(!c||(sx ops&&pM ops (lM ops.toList []) (tagged 0 y.2)))=true)->eu (fun fuel=>pN P (dm P kn fuel) nt ops c t) h n y.1 l i L1:=by
  intro y l i L1 z u
  have u:=u (by
   obtain⟨B,e⟩:=z
   exact aeK (fun f a=>Loc.dm P kn B f a) _ _ _ _ _ _ _ _ (e B (ai _)))
  obtain⟨B,e⟩:=z;refine⟨B,fun fuel N=> ?_⟩;show pN P (dm P kn fuel) nt ops c t h n=_;unfold pN;have:=bY (f:=fun y:S×List Tk=>if(!c||(sx ops&&pM ops (lM ops.toList []) (tagged 0 y.2)))=true then M.ret y.1 else .fail) (e fuel N) (L2:=[]) (b:=y.1) (h2:=l) (n2:=i) (by rw[if_pos u];rfl);rw[cz]at this;exact this
 unfold Jf at p;cases m:(!c||CX ops)with
 |true=>
  simp only[m]at p;obtain⟨w,y,l,i,L1,L2,z,G,v,F⟩:=afJ ft ops.toList hd 0 (fun q o C=>by rw[fy,<-Hr];exact C) [] s t (fun j D=>by cases D) k h n r K p;refine⟨w,y.1,l,i,L1,L2,A z fun x=> ?_,G,v,F⟩;simp only[mr,Oq]at m;rcases m with g|g
  ·rw[g];rfl
  ·obtain⟨Q,O⟩:=aeO x g;rw[Q,O];simp
 |false=>
  simp only[m]at p;cases E:sx ops with
  |false=>simp only[E]at p;cases p
  |true=>
   simp only[E]at p;obtain⟨w,y,L,l,i,L1,L2,z,G,v,F,R⟩:=afO ft ops.toList hd 0 (fun q o C=>by rw[fy,<-Hr];exact C) [] s t (fun j D=>by cases D) [] _ h n r K p;simp only[List.reverse_nil,pF]at v;cases u:xS (lM ops.toList []) ops 0 ops.toList L with
   |false=>rw[u]at v;cases v
   |true=>rw[u]at v;exact⟨w,y.1,l,i,L1,L2,A z fun x=>by rw[E,afN x R u];simp,G,v,F⟩
def afQ(kn:List FuncId)(P:Program)(nt:Nat)(c:Code)(d:S)(h:H)(n:Nat)(x:Ex×S)(g:H)(e:Nat)(L:List En):Prop:=∃b,∀a,b<=a->∀f,b<=f->dY P (dm P kn a) nt f c d h n=some ⟨x,g,e,L⟩
def Jm(kn:List FuncId)(P:Program)(nt:Nat)(c:Code)(l:S){a:Type}(k:Ex->Fr->M a)(h:H)(n:Nat)(r:Out a):Prop:=
 ∃e d b g f j i,afQ kn P nt c l h n (e,b) g f j∧Sub d b∧k e d g f=some ⟨r.val,r.h,r.n,i⟩∧r.log=j++i
theorem afR{T:Type}{nt:Nat}{G:Hint}{lf:Nat}:∀(c:Code) (_:lU nt c=true) (s:Fr) (g:S) (k:Ex->Fr->M T) (h:H) (n:Nat) (r:Out T),Sub s g->oR P rec G lf c s k h n=some r->Jm kn P nt c g k h n r:=by
 intro c
 induction c with
 |skip=>intro _ s g k h n r t j;exact⟨.normal,s,g,h,n,[],r.log,⟨1,fun m _ f q=>by match f,q with|f+1,_=>rfl⟩,t,j,rfl⟩
 |label l=>intro _ s g k h n r t j;exact⟨.normal,s,g,h,n,[],r.log,⟨1,fun m _ f q=>by match f,q with|f+1,_=>rfl⟩,t,j,rfl⟩
 |region id u4 u3=>
  intro hd s g k h n r t j;unfold lU at hd;rw[ur]at hd
  obtain⟨C,z,x,w,u,L2,⟨A,e1⟩,e2,e3,e4⟩:=afP ft (fun o ho d u1=>by
   have:=hd o (by simpa using ho);rw[u1]at this
   simpa using this) t j
  refine⟨.normal,C.ay G.1,z,x,w,u,L2,⟨A+1,fun m p f q=> ?_⟩,e2.ay G.1,e3,e4⟩
  match f,q with
  |f+1,_=>unfold dY;have:=bY (f:=fun g=>M.ret (Ex.normal,g)) (e1 m jO) (L2:=[]) (h2:=x) (n2:=w) (b:=(Ex.normal,z)) rfl;rw[cz]at this;exact this
 |seq a b K J=>
  intro hd s g k h n r t j;unfold lU at hd;simp only[cD]at hd;obtain⟨e,C,z,x,w,u,L2,⟨A,B⟩,E,y,D⟩:=K hd.1 s g _ h n r t j;cases e with
  |normal=>
   obtain⟨e,W,U,h3,Y,L3,L4,⟨f1,q1⟩,q2,X,N⟩:=J hd.2 C z k x w _ E y;refine⟨e,W,U,h3,Y,u++L3,L4,⟨max A f1+1,fun m p f q=> ?_⟩,q2,X,by rw[D];simp only at N;rw[N,bW]⟩
   match f,q with
   |f+1,_=>unfold dY;exact bY (B m jO f jO) (q1 m jO f jO)
  |ret=>
   refine⟨.ret,C,z,x,w,u,L2,⟨A+1,fun m p f q=> ?_⟩,E,y,D⟩
   match f,q with
   |f+1,_=>unfold dY;rw[<-cz u];exact bY (B m jO f jO) rfl
  |exit i=>
   refine⟨.exit i,C,z,x,w,u,L2,⟨A+1,fun m p f q=> ?_⟩,E,y,D⟩
   match f,q with
   |f+1,_=>unfold dY;rw[<-cz u];exact bY (B m jO f jO) rfl
 |cond c a b K J=>
  intro hd s g k h n r t j;unfold lU at hd;simp only[cD]at hd;obtain⟨v,hv,j⟩:=cR j;have hc:=t.bC hv;rcases Jk ft j with ⟨rfl,j⟩|⟨rfl,j⟩
  ·obtain⟨e,C,z,x,w,u,L2,⟨A,B⟩,E,y,D⟩:=K hd.1 s g k h n r t j;refine⟨e,C,z,x,w,u,L2,⟨A+1,fun m p f q=> ?_⟩,E,y,D⟩
   match f,q with
   |f+1,_=>unfold dY;simp only[hc,if_true];exact B m jO f jO
  ·obtain⟨e,C,z,x,w,u,L2,⟨A,B⟩,E,y,D⟩:=J hd.2 s g k h n r t j;refine⟨e,C,z,x,w,u,L2,⟨A+1,fun m p f q=> ?_⟩,E,y,D⟩
   match f,q with
   |f+1,_=>unfold dY;simp only[hc,nD,if_false];exact B m jO f jO
 |block id c ih=>
  intro hd s g k h n r t j;unfold lU at hd;obtain⟨e,C,z,x,w,u,L2,⟨A,B⟩,E,y,D⟩:=ih hd s g _ h n r t j
  have I:∀R:Ex,(∀m,A<=m->∀f,A<=f->dY P (dm P kn m) nt (f+1) (.block id c) g h n=some ⟨(R,z),x,w,u⟩)->k R C x w=some ⟨r.val,r.h,r.n,L2⟩->Jm kn P nt (.block id c) g k h n r:=by
   intro R O hk;refine⟨R,C,z,x,w,u,L2,⟨A+1,fun m p f q=> ?_⟩,E,hk,D⟩
   match f,q with
   |f+1,_=>exact O m jO f jO
  cases e with
  |normal=>exact I .normal (fun m p f q=>by unfold dY;rw[<-cz u];exact bY (B m p f q) rfl) y
  |ret=>exact I .ret (fun m p f q=>by unfold dY;rw[<-cz u];exact bY (B m p f q) rfl) y
  |exit i=>
   cases Q:bZ i id with
   |true=>have L:i=id:=kC Q;simp only[DF,Q]at y;exact I .normal (fun m p f q=>by unfold dY;rw[<-cz u];exact bY (B m p f q) (by simp only[if_pos L];rfl)) y
   |false=>
    have L:¬i=id:=by rintro rfl;rw[uy]at Q;cases Q
    simp only[DF,Q]at y;exact I (.exit i) (fun m p f q=>by unfold dY;rw[<-cz u];exact bY (B m p f q) (by simp only[if_neg L];rfl)) y
 |loop c ih=>
  intro hd s g k h n r t j;have u2:lU nt c=true:=by unfold lU at hd;exact hd
  have Z:∀(F:Nat) (keys:List Nat) (s:Fr) (g:S) (h:H) (n:Nat) (r:Out T),Sub s g->aP (fun g k1=>oR P rec G lf c g k1) keys F s k h n=some r->Jm kn P nt (.loop c) g k h n r:=by
   intro F
   induction F with
   |zero=>intro keys s g h n r _ j;cases j
   |succ F u0=>
    intro keys s g h n r t j;unfold aP at j;obtain⟨e,C,z,x,w,u,L2,⟨A,B⟩,E,y,D⟩:=ih u2 s g _ h n r t j;cases e with
    |normal=>
     obtain⟨e,W,U,h3,Y,L3,L4,⟨f1,q1⟩,q2,X,N⟩:=u0 keys _ z x w _ (E.ay keys) y;refine⟨e,W,U,h3,Y,u++L3,L4,⟨max A f1+1,fun m p f q=> ?_⟩,q2,X,by rw[D];simp only at N;rw[N,bW]⟩
     match f,q with
     |f+1,_=>unfold dY;exact bY (B m jO f jO) (q1 m jO f jO)
    |ret=>
     refine⟨.ret,C,z,x,w,u,L2,⟨A+1,fun m p f q=> ?_⟩,E,y,D⟩
     match f,q with
     |f+1,_=>unfold dY;rw[<-cz u];exact bY (B m jO f jO) rfl
    |exit i=>
     refine⟨.exit i,C,z,x,w,u,L2,⟨A+1,fun m p f q=> ?_⟩,E,y,D⟩
     match f,q with
     |f+1,_=>unfold dY;rw[<-cz u];exact bY (B m jO f jO) rfl
  exact Z lf s.keys s g h n r t j
 |exit id=>intro _ s g k h n r t j;exact⟨.exit id,_,g,h,n,[],r.log,⟨1,fun m _ f q=>by match f,q with|f+1,_=>rfl⟩,t.out G id,j,rfl⟩
 |ret=>intro _ s g k h n r t j;exact⟨.ret,_,g,h,n,[],r.log,⟨1,fun m _ f q=>by match f,q with|f+1,_=>rfl⟩,t.ay _,j,rfl⟩
 |rangeFunc _ _ _ _=>intro _ s g k h n r t j;cases j
 |scope _=>intro _ s g k h n r t j;cases j
 |goto _=>intro _ s g k h n r t j;cases j
 |refuse _=>intro _ s g k h n r t j;cases j
end
theorem afS{P:Program}{s:Fr}{m:S}(p:Sub s m):∀(l:List ResultVar) (k:List Value->M Value) (h:H) (n:Nat) (r:Out Value),xT P s l k h n=some r->∃vs e d L1 L2,jk P m l h n=some ⟨vs,e,d,L1⟩∧k vs e d=some ⟨r.val,r.h,r.n,L2⟩∧r.log=L1++L2:=by
 intro l
 induction l with
 |nil=>intro k h n r b;exact⟨[],h,n,[],r.log,rfl,b,rfl⟩
 |cons x l o=>
  intro k h n r b;cases x with
  |tmp t=>obtain⟨v,g,b⟩:=cR b;obtain⟨vs,e,d,L1,L2,f,j,i⟩:=o _ h n r b;refine⟨v::vs,e,d,L1,L2, ?_,j,i⟩;unfold jk;rw[p t v g,<-cz L1];exact bY f rfl
  |cell a t=>obtain⟨v,g,b⟩:=cR b;obtain⟨c,G,F,I⟩:=r;obtain⟨u,e,d,L1,L2,f,j,i⟩:=bind_some (P0 b);obtain⟨J,w,q⟩:=uR f;obtain⟨rfl,_⟩:=Q1.load P t v _ _ _ _ _ _ w;rw[List.filter_eq_self.2 (fun x _=>by simp;omega)]at q;subst q;have f:=w;obtain⟨vs,B,A,z,E,D,C,y⟩:=o _ e d _ j;refine⟨u::vs,B,A,L1++z,E, ?_,C,by rw[i];simp only at y;rw[y,bW]⟩;unfold jk;rw[p a v g];refine bY f ?_;rw[<-cz z];exact bY D rfl
theorem afT:∀(l:List Value) (i:Nat) (s:S),i+l.length<1023->Sub (DG i l) (sE i l s):=by
 intro l
 induction l with
 |nil=>intro i s _;exact Sub.nil _
 |cons v l a=>intro i s h;simp only[ct]at h;show Sub ((i,v)::DG (i+1) l) (sE (i+1) l (s.put i v));refine(a (i+1) (s.put i v) jO).cons ?_;rw[O' _ _ _ _ jO,if_neg jO,S.pQ _ _ _ _ jO,if_pos rfl]
theorem P'{P:Program}{kn:List FuncId}(hd:mO P=true){gt:Nat->Hint}{lf:Nat}:∀(d:Nat) (f:FuncId) (args:Array Value) (h:H) (n:Nat) (v:Value) (r:H) (q:Nat) (L:List En),va kn P gt lf d f args h n=some ⟨v,r,q,L⟩->eu (fun fuel=>dm P kn fuel f args) h n v r q L:=by
 intro d
 induction d with
 |zero=>intro f args h n v r q L a;cases a
 |succ d K=>
  intro f args h n v r q L a;unfold va at a;cases j:kn.contains f with
  |true=>
   rw[j]at a;simp only at a;cases g:pO f with
   |some k=>
    rw[g]at a;refine⟨1,fun fuel o=> ?_⟩
    match fuel,o with
    |fuel+1,o=>show dm P kn (fuel+1) f args h n=_;unfold dm;rw[if_pos j,g];exact a
   |none=>
   rw[g]at a;simp only at a;cases z:(decide (args.size=0)&&sF P f)with
   |false=>rw[z]at a;cases a
   |true=>
    rw[z]at a;refine⟨1,fun fuel o=> ?_⟩
    match fuel,o with
    |fuel+1,o=>show dm P kn (fuel+1) f args h n=_;unfold dm;rw[if_pos j,g];show(if(decide (args.size=0)&&sF P f)=true then _ else _:M Value) h n=_;rw[if_pos z];exact a
  |false=>
  rw[j]at a;simp only at a;unfold aD at a;cases l:P.funcs[f]? with
  |none=>rw[l]at a;cases a
  |some p=>
   rw[l]at a;simp only at a;cases u:p.body with
   |none=>rw[u]at a;cases a
   |some c=>
    rw[u]at a;simp only at a;cases b:(decide (args.size<=p.ntmps)&&decide (p.ntmps<1000))with
    |false=>rw[b]at a;cases a
    |true=>
     rw[b]at a;simp only at a;have m:=b;simp only[cD,decide_eq_true_eq]at b;obtain⟨L',a,N⟩:=uR a
     have A:lU p.ntmps c=true:=by unfold mO at hd;rw[ur]at hd;have:=hd p (Array.mem_of_getElem? l);rw[u]at this;exact this
     obtain⟨e,J,E,B,y,Z,D,⟨O,R⟩,Q,C,I⟩:=afR K c A _ (sE 0 args.toList .nil) _ h n _ (afT _ 0 _ (by simp;omega)) a
     have t:∀(G:e= .normal∨e= .ret),xT P J p.results.toList aj B y=some ⟨v,r,q,D⟩->eu (fun fuel=>dm P kn fuel f args) h n v r q L:=by
      intro G s;obtain⟨T,W,U,Y,X,F,x,w⟩:=afS Q _ _ _ _ _ s;simp only at x w;unfold aj at x;obtain⟨rfl,rfl,rfl,rfl⟩:=DH x;rw[cz]at w;subst w;simp only at I;refine⟨O+1,fun fuel o=> ?_⟩
      match fuel,o with
      |fuel+1,o=>
       show dm P kn (fuel+1) f args h n=_;unfold dm;rw[if_neg (by rw[j];simp)];simp only[l,u];rw[if_pos m];rw[N,I];refine iS (bY (R fuel jO fuel jO) ?_);rcases G with rfl|rfl
       ·show((jk P E p.results.toList).bind _) B y=_;rw[<-cz D];exact bY F rfl
       ·show((jk P E p.results.toList).bind _) B y=_;rw[<-cz D];exact bY F rfl
     cases e with
     |normal=>exact t (.inl rfl) C
     |ret=>exact t (.inr rfl) C
     |exit i=>cases C
theorem Jn{P:Program}(hd:mO P=true){gt:Nat->Hint}{lf:Nat}(d:Nat)(f:FuncId)(args:Array Value)(h:H)(n:Nat)(v:Value)(b:H)(a:Nat)(L:List En)(e:ah P gt lf d f args h n=some ⟨v,b,a,L⟩):eu (fun fuel=>dm P KN fuel f args) h n v b a L:=P' hd d f args h n v b a L e
def ae{c:Type}(W:Nat->Prop)(n0:Nat)(m:M c)(h:H)(n:Nat)(Q:c->H->Nat->Prop):Prop:=
 ∃a d b L,m h n=some ⟨a,d,b,L⟩∧n<=b∧(∀e∈L,e.wr=true->n0<=e.b∨W e.b)∧Q a d b
theorem ae.mono{d:Type}{W:Nat->Prop}{n0:Nat}{m:M d}{h:H}{n:Nat}{Q Q':d->H->Nat->Prop}(x:ae W n0 m h n Q)(f:∀a c b,n<=b->Q a c b->Q' a c b):ae W n0 m h n Q':=by obtain⟨a,c,b,L,j,e,i,g⟩:=x;exact⟨a,c,b,L,j,e,i,f _ _ _ e g⟩
section
variable {α β:Type} {W:Nat->Prop} {n0:Nat} {m:M α} {k:α->M β} {h h1:H} {n n1:Nat} {a:α} {L:List En} {Q:β->H->Nat->Prop}
theorem ae.step(e:m h n=some ⟨a,h1,n1,L⟩)(p:n<=n1)(f:∀e∈L,e.wr=true->n0<=e.b∨W e.b)(x:ae W n0 (k a) h1 n1 Q):ae W n0 (m.bind k) h n Q:=by
 obtain⟨b,g,c,o,l,r,j,i⟩:=x;refine⟨b,g,c,L++o,bY e l,jO,fun x d=> ?_,i⟩;rcases qB.1 d with q|q
 ·exact f x q
 ·exact j x q
theorem ae.Qa(e:m h n=some ⟨a,h1,n1,L⟩)(r:n1=n)(x:ae W n0 (m.bind k) h n Q):ae W n0 (k a) h1 n1 Q:=by obtain⟨b,g,d,w,o,t,l,j⟩:=x;obtain⟨u,s,q,v,p,c,i,rfl⟩:=bind_some o;rw[e]at c;simp only[ep,Out.mk.injEq]at c;obtain⟨rfl,rfl,rfl,rfl⟩:=c;exact⟨b,g,d,p,i,jO,fun x f=>l x (qB.2 (.inr f)),j⟩
theorem ae.iff(e:m h n=some ⟨a,h1,n,L⟩)(b:∀e∈L,e.wr=true->n0<=e.b∨W e.b):ae W n0 (m.bind k) h n Q↔ae W n0 (k a) h1 n Q:=
 ⟨ae.Qa e rfl,ae.step e (ai _) b⟩
theorem ae.aE{Q':α->H->Nat->Prop}(x:ae W n0 m h n Q'):ae W n0 (inside m) h n Q':=by obtain⟨a,h1,n1,L,g,f,d,c⟩:=x;exact⟨a,h1,n1,_,iS g,f,fun e b=>d e (List.mem_filter.1 b).1,c⟩
end
section
variable {β:Type} {W:Nat->Prop} {n0:Nat} {h h1:H} {n n1:Nat} {Q:β->H->Nat->Prop} {QV:Value->H->Nat->Prop}
theorem sV(a:β):ae W n0 (M.ret a) h n Q↔Q a h n:=by
 constructor
 ·rintro⟨b,i,g,L,f,k,j,d⟩;obtain⟨rfl,rfl,rfl,rfl⟩:=DH f;exact d
 ·intro x;exact⟨a,h,n,[],rfl,ai _,fun e c=>(nomatch c),x⟩
theorem Qb:ae W n0 (aj []) h n QV↔QV (.tuple #[]) h n:=sV _
theorem zZ(v:Value):ae W n0 (aj [v]) h n QV↔QV v h n:=sV _
theorem xU(v w:Value):ae W n0 (aj [v,w]) h n QV↔QV (.tuple #[v,w]) h n:=sV _
theorem Qc(v w u:Value):ae W n0 (aj [v,w,u]) h n QV↔QV (.tuple #[v,w,u]) h n:=sV _
theorem vd{b:Type}(a:b)(k:b->M β):bf (some a) k=k a:=rfl
theorem Qd(b:Bool)(x y:M β):ae W n0 (aK (.bool b) x y) h n Q↔if b=true then ae W n0 x h n Q else ae W n0 y h n Q:=by
 cases b
 ·rw[if_neg Oo];exact Iff.rfl
 ·rw[if_pos rfl];exact Iff.rfl
theorem xV(x y:M β):aK (.bool true) x y=x:=rfl
theorem xW(x y:M β):aK (.bool false) x y=y:=rfl
section
variable {β:Type} (k:Value->M β)
theorem Qe(a:Addr):au (.pointer (some a)) k=k (.pointer (some a)):=rfl
theorem Qf(f:FuncId)(a b:Array Value):au (.func (.func f) a b) k=k (.func (.func f) a b):=rfl
theorem re(f:IntKind->Int->Int->Value)(j:IntKind)(a b:Int):kg f (.int j a) (.int j b) k=k (f j a b):=by unfold kg;simp only[Dc]
theorem Qg(j:IntKind)(a b:Int):ar (.int j a) (.int j b) k=k (.int j (j.wrap (a+b))):=by show kg (fun k a b=> .int k (oL k (C4 a b))) (.int j a) (.int j b) k=_;rw[re,kG,PG]
theorem Jo(j:IntKind)(a b:Int):bL (.int j a) (.int j b) k=k (.int j (j.wrap (a-b))):=by unfold bL;rw[re,kG,C6]
theorem Qh(j:IntKind)(a b:Int):jq (.int j a) (.int j b) k=k (.int j (j.wrap (a*b))):=by unfold jq;rw[re,kG,PH]
theorem Qi(j:IntKind)(a b:Int):ej (.int j a) (.int j b) k=k (.bool (a==b)):=by show kg (fun _ a b=> .bool (pS a b)) (.int j a) (.int j b) k=_;rw[re,sK]
theorem Qj(j:IntKind)(a b:Int):hC (.int j a) (.int j b) k=k (.bool (a !=b)):=by show kg (fun _ a b=> .bool (!pS a b)) (.int j a) (.int j b) k=_;rw[re,sK];rfl
theorem rf(j:IntKind)(a b:Int):cE (.int j a) (.int j b) k=k (.bool (decide (a<b))):=by show kg (fun _ a b=> .bool (uT a b)) (.int j a) (.int j b) k=_;rw[re,qS]
theorem Qk(j:IntKind)(a b:Int):mL (.int j a) (.int j b) k=k (.bool (decide (a<=b))):=by unfold mL;rw[re,C8]
theorem Ql(j:IntKind)(a b:Int):jr (.int j a) (.int j b) k=k (.bool (decide (b<a))):=by unfold jr;rw[re,qS]
theorem Qm(j:IntKind)(a b:Int):pY (.int j a) (.int j b) k=k (.bool (decide (b<=a))):=by unfold pY;rw[re,C8]
theorem Qn(j:IntKind)(a b:Int)(c:b≠0):iE (.int j a) (.int j b) k=k (.int j (j.wrap (a.tdiv b))):=by unfold iE;simp only[Dc,sK,beq_eq_false_iff_ne.2 c,kG]
theorem Qo(j:IntKind)(a b:Int)(c:b≠0):mN (.int j a) (.int j b) k=k (.int j (a.tmod b)):=by unfold mN;simp only[Dc,sK,beq_eq_false_iff_ne.2 c]
theorem Jp{f:Nat->Nat->Nat}{g:(w:Nat)->BitVec w->BitVec w->BitVec w}(c:∀w x y,(g w x y).toNat=f x.toNat y.toNat)(j:IntKind)(a b:Int)(e:0<=a)(d:0<=b):uV f (.int j a) (.int j b) k=k (.int j (j.wrap (g j.bits (dR j.bits a) (dR j.bits b)).toNat)):=by obtain⟨p,rfl⟩:∃p:Nat,a=gF p:=⟨a.toNat,(kS e).symm⟩;obtain⟨q,rfl⟩:∃q:Nat,b=gF q:=⟨b.toNat,(kS d).symm⟩;unfold uV;simp only[Dc,kG,c,(sT p q).1,(sT p q).2];rfl
theorem Qp(j:IntKind)(a b:Int)(d:0<=a)(c:0<=b):Dp (.int j a) (.int j b) k=k (.int j (j.wrap (dR j.bits a&&&dR j.bits b).toNat)):=Jp k (g:=fun _ x y=>x&&&y) (fun _ _ _=>aqk ..) j a b d c
theorem Qq(j:IntKind)(a b:Int)(d:0<=a)(c:0<=b):zT (.int j a) (.int j b) k=k (.int j (j.wrap (dR j.bits a|||dR j.bits b).toNat)):=Jp k (g:=fun _ x y=>x|||y) (fun _ _ _=>aql ..) j a b d c
theorem Qr(j:IntKind)(a b:Int)(d:0<=a)(c:0<=b):qZ (.int j a) (.int j b) k=k (.int j (j.wrap (dR j.bits a^^^dR j.bits b).toNat)):=Jp k (g:=fun _ x y=>x^^^y) (fun _ _ _=>aqm ..) j a b d c
theorem Qs(j c:IntKind)(a b:Int)(e:0<=a)(d:0<=b):mM (.int j a) (.int c b) k=k (.int j (j.wrap (a*2^(min b.toNat j.bits)))):=by obtain⟨p,rfl⟩:∃p:Nat,a=gF p:=⟨a.toNat,(kS e).symm⟩;obtain⟨q,rfl⟩:∃q:Nat,b=gF q:=⟨b.toNat,(kS d).symm⟩;unfold mM;simp only[kG];congr 3
theorem Qt(j c:IntKind)(a b:Int)(e:0<=a)(d:0<=b):kX (.int j a) (.int c b) k=k (.int j (a.fdiv (2^(min b.toNat j.bits)))):=by obtain⟨p,rfl⟩:∃p:Nat,a=gF p:=⟨a.toNat,(kS e).symm⟩;obtain⟨q,rfl⟩:∃q:Nat,b=gF q:=⟨b.toNat,(kS d).symm⟩;unfold kX;simp only;congr 2;show((p/2^(min q j.bits):Nat):Int)=(p:Int).fdiv (2^min q j.bits);have f:(2:Int)^(min q j.bits)=((2^(min q j.bits):Nat):Int):=jS;rw[f,Oy _ (gY _),<-aqn]
theorem rh(a b:List UInt8)(h:a.length+b.length<=9223372036854775807):ar (.string ⟨a.toArray⟩) (.string ⟨b.toArray⟩) k=k (.string ⟨(a++b).toArray⟩):=by unfold ar;simp only[pT];rw[show bK (fY a.length b.length) 9223372036854775807=true from lI h];simp only[Ij]
theorem Aa(a b:List UInt8):ej (.string ⟨a.toArray⟩) (.string ⟨b.toArray⟩) k=k (.bool (decide (a=b))):=by unfold ej;simp only[C9]
theorem Jq(a b:List UInt8):hC (.string ⟨a.toArray⟩) (.string ⟨b.toArray⟩) k=k (.bool (!decide (a=b))):=by unfold hC;simp only[C9]
theorem Qu(a b:List UInt8):cE (.string ⟨a.toArray⟩) (.string ⟨b.toArray⟩) k=k (.bool (Cq a b)):=by unfold cE;simp only[Ii]
theorem Qv(a b:Bool):Dq (.bool a) (.bool b) k=k (.bool (a==b)):=by cases a<;>cases b<;>rfl
theorem Qw(a b:Bool):zU (.bool a) (.bool b) k=k (.bool (a !=b)):=by cases a<;>cases b<;>rfl
theorem Ab(b:Bool):ek (.bool b) k=k (.bool (!b)):=rfl
theorem Qx(j:IntKind)(a:Int):Dv (.int j a) k=k (.int j (j.wrap (0-a))):=by unfold Dv;simp only[kG,C6]
theorem Qy(b j:IntKind)(a:Int):ey b (.int j a) k=k (.int b (b.wrap a)):=by unfold ey;simp only[kG]
theorem Qz(s:ByteArray):PV (.string s) k=k (.string s):=rfl
theorem DI(a:Option Addr)(n c:Nat):aT (.slice a n c) k=k (.int .i64 (n:Int)):=rfl
theorem Ad(l:List UInt8):cS (.string ⟨l.toArray⟩) k=k (.int .i64 (l.length:Int)):=by unfold cS;simp only[pT];rfl
theorem QA(j c:IntKind)(a b:Int):kY (.int j a) (.int c b) k=k (.int j (if b<a then b else a)):=by unfold kY;simp only[qS];by_cases h:b<a<;>simp only[h,decide_true,decide_false,if_true,if_false]
theorem QB(j c:IntKind)(a b:Int):sR (.int j a) (.int c b) k=k (.int j (if a<b then b else a)):=by unfold sR;simp only[qS];by_cases h:a<b<;>simp only[h,decide_true,decide_false,if_true,if_false]
theorem QC(b:Bool)(x y:Value):ID (.bool b) x y k=k (if b=true then x else y):=by cases b<;>rfl
theorem QD(a:Addr):p5 (.pointer (some a)) (.pointer none) k=k (.bool false):=rfl
theorem QE:p5 (.pointer none) (.pointer none) k=k (.bool true):=rfl
theorem QF(a:Addr):zV (.pointer (some a)) (.pointer none) k=k (.bool true):=rfl
theorem QG:zV (.pointer none) (.pointer none) k=k (.bool false):=rfl
theorem QH(a:Addr)(n c m d:Nat):zW (.slice (some a) n c) (.slice none m d) k=k (.bool false):=rfl
theorem QI(n c m d:Nat):zW (.slice none n c) (.slice none m d) k=k (.bool true):=rfl
theorem QJ(a:Addr)(n c m d:Nat):zX (.slice (some a) n c) (.slice none m d) k=k (.bool true):=rfl
theorem QL(n c m d:Nat):zX (.slice none n c) (.slice none m d) k=k (.bool false):=rfl
theorem QM(f:Fn)(a b:Array Value):IA (.func f a b) .nilFunc k=k (.bool false):=rfl
theorem QN(f:Fn)(a b:Array Value):IB (.func f a b) .nilFunc k=k (.bool true):=rfl
theorem QO(K b off:Nat):ba K (.pointer (some ⟨b,off,none⟩)) k=k (.pointer (some ⟨b,off+K,none⟩)):=rfl
theorem Jr(l:List Value)(i:Nat):(match sN l i with
 |some v=>k v
 |none=>M.fail)=bf l[i]? k:=by
 rw[Dg];cases l[i]? <;>rfl
theorem QP(K:Nat)(l:List Value):IE K (.agg l.toArray) k=bf l[K]? k:=Jr k l K
theorem QQ(K m:Nat)(l:List Value):IF K m (.agg l.toArray) k=k (.agg ((l.drop K).take m).toArray):=rfl
theorem QR(l:List Value)(i:Nat):bj (.tuple l.toArray) i k=bf l[i]? k:=Jr k l i
theorem dF(a b:Value):bj (.tuple #[a,b]) 0 k=k a:=rfl
theorem ext1(a b:Value):bj (.tuple #[a,b]) 1 k=k b:=rfl
theorem Ae{i:Int}{n:Nat}(h1:i<n){j:Nat}(e:i=gF j):bK (ff j) n=true:=by subst e;exact lI (Int.ofNat_lt.1 h1)
theorem QS(b off n c:Nat)(j:IntKind)(i:Int)(a:0<=i)(h1:i<n):aO (.slice (some ⟨b,off,none⟩) n c) (.int j i) k=k (.pointer (some ⟨b,off+i.toNat,none⟩)):=by obtain⟨p,rfl⟩:∃p:Nat,i=gF p:=⟨i.toNat,(kS a).symm⟩;unfold aO;simp only[Ae h1 rfl];rfl
theorem DJ(sz b off n c:Nat)(j:IntKind)(i:Int)(a:0<=i)(h1:i<n):ki sz (.slice (some ⟨b,off,none⟩) n c) (.int j i) k=k (.pointer (some ⟨b,off+i.toNat*sz,none⟩)):=by obtain⟨p,rfl⟩:∃p:Nat,i=gF p:=⟨i.toNat,(kS a).symm⟩;unfold ki;simp only[Ae h1 rfl];rfl
theorem Js(n b off:Nat)(j:IntKind)(i:Int)(a:0<=i)(h1:i<n):gu n (.pointer (some ⟨b,off,none⟩)) (.int j i) k=k (.pointer (some ⟨b,off+i.toNat,none⟩)):=by obtain⟨p,rfl⟩:∃p:Nat,i=gF p:=⟨i.toNat,(kS a).symm⟩;unfold gu;simp only[Ae h1 rfl];rfl
theorem QT(n sz b off:Nat)(j:IntKind)(i:Int)(a:0<=i)(h1:i<n):Dw n sz (.pointer (some ⟨b,off,none⟩)) (.int j i) k=k (.pointer (some ⟨b,off+i.toNat*sz,none⟩)):=by obtain⟨p,rfl⟩:∃p:Nat,i=gF p:=⟨i.toNat,(kS a).symm⟩;unfold Dw;simp only[Ae h1 rfl];rfl
theorem QU(n:Nat)(l:List Value)(j:IntKind)(i:Int)(a:0<=i)(h1:i<n):sS n (.agg l.toArray) (.int j i) k=bf l[i.toNat]? k:=by obtain⟨p,rfl⟩:∃p:Nat,i=gF p:=⟨i.toNat,(kS a).symm⟩;unfold sS;simp only[Ae h1 rfl];exact Jr k l p
theorem Af(l:List UInt8)(j:IntKind)(i:Int)(g:0<=i)(h1:i<l.length):gJ (.string ⟨l.toArray⟩) (.int j i) k=k (.int .u8 ((l.getD i.toNat 0).toNat:Int)):=by
 obtain⟨p,rfl⟩:∃p:Nat,i=gF p:=⟨i.toNat,(kS g).symm⟩;have f:p<l.length:=Int.ofNat_lt.1 h1
 have e:qU l p=some (l.getD p 0):=by
  cases b:qU l p with
  |some c=>rw[(Ik _ _ _ b).2]
  |none=>
   exfalso
   have:∀(l:List UInt8) (p:Nat),p<l.length->qU l p≠none:=by
    intro l
    induction l with
    |nil=>intro p h;simp at h
    |cons a l d=>
     intro p h e;cases p with
     |zero=>cases e
     |succ p=>exact d p (by simpa using h) e
   exact this l p f b
 unfold gJ;simp only[e];rfl
theorem Jt(l:List UInt8)(lo c:Option Value){a b:Nat}(e:q7 lo 0=some a)(d:q7 c l.length=some b)(h1:a<=b)(h2:b<=l.length):gK (.string ⟨l.toArray⟩) lo c k=k (.string ⟨((l.drop a).take (b-a)).toArray⟩):=by unfold gK;simp only[e,pT,d,lI h1,lI h2];rfl
theorem DK(j:IntKind){i:Int}(d:Nat)(h:0<=i):q7 (some (.int j i)) d=some i.toNat:=by obtain⟨p,rfl⟩:∃p:Nat,i=gF p:=⟨i.toNat,(kS h).symm⟩;rfl
theorem xX(l:List UInt8)(c:IntKind)(j:Int)(d:0<=j)(h1:j<=l.length):gK (.string ⟨l.toArray⟩) none (some (.int c j)) k=k (.string ⟨(l.take j.toNat).toArray⟩):=by rw[Jt k l none _ (a:=0) (b:=j.toNat) rfl (DK c _ d) jO jO];simp
theorem xY(l:List UInt8)(c:IntKind)(i:Int)(d:0<=i)(h1:i<=l.length):gK (.string ⟨l.toArray⟩) (some (.int c i)) none k=k (.string ⟨(l.drop i.toNat).toArray⟩):=by rw[Jt k l _ none (a:=i.toNat) (b:=l.length) (DK c _ d) rfl jO jO];rw[fG jS]
theorem xZ(l:List UInt8)(b a:IntKind)(i j:Int)(c:0<=i)(h1:i<=j)(h2:j<=l.length):gK (.string ⟨l.toArray⟩) (some (.int b i)) (some (.int a j)) k=k (.string ⟨((l.drop i.toNat).take (j.toNat-i.toNat)).toArray⟩):=
 Jt k l _ _ (DK b _ c) (DK a _ jO) jO jO
theorem QW(z:List Value)(ps:List (Nat×Nat×Value)):dz z ps k=bf (eU z ps) fun cs=>k (.agg cs.toArray):=by unfold dz;cases eU z ps<;>rfl
theorem QX(cs:List Value):eU cs []=some cs:=rfl
theorem afU(cs:List Value)(q:Nat×Nat×Value)(r:List (Nat×Nat×Value)):eU cs (q::r)=match bZ (eT (dE q.2.2)) q.2.1 with
 |true=>match bK (fY q.1 (eT (dE q.2.2))) (eT cs)with
  |true=>eU (pX cs q.1 (dE q.2.2)) r
  |false=>none
 |false=>none:=rfl
theorem QY{cs vs:List Value}{off sz:Nat}{v:Value}{r:List (Nat×Nat×Value)}(i:dE v=vs):eU cs ((off,sz,v)::r)=if vs.length=sz then(if off+sz<=cs.length then eU (cs.take off++(vs++cs.drop (off+sz))) r else none)else none:=by
 have f:∀(off:Nat) (cs l:List Value),off+l.length<=cs.length->pX cs off l=cs.take off++(l++cs.drop (off+l.length)):=by
  have g:∀(l cs:List Value),l.length<=cs.length->over l cs=l++cs.drop l.length:=by
   intro l
   induction l with
   |nil=>intro cs _;simp[over]
   |cons x l b=>
    intro cs h;cases cs with
    |nil=>simp at h
    |cons c cs=>show x::over l cs=_;rw[b cs (by simpa using h)];simp
  intro off
  induction off with
  |zero=>
   intro cs l h;have e:pX cs 0 l=over l cs:=by cases cs<;>rfl
   rw[e,g l cs jO];simp
  |succ off b=>
   intro cs l h;cases cs with
   |nil=>simp at h
   |cons c cs=>show c::pX cs off l=_;rw[b cs l (by simp at h;omega),show off+1+l.length=off+l.length+1 by omega];simp
 subst i;rw[afU];simp only[kW];by_cases h1:(dE v).length=sz
 ·rw[if_pos h1];subst h1;rw[uy];simp only;by_cases a:off+(dE v).length<=cs.length
  ·rw[if_pos a,show bK (fY off (dE v).length) cs.length=true from lI a,f _ _ _ a]
  ·rw[if_neg a]
   have:bK (fY off (dE v).length) cs.length=false:=by
    cases d:bK (fY off (dE v).length) cs.length with
    |false=>rfl
    |true=>exact absurd (fX d) a
   rw[this]
 ·rw[if_neg h1]
  have:bZ (dE v).length sz=false:=by
   cases d:bZ (dE v).length sz with
   |false=>rfl
   |true=>exact absurd (kC d) h1
  rw[this]
theorem Ag{cs:List Value}{off:Nat}{v:Value}{r:List (Nat×Nat×Value)}(a:dE v=[v]):eU cs ((off,1,v)::r)=if off<cs.length then eU (cs.set off v) r else none:=by
 rw[QY a,if_pos (show [v].length=1 from rfl)];by_cases h:off<cs.length
 ·rw[if_pos h,if_pos jO];congr 1;rw[List.set_eq_take_append_cons_drop,if_pos h];rfl
 ·rw[if_neg h,if_neg jO]
section
variable (cs:List Value) (off:Nat) (r:List (Nat×Nat×Value))
theorem QZ(j:IntKind)(x:Int):eU cs ((off,1,.int j x)::r)=if off<cs.length then eU (cs.set off (.int j x)) r else none:=Ag rfl
theorem Q3(b:Bool):eU cs ((off,1,.bool b)::r)=if off<cs.length then eU (cs.set off (.bool b)) r else none:=Ag rfl
theorem Q4(s:ByteArray):eU cs ((off,1,.string s)::r)=if off<cs.length then eU (cs.set off (.string s)) r else none:=Ag rfl
theorem Q5(a:Option Addr)(n c:Nat):eU cs ((off,1,.slice a n c)::r)=if off<cs.length then eU (cs.set off (.slice a n c)) r else none:=Ag rfl
theorem Q6(a:Option Addr):eU cs ((off,1,.pointer a)::r)=if off<cs.length then eU (cs.set off (.pointer a)) r else none:=Ag rfl
theorem Q7(sz:Nat)(vs:List Value):eU cs ((off,sz,.agg vs.toArray)::r)=if vs.length=sz then(if off+sz<=cs.length then eU (cs.take off++(vs++cs.drop (off+sz))) r else none)else none:=QY rfl
end
end
theorem get_eq(h:H)(i:Nat)(x:Option AB):(h.set i x).get i=x:=by rw[H.jm,if_pos rfl]
theorem aB(h:H){i j:Nat}(x:Option AB)(e:j≠i):(h.set i x).get j=h.get j:=by rw[H.jm,if_neg e]
theorem Ah{c:Type}{m:M c}{h h1:H}{n n1:Nat}{a:c}{L:List En}(e:m h n=some ⟨a,h1,n1,L⟩)(f:∀e∈L,e.wr=false):∃L',inside m h n=some ⟨a,h1,n1,L'⟩∧∀e∈L',e.wr=true->n0<=e.b∨W e.b:=
 ⟨_,iS e,fun x d b=>by rw[f x (List.mem_filter.1 d).1]at b;cases b⟩
theorem sW(e:TypeId)(cs:List Value)(h:H)(n:Nat):dy e cs h n=some ⟨n,h.set n (some ⟨e,true,cs⟩),n+1,[]⟩:=by unfold dy;rw[if_pos (dK n)]
theorem p7{b:Type}{m:M b}{a:b}{k:b->M β}{h1:H}{n1:Nat}(e:m h n=some ⟨a,h1,n1,[]⟩)(d:n<=n1)(x:ae W n0 (k a) h1 n1 Q):ae W n0 ((inside m).bind k) h n Q:=
 ae.step (iS e) d (fun x c=>by simp at c) x
theorem hH{a:Type}{m:M a}{b:a->M β}(x:ae W n0 ((inside m).bind b) h n Q):ae W n0 (ew m b) h n Q:=by rw[lQ];exact x
theorem oS(e:TypeId)(cs:List Value)(f:Nat->Value)(h:H)(n:Nat):((jo e cs).bind fun id=>M.ret (f id)) h n=some ⟨f n,h.set n (some ⟨e,true,cs⟩),n+1,[]⟩:=by rw[kI];exact bY (sW _ _ _ _) rfl
theorem kK{T:Prop}(_:T){t:TypeId}(v:Value)(k:Value->M β)(x:ae W n0 (k (.pointer (some ⟨n,0,none⟩))) (h.set n (some ⟨t,true,v.cells.toList⟩)) (n+1) Q):ae W n0 (fz t v k) h n Q:=by rw[<-oO]at x;exact hH (p7 (oS _ _ (fun id=>Hz (some ⟨id,0,none⟩)) _ _) (cH n) x)
theorem fh{t:TypeId}{z cs:List Value}(a:z=cs)(k:Value->M β)(x:ae W n0 (k (.pointer (some ⟨n,0,none⟩))) (h.set n (some ⟨t,true,cs⟩)) (n+1) Q):ae W n0 (cU t z k) h n Q:=by subst a;exact hH (p7 (oS _ _ (fun id=>Hz (some ⟨id,0,none⟩)) _ _) (cH n) x)
theorem Ju(z:Value):∀m,kq [z] m=bD m z
 |0=>rfl
 |m+1=>by show z::kq [z] m=_;rw[Ju z m];rfl
theorem run_make{T:Prop}(_:T){e:TypeId}{z:Value}(l m:Nat)(k:Value->M β){b a:IntKind}(d:l<=m)(c:m<=1099511627776)(x:ae W n0 (k (.slice (some ⟨n,0,none⟩) l m)) (h.set n (some ⟨e,true,bD m z⟩)) (n+1) Q):ae W n0 (gP e [z] (.int b l) (.int a m) k) h n Q:=by
 have f:gP e [z] (.int b l) (.int a m) k=ew ((jo e (kq [z] m)).bind fun id=>M.ret (fZ (some ⟨id,0,none⟩) l m)) k:=by
  show(match bK l m with
   |true=>match bK m 1099511627776 with
    |true=>ew ((jo e (kq [z] m)).bind fun id=>M.ret (fZ (some ⟨id,0,none⟩) l m)) k
    |false=> .fail
   |false=> .fail)=_
  rw[lI d,lI c]
 rw[f,Ju];exact hH (p7 (oS _ _ (fun id=>fZ (some ⟨id,0,none⟩) l m) _ _) (cH n) x)
theorem Ai{T:Prop}(_:T){e:TypeId}{v:Value}(h1:one v=true)(k:Value->M β)(x:ae W n0 (k (.slice (some ⟨n,0,none⟩) 1 1)) (h.set n (some ⟨e,true,[v]⟩)) (n+1) Q):ae W n0 (bV e 1 v k) h n Q:=by
 have a:dE v=[v]:=by cases v<;>first|rfl|(simp[one]at h1)
 unfold bV;rw[a];exact hH (p7 (oS _ _ (fun id=>fZ (some ⟨id,0,none⟩) 1 1) _ _) (cH n) x)
end
def sX{b:Type}(o:Option b)(p:b->Prop):Prop:=match o with
 |some a=>p a
 |none=>False
theorem Q8{b:Type}(a:b)(p:b->Prop):sX (some a) p=p a:=rfl
theorem eI(k:IntKind)(x:Int):one (.int k x)=true:=rfl
theorem afV(a:Option Addr)(n c:Nat):one (.slice a n c)=true:=rfl
theorem afW(a:Option Addr):one (.pointer a)=true:=rfl
theorem Q9(cs:Array Value):(uw cs).cells=cs:=rfl
section
variable {β:Type} {W:Nat->Prop} {n0:Nat} {h h1:H} {n n1:Nat} {Q:β->H->Nat->Prop}
theorem afX:¬ae W n0 (M.fail:M β) h n Q:=by rintro⟨_,_,_,_,e,_⟩;cases e
theorem DL{b:Type}{m:M b}{k:b->M β}(e:m h n=none):¬ae W n0 (m.bind k) h n Q:=by rintro⟨_,_,_,_,a,_⟩;unfold M.bind at a;rw[e]at a;cases a
theorem DM{a:Type}{m:M a}(e:m h n=none):Ev.inside m h n=none:=by unfold Ev.inside;rw[e]
theorem Rc(b off:Nat)(k:Value->M β)(d:b<n):ae W n0 (aM (.pointer (some ⟨b,off,none⟩)) k) h n Q↔sX (h.get b) fun B=>ae W n0 (bf (B.cells[off]?) k) h n Q:=by
 show ae W n0 (ew (xN b off) k) h n Q↔_;rw[lQ,Dh];cases a:h.get b with
 |none=>refine⟨fun x=>absurd x (DL (DM ?_)),fun x=>x.elim⟩;unfold rd;simp[a]
 |some B=>
  show _↔ae W n0 (bf (B.cells[off]?) k) h n Q;cases c:B.cells[off]? with
  |none=>refine⟨fun x=>absurd x (DL (DM ?_)),fun x=>absurd x afX⟩;unfold rd;simp[a,c]
  |some v=>
   have e:rd b off h n=some ⟨v,h,n,[⟨false,b,some off⟩]⟩:=by unfold rd;simp only[d,a,c,if_true]
   obtain⟨i,g,f⟩:=Ah (W:=W) (n0:=n0) e jS;exact ae.iff g f
theorem afY(b off:Nat){v:Value}(k:Value->M β)(h1:one v=true):bc (.pointer (some ⟨b,off,none⟩)) v k=(inside ((wr b off v).bind fun _=> .ret undef)).bind k:=by
 show(match one v with
  |true=>ew ((uU b off v).bind fun _=> .ret undef) k
  |false=> .fail)=_
 rw[h1,Di];exact lQ _ _
theorem ya(b off:Nat)(v:Value)(k:Value->M β)(o:b<n)(h1:one v=true):ae W n0 (bc (.pointer (some ⟨b,off,none⟩)) v k) h n Q↔
 sX (h.get b) fun B=>B.own=true∧off<B.cells.length∧(n0<=b∨W b)∧ae W n0 (k undef) (h.set b (some ⟨B.elem,B.own,B.cells.set off v⟩)) n Q:=by
 rw[afY b off k h1];cases g:h.get b with
 |none=>refine⟨fun x=>absurd x (DL (DM ?_)),fun x=>x.elim⟩;unfold M.bind wr;simp[g]
 |some B=>
  show _↔(B.own=true∧off<B.cells.length∧(n0<=b∨W b)∧_);by_cases a:B.own=true∧off<B.cells.length
  ·obtain⟨l,m⟩:=a
   have d:wr b off v h n=some ⟨(),h.set b (some ⟨B.elem,B.own,B.cells.set off v⟩),n,[⟨false,b,some off⟩,⟨true,b,some off⟩]⟩:=by unfold wr;simp[o,g,l,m,h1]
   have e:((wr b off v).bind fun _=>M.ret undef) h n=some ⟨undef,h.set b (some ⟨B.elem,B.own,B.cells.set off v⟩),n,[⟨false,b,some off⟩,⟨true,b,some off⟩]⟩:=by have:=bY (f:=fun _=>M.ret undef) d (L2:=[]) (b:=undef) (h2:=h.set b (some ⟨B.elem,B.own,B.cells.set off v⟩)) (n2:=n) rfl;simpa using this
   have i:=iS e;constructor
   ·intro x;refine⟨l,m, ?_,ae.Qa i rfl x⟩;obtain⟨_,_,_,L,s,_,r,_⟩:=x;obtain⟨_,_,_,u,t,j,_,rfl⟩:=bind_some s;rw[i]at j;simp only[ep,Out.mk.injEq]at j;refine r ⟨true,b,some off⟩ (qB.2 (.inl ?_)) rfl;rw[<-j.2.2.2];refine List.mem_filter.2 ⟨jS, ?_⟩;simp;omega
   ·rintro⟨_,_,q,x⟩;refine ae.step i (ai _) (fun x c p=> ?_) x;have c:=(List.mem_filter.1 c).1;simp at c;rcases c with rfl|rfl<;>exact q
  ·refine⟨fun x=>absurd x (DL (DM ?_)),fun x=>absurd ⟨x.1,x.2.1⟩ a⟩;unfold M.bind wr;simp only[o,g,if_true,h1,Bool.and_true];rw[if_neg (by simpa using a)]
section
variable (b off:Nat) (k:Value->M β) (hb:b<n)
include hb
theorem Rd(j:IntKind)(x:Int):ae W n0 (bc (.pointer (some ⟨b,off,none⟩)) (.int j x) k) h n Q↔sX (h.get b) fun B=>B.own=true∧off<B.cells.length∧(n0<=b∨W b)∧ae W n0 (k undef) (h.set b (some ⟨B.elem,B.own,B.cells.set off (.int j x)⟩)) n Q:=ya b off _ k hb rfl
theorem Re(x:Bool):ae W n0 (bc (.pointer (some ⟨b,off,none⟩)) (.bool x) k) h n Q↔sX (h.get b) fun B=>B.own=true∧off<B.cells.length∧(n0<=b∨W b)∧ae W n0 (k undef) (h.set b (some ⟨B.elem,B.own,B.cells.set off (.bool x)⟩)) n Q:=ya b off _ k hb rfl
theorem Rf(x:ByteArray):ae W n0 (bc (.pointer (some ⟨b,off,none⟩)) (.string x) k) h n Q↔sX (h.get b) fun B=>B.own=true∧off<B.cells.length∧(n0<=b∨W b)∧ae W n0 (k undef) (h.set b (some ⟨B.elem,B.own,B.cells.set off (.string x)⟩)) n Q:=ya b off _ k hb rfl
theorem Rg(x:Option Addr):ae W n0 (bc (.pointer (some ⟨b,off,none⟩)) (.pointer x) k) h n Q↔sX (h.get b) fun B=>B.own=true∧off<B.cells.length∧(n0<=b∨W b)∧ae W n0 (k undef) (h.set b (some ⟨B.elem,B.own,B.cells.set off (.pointer x)⟩)) n Q:=ya b off _ k hb rfl
theorem Rh(x:Option Addr)(l c:Nat):ae W n0 (bc (.pointer (some ⟨b,off,none⟩)) (.slice x l c) k) h n Q↔sX (h.get b) fun B=>B.own=true∧off<B.cells.length∧(n0<=b∨W b)∧ae W n0 (k undef) (h.set b (some ⟨B.elem,B.own,B.cells.set off (.slice x l c)⟩)) n Q:=ya b off _ k hb rfl
end
theorem nU{b:Nat}{B:AB}(d:h.get b=some B)(f:b<n):∀(c k:Nat),k+c<=B.cells.length->∃L,cW b k c h n=some ⟨(B.cells.drop k).take c,h,n,L⟩∧∀e∈L,e.wr=false
 |0,k,_=>⟨[],by rw[List.take_zero];rfl,jS⟩
 |c+1,k,j=>by
  obtain⟨L,e,g⟩:=nU d f c (k+1) jO;have a:k<B.cells.length:=jO;refine⟨[⟨false,b,some k⟩]++(L++[]), ?_, ?_⟩
  ·unfold cW
   have i:rd b k h n=some ⟨B.cells[k],h,n,[⟨false,b,some k⟩]⟩:=by unfold rd;simp only[f,d,if_true,aJ a]
   refine bY i (bY e ?_);rw[List.drop_eq_getElem_cons a,List.take_succ_cons];rfl
  ·intro x hx;simp only[cz,qB,nF,Ct,or_false]at hx;rcases hx with rfl|hx
   ·rfl
   ·exact g x hx
theorem ve{b:Nat}{B:AB}(a:h.get b=some B)(c:b<n):gZ b h n=some ⟨B.elem,h,n,[⟨false,b,some 1099511627776⟩]⟩:=by unfold gZ;simp only[c,a,if_true]
theorem Jv{b:Nat}{B:AB}(c:h.get b=some B)(a:B.own=true)(d:b<n):kill b h n=some ⟨(),h.set b none,n,[⟨false,b,none⟩,⟨true,b,none⟩]⟩:=by unfold kill;simp only[d,c,a,if_true]
def Src(h:H)(n:Nat)(x:Value)(news:List Value):Prop:=∃b a c B,x= .slice (some ⟨b,a,none⟩) news.length c∧h.get b=some B∧b<n∧a+news.length<=B.cells.length∧(B.cells.drop a).take news.length=news
theorem Src.run{x:Value}{news:List Value}(s:Src h n x news):∃L,ji 1 news.length x h n=some ⟨news,h,n,L⟩∧(∀e∈L,e.wr=false)∧gd x=some news.length:=by obtain⟨b,a,c,B,rfl,g,i,f,d⟩:=s;obtain⟨L,e,j⟩:=nU g i news.length a f;refine⟨L, ?_,j,rfl⟩;unfold ji;rw[xu];show cW b a news.length h n=_;rw[e,d]
theorem Ri{T:Prop}(c:T){e:TypeId}{x:Value}{news:List Value}(b:gd x=some 0)(a:Option Addr)(l cp:Nat)(k:Value->M β)(y:ae W n0 (k (.slice a l cp)) h n Q):ae W n0 (bH e 1 (.slice a l cp) x k) h n Q:=by refine hH (p7 (a:= .slice a l cp) ?_ (ai n) y);unfold kt;simp only[b];rfl
theorem Rj {T:Prop} (c:T) {e:TypeId} {x:Value} {news:List Value} (s:Src h n x news) (p:0<news.length) (i:news.length<=1099511627776) (h1:news.all one=true) (k:Value->M β)
 (y:ae W n0 (k (.slice (some ⟨n,0,none⟩) news.length (aU+news.length))) (h.set n (some ⟨e,true,news⟩)) (n+1) Q):ae W n0 (bH e 1 (.slice none 0 0) x k) h n Q:=by
 obtain⟨L,o,m,l⟩:=s.run
 have j:kt e 1 (.slice none 0 0) x h n=some ⟨.slice (some ⟨n,0,none⟩) news.length (aU+news.length),h.set n (some ⟨e,true,news⟩),n+1,L⟩:=by
  unfold kt;rw[pW,kI];simp only[l];rw[if_neg jO,if_pos i]
  have g:(if(decide (news.length=news.length*1)&&news.all one)=true then(dy e ([]++news)).bind fun id=>M.ret (fZ (some ⟨id,0,none⟩) (0+news.length) (aU+(0+news.length)))else M.fail) h n=some ⟨.slice (some ⟨n,0,none⟩) news.length (aU+news.length),h.set n (some ⟨e,true,news⟩),n+1,[]⟩:=by rw[if_pos (by simp;simpa using h1)];simp only[fy,pF];exact bY (sW _ _ _ _) rfl
  have:=bY (f:=fun a=>if(decide (a.length=news.length*1)&&a.all one)=true then(dy e ([]++a)).bind fun id=>M.ret (fZ (some ⟨id,0,none⟩) (0+news.length) (aU+(0+news.length)))else M.fail) o g;simpa using this
 refine hH (ae.step (iS j) (cH n) (fun x d b=> ?_) y);rw[m x (List.mem_filter.1 d).1]at b;cases b
theorem Rl {T:Prop} (c:T) {e:TypeId} {x:Value} {news olds:List Value} (s:Src h n x news) (B:0<news.length) (h1:news.all one=true) {b cp:Nat} {cs:List Value} (d:h.get b=some ⟨e,true,cs⟩) (f:b<n) (off l:Nat)
 (q:off+l<=cs.length) (o:(cs.drop off).take l=olds) (p:l+news.length<=1099511627776) (A:aU<=cp) (m:n0<=b∨W b) (k:Value->M β)
 (y:ae W n0 (k (.slice (some ⟨n,0,none⟩) (l+news.length) (aU+(l+news.length)))) ((h.set b none).set n (some ⟨e,true,olds++news⟩)) (n+1) Q):ae W n0 (bH e 1 (.slice (some ⟨b,off,none⟩) l cp) x k) h n Q:=by
 obtain⟨L,w,v,u⟩:=s.run;obtain⟨z,t,r⟩:=nU (n:=n) d f l off q
 have i:∃j,kt e 1 (.slice (some ⟨b,off,none⟩) l cp) x h n=some ⟨.slice (some ⟨n,0,none⟩) (l+news.length) (aU+(l+news.length)),(h.set b none).set n (some ⟨e,true,olds++news⟩),n+1,j⟩∧∀e∈j,e.wr=true->e.b=b:=by
  refine⟨[⟨false,b,some 1099511627776⟩]++(L++(z++([⟨false,b,none⟩,⟨true,b,none⟩]++[]))), ?_, ?_⟩
  ·unfold kt uW;rw[pW,kI,qW,zQ,nT];simp only[u];rw[if_neg jO,if_pos p];refine bY (ve d f) ?_;simp only[if_true];refine bY w ?_;rw[if_pos (by simp;simpa using h1)];rw[if_neg jO,xu];refine bY t (bY (Jv d rfl f) ?_);rw[o];exact bY (sW _ _ _ _) rfl
  ·intro x hx a;simp only[qB,nF,Ct,or_false]at hx;rcases hx with rfl|hx|hx|rfl|rfl
   ·cases a
   ·rw[v x hx]at a;cases a
   ·rw[r x hx]at a;cases a
   ·cases a
   ·rfl
 obtain⟨j,i,g⟩:=i;refine hH (ae.step (iS i) (cH n) (fun x hx a=> ?_) y);rw[g x (List.mem_filter.1 hx).1 a];exact m
theorem afZ {T:Prop} (c:T) {e:TypeId} {x:Value} {news olds:List Value} (s:Src h n x news) (D:0<news.length) (h1:news.all one=true) {b cp:Nat} {B:AB} (i:h.get b=some B) (q:B.elem=e) (j:b<n) (off l:Nat)
 (p:off+l<=B.cells.length) (m:(B.cells.drop off).take l=olds) (o:l+news.length<=1099511627776) (r:cp<aU) (C:cp<l+news.length) (k:Value->M β)
 (y:ae W n0 (k (.slice (some ⟨n,0,none⟩) (l+news.length) (aU+(l+news.length)))) (h.set n (some ⟨e,true,olds++news⟩)) (n+1) Q):ae W n0 (bH e 1 (.slice (some ⟨b,off,none⟩) l cp) x k) h n Q:=by
 obtain⟨L,z,w,v⟩:=s.run;obtain⟨A,u,t⟩:=nU (n:=n) i j l off p
 have f:∃g,kt e 1 (.slice (some ⟨b,off,none⟩) l cp) x h n=some ⟨.slice (some ⟨n,0,none⟩) (l+news.length) (aU+(l+news.length)),h.set n (some ⟨e,true,olds++news⟩),n+1,g⟩∧∀e∈g,e.wr=false:=by
  refine⟨[⟨false,b,some 1099511627776⟩]++(L++(A++[])), ?_, ?_⟩
  ·unfold kt uW;rw[pW,kI,qW,nT];simp only[v];rw[if_neg jO,if_pos o];refine bY (ve i j) ?_;simp only[q,if_true];refine bY z ?_;rw[if_pos (by simp;simpa using h1)];rw[if_pos r,if_neg jO,xu];refine bY u ?_;rw[m];exact bY (sW _ _ _ _) rfl
  ·intro x hx;simp only[cz,qB,nF,Ct,or_false]at hx;rcases hx with rfl|hx|hx
   ·rfl
   ·exact w x hx
   ·exact t x hx
 obtain⟨g,f,d⟩:=f;refine hH (ae.step (iS f) (cH n) (fun x hx a=> ?_) y);rw[d x (List.mem_filter.1 hx).1]at a;cases a
theorem DN {T:Prop} (c:T) {e:TypeId} {v:Value} (d:one v=true) {b cp l:Nat} {cs:List Value} (j:h.get b=some ⟨e,true,cs⟩) (o:b<n) (i:cs.length=l) (g:l+1<=1099511627776) (m:aU<=cp) (f:n0<=b∨W b) (k:Value->M β)
 (y:ae W n0 (k (.slice (some ⟨n+1,0,none⟩) (l+1) (aU+(l+1)))) (((h.set n (some ⟨e,true,[v]⟩)).set b none).set (n+1) (some ⟨e,true,cs++[v]⟩)) (n+2) Q):ae W n0 (bV e 1 v fun w=>bH e 1 (.slice (some ⟨b,0,none⟩) l cp) w k) h n Q:=by
 refine Ai c d _ ?_;have a:(h.set n (some ⟨e,true,[v]⟩)).get b=some ⟨e,true,cs⟩:=by rw[aB _ _ jO];exact j
 exact Rl c (news:=[v]) (olds:=cs) ⟨n,0,1,⟨e,true,[v]⟩,rfl,get_eq _ _ _,dK n,jS,jS⟩ jS (by simp[d]) a jO 0 l jO (by rw[dx,<-i,eh]) g m f k y
theorem DO {T:Prop} (c:T) {e:TypeId} {v:Value} (a:one v=true) (k:Value->M β)
 (y:ae W n0 (k (.slice (some ⟨n+1,0,none⟩) 1 (aU+1))) ((h.set n (some ⟨e,true,[v]⟩)).set (n+1) (some ⟨e,true,[v]⟩)) (n+2) Q):ae W n0 (bV e 1 v fun w=>bH e 1 (.slice none 0 0) w k) h n Q:=by
 refine Ai c a _ ?_;exact Rj c (news:=[v]) ⟨n,0,1,⟨e,true,[v]⟩,rfl,get_eq _ _ _,dK n,jS,jS⟩ jS jS (by simp[a]) k y
theorem Aj(d:Nat):eG none d=some d:=rfl
theorem yc {T r:Prop} (c:T) {e:TypeId} {b:Nat} {B:AB} (g:h.get b=some B) (i:B.elem=e) (j:b<n) (off len cp:Nat) (lo d:Option Value) {l hh:Nat} (a:eG lo 0=some l) (f:eG d len=some hh) (h1:l<=hh) (h2:hh<=len) (s:len<=cp) (k:Value->M β) (_:r)
 (y:ae W n0 (k (.slice (some ⟨b,if cp=l then off else off+l,none⟩) (hh-l) (cp-l))) h n Q):ae W n0 (lR e 1 (.slice (some ⟨b,off,none⟩) len cp) lo d k) h n Q:=by
 refine hH ?_
 have p:((xO b).bind fun q=>match bZ q e with
  |true=>M.lift (q9 1 (some ⟨b,off,none⟩) len cp lo d)
  |false=> .fail) h n=some ⟨.slice (some ⟨b,if cp=l then off else off+l,none⟩) (hh-l) (cp-l),h,n,[⟨false,b,some 1099511627776⟩]++[]⟩:=by
  rw[qW];refine bY (ve g j) ?_;rw[i,uy];simp only;unfold q9;simp only[a,f];have:(decide (l<=hh)&&decide (hh<=cp)&&decide (cp<=cp)&&(decide (cp<aU)||(none:Option Value).isNone&&decide (hh<=len)))=true:=by simp;omega
  simp only[this,if_true,xu];rfl
 obtain⟨t,o,m⟩:=Ah (W:=W) (n0:=n0) p jS;exact ae.step o (ai _) m y
theorem ri(k:IntKind)(x d:Nat):eG (some (.int k (x:Int))) d=some x:=by unfold eG;simp
theorem Rm{P:Program}(hd:mO P=true){gt:Nat->Hint}{lf d:Nat}{f:FuncId}{args:Array Value}{v:Value}{L:List En}(e:ah P gt lf d f args h n=some ⟨v,h1,n1,L⟩){c:Nat->Prop}(g:∀e∈L,e.wr=true->n<=e.b∨c e.b):∀b,b<n->¬c b->h1.get b=h.get b:=by
 obtain⟨a,o⟩:=Jn hd d f args h n v h1 n1 L e;have A:=Loc.dm P KN a f args h n v h1 n1 L (o a (ai _));intro b p i;refine HU fun k=>A.frame b k ?_ jO;rintro⟨e,j,m,l,_⟩;rcases g e j m with q|q
 ·omega
 ·exact i (l▸q)
theorem aN {P:Program} (hd:mO P=true) {gt:Nat->Hint} {lf d:Nat} {f:FuncId} {vs:List Value} {g:Nat->Prop} {Q':Value->H->Nat->Prop} (s:ae g n (ah P gt lf d f ⟨vs⟩) h n Q') (u:n0<=n) (p:∀b,b<n->g b->n0<=b∨W b) {k:Value->M β}
 (x:∀v h1 n1,n<=n1->(∀b,b<n->¬g b->h1.get b=h.get b)->Q' v h1 n1->ae W n0 (k v) h1 n1 Q):ae W n0 (ak (ah P gt lf d) f vs k) h n Q:=by
 obtain⟨v,h1,n1,L,l,j,i,t⟩:=s;refine hH (m:=ah P gt lf d f ⟨vs⟩) (ae.step (iS l) j (fun e o a=> ?_) (x v h1 n1 j (Rm hd l i) t));have r:=(List.mem_filter.1 o).1;rcases i e r a with q|q
 ·exact .inl jO
 ·by_cases c:e.b<n
  ·exact p _ c q
  ·exact .inl jO
end
section
variable {β:Type} {W:Nat->Prop} {n0:Nat} {h h1:H} {n n1:Nat} {Q:β->H->Nat->Prop}
theorem af0(v:Value)(k:Value->M β):(inside (M.ret v)).bind k=k v:=by
 have:inside (M.ret v)=M.ret v:=by funext h n;rfl
 rw[this,oI]
theorem af1{T:Prop}(c:T){e:TypeId}(k:Value->M β)(x:ae W n0 (k (.slice (some ⟨n,0,none⟩) 0 0)) (h.set n (some ⟨e,true,[]⟩)) (n+1) Q):ae W n0 (q8 e [] 0 [] k) h n Q:=
 hH (p7 (oS _ _ (fun id=>fZ (some ⟨id,0,none⟩) 0 0) _ _) (cH n) x)
theorem oU(m:M β):lT true m=m:=rfl
theorem vh{m:M Value}{v:Value}{L:List En}{k:Value×Tk->M β}(e:m h n=some ⟨v,h1,n1,L⟩)(b:n<=n1)(a:∀e∈L,e.wr=true->n0<=e.b∨W e.b)(x:ae W n0 (k (v,⟨n,n1,L⟩)) h1 n1 Q):ae W n0 ((bx m).bind k) h n Q:=
 ae.step (C1 e) b a x
theorem af2{m:M Value}{v:Value}{L:List En}(e:m h n=some ⟨v,h1,n1,L⟩):(m.bind fun v=>M.ret v) h n=some ⟨v,h1,n1,L⟩:=by have:=bY (f:=fun v=>M.ret v) e (L2:=[]) (b:=v) (h2:=h1) (n2:=n1) rfl;rwa[cz]at this
theorem Ak{m:M Value}{v:Value}{L:List En}(e:m h n=some ⟨v,h1,n1,L⟩):(ew m M.ret) h n=some ⟨v,h1,n1,L.filter fun e=> !(decide (n<=e.b)&&decide (e.b<n1))⟩:=by rw[lQ];exact af2 (iS e)
theorem DP{T:Prop}(_:T)(b off:Nat)(k:Value×Tk->M β){B:AB}(d:h.get b=some B)(g:b<n){v:Value}(c:B.cells[off]? =some v)(x:ae W n0 (k (v,⟨n,n,[⟨false,b,some off⟩]⟩)) h n Q):ae W n0 ((bx (aM (.pointer (some ⟨b,off,none⟩)) M.ret)).bind k) h n Q:=by
 have e:xN b off h n=some ⟨v,h,n,[⟨false,b,some off⟩]⟩:=by rw[Dh];unfold rd;simp only[g,d,c,if_true]
 have a:=Ak e
 have f:[(⟨false,b,some off⟩:En)].filter (fun e=> !(decide (n<=e.b)&&decide (e.b<n)))=[⟨false,b,some off⟩]:=by simp;omega
 rw[f]at a;exact vh a (ai _) jS x
theorem Rn{T:Prop}(_:T){t:TypeId}(v:Value)(k:Value×Tk->M β)(x:ae W n0 (k (.pointer (some ⟨n,0,none⟩),⟨n,n+1,[]⟩)) (h.set n (some ⟨t,true,v.cells.toList⟩)) (n+1) Q):ae W n0 ((bx (fz t v M.ret)).bind k) h n Q:=by rw[<-oO]at x;exact vh (Ak (oS t (dE v) (fun id=>Hz (some ⟨id,0,none⟩)) h n)) (cH n) jS x
theorem DQ {P:Program} (hd:mO P=true) {gt:Nat->Hint} {lf d:Nat} {f:FuncId} {vs:List Value} {i:Nat->Prop} {Q':Value->H->Nat->Prop} (s:ae i n (ah P gt lf d f ⟨vs⟩) h n Q') (y:n0<=n) (r:∀b,b<n->i b->n0<=b∨W b) {k:Value×Tk->M β}
 (x:∀v h1 n1 L,n<=n1->(∀b,b<n->¬i b->h1.get b=h.get b)->Q' v h1 n1->(∀e∈L,e.b<n)->(∀e∈L,e.wr=true->i e.b)->ae W n0 (k (v,⟨n,n1,L⟩)) h1 n1 Q):ae W n0 ((bx (ak (ah P gt lf d) f vs M.ret)).bind k) h n Q:=by
 obtain⟨v,h1,n1,L,l,p,o,u⟩:=s;obtain⟨m,w⟩:=Jn hd d f ⟨vs⟩ h n v h1 n1 L l;have A:=Loc.dm P KN m f ⟨vs⟩ h n v h1 n1 L (w m (ai _))
 have a:∀e∈L.filter (fun e=> !(decide (n<=e.b)&&decide (e.b<n1))),e.b<n:=fun e c=>by obtain⟨h1,t⟩:=List.mem_filter.1 c;have:=A.lt e h1;simp at t;omega
 have g:∀e∈L.filter (fun e=> !(decide (n<=e.b)&&decide (e.b<n1))),e.wr=true->i e.b:=fun e c j=>by
  rcases o e (List.mem_filter.1 c).1 j with q|q
  ·have:=a e c;omega
  ·exact q
 exact vh (Ak l) p (fun e c j=>r _ (a e c) (g e c j)) (x v h1 n1 _ p (Rm hd l o) u a g)
theorem af3{a:Tk}{b k n2:Nat}(d:∀e∈a.log,e.wr=false)(f:b<a.n):a.gq ⟨n2,n2,[⟨false,b,some k⟩]⟩=false:=by
 unfold Tk.gq;simp only[xq];refine⟨⟨⟨any_false fun x c=>by rw[d x c];rfl,any_false fun x c=> ?_⟩,any_false fun x c=> ?_⟩,any_false fun x c=> ?_⟩
 ·simp only[nF,Ct,or_false]at c;subst c;rfl
 ·first|(simp;done)|(simp;omega)
 ·simp only[nF,Ct,or_false]at c;subst c;first|(simp;done)|(simp;omega)
end
section
variable {β:Type} {W:Nat->Prop} {n0:Nat} {h h1:H} {n n1:Nat} {Q:β->H->Nat->Prop}
def az(v:Value)(b:Nat):Prop:=∃o l c,v= .slice (some ⟨b,o,none⟩) l c
def Own(h:H)(lo n:Nat)(e:TypeId)(v:Value)(cs:List Value):Prop:=(v= .slice none 0 0∧cs=[])∨∃b,v= .slice (some ⟨b,0,none⟩) cs.length (aU+cs.length)∧h.get b=some ⟨e,true,cs⟩∧lo<=b∧b<n
theorem Own.nil(h:H)(lo n:Nat)(e:TypeId):Own h lo n e (.slice none 0 0) []:= .inl ⟨rfl,rfl⟩
theorem az.inj{b c o l k:Nat}(h:az (.slice (some ⟨b,o,none⟩) l k) c):c=b:=by obtain⟨_,_,_,h⟩:=h;cases h;rfl
theorem az.not_nil{l k c:Nat}(h:az (.slice none l k) c):False:=by obtain⟨_,_,_,h⟩:=h;cases h
theorem Own.lt{lo:Nat}{e:TypeId}{v:Value}{cs:List Value}(o:Own h lo n e v cs){b:Nat}(a:az v b):lo<=b∧b<n:=by
 rcases o with ⟨rfl,_⟩|⟨c,rfl,_,h1,d⟩
 ·exact a.not_nil.elim
 ·rw[a.inj];exact⟨h1,d⟩
theorem Own.ay{lo:Nat}{e:TypeId}{v:Value}{cs:List Value}{h':H}{n':Nat}(o:Own h lo n e v cs)(f:n<=n')(a:∀b,az v b->h'.get b=h.get b):Own h' lo n' e v cs:=by
 rcases o with q|⟨c,rfl,d,h1,g⟩
 ·exact .inl q
 ·exact .inr ⟨c,rfl,(a c ⟨_,_,_,rfl⟩).trans d,h1,jO⟩
theorem Own.low{lo a:Nat}{e:TypeId}{v:Value}{cs:List Value}(o:Own h lo n e v cs)(g:a<=lo):Own h a n e v cs:=by
 rcases o with q|⟨c,b,d,h1,f⟩
 ·exact .inl q
 ·exact .inr ⟨c,b,d,jO,f⟩
theorem fJ {T:Prop} (c:T) {e:TypeId} {x:Value} (a:one x=true) {lo:Nat} {v:Value} {cs:List Value} (o:Own h lo n e v cs) (g:cs.length+1<=1099511627776) (i:n0<=lo) (k:Value->M β)
 (y:∀h',h'.get (n+1)=some ⟨e,true,cs++[x]⟩->(∀b,b<n->¬az v b->h'.get b=h.get b)->ae W n0 (k (.slice (some ⟨n+1,0,none⟩) (cs.length+1) (aU+(cs.length+1)))) h' (n+2) Q):ae W n0 (bV e 1 x fun w=>bH e 1 v w k) h n Q:=by
 rcases o with ⟨rfl,rfl⟩|⟨b,rfl,d,h1,j⟩
 ·exact DO c a k (y _ (get_eq _ _ _) fun b d _=>by rw[aB _ _ jO,aB _ _ jO])
 ·refine DN c a d j rfl g jO (.inl jO) k (y _ (get_eq _ _ _) fun c l f=> ?_);have:c≠b:=fun e=>f ⟨0,_,_,by rw[e]⟩;rw[aB _ _ jO,aB _ _ this,aB _ _ jO]
theorem Own.mk'{lo b:Nat}{e:TypeId}{cs:List Value}(c:h.get b=some ⟨e,true,cs⟩)(h1:lo<=b)(h2:b<n){l:Nat}(a:l=cs.length):Own h lo n e (.slice (some ⟨b,0,none⟩) l (aU+l)) cs:= .inr ⟨b,by rw[a],c,h1,h2⟩
def aH(k:IntKind)(xs:List Int):List Value:=xs.map (Value.int k)
theorem cj(k:IntKind)(xs:List Int):(aH k xs).length=xs.length:=by unfold aH;simp
theorem Ro{k:IntKind}{xs:List Int}{i:Nat}(h:i<xs.length):(aH k xs)[i]? =some (.int k (xs.getD i 0)):=by unfold aH;simp[h]
theorem Jw(k:IntKind)(xs:List Int):(aH k xs).all one=true:=by unfold aH;simp[one]
def Row(h:H)(n:Nat)(e:TypeId)(k:IntKind)(v:Value)(xs:List Int):Prop:=
 (∃a c,v= .slice a 0 c∧(∀b o,a≠some ⟨b,o,none⟩)∧xs=[])∨∃b d cap o f,v= .slice (some ⟨b,d,none⟩) xs.length cap∧h.get b=some ⟨e,o,f⟩∧b<n∧d+xs.length<=f.length∧(f.drop d).take xs.length=aH k xs∧xs.length<=cap
theorem Row.ay{e:TypeId}{k:IntKind}{v:Value}{xs:List Int}{h':H}{n':Nat}(r:Row h n e k v xs)(j:n<=n')(d:∀b,b<n->h'.get b=h.get b):Row h' n' e k v xs:=by
 rcases r with q|⟨b,a,cap,o,i,c,f,g,r⟩
 ·exact .inl q
 ·exact .inr ⟨b,a,cap,o,i,c,(d b g).trans f,jO,r⟩
theorem Row.fK{e:TypeId}{k:IntKind}{v:Value}{xs:List Int}{h':H}{n':Nat}(r:Row h n e k v xs)(i:n<=n')(d:∀b,az v b->h'.get b=h.get b):Row h' n' e k v xs:=by
 rcases r with q|⟨b,a,cap,o,g,c,f,j,r⟩
 ·exact .inl q
 ·exact .inr ⟨b,a,cap,o,g,c,(d b ⟨_,_,_,c⟩).trans f,jO,r⟩
theorem Row.lt{e:TypeId}{k:IntKind}{v:Value}{xs:List Int}(r:Row h n e k v xs){b:Nat}(g:az v b):b<n:=by
 rcases r with ⟨a,c,rfl,d,_⟩|⟨c,i,cap,o,m,rfl,j,f,_⟩
 ·obtain⟨o,l,k,q⟩:=g;cases q;exact absurd rfl (d b o)
 ·rw[g.inj];exact f
theorem Row.some{e:TypeId}{k:IntKind}{v:Value}{xs:List Int}(r:Row h n e k v xs)(q:0<xs.length):∃b off cap o cs,v= .slice (some ⟨b,off,none⟩) xs.length cap∧h.get b=some ⟨e,o,cs⟩∧b<n∧off+xs.length<=cs.length∧(cs.drop off).take xs.length=aH k xs∧xs.length<=cap∧∀i,i<xs.length->cs[off+i]? =some (.int k (xs.getD i 0)):=by
 rcases r with ⟨a,c,_,_,rfl⟩|⟨b,off,cap,o,cs,g,l,p,j,d,m⟩
 ·simp at q
 ·refine⟨b,off,cap,o,cs,g,l,p,j,d,m,fun i f=> ?_⟩;have:=congrArg (fun z=>z[i]?) d;simp only[List.getElem?_take,f,if_true,List.getElem?_drop]at this;rw[this,Ro f]
theorem Row.len{e:TypeId}{k:IntKind}{v:Value}{xs:List Int}(r:Row h n e k v xs):∃a c,v= .slice a xs.length c:=by
 rcases r with ⟨a,c,rfl,_,rfl⟩|⟨b,d,cap,o,f,rfl,_⟩
 ·exact⟨a,c,rfl⟩
 ·exact⟨_,cap,rfl⟩
theorem Own.row{lo:Nat}{e:TypeId}{k:IntKind}{v:Value}{xs:List Int}(o:Own h lo n e v (aH k xs)):Row h n e k v xs:=by
 rcases o with ⟨rfl,q⟩|⟨b,rfl,a,_,c⟩
 ·exact .inl ⟨none,0,rfl,fun _ _ q=>(nomatch q),by unfold aH at q;simpa using q⟩
 ·rw[cj];exact .inr ⟨b,0,aU+xs.length,true,_,rfl,a,c,by rw[cj];omega,by rw[dx,fG (by rw[cj];omega)],jO⟩
theorem Row.src{e:TypeId}{k:IntKind}{v:Value}{xs:List Int}(r:Row h n e k v xs)(j:0<xs.length):Src h n v (aH k xs):=by obtain⟨b,a,cap,o,l,c,g,i,f,d,m,_⟩:=r.some j;exact⟨b,a,cap,⟨e,o,l⟩,by rw[c,cj],g,i,by rw[cj];exact f,by rw[cj];exact d⟩
theorem rj {T:Prop} (c:T) {e:TypeId} {lo:Nat} {v w:Value} {cs:List Value} {k:IntKind} {ys:List Int} {E:TypeId} (o:Own h lo n e v cs) (r:Row h n E k w ys) (m:cs.length+ys.length<=1099511627776) (A:n0<=lo) (f:lo<=n) (d:Value->M β)
 (y:∀j h' n',n<=n'->Own h' lo n' e j (cs++aH k ys)->(∀b,az j b->az v b∨n<=b)->(∀b,b<n->¬az v b->h'.get b=h.get b)->ae W n0 (d j) h' n' Q):ae W n0 (bH e 1 v w d) h n Q:=by
 by_cases D:ys.length=0
 ·have t:ys=[]:=List.length_eq_zero_iff.1 D;subst t;obtain⟨a,I,u⟩:=r.len;have g:gd w=some 0:=by rw[u];rfl
  obtain⟨G,q,F,x⟩:∃a l c,v= .slice a l c:=by
   rcases o with ⟨rfl,_⟩|⟨b,rfl,_⟩
   ·exact⟨_,_,_,rfl⟩
   ·exact⟨_,_,_,rfl⟩
  subst x;refine Ri (news:=[]) c g G q F d ?_;exact y _ h n (ai n) (by simpa[aH]using o) (fun b i=> .inl i) (fun b _ _=>rfl)
 ·have s:=r.src jO;have g:=cj k ys;rcases o with ⟨rfl,rfl⟩|⟨b,rfl,B,h1,C⟩
  ·refine Rj c s jO (by rw[g];simp at m;omega) (Jw k ys) d ?_;refine y _ _ (n+1) (cH n) (.inr ⟨n,rfl,by rw[get_eq];simp,f,dK n⟩) (fun b i=> .inr (by rw[i.inj];exact ai n)) (fun b i _=>aB _ _ jO)
  ·refine Rl c s jO (Jw k ys) B C 0 cs.length jO (by rw[dx,eh]) (by rw[g];exact m) jO (.inl jO) d ?_;refine y _ _ (n+1) (cH n) (.inr ⟨n,jS,get_eq _ _ _,f,dK n⟩) (fun c p=> .inr (by rw[p.inj];exact ai n)) (fun c p z=> ?_);have:c≠b:=fun e=>z ⟨0,_,_,by rw[e]⟩;rw[aB _ _ jO,aB _ _ this]
end
end Go.Proofs.YtcehhgppfahbkaaGreatDoor.Ev
namespace Go.Proofs.YtcehhgppfahbkaaGreatDoor.Ev
open Go Go.RowKit
theorem Rp{w:World}{b off:Nat}{v:Value}(h:w.cell? ⟨b,off,none⟩=some v):∃cs e c,w.heap[b]? =some (.cells cs e c)∧cs[off]? =some v:=by
 unfold World.cell? at h;cases a:w.heap[b]? with
 |none=>simp[a]at h
 |some o=>
  cases o with
  |cells cs e c=>exact⟨cs,e,c,rfl,by simpa[a]using h⟩
  |_=>simp[a]at h
structure Laid (P:Program) (w:World) (m:Mp) (h:H) (n:Nat):Prop where
 wr:WR P m w.heap.size h w.heap
 gl:Gl P m
 fresh:∀b,n<=b->m b=none
 own:∀b B,h.get b=some B->B.own=false
 Zs:P.globals.size<=n
theorem af4{P:Program}{w:World}{g:Nat}(r:g<P.globals.size){cs:Array Value}{e n:TypeId}{h:Nat×Nat}(o:w.heap[g]? =some (.cells cs n h)){sz:Nat}(s:size? P e=some sz){vs:List Value}(p:vs.length<=cs.size)(i:∀(k:Nat) (v:Value),vs[k]? =some v->cs[k]? =some v∧scalar v=true):
 ∃m,Laid P w m (H.set .nil g (some ⟨e,false,vs⟩)) P.globals.size:=by
 have only:∀b B,(H.set .nil g (some ⟨e,false,vs⟩)).get b=some B->b=g∧B=⟨e,false,vs⟩:=fun b B a=>by
  by_cases l:b=g
  ·subst l;rw[get_eq]at a;cases a;exact⟨rfl,rfl⟩
  ·rw[aB _ _ l]at a;unfold H.get at a;rw[Tr.get_nil]at a;cases a
 refine⟨fun c=>if c<P.globals.size then some ⟨c,0,cs.size,sz,n⟩else none,⟨fun b B a=> ?_,fun b u B x d z a f y=> ?_⟩,fun c t=>⟨_,if_pos t,rfl,rfl⟩,fun b a=>if_neg jO,fun b B a=> ?_,ai _⟩
 ·obtain⟨rfl,rfl⟩:=only b B a;exact⟨_,cs,h.1,h.2,if_pos r,o,rfl,by simpa using p,s,fun q=>(by cases q),fun k v j=>⟨v,by simpa using (i k v j).1,VR.self (i k v j).2⟩⟩
 ·obtain⟨rfl,_⟩:=only b B a;obtain⟨rfl,_⟩:=only u x f;exact fun _ _ _=>rfl
 ·obtain⟨_,rfl⟩:=only b B a;rfl
theorem af5{P:Program}{w:World}(hG:qO w){g:Nat}(i:g<P.globals.size){e:TypeId}{sz:Nat}(j:size? P e=some sz){vs:List Value}(l:0<vs.length)(f:∀(k:Nat) (v:Value),vs[k]? =some v->(g,k,v)∈KG)(d:vs.all scalar=true):
 ∃m,Laid P w m (H.set .nil g (some ⟨e,false,vs⟩)) P.globals.size:=by
 have c:∀(k:Nat) (v:Value),vs[k]? =some v->w.cell? ⟨g,k,none⟩=some v:=fun k v h=>hG _ (f k v h);obtain⟨n,p,o,b,_⟩:=Rp (c 0 vs[0] (aJ l))
 have a:∀(k:Nat) (v:Value),vs[k]? =some v->n[k]? =some v:=fun k v h=>by have:=c k v h;rwa[uH w _ _ b]at this
 refine af4 i b j ?_ fun k v h=>⟨a k v h,List.all_eq_true.1 d v (List.mem_of_getElem? h)⟩;have:=(Array.getElem?_eq_some_iff.1 (a (vs.length-1) vs[vs.length-1] (aJ jO))).1;omega
theorem af6{P:Program}{c:List FuncId}(i:sC P=true)(g:qK P c=true)(d:P.follows .mixedOrders=true)(j:uL P c){fuel:Nat}{f:FuncId}{w:World}{m:Mp}{h:H}(x:Laid P w m h P.globals.size)(a:CN (dm P c fuel f #[] h P.globals.size)=true):
 Calls P f #[] w fun e w'=>e= .returned (.bool true)∧Below w.heap.size w w':=by
 unfold CN at a;split at a
 ·rename_i o q;obtain⟨v,k,l,L⟩:=o;simp only at a;split at a
  ·rename_i b t;subst a;refine(Pq i g d j fuel f #[] h P.globals.size _ k l L m w #[] q x.wr (ai w.heap.size) .nil (fun b k _=>x.fresh b k) x.gl).mono ?_;rintro e w' ⟨s,r,rfl,p,n⟩;refine⟨?_,p.below⟩;cases n;rfl
  ·cases a
 ·cases a
theorem af7 {P:Program} (i:sC P=true) (g:qK P KN=true) (c:P.follows .mixedOrders=true) (j:uL P KN) (hd:mO P=true) {w:World} {m:Mp} {h:H} {n:Nat} (x:Laid P w m h n) {gt:Nat->Hint} {lf d:Nat} {f:FuncId} {args a:Array Value} (u:bo m args.toList a.toList)
 (r:ae (fun _=>False) n (ah P gt lf d f args) h n fun v _ _=>v= .bool true):Calls P f a w fun e w'=>e= .returned (.bool true)∧Below w.heap.size w w':=by
 obtain⟨v,o,l,L,y,B,_,rfl⟩:=r;obtain⟨p,k⟩:=Jn hd d f args h n _ o l L y;refine(Pq i g c j p f args h n _ o l L m w a (k p (ai _)) x.wr (ai _) u (fun b t _=>x.fresh b t) x.gl).mono ?_;rintro e w' ⟨A,z,rfl,s,q⟩;refine⟨?_,s.below⟩;cases q;rfl
end Go.Proofs.YtcehhgppfahbkaaGreatDoor.Ev
namespace Go.Proofs.YtcehhgppfahbkaaGreatDoor.Ev
open Go
abbrev V3:=Value×Value×Value
def jU:List V3->List Value
 |[]=>[]
 |t::l=>t.1::t.2.1::t.2.2::jU l
def rk(t:V3):Value:= .agg #[t.1,t.2.1,t.2.2]
theorem Jx:∀l:List V3,(jU l).length=l.length*3
 |[]=>rfl
 |t::l=>by simp only[jU,ct,Jx l];omega
theorem Rq:∀a b:List V3,jU (a++b)=jU a++jU b
 |[],b=>rfl
 |t::a,b=>by simp only[List.cons_append,jU,Rq a b]
theorem Al:∀(l:List V3) (i:Nat) (h:i<l.length),((jU l).drop (i*3)).take 3=[l[i].1,l[i].2.1,l[i].2.2]
 |[],i,h=>by simp at h
 |t::l,0,h=>by simp[jU]
 |t::l,i+1,h=>by have:=Al l i (by simpa using h);rw[show(i+1)*3=i*3+3 by omega];simp only[jU,List.getElem_cons_succ];rw[<-this];rfl
def Jy(t:V3):Prop:=one t.1=true∧one t.2.1=true∧one t.2.2=true
section
variable {β:Type} {W:Nat->Prop} {n0:Nat} {h:H} {n:Nat} {Q:β->H->Nat->Prop} {e:TypeId}
theorem lV{sz:Nat}(b off:Nat)(k:Value->M β){B:AB}(d:h.get b=some B)(f:b<n)(c:off+sz<=B.cells.length)(x:ae W n0 (k (.agg ((B.cells.drop off).take sz).toArray)) h n Q):ae W n0 (bR sz (.pointer (some ⟨b,off,none⟩)) k) h n Q:=by
 obtain⟨L,l,j⟩:=nU d f sz off c;refine hH ?_
 have e:((iT b off sz).bind fun a=>M.ret (uw ⟨a⟩)) h n=some ⟨.agg ((B.cells.drop off).take sz).toArray,h,n,L++[]⟩:=by rw[nT];exact bY l rfl
 obtain⟨m,i,g⟩:=Ah (W:=W) (n0:=n0) e (by simpa using j);exact ae.step i (ai _) g x
theorem yd{T:Prop}(_:T){b off:Nat}{B:AB}(d:h.get b=some B)(e:b<n){x:V3}(c:(B.cells.drop off).take 3=[x.1,x.2.1,x.2.2])(k:Value->M β)(y:ae W n0 (k (rk x)) h n Q):ae W n0 (bR 3 (.pointer (some ⟨b,off,none⟩)) k) h n Q:=by
 have a:off+3<=B.cells.length:=by have:=congrArg List.length c;simp only[List.length_take,List.length_drop,ct,List.length_nil]at this;omega
 refine lV b off k d e a ?_;rw[c];exact y
theorem Jz:∀(vs:List Value) (b off:Nat) (e:TypeId) (cs:List Value) (h:H) (n:Nat),h.get b=some ⟨e,true,cs⟩->b<n->off+vs.length<=cs.length->vs.all one=true->
 ∃h' L,eK b off vs h n=some ⟨(),h',n,L⟩∧h'.get b=some ⟨e,true,cs.take off++vs++cs.drop (off+vs.length)⟩∧(∀c,c≠b->h'.get c=h.get c)∧∀x∈L,x.b=b
 |[],b,off,e,cs,h,n,a,d,g,_=>⟨h,[],rfl,by simpa using a,fun _ _=>rfl,jS⟩
 |v::vs,b,off,e,cs,h,n,a,d,g,f=>by
  simp only[List.all_cons,cD]at f;simp only[ct]at g
  have k:wr b off v h n=some ⟨(),h.set b (some ⟨e,true,cs.set off v⟩),n,[⟨false,b,some off⟩,⟨true,b,some off⟩]⟩:=by unfold wr;have:off<cs.length:=jO;simp[d,a,this,f.1]
  obtain⟨h',L,r,p,o,m⟩:=Jz vs b (off+1) e (cs.set off v) (h.set b (some ⟨e,true,cs.set off v⟩)) n (get_eq _ _ _) d (by simp;omega) f.2;refine⟨h',_,bY k r, ?_,fun c i=>(o c i).trans (aB _ _ i),fun x j=> ?_⟩
  ·rw[p];congr 2
   have l:(cs.set off v).take (off+1)=cs.take off++[v]:=by rw[List.take_set,List.take_succ_eq_append_getElem jO,List.set_append_right _ _ (by simp;omega)];simp[Nat.min_eq_left (show off<=cs.length by omega)]
   have hd:(cs.set off v).drop (off+1+vs.length)=cs.drop (off+(v::vs).length):=by rw[List.drop_set_of_lt jO];congr 1;simp only[ct];omega
   rw[l,hd];simp
  ·rcases qB.1 j with q|q
   ·simp at q;rcases q with rfl|rfl<;>rfl
   ·exact m x q
theorem nW {T:Prop} (_:T) {sz b off:Nat} {e:TypeId} {cs vs:List Value} {v:Value} (j:v= .agg vs.toArray) (a:vs.length=sz) (o:vs.all one=true) (l:h.get b=some ⟨e,true,cs⟩) (m:b<n) (u:off+sz<=cs.length) (i:n0<=b∨W b) (k:Value->M β)
 (x:∀h',h'.get b=some ⟨e,true,cs.take off++vs++cs.drop (off+sz)⟩->(∀c,c≠b->h'.get c=h.get c)->ae W n0 (k undef) h' n Q):ae W n0 (b9 sz (.pointer (some ⟨b,off,none⟩)) v k) h n Q:=by
 obtain⟨h',L,t,s,r,q⟩:=Jz vs b off e cs h n l m jO o;subst j
 have d:b9 sz (.pointer (some ⟨b,off,none⟩)) (.agg vs.toArray) k=ew ((oM b off vs).bind fun _=> .ret undef) k:=by
  show(match bZ (eT vs) sz with
   |true=>ew ((oM b off vs).bind fun _=> .ret undef) k
   |false=> .fail)=_
  rw[kW,a,uy]
 rw[d];refine hH ?_
 have p:((oM b off vs).bind fun _=>M.ret undef) h n=some ⟨undef,h',n,L++[]⟩:=by rw[zR];exact bY t rfl
 refine ae.step (iS p) (ai _) (fun y g f=> ?_) (x h' (by rw[s,a]) r);have:=(List.mem_filter.1 g).1;rw[cz]at this;rw[q y this];exact i
theorem JA{T:Prop}(_:T){z:List Value}(x:V3)(a:Jy x)(k:Value->M β)(y:∀h',h'.get n=some ⟨e,true,[x.1,x.2.1,x.2.2]⟩->(∀b,b<n->h'.get b=h.get b)->ae W n0 (k (.pointer (some ⟨n,0,none⟩))) h' (n+1) Q)(d:n0<=n)(c:z.length=3:=by rfl):
 ae W n0 (cU e z fun p=>b9 3 p (rk x) fun _=>k p) h n Q:=by
 refine fh rfl _ ?_;refine nW trivial (vs:=[x.1,x.2.1,x.2.2]) rfl rfl (by simp[a.1,a.2.1,a.2.2]) (get_eq _ _ _) (dK n) (by rw[c];exact ai _) (.inl d) _ fun h' g f=> ?_;refine y h' ?_ fun b i=>by rw[f b jO,aB _ _ jO]
 rw[g];simp[c]
def eE(h:H)(lo n:Nat)(e:TypeId)(v:Value)(ts:List V3):Prop:=(v= .slice none 0 0∧ts=[])∨∃b,v= .slice (some ⟨b,0,none⟩) ts.length (aU+ts.length)∧h.get b=some ⟨e,true,jU ts⟩∧lo<=b∧b<n
theorem eE.nil(h:H)(lo n:Nat)(e:TypeId):eE h lo n e (.slice none 0 0) []:= .inl ⟨rfl,rfl⟩
theorem eE.ay{lo:Nat}{v:Value}{ts:List V3}{h':H}{n':Nat}(o:eE h lo n e v ts)(g:n<=n')(a:∀b,az v b->h'.get b=h.get b):eE h' lo n' e v ts:=by
 rcases o with q|⟨c,rfl,d,f,i⟩
 ·exact .inl q
 ·exact .inr ⟨c,rfl,(a c ⟨_,_,_,rfl⟩).trans d,f,jO⟩
theorem eE.lt{lo:Nat}{v:Value}{ts:List V3}(o:eE h lo n e v ts){b:Nat}(a:az v b):lo<=b∧b<n:=by
 rcases o with ⟨rfl,_⟩|⟨c,rfl,_,f,d⟩
 ·exact a.not_nil.elim
 ·rw[a.inj];exact⟨f,d⟩
theorem eE.low{lo a:Nat}{v:Value}{ts:List V3}(o:eE h lo n e v ts)(g:a<=lo):eE h a n e v ts:=by
 rcases o with q|⟨c,b,d,i,f⟩
 ·exact .inl q
 ·exact .inr ⟨c,b,d,jO,f⟩
theorem eE.len{lo:Nat}{v:Value}{ts:List V3}(o:eE h lo n e v ts):∃a c,v= .slice a ts.length c:=by
 rcases o with ⟨rfl,rfl⟩|⟨b,rfl,_⟩
 ·exact⟨none,0,rfl⟩
 ·exact⟨_,_,rfl⟩
theorem JB {T:Prop} (_:T) {x:V3} (p:Jy x) {lo:Nat} {v:Value} {ts:List V3} (o:eE h lo n e v ts) (B:ts.length+1<=1099511627776) (C:n0<=lo) (D:lo<=n) (k:Value->M β)
 (y:∀m h',eE h' lo (n+2) e m (ts++[x])->(∀b,az m b->n<=b)->(∀b,b<n->¬az v b->h'.get b=h.get b)->ae W n0 (k m) h' (n+2) Q):ae W n0 (bV e 3 (rk x) fun w=>bH e 3 v w k) h n Q:=by
 have d:∀K:Value->M β,bV e 3 (rk x) K=ew ((jo e [x.1,x.2.1,x.2.2]).bind fun id=>M.ret (fZ (some ⟨id,0,none⟩) 1 1)) K:=fun K=>by unfold bV;rw[show bZ (eT (dE (rk x))) 3=true by rw[kW];rfl];rfl
 rw[d];refine hH (p7 (oS _ _ (fun id=>fZ (some ⟨id,0,none⟩) 1 1) _ _) (cH n) ?_);have q:(h.set n (some ⟨e,true,[x.1,x.2.1,x.2.2]⟩)).get n=some ⟨e,true,[x.1,x.2.1,x.2.2]⟩:=get_eq _ _ _;obtain⟨L,l,u⟩:=nU (n:=n+1) q (dK n) 3 0 jS
 have l:ji 3 1 (.slice (some ⟨n,0,none⟩) 1 1) (h.set n (some ⟨e,true,[x.1,x.2.1,x.2.2]⟩)) (n+1)=some ⟨[x.1,x.2.1,x.2.2],h.set n (some ⟨e,true,[x.1,x.2.1,x.2.2]⟩),n+1,L⟩:=by unfold ji;simpa using l
 have c:([x.1,x.2.1,x.2.2]).all one=true:=by simp[p.1,p.2.1,p.2.2]
 refine hH ?_;rcases o with ⟨rfl,rfl⟩|⟨b,rfl,i,G,F⟩
 ·have j:kt e 3 (.slice none 0 0) (.slice (some ⟨n,0,none⟩) 1 1) (h.set n (some ⟨e,true,[x.1,x.2.1,x.2.2]⟩)) (n+1)=some ⟨.slice (some ⟨n+1,0,none⟩) 1 (aU+1),(h.set n (some ⟨e,true,[x.1,x.2.1,x.2.2]⟩)).set (n+1) (some ⟨e,true,[x.1,x.2.1,x.2.2]⟩),n+2,L++([]++[])⟩:=by unfold kt;rw[pW,kI];simp only[gd];rw[if_neg jO,if_pos jO];refine bY l ?_;rw[if_pos (by rw[c];rfl)];exact bY (sW _ _ _ _) rfl
  refine ae.step (iS j) jO (fun y hy a=> ?_) (y _ _ (.inr ⟨n+1,rfl,by rw[get_eq];rfl,jO,jO⟩) (fun b i=>by rw[i.inj];omega) (fun b i _=>by rw[aB _ _ jO,aB _ _ jO]));have:=(List.mem_filter.1 hy).1;simp at this;rw[u y this]at a;cases a
 ·have g:(h.set n (some ⟨e,true,[x.1,x.2.1,x.2.2]⟩)).get b=some ⟨e,true,jU ts⟩:=by rw[aB _ _ jO];exact i
  have f:b<n+1:=jO;obtain⟨E,t,z⟩:=nU (n:=n+1) g f (ts.length*3) 0 (by rw[Jx];simp);rw[dx,fG (by rw[Jx];exact ai _)]at t
  have j:∃s,kt e 3 (.slice (some ⟨b,0,none⟩) ts.length (aU+ts.length)) (.slice (some ⟨n,0,none⟩) 1 1) (h.set n (some ⟨e,true,[x.1,x.2.1,x.2.2]⟩)) (n+1)=some ⟨.slice (some ⟨n+1,0,none⟩) (ts.length+1) (aU+(ts.length+1)),((h.set n (some ⟨e,true,[x.1,x.2.1,x.2.2]⟩)).set b none).set (n+1) (some ⟨e,true,jU ts++[x.1,x.2.1,x.2.2]⟩),n+2,s⟩∧∀y∈s,y.wr=true->y.b=b:=by
   refine⟨[⟨false,b,some 1099511627776⟩]++(L++(E++([⟨false,b,none⟩,⟨true,b,none⟩]++([]++[])))), ?_, ?_⟩
   ·unfold kt uW;rw[pW,kI,qW,zQ,nT];simp only[gd];rw[if_neg jO,if_pos B];refine bY (ve g f) ?_;simp only[if_true];refine bY l ?_;rw[if_pos (by rw[c];rfl)];rw[if_neg jO];refine bY t (bY (Jv g rfl f) ?_);exact bY (sW _ _ _ _) rfl
   ·intro y hy a;simp only[cz,qB,nF,Ct,or_false]at hy;rcases hy with rfl|hy|hy|rfl|rfl
    ·cases a
    ·rw[u y hy]at a;cases a
    ·rw[z y hy]at a;cases a
    ·cases a
    ·rfl
  obtain⟨s,j,r⟩:=j;refine ae.step (iS j) jO (fun y hy a=> .inl ?_) (y _ _ (.inr ⟨n+1,jS, ?_,jO,jO⟩) (fun b i=>by rw[i.inj];omega) (fun d hd A=> ?_))
  ·rw[r y (List.mem_filter.1 hy).1 a];omega
  ·rw[get_eq,Rq];rfl
  ·have:d≠b:=fun e=>A ⟨0,_,_,by rw[e]⟩;rw[aB _ _ jO,aB _ _ this,aB _ _ jO]
end
end Go.Proofs.YtcehhgppfahbkaaGreatDoor.Ev
