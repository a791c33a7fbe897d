import Derived.Test.YtmjolmggelkjlaaGreatMab
import Derived.ProofKit
import Derived.OpenShut
open Nat renaming le_refl→ah, ble→bG, beq→bV, lt_succ_self→dO, le_succ→eL, zero_add→fy, succ→fz, le_of_ble_eq_true→gC, add→gD, add_zero→jd, mod_lt→jt, mod→jW, eq_of_beq_eq_true→kO, mod_eq_of_lt→kP, ble_eq_true_of_le→lF, add_mul→oH, mul_one→uY, beq_refl→xp, one_mul→amS
open List renaming getElem?_eq_getElem→bA, replicate→bQ, append_nil→bR, length_cons→cK, append_assoc→dY, take_length→iY, not_mem_nil→je, drop_zero→js, nil_append→kQ, getElem?_eq_none→oE, mem_cons_of_mem→uZ, take_of_length_le→E', mem_append→Fb, reverse_cons→Z0, mem_cons→Z1, extract_eq_take_drop→ams
open Bool renaming and_eq_true→bW, or_eq_true→oD, false_eq_true→oF, not_eq_true'→Ao, false_ne_true→amG
open BitVec renaming ofInt→bY, toNat_and→E6, toNat_or→amP, toNat_xor→amQ
open Option.some renaming injEq→dx
open Go.Region renaming wanted→gh
open Int renaming ofNat→gQ, toNat_of_nonneg→lG, natCast_nonneg→oI, fdiv_eq_ediv_of_nonneg→LJ, natCast_ediv→amR
open Go renaming binOp→iX, convert→LG
open Go.Value renaming slice→kR, agg→mC, pointer→E9
open Go.Instr renaming fill→lE, index→An, sliceAt→EW, sliceBound→LA
open Go.Op renaming equal→qN, equalIn→uU, stringOp→ZZ, maxDepth→amA, intDiv→amN, shift→amO
open Array renaming all_eq_true_iff_forall_mem→sG, getElem?_toList→E0, length_toList→E7
open Go.Next renaming value→LI
open ByteArray renaming data_extract→ZR, size→an0
open Go.ByteArray renaming toList_eq→an1
set_option linter.unusedVariables false
set_option linter.unusedSimpArgs false
set_option linter.unusedSectionVars false
namespace Go.Proofs.YtmjolmggelkjlaaGreat.Ev
open Go Go.RowKit
theorem iJ{P:Program}{a:BinOp}{t:TypeId}{x y v:Value}(e:mb P t=false)(c:(scalar x&&scalar y)=true)(d:jh P (do pure (.value (<-iX a t x y)))=some v)(b:scalar v=true):dJ P a t x y=some v:=by unfold dJ FI l9;rw[e,c];simp only;rw[d];simp only[b]
section
variable {P:Program} {t:TypeId} {k:IntKind} (hn:mb P t=false) (a b:Int)
include hn
theorem abF:dJ P .add t (.int k a) (.int k b)=some (.int k (k.wrap (a+b))):=iJ hn rfl (by unfold iX;simp only[ne_eq,not_true_eq_false,if_false];rfl) rfl
theorem abG:dJ P .sub t (.int k a) (.int k b)=some (.int k (k.wrap (a-b))):=iJ hn rfl (by unfold iX;simp only[ne_eq,not_true_eq_false,if_false];rfl) rfl
theorem abH:dJ P .mul t (.int k a) (.int k b)=some (.int k (k.wrap (a*b))):=iJ hn rfl (by unfold iX;simp only[ne_eq,not_true_eq_false,if_false];rfl) rfl
theorem abI(c:b≠0):dJ P .quo t (.int k a) (.int k b)=some (.int k (k.wrap (a.tdiv b))):=iJ hn rfl (by unfold iX amN;simp only[ne_eq,not_true_eq_false,if_false,c];rfl) rfl
theorem abJ(c:b≠0):dJ P .rem t (.int k a) (.int k b)=some (.int k (a.tmod b)):=iJ hn rfl (by unfold iX amN;simp only[ne_eq,not_true_eq_false,if_false,c];rfl) rfl
theorem abK:dJ P .eql t (.int k a) (.int k b)=some (.bool (a==b)):=iJ hn rfl (by unfold iX;simp only[ne_eq,not_true_eq_false,if_false];rfl) rfl
theorem abL:dJ P .neq t (.int k a) (.int k b)=some (.bool (a !=b)):=iJ hn rfl (by unfold iX;simp only[ne_eq,not_true_eq_false,if_false];rfl) rfl
theorem abM:dJ P .lss t (.int k a) (.int k b)=some (.bool (decide (a<b))):=iJ hn rfl (by unfold iX;simp only[ne_eq,not_true_eq_false,if_false];rfl) rfl
theorem abN:dJ P .leq t (.int k a) (.int k b)=some (.bool (decide (a<=b))):=iJ hn rfl (by unfold iX;simp only[ne_eq,not_true_eq_false,if_false];rfl) rfl
theorem abO:dJ P .gtr t (.int k a) (.int k b)=some (.bool (decide (b<a))):=iJ hn rfl (by unfold iX;simp only[ne_eq,not_true_eq_false,if_false];rfl) rfl
theorem abP:dJ P .geq t (.int k a) (.int k b)=some (.bool (decide (b<=a))):=iJ hn rfl (by unfold iX;simp only[ne_eq,not_true_eq_false,if_false];rfl) rfl
theorem abQ{c:IntKind}(d:0<=b):dJ P .shl t (.int k a) (.int c b)=some (.int k (k.wrap (a*2^(min b.toNat k.bits)))):=iJ hn rfl (by unfold iX amO;simp only[show¬b<0 by omega,if_false];rfl) rfl
theorem abR{c:IntKind}(d:0<=b):dJ P .shr t (.int k a) (.int c b)=some (.int k (a.fdiv (2^(min b.toNat k.bits)))):=iJ hn rfl (by unfold iX amO;simp only[show¬b<0 by omega,if_false];rfl) rfl
theorem abS:dJ P .and t (.int k a) (.int k b)=some (.int k (k.wrap (bY k.bits a&&&bY k.bits b).toNat)):=iJ hn rfl (by unfold iX;simp only[ne_eq,not_true_eq_false,if_false];rfl) rfl
theorem abT:dJ P .or t (.int k a) (.int k b)=some (.int k (k.wrap (bY k.bits a|||bY k.bits b).toNat)):=iJ hn rfl (by unfold iX;simp only[ne_eq,not_true_eq_false,if_false];rfl) rfl
theorem abU:dJ P .xor t (.int k a) (.int k b)=some (.int k (k.wrap (bY k.bits a^^^bY k.bits b).toNat)):=iJ hn rfl (by unfold iX;simp only[ne_eq,not_true_eq_false,if_false];rfl) rfl
end
theorem Bq(l:List UInt8):(⟨l.toArray⟩:ByteArray).size=l.length:=by simp[an0]
theorem Nh(l:List UInt8):(⟨l.toArray⟩:ByteArray).toList=l:=by rw[an1]
theorem abV(s:ByteArray):s=⟨s.data.toList.toArray⟩:=by cases s;simp
theorem abW(a b:List UInt8):(⟨a.toArray⟩:ByteArray)++⟨b.toArray⟩=⟨(a++b).toArray⟩:=by apply ByteArray.ext;simp
theorem Br(l:List UInt8)(i j:Nat):(⟨l.toArray⟩:ByteArray).extract i j=⟨((l.drop i).take (j-i)).toArray⟩:=by apply ByteArray.ext;simp[ZR,ams]
section
variable {P:Program} {t:TypeId}
theorem abX(c:mb P t=false)(a b:List UInt8):dJ P .eql t (.string ⟨a.toArray⟩) (.string ⟨b.toArray⟩)=some (.bool (decide (a=b))):=by
 refine iJ c rfl ?_ rfl;unfold iX ZZ;simp only[Nh]
 have:(a==b)=decide (a=b):=by
  by_cases h:a=b
  ·subst h;simp
  ·simp[h]
 rw[this];rfl
theorem abY(c:mb P t=false)(a b:List UInt8):dJ P .neq t (.string ⟨a.toArray⟩) (.string ⟨b.toArray⟩)=some (.bool (!decide (a=b))):=by
 refine iJ c rfl ?_ rfl;unfold iX ZZ;simp only[Nh]
 have:(a==b)=decide (a=b):=by
  by_cases h:a=b
  ·subst h;simp
  ·simp[h]
 rw[this];rfl
theorem abZ(c:mb P t=false)(a b:List UInt8)(h:a.length+b.length<=9223372036854775807):dJ P .add t (.string ⟨a.toArray⟩) (.string ⟨b.toArray⟩)=some (.string ⟨(a++b).toArray⟩):=by
 refine iJ c rfl ?_ rfl;unfold iX ZZ;simp only[Bq,abW]
 have d:¬(((a.length+b.length:Nat):Int)>IntKind.i64.max):=by have:IntKind.i64.max=9223372036854775807:=jD;rw[this];omega
 rw[if_neg d];rfl
end
section
variable {P:Program} {t:TypeId}
theorem ab0(h:P.underlying t=some .string)(l:List UInt8)(k:IntKind)(i:Int)(e:0<=i)(h1:i<l.length):s9 P t (.string ⟨l.toArray⟩) (.int k i)=some (.int .u8 (l.getD i.toNat 0).toNat):=by
 have b:i.toNat<l.length:=jO;have c:nq P t=true:=by unfold nq;rw[h]
 unfold s9 AO l9;rw[c];simp only[isStr,scalar]
 have d:(⟨l.toArray⟩:ByteArray)[i.toNat]? =some (l.getD i.toNat 0):=by
  have a:i.toNat<(⟨l.toArray⟩:ByteArray).size:=by rw[Bq];exact b
  rw[getElem?_pos (⟨l.toArray⟩:ByteArray) i.toNat a];rw[List.getD_eq_getElem?_getD,bA b];rfl
 have:jh P (do pure (LI (<-An t (.string ⟨l.toArray⟩) (.int k i))))=some (.int .u8 (l.getD i.toNat 0).toNat):=by unfold An;simp only[asIntOf,pure_bind,bind_assoc];rw[oU h];simp only[e,if_true,d];rfl
 rw[this]
theorem ab1(h:P.underlying t=some .string){z:Type}(l:List UInt8)(lo g:Option Value){a b:Nat}(x:dZ lo 0=some a)(v:dZ g l.length=some b)(h1:a<=b)(h2:b<=l.length)(k:Value->M z):vn P t (.string ⟨l.toArray⟩) lo g none k=k (.string ⟨((l.drop a).take (b-a)).toArray⟩):=by
 have A:nq P t=true:=by unfold nq;rw[h]
 have bd:∀(o:Option Value) (d m:Nat),dZ o d=some m->(o=none∧m=d)∨∃n i,o=some (.int n i)∧0<=i∧m=i.toNat:=by
  intro o d m f;unfold dZ at f;split at f
  ·cases f;exact .inl ⟨rfl,rfl⟩
  ·rename_i n i;split at f
   ·rename_i r;cases f;exact .inr ⟨n,i,rfl,r,rfl⟩
   ·cases f
  ·cases f
 have q:(sZ lo&&sZ g&&sZ none)=true:=by rcases bd lo _ _ x with ⟨rfl,_⟩|⟨_,_,rfl,_⟩<;>rcases bd g _ _ v with ⟨rfl,_⟩|⟨_,_,rfl,_⟩<;>rfl
 have e:∀(n:IntKind) (i:Int) (y:Nat) (c:BoundsCode),0<=i->i.toNat<=y->LA (.int n i) y c=pure i.toNat:=by intro n i y c r h1;unfold LA asIntOf;simp only[pure_bind];rw[if_pos ⟨r,jO⟩]
 have p:jh P (do pure (LI (<-EW t (.string ⟨l.toArray⟩) lo g none)))=some (.string ⟨((l.drop a).take (b-a)).toArray⟩):=by
  unfold EW;simp only[bind_assoc];rw[oU h];simp only;unfold Instr.slice;simp only[bind_assoc];rw[oU h];simp only[Option.isSome_none,oF,if_false,pure_bind,bind_assoc,Bq];unfold Instr.sliceBounds;rcases bd lo _ _ x with ⟨rfl,rfl⟩|⟨_,i,rfl,u,rfl⟩<;>rcases bd g _ _ v with ⟨rfl,rfl⟩|⟨_,j,rfl,s,rfl⟩
  ·simp only[pure_bind,bind_assoc,Br];rfl
  ·simp only[e _ j l.length _ s h2,pure_bind,bind_assoc,Br];rfl
  ·simp only[e _ i l.length _ u h1,pure_bind,bind_assoc,Br];rfl
  ·simp only[e _ j l.length _ s h2,e _ i j.toNat _ u h1,pure_bind,bind_assoc,Br];rfl
 unfold vn;rw[A];simp only
 have:AN P t (.string ⟨l.toArray⟩) lo g none=some (.string ⟨((l.drop a).take (b-a)).toArray⟩):=by unfold AN l9;simp only[isStr,q];rw[p];rfl
 rw[this];rfl
end
section
variable {β:Type} {P:Program} {t:TypeId} {x y:Value} {k:Value->M β} {h:H} {n:Nat} {r:Out β}
theorem eH{o:Option Value}{v:Value}(e:o=some v)(a:k v h n=some r):bf o k h n=some r:=by subst e;exact a
theorem ql{e:BinOp}{f:IntKind->Int->Int->Value}(g:∀j a b,dJ P e t (.int j a) (.int j b)=some (f j a b))(c:kz f x y k h n=some r):bf (dJ P e t x y) k h n=some r:=by
 unfold kz at c;split at c
 ·split at c
  ·rename_i a p _ b q;cases d:oX a b with
   |false=>simp only[d]at c;cases c
   |true=>obtain rfl:=A5 d;simp only[d]at c;exact eH (g _ _ _) c
  ·cases c
 ·cases c
theorem F8{e:BinOp}{f:Nat->Nat->Nat}(g:∀(j:IntKind) (a b:Nat),dJ P e t (.int j (.ofNat a)) (.int j (.ofNat b))=some (.int j (j.wrap (.ofNat (f (jW a (pw j)) (jW b (pw j)))))))(c:ti f x y k h n=some r):bf (dJ P e t x y) k h n=some r:=by
 unfold ti at c;split at c
 ·split at c
  ·rename_i a p _ b q;cases d:oX a b with
   |false=>simp only[d]at c;cases c
   |true=>obtain rfl:=A5 d;simp only[d]at c;exact eH (g _ _ _) (by rw[<-ky];exact c)
  ·cases c
 ·cases c
theorem rq{j:IntKind}(a b:Nat):(bY j.bits (gQ a)).toNat=jW a (pw j)∧(bY j.bits (gQ b)).toNat=jW b (pw j):=by rw[abB];exact⟨M6 _ _,M6 _ _⟩
end
noncomputable def F9 {a:Type} (b:BinOp) (x y:Value) (k:Value->M a):M a:=match b with
 | .add=>aq x y k
 | .sub=>cL x y k
 | .mul=>dK x y k
 | .quo=>jm x y k
 | .rem=>nD x y k
 | .eql=>cD x y k
 | .neq=>fA x y k
 | .lss=>eg x y k
 | .leq=>mf x y k
 | .gtr=>iH x y k
 | .geq=>qj x y k
 | .and=>xN x y k
 | .or=>xO x y k
 | .xor=>nC x y k
 | .shl=>mg x y k
 | .shr=>oZ x y k
 | .andNot=> .fail
noncomputable def Ni {a:Type} (b:BinOp) (c:Option (List Nat)) (x y:Value) (k:Value->M a):M a:=match c with
 |some l=>match b with
  | .eql=>F2 l x y k
  | .neq=>Nd l x y k
  |_=> .fail
 |none=> .fail
noncomputable def F' {b:Type} (d:Option TypeDesc) (c:Option (List Nat)) (a:BinOp) (x y:Value) (k:Value->M b):M b:=match d,a with
 |some (.struct _),a=>Ni a c x y k
 |some (.pointer _),.eql=>rk x y k
 |some (.pointer _),.neq=>xQ x y k
 |some (.slice _),.eql=>xR x y k
 |some (.slice _),.neq=>xS x y k
 |some (.func _ _ _),.eql=>F3 x y k
 |some (.func _ _ _),.neq=>F4 x y k
 |_,_=> .fail
def Ga:Option TypeDesc->Bool
 |some .bool=>true
 |_=>false
noncomputable def Nj {a:Type} (b:BinOp) (x y:Value) (k:Value->M a):M a:=match b with
 | .eql=>Bf x y k
 | .neq=>xP x y k
 |_=> .fail
noncomputable def Gb {b:Type} (P:Program) (a:BinOp) (t:TypeId) (x y:Value) (k:Value->M b):M b:=match mb P t with
 |true=>F' (P.underlying t) (sQ P t) a x y k
 |false=>match Ga (P.underlying t)with
  |true=>Nj a x y k
  |false=>F9 a x y k
section
variable {β:Type} {P:Program} {t:TypeId} {x y:Value} {k:Value->M β} {h:H} {n:Nat} {r:Out β}
theorem Nk(a b:List UInt8)(c:mb P t=false):dJ P .eql t (.string ⟨⟨a⟩⟩) (.string ⟨⟨b⟩⟩)=some (.bool (qd a b))∧dJ P .neq t (.string ⟨⟨a⟩⟩) (.string ⟨⟨b⟩⟩)=some (.bool (!qd a b)):=by rw[A2];exact⟨abX c a b,abY c a b⟩
theorem ab2{g:BinOp}(d:mb P t=false)(c:F9 g x y k h n=some r):bf (dJ P g t x y) k h n=some r:=by
 cases g<;>simp only[F9]at c
 case add=>
  unfold aq at c;split at c
  ·split at c
   ·rename_i a _ b;cases i:bG (gD (jl a) (jl b)) 9223372036854775807 with
    |false=>simp only[i]at c;cases c
    |true=>simp only[i]at c;have:=gC i;rw[oW,oW]at this;exact eH (abZ (P:=P) d _ _ this) (by rw[<-FM];exact c)
   ·cases c
  ·exact ql (fun j a b=>by rw[abF d,ky,M4]) c
 case sub=>exact ql (fun j a b=>by rw[abG d,ky,AZ]) c
 case mul=>exact ql (fun j a b=>by rw[abH d,ky,M5]) c
 case quo=>
  unfold jm at c;split at c
  ·split at c
   ·rename_i a p _ b q;cases f:oX a b with
    |false=>simp only[f]at c;cases c
    |true=>
     obtain rfl:=A5 f;cases e:oV q 0 with
     |true=>simp only[f,e]at c;cases c
     |false=>simp only[f,e]at c;rw[q9]at e;exact eH (abI d _ _ (beq_eq_false_iff_ne.1 e)) (by rw[<-ky];exact c)
   ·cases c
  ·cases c
 case rem=>
  unfold nD at c;split at c
  ·split at c
   ·rename_i a p _ b q;cases f:oX a b with
    |false=>simp only[f]at c;cases c
    |true=>
     obtain rfl:=A5 f;cases e:oV q 0 with
     |true=>simp only[f,e]at c;cases c
     |false=>simp only[f,e]at c;rw[q9]at e;exact eH (abJ d _ _ (beq_eq_false_iff_ne.1 e)) c
   ·cases c
  ·cases c
 case and=>exact F8 (fun j a b=>by rw[abS d,E6,(rq a b).1,(rq a b).2];rfl) c
 case or=>exact F8 (fun j a b=>by rw[abT d,amP,(rq a b).1,(rq a b).2];rfl) c
 case xor=>exact F8 (fun j a b=>by rw[abU d,amQ,(rq a b).1,(rq a b).2];rfl) c
 case shl=>
  unfold mg at c;split at c
  ·rename_i a p;split at c
   ·rename_i j q;exact eH (abQ d _ _ (oI q)) (by rw[<-ky];exact c)
   ·cases c
  ·cases c
 case shr=>
  unfold oZ at c;split at c
  ·rename_i a p;split at c
   ·rename_i j q;refine eH (abR d _ _ (oI q)) ?_
    have l:(gQ p).fdiv (2^min (gQ q).toNat a.bits)=gQ (p/2^min q a.bits):=by show((p:Nat):Int).fdiv (2^min q a.bits)=((p/2^(min q a.bits):Nat):Int);have l:(2:Int)^(min q a.bits)=((2^(min q a.bits):Nat):Int):=jS;rw[l,LJ _ (oI _),<-amR]
    exact l▸c
   ·cases c
  ·cases c
 case andNot=>cases c
 case eql=>
  unfold cD at c;split at c
  ·split at c
   ·exact eH (Nk _ _ d).1 c
   ·cases c
  ·exact ql (fun j a b=>by rw[abK d,q9]) c
 case neq=>
  unfold fA at c;split at c
  ·split at c
   ·exact eH (Nk _ _ d).2 c
   ·cases c
  ·exact ql (fun j a b=>by rw[abL d,q9];rfl) c
 case lss=>exact ql (fun j a b=>by rw[abM d,qc]) c
 case leq=>exact ql (fun j a b=>by rw[abN d,A1]) c
 case gtr=>exact ql (fun j a b=>by rw[abO d,qc]) c
 case geq=>exact ql (fun j a b=>by rw[abP d,A1]) c
end
section
variable {β:Type} {P:Program} {t:TypeId} {x y a:Value} {k:Value->M β} {h:H} {n:Nat} {r:Out β}
theorem kZ{m a:M Value}(e:m=a)(b:ek m k h n=some r):((inside a).bind k) h n=some r:=by subst e;rw[<-lK];exact b
theorem ab3{g:BinOp}(A:mb P t=true)(a:F' (P.underlying t) (sQ P t) g x y k h n=some r):bf (dJ P g t x y) k h n=some r:=by
 have i:∀(b:Bool) (v:Value),oL P t x y=some b->((g= .eql∧v= .bool b)∨(g= .neq∧v= .bool (!b)))->k v h n=some r->bf (dJ P g t x y) k h n=some r:=by intro b v e z s;refine eH (v:=v) ?_ s;unfold dJ FH;rw[A,e];rcases z with ⟨rfl,rfl⟩|⟨rfl,rfl⟩<;>rfl
 have c:∀(b:Bool) (v:Value),oK (P.underlying t) x y=some b->((g= .eql∧v= .bool b)∨(g= .neq∧v= .bool (!b)))->k v h n=some r->bf (dJ P g t x y) k h n=some r:=fun b v e=>i b v (by unfold oL;rw[e]);have f:∀(u:Array Field) (b:Bool) (v:Value),P.underlying t=some (.struct u)->Fj (sQ P t) x y=some b->((g= .eql∧v= .bool b)∨(g= .neq∧v= .bool (!b)))->k v h n=some r->bf (dJ P g t x y) k h n=some r:=fun u b v B e=>i b v (by unfold oL oK;rw[B];exact e);generalize hd:P.underlying t=d at a c f;generalize s:sQ P t=C at a f;unfold F' at a;split at a
 ·unfold Ni at a;split at a
  ·rename_i l;split at a
   ·unfold F2 at a;cases x<;>try(cases a;done)
    rename_i p;obtain⟨q⟩:=p;cases y<;>try(cases a;done)
    rename_i m;obtain⟨o⟩:=m;simp only at a;cases j:kU l q o with
    |none=>simp only[j]at a;cases a
    |some b=>simp only[j]at a;exact f _ b _ rfl j (.inl ⟨rfl,rfl⟩) a
   ·unfold Nd at a;cases x<;>try(cases a;done)
    rename_i p;obtain⟨q⟩:=p;cases y<;>try(cases a;done)
    rename_i m;obtain⟨o⟩:=m;simp only at a;cases j:kU l q o with
    |none=>simp only[j]at a;cases a
    |some b=>simp only[j]at a;exact f _ b _ rfl j (.inr ⟨rfl,rfl⟩) a
   ·cases a
  ·cases a
 ·unfold rk Bg at a;split at a<;>first|(split at a<;>first|exact c _ _ rfl (.inl ⟨rfl,rfl⟩) a|cases a)|cases a
 ·unfold xQ Bg at a;split at a<;>first|(split at a<;>first|exact c _ _ rfl (.inr ⟨rfl,rfl⟩) a|cases a)|cases a
 ·unfold xR Bh at a;split at a<;>first|(split at a<;>first|exact c _ _ rfl (.inl ⟨rfl,rfl⟩) a|cases a)|cases a
 ·unfold xS Bh at a;split at a<;>first|(split at a<;>first|exact c _ _ rfl (.inr ⟨rfl,rfl⟩) a|cases a)|cases a
 ·unfold F3 Bi at a;split at a<;>first|(split at a<;>first|exact c _ _ rfl (.inl ⟨rfl,rfl⟩) a|cases a)|cases a
 ·unfold F4 Bi at a;split at a<;>first|(split at a<;>first|exact c _ _ rfl (.inr ⟨rfl,rfl⟩) a|cases a)|cases a
 ·cases a
theorem ab4{b c:Bool}(e:P.underlying t=some .bool):jh P (do pure (.value (.bool (<-qN t (.bool b) (.bool c)))))=some (.bool (b==c)):=by unfold qN amA uU;simp only[bind_assoc];rw[oU e];rfl
theorem ab5{i:BinOp}(a:Gb P i t x y k h n=some r):bf (dJ P i t x y) k h n=some r:=by
 unfold Gb at a;cases g:mb P t with
 |true=>simp only[g]at a;exact ab3 g a
 |false=>
  simp only[g]at a;cases f:Ga (P.underlying t)with
  |false=>simp only[f]at a;exact ab2 g a
  |true=>
   simp only[f]at a
   have e:P.underlying t=some .bool:=by
    revert f;generalize P.underlying t=d;intro f;unfold Ga at f;split at f
    ·rfl
    ·cases f
   unfold Nj at a;split at a
   ·unfold Bf at a;split at a
    ·split at a
     ·rename_i b _ c;refine eH (v:= .bool (b==c)) (iJ g rfl ?_ rfl) (by cases b<;>cases c<;>exact a);unfold iX;simp only[bind_assoc,pure_bind];exact ab4 e
     ·cases a
    ·cases a
   ·unfold xP at a;split at a
    ·split at a
     ·rename_i b _ c;refine eH (v:= .bool (!(b==c))) (iJ g rfl ?_ rfl) (by cases b<;>cases c<;>exact a);unfold iX;simp only[bind_assoc,pure_bind];unfold qN amA uU;simp only[bind_assoc];rw[oU e];rfl
     ·cases a
    ·cases a
   ·cases a
end
noncomputable section
variable {β:Type} (P:Program)
def Gc(a:UnOp)(x:Value)(k:Value->M β):M β:=match a with
 | .not=>dC x k
 | .neg=>Bj x k
 | .xor=>Bn x k
 |_=> .fail
def Gd(src a:TypeId)(x:Value)(k:Value->M β):M β:=match qQ (P.underlying src) (P.underlying a)with
 |some e=>match mH P e with
  |true=>iI x k
  |false=> .fail
 |none=>match sY (P.underlying src) (P.underlying a)with
  |some e=>match mH P e&&size? P e==some 1 with
   |true=>vA e x k
   |false=> .fail
  |none=>match P.underlying src with
   |some _=>match P.underlying a with
    |some (.int b)=>dm b x k
    |some .string=>Nf x k
    |_=> .fail
   |none=> .fail
def Bs(t:TypeId)(a:Value)(k:Value->M β):M β:=match jg P t with
 |some true=>match size? P t with
  |some b=>aT b a k
  |none=> .fail
 |some false=>aQ a k
 |none=> .fail
def Ge(t:TypeId)(a x:Value)(k:Value->M β):M β:=match size? P t with
 |some b=>match jg P t with
  |some true=>aM b a x k
  |some false=>match bV b 1 with
   |true=>aK a x k
   |false=> .fail
  |none=> .fail
 |none=> .fail
def Gf(e:TypeId)(k:Value->M β):M β:=match gm P e with
 |some z=>cy e (di z) k
 |none=> .fail
def Gg(e:TypeId)(x:Value)(k:Value->M β):M β:=match size? P e with
 |some _=>dP e x k
 |none=> .fail
def vB(a:Nat->Option (Nat×Nat)):List (Nat×Value)->Option (List (Nat×Nat×Value))
 |[]=>some []
 |q::r=>match a q.1 with
  |some p=>match vB a r with
   |some l=>some ((p.1,p.2,q.2)::l)
   |none=>none
  |none=>none
def Gh(t:TypeId)(ps:List (Nat×Value))(k:Value->M β):M β:=match gm P t with
 |some z=>match P.underlying t with
  |some (.struct a)=>match a.all fun f=>(size? P f.type).isSome with
   |true=>bf (vB (placeOf P a) ps) fun b=>bo (di z) b k
   |false=> .fail
  |_=> .fail
 |none=> .fail
def lone:Nat->List (Nat×Value)->Option Value
 |1,[(0,v)]=>some v
 |_,_=>none
def Gi(t:TypeId)(len:Nat)(ps:List (Nat×Value))(k:Value->M β):M β:=match P.underlying t with
 |some (.slice e)=>match size? P e with
  |some a=>match gm P e with
   |some z=>match bV len 0&&ps.isEmpty with
    |true=>vz e [] 0 [] k
    |false=>match bG 1 (len*a)&&bG (len*a) 65536&&bV (fF (di z)) a with
     |true=>match lone len ps with
      |some v=>bO e a v k
      |none=>bf (vB (fun i=>some (i*a,a)) ps) fun b=>vz e (kB (di z) len) len b k
     |false=> .fail
   |none=> .fail
  |none=> .fail
 |_=> .fail
def Gj(t:TypeId)(l c:Value)(k:Value->M β):M β:=match P.underlying t with
 |some (.slice e)=>match P.info? e with
  |some a=>match gm P e with
   |some z=>match bG a.bytes 64&&bV (fF (di z)) a.size&&bG 1 a.size with
    |true=>o4 e (di z) l c k
    |false=> .fail
   |none=> .fail
  |none=> .fail
 |_=> .fail
def Gk(t:TypeId)(x:Value)(lo a c:Option Value)(k:Value->M β):M β:=match c with
 |some _=> .fail
 |none=>match P.underlying t with
  |some .string=>bN x lo a k
  |some (.slice e)=>match size? P e with
   |some b=>nF e b x lo a k
   |none=> .fail
  |_=> .fail
def Gm(t:TypeId)(x:Value)(f:Nat)(k:Value->M β):M β:=match P.underlying t with
 |some (.struct b)=>match b[f]? with
  |some a=>match size? P a.type with
   |some (_+1)=>ay a.offset x k
   |_=> .fail
  |none=> .fail
 |_=> .fail
def Gn(t:TypeId)(x:Value)(f:Nat)(k:Value->M β):M β:=match P.underlying t with
 |some (.struct b)=>match b[f]? with
  |some a=>match jg P a.type with
   |some true=>match size? P a.type with
    |some m=>F7 a.offset m x k
    |none=> .fail
   |some false=>F6 a.offset x k
   |none=> .fail
  |none=> .fail
 |_=> .fail
def Gp(t:TypeId)(x b:Value)(k:Value->M β):M β:=match P.underlying t with
 |some (.slice e)=>match size? P e with
  |some a=>match bV a 1 with
   |true=>bM x b k
   |false=>mh a x b k
  |none=> .fail
 |some (.array len e)=>match size? P e with
  |some a=>match bV a 1 with
   |true=>gG len x b k
   |false=>Bo len a x b k
  |none=> .fail
 |_=> .fail
def Gq(t:TypeId)(x a:Value)(k:Value->M β):M β:=match P.underlying t with
 |some .string=>cP x a k
 |some (.array len e)=>match jg P e with
  |some false=>match size? P e with
   |some b=>match bV b 1 with
    |true=>vx len x a k
    |false=> .fail
   |none=> .fail
  |_=> .fail
 |_=> .fail
def Gr(a:Array TypeId)(vs:List Value)(k:Value->M β):M β:=match a[0]? with
 |some t=>match vs with
  |[x]=>match P.underlying t with
   |some (.slice _)=>bx x k
   |some .string=>bJ x k
   |_=> .fail
  |_=> .fail
 |none=> .fail
def Gs(vs:List Value)(k:Value->M β):M β:=match vs with
 |[x,y]=>kY x y k
 |[x,y,z,u,v,w]=>Ng x y z u v w k
 |_=> .fail
def Gu(vs:List Value)(k:Value->M β):M β:=match vs with
 |[x,y]=>o0 x y k
 |_=> .fail
def Gv(t:TypeId)(s x:Value)(k:Value->M β):M β:=match P.underlying t with
 |some (.slice e)=>match P.info? e with
  |some a=>match gm P e with
   |some z=>match bG a.bytes 64&&bV (fF (di z)) a.size&&bG 1 a.size with
    |true=>bL e a.size s x k
    |false=> .fail
   |none=> .fail
  |none=> .fail
 |_=> .fail
def Gw(t:TypeId)(d s:Value)(k:Value->M β):M β:=match P.underlying t with
 |some (.slice e)=>match size? P e with
  |some a=>Bp a d s k
  |none=> .fail
 |_=> .fail
variable (rec:FuncId->Array Value->M Value)
def Gx(s:Fr)(c:Call)(vs:List Value)(k:Value->M β):M β:=match c.callee with
 | .value (.func g)=>match ni P g with
   |true=>ai rec g vs k
   |false=> .fail
 | .value f=>bf (bB s f) fun a=>ku P rec a vs k
 | .builtin .append=>bf (vg P c.argTypes vs) fun q=>Gv P q.1 q.2.1 q.2.2 k
 | .builtin .copy=>bf (vh c.argTypes vs) fun q=>Gw P q.1 q.2.1 q.2.2 k
 | .builtin .len=>Gr P c.argTypes vs k
 | .builtin .min=>Gs vs k
 | .builtin .max=>Gu vs k
 |_=> .fail
def kC(s:Fr)(o:Oper)(k:Value->M β):M β:=
 match o.op with
 | .move x| .assign x=>bf (bB s x) k
 | .pick c a b=>bf (bB s c) fun c=>bf (bB s a) fun a=>bf (bB s b) fun b=>F5 c a b k
 | .alloc e=>Gf P e k
 | .box e x=>bf (bB s x) fun x=>Gg P e x k
 | .build t d=>kX s (d.toList.map (·.2)) fun h=>Gh P t ((d.toList.map (·.1)).zip h) k
 | .buildSlice t len d=>kX s (d.toList.map (·.2)) fun h=>Gi P t len ((d.toList.map (·.1)).zip h) k
 | .load t a=>bf (bB s a) fun a=>Bs P t a k
 | .store t a x=>bf (bB s a) fun a=>bf (bB s x) fun x=>Ge P t a x k
 | .nilCheck x=>bf (bB s x) fun x=>an x k
 | .binOp j t x y _=>bf (bB s x) fun x=>bf (bB s y) fun y=>Gb P j t x y k
 | .unOp j _ x=>bf (bB s x) fun x=>Gc j x k
 | .convert src q x=>bf (bB s x) fun x=>Gd P src q x k
 | .makeFunc r a b=>kX s a.toList fun a=>kX s b.toList fun b=>k (.func r a.toArray b.toArray)
 | .makeSlice t l c=>bf (bB s l) fun l=>bf (bB s c) fun c=>Gj P t l c k
 | .slice t x n p m=>bf (bB s x) fun x=>qa s n fun n=>qa s p fun p=>qa s m fun m=>Gk P t x n p m k
 | .fieldAddr t x f=>bf (bB s x) fun x=>Gm P t x f k
 | .field t x f=>bf (bB s x) fun x=>Gn P t x f k
 | .indexAddr t x g=>bf (bB s x) fun x=>bf (bB s g) fun g=>Gp P t x g k
 | .index t x g=>bf (bB s x) fun x=>bf (bB s g) fun g=>Gq P t x g k
 | .extract t i=>bf (bB s t) fun t=>aV t i k
 | .call c=>kX s c.args.toList fun h=>Gx P rec s c h k
 |_=> .fail
end
section
variable {β:Type} {P:Program} {t:TypeId} {x y a:Value} {k:Value->M β} {h:H} {n:Nat} {r:Out β}
theorem ab6{P:Program}{p:Nat}(d:p<=4294967295):jx P .xor (.int .u32 (.ofNat p))=some (.int .u32 (.ofNat (Nat.sub 4294967295 p))):=by
 have e:Op.unary .xor (.int .u32 (.ofNat p))=pure (.int .u32 (IntKind.u32.wrap (bY 32 4294967295^^^bY 32 (gQ p)).toNat)):=rfl
 have c:(bY 32 4294967295^^^bY 32 (gQ p)).toNat=4294967295-p:=by
  have a:bY 32 4294967295=BitVec.allOnes 32:=jD;rw[a,BitVec.allOnes_xor,BitVec.toNat_not]
  have:(bY 32 (gQ p)).toNat=p:=by show(bY 32 (p:Int)).toNat=p;rw[BitVec.ofInt_natCast,BitVec.toNat_ofNat];exact kP jO
  rw[this]
 have b:IntKind.u32.wrap ((4294967295-p:Nat):Int)=((4294967295-p:Nat):Int):=IntWalk.u32_in _ jO;unfold jx l9;rw[e,c,b];rfl
theorem ab7{c:UnOp}(a:Gc c x k h n=some r):bf (jx P c x) k h n=some r:=by
 unfold Gc at a;split at a
 ·unfold dC at a;split at a
  ·exact eH rfl a
  ·cases a
 ·unfold Bj at a;split at a
  ·rename_i j p;exact eH (v:= .int j (j.wrap (0-p))) rfl (by rw[<-ky,<-AZ];exact a)
  ·cases a
 ·unfold Bn at a;split at a
  ·rename_i p;cases b:bG p 4294967295 with
   |false=>simp only[b]at a;cases a
   |true=>simp only[b]at a;exact eH (ab6 (gC b)) a
  ·cases a
 ·cases a
theorem Gy{v:Value}(a:k v h n=some r):((inside (M.ret v)).bind k) h n=some r:=by obtain⟨c,d,b,L⟩:=r;exact bX (L1:=[]) rfl a
theorem ab8(d:iI x k h n=some r):((inside (mG x)).bind k) h n=some r:=by
 unfold iI at d;split at d
 ·rename_i b a len c
  refine kZ (m:=(ig b a len).bind fun e=>match lJ e with
  |some l=> .ret (.string ⟨⟨l⟩⟩)
  |none=> .fail) ?_ d
  have:=congrFun abD (.slice (some ⟨b,a,none⟩) len c);exact this
 ·exact Gy d
 ·cases d
theorem ab9{e:TypeId}(a:vA e x k h n=some r):((inside (AL e x)).bind k) h n=some r:=by
 unfold vA at a;split at a
 ·rename_i l;cases b:bG (jl l) 1099511627776 with
  |false=>simp only[b]at a;cases a
  |true=>simp only[b]at a;refine kZ ?_ a;have:=gC b;rw[oW]at this⊢;unfold AL pW;rw[lI];have c:(⟨⟨l⟩⟩:ByteArray).size=l.length:=rfl;simp only[c];rw[if_pos this];simp
 ·cases a
theorem ab'{src b:TypeId}(a:Gd P src b x k h n=some r):AM P src b x k h n=some r:=by
 unfold Gd at a;unfold AM;cases g:qQ (P.underlying src) (P.underlying b)with
 |some e=>
  simp only[g]at a⊢;cases c:mH P e with
  |true=>simp only[c]at a⊢;exact ab8 a
  |false=>simp only[c]at a;cases a
 |none=>
  simp only[g]at a⊢;cases i:sY (P.underlying src) (P.underlying b)with
  |some e=>
   simp only[i]at a⊢;cases c:(mH P e&&size? P e==some 1)with
   |true=>simp only[c]at a⊢;exact ab9 a
   |false=>simp only[c]at a;cases a
  |none=>
   simp only[i]at a⊢;cases hd:P.underlying src with
   |none=>simp only[hd]at a;cases a
   |some m=>
    simp only[hd]at a;cases f:P.underlying b with
    |none=>simp only[f]at a;cases a
    |some l=>
     simp only[f]at a;cases l<;>try(cases a;done)
     ·cases x<;>try(cases a;done)
      ·rename_i d j p;refine eH (v:= .int d (d.wrap p)) ?_ (by rw[<-ky];exact a);unfold l9;simp only[scalar]
       have:jh P (do pure (LI (<-LG src b (.int j p))))=some (.int d (d.wrap p)):=by unfold LG;simp only[bind_assoc];rw[oU hd,oU f];rfl
       rw[this]
     ·cases x<;>try(cases a;done)
      ·rename_i s;refine eH (v:= .string s) ?_ a;unfold l9;simp only[scalar]
       have:jh P (do pure (LI (<-LG src b (.string s))))=some (.string s):=by unfold LG;simp only[bind_assoc];rw[oU hd,oU f];rfl
       rw[this]
theorem Nl(c:Bs P t a k h n=some r):((inside (ji P t a)).bind k) h n=some r:=by
 unfold Bs at c;cases d:jg P t with
 |none=>simp only[d]at c;cases c
 |some b=>
  cases b with
  |false=>
   simp only[d]at c;unfold aQ at c;split at c
   ·refine kZ ?_ c;rw[A9];unfold ji;simp only[d]
   ·cases c
  |true=>
   simp only[d]at c;cases e:size? P t with
   |none=>simp only[e]at c;cases c
   |some f=>
    simp only[e]at c;unfold aT at c;split at c
    ·refine kZ ?_ c;rw[mM];unfold ji;simp only[d,e]
    ·cases c
theorem ab_(c:Ge P t a x k h n=some r):((inside (nh P t a x)).bind k) h n=some r:=by
 unfold Ge at c;cases e:size? P t with
 |none=>simp only[e]at c;cases c
 |some p=>
  simp only[e]at c;cases j:jg P t with
  |none=>simp only[j]at c;cases c
  |some b=>
   cases b with
   |true=>
    simp only[j]at c;unfold aM at c;split at c
    ·split at c
     ·rename_i b d _ l;cases g:bV (fF l) p with
      |false=>simp only[g]at c;cases c
      |true=>simp only[g]at c;refine kZ ?_ c;have:=kO g;rw[me]at this;unfold nh;have i:(mC ⟨l⟩).cells=⟨l⟩:=rfl;simp only[e,i];rw[if_pos (by simpa using this),xL]
     ·cases c
    ·cases c
   |false=>
    simp only[j]at c;cases m:bV p 1 with
    |false=>simp only[m]at c;cases c
    |true=>
     simp only[m]at c;have:=kO m;subst this;unfold aK at c;split at c
     ·rename_i b d;cases f:one x with
      |false=>simp only[f]at c;cases c
      |true=>
       simp only[f]at c;refine kZ ?_ c;have i:x.cells=#[x]:=by cases x<;>first|rfl|(simp[one]at f)
       unfold nh;simp only[e,i];rw[Ba];funext q n;show _=((eG b d [x]).bind fun _=>M.ret undef) q n;unfold eG eG M.bind;cases wr b d x q n with
       |none=>rfl
       |some o=>simp[M.ret]
     ·cases c
theorem aca{e:TypeId}(a:Gf P e k h n=some r):((inside (mE P e)).bind k) h n=some r:=by
 unfold Gf at a;cases b:gm P e with
 |none=>simp only[b]at a;cases a
 |some z=>simp only[b]at a;refine kZ ?_ a;unfold mE;rw[b,lI,nB]
theorem acb{e:TypeId}(a:Gg P e x k h n=some r):((inside (mF P e x)).bind k) h n=some r:=by
 unfold Gg at a;cases b:size? P e with
 |none=>simp only[b]at a;cases a
 |some z=>simp only[b]at a;refine kZ ?_ a;unfold mF;rw[b,lI,nB]
theorem Gz{b:Nat->Option (Nat×Nat)}:∀(ps:List (Nat×Value)) (a:List (Nat×Nat×Value)) (cs:List Value),vB b ps=some a->fG cs a=rj b cs ps
 |[],a,cs,e=>by cases e;rfl
 |(i,v)::r,a,cs,e=>by
  unfold vB at e;unfold rj;simp only at e;cases f:b i with
  |none=>simp only[f]at e;cases e
  |some p=>
   obtain⟨c,g⟩:=p;simp only[f]at e⊢;cases d:vB b r with
   |none=>simp only[d]at e;cases e
   |some l=>
    simp only[d]at e;cases e;unfold fG;simp only;cases bV (fF (di v)) g with
    |false=>rfl
    |true=>
     simp only[Bool.true_and];cases bG (gD c (fF (di v))) (fF cs)with
     |false=>rfl
     |true=>exact Gz r l _ d
theorem acd{ps:List (Nat×Value)}(a:Gh P t ps k h n=some r):((inside (lW P t ps)).bind k) h n=some r:=by
 unfold Gh at a;cases b:gm P t with
 |none=>simp only[b]at a;cases a
 |some z=>
  simp only[b]at a;cases c:P.underlying t with
  |none=>simp only[c]at a;cases a
  |some u=>
   simp only[c]at a;cases u<;>try(cases a;done)
   rename_i g;simp only at a;cases d:(g.all fun f=>(size? P f.type).isSome)with
   |false=>simp only[d]at a;cases a
   |true=>
    simp only[d]at a;obtain⟨l,m,a⟩:=cJ a;unfold bo at a;have e:=Gz ps l (di z) m;rw[nB,Bc]at e;rw[nB,e]at a
    have:lW P t ps=match lE (placeOf P g) z.cells ps with
     |some j=>M.ret (.agg j)
     |none=> .fail:=by
     unfold lW;simp only[b,c,d,if_true];rfl
    rw[this];cases i:lE (placeOf P g) z.cells ps with
    |none=>rw[i]at a;cases a
    |some j=>rw[i]at a;exact Gy a
end
section
variable {β:Type} {P:Program} {t:TypeId} {x y a:Value} {k:Value->M β} {h:H} {n:Nat} {r:Out β}
theorem Bt:∀a b:List Value,qh a b=a++b
 |[],_=>rfl
 |v::a,b=>by show v::qh a b=_;rw[Bt a b];rfl
theorem ace{z:Value}{n i:Nat}(b:0<z.cells.size)(h:i<n):(aR z n).toList[i]? =some (z.cells.toList[i %z.cells.size]'(by rw[E7];exact jt _ b)):=by unfold aR;have a:=jt i b;simp[h,a]
theorem Nn(l:List Value):∀c,(kB l c).length=c*l.length
 |0=>by simp[kB]
 |c+1=>by unfold kB;rw[Bt,List.length_append,Nn l c,oH,amS,Nat.add_comm]
theorem Np(l:List Value)(b:0<l.length):∀c i,i<c*l.length->(kB l c)[i]? =some (l[i %l.length]'(jt _ b))
 |0,i,h=>by simp at h
 |c+1,i,h=>by
  unfold kB;rw[Bt];by_cases a:i<l.length
  ·rw[List.getElem?_append_left a,bA a];simp only[kP a]
  ·rw[List.getElem?_append_right jO,Np l b c (i-l.length) (by rw[oH,amS]at h;omega)]
   have:(i-l.length)%l.length=i %l.length:=by conv=>rhs;rw[show i=i-l.length+l.length by omega,Nat.add_mod_right]
   simp only[this]
theorem GA{z:Value}(d:0<z.cells.size)(c:Nat):kB (di z) c=(aR z (c*z.cells.size)).toList:=by
 rw[nB];have a:z.cells.toList.length=z.cells.size:=E7;apply List.ext_getElem?;intro i;by_cases b:i<c*z.cells.size
 ·rw[Np _ jO c i (by rw[a];exact b),ace d b];simp only[a]
 ·rw[oE (by rw[Nn,a];omega),oE (by unfold aR;simp;omega)]
theorem Nq:∀(l cs:List Value),l.length=cs.length->over l cs=l
 |[],[],_=>rfl
 |[],_::_,h=>by simp at h
 |_::_,[],h=>by simp at h
 |x::l,c::cs,h=>by show x::over l cs=_;rw[Nq l cs (by simpa using h)]
theorem acf{len:Nat}{ps:List (Nat×Value)}{v:Value}(e:lone len ps=some v):len=1∧ps=[(0,v)]:=by
 unfold lone at e;split at e
 ·cases e;exact⟨rfl,rfl⟩
 ·cases e
theorem acg{len:Nat}{ps:List (Nat×Value)}(a:Gi P t len ps k h n=some r):((inside (lX P t len ps)).bind k) h n=some r:=by
 unfold Gi at a;cases x:P.underlying t with
 |none=>simp only[x]at a;cases a
 |some u=>
  simp only[x]at a;cases u<;>try(cases a;done)
  rename_i e;simp only at a;cases y:size? P e with
  |none=>simp only[y]at a;cases a
  |some b=>
   simp only[y]at a;cases p:gm P e with
   |none=>simp only[p]at a;cases a
   |some z=>
    simp only[p]at a
    have I:lX P t len ps=if len=0&&ps.isEmpty then(cS e []).bind fun id=> .ret (.slice (some ⟨id,0,none⟩) 0 0)else
     if 0<len*b&&len*b<=65536 then
      match lE (fun i=>some (i*b,b)) (aR z (len*b)) ps with
      |some B=>(cS e B.toList).bind fun id=> .ret (.slice (some ⟨id,0,none⟩) len len)
      |none=> .fail
     else .fail:=by
     unfold lX;simp only[x,y,p];rfl
    rw[I];cases c:(bV len 0&&ps.isEmpty)with
    |true=>simp only[c]at a;rw[bW]at c;have:=kO c.1;rw[if_pos (by simp[this,c.2])];unfold vz fG at a;simp only at a;refine kZ ?_ a;rw[lI]
    |false=>
     simp only[c]at a
     have A:¬((decide (len=0)&&ps.isEmpty)=true):=by intro q;rw[bW,decide_eq_true_eq]at q;obtain⟨rfl,q⟩:=q;rw[q]at c;cases c
     rw[if_neg A];cases o:(bG 1 (len*b)&&bG (len*b) 65536&&bV (fF (di z)) b)with
     |false=>simp only[o]at a;cases a
     |true=>
      simp only[o]at a;rw[bW,bW]at o;obtain⟨⟨m,D⟩,g⟩:=o;have m:=gC m;have D:=gC D;have g:=kO g;rw[me,nB,E7]at g;rw[if_pos (by simp;omega)]
      have j:0<z.cells.size:=by rw[g];exact Nat.pos_of_ne_zero fun q=>by rw[q]at m;simp at m
      cases s:lone len ps with
      |some v=>
       simp only[s]at a;obtain⟨rfl,rfl⟩:=acf s;unfold bO at a;cases d:bV (fF (di v)) b with
       |false=>simp only[d]at a;cases a
       |true=>
        simp only[d]at a;have d:=kO d;have f:=Bc (fun i=>some (i*b,b)) [(0,v)] (aR z (1*b));have C:(aR z (1*b)).toList.length=b:=by unfold aR;simp
        have f2:rj (fun i=>some (i*b,b)) (aR z (1*b)).toList [(0,v)]=some (di v):=by unfold rj;simp only[Nat.zero_mul];rw[me (aR z (1*b)).toList,C,d];have K:bV b b=true:=xp b;have J:bG (gD 0 b) b=true:=lF (by show 0+b<=b;omega);simp only[K,J,Bool.and_self];unfold rj;rw[F0,<-FZ,Nq _ _ (by rw[C,<-me,d])]
        rw[f2]at f;cases l:lE (fun i=>some (i*b,b)) (aR z (1*b)) [(0,v)]with
        |none=>rw[l]at f;cases f
        |some B=>rw[l]at f;simp only[Option.map_some,dx]at f;refine kZ ?_ a;rw[lI,f]
      |none=>
       simp only[s]at a;obtain⟨E,G,a⟩:=cJ a;unfold vz at a;have f:=Gz ps E (kB (di z) len) G;rw[GA j,g,Bc]at f;rw[GA j,g,f]at a;cases l:lE (fun i=>some (i*b,b)) (aR z (len*b)) ps with
       |none=>rw[l]at a;cases a
       |some B=>rw[l]at a;refine kZ ?_ a;rw[lI]
theorem ach{l c:Value}(a:Gj P t l c k h n=some r):((inside (mI P t l c)).bind k) h n=some r:=by
 unfold Gj at a;cases m:P.underlying t with
 |none=>simp only[m]at a;cases a
 |some u=>
  simp only[m]at a;cases u<;>try(cases a;done)
  rename_i e;simp only at a;cases o:P.info? e with
  |none=>simp only[o]at a;cases a
  |some i=>
   simp only[o]at a;cases j:gm P e with
   |none=>simp only[j]at a;cases a
   |some z=>
    simp only[j]at a;cases g:(bG i.bytes 64&&bV (fF (di z)) i.size&&bG 1 i.size)with
    |false=>simp only[g]at a;cases a
    |true=>
     simp only[g]at a;rw[bW,bW]at g;obtain⟨⟨q,f⟩,p⟩:=g;have q:=gC q;have f:=kO f;have p:=gC p;rw[me,nB,E7]at f;unfold o4 at a;split at a
     ·split at a
      ·rename_i x l _ v c;cases d:bG l c with
       |false=>simp only[d]at a;cases a
       |true=>
        simp only[d]at a;cases b:bG c 1099511627776 with
        |false=>simp only[b]at a;cases a
        |true=>simp only[b]at a;have d:=gC d;have b:=gC b;refine kZ ?_ a;unfold mI;simp only[m,o,j];have q1:(0:Int)<=gQ l:=oI _;have q2:gQ l<=gQ c:=Int.ofNat_le.2 d;have s:gQ c<=1099511627776:=Int.ofNat_le.2 b;rw[if_pos (by simp[q1,q2,s,q,f,p];omega),lI,GA jO,f];rfl
      ·cases a
     ·cases a
theorem Nr{P:Program}{t e:TypeId}{sz:Nat}(f:P.underlying t=some (.slice e))(g:size? P e=some sz)(a:Option Addr)(len cap:Nat)(lo d:Option Value):o7 sz a len cap lo d=va P t (.slice a len cap) lo d none:=by
 unfold o7 va;simp only[f,g];cases i:dZ d len with
 |none=>simp
 |some b=>
  cases h:dZ lo 0 with
  |none=>simp[dZ]
  |some c=>simp[dZ];rfl
theorem aci{lo j B:Option Value}(f:Gk P t x lo j B k h n=some r):vn P t x lo j B k h n=some r:=by
 unfold Gk at f;cases B with
 |some _=>cases f
 |none=>
  simp only at f;cases i:P.underlying t with
  |none=>simp only[i]at f;cases f
  |some u=>
   simp only[i]at f;cases u<;>try(cases f;done)
   ·unfold bN at f;cases x<;>try(cases f;done)
    rename_i s;obtain⟨⟨l⟩⟩:=s;simp only at f;cases E:qk lo 0 with
    |none=>simp only[E]at f;cases f
    |some a=>
     simp only[E]at f;cases y:qk j (jl l)with
     |none=>simp only[y]at f;cases f
     |some b=>
      simp only[y]at f;cases g:bG a b with
      |false=>simp only[g]at f;cases f
      |true=>
       simp only[g]at f;cases m:bG b (jl l)with
       |false=>simp only[m]at f;cases f
       |true=>
        simp only[m]at f
        have bn:∀{o:Option Value} {d a:Nat},qk o d=some a->dZ o d=some a:=by
         intro o d a h;unfold qk at h;split at h
         ·exact h
         ·cases h;unfold dZ;simp
         ·cases h
        have m:=gC m;rw[oW]at m y;have e:=ab1 i l lo j (bn E) (bn y) (gC g) m k;exact(congrFun (congrFun e h) n).trans f
   ·rename_i e;simp only at f;cases q:size? P e with
    |none=>simp only[q]at f;cases f
    |some K=>
     simp only[q]at f;unfold vn;have D:nq P t=false:=by unfold nq;rw[i]
     rw[D];simp only;cases x<;>try(cases f;done)
     rename_i I len cap;cases I with
     |none=>
      unfold nF at f;simp only at f;cases g:o7 K none len cap lo j with
      |none=>simp only[g]at f;cases f
      |some v=>
       simp only[g]at f
       have G:s7 P t (.slice none len cap) lo j none=M.ret v:=by unfold s7;simp only[isStr];unfold ng;simp only;rw[<-Nr i q,g];rfl
       rw[G];exact Gy f
     |some I=>
      obtain⟨b,A,p⟩:=I;cases p with
      |some _=>cases f
      |none=>
       unfold nF at f;simp only at f;obtain⟨c,m,Y,L⟩:=r;rw[lK]at f;obtain⟨v,g,N,L1,L2,G,U,T⟩:=bind_some f;obtain⟨W,R,Q⟩:=td G;obtain⟨w,Z,X,L3,L4,J,z,O⟩:=bind_some R
       have:s7 P t (.slice (some ⟨b,A,none⟩) len cap) lo j none h n=some ⟨v,g,N,W⟩:=by
        unfold s7;simp only[isStr];unfold ng;simp only;rw[vu]at J;rw[O];refine bX J ?_;cases C:bV w e with
        |false=>simp only[C]at z;cases z
        |true=>simp only[C]at z;have:=kO C;subst this;simp only[i,if_true];rw[<-Nr i q];exact z
       rw[T,Q];exact bX (jy this) U
theorem acj{s:Value}(a:Gv P t s x k h n=some r):((inside (oJ P t s x)).bind k) h n=some r:=by
 unfold Gv at a;cases f:P.underlying t with
 |none=>simp only[f]at a;cases a
 |some u=>
  simp only[f]at a;cases u<;>try(cases a;done)
  rename_i e;simp only at a;cases g:P.info? e with
  |none=>simp only[g]at a;cases a
  |some b=>
   simp only[g]at a;cases d:gm P e with
   |none=>simp only[d]at a;cases a
   |some z=>
    simp only[d]at a;cases c:(bG b.bytes 64&&bV (fF (di z)) b.size&&bG 1 b.size)with
    |false=>simp only[c]at a;cases a
    |true=>
     simp only[c]at a;rw[bW,bW]at c;obtain⟨⟨l,i⟩,j⟩:=c;have l:=gC l;have i:=kO i;have j:=gC j;rw[me,nB,E7]at i;refine kZ ?_ a;unfold oJ mi;simp only[f,g,d];cases ic x with
     |none=>rfl
     |some m=>
      simp only;have o:(decide (z.cells.size=b.size)&&decide (1<=b.size)&&decide (b.bytes<=64))=true:=by simp;omega
      rw[if_pos o];unfold sP xT mD;rw[qg,mM,xL,FW,vu,lI];rfl
theorem ack{d s:Value}(a:Gw P t d s k h n=some r):((inside (oM P t d s)).bind k) h n=some r:=by
 unfold Gw at a;cases b:P.underlying t with
 |none=>simp only[b]at a;cases a
 |some u=>
  simp only[b]at a;cases u<;>try(cases a;done)
  rename_i e;simp only at a;cases c:size? P e with
  |none=>simp only[c]at a;cases a
  |some f=>
   simp only[c]at a;refine kZ ?_ a;unfold oM tj;simp only[b,c];rw[qg,xL];cases d<;>try rfl
   cases ic s<;>rfl
theorem acm{f:Nat}(a:Gm P t x f k h n=some r):bf (vd P t x f) k h n=some r:=by
 unfold Gm at a;cases c:P.underlying t with
 |none=>simp only[c]at a;cases a
 |some u=>
  simp only[c]at a;cases u<;>try(cases a;done)
  rename_i g;simp only at a;cases d:g[f]? with
  |none=>simp only[d]at a;cases a
  |some i=>
   simp only[d]at a;cases b:size? P i.type with
   |none=>simp only[b]at a;cases a
   |some e=>
    cases e with
    |zero=>simp only[b]at a;cases a
    |succ e=>
     simp only[b]at a;unfold ay at a;split at a
     ·refine eH ?_ a;unfold vd;simp only[c,d,b];rw[if_neg jO];rfl
     ·cases a
theorem GB {l:List Value} {K:Nat} {β:Type} {k:Value->M β} {h:H} {n:Nat} {r:Out β} (a:(match rh l K with
 |some v=>k v
 |none=>M.fail) h n=some r):bf l[K]? k h n=some r:=by
 rw[A8]at a;cases e:l[K]? with
 |none=>rw[e]at a;cases a
 |some v=>rw[e]at a;exact a
theorem acn{f:Nat}(a:Gn P t x f k h n=some r):bf (qR P t x f) k h n=some r:=by
 unfold Gn at a;cases d:P.underlying t with
 |none=>simp only[d]at a;cases a
 |some u=>
  simp only[d]at a;cases u<;>try(cases a;done)
  rename_i p;simp only at a;cases g:p[f]? with
  |none=>simp only[g]at a;cases a
  |some j=>
   simp only[g]at a;cases c:jg P j.type with
   |none=>simp only[c]at a;cases a
   |some b=>
    cases b with
    |false=>
     simp only[c]at a;unfold F6 at a;cases x<;>try(cases a;done)
     rename_i o;obtain⟨l⟩:=o;have:=GB a
     have e:qR P t (.agg ⟨l⟩) f=l[j.offset]? :=by unfold qR partOf;simp only[d,g,c];simp
     rw[e];exact this
    |true=>
     simp only[c]at a;cases i:size? P j.type with
     |none=>simp only[i]at a;cases a
     |some m=>
      simp only[i]at a;unfold F7 at a;cases x<;>try(cases a;done)
      rename_i o;obtain⟨l⟩:=o;refine eH ?_ a;unfold qR partOf;simp only[d,g,c,i];congr 2;apply Array.ext';simp[ams]
theorem aco{p:Value}(a:Gp P t x p k h n=some r):bf (pX P t x p) k h n=some r:=by
 unfold Gp at a;cases l:P.underlying t with
 |none=>simp only[l]at a;cases a
 |some u=>
  simp only[l]at a;have one:∀{g:Nat} (i:Nat),bV g 1=true->i*g=i:=fun i h=>by rw[kO h,uY]
  cases u<;>try(cases a;done)
  case array m e=>
   simp only at a;cases f:size? P e with
   |none=>simp only[f]at a;cases a
   |some g=>
    simp only[f]at a;cases j:bV g 1 with
    |true=>
     simp only[j]at a;unfold gG at a;split at a
     ·split at a
      ·rename_i b d _ o i;cases c:bG (fz i) m with
       |false=>simp only[c]at a;cases a
       |true=>simp only[c]at a;refine eH ?_ a;have:=gC c;unfold pX;simp only[l,f];rw[if_pos ⟨oI _,Int.ofNat_lt.2 this⟩];show some (E9 (some ⟨b,d+i*g,none⟩))=_;rw[one i j];rfl
      ·cases a
     ·cases a
    |false=>
     simp only[j]at a;unfold Bo at a;split at a
     ·split at a
      ·rename_i b d _ o i;cases c:bG (fz i) m with
       |false=>simp only[c]at a;cases a
       |true=>simp only[c]at a;refine eH ?_ a;have:=gC c;unfold pX;simp only[l,f];rw[if_pos ⟨oI _,Int.ofNat_lt.2 this⟩];rfl
      ·cases a
     ·cases a
  case slice e=>
   simp only at a;cases f:size? P e with
   |none=>simp only[f]at a;cases a
   |some g=>
    simp only[f]at a;cases j:bV g 1 with
    |true=>
     simp only[j]at a;unfold bM at a;split at a
     ·split at a
      ·rename_i b d m _ _ o i;cases c:bG (fz i) m with
       |false=>simp only[c]at a;cases a
       |true=>simp only[c]at a;refine eH ?_ a;have:=gC c;unfold pX;simp only[l,f];rw[if_pos ⟨oI _,Int.ofNat_lt.2 this⟩];show some (E9 (some ⟨b,d+i*g,none⟩))=_;rw[one i j];rfl
      ·cases a
     ·cases a
    |false=>
     simp only[j]at a;unfold mh at a;split at a
     ·split at a
      ·rename_i b d m _ _ o i;cases c:bG (fz i) m with
       |false=>simp only[c]at a;cases a
       |true=>simp only[c]at a;refine eH ?_ a;have:=gC c;unfold pX;simp only[l,f];rw[if_pos ⟨oI _,Int.ofNat_lt.2 this⟩];rfl
      ·cases a
     ·cases a
theorem acp{y:Value}(a:Gq P t x y k h n=some r):bf (s9 P t x y) k h n=some r:=by
 unfold Gq at a;cases d:P.underlying t with
 |none=>simp only[d]at a;cases a
 |some u=>
  simp only[d]at a;cases u<;>try(cases a;done)
  case string=>
   unfold cP at a;cases x<;>try(cases a;done)
   rename_i s;obtain⟨⟨l⟩⟩:=s;simp only at a;split at a
   ·rename_i o i;cases v:qe l i with
    |none=>simp only[v]at a;cases a
    |some c=>simp only[v]at a;obtain⟨j,A⟩:=FN _ _ _ v;have:=ab0 (P:=P) d l o (i:Int) jO jO;rw[Int.toNat_natCast,A]at this;exact eH this a
   ·cases a
  case array m e=>
   simp only at a;cases g:jg P e with
   |none=>simp only[g]at a;cases a
   |some b=>
    cases b with
    |true=>simp only[g]at a;cases a
    |false=>
     simp only[g]at a;cases q:size? P e with
     |none=>simp only[q]at a;cases a
     |some z=>
      simp only[q]at a;cases j:bV z 1 with
      |false=>simp only[j]at a;cases a
      |true=>
       simp only[j]at a;have:=kO j;subst this;unfold vx at a;cases x<;>try(cases a;done)
       rename_i B;obtain⟨l⟩:=B;simp only at a;split at a
       ·rename_i o i;cases f:bG (fz i) m with
        |false=>simp only[f]at a;cases a
        |true=>
         simp only[f]at a;have a:=GB a;have f:=gC f;have p:nq P t=false:=by unfold nq;rw[d]
         have e:s9 P t (.agg ⟨l⟩) (.int o (.ofNat i))=l[i]? :=by unfold s9;rw[p];simp only;unfold AP;simp only[isStr];unfold ve;simp only[d,q];rw[if_pos ⟨oI _,Int.ofNat_lt.2 f⟩];unfold partOf;simp only[g,uY];simp
         rw[e];exact a
       ·cases a
theorem acq{b:Array TypeId}{vs:List Value}(a:Gr P b vs k h n=some r):bf (xE P b vs) k h n=some r:=by
 unfold Gr at a;cases d:b[0]? with
 |none=>simp only[d]at a;cases a
 |some t=>
  simp only[d]at a;split at a
  ·rename_i x;cases c:P.underlying t with
   |none=>simp only[c]at a;cases a
   |some u=>
    simp only[c]at a;cases u<;>try(cases a;done)
    ·unfold bJ at a;cases x<;>try(cases a;done)
     rename_i s;obtain⟨⟨l⟩⟩:=s;refine eH (v:= .int .i64 (l.length:Nat)) ?_ (by rw[<-oW];exact a);unfold xE;simp only[d,c];rfl
    ·unfold bx at a;cases x<;>try(cases a;done)
     refine eH ?_ a;unfold xE;simp only[d,c];rfl
  ·cases a
theorem acr{vs:List Value}(c:Gs vs k h n=some r):bf (min2 vs) k h n=some r:=by
 unfold Gs at c;split at c
 ·rename_i x y;unfold kY at c;split at c
  ·split at c
   ·rename_i a p _ b q;refine eH (v:= .int a (if q<p then q else p)) rfl ?_;rw[qc]at c;by_cases e:q<p
    ·rw[if_pos e];simp only[e,decide_true]at c;exact c
    ·rw[if_neg e];simp only[e,decide_false]at c;exact c
   ·cases c
  ·cases c
 ·rename_i x y z u v w;unfold Ng at c
  have d:∀{x y:Value} {k:Value->M β},kY x y k h n=some r->∃a p b q,x= .int a p∧y= .int b q∧k (.int a (tc p q)) h n=some r:=by
   intro x y k c;unfold kY at c;split at c
   ·split at c
    ·rename_i a p _ b q;refine⟨a,p,b,q,rfl,rfl, ?_⟩;rw[qc]at c;unfold tc;by_cases e:q<p
     ·rw[if_pos e];simp only[e,decide_true]at c;exact c
     ·rw[if_neg e];simp only[e,decide_false]at c;exact c
    ·cases c
   ·cases c
  obtain⟨a,p,b,q,rfl,rfl,l⟩:=d c;obtain⟨R,I,N,q2,t,rfl,j⟩:=d l;obtain⟨Q,G,L,C,s,rfl,i⟩:=d j;obtain⟨P,E,K,B,o,rfl,g⟩:=d i;obtain⟨O,D,J,A,m,rfl,f⟩:=d g;cases t;cases s;cases o;cases m;exact eH rfl f
 ·cases c
theorem acs{vs:List Value}(c:Gu vs k h n=some r):bf (max2 vs) k h n=some r:=by
 unfold Gu at c;split at c
 ·rename_i x y;unfold o0 at c;split at c
  ·split at c
   ·rename_i a p _ b q;refine eH (v:= .int a (if p<q then q else p)) rfl ?_;rw[qc]at c;by_cases e:p<q
    ·rw[if_pos e];simp only[e,decide_true]at c;exact c
    ·rw[if_neg e];simp only[e,decide_false]at c;exact c
   ·cases c
  ·cases c
 ·cases c
end
section
variable {α β:Type} {h:H} {n:Nat} {r:Out β}
theorem gq{o:Option α}{k a:α->M β}(c:∀v,k v h n=some r->a v h n=some r)(b:bf o k h n=some r):bf o a h n=some r:=by
 cases o with
 |none=>cases b
 |some v=>exact c v b
theorem Bu{s:Fr}:∀{l:List Operand} {k c:List Value->M β},(∀v,k v h n=some r->c v h n=some r)->kX s l k h n=some r->kX s l c h n=some r
 |[],_,_,b,a=>b _ a
 |_::_,_,_,b,a=>gq (fun _ q=>Bu (fun _ q=>b _ q) q) a
theorem GC{s:Fr}{x:Option Operand}{k a:Option Value->M β}(c:∀v,k v h n=some r->a v h n=some r)(b:qa s x k h n=some r):qa s x a h n=some r:=by
 cases x with
 |none=>exact c _ b
 |some x=>exact gq (fun _ q=>c _ q) b
variable {P:Program} {rec:FuncId->Array Value->M Value}
theorem acu{s:Fr}{c:Call}{vs:List Value}{k:Value->M β}(a:Gx P rec s c vs k h n=some r):call2 P rec s c vs k h n=some r:=by
 unfold Gx at a;unfold call2;cases e:c.callee with
 |value f=>
  simp only[e]at a⊢;cases f with
  |func g=>
   simp only at a;cases i:ni P g with
   |false=>simp only[i]at a;cases a
   |true=>
    simp only[i]at a;show ku P rec (.func (.func g) #[] #[]) vs k h n=some r;unfold ku
    show(match ni P g with
     |true=>(inside (rec g ((#[]:Array Value).toList++vs++(#[]:Array Value).toList).toArray)).bind k
     |false=>M.fail) h n=some r
    rw[i];refine kZ ?_ a;simp
  |_=>exact a
 |builtin b=>
  simp only[e]at a⊢;cases b<;>try(cases a;done)
  case append=>exact gq (fun q d=>acj d) a
  case copy=>exact gq (fun q d=>ack d) a
  case len=>exact acq a
  case max=>exact acs a
  case min=>exact acr a
 |invoke _ _=>simp only[e]at a;cases a
theorem acv{s:Fr}{o:Oper}{k:Value->M β}(g:kC P rec s o k h n=some r):oS P rec s o k h n=some r:=by
 obtain⟨u,j,E,pos,after,guard⟩:=o;unfold kC at g;unfold oS;cases j with
 |move x=>exact g
 |assign x=>exact g
 |pick c a b=>
  refine gq (fun B=>gq fun D=>gq fun C q=> ?_) g;unfold F5 at q;split at q
  ·exact eH rfl q
  ·exact eH rfl q
  ·cases q
 |alloc e=>exact aca g
 |box e x=>exact gq (fun _ q=>acb q) g
 |build t m=>exact Bu (fun _ q=>acd q) g
 |buildSlice t len m=>exact Bu (fun _ q=>acg q) g
 |load t a=>exact gq (fun _ q=>Nl q) g
 |store t a x=>exact gq (fun _=>gq fun _ q=>ab_ q) g
 |nilCheck x=>
  refine gq (fun v q=> ?_) g;unfold an at q;split at q
  ·exact eH rfl q
  ·exact eH rfl q
  ·cases q
 |binOp j t x y A=>exact gq (fun _=>gq fun _ q=>ab5 q) g
 |unOp j t x=>exact gq (fun _ q=>ab7 q) g
 |convert src d x=>exact gq (fun _ q=>ab' q) g
 |makeFunc K a b=>exact g
 |makeSlice t l c=>exact gq (fun _=>gq fun _ q=>ach q) g
 |slice t x I J G=>exact gq (fun _=>GC fun _=>GC fun _=>GC fun _ q=>aci q) g
 |fieldAddr t x f=>exact gq (fun _ q=>acm q) g
 |field t x f=>exact gq (fun _ q=>acn q) g
 |indexAddr t x p=>exact gq (fun _=>gq fun _ q=>aco q) g
 |index t x p=>exact gq (fun _=>gq fun _ q=>acp q) g
 |extract t i=>
  refine gq (fun v q=> ?_) g;unfold aV at q;cases v<;>try(cases q;done)
  rename_i z;obtain⟨l⟩:=z;have e:qS (.tuple ⟨l⟩) i=l[i]? :=by simp[qS]
  rw[e];exact GB q
 |call c=>exact Bu (fun _ q=>acu q) g
 |_=>cases g
end
end Go.Proofs.YtmjolmggelkjlaaGreat.Ev
namespace Go.Proofs.YtmjolmggelkjlaaGreat.Ev
open Go
noncomputable section
variable (P:Program) (rec:FuncId->Array Value->M Value)
def fB(ops:Array Oper)(a:Option Tmp):List Nat->List Nat
 |[]=>[]
 |j::r=>match (ops[j]?).bind (·.dst),a with
  |some t,some d=>match bV t d with
   |true=>fB ops a r
   |false=>j::fB ops a r
  |_,_=>j::fB ops a r
def tm(j:Nat):List Nat->Bool
 |[]=>false
 |i::r=>match bV i j with
  |true=>true
  |false=>tm j r
def nG{c:Type}(ops:Array Oper):List Oper->Nat->List Nat->Fr->(Fr->M c)->M c
 |[],_,_,s,k=>k s
 |o::r,i,a,s,k=>match o.guard with
  |none=>kC P rec s o fun v=>nG ops r (i+1) (fB ops o.dst a) (gS s o.dst v) k
  |some (j,b)=>match tm j a with
   |true=>nG ops r (i+1) (i::fB ops o.dst a) (gS s o.dst undef) k
   |false=>match (ops[j]?).bind (·.dst)with
    |none=> .fail
    |some t=>bf (s.at_ t) fun g=>
     aA g (match b with
      |true=>kC P rec ((t,.bool true)::s) o fun v=>nG ops r (i+1) (fB ops o.dst a) (gS ((t,.bool true)::s) o.dst v) k
      |false=>nG ops r (i+1) (i::fB ops o.dst a) (gS ((t,.bool true)::s) o.dst undef) k)
      (match b with
        |true=>nG ops r (i+1) (i::fB ops o.dst a) (gS ((t,.bool false)::s) o.dst undef) k
        |false=>kC P rec ((t,.bool false)::s) o fun v=>nG ops r (i+1) (fB ops o.dst a) (gS ((t,.bool false)::s) o.dst v) k)
abbrev Hint:=List Nat×List Nat×List (Nat×List Nat)
def Ns:List (Nat×List Nat)->Nat->Option (List Nat)
 |[],_=>none
 |q::r,i=>match bV q.1 i with
  |true=>some q.2
  |false=>Ns r i
def Hint.out(G:Hint)(id:Nat)(s:Fr):Fr:=match Ns G.2.2 id with
 |some l=>s.au l
 |none=>s
def Bv{a:Type}(b:Nat)(k:Tk->M a):M a:=match b with
 |0=>k ⟨0,0,[]⟩
 |_=>(az (M.ret undef)).bind fun x=>k x.2
def jF{e:Type}(ops:Array Oper):List Oper->Nat->List Nat->Fr->List Tk->(Fr->List Tk->M e)->M e
 |[],_,_,s,a,k=>k s a.reverse
 |o::r,i,b,s,a,k=>match o.guard with
  |none=>match kind o.op with
   |0=>kC P rec s o fun v=>jF ops r (i+1) (fB ops o.dst b) (gS s o.dst v) (⟨0,0,[]⟩::a) k
   |_=>(az (kC P rec s o M.ret)).bind fun x=>jF ops r (i+1) (fB ops o.dst b) (gS s o.dst x.1) (x.2::a) k
  |some (j,c)=>match tm j b with
   |true=>Bv (kind o.op) fun d=>jF ops r (i+1) (i::fB ops o.dst b) (gS s o.dst undef) (d::a) k
   |false=>match (ops[j]?).bind (·.dst)with
    |none=> .fail
    |some t=>bf (s.at_ t) fun g=>
     aA g (match c with
      |true=>match kind o.op with
       |0=>kC P rec ((t,.bool true)::s) o fun v=>jF ops r (i+1) (fB ops o.dst b) (gS ((t,.bool true)::s) o.dst v) (⟨0,0,[]⟩::a) k
       |_=>(az (kC P rec ((t,.bool true)::s) o M.ret)).bind fun x=>jF ops r (i+1) (fB ops o.dst b) (gS ((t,.bool true)::s) o.dst x.1) (x.2::a) k
      |false=>Bv (kind o.op) fun d=>jF ops r (i+1) (i::fB ops o.dst b) (gS ((t,.bool true)::s) o.dst undef) (d::a) k)
      (match c with
        |true=>Bv (kind o.op) fun d=>jF ops r (i+1) (i::fB ops o.dst b) (gS ((t,.bool false)::s) o.dst undef) (d::a) k
        |false=>match kind o.op with
         |0=>kC P rec ((t,.bool false)::s) o fun v=>jF ops r (i+1) (fB ops o.dst b) (gS ((t,.bool false)::s) o.dst v) (⟨0,0,[]⟩::a) k
         |_=>(az (kC P rec ((t,.bool false)::s) o M.ret)).bind fun x=>jF ops r (i+1) (fB ops o.dst b) (gS ((t,.bool false)::s) o.dst x.1) (x.2::a) k)
def Bw(a:List Nat)(ops:Array Oper)(j:Nat)(b:Oper)(c:Tk)(k:Nat)(ok:Oper)(tk:Tk):Bool:=
 (a.getD k 0).testBit j||(!(oN ops b ok)&&(match fits (kind b.op) (kind ok.op)with
   |true=>true
   |false=> !(cz c tk)))
def Bx(a:List Nat)(ops:Array Oper)(j:Nat)(c:Oper)(b:Tk):Nat->List Oper->List Tk->Bool
 |k,ok::r,d::t=>Bw a ops j c b k ok d&&Bx a ops j c b (k+1) r t
 |_,_,_=>true
def vC(a:List Nat)(ops:Array Oper):Nat->List Oper->List Tk->Bool
 |j,c::r,b::t=>Bx a ops j c b (j+1) r t&&vC a ops (j+1) r t
 |_,_,_=>true
def dD{a:Type}(b:Bool)(m:M a):M a:=match b with
 |true=>m
 |false=> .fail
def GD{c:Type}(ops:Array Oper)(a:Bool)(s:Fr)(k:Fr->M c):M c:=
 match !a||AS ops with
 |true=>nG P rec ops ops.toList 0 [] s k
 |false=>match qT ops with
  |true=>jF P rec ops ops.toList 0 [] s [] fun d b=>dD (vC (lH ops.toList []) ops 0 ops.toList b) (k d)
  |false=> .fail
def xU{b:Type}(c:Fr->(Ex->Fr->M b)->M b)(k:Ex->Fr->M b):Ex->Fr->M b
 | .normal,a=>c a k
 | .ret,a=>k .ret a
 | .exit i,a=>k (.exit i) a
def Bz{b:Type}(id:Nat)(k:Ex->Fr->M b):Ex->Fr->M b
 | .normal,a=>k .normal a
 | .ret,a=>k .ret a
 | .exit i,a=>match bV i id with
   |true=>k .normal a
   |false=>k (.exit i) a
def Nt{c:Type}(a:Fr->M c)(k:Ex->Fr->M c):Ex->Fr->M c
 | .normal,b=>a b
 | .ret,b=>k .ret b
 | .exit i,b=>k (.exit i) b
def aU{b:Type}(a:Fr->(Ex->Fr->M b)->M b)(keys:List Nat):Nat->Fr->(Ex->Fr->M b)->M b
 |0,_,_=> .fail
 |f+1,s,k=>a s (Nt (fun c=>aU a keys f (c.au keys) k) k)
def ij{h:Type}(G:Hint)(Y:Nat):Code->Fr->(Ex->Fr->M h)->M h
 | .skip,s,k=>k .normal s
 | .label _,s,k=>k .normal s
 | .region _ f e,s,k=>GD P rec f e s fun d=>k .normal (d.au G.1)
 | .seq a b,s,k=>ij G Y a s (xU (fun d g=>ij G Y b d g) k)
 | .cond c a b,s,k=>bf (bB s c) fun v=>aA v (ij G Y a s k) (ij G Y b s k)
 | .block id c,s,k=>ij G Y c s (Bz id k)
 | .loop c,s,k=>aU (fun d g=>ij G Y c d g) s.keys Y s k
 | .exit id,s,k=>k (.exit id) (G.out id s)
 | .ret,s,k=>k .ret (s.au G.2.1)
 |_,_,_=> .fail
def eB:Code->List Bool->Code
 | .seq a b,t::p=>match t with
   |true=>eB b p
   |false=>eB a p
 | .cond _ a b,t::p=>match t with
   |true=>eB b p
   |false=>eB a p
 | .block _ c,_::p=>eB c p
 | .loop c,_::p=>eB c p
 |c,_=>c
def tp{d:Type}(G:Hint)(Y:Nat):Code->List Bool->(Ex->Fr->M d)->Ex->Fr->M d
 | .seq a b,t::p,k=>match t with
   |true=>tp G Y b p k
   |false=>tp G Y a p (xU (fun e f=>ij P rec G Y b e f) k)
 | .cond _ a b,t::p,k=>match t with
   |true=>tp G Y b p k
   |false=>tp G Y a p k
 | .block id c,_::p,k=>tp G Y c p (Bz id k)
 |_,_,k=>k
def vD{c:Type}(s:Fr):List ResultVar->(List Value->M c)->M c
 |[],k=>k []
 | .tmp t::r,k=>bf (s.at_ t) fun v=>vD s r fun b=>k (v::b)
 | .cell a t::r,k=>bf (s.at_ a) fun a=>Bs P t a fun v=>vD s r fun b=>k (v::b)
def ag(vs:List Value):M Value:= .ret (match vs with|[v]=>v|_=> .tuple vs.toArray)
def BA(a:List ResultVar):Ex->Fr->M Value
 | .normal,s=>vD P s a ag
 | .ret,s=>vD P s a ag
 | .exit _,_=> .fail
def BB:Nat->List Value->Fr
 |_,[]=>[]
 |i,v::r=>(i,v)::BB (i+1) r
end
def fH(P:Program)(f:FuncId):Code:=match P.funcs[f]? with
 |some a=>match a.body with
  |some c=>c
  |none=> .skip
 |none=> .skip
def GF(P:Program)(f:FuncId):List ResultVar:=match P.funcs[f]? with
 |some a=>a.results.toList
 |none=>[]
noncomputable def ax (P:Program) (gt:Nat->Hint) (Y:Nat) (rec:FuncId->Array Value->M Value) (f:FuncId) (args:Array Value):M Value:=match P.funcs[f]? with
 |some a=>match a.body with
  |some c=>match decide (args.size<=a.ntmps)&&decide (a.ntmps<1000)with
   |true=>inside (ij P rec (gt f) Y c (BB 0 args.toList) (BA P a.results.toList))
   |false=> .fail
  |none=> .fail
 |none=> .fail
noncomputable def o8 (kn:List FuncId) (P:Program) (gt:Nat->Hint) (Y:Nat):Nat->FuncId->Array Value->M Value
 |0,_,_=> .fail
 |d+1,f,args=>match kn.contains f with
  |true=>match qX f with
   |some k=>qY f k args.toList
   |none=>match decide (args.size=0)&&qW P f with
    |true=>(nk P KG).bind fun _=> .ret (.bool true)
    |false=> .fail
  |false=>ax P gt Y (o8 kn P gt Y d) f args
noncomputable def aj (P:Program) (gt:Nat->Hint) (Y:Nat):Nat->FuncId->Array Value->M Value:=o8 KN P gt Y
def lL(nt:Nat):Code->Bool
 | .region _ e _=>e.all fun o=>match o.dst with
   |some d=>d<nt&&d<1023
   |none=>true
 | .seq a b=>lL nt a&&lL nt b
 | .cond _ a b=>lL nt a&&lL nt b
 | .block _ c| .loop c=>lL nt c
 |_=>true
def kD(P:Program):Bool:=P.funcs.all fun a=>match a.body with
 |some c=>lL a.ntmps c
 |none=>true
theorem Sub.nil(a:S):Sub [] a:=fun t v h=>by cases h
theorem GG(d:Nat)(v:Value)(s:Fr)(t:Nat):Fr.at_ ((d,v)::s) t=if d=t then some v else s.at_ t:=by
 show(match bV d t with|true=>some v|false=>s.at_ t)=_;by_cases e:d=t
 ·subst e;rw[xp,if_pos rfl]
 ·have:bV d t=false:=Bool.eq_false_iff.2 fun q=>e (kO q);rw[this,if_neg e]
theorem Sub.cons{s:Fr}{b:S}(c:Sub s b){d:Nat}{v:Value}(h:b.get d=v):Sub ((d,v)::s) b:=fun t u a=>by
 rw[GG]at a;by_cases e:d=t
 ·rw[if_pos e]at a;cases a;rw[<-e];exact h
 ·rw[if_neg e]at a;exact c t u a
theorem Sub.put{s:Fr}{c:S}(g:Sub s c){nt:Nat}{a:Option Tmp}(hd:∀d,a=some d->d<nt∧d<1023)(v:Value):∃f,kt nt c a v=some f∧Sub (gS s a v) f:=by
 cases a with
 |none=>exact⟨c,rfl,g⟩
 |some d=>
  obtain⟨i,h⟩:=hd d rfl;refine⟨c.put d v,by unfold kt;simp[i,h],fun t u b=> ?_⟩;rw[S.oR _ _ _ _ h];have b:Fr.at_ ((d,v)::s) t=some u:=b;rw[GG]at b;by_cases e:d=t
  ·rw[if_pos e]at b;rw[if_pos e.symm];cases b;rfl
  ·rw[if_neg e]at b;rw[if_neg (fun q=>e q.symm)];exact g t u b
theorem GH(s:Fr):∀(G:List Nat) (t:Nat) (v:Value),(s.au G).at_ t=some v->s.at_ t=some v
 |[],t,v,h=>by cases h
 |g::G,t,v,h=>by
  unfold Fr.au at h;split at h
  ·rename_i u a;rw[GG]at h;by_cases e:g=t
   ·rw[if_pos e]at h;cases h;rw[<-e];exact a
   ·rw[if_neg e]at h;exact GH s G t v h
  ·exact GH s G t v h
theorem Sub.au{s:Fr}{a:S}(b:Sub s a)(G:List Nat):Sub (s.au G) a:=fun t v h=>b t v (GH s G t v h)
theorem Sub.out{s:Fr}{a:S}(b:Sub s a)(G:Hint)(id:Nat):Sub (G.out id s) a:=by
 unfold Hint.out;split
 ·exact b.au _
 ·exact b
section
variable {P:Program} {kn:List FuncId} {rec:FuncId->Array Value->M Value} (fI:∀f args h n v h1 n1 L,rec f args h n=some ⟨v,h1,n1,L⟩->ed (fun fuel=>cH P kn fuel f args) h n v h1 n1 L)
include fI
theorem GI{ops:Array Oper}{o:Oper}{s:Fr}{b:S}{c:Type}{k:Value->M c}{h:H}{n:Nat}{r:Out c}(d:gh o (gR ops b)=true)(e:Sub s b)(f:kC P rec s o k h n=some r):
 ∃v h1 a L1 L2,ed (fun fuel=>inside (fR P (cH P kn fuel) ops o b)) h n v h1 a L1∧k v h1 a=some ⟨r.val,r.h,r.n,L2⟩∧r.log=L1++L2:=by
 obtain⟨v,h1,a,L1,L2,j,i,g⟩:=abp fI e (acv f);refine⟨v,h1,a,L1,L2,j.map fun fuel=> ?_,i,g⟩;rw[MZ d];rfl
theorem Nu{ops:Array Oper}{o:Oper}{a:S}{h:H}{n:Nat}(b:gh o (gR ops a)=false):ed (fun fuel=>inside (fR P (cH P kn fuel) ops o a)) h n undef h n []:=by refine⟨0,fun fuel _=> ?_⟩;show inside (fR P (cH P kn fuel) ops o a) h n=_;unfold fR;rw[if_neg (by rw[b];exact amG)];rfl
theorem GJ{b:Type}{v:Value}{x y:M b}{h:H}{n:Nat}{r:Out b}(a:aA v x y h n=some r):(v= .bool true∧x h n=some r)∨(v= .bool false∧y h n=some r):=by
 unfold aA at a;split at a
 ·exact .inl ⟨rfl,a⟩
 ·exact .inr ⟨rfl,a⟩
 ·cases a
theorem xV {nt:Nat} {ops:Array Oper} {o:Oper} {l:List Oper} {c g:S} {h h1 h2:H} {n a n2:Nat} {v:Value} {L1 L2:List En} {y:S×List Tk} (e:ed (fun fuel=>inside (fR P (cH P kn fuel) ops o c)) h n v h1 a L1)
 (i:kt nt c o.dst v=some g) (d:ed (fun fuel=>iZ P (cH P kn fuel) nt ops l g) h1 a y h2 n2 L2):ed (fun fuel=>iZ P (cH P kn fuel) nt ops (o::l) c) h n (y.1,⟨n,a,L1⟩::y.2) h2 n2 (L1++L2):=by
 obtain⟨m,e⟩:=e;obtain⟨f1,d⟩:=d;refine⟨max m f1,fun fuel p=> ?_⟩;have k:=xI (e fuel jO);have j:=d fuel jO;show iZ P (cH P kn fuel) nt ops (o::l) c h n=_;unfold iZ;refine bX k ?_;simp only[i,te,nr];have:=bX (f:=fun y:S×List Tk=>M.ret (y.1,(⟨n,a,L1⟩:Tk)::y.2)) j (h2:=h2) (n2:=n2) (L2:=[]) (b:=(y.1,(⟨n,a,L1⟩:Tk)::y.2)) rfl;rw[bR]at this;exact this
theorem GK{j:Nat}:∀{l:List Nat},tm j l=true->j∈l
 |[],h=>by cases h
 |i::r,h=>by
  unfold tm at h;cases a:bV i j with
  |true=>rw[kO a];simp
  |false=>rw[a]at h;exact uZ _ (GK h)
def Idle(ops:Array Oper)(b:S)(a:List Nat):Prop:=∀j∈a,gR ops b j=none
theorem Idle.put{ops:Array Oper}{l f:S}{nt:Nat}{a:Option Tmp}{v:Value}:∀{g:List Nat},Idle ops l g->kt nt l a v=some f->Idle ops f (fB ops a g)
 |[],_,_=>fun j hj=>by cases hj
 |i::r,h,b=>by
  have m:Idle ops f (fB ops a r):=Idle.put (fun j hj=>h j (uZ _ hj)) b;have k:=h i jS
  have get:∀t,a≠some t->f.get t=l.get t:=by
   intro t c;cases a with
   |none=>simp only[kt,dx]at b;rw[b]
   |some d=>
    unfold kt at b;simp only at b;split at b
    ·rename_i hd;simp only[bW,decide_eq_true_eq]at hd;cases b;rw[S.oR _ _ _ _ hd.2,if_neg (fun e=>c (by rw[e]))]
    ·cases b
  have au:(∀t,(ops[i]?).bind (·.dst)=some t->a≠some t)->Idle ops f (i::fB ops a r):=by
   intro o j hj;rcases Z1.1 hj with rfl|hj
   ·unfold gR at k⊢;cases c:(ops[j]?).bind (·.dst)with
    |none=>rfl
    |some t=>rw[c]at k;simp only at k⊢;rw[get t (o t c)];exact k
   ·exact m j hj
  unfold fB;cases c:(ops[i]?).bind (·.dst)with
  |none=>exact au fun t h=>by rw[c]at h;cases h
  |some t=>
   cases a with
   |none=>exact au fun t h e=>by cases e
   |some d=>
    simp only;cases n:bV t d with
    |true=>exact m
    |false=>refine au fun p h=> ?_;rw[c]at h;cases h;rintro⟨⟩;rw[xp]at n;cases n
theorem Idle.add{ops:Array Oper}{f e:S}{nt:Nat}{o:Oper}{i:Nat}(g:ops[i]? =some o){b:List Nat}(h:Idle ops e b)(a:kt nt f o.dst undef=some e):Idle ops e (i::b):=by
 intro j hj;rcases Z1.1 hj with rfl|hj
 ·unfold gR;rw[g];simp only[Option.bind_some];cases hd:o.dst with
  |none=>rfl
  |some d=>
   rw[hd]at a;unfold kt at a;simp only at a;split at a
   ·rename_i c;simp only[bW,decide_eq_true_eq]at c;cases a;simp only;rw[S.oR _ _ _ _ c.2,if_pos rfl];rfl
   ·cases a
 ·exact h j hj
theorem acw{β:Type}{nt:Nat}{ops:Array Oper}:∀(l:List Oper) (_:∀o∈l,∀d,o.dst=some d->d<nt∧d<1023) (i:Nat) (_:∀q o,l[q]? =some o->ops[i+q]? =some o) (e:List Nat) (s:Fr) (c:S) (_:Idle ops c e) (k:Fr->M β) (h:H) (n:Nat) (r:Out β),Sub s c->nG P rec ops l i e s k h n=some r->
 ∃f y h1 z L1 L2,ed (fun fuel=>iZ P (cH P kn fuel) nt ops l c) h n y h1 z L1∧Sub f y.1∧k f h1 z=some ⟨r.val,r.h,r.n,L2⟩∧r.log=L1++L2:=by
 intro l
 induction l with
 |nil=>intro _ i _ e s c _ k h n r m a;exact⟨s,(c,[]),h,n,[],r.log,ed.of rfl,m,a,rfl⟩
 |cons o l ih=>
  intro hd i C e s c x k h n r m a;have L:=hd o jS;have K:∀o∈l,∀d,o.dst=some d->d<nt∧d<1023:=fun G ho=>hd G (by simp[ho]);have W:ops[i]? =some o:=by have:=C 0 o rfl;rwa[jd]at this
  have J:∀q G,l[q]? =some G->ops[i+1+q]? =some G:=fun q G hq=>by have:=C (q+1) G (by simpa using hq);rwa[show i+1+q=i+(q+1) by omega]
  have go:∀(s:Fr),Sub s c->gh o (gR ops c)=true->kC P rec s o (fun v=>nG P rec ops l (i+1) (fB ops o.dst e) (gS s o.dst v) k) h n=some r->
   ∃f y h1 z L1 L2,ed (fun fuel=>iZ P (cH P kn fuel) nt ops (o::l) c) h n y h1 z L1∧Sub f y.1∧k f h1 z=some ⟨r.val,r.h,r.n,L2⟩∧r.log=L1++L2:=by
   intro s m T a;obtain⟨v,h1,z,L1,L2,e1,e2,e3⟩:=GI fI T m a;obtain⟨Q,I,E⟩:=m.put L v;obtain⟨f,y,Z,R,L3,L4,e4,e5,e6,O⟩:=ih K _ J _ _ Q (Idle.put fI x I) k h1 z _ E e2;exact⟨f,_,Z,R,_,L4,xV fI e1 I e4,e5,e6,by rw[e3];simp only at O;rw[O,dY]⟩
  have p:∀(s:Fr),Sub s c->gh o (gR ops c)=false->nG P rec ops l (i+1) (i::fB ops o.dst e) (gS s o.dst undef) k h n=some r->
   ∃f y h1 z L1 L2,ed (fun fuel=>iZ P (cH P kn fuel) nt ops (o::l) c) h n y h1 z L1∧Sub f y.1∧k f h1 z=some ⟨r.val,r.h,r.n,L2⟩∧r.log=L1++L2:=by
   intro s m T a;obtain⟨Q,I,E⟩:=m.put L undef;obtain⟨f,y,Z,R,L3,L4,e4,e5,e6,O⟩:=ih K _ J _ _ Q (Idle.add fI W (Idle.put fI x I) I) k h n _ E a;exact⟨f,_,Z,R,_,L4,xV fI (Nu fI T) I e4,e5,e6,O⟩
  unfold nG at a;cases D:o.guard with
  |none=>rw[D]at a;exact go s m (by unfold gh;rw[D]) a
  |some jw=>
   obtain⟨j,B⟩:=jw;rw[D]at a;simp only at a;cases Y:tm j e with
   |true=>rw[Y]at a;refine p s m ?_ a;unfold gh;rw[D];simp only;rw[x j (GK fI Y)];rfl
   |false=>
   rw[Y]at a;simp only at a;cases U:(ops[j]?).bind (·.dst)with
   |none=>rw[U]at a;cases a
   |some t=>
    rw[U]at a;simp only at a;obtain⟨g,X,a⟩:=cJ a;have iG:=m t g X
    have N:∀b,g= .bool b->gR ops c j=some b:=fun b A=>by unfold gR;rw[U];simp only[iG,A]
    rcases GJ fI a with ⟨A,a⟩|⟨A,a⟩
    ·have u:Sub ((t,.bool true)::s) c:=m.cons (by rw[iG,A]);cases B with
     |true=>exact go _ u (by unfold gh;rw[D];simp only;rw[N _ A];rfl) a
     |false=>exact p _ u (by unfold gh;rw[D];simp only;rw[N _ A];rfl) a
    ·have u:Sub ((t,.bool false)::s) c:=m.cons (by rw[iG,A]);cases B with
     |true=>exact p _ u (by unfold gh;rw[D];simp only;rw[N _ A];rfl) a
     |false=>exact go _ u (by unfold gh;rw[D];simp only;rw[N _ A];rfl) a
end
theorem BC{d:Type}{a c:d}{h h2:H}{n n2:Nat}{L:List En}(b:(M.ret a) h n=some ⟨c,h2,n2,L⟩):c=a∧h2=h∧n2=n∧L=[]:=by simp only[M.ret,dx,Out.mk.injEq]at b;exact⟨b.1.symm,b.2.1.symm,b.2.2.1.symm,b.2.2.2.symm⟩
def Match:List Oper->List Tk->List Tk->Prop
 |[],[],[]=>True
 |o::l,c::a,t::b=>(kind o.op=0∨c=t)∧Match l a b
 |_,_,_=>False
theorem Match.get:∀{l:List Oper} {a c:List Tk},Match l a c->∀(i:Nat) (o:Oper) (t:Tk),l[i]? =some o->c[i]? =some t->∃b,a[i]? =some b∧(kind o.op=0∨b=t)
 |[],[],[],_,i,o,t,h,_=>by simp at h
 |o::l,b::a,t::c,h,0,f,u,e,d=>by simp at e d;subst e d;exact⟨b,rfl,h.1⟩
 |o::l,b::a,t::c,h,i+1,f,u,e,d=>by simpa using Match.get h.2 i f u (by simpa using e) (by simpa using d)
theorem acx{ops:Array Oper}{b:List Nat}{j:Nat}{f:Oper}{e:Tk}:∀(l:List Oper) (a:List Tk) (k:Nat),Bx b ops j f e k l a=true->∀i o t,l[i]? =some o->a[i]? =some t->Bw b ops j f e (k+i) o t=true:=by
 intro l
 induction l with
 |nil=>intro a k _ i o t h;simp at h
 |cons o l n=>
  intro a k h i m g d c;cases a with
  |nil=>simp at c
  |cons t a=>
   unfold Bx at h;simp only[bW]at h;cases i with
   |zero=>simp at d c;subst d c;exact h.1
   |succ i=>rw[show k+(i+1)=k+1+i by omega];exact n a (k+1) h.2 i m g (by simpa using d) (by simpa using c)
theorem acy{ops:Array Oper}{f:List Nat}:∀(l:List Oper) (a:List Tk) (j:Nat),vC f ops j l a=true->∀p q e c d b,p<q->l[p]? =some e->l[q]? =some c->a[p]? =some d->a[q]? =some b->Bw f ops (j+p) e d (j+q) c b=true:=by
 intro l
 induction l with
 |nil=>intro a j _ p q e c d b _ h;simp at h
 |cons o l n=>
  intro a j h p q e c d b r i m g k;cases a with
  |nil=>simp at g
  |cons t a=>
   unfold vC at h;simp only[bW]at h;cases q with
   |zero=>omega
   |succ q=>
    cases p with
    |zero=>simp at i g;subst i g;have:=acx l a (j+1) h.1 q c b (by simpa using m) (by simpa using k);rw[show j+(q+1)=j+1+q by omega,jd];exact this
    |succ p=>have:=n a (j+1) h.2 p q e c d b jO (by simpa using i) (by simpa using m) (by simpa using g) (by simpa using k);rw[show j+(q+1)=j+1+q by omega,show j+(p+1)=j+1+p by omega];exact this
theorem acz{i j:Nat}(h:fits i j=false):i≠0∧j≠0:=by unfold fits at h;simp only[Bool.or_eq_false_iff,beq_eq_false_iff_ne]at h;exact⟨h.1.1.1.1,h.1.1.1.2⟩
theorem acA{ops:Array Oper}{a b:List Tk}{n m:Nat}(x:nu n ops.toList b m)(j:Match ops.toList a b)(h:vC (lH ops.toList []) ops 0 ops.toList a=true):oO ops (lH ops.toList []) (tagged 0 b)=true:=by
 refine M0 ops.toList b n m 0 x (M3 ops) fun p q f e u t i o l y v=> ?_;obtain⟨d,B,g2⟩:=j.get p f u o y;obtain⟨c,A,g4⟩:=j.get q e t l v;have:=acy _ _ 0 h p q f e d c i o l B A;unfold Bw at this;simp only[oD,bW,Ao]at this;rcases this with g|⟨z,g⟩
 ·exact .inl g
 ·refine .inr ⟨?_,z⟩;cases k:fits (kind f.op) (kind e.op)with
  |true=>exact .inl rfl
  |false=>
   rw[k]at g;obtain⟨s,r⟩:=acz k;rcases g2 with g2|g2
   ·exact absurd g2 s
   ·rcases g4 with g4|g4
    ·exact absurd g4 r
    ·subst g2 g4;exact .inr (by rw[<-vw];simpa using g)
section
variable {P:Program} {kn:List FuncId} {rec:FuncId->Array Value->M Value} (fI:∀f args h n v h1 n1 L,rec f args h n=some ⟨v,h1,n1,L⟩->ed (fun fuel=>cH P kn fuel f args) h n v h1 n1 L)
include fI
theorem acB{β:Type}{nt:Nat}{ops:Array Oper}:∀(l:List Oper) (_:∀o∈l,∀d,o.dst=some d->d<nt∧d<1023) (i:Nat) (_:∀q o,l[q]? =some o->ops[i+q]? =some o) (e:List Nat) (s:Fr) (f:S) (_:Idle ops f e) (acc:List Tk) (k:Fr->List Tk->M β) (h:H) (n:Nat) (r:Out β),Sub s f->jF P rec ops l i e s acc k h n=some r->
 ∃p y m h1 A L1 L2,ed (fun fuel=>iZ P (cH P kn fuel) nt ops l f) h n y h1 A L1∧Sub p y.1∧k p (acc.reverse++m) h1 A=some ⟨r.val,r.h,r.n,L2⟩∧r.log=L1++L2∧Match l m y.2:=by
 intro l
 induction l with
 |nil=>intro _ i _ e s f _ acc k h n r u a;exact⟨s,(f,[]),[],h,n,[],r.log,ed.of rfl,u,by rw[bR];exact a,rfl,trivial⟩
 |cons o l ih=>
  intro hd i J e s f z acc k h n r u a;have R:=hd o jS;have Q:∀o∈l,∀d,o.dst=some d->d<nt∧d<1023:=fun U ho=>hd U (by simp[ho]);have u1:ops[i]? =some o:=by have:=J 0 o rfl;rwa[jd]at this
  have O:∀q U,l[q]? =some U->ops[i+1+q]? =some U:=fun q U hq=>by have:=J (q+1) U (by simpa using hq);rwa[show i+1+q=i+(q+1) by omega]
  have go:∀(s:Fr),Sub s f->gh o (gR ops f)=true->
   (match kind o.op with
     |0=>kC P rec s o fun v=>jF P rec ops l (i+1) (fB ops o.dst e) (gS s o.dst v) (⟨0,0,[]⟩::acc) k
     |_=>(az (kC P rec s o M.ret)).bind fun x=>jF P rec ops l (i+1) (fB ops o.dst e) (gS s o.dst x.1) (x.2::acc) k) h n=some r->
   ∃p y m h1 A L1 L2,ed (fun fuel=>iZ P (cH P kn fuel) nt ops (o::l) f) h n y h1 A L1∧Sub p y.1∧k p (acc.reverse++m) h1 A=some ⟨r.val,r.h,r.n,L2⟩∧r.log=L1++L2∧Match (o::l) m y.2:=by
   intro s u hw a;by_cases hk:kind o.op=0
   ·simp only[hk]at a;obtain⟨v,h1,A,L1,L2,e1,e2,W⟩:=GI fI hw u a;obtain⟨X,E,C⟩:=u.put R v;obtain⟨p,y,m,Z,Y,L3,L4,e4,e5,N,L,e8⟩:=ih Q _ O _ _ X (Idle.put fI z E) _ k h1 A _ C e2;refine⟨p,_,(⟨0,0,[]⟩:Tk)::m,Z,Y,_,L4,xV fI e1 E e4,e5, ?_,by rw[W];simp only at L;rw[L,dY], ?_⟩
    ·rw[Z0,dY]at N;exact N
    ·exact⟨.inl hk,e8⟩
   ·have a:((az (kC P rec s o M.ret)).bind fun x=>jF P rec ops l (i+1) (fB ops o.dst e) (gS s o.dst x.1) (x.2::acc) k) h n=some r:=by
     revert a;generalize kind o.op=kk at hk;intro a
     match kk,hk with
     |kk+1,_=>exact a
    obtain⟨c,hc,nc,Lc⟩:=r;obtain⟨x,h1,A,L1,L2,e1,e2,W⟩:=bind_some a;obtain⟨g1,g2⟩:=FK e1;obtain⟨v,u4,u3,u6,u5,q1,q2,q3⟩:=GI fI hw u g1;obtain⟨rfl,rfl,rfl,rfl⟩:=BC q2;simp only[bR]at q3;subst q3;obtain⟨X,E,C⟩:=u.put R x.1;obtain⟨p,y,m,Z,Y,L3,L4,e4,e5,N,L,e8⟩:=ih Q _ O _ _ X (Idle.put fI z E) _ k _ _ _ C e2;refine⟨p,_,x.2::m,Z,Y,_,L4,xV fI q1 E e4,e5, ?_,by rw[W];simp only at L;rw[L,dY], ?_⟩
    ·rw[Z0,dY]at N;exact N
    ·exact⟨.inr g2,e8⟩
  have B:∀(s:Fr),Sub s f->gh o (gR ops f)=false->(Bv (kind o.op) fun T=>jF P rec ops l (i+1) (i::fB ops o.dst e) (gS s o.dst undef) (T::acc) k) h n=some r->
   ∃p y m h1 A L1 L2,ed (fun fuel=>iZ P (cH P kn fuel) nt ops (o::l) f) h n y h1 A L1∧Sub p y.1∧k p (acc.reverse++m) h1 A=some ⟨r.val,r.h,r.n,L2⟩∧r.log=L1++L2∧Match (o::l) m y.2:=by
   intro s u hw a;obtain⟨c,hc,nc,Lc⟩:=r
   have a:∃T,(kind o.op=0∨T=⟨n,n,[]⟩)∧jF P rec ops l (i+1) (i::fB ops o.dst e) (gS s o.dst undef) (T::acc) k h n=some ⟨c,hc,nc,Lc⟩:=by
    revert a;generalize kind o.op=kk;intro a
    match kk,a with
    |0,a=>exact⟨_,.inl rfl,a⟩
    |kk+1,a=>have a:((az (M.ret undef)).bind fun x=>jF P rec ops l (i+1) (i::fB ops o.dst e) (gS s o.dst undef) (x.2::acc) k) h n=some ⟨c,hc,nc,Lc⟩:=a;obtain⟨x,h1,A,L1,L2,e1,e2,W⟩:=bind_some a;obtain⟨g1,g2⟩:=FK e1;obtain⟨-,rfl,rfl,rfl⟩:=BC g1;refine⟨x.2,.inr g2, ?_⟩;simp only[kQ]at W;rw[W];exact e2
   obtain⟨T,u0,a⟩:=a;obtain⟨X,E,C⟩:=u.put R undef;obtain⟨p,y,m,Z,Y,L3,L4,e4,e5,N,L,e8⟩:=ih Q _ O _ _ X (Idle.add fI u1 (Idle.put fI z E) E) _ k _ _ _ C a;refine⟨p,_,T::m,Z,Y,_,L4,xV fI (Nu fI hw) E e4,e5, ?_,by simp only at L;rw[L];simp, ?_⟩
   ·rw[Z0,dY]at N;exact N
   ·exact⟨u0,e8⟩
  unfold jF at a;cases K:o.guard with
  |none=>rw[K]at a;exact go s u (by unfold gh;rw[K]) a
  |some jw=>
   obtain⟨j,I⟩:=jw;rw[K]at a;simp only at a;cases hI:tm j e with
   |true=>rw[hI]at a;refine B s u ?_ a;unfold gh;rw[K];simp only;rw[z j (GK fI hI)];rfl
   |false=>
   rw[hI]at a;simp only at a;cases ht:(ops[j]?).bind (·.dst)with
   |none=>rw[ht]at a;cases a
   |some t=>
    rw[ht]at a;simp only at a;obtain⟨g,u2,a⟩:=cJ a;have iG:=u t g u2
    have hy:∀b,g= .bool b->gR ops f j=some b:=fun b G=>by unfold gR;rw[ht];simp only[iG,G]
    rcases GJ fI a with ⟨G,a⟩|⟨G,a⟩
    ·have D:Sub ((t,.bool true)::s) f:=u.cons (by rw[iG,G]);cases I with
     |true=>exact go _ D (by unfold gh;rw[K];simp only;rw[hy _ G];rfl) a
     |false=>exact B _ D (by unfold gh;rw[K];simp only;rw[hy _ G];rfl) a
    ·have D:Sub ((t,.bool false)::s) f:=u.cons (by rw[iG,G]);cases I with
     |true=>exact B _ D (by unfold gh;rw[K];simp only;rw[hy _ G];rfl) a
     |false=>exact go _ D (by unfold gh;rw[K];simp only;rw[hy _ G];rfl) a
theorem acD{I:Type}{nt:Nat}{ops:Array Oper}{c:Bool}(hd:∀o∈ops.toList,∀d,o.dst=some d->d<nt∧d<1023){s:Fr}{p:S}{k:Fr->M I}{h:H}{n:Nat}{r:Out I}(K:Sub s p)(m:GD P rec ops c s k h n=some r):
 ∃v J h1 i L1 L2,ed (fun fuel=>oP P (cH P kn fuel) nt ops c p) h n J h1 i L1∧Sub v J∧k v h1 i=some ⟨r.val,r.h,r.n,L2⟩∧r.log=L1++L2:=by
 have fin:∀{y:S×List Tk} {h1:H} {i:Nat} {L1:List En},ed (fun fuel=>iZ P (cH P kn fuel) nt ops ops.toList p) h n y h1 i L1->(nu n ops.toList y.2 i->(!c||(qT ops&&oO ops (lH ops.toList []) (tagged 0 y.2)))=true)->ed (fun fuel=>oP P (cH P kn fuel) nt ops c p) h n y.1 h1 i L1:=by
  intro y h1 i L1 z t
  have t:=t (by
   obtain⟨A,e⟩:=z
   exact abw (fun f a=>Loc.cH P kn A f a) _ _ _ _ _ _ _ _ (e A (ah _)))
  obtain⟨A,e⟩:=z;refine⟨A,fun fuel N=> ?_⟩;show oP P (cH P kn fuel) nt ops c p h n=_;unfold oP;have:=bX (f:=fun y:S×List Tk=>if(!c||(qT ops&&oO ops (lH ops.toList []) (tagged 0 y.2)))=true then M.ret y.1 else .fail) (e fuel N) (L2:=[]) (b:=y.1) (h2:=h1) (n2:=i) (by rw[if_pos t];rfl);rw[bR]at this;exact this
 unfold GD at m;cases l:(!c||AS ops)with
 |true=>
  simp only[l]at m;obtain⟨v,y,h1,i,L1,L2,z,G,u,E⟩:=acw fI ops.toList hd 0 (fun q o B=>by rw[fy,<-E0];exact B) [] s p (fun j C=>by cases C) k h n r K m;refine⟨v,y.1,h1,i,L1,L2,fin z fun x=> ?_,G,u,E⟩;simp only[oD,Ao]at l;rcases l with g|g
  ·rw[g];rfl
  ·obtain⟨Q,O⟩:=abA x g;rw[Q,O];simp
 |false=>
  simp only[l]at m;cases D:qT ops with
  |false=>simp only[D]at m;cases m
  |true=>
   simp only[D]at m;obtain⟨v,y,L,h1,i,L1,L2,z,G,u,E,R⟩:=acB fI ops.toList hd 0 (fun q o B=>by rw[fy,<-E0];exact B) [] s p (fun j C=>by cases C) [] _ h n r K m;simp only[List.reverse_nil,kQ]at u;cases t:vC (lH ops.toList []) ops 0 ops.toList L with
   |false=>rw[t]at u;cases u
   |true=>rw[t]at u;exact⟨v,y.1,h1,i,L1,L2,fin z fun x=>by rw[D,acA x R t];simp,G,u,E⟩
def acE(kn:List FuncId)(P:Program)(nt:Nat)(c:Code)(d:S)(h:H)(n:Nat)(x:Ex×S)(h1:H)(e:Nat)(L:List En):Prop:=∃b,∀a,b<=a->∀f,b<=f->dI P (cH P kn a) nt f c d h n=some ⟨x,h1,e,L⟩
def GL(kn:List FuncId)(P:Program)(nt:Nat)(c:Code)(l:S){a:Type}(k:Ex->Fr->M a)(h:H)(n:Nat)(r:Out a):Prop:=
 ∃e d b g f j i,acE kn P nt c l h n (e,b) g f j∧Sub d b∧k e d g f=some ⟨r.val,r.h,r.n,i⟩∧r.log=j++i
theorem acF{U:Type}{nt:Nat}{G:Hint}{Y:Nat}:∀(c:Code) (_:lL nt c=true) (s:Fr) (g:S) (k:Ex->Fr->M U) (h:H) (n:Nat) (r:Out U),Sub s g->ij P rec G Y c s k h n=some r->GL kn P nt c g k h n r:=by
 intro c
 induction c with
 |skip=>intro _ s g k h n r t j;exact⟨.normal,s,g,h,n,[],r.log,⟨1,fun m _ f q=>by match f,q with|f+1,_=>rfl⟩,t,j,rfl⟩
 |label l=>intro _ s g k h n r t j;exact⟨.normal,s,g,h,n,[],r.log,⟨1,fun m _ f q=>by match f,q with|f+1,_=>rfl⟩,t,j,rfl⟩
 |region id u5 u4=>
  intro hd s g k h n r t j;unfold lL at hd;rw[sG]at hd
  obtain⟨D,A,y,x,u,L2,⟨B,e1⟩,e2,e3,e4⟩:=acD fI (fun o ho d u2=>by
   have:=hd o (by simpa using ho);rw[u2]at this
   simpa using this) t j
  refine⟨.normal,D.au G.1,A,y,x,u,L2,⟨B+1,fun m p f q=> ?_⟩,e2.au G.1,e3,e4⟩
  match f,q with
  |f+1,_=>unfold dI;have:=bX (f:=fun g=>M.ret (Ex.normal,g)) (e1 m jO) (L2:=[]) (h2:=y) (n2:=x) (b:=(Ex.normal,A)) rfl;rw[bR]at this;exact this
 |seq a b L K=>
  intro hd s g k h n r t j;unfold lL at hd;simp only[bW]at hd;obtain⟨e,D,A,y,x,u,L2,⟨B,C⟩,I,z,E⟩:=L hd.1 s g _ h n r t j;cases e with
  |normal=>
   obtain⟨e,X,W,h3,n3,L3,L4,⟨f1,q1⟩,q2,Z,O⟩:=K hd.2 D A k y x _ I z;refine⟨e,X,W,h3,n3,u++L3,L4,⟨max B f1+1,fun m p f q=> ?_⟩,q2,Z,by rw[E];simp only at O;rw[O,dY]⟩
   match f,q with
   |f+1,_=>unfold dI;exact bX (C m jO f jO) (q1 m jO f jO)
  |ret=>
   refine⟨.ret,D,A,y,x,u,L2,⟨B+1,fun m p f q=> ?_⟩,I,z,E⟩
   match f,q with
   |f+1,_=>unfold dI;rw[<-bR u];exact bX (C m jO f jO) rfl
  |exit i=>
   refine⟨.exit i,D,A,y,x,u,L2,⟨B+1,fun m p f q=> ?_⟩,I,z,E⟩
   match f,q with
   |f+1,_=>unfold dI;rw[<-bR u];exact bX (C m jO f jO) rfl
 |cond c a b L K=>
  intro hd s g k h n r t j;unfold lL at hd;simp only[bW]at hd;obtain⟨v,hv,j⟩:=cJ j;have hc:=t.bB hv;rcases GJ fI j with ⟨rfl,j⟩|⟨rfl,j⟩
  ·obtain⟨e,D,A,y,x,u,L2,⟨B,C⟩,I,z,E⟩:=L hd.1 s g k h n r t j;refine⟨e,D,A,y,x,u,L2,⟨B+1,fun m p f q=> ?_⟩,I,z,E⟩
   match f,q with
   |f+1,_=>unfold dI;simp only[hc,if_true];exact C m jO f jO
  ·obtain⟨e,D,A,y,x,u,L2,⟨B,C⟩,I,z,E⟩:=K hd.2 s g k h n r t j;refine⟨e,D,A,y,x,u,L2,⟨B+1,fun m p f q=> ?_⟩,I,z,E⟩
   match f,q with
   |f+1,_=>unfold dI;simp only[hc,oF,if_false];exact C m jO f jO
 |block id c ih=>
  intro hd s g k h n r t j;unfold lL at hd;obtain⟨e,D,A,y,x,u,L2,⟨B,C⟩,I,z,E⟩:=ih hd s g _ h n r t j
  have fin:∀T:Ex,(∀m,B<=m->∀f,B<=f->dI P (cH P kn m) nt (f+1) (.block id c) g h n=some ⟨(T,A),y,x,u⟩)->k T D y x=some ⟨r.val,r.h,r.n,L2⟩->GL kn P nt (.block id c) g k h n r:=by
   intro T Q hk;refine⟨T,D,A,y,x,u,L2,⟨B+1,fun m p f q=> ?_⟩,I,hk,E⟩
   match f,q with
   |f+1,_=>exact Q m jO f jO
  cases e with
  |normal=>exact fin .normal (fun m p f q=>by unfold dI;rw[<-bR u];exact bX (C m p f q) rfl) z
  |ret=>exact fin .ret (fun m p f q=>by unfold dI;rw[<-bR u];exact bX (C m p f q) rfl) z
  |exit i=>
   cases R:bV i id with
   |true=>have N:i=id:=kO R;simp only[Bz,R]at z;exact fin .normal (fun m p f q=>by unfold dI;rw[<-bR u];exact bX (C m p f q) (by simp only[if_pos N];rfl)) z
   |false=>
    have N:¬i=id:=by rintro rfl;rw[xp]at R;cases R
    simp only[Bz,R]at z;exact fin (.exit i) (fun m p f q=>by unfold dI;rw[<-bR u];exact bX (C m p f q) (by simp only[if_neg N];rfl)) z
 |loop c ih=>
  intro hd s g k h n r t j;have u3:lL nt c=true:=by unfold lL at hd;exact hd
  have u0:∀(J:Nat) (keys:List Nat) (s:Fr) (g:S) (h:H) (n:Nat) (r:Out U),Sub s g->aU (fun g k1=>ij P rec G Y c g k1) keys J s k h n=some r->GL kn P nt (.loop c) g k h n r:=by
   intro J
   induction J with
   |zero=>intro keys s g h n r _ j;cases j
   |succ J u1=>
    intro keys s g h n r t j;unfold aU at j;obtain⟨e,D,A,y,x,u,L2,⟨B,C⟩,I,z,E⟩:=ih u3 s g _ h n r t j;cases e with
    |normal=>
     obtain⟨e,X,W,h3,n3,L3,L4,⟨f1,q1⟩,q2,Z,O⟩:=u1 keys _ A y x _ (I.au keys) z;refine⟨e,X,W,h3,n3,u++L3,L4,⟨max B f1+1,fun m p f q=> ?_⟩,q2,Z,by rw[E];simp only at O;rw[O,dY]⟩
     match f,q with
     |f+1,_=>unfold dI;exact bX (C m jO f jO) (q1 m jO f jO)
    |ret=>
     refine⟨.ret,D,A,y,x,u,L2,⟨B+1,fun m p f q=> ?_⟩,I,z,E⟩
     match f,q with
     |f+1,_=>unfold dI;rw[<-bR u];exact bX (C m jO f jO) rfl
    |exit i=>
     refine⟨.exit i,D,A,y,x,u,L2,⟨B+1,fun m p f q=> ?_⟩,I,z,E⟩
     match f,q with
     |f+1,_=>unfold dI;rw[<-bR u];exact bX (C m jO f jO) rfl
  exact u0 Y s.keys s g h n r t j
 |exit id=>intro _ s g k h n r t j;exact⟨.exit id,_,g,h,n,[],r.log,⟨1,fun m _ f q=>by match f,q with|f+1,_=>rfl⟩,t.out G id,j,rfl⟩
 |ret=>intro _ s g k h n r t j;exact⟨.ret,_,g,h,n,[],r.log,⟨1,fun m _ f q=>by match f,q with|f+1,_=>rfl⟩,t.au _,j,rfl⟩
 |rangeFunc _ _ _ _=>intro _ s g k h n r t j;cases j
 |scope _=>intro _ s g k h n r t j;cases j
 |goto _=>intro _ s g k h n r t j;cases j
 |refuse _=>intro _ s g k h n r t j;cases j
end
theorem acG{P:Program}{s:Fr}{j:S}(o:Sub s j):∀(l:List ResultVar) (k:List Value->M Value) (h:H) (n:Nat) (r:Out Value),vD P s l k h n=some r->∃vs h1 d L1 L2,jj P j l h n=some ⟨vs,h1,d,L1⟩∧k vs h1 d=some ⟨r.val,r.h,r.n,L2⟩∧r.log=L1++L2:=by
 intro l
 induction l with
 |nil=>intro k h n r b;exact⟨[],h,n,[],r.log,rfl,b,rfl⟩
 |cons x l m=>
  intro k h n r b;cases x with
  |tmp t=>obtain⟨v,f,b⟩:=cJ b;obtain⟨vs,h1,d,L1,L2,e,i,g⟩:=m _ h n r b;refine⟨v::vs,h1,d,L1,L2, ?_,i,g⟩;unfold jj;rw[o t v f,<-bR L1];exact bX e rfl
  |cell a t=>obtain⟨v,f,b⟩:=cJ b;obtain⟨c,I,G,J⟩:=r;obtain⟨u,h1,d,L1,L2,e,i,g⟩:=bind_some (Nl b);obtain⟨K,q,p⟩:=td e;obtain⟨rfl,_⟩:=Q1.load P t v _ _ _ _ _ _ q;rw[List.filter_eq_self.2 (fun x _=>by simp;omega)]at p;subst p;have e:=q;obtain⟨vs,B,A,z,E,D,C,y⟩:=m _ h1 d _ i;refine⟨u::vs,B,A,L1++z,E, ?_,C,by rw[g];simp only at y;rw[y,dY]⟩;unfold jj;rw[o a v f];refine bX e ?_;rw[<-bR z];exact bX D rfl
theorem acH:∀(l:List Value) (i:Nat) (s:S),i+l.length<1023->Sub (BB i l) (qV i l s):=by
 intro l
 induction l with
 |nil=>intro i s _;exact Sub.nil _
 |cons v l a=>intro i s h;simp only[cK]at h;show Sub ((i,v)::BB (i+1) l) (qV (i+1) l (s.put i v));refine(a (i+1) (s.put i v) jO).cons ?_;rw[MC _ _ _ _ jO,if_neg jO,S.oR _ _ _ _ jO,if_pos rfl]
theorem BD{P:Program}{kn:List FuncId}(hd:kD P=true){gt:Nat->Hint}{Y:Nat}:∀(d:Nat) (f:FuncId) (args:Array Value) (h:H) (n:Nat) (v:Value) (h1:H) (q:Nat) (L:List En),o8 kn P gt Y d f args h n=some ⟨v,h1,q,L⟩->ed (fun fuel=>cH P kn fuel f args) h n v h1 q L:=by
 intro d
 induction d with
 |zero=>intro f args h n v h1 q L a;cases a
 |succ d K=>
  intro f args h n v h1 q L a;unfold o8 at a;cases j:kn.contains f with
  |true=>
   rw[j]at a;simp only at a;cases g:qX f with
   |some k=>
    rw[g]at a;refine⟨1,fun fuel o=> ?_⟩
    match fuel,o with
    |fuel+1,o=>show cH P kn (fuel+1) f args h n=_;unfold cH;rw[if_pos j,g];exact a
   |none=>
   rw[g]at a;simp only at a;cases y:(decide (args.size=0)&&qW P f)with
   |false=>rw[y]at a;cases a
   |true=>
    rw[y]at a;refine⟨1,fun fuel o=> ?_⟩
    match fuel,o with
    |fuel+1,o=>show cH P kn (fuel+1) f args h n=_;unfold cH;rw[if_pos j,g];show(if(decide (args.size=0)&&qW P f)=true then _ else _:M Value) h n=_;rw[if_pos y];exact a
  |false=>
  rw[j]at a;simp only at a;unfold ax at a;cases l:P.funcs[f]? with
  |none=>rw[l]at a;cases a
  |some p=>
   rw[l]at a;simp only at a;cases s:p.body with
   |none=>rw[s]at a;cases a
   |some c=>
    rw[s]at a;simp only at a;cases b:(decide (args.size<=p.ntmps)&&decide (p.ntmps<1000))with
    |false=>rw[b]at a;cases a
    |true=>
     rw[b]at a;simp only at a;have m:=b;simp only[bW,decide_eq_true_eq]at b;obtain⟨L',a,N⟩:=td a
     have z:lL p.ntmps c=true:=by unfold kD at hd;rw[sG]at hd;have:=hd p (Array.mem_of_getElem? l);rw[s]at this;exact this
     obtain⟨e,J,D,A,x,L1,C,⟨O,R⟩,Q,B,I⟩:=acF K c z _ (qV 0 args.toList .nil) _ h n _ (acH _ 0 _ (by simp;omega)) a
     have fin:∀(G:e= .normal∨e= .ret),vD P J p.results.toList ag A x=some ⟨v,h1,q,C⟩->ed (fun fuel=>cH P kn fuel f args) h n v h1 q L:=by
      intro G r;obtain⟨T,W,U,Z,X,E,u,t⟩:=acG Q _ _ _ _ _ r;simp only at u t;unfold ag at u;obtain⟨rfl,rfl,rfl,rfl⟩:=BC u;rw[bR]at t;subst t;simp only at I;refine⟨O+1,fun fuel o=> ?_⟩
      match fuel,o with
      |fuel+1,o=>
       show cH P kn (fuel+1) f args h n=_;unfold cH;rw[if_neg (by rw[j];simp)];simp only[l,s];rw[if_pos m];rw[N,I];refine jy (bX (R fuel jO fuel jO) ?_);rcases G with rfl|rfl
       ·show((jj P D p.results.toList).bind _) A x=_;rw[<-bR C];exact bX E rfl
       ·show((jj P D p.results.toList).bind _) A x=_;rw[<-bR C];exact bX E rfl
     cases e with
     |normal=>exact fin (.inl rfl) B
     |ret=>exact fin (.inr rfl) B
     |exit i=>cases B
theorem BE{P:Program}(hd:kD P=true){gt:Nat->Hint}{Y:Nat}(d:Nat)(f:FuncId)(args:Array Value)(h:H)(n:Nat)(v:Value)(h1:H)(a:Nat)(L:List En)(e:aj P gt Y d f args h n=some ⟨v,h1,a,L⟩):ed (fun fuel=>cH P KN fuel f args) h n v h1 a L:=BD hd d f args h n v h1 a L e
def af{c:Type}(W:Nat->Prop)(n0:Nat)(m:M c)(h:H)(n:Nat)(Q:c->H->Nat->Prop):Prop:=
 ∃a d b L,m h n=some ⟨a,d,b,L⟩∧n<=b∧(∀e∈L,e.wr=true->n0<=e.b∨W e.b)∧Q a d b
theorem af.mono{c:Type}{W:Nat->Prop}{n0:Nat}{m:M c}{h:H}{n:Nat}{Q Q':c->H->Nat->Prop}(x:af W n0 m h n Q)(e:∀a h1 b,n<=b->Q a h1 b->Q' a h1 b):af W n0 m h n Q':=by obtain⟨a,h1,b,L,i,d,g,f⟩:=x;exact⟨a,h1,b,L,i,d,g,e _ _ _ d f⟩
section
variable {α β:Type} {W:Nat->Prop} {n0:Nat} {m:M α} {k:α->M β} {h h1:H} {n n1:Nat} {a:α} {L:List En} {Q:β->H->Nat->Prop}
theorem af.step(e:m h n=some ⟨a,h1,n1,L⟩)(p:n<=n1)(f:∀e∈L,e.wr=true->n0<=e.b∨W e.b)(x:af W n0 (k a) h1 n1 Q):af W n0 (m.bind k) h n Q:=by
 obtain⟨b,g,c,o,l,r,j,i⟩:=x;refine⟨b,g,c,L++o,bX e l,jO,fun x d=> ?_,i⟩;rcases Fb.1 d with q|q
 ·exact f x q
 ·exact j x q
theorem af.Nv(e:m h n=some ⟨a,h1,n1,L⟩)(r:n1=n)(x:af W n0 (m.bind k) h n Q):af W n0 (k a) h1 n1 Q:=by obtain⟨b,g,d,y,o,t,l,j⟩:=x;obtain⟨u,s,q,v,p,c,i,rfl⟩:=bind_some o;rw[e]at c;simp only[dx,Out.mk.injEq]at c;obtain⟨rfl,rfl,rfl,rfl⟩:=c;exact⟨b,g,d,p,i,jO,fun x f=>l x (Fb.2 (.inr f)),j⟩
theorem af.iff(e:m h n=some ⟨a,h1,n,L⟩)(b:∀e∈L,e.wr=true->n0<=e.b∨W e.b):af W n0 (m.bind k) h n Q↔af W n0 (k a) h1 n Q:=
 ⟨af.Nv e rfl,af.step e (ah _) b⟩
theorem af.aB{Q':α->H->Nat->Prop}(x:af W n0 m h n Q'):af W n0 (inside m) h n Q':=by obtain⟨a,h1,n1,L,g,f,d,c⟩:=x;exact⟨a,h1,n1,_,jy g,f,fun e b=>d e (List.mem_filter.1 b).1,c⟩
end
section
variable {β:Type} {W:Nat->Prop} {n0:Nat} {h h1:H} {n n1:Nat} {Q:β->H->Nat->Prop} {QV:Value->H->Nat->Prop}
theorem kE(a:β):af W n0 (M.ret a) h n Q↔Q a h n:=by
 constructor
 ·rintro⟨b,i,g,L,f,k,j,d⟩;obtain⟨rfl,rfl,rfl,rfl⟩:=BC f;exact d
 ·intro x;exact⟨a,h,n,[],rfl,ah _,fun e c=>(nomatch c),x⟩
theorem Nw:af W n0 (ag []) h n QV↔QV (.tuple #[]) h n:=kE _
theorem k8(v:Value):af W n0 (ag [v]) h n QV↔QV v h n:=kE _
theorem xW(v w:Value):af W n0 (ag [v,w]) h n QV↔QV (.tuple #[v,w]) h n:=kE _
theorem Ny(v w u:Value):af W n0 (ag [v,w,u]) h n QV↔QV (.tuple #[v,w,u]) h n:=kE _
theorem tq{b:Type}(a:b)(k:b->M β):bf (some a) k=k a:=rfl
theorem Nz(b:Bool)(x y:M β):af W n0 (aA (.bool b) x y) h n Q↔if b=true then af W n0 x h n Q else af W n0 y h n Q:=by
 cases b
 ·rw[if_neg amG];exact Iff.rfl
 ·rw[if_pos rfl];exact Iff.rfl
theorem NA(x y:M β):aA (.bool true) x y=x:=rfl
theorem NC(x y:M β):aA (.bool false) x y=y:=rfl
section
variable {β:Type} (k:Value->M β)
theorem ND(a:Addr):an (.pointer (some a)) k=k (.pointer (some a)):=rfl
theorem NF(f:FuncId)(a b:Array Value):an (.func (.func f) a b) k=k (.func (.func f) a b):=rfl
theorem qm(f:IntKind->Int->Int->Value)(j:IntKind)(a b:Int):kz f (.int j a) (.int j b) k=k (f j a b):=by unfold kz;simp only[A4]
theorem NG(j:IntKind)(a b:Int):aq (.int j a) (.int j b) k=k (.int j (j.wrap (a+b))):=by show kz (fun k a b=> .int k (nv k (AX a b))) (.int j a) (.int j b) k=_;rw[qm,ky,M4]
theorem NH(j:IntKind)(a b:Int):cL (.int j a) (.int j b) k=k (.int j (j.wrap (a-b))):=by unfold cL;rw[qm,ky,AZ]
theorem NI(j:IntKind)(a b:Int):dK (.int j a) (.int j b) k=k (.int j (j.wrap (a*b))):=by unfold dK;rw[qm,ky,M5]
theorem NJ(j:IntKind)(a b:Int):cD (.int j a) (.int j b) k=k (.bool (a==b)):=by show kz (fun _ a b=> .bool (oV a b)) (.int j a) (.int j b) k=_;rw[qm,q9]
theorem NK(j:IntKind)(a b:Int):fA (.int j a) (.int j b) k=k (.bool (a !=b)):=by show kz (fun _ a b=> .bool (!oV a b)) (.int j a) (.int j b) k=_;rw[qm,q9];rfl
theorem NL(j:IntKind)(a b:Int):eg (.int j a) (.int j b) k=k (.bool (decide (a<b))):=by unfold eg;rw[qm,qc]
theorem NM(j:IntKind)(a b:Int):mf (.int j a) (.int j b) k=k (.bool (decide (a<=b))):=by unfold mf;rw[qm,A1]
theorem NN(j:IntKind)(a b:Int):iH (.int j a) (.int j b) k=k (.bool (decide (b<a))):=by unfold iH;rw[qm,qc]
theorem NO(j:IntKind)(a b:Int):qj (.int j a) (.int j b) k=k (.bool (decide (b<=a))):=by unfold qj;rw[qm,A1]
theorem NP(j:IntKind)(a b:Int)(c:b≠0):jm (.int j a) (.int j b) k=k (.int j (j.wrap (a.tdiv b))):=by unfold jm;simp only[A4,q9,beq_eq_false_iff_ne.2 c,ky]
theorem NQ(j:IntKind)(a b:Int)(c:b≠0):nD (.int j a) (.int j b) k=k (.int j (a.tmod b)):=by unfold nD;simp only[A4,q9,beq_eq_false_iff_ne.2 c]
theorem GM{f:Nat->Nat->Nat}{g:(w:Nat)->BitVec w->BitVec w->BitVec w}(c:∀w x y,(g w x y).toNat=f x.toNat y.toNat)(j:IntKind)(a b:Int)(e:0<=a)(d:0<=b):ti f (.int j a) (.int j b) k=k (.int j (j.wrap (g j.bits (bY j.bits a) (bY j.bits b)).toNat)):=by obtain⟨p,rfl⟩:∃p:Nat,a=gQ p:=⟨a.toNat,(lG e).symm⟩;obtain⟨q,rfl⟩:∃q:Nat,b=gQ q:=⟨b.toNat,(lG d).symm⟩;unfold ti;simp only[A4,ky,c,(rq p q).1,(rq p q).2];rfl
theorem NS(j:IntKind)(a b:Int)(d:0<=a)(c:0<=b):xN (.int j a) (.int j b) k=k (.int j (j.wrap (bY j.bits a&&&bY j.bits b).toNat)):=GM k (g:=fun _ x y=>x&&&y) (fun _ _ _=>E6 ..) j a b d c
theorem NT(j:IntKind)(a b:Int)(d:0<=a)(c:0<=b):xO (.int j a) (.int j b) k=k (.int j (j.wrap (bY j.bits a|||bY j.bits b).toNat)):=GM k (g:=fun _ x y=>x|||y) (fun _ _ _=>amP ..) j a b d c
theorem NU(j:IntKind)(a b:Int)(d:0<=a)(c:0<=b):nC (.int j a) (.int j b) k=k (.int j (j.wrap (bY j.bits a^^^bY j.bits b).toNat)):=GM k (g:=fun _ x y=>x^^^y) (fun _ _ _=>amQ ..) j a b d c
theorem NW(j c:IntKind)(a b:Int)(e:0<=a)(d:0<=b):mg (.int j a) (.int c b) k=k (.int j (j.wrap (a*2^(min b.toNat j.bits)))):=by obtain⟨p,rfl⟩:∃p:Nat,a=gQ p:=⟨a.toNat,(lG e).symm⟩;obtain⟨q,rfl⟩:∃q:Nat,b=gQ q:=⟨b.toNat,(lG d).symm⟩;unfold mg;simp only[ky];congr 3
theorem NX(j c:IntKind)(a b:Int)(e:0<=a)(d:0<=b):oZ (.int j a) (.int c b) k=k (.int j (a.fdiv (2^(min b.toNat j.bits)))):=by obtain⟨p,rfl⟩:∃p:Nat,a=gQ p:=⟨a.toNat,(lG e).symm⟩;obtain⟨q,rfl⟩:∃q:Nat,b=gQ q:=⟨b.toNat,(lG d).symm⟩;unfold oZ;simp only;congr 2;show((p/2^(min q j.bits):Nat):Int)=((p:Nat):Int).fdiv (2^min q j.bits);have f:(2:Int)^(min q j.bits)=((2^(min q j.bits):Nat):Int):=jS;rw[f,LJ _ (oI _),<-amR]
theorem vE(a b:List UInt8)(h:a.length+b.length<=9223372036854775807):aq (.string ⟨a.toArray⟩) (.string ⟨b.toArray⟩) k=k (.string ⟨(a++b).toArray⟩):=by unfold aq;simp only[oW];rw[show bG (gD a.length b.length) 9223372036854775807=true from lF h];simp only[FM]
theorem vF(a b:List UInt8):cD (.string ⟨a.toArray⟩) (.string ⟨b.toArray⟩) k=k (.bool (decide (a=b))):=by unfold cD;simp only[A2]
theorem GN(a b:List UInt8):fA (.string ⟨a.toArray⟩) (.string ⟨b.toArray⟩) k=k (.bool (!decide (a=b))):=by unfold fA;simp only[A2]
theorem NY(a b:Bool):Bf (.bool a) (.bool b) k=k (.bool (a==b)):=by cases a<;>cases b<;>rfl
theorem NZ(a b:Bool):xP (.bool a) (.bool b) k=k (.bool (a !=b)):=by cases a<;>cases b<;>rfl
theorem GO(b:Bool):dC (.bool b) k=k (.bool (!b)):=rfl
theorem N0(j:IntKind)(a:Int):Bj (.int j a) k=k (.int j (j.wrap (0-a))):=by unfold Bj;simp only[ky,AZ]
theorem N2(b j:IntKind)(a:Int):dm b (.int j a) k=k (.int b (b.wrap a)):=by unfold dm;simp only[ky]
theorem N3(s:ByteArray):Nf (.string s) k=k (.string s):=rfl
theorem N4(a:Option Addr)(n c:Nat):bx (.slice a n c) k=k (.int .i64 (n:Int)):=rfl
theorem xX(l:List UInt8):bJ (.string ⟨l.toArray⟩) k=k (.int .i64 (l.length:Int)):=by unfold bJ;simp only[oW];rfl
theorem N5(j c:IntKind)(a b:Int):kY (.int j a) (.int c b) k=k (.int j (if b<a then b else a)):=by unfold kY;simp only[qc];by_cases h:b<a<;>simp only[h,decide_true,decide_false,if_true,if_false]
theorem N6(j c:IntKind)(a b:Int):o0 (.int j a) (.int c b) k=k (.int j (if a<b then b else a)):=by unfold o0;simp only[qc];by_cases h:a<b<;>simp only[h,decide_true,decide_false,if_true,if_false]
theorem N7(b:Bool)(x y:Value):F5 (.bool b) x y k=k (if b=true then x else y):=by cases b<;>rfl
theorem N8(a:Addr):rk (.pointer (some a)) (.pointer none) k=k (.bool false):=rfl
theorem N9:rk (.pointer none) (.pointer none) k=k (.bool true):=rfl
theorem N'(a:Addr):xQ (.pointer (some a)) (.pointer none) k=k (.bool true):=rfl
theorem Oa:xQ (.pointer none) (.pointer none) k=k (.bool false):=rfl
theorem Ob(a:Addr)(n c m d:Nat):xR (.slice (some a) n c) (.slice none m d) k=k (.bool false):=rfl
theorem Oc(n c m d:Nat):xR (.slice none n c) (.slice none m d) k=k (.bool true):=rfl
theorem Od(a:Addr)(n c m d:Nat):xS (.slice (some a) n c) (.slice none m d) k=k (.bool true):=rfl
theorem Oe(n c m d:Nat):xS (.slice none n c) (.slice none m d) k=k (.bool false):=rfl
theorem Of(f:Fn)(a b:Array Value):F3 (.func f a b) .nilFunc k=k (.bool false):=rfl
theorem Og(f:Fn)(a b:Array Value):F4 (.func f a b) .nilFunc k=k (.bool true):=rfl
theorem Oh(K b off:Nat):ay K (.pointer (some ⟨b,off,none⟩)) k=k (.pointer (some ⟨b,off+K,none⟩)):=rfl
theorem GP(l:List Value)(i:Nat):(match rh l i with
 |some v=>k v
 |none=>M.fail)=bf l[i]? k:=by
 rw[A8];cases l[i]? <;>rfl
theorem Oi(K:Nat)(l:List Value):F6 K (.agg l.toArray) k=bf l[K]? k:=GP k l K
theorem Oj(K m:Nat)(l:List Value):F7 K m (.agg l.toArray) k=k (.agg ((l.drop K).take m).toArray):=rfl
theorem Ol(l:List Value)(i:Nat):aV (.tuple l.toArray) i k=bf l[i]? k:=GP k l i
theorem bI(a b:Value):aV (.tuple #[a,b]) 0 k=k a:=rfl
theorem ext1(a b:Value):aV (.tuple #[a,b]) 1 k=k b:=rfl
theorem xY{i:Int}{n:Nat}(h1:i<n){j:Nat}(e:i=gQ j):bG (fz j) n=true:=by subst e;exact lF (Int.ofNat_lt.1 h1)
theorem On(b off n c:Nat)(j:IntKind)(i:Int)(a:0<=i)(h1:i<n):bM (.slice (some ⟨b,off,none⟩) n c) (.int j i) k=k (.pointer (some ⟨b,off+i.toNat,none⟩)):=by obtain⟨p,rfl⟩:∃p:Nat,i=gQ p:=⟨i.toNat,(lG a).symm⟩;unfold bM;simp only[xY h1 rfl];rfl
theorem GQ(sz b off n c:Nat)(j:IntKind)(i:Int)(a:0<=i)(h1:i<n):mh sz (.slice (some ⟨b,off,none⟩) n c) (.int j i) k=k (.pointer (some ⟨b,off+i.toNat*sz,none⟩)):=by obtain⟨p,rfl⟩:∃p:Nat,i=gQ p:=⟨i.toNat,(lG a).symm⟩;unfold mh;simp only[xY h1 rfl];rfl
theorem GR(n b off:Nat)(j:IntKind)(i:Int)(a:0<=i)(h1:i<n):gG n (.pointer (some ⟨b,off,none⟩)) (.int j i) k=k (.pointer (some ⟨b,off+i.toNat,none⟩)):=by obtain⟨p,rfl⟩:∃p:Nat,i=gQ p:=⟨i.toNat,(lG a).symm⟩;unfold gG;simp only[xY h1 rfl];rfl
theorem Oo(n sz b off:Nat)(j:IntKind)(i:Int)(a:0<=i)(h1:i<n):Bo n sz (.pointer (some ⟨b,off,none⟩)) (.int j i) k=k (.pointer (some ⟨b,off+i.toNat*sz,none⟩)):=by obtain⟨p,rfl⟩:∃p:Nat,i=gQ p:=⟨i.toNat,(lG a).symm⟩;unfold Bo;simp only[xY h1 rfl];rfl
theorem Oq(n:Nat)(l:List Value)(j:IntKind)(i:Int)(a:0<=i)(h1:i<n):vx n (.agg l.toArray) (.int j i) k=bf l[i.toNat]? k:=by obtain⟨p,rfl⟩:∃p:Nat,i=gQ p:=⟨i.toNat,(lG a).symm⟩;unfold vx;simp only[xY h1 rfl];exact GP k l p
theorem vG(l:List UInt8)(j:IntKind)(i:Int)(g:0<=i)(h1:i<l.length):cP (.string ⟨l.toArray⟩) (.int j i) k=k (.int .u8 ((l.getD i.toNat 0).toNat:Int)):=by
 obtain⟨p,rfl⟩:∃p:Nat,i=gQ p:=⟨i.toNat,(lG g).symm⟩;have f:p<l.length:=Int.ofNat_lt.1 h1
 have e:qe l p=some (l.getD p 0):=by
  cases b:qe l p with
  |some c=>rw[(FN _ _ _ b).2]
  |none=>
   exfalso
   have:∀(l:List UInt8) (p:Nat),p<l.length->qe l p≠none:=by
    intro l
    induction l with
    |nil=>intro p h;simp at h
    |cons a l d=>
     intro p h e;cases p with
     |zero=>cases e
     |succ p=>exact d p (by simpa using h) e
   exact this l p f b
 unfold cP;simp only[e];rfl
theorem GS(l:List UInt8)(lo c:Option Value){a b:Nat}(e:qk lo 0=some a)(d:qk c l.length=some b)(h1:a<=b)(h2:b<=l.length):bN (.string ⟨l.toArray⟩) lo c k=k (.string ⟨((l.drop a).take (b-a)).toArray⟩):=by unfold bN;simp only[e,oW,d,lF h1,lF h2];rfl
theorem BF(j:IntKind){i:Int}(d:Nat)(h:0<=i):qk (some (.int j i)) d=some i.toNat:=by obtain⟨p,rfl⟩:∃p:Nat,i=gQ p:=⟨i.toNat,(lG h).symm⟩;rfl
theorem xZ(l:List UInt8)(c:IntKind)(j:Int)(d:0<=j)(h1:j<=l.length):bN (.string ⟨l.toArray⟩) none (some (.int c j)) k=k (.string ⟨(l.take j.toNat).toArray⟩):=by rw[GS k l none _ (a:=0) (b:=j.toNat) rfl (BF c _ d) jO jO];simp
theorem ya(l:List UInt8)(c:IntKind)(i:Int)(d:0<=i)(h1:i<=l.length):bN (.string ⟨l.toArray⟩) (some (.int c i)) none k=k (.string ⟨(l.drop i.toNat).toArray⟩):=by rw[GS k l _ none (a:=i.toNat) (b:=l.length) (BF c _ d) rfl jO jO];rw[E' jS]
theorem yc(l:List UInt8)(b a:IntKind)(i j:Int)(c:0<=i)(h1:i<=j)(h2:j<=l.length):bN (.string ⟨l.toArray⟩) (some (.int b i)) (some (.int a j)) k=k (.string ⟨((l.drop i.toNat).take (j.toNat-i.toNat)).toArray⟩):=
 GS k l _ _ (BF b _ c) (BF a _ jO) jO jO
theorem GU(z:List Value)(ps:List (Nat×Nat×Value)):bo z ps k=bf (fG z ps) fun cs=>k (.agg cs.toArray):=by unfold bo;cases fG z ps<;>rfl
theorem GV(cs:List Value):fG cs []=some cs:=rfl
theorem acI(cs:List Value)(q:Nat×Nat×Value)(r:List (Nat×Nat×Value)):fG cs (q::r)=match bV (fF (di q.2.2)) q.2.1 with
 |true=>match bG (gD q.1 (fF (di q.2.2))) (fF cs)with
  |true=>fG (oY cs q.1 (di q.2.2)) r
  |false=>none
 |false=>none:=rfl
theorem Ot{cs vs:List Value}{off sz:Nat}{v:Value}{r:List (Nat×Nat×Value)}(i:di v=vs):fG cs ((off,sz,v)::r)=if vs.length=sz then(if off+sz<=cs.length then fG (cs.take off++(vs++cs.drop (off+sz))) r else none)else none:=by
 have f:∀(off:Nat) (cs l:List Value),off+l.length<=cs.length->oY cs off l=cs.take off++(l++cs.drop (off+l.length)):=by
  have g:∀(l cs:List Value),l.length<=cs.length->over l cs=l++cs.drop l.length:=by
   intro l
   induction l with
   |nil=>intro cs _;simp[over]
   |cons x l b=>
    intro cs h;cases cs with
    |nil=>simp at h
    |cons c cs=>show x::over l cs=_;rw[b cs (by simpa using h)];simp
  intro off
  induction off with
  |zero=>
   intro cs l h;have e:oY cs 0 l=over l cs:=by cases cs<;>rfl
   rw[e,g l cs jO];simp
  |succ off b=>
   intro cs l h;cases cs with
   |nil=>simp at h
   |cons c cs=>show c::oY cs off l=_;rw[b cs l (by simp at h;omega),show off+1+l.length=off+l.length+1 by omega];simp
 subst i;rw[acI];simp only[me];by_cases h1:(di v).length=sz
 ·rw[if_pos h1];subst h1;rw[xp];simp only;by_cases a:off+(di v).length<=cs.length
  ·rw[if_pos a,show bG (gD off (di v).length) cs.length=true from lF a,f _ _ _ a]
  ·rw[if_neg a]
   have:bG (gD off (di v).length) cs.length=false:=by
    cases d:bG (gD off (di v).length) cs.length with
    |false=>rfl
    |true=>exact absurd (gC d) a
   rw[this]
 ·rw[if_neg h1]
  have:bV (di v).length sz=false:=by
   cases d:bV (di v).length sz with
   |false=>rfl
   |true=>exact absurd (kO d) h1
  rw[this]
theorem yf{cs:List Value}{off:Nat}{v:Value}{r:List (Nat×Nat×Value)}(a:di v=[v]):fG cs ((off,1,v)::r)=if off<cs.length then fG (cs.set off v) r else none:=by
 rw[Ot a,if_pos (show [v].length=1 from rfl)];by_cases h:off<cs.length
 ·rw[if_pos h,if_pos jO];congr 1;rw[List.set_eq_take_append_cons_drop,if_pos h];rfl
 ·rw[if_neg h,if_neg jO]
section
variable (cs:List Value) (off:Nat) (r:List (Nat×Nat×Value))
theorem GW(j:IntKind)(x:Int):fG cs ((off,1,.int j x)::r)=if off<cs.length then fG (cs.set off (.int j x)) r else none:=yf rfl
theorem Ou(b:Bool):fG cs ((off,1,.bool b)::r)=if off<cs.length then fG (cs.set off (.bool b)) r else none:=yf rfl
theorem Ov(s:ByteArray):fG cs ((off,1,.string s)::r)=if off<cs.length then fG (cs.set off (.string s)) r else none:=yf rfl
theorem Ow(a:Option Addr)(n c:Nat):fG cs ((off,1,.slice a n c)::r)=if off<cs.length then fG (cs.set off (.slice a n c)) r else none:=yf rfl
theorem Oy(a:Option Addr):fG cs ((off,1,.pointer a)::r)=if off<cs.length then fG (cs.set off (.pointer a)) r else none:=yf rfl
theorem GX(sz:Nat)(vs:List Value):fG cs ((off,sz,.agg vs.toArray)::r)=if vs.length=sz then(if off+sz<=cs.length then fG (cs.take off++(vs++cs.drop (off+sz))) r else none)else none:=Ot rfl
end
end
theorem get_eq(h:H)(i:Nat)(x:Option AB):(h.set i x).get i=x:=by rw[H.jk,if_pos rfl]
theorem aw(h:H){i j:Nat}(x:Option AB)(e:j≠i):(h.set i x).get j=h.get j:=by rw[H.jk,if_neg e]
theorem BG{c:Type}{m:M c}{h h1:H}{n n1:Nat}{a:c}{L:List En}(e:m h n=some ⟨a,h1,n1,L⟩)(f:∀e∈L,e.wr=false):∃L',inside m h n=some ⟨a,h1,n1,L'⟩∧∀e∈L',e.wr=true->n0<=e.b∨W e.b:=
 ⟨_,jy e,fun x d b=>by rw[f x (List.mem_filter.1 d).1]at b;cases b⟩
theorem vH(e:TypeId)(cs:List Value)(h:H)(n:Nat):cS e cs h n=some ⟨n,h.set n (some ⟨e,true,cs⟩),n+1,[]⟩:=by unfold cS;rw[if_pos (dO n)]
theorem tr{b:Type}{m:M b}{a:b}{k:b->M β}{h1:H}{n1:Nat}(e:m h n=some ⟨a,h1,n1,[]⟩)(d:n<=n1)(x:af W n0 (k a) h1 n1 Q):af W n0 ((inside m).bind k) h n Q:=
 af.step (jy e) d (fun x c=>by simp at c) x
theorem jG{a:Type}{m:M a}{b:a->M β}(x:af W n0 ((inside m).bind b) h n Q):af W n0 (ek m b) h n Q:=by rw[lK];exact x
theorem qn(e:TypeId)(cs:List Value)(f:Nat->Value)(h:H)(n:Nat):((jz e cs).bind fun id=>M.ret (f id)) h n=some ⟨f n,h.set n (some ⟨e,true,cs⟩),n+1,[]⟩:=by rw[lI];exact bX (vH _ _ _ _) rfl
theorem gu{T:Prop}(_:T){t:TypeId}(v:Value)(k:Value->M β)(x:af W n0 (k (.pointer (some ⟨n,0,none⟩))) (h.set n (some ⟨t,true,v.cells.toList⟩)) (n+1) Q):af W n0 (dP t v k) h n Q:=by rw[<-nB]at x;exact jG (tr (qn _ _ (fun id=>E9 (some ⟨id,0,none⟩)) _ _) (eL n) x)
theorem dL{t:TypeId}{z cs:List Value}(a:z=cs)(k:Value->M β)(x:af W n0 (k (.pointer (some ⟨n,0,none⟩))) (h.set n (some ⟨t,true,cs⟩)) (n+1) Q):af W n0 (cy t z k) h n Q:=by subst a;exact jG (tr (qn _ _ (fun id=>E9 (some ⟨id,0,none⟩)) _ _) (eL n) x)
theorem GY(z:Value):∀m,kB [z] m=bQ m z
 |0=>rfl
 |m+1=>by show z::kB [z] m=_;rw[GY z m];rfl
theorem run_make{T:Prop}(_:T){e:TypeId}{z:Value}(l m:Nat)(k:Value->M β){b a:IntKind}(d:l<=m)(c:m<=1099511627776)(x:af W n0 (k (.slice (some ⟨n,0,none⟩) l m)) (h.set n (some ⟨e,true,bQ m z⟩)) (n+1) Q):af W n0 (o4 e [z] (.int b l) (.int a m) k) h n Q:=by
 have f:o4 e [z] (.int b l) (.int a m) k=ek ((jz e (kB [z] m)).bind fun id=>M.ret (kR (some ⟨id,0,none⟩) l m)) k:=by
  show(match bG l m with
   |true=>match bG m 1099511627776 with
    |true=>ek ((jz e (kB [z] m)).bind fun id=>M.ret (kR (some ⟨id,0,none⟩) l m)) k
    |false=> .fail
   |false=> .fail)=_
  rw[lF d,lF c]
 rw[f,GY];exact jG (tr (qn _ _ (fun id=>kR (some ⟨id,0,none⟩) l m) _ _) (eL n) x)
theorem vI{T:Prop}(_:T){e:TypeId}{v:Value}(h1:one v=true)(k:Value->M β)(x:af W n0 (k (.slice (some ⟨n,0,none⟩) 1 1)) (h.set n (some ⟨e,true,[v]⟩)) (n+1) Q):af W n0 (bO e 1 v k) h n Q:=by
 have a:di v=[v]:=by cases v<;>first|rfl|(simp[one]at h1)
 unfold bO;rw[a];exact jG (tr (qn _ _ (fun id=>kR (some ⟨id,0,none⟩) 1 1) _ _) (eL n) x)
end
def rz{b:Type}(o:Option b)(p:b->Prop):Prop:=match o with
 |some a=>p a
 |none=>False
theorem Oz{b:Type}(a:b)(p:b->Prop):rz (some a) p=p a:=rfl
theorem kF(k:IntKind)(x:Int):one (.int k x)=true:=rfl
theorem acJ(a:Option Addr)(n c:Nat):one (.slice a n c)=true:=rfl
theorem acK(a:Option Addr):one (.pointer a)=true:=rfl
theorem OA(cs:Array Value):(mC cs).cells=cs:=rfl
section
variable {β:Type} {W:Nat->Prop} {n0:Nat} {h h1:H} {n n1:Nat} {Q:β->H->Nat->Prop}
theorem acL:¬af W n0 (M.fail:M β) h n Q:=by rintro⟨_,_,_,_,e,_⟩;cases e
theorem BH{b:Type}{m:M b}{k:b->M β}(e:m h n=none):¬af W n0 (m.bind k) h n Q:=by rintro⟨_,_,_,_,a,_⟩;unfold M.bind at a;rw[e]at a;cases a
theorem BI{a:Type}{m:M a}(e:m h n=none):Ev.inside m h n=none:=by unfold Ev.inside;rw[e]
theorem OB(b off:Nat)(k:Value->M β)(d:b<n):af W n0 (aQ (.pointer (some ⟨b,off,none⟩)) k) h n Q↔rz (h.get b) fun B=>af W n0 (bf (B.cells[off]?) k) h n Q:=by
 show af W n0 (ek (vt b off) k) h n Q↔_;rw[lK,A9];cases a:h.get b with
 |none=>refine⟨fun x=>absurd x (BH (BI ?_)),fun x=>x.elim⟩;unfold rd;simp[a]
 |some B=>
  show _↔af W n0 (bf (B.cells[off]?) k) h n Q;cases c:B.cells[off]? with
  |none=>refine⟨fun x=>absurd x (BH (BI ?_)),fun x=>absurd x acL⟩;unfold rd;simp[a,c]
  |some v=>
   have e:rd b off h n=some ⟨v,h,n,[⟨false,b,some off⟩]⟩:=by unfold rd;simp only[d,a,c,if_true]
   obtain⟨i,g,f⟩:=BG (W:=W) (n0:=n0) e jS;exact af.iff g f
theorem acM(b off:Nat){v:Value}(k:Value->M β)(h1:one v=true):aK (.pointer (some ⟨b,off,none⟩)) v k=(inside ((wr b off v).bind fun _=> .ret undef)).bind k:=by
 show(match one v with
  |true=>ek ((tf b off v).bind fun _=> .ret undef) k
  |false=> .fail)=_
 rw[h1,Ba];exact lK _ _
theorem vJ(b off:Nat)(v:Value)(k:Value->M β)(o:b<n)(h1:one v=true):af W n0 (aK (.pointer (some ⟨b,off,none⟩)) v k) h n Q↔
 rz (h.get b) fun B=>B.own=true∧off<B.cells.length∧(n0<=b∨W b)∧af W n0 (k undef) (h.set b (some ⟨B.elem,B.own,B.cells.set off v⟩)) n Q:=by
 rw[acM b off k h1];cases g:h.get b with
 |none=>refine⟨fun x=>absurd x (BH (BI ?_)),fun x=>x.elim⟩;unfold M.bind wr;simp[g]
 |some B=>
  show _↔(B.own=true∧off<B.cells.length∧(n0<=b∨W b)∧_);by_cases a:B.own=true∧off<B.cells.length
  ·obtain⟨l,m⟩:=a
   have d:wr b off v h n=some ⟨(),h.set b (some ⟨B.elem,B.own,B.cells.set off v⟩),n,[⟨false,b,some off⟩,⟨true,b,some off⟩]⟩:=by unfold wr;simp[o,g,l,m,h1]
   have e:((wr b off v).bind fun _=>M.ret undef) h n=some ⟨undef,h.set b (some ⟨B.elem,B.own,B.cells.set off v⟩),n,[⟨false,b,some off⟩,⟨true,b,some off⟩]⟩:=by have:=bX (f:=fun _=>M.ret undef) d (L2:=[]) (b:=undef) (h2:=h.set b (some ⟨B.elem,B.own,B.cells.set off v⟩)) (n2:=n) rfl;simpa using this
   have i:=jy e;constructor
   ·intro x;refine⟨l,m, ?_,af.Nv i rfl x⟩;obtain⟨_,_,_,L,s,_,r,_⟩:=x;obtain⟨_,_,_,u,t,j,_,rfl⟩:=bind_some s;rw[i]at j;simp only[dx,Out.mk.injEq]at j;refine r ⟨true,b,some off⟩ (Fb.2 (.inl ?_)) rfl;rw[<-j.2.2.2];refine List.mem_filter.2 ⟨jS, ?_⟩;simp;omega
   ·rintro⟨_,_,q,x⟩;refine af.step i (ah _) (fun x c p=> ?_) x;have c:=(List.mem_filter.1 c).1;simp at c;rcases c with rfl|rfl<;>exact q
  ·refine⟨fun x=>absurd x (BH (BI ?_)),fun x=>absurd ⟨x.1,x.2.1⟩ a⟩;unfold M.bind wr;simp only[o,g,if_true,h1,Bool.and_true];rw[if_neg (by simpa using a)]
section
variable (b off:Nat) (k:Value->M β) (hb:b<n)
include hb
theorem OC(j:IntKind)(x:Int):af W n0 (aK (.pointer (some ⟨b,off,none⟩)) (.int j x) k) h n Q↔rz (h.get b) fun B=>B.own=true∧off<B.cells.length∧(n0<=b∨W b)∧af W n0 (k undef) (h.set b (some ⟨B.elem,B.own,B.cells.set off (.int j x)⟩)) n Q:=vJ b off _ k hb rfl
theorem OD(x:Bool):af W n0 (aK (.pointer (some ⟨b,off,none⟩)) (.bool x) k) h n Q↔rz (h.get b) fun B=>B.own=true∧off<B.cells.length∧(n0<=b∨W b)∧af W n0 (k undef) (h.set b (some ⟨B.elem,B.own,B.cells.set off (.bool x)⟩)) n Q:=vJ b off _ k hb rfl
theorem OE(x:ByteArray):af W n0 (aK (.pointer (some ⟨b,off,none⟩)) (.string x) k) h n Q↔rz (h.get b) fun B=>B.own=true∧off<B.cells.length∧(n0<=b∨W b)∧af W n0 (k undef) (h.set b (some ⟨B.elem,B.own,B.cells.set off (.string x)⟩)) n Q:=vJ b off _ k hb rfl
theorem OG(x:Option Addr):af W n0 (aK (.pointer (some ⟨b,off,none⟩)) (.pointer x) k) h n Q↔rz (h.get b) fun B=>B.own=true∧off<B.cells.length∧(n0<=b∨W b)∧af W n0 (k undef) (h.set b (some ⟨B.elem,B.own,B.cells.set off (.pointer x)⟩)) n Q:=vJ b off _ k hb rfl
theorem OH(x:Option Addr)(l c:Nat):af W n0 (aK (.pointer (some ⟨b,off,none⟩)) (.slice x l c) k) h n Q↔rz (h.get b) fun B=>B.own=true∧off<B.cells.length∧(n0<=b∨W b)∧af W n0 (k undef) (h.set b (some ⟨B.elem,B.own,B.cells.set off (.slice x l c)⟩)) n Q:=vJ b off _ k hb rfl
end
theorem rA{b:Nat}{B:AB}(d:h.get b=some B)(f:b<n):∀(c k:Nat),k+c<=B.cells.length->∃L,cT b k c h n=some ⟨(B.cells.drop k).take c,h,n,L⟩∧∀e∈L,e.wr=false
 |0,k,_=>⟨[],by rw[List.take_zero];rfl,jS⟩
 |c+1,k,j=>by
  obtain⟨L,e,g⟩:=rA d f c (k+1) jO;have a:k<B.cells.length:=jO;refine⟨[⟨false,b,some k⟩]++(L++[]), ?_, ?_⟩
  ·unfold cT
   have i:rd b k h n=some ⟨B.cells[k],h,n,[⟨false,b,some k⟩]⟩:=by unfold rd;simp only[f,d,if_true,bA a]
   refine bX i (bX e ?_);rw[List.drop_eq_getElem_cons a,List.take_succ_cons];rfl
  ·intro x hx;simp only[bR,Fb,Z1,je,or_false]at hx;rcases hx with rfl|hx
   ·rfl
   ·exact g x hx
theorem BJ{b:Nat}{B:AB}(a:h.get b=some B)(c:b<n):fh b h n=some ⟨B.elem,h,n,[⟨false,b,some 1099511627776⟩]⟩:=by unfold fh;simp only[c,a,if_true]
theorem OI{b:Nat}{B:AB}(c:h.get b=some B)(a:B.own=true)(d:b<n):kill b h n=some ⟨(),h.set b none,n,[⟨false,b,none⟩,⟨true,b,none⟩]⟩:=by unfold kill;simp only[d,c,a,if_true]
def Src(h:H)(n:Nat)(x:Value)(news:List Value):Prop:=∃b a c B,x= .slice (some ⟨b,a,none⟩) news.length c∧h.get b=some B∧b<n∧a+news.length<=B.cells.length∧(B.cells.drop a).take news.length=news
theorem Src.run{x:Value}{news:List Value}(s:Src h n x news):∃L,kp 1 news.length x h n=some ⟨news,h,n,L⟩∧(∀e∈L,e.wr=false)∧ic x=some news.length:=by obtain⟨b,a,c,B,rfl,g,i,f,d⟩:=s;obtain⟨L,e,j⟩:=rA g i news.length a f;refine⟨L, ?_,j,rfl⟩;unfold kp;rw[uY];show cT b a news.length h n=_;rw[e,d]
theorem BK{T:Prop}(c:T){e:TypeId}{x:Value}{news:List Value}(b:ic x=some 0)(a:Option Addr)(l cp:Nat)(k:Value->M β)(y:af W n0 (k (.slice a l cp)) h n Q):af W n0 (bL e 1 (.slice a l cp) x k) h n Q:=by refine jG (tr (a:= .slice a l cp) ?_ (ah n) y);unfold mi;simp only[b];rfl
theorem OJ {T:Prop} (c:T) {e:TypeId} {x:Value} {news:List Value} (s:Src h n x news) (p:0<news.length) (i:news.length<=1099511627776) (h1:news.all one=true) (k:Value->M β)
 (y:af W n0 (k (.slice (some ⟨n,0,none⟩) news.length (bh+news.length))) (h.set n (some ⟨e,true,news⟩)) (n+1) Q):af W n0 (bL e 1 (.slice none 0 0) x k) h n Q:=by
 obtain⟨L,o,m,l⟩:=s.run
 have j:mi e 1 (.slice none 0 0) x h n=some ⟨.slice (some ⟨n,0,none⟩) news.length (bh+news.length),h.set n (some ⟨e,true,news⟩),n+1,L⟩:=by
  unfold mi;rw[qg,lI];simp only[l];rw[if_neg jO,if_pos i]
  have g:(if(decide (news.length=news.length*1)&&news.all one)=true then(cS e ([]++news)).bind fun id=>M.ret (kR (some ⟨id,0,none⟩) (0+news.length) (bh+(0+news.length)))else M.fail) h n=some ⟨.slice (some ⟨n,0,none⟩) news.length (bh+news.length),h.set n (some ⟨e,true,news⟩),n+1,[]⟩:=by rw[if_pos (by simp;simpa using h1)];simp only[fy,kQ];exact bX (vH _ _ _ _) rfl
  have:=bX (f:=fun a=>if(decide (a.length=news.length*1)&&a.all one)=true then(cS e ([]++a)).bind fun id=>M.ret (kR (some ⟨id,0,none⟩) (0+news.length) (bh+(0+news.length)))else M.fail) o g;simpa using this
 refine jG (af.step (jy j) (eL n) (fun x d b=> ?_) y);rw[m x (List.mem_filter.1 d).1]at b;cases b
theorem OK {T:Prop} (c:T) {e:TypeId} {x:Value} {news olds:List Value} (s:Src h n x news) (C:0<news.length) (h1:news.all one=true) {b cp:Nat} {cs:List Value} (d:h.get b=some ⟨e,true,cs⟩) (f:b<n) (off l:Nat)
 (q:off+l<=cs.length) (o:(cs.drop off).take l=olds) (p:l+news.length<=1099511627776) (B:bh<=cp) (m:n0<=b∨W b) (k:Value->M β)
 (y:af W n0 (k (.slice (some ⟨n,0,none⟩) (l+news.length) (bh+(l+news.length)))) ((h.set b none).set n (some ⟨e,true,olds++news⟩)) (n+1) Q):af W n0 (bL e 1 (.slice (some ⟨b,off,none⟩) l cp) x k) h n Q:=by
 obtain⟨L,z,v,u⟩:=s.run;obtain⟨A,t,r⟩:=rA (n:=n) d f l off q
 have i:∃j,mi e 1 (.slice (some ⟨b,off,none⟩) l cp) x h n=some ⟨.slice (some ⟨n,0,none⟩) (l+news.length) (bh+(l+news.length)),(h.set b none).set n (some ⟨e,true,olds++news⟩),n+1,j⟩∧∀e∈j,e.wr=true->e.b=b:=by
  refine⟨[⟨false,b,some 1099511627776⟩]++(L++(A++([⟨false,b,none⟩,⟨true,b,none⟩]++[]))), ?_, ?_⟩
  ·unfold mi xT;rw[qg,lI,vu,FW,mM];simp only[u];rw[if_neg jO,if_pos p];refine bX (BJ d f) ?_;simp only[if_true];refine bX z ?_;rw[if_pos (by simp;simpa using h1)];rw[if_neg jO,uY];refine bX t (bX (OI d rfl f) ?_);rw[o];exact bX (vH _ _ _ _) rfl
  ·intro x hx a;simp only[Fb,Z1,je,or_false]at hx;rcases hx with rfl|hx|hx|rfl|rfl
   ·cases a
   ·rw[v x hx]at a;cases a
   ·rw[r x hx]at a;cases a
   ·cases a
   ·rfl
 obtain⟨j,i,g⟩:=i;refine jG (af.step (jy i) (eL n) (fun x hx a=> ?_) y);rw[g x (List.mem_filter.1 hx).1 a];exact m
theorem acN {T:Prop} (c:T) {e:TypeId} {x:Value} {news olds:List Value} (s:Src h n x news) (E:0<news.length) (h1:news.all one=true) {b cp:Nat} {B:AB} (i:h.get b=some B) (q:B.elem=e) (j:b<n) (off l:Nat)
 (p:off+l<=B.cells.length) (m:(B.cells.drop off).take l=olds) (o:l+news.length<=1099511627776) (r:cp<bh) (D:cp<l+news.length) (k:Value->M β)
 (y:af W n0 (k (.slice (some ⟨n,0,none⟩) (l+news.length) (bh+(l+news.length)))) (h.set n (some ⟨e,true,olds++news⟩)) (n+1) Q):af W n0 (bL e 1 (.slice (some ⟨b,off,none⟩) l cp) x k) h n Q:=by
 obtain⟨L,A,z,v⟩:=s.run;obtain⟨C,u,t⟩:=rA (n:=n) i j l off p
 have f:∃g,mi e 1 (.slice (some ⟨b,off,none⟩) l cp) x h n=some ⟨.slice (some ⟨n,0,none⟩) (l+news.length) (bh+(l+news.length)),h.set n (some ⟨e,true,olds++news⟩),n+1,g⟩∧∀e∈g,e.wr=false:=by
  refine⟨[⟨false,b,some 1099511627776⟩]++(L++(C++[])), ?_, ?_⟩
  ·unfold mi xT;rw[qg,lI,vu,mM];simp only[v];rw[if_neg jO,if_pos o];refine bX (BJ i j) ?_;simp only[q,if_true];refine bX A ?_;rw[if_pos (by simp;simpa using h1)];rw[if_pos r,if_neg jO,uY];refine bX u ?_;rw[m];exact bX (vH _ _ _ _) rfl
  ·intro x hx;simp only[bR,Fb,Z1,je,or_false]at hx;rcases hx with rfl|hx|hx
   ·rfl
   ·exact z x hx
   ·exact t x hx
 obtain⟨g,f,d⟩:=f;refine jG (af.step (jy f) (eL n) (fun x hx a=> ?_) y);rw[d x (List.mem_filter.1 hx).1]at a;cases a
theorem OL {T:Prop} (c:T) {e:TypeId} {v:Value} (d:one v=true) {b cp l:Nat} {cs:List Value} (j:h.get b=some ⟨e,true,cs⟩) (o:b<n) (i:cs.length=l) (g:l+1<=1099511627776) (m:bh<=cp) (f:n0<=b∨W b) (k:Value->M β)
 (y:af W n0 (k (.slice (some ⟨n+1,0,none⟩) (l+1) (bh+(l+1)))) (((h.set n (some ⟨e,true,[v]⟩)).set b none).set (n+1) (some ⟨e,true,cs++[v]⟩)) (n+2) Q):af W n0 (bO e 1 v fun w=>bL e 1 (.slice (some ⟨b,0,none⟩) l cp) w k) h n Q:=by
 refine vI c d _ ?_;have a:(h.set n (some ⟨e,true,[v]⟩)).get b=some ⟨e,true,cs⟩:=by rw[aw _ _ jO];exact j
 exact OK c (news:=[v]) (olds:=cs) ⟨n,0,1,⟨e,true,[v]⟩,rfl,get_eq _ _ _,dO n,jS,jS⟩ jS (by simp[d]) a jO 0 l jO (by rw[js,<-i,iY]) g m f k y
theorem OM {T:Prop} (c:T) {e:TypeId} {v:Value} (a:one v=true) (k:Value->M β)
 (y:af W n0 (k (.slice (some ⟨n+1,0,none⟩) 1 (bh+1))) ((h.set n (some ⟨e,true,[v]⟩)).set (n+1) (some ⟨e,true,[v]⟩)) (n+2) Q):af W n0 (bO e 1 v fun w=>bL e 1 (.slice none 0 0) w k) h n Q:=by
 refine vI c a _ ?_;exact OJ c (news:=[v]) ⟨n,0,1,⟨e,true,[v]⟩,rfl,get_eq _ _ _,dO n,jS,jS⟩ jS jS (by simp[a]) k y
theorem yg(d:Nat):dZ none d=some d:=rfl
theorem BL {T r:Prop} (c:T) {e:TypeId} {b:Nat} {B:AB} (g:h.get b=some B) (i:B.elem=e) (j:b<n) (off len cp:Nat) (lo d:Option Value) {l hh:Nat} (a:dZ lo 0=some l) (f:dZ d len=some hh) (h1:l<=hh) (h2:hh<=len) (s:len<=cp) (k:Value->M β) (_:r)
 (y:af W n0 (k (.slice (some ⟨b,if cp=l then off else off+l,none⟩) (hh-l) (cp-l))) h n Q):af W n0 (nF e 1 (.slice (some ⟨b,off,none⟩) len cp) lo d k) h n Q:=by
 refine jG ?_
 have p:((xK b).bind fun q=>match bV q e with
  |true=>M.lift (o7 1 (some ⟨b,off,none⟩) len cp lo d)
  |false=> .fail) h n=some ⟨.slice (some ⟨b,if cp=l then off else off+l,none⟩) (hh-l) (cp-l),h,n,[⟨false,b,some 1099511627776⟩]++[]⟩:=by
  rw[vu];refine bX (BJ g j) ?_;rw[i,xp];simp only;unfold o7;simp only[a,f];have:(decide (l<=hh)&&decide (hh<=cp)&&decide (cp<=cp)&&(decide (cp<bh)||(none:Option Value).isNone&&decide (hh<=len)))=true:=by simp;omega
  simp only[this,if_true,uY];rfl
 obtain⟨t,o,m⟩:=BG (W:=W) (n0:=n0) p jS;exact af.step o (ah _) m y
theorem ON {T f:Prop} (c:T) {e:TypeId} (len cp:Nat) (lo a:Option Value) {l hh:Nat} (b:dZ lo 0=some l) (d:dZ a len=some hh) (h1:l<=hh) (h2:hh<=len) (g:len<=cp) (k:Value->M β) (_:f)
 (y:af W n0 (k (.slice none (hh-l) (cp-l))) h n Q):af W n0 (nF e 1 (.slice none len cp) lo a k) h n Q:=by
 have:o7 1 none len cp lo a=some (.slice none (hh-l) (cp-l)):=by
  unfold o7;simp only[b,d];have:(decide (l<=hh)&&decide (hh<=cp)&&decide (cp<=cp)&&(decide (cp<bh)||(none:Option Value).isNone&&decide (hh<=len)))=true:=by simp;omega
  simp only[this,if_true]
 show af W n0 (match o7 1 none len cp lo a with
  |some v=>k v
  |none=> .fail) h n Q
 rw[this];exact y
theorem tu(k:IntKind)(x d:Nat):dZ (some (.int k (x:Int))) d=some x:=by unfold dZ;simp
theorem GZ{P:Program}(hd:kD P=true){gt:Nat->Hint}{Y d:Nat}{f:FuncId}{args:Array Value}{v:Value}{L:List En}(e:aj P gt Y d f args h n=some ⟨v,h1,n1,L⟩){W':Nat->Prop}(c:∀e∈L,e.wr=true->n<=e.b∨W' e.b):∀b,b<n->¬W' b->h1.get b=h.get b:=by
 obtain⟨a,m⟩:=BE hd d f args h n v h1 n1 L e;have A:=Loc.cH P KN a f args h n v h1 n1 L (m a (ah _));intro b o g;refine AD fun k=>A.frame b k ?_ jO;rintro⟨e,i,l,j,_⟩;rcases c e i l with q|q
 ·omega
 ·exact g (j▸q)
theorem aN {P:Program} (hd:kD P=true) {gt:Nat->Hint} {Y d:Nat} {f:FuncId} {vs:List Value} {W':Nat->Prop} {Q':Value->H->Nat->Prop} (s:af W' n (aj P gt Y d f ⟨vs⟩) h n Q') (t:n0<=n) (o:∀b,b<n->W' b->n0<=b∨W b) {k:Value->M β}
 (x:∀v h1 n1,n<=n1->(∀b,b<n->¬W' b->h1.get b=h.get b)->Q' v h1 n1->af W n0 (k v) h1 n1 Q):af W n0 (ai (aj P gt Y d) f vs k) h n Q:=by
 obtain⟨v,h1,n1,L,j,i,g,r⟩:=s;refine jG (m:=aj P gt Y d f ⟨vs⟩) (af.step (jy j) i (fun e l a=> ?_) (x v h1 n1 i (GZ hd j g) r));have p:=(List.mem_filter.1 l).1;rcases g e p a with q|q
 ·exact .inl jO
 ·by_cases c:e.b<n
  ·exact o _ c q
  ·exact .inl jO
end
section
variable {β:Type} {W:Nat->Prop} {n0:Nat} {h h1:H} {n n1:Nat} {Q:β->H->Nat->Prop}
theorem acO(v:Value)(k:Value->M β):(inside (M.ret v)).bind k=k v:=by
 have:inside (M.ret v)=M.ret v:=by funext h n;rfl
 rw[this,nr]
theorem OO{T:Prop}(c:T){e:TypeId}(k:Value->M β)(x:af W n0 (k (.slice (some ⟨n,0,none⟩) 0 0)) (h.set n (some ⟨e,true,[]⟩)) (n+1) Q):af W n0 (vz e [] 0 [] k) h n Q:=
 jG (tr (qn _ _ (fun id=>kR (some ⟨id,0,none⟩) 0 0) _ _) (eL n) x)
theorem dQ(m:M β):dD true m=m:=rfl
theorem mj{m:M Value}{v:Value}{L:List En}{k:Value×Tk->M β}(e:m h n=some ⟨v,h1,n1,L⟩)(b:n<=n1)(a:∀e∈L,e.wr=true->n0<=e.b∨W e.b)(x:af W n0 (k (v,⟨n,n1,L⟩)) h1 n1 Q):af W n0 ((az m).bind k) h n Q:=
 af.step (xI e) b a x
theorem acP{m:M Value}{v:Value}{L:List En}(e:m h n=some ⟨v,h1,n1,L⟩):(m.bind fun v=>M.ret v) h n=some ⟨v,h1,n1,L⟩:=by have:=bX (f:=fun v=>M.ret v) e (L2:=[]) (b:=v) (h2:=h1) (n2:=n1) rfl;rwa[bR]at this
theorem o9{m:M Value}{v:Value}{L:List En}(e:m h n=some ⟨v,h1,n1,L⟩):(ek m M.ret) h n=some ⟨v,h1,n1,L.filter fun e=> !(decide (n<=e.b)&&decide (e.b<n1))⟩:=by rw[lK];exact acP (jy e)
theorem G0{T:Prop}(_:T)(b off:Nat)(k:Value×Tk->M β){B:AB}(d:h.get b=some B)(g:b<n){v:Value}(c:B.cells[off]? =some v)(x:af W n0 (k (v,⟨n,n,[⟨false,b,some off⟩]⟩)) h n Q):af W n0 ((az (aQ (.pointer (some ⟨b,off,none⟩)) M.ret)).bind k) h n Q:=by
 have e:vt b off h n=some ⟨v,h,n,[⟨false,b,some off⟩]⟩:=by rw[A9];unfold rd;simp only[g,d,c,if_true]
 have a:=o9 e
 have f:[(⟨false,b,some off⟩:En)].filter (fun e=> !(decide (n<=e.b)&&decide (e.b<n)))=[⟨false,b,some off⟩]:=by simp;omega
 rw[f]at a;exact mj a (ah _) jS x
theorem OP{T:Prop}(_:T){t:TypeId}(v:Value)(k:Value×Tk->M β)(x:af W n0 (k (.pointer (some ⟨n,0,none⟩),⟨n,n+1,[]⟩)) (h.set n (some ⟨t,true,v.cells.toList⟩)) (n+1) Q):af W n0 ((az (dP t v M.ret)).bind k) h n Q:=by rw[<-nB]at x;exact mj (o9 (qn t (di v) (fun id=>E9 (some ⟨id,0,none⟩)) h n)) (eL n) jS x
theorem G1 {P:Program} (hd:kD P=true) {gt:Nat->Hint} {Y d:Nat} {f:FuncId} {vs:List Value} {W':Nat->Prop} {Q':Value->H->Nat->Prop} (s:af W' n (aj P gt Y d f ⟨vs⟩) h n Q') (y:n0<=n) (p:∀b,b<n->W' b->n0<=b∨W b) {k:Value×Tk->M β}
 (x:∀v h1 n1 L,n<=n1->(∀b,b<n->¬W' b->h1.get b=h.get b)->Q' v h1 n1->(∀e∈L,e.b<n)->(∀e∈L,e.wr=true->W' e.b)->af W n0 (k (v,⟨n,n1,L⟩)) h1 n1 Q):af W n0 ((az (ai (aj P gt Y d) f vs M.ret)).bind k) h n Q:=by
 obtain⟨v,h1,n1,L,j,o,m,t⟩:=s;obtain⟨l,u⟩:=BE hd d f ⟨vs⟩ h n v h1 n1 L j;have A:=Loc.cH P KN l f ⟨vs⟩ h n v h1 n1 L (u l (ah _))
 have a:∀e∈L.filter (fun e=> !(decide (n<=e.b)&&decide (e.b<n1))),e.b<n:=fun e c=>by obtain⟨h1,r⟩:=List.mem_filter.1 c;have:=A.lt e h1;simp at r;omega
 have g:∀e∈L.filter (fun e=> !(decide (n<=e.b)&&decide (e.b<n1))),e.wr=true->W' e.b:=fun e c i=>by
  rcases m e (List.mem_filter.1 c).1 i with q|q
  ·have:=a e c;omega
  ·exact q
 exact mj (o9 j) o (fun e c i=>p _ (a e c) (g e c i)) (x v h1 n1 _ o (GZ hd j m) t a g)
end
section
variable {β:Type} {W:Nat->Prop} {n0:Nat} {h h1:H} {n n1:Nat} {Q:β->H->Nat->Prop}
def aJ(v:Value)(b:Nat):Prop:=∃o l c,v= .slice (some ⟨b,o,none⟩) l c
def Own(h:H)(lo n:Nat)(e:TypeId)(v:Value)(cs:List Value):Prop:=(v= .slice none 0 0∧cs=[])∨∃b,v= .slice (some ⟨b,0,none⟩) cs.length (bh+cs.length)∧h.get b=some ⟨e,true,cs⟩∧lo<=b∧b<n
theorem Own.nil(h:H)(lo n:Nat)(e:TypeId):Own h lo n e (.slice none 0 0) []:= .inl ⟨rfl,rfl⟩
theorem aJ.inj{b c o l k:Nat}(h:aJ (.slice (some ⟨b,o,none⟩) l k) c):c=b:=by obtain⟨_,_,_,h⟩:=h;cases h;rfl
theorem aJ.not_nil{l k c:Nat}(h:aJ (.slice none l k) c):False:=by obtain⟨_,_,_,h⟩:=h;cases h
theorem Own.lt{lo:Nat}{e:TypeId}{v:Value}{cs:List Value}(o:Own h lo n e v cs){b:Nat}(a:aJ v b):lo<=b∧b<n:=by
 rcases o with ⟨rfl,_⟩|⟨c,rfl,_,h1,d⟩
 ·exact a.not_nil.elim
 ·rw[a.inj];exact⟨h1,d⟩
theorem Own.au{lo:Nat}{e:TypeId}{v:Value}{cs:List Value}{h':H}{n':Nat}(o:Own h lo n e v cs)(f:n<=n')(a:∀b,aJ v b->h'.get b=h.get b):Own h' lo n' e v cs:=by
 rcases o with q|⟨c,rfl,d,h1,g⟩
 ·exact .inl q
 ·exact .inr ⟨c,rfl,(a c ⟨_,_,_,rfl⟩).trans d,h1,jO⟩
theorem Own.low{lo a:Nat}{e:TypeId}{v:Value}{cs:List Value}(o:Own h lo n e v cs)(g:a<=lo):Own h a n e v cs:=by
 rcases o with q|⟨c,b,d,h1,f⟩
 ·exact .inl q
 ·exact .inr ⟨c,b,d,jO,f⟩
theorem rB {T:Prop} (c:T) {e:TypeId} {x:Value} (a:one x=true) {lo:Nat} {v:Value} {cs:List Value} (o:Own h lo n e v cs) (g:cs.length+1<=1099511627776) (i:n0<=lo) (k:Value->M β)
 (y:∀h',h'.get (n+1)=some ⟨e,true,cs++[x]⟩->(∀b,b<n->¬aJ v b->h'.get b=h.get b)->af W n0 (k (.slice (some ⟨n+1,0,none⟩) (cs.length+1) (bh+(cs.length+1)))) h' (n+2) Q):af W n0 (bO e 1 x fun w=>bL e 1 v w k) h n Q:=by
 rcases o with ⟨rfl,rfl⟩|⟨b,rfl,d,h1,j⟩
 ·exact OM c a k (y _ (get_eq _ _ _) fun b d _=>by rw[aw _ _ jO,aw _ _ jO])
 ·refine OL c a d j rfl g jO (.inl jO) k (y _ (get_eq _ _ _) fun c l f=> ?_);have:c≠b:=fun e=>f ⟨0,_,_,by rw[e]⟩;rw[aw _ _ jO,aw _ _ this,aw _ _ jO]
theorem Own.mk'{lo b:Nat}{e:TypeId}{cs:List Value}(c:h.get b=some ⟨e,true,cs⟩)(h1:lo<=b)(h2:b<n){l:Nat}(a:l=cs.length):Own h lo n e (.slice (some ⟨b,0,none⟩) l (bh+l)) cs:= .inr ⟨b,by rw[a],c,h1,h2⟩
def aW(k:IntKind)(xs:List Int):List Value:=xs.map (Value.int k)
theorem eh(k:IntKind)(xs:List Int):(aW k xs).length=xs.length:=by unfold aW;simp
theorem BM{k:IntKind}{xs:List Int}{i:Nat}(h:i<xs.length):(aW k xs)[i]? =some (.int k (xs.getD i 0)):=by unfold aW;simp[h]
theorem G2(k:IntKind)(xs:List Int):(aW k xs).all one=true:=by unfold aW;simp[one]
def Row(h:H)(n:Nat)(e:TypeId)(k:IntKind)(v:Value)(xs:List Int):Prop:=
 (∃a c,v= .slice a 0 c∧(∀b o,a≠some ⟨b,o,none⟩)∧xs=[])∨∃b d cap o f,v= .slice (some ⟨b,d,none⟩) xs.length cap∧h.get b=some ⟨e,o,f⟩∧b<n∧d+xs.length<=f.length∧(f.drop d).take xs.length=aW k xs∧xs.length<=cap
theorem Row.au{e:TypeId}{k:IntKind}{v:Value}{xs:List Int}{h':H}{n':Nat}(r:Row h n e k v xs)(j:n<=n')(d:∀b,b<n->h'.get b=h.get b):Row h' n' e k v xs:=by
 rcases r with q|⟨b,a,cap,o,i,c,f,g,r⟩
 ·exact .inl q
 ·exact .inr ⟨b,a,cap,o,i,c,(d b g).trans f,jO,r⟩
theorem Row.kG{e:TypeId}{k:IntKind}{v:Value}{xs:List Int}{h':H}{n':Nat}(r:Row h n e k v xs)(i:n<=n')(d:∀b,aJ v b->h'.get b=h.get b):Row h' n' e k v xs:=by
 rcases r with q|⟨b,a,cap,o,g,c,f,j,r⟩
 ·exact .inl q
 ·exact .inr ⟨b,a,cap,o,g,c,(d b ⟨_,_,_,c⟩).trans f,jO,r⟩
theorem Row.lt{e:TypeId}{k:IntKind}{v:Value}{xs:List Int}(r:Row h n e k v xs){b:Nat}(g:aJ v b):b<n:=by
 rcases r with ⟨a,c,rfl,d,_⟩|⟨c,i,cap,o,m,rfl,j,f,_⟩
 ·obtain⟨o,l,k,q⟩:=g;cases q;exact absurd rfl (d b o)
 ·rw[g.inj];exact f
theorem Row.some{e:TypeId}{k:IntKind}{v:Value}{xs:List Int}(r:Row h n e k v xs)(q:0<xs.length):∃b off cap o cs,v= .slice (some ⟨b,off,none⟩) xs.length cap∧h.get b=some ⟨e,o,cs⟩∧b<n∧off+xs.length<=cs.length∧(cs.drop off).take xs.length=aW k xs∧xs.length<=cap∧∀i,i<xs.length->cs[off+i]? =some (.int k (xs.getD i 0)):=by
 rcases r with ⟨a,c,_,_,rfl⟩|⟨b,off,cap,o,cs,g,l,p,j,d,m⟩
 ·simp at q
 ·refine⟨b,off,cap,o,cs,g,l,p,j,d,m,fun i f=> ?_⟩;have:=congrArg (fun z=>z[i]?) d;simp only[List.getElem?_take,f,if_true,List.getElem?_drop]at this;rw[this,BM f]
theorem Row.len{e:TypeId}{k:IntKind}{v:Value}{xs:List Int}(r:Row h n e k v xs):∃a c,v= .slice a xs.length c:=by
 rcases r with ⟨a,c,rfl,_,rfl⟩|⟨b,d,cap,o,f,rfl,_⟩
 ·exact⟨a,c,rfl⟩
 ·exact⟨_,cap,rfl⟩
theorem Own.row{lo:Nat}{e:TypeId}{k:IntKind}{v:Value}{xs:List Int}(o:Own h lo n e v (aW k xs)):Row h n e k v xs:=by
 rcases o with ⟨rfl,q⟩|⟨b,rfl,a,_,c⟩
 ·exact .inl ⟨none,0,rfl,fun _ _ q=>(nomatch q),by unfold aW at q;simpa using q⟩
 ·rw[eh];exact .inr ⟨b,0,bh+xs.length,true,_,rfl,a,c,by rw[eh];omega,by rw[js,E' (by rw[eh];omega)],jO⟩
theorem Row.src{e:TypeId}{k:IntKind}{v:Value}{xs:List Int}(r:Row h n e k v xs)(j:0<xs.length):Src h n v (aW k xs):=by obtain⟨b,a,cap,o,l,c,g,i,f,d,m,_⟩:=r.some j;exact⟨b,a,cap,⟨e,o,l⟩,by rw[c,eh],g,i,by rw[eh];exact f,by rw[eh];exact d⟩
theorem acQ {T:Prop} (c:T) {e:TypeId} {lo:Nat} {v w:Value} {cs:List Value} {k:IntKind} {ys:List Int} {E:TypeId} (o:Own h lo n e v cs) (r:Row h n E k w ys) (m:cs.length+ys.length<=1099511627776) (A:n0<=lo) (f:lo<=n) (d:Value->M β)
 (y:∀j h' n',n<=n'->Own h' lo n' e j (cs++aW k ys)->(∀b,aJ j b->aJ v b∨n<=b)->(∀b,b<n->¬aJ v b->h'.get b=h.get b)->af W n0 (d j) h' n' Q):af W n0 (bL e 1 v w d) h n Q:=by
 by_cases D:ys.length=0
 ·have t:ys=[]:=List.length_eq_zero_iff.1 D;subst t;obtain⟨a,J,u⟩:=r.len;have g:ic w=some 0:=by rw[u];rfl
  obtain⟨I,q,G,x⟩:∃a l c,v= .slice a l c:=by
   rcases o with ⟨rfl,_⟩|⟨b,rfl,_⟩
   ·exact⟨_,_,_,rfl⟩
   ·exact⟨_,_,_,rfl⟩
  subst x;refine BK (news:=[]) c g I q G d ?_;exact y _ h n (ah n) (by simpa[aW]using o) (fun b i=> .inl i) (fun b _ _=>rfl)
 ·have s:=r.src jO;have g:=eh k ys;rcases o with ⟨rfl,rfl⟩|⟨b,rfl,B,h1,C⟩
  ·refine OJ c s jO (by rw[g];simp at m;omega) (G2 k ys) d ?_;refine y _ _ (n+1) (eL n) (.inr ⟨n,rfl,by rw[get_eq];simp,f,dO n⟩) (fun b i=> .inr (by rw[i.inj];exact ah n)) (fun b i _=>aw _ _ jO)
  ·refine OK c s jO (G2 k ys) B C 0 cs.length jO (by rw[js,iY]) (by rw[g];exact m) jO (.inl jO) d ?_;refine y _ _ (n+1) (eL n) (.inr ⟨n,jS,get_eq _ _ _,f,dO n⟩) (fun c p=> .inr (by rw[p.inj];exact ah n)) (fun c p z=> ?_);have:c≠b:=fun e=>z ⟨0,_,_,by rw[e]⟩;rw[aw _ _ jO,aw _ _ this]
end
end Go.Proofs.YtmjolmggelkjlaaGreat.Ev
namespace Go.Proofs.YtmjolmggelkjlaaGreat.Ev
open Go Go.RowKit
theorem acR{w:World}{b off:Nat}{v:Value}(h:w.cell? ⟨b,off,none⟩=some v):∃cs e c,w.heap[b]? =some (.cells cs e c)∧cs[off]? =some v:=by
 unfold World.cell? at h;cases a:w.heap[b]? with
 |none=>simp[a]at h
 |some o=>
  cases o with
  |cells cs e c=>exact⟨cs,e,c,rfl,by simpa[a]using h⟩
  |_=>simp[a]at h
structure Laid (P:Program) (w:World) (m:Mp) (h:H) (n:Nat):Prop where
 wr:WR P m w.heap.size h w.heap
 gl:Gl P m
 fresh:∀b,n<=b->m b=none
 own:∀b B,h.get b=some B->B.own=false
 glo:P.globals.size<=n
theorem OQ(P:Program)(w:World):∃m,Laid P w m .nil P.globals.size:=by
 have a:∀b B,¬(H.get (.nil:H) b=some B):=fun b B c=>by unfold H.get at c;rw[Tr.get_nil]at c;cases c
 exact⟨fun g=>if g<P.globals.size then some ⟨g,0,0,0,0⟩else none,⟨fun b B c=>absurd c (a b B),fun b h B i d f c=>absurd c (a b B)⟩,
  fun g c=>⟨⟨g,0,0,0,0⟩,if_pos c,rfl,rfl⟩,fun b e=>if_neg jO,fun b B c=>absurd c (a b B),ah _⟩
theorem acS{P:Program}{c:List FuncId}(i:qU P=true)(g:pY P c=true)(d:P.follows .mixedOrders=true)(j:sX P c){fuel:Nat}{f:FuncId}{w:World}{m:Mp}{h:H}(x:Laid P w m h P.globals.size)(a:AK (cH P c fuel f #[] h P.globals.size)=true):
 Calls P f #[] w fun e w'=>e= .returned (.bool true)∧Below w.heap.size w w':=by
 unfold AK at a;split at a
 ·rename_i o q;obtain⟨v,k,l,L⟩:=o;simp only at a;split at a
  ·rename_i b t;subst a;refine(MP i g d j fuel f #[] h P.globals.size _ k l L m w #[] q x.wr (ah w.heap.size) .nil (fun b k _=>x.fresh b k) x.gl).mono ?_;rintro e w' ⟨s,r,rfl,p,n⟩;refine⟨?_,p.below⟩;cases n;rfl
  ·cases a
 ·cases a
theorem acT {P:Program} (i:qU P=true) (g:pY P KN=true) (c:P.follows .mixedOrders=true) (j:sX P KN) (hd:kD P=true) {w:World} {m:Mp} {h:H} {n:Nat} (x:Laid P w m h n) {gt:Nat->Hint} {Y d:Nat} {f:FuncId} {args a:Array Value} (u:bp m args.toList a.toList)
 (r:af (fun _=>False) n (aj P gt Y d f args) h n fun v _ _=>v= .bool true):Calls P f a w fun e w'=>e= .returned (.bool true)∧Below w.heap.size w w':=by
 obtain⟨v,o,l,L,y,B,_,rfl⟩:=r;obtain⟨p,k⟩:=BE hd d f args h n _ o l L y;refine(MP i g c j p f args h n _ o l L m w a (k p (ah _)) x.wr (ah _) u (fun b t _=>x.fresh b t) x.gl).mono ?_;rintro e w' ⟨A,z,rfl,s,q⟩;refine⟨?_,s.below⟩;cases q;rfl
end Go.Proofs.YtmjolmggelkjlaaGreat.Ev
namespace Go.Proofs.YtmjolmggelkjlaaGreat.Ev
open Go
section
variable {β:Type} {W:Nat->Prop} {n0:Nat} {h:H} {n:Nat} {Q:β->H->Nat->Prop} {e:TypeId}
theorem G3{sz:Nat}(b off:Nat)(k:Value->M β){B:AB}(d:h.get b=some B)(f:b<n)(c:off+sz<=B.cells.length)(x:af W n0 (k (.agg ((B.cells.drop off).take sz).toArray)) h n Q):af W n0 (aT sz (.pointer (some ⟨b,off,none⟩)) k) h n Q:=by
 obtain⟨L,l,j⟩:=rA d f sz off c;refine jG ?_
 have e:((ig b off sz).bind fun a=>M.ret (mC ⟨a⟩)) h n=some ⟨.agg ((B.cells.drop off).take sz).toArray,h,n,L++[]⟩:=by rw[mM];exact bX l rfl
 obtain⟨m,i,g⟩:=BG (W:=W) (n0:=n0) e (by simpa using j);exact af.step i (ah _) g x
theorem G4:∀(vs:List Value) (b off:Nat) (e:TypeId) (cs:List Value) (h:H) (n:Nat),h.get b=some ⟨e,true,cs⟩->b<n->off+vs.length<=cs.length->vs.all one=true->
 ∃h' L,eG b off vs h n=some ⟨(),h',n,L⟩∧h'.get b=some ⟨e,true,cs.take off++vs++cs.drop (off+vs.length)⟩∧(∀c,c≠b->h'.get c=h.get c)∧∀x∈L,x.b=b
 |[],b,off,e,cs,h,n,a,d,g,_=>⟨h,[],rfl,by simpa using a,fun _ _=>rfl,jS⟩
 |v::vs,b,off,e,cs,h,n,a,d,g,f=>by
  simp only[List.all_cons,bW]at f;simp only[cK]at g
  have k:wr b off v h n=some ⟨(),h.set b (some ⟨e,true,cs.set off v⟩),n,[⟨false,b,some off⟩,⟨true,b,some off⟩]⟩:=by unfold wr;have:off<cs.length:=jO;simp[d,a,this,f.1]
  obtain⟨h',L,r,p,o,m⟩:=G4 vs b (off+1) e (cs.set off v) (h.set b (some ⟨e,true,cs.set off v⟩)) n (get_eq _ _ _) d (by simp;omega) f.2;refine⟨h',_,bX k r, ?_,fun c i=>(o c i).trans (aw _ _ i),fun x j=> ?_⟩
  ·rw[p];congr 2
   have l:(cs.set off v).take (off+1)=cs.take off++[v]:=by rw[List.take_set,List.take_succ_eq_append_getElem jO,List.set_append_right _ _ (by simp;omega)];simp[Nat.min_eq_left (show off<=cs.length by omega)]
   have hd:(cs.set off v).drop (off+1+vs.length)=cs.drop (off+(v::vs).length):=by rw[List.drop_set_of_lt jO];congr 1;simp only[cK];omega
   rw[l,hd];simp
  ·rcases Fb.1 j with q|q
   ·simp at q;rcases q with rfl|rfl<;>rfl
   ·exact m x q
theorem nH {T:Prop} (_:T) {sz b off:Nat} {e:TypeId} {cs vs:List Value} {v:Value} (j:v= .agg vs.toArray) (a:vs.length=sz) (h1:vs.all one=true) (l:h.get b=some ⟨e,true,cs⟩) (m:b<n) (t:off+sz<=cs.length) (i:n0<=b∨W b) (k:Value->M β)
 (x:∀h',h'.get b=some ⟨e,true,cs.take off++vs++cs.drop (off+sz)⟩->(∀c,c≠b->h'.get c=h.get c)->af W n0 (k undef) h' n Q):af W n0 (aM sz (.pointer (some ⟨b,off,none⟩)) v k) h n Q:=by
 obtain⟨h',L,s,r,q,p⟩:=G4 vs b off e cs h n l m jO h1;subst j
 have d:aM sz (.pointer (some ⟨b,off,none⟩)) (.agg vs.toArray) k=ek ((ny b off vs).bind fun _=> .ret undef) k:=by
  show(match bV (fF vs) sz with
   |true=>ek ((ny b off vs).bind fun _=> .ret undef) k
   |false=> .fail)=_
  rw[me,a,xp]
 rw[d];refine jG ?_
 have o:((ny b off vs).bind fun _=>M.ret undef) h n=some ⟨undef,h',n,L++[]⟩:=by rw[xL];exact bX s rfl
 refine af.step (jy o) (ah _) (fun y g f=> ?_) (x h' (by rw[r,a]) q);have:=(List.mem_filter.1 g).1;rw[bR]at this;rw[p y this];exact i
end
end Go.Proofs.YtmjolmggelkjlaaGreat.Ev
