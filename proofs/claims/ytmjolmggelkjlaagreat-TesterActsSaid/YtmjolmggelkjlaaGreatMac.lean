import Derived.Test.YtmjolmggelkjlaaGreatMab
import Derived.ProofKit
import Derived.OpenShut
open Nat renaming le_refl→ah, ble→bI, beq→bY, lt_succ_self→dI, le_succ→eL, zero_add→fD, succ→fF, le_of_ble_eq_true→gJ, add→gK, add_zero→iO, mod_lt→jF, mod→j2, eq_of_beq_eq_true→lf, mod_eq_of_lt→lh, ble_eq_true_of_le→lQ, add_mul→oR, mul_one→vu, beq_refl→xH, one_mul→aoa
open List renaming getElem?_eq_getElem→bB, replicate→bU, append_nil→bV, length_cons→cP, append_assoc→ey, take_length→jf, not_mem_nil→jl, drop_zero→jz, nil_append→lk, getElem?_eq_none→oP, mem_cons_of_mem→vv, take_of_length_le→FE, mem_append→FG, reverse_cons→aa6, mem_cons→aa7, extract_eq_take_drop→anM
open Bool renaming and_eq_true→bZ, or_eq_true→oO, false_eq_true→oQ, not_eq_true'→AN, false_ne_true→an0
open BitVec renaming ofInt→cb, toNat_and→FA, toNat_or→an9, toNat_xor→an'
open Option.some renaming injEq→dH
open Go.Region renaming wanted→gy
open Int renaming ofNat→gW, toNat_of_nonneg→mb, natCast_nonneg→oS, fdiv_eq_ediv_of_nonneg→MB, natCast_ediv→an_
open Go renaming binOp→je, convert→My
open Go.Value renaming slice→j3, agg→mM, pointer→FD
open Go.Instr renaming fill→lP, index→AL, sliceAt→Fp, sliceBound→Ms
open Go.Op renaming equal→qV, equalIn→vp, bytesLess→apx, stringOp→aa5, maxDepth→anU, intDiv→an7, shift→an8
open Array renaming all_eq_true_iff_forall_mem→sR, getElem?_toList→Fu, length_toList→FB
open Go.Next renaming value→MA
open ByteArray renaming data_extract→aaX, size→aph
open Go.ByteArray renaming toList_eq→api
set_option linter.unusedVariables false
set_option linter.unusedSimpArgs false
set_option linter.unusedSectionVars false
namespace Go.Proofs.YtmjolmggelkjlaaGreat.Ev
open Go Go.RowKit
theorem iT{P:Program}{a:BinOp}{t:TypeId}{x y v:Value}(e:mj P t=false)(c:(scalar x&&scalar y)=true)(d:jo P (do pure (.value (<-je a t x y)))=some v)(b:scalar v=true):dQ P a t x y=some v:=by unfold dQ F' mi;rw[e,c];simp only;rw[d];simp only[b]
section
variable {P:Program} {t:TypeId} {k:IntKind} (hn:mj P t=false) (a b:Int)
include hn
theorem acM:dQ P .add t (.int k a) (.int k b)=some (.int k (k.wrap (a+b))):=iT hn rfl (by unfold je;simp only[ne_eq,not_true_eq_false,if_false];rfl) rfl
theorem acN:dQ P .sub t (.int k a) (.int k b)=some (.int k (k.wrap (a-b))):=iT hn rfl (by unfold je;simp only[ne_eq,not_true_eq_false,if_false];rfl) rfl
theorem acO:dQ P .mul t (.int k a) (.int k b)=some (.int k (k.wrap (a*b))):=iT hn rfl (by unfold je;simp only[ne_eq,not_true_eq_false,if_false];rfl) rfl
theorem acP(c:b≠0):dQ P .quo t (.int k a) (.int k b)=some (.int k (k.wrap (a.tdiv b))):=iT hn rfl (by unfold je an7;simp only[ne_eq,not_true_eq_false,if_false,c];rfl) rfl
theorem acQ(c:b≠0):dQ P .rem t (.int k a) (.int k b)=some (.int k (a.tmod b)):=iT hn rfl (by unfold je an7;simp only[ne_eq,not_true_eq_false,if_false,c];rfl) rfl
theorem acR:dQ P .eql t (.int k a) (.int k b)=some (.bool (a==b)):=iT hn rfl (by unfold je;simp only[ne_eq,not_true_eq_false,if_false];rfl) rfl
theorem acS:dQ P .neq t (.int k a) (.int k b)=some (.bool (a !=b)):=iT hn rfl (by unfold je;simp only[ne_eq,not_true_eq_false,if_false];rfl) rfl
theorem acT:dQ P .lss t (.int k a) (.int k b)=some (.bool (decide (a<b))):=iT hn rfl (by unfold je;simp only[ne_eq,not_true_eq_false,if_false];rfl) rfl
theorem acU:dQ P .leq t (.int k a) (.int k b)=some (.bool (decide (a<=b))):=iT hn rfl (by unfold je;simp only[ne_eq,not_true_eq_false,if_false];rfl) rfl
theorem acV:dQ P .gtr t (.int k a) (.int k b)=some (.bool (decide (b<a))):=iT hn rfl (by unfold je;simp only[ne_eq,not_true_eq_false,if_false];rfl) rfl
theorem acW:dQ P .geq t (.int k a) (.int k b)=some (.bool (decide (b<=a))):=iT hn rfl (by unfold je;simp only[ne_eq,not_true_eq_false,if_false];rfl) rfl
theorem acX{c:IntKind}(d:0<=b):dQ P .shl t (.int k a) (.int c b)=some (.int k (k.wrap (a*2^(min b.toNat k.bits)))):=iT hn rfl (by unfold je an8;simp only[show¬b<0 by omega,if_false];rfl) rfl
theorem acY{c:IntKind}(d:0<=b):dQ P .shr t (.int k a) (.int c b)=some (.int k (a.fdiv (2^(min b.toNat k.bits)))):=iT hn rfl (by unfold je an8;simp only[show¬b<0 by omega,if_false];rfl) rfl
theorem acZ:dQ P .and t (.int k a) (.int k b)=some (.int k (k.wrap (cb k.bits a&&&cb k.bits b).toNat)):=iT hn rfl (by unfold je;simp only[ne_eq,not_true_eq_false,if_false];rfl) rfl
theorem ac0:dQ P .or t (.int k a) (.int k b)=some (.int k (k.wrap (cb k.bits a|||cb k.bits b).toNat)):=iT hn rfl (by unfold je;simp only[ne_eq,not_true_eq_false,if_false];rfl) rfl
theorem ac1:dQ P .xor t (.int k a) (.int k b)=some (.int k (k.wrap (cb k.bits a^^^cb k.bits b).toNat)):=iT hn rfl (by unfold je;simp only[ne_eq,not_true_eq_false,if_false];rfl) rfl
end
theorem BO(l:List UInt8):(⟨l.toArray⟩:ByteArray).size=l.length:=by simp[aph]
theorem N4(l:List UInt8):(⟨l.toArray⟩:ByteArray).toList=l:=by rw[api]
theorem ac2(s:ByteArray):s=⟨s.data.toList.toArray⟩:=by cases s;simp
theorem ac3(a b:List UInt8):(⟨a.toArray⟩:ByteArray)++⟨b.toArray⟩=⟨(a++b).toArray⟩:=by apply ByteArray.ext;simp
theorem BP(l:List UInt8)(i j:Nat):(⟨l.toArray⟩:ByteArray).extract i j=⟨((l.drop i).take (j-i)).toArray⟩:=by apply ByteArray.ext;simp[aaX,anM]
section
variable {P:Program} {t:TypeId}
theorem ac4(c:mj P t=false)(a b:List UInt8):dQ P .eql t (.string ⟨a.toArray⟩) (.string ⟨b.toArray⟩)=some (.bool (decide (a=b))):=by
 refine iT c rfl ?_ rfl;unfold je aa5;simp only[N4]
 have:(a==b)=decide (a=b):=by
  by_cases h:a=b
  ·subst h;simp
  ·simp[h]
 rw[this];rfl
theorem apz(c:mj P t=false)(a b:List UInt8):dQ P .lss t (.string ⟨a.toArray⟩) (.string ⟨b.toArray⟩)=some (.bool (apx a b)):=by refine iT c rfl ?_ rfl;unfold je aa5;simp only[N4];rfl
theorem ac5(c:mj P t=false)(a b:List UInt8):dQ P .neq t (.string ⟨a.toArray⟩) (.string ⟨b.toArray⟩)=some (.bool (!decide (a=b))):=by
 refine iT c rfl ?_ rfl;unfold je aa5;simp only[N4]
 have:(a==b)=decide (a=b):=by
  by_cases h:a=b
  ·subst h;simp
  ·simp[h]
 rw[this];rfl
theorem ac6(c:mj P t=false)(a b:List UInt8)(h:a.length+b.length<=9223372036854775807):dQ P .add t (.string ⟨a.toArray⟩) (.string ⟨b.toArray⟩)=some (.string ⟨(a++b).toArray⟩):=by
 refine iT c rfl ?_ rfl;unfold je aa5;simp only[BO,ac3]
 have d:¬(((a.length+b.length:Nat):Int)>IntKind.i64.max):=by have:IntKind.i64.max=9223372036854775807:=jD;rw[this];omega
 rw[if_neg d];rfl
end
section
variable {P:Program} {t:TypeId}
theorem ac7(h:P.underlying t=some .string)(l:List UInt8)(k:IntKind)(i:Int)(e:0<=i)(h1:i<l.length):tm P t (.string ⟨l.toArray⟩) (.int k i)=some (.int .u8 (l.getD i.toNat 0).toNat):=by
 have b:i.toNat<l.length:=jO;have c:nF P t=true:=by unfold nF;rw[h]
 unfold tm Bc mi;rw[c];simp only[isStr,scalar]
 have d:(⟨l.toArray⟩:ByteArray)[i.toNat]? =some (l.getD i.toNat 0):=by
  have a:i.toNat<(⟨l.toArray⟩:ByteArray).size:=by rw[BO];exact b
  rw[getElem?_pos (⟨l.toArray⟩:ByteArray) i.toNat a];rw[List.getD_eq_getElem?_getD,bB b];rfl
 have:jo P (do pure (MA (<-AL t (.string ⟨l.toArray⟩) (.int k i))))=some (.int .u8 (l.getD i.toNat 0).toNat):=by unfold AL;simp only[asIntOf,pure_bind,bind_assoc];rw[o9 h];simp only[e,if_true,d];rfl
 rw[this]
theorem ac8(h:P.underlying t=some .string){z:Type}(l:List UInt8)(lo g:Option Value){a b:Nat}(x:ej lo 0=some a)(v:ej g l.length=some b)(h1:a<=b)(h2:b<=l.length)(k:Value->M z):vH P t (.string ⟨l.toArray⟩) lo g none k=k (.string ⟨((l.drop a).take (b-a)).toArray⟩):=by
 have A:nF P t=true:=by unfold nF;rw[h]
 have bd:∀(o:Option Value) (d m:Nat),ej o d=some m->(o=none∧m=d)∨∃n i,o=some (.int n i)∧0<=i∧m=i.toNat:=by
  intro o d m f;unfold ej at f;split at f
  ·cases f;exact .inl ⟨rfl,rfl⟩
  ·rename_i n i;split at f
   ·rename_i r;cases f;exact .inr ⟨n,i,rfl,r,rfl⟩
   ·cases f
  ·cases f
 have q:(ti lo&&ti g&&ti none)=true:=by rcases bd lo _ _ x with ⟨rfl,_⟩|⟨_,_,rfl,_⟩<;>rcases bd g _ _ v with ⟨rfl,_⟩|⟨_,_,rfl,_⟩<;>rfl
 have e:∀(n:IntKind) (i:Int) (y:Nat) (c:BoundsCode),0<=i->i.toNat<=y->Ms (.int n i) y c=pure i.toNat:=by intro n i y c r h1;unfold Ms asIntOf;simp only[pure_bind];rw[if_pos ⟨r,jO⟩]
 have p:jo P (do pure (MA (<-Fp t (.string ⟨l.toArray⟩) lo g none)))=some (.string ⟨((l.drop a).take (b-a)).toArray⟩):=by
  unfold Fp;simp only[bind_assoc];rw[o9 h];simp only;unfold Instr.slice;simp only[bind_assoc];rw[o9 h];simp only[Option.isSome_none,oQ,if_false,pure_bind,bind_assoc,BO];unfold Instr.sliceBounds;rcases bd lo _ _ x with ⟨rfl,rfl⟩|⟨_,i,rfl,u,rfl⟩<;>rcases bd g _ _ v with ⟨rfl,rfl⟩|⟨_,j,rfl,s,rfl⟩
  ·simp only[pure_bind,bind_assoc,BP];rfl
  ·simp only[e _ j l.length _ s h2,pure_bind,bind_assoc,BP];rfl
  ·simp only[e _ i l.length _ u h1,pure_bind,bind_assoc,BP];rfl
  ·simp only[e _ j l.length _ s h2,e _ i j.toNat _ u h1,pure_bind,bind_assoc,BP];rfl
 unfold vH;rw[A];simp only
 have:Bb P t (.string ⟨l.toArray⟩) lo g none=some (.string ⟨((l.drop a).take (b-a)).toArray⟩):=by unfold Bb mi;simp only[isStr,q];rw[p];rfl
 rw[this];rfl
end
section
variable {β:Type} {P:Program} {t:TypeId} {x y:Value} {k:Value->M β} {h:H} {n:Nat} {r:Out β}
theorem eR{o:Option Value}{v:Value}(e:o=some v)(a:k v h n=some r):bg o k h n=some r:=by subst e;exact a
theorem qx{e:BinOp}{f:IntKind->Int->Int->Value}(g:∀j a b,dQ P e t (.int j a) (.int j b)=some (f j a b))(c:kL f x y k h n=some r):bg (dQ P e t x y) k h n=some r:=by
 unfold kL at c;split at c
 ·split at c
  ·rename_i a p _ b q;cases d:pf a b with
   |false=>simp only[d]at c;cases c
   |true=>obtain rfl:=Bw d;simp only[d]at c;exact eR (g _ _ _) c
  ·cases c
 ·cases c
theorem GB{e:BinOp}{f:Nat->Nat->Nat}(g:∀(j:IntKind) (a b:Nat),dQ P e t (.int j (.ofNat a)) (.int j (.ofNat b))=some (.int j (j.wrap (.ofNat (f (j2 a (pw j)) (j2 b (pw j)))))))(c:tC f x y k h n=some r):bg (dQ P e t x y) k h n=some r:=by
 unfold tC at c;split at c
 ·split at c
  ·rename_i a p _ b q;cases d:pf a b with
   |false=>simp only[d]at c;cases c
   |true=>obtain rfl:=Bw d;simp only[d]at c;exact eR (g _ _ _) (by rw[<-kK];exact c)
  ·cases c
 ·cases c
theorem rI{j:IntKind}(a b:Nat):(cb j.bits (gW a)).toNat=j2 a (pw j)∧(cb j.bits (gW b)).toNat=j2 b (pw j):=by rw[acI];exact⟨NQ _ _,NQ _ _⟩
end
noncomputable def GC {a:Type} (b:BinOp) (x y:Value) (k:Value->M a):M a:=match b with
 | .add=>aq x y k
 | .sub=>cO x y k
 | .mul=>dR x y k
 | .quo=>iS x y k
 | .rem=>kN x y k
 | .eql=>cH x y k
 | .neq=>fG x y k
 | .lss=>dV x y k
 | .leq=>mr x y k
 | .gtr=>jh x y k
 | .geq=>qu x y k
 | .and=>yi x y k
 | .or=>yk x y k
 | .xor=>nN x y k
 | .shl=>mv x y k
 | .shr=>pj x y k
 | .andNot=> .fail
noncomputable def N5 {a:Type} (b:BinOp) (c:Option (List Nat)) (x y:Value) (k:Value->M a):M a:=match c with
 |some l=>match b with
  | .eql=>Gv l x y k
  | .neq=>N0 l x y k
  |_=> .fail
 |none=> .fail
noncomputable def GD {b:Type} (d:Option TypeDesc) (c:Option (List Nat)) (a:BinOp) (x y:Value) (k:Value->M b):M b:=match d,a with
 |some (.struct _),a=>N5 a c x y k
 |some (.pointer _),.eql=>qv x y k
 |some (.pointer _),.neq=>ym x y k
 |some (.slice _),.eql=>yn x y k
 |some (.slice _),.neq=>yo x y k
 |some (.func _ _ _),.eql=>Gw x y k
 |some (.func _ _ _),.neq=>Gx x y k
 |_,_=> .fail
def GF:Option TypeDesc->Bool
 |some .bool=>true
 |_=>false
noncomputable def N6 {a:Type} (b:BinOp) (x y:Value) (k:Value->M a):M a:=match b with
 | .eql=>BG x y k
 | .neq=>yl x y k
 |_=> .fail
noncomputable def GG {b:Type} (P:Program) (a:BinOp) (t:TypeId) (x y:Value) (k:Value->M b):M b:=match mj P t with
 |true=>GD (P.underlying t) (sZ P t) a x y k
 |false=>match GF (P.underlying t)with
  |true=>N6 a x y k
  |false=>GC a x y k
section
variable {β:Type} {P:Program} {t:TypeId} {x y:Value} {k:Value->M β} {h:H} {n:Nat} {r:Out β}
theorem N7(a b:List UInt8)(c:mj P t=false):dQ P .eql t (.string ⟨⟨a⟩⟩) (.string ⟨⟨b⟩⟩)=some (.bool (qm a b))∧dQ P .neq t (.string ⟨⟨a⟩⟩) (.string ⟨⟨b⟩⟩)=some (.bool (!qm a b)):=by rw[Bt];exact⟨ac4 c a b,ac5 c a b⟩
theorem ac9{g:BinOp}(d:mj P t=false)(c:GC g x y k h n=some r):bg (dQ P g t x y) k h n=some r:=by
 cases g<;>simp only[GC]at c
 case add=>
  unfold aq at c;split at c
  ·split at c
   ·rename_i a _ b;cases i:bI (gK (jt a) (jt b)) 9223372036854775807 with
    |false=>simp only[i]at c;cases c
    |true=>simp only[i]at c;have:=gJ i;rw[pe,pe]at this;exact eR (ac6 (P:=P) d _ _ this) (by rw[<-Gd];exact c)
   ·cases c
  ·exact qx (fun j a b=>by rw[acM d,kK,NO]) c
 case sub=>exact qx (fun j a b=>by rw[acN d,kK,Bq]) c
 case mul=>exact qx (fun j a b=>by rw[acO d,kK,NP]) c
 case quo=>
  unfold iS at c;split at c
  ·split at c
   ·rename_i a p _ b q;cases f:pf a b with
    |false=>simp only[f]at c;cases c
    |true=>
     obtain rfl:=Bw f;cases e:pd q 0 with
     |true=>simp only[f,e]at c;cases c
     |false=>simp only[f,e]at c;rw[rB]at e;exact eR (acP d _ _ (beq_eq_false_iff_ne.1 e)) (by rw[<-kK];exact c)
   ·cases c
  ·cases c
 case rem=>
  unfold kN at c;split at c
  ·split at c
   ·rename_i a p _ b q;cases f:pf a b with
    |false=>simp only[f]at c;cases c
    |true=>
     obtain rfl:=Bw f;cases e:pd q 0 with
     |true=>simp only[f,e]at c;cases c
     |false=>simp only[f,e]at c;rw[rB]at e;exact eR (acQ d _ _ (beq_eq_false_iff_ne.1 e)) c
   ·cases c
  ·cases c
 case and=>exact GB (fun j a b=>by rw[acZ d,FA,(rI a b).1,(rI a b).2];rfl) c
 case or=>exact GB (fun j a b=>by rw[ac0 d,an9,(rI a b).1,(rI a b).2];rfl) c
 case xor=>exact GB (fun j a b=>by rw[ac1 d,an',(rI a b).1,(rI a b).2];rfl) c
 case shl=>
  unfold mv at c;split at c
  ·rename_i a p;split at c
   ·rename_i j q;exact eR (acX d _ _ (oS q)) (by rw[<-kK];exact c)
   ·cases c
  ·cases c
 case shr=>
  unfold pj at c;split at c
  ·rename_i a p;split at c
   ·rename_i j q;refine eR (acY d _ _ (oS q)) ?_
    have l:(gW p).fdiv (2^min (gW q).toNat a.bits)=gW (p/2^min q a.bits):=by show((p:Nat):Int).fdiv (2^min q a.bits)=((p/2^(min q a.bits):Nat):Int);have l:(2:Int)^(min q a.bits)=((2^(min q a.bits):Nat):Int):=jS;rw[l,MB _ (oS _),<-an_]
    exact l▸c
   ·cases c
  ·cases c
 case andNot=>cases c
 case eql=>
  unfold cH at c;split at c
  ·split at c
   ·exact eR (N7 _ _ d).1 c
   ·cases c
  ·exact qx (fun j a b=>by rw[acR d,rB]) c
 case neq=>
  unfold fG at c;split at c
  ·split at c
   ·exact eR (N7 _ _ d).2 c
   ·cases c
  ·exact qx (fun j a b=>by rw[acS d,rB];rfl) c
 case lss=>
  unfold dV at c;split at c
  ·split at c
   ·exact eR ((apz d _ _).trans (by rw[apw])) c
   ·cases c
  ·exact qx (fun j a b=>by rw[acT d,ql]) c
 case leq=>exact qx (fun j a b=>by rw[acU d,Bs]) c
 case gtr=>exact qx (fun j a b=>by rw[acV d,ql]) c
 case geq=>exact qx (fun j a b=>by rw[acW d,Bs]) c
end
section
variable {β:Type} {P:Program} {t:TypeId} {x y a:Value} {k:Value->M β} {h:H} {n:Nat} {r:Out β}
theorem lE{m a:M Value}(e:m=a)(b:eA m k h n=some r):((inside a).bind k) h n=some r:=by subst e;rw[<-lT];exact b
theorem ac'{g:BinOp}(A:mj P t=true)(a:GD (P.underlying t) (sZ P t) g x y k h n=some r):bg (dQ P g t x y) k h n=some r:=by
 have i:∀(b:Bool) (v:Value),oW P t x y=some b->((g= .eql∧v= .bool b)∨(g= .neq∧v= .bool (!b)))->k v h n=some r->bg (dQ P g t x y) k h n=some r:=by intro b v e z s;refine eR (v:=v) ?_ s;unfold dQ F9;rw[A,e];rcases z with ⟨rfl,rfl⟩|⟨rfl,rfl⟩<;>rfl
 have c:∀(b:Bool) (v:Value),oV (P.underlying t) x y=some b->((g= .eql∧v= .bool b)∨(g= .neq∧v= .bool (!b)))->k v h n=some r->bg (dQ P g t x y) k h n=some r:=fun b v e=>i b v (by unfold oW;rw[e]);have f:∀(u:Array Field) (b:Bool) (v:Value),P.underlying t=some (.struct u)->FN (sZ P t) x y=some b->((g= .eql∧v= .bool b)∨(g= .neq∧v= .bool (!b)))->k v h n=some r->bg (dQ P g t x y) k h n=some r:=fun u b v B e=>i b v (by unfold oW oV;rw[B];exact e);generalize hd:P.underlying t=d at a c f;generalize s:sZ P t=C at a f;unfold GD at a;split at a
 ·unfold N5 at a;split at a
  ·rename_i l;split at a
   ·unfold Gv at a;cases x<;>try(cases a;done)
    rename_i p;obtain⟨q⟩:=p;cases y<;>try(cases a;done)
    rename_i m;obtain⟨o⟩:=m;simp only at a;cases j:lA l q o with
    |none=>simp only[j]at a;cases a
    |some b=>simp only[j]at a;exact f _ b _ rfl j (.inl ⟨rfl,rfl⟩) a
   ·unfold N0 at a;cases x<;>try(cases a;done)
    rename_i p;obtain⟨q⟩:=p;cases y<;>try(cases a;done)
    rename_i m;obtain⟨o⟩:=m;simp only at a;cases j:lA l q o with
    |none=>simp only[j]at a;cases a
    |some b=>simp only[j]at a;exact f _ b _ rfl j (.inr ⟨rfl,rfl⟩) a
   ·cases a
  ·cases a
 ·unfold qv BH at a;split at a<;>first|(split at a<;>first|exact c _ _ rfl (.inl ⟨rfl,rfl⟩) a|cases a)|cases a
 ·unfold ym BH at a;split at a<;>first|(split at a<;>first|exact c _ _ rfl (.inr ⟨rfl,rfl⟩) a|cases a)|cases a
 ·unfold yn BI at a;split at a<;>first|(split at a<;>first|exact c _ _ rfl (.inl ⟨rfl,rfl⟩) a|cases a)|cases a
 ·unfold yo BI at a;split at a<;>first|(split at a<;>first|exact c _ _ rfl (.inr ⟨rfl,rfl⟩) a|cases a)|cases a
 ·unfold Gw BJ at a;split at a<;>first|(split at a<;>first|exact c _ _ rfl (.inl ⟨rfl,rfl⟩) a|cases a)|cases a
 ·unfold Gx BJ at a;split at a<;>first|(split at a<;>first|exact c _ _ rfl (.inr ⟨rfl,rfl⟩) a|cases a)|cases a
 ·cases a
theorem ac_{b c:Bool}(e:P.underlying t=some .bool):jo P (do pure (.value (.bool (<-qV t (.bool b) (.bool c)))))=some (.bool (b==c)):=by unfold qV anU vp;simp only[bind_assoc];rw[o9 e];rfl
theorem ada{i:BinOp}(a:GG P i t x y k h n=some r):bg (dQ P i t x y) k h n=some r:=by
 unfold GG at a;cases g:mj P t with
 |true=>simp only[g]at a;exact ac' g a
 |false=>
  simp only[g]at a;cases f:GF (P.underlying t)with
  |false=>simp only[f]at a;exact ac9 g a
  |true=>
   simp only[f]at a
   have e:P.underlying t=some .bool:=by
    revert f;generalize P.underlying t=d;intro f;unfold GF at f;split at f
    ·rfl
    ·cases f
   unfold N6 at a;split at a
   ·unfold BG at a;split at a
    ·split at a
     ·rename_i b _ c;refine eR (v:= .bool (b==c)) (iT g rfl ?_ rfl) (by cases b<;>cases c<;>exact a);unfold je;simp only[bind_assoc,pure_bind];exact ac_ e
     ·cases a
    ·cases a
   ·unfold yl at a;split at a
    ·split at a
     ·rename_i b _ c;refine eR (v:= .bool (!(b==c))) (iT g rfl ?_ rfl) (by cases b<;>cases c<;>exact a);unfold je;simp only[bind_assoc,pure_bind];unfold qV anU vp;simp only[bind_assoc];rw[o9 e];rfl
     ·cases a
    ·cases a
   ·cases a
end
noncomputable section
variable {β:Type} (P:Program)
def GH(a:UnOp)(x:Value)(k:Value->M β):M β:=match a with
 | .not=>dC x k
 | .neg=>BK x k
 | .xor=>BL x k
 |_=> .fail
def GI(src a:TypeId)(x:Value)(k:Value->M β):M β:=match qZ (P.underlying src) (P.underlying a)with
 |some e=>match mR P e with
  |true=>hC x k
  |false=> .fail
 |none=>match th (P.underlying src) (P.underlying a)with
  |some e=>match mR P e&&size? P e==some 1 with
   |true=>vR e x k
   |false=> .fail
  |none=>match P.underlying src with
   |some _=>match P.underlying a with
    |some (.int b)=>dh b x k
    |some .string=>N2 x k
    |_=> .fail
   |none=> .fail
def BQ(t:TypeId)(a:Value)(k:Value->M β):M β:=match jn P t with
 |some true=>match size? P t with
  |some b=>bc b a k
  |none=> .fail
 |some false=>aP a k
 |none=> .fail
def GJ(t:TypeId)(a x:Value)(k:Value->M β):M β:=match size? P t with
 |some b=>match jn P t with
  |some true=>aQ b a x k
  |some false=>match bY b 1 with
   |true=>aJ a x k
   |false=> .fail
  |none=> .fail
 |none=> .fail
def GK(e:TypeId)(k:Value->M β):M β:=match gz P e with
 |some z=>cC e (dy z) k
 |none=> .fail
def GL(e:TypeId)(x:Value)(k:Value->M β):M β:=match size? P e with
 |some _=>dW e x k
 |none=> .fail
def vS(a:Nat->Option (Nat×Nat)):List (Nat×Value)->Option (List (Nat×Nat×Value))
 |[]=>some []
 |q::r=>match a q.1 with
  |some p=>match vS a r with
   |some l=>some ((p.1,p.2,q.2)::l)
   |none=>none
  |none=>none
def GM(t:TypeId)(ps:List (Nat×Value))(k:Value->M β):M β:=match gz P t with
 |some z=>match P.underlying t with
  |some (.struct a)=>match a.all fun f=>(size? P f.type).isSome with
   |true=>bg (vS (placeOf P a) ps) fun b=>bp (dy z) b k
   |false=> .fail
  |_=> .fail
 |none=> .fail
def lone:Nat->List (Nat×Value)->Option Value
 |1,[(0,v)]=>some v
 |_,_=>none
def GN(t:TypeId)(len:Nat)(ps:List (Nat×Value))(k:Value->M β):M β:=match P.underlying t with
 |some (.slice e)=>match size? P e with
  |some a=>match gz P e with
   |some z=>match bY len 0&&ps.isEmpty with
    |true=>vQ e [] 0 [] k
    |false=>match bI 1 (len*a)&&bI (len*a) 65536&&bY (fL (dy z)) a with
     |true=>match lone len ps with
      |some v=>bO e a v k
      |none=>bg (vS (fun i=>some (i*a,a)) ps) fun b=>vQ e (kP (dy z) len) len b k
     |false=> .fail
   |none=> .fail
  |none=> .fail
 |_=> .fail
def GO(t:TypeId)(l c:Value)(k:Value->M β):M β:=match P.underlying t with
 |some (.slice e)=>match P.info? e with
  |some a=>match gz P e with
   |some z=>match bI a.bytes 64&&bY (fL (dy z)) a.size&&bI 1 a.size with
    |true=>po e (dy z) l c k
    |false=> .fail
   |none=> .fail
  |none=> .fail
 |_=> .fail
def GP(t:TypeId)(x:Value)(lo a c:Option Value)(k:Value->M β):M β:=match c with
 |some _=> .fail
 |none=>match P.underlying t with
  |some .string=>bL x lo a k
  |some (.slice e)=>match size? P e with
   |some b=>nQ e b x lo a k
   |none=> .fail
  |_=> .fail
def GQ(t:TypeId)(x:Value)(f:Nat)(k:Value->M β):M β:=match P.underlying t with
 |some (.struct b)=>match b[f]? with
  |some a=>match size? P a.type with
   |some (_+1)=>ay a.offset x k
   |_=> .fail
  |none=> .fail
 |_=> .fail
def GR(t:TypeId)(x:Value)(f:Nat)(k:Value->M β):M β:=match P.underlying t with
 |some (.struct b)=>match b[f]? with
  |some a=>match jn P a.type with
   |some true=>match size? P a.type with
    |some m=>GA a.offset m x k
    |none=> .fail
   |some false=>Gz a.offset x k
   |none=> .fail
  |none=> .fail
 |_=> .fail
def GS(t:TypeId)(x b:Value)(k:Value->M β):M β:=match P.underlying t with
 |some (.slice e)=>match size? P e with
  |some a=>match bY a 1 with
   |true=>bQ x b k
   |false=>mw a x b k
  |none=> .fail
 |some (.array len e)=>match size? P e with
  |some a=>match bY a 1 with
   |true=>gN len x b k
   |false=>BM len a x b k
  |none=> .fail
 |_=> .fail
def GU(t:TypeId)(x a:Value)(k:Value->M β):M β:=match P.underlying t with
 |some .string=>cU x a k
 |some (.array len e)=>match jn P e with
  |some false=>match size? P e with
   |some b=>match bY b 1 with
    |true=>vP len x a k
    |false=> .fail
   |none=> .fail
  |_=> .fail
 |_=> .fail
def GV(a:Array TypeId)(vs:List Value)(k:Value->M β):M β:=match a[0]? with
 |some t=>match vs with
  |[x]=>match P.underlying t with
   |some (.slice _)=>bA x k
   |some .string=>bH x k
   |_=> .fail
  |_=> .fail
 |none=> .fail
def GW(vs:List Value)(k:Value->M β):M β:=match vs with
 |[x,y]=>kO x y k
 |[x,y,z,u,v,w]=>N3 x y z u v w k
 |_=> .fail
def GX(vs:List Value)(k:Value->M β):M β:=match vs with
 |[x,y]=>nO x y k
 |_=> .fail
def GY(t:TypeId)(s x:Value)(k:Value->M β):M β:=match P.underlying t with
 |some (.slice e)=>match P.info? e with
  |some a=>match gz P e with
   |some z=>match bI a.bytes 64&&bY (fL (dy z)) a.size&&bI 1 a.size with
    |true=>bN e a.size s x k
    |false=> .fail
   |none=> .fail
  |none=> .fail
 |_=> .fail
def GZ(t:TypeId)(d s:Value)(k:Value->M β):M β:=match P.underlying t with
 |some (.slice e)=>match size? P e with
  |some a=>BN a d s k
  |none=> .fail
 |_=> .fail
variable (rec:FuncId->Array Value->M Value)
def G0(s:Fr)(c:Call)(vs:List Value)(k:Value->M β):M β:=match c.callee with
 | .value (.func g)=>match nB P g with
   |true=>ai rec g vs k
   |false=> .fail
 | .value f=>bg (bD s f) fun a=>kI P rec a vs k
 | .builtin .append=>bg (vA P c.argTypes vs) fun q=>GY P q.1 q.2.1 q.2.2 k
 | .builtin .copy=>bg (vB c.argTypes vs) fun q=>GZ P q.1 q.2.1 q.2.2 k
 | .builtin .len=>GV P c.argTypes vs k
 | .builtin .min=>GW vs k
 | .builtin .max=>GX vs k
 |_=> .fail
def kQ(s:Fr)(o:Oper)(k:Value->M β):M β:=
 match o.op with
 | .move x| .assign x=>bg (bD s x) k
 | .pick c a b=>bg (bD s c) fun c=>bg (bD s a) fun a=>bg (bD s b) fun b=>Gy c a b k
 | .alloc e=>GK P e k
 | .box e x=>bg (bD s x) fun x=>GL P e x k
 | .build t d=>lD s (d.toList.map (·.2)) fun h=>GM P t ((d.toList.map (·.1)).zip h) k
 | .buildSlice t len d=>lD s (d.toList.map (·.2)) fun h=>GN P t len ((d.toList.map (·.1)).zip h) k
 | .load t a=>bg (bD s a) fun a=>BQ P t a k
 | .store t a x=>bg (bD s a) fun a=>bg (bD s x) fun x=>GJ P t a x k
 | .nilCheck x=>bg (bD s x) fun x=>ak x k
 | .binOp j t x y _=>bg (bD s x) fun x=>bg (bD s y) fun y=>GG P j t x y k
 | .unOp j _ x=>bg (bD s x) fun x=>GH j x k
 | .convert src q x=>bg (bD s x) fun x=>GI P src q x k
 | .makeFunc r a b=>lD s a.toList fun a=>lD s b.toList fun b=>k (.func r a.toArray b.toArray)
 | .makeSlice t l c=>bg (bD s l) fun l=>bg (bD s c) fun c=>GO P t l c k
 | .slice t x n p m=>bg (bD s x) fun x=>qj s n fun n=>qj s p fun p=>qj s m fun m=>GP P t x n p m k
 | .fieldAddr t x f=>bg (bD s x) fun x=>GQ P t x f k
 | .field t x f=>bg (bD s x) fun x=>GR P t x f k
 | .indexAddr t x g=>bg (bD s x) fun x=>bg (bD s g) fun g=>GS P t x g k
 | .index t x g=>bg (bD s x) fun x=>bg (bD s g) fun g=>GU P t x g k
 | .extract t i=>bg (bD s t) fun t=>aU t i k
 | .call c=>lD s c.args.toList fun h=>G0 P rec s c h k
 |_=> .fail
end
section
variable {β:Type} {P:Program} {t:TypeId} {x y a:Value} {k:Value->M β} {h:H} {n:Nat} {r:Out β}
theorem adb{P:Program}{p:Nat}(d:p<=4294967295):jJ P .xor (.int .u32 (.ofNat p))=some (.int .u32 (.ofNat (Nat.sub 4294967295 p))):=by
 have e:Op.unary .xor (.int .u32 (.ofNat p))=pure (.int .u32 (IntKind.u32.wrap (cb 32 4294967295^^^cb 32 (gW p)).toNat)):=rfl
 have c:(cb 32 4294967295^^^cb 32 (gW p)).toNat=4294967295-p:=by
  have a:cb 32 4294967295=BitVec.allOnes 32:=jD;rw[a,BitVec.allOnes_xor,BitVec.toNat_not]
  have:(cb 32 (gW p)).toNat=p:=by show(cb 32 (p:Int)).toNat=p;rw[BitVec.ofInt_natCast,BitVec.toNat_ofNat];exact lh jO
  rw[this]
 have b:IntKind.u32.wrap ((4294967295-p:Nat):Int)=((4294967295-p:Nat):Int):=IntWalk.u32_in _ jO;unfold jJ mi;rw[e,c,b];rfl
theorem ade{c:UnOp}(a:GH c x k h n=some r):bg (jJ P c x) k h n=some r:=by
 unfold GH at a;split at a
 ·unfold dC at a;split at a
  ·exact eR rfl a
  ·cases a
 ·unfold BK at a;split at a
  ·rename_i j p;exact eR (v:= .int j (j.wrap (0-p))) rfl (by rw[<-kK,<-Bq];exact a)
  ·cases a
 ·unfold BL at a;split at a
  ·rename_i p;cases b:bI p 4294967295 with
   |false=>simp only[b]at a;cases a
   |true=>simp only[b]at a;exact eR (adb (gJ b)) a
  ·cases a
 ·cases a
theorem G1{v:Value}(a:k v h n=some r):((inside (M.ret v)).bind k) h n=some r:=by obtain⟨c,d,b,L⟩:=r;exact bW (L1:=[]) rfl a
theorem adf(d:hC x k h n=some r):((inside (mQ x)).bind k) h n=some r:=by
 unfold hC at d;split at d
 ·rename_i b a len c
  refine lE (m:=(gZ b a len).bind fun e=>match j8 e with
  |some l=> .ret (.string ⟨⟨l⟩⟩)
  |none=> .fail) ?_ d
  have:=congrFun acK (.slice (some ⟨b,a,none⟩) len c);exact this
 ·exact G1 d
 ·cases d
theorem adg{e:TypeId}(a:vR e x k h n=some r):((inside (A9 e x)).bind k) h n=some r:=by
 unfold vR at a;split at a
 ·rename_i l;cases b:bI (jt l) 1099511627776 with
  |false=>simp only[b]at a;cases a
  |true=>simp only[b]at a;refine lE ?_ a;have:=gJ b;rw[pe]at this⊢;unfold A9 qd;rw[lS];have c:(⟨⟨l⟩⟩:ByteArray).size=l.length:=rfl;simp only[c];rw[if_pos this];simp
 ·cases a
theorem adh{src b:TypeId}(a:GI P src b x k h n=some r):Ba P src b x k h n=some r:=by
 unfold GI at a;unfold Ba;cases g:qZ (P.underlying src) (P.underlying b)with
 |some e=>
  simp only[g]at a⊢;cases c:mR P e with
  |true=>simp only[c]at a⊢;exact adf a
  |false=>simp only[c]at a;cases a
 |none=>
  simp only[g]at a⊢;cases i:th (P.underlying src) (P.underlying b)with
  |some e=>
   simp only[i]at a⊢;cases c:(mR P e&&size? P e==some 1)with
   |true=>simp only[c]at a⊢;exact adg a
   |false=>simp only[c]at a;cases a
  |none=>
   simp only[i]at a⊢;cases hd:P.underlying src with
   |none=>simp only[hd]at a;cases a
   |some m=>
    simp only[hd]at a;cases f:P.underlying b with
    |none=>simp only[f]at a;cases a
    |some l=>
     simp only[f]at a;cases l<;>try(cases a;done)
     ·cases x<;>try(cases a;done)
      ·rename_i d j p;refine eR (v:= .int d (d.wrap p)) ?_ (by rw[<-kK];exact a);unfold mi;simp only[scalar]
       have:jo P (do pure (MA (<-My src b (.int j p))))=some (.int d (d.wrap p)):=by unfold My;simp only[bind_assoc];rw[o9 hd,o9 f];rfl
       rw[this]
     ·cases x<;>try(cases a;done)
      ·rename_i s;refine eR (v:= .string s) ?_ a;unfold mi;simp only[scalar]
       have:jo P (do pure (MA (<-My src b (.string s))))=some (.string s):=by unfold My;simp only[bind_assoc];rw[o9 hd,o9 f];rfl
       rw[this]
theorem N8(c:BQ P t a k h n=some r):((inside (jq P t a)).bind k) h n=some r:=by
 unfold BQ at c;cases d:jn P t with
 |none=>simp only[d]at c;cases c
 |some b=>
  cases b with
  |false=>
   simp only[d]at c;unfold aP at c;split at c
   ·refine lE ?_ c;rw[BB];unfold jq;simp only[d]
   ·cases c
  |true=>
   simp only[d]at c;cases e:size? P t with
   |none=>simp only[e]at c;cases c
   |some f=>
    simp only[e]at c;unfold bc at c;split at c
    ·refine lE ?_ c;rw[mq];unfold jq;simp only[d,e]
    ·cases c
theorem adi(c:GJ P t a x k h n=some r):((inside (nA P t a x)).bind k) h n=some r:=by
 unfold GJ at c;cases e:size? P t with
 |none=>simp only[e]at c;cases c
 |some p=>
  simp only[e]at c;cases j:jn P t with
  |none=>simp only[j]at c;cases c
  |some b=>
   cases b with
   |true=>
    simp only[j]at c;unfold aQ at c;split at c
    ·split at c
     ·rename_i b d _ l;cases g:bY (fL l) p with
      |false=>simp only[g]at c;cases c
      |true=>simp only[g]at c;refine lE ?_ c;have:=lf g;rw[mo]at this;unfold nA;have i:(mM ⟨l⟩).cells=⟨l⟩:=rfl;simp only[e,i];rw[if_pos (by simpa using this),yg]
     ·cases c
    ·cases c
   |false=>
    simp only[j]at c;cases m:bY p 1 with
    |false=>simp only[m]at c;cases c
    |true=>
     simp only[m]at c;have:=lf m;subst this;unfold aJ at c;split at c
     ·rename_i b d;cases f:one x with
      |false=>simp only[f]at c;cases c
      |true=>
       simp only[f]at c;refine lE ?_ c;have i:x.cells=#[x]:=by cases x<;>first|rfl|(simp[one]at f)
       unfold nA;simp only[e,i];rw[BC];funext q n;show _=((eQ b d [x]).bind fun _=>M.ret undef) q n;unfold eQ eQ M.bind;cases wr b d x q n with
       |none=>rfl
       |some o=>simp[M.ret]
     ·cases c
theorem adj{e:TypeId}(a:GK P e k h n=some r):((inside (mO P e)).bind k) h n=some r:=by
 unfold GK at a;cases b:gz P e with
 |none=>simp only[b]at a;cases a
 |some z=>simp only[b]at a;refine lE ?_ a;unfold mO;rw[b,lS,nL]
theorem adk{e:TypeId}(a:GL P e x k h n=some r):((inside (mP P e x)).bind k) h n=some r:=by
 unfold GL at a;cases b:size? P e with
 |none=>simp only[b]at a;cases a
 |some z=>simp only[b]at a;refine lE ?_ a;unfold mP;rw[b,lS,nL]
theorem G2{b:Nat->Option (Nat×Nat)}:∀(ps:List (Nat×Value)) (a:List (Nat×Nat×Value)) (cs:List Value),vS b ps=some a->fN cs a=rH b cs ps
 |[],a,cs,e=>by cases e;rfl
 |(i,v)::r,a,cs,e=>by
  unfold vS at e;unfold rH;simp only at e;cases f:b i with
  |none=>simp only[f]at e;cases e
  |some p=>
   obtain⟨c,g⟩:=p;simp only[f]at e⊢;cases d:vS b r with
   |none=>simp only[d]at e;cases e
   |some l=>
    simp only[d]at e;cases e;unfold fN;simp only;cases bY (fL (dy v)) g with
    |false=>rfl
    |true=>
     simp only[Bool.true_and];cases bI (gK c (fL (dy v))) (fL cs)with
     |false=>rfl
     |true=>exact G2 r l _ d
theorem adl{ps:List (Nat×Value)}(a:GM P t ps k h n=some r):((inside (mc P t ps)).bind k) h n=some r:=by
 unfold GM at a;cases b:gz P t with
 |none=>simp only[b]at a;cases a
 |some z=>
  simp only[b]at a;cases c:P.underlying t with
  |none=>simp only[c]at a;cases a
  |some u=>
   simp only[c]at a;cases u<;>try(cases a;done)
   rename_i g;simp only at a;cases d:(g.all fun f=>(size? P f.type).isSome)with
   |false=>simp only[d]at a;cases a
   |true=>
    simp only[d]at a;obtain⟨l,m,a⟩:=cN a;unfold bp at a;have e:=G2 ps l (dy z) m;rw[nL,BE]at e;rw[nL,e]at a
    have:mc P t ps=match lP (placeOf P g) z.cells ps with
     |some j=>M.ret (.agg j)
     |none=> .fail:=by
     unfold mc;simp only[b,c,d,if_true];rfl
    rw[this];cases i:lP (placeOf P g) z.cells ps with
    |none=>rw[i]at a;cases a
    |some j=>rw[i]at a;exact G1 a
end
section
variable {β:Type} {P:Program} {t:TypeId} {x y a:Value} {k:Value->M β} {h:H} {n:Nat} {r:Out β}
theorem BR:∀a b:List Value,qq a b=a++b
 |[],_=>rfl
 |v::a,b=>by show v::qq a b=_;rw[BR a b];rfl
theorem adm{z:Value}{n i:Nat}(b:0<z.cells.size)(h:i<n):(aR z n).toList[i]? =some (z.cells.toList[i %z.cells.size]'(by rw[FB];exact jF _ b)):=by unfold aR;have a:=jF i b;simp[h,a]
theorem N9(l:List Value):∀c,(kP l c).length=c*l.length
 |0=>by simp[kP]
 |c+1=>by unfold kP;rw[BR,List.length_append,N9 l c,oR,aoa,Nat.add_comm]
theorem N'(l:List Value)(b:0<l.length):∀c i,i<c*l.length->(kP l c)[i]? =some (l[i %l.length]'(jF _ b))
 |0,i,h=>by simp at h
 |c+1,i,h=>by
  unfold kP;rw[BR];by_cases a:i<l.length
  ·rw[List.getElem?_append_left a,bB a];simp only[lh a]
  ·rw[List.getElem?_append_right jO,N' l b c (i-l.length) (by rw[oR,aoa]at h;omega)]
   have:(i-l.length)%l.length=i %l.length:=by conv=>rhs;rw[show i=i-l.length+l.length by omega,Nat.add_mod_right]
   simp only[this]
theorem G3{z:Value}(d:0<z.cells.size)(c:Nat):kP (dy z) c=(aR z (c*z.cells.size)).toList:=by
 rw[nL];have a:z.cells.toList.length=z.cells.size:=FB;apply List.ext_getElem?;intro i;by_cases b:i<c*z.cells.size
 ·rw[N' _ jO c i (by rw[a];exact b),adm d b];simp only[a]
 ·rw[oP (by rw[N9,a];omega),oP (by unfold aR;simp;omega)]
theorem Oa:∀(l cs:List Value),l.length=cs.length->over l cs=l
 |[],[],_=>rfl
 |[],_::_,h=>by simp at h
 |_::_,[],h=>by simp at h
 |x::l,c::cs,h=>by show x::over l cs=_;rw[Oa l cs (by simpa using h)]
theorem adn{len:Nat}{ps:List (Nat×Value)}{v:Value}(e:lone len ps=some v):len=1∧ps=[(0,v)]:=by
 unfold lone at e;split at e
 ·cases e;exact⟨rfl,rfl⟩
 ·cases e
theorem ado{len:Nat}{ps:List (Nat×Value)}(a:GN P t len ps k h n=some r):((inside (me P t len ps)).bind k) h n=some r:=by
 unfold GN at a;cases x:P.underlying t with
 |none=>simp only[x]at a;cases a
 |some u=>
  simp only[x]at a;cases u<;>try(cases a;done)
  rename_i e;simp only at a;cases y:size? P e with
  |none=>simp only[y]at a;cases a
  |some b=>
   simp only[y]at a;cases p:gz P e with
   |none=>simp only[p]at a;cases a
   |some z=>
    simp only[p]at a
    have I:me P t len ps=if len=0&&ps.isEmpty then(cW e []).bind fun id=> .ret (.slice (some ⟨id,0,none⟩) 0 0)else
     if 0<len*b&&len*b<=65536 then
      match lP (fun i=>some (i*b,b)) (aR z (len*b)) ps with
      |some B=>(cW e B.toList).bind fun id=> .ret (.slice (some ⟨id,0,none⟩) len len)
      |none=> .fail
     else .fail:=by
     unfold me;simp only[x,y,p];rfl
    rw[I];cases c:(bY len 0&&ps.isEmpty)with
    |true=>simp only[c]at a;rw[bZ]at c;have:=lf c.1;rw[if_pos (by simp[this,c.2])];unfold vQ fN at a;simp only at a;refine lE ?_ a;rw[lS]
    |false=>
     simp only[c]at a
     have A:¬((decide (len=0)&&ps.isEmpty)=true):=by intro q;rw[bZ,decide_eq_true_eq]at q;obtain⟨rfl,q⟩:=q;rw[q]at c;cases c
     rw[if_neg A];cases o:(bI 1 (len*b)&&bI (len*b) 65536&&bY (fL (dy z)) b)with
     |false=>simp only[o]at a;cases a
     |true=>
      simp only[o]at a;rw[bZ,bZ]at o;obtain⟨⟨m,D⟩,g⟩:=o;have m:=gJ m;have D:=gJ D;have g:=lf g;rw[mo,nL,FB]at g;rw[if_pos (by simp;omega)]
      have j:0<z.cells.size:=by rw[g];exact Nat.pos_of_ne_zero fun q=>by rw[q]at m;simp at m
      cases s:lone len ps with
      |some v=>
       simp only[s]at a;obtain⟨rfl,rfl⟩:=adn s;unfold bO at a;cases d:bY (fL (dy v)) b with
       |false=>simp only[d]at a;cases a
       |true=>
        simp only[d]at a;have d:=lf d;have f:=BE (fun i=>some (i*b,b)) [(0,v)] (aR z (1*b));have C:(aR z (1*b)).toList.length=b:=by unfold aR;simp
        have f2:rH (fun i=>some (i*b,b)) (aR z (1*b)).toList [(0,v)]=some (dy v):=by unfold rH;simp only[Nat.zero_mul];rw[mo (aR z (1*b)).toList,C,d];have K:bY b b=true:=xH b;have J:bI (gK 0 b) b=true:=lQ (by show 0+b<=b;omega);simp only[K,J,Bool.and_self];unfold rH;rw[Gs,<-Gr,Oa _ _ (by rw[C,<-mo,d])]
        rw[f2]at f;cases l:lP (fun i=>some (i*b,b)) (aR z (1*b)) [(0,v)]with
        |none=>rw[l]at f;cases f
        |some B=>rw[l]at f;simp only[Option.map_some,dH]at f;refine lE ?_ a;rw[lS,f]
      |none=>
       simp only[s]at a;obtain⟨E,G,a⟩:=cN a;unfold vQ at a;have f:=G2 ps E (kP (dy z) len) G;rw[G3 j,g,BE]at f;rw[G3 j,g,f]at a;cases l:lP (fun i=>some (i*b,b)) (aR z (len*b)) ps with
       |none=>rw[l]at a;cases a
       |some B=>rw[l]at a;refine lE ?_ a;rw[lS]
theorem adp{l c:Value}(a:GO P t l c k h n=some r):((inside (mS P t l c)).bind k) h n=some r:=by
 unfold GO at a;cases m:P.underlying t with
 |none=>simp only[m]at a;cases a
 |some u=>
  simp only[m]at a;cases u<;>try(cases a;done)
  rename_i e;simp only at a;cases o:P.info? e with
  |none=>simp only[o]at a;cases a
  |some i=>
   simp only[o]at a;cases j:gz P e with
   |none=>simp only[j]at a;cases a
   |some z=>
    simp only[j]at a;cases g:(bI i.bytes 64&&bY (fL (dy z)) i.size&&bI 1 i.size)with
    |false=>simp only[g]at a;cases a
    |true=>
     simp only[g]at a;rw[bZ,bZ]at g;obtain⟨⟨q,f⟩,p⟩:=g;have q:=gJ q;have f:=lf f;have p:=gJ p;rw[mo,nL,FB]at f;unfold po at a;split at a
     ·split at a
      ·rename_i x l _ v c;cases d:bI l c with
       |false=>simp only[d]at a;cases a
       |true=>
        simp only[d]at a;cases b:bI c 1099511627776 with
        |false=>simp only[b]at a;cases a
        |true=>simp only[b]at a;have d:=gJ d;have b:=gJ b;refine lE ?_ a;unfold mS;simp only[m,o,j];have q1:(0:Int)<=gW l:=oS _;have q2:gW l<=gW c:=Int.ofNat_le.2 d;have s:gW c<=1099511627776:=Int.ofNat_le.2 b;rw[if_pos (by simp[q1,q2,s,q,f,p];omega),lS,G3 jO,f];rfl
      ·cases a
     ·cases a
theorem Ob{P:Program}{t e:TypeId}{sz:Nat}(f:P.underlying t=some (.slice e))(g:size? P e=some sz)(a:Option Addr)(len cap:Nat)(lo d:Option Value):pq sz a len cap lo d=vw P t (.slice a len cap) lo d none:=by
 unfold pq vw;simp only[f,g];cases i:ej d len with
 |none=>simp
 |some b=>
  cases h:ej lo 0 with
  |none=>simp[ej]
  |some c=>simp[ej];rfl
theorem adq{lo j B:Option Value}(f:GP P t x lo j B k h n=some r):vH P t x lo j B k h n=some r:=by
 unfold GP at f;cases B with
 |some _=>cases f
 |none=>
  simp only at f;cases i:P.underlying t with
  |none=>simp only[i]at f;cases f
  |some u=>
   simp only[i]at f;cases u<;>try(cases f;done)
   ·unfold bL at f;cases x<;>try(cases f;done)
    rename_i s;obtain⟨⟨l⟩⟩:=s;simp only at f;cases E:qw lo 0 with
    |none=>simp only[E]at f;cases f
    |some a=>
     simp only[E]at f;cases y:qw j (jt l)with
     |none=>simp only[y]at f;cases f
     |some b=>
      simp only[y]at f;cases g:bI a b with
      |false=>simp only[g]at f;cases f
      |true=>
       simp only[g]at f;cases m:bI b (jt l)with
       |false=>simp only[m]at f;cases f
       |true=>
        simp only[m]at f
        have bn:∀{o:Option Value} {d a:Nat},qw o d=some a->ej o d=some a:=by
         intro o d a h;unfold qw at h;split at h
         ·exact h
         ·cases h;unfold ej;simp
         ·cases h
        have m:=gJ m;rw[pe]at m y;have e:=ac8 i l lo j (bn E) (bn y) (gJ g) m k;exact(congrFun (congrFun e h) n).trans f
   ·rename_i e;simp only at f;cases q:size? P e with
    |none=>simp only[q]at f;cases f
    |some K=>
     simp only[q]at f;unfold vH;have D:nF P t=false:=by unfold nF;rw[i]
     rw[D];simp only;cases x<;>try(cases f;done)
     rename_i I len cap;cases I with
     |none=>
      unfold nQ at f;simp only at f;cases g:pq K none len cap lo j with
      |none=>simp only[g]at f;cases f
      |some v=>
       simp only[g]at f
       have G:tj P t (.slice none len cap) lo j none=M.ret v:=by unfold tj;simp only[isStr];unfold ny;simp only;rw[<-Ob i q,g];rfl
       rw[G];exact G1 f
     |some I=>
      obtain⟨b,A,p⟩:=I;cases p with
      |some _=>cases f
      |none=>
       unfold nQ at f;simp only at f;obtain⟨c,m,Y,L⟩:=r;rw[lT]at f;obtain⟨v,g,N,L1,L2,G,U,T⟩:=bind_some f;obtain⟨W,R,Q⟩:=tq G;obtain⟨w,Z,X,L3,L4,J,z,O⟩:=bind_some R
       have:tj P t (.slice (some ⟨b,A,none⟩) len cap) lo j none h n=some ⟨v,g,N,W⟩:=by
        unfold tj;simp only[isStr];unfold ny;simp only;rw[vN]at J;rw[O];refine bW J ?_;cases C:bY w e with
        |false=>simp only[C]at z;cases z
        |true=>simp only[C]at z;have:=lf C;subst this;simp only[i,if_true];rw[<-Ob i q];exact z
       rw[T,Q];exact bW (jL this) U
theorem adr{s:Value}(a:GY P t s x k h n=some r):((inside (oU P t s x)).bind k) h n=some r:=by
 unfold GY at a;cases f:P.underlying t with
 |none=>simp only[f]at a;cases a
 |some u=>
  simp only[f]at a;cases u<;>try(cases a;done)
  rename_i e;simp only at a;cases g:P.info? e with
  |none=>simp only[g]at a;cases a
  |some b=>
   simp only[g]at a;cases d:gz P e with
   |none=>simp only[d]at a;cases a
   |some z=>
    simp only[d]at a;cases c:(bI b.bytes 64&&bY (fL (dy z)) b.size&&bI 1 b.size)with
    |false=>simp only[c]at a;cases a
    |true=>
     simp only[c]at a;rw[bZ,bZ]at c;obtain⟨⟨l,i⟩,j⟩:=c;have l:=gJ l;have i:=lf i;have j:=gJ j;rw[mo,nL,FB]at i;refine lE ?_ a;unfold oU mz;simp only[f,g,d];cases iz x with
     |none=>rfl
     |some m=>
      simp only;have o:(decide (z.cells.size=b.size)&&decide (1<=b.size)&&decide (b.bytes<=64))=true:=by simp;omega
      rw[if_pos o];unfold sY yp mN;rw[qp,mq,yg,Gn,vN,lS];rfl
theorem ads{d s:Value}(a:GZ P t d s k h n=some r):((inside (oX P t d s)).bind k) h n=some r:=by
 unfold GZ at a;cases b:P.underlying t with
 |none=>simp only[b]at a;cases a
 |some u=>
  simp only[b]at a;cases u<;>try(cases a;done)
  rename_i e;simp only at a;cases c:size? P e with
  |none=>simp only[c]at a;cases a
  |some f=>
   simp only[c]at a;refine lE ?_ a;unfold oX tD;simp only[b,c];rw[qp,yg];cases d<;>try rfl
   cases iz s<;>rfl
theorem adt{f:Nat}(a:GQ P t x f k h n=some r):bg (vx P t x f) k h n=some r:=by
 unfold GQ at a;cases c:P.underlying t with
 |none=>simp only[c]at a;cases a
 |some u=>
  simp only[c]at a;cases u<;>try(cases a;done)
  rename_i g;simp only at a;cases d:g[f]? with
  |none=>simp only[d]at a;cases a
  |some i=>
   simp only[d]at a;cases b:size? P i.type with
   |none=>simp only[b]at a;cases a
   |some e=>
    cases e with
    |zero=>simp only[b]at a;cases a
    |succ e=>
     simp only[b]at a;unfold ay at a;split at a
     ·refine eR ?_ a;unfold vx;simp only[c,d,b];rw[if_neg jO];rfl
     ·cases a
theorem G4 {l:List Value} {K:Nat} {β:Type} {k:Value->M β} {h:H} {n:Nat} {r:Out β} (a:(match rF l K with
 |some v=>k v
 |none=>M.fail) h n=some r):bg l[K]? k h n=some r:=by
 rw[BA]at a;cases e:l[K]? with
 |none=>rw[e]at a;cases a
 |some v=>rw[e]at a;exact a
theorem adu{f:Nat}(a:GR P t x f k h n=some r):bg (re P t x f) k h n=some r:=by
 unfold GR at a;cases d:P.underlying t with
 |none=>simp only[d]at a;cases a
 |some u=>
  simp only[d]at a;cases u<;>try(cases a;done)
  rename_i p;simp only at a;cases g:p[f]? with
  |none=>simp only[g]at a;cases a
  |some j=>
   simp only[g]at a;cases c:jn P j.type with
   |none=>simp only[c]at a;cases a
   |some b=>
    cases b with
    |false=>
     simp only[c]at a;unfold Gz at a;cases x<;>try(cases a;done)
     rename_i o;obtain⟨l⟩:=o;have:=G4 a
     have e:re P t (.agg ⟨l⟩) f=l[j.offset]? :=by unfold re partOf;simp only[d,g,c];simp
     rw[e];exact this
    |true=>
     simp only[c]at a;cases i:size? P j.type with
     |none=>simp only[i]at a;cases a
     |some m=>
      simp only[i]at a;unfold GA at a;cases x<;>try(cases a;done)
      rename_i o;obtain⟨l⟩:=o;refine eR ?_ a;unfold re partOf;simp only[d,g,c,i];congr 2;apply Array.ext';simp[anM]
theorem adv{p:Value}(a:GS P t x p k h n=some r):bg (qe P t x p) k h n=some r:=by
 unfold GS at a;cases l:P.underlying t with
 |none=>simp only[l]at a;cases a
 |some u=>
  simp only[l]at a;have one:∀{g:Nat} (i:Nat),bY g 1=true->i*g=i:=fun i h=>by rw[lf h,vu]
  cases u<;>try(cases a;done)
  case array m e=>
   simp only at a;cases f:size? P e with
   |none=>simp only[f]at a;cases a
   |some g=>
    simp only[f]at a;cases j:bY g 1 with
    |true=>
     simp only[j]at a;unfold gN at a;split at a
     ·split at a
      ·rename_i b d _ o i;cases c:bI (fF i) m with
       |false=>simp only[c]at a;cases a
       |true=>simp only[c]at a;refine eR ?_ a;have:=gJ c;unfold qe;simp only[l,f];rw[if_pos ⟨oS _,Int.ofNat_lt.2 this⟩];show some (FD (some ⟨b,d+i*g,none⟩))=_;rw[one i j];rfl
      ·cases a
     ·cases a
    |false=>
     simp only[j]at a;unfold BM at a;split at a
     ·split at a
      ·rename_i b d _ o i;cases c:bI (fF i) m with
       |false=>simp only[c]at a;cases a
       |true=>simp only[c]at a;refine eR ?_ a;have:=gJ c;unfold qe;simp only[l,f];rw[if_pos ⟨oS _,Int.ofNat_lt.2 this⟩];rfl
      ·cases a
     ·cases a
  case slice e=>
   simp only at a;cases f:size? P e with
   |none=>simp only[f]at a;cases a
   |some g=>
    simp only[f]at a;cases j:bY g 1 with
    |true=>
     simp only[j]at a;unfold bQ at a;split at a
     ·split at a
      ·rename_i b d m _ _ o i;cases c:bI (fF i) m with
       |false=>simp only[c]at a;cases a
       |true=>simp only[c]at a;refine eR ?_ a;have:=gJ c;unfold qe;simp only[l,f];rw[if_pos ⟨oS _,Int.ofNat_lt.2 this⟩];show some (FD (some ⟨b,d+i*g,none⟩))=_;rw[one i j];rfl
      ·cases a
     ·cases a
    |false=>
     simp only[j]at a;unfold mw at a;split at a
     ·split at a
      ·rename_i b d m _ _ o i;cases c:bI (fF i) m with
       |false=>simp only[c]at a;cases a
       |true=>simp only[c]at a;refine eR ?_ a;have:=gJ c;unfold qe;simp only[l,f];rw[if_pos ⟨oS _,Int.ofNat_lt.2 this⟩];rfl
      ·cases a
     ·cases a
theorem adw{y:Value}(a:GU P t x y k h n=some r):bg (tm P t x y) k h n=some r:=by
 unfold GU at a;cases d:P.underlying t with
 |none=>simp only[d]at a;cases a
 |some u=>
  simp only[d]at a;cases u<;>try(cases a;done)
  case string=>
   unfold cU at a;cases x<;>try(cases a;done)
   rename_i s;obtain⟨⟨l⟩⟩:=s;simp only at a;split at a
   ·rename_i o i;cases v:qn l i with
    |none=>simp only[v]at a;cases a
    |some c=>simp only[v]at a;obtain⟨j,A⟩:=Ge _ _ _ v;have:=ac7 (P:=P) d l o (i:Int) jO jO;rw[Int.toNat_natCast,A]at this;exact eR this a
   ·cases a
  case array m e=>
   simp only at a;cases g:jn P e with
   |none=>simp only[g]at a;cases a
   |some b=>
    cases b with
    |true=>simp only[g]at a;cases a
    |false=>
     simp only[g]at a;cases q:size? P e with
     |none=>simp only[q]at a;cases a
     |some z=>
      simp only[q]at a;cases j:bY z 1 with
      |false=>simp only[j]at a;cases a
      |true=>
       simp only[j]at a;have:=lf j;subst this;unfold vP at a;cases x<;>try(cases a;done)
       rename_i B;obtain⟨l⟩:=B;simp only at a;split at a
       ·rename_i o i;cases f:bI (fF i) m with
        |false=>simp only[f]at a;cases a
        |true=>
         simp only[f]at a;have a:=G4 a;have f:=gJ f;have p:nF P t=false:=by unfold nF;rw[d]
         have e:tm P t (.agg ⟨l⟩) (.int o (.ofNat i))=l[i]? :=by unfold tm;rw[p];simp only;unfold Be;simp only[isStr];unfold vz;simp only[d,q];rw[if_pos ⟨oS _,Int.ofNat_lt.2 f⟩];unfold partOf;simp only[g,vu];simp
         rw[e];exact a
       ·cases a
theorem adx{b:Array TypeId}{vs:List Value}(a:GV P b vs k h n=some r):bg (xV P b vs) k h n=some r:=by
 unfold GV at a;cases d:b[0]? with
 |none=>simp only[d]at a;cases a
 |some t=>
  simp only[d]at a;split at a
  ·rename_i x;cases c:P.underlying t with
   |none=>simp only[c]at a;cases a
   |some u=>
    simp only[c]at a;cases u<;>try(cases a;done)
    ·unfold bH at a;cases x<;>try(cases a;done)
     rename_i s;obtain⟨⟨l⟩⟩:=s;refine eR (v:= .int .i64 (l.length:Nat)) ?_ (by rw[<-pe];exact a);unfold xV;simp only[d,c];rfl
    ·unfold bA at a;cases x<;>try(cases a;done)
     refine eR ?_ a;unfold xV;simp only[d,c];rfl
  ·cases a
theorem ady{vs:List Value}(c:GW vs k h n=some r):bg (min2 vs) k h n=some r:=by
 unfold GW at c;split at c
 ·rename_i x y;unfold kO at c;split at c
  ·split at c
   ·rename_i a p _ b q;refine eR (v:= .int a (if q<p then q else p)) rfl ?_;rw[ql]at c;by_cases e:q<p
    ·rw[if_pos e];simp only[e,decide_true]at c;exact c
    ·rw[if_neg e];simp only[e,decide_false]at c;exact c
   ·cases c
  ·cases c
 ·rename_i x y z u v w;unfold N3 at c
  have d:∀{x y:Value} {k:Value->M β},kO x y k h n=some r->∃a p b q,x= .int a p∧y= .int b q∧k (.int a (tp p q)) h n=some r:=by
   intro x y k c;unfold kO at c;split at c
   ·split at c
    ·rename_i a p _ b q;refine⟨a,p,b,q,rfl,rfl, ?_⟩;rw[ql]at c;unfold tp;by_cases e:q<p
     ·rw[if_pos e];simp only[e,decide_true]at c;exact c
     ·rw[if_neg e];simp only[e,decide_false]at c;exact c
    ·cases c
   ·cases c
  obtain⟨a,p,b,q,rfl,rfl,l⟩:=d c;obtain⟨R,I,N,q2,t,rfl,j⟩:=d l;obtain⟨Q,G,L,C,s,rfl,i⟩:=d j;obtain⟨P,E,K,B,o,rfl,g⟩:=d i;obtain⟨O,D,J,A,m,rfl,f⟩:=d g;cases t;cases s;cases o;cases m;exact eR rfl f
 ·cases c
theorem adz{vs:List Value}(c:GX vs k h n=some r):bg (max2 vs) k h n=some r:=by
 unfold GX at c;split at c
 ·rename_i x y;unfold nO at c;split at c
  ·split at c
   ·rename_i a p _ b q;refine eR (v:= .int a (if p<q then q else p)) rfl ?_;rw[ql]at c;by_cases e:p<q
    ·rw[if_pos e];simp only[e,decide_true]at c;exact c
    ·rw[if_neg e];simp only[e,decide_false]at c;exact c
   ·cases c
  ·cases c
 ·cases c
end
section
variable {α β:Type} {h:H} {n:Nat} {r:Out β}
theorem gC{o:Option α}{k a:α->M β}(c:∀v,k v h n=some r->a v h n=some r)(b:bg o k h n=some r):bg o a h n=some r:=by
 cases o with
 |none=>cases b
 |some v=>exact c v b
theorem BS{s:Fr}:∀{l:List Operand} {k c:List Value->M β},(∀v,k v h n=some r->c v h n=some r)->lD s l k h n=some r->lD s l c h n=some r
 |[],_,_,b,a=>b _ a
 |_::_,_,_,b,a=>gC (fun _ q=>BS (fun _ q=>b _ q) q) a
theorem G5{s:Fr}{x:Option Operand}{k a:Option Value->M β}(c:∀v,k v h n=some r->a v h n=some r)(b:qj s x k h n=some r):qj s x a h n=some r:=by
 cases x with
 |none=>exact c _ b
 |some x=>exact gC (fun _ q=>c _ q) b
variable {P:Program} {rec:FuncId->Array Value->M Value}
theorem adA{s:Fr}{c:Call}{vs:List Value}{k:Value->M β}(a:G0 P rec s c vs k h n=some r):call2 P rec s c vs k h n=some r:=by
 unfold G0 at a;unfold call2;cases e:c.callee with
 |value f=>
  simp only[e]at a⊢;cases f with
  |func g=>
   simp only at a;cases i:nB P g with
   |false=>simp only[i]at a;cases a
   |true=>
    simp only[i]at a;show kI P rec (.func (.func g) #[] #[]) vs k h n=some r;unfold kI
    show(match nB P g with
     |true=>(inside (rec g ((#[]:Array Value).toList++vs++(#[]:Array Value).toList).toArray)).bind k
     |false=>M.fail) h n=some r
    rw[i];refine lE ?_ a;simp
  |_=>exact a
 |builtin b=>
  simp only[e]at a⊢;cases b<;>try(cases a;done)
  case append=>exact gC (fun q d=>adr d) a
  case copy=>exact gC (fun q d=>ads d) a
  case len=>exact adx a
  case max=>exact adz a
  case min=>exact ady a
 |invoke _ _=>simp only[e]at a;cases a
theorem adB{s:Fr}{o:Oper}{k:Value->M β}(g:kQ P rec s o k h n=some r):o8 P rec s o k h n=some r:=by
 obtain⟨u,j,E,pos,after,guard⟩:=o;unfold kQ at g;unfold o8;cases j with
 |move x=>exact g
 |assign x=>exact g
 |pick c a b=>
  refine gC (fun B=>gC fun D=>gC fun C q=> ?_) g;unfold Gy at q;split at q
  ·exact eR rfl q
  ·exact eR rfl q
  ·cases q
 |alloc e=>exact adj g
 |box e x=>exact gC (fun _ q=>adk q) g
 |build t m=>exact BS (fun _ q=>adl q) g
 |buildSlice t len m=>exact BS (fun _ q=>ado q) g
 |load t a=>exact gC (fun _ q=>N8 q) g
 |store t a x=>exact gC (fun _=>gC fun _ q=>adi q) g
 |nilCheck x=>
  refine gC (fun v q=> ?_) g;unfold ak at q;split at q
  ·exact eR rfl q
  ·exact eR rfl q
  ·cases q
 |binOp j t x y A=>exact gC (fun _=>gC fun _ q=>ada q) g
 |unOp j t x=>exact gC (fun _ q=>ade q) g
 |convert src d x=>exact gC (fun _ q=>adh q) g
 |makeFunc K a b=>exact g
 |makeSlice t l c=>exact gC (fun _=>gC fun _ q=>adp q) g
 |slice t x I J G=>exact gC (fun _=>G5 fun _=>G5 fun _=>G5 fun _ q=>adq q) g
 |fieldAddr t x f=>exact gC (fun _ q=>adt q) g
 |field t x f=>exact gC (fun _ q=>adu q) g
 |indexAddr t x p=>exact gC (fun _=>gC fun _ q=>adv q) g
 |index t x p=>exact gC (fun _=>gC fun _ q=>adw q) g
 |extract t i=>
  refine gC (fun v q=> ?_) g;unfold aU at q;cases v<;>try(cases q;done)
  rename_i z;obtain⟨l⟩:=z;have e:rf (.tuple ⟨l⟩) i=l[i]? :=by simp[rf]
  rw[e];exact G4 q
 |call c=>exact BS (fun _ q=>adA q) g
 |_=>cases g
end
end Go.Proofs.YtmjolmggelkjlaaGreat.Ev
namespace Go.Proofs.YtmjolmggelkjlaaGreat.Ev
open Go
noncomputable section
variable (P:Program) (rec:FuncId->Array Value->M Value)
def fH(ops:Array Oper)(a:Option Tmp):List Nat->List Nat
 |[]=>[]
 |j::r=>match (ops[j]?).bind (·.dst),a with
  |some t,some d=>match bY t d with
   |true=>fH ops a r
   |false=>j::fH ops a r
  |_,_=>j::fH ops a r
def tE(j:Nat):List Nat->Bool
 |[]=>false
 |i::r=>match bY i j with
  |true=>true
  |false=>tE j r
def nR{c:Type}(ops:Array Oper):List Oper->Nat->List Nat->Fr->(Fr->M c)->M c
 |[],_,_,s,k=>k s
 |o::r,i,a,s,k=>match o.guard with
  |none=>kQ P rec s o fun v=>nR ops r (i+1) (fH ops o.dst a) (gY s o.dst v) k
  |some (j,b)=>match tE j a with
   |true=>nR ops r (i+1) (i::fH ops o.dst a) (gY s o.dst undef) k
   |false=>match (ops[j]?).bind (·.dst)with
    |none=> .fail
    |some t=>bg (s.at_ t) fun g=>
     aC g (match b with
      |true=>kQ P rec ((t,.bool true)::s) o fun v=>nR ops r (i+1) (fH ops o.dst a) (gY ((t,.bool true)::s) o.dst v) k
      |false=>nR ops r (i+1) (i::fH ops o.dst a) (gY ((t,.bool true)::s) o.dst undef) k)
      (match b with
        |true=>nR ops r (i+1) (i::fH ops o.dst a) (gY ((t,.bool false)::s) o.dst undef) k
        |false=>kQ P rec ((t,.bool false)::s) o fun v=>nR ops r (i+1) (fH ops o.dst a) (gY ((t,.bool false)::s) o.dst v) k)
abbrev Hint:=List Nat×List Nat×List (Nat×List Nat)
def Oc:List (Nat×List Nat)->Nat->Option (List Nat)
 |[],_=>none
 |q::r,i=>match bY q.1 i with
  |true=>some q.2
  |false=>Oc r i
def Hint.out(G:Hint)(id:Nat)(s:Fr):Fr:=match Oc G.2.2 id with
 |some l=>s.au l
 |none=>s
def BT{a:Type}(b:Nat)(k:Tk->M a):M a:=match b with
 |0=>k ⟨0,0,[]⟩
 |_=>(az (M.ret undef)).bind fun x=>k x.2
def jN{e:Type}(ops:Array Oper):List Oper->Nat->List Nat->Fr->List Tk->(Fr->List Tk->M e)->M e
 |[],_,_,s,a,k=>k s a.reverse
 |o::r,i,b,s,a,k=>match o.guard with
  |none=>match kind o.op with
   |0=>kQ P rec s o fun v=>jN ops r (i+1) (fH ops o.dst b) (gY s o.dst v) (⟨0,0,[]⟩::a) k
   |_=>(az (kQ P rec s o M.ret)).bind fun x=>jN ops r (i+1) (fH ops o.dst b) (gY s o.dst x.1) (x.2::a) k
  |some (j,c)=>match tE j b with
   |true=>BT (kind o.op) fun d=>jN ops r (i+1) (i::fH ops o.dst b) (gY s o.dst undef) (d::a) k
   |false=>match (ops[j]?).bind (·.dst)with
    |none=> .fail
    |some t=>bg (s.at_ t) fun g=>
     aC g (match c with
      |true=>match kind o.op with
       |0=>kQ P rec ((t,.bool true)::s) o fun v=>jN ops r (i+1) (fH ops o.dst b) (gY ((t,.bool true)::s) o.dst v) (⟨0,0,[]⟩::a) k
       |_=>(az (kQ P rec ((t,.bool true)::s) o M.ret)).bind fun x=>jN ops r (i+1) (fH ops o.dst b) (gY ((t,.bool true)::s) o.dst x.1) (x.2::a) k
      |false=>BT (kind o.op) fun d=>jN ops r (i+1) (i::fH ops o.dst b) (gY ((t,.bool true)::s) o.dst undef) (d::a) k)
      (match c with
        |true=>BT (kind o.op) fun d=>jN ops r (i+1) (i::fH ops o.dst b) (gY ((t,.bool false)::s) o.dst undef) (d::a) k
        |false=>match kind o.op with
         |0=>kQ P rec ((t,.bool false)::s) o fun v=>jN ops r (i+1) (fH ops o.dst b) (gY ((t,.bool false)::s) o.dst v) (⟨0,0,[]⟩::a) k
         |_=>(az (kQ P rec ((t,.bool false)::s) o M.ret)).bind fun x=>jN ops r (i+1) (fH ops o.dst b) (gY ((t,.bool false)::s) o.dst x.1) (x.2::a) k)
def BU(a:List Nat)(ops:Array Oper)(j:Nat)(b:Oper)(d:Tk)(k:Nat)(ok:Oper)(c:Tk):Bool:=
 (a.getD k 0).testBit j||(!(oY ops b ok)&&(match fits (kind b.op) (kind ok.op)with
   |true=>true
   |false=> !(bP d c)))
def BV(a:List Nat)(ops:Array Oper)(j:Nat)(c:Oper)(b:Tk):Nat->List Oper->List Tk->Bool
 |k,ok::r,d::t=>BU a ops j c b k ok d&&BV a ops j c b (k+1) r t
 |_,_,_=>true
def vT(a:List Nat)(ops:Array Oper):Nat->List Oper->List Tk->Bool
 |j,c::r,b::t=>BV a ops j c b (j+1) r t&&vT a ops (j+1) r t
 |_,_,_=>true
def dm{a:Type}(b:Bool)(m:M a):M a:=match b with
 |true=>m
 |false=> .fail
def G6{c:Type}(ops:Array Oper)(a:Bool)(s:Fr)(k:Fr->M c):M c:=
 match !a||Bh ops with
 |true=>nR P rec ops ops.toList 0 [] s k
 |false=>match rh ops with
  |true=>jN P rec ops ops.toList 0 [] s [] fun d b=>dm (vT (lR ops.toList []) ops 0 ops.toList b) (k d)
  |false=> .fail
def yq{b:Type}(c:Fr->(Ex->Fr->M b)->M b)(k:Ex->Fr->M b):Ex->Fr->M b
 | .normal,a=>c a k
 | .ret,a=>k .ret a
 | .exit i,a=>k (.exit i) a
def BW{b:Type}(id:Nat)(k:Ex->Fr->M b):Ex->Fr->M b
 | .normal,a=>k .normal a
 | .ret,a=>k .ret a
 | .exit i,a=>match bY i id with
   |true=>k .normal a
   |false=>k (.exit i) a
def Od{c:Type}(a:Fr->M c)(k:Ex->Fr->M c):Ex->Fr->M c
 | .normal,b=>a b
 | .ret,b=>k .ret b
 | .exit i,b=>k (.exit i) b
def aT{b:Type}(a:Fr->(Ex->Fr->M b)->M b)(keys:List Nat):Nat->Fr->(Ex->Fr->M b)->M b
 |0,_,_=> .fail
 |f+1,s,k=>a s (Od (fun c=>aT a keys f (c.au keys) k) k)
def iC{h:Type}(G:Hint)(Y:Nat):Code->Fr->(Ex->Fr->M h)->M h
 | .skip,s,k=>k .normal s
 | .label _,s,k=>k .normal s
 | .region _ f e,s,k=>G6 P rec f e s fun d=>k .normal (d.au G.1)
 | .seq a b,s,k=>iC G Y a s (yq (fun d g=>iC G Y b d g) k)
 | .cond c a b,s,k=>bg (bD s c) fun v=>aC v (iC G Y a s k) (iC G Y b s k)
 | .block id c,s,k=>iC G Y c s (BW id k)
 | .loop c,s,k=>aT (fun d g=>iC G Y c d g) s.keys Y s k
 | .exit id,s,k=>k (.exit id) (G.out id s)
 | .ret,s,k=>k .ret (s.au G.2.1)
 |_,_,_=> .fail
def eO:Code->List Bool->Code
 | .seq a b,t::p=>match t with
   |true=>eO b p
   |false=>eO a p
 | .cond _ a b,t::p=>match t with
   |true=>eO b p
   |false=>eO a p
 | .block _ c,_::p=>eO c p
 | .loop c,_::p=>eO c p
 |c,_=>c
def tF{d:Type}(G:Hint)(Y:Nat):Code->List Bool->(Ex->Fr->M d)->Ex->Fr->M d
 | .seq a b,t::p,k=>match t with
   |true=>tF G Y b p k
   |false=>tF G Y a p (yq (fun e f=>iC P rec G Y b e f) k)
 | .cond _ a b,t::p,k=>match t with
   |true=>tF G Y b p k
   |false=>tF G Y a p k
 | .block id c,_::p,k=>tF G Y c p (BW id k)
 |_,_,k=>k
def vU{c:Type}(s:Fr):List ResultVar->(List Value->M c)->M c
 |[],k=>k []
 | .tmp t::r,k=>bg (s.at_ t) fun v=>vU s r fun b=>k (v::b)
 | .cell a t::r,k=>bg (s.at_ a) fun a=>BQ P t a fun v=>vU s r fun b=>k (v::b)
def ag(vs:List Value):M Value:= .ret (match vs with|[v]=>v|_=> .tuple vs.toArray)
def BX(a:List ResultVar):Ex->Fr->M Value
 | .normal,s=>vU P s a ag
 | .ret,s=>vU P s a ag
 | .exit _,_=> .fail
def BZ:Nat->List Value->Fr
 |_,[]=>[]
 |i,v::r=>(i,v)::BZ (i+1) r
end
def fO(P:Program)(f:FuncId):Code:=match P.funcs[f]? with
 |some a=>match a.body with
  |some c=>c
  |none=> .skip
 |none=> .skip
def G7(P:Program)(f:FuncId):List ResultVar:=match P.funcs[f]? with
 |some a=>a.results.toList
 |none=>[]
noncomputable def ax (P:Program) (gt:Nat->Hint) (Y:Nat) (rec:FuncId->Array Value->M Value) (f:FuncId) (args:Array Value):M Value:=match P.funcs[f]? with
 |some a=>match a.body with
  |some c=>match decide (args.size<=a.ntmps)&&decide (a.ntmps<1000)with
   |true=>inside (iC P rec (gt f) Y c (BZ 0 args.toList) (BX P a.results.toList))
   |false=> .fail
  |none=> .fail
 |none=> .fail
noncomputable def kR (kn:List FuncId) (P:Program) (gt:Nat->Hint) (Y:Nat):Nat->FuncId->Array Value->M Value
 |0,_,_=> .fail
 |d+1,f,args=>match kn.contains f with
  |true=>match rq f with
   |some k=>ry f k args.toList
   |none=>match decide (args.size=0)&&rk P f with
    |true=>(nC P KG).bind fun _=> .ret (.bool true)
    |false=> .fail
  |false=>ax P gt Y (kR kn P gt Y d) f args
noncomputable def aj (P:Program) (gt:Nat->Hint) (Y:Nat):Nat->FuncId->Array Value->M Value:=kR KN P gt Y
def lU(nt:Nat):Code->Bool
 | .region _ e _=>e.all fun o=>match o.dst with
   |some d=>d<nt&&d<1023
   |none=>true
 | .seq a b=>lU nt a&&lU nt b
 | .cond _ a b=>lU nt a&&lU nt b
 | .block _ c| .loop c=>lU nt c
 |_=>true
def j9(P:Program):Bool:=P.funcs.all fun a=>match a.body with
 |some c=>lU a.ntmps c
 |none=>true
theorem Sub.nil(a:S):Sub [] a:=fun t v h=>by cases h
theorem G8(d:Nat)(v:Value)(s:Fr)(t:Nat):Fr.at_ ((d,v)::s) t=if d=t then some v else s.at_ t:=by
 show(match bY d t with|true=>some v|false=>s.at_ t)=_;by_cases e:d=t
 ·subst e;rw[xH,if_pos rfl]
 ·have:bY d t=false:=Bool.eq_false_iff.2 fun q=>e (lf q);rw[this,if_neg e]
theorem Sub.cons{s:Fr}{b:S}(c:Sub s b){d:Nat}{v:Value}(h:b.get d=v):Sub ((d,v)::s) b:=fun t u a=>by
 rw[G8]at a;by_cases e:d=t
 ·rw[if_pos e]at a;cases a;rw[<-e];exact h
 ·rw[if_neg e]at a;exact c t u a
theorem Sub.put{s:Fr}{c:S}(g:Sub s c){nt:Nat}{a:Option Tmp}(hd:∀d,a=some d->d<nt∧d<1023)(v:Value):∃f,kH nt c a v=some f∧Sub (gY s a v) f:=by
 cases a with
 |none=>exact⟨c,rfl,g⟩
 |some d=>
  obtain⟨i,h⟩:=hd d rfl;refine⟨c.put d v,by unfold kH;simp[i,h],fun t u b=> ?_⟩;rw[S.o7 _ _ _ _ h];have b:Fr.at_ ((d,v)::s) t=some u:=b;rw[G8]at b;by_cases e:d=t
  ·rw[if_pos e]at b;rw[if_pos e.symm];cases b;rfl
  ·rw[if_neg e]at b;rw[if_neg (fun q=>e q.symm)];exact g t u b
theorem G9(s:Fr):∀(G:List Nat) (t:Nat) (v:Value),(s.au G).at_ t=some v->s.at_ t=some v
 |[],t,v,h=>by cases h
 |g::G,t,v,h=>by
  unfold Fr.au at h;split at h
  ·rename_i u a;rw[G8]at h;by_cases e:g=t
   ·rw[if_pos e]at h;cases h;rw[<-e];exact a
   ·rw[if_neg e]at h;exact G9 s G t v h
  ·exact G9 s G t v h
theorem Sub.au{s:Fr}{a:S}(b:Sub s a)(G:List Nat):Sub (s.au G) a:=fun t v h=>b t v (G9 s G t v h)
theorem Sub.out{s:Fr}{a:S}(b:Sub s a)(G:Hint)(id:Nat):Sub (G.out id s) a:=by
 unfold Hint.out;split
 ·exact b.au _
 ·exact b
section
variable {P:Program} {kn:List FuncId} {rec:FuncId->Array Value->M Value} (fP:∀f args h n v h1 n1 L,rec f args h n=some ⟨v,h1,n1,L⟩->ek (fun fuel=>cK P kn fuel f args) h n v h1 n1 L)
include fP
theorem G'{ops:Array Oper}{o:Oper}{s:Fr}{b:S}{c:Type}{k:Value->M c}{h:H}{n:Nat}{r:Out c}(d:gy o (gX ops b)=true)(e:Sub s b)(f:kQ P rec s o k h n=some r):
 ∃v h1 a L1 L2,ek (fun fuel=>inside (fY P (cK P kn fuel) ops o b)) h n v h1 a L1∧k v h1 a=some ⟨r.val,r.h,r.n,L2⟩∧r.log=L1++L2:=by
 obtain⟨v,h1,a,L1,L2,j,i,g⟩:=acw fP e (adB f);refine⟨v,h1,a,L1,L2,j.map fun fuel=> ?_,i,g⟩;rw[NL d];rfl
theorem Oe{ops:Array Oper}{o:Oper}{a:S}{h:H}{n:Nat}(b:gy o (gX ops a)=false):ek (fun fuel=>inside (fY P (cK P kn fuel) ops o a)) h n undef h n []:=by refine⟨0,fun fuel _=> ?_⟩;show inside (fY P (cK P kn fuel) ops o a) h n=_;unfold fY;rw[if_neg (by rw[b];exact an0)];rfl
theorem Ha{b:Type}{v:Value}{x y:M b}{h:H}{n:Nat}{r:Out b}(a:aC v x y h n=some r):(v= .bool true∧x h n=some r)∨(v= .bool false∧y h n=some r):=by
 unfold aC at a;split at a
 ·exact .inl ⟨rfl,a⟩
 ·exact .inr ⟨rfl,a⟩
 ·cases a
theorem yr {nt:Nat} {ops:Array Oper} {o:Oper} {l:List Oper} {c g:S} {h h1 h2:H} {n a n2:Nat} {v:Value} {L1 L2:List En} {y:S×List Tk} (e:ek (fun fuel=>inside (fY P (cK P kn fuel) ops o c)) h n v h1 a L1)
 (i:kH nt c o.dst v=some g) (d:ek (fun fuel=>jg P (cK P kn fuel) nt ops l g) h1 a y h2 n2 L2):ek (fun fuel=>jg P (cK P kn fuel) nt ops (o::l) c) h n (y.1,⟨n,a,L1⟩::y.2) h2 n2 (L1++L2):=by
 obtain⟨m,e⟩:=e;obtain⟨f1,d⟩:=d;refine⟨max m f1,fun fuel p=> ?_⟩;have k:=xZ (e fuel jO);have j:=d fuel jO;show jg P (cK P kn fuel) nt ops (o::l) c h n=_;unfold jg;refine bW k ?_;simp only[i,tr,nG];have:=bW (f:=fun y:S×List Tk=>M.ret (y.1,(⟨n,a,L1⟩:Tk)::y.2)) j (h2:=h2) (n2:=n2) (L2:=[]) (b:=(y.1,(⟨n,a,L1⟩:Tk)::y.2)) rfl;rw[bV]at this;exact this
theorem Hb{j:Nat}:∀{l:List Nat},tE j l=true->j∈l
 |[],h=>by cases h
 |i::r,h=>by
  unfold tE at h;cases a:bY i j with
  |true=>rw[lf a];simp
  |false=>rw[a]at h;exact vv _ (Hb h)
def Idle(ops:Array Oper)(b:S)(a:List Nat):Prop:=∀j∈a,gX ops b j=none
theorem Idle.put{ops:Array Oper}{l f:S}{nt:Nat}{a:Option Tmp}{v:Value}:∀{g:List Nat},Idle ops l g->kH nt l a v=some f->Idle ops f (fH ops a g)
 |[],_,_=>fun j hj=>by cases hj
 |i::r,h,b=>by
  have m:Idle ops f (fH ops a r):=Idle.put (fun j hj=>h j (vv _ hj)) b;have k:=h i jS
  have get:∀t,a≠some t->f.get t=l.get t:=by
   intro t c;cases a with
   |none=>simp only[kH,dH]at b;rw[b]
   |some d=>
    unfold kH at b;simp only at b;split at b
    ·rename_i hd;simp only[bZ,decide_eq_true_eq]at hd;cases b;rw[S.o7 _ _ _ _ hd.2,if_neg (fun e=>c (by rw[e]))]
    ·cases b
  have au:(∀t,(ops[i]?).bind (·.dst)=some t->a≠some t)->Idle ops f (i::fH ops a r):=by
   intro o j hj;rcases aa7.1 hj with rfl|hj
   ·unfold gX at k⊢;cases c:(ops[j]?).bind (·.dst)with
    |none=>rfl
    |some t=>rw[c]at k;simp only at k⊢;rw[get t (o t c)];exact k
   ·exact m j hj
  unfold fH;cases c:(ops[i]?).bind (·.dst)with
  |none=>exact au fun t h=>by rw[c]at h;cases h
  |some t=>
   cases a with
   |none=>exact au fun t h e=>by cases e
   |some d=>
    simp only;cases n:bY t d with
    |true=>exact m
    |false=>refine au fun p h=> ?_;rw[c]at h;cases h;rintro⟨⟩;rw[xH]at n;cases n
theorem Idle.add{ops:Array Oper}{f e:S}{nt:Nat}{o:Oper}{i:Nat}(g:ops[i]? =some o){b:List Nat}(h:Idle ops e b)(a:kH nt f o.dst undef=some e):Idle ops e (i::b):=by
 intro j hj;rcases aa7.1 hj with rfl|hj
 ·unfold gX;rw[g];simp only[Option.bind_some];cases hd:o.dst with
  |none=>rfl
  |some d=>
   rw[hd]at a;unfold kH at a;simp only at a;split at a
   ·rename_i c;simp only[bZ,decide_eq_true_eq]at c;cases a;simp only;rw[S.o7 _ _ _ _ c.2,if_pos rfl];rfl
   ·cases a
 ·exact h j hj
theorem adC{β:Type}{nt:Nat}{ops:Array Oper}:∀(l:List Oper) (_:∀o∈l,∀d,o.dst=some d->d<nt∧d<1023) (i:Nat) (_:∀q o,l[q]? =some o->ops[i+q]? =some o) (e:List Nat) (s:Fr) (c:S) (_:Idle ops c e) (k:Fr->M β) (h:H) (n:Nat) (r:Out β),Sub s c->nR P rec ops l i e s k h n=some r->
 ∃f y h1 z L1 L2,ek (fun fuel=>jg P (cK P kn fuel) nt ops l c) h n y h1 z L1∧Sub f y.1∧k f h1 z=some ⟨r.val,r.h,r.n,L2⟩∧r.log=L1++L2:=by
 intro l
 induction l with
 |nil=>intro _ i _ e s c _ k h n r m a;exact⟨s,(c,[]),h,n,[],r.log,ek.of rfl,m,a,rfl⟩
 |cons o l ih=>
  intro hd i C e s c x k h n r m a;have L:=hd o jS;have K:∀o∈l,∀d,o.dst=some d->d<nt∧d<1023:=fun G ho=>hd G (by simp[ho]);have W:ops[i]? =some o:=by have:=C 0 o rfl;rwa[iO]at this
  have J:∀q G,l[q]? =some G->ops[i+1+q]? =some G:=fun q G hq=>by have:=C (q+1) G (by simpa using hq);rwa[show i+1+q=i+(q+1) by omega]
  have go:∀(s:Fr),Sub s c->gy o (gX ops c)=true->kQ P rec s o (fun v=>nR P rec ops l (i+1) (fH ops o.dst e) (gY s o.dst v) k) h n=some r->
   ∃f y h1 z L1 L2,ek (fun fuel=>jg P (cK P kn fuel) nt ops (o::l) c) h n y h1 z L1∧Sub f y.1∧k f h1 z=some ⟨r.val,r.h,r.n,L2⟩∧r.log=L1++L2:=by
   intro s m T a;obtain⟨v,h1,z,L1,L2,e1,e2,e3⟩:=G' fP T m a;obtain⟨Q,I,E⟩:=m.put L v;obtain⟨f,y,Z,R,L3,L4,e4,e5,e6,O⟩:=ih K _ J _ _ Q (Idle.put fP x I) k h1 z _ E e2;exact⟨f,_,Z,R,_,L4,yr fP e1 I e4,e5,e6,by rw[e3];simp only at O;rw[O,ey]⟩
  have p:∀(s:Fr),Sub s c->gy o (gX ops c)=false->nR P rec ops l (i+1) (i::fH ops o.dst e) (gY s o.dst undef) k h n=some r->
   ∃f y h1 z L1 L2,ek (fun fuel=>jg P (cK P kn fuel) nt ops (o::l) c) h n y h1 z L1∧Sub f y.1∧k f h1 z=some ⟨r.val,r.h,r.n,L2⟩∧r.log=L1++L2:=by
   intro s m T a;obtain⟨Q,I,E⟩:=m.put L undef;obtain⟨f,y,Z,R,L3,L4,e4,e5,e6,O⟩:=ih K _ J _ _ Q (Idle.add fP W (Idle.put fP x I) I) k h n _ E a;exact⟨f,_,Z,R,_,L4,yr fP (Oe fP T) I e4,e5,e6,O⟩
  unfold nR at a;cases D:o.guard with
  |none=>rw[D]at a;exact go s m (by unfold gy;rw[D]) a
  |some jw=>
   obtain⟨j,B⟩:=jw;rw[D]at a;simp only at a;cases Y:tE j e with
   |true=>rw[Y]at a;refine p s m ?_ a;unfold gy;rw[D];simp only;rw[x j (Hb fP Y)];rfl
   |false=>
   rw[Y]at a;simp only at a;cases U:(ops[j]?).bind (·.dst)with
   |none=>rw[U]at a;cases a
   |some t=>
    rw[U]at a;simp only at a;obtain⟨g,X,a⟩:=cN a;have iR:=m t g X
    have N:∀b,g= .bool b->gX ops c j=some b:=fun b A=>by unfold gX;rw[U];simp only[iR,A]
    rcases Ha fP a with ⟨A,a⟩|⟨A,a⟩
    ·have u:Sub ((t,.bool true)::s) c:=m.cons (by rw[iR,A]);cases B with
     |true=>exact go _ u (by unfold gy;rw[D];simp only;rw[N _ A];rfl) a
     |false=>exact p _ u (by unfold gy;rw[D];simp only;rw[N _ A];rfl) a
    ·have u:Sub ((t,.bool false)::s) c:=m.cons (by rw[iR,A]);cases B with
     |true=>exact p _ u (by unfold gy;rw[D];simp only;rw[N _ A];rfl) a
     |false=>exact go _ u (by unfold gy;rw[D];simp only;rw[N _ A];rfl) a
end
theorem B1{d:Type}{a c:d}{h h2:H}{n n2:Nat}{L:List En}(b:(M.ret a) h n=some ⟨c,h2,n2,L⟩):c=a∧h2=h∧n2=n∧L=[]:=by simp only[M.ret,dH,Out.mk.injEq]at b;exact⟨b.1.symm,b.2.1.symm,b.2.2.1.symm,b.2.2.2.symm⟩
def Match:List Oper->List Tk->List Tk->Prop
 |[],[],[]=>True
 |o::l,c::a,t::b=>(kind o.op=0∨c=t)∧Match l a b
 |_,_,_=>False
theorem Match.get:∀{l:List Oper} {a c:List Tk},Match l a c->∀(i:Nat) (o:Oper) (t:Tk),l[i]? =some o->c[i]? =some t->∃b,a[i]? =some b∧(kind o.op=0∨b=t)
 |[],[],[],_,i,o,t,h,_=>by simp at h
 |o::l,b::a,t::c,h,0,f,u,e,d=>by simp at e d;subst e d;exact⟨b,rfl,h.1⟩
 |o::l,b::a,t::c,h,i+1,f,u,e,d=>by simpa using Match.get h.2 i f u (by simpa using e) (by simpa using d)
theorem adD{ops:Array Oper}{b:List Nat}{j:Nat}{f:Oper}{e:Tk}:∀(l:List Oper) (a:List Tk) (k:Nat),BV b ops j f e k l a=true->∀i o t,l[i]? =some o->a[i]? =some t->BU b ops j f e (k+i) o t=true:=by
 intro l
 induction l with
 |nil=>intro a k _ i o t h;simp at h
 |cons o l n=>
  intro a k h i m g d c;cases a with
  |nil=>simp at c
  |cons t a=>
   unfold BV at h;simp only[bZ]at h;cases i with
   |zero=>simp at d c;subst d c;exact h.1
   |succ i=>rw[show k+(i+1)=k+1+i by omega];exact n a (k+1) h.2 i m g (by simpa using d) (by simpa using c)
theorem adE{ops:Array Oper}{f:List Nat}:∀(l:List Oper) (a:List Tk) (j:Nat),vT f ops j l a=true->∀p q e c d b,p<q->l[p]? =some e->l[q]? =some c->a[p]? =some d->a[q]? =some b->BU f ops (j+p) e d (j+q) c b=true:=by
 intro l
 induction l with
 |nil=>intro a j _ p q e c d b _ h;simp at h
 |cons o l n=>
  intro a j h p q e c d b r i m g k;cases a with
  |nil=>simp at g
  |cons t a=>
   unfold vT at h;simp only[bZ]at h;cases q with
   |zero=>omega
   |succ q=>
    cases p with
    |zero=>simp at i g;subst i g;have:=adD l a (j+1) h.1 q c b (by simpa using m) (by simpa using k);rw[show j+(q+1)=j+1+q by omega,iO];exact this
    |succ p=>have:=n a (j+1) h.2 p q e c d b jO (by simpa using i) (by simpa using m) (by simpa using g) (by simpa using k);rw[show j+(q+1)=j+1+q by omega,show j+(p+1)=j+1+p by omega];exact this
theorem adF{i j:Nat}(h:fits i j=false):i≠0∧j≠0:=by unfold fits at h;simp only[Bool.or_eq_false_iff,beq_eq_false_iff_ne]at h;exact⟨h.1.1.1.1,h.1.1.1.2⟩
theorem adG{ops:Array Oper}{a b:List Tk}{n m:Nat}(x:nH n ops.toList b m)(j:Match ops.toList a b)(h:vT (lR ops.toList []) ops 0 ops.toList a=true):oZ ops (lR ops.toList []) (tagged 0 b)=true:=by
 refine NM ops.toList b n m 0 x (NN ops) fun p q f e u t i o l y v=> ?_;obtain⟨d,B,g2⟩:=j.get p f u o y;obtain⟨c,A,g4⟩:=j.get q e t l v;have:=adE _ _ 0 h p q f e d c i o l B A;unfold BU at this;simp only[oO,bZ,AN]at this;rcases this with g|⟨z,g⟩
 ·exact .inl g
 ·refine .inr ⟨?_,z⟩;cases k:fits (kind f.op) (kind e.op)with
  |true=>exact .inl rfl
  |false=>
   rw[k]at g;obtain⟨s,r⟩:=adF k;rcases g2 with g2|g2
   ·exact absurd g2 s
   ·rcases g4 with g4|g4
    ·exact absurd g4 r
    ·subst g2 g4;exact .inr (by rw[<-tB];simpa using g)
section
variable {P:Program} {kn:List FuncId} {rec:FuncId->Array Value->M Value} (fP:∀f args h n v h1 n1 L,rec f args h n=some ⟨v,h1,n1,L⟩->ek (fun fuel=>cK P kn fuel f args) h n v h1 n1 L)
include fP
theorem adH{β:Type}{nt:Nat}{ops:Array Oper}:∀(l:List Oper) (_:∀o∈l,∀d,o.dst=some d->d<nt∧d<1023) (i:Nat) (_:∀q o,l[q]? =some o->ops[i+q]? =some o) (e:List Nat) (s:Fr) (f:S) (_:Idle ops f e) (acc:List Tk) (k:Fr->List Tk->M β) (h:H) (n:Nat) (r:Out β),Sub s f->jN P rec ops l i e s acc k h n=some r->
 ∃p y m h1 A L1 L2,ek (fun fuel=>jg P (cK P kn fuel) nt ops l f) h n y h1 A L1∧Sub p y.1∧k p (acc.reverse++m) h1 A=some ⟨r.val,r.h,r.n,L2⟩∧r.log=L1++L2∧Match l m y.2:=by
 intro l
 induction l with
 |nil=>intro _ i _ e s f _ acc k h n r u a;exact⟨s,(f,[]),[],h,n,[],r.log,ek.of rfl,u,by rw[bV];exact a,rfl,trivial⟩
 |cons o l ih=>
  intro hd i J e s f z acc k h n r u a;have R:=hd o jS;have Q:∀o∈l,∀d,o.dst=some d->d<nt∧d<1023:=fun U ho=>hd U (by simp[ho]);have u1:ops[i]? =some o:=by have:=J 0 o rfl;rwa[iO]at this
  have O:∀q U,l[q]? =some U->ops[i+1+q]? =some U:=fun q U hq=>by have:=J (q+1) U (by simpa using hq);rwa[show i+1+q=i+(q+1) by omega]
  have go:∀(s:Fr),Sub s f->gy o (gX ops f)=true->
   (match kind o.op with
     |0=>kQ P rec s o fun v=>jN P rec ops l (i+1) (fH ops o.dst e) (gY s o.dst v) (⟨0,0,[]⟩::acc) k
     |_=>(az (kQ P rec s o M.ret)).bind fun x=>jN P rec ops l (i+1) (fH ops o.dst e) (gY s o.dst x.1) (x.2::acc) k) h n=some r->
   ∃p y m h1 A L1 L2,ek (fun fuel=>jg P (cK P kn fuel) nt ops (o::l) f) h n y h1 A L1∧Sub p y.1∧k p (acc.reverse++m) h1 A=some ⟨r.val,r.h,r.n,L2⟩∧r.log=L1++L2∧Match (o::l) m y.2:=by
   intro s u hw a;by_cases hk:kind o.op=0
   ·simp only[hk]at a;obtain⟨v,h1,A,L1,L2,e1,e2,W⟩:=G' fP hw u a;obtain⟨X,E,C⟩:=u.put R v;obtain⟨p,y,m,Z,Y,L3,L4,e4,e5,N,L,e8⟩:=ih Q _ O _ _ X (Idle.put fP z E) _ k h1 A _ C e2;refine⟨p,_,(⟨0,0,[]⟩:Tk)::m,Z,Y,_,L4,yr fP e1 E e4,e5, ?_,by rw[W];simp only at L;rw[L,ey], ?_⟩
    ·rw[aa6,ey]at N;exact N
    ·exact⟨.inl hk,e8⟩
   ·have a:((az (kQ P rec s o M.ret)).bind fun x=>jN P rec ops l (i+1) (fH ops o.dst e) (gY s o.dst x.1) (x.2::acc) k) h n=some r:=by
     revert a;generalize kind o.op=kk at hk;intro a
     match kk,hk with
     |kk+1,_=>exact a
    obtain⟨c,hc,nc,Lc⟩:=r;obtain⟨x,h1,A,L1,L2,e1,e2,W⟩:=bind_some a;obtain⟨g1,g2⟩:=Gb e1;obtain⟨v,u4,u3,u6,u5,q1,q2,q3⟩:=G' fP hw u g1;obtain⟨rfl,rfl,rfl,rfl⟩:=B1 q2;simp only[bV]at q3;subst q3;obtain⟨X,E,C⟩:=u.put R x.1;obtain⟨p,y,m,Z,Y,L3,L4,e4,e5,N,L,e8⟩:=ih Q _ O _ _ X (Idle.put fP z E) _ k _ _ _ C e2;refine⟨p,_,x.2::m,Z,Y,_,L4,yr fP q1 E e4,e5, ?_,by rw[W];simp only at L;rw[L,ey], ?_⟩
    ·rw[aa6,ey]at N;exact N
    ·exact⟨.inr g2,e8⟩
  have B:∀(s:Fr),Sub s f->gy o (gX ops f)=false->(BT (kind o.op) fun T=>jN P rec ops l (i+1) (i::fH ops o.dst e) (gY s o.dst undef) (T::acc) k) h n=some r->
   ∃p y m h1 A L1 L2,ek (fun fuel=>jg P (cK P kn fuel) nt ops (o::l) f) h n y h1 A L1∧Sub p y.1∧k p (acc.reverse++m) h1 A=some ⟨r.val,r.h,r.n,L2⟩∧r.log=L1++L2∧Match (o::l) m y.2:=by
   intro s u hw a;obtain⟨c,hc,nc,Lc⟩:=r
   have a:∃T,(kind o.op=0∨T=⟨n,n,[]⟩)∧jN P rec ops l (i+1) (i::fH ops o.dst e) (gY s o.dst undef) (T::acc) k h n=some ⟨c,hc,nc,Lc⟩:=by
    revert a;generalize kind o.op=kk;intro a
    match kk,a with
    |0,a=>exact⟨_,.inl rfl,a⟩
    |kk+1,a=>have a:((az (M.ret undef)).bind fun x=>jN P rec ops l (i+1) (i::fH ops o.dst e) (gY s o.dst undef) (x.2::acc) k) h n=some ⟨c,hc,nc,Lc⟩:=a;obtain⟨x,h1,A,L1,L2,e1,e2,W⟩:=bind_some a;obtain⟨g1,g2⟩:=Gb e1;obtain⟨-,rfl,rfl,rfl⟩:=B1 g1;refine⟨x.2,.inr g2, ?_⟩;simp only[lk]at W;rw[W];exact e2
   obtain⟨T,u0,a⟩:=a;obtain⟨X,E,C⟩:=u.put R undef;obtain⟨p,y,m,Z,Y,L3,L4,e4,e5,N,L,e8⟩:=ih Q _ O _ _ X (Idle.add fP u1 (Idle.put fP z E) E) _ k _ _ _ C a;refine⟨p,_,T::m,Z,Y,_,L4,yr fP (Oe fP hw) E e4,e5, ?_,by simp only at L;rw[L];simp, ?_⟩
   ·rw[aa6,ey]at N;exact N
   ·exact⟨u0,e8⟩
  unfold jN at a;cases K:o.guard with
  |none=>rw[K]at a;exact go s u (by unfold gy;rw[K]) a
  |some jw=>
   obtain⟨j,I⟩:=jw;rw[K]at a;simp only at a;cases hI:tE j e with
   |true=>rw[hI]at a;refine B s u ?_ a;unfold gy;rw[K];simp only;rw[z j (Hb fP hI)];rfl
   |false=>
   rw[hI]at a;simp only at a;cases ht:(ops[j]?).bind (·.dst)with
   |none=>rw[ht]at a;cases a
   |some t=>
    rw[ht]at a;simp only at a;obtain⟨g,u2,a⟩:=cN a;have iR:=u t g u2
    have hy:∀b,g= .bool b->gX ops f j=some b:=fun b G=>by unfold gX;rw[ht];simp only[iR,G]
    rcases Ha fP a with ⟨G,a⟩|⟨G,a⟩
    ·have D:Sub ((t,.bool true)::s) f:=u.cons (by rw[iR,G]);cases I with
     |true=>exact go _ D (by unfold gy;rw[K];simp only;rw[hy _ G];rfl) a
     |false=>exact B _ D (by unfold gy;rw[K];simp only;rw[hy _ G];rfl) a
    ·have D:Sub ((t,.bool false)::s) f:=u.cons (by rw[iR,G]);cases I with
     |true=>exact B _ D (by unfold gy;rw[K];simp only;rw[hy _ G];rfl) a
     |false=>exact go _ D (by unfold gy;rw[K];simp only;rw[hy _ G];rfl) a
theorem adI{I:Type}{nt:Nat}{ops:Array Oper}{c:Bool}(hd:∀o∈ops.toList,∀d,o.dst=some d->d<nt∧d<1023){s:Fr}{p:S}{k:Fr->M I}{h:H}{n:Nat}{r:Out I}(K:Sub s p)(m:G6 P rec ops c s k h n=some r):
 ∃v J h1 i L1 L2,ek (fun fuel=>o0 P (cK P kn fuel) nt ops c p) h n J h1 i L1∧Sub v J∧k v h1 i=some ⟨r.val,r.h,r.n,L2⟩∧r.log=L1++L2:=by
 have fin:∀{y:S×List Tk} {h1:H} {i:Nat} {L1:List En},ek (fun fuel=>jg P (cK P kn fuel) nt ops ops.toList p) h n y h1 i L1->(nH n ops.toList y.2 i->(!c||(rh ops&&oZ ops (lR ops.toList []) (tagged 0 y.2)))=true)->ek (fun fuel=>o0 P (cK P kn fuel) nt ops c p) h n y.1 h1 i L1:=by
  intro y h1 i L1 z t
  have t:=t (by
   obtain⟨A,e⟩:=z
   exact acD (fun f a=>Loc.cK P kn A f a) _ _ _ _ _ _ _ _ (e A (ah _)))
  obtain⟨A,e⟩:=z;refine⟨A,fun fuel N=> ?_⟩;show o0 P (cK P kn fuel) nt ops c p h n=_;unfold o0;have:=bW (f:=fun y:S×List Tk=>if(!c||(rh ops&&oZ ops (lR ops.toList []) (tagged 0 y.2)))=true then M.ret y.1 else .fail) (e fuel N) (L2:=[]) (b:=y.1) (h2:=h1) (n2:=i) (by rw[if_pos t];rfl);rw[bV]at this;exact this
 unfold G6 at m;cases l:(!c||Bh ops)with
 |true=>
  simp only[l]at m;obtain⟨v,y,h1,i,L1,L2,z,G,u,E⟩:=adC fP ops.toList hd 0 (fun q o B=>by rw[fD,<-Fu];exact B) [] s p (fun j C=>by cases C) k h n r K m;refine⟨v,y.1,h1,i,L1,L2,fin z fun x=> ?_,G,u,E⟩;simp only[oO,AN]at l;rcases l with g|g
  ·rw[g];rfl
  ·obtain⟨Q,O⟩:=acH x g;rw[Q,O];simp
 |false=>
  simp only[l]at m;cases D:rh ops with
  |false=>simp only[D]at m;cases m
  |true=>
   simp only[D]at m;obtain⟨v,y,L,h1,i,L1,L2,z,G,u,E,R⟩:=adH fP ops.toList hd 0 (fun q o B=>by rw[fD,<-Fu];exact B) [] s p (fun j C=>by cases C) [] _ h n r K m;simp only[List.reverse_nil,lk]at u;cases t:vT (lR ops.toList []) ops 0 ops.toList L with
   |false=>rw[t]at u;cases u
   |true=>rw[t]at u;exact⟨v,y.1,h1,i,L1,L2,fin z fun x=>by rw[D,adG x R t];simp,G,u,E⟩
def adJ(kn:List FuncId)(P:Program)(nt:Nat)(c:Code)(d:S)(h:H)(n:Nat)(x:Ex×S)(h1:H)(e:Nat)(L:List En):Prop:=∃b,∀a,b<=a->∀f,b<=f->dP P (cK P kn a) nt f c d h n=some ⟨x,h1,e,L⟩
def Hc(kn:List FuncId)(P:Program)(nt:Nat)(c:Code)(l:S){a:Type}(k:Ex->Fr->M a)(h:H)(n:Nat)(r:Out a):Prop:=
 ∃e d b g f j i,adJ kn P nt c l h n (e,b) g f j∧Sub d b∧k e d g f=some ⟨r.val,r.h,r.n,i⟩∧r.log=j++i
theorem adK{U:Type}{nt:Nat}{G:Hint}{Y:Nat}:∀(c:Code) (_:lU nt c=true) (s:Fr) (g:S) (k:Ex->Fr->M U) (h:H) (n:Nat) (r:Out U),Sub s g->iC P rec G Y c s k h n=some r->Hc kn P nt c g k h n r:=by
 intro c
 induction c with
 |skip=>intro _ s g k h n r t j;exact⟨.normal,s,g,h,n,[],r.log,⟨1,fun m _ f q=>by match f,q with|f+1,_=>rfl⟩,t,j,rfl⟩
 |label l=>intro _ s g k h n r t j;exact⟨.normal,s,g,h,n,[],r.log,⟨1,fun m _ f q=>by match f,q with|f+1,_=>rfl⟩,t,j,rfl⟩
 |region id u5 u4=>
  intro hd s g k h n r t j;unfold lU at hd;rw[sR]at hd
  obtain⟨D,A,y,x,u,L2,⟨B,e1⟩,e2,e3,e4⟩:=adI fP (fun o ho d u2=>by
   have:=hd o (by simpa using ho);rw[u2]at this
   simpa using this) t j
  refine⟨.normal,D.au G.1,A,y,x,u,L2,⟨B+1,fun m p f q=> ?_⟩,e2.au G.1,e3,e4⟩
  match f,q with
  |f+1,_=>unfold dP;have:=bW (f:=fun g=>M.ret (Ex.normal,g)) (e1 m jO) (L2:=[]) (h2:=y) (n2:=x) (b:=(Ex.normal,A)) rfl;rw[bV]at this;exact this
 |seq a b L K=>
  intro hd s g k h n r t j;unfold lU at hd;simp only[bZ]at hd;obtain⟨e,D,A,y,x,u,L2,⟨B,C⟩,I,z,E⟩:=L hd.1 s g _ h n r t j;cases e with
  |normal=>
   obtain⟨e,X,W,h3,n3,L3,L4,⟨f1,q1⟩,q2,Z,O⟩:=K hd.2 D A k y x _ I z;refine⟨e,X,W,h3,n3,u++L3,L4,⟨max B f1+1,fun m p f q=> ?_⟩,q2,Z,by rw[E];simp only at O;rw[O,ey]⟩
   match f,q with
   |f+1,_=>unfold dP;exact bW (C m jO f jO) (q1 m jO f jO)
  |ret=>
   refine⟨.ret,D,A,y,x,u,L2,⟨B+1,fun m p f q=> ?_⟩,I,z,E⟩
   match f,q with
   |f+1,_=>unfold dP;rw[<-bV u];exact bW (C m jO f jO) rfl
  |exit i=>
   refine⟨.exit i,D,A,y,x,u,L2,⟨B+1,fun m p f q=> ?_⟩,I,z,E⟩
   match f,q with
   |f+1,_=>unfold dP;rw[<-bV u];exact bW (C m jO f jO) rfl
 |cond c a b L K=>
  intro hd s g k h n r t j;unfold lU at hd;simp only[bZ]at hd;obtain⟨v,hv,j⟩:=cN j;have hc:=t.bD hv;rcases Ha fP j with ⟨rfl,j⟩|⟨rfl,j⟩
  ·obtain⟨e,D,A,y,x,u,L2,⟨B,C⟩,I,z,E⟩:=L hd.1 s g k h n r t j;refine⟨e,D,A,y,x,u,L2,⟨B+1,fun m p f q=> ?_⟩,I,z,E⟩
   match f,q with
   |f+1,_=>unfold dP;simp only[hc,if_true];exact C m jO f jO
  ·obtain⟨e,D,A,y,x,u,L2,⟨B,C⟩,I,z,E⟩:=K hd.2 s g k h n r t j;refine⟨e,D,A,y,x,u,L2,⟨B+1,fun m p f q=> ?_⟩,I,z,E⟩
   match f,q with
   |f+1,_=>unfold dP;simp only[hc,oQ,if_false];exact C m jO f jO
 |block id c ih=>
  intro hd s g k h n r t j;unfold lU at hd;obtain⟨e,D,A,y,x,u,L2,⟨B,C⟩,I,z,E⟩:=ih hd s g _ h n r t j
  have fin:∀T:Ex,(∀m,B<=m->∀f,B<=f->dP P (cK P kn m) nt (f+1) (.block id c) g h n=some ⟨(T,A),y,x,u⟩)->k T D y x=some ⟨r.val,r.h,r.n,L2⟩->Hc kn P nt (.block id c) g k h n r:=by
   intro T Q hk;refine⟨T,D,A,y,x,u,L2,⟨B+1,fun m p f q=> ?_⟩,I,hk,E⟩
   match f,q with
   |f+1,_=>exact Q m jO f jO
  cases e with
  |normal=>exact fin .normal (fun m p f q=>by unfold dP;rw[<-bV u];exact bW (C m p f q) rfl) z
  |ret=>exact fin .ret (fun m p f q=>by unfold dP;rw[<-bV u];exact bW (C m p f q) rfl) z
  |exit i=>
   cases R:bY i id with
   |true=>have N:i=id:=lf R;simp only[BW,R]at z;exact fin .normal (fun m p f q=>by unfold dP;rw[<-bV u];exact bW (C m p f q) (by simp only[if_pos N];rfl)) z
   |false=>
    have N:¬i=id:=by rintro rfl;rw[xH]at R;cases R
    simp only[BW,R]at z;exact fin (.exit i) (fun m p f q=>by unfold dP;rw[<-bV u];exact bW (C m p f q) (by simp only[if_neg N];rfl)) z
 |loop c ih=>
  intro hd s g k h n r t j;have u3:lU nt c=true:=by unfold lU at hd;exact hd
  have u0:∀(J:Nat) (keys:List Nat) (s:Fr) (g:S) (h:H) (n:Nat) (r:Out U),Sub s g->aT (fun g k1=>iC P rec G Y c g k1) keys J s k h n=some r->Hc kn P nt (.loop c) g k h n r:=by
   intro J
   induction J with
   |zero=>intro keys s g h n r _ j;cases j
   |succ J u1=>
    intro keys s g h n r t j;unfold aT at j;obtain⟨e,D,A,y,x,u,L2,⟨B,C⟩,I,z,E⟩:=ih u3 s g _ h n r t j;cases e with
    |normal=>
     obtain⟨e,X,W,h3,n3,L3,L4,⟨f1,q1⟩,q2,Z,O⟩:=u1 keys _ A y x _ (I.au keys) z;refine⟨e,X,W,h3,n3,u++L3,L4,⟨max B f1+1,fun m p f q=> ?_⟩,q2,Z,by rw[E];simp only at O;rw[O,ey]⟩
     match f,q with
     |f+1,_=>unfold dP;exact bW (C m jO f jO) (q1 m jO f jO)
    |ret=>
     refine⟨.ret,D,A,y,x,u,L2,⟨B+1,fun m p f q=> ?_⟩,I,z,E⟩
     match f,q with
     |f+1,_=>unfold dP;rw[<-bV u];exact bW (C m jO f jO) rfl
    |exit i=>
     refine⟨.exit i,D,A,y,x,u,L2,⟨B+1,fun m p f q=> ?_⟩,I,z,E⟩
     match f,q with
     |f+1,_=>unfold dP;rw[<-bV u];exact bW (C m jO f jO) rfl
  exact u0 Y s.keys s g h n r t j
 |exit id=>intro _ s g k h n r t j;exact⟨.exit id,_,g,h,n,[],r.log,⟨1,fun m _ f q=>by match f,q with|f+1,_=>rfl⟩,t.out G id,j,rfl⟩
 |ret=>intro _ s g k h n r t j;exact⟨.ret,_,g,h,n,[],r.log,⟨1,fun m _ f q=>by match f,q with|f+1,_=>rfl⟩,t.au _,j,rfl⟩
 |rangeFunc _ _ _ _=>intro _ s g k h n r t j;cases j
 |scope _=>intro _ s g k h n r t j;cases j
 |goto _=>intro _ s g k h n r t j;cases j
 |refuse _=>intro _ s g k h n r t j;cases j
end
theorem adL{P:Program}{s:Fr}{j:S}(o:Sub s j):∀(l:List ResultVar) (k:List Value->M Value) (h:H) (n:Nat) (r:Out Value),vU P s l k h n=some r->∃vs h1 d L1 L2,jr P j l h n=some ⟨vs,h1,d,L1⟩∧k vs h1 d=some ⟨r.val,r.h,r.n,L2⟩∧r.log=L1++L2:=by
 intro l
 induction l with
 |nil=>intro k h n r b;exact⟨[],h,n,[],r.log,rfl,b,rfl⟩
 |cons x l m=>
  intro k h n r b;cases x with
  |tmp t=>obtain⟨v,f,b⟩:=cN b;obtain⟨vs,h1,d,L1,L2,e,i,g⟩:=m _ h n r b;refine⟨v::vs,h1,d,L1,L2, ?_,i,g⟩;unfold jr;rw[o t v f,<-bV L1];exact bW e rfl
  |cell a t=>obtain⟨v,f,b⟩:=cN b;obtain⟨c,I,G,J⟩:=r;obtain⟨u,h1,d,L1,L2,e,i,g⟩:=bind_some (N8 b);obtain⟨K,q,p⟩:=tq e;obtain⟨rfl,_⟩:=Q1.load P t v _ _ _ _ _ _ q;rw[List.filter_eq_self.2 (fun x _=>by simp;omega)]at p;subst p;have e:=q;obtain⟨vs,B,A,z,E,D,C,y⟩:=m _ h1 d _ i;refine⟨u::vs,B,A,L1++z,E, ?_,C,by rw[g];simp only at y;rw[y,ey]⟩;unfold jr;rw[o a v f];refine bW e ?_;rw[<-bV z];exact bW D rfl
theorem adM:∀(l:List Value) (i:Nat) (s:S),i+l.length<1023->Sub (BZ i l) (rj i l s):=by
 intro l
 induction l with
 |nil=>intro i s _;exact Sub.nil _
 |cons v l a=>intro i s h;simp only[cP]at h;show Sub ((i,v)::BZ (i+1) l) (rj (i+1) l (s.put i v));refine(a (i+1) (s.put i v) jO).cons ?_;rw[Nj _ _ _ _ jO,if_neg jO,S.o7 _ _ _ _ jO,if_pos rfl]
theorem B4{P:Program}{kn:List FuncId}(hd:j9 P=true){gt:Nat->Hint}{Y:Nat}:∀(d:Nat) (f:FuncId) (args:Array Value) (h:H) (n:Nat) (v:Value) (h1:H) (q:Nat) (L:List En),kR kn P gt Y d f args h n=some ⟨v,h1,q,L⟩->ek (fun fuel=>cK P kn fuel f args) h n v h1 q L:=by
 intro d
 induction d with
 |zero=>intro f args h n v h1 q L a;cases a
 |succ d K=>
  intro f args h n v h1 q L a;unfold kR at a;cases j:kn.contains f with
  |true=>
   rw[j]at a;simp only at a;cases g:rq f with
   |some k=>
    rw[g]at a;refine⟨1,fun fuel o=> ?_⟩
    match fuel,o with
    |fuel+1,o=>show cK P kn (fuel+1) f args h n=_;unfold cK;rw[if_pos j,g];exact a
   |none=>
   rw[g]at a;simp only at a;cases y:(decide (args.size=0)&&rk P f)with
   |false=>rw[y]at a;cases a
   |true=>
    rw[y]at a;refine⟨1,fun fuel o=> ?_⟩
    match fuel,o with
    |fuel+1,o=>show cK P kn (fuel+1) f args h n=_;unfold cK;rw[if_pos j,g];show(if(decide (args.size=0)&&rk P f)=true then _ else _:M Value) h n=_;rw[if_pos y];exact a
  |false=>
  rw[j]at a;simp only at a;unfold ax at a;cases l:P.funcs[f]? with
  |none=>rw[l]at a;cases a
  |some p=>
   rw[l]at a;simp only at a;cases s:p.body with
   |none=>rw[s]at a;cases a
   |some c=>
    rw[s]at a;simp only at a;cases b:(decide (args.size<=p.ntmps)&&decide (p.ntmps<1000))with
    |false=>rw[b]at a;cases a
    |true=>
     rw[b]at a;simp only at a;have m:=b;simp only[bZ,decide_eq_true_eq]at b;obtain⟨L',a,N⟩:=tq a
     have z:lU p.ntmps c=true:=by unfold j9 at hd;rw[sR]at hd;have:=hd p (Array.mem_of_getElem? l);rw[s]at this;exact this
     obtain⟨e,J,D,A,x,L1,C,⟨O,R⟩,Q,B,I⟩:=adK K c z _ (rj 0 args.toList .nil) _ h n _ (adM _ 0 _ (by simp;omega)) a
     have fin:∀(G:e= .normal∨e= .ret),vU P J p.results.toList ag A x=some ⟨v,h1,q,C⟩->ek (fun fuel=>cK P kn fuel f args) h n v h1 q L:=by
      intro G r;obtain⟨T,W,U,Z,X,E,u,t⟩:=adL Q _ _ _ _ _ r;simp only at u t;unfold ag at u;obtain⟨rfl,rfl,rfl,rfl⟩:=B1 u;rw[bV]at t;subst t;simp only at I;refine⟨O+1,fun fuel o=> ?_⟩
      match fuel,o with
      |fuel+1,o=>
       show cK P kn (fuel+1) f args h n=_;unfold cK;rw[if_neg (by rw[j];simp)];simp only[l,s];rw[if_pos m];rw[N,I];refine jL (bW (R fuel jO fuel jO) ?_);rcases G with rfl|rfl
       ·show((jr P D p.results.toList).bind _) A x=_;rw[<-bV C];exact bW E rfl
       ·show((jr P D p.results.toList).bind _) A x=_;rw[<-bV C];exact bW E rfl
     cases e with
     |normal=>exact fin (.inl rfl) B
     |ret=>exact fin (.inr rfl) B
     |exit i=>cases B
theorem B5{P:Program}(hd:j9 P=true){gt:Nat->Hint}{Y:Nat}(d:Nat)(f:FuncId)(args:Array Value)(h:H)(n:Nat)(v:Value)(h1:H)(a:Nat)(L:List En)(e:aj P gt Y d f args h n=some ⟨v,h1,a,L⟩):ek (fun fuel=>cK P KN fuel f args) h n v h1 a L:=B4 hd d f args h n v h1 a L e
def af{c:Type}(W:Nat->Prop)(n0:Nat)(m:M c)(h:H)(n:Nat)(Q:c->H->Nat->Prop):Prop:=
 ∃a d b L,m h n=some ⟨a,d,b,L⟩∧n<=b∧(∀e∈L,e.wr=true->n0<=e.b∨W e.b)∧Q a d b
theorem af.mono{c:Type}{W:Nat->Prop}{n0:Nat}{m:M c}{h:H}{n:Nat}{Q Q':c->H->Nat->Prop}(x:af W n0 m h n Q)(e:∀a h1 b,n<=b->Q a h1 b->Q' a h1 b):af W n0 m h n Q':=by obtain⟨a,h1,b,L,i,d,g,f⟩:=x;exact⟨a,h1,b,L,i,d,g,e _ _ _ d f⟩
section
variable {α β:Type} {W:Nat->Prop} {n0:Nat} {m:M α} {k:α->M β} {h h1:H} {n n1:Nat} {a:α} {L:List En} {Q:β->H->Nat->Prop}
theorem af.step(e:m h n=some ⟨a,h1,n1,L⟩)(p:n<=n1)(f:∀e∈L,e.wr=true->n0<=e.b∨W e.b)(x:af W n0 (k a) h1 n1 Q):af W n0 (m.bind k) h n Q:=by
 obtain⟨b,g,c,o,l,r,j,i⟩:=x;refine⟨b,g,c,L++o,bW e l,jO,fun x d=> ?_,i⟩;rcases FG.1 d with q|q
 ·exact f x q
 ·exact j x q
theorem af.Of(e:m h n=some ⟨a,h1,n1,L⟩)(r:n1=n)(x:af W n0 (m.bind k) h n Q):af W n0 (k a) h1 n1 Q:=by obtain⟨b,g,d,y,o,t,l,j⟩:=x;obtain⟨u,s,q,v,p,c,i,rfl⟩:=bind_some o;rw[e]at c;simp only[dH,Out.mk.injEq]at c;obtain⟨rfl,rfl,rfl,rfl⟩:=c;exact⟨b,g,d,p,i,jO,fun x f=>l x (FG.2 (.inr f)),j⟩
theorem af.iff(e:m h n=some ⟨a,h1,n,L⟩)(b:∀e∈L,e.wr=true->n0<=e.b∨W e.b):af W n0 (m.bind k) h n Q↔af W n0 (k a) h1 n Q:=
 ⟨af.Of e rfl,af.step e (ah _) b⟩
theorem af.aA{Q':α->H->Nat->Prop}(x:af W n0 m h n Q'):af W n0 (inside m) h n Q':=by obtain⟨a,h1,n1,L,g,f,d,c⟩:=x;exact⟨a,h1,n1,_,jL g,f,fun e b=>d e (List.mem_filter.1 b).1,c⟩
end
section
variable {β:Type} {W:Nat->Prop} {n0:Nat} {h h1:H} {n n1:Nat} {Q:β->H->Nat->Prop} {QV:Value->H->Nat->Prop}
theorem kS(a:β):af W n0 (M.ret a) h n Q↔Q a h n:=by
 constructor
 ·rintro⟨b,i,g,L,f,k,j,d⟩;obtain⟨rfl,rfl,rfl,rfl⟩:=B1 f;exact d
 ·intro x;exact⟨a,h,n,[],rfl,ah _,fun e c=>(nomatch c),x⟩
theorem Og:af W n0 (ag []) h n QV↔QV (.tuple #[]) h n:=kS _
theorem lF(v:Value):af W n0 (ag [v]) h n QV↔QV v h n:=kS _
theorem yu(v w:Value):af W n0 (ag [v,w]) h n QV↔QV (.tuple #[v,w]) h n:=kS _
theorem Oh(v w u:Value):af W n0 (ag [v,w,u]) h n QV↔QV (.tuple #[v,w,u]) h n:=kS _
theorem tG{b:Type}(a:b)(k:b->M β):bg (some a) k=k a:=rfl
theorem Oi(b:Bool)(x y:M β):af W n0 (aC (.bool b) x y) h n Q↔if b=true then af W n0 x h n Q else af W n0 y h n Q:=by
 cases b
 ·rw[if_neg an0];exact Iff.rfl
 ·rw[if_pos rfl];exact Iff.rfl
theorem Oj(x y:M β):aC (.bool true) x y=x:=rfl
theorem Ol(x y:M β):aC (.bool false) x y=y:=rfl
section
variable {β:Type} (k:Value->M β)
theorem On(a:Addr):ak (.pointer (some a)) k=k (.pointer (some a)):=rfl
theorem Oo(f:FuncId)(a b:Array Value):ak (.func (.func f) a b) k=k (.func (.func f) a b):=rfl
theorem qy(f:IntKind->Int->Int->Value)(j:IntKind)(a b:Int):kL f (.int j a) (.int j b) k=k (f j a b):=by unfold kL;simp only[Bv]
theorem Oq(j:IntKind)(a b:Int):aq (.int j a) (.int j b) k=k (.int j (j.wrap (a+b))):=by show kL (fun k a b=> .int k (nI k (Bo a b))) (.int j a) (.int j b) k=_;rw[qy,kK,NO]
theorem Ot(j:IntKind)(a b:Int):cO (.int j a) (.int j b) k=k (.int j (j.wrap (a-b))):=by unfold cO;rw[qy,kK,Bq]
theorem Ou(j:IntKind)(a b:Int):dR (.int j a) (.int j b) k=k (.int j (j.wrap (a*b))):=by unfold dR;rw[qy,kK,NP]
theorem Ov(j:IntKind)(a b:Int):cH (.int j a) (.int j b) k=k (.bool (a==b)):=by show kL (fun _ a b=> .bool (pd a b)) (.int j a) (.int j b) k=_;rw[qy,rB]
theorem Ow(j:IntKind)(a b:Int):fG (.int j a) (.int j b) k=k (.bool (a !=b)):=by show kL (fun _ a b=> .bool (!pd a b)) (.int j a) (.int j b) k=_;rw[qy,rB];rfl
theorem Oy(j:IntKind)(a b:Int):dV (.int j a) (.int j b) k=k (.bool (decide (a<b))):=by show kL (fun _ a b=> .bool (vK a b)) (.int j a) (.int j b) k=_;rw[qy,ql]
theorem Oz(j:IntKind)(a b:Int):mr (.int j a) (.int j b) k=k (.bool (decide (a<=b))):=by unfold mr;rw[qy,Bs]
theorem OA(j:IntKind)(a b:Int):jh (.int j a) (.int j b) k=k (.bool (decide (b<a))):=by unfold jh;rw[qy,ql]
theorem OB(j:IntKind)(a b:Int):qu (.int j a) (.int j b) k=k (.bool (decide (b<=a))):=by unfold qu;rw[qy,Bs]
theorem OC(j:IntKind)(a b:Int)(c:b≠0):iS (.int j a) (.int j b) k=k (.int j (j.wrap (a.tdiv b))):=by unfold iS;simp only[Bv,rB,beq_eq_false_iff_ne.2 c,kK]
theorem OD(j:IntKind)(a b:Int)(c:b≠0):kN (.int j a) (.int j b) k=k (.int j (a.tmod b)):=by unfold kN;simp only[Bv,rB,beq_eq_false_iff_ne.2 c]
theorem Hd{f:Nat->Nat->Nat}{g:(w:Nat)->BitVec w->BitVec w->BitVec w}(c:∀w x y,(g w x y).toNat=f x.toNat y.toNat)(j:IntKind)(a b:Int)(e:0<=a)(d:0<=b):tC f (.int j a) (.int j b) k=k (.int j (j.wrap (g j.bits (cb j.bits a) (cb j.bits b)).toNat)):=by obtain⟨p,rfl⟩:∃p:Nat,a=gW p:=⟨a.toNat,(mb e).symm⟩;obtain⟨q,rfl⟩:∃q:Nat,b=gW q:=⟨b.toNat,(mb d).symm⟩;unfold tC;simp only[Bv,kK,c,(rI p q).1,(rI p q).2];rfl
theorem OE(j:IntKind)(a b:Int)(d:0<=a)(c:0<=b):yi (.int j a) (.int j b) k=k (.int j (j.wrap (cb j.bits a&&&cb j.bits b).toNat)):=Hd k (g:=fun _ x y=>x&&&y) (fun _ _ _=>FA ..) j a b d c
theorem OG(j:IntKind)(a b:Int)(d:0<=a)(c:0<=b):yk (.int j a) (.int j b) k=k (.int j (j.wrap (cb j.bits a|||cb j.bits b).toNat)):=Hd k (g:=fun _ x y=>x|||y) (fun _ _ _=>an9 ..) j a b d c
theorem OH(j:IntKind)(a b:Int)(d:0<=a)(c:0<=b):nN (.int j a) (.int j b) k=k (.int j (j.wrap (cb j.bits a^^^cb j.bits b).toNat)):=Hd k (g:=fun _ x y=>x^^^y) (fun _ _ _=>an' ..) j a b d c
theorem OI(j c:IntKind)(a b:Int)(e:0<=a)(d:0<=b):mv (.int j a) (.int c b) k=k (.int j (j.wrap (a*2^(min b.toNat j.bits)))):=by obtain⟨p,rfl⟩:∃p:Nat,a=gW p:=⟨a.toNat,(mb e).symm⟩;obtain⟨q,rfl⟩:∃q:Nat,b=gW q:=⟨b.toNat,(mb d).symm⟩;unfold mv;simp only[kK];congr 3
theorem OJ(j c:IntKind)(a b:Int)(e:0<=a)(d:0<=b):pj (.int j a) (.int c b) k=k (.int j (a.fdiv (2^(min b.toNat j.bits)))):=by obtain⟨p,rfl⟩:∃p:Nat,a=gW p:=⟨a.toNat,(mb e).symm⟩;obtain⟨q,rfl⟩:∃q:Nat,b=gW q:=⟨b.toNat,(mb d).symm⟩;unfold pj;simp only;congr 2;show((p/2^(min q j.bits):Nat):Int)=((p:Nat):Int).fdiv (2^min q j.bits);have f:(2:Int)^(min q j.bits)=((2^(min q j.bits):Nat):Int):=jS;rw[f,MB _ (oS _),<-an_]
theorem tH(a b:List UInt8)(h:a.length+b.length<=9223372036854775807):aq (.string ⟨a.toArray⟩) (.string ⟨b.toArray⟩) k=k (.string ⟨(a++b).toArray⟩):=by unfold aq;simp only[pe];rw[show bI (gK a.length b.length) 9223372036854775807=true from lQ h];simp only[Gd]
theorem tI(a b:List UInt8):cH (.string ⟨a.toArray⟩) (.string ⟨b.toArray⟩) k=k (.bool (decide (a=b))):=by unfold cH;simp only[Bt]
theorem He(a b:List UInt8):fG (.string ⟨a.toArray⟩) (.string ⟨b.toArray⟩) k=k (.bool (!decide (a=b))):=by unfold fG;simp only[Bt]
theorem apy(a b:List UInt8):dV (.string ⟨a.toArray⟩) (.string ⟨b.toArray⟩) k=k (.bool (apx a b)):=by unfold dV;simp only[apw]
theorem OK(a b:Bool):BG (.bool a) (.bool b) k=k (.bool (a==b)):=by cases a<;>cases b<;>rfl
theorem OL(a b:Bool):yl (.bool a) (.bool b) k=k (.bool (a !=b)):=by cases a<;>cases b<;>rfl
theorem Hf(b:Bool):dC (.bool b) k=k (.bool (!b)):=rfl
theorem OM(j:IntKind)(a:Int):BK (.int j a) k=k (.int j (j.wrap (0-a))):=by unfold BK;simp only[kK,Bq]
theorem ON(b j:IntKind)(a:Int):dh b (.int j a) k=k (.int b (b.wrap a)):=by unfold dh;simp only[kK]
theorem OO(s:ByteArray):N2 (.string s) k=k (.string s):=rfl
theorem OP(a:Option Addr)(n c:Nat):bA (.slice a n c) k=k (.int .i64 (n:Int)):=rfl
theorem yv(l:List UInt8):bH (.string ⟨l.toArray⟩) k=k (.int .i64 (l.length:Int)):=by unfold bH;simp only[pe];rfl
theorem OQ(j c:IntKind)(a b:Int):kO (.int j a) (.int c b) k=k (.int j (if b<a then b else a)):=by unfold kO;simp only[ql];by_cases h:b<a<;>simp only[h,decide_true,decide_false,if_true,if_false]
theorem OR(j c:IntKind)(a b:Int):nO (.int j a) (.int c b) k=k (.int j (if a<b then b else a)):=by unfold nO;simp only[ql];by_cases h:a<b<;>simp only[h,decide_true,decide_false,if_true,if_false]
theorem OS(b:Bool)(x y:Value):Gy (.bool b) x y k=k (if b=true then x else y):=by cases b<;>rfl
theorem OT(a:Addr):qv (.pointer (some a)) (.pointer none) k=k (.bool false):=rfl
theorem OU:qv (.pointer none) (.pointer none) k=k (.bool true):=rfl
theorem OV(a:Addr):ym (.pointer (some a)) (.pointer none) k=k (.bool true):=rfl
theorem OW:ym (.pointer none) (.pointer none) k=k (.bool false):=rfl
theorem OX(a:Addr)(n c m d:Nat):yn (.slice (some a) n c) (.slice none m d) k=k (.bool false):=rfl
theorem OY(n c m d:Nat):yn (.slice none n c) (.slice none m d) k=k (.bool true):=rfl
theorem OZ(a:Addr)(n c m d:Nat):yo (.slice (some a) n c) (.slice none m d) k=k (.bool true):=rfl
theorem O1(n c m d:Nat):yo (.slice none n c) (.slice none m d) k=k (.bool false):=rfl
theorem O2(f:Fn)(a b:Array Value):Gw (.func f a b) .nilFunc k=k (.bool false):=rfl
theorem O3(f:Fn)(a b:Array Value):Gx (.func f a b) .nilFunc k=k (.bool true):=rfl
theorem O4(K b off:Nat):ay K (.pointer (some ⟨b,off,none⟩)) k=k (.pointer (some ⟨b,off+K,none⟩)):=rfl
theorem Hg(l:List Value)(i:Nat):(match rF l i with
 |some v=>k v
 |none=>M.fail)=bg l[i]? k:=by
 rw[BA];cases l[i]? <;>rfl
theorem O5(K:Nat)(l:List Value):Gz K (.agg l.toArray) k=bg l[K]? k:=Hg k l K
theorem O6(K m:Nat)(l:List Value):GA K m (.agg l.toArray) k=k (.agg ((l.drop K).take m).toArray):=rfl
theorem O7(l:List Value)(i:Nat):aU (.tuple l.toArray) i k=bg l[i]? k:=Hg k l i
theorem bJ(a b:Value):aU (.tuple #[a,b]) 0 k=k a:=rfl
theorem ext1(a b:Value):aU (.tuple #[a,b]) 1 k=k b:=rfl
theorem yw{i:Int}{n:Nat}(h1:i<n){j:Nat}(e:i=gW j):bI (fF j) n=true:=by subst e;exact lQ (Int.ofNat_lt.1 h1)
theorem O8(b off n c:Nat)(j:IntKind)(i:Int)(a:0<=i)(h1:i<n):bQ (.slice (some ⟨b,off,none⟩) n c) (.int j i) k=k (.pointer (some ⟨b,off+i.toNat,none⟩)):=by obtain⟨p,rfl⟩:∃p:Nat,i=gW p:=⟨i.toNat,(mb a).symm⟩;unfold bQ;simp only[yw h1 rfl];rfl
theorem Hi(sz b off n c:Nat)(j:IntKind)(i:Int)(a:0<=i)(h1:i<n):mw sz (.slice (some ⟨b,off,none⟩) n c) (.int j i) k=k (.pointer (some ⟨b,off+i.toNat*sz,none⟩)):=by obtain⟨p,rfl⟩:∃p:Nat,i=gW p:=⟨i.toNat,(mb a).symm⟩;unfold mw;simp only[yw h1 rfl];rfl
theorem Hj(n b off:Nat)(j:IntKind)(i:Int)(a:0<=i)(h1:i<n):gN n (.pointer (some ⟨b,off,none⟩)) (.int j i) k=k (.pointer (some ⟨b,off+i.toNat,none⟩)):=by obtain⟨p,rfl⟩:∃p:Nat,i=gW p:=⟨i.toNat,(mb a).symm⟩;unfold gN;simp only[yw h1 rfl];rfl
theorem O9(n sz b off:Nat)(j:IntKind)(i:Int)(a:0<=i)(h1:i<n):BM n sz (.pointer (some ⟨b,off,none⟩)) (.int j i) k=k (.pointer (some ⟨b,off+i.toNat*sz,none⟩)):=by obtain⟨p,rfl⟩:∃p:Nat,i=gW p:=⟨i.toNat,(mb a).symm⟩;unfold BM;simp only[yw h1 rfl];rfl
theorem O'(n:Nat)(l:List Value)(j:IntKind)(i:Int)(a:0<=i)(h1:i<n):vP n (.agg l.toArray) (.int j i) k=bg l[i.toNat]? k:=by obtain⟨p,rfl⟩:∃p:Nat,i=gW p:=⟨i.toNat,(mb a).symm⟩;unfold vP;simp only[yw h1 rfl];exact Hg k l p
theorem vV(l:List UInt8)(j:IntKind)(i:Int)(g:0<=i)(h1:i<l.length):cU (.string ⟨l.toArray⟩) (.int j i) k=k (.int .u8 ((l.getD i.toNat 0).toNat:Int)):=by
 obtain⟨p,rfl⟩:∃p:Nat,i=gW p:=⟨i.toNat,(mb g).symm⟩;have f:p<l.length:=Int.ofNat_lt.1 h1
 have e:qn l p=some (l.getD p 0):=by
  cases b:qn l p with
  |some c=>rw[(Ge _ _ _ b).2]
  |none=>
   exfalso
   have:∀(l:List UInt8) (p:Nat),p<l.length->qn l p≠none:=by
    intro l
    induction l with
    |nil=>intro p h;simp at h
    |cons a l d=>
     intro p h e;cases p with
     |zero=>cases e
     |succ p=>exact d p (by simpa using h) e
   exact this l p f b
 unfold cU;simp only[e];rfl
theorem Hk(l:List UInt8)(lo c:Option Value){a b:Nat}(e:qw lo 0=some a)(d:qw c l.length=some b)(h1:a<=b)(h2:b<=l.length):bL (.string ⟨l.toArray⟩) lo c k=k (.string ⟨((l.drop a).take (b-a)).toArray⟩):=by unfold bL;simp only[e,pe,d,lQ h1,lQ h2];rfl
theorem B6(j:IntKind){i:Int}(d:Nat)(h:0<=i):qw (some (.int j i)) d=some i.toNat:=by obtain⟨p,rfl⟩:∃p:Nat,i=gW p:=⟨i.toNat,(mb h).symm⟩;rfl
theorem yx(l:List UInt8)(c:IntKind)(j:Int)(d:0<=j)(h1:j<=l.length):bL (.string ⟨l.toArray⟩) none (some (.int c j)) k=k (.string ⟨(l.take j.toNat).toArray⟩):=by rw[Hk k l none _ (a:=0) (b:=j.toNat) rfl (B6 c _ d) jO jO];simp
theorem yy(l:List UInt8)(c:IntKind)(i:Int)(d:0<=i)(h1:i<=l.length):bL (.string ⟨l.toArray⟩) (some (.int c i)) none k=k (.string ⟨(l.drop i.toNat).toArray⟩):=by rw[Hk k l _ none (a:=i.toNat) (b:=l.length) (B6 c _ d) rfl jO jO];rw[FE jS]
theorem yz(l:List UInt8)(b a:IntKind)(i j:Int)(c:0<=i)(h1:i<=j)(h2:j<=l.length):bL (.string ⟨l.toArray⟩) (some (.int b i)) (some (.int a j)) k=k (.string ⟨((l.drop i.toNat).take (j.toNat-i.toNat)).toArray⟩):=
 Hk k l _ _ (B6 b _ c) (B6 a _ jO) jO jO
theorem Hl(z:List Value)(ps:List (Nat×Nat×Value)):bp z ps k=bg (fN z ps) fun cs=>k (.agg cs.toArray):=by unfold bp;cases fN z ps<;>rfl
theorem Hm(cs:List Value):fN cs []=some cs:=rfl
theorem adN(cs:List Value)(q:Nat×Nat×Value)(r:List (Nat×Nat×Value)):fN cs (q::r)=match bY (fL (dy q.2.2)) q.2.1 with
 |true=>match bI (gK q.1 (fL (dy q.2.2))) (fL cs)with
  |true=>fN (ph cs q.1 (dy q.2.2)) r
  |false=>none
 |false=>none:=rfl
theorem Pa{cs vs:List Value}{off sz:Nat}{v:Value}{r:List (Nat×Nat×Value)}(i:dy v=vs):fN cs ((off,sz,v)::r)=if vs.length=sz then(if off+sz<=cs.length then fN (cs.take off++(vs++cs.drop (off+sz))) r else none)else none:=by
 have f:∀(off:Nat) (cs l:List Value),off+l.length<=cs.length->ph cs off l=cs.take off++(l++cs.drop (off+l.length)):=by
  have g:∀(l cs:List Value),l.length<=cs.length->over l cs=l++cs.drop l.length:=by
   intro l
   induction l with
   |nil=>intro cs _;simp[over]
   |cons x l b=>
    intro cs h;cases cs with
    |nil=>simp at h
    |cons c cs=>show x::over l cs=_;rw[b cs (by simpa using h)];simp
  intro off
  induction off with
  |zero=>
   intro cs l h;have e:ph cs 0 l=over l cs:=by cases cs<;>rfl
   rw[e,g l cs jO];simp
  |succ off b=>
   intro cs l h;cases cs with
   |nil=>simp at h
   |cons c cs=>show c::ph cs off l=_;rw[b cs l (by simp at h;omega),show off+1+l.length=off+l.length+1 by omega];simp
 subst i;rw[adN];simp only[mo];by_cases h1:(dy v).length=sz
 ·rw[if_pos h1];subst h1;rw[xH];simp only;by_cases a:off+(dy v).length<=cs.length
  ·rw[if_pos a,show bI (gK off (dy v).length) cs.length=true from lQ a,f _ _ _ a]
  ·rw[if_neg a]
   have:bI (gK off (dy v).length) cs.length=false:=by
    cases d:bI (gK off (dy v).length) cs.length with
    |false=>rfl
    |true=>exact absurd (gJ d) a
   rw[this]
 ·rw[if_neg h1]
  have:bY (dy v).length sz=false:=by
   cases d:bY (dy v).length sz with
   |false=>rfl
   |true=>exact absurd (lf d) h1
  rw[this]
theorem yA{cs:List Value}{off:Nat}{v:Value}{r:List (Nat×Nat×Value)}(a:dy v=[v]):fN cs ((off,1,v)::r)=if off<cs.length then fN (cs.set off v) r else none:=by
 rw[Pa a,if_pos (show [v].length=1 from rfl)];by_cases h:off<cs.length
 ·rw[if_pos h,if_pos jO];congr 1;rw[List.set_eq_take_append_cons_drop,if_pos h];rfl
 ·rw[if_neg h,if_neg jO]
section
variable (cs:List Value) (off:Nat) (r:List (Nat×Nat×Value))
theorem Hn(j:IntKind)(x:Int):fN cs ((off,1,.int j x)::r)=if off<cs.length then fN (cs.set off (.int j x)) r else none:=yA rfl
theorem Pb(b:Bool):fN cs ((off,1,.bool b)::r)=if off<cs.length then fN (cs.set off (.bool b)) r else none:=yA rfl
theorem Pc(s:ByteArray):fN cs ((off,1,.string s)::r)=if off<cs.length then fN (cs.set off (.string s)) r else none:=yA rfl
theorem Pd(a:Option Addr)(n c:Nat):fN cs ((off,1,.slice a n c)::r)=if off<cs.length then fN (cs.set off (.slice a n c)) r else none:=yA rfl
theorem Pe(a:Option Addr):fN cs ((off,1,.pointer a)::r)=if off<cs.length then fN (cs.set off (.pointer a)) r else none:=yA rfl
theorem Ho(sz:Nat)(vs:List Value):fN cs ((off,sz,.agg vs.toArray)::r)=if vs.length=sz then(if off+sz<=cs.length then fN (cs.take off++(vs++cs.drop (off+sz))) r else none)else none:=Pa rfl
end
end
theorem get_eq(h:H)(i:Nat)(x:Option AB):(h.set i x).get i=x:=by rw[H.js,if_pos rfl]
theorem aw(h:H){i j:Nat}(x:Option AB)(e:j≠i):(h.set i x).get j=h.get j:=by rw[H.js,if_neg e]
theorem B7{c:Type}{m:M c}{h h1:H}{n n1:Nat}{a:c}{L:List En}(e:m h n=some ⟨a,h1,n1,L⟩)(f:∀e∈L,e.wr=false):∃L',inside m h n=some ⟨a,h1,n1,L'⟩∧∀e∈L',e.wr=true->n0<=e.b∨W e.b:=
 ⟨_,jL e,fun x d b=>by rw[f x (List.mem_filter.1 d).1]at b;cases b⟩
theorem vW(e:TypeId)(cs:List Value)(h:H)(n:Nat):cW e cs h n=some ⟨n,h.set n (some ⟨e,true,cs⟩),n+1,[]⟩:=by unfold cW;rw[if_pos (dI n)]
theorem tJ{b:Type}{m:M b}{a:b}{k:b->M β}{h1:H}{n1:Nat}(e:m h n=some ⟨a,h1,n1,[]⟩)(d:n<=n1)(x:af W n0 (k a) h1 n1 Q):af W n0 ((inside m).bind k) h n Q:=
 af.step (jL e) d (fun x c=>by simp at c) x
theorem jQ{a:Type}{m:M a}{b:a->M β}(x:af W n0 ((inside m).bind b) h n Q):af W n0 (eA m b) h n Q:=by rw[lT];exact x
theorem pr(e:TypeId)(cs:List Value)(f:Nat->Value)(h:H)(n:Nat):((jM e cs).bind fun id=>M.ret (f id)) h n=some ⟨f n,h.set n (some ⟨e,true,cs⟩),n+1,[]⟩:=by rw[lS];exact bW (vW _ _ _ _) rfl
theorem gD{T:Prop}(_:T){t:TypeId}(v:Value)(k:Value->M β)(x:af W n0 (k (.pointer (some ⟨n,0,none⟩))) (h.set n (some ⟨t,true,v.cells.toList⟩)) (n+1) Q):af W n0 (dW t v k) h n Q:=by rw[<-nL]at x;exact jQ (tJ (pr _ _ (fun id=>FD (some ⟨id,0,none⟩)) _ _) (eL n) x)
theorem dX{t:TypeId}{z cs:List Value}(a:z=cs)(k:Value->M β)(x:af W n0 (k (.pointer (some ⟨n,0,none⟩))) (h.set n (some ⟨t,true,cs⟩)) (n+1) Q):af W n0 (cC t z k) h n Q:=by subst a;exact jQ (tJ (pr _ _ (fun id=>FD (some ⟨id,0,none⟩)) _ _) (eL n) x)
theorem Hp(z:Value):∀m,kP [z] m=bU m z
 |0=>rfl
 |m+1=>by show z::kP [z] m=_;rw[Hp z m];rfl
theorem run_make{T:Prop}(_:T){e:TypeId}{z:Value}(l m:Nat)(k:Value->M β){b a:IntKind}(d:l<=m)(c:m<=1099511627776)(x:af W n0 (k (.slice (some ⟨n,0,none⟩) l m)) (h.set n (some ⟨e,true,bU m z⟩)) (n+1) Q):af W n0 (po e [z] (.int b l) (.int a m) k) h n Q:=by
 have f:po e [z] (.int b l) (.int a m) k=eA ((jM e (kP [z] m)).bind fun id=>M.ret (j3 (some ⟨id,0,none⟩) l m)) k:=by
  show(match bI l m with
   |true=>match bI m 1099511627776 with
    |true=>eA ((jM e (kP [z] m)).bind fun id=>M.ret (j3 (some ⟨id,0,none⟩) l m)) k
    |false=> .fail
   |false=> .fail)=_
  rw[lQ d,lQ c]
 rw[f,Hp];exact jQ (tJ (pr _ _ (fun id=>j3 (some ⟨id,0,none⟩) l m) _ _) (eL n) x)
theorem tL{T:Prop}(_:T){e:TypeId}{v:Value}(h1:one v=true)(k:Value->M β)(x:af W n0 (k (.slice (some ⟨n,0,none⟩) 1 1)) (h.set n (some ⟨e,true,[v]⟩)) (n+1) Q):af W n0 (bO e 1 v k) h n Q:=by
 have a:dy v=[v]:=by cases v<;>first|rfl|(simp[one]at h1)
 unfold bO;rw[a];exact jQ (tJ (pr _ _ (fun id=>j3 (some ⟨id,0,none⟩) 1 1) _ _) (eL n) x)
end
def rJ{b:Type}(o:Option b)(p:b->Prop):Prop:=match o with
 |some a=>p a
 |none=>False
theorem Pf{b:Type}(a:b)(p:b->Prop):rJ (some a) p=p a:=rfl
theorem ke(k:IntKind)(x:Int):one (.int k x)=true:=rfl
theorem adO(a:Option Addr)(n c:Nat):one (.slice a n c)=true:=rfl
theorem adP(a:Option Addr):one (.pointer a)=true:=rfl
theorem Pg(cs:Array Value):(mM cs).cells=cs:=rfl
section
variable {β:Type} {W:Nat->Prop} {n0:Nat} {h h1:H} {n n1:Nat} {Q:β->H->Nat->Prop}
theorem adQ:¬af W n0 (M.fail:M β) h n Q:=by rintro⟨_,_,_,_,e,_⟩;cases e
theorem B8{b:Type}{m:M b}{k:b->M β}(e:m h n=none):¬af W n0 (m.bind k) h n Q:=by rintro⟨_,_,_,_,a,_⟩;unfold M.bind at a;rw[e]at a;cases a
theorem B9{a:Type}{m:M a}(e:m h n=none):Ev.inside m h n=none:=by unfold Ev.inside;rw[e]
theorem Ph(b off:Nat)(k:Value->M β)(d:b<n):af W n0 (aP (.pointer (some ⟨b,off,none⟩)) k) h n Q↔rJ (h.get b) fun B=>af W n0 (bg (B.cells[off]?) k) h n Q:=by
 show af W n0 (eA (vM b off) k) h n Q↔_;rw[lT,BB];cases a:h.get b with
 |none=>refine⟨fun x=>absurd x (B8 (B9 ?_)),fun x=>x.elim⟩;unfold rd;simp[a]
 |some B=>
  show _↔af W n0 (bg (B.cells[off]?) k) h n Q;cases c:B.cells[off]? with
  |none=>refine⟨fun x=>absurd x (B8 (B9 ?_)),fun x=>absurd x adQ⟩;unfold rd;simp[a,c]
  |some v=>
   have e:rd b off h n=some ⟨v,h,n,[⟨false,b,some off⟩]⟩:=by unfold rd;simp only[d,a,c,if_true]
   obtain⟨i,g,f⟩:=B7 (W:=W) (n0:=n0) e jS;exact af.iff g f
theorem adR(b off:Nat){v:Value}(k:Value->M β)(h1:one v=true):aJ (.pointer (some ⟨b,off,none⟩)) v k=(inside ((wr b off v).bind fun _=> .ret undef)).bind k:=by
 show(match one v with
  |true=>eA ((tu b off v).bind fun _=> .ret undef) k
  |false=> .fail)=_
 rw[h1,BC];exact lT _ _
theorem vX(b off:Nat)(v:Value)(k:Value->M β)(o:b<n)(h1:one v=true):af W n0 (aJ (.pointer (some ⟨b,off,none⟩)) v k) h n Q↔
 rJ (h.get b) fun B=>B.own=true∧off<B.cells.length∧(n0<=b∨W b)∧af W n0 (k undef) (h.set b (some ⟨B.elem,B.own,B.cells.set off v⟩)) n Q:=by
 rw[adR b off k h1];cases g:h.get b with
 |none=>refine⟨fun x=>absurd x (B8 (B9 ?_)),fun x=>x.elim⟩;unfold M.bind wr;simp[g]
 |some B=>
  show _↔(B.own=true∧off<B.cells.length∧(n0<=b∨W b)∧_);by_cases a:B.own=true∧off<B.cells.length
  ·obtain⟨l,m⟩:=a
   have d:wr b off v h n=some ⟨(),h.set b (some ⟨B.elem,B.own,B.cells.set off v⟩),n,[⟨false,b,some off⟩,⟨true,b,some off⟩]⟩:=by unfold wr;simp[o,g,l,m,h1]
   have e:((wr b off v).bind fun _=>M.ret undef) h n=some ⟨undef,h.set b (some ⟨B.elem,B.own,B.cells.set off v⟩),n,[⟨false,b,some off⟩,⟨true,b,some off⟩]⟩:=by have:=bW (f:=fun _=>M.ret undef) d (L2:=[]) (b:=undef) (h2:=h.set b (some ⟨B.elem,B.own,B.cells.set off v⟩)) (n2:=n) rfl;simpa using this
   have i:=jL e;constructor
   ·intro x;refine⟨l,m, ?_,af.Of i rfl x⟩;obtain⟨_,_,_,L,s,_,r,_⟩:=x;obtain⟨_,_,_,u,t,j,_,rfl⟩:=bind_some s;rw[i]at j;simp only[dH,Out.mk.injEq]at j;refine r ⟨true,b,some off⟩ (FG.2 (.inl ?_)) rfl;rw[<-j.2.2.2];refine List.mem_filter.2 ⟨jS, ?_⟩;simp;omega
   ·rintro⟨_,_,q,x⟩;refine af.step i (ah _) (fun x c p=> ?_) x;have c:=(List.mem_filter.1 c).1;simp at c;rcases c with rfl|rfl<;>exact q
  ·refine⟨fun x=>absurd x (B8 (B9 ?_)),fun x=>absurd ⟨x.1,x.2.1⟩ a⟩;unfold M.bind wr;simp only[o,g,if_true,h1,Bool.and_true];rw[if_neg (by simpa using a)]
section
variable (b off:Nat) (k:Value->M β) (hb:b<n)
include hb
theorem Pj(j:IntKind)(x:Int):af W n0 (aJ (.pointer (some ⟨b,off,none⟩)) (.int j x) k) h n Q↔rJ (h.get b) fun B=>B.own=true∧off<B.cells.length∧(n0<=b∨W b)∧af W n0 (k undef) (h.set b (some ⟨B.elem,B.own,B.cells.set off (.int j x)⟩)) n Q:=vX b off _ k hb rfl
theorem Pl(x:Bool):af W n0 (aJ (.pointer (some ⟨b,off,none⟩)) (.bool x) k) h n Q↔rJ (h.get b) fun B=>B.own=true∧off<B.cells.length∧(n0<=b∨W b)∧af W n0 (k undef) (h.set b (some ⟨B.elem,B.own,B.cells.set off (.bool x)⟩)) n Q:=vX b off _ k hb rfl
theorem Pm(x:ByteArray):af W n0 (aJ (.pointer (some ⟨b,off,none⟩)) (.string x) k) h n Q↔rJ (h.get b) fun B=>B.own=true∧off<B.cells.length∧(n0<=b∨W b)∧af W n0 (k undef) (h.set b (some ⟨B.elem,B.own,B.cells.set off (.string x)⟩)) n Q:=vX b off _ k hb rfl
theorem Pn(x:Option Addr):af W n0 (aJ (.pointer (some ⟨b,off,none⟩)) (.pointer x) k) h n Q↔rJ (h.get b) fun B=>B.own=true∧off<B.cells.length∧(n0<=b∨W b)∧af W n0 (k undef) (h.set b (some ⟨B.elem,B.own,B.cells.set off (.pointer x)⟩)) n Q:=vX b off _ k hb rfl
theorem Po(x:Option Addr)(l c:Nat):af W n0 (aJ (.pointer (some ⟨b,off,none⟩)) (.slice x l c) k) h n Q↔rJ (h.get b) fun B=>B.own=true∧off<B.cells.length∧(n0<=b∨W b)∧af W n0 (k undef) (h.set b (some ⟨B.elem,B.own,B.cells.set off (.slice x l c)⟩)) n Q:=vX b off _ k hb rfl
end
theorem rK{b:Nat}{B:AB}(d:h.get b=some B)(f:b<n):∀(c k:Nat),k+c<=B.cells.length->∃L,cR b k c h n=some ⟨(B.cells.drop k).take c,h,n,L⟩∧∀e∈L,e.wr=false
 |0,k,_=>⟨[],by rw[List.take_zero];rfl,jS⟩
 |c+1,k,j=>by
  obtain⟨L,e,g⟩:=rK d f c (k+1) jO;have a:k<B.cells.length:=jO;refine⟨[⟨false,b,some k⟩]++(L++[]), ?_, ?_⟩
  ·unfold cR
   have i:rd b k h n=some ⟨B.cells[k],h,n,[⟨false,b,some k⟩]⟩:=by unfold rd;simp only[f,d,if_true,bB a]
   refine bW i (bW e ?_);rw[List.drop_eq_getElem_cons a,List.take_succ_cons];rfl
  ·intro x hx;simp only[bV,FG,aa7,jl,or_false]at hx;rcases hx with rfl|hx
   ·rfl
   ·exact g x hx
theorem Ca{b:Nat}{B:AB}(a:h.get b=some B)(c:b<n):fw b h n=some ⟨B.elem,h,n,[⟨false,b,some 1099511627776⟩]⟩:=by unfold fw;simp only[c,a,if_true]
theorem Pp{b:Nat}{B:AB}(c:h.get b=some B)(a:B.own=true)(d:b<n):kill b h n=some ⟨(),h.set b none,n,[⟨false,b,none⟩,⟨true,b,none⟩]⟩:=by unfold kill;simp only[d,c,a,if_true]
def Src(h:H)(n:Nat)(x:Value)(news:List Value):Prop:=∃b a c B,x= .slice (some ⟨b,a,none⟩) news.length c∧h.get b=some B∧b<n∧a+news.length<=B.cells.length∧(B.cells.drop a).take news.length=news
theorem Src.run{x:Value}{news:List Value}(s:Src h n x news):∃L,kF 1 news.length x h n=some ⟨news,h,n,L⟩∧(∀e∈L,e.wr=false)∧iz x=some news.length:=by obtain⟨b,a,c,B,rfl,g,i,f,d⟩:=s;obtain⟨L,e,j⟩:=rK g i news.length a f;refine⟨L, ?_,j,rfl⟩;unfold kF;rw[vu];show cR b a news.length h n=_;rw[e,d]
theorem Cb{T:Prop}(c:T){e:TypeId}{x:Value}{news:List Value}(b:iz x=some 0)(a:Option Addr)(l cp:Nat)(k:Value->M β)(y:af W n0 (k (.slice a l cp)) h n Q):af W n0 (bN e 1 (.slice a l cp) x k) h n Q:=by refine jQ (tJ (a:= .slice a l cp) ?_ (ah n) y);unfold mz;simp only[b];rfl
theorem Pq {T:Prop} (c:T) {e:TypeId} {x:Value} {news:List Value} (s:Src h n x news) (p:0<news.length) (i:news.length<=1099511627776) (h1:news.all one=true) (k:Value->M β)
 (y:af W n0 (k (.slice (some ⟨n,0,none⟩) news.length (bo+news.length))) (h.set n (some ⟨e,true,news⟩)) (n+1) Q):af W n0 (bN e 1 (.slice none 0 0) x k) h n Q:=by
 obtain⟨L,o,m,l⟩:=s.run
 have j:mz e 1 (.slice none 0 0) x h n=some ⟨.slice (some ⟨n,0,none⟩) news.length (bo+news.length),h.set n (some ⟨e,true,news⟩),n+1,L⟩:=by
  unfold mz;rw[qp,lS];simp only[l];rw[if_neg jO,if_pos i]
  have g:(if(decide (news.length=news.length*1)&&news.all one)=true then(cW e ([]++news)).bind fun id=>M.ret (j3 (some ⟨id,0,none⟩) (0+news.length) (bo+(0+news.length)))else M.fail) h n=some ⟨.slice (some ⟨n,0,none⟩) news.length (bo+news.length),h.set n (some ⟨e,true,news⟩),n+1,[]⟩:=by rw[if_pos (by simp;simpa using h1)];simp only[fD,lk];exact bW (vW _ _ _ _) rfl
  have:=bW (f:=fun a=>if(decide (a.length=news.length*1)&&a.all one)=true then(cW e ([]++a)).bind fun id=>M.ret (j3 (some ⟨id,0,none⟩) (0+news.length) (bo+(0+news.length)))else M.fail) o g;simpa using this
 refine jQ (af.step (jL j) (eL n) (fun x d b=> ?_) y);rw[m x (List.mem_filter.1 d).1]at b;cases b
theorem Pr {T:Prop} (c:T) {e:TypeId} {x:Value} {news olds:List Value} (s:Src h n x news) (C:0<news.length) (h1:news.all one=true) {b cp:Nat} {cs:List Value} (d:h.get b=some ⟨e,true,cs⟩) (f:b<n) (off l:Nat)
 (q:off+l<=cs.length) (o:(cs.drop off).take l=olds) (p:l+news.length<=1099511627776) (B:bo<=cp) (m:n0<=b∨W b) (k:Value->M β)
 (y:af W n0 (k (.slice (some ⟨n,0,none⟩) (l+news.length) (bo+(l+news.length)))) ((h.set b none).set n (some ⟨e,true,olds++news⟩)) (n+1) Q):af W n0 (bN e 1 (.slice (some ⟨b,off,none⟩) l cp) x k) h n Q:=by
 obtain⟨L,z,v,u⟩:=s.run;obtain⟨A,t,r⟩:=rK (n:=n) d f l off q
 have i:∃j,mz e 1 (.slice (some ⟨b,off,none⟩) l cp) x h n=some ⟨.slice (some ⟨n,0,none⟩) (l+news.length) (bo+(l+news.length)),(h.set b none).set n (some ⟨e,true,olds++news⟩),n+1,j⟩∧∀e∈j,e.wr=true->e.b=b:=by
  refine⟨[⟨false,b,some 1099511627776⟩]++(L++(A++([⟨false,b,none⟩,⟨true,b,none⟩]++[]))), ?_, ?_⟩
  ·unfold mz yp;rw[qp,lS,vN,Gn,mq];simp only[u];rw[if_neg jO,if_pos p];refine bW (Ca d f) ?_;simp only[if_true];refine bW z ?_;rw[if_pos (by simp;simpa using h1)];rw[if_neg jO,vu];refine bW t (bW (Pp d rfl f) ?_);rw[o];exact bW (vW _ _ _ _) rfl
  ·intro x hx a;simp only[FG,aa7,jl,or_false]at hx;rcases hx with rfl|hx|hx|rfl|rfl
   ·cases a
   ·rw[v x hx]at a;cases a
   ·rw[r x hx]at a;cases a
   ·cases a
   ·rfl
 obtain⟨j,i,g⟩:=i;refine jQ (af.step (jL i) (eL n) (fun x hx a=> ?_) y);rw[g x (List.mem_filter.1 hx).1 a];exact m
theorem adS {T:Prop} (c:T) {e:TypeId} {x:Value} {news olds:List Value} (s:Src h n x news) (E:0<news.length) (h1:news.all one=true) {b cp:Nat} {B:AB} (i:h.get b=some B) (q:B.elem=e) (j:b<n) (off l:Nat)
 (p:off+l<=B.cells.length) (m:(B.cells.drop off).take l=olds) (o:l+news.length<=1099511627776) (r:cp<bo) (D:cp<l+news.length) (k:Value->M β)
 (y:af W n0 (k (.slice (some ⟨n,0,none⟩) (l+news.length) (bo+(l+news.length)))) (h.set n (some ⟨e,true,olds++news⟩)) (n+1) Q):af W n0 (bN e 1 (.slice (some ⟨b,off,none⟩) l cp) x k) h n Q:=by
 obtain⟨L,A,z,v⟩:=s.run;obtain⟨C,u,t⟩:=rK (n:=n) i j l off p
 have f:∃g,mz e 1 (.slice (some ⟨b,off,none⟩) l cp) x h n=some ⟨.slice (some ⟨n,0,none⟩) (l+news.length) (bo+(l+news.length)),h.set n (some ⟨e,true,olds++news⟩),n+1,g⟩∧∀e∈g,e.wr=false:=by
  refine⟨[⟨false,b,some 1099511627776⟩]++(L++(C++[])), ?_, ?_⟩
  ·unfold mz yp;rw[qp,lS,vN,mq];simp only[v];rw[if_neg jO,if_pos o];refine bW (Ca i j) ?_;simp only[q,if_true];refine bW A ?_;rw[if_pos (by simp;simpa using h1)];rw[if_pos r,if_neg jO,vu];refine bW u ?_;rw[m];exact bW (vW _ _ _ _) rfl
  ·intro x hx;simp only[bV,FG,aa7,jl,or_false]at hx;rcases hx with rfl|hx|hx
   ·rfl
   ·exact z x hx
   ·exact t x hx
 obtain⟨g,f,d⟩:=f;refine jQ (af.step (jL f) (eL n) (fun x hx a=> ?_) y);rw[d x (List.mem_filter.1 hx).1]at a;cases a
theorem Ps {T:Prop} (c:T) {e:TypeId} {v:Value} (d:one v=true) {b cp l:Nat} {cs:List Value} (j:h.get b=some ⟨e,true,cs⟩) (o:b<n) (i:cs.length=l) (g:l+1<=1099511627776) (m:bo<=cp) (f:n0<=b∨W b) (k:Value->M β)
 (y:af W n0 (k (.slice (some ⟨n+1,0,none⟩) (l+1) (bo+(l+1)))) (((h.set n (some ⟨e,true,[v]⟩)).set b none).set (n+1) (some ⟨e,true,cs++[v]⟩)) (n+2) Q):af W n0 (bO e 1 v fun w=>bN e 1 (.slice (some ⟨b,0,none⟩) l cp) w k) h n Q:=by
 refine tL c d _ ?_;have a:(h.set n (some ⟨e,true,[v]⟩)).get b=some ⟨e,true,cs⟩:=by rw[aw _ _ jO];exact j
 exact Pr c (news:=[v]) (olds:=cs) ⟨n,0,1,⟨e,true,[v]⟩,rfl,get_eq _ _ _,dI n,jS,jS⟩ jS (by simp[d]) a jO 0 l jO (by rw[jz,<-i,jf]) g m f k y
theorem Pu {T:Prop} (c:T) {e:TypeId} {v:Value} (a:one v=true) (k:Value->M β)
 (y:af W n0 (k (.slice (some ⟨n+1,0,none⟩) 1 (bo+1))) ((h.set n (some ⟨e,true,[v]⟩)).set (n+1) (some ⟨e,true,[v]⟩)) (n+2) Q):af W n0 (bO e 1 v fun w=>bN e 1 (.slice none 0 0) w k) h n Q:=by
 refine tL c a _ ?_;exact Pq c (news:=[v]) ⟨n,0,1,⟨e,true,[v]⟩,rfl,get_eq _ _ _,dI n,jS,jS⟩ jS jS (by simp[a]) k y
theorem yB(d:Nat):ej none d=some d:=rfl
theorem Cc {T r:Prop} (c:T) {e:TypeId} {b:Nat} {B:AB} (g:h.get b=some B) (i:B.elem=e) (j:b<n) (off len cp:Nat) (lo d:Option Value) {l hh:Nat} (a:ej lo 0=some l) (f:ej d len=some hh) (h1:l<=hh) (h2:hh<=len) (s:len<=cp) (k:Value->M β) (_:r)
 (y:af W n0 (k (.slice (some ⟨b,if cp=l then off else off+l,none⟩) (hh-l) (cp-l))) h n Q):af W n0 (nQ e 1 (.slice (some ⟨b,off,none⟩) len cp) lo d k) h n Q:=by
 refine jQ ?_
 have p:((yf b).bind fun q=>match bY q e with
  |true=>M.lift (pq 1 (some ⟨b,off,none⟩) len cp lo d)
  |false=> .fail) h n=some ⟨.slice (some ⟨b,if cp=l then off else off+l,none⟩) (hh-l) (cp-l),h,n,[⟨false,b,some 1099511627776⟩]++[]⟩:=by
  rw[vN];refine bW (Ca g j) ?_;rw[i,xH];simp only;unfold pq;simp only[a,f];have:(decide (l<=hh)&&decide (hh<=cp)&&decide (cp<=cp)&&(decide (cp<bo)||(none:Option Value).isNone&&decide (hh<=len)))=true:=by simp;omega
  simp only[this,if_true,vu];rfl
 obtain⟨t,o,m⟩:=B7 (W:=W) (n0:=n0) p jS;exact af.step o (ah _) m y
theorem Pv {T f:Prop} (c:T) {e:TypeId} (len cp:Nat) (lo a:Option Value) {l hh:Nat} (b:ej lo 0=some l) (d:ej a len=some hh) (h1:l<=hh) (h2:hh<=len) (g:len<=cp) (k:Value->M β) (_:f)
 (y:af W n0 (k (.slice none (hh-l) (cp-l))) h n Q):af W n0 (nQ e 1 (.slice none len cp) lo a k) h n Q:=by
 have:pq 1 none len cp lo a=some (.slice none (hh-l) (cp-l)):=by
  unfold pq;simp only[b,d];have:(decide (l<=hh)&&decide (hh<=cp)&&decide (cp<=cp)&&(decide (cp<bo)||(none:Option Value).isNone&&decide (hh<=len)))=true:=by simp;omega
  simp only[this,if_true]
 show af W n0 (match pq 1 none len cp lo a with
  |some v=>k v
  |none=> .fail) h n Q
 rw[this];exact y
theorem tM(k:IntKind)(x d:Nat):ej (some (.int k (x:Int))) d=some x:=by unfold ej;simp
theorem Hq{P:Program}(hd:j9 P=true){gt:Nat->Hint}{Y d:Nat}{f:FuncId}{args:Array Value}{v:Value}{L:List En}(e:aj P gt Y d f args h n=some ⟨v,h1,n1,L⟩){W':Nat->Prop}(c:∀e∈L,e.wr=true->n<=e.b∨W' e.b):∀b,b<n->¬W' b->h1.get b=h.get b:=by
 obtain⟨a,m⟩:=B5 hd d f args h n v h1 n1 L e;have A:=Loc.cK P KN a f args h n v h1 n1 L (m a (ah _));intro b o g;refine A2 fun k=>A.frame b k ?_ jO;rintro⟨e,i,l,j,_⟩;rcases c e i l with q|q
 ·omega
 ·exact g (j▸q)
theorem aN {P:Program} (hd:j9 P=true) {gt:Nat->Hint} {Y d:Nat} {f:FuncId} {vs:List Value} {W':Nat->Prop} {Q':Value->H->Nat->Prop} (s:af W' n (aj P gt Y d f ⟨vs⟩) h n Q') (t:n0<=n) (o:∀b,b<n->W' b->n0<=b∨W b) {k:Value->M β}
 (x:∀v h1 n1,n<=n1->(∀b,b<n->¬W' b->h1.get b=h.get b)->Q' v h1 n1->af W n0 (k v) h1 n1 Q):af W n0 (ai (aj P gt Y d) f vs k) h n Q:=by
 obtain⟨v,h1,n1,L,j,i,g,r⟩:=s;refine jQ (m:=aj P gt Y d f ⟨vs⟩) (af.step (jL j) i (fun e l a=> ?_) (x v h1 n1 i (Hq hd j g) r));have p:=(List.mem_filter.1 l).1;rcases g e p a with q|q
 ·exact .inl jO
 ·by_cases c:e.b<n
  ·exact o _ c q
  ·exact .inl jO
end
section
variable {β:Type} {W:Nat->Prop} {n0:Nat} {h h1:H} {n n1:Nat} {Q:β->H->Nat->Prop}
theorem adT(v:Value)(k:Value->M β):(inside (M.ret v)).bind k=k v:=by
 have:inside (M.ret v)=M.ret v:=by funext h n;rfl
 rw[this,nG]
theorem Pw{T:Prop}(c:T){e:TypeId}(k:Value->M β)(x:af W n0 (k (.slice (some ⟨n,0,none⟩) 0 0)) (h.set n (some ⟨e,true,[]⟩)) (n+1) Q):af W n0 (vQ e [] 0 [] k) h n Q:=
 jQ (tJ (pr _ _ (fun id=>j3 (some ⟨id,0,none⟩) 0 0) _ _) (eL n) x)
theorem dG(m:M β):dm true m=m:=rfl
theorem lG{m:M Value}{v:Value}{L:List En}{k:Value×Tk->M β}(e:m h n=some ⟨v,h1,n1,L⟩)(b:n<=n1)(a:∀e∈L,e.wr=true->n0<=e.b∨W e.b)(x:af W n0 (k (v,⟨n,n1,L⟩)) h1 n1 Q):af W n0 ((az m).bind k) h n Q:=
 af.step (xZ e) b a x
theorem adU{m:M Value}{v:Value}{L:List En}(e:m h n=some ⟨v,h1,n1,L⟩):(m.bind fun v=>M.ret v) h n=some ⟨v,h1,n1,L⟩:=by have:=bW (f:=fun v=>M.ret v) e (L2:=[]) (b:=v) (h2:=h1) (n2:=n1) rfl;rwa[bV]at this
theorem mW{m:M Value}{v:Value}{L:List En}(e:m h n=some ⟨v,h1,n1,L⟩):(eA m M.ret) h n=some ⟨v,h1,n1,L.filter fun e=> !(decide (n<=e.b)&&decide (e.b<n1))⟩:=by rw[lT];exact adU (jL e)
theorem Hr{T:Prop}(_:T)(b off:Nat)(k:Value×Tk->M β){B:AB}(d:h.get b=some B)(g:b<n){v:Value}(c:B.cells[off]? =some v)(x:af W n0 (k (v,⟨n,n,[⟨false,b,some off⟩]⟩)) h n Q):af W n0 ((az (aP (.pointer (some ⟨b,off,none⟩)) M.ret)).bind k) h n Q:=by
 have e:vM b off h n=some ⟨v,h,n,[⟨false,b,some off⟩]⟩:=by rw[BB];unfold rd;simp only[g,d,c,if_true]
 have a:=mW e
 have f:[(⟨false,b,some off⟩:En)].filter (fun e=> !(decide (n<=e.b)&&decide (e.b<n)))=[⟨false,b,some off⟩]:=by simp;omega
 rw[f]at a;exact lG a (ah _) jS x
theorem Px{T:Prop}(_:T){t:TypeId}(v:Value)(k:Value×Tk->M β)(x:af W n0 (k (.pointer (some ⟨n,0,none⟩),⟨n,n+1,[]⟩)) (h.set n (some ⟨t,true,v.cells.toList⟩)) (n+1) Q):af W n0 ((az (dW t v M.ret)).bind k) h n Q:=by rw[<-nL]at x;exact lG (mW (pr t (dy v) (fun id=>FD (some ⟨id,0,none⟩)) h n)) (eL n) jS x
theorem Ce {P:Program} (hd:j9 P=true) {gt:Nat->Hint} {Y d:Nat} {f:FuncId} {vs:List Value} {W':Nat->Prop} {Q':Value->H->Nat->Prop} (s:af W' n (aj P gt Y d f ⟨vs⟩) h n Q') (y:n0<=n) (p:∀b,b<n->W' b->n0<=b∨W b) {k:Value×Tk->M β}
 (x:∀v h1 n1 L,n<=n1->(∀b,b<n->¬W' b->h1.get b=h.get b)->Q' v h1 n1->(∀e∈L,e.b<n)->(∀e∈L,e.wr=true->W' e.b)->af W n0 (k (v,⟨n,n1,L⟩)) h1 n1 Q):af W n0 ((az (ai (aj P gt Y d) f vs M.ret)).bind k) h n Q:=by
 obtain⟨v,h1,n1,L,j,o,m,t⟩:=s;obtain⟨l,u⟩:=B5 hd d f ⟨vs⟩ h n v h1 n1 L j;have A:=Loc.cK P KN l f ⟨vs⟩ h n v h1 n1 L (u l (ah _))
 have a:∀e∈L.filter (fun e=> !(decide (n<=e.b)&&decide (e.b<n1))),e.b<n:=fun e c=>by obtain⟨h1,r⟩:=List.mem_filter.1 c;have:=A.lt e h1;simp at r;omega
 have g:∀e∈L.filter (fun e=> !(decide (n<=e.b)&&decide (e.b<n1))),e.wr=true->W' e.b:=fun e c i=>by
  rcases m e (List.mem_filter.1 c).1 i with q|q
  ·have:=a e c;omega
  ·exact q
 exact lG (mW j) o (fun e c i=>p _ (a e c) (g e c i)) (x v h1 n1 _ o (Hq hd j m) t a g)
end
section
variable {β:Type} {W:Nat->Prop} {n0:Nat} {h h1:H} {n n1:Nat} {Q:β->H->Nat->Prop}
def aK(v:Value)(b:Nat):Prop:=∃o l c,v= .slice (some ⟨b,o,none⟩) l c
def Own(h:H)(lo n:Nat)(e:TypeId)(v:Value)(cs:List Value):Prop:=(v= .slice none 0 0∧cs=[])∨∃b,v= .slice (some ⟨b,0,none⟩) cs.length (bo+cs.length)∧h.get b=some ⟨e,true,cs⟩∧lo<=b∧b<n
theorem Own.nil(h:H)(lo n:Nat)(e:TypeId):Own h lo n e (.slice none 0 0) []:= .inl ⟨rfl,rfl⟩
theorem aK.inj{b c o l k:Nat}(h:aK (.slice (some ⟨b,o,none⟩) l k) c):c=b:=by obtain⟨_,_,_,h⟩:=h;cases h;rfl
theorem aK.not_nil{l k c:Nat}(h:aK (.slice none l k) c):False:=by obtain⟨_,_,_,h⟩:=h;cases h
theorem Own.lt{lo:Nat}{e:TypeId}{v:Value}{cs:List Value}(o:Own h lo n e v cs){b:Nat}(a:aK v b):lo<=b∧b<n:=by
 rcases o with ⟨rfl,_⟩|⟨c,rfl,_,h1,d⟩
 ·exact a.not_nil.elim
 ·rw[a.inj];exact⟨h1,d⟩
theorem Own.au{lo:Nat}{e:TypeId}{v:Value}{cs:List Value}{h':H}{n':Nat}(o:Own h lo n e v cs)(f:n<=n')(a:∀b,aK v b->h'.get b=h.get b):Own h' lo n' e v cs:=by
 rcases o with q|⟨c,rfl,d,h1,g⟩
 ·exact .inl q
 ·exact .inr ⟨c,rfl,(a c ⟨_,_,_,rfl⟩).trans d,h1,jO⟩
theorem Own.low{lo a:Nat}{e:TypeId}{v:Value}{cs:List Value}(o:Own h lo n e v cs)(g:a<=lo):Own h a n e v cs:=by
 rcases o with q|⟨c,b,d,h1,f⟩
 ·exact .inl q
 ·exact .inr ⟨c,b,d,jO,f⟩
theorem rL {T:Prop} (c:T) {e:TypeId} {x:Value} (a:one x=true) {lo:Nat} {v:Value} {cs:List Value} (o:Own h lo n e v cs) (g:cs.length+1<=1099511627776) (i:n0<=lo) (k:Value->M β)
 (y:∀h',h'.get (n+1)=some ⟨e,true,cs++[x]⟩->(∀b,b<n->¬aK v b->h'.get b=h.get b)->af W n0 (k (.slice (some ⟨n+1,0,none⟩) (cs.length+1) (bo+(cs.length+1)))) h' (n+2) Q):af W n0 (bO e 1 x fun w=>bN e 1 v w k) h n Q:=by
 rcases o with ⟨rfl,rfl⟩|⟨b,rfl,d,h1,j⟩
 ·exact Pu c a k (y _ (get_eq _ _ _) fun b d _=>by rw[aw _ _ jO,aw _ _ jO])
 ·refine Ps c a d j rfl g jO (.inl jO) k (y _ (get_eq _ _ _) fun c l f=> ?_);have:c≠b:=fun e=>f ⟨0,_,_,by rw[e]⟩;rw[aw _ _ jO,aw _ _ this,aw _ _ jO]
theorem Own.mk'{lo b:Nat}{e:TypeId}{cs:List Value}(c:h.get b=some ⟨e,true,cs⟩)(h1:lo<=b)(h2:b<n){l:Nat}(a:l=cs.length):Own h lo n e (.slice (some ⟨b,0,none⟩) l (bo+l)) cs:= .inr ⟨b,by rw[a],c,h1,h2⟩
def aV(k:IntKind)(xs:List Int):List Value:=xs.map (Value.int k)
theorem eu(k:IntKind)(xs:List Int):(aV k xs).length=xs.length:=by unfold aV;simp
theorem Cf{k:IntKind}{xs:List Int}{i:Nat}(h:i<xs.length):(aV k xs)[i]? =some (.int k (xs.getD i 0)):=by unfold aV;simp[h]
theorem Hs(k:IntKind)(xs:List Int):(aV k xs).all one=true:=by unfold aV;simp[one]
def Row(h:H)(n:Nat)(e:TypeId)(k:IntKind)(v:Value)(xs:List Int):Prop:=
 (∃a c,v= .slice a 0 c∧(∀b o,a≠some ⟨b,o,none⟩)∧xs=[])∨∃b d cap o f,v= .slice (some ⟨b,d,none⟩) xs.length cap∧h.get b=some ⟨e,o,f⟩∧b<n∧d+xs.length<=f.length∧(f.drop d).take xs.length=aV k xs∧xs.length<=cap
theorem Row.au{e:TypeId}{k:IntKind}{v:Value}{xs:List Int}{h':H}{n':Nat}(r:Row h n e k v xs)(j:n<=n')(d:∀b,b<n->h'.get b=h.get b):Row h' n' e k v xs:=by
 rcases r with q|⟨b,a,cap,o,i,c,f,g,r⟩
 ·exact .inl q
 ·exact .inr ⟨b,a,cap,o,i,c,(d b g).trans f,jO,r⟩
theorem Row.kT{e:TypeId}{k:IntKind}{v:Value}{xs:List Int}{h':H}{n':Nat}(r:Row h n e k v xs)(i:n<=n')(d:∀b,aK v b->h'.get b=h.get b):Row h' n' e k v xs:=by
 rcases r with q|⟨b,a,cap,o,g,c,f,j,r⟩
 ·exact .inl q
 ·exact .inr ⟨b,a,cap,o,g,c,(d b ⟨_,_,_,c⟩).trans f,jO,r⟩
theorem Row.lt{e:TypeId}{k:IntKind}{v:Value}{xs:List Int}(r:Row h n e k v xs){b:Nat}(g:aK v b):b<n:=by
 rcases r with ⟨a,c,rfl,d,_⟩|⟨c,i,cap,o,m,rfl,j,f,_⟩
 ·obtain⟨o,l,k,q⟩:=g;cases q;exact absurd rfl (d b o)
 ·rw[g.inj];exact f
theorem Row.some{e:TypeId}{k:IntKind}{v:Value}{xs:List Int}(r:Row h n e k v xs)(q:0<xs.length):∃b off cap o cs,v= .slice (some ⟨b,off,none⟩) xs.length cap∧h.get b=some ⟨e,o,cs⟩∧b<n∧off+xs.length<=cs.length∧(cs.drop off).take xs.length=aV k xs∧xs.length<=cap∧∀i,i<xs.length->cs[off+i]? =some (.int k (xs.getD i 0)):=by
 rcases r with ⟨a,c,_,_,rfl⟩|⟨b,off,cap,o,cs,g,l,p,j,d,m⟩
 ·simp at q
 ·refine⟨b,off,cap,o,cs,g,l,p,j,d,m,fun i f=> ?_⟩;have:=congrArg (fun z=>z[i]?) d;simp only[List.getElem?_take,f,if_true,List.getElem?_drop]at this;rw[this,Cf f]
theorem Row.len{e:TypeId}{k:IntKind}{v:Value}{xs:List Int}(r:Row h n e k v xs):∃a c,v= .slice a xs.length c:=by
 rcases r with ⟨a,c,rfl,_,rfl⟩|⟨b,d,cap,o,f,rfl,_⟩
 ·exact⟨a,c,rfl⟩
 ·exact⟨_,cap,rfl⟩
theorem Own.row{lo:Nat}{e:TypeId}{k:IntKind}{v:Value}{xs:List Int}(o:Own h lo n e v (aV k xs)):Row h n e k v xs:=by
 rcases o with ⟨rfl,q⟩|⟨b,rfl,a,_,c⟩
 ·exact .inl ⟨none,0,rfl,fun _ _ q=>(nomatch q),by unfold aV at q;simpa using q⟩
 ·rw[eu];exact .inr ⟨b,0,bo+xs.length,true,_,rfl,a,c,by rw[eu];omega,by rw[jz,FE (by rw[eu];omega)],jO⟩
theorem Row.src{e:TypeId}{k:IntKind}{v:Value}{xs:List Int}(r:Row h n e k v xs)(j:0<xs.length):Src h n v (aV k xs):=by obtain⟨b,a,cap,o,l,c,g,i,f,d,m,_⟩:=r.some j;exact⟨b,a,cap,⟨e,o,l⟩,by rw[c,eu],g,i,by rw[eu];exact f,by rw[eu];exact d⟩
theorem adV {T:Prop} (c:T) {e:TypeId} {lo:Nat} {v w:Value} {cs:List Value} {k:IntKind} {ys:List Int} {E:TypeId} (o:Own h lo n e v cs) (r:Row h n E k w ys) (m:cs.length+ys.length<=1099511627776) (A:n0<=lo) (f:lo<=n) (d:Value->M β)
 (y:∀j h' n',n<=n'->Own h' lo n' e j (cs++aV k ys)->(∀b,aK j b->aK v b∨n<=b)->(∀b,b<n->¬aK v b->h'.get b=h.get b)->af W n0 (d j) h' n' Q):af W n0 (bN e 1 v w d) h n Q:=by
 by_cases D:ys.length=0
 ·have t:ys=[]:=List.length_eq_zero_iff.1 D;subst t;obtain⟨a,J,u⟩:=r.len;have g:iz w=some 0:=by rw[u];rfl
  obtain⟨I,q,G,x⟩:∃a l c,v= .slice a l c:=by
   rcases o with ⟨rfl,_⟩|⟨b,rfl,_⟩
   ·exact⟨_,_,_,rfl⟩
   ·exact⟨_,_,_,rfl⟩
  subst x;refine Cb (news:=[]) c g I q G d ?_;exact y _ h n (ah n) (by simpa[aV]using o) (fun b i=> .inl i) (fun b _ _=>rfl)
 ·have s:=r.src jO;have g:=eu k ys;rcases o with ⟨rfl,rfl⟩|⟨b,rfl,B,h1,C⟩
  ·refine Pq c s jO (by rw[g];simp at m;omega) (Hs k ys) d ?_;refine y _ _ (n+1) (eL n) (.inr ⟨n,rfl,by rw[get_eq];simp,f,dI n⟩) (fun b i=> .inr (by rw[i.inj];exact ah n)) (fun b i _=>aw _ _ jO)
  ·refine Pr c s jO (Hs k ys) B C 0 cs.length jO (by rw[jz,jf]) (by rw[g];exact m) jO (.inl jO) d ?_;refine y _ _ (n+1) (eL n) (.inr ⟨n,jS,get_eq _ _ _,f,dI n⟩) (fun c p=> .inr (by rw[p.inj];exact ah n)) (fun c p z=> ?_);have:c≠b:=fun e=>z ⟨0,_,_,by rw[e]⟩;rw[aw _ _ jO,aw _ _ this]
end
end Go.Proofs.YtmjolmggelkjlaaGreat.Ev
namespace Go.Proofs.YtmjolmggelkjlaaGreat.Ev
open Go Go.RowKit
theorem adW{w:World}{b off:Nat}{v:Value}(h:w.cell? ⟨b,off,none⟩=some v):∃cs e c,w.heap[b]? =some (.cells cs e c)∧cs[off]? =some v:=by
 unfold World.cell? at h;cases a:w.heap[b]? with
 |none=>simp[a]at h
 |some o=>
  cases o with
  |cells cs e c=>exact⟨cs,e,c,rfl,by simpa[a]using h⟩
  |_=>simp[a]at h
structure Laid (P:Program) (w:World) (m:Mp) (h:H) (n:Nat):Prop where
 wr:WR P m w.heap.size h w.heap
 gl:Gl P m
 fresh:∀b,n<=b->m b=none
 own:∀b B,h.get b=some B->B.own=false
 glo:P.globals.size<=n
theorem Py(P:Program)(w:World):∃m,Laid P w m .nil P.globals.size:=by
 have a:∀b B,¬(H.get (.nil:H) b=some B):=fun b B c=>by unfold H.get at c;rw[Tr.get_nil]at c;cases c
 exact⟨fun g=>if g<P.globals.size then some ⟨g,0,0,0,0⟩else none,⟨fun b B c=>absurd c (a b B),fun b h B i d f c=>absurd c (a b B)⟩,
  fun g c=>⟨⟨g,0,0,0,0⟩,if_pos c,rfl,rfl⟩,fun b e=>if_neg jO,fun b B c=>absurd c (a b B),ah _⟩
theorem adX{P:Program}{c:List FuncId}(i:ri P=true)(g:qf P c=true)(d:P.follows .mixedOrders=true)(j:tg P c){fuel:Nat}{f:FuncId}{w:World}{m:Mp}{h:H}(x:Laid P w m h P.globals.size)(a:A8 (cK P c fuel f #[] h P.globals.size)=true):
 Calls P f #[] w fun e w'=>e= .returned (.bool true)∧Below w.heap.size w w':=by
 unfold A8 at a;split at a
 ·rename_i o q;obtain⟨v,k,l,L⟩:=o;simp only at a;split at a
  ·rename_i b t;subst a;refine(Nz i g d j fuel f #[] h P.globals.size _ k l L m w #[] q x.wr (ah w.heap.size) .nil (fun b k _=>x.fresh b k) x.gl).mono ?_;rintro e w' ⟨s,r,rfl,p,n⟩;refine⟨?_,p.below⟩;cases n;rfl
  ·cases a
 ·cases a
theorem adY {P:Program} (i:ri P=true) (g:qf P KN=true) (c:P.follows .mixedOrders=true) (j:tg P KN) (hd:j9 P=true) {w:World} {m:Mp} {h:H} {n:Nat} (x:Laid P w m h n) {gt:Nat->Hint} {Y d:Nat} {f:FuncId} {args a:Array Value} (u:bu m args.toList a.toList)
 (r:af (fun _=>False) n (aj P gt Y d f args) h n fun v _ _=>v= .bool true):Calls P f a w fun e w'=>e= .returned (.bool true)∧Below w.heap.size w w':=by
 obtain⟨v,o,l,L,y,B,_,rfl⟩:=r;obtain⟨p,k⟩:=B5 hd d f args h n _ o l L y;refine(Nz i g c j p f args h n _ o l L m w a (k p (ah _)) x.wr (ah _) u (fun b t _=>x.fresh b t) x.gl).mono ?_;rintro e w' ⟨A,z,rfl,s,q⟩;refine⟨?_,s.below⟩;cases q;rfl
end Go.Proofs.YtmjolmggelkjlaaGreat.Ev
namespace Go.Proofs.YtmjolmggelkjlaaGreat.Ev
open Go
section
variable {β:Type} {W:Nat->Prop} {n0:Nat} {h:H} {n:Nat} {Q:β->H->Nat->Prop} {e:TypeId}
theorem Ht{sz:Nat}(b off:Nat)(k:Value->M β){B:AB}(d:h.get b=some B)(f:b<n)(c:off+sz<=B.cells.length)(x:af W n0 (k (.agg ((B.cells.drop off).take sz).toArray)) h n Q):af W n0 (bc sz (.pointer (some ⟨b,off,none⟩)) k) h n Q:=by
 obtain⟨L,l,j⟩:=rK d f sz off c;refine jQ ?_
 have e:((gZ b off sz).bind fun a=>M.ret (mM ⟨a⟩)) h n=some ⟨.agg ((B.cells.drop off).take sz).toArray,h,n,L++[]⟩:=by rw[mq];exact bW l rfl
 obtain⟨m,i,g⟩:=B7 (W:=W) (n0:=n0) e (by simpa using j);exact af.step i (ah _) g x
theorem Hv:∀(vs:List Value) (b off:Nat) (e:TypeId) (cs:List Value) (h:H) (n:Nat),h.get b=some ⟨e,true,cs⟩->b<n->off+vs.length<=cs.length->vs.all one=true->
 ∃h' L,eQ b off vs h n=some ⟨(),h',n,L⟩∧h'.get b=some ⟨e,true,cs.take off++vs++cs.drop (off+vs.length)⟩∧(∀c,c≠b->h'.get c=h.get c)∧∀x∈L,x.b=b
 |[],b,off,e,cs,h,n,a,d,g,_=>⟨h,[],rfl,by simpa using a,fun _ _=>rfl,jS⟩
 |v::vs,b,off,e,cs,h,n,a,d,g,f=>by
  simp only[List.all_cons,bZ]at f;simp only[cP]at g
  have k:wr b off v h n=some ⟨(),h.set b (some ⟨e,true,cs.set off v⟩),n,[⟨false,b,some off⟩,⟨true,b,some off⟩]⟩:=by unfold wr;have:off<cs.length:=jO;simp[d,a,this,f.1]
  obtain⟨h',L,r,p,o,m⟩:=Hv vs b (off+1) e (cs.set off v) (h.set b (some ⟨e,true,cs.set off v⟩)) n (get_eq _ _ _) d (by simp;omega) f.2;refine⟨h',_,bW k r, ?_,fun c i=>(o c i).trans (aw _ _ i),fun x j=> ?_⟩
  ·rw[p];congr 2
   have l:(cs.set off v).take (off+1)=cs.take off++[v]:=by rw[List.take_set,List.take_succ_eq_append_getElem jO,List.set_append_right _ _ (by simp;omega)];simp[Nat.min_eq_left (show off<=cs.length by omega)]
   have hd:(cs.set off v).drop (off+1+vs.length)=cs.drop (off+(v::vs).length):=by rw[List.drop_set_of_lt jO];congr 1;simp only[cP];omega
   rw[l,hd];simp
  ·rcases FG.1 j with q|q
   ·simp at q;rcases q with rfl|rfl<;>rfl
   ·exact m x q
theorem nT {T:Prop} (_:T) {sz b off:Nat} {e:TypeId} {cs vs:List Value} {v:Value} (j:v= .agg vs.toArray) (a:vs.length=sz) (h1:vs.all one=true) (l:h.get b=some ⟨e,true,cs⟩) (m:b<n) (t:off+sz<=cs.length) (i:n0<=b∨W b) (k:Value->M β)
 (x:∀h',h'.get b=some ⟨e,true,cs.take off++vs++cs.drop (off+sz)⟩->(∀c,c≠b->h'.get c=h.get c)->af W n0 (k undef) h' n Q):af W n0 (aQ sz (.pointer (some ⟨b,off,none⟩)) v k) h n Q:=by
 obtain⟨h',L,s,r,q,p⟩:=Hv vs b off e cs h n l m jO h1;subst j
 have d:aQ sz (.pointer (some ⟨b,off,none⟩)) (.agg vs.toArray) k=eA ((nJ b off vs).bind fun _=> .ret undef) k:=by
  show(match bY (fL vs) sz with
   |true=>eA ((nJ b off vs).bind fun _=> .ret undef) k
   |false=> .fail)=_
  rw[mo,a,xH]
 rw[d];refine jQ ?_
 have o:((nJ b off vs).bind fun _=>M.ret undef) h n=some ⟨undef,h',n,L++[]⟩:=by rw[yg];exact bW s rfl
 refine af.step (jL o) (ah _) (fun y g f=> ?_) (x h' (by rw[r,a]) q);have:=(List.mem_filter.1 g).1;rw[bV]at this;rw[p y this];exact i
end
end Go.Proofs.YtmjolmggelkjlaaGreat.Ev
