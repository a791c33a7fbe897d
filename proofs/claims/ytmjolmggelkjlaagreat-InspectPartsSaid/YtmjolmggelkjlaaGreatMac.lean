import Derived.Test.YtmjolmggelkjlaaGreatMab
import Derived.ProofKit
import Derived.OpenShut
open Nat renaming le_refl→an, ble→bK, beq→cz, zero_add→fB, lt_succ_self→gh, succ→gL, le_of_ble_eq_true→iM, add→iO, le_succ→iP, add_zero→kQ, mod→mc, mod_eq_of_lt→me, eq_of_beq_eq_true→m7, mod_lt→m9, ble_eq_true_of_le→nZ, add_mul→pZ, mul_one→AU, beq_refl→CT, one_mul→Km
open List renaming getElem?_eq_getElem→bD, replicate→cr, append_nil→cu, length_cons→dp, append_assoc→fA, drop_zero→jr, not_mem_nil→mg, take_length→mh, getElem?_eq_none→sC, nil_append→uo, take_of_length_le→xZ, mem_cons_of_mem→AV, mem_append→Ko, reverse_cons→adj, mem_cons→adk, extract_eq_take_drop→aq3
open Bool renaming and_eq_true→cj, or_eq_true→pY, false_eq_true→sE, not_eq_true'→FJ, false_ne_true→ard
open BitVec renaming ofInt→cC, toNat_and→RC, toNat_or→arp, toNat_xor→arq
open Option.some renaming injEq→eG
open Go.Region renaming wanted→iA
open Int renaming ofNat→jg, natCast_nonneg→p9, toNat_of_nonneg→qS, fdiv_eq_ediv_of_nonneg→ars, natCast_ediv→art
open Go renaming binOp→j9, convert→Ry
open Go.Value renaming slice→kf, pointer→lN, agg→mf
open Go.Instr renaming fill→nY, index→FH, sliceAt→Kb, sliceBound→Rt
open Go.Op renaming equal→vG, equalIn→AR, stringOp→adi, maxDepth→aq9, intDiv→arn, shift→aro
open Array renaming all_eq_true_iff_forall_mem→xW, getElem?_toList→Kf, length_toList→Kl
open Go.Next renaming value→RA
open ByteArray renaming data_extract→ac', size→as1
open Go.ByteArray renaming toList_eq→as2
set_option linter.unusedVariables false
set_option linter.unusedSimpArgs false
set_option linter.unusedSectionVars false
namespace Go.Proofs.YtmjolmggelkjlaaGreat.Ev
open Go Go.RowKit
theorem jW{P:Program}{op:BinOp}{t:TypeId}{x y v:Value}(hn:po P t=false)(hs:(scalar x&&scalar y)=true)(hr:kT P (do pure (.value (<-j9 op t x y)))=some v)(hv:scalar v=true):eS P op t x y=some v:=by
 unfold eS Lz pj
 rw[hn,hs]
 simp only
 rw[hr]
 simp only[hv]
section
variable {P:Program} {t:TypeId} {k:IntKind} (hn:po P t=false) (a b:Int)
include hn
theorem afx:eS P .add t (.int k a) (.int k b)=some (.int k (k.wrap (a+b))):=jW hn rfl (by unfold j9;simp only[ne_eq,not_true_eq_false,if_false];rfl) rfl
theorem afy:eS P .sub t (.int k a) (.int k b)=some (.int k (k.wrap (a-b))):=jW hn rfl (by unfold j9;simp only[ne_eq,not_true_eq_false,if_false];rfl) rfl
theorem afz:eS P .mul t (.int k a) (.int k b)=some (.int k (k.wrap (a*b))):=jW hn rfl (by unfold j9;simp only[ne_eq,not_true_eq_false,if_false];rfl) rfl
theorem afA(h0:b≠0):eS P .quo t (.int k a) (.int k b)=some (.int k (k.wrap (a.tdiv b))):=jW hn rfl (by unfold j9 arn;simp only[ne_eq,not_true_eq_false,if_false,h0];rfl) rfl
theorem afB(h0:b≠0):eS P .rem t (.int k a) (.int k b)=some (.int k (a.tmod b)):=jW hn rfl (by unfold j9 arn;simp only[ne_eq,not_true_eq_false,if_false,h0];rfl) rfl
theorem afC:eS P .eql t (.int k a) (.int k b)=some (.bool (a==b)):=jW hn rfl (by unfold j9;simp only[ne_eq,not_true_eq_false,if_false];rfl) rfl
theorem afD:eS P .neq t (.int k a) (.int k b)=some (.bool (a !=b)):=jW hn rfl (by unfold j9;simp only[ne_eq,not_true_eq_false,if_false];rfl) rfl
theorem afE:eS P .lss t (.int k a) (.int k b)=some (.bool (decide (a<b))):=jW hn rfl (by unfold j9;simp only[ne_eq,not_true_eq_false,if_false];rfl) rfl
theorem afF:eS P .leq t (.int k a) (.int k b)=some (.bool (decide (a<=b))):=jW hn rfl (by unfold j9;simp only[ne_eq,not_true_eq_false,if_false];rfl) rfl
theorem afG:eS P .gtr t (.int k a) (.int k b)=some (.bool (decide (b<a))):=jW hn rfl (by unfold j9;simp only[ne_eq,not_true_eq_false,if_false];rfl) rfl
theorem afH:eS P .geq t (.int k a) (.int k b)=some (.bool (decide (b<=a))):=jW hn rfl (by unfold j9;simp only[ne_eq,not_true_eq_false,if_false];rfl) rfl
theorem afI{k':IntKind}(h0:0<=b):eS P .shl t (.int k a) (.int k' b)=some (.int k (k.wrap (a*2^(min b.toNat k.bits)))):=jW hn rfl (by unfold j9 aro;simp only[show¬b<0 by omega,if_false];rfl) rfl
theorem afJ{k':IntKind}(h0:0<=b):eS P .shr t (.int k a) (.int k' b)=some (.int k (a.fdiv (2^(min b.toNat k.bits)))):=jW hn rfl (by unfold j9 aro;simp only[show¬b<0 by omega,if_false];rfl) rfl
theorem afK:eS P .and t (.int k a) (.int k b)=some (.int k (k.wrap (cC k.bits a&&&cC k.bits b).toNat)):=jW hn rfl (by unfold j9;simp only[ne_eq,not_true_eq_false,if_false];rfl) rfl
theorem afL:eS P .or t (.int k a) (.int k b)=some (.int k (k.wrap (cC k.bits a|||cC k.bits b).toNat)):=jW hn rfl (by unfold j9;simp only[ne_eq,not_true_eq_false,if_false];rfl) rfl
theorem afM:eS P .xor t (.int k a) (.int k b)=some (.int k (k.wrap (cC k.bits a^^^cC k.bits b).toNat)):=jW hn rfl (by unfold j9;simp only[ne_eq,not_true_eq_false,if_false];rfl) rfl
end
theorem G8(l:List UInt8):(⟨l.toArray⟩:ByteArray).size=l.length:=by simp[as1]
theorem Tv(l:List UInt8):(⟨l.toArray⟩:ByteArray).toList=l:=by rw[as2]
theorem afN(s:ByteArray):s=⟨s.data.toList.toArray⟩:=by cases s;simp
theorem afO(a b:List UInt8):(⟨a.toArray⟩:ByteArray)++⟨b.toArray⟩=⟨(a++b).toArray⟩:=by
 apply ByteArray.ext
 simp
theorem G9(l:List UInt8)(i j:Nat):(⟨l.toArray⟩:ByteArray).extract i j=⟨((l.drop i).take (j-i)).toArray⟩:=by
 apply ByteArray.ext
 simp[ac',aq3]
section
variable {P:Program} {t:TypeId}
theorem afP(hn:po P t=false)(a b:List UInt8):eS P .eql t (.string ⟨a.toArray⟩) (.string ⟨b.toArray⟩)=some (.bool (decide (a=b))):=by
 refine jW hn rfl ?_ rfl
 unfold j9 adi
 simp only[Tv]
 have:(a==b)=decide (a=b):=by
  by_cases h:a=b
  ·subst h;simp
  ·simp[h]
 rw[this]
 rfl
theorem afQ(hn:po P t=false)(a b:List UInt8):eS P .neq t (.string ⟨a.toArray⟩) (.string ⟨b.toArray⟩)=some (.bool (!decide (a=b))):=by
 refine jW hn rfl ?_ rfl
 unfold j9 adi
 simp only[Tv]
 have:(a==b)=decide (a=b):=by
  by_cases h:a=b
  ·subst h;simp
  ·simp[h]
 rw[this]
 rfl
theorem afR(hn:po P t=false)(a b:List UInt8)(h:a.length+b.length<=9223372036854775807):eS P .add t (.string ⟨a.toArray⟩) (.string ⟨b.toArray⟩)=some (.string ⟨(a++b).toArray⟩):=by
 refine jW hn rfl ?_ rfl
 unfold j9 adi
 simp only[G8,afO]
 have h2:¬(((a.length+b.length:Nat):Int)>IntKind.i64.max):=by
  have:IntKind.i64.max=9223372036854775807:=by decide
  rw[this];omega
 rw[if_neg h2]
 rfl
end
section
variable {P:Program} {t:TypeId}
theorem afS(h:P.underlying t=some .string)(l:List UInt8)(k:IntKind)(i:Int)(h0:0<=i)(h1:i<l.length):yL P t (.string ⟨l.toArray⟩) (.int k i)=some (.int .u8 (l.getD i.toNat 0).toNat):=by
 have hi:i.toNat<l.length:=by omega
 have hs:rq P t=true:=by unfold rq;rw[h]
 unfold yL Gs pj
 rw[hs]
 simp only[isStr,scalar]
 have hg:(⟨l.toArray⟩:ByteArray)[i.toNat]? =some (l.getD i.toNat 0):=by
  have bM:i.toNat<(⟨l.toArray⟩:ByteArray).size:=by rw[G8];exact hi
  rw[getElem?_pos (⟨l.toArray⟩:ByteArray) i.toNat bM]
  rw[List.getD_eq_getElem?_getD,bD hi]
  rfl
 have:kT P (do pure (RA (<-FH t (.string ⟨l.toArray⟩) (.int k i))))=some (.int .u8 (l.getD i.toNat 0).toNat):=by
  unfold FH
  simp only[asIntOf,pure_bind,bind_assoc]
  rw[sW h]
  simp only[h0,if_true,hg]
  rfl
 rw[this]
theorem afT(h:P.underlying t=some .string){β:Type}(l:List UInt8)(lo hi:Option Value){a b:Nat}(ha:fH lo 0=some a)(hb:fH hi l.length=some b)(h1:a<=b)(h2:b<=l.length)(k:Value->M β):Bh P t (.string ⟨l.toArray⟩) lo hi none k=k (.string ⟨((l.drop a).take (b-a)).toArray⟩):=by
 have hs:rq P t=true:=by unfold rq;rw[h]
 have bd:∀(o:Option Value) (d m:Nat),fH o d=some m->(o=none∧m=d)∨∃kd i,o=some (.int kd i)∧0<=i∧m=i.toNat:=by
  intro o d m hm
  unfold fH at hm
  split at hm
  ·cases hm;exact .inl ⟨rfl,rfl⟩
  ·rename_i kd i
   split at hm
   ·rename_i h0;cases hm;exact .inr ⟨kd,i,rfl,h0,rfl⟩
   ·cases hm
  ·cases hm
 have Lo:(yJ lo&&yJ hi&&yJ none)=true:=by
  rcases bd lo _ _ ha with ⟨rfl,_⟩|⟨_,_,rfl,_⟩<;>rcases bd hi _ _ hb with ⟨rfl,_⟩|⟨_,_,rfl,_⟩<;>rfl
 have iS:∀(kd:IntKind) (i:Int) (y:Nat) (c:BoundsCode),0<=i->i.toNat<=y->Rt (.int kd i) y c=pure i.toNat:=by
  intro kd i y c h0 h1
  unfold Rt asIntOf
  simp only[pure_bind]
  rw[if_pos ⟨h0,by omega⟩]
 have key:kT P (do pure (RA (<-Kb t (.string ⟨l.toArray⟩) lo hi none)))=some (.string ⟨((l.drop a).take (b-a)).toArray⟩):=by
  unfold Kb
  simp only[bind_assoc]
  rw[sW h]
  simp only
  unfold Instr.slice
  simp only[bind_assoc]
  rw[sW h]
  simp only[Option.isSome_none,sE,if_false,pure_bind,bind_assoc,G8]
  unfold Instr.sliceBounds
  rcases bd lo _ _ ha with ⟨rfl,rfl⟩|⟨_,i,rfl,i0,rfl⟩<;>rcases bd hi _ _ hb with ⟨rfl,rfl⟩|⟨_,j,rfl,j0,rfl⟩
  ·simp only[pure_bind,bind_assoc,G9];rfl
  ·simp only[iS _ j l.length _ j0 h2,pure_bind,bind_assoc,G9];rfl
  ·simp only[iS _ i l.length _ i0 h1,pure_bind,bind_assoc,G9];rfl
  ·simp only[iS _ j l.length _ j0 h2,iS _ i j.toNat _ i0 h1,pure_bind,bind_assoc,G9];rfl
 unfold Bh
 rw[hs]
 simp only
 have:Gr P t (.string ⟨l.toArray⟩) lo hi none=some (.string ⟨((l.drop a).take (b-a)).toArray⟩):=by
  unfold Gr pj
  simp only[isStr,Lo]
  rw[key]
  rfl
 rw[this]
 rfl
end
section
variable {β:Type} {P:Program} {t:TypeId} {x y:Value} {k:Value->M β} {h:H} {n:Nat} {r:Out β}
theorem fP{o:Option Value}{v:Value}(e:o=some v)(hr:k v h n=some r):bh o k h n=some r:=by subst e;exact hr
theorem uX{op:BinOp}{f:IntKind->Int->Int->Value}(hb:∀j a b,eS P op t (.int j a) (.int j b)=some (f j a b))(hr:mT f x y k h n=some r):bh (eS P op t x y) k h n=some r:=by
 unfold mT at hr
 split at hr
 ·split at hr
  ·rename_i a p _ b q
   cases hk:s9 a b with
   |false=>simp only[hk]at hr;cases hr
   |true=>
    obtain rfl:=GK hk
    simp only[hk]at hr
    exact fP (hb _ _ _) hr
  ·cases hr
 ·cases hr
theorem LY{op:BinOp}{f:Nat->Nat->Nat}(hb:∀(j:IntKind) (a b:Nat),eS P op t (.int j (.ofNat a)) (.int j (.ofNat b))=some (.int j (j.wrap (.ofNat (f (mc a (pw j)) (mc b (pw j)))))))(hr:yU f x y k h n=some r):bh (eS P op t x y) k h n=some r:=by
 unfold yU at hr
 split at hr
 ·split at hr
  ·rename_i a p _ b q
   cases hk:s9 a b with
   |false=>simp only[hk]at hr;cases hr
   |true=>
    obtain rfl:=GK hk
    simp only[hk]at hr
    exact fP (hb _ _ _) (by rw[<-mR];exact hr)
  ·cases hr
 ·cases hr
theorem wD{j:IntKind}(a b:Nat):(cC j.bits (jg a)).toNat=mc a (pw j)∧(cC j.bits (jg b)).toNat=mc b (pw j):=by
 rw[aft]
 exact⟨Ti _ _,Ti _ _⟩
end
noncomputable def LZ {β:Type} (op:BinOp) (x y:Value) (k:Value->M β):M β:=match op with
 | .add=>aA x y k
 | .sub=>cW x y k
 | .mul=>fo x y k
 | .quo=>lT x y k
 | .rem=>rF x y k
 | .eql=>aW x y k
 | .neq=>bz x y k
 | .lss=>bp x y k
 | .leq=>nC x y k
 | .gtr=>dJ x y k
 | .geq=>gV x y k
 | .and=>DA x y k
 | .or=>DB x y k
 | .xor=>rE x y k
 | .shl=>pA x y k
 | .shr=>tf x y k
 | .andNot=> .fail
noncomputable def Tw {β:Type} (op:BinOp) (ds:Option (List Nat)) (x y:Value) (k:Value->M β):M β:=match ds with
 |some l=>match op with
  | .eql=>GZ l x y k
  | .neq=>G0 l x y k
  |_=> .fail
 |none=> .fail
noncomputable def Ma {β:Type} (d:Option TypeDesc) (ds:Option (List Nat)) (op:BinOp) (x y:Value) (k:Value->M β):M β:=match d,op with
 |some (.struct _),op=>Tw op ds x y k
 |some (.pointer _),.eql=>fT x y k
 |some (.pointer _),.neq=>pB x y k
 |some (.slice _),.eql=>DC x y k
 |some (.slice _),.neq=>G1 x y k
 |some (.func _ _ _),.eql=>LV x y k
 |some (.func _ _ _),.neq=>LW x y k
 |_,_=> .fail
def Mb:Option TypeDesc->Bool
 |some .bool=>true
 |_=>false
noncomputable def Tx {β:Type} (op:BinOp) (x y:Value) (k:Value->M β):M β:=match op with
 | .eql=>LU x y k
 | .neq=>GV x y k
 |_=> .fail
noncomputable def Mc {β:Type} (P:Program) (op:BinOp) (t:TypeId) (x y:Value) (k:Value->M β):M β:=match po P t with
 |true=>Ma (P.underlying t) (yh P t) op x y k
 |false=>match Mb (P.underlying t)with
  |true=>Tx op x y k
  |false=>LZ op x y k
section
variable {β:Type} {P:Program} {t:TypeId} {x y:Value} {k:Value->M β} {h:H} {n:Nat} {r:Out β}
theorem Ty(a b:List UInt8)(hn:po P t=false):eS P .eql t (.string ⟨⟨a⟩⟩) (.string ⟨⟨b⟩⟩)=some (.bool (uQ a b))∧eS P .neq t (.string ⟨⟨a⟩⟩) (.string ⟨⟨b⟩⟩)=some (.bool (!uQ a b)):=by
 rw[GH]
 exact⟨afP hn a b,afQ hn a b⟩
theorem afU{op:BinOp}(hn:po P t=false)(hr:LZ op x y k h n=some r):bh (eS P op t x y) k h n=some r:=by
 cases op<;>simp only[LZ]at hr
 case add=>
  unfold aA at hr
  split at hr
  ·split at hr
   ·rename_i a _ b
    cases hl:bK (iO (lC a) (lC b)) 9223372036854775807 with
    |false=>simp only[hl]at hr;cases hr
    |true=>
     simp only[hl]at hr
     have:=iM hl
     rw[sZ,sZ]at this
     exact fP (afR (P:=P) hn _ _ this) (by rw[<-LD];exact hr)
   ·cases hr
  ·exact uX (fun j a b=>by rw[afx hn,mR,Tg]) hr
 case sub=>exact uX (fun j a b=>by rw[afy hn,mR,GD]) hr
 case mul=>exact uX (fun j a b=>by rw[afz hn,mR,Th]) hr
 case quo=>
  unfold lT at hr
  split at hr
  ·split at hr
   ·rename_i a p _ b q
    cases hk:s9 a b with
    |false=>simp only[hk]at hr;cases hr
    |true=>
     obtain rfl:=GK hk
     cases hz:sX q 0 with
     |true=>simp only[hk,hz]at hr;cases hr
     |false=>
      simp only[hk,hz]at hr
      rw[wx]at hz
      exact fP (afA hn _ _ (beq_eq_false_iff_ne.1 hz)) (by rw[<-mR];exact hr)
   ·cases hr
  ·cases hr
 case rem=>
  unfold rF at hr
  split at hr
  ·split at hr
   ·rename_i a p _ b q
    cases hk:s9 a b with
    |false=>simp only[hk]at hr;cases hr
    |true=>
     obtain rfl:=GK hk
     cases hz:sX q 0 with
     |true=>simp only[hk,hz]at hr;cases hr
     |false=>
      simp only[hk,hz]at hr
      rw[wx]at hz
      exact fP (afB hn _ _ (beq_eq_false_iff_ne.1 hz)) hr
   ·cases hr
  ·cases hr
 case and=>exact LY (fun j a b=>by rw[afK hn,RC,(wD a b).1,(wD a b).2];rfl) hr
 case or=>exact LY (fun j a b=>by rw[afL hn,arp,(wD a b).1,(wD a b).2];rfl) hr
 case xor=>exact LY (fun j a b=>by rw[afM hn,arq,(wD a b).1,(wD a b).2];rfl) hr
 case shl=>
  unfold pA at hr
  split at hr
  ·rename_i a p
   split at hr
   ·rename_i j q
    exact fP (afI hn _ _ (p9 q)) (by rw[<-mR];exact hr)
   ·cases hr
  ·cases hr
 case shr=>
  unfold tf at hr
  split at hr
  ·rename_i a p
   split at hr
   ·rename_i j q
    refine fP (afJ hn _ _ (p9 q)) ?_
    have e2:(jg p).fdiv (2^min (jg q).toNat a.bits)=jg (p/2^min q a.bits):=by
     show((p:Nat):Int).fdiv (2^min q a.bits)=((p/2^(min q a.bits):Nat):Int)
     have e2:(2:Int)^(min q a.bits)=((2^(min q a.bits):Nat):Int):=by simp
     rw[e2,ars _ (p9 _),<-art]
    exact e2▸hr
   ·cases hr
  ·cases hr
 case andNot=>cases hr
 case eql=>
  unfold aW at hr
  split at hr
  ·split at hr
   ·exact fP (Ty _ _ hn).1 hr
   ·cases hr
  ·exact uX (fun j a b=>by rw[afC hn,wx]) hr
 case neq=>
  unfold bz at hr
  split at hr
  ·split at hr
   ·exact fP (Ty _ _ hn).2 hr
   ·cases hr
  ·exact uX (fun j a b=>by rw[afD hn,wx];rfl) hr
 case lss=>exact uX (fun j a b=>by rw[afE hn,sY]) hr
 case leq=>exact uX (fun j a b=>by rw[afF hn,GG]) hr
 case gtr=>exact uX (fun j a b=>by rw[afG hn,sY]) hr
 case geq=>exact uX (fun j a b=>by rw[afH hn,GG]) hr
end
section
variable {β:Type} {P:Program} {t:TypeId} {x y a:Value} {k:Value->M β} {h:H} {n:Nat} {r:Out β}
theorem nF{m m':M Value}(e:m=m')(hr:eW m k h n=some r):((inside m').bind k) h n=some r:=by
 subst e
 rw[<-nB]
 exact hr
theorem afV{op:BinOp}(hn:po P t=true)(hr:Ma (P.underlying t) (yh P t) op x y k h n=some r):bh (eS P op t x y) k h n=some r:=by
 have Tz:∀(b:Bool) (v:Value),sJ P t x y=some b->((op= .eql∧v= .bool b)∨(op= .neq∧v= .bool (!b)))->k v h n=some r->bh (eS P op t x y) k h n=some r:=by
  intro b v e hv hk
  refine fP (v:=v) ?_ hk
  unfold eS Ly
  rw[hn,e]
  rcases hv with ⟨rfl,rfl⟩|⟨rfl,rfl⟩<;>rfl
 have key:∀(b:Bool) (v:Value),sI (P.underlying t) x y=some b->((op= .eql∧v= .bool b)∨(op= .neq∧v= .bool (!b)))->k v h n=some r->bh (eS P op t x y) k h n=some r:=fun b v e=>Tz b v (by unfold sJ;rw[e])
 have G':∀(fs:Array Field) (b:Bool) (v:Value),P.underlying t=some (.struct fs)->Ky (yh P t) x y=some b->((op= .eql∧v= .bool b)∨(op= .neq∧v= .bool (!b)))->k v h n=some r->bh (eS P op t x y) k h n=some r:=fun fs b v hf e=>Tz b v (by unfold sJ sI;rw[hf];exact e)
 generalize hd:P.underlying t=d at hr key G'
 generalize hk:yh P t=ds at hr G'
 unfold Ma at hr
 split at hr
 ·unfold Tw at hr
  split at hr
  ·rename_i l
   split at hr
   ·unfold GZ at hr
    cases x<;>try(cases hr;done)
    rename_i xs
    obtain⟨xl⟩:=xs
    cases y<;>try(cases hr;done)
    rename_i ys
    obtain⟨yl⟩:=ys
    simp only at hr
    cases hb:lQ l xl yl with
    |none=>simp only[hb]at hr;cases hr
    |some b=>simp only[hb]at hr;exact G' _ b _ rfl hb (.inl ⟨rfl,rfl⟩) hr
   ·unfold G0 at hr
    cases x<;>try(cases hr;done)
    rename_i xs
    obtain⟨xl⟩:=xs
    cases y<;>try(cases hr;done)
    rename_i ys
    obtain⟨yl⟩:=ys
    simp only at hr
    cases hb:lQ l xl yl with
    |none=>simp only[hb]at hr;cases hr
    |some b=>simp only[hb]at hr;exact G' _ b _ rfl hb (.inr ⟨rfl,rfl⟩) hr
   ·cases hr
  ·cases hr
 ·unfold fT GW at hr
  split at hr<;>first|(split at hr<;>first|exact key _ _ rfl (.inl ⟨rfl,rfl⟩) hr|cases hr)|cases hr
 ·unfold pB GW at hr
  split at hr<;>first|(split at hr<;>first|exact key _ _ rfl (.inr ⟨rfl,rfl⟩) hr|cases hr)|cases hr
 ·unfold DC GX at hr
  split at hr<;>first|(split at hr<;>first|exact key _ _ rfl (.inl ⟨rfl,rfl⟩) hr|cases hr)|cases hr
 ·unfold G1 GX at hr
  split at hr<;>first|(split at hr<;>first|exact key _ _ rfl (.inr ⟨rfl,rfl⟩) hr|cases hr)|cases hr
 ·unfold LV GY at hr
  split at hr<;>first|(split at hr<;>first|exact key _ _ rfl (.inl ⟨rfl,rfl⟩) hr|cases hr)|cases hr
 ·unfold LW GY at hr
  split at hr<;>first|(split at hr<;>first|exact key _ _ rfl (.inr ⟨rfl,rfl⟩) hr|cases hr)|cases hr
 ·cases hr
theorem afW{b c:Bool}(e:P.underlying t=some .bool):kT P (do pure (.value (.bool (<-vG t (.bool b) (.bool c)))))=some (.bool (b==c)):=by
 unfold vG aq9 AR
 simp only[bind_assoc]
 rw[sW e]
 rfl
theorem afX{op:BinOp}(hr:Mc P op t x y k h n=some r):bh (eS P op t x y) k h n=some r:=by
 unfold Mc at hr
 cases hn:po P t with
 |true=>simp only[hn]at hr;exact afV hn hr
 |false=>
  simp only[hn]at hr
  cases hb:Mb (P.underlying t)with
  |false=>simp only[hb]at hr;exact afU hn hr
  |true=>
   simp only[hb]at hr
   have e:P.underlying t=some .bool:=by
    revert hb
    generalize P.underlying t=d
    intro hb
    unfold Mb at hb
    split at hb
    ·rfl
    ·cases hb
   unfold Tx at hr
   split at hr
   ·unfold LU at hr
    split at hr
    ·split at hr
     ·rename_i b _ c
      refine fP (v:= .bool (b==c)) (jW hn rfl ?_ rfl) (by cases b<;>cases c<;>exact hr)
      unfold j9
      simp only[bind_assoc,pure_bind]
      exact afW e
     ·cases hr
    ·cases hr
   ·unfold GV at hr
    split at hr
    ·split at hr
     ·rename_i b _ c
      refine fP (v:= .bool (!(b==c))) (jW hn rfl ?_ rfl) (by cases b<;>cases c<;>exact hr)
      unfold j9
      simp only[bind_assoc,pure_bind]
      unfold vG aq9 AR
      simp only[bind_assoc]
      rw[sW e]
      rfl
     ·cases hr
    ·cases hr
   ·cases hr
end
noncomputable section
variable {β:Type} (P:Program)
def Md(op:UnOp)(x:Value)(k:Value->M β):M β:=match op with
 | .not=>hX x k
 | .neg=>G2 x k
 | .xor=>G3 x k
 |_=> .fail
def Me(src dst:TypeId)(x:Value)(k:Value->M β):M β:=match vM (P.underlying src) (P.underlying dst)with
 |some e=>match qg P e with
  |true=>lU x k
  |false=> .fail
 |none=>match yI (P.underlying src) (P.underlying dst)with
  |some e=>match qg P e&&size? P e==some 1 with
   |true=>Bv e x k
   |false=> .fail
  |none=>match P.underlying src with
   |some _=>match P.underlying dst with
    |some (.int kd)=>dY kd x k
    |some .string=>Tu x k
    |_=> .fail
   |none=> .fail
def Ha(t:TypeId)(a:Value)(k:Value->M β):M β:=match kS P t with
 |some true=>match size? P t with
  |some sz=>bx sz a k
  |none=> .fail
 |some false=>ar a k
 |none=> .fail
def Mf(t:TypeId)(a x:Value)(k:Value->M β):M β:=match size? P t with
 |some sz=>match kS P t with
  |some true=>aX sz a x k
  |some false=>match cz sz 1 with
   |true=>aZ a x k
   |false=> .fail
  |none=> .fail
 |none=> .fail
def Mg(e:TypeId)(k:Value->M β):M β:=match iB P e with
 |some z=>di e (dU z) k
 |none=> .fail
def Mh(e:TypeId)(x:Value)(k:Value->M β):M β:=match size? P e with
 |some _=>iD e x k
 |none=> .fail
def Bw(pl:Nat->Option (Nat×Nat)):List (Nat×Value)->Option (List (Nat×Nat×Value))
 |[]=>some []
 |q::r=>match pl q.1 with
  |some p=>match Bw pl r with
   |some l=>some ((p.1,p.2,q.2)::l)
   |none=>none
  |none=>none
def Mi(t:TypeId)(ps:List (Nat×Value))(k:Value->M β):M β:=match iB P t with
 |some z=>match P.underlying t with
  |some (.struct fs)=>match fs.all fun f=>(size? P f.type).isSome with
   |true=>bh (Bw (placeOf P fs) ps) fun qs=>bB (dU z) qs k
   |false=> .fail
  |_=> .fail
 |none=> .fail
def lone:Nat->List (Nat×Value)->Option Value
 |1,[(0,v)]=>some v
 |_,_=>none
def Mj(t:TypeId)(len:Nat)(ps:List (Nat×Value))(k:Value->M β):M β:=match P.underlying t with
 |some (.slice e)=>match size? P e with
  |some sz=>match iB P e with
   |some z=>match cz len 0&&ps.isEmpty with
    |true=>oE e [] 0 [] k
    |false=>match bK 1 (len*sz)&&bK (len*sz) 65536&&cz (gO (dU z)) sz with
     |true=>match lone len ps with
      |some v=>cX e sz v k
      |none=>bh (Bw (fun i=>some (i*sz,sz)) ps) fun qs=>oE e (lD (dU z) len) len qs k
     |false=> .fail
   |none=> .fail
  |none=> .fail
 |_=> .fail
def Mk(t:TypeId)(l c:Value)(k:Value->M β):M β:=match P.underlying t with
 |some (.slice e)=>match P.info? e with
  |some ie=>match iB P e with
   |some z=>match bK ie.bytes 64&&cz (gO (dU z)) ie.size&&bK 1 ie.size with
    |true=>uW e (dU z) l c k
    |false=> .fail
   |none=> .fail
  |none=> .fail
 |_=> .fail
def Ml(t:TypeId)(x:Value)(lo hi mx:Option Value)(k:Value->M β):M β:=match mx with
 |some _=> .fail
 |none=>match P.underlying t with
  |some .string=>bU x lo hi k
  |some (.slice e)=>match size? P e with
   |some sz=>Bt e sz x lo hi k
   |none=> .fail
  |_=> .fail
def Mm(t:TypeId)(x:Value)(f:Nat)(k:Value->M β):M β:=match P.underlying t with
 |some (.struct fs)=>match fs[f]? with
  |some fd=>match size? P fd.type with
   |some (_+1)=>aq fd.offset x k
   |_=> .fail
  |none=> .fail
 |_=> .fail
def Mn(t:TypeId)(x:Value)(f:Nat)(k:Value->M β):M β:=match P.underlying t with
 |some (.struct fs)=>match fs[f]? with
  |some fd=>match kS P fd.type with
   |some true=>match size? P fd.type with
    |some m=>LX fd.offset m x k
    |none=> .fail
   |some false=>G5 fd.offset x k
   |none=> .fail
  |none=> .fail
 |_=> .fail
def Mo(t:TypeId)(x ix:Value)(k:Value->M β):M β:=match P.underlying t with
 |some (.slice e)=>match size? P e with
  |some sz=>match cz sz 1 with
   |true=>dO x ix k
   |false=>kG sz x ix k
  |none=> .fail
 |some (.array len e)=>match size? P e with
  |some sz=>match cz sz 1 with
   |true=>iU len x ix k
   |false=>G6 len sz x ix k
  |none=> .fail
 |_=> .fail
def Mq(t:TypeId)(x ix:Value)(k:Value->M β):M β:=match P.underlying t with
 |some .string=>da x ix k
 |some (.array len e)=>match kS P e with
  |some false=>match size? P e with
   |some sz=>match cz sz 1 with
    |true=>Bs len x ix k
    |false=> .fail
   |none=> .fail
  |_=> .fail
 |_=> .fail
def Mr(dR:Array TypeId)(vs:List Value)(k:Value->M β):M β:=match dR[0]? with
 |some t=>match vs with
  |[x]=>match P.underlying t with
   |some (.slice _)=>bO x k
   |some .string=>bP x k
   |_=> .fail
  |_=> .fail
 |none=> .fail
def Ms(vs:List Value)(k:Value->M β):M β:=match vs with
 |[x,y]=>nD x y k
 |[x,y,z,u,v,w]=>DD x y z u v w k
 |_=> .fail
def Mu(vs:List Value)(k:Value->M β):M β:=match vs with
 |[x,y]=>yV x y k
 |_=> .fail
def Mv(t:TypeId)(s x:Value)(k:Value->M β):M β:=match P.underlying t with
 |some (.slice e)=>match P.info? e with
  |some ie=>match iB P e with
   |some z=>match bK ie.bytes 64&&cz (gO (dU z)) ie.size&&bK 1 ie.size with
    |true=>dj e ie.size s x k
    |false=> .fail
   |none=> .fail
  |none=> .fail
 |_=> .fail
def Mw(t:TypeId)(d s:Value)(k:Value->M β):M β:=match P.underlying t with
 |some (.slice e)=>match size? P e with
  |some sz=>G7 sz d s k
  |none=> .fail
 |_=> .fail
variable (rec:FuncId->Array Value->M Value)
def Mx(s:Fr)(c:Call)(vs:List Value)(k:Value->M β):M β:=match c.callee with
 | .value (.func g)=>match oX P g with
   |true=>ay rec g vs k
   |false=> .fail
 | .value f=>bh (bI s f) fun fv=>kD P rec fv vs k
 | .builtin .append=>bh (A2 P c.argTypes vs) fun q=>Mv P q.1 q.2.1 q.2.2 k
 | .builtin .copy=>bh (A3 c.argTypes vs) fun q=>Mw P q.1 q.2.1 q.2.2 k
 | .builtin .len=>Mr P c.argTypes vs k
 | .builtin .min=>Ms vs k
 | .builtin .max=>Mu vs k
 |_=> .fail
def mU(s:Fr)(o:Oper)(k:Value->M β):M β:=
 match o.op with
 | .move x| .assign x=>bh (bI s x) k
 | .pick c a b=>bh (bI s c) fun c=>bh (bI s a) fun a=>bh (bI s b) fun b=>G4 c a b k
 | .alloc e=>Mg P e k
 | .box e x=>bh (bI s x) fun x=>Mh P e x k
 | .build t parts=>ny s (parts.toList.map (·.2)) fun vs=>Mi P t ((parts.toList.map (·.1)).zip vs) k
 | .buildSlice t len parts=>ny s (parts.toList.map (·.2)) fun vs=>Mj P t len ((parts.toList.map (·.1)).zip vs) k
 | .load t a=>bh (bI s a) fun a=>Ha P t a k
 | .store t a x=>bh (bI s a) fun a=>bh (bI s x) fun x=>Mf P t a x k
 | .nilCheck x=>bh (bI s x) fun x=>az x k
 | .binOp op t x y _=>bh (bI s x) fun x=>bh (bI s y) fun y=>Mc P op t x y k
 | .unOp op _ x=>bh (bI s x) fun x=>Md op x k
 | .convert src dst x=>bh (bI s x) fun x=>Me P src dst x k
 | .makeFunc fn a b=>ny s a.toList fun a=>ny s b.toList fun b=>k (.func fn a.toArray b.toArray)
 | .makeSlice t l c=>bh (bI s l) fun l=>bh (bI s c) fun c=>Mk P t l c k
 | .slice t x lo hi mx=>bh (bI s x) fun x=>uN s lo fun lo=>uN s hi fun hi=>uN s mx fun mx=>Ml P t x lo hi mx k
 | .fieldAddr t x f=>bh (bI s x) fun x=>Mm P t x f k
 | .field t x f=>bh (bI s x) fun x=>Mn P t x f k
 | .indexAddr t x ix=>bh (bI s x) fun x=>bh (bI s ix) fun ix=>Mo P t x ix k
 | .index t x ix=>bh (bI s x) fun x=>bh (bI s ix) fun ix=>Mq P t x ix k
 | .extract t i=>bh (bI s t) fun t=>aP t i k
 | .call c=>ny s c.args.toList fun vs=>Mx P rec s c vs k
 |_=> .fail
end
section
variable {β:Type} {P:Program} {t:TypeId} {x y a:Value} {k:Value->M β} {h:H} {n:Nat} {r:Out β}
theorem afY{P:Program}{p:Nat}(hp:p<=4294967295):mr P .xor (.int .u32 (.ofNat p))=some (.int .u32 (.ofNat (Nat.sub 4294967295 p))):=by
 have e:Op.unary .xor (.int .u32 (.ofNat p))=pure (.int .u32 (IntKind.u32.wrap (cC 32 4294967295^^^cC 32 (jg p)).toNat)):=rfl
 have e1:(cC 32 4294967295^^^cC 32 (jg p)).toNat=4294967295-p:=by
  have h1:cC 32 4294967295=BitVec.allOnes 32:=by decide
  rw[h1,BitVec.allOnes_xor,BitVec.toNat_not]
  have:(cC 32 (jg p)).toNat=p:=by
   show(cC 32 (p:Int)).toNat=p
   rw[BitVec.ofInt_natCast,BitVec.toNat_ofNat]
   exact me (by omega)
  rw[this]
 have e2:IntKind.u32.wrap ((4294967295-p:Nat):Int)=((4294967295-p:Nat):Int):=IntWalk.u32_in _ (by omega)
 unfold mr pj
 rw[e,e1,e2]
 rfl
theorem afZ{op:UnOp}(hr:Md op x k h n=some r):bh (mr P op x) k h n=some r:=by
 unfold Md at hr
 split at hr
 ·unfold hX at hr
  split at hr
  ·exact fP rfl hr
  ·cases hr
 ·unfold G2 at hr
  split at hr
  ·rename_i j p
   exact fP (v:= .int j (j.wrap (0-p))) rfl (by rw[<-mR,<-GD];exact hr)
  ·cases hr
 ·unfold G3 at hr
  split at hr
  ·rename_i p
   cases hp:bK p 4294967295 with
   |false=>simp only[hp]at hr;cases hr
   |true=>
    simp only[hp]at hr
    exact fP (afY (iM hp)) hr
  ·cases hr
 ·cases hr
theorem My{v:Value}(hr:k v h n=some r):((inside (M.ret v)).bind k) h n=some r:=by
 obtain⟨c,h2,n2,L⟩:=r
 exact bZ (L1:=[]) rfl hr
theorem af0(hr:lU x k h n=some r):((inside (qf x)).bind k) h n=some r:=by
 unfold lU at hr
 split at hr
 ·rename_i b off len c
  refine nF (m:=(jv b off len).bind fun vs=>match mw vs with
  |some l=> .ret (.string ⟨⟨l⟩⟩)
  |none=> .fail) ?_ hr
  have:=congrFun afv (.slice (some ⟨b,off,none⟩) len c)
  exact this
 ·exact My hr
 ·cases hr
theorem af1{e:TypeId}(hr:Bv e x k h n=some r):((inside (Gp e x)).bind k) h n=some r:=by
 unfold Bv at hr
 split at hr
 ·rename_i l
  cases hl:bK (lC l) 1099511627776 with
  |false=>simp only[hl]at hr;cases hr
  |true=>
   simp only[hl]at hr
   refine nF ?_ hr
   have:=iM hl
   rw[sZ]at this⊢
   unfold Gp uy
   rw[mS]
   have hs:(⟨⟨l⟩⟩:ByteArray).size=l.length:=rfl
   simp only[hs]
   rw[if_pos this]
   simp
 ·cases hr
theorem af2{src dst:TypeId}(hr:Me P src dst x k h n=some r):Gq P src dst x k h n=some r:=by
 unfold Me at hr
 unfold Gq
 cases hs:vM (P.underlying src) (P.underlying dst)with
 |some e=>
  simp only[hs]at hr⊢
  cases hu:qg P e with
  |true=>simp only[hu]at hr⊢;exact af0 hr
  |false=>simp only[hu]at hr;cases hr
 |none=>
  simp only[hs]at hr⊢
  cases hb:yI (P.underlying src) (P.underlying dst)with
  |some e=>
   simp only[hb]at hr⊢
   cases hu:(qg P e&&size? P e==some 1)with
   |true=>simp only[hu]at hr⊢;exact af1 hr
   |false=>simp only[hu]at hr;cases hr
  |none=>
   simp only[hb]at hr⊢
   cases hd:P.underlying src with
   |none=>simp only[hd]at hr;cases hr
   |some ds=>
    simp only[hd]at hr
    cases he:P.underlying dst with
    |none=>simp only[he]at hr;cases hr
    |some dd=>
     simp only[he]at hr
     cases dd<;>try(cases hr;done)
     ·cases x<;>try(cases hr;done)
      ·rename_i kd j p
       refine fP (v:= .int kd (kd.wrap p)) ?_ (by rw[<-mR];exact hr)
       unfold pj
       simp only[scalar]
       have:kT P (do pure (RA (<-Ry src dst (.int j p))))=some (.int kd (kd.wrap p)):=by
        unfold Ry
        simp only[bind_assoc]
        rw[sW hd,sW he]
        rfl
       rw[this]
     ·cases x<;>try(cases hr;done)
      ·rename_i s
       refine fP (v:= .string s) ?_ hr
       unfold pj
       simp only[scalar]
       have:kT P (do pure (RA (<-Ry src dst (.string s))))=some (.string s):=by
        unfold Ry
        simp only[bind_assoc]
        rw[sW hd,sW he]
        rfl
       rw[this]
theorem TA(hr:Ha P t a k h n=some r):((inside (kV P t a)).bind k) h n=some r:=by
 unfold Ha at hr
 cases ha:kS P t with
 |none=>simp only[ha]at hr;cases hr
 |some b=>
  cases b with
  |false=>
   simp only[ha]at hr
   unfold ar at hr
   split at hr
   ·refine nF ?_ hr
    rw[GO]
    unfold kV
    simp only[ha]
   ·cases hr
  |true=>
   simp only[ha]at hr
   cases hs:size? P t with
   |none=>simp only[hs]at hr;cases hr
   |some sz=>
    simp only[hs]at hr
    unfold bx at hr
    split at hr
    ·refine nF ?_ hr
     rw[pr]
     unfold kV
     simp only[ha,hs]
    ·cases hr
theorem af3(hr:Mf P t a x k h n=some r):((inside (qV P t a x)).bind k) h n=some r:=by
 unfold Mf at hr
 cases hs:size? P t with
 |none=>simp only[hs]at hr;cases hr
 |some sz=>
  simp only[hs]at hr
  cases ha:kS P t with
  |none=>simp only[ha]at hr;cases hr
  |some b=>
   cases b with
   |true=>
    simp only[ha]at hr
    unfold aX at hr
    split at hr
    ·split at hr
     ·rename_i b off _ l
      cases hl:cz (gO l) sz with
      |false=>simp only[hl]at hr;cases hr
      |true=>
       simp only[hl]at hr
       refine nF ?_ hr
       have:=m7 hl
       rw[oD]at this
       unfold qV
       have hc:(mf ⟨l⟩).cells=⟨l⟩:=rfl
       simp only[hs,hc]
       rw[if_pos (by simpa using this),Dy]
     ·cases hr
    ·cases hr
   |false=>
    simp only[ha]at hr
    cases h1:cz sz 1 with
    |false=>simp only[h1]at hr;cases hr
    |true=>
     simp only[h1]at hr
     have:=m7 h1
     subst this
     unfold aZ at hr
     split at hr
     ·rename_i b off
      cases ho:one x with
      |false=>simp only[ho]at hr;cases hr
      |true=>
       simp only[ho]at hr
       refine nF ?_ hr
       have hc:x.cells=#[x]:=by cases x<;>first|rfl|(simp[one]at ho)
       unfold qV
       simp only[hs,hc]
       rw[GP]
       funext hh n
       show _=((fN b off [x]).bind fun _=>M.ret undef) hh n
       unfold fN fN M.bind
       cases wr b off x hh n with
       |none=>rfl
       |some o=>simp[M.ret]
     ·cases hr
theorem af4{e:TypeId}(hr:Mg P e k h n=some r):((inside (qd P e)).bind k) h n=some r:=by
 unfold Mg at hr
 cases hz:iB P e with
 |none=>simp only[hz]at hr;cases hr
 |some z=>
  simp only[hz]at hr
  refine nF ?_ hr
  unfold qd
  rw[hz,mS,rD]
theorem af5{e:TypeId}(hr:Mh P e x k h n=some r):((inside (qe P e x)).bind k) h n=some r:=by
 unfold Mh at hr
 cases hz:size? P e with
 |none=>simp only[hz]at hr;cases hr
 |some z=>
  simp only[hz]at hr
  refine nF ?_ hr
  unfold qe
  rw[hz,mS,rD]
theorem Mz{pl:Nat->Option (Nat×Nat)}:∀(ps:List (Nat×Value)) (qs:List (Nat×Nat×Value)) (cs:List Value),Bw pl ps=some qs->fU cs qs=wC pl cs ps
 |[],qs,cs,e=>by cases e;rfl
 |(i,v)::r,qs,cs,e=>by
  unfold Bw at e
  unfold wC
  simp only at e
  cases hp:pl i with
  |none=>simp only[hp]at e;cases e
  |some p=>
   obtain⟨off,sz⟩:=p
   simp only[hp]at e⊢
   cases hr:Bw pl r with
   |none=>simp only[hr]at e;cases e
   |some l=>
    simp only[hr]at e
    cases e
    unfold fU
    simp only
    cases cz (gO (dU v)) sz with
    |false=>rfl
    |true=>
     simp only[Bool.true_and]
     cases bK (iO off (gO (dU v))) (gO cs)with
     |false=>rfl
     |true=>exact Mz r l _ hr
theorem af6{ps:List (Nat×Value)}(hr:Mi P t ps k h n=some r):((inside (oV P t ps)).bind k) h n=some r:=by
 unfold Mi at hr
 cases hz:iB P t with
 |none=>simp only[hz]at hr;cases hr
 |some z=>
  simp only[hz]at hr
  cases hu:P.underlying t with
  |none=>simp only[hu]at hr;cases hr
  |some u=>
   simp only[hu]at hr
   cases u<;>try(cases hr;done)
   rename_i fs
   simp only at hr
   cases hf:(fs.all fun f=>(size? P f.type).isSome)with
   |false=>simp only[hf]at hr;cases hr
   |true=>
    simp only[hf]at hr
    obtain⟨qs,hq,hr⟩:=c9 hr
    unfold bB at hr
    have e:=Mz ps qs (dU z) hq
    rw[rD,GS]at e
    rw[rD,e]at hr
    have:oV P t ps=match nY (placeOf P fs) z.cells ps with
     |some cs=>M.ret (.agg cs)
     |none=> .fail:=by
     unfold oV
     simp only[hz,hu,hf,if_true]
     rfl
    rw[this]
    cases hi:nY (placeOf P fs) z.cells ps with
    |none=>rw[hi]at hr;cases hr
    |some cs=>
     rw[hi]at hr
     exact My hr
end
section
variable {β:Type} {P:Program} {t:TypeId} {x y a:Value} {k:Value->M β} {h:H} {n:Nat} {r:Out β}
theorem Hb:∀a b:List Value,uT a b=a++b
 |[],_=>rfl
 |v::a,b=>by
  show v::uT a b=_
  rw[Hb a b];rfl
theorem af7{z:Value}{n i:Nat}(hs:0<z.cells.size)(h:i<n):(aQ z n).toList[i]? =some (z.cells.toList[i %z.cells.size]'(by rw[Kl];exact m9 _ hs)):=by
 unfold aQ
 have bM:=m9 i hs
 simp[h,bM]
theorem TB(l:List Value):∀c,(lD l c).length=c*l.length
 |0=>by simp[lD]
 |c+1=>by
  unfold lD
  rw[Hb,List.length_append,TB l c,pZ,Km,Nat.add_comm]
theorem TC(l:List Value)(hs:0<l.length):∀c i,i<c*l.length->(lD l c)[i]? =some (l[i %l.length]'(m9 _ hs))
 |0,i,h=>by simp at h
 |c+1,i,h=>by
  unfold lD
  rw[Hb]
  by_cases hi:i<l.length
  ·rw[List.getElem?_append_left hi,bD hi]
   simp only[me hi]
  ·rw[List.getElem?_append_right (by omega),TC l hs c (i-l.length) (by rw[pZ,Km]at h;omega)]
   have:(i-l.length)%l.length=i %l.length:=by
    conv=>rhs;rw[show i=i-l.length+l.length by omega,Nat.add_mod_right]
   simp only[this]
theorem MA{z:Value}(hs:0<z.cells.size)(c:Nat):lD (dU z) c=(aQ z (c*z.cells.size)).toList:=by
 rw[rD]
 have hl:z.cells.toList.length=z.cells.size:=Kl
 apply List.ext_getElem?
 intro i
 by_cases hi:i<c*z.cells.size
 ·rw[TC _ (by omega) c i (by rw[hl];exact hi),af7 hs hi]
  simp only[hl]
 ·rw[sC (by rw[TB,hl];omega),sC (by unfold aQ;simp;omega)]
theorem TD:∀(l cs:List Value),l.length=cs.length->over l cs=l
 |[],[],_=>rfl
 |[],_::_,h=>by simp at h
 |_::_,[],h=>by simp at h
 |x::l,c::cs,h=>by
  show x::over l cs=_
  rw[TD l cs (by simpa using h)]
theorem af8{len:Nat}{ps:List (Nat×Value)}{v:Value}(e:lone len ps=some v):len=1∧ps=[(0,v)]:=by
 unfold lone at e
 split at e
 ·cases e;exact⟨rfl,rfl⟩
 ·cases e
theorem af9{len:Nat}{ps:List (Nat×Value)}(hr:Mj P t len ps k h n=some r):((inside (oW P t len ps)).bind k) h n=some r:=by
 unfold Mj at hr
 cases hu:P.underlying t with
 |none=>simp only[hu]at hr;cases hr
 |some u=>
  simp only[hu]at hr
  cases u<;>try(cases hr;done)
  rename_i e
  simp only at hr
  cases hs:size? P e with
  |none=>simp only[hs]at hr;cases hr
  |some sz=>
   simp only[hs]at hr
   cases hz:iB P e with
   |none=>simp only[hz]at hr;cases hr
   |some z=>
    simp only[hz]at hr
    have e0:oW P t len ps=if len=0&&ps.isEmpty then(dC e []).bind fun id=> .ret (.slice (some ⟨id,0,none⟩) 0 0)else
     if 0<len*sz&&len*sz<=65536 then
      match nY (fun i=>some (i*sz,sz)) (aQ z (len*sz)) ps with
      |some cs=>(dC e cs.toList).bind fun id=> .ret (.slice (some ⟨id,0,none⟩) len len)
      |none=> .fail
     else .fail:=by
     unfold oW
     simp only[hu,hs,hz]
     rfl
    rw[e0]
    cases h0:(cz len 0&&ps.isEmpty)with
    |true=>
     simp only[h0]at hr
     rw[cj]at h0
     have:=m7 h0.1
     rw[if_pos (by simp[this,h0.2])]
     unfold oE fU at hr
     simp only at hr
     refine nF ?_ hr
     rw[mS]
    |false=>
     simp only[h0]at hr
     have Gg:¬((decide (len=0)&&ps.isEmpty)=true):=by
      intro q
      rw[cj,decide_eq_true_eq]at q
      obtain⟨rfl,q⟩:=q
      rw[q]at h0
      cases h0
     rw[if_neg Gg]
     cases h1:(bK 1 (len*sz)&&bK (len*sz) 65536&&cz (gO (dU z)) sz)with
     |false=>simp only[h1]at hr;cases hr
     |true=>
      simp only[h1]at hr
      rw[cj,cj]at h1
      obtain⟨⟨h2,h3⟩,h4⟩:=h1
      have h2:=iM h2
      have h3:=iM h3
      have h4:=m7 h4
      rw[oD,rD,Kl]at h4
      rw[if_pos (by simp;omega)]
      have sT:0<z.cells.size:=by
       rw[h4]
       exact Nat.pos_of_ne_zero fun q=>by rw[q]at h2;simp at h2
      cases hv:lone len ps with
      |some v=>
       simp only[hv]at hr
       obtain⟨rfl,rfl⟩:=af8 hv
       unfold cX at hr
       cases hc:cz (gO (dU v)) sz with
       |false=>simp only[hc]at hr;cases hr
       |true=>
        simp only[hc]at hr
        have hc:=m7 hc
        have f:=GS (fun i=>some (i*sz,sz)) [(0,v)] (aQ z (1*sz))
        have zl:(aQ z (1*sz)).toList.length=sz:=by unfold aQ;simp
        have f2:wC (fun i=>some (i*sz,sz)) (aQ z (1*sz)).toList [(0,v)]=some (dU v):=by
         unfold wC
         simp only[Nat.zero_mul]
         rw[oD (aQ z (1*sz)).toList,zl,hc]
         have b1:cz sz sz=true:=CT sz
         have b2:bK (iO 0 sz) sz=true:=nZ (by show 0+sz<=sz;omega)
         simp only[b1,b2,Bool.and_self]
         unfold wC
         rw[LR,<-LQ,TD _ _ (by rw[zl,<-oD,hc])]
        rw[f2]at f
        cases hi:nY (fun i=>some (i*sz,sz)) (aQ z (1*sz)) [(0,v)]with
        |none=>rw[hi]at f;cases f
        |some cs=>
         rw[hi]at f
         simp only[Option.map_some,eG]at f
         refine nF ?_ hr
         rw[mS,f]
      |none=>
       simp only[hv]at hr
       obtain⟨qs,hq,hr⟩:=c9 hr
       unfold oE at hr
       have f:=Mz ps qs (lD (dU z) len) hq
       rw[MA sT,h4,GS]at f
       rw[MA sT,h4,f]at hr
       cases hi:nY (fun i=>some (i*sz,sz)) (aQ z (len*sz)) ps with
       |none=>rw[hi]at hr;cases hr
       |some cs=>
        rw[hi]at hr
        refine nF ?_ hr
        rw[mS]
theorem af'{l c:Value}(hr:Mk P t l c k h n=some r):((inside (qh P t l c)).bind k) h n=some r:=by
 unfold Mk at hr
 cases hu:P.underlying t with
 |none=>simp only[hu]at hr;cases hr
 |some u=>
  simp only[hu]at hr
  cases u<;>try(cases hr;done)
  rename_i e
  simp only at hr
  cases hs:P.info? e with
  |none=>simp only[hs]at hr;cases hr
  |some ie=>
   simp only[hs]at hr
   cases hz:iB P e with
   |none=>simp only[hz]at hr;cases hr
   |some z=>
    simp only[hz]at hr
    cases h1:(bK ie.bytes 64&&cz (gO (dU z)) ie.size&&bK 1 ie.size)with
    |false=>simp only[h1]at hr;cases hr
    |true=>
     simp only[h1]at hr
     rw[cj,cj]at h1
     obtain⟨⟨h2,h3⟩,h4⟩:=h1
     have h2:=iM h2
     have h3:=m7 h3
     have h4:=iM h4
     rw[oD,rD,Kl]at h3
     unfold uW at hr
     split at hr
     ·split at hr
      ·rename_i k1 l _ k2 c
       cases hl:bK l c with
       |false=>simp only[hl]at hr;cases hr
       |true=>
        simp only[hl]at hr
        cases hm:bK c 1099511627776 with
        |false=>simp only[hm]at hr;cases hr
        |true=>
         simp only[hm]at hr
         have hl:=iM hl
         have hm:=iM hm
         refine nF ?_ hr
         unfold qh
         simp only[hu,hs,hz]
         have q1:(0:Int)<=jg l:=p9 _
         have q2:jg l<=jg c:=Int.ofNat_le.2 hl
         have q3:jg c<=1099511627776:=Int.ofNat_le.2 hm
         rw[if_pos (by simp[q1,q2,q3,h2,h3,h4];omega),mS,MA (by omega),h3]
         rfl
      ·cases hr
     ·cases hr
theorem TE{P:Program}{t e:TypeId}{sz:Nat}(hu:P.underlying t=some (.slice e))(hs:size? P e=some sz)(a:Option Addr)(len cap:Nat)(lo hi:Option Value):yW sz a len cap lo hi=AY P t (.slice a len cap) lo hi none:=by
 unfold yW AY
 simp only[hu,hs]
 cases h1:fH hi len with
 |none=>simp
 |some b=>
  cases h2:fH lo 0 with
  |none=>simp[fH]
  |some c=>
   simp[fH]
   rfl
theorem af_{lo hi mx:Option Value}(hr:Ml P t x lo hi mx k h n=some r):Bh P t x lo hi mx k h n=some r:=by
 unfold Ml at hr
 cases mx with
 |some _=>cases hr
 |none=>
  simp only at hr
  cases hu:P.underlying t with
  |none=>simp only[hu]at hr;cases hr
  |some u=>
   simp only[hu]at hr
   cases u<;>try(cases hr;done)
   ·unfold bU at hr
    cases x<;>try(cases hr;done)
    rename_i s
    obtain⟨⟨l⟩⟩:=s
    simp only at hr
    cases ha:uV lo 0 with
    |none=>simp only[ha]at hr;cases hr
    |some a=>
     simp only[ha]at hr
     cases hb:uV hi (lC l)with
     |none=>simp only[hb]at hr;cases hr
     |some b=>
      simp only[hb]at hr
      cases h1:bK a b with
      |false=>simp only[h1]at hr;cases hr
      |true=>
       simp only[h1]at hr
       cases h2:bK b (lC l)with
       |false=>simp only[h2]at hr;cases hr
       |true=>
        simp only[h2]at hr
        have bn:∀{o:Option Value} {d a:Nat},uV o d=some a->fH o d=some a:=by
         intro o d a h
         unfold uV at h
         split at h
         ·exact h
         ·cases h
          unfold fH
          simp
         ·cases h
        have h2:=iM h2
        rw[sZ]at h2 hb
        have e:=afT hu l lo hi (bn ha) (bn hb) (iM h1) h2 k
        exact(congrFun (congrFun e h) n).trans hr
   ·rename_i e
    simp only at hr
    cases hs:size? P e with
    |none=>simp only[hs]at hr;cases hr
    |some sz=>
     simp only[hs]at hr
     unfold Bh
     have dT:rq P t=false:=by unfold rq;rw[hu]
     rw[dT]
     simp only
     cases x<;>try(cases hr;done)
     rename_i ad len cap
     cases ad with
     |none=>
      unfold Bt at hr
      simp only at hr
      cases h1:yW sz none len cap lo hi with
      |none=>simp only[h1]at hr;cases hr
      |some v=>
       simp only[h1]at hr
       have e1:yK P t (.slice none len cap) lo hi none=M.ret v:=by
        unfold yK
        simp only[isStr]
        unfold qU
        simp only
        rw[<-TE hu hs,h1]
        rfl
       rw[e1]
       exact My hr
     |some ad=>
      obtain⟨b,off,p⟩:=ad
      cases p with
      |some _=>cases hr
      |none=>
       unfold Bt at hr
       simp only at hr
       obtain⟨c,h2,n2,L⟩:=r
       rw[nB]at hr
       obtain⟨v,h1,n1,L1,L2,e1,e2,e3⟩:=bind_some hr
       obtain⟨L',e4,e5⟩:=yM e1
       obtain⟨w,h3,n3,L3,L4,e6,e7,e8⟩:=bind_some e4
       have:yK P t (.slice (some ⟨b,off,none⟩) len cap) lo hi none h n=some ⟨v,h1,n1,L'⟩:=by
        unfold yK
        simp only[isStr]
        unfold qU
        simp only
        rw[yQ]at e6
        rw[e8]
        refine bZ e6 ?_
        cases hw:cz w e with
        |false=>simp only[hw]at e7;cases e7
        |true=>
         simp only[hw]at e7
         have:=m7 hw
         subst this
         simp only[hu,if_true]
         rw[<-TE hu hs]
         exact e7
       rw[e3,e5]
       exact bZ (jU this) e2
theorem aga{s:Value}(hr:Mv P t s x k h n=some r):((inside (sH P t s x)).bind k) h n=some r:=by
 unfold Mv at hr
 cases hu:P.underlying t with
 |none=>simp only[hu]at hr;cases hr
 |some u=>
  simp only[hu]at hr
  cases u<;>try(cases hr;done)
  rename_i e
  simp only at hr
  cases hs:P.info? e with
  |none=>simp only[hs]at hr;cases hr
  |some ie=>
   simp only[hs]at hr
   cases hz:iB P e with
   |none=>simp only[hz]at hr;cases hr
   |some z=>
    simp only[hz]at hr
    cases h1:(bK ie.bytes 64&&cz (gO (dU z)) ie.size&&bK 1 ie.size)with
    |false=>simp only[h1]at hr;cases hr
    |true=>
     simp only[h1]at hr
     rw[cj,cj]at h1
     obtain⟨⟨h2,h3⟩,h4⟩:=h1
     have h2:=iM h2
     have h3:=m7 h3
     have h4:=iM h4
     rw[oD,rD,Kl]at h3
     refine nF ?_ hr
     unfold sH lE
     simp only[hu,hs,hz]
     cases ic x with
     |none=>rfl
     |some m=>
      simp only
      have c1:(decide (z.cells.size=ie.size)&&decide (1<=ie.size)&&decide (ie.bytes<=64))=true:=by simp;omega
      rw[if_pos c1]
      unfold yg Bu qc
      rw[td,pr,Dy,GQ,yQ,mS]
      rfl
theorem agb{d s:Value}(hr:Mw P t d s k h n=some r):((inside (sK P t d s)).bind k) h n=some r:=by
 unfold Mw at hr
 cases hu:P.underlying t with
 |none=>simp only[hu]at hr;cases hr
 |some u=>
  simp only[hu]at hr
  cases u<;>try(cases hr;done)
  rename_i e
  simp only at hr
  cases hs:size? P e with
  |none=>simp only[hs]at hr;cases hr
  |some sz=>
   simp only[hs]at hr
   refine nF ?_ hr
   unfold sK yX
   simp only[hu,hs]
   rw[td,Dy]
   cases d<;>try rfl
   cases ic s<;>rfl
theorem agc{f:Nat}(hr:Mm P t x f k h n=some r):bh (AZ P t x f) k h n=some r:=by
 unfold Mm at hr
 cases hu:P.underlying t with
 |none=>simp only[hu]at hr;cases hr
 |some u=>
  simp only[hu]at hr
  cases u<;>try(cases hr;done)
  rename_i fs
  simp only at hr
  cases hf:fs[f]? with
  |none=>simp only[hf]at hr;cases hr
  |some fd=>
   simp only[hf]at hr
   cases hs:size? P fd.type with
   |none=>simp only[hs]at hr;cases hr
   |some sz=>
    cases sz with
    |zero=>simp only[hs]at hr;cases hr
    |succ sz=>
     simp only[hs]at hr
     unfold aq at hr
     split at hr
     ·refine fP ?_ hr
      unfold AZ
      simp only[hu,hf,hs]
      rw[if_neg (by omega)]
      rfl
     ·cases hr
theorem MB {l:List Value} {K:Nat} {β:Type} {k:Value->M β} {h:H} {n:Nat} {r:Out β} (hr:(match wA l K with
 |some v=>k v
 |none=>M.fail) h n=some r):bh l[K]? k h n=some r:=by
 rw[GN]at hr
 cases e:l[K]? with
 |none=>rw[e]at hr;cases hr
 |some v=>rw[e]at hr;exact hr
theorem agd{f:Nat}(hr:Mn P t x f k h n=some r):bh (vN P t x f) k h n=some r:=by
 unfold Mn at hr
 cases hu:P.underlying t with
 |none=>simp only[hu]at hr;cases hr
 |some u=>
  simp only[hu]at hr
  cases u<;>try(cases hr;done)
  rename_i fs
  simp only at hr
  cases hf:fs[f]? with
  |none=>simp only[hf]at hr;cases hr
  |some fd=>
   simp only[hf]at hr
   cases ha:kS P fd.type with
   |none=>simp only[ha]at hr;cases hr
   |some b=>
    cases b with
    |false=>
     simp only[ha]at hr
     unfold G5 at hr
     cases x<;>try(cases hr;done)
     rename_i cs
     obtain⟨l⟩:=cs
     have:=MB hr
     have e:vN P t (.agg ⟨l⟩) f=l[fd.offset]? :=by
      unfold vN partOf
      simp only[hu,hf,ha]
      simp
     rw[e];exact this
    |true=>
     simp only[ha]at hr
     cases hs:size? P fd.type with
     |none=>simp only[hs]at hr;cases hr
     |some m=>
      simp only[hs]at hr
      unfold LX at hr
      cases x<;>try(cases hr;done)
      rename_i cs
      obtain⟨l⟩:=cs
      refine fP ?_ hr
      unfold vN partOf
      simp only[hu,hf,ha,hs]
      congr 2
      apply Array.ext'
      simp[aq3]
theorem age{ix:Value}(hr:Mo P t x ix k h n=some r):bh (uz P t x ix) k h n=some r:=by
 unfold Mo at hr
 cases hu:P.underlying t with
 |none=>simp only[hu]at hr;cases hr
 |some u=>
  simp only[hu]at hr
  have one:∀{sz:Nat} (i:Nat),cz sz 1=true->i*sz=i:=fun i h=>by rw[m7 h,AU]
  cases u<;>try(cases hr;done)
  case array m e=>
   simp only at hr
   cases hs:size? P e with
   |none=>simp only[hs]at hr;cases hr
   |some sz=>
    simp only[hs]at hr
    cases h1:cz sz 1 with
    |true=>
     simp only[h1]at hr
     unfold iU at hr
     split at hr
     ·split at hr
      ·rename_i b off _ kd i
       cases hl:bK (gL i) m with
       |false=>simp only[hl]at hr;cases hr
       |true=>
        simp only[hl]at hr
        refine fP ?_ hr
        have:=iM hl
        unfold uz
        simp only[hu,hs]
        rw[if_pos ⟨p9 _,Int.ofNat_lt.2 this⟩]
        show some (lN (some ⟨b,off+i*sz,none⟩))=_
        rw[one i h1];rfl
      ·cases hr
     ·cases hr
    |false=>
     simp only[h1]at hr
     unfold G6 at hr
     split at hr
     ·split at hr
      ·rename_i b off _ kd i
       cases hl:bK (gL i) m with
       |false=>simp only[hl]at hr;cases hr
       |true=>
        simp only[hl]at hr
        refine fP ?_ hr
        have:=iM hl
        unfold uz
        simp only[hu,hs]
        rw[if_pos ⟨p9 _,Int.ofNat_lt.2 this⟩]
        rfl
      ·cases hr
     ·cases hr
  case slice e=>
   simp only at hr
   cases hs:size? P e with
   |none=>simp only[hs]at hr;cases hr
   |some sz=>
    simp only[hs]at hr
    cases h1:cz sz 1 with
    |true=>
     simp only[h1]at hr
     unfold dO at hr
     split at hr
     ·split at hr
      ·rename_i b off m _ _ kd i
       cases hl:bK (gL i) m with
       |false=>simp only[hl]at hr;cases hr
       |true=>
        simp only[hl]at hr
        refine fP ?_ hr
        have:=iM hl
        unfold uz
        simp only[hu,hs]
        rw[if_pos ⟨p9 _,Int.ofNat_lt.2 this⟩]
        show some (lN (some ⟨b,off+i*sz,none⟩))=_
        rw[one i h1];rfl
      ·cases hr
     ·cases hr
    |false=>
     simp only[h1]at hr
     unfold kG at hr
     split at hr
     ·split at hr
      ·rename_i b off m _ _ kd i
       cases hl:bK (gL i) m with
       |false=>simp only[hl]at hr;cases hr
       |true=>
        simp only[hl]at hr
        refine fP ?_ hr
        have:=iM hl
        unfold uz
        simp only[hu,hs]
        rw[if_pos ⟨p9 _,Int.ofNat_lt.2 this⟩]
        rfl
      ·cases hr
     ·cases hr
theorem agf{ix:Value}(hr:Mq P t x ix k h n=some r):bh (yL P t x ix) k h n=some r:=by
 unfold Mq at hr
 cases hu:P.underlying t with
 |none=>simp only[hu]at hr;cases hr
 |some u=>
  simp only[hu]at hr
  cases u<;>try(cases hr;done)
  case string=>
   unfold da at hr
   cases x<;>try(cases hr;done)
   rename_i s
   obtain⟨⟨l⟩⟩:=s
   simp only at hr
   split at hr
   ·rename_i kd i
    cases hn:uR l i with
    |none=>simp only[hn]at hr;cases hr
    |some c=>
     simp only[hn]at hr
     obtain⟨h1,h2⟩:=LF _ _ _ hn
     have:=afS (P:=P) hu l kd (i:Int) (by omega) (by omega)
     rw[Int.toNat_natCast,h2]at this
     exact fP this hr
   ·cases hr
  case array m e=>
   simp only at hr
   cases ha:kS P e with
   |none=>simp only[ha]at hr;cases hr
   |some b=>
    cases b with
    |true=>simp only[ha]at hr;cases hr
    |false=>
     simp only[ha]at hr
     cases hs:size? P e with
     |none=>simp only[hs]at hr;cases hr
     |some sz=>
      simp only[hs]at hr
      cases h1:cz sz 1 with
      |false=>simp only[h1]at hr;cases hr
      |true=>
       simp only[h1]at hr
       have:=m7 h1
       subst this
       unfold Bs at hr
       cases x<;>try(cases hr;done)
       rename_i cs
       obtain⟨l⟩:=cs
       simp only at hr
       split at hr
       ·rename_i kd i
        cases hl:bK (gL i) m with
        |false=>simp only[hl]at hr;cases hr
        |true=>
         simp only[hl]at hr
         have hr:=MB hr
         have hl:=iM hl
         have dT:rq P t=false:=by unfold rq;rw[hu]
         have e:yL P t (.agg ⟨l⟩) (.int kd (.ofNat i))=l[i]? :=by
          unfold yL
          rw[dT]
          simp only
          unfold Gu
          simp only[isStr]
          unfold A1
          simp only[hu,hs]
          rw[if_pos ⟨p9 _,Int.ofNat_lt.2 hl⟩]
          unfold partOf
          simp only[ha,AU]
          simp
         rw[e];exact hr
       ·cases hr
theorem agh{dR:Array TypeId}{vs:List Value}(hr:Mr P dR vs k h n=some r):bh (Dp P dR vs) k h n=some r:=by
 unfold Mr at hr
 cases ht:dR[0]? with
 |none=>simp only[ht]at hr;cases hr
 |some t=>
  simp only[ht]at hr
  split at hr
  ·rename_i x
   cases hu:P.underlying t with
   |none=>simp only[hu]at hr;cases hr
   |some u=>
    simp only[hu]at hr
    cases u<;>try(cases hr;done)
    ·unfold bP at hr
     cases x<;>try(cases hr;done)
     rename_i s
     obtain⟨⟨l⟩⟩:=s
     refine fP (v:= .int .i64 (l.length:Nat)) ?_ (by rw[<-sZ];exact hr)
     unfold Dp
     simp only[ht,hu]
     rfl
    ·unfold bO at hr
     cases x<;>try(cases hr;done)
     refine fP ?_ hr
     unfold Dp
     simp only[ht,hu]
     rfl
  ·cases hr
theorem agi{vs:List Value}(hr:Ms vs k h n=some r):bh (min2 vs) k h n=some r:=by
 unfold Ms at hr
 split at hr
 ·rename_i x y
  unfold nD at hr
  split at hr
  ·split at hr
   ·rename_i a p _ b q
    refine fP (v:= .int a (if q<p then q else p)) rfl ?_
    rw[sY]at hr
    by_cases e:q<p
    ·rw[if_pos e];simp only[e,decide_true]at hr;exact hr
    ·rw[if_neg e];simp only[e,decide_false]at hr;exact hr
   ·cases hr
  ·cases hr
 ·rename_i x y z u v w
  unfold DD at hr
  have st:∀{x y:Value} {k:Value->M β},nD x y k h n=some r->∃a p b q,x= .int a p∧y= .int b q∧k (.int a (kC p q)) h n=some r:=by
   intro x y k hr
   unfold nD at hr
   split at hr
   ·split at hr
    ·rename_i a p _ b q
     refine⟨a,p,b,q,rfl,rfl, ?_⟩
     rw[sY]at hr
     unfold kC
     by_cases e:q<p
     ·rw[if_pos e];simp only[e,decide_true]at hr;exact hr
     ·rw[if_neg e];simp only[e,decide_false]at hr;exact hr
    ·cases hr
   ·cases hr
  obtain⟨a,p,b,q,rfl,rfl,rG⟩:=st hr
  obtain⟨a2,p2,b2,q2,e1,rfl,ew⟩:=st rG
  obtain⟨a3,p3,b3,q3,e2,rfl,DE⟩:=st ew
  obtain⟨a4,p4,b4,q4,e3,rfl,hr4⟩:=st DE
  obtain⟨a5,p5,b5,q5,e4,rfl,hr5⟩:=st hr4
  cases e1
  cases e2
  cases e3
  cases e4
  exact fP rfl hr5
 ·cases hr
theorem agj{vs:List Value}(hr:Mu vs k h n=some r):bh (max2 vs) k h n=some r:=by
 unfold Mu at hr
 split at hr
 ·rename_i x y
  unfold yV at hr
  split at hr
  ·split at hr
   ·rename_i a p _ b q
    refine fP (v:= .int a (if p<q then q else p)) rfl ?_
    rw[sY]at hr
    by_cases e:p<q
    ·rw[if_pos e];simp only[e,decide_true]at hr;exact hr
    ·rw[if_neg e];simp only[e,decide_false]at hr;exact hr
   ·cases hr
  ·cases hr
 ·cases hr
end
section
variable {α β:Type} {h:H} {n:Nat} {r:Out β}
theorem iE{o:Option α}{k k':α->M β}(hk:∀v,k v h n=some r->k' v h n=some r)(hr:bh o k h n=some r):bh o k' h n=some r:=by
 cases o with
 |none=>cases hr
 |some v=>exact hk v hr
theorem Hc{s:Fr}:∀{l:List Operand} {k k':List Value->M β},(∀v,k v h n=some r->k' v h n=some r)->ny s l k h n=some r->ny s l k' h n=some r
 |[],_,_,hk,hr=>hk _ hr
 |_::_,_,_,hk,hr=>iE (fun _ q=>Hc (fun _ q=>hk _ q) q) hr
theorem MC{s:Fr}{x:Option Operand}{k k':Option Value->M β}(hk:∀v,k v h n=some r->k' v h n=some r)(hr:uN s x k h n=some r):uN s x k' h n=some r:=by
 cases x with
 |none=>exact hk _ hr
 |some x=>exact iE (fun _ q=>hk _ q) hr
variable {P:Program} {rec:FuncId->Array Value->M Value}
theorem agk{s:Fr}{c:Call}{vs:List Value}{k:Value->M β}(hr:Mx P rec s c vs k h n=some r):call2 P rec s c vs k h n=some r:=by
 unfold Mx at hr
 unfold call2
 cases hc:c.callee with
 |value f=>
  simp only[hc]at hr⊢
  cases f with
  |func g=>
   simp only at hr
   cases hb:oX P g with
   |false=>simp only[hb]at hr;cases hr
   |true=>
    simp only[hb]at hr
    show kD P rec (.func (.func g) #[] #[]) vs k h n=some r
    unfold kD
    show(match oX P g with
     |true=>(inside (rec g ((#[]:Array Value).toList++vs++(#[]:Array Value).toList).toArray)).bind k
     |false=>M.fail) h n=some r
    rw[hb]
    refine nF ?_ hr
    simp
  |_=>exact hr
 |builtin b=>
  simp only[hc]at hr⊢
  cases b<;>try(cases hr;done)
  case append=>exact iE (fun q hq=>aga hq) hr
  case copy=>exact iE (fun q hq=>agb hq) hr
  case len=>exact agh hr
  case max=>exact agj hr
  case min=>exact agi hr
 |invoke _ _=>
  simp only[hc]at hr
  cases hr
theorem agl{s:Fr}{o:Oper}{k:Value->M β}(hr:mU P rec s o k h n=some r):sV P rec s o k h n=some r:=by
 obtain⟨dst,op,ty,pos,after,guard⟩:=o
 unfold mU at hr
 unfold sV
 cases op with
 |move x=>exact hr
 |assign x=>exact hr
 |pick c a b=>
  refine iE (fun vc=>iE fun va=>iE fun vb q=> ?_) hr
  unfold G4 at q
  split at q
  ·exact fP rfl q
  ·exact fP rfl q
  ·cases q
 |alloc e=>exact af4 hr
 |box e x=>exact iE (fun _ q=>af5 q) hr
 |build t ps=>exact Hc (fun _ q=>af6 q) hr
 |buildSlice t len ps=>exact Hc (fun _ q=>af9 q) hr
 |load t a=>exact iE (fun _ q=>TA q) hr
 |store t a x=>exact iE (fun _=>iE fun _ q=>af3 q) hr
 |nilCheck x=>
  refine iE (fun v q=> ?_) hr
  unfold az at q
  split at q
  ·exact fP rfl q
  ·exact fP rfl q
  ·cases q
 |binOp op t x y yt=>exact iE (fun _=>iE fun _ q=>afX q) hr
 |unOp op t x=>exact iE (fun _ q=>afZ q) hr
 |convert src d x=>exact iE (fun _ q=>af2 q) hr
 |makeFunc fn a b=>exact hr
 |makeSlice t l c=>exact iE (fun _=>iE fun _ q=>af' q) hr
 |slice t x lo hi mx=>exact iE (fun _=>MC fun _=>MC fun _=>MC fun _ q=>af_ q) hr
 |fieldAddr t x f=>exact iE (fun _ q=>agc q) hr
 |field t x f=>exact iE (fun _ q=>agd q) hr
 |indexAddr t x ix=>exact iE (fun _=>iE fun _ q=>age q) hr
 |index t x ix=>exact iE (fun _=>iE fun _ q=>agf q) hr
 |extract t i=>
  refine iE (fun v q=> ?_) hr
  unfold aP at q
  cases v<;>try(cases q;done)
  rename_i cs
  obtain⟨l⟩:=cs
  have e:vO (.tuple ⟨l⟩) i=l[i]? :=by simp[vO]
  rw[e]
  exact MB q
 |call c=>exact Hc (fun _ q=>agk q) hr
 |_=>cases hr
end
end Go.Proofs.YtmjolmggelkjlaaGreat.Ev
namespace Go.Proofs.YtmjolmggelkjlaaGreat.Ev
open Go
noncomputable section
variable (P:Program) (rec:FuncId->Array Value->M Value)
def gP(ops:Array Oper)(dst:Option Tmp):List Nat->List Nat
 |[]=>[]
 |j::r=>match (ops[j]?).bind (·.dst),dst with
  |some t,some d=>match cz t d with
   |true=>gP ops dst r
   |false=>j::gP ops dst r
  |_,_=>j::gP ops dst r
def yY(j:Nat):List Nat->Bool
 |[]=>false
 |i::r=>match cz i j with
  |true=>true
  |false=>yY j r
def rH{β:Type}(ops:Array Oper):List Oper->Nat->List Nat->Fr->(Fr->M β)->M β
 |[],_,_,s,k=>k s
 |o::r,i,dE,s,k=>match o.guard with
  |none=>mU P rec s o fun v=>rH ops r (i+1) (gP ops o.dst dE) (jk s o.dst v) k
  |some (j,want)=>match yY j dE with
   |true=>rH ops r (i+1) (i::gP ops o.dst dE) (jk s o.dst undef) k
   |false=>match (ops[j]?).bind (·.dst)with
    |none=> .fail
    |some t=>bh (s.at_ t) fun g=>
     ak g (match want with
      |true=>mU P rec ((t,.bool true)::s) o fun v=>rH ops r (i+1) (gP ops o.dst dE) (jk ((t,.bool true)::s) o.dst v) k
      |false=>rH ops r (i+1) (i::gP ops o.dst dE) (jk ((t,.bool true)::s) o.dst undef) k)
      (match want with
        |true=>rH ops r (i+1) (i::gP ops o.dst dE) (jk ((t,.bool false)::s) o.dst undef) k
        |false=>mU P rec ((t,.bool false)::s) o fun v=>rH ops r (i+1) (gP ops o.dst dE) (jk ((t,.bool false)::s) o.dst v) k)
abbrev Hint:=List Nat×List Nat×List (Nat×List Nat)
def TF:List (Nat×List Nat)->Nat->Option (List Nat)
 |[],_=>none
 |q::r,i=>match cz q.1 i with
  |true=>some q.2
  |false=>TF r i
def Hint.out(G:Hint)(id:Nat)(s:Fr):Fr:=match TF G.2.2 id with
 |some l=>s.aB l
 |none=>s
def Hd{β:Type}(kd:Nat)(k:Tk->M β):M β:=match kd with
 |0=>k ⟨0,0,[]⟩
 |_=>(aG (M.ret undef)).bind fun x=>k x.2
def lV{β:Type}(ops:Array Oper):List Oper->Nat->List Nat->Fr->List Tk->(Fr->List Tk->M β)->M β
 |[],_,_,s,acc,k=>k s acc.reverse
 |o::r,i,dE,s,acc,k=>match o.guard with
  |none=>match kind o.op with
   |0=>mU P rec s o fun v=>lV ops r (i+1) (gP ops o.dst dE) (jk s o.dst v) (⟨0,0,[]⟩::acc) k
   |_=>(aG (mU P rec s o M.ret)).bind fun x=>lV ops r (i+1) (gP ops o.dst dE) (jk s o.dst x.1) (x.2::acc) k
  |some (j,want)=>match yY j dE with
   |true=>Hd (kind o.op) fun tk=>lV ops r (i+1) (i::gP ops o.dst dE) (jk s o.dst undef) (tk::acc) k
   |false=>match (ops[j]?).bind (·.dst)with
    |none=> .fail
    |some t=>bh (s.at_ t) fun g=>
     ak g (match want with
      |true=>match kind o.op with
       |0=>mU P rec ((t,.bool true)::s) o fun v=>lV ops r (i+1) (gP ops o.dst dE) (jk ((t,.bool true)::s) o.dst v) (⟨0,0,[]⟩::acc) k
       |_=>(aG (mU P rec ((t,.bool true)::s) o M.ret)).bind fun x=>lV ops r (i+1) (gP ops o.dst dE) (jk ((t,.bool true)::s) o.dst x.1) (x.2::acc) k
      |false=>Hd (kind o.op) fun tk=>lV ops r (i+1) (i::gP ops o.dst dE) (jk ((t,.bool true)::s) o.dst undef) (tk::acc) k)
      (match want with
        |true=>Hd (kind o.op) fun tk=>lV ops r (i+1) (i::gP ops o.dst dE) (jk ((t,.bool false)::s) o.dst undef) (tk::acc) k
        |false=>match kind o.op with
         |0=>mU P rec ((t,.bool false)::s) o fun v=>lV ops r (i+1) (gP ops o.dst dE) (jk ((t,.bool false)::s) o.dst v) (⟨0,0,[]⟩::acc) k
         |_=>(aG (mU P rec ((t,.bool false)::s) o M.ret)).bind fun x=>lV ops r (i+1) (gP ops o.dst dE) (jk ((t,.bool false)::s) o.dst x.1) (x.2::acc) k)
def He(dH:List Nat)(ops:Array Oper)(j:Nat)(oj:Oper)(tj:Tk)(k:Nat)(ok:Oper)(tk:Tk):Bool:=
 (dH.getD k 0).testBit j||(!(sM ops oj ok)&&(match fits (kind oj.op) (kind ok.op)with
   |true=>true
   |false=> !(cT tj tk)))
def Hf(dH:List Nat)(ops:Array Oper)(j:Nat)(oj:Oper)(tj:Tk):Nat->List Oper->List Tk->Bool
 |k,ok::r,tk::t=>He dH ops j oj tj k ok tk&&Hf dH ops j oj tj (k+1) r t
 |_,_,_=>true
def Bx(dH:List Nat)(ops:Array Oper):Nat->List Oper->List Tk->Bool
 |j,oj::r,tj::t=>Hf dH ops j oj tj (j+1) r t&&Bx dH ops (j+1) r t
 |_,_,_=>true
def fV{β:Type}(b:Bool)(m:M β):M β:=match b with
 |true=>m
 |false=> .fail
def MD{β:Type}(ops:Array Oper)(draw:Bool)(s:Fr)(k:Fr->M β):M β:=
 match !draw||Gx ops with
 |true=>rH P rec ops ops.toList 0 [] s k
 |false=>match vP ops with
  |true=>lV P rec ops ops.toList 0 [] s [] fun s1 tks=>fV (Bx (od ops.toList []) ops 0 ops.toList tks) (k s1)
  |false=> .fail
def DF{β:Type}(kb:Fr->(Ex->Fr->M β)->M β)(k:Ex->Fr->M β):Ex->Fr->M β
 | .normal,s1=>kb s1 k
 | .ret,s1=>k .ret s1
 | .exit i,s1=>k (.exit i) s1
def Hg{β:Type}(id:Nat)(k:Ex->Fr->M β):Ex->Fr->M β
 | .normal,s1=>k .normal s1
 | .ret,s1=>k .ret s1
 | .exit i,s1=>match cz i id with
   |true=>k .normal s1
   |false=>k (.exit i) s1
def TG{β:Type}(again:Fr->M β)(k:Ex->Fr->M β):Ex->Fr->M β
 | .normal,s1=>again s1
 | .ret,s1=>k .ret s1
 | .exit i,s1=>k (.exit i) s1
def bH{β:Type}(body:Fr->(Ex->Fr->M β)->M β)(keys:List Nat):Nat->Fr->(Ex->Fr->M β)->M β
 |0,_,_=> .fail
 |f+1,s,k=>body s (TG (fun s1=>bH body keys f (s1.aB keys) k) k)
def jG{β:Type}(G:Hint)(lf:Nat):Code->Fr->(Ex->Fr->M β)->M β
 | .skip,s,k=>k .normal s
 | .label _,s,k=>k .normal s
 | .region _ ops draw,s,k=>MD P rec ops draw s fun s1=>k .normal (s1.aB G.1)
 | .seq a b,s,k=>jG G lf a s (DF (fun s1 k1=>jG G lf b s1 k1) k)
 | .cond c a b,s,k=>bh (bI s c) fun v=>ak v (jG G lf a s k) (jG G lf b s k)
 | .block id c,s,k=>jG G lf c s (Hg id k)
 | .loop c,s,k=>bH (fun s1 k1=>jG G lf c s1 k1) s.keys lf s k
 | .exit id,s,k=>k (.exit id) (G.out id s)
 | .ret,s,k=>k .ret (s.aB G.2.1)
 |_,_,_=> .fail
def fJ:Code->List Bool->Code
 | .seq a b,t::p=>match t with
   |true=>fJ b p
   |false=>fJ a p
 | .cond _ a b,t::p=>match t with
   |true=>fJ b p
   |false=>fJ a p
 | .block _ c,_::p=>fJ c p
 | .loop c,_::p=>fJ c p
 |c,_=>c
def yZ{β:Type}(G:Hint)(lf:Nat):Code->List Bool->(Ex->Fr->M β)->Ex->Fr->M β
 | .seq a b,t::p,k=>match t with
   |true=>yZ G lf b p k
   |false=>yZ G lf a p (DF (fun s1 k1=>jG P rec G lf b s1 k1) k)
 | .cond _ a b,t::p,k=>match t with
   |true=>yZ G lf b p k
   |false=>yZ G lf a p k
 | .block id c,_::p,k=>yZ G lf c p (Hg id k)
 |_,_,k=>k
def Bz{β:Type}(s:Fr):List ResultVar->(List Value->M β)->M β
 |[],k=>k []
 | .tmp t::r,k=>bh (s.at_ t) fun v=>Bz s r fun vs=>k (v::vs)
 | .cell a t::r,k=>bh (s.at_ a) fun a=>Ha P t a fun v=>Bz s r fun vs=>k (v::vs)
def aj(vs:List Value):M Value:= .ret (match vs with|[v]=>v|_=> .tuple vs.toArray)
def Hh(rs:List ResultVar):Ex->Fr->M Value
 | .normal,s=>Bz P s rs aj
 | .ret,s=>Bz P s rs aj
 | .exit _,_=> .fail
def Hi:Nat->List Value->Fr
 |_,[]=>[]
 |i,v::r=>(i,v)::Hi (i+1) r
end
def gW(P:Program)(f:FuncId):Code:=match P.funcs[f]? with
 |some fn=>match fn.body with
  |some c=>c
  |none=> .skip
 |none=> .skip
def ME(P:Program)(f:FuncId):List ResultVar:=match P.funcs[f]? with
 |some fn=>fn.results.toList
 |none=>[]
noncomputable def aE (P:Program) (gt:Nat->Hint) (lf:Nat) (rec:FuncId->Array Value->M Value) (f:FuncId) (args:Array Value):M Value:=match P.funcs[f]? with
 |some fn=>match fn.body with
  |some c=>match decide (args.size<=fn.ntmps)&&decide (fn.ntmps<1000)with
   |true=>inside (jG P rec (gt f) lf c (Hi 0 args.toList) (Hh P fn.results.toList))
   |false=> .fail
  |none=> .fail
 |none=> .fail
noncomputable def ik (kn:List FuncId) (P:Program) (gt:Nat->Hint) (lf:Nat):Nat->FuncId->Array Value->M Value
 |0,_,_=> .fail
 |d+1,f,args=>match kn.contains f with
  |true=>match vS f with
   |some k=>vT f k args.toList
   |none=>match decide (args.size=0)&&uA P f with
    |true=>(qX P KG).bind fun _=> .ret (.bool true)
    |false=> .fail
  |false=>aE P gt lf (ik kn P gt lf d) f args
noncomputable def au (P:Program) (gt:Nat->Hint) (lf:Nat):Nat->FuncId->Array Value->M Value:=ik KN P gt lf
def oF(nt:Nat):Code->Bool
 | .region _ ops _=>ops.all fun o=>match o.dst with
   |some d=>d<nt&&d<1023
   |none=>true
 | .seq a b=>oF nt a&&oF nt b
 | .cond _ a b=>oF nt a&&oF nt b
 | .block _ c| .loop c=>oF nt c
 |_=>true
def lW(P:Program):Bool:=P.funcs.all fun fn=>match fn.body with
 |some c=>oF fn.ntmps c
 |none=>true
theorem Sub.nil(s1:S):Sub [] s1:=fun t v h=>by cases h
theorem MF(d:Nat)(v:Value)(s:Fr)(t:Nat):Fr.at_ ((d,v)::s) t=if d=t then some v else s.at_ t:=by
 show(match cz d t with|true=>some v|false=>s.at_ t)=_
 by_cases e:d=t
 ·subst e
  rw[CT,if_pos rfl]
 ·have:cz d t=false:=Bool.eq_false_iff.2 fun q=>e (m7 q)
  rw[this,if_neg e]
theorem Sub.cons{s:Fr}{s1:S}(hs:Sub s s1){d:Nat}{v:Value}(h:s1.get d=v):Sub ((d,v)::s) s1:=fun t u hu=>by
 rw[MF]at hu
 by_cases e:d=t
 ·rw[if_pos e]at hu;cases hu;rw[<-e];exact h
 ·rw[if_neg e]at hu;exact hs t u hu
theorem Sub.put{s:Fr}{s1:S}(hs:Sub s s1){nt:Nat}{dst:Option Tmp}(hd:∀d,dst=some d->d<nt∧d<1023)(v:Value):∃s2,mL nt s1 dst v=some s2∧Sub (jk s dst v) s2:=by
 cases dst with
 |none=>exact⟨s1,rfl,hs⟩
 |some d=>
  obtain⟨h1,h2⟩:=hd d rfl
  refine⟨s1.put d v,by unfold mL;simp[h1,h2],fun t u hu=> ?_⟩
  rw[S.sR _ _ _ _ h2]
  have hu:Fr.at_ ((d,v)::s) t=some u:=hu
  rw[MF]at hu
  by_cases e:d=t
  ·rw[if_pos e]at hu;rw[if_pos e.symm];cases hu;rfl
  ·rw[if_neg e]at hu;rw[if_neg (fun q=>e q.symm)];exact hs t u hu
theorem MG(s:Fr):∀(G:List Nat) (t:Nat) (v:Value),(s.aB G).at_ t=some v->s.at_ t=some v
 |[],t,v,h=>by cases h
 |g::G,t,v,h=>by
  unfold Fr.aB at h
  split at h
  ·rename_i u hu
   rw[MF]at h
   by_cases e:g=t
   ·rw[if_pos e]at h;cases h;rw[<-e];exact hu
   ·rw[if_neg e]at h;exact MG s G t v h
  ·exact MG s G t v h
theorem Sub.aB{s:Fr}{s1:S}(hs:Sub s s1)(G:List Nat):Sub (s.aB G) s1:=fun t v h=>hs t v (MG s G t v h)
theorem Sub.out{s:Fr}{s1:S}(hs:Sub s s1)(G:Hint)(id:Nat):Sub (G.out id s) s1:=by
 unfold Hint.out
 split
 ·exact hs.aB _
 ·exact hs
section
variable {P:Program} {kn:List FuncId} {rec:FuncId->Array Value->M Value} (cV:∀f args h n v h1 n1 L,rec f args h n=some ⟨v,h1,n1,L⟩->fj (fun fuel=>cZ P kn fuel f args) h n v h1 n1 L)
include cV
theorem MH{ops:Array Oper}{o:Oper}{s:Fr}{s1:S}{β:Type}{k:Value->M β}{h:H}{n:Nat}{r:Out β}(hw:iA o (jh ops s1)=true)(hs:Sub s s1)(hr:mU P rec s o k h n=some r):
 ∃v h1 n1 L1 L2,fj (fun fuel=>inside (ig P (cZ P kn fuel) ops o s1)) h n v h1 n1 L1∧k v h1 n1=some ⟨r.val,r.h,r.n,L2⟩∧r.log=L1++L2:=by
 obtain⟨v,h1,n1,L1,L2,e1,e2,e3⟩:=afi cV hs (agl hr)
 refine⟨v,h1,n1,L1,L2,e1.map fun fuel=> ?_,e2,e3⟩
 rw[Td hw]
 rfl
theorem TH{ops:Array Oper}{o:Oper}{s1:S}{h:H}{n:Nat}(hw:iA o (jh ops s1)=false):fj (fun fuel=>inside (ig P (cZ P kn fuel) ops o s1)) h n undef h n []:=by
 refine⟨0,fun fuel _=> ?_⟩
 show inside (ig P (cZ P kn fuel) ops o s1) h n=_
 unfold ig
 rw[if_neg (by rw[hw];exact ard)]
 rfl
theorem MI{β:Type}{v:Value}{x y:M β}{h:H}{n:Nat}{r:Out β}(hr:ak v x y h n=some r):(v= .bool true∧x h n=some r)∨(v= .bool false∧y h n=some r):=by
 unfold ak at hr
 split at hr
 ·exact .inl ⟨rfl,hr⟩
 ·exact .inr ⟨rfl,hr⟩
 ·cases hr
theorem DG {nt:Nat} {ops:Array Oper} {o:Oper} {l:List Oper} {s1 s2:S} {h h1 h2:H} {n n1 n2:Nat} {v:Value} {L1 L2:List En} {y:S×List Tk} (e1:fj (fun fuel=>inside (ig P (cZ P kn fuel) ops o s1)) h n v h1 n1 L1)
 (hp:mL nt s1 o.dst v=some s2) (e2:fj (fun fuel=>kp P (cZ P kn fuel) nt ops l s2) h1 n1 y h2 n2 L2):fj (fun fuel=>kp P (cZ P kn fuel) nt ops (o::l) s1) h n (y.1,⟨n,n1,L1⟩::y.2) h2 n2 (L1++L2):=by
 obtain⟨f0,e1⟩:=e1
 obtain⟨f1,e2⟩:=e2
 refine⟨max f0 f1,fun fuel hf=> ?_⟩
 have g1:=Du (e1 fuel (by omega))
 have g2:=e2 fuel (by omega)
 show kp P (cZ P kn fuel) nt ops (o::l) s1 h n=_
 unfold kp
 refine bZ g1 ?_
 simp only[hp,yN,ru]
 have:=bZ (f:=fun y:S×List Tk=>M.ret (y.1,(⟨n,n1,L1⟩:Tk)::y.2)) g2 (h2:=h2) (n2:=n2) (L2:=[]) (b:=(y.1,(⟨n,n1,L1⟩:Tk)::y.2)) rfl
 rw[cu]at this
 exact this
theorem MJ{j:Nat}:∀{l:List Nat},yY j l=true->j∈l
 |[],h=>by cases h
 |i::r,h=>by
  unfold yY at h
  cases hb:cz i j with
  |true=>rw[m7 hb];simp
  |false=>rw[hb]at h;exact AV _ (MJ h)
def Idle(ops:Array Oper)(s1:S)(dE:List Nat):Prop:=∀j∈dE,jh ops s1 j=none
theorem Idle.put{ops:Array Oper}{s1 s2:S}{nt:Nat}{dst:Option Tmp}{v:Value}:∀{dE:List Nat},Idle ops s1 dE->mL nt s1 dst v=some s2->Idle ops s2 (gP ops dst dE)
 |[],_,_=>fun j hj=>by cases hj
 |i::r,h,hp=>by
  have hr:Idle ops s2 (gP ops dst r):=Idle.put (fun j hj=>h j (AV _ hj)) hp
  have hi:=h i (by simp)
  have get:∀t,dst≠some t->s2.get t=s1.get t:=by
   intro t ht
   cases dst with
   |none=>simp only[mL,eG]at hp;rw[hp]
   |some d=>
    unfold mL at hp
    simp only at hp
    split at hp
    ·rename_i hd
     simp only[cj,decide_eq_true_eq]at hd
     cases hp
     rw[S.sR _ _ _ _ hd.2,if_neg (fun e=>ht (by rw[e]))]
    ·cases hp
  have aB:(∀t,(ops[i]?).bind (·.dst)=some t->dst≠some t)->Idle ops s2 (i::gP ops dst r):=by
   intro hk j hj
   rcases adk.1 hj with rfl|hj
   ·unfold jh at hi⊢
    cases ht:(ops[j]?).bind (·.dst)with
    |none=>rfl
    |some t=>
     rw[ht]at hi
     simp only at hi⊢
     rw[get t (hk t ht)]
     exact hi
   ·exact hr j hj
  unfold gP
  cases ht:(ops[i]?).bind (·.dst)with
  |none=>exact aB fun t h=>by rw[ht]at h;cases h
  |some t=>
   cases dst with
   |none=>exact aB fun t h e=>by cases e
   |some d=>
    simp only
    cases hb:cz t d with
    |true=>exact hr
    |false=>
     refine aB fun t' h=> ?_
     rw[ht]at h
     cases h
     rintro⟨⟩
     rw[CT]at hb
     cases hb
theorem Idle.add{ops:Array Oper}{s1 s2:S}{nt:Nat}{o:Oper}{i:Nat}(hi:ops[i]? =some o){dE:List Nat}(h:Idle ops s2 dE)(hp:mL nt s1 o.dst undef=some s2):Idle ops s2 (i::dE):=by
 intro j hj
 rcases adk.1 hj with rfl|hj
 ·unfold jh
  rw[hi]
  simp only[Option.bind_some]
  cases hd:o.dst with
  |none=>rfl
  |some d=>
   rw[hd]at hp
   unfold mL at hp
   simp only at hp
   split at hp
   ·rename_i Gh
    simp only[cj,decide_eq_true_eq]at Gh
    cases hp
    simp only
    rw[S.sR _ _ _ _ Gh.2,if_pos rfl]
    rfl
   ·cases hp
 ·exact h j hj
theorem agm{β:Type}{nt:Nat}{ops:Array Oper}:∀(l:List Oper) (_:∀o∈l,∀d,o.dst=some d->d<nt∧d<1023) (i:Nat) (_:∀q o,l[q]? =some o->ops[i+q]? =some o) (dE:List Nat) (s:Fr) (s1:S) (_:Idle ops s1 dE) (k:Fr->M β) (h:H) (n:Nat) (r:Out β),Sub s s1->rH P rec ops l i dE s k h n=some r->
 ∃s' y h1 n1 L1 L2,fj (fun fuel=>kp P (cZ P kn fuel) nt ops l s1) h n y h1 n1 L1∧Sub s' y.1∧k s' h1 n1=some ⟨r.val,r.h,r.n,L2⟩∧r.log=L1++L2:=by
 intro l
 induction l with
 |nil=>
  intro _ i _ dE s s1 _ k h n r hs hr
  exact⟨s,(s1,[]),h,n,[],r.log,fj.of rfl,hs,hr,rfl⟩
 |cons o l ih=>
  intro hd i wE dE s s1 wF k h n r hs hr
  have BA:=hd o (by simp)
  have oG:∀o∈l,∀d,o.dst=some d->d<nt∧d<1023:=fun o' ho=>hd o' (by simp[ho])
  have MK:ops[i]? =some o:=by have:=wE 0 o rfl;rwa[kQ]at this
  have dX:∀q o',l[q]? =some o'->ops[i+1+q]? =some o':=fun q o' hq=>by
   have:=wE (q+1) o' (by simpa using hq)
   rwa[show i+1+q=i+(q+1) by omega]
  have go:∀(s:Fr),Sub s s1->iA o (jh ops s1)=true->mU P rec s o (fun v=>rH P rec ops l (i+1) (gP ops o.dst dE) (jk s o.dst v) k) h n=some r->
   ∃s' y h1 n1 L1 L2,fj (fun fuel=>kp P (cZ P kn fuel) nt ops (o::l) s1) h n y h1 n1 L1∧Sub s' y.1∧k s' h1 n1=some ⟨r.val,r.h,r.n,L2⟩∧r.log=L1++L2:=by
   intro s hs hw hr
   obtain⟨v,h1,n1,L1,L2,e1,e2,e3⟩:=MH cV hw hs hr
   obtain⟨s2,hp,dN⟩:=hs.put BA v
   obtain⟨s',y,h3,n3,L3,L4,e4,e5,e6,e7⟩:=ih oG _ dX _ _ s2 (Idle.put cV wF hp) k h1 n1 _ dN e2
   exact⟨s',_,h3,n3,_,L4,DG cV e1 hp e4,e5,e6,by rw[e3];simp only at e7;rw[e7,fA]⟩
  have idle:∀(s:Fr),Sub s s1->iA o (jh ops s1)=false->rH P rec ops l (i+1) (i::gP ops o.dst dE) (jk s o.dst undef) k h n=some r->
   ∃s' y h1 n1 L1 L2,fj (fun fuel=>kp P (cZ P kn fuel) nt ops (o::l) s1) h n y h1 n1 L1∧Sub s' y.1∧k s' h1 n1=some ⟨r.val,r.h,r.n,L2⟩∧r.log=L1++L2:=by
   intro s hs hw hr
   obtain⟨s2,hp,dN⟩:=hs.put BA undef
   obtain⟨s',y,h3,n3,L3,L4,e4,e5,e6,e7⟩:=ih oG _ dX _ _ s2 (Idle.add cV MK (Idle.put cV wF hp) hp) k h n _ dN hr
   exact⟨s',_,h3,n3,_,L4,DG cV (TH cV hw) hp e4,e5,e6,e7⟩
  unfold rH at hr
  cases hg:o.guard with
  |none=>
   rw[hg]at hr
   exact go s hs (by unfold iA;rw[hg]) hr
  |some jw=>
   obtain⟨j,want⟩:=jw
   rw[hg]at hr
   simp only at hr
   cases hI:yY j dE with
   |true=>
    rw[hI]at hr
    refine idle s hs ?_ hr
    unfold iA
    rw[hg]
    simp only
    rw[wF j (MJ cV hI)]
    rfl
   |false=>
   rw[hI]at hr
   simp only at hr
   cases ht:(ops[j]?).bind (·.dst)with
   |none=>rw[ht]at hr;cases hr
   |some t=>
    rw[ht]at hr
    simp only at hr
    obtain⟨g,y4,hr⟩:=c9 hr
    have jV:=hs t g y4
    have hy:∀b,g= .bool b->jh ops s1 j=some b:=fun b hb=>by
     unfold jh
     rw[ht]
     simp only[jV,hb]
    rcases MI cV hr with ⟨hb,hr⟩|⟨hb,hr⟩
    ·have dA:Sub ((t,.bool true)::s) s1:=hs.cons (by rw[jV,hb])
     cases want with
     |true=>exact go _ dA (by unfold iA;rw[hg];simp only;rw[hy _ hb];rfl) hr
     |false=>exact idle _ dA (by unfold iA;rw[hg];simp only;rw[hy _ hb];rfl) hr
    ·have dA:Sub ((t,.bool false)::s) s1:=hs.cons (by rw[jV,hb])
     cases want with
     |true=>exact idle _ dA (by unfold iA;rw[hg];simp only;rw[hy _ hb];rfl) hr
     |false=>exact go _ dA (by unfold iA;rw[hg];simp only;rw[hy _ hb];rfl) hr
end
theorem Hj{α:Type}{a c:α}{h h2:H}{n n2:Nat}{L:List En}(hr:(M.ret a) h n=some ⟨c,h2,n2,L⟩):c=a∧h2=h∧n2=n∧L=[]:=by
 simp only[M.ret,eG,Out.mk.injEq]at hr
 exact⟨hr.1.symm,hr.2.1.symm,hr.2.2.1.symm,hr.2.2.2.symm⟩
def Match:List Oper->List Tk->List Tk->Prop
 |[],[],[]=>True
 |o::l,t'::kH,t::ts=>(kind o.op=0∨t'=t)∧Match l kH ts
 |_,_,_=>False
theorem Match.get:∀{l:List Oper} {kH ts:List Tk},Match l kH ts->∀(i:Nat) (o:Oper) (t:Tk),l[i]? =some o->ts[i]? =some t->∃t',kH[i]? =some t'∧(kind o.op=0∨t'=t)
 |[],[],[],_,i,o,t,h,_=>by simp at h
 |o::l,t'::kH,t::ts,h,0,o',u,h1,h2=>by
  simp at h1 h2;subst h1 h2
  exact⟨t',rfl,h.1⟩
 |o::l,t'::kH,t::ts,h,i+1,o',u,h1,h2=>by
  simpa using Match.get h.2 i o' u (by simpa using h1) (by simpa using h2)
theorem agn{ops:Array Oper}{dH:List Nat}{j:Nat}{oj:Oper}{tj:Tk}:∀(l:List Oper) (ts:List Tk) (k:Nat),Hf dH ops j oj tj k l ts=true->∀i o t,l[i]? =some o->ts[i]? =some t->He dH ops j oj tj (k+i) o t=true:=by
 intro l
 induction l with
 |nil=>intro ts k _ i o t h;simp at h
 |cons o l ih=>
  intro ts k h i o' t' hi ht
  cases ts with
  |nil=>simp at ht
  |cons t ts=>
   unfold Hf at h
   simp only[cj]at h
   cases i with
   |zero=>simp at hi ht;subst hi ht;exact h.1
   |succ i=>
    rw[show k+(i+1)=k+1+i by omega]
    exact ih ts (k+1) h.2 i o' t' (by simpa using hi) (by simpa using ht)
theorem ago{ops:Array Oper}{dH:List Nat}:∀(l:List Oper) (ts:List Tk) (j:Nat),Bx dH ops j l ts=true->∀p q op oq tp tq,p<q->l[p]? =some op->l[q]? =some oq->ts[p]? =some tp->ts[q]? =some tq->He dH ops (j+p) op tp (j+q) oq tq=true:=by
 intro l
 induction l with
 |nil=>intro ts j _ p q op oq tp tq _ h;simp at h
 |cons o l ih=>
  intro ts j h p q op oq tp tq fi h1 h2 h3 h4
  cases ts with
  |nil=>simp at h3
  |cons t ts=>
   unfold Bx at h
   simp only[cj]at h
   cases q with
   |zero=>omega
   |succ q=>
    cases p with
    |zero=>
     simp at h1 h3;subst h1 h3
     have:=agn l ts (j+1) h.1 q oq tq (by simpa using h2) (by simpa using h4)
     rw[show j+(q+1)=j+1+q by omega,kQ]
     exact this
    |succ p=>
     have:=ih ts (j+1) h.2 p q op oq tp tq (by omega) (by simpa using h1) (by simpa using h2) (by simpa using h3) (by simpa using h4)
     rw[show j+(q+1)=j+1+q by omega,show j+(p+1)=j+1+p by omega]
     exact this
theorem agp{i j:Nat}(h:fits i j=false):i≠0∧j≠0:=by
 unfold fits at h
 simp only[Bool.or_eq_false_iff,beq_eq_false_iff_ne]at h
 exact⟨h.1.1.1.1,h.1.1.1.2⟩
theorem agq{ops:Array Oper}{kH ts:List Tk}{n m:Nat}(x:rz n ops.toList ts m)(hm:Match ops.toList kH ts)(h:Bx (od ops.toList []) ops 0 ops.toList kH=true):sN ops (od ops.toList []) (tagged 0 ts)=true:=by
 refine Te ops.toList ts n m 0 x (Tf ops) fun p q op oq tp tq fi h1 h2 h3 h4=> ?_
 obtain⟨tp',g1,g2⟩:=hm.get p op tp h1 h3
 obtain⟨tq',g3,g4⟩:=hm.get q oq tq h2 h4
 have:=ago _ _ 0 h p q op oq tp' tq' fi h1 h2 g1 g3
 unfold He at this
 simp only[pY,cj,FJ]at this
 rcases this with g|⟨gs,g⟩
 ·exact .inl g
 ·refine .inr ⟨?_,gs⟩
  cases hf:fits (kind op.op) (kind oq.op)with
  |true=>exact .inl rfl
  |false=>
   rw[hf]at g
   obtain⟨z1,z2⟩:=agp hf
   rcases g2 with g2|g2
   ·exact absurd g2 z1
   ·rcases g4 with g4|g4
    ·exact absurd g4 z2
    ·subst g2 g4
     exact .inr (by rw[<-Br];simpa using g)
section
variable {P:Program} {kn:List FuncId} {rec:FuncId->Array Value->M Value} (cV:∀f args h n v h1 n1 L,rec f args h n=some ⟨v,h1,n1,L⟩->fj (fun fuel=>cZ P kn fuel f args) h n v h1 n1 L)
include cV
theorem agr{β:Type}{nt:Nat}{ops:Array Oper}:∀(l:List Oper) (_:∀o∈l,∀d,o.dst=some d->d<nt∧d<1023) (i:Nat) (_:∀q o,l[q]? =some o->ops[i+q]? =some o) (dE:List Nat) (s:Fr) (s1:S) (_:Idle ops s1 dE) (acc:List Tk) (k:Fr->List Tk->M β) (h:H) (n:Nat) (r:Out β),Sub s s1->lV P rec ops l i dE s acc k h n=some r->
 ∃s' y ts h1 n1 L1 L2,fj (fun fuel=>kp P (cZ P kn fuel) nt ops l s1) h n y h1 n1 L1∧Sub s' y.1∧k s' (acc.reverse++ts) h1 n1=some ⟨r.val,r.h,r.n,L2⟩∧r.log=L1++L2∧Match l ts y.2:=by
 intro l
 induction l with
 |nil=>
  intro _ i _ dE s s1 _ acc k h n r hs hr
  exact⟨s,(s1,[]),[],h,n,[],r.log,fj.of rfl,hs,by rw[cu];exact hr,rfl,trivial⟩
 |cons o l ih=>
  intro hd i wE dE s s1 wF acc k h n r hs hr
  have BA:=hd o (by simp)
  have oG:∀o∈l,∀d,o.dst=some d->d<nt∧d<1023:=fun o' ho=>hd o' (by simp[ho])
  have MK:ops[i]? =some o:=by have:=wE 0 o rfl;rwa[kQ]at this
  have dX:∀q o',l[q]? =some o'->ops[i+1+q]? =some o':=fun q o' hq=>by
   have:=wE (q+1) o' (by simpa using hq)
   rwa[show i+1+q=i+(q+1) by omega]
  have go:∀(s:Fr),Sub s s1->iA o (jh ops s1)=true->
   (match kind o.op with
     |0=>mU P rec s o fun v=>lV P rec ops l (i+1) (gP ops o.dst dE) (jk s o.dst v) (⟨0,0,[]⟩::acc) k
     |_=>(aG (mU P rec s o M.ret)).bind fun x=>lV P rec ops l (i+1) (gP ops o.dst dE) (jk s o.dst x.1) (x.2::acc) k) h n=some r->
   ∃s' y ts h1 n1 L1 L2,fj (fun fuel=>kp P (cZ P kn fuel) nt ops (o::l) s1) h n y h1 n1 L1∧Sub s' y.1∧k s' (acc.reverse++ts) h1 n1=some ⟨r.val,r.h,r.n,L2⟩∧r.log=L1++L2∧Match (o::l) ts y.2:=by
   intro s hs hw hr
   by_cases hk:kind o.op=0
   ·simp only[hk]at hr
    obtain⟨v,h1,n1,L1,L2,e1,e2,e3⟩:=MH cV hw hs hr
    obtain⟨s2,hp,dN⟩:=hs.put BA v
    obtain⟨s',y,ts,h3,n3,L3,L4,e4,e5,e6,e7,e8⟩:=ih oG _ dX _ _ s2 (Idle.put cV wF hp) _ k h1 n1 _ dN e2
    refine⟨s',_,(⟨0,0,[]⟩:Tk)::ts,h3,n3,_,L4,DG cV e1 hp e4,e5, ?_,by rw[e3];simp only at e7;rw[e7,fA], ?_⟩
    ·rw[adj,fA]at e6
     exact e6
    ·exact⟨.inl hk,e8⟩
   ·have hr:((aG (mU P rec s o M.ret)).bind fun x=>lV P rec ops l (i+1) (gP ops o.dst dE) (jk s o.dst x.1) (x.2::acc) k) h n=some r:=by
     revert hr
     generalize kind o.op=kk at hk
     intro hr
     match kk,hk with
     |kk+1,_=>exact hr
    obtain⟨c,hc,nc,Lc⟩:=r
    obtain⟨x,h1,n1,L1,L2,e1,e2,e3⟩:=bind_some hr
    obtain⟨g1,g2⟩:=LB e1
    obtain⟨v,fS,qY,L1',L2',q1,q2,q3⟩:=MH cV hw hs g1
    obtain⟨rfl,rfl,rfl,rfl⟩:=Hj q2
    simp only[cu]at q3
    subst q3
    obtain⟨s2,hp,dN⟩:=hs.put BA x.1
    obtain⟨s',y,ts,h3,n3,L3,L4,e4,e5,e6,e7,e8⟩:=ih oG _ dX _ _ s2 (Idle.put cV wF hp) _ k _ _ _ dN e2
    refine⟨s',_,x.2::ts,h3,n3,_,L4,DG cV q1 hp e4,e5, ?_,by rw[e3];simp only at e7;rw[e7,fA], ?_⟩
    ·rw[adj,fA]at e6
     exact e6
    ·exact⟨.inr g2,e8⟩
  have idle:∀(s:Fr),Sub s s1->iA o (jh ops s1)=false->(Hd (kind o.op) fun tk=>lV P rec ops l (i+1) (i::gP ops o.dst dE) (jk s o.dst undef) (tk::acc) k) h n=some r->
   ∃s' y ts h1 n1 L1 L2,fj (fun fuel=>kp P (cZ P kn fuel) nt ops (o::l) s1) h n y h1 n1 L1∧Sub s' y.1∧k s' (acc.reverse++ts) h1 n1=some ⟨r.val,r.h,r.n,L2⟩∧r.log=L1++L2∧Match (o::l) ts y.2:=by
   intro s hs hw hr
   obtain⟨c,hc,nc,Lc⟩:=r
   have hr:∃tk,(kind o.op=0∨tk=⟨n,n,[]⟩)∧lV P rec ops l (i+1) (i::gP ops o.dst dE) (jk s o.dst undef) (tk::acc) k h n=some ⟨c,hc,nc,Lc⟩:=by
    revert hr
    generalize kind o.op=kk
    intro hr
    match kk,hr with
    |0,hr=>exact⟨_,.inl rfl,hr⟩
    |kk+1,hr=>
     have hr:((aG (M.ret undef)).bind fun x=>lV P rec ops l (i+1) (i::gP ops o.dst dE) (jk s o.dst undef) (x.2::acc) k) h n=some ⟨c,hc,nc,Lc⟩:=hr
     obtain⟨x,h1,n1,L1,L2,e1,e2,e3⟩:=bind_some hr
     obtain⟨g1,g2⟩:=LB e1
     obtain⟨-,rfl,rfl,rfl⟩:=Hj g1
     refine⟨x.2,.inr g2, ?_⟩
     simp only[uo]at e3
     rw[e3]
     exact e2
   obtain⟨tk,rI,hr⟩:=hr
   obtain⟨s2,hp,dN⟩:=hs.put BA undef
   obtain⟨s',y,ts,h3,n3,L3,L4,e4,e5,e6,e7,e8⟩:=ih oG _ dX _ _ s2 (Idle.add cV MK (Idle.put cV wF hp) hp) _ k _ _ _ dN hr
   refine⟨s',_,tk::ts,h3,n3,_,L4,DG cV (TH cV hw) hp e4,e5, ?_,by simp only at e7;rw[e7];simp, ?_⟩
   ·rw[adj,fA]at e6
    exact e6
   ·exact⟨rI,e8⟩
  unfold lV at hr
  cases hg:o.guard with
  |none=>
   rw[hg]at hr
   exact go s hs (by unfold iA;rw[hg]) hr
  |some jw=>
   obtain⟨j,want⟩:=jw
   rw[hg]at hr
   simp only at hr
   cases hI:yY j dE with
   |true=>
    rw[hI]at hr
    refine idle s hs ?_ hr
    unfold iA
    rw[hg]
    simp only
    rw[wF j (MJ cV hI)]
    rfl
   |false=>
   rw[hI]at hr
   simp only at hr
   cases ht:(ops[j]?).bind (·.dst)with
   |none=>rw[ht]at hr;cases hr
   |some t=>
    rw[ht]at hr
    simp only at hr
    obtain⟨g,y4,hr⟩:=c9 hr
    have jV:=hs t g y4
    have hy:∀b,g= .bool b->jh ops s1 j=some b:=fun b hb=>by
     unfold jh
     rw[ht]
     simp only[jV,hb]
    rcases MI cV hr with ⟨hb,hr⟩|⟨hb,hr⟩
    ·have dA:Sub ((t,.bool true)::s) s1:=hs.cons (by rw[jV,hb])
     cases want with
     |true=>exact go _ dA (by unfold iA;rw[hg];simp only;rw[hy _ hb];rfl) hr
     |false=>exact idle _ dA (by unfold iA;rw[hg];simp only;rw[hy _ hb];rfl) hr
    ·have dA:Sub ((t,.bool false)::s) s1:=hs.cons (by rw[jV,hb])
     cases want with
     |true=>exact idle _ dA (by unfold iA;rw[hg];simp only;rw[hy _ hb];rfl) hr
     |false=>exact go _ dA (by unfold iA;rw[hg];simp only;rw[hy _ hb];rfl) hr
theorem ags{β:Type}{nt:Nat}{ops:Array Oper}{draw:Bool}(hd:∀o∈ops.toList,∀d,o.dst=some d->d<nt∧d<1023){s:Fr}{s1:S}{k:Fr->M β}{h:H}{n:Nat}{r:Out β}(hs:Sub s s1)(hr:MD P rec ops draw s k h n=some r):
 ∃s' s2 h1 n1 L1 L2,fj (fun fuel=>sO P (cZ P kn fuel) nt ops draw s1) h n s2 h1 n1 L1∧Sub s' s2∧k s' h1 n1=some ⟨r.val,r.h,r.n,L2⟩∧r.log=L1++L2:=by
 have fin:∀{y:S×List Tk} {h1:H} {n1:Nat} {L1:List En},fj (fun fuel=>kp P (cZ P kn fuel) nt ops ops.toList s1) h n y h1 n1 L1->(rz n ops.toList y.2 n1->(!draw||(vP ops&&sN ops (od ops.toList []) (tagged 0 y.2)))=true)->fj (fun fuel=>sO P (cZ P kn fuel) nt ops draw s1) h n y.1 h1 n1 L1:=by
  intro y h1 n1 L1 e1 hc
  have hc:=hc (by
   obtain⟨f0,e⟩:=e1
   exact afo (fun f a=>Loc.cZ P kn f0 f a) _ _ _ _ _ _ _ _ (e f0 (an _)))
  obtain⟨f0,e⟩:=e1
  refine⟨f0,fun fuel hf=> ?_⟩
  show sO P (cZ P kn fuel) nt ops draw s1 h n=_
  unfold sO
  have:=bZ (f:=fun y:S×List Tk=>if(!draw||(vP ops&&sN ops (od ops.toList []) (tagged 0 y.2)))=true then M.ret y.1 else .fail) (e fuel hf) (L2:=[]) (b:=y.1) (h2:=h1) (n2:=n1) (by rw[if_pos hc];rfl)
  rw[cu]at this
  exact this
 unfold MD at hr
 cases dT:(!draw||Gx ops)with
 |true=>
  simp only[dT]at hr
  obtain⟨s',y,h1,n1,L1,L2,e1,e2,e3,e4⟩:=agm cV ops.toList hd 0 (fun q o hq=>by rw[fB,<-Kf];exact hq) [] s s1 (fun j hj=>by cases hj) k h n r hs hr
  refine⟨s',y.1,h1,n1,L1,L2,fin e1 fun x=> ?_,e2,e3,e4⟩
  simp only[pY,FJ]at dT
  rcases dT with g|g
  ·rw[g];rfl
  ·obtain⟨g1,g2⟩:=afs x g
   rw[g1,g2];simp
 |false=>
  simp only[dT]at hr
  cases he:vP ops with
  |false=>simp only[he]at hr;cases hr
  |true=>
   simp only[he]at hr
   obtain⟨s',y,ts,h1,n1,L1,L2,e1,e2,e3,e4,e5⟩:=agr cV ops.toList hd 0 (fun q o hq=>by rw[fB,<-Kf];exact hq) [] s s1 (fun j hj=>by cases hj) [] _ h n r hs hr
   simp only[List.reverse_nil,uo]at e3
   cases hc:Bx (od ops.toList []) ops 0 ops.toList ts with
   |false=>rw[hc]at e3;cases e3
   |true=>
    rw[hc]at e3
    exact⟨s',y.1,h1,n1,L1,L2,fin e1 fun x=>by rw[he,agq x e5 hc];simp,e2,e3,e4⟩
def agt(kn:List FuncId)(P:Program)(nt:Nat)(c:Code)(s1:S)(h:H)(n:Nat)(x:Ex×S)(h1:H)(n1:Nat)(L:List En):Prop:=∃f0,∀fr,f0<=fr->∀f,f0<=f->eQ P (cZ P kn fr) nt f c s1 h n=some ⟨x,h1,n1,L⟩
def ML(kn:List FuncId)(P:Program)(nt:Nat)(c:Code)(s1:S){β:Type}(k:Ex->Fr->M β)(h:H)(n:Nat)(r:Out β):Prop:=
 ∃e s' s2 h1 n1 L1 L2,agt kn P nt c s1 h n (e,s2) h1 n1 L1∧Sub s' s2∧k e s' h1 n1=some ⟨r.val,r.h,r.n,L2⟩∧r.log=L1++L2
theorem agu{β:Type}{nt:Nat}{G:Hint}{lf:Nat}:∀(c:Code) (_:oF nt c=true) (s:Fr) (s1:S) (k:Ex->Fr->M β) (h:H) (n:Nat) (r:Out β),Sub s s1->jG P rec G lf c s k h n=some r->ML kn P nt c s1 k h n r:=by
 intro c
 induction c with
 |skip=>intro _ s s1 k h n r hs hr;exact⟨.normal,s,s1,h,n,[],r.log,⟨1,fun fr _ f hf=>by match f,hf with|f+1,_=>rfl⟩,hs,hr,rfl⟩
 |label l=>intro _ s s1 k h n r hs hr;exact⟨.normal,s,s1,h,n,[],r.log,⟨1,fun fr _ f hf=>by match f,hf with|f+1,_=>rfl⟩,hs,hr,rfl⟩
 |region id ops draw=>
  intro hd s s1 k h n r hs hr
  unfold oF at hd
  rw[xW]at hd
  obtain⟨s',s2,h1,n1,L1,L2,⟨f0,e1⟩,e2,e3,e4⟩:=ags cV (fun o ho d hod=>by
   have:=hd o (by simpa using ho)
   rw[hod]at this
   simpa using this) hs hr
  refine⟨.normal,s'.aB G.1,s2,h1,n1,L1,L2,⟨f0+1,fun fr ij f hf=> ?_⟩,e2.aB G.1,e3,e4⟩
  match f,hf with
  |f+1,_=>
   unfold eQ
   have:=bZ (f:=fun s1=>M.ret (Ex.normal,s1)) (e1 fr (by omega)) (L2:=[]) (h2:=h1) (n2:=n1) (b:=(Ex.normal,s2)) rfl
   rw[cu]at this
   exact this
 |seq a b MM MN=>
  intro hd s s1 k h n r hs hr
  unfold oF at hd
  simp only[cj]at hd
  obtain⟨e,s',s2,h1,n1,L1,L2,⟨f0,d1⟩,d2,d3,d4⟩:=MM hd.1 s s1 _ h n r hs hr
  cases e with
  |normal=>
   obtain⟨e,s3,s4,h3,n3,L3,L4,⟨f1,q1⟩,q2,q3,q4⟩:=MN hd.2 s' s2 k h1 n1 _ d2 d3
   refine⟨e,s3,s4,h3,n3,L1++L3,L4,⟨max f0 f1+1,fun fr ij f hf=> ?_⟩,q2,q3,by rw[d4];simp only at q4;rw[q4,fA]⟩
   match f,hf with
   |f+1,_=>
    unfold eQ
    exact bZ (d1 fr (by omega) f (by omega)) (q1 fr (by omega) f (by omega))
  |ret=>
   refine⟨.ret,s',s2,h1,n1,L1,L2,⟨f0+1,fun fr ij f hf=> ?_⟩,d2,d3,d4⟩
   match f,hf with
   |f+1,_=>
    unfold eQ
    rw[<-cu L1]
    exact bZ (d1 fr (by omega) f (by omega)) rfl
  |exit i=>
   refine⟨.exit i,s',s2,h1,n1,L1,L2,⟨f0+1,fun fr ij f hf=> ?_⟩,d2,d3,d4⟩
   match f,hf with
   |f+1,_=>
    unfold eQ
    rw[<-cu L1]
    exact bZ (d1 fr (by omega) f (by omega)) rfl
 |cond c a b MM MN=>
  intro hd s s1 k h n r hs hr
  unfold oF at hd
  simp only[cj]at hd
  obtain⟨v,hv,hr⟩:=c9 hr
  have hc:=hs.bI hv
  rcases MI cV hr with ⟨rfl,hr⟩|⟨rfl,hr⟩
  ·obtain⟨e,s',s2,h1,n1,L1,L2,⟨f0,d1⟩,d2,d3,d4⟩:=MM hd.1 s s1 k h n r hs hr
   refine⟨e,s',s2,h1,n1,L1,L2,⟨f0+1,fun fr ij f hf=> ?_⟩,d2,d3,d4⟩
   match f,hf with
   |f+1,_=>
    unfold eQ
    simp only[hc,if_true]
    exact d1 fr (by omega) f (by omega)
  ·obtain⟨e,s',s2,h1,n1,L1,L2,⟨f0,d1⟩,d2,d3,d4⟩:=MN hd.2 s s1 k h n r hs hr
   refine⟨e,s',s2,h1,n1,L1,L2,⟨f0+1,fun fr ij f hf=> ?_⟩,d2,d3,d4⟩
   match f,hf with
   |f+1,_=>
    unfold eQ
    simp only[hc,sE,if_false]
    exact d1 fr (by omega) f (by omega)
 |block id c ih=>
  intro hd s s1 k h n r hs hr
  unfold oF at hd
  obtain⟨e,s',s2,h1,n1,L1,L2,⟨f0,d1⟩,d2,d3,d4⟩:=ih hd s s1 _ h n r hs hr
  have fin:∀e':Ex,(∀fr,f0<=fr->∀f,f0<=f->eQ P (cZ P kn fr) nt (f+1) (.block id c) s1 h n=some ⟨(e',s2),h1,n1,L1⟩)->k e' s' h1 n1=some ⟨r.val,r.h,r.n,L2⟩->ML kn P nt (.block id c) s1 k h n r:=by
   intro e' kq hk
   refine⟨e',s',s2,h1,n1,L1,L2,⟨f0+1,fun fr ij f hf=> ?_⟩,d2,hk,d4⟩
   match f,hf with
   |f+1,_=>exact kq fr (by omega) f (by omega)
  cases e with
  |normal=>exact fin .normal (fun fr ij f hf=>by unfold eQ;rw[<-cu L1];exact bZ (d1 fr ij f hf) rfl) d3
  |ret=>exact fin .ret (fun fr ij f hf=>by unfold eQ;rw[<-cu L1];exact bZ (d1 fr ij f hf) rfl) d3
  |exit i=>
   cases hi:cz i id with
   |true=>
    have y5:i=id:=m7 hi
    simp only[Hg,hi]at d3
    exact fin .normal (fun fr ij f hf=>by unfold eQ;rw[<-cu L1];exact bZ (d1 fr ij f hf) (by simp only[if_pos y5];rfl)) d3
   |false=>
    have y5:¬i=id:=by rintro rfl;rw[CT]at hi;cases hi
    simp only[Hg,hi]at d3
    exact fin (.exit i) (fun fr ij f hf=>by unfold eQ;rw[<-cu L1];exact bZ (d1 fr ij f hf) (by simp only[if_neg y5];rfl)) d3
 |loop c ih=>
  intro hd s s1 k h n r hs hr
  have mj:oF nt c=true:=by unfold oF at hd;exact hd
  have key:∀(Hk:Nat) (keys:List Nat) (s:Fr) (s1:S) (h:H) (n:Nat) (r:Out β),Sub s s1->bH (fun s1 k1=>jG P rec G lf c s1 k1) keys Hk s k h n=some r->ML kn P nt (.loop c) s1 k h n r:=by
   intro Hk
   induction Hk with
   |zero=>intro keys s s1 h n r _ hr;cases hr
   |succ Hk Dw=>
    intro keys s s1 h n r hs hr
    unfold bH at hr
    obtain⟨e,s',s2,h1,n1,L1,L2,⟨f0,d1⟩,d2,d3,d4⟩:=ih mj s s1 _ h n r hs hr
    cases e with
    |normal=>
     obtain⟨e,s3,s4,h3,n3,L3,L4,⟨f1,q1⟩,q2,q3,q4⟩:=Dw keys _ s2 h1 n1 _ (d2.aB keys) d3
     refine⟨e,s3,s4,h3,n3,L1++L3,L4,⟨max f0 f1+1,fun fr ij f hf=> ?_⟩,q2,q3,by rw[d4];simp only at q4;rw[q4,fA]⟩
     match f,hf with
     |f+1,_=>
      unfold eQ
      exact bZ (d1 fr (by omega) f (by omega)) (q1 fr (by omega) f (by omega))
    |ret=>
     refine⟨.ret,s',s2,h1,n1,L1,L2,⟨f0+1,fun fr ij f hf=> ?_⟩,d2,d3,d4⟩
     match f,hf with
     |f+1,_=>
      unfold eQ
      rw[<-cu L1]
      exact bZ (d1 fr (by omega) f (by omega)) rfl
    |exit i=>
     refine⟨.exit i,s',s2,h1,n1,L1,L2,⟨f0+1,fun fr ij f hf=> ?_⟩,d2,d3,d4⟩
     match f,hf with
     |f+1,_=>
      unfold eQ
      rw[<-cu L1]
      exact bZ (d1 fr (by omega) f (by omega)) rfl
  exact key lf s.keys s s1 h n r hs hr
 |exit id=>intro _ s s1 k h n r hs hr;exact⟨.exit id,_,s1,h,n,[],r.log,⟨1,fun fr _ f hf=>by match f,hf with|f+1,_=>rfl⟩,hs.out G id,hr,rfl⟩
 |ret=>intro _ s s1 k h n r hs hr;exact⟨.ret,_,s1,h,n,[],r.log,⟨1,fun fr _ f hf=>by match f,hf with|f+1,_=>rfl⟩,hs.aB _,hr,rfl⟩
 |rangeFunc _ _ _ _=>intro _ s s1 k h n r hs hr;cases hr
 |scope _=>intro _ s s1 k h n r hs hr;cases hr
 |goto _=>intro _ s s1 k h n r hs hr;cases hr
 |refuse _=>intro _ s s1 k h n r hs hr;cases hr
end
theorem agv{P:Program}{s:Fr}{s1:S}(hs:Sub s s1):∀(l:List ResultVar) (k:List Value->M Value) (h:H) (n:Nat) (r:Out Value),Bz P s l k h n=some r->∃vs h1 n1 L1 L2,kW P s1 l h n=some ⟨vs,h1,n1,L1⟩∧k vs h1 n1=some ⟨r.val,r.h,r.n,L2⟩∧r.log=L1++L2:=by
 intro l
 induction l with
 |nil=>intro k h n r hr;exact⟨[],h,n,[],r.log,rfl,hr,rfl⟩
 |cons x l ih=>
  intro k h n r hr
  cases x with
  |tmp t=>
   obtain⟨v,hv,hr⟩:=c9 hr
   obtain⟨vs,h1,n1,L1,L2,e1,e2,e3⟩:=ih _ h n r hr
   refine⟨v::vs,h1,n1,L1,L2, ?_,e2,e3⟩
   unfold kW
   rw[hs t v hv,<-cu L1]
   exact bZ e1 rfl
  |cell a t=>
   obtain⟨v,hv,hr⟩:=c9 hr
   obtain⟨c,hc,nc,Lc⟩:=r
   obtain⟨u,h1,n1,L1,L2,e1,e2,e3⟩:=bind_some (TA hr)
   obtain⟨L',e7,e8⟩:=yM e1
   obtain⟨rfl,_⟩:=Q1.load P t v _ _ _ _ _ _ e7
   rw[List.filter_eq_self.2 (fun x _=>by simp;omega)]at e8
   subst e8
   have e1:=e7
   obtain⟨vs,h3,n3,L3,L4,e4,e5,e6⟩:=ih _ h1 n1 _ e2
   refine⟨u::vs,h3,n3,L1++L3,L4, ?_,e5,by rw[e3];simp only at e6;rw[e6,fA]⟩
   unfold kW
   rw[hs a v hv]
   refine bZ e1 ?_
   rw[<-cu L3]
   exact bZ e4 rfl
theorem agw:∀(l:List Value) (i:Nat) (s:S),i+l.length<1023->Sub (Hi i l) (vR i l s):=by
 intro l
 induction l with
 |nil=>intro i s _;exact Sub.nil _
 |cons v l ih=>
  intro i s h
  simp only[dp]at h
  show Sub ((i,v)::Hi (i+1) l) (vR (i+1) l (s.put i v))
  refine(ih (i+1) (s.put i v) (by omega)).cons ?_
  rw[SE _ _ _ _ (by omega),if_neg (by omega),S.sR _ _ _ _ (by omega),if_pos rfl]
theorem DH{P:Program}{kn:List FuncId}(hd:lW P=true){gt:Nat->Hint}{lf:Nat}:∀(d:Nat) (f:FuncId) (args:Array Value) (h:H) (n:Nat) (v:Value) (h1:H) (n1:Nat) (L:List En),ik kn P gt lf d f args h n=some ⟨v,h1,n1,L⟩->fj (fun fuel=>cZ P kn fuel f args) h n v h1 n1 L:=by
 intro d
 induction d with
 |zero=>intro f args h n v h1 n1 L hr;cases hr
 |succ d ih=>
  intro f args h n v h1 n1 L hr
  unfold ik at hr
  cases lB:kn.contains f with
  |true=>
   rw[lB]at hr
   simp only at hr
   cases uM:vS f with
   |some k=>
    rw[uM]at hr
    refine⟨1,fun fuel hf=> ?_⟩
    match fuel,hf with
    |fuel+1,hf=>
     show cZ P kn (fuel+1) f args h n=_
     unfold cZ
     rw[if_pos lB,uM]
     exact hr
   |none=>
   rw[uM]at hr
   simp only at hr
   cases hz:(decide (args.size=0)&&uA P f)with
   |false=>rw[hz]at hr;cases hr
   |true=>
    rw[hz]at hr
    refine⟨1,fun fuel hf=> ?_⟩
    match fuel,hf with
    |fuel+1,hf=>
     show cZ P kn (fuel+1) f args h n=_
     unfold cZ
     rw[if_pos lB,uM]
     show(if(decide (args.size=0)&&uA P f)=true then _ else _:M Value) h n=_
     rw[if_pos hz]
     exact hr
  |false=>
  rw[lB]at hr
  simp only at hr
  unfold aE at hr
  cases oC:P.funcs[f]? with
  |none=>rw[oC]at hr;cases hr
  |some fn=>
   rw[oC]at hr
   simp only at hr
   cases hc:fn.body with
   |none=>rw[hc]at hr;cases hr
   |some c=>
    rw[hc]at hr
    simp only at hr
    cases ld:(decide (args.size<=fn.ntmps)&&decide (fn.ntmps<1000))with
    |false=>rw[ld]at hr;cases hr
    |true=>
     rw[ld]at hr
     simp only at hr
     have agx:=ld
     simp only[cj,decide_eq_true_eq]at ld
     obtain⟨L',hr,hL⟩:=yM hr
     have hdc:oF fn.ntmps c=true:=by
      unfold lW at hd
      rw[xW]at hd
      have:=hd fn (Array.mem_of_getElem? oC)
      rw[hc]at this
      exact this
     obtain⟨e,s',s2,h2,n2,L1,L2,⟨f0,d1⟩,d2,d3,d4⟩:=agu ih c hdc _ (vR 0 args.toList .nil) _ h n _ (agw _ 0 _ (by simp;omega)) hr
     have fin:∀(hn:e= .normal∨e= .ret),Bz P s' fn.results.toList aj h2 n2=some ⟨v,h1,n1,L2⟩->fj (fun fuel=>cZ P kn fuel f args) h n v h1 n1 L:=by
      intro hn Lx
      obtain⟨vs,h3,n3,L3,L4,r1,r2,r3⟩:=agv d2 _ _ _ _ _ Lx
      simp only at r2 r3
      unfold aj at r2
      obtain⟨rfl,rfl,rfl,rfl⟩:=Hj r2
      rw[cu]at r3
      subst r3
      simp only at d4
      refine⟨f0+1,fun fuel hf=> ?_⟩
      match fuel,hf with
      |fuel+1,hf=>
       show cZ P kn (fuel+1) f args h n=_
       unfold cZ
       rw[if_neg (by rw[lB];simp)]
       simp only[oC,hc]
       rw[if_pos agx]
       rw[hL,d4]
       refine jU (bZ (d1 fuel (by omega) fuel (by omega)) ?_)
       rcases hn with rfl|rfl
       ·show((kW P s2 fn.results.toList).bind _) h2 n2=_
        rw[<-cu L2]
        exact bZ r1 rfl
       ·show((kW P s2 fn.results.toList).bind _) h2 n2=_
        rw[<-cu L2]
        exact bZ r1 rfl
     cases e with
     |normal=>exact fin (.inl rfl) d3
     |ret=>exact fin (.inr rfl) d3
     |exit i=>cases d3
theorem Hl{P:Program}(hd:lW P=true){gt:Nat->Hint}{lf:Nat}(d:Nat)(f:FuncId)(args:Array Value)(h:H)(n:Nat)(v:Value)(h1:H)(n1:Nat)(L:List En)(e:au P gt lf d f args h n=some ⟨v,h1,n1,L⟩):fj (fun fuel=>cZ P KN fuel f args) h n v h1 n1 L:=DH hd d f args h n v h1 n1 L e
def ai{α:Type}(W:Nat->Prop)(n0:Nat)(m:M α)(h:H)(n:Nat)(Q:α->H->Nat->Prop):Prop:=
 ∃a h1 n1 L,m h n=some ⟨a,h1,n1,L⟩∧n<=n1∧(∀e∈L,e.wr=true->n0<=e.b∨W e.b)∧Q a h1 n1
theorem ai.mono{α:Type}{W:Nat->Prop}{n0:Nat}{m:M α}{h:H}{n:Nat}{Q Q':α->H->Nat->Prop}(x:ai W n0 m h n Q)(hq:∀a h1 n1,n<=n1->Q a h1 n1->Q' a h1 n1):ai W n0 m h n Q':=by
 obtain⟨a,h1,n1,L,e1,e2,e3,e4⟩:=x
 exact⟨a,h1,n1,L,e1,e2,e3,hq _ _ _ e2 e4⟩
section
variable {α β:Type} {W:Nat->Prop} {n0:Nat} {m:M α} {k:α->M β} {h h1:H} {n n1:Nat} {a:α} {L:List En} {Q:β->H->Nat->Prop}
theorem ai.step(e:m h n=some ⟨a,h1,n1,L⟩)(hn:n<=n1)(hw:∀e∈L,e.wr=true->n0<=e.b∨W e.b)(x:ai W n0 (k a) h1 n1 Q):ai W n0 (m.bind k) h n Q:=by
 obtain⟨b,h2,n2,L2,e1,e2,e3,e4⟩:=x
 refine⟨b,h2,n2,L++L2,bZ e e1,by omega,fun x hx=> ?_,e4⟩
 rcases Ko.1 hx with q|q
 ·exact hw x q
 ·exact e3 x q
theorem ai.TI(e:m h n=some ⟨a,h1,n1,L⟩)(hn:n1=n)(x:ai W n0 (m.bind k) h n Q):ai W n0 (k a) h1 n1 Q:=by
 obtain⟨b,h2,n2,L2,e1,e2,e3,e4⟩:=x
 obtain⟨a',h3,n3,L3,L4,e5,e6,rfl⟩:=bind_some e1
 rw[e]at e5
 simp only[eG,Out.mk.injEq]at e5
 obtain⟨rfl,rfl,rfl,rfl⟩:=e5
 exact⟨b,h2,n2,L4,e6,by omega,fun x hx=>e3 x (Ko.2 (.inr hx)),e4⟩
theorem ai.iff(e:m h n=some ⟨a,h1,n,L⟩)(hw:∀e∈L,e.wr=true->n0<=e.b∨W e.b):ai W n0 (m.bind k) h n Q↔ai W n0 (k a) h1 n Q:=
 ⟨ai.TI e rfl,ai.step e (an _) hw⟩
theorem ai.aH{Q':α->H->Nat->Prop}(x:ai W n0 m h n Q'):ai W n0 (inside m) h n Q':=by
 obtain⟨a,h1,n1,L,e1,e2,e3,e4⟩:=x
 exact⟨a,h1,n1,_,jU e1,e2,fun e he=>e3 e (List.mem_filter.1 he).1,e4⟩
end
section
variable {β:Type} {W:Nat->Prop} {n0:Nat} {h h1:H} {n n1:Nat} {Q:β->H->Nat->Prop} {QV:Value->H->Nat->Prop}
theorem qy(a:β):ai W n0 (M.ret a) h n Q↔Q a h n:=by
 constructor
 ·rintro⟨b,h2,n2,L,e1,e2,e3,e4⟩
  obtain⟨rfl,rfl,rfl,rfl⟩:=Hj e1
  exact e4
 ·intro x
  exact⟨a,h,n,[],rfl,an _,fun e he=>(nomatch he),x⟩
theorem TJ:ai W n0 (aj []) h n QV↔QV (.tuple #[]) h n:=qy _
theorem lX(v:Value):ai W n0 (aj [v]) h n QV↔QV v h n:=qy _
theorem TK(v w:Value):ai W n0 (aj [v,w]) h n QV↔QV (.tuple #[v,w]) h n:=qy _
theorem TL(v w u:Value):ai W n0 (aj [v,w,u]) h n QV↔QV (.tuple #[v,w,u]) h n:=qy _
theorem wG{α:Type}(a:α)(k:α->M β):bh (some a) k=k a:=rfl
theorem TM(b:Bool)(x y:M β):ai W n0 (ak (.bool b) x y) h n Q↔if b=true then ai W n0 x h n Q else ai W n0 y h n Q:=by
 cases b
 ·rw[if_neg ard];exact Iff.rfl
 ·rw[if_pos rfl];exact Iff.rfl
theorem TN(x y:M β):ak (.bool true) x y=x:=rfl
theorem TO(x y:M β):ak (.bool false) x y=y:=rfl
section
variable {β:Type} (k:Value->M β)
theorem TP(a:Addr):az (.pointer (some a)) k=k (.pointer (some a)):=rfl
theorem TQ(f:FuncId)(a b:Array Value):az (.func (.func f) a b) k=k (.func (.func f) a b):=rfl
theorem uY(f:IntKind->Int->Int->Value)(j:IntKind)(a b:Int):mT f (.int j a) (.int j b) k=k (f j a b):=by
 unfold mT
 simp only[GJ]
theorem TR(j:IntKind)(a b:Int):aA (.int j a) (.int j b) k=k (.int j (j.wrap (a+b))):=by
 show mT (fun k a b=> .int k (rA k (GB a b))) (.int j a) (.int j b) k=_
 rw[uY,mR,Tg]
theorem TS(j:IntKind)(a b:Int):cW (.int j a) (.int j b) k=k (.int j (j.wrap (a-b))):=by
 unfold cW
 rw[uY,mR,GD]
theorem TU(j:IntKind)(a b:Int):fo (.int j a) (.int j b) k=k (.int j (j.wrap (a*b))):=by
 unfold fo
 rw[uY,mR,Th]
theorem TV(j:IntKind)(a b:Int):aW (.int j a) (.int j b) k=k (.bool (a==b)):=by
 show mT (fun _ a b=> .bool (sX a b)) (.int j a) (.int j b) k=_
 rw[uY,wx]
theorem TW(j:IntKind)(a b:Int):bz (.int j a) (.int j b) k=k (.bool (a !=b)):=by
 show mT (fun _ a b=> .bool (!sX a b)) (.int j a) (.int j b) k=_
 rw[uY,wx];rfl
theorem TX(j:IntKind)(a b:Int):bp (.int j a) (.int j b) k=k (.bool (decide (a<b))):=by
 unfold bp
 rw[uY,sY]
theorem TY(j:IntKind)(a b:Int):nC (.int j a) (.int j b) k=k (.bool (decide (a<=b))):=by
 unfold nC
 rw[uY,GG]
theorem TZ(j:IntKind)(a b:Int):dJ (.int j a) (.int j b) k=k (.bool (decide (b<a))):=by
 unfold dJ
 rw[uY,sY]
theorem T7(j:IntKind)(a b:Int):gV (.int j a) (.int j b) k=k (.bool (decide (b<=a))):=by
 unfold gV
 rw[uY,GG]
theorem T8(j:IntKind)(a b:Int)(h0:b≠0):lT (.int j a) (.int j b) k=k (.int j (j.wrap (a.tdiv b))):=by
 unfold lT
 simp only[GJ,wx,beq_eq_false_iff_ne.2 h0,mR]
theorem Ua(j:IntKind)(a b:Int)(h0:b≠0):rF (.int j a) (.int j b) k=k (.int j (a.tmod b)):=by
 unfold rF
 simp only[GJ,wx,beq_eq_false_iff_ne.2 h0]
theorem MO{f:Nat->Nat->Nat}{g:(w:Nat)->BitVec w->BitVec w->BitVec w}(hg:∀w x y,(g w x y).toNat=f x.toNat y.toNat)(j:IntKind)(a b:Int)(ha:0<=a)(hb:0<=b):yU f (.int j a) (.int j b) k=k (.int j (j.wrap (g j.bits (cC j.bits a) (cC j.bits b)).toNat)):=by
 obtain⟨p,rfl⟩:∃p:Nat,a=jg p:=⟨a.toNat,(qS ha).symm⟩
 obtain⟨q,rfl⟩:∃q:Nat,b=jg q:=⟨b.toNat,(qS hb).symm⟩
 unfold yU
 simp only[GJ,mR,hg,(wD p q).1,(wD p q).2]
 rfl
theorem Ub(j:IntKind)(a b:Int)(ha:0<=a)(hb:0<=b):DA (.int j a) (.int j b) k=k (.int j (j.wrap (cC j.bits a&&&cC j.bits b).toNat)):=MO k (g:=fun _ x y=>x&&&y) (fun _ _ _=>RC ..) j a b ha hb
theorem Uc(j:IntKind)(a b:Int)(ha:0<=a)(hb:0<=b):DB (.int j a) (.int j b) k=k (.int j (j.wrap (cC j.bits a|||cC j.bits b).toNat)):=MO k (g:=fun _ x y=>x|||y) (fun _ _ _=>arp ..) j a b ha hb
theorem Ud(j:IntKind)(a b:Int)(ha:0<=a)(hb:0<=b):rE (.int j a) (.int j b) k=k (.int j (j.wrap (cC j.bits a^^^cC j.bits b).toNat)):=MO k (g:=fun _ x y=>x^^^y) (fun _ _ _=>arq ..) j a b ha hb
theorem Ue(j j':IntKind)(a b:Int)(ha:0<=a)(hb:0<=b):pA (.int j a) (.int j' b) k=k (.int j (j.wrap (a*2^(min b.toNat j.bits)))):=by
 obtain⟨p,rfl⟩:∃p:Nat,a=jg p:=⟨a.toNat,(qS ha).symm⟩
 obtain⟨q,rfl⟩:∃q:Nat,b=jg q:=⟨b.toNat,(qS hb).symm⟩
 unfold pA
 simp only[mR]
 congr 3
theorem Uf(j j':IntKind)(a b:Int)(ha:0<=a)(hb:0<=b):tf (.int j a) (.int j' b) k=k (.int j (a.fdiv (2^(min b.toNat j.bits)))):=by
 obtain⟨p,rfl⟩:∃p:Nat,a=jg p:=⟨a.toNat,(qS ha).symm⟩
 obtain⟨q,rfl⟩:∃q:Nat,b=jg q:=⟨b.toNat,(qS hb).symm⟩
 unfold tf
 simp only
 congr 2
 show((p/2^(min q j.bits):Nat):Int)=((p:Nat):Int).fdiv (2^min q j.bits)
 have e2:(2:Int)^(min q j.bits)=((2^(min q j.bits):Nat):Int):=by simp
 rw[e2,ars _ (p9 _),<-art]
theorem y6(a b:List UInt8)(h:a.length+b.length<=9223372036854775807):aA (.string ⟨a.toArray⟩) (.string ⟨b.toArray⟩) k=k (.string ⟨(a++b).toArray⟩):=by
 unfold aA
 simp only[sZ]
 rw[show bK (iO a.length b.length) 9223372036854775807=true from nZ h]
 simp only[LD]
theorem Hm(a b:List UInt8):aW (.string ⟨a.toArray⟩) (.string ⟨b.toArray⟩) k=k (.bool (decide (a=b))):=by
 unfold aW
 simp only[GH]
theorem MP(a b:List UInt8):bz (.string ⟨a.toArray⟩) (.string ⟨b.toArray⟩) k=k (.bool (!decide (a=b))):=by
 unfold bz
 simp only[GH]
theorem Ug(a b:Bool):LU (.bool a) (.bool b) k=k (.bool (a==b)):=by cases a<;>cases b<;>rfl
theorem Uh(a b:Bool):GV (.bool a) (.bool b) k=k (.bool (a !=b)):=by cases a<;>cases b<;>rfl
theorem MQ(b:Bool):hX (.bool b) k=k (.bool (!b)):=rfl
theorem Ui(j:IntKind)(a:Int):G2 (.int j a) k=k (.int j (j.wrap (0-a))):=by
 unfold G2
 simp only[mR,GD]
theorem Uj(kd j:IntKind)(a:Int):dY kd (.int j a) k=k (.int kd (kd.wrap a)):=by
 unfold dY
 simp only[mR]
theorem Uk(s:ByteArray):Tu (.string s) k=k (.string s):=rfl
theorem Ul(a:Option Addr)(n c:Nat):bO (.slice a n c) k=k (.int .i64 (n:Int)):=rfl
theorem y8(l:List UInt8):bP (.string ⟨l.toArray⟩) k=k (.int .i64 (l.length:Int)):=by
 unfold bP
 simp only[sZ]
 rfl
theorem Un(j j':IntKind)(a b:Int):nD (.int j a) (.int j' b) k=k (.int j (if b<a then b else a)):=by
 unfold nD
 simp only[sY]
 by_cases h:b<a<;>simp only[h,decide_true,decide_false,if_true,if_false]
theorem Uo(j j':IntKind)(a b:Int):yV (.int j a) (.int j' b) k=k (.int j (if a<b then b else a)):=by
 unfold yV
 simp only[sY]
 by_cases h:a<b<;>simp only[h,decide_true,decide_false,if_true,if_false]
theorem Up(b:Bool)(x y:Value):G4 (.bool b) x y k=k (if b=true then x else y):=by cases b<;>rfl
theorem Uq(a:Addr):fT (.pointer (some a)) (.pointer none) k=k (.bool false):=rfl
theorem Ur:fT (.pointer none) (.pointer none) k=k (.bool true):=rfl
theorem Ut(a:Addr):pB (.pointer (some a)) (.pointer none) k=k (.bool true):=rfl
theorem Uu:pB (.pointer none) (.pointer none) k=k (.bool false):=rfl
theorem Uv(a:Addr)(n c m d:Nat):DC (.slice (some a) n c) (.slice none m d) k=k (.bool false):=rfl
theorem Uw(n c m d:Nat):DC (.slice none n c) (.slice none m d) k=k (.bool true):=rfl
theorem Ux(a:Addr)(n c m d:Nat):G1 (.slice (some a) n c) (.slice none m d) k=k (.bool true):=rfl
theorem Uy(n c m d:Nat):G1 (.slice none n c) (.slice none m d) k=k (.bool false):=rfl
theorem Uz(f:Fn)(a b:Array Value):LV (.func f a b) .nilFunc k=k (.bool false):=rfl
theorem UA(f:Fn)(a b:Array Value):LW (.func f a b) .nilFunc k=k (.bool true):=rfl
theorem UB(K b off:Nat):aq K (.pointer (some ⟨b,off,none⟩)) k=k (.pointer (some ⟨b,off+K,none⟩)):=rfl
theorem MR(l:List Value)(i:Nat):(match wA l i with
 |some v=>k v
 |none=>M.fail)=bh l[i]? k:=by
 rw[GN]
 cases l[i]? <;>rfl
theorem UC(K:Nat)(l:List Value):G5 K (.agg l.toArray) k=bh l[K]? k:=MR k l K
theorem UD(K m:Nat)(l:List Value):LX K m (.agg l.toArray) k=k (.agg ((l.drop K).take m).toArray):=rfl
theorem UE(l:List Value)(i:Nat):aP (.tuple l.toArray) i k=bh l[i]? k:=MR k l i
theorem bG(a b:Value):aP (.tuple #[a,b]) 0 k=k a:=rfl
theorem ext1(a b:Value):aP (.tuple #[a,b]) 1 k=k b:=rfl
theorem DI{i:Int}{n:Nat}(h1:i<n){j:Nat}(e:i=jg j):bK (gL j) n=true:=by
 subst e
 exact nZ (Int.ofNat_lt.1 h1)
theorem UF(b off n c:Nat)(j:IntKind)(i:Int)(h0:0<=i)(h1:i<n):dO (.slice (some ⟨b,off,none⟩) n c) (.int j i) k=k (.pointer (some ⟨b,off+i.toNat,none⟩)):=by
 obtain⟨p,rfl⟩:∃p:Nat,i=jg p:=⟨i.toNat,(qS h0).symm⟩
 unfold dO
 simp only[DI h1 rfl]
 rfl
theorem BB(sz b off n c:Nat)(j:IntKind)(i:Int)(h0:0<=i)(h1:i<n):kG sz (.slice (some ⟨b,off,none⟩) n c) (.int j i) k=k (.pointer (some ⟨b,off+i.toNat*sz,none⟩)):=by
 obtain⟨p,rfl⟩:∃p:Nat,i=jg p:=⟨i.toNat,(qS h0).symm⟩
 unfold kG
 simp only[DI h1 rfl]
 rfl
theorem MS(n b off:Nat)(j:IntKind)(i:Int)(h0:0<=i)(h1:i<n):iU n (.pointer (some ⟨b,off,none⟩)) (.int j i) k=k (.pointer (some ⟨b,off+i.toNat,none⟩)):=by
 obtain⟨p,rfl⟩:∃p:Nat,i=jg p:=⟨i.toNat,(qS h0).symm⟩
 unfold iU
 simp only[DI h1 rfl]
 rfl
theorem UG(n sz b off:Nat)(j:IntKind)(i:Int)(h0:0<=i)(h1:i<n):G6 n sz (.pointer (some ⟨b,off,none⟩)) (.int j i) k=k (.pointer (some ⟨b,off+i.toNat*sz,none⟩)):=by
 obtain⟨p,rfl⟩:∃p:Nat,i=jg p:=⟨i.toNat,(qS h0).symm⟩
 unfold G6
 simp only[DI h1 rfl]
 rfl
theorem UH(n:Nat)(l:List Value)(j:IntKind)(i:Int)(h0:0<=i)(h1:i<n):Bs n (.agg l.toArray) (.int j i) k=bh l[i.toNat]? k:=by
 obtain⟨p,rfl⟩:∃p:Nat,i=jg p:=⟨i.toNat,(qS h0).symm⟩
 unfold Bs
 simp only[DI h1 rfl]
 exact MR k l p
theorem BC(l:List UInt8)(j:IntKind)(i:Int)(h0:0<=i)(h1:i<l.length):da (.string ⟨l.toArray⟩) (.int j i) k=k (.int .u8 ((l.getD i.toNat 0).toNat:Int)):=by
 obtain⟨p,rfl⟩:∃p:Nat,i=jg p:=⟨i.toNat,(qS h0).symm⟩
 have hp:p<l.length:=Int.ofNat_lt.1 h1
 have e:uR l p=some (l.getD p 0):=by
  cases hn:uR l p with
  |some c=>rw[(LF _ _ _ hn).2]
  |none=>
   exfalso
   have:∀(l:List UInt8) (p:Nat),p<l.length->uR l p≠none:=by
    intro l
    induction l with
    |nil=>intro p h;simp at h
    |cons a l ih=>
     intro p h e
     cases p with
     |zero=>cases e
     |succ p=>exact ih p (by simpa using h) e
   exact this l p hp hn
 unfold da
 simp only[e]
 rfl
theorem MT(l:List UInt8)(lo hi:Option Value){a b:Nat}(ha:uV lo 0=some a)(hb:uV hi l.length=some b)(h1:a<=b)(h2:b<=l.length):bU (.string ⟨l.toArray⟩) lo hi k=k (.string ⟨((l.drop a).take (b-a)).toArray⟩):=by
 unfold bU
 simp only[ha,sZ,hb,nZ h1,nZ h2]
 rfl
theorem Hn(j:IntKind){i:Int}(d:Nat)(h:0<=i):uV (some (.int j i)) d=some i.toNat:=by
 obtain⟨p,rfl⟩:∃p:Nat,i=jg p:=⟨i.toNat,(qS h).symm⟩
 rfl
theorem DJ(l:List UInt8)(kd:IntKind)(j:Int)(h0:0<=j)(h1:j<=l.length):bU (.string ⟨l.toArray⟩) none (some (.int kd j)) k=k (.string ⟨(l.take j.toNat).toArray⟩):=by
 rw[MT k l none _ (a:=0) (b:=j.toNat) rfl (Hn kd _ h0) (by omega) (by omega)]
 simp
theorem DK(l:List UInt8)(kd:IntKind)(i:Int)(h0:0<=i)(h1:i<=l.length):bU (.string ⟨l.toArray⟩) (some (.int kd i)) none k=k (.string ⟨(l.drop i.toNat).toArray⟩):=by
 rw[MT k l _ none (a:=i.toNat) (b:=l.length) (Hn kd _ h0) rfl (by omega) (by omega)]
 rw[xZ (by simp)]
theorem DL(l:List UInt8)(kd pC:IntKind)(i j:Int)(h0:0<=i)(h1:i<=j)(h2:j<=l.length):bU (.string ⟨l.toArray⟩) (some (.int kd i)) (some (.int pC j)) k=k (.string ⟨((l.drop i.toNat).take (j.toNat-i.toNat)).toArray⟩):=
 MT k l _ _ (Hn kd _ h0) (Hn pC _ (by omega)) (by omega) (by omega)
theorem MU(z:List Value)(ps:List (Nat×Nat×Value)):bB z ps k=bh (fU z ps) fun cs=>k (.agg cs.toArray):=by
 unfold bB
 cases fU z ps<;>rfl
theorem MV(cs:List Value):fU cs []=some cs:=rfl
theorem agy(cs:List Value)(q:Nat×Nat×Value)(r:List (Nat×Nat×Value)):fU cs (q::r)=match cz (gO (dU q.2.2)) q.2.1 with
 |true=>match bK (iO q.1 (gO (dU q.2.2))) (gO cs)with
  |true=>fU (te cs q.1 (dU q.2.2)) r
  |false=>none
 |false=>none:=rfl
theorem UJ{cs vs:List Value}{off sz:Nat}{v:Value}{r:List (Nat×Nat×Value)}(hv:dU v=vs):fU cs ((off,sz,v)::r)=if vs.length=sz then(if off+sz<=cs.length then fU (cs.take off++(vs++cs.drop (off+sz))) r else none)else none:=by
 have sp:∀(off:Nat) (cs l:List Value),off+l.length<=cs.length->te cs off l=cs.take off++(l++cs.drop (off+l.length)):=by
  have ov:∀(l cs:List Value),l.length<=cs.length->over l cs=l++cs.drop l.length:=by
   intro l
   induction l with
   |nil=>intro cs _;simp[over]
   |cons x l ih=>
    intro cs h
    cases cs with
    |nil=>simp at h
    |cons c cs=>
     show x::over l cs=_
     rw[ih cs (by simpa using h)]
     simp
  intro off
  induction off with
  |zero=>
   intro cs l h
   have e:te cs 0 l=over l cs:=by cases cs<;>rfl
   rw[e,ov l cs (by omega)]
   simp
  |succ off ih=>
   intro cs l h
   cases cs with
   |nil=>simp at h
   |cons c cs=>
    show c::te cs off l=_
    rw[ih cs l (by simp at h;omega),show off+1+l.length=off+l.length+1 by omega]
    simp
 subst hv
 rw[agy]
 simp only[oD]
 by_cases h1:(dU v).length=sz
 ·rw[if_pos h1]
  subst h1
  rw[CT]
  simp only
  by_cases h2:off+(dU v).length<=cs.length
  ·rw[if_pos h2,show bK (iO off (dU v).length) cs.length=true from nZ h2,sp _ _ _ h2]
  ·rw[if_neg h2]
   have:bK (iO off (dU v).length) cs.length=false:=by
    cases hq:bK (iO off (dU v).length) cs.length with
    |false=>rfl
    |true=>exact absurd (iM hq) h2
   rw[this]
 ·rw[if_neg h1]
  have:cz (dU v).length sz=false:=by
   cases hq:cz (dU v).length sz with
   |false=>rfl
   |true=>exact absurd (m7 hq) h1
  rw[this]
theorem DM{cs:List Value}{off:Nat}{v:Value}{r:List (Nat×Nat×Value)}(hv:dU v=[v]):fU cs ((off,1,v)::r)=if off<cs.length then fU (cs.set off v) r else none:=by
 rw[UJ hv,if_pos (show [v].length=1 from rfl)]
 by_cases h:off<cs.length
 ·rw[if_pos h,if_pos (by omega)]
  congr 1
  rw[List.set_eq_take_append_cons_drop,if_pos h]
  rfl
 ·rw[if_neg h,if_neg (by omega)]
section
variable (cs:List Value) (off:Nat) (r:List (Nat×Nat×Value))
theorem MW(j:IntKind)(x:Int):fU cs ((off,1,.int j x)::r)=if off<cs.length then fU (cs.set off (.int j x)) r else none:=DM rfl
theorem UK(b:Bool):fU cs ((off,1,.bool b)::r)=if off<cs.length then fU (cs.set off (.bool b)) r else none:=DM rfl
theorem UL(s:ByteArray):fU cs ((off,1,.string s)::r)=if off<cs.length then fU (cs.set off (.string s)) r else none:=DM rfl
theorem UM(a:Option Addr)(n c:Nat):fU cs ((off,1,.slice a n c)::r)=if off<cs.length then fU (cs.set off (.slice a n c)) r else none:=DM rfl
theorem UN(a:Option Addr):fU cs ((off,1,.pointer a)::r)=if off<cs.length then fU (cs.set off (.pointer a)) r else none:=DM rfl
theorem MX(sz:Nat)(vs:List Value):fU cs ((off,sz,.agg vs.toArray)::r)=if vs.length=sz then(if off+sz<=cs.length then fU (cs.take off++(vs++cs.drop (off+sz))) r else none)else none:=UJ rfl
end
end
theorem get_eq(h:H)(i:Nat)(x:Option AB):(h.set i x).get i=x:=by rw[H.kX,if_pos rfl]
theorem aD(h:H){i j:Nat}(x:Option AB)(e:j≠i):(h.set i x).get j=h.get j:=by rw[H.kX,if_neg e]
theorem Ho{α:Type}{m:M α}{h h1:H}{n n1:Nat}{a:α}{L:List En}(e:m h n=some ⟨a,h1,n1,L⟩)(hw:∀e∈L,e.wr=false):∃L',inside m h n=some ⟨a,h1,n1,L'⟩∧∀e∈L',e.wr=true->n0<=e.b∨W e.b:=
 ⟨_,jU e,fun x hx ee=>by rw[hw x (List.mem_filter.1 hx).1]at ee;cases ee⟩
theorem wH(e:TypeId)(cs:List Value)(h:H)(n:Nat):dC e cs h n=some ⟨n,h.set n (some ⟨e,true,cs⟩),n+1,[]⟩:=by
 unfold dC
 rw[if_pos (gh n)]
theorem rJ{α:Type}{m:M α}{a:α}{k:α->M β}{h1:H}{n1:Nat}(e:m h n=some ⟨a,h1,n1,[]⟩)(hn:n<=n1)(x:ai W n0 (k a) h1 n1 Q):ai W n0 ((inside m).bind k) h n Q:=
 ai.step (jU e) hn (fun x hx=>by simp at hx) x
theorem jx{α:Type}{m:M α}{kk:α->M β}(x:ai W n0 ((inside m).bind kk) h n Q):ai W n0 (eW m kk) h n Q:=by rw[nB];exact x
theorem pD(e:TypeId)(cs:List Value)(f:Nat->Value)(h:H)(n:Nat):((kF e cs).bind fun id=>M.ret (f id)) h n=some ⟨f n,h.set n (some ⟨e,true,cs⟩),n+1,[]⟩:=by
 rw[mS]
 exact bZ (wH _ _ _ _) rfl
theorem jH{T:Prop}(_:T){t:TypeId}(v:Value)(k:Value->M β)(x:ai W n0 (k (.pointer (some ⟨n,0,none⟩))) (h.set n (some ⟨t,true,v.cells.toList⟩)) (n+1) Q):ai W n0 (iD t v k) h n Q:=by
 rw[<-rD]at x
 exact jx (rJ (pD _ _ (fun id=>lN (some ⟨id,0,none⟩)) _ _) (iP n) x)
theorem fq{t:TypeId}{z cs:List Value}(hz:z=cs)(k:Value->M β)(x:ai W n0 (k (.pointer (some ⟨n,0,none⟩))) (h.set n (some ⟨t,true,cs⟩)) (n+1) Q):ai W n0 (di t z k) h n Q:=by
 subst hz
 exact jx (rJ (pD _ _ (fun id=>lN (some ⟨id,0,none⟩)) _ _) (iP n) x)
theorem MY(z:Value):∀m,lD [z] m=cr m z
 |0=>rfl
 |m+1=>by
  show z::lD [z] m=_
  rw[MY z m];rfl
theorem run_make{T:Prop}(_:T){e:TypeId}{z:Value}(l m:Nat)(k:Value->M β){kd pC:IntKind}(hl:l<=m)(hm:m<=1099511627776)(x:ai W n0 (k (.slice (some ⟨n,0,none⟩) l m)) (h.set n (some ⟨e,true,cr m z⟩)) (n+1) Q):ai W n0 (uW e [z] (.int kd l) (.int pC m) k) h n Q:=by
 have e1:uW e [z] (.int kd l) (.int pC m) k=eW ((kF e (lD [z] m)).bind fun id=>M.ret (kf (some ⟨id,0,none⟩) l m)) k:=by
  show(match bK l m with
   |true=>match bK m 1099511627776 with
    |true=>eW ((kF e (lD [z] m)).bind fun id=>M.ret (kf (some ⟨id,0,none⟩) l m)) k
    |false=> .fail
   |false=> .fail)=_
  rw[nZ hl,nZ hm]
 rw[e1,MY]
 exact jx (rJ (pD _ _ (fun id=>kf (some ⟨id,0,none⟩) l m) _ _) (iP n) x)
theorem DN{T:Prop}(_:T){e:TypeId}{v:Value}(h1:one v=true)(k:Value->M β)(x:ai W n0 (k (.slice (some ⟨n,0,none⟩) 1 1)) (h.set n (some ⟨e,true,[v]⟩)) (n+1) Q):ai W n0 (cX e 1 v k) h n Q:=by
 have hc:dU v=[v]:=by cases v<;>first|rfl|(simp[one]at h1)
 unfold cX
 rw[hc]
 exact jx (rJ (pD _ _ (fun id=>kf (some ⟨id,0,none⟩) 1 1) _ _) (iP n) x)
end
def wI{α:Type}(o:Option α)(p:α->Prop):Prop:=match o with
 |some a=>p a
 |none=>False
theorem UO{α:Type}(a:α)(p:α->Prop):wI (some a) p=p a:=rfl
theorem mV(k:IntKind)(x:Int):one (.int k x)=true:=rfl
theorem agz(a:Option Addr)(n c:Nat):one (.slice a n c)=true:=rfl
theorem agA(a:Option Addr):one (.pointer a)=true:=rfl
theorem UP(cs:Array Value):(mf cs).cells=cs:=rfl
section
variable {β:Type} {W:Nat->Prop} {n0:Nat} {h h1:H} {n n1:Nat} {Q:β->H->Nat->Prop}
theorem agB:¬ai W n0 (M.fail:M β) h n Q:=by rintro⟨_,_,_,_,e,_⟩;cases e
theorem Hp{α:Type}{m:M α}{k:α->M β}(e:m h n=none):¬ai W n0 (m.bind k) h n Q:=by
 rintro⟨_,_,_,_,e1,_⟩
 unfold M.bind at e1
 rw[e]at e1
 cases e1
theorem Hq{α:Type}{m:M α}(e:m h n=none):Ev.inside m h n=none:=by unfold Ev.inside;rw[e]
theorem UQ(b off:Nat)(k:Value->M β)(hb:b<n):ai W n0 (ar (.pointer (some ⟨b,off,none⟩)) k) h n Q↔wI (h.get b) fun B=>ai W n0 (bh (B.cells[off]?) k) h n Q:=by
 show ai W n0 (eW (Bp b off) k) h n Q↔_
 rw[nB,GO]
 cases hg:h.get b with
 |none=>
  refine⟨fun x=>absurd x (Hp (Hq ?_)),fun x=>x.elim⟩
  unfold rd
  simp[hg]
 |some B=>
  show _↔ai W n0 (bh (B.cells[off]?) k) h n Q
  cases hv:B.cells[off]? with
  |none=>
   refine⟨fun x=>absurd x (Hp (Hq ?_)),fun x=>absurd x agB⟩
   unfold rd
   simp[hg,hv]
  |some v=>
   have e:rd b off h n=some ⟨v,h,n,[⟨false,b,some off⟩]⟩:=by
    unfold rd
    simp only[hb,hg,hv,if_true]
   obtain⟨L',e1,e2⟩:=Ho (W:=W) (n0:=n0) e (by simp)
   exact ai.iff e1 e2
theorem agC(b off:Nat){v:Value}(k:Value->M β)(h1:one v=true):aZ (.pointer (some ⟨b,off,none⟩)) v k=(inside ((wr b off v).bind fun _=> .ret undef)).bind k:=by
 show(match one v with
  |true=>eW ((yP b off v).bind fun _=> .ret undef) k
  |false=> .fail)=_
 rw[h1,GP]
 exact nB _ _
theorem BD(b off:Nat)(v:Value)(k:Value->M β)(hb:b<n)(h1:one v=true):ai W n0 (aZ (.pointer (some ⟨b,off,none⟩)) v k) h n Q↔
 wI (h.get b) fun B=>B.own=true∧off<B.cells.length∧(n0<=b∨W b)∧ai W n0 (k undef) (h.set b (some ⟨B.elem,B.own,B.cells.set off v⟩)) n Q:=by
 rw[agC b off k h1]
 cases hg:h.get b with
 |none=>
  refine⟨fun x=>absurd x (Hp (Hq ?_)),fun x=>x.elim⟩
  unfold M.bind wr
  simp[hg]
 |some B=>
  show _↔(B.own=true∧off<B.cells.length∧(n0<=b∨W b)∧_)
  by_cases cG:B.own=true∧off<B.cells.length
  ·obtain⟨ho,hl⟩:=cG
   have jR:wr b off v h n=some ⟨(),h.set b (some ⟨B.elem,B.own,B.cells.set off v⟩),n,[⟨false,b,some off⟩,⟨true,b,some off⟩]⟩:=by
    unfold wr
    simp[hb,hg,ho,hl,h1]
   have e:((wr b off v).bind fun _=>M.ret undef) h n=some ⟨undef,h.set b (some ⟨B.elem,B.own,B.cells.set off v⟩),n,[⟨false,b,some off⟩,⟨true,b,some off⟩]⟩:=by
    have:=bZ (f:=fun _=>M.ret undef) jR (L2:=[]) (b:=undef) (h2:=h.set b (some ⟨B.elem,B.own,B.cells.set off v⟩)) (n2:=n) rfl
    simpa using this
   have ei:=jU e
   constructor
   ·intro x
    refine⟨ho,hl, ?_,ai.TI ei rfl x⟩
    obtain⟨_,_,_,L,e1,_,e3,_⟩:=x
    obtain⟨_,_,_,L3,L4,e5,_,rfl⟩:=bind_some e1
    rw[ei]at e5
    simp only[eG,Out.mk.injEq]at e5
    refine e3 ⟨true,b,some off⟩ (Ko.2 (.inl ?_)) rfl
    rw[<-e5.2.2.2]
    refine List.mem_filter.2 ⟨by simp, ?_⟩
    simp
    omega
   ·rintro⟨_,_,hw,x⟩
    refine ai.step ei (an _) (fun x hx ee=> ?_) x
    have hx:=(List.mem_filter.1 hx).1
    simp at hx
    rcases hx with rfl|rfl<;>exact hw
  ·refine⟨fun x=>absurd x (Hp (Hq ?_)),fun x=>absurd ⟨x.1,x.2.1⟩ cG⟩
   unfold M.bind wr
   simp only[hb,hg,if_true,h1,Bool.and_true]
   rw[if_neg (by simpa using cG)]
section
variable (b off:Nat) (k:Value->M β) (hb:b<n)
include hb
theorem UR(j:IntKind)(x:Int):ai W n0 (aZ (.pointer (some ⟨b,off,none⟩)) (.int j x) k) h n Q↔wI (h.get b) fun B=>B.own=true∧off<B.cells.length∧(n0<=b∨W b)∧ai W n0 (k undef) (h.set b (some ⟨B.elem,B.own,B.cells.set off (.int j x)⟩)) n Q:=BD b off _ k hb rfl
theorem US(x:Bool):ai W n0 (aZ (.pointer (some ⟨b,off,none⟩)) (.bool x) k) h n Q↔wI (h.get b) fun B=>B.own=true∧off<B.cells.length∧(n0<=b∨W b)∧ai W n0 (k undef) (h.set b (some ⟨B.elem,B.own,B.cells.set off (.bool x)⟩)) n Q:=BD b off _ k hb rfl
theorem UT(x:ByteArray):ai W n0 (aZ (.pointer (some ⟨b,off,none⟩)) (.string x) k) h n Q↔wI (h.get b) fun B=>B.own=true∧off<B.cells.length∧(n0<=b∨W b)∧ai W n0 (k undef) (h.set b (some ⟨B.elem,B.own,B.cells.set off (.string x)⟩)) n Q:=BD b off _ k hb rfl
theorem UU(x:Option Addr):ai W n0 (aZ (.pointer (some ⟨b,off,none⟩)) (.pointer x) k) h n Q↔wI (h.get b) fun B=>B.own=true∧off<B.cells.length∧(n0<=b∨W b)∧ai W n0 (k undef) (h.set b (some ⟨B.elem,B.own,B.cells.set off (.pointer x)⟩)) n Q:=BD b off _ k hb rfl
theorem UW(x:Option Addr)(l c:Nat):ai W n0 (aZ (.pointer (some ⟨b,off,none⟩)) (.slice x l c) k) h n Q↔wI (h.get b) fun B=>B.own=true∧off<B.cells.length∧(n0<=b∨W b)∧ai W n0 (k undef) (h.set b (some ⟨B.elem,B.own,B.cells.set off (.slice x l c)⟩)) n Q:=BD b off _ k hb rfl
end
theorem rK{b:Nat}{B:AB}(hg:h.get b=some B)(hb:b<n):∀(c k:Nat),k+c<=B.cells.length->∃L,cU b k c h n=some ⟨(B.cells.drop k).take c,h,n,L⟩∧∀e∈L,e.wr=false
 |0,k,_=>⟨[],by rw[List.take_zero];rfl,by simp⟩
 |c+1,k,hk=>by
  obtain⟨L,e,hL⟩:=rK hg hb c (k+1) (by omega)
  have om:k<B.cells.length:=by omega
  refine⟨[⟨false,b,some k⟩]++(L++[]), ?_, ?_⟩
  ·unfold cU
   have e0:rd b k h n=some ⟨B.cells[k],h,n,[⟨false,b,some k⟩]⟩:=by
    unfold rd
    simp only[hb,hg,if_true,bD om]
   refine bZ e0 (bZ e ?_)
   rw[List.drop_eq_getElem_cons om,List.take_succ_cons]
   rfl
  ·intro x hx
   simp only[cu,Ko,adk,mg,or_false]at hx
   rcases hx with rfl|hx
   ·rfl
   ·exact hL x hx
theorem DO{b:Nat}{B:AB}(hg:h.get b=some B)(hb:b<n):gH b h n=some ⟨B.elem,h,n,[⟨false,b,some 1099511627776⟩]⟩:=by
 unfold gH
 simp only[hb,hg,if_true]
theorem MZ{b:Nat}{B:AB}(hg:h.get b=some B)(ho:B.own=true)(hb:b<n):kill b h n=some ⟨(),h.set b none,n,[⟨false,b,none⟩,⟨true,b,none⟩]⟩:=by
 unfold kill
 simp only[hb,hg,ho,if_true]
def Src(h:H)(n:Nat)(x:Value)(news:List Value):Prop:=∃b off c B,x= .slice (some ⟨b,off,none⟩) news.length c∧h.get b=some B∧b<n∧off+news.length<=B.cells.length∧(B.cells.drop off).take news.length=news
theorem Src.run{x:Value}{news:List Value}(s:Src h n x news):∃L,kU 1 news.length x h n=some ⟨news,h,n,L⟩∧(∀e∈L,e.wr=false)∧ic x=some news.length:=by
 obtain⟨b,off,c,B,rfl,hg,hb,hl,ht⟩:=s
 obtain⟨L,e,hL⟩:=rK hg hb news.length off hl
 refine⟨L, ?_,hL,rfl⟩
 unfold kU
 rw[AU]
 show cU b off news.length h n=_
 rw[e,ht]
theorem UX{T:Prop}(c:T){e:TypeId}{x:Value}{news:List Value}(hx:ic x=some 0)(a:Option Addr)(l cp:Nat)(k:Value->M β)(y:ai W n0 (k (.slice a l cp)) h n Q):ai W n0 (dj e 1 (.slice a l cp) x k) h n Q:=by
 refine jx (rJ (a:= .slice a l cp) ?_ (an n) y)
 unfold lE
 simp only[hx]
 rfl
theorem UY {T:Prop} (c:T) {e:TypeId} {x:Value} {news:List Value} (s:Src h n x news) (h0:0<news.length) (hm:news.length<=1099511627776) (h1:news.all one=true) (k:Value->M β)
 (y:ai W n0 (k (.slice (some ⟨n,0,none⟩) news.length (bq+news.length))) (h.set n (some ⟨e,true,news⟩)) (n+1) Q):ai W n0 (dj e 1 (.slice none 0 0) x k) h n Q:=by
 obtain⟨L,e1,e2,e3⟩:=s.run
 have ea:lE e 1 (.slice none 0 0) x h n=some ⟨.slice (some ⟨n,0,none⟩) news.length (bq+news.length),h.set n (some ⟨e,true,news⟩),n+1,L⟩:=by
  unfold lE
  rw[td,mS]
  simp only[e3]
  rw[if_neg (by omega),if_pos hm]
  have g:(if(decide (news.length=news.length*1)&&news.all one)=true then(dC e ([]++news)).bind fun id=>M.ret (kf (some ⟨id,0,none⟩) (0+news.length) (bq+(0+news.length)))else M.fail) h n=some ⟨.slice (some ⟨n,0,none⟩) news.length (bq+news.length),h.set n (some ⟨e,true,news⟩),n+1,[]⟩:=by
   rw[if_pos (by simp;simpa using h1)]
   simp only[fB,uo]
   exact bZ (wH _ _ _ _) rfl
  have:=bZ (f:=fun new=>if(decide (new.length=news.length*1)&&new.all one)=true then(dC e ([]++new)).bind fun id=>M.ret (kf (some ⟨id,0,none⟩) (0+news.length) (bq+(0+news.length)))else M.fail) e1 g
  simpa using this
 refine jx (ai.step (jU ea) (iP n) (fun x hx ee=> ?_) y)
 rw[e2 x (List.mem_filter.1 hx).1]at ee
 cases ee
theorem UZ {T:Prop} (c:T) {e:TypeId} {x:Value} {news olds:List Value} (s:Src h n x news) (h0:0<news.length) (h1:news.all one=true) {b cp:Nat} {cs:List Value} (hg:h.get b=some ⟨e,true,cs⟩) (hb:b<n) (off l:Nat)
 (hl:off+l<=cs.length) (ho:(cs.drop off).take l=olds) (hm:l+news.length<=1099511627776) (hc:bq<=cp) (hw:n0<=b∨W b) (k:Value->M β)
 (y:ai W n0 (k (.slice (some ⟨n,0,none⟩) (l+news.length) (bq+(l+news.length)))) ((h.set b none).set n (some ⟨e,true,olds++news⟩)) (n+1) Q):ai W n0 (dj e 1 (.slice (some ⟨b,off,none⟩) l cp) x k) h n Q:=by
 obtain⟨L,e1,e2,e3⟩:=s.run
 obtain⟨L',e4,e5⟩:=rK (n:=n) hg hb l off hl
 have ea:∃L1,lE e 1 (.slice (some ⟨b,off,none⟩) l cp) x h n=some ⟨.slice (some ⟨n,0,none⟩) (l+news.length) (bq+(l+news.length)),(h.set b none).set n (some ⟨e,true,olds++news⟩),n+1,L1⟩∧∀e∈L1,e.wr=true->e.b=b:=by
  refine⟨[⟨false,b,some 1099511627776⟩]++(L++(L'++([⟨false,b,none⟩,⟨true,b,none⟩]++[]))), ?_, ?_⟩
  ·unfold lE Bu
   rw[td,mS,yQ,GQ,pr]
   simp only[e3]
   rw[if_neg (by omega),if_pos hm]
   refine bZ (DO hg hb) ?_
   simp only[if_true]
   refine bZ e1 ?_
   rw[if_pos (by simp;simpa using h1)]
   rw[if_neg (by omega),AU]
   refine bZ e4 (bZ (MZ hg rfl hb) ?_)
   rw[ho]
   exact bZ (wH _ _ _ _) rfl
  ·intro x hx ee
   simp only[Ko,adk,mg,or_false]at hx
   rcases hx with rfl|hx|hx|rfl|rfl
   ·cases ee
   ·rw[e2 x hx]at ee;cases ee
   ·rw[e5 x hx]at ee;cases ee
   ·cases ee
   ·rfl
 obtain⟨L1,ea,y9⟩:=ea
 refine jx (ai.step (jU ea) (iP n) (fun x hx ee=> ?_) y)
 rw[y9 x (List.mem_filter.1 hx).1 ee]
 exact hw
theorem agD {T:Prop} (c:T) {e:TypeId} {x:Value} {news olds:List Value} (s:Src h n x news) (h0:0<news.length) (h1:news.all one=true) {b cp:Nat} {B:AB} (hg:h.get b=some B) (he:B.elem=e) (hb:b<n) (off l:Nat)
 (hl:off+l<=B.cells.length) (ho:(B.cells.drop off).take l=olds) (hm:l+news.length<=1099511627776) (hc:cp<bq) (hr:cp<l+news.length) (k:Value->M β)
 (y:ai W n0 (k (.slice (some ⟨n,0,none⟩) (l+news.length) (bq+(l+news.length)))) (h.set n (some ⟨e,true,olds++news⟩)) (n+1) Q):ai W n0 (dj e 1 (.slice (some ⟨b,off,none⟩) l cp) x k) h n Q:=by
 obtain⟨L,e1,e2,e3⟩:=s.run
 obtain⟨L',e4,e5⟩:=rK (n:=n) hg hb l off hl
 have ea:∃L1,lE e 1 (.slice (some ⟨b,off,none⟩) l cp) x h n=some ⟨.slice (some ⟨n,0,none⟩) (l+news.length) (bq+(l+news.length)),h.set n (some ⟨e,true,olds++news⟩),n+1,L1⟩∧∀e∈L1,e.wr=false:=by
  refine⟨[⟨false,b,some 1099511627776⟩]++(L++(L'++[])), ?_, ?_⟩
  ·unfold lE Bu
   rw[td,mS,yQ,pr]
   simp only[e3]
   rw[if_neg (by omega),if_pos hm]
   refine bZ (DO hg hb) ?_
   simp only[he,if_true]
   refine bZ e1 ?_
   rw[if_pos (by simp;simpa using h1)]
   rw[if_pos hc,if_neg (by omega),AU]
   refine bZ e4 ?_
   rw[ho]
   exact bZ (wH _ _ _ _) rfl
  ·intro x hx
   simp only[cu,Ko,adk,mg,or_false]at hx
   rcases hx with rfl|hx|hx
   ·rfl
   ·exact e2 x hx
   ·exact e5 x hx
 obtain⟨L1,ea,y9⟩:=ea
 refine jx (ai.step (jU ea) (iP n) (fun x hx ee=> ?_) y)
 rw[y9 x (List.mem_filter.1 hx).1]at ee
 cases ee
theorem U0 {T:Prop} (c:T) {e:TypeId} {v:Value} (hv:one v=true) {b cp l:Nat} {cs:List Value} (hg:h.get b=some ⟨e,true,cs⟩) (hb:b<n) (hl:cs.length=l) (hm:l+1<=1099511627776) (hc:bq<=cp) (hw:n0<=b∨W b) (k:Value->M β)
 (y:ai W n0 (k (.slice (some ⟨n+1,0,none⟩) (l+1) (bq+(l+1)))) (((h.set n (some ⟨e,true,[v]⟩)).set b none).set (n+1) (some ⟨e,true,cs++[v]⟩)) (n+2) Q):ai W n0 (cX e 1 v fun w=>dj e 1 (.slice (some ⟨b,0,none⟩) l cp) w k) h n Q:=by
 refine DN c hv _ ?_
 have uB:(h.set n (some ⟨e,true,[v]⟩)).get b=some ⟨e,true,cs⟩:=by rw[aD _ _ (by omega)];exact hg
 exact UZ c (news:=[v]) (olds:=cs) ⟨n,0,1,⟨e,true,[v]⟩,rfl,get_eq _ _ _,gh n,by simp,by simp⟩ (by simp) (by simp[hv]) uB (by omega) 0 l (by omega) (by rw[jr,<-hl,mh]) hm hc hw k y
theorem U1 {T:Prop} (c:T) {e:TypeId} {v:Value} (hv:one v=true) (k:Value->M β)
 (y:ai W n0 (k (.slice (some ⟨n+1,0,none⟩) 1 (bq+1))) ((h.set n (some ⟨e,true,[v]⟩)).set (n+1) (some ⟨e,true,[v]⟩)) (n+2) Q):ai W n0 (cX e 1 v fun w=>dj e 1 (.slice none 0 0) w k) h n Q:=by
 refine DN c hv _ ?_
 exact UY c (news:=[v]) ⟨n,0,1,⟨e,true,[v]⟩,rfl,get_eq _ _ _,gh n,by simp,by simp⟩ (by simp) (by simp) (by simp[hv]) k y
theorem agE(d:Nat):fH none d=some d:=rfl
theorem U2 {T T':Prop} (c:T) {e:TypeId} {b:Nat} {B:AB} (hg:h.get b=some B) (he:B.elem=e) (hb:b<n) (off len cp:Nat) (lo hi:Option Value) {l hh:Nat} (jj:fH lo 0=some l) (we:fH hi len=some hh) (h1:l<=hh) (h2:hh<=len) (h3:len<=cp) (k:Value->M β) (_:T')
 (y:ai W n0 (k (.slice (some ⟨b,if cp=l then off else off+l,none⟩) (hh-l) (cp-l))) h n Q):ai W n0 (Bt e 1 (.slice (some ⟨b,off,none⟩) len cp) lo hi k) h n Q:=by
 refine jx ?_
 have e1:((Dx b).bind fun e'=>match cz e' e with
  |true=>M.lift (yW 1 (some ⟨b,off,none⟩) len cp lo hi)
  |false=> .fail) h n=some ⟨.slice (some ⟨b,if cp=l then off else off+l,none⟩) (hh-l) (cp-l),h,n,[⟨false,b,some 1099511627776⟩]++[]⟩:=by
  rw[yQ]
  refine bZ (DO hg hb) ?_
  rw[he,CT]
  simp only
  unfold yW
  simp only[jj,we]
  have:(decide (l<=hh)&&decide (hh<=cp)&&decide (cp<=cp)&&(decide (cp<bq)||(none:Option Value).isNone&&decide (hh<=len)))=true:=by simp;omega
  simp only[this,if_true,AU]
  rfl
 obtain⟨L',e2,e3⟩:=Ho (W:=W) (n0:=n0) e1 (by simp)
 exact ai.step e2 (an _) e3 y
theorem M0(k:IntKind)(x d:Nat):fH (some (.int k (x:Int))) d=some x:=by unfold fH;simp
theorem M1{P:Program}(hd:lW P=true){gt:Nat->Hint}{lf d:Nat}{f:FuncId}{args:Array Value}{v:Value}{L:List En}(e:au P gt lf d f args h n=some ⟨v,h1,n1,L⟩){W':Nat->Prop}(hw:∀e∈L,e.wr=true->n<=e.b∨W' e.b):∀b,b<n->¬W' b->h1.get b=h.get b:=by
 obtain⟨f0,e0⟩:=Hl hd d f args h n v h1 n1 L e
 have A:=Loc.cZ P KN f0 f args h n v h1 n1 L (e0 f0 (an _))
 intro b hb hn
 refine FY fun k=>A.frame b k ?_ (by omega)
 rintro⟨e,he,h2,h3,_⟩
 rcases hw e he h2 with q|q
 ·omega
 ·exact hn (h3▸q)
theorem aU {P:Program} (hd:lW P=true) {gt:Nat->Hint} {lf d:Nat} {f:FuncId} {vs:List Value} {W':Nat->Prop} {Q':Value->H->Nat->Prop} (s:ai W' n (au P gt lf d f ⟨vs⟩) h n Q') (hn:n0<=n) (hW:∀b,b<n->W' b->n0<=b∨W b) {k:Value->M β}
 (x:∀v h1 n1,n<=n1->(∀b,b<n->¬W' b->h1.get b=h.get b)->Q' v h1 n1->ai W n0 (k v) h1 n1 Q):ai W n0 (ay (au P gt lf d) f vs k) h n Q:=by
 obtain⟨v,h1,n1,L,e1,e2,e3,e4⟩:=s
 refine jx (m:=au P gt lf d f ⟨vs⟩) (ai.step (jU e1) e2 (fun e he jR=> ?_) (x v h1 n1 e2 (M1 hd e1 e3) e4))
 have hL:=(List.mem_filter.1 he).1
 rcases e3 e hL jR with q|q
 ·exact .inl (by omega)
 ·by_cases bM:e.b<n
  ·exact hW _ bM q
  ·exact .inl (by omega)
end
section
variable {β:Type} {W:Nat->Prop} {n0:Nat} {h h1:H} {n n1:Nat} {Q:β->H->Nat->Prop}
theorem agF(v:Value)(k:Value->M β):(inside (M.ret v)).bind k=k v:=by
 have:inside (M.ret v)=M.ret v:=by funext h n;rfl
 rw[this,ru]
theorem agG{T:Prop}(c:T){e:TypeId}(k:Value->M β)(x:ai W n0 (k (.slice (some ⟨n,0,none⟩) 0 0)) (h.set n (some ⟨e,true,[]⟩)) (n+1) Q):ai W n0 (oE e [] 0 [] k) h n Q:=
 jx (rJ (pD _ _ (fun id=>kf (some ⟨id,0,none⟩) 0 0) _ _) (iP n) x)
theorem eh(m:M β):fV true m=m:=rfl
theorem oH{m:M Value}{v:Value}{L:List En}{k:Value×Tk->M β}(e:m h n=some ⟨v,h1,n1,L⟩)(hn:n<=n1)(hw:∀e∈L,e.wr=true->n0<=e.b∨W e.b)(x:ai W n0 (k (v,⟨n,n1,L⟩)) h1 n1 Q):ai W n0 ((aG m).bind k) h n Q:=
 ai.step (Du e) hn hw x
theorem agH{m:M Value}{v:Value}{L:List En}(e:m h n=some ⟨v,h1,n1,L⟩):(m.bind fun v=>M.ret v) h n=some ⟨v,h1,n1,L⟩:=by
 have:=bZ (f:=fun v=>M.ret v) e (L2:=[]) (b:=v) (h2:=h1) (n2:=n1) rfl
 rwa[cu]at this
theorem qz{m:M Value}{v:Value}{L:List En}(e:m h n=some ⟨v,h1,n1,L⟩):(eW m M.ret) h n=some ⟨v,h1,n1,L.filter fun e=> !(decide (n<=e.b)&&decide (e.b<n1))⟩:=by
 rw[nB]
 exact agH (jU e)
theorem M3{T:Prop}(_:T)(b off:Nat)(k:Value×Tk->M β){B:AB}(hg:h.get b=some B)(hb:b<n){v:Value}(hv:B.cells[off]? =some v)(x:ai W n0 (k (v,⟨n,n,[⟨false,b,some off⟩]⟩)) h n Q):ai W n0 ((aG (ar (.pointer (some ⟨b,off,none⟩)) M.ret)).bind k) h n Q:=by
 have e:Bp b off h n=some ⟨v,h,n,[⟨false,b,some off⟩]⟩:=by
  rw[GO]
  unfold rd
  simp only[hb,hg,hv,if_true]
 have e2:=qz e
 have hf:[(⟨false,b,some off⟩:En)].filter (fun e=> !(decide (n<=e.b)&&decide (e.b<n)))=[⟨false,b,some off⟩]:=by
  simp;omega
 rw[hf]at e2
 exact oH e2 (an _) (by simp) x
theorem agI{T:Prop}(_:T){t:TypeId}(v:Value)(k:Value×Tk->M β)(x:ai W n0 (k (.pointer (some ⟨n,0,none⟩),⟨n,n+1,[]⟩)) (h.set n (some ⟨t,true,v.cells.toList⟩)) (n+1) Q):ai W n0 ((aG (iD t v M.ret)).bind k) h n Q:=by
 rw[<-rD]at x
 exact oH (qz (pD t (dU v) (fun id=>lN (some ⟨id,0,none⟩)) h n)) (iP n) (by simp) x
theorem Hr {P:Program} (hd:lW P=true) {gt:Nat->Hint} {lf d:Nat} {f:FuncId} {vs:List Value} {W':Nat->Prop} {Q':Value->H->Nat->Prop} (s:ai W' n (au P gt lf d f ⟨vs⟩) h n Q') (hn:n0<=n) (hW:∀b,b<n->W' b->n0<=b∨W b) {k:Value×Tk->M β}
 (x:∀v h1 n1 L,n<=n1->(∀b,b<n->¬W' b->h1.get b=h.get b)->Q' v h1 n1->(∀e∈L,e.b<n)->(∀e∈L,e.wr=true->W' e.b)->ai W n0 (k (v,⟨n,n1,L⟩)) h1 n1 Q):ai W n0 ((aG (ay (au P gt lf d) f vs M.ret)).bind k) h n Q:=by
 obtain⟨v,h1,n1,L,e1,e2,e3,e4⟩:=s
 obtain⟨f0,e0⟩:=Hl hd d f ⟨vs⟩ h n v h1 n1 L e1
 have A:=Loc.cZ P KN f0 f ⟨vs⟩ h n v h1 n1 L (e0 f0 (an _))
 have bM:∀e∈L.filter (fun e=> !(decide (n<=e.b)&&decide (e.b<n1))),e.b<n:=fun e he=>by
  obtain⟨h1,h2⟩:=List.mem_filter.1 he
  have:=A.lt e h1
  simp at h2
  omega
 have jR:∀e∈L.filter (fun e=> !(decide (n<=e.b)&&decide (e.b<n1))),e.wr=true->W' e.b:=fun e he hw=>by
  rcases e3 e (List.mem_filter.1 he).1 hw with q|q
  ·have:=bM e he;omega
  ·exact q
 exact oH (qz e1) e2 (fun e he hw=>hW _ (bM e he) (jR e he hw)) (x v h1 n1 _ e2 (M1 hd e1 e3) e4 bM jR)
end
section
variable {β:Type} {W:Nat->Prop} {n0:Nat} {h h1:H} {n n1:Nat} {Q:β->H->Nat->Prop}
def aN(v:Value)(b:Nat):Prop:=∃o l c,v= .slice (some ⟨b,o,none⟩) l c
def Own(h:H)(lo n:Nat)(e:TypeId)(v:Value)(cs:List Value):Prop:=(v= .slice none 0 0∧cs=[])∨∃b,v= .slice (some ⟨b,0,none⟩) cs.length (bq+cs.length)∧h.get b=some ⟨e,true,cs⟩∧lo<=b∧b<n
theorem Own.nil(h:H)(lo n:Nat)(e:TypeId):Own h lo n e (.slice none 0 0) []:= .inl ⟨rfl,rfl⟩
theorem aN.inj{b c o l k:Nat}(h:aN (.slice (some ⟨b,o,none⟩) l k) c):c=b:=by
 obtain⟨_,_,_,h⟩:=h
 cases h
 rfl
theorem aN.not_nil{l k c:Nat}(h:aN (.slice none l k) c):False:=by
 obtain⟨_,_,_,h⟩:=h
 cases h
theorem Own.lt{lo:Nat}{e:TypeId}{v:Value}{cs:List Value}(o:Own h lo n e v cs){b:Nat}(hb:aN v b):lo<=b∧b<n:=by
 rcases o with ⟨rfl,_⟩|⟨c,rfl,_,h1,h2⟩
 ·exact hb.not_nil.elim
 ·rw[hb.inj];exact⟨h1,h2⟩
theorem Own.aB{lo:Nat}{e:TypeId}{v:Value}{cs:List Value}{h':H}{n':Nat}(o:Own h lo n e v cs)(hn:n<=n')(hk:∀b,aN v b->h'.get b=h.get b):Own h' lo n' e v cs:=by
 rcases o with q|⟨c,rfl,hc,h1,h2⟩
 ·exact .inl q
 ·exact .inr ⟨c,rfl,(hk c ⟨_,_,_,rfl⟩).trans hc,h1,by omega⟩
theorem Own.low{lo rf:Nat}{e:TypeId}{v:Value}{cs:List Value}(o:Own h lo n e v cs)(hl:rf<=lo):Own h rf n e v cs:=by
 rcases o with q|⟨c,hv,hc,h1,h2⟩
 ·exact .inl q
 ·exact .inr ⟨c,hv,hc,by omega,h2⟩
theorem uZ {T:Prop} (c:T) {e:TypeId} {x:Value} (hx:one x=true) {lo:Nat} {v:Value} {cs:List Value} (o:Own h lo n e v cs) (hm:cs.length+1<=1099511627776) (jj:n0<=lo) (k:Value->M β)
 (y:∀h',h'.get (n+1)=some ⟨e,true,cs++[x]⟩->(∀b,b<n->¬aN v b->h'.get b=h.get b)->ai W n0 (k (.slice (some ⟨n+1,0,none⟩) (cs.length+1) (bq+(cs.length+1)))) h' (n+2) Q):ai W n0 (cX e 1 x fun w=>dj e 1 v w k) h n Q:=by
 rcases o with ⟨rfl,rfl⟩|⟨b,rfl,hb,h1,h2⟩
 ·exact U1 c hx k (y _ (get_eq _ _ _) fun b hb _=>by rw[aD _ _ (by omega),aD _ _ (by omega)])
 ·refine U0 c hx hb h2 rfl hm (by omega) (.inl (by omega)) k (y _ (get_eq _ _ _) fun c hc hn=> ?_)
  have:c≠b:=fun e=>hn ⟨0,_,_,by rw[e]⟩
  rw[aD _ _ (by omega),aD _ _ this,aD _ _ (by omega)]
theorem Own.mk'{lo b:Nat}{e:TypeId}{cs:List Value}(hg:h.get b=some ⟨e,true,cs⟩)(h1:lo<=b)(h2:b<n){l:Nat}(hl:l=cs.length):Own h lo n e (.slice (some ⟨b,0,none⟩) l (bq+l)) cs:= .inr ⟨b,by rw[hl],hg,h1,h2⟩
def aS(k:IntKind)(xs:List Int):List Value:=xs.map (Value.int k)
theorem eJ(k:IntKind)(xs:List Int):(aS k xs).length=xs.length:=by unfold aS;simp
theorem Hs{k:IntKind}{xs:List Int}{i:Nat}(h:i<xs.length):(aS k xs)[i]? =some (.int k (xs.getD i 0)):=by
 unfold aS;simp[h]
theorem M4(k:IntKind)(xs:List Int):(aS k xs).all one=true:=by
 unfold aS;simp[one]
def Row(h:H)(n:Nat)(e:TypeId)(k:IntKind)(v:Value)(xs:List Int):Prop:=
 (∃a c,v= .slice a 0 c∧(∀b o,a≠some ⟨b,o,none⟩)∧xs=[])∨∃b off cap o cs,v= .slice (some ⟨b,off,none⟩) xs.length cap∧h.get b=some ⟨e,o,cs⟩∧b<n∧off+xs.length<=cs.length∧(cs.drop off).take xs.length=aS k xs∧xs.length<=cap
theorem Row.aB{e:TypeId}{k:IntKind}{v:Value}{xs:List Int}{h':H}{n':Nat}(r:Row h n e k v xs)(hn:n<=n')(hk:∀b,b<n->h'.get b=h.get b):Row h' n' e k v xs:=by
 rcases r with q|⟨b,off,cap,o,cs,hv,hg,hb,r⟩
 ·exact .inl q
 ·exact .inr ⟨b,off,cap,o,cs,hv,(hk b hb).trans hg,by omega,r⟩
theorem Row.mW{e:TypeId}{k:IntKind}{v:Value}{xs:List Int}{h':H}{n':Nat}(r:Row h n e k v xs)(hn:n<=n')(hk:∀b,aN v b->h'.get b=h.get b):Row h' n' e k v xs:=by
 rcases r with q|⟨b,off,cap,o,cs,hv,hg,hb,r⟩
 ·exact .inl q
 ·exact .inr ⟨b,off,cap,o,cs,hv,(hk b ⟨_,_,_,hv⟩).trans hg,by omega,r⟩
theorem Row.lt{e:TypeId}{k:IntKind}{v:Value}{xs:List Int}(r:Row h n e k v xs){b:Nat}(hb:aN v b):b<n:=by
 rcases r with ⟨a,c,rfl,fC,_⟩|⟨c,off,cap,o,cs,rfl,hg,lR,_⟩
 ·obtain⟨o,l,k,q⟩:=hb
  cases q
  exact absurd rfl (fC b o)
 ·rw[hb.inj];exact lR
theorem Row.some{e:TypeId}{k:IntKind}{v:Value}{xs:List Int}(r:Row h n e k v xs)(h0:0<xs.length):∃b off cap o cs,v= .slice (some ⟨b,off,none⟩) xs.length cap∧h.get b=some ⟨e,o,cs⟩∧b<n∧off+xs.length<=cs.length∧(cs.drop off).take xs.length=aS k xs∧xs.length<=cap∧∀i,i<xs.length->cs[off+i]? =some (.int k (xs.getD i 0)):=by
 rcases r with ⟨a,c,_,_,rfl⟩|⟨b,off,cap,o,cs,hv,hg,hb,hl,ht,hc⟩
 ·simp at h0
 ·refine⟨b,off,cap,o,cs,hv,hg,hb,hl,ht,hc,fun i hi=> ?_⟩
  have:=congrArg (fun z=>z[i]?) ht
  simp only[List.getElem?_take,hi,if_true,List.getElem?_drop]at this
  rw[this,Hs hi]
theorem Row.len{e:TypeId}{k:IntKind}{v:Value}{xs:List Int}(r:Row h n e k v xs):∃a c,v= .slice a xs.length c:=by
 rcases r with ⟨a,c,rfl,_,rfl⟩|⟨b,off,cap,o,cs,rfl,_⟩
 ·exact⟨a,c,rfl⟩
 ·exact⟨_,cap,rfl⟩
theorem Own.row{lo:Nat}{e:TypeId}{k:IntKind}{v:Value}{xs:List Int}(o:Own h lo n e v (aS k xs)):Row h n e k v xs:=by
 rcases o with ⟨rfl,q⟩|⟨b,rfl,hg,_,hb⟩
 ·exact .inl ⟨none,0,rfl,fun _ _ q=>(nomatch q),by unfold aS at q;simpa using q⟩
 ·rw[eJ]
  exact .inr ⟨b,0,bq+xs.length,true,_,rfl,hg,hb,by rw[eJ];omega,by rw[jr,xZ (by rw[eJ];omega)],by omega⟩
theorem Row.src{e:TypeId}{k:IntKind}{v:Value}{xs:List Int}(r:Row h n e k v xs)(h0:0<xs.length):Src h n v (aS k xs):=by
 obtain⟨b,off,cap,o,cs,hv,hg,hb,hl,ht,hc,_⟩:=r.some h0
 exact⟨b,off,cap,⟨e,o,cs⟩,by rw[hv,eJ],hg,hb,by rw[eJ];exact hl,by rw[eJ];exact ht⟩
theorem agJ {T:Prop} (c:T) {e:TypeId} {lo:Nat} {v w:Value} {cs:List Value} {k:IntKind} {ys:List Int} {e':TypeId} (o:Own h lo n e v cs) (r:Row h n e' k w ys) (hm:cs.length+ys.length<=1099511627776) (jj:n0<=lo) (ey:lo<=n) (kk:Value->M β)
 (y:∀v' h' n',n<=n'->Own h' lo n' e v' (cs++aS k ys)->(∀b,aN v' b->aN v b∨n<=b)->(∀b,b<n->¬aN v b->h'.get b=h.get b)->ai W n0 (kk v') h' n' Q):ai W n0 (dj e 1 v w kk) h n Q:=by
 by_cases h0:ys.length=0
 ·have hy:ys=[]:=List.length_eq_zero_iff.1 h0
  subst hy
  obtain⟨a,cp,hw⟩:=r.len
  have hl:ic w=some 0:=by rw[hw];rfl
  obtain⟨a',l',c',hv⟩:∃a l c,v= .slice a l c:=by
   rcases o with ⟨rfl,_⟩|⟨b,rfl,_⟩
   ·exact⟨_,_,_,rfl⟩
   ·exact⟨_,_,_,rfl⟩
  subst hv
  refine UX (news:=[]) c hl a' l' c' kk ?_
  exact y _ h n (an n) (by simpa[aS]using o) (fun b hb=> .inl hb) (fun b _ _=>rfl)
 ·have s:=r.src (by omega)
  have hl:=eJ k ys
  rcases o with ⟨rfl,rfl⟩|⟨b,rfl,hg,h1,h2⟩
  ·refine UY c s (by omega) (by rw[hl];simp at hm;omega) (M4 k ys) kk ?_
   refine y _ _ (n+1) (iP n) (.inr ⟨n,rfl,by rw[get_eq];simp,ey,gh n⟩) (fun b hb=> .inr (by rw[hb.inj];exact an n)) (fun b hb _=>aD _ _ (by omega))
  ·refine UZ c s (by omega) (M4 k ys) hg h2 0 cs.length (by omega) (by rw[jr,mh]) (by rw[hl];exact hm) (by omega) (.inl (by omega)) kk ?_
   refine y _ _ (n+1) (iP n) (.inr ⟨n,by simp,get_eq _ _ _,ey,gh n⟩) (fun c hc=> .inr (by rw[hc.inj];exact an n)) (fun c hc hn=> ?_)
   have:c≠b:=fun e=>hn ⟨0,_,_,by rw[e]⟩
   rw[aD _ _ (by omega),aD _ _ this]
end
end Go.Proofs.YtmjolmggelkjlaaGreat.Ev
namespace Go.Proofs.YtmjolmggelkjlaaGreat.Ev
open Go Go.RowKit
theorem agK{w:World}{b off:Nat}{v:Value}(h:w.cell? ⟨b,off,none⟩=some v):∃cs e fr,w.heap[b]? =some (.cells cs e fr)∧cs[off]? =some v:=by
 unfold World.cell? at h
 cases ho:w.heap[b]? with
 |none=>simp[ho]at h
 |some o=>
  cases o with
  |cells cs e fr=>exact⟨cs,e,fr,rfl,by simpa[ho]using h⟩
  |_=>simp[ho]at h
structure Laid (P:Program) (w:World) (m:Mp) (h:H) (n:Nat):Prop where
 wr:WR P m w.heap.size h w.heap
 gl:Gl P m
 fresh:∀b,n<=b->m b=none
 own:∀b B,h.get b=some B->B.own=false
 glo:P.globals.size<=n
theorem M5(P:Program)(w:World):∃m,Laid P w m .nil P.globals.size:=by
 have yu:∀b B,¬(H.get (.nil:H) b=some B):=fun b B hg=>by
  unfold H.get at hg;rw[Tr.get_nil]at hg;cases hg
 exact⟨fun g=>if g<P.globals.size then some ⟨g,0,0,0,0⟩else none,⟨fun b B hg=>absurd hg (yu b B),fun b b' B B' d d' hg=>absurd hg (yu b B)⟩,
  fun g hg=>⟨⟨g,0,0,0,0⟩,if_pos hg,rfl,rfl⟩,fun b hb=>if_neg (by omega),fun b B hg=>absurd hg (yu b B),an _⟩
theorem agL{P:Program}{bad:List FuncId}(oB:vQ P=true)(cG:qW P bad=true)(o9:P.follows .mixedOrders=true)(lB:uL P bad){fuel:Nat}{f:FuncId}{w:World}{m:Mp}{h:H}(x:Laid P w m h P.globals.size)(hr:Gn (cZ P bad fuel f #[] h P.globals.size)=true):
 Calls P f #[] w fun e w'=>e= .returned (.bool true)∧Below w.heap.size w w':=by
 unfold Gn at hr
 split at hr
 ·rename_i o ho
  obtain⟨v,h1,n1,L⟩:=o
  simp only at hr
  split at hr
  ·rename_i b hb
   subst hr
   refine(Lw oB cG o9 lB fuel f #[] h P.globals.size _ h1 n1 L m w #[] ho x.wr (an w.heap.size) .nil (fun b h1 _=>x.fresh b h1) x.gl).mono ?_
   rintro e w' ⟨m',v',rfl,hp,hv⟩
   refine⟨?_,hp.below⟩
   cases hv
   rfl
  ·cases hr
 ·cases hr
theorem agM {P:Program} (oB:vQ P=true) (cG:qW P KN=true) (o9:P.follows .mixedOrders=true) (lB:uL P KN) (hd:lW P=true) {w:World} {m:Mp} {h:H} {n:Nat} (x:Laid P w m h n) {gt:Nat->Hint} {lf d:Nat} {f:FuncId} {args eR:Array Value} (ha:bA m args.toList eR.toList)
 (r:ai (fun _=>False) n (au P gt lf d f args) h n fun v _ _=>v= .bool true):Calls P f eR w fun e w'=>e= .returned (.bool true)∧Below w.heap.size w w':=by
 obtain⟨v,h1,n1,L,e1,hn,_,rfl⟩:=r
 obtain⟨f0,DP⟩:=Hl hd d f args h n _ h1 n1 L e1
 refine(Lw oB cG o9 lB f0 f args h n _ h1 n1 L m w eR (DP f0 (an _)) x.wr (an _) ha (fun b hb _=>x.fresh b hb) x.gl).mono ?_
 rintro e w' ⟨m',v',rfl,hp,hv⟩
 refine⟨?_,hp.below⟩
 cases hv
 rfl
end Go.Proofs.YtmjolmggelkjlaaGreat.Ev
namespace Go.Proofs.YtmjolmggelkjlaaGreat.Ev
open Go
section
variable {β:Type} {W:Nat->Prop} {n0:Nat} {h:H} {n:Nat} {Q:β->H->Nat->Prop} {e:TypeId}
theorem M6{sz:Nat}(b off:Nat)(k:Value->M β){B:AB}(hg:h.get b=some B)(hb:b<n)(hl:off+sz<=B.cells.length)(x:ai W n0 (k (.agg ((B.cells.drop off).take sz).toArray)) h n Q):ai W n0 (bx sz (.pointer (some ⟨b,off,none⟩)) k) h n Q:=by
 obtain⟨L,e1,e2⟩:=rK hg hb sz off hl
 refine jx ?_
 have e:((jv b off sz).bind fun vs=>M.ret (mf ⟨vs⟩)) h n=some ⟨.agg ((B.cells.drop off).take sz).toArray,h,n,L++[]⟩:=by
  rw[pr]
  exact bZ e1 rfl
 obtain⟨L',e3,e4⟩:=Ho (W:=W) (n0:=n0) e (by simpa using e2)
 exact ai.step e3 (an _) e4 x
theorem M7:∀(vs:List Value) (b off:Nat) (e:TypeId) (cs:List Value) (h:H) (n:Nat),h.get b=some ⟨e,true,cs⟩->b<n->off+vs.length<=cs.length->vs.all one=true->
 ∃h' L,fN b off vs h n=some ⟨(),h',n,L⟩∧h'.get b=some ⟨e,true,cs.take off++vs++cs.drop (off+vs.length)⟩∧(∀c,c≠b->h'.get c=h.get c)∧∀x∈L,x.b=b
 |[],b,off,e,cs,h,n,hg,hb,hl,_=>⟨h,[],rfl,by simpa using hg,fun _ _=>rfl,by simp⟩
 |v::vs,b,off,e,cs,h,n,hg,hb,hl,h1=>by
  simp only[List.all_cons,cj]at h1
  simp only[dp]at hl
  have hw:wr b off v h n=some ⟨(),h.set b (some ⟨e,true,cs.set off v⟩),n,[⟨false,b,some off⟩,⟨true,b,some off⟩]⟩:=by
   unfold wr
   have:off<cs.length:=by omega
   simp[hb,hg,this,h1.1]
  obtain⟨h',L,e1,e2,e3,e4⟩:=M7 vs b (off+1) e (cs.set off v) (h.set b (some ⟨e,true,cs.set off v⟩)) n (get_eq _ _ _) hb (by simp;omega) h1.2
  refine⟨h',_,bZ hw e1, ?_,fun c hc=>(e3 c hc).trans (aD _ _ hc),fun x hx=> ?_⟩
  ·rw[e2]
   congr 2
   have ha:(cs.set off v).take (off+1)=cs.take off++[v]:=by
    rw[List.take_set,List.take_succ_eq_append_getElem (by omega),List.set_append_right _ _ (by simp;omega)]
    simp[Nat.min_eq_left (show off<=cs.length by omega)]
   have hd:(cs.set off v).drop (off+1+vs.length)=cs.drop (off+(v::vs).length):=by
    rw[List.drop_set_of_lt (by omega)]
    congr 1
    simp only[dp];omega
   rw[ha,hd]
   simp
  ·rcases Ko.1 hx with q|q
   ·simp at q;rcases q with rfl|rfl<;>rfl
   ·exact e4 x q
theorem qA {T:Prop} (_:T) {sz b off:Nat} {e:TypeId} {cs vs:List Value} {v:Value} (hv:v= .agg vs.toArray) (hl:vs.length=sz) (h1:vs.all one=true) (hg:h.get b=some ⟨e,true,cs⟩) (hb:b<n) (ho:off+sz<=cs.length) (hw:n0<=b∨W b) (k:Value->M β)
 (x:∀h',h'.get b=some ⟨e,true,cs.take off++vs++cs.drop (off+sz)⟩->(∀c,c≠b->h'.get c=h.get c)->ai W n0 (k undef) h' n Q):ai W n0 (aX sz (.pointer (some ⟨b,off,none⟩)) v k) h n Q:=by
 obtain⟨h',L,e1,e2,e3,e4⟩:=M7 vs b off e cs h n hg hb (by omega) h1
 subst hv
 have d:aX sz (.pointer (some ⟨b,off,none⟩)) (.agg vs.toArray) k=eW ((rB b off vs).bind fun _=> .ret undef) k:=by
  show(match cz (gO vs) sz with
   |true=>eW ((rB b off vs).bind fun _=> .ret undef) k
   |false=> .fail)=_
  rw[oD,hl,CT]
 rw[d]
 refine jx ?_
 have e5:((rB b off vs).bind fun _=>M.ret undef) h n=some ⟨undef,h',n,L++[]⟩:=by
  rw[Dy]
  exact bZ e1 rfl
 refine ai.step (jU e5) (an _) (fun y hy gJ=> ?_) (x h' (by rw[e2,hl]) e3)
 have:=(List.mem_filter.1 hy).1
 rw[cu]at this
 rw[e4 y this]
 exact hw
end
end Go.Proofs.YtmjolmggelkjlaaGreat.Ev
