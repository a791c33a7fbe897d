import Derived.Test.YtmjolmggelkjlaaGreatRows
import Derived.Test.YtmjolmggelkjlaaGreatMak
import Derived.WalkKit
import Derived.ProofKit
import Derived.OpenShut
import Derived.ShutString
import Derived.ChangeOld
import Derived.Below
open Go.Proofs.Tryz renaming prog→ah, checked→adH, f3→adI, func3→asA
open Go.DataW renaming trod_lt→asB
open Go.RowKit.Below renaming trod→asC
open Go.ChangeSpec renaming witness6→as9
open Go.Value renaming int→as', string→ata
open Go.IntKind renaming i64→as_
open Go.OpenSpec renaming ofChange→atb
open Go.OpenClaim renaming holds_of_wide→atc
set_option linter.unusedVariables false
namespace Go.Proofs.YtmjolmggelkjlaaGreat.inspectParts
open Go.ChangeShapes Go.WideShapes Go.ChangeAt Go.RowKit
open Go.ChangeMaps (open_string shut_string)
theorem own:ownKnob Tryz.prog.godebug=none:=by kernel_rfl
theorem laidOut:laidOutB ah=true:=by kernel_rfl
theorem walk(args:List Value)(w:World)(ha:Ev.fD (Ev.wJ ah w) [3,9] args):
 Calls ah 3 args.toArray w fun e w'=>e= .returned (.bool true)∧Below w.heap.size w w':=by
 exact aqI ha
set_option maxRecDepth 100000 in
theorem lifted(os:Os)(started:os.Started)(H:Type)(enc:TypeId×Value->H):
 ReturnsInHanded {} adH os 3 .any (Rows.inspectPartsSpec.pre6 enc ah adI Rows.inspectPartsRow.domain false) (Rows.inspectPartsSpec.post enc ah adI false true false false):=by
 refine returnsInHanded_of_change (C:=adH) own started (by kernel_rfl) asA
  (as9 (enc:=enc) (C:=adH) false ⟨#[],#[(as' as_ 0),(ata {data:=#[]})],[]⟩ 8 (by kernel_rfl) (by kernel_rfl) (by kernel_rfl) (by kernel_rfl)) ?_
 intro W base args ds gs before acY hW asU _
 have Dm:∀(j:Nat) t v,Tryz.f3.params[j]? =some t->args[j]? =some v->Value.okWide ah W .any base t v:=acY
 have hW':=hW
 obtain⟨p,q,hA0,hV,rfl,hfz,F9⟩:=hW
 have hA:DataW.TrodAll enc ah W 0 (fun _=>true) true Tryz.f3.params.toList args.toList ds p:=hA0
 rw[Tryz.params3]at hA Dm
 obtain⟨v0,gY,d0,ds0,p0,q0,dM,rfl,rfl,h0,r0⟩:=trodAll_cons hA
 obtain⟨v1,vs1,d1,ds1,p1,q1,rfl,rfl,rfl,h1,r1⟩:=trodAll_cons r0
 obtain⟨rfl,rfl,rfl⟩:=trodAll_nil r1
 obtain rfl:args=#[v0,v1]:=by cases args;simp_all
 obtain⟨rfl,rfl⟩:=trodVars_none hV
 have k0:=h0
 have lt0:∀x∈p0,x.block<W.heap.size:=by obtain⟨m,hm⟩:=k0;exact asB m _ _ _ hm
 have k1:=h1
 have pJ:∀x∈p1,x.block<W.heap.size:=by obtain⟨m,hm⟩:=k1;exact asB m _ _ _ hm
 have g0:Ev.wJ ah W 3 v0:=Ev.U8 (by kernel_rfl) (Dm 0 3 v0 rfl rfl) h0
 have g1:Ev.wJ ah W 9 v1:=Ev.U8 (by kernel_rfl) (Dm 1 9 v1 rfl rfl) h1
 clear hA0 acY
 refine(walk [v0,v1] W ⟨g0,g1,trivial⟩).mono fun e W' ⟨he,lA⟩=> ?_
 subst he
 exact⟨_,rfl,_,_,_,[],_,[],hW',trodAll_mk1 (shut_bool Tryz.underlying4 _),(trodAll_cons_mk (asC laidOut (by kernel_rfl) (of_decide_eq_true (by kernel_rfl)) k0 lA lt0) (trodAll_cons_mk (asC laidOut (by kernel_rfl) (of_decide_eq_true (by kernel_rfl)) k1 lA pJ) trodAll_mk0)),rfl,lA.frame _,fun h=>by cases h⟩
theorem over:Rows.inspectPartsRow.holds Tryz.pinned (atb Rows.inspectPartsSpec):=
 atc 3 adI rfl rfl rfl rfl rfl rfl rfl ⟨rfl,rfl,rfl,rfl,rfl⟩ rfl rfl rfl rfl rfl (by kernel_rfl) asA (by kernel_rfl)
  (of_decide_eq_true (by kernel_rfl)) (by unfold Func.isWrapper;first|(rw[if_pos (by decide+kernel)];kernel_rfl)|(rw[if_neg (by decide+kernel)];exact⟨rfl,rfl⟩))
  (fun os started H enc _=>lifted os started H enc)
theorem proved:Rows.InspectPartsSaid:=over
end Go.Proofs.YtmjolmggelkjlaaGreat.inspectParts
