import Derived.Test.YtcehhgppfahbkaaGreatDoorRows
import Derived.Test.YtcehhgppfahbkaaGreatDoorMal
import Derived.Test.YtcehhgppfahbkaaGreatDoorTie
import Derived.Test.YtcehhgppfahbkaaGreatDoorCards
import Derived.WalkKit
import Derived.ProofKit
import Derived.OpenShut
import Derived.ShutString
import Derived.ChangeOld
import Derived.Below
import Derived.LaidMore
import Derived.Stop.Joined
import Derived.SevenTiedAt
open Go.Proofs.Tryz renaming prog→aa, f6→HL, checked→adE, func6→arF, params6→arG
open Option.some renaming inj→r3
open Go.World renaming doorLaid→arD
open Go.OpenSpec renaming ofChange→arE
open Go.DataW renaming trod_lt→arH
open Go.RowKit.Below renaming trod→arI
open Go.ChangeSpec renaming witness_shaped→ar5
open Go.Value renaming int→ar6, slice→ar8
open Go.IntKind renaming i64→ar7
open Go.OpenClaim renaming holds_of_wide→ar9
set_option linter.unusedVariables false
namespace Go.Proofs.YtcehhgppfahbkaaGreatDoor.streamActs
open Go.ChangeShapes Go.WideShapes Go.ChangeAt Go.RowKit
open Go.ChangeMaps (open_string shut_string)
theorem own:ownKnob Tryz.prog.godebug=none:=by kernel_rfl
theorem laidOut:laidOutB aa=true:=by kernel_rfl
theorem walk(args:List Value)(w:World)(ha:Ev.ez (Ev.sY aa w) [3,47] args)(hG:Ev.qO w):
 Calls aa 6 args.toArray w fun e w'=>e= .returned (.bool true)∧Below w.heap.size w w':=by
 exact apD hG ha
abbrev Hl{H:Type}:List (String×DataW H):=[("baler/tables.bounds",Rows.laid_baler_tables_bounds)]
theorem apE(os:Os)(args:Array Value):laidMetH aa Hl ((arD aa 400 os).forCall (fun _ _=>0) ⟨#[],args,[]⟩).memory:=
 laidMetH_of_parts3 (fuel:=8) (laidMet_of_run' 8 (by kernel_rfl) (by kernel_rfl)) (by kernel_rfl) (by kernel_rfl)
set_option maxRecDepth 100000 in
theorem lifted(os:Os)(started:os.Started)(H:Type)(enc:TypeId×Value->H):
 ReturnsInHanded {} adE os 6 .any (fun w args=>(Rows.streamActsSpec.pre enc aa HL [] false w args∧laidMetH aa Hl w)∧sizedMet enc aa HL (arE Rows.streamActsSpec) false w args) (Rows.streamActsSpec.post enc aa HL false true false false):=by
 refine returnsInHanded_of_change_and (C:=adE) (X:=fun w _=>laidMetH aa Hl w) (fun _ _ _ hh h=>h.of_heap hh) own started (by kernel_rfl) arF
  (ar5 (enc:=enc) (C:=adE) (os:=os) (X:=fun w _=>laidMetH aa Hl w) false (arD aa 400 os) #[(ar6 ar7 0),(ar8 none 0 0)] 8 rfl (World.shaped_of_RefB (by kernel_rfl) (by kernel_rfl)) (by kernel_rfl) (by kernel_rfl) (by kernel_rfl) (apE os _)) ?_
 intro W base args ds gs before ac6 hW _ _ hL _;have N9:∀(j:Nat) t v,Tryz.f6.params[j]? =some t->args[j]? =some v->Value.okWide aa W .any base t v:=ac6;have hW':=hW;obtain⟨p,q,BD,hV,rfl,hfz,hnd⟩:=hW;have hA:DataW.TrodAll enc aa W 0 (fun _=>true) true Tryz.f6.params.toList args.toList ds p:=BD;rw[arG]at hA N9;obtain⟨v0,vs0,d0,ds0,p0,q0,arP,rfl,rfl,h0,r0⟩:=trodAll_cons hA;obtain⟨v1,vs1,d1,ds1,p1,q1,rfl,rfl,rfl,h1,r1⟩:=trodAll_cons r0;obtain⟨rfl,rfl,rfl⟩:=trodAll_nil r1;obtain rfl:args=#[v0,v1]:=by cases args;simp_all
 obtain⟨rfl,rfl⟩:=trodVars_none hV;have k0:=h0;have lt0:∀x∈p0,x.block<W.heap.size:=by obtain⟨m,hm⟩:=k0;exact arH m _ _ _ hm
 have k1:=h1;have lt1:∀x∈p1,x.block<W.heap.size:=by obtain⟨m,hm⟩:=k1;exact arH m _ _ _ hm
 have g0:Ev.sY aa W 3 v0:=Ev.Rv (by kernel_rfl) (N9 0 3 v0 rfl rfl) h0;have g1:Ev.sY aa W 47 v1:=Ev.Rv (by kernel_rfl) (N9 1 47 v1 rfl rfl) h1;have apF:Ev.qO W:=alx hL;clear BD ac6;refine(walk [v0,v1] W ⟨g0,g1,trivial⟩ apF).mono fun e W' ⟨he,N'⟩=> ?_;subst he;exact⟨_,rfl,_,_,_,[],_,[],hW',trodAll_mk1 (shut_bool Tryz.underlying4 _),(trodAll_cons_mk (arI laidOut (by kernel_rfl) (of_decide_eq_true (by kernel_rfl)) k0 N' lt0) (trodAll_cons_mk (arI laidOut (by kernel_rfl) (of_decide_eq_true (by kernel_rfl)) k1 N' lt1) trodAll_mk0)),rfl,N'.frame _,fun h=>by cases h⟩
theorem over:Rows.streamActsRow.holds Tryz.pinned (arE Rows.streamActsSpec):=
 ar9 6 HL rfl rfl rfl rfl rfl rfl rfl ⟨rfl,rfl,rfl,rfl,rfl⟩ rfl rfl rfl rfl rfl (by kernel_rfl) arF (by kernel_rfl)
  (of_decide_eq_true (by kernel_rfl)) (by unfold Func.isWrapper;first|(rw[if_pos (by decide+kernel)];kernel_rfl)|(rw[if_neg (by decide+kernel)];exact⟨rfl,rfl⟩))
  (fun os started H enc _=>lifted os started H enc)
theorem apG:Rows.StreamActsCardSaid:=
 Claim7.holds_tied_plain_at .later [] [.data] true (true, "3cb7499ffe7c41f86fa8bbd226a486ebbd10126e69763f8bd7fe51c10e3ad4c1") false
  over (fun _ h=>by cases h) (by kernel_rfl) (fun _ h=>by cases h) streamActs_row_tie rfl ⟨rfl,rfl⟩ (by kernel_rfl) rfl
  (fun f fn hf hfn=>by
    obtain rfl:f=6:=r3 ((show Tryz.prog.funcNamed "baler/balerlaw21.StreamActs" =some 6 by kernel_rfl).symm.trans hf)|>.symm;obtain rfl:fn=HL:=(r3 (Tryz.func6.symm.trans hfn)).symm
    exact⟨by kernel_rfl,fun j t ht=>by
     rw[arG]at ht;have hm:t∈[3,47]:=by simpa using Array.mem_of_getElem? ht
     have apH:([3,47].all fun u=> !Tryz.prog.wantsStandIn u)=true:=by kernel_rfl
     exact(show Tryz.prog.wantsStandIn t=false by simpa using List.all_eq_true.1 apH t hm)⟩)
  (by kernel_rfl)
theorem proved:Rows.StreamActsCardSaid:=apG
end Go.Proofs.YtcehhgppfahbkaaGreatDoor.streamActs
