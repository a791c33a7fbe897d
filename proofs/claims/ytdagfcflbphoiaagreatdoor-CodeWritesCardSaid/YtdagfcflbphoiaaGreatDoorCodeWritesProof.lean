import Derived.Test.YtdagfcflbphoiaaGreatDoorRows
import Derived.Test.YtdagfcflbphoiaaGreatDoorMaj
import Derived.Test.YtdagfcflbphoiaaGreatDoorTie
import Derived.Test.YtdagfcflbphoiaaGreatDoorCards
import Derived.WalkKit
import Derived.ProofKit
import Derived.OpenShut
import Derived.ShutString
import Derived.ChangeOld
import Derived.Below
import Derived.LaidMore
import Derived.Stop.Joined
import Derived.SevenTiedAt
open Go.Proofs.Tryz renaming prog→ai, f3→HA, checked→abf, func3→am5, params3→am7
open Option.some renaming inj→xK
open Go.Value renaming int→abg, slice→anW, agg→anY
open Go.DataW renaming trod_lt→abh
open Go.RowKit.Below renaming trod→abi
open Go.World renaming doorLaid→am3
open Go.OpenSpec renaming ofChange→am4
open Go.IntKind renaming u32→am6, i64→anX
open Go.ChangeSpec renaming witness_shaped→anV
open Go.OpenClaim renaming holds_of_wide→anZ
set_option linter.unusedVariables false
namespace Go.Proofs.YtdagfcflbphoiaaGreatDoor.codeWrites
open Go.ChangeShapes Go.WideShapes Go.ChangeAt Go.RowKit
open Go.ChangeMaps (open_string shut_string)
theorem own:ownKnob Tryz.prog.godebug=none:=by kernel_rfl
theorem laidOut:laidOutB ai=true:=by kernel_rfl
theorem walk(args:List Value)(w:World)(ha:Ev.dT (Ev.rG ai w) [22,3,24] args)(hG:Ev.rf w):
 Calls ai 3 args.toArray w fun e w'=>e= .returned (.bool true)∧Below w.heap.size w w':=by
 exact alF hG ha
abbrev Hg{H:Type}:List (String×DataW H):=[("baler/tables.bounds",Rows.laid_baler_tables_bounds)]
theorem alG(os:Os)(args:Array Value):laidMetH ai Hg ((am3 ai 400 os).forCall (fun _ _=>0) ⟨#[],args,[]⟩).memory:=
 laidMetH_of_parts3 (fuel:=8) (laidMet_of_run' 8 (by kernel_rfl) (by kernel_rfl)) (by kernel_rfl) (by kernel_rfl)
set_option maxRecDepth 100000 in
theorem lifted(os:Os)(started:os.Started)(H:Type)(enc:TypeId×Value->H):
 ReturnsInHanded {} abf os 3 .any (fun w args=>(Rows.codeWritesSpec.pre enc ai HA [] false w args∧laidMetH ai Hg w)∧sizedMet enc ai HA (am4 Rows.codeWritesSpec) false w args) (Rows.codeWritesSpec.post enc ai HA false true false false):=by
 refine returnsInHanded_of_change_and (C:=abf) (X:=fun w _=>laidMetH ai Hg w) (fun _ _ _ hh h=>h.of_heap hh) own started (by kernel_rfl) am5
  (anV (enc:=enc) (C:=abf) (os:=os) (X:=fun w _=>laidMetH ai Hg w) false (am3 ai 400 os) #[(anW none 0 0),(abg anX 0),(anY #[(abg am6 0),(abg am6 0)])] 8 rfl (World.shaped_of_RefB (by kernel_rfl) (by kernel_rfl)) (by kernel_rfl) (by kernel_rfl) (by kernel_rfl) (alG os _)) ?_
 intro W base args ds gs before aaH hW _ _ hL _
 have ye:∀(j:Nat) t v,Tryz.f3.params[j]? =some t->args[j]? =some v->Value.okWide ai W .any base t v:=aaH
 have hW':=hW
 obtain⟨p,q,F3,hV,rfl,ZV,kg⟩:=hW
 have hA:DataW.TrodAll enc ai W 0 (fun _=>true) true Tryz.f3.params.toList args.toList ds p:=F3
 rw[am7]at hA ye
 obtain⟨v0,fm,d0,ds0,p0,q0,ek,rfl,rfl,h0,r0⟩:=trodAll_cons hA
 obtain⟨v1,vs1,d1,ds1,p1,q1,rfl,rfl,rfl,h1,r1⟩:=trodAll_cons r0
 obtain⟨v2,vs2,d2,ds2,p2,q2,rfl,rfl,rfl,h2,r2⟩:=trodAll_cons r1
 obtain⟨rfl,rfl,rfl⟩:=trodAll_nil r2
 obtain rfl:args=#[v0,v1,v2]:=by cases args;simp_all
 obtain⟨rfl,rfl⟩:=trodVars_none hV
 have k0:=h0
 have lt0:∀x∈p0,x.block<W.heap.size:=by obtain⟨m,hm⟩:=k0;exact abh m _ _ _ hm
 have k1:=h1
 have gJ:∀x∈p1,x.block<W.heap.size:=by obtain⟨m,hm⟩:=k1;exact abh m _ _ _ hm
 have k2:=h2
 have pD:∀x∈p2,x.block<W.heap.size:=by obtain⟨m,hm⟩:=k2;exact abh m _ _ _ hm
 have g0:Ev.rG ai W 22 v0:=Ev.J0 (by kernel_rfl) (ye 0 22 v0 rfl rfl) h0
 have g1:Ev.rG ai W 3 v1:=Ev.J0 (by kernel_rfl) (ye 1 3 v1 rfl rfl) h1
 have g2:Ev.rG ai W 24 v2:=Ev.J0 (by kernel_rfl) (ye 2 24 v2 rfl rfl) h2
 have alH:Ev.rf W:=aja hL
 clear F3 aaH
 refine(walk [v0,v1,v2] W ⟨g0,g1,g2,trivial⟩ alH).mono fun e W' ⟨he,me⟩=> ?_
 subst he
 exact⟨_,rfl,_,_,_,[],_,[],hW',trodAll_mk1 (shut_bool Tryz.underlying4 _),(trodAll_cons_mk (abi laidOut (by kernel_rfl) (of_decide_eq_true (by kernel_rfl)) k0 me lt0) (trodAll_cons_mk (abi laidOut (by kernel_rfl) (of_decide_eq_true (by kernel_rfl)) k1 me gJ) (trodAll_cons_mk (abi laidOut (by kernel_rfl) (of_decide_eq_true (by kernel_rfl)) k2 me pD) trodAll_mk0))),rfl,me.frame _,fun h=>by cases h⟩
theorem over:Rows.codeWritesRow.holds Tryz.pinned (am4 Rows.codeWritesSpec):=
 anZ 3 HA rfl rfl rfl rfl rfl rfl rfl ⟨rfl,rfl,rfl,rfl,rfl⟩ rfl rfl rfl rfl rfl (by kernel_rfl) am5 (by kernel_rfl)
  (of_decide_eq_true (by kernel_rfl)) (by unfold Func.isWrapper;first|(rw[if_pos (by decide+kernel)];kernel_rfl)|(rw[if_neg (by decide+kernel)];exact⟨rfl,rfl⟩))
  (fun os started H enc _=>lifted os started H enc)
theorem alI:Rows.CodeWritesCardSaid:=
 Claim7.holds_tied_plain_at .later [] [.data] true (true, "733aaa4ae92db53f796a90f83edbfdfbb97c966efa33d32ada7c628d3255d8ff") false
  over (fun _ h=>by cases h) (by kernel_rfl) (fun _ h=>by cases h) codeWrites_row_tie rfl ⟨rfl,rfl⟩ (by kernel_rfl) rfl
  (fun f fn hf kN=>by
    obtain rfl:f=3:=xK ((show Tryz.prog.funcNamed "baler/balerlaw14.CodeWrites" =some 3 by kernel_rfl).symm.trans hf)|>.symm
    obtain rfl:fn=HA:=(xK (Tryz.func3.symm.trans kN)).symm
    exact⟨by kernel_rfl,fun j t ht=>by
     rw[am7]at ht
     have hm:t∈[22,3,24]:=by simpa using Array.mem_of_getElem? ht
     have gR:([22,3,24].all fun u=> !Tryz.prog.wantsStandIn u)=true:=by kernel_rfl
     exact(show Tryz.prog.wantsStandIn t=false by simpa using List.all_eq_true.1 gR t hm)⟩)
  (by kernel_rfl)
theorem proved:Rows.CodeWritesCardSaid:=alI
end Go.Proofs.YtdagfcflbphoiaaGreatDoor.codeWrites
