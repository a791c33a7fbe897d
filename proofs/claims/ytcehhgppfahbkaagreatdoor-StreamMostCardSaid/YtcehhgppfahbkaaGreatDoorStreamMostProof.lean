import Derived.Test.YtcehhgppfahbkaaGreatDoorRows
import Derived.Test.YtcehhgppfahbkaaGreatDoorMaj
import Derived.Test.YtcehhgppfahbkaaGreatDoorTie
import Derived.Test.YtcehhgppfahbkaaGreatDoorCards
import Derived.WalkKit
import Derived.ProofKit
import Derived.OpenShut
import Derived.ShutString
import Derived.ChangeOld
import Derived.Below
import Derived.LaidMore
import Derived.Stop.Joined
import Derived.SevenTiedAt
open Go.Proofs.Tryz renaming prog→ad, f7→Di, checked→V2, func7→aie, params7→aif
open Option.some renaming inj→rm
open Go.World renaming doorLaid→aic
open Go.OpenSpec renaming ofChange→aid
open Go.DataW renaming trod_lt→aih
open Go.RowKit.Below renaming trod→aii
open Go.ChangeSpec renaming witness_shaped→aiF
open Go.Value renaming int→aiG, string→aiI
open Go.IntKind renaming i64→aiH
open Go.OpenClaim renaming holds_of_wide→aiJ
set_option linter.unusedVariables false
namespace Go.Proofs.YtcehhgppfahbkaaGreatDoor.streamMost
open Go.ChangeShapes Go.WideShapes Go.ChangeAt Go.RowKit
open Go.ChangeMaps (open_string shut_string)
theorem own:ownKnob Tryz.prog.godebug=none:=by kernel_rfl
theorem laidOut:laidOutB ad=true:=by kernel_rfl
theorem walk(args:List Value)(w:World)(ha:Ev.dz (Ev.qH ad w) [3,9] args)(hG:Ev.oO w):
 Calls ad 7 args.toArray w fun e w'=>e= .returned (.bool true)∧Below w.heap.size w w':=by
 exact af' hG ha
abbrev CR{H:Type}:List (String×DataW H):=[("baler/tables.bounds",Rows.laid_baler_tables_bounds)]
theorem af_(os:Os)(args:Array Value):laidMetH ad CR ((aic ad 400 os).forCall (fun _ _=>0) ⟨#[],args,[]⟩).memory:=
 laidMetH_of_parts3 (fuel:=8) (laidMet_of_run' 8 (by kernel_rfl) (by kernel_rfl)) (by kernel_rfl) (by kernel_rfl)
set_option maxRecDepth 100000 in
theorem lifted(os:Os)(started:os.Started)(H:Type)(enc:TypeId×Value->H):
 ReturnsInHanded {} V2 os 7 .any (fun w args=>(Rows.streamMostSpec.pre enc ad Di [] false w args∧laidMetH ad CR w)∧sizedMet enc ad Di (aid Rows.streamMostSpec) false w args) (Rows.streamMostSpec.post enc ad Di false true false false):=by
 refine returnsInHanded_of_change_and (C:=V2) (X:=fun w _=>laidMetH ad CR w) (fun _ _ _ hh h=>h.of_heap hh) own started (by kernel_rfl) aie
  (aiF (enc:=enc) (C:=V2) (os:=os) (X:=fun w _=>laidMetH ad CR w) false (aic ad 400 os) #[(aiG aiH 0),(aiI {data:=#[]})] 8 rfl (World.shaped_of_RefB (by kernel_rfl) (by kernel_rfl)) (by kernel_rfl) (by kernel_rfl) (by kernel_rfl) (af_ os _)) ?_
 intro W base args ds gs before Vj hW _ _ hL _;have Ih:∀(j:Nat) t v,Tryz.f7.params[j]? =some t->args[j]? =some v->Value.okWide ad W .any base t v:=Vj;have hW':=hW;obtain⟨p,q,Vk,hV,rfl,hfz,hnd⟩:=hW;have hA:DataW.TrodAll enc ad W 0 (fun _=>true) true Tryz.f7.params.toList args.toList ds p:=Vk;rw[aif]at hA Ih;obtain⟨v0,vs0,d0,ds0,p0,q0,aiq,rfl,rfl,h0,r0⟩:=trodAll_cons hA;obtain⟨v1,vs1,d1,ds1,p1,q1,rfl,rfl,rfl,h1,r1⟩:=trodAll_cons r0;obtain⟨rfl,rfl,rfl⟩:=trodAll_nil r1;obtain rfl:args=#[v0,v1]:=by cases args;simp_all
 obtain⟨rfl,rfl⟩:=trodVars_none hV;have k0:=h0;have lt0:∀x∈p0,x.block<W.heap.size:=by obtain⟨m,hm⟩:=k0;exact aih m _ _ _ hm
 have k1:=h1;have lt1:∀x∈p1,x.block<W.heap.size:=by obtain⟨m,hm⟩:=k1;exact aih m _ _ _ hm
 have g0:Ev.qH ad W 3 v0:=Ev.LJ (by kernel_rfl) (Ih 0 3 v0 rfl rfl) h0;have g1:Ev.qH ad W 9 v1:=Ev.LJ (by kernel_rfl) (Ih 1 9 v1 rfl rfl) h1;have aga:Ev.oO W:=adZ hL;clear Vk Vj;refine(walk [v0,v1] W ⟨g0,g1,trivial⟩ aga).mono fun e W' ⟨he,Ii⟩=> ?_;subst he;exact⟨_,rfl,_,_,_,[],_,[],hW',trodAll_mk1 (shut_bool Tryz.underlying4 _),(trodAll_cons_mk (aii laidOut (by kernel_rfl) (of_decide_eq_true (by kernel_rfl)) k0 Ii lt0) (trodAll_cons_mk (aii laidOut (by kernel_rfl) (of_decide_eq_true (by kernel_rfl)) k1 Ii lt1) trodAll_mk0)),rfl,Ii.frame _,fun h=>by cases h⟩
theorem over:Rows.streamMostRow.holds Tryz.pinned (aid Rows.streamMostSpec):=
 aiJ 7 Di rfl rfl rfl rfl rfl rfl rfl ⟨rfl,rfl,rfl,rfl,rfl⟩ rfl rfl rfl rfl rfl (by kernel_rfl) aie (by kernel_rfl)
  (of_decide_eq_true (by kernel_rfl)) (by unfold Func.isWrapper;first|(rw[if_pos (by decide+kernel)];kernel_rfl)|(rw[if_neg (by decide+kernel)];exact⟨rfl,rfl⟩))
  (fun os started H enc _=>lifted os started H enc)
theorem agb:Rows.StreamMostCardSaid:=
 Claim7.holds_tied_plain_at .later [] [.data] true (true, "3cb7499ffe7c41f86fa8bbd226a486ebbd10126e69763f8bd7fe51c10e3ad4c1") false
  over (fun _ h=>by cases h) (by kernel_rfl) (fun _ h=>by cases h) streamMost_row_tie rfl ⟨rfl,rfl⟩ (by kernel_rfl) rfl
  (fun f fn hf hfn=>by
    obtain rfl:f=7:=rm ((show Tryz.prog.funcNamed "baler/balerlaw21.StreamMost" =some 7 by kernel_rfl).symm.trans hf)|>.symm;obtain rfl:fn=Di:=(rm (Tryz.func7.symm.trans hfn)).symm
    exact⟨by kernel_rfl,fun j t ht=>by
     rw[aif]at ht;have hm:t∈[3,9]:=by simpa using Array.mem_of_getElem? ht
     have agc:([3,9].all fun u=> !Tryz.prog.wantsStandIn u)=true:=by kernel_rfl
     exact(show Tryz.prog.wantsStandIn t=false by simpa using List.all_eq_true.1 agc t hm)⟩)
  (by kernel_rfl)
theorem proved:Rows.StreamMostCardSaid:=agb
end Go.Proofs.YtcehhgppfahbkaaGreatDoor.streamMost
