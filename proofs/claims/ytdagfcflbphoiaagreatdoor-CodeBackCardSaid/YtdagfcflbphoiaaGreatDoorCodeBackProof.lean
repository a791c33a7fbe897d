import Derived.Test.YtdagfcflbphoiaaGreatDoorRows
import Derived.Test.YtdagfcflbphoiaaGreatDoorMai
import Derived.Test.YtdagfcflbphoiaaGreatDoorTie
import Derived.Test.YtdagfcflbphoiaaGreatDoorCards
import Derived.WalkKit
import Derived.ProofKit
import Derived.OpenShut
import Derived.ShutString
import Derived.ChangeOld
import Derived.Below
import Derived.LaidMore
import Derived.Stop.Joined
import Derived.SevenTiedAt
open Go.Proofs.Tryz renaming prog→ai, f5→Fe, checked→Xk, func5→ais, params5→ait
open Option.some renaming inj→vI
open Go.DataW renaming trod_lt→Xl
open Go.RowKit.Below renaming trod→Xm
open Go.World renaming doorLaid→aiq
open Go.OpenSpec renaming ofChange→air
open Go.ChangeSpec renaming witness_shaped→ajf
open Go.Value renaming slice→ajg, int→ajh, string→ajj
open Go.IntKind renaming i64→aji
open Go.OpenClaim renaming holds_of_wide→ajk
set_option linter.unusedVariables false
namespace Go.Proofs.YtdagfcflbphoiaaGreatDoor.codeBack
open Go.ChangeShapes Go.WideShapes Go.ChangeAt Go.RowKit
open Go.ChangeMaps (open_string shut_string)
theorem own:ownKnob Tryz.prog.godebug=none:=by kernel_rfl
theorem laidOut:laidOutB ai=true:=by kernel_rfl
theorem walk(args:List Value)(w:World)(ha:Ev.ef (Ev.qR ai w) [22,3,9] args)(hG:Ev.qA w):
 Calls ai 5 args.toArray w fun e w'=>e= .returned (.bool true)∧Below w.heap.size w w':=by
 exact agX hG ha
abbrev EW{H:Type}:List (String×DataW H):=[("baler/tables.bounds",Rows.laid_baler_tables_bounds)]
theorem agY(os:Os)(args:Array Value):laidMetH ai EW ((aiq ai 400 os).forCall (fun _ _=>0) ⟨#[],args,[]⟩).memory:=
 laidMetH_of_parts3 (fuel:=8) (laidMet_of_run' 8 (by kernel_rfl) (by kernel_rfl)) (by kernel_rfl) (by kernel_rfl)
set_option maxRecDepth 100000 in
theorem lifted(os:Os)(started:os.Started)(H:Type)(enc:TypeId×Value->H):
 ReturnsInHanded {} Xk os 5 .any (fun w args=>(Rows.codeBackSpec.pre enc ai Fe [] false w args∧laidMetH ai EW w)∧sizedMet enc ai Fe (air Rows.codeBackSpec) false w args) (Rows.codeBackSpec.post enc ai Fe false true false false):=by
 refine returnsInHanded_of_change_and (C:=Xk) (X:=fun w _=>laidMetH ai EW w) (fun _ _ _ hh h=>h.of_heap hh) own started (by kernel_rfl) ais
  (ajf (enc:=enc) (C:=Xk) (os:=os) (X:=fun w _=>laidMetH ai EW w) false (aiq ai 400 os) #[(ajg none 0 0),(ajh aji 0),(ajj {data:=#[]})] 8 rfl (World.shaped_of_RefB (by kernel_rfl) (by kernel_rfl)) (by kernel_rfl) (by kernel_rfl) (by kernel_rfl) (agY os _)) ?_
 intro W base args ds gs before WI hW _ _ hL _
 have wg:∀(j:Nat) t v,Tryz.f5.params[j]? =some t->args[j]? =some v->Value.okWide ai W .any base t v:=WI
 have hW':=hW
 obtain⟨p,q,DS,hV,rfl,VH,pj⟩:=hW
 have hA:DataW.TrodAll enc ai W 0 (fun _=>true) true Tryz.f5.params.toList args.toList ds p:=DS
 rw[ait]at hA wg
 obtain⟨v0,fj,d0,ds0,p0,q0,ed,rfl,rfl,h0,r0⟩:=trodAll_cons hA
 obtain⟨v1,vs1,d1,ds1,p1,q1,rfl,rfl,rfl,h1,r1⟩:=trodAll_cons r0
 obtain⟨v2,vs2,d2,ds2,p2,q2,rfl,rfl,rfl,h2,r2⟩:=trodAll_cons r1
 obtain⟨rfl,rfl,rfl⟩:=trodAll_nil r2
 obtain rfl:args=#[v0,v1,v2]:=by cases args;simp_all
 obtain⟨rfl,rfl⟩:=trodVars_none hV
 have k0:=h0
 have lt0:∀x∈p0,x.block<W.heap.size:=by obtain⟨m,hm⟩:=k0;exact Xl m _ _ _ hm
 have k1:=h1
 have pV:∀x∈p1,x.block<W.heap.size:=by obtain⟨m,hm⟩:=k1;exact Xl m _ _ _ hm
 have k2:=h2
 have xF:∀x∈p2,x.block<W.heap.size:=by obtain⟨m,hm⟩:=k2;exact Xl m _ _ _ hm
 have g0:Ev.qR ai W 22 v0:=Ev.Hy (by kernel_rfl) (wg 0 22 v0 rfl rfl) h0
 have g1:Ev.qR ai W 3 v1:=Ev.Hy (by kernel_rfl) (wg 1 3 v1 rfl rfl) h1
 have g2:Ev.qR ai W 9 v2:=Ev.Hy (by kernel_rfl) (wg 2 9 v2 rfl rfl) h2
 have agZ:Ev.qA W:=afe hL
 clear DS WI
 refine(walk [v0,v1,v2] W ⟨g0,g1,g2,trivial⟩ agZ).mono fun e W' ⟨he,lP⟩=> ?_
 subst he
 exact⟨_,rfl,_,_,_,[],_,[],hW',trodAll_mk1 (shut_bool Tryz.underlying4 _),(trodAll_cons_mk (Xm laidOut (by kernel_rfl) (of_decide_eq_true (by kernel_rfl)) k0 lP lt0) (trodAll_cons_mk (Xm laidOut (by kernel_rfl) (of_decide_eq_true (by kernel_rfl)) k1 lP pV) (trodAll_cons_mk (Xm laidOut (by kernel_rfl) (of_decide_eq_true (by kernel_rfl)) k2 lP xF) trodAll_mk0))),rfl,lP.frame _,fun h=>by cases h⟩
theorem over:Rows.codeBackRow.holds Tryz.pinned (air Rows.codeBackSpec):=
 ajk 5 Fe rfl rfl rfl rfl rfl rfl rfl ⟨rfl,rfl,rfl,rfl,rfl⟩ rfl rfl rfl rfl rfl (by kernel_rfl) ais (by kernel_rfl)
  (of_decide_eq_true (by kernel_rfl)) (by unfold Func.isWrapper;first|(rw[if_pos (by decide+kernel)];kernel_rfl)|(rw[if_neg (by decide+kernel)];exact⟨rfl,rfl⟩))
  (fun os started H enc _=>lifted os started H enc)
theorem ag0:Rows.CodeBackCardSaid:=
 Claim7.holds_tied_plain_at .later [] [.data] true (true, "733aaa4ae92db53f796a90f83edbfdfbb97c966efa33d32ada7c628d3255d8ff") false
  over (fun _ h=>by cases h) (by kernel_rfl) (fun _ h=>by cases h) codeBack_row_tie rfl ⟨rfl,rfl⟩ (by kernel_rfl) rfl
  (fun f fn hf j9=>by
    obtain rfl:f=5:=vI ((show Tryz.prog.funcNamed "baler/balerlaw14.CodeBack" =some 5 by kernel_rfl).symm.trans hf)|>.symm
    obtain rfl:fn=Fe:=(vI (Tryz.func5.symm.trans j9)).symm
    exact⟨by kernel_rfl,fun j t ht=>by
     rw[ait]at ht
     have hm:t∈[22,3,9]:=by simpa using Array.mem_of_getElem? ht
     have gM:([22,3,9].all fun u=> !Tryz.prog.wantsStandIn u)=true:=by kernel_rfl
     exact(show Tryz.prog.wantsStandIn t=false by simpa using List.all_eq_true.1 gM t hm)⟩)
  (by kernel_rfl)
theorem proved:Rows.CodeBackCardSaid:=ag0
end Go.Proofs.YtdagfcflbphoiaaGreatDoor.codeBack
