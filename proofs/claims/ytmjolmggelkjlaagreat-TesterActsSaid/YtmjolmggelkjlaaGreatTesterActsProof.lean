import Derived.Test.YtmjolmggelkjlaaGreatRows
import Derived.Test.YtmjolmggelkjlaaGreatMal
import Derived.WalkKit
import Derived.ProofKit
import Derived.OpenShut
import Derived.ShutString
import Derived.ChangeOld
import Derived.Below
open Go.Proofs.Tryz renaming prog→aa, f11→MV, checked→abp, func11→ao5
open Go.DataW renaming trod_lt→abq
open Go.RowKit.Below renaming trod→abr
open Go.Value renaming int→ao6, agg→apo, string→apq, slice→apr
open Go.IntKind renaming i64→ao7
open Go.ChangeSpec renaming witness6→apn
open Go.OpenSpec renaming ofChange→aps
open Go.OpenClaim renaming holds_of_wide→apt
set_option linter.unusedVariables false
namespace Go.Proofs.YtmjolmggelkjlaaGreat.testerActs
open Go.ChangeShapes Go.WideShapes Go.ChangeAt Go.RowKit
open Go.ChangeMaps (open_string shut_string)
theorem own:ownKnob Tryz.prog.godebug=none:=by kernel_rfl
theorem laidOut:laidOutB aa=true:=by kernel_rfl
theorem walk(args:List Value)(w:World)(ha:Ev.dS (Ev.qz aa w) [77,9,83] args):
 Calls aa 11 args.toArray w fun e w'=>e= .returned (.bool true)∧Below w.heap.size w w':=by
 exact anp ha
set_option maxRecDepth 100000 in
theorem lifted(os:Os)(started:os.Started)(H:Type)(enc:TypeId×Value->H):
 ReturnsInHanded {} abp os 11 .any (Rows.testerActsSpec.pre6 enc aa MV Rows.testerActsRow.domain false) (Rows.testerActsSpec.post enc aa MV false true false false):=by
 refine returnsInHanded_of_change (C:=abp) own started (by kernel_rfl) ao5
  (apn (enc:=enc) (C:=abp) false ⟨#[],#[(apo #[(ao6 ao7 0),(ao6 ao7 0)]),(apq {data:=#[]}),(apr none 0 0)],[]⟩ 8 (by kernel_rfl) (by kernel_rfl) (by kernel_rfl) (by kernel_rfl)) ?_
 intro W base args ds gs before aaK hW ao_ _;have Fi:∀(j:Nat) t v,Tryz.f11.params[j]? =some t->args[j]? =some v->Value.okWide aa W .any base t v:=aaK;have hW':=hW;obtain⟨p,q,hA0,hV,rfl,hfz,hnd⟩:=hW;have hA:DataW.TrodAll enc aa W 0 (fun _=>true) true Tryz.f11.params.toList args.toList ds p:=hA0;rw[Tryz.params11]at hA Fi;obtain⟨v0,vs0,d0,ds0,p0,q0,apa,rfl,rfl,h0,r0⟩:=trodAll_cons hA;obtain⟨v1,vs1,d1,ds1,p1,q1,rfl,rfl,rfl,h1,r1⟩:=trodAll_cons r0;obtain⟨v2,vs2,d2,ds2,p2,q2,rfl,rfl,rfl,h2,r2⟩:=trodAll_cons r1;obtain⟨rfl,rfl,rfl⟩:=trodAll_nil r2;obtain rfl:args=#[v0,v1,v2]:=by cases args;simp_all
 obtain⟨rfl,rfl⟩:=trodVars_none hV;have k0:=h0;have lt0:∀x∈p0,x.block<W.heap.size:=by obtain⟨m,hm⟩:=k0;exact abq m _ _ _ hm
 have k1:=h1;have lt1:∀x∈p1,x.block<W.heap.size:=by obtain⟨m,hm⟩:=k1;exact abq m _ _ _ hm
 have k2:=h2;have lt2:∀x∈p2,x.block<W.heap.size:=by obtain⟨m,hm⟩:=k2;exact abq m _ _ _ hm
 have g0:Ev.qz aa W 77 v0:=Ev.Hw (by kernel_rfl) (Fi 0 77 v0 rfl rfl) h0;have g1:Ev.qz aa W 9 v1:=Ev.Hw (by kernel_rfl) (Fi 1 9 v1 rfl rfl) h1;have g2:Ev.qz aa W 83 v2:=Ev.Hw (by kernel_rfl) (Fi 2 83 v2 rfl rfl) h2;clear hA0 aaK;refine(walk [v0,v1,v2] W ⟨g0,g1,g2,trivial⟩).mono fun e W' ⟨he,Fj⟩=> ?_;subst he;exact⟨_,rfl,_,_,_,[],_,[],hW',trodAll_mk1 (shut_bool Tryz.underlying4 _),(trodAll_cons_mk (abr laidOut (by kernel_rfl) (of_decide_eq_true (by kernel_rfl)) k0 Fj lt0) (trodAll_cons_mk (abr laidOut (by kernel_rfl) (of_decide_eq_true (by kernel_rfl)) k1 Fj lt1) (trodAll_cons_mk (abr laidOut (by kernel_rfl) (of_decide_eq_true (by kernel_rfl)) k2 Fj lt2) trodAll_mk0))),rfl,Fj.frame _,fun h=>by cases h⟩
theorem f1:(Rows.testerActsRow.inPlace==Tryz.prog.inPlace 11)=true:=by kernel_rfl
theorem f2:(Rows.testerActsRow.unfollowed==Tryz.prog.unfollowed 11)=true:=by kernel_rfl
theorem f3:(Rows.testerActsRow.recurses==Tryz.prog.recurses 11)=true:=by kernel_rfl
theorem f4:(Rows.testerActsRow.named==Tryz.prog.varsNamed 11)=true:=by kernel_rfl
theorem closed:joinedFacts aa 11 MV Rows.testerActsSpec Rows.testerActsRow=true:=by unfold joinedFacts;rw[f1,f2,f3,f4];kernel_rfl
theorem over:Rows.testerActsRow.holds Tryz.pinned (aps Rows.testerActsSpec):=
 apt 11 MV rfl rfl rfl rfl rfl rfl rfl ⟨rfl,rfl,rfl,rfl,rfl⟩ rfl rfl rfl rfl rfl (by kernel_rfl) ao5 closed
  (of_decide_eq_true (by kernel_rfl)) (by unfold Func.isWrapper;first|(rw[if_pos (by decide+kernel)];kernel_rfl)|(rw[if_neg (by decide+kernel)];exact⟨rfl,rfl⟩))
  (fun os started H enc _=>lifted os started H enc)
theorem proved:Rows.TesterActsSaid:=over
end Go.Proofs.YtmjolmggelkjlaaGreat.testerActs
