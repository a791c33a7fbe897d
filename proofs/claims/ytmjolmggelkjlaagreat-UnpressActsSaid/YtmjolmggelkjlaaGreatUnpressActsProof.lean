import Derived.Test.YtmjolmggelkjlaaGreatRows
import Derived.Test.YtmjolmggelkjlaaGreatMal
import Derived.WalkKit
import Derived.ProofKit
import Derived.OpenShut
import Derived.ShutString
import Derived.ChangeOld
import Derived.Below
open Go.Proofs.Tryz renaming prog→aa, f8→Me, checked→aaj, func8→anO
open Go.Value renaming int→aak, agg→an7, string→an8, slice→an9
open Go.IntKind renaming i64→aal
open Go.DataW renaming trod_lt→aam
open Go.RowKit.Below renaming trod→aan
open Go.ChangeSpec renaming witness6→an6
open Go.OpenSpec renaming ofChange→an'
open Go.OpenClaim renaming holds_of_wide→an_
set_option linter.unusedVariables false
namespace Go.Proofs.YtmjolmggelkjlaaGreat.unpressActs
open Go.ChangeShapes Go.WideShapes Go.ChangeAt Go.RowKit
open Go.ChangeMaps (open_string shut_string)
theorem own:ownKnob Tryz.prog.godebug=none:=by kernel_rfl
theorem laidOut:laidOutB aa=true:=by kernel_rfl
theorem walk(args:List Value)(w:World)(ha:Ev.dR (Ev.qo aa w) [55,9,64] args):
 Calls aa 8 args.toArray w fun e w'=>e= .returned (.bool true)∧Below w.heap.size w w':=by
 exact al9 ha
set_option maxRecDepth 100000 in
theorem lifted(os:Os)(started:os.Started)(H:Type)(enc:TypeId×Value->H):
 ReturnsInHanded {} aaj os 8 .any (Rows.unpressActsSpec.pre6 enc aa Me Rows.unpressActsRow.domain false) (Rows.unpressActsSpec.post enc aa Me false true false false):=by
 refine returnsInHanded_of_change (C:=aaj) own started (by kernel_rfl) anO
  (an6 (enc:=enc) (C:=aaj) false ⟨#[],#[(an7 #[(aak aal 0),(aak aal 0),(aak aal 0)]),(an8 {data:=#[]}),(an9 none 0 0)],[]⟩ 8 (by kernel_rfl) (by kernel_rfl) (by kernel_rfl) (by kernel_rfl)) ?_
 intro W base args ds gs before ZD hW anS _;have ER:∀(j:Nat) t v,Tryz.f8.params[j]? =some t->args[j]? =some v->Value.okWide aa W .any base t v:=ZD;have hW':=hW;obtain⟨p,q,ZE,hV,rfl,hfz,hnd⟩:=hW;have hA:DataW.TrodAll enc aa W 0 (fun _=>true) true Tryz.f8.params.toList args.toList ds p:=ZE;rw[Tryz.params8]at hA ER;obtain⟨v0,vs0,d0,ds0,p0,q0,anT,rfl,rfl,h0,r0⟩:=trodAll_cons hA;obtain⟨v1,vs1,d1,ds1,p1,q1,rfl,rfl,rfl,h1,r1⟩:=trodAll_cons r0;obtain⟨v2,vs2,d2,ds2,p2,q2,rfl,rfl,rfl,h2,r2⟩:=trodAll_cons r1;obtain⟨rfl,rfl,rfl⟩:=trodAll_nil r2;obtain rfl:args=#[v0,v1,v2]:=by cases args;simp_all
 obtain⟨rfl,rfl⟩:=trodVars_none hV;have k0:=h0;have lt0:∀x∈p0,x.block<W.heap.size:=by obtain⟨m,hm⟩:=k0;exact aam m _ _ _ hm
 have k1:=h1;have lt1:∀x∈p1,x.block<W.heap.size:=by obtain⟨m,hm⟩:=k1;exact aam m _ _ _ hm
 have k2:=h2;have lt2:∀x∈p2,x.block<W.heap.size:=by obtain⟨m,hm⟩:=k2;exact aam m _ _ _ hm
 have g0:Ev.qo aa W 55 v0:=Ev.G5 (by kernel_rfl) (ER 0 55 v0 rfl rfl) h0;have g1:Ev.qo aa W 9 v1:=Ev.G5 (by kernel_rfl) (ER 1 9 v1 rfl rfl) h1;have g2:Ev.qo aa W 64 v2:=Ev.G5 (by kernel_rfl) (ER 2 64 v2 rfl rfl) h2;clear ZE ZD;refine(walk [v0,v1,v2] W ⟨g0,g1,g2,trivial⟩).mono fun e W' ⟨he,ES⟩=> ?_;subst he;exact⟨_,rfl,_,_,_,[],_,[],hW',trodAll_mk1 (shut_bool Tryz.underlying4 _),(trodAll_cons_mk (aan laidOut (by kernel_rfl) (of_decide_eq_true (by kernel_rfl)) k0 ES lt0) (trodAll_cons_mk (aan laidOut (by kernel_rfl) (of_decide_eq_true (by kernel_rfl)) k1 ES lt1) (trodAll_cons_mk (aan laidOut (by kernel_rfl) (of_decide_eq_true (by kernel_rfl)) k2 ES lt2) trodAll_mk0))),rfl,ES.frame _,fun h=>by cases h⟩
theorem f1:(Rows.unpressActsRow.inPlace==Tryz.prog.inPlace 8)=true:=by kernel_rfl
theorem f2:(Rows.unpressActsRow.unfollowed==Tryz.prog.unfollowed 8)=true:=by kernel_rfl
theorem f3:(Rows.unpressActsRow.recurses==Tryz.prog.recurses 8)=true:=by kernel_rfl
theorem f4:(Rows.unpressActsRow.named==Tryz.prog.varsNamed 8)=true:=by kernel_rfl
theorem closed:joinedFacts aa 8 Me Rows.unpressActsSpec Rows.unpressActsRow=true:=by unfold joinedFacts;rw[f1,f2,f3,f4];kernel_rfl
theorem over:Rows.unpressActsRow.holds Tryz.pinned (an' Rows.unpressActsSpec):=
 an_ 8 Me rfl rfl rfl rfl rfl rfl rfl ⟨rfl,rfl,rfl,rfl,rfl⟩ rfl rfl rfl rfl rfl (by kernel_rfl) anO closed
  (of_decide_eq_true (by kernel_rfl)) (by unfold Func.isWrapper;first|(rw[if_pos (by decide+kernel)];kernel_rfl)|(rw[if_neg (by decide+kernel)];exact⟨rfl,rfl⟩))
  (fun os started H enc _=>lifted os started H enc)
theorem proved:Rows.UnpressActsSaid:=over
end Go.Proofs.YtmjolmggelkjlaaGreat.unpressActs
