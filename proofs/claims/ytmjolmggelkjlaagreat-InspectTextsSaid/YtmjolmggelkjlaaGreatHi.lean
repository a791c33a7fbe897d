/- The third form's operations yield what the second one's do: all of them. No program in sight. -/
import Derived.Test.YtmjolmggelkjlaaGreatHh
namespace Go.Proofs.YtmjolmggelkjlaaGreat.Ev
set_option linter.unusedVariables false
set_option linter.unusedSimpArgs false
open Go Go.RowKit
section
variable {α β : Type} {h : H} {n : Nat} {r : Out β}
theorem optK_mono {o : Option α} {k k' : α → M β} (hk : ∀ v, k v h n = some r → k' v h n = some r) (hr : optK o k h n = some r) : optK o k' h n = some r := by
  cases o with
  | none => cases hr
  | some v => exact hk v hr
theorem evosK_mono {s : Fr} : ∀ {l : List Operand} {k k' : List Value → M β}, (∀ v, k v h n = some r → k' v h n = some r) → evosK s l k h n = some r → evosK s l k' h n = some r
  | [], _, _, hk, hr => hk _ hr
  | _ :: _, _, _, hk, hr => optK_mono (fun _ q => evosK_mono (fun _ q => hk _ q) q) hr
theorem evoK_mono {s : Fr} {x : Option Operand} {k k' : Option Value → M β} (hk : ∀ v, k v h n = some r → k' v h n = some r) (hr : evoK s x k h n = some r) : evoK s x k' h n = some r := by
  cases x with
  | none => exact hk _ hr
  | some x => exact optK_mono (fun _ q => hk _ q) hr
variable {P : Program} {rec : FuncId → Array Value → M Value}
theorem callQ_sub {s : Fr} {c : Call} {vs : List Value} {k : Value → M β} (hr : callQ P rec s c vs k h n = some r) : call2 P rec s c vs k h n = some r := by
  unfold callQ at hr
  unfold call2
  cases hc : c.callee with
  | value f =>
    simp only [hc] at hr ⊢
    cases f with
    | func g =>
      simp only at hr
      cases hb : hasBody P g with
      | false => simp only [hb] at hr; cases hr
      | true =>
        simp only [hb] at hr
        show callV P rec (.func (.func g) #[] #[]) vs k h n = some r
        unfold callV
        show (match hasBody P g with
          | true => (inside (rec g ((#[] : Array Value).toList ++ vs ++ (#[] : Array Value).toList).toArray)).bind k
          | false => M.fail) h n = some r
        rw [hb]
        refine ins_of ?_ hr
        simp
    | _ => exact hr
  | builtin b =>
    simp only [hc] at hr ⊢
    cases b <;> try (cases hr; done)
    case append => exact optK_mono (fun q hq => appK_sub hq) hr
    case copy => exact optK_mono (fun q hq => copyQ_sub hq) hr
    case len => exact lenQ_sub hr
    case max => exact maxQ_sub hr
    case min => exact minQ_sub hr
  | invoke _ _ =>
    simp only [hc] at hr
    cases hr
theorem opQ_sub {s : Fr} {o : Oper} {k : Value → M β} (hr : opQ P rec s o k h n = some r) : op2 P rec s o k h n = some r := by
  obtain ⟨dst, op, ty, pos, after, guard⟩ := o
  unfold opQ at hr
  unfold op2
  cases op with
  | move x => exact hr
  | assign x => exact hr
  | pick c a b =>
    refine optK_mono (fun vc => optK_mono fun va => optK_mono fun vb q => ?_) hr
    unfold kpk at q
    split at q
    · exact opt_of rfl q
    · exact opt_of rfl q
    · cases q
  | alloc e => exact allocQ_sub hr
  | box e x => exact optK_mono (fun _ q => boxQ_sub q) hr
  | build t ps => exact evosK_mono (fun _ q => buildQ_sub q) hr
  | buildSlice t len ps => exact evosK_mono (fun _ q => bsQ_sub q) hr
  | load t a => exact optK_mono (fun _ q => loadQ_sub q) hr
  | store t a x => exact optK_mono (fun _ => optK_mono fun _ q => storeQ_sub q) hr
  | nilCheck x =>
    refine optK_mono (fun v q => ?_) hr
    unfold knn at q
    split at q
    · exact opt_of rfl q
    · exact opt_of rfl q
    · cases q
  | binOp op t x y yt => exact optK_mono (fun _ => optK_mono fun _ q => binQ_sub q) hr
  | unOp op t x => exact optK_mono (fun _ q => unQ_sub q) hr
  | convert src d x => exact optK_mono (fun _ q => convQ_sub q) hr
  | makeFunc fn a b => exact hr
  | makeSlice t l c => exact optK_mono (fun _ => optK_mono fun _ q => makeQ_sub q) hr
  | slice t x lo hi mx => exact optK_mono (fun _ => evoK_mono fun _ => evoK_mono fun _ => evoK_mono fun _ q => sliceQ_sub q) hr
  | fieldAddr t x f => exact optK_mono (fun _ q => faQ_sub q) hr
  | field t x f => exact optK_mono (fun _ q => fieldQ_sub q) hr
  | indexAddr t x ix => exact optK_mono (fun _ => optK_mono fun _ q => ixQ_sub q) hr
  | index t x ix => exact optK_mono (fun _ => optK_mono fun _ q => indexQ_sub q) hr
  | extract t i =>
    refine optK_mono (fun v q => ?_) hr
    unfold kex at q
    cases v <;> try (cases q; done)
    rename_i cs
    obtain ⟨l⟩ := cs
    have e : evExtract (.tuple ⟨l⟩) i = l[i]? := by simp [evExtract]
    rw [e]
    exact nthV_of q
  | call c => exact evosK_mono (fun _ q => callQ_sub q) hr
  | _ => cases hr
end
end Go.Proofs.YtmjolmggelkjlaaGreat.Ev
