/- What the other steps of the third form yield the second one's do. No program in sight. -/
import Derived.Test.YtmjolmggelkjlaaGreatHe
namespace Go.Proofs.YtmjolmggelkjlaaGreat.Ev
set_option linter.unusedVariables false
set_option linter.unusedSimpArgs false
open Go Go.RowKit

section
variable {β : Type} {P : Program} {t : TypeId} {x y a : Value} {k : Value → M β} {h : H} {n : Nat} {r : Out β}
theorem ins_of {m m' : M Value} (e : m = m') (hr : insB m k h n = some r) : ((inside m').bind k) h n = some r := by
  subst e
  rw [← insB_eq]
  exact hr
theorem nilQ_sub {op : BinOp} (hn : isNilT P t = true) (hr : nilQ (P.underlying t) (stKinds P t) op x y k h n = some r) : optK (bin2 P op t x y) k h n = some r := by
  have keyA : ∀ (b : Bool) (v : Value), anyEq P t x y = some b → ((op = .eql ∧ v = .bool b) ∨ (op = .neq ∧ v = .bool (!b))) → k v h n = some r → optK (bin2 P op t x y) k h n = some r := by
    intro b v e hv hk
    refine opt_of (v := v) ?_ hk
    unfold bin2 binN
    rw [hn, e]
    rcases hv with ⟨rfl, rfl⟩ | ⟨rfl, rfl⟩ <;> rfl
  have key : ∀ (b : Bool) (v : Value), nilEq (P.underlying t) x y = some b → ((op = .eql ∧ v = .bool b) ∨ (op = .neq ∧ v = .bool (!b))) → k v h n = some r → optK (bin2 P op t x y) k h n = some r := fun b v e => keyA b v (by unfold anyEq; rw [e])
  have keyS : ∀ (fs : Array Field) (b : Bool) (v : Value), P.underlying t = some (.struct fs) → stEq (stKinds P t) x y = some b → ((op = .eql ∧ v = .bool b) ∨ (op = .neq ∧ v = .bool (!b))) → k v h n = some r → optK (bin2 P op t x y) k h n = some r := fun fs b v hf e => keyA b v (by unfold anyEq nilEq; rw [hf]; exact e)
  generalize hd : P.underlying t = d at hr key keyS
  generalize hk : stKinds P t = ds at hr keyS
  unfold nilQ at hr
  split at hr
  · unfold stQ at hr
    split at hr
    · rename_i l
      split at hr
      · unfold kge at hr
        cases x <;> try (cases hr; done)
        rename_i xs
        obtain ⟨xl⟩ := xs
        cases y <;> try (cases hr; done)
        rename_i ys
        obtain ⟨yl⟩ := ys
        simp only at hr
        cases hb : kindsEq l xl yl with
        | none => simp only [hb] at hr; cases hr
        | some b => simp only [hb] at hr; exact keyS _ b _ rfl hb (.inl ⟨rfl, rfl⟩) hr
      · unfold kgn at hr
        cases x <;> try (cases hr; done)
        rename_i xs
        obtain ⟨xl⟩ := xs
        cases y <;> try (cases hr; done)
        rename_i ys
        obtain ⟨yl⟩ := ys
        simp only at hr
        cases hb : kindsEq l xl yl with
        | none => simp only [hb] at hr; cases hr
        | some b => simp only [hb] at hr; exact keyS _ b _ rfl hb (.inr ⟨rfl, rfl⟩) hr
      · cases hr
    · cases hr
  · unfold kpe nil1 at hr
    split at hr <;> first | (split at hr <;> first | exact key _ _ rfl (.inl ⟨rfl, rfl⟩) hr | cases hr) | cases hr
  · unfold kpn nil1 at hr
    split at hr <;> first | (split at hr <;> first | exact key _ _ rfl (.inr ⟨rfl, rfl⟩) hr | cases hr) | cases hr
  · unfold kse nil3 at hr
    split at hr <;> first | (split at hr <;> first | exact key _ _ rfl (.inl ⟨rfl, rfl⟩) hr | cases hr) | cases hr
  · unfold ksn nil3 at hr
    split at hr <;> first | (split at hr <;> first | exact key _ _ rfl (.inr ⟨rfl, rfl⟩) hr | cases hr) | cases hr
  · unfold kfe nil4 at hr
    split at hr <;> first | (split at hr <;> first | exact key _ _ rfl (.inl ⟨rfl, rfl⟩) hr | cases hr) | cases hr
  · unfold kfn nil4 at hr
    split at hr <;> first | (split at hr <;> first | exact key _ _ rfl (.inr ⟨rfl, rfl⟩) hr | cases hr) | cases hr
  · cases hr
theorem bool_equal {b c : Bool} (e : P.underlying t = some .bool) : pureRun P (do pure (.value (.bool (← Op.equal t (.bool b) (.bool c))))) = some (.bool (b == c)) := by
  unfold Op.equal Op.maxDepth Op.equalIn
  simp only [bind_assoc]
  rw [pureRun_und e]
  rfl
theorem binQ_sub {op : BinOp} (hr : binQ P op t x y k h n = some r) : optK (bin2 P op t x y) k h n = some r := by
  unfold binQ at hr
  cases hn : isNilT P t with
  | true => simp only [hn] at hr; exact nilQ_sub hn hr
  | false =>
    simp only [hn] at hr
    cases hb : isBoolT (P.underlying t) with
    | false => simp only [hb] at hr; exact arQ_sub hn hr
    | true =>
      simp only [hb] at hr
      have e : P.underlying t = some .bool := by
        revert hb
        generalize P.underlying t = d
        intro hb
        unfold isBoolT at hb
        split at hb
        · rfl
        · cases hb
      unfold blQ at hr
      split at hr
      · unfold kbe at hr
        split at hr
        · split at hr
          · rename_i b _ c
            refine opt_of (v := .bool (b == c)) (bin2_plain hn rfl ?_ rfl) (by cases b <;> cases c <;> exact hr)
            unfold Go.binOp
            simp only [bind_assoc, pure_bind]
            exact bool_equal e
          · cases hr
        · cases hr
      · unfold kbn at hr
        split at hr
        · split at hr
          · rename_i b _ c
            refine opt_of (v := .bool (!(b == c))) (bin2_plain hn rfl ?_ rfl) (by cases b <;> cases c <;> exact hr)
            unfold Go.binOp
            simp only [bind_assoc, pure_bind]
            unfold Op.equal Op.maxDepth Op.equalIn
            simp only [bind_assoc]
            rw [pureRun_und e]
            rfl
          · cases hr
        · cases hr
      · cases hr
end
end Go.Proofs.YtmjolmggelkjlaaGreat.Ev
