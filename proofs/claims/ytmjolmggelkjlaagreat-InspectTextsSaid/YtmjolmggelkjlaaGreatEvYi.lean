/- Rules for calls by the evaluator with any list of known functions. No program in sight. -/
import Derived.Test.YtmjolmggelkjlaaGreatEvYh
namespace Go.Proofs.YtmjolmggelkjlaaGreat.Ev
set_option linter.unusedVariables false
set_option linter.unusedSimpArgs false
open Go Go.RowKit
section
variable {β : Type} {W : Nat → Prop} {n0 : Nat} {h h1 : H} {n n1 : Nat} {Q : β → H → Nat → Prop} {kn : List FuncId}
theorem callN_frame {P : Program} (hd : okDsts P = true) {gt : Nat → Hint} {lf d : Nat} {f : FuncId} {args : Array Value} {v : Value} {L : List En} (e : evCallN kn P gt lf d f args h n = some ⟨v, h1, n1, L⟩) {W' : Nat → Prop} (hw : ∀ e ∈ L, e.wr = true → n ≤ e.b ∨ W' e.b) : ∀ b, b < n → ¬ W' b → h1.get b = h.get b := by
  obtain ⟨f0, e0⟩ := callN_ok hd d f args h n v h1 n1 L e
  have A := Loc.evCall P kn f0 f args h n v h1 n1 L (e0 f0 (Nat.le_refl _))
  intro b hb hn
  refine get_of_agrS fun k => A.frame b k ?_ (by omega)
  rintro ⟨e, he, h2, h3, _⟩
  rcases hw e he h2 with q | q
  · omega
  · exact hn (h3 ▸ q)
theorem run_callN {P : Program} (hd : okDsts P = true) {gt : Nat → Hint} {lf d : Nat} {f : FuncId} {vs : List Value} {W' : Nat → Prop} {Q' : Value → H → Nat → Prop} (s : Run W' n (evCallN kn P gt lf d f ⟨vs⟩) h n Q') (hn : n0 ≤ n) (hW : ∀ b, b < n → W' b → n0 ≤ b ∨ W b) {k : Value → M β}
    (x : ∀ v h1 n1, n ≤ n1 → (∀ b, b < n → ¬ W' b → h1.get b = h.get b) → Q' v h1 n1 → Run W n0 (k v) h1 n1 Q) : Run W n0 (kcl (evCallN kn P gt lf d) f vs k) h n Q := by
  obtain ⟨v, h1, n1, L, e1, e2, e3, e4⟩ := s
  refine run_ins (m := evCallN kn P gt lf d f ⟨vs⟩) (Run.step (inside_run e1) e2 (fun e he hwr => ?_) (x v h1 n1 e2 (callN_frame hd e1 e3) e4))
  have hL := (List.mem_filter.1 he).1
  rcases e3 e hL hwr with q | q
  · exact .inl (by omega)
  · by_cases hlt : e.b < n
    · exact hW _ hlt q
    · exact .inl (by omega)
theorem timed_callN {P : Program} (hd : okDsts P = true) {gt : Nat → Hint} {lf d : Nat} {f : FuncId} {vs : List Value} {Q' : Value → H → Nat → Prop} (s : Run (fun _ => False) n (evCallN kn P gt lf d f ⟨vs⟩) h n Q') {k : Value × Tk → M β}
    (x : ∀ v h1 n1 L, n ≤ n1 → (∀ b, b < n → h1.get b = h.get b) → Q' v h1 n1 → RB ⟨n, n1, L⟩ n → Run W n0 (k (v, ⟨n, n1, L⟩)) h1 n1 Q) : Run W n0 ((timed (kcl (evCallN kn P gt lf d) f vs M.ret)).bind k) h n Q := by
  obtain ⟨v, h1, n1, L, e1, e2, e3, e4⟩ := s
  obtain ⟨f0, e0⟩ := callN_ok hd d f ⟨vs⟩ h n v h1 n1 L e1
  have A := Loc.evCall P kn f0 f ⟨vs⟩ h n v h1 n1 L (e0 f0 (Nat.le_refl _))
  have hlt : ∀ e ∈ L.filter (fun e => !(decide (n ≤ e.b) && decide (e.b < n1))), e.b < n := fun e he => by
    obtain ⟨h1, h2⟩ := List.mem_filter.1 he
    have := A.lt e h1
    simp at h2
    omega
  have hwr : ∀ e ∈ L.filter (fun e => !(decide (n ≤ e.b) && decide (e.b < n1))), e.wr = false := fun e he => by
    cases hq : e.wr with
    | false => rfl
    | true =>
      rcases e3 e (List.mem_filter.1 he).1 hq with q | q
      · have := hlt e he; omega
      · exact q.elim
  refine timed_step (ins_ret e1) e2 (fun e he hw => ?_) (x v h1 n1 _ e2 (fun b hb => callN_frame (W' := fun _ => False) hd e1 e3 b hb id) e4 ⟨hwr, hlt, Nat.le_refl _⟩)
  rw [hwr e he] at hw
  cases hw
/-- a row of one byte, made and told as a text -/
theorem str1_run {b : Nat} {e : TypeId} {x : Nat} (hg : h.get b = some ⟨e, true, [.int .u8 (x : Int)]⟩) (hb : b < n) (cp : Nat) : ∃ L, kts (.slice (some ⟨b, 0, none⟩) 1 cp) M.ret h n = some ⟨.string ⟨(bS [x]).toArray⟩, h, n, L⟩ ∧ (∀ e ∈ L, e.wr = false) ∧ ∀ e ∈ L, e.b = b := by
  have e1 : rdN3 b 0 1 h n = some ⟨[.int .u8 (x : Int)], h, n, [⟨false, b, some 0⟩]⟩ := by
    rw [rdN3_eq]
    have e0 : rd b 0 h n = some ⟨.int .u8 (x : Int), h, n, [⟨false, b, some 0⟩]⟩ := by
      unfold rd
      simp only [hb, hg, if_true]
      rfl
    unfold rdN
    have := bind_run (f := fun v => (rdN b (0 + 1) 0).bind fun vs => M.ret (v :: vs)) e0 (L2 := []) (b := [.int .u8 (x : Int)]) (h2 := h) (n2 := n) rfl
    simpa using this
  have e2 : ((rdN3 b 0 1).bind fun vs => match bytesL vs with
    | some l => M.ret (Value.string ⟨⟨l⟩⟩)
    | none => M.fail) h n = some ⟨Value.string ⟨(bS [x]).toArray⟩, h, n, [⟨false, b, some 0⟩] ++ []⟩ := by
    refine bind_run e1 ?_
    have : bytesL (u8V [x]) = some (bS [x]) := bytesL_u8 [x]
    show (match bytesL (u8V [x]) with
      | some l => M.ret (Value.string ⟨⟨l⟩⟩)
      | none => M.fail) h n = _
    rw [this]
    rfl
  have hf : ([(⟨false, b, some 0⟩ : En)] ++ []).filter (fun e : En => !(decide (n ≤ e.b) && decide (e.b < n))) = [⟨false, b, some 0⟩] := by
    simp; omega
  refine ⟨[⟨false, b, some 0⟩], ?_, by simp, by simp⟩
  have e3 := ins_ret e2
  rw [hf] at e3
  exact e3
theorem clash_far {a b : Tk} (h1 : ∀ e ∈ a.log, e.wr = false) (h2 : ∀ e ∈ b.log, e.wr = false) (h3 : ∀ e ∈ a.log, e.b < b.n) (h4 : ∀ e ∈ b.log, a.n1 ≤ e.b) : clash3 a b = false := by
  rw [clash3_eq]
  unfold Tk.clash
  simp only [Bool.or_eq_false_iff, List.any_eq_false, Bool.and_eq_true, decide_eq_true_eq, not_and]
  refine ⟨⟨⟨fun x hx hw => ?_, fun x hx hw => ?_⟩, fun x hx hle => ?_⟩, fun x hx _ => ?_⟩
  · rw [h1 x hx] at hw; cases hw
  · rw [h2 x hx] at hw; cases hw
  · have := h3 x hx; omega
  · have := h4 x hx; omega
end
end Go.Proofs.YtmjolmggelkjlaaGreat.Ev
