/- Structs that begin with an array; arrays that are filled place by place; steps whose order may matter. No program in sight. -/
import Derived.Test.YthhhkplbjcknkaaGreatDoorEvYc
namespace Go.Proofs.YthhhkplbjcknkaaGreatDoor.Ev
set_option linter.unusedVariables false
set_option linter.unusedSimpArgs false
open Go Go.RowKit
theorem fill_foldl : ∀ (l : List Value) (k off : Nat) (cs : Array Value), off + k + l.length ≤ cs.size → ((l.zipIdx k).foldl (fun cs p => cs.setIfInBounds (off + p.2) p.1) cs).toList = cs.toList.take (off + k) ++ l ++ cs.toList.drop (off + k + l.length)
  | [], k, off, cs, h => by simp
  | v :: l, k, off, cs, h => by
    simp only [List.length_cons] at h
    rw [List.zipIdx_cons, List.foldl_cons, fill_foldl l (k + 1) off _ (by simp; omega)]
    have hlt : off + k < cs.toList.length := by rw [Array.length_toList]; omega
    simp only [Array.toList_setIfInBounds]
    rw [show off + (k + 1) = off + k + 1 by omega, List.take_set, List.take_succ_eq_append_getElem hlt, List.set_append_right _ _ (by simp; omega), List.drop_set_of_lt (by omega)]
    simp only [List.length_cons, List.length_take, Nat.min_eq_left (Nat.le_of_lt hlt), Nat.sub_self, List.set_cons_zero, List.append_assoc, List.cons_append, List.nil_append]
    rw [show off + k + 1 + l.length = off + k + (l.length + 1) by omega]
theorem build_arr {P : Program} {t : TypeId} {fs : Array Field} {N : Nat} {z v : Value} {zs vs : List Value} (hz : zero? P t = some z) (hzc : z.cells.toList = zs) (hzl : zs.length = N + 1) (hu : P.underlying t = some (.struct fs)) (hf : (fs.all fun f => (size? P f.type).isSome) = true) (h0 : placeOf P fs 0 = some (0, N)) (h1 : placeOf P fs 1 = some (N, 1)) (hl : vs.length = N) (hv : v.cells = #[v]) :
    evBuild P t [(0, .agg vs.toArray), (1, v)] = M.ret (.agg (vs ++ [v]).toArray) := by
  have hs : z.cells.size = N + 1 := by rw [← Array.length_toList, hzc, hzl]
  unfold evBuild
  simp only [hz, hu, hf, if_true]
  have e1 : (Value.agg vs.toArray).cells = vs.toArray := rfl
  have key : Instr.fill (placeOf P fs) z.cells [(0, .agg vs.toArray), (1, v)] = some (vs ++ [v]).toArray := by
    unfold Instr.fill
    simp only [h0, e1]
    rw [if_neg (by simp [hl, hs])]
    unfold Instr.fill
    simp only [h1, hv]
    have ef : (vs.toArray.zipIdx.foldl (fun cs p => cs.setIfInBounds (0 + p.2) p.1) z.cells).toList = vs ++ [zs[N]'(by omega)] := by
      have := fill_foldl vs 0 0 z.cells (by simp [hl, hs])
      rw [hzc] at this
      rw [← Array.foldl_toList, Array.toList_zipIdx, this]
      simp only [Nat.zero_add, List.take_zero, List.nil_append, hl]
      rw [List.drop_eq_getElem_cons (by omega), List.drop_eq_nil_of_le (by omega)]
    generalize hg : vs.toArray.zipIdx.foldl (fun cs p => cs.setIfInBounds (0 + p.2) p.1) z.cells = A at ef
    have hA : A.size = N + 1 := by rw [← Array.length_toList, ef]; simp [hl]
    rw [if_neg (by simp [hA])]
    unfold Instr.fill
    congr 1
    apply Array.ext'
    have : (#[v].zipIdx.foldl (fun cs p => cs.setIfInBounds (N + p.2) p.1) A) = A.setIfInBounds N v := rfl
    rw [this, Array.toList_setIfInBounds, ef, List.set_append_right _ _ (by omega), hl, Nat.sub_self]
    rfl
  rw [key]
/-- an array's cells when the first of them are filled -/
def rc (f : Nat → Value) (z : Value) (N i : Nat) : List Value := (List.range N).map fun j => if j < i then f j else z
theorem rc_len (f : Nat → Value) (z : Value) (N i : Nat) : (rc f z N i).length = N := by unfold rc; simp
theorem rc_zero (f : Nat → Value) (z : Value) (N : Nat) : rc f z N 0 = List.replicate N z := by
  unfold rc
  apply List.ext_getElem
  · simp
  · intro i h1 h2; simp
theorem rc_all (f : Nat → Value) (z : Value) (N : Nat) : rc f z N N = (List.range N).map f := by
  unfold rc
  apply List.map_congr_left
  intro j hj
  rw [if_pos (List.mem_range.1 hj)]
theorem rc_get {f : Nat → Value} {z : Value} {N i j : Nat} (h : j < (rc f z N i).length) : (rc f z N i)[j] = if j < i then f j else z := by simp [rc]
theorem rc_set {f : Nat → Value} {z : Value} {N i : Nat} (h : i < N) : (rc f z N i).set i (f i) = rc f z N (i + 1) := by
  apply List.ext_getElem
  · simp [rc_len]
  · intro j h1 h2
    rw [List.getElem_set, rc_get, rc_get]
    by_cases e : i = j
    · subst e; simp
    · rw [if_neg e]
      by_cases e2 : j < i
      · rw [if_pos e2, if_pos (by omega)]
      · rw [if_neg e2, if_neg (by omega)]
section
variable {β : Type} {W : Nat → Prop} {n0 : Nat} {h : H} {n : Nat} {Q : β → H → Nat → Prop} {P : Program}
theorem timed_ret' (v : Value) (k : Value × Tk → M β) (y : ∀ T, RO T n → Run W n0 (k (v, T)) h n Q) : Run W n0 ((timed (M.ret v)).bind k) h n Q :=
  timed_step (L := []) rfl (Nat.le_refl _) (by simp) (y _ ⟨by simp, by simp, rfl⟩)
theorem timed_call' (hd : okDsts P = true) {gt : Nat → List Nat} {lf d : Nat} {f : FuncId} {args : Array Value} {W' : Nat → Prop} {Q' : Value → H → Nat → Prop} (s : Run W' n (evCall2 P gt lf d f args) h n Q') (hn : n0 ≤ n) (hW : ∀ b, b < n → W' b → n0 ≤ b ∨ W b) {k : Value × Tk → M β}
    (x : ∀ v h1 n1 T, n ≤ n1 → (∀ b, b < n → ¬ W' b → h1.get b = h.get b) → Q' v h1 n1 → Run W n0 (k (v, T)) h1 n1 Q) : Run W n0 ((timed ((inside (evCall2 P gt lf d f args)).bind fun v => M.ret v)).bind k) h n Q :=
  timed_call hd s hn hW fun v h1 n1 L a b c _ _ => x v h1 n1 _ a b c
end

end Go.Proofs.YthhhkplbjcknkaaGreatDoor.Ev
