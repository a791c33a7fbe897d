import Derived.Test.YtdagfcflbphoiaaGreatDoorMbh
import Derived.Test.YtdagfcflbphoiaaGreatDoorMbk
namespace Go.Proofs.YtdagfcflbphoiaaGreatDoor
set_option linter.unusedVariables false
set_option linter.unusedSimpArgs false
open Go.RowKit Ev Cn

theorem zbsu {codes : List (List Nat)} {took : List Nat} {size : Nat} : ∀ (N : Nat) (bs : List Bool) (most : Int) (out : List Int) (a : Nat) (o : List Int) (u : Nat), runS N codes took size bs most out a = .ok o u → o.length ≤ out.length + N
  | 0, _, _, _, _, _, _, h => by simp [runS] at h
  | N + 1, bs, most, out, a, o, u, h => by
    unfold runS at h
    split at h
    · cases h
    · split at h
      · cases h
      · split at h
        · cases h
        · split at h
          · simp only [Rs.ok.injEq] at h
            obtain ⟨rfl, _⟩ := h
            rw [List.length_append]
            simp only [List.length_cons, List.length_nil]
            omega
          · have := zbsu N _ _ _ _ _ _ h
            rw [List.length_append] at this
            simp only [List.length_cons, List.length_nil] at this
            omega
theorem zcag {size : Nat} {bs : List Bool} {most : Int} {o : List Int} {u : Nat} (h : ref14 size bs most = .ok o u) : o.length ≤ bs.length + 1 := by
  unfold ref14 at h
  split at h
  · cases h
  · cases h
  · split at h
    · cases h
    · cases h
    · have := zbsu _ _ _ _ _ _ _ h
      simp only [List.length_nil] at this
      omega
section
variable {lf d n : Nat} {h : H}
end
end Go.Proofs.YtdagfcflbphoiaaGreatDoor
