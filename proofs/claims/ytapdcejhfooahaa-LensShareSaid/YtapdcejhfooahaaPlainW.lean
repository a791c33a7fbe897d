/- Walks of the package that holds lists against one another. -/
import Derived.Test.YtapdcejhfooahaaRows
import Derived.Test.YtapdcejhfooahaaMem
import Derived.Deep.QuietTactic
import Derived.BigQuiet
namespace Go.Proofs.Ytapdcejhfooahaa
set_option linter.unusedVariables false
set_option linter.unusedSimpArgs false
open Go.RowKit

theorem ints_ne (xs ys : List Int) (h : xs.length = ys.length) (k : Nat) (hk : k < xs.length) (hne : (xs.getD k 0 != ys.getD k 0) = true) : (xs == ys) = false := by
  rw [beq_eq_false_iff_ne]
  rintro rfl
  simp at hne
theorem ints_eq (xs ys : List Int) (h : xs.length = ys.length) (hall : ∀ k, k < xs.length → xs.getD k 0 = ys.getD k 0) : (xs == ys) = true := by
  rw [beq_iff_eq]
  apply List.ext_getElem h
  intro i h1 h2
  have := hall i h1
  rwa [List.getD_eq_getElem?_getD, List.getD_eq_getElem?_getD, List.getElem?_eq_getElem h1, List.getElem?_eq_getElem h2] at this

theorem plain_Ints (a b : Option Addr) (ca cb : Nat) (xs ys : List Int) (w : World) (hx : xs.length ≤ 1099511627776) (hra : NumsAt .i64 w a xs) (hrb : NumsAt .i64 w b ys) :
    Calls Try.prog 12 #[.slice a xs.length ca, .slice b ys.length cb] w fun e w' => e = .returned (.bool (xs == ys)) ∧ Below w.heap.size w w' := by
  by_cases hl : xs.length = ys.length
  · have h1 : ((xs.length : Int) != (ys.length : Int)) = false := by rw [hl]; simp
    have HL := Lib.hid hl
    clear hl
    go_enter Try.func12, Try.ntmps12
    go_wp2
    go_loopw [13] (fun i wr => ∃ k : Nat, k ≤ xs.length ∧ i = .int .i64 k ∧ Hid (∀ j, j < k → xs.getD j 0 = ys.getD j 0) ∧ Below w.heap.size w wr) (fun i _ => xs.length - (intOf i).toNat)
    case atStart => exact ⟨0, by omega, rfl, fun j hj => absurd hj (Nat.not_lt_zero _), Below.refl _ _⟩
    case round =>
      obtain ⟨k, hk, rfl, H, hb⟩ := hrel
      by_cases hlt : k < xs.length
      · have hlt2 : k < ys.length := by have := HL.out; omega
        obtain ⟨b1, off1, rfl, hc1⟩ := (hra.below hb).some (by omega)
        obtain ⟨b2, off2, rfl, hc2⟩ := (hrb.below hb).some (by omega)
        have c1 := hc1 k hlt
        have c2 := hc2 k hlt2
        clear hc1 hc2
        have hne : Hid ((xs.getD k 0 != ys.getD k 0) = true → (xs == ys) = false) := ints_ne xs ys HL.out k hlt
        have hn : Hid ((xs.getD k 0 != ys.getD k 0) = false → ∀ j, j < k + 1 → xs.getD j 0 = ys.getD j 0) := by
          intro he j hj
          by_cases hjk : j = k
          · subst hjk; simpa using he
          · exact H.out j (by omega)
        generalize xs.getD k 0 = x at *
        generalize ys.getD k 0 = y at *
        go_wp2
        go_quiet (fail)
        go_wp2
        · have hh : (x != y) = true := by assumption
          go_ret
          exact ⟨ret_bool (hne.out hh).symm, below_drewN hb _⟩
        · have hh : (x != y) = false := by assumption
          exact ⟨⟨k + 1, by omega, by go_num, hn.out hh, below_drewN hb _⟩, by simp [intOf]; omega⟩
      · have E := Lib.hid (ints_eq xs ys HL.out (fun j hj => H.out j (by omega)))
        go_wp2
        go_ret
        exact ⟨ret_bool E.out.symm, hb⟩
  · have h1 : ((xs.length : Int) != (ys.length : Int)) = true := by rw [bne_iff_ne]; omega
    have E : (xs == ys) = false := by rw [beq_eq_false_iff_ne]; rintro rfl; exact hl rfl
    rw [E]
    clear hl E
    go_enter Try.func12, Try.ntmps12
    go_wp2
    go_ret
    exact ⟨rfl, Below.refl _ _⟩

end Go.Proofs.Ytapdcejhfooahaa
