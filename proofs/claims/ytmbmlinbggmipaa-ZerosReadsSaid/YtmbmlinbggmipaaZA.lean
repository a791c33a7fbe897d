/- Walks of rows: package zeros and the reference of layer 7. -/
import Derived.Test.YtmbmlinbggmipaaBase
import Derived.Test.YtmbmlinbggmipaaZP
import Derived.Deep.QuietTactic
import Derived.BigQuiet
namespace Go.Proofs.Ytmbmlinbggmipaa
set_option linter.unusedVariables false
set_option linter.unusedSimpArgs false
open Go.RowKit Zp

def mayB (n : Int) : Bool := decide (1 ≤ n ∧ n ≤ 256)
theorem z_may (n : Int) (w : World) : Calls Try.prog 44 #[.int .i64 n] w fun e w' => e = .returned (.bool (mayB n)) ∧ w = w' := by
  by_cases h1 : 1 ≤ n
  · have hd : decide (1 ≤ n) = true := by simpa using h1
    go_enter Try.func44, Try.ntmps44
    go_wp2
    go_ret
    exact ⟨ret_bool (by simp [mayB, h1]), rfl⟩
  · have hd : decide (1 ≤ n) = false := by simpa using h1
    go_enter Try.func44, Try.ntmps44
    go_wp2
    go_ret
    exact ⟨ret_bool (by simp [mayB]; omega), rfl⟩

theorem z_row (m : Int) (w : World) (h0 : 0 ≤ m) (h1 : m ≤ 1099511627776) : Calls Try.prog 45 #[.int .i64 m] w fun e w' => IntsOut w (rowN m.toNat) e w' := by
  obtain ⟨m, rfl⟩ := Int.eq_ofNat_of_zero_le h0
  simp only [Int.toNat_natCast]
  go_enter Try.func45, Try.ntmps45
  go_wp2
  go_loopw [0, 3] (fun x v wr => ∃ r : Nat, ∃ pre : List Int, x = .int .i64 r ∧ r ≤ m ∧ pre.length + r ≤ m ∧ OwnsNums .i64 3 w.heap.size wr v pre ∧ Hid (rowN m = pre ++ rowN r) ∧ Below w.heap.size w wr) (fun x _ _ => (intOf x).toNat)
  case atStart => exact ⟨m, [], rfl, Nat.le_refl _, by simp, OwnsNums.nil _ _ _ _, rfl, kr _⟩
  case round =>
    obtain ⟨r, pre, rfl, hr, hpre, hown, H, hb⟩ := hrel
    have hbs := hb.size
    by_cases h : 0 < r
    · by_cases ho : r % 2 = 1
      · have hd : (((r : Int) % 2) == 1) = true := by rw [beq_iff_eq]; omega
        have hn : Hid (rowN m = (pre ++ [0]) ++ rowN ((r - 1) / 2)) := by unfold Hid; rw [H.out, rowN_odd r ho]; simp
        clear ho
        go_wp2_with (first | (at_builtin; refine app_new1 (w := wr) rfl _ _ 27 3 rfl Try.underlying27 info_int hown rfl rfl (by decide) (by omega) (by omega) ?_; intro v3 w3 own3 be3))
        exact ⟨⟨(r - 1) / 2, pre ++ [0], by rw [show ((r : Int) - 1) / 2 = (((r - 1) / 2 : Nat) : Int) by omega], by omega, by simp; omega, own3, hn, hb.trans be3⟩, by simp [intOf]; omega⟩
      · have hd : (((r : Int) % 2) == 1) = false := by rw [beq_eq_false_iff_ne]; omega
        have hn : Hid (rowN m = (pre ++ [1]) ++ rowN ((r - 2) / 2)) := by unfold Hid; rw [H.out, rowN_even r (by omega) (by omega)]; simp
        have h2 : 2 ≤ r := by omega
        clear ho
        go_wp2_with (first | (at_builtin; refine app_new1 (w := wr) rfl _ _ 27 3 rfl Try.underlying27 info_int hown rfl rfl (by decide) (by omega) (by omega) ?_; intro v3 w3 own3 be3))
        exact ⟨⟨(r - 2) / 2, pre ++ [1], by go_num, by omega, by simp; omega, own3, hn, hb.trans be3⟩, by simp [intOf]; omega⟩
    · go_wp2
      go_ret
      obtain ⟨a, cap, rfl, hr2⟩ := hown.reads
      have e : rowN m = pre := by rw [H.out, show r = 0 by omega, rowN_zero, List.append_nil]
      rw [e]
      exact ⟨⟨a, cap, rfl, hr2⟩, hb⟩

theorem z_Row_no (m : Int) (w : World) (h : m < 1 ∨ 1099511627776 < m) : Calls Try.prog 39 #[.int .i64 m] w fun e w' => e = .returned (.tuple #[.slice none 0 0, .int .i64 1]) ∧ w = w' := by
  by_cases h1 : m < 1
  · clear h
    go_enter Try.func39, Try.ntmps39
    go_wp2
    go_ret2
    exact ⟨rfl, rfl⟩
  · have h2 : 1099511627776 < m := by omega
    have hd : decide (m < 1) = false := by simpa using h1
    clear h
    go_enter Try.func39, Try.ntmps39
    go_wp2
    go_ret2
    exact ⟨rfl, rfl⟩

def RowOut (w : World) (xs : List Int) (e : Ending) (w' : World) : Prop := (∃ a cap, e = .returned (.tuple #[.slice a xs.length cap, .int .i64 0]) ∧ NumsAt .i64 w' a xs) ∧ Below w.heap.size w w'
theorem z_Row (m : Int) (w : World) (h1 : 1 ≤ m) (h2 : m ≤ 1099511627776) : Calls Try.prog 39 #[.int .i64 m] w fun e w' => RowOut w (rowN m.toNat) e w' := by
  have hd : decide (m < 1) = false := by simp; omega
  have hd2 : decide (1099511627776 < m) = false := by simp; omega
  go_enter Try.func39, Try.ntmps39
  go_wp2_with (first | (go_at_call 45; refine (z_row _ _ (by omega) (by omega)).mono ?_; rintro e w1 ⟨⟨a, cap, rfl, hr⟩, hb⟩))
  go_ret2
  exact ⟨⟨a, cap, rfl, hr⟩, hb⟩

theorem zref_Row : ∀ m : Nat, m ≤ 1099511627776 → ∀ w : World, Calls Try.prog 40 #[.int .i64 m] w fun e w' => IntsOut w (rowN m) e w' := by
  intro m
  induction m using Nat.strongRecOn with
  | _ m ih =>
    intro hm w
    have IH := Lib.hid ih
    clear ih
    by_cases h0 : m = 0
    · subst h0
      go_enter Try.func40, Try.ntmps40
      go_wp2
      go_ret
      exact ⟨⟨none, 0, rfl, NumsAt.nil _ _ _⟩, kr _⟩
    · have hd0 : (((m : Nat) : Int) == 0) = false := by rw [beq_eq_false_iff_ne]; omega
      have hpos : 1 ≤ m := by omega
      by_cases ho : m % 2 = 1
      · have hd : (((m : Int) % 2) == 1) = true := by rw [beq_iff_eq]; omega
        have hn : Hid (rowN m = [0] ++ rowN ((m - 1) / 2)) := rowN_odd m ho
        have hc := Lib.hid (IH.out ((m - 1) / 2) (by omega) (by omega))
        rw [show (((m - 1) / 2 : Nat) : Int) = ((m : Int) - 1) / 2 by omega] at hc
        have hl := rowN_length ((m - 1) / 2)
        generalize rowN ((m - 1) / 2) = ys at *
        clear ho h0
        go_enter Try.func40, Try.ntmps40
        go_wp2_with (first | (at_builtin; refine app_new1 (w := w) rfl _ _ 27 3 rfl Try.underlying27 info_int (OwnsNums.nil .i64 3 w.heap.size w) rfl rfl (by decide) (by simp) (by omega) ?_; intro v3 w3 own3 be3) | (go_at_call 40; refine (hc.out _).mono ?_; rintro e w4 ⟨⟨a, cap, rfl, hr⟩, hb⟩) | (at_builtin; refine app_nums (w := w4) rfl _ _ 27 3 rfl Try.underlying27 info_int (own3.below hb) hr rfl rfl (by decide) (by simp; omega) (by have := be3.size; have := hb.size; omega) ?_; intro v5 w5 own5 be5))
        obtain ⟨a5, cap5, rfl, hr5⟩ := own5.reads
        rw [hn.out]
        go_ret
        exact ⟨⟨a5, cap5, rfl, hr5⟩, (be3.trans (hb.mono be3.size)).trans be5⟩
      · have hd : (((m : Int) % 2) == 1) = false := by rw [beq_eq_false_iff_ne]; omega
        have h2 : 2 ≤ m := by omega
        have hn : Hid (rowN m = [1] ++ rowN ((m - 2) / 2)) := rowN_even m h0 (by omega)
        have hc := Lib.hid (IH.out ((m - 2) / 2) (by omega) (by omega))
        rw [show (((m - 2) / 2 : Nat) : Int) = ((m : Int) - 2) / 2 by omega] at hc
        have hl := rowN_length ((m - 2) / 2)
        generalize rowN ((m - 2) / 2) = ys at *
        clear ho h0
        go_enter Try.func40, Try.ntmps40
        go_wp2_with (first | (at_builtin; refine app_new1 (w := w) rfl _ _ 27 3 rfl Try.underlying27 info_int (OwnsNums.nil .i64 3 w.heap.size w) rfl rfl (by decide) (by simp) (by omega) ?_; intro v3 w3 own3 be3) | (go_at_call 40; refine (hc.out _).mono ?_; rintro e w4 ⟨⟨a, cap, rfl, hr⟩, hb⟩) | (at_builtin; refine app_nums (w := w4) rfl _ _ 27 3 rfl Try.underlying27 info_int (own3.below hb) hr rfl rfl (by decide) (by simp; omega) (by have := be3.size; have := hb.size; omega) ?_; intro v5 w5 own5 be5))
        obtain ⟨a5, cap5, rfl, hr5⟩ := own5.reads
        rw [hn.out]
        go_ret
        exact ⟨⟨a5, cap5, rfl, hr5⟩, (be3.trans (hb.mono be3.size)).trans be5⟩

/-- 7.1: what codes 0 and 1 stand for -/
theorem zref_Value (a : Option Addr) (cap : Nat) (xs : List Int) (w : World) (hx : xs.length ≤ 1099511627776) (hr : NumsAt .i64 w a xs) (hc : ∀ c ∈ xs, 0 ≤ c ∧ c ≤ 1) :
    Calls Try.prog 41 #[.slice a xs.length cap] w fun e w' => e = .returned (.int .i64 (valN xs)) ∧ w = w' := by
  go_enter Try.func41, Try.ntmps41
  go_wp2
  go_loop [3, 4, 9] (fun m p j => ∃ k : Nat, ∃ M W : Int, k ≤ xs.length ∧ j = .int .i64 k ∧ m = .int .i64 M ∧ p = .int .i64 W ∧ 0 ≤ M ∧ M ≤ 2 * W ∧ 1 ≤ W ∧ W ≤ 4398046511104 ∧ Hid (valN xs = valFrom M W (xs.drop k))) (fun _ _ j => xs.length - (intOf j).toNat)
  case atStart => exact ⟨0, 0, 1, by omega, rfl, rfl, rfl, by omega, by omega, by omega, by omega, rfl⟩
  case round =>
    obtain ⟨k, M, W, hk, rfl, rfl, rfl, hM0, hM1, hW0, hW1, H⟩ := hrel
    by_cases hlt : k < xs.length
    · obtain ⟨b, off, rfl, hcell⟩ := hr.some (by omega)
      have c1 := hcell k hlt
      have hcc := hc (xs.getD k 0) (by rw [List.getD_eq_getElem?_getD, List.getElem?_eq_getElem hlt]; exact List.getElem_mem hlt)
      have hdrop : xs.drop k = xs.getD k 0 :: xs.drop (k + 1) := by
        rw [List.drop_eq_getElem_cons hlt, List.getD_eq_getElem?_getD, List.getElem?_eq_getElem hlt]; rfl
      have H2 : Hid (valN xs = if W > 2199023255552 then 2199023255552 else valFrom (M + W + xs.getD k 0 * W) (2 * W) (xs.drop (k + 1))) := by
        unfold Hid; rw [H.out, hdrop]; rfl
      clear hcell hdrop H
      generalize xs.getD k 0 = c at *
      by_cases hw : 2199023255552 < W
      · have hd : decide (2199023255552 < W) = true := by simpa using hw
        go_wp2
        go_ret
        exact ⟨ret_int (by rw [H2.out, if_pos hw]), rfl⟩
      · have hd : decide (2199023255552 < W) = false := by simpa using hw
        have hcw : 0 ≤ c * W ∧ c * W ≤ W := by
          have : c = 0 ∨ c = 1 := by omega
          rcases this with rfl | rfl <;> omega
        go_wp2
        refine ⟨⟨k + 1, M + W + c * W, 2 * W, by omega, by go_num, rfl, rfl, by omega, by omega, by omega, by omega, ?_⟩, by simp [intOf]; omega⟩
        unfold Hid
        rw [H2.out, if_neg hw]
    · go_wp2
      go_ret
      exact ⟨ret_int (by rw [H.out, List.drop_of_length_le (by omega)]; rfl), rfl⟩

end Go.Proofs.Ytmbmlinbggmipaa
