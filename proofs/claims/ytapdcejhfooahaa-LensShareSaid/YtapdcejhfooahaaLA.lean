/- Small walks of layer 9: Compare, between, May, Longest, Halved, Share. -/
import Derived.Test.YtapdcejhfooahaaBase
import Derived.Test.YtapdcejhfooahaaQ
import Derived.Test.YtapdcejhfooahaaPlainW
import Derived.Test.YtapdcejhfooahaaLP
namespace Go.Proofs.Ytapdcejhfooahaa
set_option linter.unusedVariables false
set_option linter.unusedSimpArgs false
open Go.RowKit Hu

def cmp3 (x y : Int) : Int := if x < y then -1 else if y < x then 1 else 0
theorem l_isNaN (x : Int) (w : World) : Calls Try.prog 37 #[.int .i64 x] w fun e w' => e = .returned (.bool false) ∧ w = w' := by
  go_enter Try.func37, Try.ntmps37
  go_wp2
  go_ret
  exact ⟨rfl, rfl⟩
theorem l_Compare (x y : Int) (w : World) : Calls Try.prog 35 #[.int .i64 x, .int .i64 y] w fun e w' => e = .returned (.int .i64 (cmp3 x y)) ∧ w = w' := by
  by_cases h1 : x < y
  · have hc : Hid (cmp3 x y = -1) := by unfold Hid cmp3; rw [if_pos h1]
    have d1 : decide (x < y) = true := by simpa using h1
    go_enter Try.func35, Try.ntmps35
    go_wp2_with (first | (go_at_call 37; refine (l_isNaN _ _).mono ?_; rintro e w1 ⟨rfl, rfl⟩))
    go_ret
    exact ⟨ret_int (by rw [hc.out]), rfl⟩
  · have d1 : decide (x < y) = false := by simpa using h1
    by_cases h2 : y < x
    · have hc : Hid (cmp3 x y = 1) := by unfold Hid cmp3; rw [if_neg h1, if_pos h2]
      have d2 : decide (y < x) = true := by simpa using h2
      go_enter Try.func35, Try.ntmps35
      go_wp2_with (first | (go_at_call 37; refine (l_isNaN _ _).mono ?_; rintro e w1 ⟨rfl, rfl⟩))
      go_ret
      exact ⟨ret_int (by rw [hc.out]), rfl⟩
    · have hc : Hid (cmp3 x y = 0) := by unfold Hid cmp3; rw [if_neg h1, if_neg h2]
      have d2 : decide (y < x) = false := by simpa using h2
      go_enter Try.func35, Try.ntmps35
      go_wp2_with (first | (go_at_call 37; refine (l_isNaN _ _).mono ?_; rintro e w1 ⟨rfl, rfl⟩))
      go_ret
      exact ⟨ret_int (by rw [hc.out]), rfl⟩

def outB (lo hi x : Int) : Bool := decide (x < lo) || decide (hi < x)
def mayB (l : List Int) (lo hi : Int) : Bool := l.all fun x => !outB lo hi x
theorem l_out (x lo hi : Int) (p q : Addr) (w : World) (hp : w.cell? p = some (.int .i64 lo)) (hq : w.cell? q = some (.int .i64 hi)) :
    Calls Try.prog 27 #[.int .i64 x, .pointer (some p), .pointer (some q)] w fun e w' => e = .returned (.bool (outB lo hi x)) ∧ w = w' := by
  by_cases h1 : x < lo
  · have hc : Hid (outB lo hi x = true) := by unfold Hid outB; simp [h1]
    have d1 : decide (x < lo) = true := by simpa using h1
    go_enter Try.func27, Try.ntmps27
    go_wp2
    go_ret
    exact ⟨ret_bool (by rw [hc.out]), rfl⟩
  · have d1 : decide (x < lo) = false := by simpa using h1
    have hc : Hid (outB lo hi x = decide (hi < x)) := by unfold Hid outB; rw [d1]; rfl
    go_enter Try.func27, Try.ntmps27
    go_wp2
    go_ret
    exact ⟨ret_bool (by rw [hc.out]), rfl⟩

theorem may_true {l : List Int} {lo hi : Int} : mayB l lo hi = true ↔ ∀ j, j < l.length → outB lo hi (l.getD j 0) = false := by
  unfold mayB
  rw [List.all_eq_true]
  constructor
  · intro h j hj
    have := h (l.getD j 0) (by rw [List.getD_eq_getElem?_getD, List.getElem?_eq_getElem hj]; exact List.getElem_mem hj)
    simpa using this
  · intro h x hx
    obtain ⟨j, hj, rfl⟩ := List.mem_iff_getElem.1 hx
    have := h j hj
    rw [List.getD_eq_getElem?_getD, List.getElem?_eq_getElem hj] at this
    simpa using this
def geB (i : Int) : Bool := decide (0 ≤ i)
theorem l_IndexFunc (a : Option Addr) (cap : Nat) (xs : List Int) (lo hi : Int) (p q : Addr) (w : World) (hx : xs.length ≤ 1099511627776) (hr : NumsAt .i64 w a xs) (hp : w.cell? p = some (.int .i64 lo)) (hq : w.cell? q = some (.int .i64 hi)) :
    Calls Try.prog 32 #[.slice a xs.length cap, .func (.func 27) #[] #[.pointer (some p), .pointer (some q)]] w fun e w' => (∃ i : Int, e = .returned (.int .i64 i) ∧ decide (0 ≤ i) = !mayB xs lo hi ∧ i ≤ 1099511627776) ∧ w = w' := by
  have HO := Lib.hid (fun x => l_out x lo hi p q w hp hq)
  have HR := Lib.hid hr
  clear hr hp hq
  go_enter Try.func32, Try.ntmps32
  go_wp2_with fail
  go_loop [8] (fun v => ∃ k : Nat, k ≤ xs.length ∧ v = .int .i64 (k : Nat) ∧ Hid (∀ j, j < k → outB lo hi (xs.getD j 0) = false)) (fun v => xs.length - (intOf v).toNat)
  case atStart => exact ⟨0, Nat.zero_le _, rfl, fun j hj => absurd hj (Nat.not_lt_zero _)⟩
  case round =>
    obtain ⟨k, hk, rfl, hg⟩ := hrel
    by_cases hlt : k < xs.length
    · obtain ⟨b0, off, rfl, hc⟩ := HR.out.some (by omega)
      have ic := hc k hlt
      clear hc
      cases ho : outB lo hi (xs.getD k 0) with
      | true =>
        have HM : Hid (mayB xs lo hi = false) := by
          unfold Hid
          rw [Bool.eq_false_iff]
          intro h
          rw [may_true] at h
          rw [h k hlt] at ho
          cases ho
        have HOk := HO.out (xs.getD k 0)
        rw [ho] at HOk
        have HOk := Lib.hid HOk
        generalize xs.getD k 0 = x at *
        clear ho
        go_wp2_with fail
        refine HOk.out.mono ?_
        rintro e w1 ⟨rfl, rfl⟩
        go_wp2_with fail
        go_ret
        exact ⟨⟨(k : Nat), rfl, by rw [HM.out]; simp, by omega⟩, rfl⟩
      | false =>
        have HN : Hid (∀ j, j < k + 1 → outB lo hi (xs.getD j 0) = false) := fun j hj => by
          by_cases e : j = k
          · rw [e]; exact ho
          · exact hg.out j (by omega)
        have HOk := HO.out (xs.getD k 0)
        rw [ho] at HOk
        have HOk := Lib.hid HOk
        generalize xs.getD k 0 = x at *
        clear ho
        go_wp2_with fail
        refine HOk.out.mono ?_
        rintro e w1 ⟨rfl, rfl⟩
        go_wp2_with fail
        exact ⟨⟨k + 1, by omega, by go_num, HN⟩, by simp [intOf]; omega⟩
    · obtain rfl : k = xs.length := by omega
      have HM : Hid (mayB xs lo hi = true) := may_true.2 hg.out
      go_wp2_with fail
      go_ret
      exact ⟨⟨-1, rfl, by rw [HM.out]; rfl, by omega⟩, rfl⟩

theorem l_between (a : Option Addr) (cap : Nat) (xs : List Int) (lo hi : Int) (w : World) (hx : xs.length ≤ 1099511627776) (hr : NumsAt .i64 w a xs) :
    Calls Try.prog 21 #[.slice a xs.length cap, .int .i64 lo, .int .i64 hi] w fun e w' => e = .returned (.bool (mayB xs lo hi)) ∧ Below w.heap.size w w' := by
  have hmf : ∀ (fn : Fn) (first cap : Array Value) (w : World), (Instr.makeFunc fn first cap).run Try.prog w = .ok (.func fn first cap) w := fun _ _ _ _ => rfl
  obtain ⟨W, hW⟩ : ∃ W, (w.alloc (.cells #[.int .i64 lo] 3)).alloc (.cells #[.int .i64 hi] 3) = W := ⟨_, rfl⟩
  have hB : Below w.heap.size w W := hW ▸ ka (ka (kr _) _) _
  have b1 : Blk W w.heap.size 3 #[.int .i64 lo] := hW ▸ (Blk.new w _ _).kept (ka (kr _) _)
  have e1 : (w.alloc (.cells #[.int .i64 lo] 3)).heap.size = w.heap.size + 1 := by simp
  have b2 : Blk W (w.heap.size + 1) 3 #[.int .i64 hi] := hW ▸ e1 ▸ Blk.new _ _ _
  have HI := Lib.hid (l_IndexFunc a cap xs lo hi ⟨w.heap.size, 0, none⟩ ⟨w.heap.size + 1, 0, none⟩ W hx (hr.below hB) (b1.at_ 0 rfl) (b2.at_ 0 rfl))
  have HC : Hid (Calls Try.prog 26 #[.slice a xs.length cap, .func (.func 27) #[] #[.pointer (some ⟨w.heap.size, 0, none⟩), .pointer (some ⟨w.heap.size + 1, 0, none⟩)]] W fun e w' => e = .returned (.bool (!mayB xs lo hi)) ∧ W = w') := by
    clear hW hr
    go_enter Try.func26, Try.ntmps26
    go_wp2_with fail
    refine HI.out.mono ?_
    rintro e w1 ⟨⟨i, rfl, hi2, hi3⟩, rfl⟩
    have HI2 := Lib.hid hi2
    clear hi2
    go_wp2_with fail
    go_ret
    exact ⟨ret_bool HI2.out, rfl⟩
  generalize mayB xs lo hi = m at *
  clear hr b1 b2 HI
  go_enter Try.func21, Try.ntmps21
  go_wp2_with fail
  refine HC.out.mono ?_
  rintro e w1 ⟨rfl, rfl⟩
  go_wp2_with fail
  go_ret
  exact ⟨ret_bool (by simp), hB⟩

end Go.Proofs.Ytapdcejhfooahaa
