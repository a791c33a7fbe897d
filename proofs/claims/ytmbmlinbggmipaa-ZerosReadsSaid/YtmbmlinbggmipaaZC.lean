/- Walks of the reader of layer 7, of the package. -/
import Derived.Test.YtmbmlinbggmipaaZB
namespace Go.Proofs.Ytmbmlinbggmipaa
set_option linter.unusedVariables false
set_option linter.unusedSimpArgs false
open Go.RowKit Zp

def cellsR (r : RS) : Array Value := #[.int .i64 r.n, .int .i64 r.most, .int .i64 r.told, .int .i64 r.zeros, .int .i64 r.weight, .bool r.done]
def RdIn (w : World) (g : Nat) (r : RS) : Prop := Blk w g 64 (cellsR r)

theorem z_NewReader_no (n most : Int) (w : World) (h : mayB n = false ∨ mayB n = true ∧ (most < 0 ∨ 0 ≤ most ∧ 1099511627776 < most)) :
    Calls Try.prog 31 #[.int .i64 n, .int .i64 most] w fun e w' => e = .returned (.tuple #[.pointer none, .int .i64 1]) ∧ w = w' := by
  rcases h with h | ⟨h, h2 | ⟨h2, h3⟩⟩
  · go_enter Try.func31, Try.ntmps31
    go_wp2_with (first | (go_at_call 44; refine (z_may _ _).mono ?_; rintro e w' ⟨rfl, rfl⟩))
    go_ret2
    exact ⟨rfl, rfl⟩
  · have hd : decide (most < 0) = true := by simpa using h2
    go_enter Try.func31, Try.ntmps31
    go_wp2_with (first | (go_at_call 44; refine (z_may _ _).mono ?_; rintro e w' ⟨rfl, rfl⟩))
    go_ret2
    exact ⟨rfl, rfl⟩
  · have hd : decide (most < 0) = false := by simp; omega
    have hd2 : decide (1099511627776 < most) = true := by simpa using h3
    go_enter Try.func31, Try.ntmps31
    go_wp2_with (first | (go_at_call 44; refine (z_may _ _).mono ?_; rintro e w' ⟨rfl, rfl⟩))
    go_ret2
    exact ⟨rfl, rfl⟩

theorem z_NewReader (n most : Int) (w : World) (h : mayB n = true) (h0 : 0 ≤ most) (h1 : most ≤ 1099511627776) :
    Calls Try.prog 31 #[.int .i64 n, .int .i64 most] w fun e w' => e = .returned (.tuple #[.pointer (some ⟨w.heap.size, 0, none⟩), .int .i64 0]) ∧ RdIn w' w.heap.size ⟨n, most, 0, 0, 1, false⟩ ∧ Below w.heap.size w w' := by
  have hd : decide (most < 0) = false := by simp; omega
  have hd2 : decide (1099511627776 < most) = false := by simp; omega
  go_enter Try.func31, Try.ntmps31
  go_wp2_with (first | (go_at_call 44; refine (z_may _ _).mono ?_; rintro e w' ⟨rfl, rfl⟩))
  go_ret2
  exact ⟨rfl, Blk.new _ _ _, ka (kr _) _⟩

theorem z_Done (g : Nat) (r : RS) (w : World) (hr : RdIn w g r) :
    Calls Try.prog 34 #[.pointer (some ⟨g, 0, none⟩)] w fun e w' => e = .returned (.bool r.done) ∧ w = w' := by
  have c5 : w.cell? ⟨g, 5, none⟩ = some (.bool r.done) := hr.cell 5
  clear hr
  go_enter Try.func34, Try.ntmps34
  go_wp2
  go_ret
  exact ⟨rfl, rfl⟩
theorem z_Done_nil (w : World) : Calls Try.prog 34 #[.pointer none] w fun e w' => e = .returned (.bool false) ∧ w = w' := by
  go_enter Try.func34, Try.ntmps34
  go_wp2
  go_ret
  exact ⟨rfl, rfl⟩

theorem z_Count (g : Nat) (r : RS) (w : World) (hr : RdIn w g r) (h1 : 0 ≤ r.told) (h2 : 0 ≤ r.zeros) (h3 : r.told ≤ 1099511627776) (h4 : r.zeros ≤ 1099511627776) :
    Calls Try.prog 35 #[.pointer (some ⟨g, 0, none⟩)] w fun e w' => e = .returned (.int .i64 (r.told + r.zeros)) ∧ ∃ n, w' = w.drewN n := by
  have c2 : w.cell? ⟨g, 2, none⟩ = some (.int .i64 r.told) := hr.cell 2
  have c3 : w.cell? ⟨g, 3, none⟩ = some (.int .i64 r.zeros) := hr.cell 3
  clear hr
  go_enter Try.func35, Try.ntmps35
  go_wp2
  go_quiet (fail)
  go_wp2
  go_ret
  exact ⟨rfl, _, rfl⟩
theorem z_Count_nil (w : World) : Calls Try.prog 35 #[.pointer none] w fun e w' => e = .returned (.int .i64 0) ∧ w = w' := by
  go_enter Try.func35, Try.ntmps35
  go_wp2
  go_ret
  exact ⟨rfl, rfl⟩

theorem z_more (g : Nat) (r : RS) (code : Int) (w : World) (hr : RdIn w g r) (ho : r.Ok) (hc : code = 0 ∨ code = 1) :
    Calls Try.prog 46 #[.pointer (some ⟨g, 0, none⟩), .int .i64 code] w fun e w' => e = .returned (.int .i64 (moreS r code).2) ∧ RdIn w' g (moreS r code).1 ∧ Only g w w' := by
  obtain ⟨h1, h2, h3, h4, h5, h6, _, _⟩ := ho
  have hcount := fun w hr => z_Count g r w hr h1 h2 (by omega) (by omega)
  have HC := Lib.hid hcount
  have HR := Lib.hid hr
  have c1 : w.cell? ⟨g, 1, none⟩ = some (.int .i64 r.most) := hr.cell 1
  have c3 : w.cell? ⟨g, 3, none⟩ = some (.int .i64 r.zeros) := hr.cell 3
  have c4 : w.cell? ⟨g, 4, none⟩ = some (.int .i64 r.weight) := hr.cell 4
  have f3 : w.frozen? ⟨g, 3, none⟩ = false := hr.free 3
  have f4 : w.frozen? ⟨g, 4, none⟩ = false := hr.free 4
  clear hr hcount
  rcases hc with rfl | rfl
  · have hmul : Hid (r.weight * (1 + 0) = r.weight) := by unfold Hid; omega
    by_cases hgt : r.most - (r.told + r.zeros) < r.weight
    · have hd : decide (r.most - (r.told + r.zeros) < r.weight) = true := by simpa using hgt
      have H : Hid (moreS r 0 = (r, 2)) := by unfold Hid moreS; rw [hmul.out, if_pos hgt]
      go_enter Try.func46, Try.ntmps46
      go_wp2
      go_quiet ((go_at_call 35; exact Calls.quiet_of (HC.out _ (Blk.drewN HR.out _))))
      go_wp2
      go_ret
      rw [H.out]
      exact ⟨rfl, Blk.drewN HR.out _, (Only.refl _ _).drewN _⟩
    · have hd : decide (r.most - (r.told + r.zeros) < r.weight) = false := by simpa using hgt
      have H : Hid (moreS r 0 = ({ r with zeros := r.zeros + r.weight, weight := r.weight * 2 }, 0)) := by unfold Hid moreS; rw [hmul.out, if_neg hgt]
      go_enter Try.func46, Try.ntmps46
      go_wp2
      go_quiet ((go_at_call 35; exact Calls.quiet_of (HC.out _ (Blk.drewN HR.out _))))
      go_wp2
      go_ret
      rw [H.out]
      exact ⟨rfl, (Blk.put (Blk.put (Blk.drewN HR.out _) 3 _) 4 _), (((Only.refl _ _).drewN _).set _ _).set _ _⟩
  · have hmul : Hid (r.weight * (1 + 1) = r.weight * 2) := by unfold Hid; omega
    by_cases hgt : r.most - (r.told + r.zeros) < r.weight * 2
    · have hd : decide (r.most - (r.told + r.zeros) < r.weight * 2) = true := by simpa using hgt
      have H : Hid (moreS r 1 = (r, 2)) := by unfold Hid moreS; rw [hmul.out, if_pos hgt]
      go_enter Try.func46, Try.ntmps46
      go_wp2
      go_quiet ((go_at_call 35; exact Calls.quiet_of (HC.out _ (Blk.drewN HR.out _))))
      go_wp2
      go_ret
      rw [H.out]
      exact ⟨rfl, Blk.drewN HR.out _, (Only.refl _ _).drewN _⟩
    · have hd : decide (r.most - (r.told + r.zeros) < r.weight * 2) = false := by simpa using hgt
      have H : Hid (moreS r 1 = ({ r with zeros := r.zeros + r.weight * 2, weight := r.weight * 2 }, 0)) := by unfold Hid moreS; rw [hmul.out, if_neg hgt]
      go_enter Try.func46, Try.ntmps46
      go_wp2
      go_quiet ((go_at_call 35; exact Calls.quiet_of (HC.out _ (Blk.drewN HR.out _))))
      go_wp2
      go_ret
      rw [H.out]
      exact ⟨rfl, (Blk.put (Blk.put (Blk.drewN HR.out _) 3 _) 4 _), (((Only.refl _ _).drewN _).set _ _).set _ _⟩

/-- what Put leaves -/
def PutOut (g : Nat) (w : World) (q : RS × Int × Int × Int) (e : Ending) (w' : World) : Prop :=
  e = .returned (.tuple #[.int .i64 q.2.1, .int .i64 q.2.2.1, .int .i64 q.2.2.2]) ∧ RdIn w' g q.1 ∧ Only g w w'

theorem z_Put (g : Nat) (r : RS) (code : Int) (w : World) (hr : RdIn w g r) (ho : r.Ok) :
    Calls Try.prog 32 #[.pointer (some ⟨g, 0, none⟩), .int .i64 code] w fun e w' => PutOut g w (putS r code) e w' := by
  have hmo := fun w hr hc => z_more g r code w hr ho hc
  obtain ⟨h1, h2, h3, h4, h5, h6, h7, h8⟩ := ho
  have hcount := fun w hr => z_Count g r w hr h1 h2 (by omega) (by omega)
  have HC := Lib.hid hcount
  have HM := Lib.hid hmo
  have HR := Lib.hid hr
  have c0 : w.cell? ⟨g, 0, none⟩ = some (.int .i64 r.n) := hr.cell 0
  have c1 : w.cell? ⟨g, 1, none⟩ = some (.int .i64 r.most) := hr.cell 1
  have c2 : w.cell? ⟨g, 2, none⟩ = some (.int .i64 r.told) := hr.cell 2
  have c3 : w.cell? ⟨g, 3, none⟩ = some (.int .i64 r.zeros) := hr.cell 3
  have c4 : w.cell? ⟨g, 4, none⟩ = some (.int .i64 r.weight) := hr.cell 4
  have c5 : w.cell? ⟨g, 5, none⟩ = some (.bool r.done) := hr.cell 5
  have f2 : w.frozen? ⟨g, 2, none⟩ = false := hr.free 2
  have f3 : w.frozen? ⟨g, 3, none⟩ = false := hr.free 3
  have f4 : w.frozen? ⟨g, 4, none⟩ = false := hr.free 4
  have f5 : w.frozen? ⟨g, 5, none⟩ = false := hr.free 5
  clear hr hcount hmo
  cases hdn : r.done with
  | true =>
    have H : Hid (putS r code = (r, 0, 0, 7)) := by unfold Hid putS; rw [if_pos hdn]
    go_enter Try.func32, Try.ntmps32
    go_wp2
    go_ret3
    rw [H.out]
    exact ⟨rfl, HR.out, Only.refl _ _⟩
  | false =>
    have K0 : Hid (putS r code = if code < 0 ∨ r.n + 1 < code then (r, 0, 0, 25)
  else if code ≤ 1 then (if (moreS r code).2 = 0 then ((moreS r code).1, 0, -1, 0) else (r, 0, 0, (moreS r code).2))
  else if code = r.n + 1 then ({ r with told := r.told + r.zeros, zeros := 0, weight := 1, done := true }, r.zeros, -1, 0)
  else if r.told + r.zeros = r.most then (r, 0, 0, 2)
  else ({ r with told := r.told + 1 + r.zeros, zeros := 0, weight := 1 }, r.zeros, code - 1, 0)) := by unfold Hid putS; rw [if_neg (by simp [hdn])]
    by_cases hc0 : code < 0
    · have H : Hid (putS r code = (r, 0, 0, 25)) := by unfold Hid; rw [K0.out, if_pos (.inl hc0)]
      have hd : decide (code < 0) = true := by simpa using hc0
      go_enter Try.func32, Try.ntmps32
      go_wp2
      go_ret3
      rw [H.out]
      exact ⟨rfl, HR.out, Only.refl _ _⟩
    · have hd : decide (code < 0) = false := by simpa using hc0
      by_cases hc1 : r.n + 1 < code
      · have H : Hid (putS r code = (r, 0, 0, 25)) := by unfold Hid; rw [K0.out, if_pos (.inr hc1)]
        have hd1 : decide (r.n + 1 < code) = true := by simpa using hc1
        go_enter Try.func32, Try.ntmps32
        go_wp2
        go_ret3
        rw [H.out]
        exact ⟨rfl, HR.out, Only.refl _ _⟩
      · have hd1 : decide (r.n + 1 < code) = false := by simpa using hc1
        by_cases hc2 : code ≤ 1
        · have hd2 : decide (code ≤ 1) = true := by simpa using hc2
          have hm := HM.out w HR.out (by omega)
          have K1 : Hid (putS r code = if (moreS r code).2 = 0 then ((moreS r code).1, 0, -1, 0) else (r, 0, 0, (moreS r code).2)) := by unfold Hid; rw [K0.out, if_neg (by omega), if_pos hc2]
          have K2 : Hid ((moreS r code).2 ≠ 0 → (moreS r code).1 = r) := by unfold Hid moreS; split <;> simp
          generalize moreS r code = mo at *
          obtain ⟨r', er⟩ := mo
          have HM2 := Lib.hid hm
          clear hm
          by_cases her : er = 0
          · subst her
            go_enter Try.func32, Try.ntmps32
            go_wp2_with (first | (go_at_call 46; refine (HM2.out).mono ?_; rintro e w4 ⟨rfl, hr4, ho4⟩))
            go_ret3
            rw [K1.out]
            exact ⟨rfl, hr4, ho4⟩
          · have hne : (er != 0) = true := by simpa using her
            have K3 : Hid (r' = r) := K2.out her
            have K4 : Hid (putS r code = (r, 0, 0, er)) := by unfold Hid; rw [K1.out, if_neg her]
            clear her K2
            go_enter Try.func32, Try.ntmps32
            go_wp2_with (first | (go_at_call 46; refine (HM2.out).mono ?_; rintro e w4 ⟨rfl, hr4, ho4⟩))
            go_ret3
            rw [K4.out]
            have e := K3.out
            subst e
            exact ⟨rfl, hr4, ho4⟩
        · have hd2 : decide (code ≤ 1) = false := by simpa using hc2
          by_cases hc3 : code = r.n + 1
          · have hd3 : (code == r.n + 1) = true := by simpa using hc3
            have H : Hid (putS r code = ({ r with told := r.told + r.zeros, zeros := 0, weight := 1, done := true }, r.zeros, -1, 0)) := by unfold Hid; rw [K0.out, if_neg (by omega), if_neg hc2, if_pos hc3]
            clear hc3
            go_enter Try.func32, Try.ntmps32
            go_wp2
            go_ret3
            rw [H.out]
            exact ⟨rfl, Blk.put (Blk.put (Blk.put (Blk.put HR.out 5 _) 2 _) 3 _) 4 _, ((((Only.refl _ _).set _ _).set _ _).set _ _).set _ _⟩
          · have hd3 : (code == r.n + 1) = false := by simpa using hc3
            by_cases hc4 : r.told + r.zeros = r.most
            · have hd4 : (r.told + r.zeros == r.most) = true := by simpa using hc4
              have H : Hid (putS r code = (r, 0, 0, 2)) := by unfold Hid; rw [K0.out, if_neg (by omega), if_neg hc2, if_neg hc3, if_pos hc4]
              clear hc3 hc4
              go_enter Try.func32, Try.ntmps32
              go_wp2
              go_quiet ((go_at_call 35; exact Calls.quiet_of (HC.out _ (Blk.drewN HR.out _))))
              go_wp2
              go_ret3
              rw [H.out]
              exact ⟨rfl, Blk.drewN HR.out _, (Only.refl _ _).drewN _⟩
            · have hd4 : (r.told + r.zeros == r.most) = false := by simpa using hc4
              have H : Hid (putS r code = ({ r with told := r.told + 1 + r.zeros, zeros := 0, weight := 1 }, r.zeros, code - 1, 0)) := by unfold Hid; rw [K0.out, if_neg (by omega), if_neg hc2, if_neg hc3, if_neg hc4]
              clear hc3 hc4
              go_enter Try.func32, Try.ntmps32
              go_wp2
              go_quiet ((go_at_call 35; exact Calls.quiet_of (HC.out _ (Blk.drewN HR.out _))))
              go_wp2
              go_ret3
              rw [H.out]
              exact ⟨rfl, Blk.put (Blk.put (Blk.put (Blk.put (Blk.drewN HR.out _) 2 _) 2 _) 3 _) 4 _, (((((Only.refl _ _).drewN _).set _ _).set _ _).set _ _).set _ _⟩

end Go.Proofs.Ytmbmlinbggmipaa
