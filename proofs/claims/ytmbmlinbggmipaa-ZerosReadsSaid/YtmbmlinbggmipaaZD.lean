/- Walks of the reader of layer 7, of the reference. -/
import Derived.Test.YtmbmlinbggmipaaZC
import Derived.Test.YtmbmlinbggmipaaQ
namespace Go.Proofs.Ytmbmlinbggmipaa
set_option linter.unusedVariables false
set_option linter.unusedSimpArgs false
open Go.RowKit Zp

theorem zref_Count (n most told : Int) (a : Option Addr) (cap : Nat) (row : List Int) (done : Bool) (w : World) (hr : NumsAt .i64 w a row) (hl : row.length ≤ 1001) (hc : ∀ c ∈ row, 0 ≤ c ∧ c ≤ 1) (h0 : 0 ≤ told) (h1 : told ≤ 1099511627776) :
    Calls Try.prog 36 #[.agg #[.int .i64 n, .int .i64 most, .int .i64 told, .slice a row.length cap, .bool done]] w fun e w' => e = .returned (.int .i64 (told + valN row)) ∧ Below w.heap.size w w' := by
  have hv := valN_range row hc
  have HV : Hid (∀ w, NumsAt .i64 w a row → Calls Try.prog 41 #[.slice a row.length cap] w fun e w' => e = .returned (.int .i64 (valN row)) ∧ w = w') := fun w hr => zref_Value a cap row w (by omega) hr hc
  generalize valN row = V at *
  have HR := Lib.hid hr
  clear hr
  go_enter Try.func36, Try.ntmps36
  go_wp2
  go_quiet ((go_at_call 41; exact q_left (HV.out _ ((HR.out.alloc _).drewN _))))
  go_wp2
  go_ret
  exact ⟨rfl, (by repeat (first | (with_reducible exact kr _) | (with_reducible assumption) | (with_reducible refine kt ?_ (by assumption)) | (with_reducible refine ka ?_ _) | (with_reducible refine kd ?_ _)))⟩

/-- a state and what was told, as the struct that Put answers -/
def StepV (q : RR × Int × Int × Int) (a : Option Addr) (cap : Nat) : Value :=
  .agg #[.int .i64 q.1.n, .int .i64 q.1.most, .int .i64 q.1.told, .slice a q.1.row.length cap, .bool q.1.done, .int .i64 q.2.1, .int .i64 q.2.2.1, .int .i64 q.2.2.2]
def StepOut (a : Option Addr) (row : List Int) (w : World) (q : RR × Int × Int × Int) (e : Ending) (w' : World) : Prop :=
  (∃ a' cap, e = .returned (StepV q a' cap) ∧ NumsAt .i64 w' a' q.1.row ∧ ∀ p, a' = some p → a = some p ∧ q.1.row = row ∨ w.heap.size ≤ p.block) ∧ Below w.heap.size w w'

/-- three new blocks, two appends above them, a store into the third -/
theorem three_blocks (w w5 w6 : World) (t1 t2 t3 e : TypeId) (c1 c2 c3 : Array Value) (k : Nat) (a6 : Option Addr) (cap6 n : Nat) (ys : List Int) (hn : ys.length = n)
    (be5 : Below (w.heap.size + 1 + 1 + 1) (((w.alloc (.cells c1 t1)).alloc (.cells c2 t2)).alloc (.cells c3 t3)) w5) (be6 : Below (w.heap.size + 1 + 1 + 1) w5 w6)
    (own6 : OwnsNums .i64 e (w.heap.size + 1 + 1 + 1) w6 (.slice a6 ys.length cap6) ys) :
    ∃ W0, w6.setCell ⟨w.heap.size + 1 + 1, k, none⟩ (.slice a6 n cap6) = W0 ∧ Blk W0 w.heap.size t1 c1 ∧ Blk W0 (w.heap.size + 1) t2 c2 ∧ Blk W0 (w.heap.size + 1 + 1) t3 (c3.setIfInBounds k (.slice a6 n cap6)) ∧ NumsAt .i64 W0 a6 ys ∧ Below w.heap.size w W0 ∧ (∀ p, a6 = some p → w.heap.size + 1 + 1 + 1 ≤ p.block) := by
  subst hn
  refine ⟨_, rfl, ?_, ?_, ?_, ?_, ?_, own6.far⟩
  · exact ((((Blk.new w t1 c1).alloc _).alloc _).below be5 (by omega) |>.below be6 (by omega)).far (by simp; omega) _
  · have h := (Blk.new (w.alloc (.cells c1 t1)) t2 c2).alloc (.cells c3 t3)
    rw [show (w.alloc (.cells c1 t1)).heap.size = w.heap.size + 1 by simp] at h
    exact ((h.below be5 (by omega)).below be6 (by omega)).far (by simp) _
  · have h := Blk.new ((w.alloc (.cells c1 t1)).alloc (.cells c2 t2)) t3 c3
    rw [show ((w.alloc (.cells c1 t1)).alloc (.cells c2 t2)).heap.size = w.heap.size + 1 + 1 by simp] at h
    exact ((h.below be5 (by omega)).below be6 (by omega)).put k _
  · have h := ownsRow_setCell_below own6 (a := ⟨w.heap.size + 1 + 1, k, none⟩) (by simp) (.slice a6 ys.length cap6)
    obtain ⟨_, a', cap', he, hr⟩ := NumsAt.of_owns h
    cases he
    exact hr
  · have hA : Below w.heap.size w (((w.alloc (.cells c1 t1)).alloc (.cells c2 t2)).alloc (.cells c3 t3)) := ka (ka (ka (kr _) _) _) _
    exact ks ((hA.trans (be5.mono (by omega))).trans (be6.mono (by omega))) (by simp; omega) _

set_option maxHeartbeats 2000000 in
theorem zref_Put (r : RR) (a : Option Addr) (cap : Nat) (code : Int) (w : World) (hr : NumsAt .i64 w a r.row) (ho : r.Ok) :
    Calls Try.prog 33 #[.agg #[.int .i64 r.n, .int .i64 r.most, .int .i64 r.told, .slice a r.row.length cap, .bool r.done], .int .i64 code] w fun e w' => StepOut a r.row w (putR r code) e w' := by
  have h2 : r.told ≤ 1099511627776 := by have := ho.sum; have := ho.most1; have := (valN_range r.row ho.codes).1; omega
  obtain ⟨h1, _, h3, h40, h4, h5, h6⟩ := ho
  have HR := Lib.hid hr
  clear hr
  cases hdn : r.done with
  | true =>
    have H : Hid (putR r code = (r, 0, 0, 7)) := by unfold Hid putR; rw [if_pos hdn]
    go_enter Try.func33, Try.ntmps33
    go_wp2
    exact bodyPost_ret (v := StepV (r, 0, 0, 7) a cap) (by simp [results, Try.results33, go_sem, StepV, hdn]) rfl (by rw [H.out]; exact ⟨⟨a, cap, rfl, (HR.out.alloc _).alloc _, fun p hp => .inl ⟨hp, rfl⟩⟩, ka (ka (kr _) _) _⟩)
  | false =>
    have K0 : Hid (putR r code = if code < 0 ∨ r.n + 1 < code then (r, 0, 0, 25)
  else if code < 2 then (if r.most < r.told + valN (r.row ++ [code]) then (r, 0, 0, 2) else ({ r with row := r.row ++ [code] }, 0, -1, 0))
  else if code = r.n + 1 then ({ r with told := r.told + valN r.row, row := [], done := true }, valN r.row, -1, 0)
  else if r.most < r.told + valN r.row + 1 then (r, 0, 0, 2)
  else ({ r with told := r.told + valN r.row + 1, row := [] }, valN r.row, code - 1, 0)) := by unfold Hid putR; rw [if_neg (by simp [hdn])]
    by_cases hc0 : code < 0
    · have H : Hid (putR r code = (r, 0, 0, 25)) := by unfold Hid; rw [K0.out, if_pos (.inl hc0)]
      have hd : decide (code < 0) = true := by simpa using hc0
      go_enter Try.func33, Try.ntmps33
      go_wp2
      exact bodyPost_ret (v := StepV (r, 0, 0, 25) a cap) (by simp [results, Try.results33, go_sem, StepV, hdn]) rfl (by rw [H.out]; exact ⟨⟨a, cap, rfl, (HR.out.alloc _).alloc _, fun p hp => .inl ⟨hp, rfl⟩⟩, ka (ka (kr _) _) _⟩)
    · have hd : decide (code < 0) = false := by simpa using hc0
      by_cases hc1 : r.n + 1 < code
      · have H : Hid (putR r code = (r, 0, 0, 25)) := by unfold Hid; rw [K0.out, if_pos (.inr hc1)]
        have hd1 : decide (r.n + 1 < code) = true := by simpa using hc1
        go_enter Try.func33, Try.ntmps33
        go_wp2
        exact bodyPost_ret (v := StepV (r, 0, 0, 25) a cap) (by simp [results, Try.results33, go_sem, StepV, hdn]) rfl (by rw [H.out]; exact ⟨⟨a, cap, rfl, (HR.out.alloc _).alloc _, fun p hp => .inl ⟨hp, rfl⟩⟩, ka (ka (kr _) _) _⟩)
      · have hd1 : decide (r.n + 1 < code) = false := by simpa using hc1
        by_cases hc2 : code < 2
        · have hd2 : decide (code < 2) = true := by simpa using hc2
          have hcodes : ∀ c ∈ r.row ++ [code], 0 ≤ c ∧ c ≤ 1 := by
            intro c hc
            rcases List.mem_append.1 hc with h | h
            · exact h6 c h
            · simp at h; omega
          have K1 : Hid (putR r code = if r.most < r.told + valN (r.row ++ [code]) then (r, 0, 0, 2) else ({ r with row := r.row ++ [code] }, 0, -1, 0)) := by unfold Hid; rw [K0.out, if_neg (by omega), if_pos hc2]
          have HCT : Hid (∀ a cap w, NumsAt .i64 w a (r.row ++ [code]) → Calls Try.prog 36 #[.agg #[.int .i64 r.n, .int .i64 r.most, .int .i64 r.told, .slice a (r.row ++ [code]).length cap, .bool false]] w fun e w' => e = .returned (.int .i64 (r.told + valN (r.row ++ [code]))) ∧ Below w.heap.size w w') :=
            fun a cap w hr => zref_Count r.n r.most r.told a cap (r.row ++ [code]) false w hr (by simp; omega) hcodes h1 h2
          generalize hV : r.told + valN (r.row ++ [code]) = V at *
          have HVV := Lib.hid hV
          clear hV h6 hcodes K0
          go_enter Try.func33, Try.ntmps33
          go_wp2_with (first | (at_builtin; refine app_nums rfl _ _ 27 3 rfl Try.underlying27 info_int (OwnsNums.nil .i64 3 (w.heap.size + 1 + 1 + 1) _) (((HR.out.alloc _).alloc _).alloc _) rfl rfl (by decide) (by simp; omega) (by simp) ?_; intro v5 w5 own5 be5; obtain ⟨bc5, bf5⟩ := bcell be5; rw [List.nil_append] at own5) | (at_builtin; go_loud (refine app_new1 rfl _ _ 27 3 rfl Try.underlying27 info_int own5 rfl rfl (by decide) (by omega) (by have := be5.size; simp at this; omega) ?_); intro v6 w6 own6 be6; obtain ⟨bc6, bf6⟩ := bcell be6; obtain ⟨a6, cap6, rfl, hr6⟩ := own6.reads))
          obtain ⟨W0, hW, B1, B2, B3, hr0, hb0, hfar⟩ := three_blocks w w5 w6 _ _ _ _ _ _ _ 3 a6 cap6 (r.row.length + 1) (r.row ++ [code]) (by simp) be5 be6 own6
          rw [hW]
          clear hW be5 be6 bc5 bf5 bc6 bf6 own5 own6 hr6
          have HC2 : Hid (∀ W, Below W0.heap.size W0 W → Calls Try.prog 36 #[.agg #[.int .i64 r.n, .int .i64 r.most, .int .i64 r.told, .slice a6 (r.row.length + 1) cap6, .bool false]] W fun e w' => e = .returned (.int .i64 V) ∧ Below W.heap.size W w') := fun W hb => by
            have h := HCT.out a6 cap6 W (hr0.below hb)
            rwa [show (r.row ++ [code]).length = r.row.length + 1 by simp] at h
          have m1 : W0.cell? ⟨w.heap.size, 1, none⟩ = some (.int .i64 r.most) := B1.cell 1
          have n0 : W0.cell? ⟨w.heap.size + 1 + 1, 0, none⟩ = some (.int .i64 r.n) := B3.cell 0
          have n1 : W0.cell? ⟨w.heap.size + 1 + 1, 1, none⟩ = some (.int .i64 r.most) := B3.cell 1
          have n2 : W0.cell? ⟨w.heap.size + 1 + 1, 2, none⟩ = some (.int .i64 r.told) := B3.cell 2
          have n3 : W0.cell? ⟨w.heap.size + 1 + 1, 3, none⟩ = some (.slice a6 (r.row.length + 1) cap6) := B3.cell 3
          have n4 : W0.cell? ⟨w.heap.size + 1 + 1, 4, none⟩ = some (.bool false) := B3.cell 4
          have HK : Hid (∀ W, Below W0.heap.size W0 W → Below W0.heap.size W0 W ∧ W.cell? ⟨w.heap.size, 1, none⟩ = some (.int .i64 r.most) ∧ W.cell? ⟨w.heap.size + 1 + 1, 0, none⟩ = some (.int .i64 r.n) ∧ W.cell? ⟨w.heap.size + 1 + 1, 1, none⟩ = some (.int .i64 r.most) ∧ W.cell? ⟨w.heap.size + 1 + 1, 2, none⟩ = some (.int .i64 r.told) ∧ W.cell? ⟨w.heap.size + 1 + 1, 3, none⟩ = some (.slice a6 (r.row.length + 1) cap6) ∧ W.cell? ⟨w.heap.size + 1 + 1, 4, none⟩ = some (.bool false)) :=
            fun W hb => ⟨hb, cell_below m1 hb, cell_below n0 hb, cell_below n1 hb, cell_below n2 hb, cell_below n3 hb, cell_below n4 hb⟩
          clear m1 n0 n1 n2 n3 n4
          go_region_held3 (fun W => Below W0.heap.size W0 W ∧ W.cell? ⟨w.heap.size, 1, none⟩ = some (.int .i64 r.most) ∧ W.cell? ⟨w.heap.size + 1 + 1, 0, none⟩ = some (.int .i64 r.n) ∧ W.cell? ⟨w.heap.size + 1 + 1, 1, none⟩ = some (.int .i64 r.most) ∧ W.cell? ⟨w.heap.size + 1 + 1, 2, none⟩ = some (.int .i64 r.told) ∧ W.cell? ⟨w.heap.size + 1 + 1, 3, none⟩ = some (.slice a6 (r.row.length + 1) cap6) ∧ W.cell? ⟨w.heap.size + 1 + 1, 4, none⟩ = some (.bool false))
            ((refine HK.out _ ?_; (repeat (first | exact kr _ | assumption | exact And.left (by assumption) | refine kdr ?_ | refine kt ?_ (by assumption)))))
            (first | (go_at_call 36; refine (HC2.out _ (And.left (by assumption))).mono ?_; rintro e w7 ⟨rfl, hb7⟩))
          have hB7 : Below W0.heap.size W0 w7 := And.left (by assumption)
          have HF := Lib.hid hfar
          clear hfar
          have hr7 := Lib.hid (hr0.below hB7)
          have hA : Below w.heap.size w w7 := hb0.trans (hB7.mono hb0.size)
          have D1 := B1.kept hB7
          have D2 := B2.kept hB7
          have D3 := B3.kept hB7
          rename_i hheld
          clear hheld B1 B2 B3 hb7 HC2 HK HCT
          have x0 : World.cell? w7 ⟨_, 0, none⟩ = some _ := Blk.at_ D1 0 rfl; have x1 : World.cell? w7 ⟨_, 1, none⟩ = some _ := Blk.at_ D1 1 rfl; have x2 : World.cell? w7 ⟨_, 2, none⟩ = some _ := Blk.at_ D1 2 rfl; have x3 : World.cell? w7 ⟨_, 3, none⟩ = some _ := Blk.at_ D1 3 rfl; have x4 : World.cell? w7 ⟨_, 4, none⟩ = some _ := Blk.at_ D1 4 rfl
          have y0 : World.cell? w7 ⟨_, 0, none⟩ = some _ := Blk.at_ D2 0 rfl; have y1 : World.cell? w7 ⟨_, 1, none⟩ = some _ := Blk.at_ D2 1 rfl; have y2 : World.cell? w7 ⟨_, 2, none⟩ = some _ := Blk.at_ D2 2 rfl; have y3 : World.cell? w7 ⟨_, 3, none⟩ = some _ := Blk.at_ D2 3 rfl; have y4 : World.cell? w7 ⟨_, 4, none⟩ = some _ := Blk.at_ D2 4 rfl; have y5 : World.cell? w7 ⟨_, 5, none⟩ = some _ := Blk.at_ D2 5 rfl; have y6 : World.cell? w7 ⟨_, 6, none⟩ = some _ := Blk.at_ D2 6 rfl; have y7 : World.cell? w7 ⟨_, 7, none⟩ = some _ := Blk.at_ D2 7 rfl
          have yf0 : World.frozen? w7 ⟨_, 0, none⟩ = false := Blk.free D2 0; have yf1 : World.frozen? w7 ⟨_, 1, none⟩ = false := Blk.free D2 1; have yf2 : World.frozen? w7 ⟨_, 2, none⟩ = false := Blk.free D2 2; have yf3 : World.frozen? w7 ⟨_, 3, none⟩ = false := Blk.free D2 3; have yf4 : World.frozen? w7 ⟨_, 4, none⟩ = false := Blk.free D2 4; have yf5 : World.frozen? w7 ⟨_, 5, none⟩ = false := Blk.free D2 5; have yf6 : World.frozen? w7 ⟨_, 6, none⟩ = false := Blk.free D2 6; have yf7 : World.frozen? w7 ⟨_, 7, none⟩ = false := Blk.free D2 7
          have z0 : World.cell? w7 ⟨_, 0, none⟩ = some _ := Blk.at_ D3 0 rfl; have z1 : World.cell? w7 ⟨_, 1, none⟩ = some _ := Blk.at_ D3 1 rfl; have z2 : World.cell? w7 ⟨_, 2, none⟩ = some _ := Blk.at_ D3 2 rfl; have z3 : World.cell? w7 ⟨_, 3, none⟩ = some _ := Blk.at_ D3 3 rfl; have z4 : World.cell? w7 ⟨_, 4, none⟩ = some _ := Blk.at_ D3 4 rfl
          by_cases hgt : r.most < V
          · have hdV : decide (r.most < V) = true := by simpa using hgt
            have H : Hid (putR r code = (r, 0, 0, 2)) := by unfold Hid; rw [K1.out, if_pos hgt]
            clear K1
            go_wp2
            exact bodyPost_ret (v := StepV (r, 0, 0, 2) a cap) (by simp [results, Try.results33, go_sem, StepV, hdn, *]) rfl (by rw [H.out]; refine ⟨⟨a, cap, rfl, HR.out.below ?_, fun p hp => .inl ⟨hp, rfl⟩⟩, ?_⟩ <;> (repeat (first | (with_reducible exact hA) | (with_reducible refine ks ?_ (by simp) _))))
          · have hdV : decide (r.most < V) = false := by simpa using hgt
            have H : Hid (putR r code = ({ r with row := r.row ++ [code] }, 0, -1, 0)) := by unfold Hid; rw [K1.out, if_neg hgt]
            clear K1
            go_wp2
            exact bodyPost_ret (v := StepV ({ r with row := r.row ++ [code] }, 0, -1, 0) a6 cap6) (by simp [results, Try.results33, go_sem, StepV, hdn, *]) rfl (by rw [H.out]; exact ⟨⟨a6, cap6, rfl, (by repeat (first | (with_reducible exact hr7.out) | (with_reducible refine NumsAt.set ?_ (fun p hp => by have := HF.out p hp; simp; omega) _))), fun p hp => .inr (by have := HF.out p hp; omega)⟩, (by repeat (first | (with_reducible exact hA) | (with_reducible refine ks ?_ (by simp) _)))⟩)
        · have hd2 : decide (code < 2) = false := by simpa using hc2
          have hv := valN_range r.row h6
          have HV : Hid (∀ w, NumsAt .i64 w a r.row → Calls Try.prog 41 #[.slice a r.row.length cap] w fun e w' => e = .returned (.int .i64 (valN r.row)) ∧ w = w') := fun w hr => zref_Value a cap r.row w (by omega) hr h6
          have K1 : Hid (putR r code = if code = r.n + 1 then ({ r with told := r.told + valN r.row, row := [], done := true }, valN r.row, -1, 0)
  else if r.most < r.told + valN r.row + 1 then (r, 0, 0, 2)
  else ({ r with told := r.told + valN r.row + 1, row := [] }, valN r.row, code - 1, 0)) := by unfold Hid; rw [K0.out, if_neg (by omega), if_neg hc2]
          generalize valN r.row = V at *
          clear K0
          by_cases hc3 : code = r.n + 1
          · have hd3 : (code == r.n + 1) = true := by simpa using hc3
            have H : Hid (putR r code = ({ r with told := r.told + V, row := [], done := true }, V, -1, 0)) := by unfold Hid; rw [K1.out, if_pos hc3]
            clear hc3 K1
            go_enter Try.func33, Try.ntmps33
            go_wp2_with (first | (go_at_call 41; refine (HV.out _ (((HR.out.alloc _).alloc _).alloc _)).mono ?_; rintro e w4 ⟨rfl, rfl⟩))
            exact bodyPost_ret (v := StepV ({ r with told := r.told + V, row := [], done := true }, V, -1, 0) none 0) (by simp [results, Try.results33, go_sem, StepV]) rfl (by rw [H.out]; exact ⟨⟨none, 0, rfl, NumsAt.nil _ _ _, fun p hp => by cases hp⟩, (by repeat (first | (with_reducible exact kr _) | (with_reducible assumption) | (with_reducible refine kt ?_ (by assumption)) | (with_reducible refine ka ?_ _) | (with_reducible refine kd ?_ _)))⟩)
          · have hd3 : (code == r.n + 1) = false := by simpa using hc3
            by_cases hc4 : r.most < r.told + V + 1
            · have hd4 : decide (r.most < r.told + V + 1) = true := by simpa using hc4
              have H : Hid (putR r code = (r, 0, 0, 2)) := by unfold Hid; rw [K1.out, if_neg hc3, if_pos hc4]
              clear hc3 K1
              go_enter Try.func33, Try.ntmps33
              go_wp2_with (first | (go_at_call 41; refine (HV.out _ (((HR.out.alloc _).alloc _).alloc _)).mono ?_; rintro e w4 ⟨rfl, rfl⟩))
              exact bodyPost_ret (v := StepV (r, 0, 0, 2) a cap) (by simp [results, Try.results33, go_sem, StepV, hdn]) rfl (by rw [H.out]; exact ⟨⟨a, cap, rfl, ((HR.out.alloc _).alloc _).alloc _, fun p hp => .inl ⟨hp, rfl⟩⟩, (by repeat (first | (with_reducible exact kr _) | (with_reducible assumption) | (with_reducible refine kt ?_ (by assumption)) | (with_reducible refine ka ?_ _) | (with_reducible refine kd ?_ _)))⟩)
            · have hd4 : decide (r.most < r.told + V + 1) = false := by simpa using hc4
              have H : Hid (putR r code = ({ r with told := r.told + V + 1, row := [] }, V, code - 1, 0)) := by unfold Hid; rw [K1.out, if_neg hc3, if_neg hc4]
              clear hc3 K1
              go_enter Try.func33, Try.ntmps33
              go_wp2_with (first | (go_at_call 41; refine (HV.out _ (((HR.out.alloc _).alloc _).alloc _)).mono ?_; rintro e w4 ⟨rfl, rfl⟩))
              exact bodyPost_ret (v := StepV ({ r with told := r.told + V + 1, row := [] }, V, code - 1, 0) none 0) (by simp [results, Try.results33, go_sem, StepV, hdn]) rfl (by rw [H.out]; exact ⟨⟨none, 0, rfl, NumsAt.nil _ _ _, fun p hp => by cases hp⟩, (by repeat (first | (with_reducible exact kr _) | (with_reducible assumption) | (with_reducible refine kt ?_ (by assumption)) | (with_reducible refine ka ?_ _) | (with_reducible refine kd ?_ _)))⟩)

end Go.Proofs.Ytmbmlinbggmipaa
