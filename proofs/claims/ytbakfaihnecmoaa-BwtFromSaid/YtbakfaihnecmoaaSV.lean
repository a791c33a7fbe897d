/- The statement SorterLong. -/
import Derived.Test.YtbakfaihnecmoaaSN
import Derived.Laws.BytesArg
namespace Go.Proofs.Ytbakfaihnecmoaa
set_option linter.unusedVariables false
set_option linter.unusedSimpArgs false
open Go.RowKit Sp Pl

theorem info_u8 : (Try.prog.info? 5).map (fun i => (i.zero, i.size, i.bytes)) = some (some (.int .u8 0), 1, 1) := by kernel_rfl
def bRow (xs : List Int) : Array Value := (xs.map (Value.int .u8)).toArray
theorem bRow_made (n : Nat) : madeCells #[.int .u8 0] n = bRow (List.replicate n 0) := by
  apply Array.ext'
  rw [toList_madeCells_one]
  simp [bRow]
theorem bRow_set (xs : List Int) (i : Nat) (v : Int) : (bRow xs).setIfInBounds i (.int .u8 v) = bRow (xs.set i v) := by
  unfold bRow
  simp [List.map_set]
theorem bRow_at {w : World} {g : Nat} {t : TypeId} {xs : List Int} (h : Blk w g t (bRow xs)) {i : Nat} (hi : i < xs.length) : w.cell? ⟨g, i, none⟩ = some (.int .u8 (xs.getD i 0)) := by
  rw [h.cell i]
  simp [bRow, hi]
theorem bRow_str {w : World} {g : Nat} {xs : List Int} (h : Blk w g 5 (bRow xs)) : Sem.run Try.prog (convert 39 9 (.slice (some ⟨g, 0, none⟩) xs.length xs.length)) w = .ok (.string (strOfNums xs)) w :=
  run_convert_bytes_arg w 39 5 Try.underlying39 Try.underlying5 g 0 xs.length xs.length xs rfl (fun i hi => by rw [Nat.zero_add]; exact bRow_at h hi) 9 Try.underlying9
theorem start_done (s : ByteArray) : (AtS s 0).done = decide ((s.size : Int) < 2) := by
  show decide (s.size < 2) = _
  exact decide_eq_decide.2 (by omega)

theorem law_Long_mid (N : Nat) (c : Int) (w : World) (hN : N < 4294967296) (K : Nat) (hK : N % 900100 = K) (h1 : 3000 < K) (h2 : K ≤ 900000) : Calls Try.prog 5 #[.int .u32 (N : Nat), .int .u8 c] w fun e w' => e = .returned (.bool true) ∧ Below w.heap.size w w' := by
  have e1 : (N : Int) % 900100 = (K : Nat) := by omega
  have d1 : decide (3000 < (K : Int)) = true := by simp; omega
  have d2 : decide ((K : Int) ≤ 900000) = true := by simp; omega
  have hk := Lib.hid hK
  clear hK
  go_enter Try.func5, Try.ntmps5
  go_wp2_with (first | (go_at_call 15; refine (sort_banana _).mono ?_; rintro e w5 ⟨rfl, hb⟩))
  go_ret
  exact ⟨rfl, hb⟩

theorem law_Long (N : Nat) (c : Int) (w : World) (hN : N < 4294967296) (hc0 : 0 ≤ c) (hc1 : c < 256) (K : Nat) (hK : N % 900100 = K) (h1 : K ≤ 3000 ∨ 900000 < K) : Calls Try.prog 5 #[.int .u32 (N : Nat), .int .u8 c] w fun e w' => e = .returned (.bool true) ∧ Below w.heap.size w w' := by
  have e1 : (N : Int) % 900100 = (K : Nat) := by omega
  have hKl : K < 900100 := by omega
  have hk := Lib.hid hK
  clear hK
  have hmk := run_make_row' (P := Try.prog) 39 5 (.int .u8 0) 1 Try.underlying39 info_u8 rfl .i64 .i64 K (by omega) (by omega)
  have hmk := Lib.hid hmk
  have hmk2 := hmk.out
  rcases h1 with h1 | h1
  · have d1 : decide (3000 < (K : Int)) = false := by simp; omega
    have d3 : decide (900000 < (K : Int)) = false := by simp; omega
    go_enter Try.func5, Try.ntmps5
    go_wp2_with fail
    go_loopw [26] (fun i wr => ∃ k : Nat, k ≤ K ∧ i = .int .i64 (k : Nat) ∧ Hid (∃ xs, xs.length = K ∧ Blk wr w.heap.size 5 (bRow xs) ∧ Below w.heap.size w wr)) (fun i wr => K - (intOf i).toNat)
    case atStart => exact ⟨0, Nat.zero_le _, rfl, ⟨List.replicate K 0, by simp, bRow_made K ▸ Blk.new w _ _, ka (kr _) _⟩⟩
    case round =>
      obtain ⟨wo, rfl⟩ : ∃ wo : World, wo = wr := ⟨_, rfl⟩
      obtain ⟨k, hk, rfl, hp⟩ := hrel
      obtain ⟨xs, hx, hb, hB⟩ := hp.out
      clear hmk2
      by_cases hlt : k < K
      · have i1 := bRow_at hb (i := k) (by omega)
        have k1 := hb.free k
        have hn : Hid (∃ xs, xs.length = K ∧ Blk (wo.setCell ⟨w.heap.size, k, none⟩ (.int .u8 c)) w.heap.size 5 (bRow xs) ∧ Below w.heap.size w (wo.setCell ⟨w.heap.size, k, none⟩ (.int .u8 c))) :=
          ⟨xs.set k c, by simpa using hx, bRow_set xs k c ▸ hb.put k _, ks hB (Nat.le_refl _) _⟩
        generalize xs.getD k 0 = u at *
        clear hb hp hx
        go_wp2_with fail
        exact ⟨⟨k + 1, by omega, by go_num, hn⟩, by simp [intOf]; omega⟩
      · obtain rfl : k = K := by omega
        obtain ⟨S, hS⟩ : ∃ S, strOfNums xs = S := ⟨_, rfl⟩
        have hsz : S.size = k := by rw [← hS, strOfNums_size]; exact hx
        have hcv : Sem.run Try.prog (convert 39 9 (.slice (some ⟨w.heap.size, 0, none⟩) k k)) wo = .ok (.string S) wo := by
          have := bRow_str hb
          rw [hx, hS] at this
          exact this
        have HB := Lib.hid hB
        have HSZ := Lib.hid hsz
        clear hb hp hx hB hsz hS
        have HN := Lib.hid (s_New S wo (by rw [HSZ.out]; omega))
        go_wp2_with fail
        refine HN.out.mono ?_
        rintro e w1 ⟨⟨g, rfl, hs⟩, hb1⟩
        have hH := s_Held 0 (by rw [HSZ.out]; omega) hs
        have hD := s_Done _ hs
        rw [start_done] at hD
        rw [HSZ.out] at hH hD
        have HH := Lib.hid hH
        have HD := Lib.hid hD
        have HT := Lib.hid (s_Steps 0 hs)
        clear hH hD hs hcv
        cases d4 : decide ((k : Int) < 2) with
        | true =>
          rw [d4] at HD
          go_wp2_with (first | (go_at_call 24; refine (HH.out).mono ?_; rintro e w5 ⟨rfl, rfl⟩) | (go_at_call 22; refine (HT.out).mono ?_; rintro e w5 ⟨rfl, rfl⟩) | (go_at_call 23; refine (HD.out).mono ?_; rintro e w5 ⟨rfl, rfl⟩) | (go_at_call 15; refine (sort_banana _).mono ?_; rintro e w5 ⟨rfl, hb5⟩))
          go_ret
          exact ⟨rfl, (HB.out.trans (hb1.mono HB.out.size)).trans (hb5.mono (by have := HB.out.size; have := hb1.size; omega))⟩
        | false =>
          rw [d4] at HD
          go_wp2_with (first | (go_at_call 24; refine (HH.out).mono ?_; rintro e w5 ⟨rfl, rfl⟩) | (go_at_call 22; refine (HT.out).mono ?_; rintro e w5 ⟨rfl, rfl⟩) | (go_at_call 23; refine (HD.out).mono ?_; rintro e w5 ⟨rfl, rfl⟩) | (go_at_call 15; refine (sort_banana _).mono ?_; rintro e w5 ⟨rfl, hb5⟩))
          go_ret
          exact ⟨rfl, (HB.out.trans (hb1.mono HB.out.size)).trans (hb5.mono (by have := HB.out.size; have := hb1.size; omega))⟩
  · have d1 : decide (3000 < (K : Int)) = true := by simp; omega
    have d2 : decide ((K : Int) ≤ 900000) = false := by simp; omega
    have d3 : decide (900000 < (K : Int)) = true := by simp; omega
    go_enter Try.func5, Try.ntmps5
    go_wp2_with fail
    go_loopw [26] (fun i wr => ∃ k : Nat, k ≤ K ∧ i = .int .i64 (k : Nat) ∧ Hid (∃ xs, xs.length = K ∧ Blk wr w.heap.size 5 (bRow xs) ∧ Below w.heap.size w wr)) (fun i wr => K - (intOf i).toNat)
    case atStart => exact ⟨0, Nat.zero_le _, rfl, ⟨List.replicate K 0, by simp, bRow_made K ▸ Blk.new w _ _, ka (kr _) _⟩⟩
    case round =>
      obtain ⟨wo, rfl⟩ : ∃ wo : World, wo = wr := ⟨_, rfl⟩
      obtain ⟨k, hk, rfl, hp⟩ := hrel
      obtain ⟨xs, hx, hb, hB⟩ := hp.out
      clear hmk2
      by_cases hlt : k < K
      · have i1 := bRow_at hb (i := k) (by omega)
        have k1 := hb.free k
        have hn : Hid (∃ xs, xs.length = K ∧ Blk (wo.setCell ⟨w.heap.size, k, none⟩ (.int .u8 c)) w.heap.size 5 (bRow xs) ∧ Below w.heap.size w (wo.setCell ⟨w.heap.size, k, none⟩ (.int .u8 c))) :=
          ⟨xs.set k c, by simpa using hx, bRow_set xs k c ▸ hb.put k _, ks hB (Nat.le_refl _) _⟩
        generalize xs.getD k 0 = u at *
        clear hb hp hx
        go_wp2_with fail
        exact ⟨⟨k + 1, by omega, by go_num, hn⟩, by simp [intOf]; omega⟩
      · obtain rfl : k = K := by omega
        obtain ⟨S, hS⟩ : ∃ S, strOfNums xs = S := ⟨_, rfl⟩
        have hsz : S.size = k := by rw [← hS, strOfNums_size]; exact hx
        have hcv : Sem.run Try.prog (convert 39 9 (.slice (some ⟨w.heap.size, 0, none⟩) k k)) wo = .ok (.string S) wo := by
          have := bRow_str hb
          rw [hx, hS] at this
          exact this
        have HB := Lib.hid hB
        have HSZ := Lib.hid hsz
        clear hb hp hx hB hsz hS
        have hm : S.size ≤ maxLen := by rw [HSZ.out]; unfold maxLen; omega
        have HN := Lib.hid (s_New_long S wo hm (by rw [HSZ.out]; omega))
        have HO := Lib.hid (s_Of_long S wo hm (by rw [HSZ.out]; omega))
        go_wp2_with (first | (go_at_call 19; refine (HN.out).mono ?_; rintro e w5 ⟨rfl, rfl⟩) | (go_at_call 16; refine (HO.out).mono ?_; rintro e w5 ⟨rfl, rfl⟩) | (go_at_call 15; refine (sort_banana _).mono ?_; rintro e w5 ⟨rfl, hb5⟩))
        go_ret
        exact ⟨rfl, HB.out.trans (hb5.mono HB.out.size)⟩

end Go.Proofs.Ytbakfaihnecmoaa
