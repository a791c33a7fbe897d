/- A turner: the walk of Step. -/
import Derived.Test.YtbakfaihnecmoaaBC
namespace Go.Proofs.Ytbakfaihnecmoaa
set_option linter.unusedVariables false
set_option linter.unusedSimpArgs false
open Go.RowKit Sp Pl

theorem goneT_le (s : ByteArray) (n : Nat) (b : Int) (h : n ≤ stepsR s + s.size) : n + goneT s n b ≤ stepsR s + s.size := by unfold goneT; omega

set_option maxHeartbeats 1000000 in
theorem b_Step_set {B : Nat} {w : World} {gt : Nat} {s : ByteArray} {n : Nat} (h : Turn B w gt s n true) (hs : s.size ≤ 900000) (h1 : 1 ≤ s.size) (hn : n ≤ stepsR s + s.size) (hB : B ≤ w.heap.size) (b : Int) (hb : 1 ≤ b)  :
    Calls Try.prog 35 #[.pointer (some ⟨gt, 0, none⟩), .int .i64 b] w fun e w' => e = .returned (.int .i64 (goneT s n b : Nat)) ∧ TOwn B gt s (n + goneT s n b) w' ∧ Below B w w' := by
  have hd : decide (b < 1) = false := by simp; omega
  have hTl := steps_le s hs
  obtain ⟨F, g, ordv, lastv, h⟩ := h
  obtain ⟨hle, p, cap, rfl, hr, p1, p2, p3⟩ := h.isset rfl
  have c1 : w.cell? ⟨gt, 1, none⟩ = some (.pointer (some ⟨g, 0, none⟩)) := h.main.at_ 1 rfl
  have hst := s_Step hs (min n (stepsR s)) (Nat.min_le_right _ _) h.sor b
  have hg0 : goneK s (min n (stepsR s)) b = 0 := by unfold goneK; omega
  rw [hg0, Nat.add_zero] at hst
  have HST : Hid (Calls Try.prog 21 #[.pointer (some ⟨g, 0, none⟩), .int .i64 b] w fun e w' => e = .returned (.int .i64 0) ∧ SPost F g s w (AtS s (min n (stepsR s))) w') := hst
  have hnil : ∀ w : World, Sem.run Try.prog (binOp .eql 23 (.slice (some p) s.size cap) (.slice none 0 0)) w = .ok (.bool false) w := fun w => Lib.run_eql_slice_nil w 23 3 (some p) s.size cap 0 0 Try.underlying23
  have HH : Hid (∀ w1, SPost F g s w (AtS s (min n (stepsR s))) w1 → w1.cell? ⟨gt, 2, none⟩ = some (.slice (some p) s.size cap) ∧ Turn B w1 gt s (n + 0) true ∧ Below B w w1) := by
    intro w1 hp
    obtain ⟨a1, a2⟩ := h.sorted h1 hB (k := 0) hp (.inr rfl)
    exact ⟨a1.main.at_ 2 rfl, ⟨_, _, _, _, a1⟩, a2⟩
  have HG0 : Hid (0 ≤ goneT s n b) := Nat.zero_le _
  have hN0 : n + 0 ≤ stepsR s + s.size := hn
  have hN1 : stepsR s ≤ n + 0 := hle
  clear h hr hst hg0
  go_enter Try.func35, Try.ntmps35
  go_wp2_with fail
  refine HST.out.mono ?_
  rintro e w1 ⟨rfl, hp⟩
  obtain ⟨c2, hst0⟩ := HH.out w1 hp
  have hst0 := Lib.hid hst0
  clear hp HST c1
  go_wp2_with fail
  go_loopw [5] (fun v wr => ∃ k : Nat, v = .int .i64 (k : Nat) ∧ k ≤ goneT s n b ∧ n + k ≤ stepsR s + s.size ∧ stepsR s ≤ n + k ∧ Hid (Turn B wr gt s (n + k) true ∧ Below B w wr)) (fun v _ => stepsR s + s.size - n - (intOf v).toNat)
  case atStart => exact ⟨0, rfl, HG0.out, hN0, hN1, hst0⟩
  case round =>
    obtain ⟨wo, rfl⟩ : ∃ wo : World, wo = wr := ⟨_, rfl⟩
    obtain ⟨k, rfl, hk, hN, hN2, hT⟩ := hrel
    have hdn := hT.out.1
    obtain ⟨F2, g2, ordv2, lastv2, h2⟩ := hdn
    have d1 : wo.cell? ⟨gt, 1, none⟩ = some (.pointer (some ⟨g2, 0, none⟩)) := h2.main.at_ 1 rfl
    have hsd := s_Done _ h2.sor
    rw [show min (n + k) (stepsR s) = stepsR s by omega, is_done s hs] at hsd
    have HSD := Lib.hid hsd
    have hgT : Hid (goneT s n b = (min b ((stepsR s + s.size - n : Nat) : Int)).toNat) := rfl
    clear h2 hsd
    by_cases hb2 : (k : Int) < b
    · have q1 : decide ((k : Int) < b) = true := by simpa using hb2
      by_cases hfull : n + k = stepsR s + s.size
      · have HBD := Lib.hid (b_Done hT.out.1 hs (by omega) true (by simp; omega))
        have he : k = goneT s n b := by have := hgT.out; omega
        have HE := Lib.hid he
        clear he hfull
        go_wp2_with fail
        refine HSD.out.mono ?_
        rintro e w1 ⟨rfl, rfl⟩
        go_wp2_with fail
        refine HBD.out.mono ?_
        rintro e w2 ⟨rfl, hb3⟩
        go_wp2_with fail
        go_ret
        rw [← HE.out]
        exact ⟨rfl, ⟨true, hT.out.1.below hb3⟩, hT.out.2.trans (hb3.mono (Nat.le_trans hB hT.out.2.size))⟩
      · have HBD := Lib.hid (b_Done hT.out.1 hs (by omega) false (by simp; omega))
        obtain ⟨m, hm⟩ : ∃ m, n + k = stepsR s + m := ⟨n + k - stepsR s, by omega⟩
        have hms : m < s.size := by omega
        have hm2 : stepsR s + (m + 1) = n + (k + 1) := by omega
        have hk2 : k + 1 ≤ goneT s n b := by have := hgT.out; omega
        have hT2 : Hid (∀ w1, Below wo.heap.size wo w1 → Turn B w1 gt s (stepsR s + m) true) := fun w1 hb3 => by rw [← hm]; exact hT.out.1.below hb3
        have HM := Lib.hid hm
        have HM2 := Lib.hid hm2
        clear hm hm2
        go_wp2_with fail
        refine HSD.out.mono ?_
        rintro e w1 ⟨rfl, rfl⟩
        go_wp2_with fail
        refine HBD.out.mono ?_
        rintro e w2 ⟨rfl, hb3⟩
        have HTK := Lib.hid (b_take (hT2.out w2 hb3) hs hms)
        go_wp2_with fail
        refine HTK.out.mono ?_
        rintro e w3 ⟨rfl, ht3, hb4⟩
        have hz2 : B ≤ w2.heap.size := Nat.le_trans (Nat.le_trans hB hT.out.2.size) hb3.size
        have hst3 : Hid (Turn B w3 gt s (n + (k + 1)) true ∧ Below B w w3) := by
          refine ⟨by rw [← HM2.out]; exact ht3, ?_⟩
          exact (hT.out.2.trans (hb3.mono (Nat.le_trans hB hT.out.2.size))).trans (hb4 hz2)
        clear ht3 hb4 HTK
        go_wp2_with fail
        have hmm := HM.out
        exact ⟨⟨k + 1, by go_num, hk2, by omega, by omega, hst3⟩, by simp [intOf]; omega⟩
    · have q1 : decide ((k : Int) < b) = false := by simpa using hb2
      have he : k = goneT s n b := by have := hgT.out; omega
      have HE := Lib.hid he
      clear he
      go_wp2_with fail
      refine HSD.out.mono ?_
      rintro e w1 ⟨rfl, rfl⟩
      go_wp2_with fail
      go_ret
      rw [← HE.out]
      exact ⟨rfl, ⟨true, hT.out.1⟩, hT.out.2⟩

set_option maxHeartbeats 1000000 in
theorem b_Step_more {B : Nat} {w : World} {gt : Nat} {s : ByteArray} {n : Nat} (h : Turn B w gt s n false) (hs : s.size ≤ 900000) (h1 : 1 ≤ s.size) (hn : n ≤ stepsR s + s.size) (hB : B ≤ w.heap.size) (b : Int) (hb : 1 ≤ b) (hmore : n + goneK s n b < stepsR s) :
    Calls Try.prog 35 #[.pointer (some ⟨gt, 0, none⟩), .int .i64 b] w fun e w' => e = .returned (.int .i64 (goneT s n b : Nat)) ∧ TOwn B gt s (n + goneT s n b) w' ∧ Below B w w' := by
  have hd : decide (b < 1) = false := by simp; omega
  have hTl := steps_le s hs
  obtain ⟨F, g, ordv, lastv, h⟩ := h
  obtain ⟨rfl, hle⟩ := h.unset rfl
  have c1 : w.cell? ⟨gt, 1, none⟩ = some (.pointer (some ⟨g, 0, none⟩)) := h.main.at_ 1 rfl
  have hmin : min n (stepsR s) = n := Nat.min_eq_left hle
  have hsr := h.sor
  rw [hmin] at hsr
  have hst := s_Step hs n hle hsr b
  obtain ⟨K, hK⟩ : ∃ K, goneK s n b = K := ⟨_, rfl⟩
  have hK2 : K = (min b ((stepsR s - n : Nat) : Int)).toNat := by rw [← hK]; rfl
  rw [hK] at hst
  have HST := Lib.hid hst
  have hnil : ∀ w : World, Sem.run Try.prog (binOp .eql 23 (.slice none 0 0) (.slice none 0 0)) w = .ok (.bool true) w := fun w => Lib.run_eql_slice_nil w 23 3 none 0 0 0 0 Try.underlying23
  have hnK : n + K ≤ stepsR s := by omega
  have HH : Hid (∀ w1, SPost F g s w (AtS s (n + K)) w1 → TIn B w1 gt s (n + K) false (fun b => (F b ∨ w.heap.size ≤ b) ∧ b < w1.heap.size) g (.slice none 0 0) lastv ∧ Below B w w1) := by
    intro w1 hp
    refine h.sorted h1 hB (k := K) ?_ (.inl hnK)
    rw [Nat.min_eq_left hnK]
    exact hp
  rw [hK] at hmore
  have hres : Hid (goneT s n b = K) := by unfold Hid goneT; omega
  have hKb : Hid ((K : Int) = b) := by unfold Hid; omega
  clear h hsr hst hmin hK hK2
  go_enter Try.func35, Try.ntmps35
  go_wp2_with fail
  refine HST.out.mono ?_
  rintro e w1 ⟨rfl, hp⟩
  obtain ⟨a1, a2⟩ := HH.out w1 hp
  have c2 : w1.cell? ⟨gt, 2, none⟩ = some (.slice none 0 0) := a1.main.at_ 2 rfl
  have c1' : w1.cell? ⟨gt, 1, none⟩ = some (.pointer (some ⟨g, 0, none⟩)) := a1.main.at_ 1 rfl
  have hsd := s_Done _ a1.sor
  rw [Nat.min_eq_left hnK, not_done s hs _ hmore] at hsd
  have HSD := Lib.hid hsd
  have hfin : Hid (TOwn B gt s (n + goneT s n b) w1 ∧ Below B w w1) := by
    unfold Hid
    rw [hres.out]
    exact ⟨⟨false, _, _, _, _, a1⟩, a2⟩
  clear hp HST c1 a1 hsd a2
  go_wp2_with fail
  refine HSD.out.mono ?_
  rintro e w2 ⟨rfl, rfl⟩
  go_wp2_with fail
  go_loopw [5] (fun v wr => v = .int .i64 (K : Nat) ∧ wr = w1) (fun v _ => 0)
  case atStart => exact ⟨rfl, rfl⟩
  case round =>
    obtain ⟨rfl, rfl⟩ := hrel
    go_wp2_with fail
    refine HSD.out.mono ?_
    rintro e w2 ⟨rfl, rfl⟩
    go_wp2_with fail
    go_ret
    exact ⟨ret_int (by rw [hres.out]), hfin.out⟩

set_option maxHeartbeats 1000000 in
theorem b_Step_done {B : Nat} {w : World} {gt : Nat} {s : ByteArray} {n : Nat} (h : Turn B w gt s n false) (hs : s.size ≤ 900000) (h1 : 1 ≤ s.size) (hn : n ≤ stepsR s + s.size) (hB : B ≤ w.heap.size) (b : Int) (hb : 1 ≤ b) (hdone : n + goneK s n b = stepsR s) :
    Calls Try.prog 35 #[.pointer (some ⟨gt, 0, none⟩), .int .i64 b] w fun e w' => e = .returned (.int .i64 (goneT s n b : Nat)) ∧ TOwn B gt s (n + goneT s n b) w' ∧ Below B w w' := by
  have hd : decide (b < 1) = false := by simp; omega
  have hTl := steps_le s hs
  obtain ⟨F, g, ordv, lastv, h⟩ := h
  obtain ⟨rfl, hle⟩ := h.unset rfl
  have c1 : w.cell? ⟨gt, 1, none⟩ = some (.pointer (some ⟨g, 0, none⟩)) := h.main.at_ 1 rfl
  have hmin : min n (stepsR s) = n := Nat.min_eq_left hle
  have hsr := h.sor
  rw [hmin] at hsr
  have hst := s_Step hs n hle hsr b
  obtain ⟨K, hK⟩ : ∃ K, goneK s n b = K := ⟨_, rfl⟩
  have hK2 : K = (min b ((stepsR s - n : Nat) : Int)).toNat := by rw [← hK]; rfl
  rw [hK] at hst
  have HST := Lib.hid hst
  have hnil : ∀ w : World, Sem.run Try.prog (binOp .eql 23 (.slice none 0 0) (.slice none 0 0)) w = .ok (.bool true) w := fun w => Lib.run_eql_slice_nil w 23 3 none 0 0 0 0 Try.underlying23
  have hnK : n + K ≤ stepsR s := by omega
  have HH : Hid (∀ w1, SPost F g s w (AtS s (n + K)) w1 → TIn B w1 gt s (n + K) false (fun b => (F b ∨ w.heap.size ≤ b) ∧ b < w1.heap.size) g (.slice none 0 0) lastv ∧ Below B w w1) := by
    intro w1 hp
    refine h.sorted h1 hB (k := K) ?_ (.inl hnK)
    rw [Nat.min_eq_left hnK]
    exact hp
  rw [hK] at hdone
  have HDN := Lib.hid hdone
  have HG0 : Hid (K ≤ goneT s n b) := by unfold Hid goneT; omega
  have hN0 : n + K ≤ stepsR s + s.size := by omega
  have hN1 : stepsR s ≤ n + K := by omega
  clear h hsr hst hmin hK hK2 hdone
  go_enter Try.func35, Try.ntmps35
  go_wp2_with fail
  refine HST.out.mono ?_
  rintro e w1 ⟨rfl, hp⟩
  obtain ⟨a1, a2⟩ := HH.out w1 hp
  have c2 : w1.cell? ⟨gt, 2, none⟩ = some (.slice none 0 0) := a1.main.at_ 2 rfl
  have c1' : w1.cell? ⟨gt, 1, none⟩ = some (.pointer (some ⟨g, 0, none⟩)) := a1.main.at_ 1 rfl
  have hsor := a1.sor
  rw [Nat.min_eq_left hnK, HDN.out] at hsor
  have hsd := s_Done _ hsor
  rw [is_done s hs] at hsd
  have HSD := Lib.hid hsd
  have HSO := Lib.hid (s_Order_new hs hsor)
  have a1H := Lib.hid a1
  have lt1 := a1.main.lt
  clear hp HST c1 hsd hsor a1
  go_wp2_with fail
  refine HSD.out.mono ?_
  rintro e w2 ⟨rfl, rfl⟩
  go_wp2_with fail
  refine HSO.out.mono ?_
  rintro e w3 ⟨⟨a, cap, rfl, hr, hf⟩, hb3⟩
  obtain ⟨bb, off, rfl, _⟩ := hr.some (by rw [sortTo_length]; omega)
  have a3 := a1H.out.below hb3
  have c2' : w3.cell? ⟨gt, 2, none⟩ = some (.slice none 0 0) := a3.main.at_ 2 rfl
  have k2 := a3.main.free 2
  have hst0 : Hid (Turn B (w3.setCell ⟨gt, 2, none⟩ (.slice (some ⟨bb, off, none⟩) s.size cap)) gt s (n + K) true ∧ Below B w (w3.setCell ⟨gt, 2, none⟩ (.slice (some ⟨bb, off, none⟩) s.size cap))) := by
    refine ⟨⟨_, _, _, _, a1H.out.order (fun b hb => hb.2) hN1 hb3 hr (hf _ rfl)⟩, ?_⟩
    have hz : B ≤ w1.heap.size := Nat.le_trans hB a2.size
    exact (a2.trans (hb3.mono hz)).setCell a3.bt _
  clear a3 hr hf hb3 a1H a2 c2 c1'
  go_wp2_with fail
  go_loopw [5] (fun v wr => ∃ k : Nat, v = .int .i64 (k : Nat) ∧ k ≤ goneT s n b ∧ n + k ≤ stepsR s + s.size ∧ stepsR s ≤ n + k ∧ Hid (Turn B wr gt s (n + k) true ∧ Below B w wr)) (fun v _ => stepsR s + s.size - n - (intOf v).toNat)
  case atStart => exact ⟨K, rfl, HG0.out, hN0, hN1, hst0⟩
  case round =>
    obtain ⟨wo, rfl⟩ : ∃ wo : World, wo = wr := ⟨_, rfl⟩
    obtain ⟨k, rfl, hk, hN, hN2, hT⟩ := hrel
    have hdn := hT.out.1
    obtain ⟨F2, g2, ordv2, lastv2, h2⟩ := hdn
    have d1 : wo.cell? ⟨gt, 1, none⟩ = some (.pointer (some ⟨g2, 0, none⟩)) := h2.main.at_ 1 rfl
    have hsd := s_Done _ h2.sor
    rw [show min (n + k) (stepsR s) = stepsR s by omega, is_done s hs] at hsd
    have HSD := Lib.hid hsd
    have hgT : Hid (goneT s n b = (min b ((stepsR s + s.size - n : Nat) : Int)).toNat) := rfl
    clear h2 hsd
    by_cases hb2 : (k : Int) < b
    · have q1 : decide ((k : Int) < b) = true := by simpa using hb2
      by_cases hfull : n + k = stepsR s + s.size
      · have HBD := Lib.hid (b_Done hT.out.1 hs (by omega) true (by simp; omega))
        have he : k = goneT s n b := by have := hgT.out; omega
        have HE := Lib.hid he
        clear he hfull
        go_wp2_with fail
        refine HSD.out.mono ?_
        rintro e w1 ⟨rfl, rfl⟩
        go_wp2_with fail
        refine HBD.out.mono ?_
        rintro e w2 ⟨rfl, hb3⟩
        go_wp2_with fail
        go_ret
        rw [← HE.out]
        exact ⟨rfl, ⟨true, hT.out.1.below hb3⟩, hT.out.2.trans (hb3.mono (Nat.le_trans hB hT.out.2.size))⟩
      · have HBD := Lib.hid (b_Done hT.out.1 hs (by omega) false (by simp; omega))
        obtain ⟨m, hm⟩ : ∃ m, n + k = stepsR s + m := ⟨n + k - stepsR s, by omega⟩
        have hms : m < s.size := by omega
        have hm2 : stepsR s + (m + 1) = n + (k + 1) := by omega
        have hk2 : k + 1 ≤ goneT s n b := by have := hgT.out; omega
        have hT2 : Hid (∀ w1, Below wo.heap.size wo w1 → Turn B w1 gt s (stepsR s + m) true) := fun w1 hb3 => by rw [← hm]; exact hT.out.1.below hb3
        have HM := Lib.hid hm
        have HM2 := Lib.hid hm2
        clear hm hm2
        go_wp2_with fail
        refine HSD.out.mono ?_
        rintro e w1 ⟨rfl, rfl⟩
        go_wp2_with fail
        refine HBD.out.mono ?_
        rintro e w2 ⟨rfl, hb3⟩
        have HTK := Lib.hid (b_take (hT2.out w2 hb3) hs hms)
        go_wp2_with fail
        refine HTK.out.mono ?_
        rintro e w3 ⟨rfl, ht3, hb4⟩
        have hz2 : B ≤ w2.heap.size := Nat.le_trans (Nat.le_trans hB hT.out.2.size) hb3.size
        have hst3 : Hid (Turn B w3 gt s (n + (k + 1)) true ∧ Below B w w3) := by
          refine ⟨by rw [← HM2.out]; exact ht3, ?_⟩
          exact (hT.out.2.trans (hb3.mono (Nat.le_trans hB hT.out.2.size))).trans (hb4 hz2)
        clear ht3 hb4 HTK
        go_wp2_with fail
        have hmm := HM.out
        exact ⟨⟨k + 1, by go_num, hk2, by omega, by omega, hst3⟩, by simp [intOf]; omega⟩
    · have q1 : decide ((k : Int) < b) = false := by simpa using hb2
      have he : k = goneT s n b := by have := hgT.out; omega
      have HE := Lib.hid he
      clear he
      go_wp2_with fail
      refine HSD.out.mono ?_
      rintro e w1 ⟨rfl, rfl⟩
      go_wp2_with fail
      go_ret
      rw [← HE.out]
      exact ⟨rfl, ⟨true, hT.out.1⟩, hT.out.2⟩

theorem b_Step {B : Nat} {w : World} {gt : Nat} {s : ByteArray} {n : Nat} (h : TOwn B gt s n w) (hs : s.size ≤ 900000) (h1 : 1 ≤ s.size) (hn : n ≤ stepsR s + s.size) (hB : B ≤ w.heap.size) (b : Int) :
    Calls Try.prog 35 #[.pointer (some ⟨gt, 0, none⟩), .int .i64 b] w fun e w' => e = .returned (.int .i64 (goneT s n b : Nat)) ∧ TOwn B gt s (n + goneT s n b) w' ∧ Below B w w' := by
  by_cases hb : 1 ≤ b
  · obtain ⟨set, h⟩ := h
    cases set with
    | true => exact b_Step_set h hs h1 hn hB b hb
    | false =>
      have hle : n ≤ stepsR s := by obtain ⟨_, _, _, _, h⟩ := h; exact (h.unset rfl).2
      by_cases hm : n + goneK s n b < stepsR s
      · exact b_Step_more h hs h1 hn hB b hb hm
      · exact b_Step_done h hs h1 hn hB b hb (by unfold goneK at *; omega)
  · have hg : goneT s n b = 0 := by unfold goneT; omega
    refine (b_Step_none s gt w b (by omega)).mono ?_
    rintro e w' ⟨rfl, rfl⟩
    rw [hg]
    exact ⟨rfl, h, Below.refl _ _⟩

end Go.Proofs.Ytbakfaihnecmoaa

