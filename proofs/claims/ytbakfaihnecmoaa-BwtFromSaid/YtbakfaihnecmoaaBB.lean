/- A turner: the walks of New and take. -/
import Derived.Test.YtbakfaihnecmoaaBA
namespace Go.Proofs.Ytbakfaihnecmoaa
set_option linter.unusedVariables false
set_option linter.unusedSimpArgs false
open Go.RowKit Sp Pl

theorem SIn.shrink {w : World} {F : Nat → Prop} {g : Nat} {s : ByteArray} {x : SS} (h : SIn w F g s x) : SIn w (fun b => F b ∧ b < w.heap.size) g s x := by
  obtain ⟨go, gc, ga, sv, h, f1, f2, f3, f4, f5⟩ := h
  exact ⟨go, gc, ga, sv, h, ⟨f1, h.main.lt⟩, ⟨f2, h.ord.lt⟩, ⟨f3, h.cls.lt⟩, ⟨f4, h.asd.lt⟩, fun b hb => ⟨f5 b hb, (World.ownsRow.lt h.stk b hb).2⟩⟩
theorem TIn.mono {B C : Nat} {w : World} {gt : Nat} {s : ByteArray} {n : Nat} {set : Bool} {F : Nat → Prop} {g : Nat} {ordv lastv : Value} (h : TIn B w gt s n set F g ordv lastv) (hc : C ≤ B) : TIn C w gt s n set F g ordv lastv :=
  ⟨h.sor, h.main, h.nF, h.unset, h.isset, h.last, h.lastF, fun b hb => Nat.le_trans hc (h.bF b hb), Nat.le_trans hc h.bt, fun b hb => Nat.le_trans hc (h.bl b hb)⟩

theorem b_New_nil (w : World) : Calls Try.prog 34 #[.string ⟨#[]⟩] w fun e w' => e = .returned (.tuple #[.pointer none, .int .i64 1]) ∧ w = w' := by
  go_enter Try.func34, Try.ntmps34
  go_wp2
  go_ret2
  exact ⟨rfl, rfl⟩
theorem b_New (s : ByteArray) (w : World) (h : s.size ≤ 900000) (h1 : 1 ≤ s.size) : Calls Try.prog 34 #[.string s] w fun e w' => (∃ gt, e = .returned (.tuple #[.pointer (some ⟨gt, 0, none⟩), .int .i64 0]) ∧ Turn w.heap.size w' gt s 0 false) ∧ Below w.heap.size w w' := by
  have he := nonempty_of s h1
  have he2 : ¬ s.toList = [] := by intro e; rw [e] at he; cases he
  have HN := Lib.hid (s_New s w h)
  go_enter Try.func34, Try.ntmps34
  go_wp2_with fail
  refine HN.out.mono ?_
  rintro e w1 ⟨⟨g, rfl, hs⟩, hb1⟩
  have hs := Lib.hid hs
  go_wp2_with fail
  go_ret2
  have hk : Below w1.heap.size w1 (w1.alloc (.cells #[.string s, .pointer (some ⟨g, 0, none⟩), .slice none 0 0, .slice none 0 0, .int .i64 0] 68)) := ka (kr _) _
  refine ⟨⟨w1.heap.size, rfl, fun b => w.heap.size ≤ b ∧ b < w1.heap.size, g, .slice none 0 0, .slice none 0 0, ?_⟩, hb1.trans (hk.mono hb1.size)⟩
  have e0 : 0 - stepsR s = 0 := Nat.zero_sub _
  refine ⟨?_, ?_, fun h => Nat.lt_irrefl _ h.2, fun _ => ⟨rfl, Nat.zero_le _⟩, fun h => by (cases h), ?_, fun b hb => by (simp [Value.ownBlock] at hb), fun b hb => hb.1, hb1.size, fun b hb => by (simp [Value.ownBlock] at hb)⟩
  · rw [Nat.zero_min]
    exact hs.out.shrink.below hk
  · rw [e0]
    exact Blk.new w1 _ _
  · rw [e0]
    exact OwnsNums.nil _ _ _ _

theorem b_take_zero {B : Nat} {w : World} {gt : Nat} {s : ByteArray} {m : Nat} (h : Turn B w gt s (stepsR s + m) true) (hs : s.size ≤ 900000) (hm : m < s.size) (hz : sortN s m = 0) :
    Calls Try.prog 49 #[.pointer (some ⟨gt, 0, none⟩)] w fun e w' => e = .returned (.tuple #[]) ∧ Turn B w' gt s (stepsR s + (m + 1)) true ∧ (B ≤ w.heap.size → Below B w w') := by
  obtain ⟨F, g, ordv, lastv, h⟩ := h
  obtain ⟨a, cap, rfl, _⟩ := h.lastv
  obtain ⟨_, p, cap2, rfl, hr, p1, p2, p3⟩ := h.isset rfl
  have hmn := h.main
  have hlast := h.last
  have em : stepsR s + m - stepsR s = m := by omega
  rw [em] at hmn hlast p3
  have hsor := h.sor
  have hnF := h.nF
  have hlF := h.lastF
  have hbF := h.bF
  have hbt := h.bt
  have hbl := h.bl
  rw [em] at hlF hbl
  obtain ⟨b, off, hp, hc⟩ := hr.some (by rw [sortTo_length]; omega)
  cases hp
  have ic := hc m (by rw [sortTo_length]; omega)
  obtain ⟨hn1, hn2⟩ := sortN_lt s m hm
  rw [hn2] at ic
  have hor : origTo s (m + 1) = m := by show (if sortN s m = 0 then m else origTo s m) = _; rw [if_pos hz]
  have HOR := Lib.hid hor
  have HLS := Lib.hid (lastTo_succ s m)
  have hll := lastTo_length s m
  have HLL := Lib.hid hll
  have hlast := Lib.hid hlast
  have hmn := Lib.hid hmn
  have hsor := Lib.hid hsor
  have hr := Lib.hid hr
  have c0 : w.cell? ⟨gt, 0, none⟩ = some (.string s) := hmn.out.at_ 0 rfl
  have c2 : w.cell? ⟨gt, 2, none⟩ = some (.slice (some ⟨b, off, none⟩) s.size cap2) := hmn.out.at_ 2 rfl
  have c3 : w.cell? ⟨gt, 3, none⟩ = some (.slice a m cap) := hmn.out.at_ 3 rfl
  have c4 : w.cell? ⟨gt, 4, none⟩ = some (.int .i64 (origTo s m : Nat)) := hmn.out.at_ 4 rfl
  have k4 := hmn.out.free 4
  have q1 : (0 : Int) ≤ (m : Int) := by omega
  have q2 : (m : Int) < (s.size : Int) := by omega
  have HAH := Lib.hid (fun W => b_ahead s (sortN s m) W (by omega) hn1)
  have hA := aheadB_lt s (sortN s m)
  have dz : ((sortN s m : Int) == 0) = true := by simp; omega
  generalize hAv : aheadB s (sortN s m) = A at *
  generalize hNv : sortN s m = N at *
  have HSN := Lib.hid hNv
  have HAv := Lib.hid hAv
  clear h hc hn2 hor hll hz hAv hNv
  go_enter Try.func49, Try.ntmps49
  go_wp2_with fail
  obtain ⟨W5, hW5⟩ : ∃ W5 : World, w.setCell ⟨gt, 4, none⟩ (.int .i64 (m : Nat)) = W5 := ⟨_, rfl⟩
  have m5 : Blk W5 gt 68 #[.string s, .pointer (some ⟨g, 0, none⟩), .slice (some ⟨b, off, none⟩) s.size cap2, .slice a m cap, .int .i64 (m : Nat)] := hW5 ▸ hmn.out.put 4 _
  have kp5 : Keeps (fun i => i = gt) w W5 := hW5 ▸ (Keeps.refl (fun i => i = gt) w).set (p := ⟨gt, 4, none⟩) (.inr rfl) _
  have o5 : OwnsNums .u8 5 0 W5 (.slice a m cap) (lastTo s m) := hW5 ▸ owns_far hlast.out (owns_ne hlast.out hmn.out (by decide)) _
  rw [hW5]
  have HW5 := Lib.hid hW5
  have z0 : W5.cell? ⟨gt, 0, none⟩ = some (.string s) := m5.at_ 0 rfl
  have z3 : W5.cell? ⟨gt, 3, none⟩ = some (.slice a m cap) := m5.at_ 3 rfl
  have y3 := m5.free 3
  have l5 := m5.lt
  have hblk : Hid (∀ W w6, Below W5.heap.size W5 W → W.grownBy w6 (Value.slice a m cap).ownBlock → Blk w6 gt 68 #[.string s, .pointer (some ⟨g, 0, none⟩), .slice (some ⟨b, off, none⟩) s.size cap2, .slice a m cap, .int .i64 (m : Nat)]) := fun W w6 hW hg => by
    have e1 := m5.kept hW
    exact (hg.block gt e1.lt (fun e => owns_ne o5 m5 (by decide) e.symm)).trans e1
  have hown1 : Hid (∀ W, Below W5.heap.size W5 W → W.ownsRow 0 5 1 (.slice a m cap) m ((lastTo s m).map (Value.int .u8))) := fun W hW => by
    have := OwnsNums.below o5 hW
    unfold OwnsNums at this
    rw [HLL.out] at this
    exact this
  have hfin : Hid (∀ W v6 w6, Below W5.heap.size W5 W → W.grownBy w6 (Value.slice a m cap).ownBlock → w6.ownsRow 0 5 1 v6 (m + 1) ((lastTo s m).map (Value.int .u8) ++ [.int .u8 (A : Nat)]) → (v6.ownBlock = (Value.slice a m cap).ownBlock ∨ v6.ownBlock = some W.heap.size) → Turn B (w6.setCell ⟨gt, 3, none⟩ v6) gt s (stepsR s + (m + 1)) true ∧ (B ≤ w.heap.size → Below B w (w6.setCell ⟨gt, 3, none⟩ v6))) := by
    intro W v6 w6 hW hg own pl
    have m6 := hblk.out W w6 hW hg
    have ov : v6.ownBlock ≠ some gt := owns_ne own m6 (by decide)
    have kw : Keeps (fun i => i = gt ∨ (Value.slice a m cap).ownBlock = some i) w (w6.setCell ⟨gt, 3, none⟩ v6) := by
      have k1 : Keeps (fun i => i = gt ∨ (Value.slice a m cap).ownBlock = some i) w W := (kp5.mono fun i _ hi => .inl hi).then hW
      have k2 : Keeps (fun i => i = gt ∨ (Value.slice a m cap).ownBlock = some i) W w6 := ⟨hg.os, hg.tape, hg.output, hg.size, fun i hi hn => hg.block i hi (fun e => hn (.inr e.symm))⟩
      exact (k1.trans k2 fun _ _ h => h).set (.inr (.inl rfl)) v6
    have hsz := kw.size
    have hwW : w.heap.size ≤ W.heap.size := Nat.le_trans kp5.size hW.size
    have e9 : stepsR s + (m + 1) - stepsR s = m + 1 := by omega
    refine ⟨⟨fun i => F i ∧ i < w.heap.size, g, .slice (some ⟨b, off, none⟩) s.size cap2, v6, ?_, ?_, fun h => hnF h.1, fun h => by (cases h), fun _ => ⟨by omega, ⟨b, off, none⟩, cap2, rfl, ?_, fun h => p1 h.1, p2, ?_⟩, ?_, ?_, fun i hi => hbF i hi.1, hbt, ?_⟩, fun hB => kw.below hB ?_⟩
    · have := hsor.out
      rw [show min (stepsR s + m) (stepsR s) = stepsR s by omega] at this
      rw [show min (stepsR s + (m + 1)) (stepsR s) = stepsR s by omega]
      refine this.shrink.keeps kw fun i hi h => ?_
      rcases h with h | h
      · subst h; exact hnF hi.1
      · exact hlF i h hi.1
    · rw [e9, HOR.out]
      exact m6.put 3 v6
    · refine hr.out.keeps kw fun q hq _ h => ?_
      cases hq
      rcases h with h | h
      · exact p2 h
      · exact p3 h
    · intro h
      have hbw : b < w.heap.size := World.block_lt_of_cell? w _ ic
      rcases pl with pl | pl
      · rw [pl] at h; exact p3 h
      · rw [pl] at h; simp at h; omega
    · rw [e9, HLS.out]
      unfold OwnsNums
      have e7 : (lastTo s m ++ [(A : Int)]).map (Value.int .u8) = (lastTo s m).map (Value.int .u8) ++ [.int .u8 (A : Nat)] := by simp
      rw [e7, List.length_append, HLL.out]
      exact owns_far own ov _
    · intro i hi h
      rcases pl with pl | pl
      · rw [pl] at hi; exact hlF i hi h.1
      · rw [pl] at hi; simp at hi; omega
    · intro i hi
      rcases pl with pl | pl
      · rw [pl] at hi; exact hbl i hi
      · rw [pl] at hi
        simp at hi
        have : gt < w.heap.size := hmn.out.lt
        omega
    · intro i hi
      rcases hi with hi | hi
      · omega
      · exact hbl i hi
  obtain ⟨i0, hi, hz0, hz1, hz2⟩ := info_parts info_u8
  clear hW5 c0 c2 c3 c4 k4 ic q1 q2 m5 kp5 o5 p1 p2 p3
  go_region_law (first | (refine step_append_own rfl (.tmp 26) (.tmp 33) 39 rfl 0 5 i0 (.int .u8 0) 1 1 Try.underlying39 hi hz0 hz1 hz2 rfl (by decide) (.slice a m cap) m ((lastTo s m).map (Value.int .u8)) rfl (hown1.out _ (ka (kdr (kr _)) _)) ⟨W5.heap.size, 0, none⟩ 1 1 [.int .u8 (A : Nat)] rfl rfl (new_cells _ _ _) (by simp [Value.oneCell']) (by unfold maxLen; omega) (by omega) (Nat.zero_le _) ?_; intro v6 w6 own6 gr6 pl6; obtain ⟨gk6, cap6, rfl⟩ := owns_slice own6 (by omega); have b6 := hblk.out _ _ (ka (kdr (kr _)) _) gr6; have t3 : w6.cell? ⟨gt, 3, none⟩ = some (.slice a m cap) := b6.at_ 3 rfl; have u3 := b6.free 3; have l6 := b6.lt) | (go_simp; go_at_call 51; refine (HAH.out _).mono ?_; rintro e w7 ⟨rfl, rfl⟩))
  all_goals
    go_wp2_with fail
    go_end0
    refine ⟨rfl, ?_⟩
    with_reducible refine hfin.out _ _ _ ?_ gr6 own6 pl6
    exact ka (kdr (kr _)) _

theorem b_take_more {B : Nat} {w : World} {gt : Nat} {s : ByteArray} {m : Nat} (h : Turn B w gt s (stepsR s + m) true) (hs : s.size ≤ 900000) (hm : m < s.size) (hz : sortN s m ≠ 0) :
    Calls Try.prog 49 #[.pointer (some ⟨gt, 0, none⟩)] w fun e w' => e = .returned (.tuple #[]) ∧ Turn B w' gt s (stepsR s + (m + 1)) true ∧ (B ≤ w.heap.size → Below B w w') := by
  obtain ⟨F, g, ordv, lastv, h⟩ := h
  obtain ⟨a, cap, rfl, _⟩ := h.lastv
  obtain ⟨_, p, cap2, rfl, hr, p1, p2, p3⟩ := h.isset rfl
  have hmn := h.main
  have hlast := h.last
  have em : stepsR s + m - stepsR s = m := by omega
  rw [em] at hmn hlast p3
  have hsor := h.sor
  have hnF := h.nF
  have hlF := h.lastF
  have hbF := h.bF
  have hbt := h.bt
  have hbl := h.bl
  rw [em] at hlF hbl
  obtain ⟨b, off, hp, hc⟩ := hr.some (by rw [sortTo_length]; omega)
  cases hp
  have ic := hc m (by rw [sortTo_length]; omega)
  obtain ⟨hn1, hn2⟩ := sortN_lt s m hm
  rw [hn2] at ic
  have hor : origTo s (m + 1) = origTo s m := by show (if sortN s m = 0 then m else origTo s m) = _; rw [if_neg hz]
  have HOR := Lib.hid hor
  have HLS := Lib.hid (lastTo_succ s m)
  have hll := lastTo_length s m
  have HLL := Lib.hid hll
  have hlast := Lib.hid hlast
  have hmn := Lib.hid hmn
  have hsor := Lib.hid hsor
  have hr := Lib.hid hr
  have c0 : w.cell? ⟨gt, 0, none⟩ = some (.string s) := hmn.out.at_ 0 rfl
  have c2 : w.cell? ⟨gt, 2, none⟩ = some (.slice (some ⟨b, off, none⟩) s.size cap2) := hmn.out.at_ 2 rfl
  have c3 : w.cell? ⟨gt, 3, none⟩ = some (.slice a m cap) := hmn.out.at_ 3 rfl
  have c4 : w.cell? ⟨gt, 4, none⟩ = some (.int .i64 (origTo s m : Nat)) := hmn.out.at_ 4 rfl
  have k4 := hmn.out.free 4
  have q1 : (0 : Int) ≤ (m : Int) := by omega
  have q2 : (m : Int) < (s.size : Int) := by omega
  have HAH := Lib.hid (fun W => b_ahead s (sortN s m) W (by omega) hn1)
  have hA := aheadB_lt s (sortN s m)
  have dz : ((sortN s m : Int) == 0) = false := by simp; omega
  generalize hAv : aheadB s (sortN s m) = A at *
  generalize hNv : sortN s m = N at *
  have HSN := Lib.hid hNv
  have HAv := Lib.hid hAv
  clear h hc hn2 hor hll hz hAv hNv
  go_enter Try.func49, Try.ntmps49
  go_wp2_with fail
  obtain ⟨W5, hW5⟩ : ∃ W5 : World, w = W5 := ⟨_, rfl⟩
  have m5 : Blk W5 gt 68 #[.string s, .pointer (some ⟨g, 0, none⟩), .slice (some ⟨b, off, none⟩) s.size cap2, .slice a m cap, .int .i64 (origTo s m : Nat)] := hW5 ▸ hmn.out
  have kp5 : Keeps (fun i => i = gt) w W5 := hW5 ▸ Keeps.refl _ w
  have o5 : OwnsNums .u8 5 0 W5 (.slice a m cap) (lastTo s m) := hW5 ▸ hlast.out
  rw [hW5]
  have HW5 := Lib.hid hW5
  have z0 : W5.cell? ⟨gt, 0, none⟩ = some (.string s) := m5.at_ 0 rfl
  have z3 : W5.cell? ⟨gt, 3, none⟩ = some (.slice a m cap) := m5.at_ 3 rfl
  have y3 := m5.free 3
  have l5 := m5.lt
  have hblk : Hid (∀ W w6, Below W5.heap.size W5 W → W.grownBy w6 (Value.slice a m cap).ownBlock → Blk w6 gt 68 #[.string s, .pointer (some ⟨g, 0, none⟩), .slice (some ⟨b, off, none⟩) s.size cap2, .slice a m cap, .int .i64 (origTo s m : Nat)]) := fun W w6 hW hg => by
    have e1 := m5.kept hW
    exact (hg.block gt e1.lt (fun e => owns_ne o5 m5 (by decide) e.symm)).trans e1
  have hown1 : Hid (∀ W, Below W5.heap.size W5 W → W.ownsRow 0 5 1 (.slice a m cap) m ((lastTo s m).map (Value.int .u8))) := fun W hW => by
    have := OwnsNums.below o5 hW
    unfold OwnsNums at this
    rw [HLL.out] at this
    exact this
  have hfin : Hid (∀ W v6 w6, Below W5.heap.size W5 W → W.grownBy w6 (Value.slice a m cap).ownBlock → w6.ownsRow 0 5 1 v6 (m + 1) ((lastTo s m).map (Value.int .u8) ++ [.int .u8 (A : Nat)]) → (v6.ownBlock = (Value.slice a m cap).ownBlock ∨ v6.ownBlock = some W.heap.size) → Turn B (w6.setCell ⟨gt, 3, none⟩ v6) gt s (stepsR s + (m + 1)) true ∧ (B ≤ w.heap.size → Below B w (w6.setCell ⟨gt, 3, none⟩ v6))) := by
    intro W v6 w6 hW hg own pl
    have m6 := hblk.out W w6 hW hg
    have ov : v6.ownBlock ≠ some gt := owns_ne own m6 (by decide)
    have kw : Keeps (fun i => i = gt ∨ (Value.slice a m cap).ownBlock = some i) w (w6.setCell ⟨gt, 3, none⟩ v6) := by
      have k1 : Keeps (fun i => i = gt ∨ (Value.slice a m cap).ownBlock = some i) w W := (kp5.mono fun i _ hi => .inl hi).then hW
      have k2 : Keeps (fun i => i = gt ∨ (Value.slice a m cap).ownBlock = some i) W w6 := ⟨hg.os, hg.tape, hg.output, hg.size, fun i hi hn => hg.block i hi (fun e => hn (.inr e.symm))⟩
      exact (k1.trans k2 fun _ _ h => h).set (.inr (.inl rfl)) v6
    have hsz := kw.size
    have hwW : w.heap.size ≤ W.heap.size := Nat.le_trans kp5.size hW.size
    have e9 : stepsR s + (m + 1) - stepsR s = m + 1 := by omega
    refine ⟨⟨fun i => F i ∧ i < w.heap.size, g, .slice (some ⟨b, off, none⟩) s.size cap2, v6, ?_, ?_, fun h => hnF h.1, fun h => by (cases h), fun _ => ⟨by omega, ⟨b, off, none⟩, cap2, rfl, ?_, fun h => p1 h.1, p2, ?_⟩, ?_, ?_, fun i hi => hbF i hi.1, hbt, ?_⟩, fun hB => kw.below hB ?_⟩
    · have := hsor.out
      rw [show min (stepsR s + m) (stepsR s) = stepsR s by omega] at this
      rw [show min (stepsR s + (m + 1)) (stepsR s) = stepsR s by omega]
      refine this.shrink.keeps kw fun i hi h => ?_
      rcases h with h | h
      · subst h; exact hnF hi.1
      · exact hlF i h hi.1
    · rw [e9, HOR.out]
      exact m6.put 3 v6
    · refine hr.out.keeps kw fun q hq _ h => ?_
      cases hq
      rcases h with h | h
      · exact p2 h
      · exact p3 h
    · intro h
      have hbw : b < w.heap.size := World.block_lt_of_cell? w _ ic
      rcases pl with pl | pl
      · rw [pl] at h; exact p3 h
      · rw [pl] at h; simp at h; omega
    · rw [e9, HLS.out]
      unfold OwnsNums
      have e7 : (lastTo s m ++ [(A : Int)]).map (Value.int .u8) = (lastTo s m).map (Value.int .u8) ++ [.int .u8 (A : Nat)] := by simp
      rw [e7, List.length_append, HLL.out]
      exact owns_far own ov _
    · intro i hi h
      rcases pl with pl | pl
      · rw [pl] at hi; exact hlF i hi h.1
      · rw [pl] at hi; simp at hi; omega
    · intro i hi
      rcases pl with pl | pl
      · rw [pl] at hi; exact hbl i hi
      · rw [pl] at hi
        simp at hi
        have : gt < w.heap.size := hmn.out.lt
        omega
    · intro i hi
      rcases hi with hi | hi
      · omega
      · exact hbl i hi
  obtain ⟨i0, hi, hz0, hz1, hz2⟩ := info_parts info_u8
  clear hW5 c0 c2 c3 c4 k4 ic q1 q2 m5 kp5 o5 p1 p2 p3
  go_region_law (first | (refine step_append_own rfl (.tmp 26) (.tmp 33) 39 rfl 0 5 i0 (.int .u8 0) 1 1 Try.underlying39 hi hz0 hz1 hz2 rfl (by decide) (.slice a m cap) m ((lastTo s m).map (Value.int .u8)) rfl (hown1.out _ (ka (kdr (kr _)) _)) ⟨W5.heap.size, 0, none⟩ 1 1 [.int .u8 (A : Nat)] rfl rfl (new_cells _ _ _) (by simp [Value.oneCell']) (by unfold maxLen; omega) (by omega) (Nat.zero_le _) ?_; intro v6 w6 own6 gr6 pl6; obtain ⟨gk6, cap6, rfl⟩ := owns_slice own6 (by omega); have b6 := hblk.out _ _ (ka (kdr (kr _)) _) gr6; have t3 : w6.cell? ⟨gt, 3, none⟩ = some (.slice a m cap) := b6.at_ 3 rfl; have u3 := b6.free 3; have l6 := b6.lt) | (go_simp; go_at_call 51; refine (HAH.out _).mono ?_; rintro e w7 ⟨rfl, rfl⟩))
  all_goals
    go_wp2_with fail
    go_end0
    refine ⟨rfl, ?_⟩
    with_reducible refine hfin.out _ _ _ ?_ gr6 own6 pl6
    exact ka (kdr (kr _)) _

theorem b_take {B : Nat} {w : World} {gt : Nat} {s : ByteArray} {m : Nat} (h : Turn B w gt s (stepsR s + m) true) (hs : s.size ≤ 900000) (hm : m < s.size) :
    Calls Try.prog 49 #[.pointer (some ⟨gt, 0, none⟩)] w fun e w' => e = .returned (.tuple #[]) ∧ Turn B w' gt s (stepsR s + (m + 1)) true ∧ (B ≤ w.heap.size → Below B w w') := by
  by_cases hz : sortN s m = 0
  · exact b_take_zero h hs hm hz
  · exact b_take_more h hs hm hz

end Go.Proofs.Ytbakfaihnecmoaa

