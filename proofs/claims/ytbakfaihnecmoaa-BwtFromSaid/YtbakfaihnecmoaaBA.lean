/- A turner: how it lies in memory, and what it tells; the walks of ahead, Done, Steps, Held. -/
import Derived.Test.YtbakfaihnecmoaaS2
import Derived.Test.YtbakfaihnecmoaaSV
namespace Go.Proofs.Ytbakfaihnecmoaa
set_option linter.unusedVariables false
set_option linter.unusedSimpArgs false
open Go.RowKit Sp Pl

/-! what the last bytes are -/
/-- the byte just ahead of a place -/
def aheadB (s : ByteArray) (at_ : Nat) : Nat := if at_ = 0 then (s.data.toList.getD (s.size - 1) 0).toNat else (s.data.toList.getD (at_ - 1) 0).toNat
def sortN (s : ByteArray) (i : Nat) : Nat := ((sortTo s s.size).getD i 0).toNat
def lastTo (s : ByteArray) (m : Nat) : List Int := (List.range m).map fun i => ((aheadB s (sortN s i) : Nat) : Int)
def origTo (s : ByteArray) : Nat → Nat
  | 0 => 0
  | i + 1 => if sortN s i = 0 then i else origTo s i
theorem lastTo_succ (s : ByteArray) (m : Nat) : lastTo s (m + 1) = lastTo s m ++ [((aheadB s (sortN s m) : Nat) : Int)] := by
  unfold lastTo; rw [List.range_succ, List.map_append]; rfl
theorem lastTo_length (s : ByteArray) (m : Nat) : (lastTo s m).length = m := by unfold lastTo; simp
theorem aheadB_lt (s : ByteArray) (i : Nat) : aheadB s i < 256 := by unfold aheadB; split <;> exact UInt8.toNat_lt _
theorem origTo_le (s : ByteArray) : ∀ m, origTo s m ≤ m
  | 0 => Nat.le_refl _
  | i + 1 => by unfold origTo; split; omega; have := origTo_le s i; omega
theorem sortN_lt (s : ByteArray) (i : Nat) (hi : i < s.size) : sortN s i < s.size ∧ (sortTo s s.size).getD i 0 = (sortN s i : Nat) := by
  have hl := sortTo_length s s.size
  have h := isB_true (places_sortTo s s.size (Nat.le_refl _) i (by omega))
  unfold sortN
  omega

/-- how a turner lies in memory: n steps are gone; whether its order is laid; its blocks begin at B -/
structure TIn (B : Nat) (w : World) (gt : Nat) (s : ByteArray) (n : Nat) (set : Bool) (F : Nat → Prop) (g : Nat) (ordv lastv : Value) : Prop where
  sor : SIn w F g s (AtS s (min n (stepsR s)))
  main : Blk w gt 68 #[.string s, .pointer (some ⟨g, 0, none⟩), ordv, lastv, .int .i64 (origTo s (n - stepsR s) : Nat)]
  nF : ¬ F gt
  unset : set = false → ordv = .slice none 0 0 ∧ n ≤ stepsR s
  isset : set = true → stepsR s ≤ n ∧ ∃ p cap, ordv = .slice (some p) s.size cap ∧ NumsAt .i64 w (some p) (sortTo s s.size) ∧ ¬ F p.block ∧ p.block ≠ gt ∧ lastv.ownBlock ≠ some p.block
  last : OwnsNums .u8 5 0 w lastv (lastTo s (n - stepsR s))
  lastF : ∀ b, lastv.ownBlock = some b → ¬ F b
  bF : ∀ b, F b → B ≤ b
  bt : B ≤ gt
  bl : ∀ b, lastv.ownBlock = some b → B ≤ b
def Turn (B : Nat) (w : World) (gt : Nat) (s : ByteArray) (n : Nat) (set : Bool) : Prop := ∃ F g ordv lastv, TIn B w gt s n set F g ordv lastv

theorem TIn.below {B : Nat} {w w' : World} {gt : Nat} {s : ByteArray} {n : Nat} {set : Bool} {F : Nat → Prop} {g : Nat} {ordv lastv : Value} (h : TIn B w gt s n set F g ordv lastv) (k : Below w.heap.size w w') : TIn B w' gt s n set F g ordv lastv :=
  ⟨h.sor.below k, h.main.kept k, h.nF, h.unset, fun hs => let ⟨a, p, cap, b, c, d⟩ := h.isset hs; ⟨a, p, cap, b, c.below k, d⟩, h.last.below k, h.lastF, h.bF, h.bt, h.bl⟩
theorem Turn.below {B : Nat} {w w' : World} {gt : Nat} {s : ByteArray} {n : Nat} {set : Bool} (h : Turn B w gt s n set) (k : Below w.heap.size w w') : Turn B w' gt s n set := by
  obtain ⟨F, g, o, l, h⟩ := h
  exact ⟨F, g, o, l, h.below k⟩
theorem TIn.lastv {B : Nat} {w : World} {gt : Nat} {s : ByteArray} {n : Nat} {set : Bool} {F : Nat → Prop} {g : Nat} {ordv lastv : Value} (h : TIn B w gt s n set F g ordv lastv) : ∃ a cap, lastv = .slice a (n - stepsR s) cap ∧ NumsAt .u8 w a (lastTo s (n - stepsR s)) := by
  obtain ⟨a, cap, e, hr⟩ := h.last.reads
  rw [lastTo_length] at e
  exact ⟨a, cap, e, hr⟩

theorem b_ahead (s : ByteArray) (i : Nat) (w : World) (hs : s.size ≤ 1099511627776) (hi : i < s.size) :
    Calls Try.prog 51 #[.string s, .int .i64 (i : Nat)] w fun e w' => e = .returned (.int .u8 (aheadB s i : Nat)) ∧ w = w' := by
  by_cases h : i = 0
  · subst h
    obtain ⟨r, hr⟩ : ∃ r, s.size = r + 1 := ⟨s.size - 1, by omega⟩
    have e : Hid (aheadB s 0 = (s[r]'(by omega)).toNat) := by
      unfold Hid aheadB; rw [if_pos rfl, show s.size - 1 = r by omega, getD_get0 s r (by omega)]
    go_enter Try.func51, Try.ntmps51
    go_wp2_with fail
    go_ret
    rw [e.out]
    exact ⟨rfl, rfl⟩
  · obtain ⟨r, rfl⟩ : ∃ r, i = r + 1 := ⟨i - 1, by omega⟩
    have e : Hid (aheadB s (r + 1) = (s[r]'(by omega)).toNat) := by
      unfold Hid aheadB; rw [if_neg h, Nat.add_sub_cancel, getD_get0 s r (by omega)]
    go_enter Try.func51, Try.ntmps51
    go_wp2_with fail
    go_ret
    rw [e.out]
    exact ⟨rfl, rfl⟩

theorem b_Done_nil (w : World) : Calls Try.prog 36 #[.pointer none] w fun e w' => e = .returned (.bool false) ∧ Below w.heap.size w w' := by
  go_enter Try.func36, Try.ntmps36
  go_wp2_with fail
  go_quiet (fail)
  go_wp2_with fail
  go_ret
  exact ⟨rfl, (by repeat (first | (with_reducible exact kr _) | (with_reducible assumption) | (with_reducible refine kt ?_ (by assumption)) | (with_reducible refine ka ?_ _) | (with_reducible refine kd ?_ _)))⟩
theorem b_Step_nil (w : World) (b : Int) : Calls Try.prog 35 #[.pointer none, .int .i64 b] w fun e w' => e = .returned (.int .i64 0) ∧ w = w' := by
  go_enter Try.func35, Try.ntmps35
  go_wp2
  go_ret
  exact ⟨rfl, rfl⟩
theorem b_Steps_nil (w : World) : Calls Try.prog 38 #[.pointer none] w fun e w' => e = .returned (.int .i64 0) ∧ w = w' := by
  go_enter Try.func38, Try.ntmps38
  go_wp2
  go_ret
  exact ⟨rfl, rfl⟩
theorem b_Held_nil (w : World) : Calls Try.prog 39 #[.pointer none] w fun e w' => e = .returned (.int .i64 0) ∧ w = w' := by
  go_enter Try.func39, Try.ntmps39
  go_wp2
  go_ret
  exact ⟨rfl, rfl⟩
theorem b_Result_nil (w : World) : Calls Try.prog 40 #[.pointer none] w fun e w' => e = .returned (.tuple #[.string ⟨#[]⟩, .int .i64 0]) ∧ Below w.heap.size w w' := by
  go_enter Try.func40, Try.ntmps40
  go_wp2_with (first | (go_at_call 36; refine (b_Done_nil _).mono ?_; rintro e w1 ⟨rfl, hb⟩))
  go_ret2
  exact ⟨rfl, hb⟩

section
variable {B : Nat} {w : World} {gt : Nat} {s : ByteArray} {n : Nat} {set : Bool}
theorem b_Done (h : Turn B w gt s n set) (hs : s.size ≤ 900000) (hn : n ≤ stepsR s + s.size) (d : Bool) (hd : (n - stepsR s == s.size) = d) :
    Calls Try.prog 36 #[.pointer (some ⟨gt, 0, none⟩)] w fun e w' => e = .returned (.bool d) ∧ Below w.heap.size w w' := by
  obtain ⟨F, g, ordv, lastv, h⟩ := h
  obtain ⟨a, cap, rfl, _⟩ := h.lastv
  have c0 : w.cell? ⟨gt, 0, none⟩ = some (.string s) := h.main.at_ 0 rfl
  have c3 := h.main.at_ (v := .slice a (n - stepsR s) cap) 3 rfl
  have hm : n - stepsR s ≤ 900000 := by omega
  generalize n - stepsR s = m at *
  have e1 : ((m : Int) == (s.size : Int)) = d := by rw [natCast_beq]; exact hd
  clear h
  cases d
  all_goals
    go_enter Try.func36, Try.ntmps36
    go_wp2_with fail
    go_quiet (fail)
    go_wp2_with fail
    go_ret
    exact ⟨rfl, (by repeat (first | (with_reducible exact kr _) | (with_reducible assumption) | (with_reducible refine kt ?_ (by assumption)) | (with_reducible refine ka ?_ _) | (with_reducible refine kd ?_ _)))⟩

theorem b_Steps (h : Turn B w gt s n set) (hs : s.size ≤ 900000) (hn : n ≤ stepsR s + s.size) :
    Calls Try.prog 38 #[.pointer (some ⟨gt, 0, none⟩)] w fun e w' => e = .returned (.int .i64 (n : Nat)) ∧ Below w.heap.size w w' := by
  have hT := steps_le s hs
  obtain ⟨F, g, ordv, lastv, h⟩ := h
  obtain ⟨a, cap, rfl, _⟩ := h.lastv
  have c1 : w.cell? ⟨gt, 1, none⟩ = some (.pointer (some ⟨g, 0, none⟩)) := h.main.at_ 1 rfl
  have c3 := h.main.at_ (v := .slice a (n - stepsR s) cap) 3 rfl
  have hm : n - stepsR s ≤ 900000 := by omega
  have HS : Hid (∀ k, Calls Try.prog 22 #[.pointer (some ⟨g, 0, none⟩)] (w.drewN k) fun e w' => e = .returned (.int .i64 (min n (stepsR s) : Nat)) ∧ w.drewN k = w') := fun k => s_Steps _ (h.sor.below (kd (kr _) k))
  obtain ⟨j, hj⟩ : ∃ j, min n (stepsR s) = j := ⟨_, rfl⟩
  rw [hj] at HS
  obtain ⟨m, hm2⟩ : ∃ m, n - stepsR s = m := ⟨_, rfl⟩
  rw [hm2] at c3 hm
  have hres : Hid ((j : Int) + (m : Int) = (n : Nat)) := by unfold Hid; omega
  have hjl : j ≤ 1267200000 := by omega
  clear h hj hm2
  go_enter Try.func38, Try.ntmps38
  go_wp2_with fail
  go_quiet ((go_at_call 22; exact q_left (HS.out _)))
  go_wp2_with fail
  go_ret
  exact ⟨ret_int hres.out, (by repeat (first | (with_reducible exact kr _) | (with_reducible assumption) | (with_reducible refine kt ?_ (by assumption)) | (with_reducible refine ka ?_ _) | (with_reducible refine kd ?_ _)))⟩

theorem b_Held (h : Turn B w gt s n set) (hs : s.size ≤ 900000) (hn : n ≤ stepsR s + s.size) :
    Calls Try.prog 39 #[.pointer (some ⟨gt, 0, none⟩)] w fun e w' => e = .returned (.int .i64 (3 * (s.size : Nat) + ((n - stepsR s : Nat) : Int))) ∧ Below w.heap.size w w' := by
  obtain ⟨F, g, ordv, lastv, h⟩ := h
  obtain ⟨a, cap, rfl, _⟩ := h.lastv
  have c1 : w.cell? ⟨gt, 1, none⟩ = some (.pointer (some ⟨g, 0, none⟩)) := h.main.at_ 1 rfl
  have c3 := h.main.at_ (v := .slice a (n - stepsR s) cap) 3 rfl
  have hm : n - stepsR s ≤ 900000 := by omega
  have HS : Hid (∀ k, Calls Try.prog 24 #[.pointer (some ⟨g, 0, none⟩)] (w.drewN k) fun e w' => e = .returned (.int .i64 (3 * (s.size : Nat))) ∧ w.drewN k = w') := fun k => s_Held _ hs (h.sor.below (kd (kr _) k))
  generalize n - stepsR s = m at *
  clear h
  go_enter Try.func39, Try.ntmps39
  go_wp2_with fail
  go_quiet ((go_at_call 24; exact q_left (HS.out _)))
  go_wp2_with fail
  go_ret
  exact ⟨rfl, (by repeat (first | (with_reducible exact kr _) | (with_reducible assumption) | (with_reducible refine kt ?_ (by assumption)) | (with_reducible refine ka ?_ _) | (with_reducible refine kd ?_ _)))⟩

theorem b_Result_not (h : Turn B w gt s n set) (hs : s.size ≤ 900000) (hn : n < stepsR s + s.size) :
    Calls Try.prog 40 #[.pointer (some ⟨gt, 0, none⟩)] w fun e w' => e = .returned (.tuple #[.string ⟨#[]⟩, .int .i64 0]) ∧ Below w.heap.size w w' := by
  by_cases h0 : s.size = 0
  · have : stepsR s = 0 := by unfold stepsR; rw [if_pos (by omega)]
    omega
  have HD := Lib.hid (b_Done h hs (by omega) false (by simp; omega))
  clear h
  go_enter Try.func40, Try.ntmps40
  go_wp2_with (first | (go_at_call 36; refine (HD.out).mono ?_; rintro e w1 ⟨rfl, hb⟩))
  go_ret2
  exact ⟨rfl, hb⟩
def lastStr (s : ByteArray) : ByteArray := strOfNums (lastTo s s.size)
theorem bytes_str {w : World} {a : Option Addr} {xs : List Int} {cap : Nat} (h : NumsAt .u8 w a xs) (ha : 0 < xs.length) : Sem.run Try.prog (convert 39 9 (.slice a xs.length cap)) w = .ok (.string (strOfNums xs)) w := by
  obtain ⟨b, off, rfl, hc⟩ := h.some ha
  exact run_convert_bytes_arg w 39 5 Try.underlying39 Try.underlying5 b off xs.length cap xs rfl hc 9 Try.underlying9
theorem b_Result (h : Turn B w gt s n set) (hs : s.size ≤ 900000) (hn : n = stepsR s + s.size) (h1 : 1 ≤ s.size) :
    Calls Try.prog 40 #[.pointer (some ⟨gt, 0, none⟩)] w fun e w' => e = .returned (.tuple #[.string (lastStr s), .int .i64 (origTo s s.size : Nat)]) ∧ Below w.heap.size w w' := by
  have HD := Lib.hid (b_Done h hs (by omega) true (by simp; omega))
  have hor := origTo_le s s.size
  have HT : Hid (∀ w1, Below w.heap.size w w1 → Turn B w1 gt s n set) := fun w1 hb => h.below hb
  have HM : Hid (n - stepsR s = s.size) := by unfold Hid; omega
  obtain ⟨L, hL⟩ : ∃ L, lastStr s = L := ⟨_, rfl⟩
  obtain ⟨o, ho⟩ : ∃ o, origTo s s.size = o := ⟨_, rfl⟩
  rw [hL, ho]
  rw [ho] at hor
  have HL := Lib.hid hL
  have HO := Lib.hid ho
  clear h hn hL ho
  go_enter Try.func40, Try.ntmps40
  go_wp2_with fail
  refine HD.out.mono ?_
  rintro e w1 ⟨rfl, hb1⟩
  obtain ⟨F, g, ordv, lastv, h⟩ := HT.out w1 hb1
  have hm := h.main
  obtain ⟨a, cap, rfl, hr⟩ := h.lastv
  rw [HM.out] at hr hm
  have c3 := hm.at_ (v := .slice a s.size cap) 3 rfl
  have c4 := hm.at_ (v := .int .i64 (origTo s s.size : Nat)) 4 rfl
  have hcv : ∀ k, Sem.run Try.prog (convert 39 9 (.slice a s.size cap)) (w1.drewN k) = .ok (.string (lastStr s)) (w1.drewN k) := fun k => by
    have := bytes_str (cap := cap) (hr.drewN k) (by rw [lastTo_length]; omega)
    rw [lastTo_length] at this
    exact this
  rw [HL.out] at hcv
  rw [HO.out] at c4
  clear h hm hr HT
  go_wp2_with fail
  go_quiet (fail)
  go_wp2_with fail
  go_ret2
  exact ⟨rfl, (by repeat (first | (with_reducible exact kr _) | (with_reducible assumption) | (with_reducible refine kt ?_ (by assumption)) | (with_reducible refine ka ?_ _) | (with_reducible refine kd ?_ _)))⟩
end

end Go.Proofs.Ytbakfaihnecmoaa
