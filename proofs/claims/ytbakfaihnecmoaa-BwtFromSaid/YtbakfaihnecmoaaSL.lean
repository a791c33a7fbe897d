/- The walks of New. -/
import Derived.Test.YtbakfaihnecmoaaSK
import Derived.Deep.OwnRows
import Derived.Laws.OwnMore
import Derived.Deep.DeepCutAuto
namespace Go.Proofs.Ytbakfaihnecmoaa
set_option linter.unusedVariables false
set_option linter.unusedSimpArgs false
open Go.RowKit Sp
variable {w : World} {F : Nat → Prop} {g : Nat} {s : ByteArray}

theorem s_New_long (s : ByteArray) (w : World) (hm : s.size ≤ maxLen) (h : 900000 < s.size) : Calls Try.prog 19 #[.string s] w fun e w' => e = .returned (.tuple #[.pointer none, .int .i64 2]) ∧ w = w' := by
  unfold maxLen at hm
  have hd : decide (900000 < (s.size : Int)) = true := by simp; omega
  go_enter Try.func19, Try.ntmps19
  go_wp2
  go_ret2
  exact ⟨rfl, rfl⟩

/-- a sorter that is being made: k places are laid -/
def fillS (n k : Nat) : SS := ⟨List.range k ++ List.replicate (n - k) 0, List.replicate n 0, List.replicate n 0, 0, [], 0, 0, 0, 0, 0, 0, 0, 0, 0, decide ((n : Int) < 2)⟩
theorem fill_next (n k : Nat) (h : k < n) : { fillS n k with ord := (fillS n k).ord.set k k } = fillS n (k + 1) := by
  unfold fillS
  simp only [SS.mk.injEq, and_self, and_true]
  rw [List.set_append_right (h := by simp), List.length_range, Nat.sub_self, show n - k = (n - (k + 1)) + 1 by omega, List.replicate_succ, List.set_cons_zero, List.range_succ]
  simp
theorem fill_end (n : Nat) : { fillS n n with stk := [(0, 0, n)] } = startS n := by
  unfold fillS startS
  have e : decide ((n : Int) < 2) = decide (n < 2) := decide_eq_decide.2 (by omega)
  rw [e]
  simp
theorem made_row (n : Nat) : madeCells #[.int .i64 0] n = natRow (List.replicate n 0) := by
  apply Array.ext'
  rw [toList_madeCells_one]
  simp [natRow]
def NewS (w : World) (s : ByteArray) (k : Nat) (v : Value) (wx : World) : Prop := ∃ g go gc ga, v = .pointer (some ⟨g, 0, none⟩) ∧ SAt wx g go gc ga (.slice none 0 0) s (fillS s.size k) ∧ w.heap.size ≤ g ∧ w.heap.size ≤ go ∧ w.heap.size ≤ gc ∧ w.heap.size ≤ ga ∧ Below w.heap.size w wx
theorem new_s {w w0 : World} {s : ByteArray} {wx : World} (hb : Below w.heap.size w w0) (go gc ga : Nat) (n1 : go ≠ gc) (n2 : go ≠ ga) (n3 : gc ≠ ga) (l1 : w.heap.size ≤ go) (l2 : w.heap.size ≤ gc) (l3 : w.heap.size ≤ ga)
    (b1 : Blk w0 go 3 (madeCells #[.int .i64 0] s.size)) (b2 : Blk w0 gc 3 (madeCells #[.int .i64 0] s.size)) (b3 : Blk w0 ga 3 (madeCells #[.int .i64 0] s.size))
    (hx : wx = (w0.alloc (.cells (cellsS s (fillS s.size 0) go gc ga (.slice none 0 0)) 65)).drew) (g : Nat) (hg : w0.heap.size = g) : NewS w s 0 (.pointer (some ⟨g, 0, none⟩)) wx := by
  subst hg
  have hs := hb.size
  have hk : Below w0.heap.size w0 wx := hx ▸ kdr (ka (kr _) _)
  have e : (fillS s.size 0).ord = List.replicate s.size 0 := by simp [fillS]
  rw [made_row] at b1 b2 b3
  exact ⟨w0.heap.size, go, gc, ga, rfl, ⟨hx ▸ (Blk.new w0 _ _).drewN 1, e ▸ b1.kept hk, b2.kept hk, b3.kept hk, ⟨rfl, .inl ⟨rfl, rfl⟩⟩, n1, n2, n3⟩, hs, l1, l2, l3, kt hb hk⟩

theorem three (w : World) (t : TypeId) (R : Array Value) : Blk (((w.alloc (.cells R t)).alloc (.cells R t)).alloc (.cells R t)) w.heap.size t R ∧ Blk (((w.alloc (.cells R t)).alloc (.cells R t)).alloc (.cells R t)) (w.heap.size + 1) t R ∧ Blk (((w.alloc (.cells R t)).alloc (.cells R t)).alloc (.cells R t)) (w.heap.size + 1 + 1) t R ∧
    (((w.alloc (.cells R t)).alloc (.cells R t)).alloc (.cells R t)).heap.size = w.heap.size + 1 + 1 + 1 ∧ Below w.heap.size w (((w.alloc (.cells R t)).alloc (.cells R t)).alloc (.cells R t)) := by
  have e1 : (w.alloc (.cells R t)).heap.size = w.heap.size + 1 := by simp
  have e2 : ((w.alloc (.cells R t)).alloc (.cells R t)).heap.size = w.heap.size + 1 + 1 := by simp
  refine ⟨((Blk.new w _ _).kept (ka (kr _) _)).kept (ka (kr _) _), e1 ▸ (Blk.new (w.alloc (.cells R t)) t R).kept (ka (kr _) _), e2 ▸ Blk.new _ _ _, by simp, ka (ka (ka (kr _) _) _) _⟩
theorem new_stack {w : World} {g go gc ga : Nat} {s : ByteArray} {x : SS} (h : SAt w g go gc ga (.slice none 0 0) s x) (n : Nat) :
    SAt ((w.setCell ⟨g, 5, none⟩ (.slice (some ⟨w.heap.size, 0, none⟩) 1 1)).alloc (.cells #[.int .i64 0, .int .i64 0, .int .i64 (n : Nat)] 63)) g go gc ga (.slice (some ⟨w.heap.size, 0, none⟩) 1 1) s { x with stk := [(0, 0, n)] } := by
  obtain ⟨n1, n2, n3⟩ := h.gne
  have hz : (w.setCell ⟨g, 5, none⟩ (.slice (some ⟨w.heap.size, 0, none⟩) 1 1)).heap.size = w.heap.size := by simp [World.setCell]
  generalize hW : w.setCell ⟨g, 5, none⟩ (.slice (some ⟨w.heap.size, 0, none⟩) 1 1) = W at *
  have hk : Below W.heap.size W (W.alloc (.cells #[.int .i64 0, .int .i64 0, .int .i64 (n : Nat)] 63)) := ka (kr _) _
  have ho := World.ownsRow_lit (base := 0) (e := 63) (size := 3) W #[.int .i64 0, .int .i64 0, .int .i64 (n : Nat)] 1 (Nat.zero_le _) (by decide) rfl
  rw [hz] at ho
  exact ⟨Blk.kept (hW ▸ h.main.put 5 _) hk, Blk.kept (hW ▸ h.ord.far n1 _) hk, Blk.kept (hW ▸ h.cls.far n2 _) hk, Blk.kept (hW ▸ h.asd.far n3 _) hk, ho, h.oc, h.oa, h.ca⟩
set_option maxHeartbeats 3200000 in
theorem s_New (s : ByteArray) (w : World) (h : s.size ≤ 900000) : Calls Try.prog 19 #[.string s] w fun e w' => (∃ g, e = .returned (.tuple #[.pointer (some ⟨g, 0, none⟩), .int .i64 0]) ∧ SIn w' (fun b => w.heap.size ≤ b) g s (AtS s 0)) ∧ Below w.heap.size w w' := by
  have hd : decide (900000 < (s.size : Int)) = false := by simp; omega
  have hmk := run_make_row' (P := Try.prog) 23 3 (.int .i64 0) 8 Try.underlying23 info_int rfl .i64 .i64 s.size (by omega) (by omega)
  go_enter Try.func19, Try.ntmps19
  go_upto_region 4 with fail
  go_cut [5] (fun s5 wx => NewS w s 0 s5 wx)
  case first =>
    go_region
    all_goals
      go_wp2_with fail
      go_meet
      obtain ⟨t1, t2, t3, t4, t5⟩ := three w 3 (madeCells #[.int .i64 0] s.size)
      exact new_s t5 _ _ _ (by omega) (by omega) (by omega) (by omega) (by omega) (by omega) (by assumption) (by assumption) (by assumption) rfl _ t4
  case rest =>
    obtain ⟨g, go, gc, ga, rfl, h0, lg, lo, lc, la, hb0⟩ := hcut
    have c1 : wc.cell? ⟨g, 1, none⟩ = some (.slice (some ⟨go, 0, none⟩) s.size s.size) := h0.main.at_ 1 rfl
    have h0 := Lib.hid h0
    have hmk := Lib.hid hmk
    go_wp2_with fail
    go_loopw [27] (fun i wr => ∃ k : Nat, k ≤ s.size ∧ i = .int .i64 (k : Nat) ∧ Hid (SAt wr g go gc ga (.slice none 0 0) s (fillS s.size k) ∧ Below w.heap.size w wr)) (fun i wr => s.size - (intOf i).toNat)
    case atStart => exact ⟨0, Nat.zero_le _, rfl, ⟨h0.out, hb0⟩⟩
    case round =>
      obtain ⟨wo, rfl⟩ : ∃ wo : World, wo = wr := ⟨_, rfl⟩
      obtain ⟨k, hk, rfl, hp⟩ := hrel
      have hs := hp.out.1
      have d1 : wo.cell? ⟨g, 1, none⟩ = some (.slice (some ⟨go, 0, none⟩) s.size s.size) := hs.main.at_ 1 rfl
      have d5 : wo.cell? ⟨g, 5, none⟩ = some (.slice none 0 0) := hs.main.at_ 5 rfl
      have k5 := hs.main.free 5
      have lg2 := hs.main.lt
      have n1 := hs.gne.1
      clear c1
      by_cases hlt : k < s.size
      · have i1 := natRow_at hs.ord (i := k) (by simp [fillS]; omega)
        have k1 := hs.ord.free k
        have hn : Hid (SAt (wo.setCell ⟨go, k, none⟩ (.int .i64 (k : Nat))) g go gc ga (.slice none 0 0) s (fillS s.size (k + 1)) ∧ Below w.heap.size w (wo.setCell ⟨go, k, none⟩ (.int .i64 (k : Nat)))) := by
          refine ⟨?_, ks hp.out.2 lo _⟩
          rw [← fill_next _ _ hlt]
          exact hs.putOrd k k
        generalize (fillS s.size k).ord.getD k 0 = u at *
        clear hs hp
        go_wp2_with fail
        exact ⟨⟨k + 1, by omega, by go_num, hn⟩, by simp [intOf]; omega⟩
      · obtain rfl : k = s.size := by omega
        have hn : Hid (SIn ((wo.setCell ⟨g, 5, none⟩ (.slice (some ⟨wo.heap.size, 0, none⟩) 1 1)).alloc (.cells #[.int .i64 0, .int .i64 0, .int .i64 (s.size : Nat)] 63)) (fun b => w.heap.size ≤ b) g s (AtS s 0) ∧ Below w.heap.size w ((wo.setCell ⟨g, 5, none⟩ (.slice (some ⟨wo.heap.size, 0, none⟩) 1 1)).alloc (.cells #[.int .i64 0, .int .i64 0, .int .i64 (s.size : Nat)] 63))) := by
          have h7 := new_stack hs s.size
          rw [fill_end] at h7
          have hsz := hp.out.2.size
          exact ⟨⟨go, gc, ga, _, h7, lg, lo, lc, la, fun b hb => by simp [Value.ownBlock] at hb; omega⟩, ka (ks hp.out.2 lg _) _⟩
        clear hs hp
        go_wp2_with fail
        go_ret2
        exact ⟨⟨g, rfl, hn.out.1⟩, hn.out.2⟩

end Go.Proofs.Ytbakfaihnecmoaa
