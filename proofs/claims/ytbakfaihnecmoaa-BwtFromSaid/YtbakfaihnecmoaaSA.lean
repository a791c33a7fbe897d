/- How a sorter lies in memory; the walks of key and above. -/
import Derived.Test.YtbakfaihnecmoaaFoot
import Derived.Test.YtbakfaihnecmoaaSP
import Derived.Test.YtbakfaihnecmoaaBase
import Derived.Test.YtbakfaihnecmoaaRotA0
namespace Go.Proofs.Ytbakfaihnecmoaa
set_option linter.unusedVariables false
set_option linter.unusedSimpArgs false
open Go.RowKit Sp

def stkCells (l : List (Nat × Nat × Nat)) : List Value := l.flatMap fun p => [.int .i64 (p.1 : Nat), .int .i64 (p.2.1 : Nat), .int .i64 (p.2.2 : Nat)]
def cellsS (s : ByteArray) (x : SS) (go gc ga : Nat) (sv : Value) : Array Value :=
  #[.string s, .slice (some ⟨go, 0, none⟩) s.size s.size, .slice (some ⟨gc, 0, none⟩) s.size s.size, .slice (some ⟨ga, 0, none⟩) s.size s.size, .int .i64 (x.reach : Nat), sv,
    .int .i64 (x.lo : Nat), .int .i64 (x.mid : Nat), .int .i64 (x.hi : Nat), .int .i64 (x.laid : Nat), .int .i64 (x.one : Nat), .int .i64 (x.two : Nat), .int .i64 (x.rnk : Nat), .int .i64 (x.last : Nat), .int .i64 (x.steps : Nat), .bool x.done]
structure SAt (w : World) (g go gc ga : Nat) (sv : Value) (s : ByteArray) (x : SS) : Prop where
  main : Blk w g 65 (cellsS s x go gc ga sv)
  ord : Blk w go 3 (natRow x.ord)
  cls : Blk w gc 3 (natRow x.cls)
  asd : Blk w ga 3 (natRow x.asd)
  stk : w.ownsRow 0 63 3 sv x.stk.length (stkCells x.stk.reverse)
  oc : go ≠ gc
  oa : go ≠ ga
  ca : gc ≠ ga
/-- it lies within the blocks of F -/
def SIn (w : World) (F : Nat → Prop) (g : Nat) (s : ByteArray) (x : SS) : Prop := ∃ go gc ga sv, SAt w g go gc ga sv s x ∧ F g ∧ F go ∧ F gc ∧ F ga ∧ ∀ b, sv.ownBlock = some b → F b
def SPost (F : Nat → Prop) (g : Nat) (s : ByteArray) (w : World) (x' : SS) (w' : World) : Prop := SIn w' (fun b => F b ∨ w.heap.size ≤ b) g s x' ∧ Keeps F w w'

theorem SAt.keeps {w w' : World} {F : Nat → Prop} {g go gc ga : Nat} {sv : Value} {s : ByteArray} {x : SS} (h : SAt w g go gc ga sv s x) (k : Keeps F w w') (h1 : ¬ F g) (h2 : ¬ F go) (h3 : ¬ F gc) (h4 : ¬ F ga) (h5 : ∀ b, sv.ownBlock = some b → ¬ F b) : SAt w' g go gc ga sv s x :=
  ⟨h.main.keeps k h1, h.ord.keeps k h2, h.cls.keeps k h3, h.asd.keeps k h4, owns_keeps h.stk k h5, h.oc, h.oa, h.ca⟩
theorem SAt.below {w w' : World} {g go gc ga : Nat} {sv : Value} {s : ByteArray} {x : SS} (h : SAt w g go gc ga sv s x) (k : Below w.heap.size w w') : SAt w' g go gc ga sv s x :=
  h.keeps (F := fun _ => False) (.of_below k) id id id id (fun _ _ => id)
theorem SIn.below {w w' : World} {F : Nat → Prop} {g : Nat} {s : ByteArray} {x : SS} (h : SIn w F g s x) (k : Below w.heap.size w w') : SIn w' F g s x := by
  obtain ⟨a, b, c, d, h1, h2⟩ := h
  exact ⟨a, b, c, d, h1.below k, h2⟩
theorem SIn.keeps {w w' : World} {F G : Nat → Prop} {g : Nat} {s : ByteArray} {x : SS} (h : SIn w F g s x) (k : Keeps G w w') (hn : ∀ b, F b → ¬ G b) : SIn w' F g s x := by
  obtain ⟨a, b, c, d, h1, h2, h3, h4, h5, h6⟩ := h
  exact ⟨a, b, c, d, h1.keeps k (hn _ h2) (hn _ h3) (hn _ h4) (hn _ h5) (fun b hb => hn _ (h6 b hb)), h2, h3, h4, h5, h6⟩
theorem SPost.then {F : Nat → Prop} {g : Nat} {s : ByteArray} {w w1 w2 : World} {x1 x2 : SS} (h : SPost F g s w x1 w1) (k : SPost (fun b => F b ∨ w.heap.size ≤ b) g s w1 x2 w2) : SPost F g s w x2 w2 := by
  obtain ⟨⟨a, b, c, d, h1, h2, h3, h4, h5, h6⟩, hk⟩ := k
  have hs := h.2.size
  have f : ∀ b, (F b ∨ w.heap.size ≤ b) ∨ w1.heap.size ≤ b → F b ∨ w.heap.size ≤ b := fun b hb => by
    rcases hb with hb | hb
    · exact hb
    · exact .inr (by omega)
  refine ⟨⟨a, b, c, d, h1, f _ h2, f _ h3, f _ h4, f _ h5, fun b hb => f _ (h6 b hb)⟩, h.2.trans hk fun i hi h' => ?_⟩
  rcases h' with h' | h'
  · exact h'
  · omega

variable {w : World} {g go gc ga : Nat} {sv : Value} {s : ByteArray} {x : SS}

theorem s_key (h : SAt w g go gc ga sv s x) {n m : Nat} (hn : n = s.size) (ho : Ok n m x) (hn2 : n ≤ 900000) (a : Nat) (ha : a < n) :
    Calls Try.prog 61 #[.pointer (some ⟨g, 0, none⟩), .int .i64 a] w fun e w' => e = .returned (.agg #[.int .i64 (keyS s x.reach x.cls a).1, .int .i64 (keyS s x.reach x.cls a).2]) ∧ Below w.heap.size w w' := by
  subst hn
  have hcl := ho.cl
  have l1 := h.main.lt
  have l2 := h.cls.lt
  have c0 : w.cell? ⟨g, 0, none⟩ = some (.string s) := h.main.at_ 0 rfl
  have c2 : w.cell? ⟨g, 2, none⟩ = some (.slice (some ⟨gc, 0, none⟩) s.size s.size) := h.main.at_ 2 rfl
  have c4 : w.cell? ⟨g, 4, none⟩ = some (.int .i64 (x.reach : Nat)) := h.main.at_ 4 rfl
  by_cases hr : x.reach = 0
  · have hd : decide ((x.reach : Int) = 0) = true := by simpa using hr
    have e1 : keyS s x.reach x.cls a = ((s.data.toList.getD a 0).toNat, 0) := by unfold keyS; rw [if_pos hr]
    rw [e1, getD_get0 s a ha]
    clear e1
    have hwb : wrap64 (s[a].toNat : Int) = s[a].toNat := by have := s[a].toNat_lt; unfold wrap64; omega
    go_enter Try.func61, Try.ntmps61
    go_wp2
    exact bodyPost_ret (v := .agg #[.int .i64 s[a].toNat, .int .i64 0]) (by simp [results, Try.results61, go_sem, hwb]) rfl ⟨rfl, (by repeat (first | (with_reducible exact kr _) | (with_reducible assumption) | (with_reducible refine kt ?_ (by assumption)) | (with_reducible refine ka ?_ _) | (with_reducible refine kd ?_ _) | (with_reducible refine kdr ?_) | (with_reducible refine ks ?_ (by first | omega | (simp; done) | (simp; omega)) _)))⟩
  · have hd : ((x.reach : Int) == 0) = false := by simpa using hr
    have hrl := ho.rle
    have i1 := natRow_at h.cls (i := a) (by omega)
    have hlt : (a + x.reach) % s.size < s.size := Nat.mod_lt _ (by omega)
    have i2 := natRow_at h.cls (i := (a + x.reach) % s.size) (by omega)
    have e1 : keyS s x.reach x.cls a = (x.cls.getD a 0, x.cls.getD ((a + x.reach) % s.size) 0) := by unfold keyS; rw [if_neg hr]
    have hm : ((a : Int) + (x.reach : Int)).tmod s.size = (((a + x.reach) % s.size : Nat) : Int) := by rw [← Int.natCast_add]; rfl
    rw [e1]
    clear e1
    generalize (a + x.reach) % s.size = b at *
    generalize x.cls.getD a 0 = u at *
    generalize x.cls.getD b 0 = v at *
    go_enter Try.func61, Try.ntmps61
    go_wp2_with fail
    go_region
    go_wp2
    exact bodyPost_ret (v := .agg #[.int .i64 (u : Nat), .int .i64 (v : Nat)]) (by simp [results, Try.results61, go_sem]) rfl ⟨rfl, (by repeat (first | (with_reducible exact kr _) | (with_reducible assumption) | (with_reducible refine kt ?_ (by assumption)) | (with_reducible refine ka ?_ _) | (with_reducible refine kd ?_ _) | (with_reducible refine kdr ?_) | (with_reducible refine ks ?_ (by first | omega | (simp; done) | (simp; omega)) _)))⟩

theorem s_above (h : SAt w g go gc ga sv s x) {n m : Nat} (hn : n = s.size) (ho : Ok n m x) (hn2 : n ≤ 900000) (a b : Nat) (ha : a < n) (hb : b < n) :
    Calls Try.prog 59 #[.pointer (some ⟨g, 0, none⟩), .int .i64 a, .int .i64 b] w fun e w' => e = .returned (.bool (abS s x a b)) ∧ Below w.heap.size w w' := by
  have H1 := Lib.hid (s_key h hn ho hn2 a ha)
  have H2 : Hid (∀ w', Below w.heap.size w w' → Calls Try.prog 61 #[.pointer (some ⟨g, 0, none⟩), .int .i64 b] w' fun e w'' => e = .returned (.agg #[.int .i64 (keyS s x.reach x.cls b).1, .int .i64 (keyS s x.reach x.cls b).2]) ∧ Below w'.heap.size w' w'') := fun w' hw => s_key (h.below hw) hn ho hn2 b hb
  have H3 : Hid (abS s x a b = (decide ((keyS s x.reach x.cls b).1 < (keyS s x.reach x.cls a).1) || ((keyS s x.reach x.cls a).1 == (keyS s x.reach x.cls b).1 && decide ((keyS s x.reach x.cls b).2 < (keyS s x.reach x.cls a).2)))) := rfl
  clear ho
  generalize keyS s x.reach x.cls a = k at *
  generalize keyS s x.reach x.cls b = l at *
  obtain ⟨k1, k2⟩ := k
  obtain ⟨l1, l2⟩ := l
  dsimp only at *
  go_enter Try.func59, Try.ntmps59
  go_wp2_with fail
  refine H1.out.mono ?_
  rintro e w1 ⟨rfl, hb1⟩
  go_wp2_with fail
  refine (H2.out w1 hb1).mono ?_
  rintro e w2 ⟨rfl, hb2⟩
  by_cases c1 : l1 < k1
  · have d1 : decide ((l1 : Int) < (k1 : Int)) = true := by simpa using c1
    have H4 : Hid (abS s x a b = true) := by unfold Hid; rw [H3.out]; simp [c1]
    go_wp2
    go_ret
    rw [H4.out]
    exact ⟨rfl, (by repeat (first | (with_reducible exact kr _) | (with_reducible assumption) | (with_reducible refine kt ?_ (by assumption)) | (with_reducible refine ka ?_ _) | (with_reducible refine kd ?_ _) | (with_reducible refine kdr ?_) | (with_reducible refine ks ?_ (by first | omega | (simp; done) | (simp; omega)) _)))⟩
  · have d1 : decide ((l1 : Int) < (k1 : Int)) = false := by simp; omega
    by_cases c2 : k1 = l1
    · by_cases c3 : l2 < k2
      · have d3 : decide ((l2 : Int) < (k2 : Int)) = true := by simpa using c3
        have H4 : Hid (abS s x a b = true) := by unfold Hid; rw [H3.out]; simp [c2, c3]
        have d2 : ((k1 : Int) == (l1 : Int)) = true := by simp [c2]
        go_wp2
        go_ret
        rw [H4.out]
        exact ⟨rfl, (by repeat (first | (with_reducible exact kr _) | (with_reducible assumption) | (with_reducible refine kt ?_ (by assumption)) | (with_reducible refine ka ?_ _) | (with_reducible refine kd ?_ _) | (with_reducible refine kdr ?_) | (with_reducible refine ks ?_ (by first | omega | (simp; done) | (simp; omega)) _)))⟩
      · have d3 : decide ((l2 : Int) < (k2 : Int)) = false := by simp; omega
        have H4 : Hid (abS s x a b = false) := by unfold Hid; rw [H3.out]; simp [c1, c3]
        have d2 : ((k1 : Int) == (l1 : Int)) = true := by simp [c2]
        go_wp2
        go_ret
        rw [H4.out]
        exact ⟨rfl, (by repeat (first | (with_reducible exact kr _) | (with_reducible assumption) | (with_reducible refine kt ?_ (by assumption)) | (with_reducible refine ka ?_ _) | (with_reducible refine kd ?_ _) | (with_reducible refine kdr ?_) | (with_reducible refine ks ?_ (by first | omega | (simp; done) | (simp; omega)) _)))⟩
    · have d2 : ((k1 : Int) == (l1 : Int)) = false := by simp; omega
      have H4 : Hid (abS s x a b = false) := by unfold Hid; rw [H3.out]; simp [c1, c2]
      go_wp2
      go_ret
      rw [H4.out]
      exact ⟨rfl, (by repeat (first | (with_reducible exact kr _) | (with_reducible assumption) | (with_reducible refine kt ?_ (by assumption)) | (with_reducible refine ka ?_ _) | (with_reducible refine kd ?_ _) | (with_reducible refine kdr ?_) | (with_reducible refine ks ?_ (by first | omega | (simp; done) | (simp; omega)) _)))⟩

end Go.Proofs.Ytbakfaihnecmoaa
