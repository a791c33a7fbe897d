/- The walks of ordered, Index, and of the reference's Ordered. -/
import Derived.Test.YtbakfaihnecmoaaBH
import Derived.Deep.OwnRows
import Derived.Laws.OwnMore
namespace Go.Proofs.Ytbakfaihnecmoaa
set_option linter.unusedVariables false
set_option linter.unusedSimpArgs false
open Go.RowKit Sp Pl

theorem info_bool : (Try.prog.info? 4).map (fun i => (i.zero, i.size, i.bytes)) = some (some (.bool false), 1, 1) := by kernel_rfl
def GoodTo (n : Nat) (xs : List Int) (k : Nat) : Prop := (∀ j, j < k → 0 ≤ xs.getD j 0 ∧ xs.getD j 0 < n) ∧ ∀ i j, i < j → j < k → xs.getD i 0 ≠ xs.getD j 0
/-- has an order each of n places once? -/
def OrdP (n : Nat) (xs : List Int) : Prop := xs.length = n ∧ GoodTo n xs xs.length
theorem GoodTo.next {n : Nat} {xs : List Int} {k : Nat} (h : GoodTo n xs k) (h0 : 0 ≤ xs.getD k 0) (h1 : xs.getD k 0 < n) (h2 : ∀ j, j < k → xs.getD j 0 ≠ xs.getD k 0) : GoodTo n xs (k + 1) := by
  refine ⟨fun j hj => ?_, fun i j hij hj => ?_⟩
  · by_cases e : j = k
    · subst e; exact ⟨h0, h1⟩
    · exact h.1 j (by omega)
  · by_cases e : j = k
    · subst e; exact h2 i hij
    · exact h.2 i j hij (by omega)
theorem ord_bad1 {n : Nat} {xs : List Int} {k : Nat} (hk : k < xs.length) (h : xs.getD k 0 < 0 ∨ (n : Int) ≤ xs.getD k 0) : ¬ OrdP n xs := by
  rintro ⟨_, h1⟩
  have := h1.1 k hk
  omega
theorem ord_bad2 {n : Nat} {xs : List Int} {j k : Nat} (hk : k < xs.length) (hj : j < k) (h : xs.getD j 0 = xs.getD k 0) : ¬ OrdP n xs := by
  rintro ⟨_, h1⟩
  exact h1.2 j k hj hk h

/-- which places were met -/
def seenB (xs : List Int) (k v : Nat) : Bool := (List.range k).any fun j => xs.getD j 0 == (v : Int)
theorem seenB_iff (xs : List Int) (k v : Nat) : seenB xs k v = true ↔ ∃ j, j < k ∧ xs.getD j 0 = v := by
  unfold seenB
  rw [List.any_eq_true]
  constructor
  · rintro ⟨j, hj, h⟩; exact ⟨j, by simpa using hj, by simpa using h⟩
  · rintro ⟨j, hj, h⟩; exact ⟨j, by simpa using hj, by simpa using h⟩
def seenRow (n : Nat) (xs : List Int) (k : Nat) : Array Value := ((List.range n).map fun v => Value.bool (seenB xs k v)).toArray
theorem seen_made (n : Nat) (xs : List Int) : madeCells #[.bool false] n = seenRow n xs 0 := by
  apply Array.ext'
  rw [toList_madeCells_one]
  unfold seenRow
  apply List.ext_getElem
  · simp
  · intro i h1 h2
    simp [seenB]
theorem seen_set (n : Nat) (xs : List Int) (k X : Nat) (hx : xs.getD k 0 = X) (hX : X < n) : (seenRow n xs k).setIfInBounds X (.bool true) = seenRow n xs (k + 1) := by
  apply Array.ext'
  unfold seenRow
  rw [List.setIfInBounds_toArray]
  apply List.ext_getElem
  · simp
  · intro i h1 h2
    rw [List.getElem_set]
    have hi : i < n := by simpa using h2
    simp only [List.getElem_map, List.getElem_range]
    by_cases e : X = i
    · subst e
      rw [if_pos rfl]
      have : seenB xs (k + 1) X = true := (seenB_iff _ _ _).2 ⟨k, Nat.lt_succ_self k, hx⟩
      rw [this]
    · rw [if_neg e]
      congr 1
      rw [Bool.eq_iff_iff, seenB_iff, seenB_iff]
      constructor
      · rintro ⟨j, hj, h⟩; exact ⟨j, by omega, h⟩
      · rintro ⟨j, hj, h⟩
        refine ⟨j, ?_, h⟩
        by_cases e2 : j = k
        · subst e2; omega
        · omega
theorem seen_at {w : World} {g n : Nat} {t : TypeId} {xs : List Int} {k : Nat} (h : Blk w g t (seenRow n xs k)) {v : Nat} (hv : v < n) : w.cell? ⟨g, v, none⟩ = some (.bool (seenB xs k v)) := by
  rw [h.cell v]
  simp [seenRow, hv]

theorem b_ordered (a : Option Addr) (cap : Nat) (xs : List Int) (n : Nat) (w : World) (hx : xs.length ≤ 1000) (hn : n ≤ 1000) (hr : NumsAt .i64 w a xs) (O : Bool) (hO : O = true ↔ OrdP n xs) :
    Calls Try.prog 50 #[.slice a xs.length cap, .int .i64 (n : Nat)] w fun e w' => e = .returned (.bool O) ∧ Below w.heap.size w w' := by
  by_cases hl : xs.length = n
  · subst hl
    have HO : Hid (O = true ↔ OrdP xs.length xs) := hO
    have HR := Lib.hid hr
    have hmk := run_make_row' (P := Try.prog) 72 4 (.bool false) 1 Try.underlying72 info_bool rfl .i64 .i64 xs.length (by omega) (by omega)
    clear hO hr
    go_enter Try.func50, Try.ntmps50
    go_wp2_with fail
    have hmk := Lib.hid hmk
    go_loopw [16] (fun i wr => ∃ k : Nat, k ≤ xs.length ∧ i = .int .i64 (k : Nat) ∧ Hid (GoodTo xs.length xs k ∧ Blk wr w.heap.size 4 (seenRow xs.length xs k) ∧ Below w.heap.size w wr)) (fun i _ => xs.length - (intOf i).toNat)
    case atStart => exact ⟨0, Nat.zero_le _, rfl, ⟨fun j hj => absurd hj (Nat.not_lt_zero _), fun i j hi hj => absurd hj (Nat.not_lt_zero _)⟩, seen_made xs.length xs ▸ Blk.new w _ _, ka (kr _) _⟩
    case round =>
      obtain ⟨wo, rfl⟩ : ∃ wo : World, wo = wr := ⟨_, rfl⟩
      obtain ⟨k, hk, rfl, hp⟩ := hrel
      obtain ⟨hg, hb, hB⟩ := hp.out
      have HG := Lib.hid hg
      clear hg hp
      by_cases hlt : k < xs.length
      · obtain ⟨b0, off, rfl, hc⟩ := (HR.out.below hB).some (by omega)
        have ic := hc k hlt
        have hb1 : Hid (xs.getD k 0 < 0 ∨ (xs.length : Int) ≤ xs.getD k 0 → O = false) := fun h => by
          rw [Bool.eq_false_iff]
          exact fun e => ord_bad1 hlt h (HO.out.1 e)
        have hb2 : Hid (∀ X : Nat, xs.getD k 0 = X → seenB xs k X = true → O = false) := fun X hX h => by
          rw [seenB_iff] at h
          obtain ⟨j, hj, e⟩ := h
          rw [Bool.eq_false_iff]
          exact fun e2 => ord_bad2 hlt hj (e.trans hX.symm) (HO.out.1 e2)
        have hnx : Hid (∀ X : Nat, xs.getD k 0 = X → X < xs.length → seenB xs k X = false → GoodTo xs.length xs (k + 1) ∧ Blk (wo.setCell ⟨w.heap.size, X, none⟩ (.bool true)) w.heap.size 4 (seenRow xs.length xs (k + 1)) ∧ Below w.heap.size w (wo.setCell ⟨w.heap.size, X, none⟩ (.bool true))) := fun X hX hl h => by
          refine ⟨HG.out.next (by omega) (by omega) (fun j hj e => ?_), seen_set xs.length xs k X hX hl ▸ hb.put X _, ks hB (Nat.le_refl _) _⟩
          have : seenB xs k X = true := (seenB_iff _ _ _).2 ⟨j, hj, e.trans hX⟩
          rw [this] at h
          cases h
        have hcell : Hid (∀ X : Nat, X < xs.length → wo.cell? ⟨w.heap.size, X, none⟩ = some (.bool (seenB xs k X)) ∧ wo.frozen? ⟨w.heap.size, X, none⟩ = false) := fun X hX => ⟨seen_at hb hX, hb.free X⟩
        have HB := Lib.hid hB
        obtain ⟨x, hxe⟩ : ∃ x, xs.getD k 0 = x := ⟨_, rfl⟩
        rw [hxe] at ic hb1
        have HXE := Lib.hid hxe
        clear hc hb hxe hB
        by_cases h0 : x < 0
        · have d0 : decide (x < 0) = true := by simpa using h0
          have HF := Lib.hid (hb1.out (.inl h0))
          go_wp2_with fail
          go_ret
          rw [HF.out]
          exact ⟨rfl, HB.out⟩
        · have d0 : decide (x < 0) = false := by simpa using h0
          by_cases h2 : (xs.length : Int) ≤ x
          · have d2 : decide ((xs.length : Int) ≤ x) = true := by simpa using h2
            have HF := Lib.hid (hb1.out (.inr h2))
            go_wp2_with fail
            go_ret
            rw [HF.out]
            exact ⟨rfl, HB.out⟩
          · obtain ⟨X, rfl⟩ := Int.eq_ofNat_of_zero_le (show 0 ≤ x by omega)
            have d2 : decide ((xs.length : Int) ≤ (X : Int)) = false := by simp; omega
            have d3 : decide (xs.length ≤ X) = false := by simp; omega
            have hXl : X < xs.length := by omega
            obtain ⟨cX, fX⟩ := hcell.out X hXl
            have q1 : (0 : Int) ≤ (X : Int) := by omega
            have q2 : (X : Int) < (xs.length : Int) := by omega
            cases hsn : seenB xs k X with
            | true =>
              have HF := Lib.hid (hb2.out X HXE.out hsn)
              rw [hsn] at cX
              clear hsn
              go_wp2_with fail
              go_ret
              rw [HF.out]
              exact ⟨rfl, HB.out⟩
            | false =>
              have HN := Lib.hid (hnx.out X HXE.out hXl hsn)
              rw [hsn] at cX
              clear hsn
              go_wp2_with fail
              exact ⟨⟨k + 1, by omega, by go_num, HN⟩, by simp [intOf]; omega⟩
      · obtain rfl : k = xs.length := by omega
        have HF : Hid (O = true) := HO.out.2 ⟨rfl, HG.out⟩
        have HB := Lib.hid hB
        clear hb hB
        go_wp2_with fail
        go_ret
        rw [HF.out]
        exact ⟨rfl, HB.out⟩
  · have hd : ((xs.length : Int) != (n : Int)) = true := by simp; omega
    have HF : Hid (O = false) := by
      unfold Hid
      rw [Bool.eq_false_iff]
      exact fun e => hl (hO.1 e).1
    clear hO hr
    go_enter Try.func50, Try.ntmps50
    go_wp2
    go_ret
    rw [HF.out]
    exact ⟨rfl, kr _⟩

theorem r_Ordered (a : Option Addr) (cap : Nat) (xs : List Int) (n : Nat) (w : World) (hx : xs.length ≤ 1000) (hn : n ≤ 1000) (hr : NumsAt .i64 w a xs) (hcap : xs.length ≤ cap) (O : Bool) (hO : O = true ↔ OrdP n xs) :
    Calls Try.prog 42 #[.slice a xs.length cap, .int .i64 (n : Nat)] w fun e w' => e = .returned (.bool O) ∧ w = w' := by
  have HO := Lib.hid hO
  have HR := Lib.hid hr
  clear hO hr
  go_enter Try.func42, Try.ntmps42
  go_wp2_with fail
  go_loop [11] (fun v => ∃ k : Nat, k ≤ xs.length ∧ v = .int .i64 (k : Nat) ∧ Hid (GoodTo n xs k)) (fun v => xs.length - (intOf v).toNat)
  case atStart => exact ⟨0, Nat.zero_le _, rfl, ⟨fun j hj => absurd hj (Nat.not_lt_zero _), fun i j hi hj => absurd hj (Nat.not_lt_zero _)⟩⟩
  case round =>
    obtain ⟨k, hk, rfl, HG⟩ := hrel
    by_cases hlt : k < xs.length
    · obtain ⟨b0, off, rfl, hc⟩ := HR.out.some (by omega)
      have HC := Lib.hid hc
      have ic := hc k hlt
      have hb1 : Hid (xs.getD k 0 < 0 ∨ (n : Int) ≤ xs.getD k 0 → O = false) := fun h => by
        rw [Bool.eq_false_iff]
        exact fun e => ord_bad1 hlt h (HO.out.1 e)
      have hb2 : Hid (∀ j, j < k → xs.getD j 0 = xs.getD k 0 → O = false) := fun j hj e => by
        rw [Bool.eq_false_iff]
        exact fun e2 => ord_bad2 hlt hj e (HO.out.1 e2)
      obtain ⟨x, hxe⟩ : ∃ x, xs.getD k 0 = x := ⟨_, rfl⟩
      rw [hxe] at ic hb1 hb2
      have HXE := Lib.hid hxe
      clear hc hxe
      by_cases h0 : x < 0
      · have d0 : decide (x < 0) = true := by simpa using h0
        have HF := Lib.hid (hb1.out (.inl h0))
        go_wp2_with fail
        go_ret
        rw [HF.out]
        exact ⟨rfl, rfl⟩
      · have d0 : decide (x < 0) = false := by simpa using h0
        by_cases h2 : (n : Int) ≤ x
        · have d2 : decide ((n : Int) ≤ x) = true := by simpa using h2
          have HF := Lib.hid (hb1.out (.inr h2))
          go_wp2_with fail
          go_ret
          rw [HF.out]
          exact ⟨rfl, rfl⟩
        · have d2 : decide ((n : Int) ≤ x) = false := by simpa using h2
          have hkc : k ≤ cap := by omega
          have hkc2 : (k : Int) ≤ (cap : Int) := by omega
          go_wp2_with fail
          go_loop [27] (fun v => ∃ j : Nat, j ≤ k ∧ v = .int .i64 (j : Nat) ∧ Hid (∀ i, i < j → xs.getD i 0 ≠ x)) (fun v => k - (intOf v).toNat)
          case atStart => exact ⟨0, Nat.zero_le _, rfl, fun i hi => absurd hi (Nat.not_lt_zero _)⟩
          case round =>
            obtain ⟨j, hj, rfl, hne⟩ := hrel
            by_cases hlt2 : j < k
            · have jc := HC.out j (by omega)
              have hb3 := Lib.hid (hb2.out j hlt2)
              have hne2 : Hid (xs.getD j 0 ≠ x → ∀ i, i < j + 1 → xs.getD i 0 ≠ x) := fun h i hi => by
                by_cases e : i = j
                · rw [e]; exact h
                · exact hne.out i (by omega)
              generalize xs.getD j 0 = y at *
              by_cases hxy : y = x
              · have HF := Lib.hid (hb3.out hxy)
                subst hxy
                go_wp2_with fail
                go_ret
                rw [HF.out]
                exact ⟨rfl, rfl⟩
              · have d3 : (x == y) = false := by simp; exact fun e => hxy e.symm
                have HN2 := Lib.hid (hne2.out hxy)
                go_wp2_with fail
                exact ⟨⟨j + 1, by omega, by go_num, HN2⟩, by simp [intOf]; omega⟩
            · obtain rfl : j = k := by omega
              have HG2 : Hid (GoodTo n xs (j + 1)) := HG.out.next (by rw [HXE.out]; omega) (by rw [HXE.out]; omega) (fun i hi => by rw [HXE.out]; exact hne.out i hi)
              go_wp2_with fail
              exact ⟨⟨j + 1, by omega, by go_num, HG2⟩, by simp [intOf]; omega⟩
    · obtain rfl : k = xs.length := by omega
      have HF : Hid (O = (xs.length == n)) := by
        unfold Hid
        rw [Bool.eq_iff_iff, HO.out, beq_iff_eq]
        exact ⟨fun h => h.1, fun h => ⟨h, HG.out⟩⟩
      go_wp2_with fail
      go_ret
      exact ⟨ret_bool (by rw [HF.out, natCast_beq]), rfl⟩

theorem b_Index (a : Option Addr) (cap : Nat) (xs : List Int) (i0 : Nat) (w : World) (hx : xs.length ≤ 1000) (hi : i0 < xs.length) (h0 : xs.getD i0 0 = 0) (hne : ∀ j, j < i0 → xs.getD j 0 ≠ 0) (hr : NumsAt .i64 w a xs) :
    Calls Try.prog 52 #[.slice a xs.length cap, .int .i64 0] w fun e w' => e = .returned (.int .i64 (i0 : Nat)) ∧ w = w' := by
  obtain ⟨b0, off, rfl, hc⟩ := hr.some (by omega)
  have HC := Lib.hid hc
  have HN := Lib.hid hne
  have H0 := Lib.hid h0
  clear hc hne h0 hr
  go_enter Try.func52, Try.ntmps52
  go_wp2_with fail
  go_loop [8] (fun v => ∃ k : Nat, k ≤ i0 ∧ v = .int .i64 (k : Nat)) (fun v => i0 + 1 - (intOf v).toNat)
  case atStart => exact ⟨0, Nat.zero_le _, rfl⟩
  case round =>
    obtain ⟨k, hk, rfl⟩ := hrel
    have ic := HC.out k (by omega)
    have hlt : k < xs.length := by omega
    by_cases hk2 : k < i0
    · have hn := HN.out k hk2
      generalize xs.getD k 0 = x at *
      have d1 : ((0 : Int) == x) = false := by simp; exact fun e => hn e.symm
      have hn := Lib.hid hn
      go_wp2_with fail
      exact ⟨⟨k + 1, by omega, by go_num⟩, by simp [intOf]; omega⟩
    · obtain rfl : k = i0 := by omega
      rw [H0.out] at ic
      go_wp2_with fail
      go_ret
      exact ⟨rfl, rfl⟩

theorem fromO_is (xs : List Int) (i0 : Nat) (h0 : xs.getD i0 0 = 0) : ∀ m, i0 < m → (∀ j, i0 < j → j < m → xs.getD j 0 ≠ 0) → fromO xs m = i0
  | 0, h, _ => absurd h (Nat.not_lt_zero _)
  | i + 1, h, hne => by
    unfold fromO
    by_cases e : i = i0
    · subst e; rw [if_pos h0]
    · rw [if_neg (hne i (by omega) (by omega))]
      exact fromO_is xs i0 h0 i (by omega) fun j h1 h2 => hne j h1 (by omega)
/-- of an order that has each place once: where place 0 stands -/
theorem ord_zero {n : Nat} {xs : List Int} (h : OrdP n xs) (hn : 1 ≤ n) : ∃ i0, i0 < xs.length ∧ xs.getD i0 0 = 0 ∧ (∀ j, j < i0 → xs.getD j 0 ≠ 0) ∧ fromO xs xs.length = i0 := by
  obtain ⟨hl, hg⟩ := h
  have hmem : (0 : Int) ∈ xs := by
    refine Decidable.byContradiction fun hna => ?_
    have hnd : xs.Nodup := by
      unfold List.Nodup
      rw [List.pairwise_iff_getElem]
      intro i j hi hj hij
      have := hg.2 i j hij hj
      rw [List.getD_eq_getElem?_getD, List.getD_eq_getElem?_getD, List.getElem?_eq_getElem hi, List.getElem?_eq_getElem hj] at this
      exact this
    have h2 : ((0 : Int) :: xs).Nodup := List.nodup_cons.2 ⟨hna, hnd⟩
    have := h2.length_le_of_subset (l₂ := (List.range n).map fun (v : Nat) => (v : Int)) (fun x hx => by
      rw [List.mem_map]
      cases List.mem_cons.1 hx with
      | inl e => subst e; exact ⟨0, by rw [List.mem_range]; omega, rfl⟩
      | inr e =>
        obtain ⟨i, hi, rfl⟩ := List.mem_iff_getElem.1 e
        have := hg.1 i hi
        rw [List.getD_eq_getElem?_getD, List.getElem?_eq_getElem hi] at this
        simp only [Option.getD_some] at this
        exact ⟨xs[i].toNat, by rw [List.mem_range]; omega, by omega⟩)
    rw [List.length_map, List.length_range, List.length_cons] at this
    omega
  obtain ⟨i, hi, he⟩ := List.mem_iff_getElem.1 hmem
  have hgi : xs.getD i 0 = 0 := by rw [List.getD_eq_getElem?_getD, List.getElem?_eq_getElem hi]; exact he
  refine ⟨i, hi, hgi, fun j hj e => ?_, fromO_is xs i hgi _ hi fun j h1 h2 e => ?_⟩
  · exact hg.2 j i hj hi (e.trans hgi.symm)
  · exact hg.2 i j h1 h2 (hgi.trans e.symm)

theorem b_From_not (s : ByteArray) (a : Option Addr) (cap : Nat) (xs : List Int) (w : World) (hs : s.size ≤ 1000) (hx : xs.length ≤ 1000) (hr : NumsAt .i64 w a xs) (h : s.size = 0 ∨ 1 ≤ s.size ∧ ¬ OrdP s.size xs) :
    Calls Try.prog 41 #[.string s, .slice a xs.length cap] w fun e w' => e = .returned (.tuple #[.string ⟨#[]⟩, .int .i64 0, .int .i64 1]) ∧ Below w.heap.size w w' := by
  rcases h with h | ⟨h1, h2⟩
  · obtain rfl := empty_is h
    go_enter Try.func41, Try.ntmps41
    go_wp2
    go_ret3
    exact ⟨rfl, kr _⟩
  · have he := nonempty_of s h1
    have he2 : ¬ s.toList = [] := by intro e; rw [e] at he; cases he
    have H1 := Lib.hid (b_ordered a cap xs s.size w hx hs hr false (by simp; exact h2))
    clear h2 hr
    go_enter Try.func41, Try.ntmps41
    go_wp2_with (first | (go_at_call 50; refine (H1.out).mono ?_; rintro e w5 ⟨rfl, hb⟩))
    go_ret3
    exact ⟨rfl, hb⟩

theorem bRow_next (s : ByteArray) (xs : List Int) (n k : Nat) (hk : k < n) (hx : xs.length = n) : (bRow (fromL s xs k ++ List.replicate (n - k) 0)).setIfInBounds k (.int .u8 (aheadB s (xs.getD k 0).toNat : Nat)) = bRow (fromL s xs (k + 1) ++ List.replicate (n - (k + 1)) 0) := by
  rw [bRow_set]
  congr 1
  have hl : (fromL s xs k).length = k := by unfold fromL; rw [List.length_map, List.length_take]; omega
  rw [List.set_append_right (h := by omega), hl, Nat.sub_self, show n - k = (n - (k + 1)) + 1 by omega, List.replicate_succ, List.set_cons_zero]
  have e : fromL s xs (k + 1) = fromL s xs k ++ [((aheadB s (xs.getD k 0).toNat : Nat) : Int)] := by
    unfold fromL
    rw [List.take_succ_eq_append_getElem (by omega), List.map_append, List.getD_eq_getElem?_getD, List.getElem?_eq_getElem (by omega)]
    rfl
  rw [e, List.append_assoc]
  rfl

set_option maxHeartbeats 400000 in
theorem b_From (s : ByteArray) (a : Option Addr) (cap : Nat) (xs : List Int) (w : World) (hs : s.size ≤ 1000) (h1 : 1 ≤ s.size) (hr : NumsAt .i64 w a xs) (h : OrdP s.size xs) (L : ByteArray) (o : Nat) (hL : strOfNums (fromL s xs xs.length) = L) (ho : fromO xs xs.length = o) :
    Calls Try.prog 41 #[.string s, .slice a xs.length cap] w fun e w' => e = .returned (.tuple #[.string L, .int .i64 (o : Nat), .int .i64 0]) ∧ Below w.heap.size w w' := by
  have he := nonempty_of s h1
  have he2 : ¬ s.toList = [] := by intro e; rw [e] at he; cases he
  obtain ⟨i0, hi, h0, hne, hfo⟩ := ord_zero h h1
  rw [ho] at hfo
  subst hfo
  have hlen := h.1
  have HG := Lib.hid h.2
  have H1 := Lib.hid (b_ordered a cap xs s.size w (by omega) hs hr true (by simp; exact h))
  have HI : Hid (∀ w1, NumsAt .i64 w1 a xs → Calls Try.prog 52 #[.slice a xs.length cap, .int .i64 0] w1 fun e w' => e = .returned (.int .i64 (o : Nat)) ∧ w1 = w') := fun w1 hr1 => b_Index a cap xs o w1 (by omega) hi h0 hne hr1
  have hmk := run_make_row' (P := Try.prog) 39 5 (.int .u8 0) 1 Try.underlying39 info_u8 rfl .i64 .i64 s.size (by omega) (by omega)
  have HR := Lib.hid hr
  have HL := Lib.hid hL
  have HLN := Lib.hid hlen
  have hmk0 := Lib.hid hmk
  have hxl : xs.length ≤ 1000 := by omega
  clear h hr hL ho h0 hne hlen
  go_enter Try.func41, Try.ntmps41
  go_wp2_with (first | (go_at_call 50; refine (H1.out).mono ?_; rintro e w1 ⟨rfl, hb1⟩))
  go_loopw [24] (fun v wr => ∃ k : Nat, k ≤ xs.length ∧ v = .int .i64 (k : Nat) ∧ Hid (Blk wr w1.heap.size 5 (bRow (fromL s xs k ++ List.replicate (s.size - k) 0)) ∧ Below w1.heap.size w1 wr)) (fun v _ => xs.length - (intOf v).toNat)
  case atStart => exact ⟨0, Nat.zero_le _, rfl, bRow_made s.size ▸ Blk.new w1 _ _, ka (kr _) _⟩
  case round =>
    obtain ⟨wo, rfl⟩ : ∃ wo : World, wo = wr := ⟨_, rfl⟩
    obtain ⟨k, hk, rfl, hp⟩ := hrel
    obtain ⟨hb, hB⟩ := hp.out
    have hll : (fromL s xs k).length = k := by unfold fromL; rw [List.length_map, List.length_take]; omega
    clear hmk
    by_cases hlt : k < xs.length
    · have hks : k < s.size := by have := HLN.out; omega
      obtain ⟨b0, off, rfl, hc⟩ := ((HR.out.below hb1).below hB).some (by omega)
      have ic := hc k hlt
      have hg := HG.out.1 k hlt
      have hn : Hid (Blk (wo.setCell ⟨w1.heap.size, k, none⟩ (.int .u8 (aheadB s (xs.getD k 0).toNat : Nat))) w1.heap.size 5 (bRow (fromL s xs (k + 1) ++ List.replicate (s.size - (k + 1)) 0)) ∧ Below w1.heap.size w1 (wo.setCell ⟨w1.heap.size, k, none⟩ (.int .u8 (aheadB s (xs.getD k 0).toNat : Nat)))) :=
        ⟨bRow_next s xs s.size k hks HLN.out ▸ hb.put k _, ks hB (Nat.le_refl _) _⟩
      have k1 := hb.free k
      have i1 := bRow_at hb (i := k) (by rw [List.length_append, hll, List.length_replicate]; omega)
      generalize (fromL s xs k ++ List.replicate (s.size - k) 0).getD k 0 = u at *
      generalize xs.getD k 0 = x at *
      obtain ⟨X, rfl⟩ := Int.eq_ofNat_of_zero_le hg.1
      have HA := Lib.hid (fun w => b_ahead s X w (by omega) (by omega))
      simp only [Int.toNat_natCast] at hn
      generalize aheadB s X = A at *
      clear hc hp hb hB hll
      go_wp2_with (first | (go_at_call 51; refine (HA.out _).mono ?_; rintro e w2 ⟨rfl, rfl⟩))
      exact ⟨⟨k + 1, by omega, by go_num, hn⟩, by simp [intOf]; omega⟩
    · obtain rfl : k = xs.length := by omega
      have hcv : ∀ q, Sem.run Try.prog (convert 39 9 (.slice (some ⟨w1.heap.size, 0, none⟩) s.size s.size)) (wo.drewN q) = .ok (.string L) (wo.drewN q) := fun q => by
        have hb2 := hb
        rw [HLN.out, Nat.sub_self, List.replicate_zero, List.append_nil] at hb2
        have h3 := bRow_str (hb2.drewN q)
        have h4 : (fromL s xs s.size).length = s.size := by rw [HLN.out] at hll; exact hll
        have hL := HL.out
        rw [HLN.out] at hL
        rw [h4, hL] at h3
        exact h3
      have HI2 : Hid (∀ q, Calls Try.prog 52 #[.slice a xs.length cap, .int .i64 0] (wo.drewN q) fun e w' => e = .returned (.int .i64 (o : Nat)) ∧ wo.drewN q = w') := fun q => HI.out _ (((HR.out.below hb1).below hB).drewN q)
      have HB2 := Lib.hid hB
      clear hp hb hB hll
      go_wp2_with fail
      go_quiet ((go_at_call 52; exact q_left (HI2.out _)))
      go_wp2_with fail
      go_ret3
      exact ⟨rfl, kd (kt hb1 HB2.out) _⟩

end Go.Proofs.Ytbakfaihnecmoaa
