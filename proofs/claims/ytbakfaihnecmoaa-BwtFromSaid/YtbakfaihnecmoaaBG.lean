/- The reference of layer 17: the walks of From, Of, Steps. -/
import Derived.Test.YtbakfaihnecmoaaBF
namespace Go.Proofs.Ytbakfaihnecmoaa
set_option linter.unusedVariables false
set_option linter.unusedSimpArgs false
open Go.RowKit Sp Pl

theorem rot_last (s : ByteArray) (i r : Nat) (hi : i < s.size) (hr : s.size = r + 1) : (rotS s i).extract r (r + 1) = strOfNums [((aheadB s i : Nat) : Int)] := by
  apply list_inj
  have hl := size_list' s
  have hg := getD_rotL s.data.toList i r (by omega) (by omega)
  have hlen := length_rotL s.data.toList i
  have e1 : ((rotS s i).extract r (r + 1)).data.toList = [(rotL s.data.toList i).getD r 0] := by
    simp only [ByteArray.data_extract, Array.toList_extract, List.extract_eq_take_drop]
    rw [rotS_data, show r + 1 - r = 1 by omega, drop_eq_getD_cons _ r (by omega)]
    rfl
  rw [e1, hg, strOfNums_data, hl]
  simp only [List.map_cons, List.map_nil, Int.toNat_natCast]
  have e2 : s.data.toList.getD ((i + r) % s.size) 0 = UInt8.ofNat (aheadB s i) := by
    unfold aheadB
    split
    · rename_i h0
      subst h0
      rw [Nat.zero_add, Nat.mod_eq_of_lt (by omega), show s.size - 1 = r by omega, UInt8.ofNat_toNat]
    · rename_i h0
      rw [show i + r = i - 1 + s.size by omega, Nat.add_mod_right, Nat.mod_eq_of_lt (by omega), UInt8.ofNat_toNat]
  rw [e2]

def fromL (s : ByteArray) (xs : List Int) (k : Nat) : List Int := (xs.take k).map fun x => ((aheadB s x.toNat : Nat) : Int)
def fromO (xs : List Int) : Nat → Nat
  | 0 => 0
  | i + 1 => if xs.getD i 0 = 0 then i else fromO xs i
theorem fromL_succ (s : ByteArray) (xs : List Int) (k : Nat) (h : k < xs.length) : strOfNums (fromL s xs (k + 1)) = strOfNums (fromL s xs k) ++ strOfNums [((aheadB s (xs.getD k 0).toNat : Nat) : Int)] := by
  apply list_inj
  unfold fromL
  rw [List.take_succ_eq_append_getElem h, List.map_append, ByteArray.data_append, Array.toList_append, strOfNums_data, strOfNums_data, strOfNums_data, List.map_append, List.getD_eq_getElem?_getD, List.getElem?_eq_getElem h]
  rfl
theorem fromL_size (s : ByteArray) (xs : List Int) (k : Nat) (h : k ≤ xs.length) : (strOfNums (fromL s xs k)).size = k := by
  rw [strOfNums_size]; unfold fromL; rw [List.length_map, List.length_take]; omega
theorem fromO_le (xs : List Int) : ∀ k, fromO xs k ≤ k
  | 0 => Nat.le_refl _
  | i + 1 => by unfold fromO; split; omega; have := fromO_le xs i; omega

set_option maxHeartbeats 400000 in
theorem r_From (s : ByteArray) (a : Option Addr) (cap : Nat) (xs : List Int) (w : World) (hs : s.size ≤ 1000) (hx : xs.length ≤ 1000) (hr : NumsAt .i64 w a xs) (hp : ∀ x ∈ xs, isB s x = true) :
    Calls Try.prog 43 #[.string s, .slice a xs.length cap] w fun e w' => e = .returned (.agg #[.string (strOfNums (fromL s xs xs.length)), .int .i64 (fromO xs xs.length : Nat)]) ∧ Below w.heap.size w w' := by
  have HP := Lib.hid hp
  have HR := Lib.hid hr
  obtain ⟨SE, hSE⟩ : ∃ SE, strOfNums (fromL s xs xs.length) = SE := ⟨_, rfl⟩
  obtain ⟨OE, hOE⟩ : ∃ OE, fromO xs xs.length = OE := ⟨_, rfl⟩
  rw [hSE, hOE]
  have HSE := Lib.hid hSE
  have HOE := Lib.hid hOE
  clear hp hr hSE hOE
  go_enter Try.func43, Try.ntmps43
  go_wp2_with fail
  go_loopw [12] (fun v wr => ∃ k : Nat, k ≤ xs.length ∧ v = .int .i64 (k : Nat) ∧ Hid (Blk wr (w.heap.size + 1) 46 #[.string (strOfNums (fromL s xs k)), .int .i64 (fromO xs k : Nat)] ∧ Blk wr w.heap.size 46 #[.string ⟨#[]⟩, .int .i64 0] ∧ Below w.heap.size w wr)) (fun v _ => xs.length - (intOf v).toNat)
  case atStart =>
    have e1 : (w.alloc (.cells #[.string ⟨#[]⟩, .int .i64 0] 46)).heap.size = w.heap.size + 1 := by simp
    exact ⟨0, Nat.zero_le _, rfl, e1 ▸ Blk.new _ _ _, (Blk.new w _ _).kept (ka (kr _) _), ka (ka (kr _) _) _⟩
  case round =>
    obtain ⟨wo, rfl⟩ : ∃ wo : World, wo = wr := ⟨_, rfl⟩
    obtain ⟨k, hk, rfl, hp⟩ := hrel
    obtain ⟨hb, hb0, hB⟩ := hp.out
    by_cases hlt : k < xs.length
    · have c0 := hb.at_ (v := .string (strOfNums (fromL s xs k))) 0 rfl
      have c1 := hb.at_ (v := .int .i64 (fromO xs k : Nat)) 1 rfl
      obtain ⟨b0, off, rfl, hc⟩ := (HR.out.below hB).some (by omega)
      have ic := hc k hlt
      have hxk := isB_true (HP.out (xs.getD k 0) (by rw [List.getD_eq_getElem?_getD, List.getElem?_eq_getElem hlt]; exact List.getElem_mem hlt))
      have hsucc := fromL_succ s xs k hlt
      have hsz := fromL_size s xs k hk
      have hO : fromO xs (k + 1) = if xs.getD k 0 = 0 then k else fromO xs k := rfl
      generalize xs.getD k 0 = x at *
      obtain ⟨X, rfl⟩ := Int.eq_ofNat_of_zero_le hxk.1
      obtain ⟨r, hr⟩ : ∃ r, s.size = r + 1 := ⟨s.size - 1, by omega⟩
      have hrl := rot_last s X r (by omega) hr
      have hrs := rotS_size s X
      have HRT := Lib.hid (fun w => ref_Rotation s (X : Nat) w (by omega) (by omega) (by omega))
      simp only [Int.toNat_natCast] at HRT hsucc
      rw [← hrl] at hsucc
      generalize rotS s X = R at *
      generalize strOfNums (fromL s xs k) = S at *
      generalize fromO xs k = O at *
      rw [hr] at hrs
      have HSU := Lib.hid hsucc
      have HRS := Lib.hid hrs
      have HOO := Lib.hid hO
      have HSZ := Lib.hid hsz
      have hSl : S.size ≤ 1000 := by omega
      have hRl : R.size ≤ 1001 := by omega
      have hrl2 : r ≤ 1000 := by omega
      have HBB := Lib.hid (And.intro hb (And.intro hb0 hB))
      have lt1 := hb.lt
      have hB2 := hB
      clear hc hp hsucc hrs hrl hO hsz hr hb hb0 hB
      have hz : w.heap.size + 1 ≠ w.heap.size := by omega
      have hn0 : Hid (∀ w1, Below wo.heap.size wo w1 → X = 0 → Blk (((w1.setCell ⟨w.heap.size + 1, 0, none⟩ (.string (S ++ R.extract r (r + 1)))).setCell ⟨w.heap.size + 1, 1, none⟩ (.int .i64 (k : Nat))).drew) (w.heap.size + 1) 46 #[.string (strOfNums (fromL s xs (k + 1))), .int .i64 (fromO xs (k + 1) : Nat)] ∧ Blk (((w1.setCell ⟨w.heap.size + 1, 0, none⟩ (.string (S ++ R.extract r (r + 1)))).setCell ⟨w.heap.size + 1, 1, none⟩ (.int .i64 (k : Nat))).drew) w.heap.size 46 #[.string ⟨#[]⟩, .int .i64 0] ∧ Below w.heap.size w (((w1.setCell ⟨w.heap.size + 1, 0, none⟩ (.string (S ++ R.extract r (r + 1)))).setCell ⟨w.heap.size + 1, 1, none⟩ (.int .i64 (k : Nat))).drew)) := by
        intro w1 hb1 hX
        have e : fromO xs (k + 1) = k := by rw [HOO.out, if_pos (by omega)]
        rw [HSU.out, e]
        exact ⟨((HBB.out.1.kept hb1).put 0 _).put 1 _, ((HBB.out.2.1.kept hb1).far (p := ⟨w.heap.size + 1, 0, none⟩) hz.symm _).far (p := ⟨w.heap.size + 1, 1, none⟩) hz.symm _, kdr (ks (ks (kt hB2 hb1) (Nat.le_succ _) _) (Nat.le_succ _) _)⟩
      have hn1 : Hid (∀ w1, Below wo.heap.size wo w1 → X ≠ 0 → Blk ((w1.setCell ⟨w.heap.size + 1, 0, none⟩ (.string (S ++ R.extract r (r + 1)))).drew) (w.heap.size + 1) 46 #[.string (strOfNums (fromL s xs (k + 1))), .int .i64 (fromO xs (k + 1) : Nat)] ∧ Blk ((w1.setCell ⟨w.heap.size + 1, 0, none⟩ (.string (S ++ R.extract r (r + 1)))).drew) w.heap.size 46 #[.string ⟨#[]⟩, .int .i64 0] ∧ Below w.heap.size w ((w1.setCell ⟨w.heap.size + 1, 0, none⟩ (.string (S ++ R.extract r (r + 1)))).drew)) := by
        intro w1 hb1 hX
        have e : fromO xs (k + 1) = O := by rw [HOO.out, if_neg (by omega)]
        rw [HSU.out, e]
        exact ⟨(HBB.out.1.kept hb1).put 0 _, (HBB.out.2.1.kept hb1).far (p := ⟨w.heap.size + 1, 0, none⟩) hz.symm _, kdr (ks (kt hB2 hb1) (Nat.le_succ _) _)⟩
      have hways : Hid ((((X : Int) == 0) = true ∧ X = 0) ∨ (((X : Int) == 0) = false ∧ X ≠ 0)) := by
        by_cases h : X = 0
        · exact .inl ⟨by simpa using h, h⟩
        · exact .inr ⟨by simpa using h, h⟩
      go_wp2_with fail
      refine (HRT.out _).mono ?_
      rintro e w1 ⟨rfl, hb1⟩
      have d0 := cell_below c0 hb1
      have d1 := cell_below c1 hb1
      have k0 := (HBB.out.1.kept hb1).free 0
      have k1 := (HBB.out.1.kept hb1).free 1
      have hRr := HRS.out
      go_wp2_with fail
      go_region
      rcases hways.out with ⟨dz, hX⟩ | ⟨dz, hX⟩
      · have hfin := Lib.hid (hn0.out w1 hb1 hX)
        clear hways hn0 hn1 hX
        go_wp2_with fail
        exact ⟨⟨k + 1, by omega, by go_num, hfin⟩, by simp [intOf]; omega⟩
      · have hfin := Lib.hid (hn1.out w1 hb1 hX)
        clear hways hn0 hn1
        go_wp2_with fail
        exact ⟨⟨k + 1, by omega, by go_num, hfin⟩, by simp [intOf]; omega⟩
    · obtain rfl : k = xs.length := by omega
      have c0 := hb.at_ (v := .string (strOfNums (fromL s xs xs.length))) 0 rfl
      have c1 := hb.at_ (v := .int .i64 (fromO xs xs.length : Nat)) 1 rfl
      have m0 := hb0.at_ (v := .string ⟨#[]⟩) 0 rfl
      have m1 := hb0.at_ (v := .int .i64 0) 1 rfl
      have k0 := hb0.free 0
      have k1 := hb0.free 1
      have lt0 := hb0.lt
      rw [HSE.out] at c0
      rw [HOE.out] at c1
      clear hp hb hb0
      go_wp2_with fail
      exact bodyPost_ret (v := .agg #[.string SE, .int .i64 (OE : Nat)]) (by simp [results, Try.results43, go_sem, *]) rfl ⟨rfl, (by repeat (first | (with_reducible exact kr _) | (with_reducible assumption) | (with_reducible refine kt ?_ (by assumption)) | (with_reducible refine ka ?_ _) | (with_reducible refine kd ?_ _) | (with_reducible refine kdr ?_) | (with_reducible refine ks ?_ (by first | omega | (simp; done) | (simp; omega)) _)))⟩

theorem take_all (s : ByteArray) (xs : List Int) (m : Nat) (h : m ≤ xs.length) : fromL s xs m = (List.range m).map fun i => ((aheadB s (xs.getD i 0).toNat : Nat) : Int) := by
  unfold fromL
  apply List.ext_getElem
  · simp; omega
  · intro i h1 h2
    have hi : i < xs.length := by rw [List.length_map, List.length_take] at h1; omega
    simp [List.getD_eq_getElem?_getD, List.getElem?_eq_getElem hi]
theorem fromL_sorted (s : ByteArray) : fromL s (sortTo s s.size) s.size = lastTo s s.size := by
  rw [take_all s _ _ (by rw [sortTo_length]; exact Nat.le_refl _)]
  rfl
theorem fromO_sorted (s : ByteArray) : ∀ m, m ≤ s.size → fromO (sortTo s s.size) m = origTo s m
  | 0, _ => rfl
  | i + 1, h => by
    unfold fromO origTo
    rw [fromO_sorted s i (by omega)]
    have := (sortN_lt s i (by omega)).2
    rw [this]
    by_cases h0 : sortN s i = 0
    · rw [if_pos h0, if_pos (by omega)]
    · rw [if_neg h0, if_neg (by omega)]

theorem r_Of17 (s : ByteArray) (w : World) (hs : s.size ≤ 300) (L : ByteArray) (o : Nat) (hL : lastStr s = L) (ho : origTo s s.size = o) :
    Calls Try.prog 30 #[.string s] w fun e w' => e = .returned (.agg #[.string L, .int .i64 (o : Nat)]) ∧ Below w.heap.size w w' := by
  obtain ⟨ys, hy⟩ : ∃ ys, sortTo s s.size = ys := ⟨_, rfl⟩
  have hyl : ys.length = s.size := by rw [← hy, sortTo_length]
  have H1 := Lib.hid (fun w => ref_Sorted_of s ys w hs hy)
  have hp : ∀ x ∈ ys, isB s x = true := by
    intro x hx
    rw [← hy, mem_sortTo] at hx
    exact isB_of hx.1 hx.2
  have e1 : strOfNums (fromL s ys ys.length) = L := by rw [hyl, ← hy, fromL_sorted]; exact hL
  have e2 : fromO ys ys.length = o := by rw [hyl, ← hy, fromO_sorted s _ (Nat.le_refl _)]; exact ho
  have H2 : Hid (∀ a cap w, NumsAt .i64 w a ys → Calls Try.prog 43 #[.string s, .slice a ys.length cap] w fun e w' => e = .returned (.agg #[.string L, .int .i64 (o : Nat)]) ∧ Below w.heap.size w w') := fun a cap w hr => by
    have := r_From s a cap ys w (by omega) (by omega) hr hp
    rw [e1, e2] at this
    exact this
  clear hp e1 e2 hy hyl
  go_enter Try.func30, Try.ntmps30
  go_wp2_with fail
  refine (H1.out _).mono ?_
  rintro e w1 ⟨⟨a, cap, rfl, hr⟩, hb1⟩
  go_wp2_with fail
  refine (H2.out _ _ _ hr).mono ?_
  rintro e w2 ⟨rfl, hb2⟩
  have bm := ((Blk.new w 46 #[.string ⟨#[]⟩, .int .i64 0]).kept hb1).kept hb2
  have m0 := bm.at_ (v := .string ⟨#[]⟩) 0 rfl
  have m1 := bm.at_ (v := .int .i64 0) 1 rfl
  have k0 := bm.free 0
  have k1 := bm.free 1
  have lt0 := bm.lt
  have hbB : Below w.heap.size w w2 := kt (kt (ka (kr w) _) hb1) hb2
  clear bm hb1 hb2 hr
  go_wp2_with fail
  exact bodyPost_ret (v := .agg #[.string L, .int .i64 (o : Nat)]) (by simp [results, Try.results30, go_sem, *]) rfl ⟨rfl, (by repeat (first | (with_reducible exact kr _) | (with_reducible assumption) | (with_reducible refine kt ?_ (by assumption)) | (with_reducible refine ka ?_ _) | (with_reducible refine kd ?_ _) | (with_reducible refine kdr ?_) | (with_reducible refine ks ?_ (by first | omega | (simp; done) | (simp; omega)) _)))⟩

end Go.Proofs.Ytbakfaihnecmoaa
