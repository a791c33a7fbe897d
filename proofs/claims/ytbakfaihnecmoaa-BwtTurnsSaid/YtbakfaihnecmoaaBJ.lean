/- The statements BwtBytes and BwtTurns: plain facts. -/
import Derived.Test.YtbakfaihnecmoaaBH
namespace Go.Proofs.Ytbakfaihnecmoaa
set_option linter.unusedVariables false
set_option linter.unusedSimpArgs false
open Go.RowKit Sp Pl

/-- how often a byte stands in a text -/
def cntL (c : Int) (l : List UInt8) : Nat := l.countP fun b => ((b.toNat : Nat) : Int) == c
/-- the sorted places are the places, in another order -/
theorem sortTo_perm (s : ByteArray) : ∃ l : List Nat, l.Perm (List.range s.size) ∧ sortTo s s.size = l.map (fun (v : Nat) => (v : Int)) := by
  by_cases h : s.size < 2
  · exact ⟨_, List.Perm.refl _, (small_sorted s h).symm⟩
  · refine ⟨(sortTo s s.size).map Int.toNat, ?_, ?_⟩
    · have hn := nodup_of_pairwise s (pairwise_sortTo s s.size (Nat.le_refl _))
      have hm : ∀ x ∈ sortTo s s.size, 0 ≤ x := fun x hx => by rw [mem_sortTo] at hx; exact hx.1
      refine (List.perm_ext_iff_of_nodup ?_ List.nodup_range).2 fun a => ?_
      · unfold List.Nodup
        rw [List.pairwise_map]
        refine List.Pairwise.imp_of_mem (fun {x y} hx hy hne he => ?_) hn
        have := hm x hx
        have := hm y hy
        omega
      · rw [List.mem_map, List.mem_range]
        constructor
        · rintro ⟨x, hx, rfl⟩
          rw [mem_sortTo] at hx
          omega
        · intro ha
          exact ⟨(a : Int), by rw [mem_sortTo]; omega, by simp⟩
    · rw [List.map_map]
      conv => lhs; rw [← List.map_id (sortTo s s.size)]
      refine List.map_congr_left fun x hx => ?_
      rw [mem_sortTo] at hx
      show x = ((x.toNat : Nat) : Int)
      omega

/-- the byte ahead of a place, as a byte -/
def ahdU (s : ByteArray) (i : Nat) : UInt8 := rnd s (i + (s.size - 1))
theorem ahdU_nat (s : ByteArray) (i : Nat) (hi : i < s.size) : (ahdU s i).toNat = aheadB s i := by
  unfold ahdU rnd aheadB
  split
  · rename_i h
    subst h
    rw [Nat.zero_add, Nat.mod_eq_of_lt (by omega)]
  · rename_i h
    rw [show i + (s.size - 1) = i - 1 + s.size by omega, Nat.add_mod_right, Nat.mod_eq_of_lt (by omega)]
theorem lastStr_data (s : ByteArray) {l : List Nat} (hp : l.Perm (List.range s.size)) (he : sortTo s s.size = l.map (fun (v : Nat) => (v : Int))) : (lastStr s).data.toList = l.map (ahdU s) := by
  have hl : l.length = s.size := by have := hp.length_eq; simpa using this
  have hb : ∀ a ∈ l, a < s.size := fun a ha => by simpa using hp.mem_iff.1 ha
  unfold lastStr
  rw [strOfNums_data]
  unfold lastTo
  rw [List.map_map]
  apply List.ext_getElem
  · simp [hl]
  · intro i h1 h2
    have hi : i < l.length := by simpa using h2
    have hs : sortN s i = l[i] := by
      unfold sortN
      rw [he, List.getD_eq_getElem?_getD, List.getElem?_map, List.getElem?_eq_getElem hi]
      simp
    simp only [List.getElem_map, List.getElem_range, Function.comp_apply, hs, Int.toNat_natCast]
    rw [← ahdU_nat s l[i] (hb _ (List.getElem_mem hi)), UInt8.ofNat_toNat]

/-- the places, each one back, are the places in another order -/
theorem back_perm (n : Nat) (hn : 1 ≤ n) : ((List.range n).map fun i => (i + (n - 1)) % n).Perm (List.range n) := by
  refine (List.perm_ext_iff_of_nodup ?_ List.nodup_range).2 fun a => ?_
  · unfold List.Nodup
    rw [List.pairwise_map]
    refine List.Pairwise.imp_of_mem (fun {x y} hx hy hne he => ?_) (List.nodup_range (n := n))
    rw [List.mem_range] at hx hy
    have key : ∀ x, x < n → (x + (n - 1)) % n = if x = 0 then n - 1 else x - 1 := by
      intro x hx
      split
      · rename_i h; subst h; rw [Nat.zero_add, Nat.mod_eq_of_lt (by omega)]
      · rename_i h
        rw [show x + (n - 1) = x - 1 + n by omega, Nat.add_mod_right, Nat.mod_eq_of_lt (by omega)]
    rw [key x hx, key y hy] at he
    split at he <;> split at he <;> omega
  · rw [List.mem_map, List.mem_range]
    constructor
    · rintro ⟨x, hx, rfl⟩
      exact Nat.mod_lt _ (by omega)
    · intro ha
      by_cases h : a = n - 1
      · exact ⟨0, by rw [List.mem_range]; omega, by rw [Nat.zero_add, Nat.mod_eq_of_lt (by omega)]; omega⟩
      · refine ⟨a + 1, by rw [List.mem_range]; omega, ?_⟩
        rw [show a + 1 + (n - 1) = a + n by omega, Nat.add_mod_right, Nat.mod_eq_of_lt ha]
theorem last_perm (s : ByteArray) (h1 : 1 ≤ s.size) : (lastStr s).data.toList.Perm s.data.toList := by
  obtain ⟨l, hp, he⟩ := sortTo_perm s
  rw [lastStr_data s hp he]
  have e1 : (List.range s.size).map (ahdU s) = ((List.range s.size).map fun i => (i + (s.size - 1)) % s.size).map fun i => s.data.toList.getD i 0 := by
    rw [List.map_map]; rfl
  have e2 : (List.range s.size).map (fun i => s.data.toList.getD i 0) = s.data.toList := by
    have hl := size_list' s
    apply List.ext_getElem
    · simp [hl]
    · intro i h2 h3
      simp only [List.getElem_map, List.getElem_range]
      rw [List.getD_eq_getElem?_getD, List.getElem?_eq_getElem h3]
      rfl
  refine (hp.map (ahdU s)).trans ?_
  rw [e1]
  refine ((back_perm s.size h1).map _).trans ?_
  rw [e2]
theorem last_cnt (s : ByteArray) (h1 : 1 ≤ s.size) (c : Int) : cntL c (lastStr s).data.toList = cntL c s.data.toList := (last_perm s h1).countP_eq _
theorem last_size (s : ByteArray) : (lastStr s).size = s.size := by unfold lastStr; rw [strOfNums_size, lastTo_length]
theorem orig_lt (s : ByteArray) (h1 : 1 ≤ s.size) : origTo s s.size < s.size := by
  have key : ∀ m, 1 ≤ m → origTo s m < m := by
    intro m
    induction m with
    | zero => omega
    | succ i ih =>
      intro _
      unfold origTo
      split
      · omega
      · by_cases h : 1 ≤ i
        · have := ih h; omega
        · have : i = 0 := by omega
          subst this
          show origTo s 0 < 1
          exact Nat.lt_succ_self 0
  exact key _ h1

/-! a rotation of the text has the same last bytes -/
def lastOf (l : List UInt8) : UInt8 := l.getD (l.length - 1) 0
/-- the rotations of a text, sorted -/
theorem rot_rot (s : ByteArray) (i k : Nat) (hi : i < s.size) (hk : k < s.size) : rotL (rotS s i).data.toList k = rotL s.data.toList ((i + k) % s.size) := by
  have hl := size_list' s
  have hm : (i + k) % s.size < s.size := Nat.mod_lt _ (by omega)
  rw [rotS_data]
  apply List.ext_getElem
  · simp only [length_rotL]
  · intro j h1 h2
    have hj : j < s.size := by simp only [length_rotL] at h1; omega
    have a1 := getD_rotL (rotL s.data.toList i) k j (by rw [length_rotL]; omega) (by rw [length_rotL]; omega)
    have a2 := getD_rotL s.data.toList ((i + k) % s.size) j (by omega) (by omega)
    rw [length_rotL] at a1
    have a3 := getD_rotL s.data.toList i ((k + j) % s.data.toList.length) (by omega) (Nat.mod_lt _ (by omega))
    rw [a3] at a1
    rw [List.getD_eq_getElem?_getD, List.getElem?_eq_getElem h1] at a1
    rw [List.getD_eq_getElem?_getD, List.getElem?_eq_getElem h2] at a2
    simp only [Option.getD_some] at a1 a2
    rw [a1, a2, hl]
    congr 1
    rw [Nat.add_mod_mod, Nat.mod_add_mod, Nat.add_assoc]
theorem shift_perm (n i : Nat) (hn : 1 ≤ n) : ((List.range n).map fun k => (i + k) % n).Perm (List.range n) := by
  refine (List.perm_ext_iff_of_nodup ?_ List.nodup_range).2 fun a => ?_
  · unfold List.Nodup
    rw [List.pairwise_map]
    refine List.Pairwise.imp_of_mem (fun {x y} hx hy hne he => ?_) (List.nodup_range (n := n))
    rw [List.mem_range] at hx hy
    have key : ∀ x, x < n → (i + x) % n = if i % n + x < n then i % n + x else i % n + x - n := by
      intro x hx
      have hi := Nat.mod_lt i (show n > 0 by omega)
      rw [← Nat.mod_add_mod]
      split
      · rw [Nat.mod_eq_of_lt (by omega)]
      · rw [Nat.mod_eq_sub_mod (by omega), Nat.mod_eq_of_lt (by omega)]
    rw [key x hx, key y hy] at he
    split at he <;> split at he <;> omega
  · rw [List.mem_map, List.mem_range]
    constructor
    · rintro ⟨x, hx, rfl⟩
      exact Nat.mod_lt _ (by omega)
    · intro ha
      have hi := Nat.mod_lt i (show n > 0 by omega)
      by_cases h : i % n ≤ a
      · refine ⟨a - i % n, by rw [List.mem_range]; omega, ?_⟩
        rw [← Nat.mod_add_mod, show i % n + (a - i % n) = a by omega, Nat.mod_eq_of_lt ha]
      · refine ⟨a + n - i % n, by rw [List.mem_range]; omega, ?_⟩
        rw [← Nat.mod_add_mod, show i % n + (a + n - i % n) = a + n by omega, Nat.add_mod_right, Nat.mod_eq_of_lt ha]

/-- the rotations at the sorted places -/
def rotsOf (s : ByteArray) : List (List UInt8) := (sortTo s s.size).map fun x => rotL s.data.toList x.toNat
theorem rots_pw (s : ByteArray) : (rotsOf s).Pairwise (fun a b => cmpL a b ≤ 0) := by
  unfold rotsOf
  rw [List.pairwise_map]
  refine (pairwise_sortTo s s.size (Nat.le_refl _)).imp fun {x y} h => ?_
  unfold Ahd at h
  rw [aheadS_iff] at h
  have h3 := h.2.2
  unfold cmpS at h3
  omega
theorem rots_perm (s : ByteArray) : (rotsOf s).Perm ((List.range s.size).map fun k => rotL s.data.toList k) := by
  obtain ⟨l, hp, he⟩ := sortTo_perm s
  unfold rotsOf
  rw [he, List.map_map]
  exact hp.map _
theorem rots_len (s : ByteArray) : ∀ a ∈ rotsOf s, a.length = s.size := by
  intro a ha
  unfold rotsOf at ha
  rw [List.mem_map] at ha
  obtain ⟨x, _, rfl⟩ := ha
  rw [length_rotL, size_list']
theorem rots_rot (s : ByteArray) (i : Nat) (hi : i < s.size) : rotsOf (rotS s i) = rotsOf s := by
  have hz := rotS_size s i
  refine List.Perm.eq_of_pairwise (le := fun a b => cmpL a b ≤ 0) (fun a b ha hb h1 h2 => ?_) (rots_pw _) (rots_pw _) ?_
  · have e1 := rots_len (rotS s i) a ha
    have e2 := rots_len s b hb
    have h3 := cmpL_neg a b
    exact (cmpL_zero a b (by rw [e1, e2, hz])).1 (by omega)
  · refine (rots_perm (rotS s i)).trans ((?_ : List.Perm _ _).trans (rots_perm s).symm)
    rw [hz]
    have e : (List.range s.size).map (fun k => rotL (rotS s i).data.toList k) = ((List.range s.size).map fun k => (i + k) % s.size).map fun k => rotL s.data.toList k := by
      rw [List.map_map]
      refine List.map_congr_left fun k hk => ?_
      exact rot_rot s i k hi (by simpa using hk)
    rw [e]
    exact (shift_perm s.size i (by omega)).map _
theorem last_rots (s : ByteArray) (h1 : 1 ≤ s.size) : (lastStr s).data.toList = (rotsOf s).map lastOf := by
  obtain ⟨l, hp, he⟩ := sortTo_perm s
  have hb : ∀ a ∈ l, a < s.size := fun a ha => by simpa using hp.mem_iff.1 ha
  rw [lastStr_data s hp he]
  unfold rotsOf
  rw [he, List.map_map, List.map_map]
  refine List.map_congr_left fun a ha => ?_
  have hl := size_list' s
  simp only [Function.comp_apply, Int.toNat_natCast]
  unfold lastOf
  have := getD_rotL s.data.toList a (s.size - 1) (by have := hb a ha; omega) (by omega)
  rw [length_rotL, hl, this, hl]
  rfl
theorem last_turn (s : ByteArray) (i : Nat) (hi : i < s.size) : lastStr (rotS s i) = lastStr s := by
  apply list_inj
  rw [last_rots _ (by rw [rotS_size]; omega), last_rots s (by omega), rots_rot s i hi]

end Go.Proofs.Ytbakfaihnecmoaa
