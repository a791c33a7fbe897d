/- Layer 47: parts as text. -/
import Derived.Test.YtmjolmggelkjlaaGreatIC
import Derived.Test.YtmjolmggelkjlaaGreatSf
namespace Go.Proofs.YtmjolmggelkjlaaGreat
set_option linter.unusedVariables false
set_option linter.unusedSimpArgs false
open Go.RowKit Ip

theorem textB_snoc (l : List Pt) (p : Pt) : textB (l ++ [p]) = match textB l, lineB p with
    | some T, some s => some (T ++ (s ++ [10]))
    | _, _ => none := by
  induction l with
  | nil =>
    show textB [p] = _
    unfold textB
    cases e : lineB p <;> simp [textB]
  | cons q l ih =>
    show textB (q :: (l ++ [p])) = _
    unfold textB
    rw [ih]
    cases lineB q <;> cases textB l <;> cases lineB p <;> simp
theorem textB_none (l : List Pt) {p : Pt} (hp : p ∈ l) (h : lineB p = none) : textB l = none := by
  induction l with
  | nil => cases hp
  | cons q l ih =>
    unfold textB
    rcases List.mem_cons.1 hp with rfl | h1
    · rw [h]
    · rw [ih h1]
      cases lineB q <;> rfl
theorem wordsB_len : ∀ (xs : List Int) (s : List Nat), (wordsB s xs).length ≤ s.length + 20 * xs.length
  | [], s => Nat.le_refl _
  | x :: xs, s => by
    have h1 := wordsB_len xs (s ++ 32 :: numB x)
    have h2 : (numB x).length ≤ 19 := by unfold numB; rw [List.length_map]; exact digs_len _ _
    unfold wordsB
    simp at h1 ⊢
    omega
theorem lineB_len {p : Pt} {s : List Nat} (h : lineB p = some s) : s.length ≤ 150 := by
  have hl8 : (hexB p.sum.toNat).length = 8 := by unfold hexB; simp
  unfold lineB at h
  repeat' split at h
  all_goals first | cases h | skip
  · have := wordsB_len [p.level, p.frm, p.to_] beginB
    simp [beginB] at this ⊢
    omega
  · have := wordsB_len [p.orig, p.last, p.len, p.frm, p.to_] (blockB ++ hexB p.sum.toNat)
    simp [blockB, hl8] at this ⊢
    omega
  · have := wordsB_len [p.frm, p.to_] (endB ++ hexB p.sum.toNat)
    simp [endB, hl8] at this ⊢
    omega
def u8L (l : List Nat) : List UInt8 := l.map UInt8.ofNat
theorem stB_eq (l : List Nat) : stB l = .string ⟨(u8L l).toArray⟩ := rfl
theorem isB_below {T e : TypeId} {B b : Nat} {bs : List Value} {W W' : World} (h : Lib.IsBuilder T e B b bs W) (hb : Below W.heap.size W W') : Lib.IsBuilder T e B b bs W' := by
  have g : ∀ {p}, Lib.BuilderAt T e B b p bs W → Lib.BuilderAt T e B b p bs W' := by
    rintro p ⟨hB, v, hbk, hown, hne⟩
    have lt : ∀ {c} {x : Obj}, W.heap[c]? = some x → W'.heap[c]? = some x := fun hx => (hb.block _ (Array.getElem?_eq_some_iff.1 hx).1).trans hx
    refine ⟨hB, v, lt hbk, ⟨hown.1, ?_⟩, hne⟩
    rcases hown.2 with h1 | ⟨g, cap, cur, h1, h2, h3, h4⟩
    · exact .inl h1
    · exact .inr ⟨g, cap, cur, h1, h2, lt h3, h4⟩
  exact h.elim (fun x => .inl (g x)) (fun x => .inr (g x))
theorem h_Text (a : Option Addr) (n c : Nat) (l : List Pt) (w : World) (hlen : l.length = n) (hn : n ≤ 1000) (hok : ∀ p ∈ l, p.ok = true)
    (hcell : ∀ (i : Nat) (p : Pt), l[i]? = some p → ∃ b o, a = some ⟨b, o, none⟩ ∧ ∀ j v, p.cells[j]? = some v → w.cell? ⟨b, o + i * 8 + j, none⟩ = some v) :
    Calls Tryz.prog 18 #[.slice a n c] w fun e w' => e = .returned (ansB (textB l)) ∧ Below w.heap.size w w' := by
  go_enter Tryz.func18, Tryz.ntmps18
  go_wp2_with fail
  go_loopw [11] (fun i wr => ∃ (k : Nat) (T : List Nat), k ≤ n ∧ i = .int .i64 (k : Nat) ∧ textB (l.take k) = some T ∧ T.length ≤ 200 * k ∧ Hid (Lib.IsBuilder 107 5 w.heap.size w.heap.size (Lib.byteCells (u8L T)) wr ∧ Below w.heap.size w wr)) (fun i wr => n - (intOf i).toNat)
  case atStart => 
    refine ⟨0, [], Nat.zero_le _, rfl, rfl, Nat.le_refl _, ⟨Lib.fresh_isBuilder 107 5 w, ka (kr _) _⟩⟩
  case round =>
    obtain ⟨wo, rfl⟩ : ∃ wo : World, wo = wr := ⟨_, rfl⟩
    obtain ⟨k, T, hk, rfl, hT, hTl, hp⟩ := hrel
    by_cases hlt : k < n
    · obtain ⟨b, o, rfl, hc⟩ := hcell k _ (List.getElem?_eq_getElem (by omega : k < l.length))
      obtain ⟨hb, hB⟩ := hp.out
      have hpo := hok _ (List.getElem_mem (by omega : k < l.length))
      generalize hpe : l[k] = p at hc hpo
      have cc : ∀ j v, p.cells[j]? = some v → wo.cell? ⟨b, o + k * 8 + j, none⟩ = some v := fun j v hv => (hB.cell (World.block_lt_of_cell? _ _ (hc j v hv))).trans (hc j v hv)
      have c0 := cc 0 _ rfl
      have c1 := cc 1 _ rfl
      have c2 := cc 2 _ rfl
      have c3 := cc 3 _ rfl
      have c4 := cc 4 _ rfl
      have c5 := cc 5 _ rfl
      have c6 := cc 6 _ rfl
      have c7 := cc 7 _ rfl
      rw [Nat.add_zero] at c0
      have HB := Lib.hid hB
      have HBK := Lib.hid hb
      clear hc cc hp hb hB hcell
      go_wp2_with fail
      obtain ⟨w1, hw1⟩ : ∃ w1 : World, wo.alloc (Obj.cells #[.int .i64 p.what, .int .i64 p.level, .int .i64 p.frm, .int .i64 p.to_, .int .u32 p.sum, .int .i64 p.orig, .int .i64 p.last, .int .i64 p.len] 33) = w1 := ⟨_, rfl⟩
      have hB1 : Below wo.heap.size wo w1 := by rw [← hw1]; exact ka (kr _) _
      rw [hw1]
      refine (h_Line p hpo w1).mono ?_
      rintro e w2 ⟨rfl, hB2⟩
      have hB3 : Below wo.heap.size wo w2 := hB1.trans (hB2.mono hB1.size)
      have hbd := isB_below HBK.out hB3
      have hb3 : Below w.heap.size w w2 := HB.out.trans (hB3.mono HB.out.size)
      clear HBK HB hB1 hB2 hB3 hw1
      have HB := Lib.hid hb3
      have HBK := Lib.hid hbd
      clear hbd hb3 c0 c1 c2 c3 c4 c5 c6 c7
      cases hL : lineB p with
      | none =>
        have hN := textB_none l (p := p) (by rw [← hpe]; exact List.getElem_mem _) hL
        rw [show ansB none = .tuple #[.string ⟨#[]⟩, .int .i64 1] from rfl]
        go_wp2_with fail
        rw [hN]
        go_ret2
        exact ⟨rfl, HB.out⟩
      | some s =>
        rw [show ansB (some s) = .tuple #[.string ⟨(u8L s).toArray⟩, .int .i64 0] from rfl]
        have sl := lineB_len hL
        have ul : (u8L s).length = s.length := by unfold u8L; rw [List.length_map]
        have hT1 : textB (l.take (k + 1)) = some (T ++ (s ++ [10])) := by
          rw [List.take_succ_eq_append_getElem (by omega), textB_snoc, hT, hpe, hL]
        go_wp2_with fail
        refine (h_WriteString _ _ _ _ _ HBK.out (by
          have e1 : (u8L T).length = T.length := by simp [u8L]
          have e2 : (⟨(u8L s).toArray⟩ ++ ⟨#[10]⟩ : ByteArray).size = (u8L s).length + 1 := by rw [ByteArray.size_append]; rfl
          rw [Lib.byteCells_length, e1, e2]
          omega) HB.out.size).mono ?_
        rintro e w3 ⟨rfl, hbd, hB3⟩
        have hn1 : Hid (Lib.IsBuilder 107 5 w.heap.size w.heap.size (Lib.byteCells (u8L (T ++ (s ++ [10])))) w3 ∧ Below w.heap.size w w3) := by
          refine ⟨.inr ?_, HB.out.trans hB3⟩
          have e : Lib.byteCells (u8L T) ++ Lib.strCells (⟨(u8L s).toArray⟩ ++ ⟨#[10]⟩) = Lib.byteCells (u8L (T ++ (s ++ [10]))) := by
            simp [Lib.byteCells, Lib.strCells, u8L]
          rw [e] at hbd
          exact hbd
        clear hbd hB3 HB HBK
        go_wp2_with fail
        exact ⟨⟨k + 1, _, by omega, by go_num, hT1, by simp; omega, hn1⟩, by simp [intOf]; omega⟩
    · obtain rfl : k = n := by omega
      obtain ⟨hb, hB⟩ := hp.out
      rw [List.take_of_length_le (by omega)] at hT
      have HB := Lib.hid hB
      have HBK := Lib.hid hb
      clear hp hb hB
      go_wp2_with fail
      refine (h_String _ _ _ _ HBK.out HB.out.size).mono ?_
      rintro e w3 ⟨rfl, hB3⟩
      have hB4 := Lib.hid (HB.out.trans hB3)
      clear HB HBK hB3
      go_wp2_with fail
      rw [hT]
      go_ret2
      exact ⟨rfl, hB4.out⟩
end Go.Proofs.YtmjolmggelkjlaaGreat
