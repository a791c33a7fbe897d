/- Layer 47: a row of parts as an argument. (theorem st_: none here) -/
import Derived.Test.YtmjolmggelkjlaaGreatCl
import Derived.Test.YtmjolmggelkjlaaGreatEvYi
namespace Go.Proofs.YtmjolmggelkjlaaGreat
set_option linter.unusedVariables false
set_option linter.unusedSimpArgs false
open Go.RowKit Ev Ip
set_option maxRecDepth 20000

def PRow (h : H) (n : Nat) (v : Value) (l : List Pt) : Prop := (∃ a, v = .slice a 0 0 ∧ (∀ b o, a ≠ some ⟨b, o, none⟩) ∧ l = []) ∨ ∃ b, v = .slice (some ⟨b, 0, none⟩) l.length (CAP + l.length) ∧ h.get b = some ⟨33, false, l.flatMap Pt.cells⟩ ∧ b < n
def ptTs : List TypeId := [3, 3, 3, 3, 31, 3, 3, 3]
theorem pt_ts : cellTs Tryz.prog 8 33 = some ptTs := by kernel_rfl
theorem wfu32 {i : Int} (h : (Lit.int .u32 i).wf = true) : 0 ≤ i ∧ i < 4294967296 := by
  have e1 : IntKind.u32.min = 0 := rfl
  have e2 : IntKind.u32.max = 4294967295 := rfl
  simp only [Lit.wf, e1, e2, Bool.and_eq_true, decide_eq_true_eq] at h
  omega
theorem rep_i64 {h : H} {n f : Nat} {v : Value} (x : RepH1 Tryz.prog h n (f + 1) 3 v) : ∃ i, v = .int .i64 i ∧ i64ok i = true := by
  obtain ⟨i, rfl, hw⟩ := rep_int (P := Tryz.prog) (f := f) Tryz.underlying3 x
  have := wf64 hw
  refine ⟨i, rfl, ?_⟩
  unfold i64ok
  rw [decide_eq_true this.1, decide_eq_true this.2]
  rfl
theorem rep_u32 {h : H} {n f : Nat} {v : Value} (x : RepH1 Tryz.prog h n (f + 1) 31 v) : ∃ i, v = .int .u32 i ∧ 0 ≤ i ∧ i < 4294967296 := by
  obtain ⟨i, rfl, hw⟩ := rep_int (P := Tryz.prog) (f := f) Tryz.underlying31 x
  exact ⟨i, rfl, wfu32 hw⟩
theorem chunk_pt {h : H} {n f : Nat} {cs : List Value} (hl : cs.length = 8) (x : All2 (RepH1 Tryz.prog h n (f + 1)) ptTs cs) : ∃ p : Pt, cs = p.cells ∧ p.ok = true := by
  match cs, hl with
  | [c0, c1, c2, c3, c4, c5, c6, c7], _ =>
    obtain ⟨x0, x1, x2, x3, x4, x5, x6, x7, _⟩ := x
    obtain ⟨i0, rfl, k0⟩ := rep_i64 x0
    obtain ⟨i1, rfl, k1⟩ := rep_i64 x1
    obtain ⟨i2, rfl, k2⟩ := rep_i64 x2
    obtain ⟨i3, rfl, k3⟩ := rep_i64 x3
    obtain ⟨i4, rfl, k4⟩ := rep_u32 x4
    obtain ⟨i5, rfl, k5⟩ := rep_i64 x5
    obtain ⟨i6, rfl, k6⟩ := rep_i64 x6
    obtain ⟨i7, rfl, k7⟩ := rep_i64 x7
    refine ⟨⟨i0, i1, i2, i3, i4, i5, i6, i7⟩, rfl, ?_⟩
    unfold Pt.ok
    simp [k0, k1, k2, k3, k4, k5, k6, k7]
theorem chunks_pts {h : H} {n f : Nat} : ∀ (m : Nat) (cs : List Value), cs.length = m * 8 → (∀ i, i < m → All2 (RepH1 Tryz.prog h n (f + 1)) ptTs ((cs.drop (i * 8)).take 8)) → ∃ l : List Pt, l.length = m ∧ cs = l.flatMap Pt.cells ∧ ∀ p ∈ l, p.ok = true
  | 0, cs, hl, _ => ⟨[], rfl, List.length_eq_zero_iff.1 (by omega), fun p hp => by cases hp⟩
  | m + 1, cs, hl, hx => by
    have x0 := hx 0 (Nat.zero_lt_succ _)
    rw [Nat.zero_mul, List.drop_zero] at x0
    obtain ⟨p, e, ho⟩ := chunk_pt (by rw [List.length_take]; omega) x0
    obtain ⟨l, h1, h2, h3⟩ := chunks_pts m (cs.drop 8) (by rw [List.length_drop]; omega) fun i hi => by
      have := hx (i + 1) (by omega)
      rw [List.drop_drop]
      rw [show 8 + i * 8 = (i + 1) * 8 by omega]
      exact this
    refine ⟨p :: l, by rw [List.length_cons, h1], ?_, fun q hq => ?_⟩
    · rw [List.flatMap_cons, ← e, ← h2, List.take_append_drop]
    · rcases List.mem_cons.1 hq with rfl | hq
      · exact ho
      · exact h3 q hq
theorem rep_pts {h : H} {n : Nat} {v : Value} (x : ArgH Tryz.prog h n 23 v) : ∃ l, PRow h n v l ∧ l.length ≤ maxLen ∧ ∀ p ∈ l, p.ok = true := by
  have ct : cellTs Tryz.prog 8 23 = some [23] := by kernel_rfl
  have na : isAggT Tryz.prog 23 = false := by kernel_rfl
  obtain ⟨ts, hts, q⟩ := x
  rw [ct] at hts
  cases hts
  rcases q with ⟨q, _⟩ | ⟨_, q⟩
  · rw [na] at q; cases q
  · have q1 := q.1
    unfold RepH1 at q1
    rw [Tryz.underlying23] at q1
    rcases q1 with ⟨a, rfl, hne⟩ | ⟨b, len, ts, cs, rfl, ht, h0, hg, hb, hl, hm, hall⟩
    · exact ⟨[], .inl ⟨a, rfl, hne, rfl⟩, Nat.zero_le _, fun p hp => by cases hp⟩
    · rw [pt_ts] at ht
      cases ht
      obtain ⟨l, rfl, rfl, h3⟩ := chunks_pts len cs hl hall
      exact ⟨l, .inr ⟨b, rfl, hg, hb⟩, hm, h3⟩
theorem PRow.keep {h h' : H} {n n' : Nat} {v : Value} {l : List Pt} (x : PRow h n v l) (hn : n ≤ n') (hk : ∀ b, b < n → h'.get b = h.get b) : PRow h' n' v l := by
  rcases x with q | ⟨b, e, g, hb⟩
  · exact .inl q
  · exact .inr ⟨b, e, (hk b hb).trans g, by omega⟩
theorem PRow.len {h : H} {n : Nat} {v : Value} {l : List Pt} (x : PRow h n v l) : ∃ a c, v = .slice a l.length c := by
  rcases x with ⟨a, rfl, _, rfl⟩ | ⟨b, rfl, _⟩
  · exact ⟨_, _, rfl⟩
  · exact ⟨_, _, rfl⟩
theorem ptsF_sub : ∀ (l : List Pt) (i : Nat) (p : Pt), l[i]? = some p → ((l.flatMap Pt.cells).drop (i * 8)).take 8 = p.cells
  | [], _, _, h => by cases h
  | q :: l, 0, p, h => by
    cases h
    rw [List.flatMap_cons, Nat.zero_mul, List.drop_zero]
    exact List.take_left' rfl
  | q :: l, i + 1, p, h => by
    have := ptsF_sub l i p h
    rw [List.flatMap_cons, show (i + 1) * 8 = 8 + i * 8 by omega, ← List.drop_drop, show List.drop 8 (q.cells ++ l.flatMap Pt.cells) = l.flatMap Pt.cells from rfl]
    exact this
section
variable {β : Type} {W : Nat → Prop} {n0 : Nat} {h : H} {n : Nat} {Q : β → H → Nat → Prop} {v : Value} {l : List Pt}
/-- a part of a row, taken into a variable of its own -/
theorem run_part (x : PRow h n v l) {i : Nat} {p : Pt} (hp : l[i]? = some p) (hn0 : n0 ≤ n) (k : Value → M β)
    (y : ∀ h', h'.get n = some ⟨33, true, p.cells⟩ → (∀ c, c < n → h'.get c = h.get c) → Run W n0 (k (.pointer (some ⟨n, 0, none⟩))) h' (n + 1) Q) :
    Run W n0 (kiy 8 v (.int .i64 (i : Int)) fun j => klg 8 j fun q => kal 33 z33 fun m => ksg 8 m q fun _ => k m) h n Q := by
  have hi : i < l.length := (List.getElem?_eq_some_iff.1 hp).1
  rcases x with ⟨a, rfl, _, rfl⟩ | ⟨b, rfl, hg, hb⟩
  · cases hp
  · rw [s_iy _ 8 b 0 l.length (CAP + l.length) .i64 (i : Int) (by omega) (by omega)]
    have e0 : 0 + (i : Int).toNat * 8 = i * 8 := by rw [Int.toNat_natCast]; omega
    rw [e0]
    have hl := ptsF_len l
    refine run_lda0 trivial trivial b (i * 8) _ hg hb (show i * 8 + 8 ≤ (l.flatMap Pt.cells).length by omega) ?_
    refine run_alloc rfl _ ?_
    have e1 : ((l.flatMap Pt.cells).drop (i * 8)).take 8 = p.cells := ptsF_sub l i p hp
    show Run W n0 (ksg 8 (.pointer (some ⟨n, 0, none⟩)) (.agg (((l.flatMap Pt.cells).drop (i * 8)).take 8).toArray) _) _ _ Q
    rw [e1]
    refine run_sta (sz := 8) (off := 0) (e := 33) (cs := z33) trivial (vs := p.cells) rfl rfl rfl (get_eq _ _ _) (by omega) (by decide) (.inl hn0) _ fun h' g' k' => ?_
    exact y h' g' fun c hc => by rw [k' c (by omega), get_ne _ _ (by omega)]
theorem run_pfield (x : PRow h n v l) {i : Nat} {p : Pt} (hp : l[i]? = some p) {o : Nat} {u : Value} (ho : p.cells[o]? = some u) (k : Value → M β) (y : Run W n0 (k u) h n Q) :
    Run W n0 (kiy 8 v (.int .i64 (i : Int)) fun j => kfa o j fun q => kld q k) h n Q := by
  have hi : i < l.length := (List.getElem?_eq_some_iff.1 hp).1
  rcases x with ⟨a, rfl, _, rfl⟩ | ⟨b, rfl, hg, hb⟩
  · cases hp
  · rw [s_iy _ 8 b 0 l.length (CAP + l.length) .i64 (i : Int) (by omega) (by omega)]
    have e0 : 0 + (i : Int).toNat * 8 = i * 8 := by rw [Int.toNat_natCast]; omega
    rw [e0]
    exact run_ld0 trivial b (i * 8 + o) _ hg hb (ptsF_at l i o p u hp ho) y
end
end Go.Proofs.YtmjolmggelkjlaaGreat
