/- Layer 47: the reference's line. -/
import Derived.Test.YtmjolmggelkjlaaGreatIL
namespace Go.Proofs.YtmjolmggelkjlaaGreat
set_option linter.unusedVariables false
set_option linter.unusedSimpArgs false
open Go.RowKit Ev Ip

section
variable {lf d : Nat}
theorem s_Line (n : Nat) (h : H) (p : Pt) (hp : p.ok = true) (hlf : 100 ≤ lf) : Run (fun _ => False) n (evCall2 Tryz.prog gt lf (d + 21) 19 #[.agg p.cells.toArray]) h n fun v' _ _ => v' = ansB (lineB p) :=
  n_Line (kn := Ev.KN) ⟨rfl, rfl, rfl, rfl⟩ lf d n h p hp hlf
theorem s_ref (n : Nat) (h : H) (p : Pt) : Run (fun _ => False) n (evCall2 Tryz.prog gt lf (d + 1) 17 #[.agg p.cells.toArray]) h n fun v' _ _ => v' = .agg p.cells.toArray := by
  rw [shOf (fun _ => st_balerlaw47_ref) rfl]
  refine Run.inside_ ?_
  unfold b_balerlaw47_ref
  refine run_box trivial _ _ ?_
  refine run_alloc rfl _ ?_
  have g2 : (((h.set n (some ⟨33, true, (Value.agg p.cells.toArray).cells.toList⟩)).set (n + 1) (some ⟨34, true, z34⟩)) : H).get n = some ⟨33, true, [.int .i64 p.what, .int .i64 p.level, .int .i64 p.frm, .int .i64 p.to_, .int .u32 p.sum, .int .i64 p.orig, .int .i64 p.last, .int .i64 p.len]⟩ := by
    rw [get_ne _ _ (by omega), get_eq]; rfl
  have g3 : (((h.set n (some ⟨33, true, (Value.agg p.cells.toArray).cells.toList⟩)).set (n + 1) (some ⟨34, true, z34⟩)) : H).get (n + 1) = some ⟨34, true, z34⟩ := get_eq _ _ _
  generalize (((h.set n (some ⟨33, true, (Value.agg p.cells.toArray).cells.toList⟩)).set (n + 1) (some ⟨34, true, z34⟩)) : H) = h2 at g2 g3 ⊢
  have l1 : n < n + 1 + 1 := by omega
  have l2 : n + 1 < n + 1 + 1 := by omega
  try simp (disch := first | omega | assumption | exact Int.natCast_nonneg _) only [RXA, RXB, Nat.reduceAdd, Nat.reduceLT, wrap_id, wrap_succ, wrap_pred, zr33, zr34, zr43, zr51, zr60, zr67, zr73, zr85, zr87, zr98, zr107, zr120, zr126, zr132, zr134, zr139, zr142, zr144, zr150, zr152, zr157, zr159, zr168, zr171, zr185, zr188, zr207, zr212, zr224, zr228, zr233, zr235, zr243, zr252, zr255, zr269, zr280, zr282, zr299, zr317, zr328, zr333, g2]
  refine run_sta (sz := 8) (off := 0) (e := 34) (cs := z34) trivial (vs := p.cells) rfl rfl rfl g3 l2 (by decide) (.inl (by omega)) _ fun h3 g4 k4 => ?_
  refine run_lda0 trivial trivial (n + 1) 0 _ g4 l2 (by show 0 + 8 ≤ 8; omega) ?_
  rw [run_out1]
  rfl
theorem rsm_loop {W : Nat → Prop} {n0 n : Nat} {h : H} {Q : Value → H → Nat → Prop} {K1 K2 : Value → M Value} {a b c v : Value} {ys : List Int} (hR : Row h n 3 .i64 v ys) (hl : ys.length ≤ 10) (R : RT) : ∀ (m i fu : Nat), i + m = ys.length → m < fu → ((∃ x ∈ ys.drop i, x < 0) → Run W n0 (K2 (stB [])) h n Q) → ((∀ x ∈ ys.drop i, 0 ≤ x) → Run W n0 (K1 b) h n Q) →
    Run W n0 (lpA_balerref47_Line lf ((R)) fu (K1, K2) a b c v (.int .i64 (ys.length : Int)) (.int .i64 (i : Int))) h n Q := by
  intro m
  induction m with
  | zero =>
    intro i fu hi hf x1 x2
    obtain ⟨fu, rfl⟩ : ∃ f, fu = f + 1 := ⟨fu - 1, by omega⟩
    obtain rfl : i = ys.length := by omega
    rw [lpA_balerref47_Line]
    try simp (disch := first | omega | assumption | exact Int.natCast_nonneg _) only [RXA, RXB, Nat.reduceAdd, Nat.reduceLT, wrap_id, wrap_succ, wrap_pred, zr33, zr34, zr43, zr51, zr60, zr67, zr73, zr85, zr87, zr98, zr107, zr120, zr126, zr132, zr134, zr139, zr142, zr144, zr150, zr152, zr157, zr159, zr168, zr171, zr185, zr188, zr207, zr212, zr224, zr228, zr233, zr235, zr243, zr252, zr255, zr269, zr280, zr282, zr299, zr317, zr328, zr333, Int.lt_irrefl]
    exact x2 fun x hx => by simp at hx
  | succ m ih =>
    intro i fu hi hf x1 x2
    obtain ⟨fu, rfl⟩ : ∃ f, fu = f + 1 := ⟨fu - 1, by omega⟩
    have hlt : i < ys.length := by omega
    have e1 : ((i : Nat) : Int) < ((ys.length : Nat) : Int) := by omega
    have w1 : ((i : Nat) : Int) + 1 = ((i + 1 : Nat) : Int) := rfl
    have hd : ys.drop i = ys[i] :: ys.drop (i + 1) := List.drop_eq_getElem_cons hlt
    have hL := hR.len
    obtain ⟨bb, off, cap, o, ks, rfl, hg, hbn, _, _, _, hat⟩ := hR.some (by omega)
    have a1 := hat i hlt
    have e0 : ys.getD i 0 = ys[i] := by rw [List.getD_eq_getElem?_getD, List.getElem?_eq_getElem hlt]; rfl
    rw [e0] at a1
    rw [lpA_balerref47_Line]
    by_cases c1 : ys[i] < 0
    · try simp (disch := first | omega | assumption | exact Int.natCast_nonneg _) only [RXA, RXB, Nat.reduceAdd, Nat.reduceLT, wrap_id, wrap_succ, wrap_pred, zr33, zr34, zr43, zr51, zr60, zr67, zr73, zr85, zr87, zr98, zr107, zr120, zr126, zr132, zr134, zr139, zr142, zr144, zr150, zr152, zr157, zr159, zr168, zr171, zr185, zr188, zr207, zr212, zr224, zr228, zr233, zr235, zr243, zr252, zr255, zr269, zr280, zr282, zr299, zr317, zr328, zr333, e1, hg, a1, c1]
      exact x1 ⟨_, by rw [hd]; exact List.mem_cons_self, c1⟩
    · try simp (disch := first | omega | assumption | exact Int.natCast_nonneg _) only [RXA, RXB, Nat.reduceAdd, Nat.reduceLT, wrap_id, wrap_succ, wrap_pred, zr33, zr34, zr43, zr51, zr60, zr67, zr73, zr85, zr87, zr98, zr107, zr120, zr126, zr132, zr134, zr139, zr142, zr144, zr150, zr152, zr157, zr159, zr168, zr171, zr185, zr188, zr207, zr212, zr224, zr228, zr233, zr235, zr243, zr252, zr255, zr269, zr280, zr282, zr299, zr317, zr328, zr333, e1, hg, a1, c1]
      rw [w1]
      refine ih (i + 1) fu (by omega) (by omega) (fun q => x1 ?_) fun q => x2 fun x hx => ?_
      · obtain ⟨x, hx, q⟩ := q
        exact ⟨x, by rw [hd]; exact List.mem_cons_of_mem _ hx, q⟩
      · rw [hd] at hx
        rcases List.mem_cons.1 hx with rfl | hx
        · omega
        · exact q x hx
theorem small_iff (p : Pt) : (∃ x ∈ [p.level, p.frm, p.to_, p.orig, p.last, p.len], x < 0) ↔ p.small = true := by
  unfold Pt.small
  simp
  constructor <;> (intro h; omega)
set_option maxHeartbeats 1000000 in
theorem r_Line (n : Nat) (h : H) (p : Pt) (hp : p.ok = true) (hlf : 100 ≤ lf) : Run (fun _ => False) n (evCall2 Tryz.prog gt lf (d + 3) 20 #[.agg p.cells.toArray]) h n fun v' _ _ => v' = stB ((lineB p).getD []) := by
  rw [shOf (fun _ => st_balerref47_Line) rfl]
  refine Run.inside_ ?_
  unfold b_balerref47_Line
  refine run_box trivial _ _ ?_
  obtain ⟨h2, hh2⟩ : ∃ h2, h.set n (some ⟨34, true, (Value.agg p.cells.toArray).cells.toList⟩) = h2 := ⟨_, rfl⟩
  have g2 : h2.get n = some ⟨34, true, [.int .i64 p.what, .int .i64 p.level, .int .i64 p.frm, .int .i64 p.to_, .int .u32 p.sum, .int .i64 p.orig, .int .i64 p.last, .int .i64 p.len]⟩ := by rw [← hh2, get_eq]; rfl
  rw [hh2]
  have lt0 : n < n + 1 := by omega
  try simp (disch := first | omega | assumption | exact Int.natCast_nonneg _) only [RXA, RXB, Nat.reduceAdd, Nat.reduceLT, wrap_id, wrap_succ, wrap_pred, zr33, zr34, zr43, zr51, zr60, zr67, zr73, zr85, zr87, zr98, zr107, zr120, zr126, zr132, zr134, zr139, zr142, zr144, zr150, zr152, zr157, zr159, zr168, zr171, zr185, zr188, zr207, zr212, zr224, zr228, zr233, zr235, zr243, zr252, zr255, zr269, zr280, zr282, zr299, zr317, zr328, zr333, g2]
  refine run_lits (cs := intsV .i64 [p.level, p.frm, p.to_, p.orig, p.last, p.len]) rfl _ ?_
  have hR := fresh_row (h := h2) (n := n + 1) [p.level, p.frm, p.to_, p.orig, p.last, p.len] rfl (by simp : 0 < 6)
  have g3 : (h2.set (n + 1) (some ⟨3, true, intsV .i64 [p.level, p.frm, p.to_, p.orig, p.last, p.len]⟩)).get n = some ⟨34, true, [.int .i64 p.what, .int .i64 p.level, .int .i64 p.frm, .int .i64 p.to_, .int .u32 p.sum, .int .i64 p.orig, .int .i64 p.last, .int .i64 p.len]⟩ := by rw [get_ne _ _ (by omega)]; exact g2
  generalize (h2.set (n + 1) (some ⟨3, true, intsV .i64 [p.level, p.frm, p.to_, p.orig, p.last, p.len]⟩)) = h3 at hR g3 ⊢
  clear g2 hh2
  have g2 := g3
  have lt1 : n < n + 1 + 1 := by omega
  try simp (disch := first | omega | assumption | exact Int.natCast_nonneg _) only [RXA, RXB, Nat.reduceAdd, Nat.reduceLT, wrap_id, wrap_succ, wrap_pred, zr33, zr34, zr43, zr51, zr60, zr67, zr73, zr85, zr87, zr98, zr107, zr120, zr126, zr132, zr134, zr139, zr142, zr144, zr150, zr152, zr157, zr159, zr168, zr171, zr185, zr188, zr207, zr212, zr224, zr228, zr233, zr235, zr243, zr252, zr255, zr269, zr280, zr282, zr299, zr317, zr328, zr333]
  unfold kcA_balerref47_Line
  refine rsm_loop hR (by simp) _ 6 0 lf rfl (by omega) (fun q => ?_) fun q => ?_
  · have hs := (small_iff p).1 q
    have e0 : lineB p = none := by unfold lineB; rw [if_pos hs]
    rw [e0, run_out1]
    rfl
  have hs : ¬ p.small = true := fun q2 => by
    obtain ⟨x, hx, h0⟩ := (small_iff p).2 q2
    have := q x hx
    omega
  obtain ⟨b1, b2, b3, b4, b5, b6⟩ := pt_ok hp hs
  by_cases w1 : p.what = 1
  · have z1 : (p.what == 1) = true := by rw [w1]; rfl
    have e0 : lineB p = some (wordsB beginB [p.level, p.frm, p.to_]) := by unfold lineB; rw [if_neg hs, if_pos w1]
    try simp (disch := first | omega | assumption | exact Int.natCast_nonneg _) only [RXA, RXB, Nat.reduceAdd, Nat.reduceLT, wrap_id, wrap_succ, wrap_pred, zr33, zr34, zr43, zr51, zr60, zr67, zr73, zr85, zr87, zr98, zr107, zr120, zr126, zr132, zr134, zr139, zr142, zr144, zr150, zr152, zr157, zr159, zr168, zr171, zr185, zr188, zr207, zr212, zr224, zr228, zr233, zr235, zr243, zr252, zr255, zr269, zr280, zr282, zr299, zr317, zr328, zr333, g2, z1]
    refine run_lits (cs := intsV .i64 [p.level, p.frm, p.to_]) rfl _ ?_
    refine run_call okd (s_RWords (lf := lf) (d := d) (n + 1 + 1 + 1) _ beginB _ _ (fresh_row [p.level, p.frm, p.to_] rfl (by simp)) (by intro x hx; simp at hx; omega) (by simp) (by decide) hlf) (by omega) (fun _ _ h => h.elim) ?_
    rintro v1 h1 n1 hn1 fr rfl
    try simp (disch := first | omega | assumption | exact Int.natCast_nonneg _) only [RXA, RXB, Nat.reduceAdd, Nat.reduceLT, wrap_id, wrap_succ, wrap_pred, zr33, zr34, zr43, zr51, zr60, zr67, zr73, zr85, zr87, zr98, zr107, zr120, zr126, zr132, zr134, zr139, zr142, zr144, zr150, zr152, zr157, zr159, zr168, zr171, zr185, zr188, zr207, zr212, zr224, zr228, zr233, zr235, zr243, zr252, zr255, zr269, zr280, zr282, zr299, zr317, zr328, zr333]
    rw [e0]
    rfl
  have n1 : (p.what == 1) = false := beq_eq_false_iff_ne.2 w1
  have sm : 0 ≤ p.sum ∧ p.sum < 4294967296 := by
    unfold Pt.ok at hp
    simp only [Bool.and_eq_true, decide_eq_true_eq] at hp
    omega
  obtain ⟨sv, hsv⟩ : ∃ sv : Nat, p.sum = sv := ⟨p.sum.toNat, by omega⟩
  have hl8 : (hexB p.sum.toNat).length = 8 := by unfold hexB; simp
  have e8 : p.sum.toNat = sv := by rw [hsv]; rfl
  rw [e8] at hl8
  rw [hsv] at g2
  by_cases w2 : p.what = 2
  · have z2 : (p.what == 2) = true := by rw [w2]; rfl
    have e0 : lineB p = some (wordsB (blockB ++ hexB sv) [p.orig, p.last, p.len, p.frm, p.to_]) := by unfold lineB; rw [if_neg hs, if_neg w1, if_pos w2, e8]
    have ad := fun K => stB_add blockB (hexB sv) (by rw [hl8]; decide) K
    try simp (disch := first | omega | assumption | exact Int.natCast_nonneg _) only [RXA, RXB, Nat.reduceAdd, Nat.reduceLT, wrap_id, wrap_succ, wrap_pred, zr33, zr34, zr43, zr51, zr60, zr67, zr73, zr85, zr87, zr98, zr107, zr120, zr126, zr132, zr134, zr139, zr142, zr144, zr150, zr152, zr157, zr159, zr168, zr171, zr185, zr188, zr207, zr212, zr224, zr228, zr233, zr235, zr243, zr252, zr255, zr269, zr280, zr282, zr299, zr317, zr328, zr333, g2, n1, z2]
    refine timed_ldB trivial _ _ _ g2 lt1 (Nat.le_refl _) rfl fun T0 t0 => ?_
    refine timed_callN okd (s_RHex (lf := lf) (d := d + 1) _ _ (x := sv) (by omega) hlf) ?_
    rintro v1 h1 n1' L1 hn1 fr ⟨rfl, rfl, rfl⟩ r1
    show Run (fun _ => False) n (kad (stB blockB) (stB (hexB sv)) _) _ _ _
    rw [ad]
    try simp (disch := first | omega | assumption | exact Int.natCast_nonneg _) only [RXA, RXB, Nat.reduceAdd, Nat.reduceLT, wrap_id, wrap_succ, wrap_pred, zr33, zr34, zr43, zr51, zr60, zr67, zr73, zr85, zr87, zr98, zr107, zr120, zr126, zr132, zr134, zr139, zr142, zr144, zr150, zr152, zr157, zr159, zr168, zr171, zr185, zr188, zr207, zr212, zr224, zr228, zr233, zr235, zr243, zr252, zr255, zr269, zr280, zr282, zr299, zr317, zr328, zr333]
    refine timed_ldB trivial _ _ _ g2 lt1 hn1 rfl fun T1 t1 => ?_
    try simp (disch := first | omega | assumption | exact Int.natCast_nonneg _) only [RXA, RXB, Nat.reduceAdd, Nat.reduceLT, wrap_id, wrap_succ, wrap_pred, zr33, zr34, zr43, zr51, zr60, zr67, zr73, zr85, zr87, zr98, zr107, zr120, zr126, zr132, zr134, zr139, zr142, zr144, zr150, zr152, zr157, zr159, zr168, zr171, zr185, zr188, zr207, zr212, zr224, zr228, zr233, zr235, zr243, zr252, zr255, zr269, zr280, zr282, zr299, zr317, zr328, zr333]
    refine timed_ldB trivial _ _ _ g2 lt1 hn1 rfl fun T2 t2 => ?_
    try simp (disch := first | omega | assumption | exact Int.natCast_nonneg _) only [RXA, RXB, Nat.reduceAdd, Nat.reduceLT, wrap_id, wrap_succ, wrap_pred, zr33, zr34, zr43, zr51, zr60, zr67, zr73, zr85, zr87, zr98, zr107, zr120, zr126, zr132, zr134, zr139, zr142, zr144, zr150, zr152, zr157, zr159, zr168, zr171, zr185, zr188, zr207, zr212, zr224, zr228, zr233, zr235, zr243, zr252, zr255, zr269, zr280, zr282, zr299, zr317, zr328, zr333]
    refine timed_ldB trivial _ _ _ g2 lt1 hn1 rfl fun T3 t3 => ?_
    try simp (disch := first | omega | assumption | exact Int.natCast_nonneg _) only [RXA, RXB, Nat.reduceAdd, Nat.reduceLT, wrap_id, wrap_succ, wrap_pred, zr33, zr34, zr43, zr51, zr60, zr67, zr73, zr85, zr87, zr98, zr107, zr120, zr126, zr132, zr134, zr139, zr142, zr144, zr150, zr152, zr157, zr159, zr168, zr171, zr185, zr188, zr207, zr212, zr224, zr228, zr233, zr235, zr243, zr252, zr255, zr269, zr280, zr282, zr299, zr317, zr328, zr333]
    refine timed_ldB trivial _ _ _ g2 lt1 hn1 rfl fun T4 t4 => ?_
    try simp (disch := first | omega | assumption | exact Int.natCast_nonneg _) only [RXA, RXB, Nat.reduceAdd, Nat.reduceLT, wrap_id, wrap_succ, wrap_pred, zr33, zr34, zr43, zr51, zr60, zr67, zr73, zr85, zr87, zr98, zr107, zr120, zr126, zr132, zr134, zr139, zr142, zr144, zr150, zr152, zr157, zr159, zr168, zr171, zr185, zr188, zr207, zr212, zr224, zr228, zr233, zr235, zr243, zr252, zr255, zr269, zr280, zr282, zr299, zr317, zr328, zr333]
    refine timed_ldB trivial _ _ _ g2 lt1 hn1 rfl fun T5 t5 => ?_
    try simp (disch := first | omega | assumption | exact Int.natCast_nonneg _) only [RXA, RXB, Nat.reduceAdd, Nat.reduceLT, wrap_id, wrap_succ, wrap_pred, zr33, zr34, zr43, zr51, zr60, zr67, zr73, zr85, zr87, zr98, zr107, zr120, zr126, zr132, zr134, zr139, zr142, zr144, zr150, zr152, zr157, zr159, zr168, zr171, zr185, zr188, zr207, zr212, zr224, zr228, zr233, zr235, zr243, zr252, zr255, zr269, zr280, zr282, zr299, zr317, zr328, zr333]
    refine timed_lits (cs := intsV .i64 [p.orig, p.last, p.len, p.frm, p.to_]) rfl hn1 _ fun T6 t6 => ?_
    refine timed_callN okd (s_RWords (lf := lf) (d := d) _ _ (blockB ++ hexB sv) _ _ (fresh_row [p.orig, p.last, p.len, p.frm, p.to_] rfl (by simp)) (by intro x hx; simp at hx; omega) (by simp) (by rw [List.length_append, hl8]; decide) hlf) ?_
    rintro v2 h3 n3 L2 hn3 fr3 rfl r2
    try simp (disch := first | omega | assumption | exact Int.natCast_nonneg _) only [RXA, RXB, Nat.reduceAdd, Nat.reduceLT, wrap_id, wrap_succ, wrap_pred, zr33, zr34, zr43, zr51, zr60, zr67, zr73, zr85, zr87, zr98, zr107, zr120, zr126, zr132, zr134, zr139, zr142, zr144, zr150, zr152, zr157, zr159, zr168, zr171, zr185, zr188, zr207, zr212, zr224, zr228, zr233, zr235, zr243, zr252, zr255, zr269, zr280, zr282, zr299, zr317, zr328, zr333, r1.clash t1, r1.clash t2, r1.clash t3, r1.clash t4, r1.clash t5, r1.clash t6, Bool.not_false, Bool.and_self, chk_true]
    rw [e0]
    rfl
  have n2 : (p.what == 2) = false := beq_eq_false_iff_ne.2 w2
  by_cases w3 : p.what = 3
  · have z3 : (p.what == 3) = true := by rw [w3]; rfl
    have e0 : lineB p = some (wordsB (endB ++ hexB sv) [p.frm, p.to_]) := by unfold lineB; rw [if_neg hs, if_neg w1, if_neg w2, if_pos w3, e8]
    have ad := fun K => stB_add endB (hexB sv) (by rw [hl8]; decide) K
    try simp (disch := first | omega | assumption | exact Int.natCast_nonneg _) only [RXA, RXB, Nat.reduceAdd, Nat.reduceLT, wrap_id, wrap_succ, wrap_pred, zr33, zr34, zr43, zr51, zr60, zr67, zr73, zr85, zr87, zr98, zr107, zr120, zr126, zr132, zr134, zr139, zr142, zr144, zr150, zr152, zr157, zr159, zr168, zr171, zr185, zr188, zr207, zr212, zr224, zr228, zr233, zr235, zr243, zr252, zr255, zr269, zr280, zr282, zr299, zr317, zr328, zr333, g2, n1, n2, z3]
    refine timed_ldB trivial _ _ _ g2 lt1 (Nat.le_refl _) rfl fun T0 t0 => ?_
    refine timed_callN okd (s_RHex (lf := lf) (d := d + 1) _ _ (x := sv) (by omega) hlf) ?_
    rintro v1 h1 n1' L1 hn1 fr ⟨rfl, rfl, rfl⟩ r1
    show Run (fun _ => False) n (kad (stB endB) (stB (hexB sv)) _) _ _ _
    rw [ad]
    try simp (disch := first | omega | assumption | exact Int.natCast_nonneg _) only [RXA, RXB, Nat.reduceAdd, Nat.reduceLT, wrap_id, wrap_succ, wrap_pred, zr33, zr34, zr43, zr51, zr60, zr67, zr73, zr85, zr87, zr98, zr107, zr120, zr126, zr132, zr134, zr139, zr142, zr144, zr150, zr152, zr157, zr159, zr168, zr171, zr185, zr188, zr207, zr212, zr224, zr228, zr233, zr235, zr243, zr252, zr255, zr269, zr280, zr282, zr299, zr317, zr328, zr333]
    refine timed_ldB trivial _ _ _ g2 lt1 hn1 rfl fun T1 t1 => ?_
    try simp (disch := first | omega | assumption | exact Int.natCast_nonneg _) only [RXA, RXB, Nat.reduceAdd, Nat.reduceLT, wrap_id, wrap_succ, wrap_pred, zr33, zr34, zr43, zr51, zr60, zr67, zr73, zr85, zr87, zr98, zr107, zr120, zr126, zr132, zr134, zr139, zr142, zr144, zr150, zr152, zr157, zr159, zr168, zr171, zr185, zr188, zr207, zr212, zr224, zr228, zr233, zr235, zr243, zr252, zr255, zr269, zr280, zr282, zr299, zr317, zr328, zr333]
    refine timed_ldB trivial _ _ _ g2 lt1 hn1 rfl fun T2 t2 => ?_
    try simp (disch := first | omega | assumption | exact Int.natCast_nonneg _) only [RXA, RXB, Nat.reduceAdd, Nat.reduceLT, wrap_id, wrap_succ, wrap_pred, zr33, zr34, zr43, zr51, zr60, zr67, zr73, zr85, zr87, zr98, zr107, zr120, zr126, zr132, zr134, zr139, zr142, zr144, zr150, zr152, zr157, zr159, zr168, zr171, zr185, zr188, zr207, zr212, zr224, zr228, zr233, zr235, zr243, zr252, zr255, zr269, zr280, zr282, zr299, zr317, zr328, zr333]
    refine timed_lits (cs := intsV .i64 [p.frm, p.to_]) rfl hn1 _ fun T6 t6 => ?_
    refine timed_callN okd (s_RWords (lf := lf) (d := d) _ _ (endB ++ hexB sv) _ _ (fresh_row [p.frm, p.to_] rfl (by simp)) (by intro x hx; simp at hx; omega) (by simp) (by rw [List.length_append, hl8]; decide) hlf) ?_
    rintro v2 h3 n3 L2 hn3 fr3 rfl r2
    try simp (disch := first | omega | assumption | exact Int.natCast_nonneg _) only [RXA, RXB, Nat.reduceAdd, Nat.reduceLT, wrap_id, wrap_succ, wrap_pred, zr33, zr34, zr43, zr51, zr60, zr67, zr73, zr85, zr87, zr98, zr107, zr120, zr126, zr132, zr134, zr139, zr142, zr144, zr150, zr152, zr157, zr159, zr168, zr171, zr185, zr188, zr207, zr212, zr224, zr228, zr233, zr235, zr243, zr252, zr255, zr269, zr280, zr282, zr299, zr317, zr328, zr333, r1.clash t1, r1.clash t2, r1.clash t6, Bool.not_false, Bool.and_self, chk_true]
    rw [e0]
    rfl
  have n3 : (p.what == 3) = false := beq_eq_false_iff_ne.2 w3
  have e0 : lineB p = none := by unfold lineB; rw [if_neg hs, if_neg w1, if_neg w2, if_neg w3]
  try simp (disch := first | omega | assumption | exact Int.natCast_nonneg _) only [RXA, RXB, Nat.reduceAdd, Nat.reduceLT, wrap_id, wrap_succ, wrap_pred, zr33, zr34, zr43, zr51, zr60, zr67, zr73, zr85, zr87, zr98, zr107, zr120, zr126, zr132, zr134, zr139, zr142, zr144, zr150, zr152, zr157, zr159, zr168, zr171, zr185, zr188, zr207, zr212, zr224, zr228, zr233, zr235, zr243, zr252, zr255, zr269, zr280, zr282, zr299, zr317, zr328, zr333, g2, n1, n2, n3]
  rw [e0]
  rfl
end
end Go.Proofs.YtmjolmggelkjlaaGreat
