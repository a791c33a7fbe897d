/- Layer 47: the reference's line. -/
import Derived.Test.YtmjolmggelkjlaaGreatMah
namespace Go.Proofs.YtmjolmggelkjlaaGreat
set_option linter.unusedVariables false
set_option linter.unusedSimpArgs false
open Go.RowKit Ev Ip

section
variable {lf d : Nat}
theorem s_Line (n : Nat) (h : H) (p : Pt) (hp : p.ok = true) (hlf : 100 ≤ lf) : Run (fun _ => False) n (evCall2 Tryz.prog gt lf (d + 21) 19 #[.agg p.cells.toArray]) h n fun v' _ _ => v' = ansB (lineB p) :=
  n_Line (kn := Ev.KN) ⟨rfl, rfl, rfl, rfl⟩ lf d n h p hp hlf
theorem s_ref (n : Nat) (h : H) (p : Pt) : Run (fun _ => False) n (evCall2 Tryz.prog gt lf (d + 1) 17 #[.agg p.cells.toArray]) h n fun v' _ _ => v' = .agg p.cells.toArray := by
  rw [shOf (fun _ => st_balerlaw47_ref) rfl]
  refine Run.inside_ ?_
  unfold b_balerlaw47_ref
  refine run_box trivial _ _ ?_
  refine run_alloc rfl _ ?_
  have g2 : (((h.set n (some ⟨33, true, (Value.agg p.cells.toArray).cells.toList⟩)).set (n + 1) (some ⟨34, true, z34⟩)) : H).get n = some ⟨33, true, [.int .i64 p.what, .int .i64 p.level, .int .i64 p.frm, .int .i64 p.to_, .int .u32 p.sum, .int .i64 p.orig, .int .i64 p.last, .int .i64 p.len]⟩ := by
    rw [get_ne _ _ (by omega), get_eq]; rfl
  have g3 : (((h.set n (some ⟨33, true, (Value.agg p.cells.toArray).cells.toList⟩)).set (n + 1) (some ⟨34, true, z34⟩)) : H).get (n + 1) = some ⟨34, true, z34⟩ := get_eq _ _ _
  generalize (((h.set n (some ⟨33, true, (Value.agg p.cells.toArray).cells.toList⟩)).set (n + 1) (some ⟨34, true, z34⟩)) : H) = h2 at g2 g3 ⊢
  have l1 : n < n + 1 + 1 := by omega
  have l2 : n + 1 < n + 1 + 1 := by omega
  try simp (disch := first | omega | assumption | exact Int.natCast_nonneg _) only [RXA, RXB, Nat.reduceAdd, Nat.reduceLT, wrap_id, wrap_succ, wrap_pred, zr33, zr34, zr43, zr51, zr60, zr67, zr73, zr85, zr87, zr98, zr107, zr120, zr126, zr132, zr134, zr139, zr142, zr144, zr150, zr152, zr157, zr159, zr168, zr171, zr185, zr188, zr207, zr212, zr224, zr228, zr233, zr235, zr243, zr252, zr255, zr269, zr280, zr282, zr299, zr317, zr328, zr333, g2]
  refine run_sta (sz := 8) (off := 0) (e := 34) (cs := z34) trivial (vs := p.cells) rfl rfl rfl g3 l2 (by decide) (.inl (by omega)) _ fun h3 g4 k4 => ?_
  refine run_lda0 trivial trivial (n + 1) 0 _ g4 l2 (by show 0 + 8 ≤ 8; omega) ?_
  rw [run_out1]
  rfl
theorem rsm_loop {W : Nat → Prop} {n0 n : Nat} {h : H} {Q : Value → H → Nat → Prop} {K1 K2 : Value → M Value} {a b c v : Value} {ys : List Int} (hR : Row h n 3 .i64 v ys) (hl : ys.length ≤ 10) (R : RT) : ∀ (m i fu : Nat), i + m = ys.length → m < fu → ((∃ x ∈ ys.drop i, x < 0) → Run W n0 (K2 (stB [])) h n Q) → ((∀ x ∈ ys.drop i, 0 ≤ x) → Run W n0 (K1 b) h n Q) →
    Run W n0 (lpA_balerref47_Line lf ((R)) fu (K1, K2) a b c v (.int .i64 (ys.length : Int)) (.int .i64 (i : Int))) h n Q := by
  intro m
  induction m with
  | zero =>
    intro i fu hi hf x1 x2
    obtain ⟨fu, rfl⟩ : ∃ f, fu = f + 1 := ⟨fu - 1, by omega⟩
    obtain rfl : i = ys.length := by omega
    rw [lpA_balerref47_Line]
    try simp (disch := first | omega | assumption | exact Int.natCast_nonneg _) only [RXA, RXB, Nat.reduceAdd, Nat.reduceLT, wrap_id, wrap_succ, wrap_pred, zr33, zr34, zr43, zr51, zr60, zr67, zr73, zr85, zr87, zr98, zr107, zr120, zr126, zr132, zr134, zr139, zr142, zr144, zr150, zr152, zr157, zr159, zr168, zr171, zr185, zr188, zr207, zr212, zr224, zr228, zr233, zr235, zr243, zr252, zr255, zr269, zr280, zr282, zr299, zr317, zr328, zr333, Int.lt_irrefl]
    exact x2 fun x hx => by simp at hx
  | succ m ih =>
    intro i fu hi hf x1 x2
    obtain ⟨fu, rfl⟩ : ∃ f, fu = f + 1 := ⟨fu - 1, by omega⟩
    have hlt : i < ys.length := by omega
    have e1 : ((i : Nat) : Int) < ((ys.length : Nat) : Int) := by omega
    have w1 : ((i : Nat) : Int) + 1 = ((i + 1 : Nat) : Int) := rfl
    have hd : ys.drop i = ys[i] :: ys.drop (i + 1) := List.drop_eq_getElem_cons hlt
    have hL := hR.len
    obtain ⟨bb, off, cap, o, ks, rfl, hg, hbn, _, _, _, hat⟩ := hR.some (by omega)
    have a1 := hat i hlt
    have e0 : ys.getD i 0 = ys[i] := by rw [List.getD_eq_getElem?_getD, List.getElem?_eq_getElem hlt]; rfl
    rw [e0] at a1
    rw [lpA_balerref47_Line]
    by_cases c1 : ys[i] < 0
    · try simp (disch := first | omega | assumption | exact Int.natCast_nonneg _) only [RXA, RXB, Nat.reduceAdd, Nat.reduceLT, wrap_id, wrap_succ, wrap_pred, zr33, zr34, zr43, zr51, zr60, zr67, zr73, zr85, zr87, zr98, zr107, zr120, zr126, zr132, zr134, zr139, zr142, zr144, zr150, zr152, zr157, zr159, zr168, zr171, zr185, zr188, zr207, zr212, zr224, zr228, zr233, zr235, zr243, zr252, zr255, zr269, zr280, zr282, zr299, zr317, zr328, zr333, e1, hg, a1, c1]
      exact x1 ⟨_, by rw [hd]; exact List.mem_cons_self, c1⟩
    · try simp (disch := first | omega | assumption | exact Int.natCast_nonneg _) only [RXA, RXB, Nat.reduceAdd, Nat.reduceLT, wrap_id, wrap_succ, wrap_pred, zr33, zr34, zr43, zr51, zr60, zr67, zr73, zr85, zr87, zr98, zr107, zr120, zr126, zr132, zr134, zr139, zr142, zr144, zr150, zr152, zr157, zr159, zr168, zr171, zr185, zr188, zr207, zr212, zr224, zr228, zr233, zr235, zr243, zr252, zr255, zr269, zr280, zr282, zr299, zr317, zr328, zr333, e1, hg, a1, c1]
      rw [w1]
      refine ih (i + 1) fu (by omega) (by omega) (fun q => x1 ?_) fun q => x2 fun x hx => ?_
      · obtain ⟨x, hx, q⟩ := q
        exact ⟨x, by rw [hd]; exact List.mem_cons_of_mem _ hx, q⟩
      · rw [hd] at hx
        rcases List.mem_cons.1 hx with rfl | hx
        · omega
        · exact q x hx
theorem small_iff (p : Pt) : (∃ x ∈ [p.level, p.frm, p.to_, p.orig, p.last, p.len], x < 0) ↔ p.small = true := by
  unfold Pt.small
  simp
  constructor <;> (intro h; omega)
set_option maxHeartbeats 1000000 in
theorem r_Line (n : Nat) (h : H) (p : Pt) (hp : p.ok = true) (hlf : 100 ≤ lf) : Run (fun _ => False) n (evCall2 Tryz.prog gt lf (d + 3) 20 #[.agg p.cells.toArray]) h n fun v' _ _ => v' = stB ((lineB p).getD []) := by
  rw [shOf (fun _ => st_balerref47_Line) rfl]
  refine Run.inside_ ?_
  unfold b_balerref47_Line
  refine run_box trivial _ _ ?_
  obtain ⟨h2, hh2⟩ : ∃ h2, h.set n (some ⟨34, true, (Value.agg p.cells.toArray).cells.toList⟩) = h2 := ⟨_, rfl⟩
  have g2 : h2.get n = some ⟨34, true, [.int .i64 p.what, .int .i64 p.level, .int .i64 p.frm, .int .i64 p.to_, .int .u32 p.sum, .int .i64 p.orig, .int .i64 p.last, .int .i64 p.len]⟩ := by rw [← hh2, get_eq]; rfl
  rw [hh2]
  have lt0 : n < n + 1 := by omega
  try simp (disch := first | omega | assumption | exact Int.natCast_nonneg _) only [RXA, RXB, Nat.reduceAdd, Nat.reduceLT, wrap_id, wrap_succ, wrap_pred, zr33, zr34, zr43, zr51, zr60, zr67, zr73, zr85, zr87, zr98, zr107, zr120, zr126, zr132, zr134, zr139, zr142, zr144, zr150, zr152, zr157, zr159, zr168, zr171, zr185, zr188, zr207, zr212, zr224, zr228, zr233, zr235, zr243, zr252, zr255, zr269, zr280, zr282, zr299, zr317, zr328, zr333, g2]
  refine run_lits (cs := intsV .i64 [p.level, p.frm, p.to_, p.orig, p.last, p.len]) rfl _ ?_
  have hR := fresh_row (h := h2) (n := n + 1) [p.level, p.frm, p.to_, p.orig, p.last, p.len] rfl (by simp : 0 < 6)
  have g3 : (h2.set (n + 1) (some ⟨3, true, intsV .i64 [p.level, p.frm, p.to_, p.orig, p.last, p.len]⟩)).get n = some ⟨34, true, [.int .i64 p.what, .int .i64 p.level, .int .i64 p.frm, .int .i64 p.to_, .int .u32 p.sum, .int .i64 p.orig, .int .i64 p.last, .int .i64 p.len]⟩ := by rw [get_ne _ _ (by omega)]; exact g2
  generalize (h2.set (n + 1) (some ⟨3, true, intsV .i64 [p.level, p.frm, p.to_, p.orig, p.last, p.len]⟩)) = h3 at hR g3 ⊢
  clear g2 hh2
  have g2 := g3
  have lt1 : n < n + 1 + 1 := by omega
  try simp (disch := first | omega | assumption | exact Int.natCast_nonneg _) only [RXA, RXB, Nat.reduceAdd, Nat.reduceLT, wrap_id, wrap_succ, wrap_pred, zr33, zr34, zr43, zr51, zr60, zr67, zr73, zr85, zr87, zr98, zr107, zr120, zr126, zr132, zr134, zr139, zr142, zr144, zr150, zr152, zr157, zr159, zr168, zr171, zr185, zr188, zr207, zr212, zr224, zr228, zr233, zr235, zr243, zr252, zr255, zr269, zr280, zr282, zr299, zr317, zr328, zr333]
  unfold kcA_balerref47_Line
  refine rsm_loop hR (by simp) _ 6 0 lf rfl (by omega) (fun q => ?_) fun q => ?_
  · have hs := (small_iff p).1 q
    have e0 : lineB p = none := by unfold lineB; rw [if_pos hs]
    rw [e0, run_out1]
    rfl
  have hs : ¬ p.small = true := fun q2 => by
    obtain ⟨x, hx, h0⟩ := (small_iff p).2 q2
    have := q x hx
    omega
  obtain ⟨b1, b2, b3, b4, b5, b6⟩ := pt_ok hp hs
  by_cases w1 : p.what = 1
  · have z1 : (p.what == 1) = true := by rw [w1]; rfl
    have e0 : lineB p = some (wordsB beginB [p.level, p.frm, p.to_]) := by unfold lineB; rw [if_neg hs, if_pos w1]
    try simp (disch := first | omega | assumption | exact Int.natCast_nonneg _) only [RXA, RXB, Nat.reduceAdd, Nat.reduceLT, wrap_id, wrap_succ, wrap_pred, zr33, zr34, zr43, zr51, zr60, zr67, zr73, zr85, zr87, zr98, zr107, zr120, zr126, zr132, zr134, zr139, zr142, zr144, zr150, zr152, zr157, zr159, zr168, zr171, zr185, zr188, zr207, zr212, zr224, zr228, zr233, zr235, zr243, zr252, zr255, zr269, zr280, zr282, zr299, zr317, zr328, zr333, g2, z1]
    refine run_lits (cs := intsV .i64 [p.level, p.frm, p.to_]) rfl _ ?_
    refine run_call okd (s_RWords (lf := lf) (d := d) (n + 1 + 1 + 1) _ beginB _ _ (fresh_row [p.level, p.frm, p.to_] rfl (by simp)) (by intro x hx; simp at hx; omega) (by simp) (by decide) hlf) (by omega) (fun _ _ h => h.elim) ?_
    rintro v1 h1 n1 hn1 fr rfl
    try simp (disch := first | omega | assumption | exact Int.natCast_nonneg _) only [RXA, RXB, Nat.reduceAdd, Nat.reduceLT, wrap_id, wrap_succ, wrap_pred, zr33, zr34, zr43, zr51, zr60, zr67, zr73, zr85, zr87, zr98, zr107, zr120, zr126, zr132, zr134, zr139, zr142, zr144, zr150, zr152, zr157, zr159, zr168, zr171, zr185, zr188, zr207, zr212, zr224, zr228, zr233, zr235, zr243, zr252, zr255, zr269, zr280, zr282, zr299, zr317, zr328, zr333]
    rw [e0]
    rfl
  have n1 : (p.what == 1) = false := beq_eq_false_iff_ne.2 w1
  have sm : 0 ≤ p.sum ∧ p.sum < 4294967296 := by
    unfold Pt.ok at hp
    simp only [Bool.and_eq_true, decide_eq_true_eq] at hp
    omega
  obtain ⟨sv, hsv⟩ : ∃ sv : Nat, p.sum = sv := ⟨p.sum.toNat, by omega⟩
  have hl8 : (hexB p.sum.toNat).length = 8 := by unfold hexB; simp
  have e8 : p.sum.toNat = sv := by rw [hsv]; rfl
  rw [e8] at hl8
  rw [hsv] at g2
  by_cases w2 : p.what = 2
  · have z2 : (p.what == 2) = true := by rw [w2]; rfl
    have e0 : lineB p = some (wordsB (blockB ++ hexB sv) [p.orig, p.last, p.len, p.frm, p.to_]) := by unfold lineB; rw [if_neg hs, if_neg w1, if_pos w2, e8]
    have ad := fun K => stB_add blockB (hexB sv) (by rw [hl8]; decide) K
    try simp (disch := first | omega | assumption | exact Int.natCast_nonneg _) only [RXA, RXB, Nat.reduceAdd, Nat.reduceLT, wrap_id, wrap_succ, wrap_pred, zr33, zr34, zr43, zr51, zr60, zr67, zr73, zr85, zr87, zr98, zr107, zr120, zr126, zr132, zr134, zr139, zr142, zr144, zr150, zr152, zr157, zr159, zr168, zr171, zr185, zr188, zr207, zr212, zr224, zr228, zr233, zr235, zr243, zr252, zr255, zr269, zr280, zr282, zr299, zr317, zr328, zr333, g2, n1, z2]
    refine timed_ldB trivial _ _ _ g2 lt1 (Nat.le_refl _) rfl fun T0 t0 => ?_
    refine timed_callN okd (s_RHex (lf := lf) (d := d + 1) _ _ (x := sv) (by omega) hlf) ?_
    rintro v1 h1 n1' L1 hn1 fr ⟨rfl, rfl, rfl⟩ r1
    show Run (fun _ => False) n (kad (stB blockB) (stB (hexB sv)) _) _ _ _
    rw [ad]
    try simp (disch := first | omega | assumption | exact Int.natCast_nonneg _) only [RXA, RXB, Nat.reduceAdd, Nat.reduceLT, wrap_id, wrap_succ, wrap_pred, zr33, zr34, zr43, zr51, zr60, zr67, zr73, zr85, zr87, zr98, zr107, zr120, zr126, zr132, zr134, zr139, zr142, zr144, zr150, zr152, zr157, zr159, zr168, zr171, zr185, zr188, zr207, zr212, zr224, zr228, zr233, zr235, zr243, zr252, zr255, zr269, zr280, zr282, zr299, zr317, zr328, zr333]
    refine timed_ldB trivial _ _ _ g2 lt1 hn1 rfl fun T1 t1 => ?_
    try simp (disch := first | omega | assumption | exact Int.natCast_nonneg _) only [RXA, RXB, Nat.reduceAdd, Nat.reduceLT, wrap_id, wrap_succ, wrap_pred, zr33, zr34, zr43, zr51, zr60, zr67, zr73, zr85, zr87, zr98, zr107, zr120, zr126, zr132, zr134, zr139, zr142, zr144, zr150, zr152, zr157, zr159, zr168, zr171, zr185, zr188, zr207, zr212, zr224, zr228, zr233, zr235, zr243, zr252, zr255, zr269, zr280, zr282, zr299, zr317, zr328, zr333]
    refine timed_ldB trivial _ _ _ g2 lt1 hn1 rfl fun T2 t2 => ?_
    try simp (disch := first | omega | assumption | exact Int.natCast_nonneg _) only [RXA, RXB, Nat.reduceAdd, Nat.reduceLT, wrap_id, wrap_succ, wrap_pred, zr33, zr34, zr43, zr51, zr60, zr67, zr73, zr85, zr87, zr98, zr107, zr120, zr126, zr132, zr134, zr139, zr142, zr144, zr150, zr152, zr157, zr159, zr168, zr171, zr185, zr188, zr207, zr212, zr224, zr228, zr233, zr235, zr243, zr252, zr255, zr269, zr280, zr282, zr299, zr317, zr328, zr333]
    refine timed_ldB trivial _ _ _ g2 lt1 hn1 rfl fun T3 t3 => ?_
    try simp (disch := first | omega | assumption | exact Int.natCast_nonneg _) only [RXA, RXB, Nat.reduceAdd, Nat.reduceLT, wrap_id, wrap_succ, wrap_pred, zr33, zr34, zr43, zr51, zr60, zr67, zr73, zr85, zr87, zr98, zr107, zr120, zr126, zr132, zr134, zr139, zr142, zr144, zr150, zr152, zr157, zr159, zr168, zr171, zr185, zr188, zr207, zr212, zr224, zr228, zr233, zr235, zr243, zr252, zr255, zr269, zr280, zr282, zr299, zr317, zr328, zr333]
    refine timed_ldB trivial _ _ _ g2 lt1 hn1 rfl fun T4 t4 => ?_
    try simp (disch := first | omega | assumption | exact Int.natCast_nonneg _) only [RXA, RXB, Nat.reduceAdd, Nat.reduceLT, wrap_id, wrap_succ, wrap_pred, zr33, zr34, zr43, zr51, zr60, zr67, zr73, zr85, zr87, zr98, zr107, zr120, zr126, zr132, zr134, zr139, zr142, zr144, zr150, zr152, zr157, zr159, zr168, zr171, zr185, zr188, zr207, zr212, zr224, zr228, zr233, zr235, zr243, zr252, zr255, zr269, zr280, zr282, zr299, zr317, zr328, zr333]
    refine timed_ldB trivial _ _ _ g2 lt1 hn1 rfl fun T5 t5 => ?_
    try simp (disch := first | omega | assumption | exact Int.natCast_nonneg _) only [RXA, RXB, Nat.reduceAdd, Nat.reduceLT, wrap_id, wrap_succ, wrap_pred, zr33, zr34, zr43, zr51, zr60, zr67, zr73, zr85, zr87, zr98, zr107, zr120, zr126, zr132, zr134, zr139, zr142, zr144, zr150, zr152, zr157, zr159, zr168, zr171, zr185, zr188, zr207, zr212, zr224, zr228, zr233, zr235, zr243, zr252, zr255, zr269, zr280, zr282, zr299, zr317, zr328, zr333]
    refine timed_lits (cs := intsV .i64 [p.orig, p.last, p.len, p.frm, p.to_]) rfl hn1 _ fun T6 t6 => ?_
    refine timed_callN okd (s_RWords (lf := lf) (d := d) _ _ (blockB ++ hexB sv) _ _ (fresh_row [p.orig, p.last, p.len, p.frm, p.to_] rfl (by simp)) (by intro x hx; simp at hx; omega) (by simp) (by rw [List.length_append, hl8]; decide) hlf) ?_
    rintro v2 h3 n3 L2 hn3 fr3 rfl r2
    try simp (disch := first | omega | assumption | exact Int.natCast_nonneg _) only [RXA, RXB, Nat.reduceAdd, Nat.reduceLT, wrap_id, wrap_succ, wrap_pred, zr33, zr34, zr43, zr51, zr60, zr67, zr73, zr85, zr87, zr98, zr107, zr120, zr126, zr132, zr134, zr139, zr142, zr144, zr150, zr152, zr157, zr159, zr168, zr171, zr185, zr188, zr207, zr212, zr224, zr228, zr233, zr235, zr243, zr252, zr255, zr269, zr280, zr282, zr299, zr317, zr328, zr333, r1.clash t1, r1.clash t2, r1.clash t3, r1.clash t4, r1.clash t5, r1.clash t6, Bool.not_false, Bool.and_self, chk_true]
    rw [e0]
    rfl
  have n2 : (p.what == 2) = false := beq_eq_false_iff_ne.2 w2
  by_cases w3 : p.what = 3
  · have z3 : (p.what == 3) = true := by rw [w3]; rfl
    have e0 : lineB p = some (wordsB (endB ++ hexB sv) [p.frm, p.to_]) := by unfold lineB; rw [if_neg hs, if_neg w1, if_neg w2, if_pos w3, e8]
    have ad := fun K => stB_add endB (hexB sv) (by rw [hl8]; decide) K
    try simp (disch := first | omega | assumption | exact Int.natCast_nonneg _) only [RXA, RXB, Nat.reduceAdd, Nat.reduceLT, wrap_id, wrap_succ, wrap_pred, zr33, zr34, zr43, zr51, zr60, zr67, zr73, zr85, zr87, zr98, zr107, zr120, zr126, zr132, zr134, zr139, zr142, zr144, zr150, zr152, zr157, zr159, zr168, zr171, zr185, zr188, zr207, zr212, zr224, zr228, zr233, zr235, zr243, zr252, zr255, zr269, zr280, zr282, zr299, zr317, zr328, zr333, g2, n1, n2, z3]
    refine timed_ldB trivial _ _ _ g2 lt1 (Nat.le_refl _) rfl fun T0 t0 => ?_
    refine timed_callN okd (s_RHex (lf := lf) (d := d + 1) _ _ (x := sv) (by omega) hlf) ?_
    rintro v1 h1 n1' L1 hn1 fr ⟨rfl, rfl, rfl⟩ r1
    show Run (fun _ => False) n (kad (stB endB) (stB (hexB sv)) _) _ _ _
    rw [ad]
    try simp (disch := first | omega | assumption | exact Int.natCast_nonneg _) only [RXA, RXB, Nat.reduceAdd, Nat.reduceLT, wrap_id, wrap_succ, wrap_pred, zr33, zr34, zr43, zr51, zr60, zr67, zr73, zr85, zr87, zr98, zr107, zr120, zr126, zr132, zr134, zr139, zr142, zr144, zr150, zr152, zr157, zr159, zr168, zr171, zr185, zr188, zr207, zr212, zr224, zr228, zr233, zr235, zr243, zr252, zr255, zr269, zr280, zr282, zr299, zr317, zr328, zr333]
    refine timed_ldB trivial _ _ _ g2 lt1 hn1 rfl fun T1 t1 => ?_
    try simp (disch := first | omega | assumption | exact Int.natCast_nonneg _) only [RXA, RXB, Nat.reduceAdd, Nat.reduceLT, wrap_id, wrap_succ, wrap_pred, zr33, zr34, zr43, zr51, zr60, zr67, zr73, zr85, zr87, zr98, zr107, zr120, zr126, zr132, zr134, zr139, zr142, zr144, zr150, zr152, zr157, zr159, zr168, zr171, zr185, zr188, zr207, zr212, zr224, zr228, zr233, zr235, zr243, zr252, zr255, zr269, zr280, zr282, zr299, zr317, zr328, zr333]
    refine timed_ldB trivial _ _ _ g2 lt1 hn1 rfl fun T2 t2 => ?_
    try simp (disch := first | omega | assumption | exact Int.natCast_nonneg _) only [RXA, RXB, Nat.reduceAdd, Nat.reduceLT, wrap_id, wrap_succ, wrap_pred, zr33, zr34, zr43, zr51, zr60, zr67, zr73, zr85, zr87, zr98, zr107, zr120, zr126, zr132, zr134, zr139, zr142, zr144, zr150, zr152, zr157, zr159, zr168, zr171, zr185, zr188, zr207, zr212, zr224, zr228, zr233, zr235, zr243, zr252, zr255, zr269, zr280, zr282, zr299, zr317, zr328, zr333]
    refine timed_lits (cs := intsV .i64 [p.frm, p.to_]) rfl hn1 _ fun T6 t6 => ?_
    refine timed_callN okd (s_RWords (lf := lf) (d := d) _ _ (endB ++ hexB sv) _ _ (fresh_row [p.frm, p.to_] rfl (by simp)) (by intro x hx; simp at hx; omega) (by simp) (by rw [List.length_append, hl8]; decide) hlf) ?_
    rintro v2 h3 n3 L2 hn3 fr3 rfl r2
    try simp (disch := first | omega | assumption | exact Int.natCast_nonneg _) only [RXA, RXB, Nat.reduceAdd, Nat.reduceLT, wrap_id, wrap_succ, wrap_pred, zr33, zr34, zr43, zr51, zr60, zr67, zr73, zr85, zr87, zr98, zr107, zr120, zr126, zr132, zr134, zr139, zr142, zr144, zr150, zr152, zr157, zr159, zr168, zr171, zr185, zr188, zr207, zr212, zr224, zr228, zr233, zr235, zr243, zr252, zr255, zr269, zr280, zr282, zr299, zr317, zr328, zr333, r1.clash t1, r1.clash t2, r1.clash t6, Bool.not_false, Bool.and_self, chk_true]
    rw [e0]
    rfl
  have n3 : (p.what == 3) = false := beq_eq_false_iff_ne.2 w3
  have e0 : lineB p = none := by unfold lineB; rw [if_neg hs, if_neg w1, if_neg w2, if_neg w3]
  try simp (disch := first | omega | assumption | exact Int.natCast_nonneg _) only [RXA, RXB, Nat.reduceAdd, Nat.reduceLT, wrap_id, wrap_succ, wrap_pred, zr33, zr34, zr43, zr51, zr60, zr67, zr73, zr85, zr87, zr98, zr107, zr120, zr126, zr132, zr134, zr139, zr142, zr144, zr150, zr152, zr157, zr159, zr168, zr171, zr185, zr188, zr207, zr212, zr224, zr228, zr233, zr235, zr243, zr252, zr255, zr269, zr280, zr282, zr299, zr317, zr328, zr333, g2, n1, n2, n3]
  rw [e0]
  rfl
end
end Go.Proofs.YtmjolmggelkjlaaGreat
/- Layer 47: what parts have together. -/
namespace Go.Proofs.YtmjolmggelkjlaaGreat
set_option linter.unusedVariables false
set_option linter.unusedSimpArgs false
open Go.RowKit Ev Ip

structure Tot where
  streams : Nat
  blocks : Nat
  last : Int
  len : Int
  bits : Int
def Tot.cells (t : Tot) : List Value := [.int .i64 (t.streams : Int), .int .i64 (t.blocks : Int), .int .i64 t.last, .int .i64 t.len, .int .i64 t.bits]
def mst (x : Int) : Int := let y := if x < 0 then 0 else x; if 1099511627776 < y then 1099511627776 else y
theorem mst_b (x : Int) : 0 ≤ mst x ∧ mst x ≤ 1099511627776 := by
  unfold mst
  simp only
  repeat' split
  all_goals omega
def tog (a b : Int) : Int := mst (a + mst b)
def Tot.add (t : Tot) (p : Pt) : Tot :=
  if p.what = 2 then { t with blocks := t.blocks + 1, last := tog t.last p.last, len := tog t.len p.len }
  else if p.what = 3 then { t with streams := t.streams + 1 } else t
structure Tot.Ok (t : Tot) (i : Nat) : Prop where
  s : t.streams ≤ i
  b : t.blocks ≤ i
  l0 : 0 ≤ t.last
  l1 : t.last ≤ 1099511627776
  n0 : 0 ≤ t.len
  n1 : t.len ≤ 1099511627776
theorem Tot.Ok.add {t : Tot} {i : Nat} (x : t.Ok i) (p : Pt) : (t.add p).Ok (i + 1) := by
  obtain ⟨a, b, c, d, e, f⟩ := x
  have h1 := mst_b (t.last + mst p.last)
  have h2 := mst_b (t.len + mst p.len)
  unfold Tot.add
  split
  · exact ⟨Nat.le_succ_of_le a, by show t.blocks + 1 ≤ i + 1; omega, h1.1, h1.2, h2.1, h2.2⟩
  · split
    · exact ⟨by show t.streams + 1 ≤ i + 1; omega, Nat.le_succ_of_le b, c, d, e, f⟩
    · exact ⟨Nat.le_succ_of_le a, Nat.le_succ_of_le b, c, d, e, f⟩
section
variable {lf d : Nat}
end
end Go.Proofs.YtmjolmggelkjlaaGreat
/- Layer 47: Count. -/
namespace Go.Proofs.YtmjolmggelkjlaaGreat
set_option linter.unusedVariables false
set_option linter.unusedSimpArgs false
open Go.RowKit Ev Ip

section
variable {lf d : Nat}
theorem PRow.put {h h' : H} {n : Nat} {v : Value} {l : List Pt} {cb : Nat} {e : TypeId} {cs : List Value} (x : PRow h n v l) (g : h.get cb = some ⟨e, true, cs⟩) (hk : ∀ b, b ≠ cb → h'.get b = h.get b) : PRow h' n v l := by
  rcases x with q | ⟨b, e, g2, hb⟩
  · exact .inl q
  · refine .inr ⟨b, e, (hk b fun q => ?_).trans g2, hb⟩
    rw [q, g] at g2
    cases g2
end
end Go.Proofs.YtmjolmggelkjlaaGreat
/- Layer 47: the statement InspectCounts. -/
namespace Go.Proofs.YtmjolmggelkjlaaGreat
set_option linter.unusedVariables false
set_option linter.unusedSimpArgs false
open Go.RowKit Ev Ip

theorem k_nothing (lf d n : Nat) (h : H) : Run (fun _ => False) n (evCall2 Tryz.prog gt lf (d + 1) 12 #[]) h n fun v' h' n' => v' = .bool true ∧ h' = h ∧ n' = n := by
  have e : evCall2 Tryz.prog gt lf (d + 1) 12 #[] = (chkG Tryz.prog KG).bind fun _ => M.ret (.bool true) := by kernel_rfl
  rw [e]
  have c : chkG Tryz.prog KG h n = some ⟨(), h, n, []⟩ := rfl
  refine Run.step c (Nat.le_refl _) (by simp) ?_
  rw [run_ret]
  exact ⟨rfl, rfl, rfl⟩
theorem run_nothing {β : Type} {lf d n n0 : Nat} {h : H} {W : Nat → Prop} {Q : β → H → Nat → Prop} (hn : n0 ≤ n) (K : Value → M β) (y : Run W n0 (K (.bool true)) h n Q) : Run W n0 (kcl (evCall2 Tryz.prog gt lf (d + 1)) 12 [] K) h n Q :=
  run_same (k_nothing lf d n h) hn (fun _ _ h => h.elim) y
def clean (l : List Pt) : Prop := ∀ p ∈ l, 0 ≤ p.frm ∧ 0 ≤ p.to_
section
variable {lf d : Nat}
end
end Go.Proofs.YtmjolmggelkjlaaGreat
/- Layer 47: the statement InspectTexts. -/
namespace Go.Proofs.YtmjolmggelkjlaaGreat
set_option linter.unusedVariables false
set_option linter.unusedSimpArgs false
open Go.RowKit Ev Ip

theorem ptsOf_flat : ∀ (l : List Pt), (∀ p ∈ l, p.ok = true) → ptsOf (l.flatMap Pt.cells) = some l
  | [], _ => rfl
  | p :: l, h => by
    have ih := ptsOf_flat l fun q hq => h q (List.mem_cons_of_mem _ hq)
    have hp := h p List.mem_cons_self
    rw [List.flatMap_cons]
    show ptsOf (.int .i64 p.what :: .int .i64 p.level :: .int .i64 p.frm :: .int .i64 p.to_ :: .int .u32 p.sum :: .int .i64 p.orig :: .int .i64 p.last :: .int .i64 p.len :: l.flatMap Pt.cells) = _
    unfold ptsOf
    rw [ih]
    exact if_pos hp
theorem ptsF_scalar : ∀ (l : List Pt), (l.flatMap Pt.cells).all scalar = true
  | [] => rfl
  | p :: l => by
    rw [List.flatMap_cons, List.all_append, ptsF_scalar l]
    rfl
/-- a row of parts that is nil, or lies there -/
def NRow (h : H) (n : Nat) (v : Value) (l : List Pt) : Prop := PRow h n v l ∧ ∀ a, v = .slice a 0 0 → l = [] → a = none ∨ ∃ b o, a = some ⟨b, o, none⟩
section
variable {lf d : Nat}
theorem s_Text (n : Nat) (h : H) {v : Value} {l : List Pt} (hR : NRow h n v l) (hl : l.length ≤ 1000) (hok : ∀ p ∈ l, p.ok = true) : Run (fun _ => False) n (evCall2 Tryz.prog gt lf (d + 1) 18 #[v]) h n fun v' h' n' => v' = ansB (textB l) ∧ h' = h ∧ n' = n := by
  have e : evCall2 Tryz.prog gt lf (d + 1) 18 #[v] = evNat4 18 [v] := rfl
  rw [e]
  obtain ⟨hR, hN⟩ := hR
  rcases hR with ⟨a, rfl, hne, rfl⟩ | ⟨b, rfl, hg, hb⟩
  · rcases hN a rfl rfl with rfl | ⟨b, o, rfl⟩
    · exact ⟨_, _, _, [], rfl, Nat.le_refl _, by simp, rfl, rfl, rfl⟩
    · exact absurd rfl (hne b o)
  · have hlen := ptsF_len l
    obtain ⟨L, r1, r2⟩ := rdN_run2 (n := n) hg hb (l.length * 8) 0 (by show 0 + l.length * 8 ≤ (l.flatMap Pt.cells).length; omega)
    have e1 : (((l.flatMap Pt.cells)).drop 0).take (l.length * 8) = l.flatMap Pt.cells := by rw [List.drop_zero, List.take_of_length_le (by omega)]
    have e2 : textN l.length (l.flatMap Pt.cells) = some (ansB (textB l)) := by
      unfold textN
      rw [if_pos hl, ptsOf_flat l hok]
    refine ⟨ansB (textB l), h, n, L ++ [], ?_, Nat.le_refl _, fun x hx hw => ?_, rfl, rfl, rfl⟩
    · show ((rdN b 0 (l.length * 8)).bind fun vs => if vs.all scalar then M.lift (textN l.length vs) else .fail) h n = _
      refine bind_run r1 ?_
      show (if ((((l.flatMap Pt.cells)).drop 0).take (l.length * 8)).all scalar then M.lift (textN l.length ((((l.flatMap Pt.cells)).drop 0).take (l.length * 8))) else .fail) h n = _
      rw [e1, ptsF_scalar, e2]
      rfl
    · simp only [List.append_nil] at hx
      rw [(r2 x hx).1] at hw
      cases hw
def tv (o : Option (List Nat)) : Value := stB (o.getD [])
def te (o : Option (List Nat)) : Value := match o with
  | some _ => .int .i64 0
  | none => .int .i64 1
theorem ansB_eq (o : Option (List Nat)) : ansB o = .tuple #[tv o, te o] := by cases o <;> rfl
theorem lineB_ne {p : Pt} {s : List Nat} (h : lineB p = some s) : s ≠ [] := by
  have g : ∀ (xs : List Int) (s : List Nat), s.length ≤ (wordsB s xs).length := by
    intro xs
    induction xs with
    | nil => intro s; exact Nat.le_refl _
    | cons x xs ih =>
      intro s
      have := ih (s ++ 32 :: numB x)
      unfold wordsB
      simp at this ⊢
      omega
  intro e
  unfold lineB at h
  repeat' split at h
  all_goals first | cases h | skip
  · have := g [p.level, p.frm, p.to_] beginB
    rw [e] at this
    simp [beginB] at this
  · have := g [p.orig, p.last, p.len, p.frm, p.to_] (blockB ++ hexB p.sum.toNat)
    rw [e] at this
    simp [blockB] at this
  · have := g [p.frm, p.to_] (endB ++ hexB p.sum.toNat)
    rw [e] at this
    simp [endB] at this
theorem text_loop {v : Value} {l : List Pt} (hl : l.length ≤ 60) (hok : ∀ p ∈ l, p.ok = true) {n0 : Nat} (hlf : 2000 ≤ lf) : ∀ (m i fu n : Nat) (h : H) (T : List Nat), i + m = l.length → m < fu → PRow h n v l → textB (l.take i) = some T → T.length ≤ 200 * i → n0 ≤ n →
    Run (fun _ => False) n0 (lpA_balerlaw47_InspectTexts lf (evCall2 Tryz.prog gt lf (d + 21)) fu (kcA_balerlaw47_InspectTexts lf (evCall2 Tryz.prog gt lf (d + 21))) v bF (tv (textB l)) (te (textB l)) (stB T) (.bool false) v (.int .i64 (l.length : Int)) (.int .i64 (i : Int))) h n fun v' _ _ => v' = .bool true := by
  intro m
  induction m with
  | zero =>
    intro i fu n h T hi hf hR hT hTl hn
    obtain ⟨fu, rfl⟩ : ∃ f, fu = f + 1 := ⟨fu - 1, by omega⟩
    obtain rfl : i = l.length := by omega
    rw [List.take_length] at hT
    rw [lpA_balerlaw47_InspectTexts, hT]
    try simp (disch := first | omega | assumption | exact Int.natCast_nonneg _) only [RXA, RXB, Nat.reduceAdd, Nat.reduceLT, wrap_id, wrap_succ, wrap_pred, zr33, zr34, zr43, zr51, zr60, zr67, zr73, zr85, zr87, zr98, zr107, zr120, zr126, zr132, zr134, zr139, zr142, zr144, zr150, zr152, zr157, zr159, zr168, zr171, zr185, zr188, zr207, zr212, zr224, zr228, zr233, zr235, zr243, zr252, zr255, zr269, zr280, zr282, zr299, zr317, zr328, zr333, Int.lt_irrefl]
    unfold kcA_balerlaw47_InspectTexts tv te stB
    try simp (disch := first | omega | assumption | exact Int.natCast_nonneg _) only [RXA, RXB, Nat.reduceAdd, Nat.reduceLT, wrap_id, wrap_succ, wrap_pred, zr33, zr34, zr43, zr51, zr60, zr67, zr73, zr85, zr87, zr98, zr107, zr120, zr126, zr132, zr134, zr139, zr142, zr144, zr150, zr152, zr157, zr159, zr168, zr171, zr185, zr188, zr207, zr212, zr224, zr228, zr233, zr235, zr243, zr252, zr255, zr269, zr280, zr282, zr299, zr317, zr328, zr333]
    rw [Option.getD_some, if_pos rfl]
    refine run_nothing hn _ ?_
    rw [run_out1]
  | succ m ih =>
    intro i fu n h T hi hf hR hT hTl hn
    obtain ⟨fu, rfl⟩ : ∃ f, fu = f + 1 := ⟨fu - 1, by omega⟩
    have hlt : ((i : Nat) : Int) < ((l.length : Nat) : Int) := by omega
    obtain ⟨p, hp⟩ : ∃ p, l[i]? = some p := ⟨_, List.getElem?_eq_getElem (by omega)⟩
    obtain ⟨hi2, hpe⟩ := List.getElem?_eq_some_iff.1 hp
    have hpm : p ∈ l := by rw [← hpe]; exact List.getElem_mem _
    have hpo := hok p hpm
    have wi : ((i : Nat) : Int) + 1 = ((i + 1 : Nat) : Int) := rfl
    have hTs := textB_snoc (l.take i) p
    rw [← hpe, ← List.take_succ_eq_append_getElem hi2, hpe, hT] at hTs
    rw [lpA_balerlaw47_InspectTexts]
    try simp (disch := first | omega | assumption | exact Int.natCast_nonneg _) only [RXA, RXB, Nat.reduceAdd, Nat.reduceLT, wrap_id, wrap_succ, wrap_pred, zr33, zr34, zr43, zr51, zr60, zr67, zr73, zr85, zr87, zr98, zr107, zr120, zr126, zr132, zr134, zr139, zr142, zr144, zr150, zr152, zr157, zr159, zr168, zr171, zr185, zr188, zr207, zr212, zr224, zr228, zr233, zr235, zr243, zr252, zr255, zr269, zr280, zr282, zr299, zr317, zr328, zr333, hlt]
    refine run_part hR hp hn _ fun h1 g1 k1 => ?_
    have hR1 := hR.keep (Nat.le_succ n) k1
    have hnn : n < n + 1 := Nat.lt_succ_self n
    refine run_lda0 trivial trivial n 0 _ g1 hnn (show 0 + 8 ≤ 8 by omega) ?_
    refine run_call okd (s_Line (lf := lf) (d := d) (n + 1) h1 p hpo (by omega)) (by omega) (fun _ _ h => h.elim) fun v2 h2 n2 hn2 fr2 hq2 => ?_
    subst hq2
    have g2 := (fr2 n hnn id).trans g1
    have hR2 := hR1.keep hn2 fun b hb => fr2 b hb id
    rw [ansB_eq]
    try simp (disch := first | omega | assumption | exact Int.natCast_nonneg _) only [RXA, RXB, Nat.reduceAdd, Nat.reduceLT, wrap_id, wrap_succ, wrap_pred, zr33, zr34, zr43, zr51, zr60, zr67, zr73, zr85, zr87, zr98, zr107, zr120, zr126, zr132, zr134, zr139, zr142, zr144, zr150, zr152, zr157, zr159, zr168, zr171, zr185, zr188, zr207, zr212, zr224, zr228, zr233, zr235, zr243, zr252, zr255, zr269, zr280, zr282, zr299, zr317, zr328, zr333]
    refine run_lda0 trivial trivial n 0 _ g2 (by omega) (show 0 + 8 ≤ 8 by omega) ?_
    refine run_call okd (s_ref (lf := lf) (d := d + 20) n2 h2 p) (by omega) (fun _ _ h => h.elim) fun v3 h3 n3 hn3 fr3 hq3 => ?_
    subst hq3
    have hR3 := hR2.keep hn3 fun b hb => fr3 b hb id
    refine run_call okd (r_Line (lf := lf) (d := d + 18) n3 h3 p hpo (by omega)) (by omega) (fun _ _ h => h.elim) fun v4 h4 n4 hn4 fr4 hq4 => ?_
    subst hq4
    have hR4 := hR3.keep hn4 fun b hb => fr4 b hb id
    cases e : lineB p with
    | none =>
      have hN := textB_none l hpm e
      rw [hN]
      unfold tv te stB kcA_balerlaw47_InspectTexts
      try simp (disch := first | omega | assumption | exact Int.natCast_nonneg _) only [RXA, RXB, Nat.reduceAdd, Nat.reduceLT, wrap_id, wrap_succ, wrap_pred, zr33, zr34, zr43, zr51, zr60, zr67, zr73, zr85, zr87, zr98, zr107, zr120, zr126, zr132, zr134, zr139, zr142, zr144, zr150, zr152, zr157, zr159, zr168, zr171, zr185, zr188, zr207, zr212, zr224, zr228, zr233, zr235, zr243, zr252, zr255, zr269, zr280, zr282, zr299, zr317, zr328, zr333]
      rw [if_neg (by simp), if_pos (by simp), if_pos (by simp), if_pos (by simp)]
      refine run_nothing (by omega) _ ?_
      rw [run_out1]
    | some s =>
      rw [e] at hTs
      have hTs : textB (l.take (i + 1)) = some (T ++ (s ++ [10])) := hTs
      have sl := lineB_len e
      have sn := lineB_ne e
      have su : ¬ u8L s = [] := fun q => sn (List.map_eq_nil_iff.1 q)
      have ad1 := fun (K : Value → M Value) => stB_add T s (by omega) K
      have ad2 := fun (K : Value → M Value) => stB_add (T ++ s) [10] (by simp; omega) K
      have ks : ∀ (K : Value → M Value), kne (stB s) (stB s) K = K (.bool false) := fun K => by
        rw [stB_eq]
        try simp (disch := first | omega | assumption | exact Int.natCast_nonneg _) only [RXA, RXB, Nat.reduceAdd, Nat.reduceLT, wrap_id, wrap_succ, wrap_pred, zr33, zr34, zr43, zr51, zr60, zr67, zr73, zr85, zr87, zr98, zr107, zr120, zr126, zr132, zr134, zr139, zr142, zr144, zr150, zr152, zr157, zr159, zr168, zr171, zr185, zr188, zr207, zr212, zr224, zr228, zr233, zr235, zr243, zr252, zr255, zr269, zr280, zr282, zr299, zr317, zr328, zr333]
      have kz : ∀ (K : Value → M Value), kne (stB s) (.string ⟨#[]⟩) K = K (.bool true) := fun K => by
        rw [stB_eq]
        try simp (disch := first | omega | assumption | exact Int.natCast_nonneg _) only [RXA, RXB, Nat.reduceAdd, Nat.reduceLT, wrap_id, wrap_succ, wrap_pred, zr33, zr34, zr43, zr51, zr60, zr67, zr73, zr85, zr87, zr98, zr107, zr120, zr126, zr132, zr134, zr139, zr142, zr144, zr150, zr152, zr157, zr159, zr168, zr171, zr185, zr188, zr207, zr212, zr224, zr228, zr233, zr235, zr243, zr252, zr255, zr269, zr280, zr282, zr299, zr317, zr328, zr333, su]
      have kq : ∀ (K : Value → M Value), keq (stB s) (.string ⟨#[]⟩) K = K (.bool false) := fun K => by
        rw [stB_eq]
        try simp (disch := first | omega | assumption | exact Int.natCast_nonneg _) only [RXA, RXB, Nat.reduceAdd, Nat.reduceLT, wrap_id, wrap_succ, wrap_pred, zr33, zr34, zr43, zr51, zr60, zr67, zr73, zr85, zr87, zr98, zr107, zr120, zr126, zr132, zr134, zr139, zr142, zr144, zr150, zr152, zr157, zr159, zr168, zr171, zr185, zr188, zr207, zr212, zr224, zr228, zr233, zr235, zr243, zr252, zr255, zr269, zr280, zr282, zr299, zr317, zr328, zr333, su]
      rw [show te (some s) = .int .i64 0 from rfl, show tv (some s) = stB s from rfl, show (some s).getD [] = s from rfl, ks]
      try simp (disch := first | omega | assumption | exact Int.natCast_nonneg _) only [RXA, RXB, Nat.reduceAdd, Nat.reduceLT, wrap_id, wrap_succ, wrap_pred, zr33, zr34, zr43, zr51, zr60, zr67, zr73, zr85, zr87, zr98, zr107, zr120, zr126, zr132, zr134, zr139, zr142, zr144, zr150, zr152, zr157, zr159, zr168, zr171, zr185, zr188, zr207, zr212, zr224, zr228, zr233, zr235, zr243, zr252, zr255, zr269, zr280, zr282, zr299, zr317, zr328, zr333, kz, kq]
      rw [ad1]
      show Run (fun _ => False) n0 (kad (stB (T ++ s)) (stB [10]) _) _ _ _
      rw [ad2, List.append_assoc]
      try simp (disch := first | omega | assumption | exact Int.natCast_nonneg _) only [RXA, RXB, Nat.reduceAdd, Nat.reduceLT, wrap_id, wrap_succ, wrap_pred, zr33, zr34, zr43, zr51, zr60, zr67, zr73, zr85, zr87, zr98, zr107, zr120, zr126, zr132, zr134, zr139, zr142, zr144, zr150, zr152, zr157, zr159, zr168, zr171, zr185, zr188, zr207, zr212, zr224, zr228, zr233, zr235, zr243, zr252, zr255, zr269, zr280, zr282, zr299, zr317, zr328, zr333]
      rw [wi]
      exact ih (i + 1) fu n4 h4 _ (by omega) (by omega) hR4 hTs (by simp; omega) (by omega)
theorem s_texts {n : Nat} {h : H} {v : Value} {l : List Pt} (hR : NRow h n v l) (hok : ∀ p ∈ l, p.ok = true) (hlf : 2000 ≤ lf) : Run (fun _ => False) n (evCall2 Tryz.prog gt lf (d + 22) 4 #[v]) h n fun v' _ _ => v' = .bool true := by
  obtain ⟨a, c, ev⟩ := hR.1.len
  have kl : ∀ K : Value → M Value, kln v K = K (.int .i64 (l.length : Int)) := fun K => by rw [ev]; rfl
  rw [shOf (fun _ => st_balerlaw47_InspectTexts) rfl]
  refine Run.inside_ ?_
  unfold b_balerlaw47_InspectTexts
  by_cases h60 : 60 < l.length
  · have z : (60 : Int) < ((l.length : Nat) : Int) := by omega
    try simp (disch := first | omega | assumption | exact Int.natCast_nonneg _) only [RXA, RXB, Nat.reduceAdd, Nat.reduceLT, wrap_id, wrap_succ, wrap_pred, zr33, zr34, zr43, zr51, zr60, zr67, zr73, zr85, zr87, zr98, zr107, zr120, zr126, zr132, zr134, zr139, zr142, zr144, zr150, zr152, zr157, zr159, zr168, zr171, zr185, zr188, zr207, zr212, zr224, zr228, zr233, zr235, zr243, zr252, zr255, zr269, zr280, zr282, zr299, zr317, zr328, zr333, kl, z]
    refine run_nothing (Nat.le_refl n) _ ?_
    rw [run_out1]
  · have z : ¬ (60 : Int) < ((l.length : Nat) : Int) := by omega
    try simp (disch := first | omega | assumption | exact Int.natCast_nonneg _) only [RXA, RXB, Nat.reduceAdd, Nat.reduceLT, wrap_id, wrap_succ, wrap_pred, zr33, zr34, zr43, zr51, zr60, zr67, zr73, zr85, zr87, zr98, zr107, zr120, zr126, zr132, zr134, zr139, zr142, zr144, zr150, zr152, zr157, zr159, zr168, zr171, zr185, zr188, zr207, zr212, zr224, zr228, zr233, zr235, zr243, zr252, zr255, zr269, zr280, zr282, zr299, zr317, zr328, zr333, kl, z]
    refine run_same (s_Text (lf := lf) (d := d + 20) n h hR (by omega) hok) (Nat.le_refl _) (fun _ _ h => h.elim) ?_
    rw [ansB_eq]
    try simp (disch := first | omega | assumption | exact Int.natCast_nonneg _) only [RXA, RXB, Nat.reduceAdd, Nat.reduceLT, wrap_id, wrap_succ, wrap_pred, zr33, zr34, zr43, zr51, zr60, zr67, zr73, zr85, zr87, zr98, zr107, zr120, zr126, zr132, zr134, zr139, zr142, zr144, zr150, zr152, zr157, zr159, zr168, zr171, zr185, zr188, zr207, zr212, zr224, zr228, zr233, zr235, zr243, zr252, zr255, zr269, zr280, zr282, zr299, zr317, zr328, zr333, kl]
    exact text_loop (d := d) (by omega) hok hlf l.length 0 lf n h [] (by omega) (by omega) hR.1 rfl (by simp) (Nat.le_refl _)
end
theorem h_TextsE (a : Option Addr) (c : Nat) (w : World) : Calls Tryz.prog 4 #[.slice a 0 c] w fun e w' => e = .returned (.bool true) ∧ Below w.heap.size w w' := by
  go_enter Tryz.func4, Tryz.ntmps4
  go_wp2_with fail
  refine (h_Text a 0 c [] _ rfl (by omega) (fun p hp => by cases hp) (fun i p hp => by simp at hp)).mono ?_
  rintro e w1 ⟨rfl, hB⟩
  rw [show ansB (textB []) = .tuple #[.string ⟨#[]⟩, .int .i64 0] from rfl]
  go_wp2_with fail
  refine wp_loop_rounds 1 ?_
  rw [rounds_succ]
  go_wp2_with fail
  refine (l_nothing w1).mono ?_
  rintro e w2 ⟨rfl, hB2⟩
  have hB3 := Lib.hid (hB.trans (hB2.mono hB.size))
  clear hB hB2
  go_wp2_with fail
  go_ret
  exact ⟨rfl, hB3.out⟩
theorem call_ITexts {w : World} {vs : List Value} (ha : All2 (ArgR Tryz.prog w) [23] vs) : Calls Tryz.prog 4 vs.toArray w fun e w' => e = .returned (.bool true) ∧ Below w.heap.size w w' := by
  obtain ⟨v, rfl, _⟩ := Ev.all2_1 ha
  by_cases hv : ∃ a c, v = .slice a 0 c
  · obtain ⟨a, c, rfl⟩ := hv
    exact h_TextsE a c w
  · obtain ⟨m0, x0⟩ := laid_nil Tryz.prog w
    obtain ⟨m1, h1, n1, vs0, x1, hvr, hs, _, g1, k1⟩ := lay_list (S := ArgH Tryz.prog) (fun _ _ _ _ hn hk _ _ q => ArgH.keep hn hk q) lay_arg _ _ ha m0 _ _ x0
    obtain ⟨v0, rfl, q⟩ := Ev.all2_1 hs
    obtain ⟨l, hR, _, hok⟩ := rep_pts q
    cases hvr with
    | cons hvr _ =>
      refine laid_call ev_names ev_progK ev_mix known okd x1 (lf := 300000000) (d := 1022) (gt := gt) (args := #[v0]) (args' := #[v]) (.cons hvr .nil) (s_texts (lf := 300000000) (d := 1000) ⟨hR, fun a e _ => ?_⟩ hok (by decide))
      subst e
      exfalso
      cases hvr <;> exact hv ⟨_, _, rfl⟩
end Go.Proofs.YtmjolmggelkjlaaGreat
