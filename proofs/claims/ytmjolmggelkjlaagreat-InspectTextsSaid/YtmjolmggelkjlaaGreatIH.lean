/- Layer 47: Count. -/
import Derived.Test.YtmjolmggelkjlaaGreatIG
namespace Go.Proofs.YtmjolmggelkjlaaGreat
set_option linter.unusedVariables false
set_option linter.unusedSimpArgs false
open Go.RowKit Ev Ip

def bitsOf (l : List Pt) : Int := match l[0]?, l[l.length - 1]? with
  | some a, some b => if a.frm < b.to_ then IntKind.i64.wrap (b.to_ - a.frm) else 0
  | _, _ => 0
def totOf (l : List Pt) : Tot := { totTo l l.length with bits := bitsOf l }
theorem tot_bits (l : List Pt) (i : Nat) : (totTo l i).bits = 0 := by
  unfold totTo
  generalize l.take i = q
  have : ∀ (q : List Pt) (t : Tot), t.bits = 0 → (q.foldl Tot.add t).bits = 0 := by
    intro q
    induction q with
    | nil => intro t h; exact h
    | cons p q ih =>
      intro t h
      refine ih _ ?_
      unfold Tot.add
      split
      · exact h
      · split <;> exact h
  exact this q _ rfl
section
variable {lf d : Nat}
theorem PRow.put {h h' : H} {n : Nat} {v : Value} {l : List Pt} {cb : Nat} {e : TypeId} {cs : List Value} (x : PRow h n v l) (g : h.get cb = some ⟨e, true, cs⟩) (hk : ∀ b, b ≠ cb → h'.get b = h.get b) : PRow h' n v l := by
  rcases x with q | ⟨b, e, g2, hb⟩
  · exact .inl q
  · refine .inr ⟨b, e, (hk b fun q => ?_).trans g2, hb⟩
    rw [q, g] at g2
    cases g2
theorem copy_out {β : Type} {W : Nat → Prop} {n0 n rb cb : Nat} {h : H} {Q : β → H → Nat → Prop} {t : Tot} (g : h.get cb = some ⟨43, true, t.cells⟩) (hc : cb < n) (gr : h.get rb = some ⟨43, true, z43⟩) (hr : rb < n) (hrb : n0 ≤ rb) (k : Value → M β)
    (y : ∀ h', (∀ c, c ≠ rb → h'.get c = h.get c) → Run W n0 (k (.agg t.cells.toArray)) h' n Q) : Run W n0 (klg 5 (.pointer (some ⟨cb, 0, none⟩)) fun d => ksg 5 (.pointer (some ⟨rb, 0, none⟩)) d fun _ => klg 5 (.pointer (some ⟨rb, 0, none⟩)) k) h n Q := by
  refine run_lda0 trivial trivial cb 0 _ g hc (show 0 + 5 ≤ 5 by omega) ?_
  refine run_sta (sz := 5) (off := 0) (e := 43) (cs := z43) trivial (vs := t.cells) rfl rfl rfl gr hr (by decide) (.inl hrb) _ fun h' g' k' => ?_
  refine run_lda0 trivial trivial rb 0 _ g' hr (by show 0 + 5 ≤ 5; omega) ?_
  exact y h' k'
theorem count_loop {v : Value} {l : List Pt} (hl : l.length ≤ 1000) {n0 rb cb : Nat} (hrb : n0 ≤ rb) (hcb : n0 ≤ cb) (hne : rb ≠ cb) : ∀ (m i fu n : Nat) (h : H), i + m = l.length → m < fu → PRow h n v l → h.get cb = some ⟨43, true, (totTo l i).cells⟩ → cb < n → h.get rb = some ⟨43, true, z43⟩ → rb < n → n0 ≤ n →
    Run (fun _ => False) n0 (lpA_inspect_Count lf (evCall2 Tryz.prog gt lf (d + 1)) fu (kcA_inspect_Count lf (evCall2 Tryz.prog gt lf (d + 1))) v (.pointer (some ⟨rb, 0, none⟩)) (.pointer (some ⟨cb, 0, none⟩)) v (.int .i64 (l.length : Int)) (.int .i64 (i : Int))) h n fun v' _ _ => v' = .agg (totOf l).cells.toArray := by
  intro m
  induction m with
  | zero =>
    intro i fu n h hi hf hR g hc gr hr hn
    obtain ⟨fu, rfl⟩ : ∃ f, fu = f + 1 := ⟨fu - 1, by omega⟩
    obtain rfl : i = l.length := by omega
    obtain ⟨a, c, ev⟩ := hR.len
    rw [lpA_inspect_Count]
    try simp (disch := first | omega | assumption | exact Int.natCast_nonneg _) only [RXA, RXB, Nat.reduceAdd, Nat.reduceLT, wrap_id, wrap_succ, wrap_pred, zr33, zr34, zr43, zr51, zr60, zr67, zr73, zr85, zr87, zr98, zr107, zr120, zr126, zr132, zr134, zr139, zr142, zr144, zr150, zr152, zr157, zr159, zr168, zr171, zr185, zr188, zr207, zr212, zr224, zr228, zr233, zr235, zr243, zr252, zr255, zr269, zr280, zr282, zr299, zr317, zr328, zr333, Int.lt_irrefl]
    unfold kcA_inspect_Count
    by_cases h0 : l.length = 0
    · have z0 : ¬ (0 : Int) < ((l.length : Nat) : Int) := by omega
      have e0 : bitsOf l = 0 := by
        rw [List.length_eq_zero_iff.1 h0]; rfl
      have e1 : totOf l = totTo l l.length := by
        unfold totOf
        rw [e0, ← tot_bits l l.length]
      subst ev
      try simp (disch := first | omega | assumption | exact Int.natCast_nonneg _) only [RXA, RXB, Nat.reduceAdd, Nat.reduceLT, wrap_id, wrap_succ, wrap_pred, zr33, zr34, zr43, zr51, zr60, zr67, zr73, zr85, zr87, zr98, zr107, zr120, zr126, zr132, zr134, zr139, zr142, zr144, zr150, zr152, zr157, zr159, zr168, zr171, zr185, zr188, zr207, zr212, zr224, zr228, zr233, zr235, zr243, zr252, zr255, zr269, zr280, zr282, zr299, zr317, zr328, zr333, z0]
      refine copy_out g hc gr hr hrb _ fun h' _ => ?_
      rw [run_out1, e1]
    · have z0 : (0 : Int) < ((l.length : Nat) : Int) := by omega
      obtain ⟨p, hp⟩ : ∃ p, l[0]? = some p := ⟨_, List.getElem?_eq_getElem (by omega)⟩
      obtain ⟨q, hq⟩ : ∃ q, l[l.length - 1]? = some q := ⟨_, List.getElem?_eq_getElem (by omega)⟩
      have w1 : IntKind.i64.wrap (((l.length : Nat) : Int) - 1) = ((l.length - 1 : Nat) : Int) := by rw [wrap_id (by omega) (by omega)]; omega
      have e0 : bitsOf l = if p.frm < q.to_ then IntKind.i64.wrap (q.to_ - p.frm) else 0 := by
        unfold bitsOf
        rw [hp, hq]
      have kl : ∀ K : Value → M Value, kln v K = K (.int .i64 (l.length : Int)) := fun K => by rw [ev]; rfl
      try simp (disch := first | omega | assumption | exact Int.natCast_nonneg _) only [RXA, RXB, Nat.reduceAdd, Nat.reduceLT, wrap_id, wrap_succ, wrap_pred, zr33, zr34, zr43, zr51, zr60, zr67, zr73, zr85, zr87, zr98, zr107, zr120, zr126, zr132, zr134, zr139, zr142, zr144, zr150, zr152, zr157, zr159, zr168, zr171, zr185, zr188, zr207, zr212, zr224, zr228, zr233, zr235, zr243, zr252, zr255, zr269, zr280, zr282, zr299, zr317, zr328, zr333, kl, z0, w1]
      refine run_pfield hR hq (o := 3) rfl _ ?_
      refine run_pfield hR (i := 0) hp (o := 2) rfl _ ?_
      by_cases c1 : p.frm < q.to_
      · rw [if_pos c1] at e0
        try simp (disch := first | omega | assumption | exact Int.natCast_nonneg _) only [RXA, RXB, Nat.reduceAdd, Nat.reduceLT, wrap_id, wrap_succ, wrap_pred, zr33, zr34, zr43, zr51, zr60, zr67, zr73, zr85, zr87, zr98, zr107, zr120, zr126, zr132, zr134, zr139, zr142, zr144, zr150, zr152, zr157, zr159, zr168, zr171, zr185, zr188, zr207, zr212, zr224, zr228, zr233, zr235, zr243, zr252, zr255, zr269, zr280, zr282, zr299, zr317, zr328, zr333, kl, c1, w1]
        refine run_pfield hR hq (o := 3) rfl _ ?_
        refine run_pfield hR (i := 0) hp (o := 2) rfl _ ?_
        unfold Tot.cells at g
        try simp (disch := first | omega | assumption | exact Int.natCast_nonneg _) only [RXA, RXB, Nat.reduceAdd, Nat.reduceLT, wrap_id, wrap_succ, wrap_pred, zr33, zr34, zr43, zr51, zr60, zr67, zr73, zr85, zr87, zr98, zr107, zr120, zr126, zr132, zr134, zr139, zr142, zr144, zr150, zr152, zr157, zr159, zr168, zr171, zr185, zr188, zr207, zr212, zr224, zr228, zr233, zr235, zr243, zr252, zr255, zr269, zr280, zr282, zr299, zr317, zr328, zr333, g, hcb]
        refine copy_out (t := totOf l) (by
          rw [get_eq]
          unfold totOf Tot.cells
          rw [e0]) hc (by rw [get_ne _ _ hne]; exact gr) hr hrb _ fun h' _ => ?_
        rw [run_out1]
      · have e1 : totOf l = totTo l l.length := by
          unfold totOf
          rw [e0, if_neg c1, ← tot_bits l l.length]
        try simp (disch := first | omega | assumption | exact Int.natCast_nonneg _) only [RXA, RXB, Nat.reduceAdd, Nat.reduceLT, wrap_id, wrap_succ, wrap_pred, zr33, zr34, zr43, zr51, zr60, zr67, zr73, zr85, zr87, zr98, zr107, zr120, zr126, zr132, zr134, zr139, zr142, zr144, zr150, zr152, zr157, zr159, zr168, zr171, zr185, zr188, zr207, zr212, zr224, zr228, zr233, zr235, zr243, zr252, zr255, zr269, zr280, zr282, zr299, zr317, zr328, zr333, c1]
        refine copy_out g hc gr hr hrb _ fun h' _ => ?_
        rw [run_out1, e1]
  | succ m ih =>
    intro i fu n h hi hf hR g hc gr hr hn
    obtain ⟨fu, rfl⟩ : ∃ f, fu = f + 1 := ⟨fu - 1, by omega⟩
    have hlt : ((i : Nat) : Int) < ((l.length : Nat) : Int) := by omega
    obtain ⟨p, hp⟩ : ∃ p, l[i]? = some p := ⟨_, List.getElem?_eq_getElem (by omega)⟩
    have ok := totTo_ok l i (by omega)
    have hs := totTo_succ hp
    rw [lpA_inspect_Count]
    try simp (disch := first | omega | assumption | exact Int.natCast_nonneg _) only [RXA, RXB, Nat.reduceAdd, Nat.reduceLT, wrap_id, wrap_succ, wrap_pred, zr33, zr34, zr43, zr51, zr60, zr67, zr73, zr85, zr87, zr98, zr107, zr120, zr126, zr132, zr134, zr139, zr142, zr144, zr150, zr152, zr157, zr159, zr168, zr171, zr185, zr188, zr207, zr212, zr224, zr228, zr233, zr235, zr243, zr252, zr255, zr269, zr280, zr282, zr299, zr317, zr328, zr333, hlt]
    refine run_part hR hp hn _ fun h1 g1 k1 => ?_
    have gc := (k1 cb hc).trans g
    have gr1 := (k1 rb hr).trans gr
    have hR1 := hR.keep (Nat.le_succ n) k1
    unfold Pt.cells at g1
    unfold Tot.cells at gc
    have hnn : n < n + 1 := Nat.lt_succ_self n
    have wb : IntKind.i64.wrap (((totTo l i).blocks : Int) + 1) = (((totTo l i).blocks + 1 : Nat) : Int) := by have := ok.b; rw [wrap_id (by omega) (by omega)]; rfl
    have ws : IntKind.i64.wrap (((totTo l i).streams : Int) + 1) = (((totTo l i).streams + 1 : Nat) : Int) := by have := ok.s; rw [wrap_id (by omega) (by omega)]; rfl
    have wi : ((i : Nat) : Int) + 1 = ((i + 1 : Nat) : Int) := rfl
    by_cases w2 : p.what = 2
    · have z2 : (p.what == 2) = true := by rw [w2]; rfl
      try simp (disch := first | omega | assumption | exact Int.natCast_nonneg _) only [RXA, RXB, Nat.reduceAdd, Nat.reduceLT, wrap_id, wrap_succ, wrap_pred, zr33, zr34, zr43, zr51, zr60, zr67, zr73, zr85, zr87, zr98, zr107, zr120, zr126, zr132, zr134, zr139, zr142, zr144, zr150, zr152, zr157, zr159, zr168, zr171, zr185, zr188, zr207, zr212, zr224, zr228, zr233, zr235, zr243, zr252, zr255, zr269, zr280, zr282, zr299, zr317, zr328, zr333, g1, z2, gc, hcb, wb]
      refine run_same (s_together (lf := lf) (d := d) _ _ ok.l0 ok.l1) (by omega) (fun _ _ h => h.elim) ?_
      try simp (disch := first | omega | assumption | exact Int.natCast_nonneg _) only [RXA, RXB, Nat.reduceAdd, Nat.reduceLT, wrap_id, wrap_succ, wrap_pred, zr33, zr34, zr43, zr51, zr60, zr67, zr73, zr85, zr87, zr98, zr107, zr120, zr126, zr132, zr134, zr139, zr142, zr144, zr150, zr152, zr157, zr159, zr168, zr171, zr185, zr188, zr207, zr212, zr224, zr228, zr233, zr235, zr243, zr252, zr255, zr269, zr280, zr282, zr299, zr317, zr328, zr333, g1, hcb]
      refine run_same (s_together (lf := lf) (d := d) _ _ ok.n0 ok.n1) (by omega) (fun _ _ h => h.elim) ?_
      try simp (disch := first | omega | assumption | exact Int.natCast_nonneg _) only [RXA, RXB, Nat.reduceAdd, Nat.reduceLT, wrap_id, wrap_succ, wrap_pred, zr33, zr34, zr43, zr51, zr60, zr67, zr73, zr85, zr87, zr98, zr107, zr120, zr126, zr132, zr134, zr139, zr142, zr144, zr150, zr152, zr157, zr159, zr168, zr171, zr185, zr188, zr207, zr212, zr224, zr228, zr233, zr235, zr243, zr252, zr255, zr269, zr280, zr282, zr299, zr317, zr328, zr333, hcb]
      rw [wi]
      refine ih (i + 1) fu (n + 1) _ (by omega) (by omega) (hR1.put gc fun b hb => by simp only [get_ne _ _ hb]) ?_ (by omega) (by simp only [get_ne _ _ hne]; exact gr1) (by omega) (by omega)
      rw [hs, get_eq]
      unfold Tot.add
      rw [if_pos w2]
      rfl
    · have z2 : (p.what == 2) = false := beq_eq_false_iff_ne.2 w2
      by_cases w3 : p.what = 3
      · have z3 : (p.what == 3) = true := by rw [w3]; rfl
        try simp (disch := first | omega | assumption | exact Int.natCast_nonneg _) only [RXA, RXB, Nat.reduceAdd, Nat.reduceLT, wrap_id, wrap_succ, wrap_pred, zr33, zr34, zr43, zr51, zr60, zr67, zr73, zr85, zr87, zr98, zr107, zr120, zr126, zr132, zr134, zr139, zr142, zr144, zr150, zr152, zr157, zr159, zr168, zr171, zr185, zr188, zr207, zr212, zr224, zr228, zr233, zr235, zr243, zr252, zr255, zr269, zr280, zr282, zr299, zr317, zr328, zr333, g1, z2, z3, gc, hcb, ws]
        rw [wi]
        refine ih (i + 1) fu (n + 1) _ (by omega) (by omega) (hR1.put gc fun b hb => by simp only [get_ne _ _ hb]) ?_ (by omega) (by simp only [get_ne _ _ hne]; exact gr1) (by omega) (by omega)
        rw [hs, get_eq]
        unfold Tot.add
        rw [if_neg w2, if_pos w3]
        rfl
      · have z3 : (p.what == 3) = false := beq_eq_false_iff_ne.2 w3
        try simp (disch := first | omega | assumption | exact Int.natCast_nonneg _) only [RXA, RXB, Nat.reduceAdd, Nat.reduceLT, wrap_id, wrap_succ, wrap_pred, zr33, zr34, zr43, zr51, zr60, zr67, zr73, zr85, zr87, zr98, zr107, zr120, zr126, zr132, zr134, zr139, zr142, zr144, zr150, zr152, zr157, zr159, zr168, zr171, zr185, zr188, zr207, zr212, zr224, zr228, zr233, zr235, zr243, zr252, zr255, zr269, zr280, zr282, zr299, zr317, zr328, zr333, g1, z2, z3]
        rw [wi]
        refine ih (i + 1) fu (n + 1) _ (by omega) (by omega) hR1 ?_ (by omega) gr1 (by omega) (by omega)
        rw [hs]
        unfold Tot.add
        rw [if_neg w2, if_neg w3]
        exact gc
theorem s_Count {n : Nat} {h : H} {v : Value} {l : List Pt} (hR : PRow h n v l) (hl : l.length ≤ 1000) (hlf : 2000 ≤ lf) : Run (fun _ => False) n (evCall2 Tryz.prog gt lf (d + 2) 21 #[v]) h n fun v' _ _ => v' = .agg (totOf l).cells.toArray := by
  obtain ⟨a, c, ev⟩ := hR.len
  have kl : ∀ K : Value → M Value, kln v K = K (.int .i64 (l.length : Int)) := fun K => by rw [ev]; rfl
  rw [shOf (fun _ => st_inspect_Count) rfl]
  refine Run.inside_ ?_
  unfold b_inspect_Count
  refine run_alloc rfl _ ?_
  refine run_alloc rfl _ ?_
  try simp (disch := first | omega | assumption | exact Int.natCast_nonneg _) only [RXA, RXB, Nat.reduceAdd, Nat.reduceLT, wrap_id, wrap_succ, wrap_pred, zr33, zr34, zr43, zr51, zr60, zr67, zr73, zr85, zr87, zr98, zr107, zr120, zr126, zr132, zr134, zr139, zr142, zr144, zr150, zr152, zr157, zr159, zr168, zr171, zr185, zr188, zr207, zr212, zr224, zr228, zr233, zr235, zr243, zr252, zr255, zr269, zr280, zr282, zr299, zr317, zr328, zr333, kl]
  refine count_loop hl (Nat.le_refl n) (Nat.le_succ n) (by omega) l.length 0 lf (n + 1 + 1) _ (by omega) (by omega) (hR.keep (by omega) fun b hb => by rw [get_ne _ _ (by omega), get_ne _ _ (by omega)]) ?_ (by omega) (by rw [get_ne _ _ (by omega), get_eq]; rfl) (by omega) (by omega)
  rw [get_eq]
  rfl
end
end Go.Proofs.YtmjolmggelkjlaaGreat
