/- Layer 47: the statement InspectCounts. -/
import Derived.Test.YtmjolmggelkjlaaGreatIH
namespace Go.Proofs.YtmjolmggelkjlaaGreat
set_option linter.unusedVariables false
set_option linter.unusedSimpArgs false
open Go.RowKit Ev Ip

theorem the_law {lf d : Nat} {f : FuncId} {ts : List TypeId} {vs : List Value} {w : World} (ha : All2 (ArgR Tryz.prog w) ts vs) (r : ∀ n h vs0, All2 (ArgH Tryz.prog h n) ts vs0 → Run (fun _ => False) n (evCall2 Tryz.prog gt lf d f vs0.toArray) h n fun v _ _ => v = .bool true) :
    Calls Tryz.prog f vs.toArray w fun e w' => e = .returned (.bool true) ∧ Below w.heap.size w w' := by
  obtain ⟨m, x⟩ := laid_nil Tryz.prog w
  exact Ev.law_of ev_names ev_progK ev_mix known okd ha x fun n h vs0 _ _ q => r n h vs0 q
theorem k_nothing (lf d n : Nat) (h : H) : Run (fun _ => False) n (evCall2 Tryz.prog gt lf (d + 1) 12 #[]) h n fun v' h' n' => v' = .bool true ∧ h' = h ∧ n' = n := by
  have e : evCall2 Tryz.prog gt lf (d + 1) 12 #[] = (chkG Tryz.prog KG).bind fun _ => M.ret (.bool true) := by kernel_rfl
  rw [e]
  have c : chkG Tryz.prog KG h n = some ⟨(), h, n, []⟩ := rfl
  refine Run.step c (Nat.le_refl _) (by simp) ?_
  rw [run_ret]
  exact ⟨rfl, rfl, rfl⟩
theorem run_nothing {β : Type} {lf d n n0 : Nat} {h : H} {W : Nat → Prop} {Q : β → H → Nat → Prop} (hn : n0 ≤ n) (K : Value → M β) (y : Run W n0 (K (.bool true)) h n Q) : Run W n0 (kcl (evCall2 Tryz.prog gt lf (d + 1)) 12 [] K) h n Q :=
  run_same (k_nothing lf d n h) hn (fun _ _ h => h.elim) y
def clean (l : List Pt) : Prop := ∀ p ∈ l, 0 ≤ p.frm ∧ 0 ≤ p.to_
section
variable {lf d : Nat}
theorem run_most {W : Nat → Prop} {n0 n cb pb oc op : Nat} {h : H} {Q : Value → H → Nat → Prop} {e : TypeId} {cs : List Value} {B : AB} {a b : Int} (g : h.get cb = some ⟨e, true, cs⟩) (hc : cb < n) (hcb : n0 ≤ cb) (gp : h.get pb = some B) (hp : pb < n) (ea : cs[oc]? = some (.int .i64 a)) (eb : B.cells[op]? = some (.int .i64 b)) (h0 : 0 ≤ a) (h1 : a ≤ 1099511627776) (hn : n0 ≤ n) (K : M Value)
    (y : ∀ h', h'.get cb = some ⟨e, true, cs.set oc (.int .i64 (tog a b))⟩ → (∀ c, c ≠ cb → h'.get c = h.get c) → Run W n0 K h' n Q) :
    Run W n0 ((timed (kld (.pointer (some ⟨cb, oc, none⟩)) M.ret)).bind fun o => (timed (kld (.pointer (some ⟨pb, op, none⟩)) M.ret)).bind fun s => (timed (kcl (evCall2 Tryz.prog gt lf (d + 1)) 22 [s.1] M.ret)).bind fun t => kad o.1 t.1 fun u => (timed (kcl (evCall2 Tryz.prog gt lf (d + 1)) 22 [u] M.ret)).bind fun v => (timed (kst (.pointer (some ⟨cb, oc, none⟩)) v.1 M.ret)).bind fun _ => chkT (!clash3 o.2 t.2) K) h n Q := by
  have hb := mst_b b
  have hoc : oc < cs.length := (List.getElem?_eq_some_iff.1 ea).1
  have w1 : IntKind.i64.wrap (a + mst b) = a + mst b := wrap_id (by omega) (by omega)
  have e3 : ∀ K : Value → M Value, kad (.int .i64 a) (.int .i64 (mst b)) K = K (.int .i64 (a + mst b)) := fun K => by
    try simp (disch := first | omega | assumption | exact Int.natCast_nonneg _) only [RXA, RXB, Nat.reduceAdd, Nat.reduceLT, wrap_id, wrap_succ, wrap_pred, zr33, zr34, zr43, zr51, zr60, zr67, zr73, zr85, zr87, zr98, zr107, zr120, zr126, zr132, zr134, zr139, zr142, zr144, zr150, zr152, zr157, zr159, zr168, zr171, zr185, zr188, zr207, zr212, zr224, zr228, zr233, zr235, zr243, zr252, zr255, zr269, zr280, zr282, zr299, zr317, zr328, zr333, w1]
  refine timed_ld' trivial cb oc _ g hc ea fun T1 t1 => ?_
  refine timed_ld' trivial pb op _ gp hp eb fun T2 t2 => ?_
  refine timed_same' okd (s_most (lf := lf) (d := d) n h b) hn fun T3 t3 => ?_
  rw [e3]
  refine timed_same' okd (s_most (lf := lf) (d := d) n h (a + mst b)) hn fun T4 t4 => ?_
  refine timed_any (Q' := fun v h1 n1 => v = undef ∧ h1 = h.set cb (some ⟨e, true, cs.set oc (.int .i64 (tog a b))⟩) ∧ n1 = n) (run_st trivial cb oc _ _ g hc hoc rfl (.inl hcb) ((run_ret _).2 ⟨rfl, rfl, rfl⟩)) fun v h' n' T5 hn' hq => ?_
  obtain ⟨rfl, rfl, rfl⟩ := hq
  rw [t1.clash t3]
  exact y _ (get_eq _ _ _) fun c hc => get_ne _ _ hc
theorem icount_loop {v : Value} {l : List Pt} (hl : l.length ≤ 100) {n0 rb cb : Nat} (hrb : n0 ≤ rb) (hcb : n0 ≤ cb) (hne : rb ≠ cb) : ∀ (m i fu n : Nat) (h : H), i + m = l.length → m < fu → PRow h n v l → h.get cb = some ⟨43, true, (totTo l i).cells⟩ → cb < n → h.get rb = some ⟨43, true, (totOf l).cells⟩ → rb < n → n0 ≤ n →
    Run (fun _ => False) n0 (lpA_balerlaw47_InspectCounts lf (evCall2 Tryz.prog gt lf (d + 1)) fu (kcA_balerlaw47_InspectCounts lf (evCall2 Tryz.prog gt lf (d + 1))) v bF (.pointer (some ⟨rb, 0, none⟩)) (.pointer (some ⟨cb, 0, none⟩)) (.bool false) v (.int .i64 (l.length : Int)) (.int .i64 (i : Int))) h n fun v' _ _ => v' = .bool true := by
  intro m
  induction m with
  | zero =>
    intro i fu n h hi hf hR g hc gr hr hn
    obtain ⟨fu, rfl⟩ : ∃ f, fu = f + 1 := ⟨fu - 1, by omega⟩
    obtain rfl : i = l.length := by omega
    obtain ⟨a, c, ev⟩ := hR.len
    have kl : ∀ K : Value → M Value, kln v K = K (.int .i64 (l.length : Int)) := fun K => by rw [ev]; rfl
    rw [lpA_balerlaw47_InspectCounts]
    try simp (disch := first | omega | assumption | exact Int.natCast_nonneg _) only [RXA, RXB, Nat.reduceAdd, Nat.reduceLT, wrap_id, wrap_succ, wrap_pred, zr33, zr34, zr43, zr51, zr60, zr67, zr73, zr85, zr87, zr98, zr107, zr120, zr126, zr132, zr134, zr139, zr142, zr144, zr150, zr152, zr157, zr159, zr168, zr171, zr185, zr188, zr207, zr212, zr224, zr228, zr233, zr235, zr243, zr252, zr255, zr269, zr280, zr282, zr299, zr317, zr328, zr333, Int.lt_irrefl]
    unfold kcA_balerlaw47_InspectCounts
    have wz : ((0 : Nat) : Int) = 0 := rfl
    have eq5 : ∀ (t : Tot) (K : Value → M Value), kge [0, 0, 0, 0, 0] (.agg t.cells.toArray) (.agg t.cells.toArray) K = K (.bool true) := fun t K => by
      have : kindsEq [0, 0, 0, 0, 0] t.cells t.cells = some true := by
        unfold Tot.cells
        simp [kindsEq, kindEq]
      show (match kindsEq [0, 0, 0, 0, 0] t.cells t.cells with
        | some b => K (.bool b)
        | none => M.fail) = _
      rw [this]
    have fin : ∀ (h' : H), h'.get rb = some ⟨43, true, (totOf l).cells⟩ → h'.get cb = some ⟨43, true, (totOf l).cells⟩ → Run (fun _ => False) n0 (klg 5 (.pointer (some ⟨rb, 0, none⟩)) fun d_1 => klg 5 (.pointer (some ⟨cb, 0, none⟩)) fun e => kge [0, 0, 0, 0, 0] d_1 e fun f => ifV f (kcl (evCall2 Tryz.prog gt lf (d + 1)) 12 [] fun g => outK [g]) (outK [bF])) h' n fun v' _ _ => v' = .bool true := fun h' q1 q2 => by
      refine run_lda0 trivial trivial rb 0 _ q1 hr (show 0 + 5 ≤ 5 by omega) ?_
      refine run_lda0 trivial trivial cb 0 _ q2 hc (show 0 + 5 ≤ 5 by omega) ?_
      show Run _ _ (kge [0, 0, 0, 0, 0] (.agg (totOf l).cells.toArray) (.agg (totOf l).cells.toArray) _) _ _ _
      rw [eq5, ifV_true]
      refine run_nothing hn _ ?_
      rw [run_out1]
    by_cases h0 : l.length = 0
    · have z0 : ¬ (0 : Int) < ((l.length : Nat) : Int) := by omega
      have e0 : bitsOf l = 0 := by
        rw [List.length_eq_zero_iff.1 h0]; rfl
      have e1 : totOf l = totTo l l.length := by
        unfold totOf
        rw [e0, ← tot_bits l l.length]
      try simp (disch := first | omega | assumption | exact Int.natCast_nonneg _) only [RXA, RXB, Nat.reduceAdd, Nat.reduceLT, wrap_id, wrap_succ, wrap_pred, zr33, zr34, zr43, zr51, zr60, zr67, zr73, zr85, zr87, zr98, zr107, zr120, zr126, zr132, zr134, zr139, zr142, zr144, zr150, zr152, zr157, zr159, zr168, zr171, zr185, zr188, zr207, zr212, zr224, zr228, zr233, zr235, zr243, zr252, zr255, zr269, zr280, zr282, zr299, zr317, zr328, zr333, kl, z0]
      exact fin h gr (by rw [e1]; exact g)
    · have z0 : (0 : Int) < ((l.length : Nat) : Int) := by omega
      obtain ⟨p, hp⟩ : ∃ p, l[0]? = some p := ⟨_, List.getElem?_eq_getElem (by omega)⟩
      obtain ⟨q, hq⟩ : ∃ q, l[l.length - 1]? = some q := ⟨_, List.getElem?_eq_getElem (by omega)⟩
      have w1 : IntKind.i64.wrap (((l.length : Nat) : Int) - 1) = ((l.length - 1 : Nat) : Int) := by rw [wrap_id (by omega) (by omega)]; omega
      have w2 : ((l.length : Nat) : Int) - 1 = ((l.length - 1 : Nat) : Int) := by omega
      have e0 : bitsOf l = if p.frm < q.to_ then IntKind.i64.wrap (q.to_ - p.frm) else 0 := by
        unfold bitsOf
        rw [hp, hq]
      try simp (disch := first | omega | assumption | exact Int.natCast_nonneg _) only [RXA, RXB, Nat.reduceAdd, Nat.reduceLT, wrap_id, wrap_succ, wrap_pred, zr33, zr34, zr43, zr51, zr60, zr67, zr73, zr85, zr87, zr98, zr107, zr120, zr126, zr132, zr134, zr139, zr142, zr144, zr150, zr152, zr157, zr159, zr168, zr171, zr185, zr188, zr207, zr212, zr224, zr228, zr233, zr235, zr243, zr252, zr255, zr269, zr280, zr282, zr299, zr317, zr328, zr333, kl, z0, w1, w2]
      refine run_pfield hR hq (o := 3) rfl _ ?_
      refine run_pfield hR (i := 0) hp (o := 2) rfl _ ?_
      by_cases c1 : p.frm < q.to_
      · rw [if_pos c1] at e0
        try simp (disch := first | omega | assumption | exact Int.natCast_nonneg _) only [RXA, RXB, Nat.reduceAdd, Nat.reduceLT, wrap_id, wrap_succ, wrap_pred, zr33, zr34, zr43, zr51, zr60, zr67, zr73, zr85, zr87, zr98, zr107, zr120, zr126, zr132, zr134, zr139, zr142, zr144, zr150, zr152, zr157, zr159, zr168, zr171, zr185, zr188, zr207, zr212, zr224, zr228, zr233, zr235, zr243, zr252, zr255, zr269, zr280, zr282, zr299, zr317, zr328, zr333, kl, c1, w1, w2]
        refine run_pfield hR hq (o := 3) rfl _ ?_
        refine run_pfield hR (i := 0) hp (o := 2) rfl _ ?_
        unfold Tot.cells at g
        try simp (disch := first | omega | assumption | exact Int.natCast_nonneg _) only [RXA, RXB, Nat.reduceAdd, Nat.reduceLT, wrap_id, wrap_succ, wrap_pred, zr33, zr34, zr43, zr51, zr60, zr67, zr73, zr85, zr87, zr98, zr107, zr120, zr126, zr132, zr134, zr139, zr142, zr144, zr150, zr152, zr157, zr159, zr168, zr171, zr185, zr188, zr207, zr212, zr224, zr228, zr233, zr235, zr243, zr252, zr255, zr269, zr280, zr282, zr299, zr317, zr328, zr333, g, hcb]
        refine fin _ (by rw [get_ne _ _ hne]; exact gr) ?_
        rw [get_eq]
        unfold totOf Tot.cells
        rw [e0]
      · have e1 : totOf l = totTo l l.length := by
          unfold totOf
          rw [e0, if_neg c1, ← tot_bits l l.length]
        try simp (disch := first | omega | assumption | exact Int.natCast_nonneg _) only [RXA, RXB, Nat.reduceAdd, Nat.reduceLT, wrap_id, wrap_succ, wrap_pred, zr33, zr34, zr43, zr51, zr60, zr67, zr73, zr85, zr87, zr98, zr107, zr120, zr126, zr132, zr134, zr139, zr142, zr144, zr150, zr152, zr157, zr159, zr168, zr171, zr185, zr188, zr207, zr212, zr224, zr228, zr233, zr235, zr243, zr252, zr255, zr269, zr280, zr282, zr299, zr317, zr328, zr333, c1]
        exact fin h gr (by rw [e1]; exact g)
  | succ m ih =>
    intro i fu n h hi hf hR g hc gr hr hn
    obtain ⟨fu, rfl⟩ : ∃ f, fu = f + 1 := ⟨fu - 1, by omega⟩
    have hlt : ((i : Nat) : Int) < ((l.length : Nat) : Int) := by omega
    obtain ⟨p, hp⟩ : ∃ p, l[i]? = some p := ⟨_, List.getElem?_eq_getElem (by omega)⟩
    have ok := totTo_ok l i (by omega)
    have hs := totTo_succ hp
    rw [lpA_balerlaw47_InspectCounts]
    try simp (disch := first | omega | assumption | exact Int.natCast_nonneg _) only [RXA, RXB, Nat.reduceAdd, Nat.reduceLT, wrap_id, wrap_succ, wrap_pred, zr33, zr34, zr43, zr51, zr60, zr67, zr73, zr85, zr87, zr98, zr107, zr120, zr126, zr132, zr134, zr139, zr142, zr144, zr150, zr152, zr157, zr159, zr168, zr171, zr185, zr188, zr207, zr212, zr224, zr228, zr233, zr235, zr243, zr252, zr255, zr269, zr280, zr282, zr299, zr317, zr328, zr333, hlt]
    refine run_part hR hp hn _ fun h1 g1 k1 => ?_
    have gc := (k1 cb hc).trans g
    have gr1 := (k1 rb hr).trans gr
    have hR1 := hR.keep (Nat.le_succ n) k1
    unfold Pt.cells at g1
    unfold Tot.cells at gc
    have hnn : n < n + 1 := Nat.lt_succ_self n
    have wb : IntKind.i64.wrap (((totTo l i).blocks : Int) + 1) = (((totTo l i).blocks + 1 : Nat) : Int) := by have := ok.b; rw [wrap_id (by omega) (by omega)]; rfl
    have ws : IntKind.i64.wrap (((totTo l i).streams : Int) + 1) = (((totTo l i).streams + 1 : Nat) : Int) := by have := ok.s; rw [wrap_id (by omega) (by omega)]; rfl
    have wi : ((i : Nat) : Int) + 1 = ((i + 1 : Nat) : Int) := rfl
    by_cases f1 : p.frm < 0
    · try simp (disch := first | omega | assumption | exact Int.natCast_nonneg _) only [RXA, RXB, Nat.reduceAdd, Nat.reduceLT, wrap_id, wrap_succ, wrap_pred, zr33, zr34, zr43, zr51, zr60, zr67, zr73, zr85, zr87, zr98, zr107, zr120, zr126, zr132, zr134, zr139, zr142, zr144, zr150, zr152, zr157, zr159, zr168, zr171, zr185, zr188, zr207, zr212, zr224, zr228, zr233, zr235, zr243, zr252, zr255, zr269, zr280, zr282, zr299, zr317, zr328, zr333, g1, f1]
      refine run_nothing (by omega) _ ?_
      unfold kcA_balerlaw47_InspectCounts
      try simp (disch := first | omega | assumption | exact Int.natCast_nonneg _) only [RXA, RXB, Nat.reduceAdd, Nat.reduceLT, wrap_id, wrap_succ, wrap_pred, zr33, zr34, zr43, zr51, zr60, zr67, zr73, zr85, zr87, zr98, zr107, zr120, zr126, zr132, zr134, zr139, zr142, zr144, zr150, zr152, zr157, zr159, zr168, zr171, zr185, zr188, zr207, zr212, zr224, zr228, zr233, zr235, zr243, zr252, zr255, zr269, zr280, zr282, zr299, zr317, zr328, zr333]
    by_cases f2 : p.to_ < 0
    · try simp (disch := first | omega | assumption | exact Int.natCast_nonneg _) only [RXA, RXB, Nat.reduceAdd, Nat.reduceLT, wrap_id, wrap_succ, wrap_pred, zr33, zr34, zr43, zr51, zr60, zr67, zr73, zr85, zr87, zr98, zr107, zr120, zr126, zr132, zr134, zr139, zr142, zr144, zr150, zr152, zr157, zr159, zr168, zr171, zr185, zr188, zr207, zr212, zr224, zr228, zr233, zr235, zr243, zr252, zr255, zr269, zr280, zr282, zr299, zr317, zr328, zr333, g1, f1, f2]
      refine run_nothing (by omega) _ ?_
      unfold kcA_balerlaw47_InspectCounts
      try simp (disch := first | omega | assumption | exact Int.natCast_nonneg _) only [RXA, RXB, Nat.reduceAdd, Nat.reduceLT, wrap_id, wrap_succ, wrap_pred, zr33, zr34, zr43, zr51, zr60, zr67, zr73, zr85, zr87, zr98, zr107, zr120, zr126, zr132, zr134, zr139, zr142, zr144, zr150, zr152, zr157, zr159, zr168, zr171, zr185, zr188, zr207, zr212, zr224, zr228, zr233, zr235, zr243, zr252, zr255, zr269, zr280, zr282, zr299, zr317, zr328, zr333]
    by_cases w2 : p.what = 2
    · have z2 : (p.what == 2) = true := by rw [w2]; rfl
      have z3 : (p.what == 3) = false := by rw [w2]; rfl
      try simp (disch := first | omega | assumption | exact Int.natCast_nonneg _) only [RXA, RXB, Nat.reduceAdd, Nat.reduceLT, wrap_id, wrap_succ, wrap_pred, zr33, zr34, zr43, zr51, zr60, zr67, zr73, zr85, zr87, zr98, zr107, zr120, zr126, zr132, zr134, zr139, zr142, zr144, zr150, zr152, zr157, zr159, zr168, zr171, zr185, zr188, zr207, zr212, zr224, zr228, zr233, zr235, zr243, zr252, zr255, zr269, zr280, zr282, zr299, zr317, zr328, zr333, g1, f1, f2, z2, gc, hcb, wb]
      refine run_most (get_eq _ _ _) (by omega) hcb (by rw [get_ne _ _ (by omega)]; exact g1) hnn rfl rfl ok.l0 ok.l1 (by omega) _ fun h2 g2 k2 => ?_
      have g12 := (k2 n (by omega)).trans ((get_ne _ _ (by omega)).trans g1)
      refine run_most g2 (by omega) hcb g12 hnn rfl rfl ok.n0 ok.n1 (by omega) _ fun h3 g3 k3 => ?_
      have g13 := (k3 n (by omega)).trans g12
      try simp (disch := first | omega | assumption | exact Int.natCast_nonneg _) only [RXA, RXB, Nat.reduceAdd, Nat.reduceLT, wrap_id, wrap_succ, wrap_pred, zr33, zr34, zr43, zr51, zr60, zr67, zr73, zr85, zr87, zr98, zr107, zr120, zr126, zr132, zr134, zr139, zr142, zr144, zr150, zr152, zr157, zr159, zr168, zr171, zr185, zr188, zr207, zr212, zr224, zr228, zr233, zr235, zr243, zr252, zr255, zr269, zr280, zr282, zr299, zr317, zr328, zr333, g13, z3]
      rw [wi]
      refine ih (i + 1) fu (n + 1) _ (by omega) (by omega) (hR1.put gc fun b hb => by rw [k3 b hb, k2 b hb, get_ne _ _ hb]) ?_ (by omega) (by rw [k3 rb hne, k2 rb hne, get_ne _ _ hne]; exact gr1) (by omega) (by omega)
      rw [hs, g3]
      unfold Tot.add
      rw [if_pos w2]
      rfl
    · have z2 : (p.what == 2) = false := beq_eq_false_iff_ne.2 w2
      by_cases w3 : p.what = 3
      · have z3 : (p.what == 3) = true := by rw [w3]; rfl
        try simp (disch := first | omega | assumption | exact Int.natCast_nonneg _) only [RXA, RXB, Nat.reduceAdd, Nat.reduceLT, wrap_id, wrap_succ, wrap_pred, zr33, zr34, zr43, zr51, zr60, zr67, zr73, zr85, zr87, zr98, zr107, zr120, zr126, zr132, zr134, zr139, zr142, zr144, zr150, zr152, zr157, zr159, zr168, zr171, zr185, zr188, zr207, zr212, zr224, zr228, zr233, zr235, zr243, zr252, zr255, zr269, zr280, zr282, zr299, zr317, zr328, zr333, g1, f1, f2, z2, z3, gc, hcb, ws]
        rw [wi]
        refine ih (i + 1) fu (n + 1) _ (by omega) (by omega) (hR1.put gc fun b hb => by simp only [get_ne _ _ hb]) ?_ (by omega) (by simp only [get_ne _ _ hne]; exact gr1) (by omega) (by omega)
        rw [hs, get_eq]
        unfold Tot.add
        rw [if_neg w2, if_pos w3]
        rfl
      · have z3 : (p.what == 3) = false := beq_eq_false_iff_ne.2 w3
        try simp (disch := first | omega | assumption | exact Int.natCast_nonneg _) only [RXA, RXB, Nat.reduceAdd, Nat.reduceLT, wrap_id, wrap_succ, wrap_pred, zr33, zr34, zr43, zr51, zr60, zr67, zr73, zr85, zr87, zr98, zr107, zr120, zr126, zr132, zr134, zr139, zr142, zr144, zr150, zr152, zr157, zr159, zr168, zr171, zr185, zr188, zr207, zr212, zr224, zr228, zr233, zr235, zr243, zr252, zr255, zr269, zr280, zr282, zr299, zr317, zr328, zr333, g1, f1, f2, z2, z3]
        rw [wi]
        refine ih (i + 1) fu (n + 1) _ (by omega) (by omega) hR1 ?_ (by omega) gr1 (by omega) (by omega)
        rw [hs]
        unfold Tot.add
        rw [if_neg w2, if_neg w3]
        exact gc
theorem s_counts {n : Nat} {h : H} {v : Value} {l : List Pt} (hR : PRow h n v l) (hlf : 2000 ≤ lf) : Run (fun _ => False) n (evCall2 Tryz.prog gt lf (d + 3) 5 #[v]) h n fun v' _ _ => v' = .bool true := by
  obtain ⟨a, c, ev⟩ := hR.len
  have kl : ∀ K : Value → M Value, kln v K = K (.int .i64 (l.length : Int)) := fun K => by rw [ev]; rfl
  rw [shOf (fun _ => st_balerlaw47_InspectCounts) rfl]
  refine Run.inside_ ?_
  unfold b_balerlaw47_InspectCounts
  by_cases h100 : 100 < l.length
  · have z : (100 : Int) < ((l.length : Nat) : Int) := by omega
    try simp (disch := first | omega | assumption | exact Int.natCast_nonneg _) only [RXA, RXB, Nat.reduceAdd, Nat.reduceLT, wrap_id, wrap_succ, wrap_pred, zr33, zr34, zr43, zr51, zr60, zr67, zr73, zr85, zr87, zr98, zr107, zr120, zr126, zr132, zr134, zr139, zr142, zr144, zr150, zr152, zr157, zr159, zr168, zr171, zr185, zr188, zr207, zr212, zr224, zr228, zr233, zr235, zr243, zr252, zr255, zr269, zr280, zr282, zr299, zr317, zr328, zr333, kl, z]
    refine run_nothing (Nat.le_refl n) _ ?_
    rw [run_out1]
  · have z : ¬ (100 : Int) < ((l.length : Nat) : Int) := by omega
    try simp (disch := first | omega | assumption | exact Int.natCast_nonneg _) only [RXA, RXB, Nat.reduceAdd, Nat.reduceLT, wrap_id, wrap_succ, wrap_pred, zr33, zr34, zr43, zr51, zr60, zr67, zr73, zr85, zr87, zr98, zr107, zr120, zr126, zr132, zr134, zr139, zr142, zr144, zr150, zr152, zr157, zr159, zr168, zr171, zr185, zr188, zr207, zr212, zr224, zr228, zr233, zr235, zr243, zr252, zr255, zr269, zr280, zr282, zr299, zr317, zr328, zr333, kl, z]
    refine run_call okd (s_Count (lf := lf) (d := d) hR (by omega) hlf) (Nat.le_refl _) (fun _ _ h => h.elim) fun v1 h1 n1 hn1 fr1 hq1 => ?_
    subst hq1
    have hR1 := hR.keep hn1 fun b hb => fr1 b hb id
    refine run_alloc rfl _ ?_
    refine run_sta (sz := 5) (off := 0) (e := 43) (cs := z43) trivial (vs := (totOf l).cells) rfl rfl rfl (get_eq _ _ _) (by omega) (by decide) (.inl hn1) _ fun h2 g2 k2 => ?_
    have k2' : ∀ c, c < n1 → h2.get c = h1.get c := fun c hc => by rw [k2 c (by omega), get_ne _ _ (by omega)]
    refine run_alloc rfl _ ?_
    refine run_sta (sz := 5) (off := 0) (e := 43) (cs := z43) trivial (vs := tot0.cells) rfl rfl rfl (get_eq _ _ _) (by omega) (by decide) (.inl (by omega)) _ fun h3 g3 k3 => ?_
    have k3' : ∀ c, c < n1 + 1 → h3.get c = h2.get c := fun c hc => by rw [k3 c (by omega), get_ne _ _ (by omega)]
    exact icount_loop (d := d + 1) (by omega) hn1 (by omega) (by omega) l.length 0 lf (n1 + 1 + 1) h3 (by omega) (by omega) ((hR1.keep (Nat.le_refl _) k2').keep (by omega) fun c hc => k3' c (by omega)) g3 (by omega) ((k3' n1 (by omega)).trans g2) (by omega) (by omega)
end
theorem call_ICounts {w : World} {vs : List Value} (ha : All2 (ArgR Tryz.prog w) [23] vs) : Calls Tryz.prog 5 vs.toArray w fun e w' => e = .returned (.bool true) ∧ Below w.heap.size w w' :=
  the_law (lf := 300000000) (d := 1003) ha fun n h vs0 q => by
    obtain ⟨a, rfl, h1⟩ := Ev.all2_1 q
    obtain ⟨l, hR, _, _⟩ := rep_pts h1
    exact s_counts (d := 1000) hR (by decide)
end Go.Proofs.YtmjolmggelkjlaaGreat
