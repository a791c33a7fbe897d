/- The library's stable sort by the second form: the comparison; insertion. -/
import Derived.Test.YtapdcejhfooahaaL2
import Derived.Test.YtapdcejhfooahaaLSo
namespace Go.Proofs.Ytapdcejhfooahaa
set_option linter.unusedVariables false
set_option linter.unusedSimpArgs false
open Go.RowKit Ev Hu

theorem callV2 {β : Type} {rec : FuncId → Array Value → M Value} (g : FuncId) (hb : hasBody Try.prog g = true) (c : Value) (a b : Value) (k : Value → M β) : callV Try.prog rec (.func (.func g) #[] #[c]) [a, b] k = (inside (rec g #[a, b, c])).bind k := by
  unfold callV
  show optK (some _) _ = _
  rw [optK_some_eq]
  simp only [hb]
  rfl
theorem callT {β : Type} {rec : FuncId → Array Value → M Value} (c : Value) (a b : Value) (k : Value → M β) : callV Try.prog rec (.func (.func 34) #[] #[c]) [a, b] k = (inside (rec 34 #[a, b, c])).bind k := callV2 _ (by kernel_rfl) c a b k
theorem run_same {β : Type} {W : Nat → Prop} {n0 : Nat} {h : H} {n : Nat} {Q : β → H → Nat → Prop} {lf d : Nat} {f : FuncId} {args : Array Value} {v : Value} {W' : Nat → Prop} (s : Run W' n (evCall2 Try.prog gt lf d f args) h n fun v' h' n' => v' = v ∧ h' = h ∧ n' = n) (hn : n0 ≤ n) (hW : ∀ b, b < n → W' b → n0 ≤ b ∨ W b) {k : Value → M β} (x : Run W n0 (k v) h n Q) : Run W n0 ((inside (evCall2 Try.prog gt lf d f args)).bind k) h n Q := by
  refine run_call okd s hn hW fun v' h' n' _ _ hq => ?_
  obtain ⟨rfl, rfl, rfl⟩ := hq
  exact x

theorem s_isNaN (lf d : Nat) (h : H) (n : Nat) (x : Int) : Run (fun _ => False) n (evCall2 Try.prog gt lf (d + 1) 37 #[.int .i64 x]) h n fun v h' n' => v = .bool false ∧ h' = h ∧ n' = n := by
  rw [sh_cmp_isNaN_int]
  refine Run.inside_ ?_
  unfold b_cmp_isNaN_int
  have e : (x != x) = false := by simp
  try simp (disch := first | omega | assumption | exact one_int _ _ | exact one_slice _ _ _ | exact one_ptr _ | exact one_bool _ | exact one_string _) only [optK_some_eq, nil2_ptr, ifV_true, ifV_false, run_if, run_out0, run_out1, run_out2, run_out3, optG_some, one_int, one_bool, one_string, one_slice, one_ptr, min2_eq, max2_eq, pick2_eq, u_not, u_neg, cells_agg, inside_ret, chk_true, get_eq, get_ne, List.getElem?_cons_zero, List.getElem?_cons_succ, List.set_cons_zero, List.set_cons_succ, List.length_cons, List.length_nil, Int.toNat_natCast, Int.toNat_zero, Nat.zero_add, Nat.add_zero, decide_eq_true_eq, decide_eq_false_iff_not, true_and, and_true, if_true, if_false, true_or, or_true, Bool.false_eq_true, Bool.true_eq_false, Nat.reduceAdd, Nat.reduceLT, wrap_id, wrap_succ, wrap_pred, len22, bgtr3, bleq3, blss3, beql24, beql3, ix22, ldr3, badd3, bneq3, bneq24, bmul3, str3, bsub3, bshl3, bquo3, bd36x0x1x2, len34, ix34, fa36f2, ldr22, fa36f0, fa46f0, bgeq3, fa46f1, beql22s, beql22n, bd46x0x3, fa46f2, str22, fa46f3, fa36f1, cv3x54, bshr54, cv54x3, e]
theorem s_Compare (lf d : Nat) (h : H) (n : Nat) (x y : Int) : Run (fun _ => False) n (evCall2 Try.prog gt lf (d + 2) 35 #[.int .i64 x, .int .i64 y]) h n fun v h' n' => v = .int .i64 (cmp3 x y) ∧ h' = h ∧ n' = n := by
  rw [sh_cmp_Compare_int]
  refine Run.inside_ ?_
  unfold b_cmp_Compare_int
  refine run_same (s_isNaN _ _ _ _ _) (Nat.le_refl _) (fun _ _ h => h.elim) ?_
  refine run_same (s_isNaN _ _ _ _ _) (Nat.le_refl _) (fun _ _ h => h.elim) ?_
  unfold cmp3
  try simp (disch := first | omega | assumption | exact one_int _ _ | exact one_slice _ _ _ | exact one_ptr _ | exact one_bool _ | exact one_string _) only [optK_some_eq, nil2_ptr, ifV_true, ifV_false, run_if, run_out0, run_out1, run_out2, run_out3, optG_some, one_int, one_bool, one_string, one_slice, one_ptr, min2_eq, max2_eq, pick2_eq, u_not, u_neg, cells_agg, inside_ret, chk_true, get_eq, get_ne, List.getElem?_cons_zero, List.getElem?_cons_succ, List.set_cons_zero, List.set_cons_succ, List.length_cons, List.length_nil, Int.toNat_natCast, Int.toNat_zero, Nat.zero_add, Nat.add_zero, decide_eq_true_eq, decide_eq_false_iff_not, true_and, and_true, if_true, if_false, true_or, or_true, Bool.false_eq_true, Bool.true_eq_false, Nat.reduceAdd, Nat.reduceLT, wrap_id, wrap_succ, wrap_pred, len22, bgtr3, bleq3, blss3, beql24, beql3, ix22, ldr3, badd3, bneq3, bneq24, bmul3, str3, bsub3, bshl3, bquo3, bd36x0x1x2, len34, ix34, fa36f2, ldr22, fa36f0, fa46f0, bgeq3, fa46f1, beql22s, beql22n, bd46x0x3, fa46f2, str22, fa46f3, fa36f1, cv3x54, bshr54, cv54x3]
  by_cases h1 : x < y
  · simp [h1]
  · by_cases h2 : y < x
    · simp [h1, h2]
    · simp [h1, h2]

/-- what a comparison reads: the weights, in a variable that it has captured -/
structure EnvT (h : H) (n g pw : Nat) (ws : List Int) : Prop where
  ex : ∃ wb off cap e1 o1 e2 o2 cs, h.get pw = some ⟨e1, o1, [.slice (some ⟨wb, off, none⟩) ws.length cap]⟩ ∧ h.get wb = some ⟨e2, o2, cs⟩ ∧ wb < n ∧ wb ≠ g ∧ ∀ i, i < ws.length → cs[off + i]? = some (.int .i64 (ws.getD i 0))
  pn : pw < n
  pg : pw ≠ g
theorem EnvT.keeps {h h' : H} {n g pw : Nat} {ws : List Int} (e : EnvT h n g pw ws) (k : ∀ b, b ≠ g → h'.get b = h.get b) : EnvT h' n g pw ws := by
  obtain ⟨⟨wb, off, cap, e1, o1, e2, o2, cs, h1, h2, h3, h4, h5⟩, h6, h7⟩ := e
  exact ⟨⟨wb, off, cap, e1, o1, e2, o2, cs, by rw [k pw h7]; exact h1, by rw [k wb h4]; exact h2, h3, h4, h5⟩, h6, h7⟩
theorem s_cmp (lf d a b : Nat) (h : H) (n g pw : Nat) (ws : List Int) (hE : EnvT h n g pw ws) (ha : a < ws.length) (hb : b < ws.length) : Run (fun _ => False) n (evCall2 Try.prog gt lf (d + 3) 34 #[.int .i64 (a : Nat), .int .i64 (b : Nat), .pointer (some ⟨pw, 0, none⟩)]) h n fun v h' n' => v = .int .i64 (cmp3 (keyW ws a) (keyW ws b)) ∧ h' = h ∧ n' = n := by
  obtain ⟨⟨wb, off, cap, e1, o1, e2, o2, cs, h1, h2, h3, h4, h5⟩, h6, h7⟩ := hE
  have c1 : cs[off + a]? = some (.int .i64 (keyW ws a)) := h5 a ha
  have c2 : cs[off + b]? = some (.int .i64 (keyW ws b)) := h5 b hb
  rw [sh_lens_treesOf_1]
  refine Run.inside_ ?_
  unfold b_lens_treesOf_1
  try simp (disch := first | omega | assumption | exact one_int _ _ | exact one_slice _ _ _ | exact one_ptr _ | exact one_bool _ | exact one_string _) only [optK_some_eq, nil2_ptr, ifV_true, ifV_false, run_if, run_out0, run_out1, run_out2, run_out3, optG_some, one_int, one_bool, one_string, one_slice, one_ptr, min2_eq, max2_eq, pick2_eq, u_not, u_neg, cells_agg, inside_ret, chk_true, get_eq, get_ne, List.getElem?_cons_zero, List.getElem?_cons_succ, List.set_cons_zero, List.set_cons_succ, List.length_cons, List.length_nil, Int.toNat_natCast, Int.toNat_zero, Nat.zero_add, Nat.add_zero, decide_eq_true_eq, decide_eq_false_iff_not, true_and, and_true, if_true, if_false, true_or, or_true, Bool.false_eq_true, Bool.true_eq_false, Nat.reduceAdd, Nat.reduceLT, wrap_id, wrap_succ, wrap_pred, len22, bgtr3, bleq3, blss3, beql24, beql3, ix22, ldr3, badd3, bneq3, bneq24, bmul3, str3, bsub3, bshl3, bquo3, bd36x0x1x2, len34, ix34, fa36f2, ldr22, fa36f0, fa46f0, bgeq3, fa46f1, beql22s, beql22n, bd46x0x3, fa46f2, str22, fa46f3, fa36f1, cv3x54, bshr54, cv54x3, h1, h2, c1, c2]
  refine run_same (s_Compare _ _ _ _ _ _) (Nat.le_refl _) (fun _ _ h => h.elim) ?_
  try simp (disch := first | omega | assumption | exact one_int _ _ | exact one_slice _ _ _ | exact one_ptr _ | exact one_bool _ | exact one_string _) only [optK_some_eq, nil2_ptr, ifV_true, ifV_false, run_if, run_out0, run_out1, run_out2, run_out3, optG_some, one_int, one_bool, one_string, one_slice, one_ptr, min2_eq, max2_eq, pick2_eq, u_not, u_neg, cells_agg, inside_ret, chk_true, get_eq, get_ne, List.getElem?_cons_zero, List.getElem?_cons_succ, List.set_cons_zero, List.set_cons_succ, List.length_cons, List.length_nil, Int.toNat_natCast, Int.toNat_zero, Nat.zero_add, Nat.add_zero, decide_eq_true_eq, decide_eq_false_iff_not, true_and, and_true, if_true, if_false, true_or, or_true, Bool.false_eq_true, Bool.true_eq_false, Nat.reduceAdd, Nat.reduceLT, wrap_id, wrap_succ, wrap_pred, len22, bgtr3, bleq3, blss3, beql24, beql3, ix22, ldr3, badd3, bneq3, bneq24, bmul3, str3, bsub3, bshl3, bquo3, bd36x0x1x2, len34, ix34, fa36f2, ldr22, fa36f0, fa46f0, bgeq3, fa46f1, beql22s, beql22n, bd46x0x3, fa46f2, str22, fa46f3, fa36f1, cv3x54, bshr54, cv54x3]
theorem nats_get {xs : List Nat} {i : Nat} (h : i < xs.length) : (nats xs)[i]? = some (.int .i64 (xs.getD i 0 : Nat)) := by unfold nats; simp [h]
theorem nats_len (xs : List Nat) : (nats xs).length = xs.length := by unfold nats; simp
theorem nats_set (xs : List Nat) (i v : Nat) : (nats xs).set i (.int .i64 (v : Nat)) = nats (xs.set i v) := by unfold nats; rw [List.map_set]
/-- the leaves' block and nothing else has changed -/
def At (h hr : H) (g : Nat) (xs : List Nat) : Prop := hr.get g = some ⟨3, true, nats xs⟩ ∧ ∀ b, b ≠ g → hr.get b = h.get b
theorem At.set {h hr : H} {g : Nat} {xs ys : List Nat} (a : At h hr g xs) {e : TypeId} {o : Bool} (he : e = 3) (ho : o = true) : At h (hr.set g (some ⟨e, o, nats ys⟩)) g ys := by
  subst he ho
  exact ⟨get_eq _ _ _, fun b hb => by rw [get_ne _ _ hb]; exact a.2 b hb⟩

set_option maxHeartbeats 1000000 in
theorem insB (lf d g n cap pw : Nat) (ws : List Int) (h : H) (pre post Y : List Nat) (x : Nat) (D : List Nat) (N : Nat) (hN : (pre ++ (D ++ x :: Y) ++ post).length = N) (hNb : N ≤ 1000000) (hE : EnvT h n g pw ws) (hg : g < n) (hx : x < ws.length) (hD : ∀ z ∈ D, z < ws.length) {W : Nat → Prop} {n0 : Nat} (hn0 : n0 ≤ n) (hW : n0 ≤ g ∨ W g) {Q : Value → H → Nat → Prop} (k : Ex → Fr → M Value) (x2 x8 x14 : Value)
    (hK : ∀ L R J hr y34, L ++ R = D → (∀ r ∈ R, keyW ws x < keyW ws r) → (L = [] ∨ ¬ keyW ws x < keyW ws (L.getD (L.length - 1) 0)) → At h hr g (pre ++ (L ++ x :: R ++ Y) ++ post) → Run W n0 (k (Ex.exit 2) [(0, .slice (some ⟨g, 0, none⟩) N cap), (1, .int .i64 (pre.length : Nat)), (2, x2), (3, .func (.func 34) #[] #[.pointer (some ⟨pw, 0, none⟩)]), (8, x8), (9, J), (14, x14), (34, y34)]) hr n Q) :
    ∀ (m : Nat) (L R : List Nat) (fu : Nat) (hr : H), L.length = m → m < fu → L ++ R = D → (∀ r ∈ R, keyW ws x < keyW ws r) → At h hr g (pre ++ (L ++ x :: R ++ Y) ++ post) →
      Run W n0 (lpB_slices_insertionSortCmpFunc_int lf (d + 3) fu k (.slice (some ⟨g, 0, none⟩) N cap) (.int .i64 (pre.length : Nat)) x2 (.func (.func 34) #[] #[.pointer (some ⟨pw, 0, none⟩)]) x8 (.int .i64 ((pre.length + m : Nat) : Int)) x14) hr n Q := by
  intro m
  induction m with
  | zero =>
    intro L R fu hr hL hfu hLR hR hA
    obtain ⟨fu, rfl⟩ : ∃ f, fu = f + 1 := ⟨fu - 1, by omega⟩
    have : L = [] := List.length_eq_zero_iff.1 hL
    subst this
    rw [succB_slices_insertionSortCmpFunc_int]
    try simp (disch := first | omega | assumption | exact one_int _ _ | exact one_slice _ _ _ | exact one_ptr _ | exact one_bool _ | exact one_string _) only [optK_some_eq, nil2_ptr, ifV_true, ifV_false, run_if, run_out0, run_out1, run_out2, run_out3, optG_some, one_int, one_bool, one_string, one_slice, one_ptr, min2_eq, max2_eq, pick2_eq, u_not, u_neg, cells_agg, inside_ret, chk_true, get_eq, get_ne, List.getElem?_cons_zero, List.getElem?_cons_succ, List.set_cons_zero, List.set_cons_succ, List.length_cons, List.length_nil, Int.toNat_natCast, Int.toNat_zero, Nat.zero_add, Nat.add_zero, decide_eq_true_eq, decide_eq_false_iff_not, true_and, and_true, if_true, if_false, true_or, or_true, Bool.false_eq_true, Bool.true_eq_false, Nat.reduceAdd, Nat.reduceLT, wrap_id, wrap_succ, wrap_pred, len22, bgtr3, bleq3, blss3, beql24, beql3, ix22, ldr3, badd3, bneq3, bneq24, bmul3, str3, bsub3, bshl3, bquo3, bd36x0x1x2, len34, ix34, fa36f2, ldr22, fa36f0, fa46f0, bgeq3, fa46f1, beql22s, beql22n, bd46x0x3, fa46f2, str22, fa46f3, fa36f1, cv3x54, bshr54, cv54x3, Int.lt_irrefl]
    exact hK [] R _ hr _ hLR hR (.inl rfl) hA
  | succ m ih =>
    intro L R fu hr hL hfu hLR hR hA
    obtain ⟨fu, rfl⟩ : ∃ f, fu = f + 1 := ⟨fu - 1, by omega⟩
    obtain ⟨L', y, rfl⟩ : ∃ L' y, L = L' ++ [y] := ⟨L.dropLast, L.getLast (by intro e; rw [e] at hL; simp at hL), (List.dropLast_concat_getLast _).symm⟩
    have hL' : L'.length = m := by simp at hL; exact hL
    have hlen : pre.length + (m + 1) < N := by rw [← hN, ← hLR]; simp; omega
    have e1 : ((pre.length : Nat) : Int) < ((pre.length + (m + 1) : Nat) : Int) := by omega
    have e2 : pre ++ (L' ++ [y] ++ x :: R ++ Y) ++ post = (pre ++ L') ++ y :: (x :: R ++ Y ++ post) := by simp
    have e3 : pre ++ (L' ++ [y] ++ x :: R ++ Y) ++ post = (pre ++ L' ++ [y]) ++ x :: (R ++ Y ++ post) := by simp
    have hlx : (pre ++ (L' ++ [y] ++ x :: R ++ Y) ++ post).length = N := by rw [← hN, ← hLR]; simp; omega
    have g1 : (nats (pre ++ (L' ++ [y] ++ x :: R ++ Y) ++ post))[pre.length + (m + 1)]? = some (.int .i64 (x : Nat)) := by
      rw [nats_get (by omega), e3, getD_at _ _ _ _ (by simp; omega)]
    have g2 : (nats (pre ++ (L' ++ [y] ++ x :: R ++ Y) ++ post))[pre.length + m]? = some (.int .i64 (y : Nat)) := by
      rw [nats_get (by omega), e2, getD_at _ _ _ _ (by simp; omega)]
    have hy : y < ws.length := hD y (by rw [← hLR]; simp)
    have w1 : IntKind.i64.wrap (((pre.length + (m + 1) : Nat) : Int) - 1) = ((pre.length + m : Nat) : Int) := by rw [wrap_id (by omega) (by omega)]; omega
    have c0 := hA.1
    have hset : ((pre ++ (L' ++ [y] ++ x :: R ++ Y) ++ post).set (pre.length + (m + 1)) y).set (pre.length + m) x = pre ++ (L' ++ x :: (y :: R) ++ Y) ++ post := by
      rw [e3, set_at _ _ _ _ _ (by simp; omega)]
      have : pre ++ L' ++ [y] ++ y :: (R ++ Y ++ post) = (pre ++ L') ++ y :: (y :: (R ++ Y ++ post)) := by simp
      rw [this, set_at _ _ _ _ _ (by simp; omega)]
      simp
    rw [succB_slices_insertionSortCmpFunc_int]
    try simp (disch := first | omega | assumption | exact one_int _ _ | exact one_slice _ _ _ | exact one_ptr _ | exact one_bool _ | exact one_string _) only [optK_some_eq, nil2_ptr, ifV_true, ifV_false, run_if, run_out0, run_out1, run_out2, run_out3, optG_some, one_int, one_bool, one_string, one_slice, one_ptr, min2_eq, max2_eq, pick2_eq, u_not, u_neg, cells_agg, inside_ret, chk_true, get_eq, get_ne, List.getElem?_cons_zero, List.getElem?_cons_succ, List.set_cons_zero, List.set_cons_succ, List.length_cons, List.length_nil, Int.toNat_natCast, Int.toNat_zero, Nat.zero_add, Nat.add_zero, decide_eq_true_eq, decide_eq_false_iff_not, true_and, and_true, if_true, if_false, true_or, or_true, Bool.false_eq_true, Bool.true_eq_false, Nat.reduceAdd, Nat.reduceLT, wrap_id, wrap_succ, wrap_pred, len22, bgtr3, bleq3, blss3, beql24, beql3, ix22, ldr3, badd3, bneq3, bneq24, bmul3, str3, bsub3, bshl3, bquo3, bd36x0x1x2, len34, ix34, fa36f2, ldr22, fa36f0, fa46f0, bgeq3, fa46f1, beql22s, beql22n, bd46x0x3, fa46f2, str22, fa46f3, fa36f1, cv3x54, bshr54, cv54x3, e1, c0, g1, g2, w1, callT]
    refine run_same (s_cmp lf d x y hr n g pw ws (hE.keeps hA.2) hx hy) hn0 (fun _ _ h => h.elim) ?_
    have e4 := cmp3_neg (keyW ws x) (keyW ws y)
    try simp (disch := first | omega | assumption | exact one_int _ _ | exact one_slice _ _ _ | exact one_ptr _ | exact one_bool _ | exact one_string _) only [optK_some_eq, nil2_ptr, ifV_true, ifV_false, run_if, run_out0, run_out1, run_out2, run_out3, optG_some, one_int, one_bool, one_string, one_slice, one_ptr, min2_eq, max2_eq, pick2_eq, u_not, u_neg, cells_agg, inside_ret, chk_true, get_eq, get_ne, List.getElem?_cons_zero, List.getElem?_cons_succ, List.set_cons_zero, List.set_cons_succ, List.length_cons, List.length_nil, Int.toNat_natCast, Int.toNat_zero, Nat.zero_add, Nat.add_zero, decide_eq_true_eq, decide_eq_false_iff_not, true_and, and_true, if_true, if_false, true_or, or_true, Bool.false_eq_true, Bool.true_eq_false, Nat.reduceAdd, Nat.reduceLT, wrap_id, wrap_succ, wrap_pred, len22, bgtr3, bleq3, blss3, beql24, beql3, ix22, ldr3, badd3, bneq3, bneq24, bmul3, str3, bsub3, bshl3, bquo3, bd36x0x1x2, len34, ix34, fa36f2, ldr22, fa36f0, fa46f0, bgeq3, fa46f1, beql22s, beql22n, bd46x0x3, fa46f2, str22, fa46f3, fa36f1, cv3x54, bshr54, cv54x3, e4]
    by_cases hlt : keyW ws x < keyW ws y
    · try simp (disch := first | omega | assumption | exact one_int _ _ | exact one_slice _ _ _ | exact one_ptr _ | exact one_bool _ | exact one_string _) only [optK_some_eq, nil2_ptr, ifV_true, ifV_false, run_if, run_out0, run_out1, run_out2, run_out3, optG_some, one_int, one_bool, one_string, one_slice, one_ptr, min2_eq, max2_eq, pick2_eq, u_not, u_neg, cells_agg, inside_ret, chk_true, get_eq, get_ne, List.getElem?_cons_zero, List.getElem?_cons_succ, List.set_cons_zero, List.set_cons_succ, List.length_cons, List.length_nil, Int.toNat_natCast, Int.toNat_zero, Nat.zero_add, Nat.add_zero, decide_eq_true_eq, decide_eq_false_iff_not, true_and, and_true, if_true, if_false, true_or, or_true, Bool.false_eq_true, Bool.true_eq_false, Nat.reduceAdd, Nat.reduceLT, wrap_id, wrap_succ, wrap_pred, len22, bgtr3, bleq3, blss3, beql24, beql3, ix22, ldr3, badd3, bneq3, bneq24, bmul3, str3, bsub3, bshl3, bquo3, bd36x0x1x2, len34, ix34, fa36f2, ldr22, fa36f0, fa46f0, bgeq3, fa46f1, beql22s, beql22n, bd46x0x3, fa46f2, str22, fa46f3, fa36f1, cv3x54, bshr54, cv54x3, hlt, c0, g1, g2, w1, nats_len, nats_set, List.length_set, hset]
      refine ⟨by omega, hW, by omega, hW, ?_⟩
      exact ih L' (y :: R) fu _ hL' (by omega) (by rw [← hLR]; simp) (fun r hr => by
        rcases List.mem_cons.1 hr with rfl | hr
        · exact hlt
        · exact hR r hr) ((hA.set rfl rfl).set rfl rfl)
    · try simp (disch := first | omega | assumption | exact one_int _ _ | exact one_slice _ _ _ | exact one_ptr _ | exact one_bool _ | exact one_string _) only [optK_some_eq, nil2_ptr, ifV_true, ifV_false, run_if, run_out0, run_out1, run_out2, run_out3, optG_some, one_int, one_bool, one_string, one_slice, one_ptr, min2_eq, max2_eq, pick2_eq, u_not, u_neg, cells_agg, inside_ret, chk_true, get_eq, get_ne, List.getElem?_cons_zero, List.getElem?_cons_succ, List.set_cons_zero, List.set_cons_succ, List.length_cons, List.length_nil, Int.toNat_natCast, Int.toNat_zero, Nat.zero_add, Nat.add_zero, decide_eq_true_eq, decide_eq_false_iff_not, true_and, and_true, if_true, if_false, true_or, or_true, Bool.false_eq_true, Bool.true_eq_false, Nat.reduceAdd, Nat.reduceLT, wrap_id, wrap_succ, wrap_pred, len22, bgtr3, bleq3, blss3, beql24, beql3, ix22, ldr3, badd3, bneq3, bneq24, bmul3, str3, bsub3, bshl3, bquo3, bd36x0x1x2, len34, ix34, fa36f2, ldr22, fa36f0, fa46f0, bgeq3, fa46f1, beql22s, beql22n, bd46x0x3, fa46f2, str22, fa46f3, fa36f1, cv3x54, bshr54, cv54x3, hlt]
      exact hK (L' ++ [y]) R _ hr _ hLR hR (.inr (by simpa using hlt)) hA

theorem insA (lf d g n cap pw : Nat) (ws : List Int) (h : H) (pre post seg : List Nat) (N : Nat) (hlf : 2000000 ≤ lf) (hN : (pre ++ seg ++ post).length = N) (hNb : N ≤ 1000000) (hE : EnvT h n g pw ws) (hg : g < n) (hin : ∀ z ∈ seg, z < ws.length) (hst : seg.Pairwise (fun a b => keyW ws a = keyW ws b → a < b)) {W : Nat → Prop} {n0 : Nat} (hn0 : n0 ≤ n) (hW : n0 ≤ g ∨ W g) {Q : Value → H → Nat → Prop} (k : Ex → Fr → M Value)
    (hK : ∀ D hr y14, D.Perm seg → D.Pairwise (RI (keyW ws)) → At h hr g (pre ++ D ++ post) → Run W n0 (k (Ex.exit 0) [(0, .slice (some ⟨g, 0, none⟩) N cap), (1, .int .i64 (pre.length : Nat)), (2, .int .i64 ((pre.length + seg.length : Nat) : Int)), (3, .func (.func 34) #[] #[.pointer (some ⟨pw, 0, none⟩)]), (8, .int .i64 ((pre.length + seg.length : Nat) : Int)), (14, y14)]) hr n Q) :
    ∀ (Y D D0 : List Nat) (fu : Nat) (hr : H), Y.length < fu → seg = D0 ++ Y → D.Perm D0 → D.Pairwise (RI (keyW ws)) → At h hr g (pre ++ (D ++ Y) ++ post) →
      Run W n0 (lpA_slices_insertionSortCmpFunc_int lf (d + 3) fu k (.slice (some ⟨g, 0, none⟩) N cap) (.int .i64 (pre.length : Nat)) (.int .i64 ((pre.length + seg.length : Nat) : Int)) (.func (.func 34) #[] #[.pointer (some ⟨pw, 0, none⟩)]) (.int .i64 ((pre.length + D.length : Nat) : Int))) hr n Q := by
  intro Y
  induction Y with
  | nil =>
    intro D D0 fu hr hfu hs hp hpw hA
    obtain ⟨fu, rfl⟩ : ∃ f, fu = f + 1 := ⟨fu - 1, by simp at hfu; omega⟩
    rw [List.append_nil] at hs hA
    subst hs
    rw [hp.length_eq]
    rw [succA_slices_insertionSortCmpFunc_int]
    try simp (disch := first | omega | assumption | exact one_int _ _ | exact one_slice _ _ _ | exact one_ptr _ | exact one_bool _ | exact one_string _) only [optK_some_eq, nil2_ptr, ifV_true, ifV_false, run_if, run_out0, run_out1, run_out2, run_out3, optG_some, one_int, one_bool, one_string, one_slice, one_ptr, min2_eq, max2_eq, pick2_eq, u_not, u_neg, cells_agg, inside_ret, chk_true, get_eq, get_ne, List.getElem?_cons_zero, List.getElem?_cons_succ, List.set_cons_zero, List.set_cons_succ, List.length_cons, List.length_nil, Int.toNat_natCast, Int.toNat_zero, Nat.zero_add, Nat.add_zero, decide_eq_true_eq, decide_eq_false_iff_not, true_and, and_true, if_true, if_false, true_or, or_true, Bool.false_eq_true, Bool.true_eq_false, Nat.reduceAdd, Nat.reduceLT, wrap_id, wrap_succ, wrap_pred, len22, bgtr3, bleq3, blss3, beql24, beql3, ix22, ldr3, badd3, bneq3, bneq24, bmul3, str3, bsub3, bshl3, bquo3, bd36x0x1x2, len34, ix34, fa36f2, ldr22, fa36f0, fa46f0, bgeq3, fa46f1, beql22s, beql22n, bd46x0x3, fa46f2, str22, fa46f3, fa36f1, cv3x54, bshr54, cv54x3, Int.lt_irrefl]
    exact hK D hr _ hp hpw hA
  | cons x Y ih =>
    intro D D0 fu hr hfu hs hp hpw hA
    obtain ⟨fu, rfl⟩ : ∃ f, fu = f + 1 := ⟨fu - 1, by omega⟩
    have hl0 := hp.length_eq
    have hsl : seg.length = D.length + 1 + Y.length := by rw [hs]; simp; omega
    have hNs : pre.length + seg.length + post.length = N := by rw [← hN]; simp; omega
    have e1 : ((pre.length + D.length : Nat) : Int) < ((pre.length + seg.length : Nat) : Int) := by omega
    have hx : x < ws.length := hin x (by rw [hs]; simp)
    have hD : ∀ z ∈ D, z < ws.length := fun z hz => hin z (by rw [hs]; simp [hp.mem_iff.1 hz])
    have hDx : ∀ z ∈ D, keyW ws z = keyW ws x → z < x := by
      intro z hz
      have h3 := hst
      rw [hs, List.pairwise_append] at h3
      exact h3.2.2 z (hp.mem_iff.1 hz) x (by simp)
    rw [succA_slices_insertionSortCmpFunc_int]
    try simp (disch := first | omega | assumption | exact one_int _ _ | exact one_slice _ _ _ | exact one_ptr _ | exact one_bool _ | exact one_string _) only [optK_some_eq, nil2_ptr, ifV_true, ifV_false, run_if, run_out0, run_out1, run_out2, run_out3, optG_some, one_int, one_bool, one_string, one_slice, one_ptr, min2_eq, max2_eq, pick2_eq, u_not, u_neg, cells_agg, inside_ret, chk_true, get_eq, get_ne, List.getElem?_cons_zero, List.getElem?_cons_succ, List.set_cons_zero, List.set_cons_succ, List.length_cons, List.length_nil, Int.toNat_natCast, Int.toNat_zero, Nat.zero_add, Nat.add_zero, decide_eq_true_eq, decide_eq_false_iff_not, true_and, and_true, if_true, if_false, true_or, or_true, Bool.false_eq_true, Bool.true_eq_false, Nat.reduceAdd, Nat.reduceLT, wrap_id, wrap_succ, wrap_pred, len22, bgtr3, bleq3, blss3, beql24, beql3, ix22, ldr3, badd3, bneq3, bneq24, bmul3, str3, bsub3, bshl3, bquo3, bd36x0x1x2, len34, ix34, fa36f2, ldr22, fa36f0, fa46f0, bgeq3, fa46f1, beql22s, beql22n, bd46x0x3, fa46f2, str22, fa46f3, fa36f1, cv3x54, bshr54, cv54x3, e1]
    refine insB lf d g n cap pw ws h pre post Y x D N (by rw [← hN, hs]; simp; omega) hNb hE hg hx hD hn0 hW _ _ _ _ (fun L R J hr2 y34 hLR hR hend hA2 => ?_) D.length D [] lf hr rfl (by omega) (by simp) (by simp) (by simpa using hA)
    rw [kcBa_slices_insertionSortCmpFunc_int]
    try simp (disch := first | omega | assumption | exact one_int _ _ | exact one_slice _ _ _ | exact one_ptr _ | exact one_bool _ | exact one_string _) only [optK_some_eq, nil2_ptr, ifV_true, ifV_false, run_if, run_out0, run_out1, run_out2, run_out3, optG_some, one_int, one_bool, one_string, one_slice, one_ptr, min2_eq, max2_eq, pick2_eq, u_not, u_neg, cells_agg, inside_ret, chk_true, get_eq, get_ne, List.getElem?_cons_zero, List.getElem?_cons_succ, List.set_cons_zero, List.set_cons_succ, List.length_cons, List.length_nil, Int.toNat_natCast, Int.toNat_zero, Nat.zero_add, Nat.add_zero, decide_eq_true_eq, decide_eq_false_iff_not, true_and, and_true, if_true, if_false, true_or, or_true, Bool.false_eq_true, Bool.true_eq_false, Nat.reduceAdd, Nat.reduceLT, wrap_id, wrap_succ, wrap_pred, len22, bgtr3, bleq3, blss3, beql24, beql3, ix22, ldr3, badd3, bneq3, bneq24, bmul3, str3, bsub3, bshl3, bquo3, bd36x0x1x2, len34, ix34, fa36f2, ldr22, fa36f0, fa46f0, bgeq3, fa46f1, beql22s, beql22n, bd46x0x3, fa46f2, str22, fa46f3, fa36f1, cv3x54, bshr54, cv54x3]
    have hlen : (L ++ x :: R).length = D.length + 1 := by rw [← hLR]; simp; omega
    have e3 : ((pre.length + D.length + 1 : Nat) : Int) = ((pre.length + (L ++ x :: R).length : Nat) : Int) := by rw [hlen]; omega
    have e4 : ((pre.length + D.length : Nat) : Int) + 1 = ((pre.length + (L ++ x :: R).length : Nat) : Int) := by rw [hlen]; omega
    first | rw [e3] | rw [e4]
    refine ih (L ++ x :: R) (D0 ++ [x]) fu hr2 (by simp at hfu; omega) (by rw [hs]; simp) ?_ ?_ hA2
    · refine (List.perm_middle.trans ?_ : (L ++ x :: R).Perm (D0 ++ [x]))
      rw [hLR]
      exact (hp.cons x).trans (List.perm_append_singleton x D0).symm
    · refine ins_sorted (by rw [hLR]; exact hpw) hR (fun l hl => ?_) (fun l hl => hDx l (by rw [← hLR]; simp [hl]))
      rcases hend with h | h2
      · rw [h] at hl; simp at hl
      · have h4 : (L ++ R).Pairwise (RI (keyW ws)) := by rw [hLR]; exact hpw
        obtain ⟨i, hi, e⟩ := List.mem_iff_getElem.1 hl
        rcases ri_le (List.pairwise_append.1 h4).1 (i := i) (j := L.length - 1) (by omega) (by omega) with q | q
        · have : l = L.getD (L.length - 1) 0 := by rw [← q, ← e]; simp [hi]
          rw [this]; omega
        · have : L.getD i 0 = l := by rw [← e]; simp [hi]
          rw [this] at q
          unfold RI at q
          omega

/-- insertion sort of a stretch of the leaves -/
theorem s_ins (lf d g n cap pw : Nat) (ws : List Int) (h : H) (pre seg post : List Nat) (N : Nat) (hlf : 2000000 ≤ lf) (hN : (pre ++ seg ++ post).length = N) (hNb : N ≤ 1000000) (h1 : 1 ≤ seg.length) (hE : EnvT h n g pw ws) (hg : g < n) (hh : h.get g = some ⟨3, true, nats (pre ++ seg ++ post)⟩) (hin : ∀ z ∈ seg, z < ws.length) (hst : seg.Pairwise (fun a b => a < b)) (a b : Int) (ha : a = (pre.length : Nat)) (hb : b = ((pre.length + seg.length : Nat) : Int)) :
    Run (fun x => x = g) n (evCall2 Try.prog gt lf (d + 4) 38 #[.slice (some ⟨g, 0, none⟩) N cap, .int .i64 a, .int .i64 b, .func (.func 34) #[] #[.pointer (some ⟨pw, 0, none⟩)]]) h n fun v h' n' => n' = n ∧ ∃ D, D.Perm seg ∧ D.Pairwise (RI (keyW ws)) ∧ At h h' g (pre ++ D ++ post) := by
  subst ha hb
  rw [sh_slices_insertionSortCmpFunc_int]
  refine Run.inside_ ?_
  unfold b_slices_insertionSortCmpFunc_int
  have hpl : pre.length ≤ N := by rw [← hN]; simp
  try simp (disch := first | omega | assumption | exact one_int _ _ | exact one_slice _ _ _ | exact one_ptr _ | exact one_bool _ | exact one_string _) only [optK_some_eq, nil2_ptr, ifV_true, ifV_false, run_if, run_out0, run_out1, run_out2, run_out3, optG_some, one_int, one_bool, one_string, one_slice, one_ptr, min2_eq, max2_eq, pick2_eq, u_not, u_neg, cells_agg, inside_ret, chk_true, get_eq, get_ne, List.getElem?_cons_zero, List.getElem?_cons_succ, List.set_cons_zero, List.set_cons_succ, List.length_cons, List.length_nil, Int.toNat_natCast, Int.toNat_zero, Nat.zero_add, Nat.add_zero, decide_eq_true_eq, decide_eq_false_iff_not, true_and, and_true, if_true, if_false, true_or, or_true, Bool.false_eq_true, Bool.true_eq_false, Nat.reduceAdd, Nat.reduceLT, wrap_id, wrap_succ, wrap_pred, len22, bgtr3, bleq3, blss3, beql24, beql3, ix22, ldr3, badd3, bneq3, bneq24, bmul3, str3, bsub3, bshl3, bquo3, bd36x0x1x2, len34, ix34, fa36f2, ldr22, fa36f0, fa46f0, bgeq3, fa46f1, beql22s, beql22n, bd46x0x3, fa46f2, str22, fa46f3, fa36f1, cv3x54, bshr54, cv54x3]
  obtain ⟨s0, s1, rfl⟩ : ∃ s0 s1, seg = s0 :: s1 := by
    cases seg with
    | nil => simp at h1
    | cons s0 s1 => exact ⟨s0, s1, rfl⟩
  rw [show ((pre.length : Nat) : Int) + 1 = ((pre.length + [s0].length : Nat) : Int) by simp]
  refine insA (W := fun x => x = g) lf d g n cap pw ws h pre post (s0 :: s1) N hlf hN hNb hE hg hin (hst.imp (S := fun a b => keyW ws a = keyW ws b → a < b) fun {_ _} q _ => q) (Nat.le_refl _) (.inr rfl) _ (fun D hr y14 hp hs hA => ?_) s1 [s0] [s0] lf h (by simp at hN; omega) rfl (List.Perm.refl _) (List.pairwise_singleton _ _) ⟨by simpa using hh, fun b hb => rfl⟩
  rw [kcAa_slices_insertionSortCmpFunc_int]
  try simp (disch := first | omega | assumption | exact one_int _ _ | exact one_slice _ _ _ | exact one_ptr _ | exact one_bool _ | exact one_string _) only [optK_some_eq, nil2_ptr, ifV_true, ifV_false, run_if, run_out0, run_out1, run_out2, run_out3, optG_some, one_int, one_bool, one_string, one_slice, one_ptr, min2_eq, max2_eq, pick2_eq, u_not, u_neg, cells_agg, inside_ret, chk_true, get_eq, get_ne, List.getElem?_cons_zero, List.getElem?_cons_succ, List.set_cons_zero, List.set_cons_succ, List.length_cons, List.length_nil, Int.toNat_natCast, Int.toNat_zero, Nat.zero_add, Nat.add_zero, decide_eq_true_eq, decide_eq_false_iff_not, true_and, and_true, if_true, if_false, true_or, or_true, Bool.false_eq_true, Bool.true_eq_false, Nat.reduceAdd, Nat.reduceLT, wrap_id, wrap_succ, wrap_pred, len22, bgtr3, bleq3, blss3, beql24, beql3, ix22, ldr3, badd3, bneq3, bneq24, bmul3, str3, bsub3, bshl3, bquo3, bd36x0x1x2, len34, ix34, fa36f2, ldr22, fa36f0, fa46f0, bgeq3, fa46f1, beql22s, beql22n, bd46x0x3, fa46f2, str22, fa46f3, fa36f1, cv3x54, bshr54, cv54x3]
  exact ⟨D, hp, hs, hA⟩

end Go.Proofs.Ytapdcejhfooahaa
