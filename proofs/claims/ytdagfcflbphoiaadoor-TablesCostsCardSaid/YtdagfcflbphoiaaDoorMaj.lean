/- The library's stable sort by the second form: the comparison; insertion. -/
import Derived.Test.YtdagfcflbphoiaaDoorMai
import Derived.Test.YtdagfcflbphoiaaDoorMae
import Derived.WalkKit
import Derived.Test.YtdagfcflbphoiaaDoorRows
import Derived.Test.YtdagfcflbphoiaaDoorMag
import Derived.Test.YtdagfcflbphoiaaDoorMah
import Derived.Test.YtdagfcflbphoiaaDoorMac
import Derived.MakeChecks
import Derived.OpenShut
import Derived.ChangeArms
namespace Go.Proofs.YtdagfcflbphoiaaDoor
set_option linter.unusedVariables false
set_option linter.unusedSimpArgs false
open Go.RowKit Ev Hu

theorem callV2 {β : Type} {rec : FuncId → Array Value → M Value} (g : FuncId) (hb : hasBody Tryd.prog g = true) (c : Value) (a b : Value) (k : Value → M β) : callV Tryd.prog rec (.func (.func g) #[] #[c]) [a, b] k = (inside (rec g #[a, b, c])).bind k := by
  unfold callV
  show optK (some _) _ = _
  rw [optK_some_eq]
  simp only [hb]
  rfl
theorem callT {β : Type} {rec : FuncId → Array Value → M Value} (c : Value) (a b : Value) (k : Value → M β) : callV Tryd.prog rec (.func (.func 70) #[] #[c]) [a, b] k = (inside (rec 70 #[a, b, c])).bind k := callV2 _ (by kernel_rfl) c a b k
theorem run_same {β : Type} {W : Nat → Prop} {n0 : Nat} {h : H} {n : Nat} {Q : β → H → Nat → Prop} {lf d : Nat} {f : FuncId} {args : Array Value} {v : Value} {W' : Nat → Prop} (s : Run W' n (evCall2 Tryd.prog gt lf d f args) h n fun v' h' n' => v' = v ∧ h' = h ∧ n' = n) (hn : n0 ≤ n) (hW : ∀ b, b < n → W' b → n0 ≤ b ∨ W b) {k : Value → M β} (x : Run W n0 (k v) h n Q) : Run W n0 ((inside (evCall2 Tryd.prog gt lf d f args)).bind k) h n Q := by
  refine run_call okd s hn hW fun v' h' n' _ _ hq => ?_
  obtain ⟨rfl, rfl, rfl⟩ := hq
  exact x

theorem s_isNaN (lf d : Nat) (h : H) (n : Nat) (x : Int) : Run (fun _ => False) n (evCall2 Tryd.prog gt lf (d + 1) 74 #[.int .i64 x]) h n fun v h' n' => v = .bool false ∧ h' = h ∧ n' = n := by
  rw [sh_cmp_isNaN_int]
  refine Run.inside_ ?_
  unfold b_cmp_isNaN_int
  have e : (x != x) = false := by simp
  try simp (disch := first | omega | assumption | exact one_int _ _ | exact one_slice _ _ _ | exact one_ptr _ | exact one_bool _ | exact one_string _) only [RXA, RXB, Nat.reduceAdd, Nat.reduceLT, wrap_id, wrap_succ, wrap_pred, FX1, e]
theorem s_Compare (lf d : Nat) (h : H) (n : Nat) (x y : Int) : Run (fun _ => False) n (evCall2 Tryd.prog gt lf (d + 2) 71 #[.int .i64 x, .int .i64 y]) h n fun v h' n' => v = .int .i64 (cmp3 x y) ∧ h' = h ∧ n' = n := by
  rw [sh_cmp_Compare_int]
  refine Run.inside_ ?_
  unfold b_cmp_Compare_int
  refine run_same (s_isNaN _ _ _ _ _) (Nat.le_refl _) (fun _ _ h => h.elim) ?_
  refine run_same (s_isNaN _ _ _ _ _) (Nat.le_refl _) (fun _ _ h => h.elim) ?_
  unfold cmp3
  try simp (disch := first | omega | assumption | exact one_int _ _ | exact one_slice _ _ _ | exact one_ptr _ | exact one_bool _ | exact one_string _) only [RXA, RXB, Nat.reduceAdd, Nat.reduceLT, wrap_id, wrap_succ, wrap_pred, FX1]
  by_cases h1 : x < y
  · simp [h1]
  · by_cases h2 : y < x
    · simp [h1, h2]
    · simp [h1, h2]

/-- what a comparison reads: the weights, in a variable that it has captured -/
structure EnvT (h : H) (n g pw : Nat) (ws : List Int) : Prop where
  ex : ∃ wb off cap e1 o1 e2 o2 cs, h.get pw = some ⟨e1, o1, [.slice (some ⟨wb, off, none⟩) ws.length cap]⟩ ∧ h.get wb = some ⟨e2, o2, cs⟩ ∧ wb < n ∧ wb ≠ g ∧ ∀ i, i < ws.length → cs[off + i]? = some (.int .i64 (ws.getD i 0))
  pn : pw < n
  pg : pw ≠ g
theorem EnvT.keeps {h h' : H} {n g pw : Nat} {ws : List Int} (e : EnvT h n g pw ws) (k : ∀ b, b ≠ g → h'.get b = h.get b) : EnvT h' n g pw ws := by
  obtain ⟨⟨wb, off, cap, e1, o1, e2, o2, cs, h1, h2, h3, h4, h5⟩, h6, h7⟩ := e
  exact ⟨⟨wb, off, cap, e1, o1, e2, o2, cs, by rw [k pw h7]; exact h1, by rw [k wb h4]; exact h2, h3, h4, h5⟩, h6, h7⟩
theorem s_cmp (lf d a b : Nat) (h : H) (n g pw : Nat) (ws : List Int) (hE : EnvT h n g pw ws) (ha : a < ws.length) (hb : b < ws.length) : Run (fun _ => False) n (evCall2 Tryd.prog gt lf (d + 3) 70 #[.int .i64 (a : Nat), .int .i64 (b : Nat), .pointer (some ⟨pw, 0, none⟩)]) h n fun v h' n' => v = .int .i64 (cmp3 (keyW ws a) (keyW ws b)) ∧ h' = h ∧ n' = n := by
  obtain ⟨⟨wb, off, cap, e1, o1, e2, o2, cs, h1, h2, h3, h4, h5⟩, h6, h7⟩ := hE
  have c1 : cs[off + a]? = some (.int .i64 (keyW ws a)) := h5 a ha
  have c2 : cs[off + b]? = some (.int .i64 (keyW ws b)) := h5 b hb
  rw [sh_lens_treesOf_1]
  refine Run.inside_ ?_
  unfold b_lens_treesOf_1
  try simp (disch := first | omega | assumption | exact one_int _ _ | exact one_slice _ _ _ | exact one_ptr _ | exact one_bool _ | exact one_string _) only [RXA, RXB, Nat.reduceAdd, Nat.reduceLT, wrap_id, wrap_succ, wrap_pred, FX1, h1, h2, c1, c2]
  refine run_same (s_Compare _ _ _ _ _ _) (Nat.le_refl _) (fun _ _ h => h.elim) ?_
  try simp (disch := first | omega | assumption | exact one_int _ _ | exact one_slice _ _ _ | exact one_ptr _ | exact one_bool _ | exact one_string _) only [RXA, RXB, Nat.reduceAdd, Nat.reduceLT, wrap_id, wrap_succ, wrap_pred, FX1]
theorem nats_get {xs : List Nat} {i : Nat} (h : i < xs.length) : (nats xs)[i]? = some (.int .i64 (xs.getD i 0 : Nat)) := by unfold nats; simp [h]
theorem nats_len (xs : List Nat) : (nats xs).length = xs.length := by unfold nats; simp
theorem nats_set (xs : List Nat) (i v : Nat) : (nats xs).set i (.int .i64 (v : Nat)) = nats (xs.set i v) := by unfold nats; rw [List.map_set]
/-- the leaves' block and nothing else has changed -/
def At (h hr : H) (g : Nat) (xs : List Nat) : Prop := hr.get g = some ⟨3, true, nats xs⟩ ∧ ∀ b, b ≠ g → hr.get b = h.get b
theorem At.set {h hr : H} {g : Nat} {xs ys : List Nat} (a : At h hr g xs) {e : TypeId} {o : Bool} (he : e = 3) (ho : o = true) : At h (hr.set g (some ⟨e, o, nats ys⟩)) g ys := by
  subst he ho
  exact ⟨get_eq _ _ _, fun b hb => by rw [get_ne _ _ hb]; exact a.2 b hb⟩

set_option maxHeartbeats 1000000 in
theorem insB (lf d g n cap pw : Nat) (ws : List Int) (h : H) (pre post Y : List Nat) (x : Nat) (D : List Nat) (N : Nat) (hN : (pre ++ (D ++ x :: Y) ++ post).length = N) (hNb : N ≤ 1000000) (hE : EnvT h n g pw ws) (hg : g < n) (hx : x < ws.length) (hD : ∀ z ∈ D, z < ws.length) {W : Nat → Prop} {n0 : Nat} (hn0 : n0 ≤ n) (hW : n0 ≤ g ∨ W g) {Q : Value → H → Nat → Prop} (k : Ex → Fr → M Value) (x2 x8 x14 : Value)
    (hK : ∀ L R J hr y34, L ++ R = D → (∀ r ∈ R, keyW ws x < keyW ws r) → (L = [] ∨ ¬ keyW ws x < keyW ws (L.getD (L.length - 1) 0)) → At h hr g (pre ++ (L ++ x :: R ++ Y) ++ post) → Run W n0 (k (Ex.exit 2) [(0, .slice (some ⟨g, 0, none⟩) N cap), (1, .int .i64 (pre.length : Nat)), (2, x2), (3, .func (.func 70) #[] #[.pointer (some ⟨pw, 0, none⟩)]), (8, x8), (9, J), (14, x14), (34, y34)]) hr n Q) :
    ∀ (m : Nat) (L R : List Nat) (fu : Nat) (hr : H), L.length = m → m < fu → L ++ R = D → (∀ r ∈ R, keyW ws x < keyW ws r) → At h hr g (pre ++ (L ++ x :: R ++ Y) ++ post) →
      Run W n0 (lpB_slices_insertionSortCmpFunc_int lf (d + 3) fu k (.slice (some ⟨g, 0, none⟩) N cap) (.int .i64 (pre.length : Nat)) x2 (.func (.func 70) #[] #[.pointer (some ⟨pw, 0, none⟩)]) x8 (.int .i64 ((pre.length + m : Nat) : Int)) x14) hr n Q := by
  intro m
  induction m with
  | zero =>
    intro L R fu hr hL hfu hLR hR hA
    obtain ⟨fu, rfl⟩ : ∃ f, fu = f + 1 := ⟨fu - 1, by omega⟩
    have : L = [] := List.length_eq_zero_iff.1 hL
    subst this
    rw [succB_slices_insertionSortCmpFunc_int]
    try simp (disch := first | omega | assumption | exact one_int _ _ | exact one_slice _ _ _ | exact one_ptr _ | exact one_bool _ | exact one_string _) only [RXA, RXB, Nat.reduceAdd, Nat.reduceLT, wrap_id, wrap_succ, wrap_pred, FX1, Int.lt_irrefl]
    exact hK [] R _ hr _ hLR hR (.inl rfl) hA
  | succ m ih =>
    intro L R fu hr hL hfu hLR hR hA
    obtain ⟨fu, rfl⟩ : ∃ f, fu = f + 1 := ⟨fu - 1, by omega⟩
    obtain ⟨L', y, rfl⟩ : ∃ L' y, L = L' ++ [y] := ⟨L.dropLast, L.getLast (by intro e; rw [e] at hL; simp at hL), (List.dropLast_concat_getLast _).symm⟩
    have hL' : L'.length = m := by simp at hL; exact hL
    have hlen : pre.length + (m + 1) < N := by rw [← hN, ← hLR]; simp; omega
    have e1 : ((pre.length : Nat) : Int) < ((pre.length + (m + 1) : Nat) : Int) := by omega
    have e2 : pre ++ (L' ++ [y] ++ x :: R ++ Y) ++ post = (pre ++ L') ++ y :: (x :: R ++ Y ++ post) := by simp
    have e3 : pre ++ (L' ++ [y] ++ x :: R ++ Y) ++ post = (pre ++ L' ++ [y]) ++ x :: (R ++ Y ++ post) := by simp
    have hlx : (pre ++ (L' ++ [y] ++ x :: R ++ Y) ++ post).length = N := by rw [← hN, ← hLR]; simp; omega
    have g1 : (nats (pre ++ (L' ++ [y] ++ x :: R ++ Y) ++ post))[pre.length + (m + 1)]? = some (.int .i64 (x : Nat)) := by
      rw [nats_get (by omega), e3, getD_at _ _ _ _ (by simp; omega)]
    have g2 : (nats (pre ++ (L' ++ [y] ++ x :: R ++ Y) ++ post))[pre.length + m]? = some (.int .i64 (y : Nat)) := by
      rw [nats_get (by omega), e2, getD_at _ _ _ _ (by simp; omega)]
    have hy : y < ws.length := hD y (by rw [← hLR]; simp)
    have w1 : IntKind.i64.wrap (((pre.length + (m + 1) : Nat) : Int) - 1) = ((pre.length + m : Nat) : Int) := by rw [wrap_id (by omega) (by omega)]; omega
    have c0 := hA.1
    have hset : ((pre ++ (L' ++ [y] ++ x :: R ++ Y) ++ post).set (pre.length + (m + 1)) y).set (pre.length + m) x = pre ++ (L' ++ x :: (y :: R) ++ Y) ++ post := by
      rw [e3, set_at _ _ _ _ _ (by simp; omega)]
      have : pre ++ L' ++ [y] ++ y :: (R ++ Y ++ post) = (pre ++ L') ++ y :: (y :: (R ++ Y ++ post)) := by simp
      rw [this, set_at _ _ _ _ _ (by simp; omega)]
      simp
    rw [succB_slices_insertionSortCmpFunc_int]
    try simp (disch := first | omega | assumption | exact one_int _ _ | exact one_slice _ _ _ | exact one_ptr _ | exact one_bool _ | exact one_string _) only [RXA, RXB, Nat.reduceAdd, Nat.reduceLT, wrap_id, wrap_succ, wrap_pred, FX1, e1, c0, g1, g2, w1, callT]
    refine run_same (s_cmp lf d x y hr n g pw ws (hE.keeps hA.2) hx hy) hn0 (fun _ _ h => h.elim) ?_
    have e4 := cmp3_neg (keyW ws x) (keyW ws y)
    try simp (disch := first | omega | assumption | exact one_int _ _ | exact one_slice _ _ _ | exact one_ptr _ | exact one_bool _ | exact one_string _) only [RXA, RXB, Nat.reduceAdd, Nat.reduceLT, wrap_id, wrap_succ, wrap_pred, FX1, e4]
    by_cases hlt : keyW ws x < keyW ws y
    · try simp (disch := first | omega | assumption | exact one_int _ _ | exact one_slice _ _ _ | exact one_ptr _ | exact one_bool _ | exact one_string _) only [RXA, RXB, Nat.reduceAdd, Nat.reduceLT, wrap_id, wrap_succ, wrap_pred, FX1, hlt, c0, g1, g2, w1, nats_len, nats_set, List.length_set, hset]
      refine ⟨by omega, hW, by omega, hW, ?_⟩
      exact ih L' (y :: R) fu _ hL' (by omega) (by rw [← hLR]; simp) (fun r hr => by
        rcases List.mem_cons.1 hr with rfl | hr
        · exact hlt
        · exact hR r hr) ((hA.set rfl rfl).set rfl rfl)
    · try simp (disch := first | omega | assumption | exact one_int _ _ | exact one_slice _ _ _ | exact one_ptr _ | exact one_bool _ | exact one_string _) only [RXA, RXB, Nat.reduceAdd, Nat.reduceLT, wrap_id, wrap_succ, wrap_pred, FX1, hlt]
      exact hK (L' ++ [y]) R _ hr _ hLR hR (.inr (by simpa using hlt)) hA

end Go.Proofs.YtdagfcflbphoiaaDoor
/- The library's swap of two stretches and its rotation, by the second form. -/
namespace Go.Proofs.YtdagfcflbphoiaaDoor
set_option linter.unusedVariables false
set_option linter.unusedSimpArgs false
open Go.RowKit Ev Hu

theorem At.trans {h h1 h2 : H} {g : Nat} {xs ys : List Nat} (a : At h h1 g xs) (b : At h1 h2 g ys) : At h h2 g ys := ⟨b.1, fun c hc => (b.2 c hc).trans (a.2 c hc)⟩
end Go.Proofs.YtdagfcflbphoiaaDoor
/- The library's merge in place, by the second form: one element ahead, one element behind. -/
namespace Go.Proofs.YtdagfcflbphoiaaDoor
set_option linter.unusedVariables false
set_option linter.unusedSimpArgs false
open Go.RowKit Ev Hu

end Go.Proofs.YtdagfcflbphoiaaDoor
/- The library's merge in place, by the second form: the whole. -/
namespace Go.Proofs.YtdagfcflbphoiaaDoor
set_option linter.unusedVariables false
set_option linter.unusedSimpArgs false
open Go.RowKit Ev Hu

/-- what a merge leaves -/
def SymQ (h : H) (g n : Nat) (ws : List Int) (P XY Q : List Nat) (h' : H) (n' : Nat) : Prop := n' = n ∧ ∃ Z, Z.Perm XY ∧ Z.Pairwise (RI (keyW ws)) ∧ At h h' g (P ++ Z ++ Q)
end Go.Proofs.YtdagfcflbphoiaaDoor
/- The library's merge in place, by the second form: the general step, and the whole. -/
namespace Go.Proofs.YtdagfcflbphoiaaDoor
set_option linter.unusedVariables false
set_option linter.unusedSimpArgs false
open Go.RowKit Ev Hu

theorem SymQ.run {h hr : H} {g n : Nat} {ws : List Int} {P Z Q : List Nat} {QQ : H → Nat → Prop} (e : ∀ h', (∃ Z', Z'.Perm Z ∧ Z'.Pairwise (RI (keyW ws)) ∧ At hr h' g (P ++ Z' ++ Q)) → QQ h' n) {h' : H} {n' : Nat} (q : SymQ hr g n ws P Z Q h' n') : QQ h' n' := by
  obtain ⟨rfl, q⟩ := q
  exact e _ q

end Go.Proofs.YtdagfcflbphoiaaDoor
/- The library's stable sort, by the second form: the whole. -/
namespace Go.Proofs.YtdagfcflbphoiaaDoor
set_option linter.unusedVariables false
set_option linter.unusedSimpArgs false
open Go.RowKit Ev Hu

section
variable (lf g cap pw N : Nat) (ws : List Int) (hlf : 3000000 ≤ lf) (hNb : N ≤ 1000000) (d n : Nat) (h : H) (xs : List Nat) (hN : xs.length = N) (hE : EnvT h n g pw ws) (hg : g < n) (hin : ∀ z ∈ xs, z < ws.length)
variable {W : Nat → Prop} {n0 : Nat} (hn0 : n0 ≤ n) (hW : n0 ≤ g ∨ W g) {R : Value → H → Nat → Prop} (k : Ex → Fr → M Value)
include hlf hNb hN hE hg hin hn0 hW
end

end Go.Proofs.YtdagfcflbphoiaaDoor
/- Trees of weights, by the second form: cloned, made. -/
namespace Go.Proofs.YtdagfcflbphoiaaDoor
set_option linter.unusedVariables false
set_option linter.unusedSimpArgs false
open Go.RowKit Ev Hu

theorem s_Clone (lf d n : Nat) (h : H) (v : Value) (xs : List Int) (hR : Row h n 3 .i64 v xs) (h0 : 0 < xs.length) (hl : xs.length ≤ 1000000) :
    Run (fun _ => False) n (evCall2 Tryd.prog gt lf (d + 1) 55 #[v]) h n fun v' h' n' => (0 < xs.length → Own h' n n' 3 v' (intsV .i64 xs)) ∧ Row h' n' 3 .i64 v' xs ∧ ∀ b, InBlk v' b → n ≤ b := by
  rw [sh_slices_Clone_int_int]
  refine Run.inside_ ?_
  unfold b_slices_Clone_int_int
  rcases hR with ⟨a, c, rfl, _, rfl⟩ | ⟨b, off, cap, o, cs, rfl, hg, hb, hle, ht, hc⟩
  · exact absurd h0 (by simp)
  · try simp (disch := first | omega | assumption | exact one_int _ _ | exact one_slice _ _ _ | exact one_ptr _ | exact one_bool _ | exact one_string _) only [RXA, RXB, Nat.reduceAdd, Nat.reduceLT, wrap_id, wrap_succ, wrap_pred, FX1]
    refine run_lit0 c1x22 _ ?_
    have hg' : (h.set n (some ⟨3, true, []⟩)).get b = some ⟨3, o, cs⟩ := by rw [get_ne _ _ (by omega)]; exact hg
    by_cases h00 : xs.length = 0
    · have hx : xs = [] := List.length_eq_zero_iff.1 h00
      subst hx
      refine app_none (news := []) c1x22 rfl _ _ _ _ ?_
      try simp (disch := first | omega | assumption | exact one_int _ _ | exact one_slice _ _ _ | exact one_ptr _ | exact one_bool _ | exact one_string _) only [RXA, RXB, Nat.reduceAdd, Nat.reduceLT, wrap_id, wrap_succ, wrap_pred, FX1]
      refine ⟨fun q => absurd q (by simp), .inr ⟨n, 0, 0, true, [], rfl, get_eq _ _ _, by omega, by simp, by simp [intsV], by simp⟩, fun b hb => by rw [hb.inj]; exact Nat.le_refl n⟩
    · have s : Src (h.set n (some ⟨3, true, []⟩)) (n + 1) (.slice (some ⟨b, off, none⟩) xs.length cap) (intsV .i64 xs) := ⟨b, off, cap, _, by rw [intsV_len], hg', by omega, by rw [intsV_len]; exact hle, by rw [intsV_len]; exact ht⟩
      refine app_copy c1x22 s (by rw [intsV_len]; omega) (intsV_one _ _) (get_eq _ _ _) rfl (Nat.lt_succ_self n) 0 0 (by simp) rfl (by rw [intsV_len]; omega) (by unfold CAP; omega) (by rw [intsV_len]; omega) _ ?_
      try simp (disch := first | omega | assumption | exact one_int _ _ | exact one_slice _ _ _ | exact one_ptr _ | exact one_bool _ | exact one_string _) only [RXA, RXB, Nat.reduceAdd, Nat.reduceLT, wrap_id, wrap_succ, wrap_pred, FX1]
      have ho : Own ((h.set n (some ⟨3, true, []⟩)).set (n + 1) (some ⟨3, true, [] ++ intsV .i64 xs⟩)) n (n + 1 + 1) 3 (.slice (some ⟨n + 1, 0, none⟩) (intsV .i64 xs).length (CAP + (intsV .i64 xs).length)) (intsV .i64 xs) := .inr ⟨n + 1, rfl, by rw [get_eq]; rfl, by omega, by omega⟩
      exact ⟨fun _ => ho, ho.row, fun b hb => by rw [hb.inj]; omega⟩

/-- the trees of weights by themselves, in order -/
def Start (ws : List Int) (D : List Nat) : HT := { weight := ws, into := List.replicate ws.length (-1), leaves := D, joined := ws.length }
end Go.Proofs.YtdagfcflbphoiaaDoor
/- Depths of weights, by the second form. -/
namespace Go.Proofs.YtdagfcflbphoiaaDoor
set_option linter.unusedVariables false
set_option linter.unusedSimpArgs false
open Go.RowKit Ev Hu

def fillD (into : List Int) : Nat → List Int → List Int
  | 0, out => out
  | i + 1, out => fillD into i (out.set i (out.getD (into.getD i 0).toNat 0 + 1))
def treeOf (ws : List Int) (D : List Nat) : HT := runH (ws.length - 1) (Start ws D)
def depthsP (ws : List Int) (D : List Nat) : List Int := (fillD (treeOf ws D).into (2 * ws.length - 2) (List.replicate (2 * ws.length - 1) 0)).take ws.length

theorem fillD_len (into : List Int) : ∀ (i : Nat) (out : List Int), (fillD into i out).length = out.length
  | 0, out => rfl
  | i + 1, out => by unfold fillD; rw [fillD_len into i]; simp
theorem depthsP_len (ws : List Int) (D : List Nat) (h : 1 ≤ ws.length) : (depthsP ws D).length = ws.length := by
  unfold depthsP
  rw [List.length_take, fillD_len, List.length_replicate]
  omega

theorem start_ok {ws : List Int} {D : List Nat} {S : Int} (hp : D.Perm (List.range ws.length)) (hw : ∀ x ∈ ws, 0 ≤ x) (hS : sumI ws = S) : OkH ws.length 0 [] S (Start ws D) := by
  have hlen := hp.length_eq
  rw [List.length_range] at hlen
  have hmem : ∀ i ∈ D, i < ws.length := fun i hi => List.mem_range.1 (hp.mem_iff.1 hi)
  have sle := sumI_le ws hw
  rw [hS] at sle
  have sumP : ∀ {a b : List Int}, a.Perm b → sumI a = sumI b := by
    intro a b h
    induction h with
    | nil => rfl
    | cons x _ ih => simp only [sumI, ih]
    | swap x y l => simp only [sumI]; omega
    | trans _ _ ih1 ih2 => exact ih1.trans ih2
  refine ⟨rfl, by simp [Start], hmem, fun i hi => by simp at hi, Nat.le_refl _, Nat.le_refl _, by simp [Start, hlen], fun i hi => ?_, ?_, fun i hi h2 => ?_⟩
  · have : ws.getD i 0 ∈ ws := by rw [List.getD_eq_getElem?_getD, List.getElem?_eq_getElem (by omega)]; exact List.getElem_mem _
    exact ⟨hw _ this, sle.2 _ this⟩
  · unfold waitH
    simp only [Start, Nat.add_zero, Nat.sub_self, List.range'_zero, List.append_nil, List.nil_append]
    rw [sumP (hp.map _), ← hS]
    congr 1
    apply List.ext_getElem
    · simp
    · intro i h1 h2
      simp [wAt, h2]
  · exact absurd (hp.mem_iff.2 (List.mem_range.2 (by omega))) h2
theorem step_ok {n k : Nat} {S : Int} {t : HT} (h : OkH n k [] S t) (hk : k + 2 ≤ n) : OkH n k [Hu.leastOf t] S (taken t) ∧ Hu.leastOf t < n + k ∧ OkH n k [Hu.leastOf t, Hu.leastOf (taken t)] S (taken (taken t)) ∧ Hu.leastOf (taken t) < n + k ∧ OkH n (k + 1) [] S (stepH t) ∧ (stepH t).joined ≤ n + k := by
  have hl := h.left
  simp only [List.length_nil] at hl
  obtain ⟨h1, a1⟩ := h.take (by omega)
  have hl1 := h1.left
  simp only [List.nil_append, List.length_cons, List.length_nil] at hl1
  obtain ⟨h2, a2⟩ := h1.take (by omega)
  exact ⟨h1, a1, h2, a2, h2.join, h2.jh⟩
end Go.Proofs.YtdagfcflbphoiaaDoor
/- Small functions of layer 9, by the second form: bounds, shares, the longest, lists held against one another. -/
namespace Go.Proofs.YtdagfcflbphoiaaDoor
set_option linter.unusedVariables false
set_option linter.unusedSimpArgs false
open Go.RowKit Ev Hu

def allIn (lo hi : Int) (xs : List Int) : Bool := xs.all fun x => decide (lo ≤ x) && decide (x ≤ hi)
theorem allIn_iff {lo hi : Int} {xs : List Int} : allIn lo hi xs = true ↔ ∀ x ∈ xs, lo ≤ x ∧ x ≤ hi := by unfold allIn; simp
def lngL : List Int → Int → Int
  | [], a => a
  | x :: l, a => lngL l (if a < x then x else a)
theorem lngL_le (B : Int) : ∀ (l : List Int) (a : Int), lngL l a ≤ B ↔ (a ≤ B ∧ ∀ x ∈ l, x ≤ B)
  | [], a => by simp [lngL]
  | x :: l, a => by
    unfold lngL
    rw [lngL_le B l]
    simp only [List.mem_cons, forall_eq_or_imp]
    by_cases h : a < x
    · rw [if_pos h]; constructor
      · rintro ⟨p, q⟩; exact ⟨by omega, p, q⟩
      · rintro ⟨p, q, r⟩; exact ⟨q, r⟩
    · rw [if_neg h]; constructor
      · rintro ⟨p, q⟩; exact ⟨p, by omega, q⟩
      · rintro ⟨p, q, r⟩; exact ⟨p, r⟩
end Go.Proofs.YtdagfcflbphoiaaDoor
/- Plain facts of layers 8 and 12: counts, groups, costs, picks, tables at first. No program in sight. -/
namespace Go.Proofs.YtdagfcflbphoiaaDoor.Tb
set_option linter.unusedVariables false
set_option linter.unusedSimpArgs false

def capI (x : Int) : Int := if 1099511627776 < x then 1099511627776 else x
theorem capI_cap {a y : Int} (hy : 0 ≤ y) : capI (capI a + y) = capI (a + y) := by
  unfold capI
  repeat' split
  all_goals omega
theorem capI_le (x : Int) : capI x ≤ 1099511627776 := by unfold capI; split <;> omega
theorem capI_ge {x : Int} (h : 0 ≤ x) : 0 ≤ capI x := by unfold capI; split <;> omega
def sumI : List Int → Int
  | [] => 0
  | x :: l => x + sumI l
theorem sumI_app : ∀ a b : List Int, sumI (a ++ b) = sumI a + sumI b
  | [], b => by simp [sumI]
  | x :: a, b => by simp only [List.cons_append, sumI, sumI_app a b]; omega
theorem sumI_ge : ∀ {l : List Int}, (∀ x ∈ l, 0 ≤ x) → 0 ≤ sumI l
  | [], _ => Int.le_refl 0
  | x :: l, h => by
    have := sumI_ge (l := l) fun y hy => h y (List.mem_cons_of_mem _ hy)
    have := h x List.mem_cons_self
    simp only [sumI]; omega
theorem sumI_le (B : Int) : ∀ {l : List Int}, (∀ x ∈ l, x ≤ B) → sumI l ≤ l.length * B
  | [], _ => by simp [sumI]
  | x :: l, h => by
    have := sumI_le B (l := l) fun y hy => h y (List.mem_cons_of_mem _ hy)
    have := h x List.mem_cons_self
    simp only [sumI, List.length_cons, Int.natCast_add, Int.add_mul]
    omega
def look (ls : List Int) (x : Int) : Int := ls.getD x.toNat 0
def costS (l ls : List Int) : Int := sumI (l.map (look ls))
def costL (l ls : List Int) : Int := capI (costS l ls)
theorem look_ge {ls : List Int} (h : ∀ x ∈ ls, 0 ≤ x) (x : Int) : 0 ≤ look ls x := by
  unfold look
  rw [List.getD_eq_getElem?_getD]
  by_cases hx : x.toNat < ls.length
  · rw [List.getElem?_eq_getElem hx]; exact h _ (List.getElem_mem hx)
  · rw [List.getElem?_eq_none (by omega)]; exact Int.le_refl 0
theorem costS_ge {l ls : List Int} (h : ∀ x ∈ ls, 0 ≤ x) : 0 ≤ costS l ls := sumI_ge fun x hx => by
  obtain ⟨y, _, rfl⟩ := List.mem_map.1 hx
  exact look_ge h y
theorem costL_ge {l ls : List Int} (h : ∀ x ∈ ls, 0 ≤ x) : 0 ≤ costL l ls := capI_ge (costS_ge h)
theorem costL_le (l ls : List Int) : costL l ls ≤ 1099511627776 := capI_le _
theorem cost_next {l ls : List Int} {i : Nat} (h : i < l.length) : costS (l.take (i + 1)) ls = costS (l.take i) ls + look ls (l.getD i 0) := by
  unfold costS
  rw [List.take_succ_eq_append_getElem h, List.map_append, sumI_app, List.getD_eq_getElem?_getD, List.getElem?_eq_getElem h]
  simp [sumI]
theorem capNext {l ls : List Int} (hp : ∀ x ∈ ls, 0 ≤ x) {i : Nat} (h : i < l.length) : capI (costL (l.take i) ls + look ls (l.getD i 0)) = costL (l.take (i + 1)) ls := by
  unfold costL
  rw [capI_cap (look_ge hp _), cost_next h]

def cntv (l : List Int) (v : Nat) : Nat := l.countP fun x => x == (v : Int)
theorem cntv_le (l : List Int) (v : Nat) : cntv l v ≤ l.length := List.countP_le_length
theorem cntv_app (a b : List Int) (v : Nat) : cntv (a ++ b) v = cntv a v + cntv b v := List.countP_append
theorem cntv_next {l : List Int} {i : Nat} (h : i < l.length) (v : Nat) : cntv (l.take (i + 1)) v = cntv (l.take i) v + (if l.getD i 0 = (v : Int) then 1 else 0) := by
  rw [List.take_succ_eq_append_getElem h, cntv_app, List.getD_eq_getElem?_getD, List.getElem?_eq_getElem h]
  unfold cntv
  simp only [List.countP_cons, List.countP_nil, Option.getD_some, beq_iff_eq, Nat.zero_add]
theorem sum_ind (f : Nat → Int) (x : Nat) : ∀ n : Nat, sumI ((List.range n).map fun v => if x = v then f v else 0) = if x < n then f x else 0
  | 0 => by simp [sumI]
  | n + 1 => by
    rw [List.range_succ, List.map_append, sumI_app, sum_ind f x n]
    simp only [List.map_cons, List.map_nil, sumI]
    by_cases h : x = n
    · subst h; rw [if_neg (by omega), if_pos rfl, if_pos (by omega)]; omega
    · rw [if_neg h]
      by_cases h2 : x < n
      · rw [if_pos h2, if_pos (by omega)]; omega
      · rw [if_neg h2, if_neg (by omega)]; omega
theorem sum_add (f g : Nat → Int) : ∀ l : List Nat, sumI (l.map fun v => f v + g v) = sumI (l.map f) + sumI (l.map g)
  | [] => rfl
  | x :: l => by simp only [List.map_cons, sumI, sum_add f g l]; omega
/-- weighed by symbols, or one by one -/
theorem cost_counts {ls : List Int} : ∀ {l : List Int}, (∀ x ∈ l, 0 ≤ x ∧ x < ls.length) → sumI ((List.range ls.length).map fun v => (cntv l v : Int) * ls.getD v 0) = costS l ls
  | [], _ => by
    have : ∀ m : List Nat, sumI (m.map fun v => (cntv [] v : Int) * ls.getD v 0) = 0 := by
      intro m
      induction m with
      | nil => rfl
      | cons a m ih => simp only [List.map_cons, sumI, ih]; simp [cntv]
    rw [this]
    rfl
  | x :: l, h => by
    have hx := h x List.mem_cons_self
    have ih := cost_counts (l := l) fun y hy => h y (List.mem_cons_of_mem _ hy)
    have e : (fun v : Nat => (cntv (x :: l) v : Int) * ls.getD v 0) = fun v => (cntv l v : Int) * ls.getD v 0 + (if x.toNat = v then ls.getD v 0 else 0) := by
      funext v
      unfold cntv
      rw [List.countP_cons]
      by_cases c : x.toNat = v
      · have : (x == (v : Int)) = true := by rw [beq_iff_eq]; omega
        rw [if_pos c, this, if_pos rfl]
        simp only [Int.natCast_add, Int.add_mul, Int.natCast_one, Int.one_mul]
      · have : (x == (v : Int)) = false := by rw [beq_eq_false_iff_ne]; omega
        rw [if_neg c, this]
        simp
    rw [e, sum_add, ih, sum_ind (fun v => ls.getD v 0), if_pos (by omega)]
    unfold costS
    simp only [List.map_cons, sumI, look]
    omega
/-- so far as the first symbols -/
def costU (l ls : List Int) (i : Nat) : Int := sumI ((List.range i).map fun v => (cntv l v : Int) * ls.getD v 0)
theorem costU_next (l ls : List Int) (i : Nat) : costU l ls (i + 1) = costU l ls i + (cntv l i : Int) * ls.getD i 0 := by
  unfold costU
  rw [List.range_succ, List.map_append, sumI_app]
  simp [sumI]
theorem getD_ge {ls : List Int} (h : ∀ x ∈ ls, 0 ≤ x) (i : Nat) : 0 ≤ ls.getD i 0 := by
  have := look_ge h (i : Int)
  simpa [look] using this

def grpN (n : Nat) : Nat := (n + 49) / 50
def grp (l : List Int) (i : Nat) : List Int := (l.drop (50 * i)).take 50
def groupsL (l : List Int) : List (List Int) := (List.range (grpN l.length)).map (grp l)
theorem groupsL_len (l : List Int) : (groupsL l).length = grpN l.length := by unfold groupsL; simp
theorem groupsL_at {l : List Int} {i : Nat} (h : i < grpN l.length) : (groupsL l).getD i [] = grp l i := by
  unfold groupsL
  rw [List.getD_eq_getElem?_getD, List.getElem?_map, List.getElem?_range h]
  rfl
theorem grp_len (l : List Int) (i : Nat) : (grp l i).length = min 50 (l.length - 50 * i) := by unfold grp; simp
theorem grp_pos {l : List Int} {i : Nat} (h : i < grpN l.length) : 0 < (grp l i).length := by rw [grp_len]; unfold grpN at h; omega
end Go.Proofs.YtdagfcflbphoiaaDoor.Tb
/- Layer 8 by the second form: the program's counts, groups, costs. -/
namespace Go.Proofs.YtdagfcflbphoiaaDoor
set_option linter.unusedVariables false
set_option linter.unusedSimpArgs false
open Go.RowKit Ev Tb

theorem all_next {α : Type} (d : α) (p : α → Bool) {xs : List α} {i : Nat} (h : i < xs.length) : (xs.take (i + 1)).all p = ((xs.take i).all p && p (xs.getD i d)) := by
  rw [List.take_succ_eq_append_getElem h, List.all_append, List.getD_eq_getElem?_getD, List.getElem?_eq_getElem h]
  simp
theorem all_bad {α : Type} (d : α) (p : α → Bool) {xs : List α} {i : Nat} (h : i < xs.length) (hp : p (xs.getD i d) = false) : xs.all p = false := by
  rw [List.getD_eq_getElem?_getD, List.getElem?_eq_getElem h] at hp
  exact List.all_eq_false.2 ⟨_, List.getElem_mem h, by simpa using hp⟩
def inB (k : Int) (xs : List Int) : Bool := xs.all fun x => decide (0 ≤ x) && decide (x < k)
theorem inB_iff {k : Int} {xs : List Int} : inB k xs = true ↔ ∀ x ∈ xs, 0 ≤ x ∧ x < k := by unfold inB; simp
theorem gd_mem {xs : List Int} {i : Nat} (h : i < xs.length) : xs.getD i 0 ∈ xs := by
  rw [List.getD_eq_getElem?_getD, List.getElem?_eq_getElem h]
  exact List.getElem_mem h
theorem inB_neg {k : Int} {xs : List Int} {i : Nat} (h : i < xs.length) (h1 : xs.getD i 0 < 0) : inB k xs = false :=
  all_bad 0 _ h (by show (decide (0 ≤ xs.getD i 0) && decide (xs.getD i 0 < k)) = false; rw [decide_eq_false (Int.not_le.2 h1)]; rfl)
theorem inB_big {k : Int} {xs : List Int} {i : Nat} (h : i < xs.length) (h1 : k ≤ xs.getD i 0) : inB k xs = false :=
  all_bad 0 _ h (by show (decide (0 ≤ xs.getD i 0) && decide (xs.getD i 0 < k)) = false; rw [decide_eq_false (Int.not_lt.2 h1), Bool.and_false])
theorem inB_next {k x : Int} {xs : List Int} {i : Nat} (h : i < xs.length) (ha : inB k (xs.take i) = true) (hx : xs.getD i 0 = x) (h0 : 0 ≤ x) (h1 : x < k) : inB k (xs.take (i + 1)) = true := by
  unfold inB at ha ⊢
  rw [all_next 0 _ h, ha, hx, decide_eq_true h0, decide_eq_true h1]
  rfl
theorem w_next {i N : Nat} (h : i < N) (hN : N ≤ 9223372036854775807) : IntKind.i64.wrap ((i : Int) + 1) = ((i + 1 : Nat) : Int) := by rw [wrap_id (by omega) (by omega)]; rfl

section
variable (lf d n : Nat) (h : H)
theorem s_fmay (x : Int) : Run (fun _ => False) n (evCall2 Tryd.prog gt lf (d + 1) 61 #[.int .i64 x]) h n fun v' h' n' => v' = .bool (decide (0 ≤ x) && decide (x ≤ 1099511627776)) ∧ h' = h ∧ n' = n := by
  rw [sh_freq_may]
  refine Run.inside_ ?_
  unfold b_freq_may
  by_cases c : 0 ≤ x
  · try simp (disch := first | omega | assumption | exact one_int _ _ | exact one_slice _ _ _ | exact one_ptr _ | exact one_bool _ | exact one_string _) only [RXA, RXB, Nat.reduceAdd, Nat.reduceLT, wrap_id, wrap_succ, wrap_pred, FX1, c]
  · try simp (disch := first | omega | assumption | exact one_int _ _ | exact one_slice _ _ _ | exact one_ptr _ | exact one_bool _ | exact one_string _) only [RXA, RXB, Nat.reduceAdd, Nat.reduceLT, wrap_id, wrap_succ, wrap_pred, FX1, c]
theorem s_fall1 (x : Int) : Run (fun _ => False) n (evCall2 Tryd.prog gt lf (d + 2) 60 #[.int .i64 x]) h n fun v' h' n' => v' = .bool (!(decide (0 ≤ x) && decide (x ≤ 1099511627776))) ∧ h' = h ∧ n' = n := by
  rw [sh_freq_all_1]
  refine Run.inside_ ?_
  unfold b_freq_all_1
  refine run_same (s_fmay lf d n h x) (Nat.le_refl _) (fun _ _ h => h.elim) ?_
  try simp (disch := first | omega | assumption | exact one_int _ _ | exact one_slice _ _ _ | exact one_ptr _ | exact one_bool _ | exact one_string _) only [RXA, RXB, Nat.reduceAdd, Nat.reduceLT, wrap_id, wrap_succ, wrap_pred, FX1]
theorem callA {β : Type} {rec : FuncId → Array Value → M Value} (a : Value) (k : Value → M β) : callV Tryd.prog rec (.func (.func 60) #[] #[]) [a] k = (inside (rec 60 #[a])).bind k := by
  unfold callV
  show optK (some _) _ = _
  rw [optK_some_eq]
  simp only [show hasBody Tryd.prog 60 = true by kernel_rfl]
  rfl
variable (hlf : 3000000 ≤ lf)
include hlf
theorem s_all (v : Value) (xs : List Int) (hR : Row h n 3 .i64 v xs) (hl : xs.length ≤ 1000000) :
    Run (fun _ => False) n (evCall2 Tryd.prog gt lf (d + 5) 48 #[v]) h n fun v' h' n' => v' = .bool (allIn 0 1099511627776 xs) ∧ h' = h ∧ n' = n := by
  have s1 : Run (fun _ => False) n (evCall2 Tryd.prog gt lf (d + 3) 68 #[v, .func (.func 60) #[] #[]]) h n fun v' h' n' => (∃ r : Int, v' = .int .i64 r ∧ decide (0 ≤ r) = !allIn 0 1099511627776 xs) ∧ h' = h ∧ n' = n := by
    rw [sh_slices_IndexFunc_int_int]
    refine Run.inside_ ?_
    unfold b_slices_IndexFunc_int_int
    have hR0 := hR
    obtain ⟨a, c, rfl⟩ := hR.len
    try simp (disch := first | omega | assumption | exact one_int _ _ | exact one_slice _ _ _ | exact one_ptr _ | exact one_bool _ | exact one_string _) only [RXA, RXB, Nat.reduceAdd, Nat.reduceLT, wrap_id, wrap_succ, wrap_pred, FX1]
    refine run_for xs.length (fun fu i (_ : Unit) => lpA_slices_IndexFunc_int_int lf (d + 2) fu (kcA_slices_IndexFunc_int_int lf (d + 2)) (.slice a xs.length c) (.func (.func 60) #[] #[]) _ (.int .i64 (xs.length : Nat)) (.int .i64 (i : Nat))) (fun i _ h' n' => (h' = h ∧ n' = n) ∧ allIn 0 1099511627776 (xs.take i) = true) ?_ ?_ lf 0 () h n (Nat.zero_le _) (by omega) ⟨⟨rfl, rfl⟩, rfl⟩
    · rintro fu _ h' n' ⟨⟨rfl, rfl⟩, ha⟩
      rw [succA_slices_IndexFunc_int_int]
      try simp (disch := first | omega | assumption | exact one_int _ _ | exact one_slice _ _ _ | exact one_ptr _ | exact one_bool _ | exact one_string _) only [RXA, RXB, Nat.reduceAdd, Nat.reduceLT, wrap_id, wrap_succ, wrap_pred, FX1, Int.lt_irrefl]
      rw [kcAb_slices_IndexFunc_int_int]
      try simp (disch := first | omega | assumption | exact one_int _ _ | exact one_slice _ _ _ | exact one_ptr _ | exact one_bool _ | exact one_string _) only [RXA, RXB, Nat.reduceAdd, Nat.reduceLT, wrap_id, wrap_succ, wrap_pred, FX1]
      rw [List.take_length] at ha
      exact ⟨-1, rfl, by rw [ha]; rfl⟩
    · rintro fu i _ h' n' hi ⟨⟨rfl, rfl⟩, ha⟩ next
      obtain ⟨b, off, cap, o, cs, hv, hg, hb, _, _, _, hat⟩ := hR0.some (by omega)
      cases hv
      have e1 : ((i : Nat) : Int) < ((xs.length : Nat) : Int) := by omega
      have c1 := hat i hi
      have w1 := w_next hi (by omega)
      rw [succA_slices_IndexFunc_int_int]
      try simp (disch := first | omega | assumption | exact one_int _ _ | exact one_slice _ _ _ | exact one_ptr _ | exact one_bool _ | exact one_string _) only [RXA, RXB, Nat.reduceAdd, Nat.reduceLT, wrap_id, wrap_succ, wrap_pred, FX1, e1, hg, c1, callA]
      refine run_same (s_fall1 lf d n' h' (xs.getD i 0)) (Nat.le_refl _) (fun _ _ h => h.elim) ?_
      cases h1 : (decide (0 ≤ xs.getD i 0) && decide (xs.getD i 0 ≤ 1099511627776)) with
      | true =>
        try simp (disch := first | omega | assumption | exact one_int _ _ | exact one_slice _ _ _ | exact one_ptr _ | exact one_bool _ | exact one_string _) only [RXA, RXB, Nat.reduceAdd, Nat.reduceLT, wrap_id, wrap_succ, wrap_pred, FX1, Bool.not_true, w1]
        exact next () _ _ ⟨⟨rfl, rfl⟩, by unfold allIn at ha ⊢; rw [all_next 0 _ hi, ha, h1]; rfl⟩
      | false =>
        try simp (disch := first | omega | assumption | exact one_int _ _ | exact one_slice _ _ _ | exact one_ptr _ | exact one_bool _ | exact one_string _) only [RXA, RXB, Nat.reduceAdd, Nat.reduceLT, wrap_id, wrap_succ, wrap_pred, FX1, Bool.not_false]
        rw [kcAa_slices_IndexFunc_int_int]
        try simp (disch := first | omega | assumption | exact one_int _ _ | exact one_slice _ _ _ | exact one_ptr _ | exact one_bool _ | exact one_string _) only [RXA, RXB, Nat.reduceAdd, Nat.reduceLT, wrap_id, wrap_succ, wrap_pred, FX1]
        have : allIn 0 1099511627776 xs = false := all_bad 0 _ hi h1
        exact ⟨(i : Nat), rfl, by rw [this]; simp⟩
  have s2 : Run (fun _ => False) n (evCall2 Tryd.prog gt lf (d + 4) 59 #[v, .func (.func 60) #[] #[]]) h n fun v' h' n' => v' = .bool (!allIn 0 1099511627776 xs) ∧ h' = h ∧ n' = n := by
    rw [sh_slices_ContainsFunc_int_int]
    refine Run.inside_ ?_
    unfold b_slices_ContainsFunc_int_int
    refine run_call okd s1 (Nat.le_refl _) (fun _ _ h => h.elim) fun v' h' n' _ _ hq => ?_
    obtain ⟨⟨r, rfl, hr⟩, rfl, rfl⟩ := hq
    try simp (disch := first | omega | assumption | exact one_int _ _ | exact one_slice _ _ _ | exact one_ptr _ | exact one_bool _ | exact one_string _) only [RXA, RXB, Nat.reduceAdd, Nat.reduceLT, wrap_id, wrap_succ, wrap_pred, FX1]
    rw [hr]
  rw [sh_freq_all]
  refine Run.inside_ ?_
  unfold b_freq_all
  refine run_same s2 (Nat.le_refl _) (fun _ _ h => h.elim) ?_
  rw [u_not, optK_some_eq, Bool.not_not]
  try simp (disch := first | omega | assumption | exact one_int _ _ | exact one_slice _ _ _ | exact one_ptr _ | exact one_bool _ | exact one_string _) only [RXA, RXB, Nat.reduceAdd, Nat.reduceLT, wrap_id, wrap_succ, wrap_pred, FX1]
omit hlf in
theorem s_together (a b : Int) (h0 : 0 ≤ a + b) (h1 : a + b ≤ 9223372036854775807) : Run (fun _ => False) n (evCall2 Tryd.prog gt lf (d + 1) 49 #[.int .i64 a, .int .i64 b]) h n fun v' h' n' => v' = .int .i64 (capI (a + b)) ∧ h' = h ∧ n' = n := by
  rw [sh_freq_together]
  refine Run.inside_ ?_
  unfold b_freq_together
  have w : IntKind.i64.wrap (a + b) = a + b := wrap_id (by omega) (by omega)
  try simp (disch := first | omega | assumption | exact one_int _ _ | exact one_slice _ _ _ | exact one_ptr _ | exact one_bool _ | exact one_string _) only [RXA, RXB, Nat.reduceAdd, Nat.reduceLT, wrap_id, wrap_succ, wrap_pred, FX1, w]
  all_goals (first | rfl | exact ⟨rfl, rfl, rfl⟩ | exact ⟨rfl, rfl⟩)
/-- what a row costs by lengths, or why it is not told -/
theorem s_fCost (v u : Value) (xs ls : List Int) (hR : Row h n 3 .i64 v xs) (hL : Row h n 3 .i64 u ls) (hl : xs.length ≤ 1000000) (hl2 : ls.length ≤ 1000000) :
    Run (fun _ => False) n (evCall2 Tryd.prog gt lf (d + 6) 31 #[v, u]) h n fun v' h' n' => v' = (if allIn 0 1099511627776 ls = true ∧ inB ls.length xs = true then .tuple #[.int .i64 (costL xs ls), .int .i64 0] else .tuple #[.int .i64 0, .int .i64 1]) ∧ h' = h ∧ n' = n := by
  obtain ⟨r, hr⟩ : ∃ r : Value, (if allIn 0 1099511627776 ls = true ∧ inB ls.length xs = true then Value.tuple #[.int .i64 (costL xs ls), .int .i64 0] else .tuple #[.int .i64 0, .int .i64 1]) = r := ⟨_, rfl⟩
  rw [hr]
  rw [sh_freq_Cost]
  refine Run.inside_ ?_
  unfold b_freq_Cost
  refine run_same (s_all lf d n h hlf u ls hL hl2) (Nat.le_refl _) (fun _ _ h => h.elim) ?_
  cases hm : allIn 0 1099511627776 ls with
  | false =>
    rw [if_neg (by rw [hm]; simp)] at hr
    try simp (disch := first | omega | assumption | exact one_int _ _ | exact one_slice _ _ _ | exact one_ptr _ | exact one_bool _ | exact one_string _) only [RXA, RXB, Nat.reduceAdd, Nat.reduceLT, wrap_id, wrap_succ, wrap_pred, FX1, Bool.not_false]
    rw [← hr]
  | true =>
    have hm' := allIn_iff.1 hm
    have hR0 := hR
    have hL0 := hL
    obtain ⟨a, c, rfl⟩ := hR.len
    obtain ⟨a2, c2, rfl⟩ := hL.len
    try simp (disch := first | omega | assumption | exact one_int _ _ | exact one_slice _ _ _ | exact one_ptr _ | exact one_bool _ | exact one_string _) only [RXA, RXB, Nat.reduceAdd, Nat.reduceLT, wrap_id, wrap_succ, wrap_pred, FX1, Bool.not_true]
    refine run_for xs.length (fun fu i (a : Int) => lpA_freq_Cost lf (d + 5) fu (kcA_freq_Cost lf (d + 5)) _ _ (.int .i64 0) (.int .i64 0) (.int .i64 a) (.bool false) _ (.int .i64 (xs.length : Nat)) (.int .i64 (i : Nat))) (fun i a h' n' => (h' = h ∧ n' = n) ∧ a = costL (xs.take i) ls ∧ inB ls.length (xs.take i) = true) ?_ ?_ lf 0 0 h n (Nat.zero_le _) (by omega) ⟨⟨rfl, rfl⟩, rfl, rfl⟩
    · rintro fu q h' n' ⟨⟨rfl, rfl⟩, rfl, ha⟩
      rw [succA_freq_Cost]
      try simp (disch := first | omega | assumption | exact one_int _ _ | exact one_slice _ _ _ | exact one_ptr _ | exact one_bool _ | exact one_string _) only [RXA, RXB, Nat.reduceAdd, Nat.reduceLT, wrap_id, wrap_succ, wrap_pred, FX1, Int.lt_irrefl]
      rw [kcAb_freq_Cost]
      try simp (disch := first | omega | assumption | exact one_int _ _ | exact one_slice _ _ _ | exact one_ptr _ | exact one_bool _ | exact one_string _) only [RXA, RXB, Nat.reduceAdd, Nat.reduceLT, wrap_id, wrap_succ, wrap_pred, FX1]
      rw [List.take_length] at ha ⊢
      rw [← hr, if_pos ⟨hm, ha⟩]
    · rintro fu i q h' n' hi ⟨⟨rfl, rfl⟩, rfl, ha⟩ next
      obtain ⟨b, off, cap, o, cs, hv, hg, hb, _, _, _, hat⟩ := hR0.some (by omega)
      cases hv
      have e1 : ((i : Nat) : Int) < ((xs.length : Nat) : Int) := by omega
      have c1 := hat i hi
      have w1 := w_next hi (by omega)
      rw [succA_freq_Cost]
      by_cases h1 : xs.getD i 0 < 0
      · have hb : inB ls.length xs = false := inB_neg hi h1
        try simp (disch := first | omega | assumption | exact one_int _ _ | exact one_slice _ _ _ | exact one_ptr _ | exact one_bool _ | exact one_string _) only [RXA, RXB, Nat.reduceAdd, Nat.reduceLT, wrap_id, wrap_succ, wrap_pred, FX1, e1, hg, c1, h1]
        rw [kcAa_freq_Cost]
        try simp (disch := first | omega | assumption | exact one_int _ _ | exact one_slice _ _ _ | exact one_ptr _ | exact one_bool _ | exact one_string _) only [RXA, RXB, Nat.reduceAdd, Nat.reduceLT, wrap_id, wrap_succ, wrap_pred, FX1]
        rw [← hr, if_neg (by rw [hb]; simp)]
      · by_cases h2 : ((ls.length : Nat) : Int) ≤ xs.getD i 0
        · have hb : inB ls.length xs = false := inB_big hi h2
          try simp (disch := first | omega | assumption | exact one_int _ _ | exact one_slice _ _ _ | exact one_ptr _ | exact one_bool _ | exact one_string _) only [RXA, RXB, Nat.reduceAdd, Nat.reduceLT, wrap_id, wrap_succ, wrap_pred, FX1, e1, hg, c1, h1, h2]
          rw [kcAa_freq_Cost]
          try simp (disch := first | omega | assumption | exact one_int _ _ | exact one_slice _ _ _ | exact one_ptr _ | exact one_bool _ | exact one_string _) only [RXA, RXB, Nat.reduceAdd, Nat.reduceLT, wrap_id, wrap_succ, wrap_pred, FX1]
          rw [← hr, if_neg (by rw [hb]; simp)]
        · obtain ⟨b2, off2, cap2, o2, cs2, hv2, hg2, hb2, _, _, _, hat2⟩ := hL0.some (by omega)
          cases hv2
          obtain ⟨x, hx⟩ : ∃ x : Nat, xs.getD i 0 = (x : Int) := ⟨(xs.getD i 0).toNat, by omega⟩
          have c2 := hat2 x (by omega)
          have hy := hm' (ls.getD x 0) (gd_mem (by omega))
          have e3 : (x : Int) < ((ls.length : Nat) : Int) := by omega
          have e4 : ¬ ((ls.length : Nat) : Int) ≤ (x : Int) := by omega
          have e5 : ¬ ((x : Int) < 0) := by omega
          have k1 := costL_ge (l := xs.take i) fun y hy => (hm' y hy).1
          have k2 := costL_le (xs.take i) ls
          have k3 := capNext (l := xs) (fun y hy => (hm' y hy).1) hi
          rw [hx] at c1 k3
          have k4 : Tb.look ls (x : Int) = ls.getD x 0 := by unfold Tb.look; rw [Int.toNat_natCast]
          try simp (disch := first | omega | assumption | exact one_int _ _ | exact one_slice _ _ _ | exact one_ptr _ | exact one_bool _ | exact one_string _) only [RXA, RXB, Nat.reduceAdd, Nat.reduceLT, wrap_id, wrap_succ, wrap_pred, FX1, e1, hg, c1, e4, e5, e3, hg2, c2]
          refine run_same (s_together lf (d + 4) n' h' _ _ (by omega) (by omega)) (Nat.le_refl _) (fun _ _ h => h.elim) ?_
          try simp (disch := first | omega | assumption | exact one_int _ _ | exact one_slice _ _ _ | exact one_ptr _ | exact one_bool _ | exact one_string _) only [RXA, RXB, Nat.reduceAdd, Nat.reduceLT, wrap_id, wrap_succ, wrap_pred, FX1, w1]
          exact next _ _ _ ⟨⟨rfl, rfl⟩, by rw [← k4, k3], inB_next hi ha hx (by omega) e3⟩
end
end Go.Proofs.YtdagfcflbphoiaaDoor
/- The merging of weights as a plain thing: which two are taken at each step, and what is left. No program in sight. -/
namespace Go.Proofs.YtdagfcflbphoiaaDoor
set_option linter.unusedVariables false
set_option linter.unusedSimpArgs false
open Hu

/-- what waits behind k joins -/
def wt (n k : Nat) (t : HT) : List Nat := t.leaves ++ List.range' t.joined (n + k - t.joined)
structure Srt (n k : Nat) (last : Int) (t : HT) : Prop where
  ls : t.leaves.Pairwise (RI (wAt t))
  js : ∀ i j, n ≤ i → i ≤ j → j < n + k → wAt t i ≤ wAt t j
  mx : ∀ i, n ≤ i → i < n + k → wAt t i ≤ 2 * last
  lo : ∀ x ∈ wt n k t, last ≤ wAt t x
  l0 : 0 ≤ last

theorem take_w (t : HT) : wAt (taken t) = wAt t := by
  unfold taken
  split <;> rfl
theorem take_min {n k : Nat} {P : List Nat} {S last : Int} {t : HT} (h : OkH n k P S t) (s : Srt n k last t) (h1 : 1 ≤ t.leaves.length + (n + k - t.joined)) :
    (wt n k t).Perm (Hu.leastOf t :: wt n k (taken t)) ∧ (∀ x ∈ wt n k (taken t), RI (wAt t) (Hu.leastOf t) x) ∧ Srt n k (wAt t (Hu.leastOf t)) (taken t) ∧ last ≤ wAt t (Hu.leastOf t) := by
  have key : (wt n k t).Perm (Hu.leastOf t :: wt n k (taken t)) ∧ (∀ x ∈ wt n k (taken t), RI (wAt t) (Hu.leastOf t) x) ∧ (taken t).leaves.Pairwise (RI (wAt t)) := by
    cases hl : isLeaf t with
    | true =>
      obtain ⟨r, e1, e2, e3⟩ := isLeaf_true h h1 hl
      have hls := s.ls
      generalize Hu.leastOf t = a at *
      rw [e1, List.pairwise_cons] at hls
      rw [e2]
      refine ⟨by unfold wt; rw [e1]; exact .refl _, fun x hx => ?_, hls.2⟩
      unfold wt at hx
      rcases List.mem_append.1 hx with h2 | h2
      · exact hls.1 x h2
      · have h2 := List.mem_range'_1.1 h2
        have h2 : t.joined ≤ x ∧ x < t.joined + (n + k - t.joined) := h2
        have hjl := h.jl
        unfold isLeaf at hl
        rw [Bool.or_eq_true, beq_iff_eq, Bool.and_eq_true, decide_eq_true_iff, decide_eq_true_iff] at hl
        rcases hl with hl | ⟨_, hl⟩
        · have := h.wl; omega
        · have e4 : t.leaves.getD 0 0 = a := by rw [e1]; rfl
          rw [e4] at hl
          have := s.js t.joined x hjl h2.1 (by omega)
          unfold RI
          omega
    | false =>
      obtain ⟨e1, e2, e3⟩ := isLeaf_false h hl
      rw [e3, e1]
      have hjl := h.jl
      refine ⟨?_, fun x hx => ?_, s.ls⟩
      · unfold wt
        obtain ⟨d, hd⟩ : ∃ d, n + k - t.joined = d + 1 := ⟨n + k - t.joined - 1, by omega⟩
        rw [hd, List.range'_succ]
        show (t.leaves ++ t.joined :: List.range' (t.joined + 1) d).Perm (t.joined :: (t.leaves ++ List.range' (t.joined + 1) (n + k - (t.joined + 1))))
        rw [show n + k - (t.joined + 1) = d by omega]
        exact List.perm_middle
      · unfold wt at hx
        rcases List.mem_append.1 hx with h2 | h2
        · have h2 : x ∈ t.leaves := h2
          have h0 : 0 < t.leaves.length := List.length_pos_of_mem h2
          unfold isLeaf at hl
          rw [Bool.or_eq_false_iff, Bool.and_eq_false_iff] at hl
          have hlt : ¬ wAt t (t.leaves.getD 0 0) ≤ wAt t t.joined := by
            rcases hl.2 with q | q
            · simp only [h0, decide_true] at q; cases q
            · exact of_decide_eq_false q
          obtain ⟨y, r, e⟩ := List.exists_cons_of_length_pos h0
          have hls := s.ls
          rw [e] at h2 hls hlt
          rw [List.pairwise_cons] at hls
          have hlt : ¬ wAt t y ≤ wAt t t.joined := hlt
          rcases List.mem_cons.1 h2 with q | q
          · subst q; unfold RI; omega
          · have := hls.1 x q
            unfold RI at this ⊢
            omega
        · have h2 := List.mem_range'_1.1 h2
          have h2 : t.joined + 1 ≤ x ∧ x < t.joined + 1 + (n + k - (t.joined + 1)) := h2
          have := s.js t.joined x hjl (by omega) (by omega)
          unfold RI
          omega
  obtain ⟨k1, k2, k3⟩ := key
  have hlo : last ≤ wAt t (Hu.leastOf t) := s.lo _ (k1.mem_iff.2 (by simp))
  refine ⟨k1, k2, ⟨by rw [take_w]; exact k3, by rw [take_w]; exact s.js, fun i h2 h3 => by rw [take_w]; have := s.mx i h2 h3; omega, fun x hx => ?_, by have := s.l0; omega⟩, hlo⟩
  rw [take_w]
  have := k2 x hx
  unfold RI at this
  omega

theorem join_w {n k : Nat} {P : List Nat} {S : Int} {t : HT} (h : OkH n k P S t) (a b : Nat) : (∀ i, i < n + k → wAt (joinH t a b) i = wAt t i) ∧ wAt (joinH t a b) (n + k) = wAt t a + wAt t b := by
  refine ⟨fun i hi => getD_app_left _ _ _ (by rw [h.wl]; exact hi), ?_⟩
  unfold wAt joinH
  rw [List.getD_eq_getElem?_getD, List.getElem?_append_right (by rw [h.wl]; exact Nat.le_refl _), h.wl, Nat.sub_self]
  rfl
theorem wt_lt {n k : Nat} {P : List Nat} {S : Int} {t : HT} (h : OkH n k P S t) : ∀ x ∈ wt n k t, x < n + k := fun x hx => by
  unfold wt at hx
  rcases List.mem_append.1 hx with h2 | h2
  · have := h.leaf x h2; omega
  · have := List.mem_range'_1.1 h2; have := h.jh; omega

/-- a step: what is taken, what is left -/
structure Step (n k : Nat) (a b : Nat) (r : List Nat) (t t' : HT) : Prop where
  perm : (wt n k t).Perm (a :: b :: r)
  next : (wt n (k + 1) t').Perm ((n + k) :: r)
  old : ∀ i, i < n + k → wAt t' i = wAt t i
  new : wAt t' (n + k) = wAt t a + wAt t b
  mA : ∀ x ∈ b :: r, RI (wAt t) a x
  mB : ∀ x ∈ r, RI (wAt t) b x
  ia : t'.into.getD a 0 = ((n + k : Nat) : Int)
  ib : t'.into.getD b 0 = ((n + k : Nat) : Int)
  io : ∀ i, i < n + k → i ∉ wt n k t → t'.into.getD i 0 = t.into.getD i 0
theorem step_all {n k : Nat} {S last : Int} {t : HT} (h : OkH n k [] S t) (s : Srt n k last t) (hk : k + 2 ≤ n) : ∃ last', Srt n (k + 1) last' (stepH t) ∧ Step n k (Hu.leastOf t) (Hu.leastOf (taken t)) (wt n k (taken (taken t))) t (stepH t) := by
  obtain ⟨h1, a1, h2, a2, h3, _⟩ := step_ok h hk
  have hl := h.left
  have hl1 := h1.left
  simp only [List.length_cons, List.length_nil] at hl hl1
  obtain ⟨p1, m1, s1, q1⟩ := take_min h s (by omega)
  obtain ⟨p2, m2, s2, q2⟩ := take_min h1 s1 (by omega)
  rw [take_w] at m2 s2 q2
  have w2 : wAt (taken (taken t)) = wAt t := by rw [take_w, take_w]
  unfold stepH at h3 ⊢
  generalize Hu.leastOf t = a at *
  generalize Hu.leastOf (taken t) = b at *
  obtain ⟨jo, jn⟩ := join_w h2 a b
  rw [w2] at jo jn
  have hjh := h2.jh
  have hjl := h2.jl
  have nx : wt n (k + 1) (joinH (taken (taken t)) a b) = wt n k (taken (taken t)) ++ [n + k] := by
    unfold wt
    show (taken (taken t)).leaves ++ List.range' (taken (taken t)).joined (n + (k + 1) - (taken (taken t)).joined) = _
    rw [show n + (k + 1) - (taken (taken t)).joined = (n + k - (taken (taken t)).joined) + 1 by omega, List.range'_concat, ← List.append_assoc]
    rw [show (taken (taken t)).joined + 1 * (n + k - (taken (taken t)).joined) = n + k by omega]
  have hb1 : b ∈ wt n k (taken t) := p2.mem_iff.2 (by simp)
  have hpos := fun i hi => (h.pos i hi).1
  have pa := hpos a a1
  have hl0 := s.l0
  refine ⟨wAt t b, ⟨?_, fun i j hi hij hj => ?_, fun i hi hj => ?_, fun x hx => ?_, by omega⟩, ⟨p1.trans (p2.cons a), by rw [nx]; exact List.perm_append_singleton _ _, jo, jn, fun x hx => m1 x (p2.mem_iff.2 hx), m2, ?_, ?_, fun i hi hn => ?_⟩⟩
  · have hp := s2.ls
    rw [w2] at hp
    refine hp.imp_of_mem (S := RI (wAt (joinH (taken (taken t)) a b))) fun {x y} hx hy hr => ?_
    have := h2.leaf x hx
    have := h2.leaf y hy
    unfold RI at hr ⊢
    rw [jo x (by omega), jo y (by omega)]
    exact hr
  · by_cases e : j < n + k
    · rw [jo i (by omega), jo j e]
      exact s.js i j hi hij e
    · obtain rfl : j = n + k := by omega
      by_cases e2 : i < n + k
      · rw [jo i e2, jn]
        have := s.mx i hi e2
        omega
      · obtain rfl : i = n + k := by omega
        omega
  · by_cases e : i < n + k
    · rw [jo i e]
      have := s.mx i hi e
      omega
    · obtain rfl : i = n + k := by omega
      rw [jn]
      omega
  · rw [nx] at hx
    rcases List.mem_append.1 hx with q | q
    · rw [jo x (wt_lt h2 x q)]
      have := m2 x q
      unfold RI at this
      omega
    · obtain rfl : x = n + k := by simpa using q
      rw [jn]
      omega
  all_goals
    have e1 : ∀ i, i < n + k → (joinH (taken (taken t)) a b).into.getD i 0 = if i = b then ((n + k : Nat) : Int) else if i = a then ((n + k : Nat) : Int) else t.into.getD i 0 := fun i hi => by
      have il : (taken (taken t)).into.length = n + k := h2.il
      have ti : (taken (taken t)).into = t.into := by unfold taken; split <;> split <;> rfl
      unfold joinH
      simp only
      rw [getD_app_left _ _ _ (by simp [il]; exact hi), getD_setI, getD_setI, h2.wl, ti]
      rw [ti] at il
      simp only [List.length_set, il]
      by_cases eb : i = b
      · subst eb; simp [hi]
      · by_cases ea : i = a
        · subst ea; simp [hi, eb, Ne.symm eb]
        · simp [ea, eb, Ne.symm ea, Ne.symm eb]
  · rw [e1 a a1]; split <;> simp
  · rw [e1 b a2, if_pos rfl]
  · have hb : b ∈ wt n k t := p1.mem_iff.2 (by simp [hb1])
    have ha : a ∈ wt n k t := p1.mem_iff.2 (by simp)
    rw [e1 i hi, if_neg (fun e => hn (by rw [e]; exact hb)), if_neg (fun e => hn (by rw [e]; exact ha))]

theorem run_all {ws : List Int} {D : List Nat} (hN : 2 ≤ ws.length) (hp : D.Perm (List.range ws.length)) (hs : D.Pairwise (RI (keyW ws))) (hw : ∀ x ∈ ws, 0 ≤ x) : ∀ k, k + 1 ≤ ws.length → OkH ws.length k [] (sumI ws) (runH k (Start ws D)) ∧ ∃ last, Srt ws.length k last (runH k (Start ws D)) := by
  intro k
  induction k with
  | zero =>
    intro _
    have h0 := start_ok hp hw rfl
    refine ⟨h0, 0, hs, fun i j h1 h2 h3 => by omega, fun i h1 h2 => by omega, fun x hx => (h0.pos x (wt_lt h0 x hx)).1, Int.le_refl _⟩
  | succ k ih =>
    intro hk
    obtain ⟨h, last, s⟩ := ih (by omega)
    rw [run_succ]
    obtain ⟨last', s', _⟩ := step_all h s hk
    exact ⟨(step_ok h hk).2.2.2.2.1, last', s'⟩
theorem run_step {ws : List Int} {D : List Nat} (hN : 2 ≤ ws.length) (hp : D.Perm (List.range ws.length)) (hs : D.Pairwise (RI (keyW ws))) (hw : ∀ x ∈ ws, 0 ≤ x) (k : Nat) (hk : k + 2 ≤ ws.length) :
    Step ws.length k (Hu.leastOf (runH k (Start ws D))) (Hu.leastOf (taken (runH k (Start ws D)))) (wt ws.length k (taken (taken (runH k (Start ws D))))) (runH k (Start ws D)) (runH (k + 1) (Start ws D)) := by
  obtain ⟨h, last, s⟩ := run_all hN hp hs hw k (by omega)
  obtain ⟨last', _, r⟩ := step_all h s hk
  rw [run_succ]
  exact r

/-- the merging of N weights: w: the weights of all trees; I: into which one each is joined; A, B: the two that are taken at each step; X: what waits; R: what is left -/
structure Merge (N : Nat) (w : Nat → Int) (I : Nat → Nat) (A B : Nat → Nat) (X R : Nat → List Nat) : Prop where
  two : 2 ≤ N
  x0 : (X 0).Perm (List.range N)
  st : ∀ k, k + 2 ≤ N → (X k).Perm (A k :: B k :: R k)
  nx : ∀ k, k + 2 ≤ N → (X (k + 1)).Perm ((N + k) :: R k)
  wn : ∀ k, k + 2 ≤ N → w (N + k) = w (A k) + w (B k)
  ia : ∀ k, k + 2 ≤ N → I (A k) = N + k
  ib : ∀ k, k + 2 ≤ N → I (B k) = N + k
  mA : ∀ k, k + 2 ≤ N → ∀ x ∈ B k :: R k, RI w (A k) x
  mB : ∀ k, k + 2 ≤ N → ∀ x ∈ R k, RI w (B k) x
  mono : ∀ i j, N ≤ i → i ≤ j → j ≤ 2 * N - 2 → w i ≤ w j
  pos : ∀ i, i ≤ 2 * N - 2 → 0 ≤ w i
section
variable {N : Nat} {X R : Nat → List Nat} {A B : Nat → Nat}
theorem x_lt (x0 : (X 0).Perm (List.range N)) (st : ∀ k, k + 2 ≤ N → (X k).Perm (A k :: B k :: R k)) (nx : ∀ k, k + 2 ≤ N → (X (k + 1)).Perm ((N + k) :: R k)) : ∀ k, k + 1 ≤ N → (∀ x ∈ X k, x < N + k) ∧ (X k).Nodup ∧ (X k).length = N - k := by
  intro k
  induction k with
  | zero =>
    intro _
    exact ⟨fun x hx => by have := List.mem_range.1 (x0.mem_iff.1 hx); omega, x0.nodup_iff.2 List.nodup_range, by rw [x0.length_eq, List.length_range]; omega⟩
  | succ k ih =>
    intro hk
    obtain ⟨h1, h2, h3⟩ := ih (by omega)
    have p := st k hk
    have q := nx k hk
    have hr : ∀ x ∈ R k, x ∈ X k := fun x hx => p.mem_iff.2 (by simp [hx])
    have hnd := p.nodup_iff.1 h2
    refine ⟨fun x hx => ?_, q.nodup_iff.2 (List.nodup_cons.2 ⟨fun hm => ?_, (List.nodup_cons.1 (List.nodup_cons.1 hnd).2).2⟩), ?_⟩
    · rcases List.mem_cons.1 (q.mem_iff.1 hx) with e | e
      · omega
      · have := h1 x (hr x e); omega
    · have := h1 _ (hr _ hm); omega
    · have l1 := p.length_eq
      have l2 := q.length_eq
      simp only [List.length_cons] at l1 l2
      omega
end
theorem merge_of {ws : List Int} {D : List Nat} (hN : 2 ≤ ws.length) (hp : D.Perm (List.range ws.length)) (hs : D.Pairwise (RI (keyW ws))) (hw : ∀ x ∈ ws, 0 ≤ x) : ∃ A B X R, Merge ws.length (wAt (treeOf ws D)) (fun i => ((treeOf ws D).into.getD i 0).toNat) A B X R ∧ ∀ i, i < ws.length → wAt (treeOf ws D) i = ws.getD i 0 := by
  have all := run_all hN hp hs hw
  have stp := run_step hN hp hs hw
  have wfin : ∀ d k, k + d + 1 = ws.length → ∀ i, i < ws.length + k → wAt (treeOf ws D) i = wAt (runH k (Start ws D)) i := by
    intro d
    induction d with
    | zero =>
      intro k hk i hi
      unfold treeOf
      rw [show ws.length - 1 = k by omega]
    | succ d ih =>
      intro k hk i hi
      rw [ih (k + 1) (by omega) i (by omega)]
      exact (stp k (by omega)).old i hi
  have x0 : (wt ws.length 0 (runH 0 (Start ws D))).Perm (List.range ws.length) := by
    show (D ++ List.range' ws.length (ws.length + 0 - ws.length)).Perm _
    rw [Nat.add_zero, Nat.sub_self, List.range'_zero, List.append_nil]
    exact hp
  have xl := x_lt (X := fun k => wt ws.length k (runH k (Start ws D))) (R := fun k => wt ws.length k (taken (taken (runH k (Start ws D))))) (A := fun k => Hu.leastOf (runH k (Start ws D))) (B := fun k => Hu.leastOf (taken (runH k (Start ws D)))) x0 (fun k hk => (stp k hk).perm) (fun k hk => (stp k hk).next)
  have ifin : ∀ d k, k + d + 1 = ws.length → ∀ i, i < ws.length + k → i ∉ wt ws.length k (runH k (Start ws D)) → (treeOf ws D).into.getD i 0 = (runH k (Start ws D)).into.getD i 0 := by
    intro d
    induction d with
    | zero =>
      intro k hk i hi _
      unfold treeOf
      rw [show ws.length - 1 = k by omega]
    | succ d ih =>
      intro k hk i hi hn
      have s := stp k (by omega)
      rw [ih (k + 1) (by omega) i (by omega) (fun hm => ?_)]
      · exact s.io i hi hn
      · rcases List.mem_cons.1 (s.next.mem_iff.1 hm) with e | e
        · omega
        · exact hn (s.perm.mem_iff.2 (by simp [e]))
  have taken_ab : ∀ k, k + 2 ≤ ws.length → Hu.leastOf (runH k (Start ws D)) < ws.length + k ∧ Hu.leastOf (taken (runH k (Start ws D))) < ws.length + k ∧ Hu.leastOf (runH k (Start ws D)) ∉ wt ws.length (k + 1) (runH (k + 1) (Start ws D)) ∧ Hu.leastOf (taken (runH k (Start ws D))) ∉ wt ws.length (k + 1) (runH (k + 1) (Start ws D)) := by
    intro k hk
    have s := stp k hk
    obtain ⟨l1, l2, _⟩ := xl k (by omega)
    have la := l1 (Hu.leastOf (runH k (Start ws D))) (s.perm.mem_iff.2 (by simp))
    have lb := l1 (Hu.leastOf (taken (runH k (Start ws D)))) (s.perm.mem_iff.2 (by simp))
    have hnd := s.perm.nodup_iff.1 l2
    rw [List.nodup_cons, List.nodup_cons] at hnd
    refine ⟨la, lb, fun hm => ?_, fun hm => ?_⟩
    · rcases List.mem_cons.1 (s.next.mem_iff.1 hm) with e | e
      · omega
      · exact hnd.1 (by simp [e])
    · rcases List.mem_cons.1 (s.next.mem_iff.1 hm) with e | e
      · omega
      · exact hnd.2.1 e
  have wk : ∀ k, k + 2 ≤ ws.length → ∀ i, i < ws.length + k → wAt (treeOf ws D) i = wAt (runH k (Start ws D)) i := fun k hk => wfin (ws.length - 1 - k) k (by omega)
  refine ⟨fun k => Hu.leastOf (runH k (Start ws D)), fun k => Hu.leastOf (taken (runH k (Start ws D))), fun k => wt ws.length k (runH k (Start ws D)), fun k => wt ws.length k (taken (taken (runH k (Start ws D)))), ⟨hN, x0, fun k hk => (stp k hk).perm, fun k hk => (stp k hk).next, fun k hk => ?_, fun k hk => ?_, fun k hk => ?_, fun k hk x hx => ?_, fun k hk x hx => ?_, fun i j h1 h2 h3 => ?_, fun i hi => ?_⟩, fun i hi => ?_⟩
  · obtain ⟨la, lb, _⟩ := taken_ab k hk
    rw [wfin (ws.length - 1 - (k + 1)) (k + 1) (by omega) _ (by omega), (stp k hk).new, wk k hk _ la, wk k hk _ lb]
  · obtain ⟨la, lb, na, nb⟩ := taken_ab k hk
    show ((treeOf ws D).into.getD _ 0).toNat = _
    rw [ifin (ws.length - 1 - (k + 1)) (k + 1) (by omega) _ (by omega) na, (stp k hk).ia]
    omega
  · obtain ⟨la, lb, na, nb⟩ := taken_ab k hk
    show ((treeOf ws D).into.getD _ 0).toNat = _
    rw [ifin (ws.length - 1 - (k + 1)) (k + 1) (by omega) _ (by omega) nb, (stp k hk).ib]
    omega
  · obtain ⟨la, lb, na, nb⟩ := taken_ab k hk
    have := (stp k hk).mA x hx
    have hx2 := (xl k (by omega)).1 x ((stp k hk).perm.mem_iff.2 (List.mem_cons_of_mem _ hx))
    unfold RI at this ⊢
    rw [wk k hk _ la, wk k hk _ hx2]
    exact this
  · obtain ⟨la, lb, na, nb⟩ := taken_ab k hk
    have := (stp k hk).mB x hx
    have hx2 := (xl k (by omega)).1 x ((stp k hk).perm.mem_iff.2 (List.mem_cons_of_mem _ (List.mem_cons_of_mem _ hx)))
    unfold RI at this ⊢
    rw [wk k hk _ lb, wk k hk _ hx2]
    exact this
  · obtain ⟨h, last, s⟩ := all (ws.length - 1) (by omega)
    exact s.js i j h1 h2 (by omega)
  · obtain ⟨h, last, s⟩ := all (ws.length - 1) (by omega)
    exact (h.pos i (by omega)).1
  · rw [wk 0 (by omega) i (by omega)]
    rfl

end Go.Proofs.YtdagfcflbphoiaaDoor
/- The merging of weights: what depths come to. No program in sight. -/
namespace Go.Proofs.YtdagfcflbphoiaaDoor
set_option linter.unusedVariables false
set_option linter.unusedSimpArgs false
open Hu

theorem sumI_perm {a b : List Int} (h : a.Perm b) : sumI a = sumI b := by
  induction h with
  | nil => rfl
  | cons x _ ih => simp only [sumI, ih]
  | swap x y l => simp only [sumI]; omega
  | trans _ _ ih1 ih2 => exact ih1.trans ih2

section
variable {N : Nat} {w : Nat → Int} {I A B : Nat → Nat} {X R : Nat → List Nat}
theorem Merge.lt (m : Merge N w I A B X R) {k : Nat} (hk : k + 1 ≤ N) {x : Nat} (hx : x ∈ X k) : x < N + k := (x_lt m.x0 m.st m.nx k hk).1 x hx
theorem Merge.len (m : Merge N w I A B X R) {k : Nat} (hk : k + 1 ≤ N) : (X k).length = N - k := (x_lt m.x0 m.st m.nx k hk).2.2
theorem Merge.last (m : Merge N w I A B X R) : X (N - 1) = [2 * N - 2] := by
  have hN := m.two
  have hl := m.len (k := N - 1) (by omega)
  have hx : 2 * N - 2 ∈ X (N - 1) := by
    have := m.nx (N - 2) (by omega)
    rw [show N - 2 + 1 = N - 1 by omega] at this
    exact this.mem_iff.2 (by rw [show N + (N - 2) = 2 * N - 2 by omega]; simp)
  obtain ⟨y, hy⟩ := List.length_eq_one_iff.1 (show (X (N - 1)).length = 1 by omega)
  rw [hy] at hx ⊢
  rw [List.mem_singleton.1 hx]
theorem Merge.aX (m : Merge N w I A B X R) {k : Nat} (hk : k + 2 ≤ N) : A k ∈ X k ∧ B k ∈ X k ∧ (∀ x ∈ R k, x ∈ X k) ∧ (∀ x ∈ R k, x ∈ X (k + 1)) ∧ N + k ∈ X (k + 1) := by
  have p := m.st k hk
  have q := m.nx k hk
  exact ⟨p.mem_iff.2 (by simp), p.mem_iff.2 (by simp), fun x hx => p.mem_iff.2 (by simp [hx]), fun x hx => q.mem_iff.2 (by simp [hx]), q.mem_iff.2 (by simp)⟩
theorem Merge.in_or (m : Merge N w I A B X R) : ∀ k, k + 1 ≤ N → ∀ p, p < N + k → p ∈ X k ∨ I p < N + k := by
  intro k
  induction k with
  | zero => intro _ p hp; exact .inl (m.x0.mem_iff.2 (List.mem_range.2 (by omega)))
  | succ k ih =>
    intro hk p hp
    obtain ⟨h1, h2, h3, h4, h5⟩ := m.aX hk
    by_cases e : p = N + k
    · exact .inl (by rw [e]; exact h5)
    · rcases ih (by omega) p (by omega) with q | q
      · rcases List.mem_cons.1 ((m.st k hk).mem_iff.1 q) with r | r
        · right; rw [r, m.ia k hk]; omega
        · rcases List.mem_cons.1 r with r | r
          · right; rw [r, m.ib k hk]; omega
          · exact .inl (h4 p r)
      · right; omega
theorem Merge.ge (m : Merge N w I A B X R) : ∀ d k, k + d + 1 = N → ∀ x ∈ X k, x = 2 * N - 2 ∨ N + k ≤ I x := by
  intro d
  induction d with
  | zero =>
    intro k hk x hx
    have := m.last
    rw [show N - 1 = k by omega] at this
    rw [this] at hx
    exact .inl (List.mem_singleton.1 hx)
  | succ d ih =>
    intro k hk x hx
    have hk2 : k + 2 ≤ N := by omega
    rcases List.mem_cons.1 ((m.st k hk2).mem_iff.1 hx) with r | r
    · right; rw [r, m.ia k hk2]; exact Nat.le_refl _
    · rcases List.mem_cons.1 r with r | r
      · right; rw [r, m.ib k hk2]; exact Nat.le_refl _
      · rcases ih (k + 1) (by omega) x ((m.aX hk2).2.2.2.1 x r) with q | q
        · exact .inl q
        · right; omega
theorem Merge.ge' (m : Merge N w I A B X R) {k : Nat} (hk : k + 1 ≤ N) {x : Nat} (hx : x ∈ X k) (hr : x ≠ 2 * N - 2) : N + k ≤ I x := (m.ge (N - 1 - k) k (by omega) x hx).resolve_left hr
theorem Merge.up (m : Merge N w I A B X R) {i : Nat} (hi : i < 2 * N - 2) : i < I i ∧ I i ≤ 2 * N - 2 ∧ N ≤ I i := by
  have hN := m.two
  have h1 : I i ≤ 2 * N - 2 := by
    rcases m.in_or (N - 1) (by omega) i (by omega) with q | q
    · rw [m.last] at q
      have := List.mem_singleton.1 q
      omega
    · omega
  by_cases hl : i < N
  · have := m.ge' (k := 0) (by omega) (m.x0.mem_iff.2 (List.mem_range.2 hl)) (by omega)
    omega
  · have := m.ge' (k := i - N + 1) (by omega) (x := i) (by have := (m.aX (k := i - N) (by omega)).2.2.2.2; rwa [show N + (i - N) = i by omega] at this) (by omega)
    omega
theorem Merge.inv (m : Merge N w I A B X R) {q k : Nat} (hk : k + 2 ≤ N) (hq : q < 2 * N - 2) (h : I q = N + k) : q ∈ X k ∧ (q = A k ∨ q = B k) := by
  have hu := (m.up hq).1
  have h1 : q ∈ X k := by
    rcases m.in_or k (by omega) q (by omega) with r | r
    · exact r
    · omega
  refine ⟨h1, ?_⟩
  rcases List.mem_cons.1 ((m.st k hk).mem_iff.1 h1) with r | r
  · exact .inl r
  · rcases List.mem_cons.1 r with r | r
    · exact .inr r
    · have := m.ge' (k := k + 1) (by omega) ((m.aX hk).2.2.2.1 q r) (by omega)
      omega
/-- what was made later is no deeper -/
theorem Merge.mid (m : Merge N w I A B X R) {dep : Nat → Nat} (d0 : dep (2 * N - 2) = 0) (d1 : ∀ i, i < 2 * N - 2 → dep i = dep (I i) + 1) : ∀ f p q, 2 * N - 2 - p ≤ f → N ≤ p → p ≤ q → q ≤ 2 * N - 2 → dep q ≤ dep p := by
  intro f
  induction f with
  | zero =>
    intro p q hf h1 h2 h3
    obtain rfl : p = q := by omega
    exact Nat.le_refl _
  | succ f ih =>
    intro p q hf h1 h2 h3
    by_cases e : q = 2 * N - 2
    · rw [e, d0]; omega
    by_cases e2 : p = q
    · rw [e2]; exact Nat.le_refl _
    rw [d1 p (by omega), d1 q (by omega)]
    have up := m.up (show p < 2 * N - 2 by omega)
    have uq := m.up (show q < 2 * N - 2 by omega)
    have hle : I p ≤ I q := by
      obtain ⟨k, hk⟩ : ∃ k, I q = N + k := ⟨I q - N, by omega⟩
      have hk2 : k + 2 ≤ N := by omega
      obtain ⟨hx, hab⟩ := m.inv hk2 (by omega) hk
      have hlt := m.lt (by omega) hx
      rw [hk]
      rcases m.in_or k (by omega) p (by omega) with r | r
      · rcases List.mem_cons.1 ((m.st k hk2).mem_iff.1 r) with s | s
        · rw [s, m.ia k hk2]; exact Nat.le_refl _
        · rcases List.mem_cons.1 s with s | s
          · rw [s, m.ib k hk2]; exact Nat.le_refl _
          · have hRI : RI w q p := by
              rcases hab with t | t
              · rw [t]; exact m.mA k hk2 p (List.mem_cons_of_mem _ s)
              · rw [t]; exact m.mB k hk2 p s
            have := m.mono p q h1 h2 h3
            unfold RI at hRI
            omega
      · omega
    have := ih (I p) (I q) (by omega) (by omega) hle (by omega)
    omega
/-- of two symbols the one with the greater weight has no greater depth -/
theorem Merge.order (m : Merge N w I A B X R) {dep : Nat → Nat} (d0 : dep (2 * N - 2) = 0) (d1 : ∀ i, i < 2 * N - 2 → dep i = dep (I i) + 1) {x y : Nat} (hx : x < N) (hy : y < N) (hw : w y < w x) : dep x ≤ dep y := by
  have hN := m.two
  have ux := m.up (show x < 2 * N - 2 by omega)
  have uy := m.up (show y < 2 * N - 2 by omega)
  obtain ⟨k, hk⟩ : ∃ k, I y = N + k := ⟨I y - N, by omega⟩
  have hk2 : k + 2 ≤ N := by omega
  have hge : N + k ≤ I x := by
    rcases m.in_or k (by omega) x (by omega) with r | r
    · exact m.ge' (by omega) r (by omega)
    · exfalso
      obtain ⟨j, hj⟩ : ∃ j, I x = N + j := ⟨I x - N, by omega⟩
      obtain ⟨hxj, hab⟩ := m.inv (by omega) (by omega) hj
      have hyj : y ∈ X j := by
        rcases m.in_or j (by omega) y (by omega) with s | s
        · exact s
        · omega
      have hj2 : j + 2 ≤ N := by omega
      have hRI : RI w x y := by
        rcases List.mem_cons.1 ((m.st j hj2).mem_iff.1 hyj) with s | s
        · have := m.ia j hj2; rw [← s] at this; omega
        · rcases List.mem_cons.1 s with t | t
          · have := m.ib j hj2; rw [← t] at this; omega
          · rcases hab with u | u
            · rw [u]; exact m.mA j hj2 y s
            · rw [u]; exact m.mB j hj2 y t
      unfold RI at hRI
      omega
  rw [d1 x (by omega), d1 y (by omega), hk]
  have := m.mid d0 d1 (2 * N) (N + k) (I x) (by omega) (by omega) hge (by omega)
  omega
/-- depths are bounded by how many trees there are -/
theorem Merge.dep_le (m : Merge N w I A B X R) {dep : Nat → Nat} (d0 : dep (2 * N - 2) = 0) (d1 : ∀ i, i < 2 * N - 2 → dep i = dep (I i) + 1) : ∀ f i, 2 * N - 2 - i ≤ f → i ≤ 2 * N - 2 → dep i ≤ 2 * N - 2 - i := by
  intro f
  induction f with
  | zero => intro i h1 h2; obtain rfl : i = 2 * N - 2 := by omega
            rw [d0]; omega
  | succ f ih =>
    intro i h1 h2
    by_cases e : i = 2 * N - 2
    · rw [e, d0]; omega
    · have u := m.up (show i < 2 * N - 2 by omega)
      have := ih (I i) (by omega) (by omega)
      rw [d1 i (by omega)]
      omega
/-- a sum over what waits that no join changes -/
theorem Merge.keeps (m : Merge N w I A B X R) (f : Nat → Int) (hf : ∀ k, k + 2 ≤ N → f (A k) + f (B k) = f (N + k)) : ∀ k, k + 1 ≤ N → sumI ((X k).map f) = f (2 * N - 2) := by
  have hN := m.two
  have : ∀ d k, k + d + 1 = N → sumI ((X k).map f) = f (2 * N - 2) := by
    intro d
    induction d with
    | zero =>
      intro k hk
      have := m.last
      rw [show N - 1 = k by omega] at this
      rw [this]
      simp [sumI]
    | succ d ih =>
      intro k hk
      have hk2 : k + 2 ≤ N := by omega
      have h1 := ih (k + 1) (by omega)
      rw [sumI_perm ((m.nx k hk2).map f)] at h1
      rw [sumI_perm ((m.st k hk2).map f)]
      simp only [List.map_cons, sumI] at h1 ⊢
      have := hf k hk2
      omega
  exact fun k hk => this (N - 1 - k) k (by omega)
theorem Merge.ab_lt (m : Merge N w I A B X R) {k : Nat} (hk : k + 2 ≤ N) : A k < 2 * N - 2 ∧ B k < 2 * N - 2 := by
  have h := m.aX hk
  have := m.lt (by omega) h.1
  have := m.lt (by omega) h.2.1
  omega
theorem Merge.dep_ab (m : Merge N w I A B X R) {dep : Nat → Nat} (d1 : ∀ i, i < 2 * N - 2 → dep i = dep (I i) + 1) {k : Nat} (hk : k + 2 ≤ N) : dep (A k) = dep (N + k) + 1 ∧ dep (B k) = dep (N + k) + 1 := by
  have h := m.ab_lt hk
  rw [d1 _ h.1, d1 _ h.2, m.ia k hk, m.ib k hk]
  exact ⟨rfl, rfl⟩
/-- the share of all depths -/
theorem Merge.kraft (m : Merge N w I A B X R) {dep : Nat → Nat} (d0 : dep (2 * N - 2) = 0) (d1 : ∀ i, i < 2 * N - 2 → dep i = dep (I i) + 1) (M : Nat) (hM : 2 * N ≤ M) : sumI ((List.range N).map fun i => (2 : Int) ^ (M - dep i)) = 2 ^ M := by
  have hN := m.two
  have h := m.keeps (fun i => (2 : Int) ^ (M - dep i)) (fun k hk => by
    obtain ⟨e1, e2⟩ := m.dep_ab d1 hk
    have hb := m.dep_le d0 d1 (2 * N) (N + k) (by omega) (by omega)
    show (2 : Int) ^ (M - dep (A k)) + 2 ^ (M - dep (B k)) = 2 ^ (M - dep (N + k))
    rw [e1, e2, show M - dep (N + k) = (M - (dep (N + k) + 1)) + 1 by omega, Int.pow_succ]
    omega) 0 (by omega)
  rw [sumI_perm (m.x0.map _), d0] at h
  exact h
end
end Go.Proofs.YtdagfcflbphoiaaDoor
/- Depths as a plain function of weights, and what they obey. No program in sight. -/
namespace Go.Proofs.YtdagfcflbphoiaaDoor
set_option linter.unusedVariables false
set_option linter.unusedSimpArgs false
open Hu

theorem fill_keep (into : List Int) : ∀ (i : Nat) (out : List Int) (j : Nat), i ≤ j → (fillD into i out).getD j 0 = out.getD j 0
  | 0, out, j, _ => rfl
  | i + 1, out, j, h => by
    unfold fillD
    rw [fill_keep into i _ j (by omega), getD_setI, if_neg (by omega)]
theorem fill_rec (into : List Int) (T : Nat) : ∀ (i : Nat) (out : List Int), out.length = T → i ≤ T → (∀ j, j < i → j < (into.getD j 0).toNat ∧ (into.getD j 0).toNat < T) → ∀ j, j < i → (fillD into i out).getD j 0 = (fillD into i out).getD (into.getD j 0).toNat 0 + 1
  | 0, out, _, _, _, j, hj => by omega
  | i + 1, out, hl, hi, hin, j, hj => by
    have h0 := hin i (by omega)
    unfold fillD
    by_cases e : j = i
    · subst e
      rw [fill_keep into j _ j (by omega), fill_keep into j _ _ (by omega), getD_setI, getD_setI, if_pos ⟨rfl, by omega⟩, if_neg (by omega)]
    · exact fill_rec into T i _ (by rw [List.length_set]; exact hl) (by omega) (fun j hj => hin j (by omega)) j (by omega)
theorem fill_pos (into : List Int) : ∀ (i : Nat) (out : List Int), (∀ j, 0 ≤ out.getD j 0) → ∀ j, 0 ≤ (fillD into i out).getD j 0
  | 0, out, h, j => h j
  | i + 1, out, h, j => by
    unfold fillD
    refine fill_pos into i _ (fun j => ?_) j
    rw [getD_setI]
    have := h j
    have := h (into.getD i 0).toNat
    split <;> omega

/-- the merging of weights and the depths that come of it -/
structure Deps (ws : List Int) (D : List Nat) (w : Nat → Int) (I A B : Nat → Nat) (X R : Nat → List Nat) (dep : Nat → Nat) : Prop where
  m : Merge ws.length w I A B X R
  d0 : dep (2 * ws.length - 2) = 0
  d1 : ∀ i, i < 2 * ws.length - 2 → dep i = dep (I i) + 1
  ww : ∀ i, i < ws.length → w i = ws.getD i 0
  eq : depthsP ws D = (List.range ws.length).map fun i => (dep i : Int)
theorem deps_of {ws : List Int} {D : List Nat} (hN : 2 ≤ ws.length) (hp : D.Perm (List.range ws.length)) (hs : D.Pairwise (RI (keyW ws))) (hw : ∀ x ∈ ws, 0 ≤ x) : ∃ w I A B X R dep, Deps ws D w I A B X R dep := by
  obtain ⟨A, B, X, R, m, ww⟩ := merge_of hN hp hs hw
  obtain ⟨out, hout⟩ : ∃ out, fillD (treeOf ws D).into (2 * ws.length - 2) (List.replicate (2 * ws.length - 1) 0) = out := ⟨_, rfl⟩
  have hpos : ∀ j, 0 ≤ out.getD j 0 := by
    rw [← hout]
    refine fill_pos _ _ _ fun j => ?_
    rw [List.getD_eq_getElem?_getD, List.getElem?_replicate]
    split <;> simp
  have hlen : out.length = 2 * ws.length - 1 := by rw [← hout, fillD_len, List.length_replicate]
  refine ⟨_, _, A, B, X, R, fun i => (out.getD i 0).toNat, m, ?_, fun i hi => ?_, ww, ?_⟩
  · rw [← hout, fill_keep _ _ _ _ (Nat.le_refl _), List.getD_eq_getElem?_getD, List.getElem?_replicate]
    split <;> rfl
  · have h1 := fill_rec (treeOf ws D).into (2 * ws.length - 1) (2 * ws.length - 2) (List.replicate (2 * ws.length - 1) 0) (by rw [List.length_replicate]) (by omega) (fun j hj => by
      have := m.up hj
      omega) i hi
    rw [hout] at h1
    have := hpos ((treeOf ws D).into.getD i 0).toNat
    show (out.getD i 0).toNat = (out.getD ((treeOf ws D).into.getD i 0).toNat 0).toNat + 1
    rw [h1]
    omega
  · unfold depthsP
    rw [hout]
    apply List.ext_getElem
    · simp [hlen]; omega
    · intro i h1 h2
      have h3 : i < ws.length := by simpa using h2
      have := hpos i
      rw [List.getD_eq_getElem?_getD, List.getElem?_eq_getElem (by omega)] at this
      simp only [List.getElem_take, List.getElem_map, List.getElem_range]
      rw [List.getD_eq_getElem?_getD, List.getElem?_eq_getElem (by omega)]
      simp only [Option.getD_some] at this ⊢
      omega

theorem sorted_one {k : Nat → Int} : ∀ {a b : List Nat}, a.Perm b → a.Pairwise (RI k) → b.Pairwise (RI k) → a = b
  | [], b, h, _, _ => (List.nil_perm.1 h).symm
  | x :: a, [], h, _, _ => by simp at h
  | x :: a, y :: b, h, h1, h2 => by
    have h1' := List.pairwise_cons.1 h1
    have h2' := List.pairwise_cons.1 h2
    have e : x = y := by
      have m1 : x ∈ y :: b := h.mem_iff.1 (by simp)
      have m2 : y ∈ x :: a := h.mem_iff.2 (by simp)
      rcases List.mem_cons.1 m1 with e | e
      · exact e
      · rcases List.mem_cons.1 m2 with e2 | e2
        · exact e2.symm
        · have r1 := h2'.1 x e
          have r2 := h1'.1 y e2
          unfold RI at r1 r2
          omega
    subst e
    rw [sorted_one h.cons_inv h1'.2 h2'.2]
def Sorts (ws : List Int) (D : List Nat) : Prop := D.Perm (List.range ws.length) ∧ D.Pairwise (RI (keyW ws))
theorem Sorts.one {ws : List Int} {D E : List Nat} (h : Sorts ws D) (k : Sorts ws E) : D = E := sorted_one (h.1.trans k.1.symm) h.2 k.2
open Classical in
noncomputable def sortD (ws : List Int) : List Nat := if h : ∃ D, Sorts ws D then h.choose else []
theorem Sorts.eq {ws : List Int} {D : List Nat} (h : Sorts ws D) : sortD ws = D := by
  unfold sortD
  have hx : ∃ D, Sorts ws D := ⟨D, h⟩
  rw [dif_pos hx]
  exact hx.choose_spec.one h
/-- the depths of weights -/
noncomputable def depF (ws : List Int) : List Int := depthsP ws (sortD ws)
theorem Sorts.dep {ws : List Int} {D : List Nat} (h : Sorts ws D) : depthsP ws D = depF ws := by unfold depF; rw [h.eq]

theorem getD_map_range {f : Nat → Int} {n i : Nat} (h : i < n) : ((List.range n).map f).getD i 0 = f i := by
  rw [List.getD_eq_getElem?_getD, List.getElem?_map, List.getElem?_range h]
  rfl
section
variable {ws : List Int} {D : List Nat} {w : Nat → Int} {I A B : Nat → Nat} {X R : Nat → List Nat} {dep : Nat → Nat}
theorem Deps.at_ (d : Deps ws D w I A B X R dep) {i : Nat} (h : i < ws.length) : (depthsP ws D).getD i 0 = dep i := by
  rw [d.eq, getD_map_range h]
theorem Deps.ge1 (d : Deps ws D w I A B X R dep) {i : Nat} (h : i < ws.length) : 1 ≤ dep i := by
  have := d.m.two
  rw [d.d1 i (by omega)]
  omega
theorem Deps.le (d : Deps ws D w I A B X R dep) {i : Nat} (h : i < ws.length) : dep i < ws.length := by
  have hN := d.m.two
  have u := d.m.up (show i < 2 * ws.length - 2 by omega)
  have := d.m.dep_le d.d0 d.d1 (2 * ws.length) (I i) (by omega) (by omega)
  rw [d.d1 i (by omega)]
  omega
theorem Deps.mem (d : Deps ws D w I A B X R dep) {P : Int → Prop} : (∀ x ∈ depthsP ws D, P x) ↔ ∀ i, i < ws.length → P (dep i) := by
  rw [d.eq]
  simp
end

/-- shares -/
def shr1 (x : Int) : Int := 2 ^ (20 - x).toNat
def shrL (xs : List Int) : Int := sumI (xs.map shr1)
theorem Deps.share {ws : List Int} {D : List Nat} {w : Nat → Int} {I A B : Nat → Nat} {X R : Nat → List Nat} {dep : Nat → Nat} (d : Deps ws D w I A B X R dep) (h : ∀ x ∈ depthsP ws D, x ≤ 20) : shrL (depthsP ws D) = 1048576 := by
  have h := d.mem.1 h
  have hN := d.m.two
  obtain ⟨M, hM⟩ : ∃ M, M = 2 * ws.length + 20 := ⟨_, rfl⟩
  have hk := d.m.kraft d.d0 d.d1 M (by omega)
  have e : ∀ l : List Nat, (∀ i ∈ l, i < ws.length) → sumI (l.map fun i => (2 : Int) ^ (M - dep i)) = 2 ^ (M - 20) * sumI (l.map fun i => shr1 (dep i)) := by
    intro l
    induction l with
    | nil => intro _; simp [sumI]
    | cons x l ih =>
      intro hl
      have hx := h x (hl x (by simp))
      simp only [List.map_cons, sumI]
      rw [ih (fun i hi => hl i (by simp [hi])), Int.mul_add]
      congr 1
      unfold shr1
      rw [← Int.pow_add]
      congr 1
      omega
  rw [e _ (fun i hi => List.mem_range.1 hi)] at hk
  unfold shrL
  rw [d.eq, List.map_map]
  have hk2 : (2 : Int) ^ M = 2 ^ (M - 20) * 1048576 := by
    rw [show (1048576 : Int) = 2 ^ 20 by rfl, ← Int.pow_add]
    congr 1
    omega
  rw [hk2] at hk
  exact Int.eq_of_mul_eq_mul_left (Int.ne_of_gt (Int.pow_pos (by omega))) hk

end Go.Proofs.YtdagfcflbphoiaaDoor
/- Depths, halved weights, shares, lengths: the program's own functions, by the second form. -/
namespace Go.Proofs.YtdagfcflbphoiaaDoor
set_option linter.unusedVariables false
set_option linter.unusedSimpArgs false
open Go.RowKit Ev Hu

/-- weights that may be -/
structure Ws (ws : List Int) : Prop where
  l2 : 2 ≤ ws.length
  l3 : ws.length ≤ 258
  lo : ∀ x ∈ ws, 0 ≤ x
  hi : ∀ x ∈ ws, x ≤ 2199023255552
theorem depF_len {ws : List Int} (h : 1 ≤ ws.length) : (depF ws).length = ws.length := depthsP_len _ _ h
theorem Ws.deps {ws : List Int} (hW : Ws ws) (so : Sorts ws (sortD ws)) : ∃ w I A B X R dep, Deps ws (sortD ws) w I A B X R dep := deps_of hW.l2 so.1 so.2 hW.lo

def halv1 (x : Int) : Int := (if x < 0 then 0 else x).tdiv 2 + 1
def halvL (xs : List Int) : List Int := xs.map halv1
theorem halvL_len (xs : List Int) : (halvL xs).length = xs.length := by unfold halvL; simp
/-- a row that is written from the front -/
def part (L : List Int) (i : Nat) : List Int := L.take i ++ List.replicate (L.length - i) 0
end Go.Proofs.YtdagfcflbphoiaaDoor
/- Layer 8 by the second form: counts, groups, sums; the program's. -/
namespace Go.Proofs.YtdagfcflbphoiaaDoor
set_option linter.unusedVariables false
set_option linter.unusedSimpArgs false
open Go.RowKit Ev Tb

theorem run_sub {β : Type} {W : Nat → Prop} {n0 : Nat} {h : H} {n : Nat} {Q : β → H → Nat → Prop} {v : Value} {xs : List Int} (hR : Row h n 3 .i64 v xs) {l hh : Nat} (h1 : l < hh) (h2 : hh ≤ xs.length) {kd kd' : IntKind} (k : Value → M β)
    (y : ∀ v', Row h n 3 .i64 v' ((xs.drop l).take (hh - l)) → Run W n0 (k v') h n Q) : Run W n0 (slice2 Tryd.prog 22 v (some (.int kd (l : Int))) (some (.int kd' (hh : Int))) none k) h n Q := by
  rcases hR with ⟨a, c, rfl, _, rfl⟩ | ⟨b, off, cap, o, cs, rfl, hg, hb, hle, ht, hc⟩
  · simp at h2; omega
  · refine slice_run c1x22 hg rfl hb off xs.length cap _ _ (bound_nat _ _ _) (bound_nat _ _ _) (by omega) h2 hc _ (by kernel_rfl) ?_
    rw [if_neg (by omega)]
    have hlen : ((xs.drop l).take (hh - l)).length = hh - l := by simp; omega
    refine y _ (.inr ⟨b, off + l, cap - l, o, cs, by rw [hlen], hg, hb, by rw [hlen]; omega, ?_, by rw [hlen]; omega⟩)
    rw [hlen]
    have : (cs.drop (off + l)).take (hh - l) = (((cs.drop off).take xs.length).drop l).take (hh - l) := by
      rw [List.drop_take, List.take_take, List.drop_drop, Nat.min_eq_left (by omega)]
    rw [this, ht]
    unfold intsV
    rw [List.map_take, List.map_drop]

section
variable (lf d n : Nat) (h : H) (hlf : 3000000 ≤ lf)
include hlf
omit hlf in
theorem s_fGroups (x : Nat) (hx : x ≤ 9223372036854775807) : Run (fun _ => False) n (evCall2 Tryd.prog gt lf (d + 1) 29 #[.int .i64 (x : Int)]) h n fun v' h' n' => v' = .int .i64 (grpN x : Int) ∧ h' = h ∧ n' = n := by
  rw [sh_freq_Groups]
  refine Run.inside_ ?_
  unfold b_freq_Groups
  by_cases c : x = 0
  · subst c
    have e1 : ((0 : Nat) : Int) ≤ 0 := by omega
    try simp (disch := first | omega | assumption | exact one_int _ _ | exact one_slice _ _ _ | exact one_ptr _ | exact one_bool _ | exact one_string _) only [RXA, RXB, Nat.reduceAdd, Nat.reduceLT, wrap_id, wrap_succ, wrap_pred, FX1, e1]
    all_goals (first | rfl | exact ⟨rfl, rfl, rfl⟩ | exact ⟨rfl, rfl⟩)
  · have e1 : ¬ ((x : Int) ≤ 0) := by omega
    have e2 : IntKind.i64.wrap ((x : Int) - 1) = ((x - 1 : Nat) : Int) := by rw [wrap_id (by omega) (by omega)]; omega
    have e3 : ((x - 1 : Nat) : Int).tdiv 50 = (((x - 1) / 50 : Nat) : Int) := rfl
    have e4 : IntKind.i64.wrap (((x - 1) / 50 : Nat) : Int) = (((x - 1) / 50 : Nat) : Int) := wrap_id (by omega) (by omega)
    have e5 : IntKind.i64.wrap ((((x - 1) / 50 : Nat) : Int) + 1) = (grpN x : Int) := by rw [wrap_id (by omega) (by omega)]; unfold grpN; omega
    try simp (disch := first | omega | assumption | exact one_int _ _ | exact one_slice _ _ _ | exact one_ptr _ | exact one_bool _ | exact one_string _) only [RXA, RXB, Nat.reduceAdd, Nat.reduceLT, wrap_id, wrap_succ, wrap_pred, FX1, e1, e2, e3, e4, e5]
omit hlf in
theorem s_fGroup (v : Value) (xs : List Int) (hR : Row h n 3 .i64 v xs) (hl : xs.length ≤ 1000000) (i : Nat) (hi : i < grpN xs.length) :
    Run (fun _ => False) n (evCall2 Tryd.prog gt lf (d + 3) 30 #[v, .int .i64 (i : Int)]) h n fun v' h' n' => ∃ u, v' = .tuple #[u, .int .i64 0] ∧ Row h' n' 3 .i64 u (grp xs i) := by
  rw [sh_freq_Group]
  refine Run.inside_ ?_
  unfold b_freq_Group
  have hR0 := hR
  obtain ⟨a, c, rfl⟩ := hR.len
  have e1 : ¬ ((i : Int) < 0) := by omega
  try simp (disch := first | omega | assumption | exact one_int _ _ | exact one_slice _ _ _ | exact one_ptr _ | exact one_bool _ | exact one_string _) only [RXA, RXB, Nat.reduceAdd, Nat.reduceLT, wrap_id, wrap_succ, wrap_pred, FX1, e1]
  refine run_same (s_fGroups lf (d + 1) n h xs.length (by omega)) (Nat.le_refl _) (fun _ _ h => h.elim) ?_
  have e2 : ¬ ((grpN xs.length : Int) ≤ (i : Int)) := by omega
  try simp (disch := first | omega | assumption | exact one_int _ _ | exact one_slice _ _ _ | exact one_ptr _ | exact one_bool _ | exact one_string _) only [RXA, RXB, Nat.reduceAdd, Nat.reduceLT, wrap_id, wrap_succ, wrap_pred, FX1, e2]
  have hp := grp_pos hi
  unfold grpN at hi
  have s1 : Run (fun _ => False) n (evCall2 Tryd.prog gt lf (d + 2) 47 #[.slice a xs.length c, .int .i64 (i : Int), .int .i64 50]) h n fun v' h' n' => Row h' n' 3 .i64 v' (grp xs i) := by
    rw [sh_freq_part_int]
    refine Run.inside_ ?_
    unfold b_freq_part_int
    have f1 : IntKind.i64.wrap ((i : Int) * 50) = ((50 * i : Nat) : Int) := by rw [wrap_id (by omega) (by omega)]; omega
    have f2 : IntKind.i64.wrap ((i : Int) + 1) = ((i + 1 : Nat) : Int) := w_next (N := 1000000) (by omega) (by omega)
    have f3 : IntKind.i64.wrap (((i + 1 : Nat) : Int) * 50) = ((50 * i + 50 : Nat) : Int) := by rw [wrap_id (by omega) (by omega)]; omega
    have f4 : (if ((50 * i + 50 : Nat) : Int) < ((xs.length : Nat) : Int) then ((50 * i + 50 : Nat) : Int) else ((xs.length : Nat) : Int)) = ((min xs.length (50 * i + 50) : Nat) : Int) := by split <;> omega
    try simp (disch := first | omega | assumption | exact one_int _ _ | exact one_slice _ _ _ | exact one_ptr _ | exact one_bool _ | exact one_string _) only [RXA, RXB, Nat.reduceAdd, Nat.reduceLT, wrap_id, wrap_succ, wrap_pred, FX1, f1, f2, f3, f4]
    refine run_sub hR0 (by omega) (by omega) _ fun v' hr => ?_
    have hg : (xs.drop (50 * i)).take (min xs.length (50 * i + 50) - 50 * i) = grp xs i := by
      unfold grp
      by_cases q : xs.length ≤ 50 * i + 50
      · rw [List.take_of_length_le (by simp; omega), List.take_of_length_le (by simp; omega)]
      · congr 1; omega
    rw [hg] at hr
    refine run_call okd (s_Clone lf d n h v' _ hr hp (by rw [grp_len]; omega)) (Nat.le_refl _) (fun _ _ h => h.elim) fun v1 h1 n1 hn1 fr1 hq => ?_
    try simp (disch := first | omega | assumption | exact one_int _ _ | exact one_slice _ _ _ | exact one_ptr _ | exact one_bool _ | exact one_string _) only [RXA, RXB, Nat.reduceAdd, Nat.reduceLT, wrap_id, wrap_succ, wrap_pred, FX1]
    exact hq.2.1
  refine run_call okd s1 (Nat.le_refl _) (fun _ _ h => h.elim) fun v1 h1 n1 hn1 fr1 hq => ?_
  try simp (disch := first | omega | assumption | exact one_int _ _ | exact one_slice _ _ _ | exact one_ptr _ | exact one_bool _ | exact one_string _) only [RXA, RXB, Nat.reduceAdd, Nat.reduceLT, wrap_id, wrap_succ, wrap_pred, FX1]
  exact ⟨_, rfl, hq⟩
end
end Go.Proofs.YtdagfcflbphoiaaDoor
/- Layer 8 by the second form: the reference's counts, groups, costs. -/
namespace Go.Proofs.YtdagfcflbphoiaaDoor
set_option linter.unusedVariables false
set_option linter.unusedSimpArgs false
open Go.RowKit Ev Tb

section
variable (lf d n : Nat) (h : H) (hlf : 3000000 ≤ lf)
theorem r_most (z : Int) : Run (fun _ => False) n (evCall2 Tryd.prog gt lf (d + 1) 33 #[.int .i64 z]) h n fun v' h' n' => v' = .int .i64 (capI z) ∧ h' = h ∧ n' = n := by
  rw [sh_balerref08_most]
  refine Run.inside_ ?_
  unfold b_balerref08_most capI
  by_cases c : 1099511627776 < z
  · try simp (disch := first | omega | assumption | exact one_int _ _ | exact one_slice _ _ _ | exact one_ptr _ | exact one_bool _ | exact one_string _) only [RXA, RXB, Nat.reduceAdd, Nat.reduceLT, wrap_id, wrap_succ, wrap_pred, FX1, c]
  · try simp (disch := first | omega | assumption | exact one_int _ _ | exact one_slice _ _ _ | exact one_ptr _ | exact one_bool _ | exact one_string _) only [RXA, RXB, Nat.reduceAdd, Nat.reduceLT, wrap_id, wrap_succ, wrap_pred, FX1, c]
include hlf
theorem r_Of (v : Value) (xs : List Int) (hR : Row h n 3 .i64 v xs) (hl : xs.length ≤ 1000000) (z : Int) :
    Run (fun _ => False) n (evCall2 Tryd.prog gt lf (d + 1) 11 #[v, .int .i64 z]) h n fun v' h' n' => v' = .bool (inB z xs) ∧ h' = h ∧ n' = n := by
  rw [sh_balerref08_Of]
  refine Run.inside_ ?_
  unfold b_balerref08_Of
  have hR0 := hR
  obtain ⟨a, c, rfl⟩ := hR.len
  try simp (disch := first | omega | assumption | exact one_int _ _ | exact one_slice _ _ _ | exact one_ptr _ | exact one_bool _ | exact one_string _) only [RXA, RXB, Nat.reduceAdd, Nat.reduceLT, wrap_id, wrap_succ, wrap_pred, FX1]
  refine run_for xs.length (fun fu i (_ : Unit) => lpA_balerref08_Of lf d fu (kcA_balerref08_Of lf d) _ _ _ _ (.int .i64 (xs.length : Nat)) (.int .i64 (i : Nat))) (fun i _ h' n' => (h' = h ∧ n' = n) ∧ inB z (xs.take i) = true) ?_ ?_ lf 0 () h n (Nat.zero_le _) (by omega) ⟨⟨rfl, rfl⟩, rfl⟩
  · rintro fu _ h' n' ⟨⟨rfl, rfl⟩, ha⟩
    rw [List.take_length] at ha
    rw [succA_balerref08_Of, ha]
    try simp (disch := first | omega | assumption | exact one_int _ _ | exact one_slice _ _ _ | exact one_ptr _ | exact one_bool _ | exact one_string _) only [RXA, RXB, Nat.reduceAdd, Nat.reduceLT, wrap_id, wrap_succ, wrap_pred, FX1, Int.lt_irrefl]
    rw [kcAb_balerref08_Of]
    try simp (disch := first | omega | assumption | exact one_int _ _ | exact one_slice _ _ _ | exact one_ptr _ | exact one_bool _ | exact one_string _) only [RXA, RXB, Nat.reduceAdd, Nat.reduceLT, wrap_id, wrap_succ, wrap_pred, FX1]
  · rintro fu i _ h' n' hi ⟨⟨rfl, rfl⟩, ha⟩ next
    obtain ⟨b, off, cap, o, cs, hv, hg, hb, _, _, _, hat⟩ := hR0.some (by omega)
    cases hv
    have e1 : ((i : Nat) : Int) < ((xs.length : Nat) : Int) := by omega
    have c1 := hat i hi
    rw [succA_balerref08_Of]
    by_cases h1 : xs.getD i 0 < 0
    · rw [inB_neg hi h1]
      try simp (disch := first | omega | assumption | exact one_int _ _ | exact one_slice _ _ _ | exact one_ptr _ | exact one_bool _ | exact one_string _) only [RXA, RXB, Nat.reduceAdd, Nat.reduceLT, wrap_id, wrap_succ, wrap_pred, FX1, e1, hg, c1, h1]
      rw [kcAa_balerref08_Of]
      try simp (disch := first | omega | assumption | exact one_int _ _ | exact one_slice _ _ _ | exact one_ptr _ | exact one_bool _ | exact one_string _) only [RXA, RXB, Nat.reduceAdd, Nat.reduceLT, wrap_id, wrap_succ, wrap_pred, FX1]
    · by_cases h2 : z ≤ xs.getD i 0
      · rw [inB_big hi h2]
        try simp (disch := first | omega | assumption | exact one_int _ _ | exact one_slice _ _ _ | exact one_ptr _ | exact one_bool _ | exact one_string _) only [RXA, RXB, Nat.reduceAdd, Nat.reduceLT, wrap_id, wrap_succ, wrap_pred, FX1, e1, hg, c1, h1, h2]
        rw [kcAa_balerref08_Of]
        try simp (disch := first | omega | assumption | exact one_int _ _ | exact one_slice _ _ _ | exact one_ptr _ | exact one_bool _ | exact one_string _) only [RXA, RXB, Nat.reduceAdd, Nat.reduceLT, wrap_id, wrap_succ, wrap_pred, FX1]
      · try simp (disch := first | omega | assumption | exact one_int _ _ | exact one_slice _ _ _ | exact one_ptr _ | exact one_bool _ | exact one_string _) only [RXA, RXB, Nat.reduceAdd, Nat.reduceLT, wrap_id, wrap_succ, wrap_pred, FX1, e1, hg, c1, h1, h2]
        exact next () _ _ ⟨⟨rfl, rfl⟩, inB_next hi ha rfl (by omega) (by omega)⟩
theorem r_May (v : Value) (xs : List Int) (hR : Row h n 3 .i64 v xs) (hl : xs.length ≤ 1000000) :
    Run (fun _ => False) n (evCall2 Tryd.prog gt lf (d + 1) 12 #[v]) h n fun v' h' n' => v' = .bool (allIn 0 1099511627776 xs) ∧ h' = h ∧ n' = n := by
  rw [sh_balerref08_May]
  refine Run.inside_ ?_
  unfold b_balerref08_May
  have hR0 := hR
  obtain ⟨a, c, rfl⟩ := hR.len
  try simp (disch := first | omega | assumption | exact one_int _ _ | exact one_slice _ _ _ | exact one_ptr _ | exact one_bool _ | exact one_string _) only [RXA, RXB, Nat.reduceAdd, Nat.reduceLT, wrap_id, wrap_succ, wrap_pred, FX1]
  refine run_for xs.length (fun fu i (_ : Unit) => lpA_balerref08_May lf d fu (kcA_balerref08_May lf d) _ _ _ (.int .i64 (xs.length : Nat)) (.int .i64 (i : Nat))) (fun i _ h' n' => (h' = h ∧ n' = n) ∧ allIn 0 1099511627776 (xs.take i) = true) ?_ ?_ lf 0 () h n (Nat.zero_le _) (by omega) ⟨⟨rfl, rfl⟩, rfl⟩
  · rintro fu _ h' n' ⟨⟨rfl, rfl⟩, ha⟩
    rw [List.take_length] at ha
    rw [succA_balerref08_May, ha]
    try simp (disch := first | omega | assumption | exact one_int _ _ | exact one_slice _ _ _ | exact one_ptr _ | exact one_bool _ | exact one_string _) only [RXA, RXB, Nat.reduceAdd, Nat.reduceLT, wrap_id, wrap_succ, wrap_pred, FX1, Int.lt_irrefl]
    rw [kcAb_balerref08_May]
    try simp (disch := first | omega | assumption | exact one_int _ _ | exact one_slice _ _ _ | exact one_ptr _ | exact one_bool _ | exact one_string _) only [RXA, RXB, Nat.reduceAdd, Nat.reduceLT, wrap_id, wrap_succ, wrap_pred, FX1]
  · rintro fu i _ h' n' hi ⟨⟨rfl, rfl⟩, ha⟩ next
    obtain ⟨b, off, cap, o, cs, hv, hg, hb, _, _, _, hat⟩ := hR0.some (by omega)
    cases hv
    have e1 : ((i : Nat) : Int) < ((xs.length : Nat) : Int) := by omega
    have c1 := hat i hi
    rw [succA_balerref08_May]
    by_cases h1 : xs.getD i 0 < 0
    · have : allIn 0 1099511627776 xs = false := all_bad 0 _ hi (by show (decide (0 ≤ xs.getD i 0) && decide (xs.getD i 0 ≤ _)) = false; rw [decide_eq_false (Int.not_le.2 h1)]; rfl)
      rw [this]
      try simp (disch := first | omega | assumption | exact one_int _ _ | exact one_slice _ _ _ | exact one_ptr _ | exact one_bool _ | exact one_string _) only [RXA, RXB, Nat.reduceAdd, Nat.reduceLT, wrap_id, wrap_succ, wrap_pred, FX1, e1, hg, c1, h1]
      rw [kcAa_balerref08_May]
      try simp (disch := first | omega | assumption | exact one_int _ _ | exact one_slice _ _ _ | exact one_ptr _ | exact one_bool _ | exact one_string _) only [RXA, RXB, Nat.reduceAdd, Nat.reduceLT, wrap_id, wrap_succ, wrap_pred, FX1]
    · by_cases h2 : 1099511627776 < xs.getD i 0
      · have : allIn 0 1099511627776 xs = false := all_bad 0 _ hi (by show (decide (0 ≤ xs.getD i 0) && decide (xs.getD i 0 ≤ _)) = false; rw [decide_eq_false (Int.not_le.2 h2), Bool.and_false])
        rw [this]
        try simp (disch := first | omega | assumption | exact one_int _ _ | exact one_slice _ _ _ | exact one_ptr _ | exact one_bool _ | exact one_string _) only [RXA, RXB, Nat.reduceAdd, Nat.reduceLT, wrap_id, wrap_succ, wrap_pred, FX1, e1, hg, c1, h1, h2]
        rw [kcAa_balerref08_May]
        try simp (disch := first | omega | assumption | exact one_int _ _ | exact one_slice _ _ _ | exact one_ptr _ | exact one_bool _ | exact one_string _) only [RXA, RXB, Nat.reduceAdd, Nat.reduceLT, wrap_id, wrap_succ, wrap_pred, FX1]
      · try simp (disch := first | omega | assumption | exact one_int _ _ | exact one_slice _ _ _ | exact one_ptr _ | exact one_bool _ | exact one_string _) only [RXA, RXB, Nat.reduceAdd, Nat.reduceLT, wrap_id, wrap_succ, wrap_pred, FX1, e1, hg, c1, h1, h2]
        exact next () _ _ ⟨⟨rfl, rfl⟩, by unfold allIn at ha ⊢; rw [all_next 0 _ hi, ha, decide_eq_true (Int.not_lt.1 h1), decide_eq_true (Int.not_lt.1 h2)]; rfl⟩
theorem r_count (v : Value) (xs : List Int) (hR : Row h n 3 .i64 v xs) (hl : xs.length ≤ 1000000) (z : Nat) :
    Run (fun _ => False) n (evCall2 Tryd.prog gt lf (d + 1) 32 #[v, .int .i64 (z : Int)]) h n fun v' h' n' => v' = .int .i64 (cntv xs z : Int) ∧ h' = h ∧ n' = n := by
  rw [sh_balerref08_count]
  refine Run.inside_ ?_
  unfold b_balerref08_count
  have hR0 := hR
  obtain ⟨a, c, rfl⟩ := hR.len
  try simp (disch := first | omega | assumption | exact one_int _ _ | exact one_slice _ _ _ | exact one_ptr _ | exact one_bool _ | exact one_string _) only [RXA, RXB, Nat.reduceAdd, Nat.reduceLT, wrap_id, wrap_succ, wrap_pred, FX1]
  refine run_for xs.length (fun fu i (a : Nat) => lpA_balerref08_count lf d fu (kcA_balerref08_count lf d) _ _ _ (.int .i64 (a : Int)) _ (.int .i64 (xs.length : Nat)) (.int .i64 (i : Nat))) (fun i a h' n' => (h' = h ∧ n' = n) ∧ a = cntv (xs.take i) z) ?_ ?_ lf 0 0 h n (Nat.zero_le _) (by omega) ⟨⟨rfl, rfl⟩, rfl⟩
  · rintro fu q h' n' ⟨⟨rfl, rfl⟩, rfl⟩
    rw [succA_balerref08_count, List.take_length]
    try simp (disch := first | omega | assumption | exact one_int _ _ | exact one_slice _ _ _ | exact one_ptr _ | exact one_bool _ | exact one_string _) only [RXA, RXB, Nat.reduceAdd, Nat.reduceLT, wrap_id, wrap_succ, wrap_pred, FX1, Int.lt_irrefl]
    rw [kcAa_balerref08_count]
    try simp (disch := first | omega | assumption | exact one_int _ _ | exact one_slice _ _ _ | exact one_ptr _ | exact one_bool _ | exact one_string _) only [RXA, RXB, Nat.reduceAdd, Nat.reduceLT, wrap_id, wrap_succ, wrap_pred, FX1]
  · rintro fu i q h' n' hi ⟨⟨rfl, rfl⟩, rfl⟩ next
    obtain ⟨b, off, cap, o, cs, hv, hg, hb, _, _, _, hat⟩ := hR0.some (by omega)
    cases hv
    have e1 : ((i : Nat) : Int) < ((xs.length : Nat) : Int) := by omega
    have c1 := hat i hi
    have k1 := cntv_le (xs.take i) z
    have k2 : (xs.take i).length ≤ 1000000 := by rw [List.length_take]; omega
    have k3 := cntv_next hi z
    rw [succA_balerref08_count]
    by_cases h1 : xs.getD i 0 = (z : Int)
    · have n1 : ((z : Int) == xs.getD i 0) = true := by rw [h1]; simp
      rw [if_pos h1] at k3
      try simp (disch := first | omega | assumption | exact one_int _ _ | exact one_slice _ _ _ | exact one_ptr _ | exact one_bool _ | exact one_string _) only [RXA, RXB, Nat.reduceAdd, Nat.reduceLT, wrap_id, wrap_succ, wrap_pred, FX1, e1, hg, c1, n1]
      exact next (cntv (xs.take i) z + 1) _ _ ⟨⟨rfl, rfl⟩, k3.symm⟩
    · have n1 : ((z : Int) == xs.getD i 0) = false := beq_eq_false_iff_ne.2 fun e => h1 e.symm
      rw [if_neg h1] at k3
      try simp (disch := first | omega | assumption | exact one_int _ _ | exact one_slice _ _ _ | exact one_ptr _ | exact one_bool _ | exact one_string _) only [RXA, RXB, Nat.reduceAdd, Nat.reduceLT, wrap_id, wrap_succ, wrap_pred, FX1, e1, hg, c1, n1]
      exact next (cntv (xs.take i) z) _ _ ⟨⟨rfl, rfl⟩, k3.symm⟩
/-- what symbols cost, by how often each is there -/
theorem r_Cost (v u : Value) (xs ls : List Int) (hR : Row h n 3 .i64 v xs) (hL : Row h n 3 .i64 u ls) (hl : xs.length ≤ 1000000) (hl2 : ls.length ≤ 1000000) (hm : ∀ y ∈ ls, 0 ≤ y ∧ y ≤ 1099511627776) (hx : inB ls.length xs = true) :
    Run (fun _ => False) n (evCall2 Tryd.prog gt lf (d + 2) 13 #[v, u]) h n fun v' h' n' => v' = .int .i64 (costL xs ls) ∧ h' = h ∧ n' = n := by
  rw [sh_balerref08_Cost]
  refine Run.inside_ ?_
  unfold b_balerref08_Cost
  have hL0 := hL
  obtain ⟨a, c, rfl⟩ := hL.len
  try simp (disch := first | omega | assumption | exact one_int _ _ | exact one_slice _ _ _ | exact one_ptr _ | exact one_bool _ | exact one_string _) only [RXA, RXB, Nat.reduceAdd, Nat.reduceLT, wrap_id, wrap_succ, wrap_pred, FX1]
  refine run_for ls.length (fun fu i (a : Int) => lpA_balerref08_Cost lf (d + 1) fu (kcA_balerref08_Cost lf (d + 1)) _ _ (.int .i64 0) (.int .i64 a) _ (.int .i64 (ls.length : Nat)) (.int .i64 (i : Nat))) (fun i a h' n' => (h' = h ∧ n' = n) ∧ a = capI (costU xs ls i)) ?_ ?_ lf 0 0 h n (Nat.zero_le _) (by omega) ⟨⟨rfl, rfl⟩, rfl⟩
  · rintro fu q h' n' ⟨⟨rfl, rfl⟩, rfl⟩
    rw [succA_balerref08_Cost]
    try simp (disch := first | omega | assumption | exact one_int _ _ | exact one_slice _ _ _ | exact one_ptr _ | exact one_bool _ | exact one_string _) only [RXA, RXB, Nat.reduceAdd, Nat.reduceLT, wrap_id, wrap_succ, wrap_pred, FX1, Int.lt_irrefl]
    rw [kcAa_balerref08_Cost]
    try simp (disch := first | omega | assumption | exact one_int _ _ | exact one_slice _ _ _ | exact one_ptr _ | exact one_bool _ | exact one_string _) only [RXA, RXB, Nat.reduceAdd, Nat.reduceLT, wrap_id, wrap_succ, wrap_pred, FX1]
    unfold costU costL
    rw [cost_counts (inB_iff.1 hx)]
  · rintro fu i q h' n' hi ⟨⟨rfl, rfl⟩, rfl⟩ next
    obtain ⟨b, off, cap, o, cs, hv, hg, hb, _, _, _, hat⟩ := hL0.some (by omega)
    cases hv
    have e1 : ((i : Nat) : Int) < ((ls.length : Nat) : Int) := by omega
    have c1 := hat i hi
    rw [succA_balerref08_Cost]
    try simp (disch := first | omega | assumption | exact one_int _ _ | exact one_slice _ _ _ | exact one_ptr _ | exact one_bool _ | exact one_string _) only [RXA, RXB, Nat.reduceAdd, Nat.reduceLT, wrap_id, wrap_succ, wrap_pred, FX1, e1, hg, c1]
    refine run_same (r_count lf d _ h' hlf v xs hR hl i) (Nat.le_refl _) (fun _ _ h => h.elim) ?_
    obtain ⟨y, hy⟩ : ∃ y, ls.getD i 0 = y := ⟨_, rfl⟩
    have hyb := hm _ (gd_mem hi)
    rw [hy] at hyb
    rw [hy]
    have cu : 0 ≤ costU xs ls i := by
      unfold costU
      refine sumI_ge fun x hx => ?_
      obtain ⟨w, _, rfl⟩ := List.mem_map.1 hx
      exact Int.mul_nonneg (by omega) (getD_ge (fun x hx => (hm x hx).1) w)
    have kc := cntv_le xs i
    refine run_for (cntv xs i) (fun f2 j (a : Int) => lpB_balerref08_Cost lf (d + 1) f2 (kcB_balerref08_Cost lf (d + 1) fu (kcA_balerref08_Cost lf (d + 1))) _ _ _ (.int .i64 a) _ (.int .i64 y) _ _ (.int .i64 (i : Nat)) _ (.int .i64 (cntv xs i : Nat)) (.int .i64 (j : Nat))) (fun j a h2 n2 => (h2 = h' ∧ n2 = n') ∧ a = capI (costU xs ls i + (j : Int) * y)) ?_ ?_ lf 0 _ h' n' (Nat.zero_le _) (by omega) ⟨⟨rfl, rfl⟩, by simp⟩
    · rintro f2 q h2 n2 ⟨⟨rfl, rfl⟩, rfl⟩
      rw [succB_balerref08_Cost]
      try simp (disch := first | omega | assumption | exact one_int _ _ | exact one_slice _ _ _ | exact one_ptr _ | exact one_bool _ | exact one_string _) only [RXA, RXB, Nat.reduceAdd, Nat.reduceLT, wrap_id, wrap_succ, wrap_pred, FX1, Int.lt_irrefl]
      rw [kcBa_balerref08_Cost]
      try simp (disch := first | omega | assumption | exact one_int _ _ | exact one_slice _ _ _ | exact one_ptr _ | exact one_bool _ | exact one_string _) only [RXA, RXB, Nat.reduceAdd, Nat.reduceLT, wrap_id, wrap_succ, wrap_pred, FX1]
      exact next _ _ _ ⟨⟨rfl, rfl⟩, by rw [costU_next, hy]⟩
    · rintro f2 j q h2 n2 hj ⟨⟨rfl, rfl⟩, rfl⟩ next2
      have e3 : ((j : Nat) : Int) < ((cntv xs i : Nat) : Int) := by omega
      have k0 : 0 ≤ (j : Int) * y := Int.mul_nonneg (by omega) hyb.1
      have k1 := capI_le (costU xs ls i + (j : Int) * y)
      have k2 := capI_ge (x := costU xs ls i + (j : Int) * y) (by omega)
      rw [succB_balerref08_Cost]
      try simp (disch := first | omega | assumption | exact one_int _ _ | exact one_slice _ _ _ | exact one_ptr _ | exact one_bool _ | exact one_string _) only [RXA, RXB, Nat.reduceAdd, Nat.reduceLT, wrap_id, wrap_succ, wrap_pred, FX1, e3]
      refine run_same (r_most lf d _ h2 _) (Nat.le_refl _) (fun _ _ h => h.elim) ?_
      try simp (disch := first | omega | assumption | exact one_int _ _ | exact one_slice _ _ _ | exact one_ptr _ | exact one_bool _ | exact one_string _) only [RXA, RXB, Nat.reduceAdd, Nat.reduceLT, wrap_id, wrap_succ, wrap_pred, FX1]
      refine next2 _ _ _ ⟨⟨rfl, rfl⟩, ?_⟩
      rw [capI_cap hyb.1]
      congr 1
      simp only [Int.natCast_add, Int.add_mul, Int.natCast_one, Int.one_mul]
      omega
end
end Go.Proofs.YtdagfcflbphoiaaDoor
/- None is cheaper: depths that merging gives cost no more than any lengths whose share is no more than one. No program in sight. -/
namespace Go.Proofs.YtdagfcflbphoiaaDoor
set_option linter.unusedVariables false
set_option linter.unusedSimpArgs false
open Hu

def cst (w : Nat → Int) (l : Nat → Nat) (X : List Nat) : Int := sumI (X.map fun i => w i * l i)
end Go.Proofs.YtdagfcflbphoiaaDoor
/- The statements LensOrder and LensCheap, walked by the second form. -/
namespace Go.Proofs.YtdagfcflbphoiaaDoor
set_option linter.unusedVariables false
set_option linter.unusedSimpArgs false
open Go.RowKit Ev Hu

theorem ext0 (a b : Value) : evExtract (.tuple #[a, b]) 0 = some a := rfl
theorem ext1 (a b : Value) : evExtract (.tuple #[a, b]) 1 = some b := rfl
end Go.Proofs.YtdagfcflbphoiaaDoor
/- The closed test of layer 12, run quickly. -/
namespace Go.Proofs.YtdagfcflbphoiaaDoor
set_option linter.unusedVariables false
set_option linter.unusedSimpArgs false
open Go.RowKit Ev

theorem ev_names : Ev.okNames Tryd.prog = true := by kernel_rfl
theorem ev_prog0 : Ev.okProg Tryd.prog Fa.kn0 = true := by kernel_rfl
theorem ev_progK : Ev.okProg Tryd.prog Ev.KN = true := by kernel_rfl
theorem ev_mix : Tryd.prog.follows .mixedOrders = true := by kernel_rfl
theorem okd0 : okDsts Tryd.prog = true := by kernel_rfl
theorem nat_known : Ev.NatKnown Tryd.prog := by
  intro f k hf
  simp [natOf, NV, natIn] at hf
theorem bad_known : Ev.Known Tryd.prog Fa.kn0 := ⟨fun f hf => by simp [Fa.kn0] at hf, nat_known⟩
/-- what the laid variable holds -/
def gV : List Value := [.int .i64 200, .int .i64 600, .int .i64 1200, .int .i64 2400]
def hG : H := H.set .nil 0 (some ⟨3, false, gV⟩)
theorem laid_hG {w : World} (x : Ev.GlobAt w) : ∃ m, Laid Tryd.prog w m hG Tryd.prog.globals.size := by
  refine laid_KG x (by decide +kernel) (sz := 1) (by kernel_rfl) (by decide) (fun k v hk => ?_) (by decide)
  match k, hk with
  | 0, hk => cases hk; simp [KG]
  | 1, hk => cases hk; simp [KG]
  | 2, hk => cases hk; simp [KG]
  | 3, hk => cases hk; simp [KG]
set_option maxRecDepth 100000 in
theorem q_three : Ev.yieldsTrue ((inside (Fa.F_balerlaw12_three 100000 1000 (Fa.fast 100000 1000))) hG Tryd.prog.globals.size) = true := by kernel_rfl
theorem l_three (w : World) (x : Ev.GlobAt w) : Calls Tryd.prog 8 #[] w fun e w' => e = .returned (.bool true) ∧ Below w.heap.size w w' := by
  obtain ⟨m, x⟩ := laid_hG x
  refine Ev.closedN (kn := Fa.kn0) ev_names ev_prog0 ev_mix bad_known okd0 x (gt := Fa.gtA) (lf := 100000) (d := 1001) ?_
  have := q_three
  rw [Fa.fast_eq, Fa.fsh_balerlaw12_three] at this
  exact this
theorem known : Ev.Known Tryd.prog Ev.KN := ⟨fun f hf hn hp w x => by
  have : f = 8 := by simpa [Ev.KN] using hf
  subst this
  exact l_three w x, nat_known⟩

end Go.Proofs.YtdagfcflbphoiaaDoor
/- The laid variable of a door seat: what it holds. -/
namespace Go.Proofs.YtdagfcflbphoiaaDoor
set_option linter.unusedVariables false
set_option linter.unusedSimpArgs false
open Go Go.RowKit Go.WideShapes Go.ChangeShapes Go.MakeChecks

theorem gn_b : Tryd.prog.globalNamed "baler/tables.bounds" = some 0 := by kernel_rfl
theorem gt_b : (Tryd.prog.globals[0]?).map (·.type) = some 58 := by kernel_rfl
theorem co_i : Tryd.prog.cellsOf 3 = 1 := by kernel_rfl
theorem co_b : Tryd.prog.cellsOf 58 = 4 := by kernel_rfl
set_option maxRecDepth 10000 in
theorem glob_of_laid {w : World} (hL : laidMetH Tryd.prog [("baler/tables.bounds", Rows.laid_baler_tables_bounds)] w) : Ev.GlobAt w := by
  rw [laidMetH_plain _ _ _ rfl] at hL
  obtain ⟨ps, ⟨g, t, cs, fuel, p, q, hg, ht, hv, hx, _⟩, _⟩ := hL
  rw [gn_b] at hg
  cases hg
  rw [gt_b] at ht
  cases ht
  unfold World.var? at hv
  rw [gn_b] at hv
  simp only [Option.bind_some] at hv
  split at hv
  · rename_i cs' e' fr' hw
    cases hv
    obtain ⟨xs, m, rfl, hx1, hlen, hxn, hall⟩ := DataW.trod_array Tryd.underlying58 hx
    rw [co_b] at hlen
    rw [co_i] at hall
    have hc : ∀ (i : Nat) (z : Int), i < 4 → (xs.map (·.1))[i]? = some (.lit (.int .i64 z)) → w.cell? ⟨0, i, none⟩ = some (.int .i64 z) := by
      intro i z hi hz
      rw [List.getElem?_map] at hz
      cases hxi : xs[i]? with
      | none => rw [hxi] at hz; cases hz
      | some y =>
        rw [hxi] at hz
        have ha := hall i hi
        rw [hxi] at ha
        obtain ⟨k, h1, h2, _⟩ := DataW.trod_int Tryd.underlying3 ha
        rw [h2] at hz
        cases hz
        have h3 : cs.toList[i]? = some (.int .i64 z) := by
          rw [Nat.mul_one, List.drop_eq_getElem_cons (by omega), List.take_succ_cons, List.take_zero] at h1
          rw [List.getElem?_eq_getElem (by omega)]
          exact congrArg some (List.cons.inj h1).1
        unfold World.cell?
        simp only [hw]
        simpa using h3
    have hm : xs.map (·.1) = [.lit (.int .i64 200), .lit (.int .i64 600), .lit (.int .i64 1200), .lit (.int .i64 2400)] := by
      have := congrArg Prod.fst hx1
      simp only [Rows.laid_baler_tables_bounds] at this
      injection this with this
      exact this.symm
    rw [hm] at hc
    intro g hg
    have : g = (0, 0, .int .i64 200) ∨ g = (0, 1, .int .i64 600) ∨ g = (0, 2, .int .i64 1200) ∨ g = (0, 3, .int .i64 2400) := by simpa [Ev.KG] using hg
    rcases this with rfl | rfl | rfl | rfl
    · exact hc 0 200 (by decide) rfl
    · exact hc 1 600 (by decide) rfl
    · exact hc 2 1200 (by decide) rfl
    · exact hc 3 2400 (by decide) rfl
  · cases hv

end Go.Proofs.YtdagfcflbphoiaaDoor
