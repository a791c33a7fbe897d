import Derived.Test.YtdagfcflbphoiaaGreatDoorMak
namespace Go.Proofs.YtdagfcflbphoiaaGreatDoor
set_option linter.unusedVariables false
set_option linter.unusedSimpArgs false
open Go.RowKit Ev Cn

def cellsF (f : Nat → Nat) (N : Nat) : List Value := (List.range N).map fun j => Value.int .i64 (f j : Int)
theorem zaij (f : Nat → Nat) (N : Nat) : (cellsF f N).length = N := by unfold cellsF; simp
theorem zbqs {f : Nat → Nat} {N j : Nat} (h : j < N) : (cellsF f N)[j]? = some (.int .i64 (f j : Int)) := by unfold cellsF; rw [List.getElem?_map, List.getElem?_range h]; rfl
def upd (f : Nat → Nat) (j v : Nat) : Nat → Nat := fun i => if i = j then v else f i
theorem zbnv {f : Nat → Nat} {N j v : Nat} : (cellsF f N).set j (.int .i64 (v : Int)) = cellsF (upd f j v) N := by
  apply List.ext_getElem
  · simp [zaij]
  · intro i h1 h2
    rw [List.getElem_set]
    simp only [cellsF, List.getElem_map, List.getElem_range, upd]
    by_cases e : j = i
    · subst e; simp
    · rw [if_neg e, if_neg (fun q => e q.symm)]
def codeL (lv cv ov : Value) (f g : Nat → Nat) : List Value := lv :: cv :: ov :: (cellsF f 21 ++ cellsF g 22)
theorem zcgu {lv cv ov : Value} {f g : Nat → Nat} {j : Nat} (h : j < 21) : (codeL lv cv ov f g)[3 + j]? = some (.int .i64 (f j : Int)) := by
  unfold codeL
  rw [show 3 + j = j + 1 + 1 + 1 by omega, List.getElem?_cons_succ, List.getElem?_cons_succ, List.getElem?_cons_succ, List.getElem?_append_left (by rw [zaij]; exact h), zbqs h]
theorem zbyi {lv cv ov : Value} {f g : Nat → Nat} {j : Nat} (h : j < 22) : (codeL lv cv ov f g)[24 + j]? = some (.int .i64 (g j : Int)) := by
  unfold codeL
  rw [show 24 + j = 21 + j + 1 + 1 + 1 by omega, List.getElem?_cons_succ, List.getElem?_cons_succ, List.getElem?_cons_succ, List.getElem?_append_right (by rw [zaij]; omega), zaij, show 21 + j - 21 = j by omega, zbqs h]
theorem zbzn {lv cv ov : Value} {f g : Nat → Nat} {j v : Nat} (h : j < 21) : (codeL lv cv ov f g).set (3 + j) (.int .i64 (v : Int)) = codeL lv cv ov (upd f j v) g := by
  unfold codeL
  rw [show 3 + j = j + 1 + 1 + 1 by omega, List.set_cons_succ, List.set_cons_succ, List.set_cons_succ, List.set_append_left _ _ (by rw [zaij]; exact h), zbnv]
theorem zbnh {lv cv ov : Value} {f g : Nat → Nat} {j v : Nat} : (codeL lv cv ov f g).set (24 + j) (.int .i64 (v : Int)) = codeL lv cv ov f (upd g j v) := by
  unfold codeL
  rw [show 24 + j = 21 + j + 1 + 1 + 1 by omega, List.set_cons_succ, List.set_cons_succ, List.set_cons_succ, List.set_append_right _ _ (by rw [zaij]; omega), zaij, show 21 + j - 21 = j by omega, zbnv]
theorem zbhn (lv cv ov : Value) (f g : Nat → Nat) : (codeL lv cv ov f g).length = 46 := by unfold codeL; simp [zaij]
def upTo (f : Nat → Nat) (n : Nat) : Nat → Nat := fun j => if j ≤ n then f j else 0
theorem zbin (f : Nat → Nat) (n : Nat) : upd (upTo f n) (n + 1) (f (n + 1)) = upTo f (n + 1) := by
  funext j
  unfold upd upTo
  by_cases e : j = n + 1
  · subst e; simp
  · rw [if_neg e]
    by_cases e2 : j ≤ n
    · rw [if_pos e2, if_pos (by omega)]
    · rw [if_neg e2, if_neg (by omega)]
theorem zcdg {f : Nat → Nat} (h : f 0 = 0) : upTo f 0 = fun _ => 0 := by
  funext j
  unfold upTo
  by_cases e : j ≤ 0
  · have : j = 0 := by omega
    subst this
    rw [if_pos e, h]
  · rw [if_neg e]
def codesTo (ln : List Nat) (n s : Nat) : List Int := (List.range ln.length).map fun t => if ln.getD t 0 < n ∨ (ln.getD t 0 = n ∧ t < s) then (codeC ln t : Int) else 0
theorem zaua (ln : List Nat) (n s : Nat) : (codesTo ln n s).length = ln.length := by unfold codesTo; simp
theorem zbun (ln : List Nat) (n : Nat) : codesTo ln n ln.length = codesTo ln (n + 1) 0 := by
  unfold codesTo
  apply List.map_congr_left
  intro t ht
  have := List.mem_range.1 ht
  by_cases e : ln.getD t 0 < n ∨ (ln.getD t 0 = n ∧ t < ln.length)
  · rw [if_pos e, if_pos (by omega)]
  · rw [if_neg e, if_neg (by omega)]
theorem zbtk {ln : List Nat} {n s : Nat} (h : ln.getD s 0 ≠ n) : codesTo ln n (s + 1) = codesTo ln n s := by
  unfold codesTo
  apply List.map_congr_left
  intro t ht
  by_cases e : ln.getD t 0 < n ∨ (ln.getD t 0 = n ∧ t < s)
  · rw [if_pos e, if_pos (by omega)]
  · rw [if_neg e, if_neg]
    rintro (q | ⟨q1, q2⟩)
    · exact e (.inl q)
    · by_cases e2 : t = s
      · subst e2; exact h q1
      · exact e (.inr ⟨q1, by omega⟩)
theorem zbut {ln : List Nat} {n s : Nat} (hs : s < ln.length) (h : ln.getD s 0 = n) : (codesTo ln n s).set s (codeC ln s : Int) = codesTo ln n (s + 1) := by
  apply List.ext_getElem
  · simp [zaua]
  · intro t h1 h2
    rw [List.getElem_set]
    simp only [codesTo, List.getElem_map, List.getElem_range]
    by_cases e : s = t
    · subst e; rw [if_pos rfl, if_pos (.inr ⟨h, Nat.lt_succ_self s⟩)]
    · rw [if_neg e]
      by_cases q : ln.getD t 0 < n ∨ (ln.getD t 0 = n ∧ t < s)
      · rw [if_pos q, if_pos (by omega)]
      · rw [if_neg q, if_neg (by omega)]
theorem zbsl {ln : List Nat} (w : Wh ln) : codesTo ln 1 0 = List.replicate ln.length 0 := by
  apply List.ext_getElem
  · simp [zaua]
  · intro t h1 h2
    rw [zaua] at h1
    have := w.at h1
    simp only [codesTo, List.getElem_map, List.getElem_range, List.getElem_replicate]
    rw [if_neg (by omega)]
def codesI (ln : List Nat) : List Int := (List.range ln.length).map fun t => (codeC ln t : Int)
theorem zbum {ln : List Nat} (w : Wh ln) : codesTo ln 21 0 = codesI ln := by
  unfold codesTo codesI
  apply List.map_congr_left
  intro t ht
  have := w.at (List.mem_range.1 ht)
  rw [if_pos (by omega)]
theorem zblx : ∀ (ln : List Nat) (m : Nat), fromC ln m ≤ ln.length
  | [], m => by
    have : ∀ m, fromC [] m = 0 := by
      intro m
      induction m with
      | zero => rfl
      | succ m ih => show fromC [] m + cn [] m = 0; rw [ih]; simp [cn]
    rw [this]
    exact Nat.le_refl 0
  | x :: ln, m => by
    have key : ∀ m, fromC (x :: ln) m = fromC ln m + (if x < m then 1 else 0) := by
      intro m
      induction m with
      | zero => rfl
      | succ m ih =>
        show fromC (x :: ln) m + cn (x :: ln) m = fromC ln m + cn ln m + _
        have e : cn (x :: ln) m = cn ln m + (if x = m then 1 else 0) := by unfold cn; rw [List.countP_cons]; simp
        rw [ih, e]
        by_cases h : x = m
        · subst h
          rw [if_neg (Nat.lt_irrefl x), if_pos rfl, if_pos (Nat.lt_succ_self x)]
          omega
        · rw [if_neg h]
          by_cases h2 : x < m
          · rw [if_pos h2, if_pos (by omega)]; omega
          · rw [if_neg h2, if_neg (by omega)]; omega
    have := zblx ln m
    rw [key, List.length_cons]
    split <;> omega
theorem zcgd (ln : List Nat) : (ordTo ln 21).length ≤ ln.length := by rw [zafg]; exact zblx ln 21
structure CodeIn (h : H) (lo hi c : Nat) (ln : List Nat) : Prop where
  ge : lo ≤ c
  lt : c < hi
  ex : ∃ lv cv ov, h.get c = some ⟨111, true, codeL lv cv ov (upTo (firstC ln) 20) (upTo (fromC ln) 21)⟩ ∧ Row h hi 3 .i64 lv (iN ln) ∧ (∀ b, InBlk lv b → lo ≤ b) ∧ Row h hi 23 .u32 cv (codesI ln) ∧ (∀ b, InBlk cv b → lo ≤ b) ∧ Row h hi 3 .i64 ov (iN (ordTo ln 21)) ∧ (∀ b, InBlk ov b → lo ≤ b)
theorem CodeIn.keep {h h' : H} {lo hi c : Nat} {ln : List Nat} (x : CodeIn h lo hi c ln) (hk : ∀ b, lo ≤ b → b < hi → h'.get b = h.get b) : CodeIn h' lo hi c ln := by
  obtain ⟨l1, l2, lv, cv, ov, g, a1, a2, b1, b2, c1, c2⟩ := x
  exact ⟨l1, l2, lv, cv, ov, (hk c l1 l2).trans g, a1.keep' (Nat.le_refl _) fun b hb => hk b (a2 b hb) (a1.lt hb), a2, b1.keep' (Nat.le_refl _) fun b hb => hk b (b2 b hb) (b1.lt hb), b2, c1.keep' (Nat.le_refl _) fun b hb => hk b (c2 b hb) (c1.lt hb), c2⟩
theorem zbic (a b : List Nat) : iN (a ++ b) = iN a ++ iN b := by unfold iN; rw [List.map_append]
theorem zall (k : IntKind) (a b : List Int) : intsV k (a ++ b) = intsV k a ++ intsV k b := by unfold intsV; rw [List.map_append]
theorem zccq (k : IntKind) (l : List Int) (i : Nat) (x : Int) : (intsV k l).set i (.int k x) = intsV k (l.set i x) := by unfold intsV; rw [List.map_set]
theorem box0 (a1 : Option Addr) (n1 c1 : Nat) (a2 : Option Addr) (n2 c2 : Nat) : (Value.agg #[(Value.slice a1 n1 c1), (Value.slice a2 n2 c2), (Go.Value.slice none 0 0), .int .i64 0, .int .i64 0, .int .i64 0, .int .i64 0, .int .i64 0, .int .i64 0, .int .i64 0, .int .i64 0, .int .i64 0, .int .i64 0, .int .i64 0, .int .i64 0, .int .i64 0, .int .i64 0, .int .i64 0, .int .i64 0, .int .i64 0, .int .i64 0, .int .i64 0, .int .i64 0, .int .i64 0, .int .i64 0, .int .i64 0, .int .i64 0, .int .i64 0, .int .i64 0, .int .i64 0, .int .i64 0, .int .i64 0, .int .i64 0, .int .i64 0, .int .i64 0, .int .i64 0, .int .i64 0, .int .i64 0, .int .i64 0, .int .i64 0, .int .i64 0, .int .i64 0, .int .i64 0, .int .i64 0, .int .i64 0, .int .i64 0]).cells.toList = codeL (.slice a1 n1 c1) (.slice a2 n2 c2) (.slice none 0 0) (fun _ => 0) (fun _ => 0) := rfl
section
variable (lf d n : Nat) (h : H) (hlf : 3000000 ≤ lf)
include hlf
theorem zcar (v : Value) (xs : List Int) (hR : Row h n 3 .i64 v xs) (h3 : 3 ≤ xs.length) (hl : xs.length ≤ 258) (hm : allIn 1 20 xs = true) (hs : shrL xs ≠ 1048576) :
    Run (fun _ => False) n (zaac Tryz.prog gt lf (d + 7) 39 #[v]) h n fun v' h' n' => v' = .tuple #[.pointer none, .int .i64 22] := by
  rw [zbhq]
  refine Run.inside_ ?_
  unfold zbam
  have hR0 := hR
  obtain ⟨a, c, rfl⟩ := hR.len
  have e1 : ¬ (((xs.length : Nat) : Int) < 3) := by omega
  have e2 : ¬ ((258 : Int) < ((xs.length : Nat) : Int)) := by omega
  try simp (disch := first | omega | assumption | exact zaae _ _ | exact zaab _ _ _ | exact zaaf _ | exact zaad _ | exact zaaa _) only [Nat.reduceAdd, Nat.reduceLT, RZ, e1, e2]
  refine zbeu (b := false) ((zbxe lf d n h hlf _ xs hR0 hl hm).mono fun v' _ _ _ e => by rw [e, decide_eq_false hs]) (Nat.le_refl _) fun h1 n1 hn1 fr1 => ?_
  try simp (disch := first | omega | assumption | exact zaae _ _ | exact zaab _ _ _ | exact zaaf _ | exact zaad _ | exact zaaa _) only [Nat.reduceAdd, Nat.reduceLT, RZ, Bool.not_false]
set_option maxHeartbeats 2000000 in
theorem zcjt (v : Value) (ln : List Nat) (hR : Row h n 3 .i64 v (iN ln)) (h3 : 3 ≤ ln.length) (hl : ln.length ≤ 258) (w : Wh ln) (hs : shrL (iN ln) = 1048576) :
    Run (fun _ => False) n (zaac Tryz.prog gt lf (d + 7) 39 #[v]) h n fun v' h' n' => ∃ c, v' = .tuple #[.pointer (some ⟨c, 0, none⟩), .int .i64 0] ∧ CodeIn h' n n' c ln := by
  have hll := zadn ln
  rw [zbhq]
  refine Run.inside_ ?_
  unfold zbam
  have hR0 := hR
  obtain ⟨a, c, rfl⟩ := hR.len
  have e1 : ¬ ((((iN ln).length : Nat) : Int) < 3) := by omega
  have e2 : ¬ ((258 : Int) < (((iN ln).length : Nat) : Int)) := by omega
  have hm : allIn 1 20 (iN ln) = true := zapb.2 fun x hx => by
    unfold iN at hx
    obtain ⟨y, hy, rfl⟩ := List.mem_map.1 hx
    have := w.lo y hy
    omega
  try simp (disch := first | omega | assumption | exact zaae _ _ | exact zaab _ _ _ | exact zaaf _ | exact zaad _ | exact zaaa _) only [Nat.reduceAdd, Nat.reduceLT, RZ, e1, e2]
  refine zbeu (b := true) ((zbxe lf d n h hlf _ _ hR0 (by omega) hm).mono fun v' _ _ _ e => by rw [e, decide_eq_true hs]) (Nat.le_refl _) fun h1 n1 hn1 fr1 => ?_
  have hR1 := hR0.keep hn1 fr1
  try simp (disch := first | omega | assumption | exact zaae _ _ | exact zaab _ _ _ | exact zaaf _ | exact zaad _ | exact zaaa _) only [Nat.reduceAdd, Nat.reduceLT, RZ, Bool.not_true]
  refine zafa okd (zbog lf (d + 5) n1 h1 _ _ hR1 (by omega) (by omega)) hn1 fun v2 h2 n2 T1 hn2 fr2 hq2 t1 => ?_
  obtain ⟨_, hcl, hfr⟩ := hq2
  have hcl0 := hcl
  obtain ⟨al, cl, rfl⟩ := hcl.len
  rw [hll] at hcl0 hfr ⊢
  try simp (disch := first | omega | assumption | exact zaae _ _ | exact zaab _ _ _ | exact zaaf _ | exact zaad _ | exact zaaa _) only [Nat.reduceAdd, Nat.reduceLT, RZ]
  have mk : evMakeSlice Tryz.prog 107 (.int .i64 (ln.length : Int)) (.int .i64 (ln.length : Int)) h2 n2 = some ⟨.slice (some ⟨n2, 0, none⟩) ln.length ln.length, h2.set n2 (some ⟨23, true, List.replicate ln.length (.int .u32 0)⟩), n2 + 1, []⟩ := by
    obtain ⟨i, i1, i2, i3⟩ := zbif.info
    unfold evMakeSlice
    simp only [zbif.und, i1, zbif.zero]
    have hm' : (ln.length : Int) ≤ 1099511627776 := by omega
    rw [if_pos (by simp [i2, i3, zbif.one, hm'])]
    simp only [Int.toNat_natCast, i2, Nat.mul_one, zazs zbif.one]
    exact zaas (zagw _ _ _ _) rfl
  refine zajo (L := []) (zajl (zabe mk)) (Nat.le_succ _) (by simp) ?_
  have t2 : RB ⟨n2, n2 + 1, []⟩ n1 := ⟨fun e he => (nomatch he), fun e he => (nomatch he), hn2⟩
  try simp (disch := first | omega | assumption | exact zaae _ _ | exact zaab _ _ _ | exact zaaf _ | exact zaad _ | exact zaaa _) only [Nat.reduceAdd, Nat.reduceLT, RZ]
  refine zcdj sz111 _ _ ?_
  rw [box0]
  try simp (disch := first | omega | assumption | exact zaae _ _ | exact zaab _ _ _ | exact zaaf _ | exact zaad _ | exact zaaa _) only [Nat.reduceAdd, Nat.reduceLT, RZ, t1.clash t2, Bool.not_false, Bool.and_self, zaew]
  obtain ⟨hb, hhb⟩ : ∃ hb, (h2.set n2 (some ⟨23, true, List.replicate ln.length (.int .u32 0)⟩)).set (n2 + 1) (some ⟨111, true, codeL (.slice al ln.length cl) (.slice (some ⟨n2, 0, none⟩) ln.length ln.length) (.slice none 0 0) (fun _ => 0) (fun _ => 0)⟩) = hb := ⟨_, rfl⟩
  have gc : hb.get (n2 + 1) = some ⟨111, true, codeL (.slice al ln.length cl) (.slice (some ⟨n2, 0, none⟩) ln.length ln.length) (.slice none 0 0) (upTo (firstC ln) 0) (upTo (fromC ln) 0)⟩ := by
    rw [zcdg (f := firstC ln) rfl, zcdg (f := fromC ln) rfl, ← hhb, zaaz]
  have gv : hb.get n2 = some ⟨23, true, intsV .u32 (codesTo ln 1 0)⟩ := by
    rw [← hhb, zaar _ _ (by omega), zaaz, zbsl w]
    unfold intsV
    rw [List.map_replicate]
  have kb : ∀ b, b < n2 → hb.get b = h2.get b := fun b hb' => by rw [← hhb, zaar _ _ (by omega), zaar _ _ (by omega)]
  rw [hhb]
  have ord1 : ordTo ln 1 = [] := by
    apply List.eq_nil_of_length_eq_zero
    rw [zafg, zcex w]
  have nx0 : nxC ln 0 ln.length = 0 := by
    unfold nxC
    rw [zaxn, zbjd w]
    rfl
  have hR2 : ∀ {h' : H} {n' : Nat}, n2 ≤ n' → (∀ b, b < n2 → h'.get b = h2.get b) → Row h' n' 3 .i64 (.slice a ln.length c) (iN ln) := fun {h'} {n'} hn' hk' => by
    have := hR1.keep (show n1 ≤ n' by omega) fun b hb' => (hk' b (by omega)).trans (fr2 b hb')
    rw [hll] at this
    exact this
  refine zafq 20 (fun fu i (q : Nat) => zafu lf (d + 6) fu (zaej lf (d + 6)) (.slice a ln.length c) (.pointer none) (.int .i64 0) (.pointer (some ⟨n2 + 1, 0, none⟩)) (.int .i64 (q : Int)) (.int .i64 ((i + 1 : Nat) : Int)) (.bool false) (.bool false))
    (fun i q h' n' => n2 + 2 ≤ n' ∧ (∀ b, b < n2 → h'.get b = h2.get b) ∧ q = nxC ln i ln.length ∧ h'.get n2 = some ⟨23, true, intsV .u32 (codesTo ln (i + 1) 0)⟩ ∧ ∃ ov, h'.get (n2 + 1) = some ⟨111, true, codeL (.slice al ln.length cl) (.slice (some ⟨n2, 0, none⟩) ln.length ln.length) ov (upTo (firstC ln) i) (upTo (fromC ln) i)⟩ ∧ Own h' (n2 + 2) n' 3 ov (intsV .i64 (iN (ordTo ln (i + 1))))) ?_ ?_ lf 0 0 _ _ (Nat.zero_le _) (by omega) ⟨Nat.le_refl _, kb, nx0.symm, gv, _, gc, by rw [ord1]; exact Own.nil _ _ _ _⟩
  · rintro fu q h' n' ⟨hn', hk', rfl, hgv, ov, hgc, hO⟩
    have e3 : ¬ (((20 + 1 : Nat) : Int) ≤ 20) := by omega
    have c2 : (codeL (.slice al ln.length cl) (.slice (some ⟨n2, 0, none⟩) ln.length ln.length) ov (upTo (firstC ln) 20) (upTo (fromC ln) 20))[2]? = some ov := rfl
    have hOr := hO.row
    obtain ⟨ao, co, hov⟩ := hOr.len
    have olen : (iN (ordTo ln 21)).length = fromC ln 21 := by rw [zadn, zafg]
    rw [olen] at hov
    have cg := zbnh (lv := .slice al ln.length cl) (cv := .slice (some ⟨n2, 0, none⟩) ln.length ln.length) (ov := ov) (f := upTo (firstC ln) 20) (g := upTo (fromC ln) 20) (j := 21) (v := fromC ln 21)
    rw [zbin] at cg
    have lt1 : n2 + 1 < n' := by omega
    have l46 : 24 + 21 < (codeL (.slice al ln.length cl) (.slice (some ⟨n2, 0, none⟩) ln.length ln.length) ov (upTo (firstC ln) 20) (upTo (fromC ln) 20)).length := by rw [zbhn]; omega
    rw [zazf]
    try simp (disch := first | omega | assumption | exact zaae _ _ | exact zaab _ _ _ | exact zaaf _ | exact zaad _ | exact zaaa _) only [Nat.reduceAdd, Nat.reduceLT, RZ, e3]
    rw [zbou]
    rw [hov] at hgc c2 cg l46 hOr
    have e21 : ((21 : Int)).toNat = 21 := rfl
    try simp (disch := first | omega | assumption | exact zaae _ _ | exact zaab _ _ _ | exact zaaf _ | exact zaad _ | exact zaaa _) only [Nat.reduceAdd, Nat.reduceLT, RZ, Int.reduceBEq, Int.reduceBNe, Int.reduceLT, Int.reduceLE, Int.reduceEq, Int.reduceNe, Int.reduceAdd, Int.reduceSub, Int.reduceMul, Int.reduceNeg, hgc, c2, e21]
    refine ⟨by simpa using l46, .inl (by omega), ?_⟩
    have fin : ∀ h9, h9.get (n2 + 1) = some ⟨111, true, codeL (.slice al ln.length cl) (.slice (some ⟨n2, 0, none⟩) ln.length ln.length) (.slice ao (fromC ln 21) co) (upTo (firstC ln) 20) (upTo (fromC ln) 21)⟩ → (∀ b, b ≠ n2 + 1 → h9.get b = h'.get b) → CodeIn h9 n n' (n2 + 1) ln := by
      intro h9 hg9 hk9
      have oe : ∀ b, InBlk (.slice ao (fromC ln 21) co) b → b ≠ n2 + 1 := fun b hb' e => by
        rw [hov] at hO
        have := (hO.lt hb').1
        omega
      refine ⟨by omega, by omega, _, _, _, hg9, ?_, fun b hb' => by have := hfr b hb'; omega, ?_, fun b hb' => by rw [hb'.inj]; omega, hOr.keep' (Nat.le_refl _) fun b hb' => hk9 b (oe b hb'), fun b hb' => by rw [hov] at hO; have := (hO.lt hb').1; omega⟩
      · exact hcl0.keep' (by omega) fun b hb' => by
          have := hcl0.lt hb'
          rw [hk9 b (by omega), hk' b this]
      · have e : h9.get n2 = some ⟨23, true, intsV .u32 (codesI ln)⟩ := by rw [hk9 n2 (by omega), hgv, zbum w]
        have cil : (codesI ln).length = ln.length := by unfold codesI; simp
        exact .inr ⟨n2, 0, ln.length, true, _, by rw [cil], e, by omega, by rw [zabm]; omega, by rw [List.drop_zero, List.take_of_length_le (by rw [zabm]; omega)], by omega⟩
    refine ⟨n2 + 1, rfl, fin _ (by rw [zaaz]; congr 2) fun b hb' => zaar _ _ hb'⟩
  · rintro fu i q h' n' hi ⟨hn', hk', rfl, hgv, ov, hgc, hO⟩ next
    have e3 : (((i + 1 : Nat) : Int) ≤ 20) := by omega
    have c2 : ∀ f g, (codeL (.slice al ln.length cl) (.slice (some ⟨n2, 0, none⟩) ln.length ln.length) ov f g)[2]? = some ov := fun _ _ => rfl
    have capi := w.cap (n := i + 1) (by omega)
    have p20 : 2 ^ (i + 1) ≤ 2 ^ 20 := Nat.pow_le_pow_right (by decide) (by omega)
    have fe : firstC ln (i + 1) = 2 * nxC ln i ln.length := by unfold nxC; rw [zaxn]; rfl
    have w1 : IntKind.i64.wrap (((nxC ln i ln.length : Nat) : Int) * 2) = ((firstC ln (i + 1) : Nat) : Int) := by rw [zaav (by omega) (by omega)]; omega
    have hOr := hO.row
    obtain ⟨ao, co, hov⟩ := hOr.len
    have olen : (iN (ordTo ln (i + 1))).length = fromC ln (i + 1) := by rw [zadn, zafg]
    rw [olen] at hov
    have sf := zbzn (lv := .slice al ln.length cl) (cv := .slice (some ⟨n2, 0, none⟩) ln.length ln.length) (ov := ov) (f := upTo (firstC ln) i) (g := upTo (fromC ln) i) (j := i + 1) (v := firstC ln (i + 1)) (by omega)
    rw [zbin] at sf
    have sg := zbnh (lv := .slice al ln.length cl) (cv := .slice (some ⟨n2, 0, none⟩) ln.length ln.length) (ov := ov) (f := upTo (firstC ln) (i + 1)) (g := upTo (fromC ln) i) (j := i + 1) (v := fromC ln (i + 1))
    rw [zbin] at sg
    have lt1 : n2 + 1 < n' := by omega
    have i1 : ((i + 1 : Nat) : Int) < 21 := by omega
    have i2 : ((i + 1 : Nat) : Int) < 22 := by omega
    have i0 : (0 : Int) ≤ ((i + 1 : Nat) : Int) := by omega
    have it : ((i + 1 : Nat) : Int).toNat = i + 1 := rfl
    have lc : ∀ f g, (codeL (.slice al ln.length cl) (.slice (some ⟨n2, 0, none⟩) ln.length ln.length) ov f g).length = 46 := fun f g => zbhn _ _ _ _ _
    rw [zazf]
    rw [hov] at hgc c2 sf sg lc
    try simp (disch := first | omega | assumption | exact zaae _ _ | exact zaab _ _ _ | exact zaaf _ | exact zaad _ | exact zaaa _) only [Nat.reduceAdd, Nat.reduceLT, RZ, e3, w1, i0, i1, i2, it, hgc, sf, lc, true_or, or_true]
    refine ⟨by omega, .inl (by omega), ?_⟩
    try simp (disch := first | omega | assumption | exact zaae _ _ | exact zaab _ _ _ | exact zaaf _ | exact zaad _ | exact zaaa _) only [Nat.reduceAdd, Nat.reduceLT, RZ, zaaz, c2, sg, lc]
    refine ⟨by omega, .inl (by omega), ?_⟩
    obtain ⟨hA, hhA⟩ : ∃ hA, ((h'.set (n2 + 1) (some ⟨111, true, codeL (.slice al ln.length cl) (.slice (some ⟨n2, 0, none⟩) ln.length ln.length) (.slice ao (fromC ln (i + 1)) co) (upTo (firstC ln) (i + 1)) (upTo (fromC ln) i)⟩)).set (n2 + 1) (some ⟨111, true, codeL (.slice al ln.length cl) (.slice (some ⟨n2, 0, none⟩) ln.length ln.length) (.slice ao (fromC ln (i + 1)) co) (upTo (firstC ln) (i + 1)) (upTo (fromC ln) (i + 1))⟩)) = hA := ⟨_, rfl⟩
    have gA : hA.get (n2 + 1) = some ⟨111, true, codeL (.slice al ln.length cl) (.slice (some ⟨n2, 0, none⟩) ln.length ln.length) (.slice ao (fromC ln (i + 1)) co) (upTo (firstC ln) (i + 1)) (upTo (fromC ln) (i + 1))⟩ := by rw [← hhA, zaaz]
    have kA : ∀ b, b ≠ n2 + 1 → hA.get b = h'.get b := fun b hb' => by rw [← hhA, zaar _ _ hb', zaar _ _ hb']
    rw [hhA]
    have nxs : nxC ln (i + 1) 0 = firstC ln (i + 1) := by unfold nxC; simp [cnTo, cn]
    rw [hov] at hO
    refine zafq ln.length (fun f2 s (q : Nat) => zafy lf (d + 6) f2 (zafr lf (d + 6) fu (zaej lf (d + 6))) (.slice a ln.length c) (.pointer none) (.int .i64 0) (.pointer (some ⟨n2 + 1, 0, none⟩)) (.int .i64 (q : Int)) (.int .i64 ((i + 1 : Nat) : Int)) (.bool false) (.bool false) (.bool true) (.slice a ln.length c) (.int .i64 (ln.length : Int)) (.int .i64 (s : Int)))
      (fun s q h5 n5 => n' ≤ n5 ∧ (∀ b, b < n2 → h5.get b = h2.get b) ∧ q = nxC ln (i + 1) s ∧ h5.get n2 = some ⟨23, true, intsV .u32 (codesTo ln (i + 1) s)⟩ ∧ ∃ ov, h5.get (n2 + 1) = some ⟨111, true, codeL (.slice al ln.length cl) (.slice (some ⟨n2, 0, none⟩) ln.length ln.length) ov (upTo (firstC ln) (i + 1)) (upTo (fromC ln) (i + 1))⟩ ∧ Own h5 (n2 + 2) n5 3 ov (intsV .i64 (iN (ordTo ln (i + 1) ++ symsTo ln (i + 1) s)))) ?_ ?_ lf 0 (firstC ln (i + 1)) _ _ (Nat.zero_le _) (by omega) ⟨Nat.le_refl _, fun b hb' => by rw [kA b (by omega)]; exact hk' b hb', nxs.symm, by rw [kA n2 (by omega)]; exact hgv, _, gA, ?_⟩
    rotate_left 2
    · have : symsTo ln (i + 1) 0 = [] := rfl
      rw [this, List.append_nil]
      exact hO.keep (Nat.le_refl _) fun b hb' => kA b fun e => by have := (hO.lt hb').1; omega
    · rintro f2 q h5 n5 ⟨hn5, hk5, rfl, hgv5, ov5, hgc5, hO5⟩
      have w3 : IntKind.i64.wrap (((i + 1 : Nat) : Int) + 1) = ((i + 1 + 1 : Nat) : Int) := by rw [zaav (by omega) (by omega)]; rfl
      have w3' : ((i + 1 : Nat) : Int) + 1 = ((i + 1 + 1 : Nat) : Int) := rfl
      rw [zazk]
      try simp (disch := first | omega | assumption | exact zaae _ _ | exact zaab _ _ _ | exact zaaf _ | exact zaad _ | exact zaaa _) only [Nat.reduceAdd, Nat.reduceLT, RZ, Int.lt_irrefl]
      rw [zbpf]
      try simp (disch := first | omega | assumption | exact zaae _ _ | exact zaab _ _ _ | exact zaaf _ | exact zaad _ | exact zaaa _) only [Nat.reduceAdd, Nat.reduceLT, RZ, w3, w3']
      refine next (nxC ln (i + 1) ln.length) h5 n5 ⟨by omega, hk5, rfl, ?_, ov5, hgc5, hO5⟩
      rw [← zbun]
      exact hgv5
    · rintro f2 s q h5 n5 hs' ⟨hn5, hk5, rfl, hgv5, ov5, hgc5, hO5⟩ next2
      obtain ⟨b, off, cap, o, ks, hv, hgx, hbx, _, _, _, hat⟩ := (hR2 (show n2 ≤ n5 by omega) hk5).some (by omega)
      have hv' : Value.slice a ln.length c = .slice (some ⟨b, off, none⟩) (iN ln).length cap := hv
      rw [hll] at hv'
      cases hv'
      have e5 : ((s : Nat) : Int) < ((ln.length : Nat) : Int) := by omega
      have c5 := hat s (by omega)
      rw [iN_at] at c5
      have lt5 : n2 + 1 < n5 := by omega
      have lt5' : n2 < n5 := by omega
      rw [zazk]
      by_cases m : ln.getD s 0 = i + 1
      · have n1' : (((ln.getD s 0 : Nat) : Int) == ((i + 1 : Nat) : Int)) = true := by rw [m]; simp
        have hcode : nxC ln (i + 1) s = codeC ln s := zbei m
        have hclt := w.code_lt hs'
        rw [m] at hclt
        have w4 : IntKind.u32.wrap ((codeC ln s : Nat) : Int) = ((codeC ln s : Nat) : Int) := w32 (by omega)
        have cv1 : (codeL (.slice al ln.length cl) (.slice (some ⟨n2, 0, none⟩) ln.length ln.length) ov5 (upTo (firstC ln) (i + 1)) (upTo (fromC ln) (i + 1)))[1]? = some (.slice (some ⟨n2, 0, none⟩) ln.length ln.length) := rfl
        have cv2 : (codeL (.slice al ln.length cl) (.slice (some ⟨n2, 0, none⟩) ln.length ln.length) ov5 (upTo (firstC ln) (i + 1)) (upTo (fromC ln) (i + 1)))[2]? = some ov5 := rfl
        have cv3 : ∀ x, (codeL (.slice al ln.length cl) (.slice (some ⟨n2, 0, none⟩) ln.length ln.length) ov5 (upTo (firstC ln) (i + 1)) (upTo (fromC ln) (i + 1))).set 2 x = codeL (.slice al ln.length cl) (.slice (some ⟨n2, 0, none⟩) ln.length ln.length) x (upTo (firstC ln) (i + 1)) (upTo (fromC ln) (i + 1)) := fun _ => rfl
        have w5 : IntKind.i64.wrap (((codeC ln s : Nat) : Int) + 1) = ((codeC ln s + 1 : Nat) : Int) := by rw [zaav (by omega) (by omega)]; rfl
        have w5' : ((codeC ln s : Nat) : Int) + 1 = ((codeC ln s + 1 : Nat) : Int) := rfl
        have w6 : ((s : Nat) : Int) + 1 = ((s + 1 : Nat) : Int) := rfl
        have ch := zbut hs' m
        rw [hcode]
        try simp (disch := first | omega | assumption | exact zaae _ _ | exact zaab _ _ _ | exact zaaf _ | exact zaad _ | exact zaaa _) only [Nat.reduceAdd, Nat.reduceLT, RZ, e5, hgx, c5, n1', hgc5, cv1, w4, hgv5, zccq, ch, zabm, zaua]
        refine ⟨hs', .inl (by omega), ?_⟩
        have gne : (h5.set n2 (some ⟨23, true, intsV .u32 (codesTo ln (i + 1) (s + 1))⟩)).get (n2 + 1) = some ⟨111, true, codeL (.slice al ln.length cl) (.slice (some ⟨n2, 0, none⟩) ln.length ln.length) ov5 (upTo (firstC ln) (i + 1)) (upTo (fromC ln) (i + 1))⟩ := by rw [zaar _ _ (by omega)]; exact hgc5
        try simp (disch := first | omega | assumption | exact zaae _ _ | exact zaab _ _ _ | exact zaaf _ | exact zaad _ | exact zaaa _) only [Nat.reduceAdd, Nat.reduceLT, RZ, gne, cv2]
        have hO6 : Own (h5.set n2 (some ⟨23, true, intsV .u32 (codesTo ln (i + 1) (s + 1))⟩)) (n2 + 2) n5 3 ov5 (intsV .i64 (iN (ordTo ln (i + 1) ++ symsTo ln (i + 1) s))) := hO5.keep (Nat.le_refl _) fun b hb' => zaar _ _ (by have := (hO5.lt hb').1; omega)
        have olen5 : (intsV .i64 (iN (ordTo ln (i + 1) ++ symsTo ln (i + 1) s))).length ≤ 1000 := by
          rw [zabm, zadn, List.length_append, zafg, zaqx _ (by omega)]
          have h1 := zbzf (ln := ln) (show i + 1 ≤ 21 by omega)
          have h2' : fromC ln 21 ≤ ln.length := by
            have := zafg ln 21
            rw [← this]
            exact zcgd ln
          have h3' := zbvu ln (i + 1) s
          have h4' : cn ln (i + 1) ≤ ln.length := List.countP_le_length
          omega
        refine zccg c1x22 (zaae _ _) hO6 (by omega) (by omega) _ fun h7 g7 k7 => ?_
        have g7c : h7.get (n2 + 1) = some ⟨111, true, codeL (.slice al ln.length cl) (.slice (some ⟨n2, 0, none⟩) ln.length ln.length) ov5 (upTo (firstC ln) (i + 1)) (upTo (fromC ln) (i + 1))⟩ := by rw [k7 (n2 + 1) (by omega) fun q => by have := (hO6.lt q).1; omega]; exact gne
        have lt7 : n2 + 1 < n5 + 2 := by omega
        try simp (disch := first | omega | assumption | exact zaae _ _ | exact zaab _ _ _ | exact zaaf _ | exact zaad _ | exact zaaa _) only [Nat.reduceAdd, Nat.reduceLT, RZ, g7c, cv3, zbhn]
        refine ⟨.inl (by omega), ?_⟩
        rw [w5', w6]
        have sn : symsTo ln (i + 1) (s + 1) = symsTo ln (i + 1) s ++ [s] := by rw [zatv, if_pos m]
        have on : intsV .i64 (iN (ordTo ln (i + 1) ++ symsTo ln (i + 1) (s + 1))) = intsV .i64 (iN (ordTo ln (i + 1) ++ symsTo ln (i + 1) s)) ++ [.int .i64 (s : Int)] := by
          rw [sn, ← List.append_assoc, zbic, zall]
          rfl
        refine next2 (codeC ln s + 1) _ _ ⟨by omega, fun b hb' => ?_, by rw [zbfa hs', if_pos m, hcode], ?_, _, zaaz _ _ _, ?_⟩
        · rw [zaar _ _ (by omega), k7 b (by omega) (fun q => by have := (hO6.lt q).1; omega), zaar _ _ (by omega)]
          exact hk5 b hb'
        · rw [zaar _ _ (by omega), k7 n2 (by omega) (fun q => by have := (hO6.lt q).1; omega), zaaz]
        · rw [on]
          refine Or.inr ⟨n5 + 1, by simp, by rw [zaar _ _ (by omega)]; exact g7, by omega, by omega⟩
      · have n1' : (((ln.getD s 0 : Nat) : Int) == ((i + 1 : Nat) : Int)) = false := beq_eq_false_iff_ne.2 fun e => m (by omega)
        have w6 : ((s : Nat) : Int) + 1 = ((s + 1 : Nat) : Int) := rfl
        have sn : symsTo ln (i + 1) (s + 1) = symsTo ln (i + 1) s := by rw [zatv, if_neg m, List.append_nil]
        try simp (disch := first | omega | assumption | exact zaae _ _ | exact zaab _ _ _ | exact zaaf _ | exact zaad _ | exact zaaa _) only [Nat.reduceAdd, Nat.reduceLT, RZ, e5, hgx, c5, n1']
        refine next2 (nxC ln (i + 1) s) h5 n5 ⟨hn5, hk5, by rw [zbfa hs', if_neg m]; rfl, by rw [zbtk m]; exact hgv5, ov5, hgc5, by rw [sn]; exact hO5⟩
end
end Go.Proofs.YtdagfcflbphoiaaGreatDoor
