import Derived.WideShapes
import Derived.WalkLawsBesides
import Derived.Test.YtdagfcflbphoiaaGreatDoorMai
import Derived.Test.YtdagfcflbphoiaaGreatDoorMae
import Derived.Laws.BitsAllLaws
import Derived.IntWalk
import Derived.Test.YtdagfcflbphoiaaGreatDoorMaj
namespace Go.Proofs.YtdagfcflbphoiaaGreatDoor.Hu
set_option linter.unusedVariables false
set_option linter.unusedSimpArgs false

def sumI : List Int → Int
  | [] => 0
  | x :: xs => x + sumI xs
end Go.Proofs.YtdagfcflbphoiaaGreatDoor.Hu
namespace Go.Proofs.YtdagfcflbphoiaaGreatDoor
set_option linter.unusedVariables false
set_option linter.unusedSimpArgs false
open Go.RowKit Ev Hu

theorem zbqy {x : Nat} (h : x < 9223372036854775807) : IntKind.i64.wrap ((x : Int) + 1) = ((x + 1 : Nat) : Int) := by rw [zaav (by omega) (by omega)]; rfl
theorem zbqr {x : Nat} (h : x < 9223372036854775807) : IntKind.i64.wrap (((x + 1 : Nat) : Int) - 1) = ((x : Nat) : Int) := by rw [zaav (by omega) (by omega)]; omega
theorem RZ : type_of% (And.intro @RXA (And.intro @RXB (And.intro @zaav (And.intro @zbqy (And.intro @zbqr (And.intro @FX1 (And.intro @FX2 (And.intro @FX3 (@FX4))))))))) := And.intro @RXA (And.intro @RXB (And.intro @zaav (And.intro @zbqy (And.intro @zbqr (And.intro @FX1 (And.intro @FX2 (And.intro @FX3 (@FX4))))))))
def nats (xs : List Nat) : List Value := xs.map fun (x : Nat) => Value.int .i64 x
end Go.Proofs.YtdagfcflbphoiaaGreatDoor
namespace Go.Proofs.YtdagfcflbphoiaaGreatDoor
set_option linter.unusedVariables false
set_option linter.unusedSimpArgs false
open Go.RowKit Hu

def cmp3 (x y : Int) : Int := if x < y then -1 else if y < x then 1 else 0
def keyW (ws : List Int) (i : Nat) : Int := ws.getD i 0
theorem zbts (pre : List Nat) (v : Nat) (post : List Nat) : (pre ++ v :: post).getD pre.length 0 = v := by
  simp [List.getD_eq_getElem?_getD]
theorem zcfv (x y : Int) : decide (cmp3 x y < 0) = decide (x < y) := by
  unfold cmp3
  by_cases h : x < y
  · simp [h]
  · by_cases h2 : y < x
    · simp [h, h2]
    · simp [h, h2]
theorem zbyu (pre : List Nat) (v : Nat) (post : List Nat) (j : Nat) (hj : j = pre.length) : (pre ++ v :: post).getD j 0 = v := by subst hj; exact zbts _ _ _
theorem zcdn (pre : List Nat) (v u : Nat) (post : List Nat) (j : Nat) (hj : j = pre.length) : (pre ++ v :: post).set j u = pre ++ u :: post := by
  subst hj
  rw [List.set_append_right (h := Nat.le_refl _), Nat.sub_self]; rfl
end Go.Proofs.YtdagfcflbphoiaaGreatDoor
namespace Go.Proofs.YtdagfcflbphoiaaGreatDoor
set_option linter.unusedVariables false
set_option linter.unusedSimpArgs false
open Go.RowKit Ev Hu

theorem zcjf {β : Type} {rec : FuncId → Array Value → M Value} (g : FuncId) (hb : hasBody Tryz.prog g = true) (c : Value) (a b : Value) (k : Value → M β) : callV Tryz.prog rec (.func (.func g) #[] #[c]) [a, b] k = (inside (rec g #[a, b, c])).bind k := by
  unfold callV
  show optK (some _) _ = _
  rw [zafh]
  simp only [hb]
  rfl
theorem callT {β : Type} {rec : FuncId → Array Value → M Value} (c : Value) (a b : Value) (k : Value → M β) : callV Tryz.prog rec (.func (.func 150) #[] #[c]) [a, b] k = (inside (rec 150 #[a, b, c])).bind k := zcjf _ (by kernel_rfl) c a b k
theorem zaaw {β : Type} {W : Nat → Prop} {n0 : Nat} {h : H} {n : Nat} {Q : β → H → Nat → Prop} {lf d : Nat} {f : FuncId} {args : Array Value} {v : Value} {W' : Nat → Prop} (s : Run W' n (zaac Tryz.prog gt lf d f args) h n fun v' h' n' => v' = v ∧ h' = h ∧ n' = n) (hn : n0 ≤ n) (hW : ∀ b, b < n → W' b → n0 ≤ b ∨ W b) {k : Value → M β} (x : Run W n0 (k v) h n Q) : Run W n0 ((inside (zaac Tryz.prog gt lf d f args)).bind k) h n Q := by
  refine zaay okd s hn hW fun v' h' n' _ _ hq => ?_
  obtain ⟨rfl, rfl, rfl⟩ := hq
  exact x

theorem zbvp (lf d : Nat) (h : H) (n : Nat) (x : Int) : Run (fun _ => False) n (zaac Tryz.prog gt lf (d + 1) 153 #[.int .i64 x]) h n fun v h' n' => v = .bool false ∧ h' = h ∧ n' = n := by
  rw [zbll]
  refine Run.inside_ ?_
  unfold zazi
  have e : (x != x) = false := by simp
  try simp (disch := first | omega | assumption | exact zaae _ _ | exact zaab _ _ _ | exact zaaf _ | exact zaad _ | exact zaaa _) only [Nat.reduceAdd, Nat.reduceLT, RZ, e]
theorem zcah (lf d : Nat) (h : H) (n : Nat) (x y : Int) : Run (fun _ => False) n (zaac Tryz.prog gt lf (d + 2) 151 #[.int .i64 x, .int .i64 y]) h n fun v h' n' => v = .int .i64 (cmp3 x y) ∧ h' = h ∧ n' = n := by
  rw [zbib]
  refine Run.inside_ ?_
  unfold zawe
  refine zaaw (zbvp _ _ _ _ _) (Nat.le_refl _) (fun _ _ h => h.elim) ?_
  refine zaaw (zbvp _ _ _ _ _) (Nat.le_refl _) (fun _ _ h => h.elim) ?_
  unfold cmp3
  try simp (disch := first | omega | assumption | exact zaae _ _ | exact zaab _ _ _ | exact zaaf _ | exact zaad _ | exact zaaa _) only [Nat.reduceAdd, Nat.reduceLT, RZ]
  by_cases h1 : x < y
  · simp [h1]
  · by_cases h2 : y < x
    · simp [h1, h2]
    · simp [h1, h2]

structure EnvT (h : H) (n g pw : Nat) (ws : List Int) : Prop where
  ex : ∃ wb off cap e1 o1 e2 o2 cs, h.get pw = some ⟨e1, o1, [.slice (some ⟨wb, off, none⟩) ws.length cap]⟩ ∧ h.get wb = some ⟨e2, o2, cs⟩ ∧ wb < n ∧ wb ≠ g ∧ ∀ i, i < ws.length → cs[off + i]? = some (.int .i64 (ws.getD i 0))
  pn : pw < n
  pg : pw ≠ g
theorem EnvT.keeps {h h' : H} {n g pw : Nat} {ws : List Int} (e : EnvT h n g pw ws) (k : ∀ b, b ≠ g → h'.get b = h.get b) : EnvT h' n g pw ws := by
  obtain ⟨⟨wb, off, cap, e1, o1, e2, o2, cs, h1, h2, h3, h4, h5⟩, h6, h7⟩ := e
  exact ⟨⟨wb, off, cap, e1, o1, e2, o2, cs, by rw [k pw h7]; exact h1, by rw [k wb h4]; exact h2, h3, h4, h5⟩, h6, h7⟩
theorem s_cmp (lf d a b : Nat) (h : H) (n g pw : Nat) (ws : List Int) (hE : EnvT h n g pw ws) (ha : a < ws.length) (hb : b < ws.length) : Run (fun _ => False) n (zaac Tryz.prog gt lf (d + 3) 150 #[.int .i64 (a : Nat), .int .i64 (b : Nat), .pointer (some ⟨pw, 0, none⟩)]) h n fun v h' n' => v = .int .i64 (cmp3 (keyW ws a) (keyW ws b)) ∧ h' = h ∧ n' = n := by
  obtain ⟨⟨wb, off, cap, e1, o1, e2, o2, cs, h1, h2, h3, h4, h5⟩, h6, h7⟩ := hE
  have c1 : cs[off + a]? = some (.int .i64 (keyW ws a)) := h5 a ha
  have c2 : cs[off + b]? = some (.int .i64 (keyW ws b)) := h5 b hb
  rw [zbjv]
  refine Run.inside_ ?_
  unfold zayr
  try simp (disch := first | omega | assumption | exact zaae _ _ | exact zaab _ _ _ | exact zaaf _ | exact zaad _ | exact zaaa _) only [Nat.reduceAdd, Nat.reduceLT, RZ, h1, h2, c1, c2]
  refine zaaw (zcah _ _ _ _ _ _) (Nat.le_refl _) (fun _ _ h => h.elim) ?_
  try simp (disch := first | omega | assumption | exact zaae _ _ | exact zaab _ _ _ | exact zaaf _ | exact zaad _ | exact zaaa _) only [Nat.reduceAdd, Nat.reduceLT, RZ]
theorem zbsg {xs : List Nat} {i : Nat} (h : i < xs.length) : (nats xs)[i]? = some (.int .i64 (xs.getD i 0 : Nat)) := by unfold nats; simp [h]
theorem zcgi (xs : List Nat) : (nats xs).length = xs.length := by unfold nats; simp
theorem zcfk (xs : List Nat) (i v : Nat) : (nats xs).set i (.int .i64 (v : Nat)) = nats (xs.set i v) := by unfold nats; rw [List.map_set]
def At (h hr : H) (g : Nat) (xs : List Nat) : Prop := hr.get g = some ⟨3, true, nats xs⟩ ∧ ∀ b, b ≠ g → hr.get b = h.get b
theorem At.set {h hr : H} {g : Nat} {xs ys : List Nat} (a : At h hr g xs) {e : TypeId} {o : Bool} (he : e = 3) (ho : o = true) : At h (hr.set g (some ⟨e, o, nats ys⟩)) g ys := by
  subst he ho
  exact ⟨zaaz _ _ _, fun b hb => by rw [zaar _ _ hb]; exact a.2 b hb⟩

set_option maxHeartbeats 1000000 in
theorem insB (lf d g n cap pw : Nat) (ws : List Int) (h : H) (pre post Y : List Nat) (x : Nat) (D : List Nat) (N : Nat) (hN : (pre ++ (D ++ x :: Y) ++ post).length = N) (hNb : N ≤ 1000000) (hE : EnvT h n g pw ws) (hg : g < n) (hx : x < ws.length) (hD : ∀ z ∈ D, z < ws.length) {W : Nat → Prop} {n0 : Nat} (hn0 : n0 ≤ n) (hW : n0 ≤ g ∨ W g) {Q : Value → H → Nat → Prop} (k : Ex → Fr → M Value) (x2 x8 x14 : Value)
    (hK : ∀ L R J hr y34, L ++ R = D → (∀ r ∈ R, keyW ws x < keyW ws r) → (L = [] ∨ ¬ keyW ws x < keyW ws (L.getD (L.length - 1) 0)) → At h hr g (pre ++ (L ++ x :: R ++ Y) ++ post) → Run W n0 (k (Ex.exit 2) [(0, .slice (some ⟨g, 0, none⟩) N cap), (1, .int .i64 (pre.length : Nat)), (2, x2), (3, .func (.func 150) #[] #[.pointer (some ⟨pw, 0, none⟩)]), (8, x8), (9, J), (14, x14), (34, y34)]) hr n Q) :
    ∀ (m : Nat) (L R : List Nat) (fu : Nat) (hr : H), L.length = m → m < fu → L ++ R = D → (∀ r ∈ R, keyW ws x < keyW ws r) → At h hr g (pre ++ (L ++ x :: R ++ Y) ++ post) →
      Run W n0 (zabj lf (d + 3) fu k (.slice (some ⟨g, 0, none⟩) N cap) (.int .i64 (pre.length : Nat)) x2 (.func (.func 150) #[] #[.pointer (some ⟨pw, 0, none⟩)]) x8 (.int .i64 ((pre.length + m : Nat) : Int)) x14) hr n Q := by
  intro m
  induction m with
  | zero =>
    intro L R fu hr hL hfu hLR hR hA
    obtain ⟨fu, rfl⟩ : ∃ f, fu = f + 1 := ⟨fu - 1, by omega⟩
    have : L = [] := List.length_eq_zero_iff.1 hL
    subst this
    rw [zaez]
    try simp (disch := first | omega | assumption | exact zaae _ _ | exact zaab _ _ _ | exact zaaf _ | exact zaad _ | exact zaaa _) only [Nat.reduceAdd, Nat.reduceLT, RZ, Int.lt_irrefl]
    exact hK [] R _ hr _ hLR hR (.inl rfl) hA
  | succ m ih =>
    intro L R fu hr hL hfu hLR hR hA
    obtain ⟨fu, rfl⟩ : ∃ f, fu = f + 1 := ⟨fu - 1, by omega⟩
    obtain ⟨L', y, rfl⟩ : ∃ L' y, L = L' ++ [y] := ⟨L.dropLast, L.getLast (by intro e; rw [e] at hL; simp at hL), (List.dropLast_concat_getLast _).symm⟩
    have hL' : L'.length = m := by simp at hL; exact hL
    have hlen : pre.length + (m + 1) < N := by rw [← hN, ← hLR]; simp; omega
    have e1 : ((pre.length : Nat) : Int) < ((pre.length + (m + 1) : Nat) : Int) := by omega
    have e2 : pre ++ (L' ++ [y] ++ x :: R ++ Y) ++ post = (pre ++ L') ++ y :: (x :: R ++ Y ++ post) := by simp
    have e3 : pre ++ (L' ++ [y] ++ x :: R ++ Y) ++ post = (pre ++ L' ++ [y]) ++ x :: (R ++ Y ++ post) := by simp
    have hlx : (pre ++ (L' ++ [y] ++ x :: R ++ Y) ++ post).length = N := by rw [← hN, ← hLR]; simp; omega
    have g1 : (nats (pre ++ (L' ++ [y] ++ x :: R ++ Y) ++ post))[pre.length + (m + 1)]? = some (.int .i64 (x : Nat)) := by
      rw [zbsg (by omega), e3, zbyu _ _ _ _ (by simp; omega)]
    have g2 : (nats (pre ++ (L' ++ [y] ++ x :: R ++ Y) ++ post))[pre.length + m]? = some (.int .i64 (y : Nat)) := by
      rw [zbsg (by omega), e2, zbyu _ _ _ _ (by simp; omega)]
    have hy : y < ws.length := hD y (by rw [← hLR]; simp)
    have w1 : IntKind.i64.wrap (((pre.length + (m + 1) : Nat) : Int) - 1) = ((pre.length + m : Nat) : Int) := by rw [zaav (by omega) (by omega)]; omega
    have c0 := hA.1
    have hset : ((pre ++ (L' ++ [y] ++ x :: R ++ Y) ++ post).set (pre.length + (m + 1)) y).set (pre.length + m) x = pre ++ (L' ++ x :: (y :: R) ++ Y) ++ post := by
      rw [e3, zcdn _ _ _ _ _ (by simp; omega)]
      have : pre ++ L' ++ [y] ++ y :: (R ++ Y ++ post) = (pre ++ L') ++ y :: (y :: (R ++ Y ++ post)) := by simp
      rw [this, zcdn _ _ _ _ _ (by simp; omega)]
      simp
    rw [zaez]
    try simp (disch := first | omega | assumption | exact zaae _ _ | exact zaab _ _ _ | exact zaaf _ | exact zaad _ | exact zaaa _) only [Nat.reduceAdd, Nat.reduceLT, RZ, e1, c0, g1, g2, w1, callT]
    refine zaaw (s_cmp lf d x y hr n g pw ws (hE.keeps hA.2) hx hy) hn0 (fun _ _ h => h.elim) ?_
    have e4 := zcfv (keyW ws x) (keyW ws y)
    try simp (disch := first | omega | assumption | exact zaae _ _ | exact zaab _ _ _ | exact zaaf _ | exact zaad _ | exact zaaa _) only [Nat.reduceAdd, Nat.reduceLT, RZ, e4]
    by_cases hlt : keyW ws x < keyW ws y
    · try simp (disch := first | omega | assumption | exact zaae _ _ | exact zaab _ _ _ | exact zaaf _ | exact zaad _ | exact zaaa _) only [Nat.reduceAdd, Nat.reduceLT, RZ, hlt, c0, g1, g2, w1, zcgi, zcfk, List.length_set, hset]
      refine ⟨by omega, hW, by omega, hW, ?_⟩
      exact ih L' (y :: R) fu _ hL' (by omega) (by rw [← hLR]; simp) (fun r hr => by
        rcases List.mem_cons.1 hr with rfl | hr
        · exact hlt
        · exact hR r hr) ((hA.set rfl rfl).set rfl rfl)
    · try simp (disch := first | omega | assumption | exact zaae _ _ | exact zaab _ _ _ | exact zaaf _ | exact zaad _ | exact zaaa _) only [Nat.reduceAdd, Nat.reduceLT, RZ, hlt]
      exact hK (L' ++ [y]) R _ hr _ hLR hR (.inr (by simpa using hlt)) hA

end Go.Proofs.YtdagfcflbphoiaaGreatDoor
namespace Go.Proofs.YtdagfcflbphoiaaGreatDoor
set_option linter.unusedVariables false
set_option linter.unusedSimpArgs false
open Go.RowKit Ev Hu

theorem At.trans {h h1 h2 : H} {g : Nat} {xs ys : List Nat} (a : At h h1 g xs) (b : At h1 h2 g ys) : At h h2 g ys := ⟨b.1, fun c hc => (b.2 c hc).trans (a.2 c hc)⟩
end Go.Proofs.YtdagfcflbphoiaaGreatDoor
namespace Go.Proofs.YtdagfcflbphoiaaGreatDoor
set_option linter.unusedVariables false
set_option linter.unusedSimpArgs false
open Go.RowKit Ev Hu

end Go.Proofs.YtdagfcflbphoiaaGreatDoor
namespace Go.Proofs.YtdagfcflbphoiaaGreatDoor
set_option linter.unusedVariables false
set_option linter.unusedSimpArgs false
open Go.RowKit Ev Hu

end Go.Proofs.YtdagfcflbphoiaaGreatDoor
namespace Go.Proofs.YtdagfcflbphoiaaGreatDoor
set_option linter.unusedVariables false
set_option linter.unusedSimpArgs false
open Go.RowKit Ev Hu

end Go.Proofs.YtdagfcflbphoiaaGreatDoor
namespace Go.Proofs.YtdagfcflbphoiaaGreatDoor
set_option linter.unusedVariables false
set_option linter.unusedSimpArgs false
open Go.RowKit Ev Hu

section
variable (lf g cap pw N : Nat) (ws : List Int) (hlf : 3000000 ≤ lf) (hNb : N ≤ 1000000) (d n : Nat) (h : H) (xs : List Nat) (hN : xs.length = N) (hE : EnvT h n g pw ws) (hg : g < n) (hin : ∀ z ∈ xs, z < ws.length)
variable {W : Nat → Prop} {n0 : Nat} (hn0 : n0 ≤ n) (hW : n0 ≤ g ∨ W g) {R : Value → H → Nat → Prop} (k : Ex → Fr → M Value)
include hlf hNb hN hE hg hin hn0 hW
end

end Go.Proofs.YtdagfcflbphoiaaGreatDoor
namespace Go.Proofs.YtdagfcflbphoiaaGreatDoor
set_option linter.unusedVariables false
set_option linter.unusedSimpArgs false
open Go.RowKit Ev Hu

theorem zbog (lf d n : Nat) (h : H) (v : Value) (xs : List Int) (hR : Row h n 3 .i64 v xs) (h0 : 0 < xs.length) (hl : xs.length ≤ 1000000) :
    Run (fun _ => False) n (zaac Tryz.prog gt lf (d + 1) 72 #[v]) h n fun v' h' n' => (0 < xs.length → Own h' n n' 3 v' (intsV .i64 xs)) ∧ Row h' n' 3 .i64 v' xs ∧ ∀ b, InBlk v' b → n ≤ b := by
  rw [zazb]
  refine Run.inside_ ?_
  unfold zany
  rcases hR with ⟨a, c, rfl, _, rfl⟩ | ⟨b, off, cap, o, cs, rfl, hg, hb, hle, ht, hc⟩
  · exact absurd h0 (by simp)
  · try simp (disch := first | omega | assumption | exact zaae _ _ | exact zaab _ _ _ | exact zaaf _ | exact zaad _ | exact zaaa _) only [Nat.reduceAdd, Nat.reduceLT, RZ]
    refine zcgp c1x22 _ ?_
    have hg' : (h.set n (some ⟨3, true, []⟩)).get b = some ⟨3, o, cs⟩ := by rw [zaar _ _ (by omega)]; exact hg
    by_cases h00 : xs.length = 0
    · have hx : xs = [] := List.length_eq_zero_iff.1 h00
      subst hx
      refine zcer (news := []) c1x22 rfl _ _ _ _ ?_
      try simp (disch := first | omega | assumption | exact zaae _ _ | exact zaab _ _ _ | exact zaaf _ | exact zaad _ | exact zaaa _) only [Nat.reduceAdd, Nat.reduceLT, RZ]
      refine ⟨fun q => absurd q (by simp), .inr ⟨n, 0, 0, true, [], rfl, zaaz _ _ _, by omega, by simp, by simp [intsV], by simp⟩, fun b hb => by rw [hb.inj]; exact Nat.le_refl n⟩
    · have s : Src (h.set n (some ⟨3, true, []⟩)) (n + 1) (.slice (some ⟨b, off, none⟩) xs.length cap) (intsV .i64 xs) := ⟨b, off, cap, _, by rw [zabm], hg', by omega, by rw [zabm]; exact hle, by rw [zabm]; exact ht⟩
      refine zcgh c1x22 s (by rw [zabm]; omega) (zcbt _ _) (zaaz _ _ _) rfl (Nat.lt_succ_self n) 0 0 (by simp) rfl (by rw [zabm]; omega) (by unfold CAP; omega) (by rw [zabm]; omega) _ ?_
      try simp (disch := first | omega | assumption | exact zaae _ _ | exact zaab _ _ _ | exact zaaf _ | exact zaad _ | exact zaaa _) only [Nat.reduceAdd, Nat.reduceLT, RZ]
      have ho : Own ((h.set n (some ⟨3, true, []⟩)).set (n + 1) (some ⟨3, true, [] ++ intsV .i64 xs⟩)) n (n + 1 + 1) 3 (.slice (some ⟨n + 1, 0, none⟩) (intsV .i64 xs).length (CAP + (intsV .i64 xs).length)) (intsV .i64 xs) := .inr ⟨n + 1, rfl, by rw [zaaz]; rfl, by omega, by omega⟩
      exact ⟨fun _ => ho, ho.row, fun b hb => by rw [hb.inj]; omega⟩

end Go.Proofs.YtdagfcflbphoiaaGreatDoor
namespace Go.Proofs.YtdagfcflbphoiaaGreatDoor
set_option linter.unusedVariables false
set_option linter.unusedSimpArgs false
open Go.RowKit Ev Hu

end Go.Proofs.YtdagfcflbphoiaaGreatDoor
namespace Go.Proofs.YtdagfcflbphoiaaGreatDoor
set_option linter.unusedVariables false
set_option linter.unusedSimpArgs false
open Go.RowKit Ev Hu

def allIn (lo hi : Int) (xs : List Int) : Bool := xs.all fun x => decide (lo ≤ x) && decide (x ≤ hi)
theorem zapb {lo hi : Int} {xs : List Int} : allIn lo hi xs = true ↔ ∀ x ∈ xs, lo ≤ x ∧ x ≤ hi := by unfold allIn; simp
theorem zauv {α : Type} (d : α) {xs : List α} {i : Nat} (h : i < xs.length) : xs.drop i = xs.getD i d :: xs.drop (i + 1) := by
  rw [List.drop_eq_getElem_cons h, List.getD_eq_getElem?_getD, List.getElem?_eq_getElem h]
  rfl
theorem zbmn {lo hi : Int} {xs : List Int} {i : Nat} (h : i < xs.length) : allIn lo hi (xs.drop i) = (decide (lo ≤ xs.getD i 0) && decide (xs.getD i 0 ≤ hi) && allIn lo hi (xs.drop (i + 1))) := by
  rw [zauv 0 h]
  unfold allIn
  simp

theorem mayL (lf d n : Nat) (h : H) (v : Value) (xs : List Int) (hR : Row h n 3 .i64 v xs) (hl : xs.length ≤ 1000000000) (lo hi : Int) (x6 : Value) {W : Nat → Prop} {n0 : Nat} :
    ∀ (m i fu : Nat), xs.length - i = m → m < fu → i ≤ xs.length →
      Run W n0 (zaik lf d fu (zahr lf d) v (.int .i64 lo) (.int .i64 hi) x6 v (.int .i64 (xs.length : Nat)) (.int .i64 (i : Nat))) h n (fun v' h' n' => v' = .bool (allIn lo hi (xs.drop i)) ∧ h' = h ∧ n' = n) := by
  intro m
  induction m with
  | zero =>
    intro i fu hm hfu hii
    obtain ⟨fu, rfl⟩ : ∃ f, fu = f + 1 := ⟨fu - 1, by omega⟩
    obtain rfl : i = xs.length := by omega
    rw [zarc]
    try simp (disch := first | omega | assumption | exact zaae _ _ | exact zaab _ _ _ | exact zaaf _ | exact zaad _ | exact zaaa _) only [Nat.reduceAdd, Nat.reduceLT, RZ, Int.lt_irrefl]
    rw [zbgp]
    try simp (disch := first | omega | assumption | exact zaae _ _ | exact zaab _ _ _ | exact zaaf _ | exact zaad _ | exact zaaa _) only [Nat.reduceAdd, Nat.reduceLT, RZ]
    simp [allIn]
  | succ m ih =>
    intro i fu hm hfu hii
    obtain ⟨fu, rfl⟩ : ∃ f, fu = f + 1 := ⟨fu - 1, by omega⟩
    obtain ⟨b, off, cap, o, cs, rfl, hg, hb, _, _, _, hat⟩ := hR.some (by omega)
    have e1 : ((i : Nat) : Int) < ((xs.length : Nat) : Int) := by omega
    have c1 := hat i (by omega)
    have w1 : ((i : Nat) : Int) + 1 = ((i + 1 : Nat) : Int) := by omega
    rw [zarc, zbmn (by omega)]
    by_cases h1 : xs.getD i 0 < lo
    · try simp (disch := first | omega | assumption | exact zaae _ _ | exact zaab _ _ _ | exact zaaf _ | exact zaad _ | exact zaaa _) only [Nat.reduceAdd, Nat.reduceLT, RZ, e1, hg, c1, h1]
      rw [zarz]
      try simp (disch := first | omega | assumption | exact zaae _ _ | exact zaab _ _ _ | exact zaaf _ | exact zaad _ | exact zaaa _) only [Nat.reduceAdd, Nat.reduceLT, RZ]
      rw [decide_eq_false (Int.not_le.2 h1)]
      simp
    · by_cases h2 : hi < xs.getD i 0
      · try simp (disch := first | omega | assumption | exact zaae _ _ | exact zaab _ _ _ | exact zaaf _ | exact zaad _ | exact zaaa _) only [Nat.reduceAdd, Nat.reduceLT, RZ, e1, hg, c1, h1, h2]
        rw [zarz]
        try simp (disch := first | omega | assumption | exact zaae _ _ | exact zaab _ _ _ | exact zaaf _ | exact zaad _ | exact zaaa _) only [Nat.reduceAdd, Nat.reduceLT, RZ]
        rw [decide_eq_false (Int.not_le.2 h2)]
        simp
      · try simp (disch := first | omega | assumption | exact zaae _ _ | exact zaab _ _ _ | exact zaaf _ | exact zaad _ | exact zaaa _) only [Nat.reduceAdd, Nat.reduceLT, RZ, e1, hg, c1, h1, h2]
        rw [w1]
        have := ih (i + 1) fu (by omega) (by omega) (by omega)
        rw [decide_eq_true (Int.not_lt.1 h1), decide_eq_true (Int.not_lt.1 h2)]
        exact this
theorem s_May (lf d n : Nat) (h : H) (v : Value) (xs : List Int) (hR : Row h n 3 .i64 v xs) (lo hi : Int) (hl : xs.length ≤ 1000000) (hlf : 3000000 ≤ lf) :
    Run (fun _ => False) n (zaac Tryz.prog gt lf (d + 1) 117 #[v, .int .i64 lo, .int .i64 hi]) h n fun v' h' n' => v' = .bool (allIn lo hi xs) ∧ h' = h ∧ n' = n := by
  rw [zbjj]
  refine Run.inside_ ?_
  unfold zaxd
  have hR0 := hR
  obtain ⟨a, c, rfl⟩ := hR.len
  try simp (disch := first | omega | assumption | exact zaae _ _ | exact zaab _ _ _ | exact zaaf _ | exact zaad _ | exact zaaa _) only [Nat.reduceAdd, Nat.reduceLT, RZ]
  exact mayL lf d n h _ xs hR0 (by omega) lo hi _ xs.length 0 lf (by omega) (by omega) (by omega)

theorem callB {β : Type} {rec : FuncId → Array Value → M Value} (p q a : Value) (k : Value → M β) : callV Tryz.prog rec (.func (.func 142) #[] #[p, q]) [a] k = (inside (rec 142 #[a, p, q])).bind k := by
  unfold callV
  show optK (some _) _ = _
  rw [zafh]
  simp only [show hasBody Tryz.prog 142 = true by kernel_rfl]
  rfl
theorem s_out (lf d n : Nat) (h : H) (x lo hi : Int) (p q : Nat) (hp : p < n) (hq : q < n) {e1 e2 : TypeId} {o1 o2 : Bool} (gp : h.get p = some ⟨e1, o1, [.int .i64 lo]⟩) (gq : h.get q = some ⟨e2, o2, [.int .i64 hi]⟩) :
    Run (fun _ => False) n (zaac Tryz.prog gt lf (d + 1) 142 #[.int .i64 x, .pointer (some ⟨p, 0, none⟩), .pointer (some ⟨q, 0, none⟩)]) h n fun v' h' n' => v' = .bool (!(decide (lo ≤ x) && decide (x ≤ hi))) ∧ h' = h ∧ n' = n := by
  rw [zbjk]
  refine Run.inside_ ?_
  unfold zaya
  have c0 : ∀ z : Value, [z][0]? = some z := fun _ => rfl
  by_cases h1 : x < lo
  · try simp (disch := first | omega | assumption | exact zaae _ _ | exact zaab _ _ _ | exact zaaf _ | exact zaad _ | exact zaaa _) only [Nat.reduceAdd, Nat.reduceLT, RZ, gp, gq, c0, h1]
    rw [decide_eq_false (Int.not_le.2 h1)]
    simp
  · try simp (disch := first | omega | assumption | exact zaae _ _ | exact zaab _ _ _ | exact zaaf _ | exact zaad _ | exact zaaa _) only [Nat.reduceAdd, Nat.reduceLT, RZ, gp, gq, c0, h1]
    by_cases h2 : hi < x
    · simp [h2, Int.not_le.2 h2]
    · simp [h2, Int.not_lt.1 h1, Int.not_lt.1 h2]
theorem ixL (lf d n : Nat) (h : H) (v : Value) (xs : List Int) (hR : Row h n 3 .i64 v xs) (hl : xs.length ≤ 1000000000) (lo hi : Int) (p q : Nat) (hp : p < n) (hq : q < n) {e1 e2 : TypeId} {o1 o2 : Bool} (gp : h.get p = some ⟨e1, o1, [.int .i64 lo]⟩) (gq : h.get q = some ⟨e2, o2, [.int .i64 hi]⟩) (x4 : Value) {W : Nat → Prop} {n0 : Nat} (hn0 : n0 ≤ n) :
    ∀ (m i fu : Nat), xs.length - i = m → m < fu → i ≤ xs.length →
      Run W n0 (zabn lf (d + 1) fu (zabb lf (d + 1)) v (.func (.func 142) #[] #[.pointer (some ⟨p, 0, none⟩), .pointer (some ⟨q, 0, none⟩)]) x4 (.int .i64 (xs.length : Nat)) (.int .i64 (i : Nat))) h n (fun v' h' n' => (∃ r : Int, v' = .int .i64 r ∧ decide (0 ≤ r) = !allIn lo hi (xs.drop i)) ∧ h' = h ∧ n' = n) := by
  intro m
  induction m with
  | zero =>
    intro i fu hm hfu hii
    obtain ⟨fu, rfl⟩ : ∃ f, fu = f + 1 := ⟨fu - 1, by omega⟩
    obtain rfl : i = xs.length := by omega
    rw [zahm]
    try simp (disch := first | omega | assumption | exact zaae _ _ | exact zaab _ _ _ | exact zaaf _ | exact zaad _ | exact zaaa _) only [Nat.reduceAdd, Nat.reduceLT, RZ, Int.lt_irrefl]
    rw [zark]
    try simp (disch := first | omega | assumption | exact zaae _ _ | exact zaab _ _ _ | exact zaaf _ | exact zaad _ | exact zaaa _) only [Nat.reduceAdd, Nat.reduceLT, RZ]
    exact ⟨-1, rfl, by simp [allIn]⟩
  | succ m ih =>
    intro i fu hm hfu hii
    obtain ⟨fu, rfl⟩ : ∃ f, fu = f + 1 := ⟨fu - 1, by omega⟩
    obtain ⟨b, off, cap, o, cs, rfl, hg, hb, _, _, _, hat⟩ := hR.some (by omega)
    have e1 : ((i : Nat) : Int) < ((xs.length : Nat) : Int) := by omega
    have c1 := hat i (by omega)
    have w1 : ((i : Nat) : Int) + 1 = ((i + 1 : Nat) : Int) := by omega
    rw [zahm]
    try simp (disch := first | omega | assumption | exact zaae _ _ | exact zaab _ _ _ | exact zaaf _ | exact zaad _ | exact zaaa _) only [Nat.reduceAdd, Nat.reduceLT, RZ, e1, hg, c1, callB]
    refine zaaw (s_out lf d n h (xs.getD i 0) lo _ p q hp hq gp gq) hn0 (fun _ _ h => h.elim) ?_
    rw [zbmn (by omega)]
    by_cases h1 : (decide (lo ≤ xs.getD i 0) && decide (xs.getD i 0 ≤ hi)) = true
    · rw [h1]
      try simp (disch := first | omega | assumption | exact zaae _ _ | exact zaab _ _ _ | exact zaaf _ | exact zaad _ | exact zaaa _) only [Nat.reduceAdd, Nat.reduceLT, RZ]
      rw [w1]
      exact ih (i + 1) fu (by omega) (by omega) (by omega)
    · rw [Bool.eq_false_iff.2 h1]
      try simp (disch := first | omega | assumption | exact zaae _ _ | exact zaab _ _ _ | exact zaaf _ | exact zaad _ | exact zaaa _) only [Nat.reduceAdd, Nat.reduceLT, RZ]
      rw [zarl]
      try simp (disch := first | omega | assumption | exact zaae _ _ | exact zaab _ _ _ | exact zaaf _ | exact zaad _ | exact zaaa _) only [Nat.reduceAdd, Nat.reduceLT, RZ]
      exact ⟨(i : Nat), rfl, by simp⟩
theorem zcdz (lf d n : Nat) (h : H) (v : Value) (xs : List Int) (hR : Row h n 3 .i64 v xs) (lo hi : Int) (hl : xs.length ≤ 1000000) (hlf : 3000000 ≤ lf) :
    Run (fun _ => False) n (zaac Tryz.prog gt lf (d + 4) 130 #[v, .int .i64 lo, .int .i64 hi]) h n fun v' h' n' => v' = .bool (allIn lo hi xs) := by
  rw [zbnj]
  refine Run.inside_ ?_
  unfold zbce
  refine zawv sz3 _ _ ?_
  refine zawv sz3 _ _ ?_
  obtain ⟨h2, hh2⟩ : ∃ h2, (h.set n (some ⟨3, true, (Value.int .i64 lo).cells.toList⟩)).set (n + 1) (some ⟨3, true, (Value.int .i64 hi).cells.toList⟩) = h2 := ⟨_, rfl⟩
  have g1 : h2.get n = some ⟨3, true, [.int .i64 lo]⟩ := by rw [← hh2, zaar _ _ (by omega), zaaz]; rfl
  have g2 : h2.get (n + 1) = some ⟨3, true, [.int .i64 hi]⟩ := by rw [← hh2, zaaz]; rfl
  have hk : ∀ b, b < n → h2.get b = h.get b := fun b hb => by rw [← hh2, zaar _ _ (by omega), zaar _ _ (by omega)]
  rw [hh2]
  have hR2 : Row h2 (n + 2) 3 .i64 v xs := hR.keep (by omega) hk
  obtain ⟨a, c, rfl⟩ := hR.len
  have s1 : Run (fun _ => False) (n + 2) (zaac Tryz.prog gt lf (d + 2) 128 #[.slice a xs.length c, .func (.func 142) #[] #[.pointer (some ⟨n, 0, none⟩), .pointer (some ⟨n + 1, 0, none⟩)]]) h2 (n + 2) fun v' h' n' => (∃ r : Int, v' = .int .i64 r ∧ decide (0 ≤ r) = !allIn lo hi xs) ∧ h' = h2 ∧ n' = n + 2 := by
    rw [zaui]
    refine Run.inside_ ?_
    unfold zajz
    try simp (disch := first | omega | assumption | exact zaae _ _ | exact zaab _ _ _ | exact zaaf _ | exact zaad _ | exact zaaa _) only [Nat.reduceAdd, Nat.reduceLT, RZ]
    exact ixL lf d (n + 2) h2 _ xs hR2 (by omega) lo hi n (n + 1) (by omega) (by omega) g1 g2 _ (Nat.le_refl _) xs.length 0 lf (by omega) (by omega) (by omega)
  have s2 : Run (fun _ => False) (n + 2) (zaac Tryz.prog gt lf (d + 3) 103 #[.slice a xs.length c, .func (.func 142) #[] #[.pointer (some ⟨n, 0, none⟩), .pointer (some ⟨n + 1, 0, none⟩)]]) h2 (n + 2) fun v' h' n' => v' = .bool (!allIn lo hi xs) ∧ h' = h2 ∧ n' = n + 2 := by
    rw [zari]
    refine Run.inside_ ?_
    unfold zaio
    refine zaay okd s1 (Nat.le_refl _) (fun _ _ h => h.elim) fun v' h' n' _ _ hq => ?_
    obtain ⟨⟨r, rfl, hr⟩, rfl, rfl⟩ := hq
    try simp (disch := first | omega | assumption | exact zaae _ _ | exact zaab _ _ _ | exact zaaf _ | exact zaad _ | exact zaaa _) only [Nat.reduceAdd, Nat.reduceLT, RZ]
    rw [hr]
  refine zaaw s2 (by omega) (fun _ _ h => h.elim) ?_
  rw [u_not, zafh, Bool.not_not]
  try simp (disch := first | omega | assumption | exact zaae _ _ | exact zaab _ _ _ | exact zaaf _ | exact zaad _ | exact zaaa _) only [Nat.reduceAdd, Nat.reduceLT, RZ]

theorem zbeu {β : Type} {W : Nat → Prop} {n0 : Nat} {h : H} {n : Nat} {Q : β → H → Nat → Prop} {lf d : Nat} {f : FuncId} {args : Array Value} {b : Bool} (s : Run (fun _ => False) n (zaac Tryz.prog gt lf d f args) h n fun v' _ _ => v' = .bool b) (hn : n0 ≤ n) {k : Value → M β}
    (x : ∀ h1 n1, n ≤ n1 → (∀ c, c < n → h1.get c = h.get c) → Run W n0 (k (.bool b)) h1 n1 Q) : Run W n0 ((inside (zaac Tryz.prog gt lf d f args)).bind k) h n Q := by
  refine zaay okd s hn (fun _ _ h => h.elim) fun v1 h1 n1 hn1 fr hq => ?_
  subst hq
  exact x h1 n1 hn1 fun c hc => fr c hc id

theorem intsL (lf d n : Nat) (h : H) (v v2 : Value) (xs ys : List Int) (hR : Row h n 3 .i64 v xs) (hR2 : Row h n 3 .i64 v2 ys) (hxy : xs.length = ys.length) (x4 x10 : Value) {W : Nat → Prop} {n0 : Nat} (hl : xs.length ≤ 1000000) :
    ∀ (m i fu : Nat), xs.length - i = m → m < fu → i ≤ xs.length →
      Run W n0 (zadx lf d fu (zabx lf d) v v2 x4 x10 (.int .i64 (xs.length : Nat)) (.int .i64 (i : Nat))) h n (fun v' h' n' => v' = .bool (decide (xs.drop i = ys.drop i)) ∧ h' = h ∧ n' = n) := by
  intro m
  induction m with
  | zero =>
    intro i fu hm hfu hi
    obtain ⟨fu, rfl⟩ : ∃ f, fu = f + 1 := ⟨fu - 1, by omega⟩
    obtain rfl : i = xs.length := by omega
    rw [zapi]
    try simp (disch := first | omega | assumption | exact zaae _ _ | exact zaab _ _ _ | exact zaaf _ | exact zaad _ | exact zaaa _) only [Nat.reduceAdd, Nat.reduceLT, RZ, Int.lt_irrefl]
    rw [zbea]
    try simp (disch := first | omega | assumption | exact zaae _ _ | exact zaab _ _ _ | exact zaaf _ | exact zaad _ | exact zaaa _) only [Nat.reduceAdd, Nat.reduceLT, RZ]
    rw [List.drop_length, hxy, List.drop_length]
    exact rfl
  | succ m ih =>
    intro i fu hm hfu hi
    obtain ⟨fu, rfl⟩ : ∃ f, fu = f + 1 := ⟨fu - 1, by omega⟩
    obtain ⟨b, off, cap, o, cs, rfl, hg, hb, _, _, _, hat⟩ := hR.some (by omega)
    obtain ⟨b2, off2, cap2, o2, cs2, rfl, hg2, hb2, _, _, _, hat2⟩ := hR2.some (by omega)
    have e1 : ((i : Nat) : Int) < ((xs.length : Nat) : Int) := by omega
    have e2 : ((i : Nat) : Int) < ((ys.length : Nat) : Int) := by omega
    have c1 := hat i (by omega)
    have c2 := hat2 i (by omega)
    have w1 : ((i : Nat) : Int) + 1 = ((i + 1 : Nat) : Int) := by omega
    rw [zapi, zauv 0 (show i < xs.length by omega), zauv 0 (show i < ys.length by omega)]
    by_cases h1 : xs.getD i 0 = ys.getD i 0
    · have n1 : (xs.getD i 0 != ys.getD i 0) = false := by rw [h1]; simp
      try simp (disch := first | omega | assumption | exact zaae _ _ | exact zaab _ _ _ | exact zaaf _ | exact zaad _ | exact zaaa _) only [Nat.reduceAdd, Nat.reduceLT, RZ, e1, e2, hg, hg2, c1, c2, n1]
      rw [w1, h1]
      have := ih (i + 1) fu (by omega) (by omega) (by omega)
      simp only [List.cons.injEq, true_and]
      exact this
    · have n1 : (xs.getD i 0 != ys.getD i 0) = true := bne_iff_ne.2 h1
      try simp (disch := first | omega | assumption | exact zaae _ _ | exact zaab _ _ _ | exact zaaf _ | exact zaad _ | exact zaaa _) only [Nat.reduceAdd, Nat.reduceLT, RZ, e1, e2, hg, hg2, c1, c2, n1]
      rw [zbeg]
      try simp (disch := first | omega | assumption | exact zaae _ _ | exact zaab _ _ _ | exact zaaf _ | exact zaad _ | exact zaaa _) only [Nat.reduceAdd, Nat.reduceLT, RZ]
      rw [decide_eq_false (fun q => h1 (List.cons.inj q).1)]
theorem zcjy (lf d n : Nat) (h : H) (v v2 : Value) (xs ys : List Int) (hR : Row h n 3 .i64 v xs) (hR2 : Row h n 3 .i64 v2 ys) (hl : xs.length ≤ 1000000) (hlf : 3000000 ≤ lf) :
    Run (fun _ => False) n (zaac Tryz.prog gt lf (d + 1) 27 #[v, v2]) h n fun v' h' n' => v' = .bool (decide (xs = ys)) ∧ h' = h ∧ n' = n := by
  rw [zbir]
  refine Run.inside_ ?_
  unfold zawi
  have hR0 := hR
  have hR20 := hR2
  obtain ⟨a, c, rfl⟩ := hR.len
  obtain ⟨a2, c2, rfl⟩ := hR2.len
  by_cases hxy : xs.length = ys.length
  · have n1 : (((xs.length : Nat) : Int) != ((ys.length : Nat) : Int)) = false := by rw [hxy]; simp
    try simp (disch := first | omega | assumption | exact zaae _ _ | exact zaab _ _ _ | exact zaaf _ | exact zaad _ | exact zaaa _) only [Nat.reduceAdd, Nat.reduceLT, RZ, n1]
    exact intsL lf d n h _ _ xs ys hR0 hR20 hxy _ _ hl xs.length 0 lf (by omega) (by omega) (by omega)
  · have n1 : (((xs.length : Nat) : Int) != ((ys.length : Nat) : Int)) = true := by simp; omega
    try simp (disch := first | omega | assumption | exact zaae _ _ | exact zaab _ _ _ | exact zaaf _ | exact zaad _ | exact zaaa _) only [Nat.reduceAdd, Nat.reduceLT, RZ, n1]
    rw [decide_eq_false (fun q => hxy (by rw [q]))]

end Go.Proofs.YtdagfcflbphoiaaGreatDoor
namespace Go.Proofs.YtdagfcflbphoiaaGreatDoor
set_option linter.unusedVariables false
set_option linter.unusedSimpArgs false
open Go

def bn (b : Bool) : Nat := if b then 1 else 0
theorem bn_lt (b : Bool) : bn b < 2 := by cases b <;> decide
def num : List Bool → Nat → Nat
  | [], a => a
  | b :: l, a => num l (2 * a + bn b)
theorem zaxb : ∀ (l m : List Bool) (a : Nat), num (l ++ m) a = num m (num l a)
  | [], _, _ => rfl
  | b :: l, m, a => zaxb l m _
theorem zcdt : ∀ (l : List Bool) (a k : Nat), a < 2 ^ k → num l a < 2 ^ (k + l.length)
  | [], a, k, h => h
  | b :: l, a, k, h => by
    have := bn_lt b
    have := zcdt l (2 * a + bn b) (k + 1) (by rw [Nat.pow_succ]; omega)
    rw [List.length_cons, show k + (l.length + 1) = k + 1 + l.length by omega]
    exact this
theorem zagu (l : List Bool) : num l 0 < 2 ^ l.length := by
  have := zcdt l 0 0 (by decide)
  rwa [Nat.zero_add] at this
def fieldB : Nat → Nat → List Bool
  | _, 0 => []
  | v, n + 1 => fieldB (v / 2) n ++ [decide (v % 2 = 1)]
theorem zabh : ∀ (n v : Nat), (fieldB v n).length = n
  | 0, _ => rfl
  | n + 1, v => by simp [fieldB, zabh n]
theorem zcdp (v : Nat) : bn (decide (v % 2 = 1)) = v % 2 := by
  unfold bn
  by_cases h : v % 2 = 1 <;> simp [h] <;> omega
theorem zbiq : ∀ (n v : Nat), num (fieldB v n) 0 = v % 2 ^ n
  | 0, v => by simp [fieldB, num, Nat.mod_one]
  | n + 1, v => by
    show num (fieldB (v / 2) n ++ [decide (v % 2 = 1)]) 0 = _
    rw [zaxb, zbiq n]
    show 2 * (v / 2 % 2 ^ n) + bn _ = _
    rw [zcdp, Nat.pow_succ, Nat.mul_comm (2 ^ n) 2, Nat.mod_mul]
    omega
theorem w8 {x : Nat} (h : x < 256) : IntKind.u8.wrap (x : Int) = (x : Int) := IntWalk.u8_in _ (by omega)
theorem w32 {x : Nat} (h : x < 4294967296) : IntKind.u32.wrap (x : Int) = (x : Int) := IntWalk.u32_in _ (by omega)
theorem zcfh (v k : Nat) (kd : Nat) (h : k ≤ kd) : ((v : Int)).fdiv (2 ^ (min ((k : Int)).toNat kd)) = ((v / 2 ^ k : Nat) : Int) := by
  have e : min ((k : Int)).toNat kd = k := by rw [Int.toNat_natCast]; exact Nat.min_eq_left h
  rw [e]
  have e2 : ((2 : Int) ^ k) = ((2 ^ k : Nat) : Int) := by push_cast; rfl
  rw [e2, Int.fdiv_eq_ediv_of_nonneg _ (Int.natCast_nonneg _)]
  rfl
end Go.Proofs.YtdagfcflbphoiaaGreatDoor
namespace Go.Proofs.YtdagfcflbphoiaaGreatDoor.Cn
set_option linter.unusedVariables false
set_option linter.unusedSimpArgs false
open Go

theorem zapl : ∀ (l : List Bool) (a : Nat), num l a = a * 2 ^ l.length + num l 0
  | [], a => by simp [num]
  | b :: l, a => by
    show num l (2 * a + bn b) = _
    have h0 : num (b :: l) 0 = num l (bn b) := by show num l (2 * 0 + bn b) = _; rw [Nat.mul_zero, Nat.zero_add]
    rw [zapl l (2 * a + bn b), h0, zapl l (bn b), List.length_cons, Nat.pow_succ, Nat.add_mul, Nat.mul_comm 2 a, Nat.mul_assoc, Nat.mul_comm 2]
    omega
theorem zbde (l : List Bool) (b : Bool) : num (l ++ [b]) 0 = 2 * num l 0 + bn b := by rw [zaxb]; rfl
theorem zbqi (k : Nat) : num (List.replicate k false) 0 = 0 := by
  induction k with
  | zero => rfl
  | succ k ih => rw [List.replicate_succ]; exact ih
theorem zcie (l : List Bool) (k : Nat) : num (l ++ List.replicate k false) 0 = num l 0 * 2 ^ k := by
  rw [zaxb, zapl, zbqi, List.length_replicate, Nat.add_zero]
theorem zcjl {a b : Bool} (h : bn a = bn b) : a = b := by cases a <;> cases b <;> simp [bn] at h <;> rfl
theorem zbvs : ∀ {l m : List Bool}, l.length = m.length → num l 0 = num m 0 → l = m
  | [], [], _, _ => rfl
  | [], _ :: _, h, _ => by simp at h
  | _ :: _, [], h, _ => by simp at h
  | a :: l, b :: m, h, e => by
    have hl : l.length = m.length := by simpa using h
    have e : num l (bn a) = num m (bn b) := by
      have h1 : num (a :: l) 0 = num l (bn a) := by show num l (2 * 0 + bn a) = _; rw [Nat.mul_zero, Nat.zero_add]
      have h2 : num (b :: m) 0 = num m (bn b) := by show num m (2 * 0 + bn b) = _; rw [Nat.mul_zero, Nat.zero_add]
      rw [← h1, ← h2]; exact e
    rw [zapl l, zapl m, hl] at e
    have l1 := zagu l
    have l2 := zagu m
    rw [hl] at l1
    have ab : bn a = bn b := by
      have ha := bn_lt a
      have hb := bn_lt b
      rcases Nat.lt_trichotomy (bn a) (bn b) with q | q | q
      · have h1 : bn a = 0 := by omega
        have h2 : bn b = 1 := by omega
        rw [h1, h2] at e; omega
      · exact q
      · have h1 : bn b = 0 := by omega
        have h2 : bn a = 1 := by omega
        rw [h1, h2] at e; omega
    rw [ab] at e
    rw [zcjl ab, zbvs hl (by omega)]
theorem zaqk {l : List Bool} {v : Nat} (h : num l 0 = v) : l = fieldB v l.length := by
  refine zbvs (zabh _ _).symm ?_
  rw [zbiq, ← h, Nat.mod_eq_of_lt (zagu l)]
theorem zayv {n v : Nat} (h : v < 2 ^ n) : num (fieldB v n) 0 = v := by rw [zbiq, Nat.mod_eq_of_lt h]
theorem zbkd {l : List Bool} {n m : Nat} (h : n ≤ m) (hm : m ≤ l.length) : num (l.take n) 0 * 2 ^ (m - n) ≤ num (l.take m) 0 ∧ num (l.take m) 0 < (num (l.take n) 0 + 1) * 2 ^ (m - n) := by
  have e : l.take m = l.take n ++ (l.drop n).take (m - n) := by
    rw [← List.take_append_drop n (l.take m), List.take_take, Nat.min_eq_left h, List.drop_take]
  have hl : ((l.drop n).take (m - n)).length = m - n := by simp; omega
  have h3 := zagu ((l.drop n).take (m - n))
  rw [hl] at h3
  rw [e, zaxb, zapl ((l.drop n).take (m - n)) (num (l.take n) 0), hl]
  constructor
  · omega
  · rw [Nat.add_mul]; omega

def cn (ln : List Nat) (n : Nat) : Nat := ln.countP fun x => x == n
def cnTo (ln : List Nat) (n i : Nat) : Nat := cn (ln.take i) n
theorem zaum {ln : List Nat} {i : Nat} (h : i < ln.length) (n : Nat) : cnTo ln n (i + 1) = cnTo ln n i + (if ln.getD i 0 = n then 1 else 0) := by
  unfold cnTo cn
  rw [List.take_succ_eq_append_getElem h, List.countP_append, List.getD_eq_getElem?_getD, List.getElem?_eq_getElem h]
  simp only [List.countP_cons, List.countP_nil, Option.getD_some, beq_iff_eq, Nat.zero_add]
theorem zaxn (ln : List Nat) (n : Nat) : cnTo ln n ln.length = cn ln n := by unfold cnTo; rw [List.take_length]
theorem zbqf {ln : List Nat} {n i j : Nat} (h : i ≤ j) : cnTo ln n i ≤ cnTo ln n j := by
  unfold cnTo cn
  have : ln.take i = (ln.take j).take i := by rw [List.take_take, Nat.min_eq_left h]
  rw [this]
  exact List.Sublist.countP_le (List.take_sublist _ _)
theorem zbvu (ln : List Nat) (n i : Nat) : cnTo ln n i ≤ cn ln n := by
  unfold cnTo cn
  exact List.Sublist.countP_le (List.take_sublist _ _)
theorem zbpa {ln : List Nat} {i : Nat} (h : i < ln.length) : cnTo ln (ln.getD i 0) i < cn ln (ln.getD i 0) := by
  have h1 := zaum h (ln.getD i 0)
  rw [if_pos rfl] at h1
  have := zbvu ln (ln.getD i 0) (i + 1)
  omega
def firstC (ln : List Nat) : Nat → Nat
  | 0 => 0
  | n + 1 => 2 * (firstC ln n + cn ln n)
def fromC (ln : List Nat) : Nat → Nat
  | 0 => 0
  | n + 1 => fromC ln n + cn ln n
def codeC (ln : List Nat) (i : Nat) : Nat := firstC ln (ln.getD i 0) + cnTo ln (ln.getD i 0) i
def krT (ln : List Nat) : Nat → Nat
  | 0 => 0
  | n + 1 => krT ln n + cn ln n * 2 ^ (20 - n)
theorem zblc (ln : List Nat) : ∀ {n : Nat}, n ≤ 20 → firstC ln n * 2 ^ (20 - n) = krT ln n
  | 0, _ => by simp [firstC, krT]
  | n + 1, h => by
    have ih := zblc ln (n := n) (by omega)
    have e : 20 - n = 20 - (n + 1) + 1 := by omega
    unfold firstC krT
    rw [← ih, e, Nat.pow_succ]
    simp only [Nat.mul_comm 2, Nat.add_mul, Nat.mul_assoc]
theorem zbyw (ln : List Nat) : ∀ {n m : Nat}, n ≤ m → krT ln n ≤ krT ln m
  | n, 0, h => by have : n = 0 := by omega
                  subst this; exact Nat.le_refl _
  | n, m + 1, h => by
    by_cases e : n = m + 1
    · subst e; exact Nat.le_refl _
    · have := zbyw ln (n := n) (m := m) (by omega)
      show krT ln n ≤ krT ln m + cn ln m * 2 ^ (20 - m)
      omega
structure Wh (ln : List Nat) : Prop where
  lo : ∀ x ∈ ln, 1 ≤ x ∧ x ≤ 20
  kr : krT ln 21 = 1048576
section
variable {ln : List Nat} (w : Wh ln)
include w
theorem Wh.at {i : Nat} (h : i < ln.length) : 1 ≤ ln.getD i 0 ∧ ln.getD i 0 ≤ 20 := by
  rw [List.getD_eq_getElem?_getD, List.getElem?_eq_getElem h]
  exact w.lo _ (List.getElem_mem h)
theorem Wh.cap {n : Nat} (h : n ≤ 20) : firstC ln n + cn ln n ≤ 2 ^ n := by
  have h1 := zblc ln h
  have h2 := zbyw ln (show n + 1 ≤ 21 by omega)
  rw [w.kr] at h2
  have h3 : krT ln (n + 1) = krT ln n + cn ln n * 2 ^ (20 - n) := rfl
  rw [h3, ← h1, ← Nat.add_mul] at h2
  have h4 : 2 ^ n * 2 ^ (20 - n) = 1048576 := by rw [← Nat.pow_add, show n + (20 - n) = 20 by omega]
  rw [← h4] at h2
  exact Nat.le_of_mul_le_mul_right h2 (Nat.two_pow_pos _)
theorem Wh.full : firstC ln 20 + cn ln 20 = 1048576 := by
  have h1 := zblc ln (Nat.le_refl 20)
  have h3 : krT ln 21 = krT ln 20 + cn ln 20 * 2 ^ (20 - 20) := rfl
  rw [w.kr, ← h1] at h3
  simpa using h3.symm
theorem Wh.code_lt {i : Nat} (h : i < ln.length) : codeC ln i < 2 ^ ln.getD i 0 := by
  have h1 := w.cap (w.at h).2
  have h2 := zbpa h
  unfold codeC
  omega
end
theorem zbik (ln : List Nat) {n : Nat} : ∀ {m : Nat}, n < m → (firstC ln n + cn ln n) * 2 ^ (m - n) ≤ firstC ln m
  | 0, h => absurd h (Nat.not_lt_zero n)
  | m + 1, h => by
    by_cases e : n = m
    · subst e
      rw [show n + 1 - n = 1 by omega, Nat.pow_one]
      show _ ≤ 2 * (firstC ln n + cn ln n)
      omega
    · have ih := zbik ln (n := n) (m := m) (by omega)
      rw [show m + 1 - n = m - n + 1 by omega, Nat.pow_succ, ← Nat.mul_assoc]
      show _ ≤ 2 * (firstC ln m + cn ln m)
      omega
def Mt (ln : List Nat) (bs : List Bool) (i : Nat) : Prop := i < ln.length ∧ ln.getD i 0 ≤ bs.length ∧ num (bs.take (ln.getD i 0)) 0 = codeC ln i
theorem zcbs {ln : List Nat} {i j : Nat} (hi : i < ln.length) (hj : j < ln.length) (hl : ln.getD i 0 = ln.getD j 0) (hr : cnTo ln (ln.getD i 0) i = cnTo ln (ln.getD i 0) j) : i = j := by
  rcases Nat.lt_trichotomy i j with q | q | q
  · have h1 := zaum hi (ln.getD i 0)
    rw [if_pos rfl] at h1
    have := zbqf (ln := ln) (n := ln.getD i 0) (show i + 1 ≤ j by omega)
    omega
  · exact q
  · have h1 := zaum hj (ln.getD i 0)
    rw [if_pos hl.symm] at h1
    have := zbqf (ln := ln) (n := ln.getD i 0) (show j + 1 ≤ i by omega)
    omega
theorem Mt.lt_len {ln : List Nat} {bs : List Bool} {i j : Nat} (a : Mt ln bs i) (b : Mt ln bs j) : ¬ ln.getD i 0 < ln.getD j 0 := by
  intro h
  obtain ⟨hi, _, ei⟩ := a
  obtain ⟨hj, lj, ej⟩ := b
  have h1 := (zbkd (Nat.le_of_lt h) lj).2
  have h2 := zbpa hi
  have h3 := zbik ln h
  rw [ei, ej] at h1
  have h4 : (codeC ln i + 1) * 2 ^ (ln.getD j 0 - ln.getD i 0) ≤ (firstC ln (ln.getD i 0) + cn ln (ln.getD i 0)) * 2 ^ (ln.getD j 0 - ln.getD i 0) := Nat.mul_le_mul_right _ (by unfold codeC; omega)
  have h5 : firstC ln (ln.getD j 0) ≤ codeC ln j := by unfold codeC; omega
  omega
theorem Mt.uniq {ln : List Nat} {bs : List Bool} {i j : Nat} (a : Mt ln bs i) (b : Mt ln bs j) : i = j := by
  have h1 := a.lt_len b
  have h2 := b.lt_len a
  have hl : ln.getD i 0 = ln.getD j 0 := by omega
  refine zcbs a.1 b.1 hl ?_
  have e1 := a.2.2
  have e2 := b.2.2
  unfold codeC at e1 e2
  rw [← hl] at e2
  omega
def getC (ln : List Nat) (bs : List Bool) : Option Nat := (List.range ln.length).find? fun i => decide (ln.getD i 0 ≤ bs.length) && decide (num (bs.take (ln.getD i 0)) 0 = codeC ln i)
theorem zbhy {ln : List Nat} {bs : List Bool} {i : Nat} (m : Mt ln bs i) : getC ln bs = some i := by
  unfold getC
  cases h : (List.range ln.length).find? fun i => decide (ln.getD i 0 ≤ bs.length) && decide (num (bs.take (ln.getD i 0)) 0 = codeC ln i) with
  | none =>
    have := List.find?_eq_none.1 h i (List.mem_range.2 m.1)
    simp only [m.2.1, m.2.2, decide_true, Bool.and_self, not_true_eq_false] at this
  | some j =>
    have h1 := List.find?_some h
    have h2 := List.mem_of_find?_eq_some h
    simp only [Bool.and_eq_true, decide_eq_true_eq] at h1
    rw [m.uniq ⟨List.mem_range.1 h2, h1⟩]
theorem zbcc {ln : List Nat} {bs : List Bool} {i : Nat} (h : getC ln bs = some i) : Mt ln bs i := by
  unfold getC at h
  have h1 := List.find?_some h
  have h2 := List.mem_of_find?_eq_some h
  simp only [Bool.and_eq_true, decide_eq_true_eq] at h1
  exact ⟨List.mem_range.1 h2, h1⟩
theorem zbqq {ln : List Nat} {bs : List Bool} (h : ∀ i, ¬ Mt ln bs i) : getC ln bs = none := by
  cases e : getC ln bs with
  | none => rfl
  | some i => exact absurd (zbcc e) (h i)
def Past (ln : List Nat) (bs : List Bool) (n : Nat) : Prop := firstC ln n + cn ln n ≤ num (bs.take n) 0
theorem Past.no {ln : List Nat} {bs : List Bool} {n : Nat} (p : Past ln bs n) (hn : n ≤ bs.length) {i : Nat} (hi : ln.getD i 0 ≤ n) : ¬ Mt ln bs i := by
  rintro ⟨h1, h2, h3⟩
  have h4 := (zbkd hi hn).2
  rw [h3] at h4
  have h5 := zbpa h1
  have h6 : codeC ln i + 1 ≤ firstC ln (ln.getD i 0) + cn ln (ln.getD i 0) := by unfold codeC; omega
  by_cases e : ln.getD i 0 = n
  · unfold Past at p
    rw [e, Nat.sub_self, Nat.pow_zero, Nat.mul_one] at h4
    rw [e] at h6
    omega
  · have h7 := zbik ln (show ln.getD i 0 < n by omega)
    have h8 : (codeC ln i + 1) * 2 ^ (n - ln.getD i 0) ≤ (firstC ln (ln.getD i 0) + cn ln (ln.getD i 0)) * 2 ^ (n - ln.getD i 0) := Nat.mul_le_mul_right _ h6
    unfold Past at p
    omega
theorem Past.next {ln : List Nat} {bs : List Bool} {n : Nat} (p : Past ln bs n) (hn : n < bs.length) : firstC ln (n + 1) ≤ num (bs.take (n + 1)) 0 := by
  have e : bs.take (n + 1) = bs.take n ++ [bs[n]] := List.take_succ_eq_append_getElem hn
  rw [e, zbde]
  unfold Past at p
  show 2 * (firstC ln n + cn ln n) ≤ _
  omega

def symsTo (ln : List Nat) (n i : Nat) : List Nat := (List.range i).filter fun s => ln.getD s 0 == n
theorem zatv (ln : List Nat) (n i : Nat) : symsTo ln n (i + 1) = symsTo ln n i ++ (if ln.getD i 0 = n then [i] else []) := by
  unfold symsTo
  rw [List.range_succ, List.filter_append]
  congr 1
  by_cases h : ln.getD i 0 = n
  · rw [if_pos h, List.filter_cons, if_pos (by rw [h]; simp)]; rfl
  · rw [if_neg h, List.filter_cons, if_neg (by simpa using h)]; rfl
theorem zaqx {ln : List Nat} (n : Nat) : ∀ {i : Nat}, i ≤ ln.length → (symsTo ln n i).length = cnTo ln n i
  | 0, _ => by simp [symsTo, cnTo, cn]
  | i + 1, h => by
    rw [zatv, List.length_append, zaqx n (i := i) (by omega), zaum (by omega)]
    split <;> rfl
theorem zbmc {ln : List Nat} {n : Nat} : ∀ {i r s : Nat}, i ≤ ln.length → (symsTo ln n i)[r]? = some s → s < i ∧ ln.getD s 0 = n ∧ cnTo ln n s = r
  | 0, r, s, _, h => by simp [symsTo] at h
  | i + 1, r, s, hi, h => by
    rw [zatv] at h
    by_cases q : r < (symsTo ln n i).length
    · rw [List.getElem?_append_left q] at h
      obtain ⟨a, b, c⟩ := zbmc (i := i) (by omega) h
      exact ⟨by omega, b, c⟩
    · rw [List.getElem?_append_right (by omega)] at h
      have hl := zaqx (ln := ln) n (i := i) (by omega)
      split at h
      · rename_i e
        have hr : r - (symsTo ln n i).length = 0 := by
          cases q2 : r - (symsTo ln n i).length with
          | zero => rfl
          | succ k => rw [q2] at h; simp at h
        rw [hr] at h
        simp at h
        subst h
        exact ⟨by omega, e, by omega⟩
      · simp at h
def ordTo (ln : List Nat) : Nat → List Nat
  | 0 => []
  | n + 1 => ordTo ln n ++ symsTo ln n ln.length
theorem zafg (ln : List Nat) : ∀ n, (ordTo ln n).length = fromC ln n
  | 0 => rfl
  | n + 1 => by
    unfold ordTo fromC
    rw [List.length_append, zafg ln n, zaqx n (Nat.le_refl _), zaxn]
theorem zbpp {ln : List Nat} {n r : Nat} (hr : r < cn ln n) : ∀ {m : Nat}, n < m → ∃ s, (ordTo ln m)[fromC ln n + r]? = some s ∧ s < ln.length ∧ ln.getD s 0 = n ∧ cnTo ln n s = r
  | 0, h => absurd h (Nat.not_lt_zero n)
  | m + 1, h => by
    unfold ordTo
    by_cases e : n = m
    · subst e
      have hl := zaqx (ln := ln) n (Nat.le_refl _)
      rw [zaxn] at hl
      have : ((ordTo ln n ++ symsTo ln n ln.length)[fromC ln n + r]?) = some ((symsTo ln n ln.length)[r]'(by omega)) := by
        rw [List.getElem?_append_right (by rw [zafg]; omega), zafg, show fromC ln n + r - fromC ln n = r by omega, List.getElem?_eq_getElem]
      obtain ⟨a, b, c⟩ := zbmc (ln := ln) (n := n) (i := ln.length) (r := r) (s := (symsTo ln n ln.length)[r]'(by omega)) (Nat.le_refl _) (List.getElem?_eq_getElem _)
      exact ⟨_, this, a, b, c⟩
    · obtain ⟨s, h1, h2⟩ := zbpp hr (m := m) (by omega)
      refine ⟨s, ?_, h2⟩
      rw [List.getElem?_append_left ((List.getElem?_eq_some_iff.1 h1).1)]
      exact h1
theorem zbzf {ln : List Nat} : ∀ {n m : Nat}, n ≤ m → fromC ln n ≤ fromC ln m
  | n, 0, h => by have : n = 0 := by omega
                  subst this; exact Nat.le_refl _
  | n, m + 1, h => by
    by_cases e : n = m + 1
    · subst e; exact Nat.le_refl _
    · have := zbzf (ln := ln) (n := n) (m := m) (by omega)
      show fromC ln n ≤ fromC ln m + cn ln m
      omega
theorem hit {ln : List Nat} {bs : List Bool} {n : Nat} (hn : n ≤ bs.length) (h1 : firstC ln n ≤ num (bs.take n) 0) (h2 : num (bs.take n) 0 < firstC ln n + cn ln n) : ∃ s, (ordTo ln 21)[fromC ln n + (num (bs.take n) 0 - firstC ln n)]? = some s ∧ (n ≤ 20 → Mt ln bs s ∧ ln.getD s 0 = n) ∨ 20 < n := by
  by_cases h20 : 20 < n
  · exact ⟨0, .inr h20⟩
  · obtain ⟨s, a, b, c, d⟩ := zbpp (ln := ln) (n := n) (r := num (bs.take n) 0 - firstC ln n) (by omega) (m := 21) (by omega)
    refine ⟨s, .inl ⟨a, fun _ => ⟨⟨b, by omega, ?_⟩, c⟩⟩⟩
    unfold codeC
    rw [c, d]
    omega

def nxC (ln : List Nat) (n i : Nat) : Nat := firstC ln n + cnTo ln n i
theorem zbwu (ln : List Nat) (n : Nat) : nxC ln (n + 1) 0 = 2 * nxC ln n ln.length := by
  unfold nxC
  rw [zaxn]
  show 2 * (firstC ln n + cn ln n) + cnTo ln (n + 1) 0 = _
  simp [cnTo, cn]
theorem zbfa {ln : List Nat} {n i : Nat} (h : i < ln.length) : nxC ln n (i + 1) = nxC ln n i + (if ln.getD i 0 = n then 1 else 0) := by
  unfold nxC
  rw [zaum h]
  omega
theorem zbei {ln : List Nat} {n i : Nat} (h : ln.getD i 0 = n) : nxC ln n i = codeC ln i := by unfold nxC codeC; rw [h]
def incB : List Bool → List Bool × Bool
  | [] => ([], true)
  | b :: l => ((xor b (incB l).2) :: (incB l).1, b && (incB l).2)
theorem zatj : ∀ l : List Bool, (incB l).1.length = l.length
  | [] => rfl
  | b :: l => by simp [incB, zatj l]
theorem zbto : ∀ l : List Bool, num (incB l).1 0 + bn (incB l).2 * 2 ^ l.length = num l 0 + 1
  | [] => rfl
  | b :: l => by
    have ih := zbto l
    have h1 : ∀ (c : Bool) (m : List Bool), num (c :: m) 0 = bn c * 2 ^ m.length + num m 0 := fun c m => by
      show num m (2 * 0 + bn c) = _
      rw [Nat.mul_zero, Nat.zero_add, zapl]
    simp only [incB, h1, zatj, List.length_cons, Nat.pow_succ]
    cases b <;> cases hc : (incB l).2 <;> simp [bn, hc] at ih ⊢ <;> omega
theorem zcad {c m : Nat} (h : c + 1 < 2 ^ m) : (incB (fieldB c m)).1 = fieldB (c + 1) m := by
  have h1 := zbto (fieldB c m)
  rw [zayv (by omega), zabh] at h1
  have h2 : num (incB (fieldB c m)).1 0 = c + 1 := by
    cases hc : (incB (fieldB c m)).2 with
    | false => rw [hc] at h1; simpa [bn] using h1
    | true => rw [hc] at h1; simp [bn] at h1; omega
  have := zaqk h2
  rw [zatj, zabh] at this
  exact this
theorem zcch {v m k : Nat} (h : v < 2 ^ m) : fieldB v m ++ List.replicate k false = fieldB (v * 2 ^ k) (m + k) := by
  have := zaqk (l := fieldB v m ++ List.replicate k false) (v := v * 2 ^ k) (by rw [zcie, zayv h])
  rw [List.length_append, zabh, List.length_replicate] at this
  exact this
def LastC (ln : List Nat) (n i : Nat) (code : List Bool) : Prop := (code = [] ∧ nxC ln n i = 0) ∨ ∃ c m, 1 ≤ m ∧ m ≤ n ∧ code = fieldB c m ∧ c < 2 ^ m ∧ (c + 1) * 2 ^ (n - m) = nxC ln n i
theorem LastC.skip {ln : List Nat} {n i : Nat} {code : List Bool} (h : LastC ln n i code) (hi : i < ln.length) (hn : ln.getD i 0 ≠ n) : LastC ln n (i + 1) code := by
  have e : nxC ln n (i + 1) = nxC ln n i := by rw [zbfa hi, if_neg hn, Nat.add_zero]
  unfold LastC
  rw [e]
  exact h
theorem LastC.row {ln : List Nat} {n : Nat} {code : List Bool} (h : LastC ln n ln.length code) : LastC ln (n + 1) 0 code := by
  rcases h with ⟨a, b⟩ | ⟨c, m, h1, h2, h3, h4, h5⟩
  · exact .inl ⟨a, by rw [zbwu, b]⟩
  · refine .inr ⟨c, m, h1, by omega, h3, h4, ?_⟩
    rw [zbwu, ← h5, show n + 1 - m = n - m + 1 by omega, Nat.pow_succ]
    rw [← Nat.mul_assoc, Nat.mul_comm 2]
theorem LastC.hit {ln : List Nat} (w : Wh ln) {n i : Nat} {code : List Bool} (h : LastC ln n i code) (hi : i < ln.length) (hn : ln.getD i 0 = n) : (if code = [] then List.replicate n false else (incB code).1 ++ List.replicate (n - code.length) false) = fieldB (codeC ln i) n ∧ LastC ln n (i + 1) (fieldB (codeC ln i) n) := by
  have hc := w.code_lt hi
  have ha := w.at hi
  rw [hn] at hc ha
  have e : nxC ln n (i + 1) = codeC ln i + 1 := by rw [zbfa hi, if_pos hn, zbei hn]
  refine ⟨?_, .inr ⟨codeC ln i, n, ha.1, Nat.le_refl n, rfl, hc, by rw [e, Nat.sub_self, Nat.pow_zero, Nat.mul_one]⟩⟩
  rcases h with ⟨a, b⟩ | ⟨c, m, h1, h2, h3, h4, h5⟩
  · rw [if_pos a]
    rw [zbei hn] at b
    have := zaqk (zbqi n)
    rw [List.length_replicate] at this
    rw [b]; exact this
  · rw [zbei hn] at h5
    have hne : code ≠ [] := by
      intro q
      have := congrArg List.length (q.symm.trans h3)
      rw [zabh] at this
      simp at this; omega
    have hlt : c + 1 < 2 ^ m := by
      have h6 : 2 ^ m * 2 ^ (n - m) = 2 ^ n := by rw [← Nat.pow_add, show m + (n - m) = n by omega]
      rw [← h5, ← h6] at hc
      exact Nat.lt_of_mul_lt_mul_right hc
    rw [if_neg hne, h3, zcad hlt, zabh, zcch hlt, h5, show m + (n - m) = n by omega]
theorem zbjd {ln : List Nat} (w : Wh ln) : cn ln 0 = 0 := by
  unfold cn
  rw [List.countP_eq_zero]
  intro x hx
  have := (w.lo x hx).1
  simp; omega
theorem zcee {ln : List Nat} (w : Wh ln) : firstC ln 1 = 0 := by
  show 2 * (0 + cn ln 0) = 0
  rw [zbjd w]
theorem zcex {ln : List Nat} (w : Wh ln) : fromC ln 1 = 0 := by
  show 0 + cn ln 0 = 0
  rw [zbjd w]
theorem LastC.zero {ln : List Nat} (w : Wh ln) : LastC ln 1 0 [] := .inl ⟨rfl, by
  unfold nxC
  rw [zcee w]
  simp [cnTo, cn]⟩
end Go.Proofs.YtdagfcflbphoiaaGreatDoor.Cn
namespace Go.Proofs.YtdagfcflbphoiaaGreatDoor.Cn
set_option linter.unusedVariables false
set_option linter.unusedSimpArgs false
open Go

def bitsS (s : List UInt8) : List Bool := s.flatMap fun b => fieldB b.toNat 8
theorem zapf : ∀ s : List UInt8, (bitsS s).length = 8 * s.length
  | [] => rfl
  | b :: s => by
    show (fieldB b.toNat 8 ++ bitsS s).length = _
    rw [List.length_append, zabh, zapf s, List.length_cons]
    omega
theorem zbpy (a b : List UInt8) : bitsS (a ++ b) = bitsS a ++ bitsS b := by unfold bitsS; rw [List.flatMap_append]
theorem zbek : ∀ (n v r : Nat) (h : r < n), (fieldB v n)[r]? = some (decide (v / 2 ^ (n - 1 - r) % 2 = 1))
  | 0, _, _, h => absurd h (Nat.not_lt_zero _)
  | n + 1, v, r, h => by
    show (fieldB (v / 2) n ++ [decide (v % 2 = 1)])[r]? = _
    by_cases e : r < n
    · rw [List.getElem?_append_left (by rw [zabh]; exact e), zbek n (v / 2) r e, Nat.div_div_eq_div_mul, ← Nat.pow_succ', show (n - 1 - r).succ = n + 1 - 1 - r by omega]
    · have : r = n := by omega
      subst this
      rw [List.getElem?_append_right (by rw [zabh]; exact Nat.le_refl _), zabh, Nat.sub_self, show r + 1 - 1 - r = 0 by omega, Nat.pow_zero, Nat.div_one]
      rfl
theorem zbsc : ∀ (s : List UInt8) (q r : Nat) (hq : q < s.length) (hr : r < 8), (bitsS s)[8 * q + r]? = some (decide (s[q].toNat / 2 ^ (7 - r) % 2 = 1))
  | [], q, r, hq, _ => by simp at hq
  | b :: s, 0, r, _, hr => by
    show (fieldB b.toNat 8 ++ bitsS s)[8 * 0 + r]? = _
    rw [List.getElem?_append_left (by rw [zabh]; omega), Nat.mul_zero, Nat.zero_add, zbek 8 _ r hr]
    rfl
  | b :: s, q + 1, r, hq, hr => by
    have ih := zbsc s q r (by simpa using hq) hr
    show (fieldB b.toNat 8 ++ bitsS s)[8 * (q + 1) + r]? = _
    rw [List.getElem?_append_right (by rw [zabh]; omega), zabh, show 8 * (q + 1) + r - 8 = 8 * q + r by omega, ih]
    rfl
def restB (S : List UInt8) (D A : Nat) : List Bool := (bitsS S).drop (A - 8 * D)
theorem zcdk (S : List UInt8) (D A : Nat) : (restB S D A).length = 8 * S.length - (A - 8 * D) := by unfold restB; rw [List.length_drop, zapf]
theorem zawr {S : List UInt8} {D A k : Nat} (h : 8 * D ≤ A) : (restB S D A).drop k = restB S D (A + k) := by
  unfold restB
  rw [List.drop_drop]
  congr 1
  omega
theorem zcgo {l : List Bool} {k : Nat} {b : Bool} (h : (l.drop k)[0]? = some b) : l.take (k + 1) = l.take k ++ [b] := by
  rw [List.getElem?_drop, Nat.add_zero] at h
  obtain ⟨hk, e⟩ := List.getElem?_eq_some_iff.1 h
  rw [List.take_succ_eq_append_getElem hk, e]
theorem zciz {a : Nat} (ha : a < 256) : IntKind.u8.wrap ((BitVec.ofInt IntKind.u8.bits (a : Int) &&& BitVec.ofInt IntKind.u8.bits (1 : Int)).toNat : Int) = ((a % 2 : Nat) : Int) := by
  have h1 : (BitVec.ofInt 8 (a : Int)).toNat = a := by rw [BitVec.ofInt_natCast, BitVec.toNat_ofNat]; exact Nat.mod_eq_of_lt (by omega)
  show IntKind.u8.wrap ((BitVec.ofInt 8 (a : Int) &&& BitVec.ofInt 8 (1 : Int)).toNat : Int) = _
  rw [BitVec.toNat_and, h1]
  have h2 : (BitVec.ofInt 8 (1 : Int)).toNat = 1 := by decide
  rw [h2, Nat.and_one_is_mod]
  exact w8 (by omega)
theorem or32 {a : Nat} (b : Bool) (ha : 2 * a + 1 < 4294967296) : IntKind.u32.wrap ((BitVec.ofInt IntKind.u32.bits ((2 * a : Nat) : Int) ||| BitVec.ofInt IntKind.u32.bits (bn b : Int)).toNat : Int) = ((2 * a + bn b : Nat) : Int) := by
  have hb := bn_lt b
  have h1 : (BitVec.ofInt 32 ((2 * a : Nat) : Int)).toNat = 2 * a := by rw [BitVec.ofInt_natCast, BitVec.toNat_ofNat]; exact Nat.mod_eq_of_lt (by omega)
  have h2 : (BitVec.ofInt 32 (bn b : Int)).toNat = bn b := by rw [BitVec.ofInt_natCast, BitVec.toNat_ofNat]; exact Nat.mod_eq_of_lt (by omega)
  show IntKind.u32.wrap ((BitVec.ofInt 32 ((2 * a : Nat) : Int) ||| BitVec.ofInt 32 (bn b : Int)).toNat : Int) = _
  rw [BitVec.toNat_or, h1, h2]
  have h3 : 2 * a ||| bn b = 2 * a + bn b := by
    have := Nat.two_pow_add_eq_or_of_lt (i := 1) (b := bn b) (by omega) a
    rw [Nat.pow_one] at this
    exact this.symm
  rw [h3]
  exact w32 (by omega)
theorem shl32 {a : Nat} (ha : 2 * a < 4294967296) : IntKind.u32.wrap ((a : Int) * 2 ^ (min ((1 : Int)).toNat (IntKind.u32).bits)) = ((2 * a : Nat) : Int) := by
  have e : min ((1 : Int)).toNat (IntKind.u32).bits = 1 := by decide
  rw [e]
  have : (a : Int) * 2 ^ 1 = ((2 * a : Nat) : Int) := by omega
  rw [this]
  exact w32 ha
end Go.Proofs.YtdagfcflbphoiaaGreatDoor.Cn
namespace Go.Proofs.YtdagfcflbphoiaaGreatDoor
set_option linter.unusedVariables false
set_option linter.unusedSimpArgs false
open Go.RowKit Ev Cn

def rdrB (S : List UInt8) (D A : Nat) : AB := ⟨85, true, [.string ⟨S.toArray⟩, .int .i64 (D : Int), .int .i64 (A : Int)]⟩
structure RdAt (h : H) (n p : Nat) (S : List UInt8) (D A : Nat) : Prop where
  get : h.get p = some (rdrB S D A)
  lt : p < n
  lo : 8 * D ≤ A
  hi : A ≤ 8 * (D + S.length)
  sm : D + S.length ≤ 1000000000000
theorem RdAt.keep {h h' : H} {n n' p : Nat} {S : List UInt8} {D A : Nat} (x : RdAt h n p S D A) (hn : n ≤ n') (hk : h'.get p = h.get p) : RdAt h' n' p S D A := ⟨hk.trans x.get, Nat.lt_of_lt_of_le x.lt hn, x.lo, x.hi, x.sm⟩
theorem RdAt.len {h : H} {n p : Nat} {S : List UInt8} {D A : Nat} (x : RdAt h n p S D A) : (restB S D A).length = 8 * (D + S.length) - A := by
  rw [zcdk]
  have := x.lo
  have := x.hi
  omega
section
variable {lf d n p : Nat} {h : H} {S : List UInt8} {D A : Nat}
theorem zcjn (hs : S.length ≤ 1000000000000) : Run (fun _ => False) n (zaac Tryz.prog gt lf (d + 1) 20 #[.string ⟨S.toArray⟩]) h n fun v h' n' => v = .pointer (some ⟨n, 0, none⟩) ∧ n' = n + 1 ∧ RdAt h' n' n S 0 0 := by
  rw [zbjy]
  refine Run.inside_ ?_
  unfold zayw
  try simp (disch := first | omega | assumption | exact zaae _ _ | exact zaab _ _ _ | exact zaaf _ | exact zaad _ | exact zaaa _) only [Nat.reduceAdd, Nat.reduceLT, RZ, Int.reduceBEq, Int.reduceBNe, Int.reduceLT, Int.reduceLE, Int.reduceEq, Int.reduceNe, Int.reduceAdd, Int.reduceSub, Int.reduceMul, Int.reduceNeg]
  refine zawv sz85 _ _ ?_
  try simp (disch := first | omega | assumption | exact zaae _ _ | exact zaab _ _ _ | exact zaaf _ | exact zaad _ | exact zaaa _) only [Nat.reduceAdd, Nat.reduceLT, RZ, Int.reduceBEq, Int.reduceBNe, Int.reduceLT, Int.reduceLE, Int.reduceEq, Int.reduceNe, Int.reduceAdd, Int.reduceSub, Int.reduceMul, Int.reduceNeg]
  exact ⟨zaaz _ _ _, by omega, by omega, by omega, by omega⟩
theorem zcec (x : RdAt h n p S D A) : Run (fun _ => False) n (zaac Tryz.prog gt lf (d + 1) 51 #[.pointer (some ⟨p, 0, none⟩)]) h n fun v h' n' => v = .int .i64 ((8 * (D + S.length) : Nat) : Int) ∧ h' = h ∧ n' = n := by
  have g := x.get
  have hp := x.lt
  have hm := x.sm
  unfold rdrB at g
  rw [zbio]
  refine Run.inside_ ?_
  unfold zavz
  have w1 : IntKind.i64.wrap ((D : Int) + (S.length : Int)) = ((D + S.length : Nat) : Int) := by rw [zaav (by omega) (by omega)]; omega
  have w2 : IntKind.i64.wrap (8 * ((D + S.length : Nat) : Int)) = ((8 * (D + S.length) : Nat) : Int) := by rw [zaav (by omega) (by omega)]; omega
  try simp (disch := first | omega | assumption | exact zaae _ _ | exact zaab _ _ _ | exact zaaf _ | exact zaad _ | exact zaaa _) only [Nat.reduceAdd, Nat.reduceLT, RZ, Int.reduceBEq, Int.reduceBNe, Int.reduceLT, Int.reduceLE, Int.reduceEq, Int.reduceNe, Int.reduceAdd, Int.reduceSub, Int.reduceMul, Int.reduceNeg, g, w1, w2]
theorem s_rAt (x : RdAt h n p S D A) : Run (fun _ => False) n (zaac Tryz.prog gt lf (d + 1) 24 #[.pointer (some ⟨p, 0, none⟩)]) h n fun v h' n' => v = .int .i64 (A : Int) ∧ h' = h ∧ n' = n := by
  have g := x.get
  have hp := x.lt
  unfold rdrB at g
  rw [zbjo]
  refine Run.inside_ ?_
  unfold zayu
  try simp (disch := first | omega | assumption | exact zaae _ _ | exact zaab _ _ _ | exact zaaf _ | exact zaad _ | exact zaaa _) only [Nat.reduceAdd, Nat.reduceLT, RZ, Int.reduceBEq, Int.reduceBNe, Int.reduceLT, Int.reduceLE, Int.reduceEq, Int.reduceNe, Int.reduceAdd, Int.reduceSub, Int.reduceMul, Int.reduceNeg, g]
theorem zcgy (x : RdAt h n p S D A) : Run (fun _ => False) n (zaac Tryz.prog gt lf (d + 2) 144 #[.pointer (some ⟨p, 0, none⟩)]) h n fun v h' n' => v = .int .i64 (((restB S D A).length : Nat) : Int) ∧ h' = h ∧ n' = n := by
  have g := x.get
  have hp := x.lt
  have hm := x.sm
  have hl := x.len
  have hi := x.hi
  unfold rdrB at g
  rw [zbgj]
  refine Run.inside_ ?_
  unfold zauh
  have w1 : IntKind.i64.wrap (((8 * (D + S.length) : Nat) : Int) - (A : Int)) = (((restB S D A).length : Nat) : Int) := by rw [zaav (by omega) (by omega)]; omega
  have c2 : ∀ a b c : Value, [a, b, c][2]? = some c := fun _ _ _ => rfl
  try simp (disch := first | omega | assumption | exact zaae _ _ | exact zaab _ _ _ | exact zaaf _ | exact zaad _ | exact zaaa _) only [Nat.reduceAdd, Nat.reduceLT, RZ, Int.reduceBEq, Int.reduceBNe, Int.reduceLT, Int.reduceLE, Int.reduceEq, Int.reduceNe, Int.reduceAdd, Int.reduceSub, Int.reduceMul, Int.reduceNeg]
  refine zbkj okd (zcec x) (Nat.le_refl _) fun T1 t1 => ?_
  try simp (disch := first | omega | assumption | exact zaae _ _ | exact zaab _ _ _ | exact zaaf _ | exact zaad _ | exact zaaa _) only [Nat.reduceAdd, Nat.reduceLT, RZ, Int.reduceBEq, Int.reduceBNe, Int.reduceLT, Int.reduceLE, Int.reduceEq, Int.reduceNe, Int.reduceAdd, Int.reduceSub, Int.reduceMul, Int.reduceNeg]
  refine zbil ag3 _ _ _ g hp (c2 _ _ _) fun T2 t2 => ?_
  try simp (disch := first | omega | assumption | exact zaae _ _ | exact zaab _ _ _ | exact zaaf _ | exact zaad _ | exact zaaa _) only [Nat.reduceAdd, Nat.reduceLT, RZ, Int.reduceBEq, Int.reduceBNe, Int.reduceLT, Int.reduceLE, Int.reduceEq, Int.reduceNe, Int.reduceAdd, Int.reduceSub, Int.reduceMul, Int.reduceNeg, w1, t1.clash t2, Bool.not_false, Bool.and_self, zaew]
theorem zbol (x : RdAt h n p S D A) (B : Nat) (h1 : 8 * D ≤ B) (h2 : B ≤ 8 * (D + S.length)) : Run (fun c => c = p) n (zaac Tryz.prog gt lf (d + 2) 21 #[.pointer (some ⟨p, 0, none⟩), .int .i64 (B : Int)]) h n fun v h' n' => v = .int .i64 0 ∧ n' = n ∧ RdAt h' n p S D B := by
  have g := x.get
  have hp := x.lt
  have hm := x.sm
  unfold rdrB at g
  rw [zbgk]
  refine Run.inside_ ?_
  unfold zaur
  have w1 : IntKind.i64.wrap (8 * (D : Int)) = ((8 * D : Nat) : Int) := by rw [zaav (by omega) (by omega)]; omega
  have e1 : ¬ ((B : Int) < ((8 * D : Nat) : Int)) := by omega
  have e2 : ¬ (((8 * (D + S.length) : Nat) : Int) < (B : Int)) := by omega
  try simp (disch := first | omega | assumption | exact zaae _ _ | exact zaab _ _ _ | exact zaaf _ | exact zaad _ | exact zaaa _) only [Nat.reduceAdd, Nat.reduceLT, RZ, Int.reduceBEq, Int.reduceBNe, Int.reduceLT, Int.reduceLE, Int.reduceEq, Int.reduceNe, Int.reduceAdd, Int.reduceSub, Int.reduceMul, Int.reduceNeg, g, w1, e1]
  refine zaaw (zcec x) (Nat.le_refl _) (fun _ _ h => h.elim) ?_
  try simp (disch := first | omega | assumption | exact zaae _ _ | exact zaab _ _ _ | exact zaaf _ | exact zaad _ | exact zaaa _) only [Nat.reduceAdd, Nat.reduceLT, RZ, Int.reduceBEq, Int.reduceBNe, Int.reduceLT, Int.reduceLE, Int.reduceEq, Int.reduceNe, Int.reduceAdd, Int.reduceSub, Int.reduceMul, Int.reduceNeg, e2, g]
  exact ⟨zaaz _ _ _, hp, h1, h2, hm⟩
theorem zcgt (x : RdAt h n p S D A) (T : List UInt8) (hs : D + (S ++ T).length ≤ 1000000000000) : Run (fun c => c = p) n (zaac Tryz.prog gt lf (d + 1) 33 #[.pointer (some ⟨p, 0, none⟩), .string ⟨T.toArray⟩]) h n fun v h' n' => v = .int .i64 0 ∧ n' = n ∧ RdAt h' n p (S ++ T) D A := by
  have g := x.get
  have hp := x.lt
  have hm := x.sm
  unfold rdrB at g
  rw [zbgd]
  refine Run.inside_ ?_
  unfold zaug
  have hst : S.length + T.length ≤ 9223372036854775807 := by simp at hs; omega
  try simp (disch := first | omega | assumption | exact zaae _ _ | exact zaab _ _ _ | exact zaaf _ | exact zaad _ | exact zaaa _) only [Nat.reduceAdd, Nat.reduceLT, RZ, Int.reduceBEq, Int.reduceBNe, Int.reduceLT, Int.reduceLE, Int.reduceEq, Int.reduceNe, Int.reduceAdd, Int.reduceSub, Int.reduceMul, Int.reduceNeg, g, hst]
  have := x.hi
  exact ⟨zaaz _ _ _, hp, x.lo, by simp; omega, hs⟩
theorem zcjo (x : RdAt h n p S D A) (hA : A < 8 * (D + S.length)) : ∃ b, (restB S D A)[0]? = some b ∧ Run (fun _ => False) n (zaac Tryz.prog gt lf (d + 1) 145 #[.pointer (some ⟨p, 0, none⟩), .int .i64 (A : Int)]) h n fun v h' n' => v = .int .u32 (bn b : Int) ∧ h' = h ∧ n' = n := by
  have g := x.get
  have hp := x.lt
  have hm := x.sm
  have lo := x.lo
  unfold rdrB at g
  have hq : A / 8 - D < S.length := by omega
  have hr : A % 8 < 8 := Nat.mod_lt _ (by decide)
  refine ⟨decide (S[A / 8 - D].toNat / 2 ^ (7 - A % 8) % 2 = 1), ?_, ?_⟩
  · have := zbsc S (A / 8 - D) (A % 8) hq hr
    unfold restB
    rw [List.getElem?_drop, Nat.add_zero, show A - 8 * D = 8 * (A / 8 - D) + A % 8 by omega]
    exact this
  rw [zbiw]
  refine Run.inside_ ?_
  unfold zavw
  have w1 : ((A : Int)).tdiv 8 = ((A / 8 : Nat) : Int) := rfl
  have w2 : IntKind.i64.wrap ((A / 8 : Nat) : Int) = ((A / 8 : Nat) : Int) := zaav (by omega) (by omega)
  have w3 : IntKind.i64.wrap (((A / 8 : Nat) : Int) - (D : Int)) = ((A / 8 - D : Nat) : Int) := by rw [zaav (by omega) (by omega)]; omega
  have w4 : ((A : Int)).tmod 8 = ((A % 8 : Nat) : Int) := rfl
  have w5 : IntKind.i64.wrap (7 - ((A % 8 : Nat) : Int)) = ((7 - A % 8 : Nat) : Int) := by rw [zaav (by omega) (by omega)]; omega
  have w6 : (0 : Int) ≤ ((7 - A % 8 : Nat) : Int) := by omega
  have sb : S.getD (A / 8 - D) 0 = S[A / 8 - D] := by rw [List.getD_eq_getElem?_getD, List.getElem?_eq_getElem hq]; rfl
  have s256 : S[A / 8 - D].toNat < 256 := S[A / 8 - D].toNat_lt
  have w7 := zcfh S[A / 8 - D].toNat (7 - A % 8) (IntKind.u8).bits (by simp [IntKind.bits]; omega)
  rw [Int.toNat_natCast] at w7
  have w8' := zciz (a := S[A / 8 - D].toNat / 2 ^ (7 - A % 8)) (Nat.lt_of_le_of_lt (Nat.div_le_self _ _) s256)
  have w9 : IntKind.u32.wrap ((S[A / 8 - D].toNat / 2 ^ (7 - A % 8) % 2 : Nat) : Int) = (bn (decide (S[A / 8 - D].toNat / 2 ^ (7 - A % 8) % 2 = 1)) : Int) := by rw [zcdp]; exact w32 (by omega)
  have i1 : (0 : Int) ≤ ((A / 8 - D : Nat) : Int) := by omega
  have i2 : ((A / 8 - D : Nat) : Int) < (S.length : Int) := by omega
  try simp (disch := first | omega | assumption | exact zaae _ _ | exact zaab _ _ _ | exact zaaf _ | exact zaad _ | exact zaaa _) only [Nat.reduceAdd, Nat.reduceLT, RZ, Int.reduceBEq, Int.reduceBNe, Int.reduceLT, Int.reduceLE, Int.reduceEq, Int.reduceNe, Int.reduceAdd, Int.reduceSub, Int.reduceMul, Int.reduceNeg, g, w1, w2, w3, w4, w5, w6, i1, i2, sb, w7, w8', w9]
theorem zbcs (x : RdAt h n p S D A) (k : Nat) (hk : k ≤ 32) (hlf : 40 ≤ lf) : Run (fun c => c = p) n (zaac Tryz.prog gt lf (d + 3) 136 #[.pointer (some ⟨p, 0, none⟩), .int .i64 (k : Int)]) h n fun v h' n' => n' = n ∧
    (((restB S D A).length < k ∧ v = .tuple #[.int .u32 0, .int .i64 3] ∧ h' = h) ∨ (k ≤ (restB S D A).length ∧ v = .tuple #[.int .u32 (num ((restB S D A).take k) 0 : Int), .int .i64 0] ∧ RdAt h' n p S D (A + k))) := by
  have g := x.get
  have hp := x.lt
  have hm := x.sm
  have hl := x.len
  have hi := x.hi
  have lo := x.lo
  rw [zbha]
  refine Run.inside_ ?_
  unfold zawl
  have e1 : ¬ ((k : Int) < 0) := by omega
  have e2 : ¬ ((32 : Int) < (k : Int)) := by omega
  try simp (disch := first | omega | assumption | exact zaae _ _ | exact zaab _ _ _ | exact zaaf _ | exact zaad _ | exact zaaa _) only [Nat.reduceAdd, Nat.reduceLT, RZ, Int.reduceBEq, Int.reduceBNe, Int.reduceLT, Int.reduceLE, Int.reduceEq, Int.reduceNe, Int.reduceAdd, Int.reduceSub, Int.reduceMul, Int.reduceNeg, e1, e2]
  refine zaaw (zcgy x) (Nat.le_refl _) (fun _ _ h => h.elim) ?_
  by_cases short : (restB S D A).length < k
  · have e3 : (((restB S D A).length : Nat) : Int) < (k : Int) := by omega
    try simp (disch := first | omega | assumption | exact zaae _ _ | exact zaab _ _ _ | exact zaaf _ | exact zaad _ | exact zaaa _) only [Nat.reduceAdd, Nat.reduceLT, RZ, Int.reduceBEq, Int.reduceBNe, Int.reduceLT, Int.reduceLE, Int.reduceEq, Int.reduceNe, Int.reduceAdd, Int.reduceSub, Int.reduceMul, Int.reduceNeg, e3]
    first | exact .inl short | exact .inl ⟨short, rfl, rfl⟩
  have e3 : ¬ (((restB S D A).length : Nat) : Int) < (k : Int) := by omega
  try simp (disch := first | omega | assumption | exact zaae _ _ | exact zaab _ _ _ | exact zaaf _ | exact zaad _ | exact zaaa _) only [Nat.reduceAdd, Nat.reduceLT, RZ, Int.reduceBEq, Int.reduceBNe, Int.reduceLT, Int.reduceLE, Int.reduceEq, Int.reduceNe, Int.reduceAdd, Int.reduceSub, Int.reduceMul, Int.reduceNeg, e3]
  refine zafq k (fun fu i (q : Nat) => zadv lf (d + 2) fu (zacm lf (d + 2)) (.pointer (some ⟨p, 0, none⟩)) (.int .i64 (k : Int)) (.int .u32 0) (.int .i64 0) (.int .u32 (q : Int)) (.bool false) (.bool false) (.bool false) (.int .i64 (k : Int)) (.int .i64 (i : Int)))
    (fun i q h' n' => n' = n ∧ q = num ((restB S D A).take i) 0 ∧ RdAt h' n p S D (A + i)) ?_ ?_ lf 0 0 h n (Nat.zero_le _) (by omega) ⟨rfl, rfl, x⟩
  · rintro fu q h' n' ⟨rfl, rfl, x'⟩
    rw [zaoz]
    try simp (disch := first | omega | assumption | exact zaae _ _ | exact zaab _ _ _ | exact zaaf _ | exact zaad _ | exact zaaa _) only [Nat.reduceAdd, Nat.reduceLT, RZ, Int.reduceBEq, Int.reduceBNe, Int.reduceLT, Int.reduceLE, Int.reduceEq, Int.reduceNe, Int.reduceAdd, Int.reduceSub, Int.reduceMul, Int.reduceNeg, Int.lt_irrefl]
    rw [zbdz]
    try simp (disch := first | omega | assumption | exact zaae _ _ | exact zaab _ _ _ | exact zaaf _ | exact zaad _ | exact zaaa _) only [Nat.reduceAdd, Nat.reduceLT, RZ, Int.reduceBEq, Int.reduceBNe, Int.reduceLT, Int.reduceLE, Int.reduceEq, Int.reduceNe, Int.reduceAdd, Int.reduceSub, Int.reduceMul, Int.reduceNeg]
    exact .inr ⟨by omega, x'⟩
  · rintro fu i q h' n' hi' ⟨rfl, rfl, x'⟩ next
    have e4 : (i : Int) < (k : Int) := by omega
    have g' := x'.get
    unfold rdrB at g'
    obtain ⟨b, hb, hrun⟩ := zcjo (lf := lf) (d := d + 1) x' (by omega)
    have ql := zagu ((restB S D A).take i)
    rw [List.length_take, Nat.min_eq_left (by omega)] at ql
    have q31 : 2 ^ i ≤ 2 ^ 31 := Nat.pow_le_pow_right (by decide) (by omega)
    have w1 := shl32 (a := num ((restB S D A).take i) 0) (by omega)
    have w2 := or32 (a := num ((restB S D A).take i) 0) b (by omega)
    rw [← zawr (k := i) lo] at hb
    have tk := zcgo hb
    have w3 : IntKind.i64.wrap (((A + i : Nat) : Int) + 1) = ((A + (i + 1) : Nat) : Int) := by rw [zaav (by omega) (by omega)]; omega
    have w4 : ((A + i : Nat) : Int) + 1 = ((A + (i + 1) : Nat) : Int) := by omega
    rw [zaoz]
    try simp (disch := first | omega | assumption | exact zaae _ _ | exact zaab _ _ _ | exact zaaf _ | exact zaad _ | exact zaaa _) only [Nat.reduceAdd, Nat.reduceLT, RZ, Int.reduceBEq, Int.reduceBNe, Int.reduceLT, Int.reduceLE, Int.reduceEq, Int.reduceNe, Int.reduceAdd, Int.reduceSub, Int.reduceMul, Int.reduceNeg, e4, w1, g']
    refine zaaw hrun (Nat.le_refl _) (fun _ _ h => h.elim) ?_
    try simp (disch := first | omega | assumption | exact zaae _ _ | exact zaab _ _ _ | exact zaaf _ | exact zaad _ | exact zaaa _) only [Nat.reduceAdd, Nat.reduceLT, RZ, Int.reduceBEq, Int.reduceBNe, Int.reduceLT, Int.reduceLE, Int.reduceEq, Int.reduceNe, Int.reduceAdd, Int.reduceSub, Int.reduceMul, Int.reduceNeg, w2, g', w3, w4, true_or, or_true]
    refine next (2 * num ((restB S D A).take i) 0 + bn b) _ _ ⟨rfl, by rw [tk, zbde], zaaz _ _ _, hp, by omega, by omega, hm⟩
end
end Go.Proofs.YtdagfcflbphoiaaGreatDoor
namespace Go.Proofs.YtdagfcflbphoiaaGreatDoor
set_option linter.unusedVariables false
set_option linter.unusedSimpArgs false
open Hu

section
variable {N : Nat} {X R : Nat → List Nat} {A B : Nat → Nat}
end
end Go.Proofs.YtdagfcflbphoiaaGreatDoor
namespace Go.Proofs.YtdagfcflbphoiaaGreatDoor
set_option linter.unusedVariables false
set_option linter.unusedSimpArgs false
open Hu

section
variable {N : Nat} {w : Nat → Int} {I A B : Nat → Nat} {X R : Nat → List Nat}
end
end Go.Proofs.YtdagfcflbphoiaaGreatDoor
namespace Go.Proofs.YtdagfcflbphoiaaGreatDoor
set_option linter.unusedVariables false
set_option linter.unusedSimpArgs false
open Hu

section
variable {ws : List Int} {D : List Nat} {w : Nat → Int} {I A B : Nat → Nat} {X R : Nat → List Nat} {dep : Nat → Nat}
end

def shr1 (x : Int) : Int := 2 ^ (20 - x).toNat
def shrL (xs : List Int) : Int := sumI (xs.map shr1)
end Go.Proofs.YtdagfcflbphoiaaGreatDoor
namespace Go.Proofs.YtdagfcflbphoiaaGreatDoor
set_option linter.unusedVariables false
set_option linter.unusedSimpArgs false
open Go.RowKit Ev Hu

def part (L : List Int) (i : Nat) : List Int := L.take i ++ List.replicate (L.length - i) 0
theorem zbmu {x : Int} (h0 : 0 ≤ x) (h1 : x ≤ 20) : 1 ≤ shr1 x ∧ shr1 x ≤ 1048576 := by
  unfold shr1
  have h1 : (2 : Nat) ^ (20 - x).toNat ≤ 2 ^ 20 := Nat.pow_le_pow_right (by omega) (by omega)
  have h2 : 1 ≤ (2 : Nat) ^ (20 - x).toNat := Nat.one_le_two_pow
  have e : ((2 : Int) ^ (20 - x).toNat) = (((2 : Nat) ^ (20 - x).toNat : Nat) : Int) := by simp
  rw [e]
  omega
theorem shB (lf d n : Nat) (h : H) (x0 x2 x3 x5 x7 x8 x9 x10 : Value) (T : Nat) (hT : T ≤ 20) {W : Nat → Prop} {n0 : Nat} {R : Value → H → Nat → Prop} (k : Ex → Fr → M Value)
    (hK : ∀ y16, Run W n0 (k (Ex.exit 2) [(0, x0), (2, x2), (3, x3), (5, x5), (6, .int .i64 (2 ^ T)), (7, x7), (8, x8), (9, x9), (10, x10), (14, .int .i64 (T : Nat)), (15, .int .i64 (T : Nat)), (16, y16)]) h n R) :
    ∀ (m j fu : Nat), T - j = m → m < fu → j ≤ T → Run W n0 (zagh lf d fu k x0 x2 x3 x5 (.int .i64 (2 ^ j)) x7 x8 x9 x10 (.int .i64 (T : Nat)) (.int .i64 (j : Nat))) h n R := by
  intro m
  induction m with
  | zero =>
    intro j fu hm hfu hj
    obtain ⟨fu, rfl⟩ : ∃ f, fu = f + 1 := ⟨fu - 1, by omega⟩
    obtain rfl : j = T := by omega
    rw [zanz]
    try simp (disch := first | omega | assumption | exact zaae _ _ | exact zaab _ _ _ | exact zaaf _ | exact zaad _ | exact zaaa _) only [Nat.reduceAdd, Nat.reduceLT, RZ, Int.lt_irrefl]
    exact hK _
  | succ m ih =>
    intro j fu hm hfu hj
    obtain ⟨fu, rfl⟩ : ∃ f, fu = f + 1 := ⟨fu - 1, by omega⟩
    have e1 : ((j : Nat) : Int) < ((T : Nat) : Int) := by omega
    have w1 : ((j : Nat) : Int) + 1 = ((j + 1 : Nat) : Int) := by omega
    have hp : (2 : Nat) ^ (j + 1) ≤ 2 ^ 20 := Nat.pow_le_pow_right (by omega) (by omega)
    have hp1 : ((2 : Int) ^ (j + 1)) = (((2 : Nat) ^ (j + 1) : Nat) : Int) := by simp
    have hq : (0 : Int) ≤ 2 ^ (j + 1) ∧ (2 : Int) ^ (j + 1) ≤ 1048576 := by
      rw [hp1]
      generalize (2 : Nat) ^ (j + 1) = z at hp
      omega
    have w2 : IntKind.i64.wrap (2 * 2 ^ j) = 2 ^ (j + 1) := by
      rw [show (2 : Int) * 2 ^ j = 2 ^ (j + 1) by rw [Int.pow_succ, Int.mul_comm]]
      generalize (2 : Int) ^ (j + 1) = z at hq
      exact zaav (by omega) (by omega)
    rw [zanz]
    try simp (disch := first | omega | assumption | exact zaae _ _ | exact zaab _ _ _ | exact zaaf _ | exact zaad _ | exact zaaa _) only [Nat.reduceAdd, Nat.reduceLT, RZ, e1, w2]
    rw [w1]
    exact ih (j + 1) fu (by omega) (by omega) (by omega)
theorem shA (lf d n : Nat) (h : H) (v : Value) (xs : List Int) (hR : Row h n 3 .i64 v xs) (hl : xs.length ≤ 1000000) (hx : ∀ x ∈ xs, 0 ≤ x ∧ x ≤ 20) (hlf : 3000000 ≤ lf) (x2 : Value) {W : Nat → Prop} {n0 : Nat} :
    ∀ (m i fu : Nat) (a : Int), xs.length - i = m → m < fu → i ≤ xs.length → 0 ≤ a → a ≤ i * 1048576 →
      Run W n0 (zagg lf d fu (zajh lf d) v x2 (.int .i64 a) v (.int .i64 (xs.length : Nat)) (.int .i64 (i : Nat))) h n (fun v' h' n' => v' = .int .i64 (a + shrL (xs.drop i)) ∧ h' = h ∧ n' = n) := by
  intro m
  induction m with
  | zero =>
    intro i fu a hm hfu hi ha0 ha1
    obtain ⟨fu, rfl⟩ : ∃ f, fu = f + 1 := ⟨fu - 1, by omega⟩
    obtain rfl : i = xs.length := by omega
    rw [zaoc]
    try simp (disch := first | omega | assumption | exact zaae _ _ | exact zaab _ _ _ | exact zaaf _ | exact zaad _ | exact zaaa _) only [Nat.reduceAdd, Nat.reduceLT, RZ, Int.lt_irrefl]
    rw [zbbk, List.drop_length]
    try simp (disch := first | omega | assumption | exact zaae _ _ | exact zaab _ _ _ | exact zaaf _ | exact zaad _ | exact zaaa _) only [Nat.reduceAdd, Nat.reduceLT, RZ]
    simp [shrL, sumI]
  | succ m ih =>
    intro i fu a hm hfu hi ha0 ha1
    obtain ⟨fu, rfl⟩ : ∃ f, fu = f + 1 := ⟨fu - 1, by omega⟩
    obtain ⟨b, off, cap, o, cs, rfl, hg, hb, _, _, _, hat⟩ := hR.some (by omega)
    have e1 : ((i : Nat) : Int) < ((xs.length : Nat) : Int) := by omega
    have c1 := hat i (by omega)
    have w1 : ((i : Nat) : Int) + 1 = ((i + 1 : Nat) : Int) := by omega
    have hxi := hx (xs.getD i 0) (by rw [List.getD_eq_getElem?_getD, List.getElem?_eq_getElem (by omega)]; exact List.getElem_mem _)
    obtain ⟨b1, b2⟩ := zbmu hxi.1 hxi.2
    have w2 : IntKind.i64.wrap (20 - xs.getD i 0) = (((20 - xs.getD i 0).toNat : Nat) : Int) := by rw [zaav (by omega) (by omega)]; omega
    rw [zaoc, zauv 0 (show i < xs.length by omega)]
    try simp (disch := first | omega | assumption | exact zaae _ _ | exact zaab _ _ _ | exact zaaf _ | exact zaad _ | exact zaaa _) only [Nat.reduceAdd, Nat.reduceLT, RZ, e1, hg, c1, w2]
    have e2 : (.int .i64 1 : Value) = .int .i64 (2 ^ 0) := rfl
    rw [e2]
    refine shB lf d n h _ _ _ _ _ _ _ _ (20 - xs.getD i 0).toNat (by omega) _ (fun y16 => ?_) (20 - xs.getD i 0).toNat 0 lf (by omega) (by omega) (by omega)
    rw [zbbu]
    have w3 : IntKind.i64.wrap (a + 2 ^ (20 - xs.getD i 0).toNat) = a + shr1 (xs.getD i 0) := by
      show IntKind.i64.wrap (a + shr1 (xs.getD i 0)) = _
      exact zaav (by omega) (by omega)
    try simp (disch := first | omega | assumption | exact zaae _ _ | exact zaab _ _ _ | exact zaaf _ | exact zaad _ | exact zaaa _) only [Nat.reduceAdd, Nat.reduceLT, RZ, w3]
    rw [w1]
    have := ih (i + 1) fu (a + shr1 (xs.getD i 0)) (by omega) (by omega) (by omega) (by omega) (by omega)
    refine this.mono ?_
    rintro v' h' n' _ ⟨rfl, rfl, rfl⟩
    refine ⟨?_, rfl, rfl⟩
    simp only [shrL, List.map_cons, sumI]
    congr 1
    omega
theorem zcga (lf d n : Nat) (h : H) (v : Value) (xs : List Int) (hR : Row h n 3 .i64 v xs) (hl : xs.length ≤ 1000000) (hx : ∀ x ∈ xs, 0 ≤ x ∧ x ≤ 20) (hlf : 3000000 ≤ lf) :
    Run (fun _ => False) n (zaac Tryz.prog gt lf (d + 1) 119 #[v]) h n fun v' h' n' => v' = .int .i64 (shrL xs) ∧ h' = h ∧ n' = n := by
  rw [zbfs]
  refine Run.inside_ ?_
  unfold zauk
  have hR0 := hR
  obtain ⟨a, c, rfl⟩ := hR.len
  try simp (disch := first | omega | assumption | exact zaae _ _ | exact zaab _ _ _ | exact zaaf _ | exact zaad _ | exact zaaa _) only [Nat.reduceAdd, Nat.reduceLT, RZ]
  have := shA lf d n h _ xs hR0 hl hx hlf (.int .i64 0) (W := fun _ => False) (n0 := n) xs.length 0 lf 0 (by omega) (by omega) (by omega) (by omega) (by omega)
  simp only [List.drop_zero, Int.zero_add] at this
  exact this

end Go.Proofs.YtdagfcflbphoiaaGreatDoor
namespace Go.Proofs.YtdagfcflbphoiaaGreatDoor
set_option linter.unusedVariables false
set_option linter.unusedSimpArgs false
open Hu

end Go.Proofs.YtdagfcflbphoiaaGreatDoor
namespace Go.Proofs.YtdagfcflbphoiaaGreatDoor
set_option linter.unusedVariables false
set_option linter.unusedSimpArgs false
open Go.RowKit Ev Hu

theorem ext0 (a b : Value) : evExtract (.tuple #[a, b]) 0 = some a := rfl
theorem ext1 (a b : Value) : evExtract (.tuple #[a, b]) 1 = some b := rfl
end Go.Proofs.YtdagfcflbphoiaaGreatDoor
namespace Go.Proofs.YtdagfcflbphoiaaGreatDoor
set_option linter.unusedVariables false
set_option linter.unusedSimpArgs false
open Go.RowKit Ev Cn

def iN (ln : List Nat) : List Int := ln.map fun (x : Nat) => (x : Int)
theorem zadn (ln : List Nat) : (iN ln).length = ln.length := by unfold iN; simp
theorem iN_at {ln : List Nat} {i : Nat} : (iN ln).getD i 0 = (ln.getD i 0 : Int) := by
  unfold iN
  rw [List.getD_eq_getElem?_getD, List.getElem?_map, List.getD_eq_getElem?_getD]
  cases ln[i]? <;> rfl
theorem zbws (x : Nat) (ln : List Nat) : ∀ m, krT (x :: ln) m = krT ln m + (if x < m then 2 ^ (20 - x) else 0)
  | 0 => by simp [krT]
  | m + 1 => by
    show krT (x :: ln) m + cn (x :: ln) m * 2 ^ (20 - m) = krT ln m + cn ln m * 2 ^ (20 - m) + _
    rw [zbws x ln m]
    have e : cn (x :: ln) m = cn ln m + (if x = m then 1 else 0) := by unfold cn; rw [List.countP_cons]; simp
    rw [e, Nat.add_mul]
    by_cases h : x = m
    · subst h
      rw [if_pos rfl, if_neg (Nat.lt_irrefl x), if_pos (Nat.lt_succ_self x)]
      omega
    · rw [if_neg h]
      by_cases h2 : x < m
      · rw [if_pos h2, if_pos (by omega)]; omega
      · rw [if_neg h2, if_neg (by omega)]; omega
theorem zcct : ∀ {ln : List Nat}, (∀ x ∈ ln, x ≤ 20) → shrL (iN ln) = (krT ln 21 : Int)
  | [], _ => by
    have : ∀ m, krT [] m = 0 := by
      intro m
      induction m with
      | zero => rfl
      | succ m ih => show krT [] m + cn [] m * _ = 0; rw [ih]; simp [cn]
    rw [this]
    rfl
  | x :: ln, h => by
    have ih := zcct (ln := ln) fun y hy => h y (List.mem_cons_of_mem _ hy)
    have hx := h x List.mem_cons_self
    rw [zbws, if_pos (show x < 21 by omega)]
    show shr1 (x : Int) + shrL (iN ln) = _
    rw [ih]
    unfold shr1
    rw [show (20 - (x : Int)).toNat = 20 - x by omega]
    have : ((2 : Int) ^ (20 - x)) = ((2 ^ (20 - x) : Nat) : Int) := by push_cast; rfl
    rw [this]
    omega
theorem wh_of {ln : List Nat} (h : ∀ x ∈ ln, 1 ≤ x ∧ x ≤ 20) (hs : shrL (iN ln) = 1048576) : Wh ln := ⟨h, by
  have := zcct (ln := ln) fun x hx => (h x hx).2
  omega⟩
section
variable (lf d n : Nat) (h : H) (hlf : 3000000 ≤ lf)
include hlf
theorem zcho (v : Value) (xs : List Int) (hR : Row h n 3 .i64 v xs) (hl : xs.length ≤ 258) (hm : allIn 0 20 xs = true) :
    Run (fun _ => False) n (zaac Tryz.prog gt lf (d + 5) 108 #[v]) h n fun v' h' n' => v' = .tuple #[.int .i64 (shrL xs), .int .i64 0] := by
  have hm' := zapb.1 hm
  rw [zbre]
  refine Run.inside_ ?_
  unfold zbia
  have hR0 := hR
  obtain ⟨a, c, rfl⟩ := hR.len
  have e1 : ¬ ((258 : Int) < ((xs.length : Nat) : Int)) := by omega
  try simp (disch := first | omega | assumption | exact zaae _ _ | exact zaab _ _ _ | exact zaaf _ | exact zaad _ | exact zaaa _) only [Nat.reduceAdd, Nat.reduceLT, RZ, e1]
  refine zbeu (zcdz lf d n h _ xs hR0 0 20 (by omega) hlf) (Nat.le_refl _) fun h1 n1 hn1 fr1 => ?_
  rw [hm]
  have hR1 := hR0.keep hn1 fr1
  try simp (disch := first | omega | assumption | exact zaae _ _ | exact zaab _ _ _ | exact zaaf _ | exact zaad _ | exact zaaa _) only [Nat.reduceAdd, Nat.reduceLT, RZ, Bool.not_true]
  refine zafq xs.length (fun fu i (q : Int) => zags lf (d + 4) fu (zaev lf (d + 4)) (.slice a xs.length c) (.int .i64 0) (.int .i64 0) (.int .i64 q) (.bool false) (.slice a xs.length c) (.int .i64 (xs.length : Nat)) (.int .i64 (i : Nat))) (fun i q h' n' => (h' = h1 ∧ n' = n1) ∧ 0 ≤ q ∧ q ≤ i * 1048576 ∧ q + shrL (xs.drop i) = shrL xs) ?_ ?_ lf 0 0 h1 n1 (Nat.zero_le _) (by omega) ⟨⟨rfl, rfl⟩, by omega, by omega, by rw [List.drop_zero]; omega⟩
  · rintro fu q h' n' ⟨⟨rfl, rfl⟩, q0, q1, q2⟩
    rw [zaxo]
    try simp (disch := first | omega | assumption | exact zaae _ _ | exact zaab _ _ _ | exact zaaf _ | exact zaad _ | exact zaaa _) only [Nat.reduceAdd, Nat.reduceLT, RZ, Int.lt_irrefl]
    rw [zbnr]
    try simp (disch := first | omega | assumption | exact zaae _ _ | exact zaab _ _ _ | exact zaaf _ | exact zaad _ | exact zaaa _) only [Nat.reduceAdd, Nat.reduceLT, RZ]
    rw [List.drop_length] at q2
    have : shrL [] = 0 := rfl
    rw [← q2, this, Int.add_zero]
  · rintro fu i q h' n' hi ⟨⟨rfl, rfl⟩, q0, q1, q2⟩ next
    obtain ⟨b, off, cap, o, cs, hv, hg, hb, _, _, _, hat⟩ := hR1.some (by omega)
    cases hv
    have e2 : ((i : Nat) : Int) < ((xs.length : Nat) : Int) := by omega
    have c1 := hat i hi
    have hxi := hm' (xs.getD i 0) (by rw [List.getD_eq_getElem?_getD, List.getElem?_eq_getElem hi]; exact List.getElem_mem _)
    obtain ⟨b1, b2⟩ := zbmu hxi.1 hxi.2
    have w2 : IntKind.i64.wrap (20 - xs.getD i 0) = (((20 - xs.getD i 0).toNat : Nat) : Int) := by rw [zaav (by omega) (by omega)]; omega
    have w3 : IntKind.i64.wrap (1 * 2 ^ (min (((20 - xs.getD i 0).toNat : Nat) : Int).toNat IntKind.i64.bits)) = shr1 (xs.getD i 0) := by
      rw [Int.toNat_natCast, Nat.min_eq_left (Nat.le_trans (show (20 - xs.getD i 0).toNat ≤ 20 by omega) (by decide)), Int.one_mul]
      exact zaav (by unfold shr1 at b1; omega) (by unfold shr1 at b2; omega)
    have w3' : IntKind.i64.wrap (1 * 2 ^ (min (20 - xs.getD i 0).toNat IntKind.i64.bits)) = shr1 (xs.getD i 0) := by
      rw [Int.toNat_natCast] at w3
      exact w3
    have w4 : IntKind.i64.wrap (q + shr1 (xs.getD i 0)) = q + shr1 (xs.getD i 0) := zaav (by omega) (by omega)
    have w5 : (0 : Int) ≤ (((20 - xs.getD i 0).toNat : Nat) : Int) := by omega
    have dn : shrL (xs.drop i) = shr1 (xs.getD i 0) + shrL (xs.drop (i + 1)) := by rw [zauv 0 hi]; rfl
    rw [zaxo]
    try simp (disch := first | omega | assumption | exact zaae _ _ | exact zaab _ _ _ | exact zaaf _ | exact zaad _ | exact zaaa _) only [Nat.reduceAdd, Nat.reduceLT, RZ, e2, hg, c1, w2, w5, w3, w3', w4]
    refine next _ _ _ ⟨⟨rfl, rfl⟩, by omega, by omega, by omega⟩
theorem zchv (v : Value) (xs : List Int) (z : Int) (hR : Row h n 3 .i64 v xs) (hl : xs.length ≤ 1000000) :
    Run (fun _ => False) n (zaac Tryz.prog gt lf (d + 1) 64 #[v, .int .i64 z]) h n fun v' h' n' => (∃ r : Int, v' = .int .i64 r ∧ ((r = -1 ∧ ∀ x ∈ xs, x ≠ z) ∨ ∃ i, i < xs.length ∧ r = (i : Int) ∧ xs.getD i 0 = z ∧ ∀ j, j < i → xs.getD j 0 ≠ z)) ∧ h' = h ∧ n' = n := by
  rw [zaze]
  refine Run.inside_ ?_
  unfold zaod
  have hR0 := hR
  obtain ⟨a, c, rfl⟩ := hR.len
  try simp (disch := first | omega | assumption | exact zaae _ _ | exact zaab _ _ _ | exact zaaf _ | exact zaad _ | exact zaaa _) only [Nat.reduceAdd, Nat.reduceLT, RZ]
  refine zafq xs.length (fun fu i (_ : Unit) => zacb lf d fu (zabf lf d) (.slice a xs.length c) (.int .i64 z) (.int .i64 0) (.int .i64 (xs.length : Nat)) (.int .i64 (i : Nat))) (fun i _ h' n' => (h' = h ∧ n' = n) ∧ ∀ j, j < i → xs.getD j 0 ≠ z) ?_ ?_ lf 0 () h n (Nat.zero_le _) (by omega) ⟨⟨rfl, rfl⟩, fun j hj => absurd hj (Nat.not_lt_zero j)⟩
  · rintro fu _ h' n' ⟨⟨rfl, rfl⟩, ha⟩
    rw [zajx]
    try simp (disch := first | omega | assumption | exact zaae _ _ | exact zaab _ _ _ | exact zaaf _ | exact zaad _ | exact zaaa _) only [Nat.reduceAdd, Nat.reduceLT, RZ, Int.lt_irrefl]
    rw [zawu]
    try simp (disch := first | omega | assumption | exact zaae _ _ | exact zaab _ _ _ | exact zaaf _ | exact zaad _ | exact zaaa _) only [Nat.reduceAdd, Nat.reduceLT, RZ]
    refine ⟨-1, rfl, .inl ⟨rfl, fun x hx => ?_⟩⟩
    obtain ⟨j, hj, rfl⟩ := List.mem_iff_getElem.1 hx
    have := ha j hj
    rw [List.getD_eq_getElem?_getD, List.getElem?_eq_getElem hj] at this
    exact this
  · rintro fu i _ h' n' hi ⟨⟨rfl, rfl⟩, ha⟩ next
    obtain ⟨b, off, cap, o, cs, hv, hg, hb, _, _, _, hat⟩ := hR0.some (by omega)
    cases hv
    have e2 : ((i : Nat) : Int) < ((xs.length : Nat) : Int) := by omega
    have c1 := hat i hi
    rw [zajx]
    by_cases q : z = xs.getD i 0
    · have e3 : (z == xs.getD i 0) = true := by rw [← q]; simp
      try simp (disch := first | omega | assumption | exact zaae _ _ | exact zaab _ _ _ | exact zaaf _ | exact zaad _ | exact zaaa _) only [Nat.reduceAdd, Nat.reduceLT, RZ, e2, hg, c1, e3]
      rw [zawm]
      try simp (disch := first | omega | assumption | exact zaae _ _ | exact zaab _ _ _ | exact zaaf _ | exact zaad _ | exact zaaa _) only [Nat.reduceAdd, Nat.reduceLT, RZ]
      exact ⟨_, rfl, .inr ⟨i, hi, rfl, q.symm, ha⟩⟩
    · have e3 : (z == xs.getD i 0) = false := beq_eq_false_iff_ne.2 q
      try simp (disch := first | omega | assumption | exact zaae _ _ | exact zaab _ _ _ | exact zaaf _ | exact zaad _ | exact zaaa _) only [Nat.reduceAdd, Nat.reduceLT, RZ, e2, hg, c1, e3]
      refine next () _ _ ⟨⟨rfl, rfl⟩, fun j hj => ?_⟩
      by_cases e : j = i
      · subst e; exact fun r => q r.symm
      · exact ha j (by omega)
set_option maxRecDepth 8000 in
theorem zbxe (v : Value) (xs : List Int) (hR : Row h n 3 .i64 v xs) (hl : xs.length ≤ 258) (hm : allIn 1 20 xs = true) :
    Run (fun _ => False) n (zaac Tryz.prog gt lf (d + 6) 71 #[v]) h n fun v' h' n' => v' = .bool (decide (shrL xs = 1048576)) := by
  have hm' := zapb.1 hm
  rw [zbod]
  refine Run.inside_ ?_
  unfold zbfl
  refine zaay okd (zcho lf d n h hlf v xs hR hl (zapb.2 fun x hx => by have := hm' x hx; omega)) (Nat.le_refl _) (fun _ _ h => h.elim) fun v1 h1 n1 hn1 fr1 hq => ?_
  subst hq
  have z0 : ((0 : Int) == 0) = true := rfl
  by_cases q : shrL xs = 1048576
  · have e : (shrL xs == 1048576) = true := by rw [q]; exact beq_self_eq_true _
    rw [decide_eq_true q]
    have s2 : Run (fun _ => False) n1 (zaac Tryz.prog gt lf (d + 5) 109 #[v, .int .i64 0]) h1 n1 fun v' h' n' => v' = .bool false := by
      rw [zavq]
      refine Run.inside_ ?_
      unfold zakx
      refine zaay okd (zchv lf (d + 3) n1 h1 hlf v xs 0 (hR.keep hn1 fun b hb => fr1 b hb id) (by omega)) (Nat.le_refl _) (fun _ _ h => h.elim) fun v2 h2 n2 hn2 fr2 hq2 => ?_
      obtain ⟨⟨r, rfl, hr⟩, _, _⟩ := hq2
      rcases hr with ⟨rfl, _⟩ | ⟨i, hi, _, hz, _⟩
      · try simp (disch := first | omega | assumption | exact zaae _ _ | exact zaab _ _ _ | exact zaaf _ | exact zaad _ | exact zaaa _) only [Nat.reduceAdd, Nat.reduceLT, RZ, Int.reduceBEq, Int.reduceBNe, Int.reduceLT, Int.reduceLE, Int.reduceEq, Int.reduceNe, Int.reduceAdd, Int.reduceSub, Int.reduceMul, Int.reduceNeg]
        all_goals (first | rfl | exact ⟨rfl, rfl, rfl⟩ | exact ⟨rfl, rfl⟩)
      · have := hm' (xs.getD i 0) (by rw [List.getD_eq_getElem?_getD, List.getElem?_eq_getElem hi]; exact List.getElem_mem _)
        omega
    try simp (disch := first | omega | assumption | exact zaae _ _ | exact zaab _ _ _ | exact zaaf _ | exact zaad _ | exact zaaa _) only [Nat.reduceAdd, Nat.reduceLT, RZ, ext0, ext1, z0, e]
    refine zbeu s2 (by omega) fun h3 n3 hn3 fr3 => ?_
    try simp (disch := first | omega | assumption | exact zaae _ _ | exact zaab _ _ _ | exact zaaf _ | exact zaad _ | exact zaaa _) only [Nat.reduceAdd, Nat.reduceLT, RZ, Bool.not_false]
  · have e : (shrL xs == 1048576) = false := beq_eq_false_iff_ne.2 q
    rw [decide_eq_false q]
    try simp (disch := first | omega | assumption | exact zaae _ _ | exact zaab _ _ _ | exact zaaf _ | exact zaad _ | exact zaaa _) only [Nat.reduceAdd, Nat.reduceLT, RZ, ext0, ext1, z0, e]
end
end Go.Proofs.YtdagfcflbphoiaaGreatDoor
