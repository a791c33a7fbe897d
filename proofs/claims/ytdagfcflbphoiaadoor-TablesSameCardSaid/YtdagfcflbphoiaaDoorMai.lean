/- From the quick run of a closed test to its call in every world. -/
import Derived.Test.YtdagfcflbphoiaaDoorMad
import Derived.Test.YtdagfcflbphoiaaDoorRows
import Derived.Test.YtdagfcflbphoiaaDoorMah
import Derived.Test.YtdagfcflbphoiaaDoorMac
import Derived.MakeChecks
import Derived.OpenShut
import Derived.ChangeArms
import Derived.Test.YtdagfcflbphoiaaDoorMaf
import Derived.Test.YtdagfcflbphoiaaDoorMae
namespace Go.Proofs.YtdagfcflbphoiaaDoor.Ev
set_option linter.unusedVariables false
set_option linter.unusedSimpArgs false
open Go Go.RowKit
theorem closedN {P : Program} {kn : List FuncId} (hnm : okNames P = true) (hok : okProg P kn = true) (hmix : P.follows .mixedOrders = true) (hkn : Known P kn) (hd : okDsts P = true) {gt : Nat → List Nat} {lf d : Nat} {f : FuncId} {w : World} {m : Mp} {h : H} (x : Laid P w m h P.globals.size) (hr : yieldsTrue (evCallN kn P gt lf d f #[] h P.globals.size) = true) :
    Calls P f #[] w fun e w' => e = .returned (.bool true) ∧ Below w.heap.size w w' := by
  cases ho : evCallN kn P gt lf d f #[] h P.globals.size with
  | none => rw [ho] at hr; cases hr
  | some o =>
    obtain ⟨v, h1, n1, L⟩ := o
    rw [ho] at hr
    obtain ⟨f0, hf0⟩ := callN_ok hd d f #[] h _ v h1 n1 L ho
    refine closed_laid hnm hok hmix hkn x (fuel := f0) ?_
    have e : evCall P kn f0 f #[] h P.globals.size = some ⟨v, h1, n1, L⟩ := hf0 f0 (Nat.le_refl _)
    rw [e]
    exact hr

end Go.Proofs.YtdagfcflbphoiaaDoor.Ev
/- The closed test of layer 12, run quickly. -/
namespace Go.Proofs.YtdagfcflbphoiaaDoor
set_option linter.unusedVariables false
set_option linter.unusedSimpArgs false
open Go.RowKit Ev

theorem ev_names : Ev.okNames Tryd.prog = true := by kernel_rfl
theorem ev_prog0 : Ev.okProg Tryd.prog Fa.kn0 = true := by kernel_rfl
theorem ev_progK : Ev.okProg Tryd.prog Ev.KN = true := by kernel_rfl
theorem ev_mix : Tryd.prog.follows .mixedOrders = true := by kernel_rfl
theorem okd0 : okDsts Tryd.prog = true := by kernel_rfl
theorem nat_known : Ev.NatKnown Tryd.prog := by
  intro f k hf
  simp [natOf, NV, natIn] at hf
theorem bad_known : Ev.Known Tryd.prog Fa.kn0 := ⟨fun f hf => by simp [Fa.kn0] at hf, nat_known⟩
/-- what the laid variable holds -/
def gV : List Value := [.int .i64 200, .int .i64 600, .int .i64 1200, .int .i64 2400]
def hG : H := H.set .nil 0 (some ⟨3, false, gV⟩)
theorem laid_hG {w : World} (x : Ev.GlobAt w) : ∃ m, Laid Tryd.prog w m hG Tryd.prog.globals.size := by
  refine laid_KG x (by decide +kernel) (sz := 1) (by kernel_rfl) (by decide) (fun k v hk => ?_) (by decide)
  match k, hk with
  | 0, hk => cases hk; simp [KG]
  | 1, hk => cases hk; simp [KG]
  | 2, hk => cases hk; simp [KG]
  | 3, hk => cases hk; simp [KG]
set_option maxRecDepth 100000 in
theorem q_three : Ev.yieldsTrue ((inside (Fa.F_balerlaw12_three 100000 1000 (Fa.fast 100000 1000))) hG Tryd.prog.globals.size) = true := by kernel_rfl
theorem l_three (w : World) (x : Ev.GlobAt w) : Calls Tryd.prog 8 #[] w fun e w' => e = .returned (.bool true) ∧ Below w.heap.size w w' := by
  obtain ⟨m, x⟩ := laid_hG x
  refine Ev.closedN (kn := Fa.kn0) ev_names ev_prog0 ev_mix bad_known okd0 x (gt := Fa.gtA) (lf := 100000) (d := 1001) ?_
  have := q_three
  rw [Fa.fast_eq, Fa.fsh_balerlaw12_three] at this
  exact this
theorem known : Ev.Known Tryd.prog Ev.KN := ⟨fun f hf hn hp w x => by
  have : f = 8 := by simpa [Ev.KN] using hf
  subst this
  exact l_three w x, nat_known⟩

end Go.Proofs.YtdagfcflbphoiaaDoor
/- The laid variable of a door seat: what it holds. -/
namespace Go.Proofs.YtdagfcflbphoiaaDoor
set_option linter.unusedVariables false
set_option linter.unusedSimpArgs false
open Go Go.RowKit Go.WideShapes Go.ChangeShapes Go.MakeChecks

theorem gn_b : Tryd.prog.globalNamed "baler/tables.bounds" = some 0 := by kernel_rfl
theorem gt_b : (Tryd.prog.globals[0]?).map (·.type) = some 58 := by kernel_rfl
theorem co_i : Tryd.prog.cellsOf 3 = 1 := by kernel_rfl
theorem co_b : Tryd.prog.cellsOf 58 = 4 := by kernel_rfl
set_option maxRecDepth 10000 in
theorem glob_of_laid {w : World} (hL : laidMetH Tryd.prog [("baler/tables.bounds", Rows.laid_baler_tables_bounds)] w) : Ev.GlobAt w := by
  rw [laidMetH_plain _ _ _ rfl] at hL
  obtain ⟨ps, ⟨g, t, cs, fuel, p, q, hg, ht, hv, hx, _⟩, _⟩ := hL
  rw [gn_b] at hg
  cases hg
  rw [gt_b] at ht
  cases ht
  unfold World.var? at hv
  rw [gn_b] at hv
  simp only [Option.bind_some] at hv
  split at hv
  · rename_i cs' e' fr' hw
    cases hv
    obtain ⟨xs, m, rfl, hx1, hlen, hxn, hall⟩ := DataW.trod_array Tryd.underlying58 hx
    rw [co_b] at hlen
    rw [co_i] at hall
    have hc : ∀ (i : Nat) (z : Int), i < 4 → (xs.map (·.1))[i]? = some (.lit (.int .i64 z)) → w.cell? ⟨0, i, none⟩ = some (.int .i64 z) := by
      intro i z hi hz
      rw [List.getElem?_map] at hz
      cases hxi : xs[i]? with
      | none => rw [hxi] at hz; cases hz
      | some y =>
        rw [hxi] at hz
        have ha := hall i hi
        rw [hxi] at ha
        obtain ⟨k, h1, h2, _⟩ := DataW.trod_int Tryd.underlying3 ha
        rw [h2] at hz
        cases hz
        have h3 : cs.toList[i]? = some (.int .i64 z) := by
          rw [Nat.mul_one, List.drop_eq_getElem_cons (by omega), List.take_succ_cons, List.take_zero] at h1
          rw [List.getElem?_eq_getElem (by omega)]
          exact congrArg some (List.cons.inj h1).1
        unfold World.cell?
        simp only [hw]
        simpa using h3
    have hm : xs.map (·.1) = [.lit (.int .i64 200), .lit (.int .i64 600), .lit (.int .i64 1200), .lit (.int .i64 2400)] := by
      have := congrArg Prod.fst hx1
      simp only [Rows.laid_baler_tables_bounds] at this
      injection this with this
      exact this.symm
    rw [hm] at hc
    intro g hg
    have : g = (0, 0, .int .i64 200) ∨ g = (0, 1, .int .i64 600) ∨ g = (0, 2, .int .i64 1200) ∨ g = (0, 3, .int .i64 2400) := by simpa [Ev.KG] using hg
    rcases this with rfl | rfl | rfl | rfl
    · exact hc 0 200 (by decide) rfl
    · exact hc 1 600 (by decide) rfl
    · exact hc 2 1200 (by decide) rfl
    · exact hc 3 2400 (by decide) rfl
  · cases hv

end Go.Proofs.YtdagfcflbphoiaaDoor
/- From the second form to calls, in a seat whose tables are laid. -/
namespace Go.Proofs.YtdagfcflbphoiaaDoor
set_option linter.unusedVariables false
set_option linter.unusedSimpArgs false
open Go.RowKit Ev

/-- the laid variable is there -/
def Gd (h : H) (n : Nat) : Prop := h.get 0 = some ⟨3, false, gV⟩ ∧ 0 < n
theorem Gd.keep {h h' : H} {n n' : Nat} (x : Gd h n) (hn : n ≤ n') (hk : ∀ b, b < n → h'.get b = h.get b) : Gd h' n' := ⟨(hk _ x.2).trans x.1, Nat.lt_of_lt_of_le x.2 hn⟩
theorem Gd.of {h : H} {n : Nat} (hn : Tryd.prog.globals.size ≤ n) (hg : h.get 0 = some ⟨3, false, gV⟩) : Gd h n := ⟨hg, Nat.lt_of_lt_of_le (by decide +kernel) hn⟩
theorem k_three (lf d n : Nat) (h : H) (x : Gd h n) : Run (fun _ => False) n (evCall2 Tryd.prog gt lf (d + 1) 8 #[]) h n fun v' h' n' => v' = .bool true ∧ h' = h ∧ n' = n := by
  obtain ⟨hg, hn⟩ := x
  have e : evCall2 Tryd.prog gt lf (d + 1) 8 #[] = (chkG Tryd.prog KG).bind fun _ => M.ret (.bool true) := by kernel_rfl
  rw [e]
  have rdg : ∀ (k : Nat) (v : Value), gV[k]? = some v → rd 0 k h n = some ⟨v, h, n, [⟨false, 0, some k⟩]⟩ := fun k v hk => by
    unfold rd
    simp only [hn, hg, hk, if_true]
  have hsz : decide (0 < Tryd.prog.globals.size) = true := by decide +kernel
  have stp : ∀ (k : Nat) (x : Int) (l : List (Nat × Nat × Value)) (L : List En), gV[k]? = some (.int .i64 x) → chkG Tryd.prog l h n = some ⟨(), h, n, L⟩ → chkG Tryd.prog ((0, k, .int .i64 x) :: l) h n = some ⟨(), h, n, [⟨false, 0, some k⟩] ++ L⟩ := fun k x l L hk hl => by
    unfold chkG
    refine bind_run (rdg k _ hk) ?_
    simp only [hsz, sameI, decide_true, Bool.and_self, if_true]
    exact hl
  have c := stp 0 200 _ _ rfl (stp 1 600 _ _ rfl (stp 2 1200 _ _ rfl (stp 3 2400 [] [] rfl rfl)))
  refine Run.step c (Nat.le_refl _) (by simp) ?_
  rw [run_ret]
  exact ⟨rfl, rfl, rfl⟩
theorem run_three {lf d n n0 : Nat} {h : H} {W : Nat → Prop} (hn : n0 ≤ n) (x : Gd h n) : Run W n0 ((inside (evCall2 Tryd.prog gt lf (d + 1) 8 #[])).bind fun v => outK [v]) h n fun v _ _ => v = .bool true := by
  refine run_same (k_three lf d n h x) hn (fun _ _ h => h.elim) ?_
  rw [run_out1]

end Go.Proofs.YtdagfcflbphoiaaDoor
/- Layer 12 by the second form: how many tables, groups, picks. -/
namespace Go.Proofs.YtdagfcflbphoiaaDoor
set_option linter.unusedVariables false
set_option linter.unusedSimpArgs false
open Go.RowKit Ev Tb

section
variable (lf d n : Nat) (h : H) (hlf : 3000000 ≤ lf)
include hlf
end
end Go.Proofs.YtdagfcflbphoiaaDoor
/- Layers 8 and 12 by the second form: the reference's groups; the tables at first. -/
namespace Go.Proofs.YtdagfcflbphoiaaDoor
set_option linter.unusedVariables false
set_option linter.unusedSimpArgs false
open Go.RowKit Ev Tb

section
variable (lf d n : Nat) (h : H) (hlf : 3000000 ≤ lf)
include hlf
end
end Go.Proofs.YtdagfcflbphoiaaDoor
/- Layer 12 by the second form: the tables at first. -/
namespace Go.Proofs.YtdagfcflbphoiaaDoor
set_option linter.unusedVariables false
set_option linter.unusedSimpArgs false
open Go.RowKit Ev Tb

section
variable (lf d n : Nat) (h : H) (hlf : 3000000 ≤ lf)
include hlf
end
end Go.Proofs.YtdagfcflbphoiaaDoor
/- Lengths of counts: rounds of halving, by the second form; the statement LensWhole. -/
namespace Go.Proofs.YtdagfcflbphoiaaDoor
set_option linter.unusedVariables false
set_option linter.unusedSimpArgs false
open Go.RowKit Ev Hu

/-- the lengths that rounds of halving come to -/
inductive Rounds : Nat → List Int → List Int → Prop
  | stop (w : List Int) (hW : Ws w) (so : Sorts w (sortD w)) (h : lngL (depF w) 0 ≤ 20) : Rounds 0 w (depF w)
  | next {k : Nat} {w l : List Int} (hW : Ws w) (so : Sorts w (sortD w)) (h : ¬ lngL (depF w) 0 ≤ 20) (r : Rounds k (halvL w) l) : Rounds (k + 1) w l
theorem Rounds.out {k : Nat} {w l : List Int} (r : Rounds k w l) : ∃ w', Ws w' ∧ Sorts w' (sortD w') ∧ lngL (depF w') 0 ≤ 20 ∧ l = depF w' ∧ w'.length = w.length := by
  induction r with
  | stop w hW so h => exact ⟨w, hW, so, h, rfl, rfl⟩
  | next hW so h r ih =>
    obtain ⟨w', h1, h2, h3, h4, h5⟩ := ih
    exact ⟨w', h1, h2, h3, h4, by rw [h5, halvL_len]⟩

/-- weights within a bound -/
structure Wb (ws : List Int) (c : Int) : Prop where
  l2 : 2 ≤ ws.length
  l3 : ws.length ≤ 258
  lo : ∀ x ∈ ws, 1 ≤ x
  hi : ∀ x ∈ ws, x ≤ c
theorem Wb.ws {ws : List Int} {c : Int} (h : Wb ws c) (hc : c ≤ 2199023255552) : Ws ws := ⟨h.l2, h.l3, fun x hx => by have := h.lo x hx; omega, fun x hx => by have := h.hi x hx; omega⟩
/-- behind k rounds -/
def cap (k : Nat) : Int := 2 ^ k + 2
theorem Rounds.whole {k : Nat} {w l : List Int} (r : Rounds k w l) : l.length = w.length ∧ allIn 1 20 l = true ∧ shrL l = 1048576 := by
  obtain ⟨w', hW, so, h, rfl, hl⟩ := r.out
  obtain ⟨wf, I, A, B, X, R, dep, D⟩ := hW.deps so
  have hl2 := hW.l2
  rw [lngL_le] at h
  refine ⟨by rw [depF_len (by omega), hl], allIn_iff.2 fun x hx => ⟨?_, h.2 x hx⟩, ?_⟩
  · revert x
    unfold depF
    rw [D.mem]
    intro i hi
    have := D.ge1 hi
    omega
  · unfold depF at h ⊢
    exact D.share h.2
end Go.Proofs.YtdagfcflbphoiaaDoor
/- The reference's trees: which is less, the least one, all but one; by the second form. -/
namespace Go.Proofs.YtdagfcflbphoiaaDoor
set_option linter.unusedVariables false
set_option linter.unusedSimpArgs false
open Go.RowKit Ev Hu

end Go.Proofs.YtdagfcflbphoiaaDoor
/- The reference's merging, as plain lists: it takes what the program takes. No program in sight. -/
namespace Go.Proofs.YtdagfcflbphoiaaDoor
set_option linter.unusedVariables false
set_option linter.unusedSimpArgs false
open Ev Hu

def incAll (out : List Int) : List Nat → List Int
  | [] => out
  | i :: ls => incAll (out.set i (out.getD i 0 + 1)) ls
theorem inc_len : ∀ (ls : List Nat) (out : List Int), (incAll out ls).length = out.length
  | [], _ => rfl
  | i :: ls, out => by unfold incAll; rw [inc_len ls]; simp
theorem inc_at : ∀ (ls : List Nat) (out : List Int), ls.Nodup → (∀ i ∈ ls, i < out.length) → ∀ j, (incAll out ls).getD j 0 = out.getD j 0 + if j ∈ ls then 1 else 0
  | [], out, _, _, j => by simp [incAll]
  | i :: ls, out, hn, hl, j => by
    rw [List.nodup_cons] at hn
    have hi := hl i (by simp)
    unfold incAll
    rw [inc_at ls _ hn.2 (fun k hk => by rw [List.length_set]; exact hl k (by simp [hk])), getD_setI]
    by_cases e : i = j
    · subst e
      rw [if_pos ⟨rfl, hi⟩, if_neg hn.1, if_pos (by simp)]
      omega
    · rw [if_neg (fun q => e q.1)]
      have : (j ∈ i :: ls) ↔ j ∈ ls := by simp [Ne.symm e]
      simp only [this]
theorem erase_perm {α : Type} : ∀ {l : List α} {i : Nat} (h : i < l.length), l.Perm (l[i] :: l.eraseIdx i)
  | x :: l, 0, _ => List.Perm.refl _
  | x :: l, i + 1, h => by
    have h' : i < l.length := by simpa using h
    have := erase_perm h'
    simp only [List.getElem_cons_succ, List.eraseIdx_cons_succ]
    exact (this.cons x).trans (List.Perm.swap _ _ _)
/-- the numbers of the trees that wait, in order; their leaves; the depths so far -/
structure PInv (N : Nat) (dep : Nat → Nat) (X : Nat → List Nat) (k : Nat) (nums : List Nat) (lf : Nat → List Nat) (out : List Int) : Prop where
  srt : nums.Pairwise (· < ·)
  prm : nums.Perm (X k)
  len : out.length = N
  lv : ∀ t ∈ nums, ∀ i ∈ lf t, i < N ∧ out.getD i 0 + dep t = dep i
  cov : (nums.flatMap lf).Perm (List.range N)
  pos : ∀ i, 0 ≤ out.getD i 0
section
variable {N : Nat} {w : Nat → Int} {I A B : Nat → Nat} {X R : Nat → List Nat} {dep : Nat → Nat}
theorem PInv.next (m : Merge N w I A B X R) (d1 : ∀ i, i < 2 * N - 2 → dep i = dep (I i) + 1) {k : Nat} (hk : k + 2 ≤ N) {nums : List Nat} {lf : Nat → List Nat} {out : List Int} (p : PInv N dep X k nums lf out) {a b : Nat} (ha : a < nums.length) (hb : b < (nums.eraseIdx a).length) (ea : nums[a] = A k) (eb : (nums.eraseIdx a)[b] = B k) :
    PInv N dep X (k + 1) ((nums.eraseIdx a).eraseIdx b ++ [N + k]) (fun t => if t = N + k then lf (A k) ++ lf (B k) else lf t) (incAll out (lf (A k) ++ lf (B k))) ∧ (lf (A k) ++ lf (B k)).Nodup ∧ (∀ i ∈ lf (A k) ++ lf (B k), i < N) := by
  have q1 := erase_perm ha
  have q2 := erase_perm hb
  rw [ea] at q1
  rw [eb] at q2
  have q3 : nums.Perm (A k :: B k :: (nums.eraseIdx a).eraseIdx b) := q1.trans (q2.cons _)
  have hR : ((nums.eraseIdx a).eraseIdx b).Perm (R k) := ((q3.symm.trans p.prm).trans (m.st k hk)).cons_inv.cons_inv
  have hlt : ∀ t ∈ nums, t < N + k := fun t ht => m.lt (by omega) (p.prm.mem_iff.1 ht)
  obtain ⟨S, hS⟩ : ∃ S, (nums.eraseIdx a).eraseIdx b = S := ⟨_, rfl⟩
  rw [hS] at q3 hR ⊢
  have sub : ∀ t ∈ S, t ∈ nums := fun t ht => q3.mem_iff.2 (by simp [ht])
  have mA : A k ∈ nums := q3.mem_iff.2 (by simp)
  have mB : B k ∈ nums := q3.mem_iff.2 (by simp)
  have cv := (q3.flatMap_right lf).symm.trans p.cov
  simp only [List.flatMap_cons] at cv
  have nd : ((lf (A k) ++ lf (B k)) ++ S.flatMap lf).Nodup := by
    rw [List.append_assoc]
    exact cv.nodup_iff.2 List.nodup_range
  have nd1 := (List.nodup_append.1 nd).1
  have dis : ∀ t ∈ S, ∀ i ∈ lf t, i ∉ lf (A k) ++ lf (B k) := fun t ht i hi hc => (List.nodup_append.1 nd).2.2 i hc i (List.mem_flatMap.2 ⟨t, ht, hi⟩) rfl
  have il : ∀ i ∈ lf (A k) ++ lf (B k), i < N := fun i hi => by
    rcases List.mem_append.1 hi with q | q
    · exact (p.lv _ mA i q).1
    · exact (p.lv _ mB i q).1
  have ia := inc_at (lf (A k) ++ lf (B k)) out nd1 (fun i hi => by rw [p.len]; exact il i hi)
  obtain ⟨dA, dB⟩ := m.dep_ab d1 hk
  refine ⟨⟨?_, ?_, by rw [inc_len, p.len], fun t ht i hi => ?_, ?_, fun i => ?_⟩, nd1, il⟩
  · rw [List.pairwise_append]
    refine ⟨?_, by simp, fun x hx y hy => by rw [List.mem_singleton.1 hy]; exact hlt x (sub x hx)⟩
    rw [← hS]
    exact (p.srt.sublist (List.eraseIdx_sublist _ _)).sublist (List.eraseIdx_sublist _ _)
  · exact ((List.perm_append_singleton _ _).trans (hR.cons _)).trans (m.nx k hk).symm
  · rcases List.mem_append.1 ht with q | q
    · have hne : t ≠ N + k := fun e => by have := hlt t (sub t q); omega
      simp only [if_neg hne] at hi
      have := p.lv t (sub t q) i hi
      rw [ia, if_neg (dis t q i hi)]
      omega
    · obtain rfl := List.mem_singleton.1 q
      simp only [if_true] at hi
      refine ⟨il i hi, ?_⟩
      rw [ia, if_pos hi]
      rcases List.mem_append.1 hi with q | q
      · have := (p.lv _ mA i q).2; omega
      · have := (p.lv _ mB i q).2; omega
  · rw [List.flatMap_append]
    have e1 : S.flatMap (fun t => if t = N + k then lf (A k) ++ lf (B k) else lf t) = S.flatMap lf := by
      have : ∀ L : List Nat, (∀ t ∈ L, t < N + k) → L.flatMap (fun t => if t = N + k then lf (A k) ++ lf (B k) else lf t) = L.flatMap lf := by
        intro L
        induction L with
        | nil => intro _; rfl
        | cons t L ih =>
          intro h
          have := h t (by simp)
          rw [List.flatMap_cons, List.flatMap_cons, ih (fun s hs => h s (by simp [hs])), if_neg (by omega)]
      exact this S fun t ht => hlt t (sub t ht)
    rw [e1]
    simp only [List.flatMap_cons, List.flatMap_nil, if_true, List.append_nil]
    refine List.perm_append_comm.trans ?_
    rw [List.append_assoc]
    exact cv
  · rw [ia]
    have := p.pos i
    split <;> omega
theorem PInv.last (m : Merge N w I A B X R) (d0 : dep (2 * N - 2) = 0) {nums : List Nat} {lf : Nat → List Nat} {out : List Int} (p : PInv N dep X (N - 1) nums lf out) : out = (List.range N).map fun i => (dep i : Int) := by
  have hx := p.prm
  rw [m.last] at hx
  have hn := List.perm_singleton.1 hx
  subst hn
  have hc := p.cov
  simp only [List.flatMap_cons, List.flatMap_nil, List.append_nil] at hc
  apply List.ext_getElem
  · rw [p.len]; simp
  · intro i h1 h2
    have hi : i < N := by rw [p.len] at h1; exact h1
    have := (p.lv (2 * N - 2) (by simp) i (hc.mem_iff.2 (List.mem_range.2 hi))).2
    rw [d0, List.getD_eq_getElem?_getD, List.getElem?_eq_getElem h1] at this
    simp only [Option.getD_some] at this
    simp only [List.getElem_map, List.getElem_range]
    omega
end
end Go.Proofs.YtdagfcflbphoiaaDoor
/- The reference's depths, by the second form: they are the program's. -/
namespace Go.Proofs.YtdagfcflbphoiaaDoor
set_option linter.unusedVariables false
set_option linter.unusedSimpArgs false
open Go.RowKit Ev Hu

end Go.Proofs.YtdagfcflbphoiaaDoor
/- One round of the reference's depths, in two parts: a tree is taken; two are joined. -/
namespace Go.Proofs.YtdagfcflbphoiaaDoor
set_option linter.unusedVariables false
set_option linter.unusedSimpArgs false
open Go.RowKit Ev Hu

end Go.Proofs.YtdagfcflbphoiaaDoor
/- One round of the reference's depths: two trees are joined. -/
namespace Go.Proofs.YtdagfcflbphoiaaDoor
set_option linter.unusedVariables false
set_option linter.unusedSimpArgs false
open Go.RowKit Ev Hu

end Go.Proofs.YtdagfcflbphoiaaDoor
/- The reference's depths whole: they are the program's. -/
namespace Go.Proofs.YtdagfcflbphoiaaDoor
set_option linter.unusedVariables false
set_option linter.unusedSimpArgs false
open Go.RowKit Ev Hu

end Go.Proofs.YtdagfcflbphoiaaDoor
/- The reference's halving and lengths; the statements LensDepths and LensOf. -/
namespace Go.Proofs.YtdagfcflbphoiaaDoor
set_option linter.unusedVariables false
set_option linter.unusedSimpArgs false
open Go.RowKit Ev Hu

end Go.Proofs.YtdagfcflbphoiaaDoor
/- Layer 12 by the second form: a round. -/
namespace Go.Proofs.YtdagfcflbphoiaaDoor
set_option linter.unusedVariables false
set_option linter.unusedSimpArgs false
open Go.RowKit Ev Tb

theorem Rounds.det {r : Nat} {w l : List Int} (x : Rounds r w l) : ∀ {r' : Nat} {l' : List Int}, Rounds r' w l' → l = l' := by
  induction x with
  | stop w hW so hs =>
    intro r' l' y
    cases y with
    | stop => rfl
    | next _ _ hn _ => exact absurd hs hn
  | next hW so hs hr ih =>
    intro r' l' y
    cases y with
    | stop _ _ _ hn => exact absurd hn hs
    | next _ _ _ hr2 => exact ih hr2
section
variable (lf d n : Nat) (h : H) (hlf : 3000000 ≤ lf)
include hlf
end
section
variable (lf d n : Nat) (h : H) (hlf : 3000000 ≤ lf)
include hlf
end
end Go.Proofs.YtdagfcflbphoiaaDoor
/- Layer 12 by the second form: the choice. -/
namespace Go.Proofs.YtdagfcflbphoiaaDoor
set_option linter.unusedVariables false
set_option linter.unusedSimpArgs false
open Go.RowKit Ev Tb

section
variable (lf d n : Nat) (h : H) (hlf : 3000000 ≤ lf)
include hlf
end
end Go.Proofs.YtdagfcflbphoiaaDoor
/- Rows last where blocks of their elements do. No program in sight. -/
namespace Go.Proofs.YtdagfcflbphoiaaDoor.Ev
set_option linter.unusedVariables false
set_option linter.unusedSimpArgs false
open Go Go.RowKit
section
variable {h h' : H} {n n' : Nat} {e es ei : TypeId} {v : Value} {cs : List Value} {xss : List (List Int)}
theorem VRow.elem (r : VRow h n e v cs) {b : Nat} (hb : InBlk v b) : ∃ B, h.get b = Option.some B ∧ B.elem = e := by
  rcases r with ⟨a, c, rfl, hne, _⟩ | ⟨c, off, cap, o, ks, rfl, hg, _⟩
  · obtain ⟨o, l, k, q⟩ := hb
    cases q
    exact absurd rfl (hne b o)
  · rw [hb.inj]; exact ⟨_, hg, rfl⟩
end
end Go.Proofs.YtdagfcflbphoiaaDoor.Ev
/- Layer 12 by the second form: the reference's tables at first, and its choice. -/
namespace Go.Proofs.YtdagfcflbphoiaaDoor
set_option linter.unusedVariables false
set_option linter.unusedSimpArgs false
open Go.RowKit Ev Tb

section
variable (lf d n : Nat) (h : H) (hlf : 3000000 ≤ lf)
include hlf
end
end Go.Proofs.YtdagfcflbphoiaaDoor
/- Layer 12 by the second form: the reference's choice. -/
namespace Go.Proofs.YtdagfcflbphoiaaDoor
set_option linter.unusedVariables false
set_option linter.unusedSimpArgs false
open Go.RowKit Ev Tb

section
variable (lf d n : Nat) (h : H) (hlf : 3000000 ≤ lf)
include hlf
end
end Go.Proofs.YtdagfcflbphoiaaDoor
/- Layer 12 by the second form: which choices are the same. -/
namespace Go.Proofs.YtdagfcflbphoiaaDoor
set_option linter.unusedVariables false
set_option linter.unusedSimpArgs false
open Go.RowKit Ev Tb

theorem drop_same {α : Type} [DecidableEq α] (d : α) {xs ys : List α} (hl : xs.length = ys.length) {i : Nat} (hi : i < xs.length) : decide (xs.drop i = ys.drop i) = (decide (xs.getD i d = ys.getD i d) && decide (xs.drop (i + 1) = ys.drop (i + 1))) := by
  rw [drop_next d hi, drop_next d (show i < ys.length by omega)]
  by_cases h1 : xs.getD i d = ys.getD i d
  · rw [h1, decide_eq_true rfl, Bool.true_and]
    simp only [List.cons.injEq, true_and]
  · rw [decide_eq_false h1, Bool.false_and]
    exact decide_eq_false fun q => h1 (List.cons.inj q).1
theorem drop_all {α : Type} [DecidableEq α] {xs ys : List α} (hl : xs.length = ys.length) : decide (xs.drop xs.length = ys.drop xs.length) = true := by
  rw [List.drop_length, hl, List.drop_length]
  exact decide_eq_true rfl
section
variable (lf d n : Nat) (h : H)
theorem s_Equal (v u : Value) (xs ys : List Int) (hR : Row h n 3 .i64 v xs) (hS : Row h n 3 .i64 u ys) (hl : xs.length < lf) (hm : xs.length ≤ 9223372036854775807) :
    Run (fun _ => False) n (evCall2 Tryd.prog gt lf (d + 1) 41 #[v, u]) h n fun v' h' n' => v' = .bool (decide (xs = ys)) ∧ h' = h ∧ n' = n := by
  rw [sh_slices_Equal_int_int]
  refine Run.inside_ ?_
  unfold b_slices_Equal_int_int
  have hR0 := hR
  have hS0 := hS
  obtain ⟨a, c, rfl⟩ := hR.len
  obtain ⟨a2, c2, rfl⟩ := hS.len
  by_cases hxy : xs.length = ys.length
  · have n1 : (((xs.length : Nat) : Int) != ((ys.length : Nat) : Int)) = false := by rw [hxy]; simp
    try simp (disch := first | omega | assumption | exact one_int _ _ | exact one_slice _ _ _ | exact one_ptr _ | exact one_bool _ | exact one_string _) only [RXA, RXB, Nat.reduceAdd, Nat.reduceLT, wrap_id, wrap_succ, wrap_pred, FX1, n1]
    refine run_for xs.length (fun fu i (_ : Unit) => lpA_slices_Equal_int_int lf d fu (kcA_slices_Equal_int_int lf d) (.slice a xs.length c) (.slice a2 ys.length c2) _ _ (.int .i64 (xs.length : Nat)) (.int .i64 (i : Nat))) (fun i _ h' n' => (h' = h ∧ n' = n) ∧ decide (xs = ys) = decide (xs.drop i = ys.drop i)) ?_ ?_ lf 0 () h n (Nat.zero_le _) (by omega) ⟨⟨rfl, rfl⟩, rfl⟩
    · rintro fu _ h' n' ⟨⟨rfl, rfl⟩, e⟩
      rw [succA_slices_Equal_int_int, e, drop_all hxy]
      try simp (disch := first | omega | assumption | exact one_int _ _ | exact one_slice _ _ _ | exact one_ptr _ | exact one_bool _ | exact one_string _) only [RXA, RXB, Nat.reduceAdd, Nat.reduceLT, wrap_id, wrap_succ, wrap_pred, FX1, Int.lt_irrefl]
      rw [kcAb_slices_Equal_int_int]
      try simp (disch := first | omega | assumption | exact one_int _ _ | exact one_slice _ _ _ | exact one_ptr _ | exact one_bool _ | exact one_string _) only [RXA, RXB, Nat.reduceAdd, Nat.reduceLT, wrap_id, wrap_succ, wrap_pred, FX1]
    · rintro fu i _ h' n' hi ⟨⟨rfl, rfl⟩, e⟩ next
      obtain ⟨b, off, cap, o, cs, hv, hg, hb, _, _, _, hat⟩ := hR0.some (by omega)
      cases hv
      obtain ⟨b2, off2, cap2, o2, cs2, hv2, hg2, hb2, _, _, _, hat2⟩ := hS0.some (by omega)
      cases hv2
      have e1 : ((i : Nat) : Int) < ((xs.length : Nat) : Int) := by omega
      have e2 : ((i : Nat) : Int) < ((ys.length : Nat) : Int) := by omega
      have c1 := hat i hi
      have c2 := hat2 i (by omega)
      rw [drop_same 0 hxy hi] at e
      rw [succA_slices_Equal_int_int]
      by_cases h1 : xs.getD i 0 = ys.getD i 0
      · have n1 : (xs.getD i 0 != ys.getD i 0) = false := by rw [h1]; simp
        rw [decide_eq_true h1, Bool.true_and] at e
        try simp (disch := first | omega | assumption | exact one_int _ _ | exact one_slice _ _ _ | exact one_ptr _ | exact one_bool _ | exact one_string _) only [RXA, RXB, Nat.reduceAdd, Nat.reduceLT, wrap_id, wrap_succ, wrap_pred, FX1, e1, e2, hg, hg2, c1, c2, n1]
        exact next () _ _ ⟨⟨rfl, rfl⟩, e⟩
      · have n1 : (xs.getD i 0 != ys.getD i 0) = true := bne_iff_ne.2 h1
        rw [decide_eq_false h1, Bool.false_and] at e
        rw [e]
        try simp (disch := first | omega | assumption | exact one_int _ _ | exact one_slice _ _ _ | exact one_ptr _ | exact one_bool _ | exact one_string _) only [RXA, RXB, Nat.reduceAdd, Nat.reduceLT, wrap_id, wrap_succ, wrap_pred, FX1, e1, e2, hg, hg2, c1, c2, n1]
        rw [kcAa_slices_Equal_int_int]
        try simp (disch := first | omega | assumption | exact one_int _ _ | exact one_slice _ _ _ | exact one_ptr _ | exact one_bool _ | exact one_string _) only [RXA, RXB, Nat.reduceAdd, Nat.reduceLT, wrap_id, wrap_succ, wrap_pred, FX1]
  · have n1 : (((xs.length : Nat) : Int) != ((ys.length : Nat) : Int)) = true := by simp; omega
    rw [decide_eq_false (fun q => hxy (by rw [q]))]
    try simp (disch := first | omega | assumption | exact one_int _ _ | exact one_slice _ _ _ | exact one_ptr _ | exact one_bool _ | exact one_string _) only [RXA, RXB, Nat.reduceAdd, Nat.reduceLT, wrap_id, wrap_succ, wrap_pred, FX1, n1]
theorem r_Ints (v u : Value) (xs ys : List Int) (hR : Row h n 3 .i64 v xs) (hS : Row h n 3 .i64 u ys) (hl : xs.length < lf) (hm : xs.length ≤ 9223372036854775807) :
    Run (fun _ => False) n (evCall2 Tryd.prog gt lf (d + 1) 28 #[v, u]) h n fun v' h' n' => v' = .bool (decide (xs = ys)) ∧ h' = h ∧ n' = n := by
  rw [sh_balerplain_Ints]
  refine Run.inside_ ?_
  unfold b_balerplain_Ints
  have hR0 := hR
  have hS0 := hS
  obtain ⟨a, c, rfl⟩ := hR.len
  obtain ⟨a2, c2, rfl⟩ := hS.len
  by_cases hxy : xs.length = ys.length
  · have n1 : (((xs.length : Nat) : Int) != ((ys.length : Nat) : Int)) = false := by rw [hxy]; simp
    try simp (disch := first | omega | assumption | exact one_int _ _ | exact one_slice _ _ _ | exact one_ptr _ | exact one_bool _ | exact one_string _) only [RXA, RXB, Nat.reduceAdd, Nat.reduceLT, wrap_id, wrap_succ, wrap_pred, FX1, n1]
    refine run_for xs.length (fun fu i (_ : Unit) => lpA_balerplain_Ints lf d fu (kcA_balerplain_Ints lf d) (.slice a xs.length c) (.slice a2 ys.length c2) _ _ (.int .i64 (xs.length : Nat)) (.int .i64 (i : Nat))) (fun i _ h' n' => (h' = h ∧ n' = n) ∧ decide (xs = ys) = decide (xs.drop i = ys.drop i)) ?_ ?_ lf 0 () h n (Nat.zero_le _) (by omega) ⟨⟨rfl, rfl⟩, rfl⟩
    · rintro fu _ h' n' ⟨⟨rfl, rfl⟩, e⟩
      rw [succA_balerplain_Ints, e, drop_all hxy]
      try simp (disch := first | omega | assumption | exact one_int _ _ | exact one_slice _ _ _ | exact one_ptr _ | exact one_bool _ | exact one_string _) only [RXA, RXB, Nat.reduceAdd, Nat.reduceLT, wrap_id, wrap_succ, wrap_pred, FX1, Int.lt_irrefl]
      rw [kcAb_balerplain_Ints]
      try simp (disch := first | omega | assumption | exact one_int _ _ | exact one_slice _ _ _ | exact one_ptr _ | exact one_bool _ | exact one_string _) only [RXA, RXB, Nat.reduceAdd, Nat.reduceLT, wrap_id, wrap_succ, wrap_pred, FX1]
    · rintro fu i _ h' n' hi ⟨⟨rfl, rfl⟩, e⟩ next
      obtain ⟨b, off, cap, o, cs, hv, hg, hb, _, _, _, hat⟩ := hR0.some (by omega)
      cases hv
      obtain ⟨b2, off2, cap2, o2, cs2, hv2, hg2, hb2, _, _, _, hat2⟩ := hS0.some (by omega)
      cases hv2
      have e1 : ((i : Nat) : Int) < ((xs.length : Nat) : Int) := by omega
      have e2 : ((i : Nat) : Int) < ((ys.length : Nat) : Int) := by omega
      have c1 := hat i hi
      have c2 := hat2 i (by omega)
      rw [drop_same 0 hxy hi] at e
      rw [succA_balerplain_Ints]
      by_cases h1 : xs.getD i 0 = ys.getD i 0
      · have n1 : (xs.getD i 0 != ys.getD i 0) = false := by rw [h1]; simp
        rw [decide_eq_true h1, Bool.true_and] at e
        try simp (disch := first | omega | assumption | exact one_int _ _ | exact one_slice _ _ _ | exact one_ptr _ | exact one_bool _ | exact one_string _) only [RXA, RXB, Nat.reduceAdd, Nat.reduceLT, wrap_id, wrap_succ, wrap_pred, FX1, e1, e2, hg, hg2, c1, c2, n1]
        exact next () _ _ ⟨⟨rfl, rfl⟩, e⟩
      · have n1 : (xs.getD i 0 != ys.getD i 0) = true := bne_iff_ne.2 h1
        rw [decide_eq_false h1, Bool.false_and] at e
        rw [e]
        try simp (disch := first | omega | assumption | exact one_int _ _ | exact one_slice _ _ _ | exact one_ptr _ | exact one_bool _ | exact one_string _) only [RXA, RXB, Nat.reduceAdd, Nat.reduceLT, wrap_id, wrap_succ, wrap_pred, FX1, e1, e2, hg, hg2, c1, c2, n1]
        rw [kcAa_balerplain_Ints]
        try simp (disch := first | omega | assumption | exact one_int _ _ | exact one_slice _ _ _ | exact one_ptr _ | exact one_bool _ | exact one_string _) only [RXA, RXB, Nat.reduceAdd, Nat.reduceLT, wrap_id, wrap_succ, wrap_pred, FX1]
  · have n1 : (((xs.length : Nat) : Int) != ((ys.length : Nat) : Int)) = true := by simp; omega
    rw [decide_eq_false (fun q => hxy (by rw [q]))]
    try simp (disch := first | omega | assumption | exact one_int _ _ | exact one_slice _ _ _ | exact one_ptr _ | exact one_bool _ | exact one_string _) only [RXA, RXB, Nat.reduceAdd, Nat.reduceLT, wrap_id, wrap_succ, wrap_pred, FX1, n1]
theorem s_Same1 (v u : Value) (xs ys : List Int) (hR : Row h n 3 .i64 v xs) (hS : Row h n 3 .i64 u ys) (hl : xs.length < lf) (hm : xs.length ≤ 9223372036854775807) :
    Run (fun _ => False) n (evCall2 Tryd.prog gt lf (d + 2) 43 #[v, u]) h n fun v' h' n' => v' = .bool (decide (xs = ys)) ∧ h' = h ∧ n' = n := by
  rw [sh_tables_Same_1]
  refine Run.inside_ ?_
  unfold b_tables_Same_1
  refine run_same (s_Equal lf d n h v u xs ys hR hS hl hm) (Nat.le_refl _) (fun _ _ h => h.elim) ?_
  try simp (disch := first | omega | assumption | exact one_int _ _ | exact one_slice _ _ _ | exact one_ptr _ | exact one_bool _ | exact one_string _) only [RXA, RXB, Nat.reduceAdd, Nat.reduceLT, wrap_id, wrap_succ, wrap_pred, FX1]
theorem callS {β : Type} {rec : FuncId → Array Value → M Value} (a b : Value) (k : Value → M β) : callV Tryd.prog rec (.func (.func 43) #[] #[]) [a, b] k = (inside (rec 43 #[a, b])).bind k := by
  unfold callV
  show optK (some _) _ = _
  rw [optK_some_eq]
  simp only [show hasBody Tryd.prog 43 = true by kernel_rfl]
  rfl
theorem s_EqualFunc (v u : Value) (xss yss : List (List Int)) (hR : RR h n 22 3 v xss) (hS : RR h n 22 3 u yss) (hl : xss.length < lf) (hm : xss.length ≤ 9223372036854775807) (hi2 : ∀ xs ∈ xss, xs.length < lf ∧ xs.length ≤ 9223372036854775807) :
    Run (fun _ => False) n (evCall2 Tryd.prog gt lf (d + 3) 42 #[v, u, .func (.func 43) #[] #[]]) h n fun v' h' n' => v' = .bool (decide (xss = yss)) ∧ h' = h ∧ n' = n := by
  rw [sh_slices_EqualFunc_int_int_int_int]
  refine Run.inside_ ?_
  unfold b_slices_EqualFunc_int_int_int_int
  have hR0 := hR
  have hS0 := hS
  obtain ⟨a, c, rfl⟩ := hR.len
  obtain ⟨a2, c2, rfl⟩ := hS.len
  by_cases hxy : xss.length = yss.length
  · have n1 : (((xss.length : Nat) : Int) != ((yss.length : Nat) : Int)) = false := by rw [hxy]; simp
    try simp (disch := first | omega | assumption | exact one_int _ _ | exact one_slice _ _ _ | exact one_ptr _ | exact one_bool _ | exact one_string _) only [RXA, RXB, Nat.reduceAdd, Nat.reduceLT, wrap_id, wrap_succ, wrap_pred, FX1, n1]
    refine run_for xss.length (fun fu i (_ : Unit) => lpA_slices_EqualFunc_int_int_int_int lf (d + 2) fu (kcA_slices_EqualFunc_int_int_int_int lf (d + 2)) (.slice a xss.length c) (.slice a2 yss.length c2) (.func (.func 43) #[] #[]) _ _ (.slice a xss.length c) (.int .i64 (xss.length : Nat)) (.int .i64 (i : Nat))) (fun i _ h' n' => (h' = h ∧ n' = n) ∧ decide (xss = yss) = decide (xss.drop i = yss.drop i)) ?_ ?_ lf 0 () h n (Nat.zero_le _) (by omega) ⟨⟨rfl, rfl⟩, rfl⟩
    · rintro fu _ h' n' ⟨⟨rfl, rfl⟩, e⟩
      rw [succA_slices_EqualFunc_int_int_int_int, e, drop_all hxy]
      try simp (disch := first | omega | assumption | exact one_int _ _ | exact one_slice _ _ _ | exact one_ptr _ | exact one_bool _ | exact one_string _) only [RXA, RXB, Nat.reduceAdd, Nat.reduceLT, wrap_id, wrap_succ, wrap_pred, FX1, Int.lt_irrefl]
      rw [kcAb_slices_EqualFunc_int_int_int_int]
      try simp (disch := first | omega | assumption | exact one_int _ _ | exact one_slice _ _ _ | exact one_ptr _ | exact one_bool _ | exact one_string _) only [RXA, RXB, Nat.reduceAdd, Nat.reduceLT, wrap_id, wrap_succ, wrap_pred, FX1]
    · rintro fu i _ h' n' hi ⟨⟨rfl, rfl⟩, e⟩ next
      obtain ⟨b, off, cap, o, cs, hv, hg, hb, hat⟩ := hR0.at (by omega)
      cases hv
      obtain ⟨b2, off2, cap2, o2, cs2, hv2, hg2, hb2, hat2⟩ := hS0.at (by omega)
      cases hv2
      have e1 : ((i : Nat) : Int) < ((xss.length : Nat) : Int) := by omega
      have e2 : ((i : Nat) : Int) < ((yss.length : Nat) : Int) := by omega
      obtain ⟨p, c1, r1⟩ := hat i hi
      obtain ⟨q, c2, r2⟩ := hat2 i (by omega)
      have hm : xss.getD i [] ∈ xss := by rw [List.getD_eq_getElem?_getD, List.getElem?_eq_getElem hi]; exact List.getElem_mem hi
      obtain ⟨l1, l2⟩ := hi2 _ hm
      rw [drop_same [] hxy hi] at e
      rw [succA_slices_EqualFunc_int_int_int_int]
      try simp (disch := first | omega | assumption | exact one_int _ _ | exact one_slice _ _ _ | exact one_ptr _ | exact one_bool _ | exact one_string _) only [RXA, RXB, Nat.reduceAdd, Nat.reduceLT, wrap_id, wrap_succ, wrap_pred, FX1, e1, e2, hg, hg2, c1, c2, callS]
      refine run_same (s_Same1 lf d _ h' p q _ _ r1 r2 l1 l2) (Nat.le_refl _) (fun _ _ h => h.elim) ?_
      by_cases h1 : xss.getD i [] = yss.getD i []
      · rw [decide_eq_true h1, Bool.true_and] at e
        rw [decide_eq_true h1]
        try simp (disch := first | omega | assumption | exact one_int _ _ | exact one_slice _ _ _ | exact one_ptr _ | exact one_bool _ | exact one_string _) only [RXA, RXB, Nat.reduceAdd, Nat.reduceLT, wrap_id, wrap_succ, wrap_pred, FX1, Bool.not_true]
        exact next () _ _ ⟨⟨rfl, rfl⟩, e⟩
      · rw [decide_eq_false h1, Bool.false_and] at e
        rw [decide_eq_false h1, e]
        try simp (disch := first | omega | assumption | exact one_int _ _ | exact one_slice _ _ _ | exact one_ptr _ | exact one_bool _ | exact one_string _) only [RXA, RXB, Nat.reduceAdd, Nat.reduceLT, wrap_id, wrap_succ, wrap_pred, FX1, Bool.not_false]
        rw [kcAa_slices_EqualFunc_int_int_int_int]
        try simp (disch := first | omega | assumption | exact one_int _ _ | exact one_slice _ _ _ | exact one_ptr _ | exact one_bool _ | exact one_string _) only [RXA, RXB, Nat.reduceAdd, Nat.reduceLT, wrap_id, wrap_succ, wrap_pred, FX1]
  · have n1 : (((xss.length : Nat) : Int) != ((yss.length : Nat) : Int)) = true := by simp; omega
    rw [decide_eq_false (fun q => hxy (by rw [q]))]
    try simp (disch := first | omega | assumption | exact one_int _ _ | exact one_slice _ _ _ | exact one_ptr _ | exact one_bool _ | exact one_string _) only [RXA, RXB, Nat.reduceAdd, Nat.reduceLT, wrap_id, wrap_succ, wrap_pred, FX1, n1]
theorem r_Rows (v u : Value) (xss yss : List (List Int)) (hR : RR h n 22 3 v xss) (hS : RR h n 22 3 u yss) (hl : xss.length < lf) (hm : xss.length ≤ 9223372036854775807) (hi2 : ∀ xs ∈ xss, xs.length < lf ∧ xs.length ≤ 9223372036854775807) :
    Run (fun _ => False) n (evCall2 Tryd.prog gt lf (d + 2) 22 #[v, u]) h n fun v' h' n' => v' = .bool (decide (xss = yss)) ∧ h' = h ∧ n' = n := by
  rw [sh_balerplain_Rows]
  refine Run.inside_ ?_
  unfold b_balerplain_Rows
  have hR0 := hR
  have hS0 := hS
  obtain ⟨a, c, rfl⟩ := hR.len
  obtain ⟨a2, c2, rfl⟩ := hS.len
  by_cases hxy : xss.length = yss.length
  · have n1 : (((xss.length : Nat) : Int) != ((yss.length : Nat) : Int)) = false := by rw [hxy]; simp
    try simp (disch := first | omega | assumption | exact one_int _ _ | exact one_slice _ _ _ | exact one_ptr _ | exact one_bool _ | exact one_string _) only [RXA, RXB, Nat.reduceAdd, Nat.reduceLT, wrap_id, wrap_succ, wrap_pred, FX1, n1]
    refine run_for xss.length (fun fu i (_ : Unit) => lpA_balerplain_Rows lf (d + 1) fu (kcA_balerplain_Rows lf (d + 1)) (.slice a xss.length c) (.slice a2 yss.length c2) _ _ (.int .i64 (xss.length : Nat)) (.int .i64 (i : Nat))) (fun i _ h' n' => (h' = h ∧ n' = n) ∧ decide (xss = yss) = decide (xss.drop i = yss.drop i)) ?_ ?_ lf 0 () h n (Nat.zero_le _) (by omega) ⟨⟨rfl, rfl⟩, rfl⟩
    · rintro fu _ h' n' ⟨⟨rfl, rfl⟩, e⟩
      rw [succA_balerplain_Rows, e, drop_all hxy]
      try simp (disch := first | omega | assumption | exact one_int _ _ | exact one_slice _ _ _ | exact one_ptr _ | exact one_bool _ | exact one_string _) only [RXA, RXB, Nat.reduceAdd, Nat.reduceLT, wrap_id, wrap_succ, wrap_pred, FX1, Int.lt_irrefl]
      rw [kcAb_balerplain_Rows]
      try simp (disch := first | omega | assumption | exact one_int _ _ | exact one_slice _ _ _ | exact one_ptr _ | exact one_bool _ | exact one_string _) only [RXA, RXB, Nat.reduceAdd, Nat.reduceLT, wrap_id, wrap_succ, wrap_pred, FX1]
    · rintro fu i _ h' n' hi ⟨⟨rfl, rfl⟩, e⟩ next
      obtain ⟨b, off, cap, o, cs, hv, hg, hb, hat⟩ := hR0.at (by omega)
      cases hv
      obtain ⟨b2, off2, cap2, o2, cs2, hv2, hg2, hb2, hat2⟩ := hS0.at (by omega)
      cases hv2
      have e1 : ((i : Nat) : Int) < ((xss.length : Nat) : Int) := by omega
      have e2 : ((i : Nat) : Int) < ((yss.length : Nat) : Int) := by omega
      obtain ⟨p, c1, r1⟩ := hat i hi
      obtain ⟨q, c2, r2⟩ := hat2 i (by omega)
      have hm : xss.getD i [] ∈ xss := by rw [List.getD_eq_getElem?_getD, List.getElem?_eq_getElem hi]; exact List.getElem_mem hi
      obtain ⟨l1, l2⟩ := hi2 _ hm
      rw [drop_same [] hxy hi] at e
      rw [succA_balerplain_Rows]
      try simp (disch := first | omega | assumption | exact one_int _ _ | exact one_slice _ _ _ | exact one_ptr _ | exact one_bool _ | exact one_string _) only [RXA, RXB, Nat.reduceAdd, Nat.reduceLT, wrap_id, wrap_succ, wrap_pred, FX1, e1, e2, hg, hg2, c1, c2]
      refine run_same (r_Ints lf d _ h' p q _ _ r1 r2 l1 l2) (Nat.le_refl _) (fun _ _ h => h.elim) ?_
      by_cases h1 : xss.getD i [] = yss.getD i []
      · rw [decide_eq_true h1, Bool.true_and] at e
        rw [decide_eq_true h1]
        try simp (disch := first | omega | assumption | exact one_int _ _ | exact one_slice _ _ _ | exact one_ptr _ | exact one_bool _ | exact one_string _) only [RXA, RXB, Nat.reduceAdd, Nat.reduceLT, wrap_id, wrap_succ, wrap_pred, FX1, Bool.not_true]
        exact next () _ _ ⟨⟨rfl, rfl⟩, e⟩
      · rw [decide_eq_false h1, Bool.false_and] at e
        rw [decide_eq_false h1, e]
        try simp (disch := first | omega | assumption | exact one_int _ _ | exact one_slice _ _ _ | exact one_ptr _ | exact one_bool _ | exact one_string _) only [RXA, RXB, Nat.reduceAdd, Nat.reduceLT, wrap_id, wrap_succ, wrap_pred, FX1, Bool.not_false]
        rw [kcAa_balerplain_Rows]
        try simp (disch := first | omega | assumption | exact one_int _ _ | exact one_slice _ _ _ | exact one_ptr _ | exact one_bool _ | exact one_string _) only [RXA, RXB, Nat.reduceAdd, Nat.reduceLT, wrap_id, wrap_succ, wrap_pred, FX1]
  · have n1 : (((xss.length : Nat) : Int) != ((yss.length : Nat) : Int)) = true := by simp; omega
    rw [decide_eq_false (fun q => hxy (by rw [q]))]
    try simp (disch := first | omega | assumption | exact one_int _ _ | exact one_slice _ _ _ | exact one_ptr _ | exact one_bool _ | exact one_string _) only [RXA, RXB, Nat.reduceAdd, Nat.reduceLT, wrap_id, wrap_succ, wrap_pred, FX1, n1]
/-- a choice: its tables and its picks -/
structure Choi (h : H) (n : Nat) (v : Value) (L : List (List Int)) (K : List Int) : Prop where
  ex : ∃ x y, v = .agg #[x, y] ∧ RR h n 22 3 x L ∧ Row h n 3 .i64 y K
theorem Choi.keep {h h' : H} {n n' : Nat} {v : Value} {L : List (List Int)} {K : List Int} (x : Choi h n v L K) (hn : n ≤ n') (hk : ∀ b, b < n → h'.get b = h.get b) : Choi h' n' v L K := by
  obtain ⟨x, y, hv, h1, h2⟩ := x.ex
  exact ⟨x, y, hv, h1.keep hn hk, h2.keep hn hk⟩
def ShortL (lf : Nat) (L : List (List Int)) : Prop := (L.length < lf ∧ L.length ≤ 9223372036854775807) ∧ ∀ xs ∈ L, xs.length < lf ∧ xs.length ≤ 9223372036854775807
theorem s_Same (v u : Value) (L L2 : List (List Int)) (K K2 : List Int) (hv : Choi h n v L K) (hu : Choi h n u L2 K2) (hL : ShortL lf L) (hK : K.length < lf ∧ K.length ≤ 9223372036854775807) :
    Run (fun _ => False) n (evCall2 Tryd.prog gt lf (d + 4) 24 #[v, u]) h n fun v' h' n' => v' = .bool (decide (K = K2) && decide (L = L2)) := by
  obtain ⟨x, y, rfl, hx, hy⟩ := hv.ex
  obtain ⟨x2, y2, rfl, hx2, hy2⟩ := hu.ex
  rw [sh_tables_Same]
  refine Run.inside_ ?_
  unfold b_tables_Same
  refine run_box sz25 _ _ ?_
  refine run_box sz25 _ _ ?_
  have cl : ∀ {x y : Value} {L : List (List Int)} {K : List Int} {h : H} {n : Nat}, RR h n 22 3 x L → Row h n 3 .i64 y K → (Value.agg #[x, y]).cells.toList = [x, y] := fun hx hy => by
    obtain ⟨_, _, rfl⟩ := hx.len
    obtain ⟨_, _, rfl⟩ := hy.len
    rfl
  rw [cl hx hy, cl hx2 hy2]
  obtain ⟨h2, hh2⟩ : ∃ h2, (h.set n (some ⟨25, true, [x, y]⟩)).set (n + 1) (some ⟨25, true, [x2, y2]⟩) = h2 := ⟨_, rfl⟩
  have g1 : h2.get n = some ⟨25, true, [x, y]⟩ := by rw [← hh2, get_ne _ _ (by omega), get_eq]
  have g2 : h2.get (n + 1) = some ⟨25, true, [x2, y2]⟩ := by rw [← hh2, get_eq]
  have hk : ∀ b, b < n → h2.get b = h.get b := fun b hb => by rw [← hh2, get_ne _ _ (by omega), get_ne _ _ (by omega)]
  rw [hh2]
  have l1 : n < n + 1 + 1 := by omega
  have l2 : n + 1 < n + 1 + 1 := by omega
  try simp (disch := first | omega | assumption | exact one_int _ _ | exact one_slice _ _ _ | exact one_ptr _ | exact one_bool _ | exact one_string _) only [RXA, RXB, Nat.reduceAdd, Nat.reduceLT, wrap_id, wrap_succ, wrap_pred, FX1, g1, g2]
  refine run_same (s_Equal lf (d + 2) _ h2 y y2 K K2 (hy.keep (by omega) hk) (hy2.keep (by omega) hk) hK.1 hK.2) (by omega) (fun _ _ h => h.elim) ?_
  by_cases e : K = K2
  · rw [decide_eq_true e]
    try simp (disch := first | omega | assumption | exact one_int _ _ | exact one_slice _ _ _ | exact one_ptr _ | exact one_bool _ | exact one_string _) only [RXA, RXB, Nat.reduceAdd, Nat.reduceLT, wrap_id, wrap_succ, wrap_pred, FX1, g1, g2]
    refine run_same (s_EqualFunc lf d _ h2 x x2 L L2 (hx.keep (by omega) hk) (hx2.keep (by omega) hk) hL.1.1 hL.1.2 hL.2) (by omega) (fun _ _ h => h.elim) ?_
    try simp (disch := first | omega | assumption | exact one_int _ _ | exact one_slice _ _ _ | exact one_ptr _ | exact one_bool _ | exact one_string _) only [RXA, RXB, Nat.reduceAdd, Nat.reduceLT, wrap_id, wrap_succ, wrap_pred, FX1, Bool.true_and]
  · rw [decide_eq_false e]
    try simp (disch := first | omega | assumption | exact one_int _ _ | exact one_slice _ _ _ | exact one_ptr _ | exact one_bool _ | exact one_string _) only [RXA, RXB, Nat.reduceAdd, Nat.reduceLT, wrap_id, wrap_succ, wrap_pred, FX1, Bool.false_and]
theorem r_Same (v u : Value) (L L2 : List (List Int)) (K K2 : List Int) (hv : Choi h n v L K) (hu : Choi h n u L2 K2) (hL : ShortL lf L) (hK : K.length < lf ∧ K.length ≤ 9223372036854775807) :
    Run (fun _ => False) n (evCall2 Tryd.prog gt lf (d + 3) 25 #[v, u]) h n fun v' h' n' => v' = .bool (decide (K = K2) && decide (L = L2)) := by
  obtain ⟨x, y, rfl, hx, hy⟩ := hv.ex
  obtain ⟨x2, y2, rfl, hx2, hy2⟩ := hu.ex
  rw [sh_balerref12_Same]
  refine Run.inside_ ?_
  unfold b_balerref12_Same
  refine run_box sz47 _ _ ?_
  refine run_box sz47 _ _ ?_
  have cl : ∀ {x y : Value} {L : List (List Int)} {K : List Int} {h : H} {n : Nat}, RR h n 22 3 x L → Row h n 3 .i64 y K → (Value.agg #[x, y]).cells.toList = [x, y] := fun hx hy => by
    obtain ⟨_, _, rfl⟩ := hx.len
    obtain ⟨_, _, rfl⟩ := hy.len
    rfl
  rw [cl hx hy, cl hx2 hy2]
  obtain ⟨h2, hh2⟩ : ∃ h2, (h.set n (some ⟨47, true, [x, y]⟩)).set (n + 1) (some ⟨47, true, [x2, y2]⟩) = h2 := ⟨_, rfl⟩
  have g1 : h2.get n = some ⟨47, true, [x, y]⟩ := by rw [← hh2, get_ne _ _ (by omega), get_eq]
  have g2 : h2.get (n + 1) = some ⟨47, true, [x2, y2]⟩ := by rw [← hh2, get_eq]
  have hk : ∀ b, b < n → h2.get b = h.get b := fun b hb => by rw [← hh2, get_ne _ _ (by omega), get_ne _ _ (by omega)]
  rw [hh2]
  have l1 : n < n + 1 + 1 := by omega
  have l2 : n + 1 < n + 1 + 1 := by omega
  try simp (disch := first | omega | assumption | exact one_int _ _ | exact one_slice _ _ _ | exact one_ptr _ | exact one_bool _ | exact one_string _) only [RXA, RXB, Nat.reduceAdd, Nat.reduceLT, wrap_id, wrap_succ, wrap_pred, FX1, g1, g2]
  refine run_same (r_Ints lf (d + 1) _ h2 y y2 K K2 (hy.keep (by omega) hk) (hy2.keep (by omega) hk) hK.1 hK.2) (by omega) (fun _ _ h => h.elim) ?_
  by_cases e : K = K2
  · rw [decide_eq_true e]
    try simp (disch := first | omega | assumption | exact one_int _ _ | exact one_slice _ _ _ | exact one_ptr _ | exact one_bool _ | exact one_string _) only [RXA, RXB, Nat.reduceAdd, Nat.reduceLT, wrap_id, wrap_succ, wrap_pred, FX1, g1, g2]
    refine run_same (r_Rows lf d _ h2 x x2 L L2 (hx.keep (by omega) hk) (hx2.keep (by omega) hk) hL.1.1 hL.1.2 hL.2) (by omega) (fun _ _ h => h.elim) ?_
    try simp (disch := first | omega | assumption | exact one_int _ _ | exact one_slice _ _ _ | exact one_ptr _ | exact one_bool _ | exact one_string _) only [RXA, RXB, Nat.reduceAdd, Nat.reduceLT, wrap_id, wrap_succ, wrap_pred, FX1, Bool.true_and]
  · rw [decide_eq_false e]
    try simp (disch := first | omega | assumption | exact one_int _ _ | exact one_slice _ _ _ | exact one_ptr _ | exact one_bool _ | exact one_string _) only [RXA, RXB, Nat.reduceAdd, Nat.reduceLT, wrap_id, wrap_succ, wrap_pred, FX1, Bool.false_and]
end
end Go.Proofs.YtdagfcflbphoiaaDoor
/- Arguments opened: rows of numbers, rows of rows. No program in sight. -/
namespace Go.Proofs.YtdagfcflbphoiaaDoor.Ev
set_option linter.unusedVariables false
set_option linter.unusedSimpArgs false
open Go Go.RowKit
section
variable {P : Program} {h : H} {n f : Nat} {t e : TypeId} {v : Value}
theorem rep_cells1 (hu : P.underlying t = some (.slice e)) (hce : cellTs P 8 e = some [e]) (x : RepH1 P h n (f + 1) t v) : ∃ cs, VRow h n e v cs ∧ cs.length ≤ maxLen ∧ ∀ c ∈ cs, RepH1 P h n f e c := by
  unfold RepH1 at x
  rw [hu] at x
  rcases x with ⟨a, rfl, hne⟩ | ⟨b, len, ts, cs, rfl, ht, h0, hg, hb, hl, hm, hall⟩
  · exact ⟨[], .inl ⟨a, 0, rfl, hne, rfl⟩, Nat.zero_le _, fun c hc => by cases hc⟩
  · rw [hce] at ht
    cases ht
    have hl : cs.length = len := by simpa using hl
    refine ⟨cs, .inr ⟨b, 0, CAP + len, false, cs, by rw [hl], hg, hb, by omega, by rw [List.drop_zero, List.take_length], by omega⟩, by omega, fun c hc => ?_⟩
    obtain ⟨i, hi, rfl⟩ := List.mem_iff_getElem.1 hc
    have q := hall i (by omega)
    have e1 : (cs.drop (i * [e].length)).take [e].length = [cs[i]] := by
      simp only [List.length_cons, List.length_nil, Nat.zero_add, Nat.mul_one]
      rw [List.drop_eq_getElem_cons hi, List.take_succ_cons, List.take_zero]
    rw [e1] at q
    exact q.1
theorem VRow.row {k : IntKind} {xs : List Int} (r : VRow h n e v (intsV k xs)) : Row h n e k v xs := by
  rcases r with ⟨a, c, rfl, hne, hx⟩ | ⟨b, off, cap, o, ks, hv, hg, hb, hl, ht, hc⟩
  · exact .inl ⟨a, c, rfl, hne, by unfold intsV at hx; simpa using hx⟩
  · rw [intsV_len] at hv hl ht hc
    exact .inr ⟨b, off, cap, o, ks, hv, hg, hb, hl, ht, hc⟩
theorem list_choose {α β : Type} {R : α → β → Prop} (da : α) (d : β) : ∀ {l : List α}, (∀ a ∈ l, ∃ b, R a b) → ∃ m : List β, m.length = l.length ∧ ∀ i, i < l.length → R (l.getD i da) (m.getD i d)
  | [], _ => ⟨[], rfl, fun i hi => absurd hi (Nat.not_lt_zero i)⟩
  | a :: l, hl => by
    obtain ⟨b, hb⟩ := hl a List.mem_cons_self
    obtain ⟨m, h1, h2⟩ := list_choose da d (l := l) fun x hx => hl x (List.mem_cons_of_mem _ hx)
    refine ⟨b :: m, by simp [h1], fun i hi => ?_⟩
    cases i with
    | zero => exact hb
    | succ i => exact h2 i (by simpa using hi)
theorem rep_row {k : IntKind} (hu : P.underlying t = some (.slice e)) (hce : cellTs P 8 e = some [e]) (he : P.underlying e = some (.int k)) (x : RepH1 P h n (f + 2) t v) : ∃ xs, Row h n e k v xs ∧ xs.length ≤ maxLen ∧ ∀ y ∈ xs, (Lit.int k y).wf = true := by
  obtain ⟨cs, r, hm, hc⟩ := rep_cells1 hu hce x
  obtain ⟨xs, hl, hx⟩ := list_choose (R := fun c (y : Int) => c = .int k y ∧ (Lit.int k y).wf = true) undef 0 fun c q => rep_int he (hc c q)
  have e1 : cs = intsV k xs := by
    apply List.ext_getElem
    · rw [intsV_len, hl]
    · intro i h1 h2
      have := (hx i h1).1
      rw [List.getD_eq_getElem?_getD, List.getElem?_eq_getElem h1] at this
      have h3 := intsV_at (k := k) (xs := xs) (i := i) (by omega)
      rw [List.getElem?_eq_getElem h2] at h3
      rw [Option.some.inj h3]
      exact this
  rw [e1] at r
  refine ⟨xs, r.row, by omega, fun y hy => ?_⟩
  obtain ⟨i, hi, rfl⟩ := List.mem_iff_getElem.1 hy
  have := (hx i (by omega)).2
  rw [List.getD_eq_getElem?_getD, List.getElem?_eq_getElem hi] at this
  exact this
theorem rep_rr {t2 : TypeId} (hu2 : P.underlying t2 = some (.slice t)) (hct : cellTs P 8 t = some [t]) (hu : P.underlying t = some (.slice e)) (hce : cellTs P 8 e = some [e]) (he : P.underlying e = some (.int .i64)) (x : RepH1 P h n (f + 3) t2 v) : ∃ xss, RR h n t e v xss ∧ xss.length ≤ maxLen ∧ ∀ xs ∈ xss, xs.length ≤ maxLen ∧ ∀ y ∈ xs, (Lit.int .i64 y).wf = true := by
  obtain ⟨cs, r, hm, hc⟩ := rep_cells1 hu2 hct x
  obtain ⟨xss, hl, hx⟩ := list_choose (R := fun c (xs : List Int) => Row h n e .i64 c xs ∧ xs.length ≤ maxLen ∧ ∀ y ∈ xs, (Lit.int .i64 y).wf = true) undef [] fun c q => rep_row hu hce he (hc c q)
  refine ⟨xss, ⟨cs, r, hl.symm, fun i hi => (hx i (by omega)).1⟩, by omega, fun xs hxs => ?_⟩
  obtain ⟨i, hi, rfl⟩ := List.mem_iff_getElem.1 hxs
  have := (hx i (by omega)).2
  rw [List.getD_eq_getElem?_getD, List.getElem?_eq_getElem hi] at this
  exact this
end
section
variable {β : Type} {W : Nat → Prop} {n0 : Nat} {h : H} {n m : Nat} {Q : β → H → Nat → Prop} {P : Program}
theorem rdN_run2 {b : Nat} {B : AB} (hg : h.get b = some B) (hb : b < n) : ∀ (c k : Nat), k + c ≤ B.cells.length → ∃ L, rdN b k c h n = some ⟨(B.cells.drop k).take c, h, n, L⟩ ∧ ∀ e ∈ L, e.wr = false ∧ e.b = b
  | 0, k, _ => ⟨[], by rw [List.take_zero]; rfl, by simp⟩
  | c + 1, k, hk => by
    obtain ⟨L, e, hL⟩ := rdN_run2 hg hb c (k + 1) (by omega)
    have hk2 : k < B.cells.length := by omega
    refine ⟨[⟨false, b, some k⟩] ++ (L ++ []), ?_, ?_⟩
    · unfold rdN
      have e0 : rd b k h n = some ⟨B.cells[k], h, n, [⟨false, b, some k⟩]⟩ := by
        unfold rd
        simp only [hb, hg, if_true, List.getElem?_eq_getElem hk2]
      refine bind_run e0 (bind_run e ?_)
      rw [List.drop_eq_getElem_cons hk2, List.take_succ_cons]
      rfl
    · intro x hx
      simp only [List.append_nil, List.mem_append, List.mem_cons, List.not_mem_nil, or_false] at hx
      rcases hx with rfl | hx
      · exact ⟨rfl, rfl⟩
      · exact hL x hx
theorem timed_ldaB {t : TypeId} {sz : Nat} (ha : agg? P t = some true) (hs : size? P t = some sz) (b off : Nat) (k : Value × Tk → M β) {B : AB} (hg : h.get b = some B) (hb : b < n) (hl : off + sz ≤ B.cells.length) (x : ∀ T, (∀ m, b < m → m ≤ n → RB T m) → Run W n0 (k (.agg ((B.cells.drop off).take sz).toArray, T)) h n Q) :
    Run W n0 ((timed ((inside (evLoad P t (.pointer (some ⟨b, off, none⟩)))).bind fun v => M.ret v)).bind k) h n Q := by
  obtain ⟨L, e1, e2⟩ := rdN_run2 (n := n) hg hb sz off hl
  have e : evLoad P t (.pointer (some ⟨b, off, none⟩)) h n = some ⟨.agg ((B.cells.drop off).take sz).toArray, h, n, L ++ []⟩ := by
    unfold evLoad
    simp only [ha, hs]
    exact bind_run e1 rfl
  have e3 := inside_run e
  rw [List.append_nil] at e3
  have hf : ∀ y ∈ L.filter (fun e => !(decide (n ≤ e.b) && decide (e.b < n))), y.wr = false ∧ y.b = b := fun y hy => e2 y (List.mem_filter.1 hy).1
  exact timed_step (ret_tail e3) (Nat.le_refl _) (fun y hy hw => by rw [(hf y hy).1] at hw; cases hw) (x _ fun m hb hm => ⟨fun y hy => (hf y hy).1, fun y hy => by rw [(hf y hy).2]; exact hb, hm⟩)
/-- a call that is told, and writes nothing that was there -/
theorem timed_callB' (hd : okDsts P = true) {gt : Nat → List Nat} {lf d : Nat} {f : FuncId} {args : Array Value} {Q' : Value → H → Nat → Prop} (s : Run (fun _ => False) n (evCall2 P gt lf d f args) h n Q') (hn : n0 ≤ n) {k : Value × Tk → M β}
    (x : ∀ v h1 n1 T, n ≤ n1 → (∀ b, b < n → h1.get b = h.get b) → Q' v h1 n1 → Run W n0 (k (v, T)) h1 n1 Q) : Run W n0 ((timed ((inside (evCall2 P gt lf d f args)).bind fun v => M.ret v)).bind k) h n Q :=
  timed_callB hd s hn fun v h1 n1 T a b c _ => x v h1 n1 T a b c
end
end Go.Proofs.YtdagfcflbphoiaaDoor.Ev
/- The statements TablesOf and TablesSame. -/
namespace Go.Proofs.YtdagfcflbphoiaaDoor
set_option linter.unusedVariables false
set_option linter.unusedSimpArgs false
open Go.RowKit Ev Tb

theorem the_law' {f : FuncId} {ts : List TypeId} {vs : List Value} {w : World} {lf d : Nat} (hw : Ev.GlobAt w) (ha : All2 (ArgR Tryd.prog w) ts vs) (r : ∀ n h vs0, Gd h n → All2 (ArgH Tryd.prog h n) ts vs0 → Run (fun _ => False) n (evCall2 Tryd.prog gt lf d f vs0.toArray) h n fun v _ _ => v = .bool true) :
    Calls Tryd.prog f vs.toArray w fun e w' => e = .returned (.bool true) ∧ Below w.heap.size w w' := by
  obtain ⟨m, x⟩ := laid_hG hw
  exact Ev.law_of ev_names ev_progK ev_mix known okd ha x fun n h vs0 hn hg q => r n h vs0 (Gd.of hn (by rw [hg _ (by decide +kernel)]; exact get_eq _ _ _)) q
theorem ct_ints : cellTs Tryd.prog 8 22 = some [22] := by kernel_rfl
theorem ct_int : cellTs Tryd.prog 8 3 = some [3] := by kernel_rfl
theorem ct_cho : cellTs Tryd.prog 8 25 = some [23, 22] := by kernel_rfl
theorem ag_cho : isAggT Tryd.prog 25 = true := by kernel_rfl
theorem a_cho {h : H} {n : Nat} {v : Value} (x : ArgH Tryd.prog h n 25 v) : ∃ L K, Choi h n v L K ∧ L.length ≤ 9223372036854775807 ∧ K.length ≤ 9223372036854775807 ∧ (∀ y ∈ K, -9223372036854775808 ≤ y ∧ y ≤ 9223372036854775807) ∧ ∀ l ∈ L, l.length ≤ 9223372036854775807 ∧ ∀ y ∈ l, -9223372036854775808 ≤ y ∧ y ≤ 9223372036854775807 := by
  obtain ⟨cs, rfl, q⟩ := argH_agg ct_cho ag_cho x
  obtain ⟨a, b, rfl, q1, q2⟩ := all2_2 q
  obtain ⟨L, h1, h2, h3⟩ := rep_rr (f := 5) Tryd.underlying23 ct_ints Tryd.underlying22 ct_int Tryd.underlying3 q1
  obtain ⟨K, k1, k2, k3⟩ := rep_row (f := 6) Tryd.underlying22 ct_int Tryd.underlying3 q2
  exact ⟨L, K, ⟨a, b, rfl, h1, k1⟩, h2, k2, fun y hy => wf64 (k3 y hy), fun l hl => ⟨(h3 l hl).1, fun y hy => wf64 ((h3 l hl).2 y hy)⟩⟩
theorem Choi.agg {h : H} {n : Nat} {v : Value} {L : List (List Int)} {K : List Int} (x : Choi h n v L K) : ∃ a c a2 c2, v = .agg #[.slice a L.length c, .slice a2 K.length c2] ∧ RR h n 22 3 (.slice a L.length c) L ∧ Row h n 3 .i64 (.slice a2 K.length c2) K := by
  obtain ⟨x, y, rfl, h1, h2⟩ := x.ex
  have h10 := h1
  have h20 := h2
  obtain ⟨a, c, rfl⟩ := h1.len
  obtain ⟨a2, c2, rfl⟩ := h2.len
  exact ⟨a, c, a2, c2, rfl, h10, h20⟩
section
variable (lf d n : Nat) (h : H)
/-- the reference's form of a choice -/
theorem s_ref (v : Value) (L : List (List Int)) (K : List Int) (x : Choi h n v L K) : Run (fun _ => False) n (evCall2 Tryd.prog gt lf (d + 1) 26 #[v]) h n fun v' h' n' => v' = v := by
  obtain ⟨a, c, a2, c2, rfl, _, _⟩ := x.agg
  rw [sh_balerlaw12_ref]
  refine Run.inside_ ?_
  unfold b_balerlaw12_ref
  refine run_box sz25 _ _ ?_
  refine run_alloc zr47 _ ?_
  have g1 : ((h.set n (some ⟨25, true, (Value.agg #[.slice a L.length c, .slice a2 K.length c2]).cells.toList⟩)).set (n + 1) (some ⟨47, true, (Value.agg #[Value.slice none 0 0, Value.slice none 0 0]).cells.toList⟩)).get n = some ⟨25, true, [.slice a L.length c, .slice a2 K.length c2]⟩ := by rw [get_ne _ _ (by omega), get_eq]; rfl
  have l1 : n < n + 1 + 1 := by omega
  try simp (disch := first | omega | assumption | exact one_int _ _ | exact one_slice _ _ _ | exact one_ptr _ | exact one_bool _ | exact one_string _) only [RXA, RXB, Nat.reduceAdd, Nat.reduceLT, wrap_id, wrap_succ, wrap_pred, FX1, g1]
  refine run_sta (cs := [.slice none 0 0, .slice none 0 0]) sz47 (vs := [.slice a L.length c, .slice a2 K.length c2]) rfl rfl rfl (get_eq _ _ _) (by omega) (Nat.le_refl _) (.inl (by omega)) _ fun h5 hg5 k5 => ?_
  refine run_lda0 aga47 sz47 _ _ _ hg5 (by omega) (by simp) ?_
  try simp (disch := first | omega | assumption | exact one_int _ _ | exact one_slice _ _ _ | exact one_ptr _ | exact one_bool _ | exact one_string _) only [RXA, RXB, Nat.reduceAdd, Nat.reduceLT, wrap_id, wrap_succ, wrap_pred, FX1]
  rfl
variable (hlf : 3000000 ≤ lf) (hd : 700 ≤ d)
include hlf hd
end
end Go.Proofs.YtdagfcflbphoiaaDoor
/- The statement TablesSame. -/
namespace Go.Proofs.YtdagfcflbphoiaaDoor
set_option linter.unusedVariables false
set_option linter.unusedSimpArgs false
open Go.RowKit Ev Tb

theorem beqB (a b : Bool) : bin2 Tryd.prog .eql 4 (.bool a) (.bool b) = some (.bool (a == b)) := by cases a <;> cases b <;> kernel_rfl
section
variable (lf d n : Nat) (h : H) (hlf : 9223372036854775808 ≤ lf) (hd : 700 ≤ d)
include hlf hd
set_option maxHeartbeats 1000000 in
theorem law_TSame (v u : Value) (L L2 : List (List Int)) (K K2 : List Int) (g : Gd h n) (hv : Choi h n v L K) (hu : Choi h n u L2 K2) (hL : L.length ≤ 9223372036854775807 ∧ ∀ l ∈ L, l.length ≤ 9223372036854775807) (hK : K.length ≤ 9223372036854775807) :
    Run (fun _ => False) n (evCall2 Tryd.prog gt lf d 7 #[v, u]) h n fun v' _ _ => v' = .bool true := by
  obtain ⟨d, rfl⟩ : ∃ e, d = e + 8 := ⟨d - 8, by omega⟩
  have sL : ShortL lf L := ⟨⟨by omega, hL.1⟩, fun l hl => ⟨by have := hL.2 l hl; omega, hL.2 l hl⟩⟩
  have sK : K.length < lf ∧ K.length ≤ 9223372036854775807 := ⟨by omega, hK⟩
  rw [sh_balerlaw12_TablesSame]
  refine Run.inside_ ?_
  unfold b_balerlaw12_TablesSame
  have hv0 := hv
  have hu0 := hu
  obtain ⟨a, c, a2, c2, rfl, hx, hy⟩ := hv.agg
  obtain ⟨a3, c3, a4, c4, rfl, hx2, hy2⟩ := hu.agg
  refine run_box sz25 _ _ ?_
  refine run_box sz25 _ _ ?_
  obtain ⟨h2, hh2⟩ : ∃ h2, (h.set n (some ⟨25, true, (Value.agg #[.slice a L.length c, .slice a2 K.length c2]).cells.toList⟩)).set (n + 1) (some ⟨25, true, (Value.agg #[.slice a3 L2.length c3, .slice a4 K2.length c4]).cells.toList⟩) = h2 := ⟨_, rfl⟩
  have g1 : h2.get n = some ⟨25, true, [.slice a L.length c, .slice a2 K.length c2]⟩ := by rw [← hh2, get_ne _ _ (by omega), get_eq]; rfl
  have g2 : h2.get (n + 1) = some ⟨25, true, [.slice a3 L2.length c3, .slice a4 K2.length c4]⟩ := by rw [← hh2, get_eq]; rfl
  have hk : ∀ b, b < n → h2.get b = h.get b := fun b hb => by rw [← hh2, get_ne _ _ (by omega), get_ne _ _ (by omega)]
  rw [hh2]
  have l1 : n < n + 1 + 1 := by omega
  have l2 : n + 1 < n + 1 + 1 := by omega
  have gd2 := g.keep (show n ≤ n + 1 + 1 by omega) hk
  have three := run_three (lf := lf) (d := d + 6) (W := fun _ => False) (show n ≤ n + 1 + 1 by omega) gd2
  by_cases c1 : 8 < L.length
  · have e1 : (8 : Int) < ((L.length : Nat) : Int) := by omega
    try simp (disch := first | omega | assumption | exact one_int _ _ | exact one_slice _ _ _ | exact one_ptr _ | exact one_bool _ | exact one_string _) only [RXA, RXB, Nat.reduceAdd, Nat.reduceLT, wrap_id, wrap_succ, wrap_pred, FX1, g1, e1]
    exact three
  have e1 : ¬ (8 : Int) < ((L.length : Nat) : Int) := by omega
  by_cases c2' : 8 < L2.length
  · have e2 : (8 : Int) < ((L2.length : Nat) : Int) := by omega
    try simp (disch := first | omega | assumption | exact one_int _ _ | exact one_slice _ _ _ | exact one_ptr _ | exact one_bool _ | exact one_string _) only [RXA, RXB, Nat.reduceAdd, Nat.reduceLT, wrap_id, wrap_succ, wrap_pred, FX1, g1, g2, e1, e2]
    exact three
  have e2 : ¬ (8 : Int) < ((L2.length : Nat) : Int) := by omega
  by_cases c3' : 50 < K.length
  · have e3 : (50 : Int) < ((K.length : Nat) : Int) := by omega
    try simp (disch := first | omega | assumption | exact one_int _ _ | exact one_slice _ _ _ | exact one_ptr _ | exact one_bool _ | exact one_string _) only [RXA, RXB, Nat.reduceAdd, Nat.reduceLT, wrap_id, wrap_succ, wrap_pred, FX1, g1, g2, e1, e2, e3]
    exact three
  have e3 : ¬ (50 : Int) < ((K.length : Nat) : Int) := by omega
  by_cases c4' : 50 < K2.length
  · have e4 : (50 : Int) < ((K2.length : Nat) : Int) := by omega
    try simp (disch := first | omega | assumption | exact one_int _ _ | exact one_slice _ _ _ | exact one_ptr _ | exact one_bool _ | exact one_string _) only [RXA, RXB, Nat.reduceAdd, Nat.reduceLT, wrap_id, wrap_succ, wrap_pred, FX1, g1, g2, e1, e2, e3, e4]
    exact three
  have e4 : ¬ (50 : Int) < ((K2.length : Nat) : Int) := by omega
  try simp (disch := first | omega | assumption | exact one_int _ _ | exact one_slice _ _ _ | exact one_ptr _ | exact one_bool _ | exact one_string _) only [RXA, RXB, Nat.reduceAdd, Nat.reduceLT, wrap_id, wrap_succ, wrap_pred, FX1, g1, g2, e1, e2, e3, e4]
  refine timed_ldaB aga25 sz25 _ _ _ g1 l1 (by simp) fun T1 t1 => ?_
  refine timed_ldaB aga25 sz25 _ _ _ g2 l2 (by simp) fun T2 t2 => ?_
  have ch1 : Choi h2 (n + 1 + 1) (.agg #[.slice a L.length c, .slice a2 K.length c2]) L K := hv0.keep (by omega) hk
  have ch2 : Choi h2 (n + 1 + 1) (.agg #[.slice a3 L2.length c3, .slice a4 K2.length c4]) L2 K2 := hu0.keep (by omega) hk
  refine timed_callB okd (s_Same lf (d + 3) _ h2 _ _ L L2 K K2 ch1 ch2 sL sK) (by omega) fun v3 h3 n3 T3 hn3 fr3 hq3 t3 => ?_
  have hq3 : v3 = .bool (decide (K = K2) && decide (L = L2)) := hq3
  subst hq3
  have g13 := (fr3 n l1).trans g1
  have g23 := (fr3 (n + 1) l2).trans g2
  refine timed_ldaB aga25 sz25 _ _ _ g13 (by omega) (by simp) fun T4 t4 => ?_
  refine timed_callB okd (s_ref lf (d + 6) n3 h3 _ L K (ch1.keep hn3 fr3)) (by omega) fun v5 h5 n5 T5 hn5 fr5 hq5 t5 => ?_
  have hq5 : v5 = .agg #[.slice a L.length c, .slice a2 K.length c2] := hq5
  subst hq5
  have g25 := (fr5 (n + 1) (by omega)).trans g23
  refine timed_ldaB aga25 sz25 _ _ _ g25 (by omega) (by simp) fun T6 t6 => ?_
  have ch25 := (ch2.keep hn3 fr3).keep hn5 fr5
  have ch15 := (ch1.keep hn3 fr3).keep hn5 fr5
  refine timed_callB' okd (s_ref lf (d + 6) n5 h5 _ L2 K2 ch25) (by omega) fun v7 h7 n7 T7 hn7 fr7 hq7 => ?_
  have hq7 : v7 = .agg #[.slice a3 L2.length c3, .slice a4 K2.length c4] := hq7
  subst hq7
  refine timed_callB' okd (r_Same lf (d + 4) n7 h7 _ _ L L2 K K2 (ch15.keep hn7 fr7) (ch25.keep hn7 fr7) sL sK) (by omega) fun v8 h8 n8 T8 hn8 fr8 hq8 => ?_
  have hq8 : v8 = .bool (decide (K = K2) && decide (L = L2)) := hq8
  subst hq8
  have k8 : ∀ b, b < n + 1 + 1 → h8.get b = h2.get b := fun b hb => by rw [fr8 b (by omega), fr7 b (by omega), fr5 b (by omega), fr3 b hb]
  have g18 := (k8 n l1).trans g1
  have x34 := t3.clash (t4 (n + 1 + 1) (by omega) (by omega))
  have x36 := t3.clash (t6 (n + 1 + 1) (by omega) (by omega))
  have x56 := t5.clash (t6 n3 (by omega) (by omega))
  have bb : ((decide (K = K2) && decide (L = L2)) == (decide (K = K2) && decide (L = L2))) = true := by cases (decide (K = K2) && decide (L = L2)) <;> rfl
  simp only [beqB, bb]
  try simp (disch := first | omega | assumption | exact one_int _ _ | exact one_slice _ _ _ | exact one_ptr _ | exact one_bool _ | exact one_string _) only [RXA, RXB, Nat.reduceAdd, Nat.reduceLT, wrap_id, wrap_succ, wrap_pred, FX1]
  refine timed_ldaB aga25 sz25 _ _ _ g18 (by omega) (by simp) fun T9 t9 => ?_
  refine timed_ldaB aga25 sz25 _ _ _ g18 (by omega) (by simp) fun T10 t10 => ?_
  have ch18 := ch1.keep (show n + 1 + 1 ≤ n8 by omega) k8
  refine timed_callB' okd (s_Same lf (d + 3) n8 h8 _ _ L L K K ch18 ch18 sL sK) (by omega) fun v9 h9 n9 T11 hn9 fr9 hq9 => ?_
  have hq9 : v9 = .bool (decide (K = K) && decide (L = L)) := hq9
  subst hq9
  simp only [decide_true, Bool.and_self]
  try simp (disch := first | omega | assumption | exact one_int _ _ | exact one_slice _ _ _ | exact one_ptr _ | exact one_bool _ | exact one_string _) only [RXA, RXB, Nat.reduceAdd, Nat.reduceLT, wrap_id, wrap_succ, wrap_pred, FX1]
  have gd9 := (gd2.keep (show n + 1 + 1 ≤ n8 by omega) k8).keep hn9 fr9
  refine timed_callB' okd (k_three lf (d + 6) n9 h9 gd9) (by omega) fun v10 h10 n10 T12 hn10 fr10 hq10 => ?_
  obtain ⟨hq10, _, _⟩ := hq10
  subst hq10
  simp only [x34, x36, x56, Bool.not_false, Bool.and_self, chk_true]
  try simp (disch := first | omega | assumption | exact one_int _ _ | exact one_slice _ _ _ | exact one_ptr _ | exact one_bool _ | exact one_string _) only [RXA, RXB, Nat.reduceAdd, Nat.reduceLT, wrap_id, wrap_succ, wrap_pred, FX1]
end
theorem call_TSame {w : World} (hw : Ev.GlobAt w) {vs : List Value} (ha : All2 (ArgR Tryd.prog w) [25, 25] vs) : Calls Tryd.prog 7 vs.toArray w fun e w' => e = .returned (.bool true) ∧ Below w.heap.size w w' :=
  the_law' (lf := 9223372036854775808) (d := 700) hw ha fun n h vs0 g q => by
    obtain ⟨a, b, rfl, h1, h2⟩ := Ev.all2_2 q
    obtain ⟨L, K, hv, l1, l2, _, l3⟩ := a_cho h1
    obtain ⟨L2, K2, hu, _⟩ := a_cho h2
    exact law_TSame 9223372036854775808 700 n h (by decide) (by decide) a b L L2 K K2 g hv hu ⟨l1, fun l hl => (l3 l hl).1⟩ l2
end Go.Proofs.YtdagfcflbphoiaaDoor
