import Derived.Test.YtdagfcflbphoiaaGreatDoorMas
namespace Go.Proofs.YtdagfcflbphoiaaGreatDoor
set_option linter.unusedVariables false
set_option linter.unusedSimpArgs false
open Go.RowKit Ev Cn

def stepS (c : Cd) (bs : List Bool) : St (Nat × Cd) :=
  if c.took.length ≤ c.count / 50 then .bad 25 else
  match getC (c.codes.getD (c.took.getD (c.count / 50) 0) []) bs with
  | none => .short
  | some s => .ok (s, { c with count := c.count + 1, done := decide (s + 1 = c.size) }) ((c.codes.getD (c.took.getD (c.count / 50) 0) []).getD s 0)
section
variable {lf d n z p : Nat} {h : H} {S : List UInt8} {D A : Nat} {c : Cd} {m : Cm}
theorem zcjx (x : RdAt h n p S D A) (y : CAt h n z p c m) (ap : Apt p z m) (ht : ∀ v ∈ c.took, v < c.codes.length) (hw : ∀ l ∈ c.codes, Wh l ∧ l.length = c.size) (h258 : c.size ≤ 258) (hc : c.count ≤ 1000000000000000) (hlf : 100 ≤ lf) :
    Run (fun b => b = p ∨ m.F z b) n (zaac Tryz.prog gt lf (d + 6) 58 #[.pointer (some ⟨z, 0, none⟩), .pointer (some ⟨p, 0, none⟩)]) h n fun v' h' n' =>
      match stepS c (restB S D A) with
      | .short => v' = .tuple #[.int .i64 (-1), .int .i64 3] ∧ RdAt h' n' p S D A ∧ CAt h' n' z p c m
      | .bad e => v' = .tuple #[.int .i64 (-1), .int .i64 e] ∧ RdAt h' n' p S D A ∧ CAt h' n' z p c m
      | .ok (s, c') u => v' = .tuple #[.int .i64 (s : Int), .int .i64 0] ∧ RdAt h' n' p S D (A + u) ∧ CAt h' n' z p c' m := by
  have g := y.get
  have hz := y.lt
  unfold cdB at g
  have hpz : p ≠ z := fun e => ap.f (.inl e)
  have hpn := x.lt
  have z0 : ((0 : Int) != 0) = false := rfl
  have z3 : ((3 : Int) != 0) = true := rfl
  have e50 : ((c.count : Nat) : Int).tdiv 50 = ((c.count / 50 : Nat) : Int) := rfl
  have lt := zadn c.took
  rw [zbbv]
  refine Run.inside_ ?_
  unfold zaqb stepS
  by_cases hb : c.took.length ≤ c.count / 50
  · rw [if_pos hb]
    obtain ⟨a, cc, htv⟩ := y.took.len
    rw [htv] at g
    have c1 : ((((iN c.took).length : Nat)) : Int) ≤ ((c.count / 50 : Nat) : Int) := by omega
    try simp (disch := first | omega | assumption | exact zaae _ _ | exact zaab _ _ _ | exact zaaf _ | exact zaad _ | exact zaaa _) only [Nat.reduceAdd, Nat.reduceLT, RZ, g, e50, c1]
    exact ⟨x, y⟩
  · rw [if_neg hb]
    obtain ⟨b, off, cap, o, ks, htv, hg, hbn, hv⟩ := y.took.some (by omega)
    have c1 : ¬ ((((iN c.took).length : Nat)) : Int) ≤ ((c.count / 50 : Nat) : Int) := by omega
    rw [htv] at g
    obtain ⟨tab, htab⟩ : ∃ t, c.took.getD (c.count / 50) 0 = t := ⟨_, rfl⟩
    have hv4 : ks[off + c.count / 50]? = some (.int .i64 (tab : Int)) := by
      rw [hv.2.2.2 _ (by omega), iN_at, htab]
    have htl : tab < c.codes.length := by
      refine ht tab ?_
      rw [← htab, List.getD_eq_getElem?_getD, List.getElem?_eq_getElem (by omega)]
      exact List.getElem_mem _
    obtain ⟨w, hwi, kc, hpw, hwn, hwf⟩ := y.code tab htl
    have hmi := y.ivl
    obtain ⟨bc, hcv, hgc, hbc⟩ : ∃ bc, m.cv = .slice (some ⟨bc, 0, none⟩) m.iv.length (CAP + m.iv.length) ∧ h.get bc = some ⟨72, true, m.iv.map fun x => .pointer (some ⟨x.2.2, 0, none⟩)⟩ ∧ bc < n := by
      rcases y.cs with ⟨_, e⟩ | ⟨bc, h1, h2, _, h4⟩
      · have : m.iv.length = 0 := by rw [List.map_eq_nil_iff] at e; rw [e]; rfl
        omega
      · rw [List.length_map] at h1
        exact ⟨bc, h1, h2, h4⟩
    rw [hcv] at g
    have hcell : (m.iv.map fun x => Value.pointer (some ⟨x.2.2, 0, none⟩))[tab]? = some (.pointer (some ⟨w.2.2, 0, none⟩)) := by
      rw [List.getElem?_map, hwi]
      rfl
    have hti : (tab : Int) < ((m.iv.length : Nat) : Int) := by omega
    have hmem : c.codes.getD tab [] ∈ c.codes := by
      rw [List.getD_eq_getElem?_getD, List.getElem?_eq_getElem htl]
      exact List.getElem_mem _
    have hwh := hw _ hmem
    rw [htab]
    obtain ⟨ln, hln⟩ : ∃ l, c.codes.getD tab [] = l := ⟨_, rfl⟩
    rw [hln] at kc hwh ⊢
    try simp (disch := first | omega | assumption | exact zaae _ _ | exact zaab _ _ _ | exact zaaf _ | exact zaad _ | exact zaaa _) only [Nat.reduceAdd, Nat.reduceLT, RZ, g, e50, c1, hg, hv4, hgc, hcell]
    refine zaay okd (zckk (lf := lf) (d := d) x kc hwh.1 hwn hpw (by omega) hlf) (Nat.le_refl _) (fun b _ hb => .inr (.inl hb)) fun v1 h1 n1 hn1 fr1 hq1 => ?_
    obtain ⟨rfl, hq1⟩ := hq1
    have y1 : CAt h1 n1 z p c m := y.keep (Nat.le_refl _) fun b hb h7 => fr1 b hb (by
      rcases h7 with h7 | h7 | ⟨y', h7, h8, h9⟩
      · exact fun e => ap.f (e ▸ h7)
      · exact fun e => ap.t (e ▸ h7)
      · have := (y.iv h7).1
        omega)
    have g1 := y1.get
    unfold cdB at g1
    have hz1 := y1.lt
    have hcons : m.F z z := .inl rfl
    rcases hq1 with ⟨e, rfl, x1⟩ | ⟨s, e, rfl, x1⟩
    · try simp (disch := first | omega | assumption | exact zaae _ _ | exact zaab _ _ _ | exact zaaf _ | exact zaad _ | exact zaaa _) only [Nat.reduceAdd, Nat.reduceLT, RZ, ext0, ext1, z3]
      rw [e]
      exact ⟨x1, y1⟩
    · have w1 : IntKind.i64.wrap ((c.count : Int) + 1) = ((c.count + 1 : Nat) : Int) := by rw [zaav (by omega) (by omega)]; omega
      have w2 : IntKind.i64.wrap ((c.size : Int) - 1) = (c.size : Int) - 1 := zaav (by omega) (by omega)
      have e2 : (((s : Nat) : Int) == (c.size : Int) - 1) = decide (s + 1 = c.size) := by
        by_cases q : s + 1 = c.size
        · rw [decide_eq_true q]; exact beq_iff_eq.2 (by omega)
        · rw [decide_eq_false q]; exact beq_eq_false_iff_ne.2 (by omega)
      try simp (disch := first | omega | assumption | exact zaae _ _ | exact zaab _ _ _ | exact zaaf _ | exact zaad _ | exact zaaa _) only [Nat.reduceAdd, Nat.reduceLT, RZ, ext0, ext1, z0, g1, hcons, w1, w2, e2]
      rw [e]
      have y2 := y1.setZ { c with count := c.count + 1 } m.tv rfl rfl rfl rfl rfl y1.took y1.tap rfl
      have y3 := y2.setZ { c with count := c.count + 1, done := decide (s + 1 = c.size) } m.tv rfl rfl rfl rfl rfl y2.took y2.tap rfl
      exact ⟨rfl, (x1.keep (Nat.le_refl _) (zaar _ _ hpz)).keep (Nat.le_refl _) (zaar _ _ hpz), y3⟩
end
end Go.Proofs.YtdagfcflbphoiaaGreatDoor
