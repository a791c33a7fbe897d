import Derived.Test.YtdagfcflbphoiaaGreatDoorMat
namespace Go.Proofs.YtdagfcflbphoiaaGreatDoor
set_option linter.unusedVariables false
set_option linter.unusedSimpArgs false
open Go.RowKit Ev Cn

theorem zayp : ∀ {r o : Nat} {bs : List Bool} {o' u : Nat}, pickB r o bs = .ok o' u → o ≤ o' ∧ o' < o + r
  | 0, _, _, _, _, h => by simp [pickB] at h
  | _ + 1, _, [], _, _, h => by simp [pickB] at h
  | r + 1, o, false :: _, _, _, h => by
    simp only [pickB, St.ok.injEq] at h
    omega
  | r + 1, o, true :: bs, _, _, h => by
    have := zayp (r := r) (o := o + 1) (bs := bs) h
    omega
theorem zbqa : ∀ {r o : Nat} {bs : List Bool} {e : Int}, pickB r o bs = .bad e → e = 25
  | 0, _, _, _, h => by
    simp only [pickB, St.bad.injEq] at h
    exact h.symm
  | _ + 1, _, [], _, h => by simp [pickB] at h
  | r + 1, o, false :: _, _, h => by simp [pickB] at h
  | r + 1, o, true :: bs, _, h => zbqa (r := r) (o := o + 1) (bs := bs) h
theorem zcev {α : Type} (d : α) {O : List α} {i : Nat} (hi : i < O.length) (j : Nat) : (tch d O i).getD j d = if j = 0 then O.getD i d else if j ≤ i then O.getD (j - 1) d else O.getD j d := by
  unfold tch
  cases j with
  | zero => rfl
  | succ j =>
    rw [if_neg (by omega)]
    show (O.take i ++ O.drop (i + 1)).getD j d = _
    simp only [List.getD_eq_getElem?_getD, Nat.add_sub_cancel]
    by_cases h : j + 1 ≤ i
    · rw [if_pos h, List.getElem?_append_left (by rw [List.length_take]; omega), List.getElem?_take, if_pos (by omega)]
    · rw [if_neg h, List.getElem?_append_right (by rw [List.length_take]; omega), List.length_take, List.getElem?_drop, show i + 1 + (j - min i O.length) = j + 1 by omega]
theorem zbuw {j : Nat} (h : j < 6) : ord0.getD j 0 = j := by
  rcases j with _ | _ | _ | _ | _ | _ | j <;> first | rfl | omega
theorem zcao {s : Pk} {bs : List Bool} {e : Int} (h : stepP s bs = .bad e) : e = 25 := by
  unfold stepP at h
  split at h
  · split at h
    · cases h
    · split at h
      · cases h
      · cases h; rfl
  · split at h
    · cases h
    · next e' h1 =>
      cases h
      exact zbqa h1
    · cases h
theorem zbkn {s s' : Pk} {bs : List Bool} {u : Nat} (k : s.Ok) (h6 : s.t ≤ 6) (hl : s.ord.length = 6) (hf : s.fin = false) (h : stepP s bs = .ok s' u) : s'.Ok ∧ 0 < u ∧ u ≤ bs.length := by
  unfold stepP at h
  split at h
  · next h0 =>
    split at h
    · cases h
    · split at h
      · next hb hc =>
        simp only [St.ok.injEq] at h
        obtain ⟨rfl, rfl⟩ := h
        obtain ⟨h1, h2⟩ := k.new h0
        refine ⟨⟨fun e => absurd e hc.2, fun j hj => ?_, fun x hx => ?_, fun _ => ?_, fun _ => hc.1.1⟩, by omega, by omega⟩
        · show s.ord.getD j 0 < _
          rw [h2, zbuw (by have : j < num (bs.take 18) 0 / 32768 := hj; omega)]
          exact hj
        · have hx : x ∈ s.picks := hx
          rw [h1] at hx; cases hx
        · show s.picks.length ≤ _
          rw [h1]; exact Nat.zero_le _
      · cases h
  · next h0 =>
    split at h
    · cases h
    · cases h
    · next o u' h1 =>
      simp only [St.ok.injEq] at h
      obtain ⟨rfl, rfl⟩ := h
      have ho := (zayp h1).2
      have hlt : s.picks.length < s.count := by
        have := k.len h0
        refine Nat.lt_of_le_of_ne this fun e => ?_
        unfold Pk.fin at hf
        rw [e, decide_eq_true rfl, decide_eq_true (show 0 < s.count by omega)] at hf
        cases hf
      have hu : ∀ {r o : Nat} {bs : List Bool} {o' u : Nat}, pickB r o bs = .ok o' u → u = o' + 1 ∧ u ≤ o + bs.length := by
        intro r
        induction r with
        | zero => intro o bs o' u h; simp [pickB] at h
        | succ r ih =>
          intro o bs o' u h
          cases bs with
          | nil => simp [pickB] at h
          | cons b bs =>
            cases b with
            | false =>
              simp only [pickB, St.ok.injEq] at h
              simp only [List.length_cons]
              omega
            | true =>
              have := ih (o := o + 1) (bs := bs) h
              simp only [List.length_cons]
              omega
      have := hu h1
      refine ⟨⟨fun e => absurd e h0, fun j hj => ?_, fun x hx => ?_, fun _ => ?_, fun e => k.two e⟩, by omega, by omega⟩
      · show (tch 0 s.ord o).getD j 0 < s.t
        have hj : j < s.t := hj
        rw [zcev 0 (by omega)]
        split
        · exact k.ord o (by omega)
        · split
          · exact k.ord _ (by omega)
          · exact k.ord j hj
      · rcases List.mem_append.1 hx with hx | hx
        · exact k.picks x hx
        · simp only [List.mem_singleton] at hx
          rw [hx]
          exact k.ord o (by omega)
      · show (s.picks ++ [_]).length ≤ s.count
        simp
        omega
structure COk (c : Cd) : Prop where
  pk : c.pk.Ok
  six : c.pk.t ≤ 6
  ol : c.pk.ord.length = 6
  nt : c.pk.fin = false → c.codes = [] ∧ c.took = []
  tk : c.pk.fin = true → c.took = c.pk.picks
  cl : c.codes.length ≤ c.pk.t
  ln : LnOk c.size c.now c.lens
  ll : c.lens.length < c.size
  wh : ∀ l ∈ c.codes, Wh l ∧ l.length = c.size
  lo : 3 ≤ c.size
  hi : c.size ≤ 258
  wr : c.wrong = 0
  dn : c.done = false
def stepC (c : Cd) (bs : List Bool) : St (Int × Cd) :=
  if c.pk.fin = false then match stepP c.pk bs with
    | .short => .short
    | .bad e => .bad e
    | .ok s u => .ok (-1, pkNext c s) u
  else if c.codes.length < c.pk.t then match stepT c bs with
    | .short => .short
    | .bad e => .bad e
    | .ok c' u => .ok (-1, c') u
  else match stepS c bs with
    | .short => .short
    | .bad e => .bad e
    | .ok (s, c') u => .ok ((s : Int), c') u
theorem zawo {now : Nat} {lens : List Nat} {bs : List Bool} {m : Nat} {l : List Nat} {u : Nat} (h : stepD now lens bs = .ok (m, l) u) : 0 < u ∧ u ≤ bs.length := by
  have turn : ∀ (z : Int) (w : Nat), turnD z lens w = .ok (m, l) u → u = w := by
    intro z w hz
    unfold turnD at hz
    split at hz
    · simp only [St.ok.injEq] at hz
      exact hz.2.symm
    · cases hz
  unfold stepD at h
  split at h
  · split at h
    · cases h
    · have := turn _ _ h
      omega
  · split at h
    · cases h
    · simp only [St.ok.injEq] at h
      simp only [List.length_cons]
      omega
    · cases h
    · have := turn _ _ h
      simp only [List.length_cons]
      omega
theorem zbkx {c c' : Cd} {bs : List Bool} {u : Nat} (k : COk c) (ht : c.codes.length < c.pk.t) (fin : c.pk.fin = true) (h : stepT c bs = .ok c' u) : COk c' ∧ c'.count = c.count ∧ 0 < u ∧ u ≤ bs.length := by
  unfold stepT at h
  split at h
  · cases h
  · cases h
  · next m l u' h1 =>
    have ok := zbej k.ln k.ll h1
    have us := zawo h1
    split at h
    · next hl =>
      split at h
      · next hs =>
        simp only [St.ok.injEq] at h
        obtain ⟨rfl, rfl⟩ := h
        refine ⟨⟨k.pk, k.six, k.ol, fun e => absurd fin (by rw [show c.pk.fin = false from e]; decide), k.tk, by simp; omega, ⟨Nat.zero_le _, Nat.zero_le _, fun x hx => absurd hx (by simp)⟩, by have := k.lo; show 0 < c.size; omega, fun w hw => ?_, k.lo, k.hi, k.wr, k.dn⟩, rfl, us.1, us.2⟩
        rcases List.mem_append.1 hw with hw | hw
        · exact k.wh w hw
        · simp only [List.mem_singleton] at hw
          subst hw
          exact ⟨wh_of ok.all hs, hl⟩
      · cases h
    · next hl =>
      simp only [St.ok.injEq] at h
      obtain ⟨rfl, rfl⟩ := h
      exact ⟨⟨k.pk, k.six, k.ol, k.nt, k.tk, k.cl, ok, Nat.lt_of_le_of_ne ok.len hl, k.wh, k.lo, k.hi, k.wr, k.dn⟩, rfl, us.1, us.2⟩
theorem zboh {c : Cd} (k : COk c) (fin : c.pk.fin = true) (ht : ¬ c.codes.length < c.pk.t) : ∀ v ∈ c.took, v < c.codes.length := fun v hv => by
  rw [k.tk fin] at hv
  have := k.pk.picks v hv
  omega
theorem zblg {c c' : Cd} {bs : List Bool} {sym : Int} {u : Nat} (k : COk c) (h : stepC c bs = .ok (sym, c') u) : (c'.done = false → COk c') ∧ c'.count ≤ c.count + 1 ∧ 0 < u ∧ u ≤ bs.length := by
  unfold stepC at h
  split at h
  · next hf =>
    split at h
    · cases h
    · cases h
    · next s u' h1 =>
      simp only [St.ok.injEq, Prod.mk.injEq] at h
      obtain ⟨⟨rfl, rfl⟩, rfl⟩ := h
      obtain ⟨h2, h3, h4⟩ := zbkn k.pk k.six k.ol hf h1
      obtain ⟨n1, n2⟩ := k.nt hf
      refine ⟨fun _ => ⟨h2, ?_, ?_, fun e => ⟨n1, ?_⟩, fun e => ?_, ?_, k.ln, k.ll, k.wh, k.lo, k.hi, k.wr, k.dn⟩, Nat.le_succ _, h3, h4⟩
      · show s.t ≤ 6
        unfold stepP at h1
        split at h1
        · split at h1
          · cases h1
          · split at h1
            · next hc =>
              simp only [St.ok.injEq] at h1
              obtain ⟨rfl, _⟩ := h1
              exact hc.1.2
            · cases h1
        · split at h1
          · cases h1
          · cases h1
          · simp only [St.ok.injEq] at h1
            obtain ⟨rfl, _⟩ := h1
            exact k.six
      · show s.ord.length = 6
        unfold stepP at h1
        split at h1
        · split at h1
          · cases h1
          · split at h1
            · simp only [St.ok.injEq] at h1
              obtain ⟨rfl, _⟩ := h1
              exact k.ol
            · cases h1
        · split at h1
          · cases h1
          · cases h1
          · next o u2 h5 =>
            simp only [St.ok.injEq] at h1
            obtain ⟨rfl, _⟩ := h1
            have := (zayp h5).2
            have := k.six
            exact zaww (dv := 0) k.ol (by omega)
      · have e : s.fin = false := e
        show (if s.fin = true then s.picks else c.took) = []
        rw [e]; exact n2
      · have e : s.fin = true := e
        show (if s.fin = true then s.picks else c.took) = s.picks
        rw [if_pos e]
      · show c.codes.length ≤ s.t
        rw [n1]; exact Nat.zero_le _
  · next hf =>
    have fin : c.pk.fin = true := by simpa using hf
    split at h
    · next ht =>
      split at h
      · cases h
      · cases h
      · next c2 u2 h1 =>
        simp only [St.ok.injEq, Prod.mk.injEq] at h
        obtain ⟨⟨rfl, rfl⟩, rfl⟩ := h
        obtain ⟨h2, h3, h4⟩ := zbkx k ht fin h1
        exact ⟨fun _ => h2, by omega, h4⟩
    · next ht =>
      split at h
      · cases h
      · cases h
      · next s c2 u2 h1 =>
        simp only [St.ok.injEq, Prod.mk.injEq] at h
        obtain ⟨⟨rfl, rfl⟩, rfl⟩ := h
        unfold stepS at h1
        split at h1
        · cases h1
        · next hb =>
          split at h1
          · cases h1
          · next s' h3 =>
            simp only [St.ok.injEq, Prod.mk.injEq] at h1
            obtain ⟨⟨rfl, rfl⟩, rfl⟩ := h1
            obtain ⟨m1, m2, m3⟩ := zbcc h3
            have hmem : c.codes.getD (c.took.getD (c.count / 50) 0) [] ∈ c.codes := by
              have htl : c.took.getD (c.count / 50) 0 < c.codes.length := by
                refine zboh k fin ht _ ?_
                rw [List.getD_eq_getElem?_getD, List.getElem?_eq_getElem (by omega)]
                exact List.getElem_mem _
              rw [List.getD_eq_getElem?_getD, List.getElem?_eq_getElem htl]
              exact List.getElem_mem _
            have := ((k.wh _ hmem).1.at m1).1
            exact ⟨fun hd => ⟨k.pk, k.six, k.ol, k.nt, k.tk, k.cl, k.ln, k.ll, k.wh, k.lo, k.hi, k.wr, hd⟩, Nat.le_refl _, by omega, m2⟩
theorem zbpz {c : Cd} {bs : List Bool} {e : Int} (h : stepC c bs = .bad e) : e = 22 ∨ e = 25 := by
  unfold stepC at h
  split at h
  · split at h
    · cases h
    · next h1 => cases h; exact .inr (zcao h1)
    · cases h
  · split at h
    · split at h
      · cases h
      · next h1 =>
        cases h
        unfold stepT at h1
        split at h1
        · cases h1
        · next h2 => cases h1; exact .inl (zbpq h2)
        · split at h1
          · split at h1
            · cases h1
            · cases h1; exact .inl rfl
          · cases h1
      · cases h
    · split at h
      · cases h
      · next h1 =>
        cases h
        unfold stepS at h1
        split at h1
        · cases h1; exact .inr rfl
        · split at h1
          · cases h1
          · cases h1
      · cases h
end Go.Proofs.YtdagfcflbphoiaaGreatDoor
