import Derived.Test.YtdagfcflbphoiaaGreatDoorMbf
namespace Go.Proofs.YtdagfcflbphoiaaGreatDoor
set_option linter.unusedVariables false
set_option linter.unusedSimpArgs false
open Go.RowKit Ev Cn

def St.add {α : Type} (a : Nat) : St α → St α
  | .short => .short
  | .bad e => .bad e
  | .ok x u => .ok x (a + u)
theorem zbqu {size : Nat} : ∀ (N now : Nat) (lens : List Nat) (bs : List Bool) (a b : Nat), runD N size now lens bs (a + b) = (runD N size now lens bs b).add a
  | 0, _, _, _, _, _ => rfl
  | N + 1, now, lens, bs, a, b => by
    unfold runD
    by_cases h : lens.length = size
    · rw [if_pos h, if_pos h]; rfl
    · rw [if_neg h, if_neg h]
      cases stepD now lens bs with
      | short => rfl
      | bad e => rfl
      | ok x u =>
        obtain ⟨m, l⟩ := x
        show runD N size m l (bs.drop u) (a + b + u) = (runD N size m l (bs.drop u) (b + u)).add a
        rw [← zbqu, Nat.add_assoc]
theorem zbna {size : Nat} : ∀ (t : Nat) (bs : List Bool) (a b : Nat) (acc : List (List Nat)), runTs t size bs (a + b) acc = (runTs t size bs b acc).add a
  | 0, _, _, _, _ => rfl
  | t + 1, bs, a, b, acc => by
    unfold runTs
    cases runD (bs.length + 1) size 0 [] bs 0 with
    | short => rfl
    | bad e => rfl
    | ok ln u =>
      by_cases h : shrL (iN ln) = 1048576
      · simp only [if_pos h]
        rw [← zbna t (bs.drop u) a (b + u), Nat.add_assoc]
      · simp only [if_neg h]
        rfl
theorem zbqt {size : Nat} : ∀ (N M now : Nat) (lens : List Nat) (bs : List Bool) (a : Nat), bs.length < N → bs.length < M → runD N size now lens bs a = runD M size now lens bs a
  | 0, _, _, _, _, _, h, _ => by omega
  | _ + 1, 0, _, _, _, _, _, h => by omega
  | N + 1, M + 1, now, lens, bs, a, h1, h2 => by
    unfold runD
    by_cases h : lens.length = size
    · rw [if_pos h, if_pos h]
    · rw [if_neg h, if_neg h]
      cases e : stepD now lens bs with
      | short => rfl
      | bad e => rfl
      | ok x u =>
        obtain ⟨m, l⟩ := x
        have := zawo e
        exact zbqt N M m l (bs.drop u) (a + u) (by rw [List.length_drop]; omega) (by rw [List.length_drop]; omega)
theorem zauq : ∀ (N M : Nat) (c : Cd) (bs : List Bool) (most : Int) (out : List Int) (a : Nat), (c.done = false → COk c) → bs.length < N → bs.length < M → runC N c bs most out a = runC M c bs most out a
  | 0, _, _, _, _, _, _, _, h, _ => by omega
  | _ + 1, 0, _, _, _, _, _, _, _, h => by omega
  | N + 1, M + 1, c, bs, most, out, a, k, h1, h2 => by
    unfold runC
    by_cases hd : c.done = true
    · rw [if_pos hd, if_pos hd]
    · rw [if_neg hd, if_neg hd]
      have hd2 : c.done = false := by simpa using hd
      cases e : stepC c bs with
      | short => rfl
      | bad e => rfl
      | ok x u =>
        obtain ⟨sym, c'⟩ := x
        obtain ⟨k1, _, k3, k4⟩ := zblg (k hd2) e
        have l1 : (bs.drop u).length < N := by rw [List.length_drop]; omega
        have l2 : (bs.drop u).length < M := by rw [List.length_drop]; omega
        show (if sym = -1 then _ else if (out.length : Int) = most then _ else _) = (if sym = -1 then _ else if (out.length : Int) = most then _ else _)
        rw [zauq N M c' (bs.drop u) most out (a + u) k1 l1 l2, zauq N M c' (bs.drop u) most (out ++ [sym]) (a + u) k1 l1 l2]
theorem zbnu {lns : List (List Nat)} {took : List Nat} {size : Nat} (most : Int) : ∀ (N : Nat) (c : Cd) (bs : List Bool) (out : List Int) (a : Nat), COk c → c.pk.fin = true → ¬ c.codes.length < c.pk.t → c.codes = lns → c.took = took → c.size = size → c.count = out.length → bs.length < N →
    runC N c bs most out a = runS N lns took size bs most out a
  | 0, _, _, _, _, _, _, _, _, _, _, _, h => by omega
  | N + 1, c, bs, out, a, k, hf, ht, e1, e2, e3, e4, hN => by
    subst e1; subst e2; subst e3
    unfold runC runS
    rw [if_neg (by rw [k.dn]; decide)]
    have sc : stepC c bs = match stepS c bs with
        | .short => .short
        | .bad e => .bad e
        | .ok (s, c') u => .ok ((s : Int), c') u := by
      unfold stepC
      rw [if_neg (by rw [hf]; decide), if_neg ht]
      cases stepS c bs with
      | short => rfl
      | bad e => rfl
      | ok x u => rfl
    rw [sc]
    unfold stepS
    rw [e4]
    by_cases hb : c.took.length ≤ out.length / 50
    · rw [if_pos hb, if_pos hb]
    · rw [if_neg hb, if_neg hb]
      cases hg : getC (c.codes.getD (c.took.getD (out.length / 50) 0) []) bs with
      | none => rfl
      | some s =>
        obtain ⟨ln, hln⟩ : ∃ l, c.codes.getD (c.took.getD (out.length / 50) 0) [] = l := ⟨_, rfl⟩
        rw [hln] at hg ⊢
        obtain ⟨m1, m2, m3⟩ := zbcc hg
        have hlt : c.took.getD (out.length / 50) 0 < c.codes.length := by
          refine zboh k hf ht _ ?_
          rw [List.getD_eq_getElem?_getD, List.getElem?_eq_getElem (by omega)]
          exact List.getElem_mem _
        have hmem : ln ∈ c.codes := by
          rw [← hln, List.getD_eq_getElem?_getD, List.getElem?_eq_getElem hlt]
          exact List.getElem_mem _
        have h1u := ((k.wh ln hmem).1.at m1).1
        obtain ⟨u, hd1⟩ : ∃ u, ln.getD s 0 = u := ⟨_, rfl⟩
        rw [hd1] at m2 h1u
        show (if (s : Int) = -1 then _ else if (out.length : Int) = most then Rs.err 2 else _) = if (out.length : Int) = most then _ else _
        rw [if_neg (by omega)]
        by_cases hm : (out.length : Int) = most
        · rw [if_pos hm, if_pos hm]
        · rw [if_neg hm, if_neg hm]
          by_cases hs : s + 1 = c.size
          · rw [if_pos hs, hd1]
            obtain ⟨N, rfl⟩ : ∃ M, N = M + 1 := ⟨N - 1, by omega⟩
            unfold runC
            rw [if_pos (decide_eq_true hs)]
          · rw [if_neg hs, hd1]
            exact zbnu most N _ (bs.drop u) (out ++ [(s : Int)]) (a + u) ⟨k.pk, k.six, k.ol, k.nt, k.tk, k.cl, k.ln, k.ll, k.wh, k.lo, k.hi, k.wr, decide_eq_false hs⟩ hf ht rfl rfl rfl (by rw [List.length_append]; rfl) (by rw [List.length_drop]; omega)
theorem zbtx (most : Int) : ∀ (N : Nat) (c : Cd) (bs : List Bool) (a : Nat), COk c → c.pk.fin = true → c.codes.length < c.pk.t → bs.length < N →
    runC N c bs most [] a = match runD N c.size c.now c.lens bs a with
      | .short => .err 3
      | .bad e => .err e
      | .ok ln u => if shrL (iN ln) = 1048576 then runC N { c with now := 0, lens := [], codes := c.codes ++ [ln] } (bs.drop (u - a)) most [] u else .err 22
  | 0, _, _, _, _, _, _, h => by omega
  | N + 1, c, bs, a, k, hf, ht, hN => by
    have hlen : ¬ c.lens.length = c.size := by have := k.ll; omega
    have sc : stepC c bs = match stepT c bs with
        | .short => .short
        | .bad e => .bad e
        | .ok c' u => .ok (-1, c') u := by
      unfold stepC
      rw [if_neg (by rw [hf]; decide), if_pos ht]
      cases stepT c bs with
      | short => rfl
      | bad e => rfl
      | ok x u => rfl
    have lhs : runC (N + 1) c bs most [] a = match stepT c bs with
        | .short => .err 3
        | .bad e => .err e
        | .ok c' u => runC N c' (bs.drop u) most [] (a + u) := by
      show (if c.done = true then _ else _) = _
      rw [if_neg (by rw [k.dn]; decide), sc]
      cases stepT c bs with
      | short => rfl
      | bad e => rfl
      | ok x u => rfl
    rw [lhs]
    have rhs : runD (N + 1) c.size c.now c.lens bs a = match stepD c.now c.lens bs with
        | .short => .short
        | .bad e => .bad e
        | .ok (m, l) u => runD N c.size m l (bs.drop u) (a + u) := by
      show (if c.lens.length = c.size then _ else _) = _
      rw [if_neg hlen]
      cases stepD c.now c.lens bs with
      | short => rfl
      | bad e => rfl
      | ok x u => rfl
    rw [rhs]
    have tk := fun c' u => zbkx (c' := c') (u := u) (bs := bs) k ht hf
    unfold stepT at tk ⊢
    cases e : stepD c.now c.lens bs with
    | short => rfl
    | bad e => rfl
    | ok x u =>
      obtain ⟨m, l⟩ := x
      have us := zawo e
      rw [e] at tk
      have l1 : (bs.drop u).length < N := by rw [List.length_drop]; omega
      obtain ⟨M, rfl⟩ : ∃ M, N = M + 1 := ⟨N - 1, by omega⟩
      show (match (if l.length = c.size then _ else _ : St Cd) with
        | .short => Rs.err 3
        | .bad e => .err e
        | .ok c' u => runC (M + 1) c' (bs.drop u) most [] (a + u)) = match runD (M + 1) c.size m l (bs.drop u) (a + u) with
        | .short => .err 3
        | .bad e => .err e
        | .ok ln u => if shrL (iN ln) = 1048576 then runC (M + 1 + 1) { c with now := 0, lens := [], codes := c.codes ++ [ln] } (bs.drop (u - a)) most [] u else .err 22
      by_cases hl : l.length = c.size
      · simp only [if_pos hl] at tk ⊢
        have r2 : runD (M + 1) c.size m l (bs.drop u) (a + u) = .ok l (a + u) := by
          show (if l.length = c.size then _ else _) = _
          rw [if_pos hl]
        rw [r2]
        by_cases hs : shrL (iN l) = 1048576
        · simp only [if_pos hs] at tk ⊢
          rw [show a + u - a = u by omega]
          exact zauq _ _ _ _ _ _ _ (fun _ => (tk _ _ rfl).1) l1 (by omega)
        · simp only [if_neg hs]
      · simp only [if_neg hl] at tk ⊢
        have k2 := (tk _ _ rfl).1
        rw [zbtx most (M + 1) _ (bs.drop u) (a + u) k2 hf ht l1]
        cases e2 : runD (M + 1) c.size m l (bs.drop u) (a + u) with
        | short => rfl
        | bad e => rfl
        | ok ln u2 =>
          have ok := zbej k.ln k.ll e
          have u2a := zbbi _ _ _ _ _ _ _ ok e2
          show (if shrL (iN ln) = 1048576 then _ else _) = (if shrL (iN ln) = 1048576 then _ else _)
          by_cases hs : shrL (iN ln) = 1048576
          · rw [if_pos hs, if_pos hs, List.drop_drop, show u + (u2 - (a + u)) = u2 - a by omega]
            refine zauq _ _ _ _ _ _ _ (fun _ => ?_) (by rw [List.length_drop]; omega) (by rw [List.length_drop]; omega)
            refine ⟨k.pk, k.six, k.ol, fun e => absurd hf (by rw [show c.pk.fin = false from e]; decide), k.tk, by simp; omega, ⟨Nat.zero_le _, Nat.zero_le _, fun x hx => absurd hx (by simp)⟩, by have := k.lo; show 0 < c.size; omega, fun w hw => ?_, k.lo, k.hi, k.wr, k.dn⟩
            rcases List.mem_append.1 hw with hw | hw
            · exact k.wh w hw
            · simp only [List.mem_singleton] at hw
              subst hw
              exact ⟨wh_of u2a.2.1 hs, u2a.1⟩
          · rw [if_neg hs, if_neg hs]
end Go.Proofs.YtdagfcflbphoiaaGreatDoor
