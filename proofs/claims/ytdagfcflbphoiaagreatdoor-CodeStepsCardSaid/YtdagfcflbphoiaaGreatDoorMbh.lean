import Derived.Test.YtdagfcflbphoiaaGreatDoorMbg
namespace Go.Proofs.YtdagfcflbphoiaaGreatDoor
set_option linter.unusedVariables false
set_option linter.unusedSimpArgs false
open Go.RowKit Ev Cn

def Rs.add (a : Nat) : Rs → Rs
  | .err e => .err e
  | .ok o u => .ok o (a + u)
theorem zbqm (most : Int) : ∀ (t N : Nat) (c : Cd) (bs : List Bool) (a : Nat), COk c → c.pk.fin = true → c.codes.length + t = c.pk.t → c.now = 0 → c.lens = [] → c.count = 0 → bs.length < N →
    runC N c bs most [] a = match runTs t c.size bs a c.codes with
      | .short => .err 3
      | .bad e => .err e
      | .ok lns u => runS N lns c.took c.size (bs.drop (u - a)) most [] u
  | 0, N, c, bs, a, k, hf, ht, hn, hl, hc, hN => by
    show _ = runS N c.codes c.took c.size (bs.drop (a - a)) most [] a
    rw [Nat.sub_self, List.drop_zero]
    exact zbnu most N c bs [] a k hf (by omega) rfl rfl rfl hc hN
  | t + 1, N, c, bs, a, k, hf, ht, hn, hl, hc, hN => by
    rw [zbtx most N c bs a k hf (by omega) hN, hn, hl, zbqt N (bs.length + 1) 0 [] bs a hN (by omega)]
    have := show runD (bs.length + 1) c.size 0 [] bs a = _ from zbqu (size := c.size) (bs.length + 1) 0 [] bs a 0
    rw [this, show runTs (t + 1) c.size bs a c.codes = _ from by rw [runTs]]
    cases e : runD (bs.length + 1) c.size 0 [] bs 0 with
    | short => rfl
    | bad e => rfl
    | ok ln u =>
      have ok := zbbi _ _ _ _ _ _ _ ⟨Nat.zero_le _, Nat.zero_le _, fun x hx => absurd hx (by simp)⟩ e
      show (if shrL (iN ln) = 1048576 then _ else _) = match (if shrL (iN ln) = 1048576 then _ else _ : St (List (List Nat))) with
        | .short => Rs.err 3
        | .bad e => .err e
        | .ok lns u => runS N lns c.took c.size (bs.drop (u - a)) most [] u
      by_cases hs : shrL (iN ln) = 1048576
      · simp only [if_pos hs]
        have k2 : COk { c with now := 0, lens := [], codes := c.codes ++ [ln] } := by
          refine ⟨k.pk, k.six, k.ol, fun e => absurd hf (by rw [show c.pk.fin = false from e]; decide), k.tk, by simp; omega, ⟨Nat.zero_le _, Nat.zero_le _, fun x hx => absurd hx (by simp)⟩, by have := k.lo; show 0 < c.size; omega, fun w hw => ?_, k.lo, k.hi, k.wr, k.dn⟩
          rcases List.mem_append.1 hw with hw | hw
          · exact k.wh w hw
          · simp only [List.mem_singleton] at hw
            subst hw
            exact ⟨wh_of ok.2.1 hs, ok.1⟩
        have ih := zbqm most t N { c with now := 0, lens := [], codes := c.codes ++ [ln] } (bs.drop u) (a + u) k2 hf (by rw [List.length_append]; simp only [List.length_cons, List.length_nil]; omega) rfl rfl hc (by rw [List.length_drop]; omega)
        rw [show a + u - a = u by omega, ih]
        cases e2 : runTs t c.size (bs.drop u) (a + u) (c.codes ++ [ln]) with
        | short => rfl
        | bad e => rfl
        | ok lns u2 =>
          have := zbld _ _ _ _ _ _ (fun w hw => k2.wh w hw) e2
          show runS N lns c.took c.size ((bs.drop u).drop (u2 - (a + u))) most [] u2 = runS N lns c.took c.size (bs.drop (u2 - a)) most [] u2
          rw [List.drop_drop, show u + (u2 - (a + u)) = u2 - a by omega]
      · simp only [if_neg hs]
theorem zbew {s s1 : Pk} {bs : List Bool} {u : Nat} (h6 : s.t ≤ 6) (ho : s.ord.length = 6) (hc : s.count < 32768) (h1 : stepP s bs = .ok s1 u) : s1.t ≤ 6 ∧ s1.ord.length = 6 ∧ s1.count < 32768 := by
  unfold stepP at h1
  split at h1
  · split at h1
    · cases h1
    · split at h1
      · next hc1 =>
        simp only [St.ok.injEq] at h1
        obtain ⟨rfl, _⟩ := h1
        exact ⟨hc1.1.2, ho, Nat.mod_lt _ (by decide)⟩
      · cases h1
  · split at h1
    · cases h1
    · cases h1
    · next o u2 h5 =>
      simp only [St.ok.injEq] at h1
      obtain ⟨rfl, _⟩ := h1
      have := (zayp h5).2
      exact ⟨h6, zaww (dv := 0) ho (by omega), hc⟩
theorem zboj : ∀ (N : Nat) (s : Pk) (bs : List Bool) (a : Nat) (s' : Pk) (a' : Nat), s.t ≤ 6 → s.ord.length = 6 → s.count < 32768 → runP N s bs a = .ok s' a' → s'.ord.length = 6
  | 0, s, bs, a, s', a', _, _, _, h => by simp [runP] at h
  | N + 1, s, bs, a, s', a', h6, ho, hc, h => by
    unfold runP at h
    split at h
    · simp only [St.ok.injEq] at h
      obtain ⟨rfl, rfl⟩ := h
      exact ho
    · split at h
      · cases h
      · cases h
      · next s1 u h1 =>
        obtain ⟨k1, k2, k3⟩ := zbew h6 ho hc h1
        exact zboj N s1 (bs.drop u) (a + u) s' a' k1 k2 k3 h
theorem zbsy (most : Int) : ∀ (N : Nat) (c : Cd) (bs : List Bool) (a : Nat), COk c → c.pk.count < 32768 → bs.length < N →
    runC N c bs most [] a = match runP N c.pk bs a with
      | .short => .err 3
      | .bad e => .err e
      | .ok s u => runC N { c with pk := s, took := s.picks } (bs.drop (u - a)) most [] u
  | 0, _, _, _, _, _, h => by omega
  | N + 1, c, bs, a, k, hcn, hN => by
    cases hf : c.pk.fin with
    | true =>
      have : runP (N + 1) c.pk bs a = .ok c.pk a := by
        show (if c.pk.fin = true then _ else _) = _
        rw [if_pos hf]
      rw [this]
      show _ = runC (N + 1) { c with pk := c.pk, took := c.pk.picks } (bs.drop (a - a)) most [] a
      rw [Nat.sub_self, List.drop_zero, ← k.tk hf]
    | false =>
      have lhs : runC (N + 1) c bs most [] a = match stepP c.pk bs with
          | .short => .err 3
          | .bad e => .err e
          | .ok s u => runC N (pkNext c s) (bs.drop u) most [] (a + u) := by
        show (if c.done = true then _ else _) = _
        rw [if_neg (by rw [k.dn]; decide)]
        unfold stepC
        rw [if_pos hf]
        cases stepP c.pk bs with
        | short => rfl
        | bad e => rfl
        | ok x u => rfl
      have rhs : runP (N + 1) c.pk bs a = match stepP c.pk bs with
          | .short => .short
          | .bad e => .bad e
          | .ok s' u => runP N s' (bs.drop u) (a + u) := by
        show (if c.pk.fin = true then _ else _) = _
        rw [if_neg (by rw [hf]; decide)]
        cases stepP c.pk bs <;> rfl
      rw [lhs, rhs]
      cases e : stepP c.pk bs with
      | short => rfl
      | bad e => rfl
      | ok s u =>
        have sc : stepC c bs = .ok (-1, pkNext c s) u := by
          unfold stepC
          rw [if_pos hf, e]
        obtain ⟨k1, _, k3, k4⟩ := zblg k sc
        have k2 : COk (pkNext c s) := k1 k.dn
        have l1 : (bs.drop u).length < N := by rw [List.length_drop]; omega
        show runC N (pkNext c s) (bs.drop u) most [] (a + u) = match runP N s (bs.drop u) (a + u) with
          | .short => .err 3
          | .bad e => .err e
          | .ok s u => runC (N + 1) { c with pk := s, took := s.picks } (bs.drop (u - a)) most [] u
        rw [zbsy most N (pkNext c s) (bs.drop u) (a + u) k2 (zbew k.six k.ol hcn e).2.2 l1]
        show (match runP N s (bs.drop u) (a + u) with
          | .short => Rs.err 3
          | .bad e => .err e
          | .ok s2 u2 => runC N { (pkNext c s) with pk := s2, took := s2.picks } ((bs.drop u).drop (u2 - (a + u))) most [] u2) = _
        cases e2 : runP N s (bs.drop u) (a + u) with
        | short => rfl
        | bad e => rfl
        | ok s2 u2 =>
          obtain ⟨n1, n2⟩ := k.nt hf
          obtain ⟨p1, p2, p3, _, p4, p5⟩ := zbji _ _ _ _ _ _ k2.pk k2.six k2.ol (zbew k.six k.ol hcn e).2.2 e2
          have ho2 := zboj _ _ _ _ _ _ k2.six k2.ol (zbew k.six k.ol hcn e).2.2 e2
          show runC N { c with pk := s2, took := s2.picks } ((bs.drop u).drop (u2 - (a + u))) most [] u2 = runC (N + 1) { c with pk := s2, took := s2.picks } (bs.drop (u2 - a)) most [] u2
          rw [List.drop_drop, show u + (u2 - (a + u)) = u2 - a by omega]
          refine zauq _ _ _ _ _ _ _ (fun _ => ⟨p1, p2, ho2, fun e => absurd p3 (by rw [show s2.fin = false from e]; decide), fun _ => rfl, ?_, k.ln, k.ll, k.wh, k.lo, k.hi, k.wr, k.dn⟩) (by rw [List.length_drop]; omega) (by rw [List.length_drop]; omega)
          show c.codes.length ≤ s2.t
          rw [n1]; exact Nat.zero_le _
theorem zcit {size : Nat} (h3 : 3 ≤ size) (h258 : size ≤ 258) (most : Int) (bs : List Bool) : runC (bs.length + 1) (cd0 size) bs most [] 0 = ref14 size bs most := by
  unfold ref14
  rw [zbsy most (bs.length + 1) (cd0 size) bs 0 (zbsd h3 h258) (by decide : 0 < 32768) (Nat.lt_succ_self _)]
  show (match runP (bs.length + 1) pk0 bs 0 with
    | .short => Rs.err 3
    | .bad e => .err e
    | .ok s u => runC (bs.length + 1) { (cd0 size) with pk := s, took := s.picks } (bs.drop (u - 0)) most [] u) = _
  cases e : runP (bs.length + 1) pk0 bs 0 with
  | short => rfl
  | bad e => rfl
  | ok s a =>
    obtain ⟨p1, p2, p3, p6, p4, p5⟩ := zbji _ _ _ _ _ _ zcbl (Nat.zero_le _) rfl (by decide) e
    have ho2 := zboj _ _ _ _ _ _ (Nat.zero_le _) rfl (by decide) e
    have k0 := zbsd h3 h258
    have k : COk { (cd0 size) with pk := s, took := s.picks } := ⟨p1, p2, ho2, fun e => absurd p3 (by rw [show s.fin = false from e]; decide), fun _ => rfl, Nat.zero_le _, k0.ln, k0.ll, k0.wh, k0.lo, k0.hi, k0.wr, k0.dn⟩
    have tl : (bs.drop a).length < bs.length + 1 := by rw [List.length_drop]; omega
    show runC (bs.length + 1) { (cd0 size) with pk := s, took := s.picks } (bs.drop (a - 0)) most [] a = match runTs s.t size (bs.drop a) 0 [] with
      | .short => .err 3
      | .bad e => .err e
      | .ok lns u => runS (bs.length + 1) lns s.picks size (bs.drop (a + u)) most [] (a + u)
    rw [Nat.sub_zero, zbqm most s.t (bs.length + 1) _ (bs.drop a) a k p3 (by show 0 + s.t = s.t; omega) rfl rfl rfl tl]
    have := show runTs s.t size (bs.drop a) a [] = _ from zbna s.t (bs.drop a) a 0 []
    show (match runTs s.t size (bs.drop a) a [] with
      | .short => Rs.err 3
      | .bad e => .err e
      | .ok lns u => runS (bs.length + 1) lns s.picks size ((bs.drop a).drop (u - a)) most [] u) = _
    rw [this]
    cases e2 : runTs s.t size (bs.drop a) 0 [] with
    | short => rfl
    | bad e => rfl
    | ok lns u =>
      show runS (bs.length + 1) lns s.picks size ((bs.drop a).drop (a + u - a)) most [] (a + u) = runS (bs.length + 1) lns s.picks size (bs.drop (a + u)) most [] (a + u)
      rw [List.drop_drop, show a + (a + u - a) = a + u by omega]
end Go.Proofs.YtdagfcflbphoiaaGreatDoor
