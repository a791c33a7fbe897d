import Derived.Test.YtcehhgppfahbkaaGreatDoorMae
import Derived.Test.YtcehhgppfahbkaaGreatDoorMac
import Derived.WalkKit
import Derived.Test.YtcehhgppfahbkaaGreatDoorMad
import Derived.Shelf.Strings.Builder1
import Derived.Shelf.Strings.Builder2
import Derived.Shelf.Strings.BuilderF
import Derived.Shelf.Strings.Prefix
import Derived.Shelf.Bits.Mul64
import Derived.Shelf.Strings.Repeat
import Derived.Shelf.Bytes.IndexByte
import Derived.Test.YtcehhgppfahbkaaGreatDoorProg
import Derived.Test.YtcehhgppfahbkaaGreatDoorRows
import Derived.Test.YtcehhgppfahbkaaGreatDoorMab
import Derived.MakeChecks
import Derived.OpenShut
import Derived.ChangeArms
namespace Go.Proofs.YtcehhgppfahbkaaGreatDoor
set_option linter.unusedVariables false
set_option linter.unusedSimpArgs false
open Go.RowKit Ev Sp Cn

def ahB (l : List UInt8) (i : Nat) : Nat := (l.getD (if i = 0 then l.length - 1 else i - 1) 0).toNat
def srtB (l : List UInt8) : List Nat := (AtS (bA l) (stepsR (bA l))).ord
def lasB (l : List UInt8) (k : Nat) : List Nat := ((srtB l).take k).map (ahB l)
def orgB (l : List UInt8) : Nat → Nat
  | 0 => 0
  | k + 1 => if (srtB l).getD k 0 = 0 then k else orgB l k
def TS (l : List UInt8) : Nat := stepsR (bA l)
structure Tm where
  a : Nat
  s : Sm
  ov : Value
  lv : Value
def tuB (l : List UInt8) (t : Nat) (m : Tm) : AB := ⟨155, true, [.string ⟨l.toArray⟩, .pointer (some ⟨m.s.p, 0, none⟩), m.ov, m.lv, .int .i64 (orgB l (t - TS l) : Int)]⟩
structure TuAt (h : H) (n : Nat) (L : Nat → Nat) (l : List UInt8) (t : Nat) (ob : Bool) (m : Tm) : Prop where
  get : h.get m.a = some (tuB l t m)
  lt : m.a < n
  la : L m.a = 25
  so : SoAt h n L l (AtS (bA l) (min t (TS l))) m.s
  ord : if ob = true then Own h 0 n 3 m.ov (nV (srtB l)) else m.ov = nS
  lo : ∀ b, InBlk m.ov b → L b = 26
  las : Own h 0 n 5 m.lv (u8V (lasB l (t - TS l)))
  ll : ∀ b, InBlk m.lv b → L b = 27
  ob1 : TS l < t → ob = true
  obt : ob = true → TS l ≤ t
  tle : t ≤ TS l + l.length
def WTu (L : Nat → Nat) : Nat → Prop := fun c => 21 ≤ L c ∧ L c ≤ 27
theorem WTu_of {L : Nat → Nat} {c i : Nat} (h : L c = i) (h1 : 21 ≤ i) (h2 : i ≤ 27) : WTu L c := by unfold WTu; omega
theorem TuAt.keep {h h' : H} {n n' : Nat} {L L' : Nat → Nat} {l : List UInt8} {t : Nat} {ob : Bool} {m : Tm} (y : TuAt h n L l t ob m) (hn : n ≤ n') (hL : ∀ c, c < n → L' c = L c) (hk : ∀ c, c < n → 21 ≤ L c → L c ≤ 27 → h'.get c = h.get c) : TuAt h' n' L' l t ob m := by
  have ov : ∀ b, InBlk m.ov b → b < n := fun b hb => by
    have := y.ord
    split at this
    · exact (this.lt hb).2
    · rw [this] at hb; exact hb.not_nil.elim
  refine ⟨(hk _ y.lt (by rw [y.la]; decide) (by rw [y.la]; decide)).trans y.get, Nat.lt_of_lt_of_le y.lt hn, (hL _ y.lt).trans y.la, y.so.keep hn hL fun c hc h1 h2 => hk c hc h1 (by omega), ?_, fun b hb => (hL b (ov b hb)).trans (y.lo b hb), y.las.keep hn fun b hb => hk b (y.las.lt hb).2 (by rw [y.ll b hb]; decide) (by rw [y.ll b hb]; decide), fun b hb => (hL b (y.las.lt hb).2).trans (y.ll b hb), y.ob1, y.obt, y.tle⟩
  have := y.ord
  by_cases c : ob = true
  · rw [if_pos c] at this ⊢
    exact this.keep hn fun b hb => hk b (this.lt hb).2 (by rw [y.lo b hb]; decide) (by rw [y.lo b hb]; decide)
  · rw [if_neg c] at this ⊢
    exact this
theorem srtB_len {l : List UInt8} (hN : l.length ≤ 900000) : (srtB l).length = l.length := by
  unfold srtB
  rw [ord_len (bA l) (by rw [bA_size]; exact hN), bA_size]
theorem srtB_lt {l : List UInt8} (hN : l.length ≤ 900000) {i : Nat} (hi : i < l.length) : (srtB l).getD i 0 < l.length := by
  have h1 := is_sorted (bA l) (by rw [bA_size]; exact hN)
  have hm : ((srtB l).getD i 0 : Int) ∈ Pl.sortTo (bA l) (bA l).size := by
    rw [← h1]
    refine List.mem_map.2 ⟨_, ?_, rfl⟩
    rw [List.getD_eq_getElem?_getD, List.getElem?_eq_getElem (by rw [srtB_len hN]; exact hi)]
    exact List.getElem_mem _
  have := (Pl.mem_sortTo (bA l) _ _).1 hm
  rw [bA_size] at this
  omega
theorem lasB_len {l : List UInt8} (hN : l.length ≤ 900000) {k : Nat} (hk : k ≤ l.length) : (lasB l k).length = k := by
  unfold lasB
  rw [List.length_map, List.length_take, srtB_len hN]
  omega
theorem lasB_next {l : List UInt8} (hN : l.length ≤ 900000) {k : Nat} (hk : k < l.length) : lasB l (k + 1) = lasB l k ++ [ahB l ((srtB l).getD k 0)] := by
  have hl : k < (srtB l).length := by rw [srtB_len hN]; exact hk
  unfold lasB
  rw [List.take_succ_eq_append_getElem hl, List.map_append, List.getD_eq_getElem?_getD, List.getElem?_eq_getElem hl]
  rfl
section
variable {lf d n : Nat} {h : H} {L : Nat → Nat} {l : List UInt8} {t : Nat} {ob : Bool} {m : Tm}
theorem s_ahead {i : Nat} (hi : i < l.length) (hN : l.length ≤ 900000) : Run (fun _ => False) n (evCall2 Tryz.prog gt lf (d + 1) 157 #[.string ⟨l.toArray⟩, .int .i64 (i : Int)]) h n fun v' h' n' => v' = .int .u8 (ahB l i : Int) ∧ h' = h ∧ n' = n := by
  rw [shOf (fun _ => st_bwt_ahead) rfl]
  refine Run.inside_ ?_
  unfold b_bwt_ahead ahB
  by_cases c : i = 0
  · have z : (((i : Nat) : Int) == 0) = true := by rw [c]; rfl
    have w1 : IntKind.i64.wrap (((l.length : Nat) : Int) - 1) = ((l.length - 1 : Nat) : Int) := by rw [wrap_id (by omega) (by omega)]; omega
    have i1 : ((l.length - 1 : Nat) : Int) < ((l.length : Nat) : Int) := by omega
    rw [if_pos c]
    try simp (disch := first | omega | assumption) only [Nat.reduceAdd, Nat.reduceLT, RZ, z, w1, i1]
    all_goals (first | trivial | rfl | exact ⟨rfl, rfl, rfl⟩ | exact ⟨rfl, rfl⟩)
  · have z : (((i : Nat) : Int) == 0) = false := beq_eq_false_iff_ne.2 (by omega)
    have w1 : IntKind.i64.wrap (((i : Nat) : Int) - 1) = ((i - 1 : Nat) : Int) := by rw [wrap_id (by omega) (by omega)]; omega
    have i1 : ((i - 1 : Nat) : Int) < ((l.length : Nat) : Int) := by omega
    rw [if_neg c]
    try simp (disch := first | omega | assumption) only [Nat.reduceAdd, Nat.reduceLT, RZ, z, w1, i1]
    all_goals (first | trivial | rfl | exact ⟨rfl, rfl, rfl⟩ | exact ⟨rfl, rfl⟩)
theorem s_tuDone (y : TuAt h n L l t ob m) (hN : l.length ≤ 900000) : Run (fun _ => False) n (evCall2 Tryz.prog gt lf (d + 1) 92 #[.pointer (some ⟨m.a, 0, none⟩)]) h n fun v' h' n' => v' = .bool (decide (t - TS l = l.length)) ∧ h' = h ∧ n' = n := by
  have g := y.get
  have hp := y.lt
  have tl := y.tle
  obtain ⟨a, c, e⟩ := y.las.vrow.len
  rw [u8V_len, lasB_len hN (by omega)] at e
  unfold tuB at g
  rw [e] at g
  have z : (((t - TS l : Nat) : Int) == ((l.length : Nat) : Int)) = decide (t - TS l = l.length) := by
    by_cases c : t - TS l = l.length
    · rw [decide_eq_true c, c]; exact beq_iff_eq.2 rfl
    · rw [decide_eq_false c]; exact beq_eq_false_iff_ne.2 (by omega)
  rw [shOf (fun _ => st_bwt_Turner_Done) rfl]
  refine Run.inside_ ?_
  unfold b_bwt_Turner_Done
  try simp (disch := first | omega | assumption) only [Nat.reduceAdd, Nat.reduceLT, RZ, g, z]
def TuPost (L : Nat → Nat) (n : Nat) (l : List UInt8) (t : Nat) (ob : Bool) (m : Tm) (h' : H) (n' : Nat) : Prop := ∃ L' m', (∀ c, c < n → L' c = L c) ∧ m'.a = m.a ∧ TuAt h' n' L' l t ob m'
theorem s_tuTake (y : TuAt h n L l t true m) (h1 : TS l ≤ t) (h2 : t < TS l + l.length) (hN : l.length ≤ 900000) : Run (WTu L) n (evCall2 Tryz.prog gt lf (d + 2) 124 #[.pointer (some ⟨m.a, 0, none⟩)]) h n fun _ h' n' => TuPost L n l (t + 1) true m h' n' := by
  have g := y.get
  have hp := y.lt
  have wa : WTu L m.a := WTu_of y.la (by decide) (by decide)
  have las := y.las
  have ord := y.ord
  rw [if_pos rfl] at ord
  obtain ⟨k, hk⟩ : ∃ k, t - TS l = k := ⟨_, rfl⟩
  have kl : k < l.length := by omega
  have ll := lasB_len hN (Nat.le_of_lt kl)
  have k1 : t + 1 - TS l = k + 1 := by omega
  obtain ⟨a, c, e⟩ := las.vrow.len
  rw [u8V_len, hk, ll] at e
  have al := srtB_lt hN kl
  rw [nV_iN] at ord
  obtain ⟨bb, off, cap, oo, ks, ev, hg, hbn, _, _, _, hat⟩ := ord.row.some (by rw [iN_len, srtB_len hN]; omega)
  have a1 := hat k (by rw [iN_len, srtB_len hN]; exact kl)
  rw [iN_at] at a1
  rw [iN_len, srtB_len hN] at ev
  unfold tuB at g
  rw [hk] at g las
  have g0 := g
  rw [e, ev] at g
  have i1 : ((k : Nat) : Int) < ((l.length : Nat) : Int) := by omega
  rw [shOf (fun _ => st_bwt_Turner_take) rfl]
  refine Run.inside_ ?_
  unfold b_bwt_Turner_take
  have bna : m.a ≠ bb := lab_ne y.la (y.lo bb (by rw [ev]; exact ⟨_, _, _, rfl⟩)) (by decide)
  -- what follows
  have fin : ∀ (h1 : H), h1.get m.a = some ⟨155, true, [.string ⟨l.toArray⟩, .pointer (some ⟨m.s.p, 0, none⟩), m.ov, .slice a k c, .int .i64 (orgB l (k + 1) : Int)]⟩ → (∀ c, c ≠ m.a → h1.get c = h.get c) → Run (WTu L) n ((timed (kld (.pointer (some ⟨m.a, 3, none⟩)) M.ret)).bind fun f => (timed (kld (.pointer (some ⟨m.a, 0, none⟩)) M.ret)).bind fun j => (timed (kcl (evCall2 Tryz.prog gt lf (d + 1)) 157 [j.1, .int .i64 ((srtB l).getD k 0 : Nat)] M.ret)).bind fun l => (timed (kb1 5 1 l.1 M.ret)).bind fun m_1 => (timed (kap 5 1 f.1 m_1.1 M.ret)).bind fun n => (timed (kst (.pointer (some ⟨m.a, 3, none⟩)) n.1 M.ret)).bind fun q => chkT (!(clash3 f.2 l.2)) (outK [])) h1 n fun _ h' n' => TuPost L n l (t + 1) true m h' n' := by
    intro h1 g1 k2
    have las1 : Own h1 0 n 5 m.lv (u8V (lasB l k)) := las.keep (Nat.le_refl n) fun b hb => k2 b (lab_ne (y.ll b hb) y.la (by decide))
    try simp (disch := first | omega | assumption) only [Nat.reduceAdd, Nat.reduceLT, RZ]
    refine timed_ldB (m := n) trivial m.a 3 _ g1 hp (Nat.le_refl _) rfl fun T1 t1 => ?_
    try simp (disch := first | omega | assumption) only [Nat.reduceAdd, Nat.reduceLT, RZ]
    refine timed_ldB (m := n) trivial m.a 0 _ g1 hp (Nat.le_refl _) rfl fun T2 t2 => ?_
    try simp (disch := first | omega | assumption) only [Nat.reduceAdd, Nat.reduceLT, RZ]
    refine timed_callB okd (s_ahead (lf := lf) (d := d) al hN) (Nat.le_refl n) fun v3 h3 n3 T3 hn3 fr3 hq3 t3 => ?_
    obtain ⟨rfl, rfl, rfl⟩ := hq3
    try simp (disch := first | omega | assumption) only [Nat.reduceAdd, Nat.reduceLT, RZ]
    rw [← e]
    refine timed_pushW trivial rfl las1 (by rw [u8V_len, ll]; omega) (fun b hb => .inr (WTu_of (y.ll b hb) (by decide) (by decide))) _ fun w4 T4 T5 h4 g4 k4 => ?_
    try simp (disch := first | omega | assumption) only [Nat.reduceAdd, Nat.reduceLT, RZ]
    have nla : ¬ InBlk m.lv m.a := fun q => lab_ne (y.ll _ q) y.la (by decide) rfl
    have g5 := (k4 m.a hp nla).trans g1
    refine timed_st m.a 3 _ _ g5 (by omega) (show 3 < 5 by decide) rfl (.inr wa) fun T6 => ?_
    try simp (disch := first | omega | assumption) only [Nat.reduceAdd, Nat.reduceLT, RZ, t1.clash t3, Bool.not_false, Bool.and_self, chk_true]
    have e0 : ∀ c, c < n3 → (if c < n3 then L c else 27) = L c := fun c hc => if_pos hc
    have kk : ∀ c, c < n3 → L c ≠ 25 → L c ≠ 27 → ∀ B : AB, (h4.set m.a (some B)).get c = h.get c := fun c hc q1 q2 B => by
      have ca : c ≠ m.a := fun q => q1 (by rw [q]; exact y.la)
      rw [get_ne _ _ ca, k4 c hc (fun q => q2 (y.ll c q))]
      exact k2 c ca
    refine ⟨fun c => if c < n3 then L c else 27, { m with lv := .slice (some ⟨n3 + 1, 0, none⟩) (k + 1) (CAP + (k + 1)) }, e0, rfl, ?_⟩
    have mt : min (t + 1) (TS l) = min t (TS l) := by omega
    refine ⟨?_, by show m.a < _; omega, (e0 _ hp).trans y.la, ?_, ?_, ?_, ?_, ?_, fun _ => rfl, fun _ => by omega, by omega⟩
    · rw [get_eq]
      unfold tuB
      rw [k1, u8V_len, ll]
      try rfl
    · rw [mt]
      exact y.so.keep (by omega) e0 fun c hc q1 q2 => kk c hc (by omega) (by omega) _
    · rw [if_pos rfl, nV_iN]
      exact ord.keep (by omega) fun b hb => kk b (ord.lt hb).2 (by rw [y.lo b hb]; decide) (by rw [y.lo b hb]; decide) _
    · exact fun b hb => (e0 b (ord.lt hb).2).trans (y.lo b hb)
    · rw [k1, lasB_next hN kl, u8V_app]
      refine Own.mk' ((get_ne _ _ (by omega)).trans g4) (Nat.zero_le _) (by omega) ?_
      rw [List.length_append, u8V_len, ll]
      try rfl
    · intro b hb
      have hb : b = n3 + 1 := hb.inj
      rw [hb]
      exact if_neg (by omega)
  obtain ⟨T, hT⟩ : ∃ T : M Value, T = ((timed (kld (.pointer (some ⟨m.a, 3, none⟩)) M.ret)).bind fun f => (timed (kld (.pointer (some ⟨m.a, 0, none⟩)) M.ret)).bind fun j => (timed (kcl (evCall2 Tryz.prog gt lf (d + 1)) 157 [j.1, .int .i64 ((srtB l).getD k 0 : Nat)] M.ret)).bind fun l => (timed (kb1 5 1 l.1 M.ret)).bind fun m_1 => (timed (kap 5 1 f.1 m_1.1 M.ret)).bind fun n => (timed (kst (.pointer (some ⟨m.a, 3, none⟩)) n.1 M.ret)).bind fun q => chkT (!(clash3 f.2 l.2)) (outK [])) := ⟨_, rfl⟩
  rw [← hT] at fin
  obtain ⟨o1, ho1⟩ : ∃ o1, orgB l (k + 1) = o1 := ⟨_, rfl⟩
  have ho2 : (if (srtB l).getD k 0 = 0 then k else orgB l k) = o1 := ho1
  rw [ho1] at fin
  by_cases c0 : (srtB l).getD k 0 = 0
  · have z : ((((srtB l).getD k 0 : Nat) : Int) == 0) = true := by rw [c0]; rfl
    rw [if_pos c0] at ho2
    try simp (disch := first | omega | assumption) only [Nat.reduceAdd, Nat.reduceLT, RZ, g, hg, a1, i1, z, wa, or_true, true_and]
    rw [← hT]
    refine fin _ ?_ fun c hc => get_ne _ _ hc
    rw [get_eq, ← ev, ho2]
  · have z : ((((srtB l).getD k 0 : Nat) : Int) == 0) = false := beq_eq_false_iff_ne.2 (by omega)
    rw [if_neg c0] at ho2
    try simp (disch := first | omega | assumption) only [Nat.reduceAdd, Nat.reduceLT, RZ, g, hg, a1, i1, z, wa, or_true, true_and]
    rw [← hT]
    refine fin _ ?_ fun _ _ => rfl
    rw [g, ← ev, ho2]
end
end Go.Proofs.YtcehhgppfahbkaaGreatDoor
namespace Go.Proofs.YtcehhgppfahbkaaGreatDoor
set_option linter.unusedVariables false
set_option linter.unusedSimpArgs false
open Go.RowKit Ev Sp Cn

def goneT (l : List UInt8) (t : Nat) (bud : Int) : Nat := min bud.toNat (TS l + l.length - t)
def obT (l : List UInt8) (t : Nat) (ob : Bool) (bud : Int) : Bool := ob || (decide (1 ≤ bud) && decide (TS l ≤ t + goneT l t bud))
theorem at_done {l : List UInt8} (hN : l.length ≤ 900000) {j : Nat} (hj : j ≤ TS l) : (AtS (bA l) j).done = decide (j = TS l) := by
  by_cases c : j = TS l
  · rw [decide_eq_true c, c]
    exact is_done (bA l) (by rw [bA_size]; exact hN)
  · rw [decide_eq_false c]
    exact not_done (bA l) (by rw [bA_size]; exact hN) j (by unfold TS at *; omega)
theorem TuPost.trans {L L' : Nat → Nat} {n n1 n2 : Nat} {l : List UInt8} {t : Nat} {ob : Bool} {m m' : Tm} {h2 : H} (hn : n ≤ n1) (hL : ∀ c, c < n → L' c = L c) (hp : m'.a = m.a) (q : TuPost L' n1 l t ob m' h2 n2) : TuPost L n l t ob m h2 n2 := by
  obtain ⟨L2, m2, e1, e2, e3⟩ := q
  exact ⟨L2, m2, fun c hc => (e1 c (by omega)).trans (hL c hc), e2.trans hp, e3⟩
section
variable {lf d n : Nat} {h : H} {L : Nat → Nat} {l : List UInt8} {t : Nat} {ob : Bool} {m : Tm}
theorem TuAt.sorted (y : TuAt h n L l t ob m) {g : Nat} (hg : min t (TS l) + g ≤ TS l) {h1 : H} {n1 : Nat} (hn : n ≤ n1) (q : SoPost L n l (AtS (bA l) (min t (TS l) + g)) m.s h1 n1) (fr : ∀ b, b < n → ¬ WS L b → h1.get b = h.get b) : TuPost L n l (t + g) ob m h1 n1 := by
  obtain ⟨L', ms, e1, e2, e3⟩ := q
  have mt : min (t + g) (TS l) = min t (TS l) + g := by omega
  have kt : t + g - TS l = t - TS l := by omega
  have g0 := y.get
  have tle := y.tle
  have ob1 := y.ob1
  have obt := y.obt
  have kk : ∀ c, c < n → 25 ≤ L c → h1.get c = h.get c := fun c hc q => fr c hc fun w => by have := w.2; omega
  have ov : ∀ b, InBlk m.ov b → b < n := fun b hb => by
    have := y.ord
    split at this
    · exact (this.lt hb).2
    · rw [this] at hb; exact hb.not_nil.elim
  refine ⟨L', { m with s := ms }, e1, rfl, ⟨?_, Nat.lt_of_lt_of_le y.lt hn, (e1 _ y.lt).trans y.la, by rw [mt]; exact e3, ?_, fun b hb => (e1 b (ov b hb)).trans (y.lo b hb), by rw [kt]; exact y.las.keep hn fun b hb => kk b (y.las.lt hb).2 (by rw [y.ll b hb]; decide), fun b hb => (e1 b (y.las.lt hb).2).trans (y.ll b hb), fun q => ob1 (by omega), fun q => by have := obt q; omega, by omega⟩⟩
  · rw [kk m.a y.lt (by rw [y.la]; decide), g0]
    unfold tuB
    dsimp only
    rw [e2, kt]
  · have := y.ord
    by_cases c : ob = true
    · rw [if_pos c] at this ⊢
      exact this.keep hn fun b hb => kk b (this.lt hb).2 (by rw [y.lo b hb]; decide)
    · rw [if_neg c] at this ⊢
      exact this
theorem tu_loop (h1 : 1 ≤ l.length) (hN : l.length ≤ 900000) {bud : Int} (hb : bud ≤ 1000000000000) (hlf : l.length + 10 < lf) {g1 t1 n1 : Nat} {h1' : H} {b0 bm : Bool} (hn : n ≤ n1) (ht : t1 ≤ TS l + l.length) (hg : (g1 : Int) ≤ bud) (post : TuPost L n l t1 (decide (TS l ≤ t1)) m h1' n1) : Run (WTu L) n (lpA_bwt_Turner_Step lf (evCall2 Tryz.prog gt lf (d + 5)) lf (kcA_bwt_Turner_Step lf (evCall2 Tryz.prog gt lf (d + 5))) (.pointer (some ⟨m.a, 0, none⟩)) (.int .i64 bud) (.int .i64 0) (.int .i64 (g1 : Int)) (.bool b0) (.bool bm)) h1' n1 fun v' h' n' => ∃ G : Nat, G = (if TS l ≤ t1 then min (bud.toNat - g1) (TS l + l.length - t1) else 0) ∧ v' = .int .i64 ((g1 + G : Nat) : Int) ∧ TuPost L n l (t1 + G) (decide (TS l ≤ t1)) m h' n' := by
  obtain ⟨G, hG⟩ : ∃ G : Nat, G = (if TS l ≤ t1 then min (bud.toNat - g1) (TS l + l.length - t1) else 0) := ⟨_, rfl⟩
  have GN : G ≤ l.length := by rw [hG]; split <;> omega
  refine (run_for (Q := fun v' h' n' => v' = .int .i64 ((g1 + G : Nat) : Int) ∧ TuPost L n l (t1 + G) (decide (TS l ≤ t1)) m h' n') G (fun fu i (_ : Unit) => lpA_bwt_Turner_Step lf (evCall2 Tryz.prog gt lf (d + 5)) fu (kcA_bwt_Turner_Step lf (evCall2 Tryz.prog gt lf (d + 5))) (.pointer (some ⟨m.a, 0, none⟩)) (.int .i64 bud) (.int .i64 0) (.int .i64 ((g1 + i : Nat) : Int)) (.bool b0) (.bool bm)) (fun i _ h' n' => n ≤ n' ∧ TuPost L n l (t1 + i) (decide (TS l ≤ t1)) m h' n') ?_ ?_ lf 0 () h1' n1 (Nat.zero_le _) (by omega) ⟨hn, post⟩).mono fun v' h' n' _ q => ⟨G, hG, q⟩
  · rintro fu _ h' n' ⟨q1, L', m', e1, e2, y⟩
    have g := y.get
    have hp := y.lt
    unfold tuB at g
    rw [e2] at g hp
    have sd := s_soDone (lf := lf) (d := d + 4) y.so
    rw [at_done hN (by omega)] at sd
    have td := s_tuDone (lf := lf) (d := d + 4) y hN
    rw [e2] at td
    rw [lpA_bwt_Turner_Step]
    try simp (disch := first | omega | assumption) only [Nat.reduceAdd, Nat.reduceLT, RZ, g]
    refine run_same sd q1 (fun _ _ h => h.elim) ?_
    by_cases c1 : TS l ≤ t1
    · rw [decide_eq_true (by omega : min (t1 + G) (TS l) = TS l)]
      rw [if_pos c1] at hG
      by_cases c2 : ((g1 + G : Nat) : Int) < bud
      · try simp (disch := first | omega | assumption) only [Nat.reduceAdd, Nat.reduceLT, RZ, c2]
        refine run_same td q1 (fun _ _ h => h.elim) ?_
        rw [decide_eq_true (by omega : t1 + G - TS l = l.length)]
        try simp (disch := first | omega | assumption) only [Nat.reduceAdd, Nat.reduceLT, RZ, Bool.not_true]
        unfold kcA_bwt_Turner_Step
        try simp (disch := first | omega | assumption) only [Nat.reduceAdd, Nat.reduceLT, RZ]
        exact ⟨L', m', e1, e2, y⟩
      · try simp (disch := first | omega | assumption) only [Nat.reduceAdd, Nat.reduceLT, RZ, c2]
        unfold kcA_bwt_Turner_Step
        try simp (disch := first | omega | assumption) only [Nat.reduceAdd, Nat.reduceLT, RZ]
        exact ⟨L', m', e1, e2, y⟩
    · rw [if_neg c1] at hG
      rw [decide_eq_false (by omega : ¬ min (t1 + G) (TS l) = TS l)]
      try simp (disch := first | omega | assumption) only [Nat.reduceAdd, Nat.reduceLT, RZ]
      unfold kcA_bwt_Turner_Step
      try simp (disch := first | omega | assumption) only [Nat.reduceAdd, Nat.reduceLT, RZ]
      exact ⟨L', m', e1, e2, y⟩
  · rintro fu i _ h' n' hi ⟨q1, L', m', e1, e2, y⟩ next
    have c1 : TS l ≤ t1 := Decidable.byContradiction fun q => by rw [if_neg q] at hG; omega
    rw [if_pos c1] at hG
    have g := y.get
    have hp := y.lt
    unfold tuB at g
    rw [e2] at g hp
    have sd := s_soDone (lf := lf) (d := d + 4) y.so
    rw [at_done hN (by omega), decide_eq_true (by omega : min (t1 + i) (TS l) = TS l)] at sd
    have td := s_tuDone (lf := lf) (d := d + 4) y hN
    rw [e2, decide_eq_false (by omega : ¬ t1 + i - TS l = l.length)] at td
    have c2 : ((g1 + i : Nat) : Int) < bud := by omega
    have w1 : IntKind.i64.wrap (((g1 + i : Nat) : Int) + 1) = ((g1 + (i + 1) : Nat) : Int) := by rw [wrap_id (by omega) (by omega)]; omega
    rw [decide_eq_true c1] at y
    have tt := s_tuTake (lf := lf) (d := d + 3) y (by omega) (by omega) hN
    rw [e2] at tt
    rw [lpA_bwt_Turner_Step]
    try simp (disch := first | omega | assumption) only [Nat.reduceAdd, Nat.reduceLT, RZ, g]
    refine run_same sd q1 (fun _ _ h => h.elim) ?_
    try simp (disch := first | omega | assumption) only [Nat.reduceAdd, Nat.reduceLT, RZ, c2]
    refine run_same td q1 (fun _ _ h => h.elim) ?_
    try simp (disch := first | omega | assumption) only [Nat.reduceAdd, Nat.reduceLT, RZ, Bool.not_false]
    refine run_call okd tt q1 (fun b hb hw => ?_) fun v8 h8 n8 hn8 fr8 hq8 => ?_
    · by_cases hbn : b < n
      · refine .inr ?_
        unfold WTu at hw ⊢
        rw [e1 b hbn] at hw
        exact hw
      · exact .inl (by omega)
    · try simp (disch := first | omega | assumption) only [Nat.reduceAdd, Nat.reduceLT, RZ, w1]
      refine next () h8 n8 ⟨by omega, ?_⟩
      rw [decide_eq_true c1]
      exact TuPost.trans q1 e1 e2 hq8
theorem s_tuStep (y : TuAt h n L l t ob m) (h1 : 1 ≤ l.length) (hN : l.length ≤ 900000) (bud : Int) (hb : bud ≤ 1000000000000) (hlf : TS l + l.length + 10 < lf) : Run (WTu L) n (evCall2 Tryz.prog gt lf (d + 6) 93 #[.pointer (some ⟨m.a, 0, none⟩), .int .i64 bud]) h n fun v' h' n' => v' = .int .i64 (goneT l t bud : Int) ∧ TuPost L n l (t + goneT l t bud) (obT l t ob bud) m h' n' := by
  have g := y.get
  have hp := y.lt
  have tle := y.tle
  have ob1 := y.ob1
  have obt := y.obt
  unfold tuB at g
  rw [shOf (fun _ => st_bwt_Turner_Step) rfl]
  refine Run.inside_ ?_
  unfold b_bwt_Turner_Step
  by_cases c0 : bud < 1
  · have e0 : goneT l t bud = 0 := by unfold goneT; omega
    have e1 : obT l t ob bud = ob := by
      unfold obT
      rw [decide_eq_false (by omega : ¬ 1 ≤ bud)]
      simp
    rw [e0, e1]
    try simp (disch := first | omega | assumption) only [Nat.reduceAdd, Nat.reduceLT, RZ, c0]
    exact ⟨rfl, L, m, fun _ _ => rfl, rfl, y⟩
  try simp (disch := first | omega | assumption) only [Nat.reduceAdd, Nat.reduceLT, RZ, c0, g]
  refine run_call okd (s_soSteps (lf := lf) (d := d) y.so (by show min t (TS l) ≤ TS l; omega) hN bud hb (by show TS l < lf; omega)) (Nat.le_refl n) (fun b _ hw => .inr ⟨hw.1, by have := hw.2; omega⟩) fun v2 h2 n2 hn2 fr2 hq2 => ?_
  obtain ⟨rfl, post⟩ := hq2
  obtain ⟨g1, hg1⟩ : ∃ g1, goneS l (min t (TS l)) bud = g1 := ⟨_, rfl⟩
  have hg2 : g1 = min bud.toNat (TS l - min t (TS l)) := hg1.symm
  rw [hg1] at post ⊢
  obtain ⟨L2, m2, e1, e2, y2⟩ := y.sorted (by omega) hn2 post fr2
  have g := y2.get
  have hp := y2.lt
  have la2 := y2.la
  have t1le := y2.tle
  unfold tuB at g
  rw [e2] at g hp la2
  have wa : WTu L m.a := WTu_of y.la (by decide) (by decide)
  -- the loop, and what it comes to
  have fin : ∀ (h3 : H) (n3 : Nat) (b0 bm : Bool), n ≤ n3 → TuPost L n l (t + g1) (decide (TS l ≤ t + g1)) m h3 n3 → Run (WTu L) n (lpA_bwt_Turner_Step lf (evCall2 Tryz.prog gt lf (d + 5)) lf (kcA_bwt_Turner_Step lf (evCall2 Tryz.prog gt lf (d + 5))) (.pointer (some ⟨m.a, 0, none⟩)) (.int .i64 bud) (.int .i64 0) (.int .i64 (g1 : Int)) (.bool b0) (.bool bm)) h3 n3 fun v' h' n' => v' = .int .i64 (goneT l t bud : Int) ∧ TuPost L n l (t + goneT l t bud) (obT l t ob bud) m h' n' := by
    intro h3 n3 b0 bm hn3 q
    refine (tu_loop (lf := lf) (d := d) h1 hN hb (by omega) hn3 t1le (by omega) q).mono ?_
    rintro v' h' n' _ ⟨G, hG, rfl, q2⟩
    have e3 : g1 + G = goneT l t bud := by
      unfold goneT
      rw [hG]
      split <;> omega
    have e4 : decide (TS l ≤ t + g1) = obT l t ob bud := by
      unfold obT
      rw [decide_eq_true (by omega : 1 ≤ bud), Bool.true_and]
      by_cases c : TS l ≤ t + g1
      · rw [decide_eq_true c, decide_eq_true (by omega : TS l ≤ t + goneT l t bud), Bool.or_true]
      · rw [if_neg c] at hG
        rw [decide_eq_false c, decide_eq_false (by omega : ¬ TS l ≤ t + goneT l t bud), Bool.or_false]
        cases ob with
        | false => rfl
        | true => exact absurd (obt rfl) (by omega)
    rw [e3]
    refine ⟨rfl, ?_⟩
    rw [← e3, ← Nat.add_assoc, ← e4]
    exact q2
  have ord := y2.ord
  cases hob : ob with
  | true =>
    rw [hob, if_pos rfl] at ord
    rw [hob] at y2 obt
    have tt := obt rfl
    have dt : decide (TS l ≤ t + g1) = true := decide_eq_true (by omega)
    rw [nV_iN] at ord
    obtain ⟨bb, off, cap, oo, ks, ev, hg, hbn, _, _, _, hat⟩ := ord.row.some (by rw [iN_len, srtB_len hN]; omega)
    rw [ev] at g
    rw [hob] at fin
    try simp (disch := first | omega | assumption) only [Nat.reduceAdd, Nat.reduceLT, RZ, g]
    refine fin _ _ _ _ hn2 ?_
    rw [dt]
    exact ⟨L2, m2, e1, e2, y2⟩
  | false =>
    rw [hob, if_neg (by decide)] at ord
    rw [hob] at y2 fin
    rw [ord] at g
    have sd := s_soDone (lf := lf) (d := d + 4) y2.so
    rw [at_done hN (by omega)] at sd
    try simp (disch := first | omega | assumption) only [Nat.reduceAdd, Nat.reduceLT, RZ, g]
    refine run_same sd hn2 (fun _ _ h => h.elim) ?_
    by_cases c : TS l ≤ t + g1
    · have mt : min (t + g1) (TS l) = TS l := by omega
      rw [decide_eq_true mt]
      have so2 := y2.so
      rw [mt] at so2
      have oo := s_soOrder (lf := lf) (d := d + 3) so2 (is_done (bA l) (by rw [bA_size]; exact hN)) (srtB_len hN) h1 hN
      try simp (disch := first | omega | assumption) only [Nat.reduceAdd, Nat.reduceLT, RZ, g]
      refine run_call okd oo hn2 (fun _ _ h => h.elim) fun v3 h3 n3 hn3 fr3 hq3 => ?_
      have g3 := (fr3 m.a hp id).trans g
      have hp3 : m.a < n3 := by omega
      obtain ⟨a3, c3, ev3⟩ := hq3.vrow.len
      rw [nV_len, show (AtS (bA l) (TS l)).ord.length = l.length from srtB_len hN] at ev3
      rw [ev3]
      try simp (disch := first | omega | assumption) only [Nat.reduceAdd, Nat.reduceLT, RZ, g3, wa, or_true, true_and]
      rw [← ev3]
      refine fin _ _ _ _ (by omega) ?_
      rw [decide_eq_true c]
      have l2n : ∀ c, c < n2 → (if c < n2 then L2 c else 26) = L2 c := fun c hc => if_pos hc
      have y3 := y2.keep (L' := fun c => if c < n2 then L2 c else 26) hn3 l2n fun c hc _ _ => fr3 c hc id
      have na : ∀ {c i}, (if c < n2 then L2 c else 26) = i → i ≠ 25 → c ≠ m.a := fun {c i} h1 h2 q => h2 (by rw [← h1, q, if_pos hp]; exact la2)
      refine ⟨fun c => if c < n2 then L2 c else 26, { m2 with ov := v3 }, fun c hc => (l2n c (by omega)).trans (e1 c hc), e2, ⟨?_, by show m2.a < n3; rw [e2]; exact hp3, y3.la, y3.so.keep (Nat.le_refl _) (fun _ _ => rfl) fun c hc q1 q2 => get_ne _ _ fun q => by rw [q, if_pos hp, la2] at q2; omega, ?_, fun b hb => if_neg (by have := (hq3.lt hb).1; omega), y3.las.keep (Nat.le_refl _) fun b hb => get_ne _ _ (na (y3.ll b hb) (by decide)), y3.ll, fun _ => rfl, fun _ => c, t1le⟩⟩
      · rw [e2, get_eq]
        rfl
      · rw [if_pos rfl]
        exact (hq3.low (Nat.zero_le _)).keep (Nat.le_refl _) fun b hb => get_ne _ _ (by have := (hq3.lt hb).1; omega)
    · rw [decide_eq_false (by omega : ¬ min (t + g1) (TS l) = TS l)]
      try simp (disch := first | omega | assumption) only [Nat.reduceAdd, Nat.reduceLT, RZ]
      refine fin _ _ _ _ hn2 ?_
      rw [decide_eq_false c]
      exact ⟨L2, m2, e1, e2, y2⟩
end
end Go.Proofs.YtcehhgppfahbkaaGreatDoor
namespace Go.Proofs.YtcehhgppfahbkaaGreatDoor
set_option linter.unusedVariables false
set_option linter.unusedSimpArgs false
open Go.RowKit Ev Sp Cn

section
variable {lf d n : Nat} {h : H} {L : Nat → Nat} {l : List UInt8} {t : Nat} {ob : Bool} {m : Tm}
theorem s_tuNew (h1 : 1 ≤ l.length) (hN : l.length ≤ 900000) (hlf : l.length < lf) (L : Nat → Nat) : Run (fun _ => False) n (evCall2 Tryz.prog gt lf (d + 2) 91 #[.string ⟨l.toArray⟩]) h n fun v' h' n' => ∃ L' m, v' = .tuple #[.pointer (some ⟨m.a, 0, none⟩), .int .i64 0] ∧ (∀ c, c < n → L' c = L c) ∧ n ≤ m.a ∧ TuAt h' n' L' l 0 false m := by
  have z : (l = []) = False := eq_false fun q => by rw [q] at h1; exact absurd h1 (by decide)
  rw [shOf (fun _ => st_bwt_New) rfl]
  refine Run.inside_ ?_
  unfold b_bwt_New
  try simp (disch := first | omega | assumption) only [Nat.reduceAdd, Nat.reduceLT, RZ, z]
  refine run_call okd (s_soNew (lf := lf) (d := d) h1 hN hlf L) (Nat.le_refl n) (fun _ _ h => h.elim) fun v1 h1' n1 hn1 fr1 hq1 => ?_
  obtain ⟨L1, m1, rfl, hL1, hL2, hm1, y1⟩ := hq1
  try simp (disch := first | omega | assumption) only [Nat.reduceAdd, Nat.reduceLT, RZ, ext0, ext1]
  refine run_box trivial _ _ ?_
  try simp (disch := first | omega | assumption) only [Nat.reduceAdd, Nat.reduceLT, RZ]
  refine ⟨fun c => if c < n1 then L1 c else 25, ⟨n1, m1, nS, nS⟩, rfl, fun c hc => (if_pos (by omega)).trans (hL1 c hc), hn1, ?_⟩
  have lp : ∀ c, c < n1 → (if c < n1 then L1 c else 25) = L1 c := fun c hc => if_pos hc
  have z0 : 0 - TS l = 0 := Nat.zero_sub _
  have nn : ∀ b, ¬ InBlk nS b := fun b hb => (by obtain ⟨o, l, c, hh⟩ := hb; cases hh)
  refine ⟨?_, Nat.lt_succ_self n1, if_neg (Nat.lt_irrefl n1), ?_, rfl, fun b hb => (nn b hb).elim, ?_, fun b hb => (nn b hb).elim, fun q => (Nat.not_lt_zero _ q).elim, (fun q => by cases q), Nat.zero_le _⟩
  · refine (get_eq _ _ _).trans ?_
    unfold tuB
    rw [z0]
    rfl
  · rw [Nat.zero_min]
    exact y1.keep (Nat.le_succ n1) lp fun c hc _ _ => get_ne _ _ (by omega)
  · rw [z0]
    exact Own.nil _ _ _ _
end
end Go.Proofs.YtcehhgppfahbkaaGreatDoor
namespace Go.Proofs.YtcehhgppfahbkaaGreatDoor
set_option linter.unusedVariables false
set_option linter.unusedSimpArgs false
open Go.RowKit Ev Cn

structure Pk where
  t : Nat
  count : Nat
  ord : List Nat
  picks : List Nat
section
variable {lf d n p q lo : Nat} {h : H} {S : List UInt8} {D A : Nat} {pv : Value} {s : Pk} {wrong : Bool}
end
end Go.Proofs.YtcehhgppfahbkaaGreatDoor
namespace Go.Proofs.YtcehhgppfahbkaaGreatDoor
set_option linter.unusedVariables false
set_option linter.unusedSimpArgs false
open Go.RowKit Ev Cn

section
variable {lf d n p q lo : Nat} {h : H} {S : List UInt8} {D A : Nat} {pv : Value} {s : Pk} {wrong : Bool}
end
end Go.Proofs.YtcehhgppfahbkaaGreatDoor
namespace Go.Proofs.YtcehhgppfahbkaaGreatDoor
set_option linter.unusedVariables false
set_option linter.unusedSimpArgs false
open Go.RowKit Ev Cn

structure Cd where
  size : Nat
  pk : Pk
  now : Nat
  lens : List Nat
  codes : List (List Nat)
  took : List Nat
  count : Nat
  done : Bool
  wrong : Int
structure Cm where
  q : Nat
  pv : Value
  tv : Value
  r : Nat
  lv : Value
  cv : Value
  pw : Bool
  dw : Bool
  iv : List (Nat × Nat × Nat)
section
variable {h : H} {n z p : Nat} {c : Cd} {m : Cm}
end
section
variable {lf d n z p : Nat} {h : H} {S : List UInt8} {D A : Nat} {c : Cd} {m : Cm}
end
end Go.Proofs.YtcehhgppfahbkaaGreatDoor
namespace Go.Proofs.YtcehhgppfahbkaaGreatDoor
set_option linter.unusedVariables false
set_option linter.unusedSimpArgs false
open Go.RowKit Ev Cn

section
variable {lf d n z p : Nat} {h : H} {S : List UInt8} {D A : Nat} {c : Cd} {m : Cm}
end
end Go.Proofs.YtcehhgppfahbkaaGreatDoor
namespace Go.Proofs.YtcehhgppfahbkaaGreatDoor
set_option linter.unusedVariables false
set_option linter.unusedSimpArgs false
open Go.RowKit Ev Cn

def stepS (c : Cd) (bs : List Bool) : St (Nat × Cd) :=
  if c.took.length ≤ c.count / 50 then .bad 25 else
  match getC (c.codes.getD (c.took.getD (c.count / 50) 0) []) bs with
  | none => .short
  | some s => .ok (s, { c with count := c.count + 1, done := decide (s + 1 = c.size) }) ((c.codes.getD (c.took.getD (c.count / 50) 0) []).getD s 0)
section
variable {lf d n z p : Nat} {h : H} {S : List UInt8} {D A : Nat} {c : Cd} {m : Cm}
end
end Go.Proofs.YtcehhgppfahbkaaGreatDoor
namespace Go.Proofs.YtcehhgppfahbkaaGreatDoor
set_option linter.unusedVariables false
set_option linter.unusedSimpArgs false
open Go.RowKit Ev Cn

end Go.Proofs.YtcehhgppfahbkaaGreatDoor
namespace Go.Proofs.YtcehhgppfahbkaaGreatDoor
set_option linter.unusedVariables false
set_option linter.unusedSimpArgs false
open Go.RowKit Ev Cn

section
variable {lf d n z p : Nat} {h : H} {S : List UInt8} {D A : Nat} {c : Cd} {m : Cm}
end
end Go.Proofs.YtcehhgppfahbkaaGreatDoor
namespace Go.Proofs.YtcehhgppfahbkaaGreatDoor
set_option linter.unusedVariables false
set_option linter.unusedSimpArgs false
open Go.RowKit Ev Cn

section
variable {lf d n z p : Nat} {h : H} {S : List UInt8} {D A : Nat} {c : Cd} {m : Cm}
end
end Go.Proofs.YtcehhgppfahbkaaGreatDoor
namespace Go.Proofs.YtcehhgppfahbkaaGreatDoor
set_option linter.unusedVariables false
set_option linter.unusedSimpArgs false
open Go.RowKit Ev Cn

def ch (b : Bool) : UInt8 := if b = true then 49 else 48
def bsT (l : List Bool) : List UInt8 := l.map ch
def tx (l : List Bool) : Value := .string ⟨(bsT l).toArray⟩
section
variable {lf d n : Nat} {h : H}
end
end Go.Proofs.YtcehhgppfahbkaaGreatDoor
namespace Go.Proofs.YtcehhgppfahbkaaGreatDoor
set_option linter.unusedVariables false
set_option linter.unusedSimpArgs false
open Go.RowKit Ev Cn

section
variable {lf d n : Nat} {h : H}
end
section
variable {lf d n : Nat} {h : H}
end
end Go.Proofs.YtcehhgppfahbkaaGreatDoor
namespace Go.Proofs.YtcehhgppfahbkaaGreatDoor
set_option linter.unusedVariables false
set_option linter.unusedSimpArgs false
open Go.RowKit Ev Cn

section
variable {lf d n : Nat} {h : H}
end
end Go.Proofs.YtcehhgppfahbkaaGreatDoor
namespace Go.Proofs.YtcehhgppfahbkaaGreatDoor
set_option linter.unusedVariables false
set_option linter.unusedSimpArgs false
open Go.RowKit Ev Cn

section
variable {lf d n : Nat} {h : H}
end
end Go.Proofs.YtcehhgppfahbkaaGreatDoor
namespace Go.Proofs.YtcehhgppfahbkaaGreatDoor
set_option linter.unusedVariables false
set_option linter.unusedSimpArgs false
open Go.RowKit Ev Cn

def ckV (ln : List Nat) (n i j : Nat) : Value := if ln.getD j 0 < n ∨ (ln.getD j 0 = n ∧ j < i) then tx (fieldB (codeC ln j) (ln.getD j 0)) else tx []
def ck (ln : List Nat) (n i : Nat) : List Value := (List.range ln.length).map (ckV ln n i)
section
variable {lf d n : Nat} {h : H}
end
end Go.Proofs.YtcehhgppfahbkaaGreatDoor
namespace Go.Proofs.YtcehhgppfahbkaaGreatDoor
set_option linter.unusedVariables false
set_option linter.unusedSimpArgs false
open Go.RowKit Ev Cn

section
variable {lf d n : Nat} {h : H}
end
end Go.Proofs.YtcehhgppfahbkaaGreatDoor
namespace Go.Proofs.YtcehhgppfahbkaaGreatDoor
set_option linter.unusedVariables false
set_option linter.unusedSimpArgs false
open Go.RowKit Ev Cn

section
variable {lf d n : Nat} {h : H}
end
end Go.Proofs.YtcehhgppfahbkaaGreatDoor
namespace Go.Proofs.YtcehhgppfahbkaaGreatDoor
set_option linter.unusedVariables false
set_option linter.unusedSimpArgs false
open Go.RowKit Ev Cn

section
variable {β : Type} {W : Nat → Prop} {n0 : Nat} {h : H} {n m : Nat} {Q : β → H → Nat → Prop}
theorem timed_allocB {t : TypeId} {z cs : List Value} (hz : z = cs) (k : Value × Tk → M β) (hm : m ≤ n) (x : ∀ T, RB T m → Run W n0 (k (.pointer (some ⟨n, 0, none⟩), T)) (h.set n (some ⟨t, true, cs⟩)) (n + 1) Q) : Run W n0 ((timed (kal t z M.ret)).bind k) h n Q := by
  subst hz
  exact timed_step (ins_ret (newK _ _ (fun id => Value.pointer (some ⟨id, 0, none⟩)) _ _)) (Nat.le_succ n) (by simp) (x _ ⟨by simp, by simp, hm⟩)
end
section
variable {lf d n : Nat} {h : H}
end
end Go.Proofs.YtcehhgppfahbkaaGreatDoor
namespace Go.Proofs.YtcehhgppfahbkaaGreatDoor
set_option linter.unusedVariables false
set_option linter.unusedSimpArgs false
open Go.RowKit Ev Cn

section
variable {lf d n : Nat} {h : H}
end
end Go.Proofs.YtcehhgppfahbkaaGreatDoor
namespace Go.Proofs.YtcehhgppfahbkaaGreatDoor
set_option linter.unusedVariables false
set_option linter.unusedSimpArgs false
open Go.RowKit Ev Cn

def St.add {α : Type} (a : Nat) : St α → St α
  | .short => .short
  | .bad e => .bad e
  | .ok x u => .ok x (a + u)
end Go.Proofs.YtcehhgppfahbkaaGreatDoor
namespace Go.Proofs.YtcehhgppfahbkaaGreatDoor
set_option linter.unusedVariables false
set_option linter.unusedSimpArgs false
open Go.RowKit Ev Cn

end Go.Proofs.YtcehhgppfahbkaaGreatDoor
namespace Go.Proofs.YtcehhgppfahbkaaGreatDoor
set_option linter.unusedVariables false
set_option linter.unusedSimpArgs false
open Go.RowKit Ev Cn

section
variable {lf d n z p : Nat} {h : H} {c : Cd} {m : Cm}
end
end Go.Proofs.YtcehhgppfahbkaaGreatDoor
namespace Go.Proofs.YtcehhgppfahbkaaGreatDoor
set_option linter.unusedVariables false
set_option linter.unusedSimpArgs false
open Go.RowKit Ev Cn

end Go.Proofs.YtcehhgppfahbkaaGreatDoor
namespace Go.Proofs.YtcehhgppfahbkaaGreatDoor
set_option linter.unusedVariables false
set_option linter.unusedSimpArgs false
open Go.RowKit Ev Cn

structure Zr where
  n : Nat
  most : Nat
  told : Nat
  zeros : Nat
  weight : Nat
  done : Bool
structure Rw where
  cd : Cd
  z : Zr
  ord : List Nat
  due : Nat
  place : Nat
structure Bk where
  head : Bool
  sum : Nat
  frm : Nat
  row : Option Rw
  last : List Nat
  done : Bool
end Go.Proofs.YtcehhgppfahbkaaGreatDoor
namespace Go.Proofs.YtcehhgppfahbkaaGreatDoor
set_option linter.unusedVariables false
set_option linter.unusedSimpArgs false
open Go.RowKit Ev Cn

section
variable {lf d n : Nat} {h : H}
end
end Go.Proofs.YtcehhgppfahbkaaGreatDoor
namespace Go.Proofs.YtcehhgppfahbkaaGreatDoor
set_option linter.unusedVariables false
set_option linter.unusedSimpArgs false
open Go.RowKit Ev Cn

section
variable {lf d n y : Nat} {h : H} {z : Zr}
end
end Go.Proofs.YtcehhgppfahbkaaGreatDoor
namespace Go.Proofs.YtcehhgppfahbkaaGreatDoor
set_option linter.unusedVariables false
set_option linter.unusedSimpArgs false
open Go.RowKit Ev Cn

section
variable {β : Type} {W : Nat → Prop} {n0 : Nat} {h : H} {n : Nat} {Q : β → H → Nat → Prop}
end
theorem u8V_one (ord : List Nat) : (u8V ord).all one = true := by
  rw [List.all_eq_true]
  intro v hv
  obtain ⟨x, _, rfl⟩ := List.mem_map.1 hv
  rfl
section
variable {lf d n l : Nat} {h : H} {v : Value} {ord : List Nat}
end
end Go.Proofs.YtcehhgppfahbkaaGreatDoor
namespace Go.Proofs.YtcehhgppfahbkaaGreatDoor
set_option linter.unusedVariables false
set_option linter.unusedSimpArgs false
open Go.RowKit Ev Cn

section
variable {β : Type} {W : Nat → Prop} {n0 : Nat} {h : H} {n : Nat} {Q : β → H → Nat → Prop}
theorem toStr_ro {lo : Nat} {e : TypeId} {v : Value} {ws : List Nat} (o : Own h lo n e v (u8V ws)) : ∃ L, kts v M.ret h n = some ⟨.string ⟨(bS ws).toArray⟩, h, n, L⟩ ∧ ∀ x ∈ L, x.wr = false ∧ InBlk v x.b := by
  rcases o with ⟨rfl, e0⟩ | ⟨b, rfl, hg, _, hb⟩
  · have : ws = [] := by
      cases ws with
      | nil => rfl
      | cons x l => simp [u8V] at e0
    subst this
    exact ⟨[], rfl, by simp⟩
  · obtain ⟨L, e1, e2⟩ := rdN_run2 hg hb (u8V ws).length 0 (by show 0 + (u8V ws).length ≤ (u8V ws).length; omega)
    have e3 : ((u8V ws).drop 0).take (u8V ws).length = u8V ws := by rw [List.drop_zero, List.take_length]
    have e4 : ((rdN3 b 0 (u8V ws).length).bind fun vs => match bytesL vs with
        | some l => M.ret (Value.string ⟨⟨l⟩⟩)
        | none => .fail) h n = some ⟨.string ⟨(bS ws).toArray⟩, h, n, L ++ []⟩ := by
      rw [rdN3_eq]
      refine bind_run e1 ?_
      show (match bytesL (((u8V ws).drop 0).take (u8V ws).length) with
        | some l => M.ret (Value.string ⟨⟨l⟩⟩)
        | none => M.fail) h n = _
      rw [e3, bytesL_u8]
      rfl
    refine ⟨_, ins_ret e4, fun x hx => ?_⟩
    have := (List.mem_filter.1 hx).1
    rw [List.append_nil] at this
    exact ⟨(e2 x this).1, _, _, _, by rw [(e2 x this).2]⟩
theorem timed_strB {lo m : Nat} {e : TypeId} {v : Value} {ws : List Nat} (o : Own h lo m e v (u8V ws)) (hm : m ≤ n) (k : Value × Tk → M β) (y : ∀ T, RB T m → Run W n0 (k (.string ⟨(bS ws).toArray⟩, T)) h n Q) : Run W n0 ((timed (kts v M.ret)).bind k) h n Q := by
  obtain ⟨L, e1, e2⟩ := toStr_ro (o.keep hm fun _ _ => rfl)
  exact timed_step e1 (Nat.le_refl _) (fun x hx hw => by rw [(e2 x hx).1] at hw; cases hw) (y _ ⟨fun x hx => (e2 x hx).1, fun x hx => (o.lt (e2 x hx).2).2, hm⟩)
end
structure Bm where
  b : Nat
  lv : Value
  x : Nat
  z : Nat
  m : Cm
  y : Nat
  l : Nat
  ov : Value
section
variable {lf d n p room : Nat} {h : H} {S : List UInt8} {D A : Nat} {L : Nat → Nat} {k : Bk} {m : Bm} {wrong : Int}
end
end Go.Proofs.YtcehhgppfahbkaaGreatDoor
namespace Go.Proofs.YtcehhgppfahbkaaGreatDoor
set_option linter.unusedVariables false
set_option linter.unusedSimpArgs false
open Go.RowKit Ev Cn

section
variable {lf d n p : Nat} {h : H} {S : List UInt8} {D A : Nat}
end
end Go.Proofs.YtcehhgppfahbkaaGreatDoor
namespace Go.Proofs.YtcehhgppfahbkaaGreatDoor
set_option linter.unusedVariables false
set_option linter.unusedSimpArgs false
open Go.RowKit Ev Cn

section
variable {lf d n p room : Nat} {h : H} {S : List UInt8} {D A : Nat} {L : Nat → Nat} {k : Bk} {m : Bm} {r : Rw}
end
end Go.Proofs.YtcehhgppfahbkaaGreatDoor
namespace Go.Proofs.YtcehhgppfahbkaaGreatDoor
set_option linter.unusedVariables false
set_option linter.unusedSimpArgs false
open Go.RowKit Ev Cn

section
variable {lf d n p room : Nat} {h : H} {S : List UInt8} {D A : Nat} {L : Nat → Nat} {k : Bk} {m : Bm} {r : Rw}
end
end Go.Proofs.YtcehhgppfahbkaaGreatDoor
namespace Go.Proofs.YtcehhgppfahbkaaGreatDoor
set_option linter.unusedVariables false
set_option linter.unusedSimpArgs false
open Go.RowKit Ev Cn

section
variable {lf d n p room : Nat} {h : H} {S : List UInt8} {D A : Nat} {L : Nat → Nat} {k : Bk} {m : Bm} {r : Rw}
end
end Go.Proofs.YtcehhgppfahbkaaGreatDoor
namespace Go.Proofs.YtcehhgppfahbkaaGreatDoor
set_option linter.unusedVariables false
set_option linter.unusedSimpArgs false
open Go.RowKit Ev Cn

section
variable {lf d n p room : Nat} {h : H} {S : List UInt8} {D A : Nat} {L : Nat → Nat} {k : Bk} {m : Bm} {r : Rw}
end
end Go.Proofs.YtcehhgppfahbkaaGreatDoor
namespace Go.Proofs.YtcehhgppfahbkaaGreatDoor
set_option linter.unusedVariables false
set_option linter.unusedSimpArgs false
open Go
theorem shl32 {x k : Nat} : IntKind.u32.wrap ((x : Int) * 2 ^ k) = ((x * 2 ^ k % 4294967296 : Nat) : Int) := by
  have e2 : (x : Int) * 2 ^ k = ((x * 2 ^ k : Nat) : Int) := by push_cast; rfl
  rw [e2, IntKind.wrap_u32']
  rfl
theorem mul32 {x y : Nat} : IntKind.u32.wrap ((x : Int) * (y : Int)) = ((x * y % 4294967296 : Nat) : Int) := by
  have e2 : (x : Int) * (y : Int) = ((x * y : Nat) : Int) := by push_cast; rfl
  rw [e2, IntKind.wrap_u32']
  rfl
theorem ofI32 {a : Nat} (h : a < 4294967296) : (BitVec.ofInt 32 (a : Int)).toNat = a := by rw [BitVec.ofInt_natCast, BitVec.toNat_ofNat]; exact Nat.mod_eq_of_lt (by omega)
theorem xor32_lt {a b : Nat} (ha : a < 4294967296) (hb : b < 4294967296) : a ^^^ b < 4294967296 := Nat.xor_lt_two_pow (n := 32) ha hb
theorem xor32 {a b : Nat} (ha : a < 4294967296) (hb : b < 4294967296) : IntKind.u32.wrap ((BitVec.ofInt IntKind.u32.bits (a : Int) ^^^ BitVec.ofInt IntKind.u32.bits (b : Int)).toNat : Int) = ((a ^^^ b : Nat) : Int) := by
  show IntKind.u32.wrap ((BitVec.ofInt 32 (a : Int) ^^^ BitVec.ofInt 32 (b : Int)).toNat : Int) = _
  rw [BitVec.toNat_xor, ofI32 ha, ofI32 hb]
  exact w32 (xor32_lt ha hb)
def crcS (x : Nat) : Nat := (x * 2 ^ 1 % 4294967296) ^^^ (x / 2 ^ 31 * 79764919 % 4294967296)
theorem crcS_lt (x : Nat) : crcS x < 4294967296 := xor32_lt (Nat.mod_lt _ (by decide)) (Nat.mod_lt _ (by decide))
def crcI : Nat → Nat → Nat
  | 0, x => x
  | i + 1, x => crcS (crcI i x)
theorem crcI_lt : ∀ (i x : Nat), x < 4294967296 → crcI i x < 4294967296
  | 0, _, h => h
  | i + 1, _, _ => crcS_lt _
def crcT (b : Nat) : Nat := crcI 8 (b * 2 ^ 24 % 4294967296)
theorem crcT_lt (b : Nat) : crcT b < 4294967296 := crcI_lt _ _ (Nat.mod_lt _ (by decide))

end Go.Proofs.YtcehhgppfahbkaaGreatDoor
namespace Go.Proofs.YtcehhgppfahbkaaGreatDoor
set_option linter.unusedVariables false
set_option linter.unusedSimpArgs false
open Go.RowKit Ev Cn

structure Gt where
  last : List Nat
  frm : Nat
  sum : Nat
structure Us where
  due : Nat
  at_ : Nat
  level : Nat
  blk : Option Bk
  got : Gt
  total : Nat
  ended : Bool
structure Um where
  a : Nat
  bm : Bm
section
variable {lf d n p unit : Nat} {h : H} {S : List UInt8} {D A : Nat} {L : Nat → Nat} {u : Us} {m : Um} {wrong : Int}
end
end Go.Proofs.YtcehhgppfahbkaaGreatDoor
namespace Go.Proofs.YtcehhgppfahbkaaGreatDoor
set_option linter.unusedVariables false
set_option linter.unusedSimpArgs false
open Go.RowKit Ev Cn

section
variable {lf d n p unit room : Nat} {h : H} {S : List UInt8} {D A : Nat} {L : Nat → Nat} {u : Us} {m : Um} {k : Bk} {bm : Bm}
end
end Go.Proofs.YtcehhgppfahbkaaGreatDoor
namespace Go.Proofs.YtcehhgppfahbkaaGreatDoor
set_option linter.unusedVariables false
set_option linter.unusedSimpArgs false
open Go.RowKit Ev Cn

section
variable {lf d n p unit room : Nat} {h : H} {S : List UInt8} {D A : Nat} {L : Nat → Nat} {u : Us} {m : Um} {k : Bk} {bm : Bm}
end
end Go.Proofs.YtcehhgppfahbkaaGreatDoor
namespace Go.Proofs.YtcehhgppfahbkaaGreatDoor
set_option linter.unusedVariables false
set_option linter.unusedSimpArgs false
open Go.RowKit Ev Cn

section
variable {lf d n p unit room : Nat} {h : H} {S : List UInt8} {D A : Nat} {L : Nat → Nat} {u : Us} {m : Um} {k : Bk} {bm : Bm}
end
end Go.Proofs.YtcehhgppfahbkaaGreatDoor
namespace Go.Proofs.YtcehhgppfahbkaaGreatDoor
set_option linter.unusedVariables false
set_option linter.unusedSimpArgs false
open Go.RowKit Ev Cn

section
variable {lf d n p unit room : Nat} {h : H} {S : List UInt8} {D A : Nat} {L : Nat → Nat} {u : Us} {m : Um}
end
end Go.Proofs.YtcehhgppfahbkaaGreatDoor
namespace Go.Proofs.YtcehhgppfahbkaaGreatDoor
set_option linter.unusedVariables false
set_option linter.unusedSimpArgs false
open Go.RowKit Ev Cn

def By (l : List Nat) : Prop := ∀ x ∈ l, x < 256
theorem By.at {l : List Nat} (k : By l) {i : Nat} (h : i < l.length) : l.getD i 0 < 256 := by
  rw [List.getD_eq_getElem?_getD, List.getElem?_eq_getElem h]
  exact k _ (List.getElem_mem _)
theorem bS_len (l : List Nat) : (bS l).length = l.length := by unfold bS; simp
end Go.Proofs.YtcehhgppfahbkaaGreatDoor
namespace Go.Proofs.YtcehhgppfahbkaaGreatDoor
set_option linter.unusedVariables false
set_option linter.unusedSimpArgs false
open Go.RowKit Ev Cn

section
variable {sv lv av ov st w : Value} {f : Nat → Nat}
end
section
variable {lf d n a lb org s : Nat} {h : H} {l out : List Nat} {ov : Value}
end
end Go.Proofs.YtcehhgppfahbkaaGreatDoor
namespace Go.Proofs.YtcehhgppfahbkaaGreatDoor
set_option linter.unusedVariables false
set_option linter.unusedSimpArgs false
open Go.RowKit Ev Cn

section
variable {lf d n a lb org s : Nat} {h : H} {l out : List Nat} {ov : Value}
end
end Go.Proofs.YtcehhgppfahbkaaGreatDoor
namespace Go.Proofs.YtcehhgppfahbkaaGreatDoor
set_option linter.unusedVariables false
set_option linter.unusedSimpArgs false
open Go.RowKit Ev Cn

section
variable {lf d n lo q : Nat} {h : H} {out : List Nat}
end
end Go.Proofs.YtcehhgppfahbkaaGreatDoor
namespace Go.Proofs.YtcehhgppfahbkaaGreatDoor
set_option linter.unusedVariables false
set_option linter.unusedSimpArgs false
open Go.RowKit Ev Cn

theorem xor8 {a b : Nat} (ha : a < 256) (hb : b < 256) : IntKind.u8.wrap ((BitVec.ofInt IntKind.u8.bits (a : Int) ^^^ BitVec.ofInt IntKind.u8.bits (b : Int)).toNat : Int) = ((a ^^^ b : Nat) : Int) := by
  have h1 : ∀ {a : Nat}, a < 256 → (BitVec.ofInt 8 (a : Int)).toNat = a := fun h => by rw [BitVec.ofInt_natCast, BitVec.toNat_ofNat]; exact Nat.mod_eq_of_lt (by omega)
  show IntKind.u8.wrap ((BitVec.ofInt 8 (a : Int) ^^^ BitVec.ofInt 8 (b : Int)).toNat : Int) = _
  rw [BitVec.toNat_xor, h1 ha, h1 hb]
  exact w8 (Nat.xor_lt_two_pow (n := 8) ha hb)
theorem s_knx {β : Type} (x : Nat) (h : x ≤ 4294967295) (k : Value → M β) : knx (.int .u32 (x : Int)) k = k (.int .u32 ((4294967295 - x : Nat) : Int)) := by
  show (match Nat.ble x 4294967295 with
    | true => k (.int .u32 (.ofNat (Nat.sub 4294967295 x)))
    | false => M.fail) = _
  rw [Nat.ble_eq_true_of_le h]
  rfl
def crcP (s b : Nat) : Nat := (s * 2 ^ 8 % 4294967296) ^^^ crcT ((s / 2 ^ 24) ^^^ b)
theorem crcP_lt (s b : Nat) : crcP s b < 4294967296 := xor32_lt (Nat.mod_lt _ (by decide)) (crcT_lt _)
def crcF (l : List Nat) : Nat := l.foldl crcP 4294967295
def crcO (l : List Nat) : Nat := 4294967295 - crcF l
def tbl (i : Nat) : List Value := (List.range 256).map fun b => Value.int .u32 (if b < i then (crcT b : Int) else 0)
theorem tbl_len (i : Nat) : (tbl i).length = 256 := by unfold tbl; simp
theorem tbl_at {i j : Nat} (h : j < 256) : (tbl i)[j]? = some (.int .u32 (if j < i then (crcT j : Int) else 0)) := by unfold tbl; rw [List.getElem?_map, List.getElem?_range h]; rfl
theorem tbl_set {i : Nat} (h : i < 256) : (tbl i).set i (.int .u32 (crcT i : Int)) = tbl (i + 1) := by
  apply List.ext_getElem?
  intro j
  by_cases hj : j < 256
  · rw [List.getElem?_set, tbl_at hj, tbl_at hj]
    by_cases e : i = j
    · subst e
      rw [if_pos rfl, if_pos (by rw [tbl_len]; exact h), if_pos (by omega)]
    · rw [if_neg e]
      by_cases c : j < i
      · rw [if_pos c, if_pos (by omega)]
      · rw [if_neg c, if_neg (by omega)]
  · rw [List.getElem?_eq_none (by rw [List.length_set, tbl_len]; omega), List.getElem?_eq_none (by rw [tbl_len]; omega)]
theorem tbl_0 : tbl 0 = List.replicate 256 (.int .u32 0) := by
  unfold tbl
  rw [List.map_congr_left (g := fun _ => Value.int .u32 0) fun b _ => by rw [if_neg (Nat.not_lt_zero b)], List.map_const', List.length_range]
structure SmAt (h : H) (n a s : Nat) : Prop where
  get : h.get a = some ⟨161, true, tbl 256 ++ [.int .u32 (s : Int)]⟩
  lt : a < n
  sm : s < 4294967296
theorem smz : z161 = List.replicate 257 (.int .u32 0) := repV_eq _ _
section
variable {lf d n a s : Nat} {h : H}
theorem s_Table (hlf : 300 ≤ lf) : Run (fun _ => False) n (evCall2 Tryz.prog gt lf (d + 1) 115 #[]) h n fun v h' n' => v = .agg (tbl 256).toArray := by
  rw [shOf (fun _ => st_crc_Table) rfl]
  refine Run.inside_ ?_
  unfold b_crc_Table
  refine run_alloc zr158 _ ?_
  refine run_alloc zr158 _ ?_
  have ga : ∀ B : Option AB, ((h.set n (some ⟨158, true, List.replicate 256 (.int .u32 0)⟩)).set (n + 1) B).get n = some ⟨158, true, List.replicate 256 (.int .u32 0)⟩ := fun B => by rw [get_ne _ _ (by omega), get_eq]
  have z1 : (0 : Int) ≤ 1 := by decide
  have z24 : (0 : Int) ≤ 24 := by decide
  have z31 : (0 : Int) ≤ 31 := by decide
  refine run_for 256 (fun fu i (_ : Unit) => lpA_crc_Table lf (evCall2 Tryz.prog gt lf d) fu (kcA_crc_Table lf (evCall2 Tryz.prog gt lf d)) (.pointer (some ⟨n, 0, none⟩)) (.pointer (some ⟨n + 1, 0, none⟩)) (.int .i64 (i : Int)))
    (fun i _ h' n' => n' = n + 2 ∧ h'.get (n + 1) = some ⟨158, true, tbl i⟩ ∧ h'.get n = some ⟨158, true, List.replicate 256 (.int .u32 0)⟩) ?_ ?_ lf 0 () _ (n + 2) (Nat.zero_le _) (by omega) ⟨rfl, by rw [get_eq, tbl_0], ga _⟩
  · rintro fu _ h' n' ⟨rfl, g1, g0⟩
    have e1 : ¬ (((256 : Nat) : Int) < 256) := by decide
    rw [lpA_crc_Table]
    try simp (disch := first | omega | assumption) only [Nat.reduceAdd, Nat.reduceLT, RZ, e1]
    (try unfold kcA_crc_Table); (try dsimp only)
    refine run_lda0 trivial trivial (n + 1) 0 _ g1 (by omega) (by rw [tbl_len]; decide) ?_
    have e0 : ((tbl 256).drop 0).take 256 = tbl 256 := by rw [List.drop_zero]; exact List.take_of_length_le (by rw [tbl_len]; exact Nat.le_refl _)
    show Run _ n (ksg 256 _ (.agg (((tbl 256).drop 0).take 256).toArray) _) _ _ _
    rw [e0]
    refine run_staF trivial (tbl_len _) List.length_replicate (by rw [List.all_eq_true]; intro v hv; obtain ⟨x, _, rfl⟩ := List.mem_map.1 hv; rfl) g0 (by omega) (.inl (Nat.le_refl _)) _ fun h2 g2 k2 => ?_
    exact run_ldaF trivial trivial g2 (tbl_len _) (by omega) rfl
  · rintro fu i _ h' n' hi ⟨rfl, g1, g0⟩ next
    have e1 : (i : Int) < 256 := by omega
    have w1 : IntKind.u32.wrap (i : Int) = (i : Int) := w32 (by omega)
    have s24 : min ((24 : Int)).toNat (IntKind.u32).bits = 24 := by decide
    have w2 : IntKind.u32.wrap ((i : Int) * 2 ^ (min ((24 : Int)).toNat (IntKind.u32).bits)) = ((i * 2 ^ 24 % 4294967296 : Nat) : Int) := by rw [s24]; exact _root_.Go.Proofs.YtcehhgppfahbkaaGreatDoor.shl32
    rw [lpA_crc_Table]
    try simp (disch := first | omega | assumption) only [Nat.reduceAdd, Nat.reduceLT, RZ, e1, w1, z24, w2]
    refine run_for 8 (fun f2 j (x : Nat) => lpB_crc_Table lf (evCall2 Tryz.prog gt lf d) f2 (kcB_crc_Table lf (evCall2 Tryz.prog gt lf d) fu (kcA_crc_Table lf (evCall2 Tryz.prog gt lf d))) (.pointer (some ⟨n, 0, none⟩)) (.pointer (some ⟨n + 1, 0, none⟩)) (.int .i64 (i : Int)) (.int .u32 (x : Int)) (.int .i64 (i : Int)) (.bool true) (.int .i64 (j : Int)))
      (fun j x h2 n2 => n2 = n + 2 ∧ h2 = h' ∧ x = crcI j (i * 2 ^ 24 % 4294967296)) ?_ ?_ lf 0 _ h' (n + 2) (Nat.zero_le _) (by omega) ⟨rfl, rfl, rfl⟩
    · rintro f2 x h2 n2 ⟨rfl, rfl, rfl⟩
      have e2 : ¬ (((8 : Nat) : Int) < 8) := by decide
      rw [lpB_crc_Table]
      try simp (disch := first | omega | assumption) only [Nat.reduceAdd, Nat.reduceLT, RZ, e2]
      (try unfold kcB_crc_Table); (try unfold KBB_crc_Table); (try dsimp only)
      have w3 : IntKind.i64.wrap ((i : Int) + 1) = ((i + 1 : Nat) : Int) := by rw [wrap_id (by omega) (by omega)]; rfl
      have w4 : (i : Int) + 1 = ((i + 1 : Nat) : Int) := rfl
      have hl : i < (tbl i).length := by rw [tbl_len]; exact hi
      have hnn : n ≤ n + 1 := Nat.le_succ n
      try simp (disch := first | omega | assumption) only [Nat.reduceAdd, Nat.reduceLT, RZ, g1, hl, hnn, w3, w4]
      have := next () (h2.set (n + 1) (some ⟨158, true, tbl (i + 1)⟩)) (n + 2) ⟨rfl, get_eq _ _ _, (get_ne _ _ (by omega)).trans g0⟩
      rw [← tbl_set hi] at this
      exact this
    · rintro f2 j x h2 n2 hj ⟨rfl, rfl, rfl⟩ next2
      obtain ⟨x, hx⟩ : ∃ x, crcI j (i * 2 ^ 24 % 4294967296) = x := ⟨_, rfl⟩
      have xl : x < 4294967296 := by rw [← hx]; exact crcI_lt _ _ (Nat.mod_lt _ (by decide))
      have e2 : (j : Int) < 8 := by omega
      have s1 : min ((1 : Int)).toNat (IntKind.u32).bits = 1 := by decide
      have w3 : ((x : Int)).fdiv (2 ^ (min ((31 : Int)).toNat (IntKind.u32).bits)) = ((x / 2 ^ 31 : Nat) : Int) := fdiv_pow x 31 (IntKind.u32).bits (by decide)
      have w4 : IntKind.u32.wrap ((x : Int) * 2 ^ (min ((1 : Int)).toNat (IntKind.u32).bits)) = ((x * 2 ^ 1 % 4294967296 : Nat) : Int) := by rw [s1]; exact _root_.Go.Proofs.YtcehhgppfahbkaaGreatDoor.shl32
      have w5 : IntKind.u32.wrap (((x / 2 ^ 31 : Nat) : Int) * 79764919) = ((x / 2 ^ 31 * 79764919 % 4294967296 : Nat) : Int) := mul32 (x := x / 2 ^ 31) (y := 79764919)
      have w6 := xor32 (a := x * 2 ^ 1 % 4294967296) (b := x / 2 ^ 31 * 79764919 % 4294967296) (Nat.mod_lt _ (by decide)) (Nat.mod_lt _ (by decide))
      have w7 : IntKind.i64.wrap ((j : Int) + 1) = ((j + 1 : Nat) : Int) := by rw [wrap_id (by omega) (by omega)]; rfl
      have w8' : (j : Int) + 1 = ((j + 1 : Nat) : Int) := rfl
      rw [hx, lpB_crc_Table]
      try simp (disch := first | omega | assumption) only [Nat.reduceAdd, Nat.reduceLT, RZ, e2, z31, z1, w3, w4, w5, w6, w7, w8']
      refine next2 (crcS x) _ _ ⟨rfl, rfl, ?_⟩
      show crcS x = crcS (crcI j (i * 2 ^ 24 % 4294967296))
      rw [hx]
theorem s_smNew (hlf : 300 ≤ lf) : Run (fun _ => False) n (evCall2 Tryz.prog gt lf (d + 2) 82 #[]) h n fun v h' n' => ∃ a, v = .pointer (some ⟨a, 0, none⟩) ∧ n ≤ a ∧ SmAt h' n' a 4294967295 := by
  rw [shOf (fun _ => st_crc_New) rfl]
  refine Run.inside_ ?_
  unfold b_crc_New
  refine run_call okd (s_Table (lf := lf) (d := d) hlf) (Nat.le_refl _) (fun _ _ h => h.elim) fun v1 h1 n1 hn1 fr1 hq1 => ?_
  subst hq1
  rw [smz]
  have l1 : (tbl 256).length = 256 := tbl_len 256
  have l2 : 0 + 256 ≤ (List.replicate 257 (Value.int .u32 0)).length := by rw [List.length_replicate]; decide
  have l3 : 256 < ((List.replicate 257 (Value.int .u32 0)).take 0 ++ (tbl 256 ++ (List.replicate 257 (Value.int .u32 0)).drop (0 + 256))).length := by
    rw [List.take_zero, List.nil_append, List.length_append, l1, List.length_drop, List.length_replicate]
    decide
  rw [s_bd, fill_agg, if_pos l1, if_pos l2, fill_int, if_pos l3]
  have e : ((List.replicate 257 (Value.int .u32 0)).take 0 ++ (tbl 256 ++ (List.replicate 257 (Value.int .u32 0)).drop (0 + 256))).set 256 (.int .u32 4294967295) = tbl 256 ++ [.int .u32 4294967295] := by
    rw [List.take_zero, List.nil_append, List.set_append_right _ _ (by rw [l1]; exact Nat.le_refl _), l1]
    rfl
  rw [e, fill_nil]
  try simp (disch := first | omega | assumption) only [Nat.reduceAdd, Nat.reduceLT, RZ]
  refine run_box trivial _ _ ?_
  try simp (disch := first | omega | assumption) only [Nat.reduceAdd, Nat.reduceLT, RZ]
  exact ⟨n1, rfl, hn1, get_eq _ _ _, by omega, by decide⟩
theorem s_smPut (x : SmAt h n a s) (b : Nat) (hb : b < 256) : Run (fun c => c = a) n (evCall2 Tryz.prog gt lf (d + 2) 154 #[.pointer (some ⟨a, 0, none⟩), .int .u8 (b : Int)]) h n fun _ h' n' => n' = n ∧ SmAt h' n' a (crcP s b) ∧ ∀ c, c ≠ a → h'.get c = h.get c := by
  have g := x.get
  have ha := x.lt
  have hs := x.sm
  have l1 : (tbl 256).length = 256 := tbl_len 256
  have c1 : (tbl 256 ++ [Value.int .u32 (s : Int)])[256]? = some (.int .u32 (s : Int)) := by rw [List.getElem?_append_right (by rw [l1]; exact Nat.le_refl _), l1]; rfl
  have q8 : s / 2 ^ 24 < 256 := by omega
  have x8 : (s / 2 ^ 24) ^^^ b < 256 := Nat.xor_lt_two_pow (n := 8) q8 hb
  have stp : Run (fun _ => False) n (evCall2 Tryz.prog gt lf (d + 1) 181 #[.pointer (some ⟨a, 0, none⟩), .int .u32 (s : Int), .int .u8 (b : Int)]) h n fun v h' n' => v = .int .u32 ((crcP s b : Nat) : Int) ∧ h' = h ∧ n' = n := by
    rw [shOf (fun _ => st_crc_step) rfl]
    refine Run.inside_ ?_
    unfold b_crc_step crcP
    have z8 : (0 : Int) ≤ 8 := by decide
    have z24 : (0 : Int) ≤ 24 := by decide
    have s8 : min ((8 : Int)).toNat (IntKind.u32).bits = 8 := by decide
    have w1 : IntKind.u32.wrap ((s : Int) * 2 ^ (min ((8 : Int)).toNat (IntKind.u32).bits)) = ((s * 2 ^ 8 % 4294967296 : Nat) : Int) := by rw [s8]; exact _root_.Go.Proofs.YtcehhgppfahbkaaGreatDoor.shl32
    have w2 : ((s : Int)).fdiv (2 ^ (min ((24 : Int)).toNat (IntKind.u32).bits)) = ((s / 2 ^ 24 : Nat) : Int) := fdiv_pow s 24 (IntKind.u32).bits (by decide)
    obtain ⟨q, hq⟩ : ∃ q, s / 2 ^ 24 = q := ⟨_, rfl⟩
    rw [hq] at w2 q8 x8 ⊢
    have w3 : IntKind.u8.wrap (q : Int) = (q : Int) := w8 q8
    have w4 := xor8 q8 hb
    obtain ⟨i, hi⟩ : ∃ i, q ^^^ b = i := ⟨_, rfl⟩
    rw [hi] at w4 x8 ⊢
    have c2 : (tbl 256 ++ [Value.int .u32 (s : Int)])[i]? = some (.int .u32 (crcT i : Int)) := by rw [List.getElem?_append_left (by rw [l1]; exact x8), tbl_at x8, if_pos x8]
    have i0 : (0 : Int) ≤ (i : Int) := by omega
    have i1 : (i : Int) < 256 := by omega
    have w5 := xor32 (a := s * 2 ^ 8 % 4294967296) (b := crcT i) (Nat.mod_lt _ (by decide)) (crcT_lt i)
    try simp (disch := first | omega | assumption) only [Nat.reduceAdd, Nat.reduceLT, RZ, z8, z24, w1, w2, w3, w4, i0, i1, g, c2, w5]
  rw [shOf (fun _ => st_crc_Sum_Put) rfl]
  refine Run.inside_ ?_
  unfold b_crc_Sum_Put
  try simp (disch := first | omega | assumption) only [Nat.reduceAdd, Nat.reduceLT, RZ, g, c1]
  refine run_same stp (Nat.le_refl _) (fun _ _ h => h.elim) ?_
  have hl : 256 < (tbl 256 ++ [Value.int .u32 (s : Int)]).length := by rw [List.length_append, l1]; exact Nat.lt_succ_self 256
  try simp (disch := first | omega | assumption) only [Nat.reduceAdd, Nat.reduceLT, RZ, g, hl]
  refine ⟨⟨?_, ha, crcP_lt _ _⟩, fun c hc => get_ne _ _ hc⟩
  rw [get_eq, List.set_append_right _ _ (by rw [l1]; exact Nat.le_refl _), l1]
  rfl
theorem s_smValue (x : SmAt h n a s) : Run (fun _ => False) n (evCall2 Tryz.prog gt lf (d + 1) 118 #[.pointer (some ⟨a, 0, none⟩)]) h n fun v h' n' => v = .int .u32 ((4294967295 - s : Nat) : Int) ∧ h' = h ∧ n' = n := by
  have g := x.get
  have ha := x.lt
  have hs := x.sm
  have l1 : (tbl 256).length = 256 := tbl_len 256
  have c1 : (tbl 256 ++ [Value.int .u32 (s : Int)])[256]? = some (.int .u32 (s : Int)) := by rw [List.getElem?_append_right (by rw [l1]; exact Nat.le_refl _), l1]; rfl
  rw [shOf (fun _ => st_crc_Sum_Value) rfl]
  refine Run.inside_ ?_
  unfold b_crc_Sum_Value
  have kx := fun (k : Value → M Value) => s_knx s (by omega) k
  try simp (disch := first | omega | assumption) only [Nat.reduceAdd, Nat.reduceLT, RZ, g, c1, kx]
end
end Go.Proofs.YtcehhgppfahbkaaGreatDoor
namespace Go.Proofs.YtcehhgppfahbkaaGreatDoor
set_option linter.unusedVariables false
set_option linter.unusedSimpArgs false
open Go.RowKit Ev Cn

section
variable {lf d n : Nat} {h : H}
end
end Go.Proofs.YtcehhgppfahbkaaGreatDoor
namespace Go.Proofs.YtcehhgppfahbkaaGreatDoor.Ip
set_option linter.unusedVariables false
set_option linter.unusedSimpArgs false
open Go

structure Pt where
  what : Int
  level : Int
  frm : Int
  to_ : Int
  sum : Int
  orig : Int
  last : Int
  len : Int
def stB (l : List Nat) : Value := .string ⟨(l.map UInt8.ofNat).toArray⟩
def i64ok (n : Int) : Bool := decide (-9223372036854775808 ≤ n) && decide (n ≤ 9223372036854775807)
def Pt.ok (p : Pt) : Bool := i64ok p.what && i64ok p.level && i64ok p.frm && i64ok p.to_ && decide (0 ≤ p.sum) && decide (p.sum < 4294967296) && i64ok p.orig && i64ok p.last && i64ok p.len
def Pt.cells (p : Pt) : List Value := [.int .i64 p.what, .int .i64 p.level, .int .i64 p.frm, .int .i64 p.to_, .int .u32 p.sum, .int .i64 p.orig, .int .i64 p.last, .int .i64 p.len]
end Go.Proofs.YtcehhgppfahbkaaGreatDoor.Ip
namespace Go.Proofs.YtcehhgppfahbkaaGreatDoor
set_option linter.unusedVariables false
set_option linter.unusedSimpArgs false
open Go.RowKit Ev Cn Ip

structure Is where
  u : Us
  A : Nat
  ps : List Pt
  next : Nat
  total : Nat
def Is.add (s : Is) (p : Pt) (to_ : Nat) : Is := { s with ps := s.ps ++ [{ p with frm := s.next, to_ := to_ }], next := to_ }
section
variable {lf d n rp p unit : Nat} {h : H} {S : List UInt8} {L : Nat → Nat} {s : Is} {m : Um} {pv : Value}
end
end Go.Proofs.YtcehhgppfahbkaaGreatDoor
namespace Go.Proofs.YtcehhgppfahbkaaGreatDoor
set_option linter.unusedVariables false
set_option linter.unusedSimpArgs false
open Go.RowKit Ev Cn Ip

def Is.fresh (s : Is) : Bool := match s.ps.getLast? with
  | none => true
  | some q => decide (q.what = 3)
section
variable {lf d n rp p unit : Nat} {h : H} {S : List UInt8} {L : Nat → Nat} {s : Is} {m : Um} {pv : Value}
end
end Go.Proofs.YtcehhgppfahbkaaGreatDoor
namespace Go.Proofs.YtcehhgppfahbkaaGreatDoor
set_option linter.unusedVariables false
set_option linter.unusedSimpArgs false
open Go.RowKit Ev Cn Ip

section
variable {lf d n rp p unit : Nat} {h : H} {S : List UInt8} {L : Nat → Nat} {s : Is} {m : Um} {pv : Value}
end
end Go.Proofs.YtcehhgppfahbkaaGreatDoor
namespace Go.Proofs.YtcehhgppfahbkaaGreatDoor
set_option linter.unusedVariables false
set_option linter.unusedSimpArgs false
open Go.RowKit Ev Cn Ip

def Is.took (s : Is) (u : Us) (w : Nat) : Is := { s with u := u, A := s.A + w }
section
variable {lf d n rp p unit : Nat} {h : H} {S : List UInt8} {L : Nat → Nat} {s : Is} {m : Um} {pv : Value}
end
end Go.Proofs.YtcehhgppfahbkaaGreatDoor
namespace Go.Proofs.YtcehhgppfahbkaaGreatDoor
set_option linter.unusedVariables false
set_option linter.unusedSimpArgs false
open Go.RowKit Ev Cn Ip

section
variable {lf d n rp p unit : Nat} {h : H} {S : List UInt8} {L : Nat → Nat} {s : Is} {m : Um} {pv : Value}
end
end Go.Proofs.YtcehhgppfahbkaaGreatDoor
namespace Go.Proofs.YtcehhgppfahbkaaGreatDoor
set_option linter.unusedVariables false
set_option linter.unusedSimpArgs false
open Go.RowKit Ev Cn Ip

end Go.Proofs.YtcehhgppfahbkaaGreatDoor
namespace Go.Proofs.YtcehhgppfahbkaaGreatDoor
set_option linter.unusedVariables false
set_option linter.unusedSimpArgs false
open Go.RowKit Ev Cn Ip

end Go.Proofs.YtcehhgppfahbkaaGreatDoor
namespace Go.Proofs.YtcehhgppfahbkaaGreatDoor
set_option linter.unusedVariables false
set_option linter.unusedSimpArgs false
open Go.RowKit Ev Cn Ip

section
variable {s : List Nat} {room : Nat}
end
end Go.Proofs.YtcehhgppfahbkaaGreatDoor
namespace Go.Proofs.YtcehhgppfahbkaaGreatDoor
set_option linter.unusedVariables false
set_option linter.unusedSimpArgs false
open Go.RowKit Ev Cn

def encP (p : Nat × Nat) : List Nat := if p.2 < 4 then List.replicate p.2 p.1 else List.replicate 4 p.1 ++ [p.2 - 4]
def txtP (p : Nat × Nat) : List Nat := List.replicate p.2 p.1
theorem encP_len {p : Nat × Nat} (h : 1 ≤ p.2) : 1 ≤ (encP p).length ∧ (encP p).length ≤ 5 ∧ (encP p).length ≤ p.2 + 1 := by
  unfold encP
  split <;> simp <;> omega
theorem encP_by {p : Nat × Nat} (h : p.1 < 256) (h2 : p.2 ≤ 255) : By (encP p) := fun x hx => by
  unfold encP at hx
  split at hx
  · rw [(List.mem_replicate.1 hx).2]; exact h
  · rcases List.mem_append.1 hx with hx | hx
    · rw [(List.mem_replicate.1 hx).2]; exact h
    · rw [List.mem_singleton.1 hx]; omega
def pcV (p : Nat × Nat) : List Value := [.int .u8 (p.1 : Int), .int .i64 (p.2 : Int)]
end Go.Proofs.YtcehhgppfahbkaaGreatDoor
namespace Go.Proofs.YtcehhgppfahbkaaGreatDoor
set_option linter.unusedVariables false
set_option linter.unusedSimpArgs false
open Go.RowKit Ev Ip

theorem bS_app (a b : List Nat) : bS (a ++ b) = bS a ++ bS b := by unfold bS; rw [List.map_append]
theorem stB_add (a b : List Nat) (h : a.length + b.length ≤ 9223372036854775807) (K : Value → M Value) : kad (stB a) (stB b) K = K (stB (a ++ b)) := by
  have := s_addS (k := K) (bS a) (bS b) (by unfold bS; simpa using h)
  rw [← bS_app] at this
  exact this
end Go.Proofs.YtcehhgppfahbkaaGreatDoor
namespace Go.Proofs.YtcehhgppfahbkaaGreatDoor
set_option linter.unusedVariables false
set_option linter.unusedSimpArgs false
open Go.RowKit Ev

theorem rep_one (x : UInt8) : ∀ k, Lib.repeatL [x] k = List.replicate k x
  | 0 => rfl
  | k + 1 => by
    show [x] ++ Lib.repeatL [x] k = _
    rw [rep_one x k]
    rfl
section
variable {β : Type} {W : Nat → Prop} {n0 n lf d : Nat} {h : H} {Q : β → H → Nat → Prop}
theorem clash_nil (n : Nat) (t : Tk) : clash3 ⟨n, n, []⟩ t = false := by
  rw [clash3_eq]
  unfold Tk.clash
  simp only [List.any_nil, Bool.and_false, List.any_eq_false, Bool.or_false, Bool.false_or, Bool.or_eq_false_iff]
  refine ⟨fun x _ => by simp, fun x _ => ?_⟩
  simp only [Bool.and_eq_true, decide_eq_true_eq]
  omega
theorem rep_ret (c k : Nat) (hk : k ≤ 1000) : evCall2 Tryz.prog gt lf (d + 1) 211 #[.string ⟨(bS [c]).toArray⟩, .int .i64 (k : Int)] = M.ret (.string ⟨(bS (List.replicate k c)).toArray⟩) := by
  have e : evCall2 Tryz.prog gt lf (d + 1) 211 #[.string ⟨(bS [c]).toArray⟩, .int .i64 (k : Int)] = evRep ⟨(bS [c]).toArray⟩ (k : Int) := by kernel_rfl
  rw [e]
  unfold evRep
  rw [if_pos (by
    have h1 : decide ((0 : Int) ≤ (k : Int)) = true := decide_eq_true (by omega)
    have h2 : decide ((k : Int) ≤ 1000000) = true := decide_eq_true (by omega)
    have h3 : decide ((⟨(bS [c]).toArray⟩ : ByteArray).size ≤ 1000000) = true := decide_eq_true (show (1 : Nat) ≤ 1000000 by decide)
    rw [h1, h2, h3]; rfl)]
  rw [Int.toNat_natCast]
  congr 3
  show (Lib.repeatL [UInt8.ofNat c] k).toArray = _
  rw [rep_one]
  unfold bS
  rw [List.map_replicate]
theorem timed_rep (c k : Nat) (hk : k ≤ 1000) (K : Value × Tk → M β) (x : Run W n0 (K (.string ⟨(bS (List.replicate k c)).toArray⟩, ⟨n, n, []⟩)) h n Q) : Run W n0 ((timed (kcl (evCall2 Tryz.prog gt lf (d + 1)) 211 [.string ⟨(bS [c]).toArray⟩, .int .i64 (k : Int)] M.ret)).bind K) h n Q := by
  have e : (kcl (evCall2 Tryz.prog gt lf (d + 1)) 211 [.string ⟨(bS [c]).toArray⟩, .int .i64 (k : Int)] M.ret : M Value) = M.ret (.string ⟨(bS (List.replicate k c)).toArray⟩) := by
    show insB (evCall2 Tryz.prog gt lf (d + 1) 211 #[.string ⟨(bS [c]).toArray⟩, .int .i64 (k : Int)]) M.ret = _
    rw [rep_ret c k hk, insB_eq, inside_ret]
  rw [e]
  exact timed_step (L := []) rfl (Nat.le_refl _) (by simp) x
end
theorem k_rep {lf d n : Nat} {h : H} (c k : Nat) (hk : k ≤ 1000) : Run (fun _ => False) n (evCall2 Tryz.prog gt lf (d + 1) 211 #[.string ⟨(bS [c]).toArray⟩, .int .i64 (k : Int)]) h n fun v' h' n' => v' = .string ⟨(bS (List.replicate k c)).toArray⟩ ∧ h' = h ∧ n' = n := by
  rw [rep_ret c k hk, run_ret]
  exact ⟨rfl, rfl, rfl⟩
end Go.Proofs.YtcehhgppfahbkaaGreatDoor
namespace Go.Proofs.YtcehhgppfahbkaaGreatDoor
set_option linter.unusedVariables false
set_option linter.unusedSimpArgs false
open Go.RowKit Ev Cn Ip

section
variable {lf d n : Nat} {h : H}
theorem s_rleText {p : Nat × Nat} (h1 : p.1 < 256) (h2 : p.2 ≤ 255) : Run (fun _ => False) n (evCall2 Tryz.prog gt lf (d + 2) 180 #[.agg (pcV p).toArray]) h n fun v' _ _ => v' = .string ⟨(bS (encP p)).toArray⟩ := by
  rw [shOf (fun _ => st_rle_text) rfl]
  refine Run.inside_ ?_
  unfold b_rle_text
  refine run_box trivial _ _ ?_
  obtain ⟨h2', hh2⟩ : ∃ h2, h.set n (some ⟨113, true, (Value.agg (pcV p).toArray).cells.toList⟩) = h2 := ⟨_, rfl⟩
  have g2 : h2'.get n = some ⟨113, true, [.int .u8 (p.1 : Int), .int .i64 (p.2 : Int)]⟩ := by rw [← hh2, get_eq]; rfl
  rw [hh2]
  clear hh2
  try simp (disch := first | omega | assumption) only [Nat.reduceAdd, Nat.reduceLT, RZ, g2]
  refine run_lit1 trivial (one_int _ _) _ ?_
  refine run_toStr (ws := [p.1]) (get_eq _ _ _) (Nat.lt_succ_self _) (by simp) rfl _ ?_
  have g3 := (get_ne h2' (some ⟨5, true, [.int .u8 (p.1 : Int)]⟩) (show n ≠ n + 1 by omega)).trans g2
  generalize h2'.set (n + 1) (some ⟨5, true, [.int .u8 (p.1 : Int)]⟩) = h3 at g3 ⊢
  unfold encP
  by_cases c : p.2 < 4
  · have z : ((p.2 : Nat) : Int) < 4 := by omega
    rw [if_pos c]
    try simp (disch := first | omega | assumption) only [Nat.reduceAdd, Nat.reduceLT, RZ, g3, z]
    refine run_same (k_rep (lf := lf) (d := d) p.1 p.2 (by omega)) (by omega) (fun _ _ h => h.elim) ?_
    try simp (disch := first | omega | assumption) only [Nat.reduceAdd, Nat.reduceLT, RZ]
  · have z : ¬ ((p.2 : Nat) : Int) < 4 := by omega
    have w1 : IntKind.i64.wrap (((p.2 : Nat) : Int) - 4) = ((p.2 - 4 : Nat) : Int) := by rw [wrap_id (by omega) (by omega)]; omega
    have w2 : IntKind.u8.wrap ((p.2 - 4 : Nat) : Int) = ((p.2 - 4 : Nat) : Int) := IntWalk.u8_in _ (by omega)
    have tr := fun (K : Value × Tk → M Value) x => timed_rep (W := fun _ => False) (n0 := n) (n := n + 1 + 1) (lf := lf) (d := d) (h := h3) (Q := fun v' _ _ => v' = .string ⟨(bS (List.replicate 4 p.1 ++ [p.2 - 4])).toArray⟩) p.1 4 (by decide) K x
    rw [if_neg c]
    try simp (disch := first | omega | assumption) only [Nat.reduceAdd, Nat.reduceLT, RZ, g3, z]
    refine tr _ ?_
    try simp (disch := first | omega | assumption) only [Nat.reduceAdd, Nat.reduceLT, RZ]
    refine timed_ld trivial n 1 _ g3 (by omega) rfl ?_
    try simp (disch := first | omega | assumption) only [Nat.reduceAdd, Nat.reduceLT, RZ, w1, w2]
    refine timed_retB (m := n) _ _ (by omega) fun T5 _ => ?_
    try simp (disch := first | omega | assumption) only [Nat.reduceAdd, Nat.reduceLT, RZ]
    refine timed_any (run_lit1 (Q := fun v' h' n' => v' = .slice (some ⟨n + 1 + 1, 0, none⟩) 1 1 ∧ n' = n + 1 + 1 + 1 ∧ h'.get (n + 1 + 1) = some ⟨5, true, [.int .u8 ((p.2 - 4 : Nat) : Int)]⟩) trivial (one_int _ _) _ ((run_ret _).2 ⟨rfl, rfl, get_eq _ _ _⟩)) fun v6 h6 n6 T6 _ hq6 => ?_
    obtain ⟨rfl, rfl, g6⟩ := hq6
    try simp (disch := first | omega | assumption) only [Nat.reduceAdd, Nat.reduceLT, RZ]
    refine timed_any (run_toStr (Q := fun v' h' n' => v' = .string ⟨(bS [p.2 - 4]).toArray⟩) (ws := [p.2 - 4]) g6 (by omega) (by simp) rfl _ ((run_ret _).2 rfl)) fun v7 h7 n7 T7 _ hq7 => ?_
    subst hq7
    have ad := fun (K : Value → M Value) => stB_add (List.replicate 4 p.1) [p.2 - 4] (by simp) K
    unfold stB at ad
    have ad : ∀ K : Value → M Value, kad (.string ⟨(bS (List.replicate 4 p.1)).toArray⟩) (.string ⟨(bS [p.2 - 4]).toArray⟩) K = K (.string ⟨(bS (List.replicate 4 p.1 ++ [p.2 - 4])).toArray⟩) := ad
    try simp (disch := first | omega | assumption) only [Nat.reduceAdd, Nat.reduceLT, RZ, ad, clash_nil, Bool.not_false, Bool.and_self, chk_true]
theorem s_rlePiece {p : Nat × Nat} (h1 : p.1 < 256) (h0 : 1 ≤ p.2) (h2 : p.2 ≤ 255) : Run (fun _ => False) n (evCall2 Tryz.prog gt lf (d + 3) 153 #[.agg (pcV p).toArray]) h n fun v' _ _ => v' = .tuple #[.string ⟨(bS (encP p)).toArray⟩, .int .i64 0] := by
  rw [shOf (fun _ => st_rle_Piece) rfl]
  refine Run.inside_ ?_
  unfold b_rle_Piece
  refine run_box trivial _ _ ?_
  obtain ⟨h2', hh2⟩ : ∃ h2, h.set n (some ⟨113, true, (Value.agg (pcV p).toArray).cells.toList⟩) = h2 := ⟨_, rfl⟩
  have g2 : h2'.get n = some ⟨113, true, [.int .u8 (p.1 : Int), .int .i64 (p.2 : Int)]⟩ := by rw [← hh2, get_eq]; rfl
  rw [hh2]
  clear hh2
  have c1 : ¬ ((p.2 : Nat) : Int) < 1 := by omega
  have c2 : ¬ (255 : Int) < ((p.2 : Nat) : Int) := by omega
  have nn : n < n + 1 := Nat.lt_succ_self n
  try simp (disch := first | omega | assumption) only [Nat.reduceAdd, Nat.reduceLT, RZ, g2, c1, c2]
  refine run_klg n 0 _ g2 nn (Nat.le_refl 2) ?_
  refine run_call okd (s_rleText (lf := lf) (d := d) (p := p) h1 h2) (by omega) (fun _ _ h => h.elim) fun v1 h3 n3 hn3 fr3 hq3 => ?_
  subst hq3
  try simp (disch := first | omega | assumption) only [Nat.reduceAdd, Nat.reduceLT, RZ]
def pkB (p : Nat × Nat) : AB := ⟨163, true, pcV p⟩
theorem s_pkNew : Run (fun _ => False) n (evCall2 Tryz.prog gt lf (d + 1) 83 #[]) h n fun v' h' n' => v' = .pointer (some ⟨n, 0, none⟩) ∧ n' = n + 1 ∧ h'.get n = some (pkB (0, 0)) ∧ ∀ b, b ≠ n → h'.get b = h.get b := by
  rw [shOf (fun _ => st_feed_NewPacker) rfl]
  refine Run.inside_ ?_
  unfold b_feed_NewPacker
  try simp (disch := first | omega | assumption) only [Nat.reduceAdd, Nat.reduceLT, RZ]
  refine run_box trivial _ _ ?_
  try simp (disch := first | omega | assumption) only [Nat.reduceAdd, Nat.reduceLT, RZ]
  exact ⟨rfl, fun b hb => get_ne _ _ hb⟩
theorem s_pkRow {q : Nat} {p : Nat × Nat} (g : h.get q = some (pkB p)) (hq : q < n) : Run (fun _ => False) n (evCall2 Tryz.prog gt lf (d + 1) 84 #[.pointer (some ⟨q, 0, none⟩)]) h n fun v' _ _ => v' = .agg (pcV p).toArray := by
  rw [shOf (fun _ => st_feed_Packer_Row) rfl]
  refine Run.inside_ ?_
  unfold b_feed_Packer_Row
  refine run_alloc rfl _ ?_
  have g1 := (get_ne h (some ⟨113, true, z113⟩) (show q ≠ n by omega)).trans g
  try simp (disch := first | omega | assumption) only [Nat.reduceAdd, Nat.reduceLT, RZ]
  refine run_klg q 0 _ g1 (by omega) (Nat.le_refl 2) ?_
  refine run_staF (sz := 2) trivial (vs := pcV p) rfl rfl rfl (get_eq _ _ _) (by omega) (.inl (by omega)) _ fun h2 g2 k2 => ?_
  exact run_ldaF trivial trivial g2 rfl (by omega) rfl
theorem s_pkClose {q : Nat} {p : Nat × Nat} (g : h.get q = some (pkB p)) (hq : q < n) (h1 : p.1 < 256) (h0 : 1 ≤ p.2) (h2 : p.2 ≤ 255) : Run (fun c => c = q) n (evCall2 Tryz.prog gt lf (d + 4) 116 #[.pointer (some ⟨q, 0, none⟩)]) h n fun v' h' n' => v' = .string ⟨(bS (encP p)).toArray⟩ ∧ h'.get q = some (pkB (0, 0)) := by
  rw [shOf (fun _ => st_feed_Packer_close) rfl]
  refine Run.inside_ ?_
  unfold b_feed_Packer_close
  try simp (disch := first | omega | assumption) only [Nat.reduceAdd, Nat.reduceLT, RZ]
  refine run_klg q 0 _ g hq (Nat.le_refl 2) ?_
  refine run_call okd (s_rlePiece (lf := lf) (d := d) (p := p) h1 h0 h2) (Nat.le_refl n) (fun _ _ h => h.elim) fun v1 h3 n3 hn3 fr3 hq3 => ?_
  subst hq3
  have g3 := (fr3 q hq id).trans g
  try simp (disch := first | omega | assumption) only [Nat.reduceAdd, Nat.reduceLT, RZ, ext0, ext1]
  refine run_staF (W := fun c => c = q) (n0 := n) (sz := 2) trivial (vs := pcV (0, 0)) rfl rfl rfl g3 (by omega) (.inr rfl) _ fun h4 g4 k4 => ?_
  try simp (disch := first | omega | assumption) only [Nat.reduceAdd, Nat.reduceLT, RZ]
  exact g4
def pkR (p : Nat × Nat) (x : Nat) : Nat × Nat := if 0 < p.2 ∧ p.1 ≠ x then (x, 1) else if p.2 = 254 then (0, 0) else (x, p.2 + 1)
def pkT (p : Nat × Nat) (x : Nat) : List Nat := if 0 < p.2 ∧ p.1 ≠ x then encP p else if p.2 = 254 then encP (x, 255) else []
theorem s_pkPut {q : Nat} {p : Nat × Nat} (g : h.get q = some (pkB p)) (hq : q < n) (h1 : p.1 < 256) (h2 : p.2 ≤ 254) {x : Nat} (hx : x < 256) : Run (fun c => c = q) n (evCall2 Tryz.prog gt lf (d + 5) 85 #[.pointer (some ⟨q, 0, none⟩), .int .u8 (x : Int)]) h n fun v' h' n' => v' = .string ⟨(bS (pkT p x)).toArray⟩ ∧ h'.get q = some (pkB (pkR p x)) := by
  have g0 := g
  unfold pkB pcV at g
  rw [shOf (fun _ => st_feed_Packer_Put) rfl]
  refine Run.inside_ ?_
  unfold b_feed_Packer_Put
  have w1 : IntKind.i64.wrap (((p.2 : Nat) : Int) + 1) = ((p.2 + 1 : Nat) : Int) := by rw [wrap_id (by omega) (by omega)]; rfl
  by_cases c0 : 0 < p.2
  · have z0 : (0 : Int) < ((p.2 : Nat) : Int) := by omega
    by_cases c1 : p.1 = x
    · have z1 : (((p.1 : Nat) : Int) != ((x : Nat) : Int)) = false := by rw [c1]; simp
      have nn : ¬ (0 < p.2 ∧ p.1 ≠ x) := fun q => q.2 c1
      unfold pkT pkR
      rw [if_neg nn, if_neg nn]
      by_cases c2 : p.2 = 254
      · have z2 : (((p.2 + 1 : Nat) : Int) == 255) = true := by rw [c2]; rfl
        rw [if_pos c2, if_pos c2]
        try simp (disch := first | omega | assumption) only [Nat.reduceAdd, Nat.reduceLT, RZ, g, z0, z1, w1, z2, or_true, true_and]
        refine run_call okd (s_pkClose (lf := lf) (d := d) (p := (x, 255)) ((get_eq _ _ _).trans (by unfold pkB pcV; rw [c2])) hq hx (Nat.le_of_ble_eq_true rfl) (Nat.le_refl 255)) (Nat.le_refl n) (fun b _ hb => .inr hb) fun v3 h3 n3 hn3 fr3 hq3 => ?_
        obtain ⟨rfl, g3⟩ := hq3
        have ad := fun (K : Value → M Value) => s_addS (k := K) [] (bS (encP (x, 255))) (by have := (encP_len (p := (x, 255)) (Nat.le_of_ble_eq_true rfl)).2.1; unfold bS; simp; omega)
        have e0 : Value.string { data := #[] } = .string ⟨([] : List UInt8).toArray⟩ := rfl
        try simp (disch := first | omega | assumption) only [Nat.reduceAdd, Nat.reduceLT, RZ, e0, ad, List.nil_append]
        exact g3
      · have z2 : (((p.2 + 1 : Nat) : Int) == 255) = false := beq_eq_false_iff_ne.2 (by omega)
        rw [if_neg c2, if_neg c2]
        try simp (disch := first | omega | assumption) only [Nat.reduceAdd, Nat.reduceLT, RZ, g, z0, z1, w1, z2, or_true, true_and]
        try exact ⟨rfl, rfl⟩
    · have z1 : (((p.1 : Nat) : Int) != ((x : Nat) : Int)) = true := by rw [bne_iff_ne]; omega
      have nn : 0 < p.2 ∧ p.1 ≠ x := ⟨c0, c1⟩
      unfold pkT pkR
      rw [if_pos nn, if_pos nn]
      try simp (disch := first | omega | assumption) only [Nat.reduceAdd, Nat.reduceLT, RZ, g, z0, z1]
      refine run_call okd (s_pkClose (lf := lf) (d := d) g0 hq h1 c0 (by omega)) (Nat.le_refl n) (fun b _ hb => .inr hb) fun v3 h3 n3 hn3 fr3 hq3 => ?_
      obtain ⟨rfl, g3⟩ := hq3
      unfold pkB pcV at g3
      have hq3 : q < n3 := by omega
      have w2 : IntKind.i64.wrap (((0 : Nat) : Int) + 1) = 1 := rfl
      try simp (disch := first | omega | assumption) only [Nat.reduceAdd, Nat.reduceLT, RZ, g3, w2, or_true, true_and]
      try exact rfl
  · have z0 : ¬ (0 : Int) < ((p.2 : Nat) : Int) := by omega
    have nn : ¬ (0 < p.2 ∧ p.1 ≠ x) := fun q => c0 q.1
    have z2 : (((p.2 + 1 : Nat) : Int) == 255) = false := beq_eq_false_iff_ne.2 (by omega)
    unfold pkT pkR
    rw [if_neg nn, if_neg nn, if_neg (by omega), if_neg (by omega)]
    try simp (disch := first | omega | assumption) only [Nat.reduceAdd, Nat.reduceLT, RZ, g, z0, w1, z2, or_true, true_and]
    try exact ⟨rfl, rfl⟩
end
end Go.Proofs.YtcehhgppfahbkaaGreatDoor
namespace Go.Proofs.YtcehhgppfahbkaaGreatDoor.Ev
set_option linter.unusedVariables false
set_option linter.unusedSimpArgs false
open Go Go.RowKit
def SrcE (h : H) (n : Nat) (x : Value) (news : List Value) : Prop := ∃ L, elemsOf 1 news.length x h n = some ⟨news, h, n, L⟩ ∧ (∀ e ∈ L, e.wr = false) ∧ lenOf? x = some news.length
theorem u8V_one (ws : List Nat) : (u8V ws).all one = true := by unfold u8V; simp [one]
theorem srcE_str {h : H} {n : Nat} {t : List Nat} (ht : ∀ x ∈ t, x < 256) : SrcE h n (.string ⟨(bS t).toArray⟩) (u8V t) := by
  have hl : (bS t).length = t.length := by unfold bS; rw [List.length_map]
  refine ⟨[], ?_, fun e he => absurd he List.not_mem_nil, ?_⟩
  · rw [← elems3_eq]
    show M.ret (((bS t).take (u8V t).length).map fun b => Value.int .u8 (.ofNat b.toNat)) h n = _
    have : ((bS t).take (u8V t).length).map (fun b => Value.int .u8 (.ofNat b.toNat)) = u8V t := by
      rw [List.take_of_length_le (by rw [u8V_len, hl]; exact Nat.le_refl _)]
      unfold bS u8V
      rw [List.map_map]
      refine List.map_congr_left fun x hx => ?_
      show Value.int .u8 (.ofNat (UInt8.ofNat x).toNat) = _
      rw [UInt8.toNat_ofNat', Nat.mod_eq_of_lt (ht x hx)]
      rfl
    rw [this]
    rfl
  · rw [u8V_len, ← hl]
    rfl
section
variable {β : Type} {W : Nat → Prop} {n0 : Nat} {h : H} {n : Nat} {Q : β → H → Nat → Prop}
theorem app_nilE {T : Prop} (_ : T) {e : TypeId} {x : Value} {news : List Value} (s : SrcE h n x news) (h0 : 0 < news.length) (hm : news.length ≤ 1099511627776) (h1 : news.all one = true) (k : Value → M β)
    (y : Run W n0 (k (.slice (some ⟨n, 0, none⟩) news.length (CAP + news.length))) (h.set n (some ⟨e, true, news⟩)) (n + 1) Q) : Run W n0 (kap e 1 (.slice none 0 0) x k) h n Q := by
  obtain ⟨L, e1, e2, e3⟩ := s
  have ea : appQ e 1 (.slice none 0 0) x h n = some ⟨.slice (some ⟨n, 0, none⟩) news.length (CAP + news.length), h.set n (some ⟨e, true, news⟩), n + 1, L⟩ := by
    unfold appQ
    rw [elems3_eq, newB3_eq]
    simp only [e3]
    rw [if_neg (by omega), if_pos hm]
    have g : (if (decide (news.length = news.length * 1) && news.all one) = true then (newB e ([] ++ news)).bind fun id => M.ret (Value.slice (some ⟨id, 0, none⟩) (0 + news.length) (CAP + (0 + news.length))) else M.fail) h n = some ⟨.slice (some ⟨n, 0, none⟩) news.length (CAP + news.length), h.set n (some ⟨e, true, news⟩), n + 1, []⟩ := by
      rw [if_pos (by simp; simpa using h1)]
      simp only [Nat.zero_add, List.nil_append]
      exact bind_run (newB_run _ _ _ _) rfl
    have := bind_run (f := fun new => if (decide (new.length = news.length * 1) && new.all one) = true then (newB e ([] ++ new)).bind fun id => M.ret (Value.slice (some ⟨id, 0, none⟩) (0 + news.length) (CAP + (0 + news.length))) else M.fail) e1 g
    simpa using this
  refine run_ins (Run.step (inside_run ea) (Nat.le_succ n) (fun x hx hx2 => ?_) y)
  rw [e2 x (List.mem_filter.1 hx).1] at hx2
  cases hx2
theorem app_ownE {T : Prop} (_ : T) {e : TypeId} {x : Value} {news olds : List Value} (s : SrcE h n x news) (h0 : 0 < news.length) (h1 : news.all one = true) {b cp : Nat} {cs : List Value} (hg : h.get b = some ⟨e, true, cs⟩) (hb : b < n) (off l : Nat)
    (hl : off + l ≤ cs.length) (ho : (cs.drop off).take l = olds) (hm : l + news.length ≤ 1099511627776) (hc : CAP ≤ cp) (hw : n0 ≤ b ∨ W b) (k : Value → M β)
    (y : Run W n0 (k (.slice (some ⟨n, 0, none⟩) (l + news.length) (CAP + (l + news.length)))) ((h.set b none).set n (some ⟨e, true, olds ++ news⟩)) (n + 1) Q) : Run W n0 (kap e 1 (.slice (some ⟨b, off, none⟩) l cp) x k) h n Q := by
  obtain ⟨L, e1, e2, e3⟩ := s
  obtain ⟨L', e4, e5⟩ := rdN_run (n := n) hg hb l off hl
  have ea : ∃ L1, appQ e 1 (.slice (some ⟨b, off, none⟩) l cp) x h n = some ⟨.slice (some ⟨n, 0, none⟩) (l + news.length) (CAP + (l + news.length)), (h.set b none).set n (some ⟨e, true, olds ++ news⟩), n + 1, L1⟩ ∧ ∀ e ∈ L1, e.wr = true → e.b = b := by
    refine ⟨[⟨false, b, some 1099511627776⟩] ++ (L ++ (L' ++ ([⟨false, b, none⟩, ⟨true, b, none⟩] ++ []))), ?_, ?_⟩
    · unfold appQ appTo
      rw [elems3_eq, newB3_eq, hdr3_eq, kill3_eq, rdN3_eq]
      simp only [e3]
      rw [if_neg (by omega), if_pos hm]
      refine bind_run (hdr_run hg hb) ?_
      simp only [if_true]
      refine bind_run e1 ?_
      rw [if_pos (by simp; simpa using h1)]
      rw [if_neg (by omega), Nat.mul_one]
      refine bind_run e4 (bind_run (kill_run hg rfl hb) ?_)
      rw [ho]
      exact bind_run (newB_run _ _ _ _) rfl
    · intro x hx hx2
      simp only [List.mem_append, List.mem_cons, List.not_mem_nil, or_false] at hx
      rcases hx with rfl | hx | hx | rfl | rfl
      · cases hx2
      · rw [e2 x hx] at hx2; cases hx2
      · rw [e5 x hx] at hx2; cases hx2
      · cases hx2
      · rfl
  obtain ⟨L1, ea, hL1⟩ := ea
  refine run_ins (Run.step (inside_run ea) (Nat.le_succ n) (fun x hx hx2 => ?_) y)
  rw [hL1 x (List.mem_filter.1 hx).1 hx2]
  exact hw
variable {e : TypeId} {v : Value} {ws : List Nat}
end
end Go.Proofs.YtcehhgppfahbkaaGreatDoor.Ev
namespace Go.Proofs.YtcehhgppfahbkaaGreatDoor
set_option linter.unusedVariables false
set_option linter.unusedSimpArgs false
open Go.RowKit Ev Cn Ip

section
variable {β : Type} {W : Nat → Prop} {n0 n : Nat} {h : H} {Q : β → H → Nat → Prop}
theorem run_appStr {lo : Nat} {e : TypeId} {v : Value} {ws : List Nat} (o : Own h lo n e v (u8V ws)) {t : List Nat} (ht : ∀ x ∈ t, x < 256) (hm : ws.length + t.length ≤ 1000000000) (hw : ∀ b, InBlk v b → n0 ≤ b ∨ W b) (hlo : lo ≤ n) (k : Value → M β)
    (y : ∀ v' h' n', n ≤ n' → Own h' lo n' e v' (u8V (ws ++ t)) → (∀ b, InBlk v' b → InBlk v b ∨ n ≤ b) → (∀ b, b < n → ¬ InBlk v b → h'.get b = h.get b) → Run W n0 (k v') h' n' Q) : Run W n0 (kap e 1 v (.string ⟨(bS t).toArray⟩) k) h n Q := by
  have hl := u8V_len t
  have hl2 := u8V_len ws
  by_cases h0 : t.length = 0
  · obtain rfl : t = [] := List.length_eq_zero_iff.1 h0
    obtain ⟨a, c, rfl⟩ := o.vrow.len
    refine app_none (news := []) trivial (x := .string ⟨(bS []).toArray⟩) rfl a _ c k ?_
    exact y _ h n (Nat.le_refl n) (by rw [List.append_nil]; exact o) (fun b hb => .inl hb) (fun b _ _ => rfl)
  · have s := srcE_str (h := h) (n := n) ht
    rcases o with ⟨rfl, e0⟩ | ⟨b, rfl, hg, h1, h2⟩
    · have : ws = [] := by
        cases ws with
        | nil => rfl
        | cons x l => simp [u8V] at e0
      subst this
      refine app_nilE trivial s (by omega) (by rw [hl]; omega) (u8V_one t) k ?_
      exact y _ _ (n + 1) (Nat.le_succ n) (Own.mk' (get_eq _ _ _) hlo (Nat.lt_succ_self n) rfl) (fun c hc => .inr (by rw [hc.inj]; exact Nat.le_refl n)) (fun c hc _ => get_ne _ _ (by omega))
    · refine app_ownE trivial s (by omega) (u8V_one t) hg h2 0 (u8V ws).length (by omega) (by rw [List.drop_zero, List.take_length]) (by rw [hl, hl2]; omega) (by omega) (hw b ⟨_, _, _, rfl⟩) k ?_
      refine y _ _ (n + 1) (Nat.le_succ n) ?_ (fun c hc => .inr (by rw [hc.inj]; exact Nat.le_refl n)) (fun c hc hn => ?_)
      · rw [u8V_app]
        exact Own.mk' (get_eq _ _ _) hlo (Nat.lt_succ_self n) (List.length_append).symm
      · have : c ≠ b := fun e => hn ⟨_, _, _, by rw [e]⟩
        rw [get_ne _ _ (by omega), get_ne _ _ this]
end
theorem SmAt.keep {h h' : H} {n n' a s : Nat} (x : SmAt h n a s) (hn : n ≤ n') (hk : h'.get a = h.get a) : SmAt h' n' a s := ⟨hk.trans x.get, Nat.lt_of_lt_of_le x.lt hn, x.sm⟩
abbrev txP (ps : List (Nat × Nat)) : List Nat := ps.flatMap txtP
abbrev bdP (ps : List (Nat × Nat)) : List Nat := ps.flatMap encP
def bkV (ps : List (Nat × Nat)) : List Value := [.string ⟨(bS (bdP ps)).toArray⟩, .int .u32 (crcO (txP ps) : Int), .int .i64 ((txP ps).length : Int)]
structure Pm where
  p : Nat
  c : Nat
  q : Nat
  bv : Value
def spB (room : Nat) (ps : List (Nat × Nat)) (m : Pm) : AB := ⟨127, true, [m.bv, .pointer (some ⟨m.c, 0, none⟩), .int .i64 ((txP ps).length : Int), .int .i64 (room : Int), .pointer (some ⟨m.q, 0, none⟩)]⟩
structure SpAt (h : H) (n : Nat) (L : Nat → Nat) (room : Nat) (ps : List (Nat × Nat)) (row : Nat × Nat) (m : Pm) : Prop where
  get : h.get m.p = some (spB room ps m)
  lt : m.p < n
  Lp : L m.p = 30
  body : Own h 0 n 5 m.bv (u8V (bdP ps))
  Lb : ∀ b, InBlk m.bv b → L b = 31
  crc : SmAt h n m.c (crcF (txP ps))
  Lc : L m.c = 32
  pk : h.get m.q = some (pkB row)
  lq : m.q < n
  Lq : L m.q = 33
def WP (L : Nat → Nat) : Nat → Prop := fun c => 30 ≤ L c ∧ L c ≤ 33
theorem WP_of {L : Nat → Nat} {c i : Nat} (h : L c = i) (h1 : 30 ≤ i) (h2 : i ≤ 33) : WP L c := by unfold WP; omega
theorem SpAt.keep {h h' : H} {n n' : Nat} {L L' : Nat → Nat} {room : Nat} {ps : List (Nat × Nat)} {row : Nat × Nat} {m : Pm} (y : SpAt h n L room ps row m) (hn : n ≤ n') (hL : ∀ c, c < n → L' c = L c) (hk : ∀ c, c < n → 30 ≤ L c → L c ≤ 33 → h'.get c = h.get c) : SpAt h' n' L' room ps row m :=
  ⟨(hk _ y.lt (by rw [y.Lp]; decide) (by rw [y.Lp]; decide)).trans y.get, Nat.lt_of_lt_of_le y.lt hn, (hL _ y.lt).trans y.Lp, y.body.keep hn fun b hb => hk b (y.body.lt hb).2 (by rw [y.Lb b hb]; decide) (by rw [y.Lb b hb]; decide), fun b hb => (hL b (y.body.lt hb).2).trans (y.Lb b hb), y.crc.keep hn (hk _ y.crc.lt (by rw [y.Lc]; decide) (by rw [y.Lc]; decide)), (hL _ y.crc.lt).trans y.Lc, (hk _ y.lq (by rw [y.Lq]; decide) (by rw [y.Lq]; decide)).trans y.pk, Nat.lt_of_lt_of_le y.lq hn, (hL _ y.lq).trans y.Lq⟩
def SpPost (L : Nat → Nat) (n room : Nat) (ps : List (Nat × Nat)) (row : Nat × Nat) (m : Pm) (h' : H) (n' : Nat) : Prop := ∃ L' m', (∀ c, c < n → L' c = L c) ∧ m'.p = m.p ∧ SpAt h' n' L' room ps row m'
theorem txP_app (a : List (Nat × Nat)) (p : Nat × Nat) : txP (a ++ [p]) = txP a ++ List.replicate p.2 p.1 := by
  show (a ++ [p]).flatMap txtP = _
  rw [List.flatMap_append]
  simp [txtP]
theorem bdP_app (a : List (Nat × Nat)) (p : Nat × Nat) : bdP (a ++ [p]) = bdP a ++ encP p := by
  show (a ++ [p]).flatMap encP = _
  rw [List.flatMap_append]
  simp
theorem crcF_rep (l : List Nat) (c k : Nat) : crcF (l ++ List.replicate (k + 1) c) = crcP (crcF (l ++ List.replicate k c)) c := by
  rw [List.replicate_succ', ← List.append_assoc]
  unfold crcF
  rw [List.foldl_append]
  rfl
section
variable {lf d n room : Nat} {h : H} {L : Nat → Nat} {ps : List (Nat × Nat)} {row : Nat × Nat} {m : Pm}
theorem s_spTake (y : SpAt h n L room ps row m) {p : Nat × Nat} (h1 : p.1 < 256) (h0 : 1 ≤ p.2) (h2 : p.2 ≤ 255) (hb : (bdP ps).length ≤ 1000000) (ht : (txP ps).length ≤ 1000000000) (hlf : 300 ≤ lf) : Run (WP L) n (evCall2 Tryz.prog gt lf (d + 4) 117 #[.pointer (some ⟨m.p, 0, none⟩), .agg (pcV p).toArray]) h n fun _ h' n' => SpPost L n room (ps ++ [p]) row m h' n' := by
  have wp : WP L m.p := WP_of y.Lp (by decide) (by decide)
  rw [shOf (fun _ => st_split_begun_take) rfl]
  refine Run.inside_ ?_
  unfold b_split_begun_take
  refine run_box trivial _ _ ?_
  obtain ⟨h2', hh2⟩ : ∃ h2, h.set n (some ⟨113, true, (Value.agg (pcV p).toArray).cells.toList⟩) = h2 := ⟨_, rfl⟩
  have g2 : h2'.get n = some ⟨113, true, [.int .u8 (p.1 : Int), .int .i64 (p.2 : Int)]⟩ := by rw [← hh2, get_eq]; rfl
  have k2 : ∀ c, c < n → h2'.get c = h.get c := fun c hc => by rw [← hh2, get_ne _ _ (by omega)]
  rw [hh2]
  clear hh2
  refine run_klg n 0 _ g2 (Nat.lt_succ_self n) (Nat.le_refl 2) ?_
  refine run_call okd (s_rlePiece (lf := lf) (d := d) (p := p) h1 h0 h2) (by omega) (fun _ _ h => h.elim) fun v3 h3 n3 hn3 fr3 hq3 => ?_
  subst hq3
  have y3 : SpAt h3 n3 L room ps row m := y.keep (by omega) (fun _ _ => rfl) fun c hc _ _ => (fr3 c (by omega) id).trans (k2 c hc)
  have g3 := (fr3 n (by omega) id).trans g2
  have g := y3.get
  have hp := y3.lt
  unfold spB at g
  try simp (disch := first | omega | assumption) only [Nat.reduceAdd, Nat.reduceLT, RZ, ext0, ext1, g]
  have el := encP_len h0
  refine run_appStr y3.body (encP_by h1 h2) (by omega) (fun b hb => .inr (WP_of (y.Lb b hb) (by decide) (by decide))) (Nat.zero_le _) _ fun v4 h4 n4 hn4 o4 ib4 k4 => ?_
  have nib : ∀ c, L c ≠ 31 → ¬ InBlk m.bv c := fun c hc q => hc (y.Lb c q)
  have g4 := (k4 m.p hp (nib _ (by rw [y.Lp]; decide))).trans g
  have hp4 : m.p < n4 := by omega
  have npn : n ≠ m.p := by have := y.lt; omega
  have gn4 := (k4 n (by omega) (fun q => by have := (y.body.lt q).2; omega)).trans g3
  have nn4 : n < n4 := by omega
  have w1 : IntKind.i64.wrap ((((txP ps).length : Nat) : Int) + ((p.2 : Nat) : Int)) = (((txP ps).length + p.2 : Nat) : Int) := by rw [wrap_id (by omega) (by omega)]; rfl
  obtain ⟨a5, c5, e5⟩ := o4.vrow.len
  rw [e5]
  try simp (disch := first | omega | assumption) only [Nat.reduceAdd, Nat.reduceLT, RZ, g4, gn4, nn4, npn, w1, wp, or_true, true_and, ne_eq, not_false_eq_true]
  rw [← e5]
  have bl : (txP (ps ++ [p])).length = (txP ps).length + p.2 := by rw [txP_app, List.length_append, List.length_replicate]
  have nv4 : ∀ b, InBlk v4 b → b ≠ m.p := fun b hb q => by
    rcases ib4 b hb with w | w
    · exact nib _ (by rw [y.Lp]; decide) (q ▸ w)
    · omega
  -- the labels
  have Ls : ∀ c, c < n → (if c < n then L c else 31) = L c := fun c hc => if_pos hc
  have y5 : ∀ (h5 : H), h5.get m.p = some ⟨127, true, [v4, .pointer (some ⟨m.c, 0, none⟩), .int .i64 (((txP ps).length + p.2 : Nat) : Int), .int .i64 (room : Int), .pointer (some ⟨m.q, 0, none⟩)]⟩ → (∀ c, c ≠ m.p → h5.get c = h4.get c) → SmAt h5 n4 m.c (crcF (txP ps)) ∧ h5.get n = some ⟨113, true, [.int .u8 (p.1 : Int), .int .i64 (p.2 : Int)]⟩ ∧ ∀ (h6 : H) (n6 : Nat), n4 ≤ n6 → SmAt h6 n6 m.c (crcF (txP (ps ++ [p]))) → (∀ c, c < n4 → c ≠ m.c → h6.get c = h5.get c) → SpPost L n room (ps ++ [p]) row m h6 n6 := fun h5 g5 k5 => by
    have cp : m.c ≠ m.p := fun q => by have := y.Lc; rw [q, y.Lp] at this; cases this
    have qp : m.q ≠ m.p := fun q => by have := y.Lq; rw [q, y.Lp] at this; cases this
    have qc : m.q ≠ m.c := fun q => by have := y.Lq; rw [q, y.Lc] at this; cases this
    have sm5 : SmAt h5 n4 m.c (crcF (txP ps)) := y3.crc.keep hn4 ((k5 _ cp).trans (k4 _ y3.crc.lt (nib _ (by rw [y.Lc]; decide))))
    refine ⟨sm5, (k5 _ npn).trans gn4, fun h6 n6 hn6 sm6 k6 => ⟨fun c => if c < n then L c else 31, { m with bv := v4 }, Ls, rfl, ?_⟩⟩
    refine ⟨?_, by show m.p < n6; omega, (Ls _ y.lt).trans y.Lp, ?_, fun b hb => ?_, sm6, (Ls _ y.crc.lt).trans y.Lc, ?_, by show m.q < n6; have := y.lq; omega, (Ls _ y.lq).trans y.Lq⟩
    · rw [k6 m.p hp4 (Ne.symm cp), g5]
      unfold spB
      rw [bl]
    · rw [bdP_app]
      exact o4.keep hn6 fun b hb => (k6 b (o4.lt hb).2 fun q => by
        rcases ib4 b hb with w | w
        · exact nib _ (by rw [y.Lc]; decide) (q ▸ w)
        · have := y.crc.lt; omega).trans (k5 b (nv4 b hb))
    · rcases ib4 b hb with w | w
      · have hb2 := (y.body.lt w).2
        exact (Ls b hb2).trans (y.Lb b w)
      · exact if_neg (by omega)
    · rw [k6 m.q (by have := y.lq; omega) qc, k5 m.q qp, k4 m.q y3.lq (nib _ (by rw [y.Lq]; decide))]
      exact y3.pk
  have key : ∀ h5 : H, h5.get m.p = some ⟨127, true, [v4, .pointer (some ⟨m.c, 0, none⟩), .int .i64 (((txP ps).length + p.2 : Nat) : Int), .int .i64 (room : Int), .pointer (some ⟨m.q, 0, none⟩)]⟩ → (∀ c, c ≠ m.p → h5.get c = h4.get c) → Run (WP L) n (lpA_split_begun_take lf (evCall2 Tryz.prog gt lf (d + 3)) lf (kcA_split_begun_take lf (evCall2 Tryz.prog gt lf (d + 3))) (.pointer (some ⟨m.p, 0, none⟩)) (.agg (pcV p).toArray) (.pointer (some ⟨n, 0, none⟩)) (.string ⟨(bS (encP p)).toArray⟩) (.int .i64 (p.2 : Int)) (.int .i64 ((0 : Nat) : Int))) h5 n4 fun _ h' n' => SpPost L n room (ps ++ [p]) row m h' n' := by
    intro h5 g5 k5
    obtain ⟨sm5, gn5, fin⟩ := y5 h5 g5 k5
    have wc : WP L m.c := WP_of y.Lc (by decide) (by decide)
    have cp : m.c ≠ m.p := fun q => by have := y.Lc; rw [q, y.Lp] at this; cases this
    have cn : m.c < n4 := by have := y.crc.lt; omega
    have nc : n ≠ m.c := by have := y.crc.lt; omega
    refine run_for p.2 (fun fu i (_ : Unit) => lpA_split_begun_take lf (evCall2 Tryz.prog gt lf (d + 3)) fu (kcA_split_begun_take lf (evCall2 Tryz.prog gt lf (d + 3))) (.pointer (some ⟨m.p, 0, none⟩)) (.agg (pcV p).toArray) (.pointer (some ⟨n, 0, none⟩)) (.string ⟨(bS (encP p)).toArray⟩) (.int .i64 (p.2 : Int)) (.int .i64 (i : Int))) (fun i _ h' n' => n4 ≤ n' ∧ SmAt h' n' m.c (crcF (txP ps ++ List.replicate i p.1)) ∧ ∀ c, c < n4 → c ≠ m.c → h'.get c = h5.get c) ?_ ?_ lf 0 () h5 n4 (Nat.zero_le _) (by omega) ⟨Nat.le_refl _, by rw [List.replicate_zero, List.append_nil]; exact sm5, fun _ _ _ => rfl⟩
    · rintro fu _ h' n' ⟨q1, q2, q3⟩
      rw [lpA_split_begun_take]
      try simp (disch := first | omega | assumption) only [Nat.reduceAdd, Nat.reduceLT, RZ, Int.lt_irrefl]
      unfold kcA_split_begun_take
      try simp (disch := first | omega | assumption) only [Nat.reduceAdd, Nat.reduceLT, RZ]
      exact fin h' n' q1 (by rw [txP_app]; exact q2) q3
    · rintro fu i _ h' n' hi ⟨q1, q2, q3⟩ next
      have c1 : ((i : Nat) : Int) < ((p.2 : Nat) : Int) := by omega
      have w2 : ((i : Nat) : Int) + 1 = ((i + 1 : Nat) : Int) := rfl
      have g6 := (q3 m.p hp4 (Ne.symm cp)).trans g5
      have g7 := (q3 n nn4 nc).trans gn5
      have l6 : m.p < n' := by omega
      have l7 : n < n' := by omega
      rw [lpA_split_begun_take]
      try simp (disch := first | omega | assumption) only [Nat.reduceAdd, Nat.reduceLT, RZ, c1, g6, g7]
      refine run_call okd (s_smPut (lf := lf) (d := d + 1) q2 p.1 h1) (by omega) (fun b _ hb => .inr (by have hb : b = m.c := hb; rw [hb]; exact wc)) fun v8 h8 n8 hn8 fr8 hq8 => ?_
      obtain ⟨rfl, sm8, k8⟩ := hq8
      try simp (disch := first | omega | assumption) only [Nat.reduceAdd, Nat.reduceLT, RZ]
      rw [w2]
      refine next () h8 _ ⟨q1, by rw [crcF_rep]; exact sm8, fun c hc q => (k8 c q).trans (q3 c hc q)⟩
  exact key _ (get_eq _ _ _) fun c hc => by rw [get_ne _ _ hc, get_ne _ _ hc]
end
end Go.Proofs.YtcehhgppfahbkaaGreatDoor
namespace Go.Proofs.YtcehhgppfahbkaaGreatDoor
set_option linter.unusedVariables false
set_option linter.unusedSimpArgs false
open Go.RowKit Ev Cn Ip

theorem s_smReset {lf d n a s : Nat} {h : H} (x : SmAt h n a s) : Run (fun c => c = a) n (evCall2 Tryz.prog gt lf (d + 1) 119 #[.pointer (some ⟨a, 0, none⟩)]) h n fun _ h' n' => n' = n ∧ SmAt h' n' a 4294967295 ∧ ∀ c, c ≠ a → h'.get c = h.get c := by
  have g := x.get
  have ha := x.lt
  have l1 : (tbl 256).length = 256 := tbl_len 256
  have l2 : 256 < (tbl 256 ++ [Value.int .u32 (s : Int)]).length := by rw [List.length_append, l1]; exact Nat.lt_succ_self 256
  have e : (tbl 256 ++ [Value.int .u32 (s : Int)]).set 256 (i3 4294967295) = tbl 256 ++ [i3 4294967295] := by
    rw [List.set_append_right _ _ (by rw [l1]; exact Nat.le_refl _), l1]
    rfl
  rw [shOf (fun _ => st_crc_Sum_Reset) rfl]
  refine Run.inside_ ?_
  unfold b_crc_Sum_Reset
  try simp (disch := first | omega | assumption) only [Nat.reduceAdd, Nat.reduceLT, RZ, g, l2, e, or_true, true_and]
  exact ⟨⟨get_eq _ _ _, ha, by decide⟩, fun c hc => get_ne _ _ hc⟩
section
variable {lf d n room : Nat} {h : H} {L : Nat → Nat} {ps : List (Nat × Nat)} {row : Nat × Nat} {m : Pm}
def clV (ps : List (Nat × Nat)) : Value := if ps = [] then .tuple #[.agg #[.string ⟨#[]⟩, .int .u32 0, .int .i64 0], .bool false] else .tuple #[.agg (bkV ps).toArray, .bool true]
theorem s_spClose (y : SpAt h n L room ps row m) (hne : ps ≠ [] → bdP ps ≠ []) (hb : (bdP ps).length ≤ 1000000) : Run (WP L) n (evCall2 Tryz.prog gt lf (d + 2) 88 #[.pointer (some ⟨m.p, 0, none⟩)]) h n fun v' h' n' => v' = clV ps ∧ SpPost L n room [] row m h' n' := by
  have wp : WP L m.p := WP_of y.Lp (by decide) (by decide)
  have wc : WP L m.c := WP_of y.Lc (by decide) (by decide)
  have cp : m.c ≠ m.p := fun q => by have := y.Lc; rw [q, y.Lp] at this; cases this
  have qp : m.q ≠ m.p := fun q => by have := y.Lq; rw [q, y.Lp] at this; cases this
  have qc : m.q ≠ m.c := fun q => by have := y.Lq; rw [q, y.Lc] at this; cases this
  rw [shOf (fun _ => st_split_begun_close) rfl]
  refine Run.inside_ ?_
  unfold b_split_begun_close
  refine run_alloc rfl _ ?_
  have k1 : ∀ c, c ≠ n → (h.set n (some ⟨42, true, z42⟩)).get c = h.get c := fun c hc => get_ne _ _ hc
  have gz := get_eq h n (some ⟨42, true, z42⟩)
  have y1 := y.keep (L' := L) (h' := h.set n (some ⟨42, true, z42⟩)) (Nat.le_succ n) (fun _ _ => rfl) fun c hc _ _ => get_ne _ _ (by omega)
  generalize h.set n (some ⟨42, true, z42⟩) = h1 at gz y1 k1 ⊢
  have g := y1.get
  have hp := y1.lt
  have np : m.p ≠ n := by have := y.lt; omega
  have nn : n < n + 1 := Nat.lt_succ_self n
  obtain ⟨a5, c5, e5⟩ := y1.body.vrow.len
  rw [u8V_len] at e5
  unfold spB at g
  have gg := g
  rw [e5] at gg
  by_cases c0 : ps = []
  · have b0 : (bdP ps).length = 0 := by rw [c0]; rfl
    rw [b0] at gg
    unfold clV
    rw [if_pos c0]
    have z : (((0 : Nat) : Int) == 0) = true := rfl
    try simp (disch := first | omega | assumption) only [Nat.reduceAdd, Nat.reduceLT, RZ, gg, z]
    refine run_staF (sz := 3) trivial (vs := [.string ⟨#[]⟩, .int .u32 0, .int .i64 0]) rfl rfl rfl gz nn (.inl (Nat.le_refl n)) _ fun h2 g2 k2 => ?_
    refine run_klg n 0 _ g2 nn (Nat.le_refl 3) ?_
    try simp (disch := first | omega | assumption) only [Nat.reduceAdd, Nat.reduceLT, RZ]
    refine ⟨rfl, L, m, fun _ _ => rfl, rfl, ?_⟩
    have := y.keep (L' := L) (h' := h2) (n' := n + 1) (Nat.le_succ n) (fun _ _ => rfl) fun c hc _ _ => by
      rw [k2 c (by omega)]
      exact k1 c (by omega)
    rw [c0] at this
    exact this
  · have bl : (bdP ps).length ≠ 0 := fun q => hne c0 (List.length_eq_zero_iff.1 q)
    have z : ((((bdP ps).length : Nat) : Int) == 0) = false := beq_eq_false_iff_ne.2 (by omega)
    unfold clV
    rw [if_neg c0]
    try simp (disch := first | omega | assumption) only [Nat.reduceAdd, Nat.reduceLT, RZ, gg, z]
    refine timed_ldB (m := n + 1) trivial m.p 0 _ g hp (Nat.le_refl _) rfl fun T1 t1 => ?_
    try simp (disch := first | omega | assumption) only [Nat.reduceAdd, Nat.reduceLT, RZ]
    refine timed_strB (m := n + 1) y1.body (Nat.le_refl _) _ fun T2 t2 => ?_
    try simp (disch := first | omega | assumption) only [Nat.reduceAdd, Nat.reduceLT, RZ]
    refine timed_ldB (m := n + 1) trivial m.p 1 _ g hp (Nat.le_refl _) rfl fun T3 t3 => ?_
    try simp (disch := first | omega | assumption) only [Nat.reduceAdd, Nat.reduceLT, RZ]
    refine timed_callB okd (s_smValue (lf := lf) (d := d) y1.crc) (by omega) fun v4 h4 n4 T4 hn4 fr4 hq4 t4 => ?_
    obtain ⟨rfl, rfl, rfl⟩ := hq4
    try simp (disch := first | omega | assumption) only [Nat.reduceAdd, Nat.reduceLT, RZ]
    refine timed_ldB (m := n + 1) trivial m.p 2 _ g hp (Nat.le_refl _) rfl fun T5 t5 => ?_
    try simp (disch := first | omega | assumption) only [Nat.reduceAdd, Nat.reduceLT, RZ]
    refine timed_allocB (m := n + 1) rfl _ (Nat.le_refl _) fun T6 t6 => ?_
    try simp (disch := first | omega | assumption) only [Nat.reduceAdd, Nat.reduceLT, RZ]
    refine timed_any (run_staF (Q := fun v' h' n' => n' = n + 1 + 1 ∧ h'.get (n + 1) = some ⟨42, true, bkV ps⟩ ∧ ∀ c, c ≠ n + 1 → h'.get c = h4.get c) (sz := 3) trivial (vs := bkV ps) rfl rfl rfl (get_eq _ _ _) (by omega) (.inl (by omega)) _ fun h' g' k' => (run_ret _).2 ⟨rfl, g', fun c hc => (k' c hc).trans (get_ne _ _ hc)⟩) fun v7 h7 n7 T7 _ hq7 => ?_
    obtain ⟨rfl, g7, k7⟩ := hq7
    have gp7 := (k7 m.p (by omega)).trans g
    have hp7 : m.p < n + 1 + 1 := by omega
    try simp (disch := first | omega | assumption) only [Nat.reduceAdd, Nat.reduceLT, RZ, t1.clash t4, t2.clash t3, t2.clash t4, t2.clash t5, t2.clash t6, t4.clash t5, t4.clash t6, Bool.not_false, Bool.and_self, chk_true, gp7, hp7, wp, or_true, true_and]
    have key : ∀ h8 : H, (∀ c, c ≠ m.p → h8.get c = h7.get c) → h8.get m.p = some (spB room [] { m with bv := .slice none 0 0 }) → Run (WP L) n (kcl (evCall2 Tryz.prog gt lf (d + 1)) 119 [Value.pointer (some { block := m.c, off := 0 })] fun f => klg 3 (Value.pointer (some { block := n.succ, off := 0 })) fun c => ksg 3 (Value.pointer (some { block := n, off := 0 })) c fun x => klg 3 (Value.pointer (some { block := n, off := 0 })) fun a => outK [a, bT]) h8 (n + 1 + 1) (fun v' h' n' => v' = Value.tuple #[Value.agg (bkV ps).toArray, Value.bool true] ∧ SpPost L n room [] row m h' n') := fun h8 k8 g8 => by
      have nn7 : n + 1 < n + 1 + 1 := Nat.lt_succ_self _
      have y8 : ∀ c, c < n → c ≠ m.p → h8.get c = h.get c := fun c hc q => by
        rw [k8 c q, k7 c (by omega)]
        exact k1 c (by omega)
      have cn : m.c < n := y.crc.lt
      have sm8 : SmAt h8 (n + 1 + 1) m.c (crcF (txP ps)) := y.crc.keep (by omega) (y8 m.c cn cp)
      refine run_call okd (s_smReset (lf := lf) (d := d) sm8) (by omega) (fun b _ hb => .inr (by have hb : b = m.c := hb; rw [hb]; exact wc)) fun v9 h9 n9 hn9 fr9 hq9 => ?_
      obtain ⟨rfl, sm9, k9⟩ := hq9
      have g9 := (k9 (n + 1) (by omega)).trans ((k8 (n + 1) (by omega)).trans g7)
      have gn9 := (k9 n (by omega)).trans ((k8 n (by omega)).trans ((k7 n (by omega)).trans gz))
      refine run_klg (n + 1) 0 _ g9 nn7 (Nat.le_refl 3) ?_
      refine run_staF (sz := 3) trivial (vs := bkV ps) rfl rfl rfl gn9 (by omega) (.inl (Nat.le_refl n)) _ fun h10 g10 k10 => ?_
      refine run_klg n 0 _ g10 (by omega) (Nat.le_refl 3) ?_
      try simp (disch := first | omega | assumption) only [Nat.reduceAdd, Nat.reduceLT, RZ]
      refine ⟨rfl, L, { m with bv := .slice none 0 0 }, fun _ _ => rfl, rfl, ?_, ?_, y.Lp, Own.nil _ _ _ _, fun b hb => (by obtain ⟨o, l, c, hh⟩ := hb; cases hh), ?_, y.Lc, ?_, ?_, y.Lq⟩
      · exact (k10 m.p (by omega)).trans ((k9 m.p (Ne.symm cp)).trans g8)
      · show m.p < n + 1 + 1
        omega
      · exact sm9.keep (Nat.le_refl _) (k10 m.c (by omega))
      · have := y.lq
        rw [k10 m.q (by omega), k9 m.q qc, y8 m.q y.lq qp]
        exact y.pk
      · show m.q < n + 1 + 1
        have := y.lq
        omega
    refine key _ (fun c hc => by rw [get_ne _ _ hc, get_ne _ _ hc]) ((get_eq _ _ _).trans ?_)
    rfl
end
end Go.Proofs.YtcehhgppfahbkaaGreatDoor
namespace Go.Proofs.YtcehhgppfahbkaaGreatDoor
set_option linter.unusedVariables false
set_option linter.unusedSimpArgs false
open Go.RowKit Ev Cn Ip

theorem SpPost.mk' {L L' : Nat → Nat} {n room : Nat} {ps : List (Nat × Nat)} {row : Nat × Nat} {m m' : Pm} {h' : H} {n' : Nat} (hL : ∀ c, c < n → L' c = L c) (hp : m'.p = m.p) (y : SpAt h' n' L' room ps row m') : SpPost L n room ps row m h' n' := ⟨L', m', hL, hp, y⟩
theorem SpPost.up {L L1 : Nat → Nat} {n n1 room : Nat} {ps : List (Nat × Nat)} {row : Nat × Nat} {m m1 : Pm} {h' : H} {n' : Nat} (hn : n ≤ n1) (hL : ∀ c, c < n → L1 c = L c) (hp : m1.p = m.p) (y : SpPost L1 n1 room ps row m1 h' n') : SpPost L n room ps row m h' n' := by
  obtain ⟨L2, m2, a, b, c⟩ := y
  exact ⟨L2, m2, fun x hx => (a x (by omega)).trans (hL x hx), b.trans hp, c⟩
section
variable {lf d n room : Nat} {h : H} {L : Nat → Nat} {ps : List (Nat × Nat)} {row : Nat × Nat} {m : Pm}
theorem SpAt.rowU {row' : Nat × Nat} {h' : H} {n' : Nat} (y : SpAt h n L room ps row m) (hn : n ≤ n') (g : h'.get m.q = some (pkB row')) (k : ∀ c, c < n → c ≠ m.q → h'.get c = h.get c) : SpAt h' n' L room ps row' m := by
  have qp : m.p ≠ m.q := fun q => by have := y.Lq; rw [← q, y.Lp] at this; cases this
  have qc : m.c ≠ m.q := fun q => by have := y.Lq; rw [← q, y.Lc] at this; cases this
  have qb : ∀ b, InBlk m.bv b → b ≠ m.q := fun b hb q => by have := y.Lq; rw [← q, y.Lb b hb] at this; cases this
  exact ⟨(k _ y.lt qp).trans y.get, Nat.lt_of_lt_of_le y.lt hn, y.Lp, y.body.keep hn fun b hb => k b (y.body.lt hb).2 (qb b hb), y.Lb, y.crc.keep hn (k _ y.crc.lt qc), y.Lc, g, Nat.lt_of_lt_of_le y.lq hn, y.Lq⟩
theorem s_spPiece (y : SpAt h n L room ps row m) {p : Nat × Nat} (h1 : p.1 < 256) (h0 : 1 ≤ p.2) (h2 : p.2 ≤ 255) (hne : ps ≠ [] → bdP ps ≠ []) (h5 : 5 ≤ room) (hb : (bdP ps).length ≤ 1000000) (ht : (txP ps).length ≤ 1000000000) (hlf : 300 ≤ lf) : Run (WP L) n (evCall2 Tryz.prog gt lf (d + 5) 86 #[.pointer (some ⟨m.p, 0, none⟩), .agg (pcV p).toArray, .int .i64 ((encP p).length : Int)]) h n fun v' h' n' => v' = clV (if room < (bdP ps).length + (encP p).length then ps else []) ∧ SpPost L n room ((if room < (bdP ps).length + (encP p).length then [] else ps) ++ [p]) row m h' n' := by
  rw [shOf (fun _ => st_split_Splitter_piece) rfl]
  refine Run.inside_ ?_
  unfold b_split_Splitter_piece
  refine run_box trivial _ _ ?_
  refine run_alloc rfl _ ?_
  refine run_alloc rfl _ ?_
  obtain ⟨h1', hh1⟩ : ∃ h1, ((h.set n (some ⟨113, true, (Value.agg (pcV p).toArray).cells.toList⟩)).set (n + 1) (some ⟨42, true, z42⟩)).set (n + 1 + 1) (some ⟨42, true, z42⟩) = h1 := ⟨_, rfl⟩
  have ga : h1'.get n = some ⟨113, true, pcV p⟩ := by rw [← hh1, get_ne _ _ (by omega), get_ne _ _ (by omega), get_eq]; rfl
  have gb : h1'.get (n + 1) = some ⟨42, true, z42⟩ := by rw [← hh1, get_ne _ _ (by omega), get_eq]
  have gc : h1'.get (n + 1 + 1) = some ⟨42, true, z42⟩ := by rw [← hh1, get_eq]
  have k1 : ∀ c, c < n → h1'.get c = h.get c := fun c hc => by rw [← hh1, get_ne _ _ (by omega), get_ne _ _ (by omega), get_ne _ _ (by omega)]
  rw [hh1]
  clear hh1
  obtain ⟨L0, hL0⟩ : ∃ L0 : Nat → Nat, L0 = fun c => if c < n then L c else 0 := ⟨_, rfl⟩
  have L0a : ∀ c, c < n → L0 c = L c := fun c hc => by rw [hL0]; exact if_pos hc
  have L0b : ∀ c, n ≤ c → L0 c = 0 := fun c hc => by rw [hL0]; exact if_neg (by omega)
  clear hL0
  have y1 : SpAt h1' (n + 1 + 1 + 1) L0 room ps row m := y.keep (by omega) L0a fun c hc _ _ => k1 c hc
  have tail : ∀ (L5 : Nat → Nat) (m5 : Pm) (ps5 : List (Nat × Nat)) (h5 : H) (n5 : Nat) (blk : List Value) (fl : Bool), n + 1 + 1 + 1 ≤ n5 → (∀ c, c < n + 1 + 1 + 1 → L5 c = L0 c) → m5.p = m.p → SpAt h5 n5 L5 room ps5 row m5 → h5.get n = some ⟨113, true, pcV p⟩ → h5.get (n + 1) = some ⟨42, true, z42⟩ → h5.get (n + 1 + 1) = some ⟨42, true, blk⟩ → blk.length = 3 → blk.all one = true → (bdP ps5).length ≤ 1000000 → (txP ps5).length ≤ 1000000000 → Run (WP L) n (klg 2 (.pointer (some ⟨n, 0, none⟩)) fun j => kcl (evCall2 Tryz.prog gt lf (d + 4)) 117 [.pointer (some ⟨m.p, 0, none⟩), j] fun _ => klg 3 (.pointer (some ⟨n + 1 + 1, 0, none⟩)) fun h => ksg 3 (.pointer (some ⟨n + 1, 0, none⟩)) h fun _ => klg 3 (.pointer (some ⟨n + 1, 0, none⟩)) fun a => outK [a, .bool fl]) h5 n5 fun v' h' n' => v' = .tuple #[.agg blk.toArray, .bool fl] ∧ SpPost L n room (ps5 ++ [p]) row m h' n' := by
    intro L5 m5 ps5 h5 n5 blk fl hn5 hL5 hp5 y5 g5 gb5 gc5 bl bo hb5 ht5
    refine run_klg n 0 _ g5 (by omega) (Nat.le_refl 2) ?_
    rw [← hp5]
    refine run_call okd (s_spTake (lf := lf) (d := d) y5 h1 h0 h2 hb5 ht5 hlf) (by omega) (fun b _ hb => ?_) fun v6 h6 n6 hn6 fr6 hq6 => ?_
    · by_cases c : b < n
      · refine .inr ?_
        have hb : 30 ≤ L5 b ∧ L5 b ≤ 33 := hb
        rw [hL5 b (by omega), L0a b c] at hb
        exact hb
      · exact .inl (by omega)
    obtain ⟨L7, m7, hL7, hm7, y7⟩ := hq6
    have out : ∀ c, n ≤ c → c < n + 1 + 1 + 1 → h6.get c = h5.get c := fun c h1 hc => fr6 c (by omega) fun hw => by
      have hw : 30 ≤ L5 c ∧ L5 c ≤ 33 := hw
      rw [hL5 c hc, L0b c h1] at hw
      omega
    have gc6 := (out (n + 1 + 1) (by omega) (by omega)).trans gc5
    have gb6 := (out (n + 1) (by omega) (by omega)).trans gb5
    refine run_klg (n + 1 + 1) 0 _ gc6 (by omega) (Nat.le_of_eq bl.symm) ?_
    have blv : (Value.agg ((blk.drop 0).take 3).toArray) = .agg blk.toArray := by rw [List.drop_zero, ← bl, List.take_length]
    rw [blv]
    refine run_staF (sz := 3) (vs := blk) (cs := z42) trivial bl rfl bo gb6 (by omega) (.inl (by omega)) _ fun h7 g7 k7 => ?_
    refine run_klg (n + 1) 0 _ g7 (by omega) (Nat.le_of_eq bl.symm) ?_
    rw [blv]
    try simp (disch := first | omega | assumption) only [Nat.reduceAdd, Nat.reduceLT, RZ]
    refine ⟨L7, m7, fun c hc => ((hL7 c (by omega)).trans (hL5 c (by omega))).trans (L0a c hc), hm7.trans hp5, y7.keep (Nat.le_refl _) (fun _ _ => rfl) fun c hc a b => k7 c fun q => ?_⟩
    rw [q, hL7 _ (by omega), hL5 _ (by omega), L0b _ (by omega)] at a
    omega
  have wp : WP L m.p := WP_of y.Lp (by decide) (by decide)
  have g := y1.get
  have hp := y1.lt
  obtain ⟨a5, c5, e5⟩ := y1.body.vrow.len
  rw [u8V_len] at e5
  unfold spB at g
  rw [e5] at g
  by_cases c0 : room < (bdP ps).length + (encP p).length
  · have c1 : ((room : Nat) : Int) < (((bdP ps).length : Nat) : Int) + (((encP p).length : Nat) : Int) := by omega
    have w1 : IntKind.i64.wrap ((((bdP ps).length : Nat) : Int) + (((encP p).length : Nat) : Int)) = (((bdP ps).length : Nat) : Int) + (((encP p).length : Nat) : Int) := by have := encP_len h0; exact wrap_id (by omega) (by omega)
    rw [if_pos c0, if_pos c0]
    try simp (disch := first | omega | assumption) only [Nat.reduceAdd, Nat.reduceLT, RZ, g, c1, w1]
    have c2 : ps ≠ [] := fun q => by
      have := (encP_len h0).2.1
      rw [q] at c0
      have c0 : room < 0 + (encP p).length := c0
      omega
    have cl : clV ps = .tuple #[.agg (bkV ps).toArray, .bool true] := if_neg c2
    refine run_call okd (s_spClose (lf := lf) (d := d + 2) y1 hne hb) (by omega) (fun b _ hb => ?_) fun v6 h6 n6 hn6 fr6 hq6 => ?_
    · by_cases c : b < n
      · refine .inr ?_
        have hb : 30 ≤ L0 b ∧ L0 b ≤ 33 := hb
        rw [L0a b c] at hb
        exact hb
      · exact .inl (by omega)
    obtain ⟨rfl, L7, m7, hL7, hm7, y7⟩ := hq6
    have out : ∀ c, n ≤ c → c < n + 1 + 1 + 1 → h6.get c = h1'.get c := fun c h1 hc => fr6 c (by omega) fun hw => by
      have hw : 30 ≤ L0 c ∧ L0 c ≤ 33 := hw
      rw [L0b c h1] at hw
      omega
    rw [cl]
    try simp (disch := first | omega | assumption) only [Nat.reduceAdd, Nat.reduceLT, RZ, ext0, ext1]
    refine run_staF (sz := 3) (vs := bkV ps) trivial rfl rfl rfl ((out _ (by omega) (by omega)).trans gc) (by omega) (.inl (by omega)) _ fun h7 g7 k7 => ?_
    exact tail L7 m7 [] h7 n6 _ true hn6 hL7 hm7 (y7.keep (Nat.le_refl _) (fun _ _ => rfl) fun c hc a b => k7 c fun q => by
      rw [q, hL7 _ (by omega), L0b _ (by omega)] at a
      omega) ((k7 _ (by omega)).trans ((out _ (by omega) (by omega)).trans ga)) ((k7 _ (by omega)).trans ((out _ (by omega) (by omega)).trans gb)) g7 rfl rfl (Nat.zero_le _) (Nat.zero_le _)
  · have c1 : ¬ ((room : Nat) : Int) < (((bdP ps).length : Nat) : Int) + (((encP p).length : Nat) : Int) := by omega
    have w1 : IntKind.i64.wrap ((((bdP ps).length : Nat) : Int) + (((encP p).length : Nat) : Int)) = (((bdP ps).length : Nat) : Int) + (((encP p).length : Nat) : Int) := by have := encP_len h0; exact wrap_id (by omega) (by omega)
    rw [if_neg c0, if_neg c0]
    try simp (disch := first | omega | assumption) only [Nat.reduceAdd, Nat.reduceLT, RZ, g, c1, w1]
    exact tail L0 m ps h1' _ _ false (Nat.le_refl _) (fun _ _ => rfl) rfl y1 ga gb gc rfl rfl hb ht
def qP (row : Nat × Nat) (x : Nat) : Nat × Nat := if row.1 = x then (x, row.2 + 1) else row
def oP (room : Nat) (ps : List (Nat × Nat)) (row : Nat × Nat) (x : Nat) : List (Nat × Nat) := if pkT row x = [] then [] else if room < (bdP ps).length + (pkT row x).length then ps else []
def nP' (room : Nat) (ps : List (Nat × Nat)) (row : Nat × Nat) (x : Nat) : List (Nat × Nat) := if pkT row x = [] then ps else (if room < (bdP ps).length + (pkT row x).length then [] else ps) ++ [qP row x]
theorem pkT_q {row : Nat × Nat} {x : Nat} (hr : row.2 ≤ 254) (h : pkT row x ≠ []) : pkT row x = encP (qP row x) ∧ 1 ≤ (qP row x).2 ∧ (qP row x).2 ≤ 255 := by
  unfold pkT qP at *
  by_cases c : row.1 = x
  · rw [if_pos c]
    have nn : ¬ (0 < row.2 ∧ row.1 ≠ x) := fun q => q.2 c
    rw [if_neg nn] at h ⊢
    by_cases c2 : row.2 = 254
    · rw [if_pos c2, c2]
      exact ⟨rfl, Nat.le_of_ble_eq_true rfl, Nat.le_of_ble_eq_true rfl⟩
    · rw [if_neg c2] at h
      exact (h rfl).elim
  · rw [if_neg c]
    by_cases c3 : 0 < row.2
    · rw [if_pos ⟨c3, c⟩]
      exact ⟨rfl, c3, by omega⟩
    · have nn : ¬ (0 < row.2 ∧ row.1 ≠ x) := fun q => c3 q.1
      rw [if_neg nn, if_neg (by omega)] at h
      exact (h rfl).elim
theorem s_spPut (y : SpAt h n L room ps row m) {x : Nat} (hx : x < 256) (h1 : row.1 < 256) (hr2 : row.2 ≤ 254) (hne : ps ≠ [] → bdP ps ≠ []) (h5 : 5 ≤ room) (hb : (bdP ps).length ≤ 1000000) (ht : (txP ps).length ≤ 1000000000) (hlf : 300 ≤ lf) : Run (WP L) n (evCall2 Tryz.prog gt lf (d + 6) 53 #[.pointer (some ⟨m.p, 0, none⟩), .int .u8 (x : Int)]) h n fun v' h' n' => v' = clV (oP room ps row x) ∧ SpPost L n room (nP' room ps row x) (pkR row x) m h' n' := by
  have wq : WP L m.q := WP_of y.Lq (by decide) (by decide)
  rw [shOf (fun _ => st_split_Splitter_Put) rfl]
  refine Run.inside_ ?_
  unfold b_split_Splitter_Put
  refine run_alloc rfl _ ?_
  obtain ⟨h1', hh1⟩ : ∃ h1, h.set n (some ⟨42, true, z42⟩) = h1 := ⟨_, rfl⟩
  have ga : h1'.get n = some ⟨42, true, z42⟩ := by rw [← hh1, get_eq]
  have k1 : ∀ c, c < n → h1'.get c = h.get c := fun c hc => by rw [← hh1, get_ne _ _ (by omega)]
  rw [hh1]
  clear hh1
  obtain ⟨L0, hL0⟩ : ∃ L0 : Nat → Nat, L0 = fun c => if c < n then L c else 0 := ⟨_, rfl⟩
  have L0a : ∀ c, c < n → L0 c = L c := fun c hc => by rw [hL0]; exact if_pos hc
  have L0b : ∀ c, n ≤ c → L0 c = 0 := fun c hc => by rw [hL0]; exact if_neg (by omega)
  clear hL0
  have y1 : SpAt h1' (n + 1) L0 room ps row m := y.keep (by omega) L0a fun c hc _ _ => k1 c hc
  have g := y1.get
  have hp := y1.lt
  unfold spB at g
  try simp (disch := first | omega | assumption) only [Nat.reduceAdd, Nat.reduceLT, RZ, g]
  refine run_call okd (s_pkRow (lf := lf) (d := d + 4) y1.pk y1.lq) (by omega) (fun _ _ h => h.elim) fun v2 h2 n2 hn2 fr2 hq2 => ?_
  subst hq2
  refine run_alloc rfl _ ?_
  refine run_staF (sz := 2) (vs := pcV row) (cs := z113) trivial rfl rfl rfl (get_eq _ _ _) (by omega) (.inl (by omega)) _ fun h3 g3 k3 => ?_
  have f3 : ∀ c, c < n + 1 → h3.get c = h1'.get c := fun c hc => by rw [k3 c (by omega), get_ne _ _ (by omega), fr2 c (by omega) id]
  have y3 : SpAt h3 (n2 + 1) L0 room ps row m := y1.keep (by omega) (fun _ _ => rfl) fun c hc _ _ => f3 c hc
  have gg3 := y3.get
  have hp3 := y3.lt
  unfold spB at gg3
  try simp (disch := first | omega | assumption) only [Nat.reduceAdd, Nat.reduceLT, RZ, gg3]
  refine run_call okd (s_pkPut (lf := lf) (d := d) y3.pk y3.lq h1 hr2 hx) (by omega) (fun b _ hb => .inr (by have hb : b = m.q := hb; rw [hb]; exact wq)) fun v4 h4 n4 hn4 fr4 hq4 => ?_
  obtain ⟨rfl, gq4⟩ := hq4
  have y4 : SpAt h4 n4 L0 room ps (pkR row x) m := y3.rowU hn4 gq4 fun c hc q => fr4 c hc q
  have qn : ∀ c, n ≤ c → c ≠ m.q := fun c hc q => by have := y.lq; omega
  have ga4 : h4.get n = some ⟨42, true, z42⟩ := (fr4 n (by omega) (qn n (by omega))).trans ((f3 n (by omega)).trans ga)
  have gi4 : h4.get n2 = some ⟨113, true, pcV row⟩ := (fr4 n2 (by omega) (qn n2 (by omega))).trans g3
  by_cases c0 : pkT row x = []
  · unfold oP nP'
    rw [if_pos c0, if_pos c0, c0]
    have z : (bS [] = []) = True := eq_true rfl
    try simp (disch := first | omega | assumption) only [Nat.reduceAdd, Nat.reduceLT, RZ, z]
    refine run_staF (sz := 3) (vs := z42) trivial rfl rfl rfl ga4 (by omega) (.inl (Nat.le_refl n)) _ fun h5 g5 k5 => ?_
    refine run_klg n 0 _ g5 (by omega) (Nat.le_refl 3) ?_
    try simp (disch := first | omega | assumption) only [Nat.reduceAdd, Nat.reduceLT, RZ]
    refine ⟨rfl, L0, m, L0a, rfl, y4.keep (Nat.le_refl _) (fun _ _ => rfl) fun c hc a b => k5 c fun q => ?_⟩
    rw [q, L0b _ (Nat.le_refl n)] at a
    omega
  · obtain ⟨eT, q1, q2⟩ := pkT_q hr2 c0
    have q3 : (qP row x).1 < 256 := by unfold qP; split; exact hx; exact h1
    have z : (bS (encP (qP row x)) = []) = False := eq_false fun q => by
      have := (encP_len q1).1
      rw [← bS_len, q] at this
      cases this
    have tail : ∀ h5 : H, h5.get n2 = some ⟨113, true, pcV (qP row x)⟩ → (∀ c, c ≠ n2 → h5.get c = h4.get c) → Run (WP L) n (klg 2 (.pointer (some ⟨n2, 0, none⟩)) fun f => kcl (evCall2 Tryz.prog gt lf (d + 5)) 86 [.pointer (some ⟨m.p, 0, none⟩), f, .int .i64 ((encP (qP row x)).length : Int)] fun l => kex l 0 fun m => kex l 1 fun o => ksg 3 (.pointer (some ⟨n, 0, none⟩)) m fun _ => klg 3 (.pointer (some ⟨n, 0, none⟩)) fun a => outK [a, o]) h5 n4 fun v' h' n' => v' = clV (oP room ps row x) ∧ SpPost L n room (nP' room ps row x) (pkR row x) m h' n' := by
      intro h5 g5 k5
      have y5 : SpAt h5 n4 L0 room ps (pkR row x) m := y4.keep (Nat.le_refl _) (fun _ _ => rfl) fun c hc a b => k5 c fun q => by
        rw [q, L0b _ (by omega)] at a
        omega
      refine run_klg n2 0 _ g5 (by omega) (Nat.le_refl 2) ?_
      refine run_call okd (s_spPiece (lf := lf) (d := d) y5 q3 q1 q2 hne (by assumption) hb ht hlf) (by omega) (fun b _ hb => ?_) fun v6 h6 n6 hn6 fr6 hq6 => ?_
      · by_cases c : b < n
        · refine .inr ?_
          have hb : 30 ≤ L0 b ∧ L0 b ≤ 33 := hb
          rw [L0a b c] at hb
          exact hb
        · exact .inl (by omega)
      obtain ⟨rfl, L7, m7, hL7, hm7, y7⟩ := hq6
      have ga6 : h6.get n = some ⟨42, true, z42⟩ := (fr6 n (by omega) fun hw => by
        have hw : 30 ≤ L0 n ∧ L0 n ≤ 33 := hw
        rw [L0b n (Nat.le_refl n)] at hw
        omega).trans ((k5 n (by omega)).trans ga4)
      have eo : oP room ps row x = if room < (bdP ps).length + (encP (qP row x)).length then ps else [] := by unfold oP; rw [if_neg c0, eT]
      have en : nP' room ps row x = (if room < (bdP ps).length + (encP (qP row x)).length then [] else ps) ++ [qP row x] := by unfold nP'; rw [if_neg c0, eT]
      rw [← eo]
      rw [← en] at y7
      have cl : ∃ (blk : List Value) (fl : Bool), clV (oP room ps row x) = .tuple #[.agg blk.toArray, .bool fl] ∧ blk.length = 3 ∧ blk.all one = true := by
        unfold clV
        split
        · exact ⟨[.string ⟨#[]⟩, .int .u32 0, .int .i64 0], false, rfl, rfl, rfl⟩
        · exact ⟨bkV _, true, rfl, rfl, rfl⟩
      obtain ⟨blk, fl, ecl, bl, bo⟩ := cl
      rw [ecl]
      have blv : (Value.agg ((blk.drop 0).take 3).toArray) = .agg blk.toArray := by rw [List.drop_zero, ← bl, List.take_length]
      try simp (disch := first | omega | assumption) only [Nat.reduceAdd, Nat.reduceLT, RZ, ext0, ext1]
      refine run_staF (sz := 3) (vs := blk) (cs := z42) trivial bl rfl bo ga6 (by omega) (.inl (Nat.le_refl n)) _ fun h8 g8 k8 => ?_
      refine run_klg n 0 _ g8 (by omega) (Nat.le_of_eq bl.symm) ?_
      rw [blv]
      try simp (disch := first | omega | assumption) only [Nat.reduceAdd, Nat.reduceLT, RZ]
      refine ⟨L7, m7, fun c hc => (hL7 c (by omega)).trans (L0a c hc), hm7, y7.keep (Nat.le_refl _) (fun _ _ => rfl) fun c hc a b => k8 c fun q => ?_⟩
      rw [q, hL7 _ (by omega), L0b _ (Nat.le_refl n)] at a
      omega
    rw [eT]
    by_cases c1 : row.1 = x
    · have z1 : (((row.1 : Nat) : Int) == ((x : Nat) : Int)) = true := by rw [c1]; simp
      have w1 : IntKind.i64.wrap (((row.2 : Nat) : Int) + 1) = ((row.2 + 1 : Nat) : Int) := by rw [wrap_id (by omega) (by omega)]; rfl
      have eq1 : qP row x = (x, row.2 + 1) := if_pos c1
      have l4 : n2 < n4 := by omega
      have ni : n ≤ n2 := by omega
      unfold pcV at gi4
      try simp (disch := first | omega | assumption) only [Nat.reduceAdd, Nat.reduceLT, RZ, z, gi4, z1, w1, bS_len, ni, true_or, true_and]
      exact tail _ ((get_eq _ _ _).trans (by rw [eq1, c1]; rfl)) fun c hc => get_ne _ _ hc
    · have z1 : (((row.1 : Nat) : Int) == ((x : Nat) : Int)) = false := beq_eq_false_iff_ne.2 (by omega)
      have eq1 : qP row x = row := if_neg c1
      have l4 : n2 < n4 := by omega
      have gi5 := gi4
      unfold pcV at gi4
      try simp (disch := first | omega | assumption) only [Nat.reduceAdd, Nat.reduceLT, RZ, z, gi4, z1, bS_len]
      exact tail h4 (by rw [eq1]; exact gi5) fun _ _ => rfl
end
end Go.Proofs.YtcehhgppfahbkaaGreatDoor
namespace Go.Proofs.YtcehhgppfahbkaaGreatDoor
set_option linter.unusedVariables false
set_option linter.unusedSimpArgs false
open Go.RowKit Ev Cn Ip

section
variable {lf d n room : Nat} {h : H} {L : Nat → Nat} {ps : List (Nat × Nat)} {row : Nat × Nat} {m : Pm}
theorem s_spHeld (y : SpAt h n L room ps row m) (hb : (bdP ps).length ≤ 1000000) : Run (fun _ => False) n (evCall2 Tryz.prog gt lf (d + 2) 73 #[.pointer (some ⟨m.p, 0, none⟩)]) h n fun v' _ _ => v' = .int .i64 (((bdP ps).length + min row.2 1 : Nat) : Int) := by
  rw [shOf (fun _ => st_split_Splitter_Held) rfl]
  refine Run.inside_ ?_
  unfold b_split_Splitter_Held
  have g := y.get
  have hp := y.lt
  obtain ⟨a5, c5, e5⟩ := y.body.vrow.len
  rw [u8V_len] at e5
  unfold spB at g
  have gg := g
  rw [e5] at gg
  try simp (disch := first | omega | assumption) only [Nat.reduceAdd, Nat.reduceLT, RZ, gg]
  refine timed_ldB (m := n) trivial m.p 0 _ gg hp (Nat.le_refl _) rfl fun T1 t1 => ?_
  try simp (disch := first | omega | assumption) only [Nat.reduceAdd, Nat.reduceLT, RZ]
  refine timed_ldB (m := n) trivial m.p 4 _ gg hp (Nat.le_refl _) rfl fun T2 t2 => ?_
  try simp (disch := first | omega | assumption) only [Nat.reduceAdd, Nat.reduceLT, RZ]
  refine timed_callB okd (s_pkRow (lf := lf) (d := d) y.pk y.lq) (by omega) fun v4 h4 n4 T4 hn4 fr4 hq4 t4 => ?_
  subst hq4
  have e0 : (pcV row)[1]? = some (.int .i64 (row.2 : Int)) := rfl
  try simp (disch := first | omega | assumption) only [Nat.reduceAdd, Nat.reduceLT, RZ, t1.clash t4, Bool.not_false, chk_true, e0]
  refine congrArg (Value.int .i64) ?_
  split <;> omega
theorem s_spNew (h5 : 5 ≤ room) (h9 : room ≤ 900000) (hlf : 300 ≤ lf) : Run (fun _ => False) n (evCall2 Tryz.prog gt lf (d + 3) 52 #[.int .i64 (room : Int)]) h n fun v' h' n' => ∃ a q, v' = .tuple #[.pointer (some ⟨q + 1, 0, none⟩), .int .i64 0] ∧ n ≤ a ∧ a < q ∧ n' = q + 1 + 1 ∧ ∀ L : Nat → Nat, L (q + 1) = 30 → L a = 32 → L q = 33 → SpAt h' n' L room [] (0, 0) ⟨q + 1, a, q, .slice none 0 0⟩ := by
  rw [shOf (fun _ => st_split_New) rfl]
  refine Run.inside_ ?_
  unfold b_split_New
  have c1 : ¬ ((room : Nat) : Int) < 5 := by omega
  have c2 : ¬ (900000 : Int) < ((room : Nat) : Int) := by omega
  try simp (disch := first | omega | assumption) only [Nat.reduceAdd, Nat.reduceLT, RZ, c1, c2]
  refine run_call okd (s_smNew (lf := lf) (d := d) hlf) (Nat.le_refl n) (fun _ _ h => h.elim) fun v1 h1 n1 hn1 fr1 hq1 => ?_
  obtain ⟨a, rfl, ha, sm⟩ := hq1
  try simp (disch := first | omega | assumption) only [Nat.reduceAdd, Nat.reduceLT, RZ]
  refine run_call okd (s_pkNew (lf := lf) (d := d + 1)) (by omega) (fun _ _ h => h.elim) fun v2 h2 n2 hn2 fr2 hq2 => ?_
  obtain ⟨rfl, rfl, g2, k2⟩ := hq2
  try simp (disch := first | omega | assumption) only [Nat.reduceAdd, Nat.reduceLT, RZ]
  refine run_box trivial _ _ ?_
  try simp (disch := first | omega | assumption) only [Nat.reduceAdd, Nat.reduceLT, RZ]
  refine ⟨a, n1, rfl, ha, sm.lt, rfl, fun L e1 e2 e3 => ⟨(get_eq _ _ _).trans rfl, Nat.lt_succ_self _, e1, Own.nil _ _ _ _, fun b hb => (by obtain ⟨o, l, c, hh⟩ := hb; cases hh), ?_, e2, ?_, ?_, e3⟩⟩
  · refine sm.keep (by omega) ?_
    have := sm.lt
    show H.get _ a = _
    rw [get_ne _ _ (by omega), k2 a (by omega)]
  · show H.get _ n1 = _
    rw [get_ne _ _ (by omega)]
    exact g2
  · show n1 < n1 + 1 + 1
    omega
end
end Go.Proofs.YtcehhgppfahbkaaGreatDoor
namespace Go.Proofs.YtcehhgppfahbkaaGreatDoor
set_option linter.unusedVariables false
set_option linter.unusedSimpArgs false
open Go.RowKit Ev Cn Ip

structure PS where
  inn : List UInt8
  ps : List (Nat × Nat)
  row : Nat × Nat
  blk : List (Nat × Nat)
  tu : Bool
  t : Nat
  ob : Bool
  paid : Nat
structure Pr where
  p : Nat
  m : Pm
  tm : Tm
  bv : Value
  wv : Value
  st : Int
abbrev bdS (ps : List (Nat × Nat)) : List UInt8 := bS (bdP ps)
def tvOf (s : PS) (q : Pr) : Value := if s.tu = true then .pointer (some ⟨q.tm.a, 0, none⟩) else .pointer none
def blOf (ps : List (Nat × Nat)) : List (List Value) := if ps = [] then [] else [bkV ps]
def prB (win : Int) (out : List UInt8) (s : PS) (q : Pr) : AB := ⟨109, true, [.int .i64 win, .string ⟨s.inn.toArray⟩, .bool false, .pointer (some ⟨q.m.p, 0, none⟩), .bool false, q.bv, tvOf s q, .int .i64 (s.paid : Int), q.wv, .string ⟨out.toArray⟩, .bool false, .int .i64 q.st]⟩
structure PrAt (h : H) (n : Nat) (L : Nat → Nat) (win : Int) (room : Nat) (out : List UInt8) (s : PS) (q : Pr) : Prop where
  get : h.get q.p = some (prB win out s q)
  lt : q.p < n
  Lp : L q.p = 40
  sp : SpAt h n L room s.ps s.row q.m
  bl : OwnS h 0 n 42 q.bv (blOf s.blk)
  Lb : ∀ b, InBlk q.bv b → L b = 41
  tu : s.tu = true → TuAt h n L (bdS s.blk) s.t s.ob q.tm
  tn : s.tu = true → s.blk ≠ []
def WPr (L : Nat → Nat) : Nat → Prop := fun c => 21 ≤ L c ∧ L c ≤ 41
theorem WPr_of {L : Nat → Nat} {c i : Nat} (h : L c = i) (h1 : 21 ≤ i) (h2 : i ≤ 41) : WPr L c := by unfold WPr; omega
theorem bdS_len (ps : List (Nat × Nat)) : (bdS ps).length = (bdP ps).length := bS_len _
theorem blOf_len (ps : List (Nat × Nat)) : (blOf ps).length = if ps = [] then 0 else 1 := by unfold blOf; split <;> rfl
theorem PrAt.keep {h h' : H} {n n' : Nat} {L L' : Nat → Nat} {win : Int} {room : Nat} {out : List UInt8} {s : PS} {q : Pr} (y : PrAt h n L win room out s q) (hn : n ≤ n') (hL : ∀ c, c < n → L' c = L c) (hk : ∀ c, c < n → 21 ≤ L c → L c ≤ 41 → h'.get c = h.get c) : PrAt h' n' L' win room out s q :=
  ⟨(hk _ y.lt (by rw [y.Lp]; decide) (by rw [y.Lp]; decide)).trans y.get, Nat.lt_of_lt_of_le y.lt hn, (hL _ y.lt).trans y.Lp, y.sp.keep hn hL fun c hc a b => hk c hc (by omega) (by omega), y.bl.keep hn fun b hb => hk b (y.bl.lt hb).2 (by rw [y.Lb b hb]; decide) (by rw [y.Lb b hb]; decide), fun b hb => (hL b (y.bl.lt hb).2).trans (y.Lb b hb), fun e => (y.tu e).keep hn hL fun c hc a b => hk c hc a (by omega), y.tn⟩
def wrS (s : PS) : Bool := s.tu && decide (s.t - TS (bdS s.blk) = (bdS s.blk).length) && decide (s.paid = (bdS s.blk).length - 1)
def stS (s : PS) : Bool := wrS s || (decide (s.blk = []) && decide (s.inn = []))
section
variable {lf d n room : Nat} {h : H} {L : Nat → Nat} {win : Int} {out : List UInt8} {s : PS} {q : Pr}
theorem PrAt.body (y : PrAt h n L win room out s q) (c0 : s.blk ≠ []) : ∃ b, q.bv = .slice (some ⟨b, 0, none⟩) 1 (CAP + 1) ∧ h.get b = some ⟨42, true, bkV s.blk⟩ ∧ b < n ∧ L b = 41 := by
  have e : blOf s.blk = [bkV s.blk] := if_neg c0
  have lb := y.Lb
  rcases y.bl with ⟨_, e2⟩ | ⟨b, e1, e2, _, e3⟩
  · rw [e] at e2
    cases e2
  · rw [e] at e1 e2
    exact ⟨b, e1, e2.trans (by rw [List.flatten_cons, List.flatten_nil, List.append_nil]), e3, lb b ⟨_, _, _, e1⟩⟩
theorem s_prWhole (y : PrAt h n L win room out s q) : Run (fun _ => False) n (evCall2 Tryz.prog gt lf (d + 1) 72 #[.pointer (some ⟨q.p, 0, none⟩)]) h n fun v' h' n' => v' = .bool (decide (s.blk ≠ [])) ∧ h' = h ∧ n' = n := by
  have g := y.get
  have hp := y.lt
  obtain ⟨a, c, e⟩ := y.bl.len
  rw [blOf_len] at e
  unfold prB at g
  rw [e] at g
  rw [shOf (fun _ => st_press_Press_whole) rfl]
  refine Run.inside_ ?_
  unfold b_press_Press_whole
  by_cases c0 : s.blk = []
  · rw [if_pos c0] at g
    have z : decide (s.blk ≠ []) = false := decide_eq_false fun h => h c0
    try simp (disch := first | omega | assumption) only [Nat.reduceAdd, Nat.reduceLT, RZ, g, z]
    rfl
  · rw [if_neg c0] at g
    have z : decide (s.blk ≠ []) = true := decide_eq_true c0
    try simp (disch := first | omega | assumption) only [Nat.reduceAdd, Nat.reduceLT, RZ, g, z]
    rfl
theorem s_prWrites (y : PrAt h n L win room out s q) (hb : (bdP s.blk).length ≤ 900000) (h1 : s.blk ≠ [] → 1 ≤ (bdP s.blk).length) : Run (fun _ => False) n (evCall2 Tryz.prog gt lf (d + 2) 71 #[.pointer (some ⟨q.p, 0, none⟩)]) h n fun v' h' n' => v' = .bool (wrS s) ∧ h' = h ∧ n' = n := by
  rw [shOf (fun _ => st_press_Press_writes) rfl]
  refine Run.inside_ ?_
  unfold b_press_Press_writes
  refine run_call okd (s_prWhole (lf := lf) (d := d) y) (Nat.le_refl n) (fun _ _ h => h.elim) fun v1 h1 n1 hn1 fr1 hq1 => ?_
  obtain ⟨rfl, rfl, rfl⟩ := hq1
  have g := y.get
  have hp := y.lt
  unfold prB tvOf at g
  by_cases c0 : s.blk = []
  · have z : decide (s.blk ≠ []) = false := decide_eq_false fun h => h c0
    have t0 : s.tu = false := Bool.eq_false_iff.2 fun e => y.tn e c0
    have w : wrS s = false := by unfold wrS; rw [t0]; rfl
    rw [z, w]
    try simp (disch := first | omega | assumption) only [Nat.reduceAdd, Nat.reduceLT, RZ, g]
  · have z : decide (s.blk ≠ []) = true := decide_eq_true c0
    rw [z]
    by_cases t0 : s.tu = true
    · rw [if_pos t0] at g
      try simp (disch := first | omega | assumption) only [Nat.reduceAdd, Nat.reduceLT, RZ, g]
      refine run_call okd (s_tuDone (lf := lf) (d := d) (y.tu t0) (by rw [bdS_len]; exact hb)) (by omega) (fun _ _ h => h.elim) fun v2 h2 n2 hn2 fr2 hq2 => ?_
      obtain ⟨rfl, rfl, rfl⟩ := hq2
      by_cases c1 : s.t - TS (bdS s.blk) = (bdS s.blk).length
      · rw [decide_eq_true c1]
        obtain ⟨b, eb, gb, lb, _⟩ := y.body c0
        have b1 := h1 c0
        have w1 : IntKind.i64.wrap (((bdP s.blk).length : Int) - 1) = (((bdP s.blk).length - 1 : Nat) : Int) := by rw [wrap_id (by omega) (by omega)]; omega
        have z2 : (((s.paid : Nat) : Int) == (((bdP s.blk).length - 1 : Nat) : Int)) = decide (s.paid = (bdP s.blk).length - 1) := by
          by_cases c : s.paid = (bdP s.blk).length - 1
          · rw [decide_eq_true c, c]; exact beq_iff_eq.2 rfl
          · rw [decide_eq_false c]; exact beq_eq_false_iff_ne.2 (by omega)
        have w : wrS s = decide (s.paid = (bdP s.blk).length - 1) := by unfold wrS; rw [t0, decide_eq_true c1, bdS_len]; rfl
        unfold bkV at gb
        rw [eb] at g
        rw [w]
        try simp (disch := first | omega | assumption) only [Nat.reduceAdd, Nat.reduceLT, RZ, g, gb, bS_len, w1, z2, Nat.zero_mul]
      · have w : wrS s = false := by unfold wrS; rw [decide_eq_false c1, Bool.and_false]; rfl
        rw [decide_eq_false c1, w]
        try simp (disch := first | omega | assumption) only [Nat.reduceAdd, Nat.reduceLT, RZ, g]
    · have t1 : s.tu = false := Bool.eq_false_iff.2 t0
      have w : wrS s = false := by unfold wrS; rw [t1]; rfl
      rw [if_neg t0] at g
      rw [w]
      try simp (disch := first | omega | assumption) only [Nat.reduceAdd, Nat.reduceLT, RZ, g]
theorem s_prStopped (y : PrAt h n L win room out s q) (hb : (bdP s.blk).length ≤ 900000) (h1 : s.blk ≠ [] → 1 ≤ (bdP s.blk).length) (ho : out ≠ []) : Run (fun _ => False) n (evCall2 Tryz.prog gt lf (d + 3) 36 #[.pointer (some ⟨q.p, 0, none⟩)]) h n fun v' h' n' => v' = .bool (stS s) ∧ h' = h ∧ n' = n := by
  rw [shOf (fun _ => st_press_Press_Stopped) rfl]
  refine Run.inside_ ?_
  unfold b_press_Press_Stopped
  have g := y.get
  have hp := y.lt
  unfold prB at g
  try simp (disch := first | omega | assumption) only [Nat.reduceAdd, Nat.reduceLT, RZ, g]
  refine run_call okd (s_prWrites (lf := lf) (d := d) y hb h1) (Nat.le_refl n) (fun _ _ h => h.elim) fun v1 h1 n1 hn1 fr1 hq1 => ?_
  obtain ⟨rfl, rfl, rfl⟩ := hq1
  cases hw : wrS s with
  | true =>
    have z : (out = []) = False := eq_false ho
    have e : stS s = true := by unfold stS; rw [hw]; rfl
    rw [e]
    try simp (disch := first | omega | assumption) only [Nat.reduceAdd, Nat.reduceLT, RZ, g, z]
    try rfl
  | false =>
    have e : stS s = (decide (s.blk = []) && decide (s.inn = [])) := by unfold stS; rw [hw]; rfl
    rw [e]
    try simp (disch := first | omega | assumption) only [Nat.reduceAdd, Nat.reduceLT, RZ]
    refine run_call okd (s_prWhole (lf := lf) (d := d + 1) y) (by omega) (fun _ _ h => h.elim) fun v1 h1 n1 hn1 fr1 hq1 => ?_
    obtain ⟨rfl, rfl, rfl⟩ := hq1
    by_cases c0 : s.blk = []
    · have z : decide (s.blk ≠ []) = false := decide_eq_false fun h => h c0
      rw [z, decide_eq_true c0]
      try simp (disch := first | omega | assumption) only [Nat.reduceAdd, Nat.reduceLT, RZ, g]
    · have z : decide (s.blk ≠ []) = true := decide_eq_true c0
      rw [z, decide_eq_false c0]
      try simp (disch := first | omega | assumption) only [Nat.reduceAdd, Nat.reduceLT, RZ, g]
      try rfl
theorem s_prWaiting (y : PrAt h n L win room out s q) : Run (fun _ => False) n (evCall2 Tryz.prog gt lf (d + 1) 37 #[.pointer (some ⟨q.p, 0, none⟩)]) h n fun v' h' n' => v' = .int .i64 (out.length : Int) ∧ h' = h ∧ n' = n := by
  rw [shOf (fun _ => st_press_Press_Waiting) rfl]
  refine Run.inside_ ?_
  unfold b_press_Press_Waiting
  have g := y.get
  have hp := y.lt
  unfold prB at g
  try simp (disch := first | omega | assumption) only [Nat.reduceAdd, Nat.reduceLT, RZ, g]
end
end Go.Proofs.YtcehhgppfahbkaaGreatDoor
namespace Go.Proofs.YtcehhgppfahbkaaGreatDoor
set_option linter.unusedVariables false
set_option linter.unusedSimpArgs false
open Go.RowKit Ev Cn Ip

theorem clash_alloc {a b : Tk} (h1 : b.log = []) (h2 : ∀ e ∈ a.log, e.b < b.n) : clash3 a b = false := by
  rw [clash3_eq]
  unfold Tk.clash
  simp only [Bool.or_eq_false_iff, List.any_eq_false, Bool.and_eq_true, decide_eq_true_eq, not_and, h1, List.not_mem_nil, false_imp_iff, implies_true, and_true, List.any_nil, Bool.not_eq_true]
  refine ⟨trivial, fun x hx hle => ?_⟩
  have := h2 x hx
  omega
section
variable {β : Type} {W : Nat → Prop} {n0 : Nat} {h : H} {n : Nat} {Q : β → H → Nat → Prop}
theorem timed_allocN {t : TypeId} {z cs : List Value} (hz : z = cs) (k : Value × Tk → M β) (x : ∀ T, T.log = [] → T.n = n → Run W n0 (k (.pointer (some ⟨n, 0, none⟩), T)) (h.set n (some ⟨t, true, cs⟩)) (n + 1) Q) : Run W n0 ((timed (kal t z M.ret)).bind k) h n Q := by
  subst hz
  exact timed_step (ins_ret (newK _ _ (fun id => Value.pointer (some ⟨id, 0, none⟩)) _ _)) (Nat.le_succ n) (by simp) (x _ rfl rfl)
end
def PrPost (L : Nat → Nat) (n : Nat) (win : Int) (room : Nat) (out : List UInt8) (s : PS) (q : Pr) (h' : H) (n' : Nat) : Prop := ∃ L' q', (∀ c, c < n → L' c = L c) ∧ q'.p = q.p ∧ PrAt h' n' L' win room out s q'
theorem PrPost.up {L L1 : Nat → Nat} {n n1 room : Nat} {win : Int} {out : List UInt8} {s : PS} {q q1 : Pr} {h' : H} {n' : Nat} (hn : n ≤ n1) (hL : ∀ c, c < n → L1 c = L c) (hp : q1.p = q.p) (y : PrPost L1 n1 win room out s q1 h' n') : PrPost L n win room out s q h' n' := by
  obtain ⟨L2, m2, a, b, c⟩ := y
  exact ⟨L2, m2, fun x hx => (a x (by omega)).trans (hL x hx), b.trans hp, c⟩
theorem WPr_up {L L' : Nat → Nat} {n n1 : Nat} (hL : ∀ c, c < n → L' c = L c) {W' : Nat → Prop} (hW : ∀ c, W' c → WPr L' c) (b : Nat) (_ : b < n1) (hb : W' b) : n ≤ b ∨ WPr L b := by
  by_cases c : b < n
  · refine .inr ?_
    have hb := hW b hb
    unfold WPr at hb ⊢
    rw [hL b c] at hb
    exact hb
  · exact .inl (by omega)
def takeS (room : Nat) (s : PS) : PS := { s with inn := s.inn.tail, ps := nP' room s.ps s.row (s.inn.headD 0).toNat, row := pkR s.row (s.inn.headD 0).toNat, blk := oP room s.ps s.row (s.inn.headD 0).toNat }
section
variable {lf d n room : Nat} {h : H} {L : Nat → Nat} {win : Int} {out : List UInt8} {s : PS} {q : Pr}
theorem s_prFlush (y : PrAt h n L win room out s q) : Run (fun _ => False) n (evCall2 Tryz.prog gt lf (d + 1) 75 #[.pointer (some ⟨q.p, 0, none⟩)]) h n fun v' h' n' => h' = h ∧ n' = n := by
  rw [shOf (fun _ => st_press_Press_flush) rfl]
  refine Run.inside_ ?_
  unfold b_press_Press_flush
  have g := y.get
  have hp := y.lt
  unfold prB at g
  try simp (disch := first | omega | assumption) only [Nat.reduceAdd, Nat.reduceLT, RZ, g]
theorem s_prTake (y : PrAt h n L win room out s q) (c0 : s.blk = []) (ci : s.inn ≠ []) (h1 : s.row.1 < 256) (hr2 : s.row.2 ≤ 254) (hne : s.ps ≠ [] → bdP s.ps ≠ []) (h5 : 5 ≤ room) (hb : (bdP s.ps).length ≤ 1000000) (ht : (txP s.ps).length ≤ 1000000000) (hlf : 300 ≤ lf) : Run (WPr L) n (evCall2 Tryz.prog gt lf (d + 7) 108 #[.pointer (some ⟨q.p, 0, none⟩)]) h n fun v' h' n' => PrPost L n win room out (takeS room s) q h' n' := by
  obtain ⟨x, r, er⟩ : ∃ x r, s.inn = x :: r := by
    cases e : s.inn with
    | nil => exact (ci e).elim
    | cons x r => exact ⟨x, r, rfl⟩
  have t0 : s.tu = false := Bool.eq_false_iff.2 fun e => y.tn e c0
  have hx : x.toNat < 256 := x.toNat_lt
  have eS : takeS room s = { s with inn := r, ps := nP' room s.ps s.row x.toNat, row := pkR s.row x.toNat, blk := oP room s.ps s.row x.toNat } := by unfold takeS; rw [er]; rfl
  rw [eS]
  have wp : WPr L q.p := WPr_of y.Lp (by decide) (by decide)
  rw [shOf (fun _ => st_press_Press_take) rfl]
  refine Run.inside_ ?_
  unfold b_press_Press_take
  have g := y.get
  have hp := y.lt
  unfold prB at g
  rw [er] at g
  try simp (disch := first | omega | assumption) only [Nat.reduceAdd, Nat.reduceLT, RZ, g]
  refine timed_ldB (m := n) trivial q.p 3 _ g hp (Nat.le_refl _) rfl fun T1 t1 => ?_
  try simp (disch := first | omega | assumption) only [Nat.reduceAdd, Nat.reduceLT, RZ]
  refine timed_ldB (m := n) trivial q.p 1 _ g hp (Nat.le_refl _) rfl fun T2 t2 => ?_
  have ix : (0 : Int) < (((x :: r).length : Nat) : Int) := by rw [List.length_cons]; omega
  try simp (disch := first | omega | assumption) only [Nat.reduceAdd, Nat.reduceLT, RZ, ix]
  have e0 : ((x :: r).getD 0 0).toNat = x.toNat := rfl
  rw [e0]
  refine timed_callW okd (s_spPut (lf := lf) (d := d) y.sp hx h1 hr2 hne h5 hb ht hlf) (Nat.le_refl n) (fun b _ hb => .inr ?_) fun v3 h3 n3 T3 hn3 fr3 hq3 tn3 tl3 _ => ?_
  · have hb : 30 ≤ L b ∧ L b ≤ 33 := hb
    unfold WPr
    omega
  obtain ⟨rfl, L3, m3, hL3, hm3, y3⟩ := hq3
  have ng : ∀ c, c < n → L c = 40 ∨ L c = 41 → h3.get c = h.get c := fun c hc hl => fr3 c hc fun hw => by
    have hw : 30 ≤ L c ∧ L c ≤ 33 := hw
    omega
  have gp3 := (ng q.p hp (.inl y.Lp)).trans g
  obtain ⟨o, ho⟩ : ∃ o, oP room s.ps s.row x.toNat = o := ⟨_, rfl⟩
  obtain ⟨ps', hps⟩ : ∃ ps', nP' room s.ps s.row x.toNat = ps' := ⟨_, rfl⟩
  obtain ⟨row', hrow⟩ : ∃ row', pkR s.row x.toNat = row' := ⟨_, rfl⟩
  rw [ho, hps, hrow]
  rw [hps, hrow] at y3
  have cl : ∃ (blk : List Value) (fl : Bool), clV o = .tuple #[.agg blk.toArray, .bool fl] ∧ blk.length = 3 ∧ blk.all one = true ∧ fl = decide (o ≠ []) ∧ (o ≠ [] → blk = bkV o) := by
    unfold clV
    by_cases c : o = []
    · rw [if_pos c]
      exact ⟨[.string ⟨#[]⟩, .int .u32 0, .int .i64 0], false, rfl, rfl, rfl, (decide_eq_false fun h => h c).symm, fun h => (h c).elim⟩
    · rw [if_neg c]
      exact ⟨bkV _, true, rfl, rfl, rfl, (decide_eq_true c).symm, fun _ => rfl⟩
  obtain ⟨blk, fl, ecl, bl, bo, efl, ebl⟩ := cl
  rw [ecl]
  try simp (disch := first | omega | assumption) only [Nat.reduceAdd, Nat.reduceLT, RZ, ext0, ext1]
  refine timed_allocN rfl _ fun T4 l4 tn4 => ?_
  try simp (disch := first | omega | assumption) only [Nat.reduceAdd, Nat.reduceLT, RZ]
  refine timed_any (run_staF (Q := fun v' h' n' => n' = n3 + 1 ∧ h'.get n3 = some ⟨42, true, blk⟩ ∧ ∀ c, c ≠ n3 → h'.get c = h3.get c) (sz := 3) (cs := z42) trivial (vs := blk) bl rfl bo (get_eq _ _ _) (by omega) (.inl (by omega)) _ fun h' g' k' => (run_ret _).2 ⟨rfl, g', fun c hc => (k' c hc).trans (get_ne _ _ hc)⟩) fun v5 h5' n5 T5 _ hq5 => ?_
  obtain ⟨rfl, g5, k5⟩ := hq5
  have ck : clash3 T3 T4 = false := clash_alloc l4 fun e he => by have := tl3 e he; omega
  have gp5 := (k5 q.p (by omega)).trans gp3
  have hp5 : q.p < n3 + 1 := by omega
  have ix1 : (1 : Int) ≤ (((x :: r).length : Nat) : Int) := by rw [List.length_cons]; omega
  try simp (disch := first | omega | assumption) only [Nat.reduceAdd, Nat.reduceLT, RZ, ck, Bool.not_false, chk_true, gp5, ix1, wp, or_true, true_and]
  have L3q : L3 q.p = 40 := (hL3 _ hp).trans y.Lp
  have fin : ∀ (h8 : H) (n8 : Nat) (bv' : Value), n3 + 1 ≤ n8 → h8.get q.p = some ⟨109, true, [.int .i64 win, .string ⟨r.toArray⟩, .bool false, .pointer (some ⟨q.m.p, 0, none⟩), .bool false, bv', tvOf s q, .int .i64 (s.paid : Int), q.wv, .string ⟨out.toArray⟩, .bool false, .int .i64 q.st]⟩ → OwnS h8 0 n8 42 bv' (blOf o) → (∀ b, InBlk bv' b → (b < n ∧ L b = 41) ∨ n3 ≤ b) → (∀ c, c < n3 → L3 c ≠ 40 → L3 c ≠ 41 → h8.get c = h3.get c) → Run (WPr L) n (kcl (evCall2 Tryz.prog gt lf (d + 6)) 75 [.pointer (some ⟨q.p, 0, none⟩)] fun _ => outK []) h8 n8 fun v' h' n' => PrPost L n win room out { inn := r, ps := ps', row := row', blk := o, tu := s.tu, t := s.t, ob := s.ob, paid := s.paid } q h' n' := by
    intro h8 n8 bv' hn8 g8 o8 b8 k8
    have lp : ∀ c, c < n3 → (if c < n3 then L3 c else 41) = L3 c := fun c hc => if_pos hc
    have y8 : PrAt h8 n8 (fun c => if c < n3 then L3 c else 41) win room out { inn := r, ps := ps', row := row', blk := o, tu := s.tu, t := s.t, ob := s.ob, paid := s.paid } { q with m := m3, bv := bv' } := by
      refine ⟨?_, by show q.p < n8; omega, (lp q.p (by omega)).trans L3q, y3.keep (by omega) lp fun c hc a b => k8 c hc (by omega) (by omega), o8, fun b hb => ?_, fun e => (by rw [t0] at e; cases e), fun e => (by rw [t0] at e; cases e)⟩
      · show h8.get q.p = _
        rw [g8]
        unfold prB
        rw [hm3]
        rfl
      · rcases b8 b hb with ⟨w1, w2⟩ | w
        · exact (lp b (by omega)).trans ((hL3 b w1).trans w2)
        · exact if_neg (by omega)
    refine run_call okd (s_prFlush (lf := lf) (d := d + 5) y8) (by omega) (fun _ _ h => h.elim) fun v9 h9 n9 hn9 fr9 hq9 => ?_
    obtain ⟨rfl, rfl⟩ := hq9
    try simp (disch := first | omega | assumption) only [Nat.reduceAdd, Nat.reduceLT, RZ]
    exact ⟨_, { q with m := m3, bv := bv' }, fun c hc => (lp c (by omega)).trans (hL3 c hc), rfl, y8⟩
  have key : ∀ h6 : H, h6.get q.p = some ⟨109, true, [.int .i64 win, .string ⟨r.toArray⟩, .bool false, .pointer (some ⟨q.m.p, 0, none⟩), .bool false, q.bv, tvOf s q, .int .i64 (s.paid : Int), q.wv, .string ⟨out.toArray⟩, .bool false, .int .i64 q.st]⟩ → (∀ c, c ≠ q.p → h6.get c = h5'.get c) → (fl = true → Run (WPr L) n (klg 3 (.pointer (some ⟨n3, 0, none⟩)) fun e => kb1 42 3 e fun f => kap 42 3 q.bv f fun g => kst (.pointer (some ⟨q.p, 5, none⟩)) g fun _ => kcl (evCall2 Tryz.prog gt lf (d + 6)) 75 [.pointer (some ⟨q.p, 0, none⟩)] fun _ => outK []) h6 (n3 + 1) fun v' h' n' => PrPost L n win room out { inn := r, ps := ps', row := row', blk := o, tu := s.tu, t := s.t, ob := s.ob, paid := s.paid } q h' n') ∧ (¬ fl = true → Run (WPr L) n (kcl (evCall2 Tryz.prog gt lf (d + 6)) 75 [.pointer (some ⟨q.p, 0, none⟩)] fun _ => outK []) h6 (n3 + 1) fun v' h' n' => PrPost L n win room out { inn := r, ps := ps', row := row', blk := o, tu := s.tu, t := s.t, ob := s.ob, paid := s.paid } q h' n') := by
    intro h6 g6 k6
    have ob : OwnS h6 0 (n3 + 1) 42 q.bv [] := by
      have := y.bl
      rw [c0] at this
      refine this.keep (by omega) fun b hb => ?_
      have lb := (y.bl.lt hb).2
      have e1 := y.Lb b hb
      rw [k6 b (fun e => by rw [e, y.Lp] at e1; cases e1), k5 b (by omega), ng b lb (.inr e1)]
    have un : ∀ c, c < n3 → L3 c ≠ 40 → h6.get c = h3.get c := fun c hc a => by rw [k6 c (fun e => a (by rw [e]; exact L3q)), k5 c (by omega)]
    refine ⟨fun e => ?_, fun e => ?_⟩
    · have oe : o ≠ [] := by rw [e] at efl; exact of_decide_eq_true efl.symm
      have be := ebl oe
      refine run_klg n3 0 _ ((k6 n3 (by omega)).trans g5) (by omega) (Nat.le_of_eq bl.symm) ?_
      rw [List.drop_zero, ← bl, List.take_length, bl]
      refine run_pushS bl (by decide) bo (fun t ht => by cases ht) ob (by decide) (fun b hb => .inr (WPr_of (y.Lb b hb) (by decide) (by decide))) (by omega) (Nat.zero_le _) _ fun bv' h7 o7 b7 k7 => ?_
      have g7 := (k7 q.p (by omega) (fun hb => by have := y.Lb _ hb; rw [y.Lp] at this; cases this)).trans g6
      have hp7 : q.p < n3 + 1 + 2 := by omega
      have on7 : one bv' = true := by
        obtain ⟨a, c, ev⟩ := o7.len
        rw [ev]
        rfl
      refine run_st trivial q.p 5 bv' _ g7 hp7 (show 5 < 12 by decide) on7 (.inr wp) ?_
      refine fin _ (n3 + 1 + 2) bv' (by omega) ((get_eq _ _ _).trans rfl) ?_ (fun b hb => .inr (by have := b7 b hb; omega)) fun c hc a b => ?_
      · have : blOf o = [] ++ [blk] := by unfold blOf; rw [if_neg oe, be]; rfl
        rw [this]
        exact o7.keep (Nat.le_refl _) fun b hb => get_ne _ _ (by have := b7 b hb; omega)
      · rw [get_ne _ _ (show c ≠ q.p from fun e => a (by rw [e]; exact L3q)), k7 c (by omega) (fun hb => b (by have := (y.bl.lt hb).2; rw [hL3 c this]; exact y.Lb c hb)), un c hc a]
    · have oe : o = [] := Classical.byContradiction fun h => e (efl.trans (decide_eq_true h))
      refine fin h6 (n3 + 1) q.bv (Nat.le_refl _) g6 ?_ (fun b hb => .inl ⟨(y.bl.lt hb).2, y.Lb b hb⟩) fun c hc a _ => un c hc a
      have : blOf o = [] := by unfold blOf; rw [if_pos oe]
      rw [this]
      exact ob
  have kk := key _ (get_eq _ _ _) (fun c hc => get_ne _ _ hc)
  split
  · rename_i e
    exact kk.1 e
  · rename_i e
    exact kk.2 e
end
end Go.Proofs.YtcehhgppfahbkaaGreatDoor
namespace Go.Proofs.YtcehhgppfahbkaaGreatDoor
set_option linter.unusedVariables false
set_option linter.unusedSimpArgs false
open Go.RowKit Ev Cn Ip

section
variable {lf d n room : Nat} {h : H} {L : Nat → Nat} {win : Int} {out : List UInt8} {s : PS} {q : Pr}
theorem PrAt.put (y : PrAt h n L win room out s q) {h' : H} {i' : List UInt8} {p' : Nat} {out' : List UInt8} {st' : Int} (g : h'.get q.p = some (prB win out' { s with inn := i', paid := p' } { q with st := st' })) (k : ∀ c, c ≠ q.p → h'.get c = h.get c) : PrAt h' n L win room out' { s with inn := i', paid := p' } { q with st := st' } := by
  have nl : ∀ c, L c ≠ 40 → h'.get c = h.get c := fun c hc => k c fun e => hc (by rw [e]; exact y.Lp)
  exact ⟨g, y.lt, y.Lp, y.sp.keep (Nat.le_refl n) (fun _ _ => rfl) fun c hc a b => nl c (by omega), y.bl.keep (Nat.le_refl n) fun b hb => nl b (by rw [y.Lb b hb]; decide), y.Lb, fun e => (y.tu e).keep (Nat.le_refl n) (fun _ _ => rfl) fun c hc a b => nl c (by omega), y.tn⟩
def payS (s : PS) : PS := { s with paid := s.paid + 1 }
def turnS (s : PS) (bud : Int) : PS := { s with t := s.t + goneT (bdS s.blk) s.t bud, ob := obT (bdS s.blk) s.t s.ob bud }
theorem s_prPay (y : PrAt h n L win room out s q) (c0 : s.blk ≠ []) (hb : (bdP s.blk).length ≤ 900000) (hp1 : s.paid + 1 < (bdP s.blk).length) : Run (WPr L) n (evCall2 Tryz.prog gt lf (d + 1) 107 #[.pointer (some ⟨q.p, 0, none⟩)]) h n fun v' h' n' => PrPost L n win room out (payS s) q h' n' := by
  have wp : WPr L q.p := WPr_of y.Lp (by decide) (by decide)
  rw [shOf (fun _ => st_press_Press_pay) rfl]
  refine Run.inside_ ?_
  unfold b_press_Press_pay
  have g := y.get
  have hp := y.lt
  unfold prB at g
  obtain ⟨b, eb, gb, lb, Lb⟩ := y.body c0
  have bp : b ≠ q.p := fun e => by rw [e, y.Lp] at Lb; cases Lb
  have gb0 := gb
  unfold bkV at gb
  rw [eb] at g
  have w1 : IntKind.i64.wrap ((s.paid : Int) + 1) = ((s.paid + 1 : Nat) : Int) := by rw [wrap_id (by omega) (by omega)]; rfl
  have z1 : ((s.paid + 1 : Nat) : Int) < (((bdP s.blk).length : Nat) : Int) := by omega
  try simp (disch := first | omega | assumption) only [Nat.reduceAdd, Nat.reduceLT, RZ, g, w1, gb, bp, lb, bS_len, z1, Nat.zero_mul, wp, or_true, true_and, ne_eq, not_false_eq_true]
  refine ⟨L, { q with st := q.st }, fun _ _ => rfl, rfl, y.put (i' := s.inn) (p' := s.paid + 1) ?_ fun c hc => get_ne _ _ hc⟩
  refine (get_eq _ _ _).trans ?_
  unfold prB
  rw [eb]
  rfl
theorem run_prTurn {β : Type} {W : Nat → Prop} {n0 : Nat} {Q : β → H → Nat → Prop} (y : PrAt h n L win room out s q) (ht : s.tu = true) (h1 : 1 ≤ (bdP s.blk).length) (hb : (bdP s.blk).length ≤ 900000) (bud : Int) (hbud : bud ≤ 1000000000000) (hlf : TS (bdS s.blk) + (bdS s.blk).length + 10 < lf) (hn0 : n0 ≤ n) (hW : ∀ b, b < n → WPr L b → n0 ≤ b ∨ W b) (k : Value → M β)
    (x : ∀ h' n', n ≤ n' → PrPost L n win room out (turnS s bud) q h' n' → Run W n0 (k (.int .i64 (goneT (bdS s.blk) s.t bud : Int))) h' n' Q) : Run W n0 (kcl (evCall2 Tryz.prog gt lf (d + 6)) 93 [.pointer (some ⟨q.tm.a, 0, none⟩), .int .i64 bud] k) h n Q := by
  refine run_call okd (s_tuStep (lf := lf) (d := d) (y.tu ht) (by rw [bdS_len]; exact h1) (by rw [bdS_len]; exact hb) bud hbud hlf) hn0 (fun b hb2 hb => hW b hb2 (by unfold WTu at hb; unfold WPr; omega)) fun v1 h1' n1 hn1 fr1 hq1 => ?_
  obtain ⟨rfl, L2, m2, hL2, hm2, y2⟩ := hq1
  have fr : ∀ c, c < n → ¬ (21 ≤ L c ∧ L c ≤ 27) → h1'.get c = h.get c := fun c hc hw => fr1 c hc hw
  refine x h1' n1 hn1 ⟨L2, { q with tm := m2 }, hL2, rfl, ?_⟩
  refine ⟨?_, by show q.p < n1; have := y.lt; omega, (hL2 _ y.lt).trans y.Lp, y.sp.keep hn1 hL2 fun c hc a b => fr c hc (by omega), y.bl.keep hn1 fun b hb => fr b (y.bl.lt hb).2 (by rw [y.Lb b hb]; omega), fun b hb => (hL2 b (y.bl.lt hb).2).trans (y.Lb b hb), fun _ => y2, y.tn⟩
  rw [show ({ q with tm := m2 } : Pr).p = q.p from rfl, fr _ y.lt (by rw [y.Lp]; omega), y.get]
  unfold prB tvOf turnS
  rw [if_pos ht, if_pos ht, hm2]
def newS (s : PS) : PS := { s with tu := true, t := 0, ob := false }
def workS (room : Nat) (s : PS) (bud : Int) : PS :=
  if s.blk = [] then takeS room s else
  if s.tu = false then turnS (newS s) bud else
  if s.t - TS (bdS s.blk) = (bdS s.blk).length then payS s else turnS s bud
def workG (s : PS) (bud : Int) : Nat :=
  if s.blk = [] then 1 else
  if s.tu = false then goneT (bdS s.blk) 0 bud else
  if s.t - TS (bdS s.blk) = (bdS s.blk).length then 1 else goneT (bdS s.blk) s.t bud
structure PsOk (s : PS) : Prop where
  r1 : s.row.1 < 256
  r2 : s.row.2 ≤ 254
  ne : s.ps ≠ [] → bdP s.ps ≠ []
  pl : (bdP s.ps).length ≤ 1000000
  tl : (txP s.ps).length ≤ 1000000000
  b1 : s.blk ≠ [] → 1 ≤ (bdP s.blk).length
  bl : (bdP s.blk).length ≤ 900000
  ts : TS (bdS s.blk) + (bdS s.blk).length ≤ 1000000
theorem s_prWork (y : PrAt h n L win room out s q) (o : PsOk s) (h5 : 5 ≤ room) (ha : s.blk = [] → s.inn ≠ []) (hp1 : s.tu = true → s.t - TS (bdS s.blk) = (bdS s.blk).length → s.paid + 1 < (bdP s.blk).length) (bud : Int) (hbud : bud ≤ 1000000000000) (hlf : 2000000 ≤ lf) : Run (WPr L) n (evCall2 Tryz.prog gt lf (d + 8) 70 #[.pointer (some ⟨q.p, 0, none⟩), .int .i64 bud]) h n fun v' h' n' => v' = .int .i64 (workG s bud : Int) ∧ PrPost L n win room out (workS room s bud) q h' n' := by
  have wp : WPr L q.p := WPr_of y.Lp (by decide) (by decide)
  rw [shOf (fun _ => st_press_Press_work) rfl]
  refine Run.inside_ ?_
  unfold b_press_Press_work
  refine run_call okd (s_prWhole (lf := lf) (d := d + 6) y) (Nat.le_refl n) (fun _ _ h => h.elim) fun v1 h1 n1 hn1 fr1 hq1 => ?_
  obtain ⟨rfl, rfl, rfl⟩ := hq1
  have g := y.get
  have hp := y.lt
  unfold prB at g
  by_cases c0 : s.blk = []
  · have z : decide (s.blk ≠ []) = false := decide_eq_false fun h => h c0
    have zi : (s.inn = []) = False := eq_false (ha c0)
    have eS : workS room s bud = takeS room s := if_pos c0
    have eG : workG s bud = 1 := if_pos c0
    rw [z, eS, eG]
    try simp (disch := first | omega | assumption) only [Nat.reduceAdd, Nat.reduceLT, RZ, g, zi]
    refine run_call okd (s_prTake (lf := lf) (d := d) y c0 (ha c0) o.r1 o.r2 o.ne h5 o.pl o.tl (by omega)) (Nat.le_refl _) (fun b hb hw => .inr hw) fun v2 h2 n2 hn2 fr2 hq2 => ?_
    try simp (disch := first | omega | assumption) only [Nat.reduceAdd, Nat.reduceLT, RZ]
    exact ⟨rfl, hq2⟩
  · have z : decide (s.blk ≠ []) = true := decide_eq_true c0
    have b1 := o.b1 c0
    rw [z]
    by_cases t0 : s.tu = true
    · have t1 : ¬ s.tu = false := by rw [t0]; decide
      have etv : tvOf s q = .pointer (some ⟨q.tm.a, 0, none⟩) := if_pos t0
      rw [etv] at g
      try simp (disch := first | omega | assumption) only [Nat.reduceAdd, Nat.reduceLT, RZ, g]
      refine run_call okd (s_tuDone (lf := lf) (d := d + 6) (y.tu t0) (by rw [bdS_len]; exact o.bl)) (by omega) (fun _ _ h => h.elim) fun v2 h2 n2 hn2 fr2 hq2 => ?_
      obtain ⟨rfl, rfl, rfl⟩ := hq2
      by_cases c1 : s.t - TS (bdS s.blk) = (bdS s.blk).length
      · have eS : workS room s bud = payS s := by unfold workS; rw [if_neg c0, if_neg t1, if_pos c1]
        have eG : workG s bud = 1 := by unfold workG; rw [if_neg c0, if_neg t1, if_pos c1]
        rw [eS, eG, decide_eq_true c1]
        try simp (disch := first | omega | assumption) only [Nat.reduceAdd, Nat.reduceLT, RZ]
        refine run_call okd (s_prPay (lf := lf) (d := d + 6) y c0 o.bl (hp1 t0 c1)) (Nat.le_refl _) (fun b hb hw => .inr hw) fun v2 h2 n2 hn2 fr2 hq2 => ?_
        try simp (disch := first | omega | assumption) only [Nat.reduceAdd, Nat.reduceLT, RZ]
        exact ⟨rfl, hq2⟩
      · have eS : workS room s bud = turnS s bud := by unfold workS; rw [if_neg c0, if_neg t1, if_neg c1]
        have eG : workG s bud = goneT (bdS s.blk) s.t bud := by unfold workG; rw [if_neg c0, if_neg t1, if_neg c1]
        rw [eS, eG, decide_eq_false c1]
        try simp (disch := first | omega | assumption) only [Nat.reduceAdd, Nat.reduceLT, RZ, g]
        refine run_prTurn (d := d + 1) y t0 b1 o.bl bud hbud (by have := o.ts; omega) (Nat.le_refl _) (fun b hb hw => .inr hw) _ fun h3 n3 hn3 y3 => ?_
        try simp (disch := first | omega | assumption) only [Nat.reduceAdd, Nat.reduceLT, RZ]
        exact y3
    · have t1 : s.tu = false := Bool.eq_false_iff.2 t0
      have eS : workS room s bud = turnS (newS s) bud := by unfold workS; rw [if_neg c0, if_pos t1]
      have eG : workG s bud = goneT (bdS (newS s).blk) (newS s).t bud := by unfold workG; rw [if_neg c0, if_pos t1]; rfl
      have etv : tvOf s q = .pointer none := if_neg t0
      obtain ⟨b, eb, gb, lb, Lb⟩ := y.body c0
      unfold bkV at gb
      rw [etv, eb] at g
      rw [eS, eG]
      try simp (disch := first | omega | assumption) only [Nat.reduceAdd, Nat.reduceLT, RZ, g, gb, Nat.zero_mul]
      refine run_call okd (s_tuNew (lf := lf) (d := d + 5) (l := bdS s.blk) (by rw [bdS_len]; exact b1) (by rw [bdS_len]; exact o.bl) (by have := o.ts; omega) L) (Nat.le_refl _) (fun _ _ h => h.elim) fun v2 h2 n2 hn2 fr2 hq2 => ?_
      obtain ⟨L2, m2, rfl, hL2, hm2, y2⟩ := hq2
      have g2 := (fr2 q.p hp id).trans g
      have hp2 : q.p < n2 := by omega
      have Lq2 : L2 q.p = 40 := (hL2 _ hp).trans y.Lp
      try simp (disch := first | omega | assumption) only [Nat.reduceAdd, Nat.reduceLT, RZ, ext0, ext1, g2, wp, or_true, true_and]
      have key : ∀ h3 : H, h3.get q.p = some (prB win out (newS s) { q with tm := m2 }) → (∀ c, c ≠ q.p → h3.get c = h2.get c) → Run (WPr L) n1 (kcl (evCall2 Tryz.prog gt lf (d + 7)) 92 [.pointer (some ⟨m2.a, 0, none⟩)] fun i => knt i fun j => ifV j (kld (.pointer (some ⟨q.p, 6, none⟩)) fun g => kcl (evCall2 Tryz.prog gt lf (d + 7)) 93 [g, .int .i64 bud] fun i => outK [i]) (kcl (evCall2 Tryz.prog gt lf (d + 7)) 107 [.pointer (some ⟨q.p, 0, none⟩)] fun _ => outK [ii 1])) h3 n2 fun v' h' n' => v' = .int .i64 (goneT (bdS (newS s).blk) (newS s).t bud : Int) ∧ PrPost L n1 win room out (turnS (newS s) bud) q h' n' := by
        intro h3 g3 k3
        have y3 : PrAt h3 n2 L2 win room out (newS s) { q with tm := m2 } := by
          refine ⟨g3, hp2, Lq2, y.sp.keep hn2 hL2 fun c hc a b => ?_, y.bl.keep hn2 fun b hb => ?_, fun b hb => (hL2 b (y.bl.lt hb).2).trans (y.Lb b hb), fun _ => y2.keep (Nat.le_refl _) (fun _ _ => rfl) fun c hc a b => k3 c fun e => (by rw [e, Lq2] at b; omega), fun _ => c0⟩
          · rw [k3 c (fun e => by rw [e, y.Lp] at b; omega), fr2 c hc id]
          · rw [k3 b (fun e => by have := y.Lb b hb; rw [e, y.Lp] at this; cases this), fr2 b (y.bl.lt hb).2 id]
        have gg3 := g3
        unfold prB at gg3
        have etv3 : tvOf (newS s) { q with tm := m2 } = .pointer (some ⟨m2.a, 0, none⟩) := if_pos rfl
        rw [etv3] at gg3
        refine run_call okd (s_tuDone (lf := lf) (d := d + 6) (y3.tu rfl) (by rw [bdS_len]; exact o.bl)) (by omega) (fun _ _ h => h.elim) fun v4 h4 n4 hn4 fr4 hq4 => ?_
        obtain ⟨rfl, rfl, rfl⟩ := hq4
        have c2 : ¬ ((newS s).t - TS (bdS (newS s).blk) = (bdS (newS s).blk).length) := by
          show ¬ (0 - TS (bdS s.blk) = (bdS s.blk).length)
          rw [bdS_len, Nat.zero_sub]
          omega
        rw [decide_eq_false c2]
        try simp (disch := first | omega | assumption) only [Nat.reduceAdd, Nat.reduceLT, RZ, gg3]
        refine run_prTurn (d := d + 1) y3 rfl b1 o.bl bud hbud (by have := o.ts; show TS (bdS s.blk) + (bdS s.blk).length + 10 < lf; omega) hn2 (WPr_up hL2 fun _ h => h) _ fun h5 n5 hn5 y5 => ?_
        try simp (disch := first | omega | assumption) only [Nat.reduceAdd, Nat.reduceLT, RZ]
        exact y5.up hn2 hL2 rfl
      refine key _ ((get_eq _ _ _).trans ?_) fun c hc => get_ne _ _ hc
      unfold prB
      rw [eb]
      rfl
end
end Go.Proofs.YtcehhgppfahbkaaGreatDoor
namespace Go.Proofs.YtcehhgppfahbkaaGreatDoor
set_option linter.unusedVariables false
set_option linter.unusedSimpArgs false
open Go.RowKit Ev Sp Cn Ip

theorem txP_one (p : Nat × Nat) : (txP [p]).length = p.2 := by
  have := txP_app [] p
  rw [List.nil_append] at this
  rw [this, List.length_append, List.length_replicate]
  exact Nat.zero_add _
theorem bdP_le : ∀ ps : List (Nat × Nat), (∀ p ∈ ps, 1 ≤ p.2) → (bdP ps).length ≤ 2 * (txP ps).length ∧ (ps ≠ [] → 1 ≤ (bdP ps).length)
  | [], _ => ⟨Nat.zero_le _, fun h => (h rfl).elim⟩
  | p :: l, h => by
    have ih := (bdP_le l fun q hq => h q (List.mem_cons_of_mem p hq)).1
    have h1 := h p (List.mem_cons_self ..)
    have e1 := encP_len h1
    have e2 : (bdP (p :: l)).length = (encP p).length + (bdP l).length := by
      show ((p :: l).flatMap encP).length = _
      rw [List.flatMap_cons, List.length_append]
    have e3 : (txP (p :: l)).length = p.2 + (txP l).length := by
      show ((p :: l).flatMap txtP).length = _
      rw [List.flatMap_cons, List.length_append]
      exact congrArg (· + _) (List.length_replicate (n := p.2))
    rw [e2, e3]
    exact ⟨by omega, fun _ => by omega⟩
theorem pk_cnt {row : Nat × Nat} {x : Nat} (h1 : row.1 < 256) (h2 : row.2 ≤ 254) (hx : x < 256) : (pkR row x).1 < 256 ∧ (pkR row x).2 ≤ 254 ∧ (pkT row x = [] → (pkR row x).2 = row.2 + 1) ∧ (pkT row x ≠ [] → (pkR row x).2 + (qP row x).2 = row.2 + 1) := by
  have en : ∀ p : Nat × Nat, 1 ≤ p.2 → encP p ≠ [] := fun p hp q => by
    have := (encP_len hp).1
    rw [q] at this
    cases this
  unfold pkR pkT qP
  by_cases c : 0 < row.2 ∧ row.1 ≠ x
  · rw [if_pos c, if_pos c, if_neg c.2]
    exact ⟨hx, by show (1 : Nat) ≤ 254; decide, fun h => (en row c.1 h).elim, fun _ => by show 1 + row.2 = row.2 + 1; omega⟩
  · rw [if_neg c, if_neg c]
    by_cases c2 : row.2 = 254
    · have c3 : row.1 = x := Classical.byContradiction fun h => c ⟨by omega, h⟩
      rw [if_pos c2, if_pos c2, if_pos c3]
      exact ⟨by show (0 : Nat) < 256; decide, Nat.zero_le _, fun h => (en (x, 255) (Nat.le_of_ble_eq_true rfl) h).elim, fun _ => by show 0 + (row.2 + 1) = row.2 + 1; omega⟩
    · rw [if_neg c2, if_neg c2]
      exact ⟨hx, by show row.2 + 1 ≤ 254; omega, fun _ => rfl, fun h => (h rfl).elim⟩
structure PrInv (N : Nat) (s : PS) : Prop where
  r1 : s.row.1 < 256
  r2 : s.row.2 ≤ 254
  gp : ∀ p ∈ s.ps, 1 ≤ p.2
  gb : ∀ p ∈ s.blk, 1 ≤ p.2
  cnt : s.inn.length + (txP s.ps).length + s.row.2 + (txP s.blk).length ≤ N
  n : N ≤ 120
  tb : s.tu = true → s.blk ≠ []
  tt : s.tu = true → s.t ≤ TS (bdS s.blk) + (bdS s.blk).length
  tp : s.tu = true → s.paid ≤ (bdP s.blk).length - 1
  t0 : s.tu = false → s.paid = 0
theorem TS_le {l : List UInt8} (h : l.length ≤ 240) : TS l ≤ 67200 := by
  have h1 := steps_most (bA l) 8 (by rw [bA_size]; omega) (by rw [bA_size]; show l.length ≤ 256; omega)
  rw [bA_size] at h1
  have h2 : l.length * ((4 + 3 * 8) * (8 + 2)) ≤ 240 * ((4 + 3 * 8) * (8 + 2)) := Nat.mul_le_mul_right _ h
  unfold TS
  omega
theorem PrInv.blk {N : Nat} {s : PS} (o : PrInv N s) : (bdP s.blk).length ≤ 240 ∧ (bdP s.ps).length ≤ 240 ∧ (txP s.ps).length ≤ 120 ∧ (s.blk ≠ [] → 1 ≤ (bdP s.blk).length) ∧ TS (bdS s.blk) ≤ 67200 := by
  have h1 := bdP_le s.blk o.gb
  have h2 := bdP_le s.ps o.gp
  have h3 := o.cnt
  have h4 := o.n
  exact ⟨by omega, by omega, by omega, h1.2, TS_le (by rw [bdS_len]; omega)⟩
theorem PrInv.ok {N : Nat} {s : PS} (o : PrInv N s) : PsOk s := by
  obtain ⟨h1, h2, h3, h4, h5⟩ := o.blk
  exact ⟨o.r1, o.r2, fun e q => (by have := (bdP_le s.ps o.gp).2 e; rw [q] at this; cases this), by omega, by omega, h4, by omega, by rw [bdS_len]; omega⟩
def potS (s : PS) : Nat := if s.blk = [] then s.inn.length + 80000 else if s.tu = false then TS (bdS s.blk) + (bdS s.blk).length + (bdS s.blk).length else TS (bdS s.blk) + (bdS s.blk).length - s.t + ((bdS s.blk).length - 1 - s.paid)
theorem PrInv.pot {N : Nat} {s : PS} (o : PrInv N s) : potS s ≤ 80120 := by
  obtain ⟨h1, h2, h3, h4, h5⟩ := o.blk
  have := o.cnt
  have := o.n
  have e := bdS_len s.blk
  unfold potS
  split
  · omega
  · split <;> omega
theorem PrInv.take {N room : Nat} {s : PS} (o : PrInv N s) (c0 : s.blk = []) (ci : s.inn ≠ []) : PrInv N (takeS room s) ∧ potS (takeS room s) + 1 ≤ potS s := by
  obtain ⟨x, r, er⟩ : ∃ x r, s.inn = x :: r := by
    cases e : s.inn with
    | nil => exact (ci e).elim
    | cons x r => exact ⟨x, r, rfl⟩
  have t0 : s.tu = false := Bool.eq_false_iff.2 fun e => o.tb e c0
  have hx : x.toNat < 256 := x.toNat_lt
  have eS : takeS room s = { s with inn := r, ps := nP' room s.ps s.row x.toNat, row := pkR s.row x.toNat, blk := oP room s.ps s.row x.toNat } := by unfold takeS; rw [er]; rfl
  obtain ⟨k1, k2, k3, k4⟩ := pk_cnt o.r1 o.r2 hx
  have cnt := o.cnt
  have hn := o.n
  rw [er, c0, List.length_cons] at cnt
  have cnt : r.length + 1 + (txP s.ps).length + s.row.2 + 0 ≤ N := cnt
  have key : (∀ p ∈ nP' room s.ps s.row x.toNat, 1 ≤ p.2) ∧ (∀ p ∈ oP room s.ps s.row x.toNat, 1 ≤ p.2) ∧ (txP (nP' room s.ps s.row x.toNat)).length + (pkR s.row x.toNat).2 + (txP (oP room s.ps s.row x.toNat)).length = (txP s.ps).length + s.row.2 + 1 := by
    unfold nP' oP
    by_cases c : pkT s.row x.toNat = []
    · rw [if_pos c, if_pos c, k3 c]
      refine ⟨o.gp, fun p hp => (by cases hp), ?_⟩
      show _ + (s.row.2 + 1) + 0 = _
      omega
    · obtain ⟨_, q1, _⟩ := pkT_q o.r2 c
      have k5 := k4 c
      rw [if_neg c, if_neg c]
      by_cases c2 : room < (bdP s.ps).length + (pkT s.row x.toNat).length
      · rw [if_pos c2, if_pos c2, List.nil_append]
        refine ⟨fun p hp => (by rw [List.mem_singleton.1 hp]; exact q1), o.gp, ?_⟩
        rw [txP_one]
        omega
      · rw [if_neg c2, if_neg c2]
        refine ⟨fun p hp => ?_, fun p hp => (by cases hp), ?_⟩
        · rcases List.mem_append.1 hp with hp | hp
          · exact o.gp p hp
          · rw [List.mem_singleton.1 hp]; exact q1
        · rw [txP_app, List.length_append, List.length_replicate]
          show _ + _ + 0 = _
          omega
  obtain ⟨g1, g2, g3⟩ := key
  have inv : PrInv N (takeS room s) := by
    rw [eS]
    exact ⟨k1, k2, g1, g2, by show r.length + (txP (nP' room s.ps s.row x.toNat)).length + (pkR s.row x.toNat).2 + (txP (oP room s.ps s.row x.toNat)).length ≤ N; omega, hn, fun e => (by rw [t0] at e; cases e), fun e => (by rw [t0] at e; cases e), fun e => (by rw [t0] at e; cases e), o.t0⟩
  refine ⟨inv, ?_⟩
  obtain ⟨h1, h2, h3, h4, h5⟩ := inv.blk
  have tu : (takeS room s).tu = false := t0
  have ein : (takeS room s).inn = r := by rw [eS]
  have e := bdS_len (takeS room s).blk
  have p1 : potS s = r.length + 1 + 80000 := by unfold potS; rw [if_pos c0, er, List.length_cons]
  rw [p1]
  unfold potS
  split
  · rw [ein]; omega
  · omega
theorem PrInv.work {N room : Nat} {s : PS} (o : PrInv N s) (hs : stS s = false) {bud : Int} (hb : 1 ≤ bud) : (s.blk = [] → s.inn ≠ []) ∧ (s.tu = true → s.t - TS (bdS s.blk) = (bdS s.blk).length → s.paid + 1 < (bdP s.blk).length) ∧ PrInv N (workS room s bud) ∧ potS (workS room s bud) + workG s bud ≤ potS s ∧ 1 ≤ workG s bud ∧ (workG s bud : Int) ≤ bud := by
  obtain ⟨h1, h2, h3, h4, h5⟩ := o.blk
  have e := bdS_len s.blk
  have hw : wrS s = false := by
    unfold stS at hs
    exact (Bool.or_eq_false_iff.1 hs).1
  have ha : s.blk = [] → s.inn ≠ [] := fun c ci => by
    unfold stS at hs
    rw [decide_eq_true c, decide_eq_true ci, Bool.and_self, Bool.or_true] at hs
    cases hs
  have hp1 : s.tu = true → s.t - TS (bdS s.blk) = (bdS s.blk).length → s.paid + 1 < (bdP s.blk).length := fun t0 c1 => by
    have := o.tp t0
    have b1 := h4 (o.tb t0)
    unfold wrS at hw
    rw [t0, decide_eq_true c1, Bool.true_and, Bool.true_and, bdS_len] at hw
    have := of_decide_eq_false hw
    omega
  refine ⟨ha, hp1, ?_⟩
  unfold workS workG
  by_cases c0 : s.blk = []
  · rw [if_pos c0, if_pos c0]
    obtain ⟨q1, q2⟩ := o.take (room := room) c0 (ha c0)
    exact ⟨q1, q2, Nat.le_refl _, hb⟩
  · have b1 := h4 c0
    rw [if_neg c0, if_neg c0]
    by_cases t0 : s.tu = false
    · have p0 := o.t0 t0
      have g0 : goneT (bdS s.blk) 0 bud = min bud.toNat (TS (bdS s.blk) + (bdS s.blk).length) := by unfold goneT; rw [Nat.sub_zero]
      rw [if_pos t0, if_pos t0]
      refine ⟨⟨o.r1, o.r2, o.gp, o.gb, o.cnt, o.n, fun _ => c0, fun _ => ?_, fun _ => ?_, fun q => (by cases q)⟩, ?_, by omega, by omega⟩
      · show 0 + goneT (bdS s.blk) 0 bud ≤ TS (bdS s.blk) + (bdS s.blk).length
        omega
      · show s.paid ≤ _
        rw [p0]
        exact Nat.zero_le _
      · have pa : potS s = TS (bdS s.blk) + (bdS s.blk).length + (bdS s.blk).length := by unfold potS; rw [if_neg c0, if_pos t0]
        have pb : potS (turnS (newS s) bud) = TS (bdS s.blk) + (bdS s.blk).length - (0 + goneT (bdS s.blk) 0 bud) + ((bdS s.blk).length - 1 - s.paid) := by
          unfold potS
          rw [if_neg (show ¬ (turnS (newS s) bud).blk = [] from c0), if_neg (show ¬ (turnS (newS s) bud).tu = false from fun q => by cases q)]
          rfl
        rw [pa, pb, p0]
        omega
    · have t1 : s.tu = true := by cases h : s.tu; exact (t0 h).elim; rfl
      have tt := o.tt t1
      have tp := o.tp t1
      have pa : potS s = TS (bdS s.blk) + (bdS s.blk).length - s.t + ((bdS s.blk).length - 1 - s.paid) := by unfold potS; rw [if_neg c0, if_neg t0]
      rw [if_neg t0, if_neg t0]
      by_cases c1 : s.t - TS (bdS s.blk) = (bdS s.blk).length
      · have := hp1 t1 c1
        rw [if_pos c1, if_pos c1]
        refine ⟨⟨o.r1, o.r2, o.gp, o.gb, o.cnt, o.n, o.tb, o.tt, fun _ => ?_, fun q => (t0 q).elim⟩, ?_, Nat.le_refl _, hb⟩
        · show s.paid + 1 ≤ (bdP s.blk).length - 1
          omega
        · have pb : potS (payS s) = TS (bdS s.blk) + (bdS s.blk).length - s.t + ((bdS s.blk).length - 1 - (s.paid + 1)) := by
            unfold potS
            rw [if_neg (show ¬ (payS s).blk = [] from c0), if_neg (show ¬ (payS s).tu = false from t0)]
            rfl
          rw [pa, pb]
          omega
      · have g0 : goneT (bdS s.blk) s.t bud = min bud.toNat (TS (bdS s.blk) + (bdS s.blk).length - s.t) := rfl
        rw [if_neg c1, if_neg c1]
        refine ⟨⟨o.r1, o.r2, o.gp, o.gb, o.cnt, o.n, o.tb, fun _ => ?_, o.tp, fun q => (t0 q).elim⟩, ?_, by omega, by omega⟩
        · show s.t + goneT (bdS s.blk) s.t bud ≤ TS (bdS s.blk) + (bdS s.blk).length
          omega
        · have pb : potS (turnS s bud) = TS (bdS s.blk) + (bdS s.blk).length - (s.t + goneT (bdS s.blk) s.t bud) + ((bdS s.blk).length - 1 - s.paid) := by
            unfold potS
            rw [if_neg (show ¬ (turnS s bud).blk = [] from c0), if_neg (show ¬ (turnS s bud).tu = false from t0)]
            rfl
          rw [pa, pb]
          omega
end Go.Proofs.YtcehhgppfahbkaaGreatDoor
namespace Go.Proofs.YtcehhgppfahbkaaGreatDoor
set_option linter.unusedVariables false
set_option linter.unusedSimpArgs false
open Go Go.RowKit Ev Sp Cn

def RunR {α : Type} (m0 : Nat) (m : M α) (h : H) (n : Nat) (Q : α → Prop) : Prop := ∃ a L, m h n = some ⟨a, h, n, L⟩ ∧ (∀ e ∈ L, e.wr = false ∧ e.b < m0) ∧ Q a
section
variable {α β : Type} {W : Nat → Prop} {n0 m0 : Nat} {h : H} {n : Nat} {Q : β → Prop}
theorem rr_inside {m : M β} (x : RunR m0 m h n Q) : RunR m0 (inside m) h n Q := by
  obtain ⟨a, L, e1, e2, e3⟩ := x
  exact ⟨a, _, inside_run e1, fun e he => e2 e (List.mem_filter.1 he).1, e3⟩
theorem rr_ret {v : β} (x : Q v) : RunR m0 (M.ret v) h n Q := ⟨v, [], rfl, fun e he => (by cases he), x⟩
theorem rr_bind {m : M α} {k : α → M β} {Q' : α → Prop} (x : RunR m0 m h n Q') (y : ∀ a, Q' a → RunR m0 (k a) h n Q) : RunR m0 (m.bind k) h n Q := by
  obtain ⟨a, L, e1, e2, e3⟩ := x
  obtain ⟨b, L2, f1, f2, f3⟩ := y a e3
  refine ⟨b, L ++ L2, bind_run e1 f1, fun e he => ?_, f3⟩
  rcases List.mem_append.1 he with q | q
  · exact e2 e q
  · exact f2 e q
theorem rr_ins {m : M α} {k : α → M β} {Q' : α → Prop} (x : RunR m0 m h n Q') (y : ∀ a, Q' a → RunR m0 (k a) h n Q) : RunR m0 (insB m k) h n Q := by
  rw [insB_eq]
  exact rr_bind (rr_inside x) y
theorem rr_timed {m : M Value} {k : Value × Tk → M β} {Q' : Value → Prop} (hm : m0 ≤ n) (x : RunR m0 m h n Q') (y : ∀ v T, Q' v → RB T m0 → RunR m0 (k (v, T)) h n Q) : RunR m0 ((timed m).bind k) h n Q := by
  obtain ⟨a, L, e1, e2, e3⟩ := x
  obtain ⟨b, L2, f1, f2, f3⟩ := y a ⟨n, n, L⟩ e3 ⟨fun e he => (e2 e he).1, fun e he => (e2 e he).2, hm⟩
  refine ⟨b, L ++ L2, bind_run (timed_run e1) f1, fun e he => ?_, f3⟩
  rcases List.mem_append.1 he with q | q
  · exact e2 e q
  · exact f2 e q
theorem rr_ld {k : Value → M β} {b off : Nat} {B : AB} {v : Value} (hg : h.get b = some B) (hb : b < m0) (hm : m0 ≤ n) (hv : B.cells[off]? = some v) (x : RunR m0 (k v) h n Q) : RunR m0 (kld (.pointer (some ⟨b, off, none⟩)) k) h n Q := by
  have e : rd3 b off h n = some ⟨v, h, n, [⟨false, b, some off⟩]⟩ := by
    rw [rd3_eq]
    unfold rd
    simp only [show b < n by omega, hg, hv, if_true]
  exact rr_ins (Q' := fun a => a = v) ⟨v, _, e, fun e he => by rw [List.mem_singleton.1 he]; exact ⟨rfl, hb⟩, rfl⟩ fun a ha => ha ▸ x
theorem rr_call {P : Program} {gt : Nat → Hint} {lf d : Nat} {f : FuncId} {vs : List Value} {k : Value → M β} {Q' : Value → Prop} (x : RunR m0 (evCall2 P gt lf d f ⟨vs⟩) h n Q') (y : ∀ v, Q' v → RunR m0 (k v) h n Q) : RunR m0 (kcl (evCall2 P gt lf d) f vs k) h n Q := rr_ins x y
theorem RunR.run {m : M β} (x : RunR m0 m h n Q) : Run W n0 m h n fun v h' n' => Q v ∧ h' = h ∧ n' = n := by
  obtain ⟨a, L, e1, e2, e3⟩ := x
  exact ⟨a, h, n, L, e1, Nat.le_refl n, fun e he hw => (by rw [(e2 e he).1] at hw; cases hw), e3, rfl, rfl⟩
theorem timed_R {m : M Value} {k : Value × Tk → M β} {Q' : Value → Prop} {QQ : β → H → Nat → Prop} (hm : m0 ≤ n) (x : RunR m0 m h n Q') (y : ∀ v T, Q' v → RB T m0 → Run W n0 (k (v, T)) h n QQ) : Run W n0 ((timed m).bind k) h n QQ := by
  obtain ⟨a, L, e1, e2, e3⟩ := x
  exact timed_step e1 (Nat.le_refl n) (fun e he hw => by rw [(e2 e he).1] at hw; cases hw) (y a _ e3 ⟨fun e he => (e2 e he).1, fun e he => (e2 e he).2, hm⟩)
end
section
variable {lf d n : Nat} {h : H} {L : Nat → Nat} {l : List UInt8} {t : Nat} {ob : Bool} {m : Tm} {x : SS} {sm : Sm} {k : Nat}
theorem q_soHeld (y : SoAt h n L l x sm) (hN : l.length ≤ 900000) (hk : n ≤ k) : RunR n (evCall2 Tryz.prog gt lf (d + 1) 109 #[.pointer (some ⟨sm.p, 0, none⟩)]) h k fun v' => v' = .int .i64 ((3 * l.length : Nat) : Int) := by
  have g := y.get
  have hp := y.lp
  have w1 : IntKind.i64.wrap (3 * ((l.length : Nat) : Int)) = ((3 * l.length : Nat) : Int) := by rw [wrap_id (by omega) (by omega)]; rfl
  unfold soB at g
  rw [shOf (fun _ => st_sorter_Sorter_Held) rfl]
  refine rr_inside ?_
  unfold b_sorter_Sorter_Held
  try simp (disch := first | omega | assumption) only [Nat.reduceAdd, Nat.reduceLT, RZ]
  refine rr_ld g hp hk rfl ?_
  try simp (disch := first | omega | assumption) only [Nat.reduceAdd, Nat.reduceLT, RZ, w1]
  exact rr_ret rfl
theorem q_tuHeld (y : TuAt h n L l t ob m) (hN : l.length ≤ 900000) (hk : n ≤ k) : RunR n (evCall2 Tryz.prog gt lf (d + 2) 74 #[.pointer (some ⟨m.a, 0, none⟩)]) h k fun v' => v' = .int .i64 ((3 * l.length + (t - TS l) : Nat) : Int) := by
  have g := y.get
  have hp := y.lt
  have tl := y.tle
  obtain ⟨a, c, e⟩ := y.las.vrow.len
  rw [u8V_len, lasB_len hN (by omega)] at e
  unfold tuB at g
  rw [e] at g
  rw [shOf (fun _ => st_bwt_Turner_Held) rfl]
  refine rr_inside ?_
  unfold b_bwt_Turner_Held
  have w : IntKind.i64.wrap (((3 * l.length : Nat) : Int) + ((t - TS l : Nat) : Int)) = ((3 * l.length + (t - TS l) : Nat) : Int) := by rw [wrap_id (by omega) (by omega)]; omega
  try simp (disch := first | omega | assumption) only [Nat.reduceAdd, Nat.reduceLT, RZ]
  refine rr_timed (Q' := fun v => v = Value.pointer (some ⟨m.s.p, 0, none⟩)) hk (rr_ld g hp hk rfl (rr_ret rfl)) fun v1 T1 hv1 t1 => ?_
  subst hv1
  try simp (disch := first | omega | assumption) only [Nat.reduceAdd, Nat.reduceLT, RZ]
  refine rr_timed hk (rr_call (q_soHeld (lf := lf) (d := d) y.so hN hk) fun v hv => rr_ret (Q := fun v => v = Value.int .i64 ((3 * l.length : Nat) : Int)) hv) fun v2 T2 hv2 t2 => ?_
  subst hv2
  try simp (disch := first | omega | assumption) only [Nat.reduceAdd, Nat.reduceLT, RZ]
  refine rr_timed (Q' := fun v => v = Value.slice a (t - TS l) c) hk (rr_ld g hp hk rfl (rr_ret rfl)) fun v3 T3 hv3 t3 => ?_
  subst hv3
  try simp (disch := first | omega | assumption) only [Nat.reduceAdd, Nat.reduceLT, RZ, t2.clash t3, Bool.not_false, chk_true, w]
  exact rr_ret rfl
end
end Go.Proofs.YtcehhgppfahbkaaGreatDoor
namespace Go.Proofs.YtcehhgppfahbkaaGreatDoor
set_option linter.unusedVariables false
set_option linter.unusedSimpArgs false
open Go.RowKit Ev Sp Cn Ip

theorem work_inn (room : Nat) (s : PS) (bud : Int) : (workS room s bud).inn.length ≤ s.inn.length := by
  unfold workS
  split
  · show s.inn.tail.length ≤ _
    rw [List.length_tail]
    exact Nat.sub_le _ _
  · split
    · exact Nat.le_refl _
    · split <;> exact Nat.le_refl _
def StepQ (L : Nat → Nat) (n : Nat) (win : Int) (room : Nat) (out : List UInt8) (N : Nat) (s : PS) (p gone : Nat) (v' : Value) (h' : H) (n' : Nat) : Prop := ∃ s' G q, q.p = p ∧ v' = .int .i64 (G : Int) ∧ (stS s = true → G = gone) ∧ stS s' = true ∧ PrInv N s' ∧ s'.inn.length ≤ s.inn.length ∧ PrPost L n win room out s' q h' n'
section
variable {lf d n room : Nat} {h : H} {L : Nat → Nat} {win : Int} {out : List UInt8} {s : PS} {q : Pr}
theorem step_loop {N p : Nat} (h5 : 5 ≤ room) (ho : out ≠ []) (hlf : 2000000 ≤ lf) {bud : Int} (hbud : bud ≤ 1000000) : ∀ (f fu gone : Nat) (s : PS) (q : Pr) (h : H) (n1 : Nat) (L1 : Nat → Nat), potS s ≤ f → f < fu → (gone : Int) < bud → (stS s = false → ((gone + potS s : Nat) : Int) < bud) → PrInv N s → n ≤ n1 → (∀ c, c < n → L1 c = L c) → q.p = p → PrAt h n1 L1 win room out s q → Run (WPr L) n (lpA_press_Press_Step lf (evCall2 Tryz.prog gt lf (d + 8)) fu (kcA_press_Press_Step lf (evCall2 Tryz.prog gt lf (d + 8))) (.pointer (some ⟨p, 0, none⟩)) (.int .i64 bud) (.int .i64 0) (.int .i64 (gone : Int))) h n1 (StepQ L n win room out N s p gone)
  | f, 0, _, _, _, _, _, _, _, hf, _, _, _, _, _, _, _ => absurd hf (Nat.not_lt_zero f)
  | f, fu + 1, gone, s, q, h, n1, L1, hp0, hf, hg, hs, o, hn, hL, hq, y => by
    obtain ⟨b1, b2, b3, b4, b5⟩ := o.blk
    subst hq
    have wp : n ≤ q.p ∨ WPr L q.p := WPr_up hL (W' := WPr L1) (fun _ h => h) (n1 := n1) q.p y.lt (WPr_of y.Lp (by decide) (by decide))
    rw [lpA_press_Press_Step]
    try simp (disch := first | omega | assumption) only [Nat.reduceAdd, Nat.reduceLT, RZ, hg]
    refine run_call okd (s_prStopped (lf := lf) (d := d + 5) y (by omega) b4 ho) hn (fun _ _ h => h.elim) fun v1 h1 n1' hn1 fr1 hq1 => ?_
    obtain ⟨rfl, rfl, rfl⟩ := hq1
    cases hst : stS s with
    | true =>
      try simp (disch := first | omega | assumption) only [Nat.reduceAdd, Nat.reduceLT, RZ]
      unfold kcA_press_Press_Step
      have g := y.get
      have hp := y.lt
      have g0 := g
      unfold prB at g
      try simp (disch := first | omega | assumption) only [Nat.reduceAdd, Nat.reduceLT, RZ, g, wp]
      exact ⟨s, gone, q, rfl, rfl, fun _ => rfl, hst, o, Nat.le_refl _, L1, { q with st := IntKind.i64.wrap (q.st + (gone : Int)) }, hL, rfl, y.put (i' := s.inn) (p' := s.paid) ((get_eq _ _ _).trans rfl) fun c hc => get_ne _ _ hc⟩
    | false =>
      have hs := hs hst
      have w1 : IntKind.i64.wrap (bud - (gone : Int)) = bud - (gone : Int) := wrap_id (by omega) (by omega)
      obtain ⟨ha, hp1, oi, po, g1, g2⟩ := o.work (room := room) hst (bud := bud - (gone : Int)) (by omega)
      try simp (disch := first | omega | assumption) only [Nat.reduceAdd, Nat.reduceLT, RZ, w1]
      refine run_call okd (s_prWork (lf := lf) (d := d) y o.ok h5 ha hp1 (bud - (gone : Int)) (by omega) hlf) hn (WPr_up hL fun _ h => h) fun v2 h2 n2 hn2 fr2 hq2 => ?_
      obtain ⟨rfl, L2, q2, hL2, hq2, y2⟩ := hq2
      have w2 : IntKind.i64.wrap ((gone : Int) + (workG s (bud - (gone : Int)) : Int)) = ((gone + workG s (bud - (gone : Int)) : Nat) : Int) := by rw [wrap_id (by omega) (by omega)]; rfl
      try simp (disch := first | omega | assumption) only [Nat.reduceAdd, Nat.reduceLT, RZ, w2]
      have := step_loop h5 ho hlf hbud (f - 1) fu (gone + workG s (bud - (gone : Int))) (workS room s (bud - (gone : Int))) q2 h2 n2 L2 (by omega) (by omega) (by omega) (fun _ => by omega) oi (by omega) (fun c hc => (hL2 c (by omega)).trans (hL c hc)) rfl y2
      rw [hq2] at this
      refine this.mono fun v' h' n' _ => ?_
      rintro ⟨s', G, q', e1, e2, _, e4, e5, e6, e7⟩
      exact ⟨s', G, q', e1, e2, fun e => (by rw [hst] at e; cases e), e4, e5, Nat.le_trans e6 (work_inn room s _), e7⟩
theorem s_prStep {N : Nat} (y : PrAt h n L win room out s q) (o : PrInv N s) (h5 : 5 ≤ room) (ho : out ≠ []) (hlf : 2000000 ≤ lf) {bud : Int} (h1 : 1 ≤ bud) (hbud : bud ≤ 1000000) (hs : stS s = false → (potS s : Int) < bud) : Run (WPr L) n (evCall2 Tryz.prog gt lf (d + 9) 35 #[.pointer (some ⟨q.p, 0, none⟩), .int .i64 bud]) h n (StepQ L n win room out N s q.p 0) := by
  rw [shOf (fun _ => st_press_Press_Step) rfl]
  refine Run.inside_ ?_
  unfold b_press_Press_Step
  exact step_loop (d := d) h5 ho hlf hbud (potS s) lf 0 s q h n L (Nat.le_refl _) (by have := o.pot; omega) (by omega) (fun e => by have := hs e; omega) o (Nat.le_refl n) (fun _ _ => rfl) rfl y
def feedS (s : PS) (l : List UInt8) (k : Nat) : PS := { s with inn := s.inn ++ l.take k }
theorem s_prFeed (y : PrAt h n L win room out s q) {l : List UInt8} (hl : l.length ≤ 120) (hw : (s.inn.length : Int) ≤ win) (hw2 : win ≤ 1048576) : Run (WPr L) n (evCall2 Tryz.prog gt lf (d + 1) 34 #[.pointer (some ⟨q.p, 0, none⟩), .string ⟨l.toArray⟩]) h n fun v' h' n' => ∃ k, k ≤ l.length ∧ ((s.inn.length + k : Nat) : Int) ≤ win ∧ v' = .int .i64 (k : Int) ∧ PrPost L n win room out (feedS s l k) q h' n' := by
  have wp : WPr L q.p := WPr_of y.Lp (by decide) (by decide)
  rw [shOf (fun _ => st_press_Press_Feed) rfl]
  refine Run.inside_ ?_
  unfold b_press_Press_Feed
  have g := y.get
  have hp := y.lt
  unfold prB at g
  have w1 : IntKind.i64.wrap (win - (s.inn.length : Int)) = win - (s.inn.length : Int) := wrap_id (by omega) (by omega)
  obtain ⟨k, hk⟩ : ∃ k : Nat, (if win - (s.inn.length : Int) < (l.length : Int) then win - (s.inn.length : Int) else (l.length : Int)) = (k : Int) := ⟨(if win - (s.inn.length : Int) < (l.length : Int) then win - (s.inn.length : Int) else (l.length : Int)).toNat, by split <;> omega⟩
  have k1 : k ≤ l.length := by split at hk <;> omega
  have k2 : ((s.inn.length + k : Nat) : Int) ≤ win := by split at hk <;> omega
  have k3 : (k : Int) ≤ (l.length : Int) := by omega
  have ad := fun (K : Value → M Value) => s_addS (k := K) s.inn (l.take k) (by rw [List.length_take]; omega)
  try simp (disch := first | omega | assumption) only [Nat.reduceAdd, Nat.reduceLT, RZ, g, w1, hk, k3, ad, Int.toNat_natCast, wp, or_true, true_and]
  exact ⟨k, k1, k2, rfl, L, { q with st := q.st }, fun _ _ => rfl, rfl, y.put (i' := s.inn ++ l.take k) (p' := s.paid) ((get_eq _ _ _).trans rfl) fun c hc => get_ne _ _ hc⟩
theorem PrInv.feed {N k : Nat} {l : List UInt8} (o : PrInv N s) (hk : k ≤ l.length) (hN : N + k ≤ 120) : PrInv (N + k) (feedS s l k) := by
  have e : (s.inn ++ l.take k).length = s.inn.length + k := by rw [List.length_append, List.length_take]; omega
  have := o.cnt
  exact ⟨o.r1, o.r2, o.gp, o.gb, by show (s.inn ++ l.take k).length + (txP s.ps).length + s.row.2 + (txP s.blk).length ≤ N + k; rw [e]; omega, hN, o.tb, o.tt, o.tp, o.t0⟩
theorem s_prTakeOut (y : PrAt h n L win room out s q) (ho : out.length ≤ 100) : Run (WPr L) n (evCall2 Tryz.prog gt lf (d + 1) 40 #[.pointer (some ⟨q.p, 0, none⟩), .int .i64 100]) h n fun v' _ _ => v' = .string ⟨out.toArray⟩ := by
  have wp : WPr L q.p := WPr_of y.Lp (by decide) (by decide)
  rw [shOf (fun _ => st_press_Press_Take) rfl]
  refine Run.inside_ ?_
  unfold b_press_Press_Take
  have g := y.get
  have hp := y.lt
  unfold prB at g
  have z : (if (out.length : Int) < 100 then (out.length : Int) else 100) = (out.length : Int) := by split <;> omega
  try simp (disch := first | omega | assumption) only [Nat.reduceAdd, Nat.reduceLT, RZ, g, z, wp, or_true, true_and]
  rw [if_neg (by decide), List.take_length]
theorem s_prHeld {N : Nat} (y : PrAt h n L win room out s q) (o : PrInv N s) (hw : (s.inn.length : Int) ≤ win) (hw2 : win ≤ 1048576) (ho : out.length ≤ 100) (hlf : 200 ≤ lf) : Run (fun _ => False) n (evCall2 Tryz.prog gt lf (d + 3) 38 #[.pointer (some ⟨q.p, 0, none⟩)]) h n fun v' h' n' => ∃ H : Int, v' = .int .i64 H ∧ 0 ≤ H ∧ H ≤ win + 2000 := by
  obtain ⟨b1, b2, b3, b4, b5⟩ := o.blk
  rw [shOf (fun _ => st_press_Press_Held) rfl]
  refine Run.inside_ ?_
  unfold b_press_Press_Held
  have g := y.get
  have hp := y.lt
  unfold prB at g
  try simp (disch := first | omega | assumption) only [Nat.reduceAdd, Nat.reduceLT, RZ, g]
  refine timed_ldB (m := n) trivial q.p 1 _ g hp (Nat.le_refl _) rfl fun T1 t1 => ?_
  try simp (disch := first | omega | assumption) only [Nat.reduceAdd, Nat.reduceLT, RZ]
  refine timed_ldB (m := n) trivial q.p 3 _ g hp (Nat.le_refl _) rfl fun T2 t2 => ?_
  try simp (disch := first | omega | assumption) only [Nat.reduceAdd, Nat.reduceLT, RZ]
  refine timed_callB okd (s_spHeld (lf := lf) (d := d) y.sp (by omega)) (by omega) fun v3 h3 n3 T3 hn3 fr3 hq3 t3 => ?_
  subst hq3
  have g3 := (fr3 q.p hp).trans g
  have hp3 : q.p < n3 := by omega
  try simp (disch := first | omega | assumption) only [Nat.reduceAdd, Nat.reduceLT, RZ]
  refine timed_ldB (m := n) trivial q.p 6 _ g3 hp (by omega) rfl fun T4 t4 => ?_
  obtain ⟨U, hU⟩ : ∃ U : Nat, U = (if s.tu = true then 3 * (bdS s.blk).length + (s.t - TS (bdS s.blk)) else 0) := ⟨_, rfl⟩
  have U1 : U ≤ 960 := by
    rw [hU]
    split
    · rename_i e
      have := o.tt e
      have := bdS_len s.blk
      omega
    · exact Nat.zero_le _
  try simp (disch := first | omega | assumption) only [Nat.reduceAdd, Nat.reduceLT, RZ]
  refine timed_R (Q' := fun v => v = Value.int .i64 (U : Int)) hn3 ?_ fun v5 T5 hv5 t5 => ?_
  · by_cases e : s.tu = true
    · rw [if_pos e] at hU
      have etv : tvOf s q = .pointer (some ⟨q.tm.a, 0, none⟩) := if_pos e
      have y3 : TuAt h3 n L (bdS s.blk) s.t s.ob q.tm := (y.tu e).keep (Nat.le_refl n) (fun _ _ => rfl) fun c hc _ _ => fr3 c hc
      rw [etv, hU]
      exact rr_call (q_tuHeld (lf := lf) (d := d) y3 (by rw [bdS_len]; omega) hn3) fun v hv => rr_ret hv
    · rw [if_neg e] at hU
      have etv : tvOf s q = .pointer none := if_neg e
      rw [etv, hU]
      refine rr_call (Q' := fun v => v = Value.int .i64 0) ?_ fun v hv => rr_ret hv
      rw [shOf (fun _ => st_bwt_Turner_Held) rfl]
      refine rr_inside ?_
      unfold b_bwt_Turner_Held
      try simp (disch := first | omega | assumption) only [Nat.reduceAdd, Nat.reduceLT, RZ]
      exact rr_ret rfl
  subst hv5
  try simp (disch := first | omega | assumption) only [Nat.reduceAdd, Nat.reduceLT, RZ]
  refine timed_ldB (m := n) trivial q.p 9 _ g3 hp (by omega) rfl fun T6 t6 => ?_
  try simp (disch := first | omega | assumption) only [Nat.reduceAdd, Nat.reduceLT, RZ, t1.clash t3, t1.clash t5, t3.clash t4, t3.clash t6, t5.clash t6, Bool.not_false, Bool.and_self, chk_true, g3]
  obtain ⟨A, hA⟩ : ∃ A : Int, A = ((s.inn.length : Nat) : Int) + (((bdP s.ps).length + min s.row.2 1 : Nat) : Int) + (U : Int) + ((out.length : Nat) : Int) := ⟨_, rfl⟩
  rw [← hA]
  obtain ⟨fu, rfl⟩ : ∃ fu, lf = fu + 1 + 1 := ⟨lf - 2, by omega⟩
  have ik : kcA_press_Press_Held (fu + 1 + 1) (evCall2 Tryz.prog gt (fu + 1 + 1) (d + 2)) = fun a => outK [a] := rfl
  by_cases c0 : s.blk = []
  · obtain ⟨a, c, e⟩ := y.bl.len
    have e0 : blOf s.blk = [] := if_pos c0
    rw [e0] at e
    have e : q.bv = .slice a 0 c := e
    rw [e]
    try simp (disch := first | omega | assumption) only [Nat.reduceAdd, Nat.reduceLT, RZ]
    rw [lpA_press_Press_Held]
    have z : ¬ (0 : Int) < ((0 : Nat) : Int) := by decide
    try simp (disch := first | omega | assumption) only [Nat.reduceAdd, Nat.reduceLT, RZ, ik, z]
    exact ⟨_, rfl, by omega, by omega⟩
  · obtain ⟨b, eb, gb, lb, Lb⟩ := y.body c0
    have gb3 := (fr3 b lb).trans gb
    have lb3 : b < n3 := by omega
    rw [eb]
    try simp (disch := first | omega | assumption) only [Nat.reduceAdd, Nat.reduceLT, RZ]
    rw [lpA_press_Press_Held]
    have z : (0 : Int) < ((1 : Nat) : Int) := by decide
    try simp (disch := first | omega | assumption) only [Nat.reduceAdd, Nat.reduceLT, RZ, Nat.zero_mul, z]
    refine run_klg (sz := 3) b 0 _ gb3 lb3 (Nat.le_refl 3) ?_
    refine run_alloc rfl _ ?_
    refine run_staF (W := fun _ => False) (n0 := n) (sz := 3) (cs := z42) trivial (vs := bkV s.blk) rfl rfl rfl (get_eq _ _ _) (by omega) (.inl (by omega)) _ fun h5 g5 k5 => ?_
    have gg5 := g5
    unfold bkV at gg5
    have l5 : n3 < n3 + 1 := Nat.lt_succ_self n3
    try simp (disch := first | omega | assumption) only [Nat.reduceAdd, Nat.reduceLT, RZ, gg5, l5, bS_len]
    rw [lpA_press_Press_Held]
    have z2 : ¬ (1 : Int) < ((1 : Nat) : Int) := by decide
    try simp (disch := first | omega | assumption) only [Nat.reduceAdd, Nat.reduceLT, RZ, ik, z2]
    exact ⟨_, rfl, by omega, by omega⟩
end
end Go.Proofs.YtcehhgppfahbkaaGreatDoor
namespace Go.Proofs.YtcehhgppfahbkaaGreatDoor.Tb
set_option linter.unusedVariables false
set_option linter.unusedSimpArgs false

end Go.Proofs.YtcehhgppfahbkaaGreatDoor.Tb
namespace Go.Proofs.YtcehhgppfahbkaaGreatDoor
set_option linter.unusedVariables false
set_option linter.unusedSimpArgs false
open Go.RowKit Ev Tb

section
variable (lf d n : Nat) (h : H)
variable (hlf : 3000000 ≤ lf)
include hlf
end
end Go.Proofs.YtcehhgppfahbkaaGreatDoor
namespace Go.Proofs.YtcehhgppfahbkaaGreatDoor
set_option linter.unusedVariables false
set_option linter.unusedSimpArgs false
open Go.RowKit Ev Tb

section
variable (lf d n : Nat) (h : H) (hlf : 3000000 ≤ lf)
include hlf
end
end Go.Proofs.YtcehhgppfahbkaaGreatDoor
namespace Go.Proofs.YtcehhgppfahbkaaGreatDoor
set_option linter.unusedVariables false
set_option linter.unusedSimpArgs false
open Go.RowKit Ev Tb

section
variable (lf d n : Nat) (h : H) (hlf : 3000000 ≤ lf)
include hlf
end
end Go.Proofs.YtcehhgppfahbkaaGreatDoor
namespace Go.Proofs.YtcehhgppfahbkaaGreatDoor.Ev
set_option linter.unusedVariables false
set_option linter.unusedSimpArgs false
open Go Go.RowKit
theorem closedN {P : Program} {kn : List FuncId} (hnm : okNames P = true) (hok : okProg P kn = true) (hmix : P.follows .mixedOrders = true) (hkn : Known P kn) (hd : okDsts P = true) {gt : Nat → Hint} {lf d : Nat} {f : FuncId} {w : World} {m : Mp} {h : H} (x : Laid P w m h P.globals.size) (hr : yieldsTrue (evCallN kn P gt lf d f #[] h P.globals.size) = true) :
    Calls P f #[] w fun e w' => e = .returned (.bool true) ∧ Below w.heap.size w w' := by
  cases ho : evCallN kn P gt lf d f #[] h P.globals.size with
  | none => rw [ho] at hr; cases hr
  | some o =>
    obtain ⟨v, h1, n1, L⟩ := o
    rw [ho] at hr
    obtain ⟨f0, hf0⟩ := callN_ok hd d f #[] h _ v h1 n1 L ho
    refine closed_laid hnm hok hmix hkn x (fuel := f0) ?_
    have e : evCall P kn f0 f #[] h P.globals.size = some ⟨v, h1, n1, L⟩ := hf0 f0 (Nat.le_refl _)
    rw [e]
    exact hr

end Go.Proofs.YtcehhgppfahbkaaGreatDoor.Ev
namespace Go.Proofs.YtcehhgppfahbkaaGreatDoor.Ev
set_option linter.unusedVariables false
set_option linter.unusedSimpArgs false
open Go Go.RowKit
noncomputable def ArT : Nat → Type
  | 0 => M Value
  | n + 1 => Value → ArT n
noncomputable def runAr : (n : Nat) → ArT n → (List Value → M Value) → List Value → M Value
  | 0, F, _, [] => F
  | n + 1, F, K, v :: s => runAr n (F v) (fun s => K (v :: s)) s
  | 0, _, K, x :: s => K (x :: s)
  | _ + 1, _, K, [] => K []
noncomputable def EqAr : (n : Nat) → ArT n → (List Value → M Value) → Prop
  | 0, F, K => F = K []
  | n + 1, F, K => ∀ v, EqAr n (F v) (fun s => K (v :: s))
theorem runAr_eq : ∀ (n : Nat) (F : ArT n) (K : List Value → M Value), EqAr n F K → runAr n F K = K := by
  intro n
  induction n with
  | zero =>
    intro F K h
    funext s
    cases s with
    | nil => exact h
    | cons x s => rfl
  | succ n ih =>
    intro F K h
    funext s
    cases s with
    | nil => rfl
    | cons v s =>
      show runAr n (F v) (fun s => K (v :: s)) s = _
      rw [ih (F v) (fun s => K (v :: s)) (h v)]
noncomputable def findT {α : Type} (f : Nat) : List (Nat × α) → Option α
  | [] => none
  | p :: r => match Nat.beq p.1 f with
    | true => some p.2
    | false => findT f r
abbrev Tab := List (Nat × (Nat → (FuncId → Array Value → M Value) → List Value → M Value))
noncomputable def OkTab (C : Nat → FuncId → Array Value → M Value) : Tab → Prop
  | [] => True
  | p :: r => (∀ d, p.2 d (C d) = fun l => C (d + 1) p.1 l.toArray) ∧ OkTab C r
theorem findT_ok {C : Nat → FuncId → Array Value → M Value} {f : Nat} {E : Nat → (FuncId → Array Value → M Value) → List Value → M Value} : ∀ {T : Tab}, OkTab C T → findT f T = some E → ∀ d, E d (C d) = fun l => C (d + 1) f l.toArray
  | [], _, h => by cases h
  | p :: r, ok, h => by
    unfold findT at h
    cases hq : Nat.beq p.1 f with
    | true =>
      rw [hq] at h
      cases h
      rw [← Nat.eq_of_beq_eq_true hq]
      exact ok.1
    | false =>
      rw [hq] at h
      exact findT_ok ok.2 h
noncomputable def fastT (C : Nat → FuncId → Array Value → M Value) (T : Tab) : Nat → FuncId → Array Value → M Value
  | 0, f, a => C 0 f a
  | d + 1, f, a => match findT f T with
    | some E => E d (fastT C T d) a.toList
    | none => C (d + 1) f a
theorem fastT_eq {C : Nat → FuncId → Array Value → M Value} {T : Tab} (ok : OkTab C T) : ∀ d, fastT C T d = C d
  | 0 => rfl
  | d + 1 => by
    have ih := fastT_eq ok d
    funext f a
    unfold fastT
    rw [ih]
    split
    · rename_i E hE
      rw [findT_ok ok hE d]
    · rfl

end Go.Proofs.YtcehhgppfahbkaaGreatDoor.Ev
namespace Go.Proofs.YtcehhgppfahbkaaGreatDoor
set_option linter.unusedVariables false
set_option linter.unusedSimpArgs false
open Go Ev
def kn0 : List FuncId := [229, 158, 211]
noncomputable section
def eC (lf : Nat) : Nat → FuncId → Array Value → M Value := evCallN kn0 Tryz.prog gt lf
theorem shN {lf d : Nat} {f : FuncId} {a : Array Value} {X : M Value} (s : evStep Tryz.prog gt lf (eC lf d) f a = X) (h : kn0.contains f = false := by rfl) : X = eC lf (d + 1) f a := by
  show X = (match kn0.contains f with
    | true => _
    | false => evStep Tryz.prog gt lf (eC lf d) f a : M Value)
  rw [h]
  exact s.symm
def fTab (lf : Nat) : Tab := [(32, fun d r => runAr 0 (inside (b_balerlaw23_letter lf r)) fun l => eC lf (d + 1) 32 l.toArray),
  (33, fun d r => runAr 3 (fun a b c => inside (b_press_New lf r a b c)) fun l => eC lf (d + 1) 33 l.toArray),
  (34, fun d r => runAr 2 (fun a b => inside (b_press_Press_Feed lf r a b)) fun l => eC lf (d + 1) 34 l.toArray),
  (43, fun d r => runAr 1 (fun a => inside (b_press_Press_End lf r a)) fun l => eC lf (d + 1) 43 l.toArray),
  (40, fun d r => runAr 2 (fun a b => inside (b_press_Press_Take lf r a b)) fun l => eC lf (d + 1) 40 l.toArray),
  (35, fun d r => runAr 2 (fun a b => inside (b_press_Press_Step lf r a b)) fun l => eC lf (d + 1) 35 l.toArray),
  (44, fun d r => runAr 1 (fun a => inside (b_press_Press_Done lf r a)) fun l => eC lf (d + 1) 44 l.toArray),
  (14, fun d r => runAr 3 (fun a b c => inside (b_balerref21_With lf r a b c)) fun l => eC lf (d + 1) 14 l.toArray),
  (16, fun d r => runAr 2 (fun a b => inside (b_split_Room lf r a b)) fun l => eC lf (d + 1) 16 l.toArray),
  (69, fun d r => runAr 1 (fun a => inside (b_press_windowed lf r a)) fun l => eC lf (d + 1) 69 l.toArray),
  (52, fun d r => runAr 1 (fun a => inside (b_split_New lf r a)) fun l => eC lf (d + 1) 52 l.toArray),
  (18, fun d r => runAr 1 (fun a => inside (b_stream_New lf r a)) fun l => eC lf (d + 1) 18 l.toArray),
  (20, fun d r => runAr 1 (fun a => inside (b_stream_Writer_Take lf r a)) fun l => eC lf (d + 1) 20 l.toArray),
  (75, fun d r => runAr 1 (fun a => inside (b_press_Press_flush lf r a)) fun l => eC lf (d + 1) 75 l.toArray),
  (36, fun d r => runAr 1 (fun a => inside (b_press_Press_Stopped lf r a)) fun l => eC lf (d + 1) 36 l.toArray),
  (70, fun d r => runAr 2 (fun a b => inside (b_press_Press_work lf r a b)) fun l => eC lf (d + 1) 70 l.toArray),
  (22, fun d r => runAr 1 (fun a => inside (b_balerref21_Head lf r a)) fun l => eC lf (d + 1) 22 l.toArray),
  (47, fun d r => runAr 2 (fun a b => inside (b_balerref19_Of lf r a b)) fun l => eC lf (d + 1) 47 l.toArray),
  (49, fun d r => runAr 1 (fun a => inside (b_balerref19_Block_Sum lf r a)) fun l => eC lf (d + 1) 49 l.toArray),
  (48, fun d r => runAr 2 (fun a b => inside (b_balerref20_Write lf r a b)) fun l => eC lf (d + 1) 48 l.toArray),
  (51, fun d r => runAr 1 (fun a => inside (b_balerref21_Tail lf r a)) fun l => eC lf (d + 1) 51 l.toArray),
  (50, fun d r => runAr 1 (fun a => inside (b_balerref01_Pack lf r a)) fun l => eC lf (d + 1) 50 l.toArray),
  (82, fun d r => runAr 0 (inside (b_crc_New lf r)) fun l => eC lf (d + 1) 82 l.toArray),
  (83, fun d r => runAr 0 (inside (b_feed_NewPacker lf r)) fun l => eC lf (d + 1) 83 l.toArray),
  (55, fun d r => runAr 0 (inside (b_bits_NewWriter lf r)) fun l => eC lf (d + 1) 55 l.toArray),
  (56, fun d r => runAr 3 (fun a b c => inside (b_bits_Writer_Put lf r a b c)) fun l => eC lf (d + 1) 56 l.toArray),
  (58, fun d r => runAr 1 (fun a => inside (b_bits_Writer_Take lf r a)) fun l => eC lf (d + 1) 58 l.toArray),
  (54, fun d r => runAr 1 (fun a => inside (b_split_Splitter_End lf r a)) fun l => eC lf (d + 1) 54 l.toArray),
  (71, fun d r => runAr 1 (fun a => inside (b_press_Press_writes lf r a)) fun l => eC lf (d + 1) 71 l.toArray),
  (72, fun d r => runAr 1 (fun a => inside (b_press_Press_whole lf r a)) fun l => eC lf (d + 1) 72 l.toArray),
  (91, fun d r => runAr 1 (fun a => inside (b_bwt_New lf r a)) fun l => eC lf (d + 1) 91 l.toArray),
  (92, fun d r => runAr 1 (fun a => inside (b_bwt_Turner_Done lf r a)) fun l => eC lf (d + 1) 92 l.toArray),
  (93, fun d r => runAr 2 (fun a b => inside (b_bwt_Turner_Step lf r a b)) fun l => eC lf (d + 1) 93 l.toArray),
  (107, fun d r => runAr 1 (fun a => inside (b_press_Press_pay lf r a)) fun l => eC lf (d + 1) 107 l.toArray),
  (108, fun d r => runAr 1 (fun a => inside (b_press_Press_take lf r a)) fun l => eC lf (d + 1) 108 l.toArray),
  (21, fun d r => runAr 1 (fun a => inside (b_stream_Writer_End lf r a)) fun l => eC lf (d + 1) 21 l.toArray),
  (61, fun d r => runAr 1 (fun a => inside (b_balerref01_Bits lf r a)) fun l => eC lf (d + 1) 61 l.toArray),
  (77, fun d r => runAr 1 (fun a => inside (b_balerref03_Pieces lf r a)) fun l => eC lf (d + 1) 77 l.toArray),
  (78, fun d r => runAr 1 (fun a => inside (b_balerref03_Piece lf r a)) fun l => eC lf (d + 1) 78 l.toArray),
  (30, fun d r => runAr 1 (fun a => inside (b_balerref02_Of lf r a)) fun l => eC lf (d + 1) 30 l.toArray),
  (79, fun d r => runAr 1 (fun a => inside (b_balerref17_Of lf r a)) fun l => eC lf (d + 1) 79 l.toArray),
  (65, fun d r => runAr 1 (fun a => inside (b_balerref20_Bits lf r a)) fun l => eC lf (d + 1) 65 l.toArray),
  (81, fun d r => runAr 1 (fun a => inside (b_balerref02_Stream lf r a)) fun l => eC lf (d + 1) 81 l.toArray),
  (80, fun d r => runAr 2 (fun a b => inside (b_balerref01_Field lf r a b)) fun l => eC lf (d + 1) 80 l.toArray),
  (26, fun d r => runAr 1 (fun a => inside (b_balerref01_Padded lf r a)) fun l => eC lf (d + 1) 26 l.toArray),
  (23, fun d r => runAr 1 (fun a => inside (b_balerref01_Bytes lf r a)) fun l => eC lf (d + 1) 23 l.toArray),
  (115, fun d r => runAr 0 (inside (b_crc_Table lf r)) fun l => eC lf (d + 1) 115 l.toArray),
  (89, fun d r => runAr 2 (fun a b => inside (b_bits_fits lf r a b)) fun l => eC lf (d + 1) 89 l.toArray),
  (90, fun d r => runAr 2 (fun a b => inside (b_bits_Writer_bit lf r a b)) fun l => eC lf (d + 1) 90 l.toArray),
  (84, fun d r => runAr 1 (fun a => inside (b_feed_Packer_Row lf r a)) fun l => eC lf (d + 1) 84 l.toArray),
  (87, fun d r => runAr 1 (fun a => inside (b_feed_Packer_End lf r a)) fun l => eC lf (d + 1) 87 l.toArray),
  (86, fun d r => runAr 3 (fun a b c => inside (b_split_Splitter_piece lf r a b c)) fun l => eC lf (d + 1) 86 l.toArray),
  (88, fun d r => runAr 1 (fun a => inside (b_split_begun_close lf r a)) fun l => eC lf (d + 1) 88 l.toArray),
  (120, fun d r => runAr 1 (fun a => inside (b_sorter_New lf r a)) fun l => eC lf (d + 1) 120 l.toArray),
  (121, fun d r => runAr 2 (fun a b => inside (b_sorter_Sorter_Step lf r a b)) fun l => eC lf (d + 1) 121 l.toArray),
  (122, fun d r => runAr 1 (fun a => inside (b_sorter_Sorter_Done lf r a)) fun l => eC lf (d + 1) 122 l.toArray),
  (123, fun d r => runAr 1 (fun a => inside (b_sorter_Sorter_Order lf r a)) fun l => eC lf (d + 1) 123 l.toArray),
  (124, fun d r => runAr 1 (fun a => inside (b_bwt_Turner_take lf r a)) fun l => eC lf (d + 1) 124 l.toArray),
  (94, fun d r => runAr 1 (fun a => inside (b_bwt_Turner_Result lf r a)) fun l => eC lf (d + 1) 94 l.toArray),
  (24, fun d r => runAr 4 (fun a b c d => inside (b_stream_Writer_Turned lf r a b c d)) fun l => eC lf (d + 1) 24 l.toArray),
  (53, fun d r => runAr 2 (fun a b => inside (b_split_Splitter_Put lf r a b)) fun l => eC lf (d + 1) 53 l.toArray),
  (59, fun d r => runAr 2 (fun a b => inside (b_stream_Writer_magic lf r a b)) fun l => eC lf (d + 1) 59 l.toArray),
  (60, fun d r => runAr 1 (fun a => inside (b_bits_Writer_Pad lf r a)) fun l => eC lf (d + 1) 60 l.toArray),
  (111, fun d r => runAr 1 (fun a => inside (b_balerref03_row lf r a)) fun l => eC lf (d + 1) 111 l.toArray),
  (67, fun d r => runAr 2 (fun a b => inside (b_balerref02_Step lf r a b)) fun l => eC lf (d + 1) 67 l.toArray),
  (113, fun d r => runAr 1 (fun a => inside (b_balerref15_Sorted lf r a)) fun l => eC lf (d + 1) 113 l.toArray),
  (112, fun d r => runAr 2 (fun a b => inside (b_balerref17_From lf r a b)) fun l => eC lf (d + 1) 112 l.toArray),
  (101, fun d r => runAr 1 (fun a => inside (b_balerref05_Symbols lf r a)) fun l => eC lf (d + 1) 101 l.toArray),
  (102, fun d r => runAr 2 (fun a b => inside (b_balerref06_Encode lf r a b)) fun l => eC lf (d + 1) 102 l.toArray),
  (103, fun d r => runAr 2 (fun a b => inside (b_balerref07_Encode lf r a b)) fun l => eC lf (d + 1) 103 l.toArray),
  (104, fun d r => runAr 1 (fun a => inside (b_balerref05_Bits lf r a)) fun l => eC lf (d + 1) 104 l.toArray),
  (105, fun d r => runAr 2 (fun a b => inside (b_balerref14_Bits lf r a b)) fun l => eC lf (d + 1) 105 l.toArray),
  (114, fun d r => runAr 2 (fun a b => inside (b_balerref02_Combine lf r a b)) fun l => eC lf (d + 1) 114 l.toArray),
  (62, fun d r => runAr 1 (fun a => inside (b_balerref01_Number lf r a)) fun l => eC lf (d + 1) 62 l.toArray),
  (116, fun d r => runAr 1 (fun a => inside (b_feed_Packer_close lf r a)) fun l => eC lf (d + 1) 116 l.toArray),
  (117, fun d r => runAr 2 (fun a b => inside (b_split_begun_take lf r a b)) fun l => eC lf (d + 1) 117 l.toArray),
  (118, fun d r => runAr 1 (fun a => inside (b_crc_Sum_Value lf r a)) fun l => eC lf (d + 1) 118 l.toArray),
  (119, fun d r => runAr 1 (fun a => inside (b_crc_Sum_Reset lf r a)) fun l => eC lf (d + 1) 119 l.toArray),
  (155, fun d r => runAr 1 (fun a => inside (b_sorter_Sorter_step lf r a)) fun l => eC lf (d + 1) 155 l.toArray),
  (156, fun d r => runAr 1 (fun a => inside (b_slices_Clone_int_int lf r a)) fun l => eC lf (d + 1) 156 l.toArray),
  (157, fun d r => runAr 2 (fun a b => inside (b_bwt_ahead lf r a b)) fun l => eC lf (d + 1) 157 l.toArray),
  (63, fun d r => runAr 2 (fun a b => inside (b_crc_Combine lf r a b)) fun l => eC lf (d + 1) 63 l.toArray),
  (64, fun d r => runAr 4 (fun a b c d => inside (b_block_Turned lf r a b c d)) fun l => eC lf (d + 1) 64 l.toArray),
  (85, fun d r => runAr 2 (fun a b => inside (b_feed_Packer_Put lf r a b)) fun l => eC lf (d + 1) 85 l.toArray),
  (106, fun d r => runAr 1 (fun a => inside (b_balerref02_Bits lf r a)) fun l => eC lf (d + 1) 106 l.toArray),
  (152, fun d r => runAr 3 (fun a b c => inside (b_balerref15_Ahead lf r a b c)) fun l => eC lf (d + 1) 152 l.toArray),
  (151, fun d r => runAr 2 (fun a b => inside (b_balerref15_Rotation lf r a b)) fun l => eC lf (d + 1) 151 l.toArray),
  (140, fun d r => runAr 2 (fun a b => inside (b_balerref05_There lf r a b)) fun l => eC lf (d + 1) 140 l.toArray),
  (141, fun d r => runAr 1 (fun a => inside (b_balerref05_Is lf r a)) fun l => eC lf (d + 1) 141 l.toArray),
  (142, fun d r => runAr 2 (fun a b => inside (b_balerref06_Place lf r a b)) fun l => eC lf (d + 1) 142 l.toArray),
  (143, fun d r => runAr 2 (fun a b => inside (b_balerref06_Touch lf r a b)) fun l => eC lf (d + 1) 143 l.toArray),
  (144, fun d r => runAr 1 (fun a => inside (b_balerref07_Row lf r a)) fun l => eC lf (d + 1) 144 l.toArray),
  (145, fun d r => runAr 2 (fun a b => inside (b_balerref12_Of lf r a b)) fun l => eC lf (d + 1) 145 l.toArray),
  (146, fun d r => runAr 2 (fun a b => inside (b_balerref13_Bits lf r a b)) fun l => eC lf (d + 1) 146 l.toArray),
  (147, fun d r => runAr 1 (fun a => inside (b_balerref11_Bits lf r a)) fun l => eC lf (d + 1) 147 l.toArray),
  (148, fun d r => runAr 1 (fun a => inside (b_balerref10_Codes lf r a)) fun l => eC lf (d + 1) 148 l.toArray),
  (153, fun d r => runAr 1 (fun a => inside (b_rle_Piece lf r a)) fun l => eC lf (d + 1) 153 l.toArray),
  (154, fun d r => runAr 2 (fun a b => inside (b_crc_Sum_Put lf r a b)) fun l => eC lf (d + 1) 154 l.toArray),
  (182, fun d r => runAr 1 (fun a => inside (b_sorter_Sorter_join lf r a)) fun l => eC lf (d + 1) 182 l.toArray),
  (183, fun d r => runAr 1 (fun a => inside (b_sorter_Sorter_lay lf r a)) fun l => eC lf (d + 1) 183 l.toArray),
  (184, fun d r => runAr 1 (fun a => inside (b_sorter_Sorter_put lf r a)) fun l => eC lf (d + 1) 184 l.toArray),
  (185, fun d r => runAr 1 (fun a => inside (b_sorter_Sorter_begin lf r a)) fun l => eC lf (d + 1) 185 l.toArray),
  (186, fun d r => runAr 1 (fun a => inside (b_sorter_Sorter_rank lf r a)) fun l => eC lf (d + 1) 186 l.toArray),
  (95, fun d r => runAr 1 (fun a => inside (b_used_Symbols lf r a)) fun l => eC lf (d + 1) 95 l.toArray),
  (96, fun d r => runAr 2 (fun a b => inside (b_mtf_Encode lf r a b)) fun l => eC lf (d + 1) 96 l.toArray),
  (97, fun d r => runAr 2 (fun a b => inside (b_zeros_Encode lf r a b)) fun l => eC lf (d + 1) 97 l.toArray),
  (98, fun d r => runAr 2 (fun a b => inside (b_code_Bits lf r a b)) fun l => eC lf (d + 1) 98 l.toArray),
  (99, fun d r => runAr 2 (fun a b => inside (b_used_Write lf r a b)) fun l => eC lf (d + 1) 99 l.toArray),
  (100, fun d r => runAr 3 (fun a b c => inside (b_code_Write lf r a b c)) fun l => eC lf (d + 1) 100 l.toArray),
  (174, fun d r => runAr 2 (fun a b => inside (b_balerref08_Counts lf r a b)) fun l => eC lf (d + 1) 174 l.toArray),
  (173, fun d r => runAr 2 (fun a b => inside (b_balerref12_First lf r a b)) fun l => eC lf (d + 1) 173 l.toArray),
  (175, fun d r => runAr 1 (fun a => inside (b_balerref08_Groups lf r a)) fun l => eC lf (d + 1) 175 l.toArray),
  (176, fun d r => runAr 2 (fun a b => inside (b_balerref12_pick lf r a b)) fun l => eC lf (d + 1) 176 l.toArray),
  (177, fun d r => runAr 1 (fun a => inside (b_balerref09_Of lf r a)) fun l => eC lf (d + 1) 177 l.toArray),
  (178, fun d r => runAr 2 (fun a b => inside (b_balerref10_next lf r a b)) fun l => eC lf (d + 1) 178 l.toArray),
  (180, fun d r => runAr 1 (fun a => inside (b_rle_text lf r a)) fun l => eC lf (d + 1) 180 l.toArray),
  (181, fun d r => runAr 3 (fun a b c => inside (b_crc_step lf r a b c)) fun l => eC lf (d + 1) 181 l.toArray),
  (212, fun d r => runAr 3 (fun a b c => inside (b_sorter_Sorter_above lf r a b c)) fun l => eC lf (d + 1) 212 l.toArray),
  (213, fun d r => runAr 1 (fun a => inside (b_sorter_Sorter_pass lf r a)) fun l => eC lf (d + 1) 213 l.toArray),
  (125, fun d r => runAr 1 (fun a => inside (b_used_listed lf r a)) fun l => eC lf (d + 1) 125 l.toArray),
  (126, fun d r => runAr 1 (fun a => inside (b_mtf_New lf r a)) fun l => eC lf (d + 1) 126 l.toArray),
  (127, fun d r => runAr 2 (fun a b => inside (b_mtf_List_Find lf r a b)) fun l => eC lf (d + 1) 127 l.toArray),
  (128, fun d r => runAr 1 (fun a => inside (b_zeros_may lf r a)) fun l => eC lf (d + 1) 128 l.toArray),
  (129, fun d r => runAr 1 (fun a => inside (b_zeros_row lf r a)) fun l => eC lf (d + 1) 129 l.toArray),
  (130, fun d r => runAr 2 (fun a b => inside (b_code_chosen lf r a b)) fun l => eC lf (d + 1) 130 l.toArray),
  (131, fun d r => runAr 2 (fun a b => inside (b_picks_Bits lf r a b)) fun l => eC lf (d + 1) 131 l.toArray),
  (132, fun d r => runAr 1 (fun a => inside (b_delta_Bits lf r a)) fun l => eC lf (d + 1) 132 l.toArray),
  (133, fun d r => runAr 2 (fun a b => inside (b_tables_Cost lf r a b)) fun l => eC lf (d + 1) 133 l.toArray),
  (134, fun d r => runAr 1 (fun a => inside (b_used_Is lf r a)) fun l => eC lf (d + 1) 134 l.toArray),
  (135, fun d r => runAr 1 (fun a => inside (b_used_rows lf r a)) fun l => eC lf (d + 1) 135 l.toArray),
  (136, fun d r => runAr 3 (fun a b c => inside (b_picks_Write lf r a b c)) fun l => eC lf (d + 1) 136 l.toArray),
  (137, fun d r => runAr 2 (fun a b => inside (b_delta_Write lf r a b)) fun l => eC lf (d + 1) 137 l.toArray),
  (138, fun d r => runAr 1 (fun a => inside (b_canon_New lf r a)) fun l => eC lf (d + 1) 138 l.toArray),
  (139, fun d r => runAr 3 (fun a b c => inside (b_canon_Code_Put lf r a b c)) fun l => eC lf (d + 1) 139 l.toArray),
  (206, fun d r => runAr 2 (fun a b => inside (b_balerref08_count lf r a b)) fun l => eC lf (d + 1) 206 l.toArray),
  (205, fun d r => runAr 1 (fun a => inside (b_balerref12_Number lf r a)) fun l => eC lf (d + 1) 205 l.toArray),
  (207, fun d r => runAr 2 (fun a b => inside (b_balerref08_Cost lf r a b)) fun l => eC lf (d + 1) 207 l.toArray),
  (208, fun d r => runAr 1 (fun a => inside (b_balerref09_Depths lf r a)) fun l => eC lf (d + 1) 208 l.toArray),
  (209, fun d r => runAr 3 (fun a b c => inside (b_balerref09_May lf r a b c)) fun l => eC lf (d + 1) 209 l.toArray),
  (210, fun d r => runAr 1 (fun a => inside (b_balerref09_Halved lf r a)) fun l => eC lf (d + 1) 210 l.toArray),
  (232, fun d r => runAr 2 (fun a b => inside (b_sorter_Sorter_key lf r a b)) fun l => eC lf (d + 1) 232 l.toArray),
  (159, fun d r => runAr 2 (fun a b => inside (b_mtf_List_touch lf r a b)) fun l => eC lf (d + 1) 159 l.toArray),
  (160, fun d r => runAr 2 (fun a b => inside (b_slices_Index_int_int lf r a b)) fun l => eC lf (d + 1) 160 l.toArray),
  (161, fun d r => runAr 2 (fun a b => inside (b_tables_Of lf r a b)) fun l => eC lf (d + 1) 161 l.toArray),
  (162, fun d r => runAr 2 (fun a b => inside (b_picks_may lf r a b)) fun l => eC lf (d + 1) 162 l.toArray),
  (163, fun d r => runAr 1 (fun a => inside (b_picks_places lf r a)) fun l => eC lf (d + 1) 163 l.toArray),
  (164, fun d r => runAr 1 (fun a => inside (b_delta_may lf r a)) fun l => eC lf (d + 1) 164 l.toArray),
  (166, fun d r => runAr 3 (fun a b c => inside (b_delta_Bits_1 lf r a b c)) fun l => eC lf (d + 1) 166 l.toArray),
  (165, fun d r => runAr 2 (fun a b => inside (b_delta_steps lf r a b)) fun l => eC lf (d + 1) 165 l.toArray),
  (167, fun d r => runAr 1 (fun a => inside (b_freq_Groups lf r a)) fun l => eC lf (d + 1) 167 l.toArray),
  (168, fun d r => runAr 2 (fun a b => inside (b_freq_Group lf r a b)) fun l => eC lf (d + 1) 168 l.toArray),
  (169, fun d r => runAr 2 (fun a b => inside (b_freq_Cost lf r a b)) fun l => eC lf (d + 1) 169 l.toArray),
  (170, fun d r => runAr 3 (fun a b c => inside (b_delta_Write_1 lf r a b c)) fun l => eC lf (d + 1) 170 l.toArray),
  (171, fun d r => runAr 1 (fun a => inside (b_canon_whole lf r a)) fun l => eC lf (d + 1) 171 l.toArray),
  (172, fun d r => runAr 2 (fun a b => inside (b_canon_Code_Of lf r a b)) fun l => eC lf (d + 1) 172 l.toArray),
  (223, fun d r => runAr 1 (fun a => inside (b_balerref08_most lf r a)) fun l => eC lf (d + 1) 223 l.toArray),
  (224, fun d r => runAr 1 (fun a => inside (b_balerref09_least lf r a)) fun l => eC lf (d + 1) 224 l.toArray),
  (225, fun d r => runAr 2 (fun a b => inside (b_balerref09_without lf r a b)) fun l => eC lf (d + 1) 225 l.toArray),
  (188, fun d r => runAr 2 (fun a b => inside (b_freq_Counts lf r a b)) fun l => eC lf (d + 1) 188 l.toArray),
  (189, fun d r => runAr 1 (fun a => inside (b_tables_groupsOf lf r a)) fun l => eC lf (d + 1) 189 l.toArray),
  (190, fun d r => runAr 2 (fun a b => inside (b_tables_first lf r a b)) fun l => eC lf (d + 1) 190 l.toArray),
  (191, fun d r => runAr 3 (fun a b c => inside (b_tables_round lf r a b c)) fun l => eC lf (d + 1) 191 l.toArray),
  (192, fun d r => runAr 1 (fun a => inside (b_picks_tabled lf r a)) fun l => eC lf (d + 1) 192 l.toArray),
  (194, fun d r => runAr 2 (fun a b => inside (b_picks_may_1 lf r a b)) fun l => eC lf (d + 1) 194 l.toArray),
  (193, fun d r => runAr 2 (fun a b => inside (b_slices_ContainsFunc_int_int lf r a b)) fun l => eC lf (d + 1) 193 l.toArray),
  (195, fun d r => runAr 0 (inside (b_picks_fresh lf r)) fun l => eC lf (d + 1) 195 l.toArray),
  (196, fun d r => runAr 2 (fun a b => inside (b_picks_order_find lf r a b)) fun l => eC lf (d + 1) 196 l.toArray),
  (197, fun d r => runAr 1 (fun a => inside (b_delta_sized lf r a)) fun l => eC lf (d + 1) 197 l.toArray),
  (198, fun d r => runAr 1 (fun a => inside (b_delta_may_1 lf r a)) fun l => eC lf (d + 1) 198 l.toArray),
  (200, fun d r => runAr 3 (fun a b c => inside (b_freq_part_int lf r a b c)) fun l => eC lf (d + 1) 200 l.toArray),
  (201, fun d r => runAr 1 (fun a => inside (b_freq_all lf r a)) fun l => eC lf (d + 1) 201 l.toArray),
  (202, fun d r => runAr 2 (fun a b => inside (b_freq_together lf r a b)) fun l => eC lf (d + 1) 202 l.toArray),
  (203, fun d r => runAr 1 (fun a => inside (b_lens_Share lf r a)) fun l => eC lf (d + 1) 203 l.toArray),
  (204, fun d r => runAr 2 (fun a b => inside (b_slices_Contains_int_int lf r a b)) fun l => eC lf (d + 1) 204 l.toArray),
  (237, fun d r => runAr 2 (fun a b => inside (b_balerref09_less lf r a b)) fun l => eC lf (d + 1) 237 l.toArray),
  (214, fun d r => runAr 1 (fun a => inside (b_tables_Number lf r a)) fun l => eC lf (d + 1) 214 l.toArray),
  (215, fun d r => runAr 2 (fun a b => inside (b_tables_pick lf r a b)) fun l => eC lf (d + 1) 215 l.toArray),
  (216, fun d r => runAr 2 (fun a b => inside (b_freq_Add lf r a b)) fun l => eC lf (d + 1) 216 l.toArray),
  (217, fun d r => runAr 1 (fun a => inside (b_lens_Of lf r a)) fun l => eC lf (d + 1) 217 l.toArray),
  (218, fun d r => runAr 2 (fun a b => inside (b_slices_IndexFunc_int_int lf r a b)) fun l => eC lf (d + 1) 218 l.toArray),
  (219, fun d r => runAr 2 (fun a b => inside (b_picks_order_touch lf r a b)) fun l => eC lf (d + 1) 219 l.toArray),
  (199, fun d r => runAr 1 (fun a => inside (b_delta_length lf r a)) fun l => eC lf (d + 1) 199 l.toArray),
  (220, fun d r => runAr 1 (fun a => inside (b_freq_all_1 lf r a)) fun l => eC lf (d + 1) 220 l.toArray),
  (222, fun d r => runAr 3 (fun a b c => inside (b_lens_between lf r a b c)) fun l => eC lf (d + 1) 222 l.toArray),
  (233, fun d r => runAr 1 (fun a => inside (b_lens_depths lf r a)) fun l => eC lf (d + 1) 233 l.toArray),
  (234, fun d r => runAr 1 (fun a => inside (b_lens_Longest lf r a)) fun l => eC lf (d + 1) 234 l.toArray),
  (235, fun d r => runAr 1 (fun a => inside (b_lens_Halved lf r a)) fun l => eC lf (d + 1) 235 l.toArray),
  (221, fun d r => runAr 1 (fun a => inside (b_freq_may lf r a)) fun l => eC lf (d + 1) 221 l.toArray),
  (236, fun d r => runAr 3 (fun a b c => inside (b_lens_between_1 lf r a b c)) fun l => eC lf (d + 1) 236 l.toArray),
  (243, fun d r => runAr 1 (fun a => inside (b_lens_treesOf lf r a)) fun l => eC lf (d + 1) 243 l.toArray),
  (244, fun d r => runAr 1 (fun a => inside (b_lens_trees_least lf r a)) fun l => eC lf (d + 1) 244 l.toArray),
  (245, fun d r => runAr 3 (fun a b c => inside (b_lens_trees_join lf r a b c)) fun l => eC lf (d + 1) 245 l.toArray),
  (249, fun d r => runAr 3 (fun a b c => inside (b_lens_treesOf_1 lf r a b c)) fun l => eC lf (d + 1) 249 l.toArray),
  (248, fun d r => runAr 2 (fun a b => inside (b_slices_SortStableFunc_int_int lf r a b)) fun l => eC lf (d + 1) 248 l.toArray),
  (250, fun d r => runAr 2 (fun a b => inside (b_cmp_Compare_int lf r a b)) fun l => eC lf (d + 1) 250 l.toArray),
  (251, fun d r => runAr 3 (fun a b c => inside (b_slices_stableCmpFunc_int lf r a b c)) fun l => eC lf (d + 1) 251 l.toArray),
  (252, fun d r => runAr 1 (fun a => inside (b_cmp_isNaN_int lf r a)) fun l => eC lf (d + 1) 252 l.toArray),
  (253, fun d r => runAr 4 (fun a b c d => inside (b_slices_insertionSortCmpFunc_int lf r a b c d)) fun l => eC lf (d + 1) 253 l.toArray),
  (254, fun d r => runAr 5 (fun a b c d e => inside (b_slices_symMergeCmpFunc_int lf r a b c d e)) fun l => eC lf (d + 1) 254 l.toArray),
  (255, fun d r => runAr 5 (fun a b c d e => inside (b_slices_rotateCmpFunc_int lf r a b c d e)) fun l => eC lf (d + 1) 255 l.toArray),
  (256, fun d r => runAr 5 (fun a b c d e => inside (b_slices_swapRangeCmpFunc_int lf r a b c d e)) fun l => eC lf (d + 1) 256 l.toArray)]
theorem fTab_ok (lf : Nat) : OkTab (eC lf) (fTab lf) := ⟨fun d => runAr_eq _ _ _ (shN st_balerlaw23_letter),
  ⟨fun d => runAr_eq _ _ _ (fun a b c => shN st_press_New),
  ⟨fun d => runAr_eq _ _ _ (fun a b => shN st_press_Press_Feed),
  ⟨fun d => runAr_eq _ _ _ (fun a => shN st_press_Press_End),
  ⟨fun d => runAr_eq _ _ _ (fun a b => shN st_press_Press_Take),
  ⟨fun d => runAr_eq _ _ _ (fun a b => shN st_press_Press_Step),
  ⟨fun d => runAr_eq _ _ _ (fun a => shN st_press_Press_Done),
  ⟨fun d => runAr_eq _ _ _ (fun a b c => shN st_balerref21_With),
  ⟨fun d => runAr_eq _ _ _ (fun a b => shN st_split_Room),
  ⟨fun d => runAr_eq _ _ _ (fun a => shN st_press_windowed),
  ⟨fun d => runAr_eq _ _ _ (fun a => shN st_split_New),
  ⟨fun d => runAr_eq _ _ _ (fun a => shN st_stream_New),
  ⟨fun d => runAr_eq _ _ _ (fun a => shN st_stream_Writer_Take),
  ⟨fun d => runAr_eq _ _ _ (fun a => shN st_press_Press_flush),
  ⟨fun d => runAr_eq _ _ _ (fun a => shN st_press_Press_Stopped),
  ⟨fun d => runAr_eq _ _ _ (fun a b => shN st_press_Press_work),
  ⟨fun d => runAr_eq _ _ _ (fun a => shN st_balerref21_Head),
  ⟨fun d => runAr_eq _ _ _ (fun a b => shN st_balerref19_Of),
  ⟨fun d => runAr_eq _ _ _ (fun a => shN st_balerref19_Block_Sum),
  ⟨fun d => runAr_eq _ _ _ (fun a b => shN st_balerref20_Write),
  ⟨fun d => runAr_eq _ _ _ (fun a => shN st_balerref21_Tail),
  ⟨fun d => runAr_eq _ _ _ (fun a => shN st_balerref01_Pack),
  ⟨fun d => runAr_eq _ _ _ (shN st_crc_New),
  ⟨fun d => runAr_eq _ _ _ (shN st_feed_NewPacker),
  ⟨fun d => runAr_eq _ _ _ (shN st_bits_NewWriter),
  ⟨fun d => runAr_eq _ _ _ (fun a b c => shN st_bits_Writer_Put),
  ⟨fun d => runAr_eq _ _ _ (fun a => shN st_bits_Writer_Take),
  ⟨fun d => runAr_eq _ _ _ (fun a => shN st_split_Splitter_End),
  ⟨fun d => runAr_eq _ _ _ (fun a => shN st_press_Press_writes),
  ⟨fun d => runAr_eq _ _ _ (fun a => shN st_press_Press_whole),
  ⟨fun d => runAr_eq _ _ _ (fun a => shN st_bwt_New),
  ⟨fun d => runAr_eq _ _ _ (fun a => shN st_bwt_Turner_Done),
  ⟨fun d => runAr_eq _ _ _ (fun a b => shN st_bwt_Turner_Step),
  ⟨fun d => runAr_eq _ _ _ (fun a => shN st_press_Press_pay),
  ⟨fun d => runAr_eq _ _ _ (fun a => shN st_press_Press_take),
  ⟨fun d => runAr_eq _ _ _ (fun a => shN st_stream_Writer_End),
  ⟨fun d => runAr_eq _ _ _ (fun a => shN st_balerref01_Bits),
  ⟨fun d => runAr_eq _ _ _ (fun a => shN st_balerref03_Pieces),
  ⟨fun d => runAr_eq _ _ _ (fun a => shN st_balerref03_Piece),
  ⟨fun d => runAr_eq _ _ _ (fun a => shN st_balerref02_Of),
  ⟨fun d => runAr_eq _ _ _ (fun a => shN st_balerref17_Of),
  ⟨fun d => runAr_eq _ _ _ (fun a => shN st_balerref20_Bits),
  ⟨fun d => runAr_eq _ _ _ (fun a => shN st_balerref02_Stream),
  ⟨fun d => runAr_eq _ _ _ (fun a b => shN st_balerref01_Field),
  ⟨fun d => runAr_eq _ _ _ (fun a => shN st_balerref01_Padded),
  ⟨fun d => runAr_eq _ _ _ (fun a => shN st_balerref01_Bytes),
  ⟨fun d => runAr_eq _ _ _ (shN st_crc_Table),
  ⟨fun d => runAr_eq _ _ _ (fun a b => shN st_bits_fits),
  ⟨fun d => runAr_eq _ _ _ (fun a b => shN st_bits_Writer_bit),
  ⟨fun d => runAr_eq _ _ _ (fun a => shN st_feed_Packer_Row),
  ⟨fun d => runAr_eq _ _ _ (fun a => shN st_feed_Packer_End),
  ⟨fun d => runAr_eq _ _ _ (fun a b c => shN st_split_Splitter_piece),
  ⟨fun d => runAr_eq _ _ _ (fun a => shN st_split_begun_close),
  ⟨fun d => runAr_eq _ _ _ (fun a => shN st_sorter_New),
  ⟨fun d => runAr_eq _ _ _ (fun a b => shN st_sorter_Sorter_Step),
  ⟨fun d => runAr_eq _ _ _ (fun a => shN st_sorter_Sorter_Done),
  ⟨fun d => runAr_eq _ _ _ (fun a => shN st_sorter_Sorter_Order),
  ⟨fun d => runAr_eq _ _ _ (fun a => shN st_bwt_Turner_take),
  ⟨fun d => runAr_eq _ _ _ (fun a => shN st_bwt_Turner_Result),
  ⟨fun d => runAr_eq _ _ _ (fun a b c d => shN st_stream_Writer_Turned),
  ⟨fun d => runAr_eq _ _ _ (fun a b => shN st_split_Splitter_Put),
  ⟨fun d => runAr_eq _ _ _ (fun a b => shN st_stream_Writer_magic),
  ⟨fun d => runAr_eq _ _ _ (fun a => shN st_bits_Writer_Pad),
  ⟨fun d => runAr_eq _ _ _ (fun a => shN st_balerref03_row),
  ⟨fun d => runAr_eq _ _ _ (fun a b => shN st_balerref02_Step),
  ⟨fun d => runAr_eq _ _ _ (fun a => shN st_balerref15_Sorted),
  ⟨fun d => runAr_eq _ _ _ (fun a b => shN st_balerref17_From),
  ⟨fun d => runAr_eq _ _ _ (fun a => shN st_balerref05_Symbols),
  ⟨fun d => runAr_eq _ _ _ (fun a b => shN st_balerref06_Encode),
  ⟨fun d => runAr_eq _ _ _ (fun a b => shN st_balerref07_Encode),
  ⟨fun d => runAr_eq _ _ _ (fun a => shN st_balerref05_Bits),
  ⟨fun d => runAr_eq _ _ _ (fun a b => shN st_balerref14_Bits),
  ⟨fun d => runAr_eq _ _ _ (fun a b => shN st_balerref02_Combine),
  ⟨fun d => runAr_eq _ _ _ (fun a => shN st_balerref01_Number),
  ⟨fun d => runAr_eq _ _ _ (fun a => shN st_feed_Packer_close),
  ⟨fun d => runAr_eq _ _ _ (fun a b => shN st_split_begun_take),
  ⟨fun d => runAr_eq _ _ _ (fun a => shN st_crc_Sum_Value),
  ⟨fun d => runAr_eq _ _ _ (fun a => shN st_crc_Sum_Reset),
  ⟨fun d => runAr_eq _ _ _ (fun a => shN st_sorter_Sorter_step),
  ⟨fun d => runAr_eq _ _ _ (fun a => shN st_slices_Clone_int_int),
  ⟨fun d => runAr_eq _ _ _ (fun a b => shN st_bwt_ahead),
  ⟨fun d => runAr_eq _ _ _ (fun a b => shN st_crc_Combine),
  ⟨fun d => runAr_eq _ _ _ (fun a b c d => shN st_block_Turned),
  ⟨fun d => runAr_eq _ _ _ (fun a b => shN st_feed_Packer_Put),
  ⟨fun d => runAr_eq _ _ _ (fun a => shN st_balerref02_Bits),
  ⟨fun d => runAr_eq _ _ _ (fun a b c => shN st_balerref15_Ahead),
  ⟨fun d => runAr_eq _ _ _ (fun a b => shN st_balerref15_Rotation),
  ⟨fun d => runAr_eq _ _ _ (fun a b => shN st_balerref05_There),
  ⟨fun d => runAr_eq _ _ _ (fun a => shN st_balerref05_Is),
  ⟨fun d => runAr_eq _ _ _ (fun a b => shN st_balerref06_Place),
  ⟨fun d => runAr_eq _ _ _ (fun a b => shN st_balerref06_Touch),
  ⟨fun d => runAr_eq _ _ _ (fun a => shN st_balerref07_Row),
  ⟨fun d => runAr_eq _ _ _ (fun a b => shN st_balerref12_Of),
  ⟨fun d => runAr_eq _ _ _ (fun a b => shN st_balerref13_Bits),
  ⟨fun d => runAr_eq _ _ _ (fun a => shN st_balerref11_Bits),
  ⟨fun d => runAr_eq _ _ _ (fun a => shN st_balerref10_Codes),
  ⟨fun d => runAr_eq _ _ _ (fun a => shN st_rle_Piece),
  ⟨fun d => runAr_eq _ _ _ (fun a b => shN st_crc_Sum_Put),
  ⟨fun d => runAr_eq _ _ _ (fun a => shN st_sorter_Sorter_join),
  ⟨fun d => runAr_eq _ _ _ (fun a => shN st_sorter_Sorter_lay),
  ⟨fun d => runAr_eq _ _ _ (fun a => shN st_sorter_Sorter_put),
  ⟨fun d => runAr_eq _ _ _ (fun a => shN st_sorter_Sorter_begin),
  ⟨fun d => runAr_eq _ _ _ (fun a => shN st_sorter_Sorter_rank),
  ⟨fun d => runAr_eq _ _ _ (fun a => shN st_used_Symbols),
  ⟨fun d => runAr_eq _ _ _ (fun a b => shN st_mtf_Encode),
  ⟨fun d => runAr_eq _ _ _ (fun a b => shN st_zeros_Encode),
  ⟨fun d => runAr_eq _ _ _ (fun a b => shN st_code_Bits),
  ⟨fun d => runAr_eq _ _ _ (fun a b => shN st_used_Write),
  ⟨fun d => runAr_eq _ _ _ (fun a b c => shN st_code_Write),
  ⟨fun d => runAr_eq _ _ _ (fun a b => shN st_balerref08_Counts),
  ⟨fun d => runAr_eq _ _ _ (fun a b => shN st_balerref12_First),
  ⟨fun d => runAr_eq _ _ _ (fun a => shN st_balerref08_Groups),
  ⟨fun d => runAr_eq _ _ _ (fun a b => shN st_balerref12_pick),
  ⟨fun d => runAr_eq _ _ _ (fun a => shN st_balerref09_Of),
  ⟨fun d => runAr_eq _ _ _ (fun a b => shN st_balerref10_next),
  ⟨fun d => runAr_eq _ _ _ (fun a => shN st_rle_text),
  ⟨fun d => runAr_eq _ _ _ (fun a b c => shN st_crc_step),
  ⟨fun d => runAr_eq _ _ _ (fun a b c => shN st_sorter_Sorter_above),
  ⟨fun d => runAr_eq _ _ _ (fun a => shN st_sorter_Sorter_pass),
  ⟨fun d => runAr_eq _ _ _ (fun a => shN st_used_listed),
  ⟨fun d => runAr_eq _ _ _ (fun a => shN st_mtf_New),
  ⟨fun d => runAr_eq _ _ _ (fun a b => shN st_mtf_List_Find),
  ⟨fun d => runAr_eq _ _ _ (fun a => shN st_zeros_may),
  ⟨fun d => runAr_eq _ _ _ (fun a => shN st_zeros_row),
  ⟨fun d => runAr_eq _ _ _ (fun a b => shN st_code_chosen),
  ⟨fun d => runAr_eq _ _ _ (fun a b => shN st_picks_Bits),
  ⟨fun d => runAr_eq _ _ _ (fun a => shN st_delta_Bits),
  ⟨fun d => runAr_eq _ _ _ (fun a b => shN st_tables_Cost),
  ⟨fun d => runAr_eq _ _ _ (fun a => shN st_used_Is),
  ⟨fun d => runAr_eq _ _ _ (fun a => shN st_used_rows),
  ⟨fun d => runAr_eq _ _ _ (fun a b c => shN st_picks_Write),
  ⟨fun d => runAr_eq _ _ _ (fun a b => shN st_delta_Write),
  ⟨fun d => runAr_eq _ _ _ (fun a => shN st_canon_New),
  ⟨fun d => runAr_eq _ _ _ (fun a b c => shN st_canon_Code_Put),
  ⟨fun d => runAr_eq _ _ _ (fun a b => shN st_balerref08_count),
  ⟨fun d => runAr_eq _ _ _ (fun a => shN st_balerref12_Number),
  ⟨fun d => runAr_eq _ _ _ (fun a b => shN st_balerref08_Cost),
  ⟨fun d => runAr_eq _ _ _ (fun a => shN st_balerref09_Depths),
  ⟨fun d => runAr_eq _ _ _ (fun a b c => shN st_balerref09_May),
  ⟨fun d => runAr_eq _ _ _ (fun a => shN st_balerref09_Halved),
  ⟨fun d => runAr_eq _ _ _ (fun a b => shN st_sorter_Sorter_key),
  ⟨fun d => runAr_eq _ _ _ (fun a b => shN st_mtf_List_touch),
  ⟨fun d => runAr_eq _ _ _ (fun a b => shN st_slices_Index_int_int),
  ⟨fun d => runAr_eq _ _ _ (fun a b => shN st_tables_Of),
  ⟨fun d => runAr_eq _ _ _ (fun a b => shN st_picks_may),
  ⟨fun d => runAr_eq _ _ _ (fun a => shN st_picks_places),
  ⟨fun d => runAr_eq _ _ _ (fun a => shN st_delta_may),
  ⟨fun d => runAr_eq _ _ _ (fun a b c => shN st_delta_Bits_1),
  ⟨fun d => runAr_eq _ _ _ (fun a b => shN st_delta_steps),
  ⟨fun d => runAr_eq _ _ _ (fun a => shN st_freq_Groups),
  ⟨fun d => runAr_eq _ _ _ (fun a b => shN st_freq_Group),
  ⟨fun d => runAr_eq _ _ _ (fun a b => shN st_freq_Cost),
  ⟨fun d => runAr_eq _ _ _ (fun a b c => shN st_delta_Write_1),
  ⟨fun d => runAr_eq _ _ _ (fun a => shN st_canon_whole),
  ⟨fun d => runAr_eq _ _ _ (fun a b => shN st_canon_Code_Of),
  ⟨fun d => runAr_eq _ _ _ (fun a => shN st_balerref08_most),
  ⟨fun d => runAr_eq _ _ _ (fun a => shN st_balerref09_least),
  ⟨fun d => runAr_eq _ _ _ (fun a b => shN st_balerref09_without),
  ⟨fun d => runAr_eq _ _ _ (fun a b => shN st_freq_Counts),
  ⟨fun d => runAr_eq _ _ _ (fun a => shN st_tables_groupsOf),
  ⟨fun d => runAr_eq _ _ _ (fun a b => shN st_tables_first),
  ⟨fun d => runAr_eq _ _ _ (fun a b c => shN st_tables_round),
  ⟨fun d => runAr_eq _ _ _ (fun a => shN st_picks_tabled),
  ⟨fun d => runAr_eq _ _ _ (fun a b => shN st_picks_may_1),
  ⟨fun d => runAr_eq _ _ _ (fun a b => shN st_slices_ContainsFunc_int_int),
  ⟨fun d => runAr_eq _ _ _ (shN st_picks_fresh),
  ⟨fun d => runAr_eq _ _ _ (fun a b => shN st_picks_order_find),
  ⟨fun d => runAr_eq _ _ _ (fun a => shN st_delta_sized),
  ⟨fun d => runAr_eq _ _ _ (fun a => shN st_delta_may_1),
  ⟨fun d => runAr_eq _ _ _ (fun a b c => shN st_freq_part_int),
  ⟨fun d => runAr_eq _ _ _ (fun a => shN st_freq_all),
  ⟨fun d => runAr_eq _ _ _ (fun a b => shN st_freq_together),
  ⟨fun d => runAr_eq _ _ _ (fun a => shN st_lens_Share),
  ⟨fun d => runAr_eq _ _ _ (fun a b => shN st_slices_Contains_int_int),
  ⟨fun d => runAr_eq _ _ _ (fun a b => shN st_balerref09_less),
  ⟨fun d => runAr_eq _ _ _ (fun a => shN st_tables_Number),
  ⟨fun d => runAr_eq _ _ _ (fun a b => shN st_tables_pick),
  ⟨fun d => runAr_eq _ _ _ (fun a b => shN st_freq_Add),
  ⟨fun d => runAr_eq _ _ _ (fun a => shN st_lens_Of),
  ⟨fun d => runAr_eq _ _ _ (fun a b => shN st_slices_IndexFunc_int_int),
  ⟨fun d => runAr_eq _ _ _ (fun a b => shN st_picks_order_touch),
  ⟨fun d => runAr_eq _ _ _ (fun a => shN st_delta_length),
  ⟨fun d => runAr_eq _ _ _ (fun a => shN st_freq_all_1),
  ⟨fun d => runAr_eq _ _ _ (fun a b c => shN st_lens_between),
  ⟨fun d => runAr_eq _ _ _ (fun a => shN st_lens_depths),
  ⟨fun d => runAr_eq _ _ _ (fun a => shN st_lens_Longest),
  ⟨fun d => runAr_eq _ _ _ (fun a => shN st_lens_Halved),
  ⟨fun d => runAr_eq _ _ _ (fun a => shN st_freq_may),
  ⟨fun d => runAr_eq _ _ _ (fun a b c => shN st_lens_between_1),
  ⟨fun d => runAr_eq _ _ _ (fun a => shN st_lens_treesOf),
  ⟨fun d => runAr_eq _ _ _ (fun a => shN st_lens_trees_least),
  ⟨fun d => runAr_eq _ _ _ (fun a b c => shN st_lens_trees_join),
  ⟨fun d => runAr_eq _ _ _ (fun a b c => shN st_lens_treesOf_1),
  ⟨fun d => runAr_eq _ _ _ (fun a b => shN st_slices_SortStableFunc_int_int),
  ⟨fun d => runAr_eq _ _ _ (fun a b => shN st_cmp_Compare_int),
  ⟨fun d => runAr_eq _ _ _ (fun a b c => shN st_slices_stableCmpFunc_int),
  ⟨fun d => runAr_eq _ _ _ (fun a => shN st_cmp_isNaN_int),
  ⟨fun d => runAr_eq _ _ _ (fun a b c d => shN st_slices_insertionSortCmpFunc_int),
  ⟨fun d => runAr_eq _ _ _ (fun a b c d e => shN st_slices_symMergeCmpFunc_int),
  ⟨fun d => runAr_eq _ _ _ (fun a b c d e => shN st_slices_rotateCmpFunc_int),
  ⟨fun d => runAr_eq _ _ _ (fun a b c d e => shN st_slices_swapRangeCmpFunc_int), trivial⟩⟩⟩⟩⟩⟩⟩⟩⟩⟩⟩⟩⟩⟩⟩⟩⟩⟩⟩⟩⟩⟩⟩⟩⟩⟩⟩⟩⟩⟩⟩⟩⟩⟩⟩⟩⟩⟩⟩⟩⟩⟩⟩⟩⟩⟩⟩⟩⟩⟩⟩⟩⟩⟩⟩⟩⟩⟩⟩⟩⟩⟩⟩⟩⟩⟩⟩⟩⟩⟩⟩⟩⟩⟩⟩⟩⟩⟩⟩⟩⟩⟩⟩⟩⟩⟩⟩⟩⟩⟩⟩⟩⟩⟩⟩⟩⟩⟩⟩⟩⟩⟩⟩⟩⟩⟩⟩⟩⟩⟩⟩⟩⟩⟩⟩⟩⟩⟩⟩⟩⟩⟩⟩⟩⟩⟩⟩⟩⟩⟩⟩⟩⟩⟩⟩⟩⟩⟩⟩⟩⟩⟩⟩⟩⟩⟩⟩⟩⟩⟩⟩⟩⟩⟩⟩⟩⟩⟩⟩⟩⟩⟩⟩⟩⟩⟩⟩⟩⟩⟩⟩⟩⟩⟩⟩⟩⟩⟩⟩⟩⟩⟩⟩⟩⟩⟩⟩⟩⟩⟩⟩⟩⟩⟩⟩⟩⟩⟩⟩⟩⟩
def fast (lf : Nat) : Nat → FuncId → Array Value → M Value := fastT (eC lf) (fTab lf)
theorem fast_eq (lf d : Nat) : fast lf d = eC lf d := fastT_eq (fTab_ok lf) d
end
end Go.Proofs.YtcehhgppfahbkaaGreatDoor
namespace Go.Proofs.YtcehhgppfahbkaaGreatDoor
set_option linter.unusedVariables false
set_option linter.unusedSimpArgs false
open Go.Shelf
def Tryz.lays105_ren : Go.Shelf.Ren := ⟨fun | 105 => 211 | 212 => 226 | 99 => 227 | 165 => 228 | 166 => 229 | 170 => 230 | 169 => 231 | 263 => 238 | 264 => 239 | 206 => 240 | 240 => 241 | 241 => 242 | 276 => 246 | 277 => 247 | n => n, fun | 9 => 9 | 3 => 3 | 4 => 4 | 20 => 20 | 0 => 0 | 46 => 140 | 109 => 253 | 5 => 5 | 72 => 258 | 76 => 262 | 51 => 40 | 146 => 268 | 53 => 98 | 148 => 270 | 70 => 256 | 37 => 99 | 75 => 261 | 127 => 272 | 164 => 277 | 80 => 44 | n => n, fun | n => n⟩
theorem Tryz.lays105 : Go.Proofs.Lays.n105 Tryz.prog Tryz.lays105_ren := {
  mixed := by kernel_rfl
  f99 := Tryz.func227.trans (congrArg some (by kernel_rfl))
  f105 := Tryz.func211.trans (congrArg some (by kernel_rfl))
  f165 := Tryz.func228.trans (congrArg some (by kernel_rfl))
  f166 := Tryz.func229.trans (congrArg some (by kernel_rfl))
  f169 := Tryz.func231.trans (congrArg some (by kernel_rfl))
  f170 := Tryz.func230.trans (congrArg some (by kernel_rfl))
  f206 := Tryz.func240.trans (congrArg some (by kernel_rfl))
  f212 := Tryz.func226.trans (congrArg some (by kernel_rfl))
  f240 := Tryz.func241.trans (congrArg some (by kernel_rfl))
  f241 := Tryz.func242.trans (congrArg some (by kernel_rfl))
  f263 := Tryz.func238.trans (congrArg some (by kernel_rfl))
  f264 := Tryz.func239.trans (congrArg some (by kernel_rfl))
  f276 := Tryz.func246.trans (congrArg some (by kernel_rfl))
  f277 := Tryz.func247.trans (congrArg some (by kernel_rfl))
  t0 := Tryz.underlying0
  a0 := Tryz.isAgg0
  z0 := Tryz.sizeOf0
  v0 := Tryz.zeroValue0
  t3 := Tryz.underlying3
  a3 := Tryz.isAgg3
  z3 := Tryz.sizeOf3
  v3 := Tryz.zeroValue3
  t4 := Tryz.underlying4
  a4 := Tryz.isAgg4
  z4 := Tryz.sizeOf4
  v4 := Tryz.zeroValue4
  t5 := Tryz.underlying5
  a5 := Tryz.isAgg5
  z5 := Tryz.sizeOf5
  v5 := Tryz.zeroValue5
  t9 := Tryz.underlying9
  a9 := Tryz.isAgg9
  z9 := Tryz.sizeOf9
  v9 := Tryz.zeroValue9
  t20 := Tryz.underlying20
  a20 := Tryz.isAgg20
  z20 := Tryz.sizeOf20
  v20 := Tryz.zeroValue20
  t37 := Tryz.underlying99
  a37 := Tryz.isAgg99
  z37 := Tryz.sizeOf99
  v37 := Tryz.zeroValue99
  t46 := Tryz.underlying140
  a46 := Tryz.isAgg140
  z46 := Tryz.sizeOf140
  v46 := Tryz.zeroValue140
  t51 := Tryz.underlying40
  a51 := Tryz.isAgg40
  z51 := Tryz.sizeOf40
  v51 := Tryz.zeroValue40
  t53 := Tryz.underlying98
  a53 := Tryz.isAgg98
  z53 := Tryz.sizeOf98
  v53 := Tryz.zeroValue98
  t70 := Tryz.underlying256
  a70 := Tryz.isAgg256
  z70 := Tryz.sizeOf256
  v70 := Tryz.zeroValue256
  t72 := Tryz.underlying258
  a72 := Tryz.isAgg258
  z72 := Tryz.sizeOf258
  v72 := Tryz.zeroValue258
  t75 := Tryz.underlying261
  a75 := Tryz.isAgg261
  z75 := Tryz.sizeOf261
  v75 := Tryz.zeroValue261
  t76 := Tryz.underlying262
  a76 := Tryz.isAgg262
  z76 := Tryz.sizeOf262
  v76 := Tryz.zeroValue262
  t109 := Tryz.underlying253
  a109 := Tryz.isAgg253
  z109 := Tryz.sizeOf253
  v109 := Tryz.zeroValue253
  t127 := Tryz.underlying272
  a127 := Tryz.isAgg272
  z127 := Tryz.sizeOf272
  v127 := Tryz.zeroValue272
  t146 := Tryz.underlying268
  a146 := Tryz.isAgg268
  z146 := Tryz.sizeOf268
  v146 := Tryz.zeroValue268
  t148 := Tryz.underlying270
  a148 := Tryz.isAgg270
  z148 := Tryz.sizeOf270
  v148 := Tryz.zeroValue270
  t164 := Tryz.underlying277
  a164 := Tryz.isAgg277
  z164 := Tryz.sizeOf277
  v164 := Tryz.zeroValue277 }
theorem Tryz.Builder_Extra_105 : Builder.Extra Tryz.prog Tryz.lays105_ren := {
  sizeBuilder := by kernel_rfl
  liesBuilder := by kernel_rfl
  t5 := Tryz.underlying5
  a5 := Tryz.isAgg5
  z5 := Tryz.sizeOf5
  v5 := Tryz.zeroValue5
  infoByte := by kernel_rfl
  cellsByte := by kernel_rfl
  sizeByte := by kernel_rfl
  neB5 := by decide }
open Go.RowKit Go.Lib in
theorem Tryz.strings_Repeat (s : ByteArray) (c : Nat) (w : World) (hc : c ≤ 9223372036854775807) (hlen : s.size * c ≤ 140737488355328) :
    Calls Tryz.prog 211 #[.string s, .int .i64 c] w fun e w' => e = .returned (.string ⟨(Lib.repeatL s.data.toList c).toArray⟩) ∧ Below w.heap.size w w' := Any.strings_Repeat Tryz.lays105 Tryz.Builder_Extra_105 s c w hc hlen
def Tryz.lays187_ren : Go.Shelf.Ren := ⟨fun | 187 => 158 | 255 => 187 | n => n, fun | 37 => 99 | 5 => 5 | 3 => 3 | n => n, fun | n => n⟩
theorem Tryz.lays187 : Go.Proofs.Lays.n187 Tryz.prog Tryz.lays187_ren := {
  mixed := by kernel_rfl
  f187 := Tryz.func158.trans (congrArg some (by kernel_rfl))
  f255 := Tryz.func187.trans (congrArg some (by kernel_rfl))
  t3 := Tryz.underlying3
  a3 := Tryz.isAgg3
  z3 := Tryz.sizeOf3
  v3 := Tryz.zeroValue3
  t5 := Tryz.underlying5
  a5 := Tryz.isAgg5
  z5 := Tryz.sizeOf5
  v5 := Tryz.zeroValue5
  t37 := Tryz.underlying99
  a37 := Tryz.isAgg99
  z37 := Tryz.sizeOf99
  v37 := Tryz.zeroValue99 }
theorem Tryz.bytes_IndexByte (b o n c : Nat) (xs : List Int) (cv : Int) (w : World) (hx : xs.length = n) (hc : ∀ i, i < n → w.cell? ⟨b, o + i, none⟩ = some (.int .u8 (xs.getD i 0))) :
    Calls Tryz.prog 158 #[.slice (some ⟨b, o, none⟩) n c, .int .u8 cv] w fun e w' => e = .returned (.int .i64 (Lib.indexByte (Lib.bytesOf xs) cv.toNat.toUInt8)) ∧ w' = w := Any.bytes_IndexByte Tryz.lays187 b o n c xs cv w hx hc

end Go.Proofs.YtcehhgppfahbkaaGreatDoor
namespace Go.Proofs.YtcehhgppfahbkaaGreatDoor
set_option linter.unusedVariables false
set_option linter.unusedSimpArgs false
open Go.RowKit Ev

theorem ev_names : Ev.okNames Tryz.prog = true := by kernel_rfl
theorem ev_mix : Tryz.prog.follows .mixedOrders = true := by kernel_rfl
theorem ev_prog0 : Ev.okProg Tryz.prog kn0 = true := by kernel_rfl
theorem ev_progK : Ev.okProg Tryz.prog Ev.KN = true := by kernel_rfl
theorem nat_all {kn : List FuncId} (hk : ∀ f k, kn.contains f = true → natOf f = some k → (f = 158 ∧ k = 1) ∨ (f = 211 ∧ k = 2)) : Ev.NatKnown Tryz.prog kn := by
  intro f k hb hf
  rcases hk f k hb hf with ⟨rfl, rfl⟩ | ⟨rfl, rfl⟩
  · exact ⟨fun _ b o n c xs cv w hx hc => (Tryz.bytes_IndexByte b o n c xs cv w hx hc).mono fun e w' ⟨he, hw⟩ => ⟨he, by rw [hw]; exact Below.refl _ _⟩, fun e => (by cases e), fun e => (by cases e), fun e => (by cases e)⟩
  · exact ⟨fun e => (by cases e), fun _ s c w hc hs => Tryz.strings_Repeat s c w (by omega) (Nat.le_trans (Nat.mul_le_mul hs hc) (by decide)), fun e => (by cases e), fun e => (by cases e)⟩
theorem nat_two {f : FuncId} {k : Nat} (hb : f = 229 ∨ f = 158 ∨ f = 211) (hf : natOf f = some k) : (f = 158 ∧ k = 1) ∨ (f = 211 ∧ k = 2) := by
  rcases hb with rfl | rfl | rfl
  · cases hf
  · cases hf
    exact .inl ⟨rfl, rfl⟩
  · cases hf
    exact .inr ⟨rfl, rfl⟩
theorem no_par {f : FuncId} (hb : f = 229 ∨ f = 158 ∨ f = 211) (hn : natOf f = none) (hp : Ev.noPar Tryz.prog f = true) : False := by
  rcases hb with rfl | rfl | rfl
  · have e : Ev.noPar Tryz.prog 229 = false := by kernel_rfl
    rw [e] at hp
    cases hp
  · cases hn
  · cases hn
theorem bad_known : Ev.Known Tryz.prog kn0 :=
  ⟨fun f hf hn hp w _ => (no_par (by simpa [kn0] using hf) hn hp).elim, nat_all fun f k hb hf => nat_two (by simpa [kn0] using hb) hf⟩
def gV : List Value := [.int .i64 200, .int .i64 600, .int .i64 1200, .int .i64 2400]
def hG : H := H.set .nil 1 (some ⟨3, false, gV⟩)
theorem laid_hG {w : World} (x : Ev.GlobAt w) : ∃ m, Laid Tryz.prog w m hG Tryz.prog.globals.size := by
  refine laid_KG x (by decide +kernel) (sz := 1) (by kernel_rfl) (by decide) (fun k v hk => ?_) (by decide)
  match k, hk with
  | 0, hk => cases hk; simp [KG]
  | 1, hk => cases hk; simp [KG]
  | 2, hk => cases hk; simp [KG]
  | 3, hk => cases hk; simp [KG]
set_option maxRecDepth 100000 in
theorem q_letter : Ev.yieldsTrue ((inside (b_balerlaw23_letter 300000000 (fast 300000000 1000))) hG Tryz.prog.globals.size) = true := by kernel_rfl
theorem l_letter (w : World) (x : Ev.GlobAt w) : Calls Tryz.prog 32 #[] w fun e w' => e = .returned (.bool true) ∧ Below w.heap.size w w' := by
  obtain ⟨m, x⟩ := laid_hG x
  refine Ev.closedN (kn := kn0) ev_names ev_prog0 ev_mix bad_known okd x (gt := gt) (lf := 300000000) (d := 1001) ?_
  have := q_letter
  rw [fast_eq, shN st_balerlaw23_letter] at this
  exact this
theorem known : Ev.Known Tryz.prog Ev.KN := by
  have two : ∀ f, Ev.KN.contains f = true → f = 32 ∨ (f = 229 ∨ f = 158 ∨ f = 211) := fun f hf => by simpa [Ev.KN] using hf
  refine ⟨fun f hf hn hp w x => ?_, nat_all fun f k hb hf => ?_⟩
  · rcases two f hf with rfl | hb
    · exact l_letter w x
    · exact (no_par hb hn hp).elim
  · rcases two f hb with rfl | hb
    · cases hf
    · exact nat_two hb hf
end Go.Proofs.YtcehhgppfahbkaaGreatDoor
namespace Go.Proofs.YtcehhgppfahbkaaGreatDoor
set_option linter.unusedVariables false
set_option linter.unusedSimpArgs false
open Go Go.RowKit Go.WideShapes Go.ChangeShapes Go.MakeChecks

theorem gn_b : Tryz.prog.globalNamed "baler/tables.bounds" = some 1 := by kernel_rfl
theorem gt_b : (Tryz.prog.globals[1]?).map (·.type) = some 265 := by kernel_rfl
theorem co_i : Tryz.prog.cellsOf 3 = 1 := by kernel_rfl
theorem co_b : Tryz.prog.cellsOf 265 = 4 := by kernel_rfl
set_option maxRecDepth 10000 in
theorem glob_of_laid {w : World} (hL : laidMetH Tryz.prog [("baler/tables.bounds", Rows.laid_baler_tables_bounds)] w) : Ev.GlobAt w := by
  rw [laidMetH_plain _ _ _ rfl] at hL
  obtain ⟨ps, ⟨g, t, cs, fuel, p, q, hg, ht, hv, hx, _⟩, _⟩ := hL
  rw [gn_b] at hg
  cases hg
  rw [gt_b] at ht
  cases ht
  unfold World.var? at hv
  rw [gn_b] at hv
  simp only [Option.bind_some] at hv
  split at hv
  · rename_i cs' e' fr' hw
    cases hv
    obtain ⟨xs, m, rfl, hx1, hlen, hxn, hall⟩ := DataW.trod_array Tryz.underlying265 hx
    rw [co_b] at hlen
    rw [co_i] at hall
    have hc : ∀ (i : Nat) (z : Int), i < 4 → (xs.map (·.1))[i]? = some (.lit (.int .i64 z)) → w.cell? ⟨1, i, none⟩ = some (.int .i64 z) := by
      intro i z hi hz
      rw [List.getElem?_map] at hz
      cases hxi : xs[i]? with
      | none => rw [hxi] at hz; cases hz
      | some y =>
        rw [hxi] at hz
        have ha := hall i hi
        rw [hxi] at ha
        obtain ⟨k, h1, h2, _⟩ := DataW.trod_int Tryz.underlying3 ha
        rw [h2] at hz
        cases hz
        have h3 : cs.toList[i]? = some (.int .i64 z) := by
          rw [Nat.mul_one, List.drop_eq_getElem_cons (by omega), List.take_succ_cons, List.take_zero] at h1
          rw [List.getElem?_eq_getElem (by omega)]
          exact congrArg some (List.cons.inj h1).1
        unfold World.cell?
        simp only [hw]
        simpa using h3
    have hm : xs.map (·.1) = [.lit (.int .i64 200), .lit (.int .i64 600), .lit (.int .i64 1200), .lit (.int .i64 2400)] := by
      have := congrArg Prod.fst hx1
      simp only [Rows.laid_baler_tables_bounds] at this
      injection this with this
      exact this.symm
    rw [hm] at hc
    intro g hg
    have : g = (1, 0, .int .i64 200) ∨ g = (1, 1, .int .i64 600) ∨ g = (1, 2, .int .i64 1200) ∨ g = (1, 3, .int .i64 2400) := by simpa [Ev.KG] using hg
    rcases this with rfl | rfl | rfl | rfl
    · exact hc 0 200 (by decide) rfl
    · exact hc 1 600 (by decide) rfl
    · exact hc 2 1200 (by decide) rfl
    · exact hc 3 2400 (by decide) rfl
  · cases hv

end Go.Proofs.YtcehhgppfahbkaaGreatDoor
