/- What a part of the second form does: rules for rewriting; appending; slices; calls. No program in sight. -/
import Derived.Test.YtdagfcflbphoiaaDoorMad
import Derived.ProofKit
import Derived.OpenShut
namespace Go.Proofs.YtdagfcflbphoiaaDoor.Ev
set_option linter.unusedVariables false
set_option linter.unusedSimpArgs false
open Go

def optG {α : Type} (o : Option α) (p : α → Prop) : Prop := match o with
  | some a => p a
  | none => False
theorem optG_some {α : Type} (a : α) (p : α → Prop) : optG (some a) p = p a := rfl
theorem one_int (k : IntKind) (x : Int) : one (.int k x) = true := rfl
theorem one_bool (b : Bool) : one (.bool b) = true := rfl
theorem one_string (s : ByteArray) : one (.string s) = true := rfl
theorem one_slice (a : Option Addr) (n c : Nat) : one (.slice a n c) = true := rfl
theorem one_ptr (a : Option Addr) : one (.pointer a) = true := rfl
theorem cells_agg (cs : Array Value) : (Value.agg cs).cells = cs := rfl
section
variable {β : Type} {W : Nat → Prop} {n0 : Nat} {h h1 : H} {n n1 : Nat} {Q : β → H → Nat → Prop}
theorem not_run_fail : ¬ Run W n0 (M.fail : M β) h n Q := by rintro ⟨_, _, _, _, e, _⟩; cases e
theorem not_run_bind {α : Type} {m : M α} {k : α → M β} (e : m h n = none) : ¬ Run W n0 (m.bind k) h n Q := by
  rintro ⟨_, _, _, _, e1, _⟩
  unfold M.bind at e1
  rw [e] at e1
  cases e1
theorem inside_none {α : Type} {m : M α} (e : m h n = none) : Ev.inside m h n = none := by unfold Ev.inside; rw [e]
theorem ld_iff {P : Program} {t : TypeId} (ha : agg? P t = some false) (b off : Nat) (k : Value → M β) (hb : b < n) : Run W n0 ((inside (evLoad P t (.pointer (some ⟨b, off, none⟩)))).bind k) h n Q ↔ optG (h.get b) fun B => Run W n0 (optK (B.cells[off]?) k) h n Q := by
  cases hg : h.get b with
  | none =>
    refine ⟨fun x => absurd x (not_run_bind (inside_none ?_)), fun x => x.elim⟩
    unfold evLoad rd
    simp [ha, hg]
  | some B =>
    show _ ↔ Run W n0 (optK (B.cells[off]?) k) h n Q
    cases hv : B.cells[off]? with
    | none =>
      refine ⟨fun x => absurd x (not_run_bind (inside_none ?_)), fun x => absurd x not_run_fail⟩
      unfold evLoad rd
      simp [ha, hg, hv]
    | some v =>
      have e : evLoad P t (.pointer (some ⟨b, off, none⟩)) h n = some ⟨v, h, n, [⟨false, b, some off⟩]⟩ := by
        unfold evLoad
        simp only [ha]
        unfold rd
        simp only [hb, hg, hv, if_true]
      obtain ⟨L', e1, e2⟩ := inside_ro (W := W) (n0 := n0) e (by simp)
      exact Run.iff e1 e2
theorem st_iff {P : Program} {t : TypeId} (hs : size? P t = some 1) (b off : Nat) (v : Value) (k : Value → M β) (hb : b < n) (h1 : one v = true) : Run W n0 ((inside (evStore P t (.pointer (some ⟨b, off, none⟩)) v)).bind k) h n Q ↔
    optG (h.get b) fun B => B.own = true ∧ off < B.cells.length ∧ (n0 ≤ b ∨ W b) ∧ Run W n0 (k undef) (h.set b (some ⟨B.elem, B.own, B.cells.set off v⟩)) n Q := by
  have hc : v.cells = #[v] := by cases v <;> first | rfl | (simp [one] at h1)
  have hdef : evStore P t (.pointer (some ⟨b, off, none⟩)) v h n = ((wrN b off [v]).bind fun _ => M.ret undef) h n := by
    unfold evStore
    simp only [hs, hc]
    rfl
  have hN : wrN b off [v] = (wr b off v).bind fun _ => M.ret () := by
    unfold wrN
    funext h n
    rfl
  cases hg : h.get b with
  | none =>
    refine ⟨fun x => absurd x (not_run_bind (inside_none ?_)), fun x => x.elim⟩
    rw [hdef, hN]
    unfold M.bind wr
    simp [hg]
  | some B =>
    show _ ↔ (B.own = true ∧ off < B.cells.length ∧ (n0 ≤ b ∨ W b) ∧ _)
    by_cases hok : B.own = true ∧ off < B.cells.length
    · obtain ⟨ho, hl⟩ := hok
      have hwr : wr b off v h n = some ⟨(), h.set b (some ⟨B.elem, B.own, B.cells.set off v⟩), n, [⟨false, b, some off⟩, ⟨true, b, some off⟩]⟩ := by
        unfold wr
        simp [hb, hg, ho, hl, h1]
      have e : evStore P t (.pointer (some ⟨b, off, none⟩)) v h n = some ⟨undef, h.set b (some ⟨B.elem, B.own, B.cells.set off v⟩), n, [⟨false, b, some off⟩, ⟨true, b, some off⟩]⟩ := by
        rw [hdef, hN]
        have := bind_run (f := fun _ => M.ret ()) hwr (L2 := []) (b := ()) (h2 := h.set b (some ⟨B.elem, B.own, B.cells.set off v⟩)) (n2 := n) rfl
        have := bind_run (f := fun _ => M.ret undef) this (L2 := []) (b := undef) (h2 := h.set b (some ⟨B.elem, B.own, B.cells.set off v⟩)) (n2 := n) rfl
        simpa using this
      have ei := inside_run e
      constructor
      · intro x
        refine ⟨ho, hl, ?_, Run.unstep ei rfl x⟩
        obtain ⟨_, _, _, L, e1, _, e3, _⟩ := x
        obtain ⟨_, _, _, L3, L4, e5, _, rfl⟩ := bind_some e1
        rw [ei] at e5
        simp only [Option.some.injEq, Out.mk.injEq] at e5
        refine e3 ⟨true, b, some off⟩ (List.mem_append.2 (.inl ?_)) rfl
        rw [← e5.2.2.2]
        refine List.mem_filter.2 ⟨by simp, ?_⟩
        simp
        omega
      · rintro ⟨_, _, hw, x⟩
        refine Run.step ei (Nat.le_refl _) (fun x hx hx2 => ?_) x
        have hx := (List.mem_filter.1 hx).1
        simp at hx
        rcases hx with rfl | rfl <;> exact hw
    · refine ⟨fun x => absurd x (not_run_bind (inside_none ?_)), fun x => absurd ⟨x.1, x.2.1⟩ hok⟩
      rw [hdef, hN]
      unfold M.bind wr
      simp only [hb, hg, if_true, h1, Bool.and_true]
      rw [if_neg (by simpa using hok)]

theorem rdN_run {b : Nat} {B : AB} (hg : h.get b = some B) (hb : b < n) : ∀ (c k : Nat), k + c ≤ B.cells.length → ∃ L, rdN b k c h n = some ⟨(B.cells.drop k).take c, h, n, L⟩ ∧ ∀ e ∈ L, e.wr = false
  | 0, k, _ => ⟨[], by rw [List.take_zero]; rfl, by simp⟩
  | c + 1, k, hk => by
    obtain ⟨L, e, hL⟩ := rdN_run hg hb c (k + 1) (by omega)
    have hk2 : k < B.cells.length := by omega
    refine ⟨[⟨false, b, some k⟩] ++ (L ++ []), ?_, ?_⟩
    · unfold rdN
      have e0 : rd b k h n = some ⟨B.cells[k], h, n, [⟨false, b, some k⟩]⟩ := by
        unfold rd
        simp only [hb, hg, if_true, List.getElem?_eq_getElem hk2]
      refine bind_run e0 (bind_run e ?_)
      rw [List.drop_eq_getElem_cons hk2, List.take_succ_cons]
      rfl
    · intro x hx
      simp only [List.append_nil, List.mem_append, List.mem_cons, List.not_mem_nil, or_false] at hx
      rcases hx with rfl | hx
      · rfl
      · exact hL x hx
theorem hdr_run {b : Nat} {B : AB} (hg : h.get b = some B) (hb : b < n) : hdr b h n = some ⟨B.elem, h, n, [⟨false, b, some 1099511627776⟩]⟩ := by
  unfold hdr
  simp only [hb, hg, if_true]
theorem kill_run {b : Nat} {B : AB} (hg : h.get b = some B) (ho : B.own = true) (hb : b < n) : kill b h n = some ⟨(), h.set b none, n, [⟨false, b, none⟩, ⟨true, b, none⟩]⟩ := by
  unfold kill
  simp only [hb, hg, ho, if_true]
/-- what is read of a slice -/
def Src (h : H) (n : Nat) (x : Value) (news : List Value) : Prop := ∃ b off c B, x = .slice (some ⟨b, off, none⟩) news.length c ∧ h.get b = some B ∧ b < n ∧ off + news.length ≤ B.cells.length ∧ (B.cells.drop off).take news.length = news
theorem Src.run {x : Value} {news : List Value} (s : Src h n x news) : ∃ L, elemsOf 1 news.length x h n = some ⟨news, h, n, L⟩ ∧ (∀ e ∈ L, e.wr = false) ∧ lenOf? x = some news.length := by
  obtain ⟨b, off, c, B, rfl, hg, hb, hl, ht⟩ := s
  obtain ⟨L, e, hL⟩ := rdN_run hg hb news.length off hl
  refine ⟨L, ?_, hL, rfl⟩
  unfold elemsOf
  rw [Nat.mul_one]
  show rdN b off news.length h n = _
  rw [e, ht]
theorem app_none {P : Program} {t e : TypeId} {z : Value} (c : Cell1 P t e z) {x : Value} {news : List Value} (hx : lenOf? x = some 0) (a : Option Addr) (l cp : Nat) (k : Value → M β) (y : Run W n0 (k (.slice a l cp)) h n Q) : Run W n0 ((inside (evAppend P t (.slice a l cp) x)).bind k) h n Q := by
  obtain ⟨i, i1, i2, i3⟩ := c.info
  refine run_new (a := .slice a l cp) ?_ (Nat.le_refl n) y
  unfold evAppend
  simp only [c.und, i1, c.zero, hx]
  rw [if_pos (by simp [i2, i3, c.one])]
  rfl
theorem app_nil {P : Program} {t e : TypeId} {z : Value} (c : Cell1 P t e z) {x : Value} {news : List Value} (s : Src h n x news) (h0 : 0 < news.length) (hm : news.length ≤ 1099511627776) (h1 : news.all one = true) (k : Value → M β)
    (y : Run W n0 (k (.slice (some ⟨n, 0, none⟩) news.length (CAP + news.length))) (h.set n (some ⟨e, true, news⟩)) (n + 1) Q) : Run W n0 ((inside (evAppend P t (.slice none 0 0) x)).bind k) h n Q := by
  obtain ⟨i, i1, i2, i3⟩ := c.info
  obtain ⟨L, e1, e2, e3⟩ := s.run
  have ea : evAppend P t (.slice none 0 0) x h n = some ⟨.slice (some ⟨n, 0, none⟩) news.length (CAP + news.length), h.set n (some ⟨e, true, news⟩), n + 1, L⟩ := by
    unfold evAppend
    simp only [c.und, i1, c.zero, e3]
    rw [if_pos (by simp [i2, i3, c.one]), if_neg (by omega), if_pos hm, i2]
    have g : (if (decide (news.length = news.length * 1) && news.all one) = true then evNew e 0 news.length [] news else M.fail) h n = some ⟨.slice (some ⟨n, 0, none⟩) news.length (CAP + news.length), h.set n (some ⟨e, true, news⟩), n + 1, []⟩ := by
      rw [if_pos (by simp; simpa using h1)]
      unfold evNew
      simp only [Nat.zero_add, List.nil_append]
      exact bind_run (newB_run _ _ _ _) rfl
    have := bind_run (f := fun new => if (decide (new.length = news.length * 1) && new.all one) = true then evNew e 0 news.length [] new else M.fail) e1 g
    simpa using this
  refine Run.step (inside_run ea) (Nat.le_succ n) (fun x hx hx2 => ?_) y
  rw [e2 x (List.mem_filter.1 hx).1] at hx2
  cases hx2
theorem app_own {P : Program} {t e : TypeId} {z : Value} (c : Cell1 P t e z) {x : Value} {news olds : List Value} (s : Src h n x news) (h0 : 0 < news.length) (h1 : news.all one = true) {b cp : Nat} {cs : List Value} (hg : h.get b = some ⟨e, true, cs⟩) (hb : b < n) (off l : Nat)
    (hl : off + l ≤ cs.length) (ho : (cs.drop off).take l = olds) (hm : l + news.length ≤ 1099511627776) (hc : CAP ≤ cp) (hw : n0 ≤ b ∨ W b) (k : Value → M β)
    (y : Run W n0 (k (.slice (some ⟨n, 0, none⟩) (l + news.length) (CAP + (l + news.length)))) ((h.set b none).set n (some ⟨e, true, olds ++ news⟩)) (n + 1) Q) : Run W n0 ((inside (evAppend P t (.slice (some ⟨b, off, none⟩) l cp) x)).bind k) h n Q := by
  obtain ⟨i, i1, i2, i3⟩ := c.info
  obtain ⟨L, e1, e2, e3⟩ := s.run
  obtain ⟨L', e4, e5⟩ := rdN_run (n := n) hg hb l off hl
  have ea : ∃ L1, evAppend P t (.slice (some ⟨b, off, none⟩) l cp) x h n = some ⟨.slice (some ⟨n, 0, none⟩) (l + news.length) (CAP + (l + news.length)), (h.set b none).set n (some ⟨e, true, olds ++ news⟩), n + 1, L1⟩ ∧ ∀ e ∈ L1, e.wr = true → e.b = b := by
    refine ⟨[⟨false, b, some 1099511627776⟩] ++ (L ++ (L' ++ ([⟨false, b, none⟩, ⟨true, b, none⟩] ++ []))), ?_, ?_⟩
    · unfold evAppend
      simp only [c.und, i1, c.zero, e3]
      rw [if_pos (by simp [i2, i3, c.one]), if_neg (by omega), if_pos hm]
      refine bind_run (hdr_run hg hb) ?_
      simp only [if_true, i2]
      refine bind_run e1 ?_
      rw [if_pos (by simp; simpa using h1)]
      unfold evAppendTo
      rw [if_neg (by omega), Nat.mul_one]
      refine bind_run e4 (bind_run (kill_run hg rfl hb) ?_)
      rw [ho]
      unfold evNew
      exact bind_run (newB_run _ _ _ _) rfl
    · intro x hx hx2
      simp only [List.mem_append, List.mem_cons, List.not_mem_nil, or_false] at hx
      rcases hx with rfl | hx | hx | rfl | rfl
      · cases hx2
      · rw [e2 x hx] at hx2; cases hx2
      · rw [e5 x hx] at hx2; cases hx2
      · cases hx2
      · rfl
  obtain ⟨L1, ea, hL1⟩ := ea
  refine Run.step (inside_run ea) (Nat.le_succ n) (fun x hx hx2 => ?_) y
  rw [hL1 x (List.mem_filter.1 hx).1 hx2]
  exact hw
/-- a row of fixed room that has not room enough: a new one -/
theorem app_copy {P : Program} {t e : TypeId} {z : Value} (c : Cell1 P t e z) {x : Value} {news olds : List Value} (s : Src h n x news) (h0 : 0 < news.length) (h1 : news.all one = true) {b cp : Nat} {B : AB} (hg : h.get b = some B) (he : B.elem = e) (hb : b < n) (off l : Nat)
    (hl : off + l ≤ B.cells.length) (ho : (B.cells.drop off).take l = olds) (hm : l + news.length ≤ 1099511627776) (hc : cp < CAP) (hr : cp < l + news.length) (k : Value → M β)
    (y : Run W n0 (k (.slice (some ⟨n, 0, none⟩) (l + news.length) (CAP + (l + news.length)))) (h.set n (some ⟨e, true, olds ++ news⟩)) (n + 1) Q) : Run W n0 ((inside (evAppend P t (.slice (some ⟨b, off, none⟩) l cp) x)).bind k) h n Q := by
  obtain ⟨i, i1, i2, i3⟩ := c.info
  obtain ⟨L, e1, e2, e3⟩ := s.run
  obtain ⟨L', e4, e5⟩ := rdN_run (n := n) hg hb l off hl
  have ea : ∃ L1, evAppend P t (.slice (some ⟨b, off, none⟩) l cp) x h n = some ⟨.slice (some ⟨n, 0, none⟩) (l + news.length) (CAP + (l + news.length)), h.set n (some ⟨e, true, olds ++ news⟩), n + 1, L1⟩ ∧ ∀ e ∈ L1, e.wr = false := by
    refine ⟨[⟨false, b, some 1099511627776⟩] ++ (L ++ (L' ++ [])), ?_, ?_⟩
    · unfold evAppend
      simp only [c.und, i1, c.zero, e3]
      rw [if_pos (by simp [i2, i3, c.one]), if_neg (by omega), if_pos hm]
      refine bind_run (hdr_run hg hb) ?_
      simp only [he, if_true, i2]
      refine bind_run e1 ?_
      rw [if_pos (by simp; simpa using h1)]
      unfold evAppendTo
      rw [if_pos hc, if_neg (by omega), Nat.mul_one]
      refine bind_run e4 ?_
      rw [ho]
      unfold evNew
      exact bind_run (newB_run _ _ _ _) rfl
    · intro x hx
      simp only [List.append_nil, List.mem_append, List.mem_cons, List.not_mem_nil, or_false] at hx
      rcases hx with rfl | hx | hx
      · rfl
      · exact e2 x hx
      · exact e5 x hx
  obtain ⟨L1, ea, hL1⟩ := ea
  refine Run.step (inside_run ea) (Nat.le_succ n) (fun x hx hx2 => ?_) y
  rw [hL1 x (List.mem_filter.1 hx).1] at hx2
  cases hx2

/-- one value is appended to a row of the call's own that grows -/
theorem run_push {P : Program} {t e : TypeId} {z : Value} (c : Cell1 P t e z) {v : Value} (hv : one v = true) {b cp l : Nat} {cs : List Value} (hg : h.get b = some ⟨e, true, cs⟩) (hb : b < n) (hl : cs.length = l) (hm : l + 1 ≤ 1099511627776) (hc : CAP ≤ cp) (hw : n0 ≤ b ∨ W b) (k : Value → M β)
    (y : Run W n0 (k (.slice (some ⟨n + 1, 0, none⟩) (l + 1) (CAP + (l + 1)))) (((h.set n (some ⟨e, true, [v]⟩)).set b none).set (n + 1) (some ⟨e, true, cs ++ [v]⟩)) (n + 2) Q) : Run W n0 ((inside (evBuildSlice P t 1 [(0, v)])).bind fun w => (inside (evAppend P t (.slice (some ⟨b, 0, none⟩) l cp) w)).bind k) h n Q := by
  refine run_lit1 c hv _ ?_
  have hg' : (h.set n (some ⟨e, true, [v]⟩)).get b = some ⟨e, true, cs⟩ := by rw [get_ne _ _ (by omega)]; exact hg
  exact app_own c (news := [v]) (olds := cs) ⟨n, 0, 1, ⟨e, true, [v]⟩, rfl, get_eq _ _ _, Nat.lt_succ_self n, by simp, by simp⟩ (by simp) (by simp [hv]) hg' (by omega) 0 l (by omega) (by rw [List.drop_zero, ← hl, List.take_length]) hm hc hw k y
theorem run_push0 {P : Program} {t e : TypeId} {z : Value} (c : Cell1 P t e z) {v : Value} (hv : one v = true) (k : Value → M β)
    (y : Run W n0 (k (.slice (some ⟨n + 1, 0, none⟩) 1 (CAP + 1))) ((h.set n (some ⟨e, true, [v]⟩)).set (n + 1) (some ⟨e, true, [v]⟩)) (n + 2) Q) : Run W n0 ((inside (evBuildSlice P t 1 [(0, v)])).bind fun w => (inside (evAppend P t (.slice none 0 0) w)).bind k) h n Q := by
  refine run_lit1 c hv _ ?_
  exact app_nil c (news := [v]) ⟨n, 0, 1, ⟨e, true, [v]⟩, rfl, get_eq _ _ _, Nat.lt_succ_self n, by simp, by simp⟩ (by simp) (by simp) (by simp [hv]) k y

theorem bound_none (d : Nat) : boundOf none d = some d := rfl
theorem slice_run {P : Program} {t e : TypeId} {z : Value} (c : Cell1 P t e z) {b : Nat} {B : AB} (hg : h.get b = some B) (he : B.elem = e) (hb : b < n) (off len cp : Nat) (lo hi : Option Value) {l hh : Nat} (hlo : boundOf lo 0 = some l) (hhi : boundOf hi len = some hh) (h1 : l ≤ hh) (h2 : hh ≤ len) (h3 : len ≤ cp) (k : Value → M β) (hns : isStrT P t = false)
    (y : Run W n0 (k (.slice (some ⟨b, if cp = l then off else off + l, none⟩) (hh - l) (cp - l))) h n Q) : Run W n0 (slice2 P t (.slice (some ⟨b, off, none⟩) len cp) lo hi none k) h n Q := by
  unfold slice2
  rw [hns]
  simp only
  have e1 : slSl P t (.slice (some ⟨b, off, none⟩) len cp) lo hi none h n = some ⟨.slice (some ⟨b, if cp = l then off else off + l, none⟩) (hh - l) (cp - l), h, n, [⟨false, b, some 1099511627776⟩] ++ []⟩ := by
    unfold slSl
    simp only [isStr]
    unfold evSliceM
    simp only
    refine bind_run (hdr_run hg hb) ?_
    simp only [c.und, he, if_true]
    unfold evSlice
    simp only [c.und, c.size, hlo, hhi, bound_none]
    have : (decide (l ≤ hh) && decide (hh ≤ cp) && decide (cp ≤ cp) && (decide (cp < CAP) || (none : Option Value).isNone && decide (hh ≤ len))) = true := by simp; omega
    simp only [this, Option.isSome_none, Bool.false_and, Bool.false_eq_true, if_false, if_true, Nat.mul_one]
    rfl
  obtain ⟨L', e2, e3⟩ := inside_ro (W := W) (n0 := n0) e1 (by simp)
  exact Run.step e2 (Nat.le_refl _) e3 y
theorem bound_nat (k : IntKind) (x d : Nat) : boundOf (some (.int k (x : Int))) d = some x := by unfold boundOf; simp

theorem call_frame {P : Program} (hd : okDsts P = true) {gt : Nat → List Nat} {lf d : Nat} {f : FuncId} {args : Array Value} {v : Value} {L : List En} (e : evCall2 P gt lf d f args h n = some ⟨v, h1, n1, L⟩) {W' : Nat → Prop} (hw : ∀ e ∈ L, e.wr = true → n ≤ e.b ∨ W' e.b) : ∀ b, b < n → ¬ W' b → h1.get b = h.get b := by
  obtain ⟨f0, e0⟩ := call2_ok hd d f args h n v h1 n1 L e
  have A := Loc.evCall P KN f0 f args h n v h1 n1 L (e0 f0 (Nat.le_refl _))
  intro b hb hn
  refine get_of_agrS fun k => A.frame b k ?_ (by omega)
  rintro ⟨e, he, h2, h3, _⟩
  rcases hw e he h2 with q | q
  · omega
  · exact hn (h3 ▸ q)
theorem run_call {P : Program} (hd : okDsts P = true) {gt : Nat → List Nat} {lf d : Nat} {f : FuncId} {args : Array Value} {W' : Nat → Prop} {Q' : Value → H → Nat → Prop} (s : Run W' n (evCall2 P gt lf d f args) h n Q') (hn : n0 ≤ n) (hW : ∀ b, b < n → W' b → n0 ≤ b ∨ W b) {k : Value → M β}
    (x : ∀ v h1 n1, n ≤ n1 → (∀ b, b < n → ¬ W' b → h1.get b = h.get b) → Q' v h1 n1 → Run W n0 (k v) h1 n1 Q) : Run W n0 ((inside (evCall2 P gt lf d f args)).bind k) h n Q := by
  obtain ⟨v, h1, n1, L, e1, e2, e3, e4⟩ := s
  refine Run.step (inside_run e1) e2 (fun e he hwr => ?_) (x v h1 n1 e2 (call_frame hd e1 e3) e4)
  have hL := (List.mem_filter.1 he).1
  rcases e3 e hL hwr with q | q
  · exact .inl (by omega)
  · by_cases hlt : e.b < n
    · exact hW _ hlt q
    · exact .inl (by omega)
end

section
variable {β : Type} {W : Nat → Prop} {n0 : Nat} {h h1 : H} {n n1 : Nat} {Q : β → H → Nat → Prop}
theorem inside_ret (v : Value) (k : Value → M β) : (inside (M.ret v)).bind k = k v := by
  have : inside (M.ret v) = M.ret v := by funext h n; rfl
  rw [this, bind_ret]
theorem run_lit0 {P : Program} {t e : TypeId} {z : Value} (c : Cell1 P t e z) (k : Value → M β) (x : Run W n0 (k (.slice (some ⟨n, 0, none⟩) 0 0)) (h.set n (some ⟨e, true, []⟩)) (n + 1) Q) : Run W n0 ((inside (evBuildSlice P t 0 [])).bind k) h n Q := by
  refine run_new (a := .slice (some ⟨n, 0, none⟩) 0 0) ?_ (Nat.le_succ n) x
  unfold evBuildSlice
  simp only [c.und, c.size, c.zero]
  rw [if_pos (by simp)]
  exact bind_run (newB_run _ _ _ _) rfl
theorem chk_true (m : M β) : chkT true m = m := rfl
theorem timed_step {m : M Value} {v : Value} {L : List En} {k : Value × Tk → M β} (e : m h n = some ⟨v, h1, n1, L⟩) (hn : n ≤ n1) (hw : ∀ e ∈ L, e.wr = true → n0 ≤ e.b ∨ W e.b) (x : Run W n0 (k (v, ⟨n, n1, L⟩)) h1 n1 Q) : Run W n0 ((timed m).bind k) h n Q :=
  Run.step (timed_run e) hn hw x
theorem ret_tail {m : M Value} {v : Value} {L : List En} (e : m h n = some ⟨v, h1, n1, L⟩) : (m.bind fun v => M.ret v) h n = some ⟨v, h1, n1, L⟩ := by
  have := bind_run (f := fun v => M.ret v) e (L2 := []) (b := v) (h2 := h1) (n2 := n1) rfl
  rwa [List.append_nil] at this
theorem timed_ld {P : Program} {t : TypeId} (ha : agg? P t = some false) (b off : Nat) (k : Value × Tk → M β) {B : AB} (hg : h.get b = some B) (hb : b < n) {v : Value} (hv : B.cells[off]? = some v) (x : Run W n0 (k (v, ⟨n, n, [⟨false, b, some off⟩]⟩)) h n Q) : Run W n0 ((timed ((inside (evLoad P t (.pointer (some ⟨b, off, none⟩)))).bind fun v => M.ret v)).bind k) h n Q := by
  have e : evLoad P t (.pointer (some ⟨b, off, none⟩)) h n = some ⟨v, h, n, [⟨false, b, some off⟩]⟩ := by
    unfold evLoad
    simp only [ha]
    unfold rd
    simp only [hb, hg, hv, if_true]
  have e2 := inside_run e
  have hf : [(⟨false, b, some off⟩ : En)].filter (fun e => !(decide (n ≤ e.b) && decide (e.b < n))) = [⟨false, b, some off⟩] := by
    simp; omega
  rw [hf] at e2
  exact timed_step (ret_tail e2) (Nat.le_refl _) (by simp) x
theorem timed_box {P : Program} {t : TypeId} {sz : Nat} (hs : size? P t = some sz) (v : Value) (k : Value × Tk → M β) (x : Run W n0 (k (.pointer (some ⟨n, 0, none⟩), ⟨n, n + 1, []⟩)) (h.set n (some ⟨t, true, v.cells.toList⟩)) (n + 1) Q) : Run W n0 ((timed ((inside (evBox P t v)).bind fun v => M.ret v)).bind k) h n Q := by
  have e : evBox P t v h n = some ⟨.pointer (some ⟨n, 0, none⟩), h.set n (some ⟨t, true, v.cells.toList⟩), n + 1, []⟩ := by
    unfold evBox
    simp only [hs]
    exact bind_run (newB_run _ _ _ _) rfl
  exact timed_step (ret_tail (inside_run e)) (Nat.le_succ n) (by simp) x
theorem timed_call {P : Program} (hd : okDsts P = true) {gt : Nat → List Nat} {lf d : Nat} {f : FuncId} {args : Array Value} {W' : Nat → Prop} {Q' : Value → H → Nat → Prop} (s : Run W' n (evCall2 P gt lf d f args) h n Q') (hn : n0 ≤ n) (hW : ∀ b, b < n → W' b → n0 ≤ b ∨ W b) {k : Value × Tk → M β}
    (x : ∀ v h1 n1 L, n ≤ n1 → (∀ b, b < n → ¬ W' b → h1.get b = h.get b) → Q' v h1 n1 → (∀ e ∈ L, e.b < n) → (∀ e ∈ L, e.wr = true → W' e.b) → Run W n0 (k (v, ⟨n, n1, L⟩)) h1 n1 Q) : Run W n0 ((timed ((inside (evCall2 P gt lf d f args)).bind fun v => M.ret v)).bind k) h n Q := by
  obtain ⟨v, h1, n1, L, e1, e2, e3, e4⟩ := s
  obtain ⟨f0, e0⟩ := call2_ok hd d f args h n v h1 n1 L e1
  have A := Loc.evCall P KN f0 f args h n v h1 n1 L (e0 f0 (Nat.le_refl _))
  have hlt : ∀ e ∈ L.filter (fun e => !(decide (n ≤ e.b) && decide (e.b < n1))), e.b < n := fun e he => by
    obtain ⟨h1, h2⟩ := List.mem_filter.1 he
    have := A.lt e h1
    simp at h2
    omega
  have hwr : ∀ e ∈ L.filter (fun e => !(decide (n ≤ e.b) && decide (e.b < n1))), e.wr = true → W' e.b := fun e he hw => by
    rcases e3 e (List.mem_filter.1 he).1 hw with q | q
    · have := hlt e he; omega
    · exact q
  exact timed_step (ret_tail (inside_run e1)) e2 (fun e he hw => hW _ (hlt e he) (hwr e he hw)) (x v h1 n1 _ e2 (call_frame hd e1 e3) e4 hlt hwr)
/-- a call that writes nothing, and a reading of what was there ahead of it -/
theorem clash_call_ld {a : Tk} {b k n2 : Nat} (ha : ∀ e ∈ a.log, e.wr = false) (hb : b < a.n) : a.clash ⟨n2, n2, [⟨false, b, some k⟩]⟩ = false := by
  unfold Tk.clash
  simp only [Bool.or_eq_false_iff]
  refine ⟨⟨⟨any_false fun x hx => by rw [ha x hx]; rfl, any_false fun x hx => ?_⟩, any_false fun x hx => ?_⟩, any_false fun x hx => ?_⟩
  · simp only [List.mem_cons, List.not_mem_nil, or_false] at hx; subst hx; rfl
  · first | (simp; done) | (simp; omega)
  · simp only [List.mem_cons, List.not_mem_nil, or_false] at hx; subst hx; first | (simp; done) | (simp; omega)
end

end Go.Proofs.YtdagfcflbphoiaaDoor.Ev
/- Rows of one's own that grow; rows of numbers that are read. No program in sight. -/
namespace Go.Proofs.YtdagfcflbphoiaaDoor.Ev
set_option linter.unusedVariables false
set_option linter.unusedSimpArgs false
open Go
section
variable {β : Type} {W : Nat → Prop} {n0 : Nat} {h h1 : H} {n n1 : Nat} {Q : β → H → Nat → Prop}

def InBlk (v : Value) (b : Nat) : Prop := ∃ o l c, v = .slice (some ⟨b, o, none⟩) l c
def Own (h : H) (lo n : Nat) (e : TypeId) (v : Value) (cs : List Value) : Prop := (v = .slice none 0 0 ∧ cs = []) ∨ ∃ b, v = .slice (some ⟨b, 0, none⟩) cs.length (CAP + cs.length) ∧ h.get b = some ⟨e, true, cs⟩ ∧ lo ≤ b ∧ b < n
theorem Own.nil (h : H) (lo n : Nat) (e : TypeId) : Own h lo n e (.slice none 0 0) [] := .inl ⟨rfl, rfl⟩
theorem InBlk.inj {b c o l k : Nat} (h : InBlk (.slice (some ⟨b, o, none⟩) l k) c) : c = b := by
  obtain ⟨_, _, _, h⟩ := h
  cases h
  rfl
theorem InBlk.not_nil {l k c : Nat} (h : InBlk (.slice none l k) c) : False := by
  obtain ⟨_, _, _, h⟩ := h
  cases h
theorem Own.lt {lo : Nat} {e : TypeId} {v : Value} {cs : List Value} (o : Own h lo n e v cs) {b : Nat} (hb : InBlk v b) : lo ≤ b ∧ b < n := by
  rcases o with ⟨rfl, _⟩ | ⟨c, rfl, _, h1, h2⟩
  · exact hb.not_nil.elim
  · rw [hb.inj]; exact ⟨h1, h2⟩
theorem Own.keep {lo : Nat} {e : TypeId} {v : Value} {cs : List Value} {h' : H} {n' : Nat} (o : Own h lo n e v cs) (hn : n ≤ n') (hk : ∀ b, InBlk v b → h'.get b = h.get b) : Own h' lo n' e v cs := by
  rcases o with q | ⟨c, rfl, hc, h1, h2⟩
  · exact .inl q
  · exact .inr ⟨c, rfl, (hk c ⟨_, _, _, rfl⟩).trans hc, h1, by omega⟩
theorem Own.low {lo lo' : Nat} {e : TypeId} {v : Value} {cs : List Value} (o : Own h lo n e v cs) (hl : lo' ≤ lo) : Own h lo' n e v cs := by
  rcases o with q | ⟨c, hv, hc, h1, h2⟩
  · exact .inl q
  · exact .inr ⟨c, hv, hc, by omega, h2⟩
theorem run_pushO {P : Program} {t e : TypeId} {z : Value} (c : Cell1 P t e z) {x : Value} (hx : one x = true) {lo : Nat} {v : Value} {cs : List Value} (o : Own h lo n e v cs) (hm : cs.length + 1 ≤ 1099511627776) (hlo : n0 ≤ lo) (k : Value → M β)
    (y : ∀ h', h'.get (n + 1) = some ⟨e, true, cs ++ [x]⟩ → (∀ b, b < n → ¬ InBlk v b → h'.get b = h.get b) → Run W n0 (k (.slice (some ⟨n + 1, 0, none⟩) (cs.length + 1) (CAP + (cs.length + 1)))) h' (n + 2) Q) : Run W n0 ((inside (evBuildSlice P t 1 [(0, x)])).bind fun w => (inside (evAppend P t v w)).bind k) h n Q := by
  rcases o with ⟨rfl, rfl⟩ | ⟨b, rfl, hb, h1, h2⟩
  · exact run_push0 c hx k (y _ (get_eq _ _ _) fun b hb _ => by rw [get_ne _ _ (by omega), get_ne _ _ (by omega)])
  · refine run_push c hx hb h2 rfl hm (by omega) (.inl (by omega)) k (y _ (get_eq _ _ _) fun c hc hn => ?_)
    have : c ≠ b := fun e => hn ⟨0, _, _, by rw [e]⟩
    rw [get_ne _ _ (by omega), get_ne _ _ this, get_ne _ _ (by omega)]
theorem Own.mk' {lo b : Nat} {e : TypeId} {cs : List Value} (hg : h.get b = some ⟨e, true, cs⟩) (h1 : lo ≤ b) (h2 : b < n) {l : Nat} (hl : l = cs.length) : Own h lo n e (.slice (some ⟨b, 0, none⟩) l (CAP + l)) cs := .inr ⟨b, by rw [hl], hg, h1, h2⟩

def intsV (k : IntKind) (xs : List Int) : List Value := xs.map (Value.int k)
theorem intsV_len (k : IntKind) (xs : List Int) : (intsV k xs).length = xs.length := by unfold intsV; simp
theorem intsV_at {k : IntKind} {xs : List Int} {i : Nat} (h : i < xs.length) : (intsV k xs)[i]? = some (.int k (xs.getD i 0)) := by
  unfold intsV; simp [h]
theorem intsV_one (k : IntKind) (xs : List Int) : (intsV k xs).all one = true := by
  unfold intsV; simp [one]
/-- a slice value that reads as numbers: empty and nowhere, or somewhere in a block -/
def Row (h : H) (n : Nat) (e : TypeId) (k : IntKind) (v : Value) (xs : List Int) : Prop :=
  (∃ a c, v = .slice a 0 c ∧ (∀ b o, a ≠ some ⟨b, o, none⟩) ∧ xs = []) ∨ ∃ b off cap o cs, v = .slice (some ⟨b, off, none⟩) xs.length cap ∧ h.get b = some ⟨e, o, cs⟩ ∧ b < n ∧ off + xs.length ≤ cs.length ∧ (cs.drop off).take xs.length = intsV k xs ∧ xs.length ≤ cap
theorem Row.keep {e : TypeId} {k : IntKind} {v : Value} {xs : List Int} {h' : H} {n' : Nat} (r : Row h n e k v xs) (hn : n ≤ n') (hk : ∀ b, b < n → h'.get b = h.get b) : Row h' n' e k v xs := by
  rcases r with q | ⟨b, off, cap, o, cs, hv, hg, hb, r⟩
  · exact .inl q
  · exact .inr ⟨b, off, cap, o, cs, hv, (hk b hb).trans hg, by omega, r⟩
theorem Row.keep' {e : TypeId} {k : IntKind} {v : Value} {xs : List Int} {h' : H} {n' : Nat} (r : Row h n e k v xs) (hn : n ≤ n') (hk : ∀ b, InBlk v b → h'.get b = h.get b) : Row h' n' e k v xs := by
  rcases r with q | ⟨b, off, cap, o, cs, hv, hg, hb, r⟩
  · exact .inl q
  · exact .inr ⟨b, off, cap, o, cs, hv, (hk b ⟨_, _, _, hv⟩).trans hg, by omega, r⟩
theorem Row.lt {e : TypeId} {k : IntKind} {v : Value} {xs : List Int} (r : Row h n e k v xs) {b : Nat} (hb : InBlk v b) : b < n := by
  rcases r with ⟨a, c, rfl, hne, _⟩ | ⟨c, off, cap, o, cs, rfl, hg, hbn, _⟩
  · obtain ⟨o, l, k, q⟩ := hb
    cases q
    exact absurd rfl (hne b o)
  · rw [hb.inj]; exact hbn
/-- of a row that is not empty: where it lies, and its cells -/
theorem Row.some {e : TypeId} {k : IntKind} {v : Value} {xs : List Int} (r : Row h n e k v xs) (h0 : 0 < xs.length) : ∃ b off cap o cs, v = .slice (some ⟨b, off, none⟩) xs.length cap ∧ h.get b = some ⟨e, o, cs⟩ ∧ b < n ∧ off + xs.length ≤ cs.length ∧ (cs.drop off).take xs.length = intsV k xs ∧ xs.length ≤ cap ∧ ∀ i, i < xs.length → cs[off + i]? = some (.int k (xs.getD i 0)) := by
  rcases r with ⟨a, c, _, _, rfl⟩ | ⟨b, off, cap, o, cs, hv, hg, hb, hl, ht, hc⟩
  · simp at h0
  · refine ⟨b, off, cap, o, cs, hv, hg, hb, hl, ht, hc, fun i hi => ?_⟩
    have := congrArg (fun z => z[i]?) ht
    simp only [List.getElem?_take, hi, if_true, List.getElem?_drop] at this
    rw [this, intsV_at hi]
theorem Row.len {e : TypeId} {k : IntKind} {v : Value} {xs : List Int} (r : Row h n e k v xs) : ∃ a c, v = .slice a xs.length c := by
  rcases r with ⟨a, c, rfl, _, rfl⟩ | ⟨b, off, cap, o, cs, rfl, _⟩
  · exact ⟨a, c, rfl⟩
  · exact ⟨_, cap, rfl⟩
theorem Own.row {lo : Nat} {e : TypeId} {k : IntKind} {v : Value} {xs : List Int} (o : Own h lo n e v (intsV k xs)) : Row h n e k v xs := by
  rcases o with ⟨rfl, q⟩ | ⟨b, rfl, hg, _, hb⟩
  · exact .inl ⟨none, 0, rfl, fun _ _ q => (nomatch q), by unfold intsV at q; simpa using q⟩
  · rw [intsV_len]
    exact .inr ⟨b, 0, CAP + xs.length, true, _, rfl, hg, hb, by rw [intsV_len]; omega, by rw [List.drop_zero, List.take_of_length_le (by rw [intsV_len]; omega)], by omega⟩
theorem Row.src {e : TypeId} {k : IntKind} {v : Value} {xs : List Int} (r : Row h n e k v xs) (h0 : 0 < xs.length) : Src h n v (intsV k xs) := by
  obtain ⟨b, off, cap, o, cs, hv, hg, hb, hl, ht, hc, _⟩ := r.some h0
  exact ⟨b, off, cap, ⟨e, o, cs⟩, by rw [hv, intsV_len], hg, hb, by rw [intsV_len]; exact hl, by rw [intsV_len]; exact ht⟩
/-- 'xs = append(xs, ys...)' -/
theorem run_appO {P : Program} {t e : TypeId} {z : Value} (c : Cell1 P t e z) {lo : Nat} {v w : Value} {cs : List Value} {k : IntKind} {ys : List Int} {e' : TypeId} (o : Own h lo n e v cs) (r : Row h n e' k w ys) (hm : cs.length + ys.length ≤ 1099511627776) (hlo : n0 ≤ lo) (hln : lo ≤ n) (kk : Value → M β)
    (y : ∀ v' h' n', n ≤ n' → Own h' lo n' e v' (cs ++ intsV k ys) → (∀ b, InBlk v' b → InBlk v b ∨ n ≤ b) → (∀ b, b < n → ¬ InBlk v b → h'.get b = h.get b) → Run W n0 (kk v') h' n' Q) : Run W n0 ((inside (evAppend P t v w)).bind kk) h n Q := by
  by_cases h0 : ys.length = 0
  · have hy : ys = [] := List.length_eq_zero_iff.1 h0
    subst hy
    obtain ⟨a, cp, hw⟩ := r.len
    have hl : lenOf? w = some 0 := by rw [hw]; rfl
    obtain ⟨a', l', c', hv⟩ : ∃ a l c, v = .slice a l c := by
      rcases o with ⟨rfl, _⟩ | ⟨b, rfl, _⟩
      · exact ⟨_, _, _, rfl⟩
      · exact ⟨_, _, _, rfl⟩
    subst hv
    refine app_none (news := []) c hl a' l' c' kk ?_
    exact y _ h n (Nat.le_refl n) (by simpa [intsV] using o) (fun b hb => .inl hb) (fun b _ _ => rfl)
  · have s := r.src (by omega)
    have hl := intsV_len k ys
    rcases o with ⟨rfl, rfl⟩ | ⟨b, rfl, hg, h1, h2⟩
    · refine app_nil c s (by omega) (by rw [hl]; simp at hm; omega) (intsV_one k ys) kk ?_
      refine y _ _ (n + 1) (Nat.le_succ n) (.inr ⟨n, rfl, by rw [get_eq]; simp, hln, Nat.lt_succ_self n⟩) (fun b hb => .inr (by rw [hb.inj]; exact Nat.le_refl n)) (fun b hb _ => get_ne _ _ (by omega))
    · refine app_own c s (by omega) (intsV_one k ys) hg h2 0 cs.length (by omega) (by rw [List.drop_zero, List.take_length]) (by rw [hl]; exact hm) (by omega) (.inl (by omega)) kk ?_
      refine y _ _ (n + 1) (Nat.le_succ n) (.inr ⟨n, by simp, get_eq _ _ _, hln, Nat.lt_succ_self n⟩) (fun c hc => .inr (by rw [hc.inj]; exact Nat.le_refl n)) (fun c hc hn => ?_)
      have : c ≠ b := fun e => hn ⟨0, _, _, by rw [e]⟩
      rw [get_ne _ _ (by omega), get_ne _ _ this]
end

end Go.Proofs.YtdagfcflbphoiaaDoor.Ev
/- From what a part of the second form does to what the call does in a world: arguments that are slices of integers. No program in sight. -/
namespace Go.Proofs.YtdagfcflbphoiaaDoor.Ev
set_option linter.unusedVariables false
set_option linter.unusedSimpArgs false
open Go Go.RowKit

theorem cell_some {w : World} {b off : Nat} {v : Value} (h : w.cell? ⟨b, off, none⟩ = some v) : ∃ cs e fr, w.heap[b]? = some (.cells cs e fr) ∧ cs[off]? = some v := by
  unfold World.cell? at h
  cases ho : w.heap[b]? with
  | none => simp [ho] at h
  | some o =>
    cases o with
    | cells cs e fr => exact ⟨cs, e, fr, rfl, by simpa [ho] using h⟩
    | _ => simp [ho] at h
/-- the memory while the arguments are laid -/
structure Laid (P : Program) (w : World) (m : Mp) (h : H) (n : Nat) : Prop where
  wr : WR P m w.heap.size h w.heap
  gl : Gl P m
  fresh : ∀ b, n ≤ b → m b = none
  own : ∀ b B, h.get b = some B → B.own = false
  glo : P.globals.size ≤ n
/-- one package-level variable, with what its cells hold -/
theorem laid_one {P : Program} {w : World} {g : Nat} (hg : g < P.globals.size) {cs : Array Value} {e e' : TypeId} {fr : Nat × Nat} (hw : w.heap[g]? = some (.cells cs e' fr)) {sz : Nat} (he : size? P e = some sz) {vs : List Value} (hl : vs.length ≤ cs.size) (hv : ∀ (k : Nat) (v : Value), vs[k]? = some v → cs[k]? = some v ∧ scalar v = true) :
    ∃ m, Laid P w m (H.set .nil g (some ⟨e, false, vs⟩)) P.globals.size := by
  have only : ∀ b B, (H.set .nil g (some ⟨e, false, vs⟩)).get b = some B → b = g ∧ B = ⟨e, false, vs⟩ := fun b B hb => by
    by_cases eb : b = g
    · subst eb
      rw [get_eq] at hb
      cases hb
      exact ⟨rfl, rfl⟩
    · rw [get_ne _ _ eb] at hb
      unfold H.get at hb
      rw [Tr.get_nil] at hb
      cases hb
  refine ⟨fun c => if c < P.globals.size then some ⟨c, 0, cs.size, sz, e'⟩ else none, ⟨fun b B hb => ?_, fun b b' B B' d d' hb hb' ho => ?_⟩, fun c hc => ⟨_, if_pos hc, rfl, rfl⟩, fun b hb => if_neg (by omega), fun b B hb => ?_, Nat.le_refl _⟩
  · obtain ⟨rfl, rfl⟩ := only b B hb
    exact ⟨_, cs, fr.1, fr.2, if_pos hg, hw, rfl, by simpa using hl, he, fun q => (by cases q), fun k v hk => ⟨v, by simpa using (hv k v hk).1, VR.self (hv k v hk).2⟩⟩
  · obtain ⟨rfl, _⟩ := only b B hb
    obtain ⟨rfl, _⟩ := only b' B' hb'
    exact fun _ _ _ => rfl
  · obtain ⟨_, rfl⟩ := only b B hb
    rfl
/-- the variable that the known functions read -/
theorem laid_KG {P : Program} {w : World} (hG : GlobAt w) {g : Nat} (hg : g < P.globals.size) {e : TypeId} {sz : Nat} (he : size? P e = some sz) {vs : List Value} (h0 : 0 < vs.length) (hk : ∀ (k : Nat) (v : Value), vs[k]? = some v → (g, k, v) ∈ KG) (hs : vs.all scalar = true) :
    ∃ m, Laid P w m (H.set .nil g (some ⟨e, false, vs⟩)) P.globals.size := by
  have hc : ∀ (k : Nat) (v : Value), vs[k]? = some v → w.cell? ⟨g, k, none⟩ = some v := fun k v h => hG _ (hk k v h)
  obtain ⟨cs, e', fr, hw, _⟩ := cell_some (hc 0 vs[0] (List.getElem?_eq_getElem h0))
  have hc2 : ∀ (k : Nat) (v : Value), vs[k]? = some v → cs[k]? = some v := fun k v h => by
    have := hc k v h
    rwa [cell_eq w _ _ hw] at this
  refine laid_one hg hw he ?_ fun k v h => ⟨hc2 k v h, List.all_eq_true.1 hs v (List.mem_of_getElem? h)⟩
  have := (Array.getElem?_eq_some_iff.1 (hc2 (vs.length - 1) vs[vs.length - 1] (List.getElem?_eq_getElem (by omega)))).1
  omega
/-- a closed call, from a start that is laid -/
theorem closed_laid {P : Program} {bad : List FuncId} (hnm : okNames P = true) (hok : okProg P bad = true) (hmix : P.follows .mixedOrders = true) (hkn : Known P bad) {fuel : Nat} {f : FuncId} {w : World} {m : Mp} {h : H} (x : Laid P w m h P.globals.size) (hr : yieldsTrue (evCall P bad fuel f #[] h P.globals.size) = true) :
    Calls P f #[] w fun e w' => e = .returned (.bool true) ∧ Below w.heap.size w w' := by
  unfold yieldsTrue at hr
  split at hr
  · rename_i o ho
    obtain ⟨v, h1, n1, L⟩ := o
    simp only at hr
    split at hr
    · rename_i b hb
      subst hr
      refine (call_sim hnm hok hmix hkn fuel f #[] h P.globals.size _ h1 n1 L m w #[] ho x.wr (Nat.le_refl w.heap.size) .nil (fun b h1 _ => x.fresh b h1) x.gl).mono ?_
      rintro e w' ⟨m', v', rfl, hp, hv⟩
      refine ⟨?_, hp.below⟩
      cases hv
      rfl
    · cases hr
  · cases hr
theorem laid_call {P : Program} (hnm : okNames P = true) (hok : okProg P KN = true) (hmix : P.follows .mixedOrders = true) (hkn : Known P KN) (hd : okDsts P = true) {w : World} {m : Mp} {h : H} {n : Nat} (x : Laid P w m h n) {gt : Nat → List Nat} {lf d : Nat} {f : FuncId} {args args' : Array Value} (ha : VRs m args.toList args'.toList)
    (r : Run (fun _ => False) n (evCall2 P gt lf d f args) h n fun v _ _ => v = .bool true) : Calls P f args' w fun e w' => e = .returned (.bool true) ∧ Below w.heap.size w w' := by
  obtain ⟨v, h1, n1, L, e1, hn, _, rfl⟩ := r
  obtain ⟨f0, hf0⟩ := call2_ok hd d f args h n _ h1 n1 L e1
  refine (call_sim hnm hok hmix hkn f0 f args h n _ h1 n1 L m w args' (hf0 f0 (Nat.le_refl _)) x.wr (Nat.le_refl _) ha (fun b hb _ => x.fresh b hb) x.gl).mono ?_
  rintro e w' ⟨m', v', rfl, hp, hv⟩
  refine ⟨?_, hp.below⟩
  cases hv
  rfl
end Go.Proofs.YtdagfcflbphoiaaDoor.Ev
/- Elements of three cells: reading one, a variable of one, rows of one's own that grow. No program in sight. -/
namespace Go.Proofs.YtdagfcflbphoiaaDoor.Ev
set_option linter.unusedVariables false
set_option linter.unusedSimpArgs false
open Go

structure Cell3 (P : Program) (t e : TypeId) (z : Value) : Prop where
  und : P.underlying t = some (.slice e)
  info : ∃ i, P.info? e = some i ∧ i.size = 3 ∧ i.bytes ≤ 64
  zero : zero? P e = some z
  zs : z.cells.size = 3
  agg : agg? P e = some true
  fill : ∀ a b c : Value, Instr.fill (fun i => some (i * 3, 3)) (zeros z (1 * 3)) [(0, .agg #[a, b, c])] = some #[a, b, c]
theorem Cell3.size {P : Program} {t e : TypeId} {z : Value} (c : Cell3 P t e z) : size? P e = some 3 := by
  obtain ⟨i, h1, h2, _⟩ := c.info
  unfold size?
  rw [h1]
  simp [h2]
abbrev V3 := Value × Value × Value
def flat3 : List V3 → List Value
  | [] => []
  | t :: l => t.1 :: t.2.1 :: t.2.2 :: flat3 l
def agg3 (t : V3) : Value := .agg #[t.1, t.2.1, t.2.2]
theorem flat3_len : ∀ l : List V3, (flat3 l).length = l.length * 3
  | [] => rfl
  | t :: l => by simp only [flat3, List.length_cons, flat3_len l]; omega
theorem flat3_app : ∀ a b : List V3, flat3 (a ++ b) = flat3 a ++ flat3 b
  | [], b => rfl
  | t :: a, b => by simp only [List.cons_append, flat3, flat3_app a b]
theorem flat3_at : ∀ (l : List V3) (i : Nat) (h : i < l.length), ((flat3 l).drop (i * 3)).take 3 = [l[i].1, l[i].2.1, l[i].2.2]
  | [], i, h => by simp at h
  | t :: l, 0, h => by simp [flat3]
  | t :: l, i + 1, h => by
    have := flat3_at l i (by simpa using h)
    rw [show (i + 1) * 3 = i * 3 + 3 by omega]
    simp only [flat3, List.getElem_cons_succ]
    rw [← this]
    rfl
/-- fit to be cells -/
def One3 (t : V3) : Prop := one t.1 = true ∧ one t.2.1 = true ∧ one t.2.2 = true
section
variable {β : Type} {W : Nat → Prop} {n0 : Nat} {h : H} {n : Nat} {Q : β → H → Nat → Prop} {P : Program} {t e : TypeId} {z : Value}
theorem run_ld3 (c : Cell3 P t e z) {b off : Nat} {B : AB} (hg : h.get b = some B) (hb : b < n) {x : V3} (hv : (B.cells.drop off).take 3 = [x.1, x.2.1, x.2.2]) (k : Value → M β) (y : Run W n0 (k (agg3 x)) h n Q) : Run W n0 ((inside (evLoad P e (.pointer (some ⟨b, off, none⟩)))).bind k) h n Q := by
  have hlen : off + 3 ≤ B.cells.length := by
    have := congrArg List.length hv
    simp only [List.length_take, List.length_drop, List.length_cons, List.length_nil] at this
    omega
  obtain ⟨L, e1, e2⟩ := rdN_run (n := n) hg hb 3 off hlen
  have e : evLoad P e (.pointer (some ⟨b, off, none⟩)) h n = some ⟨agg3 x, h, n, L ++ []⟩ := by
    unfold evLoad
    simp only [c.agg, c.size]
    refine bind_run e1 ?_
    rw [hv]
    rfl
  obtain ⟨L', f1, f2⟩ := inside_ro (W := W) (n0 := n0) e (by simpa using e2)
  exact Run.step f1 (Nat.le_refl _) f2 y
/-- a variable of such a type, and what is put into it -/
theorem run_var3 (c : Cell3 P t e z) (x : V3) (hx : One3 x) (k : Value → M β) (y : ∀ h', h'.get n = some ⟨e, true, [x.1, x.2.1, x.2.2]⟩ → (∀ b, b < n → h'.get b = h.get b) → Run W n0 (k (.pointer (some ⟨n, 0, none⟩))) h' (n + 1) Q) (hn : n0 ≤ n) :
    Run W n0 ((inside (evAlloc P e)).bind fun p => (inside (evStore P e p (agg3 x))).bind fun _ => k p) h n Q := by
  refine run_alloc c.zero _ ?_
  obtain ⟨z0, z1, z2, hz⟩ : ∃ a b d, z.cells.toList = [a, b, d] := by
    have := c.zs
    rw [← Array.length_toList] at this
    match hh : z.cells.toList, this with
    | [a, b, d], _ => exact ⟨a, b, d, rfl⟩
  rw [hz]
  have st : ∀ (j : Nat) (v : Value) (h0 : H) (cs : List Value), h0.get n = some ⟨e, true, cs⟩ → j < cs.length → one v = true → wr n j v h0 (n + 1) = some ⟨(), h0.set n (some ⟨e, true, cs.set j v⟩), n + 1, [⟨false, n, some j⟩, ⟨true, n, some j⟩]⟩ := by
    intro j v h0 cs hg hj hv
    unfold wr
    simp [hg, hj, hv]
  have w0 := st 0 x.1 (h.set n (some ⟨e, true, [z0, z1, z2]⟩)) [z0, z1, z2] (get_eq _ _ _) (by simp) hx.1
  have w1 := st 1 x.2.1 ((h.set n (some ⟨e, true, [z0, z1, z2]⟩)).set n (some ⟨e, true, [x.1, z1, z2]⟩)) [x.1, z1, z2] (get_eq _ _ _) (by simp) hx.2.1
  have w2 := st 2 x.2.2 (((h.set n (some ⟨e, true, [z0, z1, z2]⟩)).set n (some ⟨e, true, [x.1, z1, z2]⟩)).set n (some ⟨e, true, [x.1, x.2.1, z2]⟩)) [x.1, x.2.1, z2] (get_eq _ _ _) (by simp) hx.2.2
  have nil : ∀ h0 : H, wrN n 3 [] h0 (n + 1) = some ⟨(), h0, n + 1, []⟩ := fun _ => rfl
  have c2 := bind_run (f := fun _ => wrN n 3 []) w2 (nil _)
  have c1 := bind_run (f := fun _ => wrN n 2 [x.2.2]) w1 c2
  have c0 := bind_run (f := fun _ => wrN n 1 [x.2.1, x.2.2]) w0 c1
  have ee : ∃ h' L, evStore P e (.pointer (some ⟨n, 0, none⟩)) (agg3 x) (h.set n (some ⟨e, true, [z0, z1, z2]⟩)) (n + 1) = some ⟨undef, h', n + 1, L⟩ ∧ h'.get n = some ⟨e, true, [x.1, x.2.1, x.2.2]⟩ ∧ (∀ b, b < n → h'.get b = h.get b) ∧ ∀ y ∈ L, y.wr = true → y.b = n := by
    have hsz : (agg3 x).cells.size = 3 := rfl
    have cc := bind_run (f := fun _ => M.ret undef) (m := wrN n 0 [x.1, x.2.1, x.2.2]) c0 (L2 := []) (b := undef) (h2 := (((h.set n (some ⟨e, true, [z0, z1, z2]⟩)).set n (some ⟨e, true, [x.1, z1, z2]⟩)).set n (some ⟨e, true, [x.1, x.2.1, z2]⟩)).set n (some ⟨e, true, [x.1, x.2.1, x.2.2]⟩)) (n2 := n + 1) rfl
    have es : evStore P e (.pointer (some ⟨n, 0, none⟩)) (agg3 x) = (wrN n 0 [x.1, x.2.1, x.2.2]).bind fun _ => M.ret undef := by
      unfold evStore
      simp only [c.size, hsz, if_true]
      rfl
    rw [← es] at cc
    refine ⟨_, _, cc, get_eq _ _ _, fun b hb => ?_, ?_⟩
    · rw [get_ne _ _ (by omega), get_ne _ _ (by omega), get_ne _ _ (by omega), get_ne _ _ (by omega)]
    · intro y hy hy2
      simp at hy
      rcases hy with rfl | rfl | rfl | rfl | rfl | rfl <;> rfl
  obtain ⟨h', L, f1, f2, f3, f4⟩ := ee
  refine Run.step (inside_run f1) (Nat.le_refl _) (fun y hy hy2 => .inl ?_) (y h' f2 f3)
  rw [f4 y (List.mem_filter.1 hy).1 hy2]
  exact hn

/-- a row of one's own of such elements, that grows -/
def Own3 (h : H) (lo n : Nat) (e : TypeId) (v : Value) (ts : List V3) : Prop := (v = .slice none 0 0 ∧ ts = []) ∨ ∃ b, v = .slice (some ⟨b, 0, none⟩) ts.length (CAP + ts.length) ∧ h.get b = some ⟨e, true, flat3 ts⟩ ∧ lo ≤ b ∧ b < n
theorem Own3.nil (h : H) (lo n : Nat) (e : TypeId) : Own3 h lo n e (.slice none 0 0) [] := .inl ⟨rfl, rfl⟩
theorem Own3.keep {lo : Nat} {v : Value} {ts : List V3} {h' : H} {n' : Nat} (o : Own3 h lo n e v ts) (hn : n ≤ n') (hk : ∀ b, InBlk v b → h'.get b = h.get b) : Own3 h' lo n' e v ts := by
  rcases o with q | ⟨c, rfl, hc, h1, h2⟩
  · exact .inl q
  · exact .inr ⟨c, rfl, (hk c ⟨_, _, _, rfl⟩).trans hc, h1, by omega⟩
theorem Own3.lt {lo : Nat} {v : Value} {ts : List V3} (o : Own3 h lo n e v ts) {b : Nat} (hb : InBlk v b) : lo ≤ b ∧ b < n := by
  rcases o with ⟨rfl, _⟩ | ⟨c, rfl, _, h1, h2⟩
  · exact hb.not_nil.elim
  · rw [hb.inj]; exact ⟨h1, h2⟩
theorem Own3.low {lo lo' : Nat} {v : Value} {ts : List V3} (o : Own3 h lo n e v ts) (hl : lo' ≤ lo) : Own3 h lo' n e v ts := by
  rcases o with q | ⟨c, hv, hc, h1, h2⟩
  · exact .inl q
  · exact .inr ⟨c, hv, hc, by omega, h2⟩
theorem Own3.len {lo : Nat} {v : Value} {ts : List V3} (o : Own3 h lo n e v ts) : ∃ a c, v = .slice a ts.length c := by
  rcases o with ⟨rfl, rfl⟩ | ⟨b, rfl, _⟩
  · exact ⟨none, 0, rfl⟩
  · exact ⟨_, _, rfl⟩
theorem run_push3 (c : Cell3 P t e z) {x : V3} (hx : One3 x) {lo : Nat} {v : Value} {ts : List V3} (o : Own3 h lo n e v ts) (hm : ts.length + 1 ≤ 1099511627776) (hlo : n0 ≤ lo) (hln : lo ≤ n) (k : Value → M β)
    (y : ∀ v' h', Own3 h' lo (n + 2) e v' (ts ++ [x]) → (∀ b, InBlk v' b → n ≤ b) → (∀ b, b < n → ¬ InBlk v b → h'.get b = h.get b) → Run W n0 (k v') h' (n + 2) Q) : Run W n0 ((inside (evBuildSlice P t 1 [(0, agg3 x)])).bind fun w => (inside (evAppend P t v w)).bind k) h n Q := by
  obtain ⟨i, i1, i2, i3⟩ := c.info
  have lit : evBuildSlice P t 1 [(0, agg3 x)] h n = some ⟨.slice (some ⟨n, 0, none⟩) 1 1, h.set n (some ⟨e, true, [x.1, x.2.1, x.2.2]⟩), n + 1, []⟩ := by
    unfold evBuildSlice
    simp only [c.und, c.size, c.zero]
    rw [if_neg (by simp), if_pos (by simp)]
    have := c.fill x.1 x.2.1 x.2.2
    unfold agg3
    rw [this]
    exact bind_run (newB_run _ _ _ _) rfl
  refine run_new lit (Nat.le_succ n) ?_
  have hgn : (h.set n (some ⟨e, true, [x.1, x.2.1, x.2.2]⟩)).get n = some ⟨e, true, [x.1, x.2.1, x.2.2]⟩ := get_eq _ _ _
  obtain ⟨L, r1, r2⟩ := rdN_run (n := n + 1) hgn (Nat.lt_succ_self n) 3 0 (by simp)
  have r1 : elemsOf 3 1 (.slice (some ⟨n, 0, none⟩) 1 1) (h.set n (some ⟨e, true, [x.1, x.2.1, x.2.2]⟩)) (n + 1) = some ⟨[x.1, x.2.1, x.2.2], h.set n (some ⟨e, true, [x.1, x.2.1, x.2.2]⟩), n + 1, L⟩ := by
    unfold elemsOf
    simpa using r1
  have hone : ([x.1, x.2.1, x.2.2]).all one = true := by simp [hx.1, hx.2.1, hx.2.2]
  rcases o with ⟨rfl, rfl⟩ | ⟨b, rfl, hb, h1, h2⟩
  · have ea : evAppend P t (.slice none 0 0) (.slice (some ⟨n, 0, none⟩) 1 1) (h.set n (some ⟨e, true, [x.1, x.2.1, x.2.2]⟩)) (n + 1) = some ⟨.slice (some ⟨n + 1, 0, none⟩) 1 (CAP + 1), (h.set n (some ⟨e, true, [x.1, x.2.1, x.2.2]⟩)).set (n + 1) (some ⟨e, true, [x.1, x.2.1, x.2.2]⟩), n + 2, L ++ ([] ++ [])⟩ := by
      unfold evAppend
      simp only [c.und, i1, c.zero, lenOf?]
      rw [if_pos (by simp [i2, i3, c.zs]), if_neg (by omega), if_pos (by omega), i2]
      refine bind_run r1 ?_
      rw [if_pos (by rw [hone]; rfl)]
      unfold evNew
      exact bind_run (newB_run _ _ _ _) rfl
    refine Run.step (inside_run ea) (by omega) (fun y hy hy2 => ?_) (y _ _ (.inr ⟨n + 1, rfl, by rw [get_eq]; rfl, by omega, by omega⟩) (fun b hb => by rw [hb.inj]; omega) (fun b hb _ => by rw [get_ne _ _ (by omega), get_ne _ _ (by omega)]))
    have := (List.mem_filter.1 hy).1
    simp at this
    rw [r2 y this] at hy2
    cases hy2
  · have hb' : (h.set n (some ⟨e, true, [x.1, x.2.1, x.2.2]⟩)).get b = some ⟨e, true, flat3 ts⟩ := by rw [get_ne _ _ (by omega)]; exact hb
    have hbn : b < n + 1 := by omega
    obtain ⟨L', s1, s2⟩ := rdN_run (n := n + 1) hb' hbn (ts.length * 3) 0 (by rw [flat3_len]; simp)
    rw [List.drop_zero, List.take_of_length_le (by rw [flat3_len]; exact Nat.le_refl _)] at s1
    have ea : ∃ L1, evAppend P t (.slice (some ⟨b, 0, none⟩) ts.length (CAP + ts.length)) (.slice (some ⟨n, 0, none⟩) 1 1) (h.set n (some ⟨e, true, [x.1, x.2.1, x.2.2]⟩)) (n + 1) = some ⟨.slice (some ⟨n + 1, 0, none⟩) (ts.length + 1) (CAP + (ts.length + 1)), ((h.set n (some ⟨e, true, [x.1, x.2.1, x.2.2]⟩)).set b none).set (n + 1) (some ⟨e, true, flat3 ts ++ [x.1, x.2.1, x.2.2]⟩), n + 2, L1⟩ ∧ ∀ y ∈ L1, y.wr = true → y.b = b := by
      refine ⟨[⟨false, b, some 1099511627776⟩] ++ (L ++ (L' ++ ([⟨false, b, none⟩, ⟨true, b, none⟩] ++ ([] ++ [])))), ?_, ?_⟩
      · unfold evAppend
        simp only [c.und, i1, c.zero, lenOf?]
        rw [if_pos (by simp [i2, i3, c.zs]), if_neg (by omega), if_pos hm, i2]
        refine bind_run (hdr_run hb' hbn) ?_
        simp only [if_true]
        refine bind_run r1 ?_
        rw [if_pos (by rw [hone]; rfl)]
        unfold evAppendTo
        rw [if_neg (by omega)]
        refine bind_run s1 (bind_run (kill_run hb' rfl hbn) ?_)
        unfold evNew
        exact bind_run (newB_run _ _ _ _) rfl
      · intro y hy hy2
        simp only [List.append_nil, List.mem_append, List.mem_cons, List.not_mem_nil, or_false] at hy
        rcases hy with rfl | hy | hy | rfl | rfl
        · cases hy2
        · rw [r2 y hy] at hy2; cases hy2
        · rw [s2 y hy] at hy2; cases hy2
        · cases hy2
        · rfl
    obtain ⟨L1, ea, hL1⟩ := ea
    refine Run.step (inside_run ea) (by omega) (fun y hy hy2 => .inl ?_) (y _ _ (.inr ⟨n + 1, by simp, ?_, by omega, by omega⟩) (fun b hb => by rw [hb.inj]; omega) (fun d hd hn => ?_))
    · rw [hL1 y (List.mem_filter.1 hy).1 hy2]; omega
    · rw [get_eq, flat3_app]
      rfl
    · have : d ≠ b := fun e => hn ⟨0, _, _, by rw [e]⟩
      rw [get_ne _ _ (by omega), get_ne _ _ this, get_ne _ _ (by omega)]
end

end Go.Proofs.YtdagfcflbphoiaaDoor.Ev
/- Arguments of plain data (numbers, texts, truths, slices, structs and arrays of them): how they lie in the world, and how they are laid for the evaluator. No program in sight. -/
namespace Go.Proofs.YtdagfcflbphoiaaDoor.Ev
set_option linter.unusedVariables false
set_option linter.unusedSimpArgs false
open Go Go.RowKit Go.WideShapes Go.ChangeShapes

def All2 {α β : Type} (R : α → β → Prop) : List α → List β → Prop
  | [], [] => True
  | a :: l, b :: m => R a b ∧ All2 R l m
  | _, _ => False
theorem All2.length {α β : Type} {R : α → β → Prop} : ∀ {l : List α} {m : List β}, All2 R l m → l.length = m.length
  | [], [], _ => rfl
  | _ :: _, _ :: _, h => by simp [All2.length h.2]
  | [], _ :: _, h => h.elim
  | _ :: _, [], h => h.elim
theorem All2.imp {α β : Type} {R S : α → β → Prop} : ∀ {l : List α} {m : List β}, (∀ a ∈ l, ∀ b, R a b → S a b) → All2 R l m → All2 S l m
  | [], [], _, _ => trivial
  | a :: _, _ :: _, h, x => ⟨h a (List.mem_cons_self ..) _ x.1, All2.imp (fun a ha => h a (List.mem_cons_of_mem _ ha)) x.2⟩
  | [], _ :: _, _, x => x.elim
  | _ :: _, [], _, x => x.elim
theorem All2.append {α β : Type} {R : α → β → Prop} : ∀ {l l' : List α} {m m' : List β}, All2 R l m → All2 R l' m' → All2 R (l ++ l') (m ++ m')
  | [], _, [], _, _, h => h
  | _ :: _, _, _ :: _, _, x, h => ⟨x.1, All2.append x.2 h⟩
  | [], _, _ :: _, _, x, _ => x.elim
  | _ :: _, _, [], _, x, _ => x.elim

/-- the types of a type's cells, one by one -/
def fieldTs (g : TypeId → Option (List TypeId)) : Nat → List Field → Option (List TypeId)
  | _, [] => some []
  | o, fd :: r => if fd.offset = o then (match g fd.type with
    | some ts => match fieldTs g (o + ts.length) r with
      | some rs => some (ts ++ rs)
      | none => none
    | none => none) else none
def cellTs (P : Program) : Nat → TypeId → Option (List TypeId)
  | 0, _ => none
  | f + 1, t => match P.underlying t with
    | some (.int _) | some .string | some .bool | some (.slice _) => if P.cellsOf t = 1 then some [t] else none
    | some (.struct fs) => match fieldTs (cellTs P f) 0 fs.toList with
      | some ts => if ts.length = P.cellsOf t then some ts else none
      | none => none
    | some (.array n e) => match cellTs P f e with
      | some ts => if n * ts.length = P.cellsOf t ∧ ts.length = P.cellsOf e then some (List.replicate n ts).flatten else none
      | none => none
    | _ => none
theorem fieldTs_some {g : TypeId → Option (List TypeId)} {o : Nat} {fd : Field} {r : List Field} {ts : List TypeId} (h : fieldTs g o (fd :: r) = some ts) : fd.offset = o ∧ ∃ a b, g fd.type = some a ∧ fieldTs g (o + a.length) r = some b ∧ ts = a ++ b := by
  unfold fieldTs at h
  split at h
  · rename_i h0
    split at h
    · rename_i a ha
      split at h
      · rename_i b hb
        cases h
        exact ⟨h0, a, b, ha, hb, rfl⟩
      · cases h
    · cases h
  · cases h
/-- how a value of one cell lies in the world -/
def Rep1 (P : Program) (w : World) : Nat → TypeId → Value → Prop
  | 0, _, _ => False
  | f + 1, t, v => match P.underlying t with
    | some (.int k) => ∃ n, v = .int k n ∧ (Lit.int k n).wf = true
    | some .string => ∃ s : ByteArray, v = .string s ∧ s.size ≤ maxLen
    | some .bool => ∃ b, v = .bool b
    | some (.slice e) => v = .slice none 0 0 ∨ ∃ a len cap ts, v = .slice (some a) len cap ∧ len ≤ cap ∧ cap ≤ maxLen ∧ cellTs P 8 e = some ts ∧ 0 < ts.length ∧ size? P e = some ts.length ∧
        ∀ i, i < cap → ∃ es : List Value, (∀ j u, es[j]? = some u → w.cell? (a.add (i * ts.length + j)) = some u) ∧ All2 (Rep1 P w f) ts es
    | _ => False
/-- types that are served -/
def okT (P : Program) : Nat → TypeId → Bool
  | 0, _ => false
  | f + 1, t => match P.underlying t with
    | some (.int _) | some .string | some .bool => true
    | some (.slice e) => match cellTs P 8 e with
      | some ts => decide (0 < ts.length) && decide (size? P e = some ts.length) && ts.all (okT P f)
      | none => false
    | _ => false
theorem cells?_get {w : World} {b : Nat} {a : Addr} {n : Nat} {es : List Value} (h : w.cells? b a n = some es) : es.length = n ∧ ∀ j u, es[j]? = some u → w.cell? (a.add j) = some u := by
  unfold World.cells? at h
  split at h
  · have hl := mapM_some_length h
    simp only [List.length_range] at hl
    refine ⟨hl, fun j u hj => ?_⟩
    have hjl := (List.getElem?_eq_some_iff.1 hj).1
    have := mapM_some_get h j j (by rw [List.getElem?_range (by omega)])
    rw [this]; exact hj
  · cases h
theorem add_add (a : Addr) (i j : Nat) : (a.add i).add j = a.add (i + j) := by
  unfold Addr.add
  by_cases hj : j = 0
  · subst hj; simp
  · by_cases hi : i = 0
    · subst hi; simp
    · have : ¬ (i + j = 0) := by omega
      simp only [hi, hj, this, if_false]
      congr 1
      omega
section
variable {H0 : Type} {enc : TypeId × Value → H0} {P : Program} {w : World} {held : Bool}
theorem fieldTs_cells {g : TypeId → Option (List TypeId)} {R : TypeId → Value → Prop} {cs : List Value} : ∀ (fs : List Field) (o : Nat) (ts : List TypeId), fieldTs g o fs = some ts → cs.length = o + ts.length →
    (∀ fd ∈ fs, ∀ a, g fd.type = some a → a.length = P.cellsOf fd.type ∧ All2 R a ((cs.drop fd.offset).take (P.cellsOf fd.type))) → All2 R ts (cs.drop o)
  | [], o, ts, h, hl, _ => by
    cases h
    rw [List.drop_eq_nil_of_le (by simp at hl; omega)]
    trivial
  | fd :: r, o, ts, h, hl, hf => by
    obtain ⟨h0, a, b, ha, hb, rfl⟩ := fieldTs_some h
    obtain ⟨hal, h2⟩ := hf fd (List.mem_cons_self ..) a ha
    have := fieldTs_cells r (o + a.length) b hb (by simp at hl; omega) fun fd hfd => hf fd (List.mem_cons_of_mem _ hfd)
    rw [h0, ← hal] at h2
    have e : cs.drop o = (cs.drop o).take a.length ++ cs.drop (o + a.length) := by rw [← List.drop_drop, List.take_append_drop]
    rw [e]
    exact h2.append this
theorem rep_cells {R : TypeId → Value → Prop} : ∀ (f : Nat) (t : TypeId) (cs : List Value) (ts : List TypeId) (m : Nat) (x : DataW H0 × List MemPlace), cellTs P f t = some ts →
    (∀ t' ∈ ts, ∀ v m x, DataW.trod enc P w 0 (fun _ => true) held m t' [v] = some x → R t' v) → DataW.trod enc P w 0 (fun _ => true) held m t cs = some x → ts.length = P.cellsOf t ∧ All2 R ts cs := by
  intro f
  induction f with
  | zero => intro t cs ts m x h; cases h
  | succ f ih =>
    intro t cs ts m x h hR hx
    unfold cellTs at h
    have one : ∀ v, cs = [v] → (if P.cellsOf t = 1 then some [t] else none) = some ts → ts.length = P.cellsOf t ∧ All2 R ts cs := by
      intro v hv hq
      subst hv
      by_cases hc : P.cellsOf t = 1
      · rw [if_pos hc] at hq
        cases hq
        exact ⟨hc.symm, hR t (List.mem_cons_self ..) v m x hx, trivial⟩
      · rw [if_neg hc] at hq; cases hq
    split at h
    · rename_i k hk
      obtain ⟨n, rfl, _⟩ := DataW.trod_int hk hx
      exact one _ rfl h
    · rename_i hk
      obtain ⟨n, rfl, _⟩ := DataW.trod_string hk hx
      exact one _ rfl h
    · rename_i hk
      obtain ⟨n, rfl, _⟩ := DataW.trod_bool hk hx
      exact one _ rfl h
    · rename_i e hk
      rcases DataW.trod_slice hk hx with ⟨rfl, _⟩ | ⟨a, len, cap, elems, rest, n, _, rfl, _⟩
      · exact one _ rfl h
      · exact one _ rfl h
    · rename_i fs hk
      split at h
      · rename_i ts' hts
        split at h
        · rename_i hlen
          cases h
          obtain ⟨xs, n, rfl, _, hcl, _, hall⟩ := DataW.trod_struct hk hx
          refine ⟨hlen, ?_⟩
          have := fieldTs_cells (P := P) (R := R) (cs := cs) fs.toList 0 ts hts (by omega) fun fd hfd a ha => ?_
          · simpa using this
          · obtain ⟨i, hi⟩ := List.mem_iff_getElem?.1 hfd
            have hi' : fs[i]? = some fd := by simpa using hi
            have hx2 := hall i fd hi'
            cases hxi : xs[i]? with
            | none => exact absurd hx2 (by
                rw [hxi]
                have := (Array.getElem?_eq_some_iff.1 hi').1
                have h3 : xs[i]? = none := hxi
                rw [List.getElem?_eq_none_iff] at h3
                omega)
            | some y =>
              rw [hxi] at hx2
              exact ih fd.type _ a n y ha (fun t' ht' => hR t' (by
                have : ∀ (l : List Field) (o : Nat) (ts : List TypeId), fieldTs (cellTs P f) o l = some ts → fd ∈ l → ∀ q ∈ a, q ∈ ts := by
                  intro l
                  induction l with
                  | nil => intro o ts _ hm; simp at hm
                  | cons g r ih2 =>
                    intro o ts hh hm q hq
                    obtain ⟨_, a2, b2, e1, e2, rfl⟩ := fieldTs_some hh
                    rcases List.mem_cons.1 hm with rfl | hm
                    · rw [ha] at e1; cases e1
                      exact List.mem_append.2 (.inl hq)
                    · exact List.mem_append.2 (.inr (ih2 _ _ e2 hm q hq))
                exact this fs.toList 0 ts hts hfd t' ht')) hx2
        · cases h
      · cases h
    · rename_i n e hk
      split at h
      · rename_i ts' hts
        split at h
        · rename_i hlen
          obtain ⟨hlen, hle⟩ := hlen
          obtain ⟨xs, m', rfl, _, hcl, hxn, hall⟩ := DataW.trod_array hk hx
          have hR' : n = 0 ∨ ∀ t' ∈ ts', t' ∈ ts := by
            rcases Nat.eq_zero_or_pos n with q | q
            · exact .inl q
            · refine .inr fun t' ht' => ?_
              cases h
              rw [List.mem_flatten]
              exact ⟨ts', List.mem_replicate.2 ⟨by omega, rfl⟩, ht'⟩
          have key : ∀ k, k ≤ n → All2 R (List.replicate k ts').flatten (cs.take (k * ts'.length)) := by
            intro k
            induction k with
            | zero => intro _; simp [All2]
            | succ k ihk =>
              intro hkn
              have h1 := ihk (by omega)
              have hx2 := hall k (by omega)
              cases hxi : xs[k]? with
              | none => rw [List.getElem?_eq_none_iff] at hxi; omega
              | some y =>
                rw [hxi] at hx2
                obtain ⟨h3, h4⟩ := ih e _ ts' m' y hts (fun t' ht' => hR t' (by
                  rcases hR' with q | q
                  · omega
                  · exact q t' ht')) hx2
                rw [← h3] at h4
                rw [List.replicate_succ', List.flatten_append, List.flatten_singleton]
                have e1 : cs.take ((k + 1) * ts'.length) = cs.take (k * ts'.length) ++ (cs.drop (k * ts'.length)).take ts'.length := by
                  rw [Nat.succ_mul, List.take_add]
                rw [e1]
                exact h1.append h4
          cases h
          refine ⟨?_, ?_⟩
          · rw [← hlen]; simp
          · have := key n (Nat.le_refl n)
            rwa [List.take_of_length_le (by omega)] at this
        · cases h
      · cases h
    · cases h
theorem rep1_of {f : Nat} : ∀ (t : TypeId) (v : Value) (m : Nat) (x : DataW H0 × List MemPlace), okT P f t = true → DataW.trod enc P w 0 (fun _ => true) held m t [v] = some x → Rep1 P w f t v := by
  induction f with
  | zero => intro t v m x h; cases h
  | succ f ih =>
    intro t v m x h hx
    unfold okT at h
    unfold Rep1
    split at h
    · rename_i k hk
      obtain ⟨n, e, _, hw⟩ := DataW.trod_int hk hx
      simp at e
      exact ⟨n, e, hw⟩
    · rename_i hk
      obtain ⟨s, e, _, hw⟩ := DataW.trod_string hk hx
      simp at e
      exact ⟨s, e, hw⟩
    · rename_i hk
      obtain ⟨b, e, _⟩ := DataW.trod_bool hk hx
      simp at e
      exact ⟨b, e⟩
    · rename_i e hk
      split at h
      · rename_i ts hts
        simp only [Bool.and_eq_true, decide_eq_true_eq, List.all_eq_true] at h
        obtain ⟨⟨h0, h1⟩, h2⟩ := h
        have hc : P.cellsOf e = ts.length := by
          unfold size? at h1
          unfold Program.cellsOf
          rw [h1]; rfl
        rcases DataW.trod_slice hk hx with ⟨hv, _⟩ | ⟨a, len, cap, elems, rest, n, _, hv, _, _, hl, hm, hlen, hel, hsp, _⟩
        · simp at hv
          exact .inl hv
        · simp at hv
          obtain ⟨hr, hrest⟩ := hsp rfl
          refine .inr ⟨a, len, cap, ts, hv, hl, hm, hts, h0, h1, fun i hi => ?_⟩
          have get : ∃ y, (w.cells? 0 (a.add (i * P.cellsOf e)) (P.cellsOf e)).bind (DataW.trod enc P w 0 (fun _ => true) held n e) = some y := by
            by_cases hil : i < len
            · rw [hel i hil]
              exact ⟨_, List.getElem?_eq_getElem (by omega)⟩
            · have := hrest (i - len) (by omega)
              rw [show len + (i - len) = i by omega] at this
              rw [this]
              exact ⟨_, List.getElem?_eq_getElem (by omega)⟩
          obtain ⟨y, hy⟩ := get
          rw [Option.bind_eq_some_iff] at hy
          obtain ⟨es, hes, hy⟩ := hy
          obtain ⟨_, hcell⟩ := cells?_get hes
          refine ⟨es, fun j u hj => ?_, (rep_cells 8 e es ts n y hts (fun t' ht' v m x hx => ih t' v m x (h2 t' ht') hx) hy).2⟩
          have := hcell j u hj
          rwa [add_add, hc] at this
      · cases h
    · cases h
end

def RepH1 (P : Program) (h : H) (n : Nat) : Nat → TypeId → Value → Prop
  | 0, _, _ => False
  | f + 1, t, v => match P.underlying t with
    | some (.int k) => ∃ n, v = .int k n ∧ (Lit.int k n).wf = true
    | some .string => ∃ s : ByteArray, v = .string s ∧ s.size ≤ maxLen
    | some .bool => ∃ b, v = .bool b
    | some (.slice e) => (∃ a, v = .slice a 0 0 ∧ ∀ b o, a ≠ some ⟨b, o, none⟩) ∨ ∃ b len ts cs, v = .slice (some ⟨b, 0, none⟩) len (CAP + len) ∧ cellTs P 8 e = some ts ∧ 0 < ts.length ∧ h.get b = some ⟨e, false, cs⟩ ∧ b < n ∧ cs.length = len * ts.length ∧ len ≤ maxLen ∧
        ∀ i, i < len → All2 (RepH1 P h n f) ts ((cs.drop (i * ts.length)).take ts.length)
    | _ => False
theorem RepH1.keep {P : Program} {h h' : H} {n n' : Nat} (hn : n ≤ n') (hk : ∀ b, b < n → h'.get b = h.get b) : ∀ {f : Nat} {t : TypeId} {v : Value}, RepH1 P h n f t v → RepH1 P h' n' f t v := by
  intro f
  induction f with
  | zero => intro t v x; exact x
  | succ f ih =>
    intro t v x
    unfold RepH1 at x ⊢
    split at x
    · exact x
    · exact x
    · exact x
    · rcases x with q | ⟨b, len, ts, cs, hv, ht, h0, hg, hb, hl, hm, hall⟩
      · exact .inl q
      · exact .inr ⟨b, len, ts, cs, hv, ht, h0, (hk b hb).trans hg, by omega, hl, hm, fun i hi => (hall i hi).imp fun _ _ _ q => ih q⟩
    · exact x
/-- a block that is read, of cells that the world holds -/
theorem laid_block {P : Program} {w : World} {m : Mp} {h : H} {n : Nat} (x : Laid P w m h n) {b off len cap : Nat} {cs : Array Value} {e' : TypeId} {fr : Nat × Nat} (hg : w.heap[b]? = some (.cells cs e' fr)) {e : TypeId} {sz : Nat} (he : size? P e = some sz) {vs vs' : List Value} (hv : VRs m vs vs')
    (hat : ∀ i v, vs'[i]? = some v → cs[off + i]? = some v) (hlen : vs.length = len * sz) (hl : len ≤ cap) (hc : off + cap * sz ≤ cs.size) :
    ∃ m', Laid P w m' (h.set n (some ⟨e, false, vs⟩)) (n + 1) ∧ VR m' (.slice (some ⟨n, 0, none⟩) len (CAP + len)) (.slice (some ⟨b, off, none⟩) len cap) ∧ Le m m' := by
  let m' : Mp := fun c => if c = n then some ⟨b, off, cs.size, sz, e'⟩ else m c
  have hle : Le m m' := fun c d hd => by
    by_cases ec : c = n
    · subst ec; rw [x.fresh c (Nat.le_refl c)] at hd; cases hd
    · show (if c = n then _ else _) = _; rw [if_neg ec]; exact hd
  let h' : H := h.set n (some ⟨e, false, vs⟩)
  have hn : m' n = some ⟨b, off, cs.size, sz, e'⟩ := if_pos rfl
  have hgn : h'.get n = some ⟨e, false, vs⟩ := get_eq _ _ _
  have hmul : len * sz ≤ cap * sz := Nat.mul_le_mul_right _ hl
  have hown : ∀ c C, h'.get c = some C → C.own = false := fun c C hcC => by
    by_cases ec : c = n
    · subst ec; rw [hgn] at hcC; cases hcC; rfl
    · rw [get_ne _ _ ec] at hcC; exact x.own c C hcC
  refine ⟨m', ⟨⟨?_, ?_⟩, x.gl.mono hle, fun c hc => ?_, hown, by have := x.glo; omega⟩, .slc hn (fun _ => rfl) (fun q => by unfold CAP at q; omega) (fun _ => ⟨Nat.le_refl _, by omega⟩) hl hc, hle⟩
  · intro c C hcC
    by_cases ec : c = n
    · subst ec
      rw [hgn] at hcC
      cases hcC
      refine ⟨_, cs, fr.1, fr.2, hn, hg, rfl, by show off + vs.length ≤ cs.size; omega, he, fun q => (by cases q), fun k u hu => ?_⟩
      obtain ⟨u', hu', hr⟩ := hv.get k u hu
      exact ⟨u', hat k u' hu', hr.mono hle⟩
    · rw [get_ne _ _ ec] at hcC
      obtain ⟨d, cs2, lo, hi, hm, hg2, h1, h2, h3, h4, h5⟩ := x.wr.live c C hcC
      refine ⟨d, cs2, lo, hi, hle _ _ hm, hg2, h1, h2, h3, h4, fun k u hu => ?_⟩
      obtain ⟨u', hu', hr⟩ := h5 k u hu
      exact ⟨u', hu', hr.mono hle⟩
  · intro c c' C C' d d' hcC hcC' ho
    rw [hown c C hcC, hown c' C' hcC'] at ho
    simp at ho
  · show (if c = n then _ else _) = none
    rw [if_neg (by omega)]
    exact x.fresh c (by omega)
def LayOk (P : Program) (w : World) (R : TypeId → Value → Prop) (S : H → Nat → TypeId → Value → Prop) : Prop := ∀ t v, R t v → ∀ m h n, Laid P w m h n → ∃ m' h' n' v0, Laid P w m' h' n' ∧ VR m' v0 v ∧ S h' n' t v0 ∧ Le m m' ∧ n ≤ n' ∧ ∀ b, b < n → h'.get b = h.get b
theorem VRs.mono' {m m' : Mp} (hl : Le m m') {l l' : List Value} (h : VRs m l l') : VRs m' l l' := VRs.mono hl h
theorem lay_list {P : Program} {w : World} {R : TypeId → Value → Prop} {S : H → Nat → TypeId → Value → Prop} (hk : ∀ (h h' : H) (n n' : Nat), n ≤ n' → (∀ b, b < n → h'.get b = h.get b) → ∀ t v, S h n t v → S h' n' t v) (ok : LayOk P w R S) :
    ∀ (ts : List TypeId) (vs : List Value), All2 R ts vs → ∀ m h n, Laid P w m h n → ∃ m' h' n' vs0, Laid P w m' h' n' ∧ VRs m' vs0 vs ∧ All2 (S h' n') ts vs0 ∧ Le m m' ∧ n ≤ n' ∧ ∀ b, b < n → h'.get b = h.get b
  | [], [], _, m, h, n, x => ⟨m, h, n, [], x, .nil, trivial, Le.refl _, Nat.le_refl _, fun _ _ => rfl⟩
  | t :: ts, v :: vs, hr, m, h, n, x => by
    obtain ⟨m1, h1, n1, v0, x1, hv, hs, l1, g1, k1⟩ := ok t v hr.1 m h n x
    obtain ⟨m2, h2, n2, vs0, x2, hvs, hss, l2, g2, k2⟩ := lay_list hk ok ts vs hr.2 m1 h1 n1 x1
    exact ⟨m2, h2, n2, v0 :: vs0, x2, .cons (hv.mono l2) hvs, ⟨hk _ _ _ _ g2 k2 _ _ hs, hss⟩, l1.trans l2, by omega, fun b hb => (k2 b (by omega)).trans (k1 b hb)⟩
  | [], _ :: _, hr, _, _, _, _ => hr.elim
  | _ :: _, [], hr, _, _, _, _ => hr.elim
theorem drop_take_append {α : Type} {l r : List α} {k c : Nat} (h : k + c ≤ l.length) : ((l ++ r).drop k).take c = (l.drop k).take c := by
  rw [List.drop_append_of_le_length (by omega), List.take_append_of_le_length (by simp; omega)]
theorem lay_elems {P : Program} {w : World} {R : TypeId → Value → Prop} {S : H → Nat → TypeId → Value → Prop} (hk : ∀ (h h' : H) (n n' : Nat), n ≤ n' → (∀ b, b < n → h'.get b = h.get b) → ∀ t v, S h n t v → S h' n' t v) (ok : LayOk P w R S) {ts : List TypeId} {a : Addr} :
    ∀ (len : Nat), (∀ i, i < len → ∃ es : List Value, (∀ j u, es[j]? = some u → w.cell? (a.add (i * ts.length + j)) = some u) ∧ All2 R ts es) → ∀ m h n, Laid P w m h n →
      ∃ m' h' n' vs0 vs, Laid P w m' h' n' ∧ VRs m' vs0 vs ∧ vs.length = len * ts.length ∧ (∀ i u, vs[i]? = some u → w.cell? (a.add i) = some u) ∧ (∀ i, i < len → All2 (S h' n') ts ((vs0.drop (i * ts.length)).take ts.length)) ∧ Le m m' ∧ n ≤ n' ∧ ∀ b, b < n → h'.get b = h.get b := by
  intro len
  induction len with
  | zero => intro _ m h n x; exact ⟨m, h, n, [], [], x, .nil, by simp, fun i u hu => by simp at hu, fun i hi => by omega, Le.refl _, Nat.le_refl _, fun _ _ => rfl⟩
  | succ len ih =>
    intro hel m h n x
    obtain ⟨m1, h1, n1, vs0, vs, x1, hv, hl, hc, hs, l1, g1, k1⟩ := ih (fun i hi => hel i (by omega)) m h n x
    obtain ⟨es, he1, he2⟩ := hel len (by omega)
    obtain ⟨m2, h2, n2, es0, x2, hv2, hs2, l2, g2, k2⟩ := lay_list hk ok ts es he2 m1 h1 n1 x1
    have hl0 : vs0.length = len * ts.length := by rw [hv.length, hl]
    have hel0 : es0.length = ts.length := hs2.length.symm
    have hel1 : es.length = ts.length := he2.length.symm
    refine ⟨m2, h2, n2, vs0 ++ es0, vs ++ es, x2, (hv.mono' l2).append hv2, by rw [List.length_append, hl, hel1, Nat.succ_mul], fun i u hu => ?_, fun i hi => ?_, l1.trans l2, by omega, fun b hb => (k2 b (by omega)).trans (k1 b hb)⟩
    · by_cases hi : i < vs.length
      · rw [List.getElem?_append_left hi] at hu
        exact hc i u hu
      · rw [List.getElem?_append_right (by omega)] at hu
        have := he1 _ u hu
        rwa [show len * ts.length + (i - vs.length) = i by omega] at this
    · by_cases hil : i < len
      · have hle : i * ts.length + ts.length ≤ vs0.length := by
          rw [hl0, ← Nat.succ_mul]; exact Nat.mul_le_mul_right _ hil
        rw [drop_take_append hle]
        exact (hs i hil).imp fun _ _ _ q => hk _ _ _ _ g2 k2 _ _ q
      · obtain rfl : i = len := by omega
        rw [← hl0, List.drop_left, ← hel0, List.take_length]
        exact hs2
theorem lay1 {P : Program} {w : World} : ∀ (f : Nat), LayOk P w (Rep1 P w f) (fun h n => RepH1 P h n f) := by
  intro f
  induction f with
  | zero => intro t v hr; exact hr.elim
  | succ f ih =>
    intro t v hr m h n x
    unfold Rep1 at hr
    have same : ∀ v0, VR m v0 v → RepH1 P h n (f + 1) t v0 → ∃ m' h' n' v0, Laid P w m' h' n' ∧ VR m' v0 v ∧ RepH1 P h' n' (f + 1) t v0 ∧ Le m m' ∧ n ≤ n' ∧ ∀ b, b < n → h'.get b = h.get b :=
      fun v0 h1 h2 => ⟨m, h, n, v0, x, h1, h2, Le.refl _, Nat.le_refl _, fun _ _ => rfl⟩
    split at hr
    · rename_i k hk
      obtain ⟨z, rfl, hw⟩ := hr
      exact same _ (.int k z) (by unfold RepH1; rw [hk]; exact ⟨z, rfl, hw⟩)
    · rename_i hk
      obtain ⟨z, rfl, hw⟩ := hr
      exact same _ (.string z) (by unfold RepH1; rw [hk]; exact ⟨z, rfl, hw⟩)
    · rename_i hk
      obtain ⟨z, rfl⟩ := hr
      exact same _ (.bool z) (by unfold RepH1; rw [hk]; exact ⟨z, rfl⟩)
    · rename_i e hk
      rcases hr with rfl | ⟨a, len, cap, ts, rfl, hl, hm, hts, h0, hsz, hel⟩
      · exact same _ (.snil 0 0 ⟨Nat.le_refl _, by unfold CAP; omega⟩) (by unfold RepH1; rw [hk]; exact .inl ⟨none, rfl, fun _ _ => by simp⟩)
      · by_cases hc0 : cap = 0
        · obtain rfl : len = 0 := by omega
          subst hc0
          exact same (.slice (some ⟨0, 0, some 0⟩) 0 0) (.semp 0 0 0 a) (by unfold RepH1; rw [hk]; exact .inl ⟨_, rfl, fun b o q => by simp at q⟩)
        · have first : ∃ b off, a = ⟨b, off, none⟩ ∧ ∃ cs e' fr, w.heap[b]? = some (.cells cs e' fr) ∧ off + cap * ts.length ≤ cs.size := by
            obtain ⟨es, he1, he2⟩ := hel (cap - 1) (by omega)
            obtain ⟨es', he1', he2'⟩ := hel 0 (by omega)
            have hl1 := he2.length
            have hl2 := he2'.length
            have c0 := he1' 0 es'[0] (by simp)
            obtain ⟨b, off, spot⟩ := a
            have hspot : spot = none := by simpa [Addr.add] using World.cell?_spot c0
            subst hspot
            obtain ⟨cs, e', fr, hg, _⟩ := cell_some (by rw [add0] at c0; exact c0)
            refine ⟨b, off, rfl, cs, e', fr, hg, ?_⟩
            have cl := he1 (ts.length - 1) es[ts.length - 1] (List.getElem?_eq_getElem (by omega))
            rw [add0, cell_eq w _ _ hg] at cl
            have hlt := (Array.getElem?_eq_some_iff.1 cl).1
            have hmul : (cap - 1) * ts.length + ts.length = cap * ts.length := by
              rw [← Nat.succ_mul]; congr 1; omega
            omega
          obtain ⟨b, off, rfl, cs, e', fr, hg, hfit⟩ := first
          obtain ⟨m1, h1, n1, vs0, vs, x1, hv, hvl, hcell, hs, l1, g1, k1⟩ := lay_elems (S := fun h n => RepH1 P h n f) (fun _ _ _ _ hn hk _ _ q => RepH1.keep hn hk q) ih len (fun i hi => hel i (by omega)) m h n x
          obtain ⟨m2, x2, hv2, l2⟩ := laid_block (len := len) (cap := cap) (off := off) x1 hg hsz hv (fun i u hu => by
            have := hcell i u hu
            rwa [add0, cell_eq w _ _ hg] at this) (by rw [hv.length, hvl]) hl hfit
          have kk : ∀ c, c < n1 → (h1.set n1 (some ⟨e, false, vs0⟩)).get c = h1.get c := fun c hc => get_ne _ _ (by omega)
          refine ⟨m2, _, n1 + 1, _, x2, hv2, ?_, l1.trans l2, by omega, fun c hc => (kk c (by omega)).trans (k1 c hc)⟩
          show RepH1 P _ (n1 + 1) (f + 1) t _
          unfold RepH1
          rw [hk]
          refine .inr ⟨n1, len, ts, vs0, rfl, hts, h0, get_eq _ _ _, Nat.lt_succ_self n1, by rw [hv.length, hvl], by omega, fun i hi => (hs i hi).imp fun _ _ _ q => RepH1.keep (Nat.le_succ n1) kk q⟩
    · exact hr.elim

def isAggT (P : Program) (t : TypeId) : Bool := match P.underlying t with
  | some (.struct _) | some (.array _ _) => true
  | _ => false
/-- an argument -/
def ArgR (P : Program) (w : World) (t : TypeId) (v : Value) : Prop := ∃ ts, cellTs P 8 t = some ts ∧ All2 (Rep1 P w 8) ts v.cells.toList ∧ (isAggT P t = true → ∃ cs, v = .agg cs) ∧ (isAggT P t = false → v.cells = #[v])
def ArgH (P : Program) (h : H) (n : Nat) (t : TypeId) (v : Value) : Prop := ∃ ts, cellTs P 8 t = some ts ∧ ((isAggT P t = true ∧ ∃ cs, v = .agg cs ∧ All2 (RepH1 P h n 8) ts cs.toList) ∨ (isAggT P t = false ∧ All2 (RepH1 P h n 8) ts [v]))
def okA (P : Program) (t : TypeId) : Bool := match cellTs P 8 t with
  | some ts => ts.all (okT P 8)
  | none => false
theorem argR_of {H0 : Type} {enc : TypeId × Value → H0} {P : Program} {w : World} {held : Bool} {r : Reach} {b0 : Nat} {t : TypeId} {v : Value} {d : DataW H0} {p : List MemPlace} (ho : okA P t = true) (hv : Value.okWide P w r b0 t v) (h : DataW.Trod enc P w 0 (fun _ => true) held t v d p) : ArgR P w t v := by
  unfold okA at ho
  split at ho
  · rename_i ts hts
    rw [List.all_eq_true] at ho
    obtain ⟨m, hm⟩ := h
    have hc := rep_cells (R := Rep1 P w 8) 8 t v.cells.toList ts m _ hts (fun t' ht' u m x hx => rep1_of t' u m x (ho t' ht') hx) hm
    refine ⟨ts, hts, hc.2, fun ha => ?_, fun ha => ?_⟩
    · unfold isAggT at ha
      split at ha
      · rename_i fs hk
        obtain ⟨cs, e, _⟩ := okWide_struct hk hv
        exact ⟨cs, e⟩
      · rename_i q e hk
        simp only [Value.okWide, hk] at hv
        obtain ⟨cs, e, _⟩ := hv
        exact ⟨cs, e⟩
      · cases ha
    · have hcell : P.cellsOf t = 1 ∨ True := .inr trivial
      unfold cellTs at hts
      unfold isAggT at ha
      split at hts
      · rename_i k hk
        obtain ⟨n, e⟩ := okWide_int hk hv
        rw [e]; rfl
      · rename_i hk
        obtain ⟨n, e⟩ := okWide_string hk hv
        rw [e]; rfl
      · rename_i hk
        obtain ⟨n, e⟩ := okWide_bool hk hv
        rw [e]; rfl
      · rename_i e hk
        obtain ⟨a, l, c, e⟩ := okWide_slice hk hv
        rw [e]; rfl
      · rename_i fs hk
        rw [hk] at ha
        cases ha
      · rename_i q e hk
        rw [hk] at ha
        cases ha
      · cases hts
  · cases ho
theorem lay_arg {P : Program} {w : World} : LayOk P w (ArgR P w) (ArgH P) := by
  intro t v hr m h n x
  obtain ⟨ts, hts, hall, ha, hb⟩ := hr
  obtain ⟨m1, h1, n1, vs0, x1, hv, hs, l1, g1, k1⟩ := lay_list (S := fun h n => RepH1 P h n 8) (fun _ _ _ _ hn hk _ _ q => RepH1.keep hn hk q) (lay1 8) ts _ hall m h n x
  cases hg : isAggT P t with
  | true =>
    obtain ⟨cs, rfl⟩ := ha hg
    exact ⟨m1, h1, n1, .agg vs0.toArray, x1, .agg hv, ⟨ts, hts, .inl ⟨hg, vs0.toArray, rfl, hs⟩⟩, l1, g1, k1⟩
  | false =>
    have hc := hb hg
    rw [hc] at hv
    cases hv with
    | cons hv ht =>
      cases ht
      exact ⟨m1, h1, n1, _, x1, hv, ⟨ts, hts, .inr ⟨hg, hs⟩⟩, l1, g1, k1⟩
theorem ArgH.keep {P : Program} {h h' : H} {n n' : Nat} (hn : n ≤ n') (hk : ∀ b, b < n → h'.get b = h.get b) {t : TypeId} {v : Value} (x : ArgH P h n t v) : ArgH P h' n' t v := by
  obtain ⟨ts, hts, q⟩ := x
  rcases q with ⟨h1, cs, h2, h3⟩ | ⟨h1, h2⟩
  · exact ⟨ts, hts, .inl ⟨h1, cs, h2, h3.imp fun _ _ _ q => RepH1.keep hn hk q⟩⟩
  · exact ⟨ts, hts, .inr ⟨h1, h2.imp fun _ _ _ q => RepH1.keep hn hk q⟩⟩
/-- a statement of plain arguments, from a start that is laid -/
theorem law_of {P : Program} (hnm : okNames P = true) (hok : okProg P KN = true) (hmix : P.follows .mixedOrders = true) (hkn : Known P KN) (hd : okDsts P = true) {w : World} {gt : Nat → List Nat} {lf d : Nat} {f : FuncId} {ts : List TypeId} {vs : List Value} (ha : All2 (ArgR P w) ts vs) {m0 : Mp} {h0 : H} (x0 : Laid P w m0 h0 P.globals.size)
    (r : ∀ n h vs0, P.globals.size ≤ n → (∀ b, b < P.globals.size → h.get b = h0.get b) → All2 (ArgH P h n) ts vs0 → Run (fun _ => False) n (evCall2 P gt lf d f vs0.toArray) h n fun v _ _ => v = .bool true) : Calls P f vs.toArray w fun e w' => e = .returned (.bool true) ∧ Below w.heap.size w w' := by
  obtain ⟨m1, h1, n1, vs0, x1, hv, hs, _, g1, k1⟩ := lay_list (S := ArgH P) (fun _ _ _ _ hn hk _ _ q => ArgH.keep hn hk q) lay_arg ts vs ha m0 h0 _ x0
  exact laid_call hnm hok hmix hkn hd x1 hv (r n1 h1 vs0 g1 k1 hs)

end Go.Proofs.YtdagfcflbphoiaaDoor.Ev
/- Texts in the second form: a text is the list of its bytes. No program in sight. -/
namespace Go.Proofs.YtdagfcflbphoiaaDoor.Ev
set_option linter.unusedVariables false
set_option linter.unusedSimpArgs false
open Go Go.RowKit

section
variable {P : Program} {t : TypeId}
end
section
variable {P : Program} {t : TypeId} {β : Type}
end

end Go.Proofs.YtdagfcflbphoiaaDoor.Ev
/- The rules that every step by simp takes, as two facts. No program in sight. -/
namespace Go.Proofs.YtdagfcflbphoiaaDoor.Ev
set_option linter.unusedVariables false
set_option linter.unusedSimpArgs false
open Go
theorem RXA : type_of% (And.intro @optK_some_eq (And.intro @nil2_ptr (And.intro @ifV_true (And.intro @ifV_false (And.intro @run_if (And.intro @run_out0 (And.intro @run_out1 (And.intro @run_out2 (And.intro @run_out3 (And.intro @optG_some (And.intro @one_int (And.intro @one_bool (And.intro @one_string (And.intro @one_slice (And.intro @one_ptr (And.intro @min2_eq (And.intro @max2_eq (And.intro @pick2_eq (And.intro @u_not (And.intro @u_neg (And.intro @cells_agg (And.intro @inside_ret (And.intro @chk_true (And.intro @get_eq (@get_ne))))))))))))))))))))))))) := And.intro @optK_some_eq (And.intro @nil2_ptr (And.intro @ifV_true (And.intro @ifV_false (And.intro @run_if (And.intro @run_out0 (And.intro @run_out1 (And.intro @run_out2 (And.intro @run_out3 (And.intro @optG_some (And.intro @one_int (And.intro @one_bool (And.intro @one_string (And.intro @one_slice (And.intro @one_ptr (And.intro @min2_eq (And.intro @max2_eq (And.intro @pick2_eq (And.intro @u_not (And.intro @u_neg (And.intro @cells_agg (And.intro @inside_ret (And.intro @chk_true (And.intro @get_eq (@get_ne))))))))))))))))))))))))
theorem RXB : type_of% (And.intro @List.getElem?_cons_zero.{0} (And.intro @List.getElem?_cons_succ.{0} (And.intro @List.set_cons_zero.{0} (And.intro @List.set_cons_succ.{0} (And.intro @List.length_cons.{0} (And.intro @List.length_nil.{0} (And.intro @Int.toNat_natCast (And.intro @Int.toNat_zero (And.intro @Nat.zero_add (And.intro @Nat.add_zero (And.intro @decide_eq_true_eq (And.intro @decide_eq_false_iff_not (And.intro @true_and (And.intro @and_true (And.intro @if_true.{1} (And.intro @if_false.{1} (And.intro @true_or (And.intro @or_true (And.intro @Bool.false_eq_true (And.intro @Bool.true_eq_false (And.intro @false_and (And.intro @and_false (And.intro @Bool.not_true (And.intro @Bool.not_false (And.intro @beq_self_eq_true.{0} (And.intro @bne_self_eq_false.{0} (And.intro @decide_true (And.intro @decide_false (And.intro @Bool.and_true (And.intro @Bool.true_and (And.intro @Bool.and_false (@Bool.false_and)))))))))))))))))))))))))))))))) := And.intro @List.getElem?_cons_zero.{0} (And.intro @List.getElem?_cons_succ.{0} (And.intro @List.set_cons_zero.{0} (And.intro @List.set_cons_succ.{0} (And.intro @List.length_cons.{0} (And.intro @List.length_nil.{0} (And.intro @Int.toNat_natCast (And.intro @Int.toNat_zero (And.intro @Nat.zero_add (And.intro @Nat.add_zero (And.intro @decide_eq_true_eq (And.intro @decide_eq_false_iff_not (And.intro @true_and (And.intro @and_true (And.intro @if_true.{1} (And.intro @if_false.{1} (And.intro @true_or (And.intro @or_true (And.intro @Bool.false_eq_true (And.intro @Bool.true_eq_false (And.intro @false_and (And.intro @and_false (And.intro @Bool.not_true (And.intro @Bool.not_false (And.intro @beq_self_eq_true.{0} (And.intro @bne_self_eq_false.{0} (And.intro @decide_true (And.intro @decide_false (And.intro @Bool.and_true (And.intro @Bool.true_and (And.intro @Bool.and_false (@Bool.false_and)))))))))))))))))))))))))))))))
end Go.Proofs.YtdagfcflbphoiaaDoor.Ev
/- Arguments opened: numbers, texts, structs of them. No program in sight. -/
namespace Go.Proofs.YtdagfcflbphoiaaDoor.Ev
set_option linter.unusedVariables false
set_option linter.unusedSimpArgs false
open Go Go.RowKit

section
variable {P : Program} {h : H} {n f : Nat} {t : TypeId} {v : Value}
theorem rep_int {k : IntKind} (hu : P.underlying t = some (.int k)) (x : RepH1 P h n (f + 1) t v) : ∃ i, v = .int k i ∧ (Lit.int k i).wf = true := by
  unfold RepH1 at x
  rw [hu] at x
  exact x
theorem argH_cell (hc : cellTs P 8 t = some [t]) (hg : isAggT P t = false) (x : ArgH P h n t v) : RepH1 P h n 8 t v := by
  obtain ⟨ts, hts, q⟩ := x
  rw [hc] at hts
  cases hts
  rcases q with ⟨h1, _⟩ | ⟨_, h2⟩
  · rw [hg] at h1; cases h1
  · exact h2.1
theorem all2_2 {α β : Type} {R : α → β → Prop} {a a' : α} {l : List β} (x : All2 R [a, a'] l) : ∃ b b', l = [b, b'] ∧ R a b ∧ R a' b' := by
  match l, x with
  | [b, b'], x => exact ⟨b, b', rfl, x.1, x.2.1⟩
theorem wf64 {i : Int} (h : (Lit.int .i64 i).wf = true) : -9223372036854775808 ≤ i ∧ i ≤ 9223372036854775807 := by
  have e1 : IntKind.i64.min = -9223372036854775808 := by decide
  have e2 : IntKind.i64.max = 9223372036854775807 := by decide
  simp only [Lit.wf, e1, e2, Bool.and_eq_true, decide_eq_true_eq] at h
  exact h
end

end Go.Proofs.YtdagfcflbphoiaaDoor.Ev
/- A part of the second form that the kernel itself runs; statements whose arguments hold no slices. No program in sight. -/
namespace Go.Proofs.YtdagfcflbphoiaaDoor.Ev
set_option linter.unusedVariables false
set_option linter.unusedSimpArgs false
open Go Go.RowKit

theorem run_lda {β : Type} {W : Nat → Prop} {n0 : Nat} {h : H} {n : Nat} {Q : β → H → Nat → Prop} {P : Program} {t : TypeId} {sz : Nat} (ha : agg? P t = some true) (hs : size? P t = some sz) (b off : Nat) (k : Value → M β) {B : AB} (hg : h.get b = some B) (hb : b < n) (hl : off + sz ≤ B.cells.length) (x : Run W n0 (k (.agg ((B.cells.drop off).take sz).toArray)) h n Q) : Run W n0 ((inside (evLoad P t (.pointer (some ⟨b, off, none⟩)))).bind k) h n Q := by
  obtain ⟨L, e1, e2⟩ := rdN_run hg hb sz off hl
  have e : evLoad P t (.pointer (some ⟨b, off, none⟩)) h n = some ⟨.agg ((B.cells.drop off).take sz).toArray, h, n, L ++ []⟩ := by
    unfold evLoad
    simp only [ha, hs]
    exact bind_run e1 rfl
  obtain ⟨L', e3, e4⟩ := inside_ro (W := W) (n0 := n0) e (by simpa using e2)
  exact Run.step e3 (Nat.le_refl _) e4 x
section
variable {P : Program} {w : World} {f : Nat} {t : TypeId} {v : Value}
end

end Go.Proofs.YtdagfcflbphoiaaDoor.Ev
/- A slice of texts as an argument. No program in sight. -/
namespace Go.Proofs.YtdagfcflbphoiaaDoor.Ev
set_option linter.unusedVariables false
set_option linter.unusedSimpArgs false
open Go Go.RowKit

def SRow (h : H) (n : Nat) (v : Value) (ss : List (List UInt8)) : Prop := ∃ a c, v = .slice a ss.length c ∧ ∀ i (hi : i < ss.length), ∃ b B, a = some ⟨b, 0, none⟩ ∧ h.get b = some B ∧ b < n ∧ B.cells[i]? = some (.string ⟨(ss[i]).toArray⟩)
theorem SRow.keep {h h' : H} {n n' : Nat} {v : Value} {ss : List (List UInt8)} (r : SRow h n v ss) (hn : n ≤ n') (hk : ∀ b, b < n → h'.get b = h.get b) : SRow h' n' v ss := by
  obtain ⟨a, c, rfl, q⟩ := r
  refine ⟨a, c, rfl, fun i hi => ?_⟩
  obtain ⟨b, B, ha, hg, hb, hc⟩ := q i hi
  exact ⟨b, B, ha, (hk b hb).trans hg, by omega, hc⟩

end Go.Proofs.YtdagfcflbphoiaaDoor.Ev
/- Storing values of several cells; calls that are taken in; readings that do not touch one another. No program in sight. -/
namespace Go.Proofs.YtdagfcflbphoiaaDoor.Ev
set_option linter.unusedVariables false
set_option linter.unusedSimpArgs false
open Go Go.RowKit
section
variable {β : Type} {W : Nat → Prop} {n0 : Nat} {h : H} {n : Nat} {Q : β → H → Nat → Prop} {P : Program}
theorem wrN_run : ∀ (vs : List Value) (b off : Nat) (e : TypeId) (cs : List Value) (h : H) (n : Nat), h.get b = some ⟨e, true, cs⟩ → b < n → off + vs.length ≤ cs.length → vs.all one = true →
    ∃ h' L, wrN b off vs h n = some ⟨(), h', n, L⟩ ∧ h'.get b = some ⟨e, true, cs.take off ++ vs ++ cs.drop (off + vs.length)⟩ ∧ (∀ c, c ≠ b → h'.get c = h.get c) ∧ ∀ x ∈ L, x.b = b
  | [], b, off, e, cs, h, n, hg, hb, hl, _ => ⟨h, [], rfl, by simpa using hg, fun _ _ => rfl, by simp⟩
  | v :: vs, b, off, e, cs, h, n, hg, hb, hl, h1 => by
    simp only [List.all_cons, Bool.and_eq_true] at h1
    simp only [List.length_cons] at hl
    have hw : wr b off v h n = some ⟨(), h.set b (some ⟨e, true, cs.set off v⟩), n, [⟨false, b, some off⟩, ⟨true, b, some off⟩]⟩ := by
      unfold wr
      have : off < cs.length := by omega
      simp [hb, hg, this, h1.1]
    obtain ⟨h', L, e1, e2, e3, e4⟩ := wrN_run vs b (off + 1) e (cs.set off v) (h.set b (some ⟨e, true, cs.set off v⟩)) n (get_eq _ _ _) hb (by simp; omega) h1.2
    refine ⟨h', _, bind_run hw e1, ?_, fun c hc => (e3 c hc).trans (get_ne _ _ hc), fun x hx => ?_⟩
    · rw [e2]
      congr 2
      have ha : (cs.set off v).take (off + 1) = cs.take off ++ [v] := by
        rw [List.take_set, List.take_succ_eq_append_getElem (by omega), List.set_append_right _ _ (by simp; omega)]
        simp [Nat.min_eq_left (show off ≤ cs.length by omega)]
      have hd : (cs.set off v).drop (off + 1 + vs.length) = cs.drop (off + (v :: vs).length) := by
        rw [List.drop_set_of_lt (by omega)]
        congr 1
        simp only [List.length_cons]; omega
      rw [ha, hd]
      simp
    · rcases List.mem_append.1 hx with q | q
      · simp at q; rcases q with rfl | rfl <;> rfl
      · exact e4 x q
/-- a value of several cells is stored -/
theorem run_sta {t : TypeId} {sz : Nat} (hs : size? P t = some sz) {b off : Nat} {e : TypeId} {cs vs : List Value} {v : Value} (hv : v.cells.toList = vs) (hl : vs.length = sz) (h1 : vs.all one = true) (hg : h.get b = some ⟨e, true, cs⟩) (hb : b < n) (ho : off + sz ≤ cs.length) (hw : n0 ≤ b ∨ W b) (k : Value → M β)
    (x : ∀ h', h'.get b = some ⟨e, true, cs.take off ++ vs ++ cs.drop (off + sz)⟩ → (∀ c, c ≠ b → h'.get c = h.get c) → Run W n0 (k undef) h' n Q) : Run W n0 ((inside (evStore P t (.pointer (some ⟨b, off, none⟩)) v)).bind k) h n Q := by
  obtain ⟨h', L, e1, e2, e3, e4⟩ := wrN_run vs b off e cs h n hg hb (by omega) h1
  have e5 : evStore P t (.pointer (some ⟨b, off, none⟩)) v h n = some ⟨undef, h', n, L ++ []⟩ := by
    unfold evStore
    have hc : v.cells.size = sz := by rw [← hl, ← hv, Array.length_toList]
    simp only [hs, hc, if_true, hv]
    exact bind_run e1 rfl
  refine Run.step (inside_run e5) (Nat.le_refl _) (fun y hy hy2 => ?_) (x h' (by rw [e2, hl]) e3)
  have := (List.mem_filter.1 hy).1
  rw [List.append_nil] at this
  rw [e4 y this]
  exact hw
theorem run_lda0 {t : TypeId} {sz : Nat} (ha : agg? P t = some true) (hs : size? P t = some sz) (b off : Nat) (k : Value → M β) {B : AB} (hg : h.get b = some B) (hb : b < n) (hl : off + sz ≤ B.cells.length) (x : Run W n0 (k (.agg ((B.cells.drop off).take sz).toArray)) h n Q) : Run W n0 ((evLoad P t (.pointer (some ⟨b, off, none⟩))).bind k) h n Q := by
  obtain ⟨L, e1, e2⟩ := rdN_run hg hb sz off hl
  have e : evLoad P t (.pointer (some ⟨b, off, none⟩)) h n = some ⟨.agg ((B.cells.drop off).take sz).toArray, h, n, L ++ []⟩ := by
    unfold evLoad
    simp only [ha, hs]
    exact bind_run e1 rfl
  exact Run.step e (Nat.le_refl _) (fun y hy hw => by rw [List.append_nil] at hy; rw [e2 y hy] at hw; cases hw) x
/-- two that only read what was there ahead of them do not clash -/
theorem clash_ro {a b : Tk} (h1 : ∀ e ∈ a.log, e.wr = false) (h2 : ∀ e ∈ b.log, e.wr = false) (h3 : ∀ e ∈ a.log, e.b < b.n) (h4 : ∀ e ∈ b.log, e.b < a.n) : a.clash b = false := by
  unfold Tk.clash
  simp only [Bool.or_eq_false_iff, List.any_eq_false, Bool.and_eq_true, decide_eq_true_eq, not_and]
  refine ⟨⟨⟨fun x hx hw => ?_, fun x hx hw => ?_⟩, fun x hx hle => ?_⟩, fun x hx hle => ?_⟩
  · rw [h1 x hx] at hw; cases hw
  · rw [h2 x hx] at hw; cases hw
  · have := h3 x hx; omega
  · have := h4 x hx; omega
/-- of a step of which one may want the order: that it reads, and what was there -/
structure RO (t : Tk) (n : Nat) : Prop where
  wr : ∀ e ∈ t.log, e.wr = false
  lt : ∀ e ∈ t.log, e.b < n
  n : t.n = n
theorem RO.clash {a b : Tk} {m : Nat} (x : RO a m) (y : RO b m) : Tk.clash a b = false := clash_ro x.wr y.wr (fun e he => by rw [y.n]; exact x.lt e he) (fun e he => by rw [x.n]; exact y.lt e he)
theorem timed_ld' {t : TypeId} (ha : agg? P t = some false) (b off : Nat) (k : Value × Tk → M β) {B : AB} (hg : h.get b = some B) (hb : b < n) {v : Value} (hv : B.cells[off]? = some v) (x : ∀ T, RO T n → Run W n0 (k (v, T)) h n Q) : Run W n0 ((timed ((inside (evLoad P t (.pointer (some ⟨b, off, none⟩)))).bind fun v => M.ret v)).bind k) h n Q :=
  timed_ld ha b off k hg hb hv (x _ ⟨by simp, by simpa using hb, rfl⟩)
theorem timed_same' {lf d : Nat} {gt : Nat → List Nat} (hd : okDsts P = true) {f : FuncId} {args : Array Value} {v : Value} (s : Run (fun _ => False) n (evCall2 P gt lf d f args) h n fun v' h' n' => v' = v ∧ h' = h ∧ n' = n) (hn : n0 ≤ n) {k : Value × Tk → M β} (x : ∀ T, RO T n → Run W n0 (k (v, T)) h n Q) : Run W n0 ((timed ((inside (evCall2 P gt lf d f args)).bind fun v => M.ret v)).bind k) h n Q := by
  refine timed_call hd s hn (fun _ _ h => h.elim) fun v' h' n' L _ _ hq hL hw => ?_
  obtain ⟨rfl, rfl, rfl⟩ := hq
  refine x _ ⟨fun e he => ?_, hL, rfl⟩
  cases hq : e.wr with
  | false => rfl
  | true => exact (hw e he hq).elim
end

end Go.Proofs.YtdagfcflbphoiaaDoor.Ev
/- Rows of bytes; appending to a row that was there ahead of the call. No program in sight. -/
namespace Go.Proofs.YtdagfcflbphoiaaDoor.Ev
set_option linter.unusedVariables false
set_option linter.unusedSimpArgs false
open Go Go.RowKit
section
variable {β : Type} {W : Nat → Prop} {n0 : Nat} {h : H} {n : Nat} {Q : β → H → Nat → Prop} {P : Program}
end

end Go.Proofs.YtdagfcflbphoiaaDoor.Ev
/- Structs that begin with an array; arrays that are filled place by place; steps whose order may matter. No program in sight. -/
namespace Go.Proofs.YtdagfcflbphoiaaDoor.Ev
set_option linter.unusedVariables false
set_option linter.unusedSimpArgs false
open Go Go.RowKit
/-- an array's cells when the first of them are filled -/
def rc (f : Nat → Value) (z : Value) (N i : Nat) : List Value := (List.range N).map fun j => if j < i then f j else z
theorem rc_len (f : Nat → Value) (z : Value) (N i : Nat) : (rc f z N i).length = N := by unfold rc; simp
theorem rc_zero (f : Nat → Value) (z : Value) (N : Nat) : rc f z N 0 = List.replicate N z := by
  unfold rc
  apply List.ext_getElem
  · simp
  · intro i h1 h2; simp
theorem rc_all (f : Nat → Value) (z : Value) (N : Nat) : rc f z N N = (List.range N).map f := by
  unfold rc
  apply List.map_congr_left
  intro j hj
  rw [if_pos (List.mem_range.1 hj)]
theorem rc_get {f : Nat → Value} {z : Value} {N i j : Nat} (h : j < (rc f z N i).length) : (rc f z N i)[j] = if j < i then f j else z := by simp [rc]
theorem rc_set {f : Nat → Value} {z : Value} {N i : Nat} (h : i < N) : (rc f z N i).set i (f i) = rc f z N (i + 1) := by
  apply List.ext_getElem
  · simp [rc_len]
  · intro j h1 h2
    rw [List.getElem_set, rc_get, rc_get]
    by_cases e : i = j
    · subst e; simp
    · rw [if_neg e]
      by_cases e2 : j < i
      · rw [if_pos e2, if_pos (by omega)]
      · rw [if_neg e2, if_neg (by omega)]
section
variable {β : Type} {W : Nat → Prop} {n0 : Nat} {h : H} {n : Nat} {Q : β → H → Nat → Prop} {P : Program}
end

end Go.Proofs.YtdagfcflbphoiaaDoor.Ev
/- Steps whose order may matter, that read only what was there ahead of a place. No program in sight. -/
namespace Go.Proofs.YtdagfcflbphoiaaDoor.Ev
set_option linter.unusedVariables false
set_option linter.unusedSimpArgs false
open Go Go.RowKit
structure RB (t : Tk) (m : Nat) : Prop where
  wr : ∀ e ∈ t.log, e.wr = false
  lt : ∀ e ∈ t.log, e.b < m
  le : m ≤ t.n
theorem RB.clash {a b : Tk} {m : Nat} (x : RB a m) (y : RB b m) : Tk.clash a b = false := clash_ro x.wr y.wr (fun e he => Nat.lt_of_lt_of_le (x.lt e he) y.le) (fun e he => Nat.lt_of_lt_of_le (y.lt e he) x.le)
section
variable {β : Type} {W : Nat → Prop} {n0 : Nat} {h : H} {n m : Nat} {Q : β → H → Nat → Prop} {P : Program}
end

end Go.Proofs.YtdagfcflbphoiaaDoor.Ev
/- Loops by their steps; rows of rows of numbers. No program in sight. -/
namespace Go.Proofs.YtdagfcflbphoiaaDoor.Ev
set_option linter.unusedVariables false
set_option linter.unusedSimpArgs false
open Go Go.RowKit
theorem run_for {β σ : Type} {W : Nat → Prop} {n0 : Nat} {Q : β → H → Nat → Prop} (N : Nat) (lp : Nat → Nat → σ → M β) (I : Nat → σ → H → Nat → Prop)
    (last : ∀ fu s h n, I N s h n → Run W n0 (lp (fu + 1) N s) h n Q)
    (step : ∀ fu i s h n, i < N → I i s h n → (∀ s' h' n', I (i + 1) s' h' n' → Run W n0 (lp fu (i + 1) s') h' n' Q) → Run W n0 (lp (fu + 1) i s) h n Q) :
    ∀ (fu i : Nat) (s : σ) (h : H) (n : Nat), i ≤ N → N - i < fu → I i s h n → Run W n0 (lp fu i s) h n Q := by
  have key : ∀ (m fu i : Nat) (s : σ) (h : H) (n : Nat), N - i = m → i ≤ N → N - i < fu → I i s h n → Run W n0 (lp fu i s) h n Q := by
    intro m
    induction m with
    | zero =>
      intro fu i s h n hm hi hf x
      obtain ⟨fu, rfl⟩ : ∃ f, fu = f + 1 := ⟨fu - 1, by omega⟩
      obtain rfl : i = N := by omega
      exact last fu s h n x
    | succ m ih =>
      intro fu i s h n hm hi hf x
      obtain ⟨fu, rfl⟩ : ∃ f, fu = f + 1 := ⟨fu - 1, by omega⟩
      exact step fu i s h n (by omega) x fun s' h' n' y => ih fu (i + 1) s' h' n' (by omega) (by omega) (by omega) y
  exact fun fu i s h n => key _ fu i s h n rfl

def VRow (h : H) (n : Nat) (e : TypeId) (v : Value) (cs : List Value) : Prop :=
  (∃ a c, v = .slice a 0 c ∧ (∀ b o, a ≠ some ⟨b, o, none⟩) ∧ cs = []) ∨ ∃ b off cap o ks, v = .slice (some ⟨b, off, none⟩) cs.length cap ∧ h.get b = some ⟨e, o, ks⟩ ∧ b < n ∧ off + cs.length ≤ ks.length ∧ (ks.drop off).take cs.length = cs ∧ cs.length ≤ cap
section
variable {h h' : H} {n n' lo hi : Nat} {e e' es ei : TypeId} {v v' : Value} {cs cs' : List Value} {xss : List (List Int)}
theorem VRow.keep (r : VRow h n e v cs) (hn : n ≤ n') (hk : ∀ b, InBlk v b → h'.get b = h.get b) : VRow h' n' e v cs := by
  rcases r with q | ⟨b, off, cap, o, ks, hv, hg, hb, r⟩
  · exact .inl q
  · exact .inr ⟨b, off, cap, o, ks, hv, (hk b ⟨_, _, _, hv⟩).trans hg, by omega, r⟩
theorem VRow.len (r : VRow h n e v cs) : ∃ a c, v = .slice a cs.length c := by
  rcases r with ⟨a, c, rfl, _, rfl⟩ | ⟨b, off, cap, o, ks, rfl, _⟩
  · exact ⟨a, c, rfl⟩
  · exact ⟨_, cap, rfl⟩
theorem VRow.some (r : VRow h n e v cs) (h0 : 0 < cs.length) : ∃ b off cap o ks, v = .slice (some ⟨b, off, none⟩) cs.length cap ∧ h.get b = some ⟨e, o, ks⟩ ∧ b < n ∧ ∀ i, i < cs.length → ks[off + i]? = some (cs.getD i undef) := by
  rcases r with ⟨a, c, _, _, rfl⟩ | ⟨b, off, cap, o, ks, hv, hg, hb, hl, ht, hc⟩
  · simp at h0
  · refine ⟨b, off, cap, o, ks, hv, hg, hb, fun i hi => ?_⟩
    have := congrArg (fun z => z[i]?) ht
    simp only [List.getElem?_take, hi, if_true, List.getElem?_drop] at this
    rw [this, List.getD_eq_getElem?_getD, List.getElem?_eq_getElem hi]
    rfl
theorem VRow.lt (r : VRow h n e v cs) {b : Nat} (hb : InBlk v b) : b < n := by
  rcases r with ⟨a, c, rfl, hne, _⟩ | ⟨c, off, cap, o, ks, rfl, hg, hbn, _⟩
  · obtain ⟨o, l, k, q⟩ := hb
    cases q
    exact absurd rfl (hne b o)
  · rw [hb.inj]; exact hbn
theorem Own.vrow (o : Own h lo n e v cs) : VRow h n e v cs := by
  rcases o with ⟨rfl, rfl⟩ | ⟨b, rfl, hg, _, hb⟩
  · exact .inl ⟨none, 0, rfl, fun _ _ q => (nomatch q), rfl⟩
  · exact .inr ⟨b, 0, CAP + cs.length, true, _, rfl, hg, hb, by omega, by rw [List.drop_zero, List.take_length], by omega⟩
theorem Own.elem (o : Own h lo n e v cs) {b : Nat} (hb : InBlk v b) : ∃ B, h.get b = Option.some B ∧ B.elem = e := by
  rcases o with ⟨rfl, _⟩ | ⟨c, rfl, hc, _⟩
  · exact hb.not_nil.elim
  · rw [hb.inj]; exact ⟨_, hc, rfl⟩
theorem Row.elem {k : IntKind} {xs : List Int} (r : Row h n e k v xs) {b : Nat} (hb : InBlk v b) : ∃ B, h.get b = Option.some B ∧ B.elem = e := by
  rcases r with ⟨a, c, rfl, hne, _⟩ | ⟨c, off, cap, o, ks, rfl, hg, _⟩
  · obtain ⟨o, l, k, q⟩ := hb
    cases q
    exact absurd rfl (hne b o)
  · rw [hb.inj]; exact ⟨_, hg, rfl⟩
theorem Own.apart (o : Own h lo n e v cs) {lo' : Nat} (o' : Own h lo' n e' v' cs') (hne : e ≠ e') {b : Nat} (hb : InBlk v b) : ¬ InBlk v' b := fun hb' => by
  obtain ⟨B, h1, h2⟩ := o.elem hb
  obtain ⟨B', h3, h4⟩ := o'.elem hb'
  rw [h1] at h3; cases h3
  exact hne (h2.symm.trans h4)
theorem Row.apart {k : IntKind} {xs : List Int} (o : Row h n e k v xs) {lo' : Nat} (o' : Own h lo' n e' v' cs') (hne : e ≠ e') {b : Nat} (hb : InBlk v b) : ¬ InBlk v' b := fun hb' => by
  obtain ⟨B, h1, h2⟩ := o.elem hb
  obtain ⟨B', h3, h4⟩ := o'.elem hb'
  rw [h1] at h3; cases h3
  exact hne (h2.symm.trans h4)

def RR (h : H) (n : Nat) (es ei : TypeId) (v : Value) (xss : List (List Int)) : Prop := ∃ cs, VRow h n es v cs ∧ cs.length = xss.length ∧ ∀ i, i < xss.length → Row h n ei .i64 (cs.getD i undef) (xss.getD i [])
theorem RR.len (r : RR h n es ei v xss) : ∃ a c, v = .slice a xss.length c := by
  obtain ⟨cs, r, hl, _⟩ := r
  rw [← hl]; exact r.len
theorem RR.keep (r : RR h n es ei v xss) (hn : n ≤ n') (hk : ∀ b, b < n → h'.get b = h.get b) : RR h' n' es ei v xss := by
  obtain ⟨cs, r, hl, hr⟩ := r
  exact ⟨cs, r.keep hn fun b hb => hk b (r.lt hb), hl, fun i hi => (hr i hi).keep hn hk⟩
theorem RR.at (r : RR h n es ei v xss) (h0 : 0 < xss.length) : ∃ b off cap o ks, v = .slice (some ⟨b, off, none⟩) xss.length cap ∧ h.get b = some ⟨es, o, ks⟩ ∧ b < n ∧ ∀ i, i < xss.length → ∃ x, ks[off + i]? = some x ∧ Row h n ei .i64 x (xss.getD i []) := by
  obtain ⟨cs, r, hl, hr⟩ := r
  obtain ⟨b, off, cap, o, ks, hv, hg, hb, ha⟩ := r.some (by omega)
  exact ⟨b, off, cap, o, ks, by rw [hv, hl], hg, hb, fun i hi => ⟨_, ha i (by omega), hr i hi⟩⟩
/-- a row of rows of one's own that grows: the rows in it lie in blocks below hi -/
def OwnRR (h : H) (lo hi n : Nat) (es ei : TypeId) (v : Value) (xss : List (List Int)) : Prop := ∃ cs, Own h lo n es v cs ∧ cs.length = xss.length ∧ ∀ i, i < xss.length → Row h n ei .i64 (cs.getD i undef) (xss.getD i []) ∧ ∀ b, InBlk (cs.getD i undef) b → b < hi
theorem OwnRR.nil (h : H) (lo hi n : Nat) (es ei : TypeId) : OwnRR h lo hi n es ei (.slice none 0 0) [] := ⟨[], Own.nil _ _ _ _, rfl, fun i hi => absurd hi (by simp)⟩
theorem OwnRR.rr (o : OwnRR h lo hi n es ei v xss) : RR h n es ei v xss := by
  obtain ⟨cs, o, hl, hr⟩ := o
  exact ⟨cs, o.vrow, hl, fun i hi => (hr i hi).1⟩
theorem OwnRR.lt (o : OwnRR h lo hi n es ei v xss) {b : Nat} (hb : InBlk v b) : lo ≤ b ∧ b < n := by
  obtain ⟨cs, o, _⟩ := o
  exact o.lt hb
theorem OwnRR.elem (o : OwnRR h lo hi n es ei v xss) {b : Nat} (hb : InBlk v b) : ∃ B, h.get b = Option.some B ∧ B.elem = es := by
  obtain ⟨cs, o, _⟩ := o
  exact o.elem hb
theorem OwnRR.keep (o : OwnRR h lo hi n es ei v xss) (hn : n ≤ n') (hk : ∀ b, b < n → (b < hi ∨ InBlk v b) → h'.get b = h.get b) : OwnRR h' lo hi n' es ei v xss := by
  obtain ⟨cs, o, hl, hr⟩ := o
  exact ⟨cs, o.keep hn fun b hb => hk b (o.lt hb).2 (.inr hb), hl, fun i hi => ⟨(hr i hi).1.keep' hn fun b hb => hk b ((hr i hi).1.lt hb) (.inl ((hr i hi).2 b hb)), (hr i hi).2⟩⟩
theorem OwnRR.up (o : OwnRR h lo hi n es ei v xss) {hi' : Nat} (hh : hi ≤ hi') : OwnRR h lo hi' n es ei v xss := by
  obtain ⟨cs, o, hl, hr⟩ := o
  exact ⟨cs, o, hl, fun i hi => ⟨(hr i hi).1, fun b hb => Nat.lt_of_lt_of_le ((hr i hi).2 b hb) hh⟩⟩
theorem getD_app1 {α : Type} (d : α) (l : List α) (x : α) (i : Nat) : (l ++ [x]).getD i d = if i < l.length then l.getD i d else if i = l.length then x else d := by
  rw [List.getD_eq_getElem?_getD, List.getD_eq_getElem?_getD]
  split
  · rename_i h; rw [List.getElem?_append_left h]
  · rename_i h
    split
    · rename_i h2; subst h2; simp
    · rw [List.getElem?_eq_none (by simp; omega)]; rfl
theorem run_pushRR {β : Type} {W : Nat → Prop} {n0 : Nat} {Q : β → H → Nat → Prop} {P : Program} {t : TypeId} {z : Value} (c : Cell1 P t es z) (hne : ei ≠ es) (o : OwnRR h lo hi n es ei v xss) {x : Value} {xs : List Int} (r : Row h n ei .i64 x xs) (hh : hi ≤ n) (hm : xss.length + 1 ≤ 1099511627776) (hlo : n0 ≤ lo) (hln : lo ≤ n) (k : Value → M β)
    (y : ∀ v' h', OwnRR h' lo n (n + 2) es ei v' (xss ++ [xs]) → (∀ b, b < n → ¬ InBlk v b → h'.get b = h.get b) → (∀ b, InBlk v' b → n ≤ b) → Run W n0 (k v') h' (n + 2) Q) : Run W n0 ((inside (evBuildSlice P t 1 [(0, x)])).bind fun w => (inside (evAppend P t v w)).bind k) h n Q := by
  obtain ⟨cs, o, hl, hr⟩ := o
  have hx : one x = true := by obtain ⟨a, c, rfl⟩ := r.len; rfl
  refine run_pushO c hx o (by omega) hlo k fun h' hg hk => ?_
  have kin : ∀ {u : Value} {us : List Int}, Row h n ei .i64 u us → Row h' (n + 2) ei .i64 u us := fun q => q.keep' (by omega) fun b hb => hk b (q.lt hb) (q.apart o hne hb)
  refine y _ h' ⟨cs ++ [x], .inr ⟨n + 1, by simp, hg, by omega, by omega⟩, by simp [hl], fun i hi => ?_⟩ hk fun b hb => by rw [hb.inj]; omega
  rw [getD_app1, getD_app1]
  by_cases c1 : i < xss.length
  · rw [if_pos (by omega), if_pos c1]
    exact ⟨kin (hr i c1).1, fun b hb => by have := (hr i c1).2 b hb; omega⟩
  · have : i = xss.length := by simp at hi; omega
    subst this
    rw [if_neg (by omega), if_pos (by omega), if_neg (by omega), if_pos rfl]
    exact ⟨kin r, fun b hb => r.lt hb⟩
end
end Go.Proofs.YtdagfcflbphoiaaDoor.Ev
/- Rows last where blocks of their elements do. No program in sight. -/
namespace Go.Proofs.YtdagfcflbphoiaaDoor.Ev
set_option linter.unusedVariables false
set_option linter.unusedSimpArgs false
open Go Go.RowKit
section
variable {h h' : H} {n n' : Nat} {e es ei : TypeId} {v : Value} {cs : List Value} {xss : List (List Int)}
theorem VRow.elem (r : VRow h n e v cs) {b : Nat} (hb : InBlk v b) : ∃ B, h.get b = Option.some B ∧ B.elem = e := by
  rcases r with ⟨a, c, rfl, hne, _⟩ | ⟨c, off, cap, o, ks, rfl, hg, _⟩
  · obtain ⟨o, l, k, q⟩ := hb
    cases q
    exact absurd rfl (hne b o)
  · rw [hb.inj]; exact ⟨_, hg, rfl⟩
theorem Row.keepE {k : IntKind} {xs : List Int} (r : Row h n e k v xs) (hn : n ≤ n') (hk : ∀ b B, b < n → h.get b = Option.some B → B.elem = e → h'.get b = h.get b) : Row h' n' e k v xs :=
  r.keep' hn fun b hb => by
    obtain ⟨B, h1, h2⟩ := r.elem hb
    exact hk b B (r.lt hb) h1 h2
theorem VRow.keepE (r : VRow h n e v cs) (hn : n ≤ n') (hk : ∀ b B, b < n → h.get b = Option.some B → B.elem = e → h'.get b = h.get b) : VRow h' n' e v cs :=
  r.keep hn fun b hb => by
    obtain ⟨B, h1, h2⟩ := r.elem hb
    exact hk b B (r.lt hb) h1 h2
theorem RR.keepE (r : RR h n es ei v xss) (hn : n ≤ n') (hk : ∀ b B, b < n → h.get b = Option.some B → (B.elem = es ∨ B.elem = ei) → h'.get b = h.get b) : RR h' n' es ei v xss := by
  obtain ⟨cs, r, hl, hr⟩ := r
  exact ⟨cs, r.keepE hn fun b B hb hB he => hk b B hb hB (.inl he), hl, fun i hi => (hr i hi).keepE hn fun b B hb hB he => hk b B hb hB (.inr he)⟩
/-- a store into a block of other elements -/
theorem other_elem {p : Nat} {C : AB} (hp : h.get p = some C) (hk : ∀ b, b ≠ p → h'.get b = h.get b) {b : Nat} {B : AB} (hb : h.get b = some B) (he : B.elem ≠ C.elem) : h'.get b = h.get b := hk b fun q => by
  subst q
  rw [hp] at hb; cases hb
  exact he rfl
end
end Go.Proofs.YtdagfcflbphoiaaDoor.Ev
