/- What a part of the second form does: rules for rewriting; appending; slices; calls. No program in sight. -/
import Derived.Test.YtmjolmggelkjlaaGreatEvR
namespace Go.Proofs.YtmjolmggelkjlaaGreat.Ev
set_option linter.unusedVariables false
set_option linter.unusedSimpArgs false
open Go

def optG {α : Type} (o : Option α) (p : α → Prop) : Prop := match o with
  | some a => p a
  | none => False
theorem optG_some {α : Type} (a : α) (p : α → Prop) : optG (some a) p = p a := rfl
theorem one_int (k : IntKind) (x : Int) : one (.int k x) = true := rfl
theorem one_bool (b : Bool) : one (.bool b) = true := rfl
theorem one_string (s : ByteArray) : one (.string s) = true := rfl
theorem one_slice (a : Option Addr) (n c : Nat) : one (.slice a n c) = true := rfl
theorem one_ptr (a : Option Addr) : one (.pointer a) = true := rfl
theorem cells_agg (cs : Array Value) : (Value.agg cs).cells = cs := rfl
section
variable {β : Type} {W : Nat → Prop} {n0 : Nat} {h h1 : H} {n n1 : Nat} {Q : β → H → Nat → Prop}
theorem not_run_fail : ¬ Run W n0 (M.fail : M β) h n Q := by rintro ⟨_, _, _, _, e, _⟩; cases e
theorem not_run_bind {α : Type} {m : M α} {k : α → M β} (e : m h n = none) : ¬ Run W n0 (m.bind k) h n Q := by
  rintro ⟨_, _, _, _, e1, _⟩
  unfold M.bind at e1
  rw [e] at e1
  cases e1
theorem inside_none {α : Type} {m : M α} (e : m h n = none) : Ev.inside m h n = none := by unfold Ev.inside; rw [e]
theorem kld_iff (b off : Nat) (k : Value → M β) (hb : b < n) : Run W n0 (kld (.pointer (some ⟨b, off, none⟩)) k) h n Q ↔ optG (h.get b) fun B => Run W n0 (optK (B.cells[off]?) k) h n Q := by
  show Run W n0 (insB (rd3 b off) k) h n Q ↔ _
  rw [insB_eq, rd3_eq]
  cases hg : h.get b with
  | none =>
    refine ⟨fun x => absurd x (not_run_bind (inside_none ?_)), fun x => x.elim⟩
    unfold rd
    simp [hg]
  | some B =>
    show _ ↔ Run W n0 (optK (B.cells[off]?) k) h n Q
    cases hv : B.cells[off]? with
    | none =>
      refine ⟨fun x => absurd x (not_run_bind (inside_none ?_)), fun x => absurd x not_run_fail⟩
      unfold rd
      simp [hg, hv]
    | some v =>
      have e : rd b off h n = some ⟨v, h, n, [⟨false, b, some off⟩]⟩ := by
        unfold rd
        simp only [hb, hg, hv, if_true]
      obtain ⟨L', e1, e2⟩ := inside_ro (W := W) (n0 := n0) e (by simp)
      exact Run.iff e1 e2
theorem kst_def (b off : Nat) {v : Value} (k : Value → M β) (h1 : one v = true) : kst (.pointer (some ⟨b, off, none⟩)) v k = (inside ((wr b off v).bind fun _ => .ret undef)).bind k := by
  show (match one v with
    | true => insB ((wr3 b off v).bind fun _ => .ret undef) k
    | false => .fail) = _
  rw [h1, wr3_eq]
  exact insB_eq _ _
theorem kst_iff (b off : Nat) (v : Value) (k : Value → M β) (hb : b < n) (h1 : one v = true) : Run W n0 (kst (.pointer (some ⟨b, off, none⟩)) v k) h n Q ↔
    optG (h.get b) fun B => B.own = true ∧ off < B.cells.length ∧ (n0 ≤ b ∨ W b) ∧ Run W n0 (k undef) (h.set b (some ⟨B.elem, B.own, B.cells.set off v⟩)) n Q := by
  rw [kst_def b off k h1]
  cases hg : h.get b with
  | none =>
    refine ⟨fun x => absurd x (not_run_bind (inside_none ?_)), fun x => x.elim⟩
    unfold M.bind wr
    simp [hg]
  | some B =>
    show _ ↔ (B.own = true ∧ off < B.cells.length ∧ (n0 ≤ b ∨ W b) ∧ _)
    by_cases hok : B.own = true ∧ off < B.cells.length
    · obtain ⟨ho, hl⟩ := hok
      have hwr : wr b off v h n = some ⟨(), h.set b (some ⟨B.elem, B.own, B.cells.set off v⟩), n, [⟨false, b, some off⟩, ⟨true, b, some off⟩]⟩ := by
        unfold wr
        simp [hb, hg, ho, hl, h1]
      have e : ((wr b off v).bind fun _ => M.ret undef) h n = some ⟨undef, h.set b (some ⟨B.elem, B.own, B.cells.set off v⟩), n, [⟨false, b, some off⟩, ⟨true, b, some off⟩]⟩ := by
        have := bind_run (f := fun _ => M.ret undef) hwr (L2 := []) (b := undef) (h2 := h.set b (some ⟨B.elem, B.own, B.cells.set off v⟩)) (n2 := n) rfl
        simpa using this
      have ei := inside_run e
      constructor
      · intro x
        refine ⟨ho, hl, ?_, Run.unstep ei rfl x⟩
        obtain ⟨_, _, _, L, e1, _, e3, _⟩ := x
        obtain ⟨_, _, _, L3, L4, e5, _, rfl⟩ := bind_some e1
        rw [ei] at e5
        simp only [Option.some.injEq, Out.mk.injEq] at e5
        refine e3 ⟨true, b, some off⟩ (List.mem_append.2 (.inl ?_)) rfl
        rw [← e5.2.2.2]
        refine List.mem_filter.2 ⟨by simp, ?_⟩
        simp
        omega
      · rintro ⟨_, _, hw, x⟩
        refine Run.step ei (Nat.le_refl _) (fun x hx hx2 => ?_) x
        have hx := (List.mem_filter.1 hx).1
        simp at hx
        rcases hx with rfl | rfl <;> exact hw
    · refine ⟨fun x => absurd x (not_run_bind (inside_none ?_)), fun x => absurd ⟨x.1, x.2.1⟩ hok⟩
      unfold M.bind wr
      simp only [hb, hg, if_true, h1, Bool.and_true]
      rw [if_neg (by simpa using hok)]
section
variable (b off : Nat) (k : Value → M β) (hb : b < n)
include hb
theorem st_int (j : IntKind) (x : Int) : Run W n0 (kst (.pointer (some ⟨b, off, none⟩)) (.int j x) k) h n Q ↔ optG (h.get b) fun B => B.own = true ∧ off < B.cells.length ∧ (n0 ≤ b ∨ W b) ∧ Run W n0 (k undef) (h.set b (some ⟨B.elem, B.own, B.cells.set off (.int j x)⟩)) n Q := kst_iff b off _ k hb rfl
theorem st_bool (x : Bool) : Run W n0 (kst (.pointer (some ⟨b, off, none⟩)) (.bool x) k) h n Q ↔ optG (h.get b) fun B => B.own = true ∧ off < B.cells.length ∧ (n0 ≤ b ∨ W b) ∧ Run W n0 (k undef) (h.set b (some ⟨B.elem, B.own, B.cells.set off (.bool x)⟩)) n Q := kst_iff b off _ k hb rfl
theorem st_str (x : ByteArray) : Run W n0 (kst (.pointer (some ⟨b, off, none⟩)) (.string x) k) h n Q ↔ optG (h.get b) fun B => B.own = true ∧ off < B.cells.length ∧ (n0 ≤ b ∨ W b) ∧ Run W n0 (k undef) (h.set b (some ⟨B.elem, B.own, B.cells.set off (.string x)⟩)) n Q := kst_iff b off _ k hb rfl
theorem st_ptr (x : Option Addr) : Run W n0 (kst (.pointer (some ⟨b, off, none⟩)) (.pointer x) k) h n Q ↔ optG (h.get b) fun B => B.own = true ∧ off < B.cells.length ∧ (n0 ≤ b ∨ W b) ∧ Run W n0 (k undef) (h.set b (some ⟨B.elem, B.own, B.cells.set off (.pointer x)⟩)) n Q := kst_iff b off _ k hb rfl
theorem st_slice (x : Option Addr) (l c : Nat) : Run W n0 (kst (.pointer (some ⟨b, off, none⟩)) (.slice x l c) k) h n Q ↔ optG (h.get b) fun B => B.own = true ∧ off < B.cells.length ∧ (n0 ≤ b ∨ W b) ∧ Run W n0 (k undef) (h.set b (some ⟨B.elem, B.own, B.cells.set off (.slice x l c)⟩)) n Q := kst_iff b off _ k hb rfl
end

/-! reading many cells; appending -/
theorem rdN_run {b : Nat} {B : AB} (hg : h.get b = some B) (hb : b < n) : ∀ (c k : Nat), k + c ≤ B.cells.length → ∃ L, rdN b k c h n = some ⟨(B.cells.drop k).take c, h, n, L⟩ ∧ ∀ e ∈ L, e.wr = false
  | 0, k, _ => ⟨[], by rw [List.take_zero]; rfl, by simp⟩
  | c + 1, k, hk => by
    obtain ⟨L, e, hL⟩ := rdN_run hg hb c (k + 1) (by omega)
    have hk2 : k < B.cells.length := by omega
    refine ⟨[⟨false, b, some k⟩] ++ (L ++ []), ?_, ?_⟩
    · unfold rdN
      have e0 : rd b k h n = some ⟨B.cells[k], h, n, [⟨false, b, some k⟩]⟩ := by
        unfold rd
        simp only [hb, hg, if_true, List.getElem?_eq_getElem hk2]
      refine bind_run e0 (bind_run e ?_)
      rw [List.drop_eq_getElem_cons hk2, List.take_succ_cons]
      rfl
    · intro x hx
      simp only [List.append_nil, List.mem_append, List.mem_cons, List.not_mem_nil, or_false] at hx
      rcases hx with rfl | hx
      · rfl
      · exact hL x hx
theorem hdr_run {b : Nat} {B : AB} (hg : h.get b = some B) (hb : b < n) : hdr b h n = some ⟨B.elem, h, n, [⟨false, b, some 1099511627776⟩]⟩ := by
  unfold hdr
  simp only [hb, hg, if_true]
theorem kill_run {b : Nat} {B : AB} (hg : h.get b = some B) (ho : B.own = true) (hb : b < n) : kill b h n = some ⟨(), h.set b none, n, [⟨false, b, none⟩, ⟨true, b, none⟩]⟩ := by
  unfold kill
  simp only [hb, hg, ho, if_true]
/-- what is read of a slice -/
def Src (h : H) (n : Nat) (x : Value) (news : List Value) : Prop := ∃ b off c B, x = .slice (some ⟨b, off, none⟩) news.length c ∧ h.get b = some B ∧ b < n ∧ off + news.length ≤ B.cells.length ∧ (B.cells.drop off).take news.length = news
theorem Src.run {x : Value} {news : List Value} (s : Src h n x news) : ∃ L, elemsOf 1 news.length x h n = some ⟨news, h, n, L⟩ ∧ (∀ e ∈ L, e.wr = false) ∧ lenOf? x = some news.length := by
  obtain ⟨b, off, c, B, rfl, hg, hb, hl, ht⟩ := s
  obtain ⟨L, e, hL⟩ := rdN_run hg hb news.length off hl
  refine ⟨L, ?_, hL, rfl⟩
  unfold elemsOf
  rw [Nat.mul_one]
  show rdN b off news.length h n = _
  rw [e, ht]
theorem app_none {T : Prop} (c : T) {e : TypeId} {x : Value} {news : List Value} (hx : lenOf? x = some 0) (a : Option Addr) (l cp : Nat) (k : Value → M β) (y : Run W n0 (k (.slice a l cp)) h n Q) : Run W n0 (kap e 1 (.slice a l cp) x k) h n Q := by
  refine run_ins (run_new (a := .slice a l cp) ?_ (Nat.le_refl n) y)
  unfold appQ
  simp only [hx]
  rfl
theorem app_nil {T : Prop} (c : T) {e : TypeId} {x : Value} {news : List Value} (s : Src h n x news) (h0 : 0 < news.length) (hm : news.length ≤ 1099511627776) (h1 : news.all one = true) (k : Value → M β)
    (y : Run W n0 (k (.slice (some ⟨n, 0, none⟩) news.length (CAP + news.length))) (h.set n (some ⟨e, true, news⟩)) (n + 1) Q) : Run W n0 (kap e 1 (.slice none 0 0) x k) h n Q := by
  obtain ⟨L, e1, e2, e3⟩ := s.run
  have ea : appQ e 1 (.slice none 0 0) x h n = some ⟨.slice (some ⟨n, 0, none⟩) news.length (CAP + news.length), h.set n (some ⟨e, true, news⟩), n + 1, L⟩ := by
    unfold appQ
    rw [elems3_eq, newB3_eq]
    simp only [e3]
    rw [if_neg (by omega), if_pos hm]
    have g : (if (decide (news.length = news.length * 1) && news.all one) = true then (newB e ([] ++ news)).bind fun id => M.ret (Value.slice (some ⟨id, 0, none⟩) (0 + news.length) (CAP + (0 + news.length))) else M.fail) h n = some ⟨.slice (some ⟨n, 0, none⟩) news.length (CAP + news.length), h.set n (some ⟨e, true, news⟩), n + 1, []⟩ := by
      rw [if_pos (by simp; simpa using h1)]
      simp only [Nat.zero_add, List.nil_append]
      exact bind_run (newB_run _ _ _ _) rfl
    have := bind_run (f := fun new => if (decide (new.length = news.length * 1) && new.all one) = true then (newB e ([] ++ new)).bind fun id => M.ret (Value.slice (some ⟨id, 0, none⟩) (0 + news.length) (CAP + (0 + news.length))) else M.fail) e1 g
    simpa using this
  refine run_ins (Run.step (inside_run ea) (Nat.le_succ n) (fun x hx hx2 => ?_) y)
  rw [e2 x (List.mem_filter.1 hx).1] at hx2
  cases hx2
theorem app_own {T : Prop} (c : T) {e : TypeId} {x : Value} {news olds : List Value} (s : Src h n x news) (h0 : 0 < news.length) (h1 : news.all one = true) {b cp : Nat} {cs : List Value} (hg : h.get b = some ⟨e, true, cs⟩) (hb : b < n) (off l : Nat)
    (hl : off + l ≤ cs.length) (ho : (cs.drop off).take l = olds) (hm : l + news.length ≤ 1099511627776) (hc : CAP ≤ cp) (hw : n0 ≤ b ∨ W b) (k : Value → M β)
    (y : Run W n0 (k (.slice (some ⟨n, 0, none⟩) (l + news.length) (CAP + (l + news.length)))) ((h.set b none).set n (some ⟨e, true, olds ++ news⟩)) (n + 1) Q) : Run W n0 (kap e 1 (.slice (some ⟨b, off, none⟩) l cp) x k) h n Q := by
  obtain ⟨L, e1, e2, e3⟩ := s.run
  obtain ⟨L', e4, e5⟩ := rdN_run (n := n) hg hb l off hl
  have ea : ∃ L1, appQ e 1 (.slice (some ⟨b, off, none⟩) l cp) x h n = some ⟨.slice (some ⟨n, 0, none⟩) (l + news.length) (CAP + (l + news.length)), (h.set b none).set n (some ⟨e, true, olds ++ news⟩), n + 1, L1⟩ ∧ ∀ e ∈ L1, e.wr = true → e.b = b := by
    refine ⟨[⟨false, b, some 1099511627776⟩] ++ (L ++ (L' ++ ([⟨false, b, none⟩, ⟨true, b, none⟩] ++ []))), ?_, ?_⟩
    · unfold appQ appTo
      rw [elems3_eq, newB3_eq, hdr3_eq, kill3_eq, rdN3_eq]
      simp only [e3]
      rw [if_neg (by omega), if_pos hm]
      refine bind_run (hdr_run hg hb) ?_
      simp only [if_true]
      refine bind_run e1 ?_
      rw [if_pos (by simp; simpa using h1)]
      rw [if_neg (by omega), Nat.mul_one]
      refine bind_run e4 (bind_run (kill_run hg rfl hb) ?_)
      rw [ho]
      exact bind_run (newB_run _ _ _ _) rfl
    · intro x hx hx2
      simp only [List.mem_append, List.mem_cons, List.not_mem_nil, or_false] at hx
      rcases hx with rfl | hx | hx | rfl | rfl
      · cases hx2
      · rw [e2 x hx] at hx2; cases hx2
      · rw [e5 x hx] at hx2; cases hx2
      · cases hx2
      · rfl
  obtain ⟨L1, ea, hL1⟩ := ea
  refine run_ins (Run.step (inside_run ea) (Nat.le_succ n) (fun x hx hx2 => ?_) y)
  rw [hL1 x (List.mem_filter.1 hx).1 hx2]
  exact hw
/-- a row of fixed room that has not room enough: a new one -/
theorem app_copy {T : Prop} (c : T) {e : TypeId} {x : Value} {news olds : List Value} (s : Src h n x news) (h0 : 0 < news.length) (h1 : news.all one = true) {b cp : Nat} {B : AB} (hg : h.get b = some B) (he : B.elem = e) (hb : b < n) (off l : Nat)
    (hl : off + l ≤ B.cells.length) (ho : (B.cells.drop off).take l = olds) (hm : l + news.length ≤ 1099511627776) (hc : cp < CAP) (hr : cp < l + news.length) (k : Value → M β)
    (y : Run W n0 (k (.slice (some ⟨n, 0, none⟩) (l + news.length) (CAP + (l + news.length)))) (h.set n (some ⟨e, true, olds ++ news⟩)) (n + 1) Q) : Run W n0 (kap e 1 (.slice (some ⟨b, off, none⟩) l cp) x k) h n Q := by
  obtain ⟨L, e1, e2, e3⟩ := s.run
  obtain ⟨L', e4, e5⟩ := rdN_run (n := n) hg hb l off hl
  have ea : ∃ L1, appQ e 1 (.slice (some ⟨b, off, none⟩) l cp) x h n = some ⟨.slice (some ⟨n, 0, none⟩) (l + news.length) (CAP + (l + news.length)), h.set n (some ⟨e, true, olds ++ news⟩), n + 1, L1⟩ ∧ ∀ e ∈ L1, e.wr = false := by
    refine ⟨[⟨false, b, some 1099511627776⟩] ++ (L ++ (L' ++ [])), ?_, ?_⟩
    · unfold appQ appTo
      rw [elems3_eq, newB3_eq, hdr3_eq, rdN3_eq]
      simp only [e3]
      rw [if_neg (by omega), if_pos hm]
      refine bind_run (hdr_run hg hb) ?_
      simp only [he, if_true]
      refine bind_run e1 ?_
      rw [if_pos (by simp; simpa using h1)]
      rw [if_pos hc, if_neg (by omega), Nat.mul_one]
      refine bind_run e4 ?_
      rw [ho]
      exact bind_run (newB_run _ _ _ _) rfl
    · intro x hx
      simp only [List.append_nil, List.mem_append, List.mem_cons, List.not_mem_nil, or_false] at hx
      rcases hx with rfl | hx | hx
      · rfl
      · exact e2 x hx
      · exact e5 x hx
  obtain ⟨L1, ea, hL1⟩ := ea
  refine run_ins (Run.step (inside_run ea) (Nat.le_succ n) (fun x hx hx2 => ?_) y)
  rw [hL1 x (List.mem_filter.1 hx).1] at hx2
  cases hx2

/-- one value is appended to a row of the call's own that grows -/
theorem run_push {T : Prop} (c : T) {e : TypeId} {v : Value} (hv : one v = true) {b cp l : Nat} {cs : List Value} (hg : h.get b = some ⟨e, true, cs⟩) (hb : b < n) (hl : cs.length = l) (hm : l + 1 ≤ 1099511627776) (hc : CAP ≤ cp) (hw : n0 ≤ b ∨ W b) (k : Value → M β)
    (y : Run W n0 (k (.slice (some ⟨n + 1, 0, none⟩) (l + 1) (CAP + (l + 1)))) (((h.set n (some ⟨e, true, [v]⟩)).set b none).set (n + 1) (some ⟨e, true, cs ++ [v]⟩)) (n + 2) Q) : Run W n0 (kb1 e 1 v fun w => kap e 1 (.slice (some ⟨b, 0, none⟩) l cp) w k) h n Q := by
  refine run_lit1 c hv _ ?_
  have hg' : (h.set n (some ⟨e, true, [v]⟩)).get b = some ⟨e, true, cs⟩ := by rw [get_ne _ _ (by omega)]; exact hg
  exact app_own c (news := [v]) (olds := cs) ⟨n, 0, 1, ⟨e, true, [v]⟩, rfl, get_eq _ _ _, Nat.lt_succ_self n, by simp, by simp⟩ (by simp) (by simp [hv]) hg' (by omega) 0 l (by omega) (by rw [List.drop_zero, ← hl, List.take_length]) hm hc hw k y
theorem run_push0 {T : Prop} (c : T) {e : TypeId} {v : Value} (hv : one v = true) (k : Value → M β)
    (y : Run W n0 (k (.slice (some ⟨n + 1, 0, none⟩) 1 (CAP + 1))) ((h.set n (some ⟨e, true, [v]⟩)).set (n + 1) (some ⟨e, true, [v]⟩)) (n + 2) Q) : Run W n0 (kb1 e 1 v fun w => kap e 1 (.slice none 0 0) w k) h n Q := by
  refine run_lit1 c hv _ ?_
  exact app_nil c (news := [v]) ⟨n, 0, 1, ⟨e, true, [v]⟩, rfl, get_eq _ _ _, Nat.lt_succ_self n, by simp, by simp⟩ (by simp) (by simp) (by simp [hv]) k y

/-! slices -/
theorem bound_none (d : Nat) : boundOf none d = some d := rfl
theorem slice_run {T T' : Prop} (c : T) {e : TypeId} {b : Nat} {B : AB} (hg : h.get b = some B) (he : B.elem = e) (hb : b < n) (off len cp : Nat) (lo hi : Option Value) {l hh : Nat} (hlo : boundOf lo 0 = some l) (hhi : boundOf hi len = some hh) (h1 : l ≤ hh) (h2 : hh ≤ len) (h3 : len ≤ cp) (k : Value → M β) (_ : T')
    (y : Run W n0 (k (.slice (some ⟨b, if cp = l then off else off + l, none⟩) (hh - l) (cp - l))) h n Q) : Run W n0 (ksc e 1 (.slice (some ⟨b, off, none⟩) len cp) lo hi k) h n Q := by
  refine run_ins ?_
  have e1 : ((hdr3 b).bind fun e' => match Nat.beq e' e with
      | true => M.lift (sl1 1 (some ⟨b, off, none⟩) len cp lo hi)
      | false => .fail) h n = some ⟨.slice (some ⟨b, if cp = l then off else off + l, none⟩) (hh - l) (cp - l), h, n, [⟨false, b, some 1099511627776⟩] ++ []⟩ := by
    rw [hdr3_eq]
    refine bind_run (hdr_run hg hb) ?_
    rw [he, Nat.beq_refl]
    simp only
    unfold sl1
    simp only [hlo, hhi]
    have : (decide (l ≤ hh) && decide (hh ≤ cp) && decide (cp ≤ cp) && (decide (cp < CAP) || (none : Option Value).isNone && decide (hh ≤ len))) = true := by simp; omega
    simp only [this, if_true, Nat.mul_one]
    rfl
  obtain ⟨L', e2, e3⟩ := inside_ro (W := W) (n0 := n0) e1 (by simp)
  exact Run.step e2 (Nat.le_refl _) e3 y
theorem slice_nil {T T' : Prop} (c : T) {e : TypeId} (len cp : Nat) (lo hi : Option Value) {l hh : Nat} (hlo : boundOf lo 0 = some l) (hhi : boundOf hi len = some hh) (h1 : l ≤ hh) (h2 : hh ≤ len) (h3 : len ≤ cp) (k : Value → M β) (_ : T')
    (y : Run W n0 (k (.slice none (hh - l) (cp - l))) h n Q) : Run W n0 (ksc e 1 (.slice none len cp) lo hi k) h n Q := by
  have : sl1 1 none len cp lo hi = some (.slice none (hh - l) (cp - l)) := by
    unfold sl1
    simp only [hlo, hhi]
    have : (decide (l ≤ hh) && decide (hh ≤ cp) && decide (cp ≤ cp) && (decide (cp < CAP) || (none : Option Value).isNone && decide (hh ≤ len))) = true := by simp; omega
    simp only [this, if_true]
  show Run W n0 (match sl1 1 none len cp lo hi with
    | some v => k v
    | none => .fail) h n Q
  rw [this]
  exact y
theorem bound_nat (k : IntKind) (x d : Nat) : boundOf (some (.int k (x : Int))) d = some x := by unfold boundOf; simp

/-! calls -/
theorem call_frame {P : Program} (hd : okDsts P = true) {gt : Nat → Hint} {lf d : Nat} {f : FuncId} {args : Array Value} {v : Value} {L : List En} (e : evCall2 P gt lf d f args h n = some ⟨v, h1, n1, L⟩) {W' : Nat → Prop} (hw : ∀ e ∈ L, e.wr = true → n ≤ e.b ∨ W' e.b) : ∀ b, b < n → ¬ W' b → h1.get b = h.get b := by
  obtain ⟨f0, e0⟩ := call2_ok hd d f args h n v h1 n1 L e
  have A := Loc.evCall P KN f0 f args h n v h1 n1 L (e0 f0 (Nat.le_refl _))
  intro b hb hn
  refine get_of_agrS fun k => A.frame b k ?_ (by omega)
  rintro ⟨e, he, h2, h3, _⟩
  rcases hw e he h2 with q | q
  · omega
  · exact hn (h3 ▸ q)
theorem run_call {P : Program} (hd : okDsts P = true) {gt : Nat → Hint} {lf d : Nat} {f : FuncId} {vs : List Value} {W' : Nat → Prop} {Q' : Value → H → Nat → Prop} (s : Run W' n (evCall2 P gt lf d f ⟨vs⟩) h n Q') (hn : n0 ≤ n) (hW : ∀ b, b < n → W' b → n0 ≤ b ∨ W b) {k : Value → M β}
    (x : ∀ v h1 n1, n ≤ n1 → (∀ b, b < n → ¬ W' b → h1.get b = h.get b) → Q' v h1 n1 → Run W n0 (k v) h1 n1 Q) : Run W n0 (kcl (evCall2 P gt lf d) f vs k) h n Q := by
  obtain ⟨v, h1, n1, L, e1, e2, e3, e4⟩ := s
  refine run_ins (m := evCall2 P gt lf d f ⟨vs⟩) (Run.step (inside_run e1) e2 (fun e he hwr => ?_) (x v h1 n1 e2 (call_frame hd e1 e3) e4))
  have hL := (List.mem_filter.1 he).1
  rcases e3 e hL hwr with q | q
  · exact .inl (by omega)
  · by_cases hlt : e.b < n
    · exact hW _ hlt q
    · exact .inl (by omega)
end

/-! literals; parts whose touches are told -/
section
variable {β : Type} {W : Nat → Prop} {n0 : Nat} {h h1 : H} {n n1 : Nat} {Q : β → H → Nat → Prop}
theorem inside_ret (v : Value) (k : Value → M β) : (inside (M.ret v)).bind k = k v := by
  have : inside (M.ret v) = M.ret v := by funext h n; rfl
  rw [this, bind_ret]
theorem run_lit0 {T : Prop} (c : T) {e : TypeId} (k : Value → M β) (x : Run W n0 (k (.slice (some ⟨n, 0, none⟩) 0 0)) (h.set n (some ⟨e, true, []⟩)) (n + 1) Q) : Run W n0 (kbs e [] 0 [] k) h n Q :=
  run_ins (run_new (newK _ _ (fun id => Value.slice (some ⟨id, 0, none⟩) 0 0) _ _) (Nat.le_succ n) x)
theorem chk_true (m : M β) : chkT true m = m := rfl
theorem timed_step {m : M Value} {v : Value} {L : List En} {k : Value × Tk → M β} (e : m h n = some ⟨v, h1, n1, L⟩) (hn : n ≤ n1) (hw : ∀ e ∈ L, e.wr = true → n0 ≤ e.b ∨ W e.b) (x : Run W n0 (k (v, ⟨n, n1, L⟩)) h1 n1 Q) : Run W n0 ((timed m).bind k) h n Q :=
  Run.step (timed_run e) hn hw x
theorem ret_tail {m : M Value} {v : Value} {L : List En} (e : m h n = some ⟨v, h1, n1, L⟩) : (m.bind fun v => M.ret v) h n = some ⟨v, h1, n1, L⟩ := by
  have := bind_run (f := fun v => M.ret v) e (L2 := []) (b := v) (h2 := h1) (n2 := n1) rfl
  rwa [List.append_nil] at this
theorem ins_ret {m : M Value} {v : Value} {L : List En} (e : m h n = some ⟨v, h1, n1, L⟩) : (insB m M.ret) h n = some ⟨v, h1, n1, L.filter fun e => !(decide (n ≤ e.b) && decide (e.b < n1))⟩ := by
  rw [insB_eq]
  exact ret_tail (inside_run e)
theorem timed_ld {T : Prop} (_ : T) (b off : Nat) (k : Value × Tk → M β) {B : AB} (hg : h.get b = some B) (hb : b < n) {v : Value} (hv : B.cells[off]? = some v) (x : Run W n0 (k (v, ⟨n, n, [⟨false, b, some off⟩]⟩)) h n Q) : Run W n0 ((timed (kld (.pointer (some ⟨b, off, none⟩)) M.ret)).bind k) h n Q := by
  have e : rd3 b off h n = some ⟨v, h, n, [⟨false, b, some off⟩]⟩ := by
    rw [rd3_eq]
    unfold rd
    simp only [hb, hg, hv, if_true]
  have e2 := ins_ret e
  have hf : [(⟨false, b, some off⟩ : En)].filter (fun e => !(decide (n ≤ e.b) && decide (e.b < n))) = [⟨false, b, some off⟩] := by
    simp; omega
  rw [hf] at e2
  exact timed_step e2 (Nat.le_refl _) (by simp) x
theorem timed_box {T : Prop} (_ : T) {t : TypeId} (v : Value) (k : Value × Tk → M β) (x : Run W n0 (k (.pointer (some ⟨n, 0, none⟩), ⟨n, n + 1, []⟩)) (h.set n (some ⟨t, true, v.cells.toList⟩)) (n + 1) Q) : Run W n0 ((timed (kbx t v M.ret)).bind k) h n Q := by
  rw [← cellsL_eq] at x
  exact timed_step (ins_ret (newK t (cellsL v) (fun id => Value.pointer (some ⟨id, 0, none⟩)) h n)) (Nat.le_succ n) (by simp) x
theorem timed_call {P : Program} (hd : okDsts P = true) {gt : Nat → Hint} {lf d : Nat} {f : FuncId} {vs : List Value} {W' : Nat → Prop} {Q' : Value → H → Nat → Prop} (s : Run W' n (evCall2 P gt lf d f ⟨vs⟩) h n Q') (hn : n0 ≤ n) (hW : ∀ b, b < n → W' b → n0 ≤ b ∨ W b) {k : Value × Tk → M β}
    (x : ∀ v h1 n1 L, n ≤ n1 → (∀ b, b < n → ¬ W' b → h1.get b = h.get b) → Q' v h1 n1 → (∀ e ∈ L, e.b < n) → (∀ e ∈ L, e.wr = true → W' e.b) → Run W n0 (k (v, ⟨n, n1, L⟩)) h1 n1 Q) : Run W n0 ((timed (kcl (evCall2 P gt lf d) f vs M.ret)).bind k) h n Q := by
  obtain ⟨v, h1, n1, L, e1, e2, e3, e4⟩ := s
  obtain ⟨f0, e0⟩ := call2_ok hd d f ⟨vs⟩ h n v h1 n1 L e1
  have A := Loc.evCall P KN f0 f ⟨vs⟩ h n v h1 n1 L (e0 f0 (Nat.le_refl _))
  have hlt : ∀ e ∈ L.filter (fun e => !(decide (n ≤ e.b) && decide (e.b < n1))), e.b < n := fun e he => by
    obtain ⟨h1, h2⟩ := List.mem_filter.1 he
    have := A.lt e h1
    simp at h2
    omega
  have hwr : ∀ e ∈ L.filter (fun e => !(decide (n ≤ e.b) && decide (e.b < n1))), e.wr = true → W' e.b := fun e he hw => by
    rcases e3 e (List.mem_filter.1 he).1 hw with q | q
    · have := hlt e he; omega
    · exact q
  exact timed_step (ins_ret e1) e2 (fun e he hw => hW _ (hlt e he) (hwr e he hw)) (x v h1 n1 _ e2 (call_frame hd e1 e3) e4 hlt hwr)
/-- a call that writes nothing, and a reading of what was there ahead of it -/
theorem clash_call_ld {a : Tk} {b k n2 : Nat} (ha : ∀ e ∈ a.log, e.wr = false) (hb : b < a.n) : a.clash ⟨n2, n2, [⟨false, b, some k⟩]⟩ = false := by
  unfold Tk.clash
  simp only [Bool.or_eq_false_iff]
  refine ⟨⟨⟨any_false fun x hx => by rw [ha x hx]; rfl, any_false fun x hx => ?_⟩, any_false fun x hx => ?_⟩, any_false fun x hx => ?_⟩
  · simp only [List.mem_cons, List.not_mem_nil, or_false] at hx; subst hx; rfl
  · first | (simp; done) | (simp; omega)
  · simp only [List.mem_cons, List.not_mem_nil, or_false] at hx; subst hx; first | (simp; done) | (simp; omega)
end

end Go.Proofs.YtmjolmggelkjlaaGreat.Ev
