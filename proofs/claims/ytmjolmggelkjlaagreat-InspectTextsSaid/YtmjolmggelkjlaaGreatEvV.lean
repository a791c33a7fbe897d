/- Elements of three cells: reading one, a variable of one, rows of one's own that grow. No program in sight. -/
import Derived.Test.YtmjolmggelkjlaaGreatEvU
namespace Go.Proofs.YtmjolmggelkjlaaGreat.Ev
set_option linter.unusedVariables false
set_option linter.unusedSimpArgs false
open Go

abbrev V3 := Value × Value × Value
def flat3 : List V3 → List Value
  | [] => []
  | t :: l => t.1 :: t.2.1 :: t.2.2 :: flat3 l
def agg3 (t : V3) : Value := .agg #[t.1, t.2.1, t.2.2]
theorem flat3_len : ∀ l : List V3, (flat3 l).length = l.length * 3
  | [] => rfl
  | t :: l => by simp only [flat3, List.length_cons, flat3_len l]; omega
theorem flat3_app : ∀ a b : List V3, flat3 (a ++ b) = flat3 a ++ flat3 b
  | [], b => rfl
  | t :: a, b => by simp only [List.cons_append, flat3, flat3_app a b]
theorem flat3_at : ∀ (l : List V3) (i : Nat) (h : i < l.length), ((flat3 l).drop (i * 3)).take 3 = [l[i].1, l[i].2.1, l[i].2.2]
  | [], i, h => by simp at h
  | t :: l, 0, h => by simp [flat3]
  | t :: l, i + 1, h => by
    have := flat3_at l i (by simpa using h)
    rw [show (i + 1) * 3 = i * 3 + 3 by omega]
    simp only [flat3, List.getElem_cons_succ]
    rw [← this]
    rfl
/-- fit to be cells -/
def One3 (t : V3) : Prop := one t.1 = true ∧ one t.2.1 = true ∧ one t.2.2 = true
section
variable {β : Type} {W : Nat → Prop} {n0 : Nat} {h : H} {n : Nat} {Q : β → H → Nat → Prop} {e : TypeId}
theorem run_klg {sz : Nat} (b off : Nat) (k : Value → M β) {B : AB} (hg : h.get b = some B) (hb : b < n) (hl : off + sz ≤ B.cells.length) (x : Run W n0 (k (.agg ((B.cells.drop off).take sz).toArray)) h n Q) : Run W n0 (klg sz (.pointer (some ⟨b, off, none⟩)) k) h n Q := by
  obtain ⟨L, e1, e2⟩ := rdN_run hg hb sz off hl
  refine run_ins ?_
  have e : ((rdN3 b off sz).bind fun vs => M.ret (Value.agg ⟨vs⟩)) h n = some ⟨.agg ((B.cells.drop off).take sz).toArray, h, n, L ++ []⟩ := by
    rw [rdN3_eq]
    exact bind_run e1 rfl
  obtain ⟨L', e3, e4⟩ := inside_ro (W := W) (n0 := n0) e (by simpa using e2)
  exact Run.step e3 (Nat.le_refl _) e4 x
theorem run_ld3 {T : Prop} (_ : T) {b off : Nat} {B : AB} (hg : h.get b = some B) (hb : b < n) {x : V3} (hv : (B.cells.drop off).take 3 = [x.1, x.2.1, x.2.2]) (k : Value → M β) (y : Run W n0 (k (agg3 x)) h n Q) : Run W n0 (klg 3 (.pointer (some ⟨b, off, none⟩)) k) h n Q := by
  have hlen : off + 3 ≤ B.cells.length := by
    have := congrArg List.length hv
    simp only [List.length_take, List.length_drop, List.length_cons, List.length_nil] at this
    omega
  refine run_klg b off k hg hb hlen ?_
  rw [hv]
  exact y
theorem wrN_run : ∀ (vs : List Value) (b off : Nat) (e : TypeId) (cs : List Value) (h : H) (n : Nat), h.get b = some ⟨e, true, cs⟩ → b < n → off + vs.length ≤ cs.length → vs.all one = true →
    ∃ h' L, wrN b off vs h n = some ⟨(), h', n, L⟩ ∧ h'.get b = some ⟨e, true, cs.take off ++ vs ++ cs.drop (off + vs.length)⟩ ∧ (∀ c, c ≠ b → h'.get c = h.get c) ∧ ∀ x ∈ L, x.b = b
  | [], b, off, e, cs, h, n, hg, hb, hl, _ => ⟨h, [], rfl, by simpa using hg, fun _ _ => rfl, by simp⟩
  | v :: vs, b, off, e, cs, h, n, hg, hb, hl, h1 => by
    simp only [List.all_cons, Bool.and_eq_true] at h1
    simp only [List.length_cons] at hl
    have hw : wr b off v h n = some ⟨(), h.set b (some ⟨e, true, cs.set off v⟩), n, [⟨false, b, some off⟩, ⟨true, b, some off⟩]⟩ := by
      unfold wr
      have : off < cs.length := by omega
      simp [hb, hg, this, h1.1]
    obtain ⟨h', L, e1, e2, e3, e4⟩ := wrN_run vs b (off + 1) e (cs.set off v) (h.set b (some ⟨e, true, cs.set off v⟩)) n (get_eq _ _ _) hb (by simp; omega) h1.2
    refine ⟨h', _, bind_run hw e1, ?_, fun c hc => (e3 c hc).trans (get_ne _ _ hc), fun x hx => ?_⟩
    · rw [e2]
      congr 2
      have ha : (cs.set off v).take (off + 1) = cs.take off ++ [v] := by
        rw [List.take_set, List.take_succ_eq_append_getElem (by omega), List.set_append_right _ _ (by simp; omega)]
        simp [Nat.min_eq_left (show off ≤ cs.length by omega)]
      have hd : (cs.set off v).drop (off + 1 + vs.length) = cs.drop (off + (v :: vs).length) := by
        rw [List.drop_set_of_lt (by omega)]
        congr 1
        simp only [List.length_cons]; omega
      rw [ha, hd]
      simp
    · rcases List.mem_append.1 hx with q | q
      · simp at q; rcases q with rfl | rfl <;> rfl
      · exact e4 x q
/-- a value of several cells is stored -/
theorem run_sta {T : Prop} (_ : T) {sz b off : Nat} {e : TypeId} {cs vs : List Value} {v : Value} (hv : v = .agg vs.toArray) (hl : vs.length = sz) (h1 : vs.all one = true) (hg : h.get b = some ⟨e, true, cs⟩) (hb : b < n) (ho : off + sz ≤ cs.length) (hw : n0 ≤ b ∨ W b) (k : Value → M β)
    (x : ∀ h', h'.get b = some ⟨e, true, cs.take off ++ vs ++ cs.drop (off + sz)⟩ → (∀ c, c ≠ b → h'.get c = h.get c) → Run W n0 (k undef) h' n Q) : Run W n0 (ksg sz (.pointer (some ⟨b, off, none⟩)) v k) h n Q := by
  obtain ⟨h', L, e1, e2, e3, e4⟩ := wrN_run vs b off e cs h n hg hb (by omega) h1
  subst hv
  have d : ksg sz (.pointer (some ⟨b, off, none⟩)) (.agg vs.toArray) k = insB ((wrN3 b off vs).bind fun _ => .ret undef) k := by
    show (match Nat.beq (lenV vs) sz with
      | true => insB ((wrN3 b off vs).bind fun _ => .ret undef) k
      | false => .fail) = _
    rw [lenV_eq, hl, Nat.beq_refl]
  rw [d]
  refine run_ins ?_
  have e5 : ((wrN3 b off vs).bind fun _ => M.ret undef) h n = some ⟨undef, h', n, L ++ []⟩ := by
    rw [wrN3_eq]
    exact bind_run e1 rfl
  refine Run.step (inside_run e5) (Nat.le_refl _) (fun y hy hy2 => ?_) (x h' (by rw [e2, hl]) e3)
  have := (List.mem_filter.1 hy).1
  rw [List.append_nil] at this
  rw [e4 y this]
  exact hw
/-- a variable of such a type, and what is put into it -/
theorem run_var3 {T : Prop} (_ : T) {z : List Value} (x : V3) (hx : One3 x) (k : Value → M β) (y : ∀ h', h'.get n = some ⟨e, true, [x.1, x.2.1, x.2.2]⟩ → (∀ b, b < n → h'.get b = h.get b) → Run W n0 (k (.pointer (some ⟨n, 0, none⟩))) h' (n + 1) Q) (hn : n0 ≤ n) (hz : z.length = 3 := by rfl) :
    Run W n0 (kal e z fun p => ksg 3 p (agg3 x) fun _ => k p) h n Q := by
  refine run_alloc rfl _ ?_
  refine run_sta trivial (vs := [x.1, x.2.1, x.2.2]) rfl rfl (by simp [hx.1, hx.2.1, hx.2.2]) (get_eq _ _ _) (Nat.lt_succ_self n) (by rw [hz]; exact Nat.le_refl _) (.inl hn) _ fun h' g1 g2 => ?_
  refine y h' ?_ fun b hb => by rw [g2 b (by omega), get_ne _ _ (by omega)]
  rw [g1]
  simp [hz]

/-- a row of one's own of such elements, that grows -/
def Own3 (h : H) (lo n : Nat) (e : TypeId) (v : Value) (ts : List V3) : Prop := (v = .slice none 0 0 ∧ ts = []) ∨ ∃ b, v = .slice (some ⟨b, 0, none⟩) ts.length (CAP + ts.length) ∧ h.get b = some ⟨e, true, flat3 ts⟩ ∧ lo ≤ b ∧ b < n
theorem Own3.nil (h : H) (lo n : Nat) (e : TypeId) : Own3 h lo n e (.slice none 0 0) [] := .inl ⟨rfl, rfl⟩
theorem Own3.keep {lo : Nat} {v : Value} {ts : List V3} {h' : H} {n' : Nat} (o : Own3 h lo n e v ts) (hn : n ≤ n') (hk : ∀ b, InBlk v b → h'.get b = h.get b) : Own3 h' lo n' e v ts := by
  rcases o with q | ⟨c, rfl, hc, h1, h2⟩
  · exact .inl q
  · exact .inr ⟨c, rfl, (hk c ⟨_, _, _, rfl⟩).trans hc, h1, by omega⟩
theorem Own3.lt {lo : Nat} {v : Value} {ts : List V3} (o : Own3 h lo n e v ts) {b : Nat} (hb : InBlk v b) : lo ≤ b ∧ b < n := by
  rcases o with ⟨rfl, _⟩ | ⟨c, rfl, _, h1, h2⟩
  · exact hb.not_nil.elim
  · rw [hb.inj]; exact ⟨h1, h2⟩
theorem Own3.low {lo lo' : Nat} {v : Value} {ts : List V3} (o : Own3 h lo n e v ts) (hl : lo' ≤ lo) : Own3 h lo' n e v ts := by
  rcases o with q | ⟨c, hv, hc, h1, h2⟩
  · exact .inl q
  · exact .inr ⟨c, hv, hc, by omega, h2⟩
theorem Own3.len {lo : Nat} {v : Value} {ts : List V3} (o : Own3 h lo n e v ts) : ∃ a c, v = .slice a ts.length c := by
  rcases o with ⟨rfl, rfl⟩ | ⟨b, rfl, _⟩
  · exact ⟨none, 0, rfl⟩
  · exact ⟨_, _, rfl⟩
theorem run_push3 {T : Prop} (_ : T) {x : V3} (hx : One3 x) {lo : Nat} {v : Value} {ts : List V3} (o : Own3 h lo n e v ts) (hm : ts.length + 1 ≤ 1099511627776) (hlo : n0 ≤ lo) (hln : lo ≤ n) (k : Value → M β)
    (y : ∀ v' h', Own3 h' lo (n + 2) e v' (ts ++ [x]) → (∀ b, InBlk v' b → n ≤ b) → (∀ b, b < n → ¬ InBlk v b → h'.get b = h.get b) → Run W n0 (k v') h' (n + 2) Q) : Run W n0 (kb1 e 3 (agg3 x) fun w => kap e 3 v w k) h n Q := by
  have d : ∀ K : Value → M β, kb1 e 3 (agg3 x) K = insB ((newB3 e [x.1, x.2.1, x.2.2]).bind fun id => M.ret (Value.slice (some ⟨id, 0, none⟩) 1 1)) K := fun K => by
    unfold kb1
    rw [show Nat.beq (lenV (cellsL (agg3 x))) 3 = true by rw [lenV_eq]; rfl]
    rfl
  rw [d]
  refine run_ins (run_new (newK _ _ (fun id => Value.slice (some ⟨id, 0, none⟩) 1 1) _ _) (Nat.le_succ n) ?_)
  have hgn : (h.set n (some ⟨e, true, [x.1, x.2.1, x.2.2]⟩)).get n = some ⟨e, true, [x.1, x.2.1, x.2.2]⟩ := get_eq _ _ _
  obtain ⟨L, r1, r2⟩ := rdN_run (n := n + 1) hgn (Nat.lt_succ_self n) 3 0 (by simp)
  have r1 : elemsOf 3 1 (.slice (some ⟨n, 0, none⟩) 1 1) (h.set n (some ⟨e, true, [x.1, x.2.1, x.2.2]⟩)) (n + 1) = some ⟨[x.1, x.2.1, x.2.2], h.set n (some ⟨e, true, [x.1, x.2.1, x.2.2]⟩), n + 1, L⟩ := by
    unfold elemsOf
    simpa using r1
  have hone : ([x.1, x.2.1, x.2.2]).all one = true := by simp [hx.1, hx.2.1, hx.2.2]
  refine run_ins ?_
  rcases o with ⟨rfl, rfl⟩ | ⟨b, rfl, hb, h1, h2⟩
  · have ea : appQ e 3 (.slice none 0 0) (.slice (some ⟨n, 0, none⟩) 1 1) (h.set n (some ⟨e, true, [x.1, x.2.1, x.2.2]⟩)) (n + 1) = some ⟨.slice (some ⟨n + 1, 0, none⟩) 1 (CAP + 1), (h.set n (some ⟨e, true, [x.1, x.2.1, x.2.2]⟩)).set (n + 1) (some ⟨e, true, [x.1, x.2.1, x.2.2]⟩), n + 2, L ++ ([] ++ [])⟩ := by
      unfold appQ
      rw [elems3_eq, newB3_eq]
      simp only [lenOf?]
      rw [if_neg (by omega), if_pos (by omega)]
      refine bind_run r1 ?_
      rw [if_pos (by rw [hone]; rfl)]
      exact bind_run (newB_run _ _ _ _) rfl
    refine Run.step (inside_run ea) (by omega) (fun y hy hy2 => ?_) (y _ _ (.inr ⟨n + 1, rfl, by rw [get_eq]; rfl, by omega, by omega⟩) (fun b hb => by rw [hb.inj]; omega) (fun b hb _ => by rw [get_ne _ _ (by omega), get_ne _ _ (by omega)]))
    have := (List.mem_filter.1 hy).1
    simp at this
    rw [r2 y this] at hy2
    cases hy2
  · have hb' : (h.set n (some ⟨e, true, [x.1, x.2.1, x.2.2]⟩)).get b = some ⟨e, true, flat3 ts⟩ := by rw [get_ne _ _ (by omega)]; exact hb
    have hbn : b < n + 1 := by omega
    obtain ⟨L', s1, s2⟩ := rdN_run (n := n + 1) hb' hbn (ts.length * 3) 0 (by rw [flat3_len]; simp)
    rw [List.drop_zero, List.take_of_length_le (by rw [flat3_len]; exact Nat.le_refl _)] at s1
    have ea : ∃ L1, appQ e 3 (.slice (some ⟨b, 0, none⟩) ts.length (CAP + ts.length)) (.slice (some ⟨n, 0, none⟩) 1 1) (h.set n (some ⟨e, true, [x.1, x.2.1, x.2.2]⟩)) (n + 1) = some ⟨.slice (some ⟨n + 1, 0, none⟩) (ts.length + 1) (CAP + (ts.length + 1)), ((h.set n (some ⟨e, true, [x.1, x.2.1, x.2.2]⟩)).set b none).set (n + 1) (some ⟨e, true, flat3 ts ++ [x.1, x.2.1, x.2.2]⟩), n + 2, L1⟩ ∧ ∀ y ∈ L1, y.wr = true → y.b = b := by
      refine ⟨[⟨false, b, some 1099511627776⟩] ++ (L ++ (L' ++ ([⟨false, b, none⟩, ⟨true, b, none⟩] ++ ([] ++ [])))), ?_, ?_⟩
      · unfold appQ appTo
        rw [elems3_eq, newB3_eq, hdr3_eq, kill3_eq, rdN3_eq]
        simp only [lenOf?]
        rw [if_neg (by omega), if_pos hm]
        refine bind_run (hdr_run hb' hbn) ?_
        simp only [if_true]
        refine bind_run r1 ?_
        rw [if_pos (by rw [hone]; rfl)]
        rw [if_neg (by omega)]
        refine bind_run s1 (bind_run (kill_run hb' rfl hbn) ?_)
        exact bind_run (newB_run _ _ _ _) rfl
      · intro y hy hy2
        simp only [List.append_nil, List.mem_append, List.mem_cons, List.not_mem_nil, or_false] at hy
        rcases hy with rfl | hy | hy | rfl | rfl
        · cases hy2
        · rw [r2 y hy] at hy2; cases hy2
        · rw [s2 y hy] at hy2; cases hy2
        · cases hy2
        · rfl
    obtain ⟨L1, ea, hL1⟩ := ea
    refine Run.step (inside_run ea) (by omega) (fun y hy hy2 => .inl ?_) (y _ _ (.inr ⟨n + 1, by simp, ?_, by omega, by omega⟩) (fun b hb => by rw [hb.inj]; omega) (fun d hd hn => ?_))
    · rw [hL1 y (List.mem_filter.1 hy).1 hy2]; omega
    · rw [get_eq, flat3_app]
      rfl
    · have : d ≠ b := fun e => hn ⟨0, _, _, by rw [e]⟩
      rw [get_ne _ _ (by omega), get_ne _ _ this, get_ne _ _ (by omega)]
end

end Go.Proofs.YtmjolmggelkjlaaGreat.Ev
