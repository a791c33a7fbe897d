/- Elements of three cells: reading one, a variable of one, rows of one's own that grow. No program in sight. -/
import Derived.Test.YthhhkplbjcknkaaGreatDoorEvU
namespace Go.Proofs.YthhhkplbjcknkaaGreatDoor.Ev
set_option linter.unusedVariables false
set_option linter.unusedSimpArgs false
open Go

structure Cell3 (P : Program) (t e : TypeId) (z : Value) : Prop where
  und : P.underlying t = some (.slice e)
  info : ∃ i, P.info? e = some i ∧ i.size = 3 ∧ i.bytes ≤ 64
  zero : zero? P e = some z
  zs : z.cells.size = 3
  agg : agg? P e = some true
  fill : ∀ a b c : Value, Instr.fill (fun i => some (i * 3, 3)) (zeros z (1 * 3)) [(0, .agg #[a, b, c])] = some #[a, b, c]
theorem Cell3.size {P : Program} {t e : TypeId} {z : Value} (c : Cell3 P t e z) : size? P e = some 3 := by
  obtain ⟨i, h1, h2, _⟩ := c.info
  unfold size?
  rw [h1]
  simp [h2]
abbrev V3 := Value × Value × Value
def flat3 : List V3 → List Value
  | [] => []
  | t :: l => t.1 :: t.2.1 :: t.2.2 :: flat3 l
def agg3 (t : V3) : Value := .agg #[t.1, t.2.1, t.2.2]
theorem flat3_len : ∀ l : List V3, (flat3 l).length = l.length * 3
  | [] => rfl
  | t :: l => by simp only [flat3, List.length_cons, flat3_len l]; omega
theorem flat3_app : ∀ a b : List V3, flat3 (a ++ b) = flat3 a ++ flat3 b
  | [], b => rfl
  | t :: a, b => by simp only [List.cons_append, flat3, flat3_app a b]
theorem flat3_at : ∀ (l : List V3) (i : Nat) (h : i < l.length), ((flat3 l).drop (i * 3)).take 3 = [l[i].1, l[i].2.1, l[i].2.2]
  | [], i, h => by simp at h
  | t :: l, 0, h => by simp [flat3]
  | t :: l, i + 1, h => by
    have := flat3_at l i (by simpa using h)
    rw [show (i + 1) * 3 = i * 3 + 3 by omega]
    simp only [flat3, List.getElem_cons_succ]
    rw [← this]
    rfl
/-- fit to be cells -/
def One3 (t : V3) : Prop := one t.1 = true ∧ one t.2.1 = true ∧ one t.2.2 = true
section
variable {β : Type} {W : Nat → Prop} {n0 : Nat} {h : H} {n : Nat} {Q : β → H → Nat → Prop} {P : Program} {t e : TypeId} {z : Value}
theorem run_ld3 (c : Cell3 P t e z) {b off : Nat} {B : AB} (hg : h.get b = some B) (hb : b < n) {x : V3} (hv : (B.cells.drop off).take 3 = [x.1, x.2.1, x.2.2]) (k : Value → M β) (y : Run W n0 (k (agg3 x)) h n Q) : Run W n0 ((inside (evLoad P e (.pointer (some ⟨b, off, none⟩)))).bind k) h n Q := by
  have hlen : off + 3 ≤ B.cells.length := by
    have := congrArg List.length hv
    simp only [List.length_take, List.length_drop, List.length_cons, List.length_nil] at this
    omega
  obtain ⟨L, e1, e2⟩ := rdN_run (n := n) hg hb 3 off hlen
  have e : evLoad P e (.pointer (some ⟨b, off, none⟩)) h n = some ⟨agg3 x, h, n, L ++ []⟩ := by
    unfold evLoad
    simp only [c.agg, c.size]
    refine bind_run e1 ?_
    rw [hv]
    rfl
  obtain ⟨L', f1, f2⟩ := inside_ro (W := W) (n0 := n0) e (by simpa using e2)
  exact Run.step f1 (Nat.le_refl _) f2 y
/-- a variable of such a type, and what is put into it -/
theorem run_var3 (c : Cell3 P t e z) (x : V3) (hx : One3 x) (k : Value → M β) (y : ∀ h', h'.get n = some ⟨e, true, [x.1, x.2.1, x.2.2]⟩ → (∀ b, b < n → h'.get b = h.get b) → Run W n0 (k (.pointer (some ⟨n, 0, none⟩))) h' (n + 1) Q) (hn : n0 ≤ n) :
    Run W n0 ((inside (evAlloc P e)).bind fun p => (inside (evStore P e p (agg3 x))).bind fun _ => k p) h n Q := by
  refine run_alloc c.zero _ ?_
  obtain ⟨z0, z1, z2, hz⟩ : ∃ a b d, z.cells.toList = [a, b, d] := by
    have := c.zs
    rw [← Array.length_toList] at this
    match hh : z.cells.toList, this with
    | [a, b, d], _ => exact ⟨a, b, d, rfl⟩
  rw [hz]
  have st : ∀ (j : Nat) (v : Value) (h0 : H) (cs : List Value), h0.get n = some ⟨e, true, cs⟩ → j < cs.length → one v = true → wr n j v h0 (n + 1) = some ⟨(), h0.set n (some ⟨e, true, cs.set j v⟩), n + 1, [⟨false, n, some j⟩, ⟨true, n, some j⟩]⟩ := by
    intro j v h0 cs hg hj hv
    unfold wr
    simp [hg, hj, hv]
  have w0 := st 0 x.1 (h.set n (some ⟨e, true, [z0, z1, z2]⟩)) [z0, z1, z2] (get_eq _ _ _) (by simp) hx.1
  have w1 := st 1 x.2.1 ((h.set n (some ⟨e, true, [z0, z1, z2]⟩)).set n (some ⟨e, true, [x.1, z1, z2]⟩)) [x.1, z1, z2] (get_eq _ _ _) (by simp) hx.2.1
  have w2 := st 2 x.2.2 (((h.set n (some ⟨e, true, [z0, z1, z2]⟩)).set n (some ⟨e, true, [x.1, z1, z2]⟩)).set n (some ⟨e, true, [x.1, x.2.1, z2]⟩)) [x.1, x.2.1, z2] (get_eq _ _ _) (by simp) hx.2.2
  have nil : ∀ h0 : H, wrN n 3 [] h0 (n + 1) = some ⟨(), h0, n + 1, []⟩ := fun _ => rfl
  have c2 := bind_run (f := fun _ => wrN n 3 []) w2 (nil _)
  have c1 := bind_run (f := fun _ => wrN n 2 [x.2.2]) w1 c2
  have c0 := bind_run (f := fun _ => wrN n 1 [x.2.1, x.2.2]) w0 c1
  have ee : ∃ h' L, evStore P e (.pointer (some ⟨n, 0, none⟩)) (agg3 x) (h.set n (some ⟨e, true, [z0, z1, z2]⟩)) (n + 1) = some ⟨undef, h', n + 1, L⟩ ∧ h'.get n = some ⟨e, true, [x.1, x.2.1, x.2.2]⟩ ∧ (∀ b, b < n → h'.get b = h.get b) ∧ ∀ y ∈ L, y.wr = true → y.b = n := by
    have hsz : (agg3 x).cells.size = 3 := rfl
    have cc := bind_run (f := fun _ => M.ret undef) (m := wrN n 0 [x.1, x.2.1, x.2.2]) c0 (L2 := []) (b := undef) (h2 := (((h.set n (some ⟨e, true, [z0, z1, z2]⟩)).set n (some ⟨e, true, [x.1, z1, z2]⟩)).set n (some ⟨e, true, [x.1, x.2.1, z2]⟩)).set n (some ⟨e, true, [x.1, x.2.1, x.2.2]⟩)) (n2 := n + 1) rfl
    have es : evStore P e (.pointer (some ⟨n, 0, none⟩)) (agg3 x) = (wrN n 0 [x.1, x.2.1, x.2.2]).bind fun _ => M.ret undef := by
      unfold evStore
      simp only [c.size, hsz, if_true]
      rfl
    rw [← es] at cc
    refine ⟨_, _, cc, get_eq _ _ _, fun b hb => ?_, ?_⟩
    · rw [get_ne _ _ (by omega), get_ne _ _ (by omega), get_ne _ _ (by omega), get_ne _ _ (by omega)]
    · intro y hy hy2
      simp at hy
      rcases hy with rfl | rfl | rfl | rfl | rfl | rfl <;> rfl
  obtain ⟨h', L, f1, f2, f3, f4⟩ := ee
  refine Run.step (inside_run f1) (Nat.le_refl _) (fun y hy hy2 => .inl ?_) (y h' f2 f3)
  rw [f4 y (List.mem_filter.1 hy).1 hy2]
  exact hn

/-- a row of one's own of such elements, that grows -/
def Own3 (h : H) (lo n : Nat) (e : TypeId) (v : Value) (ts : List V3) : Prop := (v = .slice none 0 0 ∧ ts = []) ∨ ∃ b, v = .slice (some ⟨b, 0, none⟩) ts.length (CAP + ts.length) ∧ h.get b = some ⟨e, true, flat3 ts⟩ ∧ lo ≤ b ∧ b < n
theorem Own3.nil (h : H) (lo n : Nat) (e : TypeId) : Own3 h lo n e (.slice none 0 0) [] := .inl ⟨rfl, rfl⟩
theorem Own3.keep {lo : Nat} {v : Value} {ts : List V3} {h' : H} {n' : Nat} (o : Own3 h lo n e v ts) (hn : n ≤ n') (hk : ∀ b, InBlk v b → h'.get b = h.get b) : Own3 h' lo n' e v ts := by
  rcases o with q | ⟨c, rfl, hc, h1, h2⟩
  · exact .inl q
  · exact .inr ⟨c, rfl, (hk c ⟨_, _, _, rfl⟩).trans hc, h1, by omega⟩
theorem Own3.lt {lo : Nat} {v : Value} {ts : List V3} (o : Own3 h lo n e v ts) {b : Nat} (hb : InBlk v b) : lo ≤ b ∧ b < n := by
  rcases o with ⟨rfl, _⟩ | ⟨c, rfl, _, h1, h2⟩
  · exact hb.not_nil.elim
  · rw [hb.inj]; exact ⟨h1, h2⟩
theorem Own3.low {lo lo' : Nat} {v : Value} {ts : List V3} (o : Own3 h lo n e v ts) (hl : lo' ≤ lo) : Own3 h lo' n e v ts := by
  rcases o with q | ⟨c, hv, hc, h1, h2⟩
  · exact .inl q
  · exact .inr ⟨c, hv, hc, by omega, h2⟩
theorem Own3.len {lo : Nat} {v : Value} {ts : List V3} (o : Own3 h lo n e v ts) : ∃ a c, v = .slice a ts.length c := by
  rcases o with ⟨rfl, rfl⟩ | ⟨b, rfl, _⟩
  · exact ⟨none, 0, rfl⟩
  · exact ⟨_, _, rfl⟩
theorem run_push3 (c : Cell3 P t e z) {x : V3} (hx : One3 x) {lo : Nat} {v : Value} {ts : List V3} (o : Own3 h lo n e v ts) (hm : ts.length + 1 ≤ 1099511627776) (hlo : n0 ≤ lo) (hln : lo ≤ n) (k : Value → M β)
    (y : ∀ v' h', Own3 h' lo (n + 2) e v' (ts ++ [x]) → (∀ b, InBlk v' b → n ≤ b) → (∀ b, b < n → ¬ InBlk v b → h'.get b = h.get b) → Run W n0 (k v') h' (n + 2) Q) : Run W n0 ((inside (evBuildSlice P t 1 [(0, agg3 x)])).bind fun w => (inside (evAppend P t v w)).bind k) h n Q := by
  obtain ⟨i, i1, i2, i3⟩ := c.info
  have lit : evBuildSlice P t 1 [(0, agg3 x)] h n = some ⟨.slice (some ⟨n, 0, none⟩) 1 1, h.set n (some ⟨e, true, [x.1, x.2.1, x.2.2]⟩), n + 1, []⟩ := by
    unfold evBuildSlice
    simp only [c.und, c.size, c.zero]
    rw [if_neg (by simp), if_pos (by simp)]
    have := c.fill x.1 x.2.1 x.2.2
    unfold agg3
    rw [this]
    exact bind_run (newB_run _ _ _ _) rfl
  refine run_new lit (Nat.le_succ n) ?_
  have hgn : (h.set n (some ⟨e, true, [x.1, x.2.1, x.2.2]⟩)).get n = some ⟨e, true, [x.1, x.2.1, x.2.2]⟩ := get_eq _ _ _
  obtain ⟨L, r1, r2⟩ := rdN_run (n := n + 1) hgn (Nat.lt_succ_self n) 3 0 (by simp)
  have r1 : elemsOf 3 1 (.slice (some ⟨n, 0, none⟩) 1 1) (h.set n (some ⟨e, true, [x.1, x.2.1, x.2.2]⟩)) (n + 1) = some ⟨[x.1, x.2.1, x.2.2], h.set n (some ⟨e, true, [x.1, x.2.1, x.2.2]⟩), n + 1, L⟩ := by
    unfold elemsOf
    simpa using r1
  have hone : ([x.1, x.2.1, x.2.2]).all one = true := by simp [hx.1, hx.2.1, hx.2.2]
  rcases o with ⟨rfl, rfl⟩ | ⟨b, rfl, hb, h1, h2⟩
  · have ea : evAppend P t (.slice none 0 0) (.slice (some ⟨n, 0, none⟩) 1 1) (h.set n (some ⟨e, true, [x.1, x.2.1, x.2.2]⟩)) (n + 1) = some ⟨.slice (some ⟨n + 1, 0, none⟩) 1 (CAP + 1), (h.set n (some ⟨e, true, [x.1, x.2.1, x.2.2]⟩)).set (n + 1) (some ⟨e, true, [x.1, x.2.1, x.2.2]⟩), n + 2, L ++ ([] ++ [])⟩ := by
      unfold evAppend
      simp only [c.und, i1, c.zero, lenOf?]
      rw [if_pos (by simp [i2, i3, c.zs]), if_neg (by omega), if_pos (by omega), i2]
      refine bind_run r1 ?_
      rw [if_pos (by rw [hone]; rfl)]
      unfold evNew
      exact bind_run (newB_run _ _ _ _) rfl
    refine Run.step (inside_run ea) (by omega) (fun y hy hy2 => ?_) (y _ _ (.inr ⟨n + 1, rfl, by rw [get_eq]; rfl, by omega, by omega⟩) (fun b hb => by rw [hb.inj]; omega) (fun b hb _ => by rw [get_ne _ _ (by omega), get_ne _ _ (by omega)]))
    have := (List.mem_filter.1 hy).1
    simp at this
    rw [r2 y this] at hy2
    cases hy2
  · have hb' : (h.set n (some ⟨e, true, [x.1, x.2.1, x.2.2]⟩)).get b = some ⟨e, true, flat3 ts⟩ := by rw [get_ne _ _ (by omega)]; exact hb
    have hbn : b < n + 1 := by omega
    obtain ⟨L', s1, s2⟩ := rdN_run (n := n + 1) hb' hbn (ts.length * 3) 0 (by rw [flat3_len]; simp)
    rw [List.drop_zero, List.take_of_length_le (by rw [flat3_len]; exact Nat.le_refl _)] at s1
    have ea : ∃ L1, evAppend P t (.slice (some ⟨b, 0, none⟩) ts.length (CAP + ts.length)) (.slice (some ⟨n, 0, none⟩) 1 1) (h.set n (some ⟨e, true, [x.1, x.2.1, x.2.2]⟩)) (n + 1) = some ⟨.slice (some ⟨n + 1, 0, none⟩) (ts.length + 1) (CAP + (ts.length + 1)), ((h.set n (some ⟨e, true, [x.1, x.2.1, x.2.2]⟩)).set b none).set (n + 1) (some ⟨e, true, flat3 ts ++ [x.1, x.2.1, x.2.2]⟩), n + 2, L1⟩ ∧ ∀ y ∈ L1, y.wr = true → y.b = b := by
      refine ⟨[⟨false, b, some 1099511627776⟩] ++ (L ++ (L' ++ ([⟨false, b, none⟩, ⟨true, b, none⟩] ++ ([] ++ [])))), ?_, ?_⟩
      · unfold evAppend
        simp only [c.und, i1, c.zero, lenOf?]
        rw [if_pos (by simp [i2, i3, c.zs]), if_neg (by omega), if_pos hm, i2]
        refine bind_run (hdr_run hb' hbn) ?_
        simp only [if_true]
        refine bind_run r1 ?_
        rw [if_pos (by rw [hone]; rfl)]
        unfold evAppendTo
        rw [if_neg (by omega)]
        refine bind_run s1 (bind_run (kill_run hb' rfl hbn) ?_)
        unfold evNew
        exact bind_run (newB_run _ _ _ _) rfl
      · intro y hy hy2
        simp only [List.append_nil, List.mem_append, List.mem_cons, List.not_mem_nil, or_false] at hy
        rcases hy with rfl | hy | hy | rfl | rfl
        · cases hy2
        · rw [r2 y hy] at hy2; cases hy2
        · rw [s2 y hy] at hy2; cases hy2
        · cases hy2
        · rfl
    obtain ⟨L1, ea, hL1⟩ := ea
    refine Run.step (inside_run ea) (by omega) (fun y hy hy2 => .inl ?_) (y _ _ (.inr ⟨n + 1, by simp, ?_, by omega, by omega⟩) (fun b hb => by rw [hb.inj]; omega) (fun d hd hn => ?_))
    · rw [hL1 y (List.mem_filter.1 hy).1 hy2]; omega
    · rw [get_eq, flat3_app]
      rfl
    · have : d ≠ b := fun e => hn ⟨0, _, _, by rw [e]⟩
      rw [get_ne _ _ (by omega), get_ne _ _ this, get_ne _ _ (by omega)]
end

end Go.Proofs.YthhhkplbjcknkaaGreatDoor.Ev
