/- Loops by their steps; rows of rows of numbers. No program in sight. -/
import Derived.Test.YtdagfcflbphoiaaDoorMah
import Derived.WalkKit
namespace Go.Proofs.YtdagfcflbphoiaaDoor.Ev
set_option linter.unusedVariables false
set_option linter.unusedSimpArgs false
open Go Go.RowKit
theorem run_for {β σ : Type} {W : Nat → Prop} {n0 : Nat} {Q : β → H → Nat → Prop} (N : Nat) (lp : Nat → Nat → σ → M β) (I : Nat → σ → H → Nat → Prop)
    (last : ∀ fu s h n, I N s h n → Run W n0 (lp (fu + 1) N s) h n Q)
    (step : ∀ fu i s h n, i < N → I i s h n → (∀ s' h' n', I (i + 1) s' h' n' → Run W n0 (lp fu (i + 1) s') h' n' Q) → Run W n0 (lp (fu + 1) i s) h n Q) :
    ∀ (fu i : Nat) (s : σ) (h : H) (n : Nat), i ≤ N → N - i < fu → I i s h n → Run W n0 (lp fu i s) h n Q := by
  have key : ∀ (m fu i : Nat) (s : σ) (h : H) (n : Nat), N - i = m → i ≤ N → N - i < fu → I i s h n → Run W n0 (lp fu i s) h n Q := by
    intro m
    induction m with
    | zero =>
      intro fu i s h n hm hi hf x
      obtain ⟨fu, rfl⟩ : ∃ f, fu = f + 1 := ⟨fu - 1, by omega⟩
      obtain rfl : i = N := by omega
      exact last fu s h n x
    | succ m ih =>
      intro fu i s h n hm hi hf x
      obtain ⟨fu, rfl⟩ : ∃ f, fu = f + 1 := ⟨fu - 1, by omega⟩
      exact step fu i s h n (by omega) x fun s' h' n' y => ih fu (i + 1) s' h' n' (by omega) (by omega) (by omega) y
  exact fun fu i s h n => key _ fu i s h n rfl

def VRow (h : H) (n : Nat) (e : TypeId) (v : Value) (cs : List Value) : Prop :=
  (∃ a c, v = .slice a 0 c ∧ (∀ b o, a ≠ some ⟨b, o, none⟩) ∧ cs = []) ∨ ∃ b off cap o ks, v = .slice (some ⟨b, off, none⟩) cs.length cap ∧ h.get b = some ⟨e, o, ks⟩ ∧ b < n ∧ off + cs.length ≤ ks.length ∧ (ks.drop off).take cs.length = cs ∧ cs.length ≤ cap
section
variable {h h' : H} {n n' lo hi : Nat} {e e' es ei : TypeId} {v v' : Value} {cs cs' : List Value} {xss : List (List Int)}
theorem VRow.keep (r : VRow h n e v cs) (hn : n ≤ n') (hk : ∀ b, InBlk v b → h'.get b = h.get b) : VRow h' n' e v cs := by
  rcases r with q | ⟨b, off, cap, o, ks, hv, hg, hb, r⟩
  · exact .inl q
  · exact .inr ⟨b, off, cap, o, ks, hv, (hk b ⟨_, _, _, hv⟩).trans hg, by omega, r⟩
theorem VRow.len (r : VRow h n e v cs) : ∃ a c, v = .slice a cs.length c := by
  rcases r with ⟨a, c, rfl, _, rfl⟩ | ⟨b, off, cap, o, ks, rfl, _⟩
  · exact ⟨a, c, rfl⟩
  · exact ⟨_, cap, rfl⟩
theorem VRow.some (r : VRow h n e v cs) (h0 : 0 < cs.length) : ∃ b off cap o ks, v = .slice (some ⟨b, off, none⟩) cs.length cap ∧ h.get b = some ⟨e, o, ks⟩ ∧ b < n ∧ ∀ i, i < cs.length → ks[off + i]? = some (cs.getD i undef) := by
  rcases r with ⟨a, c, _, _, rfl⟩ | ⟨b, off, cap, o, ks, hv, hg, hb, hl, ht, hc⟩
  · simp at h0
  · refine ⟨b, off, cap, o, ks, hv, hg, hb, fun i hi => ?_⟩
    have := congrArg (fun z => z[i]?) ht
    simp only [List.getElem?_take, hi, if_true, List.getElem?_drop] at this
    rw [this, List.getD_eq_getElem?_getD, List.getElem?_eq_getElem hi]
    rfl
theorem VRow.lt (r : VRow h n e v cs) {b : Nat} (hb : InBlk v b) : b < n := by
  rcases r with ⟨a, c, rfl, hne, _⟩ | ⟨c, off, cap, o, ks, rfl, hg, hbn, _⟩
  · obtain ⟨o, l, k, q⟩ := hb
    cases q
    exact absurd rfl (hne b o)
  · rw [hb.inj]; exact hbn
theorem Own.vrow (o : Own h lo n e v cs) : VRow h n e v cs := by
  rcases o with ⟨rfl, rfl⟩ | ⟨b, rfl, hg, _, hb⟩
  · exact .inl ⟨none, 0, rfl, fun _ _ q => (nomatch q), rfl⟩
  · exact .inr ⟨b, 0, CAP + cs.length, true, _, rfl, hg, hb, by omega, by rw [List.drop_zero, List.take_length], by omega⟩
theorem Own.elem (o : Own h lo n e v cs) {b : Nat} (hb : InBlk v b) : ∃ B, h.get b = Option.some B ∧ B.elem = e := by
  rcases o with ⟨rfl, _⟩ | ⟨c, rfl, hc, _⟩
  · exact hb.not_nil.elim
  · rw [hb.inj]; exact ⟨_, hc, rfl⟩
theorem Row.elem {k : IntKind} {xs : List Int} (r : Row h n e k v xs) {b : Nat} (hb : InBlk v b) : ∃ B, h.get b = Option.some B ∧ B.elem = e := by
  rcases r with ⟨a, c, rfl, hne, _⟩ | ⟨c, off, cap, o, ks, rfl, hg, _⟩
  · obtain ⟨o, l, k, q⟩ := hb
    cases q
    exact absurd rfl (hne b o)
  · rw [hb.inj]; exact ⟨_, hg, rfl⟩
theorem Own.apart (o : Own h lo n e v cs) {lo' : Nat} (o' : Own h lo' n e' v' cs') (hne : e ≠ e') {b : Nat} (hb : InBlk v b) : ¬ InBlk v' b := fun hb' => by
  obtain ⟨B, h1, h2⟩ := o.elem hb
  obtain ⟨B', h3, h4⟩ := o'.elem hb'
  rw [h1] at h3; cases h3
  exact hne (h2.symm.trans h4)
theorem Row.apart {k : IntKind} {xs : List Int} (o : Row h n e k v xs) {lo' : Nat} (o' : Own h lo' n e' v' cs') (hne : e ≠ e') {b : Nat} (hb : InBlk v b) : ¬ InBlk v' b := fun hb' => by
  obtain ⟨B, h1, h2⟩ := o.elem hb
  obtain ⟨B', h3, h4⟩ := o'.elem hb'
  rw [h1] at h3; cases h3
  exact hne (h2.symm.trans h4)

def RR (h : H) (n : Nat) (es ei : TypeId) (v : Value) (xss : List (List Int)) : Prop := ∃ cs, VRow h n es v cs ∧ cs.length = xss.length ∧ ∀ i, i < xss.length → Row h n ei .i64 (cs.getD i undef) (xss.getD i [])
theorem RR.len (r : RR h n es ei v xss) : ∃ a c, v = .slice a xss.length c := by
  obtain ⟨cs, r, hl, _⟩ := r
  rw [← hl]; exact r.len
theorem RR.keep (r : RR h n es ei v xss) (hn : n ≤ n') (hk : ∀ b, b < n → h'.get b = h.get b) : RR h' n' es ei v xss := by
  obtain ⟨cs, r, hl, hr⟩ := r
  exact ⟨cs, r.keep hn fun b hb => hk b (r.lt hb), hl, fun i hi => (hr i hi).keep hn hk⟩
theorem RR.at (r : RR h n es ei v xss) (h0 : 0 < xss.length) : ∃ b off cap o ks, v = .slice (some ⟨b, off, none⟩) xss.length cap ∧ h.get b = some ⟨es, o, ks⟩ ∧ b < n ∧ ∀ i, i < xss.length → ∃ x, ks[off + i]? = some x ∧ Row h n ei .i64 x (xss.getD i []) := by
  obtain ⟨cs, r, hl, hr⟩ := r
  obtain ⟨b, off, cap, o, ks, hv, hg, hb, ha⟩ := r.some (by omega)
  exact ⟨b, off, cap, o, ks, by rw [hv, hl], hg, hb, fun i hi => ⟨_, ha i (by omega), hr i hi⟩⟩
/-- a row of rows of one's own that grows: the rows in it lie in blocks below hi -/
def OwnRR (h : H) (lo hi n : Nat) (es ei : TypeId) (v : Value) (xss : List (List Int)) : Prop := ∃ cs, Own h lo n es v cs ∧ cs.length = xss.length ∧ ∀ i, i < xss.length → Row h n ei .i64 (cs.getD i undef) (xss.getD i []) ∧ ∀ b, InBlk (cs.getD i undef) b → b < hi
theorem OwnRR.nil (h : H) (lo hi n : Nat) (es ei : TypeId) : OwnRR h lo hi n es ei (.slice none 0 0) [] := ⟨[], Own.nil _ _ _ _, rfl, fun i hi => absurd hi (by simp)⟩
theorem OwnRR.rr (o : OwnRR h lo hi n es ei v xss) : RR h n es ei v xss := by
  obtain ⟨cs, o, hl, hr⟩ := o
  exact ⟨cs, o.vrow, hl, fun i hi => (hr i hi).1⟩
theorem OwnRR.lt (o : OwnRR h lo hi n es ei v xss) {b : Nat} (hb : InBlk v b) : lo ≤ b ∧ b < n := by
  obtain ⟨cs, o, _⟩ := o
  exact o.lt hb
theorem OwnRR.elem (o : OwnRR h lo hi n es ei v xss) {b : Nat} (hb : InBlk v b) : ∃ B, h.get b = Option.some B ∧ B.elem = es := by
  obtain ⟨cs, o, _⟩ := o
  exact o.elem hb
theorem OwnRR.keep (o : OwnRR h lo hi n es ei v xss) (hn : n ≤ n') (hk : ∀ b, b < n → (b < hi ∨ InBlk v b) → h'.get b = h.get b) : OwnRR h' lo hi n' es ei v xss := by
  obtain ⟨cs, o, hl, hr⟩ := o
  exact ⟨cs, o.keep hn fun b hb => hk b (o.lt hb).2 (.inr hb), hl, fun i hi => ⟨(hr i hi).1.keep' hn fun b hb => hk b ((hr i hi).1.lt hb) (.inl ((hr i hi).2 b hb)), (hr i hi).2⟩⟩
theorem OwnRR.up (o : OwnRR h lo hi n es ei v xss) {hi' : Nat} (hh : hi ≤ hi') : OwnRR h lo hi' n es ei v xss := by
  obtain ⟨cs, o, hl, hr⟩ := o
  exact ⟨cs, o, hl, fun i hi => ⟨(hr i hi).1, fun b hb => Nat.lt_of_lt_of_le ((hr i hi).2 b hb) hh⟩⟩
theorem getD_app1 {α : Type} (d : α) (l : List α) (x : α) (i : Nat) : (l ++ [x]).getD i d = if i < l.length then l.getD i d else if i = l.length then x else d := by
  rw [List.getD_eq_getElem?_getD, List.getD_eq_getElem?_getD]
  split
  · rename_i h; rw [List.getElem?_append_left h]
  · rename_i h
    split
    · rename_i h2; subst h2; simp
    · rw [List.getElem?_eq_none (by simp; omega)]; rfl
theorem run_pushRR {β : Type} {W : Nat → Prop} {n0 : Nat} {Q : β → H → Nat → Prop} {P : Program} {t : TypeId} {z : Value} (c : Cell1 P t es z) (hne : ei ≠ es) (o : OwnRR h lo hi n es ei v xss) {x : Value} {xs : List Int} (r : Row h n ei .i64 x xs) (hh : hi ≤ n) (hm : xss.length + 1 ≤ 1099511627776) (hlo : n0 ≤ lo) (hln : lo ≤ n) (k : Value → M β)
    (y : ∀ v' h', OwnRR h' lo n (n + 2) es ei v' (xss ++ [xs]) → (∀ b, b < n → ¬ InBlk v b → h'.get b = h.get b) → (∀ b, InBlk v' b → n ≤ b) → Run W n0 (k v') h' (n + 2) Q) : Run W n0 ((inside (evBuildSlice P t 1 [(0, x)])).bind fun w => (inside (evAppend P t v w)).bind k) h n Q := by
  obtain ⟨cs, o, hl, hr⟩ := o
  have hx : one x = true := by obtain ⟨a, c, rfl⟩ := r.len; rfl
  refine run_pushO c hx o (by omega) hlo k fun h' hg hk => ?_
  have kin : ∀ {u : Value} {us : List Int}, Row h n ei .i64 u us → Row h' (n + 2) ei .i64 u us := fun q => q.keep' (by omega) fun b hb => hk b (q.lt hb) (q.apart o hne hb)
  refine y _ h' ⟨cs ++ [x], .inr ⟨n + 1, by simp, hg, by omega, by omega⟩, by simp [hl], fun i hi => ?_⟩ hk fun b hb => by rw [hb.inj]; omega
  rw [getD_app1, getD_app1]
  by_cases c1 : i < xss.length
  · rw [if_pos (by omega), if_pos c1]
    exact ⟨kin (hr i c1).1, fun b hb => by have := (hr i c1).2 b hb; omega⟩
  · have : i = xss.length := by simp at hi; omega
    subst this
    rw [if_neg (by omega), if_pos (by omega), if_neg (by omega), if_pos rfl]
    exact ⟨kin r, fun b hb => r.lt hb⟩
end
end Go.Proofs.YtdagfcflbphoiaaDoor.Ev
/- Plain facts of layers 8 and 12: counts, groups, costs, picks, tables at first. No program in sight. -/
namespace Go.Proofs.YtdagfcflbphoiaaDoor.Tb
set_option linter.unusedVariables false
set_option linter.unusedSimpArgs false

def capI (x : Int) : Int := if 1099511627776 < x then 1099511627776 else x
theorem capI_cap {a y : Int} (hy : 0 ≤ y) : capI (capI a + y) = capI (a + y) := by
  unfold capI
  repeat' split
  all_goals omega
theorem capI_le (x : Int) : capI x ≤ 1099511627776 := by unfold capI; split <;> omega
theorem capI_ge {x : Int} (h : 0 ≤ x) : 0 ≤ capI x := by unfold capI; split <;> omega
theorem capI_id {x : Int} (h : x ≤ 1099511627776) : capI x = x := by unfold capI; rw [if_neg (by omega)]

def sumI : List Int → Int
  | [] => 0
  | x :: l => x + sumI l
theorem sumI_app : ∀ a b : List Int, sumI (a ++ b) = sumI a + sumI b
  | [], b => by simp [sumI]
  | x :: a, b => by simp only [List.cons_append, sumI, sumI_app a b]; omega
theorem sumI_ge : ∀ {l : List Int}, (∀ x ∈ l, 0 ≤ x) → 0 ≤ sumI l
  | [], _ => Int.le_refl 0
  | x :: l, h => by
    have := sumI_ge (l := l) fun y hy => h y (List.mem_cons_of_mem _ hy)
    have := h x List.mem_cons_self
    simp only [sumI]; omega
theorem sumI_le (B : Int) : ∀ {l : List Int}, (∀ x ∈ l, x ≤ B) → sumI l ≤ l.length * B
  | [], _ => by simp [sumI]
  | x :: l, h => by
    have := sumI_le B (l := l) fun y hy => h y (List.mem_cons_of_mem _ hy)
    have := h x List.mem_cons_self
    simp only [sumI, List.length_cons, Int.natCast_add, Int.add_mul]
    omega
theorem sumI_next {l : List Int} {i : Nat} (h : i < l.length) : sumI (l.take (i + 1)) = sumI (l.take i) + l.getD i 0 := by
  rw [List.take_succ_eq_append_getElem h, sumI_app, List.getD_eq_getElem?_getD, List.getElem?_eq_getElem h]
  simp [sumI]

def look (ls : List Int) (x : Int) : Int := ls.getD x.toNat 0
def costS (l ls : List Int) : Int := sumI (l.map (look ls))
def costL (l ls : List Int) : Int := capI (costS l ls)
theorem look_ge {ls : List Int} (h : ∀ x ∈ ls, 0 ≤ x) (x : Int) : 0 ≤ look ls x := by
  unfold look
  rw [List.getD_eq_getElem?_getD]
  by_cases hx : x.toNat < ls.length
  · rw [List.getElem?_eq_getElem hx]; exact h _ (List.getElem_mem hx)
  · rw [List.getElem?_eq_none (by omega)]; exact Int.le_refl 0
theorem costS_ge {l ls : List Int} (h : ∀ x ∈ ls, 0 ≤ x) : 0 ≤ costS l ls := sumI_ge fun x hx => by
  obtain ⟨y, _, rfl⟩ := List.mem_map.1 hx
  exact look_ge h y
theorem costL_ge {l ls : List Int} (h : ∀ x ∈ ls, 0 ≤ x) : 0 ≤ costL l ls := capI_ge (costS_ge h)
theorem costL_le (l ls : List Int) : costL l ls ≤ 1099511627776 := capI_le _
theorem cost_next {l ls : List Int} {i : Nat} (h : i < l.length) : costS (l.take (i + 1)) ls = costS (l.take i) ls + look ls (l.getD i 0) := by
  unfold costS
  rw [List.take_succ_eq_append_getElem h, List.map_append, sumI_app, List.getD_eq_getElem?_getD, List.getElem?_eq_getElem h]
  simp [sumI]
theorem capNext {l ls : List Int} (hp : ∀ x ∈ ls, 0 ≤ x) {i : Nat} (h : i < l.length) : capI (costL (l.take i) ls + look ls (l.getD i 0)) = costL (l.take (i + 1)) ls := by
  unfold costL
  rw [capI_cap (look_ge hp _), cost_next h]

def cntv (l : List Int) (v : Nat) : Nat := l.countP fun x => x == (v : Int)
def countsL (l : List Int) (size : Nat) : List Int := (List.range size).map fun v => (cntv l v : Int)
theorem countsL_len (l : List Int) (size : Nat) : (countsL l size).length = size := by unfold countsL; simp
theorem countsL_at {l : List Int} {size v : Nat} (h : v < size) : (countsL l size).getD v 0 = (cntv l v : Int) := by
  unfold countsL
  rw [List.getD_eq_getElem?_getD, List.getElem?_map, List.getElem?_range h]
  rfl
theorem cntv_le (l : List Int) (v : Nat) : cntv l v ≤ l.length := List.countP_le_length
theorem cntv_app (a b : List Int) (v : Nat) : cntv (a ++ b) v = cntv a v + cntv b v := List.countP_append
theorem cntv_next {l : List Int} {i : Nat} (h : i < l.length) (v : Nat) : cntv (l.take (i + 1)) v = cntv (l.take i) v + (if l.getD i 0 = (v : Int) then 1 else 0) := by
  rw [List.take_succ_eq_append_getElem h, cntv_app, List.getD_eq_getElem?_getD, List.getElem?_eq_getElem h]
  unfold cntv
  simp only [List.countP_cons, List.countP_nil, Option.getD_some, beq_iff_eq, Nat.zero_add]
theorem countsL_mem {l : List Int} {size : Nat} {x : Int} (h : x ∈ countsL l size) : 0 ≤ x ∧ x ≤ l.length := by
  unfold countsL at h
  obtain ⟨v, _, rfl⟩ := List.mem_map.1 h
  have := cntv_le l v
  omega
theorem countsL_nil (size : Nat) : countsL [] size = List.replicate size 0 := by
  apply List.ext_getElem
  · simp [countsL_len]
  · intro i h1 h2
    simp [countsL, cntv]
/-- a symbol more -/
theorem countsL_set {l : List Int} {size i v : Nat} (h : i < l.length) (hv : l.getD i 0 = (v : Int)) (hs : v < size) : (countsL (l.take i) size).set v ((cntv (l.take i) v : Int) + 1) = countsL (l.take (i + 1)) size := by
  apply List.ext_getElem
  · simp [countsL_len]
  · intro j h1 h2
    have e : ∀ (m : List Int) (h : j < (countsL m size).length), (countsL m size)[j] = (cntv m j : Int) := fun m h => by simp [countsL]
    rw [List.getElem_set, e, e, cntv_next h, hv]
    by_cases c : v = j
    · subst c; simp
    · rw [if_neg c, if_neg (by omega)]; simp
theorem sum_ind (f : Nat → Int) (x : Nat) : ∀ n : Nat, sumI ((List.range n).map fun v => if x = v then f v else 0) = if x < n then f x else 0
  | 0 => by simp [sumI]
  | n + 1 => by
    rw [List.range_succ, List.map_append, sumI_app, sum_ind f x n]
    simp only [List.map_cons, List.map_nil, sumI]
    by_cases h : x = n
    · subst h; rw [if_neg (by omega), if_pos rfl, if_pos (by omega)]; omega
    · rw [if_neg h]
      by_cases h2 : x < n
      · rw [if_pos h2, if_pos (by omega)]; omega
      · rw [if_neg h2, if_neg (by omega)]; omega
theorem sum_add (f g : Nat → Int) : ∀ l : List Nat, sumI (l.map fun v => f v + g v) = sumI (l.map f) + sumI (l.map g)
  | [] => rfl
  | x :: l => by simp only [List.map_cons, sumI, sum_add f g l]; omega
/-- weighed by symbols, or one by one -/
theorem cost_counts {ls : List Int} : ∀ {l : List Int}, (∀ x ∈ l, 0 ≤ x ∧ x < ls.length) → sumI ((List.range ls.length).map fun v => (cntv l v : Int) * ls.getD v 0) = costS l ls
  | [], _ => by
    have : ∀ m : List Nat, sumI (m.map fun v => (cntv [] v : Int) * ls.getD v 0) = 0 := by
      intro m
      induction m with
      | nil => rfl
      | cons a m ih => simp only [List.map_cons, sumI, ih]; simp [cntv]
    rw [this]
    rfl
  | x :: l, h => by
    have hx := h x List.mem_cons_self
    have ih := cost_counts (l := l) fun y hy => h y (List.mem_cons_of_mem _ hy)
    have e : (fun v : Nat => (cntv (x :: l) v : Int) * ls.getD v 0) = fun v => (cntv l v : Int) * ls.getD v 0 + (if x.toNat = v then ls.getD v 0 else 0) := by
      funext v
      unfold cntv
      rw [List.countP_cons]
      by_cases c : x.toNat = v
      · have : (x == (v : Int)) = true := by rw [beq_iff_eq]; omega
        rw [if_pos c, this, if_pos rfl]
        simp only [Int.natCast_add, Int.add_mul, Int.natCast_one, Int.one_mul]
      · have : (x == (v : Int)) = false := by rw [beq_eq_false_iff_ne]; omega
        rw [if_neg c, this]
        simp
    rw [e, sum_add, ih, sum_ind (fun v => ls.getD v 0), if_pos (by omega)]
    unfold costS
    simp only [List.map_cons, sumI, look]
    omega
/-- so far as the first symbols -/
def costU (l ls : List Int) (i : Nat) : Int := sumI ((List.range i).map fun v => (cntv l v : Int) * ls.getD v 0)
theorem costU_next (l ls : List Int) (i : Nat) : costU l ls (i + 1) = costU l ls i + (cntv l i : Int) * ls.getD i 0 := by
  unfold costU
  rw [List.range_succ, List.map_append, sumI_app]
  simp [sumI]
theorem getD_ge {ls : List Int} (h : ∀ x ∈ ls, 0 ≤ x) (i : Nat) : 0 ≤ ls.getD i 0 := by
  have := look_ge h (i : Int)
  simpa [look] using this

def grpN (n : Nat) : Nat := (n + 49) / 50
def grp (l : List Int) (i : Nat) : List Int := (l.drop (50 * i)).take 50
def groupsL (l : List Int) : List (List Int) := (List.range (grpN l.length)).map (grp l)
theorem groupsL_len (l : List Int) : (groupsL l).length = grpN l.length := by unfold groupsL; simp
theorem grp_mem {l : List Int} {i : Nat} {x : Int} (h : x ∈ grp l i) : x ∈ l := List.mem_of_mem_drop (List.mem_of_mem_take h)
theorem grp_len (l : List Int) (i : Nat) : (grp l i).length = min 50 (l.length - 50 * i) := by unfold grp; simp
theorem grp_pos {l : List Int} {i : Nat} (h : i < grpN l.length) : 0 < (grp l i).length := by rw [grp_len]; unfold grpN at h; omega
theorem groups_mem {l g : List Int} (h : g ∈ groupsL l) : (∀ x ∈ g, x ∈ l) ∧ 0 < g.length ∧ g.length ≤ 50 := by
  unfold groupsL at h
  obtain ⟨i, hi, rfl⟩ := List.mem_map.1 h
  have := grp_pos (List.mem_range.1 hi)
  exact ⟨fun x hx => grp_mem hx, this, by rw [grp_len]; omega⟩

def pickF (g : List Int) : List (List Int) → Nat → Nat → Int → Nat
  | [], _, b, _ => b
  | t :: T, p, b, m => if costL g t < m then pickF g T (p + 1) p (costL g t) else pickF g T (p + 1) b m
def pickL (g : List Int) (T : List (List Int)) : Nat := pickF g T 0 0 1099511627776
theorem pickL_cons (g t : List Int) (T : List (List Int)) : pickL g (t :: T) = pickF g T 1 0 (costL g t) := by
  unfold pickL
  simp only [pickF]
  have := costL_le g t
  split
  · rfl
  · rw [show (1099511627776 : Int) = costL g t by omega]
theorem pickF_lt (g : List Int) (N : Nat) : ∀ (T : List (List Int)) (p b : Nat) (m : Int), p + T.length ≤ N → b < N → pickF g T p b m < N
  | [], _, _, _, _, hb => hb
  | t :: T, p, b, m, h, hb => by
    simp only [List.length_cons] at h
    simp only [pickF]
    split
    · exact pickF_lt g N T (p + 1) p _ (by omega) (by omega)
    · exact pickF_lt g N T (p + 1) b _ (by omega) hb
theorem pickL_lt (g : List Int) {T : List (List Int)} (h : 0 < T.length) : pickL g T < T.length := pickF_lt g T.length T 0 0 _ (by omega) h

def picksL (gs T : List (List Int)) : List Nat := gs.map fun g => pickL g T
def allP (p : Nat) : List (List Int) → List Nat → List Int
  | g :: gs, q :: qs => (if q = p then g else []) ++ allP p gs qs
  | _, _ => []
theorem allP_app (p : Nat) : ∀ (gs : List (List Int)) (qs : List Nat) (g : List Int) (q : Nat), gs.length = qs.length → allP p (gs ++ [g]) (qs ++ [q]) = allP p gs qs ++ (if q = p then g else [])
  | [], [], g, q, _ => by simp [allP]
  | [], _ :: _, _, _, h => by simp at h
  | _ :: _, [], _, _, h => by simp at h
  | a :: gs, b :: qs, g, q, h => by
    simp only [List.cons_append, allP, List.append_assoc]
    rw [allP_app p gs qs g q (by simpa using h)]
theorem allP_len (p : Nat) : ∀ (gs : List (List Int)) (qs : List Nat), (∀ g ∈ gs, g.length ≤ 50) → (allP p gs qs).length ≤ 50 * gs.length
  | [], _, _ => by simp [allP]
  | _ :: _, [], _ => by simp [allP]
  | a :: gs, b :: qs, h => by
    have := allP_len p gs qs fun g hg => h g (List.mem_cons_of_mem _ hg)
    have := h a List.mem_cons_self
    simp only [allP, List.length_append, List.length_cons]
    split <;> simp <;> omega
def tabC (gs T : List (List Int)) (size p : Nat) : List Int := countsL (allP p gs (picksL gs T)) size
def addL (a b : List Int) : List Int := (List.range a.length).map fun i => capI (a.getD i 0 + b.getD i 0)
theorem addL_counts (a b : List Int) (size : Nat) (h : a.length + b.length ≤ 1099511627776) : addL (countsL a size) (countsL b size) = countsL (a ++ b) size := by
  apply List.ext_getElem
  · simp [addL, countsL_len]
  · intro i h1 h2
    have hs : i < size := by rw [countsL_len] at h2; exact h2
    have : (addL (countsL a size) (countsL b size))[i] = capI ((countsL a size).getD i 0 + (countsL b size).getD i 0) := by simp [addL]
    rw [this, countsL_at hs, countsL_at hs, show (countsL (a ++ b) size)[i] = ((cntv (a ++ b) i : Nat) : Int) by simp [countsL], cntv_app]
    have h3 := cntv_le a i
    have h4 := cntv_le b i
    rw [capI_id (by omega)]
    omega

def numL (n : Int) : Nat := if n < 200 then 2 else if n < 600 then 3 else if n < 1200 then 4 else if n < 2400 then 5 else 6
theorem numL_ge (n : Int) : 2 ≤ numL n ∧ numL n ≤ 6 := by unfold numL; repeat' split
                                                          all_goals omega
def belowL (counts : List Int) (n : Int) (v : Nat) : Int := if n - 1 < sumI (counts.take v) then n - 1 else sumI (counts.take v)
theorem belowL_next {counts : List Int} (h0 : ∀ x ∈ counts, 0 ≤ x) {n : Int} {v : Nat} (h : v < counts.length) : (if n - 1 < belowL counts n v + counts.getD v 0 then n - 1 else belowL counts n v + counts.getD v 0) = belowL counts n (v + 1) := by
  have := getD_ge h0 v
  unfold belowL
  rw [sumI_next h]
  repeat' split
  all_goals omega
theorem belowL_ge {counts : List Int} (h0 : ∀ x ∈ counts, 0 ≤ x) {n : Int} (hn : 1 ≤ n) (v : Nat) : 0 ≤ belowL counts n v ∧ belowL counts n v ≤ n - 1 := by
  have := sumI_ge (l := counts.take v) fun x hx => h0 x (List.mem_of_mem_take hx)
  unfold belowL
  split <;> omega
def mineL (counts : List Int) (n : Int) (v : Nat) : Nat := (belowL counts n v * (numL n : Int) / n).toNat
theorem mineL_eq {counts : List Int} (h0 : ∀ x ∈ counts, 0 ≤ x) {n : Int} (hn : 1 ≤ n) (v : Nat) : (belowL counts n v * (numL n : Int)).tdiv n = (mineL counts n v : Int) := by
  have h1 := (belowL_ge h0 hn v).1
  have h2 : 0 ≤ belowL counts n v * (numL n : Int) := Int.mul_nonneg h1 (by omega)
  rw [Int.tdiv_eq_ediv_of_nonneg h2]
  unfold mineL
  have := Int.ediv_nonneg h2 (show 0 ≤ n by omega)
  omega
def firstT (counts : List Int) (n : Int) (p : Nat) : List Int := (List.range counts.length).map fun v => if mineL counts n v = p then 0 else 15
def firstL (counts : List Int) (n : Int) : List (List Int) := (List.range (numL n)).map (firstT counts n)
theorem firstL_len (counts : List Int) (n : Int) : (firstL counts n).length = numL n := by unfold firstL; simp
theorem firstT_len (counts : List Int) (n : Int) (p : Nat) : (firstT counts n p).length = counts.length := by unfold firstT; simp
theorem firstT_mem {counts : List Int} {n : Int} {p : Nat} {x : Int} (h : x ∈ firstT counts n p) : 0 ≤ x ∧ x ≤ 15 := by
  unfold firstT at h
  obtain ⟨v, _, rfl⟩ := List.mem_map.1 h
  split <;> omega

end Go.Proofs.YtdagfcflbphoiaaDoor.Tb
/- Layer 8 by the second form: the program's counts, groups, costs. -/
namespace Go.Proofs.YtdagfcflbphoiaaDoor
set_option linter.unusedVariables false
set_option linter.unusedSimpArgs false
open Go.RowKit Ev Tb

theorem all_next {α : Type} (d : α) (p : α → Bool) {xs : List α} {i : Nat} (h : i < xs.length) : (xs.take (i + 1)).all p = ((xs.take i).all p && p (xs.getD i d)) := by
  rw [List.take_succ_eq_append_getElem h, List.all_append, List.getD_eq_getElem?_getD, List.getElem?_eq_getElem h]
  simp
theorem all_bad {α : Type} (d : α) (p : α → Bool) {xs : List α} {i : Nat} (h : i < xs.length) (hp : p (xs.getD i d) = false) : xs.all p = false := by
  rw [List.getD_eq_getElem?_getD, List.getElem?_eq_getElem h] at hp
  exact List.all_eq_false.2 ⟨_, List.getElem_mem h, by simpa using hp⟩
def inB (k : Int) (xs : List Int) : Bool := xs.all fun x => decide (0 ≤ x) && decide (x < k)
theorem inB_iff {k : Int} {xs : List Int} : inB k xs = true ↔ ∀ x ∈ xs, 0 ≤ x ∧ x < k := by unfold inB; simp
theorem gd_mem {xs : List Int} {i : Nat} (h : i < xs.length) : xs.getD i 0 ∈ xs := by
  rw [List.getD_eq_getElem?_getD, List.getElem?_eq_getElem h]
  exact List.getElem_mem h
theorem inB_neg {k : Int} {xs : List Int} {i : Nat} (h : i < xs.length) (h1 : xs.getD i 0 < 0) : inB k xs = false :=
  all_bad 0 _ h (by show (decide (0 ≤ xs.getD i 0) && decide (xs.getD i 0 < k)) = false; rw [decide_eq_false (Int.not_le.2 h1)]; rfl)
theorem inB_big {k : Int} {xs : List Int} {i : Nat} (h : i < xs.length) (h1 : k ≤ xs.getD i 0) : inB k xs = false :=
  all_bad 0 _ h (by show (decide (0 ≤ xs.getD i 0) && decide (xs.getD i 0 < k)) = false; rw [decide_eq_false (Int.not_lt.2 h1), Bool.and_false])
theorem inB_next {k x : Int} {xs : List Int} {i : Nat} (h : i < xs.length) (ha : inB k (xs.take i) = true) (hx : xs.getD i 0 = x) (h0 : 0 ≤ x) (h1 : x < k) : inB k (xs.take (i + 1)) = true := by
  unfold inB at ha ⊢
  rw [all_next 0 _ h, ha, hx, decide_eq_true h0, decide_eq_true h1]
  rfl
theorem w_next {i N : Nat} (h : i < N) (hN : N ≤ 9223372036854775807) : IntKind.i64.wrap ((i : Int) + 1) = ((i + 1 : Nat) : Int) := by rw [wrap_id (by omega) (by omega)]; rfl

section
variable (lf d n : Nat) (h : H)
theorem s_fmay (x : Int) : Run (fun _ => False) n (evCall2 Tryd.prog gt lf (d + 1) 61 #[.int .i64 x]) h n fun v' h' n' => v' = .bool (decide (0 ≤ x) && decide (x ≤ 1099511627776)) ∧ h' = h ∧ n' = n := by
  rw [sh_freq_may]
  refine Run.inside_ ?_
  unfold b_freq_may
  by_cases c : 0 ≤ x
  · try simp (disch := first | omega | assumption | exact one_int _ _ | exact one_slice _ _ _ | exact one_ptr _ | exact one_bool _ | exact one_string _) only [RXA, RXB, Nat.reduceAdd, Nat.reduceLT, wrap_id, wrap_succ, wrap_pred, FX1, c]
  · try simp (disch := first | omega | assumption | exact one_int _ _ | exact one_slice _ _ _ | exact one_ptr _ | exact one_bool _ | exact one_string _) only [RXA, RXB, Nat.reduceAdd, Nat.reduceLT, wrap_id, wrap_succ, wrap_pred, FX1, c]
theorem s_fall1 (x : Int) : Run (fun _ => False) n (evCall2 Tryd.prog gt lf (d + 2) 60 #[.int .i64 x]) h n fun v' h' n' => v' = .bool (!(decide (0 ≤ x) && decide (x ≤ 1099511627776))) ∧ h' = h ∧ n' = n := by
  rw [sh_freq_all_1]
  refine Run.inside_ ?_
  unfold b_freq_all_1
  refine run_same (s_fmay lf d n h x) (Nat.le_refl _) (fun _ _ h => h.elim) ?_
  try simp (disch := first | omega | assumption | exact one_int _ _ | exact one_slice _ _ _ | exact one_ptr _ | exact one_bool _ | exact one_string _) only [RXA, RXB, Nat.reduceAdd, Nat.reduceLT, wrap_id, wrap_succ, wrap_pred, FX1]
theorem callA {β : Type} {rec : FuncId → Array Value → M Value} (a : Value) (k : Value → M β) : callV Tryd.prog rec (.func (.func 60) #[] #[]) [a] k = (inside (rec 60 #[a])).bind k := by
  unfold callV
  show optK (some _) _ = _
  rw [optK_some_eq]
  simp only [show hasBody Tryd.prog 60 = true by kernel_rfl]
  rfl
variable (hlf : 3000000 ≤ lf)
include hlf
theorem s_all (v : Value) (xs : List Int) (hR : Row h n 3 .i64 v xs) (hl : xs.length ≤ 1000000) :
    Run (fun _ => False) n (evCall2 Tryd.prog gt lf (d + 5) 48 #[v]) h n fun v' h' n' => v' = .bool (allIn 0 1099511627776 xs) ∧ h' = h ∧ n' = n := by
  have s1 : Run (fun _ => False) n (evCall2 Tryd.prog gt lf (d + 3) 68 #[v, .func (.func 60) #[] #[]]) h n fun v' h' n' => (∃ r : Int, v' = .int .i64 r ∧ decide (0 ≤ r) = !allIn 0 1099511627776 xs) ∧ h' = h ∧ n' = n := by
    rw [sh_slices_IndexFunc_int_int]
    refine Run.inside_ ?_
    unfold b_slices_IndexFunc_int_int
    have hR0 := hR
    obtain ⟨a, c, rfl⟩ := hR.len
    try simp (disch := first | omega | assumption | exact one_int _ _ | exact one_slice _ _ _ | exact one_ptr _ | exact one_bool _ | exact one_string _) only [RXA, RXB, Nat.reduceAdd, Nat.reduceLT, wrap_id, wrap_succ, wrap_pred, FX1]
    refine run_for xs.length (fun fu i (_ : Unit) => lpA_slices_IndexFunc_int_int lf (d + 2) fu (kcA_slices_IndexFunc_int_int lf (d + 2)) (.slice a xs.length c) (.func (.func 60) #[] #[]) _ (.int .i64 (xs.length : Nat)) (.int .i64 (i : Nat))) (fun i _ h' n' => (h' = h ∧ n' = n) ∧ allIn 0 1099511627776 (xs.take i) = true) ?_ ?_ lf 0 () h n (Nat.zero_le _) (by omega) ⟨⟨rfl, rfl⟩, rfl⟩
    · rintro fu _ h' n' ⟨⟨rfl, rfl⟩, ha⟩
      rw [succA_slices_IndexFunc_int_int]
      try simp (disch := first | omega | assumption | exact one_int _ _ | exact one_slice _ _ _ | exact one_ptr _ | exact one_bool _ | exact one_string _) only [RXA, RXB, Nat.reduceAdd, Nat.reduceLT, wrap_id, wrap_succ, wrap_pred, FX1, Int.lt_irrefl]
      rw [kcAb_slices_IndexFunc_int_int]
      try simp (disch := first | omega | assumption | exact one_int _ _ | exact one_slice _ _ _ | exact one_ptr _ | exact one_bool _ | exact one_string _) only [RXA, RXB, Nat.reduceAdd, Nat.reduceLT, wrap_id, wrap_succ, wrap_pred, FX1]
      rw [List.take_length] at ha
      exact ⟨-1, rfl, by rw [ha]; rfl⟩
    · rintro fu i _ h' n' hi ⟨⟨rfl, rfl⟩, ha⟩ next
      obtain ⟨b, off, cap, o, cs, hv, hg, hb, _, _, _, hat⟩ := hR0.some (by omega)
      cases hv
      have e1 : ((i : Nat) : Int) < ((xs.length : Nat) : Int) := by omega
      have c1 := hat i hi
      have w1 := w_next hi (by omega)
      rw [succA_slices_IndexFunc_int_int]
      try simp (disch := first | omega | assumption | exact one_int _ _ | exact one_slice _ _ _ | exact one_ptr _ | exact one_bool _ | exact one_string _) only [RXA, RXB, Nat.reduceAdd, Nat.reduceLT, wrap_id, wrap_succ, wrap_pred, FX1, e1, hg, c1, callA]
      refine run_same (s_fall1 lf d n' h' (xs.getD i 0)) (Nat.le_refl _) (fun _ _ h => h.elim) ?_
      cases h1 : (decide (0 ≤ xs.getD i 0) && decide (xs.getD i 0 ≤ 1099511627776)) with
      | true =>
        try simp (disch := first | omega | assumption | exact one_int _ _ | exact one_slice _ _ _ | exact one_ptr _ | exact one_bool _ | exact one_string _) only [RXA, RXB, Nat.reduceAdd, Nat.reduceLT, wrap_id, wrap_succ, wrap_pred, FX1, Bool.not_true, w1]
        exact next () _ _ ⟨⟨rfl, rfl⟩, by unfold allIn at ha ⊢; rw [all_next 0 _ hi, ha, h1]; rfl⟩
      | false =>
        try simp (disch := first | omega | assumption | exact one_int _ _ | exact one_slice _ _ _ | exact one_ptr _ | exact one_bool _ | exact one_string _) only [RXA, RXB, Nat.reduceAdd, Nat.reduceLT, wrap_id, wrap_succ, wrap_pred, FX1, Bool.not_false]
        rw [kcAa_slices_IndexFunc_int_int]
        try simp (disch := first | omega | assumption | exact one_int _ _ | exact one_slice _ _ _ | exact one_ptr _ | exact one_bool _ | exact one_string _) only [RXA, RXB, Nat.reduceAdd, Nat.reduceLT, wrap_id, wrap_succ, wrap_pred, FX1]
        have : allIn 0 1099511627776 xs = false := all_bad 0 _ hi h1
        exact ⟨(i : Nat), rfl, by rw [this]; simp⟩
  have s2 : Run (fun _ => False) n (evCall2 Tryd.prog gt lf (d + 4) 59 #[v, .func (.func 60) #[] #[]]) h n fun v' h' n' => v' = .bool (!allIn 0 1099511627776 xs) ∧ h' = h ∧ n' = n := by
    rw [sh_slices_ContainsFunc_int_int]
    refine Run.inside_ ?_
    unfold b_slices_ContainsFunc_int_int
    refine run_call okd s1 (Nat.le_refl _) (fun _ _ h => h.elim) fun v' h' n' _ _ hq => ?_
    obtain ⟨⟨r, rfl, hr⟩, rfl, rfl⟩ := hq
    try simp (disch := first | omega | assumption | exact one_int _ _ | exact one_slice _ _ _ | exact one_ptr _ | exact one_bool _ | exact one_string _) only [RXA, RXB, Nat.reduceAdd, Nat.reduceLT, wrap_id, wrap_succ, wrap_pred, FX1]
    rw [hr]
  rw [sh_freq_all]
  refine Run.inside_ ?_
  unfold b_freq_all
  refine run_same s2 (Nat.le_refl _) (fun _ _ h => h.elim) ?_
  rw [u_not, optK_some_eq, Bool.not_not]
  try simp (disch := first | omega | assumption | exact one_int _ _ | exact one_slice _ _ _ | exact one_ptr _ | exact one_bool _ | exact one_string _) only [RXA, RXB, Nat.reduceAdd, Nat.reduceLT, wrap_id, wrap_succ, wrap_pred, FX1]
omit hlf in
theorem s_together (a b : Int) (h0 : 0 ≤ a + b) (h1 : a + b ≤ 9223372036854775807) : Run (fun _ => False) n (evCall2 Tryd.prog gt lf (d + 1) 49 #[.int .i64 a, .int .i64 b]) h n fun v' h' n' => v' = .int .i64 (capI (a + b)) ∧ h' = h ∧ n' = n := by
  rw [sh_freq_together]
  refine Run.inside_ ?_
  unfold b_freq_together
  have w : IntKind.i64.wrap (a + b) = a + b := wrap_id (by omega) (by omega)
  try simp (disch := first | omega | assumption | exact one_int _ _ | exact one_slice _ _ _ | exact one_ptr _ | exact one_bool _ | exact one_string _) only [RXA, RXB, Nat.reduceAdd, Nat.reduceLT, wrap_id, wrap_succ, wrap_pred, FX1, w]
  all_goals (first | rfl | exact ⟨rfl, rfl, rfl⟩ | exact ⟨rfl, rfl⟩)
/-- what a row costs by lengths, or why it is not told -/
theorem s_fCost (v u : Value) (xs ls : List Int) (hR : Row h n 3 .i64 v xs) (hL : Row h n 3 .i64 u ls) (hl : xs.length ≤ 1000000) (hl2 : ls.length ≤ 1000000) :
    Run (fun _ => False) n (evCall2 Tryd.prog gt lf (d + 6) 31 #[v, u]) h n fun v' h' n' => v' = (if allIn 0 1099511627776 ls = true ∧ inB ls.length xs = true then .tuple #[.int .i64 (costL xs ls), .int .i64 0] else .tuple #[.int .i64 0, .int .i64 1]) ∧ h' = h ∧ n' = n := by
  obtain ⟨r, hr⟩ : ∃ r : Value, (if allIn 0 1099511627776 ls = true ∧ inB ls.length xs = true then Value.tuple #[.int .i64 (costL xs ls), .int .i64 0] else .tuple #[.int .i64 0, .int .i64 1]) = r := ⟨_, rfl⟩
  rw [hr]
  rw [sh_freq_Cost]
  refine Run.inside_ ?_
  unfold b_freq_Cost
  refine run_same (s_all lf d n h hlf u ls hL hl2) (Nat.le_refl _) (fun _ _ h => h.elim) ?_
  cases hm : allIn 0 1099511627776 ls with
  | false =>
    rw [if_neg (by rw [hm]; simp)] at hr
    try simp (disch := first | omega | assumption | exact one_int _ _ | exact one_slice _ _ _ | exact one_ptr _ | exact one_bool _ | exact one_string _) only [RXA, RXB, Nat.reduceAdd, Nat.reduceLT, wrap_id, wrap_succ, wrap_pred, FX1, Bool.not_false]
    rw [← hr]
  | true =>
    have hm' := allIn_iff.1 hm
    have hR0 := hR
    have hL0 := hL
    obtain ⟨a, c, rfl⟩ := hR.len
    obtain ⟨a2, c2, rfl⟩ := hL.len
    try simp (disch := first | omega | assumption | exact one_int _ _ | exact one_slice _ _ _ | exact one_ptr _ | exact one_bool _ | exact one_string _) only [RXA, RXB, Nat.reduceAdd, Nat.reduceLT, wrap_id, wrap_succ, wrap_pred, FX1, Bool.not_true]
    refine run_for xs.length (fun fu i (a : Int) => lpA_freq_Cost lf (d + 5) fu (kcA_freq_Cost lf (d + 5)) _ _ (.int .i64 0) (.int .i64 0) (.int .i64 a) (.bool false) _ (.int .i64 (xs.length : Nat)) (.int .i64 (i : Nat))) (fun i a h' n' => (h' = h ∧ n' = n) ∧ a = costL (xs.take i) ls ∧ inB ls.length (xs.take i) = true) ?_ ?_ lf 0 0 h n (Nat.zero_le _) (by omega) ⟨⟨rfl, rfl⟩, rfl, rfl⟩
    · rintro fu q h' n' ⟨⟨rfl, rfl⟩, rfl, ha⟩
      rw [succA_freq_Cost]
      try simp (disch := first | omega | assumption | exact one_int _ _ | exact one_slice _ _ _ | exact one_ptr _ | exact one_bool _ | exact one_string _) only [RXA, RXB, Nat.reduceAdd, Nat.reduceLT, wrap_id, wrap_succ, wrap_pred, FX1, Int.lt_irrefl]
      rw [kcAb_freq_Cost]
      try simp (disch := first | omega | assumption | exact one_int _ _ | exact one_slice _ _ _ | exact one_ptr _ | exact one_bool _ | exact one_string _) only [RXA, RXB, Nat.reduceAdd, Nat.reduceLT, wrap_id, wrap_succ, wrap_pred, FX1]
      rw [List.take_length] at ha ⊢
      rw [← hr, if_pos ⟨hm, ha⟩]
    · rintro fu i q h' n' hi ⟨⟨rfl, rfl⟩, rfl, ha⟩ next
      obtain ⟨b, off, cap, o, cs, hv, hg, hb, _, _, _, hat⟩ := hR0.some (by omega)
      cases hv
      have e1 : ((i : Nat) : Int) < ((xs.length : Nat) : Int) := by omega
      have c1 := hat i hi
      have w1 := w_next hi (by omega)
      rw [succA_freq_Cost]
      by_cases h1 : xs.getD i 0 < 0
      · have hb : inB ls.length xs = false := inB_neg hi h1
        try simp (disch := first | omega | assumption | exact one_int _ _ | exact one_slice _ _ _ | exact one_ptr _ | exact one_bool _ | exact one_string _) only [RXA, RXB, Nat.reduceAdd, Nat.reduceLT, wrap_id, wrap_succ, wrap_pred, FX1, e1, hg, c1, h1]
        rw [kcAa_freq_Cost]
        try simp (disch := first | omega | assumption | exact one_int _ _ | exact one_slice _ _ _ | exact one_ptr _ | exact one_bool _ | exact one_string _) only [RXA, RXB, Nat.reduceAdd, Nat.reduceLT, wrap_id, wrap_succ, wrap_pred, FX1]
        rw [← hr, if_neg (by rw [hb]; simp)]
      · by_cases h2 : ((ls.length : Nat) : Int) ≤ xs.getD i 0
        · have hb : inB ls.length xs = false := inB_big hi h2
          try simp (disch := first | omega | assumption | exact one_int _ _ | exact one_slice _ _ _ | exact one_ptr _ | exact one_bool _ | exact one_string _) only [RXA, RXB, Nat.reduceAdd, Nat.reduceLT, wrap_id, wrap_succ, wrap_pred, FX1, e1, hg, c1, h1, h2]
          rw [kcAa_freq_Cost]
          try simp (disch := first | omega | assumption | exact one_int _ _ | exact one_slice _ _ _ | exact one_ptr _ | exact one_bool _ | exact one_string _) only [RXA, RXB, Nat.reduceAdd, Nat.reduceLT, wrap_id, wrap_succ, wrap_pred, FX1]
          rw [← hr, if_neg (by rw [hb]; simp)]
        · obtain ⟨b2, off2, cap2, o2, cs2, hv2, hg2, hb2, _, _, _, hat2⟩ := hL0.some (by omega)
          cases hv2
          obtain ⟨x, hx⟩ : ∃ x : Nat, xs.getD i 0 = (x : Int) := ⟨(xs.getD i 0).toNat, by omega⟩
          have c2 := hat2 x (by omega)
          have hy := hm' (ls.getD x 0) (gd_mem (by omega))
          have e3 : (x : Int) < ((ls.length : Nat) : Int) := by omega
          have e4 : ¬ ((ls.length : Nat) : Int) ≤ (x : Int) := by omega
          have e5 : ¬ ((x : Int) < 0) := by omega
          have k1 := costL_ge (l := xs.take i) fun y hy => (hm' y hy).1
          have k2 := costL_le (xs.take i) ls
          have k3 := capNext (l := xs) (fun y hy => (hm' y hy).1) hi
          rw [hx] at c1 k3
          have k4 : Tb.look ls (x : Int) = ls.getD x 0 := by unfold Tb.look; rw [Int.toNat_natCast]
          try simp (disch := first | omega | assumption | exact one_int _ _ | exact one_slice _ _ _ | exact one_ptr _ | exact one_bool _ | exact one_string _) only [RXA, RXB, Nat.reduceAdd, Nat.reduceLT, wrap_id, wrap_succ, wrap_pred, FX1, e1, hg, c1, e4, e5, e3, hg2, c2]
          refine run_same (s_together lf (d + 4) n' h' _ _ (by omega) (by omega)) (Nat.le_refl _) (fun _ _ h => h.elim) ?_
          try simp (disch := first | omega | assumption | exact one_int _ _ | exact one_slice _ _ _ | exact one_ptr _ | exact one_bool _ | exact one_string _) only [RXA, RXB, Nat.reduceAdd, Nat.reduceLT, wrap_id, wrap_succ, wrap_pred, FX1, w1]
          exact next _ _ _ ⟨⟨rfl, rfl⟩, by rw [← k4, k3], inB_next hi ha hx (by omega) e3⟩
end
end Go.Proofs.YtdagfcflbphoiaaDoor
/- The merging of weights as a plain thing: which two are taken at each step, and what is left. No program in sight. -/
namespace Go.Proofs.YtdagfcflbphoiaaDoor
set_option linter.unusedVariables false
set_option linter.unusedSimpArgs false
open Hu

/-- what waits behind k joins -/
def wt (n k : Nat) (t : HT) : List Nat := t.leaves ++ List.range' t.joined (n + k - t.joined)
structure Srt (n k : Nat) (last : Int) (t : HT) : Prop where
  ls : t.leaves.Pairwise (RI (wAt t))
  js : ∀ i j, n ≤ i → i ≤ j → j < n + k → wAt t i ≤ wAt t j
  mx : ∀ i, n ≤ i → i < n + k → wAt t i ≤ 2 * last
  lo : ∀ x ∈ wt n k t, last ≤ wAt t x
  l0 : 0 ≤ last

theorem take_w (t : HT) : wAt (taken t) = wAt t := by
  unfold taken
  split <;> rfl
theorem take_min {n k : Nat} {P : List Nat} {S last : Int} {t : HT} (h : OkH n k P S t) (s : Srt n k last t) (h1 : 1 ≤ t.leaves.length + (n + k - t.joined)) :
    (wt n k t).Perm (Hu.leastOf t :: wt n k (taken t)) ∧ (∀ x ∈ wt n k (taken t), RI (wAt t) (Hu.leastOf t) x) ∧ Srt n k (wAt t (Hu.leastOf t)) (taken t) ∧ last ≤ wAt t (Hu.leastOf t) := by
  have key : (wt n k t).Perm (Hu.leastOf t :: wt n k (taken t)) ∧ (∀ x ∈ wt n k (taken t), RI (wAt t) (Hu.leastOf t) x) ∧ (taken t).leaves.Pairwise (RI (wAt t)) := by
    cases hl : isLeaf t with
    | true =>
      obtain ⟨r, e1, e2, e3⟩ := isLeaf_true h h1 hl
      have hls := s.ls
      generalize Hu.leastOf t = a at *
      rw [e1, List.pairwise_cons] at hls
      rw [e2]
      refine ⟨by unfold wt; rw [e1]; exact .refl _, fun x hx => ?_, hls.2⟩
      unfold wt at hx
      rcases List.mem_append.1 hx with h2 | h2
      · exact hls.1 x h2
      · have h2 := List.mem_range'_1.1 h2
        have h2 : t.joined ≤ x ∧ x < t.joined + (n + k - t.joined) := h2
        have hjl := h.jl
        unfold isLeaf at hl
        rw [Bool.or_eq_true, beq_iff_eq, Bool.and_eq_true, decide_eq_true_iff, decide_eq_true_iff] at hl
        rcases hl with hl | ⟨_, hl⟩
        · have := h.wl; omega
        · have e4 : t.leaves.getD 0 0 = a := by rw [e1]; rfl
          rw [e4] at hl
          have := s.js t.joined x hjl h2.1 (by omega)
          unfold RI
          omega
    | false =>
      obtain ⟨e1, e2, e3⟩ := isLeaf_false h hl
      rw [e3, e1]
      have hjl := h.jl
      refine ⟨?_, fun x hx => ?_, s.ls⟩
      · unfold wt
        obtain ⟨d, hd⟩ : ∃ d, n + k - t.joined = d + 1 := ⟨n + k - t.joined - 1, by omega⟩
        rw [hd, List.range'_succ]
        show (t.leaves ++ t.joined :: List.range' (t.joined + 1) d).Perm (t.joined :: (t.leaves ++ List.range' (t.joined + 1) (n + k - (t.joined + 1))))
        rw [show n + k - (t.joined + 1) = d by omega]
        exact List.perm_middle
      · unfold wt at hx
        rcases List.mem_append.1 hx with h2 | h2
        · have h2 : x ∈ t.leaves := h2
          have h0 : 0 < t.leaves.length := List.length_pos_of_mem h2
          unfold isLeaf at hl
          rw [Bool.or_eq_false_iff, Bool.and_eq_false_iff] at hl
          have hlt : ¬ wAt t (t.leaves.getD 0 0) ≤ wAt t t.joined := by
            rcases hl.2 with q | q
            · simp only [h0, decide_true] at q; cases q
            · exact of_decide_eq_false q
          obtain ⟨y, r, e⟩ := List.exists_cons_of_length_pos h0
          have hls := s.ls
          rw [e] at h2 hls hlt
          rw [List.pairwise_cons] at hls
          have hlt : ¬ wAt t y ≤ wAt t t.joined := hlt
          rcases List.mem_cons.1 h2 with q | q
          · subst q; unfold RI; omega
          · have := hls.1 x q
            unfold RI at this ⊢
            omega
        · have h2 := List.mem_range'_1.1 h2
          have h2 : t.joined + 1 ≤ x ∧ x < t.joined + 1 + (n + k - (t.joined + 1)) := h2
          have := s.js t.joined x hjl (by omega) (by omega)
          unfold RI
          omega
  obtain ⟨k1, k2, k3⟩ := key
  have hlo : last ≤ wAt t (Hu.leastOf t) := s.lo _ (k1.mem_iff.2 (by simp))
  refine ⟨k1, k2, ⟨by rw [take_w]; exact k3, by rw [take_w]; exact s.js, fun i h2 h3 => by rw [take_w]; have := s.mx i h2 h3; omega, fun x hx => ?_, by have := s.l0; omega⟩, hlo⟩
  rw [take_w]
  have := k2 x hx
  unfold RI at this
  omega

theorem join_w {n k : Nat} {P : List Nat} {S : Int} {t : HT} (h : OkH n k P S t) (a b : Nat) : (∀ i, i < n + k → wAt (joinH t a b) i = wAt t i) ∧ wAt (joinH t a b) (n + k) = wAt t a + wAt t b := by
  refine ⟨fun i hi => getD_app_left _ _ _ (by rw [h.wl]; exact hi), ?_⟩
  unfold wAt joinH
  rw [List.getD_eq_getElem?_getD, List.getElem?_append_right (by rw [h.wl]; exact Nat.le_refl _), h.wl, Nat.sub_self]
  rfl
theorem wt_lt {n k : Nat} {P : List Nat} {S : Int} {t : HT} (h : OkH n k P S t) : ∀ x ∈ wt n k t, x < n + k := fun x hx => by
  unfold wt at hx
  rcases List.mem_append.1 hx with h2 | h2
  · have := h.leaf x h2; omega
  · have := List.mem_range'_1.1 h2; have := h.jh; omega

/-- a step: what is taken, what is left -/
structure Step (n k : Nat) (a b : Nat) (r : List Nat) (t t' : HT) : Prop where
  perm : (wt n k t).Perm (a :: b :: r)
  next : (wt n (k + 1) t').Perm ((n + k) :: r)
  old : ∀ i, i < n + k → wAt t' i = wAt t i
  new : wAt t' (n + k) = wAt t a + wAt t b
  mA : ∀ x ∈ b :: r, RI (wAt t) a x
  mB : ∀ x ∈ r, RI (wAt t) b x
  ia : t'.into.getD a 0 = ((n + k : Nat) : Int)
  ib : t'.into.getD b 0 = ((n + k : Nat) : Int)
  io : ∀ i, i < n + k → i ∉ wt n k t → t'.into.getD i 0 = t.into.getD i 0
theorem step_all {n k : Nat} {S last : Int} {t : HT} (h : OkH n k [] S t) (s : Srt n k last t) (hk : k + 2 ≤ n) : ∃ last', Srt n (k + 1) last' (stepH t) ∧ Step n k (Hu.leastOf t) (Hu.leastOf (taken t)) (wt n k (taken (taken t))) t (stepH t) := by
  obtain ⟨h1, a1, h2, a2, h3, _⟩ := step_ok h hk
  have hl := h.left
  have hl1 := h1.left
  simp only [List.length_cons, List.length_nil] at hl hl1
  obtain ⟨p1, m1, s1, q1⟩ := take_min h s (by omega)
  obtain ⟨p2, m2, s2, q2⟩ := take_min h1 s1 (by omega)
  rw [take_w] at m2 s2 q2
  have w2 : wAt (taken (taken t)) = wAt t := by rw [take_w, take_w]
  unfold stepH at h3 ⊢
  generalize Hu.leastOf t = a at *
  generalize Hu.leastOf (taken t) = b at *
  obtain ⟨jo, jn⟩ := join_w h2 a b
  rw [w2] at jo jn
  have hjh := h2.jh
  have hjl := h2.jl
  have nx : wt n (k + 1) (joinH (taken (taken t)) a b) = wt n k (taken (taken t)) ++ [n + k] := by
    unfold wt
    show (taken (taken t)).leaves ++ List.range' (taken (taken t)).joined (n + (k + 1) - (taken (taken t)).joined) = _
    rw [show n + (k + 1) - (taken (taken t)).joined = (n + k - (taken (taken t)).joined) + 1 by omega, List.range'_concat, ← List.append_assoc]
    rw [show (taken (taken t)).joined + 1 * (n + k - (taken (taken t)).joined) = n + k by omega]
  have hb1 : b ∈ wt n k (taken t) := p2.mem_iff.2 (by simp)
  have hpos := fun i hi => (h.pos i hi).1
  have pa := hpos a a1
  have hl0 := s.l0
  refine ⟨wAt t b, ⟨?_, fun i j hi hij hj => ?_, fun i hi hj => ?_, fun x hx => ?_, by omega⟩, ⟨p1.trans (p2.cons a), by rw [nx]; exact List.perm_append_singleton _ _, jo, jn, fun x hx => m1 x (p2.mem_iff.2 hx), m2, ?_, ?_, fun i hi hn => ?_⟩⟩
  · have hp := s2.ls
    rw [w2] at hp
    refine hp.imp_of_mem (S := RI (wAt (joinH (taken (taken t)) a b))) fun {x y} hx hy hr => ?_
    have := h2.leaf x hx
    have := h2.leaf y hy
    unfold RI at hr ⊢
    rw [jo x (by omega), jo y (by omega)]
    exact hr
  · by_cases e : j < n + k
    · rw [jo i (by omega), jo j e]
      exact s.js i j hi hij e
    · obtain rfl : j = n + k := by omega
      by_cases e2 : i < n + k
      · rw [jo i e2, jn]
        have := s.mx i hi e2
        omega
      · obtain rfl : i = n + k := by omega
        omega
  · by_cases e : i < n + k
    · rw [jo i e]
      have := s.mx i hi e
      omega
    · obtain rfl : i = n + k := by omega
      rw [jn]
      omega
  · rw [nx] at hx
    rcases List.mem_append.1 hx with q | q
    · rw [jo x (wt_lt h2 x q)]
      have := m2 x q
      unfold RI at this
      omega
    · obtain rfl : x = n + k := by simpa using q
      rw [jn]
      omega
  all_goals
    have e1 : ∀ i, i < n + k → (joinH (taken (taken t)) a b).into.getD i 0 = if i = b then ((n + k : Nat) : Int) else if i = a then ((n + k : Nat) : Int) else t.into.getD i 0 := fun i hi => by
      have il : (taken (taken t)).into.length = n + k := h2.il
      have ti : (taken (taken t)).into = t.into := by unfold taken; split <;> split <;> rfl
      unfold joinH
      simp only
      rw [getD_app_left _ _ _ (by simp [il]; exact hi), getD_setI, getD_setI, h2.wl, ti]
      rw [ti] at il
      simp only [List.length_set, il]
      by_cases eb : i = b
      · subst eb; simp [hi]
      · by_cases ea : i = a
        · subst ea; simp [hi, eb, Ne.symm eb]
        · simp [ea, eb, Ne.symm ea, Ne.symm eb]
  · rw [e1 a a1]; split <;> simp
  · rw [e1 b a2, if_pos rfl]
  · have hb : b ∈ wt n k t := p1.mem_iff.2 (by simp [hb1])
    have ha : a ∈ wt n k t := p1.mem_iff.2 (by simp)
    rw [e1 i hi, if_neg (fun e => hn (by rw [e]; exact hb)), if_neg (fun e => hn (by rw [e]; exact ha))]

theorem run_all {ws : List Int} {D : List Nat} (hN : 2 ≤ ws.length) (hp : D.Perm (List.range ws.length)) (hs : D.Pairwise (RI (keyW ws))) (hw : ∀ x ∈ ws, 0 ≤ x) : ∀ k, k + 1 ≤ ws.length → OkH ws.length k [] (sumI ws) (runH k (Start ws D)) ∧ ∃ last, Srt ws.length k last (runH k (Start ws D)) := by
  intro k
  induction k with
  | zero =>
    intro _
    have h0 := start_ok hp hw rfl
    refine ⟨h0, 0, hs, fun i j h1 h2 h3 => by omega, fun i h1 h2 => by omega, fun x hx => (h0.pos x (wt_lt h0 x hx)).1, Int.le_refl _⟩
  | succ k ih =>
    intro hk
    obtain ⟨h, last, s⟩ := ih (by omega)
    rw [run_succ]
    obtain ⟨last', s', _⟩ := step_all h s hk
    exact ⟨(step_ok h hk).2.2.2.2.1, last', s'⟩
theorem run_step {ws : List Int} {D : List Nat} (hN : 2 ≤ ws.length) (hp : D.Perm (List.range ws.length)) (hs : D.Pairwise (RI (keyW ws))) (hw : ∀ x ∈ ws, 0 ≤ x) (k : Nat) (hk : k + 2 ≤ ws.length) :
    Step ws.length k (Hu.leastOf (runH k (Start ws D))) (Hu.leastOf (taken (runH k (Start ws D)))) (wt ws.length k (taken (taken (runH k (Start ws D))))) (runH k (Start ws D)) (runH (k + 1) (Start ws D)) := by
  obtain ⟨h, last, s⟩ := run_all hN hp hs hw k (by omega)
  obtain ⟨last', _, r⟩ := step_all h s hk
  rw [run_succ]
  exact r

/-- the merging of N weights: w: the weights of all trees; I: into which one each is joined; A, B: the two that are taken at each step; X: what waits; R: what is left -/
structure Merge (N : Nat) (w : Nat → Int) (I : Nat → Nat) (A B : Nat → Nat) (X R : Nat → List Nat) : Prop where
  two : 2 ≤ N
  x0 : (X 0).Perm (List.range N)
  st : ∀ k, k + 2 ≤ N → (X k).Perm (A k :: B k :: R k)
  nx : ∀ k, k + 2 ≤ N → (X (k + 1)).Perm ((N + k) :: R k)
  wn : ∀ k, k + 2 ≤ N → w (N + k) = w (A k) + w (B k)
  ia : ∀ k, k + 2 ≤ N → I (A k) = N + k
  ib : ∀ k, k + 2 ≤ N → I (B k) = N + k
  mA : ∀ k, k + 2 ≤ N → ∀ x ∈ B k :: R k, RI w (A k) x
  mB : ∀ k, k + 2 ≤ N → ∀ x ∈ R k, RI w (B k) x
  mono : ∀ i j, N ≤ i → i ≤ j → j ≤ 2 * N - 2 → w i ≤ w j
  pos : ∀ i, i ≤ 2 * N - 2 → 0 ≤ w i
section
variable {N : Nat} {X R : Nat → List Nat} {A B : Nat → Nat}
theorem x_lt (x0 : (X 0).Perm (List.range N)) (st : ∀ k, k + 2 ≤ N → (X k).Perm (A k :: B k :: R k)) (nx : ∀ k, k + 2 ≤ N → (X (k + 1)).Perm ((N + k) :: R k)) : ∀ k, k + 1 ≤ N → (∀ x ∈ X k, x < N + k) ∧ (X k).Nodup ∧ (X k).length = N - k := by
  intro k
  induction k with
  | zero =>
    intro _
    exact ⟨fun x hx => by have := List.mem_range.1 (x0.mem_iff.1 hx); omega, x0.nodup_iff.2 List.nodup_range, by rw [x0.length_eq, List.length_range]; omega⟩
  | succ k ih =>
    intro hk
    obtain ⟨h1, h2, h3⟩ := ih (by omega)
    have p := st k hk
    have q := nx k hk
    have hr : ∀ x ∈ R k, x ∈ X k := fun x hx => p.mem_iff.2 (by simp [hx])
    have hnd := p.nodup_iff.1 h2
    refine ⟨fun x hx => ?_, q.nodup_iff.2 (List.nodup_cons.2 ⟨fun hm => ?_, (List.nodup_cons.1 (List.nodup_cons.1 hnd).2).2⟩), ?_⟩
    · rcases List.mem_cons.1 (q.mem_iff.1 hx) with e | e
      · omega
      · have := h1 x (hr x e); omega
    · have := h1 _ (hr _ hm); omega
    · have l1 := p.length_eq
      have l2 := q.length_eq
      simp only [List.length_cons] at l1 l2
      omega
end
theorem merge_of {ws : List Int} {D : List Nat} (hN : 2 ≤ ws.length) (hp : D.Perm (List.range ws.length)) (hs : D.Pairwise (RI (keyW ws))) (hw : ∀ x ∈ ws, 0 ≤ x) : ∃ A B X R, Merge ws.length (wAt (treeOf ws D)) (fun i => ((treeOf ws D).into.getD i 0).toNat) A B X R ∧ ∀ i, i < ws.length → wAt (treeOf ws D) i = ws.getD i 0 := by
  have all := run_all hN hp hs hw
  have stp := run_step hN hp hs hw
  have wfin : ∀ d k, k + d + 1 = ws.length → ∀ i, i < ws.length + k → wAt (treeOf ws D) i = wAt (runH k (Start ws D)) i := by
    intro d
    induction d with
    | zero =>
      intro k hk i hi
      unfold treeOf
      rw [show ws.length - 1 = k by omega]
    | succ d ih =>
      intro k hk i hi
      rw [ih (k + 1) (by omega) i (by omega)]
      exact (stp k (by omega)).old i hi
  have x0 : (wt ws.length 0 (runH 0 (Start ws D))).Perm (List.range ws.length) := by
    show (D ++ List.range' ws.length (ws.length + 0 - ws.length)).Perm _
    rw [Nat.add_zero, Nat.sub_self, List.range'_zero, List.append_nil]
    exact hp
  have xl := x_lt (X := fun k => wt ws.length k (runH k (Start ws D))) (R := fun k => wt ws.length k (taken (taken (runH k (Start ws D))))) (A := fun k => Hu.leastOf (runH k (Start ws D))) (B := fun k => Hu.leastOf (taken (runH k (Start ws D)))) x0 (fun k hk => (stp k hk).perm) (fun k hk => (stp k hk).next)
  have ifin : ∀ d k, k + d + 1 = ws.length → ∀ i, i < ws.length + k → i ∉ wt ws.length k (runH k (Start ws D)) → (treeOf ws D).into.getD i 0 = (runH k (Start ws D)).into.getD i 0 := by
    intro d
    induction d with
    | zero =>
      intro k hk i hi _
      unfold treeOf
      rw [show ws.length - 1 = k by omega]
    | succ d ih =>
      intro k hk i hi hn
      have s := stp k (by omega)
      rw [ih (k + 1) (by omega) i (by omega) (fun hm => ?_)]
      · exact s.io i hi hn
      · rcases List.mem_cons.1 (s.next.mem_iff.1 hm) with e | e
        · omega
        · exact hn (s.perm.mem_iff.2 (by simp [e]))
  have taken_ab : ∀ k, k + 2 ≤ ws.length → Hu.leastOf (runH k (Start ws D)) < ws.length + k ∧ Hu.leastOf (taken (runH k (Start ws D))) < ws.length + k ∧ Hu.leastOf (runH k (Start ws D)) ∉ wt ws.length (k + 1) (runH (k + 1) (Start ws D)) ∧ Hu.leastOf (taken (runH k (Start ws D))) ∉ wt ws.length (k + 1) (runH (k + 1) (Start ws D)) := by
    intro k hk
    have s := stp k hk
    obtain ⟨l1, l2, _⟩ := xl k (by omega)
    have la := l1 (Hu.leastOf (runH k (Start ws D))) (s.perm.mem_iff.2 (by simp))
    have lb := l1 (Hu.leastOf (taken (runH k (Start ws D)))) (s.perm.mem_iff.2 (by simp))
    have hnd := s.perm.nodup_iff.1 l2
    rw [List.nodup_cons, List.nodup_cons] at hnd
    refine ⟨la, lb, fun hm => ?_, fun hm => ?_⟩
    · rcases List.mem_cons.1 (s.next.mem_iff.1 hm) with e | e
      · omega
      · exact hnd.1 (by simp [e])
    · rcases List.mem_cons.1 (s.next.mem_iff.1 hm) with e | e
      · omega
      · exact hnd.2.1 e
  have wk : ∀ k, k + 2 ≤ ws.length → ∀ i, i < ws.length + k → wAt (treeOf ws D) i = wAt (runH k (Start ws D)) i := fun k hk => wfin (ws.length - 1 - k) k (by omega)
  refine ⟨fun k => Hu.leastOf (runH k (Start ws D)), fun k => Hu.leastOf (taken (runH k (Start ws D))), fun k => wt ws.length k (runH k (Start ws D)), fun k => wt ws.length k (taken (taken (runH k (Start ws D)))), ⟨hN, x0, fun k hk => (stp k hk).perm, fun k hk => (stp k hk).next, fun k hk => ?_, fun k hk => ?_, fun k hk => ?_, fun k hk x hx => ?_, fun k hk x hx => ?_, fun i j h1 h2 h3 => ?_, fun i hi => ?_⟩, fun i hi => ?_⟩
  · obtain ⟨la, lb, _⟩ := taken_ab k hk
    rw [wfin (ws.length - 1 - (k + 1)) (k + 1) (by omega) _ (by omega), (stp k hk).new, wk k hk _ la, wk k hk _ lb]
  · obtain ⟨la, lb, na, nb⟩ := taken_ab k hk
    show ((treeOf ws D).into.getD _ 0).toNat = _
    rw [ifin (ws.length - 1 - (k + 1)) (k + 1) (by omega) _ (by omega) na, (stp k hk).ia]
    omega
  · obtain ⟨la, lb, na, nb⟩ := taken_ab k hk
    show ((treeOf ws D).into.getD _ 0).toNat = _
    rw [ifin (ws.length - 1 - (k + 1)) (k + 1) (by omega) _ (by omega) nb, (stp k hk).ib]
    omega
  · obtain ⟨la, lb, na, nb⟩ := taken_ab k hk
    have := (stp k hk).mA x hx
    have hx2 := (xl k (by omega)).1 x ((stp k hk).perm.mem_iff.2 (List.mem_cons_of_mem _ hx))
    unfold RI at this ⊢
    rw [wk k hk _ la, wk k hk _ hx2]
    exact this
  · obtain ⟨la, lb, na, nb⟩ := taken_ab k hk
    have := (stp k hk).mB x hx
    have hx2 := (xl k (by omega)).1 x ((stp k hk).perm.mem_iff.2 (List.mem_cons_of_mem _ (List.mem_cons_of_mem _ hx)))
    unfold RI at this ⊢
    rw [wk k hk _ lb, wk k hk _ hx2]
    exact this
  · obtain ⟨h, last, s⟩ := all (ws.length - 1) (by omega)
    exact s.js i j h1 h2 (by omega)
  · obtain ⟨h, last, s⟩ := all (ws.length - 1) (by omega)
    exact (h.pos i (by omega)).1
  · rw [wk 0 (by omega) i (by omega)]
    rfl

end Go.Proofs.YtdagfcflbphoiaaDoor
/- The merging of weights: what depths come to. No program in sight. -/
namespace Go.Proofs.YtdagfcflbphoiaaDoor
set_option linter.unusedVariables false
set_option linter.unusedSimpArgs false
open Hu

theorem sumI_perm {a b : List Int} (h : a.Perm b) : sumI a = sumI b := by
  induction h with
  | nil => rfl
  | cons x _ ih => simp only [sumI, ih]
  | swap x y l => simp only [sumI]; omega
  | trans _ _ ih1 ih2 => exact ih1.trans ih2

section
variable {N : Nat} {w : Nat → Int} {I A B : Nat → Nat} {X R : Nat → List Nat}
theorem Merge.lt (m : Merge N w I A B X R) {k : Nat} (hk : k + 1 ≤ N) {x : Nat} (hx : x ∈ X k) : x < N + k := (x_lt m.x0 m.st m.nx k hk).1 x hx
theorem Merge.len (m : Merge N w I A B X R) {k : Nat} (hk : k + 1 ≤ N) : (X k).length = N - k := (x_lt m.x0 m.st m.nx k hk).2.2
theorem Merge.last (m : Merge N w I A B X R) : X (N - 1) = [2 * N - 2] := by
  have hN := m.two
  have hl := m.len (k := N - 1) (by omega)
  have hx : 2 * N - 2 ∈ X (N - 1) := by
    have := m.nx (N - 2) (by omega)
    rw [show N - 2 + 1 = N - 1 by omega] at this
    exact this.mem_iff.2 (by rw [show N + (N - 2) = 2 * N - 2 by omega]; simp)
  obtain ⟨y, hy⟩ := List.length_eq_one_iff.1 (show (X (N - 1)).length = 1 by omega)
  rw [hy] at hx ⊢
  rw [List.mem_singleton.1 hx]
theorem Merge.aX (m : Merge N w I A B X R) {k : Nat} (hk : k + 2 ≤ N) : A k ∈ X k ∧ B k ∈ X k ∧ (∀ x ∈ R k, x ∈ X k) ∧ (∀ x ∈ R k, x ∈ X (k + 1)) ∧ N + k ∈ X (k + 1) := by
  have p := m.st k hk
  have q := m.nx k hk
  exact ⟨p.mem_iff.2 (by simp), p.mem_iff.2 (by simp), fun x hx => p.mem_iff.2 (by simp [hx]), fun x hx => q.mem_iff.2 (by simp [hx]), q.mem_iff.2 (by simp)⟩
theorem Merge.in_or (m : Merge N w I A B X R) : ∀ k, k + 1 ≤ N → ∀ p, p < N + k → p ∈ X k ∨ I p < N + k := by
  intro k
  induction k with
  | zero => intro _ p hp; exact .inl (m.x0.mem_iff.2 (List.mem_range.2 (by omega)))
  | succ k ih =>
    intro hk p hp
    obtain ⟨h1, h2, h3, h4, h5⟩ := m.aX hk
    by_cases e : p = N + k
    · exact .inl (by rw [e]; exact h5)
    · rcases ih (by omega) p (by omega) with q | q
      · rcases List.mem_cons.1 ((m.st k hk).mem_iff.1 q) with r | r
        · right; rw [r, m.ia k hk]; omega
        · rcases List.mem_cons.1 r with r | r
          · right; rw [r, m.ib k hk]; omega
          · exact .inl (h4 p r)
      · right; omega
theorem Merge.ge (m : Merge N w I A B X R) : ∀ d k, k + d + 1 = N → ∀ x ∈ X k, x = 2 * N - 2 ∨ N + k ≤ I x := by
  intro d
  induction d with
  | zero =>
    intro k hk x hx
    have := m.last
    rw [show N - 1 = k by omega] at this
    rw [this] at hx
    exact .inl (List.mem_singleton.1 hx)
  | succ d ih =>
    intro k hk x hx
    have hk2 : k + 2 ≤ N := by omega
    rcases List.mem_cons.1 ((m.st k hk2).mem_iff.1 hx) with r | r
    · right; rw [r, m.ia k hk2]; exact Nat.le_refl _
    · rcases List.mem_cons.1 r with r | r
      · right; rw [r, m.ib k hk2]; exact Nat.le_refl _
      · rcases ih (k + 1) (by omega) x ((m.aX hk2).2.2.2.1 x r) with q | q
        · exact .inl q
        · right; omega
theorem Merge.ge' (m : Merge N w I A B X R) {k : Nat} (hk : k + 1 ≤ N) {x : Nat} (hx : x ∈ X k) (hr : x ≠ 2 * N - 2) : N + k ≤ I x := (m.ge (N - 1 - k) k (by omega) x hx).resolve_left hr
theorem Merge.up (m : Merge N w I A B X R) {i : Nat} (hi : i < 2 * N - 2) : i < I i ∧ I i ≤ 2 * N - 2 ∧ N ≤ I i := by
  have hN := m.two
  have h1 : I i ≤ 2 * N - 2 := by
    rcases m.in_or (N - 1) (by omega) i (by omega) with q | q
    · rw [m.last] at q
      have := List.mem_singleton.1 q
      omega
    · omega
  by_cases hl : i < N
  · have := m.ge' (k := 0) (by omega) (m.x0.mem_iff.2 (List.mem_range.2 hl)) (by omega)
    omega
  · have := m.ge' (k := i - N + 1) (by omega) (x := i) (by have := (m.aX (k := i - N) (by omega)).2.2.2.2; rwa [show N + (i - N) = i by omega] at this) (by omega)
    omega
theorem Merge.inv (m : Merge N w I A B X R) {q k : Nat} (hk : k + 2 ≤ N) (hq : q < 2 * N - 2) (h : I q = N + k) : q ∈ X k ∧ (q = A k ∨ q = B k) := by
  have hu := (m.up hq).1
  have h1 : q ∈ X k := by
    rcases m.in_or k (by omega) q (by omega) with r | r
    · exact r
    · omega
  refine ⟨h1, ?_⟩
  rcases List.mem_cons.1 ((m.st k hk).mem_iff.1 h1) with r | r
  · exact .inl r
  · rcases List.mem_cons.1 r with r | r
    · exact .inr r
    · have := m.ge' (k := k + 1) (by omega) ((m.aX hk).2.2.2.1 q r) (by omega)
      omega
/-- what was made later is no deeper -/
theorem Merge.mid (m : Merge N w I A B X R) {dep : Nat → Nat} (d0 : dep (2 * N - 2) = 0) (d1 : ∀ i, i < 2 * N - 2 → dep i = dep (I i) + 1) : ∀ f p q, 2 * N - 2 - p ≤ f → N ≤ p → p ≤ q → q ≤ 2 * N - 2 → dep q ≤ dep p := by
  intro f
  induction f with
  | zero =>
    intro p q hf h1 h2 h3
    obtain rfl : p = q := by omega
    exact Nat.le_refl _
  | succ f ih =>
    intro p q hf h1 h2 h3
    by_cases e : q = 2 * N - 2
    · rw [e, d0]; omega
    by_cases e2 : p = q
    · rw [e2]; exact Nat.le_refl _
    rw [d1 p (by omega), d1 q (by omega)]
    have up := m.up (show p < 2 * N - 2 by omega)
    have uq := m.up (show q < 2 * N - 2 by omega)
    have hle : I p ≤ I q := by
      obtain ⟨k, hk⟩ : ∃ k, I q = N + k := ⟨I q - N, by omega⟩
      have hk2 : k + 2 ≤ N := by omega
      obtain ⟨hx, hab⟩ := m.inv hk2 (by omega) hk
      have hlt := m.lt (by omega) hx
      rw [hk]
      rcases m.in_or k (by omega) p (by omega) with r | r
      · rcases List.mem_cons.1 ((m.st k hk2).mem_iff.1 r) with s | s
        · rw [s, m.ia k hk2]; exact Nat.le_refl _
        · rcases List.mem_cons.1 s with s | s
          · rw [s, m.ib k hk2]; exact Nat.le_refl _
          · have hRI : RI w q p := by
              rcases hab with t | t
              · rw [t]; exact m.mA k hk2 p (List.mem_cons_of_mem _ s)
              · rw [t]; exact m.mB k hk2 p s
            have := m.mono p q h1 h2 h3
            unfold RI at hRI
            omega
      · omega
    have := ih (I p) (I q) (by omega) (by omega) hle (by omega)
    omega
/-- of two symbols the one with the greater weight has no greater depth -/
theorem Merge.order (m : Merge N w I A B X R) {dep : Nat → Nat} (d0 : dep (2 * N - 2) = 0) (d1 : ∀ i, i < 2 * N - 2 → dep i = dep (I i) + 1) {x y : Nat} (hx : x < N) (hy : y < N) (hw : w y < w x) : dep x ≤ dep y := by
  have hN := m.two
  have ux := m.up (show x < 2 * N - 2 by omega)
  have uy := m.up (show y < 2 * N - 2 by omega)
  obtain ⟨k, hk⟩ : ∃ k, I y = N + k := ⟨I y - N, by omega⟩
  have hk2 : k + 2 ≤ N := by omega
  have hge : N + k ≤ I x := by
    rcases m.in_or k (by omega) x (by omega) with r | r
    · exact m.ge' (by omega) r (by omega)
    · exfalso
      obtain ⟨j, hj⟩ : ∃ j, I x = N + j := ⟨I x - N, by omega⟩
      obtain ⟨hxj, hab⟩ := m.inv (by omega) (by omega) hj
      have hyj : y ∈ X j := by
        rcases m.in_or j (by omega) y (by omega) with s | s
        · exact s
        · omega
      have hj2 : j + 2 ≤ N := by omega
      have hRI : RI w x y := by
        rcases List.mem_cons.1 ((m.st j hj2).mem_iff.1 hyj) with s | s
        · have := m.ia j hj2; rw [← s] at this; omega
        · rcases List.mem_cons.1 s with t | t
          · have := m.ib j hj2; rw [← t] at this; omega
          · rcases hab with u | u
            · rw [u]; exact m.mA j hj2 y s
            · rw [u]; exact m.mB j hj2 y t
      unfold RI at hRI
      omega
  rw [d1 x (by omega), d1 y (by omega), hk]
  have := m.mid d0 d1 (2 * N) (N + k) (I x) (by omega) (by omega) hge (by omega)
  omega
/-- depths are bounded by how many trees there are -/
theorem Merge.dep_le (m : Merge N w I A B X R) {dep : Nat → Nat} (d0 : dep (2 * N - 2) = 0) (d1 : ∀ i, i < 2 * N - 2 → dep i = dep (I i) + 1) : ∀ f i, 2 * N - 2 - i ≤ f → i ≤ 2 * N - 2 → dep i ≤ 2 * N - 2 - i := by
  intro f
  induction f with
  | zero => intro i h1 h2; obtain rfl : i = 2 * N - 2 := by omega
            rw [d0]; omega
  | succ f ih =>
    intro i h1 h2
    by_cases e : i = 2 * N - 2
    · rw [e, d0]; omega
    · have u := m.up (show i < 2 * N - 2 by omega)
      have := ih (I i) (by omega) (by omega)
      rw [d1 i (by omega)]
      omega
/-- a sum over what waits that no join changes -/
theorem Merge.keeps (m : Merge N w I A B X R) (f : Nat → Int) (hf : ∀ k, k + 2 ≤ N → f (A k) + f (B k) = f (N + k)) : ∀ k, k + 1 ≤ N → sumI ((X k).map f) = f (2 * N - 2) := by
  have hN := m.two
  have : ∀ d k, k + d + 1 = N → sumI ((X k).map f) = f (2 * N - 2) := by
    intro d
    induction d with
    | zero =>
      intro k hk
      have := m.last
      rw [show N - 1 = k by omega] at this
      rw [this]
      simp [sumI]
    | succ d ih =>
      intro k hk
      have hk2 : k + 2 ≤ N := by omega
      have h1 := ih (k + 1) (by omega)
      rw [sumI_perm ((m.nx k hk2).map f)] at h1
      rw [sumI_perm ((m.st k hk2).map f)]
      simp only [List.map_cons, sumI] at h1 ⊢
      have := hf k hk2
      omega
  exact fun k hk => this (N - 1 - k) k (by omega)
theorem Merge.ab_lt (m : Merge N w I A B X R) {k : Nat} (hk : k + 2 ≤ N) : A k < 2 * N - 2 ∧ B k < 2 * N - 2 := by
  have h := m.aX hk
  have := m.lt (by omega) h.1
  have := m.lt (by omega) h.2.1
  omega
theorem Merge.dep_ab (m : Merge N w I A B X R) {dep : Nat → Nat} (d1 : ∀ i, i < 2 * N - 2 → dep i = dep (I i) + 1) {k : Nat} (hk : k + 2 ≤ N) : dep (A k) = dep (N + k) + 1 ∧ dep (B k) = dep (N + k) + 1 := by
  have h := m.ab_lt hk
  rw [d1 _ h.1, d1 _ h.2, m.ia k hk, m.ib k hk]
  exact ⟨rfl, rfl⟩
/-- the share of all depths -/
theorem Merge.kraft (m : Merge N w I A B X R) {dep : Nat → Nat} (d0 : dep (2 * N - 2) = 0) (d1 : ∀ i, i < 2 * N - 2 → dep i = dep (I i) + 1) (M : Nat) (hM : 2 * N ≤ M) : sumI ((List.range N).map fun i => (2 : Int) ^ (M - dep i)) = 2 ^ M := by
  have hN := m.two
  have h := m.keeps (fun i => (2 : Int) ^ (M - dep i)) (fun k hk => by
    obtain ⟨e1, e2⟩ := m.dep_ab d1 hk
    have hb := m.dep_le d0 d1 (2 * N) (N + k) (by omega) (by omega)
    show (2 : Int) ^ (M - dep (A k)) + 2 ^ (M - dep (B k)) = 2 ^ (M - dep (N + k))
    rw [e1, e2, show M - dep (N + k) = (M - (dep (N + k) + 1)) + 1 by omega, Int.pow_succ]
    omega) 0 (by omega)
  rw [sumI_perm (m.x0.map _), d0] at h
  exact h
/-- the weight of all -/
theorem Merge.root (m : Merge N w I A B X R) : sumI ((List.range N).map w) = w (2 * N - 2) := by
  have hN := m.two
  have h := m.keeps w (fun k hk => (m.wn k hk).symm) 0 (by omega)
  rw [sumI_perm (m.x0.map _)] at h
  exact h
/-- no tree that waits is lighter than one that was taken -/
theorem Merge.above (m : Merge N w I A B X R) {c : Int} (h0 : 0 ≤ c) : ∀ d k, (∀ x ∈ X k, c ≤ w x) → k + d + 1 ≤ N → ∀ x ∈ X (k + d), c ≤ w x := by
  intro d
  induction d with
  | zero => intro k h _; exact h
  | succ d ih =>
    intro k h hk x hx
    have p := ih k h (by omega)
    have hk2 : (k + d) + 2 ≤ N := by omega
    have a := m.aX hk2
    rcases List.mem_cons.1 ((m.nx (k + d) hk2).mem_iff.1 hx) with e | e
    · rw [e, m.wn _ hk2]
      have := p _ a.1
      have := p _ a.2.1
      omega
    · exact p x (a.2.2.1 x e)
theorem Merge.twice (m : Merge N w I A B X R) {x : Nat} (hx : x < 2 * N - 2) (hx2 : I x < 2 * N - 2) : w x ≤ w (I x) ∧ 2 * w x ≤ w (I (I x)) := by
  have u := m.up hx
  have u2 := m.up hx2
  obtain ⟨k, hk⟩ : ∃ k, I x = N + k := ⟨I x - N, by omega⟩
  obtain ⟨j, hj⟩ : ∃ j, I (I x) = N + j := ⟨I (I x) - N, by omega⟩
  have hk2 : k + 2 ≤ N := by omega
  have hj2 : j + 2 ≤ N := by omega
  have a := m.aX hk2
  have hB : w x ≤ w (B k) ∧ w x ≤ w (N + k) := by
    have := (m.inv hk2 hx hk).2
    have hAB := m.mA k hk2 (B k) (by simp)
    have := m.wn k hk2
    have := m.pos (A k) (by have := m.ab_lt hk2; omega)
    have := m.pos (B k) (by have := m.ab_lt hk2; omega)
    unfold RI at hAB
    rcases (m.inv hk2 hx hk).2 with e | e <;> rw [e] <;> omega
  refine ⟨by rw [hk]; exact hB.2, ?_⟩
  have ab := m.above (m.pos x (by omega)) (j - (k + 1)) (k + 1) (fun y hy => by
    rcases List.mem_cons.1 ((m.nx k hk2).mem_iff.1 hy) with e | e
    · rw [e]; exact hB.2
    · have := m.mB k hk2 y e
      unfold RI at this
      omega) (by omega)
  rw [show k + 1 + (j - (k + 1)) = j by omega] at ab
  have b := m.aX hj2
  rw [hj, m.wn j hj2]
  have := ab _ b.1
  have := ab _ b.2.1
  omega
theorem Merge.deep (m : Merge N w I A B X R) {dep : Nat → Nat} (d0 : dep (2 * N - 2) = 0) (d1 : ∀ i, i < 2 * N - 2 → dep i = dep (I i) + 1) : ∀ f x, 2 * N - 2 - x ≤ f → x ≤ 2 * N - 2 → w x * 2 ^ (dep x / 2) ≤ w (2 * N - 2) := by
  intro f
  induction f with
  | zero =>
    intro x h1 h2
    obtain rfl : x = 2 * N - 2 := by omega
    rw [d0]
    simp
  | succ f ih =>
    intro x h1 h2
    by_cases e : x = 2 * N - 2
    · rw [e, d0]; simp
    have u := m.up (show x < 2 * N - 2 by omega)
    by_cases e2 : I x = 2 * N - 2
    · rw [d1 x (by omega), e2, d0]
      obtain ⟨k, hk⟩ : ∃ k, I x = N + k := ⟨I x - N, by omega⟩
      have hk2 : k + 2 ≤ N := by omega
      have h3 := (m.inv hk2 (by omega) hk).2
      have h4 := m.wn k hk2
      rw [← hk, e2] at h4
      have := m.pos (A k) (by have := m.ab_lt hk2; omega)
      have := m.pos (B k) (by have := m.ab_lt hk2; omega)
      simp
      rcases h3 with r | r <;> rw [r] <;> omega
    · have u2 := m.up (show I x < 2 * N - 2 by omega)
      have t := (m.twice (show x < 2 * N - 2 by omega) (by omega)).2
      rw [d1 x (by omega), d1 (I x) (by omega)]
      have := ih (I (I x)) (by omega) (by omega)
      rw [show (dep (I (I x)) + 1 + 1) / 2 = dep (I (I x)) / 2 + 1 by omega, Int.pow_succ, ← Int.mul_assoc, Int.mul_comm (w x) _, Int.mul_assoc]
      refine Int.le_trans ?_ this
      rw [Int.mul_comm]
      exact Int.mul_le_mul_of_nonneg_right (by omega) (Int.pow_nonneg (by omega))
end
/-- depths of N weights, each at least one, that come to less than 2 ^ 10 -/
theorem Merge.short {N : Nat} {w : Nat → Int} {I A B : Nat → Nat} {X R : Nat → List Nat} (m : Merge N w I A B X R) {dep : Nat → Nat} (d0 : dep (2 * N - 2) = 0) (d1 : ∀ i, i < 2 * N - 2 → dep i = dep (I i) + 1) {x : Nat} (hx : x < N) (h1 : 1 ≤ w x) (hs : w (2 * N - 2) < 1024) : dep x ≤ 19 := by
  have hN := m.two
  have h := m.deep d0 d1 (2 * N) x (by omega) (by omega)
  apply Decidable.byContradiction
  intro hc
  have h2 : (2 : Int) ^ 10 ≤ 2 ^ (dep x / 2) := by
    have : (2 : Nat) ^ 10 ≤ 2 ^ (dep x / 2) := Nat.pow_le_pow_right (by omega) (by omega)
    exact_mod_cast this
  have h3 : (2 : Int) ^ (dep x / 2) ≤ w x * 2 ^ (dep x / 2) := by
    have : (1 : Int) * 2 ^ (dep x / 2) ≤ w x * 2 ^ (dep x / 2) := Int.mul_le_mul_of_nonneg_right h1 (Int.pow_nonneg (by omega))
    omega
  omega

end Go.Proofs.YtdagfcflbphoiaaDoor
/- Depths as a plain function of weights, and what they obey. No program in sight. -/
namespace Go.Proofs.YtdagfcflbphoiaaDoor
set_option linter.unusedVariables false
set_option linter.unusedSimpArgs false
open Hu

theorem fill_keep (into : List Int) : ∀ (i : Nat) (out : List Int) (j : Nat), i ≤ j → (fillD into i out).getD j 0 = out.getD j 0
  | 0, out, j, _ => rfl
  | i + 1, out, j, h => by
    unfold fillD
    rw [fill_keep into i _ j (by omega), getD_setI, if_neg (by omega)]
theorem fill_rec (into : List Int) (T : Nat) : ∀ (i : Nat) (out : List Int), out.length = T → i ≤ T → (∀ j, j < i → j < (into.getD j 0).toNat ∧ (into.getD j 0).toNat < T) → ∀ j, j < i → (fillD into i out).getD j 0 = (fillD into i out).getD (into.getD j 0).toNat 0 + 1
  | 0, out, _, _, _, j, hj => by omega
  | i + 1, out, hl, hi, hin, j, hj => by
    have h0 := hin i (by omega)
    unfold fillD
    by_cases e : j = i
    · subst e
      rw [fill_keep into j _ j (by omega), fill_keep into j _ _ (by omega), getD_setI, getD_setI, if_pos ⟨rfl, by omega⟩, if_neg (by omega)]
    · exact fill_rec into T i _ (by rw [List.length_set]; exact hl) (by omega) (fun j hj => hin j (by omega)) j (by omega)
theorem fill_pos (into : List Int) : ∀ (i : Nat) (out : List Int), (∀ j, 0 ≤ out.getD j 0) → ∀ j, 0 ≤ (fillD into i out).getD j 0
  | 0, out, h, j => h j
  | i + 1, out, h, j => by
    unfold fillD
    refine fill_pos into i _ (fun j => ?_) j
    rw [getD_setI]
    have := h j
    have := h (into.getD i 0).toNat
    split <;> omega

/-- the merging of weights and the depths that come of it -/
structure Deps (ws : List Int) (D : List Nat) (w : Nat → Int) (I A B : Nat → Nat) (X R : Nat → List Nat) (dep : Nat → Nat) : Prop where
  m : Merge ws.length w I A B X R
  d0 : dep (2 * ws.length - 2) = 0
  d1 : ∀ i, i < 2 * ws.length - 2 → dep i = dep (I i) + 1
  ww : ∀ i, i < ws.length → w i = ws.getD i 0
  eq : depthsP ws D = (List.range ws.length).map fun i => (dep i : Int)
theorem deps_of {ws : List Int} {D : List Nat} (hN : 2 ≤ ws.length) (hp : D.Perm (List.range ws.length)) (hs : D.Pairwise (RI (keyW ws))) (hw : ∀ x ∈ ws, 0 ≤ x) : ∃ w I A B X R dep, Deps ws D w I A B X R dep := by
  obtain ⟨A, B, X, R, m, ww⟩ := merge_of hN hp hs hw
  obtain ⟨out, hout⟩ : ∃ out, fillD (treeOf ws D).into (2 * ws.length - 2) (List.replicate (2 * ws.length - 1) 0) = out := ⟨_, rfl⟩
  have hpos : ∀ j, 0 ≤ out.getD j 0 := by
    rw [← hout]
    refine fill_pos _ _ _ fun j => ?_
    rw [List.getD_eq_getElem?_getD, List.getElem?_replicate]
    split <;> simp
  have hlen : out.length = 2 * ws.length - 1 := by rw [← hout, fillD_len, List.length_replicate]
  refine ⟨_, _, A, B, X, R, fun i => (out.getD i 0).toNat, m, ?_, fun i hi => ?_, ww, ?_⟩
  · rw [← hout, fill_keep _ _ _ _ (Nat.le_refl _), List.getD_eq_getElem?_getD, List.getElem?_replicate]
    split <;> rfl
  · have h1 := fill_rec (treeOf ws D).into (2 * ws.length - 1) (2 * ws.length - 2) (List.replicate (2 * ws.length - 1) 0) (by rw [List.length_replicate]) (by omega) (fun j hj => by
      have := m.up hj
      omega) i hi
    rw [hout] at h1
    have := hpos ((treeOf ws D).into.getD i 0).toNat
    show (out.getD i 0).toNat = (out.getD ((treeOf ws D).into.getD i 0).toNat 0).toNat + 1
    rw [h1]
    omega
  · unfold depthsP
    rw [hout]
    apply List.ext_getElem
    · simp [hlen]; omega
    · intro i h1 h2
      have h3 : i < ws.length := by simpa using h2
      have := hpos i
      rw [List.getD_eq_getElem?_getD, List.getElem?_eq_getElem (by omega)] at this
      simp only [List.getElem_take, List.getElem_map, List.getElem_range]
      rw [List.getD_eq_getElem?_getD, List.getElem?_eq_getElem (by omega)]
      simp only [Option.getD_some] at this ⊢
      omega

theorem sorted_one {k : Nat → Int} : ∀ {a b : List Nat}, a.Perm b → a.Pairwise (RI k) → b.Pairwise (RI k) → a = b
  | [], b, h, _, _ => (List.nil_perm.1 h).symm
  | x :: a, [], h, _, _ => by simp at h
  | x :: a, y :: b, h, h1, h2 => by
    have h1' := List.pairwise_cons.1 h1
    have h2' := List.pairwise_cons.1 h2
    have e : x = y := by
      have m1 : x ∈ y :: b := h.mem_iff.1 (by simp)
      have m2 : y ∈ x :: a := h.mem_iff.2 (by simp)
      rcases List.mem_cons.1 m1 with e | e
      · exact e
      · rcases List.mem_cons.1 m2 with e2 | e2
        · exact e2.symm
        · have r1 := h2'.1 x e
          have r2 := h1'.1 y e2
          unfold RI at r1 r2
          omega
    subst e
    rw [sorted_one h.cons_inv h1'.2 h2'.2]
def Sorts (ws : List Int) (D : List Nat) : Prop := D.Perm (List.range ws.length) ∧ D.Pairwise (RI (keyW ws))
theorem Sorts.one {ws : List Int} {D E : List Nat} (h : Sorts ws D) (k : Sorts ws E) : D = E := sorted_one (h.1.trans k.1.symm) h.2 k.2
open Classical in
noncomputable def sortD (ws : List Int) : List Nat := if h : ∃ D, Sorts ws D then h.choose else []
theorem Sorts.eq {ws : List Int} {D : List Nat} (h : Sorts ws D) : sortD ws = D := by
  unfold sortD
  have hx : ∃ D, Sorts ws D := ⟨D, h⟩
  rw [dif_pos hx]
  exact hx.choose_spec.one h
/-- the depths of weights -/
noncomputable def depF (ws : List Int) : List Int := depthsP ws (sortD ws)
theorem Sorts.dep {ws : List Int} {D : List Nat} (h : Sorts ws D) : depthsP ws D = depF ws := by unfold depF; rw [h.eq]

theorem getD_map_range {f : Nat → Int} {n i : Nat} (h : i < n) : ((List.range n).map f).getD i 0 = f i := by
  rw [List.getD_eq_getElem?_getD, List.getElem?_map, List.getElem?_range h]
  rfl
section
variable {ws : List Int} {D : List Nat} {w : Nat → Int} {I A B : Nat → Nat} {X R : Nat → List Nat} {dep : Nat → Nat}
theorem Deps.at_ (d : Deps ws D w I A B X R dep) {i : Nat} (h : i < ws.length) : (depthsP ws D).getD i 0 = dep i := by
  rw [d.eq, getD_map_range h]
theorem Deps.ge1 (d : Deps ws D w I A B X R dep) {i : Nat} (h : i < ws.length) : 1 ≤ dep i := by
  have := d.m.two
  rw [d.d1 i (by omega)]
  omega
theorem Deps.le (d : Deps ws D w I A B X R dep) {i : Nat} (h : i < ws.length) : dep i < ws.length := by
  have hN := d.m.two
  have u := d.m.up (show i < 2 * ws.length - 2 by omega)
  have := d.m.dep_le d.d0 d.d1 (2 * ws.length) (I i) (by omega) (by omega)
  rw [d.d1 i (by omega)]
  omega
theorem Deps.mem (d : Deps ws D w I A B X R dep) {P : Int → Prop} : (∀ x ∈ depthsP ws D, P x) ↔ ∀ i, i < ws.length → P (dep i) := by
  rw [d.eq]
  simp
end

/-- shares -/
def shr1 (x : Int) : Int := 2 ^ (20 - x).toNat
def shrL (xs : List Int) : Int := sumI (xs.map shr1)
theorem Deps.share {ws : List Int} {D : List Nat} {w : Nat → Int} {I A B : Nat → Nat} {X R : Nat → List Nat} {dep : Nat → Nat} (d : Deps ws D w I A B X R dep) (h : ∀ x ∈ depthsP ws D, x ≤ 20) : shrL (depthsP ws D) = 1048576 := by
  have h := d.mem.1 h
  have hN := d.m.two
  obtain ⟨M, hM⟩ : ∃ M, M = 2 * ws.length + 20 := ⟨_, rfl⟩
  have hk := d.m.kraft d.d0 d.d1 M (by omega)
  have e : ∀ l : List Nat, (∀ i ∈ l, i < ws.length) → sumI (l.map fun i => (2 : Int) ^ (M - dep i)) = 2 ^ (M - 20) * sumI (l.map fun i => shr1 (dep i)) := by
    intro l
    induction l with
    | nil => intro _; simp [sumI]
    | cons x l ih =>
      intro hl
      have hx := h x (hl x (by simp))
      simp only [List.map_cons, sumI]
      rw [ih (fun i hi => hl i (by simp [hi])), Int.mul_add]
      congr 1
      unfold shr1
      rw [← Int.pow_add]
      congr 1
      omega
  rw [e _ (fun i hi => List.mem_range.1 hi)] at hk
  unfold shrL
  rw [d.eq, List.map_map]
  have hk2 : (2 : Int) ^ M = 2 ^ (M - 20) * 1048576 := by
    rw [show (1048576 : Int) = 2 ^ 20 by rfl, ← Int.pow_add]
    congr 1
    omega
  rw [hk2] at hk
  exact Int.eq_of_mul_eq_mul_left (Int.ne_of_gt (Int.pow_pos (by omega))) hk

end Go.Proofs.YtdagfcflbphoiaaDoor
/- Depths, halved weights, shares, lengths: the program's own functions, by the second form. -/
namespace Go.Proofs.YtdagfcflbphoiaaDoor
set_option linter.unusedVariables false
set_option linter.unusedSimpArgs false
open Go.RowKit Ev Hu

theorem sumI_bound (c : Int) : ∀ l : List Int, (∀ x ∈ l, x ≤ c) → sumI l ≤ l.length * c
  | [], _ => by simp [sumI]
  | x :: l, h => by
    have ih := sumI_bound c l (fun y hy => h y (by simp [hy]))
    have := h x (by simp)
    simp only [sumI, List.length_cons]
    rw [show ((l.length + 1 : Nat) : Int) * c = l.length * c + c by rw [show ((l.length + 1 : Nat) : Int) = (l.length : Int) + 1 by omega, Int.add_mul, Int.one_mul]]
    omega
theorem sum_fits {ws : List Int} (hl : ws.length ≤ 258) (hw : ∀ x ∈ ws, x ≤ 2199023255552) : sumI ws ≤ 1152921504606846976 := by
  have h := sumI_bound 2199023255552 ws hw
  have : (ws.length : Int) * 2199023255552 ≤ 258 * 2199023255552 := Int.mul_le_mul_of_nonneg_right (by omega) (by omega)
  omega

/-- weights that may be -/
structure Ws (ws : List Int) : Prop where
  l2 : 2 ≤ ws.length
  l3 : ws.length ≤ 258
  lo : ∀ x ∈ ws, 0 ≤ x
  hi : ∀ x ∈ ws, x ≤ 2199023255552
theorem depF_len {ws : List Int} (h : 1 ≤ ws.length) : (depF ws).length = ws.length := depthsP_len _ _ h
theorem s_depF (lf d n : Nat) (h : H) (v : Value) (ws : List Int) (hR : Row h n 3 .i64 v ws) (hW : Ws ws) (hlf : 3000000 ≤ lf) (hd : 300 ≤ d) :
    Run (fun _ => False) n (evCall2 Tryd.prog gt lf d 53 #[v]) h n fun v' h' n' => Sorts ws (sortD ws) ∧ Row h' n' 3 .i64 v' (depF ws) ∧ ∀ b, InBlk v' b → n ≤ b := by
  obtain ⟨e, rfl⟩ : ∃ e, d = e + ws.length + 8 := ⟨d - ws.length - 8, by have := hW.l3; omega⟩
  have hl3 := hW.l3
  refine (s_depths lf e n h v ws hR hW.l2 (by omega) hlf hW.lo (sum_fits hW.l3 hW.hi)).mono ?_
  rintro v' h' n' _ ⟨D, hp, hs, hr, hb⟩
  have so : Sorts ws D := ⟨hp, hs⟩
  rw [so.dep] at hr
  exact ⟨by rw [so.eq]; exact so, hr, hb⟩
theorem Ws.deps {ws : List Int} (hW : Ws ws) (so : Sorts ws (sortD ws)) : ∃ w I A B X R dep, Deps ws (sortD ws) w I A B X R dep := deps_of hW.l2 so.1 so.2 hW.lo

def halv1 (x : Int) : Int := (if x < 0 then 0 else x).tdiv 2 + 1
def halvL (xs : List Int) : List Int := xs.map halv1
theorem halv_bound (x : Int) (h : x ≤ 9223372036854775807) : 1 ≤ halv1 x ∧ halv1 x ≤ 4611686018427387904 ∧ (0 ≤ x → halv1 x = x / 2 + 1) := by
  unfold halv1
  have : (if x < 0 then 0 else x).tdiv 2 = (if x < 0 then 0 else x) / 2 := Int.tdiv_eq_ediv_of_nonneg (by split <;> omega)
  rw [this]
  split <;> omega
theorem halv_wrap (x : Int) (h : x ≤ 9223372036854775807) : IntKind.i64.wrap ((if x < 0 then 0 else x).tdiv 2) = (if x < 0 then 0 else x).tdiv 2 ∧ IntKind.i64.wrap ((if x < 0 then 0 else x).tdiv 2 + 1) = halv1 x := by
  have := halv_bound x h
  unfold halv1 at this ⊢
  exact ⟨wrap_id (by omega) (by omega), wrap_id (by omega) (by omega)⟩
theorem halvL_len (xs : List Int) : (halvL xs).length = xs.length := by unfold halvL; simp
theorem halvL_at {xs : List Int} {i : Nat} (h : i < xs.length) : (halvL xs).getD i 0 = halv1 (xs.getD i 0) := by
  unfold halvL
  rw [List.getD_eq_getElem?_getD, List.getElem?_map, List.getElem?_eq_getElem h, List.getD_eq_getElem?_getD, List.getElem?_eq_getElem h]
  rfl
/-- a row that is written from the front -/
def part (L : List Int) (i : Nat) : List Int := L.take i ++ List.replicate (L.length - i) 0
theorem part_len (L : List Int) {i : Nat} (h : i ≤ L.length) : (part L i).length = L.length := by unfold part; simp; omega
theorem part_set {L : List Int} {i : Nat} (h : i < L.length) : (part L i).set i (L.getD i 0) = part L (i + 1) := by
  unfold part
  rw [List.set_append_right _ _ (by simp; omega), List.length_take, Nat.min_eq_left (by omega), Nat.sub_self]
  obtain ⟨e, he⟩ : ∃ e, L.length - i = e + 1 := ⟨L.length - i - 1, by omega⟩
  rw [he, List.replicate_succ, List.set_cons_zero, show L.length - (i + 1) = e by omega, List.take_succ_eq_append_getElem h, List.append_assoc]
  rw [List.getD_eq_getElem?_getD, List.getElem?_eq_getElem h]
  rfl
theorem part_all (L : List Int) : part L L.length = L := by unfold part; simp
theorem part_0 (L : List Int) : part L 0 = List.replicate L.length 0 := by unfold part; simp
theorem hvL (lf d n : Nat) (h : H) (v : Value) (xs : List Int) (hR : Row h n 3 .i64 v xs) (hl : xs.length ≤ 1000000) (hx : ∀ x ∈ xs, x ≤ 9223372036854775807) (x2 : Value) (c : Nat) (hc : xs.length ≤ c) {W : Nat → Prop} {n0 : Nat} (hn0 : n0 ≤ n) :
    ∀ (m i fu : Nat) (h1 : H), xs.length - i = m → m < fu → i ≤ xs.length → (∀ b, b < n → h1.get b = h.get b) → h1.get n = some ⟨3, true, ints (part (halvL xs) i)⟩ →
      Run W n0 (lpA_lens_Halved lf d fu (kcA_lens_Halved lf d) v x2 (.slice (some ⟨n, 0, none⟩) xs.length c) v (.int .i64 (xs.length : Nat)) (.int .i64 (i : Nat))) h1 (n + 1) (fun v' h' n' => Row h' n' 3 .i64 v' (halvL xs) ∧ ∀ b, InBlk v' b → n ≤ b) := by
  intro m
  induction m with
  | zero =>
    intro i fu h1 hm hfu hi hk hg1
    obtain ⟨fu, rfl⟩ : ∃ f, fu = f + 1 := ⟨fu - 1, by omega⟩
    obtain rfl : i = xs.length := by omega
    rw [succA_lens_Halved]
    try simp (disch := first | omega | assumption | exact one_int _ _ | exact one_slice _ _ _ | exact one_ptr _ | exact one_bool _ | exact one_string _) only [RXA, RXB, Nat.reduceAdd, Nat.reduceLT, wrap_id, wrap_succ, wrap_pred, FX1, Int.lt_irrefl]
    rw [kcAa_lens_Halved]
    try simp (disch := first | omega | assumption | exact one_int _ _ | exact one_slice _ _ _ | exact one_ptr _ | exact one_bool _ | exact one_string _) only [RXA, RXB, Nat.reduceAdd, Nat.reduceLT, wrap_id, wrap_succ, wrap_pred, FX1]
    rw [← halvL_len xs, part_all] at hg1
    refine ⟨.inr ⟨n, 0, c, true, _, by rw [halvL_len], hg1, Nat.lt_succ_self n, by rw [ints_len]; omega, ?_, by rw [halvL_len]; exact hc⟩, fun b hb => by rw [hb.inj]; exact Nat.le_refl n⟩
    rw [List.drop_zero, List.take_of_length_le (by rw [ints_len]; exact Nat.le_refl _)]
    rfl
  | succ m ih =>
    intro i fu h1 hm hfu hi hk hg1
    obtain ⟨fu, rfl⟩ : ∃ f, fu = f + 1 := ⟨fu - 1, by omega⟩
    have hR1 : Row h1 (n + 1) 3 .i64 v xs := hR.keep (Nat.le_succ n) hk
    have hlt := fun b hb => hR.lt (b := b) hb
    obtain ⟨b, off, cap, o, cs, rfl, hg, hb, _, _, _, hat⟩ := hR1.some (by omega)
    have hbn : b < n := hlt b ⟨_, _, _, rfl⟩
    have e1 : ((i : Nat) : Int) < ((xs.length : Nat) : Int) := by omega
    have c1 := hat i (by omega)
    have w1 : ((i : Nat) : Int) + 1 = ((i + 1 : Nat) : Int) := by omega
    have hxi := hx (xs.getD i 0) (by rw [List.getD_eq_getElem?_getD, List.getElem?_eq_getElem (by omega)]; exact List.getElem_mem _)
    obtain ⟨wa, wb⟩ := halv_wrap _ hxi
    have pl : (part (halvL xs) i).length = xs.length := by rw [part_len _ (by rw [halvL_len]; omega), halvL_len]
    have ps : (part (halvL xs) i).set i (halv1 (xs.getD i 0)) = part (halvL xs) (i + 1) := by rw [← halvL_at (by omega), part_set (by rw [halvL_len]; omega)]
    rw [succA_lens_Halved]
    try simp (disch := first | omega | assumption | exact one_int _ _ | exact one_slice _ _ _ | exact one_ptr _ | exact one_bool _ | exact one_string _) only [RXA, RXB, Nat.reduceAdd, Nat.reduceLT, wrap_id, wrap_succ, wrap_pred, FX1, e1, hg, c1, wa, wb, hg1, ints_set, ints_len, pl, ps]
    refine ⟨by omega, .inl hn0, ?_⟩
    rw [w1]
    exact ih (i + 1) fu _ (by omega) (by omega) (by omega) (fun b hb => by rw [get_ne _ _ (by omega)]; exact hk b hb) (get_eq _ _ _)
theorem s_Halved (lf d n : Nat) (h : H) (v : Value) (xs : List Int) (hR : Row h n 3 .i64 v xs) (hl : xs.length ≤ 1000000) (hx : ∀ x ∈ xs, x ≤ 9223372036854775807) (hlf : 3000000 ≤ lf) :
    Run (fun _ => False) n (evCall2 Tryd.prog gt lf (d + 1) 56 #[v]) h n fun v' h' n' => Row h' n' 3 .i64 v' (halvL xs) ∧ ∀ b, InBlk v' b → n ≤ b := by
  rw [sh_lens_Halved]
  refine Run.inside_ ?_
  unfold b_lens_Halved
  have hR0 := hR
  obtain ⟨a, c, rfl⟩ := hR.len
  try simp (disch := first | omega | assumption | exact one_int _ _ | exact one_slice _ _ _ | exact one_ptr _ | exact one_bool _ | exact one_string _) only [RXA, RXB, Nat.reduceAdd, Nat.reduceLT, wrap_id, wrap_succ, wrap_pred, FX1]
  refine Ev.run_make c1x22 xs.length xs.length _ (Nat.le_refl _) (by omega) ?_
  try simp (disch := first | omega | assumption | exact one_int _ _ | exact one_slice _ _ _ | exact one_ptr _ | exact one_bool _ | exact one_string _) only [RXA, RXB, Nat.reduceAdd, Nat.reduceLT, wrap_id, wrap_succ, wrap_pred, FX1]
  refine hvL lf d n h _ xs hR0 hl hx _ xs.length (Nat.le_refl _) (Nat.le_refl n) xs.length 0 lf _ (by omega) (by omega) (by omega) (fun b hb => get_ne _ _ (by omega)) ?_
  rw [get_eq, part_0, halvL_len]
  unfold ints
  rw [List.map_replicate]

end Go.Proofs.YtdagfcflbphoiaaDoor
/- Layer 8 by the second form: counts, groups, sums; the program's. -/
namespace Go.Proofs.YtdagfcflbphoiaaDoor
set_option linter.unusedVariables false
set_option linter.unusedSimpArgs false
open Go.RowKit Ev Tb

theorem intsV_set (k : IntKind) (l : List Int) (i : Nat) (x : Int) : (intsV k l).set i (.int k x) = intsV k (l.set i x) := by unfold intsV; rw [List.map_set]
theorem intsV_rep (k : IntKind) (n : Nat) (x : Int) : List.replicate n (Value.int k x) = intsV k (List.replicate n x) := by unfold intsV; rw [List.map_replicate]
theorem Row.ofBlk {h : H} {n b : Nat} {e : TypeId} {o : Bool} {xs : List Int} {m : Nat} (hg : h.get b = some ⟨e, o, intsV .i64 xs⟩) (hb : b < n) (hm : xs.length = m) : Row h n e .i64 (.slice (some ⟨b, 0, none⟩) m m) xs := by
  subst hm
  exact .inr ⟨b, 0, xs.length, o, _, rfl, hg, hb, by rw [intsV_len]; omega, by rw [List.drop_zero, List.take_of_length_le (by rw [intsV_len]; omega)], Nat.le_refl _⟩
theorem run_sub {β : Type} {W : Nat → Prop} {n0 : Nat} {h : H} {n : Nat} {Q : β → H → Nat → Prop} {v : Value} {xs : List Int} (hR : Row h n 3 .i64 v xs) {l hh : Nat} (h1 : l < hh) (h2 : hh ≤ xs.length) {kd kd' : IntKind} (k : Value → M β)
    (y : ∀ v', Row h n 3 .i64 v' ((xs.drop l).take (hh - l)) → Run W n0 (k v') h n Q) : Run W n0 (slice2 Tryd.prog 22 v (some (.int kd (l : Int))) (some (.int kd' (hh : Int))) none k) h n Q := by
  rcases hR with ⟨a, c, rfl, _, rfl⟩ | ⟨b, off, cap, o, cs, rfl, hg, hb, hle, ht, hc⟩
  · simp at h2; omega
  · refine slice_run c1x22 hg rfl hb off xs.length cap _ _ (bound_nat _ _ _) (bound_nat _ _ _) (by omega) h2 hc _ (by kernel_rfl) ?_
    rw [if_neg (by omega)]
    have hlen : ((xs.drop l).take (hh - l)).length = hh - l := by simp; omega
    refine y _ (.inr ⟨b, off + l, cap - l, o, cs, by rw [hlen], hg, hb, by rw [hlen]; omega, ?_, by rw [hlen]; omega⟩)
    rw [hlen]
    have : (cs.drop (off + l)).take (hh - l) = (((cs.drop off).take xs.length).drop l).take (hh - l) := by
      rw [List.drop_take, List.take_take, List.drop_drop, Nat.min_eq_left (by omega)]
    rw [this, ht]
    unfold intsV
    rw [List.map_take, List.map_drop]

section
variable (lf d n : Nat) (h : H) (hlf : 3000000 ≤ lf)
theorem s_Counts_size (v : Value) (z : Int) (hz : z < 3 ∨ 258 < z) : Run (fun _ => False) n (evCall2 Tryd.prog gt lf (d + 1) 34 #[v, .int .i64 z]) h n fun v' h' n' => v' = .tuple #[.slice none 0 0, .int .i64 1] ∧ h' = h ∧ n' = n := by
  rw [sh_freq_Counts]
  refine Run.inside_ ?_
  unfold b_freq_Counts
  by_cases c : z < 3
  · try simp (disch := first | omega | assumption | exact one_int _ _ | exact one_slice _ _ _ | exact one_ptr _ | exact one_bool _ | exact one_string _) only [RXA, RXB, Nat.reduceAdd, Nat.reduceLT, wrap_id, wrap_succ, wrap_pred, FX1, c]
  · have c2 : 258 < z := by omega
    try simp (disch := first | omega | assumption | exact one_int _ _ | exact one_slice _ _ _ | exact one_ptr _ | exact one_bool _ | exact one_string _) only [RXA, RXB, Nat.reduceAdd, Nat.reduceLT, wrap_id, wrap_succ, wrap_pred, FX1, c, c2]
include hlf
theorem s_Counts (v : Value) (xs : List Int) (hR : Row h n 3 .i64 v xs) (hl : xs.length ≤ 1000000) (s : Nat) (h3 : 3 ≤ s) (h258 : s ≤ 258) :
    Run (fun _ => False) n (evCall2 Tryd.prog gt lf (d + 1) 34 #[v, .int .i64 (s : Int)]) h n fun v' h' n' => (inB s xs = true ∧ ∃ u, v' = .tuple #[u, .int .i64 0] ∧ Row h' n' 3 .i64 u (countsL xs s)) ∨ (inB s xs = false ∧ v' = .tuple #[.slice none 0 0, .int .i64 1]) := by
  rw [sh_freq_Counts]
  refine Run.inside_ ?_
  unfold b_freq_Counts
  have hR0 := hR
  obtain ⟨a, c, rfl⟩ := hR.len
  have e1 : ¬ ((s : Int) < 3) := by omega
  have e2 : ¬ ((258 : Int) < (s : Int)) := by omega
  try simp (disch := first | omega | assumption | exact one_int _ _ | exact one_slice _ _ _ | exact one_ptr _ | exact one_bool _ | exact one_string _) only [RXA, RXB, Nat.reduceAdd, Nat.reduceLT, wrap_id, wrap_succ, wrap_pred, FX1, e1, e2]
  refine Ev.run_make c1x22 s s _ (Nat.le_refl _) (by omega) ?_
  try simp (disch := first | omega | assumption | exact one_int _ _ | exact one_slice _ _ _ | exact one_ptr _ | exact one_bool _ | exact one_string _) only [RXA, RXB, Nat.reduceAdd, Nat.reduceLT, wrap_id, wrap_succ, wrap_pred, FX1]
  refine run_for xs.length (fun fu i (_ : Unit) => lpA_freq_Counts lf d fu (kcA_freq_Counts lf d) _ _ (.slice none 0 0) (.int .i64 0) (.slice (some ⟨n, 0, none⟩) s s) (.bool false) _ (.int .i64 (xs.length : Nat)) (.int .i64 (i : Nat)))
    (fun i _ h' n' => n' = n + 1 ∧ (∀ b, b < n → h'.get b = h.get b) ∧ h'.get n = some ⟨3, true, intsV .i64 (countsL (xs.take i) s)⟩ ∧ inB s (xs.take i) = true) ?_ ?_ lf 0 () _ _ (Nat.zero_le _) (by omega) ⟨rfl, fun b hb => get_ne _ _ (by omega), by rw [get_eq, List.take_zero, countsL_nil, intsV_rep], rfl⟩
  · rintro fu _ h' n' ⟨rfl, hk, hg, ha⟩
    rw [succA_freq_Counts]
    try simp (disch := first | omega | assumption | exact one_int _ _ | exact one_slice _ _ _ | exact one_ptr _ | exact one_bool _ | exact one_string _) only [RXA, RXB, Nat.reduceAdd, Nat.reduceLT, wrap_id, wrap_succ, wrap_pred, FX1, Int.lt_irrefl]
    rw [kcAb_freq_Counts]
    try simp (disch := first | omega | assumption | exact one_int _ _ | exact one_slice _ _ _ | exact one_ptr _ | exact one_bool _ | exact one_string _) only [RXA, RXB, Nat.reduceAdd, Nat.reduceLT, wrap_id, wrap_succ, wrap_pred, FX1]
    rw [List.take_length] at ha hg
    exact .inl ⟨ha, _, rfl, Row.ofBlk hg (by omega) (countsL_len _ _)⟩
  · rintro fu i _ h' n' hi ⟨rfl, hk, hgn, ha⟩ next
    have hR1 := hR0.keep (Nat.le_succ n) hk
    obtain ⟨b, off, cap, o, cs, hv, hg, hb, _, _, _, hat⟩ := hR1.some (by omega)
    cases hv
    have e3 : ((i : Nat) : Int) < ((xs.length : Nat) : Int) := by omega
    have c1 := hat i hi
    have w1 := w_next hi (by omega)
    rw [succA_freq_Counts]
    by_cases h1 : xs.getD i 0 < 0
    · have hb : inB s xs = false := inB_neg hi h1
      try simp (disch := first | omega | assumption | exact one_int _ _ | exact one_slice _ _ _ | exact one_ptr _ | exact one_bool _ | exact one_string _) only [RXA, RXB, Nat.reduceAdd, Nat.reduceLT, wrap_id, wrap_succ, wrap_pred, FX1, e3, hg, c1, h1]
      rw [kcAa_freq_Counts]
      try simp (disch := first | omega | assumption | exact one_int _ _ | exact one_slice _ _ _ | exact one_ptr _ | exact one_bool _ | exact one_string _) only [RXA, RXB, Nat.reduceAdd, Nat.reduceLT, wrap_id, wrap_succ, wrap_pred, FX1]
      first | exact .inr hb | exact .inr ⟨hb, rfl⟩
    · by_cases h2 : (s : Int) ≤ xs.getD i 0
      · have hb : inB s xs = false := inB_big hi h2
        try simp (disch := first | omega | assumption | exact one_int _ _ | exact one_slice _ _ _ | exact one_ptr _ | exact one_bool _ | exact one_string _) only [RXA, RXB, Nat.reduceAdd, Nat.reduceLT, wrap_id, wrap_succ, wrap_pred, FX1, e3, hg, c1, h1, h2]
        rw [kcAa_freq_Counts]
        try simp (disch := first | omega | assumption | exact one_int _ _ | exact one_slice _ _ _ | exact one_ptr _ | exact one_bool _ | exact one_string _) only [RXA, RXB, Nat.reduceAdd, Nat.reduceLT, wrap_id, wrap_succ, wrap_pred, FX1]
        first | exact .inr hb | exact .inr ⟨hb, rfl⟩
      · obtain ⟨x, hx⟩ : ∃ x : Nat, xs.getD i 0 = (x : Int) := ⟨(xs.getD i 0).toNat, by omega⟩
        have e4 : ¬ (s : Int) ≤ (x : Int) := by omega
        have e5 : ¬ ((x : Int) < 0) := by omega
        have e6 : (x : Int) < (s : Int) := by omega
        have c2 : (intsV .i64 (countsL (xs.take i) s))[x]? = some (.int .i64 (cntv (xs.take i) x : Int)) := by
          rw [intsV_at (by rw [countsL_len]; omega), countsL_at (by omega)]
        have c3 := countsL_set hi hx (show x < s by omega)
        have c4 := cntv_le (xs.take i) x
        have c5 : (xs.take i).length ≤ 1000000 := by rw [List.length_take]; omega
        have c6 : IntKind.i64.wrap ((cntv (xs.take i) x : Int) + 1) = (cntv (xs.take i) x : Int) + 1 := wrap_id (by omega) (by omega)
        rw [hx] at c1
        try simp (disch := first | omega | assumption | exact one_int _ _ | exact one_slice _ _ _ | exact one_ptr _ | exact one_bool _ | exact one_string _) only [RXA, RXB, Nat.reduceAdd, Nat.reduceLT, wrap_id, wrap_succ, wrap_pred, FX1, e3, hg, c1, e4, e5, e6, hgn, c2, c6, intsV_set, c3, intsV_len, countsL_len]
        refine ⟨by omega, .inl (by omega), ?_⟩
        rw [show ((i : Nat) : Int) + 1 = ((i + 1 : Nat) : Int) by omega]
        refine next () _ _ ⟨rfl, fun b hb => by rw [get_ne _ _ (by omega)]; exact hk b hb, get_eq _ _ _, inB_next hi ha hx (by omega) e6⟩
omit hlf in
theorem s_fGroups (x : Nat) (hx : x ≤ 9223372036854775807) : Run (fun _ => False) n (evCall2 Tryd.prog gt lf (d + 1) 29 #[.int .i64 (x : Int)]) h n fun v' h' n' => v' = .int .i64 (grpN x : Int) ∧ h' = h ∧ n' = n := by
  rw [sh_freq_Groups]
  refine Run.inside_ ?_
  unfold b_freq_Groups
  by_cases c : x = 0
  · subst c
    have e1 : ((0 : Nat) : Int) ≤ 0 := by omega
    try simp (disch := first | omega | assumption | exact one_int _ _ | exact one_slice _ _ _ | exact one_ptr _ | exact one_bool _ | exact one_string _) only [RXA, RXB, Nat.reduceAdd, Nat.reduceLT, wrap_id, wrap_succ, wrap_pred, FX1, e1]
    all_goals (first | rfl | exact ⟨rfl, rfl, rfl⟩ | exact ⟨rfl, rfl⟩)
  · have e1 : ¬ ((x : Int) ≤ 0) := by omega
    have e2 : IntKind.i64.wrap ((x : Int) - 1) = ((x - 1 : Nat) : Int) := by rw [wrap_id (by omega) (by omega)]; omega
    have e3 : ((x - 1 : Nat) : Int).tdiv 50 = (((x - 1) / 50 : Nat) : Int) := rfl
    have e4 : IntKind.i64.wrap (((x - 1) / 50 : Nat) : Int) = (((x - 1) / 50 : Nat) : Int) := wrap_id (by omega) (by omega)
    have e5 : IntKind.i64.wrap ((((x - 1) / 50 : Nat) : Int) + 1) = (grpN x : Int) := by rw [wrap_id (by omega) (by omega)]; unfold grpN; omega
    try simp (disch := first | omega | assumption | exact one_int _ _ | exact one_slice _ _ _ | exact one_ptr _ | exact one_bool _ | exact one_string _) only [RXA, RXB, Nat.reduceAdd, Nat.reduceLT, wrap_id, wrap_succ, wrap_pred, FX1, e1, e2, e3, e4, e5]
omit hlf in
theorem s_fGroup (v : Value) (xs : List Int) (hR : Row h n 3 .i64 v xs) (hl : xs.length ≤ 1000000) (i : Nat) (hi : i < grpN xs.length) :
    Run (fun _ => False) n (evCall2 Tryd.prog gt lf (d + 3) 30 #[v, .int .i64 (i : Int)]) h n fun v' h' n' => ∃ u, v' = .tuple #[u, .int .i64 0] ∧ Row h' n' 3 .i64 u (grp xs i) := by
  rw [sh_freq_Group]
  refine Run.inside_ ?_
  unfold b_freq_Group
  have hR0 := hR
  obtain ⟨a, c, rfl⟩ := hR.len
  have e1 : ¬ ((i : Int) < 0) := by omega
  try simp (disch := first | omega | assumption | exact one_int _ _ | exact one_slice _ _ _ | exact one_ptr _ | exact one_bool _ | exact one_string _) only [RXA, RXB, Nat.reduceAdd, Nat.reduceLT, wrap_id, wrap_succ, wrap_pred, FX1, e1]
  refine run_same (s_fGroups lf (d + 1) n h xs.length (by omega)) (Nat.le_refl _) (fun _ _ h => h.elim) ?_
  have e2 : ¬ ((grpN xs.length : Int) ≤ (i : Int)) := by omega
  try simp (disch := first | omega | assumption | exact one_int _ _ | exact one_slice _ _ _ | exact one_ptr _ | exact one_bool _ | exact one_string _) only [RXA, RXB, Nat.reduceAdd, Nat.reduceLT, wrap_id, wrap_succ, wrap_pred, FX1, e2]
  have hp := grp_pos hi
  unfold grpN at hi
  have s1 : Run (fun _ => False) n (evCall2 Tryd.prog gt lf (d + 2) 47 #[.slice a xs.length c, .int .i64 (i : Int), .int .i64 50]) h n fun v' h' n' => Row h' n' 3 .i64 v' (grp xs i) := by
    rw [sh_freq_part_int]
    refine Run.inside_ ?_
    unfold b_freq_part_int
    have f1 : IntKind.i64.wrap ((i : Int) * 50) = ((50 * i : Nat) : Int) := by rw [wrap_id (by omega) (by omega)]; omega
    have f2 : IntKind.i64.wrap ((i : Int) + 1) = ((i + 1 : Nat) : Int) := w_next (N := 1000000) (by omega) (by omega)
    have f3 : IntKind.i64.wrap (((i + 1 : Nat) : Int) * 50) = ((50 * i + 50 : Nat) : Int) := by rw [wrap_id (by omega) (by omega)]; omega
    have f4 : (if ((50 * i + 50 : Nat) : Int) < ((xs.length : Nat) : Int) then ((50 * i + 50 : Nat) : Int) else ((xs.length : Nat) : Int)) = ((min xs.length (50 * i + 50) : Nat) : Int) := by split <;> omega
    try simp (disch := first | omega | assumption | exact one_int _ _ | exact one_slice _ _ _ | exact one_ptr _ | exact one_bool _ | exact one_string _) only [RXA, RXB, Nat.reduceAdd, Nat.reduceLT, wrap_id, wrap_succ, wrap_pred, FX1, f1, f2, f3, f4]
    refine run_sub hR0 (by omega) (by omega) _ fun v' hr => ?_
    have hg : (xs.drop (50 * i)).take (min xs.length (50 * i + 50) - 50 * i) = grp xs i := by
      unfold grp
      by_cases q : xs.length ≤ 50 * i + 50
      · rw [List.take_of_length_le (by simp; omega), List.take_of_length_le (by simp; omega)]
      · congr 1; omega
    rw [hg] at hr
    refine run_call okd (s_Clone lf d n h v' _ hr hp (by rw [grp_len]; omega)) (Nat.le_refl _) (fun _ _ h => h.elim) fun v1 h1 n1 hn1 fr1 hq => ?_
    try simp (disch := first | omega | assumption | exact one_int _ _ | exact one_slice _ _ _ | exact one_ptr _ | exact one_bool _ | exact one_string _) only [RXA, RXB, Nat.reduceAdd, Nat.reduceLT, wrap_id, wrap_succ, wrap_pred, FX1]
    exact hq.2.1
  refine run_call okd s1 (Nat.le_refl _) (fun _ _ h => h.elim) fun v1 h1 n1 hn1 fr1 hq => ?_
  try simp (disch := first | omega | assumption | exact one_int _ _ | exact one_slice _ _ _ | exact one_ptr _ | exact one_bool _ | exact one_string _) only [RXA, RXB, Nat.reduceAdd, Nat.reduceLT, wrap_id, wrap_succ, wrap_pred, FX1]
  exact ⟨_, rfl, hq⟩
theorem s_Add (v u : Value) (xs ys : List Int) (hR : Row h n 3 .i64 v xs) (hL : Row h n 3 .i64 u ys) (hl : xs.length ≤ 1000000) (hxy : xs.length = ys.length) (hx : allIn 0 1099511627776 xs = true) (hy : allIn 0 1099511627776 ys = true) :
    Run (fun _ => False) n (evCall2 Tryd.prog gt lf (d + 6) 51 #[v, u]) h n fun v' h' n' => ∃ z, v' = .tuple #[z, .int .i64 0] ∧ Row h' n' 3 .i64 z (addL xs ys) ∧ ∀ b, InBlk z b → n ≤ b := by
  rw [sh_freq_Add]
  refine Run.inside_ ?_
  unfold b_freq_Add
  have hR0 := hR
  have hL0 := hL
  obtain ⟨a, c, rfl⟩ := hR.len
  obtain ⟨a2, c2, rfl⟩ := hL.len
  have e1 : (((xs.length : Nat) : Int) != ((ys.length : Nat) : Int)) = false := by rw [hxy]; simp
  try simp (disch := first | omega | assumption | exact one_int _ _ | exact one_slice _ _ _ | exact one_ptr _ | exact one_bool _ | exact one_string _) only [RXA, RXB, Nat.reduceAdd, Nat.reduceLT, wrap_id, wrap_succ, wrap_pred, FX1, e1]
  refine run_same (s_all lf d n h hlf _ xs hR0 hl) (Nat.le_refl _) (fun _ _ h => h.elim) ?_
  rw [hx]
  try simp (disch := first | omega | assumption | exact one_int _ _ | exact one_slice _ _ _ | exact one_ptr _ | exact one_bool _ | exact one_string _) only [RXA, RXB, Nat.reduceAdd, Nat.reduceLT, wrap_id, wrap_succ, wrap_pred, FX1, Bool.not_true]
  refine run_same (s_all lf d n h hlf _ ys hL0 (by omega)) (Nat.le_refl _) (fun _ _ h => h.elim) ?_
  rw [hy]
  try simp (disch := first | omega | assumption | exact one_int _ _ | exact one_slice _ _ _ | exact one_ptr _ | exact one_bool _ | exact one_string _) only [RXA, RXB, Nat.reduceAdd, Nat.reduceLT, wrap_id, wrap_succ, wrap_pred, FX1, Bool.not_true]
  refine Ev.run_make c1x22 xs.length xs.length _ (Nat.le_refl _) (by omega) ?_
  try simp (disch := first | omega | assumption | exact one_int _ _ | exact one_slice _ _ _ | exact one_ptr _ | exact one_bool _ | exact one_string _) only [RXA, RXB, Nat.reduceAdd, Nat.reduceLT, wrap_id, wrap_succ, wrap_pred, FX1]
  have adl : (addL xs ys).length = xs.length := by unfold addL; simp
  have ada : ∀ i, i < xs.length → (addL xs ys).getD i 0 = capI (xs.getD i 0 + ys.getD i 0) := fun i hi => by
    unfold addL
    rw [List.getD_eq_getElem?_getD, List.getElem?_map, List.getElem?_range hi]
    rfl
  have hx' := allIn_iff.1 hx
  have hy' := allIn_iff.1 hy
  refine run_for xs.length (fun fu i (_ : Unit) => lpA_freq_Add lf (d + 5) fu (kcA_freq_Add lf (d + 5)) _ _ (.slice none 0 0) (.int .i64 0) (.slice (some ⟨n, 0, none⟩) xs.length xs.length) (.bool false) (.int .i64 (xs.length : Nat)) (.int .i64 (i : Nat)))
    (fun i _ h' n' => n' = n + 1 ∧ (∀ b, b < n → h'.get b = h.get b) ∧ h'.get n = some ⟨3, true, intsV .i64 (part (addL xs ys) i)⟩) ?_ ?_ lf 0 () _ _ (Nat.zero_le _) (by omega) ⟨rfl, fun b hb => get_ne _ _ (by omega), by rw [get_eq, part_0, adl, intsV_rep]⟩
  · rintro fu _ h' n' ⟨rfl, hk, hg⟩
    rw [succA_freq_Add]
    try simp (disch := first | omega | assumption | exact one_int _ _ | exact one_slice _ _ _ | exact one_ptr _ | exact one_bool _ | exact one_string _) only [RXA, RXB, Nat.reduceAdd, Nat.reduceLT, wrap_id, wrap_succ, wrap_pred, FX1, Int.lt_irrefl]
    rw [kcAa_freq_Add]
    try simp (disch := first | omega | assumption | exact one_int _ _ | exact one_slice _ _ _ | exact one_ptr _ | exact one_bool _ | exact one_string _) only [RXA, RXB, Nat.reduceAdd, Nat.reduceLT, wrap_id, wrap_succ, wrap_pred, FX1]
    rw [← adl, part_all] at hg
    exact ⟨_, rfl, Row.ofBlk hg (by omega) adl, fun b hb => by rw [hb.inj]; exact Nat.le_refl n⟩
  · rintro fu i _ h' n' hi ⟨rfl, hk, hgn⟩ next
    obtain ⟨b, off, cap, o, cs, hv, hg, hb, _, _, _, hat⟩ := (hR0.keep (Nat.le_succ n) hk).some (by omega)
    cases hv
    obtain ⟨b2, off2, cap2, o2, cs2, hv2, hg2, hb2, _, _, _, hat2⟩ := (hL0.keep (Nat.le_succ n) hk).some (by omega)
    cases hv2
    have e3 : ((i : Nat) : Int) < ((xs.length : Nat) : Int) := by omega
    have e4 : ((i : Nat) : Int) < ((ys.length : Nat) : Int) := by omega
    have c1 := hat i hi
    have c2 := hat2 i (by omega)
    have w1 := w_next hi (by omega)
    have b1 := hx' _ (gd_mem hi)
    have b2 := hy' _ (gd_mem (show i < ys.length by omega))
    have pl : (part (addL xs ys) i).length = xs.length := by rw [part_len _ (by omega), adl]
    have ps : (part (addL xs ys) i).set i (capI (xs.getD i 0 + ys.getD i 0)) = part (addL xs ys) (i + 1) := by rw [← ada i hi, part_set (by omega)]
    rw [succA_freq_Add]
    try simp (disch := first | omega | assumption | exact one_int _ _ | exact one_slice _ _ _ | exact one_ptr _ | exact one_bool _ | exact one_string _) only [RXA, RXB, Nat.reduceAdd, Nat.reduceLT, wrap_id, wrap_succ, wrap_pred, FX1, e3, e4, hg, c1, hg2, c2]
    refine run_same (s_together lf (d + 4) _ h' _ _ (by omega) (by omega)) (by omega) (fun _ _ h => h.elim) ?_
    try simp (disch := first | omega | assumption | exact one_int _ _ | exact one_slice _ _ _ | exact one_ptr _ | exact one_bool _ | exact one_string _) only [RXA, RXB, Nat.reduceAdd, Nat.reduceLT, wrap_id, wrap_succ, wrap_pred, FX1, e3, hgn, intsV_set, intsV_len, pl, ps]
    refine ⟨by omega, .inl (by omega), ?_⟩
    rw [show ((i : Nat) : Int) + 1 = ((i + 1 : Nat) : Int) by omega]
    exact next () _ _ ⟨rfl, fun b hb => by rw [get_ne _ _ (by omega)]; exact hk b hb, get_eq _ _ _⟩
end
end Go.Proofs.YtdagfcflbphoiaaDoor
