import Derived.Test.YtdagfcflbphoiaaGreatDoorMan
namespace Go.Proofs.YtdagfcflbphoiaaGreatDoor
set_option linter.unusedVariables false
set_option linter.unusedSimpArgs false
open Go.RowKit Ev Cn

def RunE {α : Type} (E : En → Prop) (m : M α) (h : H) (n : Nat) (Q : α → H → Nat → Prop) : Prop :=
  ∃ a h1 n1 L, m h n = some ⟨a, h1, n1, L⟩ ∧ n ≤ n1 ∧ (∀ e ∈ L, e.wr = true → E e) ∧ Q a h1 n1
section
variable {α β : Type} {E : En → Prop} {m : M α} {k : α → M β} {h h1 : H} {n n1 : Nat} {a : α} {L : List En} {Q : β → H → Nat → Prop}
theorem RunE.step (e : m h n = some ⟨a, h1, n1, L⟩) (hn : n ≤ n1) (hw : ∀ e ∈ L, e.wr = true → E e) (x : RunE E (k a) h1 n1 Q) : RunE E (m.bind k) h n Q := by
  obtain ⟨b, h2, n2, L2, e1, e2, e3, e4⟩ := x
  refine ⟨b, h2, n2, L ++ L2, zaas e e1, by omega, fun x hx => ?_, e4⟩
  rcases List.mem_append.1 hx with q | q
  · exact hw x q
  · exact e3 x q
theorem RunE.inside_ {Q' : α → H → Nat → Prop} (x : RunE E m h n Q') : RunE E (inside m) h n Q' := by
  obtain ⟨a, h1, n1, L, e1, e2, e3, e4⟩ := x
  exact ⟨a, h1, n1, _, zabe e1, e2, fun e he => e3 e (List.mem_filter.1 he).1, e4⟩
theorem RunE.run {Q' : α → H → Nat → Prop} {W : Nat → Prop} {n0 : Nat} (x : RunE E m h n Q') (hE : ∀ e, E e → n0 ≤ e.b ∨ W e.b) : Run W n0 m h n Q' := by
  obtain ⟨a, h1, n1, L, e1, e2, e3, e4⟩ := x
  exact ⟨a, h1, n1, L, e1, e2, fun e he hw => hE e (e3 e he hw), e4⟩
theorem zcfd {QV : Value → H → Nat → Prop} (v : Value) (x : QV v h n) : RunE E (outK [v]) h n QV :=
  ⟨v, h, n, [], rfl, Nat.le_refl _, fun e he => (nomatch he), x⟩
end
section
variable {β : Type} {E : En → Prop} {h h1 : H} {n n1 : Nat} {Q : β → H → Nat → Prop} {P : Program}
theorem zbyr {t : TypeId} (ha : agg? P t = some false) (b off : Nat) (k : Value → M β) {B : AB} (hg : h.get b = some B) (hb : b < n) {v : Value} (hv : B.cells[off]? = some v) (x : RunE E (k v) h n Q) : RunE E ((inside (evLoad P t (.pointer (some ⟨b, off, none⟩)))).bind k) h n Q := by
  have e : evLoad P t (.pointer (some ⟨b, off, none⟩)) h n = some ⟨v, h, n, [⟨false, b, some off⟩]⟩ := by
    unfold evLoad
    simp only [ha]
    unfold rd
    simp only [hb, hg, hv, if_true]
  refine RunE.step (zabe e) (Nat.le_refl _) (fun x hx hw => ?_) x
  have hx := (List.mem_filter.1 hx).1
  simp at hx
  rw [hx] at hw
  cases hw
theorem zbuz {t : TypeId} (hs : size? P t = some 1) (b off : Nat) (v : Value) (k : Value → M β) {e : TypeId} {cs : List Value} (hg : h.get b = some ⟨e, true, cs⟩) (hb : b < n) (ho : off < cs.length) (h1 : one v = true) (hw : E ⟨true, b, some off⟩) (x : RunE E (k undef) (h.set b (some ⟨e, true, cs.set off v⟩)) n Q) :
    RunE E ((inside (evStore P t (.pointer (some ⟨b, off, none⟩)) v)).bind k) h n Q := by
  have hc : v.cells = #[v] := by cases v <;> first | rfl | (simp [one] at h1)
  have hwr : wr b off v h n = some ⟨(), h.set b (some ⟨e, true, cs.set off v⟩), n, [⟨false, b, some off⟩, ⟨true, b, some off⟩]⟩ := by
    unfold wr
    simp [hb, hg, ho, h1]
  have e : evStore P t (.pointer (some ⟨b, off, none⟩)) v h n = some ⟨undef, h.set b (some ⟨e, true, cs.set off v⟩), n, [⟨false, b, some off⟩, ⟨true, b, some off⟩]⟩ := by
    unfold evStore
    simp only [hs, hc]
    show ((wrN b off [v]).bind fun _ => M.ret undef) h n = _
    unfold wrN
    have := zaas (f := fun _ => wrN b (off + 1) []) hwr (L2 := []) (b := ()) (h2 := h.set b (some ⟨e, true, cs.set off v⟩)) (n2 := n) rfl
    have := zaas (f := fun _ => M.ret undef) this (L2 := []) (b := undef) (h2 := h.set b (some ⟨e, true, cs.set off v⟩)) (n2 := n) rfl
    simpa using this
  refine RunE.step (zabe e) (Nat.le_refl _) (fun x hx hx2 => ?_) x
  have hx := (List.mem_filter.1 hx).1
  simp at hx
  rcases hx with rfl | rfl
  · cases hx2
  · exact hw
end
section
variable {β : Type} {W : Nat → Prop} {n0 : Nat} {h : H} {n : Nat} {Q : β → H → Nat → Prop} {P : Program}
theorem zbub (hd : okDsts P = true) {gt : Nat → List Nat} {lf d : Nat} {f : FuncId} {args : Array Value} {E : En → Prop} {Q' : Value → H → Nat → Prop} {q : Nat} (s : RunE E (zaac P gt lf d f args) h n Q') (hE : ∀ e, E e → e.b = q) (hn : n0 ≤ n) (hW : n0 ≤ q ∨ W q) {k : Value × Tk → M β}
    (x : ∀ v h1 n1 T, n ≤ n1 → (∀ b, b < n → b ≠ q → h1.get b = h.get b) → Q' v h1 n1 → T.n = n → (∀ e ∈ T.log, e.b < n) → (∀ e ∈ T.log, e.wr = true → E e) → Run W n0 (k (v, T)) h1 n1 Q) : Run W n0 ((timed ((inside (zaac P gt lf d f args)).bind fun v => M.ret v)).bind k) h n Q := by
  obtain ⟨v, h1, n1, L, e1, e2, e3, e4⟩ := s
  obtain ⟨f0, e0⟩ := zbdc hd d f args h n v h1 n1 L e1
  have A := Loc.evCall P KN f0 f args h n v h1 n1 L (e0 f0 (Nat.le_refl _))
  have hlt : ∀ e ∈ L.filter (fun e => !(decide (n ≤ e.b) && decide (e.b < n1))), e.b < n := fun e he => by
    obtain ⟨h1, h2⟩ := List.mem_filter.1 he
    have := A.lt e h1
    simp at h2
    omega
  have hwr : ∀ e ∈ L.filter (fun e => !(decide (n ≤ e.b) && decide (e.b < n1))), e.wr = true → E e := fun e he hw => e3 e (List.mem_filter.1 he).1 hw
  exact zajo (zajl (zabe e1)) e2 (fun e he hw => by rw [hE e (hwr e he hw)]; exact hW) (x v h1 n1 _ e2 (fun b hb hq => zber hd e1 (W' := fun b => b = q) (fun e he hw => .inr (hE e (e3 e he hw))) b hb hq) e4 rfl hlt hwr)
theorem zbzp {a b : Tk} {p off : Nat} {E : En → Prop} (h1 : a.n = n) (h2 : a.n1 = n) (h3 : a.log = [⟨false, p, some off⟩]) (h4 : b.n = n) (h5 : ∀ e ∈ b.log, e.b < n) (h6 : ∀ e ∈ b.log, e.wr = true → E e) (hp : p < n) (hE : ∀ e, E e → ∃ j, e.k = some j ∧ j ≠ off) : Tk.clash a b = false := by
  unfold Tk.clash
  simp only [Bool.or_eq_false_iff, List.any_eq_false, Bool.and_eq_true, decide_eq_true_eq, not_and, h3, List.mem_singleton]
  refine ⟨⟨⟨fun x hx hw => ?_, fun x hx hw => ?_⟩, fun x hx hle => ?_⟩, fun x hx hle => ?_⟩
  · subst hx; cases hw
  · simp only [List.any_cons, List.any_nil, Bool.or_false, Bool.not_eq_true]
    unfold En.meets
    obtain ⟨j, h7, h8⟩ := hE x (h6 x hx hw)
    simp [h7, h8]
  · subst hx
    simp only at hle ⊢
    omega
  · have := h5 x hx
    omega
theorem zbpn {A : M Value} {k : Value × Tk → M β} (hk : ∀ v T, k (v, T) = k (v, ⟨0, 0, []⟩)) (x : Run W n0 (A.bind fun v => k (v, ⟨0, 0, []⟩)) h n Q) : Run W n0 ((timed (A.bind fun v => M.ret v)).bind k) h n Q := by
  obtain ⟨b, h2, n2, L, e1, e2, e3, e4⟩ := x
  obtain ⟨a, h3, n3, L3, L4, eA, eK, rfl⟩ := Ev.bind_some e1
  exact ⟨b, h2, n2, _, zaas (zaus (zajl eA)) (by rw [hk]; exact eK), e2, e3, e4⟩
theorem zbka {t e : TypeId} {z : Value} (c : Cell1 P t e z) {x : Value} (hx : one x = true) {lo : Nat} {v : Value} {cs : List Value} (o : Own h lo n e v cs) (hm : cs.length + 1 ≤ 1099511627776) (hw : ∀ b, InBlk v b → n0 ≤ b ∨ W b) (K : Value × Tk → Value × Tk → M β)
    (y : ∀ w T1 T2 h', h'.get (n + 1) = some ⟨e, true, cs ++ [x]⟩ → (∀ b, b < n → ¬ InBlk v b → h'.get b = h.get b) → Run W n0 (K (w, T1) (.slice (some ⟨n + 1, 0, none⟩) (cs.length + 1) (CAP + (cs.length + 1)), T2)) h' (n + 2) Q) :
    Run W n0 ((timed ((inside (evBuildSlice P t 1 [(0, x)])).bind fun v => M.ret v)).bind fun a => (timed ((inside (evAppend P t v a.1)).bind fun v => M.ret v)).bind fun b => K a b) h n Q := by
  obtain ⟨a, h2, n2, L, e1, e2, e3, e4⟩ := zalx (Q := fun v' h' n' => v' = Value.slice (some ⟨n + 1, 0, none⟩) (cs.length + 1) (CAP + (cs.length + 1)) ∧ n' = n + 2 ∧ h'.get (n + 1) = some ⟨e, true, cs ++ [x]⟩ ∧ ∀ b, b < n → ¬ InBlk v b → h'.get b = h.get b) c hx o hm hw M.ret fun h' g k => (zaxa _).2 ⟨rfl, rfl, g, k⟩
  obtain ⟨w, h3, n3, L3, L4, eB, eR, rfl⟩ := Ev.bind_some e1
  obtain ⟨v', h4, n4, L5, L6, eA, eRet, rfl⟩ := Ev.bind_some eR
  obtain ⟨rfl, rfl, rfl, rfl⟩ := zanv eRet
  obtain ⟨rfl, rfl, g, k⟩ := e4
  obtain ⟨b, h5, n5, L7, f1, f2, f3, f4⟩ := y w ⟨n, n3, L3⟩ ⟨n3, n + 2, L5⟩ _ g k
  refine ⟨b, h5, n5, _, zaas (zaus (zajl eB)) (zaas (zaus (zajl eA)) f1), by omega, fun r hr => ?_, f4⟩
  simp only [List.mem_append] at hr e3
  rcases hr with hr | hr | hr
  · exact e3 r (.inl hr)
  · exact e3 r (.inr (.inl hr))
  · exact f3 r hr
end

def tch {α : Type} (d : α) (O : List α) (i : Nat) : List α := O.getD i d :: (O.take i ++ O.drop (i + 1))
def mvd (O : List Value) (i j : Nat) : List Value := O.take (j + 1) ++ ((O.drop j).take (i - j) ++ O.drop (i + 1))
theorem cut6 {α : Type} {O : List α} (h : O.length = 6) : ∃ a b c d e f, O = [a, b, c, d, e, f] := by
  match O, h with
  | [a, b, c, d, e, f], _ => exact ⟨a, b, c, d, e, f, rfl⟩
theorem zcia {O : List Value} (h : O.length = 6) {i : Nat} (hi : i < 6) : mvd O i i = O := by
  obtain ⟨a, b, c, d, e, f, rfl⟩ := cut6 h
  rcases i with _ | _ | _ | _ | _ | _ | i <;> first | rfl | omega
theorem zcha {O : List Value} (h : O.length = 6) {i j : Nat} (hi : i < 6) (hj : j < i) : (mvd O i (j + 1)).set (j + 1) (O.getD j undef) = mvd O i j := by
  obtain ⟨a, b, c, d, e, f, rfl⟩ := cut6 h
  rcases i with _ | _ | _ | _ | _ | _ | i <;> rcases j with _ | _ | _ | _ | _ | j <;> first | rfl | omega
theorem zchg {O : List Value} (h : O.length = 6) {i j : Nat} (hi : i < 6) (hj : j < i) : (mvd O i (j + 1)).getD j undef = O.getD j undef := by
  obtain ⟨a, b, c, d, e, f, rfl⟩ := cut6 h
  rcases i with _ | _ | _ | _ | _ | _ | i <;> rcases j with _ | _ | _ | _ | _ | j <;> first | rfl | omega
theorem zchd {O : List Value} (h : O.length = 6) {i : Nat} (hi : i < 6) : (mvd O i 0).set 0 (O.getD i undef) = tch undef O i := by
  obtain ⟨a, b, c, d, e, f, rfl⟩ := cut6 h
  rcases i with _ | _ | _ | _ | _ | _ | i <;> first | rfl | omega
theorem zbwf {O : List Value} (h : O.length = 6) {i j : Nat} (hi : i < 6) (hj : j ≤ i) : (mvd O i j).length = 6 := by
  obtain ⟨a, b, c, d, e, f, rfl⟩ := cut6 h
  rcases i with _ | _ | _ | _ | _ | _ | i <;> rcases j with _ | _ | _ | _ | _ | _ | j <;> first | rfl | omega
theorem zbpo {O : List Value} {j : Nat} (h : j < O.length) : O.getD j undef ∈ O := by
  rw [List.getD_eq_getElem?_getD, List.getElem?_eq_getElem h]
  exact List.getElem_mem h
theorem zbyc {A O Z : List Value} {j : Nat} (h : j < O.length) : (A ++ (O ++ Z))[A.length + j]? = some (O.getD j undef) := by
  rw [List.getElem?_append_right (by omega), show A.length + j - A.length = j by omega, List.getElem?_append_left h, List.getD_eq_getElem?_getD, List.getElem?_eq_getElem h]
  rfl
theorem zbwq {A O Z : List Value} {j : Nat} (h : j < O.length) (v : Value) : (A ++ (O ++ Z)).set (A.length + j) v = A ++ (O.set j v ++ Z) := by
  rw [List.set_append_right _ _ (by omega), show A.length + j - A.length = j by omega, List.set_append_left _ _ h]
section
variable {lf d n q : Nat} {h : H} {e : TypeId} {A O Z : List Value} {i : Nat}
def InO (q off : Nat) : En → Prop := fun x => x.b = q ∧ ∃ j, x.k = some j ∧ off ≤ j ∧ j < off + 6
theorem zcey (hO : O.length = 6) (h1 : ∀ v ∈ O, one v = true) (g : h.get q = some ⟨e, true, A ++ (O ++ Z)⟩) (hq : q < n) (hi : i < 6) (hlf : 100 ≤ lf) :
    RunE (InO q A.length) (zaac Tryz.prog gt lf (d + 1) 129 #[.pointer (some ⟨q, A.length, none⟩), .int .i64 (i : Int)]) h n fun v h' n' => v = O.getD i undef ∧ n' = n ∧ h'.get q = some ⟨e, true, A ++ (tch undef O i ++ Z)⟩ ∧ ∀ b, b ≠ q → h'.get b = h.get b := by
  rw [zbcu]
  refine RunE.inside_ ?_
  unfold zarp
  have ia : ∀ j : Nat, j < 6 → evIndexAddr Tryz.prog 132 (.pointer (some ⟨q, A.length, none⟩)) (.int .i64 (j : Int)) = some (.pointer (some ⟨q, A.length + j, none⟩)) := fun j hj => by
    rw [zbbs (P := Tryz.prog) (n := 6) (e := 3) (sz := 1) (by kernel_rfl) (by kernel_rfl) q A.length .i64 (j : Int) (by omega) (by omega), Int.toNat_natCast, Nat.mul_one]
  have hl : i < O.length := by omega
  have key : ∀ (j fu : Nat) (h' : H), j ≤ i → j < fu → h'.get q = some ⟨e, true, A ++ (mvd O i j ++ Z)⟩ → (∀ b, b ≠ q → h'.get b = h.get b) →
      RunE (InO q A.length) (zacz lf d fu (zace lf d) (.pointer (some ⟨q, A.length, none⟩)) (.int .i64 (i : Int)) (.int .i64 0) (O.getD i undef) (.int .i64 (j : Int))) h' n fun v h' n' => v = O.getD i undef ∧ n' = n ∧ h'.get q = some ⟨e, true, A ++ (tch undef O i ++ Z)⟩ ∧ ∀ b, b ≠ q → h'.get b = h.get b := by
    intro j
    induction j with
    | zero =>
      intro fu h' hj hf g' k'
      obtain ⟨fu, rfl⟩ : ∃ f, fu = f + 1 := ⟨fu - 1, by omega⟩
      rw [zana]
      have c0 : decide ((0 : Int) < ((0 : Nat) : Int)) = false := decide_eq_false (by omega)
      try simp (disch := first | omega | assumption | exact zaae _ _ | exact zaab _ _ _ | exact zaaf _ | exact zaad _ | exact zaaa _) only [Nat.reduceAdd, Nat.reduceLT, RZ, c0]
      rw [zbai]
      have i0 := ia 0 (by omega)
      rw [Nat.add_zero] at i0
      try simp (disch := first | omega | assumption | exact zaae _ _ | exact zaab _ _ _ | exact zaaf _ | exact zaad _ | exact zaaa _) only [Nat.reduceAdd, Nat.reduceLT, RZ, i0]
      have hml := zbwf (j := 0) hO hi (Nat.zero_le _)
      refine zbuz sz3 q A.length _ _ g' hq (by simp [hml]; omega) (h1 _ (zbpo hl)) ⟨rfl, _, rfl, by simp, by simp⟩ ?_
      refine zcfd _ ⟨rfl, rfl, ?_, fun b hb => ?_⟩
      · rw [zaaz]
        have := zbwq (A := A) (Z := Z) (O := mvd O i 0) (j := 0) (by omega) (O.getD i undef)
        rw [Nat.add_zero] at this
        rw [this, zchd hO hi]
      · rw [zaar _ _ hb]; exact k' b hb
    | succ j ih =>
      intro fu h' hj hf g' k'
      obtain ⟨fu, rfl⟩ : ∃ f, fu = f + 1 := ⟨fu - 1, by omega⟩
      rw [zana]
      have c0 : decide ((0 : Int) < ((j + 1 : Nat) : Int)) = true := decide_eq_true (by omega)
      have w1 : IntKind.i64.wrap (((j + 1 : Nat) : Int) - 1) = (j : Int) := by rw [zaav (by omega) (by omega)]; omega
      try simp (disch := first | omega | assumption | exact zaae _ _ | exact zaab _ _ _ | exact zaaf _ | exact zaad _ | exact zaaa _) only [Nat.reduceAdd, Nat.reduceLT, RZ, c0, w1, ia j (by omega)]
      have hml := zbwf (j := j + 1) hO hi hj
      refine zbyr ag3 q (A.length + j) _ g' hq (zbyc (by omega)) ?_
      rw [zchg hO hi (by omega)]
      try simp (disch := first | omega | assumption | exact zaae _ _ | exact zaab _ _ _ | exact zaaf _ | exact zaad _ | exact zaaa _) only [Nat.reduceAdd, Nat.reduceLT, RZ, ia (j + 1) (by omega)]
      refine zbuz sz3 q (A.length + (j + 1)) _ _ g' hq (by simp [hml]; omega) (h1 _ (zbpo (by omega))) ⟨rfl, _, rfl, by simp, by simp; omega⟩ ?_
      try simp (disch := first | omega | assumption | exact zaae _ _ | exact zaab _ _ _ | exact zaaf _ | exact zaad _ | exact zaaa _) only [Nat.reduceAdd, Nat.reduceLT, RZ, c0, w1]
      refine ih fu _ (by omega) (by omega) ?_ fun b hb => ?_
      · rw [zaaz, zbwq (by omega), zcha hO hi (by omega)]
      · rw [zaar _ _ hb]; exact k' b hb
  try simp (disch := first | omega | assumption | exact zaae _ _ | exact zaab _ _ _ | exact zaaf _ | exact zaad _ | exact zaaa _) only [Nat.reduceAdd, Nat.reduceLT, RZ, ia i hi]
  refine zbyr ag3 q (A.length + i) _ g hq (zbyc hl) ?_
  exact key i lf h (Nat.le_refl _) (by omega) (by rw [zcia hO hi]; exact g) fun _ _ => rfl
end
end Go.Proofs.YtdagfcflbphoiaaGreatDoor
