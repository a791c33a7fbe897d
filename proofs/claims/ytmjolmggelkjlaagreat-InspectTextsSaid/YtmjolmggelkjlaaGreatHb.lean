/- Steps on memory in a form that the kernel runs quickly. No program in sight. -/
import Derived.Test.YtmjolmggelkjlaaGreatHa
namespace Go.Proofs.YtmjolmggelkjlaaGreat.Ev
set_option linter.unusedVariables false
set_option linter.unusedSimpArgs false
open Go Go.RowKit

/-! the heap -/
noncomputable def get3 {α : Type} : Nat → Tr α → Nat → Option α
  | 0, _, _ => none
  | _ + 1, .nil, _ => none
  | f + 1, .node l v r, i => match Nat.beq i 0 with
    | true => v
    | false => match Nat.beq (Nat.mod i 2) 1 with
      | true => get3 f l (Nat.div i 2)
      | false => get3 f r (Nat.pred (Nat.div i 2))
theorem beq_dec (a b : Nat) : Nat.beq a b = decide (a = b) := by
  cases h : Nat.beq a b with
  | true => rw [Nat.eq_of_beq_eq_true h]; simp
  | false => have := Nat.ne_of_beq_eq_false h; simp [this]
theorem get3_at {α : Type} : ∀ (f : Nat) (t : Tr α) (i : Nat), get3 f t i = Tr.get f t i
  | 0, _, _ => rfl
  | _ + 1, .nil, _ => rfl
  | f + 1, .node l v r, i => by
    unfold get3 Tr.get
    rw [beq_dec, beq_dec]
    by_cases h0 : i = 0
    · simp [h0]
    · by_cases h1 : i % 2 = 1
      · have h1' : Nat.mod i 2 = 1 := h1
        simp only [h0, h1, h1', decide_true, decide_false, if_true, if_false]
        exact get3_at f l (i / 2)
      · have h1' : ¬ Nat.mod i 2 = 1 := h1
        simp only [h0, h1, h1', decide_false, if_false]
        exact get3_at f r (i / 2 - 1)
noncomputable def set3 {α : Type} : Nat → Tr α → Nat → Option α → Tr α
  | 0, t, _, _ => t
  | f + 1, .nil, i, a => match Nat.beq i 0 with
    | true => .node .nil a .nil
    | false => match Nat.beq (Nat.mod i 2) 1 with
      | true => .node (set3 f .nil (Nat.div i 2) a) none .nil
      | false => .node .nil none (set3 f .nil (Nat.pred (Nat.div i 2)) a)
  | f + 1, .node l v r, i, a => match Nat.beq i 0 with
    | true => .node l a r
    | false => match Nat.beq (Nat.mod i 2) 1 with
      | true => .node (set3 f l (Nat.div i 2) a) v r
      | false => .node l v (set3 f r (Nat.pred (Nat.div i 2)) a)
theorem set3_at {α : Type} : ∀ (f : Nat) (t : Tr α) (i : Nat) (a : Option α), set3 f t i a = Tr.set f t i a
  | 0, _, _, _ => rfl
  | f + 1, .nil, i, a => by
    unfold set3 Tr.set
    rw [beq_dec, beq_dec]
    by_cases h0 : i = 0
    · simp [h0]
    · by_cases h1 : i % 2 = 1
      · have h1' : Nat.mod i 2 = 1 := h1
        simp only [h0, h1, h1', decide_true, decide_false, if_true, if_false]
        rw [set3_at f .nil]; rfl
      · have h1' : ¬ Nat.mod i 2 = 1 := h1
        simp only [h0, h1, h1', decide_false, if_false]
        rw [set3_at f .nil]; rfl
  | f + 1, .node l v r, i, a => by
    unfold set3 Tr.set
    rw [beq_dec, beq_dec]
    by_cases h0 : i = 0
    · simp [h0]
    · by_cases h1 : i % 2 = 1
      · have h1' : Nat.mod i 2 = 1 := h1
        simp only [h0, h1, h1', decide_true, decide_false, if_true, if_false]
        rw [set3_at f l]; rfl
      · have h1' : ¬ Nat.mod i 2 = 1 := h1
        simp only [h0, h1, h1', decide_false, if_false]
        rw [set3_at f r]; rfl
noncomputable def getR {α : Type} (t : Tr α) : Nat → Option α := Tr.rec (motive := fun _ => Nat → Option α) (fun _ => none) (fun _ v _ ihl ihr i => match Nat.beq i 0 with
    | true => v
    | false => match Nat.beq (Nat.mod i 2) 1 with
      | true => ihl (Nat.div i 2)
      | false => ihr (Nat.pred (Nat.div i 2))) t
theorem getR_at {α : Type} : ∀ (t : Tr α) (f i : Nat), i < f → getR t i = get3 f t i
  | .nil, 0, i, h => by omega
  | .nil, f + 1, i, h => rfl
  | .node l v r, 0, i, h => by omega
  | .node l v r, f + 1, i, h => by
    show (match Nat.beq i 0 with
      | true => v
      | false => match Nat.beq (Nat.mod i 2) 1 with
        | true => getR l (Nat.div i 2)
        | false => getR r (Nat.pred (Nat.div i 2))) = _
    unfold get3
    cases h0 : Nat.beq i 0 with
    | true => rfl
    | false =>
      have hi : i ≠ 0 := fun q => by subst q; simp at h0
      have h1 : i / 2 < f := by omega
      have h2 : Nat.div i 2 = i / 2 := rfl
      have h3 : Nat.pred (i / 2) = i / 2 - 1 := rfl
      simp only [h2, h3]
      rw [getR_at l f (i / 2) h1, getR_at r f (i / 2 - 1) (by omega)]
noncomputable def setR {α : Type} (t : Tr α) : Nat → Option α → Tr α := Tr.rec (motive := fun _ => Nat → Option α → Tr α) (fun i a => set3 (Nat.succ i) .nil i a) (fun l v r ihl ihr i a => match Nat.beq i 0 with
    | true => .node l a r
    | false => match Nat.beq (Nat.mod i 2) 1 with
      | true => .node (ihl (Nat.div i 2) a) v r
      | false => .node l v (ihr (Nat.pred (Nat.div i 2)) a)) t
theorem set3_nil {α : Type} (a : Option α) : ∀ (f i g : Nat), i < f → i < g → set3 f .nil i a = set3 g .nil i a
  | 0, _, _, h, _ => by omega
  | f + 1, _, 0, _, h => by omega
  | f + 1, i, g + 1, h, h' => by
    unfold set3
    cases h0 : Nat.beq i 0 with
    | true => rfl
    | false =>
      have hi : i ≠ 0 := fun q => by subst q; simp at h0
      have h2 : Nat.div i 2 = i / 2 := rfl
      have h3 : Nat.pred (i / 2) = i / 2 - 1 := rfl
      simp only [h2, h3]
      rw [set3_nil a f (i / 2) g (by omega) (by omega), set3_nil a f (i / 2 - 1) g (by omega) (by omega)]
theorem setR_at {α : Type} (a : Option α) : ∀ (t : Tr α) (f i : Nat), i < f → setR t i a = set3 f t i a
  | .nil, f, i, h => set3_nil a _ _ _ (Nat.lt_succ_self i) h
  | .node l v r, 0, i, h => by omega
  | .node l v r, f + 1, i, h => by
    show (match Nat.beq i 0 with
      | true => Tr.node l a r
      | false => match Nat.beq (Nat.mod i 2) 1 with
        | true => Tr.node (setR l (Nat.div i 2) a) v r
        | false => Tr.node l v (setR r (Nat.pred (Nat.div i 2)) a)) = _
    unfold set3
    cases h0 : Nat.beq i 0 with
    | true => rfl
    | false =>
      have hi : i ≠ 0 := fun q => by subst q; simp at h0
      have h2 : Nat.div i 2 = i / 2 := rfl
      have h3 : Nat.pred (i / 2) = i / 2 - 1 := rfl
      simp only [h2, h3]
      rw [setR_at a l f (i / 2) (by omega), setR_at a r f (i / 2 - 1) (by omega)]
noncomputable def hget (h : H) (b : Nat) : Option AB := getR h b
theorem hget_eq (h : H) (b : Nat) : hget h b = h.get b := (getR_at h (b + 1) b (Nat.lt_succ_self b)).trans (get3_at _ _ _)
noncomputable def hset (h : H) (b : Nat) (x : Option AB) : H := setR h b x
theorem hset_eq (h : H) (b : Nat) (x : Option AB) : hset h b x = h.set b x := (setR_at x h (b + 1) b (Nat.lt_succ_self b)).trans (set3_at _ _ _ _)
theorem ble_dec (a b : Nat) : Nat.ble a b = decide (a ≤ b) := by
  cases h : Nat.ble a b with
  | true => have := Nat.le_of_ble_eq_true h; simp [this]
  | false =>
    have : ¬ a ≤ b := fun q => by rw [Nat.ble_eq_true_of_le q] at h; cases h
    simp [this]
noncomputable def nthV (l : List Value) : Nat → Option Value := List.rec (motive := fun _ => Nat → Option Value) (fun _ => none) (fun a _ ih i => Nat.rec (motive := fun _ => Option Value) (some a) (fun j _ => ih j) i) l
theorem nthV_eq : ∀ (l : List Value) (i : Nat), nthV l i = l[i]?
  | [], _ => rfl
  | _ :: _, 0 => rfl
  | a :: l, i + 1 => by
    show nthV l i = _
    rw [nthV_eq l i]; rfl
noncomputable def setV (l : List Value) : Nat → Value → Option (List Value) := List.rec (motive := fun _ => Nat → Value → Option (List Value)) (fun _ _ => none) (fun a l ih i v => Nat.rec (motive := fun _ => Option (List Value)) (some (v :: l)) (fun j _ => match ih j v with
    | some l' => some (a :: l')
    | none => none) i) l
theorem setV_eq : ∀ (l : List Value) (i : Nat) (v : Value), setV l i v = if i < l.length then some (l.set i v) else none
  | [], i, v => by show none = _; simp
  | a :: l, 0, v => by show some (v :: l) = _; simp
  | a :: l, i + 1, v => by
    show (match setV l i v with
      | some l' => some (a :: l')
      | none => none) = _
    rw [setV_eq l i v]
    by_cases h : i < l.length
    · simp [h]
    · simp [h]
noncomputable def rd3 (b k : Nat) : M Value := fun h n => match Nat.ble (Nat.succ b) n with
  | true => match hget h b with
    | some B => match nthV B.cells k with
      | some v => some ⟨v, h, n, [⟨false, b, some k⟩]⟩
      | none => none
    | none => none
  | false => none
theorem rd3_eq : rd3 = rd := by
  funext b k h n
  unfold rd3 rd
  rw [ble_dec, hget_eq]
  by_cases hb : b < n
  · have : b.succ ≤ n := hb
    simp only [hb, this, decide_true, if_true]
    cases h.get b with
    | none => rfl
    | some B => simp only [nthV_eq]; rfl
  · have : ¬ b.succ ≤ n := hb
    simp only [hb, this, decide_false, if_false]
noncomputable def wr3 (b k : Nat) (v : Value) : M Unit := fun h n => match Nat.ble (Nat.succ b) n with
  | true => match hget h b with
    | some B => match B.own with
      | true => match one v with
        | true => match setV B.cells k v with
          | some cs => some ⟨(), hset h b (some ⟨B.elem, true, cs⟩), n, [⟨false, b, some k⟩, ⟨true, b, some k⟩]⟩
          | none => none
        | false => none
      | false => none
    | none => none
  | false => none
theorem wr3_eq : wr3 = wr := by
  funext b k v h n
  unfold wr3 wr
  rw [ble_dec, hget_eq]
  by_cases hb : b < n
  · have : b.succ ≤ n := hb
    simp only [hb, this, decide_true, if_true]
    cases h.get b with
    | none => rfl
    | some B =>
      obtain ⟨e, o, cs⟩ := B
      simp only [setV_eq, hset_eq]
      cases o with
      | false => simp
      | true =>
        cases h1 : one v with
        | false => simp
        | true =>
          by_cases hk : k < cs.length
          · simp [hk]
          · simp [hk]
  · have : ¬ b.succ ≤ n := hb
    simp only [hb, this, decide_false, if_false]
noncomputable def newB3 (e : TypeId) (cs : List Value) : M Nat := fun h n => some ⟨n, hset h n (some ⟨e, true, cs⟩), Nat.succ n, []⟩
theorem newB3_eq : newB3 = newB := by
  funext e cs h n
  unfold newB3 newB
  rw [if_pos (Nat.lt_succ_self n), hset_eq]
noncomputable def hdr3 (b : Nat) : M TypeId := fun h n => match Nat.ble (Nat.succ b) n with
  | true => match hget h b with
    | some B => some ⟨B.elem, h, n, [⟨false, b, some 1099511627776⟩]⟩
    | none => none
  | false => none
theorem hdr3_eq : hdr3 = hdr := by
  funext b h n
  unfold hdr3 hdr
  rw [ble_dec, hget_eq]
  by_cases hb : b < n
  · have : b.succ ≤ n := hb
    simp only [hb, this, decide_true, if_true]
    rfl
  · have : ¬ b.succ ≤ n := hb
    simp only [hb, this, decide_false, if_false]
noncomputable def kill3 (b : Nat) : M Unit := fun h n => match Nat.ble (Nat.succ b) n with
  | true => match hget h b with
    | some B => match B.own with
      | true => some ⟨(), hset h b none, n, [⟨false, b, none⟩, ⟨true, b, none⟩]⟩
      | false => none
    | none => none
  | false => none
theorem kill3_eq : kill3 = kill := by
  funext b h n
  unfold kill3 kill
  rw [ble_dec, hget_eq]
  by_cases hb : b < n
  · have : b.succ ≤ n := hb
    simp only [hb, this, decide_true, if_true]
    cases h.get b with
    | none => rfl
    | some B =>
      simp only [hset_eq]
      cases B.own <;> simp
  · have : ¬ b.succ ≤ n := hb
    simp only [hb, this, decide_false, if_false]
noncomputable def wrN3 (b k : Nat) : List Value → M Unit
  | [] => .ret ()
  | v :: vs => (wr3 b k v).bind fun _ => wrN3 b (Nat.succ k) vs
theorem wrN3_at (b : Nat) : ∀ (vs : List Value) (k : Nat), wrN3 b k vs = wrN b k vs
  | [], _ => rfl
  | v :: vs, k => by
    unfold wrN3 wrN
    rw [wr3_eq, wrN3_at b vs (Nat.succ k)]
theorem wrN3_eq : wrN3 = wrN := by funext b k vs; exact wrN3_at b vs k
/-! reading many cells -/
noncomputable def lenV (l : List Value) : Nat := List.rec (motive := fun _ => Nat) 0 (fun _ _ ih => Nat.succ ih) l
theorem lenV_eq : ∀ l : List Value, lenV l = l.length
  | [] => rfl
  | a :: l => by
    show Nat.succ (lenV l) = _
    rw [lenV_eq l]; rfl
noncomputable def rdLog (b k : Nat) : Nat → List En
  | 0 => []
  | c + 1 => ⟨false, b, some k⟩ :: rdLog b (k + 1) c
noncomputable def rdN3 (b k c : Nat) : M (List Value) := fun h n => match c with
  | 0 => some ⟨[], h, n, []⟩
  | c + 1 => match Nat.ble (Nat.succ b) n with
    | true => match hget h b with
      | some B => match Nat.ble (Nat.add k (c + 1)) (lenV B.cells) with
        | true => some ⟨(B.cells.drop k).take (c + 1), h, n, rdLog b k (c + 1)⟩
        | false => none
      | none => none
    | false => none
theorem rdN3_at (b : Nat) (h : H) (n : Nat) : ∀ c k : Nat, rdN3 b k c h n = rdN b k c h n
  | 0, _ => rfl
  | c + 1, k => by
    have ih := rdN3_at b h n c (k + 1)
    have e0 : rdN b k (c + 1) h n = ((rd b k).bind fun v => (rdN b (k + 1) c).bind fun vs => M.ret (v :: vs)) h n := rfl
    rw [e0]
    unfold M.bind
    cases hb : Nat.ble (Nat.succ b) n with
    | false =>
      have hlt : ¬ b < n := fun q => by rw [Nat.ble_eq_true_of_le q] at hb; cases hb
      have hrd : rd b k h n = none := by unfold rd; rw [if_neg hlt]
      have hl : rdN3 b k (c + 1) h n = none := by unfold rdN3; simp only [hb]
      rw [hl]; simp only [hrd]
    | true =>
      have hlt : b < n := Nat.le_of_ble_eq_true hb
      cases hg : h.get b with
      | none =>
        have hrd : rd b k h n = none := by unfold rd; rw [if_pos hlt, hg]
        have hl : rdN3 b k (c + 1) h n = none := by unfold rdN3; simp only [hb, hget_eq, hg]
        rw [hl]; simp only [hrd]
      | some B =>
        cases hv : B.cells[k]? with
        | none =>
          have hle : B.cells.length ≤ k := List.getElem?_eq_none_iff.1 hv
          have hq : Nat.ble (Nat.add k (c + 1)) (lenV B.cells) = false := by
            rw [lenV_eq]
            cases hq : Nat.ble (Nat.add k (c + 1)) B.cells.length with
            | false => rfl
            | true =>
              have := Nat.le_of_ble_eq_true hq
              have e : Nat.add k (c + 1) = k + (c + 1) := rfl
              omega
          have hrd : rd b k h n = none := by unfold rd; rw [if_pos hlt, hg]; simp only [hv]
          have hl : rdN3 b k (c + 1) h n = none := by unfold rdN3; simp only [hb, hget_eq, hg, hq]
          rw [hl]; simp only [hrd]
        | some v =>
          have hkl : k < B.cells.length := (List.getElem?_eq_some_iff.1 hv).1
          have hd : B.cells.drop k = v :: B.cells.drop (k + 1) := by
            rw [List.drop_eq_getElem_cons hkl]
            rw [List.getElem?_eq_getElem hkl] at hv
            cases hv
            rfl
          have hrd : rd b k h n = some ⟨v, h, n, [⟨false, b, some k⟩]⟩ := by
            unfold rd
            rw [if_pos hlt, hg]
            simp only [hv]
          simp only [hrd, ← ih]
          match c with
          | 0 =>
            have hq : Nat.ble (Nat.add k (0 + 1)) (lenV B.cells) = true := by
              rw [lenV_eq]
              exact Nat.ble_eq_true_of_le (by show k + 1 ≤ _; omega)
            unfold rdN3
            simp only [hb, hget_eq, hg, hq, hd]
            simp [rdLog, M.ret]
          | c + 1 =>
            have e : Nat.add k (c + 1 + 1) = Nat.add (k + 1) (c + 1) := by
              show k + (c + 1 + 1) = k + 1 + (c + 1)
              omega
            unfold rdN3
            simp only [hb, hget_eq, hg, e]
            cases Nat.ble (Nat.add (k + 1) (c + 1)) (lenV B.cells) with
            | false => rfl
            | true =>
              simp only [M.ret, hd, List.take_succ_cons]
              simp [rdLog]
theorem rdN3_eq : rdN3 = rdN := by funext b k c h n; exact rdN3_at b h n c k
noncomputable def bytesL : List Value → Option (List UInt8)
  | [] => some []
  | .int .u8 n :: r => match bytesL r with
    | some l => some (UInt8.ofNat n.toNat :: l)
    | none => none
  | _ => none
theorem bytesL_eq : ∀ (vs : List Value) (acc : List UInt8), bytesOf vs ⟨⟨acc⟩⟩ = (bytesL vs).map fun l => ⟨⟨acc ++ l⟩⟩ := by
  intro vs
  induction vs with
  | nil => intro acc; simp [bytesOf, bytesL]
  | cons v r ih =>
    intro acc
    cases v <;> try rfl
    rename_i k n
    cases k <;> try rfl
    show bytesOf r (ByteArray.push ⟨⟨acc⟩⟩ (UInt8.ofNat n.toNat)) = Option.map _ (match bytesL r with
      | some l => some (UInt8.ofNat n.toNat :: l)
      | none => none)
    have e : (ByteArray.push ⟨⟨acc⟩⟩ (UInt8.ofNat n.toNat)) = ⟨⟨acc ++ [UInt8.ofNat n.toNat]⟩⟩ := by
      apply ByteArray.ext
      simp [ByteArray.push]
    rw [e, ih]
    cases bytesL r with
    | none => rfl
    | some l => simp
noncomputable def evToStr3 : Value → M Value
  | .slice (some ⟨b, off, none⟩) len _ => (rdN3 b off len).bind fun vs => match bytesL vs with
    | some l => .ret (.string ⟨⟨l⟩⟩)
    | none => .fail
  | x => evToStr x
theorem evToStr3_eq : evToStr3 = evToStr := by
  funext x
  unfold evToStr3
  split
  · rename_i b off len c
    unfold evToStr
    rw [rdN3_eq]
    congr 1
    funext vs
    have := bytesL_eq vs []
    have e : (ByteArray.empty) = ⟨⟨[]⟩⟩ := rfl
    rw [e, this]
    cases bytesL vs with
    | none => rfl
    | some l => simp
  · rfl
noncomputable def elems3 (sz : Nat) (n : Nat) : Value → M (List Value)
  | .slice (some ⟨b, off, none⟩) _ _ => rdN3 b off (n * sz)
  | .string ⟨⟨l⟩⟩ => .ret ((l.take n).map fun b => Value.int .u8 (.ofNat b.toNat))
  | _ => .fail
theorem elems3_eq : elems3 = elemsOf := by
  funext sz n x
  cases x <;> try rfl
  · rename_i s
    obtain ⟨⟨l⟩⟩ := s
    unfold elems3 elemsOf
    simp only
    congr 1
    simp [ByteArray.data_extract]
  · rename_i a len cap
    cases a with
    | none => rfl
    | some a =>
      obtain ⟨b, off, p⟩ := a
      cases p with
      | none => unfold elems3 elemsOf; rw [rdN3_eq]
      | some p => rfl
/-! putting a struct together -/
noncomputable def over : List Value → List Value → List Value
  | [], cs => cs
  | x :: l, cs => match cs with
    | [] => []
    | _ :: cs => x :: over l cs
noncomputable def splice : List Value → Nat → List Value → List Value
  | cs, 0, l => over l cs
  | [], _ + 1, _ => []
  | a :: cs, off + 1, l => a :: splice cs off l
noncomputable def setAll : List Value → Nat → List Value → List Value
  | cs, _, [] => cs
  | cs, off, x :: l => setAll (cs.set off x) (off + 1) l
theorem setAll_cons (a : Value) : ∀ (l cs : List Value) (off : Nat), setAll (a :: cs) (off + 1) l = a :: setAll cs off l
  | [], _, _ => rfl
  | x :: l, cs, off => by
    show setAll ((a :: cs).set (off + 1) x) (off + 1 + 1) l = a :: setAll (cs.set off x) (off + 1) l
    rw [List.set_cons_succ]
    exact setAll_cons a l _ _
theorem setAll_nil : ∀ (l : List Value) (off : Nat), setAll [] off l = []
  | [], _ => rfl
  | x :: l, off => by
    show setAll (([] : List Value).set off x) (off + 1) l = []
    rw [List.set_nil]
    exact setAll_nil l _
theorem over_eq : ∀ (l cs : List Value), over l cs = setAll cs 0 l
  | [], _ => rfl
  | x :: l, [] => by rw [setAll_nil]; rfl
  | x :: l, c :: cs => by
    show x :: over l cs = setAll ((c :: cs).set 0 x) (0 + 1) l
    rw [List.set_cons_zero, setAll_cons, over_eq l cs]
theorem splice_eq : ∀ (off : Nat) (cs l : List Value), splice cs off l = setAll cs off l
  | 0, cs, l => by
    have : splice cs 0 l = over l cs := by cases cs <;> rfl
    rw [this]; exact over_eq l cs
  | off + 1, [], l => by rw [setAll_nil]; rfl
  | off + 1, a :: cs, l => by
    rw [setAll_cons]
    show a :: splice cs off l = _
    rw [splice_eq off cs l]
theorem foldl_zip (off : Nat) : ∀ (l : List Value) (j : Nat) (cells : Array Value), ((l.zipIdx j).foldl (fun cs (x : Value × Nat) => cs.setIfInBounds (off + x.2) x.1) cells).toList = setAll cells.toList (off + j) l
  | [], _, _ => rfl
  | x :: l, j, cells => by
    rw [List.zipIdx_cons, List.foldl_cons, foldl_zip off l (j + 1)]
    rw [Array.toList_setIfInBounds]
    rfl
noncomputable def cellsL : Value → List Value
  | .agg ⟨l⟩ => l
  | v => [v]
theorem cellsL_eq (v : Value) : cellsL v = v.cells.toList := by
  cases v <;> rfl
noncomputable def fill3 (place : Nat → Option (Nat × Nat)) (cells : List Value) : List (Nat × Value) → Option (List Value)
  | [] => some cells
  | (i, v) :: rest => match place i with
    | none => none
    | some (off, size) => match Nat.beq (lenV (cellsL v)) size && Nat.ble (Nat.add off (lenV (cellsL v))) (lenV cells) with
      | true => fill3 place (splice cells off (cellsL v)) rest
      | false => none
theorem fill3_eq (place : Nat → Option (Nat × Nat)) : ∀ (parts : List (Nat × Value)) (cells : Array Value), fill3 place cells.toList parts = (Instr.fill place cells parts).map (·.toList)
  | [], _ => rfl
  | (i, v) :: rest, cells => by
    unfold fill3 Instr.fill
    cases place i with
    | none => rfl
    | some q =>
      obtain ⟨off, size⟩ := q
      simp only
      rw [lenV_eq, lenV_eq, cellsL_eq, beq_dec, ble_dec]
      have e1 : v.cells.toList.length = v.cells.size := by simp
      have e2 : cells.toList.length = cells.size := by simp
      rw [e1, e2]
      by_cases h1 : v.cells.size = size
      · by_cases h2 : off + v.cells.size ≤ cells.size
        · have h2' : Nat.add off v.cells.size ≤ cells.size := h2
          have h3 : ¬ off + v.cells.size > cells.size := by omega
          rw [if_neg (by simp [h1]; omega)]
          simp only [h1, h2', decide_true, Bool.and_true]
          rw [← h1]
          simp only [h2', decide_true, Bool.true_and]
          rw [← fill3_eq place rest]
          congr 1
          rw [splice_eq]
          have := foldl_zip off v.cells.toList 0 cells
          rw [Nat.add_zero] at this
          rw [← this]
          congr 1
          rw [← Array.foldl_toList, Array.toList_zipIdx]
        · have h2' : ¬ Nat.add off v.cells.size ≤ cells.size := h2
          rw [if_pos (by simp [h1]; omega)]
          simp [h2, h2']
      · rw [if_pos (by simp [h1])]
        simp [h1]
noncomputable def repV (v : Value) (n : Nat) : List Value := Nat.rec (motive := fun _ => List Value) [] (fun _ ih => v :: ih) n
theorem repV_eq (v : Value) : ∀ n : Nat, repV v n = List.replicate n v
  | 0 => rfl
  | n + 1 => by
    show v :: repV v n = _
    rw [repV_eq v n]; rfl
noncomputable def appV (a b : List Value) : List Value := List.rec (motive := fun _ => List Value) b (fun v _ ih => v :: ih) a
/-- what is told of a part's own blocks is left out -/
noncomputable def flt (n n1 : Nat) (L L2 : List En) : List En := List.rec (motive := fun _ => List En) L2 (fun e _ ih => match Nat.ble n e.b with
  | true => (match Nat.ble (Nat.succ e.b) n1 with
    | true => ih
    | false => e :: ih)
  | false => e :: ih) L
theorem flt_eq (n n1 : Nat) (L2 : List En) : ∀ L : List En, flt n n1 L L2 = (L.filter fun e => !(decide (n ≤ e.b) && decide (e.b < n1))) ++ L2
  | [] => rfl
  | e :: L => by
    show (match Nat.ble n e.b with
      | true => (match Nat.ble (Nat.succ e.b) n1 with
        | true => flt n n1 L L2
        | false => e :: flt n n1 L L2)
      | false => e :: flt n n1 L L2) = _
    rw [flt_eq n n1 L2 L, List.filter_cons, ble_dec, ble_dec]
    by_cases h1 : n ≤ e.b
    · by_cases h2 : e.b < n1
      · have h3 : e.b.succ ≤ n1 := h2
        simp [h1, h2, h3]
      · have h3 : ¬ e.b.succ ≤ n1 := h2
        simp [h1, h2, h3]
    · simp [h1]
noncomputable def insB {α β : Type} (m : M α) (k : α → M β) : M β := fun h n => match m h n with
  | some ⟨a, h1, n1, L⟩ => (match k a h1 n1 with
    | some ⟨b, h2, n2, L2⟩ => some ⟨b, h2, n2, flt n n1 L L2⟩
    | none => none)
  | none => none
theorem insB_eq {α β : Type} (m : M α) (k : α → M β) : insB m k = (inside m).bind k := by
  funext h n
  unfold insB M.bind inside
  cases hm : m h n with
  | none => simp only [hm]
  | some o =>
    obtain ⟨a, h1, n1, L⟩ := o
    simp only [hm, flt_eq]
    rfl
noncomputable def anyE (p : En → Bool) (L : List En) : Bool := List.rec (motive := fun _ => Bool) false (fun e _ ih => match p e with
  | true => true
  | false => ih) L
theorem anyE_eq (p : En → Bool) : ∀ L : List En, anyE p L = L.any p
  | [] => rfl
  | e :: L => by
    show (match p e with
      | true => true
      | false => anyE p L) = _
    rw [anyE_eq p L, List.any_cons]
    cases p e <;> rfl
noncomputable def andL (a b : Bool) : Bool := match a with
  | true => b
  | false => false
theorem andL_eq (a b : Bool) : andL a b = (a && b) := by cases a <;> rfl
noncomputable def meets3 (x y : En) : Bool := match Nat.beq x.b y.b with
  | true => (x.k == y.k || x.k.isNone || y.k.isNone)
  | false => false
theorem meets3_eq (x y : En) : meets3 x y = x.meets y := by
  unfold meets3 En.meets
  rw [beq_dec]
  by_cases h : x.b = y.b
  · simp [h]
  · have : (x.b == y.b) = false := by simpa using h
    simp [h]
noncomputable def clash3 (a b : Tk) : Bool :=
  match anyE (fun x => andL x.wr (anyE (fun y => meets3 x y) b.log)) a.log with
  | true => true
  | false => match anyE (fun x => andL x.wr (anyE (fun y => meets3 x y) a.log)) b.log with
    | true => true
    | false => match anyE (fun x => andL (Nat.ble b.n x.b) (Nat.ble (Nat.succ x.b) b.n1)) a.log with
      | true => true
      | false => anyE (fun x => andL (Nat.ble a.n x.b) (Nat.ble (Nat.succ x.b) a.n1)) b.log
theorem clash3_eq (a b : Tk) : clash3 a b = a.clash b := by
  have key : ∀ (n n1 : Nat) (L : List En), (anyE (fun x => andL (Nat.ble n x.b) (Nat.ble (Nat.succ x.b) n1)) L) = L.any fun x => decide (n ≤ x.b) && decide (x.b < n1) := fun n n1 L => by
    rw [anyE_eq]
    congr 1
    funext x
    rw [andL_eq, ble_dec, ble_dec]
    rfl
  unfold clash3 Tk.clash
  rw [key, key]
  simp only [anyE_eq, andL_eq, meets3_eq]
  cases (a.log.any fun x => x.wr && b.log.any fun y => x.meets y) <;> cases (b.log.any fun x => x.wr && a.log.any fun y => x.meets y) <;> cases (a.log.any fun x => decide (b.n ≤ x.b) && decide (x.b < b.n1)) <;> simp

end Go.Proofs.YtmjolmggelkjlaaGreat.Ev
