/- The third form's operations on rows, places and calls; all of them. No program in sight. -/
import Derived.Test.YtmjolmggelkjlaaGreatHg
namespace Go.Proofs.YtmjolmggelkjlaaGreat.Ev
set_option linter.unusedVariables false
set_option linter.unusedSimpArgs false
open Go Go.RowKit

section
variable {β : Type} {P : Program} {t : TypeId} {x y a : Value} {k : Value → M β} {h : H} {n : Nat} {r : Out β}
theorem zeros_one {z : Value} (hz : z.cells = #[z]) (n : Nat) : (zeros z n).toList = List.replicate n z := by
  unfold zeros
  rw [hz]
  apply List.ext_getElem
  · simp
  · intro i h1 h2
    simp [Nat.mod_one]
theorem appV_eq : ∀ a b : List Value, appV a b = a ++ b
  | [], _ => rfl
  | v :: a, b => by
    show v :: appV a b = _
    rw [appV_eq a b]; rfl
theorem zeros_get {z : Value} {n i : Nat} (hs : 0 < z.cells.size) (h : i < n) : (zeros z n).toList[i]? = some (z.cells.toList[i % z.cells.size]'(by rw [Array.length_toList]; exact Nat.mod_lt _ hs)) := by
  unfold zeros
  have hlt := Nat.mod_lt i hs
  simp [h, hlt]
theorem catV_len (l : List Value) : ∀ c, (catV l c).length = c * l.length
  | 0 => by simp [catV]
  | c + 1 => by
    unfold catV
    rw [appV_eq, List.length_append, catV_len l c, Nat.add_mul, Nat.one_mul, Nat.add_comm]
theorem catV_at (l : List Value) (hs : 0 < l.length) : ∀ c i, i < c * l.length → (catV l c)[i]? = some (l[i % l.length]'(Nat.mod_lt _ hs))
  | 0, i, h => by simp at h
  | c + 1, i, h => by
    unfold catV
    rw [appV_eq]
    by_cases hi : i < l.length
    · rw [List.getElem?_append_left hi, List.getElem?_eq_getElem hi]
      simp only [Nat.mod_eq_of_lt hi]
    · rw [List.getElem?_append_right (by omega), catV_at l hs c (i - l.length) (by rw [Nat.add_mul, Nat.one_mul] at h; omega)]
      have : (i - l.length) % l.length = i % l.length := by
        conv => rhs; rw [show i = i - l.length + l.length by omega, Nat.add_mod_right]
      simp only [this]
theorem catV_zeros {z : Value} (hs : 0 < z.cells.size) (c : Nat) : catV (cellsL z) c = (zeros z (c * z.cells.size)).toList := by
  rw [cellsL_eq]
  have hl : z.cells.toList.length = z.cells.size := Array.length_toList
  apply List.ext_getElem?
  intro i
  by_cases hi : i < c * z.cells.size
  · rw [catV_at _ (by omega) c i (by rw [hl]; exact hi), zeros_get hs hi]
    simp only [hl]
  · rw [List.getElem?_eq_none (by rw [catV_len, hl]; omega), List.getElem?_eq_none (by unfold zeros; simp; omega)]
theorem over_all : ∀ (l cs : List Value), l.length = cs.length → over l cs = l
  | [], [], _ => rfl
  | [], _ :: _, h => by simp at h
  | _ :: _, [], h => by simp at h
  | x :: l, c :: cs, h => by
    show x :: over l cs = _
    rw [over_all l cs (by simpa using h)]
theorem lone_some {len : Nat} {ps : List (Nat × Value)} {v : Value} (e : lone len ps = some v) : len = 1 ∧ ps = [(0, v)] := by
  unfold lone at e
  split at e
  · cases e; exact ⟨rfl, rfl⟩
  · cases e
theorem bsQ_sub {len : Nat} {ps : List (Nat × Value)} (hr : bsQ P t len ps k h n = some r) : ((inside (evBuildSlice P t len ps)).bind k) h n = some r := by
  unfold bsQ at hr
  cases hu : P.underlying t with
  | none => simp only [hu] at hr; cases hr
  | some u =>
    simp only [hu] at hr
    cases u <;> try (cases hr; done)
    rename_i e
    simp only at hr
    cases hs : size? P e with
    | none => simp only [hs] at hr; cases hr
    | some sz =>
      simp only [hs] at hr
      cases hz : zero? P e with
      | none => simp only [hz] at hr; cases hr
      | some z =>
        simp only [hz] at hr
        have e0 : evBuildSlice P t len ps = if len = 0 && ps.isEmpty then (newB e []).bind fun id => .ret (.slice (some ⟨id, 0, none⟩) 0 0) else
            if 0 < len * sz && len * sz ≤ 65536 then
              match Instr.fill (fun i => some (i * sz, sz)) (zeros z (len * sz)) ps with
              | some cs => (newB e cs.toList).bind fun id => .ret (.slice (some ⟨id, 0, none⟩) len len)
              | none => .fail
            else .fail := by
          unfold evBuildSlice
          simp only [hu, hs, hz]
          rfl
        rw [e0]
        cases h0 : (Nat.beq len 0 && ps.isEmpty) with
        | true =>
          simp only [h0] at hr
          rw [Bool.and_eq_true] at h0
          have := Nat.eq_of_beq_eq_true h0.1
          rw [if_pos (by simp [this, h0.2])]
          unfold kbs fillQ at hr
          simp only at hr
          refine ins_of ?_ hr
          rw [newB3_eq]
        | false =>
          simp only [h0] at hr
          have h0' : ¬ ((decide (len = 0) && ps.isEmpty) = true) := by
            intro q
            rw [Bool.and_eq_true, decide_eq_true_eq] at q
            obtain ⟨rfl, q⟩ := q
            rw [q] at h0
            cases h0
          rw [if_neg h0']
          cases h1 : (Nat.ble 1 (len * sz) && Nat.ble (len * sz) 65536 && Nat.beq (lenV (cellsL z)) sz) with
          | false => simp only [h1] at hr; cases hr
          | true =>
            simp only [h1] at hr
            rw [Bool.and_eq_true, Bool.and_eq_true] at h1
            obtain ⟨⟨h2, h3⟩, h4⟩ := h1
            have h2 := Nat.le_of_ble_eq_true h2
            have h3 := Nat.le_of_ble_eq_true h3
            have h4 := Nat.eq_of_beq_eq_true h4
            rw [lenV_eq, cellsL_eq, Array.length_toList] at h4
            rw [if_pos (by simp; omega)]
            have hzs : 0 < z.cells.size := by
              rw [h4]
              exact Nat.pos_of_ne_zero fun q => by rw [q] at h2; simp at h2
            cases hv : lone len ps with
            | some v =>
              simp only [hv] at hr
              obtain ⟨rfl, rfl⟩ := lone_some hv
              unfold kb1 at hr
              cases hc : Nat.beq (lenV (cellsL v)) sz with
              | false => simp only [hc] at hr; cases hr
              | true =>
                simp only [hc] at hr
                have hc := Nat.eq_of_beq_eq_true hc
                have f := fill3_eq (fun i => some (i * sz, sz)) [(0, v)] (zeros z (1 * sz))
                have zl : (zeros z (1 * sz)).toList.length = sz := by unfold zeros; simp
                have f2 : fill3 (fun i => some (i * sz, sz)) (zeros z (1 * sz)).toList [(0, v)] = some (cellsL v) := by
                  unfold fill3
                  simp only [Nat.zero_mul]
                  rw [lenV_eq (zeros z (1 * sz)).toList, zl, hc]
                  have b1 : Nat.beq sz sz = true := Nat.beq_refl sz
                  have b2 : Nat.ble (Nat.add 0 sz) sz = true := Nat.ble_eq_true_of_le (by show 0 + sz ≤ sz; omega)
                  simp only [b1, b2, Bool.and_self]
                  unfold fill3
                  rw [splice_eq, ← over_eq, over_all _ _ (by rw [zl, ← lenV_eq, hc])]
                rw [f2] at f
                cases hi : Instr.fill (fun i => some (i * sz, sz)) (zeros z (1 * sz)) [(0, v)] with
                | none => rw [hi] at f; cases f
                | some cs =>
                  rw [hi] at f
                  simp only [Option.map_some, Option.some.injEq] at f
                  refine ins_of ?_ hr
                  rw [newB3_eq, f]
            | none =>
              simp only [hv] at hr
              obtain ⟨qs, hq, hr⟩ := optK_some hr
              unfold kbs at hr
              have f := fillQ_place ps qs (catV (cellsL z) len) hq
              rw [catV_zeros hzs, h4, fill3_eq] at f
              rw [catV_zeros hzs, h4, f] at hr
              cases hi : Instr.fill (fun i => some (i * sz, sz)) (zeros z (len * sz)) ps with
              | none => rw [hi] at hr; cases hr
              | some cs =>
                rw [hi] at hr
                refine ins_of ?_ hr
                rw [newB3_eq]
theorem makeQ_sub {l c : Value} (hr : makeQ P t l c k h n = some r) : ((inside (evMakeSlice P t l c)).bind k) h n = some r := by
  unfold makeQ at hr
  cases hu : P.underlying t with
  | none => simp only [hu] at hr; cases hr
  | some u =>
    simp only [hu] at hr
    cases u <;> try (cases hr; done)
    rename_i e
    simp only at hr
    cases hs : P.info? e with
    | none => simp only [hs] at hr; cases hr
    | some ie =>
      simp only [hs] at hr
      cases hz : zero? P e with
      | none => simp only [hz] at hr; cases hr
      | some z =>
        simp only [hz] at hr
        cases h1 : (Nat.ble ie.bytes 64 && Nat.beq (lenV (cellsL z)) ie.size && Nat.ble 1 ie.size) with
        | false => simp only [h1] at hr; cases hr
        | true =>
          simp only [h1] at hr
          rw [Bool.and_eq_true, Bool.and_eq_true] at h1
          obtain ⟨⟨h2, h3⟩, h4⟩ := h1
          have h2 := Nat.le_of_ble_eq_true h2
          have h3 := Nat.eq_of_beq_eq_true h3
          have h4 := Nat.le_of_ble_eq_true h4
          rw [lenV_eq, cellsL_eq, Array.length_toList] at h3
          unfold kmk at hr
          split at hr
          · split at hr
            · rename_i k1 l _ k2 c
              cases hl : Nat.ble l c with
              | false => simp only [hl] at hr; cases hr
              | true =>
                simp only [hl] at hr
                cases hm : Nat.ble c 1099511627776 with
                | false => simp only [hm] at hr; cases hr
                | true =>
                  simp only [hm] at hr
                  have hl := Nat.le_of_ble_eq_true hl
                  have hm := Nat.le_of_ble_eq_true hm
                  refine ins_of ?_ hr
                  unfold evMakeSlice
                  simp only [hu, hs, hz]
                  have q1 : (0 : Int) ≤ Int.ofNat l := Int.natCast_nonneg _
                  have q2 : Int.ofNat l ≤ Int.ofNat c := Int.ofNat_le.2 hl
                  have q3 : Int.ofNat c ≤ 1099511627776 := Int.ofNat_le.2 hm
                  rw [if_pos (by simp [q1, q2, q3, h2, h3, h4]; omega), newB3_eq, catV_zeros (by omega), h3]
                  rfl
            · cases hr
          · cases hr
theorem sl1_eq {P : Program} {t e : TypeId} {sz : Nat} (hu : P.underlying t = some (.slice e)) (hs : size? P e = some sz) (a : Option Addr) (len cap : Nat) (lo hi : Option Value) : sl1 sz a len cap lo hi = evSlice P t (.slice a len cap) lo hi none := by
  unfold sl1 evSlice
  simp only [hu, hs]
  cases h1 : boundOf hi len with
  | none => simp
  | some b =>
    cases h2 : boundOf lo 0 with
    | none => simp [boundOf]
    | some c =>
      simp [boundOf]
      rfl
theorem sliceQ_sub {lo hi mx : Option Value} (hr : sliceQ P t x lo hi mx k h n = some r) : slice2 P t x lo hi mx k h n = some r := by
  unfold sliceQ at hr
  cases mx with
  | some _ => cases hr
  | none =>
    simp only at hr
    cases hu : P.underlying t with
    | none => simp only [hu] at hr; cases hr
    | some u =>
      simp only [hu] at hr
      cases u <;> try (cases hr; done)
      · unfold ksx at hr
        cases x <;> try (cases hr; done)
        rename_i s
        obtain ⟨⟨l⟩⟩ := s
        simp only at hr
        cases ha : bndN lo 0 with
        | none => simp only [ha] at hr; cases hr
        | some a =>
          simp only [ha] at hr
          cases hb : bndN hi (lenB l) with
          | none => simp only [hb] at hr; cases hr
          | some b =>
            simp only [hb] at hr
            cases h1 : Nat.ble a b with
            | false => simp only [h1] at hr; cases hr
            | true =>
              simp only [h1] at hr
              cases h2 : Nat.ble b (lenB l) with
              | false => simp only [h2] at hr; cases hr
              | true =>
                simp only [h2] at hr
                have bn : ∀ {o : Option Value} {d a : Nat}, bndN o d = some a → boundOf o d = some a := by
                  intro o d a h
                  unfold bndN at h
                  split at h
                  · exact h
                  · cases h
                    unfold boundOf
                    simp
                  · cases h
                have h2 := Nat.le_of_ble_eq_true h2
                rw [lenB_eq] at h2 hb
                have e := slice_str hu l lo hi (bn ha) (bn hb) (Nat.le_of_ble_eq_true h1) h2 k
                exact (congrFun (congrFun e h) n).trans hr
      · rename_i e
        simp only at hr
        cases hs : size? P e with
        | none => simp only [hs] at hr; cases hr
        | some sz =>
          simp only [hs] at hr
          unfold slice2
          have hst : isStrT P t = false := by unfold isStrT; rw [hu]
          rw [hst]
          simp only
          cases x <;> try (cases hr; done)
          rename_i ad len cap
          cases ad with
          | none =>
            unfold ksc at hr
            simp only at hr
            cases h1 : sl1 sz none len cap lo hi with
            | none => simp only [h1] at hr; cases hr
            | some v =>
              simp only [h1] at hr
              have e1 : slSl P t (.slice none len cap) lo hi none = M.ret v := by
                unfold slSl
                simp only [isStr]
                unfold evSliceM
                simp only
                rw [← sl1_eq hu hs, h1]
                rfl
              rw [e1]
              exact ret_of hr
          | some ad =>
            obtain ⟨b, off, p⟩ := ad
            cases p with
            | some _ => cases hr
            | none =>
              unfold ksc at hr
              simp only at hr
              obtain ⟨c, h2, n2, L⟩ := r
              rw [insB_eq] at hr
              obtain ⟨v, h1, n1, L1, L2, e1, e2, e3⟩ := bind_some hr
              obtain ⟨L', e4, e5⟩ := inside_inv e1
              obtain ⟨w, h3, n3, L3, L4, e6, e7, e8⟩ := bind_some e4
              have : slSl P t (.slice (some ⟨b, off, none⟩) len cap) lo hi none h n = some ⟨v, h1, n1, L'⟩ := by
                unfold slSl
                simp only [isStr]
                unfold evSliceM
                simp only
                rw [hdr3_eq] at e6
                rw [e8]
                refine bind_run e6 ?_
                cases hw : Nat.beq w e with
                | false => simp only [hw] at e7; cases e7
                | true =>
                  simp only [hw] at e7
                  have := Nat.eq_of_beq_eq_true hw
                  subst this
                  simp only [hu, if_true]
                  rw [← sl1_eq hu hs]
                  exact e7
              rw [e3, e5]
              exact bind_run (inside_run this) e2
theorem appK_sub {s : Value} (hr : appK P t s x k h n = some r) : ((inside (evAppend P t s x)).bind k) h n = some r := by
  unfold appK at hr
  cases hu : P.underlying t with
  | none => simp only [hu] at hr; cases hr
  | some u =>
    simp only [hu] at hr
    cases u <;> try (cases hr; done)
    rename_i e
    simp only at hr
    cases hs : P.info? e with
    | none => simp only [hs] at hr; cases hr
    | some ie =>
      simp only [hs] at hr
      cases hz : zero? P e with
      | none => simp only [hz] at hr; cases hr
      | some z =>
        simp only [hz] at hr
        cases h1 : (Nat.ble ie.bytes 64 && Nat.beq (lenV (cellsL z)) ie.size && Nat.ble 1 ie.size) with
        | false => simp only [h1] at hr; cases hr
        | true =>
          simp only [h1] at hr
          rw [Bool.and_eq_true, Bool.and_eq_true] at h1
          obtain ⟨⟨h2, h3⟩, h4⟩ := h1
          have h2 := Nat.le_of_ble_eq_true h2
          have h3 := Nat.eq_of_beq_eq_true h3
          have h4 := Nat.le_of_ble_eq_true h4
          rw [lenV_eq, cellsL_eq, Array.length_toList] at h3
          refine ins_of ?_ hr
          unfold evAppend appQ
          simp only [hu, hs, hz]
          cases lenOf? x with
          | none => rfl
          | some m =>
            simp only
            have c1 : (decide (z.cells.size = ie.size) && decide (1 ≤ ie.size) && decide (ie.bytes ≤ 64)) = true := by simp; omega
            rw [if_pos c1]
            unfold evAppendTo appTo evNew
            rw [elems3_eq, rdN3_eq, wrN3_eq, kill3_eq, hdr3_eq, newB3_eq]
            rfl
theorem copyQ_sub {d s : Value} (hr : copyQ P t d s k h n = some r) : ((inside (evCopy P t d s)).bind k) h n = some r := by
  unfold copyQ at hr
  cases hu : P.underlying t with
  | none => simp only [hu] at hr; cases hr
  | some u =>
    simp only [hu] at hr
    cases u <;> try (cases hr; done)
    rename_i e
    simp only at hr
    cases hs : size? P e with
    | none => simp only [hs] at hr; cases hr
    | some sz =>
      simp only [hs] at hr
      refine ins_of ?_ hr
      unfold evCopy cpQ
      simp only [hu, hs]
      rw [elems3_eq, wrN3_eq]
      cases d <;> try rfl
      cases lenOf? s <;> rfl
theorem faQ_sub {f : Nat} (hr : faQ P t x f k h n = some r) : optK (evFieldAddr P t x f) k h n = some r := by
  unfold faQ at hr
  cases hu : P.underlying t with
  | none => simp only [hu] at hr; cases hr
  | some u =>
    simp only [hu] at hr
    cases u <;> try (cases hr; done)
    rename_i fs
    simp only at hr
    cases hf : fs[f]? with
    | none => simp only [hf] at hr; cases hr
    | some fd =>
      simp only [hf] at hr
      cases hs : size? P fd.type with
      | none => simp only [hs] at hr; cases hr
      | some sz =>
        cases sz with
        | zero => simp only [hs] at hr; cases hr
        | succ sz =>
          simp only [hs] at hr
          unfold kfa at hr
          split at hr
          · refine opt_of ?_ hr
            unfold evFieldAddr
            simp only [hu, hf, hs]
            rw [if_neg (by omega)]
            rfl
          · cases hr
theorem nthV_of {l : List Value} {K : Nat} {β : Type} {k : Value → M β} {h : H} {n : Nat} {r : Out β} (hr : (match nthV l K with
    | some v => k v
    | none => M.fail) h n = some r) : optK l[K]? k h n = some r := by
  rw [nthV_eq] at hr
  cases e : l[K]? with
  | none => rw [e] at hr; cases hr
  | some v => rw [e] at hr; exact hr
theorem fieldQ_sub {f : Nat} (hr : fieldQ P t x f k h n = some r) : optK (evField P t x f) k h n = some r := by
  unfold fieldQ at hr
  cases hu : P.underlying t with
  | none => simp only [hu] at hr; cases hr
  | some u =>
    simp only [hu] at hr
    cases u <;> try (cases hr; done)
    rename_i fs
    simp only at hr
    cases hf : fs[f]? with
    | none => simp only [hf] at hr; cases hr
    | some fd =>
      simp only [hf] at hr
      cases ha : agg? P fd.type with
      | none => simp only [ha] at hr; cases hr
      | some b =>
        cases b with
        | false =>
          simp only [ha] at hr
          unfold kfd at hr
          cases x <;> try (cases hr; done)
          rename_i cs
          obtain ⟨l⟩ := cs
          have := nthV_of hr
          have e : evField P t (.agg ⟨l⟩) f = l[fd.offset]? := by
            unfold evField partOf
            simp only [hu, hf, ha]
            simp
          rw [e]; exact this
        | true =>
          simp only [ha] at hr
          cases hs : size? P fd.type with
          | none => simp only [hs] at hr; cases hr
          | some m =>
            simp only [hs] at hr
            unfold kfg at hr
            cases x <;> try (cases hr; done)
            rename_i cs
            obtain ⟨l⟩ := cs
            refine opt_of ?_ hr
            unfold evField partOf
            simp only [hu, hf, ha, hs]
            congr 2
            apply Array.ext'
            simp [List.extract_eq_take_drop]
theorem ixQ_sub {ix : Value} (hr : ixQ P t x ix k h n = some r) : optK (evIndexAddr P t x ix) k h n = some r := by
  unfold ixQ at hr
  cases hu : P.underlying t with
  | none => simp only [hu] at hr; cases hr
  | some u =>
    simp only [hu] at hr
    have one : ∀ {sz : Nat} (i : Nat), Nat.beq sz 1 = true → i * sz = i := fun i h => by rw [Nat.eq_of_beq_eq_true h, Nat.mul_one]
    cases u <;> try (cases hr; done)
    case array m e =>
      simp only at hr
      cases hs : size? P e with
      | none => simp only [hs] at hr; cases hr
      | some sz =>
        simp only [hs] at hr
        cases h1 : Nat.beq sz 1 with
        | true =>
          simp only [h1] at hr
          unfold kia at hr
          split at hr
          · split at hr
            · rename_i b off _ kd i
              cases hl : Nat.ble (Nat.succ i) m with
              | false => simp only [hl] at hr; cases hr
              | true =>
                simp only [hl] at hr
                refine opt_of ?_ hr
                have := Nat.le_of_ble_eq_true hl
                unfold evIndexAddr
                simp only [hu, hs]
                rw [if_pos ⟨Int.natCast_nonneg _, Int.ofNat_lt.2 this⟩]
                show some (Value.pointer (some ⟨b, off + i * sz, none⟩)) = _
                rw [one i h1]; rfl
            · cases hr
          · cases hr
        | false =>
          simp only [h1] at hr
          unfold kib at hr
          split at hr
          · split at hr
            · rename_i b off _ kd i
              cases hl : Nat.ble (Nat.succ i) m with
              | false => simp only [hl] at hr; cases hr
              | true =>
                simp only [hl] at hr
                refine opt_of ?_ hr
                have := Nat.le_of_ble_eq_true hl
                unfold evIndexAddr
                simp only [hu, hs]
                rw [if_pos ⟨Int.natCast_nonneg _, Int.ofNat_lt.2 this⟩]
                rfl
            · cases hr
          · cases hr
    case slice e =>
      simp only at hr
      cases hs : size? P e with
      | none => simp only [hs] at hr; cases hr
      | some sz =>
        simp only [hs] at hr
        cases h1 : Nat.beq sz 1 with
        | true =>
          simp only [h1] at hr
          unfold kix at hr
          split at hr
          · split at hr
            · rename_i b off m _ _ kd i
              cases hl : Nat.ble (Nat.succ i) m with
              | false => simp only [hl] at hr; cases hr
              | true =>
                simp only [hl] at hr
                refine opt_of ?_ hr
                have := Nat.le_of_ble_eq_true hl
                unfold evIndexAddr
                simp only [hu, hs]
                rw [if_pos ⟨Int.natCast_nonneg _, Int.ofNat_lt.2 this⟩]
                show some (Value.pointer (some ⟨b, off + i * sz, none⟩)) = _
                rw [one i h1]; rfl
            · cases hr
          · cases hr
        | false =>
          simp only [h1] at hr
          unfold kiy at hr
          split at hr
          · split at hr
            · rename_i b off m _ _ kd i
              cases hl : Nat.ble (Nat.succ i) m with
              | false => simp only [hl] at hr; cases hr
              | true =>
                simp only [hl] at hr
                refine opt_of ?_ hr
                have := Nat.le_of_ble_eq_true hl
                unfold evIndexAddr
                simp only [hu, hs]
                rw [if_pos ⟨Int.natCast_nonneg _, Int.ofNat_lt.2 this⟩]
                rfl
            · cases hr
          · cases hr
theorem indexQ_sub {ix : Value} (hr : indexQ P t x ix k h n = some r) : optK (index2 P t x ix) k h n = some r := by
  unfold indexQ at hr
  cases hu : P.underlying t with
  | none => simp only [hu] at hr; cases hr
  | some u =>
    simp only [hu] at hr
    cases u <;> try (cases hr; done)
    case string =>
      unfold kit at hr
      cases x <;> try (cases hr; done)
      rename_i s
      obtain ⟨⟨l⟩⟩ := s
      simp only at hr
      split at hr
      · rename_i kd i
        cases hn : nthB l i with
        | none => simp only [hn] at hr; cases hr
        | some c =>
          simp only [hn] at hr
          obtain ⟨h1, h2⟩ := nthB_some _ _ _ hn
          have := idx_str (P := P) hu l kd (i : Int) (by omega) (by omega)
          rw [Int.toNat_natCast, h2] at this
          exact opt_of this hr
      · cases hr
    case array m e =>
      simp only at hr
      cases ha : agg? P e with
      | none => simp only [ha] at hr; cases hr
      | some b =>
        cases b with
        | true => simp only [ha] at hr; cases hr
        | false =>
          simp only [ha] at hr
          cases hs : size? P e with
          | none => simp only [hs] at hr; cases hr
          | some sz =>
            simp only [hs] at hr
            cases h1 : Nat.beq sz 1 with
            | false => simp only [h1] at hr; cases hr
            | true =>
              simp only [h1] at hr
              have := Nat.eq_of_beq_eq_true h1
              subst this
              unfold kiv at hr
              cases x <;> try (cases hr; done)
              rename_i cs
              obtain ⟨l⟩ := cs
              simp only at hr
              split at hr
              · rename_i kd i
                cases hl : Nat.ble (Nat.succ i) m with
                | false => simp only [hl] at hr; cases hr
                | true =>
                  simp only [hl] at hr
                  have hr := nthV_of hr
                  have hl := Nat.le_of_ble_eq_true hl
                  have hst : isStrT P t = false := by unfold isStrT; rw [hu]
                  have e : index2 P t (.agg ⟨l⟩) (.int kd (.ofNat i)) = l[i]? := by
                    unfold index2
                    rw [hst]
                    simp only
                    unfold arrIx
                    simp only [isStr]
                    unfold evIndex
                    simp only [hu, hs]
                    rw [if_pos ⟨Int.natCast_nonneg _, Int.ofNat_lt.2 hl⟩]
                    unfold partOf
                    simp only [ha, Nat.mul_one]
                    simp
                  rw [e]; exact hr
              · cases hr
theorem lenQ_sub {ats : Array TypeId} {vs : List Value} (hr : lenQ P ats vs k h n = some r) : optK (len2 P ats vs) k h n = some r := by
  unfold lenQ at hr
  cases ht : ats[0]? with
  | none => simp only [ht] at hr; cases hr
  | some t =>
    simp only [ht] at hr
    split at hr
    · rename_i x
      cases hu : P.underlying t with
      | none => simp only [hu] at hr; cases hr
      | some u =>
        simp only [hu] at hr
        cases u <;> try (cases hr; done)
        · unfold klx at hr
          cases x <;> try (cases hr; done)
          rename_i s
          obtain ⟨⟨l⟩⟩ := s
          refine opt_of (v := .int .i64 (l.length : Nat)) ?_ (by rw [← lenB_eq]; exact hr)
          unfold len2
          simp only [ht, hu]
          rfl
        · unfold kln at hr
          cases x <;> try (cases hr; done)
          refine opt_of ?_ hr
          unfold len2
          simp only [ht, hu]
          rfl
    · cases hr
theorem minQ_sub {vs : List Value} (hr : minQ vs k h n = some r) : optK (min2 vs) k h n = some r := by
  unfold minQ at hr
  split at hr
  · rename_i x y
    unfold kmi at hr
    split at hr
    · split at hr
      · rename_i a p _ b q
        refine opt_of (v := .int a (if q < p then q else p)) rfl ?_
        rw [ilt_eq] at hr
        by_cases e : q < p
        · rw [if_pos e]; simp only [e, decide_true] at hr; exact hr
        · rw [if_neg e]; simp only [e, decide_false] at hr; exact hr
      · cases hr
    · cases hr
  · rename_i x y z u v w
    unfold km6 at hr
    have st : ∀ {x y : Value} {k : Value → M β}, kmi x y k h n = some r → ∃ a p b q, x = .int a p ∧ y = .int b q ∧ k (.int a (imin p q)) h n = some r := by
      intro x y k hr
      unfold kmi at hr
      split at hr
      · split at hr
        · rename_i a p _ b q
          refine ⟨a, p, b, q, rfl, rfl, ?_⟩
          rw [ilt_eq] at hr
          unfold imin
          by_cases e : q < p
          · rw [if_pos e]; simp only [e, decide_true] at hr; exact hr
          · rw [if_neg e]; simp only [e, decide_false] at hr; exact hr
        · cases hr
      · cases hr
    obtain ⟨a, p, b, q, rfl, rfl, hr1⟩ := st hr
    obtain ⟨a2, p2, b2, q2, e1, rfl, hr2⟩ := st hr1
    obtain ⟨a3, p3, b3, q3, e2, rfl, hr3⟩ := st hr2
    obtain ⟨a4, p4, b4, q4, e3, rfl, hr4⟩ := st hr3
    obtain ⟨a5, p5, b5, q5, e4, rfl, hr5⟩ := st hr4
    cases e1
    cases e2
    cases e3
    cases e4
    exact opt_of rfl hr5
  · cases hr
theorem maxQ_sub {vs : List Value} (hr : maxQ vs k h n = some r) : optK (max2 vs) k h n = some r := by
  unfold maxQ at hr
  split at hr
  · rename_i x y
    unfold kma at hr
    split at hr
    · split at hr
      · rename_i a p _ b q
        refine opt_of (v := .int a (if p < q then q else p)) rfl ?_
        rw [ilt_eq] at hr
        by_cases e : p < q
        · rw [if_pos e]; simp only [e, decide_true] at hr; exact hr
        · rw [if_neg e]; simp only [e, decide_false] at hr; exact hr
      · cases hr
    · cases hr
  · cases hr
end
end Go.Proofs.YtmjolmggelkjlaaGreat.Ev
