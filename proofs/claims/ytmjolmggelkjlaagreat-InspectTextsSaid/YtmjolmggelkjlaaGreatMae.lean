/- The third form's operations, and that they yield what the second one's do. No program in sight. -/
import Derived.Test.YtmjolmggelkjlaaGreatMad
namespace Go.Proofs.YtmjolmggelkjlaaGreat.Ev
set_option linter.unusedVariables false
set_option linter.unusedSimpArgs false
open Go Go.RowKit

noncomputable section
variable {β : Type} (P : Program)
def unQ (op : UnOp) (x : Value) (k : Value → M β) : M β := match op with
  | .not => knt x k
  | .neg => kng x k
  | .xor => knx x k
  | _ => .fail
def convQ (src dst : TypeId) (x : Value) (k : Value → M β) : M β := match toStr? (P.underlying src) (P.underlying dst) with
  | some e => match u8? P e with
    | true => kts x k
    | false => .fail
  | none => match toBy2? (P.underlying src) (P.underlying dst) with
    | some e => match u8? P e && size? P e == some 1 with
      | true => ktb e x k
      | false => .fail
    | none => match P.underlying src with
      | some _ => match P.underlying dst with
        | some (.int kd) => kcv kd x k
        | some .string => kid x k
        | _ => .fail
      | none => .fail
def loadQ (t : TypeId) (a : Value) (k : Value → M β) : M β := match agg? P t with
  | some true => match size? P t with
    | some sz => klg sz a k
    | none => .fail
  | some false => kld a k
  | none => .fail
def storeQ (t : TypeId) (a x : Value) (k : Value → M β) : M β := match size? P t with
  | some sz => match agg? P t with
    | some true => ksg sz a x k
    | some false => match Nat.beq sz 1 with
      | true => kst a x k
      | false => .fail
    | none => .fail
  | none => .fail
def allocQ (e : TypeId) (k : Value → M β) : M β := match zero? P e with
  | some z => kal e (cellsL z) k
  | none => .fail
def boxQ (e : TypeId) (x : Value) (k : Value → M β) : M β := match size? P e with
  | some _ => kbx e x k
  | none => .fail
def placeK (pl : Nat → Option (Nat × Nat)) : List (Nat × Value) → Option (List (Nat × Nat × Value))
  | [] => some []
  | q :: r => match pl q.1 with
    | some p => match placeK pl r with
      | some l => some ((p.1, p.2, q.2) :: l)
      | none => none
    | none => none
def buildQ (t : TypeId) (ps : List (Nat × Value)) (k : Value → M β) : M β := match zero? P t with
  | some z => match P.underlying t with
    | some (.struct fs) => match fs.all fun f => (size? P f.type).isSome with
      | true => optK (placeK (placeOf P fs) ps) fun qs => kbd (cellsL z) qs k
      | false => .fail
    | _ => .fail
  | none => .fail
def lone : Nat → List (Nat × Value) → Option Value
  | 1, [(0, v)] => some v
  | _, _ => none
def bsQ (t : TypeId) (len : Nat) (ps : List (Nat × Value)) (k : Value → M β) : M β := match P.underlying t with
  | some (.slice e) => match size? P e with
    | some sz => match zero? P e with
      | some z => match Nat.beq len 0 && ps.isEmpty with
        | true => kbs e [] 0 [] k
        | false => match Nat.ble 1 (len * sz) && Nat.ble (len * sz) 65536 && Nat.beq (lenV (cellsL z)) sz with
          | true => match lone len ps with
            | some v => kb1 e sz v k
            | none => optK (placeK (fun i => some (i * sz, sz)) ps) fun qs => kbs e (catV (cellsL z) len) len qs k
          | false => .fail
      | none => .fail
    | none => .fail
  | _ => .fail
def makeQ (t : TypeId) (l c : Value) (k : Value → M β) : M β := match P.underlying t with
  | some (.slice e) => match P.info? e with
    | some ie => match zero? P e with
      | some z => match Nat.ble ie.bytes 64 && Nat.beq (lenV (cellsL z)) ie.size && Nat.ble 1 ie.size with
        | true => kmk e (cellsL z) l c k
        | false => .fail
      | none => .fail
    | none => .fail
  | _ => .fail
def sliceQ (t : TypeId) (x : Value) (lo hi mx : Option Value) (k : Value → M β) : M β := match mx with
  | some _ => .fail
  | none => match P.underlying t with
    | some .string => ksx x lo hi k
    | some (.slice e) => match size? P e with
      | some sz => ksc e sz x lo hi k
      | none => .fail
    | _ => .fail
def faQ (t : TypeId) (x : Value) (f : Nat) (k : Value → M β) : M β := match P.underlying t with
  | some (.struct fs) => match fs[f]? with
    | some fd => match size? P fd.type with
      | some (_ + 1) => kfa fd.offset x k
      | _ => .fail
    | none => .fail
  | _ => .fail
def fieldQ (t : TypeId) (x : Value) (f : Nat) (k : Value → M β) : M β := match P.underlying t with
  | some (.struct fs) => match fs[f]? with
    | some fd => match agg? P fd.type with
      | some true => match size? P fd.type with
        | some m => kfg fd.offset m x k
        | none => .fail
      | some false => kfd fd.offset x k
      | none => .fail
    | none => .fail
  | _ => .fail
def ixQ (t : TypeId) (x ix : Value) (k : Value → M β) : M β := match P.underlying t with
  | some (.slice e) => match size? P e with
    | some sz => match Nat.beq sz 1 with
      | true => kix x ix k
      | false => kiy sz x ix k
    | none => .fail
  | some (.array len e) => match size? P e with
    | some sz => match Nat.beq sz 1 with
      | true => kia len x ix k
      | false => kib len sz x ix k
    | none => .fail
  | _ => .fail
def indexQ (t : TypeId) (x ix : Value) (k : Value → M β) : M β := match P.underlying t with
  | some .string => kit x ix k
  | some (.array len e) => match agg? P e with
    | some false => match size? P e with
      | some sz => match Nat.beq sz 1 with
        | true => kiv len x ix k
        | false => .fail
      | none => .fail
    | _ => .fail
  | _ => .fail
def lenQ (ats : Array TypeId) (vs : List Value) (k : Value → M β) : M β := match ats[0]? with
  | some t => match vs with
    | [x] => match P.underlying t with
      | some (.slice _) => kln x k
      | some .string => klx x k
      | _ => .fail
    | _ => .fail
  | none => .fail
def minQ (vs : List Value) (k : Value → M β) : M β := match vs with
  | [x, y] => kmi x y k
  | [x, y, z, u, v, w] => km6 x y z u v w k
  | _ => .fail
def maxQ (vs : List Value) (k : Value → M β) : M β := match vs with
  | [x, y] => kma x y k
  | _ => .fail
def appK (t : TypeId) (s x : Value) (k : Value → M β) : M β := match P.underlying t with
  | some (.slice e) => match P.info? e with
    | some ie => match zero? P e with
      | some z => match Nat.ble ie.bytes 64 && Nat.beq (lenV (cellsL z)) ie.size && Nat.ble 1 ie.size with
        | true => kap e ie.size s x k
        | false => .fail
      | none => .fail
    | none => .fail
  | _ => .fail
def copyQ (t : TypeId) (d s : Value) (k : Value → M β) : M β := match P.underlying t with
  | some (.slice e) => match size? P e with
    | some sz => kcp sz d s k
    | none => .fail
  | _ => .fail
variable (rec : FuncId → Array Value → M Value)
def callQ (s : Fr) (c : Call) (vs : List Value) (k : Value → M β) : M β := match c.callee with
  | .value (.func g) => match hasBody P g with
    | true => kcl rec g vs k
    | false => .fail
  | .value f => optK (evo s f) fun fv => callV P rec fv vs k
  | .builtin .append => optK (app? P c.argTypes vs) fun q => appK P q.1 q.2.1 q.2.2 k
  | .builtin .copy => optK (cpy? c.argTypes vs) fun q => copyQ P q.1 q.2.1 q.2.2 k
  | .builtin .len => lenQ P c.argTypes vs k
  | .builtin .min => minQ vs k
  | .builtin .max => maxQ vs k
  | _ => .fail
def opQ (s : Fr) (o : Oper) (k : Value → M β) : M β :=
  match o.op with
  | .move x | .assign x => optK (evo s x) k
  | .pick c a b => optK (evo s c) fun c => optK (evo s a) fun a => optK (evo s b) fun b => kpk c a b k
  | .alloc e => allocQ P e k
  | .box e x => optK (evo s x) fun x => boxQ P e x k
  | .build t parts => evosK s (parts.toList.map (·.2)) fun vs => buildQ P t ((parts.toList.map (·.1)).zip vs) k
  | .buildSlice t len parts => evosK s (parts.toList.map (·.2)) fun vs => bsQ P t len ((parts.toList.map (·.1)).zip vs) k
  | .load t a => optK (evo s a) fun a => loadQ P t a k
  | .store t a x => optK (evo s a) fun a => optK (evo s x) fun x => storeQ P t a x k
  | .nilCheck x => optK (evo s x) fun x => knn x k
  | .binOp op t x y _ => optK (evo s x) fun x => optK (evo s y) fun y => binQ P op t x y k
  | .unOp op _ x => optK (evo s x) fun x => unQ op x k
  | .convert src dst x => optK (evo s x) fun x => convQ P src dst x k
  | .makeFunc fn a b => evosK s a.toList fun a => evosK s b.toList fun b => k (.func fn a.toArray b.toArray)
  | .makeSlice t l c => optK (evo s l) fun l => optK (evo s c) fun c => makeQ P t l c k
  | .slice t x lo hi mx => optK (evo s x) fun x => evoK s lo fun lo => evoK s hi fun hi => evoK s mx fun mx => sliceQ P t x lo hi mx k
  | .fieldAddr t x f => optK (evo s x) fun x => faQ P t x f k
  | .field t x f => optK (evo s x) fun x => fieldQ P t x f k
  | .indexAddr t x ix => optK (evo s x) fun x => optK (evo s ix) fun ix => ixQ P t x ix k
  | .index t x ix => optK (evo s x) fun x => optK (evo s ix) fun ix => indexQ P t x ix k
  | .extract t i => optK (evo s t) fun t => kex t i k
  | .call c => evosK s c.args.toList fun vs => callQ P rec s c vs k
  | _ => .fail
end

section
variable {β : Type} {P : Program} {t : TypeId} {x y a : Value} {k : Value → M β} {h : H} {n : Nat} {r : Out β}
theorem un_xor {P : Program} {p : Nat} (hp : p ≤ 4294967295) : un2 P .xor (.int .u32 (.ofNat p)) = some (.int .u32 (.ofNat (Nat.sub 4294967295 p))) := by
  have e : Op.unary .xor (.int .u32 (.ofNat p)) = pure (.int .u32 (IntKind.u32.wrap (BitVec.ofInt 32 4294967295 ^^^ BitVec.ofInt 32 (Int.ofNat p)).toNat)) := rfl
  have e1 : (BitVec.ofInt 32 4294967295 ^^^ BitVec.ofInt 32 (Int.ofNat p)).toNat = 4294967295 - p := by
    have h1 : BitVec.ofInt 32 4294967295 = BitVec.allOnes 32 := by decide
    rw [h1, BitVec.allOnes_xor, BitVec.toNat_not]
    have : (BitVec.ofInt 32 (Int.ofNat p)).toNat = p := by
      show (BitVec.ofInt 32 (p : Int)).toNat = p
      rw [BitVec.ofInt_natCast, BitVec.toNat_ofNat]
      exact Nat.mod_eq_of_lt (by omega)
    rw [this]
  have e2 : IntKind.u32.wrap ((4294967295 - p : Nat) : Int) = ((4294967295 - p : Nat) : Int) := IntWalk.u32_in _ (by omega)
  unfold un2 plainS
  rw [e, e1, e2]
  rfl
theorem unQ_sub {op : UnOp} (hr : unQ op x k h n = some r) : optK (un2 P op x) k h n = some r := by
  unfold unQ at hr
  split at hr
  · unfold knt at hr
    split at hr
    · exact opt_of rfl hr
    · cases hr
  · unfold kng at hr
    split at hr
    · rename_i j p
      exact opt_of (v := .int j (j.wrap (0 - p))) rfl (by rw [← fwrap_eq, ← isub_eq]; exact hr)
    · cases hr
  · unfold knx at hr
    split at hr
    · rename_i p
      cases hp : Nat.ble p 4294967295 with
      | false => simp only [hp] at hr; cases hr
      | true =>
        simp only [hp] at hr
        exact opt_of (un_xor (Nat.le_of_ble_eq_true hp)) hr
    · cases hr
  · cases hr
theorem ret_of {v : Value} (hr : k v h n = some r) : ((inside (M.ret v)).bind k) h n = some r := by
  obtain ⟨c, h2, n2, L⟩ := r
  exact bind_run (L1 := []) rfl hr
theorem kts_sub (hr : kts x k h n = some r) : ((inside (evToStr x)).bind k) h n = some r := by
  unfold kts at hr
  split at hr
  · rename_i b off len c
    refine ins_of (m := (rdN3 b off len).bind fun vs => match bytesL vs with
    | some l => .ret (.string ⟨⟨l⟩⟩)
    | none => .fail) ?_ hr
    have := congrFun evToStr3_eq (.slice (some ⟨b, off, none⟩) len c)
    exact this
  · exact ret_of hr
  · cases hr
theorem ktb_sub {e : TypeId} (hr : ktb e x k h n = some r) : ((inside (toBytes2 e x)).bind k) h n = some r := by
  unfold ktb at hr
  split at hr
  · rename_i l
    cases hl : Nat.ble (lenB l) 1099511627776 with
    | false => simp only [hl] at hr; cases hr
    | true =>
      simp only [hl] at hr
      refine ins_of ?_ hr
      have := Nat.le_of_ble_eq_true hl
      rw [lenB_eq] at this ⊢
      unfold toBytes2 evToBytes
      rw [newB3_eq]
      have hs : (⟨⟨l⟩⟩ : ByteArray).size = l.length := rfl
      simp only [hs]
      rw [if_pos this]
      simp
  · cases hr
theorem convQ_sub {src dst : TypeId} (hr : convQ P src dst x k h n = some r) : conv2 P src dst x k h n = some r := by
  unfold convQ at hr
  unfold conv2
  cases hs : toStr? (P.underlying src) (P.underlying dst) with
  | some e =>
    simp only [hs] at hr ⊢
    cases hu : u8? P e with
    | true => simp only [hu] at hr ⊢; exact kts_sub hr
    | false => simp only [hu] at hr; cases hr
  | none =>
    simp only [hs] at hr ⊢
    cases hb : toBy2? (P.underlying src) (P.underlying dst) with
    | some e =>
      simp only [hb] at hr ⊢
      cases hu : (u8? P e && size? P e == some 1) with
      | true => simp only [hu] at hr ⊢; exact ktb_sub hr
      | false => simp only [hu] at hr; cases hr
    | none =>
      simp only [hb] at hr ⊢
      cases hd : P.underlying src with
      | none => simp only [hd] at hr; cases hr
      | some ds =>
        simp only [hd] at hr
        cases he : P.underlying dst with
        | none => simp only [he] at hr; cases hr
        | some dd =>
          simp only [he] at hr
          cases dd <;> try (cases hr; done)
          · cases x <;> try (cases hr; done)
            · rename_i kd j p
              refine opt_of (v := .int kd (kd.wrap p)) ?_ (by rw [← fwrap_eq]; exact hr)
              unfold plainS
              simp only [scalar]
              have : pureRun P (do pure (Next.value (← Go.convert src dst (.int j p)))) = some (.int kd (kd.wrap p)) := by
                unfold Go.convert
                simp only [bind_assoc]
                rw [pureRun_und hd, pureRun_und he]
                rfl
              rw [this]
          · cases x <;> try (cases hr; done)
            · rename_i s
              refine opt_of (v := .string s) ?_ hr
              unfold plainS
              simp only [scalar]
              have : pureRun P (do pure (Next.value (← Go.convert src dst (.string s)))) = some (.string s) := by
                unfold Go.convert
                simp only [bind_assoc]
                rw [pureRun_und hd, pureRun_und he]
                rfl
              rw [this]
theorem loadQ_sub (hr : loadQ P t a k h n = some r) : ((inside (evLoad P t a)).bind k) h n = some r := by
  unfold loadQ at hr
  cases ha : agg? P t with
  | none => simp only [ha] at hr; cases hr
  | some b =>
    cases b with
    | false =>
      simp only [ha] at hr
      unfold kld at hr
      split at hr
      · refine ins_of ?_ hr
        rw [rd3_eq]
        unfold evLoad
        simp only [ha]
      · cases hr
    | true =>
      simp only [ha] at hr
      cases hs : size? P t with
      | none => simp only [hs] at hr; cases hr
      | some sz =>
        simp only [hs] at hr
        unfold klg at hr
        split at hr
        · refine ins_of ?_ hr
          rw [rdN3_eq]
          unfold evLoad
          simp only [ha, hs]
        · cases hr
theorem storeQ_sub (hr : storeQ P t a x k h n = some r) : ((inside (evStore P t a x)).bind k) h n = some r := by
  unfold storeQ at hr
  cases hs : size? P t with
  | none => simp only [hs] at hr; cases hr
  | some sz =>
    simp only [hs] at hr
    cases ha : agg? P t with
    | none => simp only [ha] at hr; cases hr
    | some b =>
      cases b with
      | true =>
        simp only [ha] at hr
        unfold ksg at hr
        split at hr
        · split at hr
          · rename_i b off _ l
            cases hl : Nat.beq (lenV l) sz with
            | false => simp only [hl] at hr; cases hr
            | true =>
              simp only [hl] at hr
              refine ins_of ?_ hr
              have := Nat.eq_of_beq_eq_true hl
              rw [lenV_eq] at this
              unfold evStore
              have hc : (Value.agg ⟨l⟩).cells = ⟨l⟩ := rfl
              simp only [hs, hc]
              rw [if_pos (by simpa using this), wrN3_eq]
          · cases hr
        · cases hr
      | false =>
        simp only [ha] at hr
        cases h1 : Nat.beq sz 1 with
        | false => simp only [h1] at hr; cases hr
        | true =>
          simp only [h1] at hr
          have := Nat.eq_of_beq_eq_true h1
          subst this
          unfold kst at hr
          split at hr
          · rename_i b off
            cases ho : one x with
            | false => simp only [ho] at hr; cases hr
            | true =>
              simp only [ho] at hr
              refine ins_of ?_ hr
              have hc : x.cells = #[x] := by cases x <;> first | rfl | (simp [one] at ho)
              unfold evStore
              simp only [hs, hc]
              rw [wr3_eq]
              funext hh n
              show _ = ((wrN b off [x]).bind fun _ => M.ret undef) hh n
              unfold wrN wrN M.bind
              cases wr b off x hh n with
              | none => rfl
              | some o => simp [M.ret]
          · cases hr
theorem allocQ_sub {e : TypeId} (hr : allocQ P e k h n = some r) : ((inside (evAlloc P e)).bind k) h n = some r := by
  unfold allocQ at hr
  cases hz : zero? P e with
  | none => simp only [hz] at hr; cases hr
  | some z =>
    simp only [hz] at hr
    refine ins_of ?_ hr
    unfold evAlloc
    rw [hz, newB3_eq, cellsL_eq]
theorem boxQ_sub {e : TypeId} (hr : boxQ P e x k h n = some r) : ((inside (evBox P e x)).bind k) h n = some r := by
  unfold boxQ at hr
  cases hz : size? P e with
  | none => simp only [hz] at hr; cases hr
  | some z =>
    simp only [hz] at hr
    refine ins_of ?_ hr
    unfold evBox
    rw [hz, newB3_eq, cellsL_eq]
theorem fillQ_place {pl : Nat → Option (Nat × Nat)} : ∀ (ps : List (Nat × Value)) (qs : List (Nat × Nat × Value)) (cs : List Value), placeK pl ps = some qs → fillQ cs qs = fill3 pl cs ps
  | [], qs, cs, e => by cases e; rfl
  | (i, v) :: r, qs, cs, e => by
    unfold placeK at e
    unfold fill3
    simp only at e
    cases hp : pl i with
    | none => simp only [hp] at e; cases e
    | some p =>
      obtain ⟨off, sz⟩ := p
      simp only [hp] at e ⊢
      cases hr : placeK pl r with
      | none => simp only [hr] at e; cases e
      | some l =>
        simp only [hr] at e
        cases e
        unfold fillQ
        simp only
        cases Nat.beq (lenV (cellsL v)) sz with
        | false => rfl
        | true =>
          simp only [Bool.true_and]
          cases Nat.ble (Nat.add off (lenV (cellsL v))) (lenV cs) with
          | false => rfl
          | true => exact fillQ_place r l _ hr
theorem buildQ_sub {ps : List (Nat × Value)} (hr : buildQ P t ps k h n = some r) : ((inside (evBuild P t ps)).bind k) h n = some r := by
  unfold buildQ at hr
  cases hz : zero? P t with
  | none => simp only [hz] at hr; cases hr
  | some z =>
    simp only [hz] at hr
    cases hu : P.underlying t with
    | none => simp only [hu] at hr; cases hr
    | some u =>
      simp only [hu] at hr
      cases u <;> try (cases hr; done)
      rename_i fs
      simp only at hr
      cases hf : (fs.all fun f => (size? P f.type).isSome) with
      | false => simp only [hf] at hr; cases hr
      | true =>
        simp only [hf] at hr
        obtain ⟨qs, hq, hr⟩ := optK_some hr
        unfold kbd at hr
        have e := fillQ_place ps qs (cellsL z) hq
        rw [cellsL_eq, fill3_eq] at e
        rw [cellsL_eq, e] at hr
        have : evBuild P t ps = match Instr.fill (placeOf P fs) z.cells ps with
            | some cs => M.ret (.agg cs)
            | none => .fail := by
          unfold evBuild
          simp only [hz, hu, hf, if_true]
          rfl
        rw [this]
        cases hi : Instr.fill (placeOf P fs) z.cells ps with
        | none => rw [hi] at hr; cases hr
        | some cs =>
          rw [hi] at hr
          exact ret_of hr
end
end Go.Proofs.YtmjolmggelkjlaaGreat.Ev
/- The third form's operations on rows, places and calls; all of them. No program in sight. -/
namespace Go.Proofs.YtmjolmggelkjlaaGreat.Ev
set_option linter.unusedVariables false
set_option linter.unusedSimpArgs false
open Go Go.RowKit

section
variable {β : Type} {P : Program} {t : TypeId} {x y a : Value} {k : Value → M β} {h : H} {n : Nat} {r : Out β}
theorem appV_eq : ∀ a b : List Value, appV a b = a ++ b
  | [], _ => rfl
  | v :: a, b => by
    show v :: appV a b = _
    rw [appV_eq a b]; rfl
theorem zeros_get {z : Value} {n i : Nat} (hs : 0 < z.cells.size) (h : i < n) : (zeros z n).toList[i]? = some (z.cells.toList[i % z.cells.size]'(by rw [Array.length_toList]; exact Nat.mod_lt _ hs)) := by
  unfold zeros
  have hlt := Nat.mod_lt i hs
  simp [h, hlt]
theorem catV_len (l : List Value) : ∀ c, (catV l c).length = c * l.length
  | 0 => by simp [catV]
  | c + 1 => by
    unfold catV
    rw [appV_eq, List.length_append, catV_len l c, Nat.add_mul, Nat.one_mul, Nat.add_comm]
theorem catV_at (l : List Value) (hs : 0 < l.length) : ∀ c i, i < c * l.length → (catV l c)[i]? = some (l[i % l.length]'(Nat.mod_lt _ hs))
  | 0, i, h => by simp at h
  | c + 1, i, h => by
    unfold catV
    rw [appV_eq]
    by_cases hi : i < l.length
    · rw [List.getElem?_append_left hi, List.getElem?_eq_getElem hi]
      simp only [Nat.mod_eq_of_lt hi]
    · rw [List.getElem?_append_right (by omega), catV_at l hs c (i - l.length) (by rw [Nat.add_mul, Nat.one_mul] at h; omega)]
      have : (i - l.length) % l.length = i % l.length := by
        conv => rhs; rw [show i = i - l.length + l.length by omega, Nat.add_mod_right]
      simp only [this]
theorem catV_zeros {z : Value} (hs : 0 < z.cells.size) (c : Nat) : catV (cellsL z) c = (zeros z (c * z.cells.size)).toList := by
  rw [cellsL_eq]
  have hl : z.cells.toList.length = z.cells.size := Array.length_toList
  apply List.ext_getElem?
  intro i
  by_cases hi : i < c * z.cells.size
  · rw [catV_at _ (by omega) c i (by rw [hl]; exact hi), zeros_get hs hi]
    simp only [hl]
  · rw [List.getElem?_eq_none (by rw [catV_len, hl]; omega), List.getElem?_eq_none (by unfold zeros; simp; omega)]
theorem over_all : ∀ (l cs : List Value), l.length = cs.length → over l cs = l
  | [], [], _ => rfl
  | [], _ :: _, h => by simp at h
  | _ :: _, [], h => by simp at h
  | x :: l, c :: cs, h => by
    show x :: over l cs = _
    rw [over_all l cs (by simpa using h)]
theorem lone_some {len : Nat} {ps : List (Nat × Value)} {v : Value} (e : lone len ps = some v) : len = 1 ∧ ps = [(0, v)] := by
  unfold lone at e
  split at e
  · cases e; exact ⟨rfl, rfl⟩
  · cases e
theorem bsQ_sub {len : Nat} {ps : List (Nat × Value)} (hr : bsQ P t len ps k h n = some r) : ((inside (evBuildSlice P t len ps)).bind k) h n = some r := by
  unfold bsQ at hr
  cases hu : P.underlying t with
  | none => simp only [hu] at hr; cases hr
  | some u =>
    simp only [hu] at hr
    cases u <;> try (cases hr; done)
    rename_i e
    simp only at hr
    cases hs : size? P e with
    | none => simp only [hs] at hr; cases hr
    | some sz =>
      simp only [hs] at hr
      cases hz : zero? P e with
      | none => simp only [hz] at hr; cases hr
      | some z =>
        simp only [hz] at hr
        have e0 : evBuildSlice P t len ps = if len = 0 && ps.isEmpty then (newB e []).bind fun id => .ret (.slice (some ⟨id, 0, none⟩) 0 0) else
            if 0 < len * sz && len * sz ≤ 65536 then
              match Instr.fill (fun i => some (i * sz, sz)) (zeros z (len * sz)) ps with
              | some cs => (newB e cs.toList).bind fun id => .ret (.slice (some ⟨id, 0, none⟩) len len)
              | none => .fail
            else .fail := by
          unfold evBuildSlice
          simp only [hu, hs, hz]
          rfl
        rw [e0]
        cases h0 : (Nat.beq len 0 && ps.isEmpty) with
        | true =>
          simp only [h0] at hr
          rw [Bool.and_eq_true] at h0
          have := Nat.eq_of_beq_eq_true h0.1
          rw [if_pos (by simp [this, h0.2])]
          unfold kbs fillQ at hr
          simp only at hr
          refine ins_of ?_ hr
          rw [newB3_eq]
        | false =>
          simp only [h0] at hr
          have h0' : ¬ ((decide (len = 0) && ps.isEmpty) = true) := by
            intro q
            rw [Bool.and_eq_true, decide_eq_true_eq] at q
            obtain ⟨rfl, q⟩ := q
            rw [q] at h0
            cases h0
          rw [if_neg h0']
          cases h1 : (Nat.ble 1 (len * sz) && Nat.ble (len * sz) 65536 && Nat.beq (lenV (cellsL z)) sz) with
          | false => simp only [h1] at hr; cases hr
          | true =>
            simp only [h1] at hr
            rw [Bool.and_eq_true, Bool.and_eq_true] at h1
            obtain ⟨⟨h2, h3⟩, h4⟩ := h1
            have h2 := Nat.le_of_ble_eq_true h2
            have h3 := Nat.le_of_ble_eq_true h3
            have h4 := Nat.eq_of_beq_eq_true h4
            rw [lenV_eq, cellsL_eq, Array.length_toList] at h4
            rw [if_pos (by simp; omega)]
            have hzs : 0 < z.cells.size := by
              rw [h4]
              exact Nat.pos_of_ne_zero fun q => by rw [q] at h2; simp at h2
            cases hv : lone len ps with
            | some v =>
              simp only [hv] at hr
              obtain ⟨rfl, rfl⟩ := lone_some hv
              unfold kb1 at hr
              cases hc : Nat.beq (lenV (cellsL v)) sz with
              | false => simp only [hc] at hr; cases hr
              | true =>
                simp only [hc] at hr
                have hc := Nat.eq_of_beq_eq_true hc
                have f := fill3_eq (fun i => some (i * sz, sz)) [(0, v)] (zeros z (1 * sz))
                have zl : (zeros z (1 * sz)).toList.length = sz := by unfold zeros; simp
                have f2 : fill3 (fun i => some (i * sz, sz)) (zeros z (1 * sz)).toList [(0, v)] = some (cellsL v) := by
                  unfold fill3
                  simp only [Nat.zero_mul]
                  rw [lenV_eq (zeros z (1 * sz)).toList, zl, hc]
                  have b1 : Nat.beq sz sz = true := Nat.beq_refl sz
                  have b2 : Nat.ble (Nat.add 0 sz) sz = true := Nat.ble_eq_true_of_le (by show 0 + sz ≤ sz; omega)
                  simp only [b1, b2, Bool.and_self]
                  unfold fill3
                  rw [splice_eq, ← over_eq, over_all _ _ (by rw [zl, ← lenV_eq, hc])]
                rw [f2] at f
                cases hi : Instr.fill (fun i => some (i * sz, sz)) (zeros z (1 * sz)) [(0, v)] with
                | none => rw [hi] at f; cases f
                | some cs =>
                  rw [hi] at f
                  simp only [Option.map_some, Option.some.injEq] at f
                  refine ins_of ?_ hr
                  rw [newB3_eq, f]
            | none =>
              simp only [hv] at hr
              obtain ⟨qs, hq, hr⟩ := optK_some hr
              unfold kbs at hr
              have f := fillQ_place ps qs (catV (cellsL z) len) hq
              rw [catV_zeros hzs, h4, fill3_eq] at f
              rw [catV_zeros hzs, h4, f] at hr
              cases hi : Instr.fill (fun i => some (i * sz, sz)) (zeros z (len * sz)) ps with
              | none => rw [hi] at hr; cases hr
              | some cs =>
                rw [hi] at hr
                refine ins_of ?_ hr
                rw [newB3_eq]
theorem makeQ_sub {l c : Value} (hr : makeQ P t l c k h n = some r) : ((inside (evMakeSlice P t l c)).bind k) h n = some r := by
  unfold makeQ at hr
  cases hu : P.underlying t with
  | none => simp only [hu] at hr; cases hr
  | some u =>
    simp only [hu] at hr
    cases u <;> try (cases hr; done)
    rename_i e
    simp only at hr
    cases hs : P.info? e with
    | none => simp only [hs] at hr; cases hr
    | some ie =>
      simp only [hs] at hr
      cases hz : zero? P e with
      | none => simp only [hz] at hr; cases hr
      | some z =>
        simp only [hz] at hr
        cases h1 : (Nat.ble ie.bytes 64 && Nat.beq (lenV (cellsL z)) ie.size && Nat.ble 1 ie.size) with
        | false => simp only [h1] at hr; cases hr
        | true =>
          simp only [h1] at hr
          rw [Bool.and_eq_true, Bool.and_eq_true] at h1
          obtain ⟨⟨h2, h3⟩, h4⟩ := h1
          have h2 := Nat.le_of_ble_eq_true h2
          have h3 := Nat.eq_of_beq_eq_true h3
          have h4 := Nat.le_of_ble_eq_true h4
          rw [lenV_eq, cellsL_eq, Array.length_toList] at h3
          unfold kmk at hr
          split at hr
          · split at hr
            · rename_i k1 l _ k2 c
              cases hl : Nat.ble l c with
              | false => simp only [hl] at hr; cases hr
              | true =>
                simp only [hl] at hr
                cases hm : Nat.ble c 1099511627776 with
                | false => simp only [hm] at hr; cases hr
                | true =>
                  simp only [hm] at hr
                  have hl := Nat.le_of_ble_eq_true hl
                  have hm := Nat.le_of_ble_eq_true hm
                  refine ins_of ?_ hr
                  unfold evMakeSlice
                  simp only [hu, hs, hz]
                  have q1 : (0 : Int) ≤ Int.ofNat l := Int.natCast_nonneg _
                  have q2 : Int.ofNat l ≤ Int.ofNat c := Int.ofNat_le.2 hl
                  have q3 : Int.ofNat c ≤ 1099511627776 := Int.ofNat_le.2 hm
                  rw [if_pos (by simp [q1, q2, q3, h2, h3, h4]; omega), newB3_eq, catV_zeros (by omega), h3]
                  rfl
            · cases hr
          · cases hr
theorem sl1_eq {P : Program} {t e : TypeId} {sz : Nat} (hu : P.underlying t = some (.slice e)) (hs : size? P e = some sz) (a : Option Addr) (len cap : Nat) (lo hi : Option Value) : sl1 sz a len cap lo hi = evSlice P t (.slice a len cap) lo hi none := by
  unfold sl1 evSlice
  simp only [hu, hs]
  cases h1 : boundOf hi len with
  | none => simp
  | some b =>
    cases h2 : boundOf lo 0 with
    | none => simp [boundOf]
    | some c =>
      simp [boundOf]
      rfl
theorem sliceQ_sub {lo hi mx : Option Value} (hr : sliceQ P t x lo hi mx k h n = some r) : slice2 P t x lo hi mx k h n = some r := by
  unfold sliceQ at hr
  cases mx with
  | some _ => cases hr
  | none =>
    simp only at hr
    cases hu : P.underlying t with
    | none => simp only [hu] at hr; cases hr
    | some u =>
      simp only [hu] at hr
      cases u <;> try (cases hr; done)
      · unfold ksx at hr
        cases x <;> try (cases hr; done)
        rename_i s
        obtain ⟨⟨l⟩⟩ := s
        simp only at hr
        cases ha : bndN lo 0 with
        | none => simp only [ha] at hr; cases hr
        | some a =>
          simp only [ha] at hr
          cases hb : bndN hi (lenB l) with
          | none => simp only [hb] at hr; cases hr
          | some b =>
            simp only [hb] at hr
            cases h1 : Nat.ble a b with
            | false => simp only [h1] at hr; cases hr
            | true =>
              simp only [h1] at hr
              cases h2 : Nat.ble b (lenB l) with
              | false => simp only [h2] at hr; cases hr
              | true =>
                simp only [h2] at hr
                have bn : ∀ {o : Option Value} {d a : Nat}, bndN o d = some a → boundOf o d = some a := by
                  intro o d a h
                  unfold bndN at h
                  split at h
                  · exact h
                  · cases h
                    unfold boundOf
                    simp
                  · cases h
                have h2 := Nat.le_of_ble_eq_true h2
                rw [lenB_eq] at h2 hb
                have e := slice_str hu l lo hi (bn ha) (bn hb) (Nat.le_of_ble_eq_true h1) h2 k
                exact (congrFun (congrFun e h) n).trans hr
      · rename_i e
        simp only at hr
        cases hs : size? P e with
        | none => simp only [hs] at hr; cases hr
        | some sz =>
          simp only [hs] at hr
          unfold slice2
          have hst : isStrT P t = false := by unfold isStrT; rw [hu]
          rw [hst]
          simp only
          cases x <;> try (cases hr; done)
          rename_i ad len cap
          cases ad with
          | none =>
            unfold ksc at hr
            simp only at hr
            cases h1 : sl1 sz none len cap lo hi with
            | none => simp only [h1] at hr; cases hr
            | some v =>
              simp only [h1] at hr
              have e1 : slSl P t (.slice none len cap) lo hi none = M.ret v := by
                unfold slSl
                simp only [isStr]
                unfold evSliceM
                simp only
                rw [← sl1_eq hu hs, h1]
                rfl
              rw [e1]
              exact ret_of hr
          | some ad =>
            obtain ⟨b, off, p⟩ := ad
            cases p with
            | some _ => cases hr
            | none =>
              unfold ksc at hr
              simp only at hr
              obtain ⟨c, h2, n2, L⟩ := r
              rw [insB_eq] at hr
              obtain ⟨v, h1, n1, L1, L2, e1, e2, e3⟩ := bind_some hr
              obtain ⟨L', e4, e5⟩ := inside_inv e1
              obtain ⟨w, h3, n3, L3, L4, e6, e7, e8⟩ := bind_some e4
              have : slSl P t (.slice (some ⟨b, off, none⟩) len cap) lo hi none h n = some ⟨v, h1, n1, L'⟩ := by
                unfold slSl
                simp only [isStr]
                unfold evSliceM
                simp only
                rw [hdr3_eq] at e6
                rw [e8]
                refine bind_run e6 ?_
                cases hw : Nat.beq w e with
                | false => simp only [hw] at e7; cases e7
                | true =>
                  simp only [hw] at e7
                  have := Nat.eq_of_beq_eq_true hw
                  subst this
                  simp only [hu, if_true]
                  rw [← sl1_eq hu hs]
                  exact e7
              rw [e3, e5]
              exact bind_run (inside_run this) e2
theorem appK_sub {s : Value} (hr : appK P t s x k h n = some r) : ((inside (evAppend P t s x)).bind k) h n = some r := by
  unfold appK at hr
  cases hu : P.underlying t with
  | none => simp only [hu] at hr; cases hr
  | some u =>
    simp only [hu] at hr
    cases u <;> try (cases hr; done)
    rename_i e
    simp only at hr
    cases hs : P.info? e with
    | none => simp only [hs] at hr; cases hr
    | some ie =>
      simp only [hs] at hr
      cases hz : zero? P e with
      | none => simp only [hz] at hr; cases hr
      | some z =>
        simp only [hz] at hr
        cases h1 : (Nat.ble ie.bytes 64 && Nat.beq (lenV (cellsL z)) ie.size && Nat.ble 1 ie.size) with
        | false => simp only [h1] at hr; cases hr
        | true =>
          simp only [h1] at hr
          rw [Bool.and_eq_true, Bool.and_eq_true] at h1
          obtain ⟨⟨h2, h3⟩, h4⟩ := h1
          have h2 := Nat.le_of_ble_eq_true h2
          have h3 := Nat.eq_of_beq_eq_true h3
          have h4 := Nat.le_of_ble_eq_true h4
          rw [lenV_eq, cellsL_eq, Array.length_toList] at h3
          refine ins_of ?_ hr
          unfold evAppend appQ
          simp only [hu, hs, hz]
          cases lenOf? x with
          | none => rfl
          | some m =>
            simp only
            have c1 : (decide (z.cells.size = ie.size) && decide (1 ≤ ie.size) && decide (ie.bytes ≤ 64)) = true := by simp; omega
            rw [if_pos c1]
            unfold evAppendTo appTo evNew
            rw [elems3_eq, rdN3_eq, wrN3_eq, kill3_eq, hdr3_eq, newB3_eq]
            rfl
theorem copyQ_sub {d s : Value} (hr : copyQ P t d s k h n = some r) : ((inside (evCopy P t d s)).bind k) h n = some r := by
  unfold copyQ at hr
  cases hu : P.underlying t with
  | none => simp only [hu] at hr; cases hr
  | some u =>
    simp only [hu] at hr
    cases u <;> try (cases hr; done)
    rename_i e
    simp only at hr
    cases hs : size? P e with
    | none => simp only [hs] at hr; cases hr
    | some sz =>
      simp only [hs] at hr
      refine ins_of ?_ hr
      unfold evCopy cpQ
      simp only [hu, hs]
      rw [elems3_eq, wrN3_eq]
      cases d <;> try rfl
      cases lenOf? s <;> rfl
theorem faQ_sub {f : Nat} (hr : faQ P t x f k h n = some r) : optK (evFieldAddr P t x f) k h n = some r := by
  unfold faQ at hr
  cases hu : P.underlying t with
  | none => simp only [hu] at hr; cases hr
  | some u =>
    simp only [hu] at hr
    cases u <;> try (cases hr; done)
    rename_i fs
    simp only at hr
    cases hf : fs[f]? with
    | none => simp only [hf] at hr; cases hr
    | some fd =>
      simp only [hf] at hr
      cases hs : size? P fd.type with
      | none => simp only [hs] at hr; cases hr
      | some sz =>
        cases sz with
        | zero => simp only [hs] at hr; cases hr
        | succ sz =>
          simp only [hs] at hr
          unfold kfa at hr
          split at hr
          · refine opt_of ?_ hr
            unfold evFieldAddr
            simp only [hu, hf, hs]
            rw [if_neg (by omega)]
            rfl
          · cases hr
theorem nthV_of {l : List Value} {K : Nat} {β : Type} {k : Value → M β} {h : H} {n : Nat} {r : Out β} (hr : (match nthV l K with
    | some v => k v
    | none => M.fail) h n = some r) : optK l[K]? k h n = some r := by
  rw [nthV_eq] at hr
  cases e : l[K]? with
  | none => rw [e] at hr; cases hr
  | some v => rw [e] at hr; exact hr
theorem fieldQ_sub {f : Nat} (hr : fieldQ P t x f k h n = some r) : optK (evField P t x f) k h n = some r := by
  unfold fieldQ at hr
  cases hu : P.underlying t with
  | none => simp only [hu] at hr; cases hr
  | some u =>
    simp only [hu] at hr
    cases u <;> try (cases hr; done)
    rename_i fs
    simp only at hr
    cases hf : fs[f]? with
    | none => simp only [hf] at hr; cases hr
    | some fd =>
      simp only [hf] at hr
      cases ha : agg? P fd.type with
      | none => simp only [ha] at hr; cases hr
      | some b =>
        cases b with
        | false =>
          simp only [ha] at hr
          unfold kfd at hr
          cases x <;> try (cases hr; done)
          rename_i cs
          obtain ⟨l⟩ := cs
          have := nthV_of hr
          have e : evField P t (.agg ⟨l⟩) f = l[fd.offset]? := by
            unfold evField partOf
            simp only [hu, hf, ha]
            simp
          rw [e]; exact this
        | true =>
          simp only [ha] at hr
          cases hs : size? P fd.type with
          | none => simp only [hs] at hr; cases hr
          | some m =>
            simp only [hs] at hr
            unfold kfg at hr
            cases x <;> try (cases hr; done)
            rename_i cs
            obtain ⟨l⟩ := cs
            refine opt_of ?_ hr
            unfold evField partOf
            simp only [hu, hf, ha, hs]
            congr 2
            apply Array.ext'
            simp [List.extract_eq_take_drop]
theorem ixQ_sub {ix : Value} (hr : ixQ P t x ix k h n = some r) : optK (evIndexAddr P t x ix) k h n = some r := by
  unfold ixQ at hr
  cases hu : P.underlying t with
  | none => simp only [hu] at hr; cases hr
  | some u =>
    simp only [hu] at hr
    have one : ∀ {sz : Nat} (i : Nat), Nat.beq sz 1 = true → i * sz = i := fun i h => by rw [Nat.eq_of_beq_eq_true h, Nat.mul_one]
    cases u <;> try (cases hr; done)
    case array m e =>
      simp only at hr
      cases hs : size? P e with
      | none => simp only [hs] at hr; cases hr
      | some sz =>
        simp only [hs] at hr
        cases h1 : Nat.beq sz 1 with
        | true =>
          simp only [h1] at hr
          unfold kia at hr
          split at hr
          · split at hr
            · rename_i b off _ kd i
              cases hl : Nat.ble (Nat.succ i) m with
              | false => simp only [hl] at hr; cases hr
              | true =>
                simp only [hl] at hr
                refine opt_of ?_ hr
                have := Nat.le_of_ble_eq_true hl
                unfold evIndexAddr
                simp only [hu, hs]
                rw [if_pos ⟨Int.natCast_nonneg _, Int.ofNat_lt.2 this⟩]
                show some (Value.pointer (some ⟨b, off + i * sz, none⟩)) = _
                rw [one i h1]; rfl
            · cases hr
          · cases hr
        | false =>
          simp only [h1] at hr
          unfold kib at hr
          split at hr
          · split at hr
            · rename_i b off _ kd i
              cases hl : Nat.ble (Nat.succ i) m with
              | false => simp only [hl] at hr; cases hr
              | true =>
                simp only [hl] at hr
                refine opt_of ?_ hr
                have := Nat.le_of_ble_eq_true hl
                unfold evIndexAddr
                simp only [hu, hs]
                rw [if_pos ⟨Int.natCast_nonneg _, Int.ofNat_lt.2 this⟩]
                rfl
            · cases hr
          · cases hr
    case slice e =>
      simp only at hr
      cases hs : size? P e with
      | none => simp only [hs] at hr; cases hr
      | some sz =>
        simp only [hs] at hr
        cases h1 : Nat.beq sz 1 with
        | true =>
          simp only [h1] at hr
          unfold kix at hr
          split at hr
          · split at hr
            · rename_i b off m _ _ kd i
              cases hl : Nat.ble (Nat.succ i) m with
              | false => simp only [hl] at hr; cases hr
              | true =>
                simp only [hl] at hr
                refine opt_of ?_ hr
                have := Nat.le_of_ble_eq_true hl
                unfold evIndexAddr
                simp only [hu, hs]
                rw [if_pos ⟨Int.natCast_nonneg _, Int.ofNat_lt.2 this⟩]
                show some (Value.pointer (some ⟨b, off + i * sz, none⟩)) = _
                rw [one i h1]; rfl
            · cases hr
          · cases hr
        | false =>
          simp only [h1] at hr
          unfold kiy at hr
          split at hr
          · split at hr
            · rename_i b off m _ _ kd i
              cases hl : Nat.ble (Nat.succ i) m with
              | false => simp only [hl] at hr; cases hr
              | true =>
                simp only [hl] at hr
                refine opt_of ?_ hr
                have := Nat.le_of_ble_eq_true hl
                unfold evIndexAddr
                simp only [hu, hs]
                rw [if_pos ⟨Int.natCast_nonneg _, Int.ofNat_lt.2 this⟩]
                rfl
            · cases hr
          · cases hr
theorem indexQ_sub {ix : Value} (hr : indexQ P t x ix k h n = some r) : optK (index2 P t x ix) k h n = some r := by
  unfold indexQ at hr
  cases hu : P.underlying t with
  | none => simp only [hu] at hr; cases hr
  | some u =>
    simp only [hu] at hr
    cases u <;> try (cases hr; done)
    case string =>
      unfold kit at hr
      cases x <;> try (cases hr; done)
      rename_i s
      obtain ⟨⟨l⟩⟩ := s
      simp only at hr
      split at hr
      · rename_i kd i
        cases hn : nthB l i with
        | none => simp only [hn] at hr; cases hr
        | some c =>
          simp only [hn] at hr
          obtain ⟨h1, h2⟩ := nthB_some _ _ _ hn
          have := idx_str (P := P) hu l kd (i : Int) (by omega) (by omega)
          rw [Int.toNat_natCast, h2] at this
          exact opt_of this hr
      · cases hr
    case array m e =>
      simp only at hr
      cases ha : agg? P e with
      | none => simp only [ha] at hr; cases hr
      | some b =>
        cases b with
        | true => simp only [ha] at hr; cases hr
        | false =>
          simp only [ha] at hr
          cases hs : size? P e with
          | none => simp only [hs] at hr; cases hr
          | some sz =>
            simp only [hs] at hr
            cases h1 : Nat.beq sz 1 with
            | false => simp only [h1] at hr; cases hr
            | true =>
              simp only [h1] at hr
              have := Nat.eq_of_beq_eq_true h1
              subst this
              unfold kiv at hr
              cases x <;> try (cases hr; done)
              rename_i cs
              obtain ⟨l⟩ := cs
              simp only at hr
              split at hr
              · rename_i kd i
                cases hl : Nat.ble (Nat.succ i) m with
                | false => simp only [hl] at hr; cases hr
                | true =>
                  simp only [hl] at hr
                  have hr := nthV_of hr
                  have hl := Nat.le_of_ble_eq_true hl
                  have hst : isStrT P t = false := by unfold isStrT; rw [hu]
                  have e : index2 P t (.agg ⟨l⟩) (.int kd (.ofNat i)) = l[i]? := by
                    unfold index2
                    rw [hst]
                    simp only
                    unfold arrIx
                    simp only [isStr]
                    unfold evIndex
                    simp only [hu, hs]
                    rw [if_pos ⟨Int.natCast_nonneg _, Int.ofNat_lt.2 hl⟩]
                    unfold partOf
                    simp only [ha, Nat.mul_one]
                    simp
                  rw [e]; exact hr
              · cases hr
theorem lenQ_sub {ats : Array TypeId} {vs : List Value} (hr : lenQ P ats vs k h n = some r) : optK (len2 P ats vs) k h n = some r := by
  unfold lenQ at hr
  cases ht : ats[0]? with
  | none => simp only [ht] at hr; cases hr
  | some t =>
    simp only [ht] at hr
    split at hr
    · rename_i x
      cases hu : P.underlying t with
      | none => simp only [hu] at hr; cases hr
      | some u =>
        simp only [hu] at hr
        cases u <;> try (cases hr; done)
        · unfold klx at hr
          cases x <;> try (cases hr; done)
          rename_i s
          obtain ⟨⟨l⟩⟩ := s
          refine opt_of (v := .int .i64 (l.length : Nat)) ?_ (by rw [← lenB_eq]; exact hr)
          unfold len2
          simp only [ht, hu]
          rfl
        · unfold kln at hr
          cases x <;> try (cases hr; done)
          refine opt_of ?_ hr
          unfold len2
          simp only [ht, hu]
          rfl
    · cases hr
theorem minQ_sub {vs : List Value} (hr : minQ vs k h n = some r) : optK (min2 vs) k h n = some r := by
  unfold minQ at hr
  split at hr
  · rename_i x y
    unfold kmi at hr
    split at hr
    · split at hr
      · rename_i a p _ b q
        refine opt_of (v := .int a (if q < p then q else p)) rfl ?_
        rw [ilt_eq] at hr
        by_cases e : q < p
        · rw [if_pos e]; simp only [e, decide_true] at hr; exact hr
        · rw [if_neg e]; simp only [e, decide_false] at hr; exact hr
      · cases hr
    · cases hr
  · rename_i x y z u v w
    unfold km6 at hr
    have st : ∀ {x y : Value} {k : Value → M β}, kmi x y k h n = some r → ∃ a p b q, x = .int a p ∧ y = .int b q ∧ k (.int a (imin p q)) h n = some r := by
      intro x y k hr
      unfold kmi at hr
      split at hr
      · split at hr
        · rename_i a p _ b q
          refine ⟨a, p, b, q, rfl, rfl, ?_⟩
          rw [ilt_eq] at hr
          unfold imin
          by_cases e : q < p
          · rw [if_pos e]; simp only [e, decide_true] at hr; exact hr
          · rw [if_neg e]; simp only [e, decide_false] at hr; exact hr
        · cases hr
      · cases hr
    obtain ⟨a, p, b, q, rfl, rfl, hr1⟩ := st hr
    obtain ⟨a2, p2, b2, q2, e1, rfl, hr2⟩ := st hr1
    obtain ⟨a3, p3, b3, q3, e2, rfl, hr3⟩ := st hr2
    obtain ⟨a4, p4, b4, q4, e3, rfl, hr4⟩ := st hr3
    obtain ⟨a5, p5, b5, q5, e4, rfl, hr5⟩ := st hr4
    cases e1
    cases e2
    cases e3
    cases e4
    exact opt_of rfl hr5
  · cases hr
theorem maxQ_sub {vs : List Value} (hr : maxQ vs k h n = some r) : optK (max2 vs) k h n = some r := by
  unfold maxQ at hr
  split at hr
  · rename_i x y
    unfold kma at hr
    split at hr
    · split at hr
      · rename_i a p _ b q
        refine opt_of (v := .int a (if p < q then q else p)) rfl ?_
        rw [ilt_eq] at hr
        by_cases e : p < q
        · rw [if_pos e]; simp only [e, decide_true] at hr; exact hr
        · rw [if_neg e]; simp only [e, decide_false] at hr; exact hr
      · cases hr
    · cases hr
  · cases hr
end
end Go.Proofs.YtmjolmggelkjlaaGreat.Ev
/- The third form's operations yield what the second one's do: all of them. No program in sight. -/
namespace Go.Proofs.YtmjolmggelkjlaaGreat.Ev
set_option linter.unusedVariables false
set_option linter.unusedSimpArgs false
open Go Go.RowKit
section
variable {α β : Type} {h : H} {n : Nat} {r : Out β}
theorem optK_mono {o : Option α} {k k' : α → M β} (hk : ∀ v, k v h n = some r → k' v h n = some r) (hr : optK o k h n = some r) : optK o k' h n = some r := by
  cases o with
  | none => cases hr
  | some v => exact hk v hr
theorem evosK_mono {s : Fr} : ∀ {l : List Operand} {k k' : List Value → M β}, (∀ v, k v h n = some r → k' v h n = some r) → evosK s l k h n = some r → evosK s l k' h n = some r
  | [], _, _, hk, hr => hk _ hr
  | _ :: _, _, _, hk, hr => optK_mono (fun _ q => evosK_mono (fun _ q => hk _ q) q) hr
theorem evoK_mono {s : Fr} {x : Option Operand} {k k' : Option Value → M β} (hk : ∀ v, k v h n = some r → k' v h n = some r) (hr : evoK s x k h n = some r) : evoK s x k' h n = some r := by
  cases x with
  | none => exact hk _ hr
  | some x => exact optK_mono (fun _ q => hk _ q) hr
variable {P : Program} {rec : FuncId → Array Value → M Value}
theorem callQ_sub {s : Fr} {c : Call} {vs : List Value} {k : Value → M β} (hr : callQ P rec s c vs k h n = some r) : call2 P rec s c vs k h n = some r := by
  unfold callQ at hr
  unfold call2
  cases hc : c.callee with
  | value f =>
    simp only [hc] at hr ⊢
    cases f with
    | func g =>
      simp only at hr
      cases hb : hasBody P g with
      | false => simp only [hb] at hr; cases hr
      | true =>
        simp only [hb] at hr
        show callV P rec (.func (.func g) #[] #[]) vs k h n = some r
        unfold callV
        show (match hasBody P g with
          | true => (inside (rec g ((#[] : Array Value).toList ++ vs ++ (#[] : Array Value).toList).toArray)).bind k
          | false => M.fail) h n = some r
        rw [hb]
        refine ins_of ?_ hr
        simp
    | _ => exact hr
  | builtin b =>
    simp only [hc] at hr ⊢
    cases b <;> try (cases hr; done)
    case append => exact optK_mono (fun q hq => appK_sub hq) hr
    case copy => exact optK_mono (fun q hq => copyQ_sub hq) hr
    case len => exact lenQ_sub hr
    case max => exact maxQ_sub hr
    case min => exact minQ_sub hr
  | invoke _ _ =>
    simp only [hc] at hr
    cases hr
theorem opQ_sub {s : Fr} {o : Oper} {k : Value → M β} (hr : opQ P rec s o k h n = some r) : op2 P rec s o k h n = some r := by
  obtain ⟨dst, op, ty, pos, after, guard⟩ := o
  unfold opQ at hr
  unfold op2
  cases op with
  | move x => exact hr
  | assign x => exact hr
  | pick c a b =>
    refine optK_mono (fun vc => optK_mono fun va => optK_mono fun vb q => ?_) hr
    unfold kpk at q
    split at q
    · exact opt_of rfl q
    · exact opt_of rfl q
    · cases q
  | alloc e => exact allocQ_sub hr
  | box e x => exact optK_mono (fun _ q => boxQ_sub q) hr
  | build t ps => exact evosK_mono (fun _ q => buildQ_sub q) hr
  | buildSlice t len ps => exact evosK_mono (fun _ q => bsQ_sub q) hr
  | load t a => exact optK_mono (fun _ q => loadQ_sub q) hr
  | store t a x => exact optK_mono (fun _ => optK_mono fun _ q => storeQ_sub q) hr
  | nilCheck x =>
    refine optK_mono (fun v q => ?_) hr
    unfold knn at q
    split at q
    · exact opt_of rfl q
    · exact opt_of rfl q
    · cases q
  | binOp op t x y yt => exact optK_mono (fun _ => optK_mono fun _ q => binQ_sub q) hr
  | unOp op t x => exact optK_mono (fun _ q => unQ_sub q) hr
  | convert src d x => exact optK_mono (fun _ q => convQ_sub q) hr
  | makeFunc fn a b => exact hr
  | makeSlice t l c => exact optK_mono (fun _ => optK_mono fun _ q => makeQ_sub q) hr
  | slice t x lo hi mx => exact optK_mono (fun _ => evoK_mono fun _ => evoK_mono fun _ => evoK_mono fun _ q => sliceQ_sub q) hr
  | fieldAddr t x f => exact optK_mono (fun _ q => faQ_sub q) hr
  | field t x f => exact optK_mono (fun _ q => fieldQ_sub q) hr
  | indexAddr t x ix => exact optK_mono (fun _ => optK_mono fun _ q => ixQ_sub q) hr
  | index t x ix => exact optK_mono (fun _ => optK_mono fun _ q => indexQ_sub q) hr
  | extract t i =>
    refine optK_mono (fun v q => ?_) hr
    unfold kex at q
    cases v <;> try (cases q; done)
    rename_i cs
    obtain ⟨l⟩ := cs
    have e : evExtract (.tuple ⟨l⟩) i = l[i]? := by simp [evExtract]
    rw [e]
    exact nthV_of q
  | call c => exact evosK_mono (fun _ q => callQ_sub q) hr
  | _ => cases hr
end
end Go.Proofs.YtmjolmggelkjlaaGreat.Ev
/- The third form: regions, code, calls. No program in sight. -/
namespace Go.Proofs.YtmjolmggelkjlaaGreat.Ev
set_option linter.unusedVariables false
set_option linter.unusedSimpArgs false
open Go
noncomputable section
variable (P : Program) (rec : FuncId → Array Value → M Value)
def dropI (ops : Array Oper) (dst : Option Tmp) : List Nat → List Nat
  | [] => []
  | j :: r => match (ops[j]?).bind (·.dst), dst with
    | some t, some d => match Nat.beq t d with
      | true => dropI ops dst r
      | false => j :: dropI ops dst r
    | _, _ => j :: dropI ops dst r
def hasI (j : Nat) : List Nat → Bool
  | [] => false
  | i :: r => match Nat.beq i j with
    | true => true
    | false => hasI j r
/-- i: the operation's number; idl: those that were passed by, and yield nothing -/
def opsK {β : Type} (ops : Array Oper) : List Oper → Nat → List Nat → Fr → (Fr → M β) → M β
  | [], _, _, s, k => k s
  | o :: r, i, idl, s, k => match o.guard with
    | none => opQ P rec s o fun v => opsK ops r (i + 1) (dropI ops o.dst idl) (putF s o.dst v) k
    | some (j, want) => match hasI j idl with
      | true => opsK ops r (i + 1) (i :: dropI ops o.dst idl) (putF s o.dst undef) k
      | false => match (ops[j]?).bind (·.dst) with
        | none => .fail
        | some t => optK (s.at_ t) fun g =>
          ifV g (match want with
              | true => opQ P rec ((t, .bool true) :: s) o fun v => opsK ops r (i + 1) (dropI ops o.dst idl) (putF ((t, .bool true) :: s) o.dst v) k
              | false => opsK ops r (i + 1) (i :: dropI ops o.dst idl) (putF ((t, .bool true) :: s) o.dst undef) k)
            (match want with
              | true => opsK ops r (i + 1) (i :: dropI ops o.dst idl) (putF ((t, .bool false) :: s) o.dst undef) k
              | false => opQ P rec ((t, .bool false) :: s) o fun v => opsK ops r (i + 1) (dropI ops o.dst idl) (putF ((t, .bool false) :: s) o.dst v) k)

/-- what of a frame is kept: behind a region; at a return; at the exit of a block -/
abbrev Hint := List Nat × List Nat × List (Nat × List Nat)
def exAt : List (Nat × List Nat) → Nat → Option (List Nat)
  | [], _ => none
  | q :: r, i => match Nat.beq q.1 i with
    | true => some q.2
    | false => exAt r i
def Hint.out (G : Hint) (id : Nat) (s : Fr) : Fr := match exAt G.2.2 id with
  | some l => s.keep l
  | none => s
/-- an operation that is passed by -/
def passT {β : Type} (kd : Nat) (k : Tk → M β) : M β := match kd with
  | 0 => k ⟨0, 0, []⟩
  | _ => (timed (M.ret undef)).bind fun x => k x.2
def opsT {β : Type} (ops : Array Oper) : List Oper → Nat → List Nat → Fr → List Tk → (Fr → List Tk → M β) → M β
  | [], _, _, s, acc, k => k s acc.reverse
  | o :: r, i, idl, s, acc, k => match o.guard with
    | none => match kind o.op with
      | 0 => opQ P rec s o fun v => opsT ops r (i + 1) (dropI ops o.dst idl) (putF s o.dst v) (⟨0, 0, []⟩ :: acc) k
      | _ => (timed (opQ P rec s o M.ret)).bind fun x => opsT ops r (i + 1) (dropI ops o.dst idl) (putF s o.dst x.1) (x.2 :: acc) k
    | some (j, want) => match hasI j idl with
      | true => passT (kind o.op) fun tk => opsT ops r (i + 1) (i :: dropI ops o.dst idl) (putF s o.dst undef) (tk :: acc) k
      | false => match (ops[j]?).bind (·.dst) with
        | none => .fail
        | some t => optK (s.at_ t) fun g =>
          ifV g (match want with
              | true => match kind o.op with
                | 0 => opQ P rec ((t, .bool true) :: s) o fun v => opsT ops r (i + 1) (dropI ops o.dst idl) (putF ((t, .bool true) :: s) o.dst v) (⟨0, 0, []⟩ :: acc) k
                | _ => (timed (opQ P rec ((t, .bool true) :: s) o M.ret)).bind fun x => opsT ops r (i + 1) (dropI ops o.dst idl) (putF ((t, .bool true) :: s) o.dst x.1) (x.2 :: acc) k
              | false => passT (kind o.op) fun tk => opsT ops r (i + 1) (i :: dropI ops o.dst idl) (putF ((t, .bool true) :: s) o.dst undef) (tk :: acc) k)
            (match want with
              | true => passT (kind o.op) fun tk => opsT ops r (i + 1) (i :: dropI ops o.dst idl) (putF ((t, .bool false) :: s) o.dst undef) (tk :: acc) k
              | false => match kind o.op with
                | 0 => opQ P rec ((t, .bool false) :: s) o fun v => opsT ops r (i + 1) (dropI ops o.dst idl) (putF ((t, .bool false) :: s) o.dst v) (⟨0, 0, []⟩ :: acc) k
                | _ => (timed (opQ P rec ((t, .bool false) :: s) o M.ret)).bind fun x => opsT ops r (i + 1) (dropI ops o.dst idl) (putF ((t, .bool false) :: s) o.dst x.1) (x.2 :: acc) k)
def dynPair (bef : List Nat) (ops : Array Oper) (j : Nat) (oj : Oper) (tj : Tk) (k : Nat) (ok : Oper) (tk : Tk) : Bool :=
  (bef.getD k 0).testBit j || (!(slotClash ops oj ok) && (match fits (kind oj.op) (kind ok.op) with
    | true => true
    | false => !(clash3 tj tk)))
def dynAll (bef : List Nat) (ops : Array Oper) (j : Nat) (oj : Oper) (tj : Tk) : Nat → List Oper → List Tk → Bool
  | k, ok :: r, tk :: t => dynPair bef ops j oj tj k ok tk && dynAll bef ops j oj tj (k + 1) r t
  | _, _, _ => true
def dynPairs (bef : List Nat) (ops : Array Oper) : Nat → List Oper → List Tk → Bool
  | j, oj :: r, tj :: t => dynAll bef ops j oj tj (j + 1) r t && dynPairs bef ops (j + 1) r t
  | _, _, _ => true
def chkT {β : Type} (b : Bool) (m : M β) : M β := match b with
  | true => m
  | false => .fail
def regK {β : Type} (ops : Array Oper) (draw : Bool) (s : Fr) (k : Fr → M β) : M β :=
  match !draw || staticOk ops with
  | true => opsK P rec ops ops.toList 0 [] s k
  | false => match edgesOk ops with
    | true => opsT P rec ops ops.toList 0 [] s [] fun s1 tks => chkT (dynPairs (befores ops.toList []) ops 0 ops.toList tks) (k s1)
    | false => .fail

def seqK {β : Type} (kb : Fr → (Ex → Fr → M β) → M β) (k : Ex → Fr → M β) : Ex → Fr → M β
  | .normal, s1 => kb s1 k
  | .ret, s1 => k .ret s1
  | .exit i, s1 => k (.exit i) s1
def blockK {β : Type} (id : Nat) (k : Ex → Fr → M β) : Ex → Fr → M β
  | .normal, s1 => k .normal s1
  | .ret, s1 => k .ret s1
  | .exit i, s1 => match Nat.beq i id with
    | true => k .normal s1
    | false => k (.exit i) s1
def againK {β : Type} (again : Fr → M β) (k : Ex → Fr → M β) : Ex → Fr → M β
  | .normal, s1 => again s1
  | .ret, s1 => k .ret s1
  | .exit i, s1 => k (.exit i) s1
def loopK {β : Type} (body : Fr → (Ex → Fr → M β) → M β) (keys : List Nat) : Nat → Fr → (Ex → Fr → M β) → M β
  | 0, _, _ => .fail
  | f + 1, s, k => body s (againK (fun s1 => loopK body keys f (s1.keep keys) k) k)
def codeK {β : Type} (G : Hint) (lf : Nat) : Code → Fr → (Ex → Fr → M β) → M β
  | .skip, s, k => k .normal s
  | .label _, s, k => k .normal s
  | .region _ ops draw, s, k => regK P rec ops draw s fun s1 => k .normal (s1.keep G.1)
  | .seq a b, s, k => codeK G lf a s (seqK (fun s1 k1 => codeK G lf b s1 k1) k)
  | .cond c a b, s, k => optK (evo s c) fun v => ifV v (codeK G lf a s k) (codeK G lf b s k)
  | .block id c, s, k => codeK G lf c s (blockK id k)
  | .loop c, s, k => loopK (fun s1 k1 => codeK G lf c s1 k1) s.keys lf s k
  | .exit id, s, k => k (.exit id) (G.out id s)
  | .ret, s, k => k .ret (s.keep G.2.1)
  | _, _, _ => .fail
def codeAt : Code → List Bool → Code
  | .seq a b, t :: p => match t with
    | true => codeAt b p
    | false => codeAt a p
  | .cond _ a b, t :: p => match t with
    | true => codeAt b p
    | false => codeAt a p
  | .block _ c, _ :: p => codeAt c p
  | .loop c, _ :: p => codeAt c p
  | c, _ => c
def contAt {β : Type} (G : Hint) (lf : Nat) : Code → List Bool → (Ex → Fr → M β) → Ex → Fr → M β
  | .seq a b, t :: p, k => match t with
    | true => contAt G lf b p k
    | false => contAt G lf a p (seqK (fun s1 k1 => codeK P rec G lf b s1 k1) k)
  | .cond _ a b, t :: p, k => match t with
    | true => contAt G lf b p k
    | false => contAt G lf a p k
  | .block id c, _ :: p, k => contAt G lf c p (blockK id k)
  | _, _, k => k
def resK {β : Type} (s : Fr) : List ResultVar → (List Value → M β) → M β
  | [], k => k []
  | .tmp t :: r, k => optK (s.at_ t) fun v => resK s r fun vs => k (v :: vs)
  | .cell a t :: r, k => optK (s.at_ a) fun a => loadQ P t a fun v => resK s r fun vs => k (v :: vs)
def outK (vs : List Value) : M Value := .ret (match vs with | [v] => v | _ => .tuple vs.toArray)
def endK (rs : List ResultVar) : Ex → Fr → M Value
  | .normal, s => resK P s rs outK
  | .ret, s => resK P s rs outK
  | .exit _, _ => .fail
def argF : Nat → List Value → Fr
  | _, [] => []
  | i, v :: r => (i, v) :: argF (i + 1) r
end

def bodyOf (P : Program) (f : FuncId) : Code := match P.funcs[f]? with
  | some fn => match fn.body with
    | some c => c
    | none => .skip
  | none => .skip
def resOf (P : Program) (f : FuncId) : List ResultVar := match P.funcs[f]? with
  | some fn => fn.results.toList
  | none => []
noncomputable def evStep (P : Program) (gt : Nat → Hint) (lf : Nat) (rec : FuncId → Array Value → M Value) (f : FuncId) (args : Array Value) : M Value := match P.funcs[f]? with
  | some fn => match fn.body with
    | some c => match decide (args.size ≤ fn.ntmps) && decide (fn.ntmps < 1000) with
      | true => inside (codeK P rec (gt f) lf c (argF 0 args.toList) (endK P fn.results.toList))
      | false => .fail
    | none => .fail
  | none => .fail
noncomputable def evCallN (kn : List FuncId) (P : Program) (gt : Nat → Hint) (lf : Nat) : Nat → FuncId → Array Value → M Value
  | 0, _, _ => .fail
  | d + 1, f, args => match kn.contains f with
    | true => match natOf f with
      | some k => evNat f k args.toList
      | none => match decide (args.size = 0) && noPar P f with
        | true => (chkG P KG).bind fun _ => .ret (.bool true)
        | false => .fail
    | false => evStep P gt lf (evCallN kn P gt lf d) f args

noncomputable def evCall2 (P : Program) (gt : Nat → Hint) (lf : Nat) : Nat → FuncId → Array Value → M Value := evCallN KN P gt lf

def dstOk (nt : Nat) : Code → Bool
  | .region _ ops _ => ops.all fun o => match o.dst with
    | some d => d < nt && d < 1023
    | none => true
  | .seq a b => dstOk nt a && dstOk nt b
  | .cond _ a b => dstOk nt a && dstOk nt b
  | .block _ c | .loop c => dstOk nt c
  | _ => true
def okDsts (P : Program) : Bool := P.funcs.all fun fn => match fn.body with
  | some c => dstOk fn.ntmps c
  | none => true

end Go.Proofs.YtmjolmggelkjlaaGreat.Ev
/- What the second form yields the first one yields. No program in sight. -/
namespace Go.Proofs.YtmjolmggelkjlaaGreat.Ev
set_option linter.unusedVariables false
set_option linter.unusedSimpArgs false
open Go

theorem Sub.nil (s1 : S) : Sub [] s1 := fun t v h => by cases h
theorem at_cons (d : Nat) (v : Value) (s : Fr) (t : Nat) : Fr.at_ ((d, v) :: s) t = if d = t then some v else s.at_ t := by
  show (match Nat.beq d t with | true => some v | false => s.at_ t) = _
  by_cases e : d = t
  · subst e
    rw [Nat.beq_refl, if_pos rfl]
  · have : Nat.beq d t = false := Bool.eq_false_iff.2 fun q => e (Nat.eq_of_beq_eq_true q)
    rw [this, if_neg e]
theorem Sub.cons {s : Fr} {s1 : S} (hs : Sub s s1) {d : Nat} {v : Value} (h : s1.get d = v) : Sub ((d, v) :: s) s1 := fun t u hu => by
  rw [at_cons] at hu
  by_cases e : d = t
  · rw [if_pos e] at hu; cases hu; rw [← e]; exact h
  · rw [if_neg e] at hu; exact hs t u hu
theorem Sub.put {s : Fr} {s1 : S} (hs : Sub s s1) {nt : Nat} {dst : Option Tmp} (hd : ∀ d, dst = some d → d < nt ∧ d < 1023) (v : Value) : ∃ s2, putS nt s1 dst v = some s2 ∧ Sub (putF s dst v) s2 := by
  cases dst with
  | none => exact ⟨s1, rfl, hs⟩
  | some d =>
    obtain ⟨h1, h2⟩ := hd d rfl
    refine ⟨s1.put d v, by unfold putS; simp [h1, h2], fun t u hu => ?_⟩
    rw [S.get_put _ _ _ _ h2]
    have hu : Fr.at_ ((d, v) :: s) t = some u := hu
    rw [at_cons] at hu
    by_cases e : d = t
    · rw [if_pos e] at hu; rw [if_pos e.symm]; cases hu; rfl
    · rw [if_neg e] at hu; rw [if_neg (fun q => e q.symm)]; exact hs t u hu
theorem keep_at (s : Fr) : ∀ (G : List Nat) (t : Nat) (v : Value), (s.keep G).at_ t = some v → s.at_ t = some v
  | [], t, v, h => by cases h
  | g :: G, t, v, h => by
    unfold Fr.keep at h
    split at h
    · rename_i u hu
      rw [at_cons] at h
      by_cases e : g = t
      · rw [if_pos e] at h; cases h; rw [← e]; exact hu
      · rw [if_neg e] at h; exact keep_at s G t v h
    · exact keep_at s G t v h
theorem Sub.keep {s : Fr} {s1 : S} (hs : Sub s s1) (G : List Nat) : Sub (s.keep G) s1 := fun t v h => hs t v (keep_at s G t v h)
theorem Sub.out {s : Fr} {s1 : S} (hs : Sub s s1) (G : Hint) (id : Nat) : Sub (G.out id s) s1 := by
  unfold Hint.out
  split
  · exact hs.keep _
  · exact hs

section
variable {P : Program} {kn : List FuncId} {rec : FuncId → Array Value → M Value} (hrec : ∀ f args h n v h1 n1 L, rec f args h n = some ⟨v, h1, n1, L⟩ → Does (fun fuel => evCall P kn fuel f args) h n v h1 n1 L)
set_option linter.unusedSectionVars false
include hrec

theorem val_step {ops : Array Oper} {o : Oper} {s : Fr} {s1 : S} {β : Type} {k : Value → M β} {h : H} {n : Nat} {r : Out β} (hw : Region.wanted o (yields ops s1) = true) (hs : Sub s s1) (hr : opQ P rec s o k h n = some r) :
    ∃ v h1 n1 L1 L2, Does (fun fuel => inside (evVal P (evCall P kn fuel) ops o s1)) h n v h1 n1 L1 ∧ k v h1 n1 = some ⟨r.val, r.h, r.n, L2⟩ ∧ r.log = L1 ++ L2 := by
  obtain ⟨v, h1, n1, L1, L2, e1, e2, e3⟩ := op2_ok hrec hs (opQ_sub hr)
  refine ⟨v, h1, n1, L1, L2, e1.map fun fuel => ?_, e2, e3⟩
  rw [evVal_wanted hw]
  rfl
theorem idle_step {ops : Array Oper} {o : Oper} {s1 : S} {h : H} {n : Nat} (hw : Region.wanted o (yields ops s1) = false) : Does (fun fuel => inside (evVal P (evCall P kn fuel) ops o s1)) h n undef h n [] := by
  refine ⟨0, fun fuel _ => ?_⟩
  show inside (evVal P (evCall P kn fuel) ops o s1) h n = _
  unfold evVal
  rw [if_neg (by rw [hw]; exact Bool.false_ne_true)]
  rfl
theorem ifV_some {β : Type} {v : Value} {x y : M β} {h : H} {n : Nat} {r : Out β} (hr : ifV v x y h n = some r) : (v = .bool true ∧ x h n = some r) ∨ (v = .bool false ∧ y h n = some r) := by
  unfold ifV at hr
  split at hr
  · exact .inl ⟨rfl, hr⟩
  · exact .inr ⟨rfl, hr⟩
  · cases hr
theorem opers_step {nt : Nat} {ops : Array Oper} {o : Oper} {l : List Oper} {s1 s2 : S} {h h1 h2 : H} {n n1 n2 : Nat} {v : Value} {L1 L2 : List En} {y : S × List Tk} (e1 : Does (fun fuel => inside (evVal P (evCall P kn fuel) ops o s1)) h n v h1 n1 L1)
    (hp : putS nt s1 o.dst v = some s2) (e2 : Does (fun fuel => evOpers P (evCall P kn fuel) nt ops l s2) h1 n1 y h2 n2 L2) : Does (fun fuel => evOpers P (evCall P kn fuel) nt ops (o :: l) s1) h n (y.1, ⟨n, n1, L1⟩ :: y.2) h2 n2 (L1 ++ L2) := by
  obtain ⟨f0, e1⟩ := e1
  obtain ⟨f1, e2⟩ := e2
  refine ⟨max f0 f1, fun fuel hf => ?_⟩
  have g1 := timed_run (e1 fuel (by omega))
  have g2 := e2 fuel (by omega)
  show evOpers P (evCall P kn fuel) nt ops (o :: l) s1 h n = _
  unfold evOpers
  refine bind_run g1 ?_
  simp only [hp, lift_some_eq, bind_ret]
  have := bind_run (f := fun y : S × List Tk => M.ret (y.1, (⟨n, n1, L1⟩ : Tk) :: y.2)) g2 (h2 := h2) (n2 := n2) (L2 := []) (b := (y.1, (⟨n, n1, L1⟩ : Tk) :: y.2)) rfl
  rw [List.append_nil] at this
  exact this

theorem hasI_mem {j : Nat} : ∀ {l : List Nat}, hasI j l = true → j ∈ l
  | [], h => by cases h
  | i :: r, h => by
    unfold hasI at h
    cases hb : Nat.beq i j with
    | true => rw [Nat.eq_of_beq_eq_true hb]; simp
    | false => rw [hb] at h; exact List.mem_cons_of_mem _ (hasI_mem h)
def Idle (ops : Array Oper) (s1 : S) (idl : List Nat) : Prop := ∀ j ∈ idl, yields ops s1 j = none
theorem Idle.put {ops : Array Oper} {s1 s2 : S} {nt : Nat} {dst : Option Tmp} {v : Value} : ∀ {idl : List Nat}, Idle ops s1 idl → putS nt s1 dst v = some s2 → Idle ops s2 (dropI ops dst idl)
  | [], _, _ => fun j hj => by cases hj
  | i :: r, h, hp => by
    have hr : Idle ops s2 (dropI ops dst r) := Idle.put (fun j hj => h j (List.mem_cons_of_mem _ hj)) hp
    have hi := h i (by simp)
    have get : ∀ t, dst ≠ some t → s2.get t = s1.get t := by
      intro t ht
      cases dst with
      | none => simp only [putS, Option.some.injEq] at hp; rw [hp]
      | some d =>
        unfold putS at hp
        simp only at hp
        split at hp
        · rename_i hd
          simp only [Bool.and_eq_true, decide_eq_true_eq] at hd
          cases hp
          rw [S.get_put _ _ _ _ hd.2, if_neg (fun e => ht (by rw [e]))]
        · cases hp
    have keep : (∀ t, (ops[i]?).bind (·.dst) = some t → dst ≠ some t) → Idle ops s2 (i :: dropI ops dst r) := by
      intro hk j hj
      rcases List.mem_cons.1 hj with rfl | hj
      · unfold yields at hi ⊢
        cases ht : (ops[j]?).bind (·.dst) with
        | none => rfl
        | some t =>
          rw [ht] at hi
          simp only at hi ⊢
          rw [get t (hk t ht)]
          exact hi
      · exact hr j hj
    unfold dropI
    cases ht : (ops[i]?).bind (·.dst) with
    | none => exact keep fun t h => by rw [ht] at h; cases h
    | some t =>
      cases dst with
      | none => exact keep fun t h e => by cases e
      | some d =>
        simp only
        cases hb : Nat.beq t d with
        | true => exact hr
        | false =>
          refine keep fun t' h => ?_
          rw [ht] at h
          cases h
          rintro ⟨⟩
          rw [Nat.beq_refl] at hb
          cases hb
theorem Idle.add {ops : Array Oper} {s1 s2 : S} {nt : Nat} {o : Oper} {i : Nat} (hi : ops[i]? = some o) {idl : List Nat} (h : Idle ops s2 idl) (hp : putS nt s1 o.dst undef = some s2) : Idle ops s2 (i :: idl) := by
  intro j hj
  rcases List.mem_cons.1 hj with rfl | hj
  · unfold yields
    rw [hi]
    simp only [Option.bind_some]
    cases hd : o.dst with
    | none => rfl
    | some d =>
      rw [hd] at hp
      unfold putS at hp
      simp only at hp
      split at hp
      · rename_i hdd
        simp only [Bool.and_eq_true, decide_eq_true_eq] at hdd
        cases hp
        simp only
        rw [S.get_put _ _ _ _ hdd.2, if_pos rfl]
        rfl
      · cases hp
  · exact h j hj

theorem opsK_ok {β : Type} {nt : Nat} {ops : Array Oper} : ∀ (l : List Oper) (_ : ∀ o ∈ l, ∀ d, o.dst = some d → d < nt ∧ d < 1023) (i : Nat) (_ : ∀ q o, l[q]? = some o → ops[i + q]? = some o) (idl : List Nat) (s : Fr) (s1 : S) (_ : Idle ops s1 idl) (k : Fr → M β) (h : H) (n : Nat) (r : Out β), Sub s s1 → opsK P rec ops l i idl s k h n = some r →
    ∃ s' y h1 n1 L1 L2, Does (fun fuel => evOpers P (evCall P kn fuel) nt ops l s1) h n y h1 n1 L1 ∧ Sub s' y.1 ∧ k s' h1 n1 = some ⟨r.val, r.h, r.n, L2⟩ ∧ r.log = L1 ++ L2 := by
  intro l
  induction l with
  | nil =>
    intro _ i _ idl s s1 _ k h n r hs hr
    exact ⟨s, (s1, []), h, n, [], r.log, Does.of rfl, hs, hr, rfl⟩
  | cons o l ih =>
    intro hd i hpos idl s s1 hidl k h n r hs hr
    have hd0 := hd o (by simp)
    have hdl : ∀ o ∈ l, ∀ d, o.dst = some d → d < nt ∧ d < 1023 := fun o' ho => hd o' (by simp [ho])
    have hio : ops[i]? = some o := by have := hpos 0 o rfl; rwa [Nat.add_zero] at this
    have hpl : ∀ q o', l[q]? = some o' → ops[i + 1 + q]? = some o' := fun q o' hq => by
      have := hpos (q + 1) o' (by simpa using hq)
      rwa [show i + 1 + q = i + (q + 1) by omega]
    have go : ∀ (s : Fr), Sub s s1 → Region.wanted o (yields ops s1) = true → opQ P rec s o (fun v => opsK P rec ops l (i + 1) (dropI ops o.dst idl) (putF s o.dst v) k) h n = some r →
        ∃ s' y h1 n1 L1 L2, Does (fun fuel => evOpers P (evCall P kn fuel) nt ops (o :: l) s1) h n y h1 n1 L1 ∧ Sub s' y.1 ∧ k s' h1 n1 = some ⟨r.val, r.h, r.n, L2⟩ ∧ r.log = L1 ++ L2 := by
      intro s hs hw hr
      obtain ⟨v, h1, n1, L1, L2, e1, e2, e3⟩ := val_step hrec hw hs hr
      obtain ⟨s2, hp, hs2⟩ := hs.put hd0 v
      obtain ⟨s', y, h3, n3, L3, L4, e4, e5, e6, e7⟩ := ih hdl _ hpl _ _ s2 (Idle.put hrec hidl hp) k h1 n1 _ hs2 e2
      exact ⟨s', _, h3, n3, _, L4, opers_step hrec e1 hp e4, e5, e6, by rw [e3]; simp only at e7; rw [e7, List.append_assoc]⟩
    have idle : ∀ (s : Fr), Sub s s1 → Region.wanted o (yields ops s1) = false → opsK P rec ops l (i + 1) (i :: dropI ops o.dst idl) (putF s o.dst undef) k h n = some r →
        ∃ s' y h1 n1 L1 L2, Does (fun fuel => evOpers P (evCall P kn fuel) nt ops (o :: l) s1) h n y h1 n1 L1 ∧ Sub s' y.1 ∧ k s' h1 n1 = some ⟨r.val, r.h, r.n, L2⟩ ∧ r.log = L1 ++ L2 := by
      intro s hs hw hr
      obtain ⟨s2, hp, hs2⟩ := hs.put hd0 undef
      obtain ⟨s', y, h3, n3, L3, L4, e4, e5, e6, e7⟩ := ih hdl _ hpl _ _ s2 (Idle.add hrec hio (Idle.put hrec hidl hp) hp) k h n _ hs2 hr
      exact ⟨s', _, h3, n3, _, L4, opers_step hrec (idle_step hrec hw) hp e4, e5, e6, e7⟩
    unfold opsK at hr
    cases hg : o.guard with
    | none =>
      rw [hg] at hr
      exact go s hs (by unfold Region.wanted; rw [hg]) hr
    | some jw =>
      obtain ⟨j, want⟩ := jw
      rw [hg] at hr
      simp only at hr
      cases hI : hasI j idl with
      | true =>
        rw [hI] at hr
        refine idle s hs ?_ hr
        unfold Region.wanted
        rw [hg]
        simp only
        rw [hidl j (hasI_mem hrec hI)]
        rfl
      | false =>
      rw [hI] at hr
      simp only at hr
      cases ht : (ops[j]?).bind (·.dst) with
      | none => rw [ht] at hr; cases hr
      | some t =>
        rw [ht] at hr
        simp only at hr
        obtain ⟨g, hgv, hr⟩ := optK_some hr
        have hget := hs t g hgv
        have hy : ∀ b, g = .bool b → yields ops s1 j = some b := fun b hb => by
          unfold yields
          rw [ht]
          simp only [hget, hb]
        rcases ifV_some hrec hr with ⟨hb, hr⟩ | ⟨hb, hr⟩
        · have hs' : Sub ((t, .bool true) :: s) s1 := hs.cons (by rw [hget, hb])
          cases want with
          | true => exact go _ hs' (by unfold Region.wanted; rw [hg]; simp only; rw [hy _ hb]; rfl) hr
          | false => exact idle _ hs' (by unfold Region.wanted; rw [hg]; simp only; rw [hy _ hb]; rfl) hr
        · have hs' : Sub ((t, .bool false) :: s) s1 := hs.cons (by rw [hget, hb])
          cases want with
          | true => exact idle _ hs' (by unfold Region.wanted; rw [hg]; simp only; rw [hy _ hb]; rfl) hr
          | false => exact go _ hs' (by unfold Region.wanted; rw [hg]; simp only; rw [hy _ hb]; rfl) hr
end

end Go.Proofs.YtmjolmggelkjlaaGreat.Ev
/- What the second form yields the first one yields: regions in doubtful order, code, calls. No program in sight. -/
namespace Go.Proofs.YtmjolmggelkjlaaGreat.Ev
set_option linter.unusedVariables false
set_option linter.unusedSimpArgs false
open Go

theorem ret_run_inv {α : Type} {a c : α} {h h2 : H} {n n2 : Nat} {L : List En} (hr : (M.ret a) h n = some ⟨c, h2, n2, L⟩) : c = a ∧ h2 = h ∧ n2 = n ∧ L = [] := by
  simp only [M.ret, Option.some.injEq, Out.mk.injEq] at hr
  exact ⟨hr.1.symm, hr.2.1.symm, hr.2.2.1.symm, hr.2.2.2.symm⟩
def Match : List Oper → List Tk → List Tk → Prop
  | [], [], [] => True
  | o :: l, t' :: ts', t :: ts => (kind o.op = 0 ∨ t' = t) ∧ Match l ts' ts
  | _, _, _ => False
theorem Match.get : ∀ {l : List Oper} {ts' ts : List Tk}, Match l ts' ts → ∀ (i : Nat) (o : Oper) (t : Tk), l[i]? = some o → ts[i]? = some t → ∃ t', ts'[i]? = some t' ∧ (kind o.op = 0 ∨ t' = t)
  | [], [], [], _, i, o, t, h, _ => by simp at h
  | o :: l, t' :: ts', t :: ts, h, 0, o', u, h1, h2 => by
    simp at h1 h2; subst h1 h2
    exact ⟨t', rfl, h.1⟩
  | o :: l, t' :: ts', t :: ts, h, i + 1, o', u, h1, h2 => by
    simpa using Match.get h.2 i o' u (by simpa using h1) (by simpa using h2)
theorem dynAll_at {ops : Array Oper} {bef : List Nat} {j : Nat} {oj : Oper} {tj : Tk} : ∀ (l : List Oper) (ts : List Tk) (k : Nat), dynAll bef ops j oj tj k l ts = true → ∀ i o t, l[i]? = some o → ts[i]? = some t → dynPair bef ops j oj tj (k + i) o t = true := by
  intro l
  induction l with
  | nil => intro ts k _ i o t h; simp at h
  | cons o l ih =>
    intro ts k h i o' t' hi ht
    cases ts with
    | nil => simp at ht
    | cons t ts =>
      unfold dynAll at h
      simp only [Bool.and_eq_true] at h
      cases i with
      | zero => simp at hi ht; subst hi ht; exact h.1
      | succ i =>
        rw [show k + (i + 1) = k + 1 + i by omega]
        exact ih ts (k + 1) h.2 i o' t' (by simpa using hi) (by simpa using ht)
theorem dynPairs_at {ops : Array Oper} {bef : List Nat} : ∀ (l : List Oper) (ts : List Tk) (j : Nat), dynPairs bef ops j l ts = true → ∀ p q op oq tp tq, p < q → l[p]? = some op → l[q]? = some oq → ts[p]? = some tp → ts[q]? = some tq → dynPair bef ops (j + p) op tp (j + q) oq tq = true := by
  intro l
  induction l with
  | nil => intro ts j _ p q op oq tp tq _ h; simp at h
  | cons o l ih =>
    intro ts j h p q op oq tp tq hpq h1 h2 h3 h4
    cases ts with
    | nil => simp at h3
    | cons t ts =>
      unfold dynPairs at h
      simp only [Bool.and_eq_true] at h
      cases q with
      | zero => omega
      | succ q =>
        cases p with
        | zero =>
          simp at h1 h3; subst h1 h3
          have := dynAll_at l ts (j + 1) h.1 q oq tq (by simpa using h2) (by simpa using h4)
          rw [show j + (q + 1) = j + 1 + q by omega, Nat.add_zero]
          exact this
        | succ p =>
          have := ih ts (j + 1) h.2 p q op oq tp tq (by omega) (by simpa using h1) (by simpa using h2) (by simpa using h3) (by simpa using h4)
          rw [show j + (q + 1) = j + 1 + q by omega, show j + (p + 1) = j + 1 + p by omega]
          exact this
theorem fits_zero {i j : Nat} (h : fits i j = false) : i ≠ 0 ∧ j ≠ 0 := by
  unfold fits at h
  simp only [Bool.or_eq_false_iff, beq_eq_false_iff_ne] at h
  exact ⟨h.1.1.1.1, h.1.1.1.2⟩
theorem dyn_pairs {ops : Array Oper} {ts' ts : List Tk} {n m : Nat} (x : TksOk n ops.toList ts m) (hm : Match ops.toList ts' ts) (h : dynPairs (befores ops.toList []) ops 0 ops.toList ts' = true) : pairsOk ops (befores ops.toList []) (tagged 0 ts) = true := by
  refine pairs_of ops.toList ts n m 0 x (getD_of_list ops) fun p q op oq tp tq hpq h1 h2 h3 h4 => ?_
  obtain ⟨tp', g1, g2⟩ := hm.get p op tp h1 h3
  obtain ⟨tq', g3, g4⟩ := hm.get q oq tq h2 h4
  have := dynPairs_at _ _ 0 h p q op oq tp' tq' hpq h1 h2 g1 g3
  unfold dynPair at this
  simp only [Bool.or_eq_true, Bool.and_eq_true, Bool.not_eq_true'] at this
  rcases this with g | ⟨gs, g⟩
  · exact .inl g
  · refine .inr ⟨?_, gs⟩
    cases hf : fits (kind op.op) (kind oq.op) with
    | true => exact .inl rfl
    | false =>
      rw [hf] at g
      obtain ⟨z1, z2⟩ := fits_zero hf
      rcases g2 with g2 | g2
      · exact absurd g2 z1
      · rcases g4 with g4 | g4
        · exact absurd g4 z2
        · subst g2 g4
          exact .inr (by rw [← clash3_eq]; simpa using g)

section
variable {P : Program} {kn : List FuncId} {rec : FuncId → Array Value → M Value} (hrec : ∀ f args h n v h1 n1 L, rec f args h n = some ⟨v, h1, n1, L⟩ → Does (fun fuel => evCall P kn fuel f args) h n v h1 n1 L)
set_option linter.unusedSectionVars false
include hrec
theorem opsT_ok {β : Type} {nt : Nat} {ops : Array Oper} : ∀ (l : List Oper) (_ : ∀ o ∈ l, ∀ d, o.dst = some d → d < nt ∧ d < 1023) (i : Nat) (_ : ∀ q o, l[q]? = some o → ops[i + q]? = some o) (idl : List Nat) (s : Fr) (s1 : S) (_ : Idle ops s1 idl) (acc : List Tk) (k : Fr → List Tk → M β) (h : H) (n : Nat) (r : Out β), Sub s s1 → opsT P rec ops l i idl s acc k h n = some r →
    ∃ s' y ts h1 n1 L1 L2, Does (fun fuel => evOpers P (evCall P kn fuel) nt ops l s1) h n y h1 n1 L1 ∧ Sub s' y.1 ∧ k s' (acc.reverse ++ ts) h1 n1 = some ⟨r.val, r.h, r.n, L2⟩ ∧ r.log = L1 ++ L2 ∧ Match l ts y.2 := by
  intro l
  induction l with
  | nil =>
    intro _ i _ idl s s1 _ acc k h n r hs hr
    exact ⟨s, (s1, []), [], h, n, [], r.log, Does.of rfl, hs, by rw [List.append_nil]; exact hr, rfl, trivial⟩
  | cons o l ih =>
    intro hd i hpos idl s s1 hidl acc k h n r hs hr
    have hd0 := hd o (by simp)
    have hdl : ∀ o ∈ l, ∀ d, o.dst = some d → d < nt ∧ d < 1023 := fun o' ho => hd o' (by simp [ho])
    have hio : ops[i]? = some o := by have := hpos 0 o rfl; rwa [Nat.add_zero] at this
    have hpl : ∀ q o', l[q]? = some o' → ops[i + 1 + q]? = some o' := fun q o' hq => by
      have := hpos (q + 1) o' (by simpa using hq)
      rwa [show i + 1 + q = i + (q + 1) by omega]
    have go : ∀ (s : Fr), Sub s s1 → Region.wanted o (yields ops s1) = true →
        (match kind o.op with
          | 0 => opQ P rec s o fun v => opsT P rec ops l (i + 1) (dropI ops o.dst idl) (putF s o.dst v) (⟨0, 0, []⟩ :: acc) k
          | _ => (timed (opQ P rec s o M.ret)).bind fun x => opsT P rec ops l (i + 1) (dropI ops o.dst idl) (putF s o.dst x.1) (x.2 :: acc) k) h n = some r →
        ∃ s' y ts h1 n1 L1 L2, Does (fun fuel => evOpers P (evCall P kn fuel) nt ops (o :: l) s1) h n y h1 n1 L1 ∧ Sub s' y.1 ∧ k s' (acc.reverse ++ ts) h1 n1 = some ⟨r.val, r.h, r.n, L2⟩ ∧ r.log = L1 ++ L2 ∧ Match (o :: l) ts y.2 := by
      intro s hs hw hr
      by_cases hk : kind o.op = 0
      · simp only [hk] at hr
        obtain ⟨v, h1, n1, L1, L2, e1, e2, e3⟩ := val_step hrec hw hs hr
        obtain ⟨s2, hp, hs2⟩ := hs.put hd0 v
        obtain ⟨s', y, ts, h3, n3, L3, L4, e4, e5, e6, e7, e8⟩ := ih hdl _ hpl _ _ s2 (Idle.put hrec hidl hp) _ k h1 n1 _ hs2 e2
        refine ⟨s', _, (⟨0, 0, []⟩ : Tk) :: ts, h3, n3, _, L4, opers_step hrec e1 hp e4, e5, ?_, by rw [e3]; simp only at e7; rw [e7, List.append_assoc], ?_⟩
        · rw [List.reverse_cons, List.append_assoc] at e6
          exact e6
        · exact ⟨.inl hk, e8⟩
      · have hr : ((timed (opQ P rec s o M.ret)).bind fun x => opsT P rec ops l (i + 1) (dropI ops o.dst idl) (putF s o.dst x.1) (x.2 :: acc) k) h n = some r := by
          revert hr
          generalize kind o.op = kk at hk
          intro hr
          match kk, hk with
          | kk + 1, _ => exact hr
        obtain ⟨c, hc, nc, Lc⟩ := r
        obtain ⟨x, h1, n1, L1, L2, e1, e2, e3⟩ := bind_some hr
        obtain ⟨g1, g2⟩ := timed_inv e1
        obtain ⟨v, h1', n1', L1', L2', q1, q2, q3⟩ := val_step hrec hw hs g1
        obtain ⟨rfl, rfl, rfl, rfl⟩ := ret_run_inv q2
        simp only [List.append_nil] at q3
        subst q3
        obtain ⟨s2, hp, hs2⟩ := hs.put hd0 x.1
        obtain ⟨s', y, ts, h3, n3, L3, L4, e4, e5, e6, e7, e8⟩ := ih hdl _ hpl _ _ s2 (Idle.put hrec hidl hp) _ k _ _ _ hs2 e2
        refine ⟨s', _, x.2 :: ts, h3, n3, _, L4, opers_step hrec q1 hp e4, e5, ?_, by rw [e3]; simp only at e7; rw [e7, List.append_assoc], ?_⟩
        · rw [List.reverse_cons, List.append_assoc] at e6
          exact e6
        · exact ⟨.inr g2, e8⟩
    have idle : ∀ (s : Fr), Sub s s1 → Region.wanted o (yields ops s1) = false → (passT (kind o.op) fun tk => opsT P rec ops l (i + 1) (i :: dropI ops o.dst idl) (putF s o.dst undef) (tk :: acc) k) h n = some r →
        ∃ s' y ts h1 n1 L1 L2, Does (fun fuel => evOpers P (evCall P kn fuel) nt ops (o :: l) s1) h n y h1 n1 L1 ∧ Sub s' y.1 ∧ k s' (acc.reverse ++ ts) h1 n1 = some ⟨r.val, r.h, r.n, L2⟩ ∧ r.log = L1 ++ L2 ∧ Match (o :: l) ts y.2 := by
      intro s hs hw hr
      obtain ⟨c, hc, nc, Lc⟩ := r
      have hr : ∃ tk, (kind o.op = 0 ∨ tk = ⟨n, n, []⟩) ∧ opsT P rec ops l (i + 1) (i :: dropI ops o.dst idl) (putF s o.dst undef) (tk :: acc) k h n = some ⟨c, hc, nc, Lc⟩ := by
        revert hr
        generalize kind o.op = kk
        intro hr
        match kk, hr with
        | 0, hr => exact ⟨_, .inl rfl, hr⟩
        | kk + 1, hr =>
          have hr : ((timed (M.ret undef)).bind fun x => opsT P rec ops l (i + 1) (i :: dropI ops o.dst idl) (putF s o.dst undef) (x.2 :: acc) k) h n = some ⟨c, hc, nc, Lc⟩ := hr
          obtain ⟨x, h1, n1, L1, L2, e1, e2, e3⟩ := bind_some hr
          obtain ⟨g1, g2⟩ := timed_inv e1
          obtain ⟨-, rfl, rfl, rfl⟩ := ret_run_inv g1
          refine ⟨x.2, .inr g2, ?_⟩
          simp only [List.nil_append] at e3
          rw [e3]
          exact e2
      obtain ⟨tk, htk, hr⟩ := hr
      obtain ⟨s2, hp, hs2⟩ := hs.put hd0 undef
      obtain ⟨s', y, ts, h3, n3, L3, L4, e4, e5, e6, e7, e8⟩ := ih hdl _ hpl _ _ s2 (Idle.add hrec hio (Idle.put hrec hidl hp) hp) _ k _ _ _ hs2 hr
      refine ⟨s', _, tk :: ts, h3, n3, _, L4, opers_step hrec (idle_step hrec hw) hp e4, e5, ?_, by simp only at e7; rw [e7]; simp, ?_⟩
      · rw [List.reverse_cons, List.append_assoc] at e6
        exact e6
      · exact ⟨htk, e8⟩
    unfold opsT at hr
    cases hg : o.guard with
    | none =>
      rw [hg] at hr
      exact go s hs (by unfold Region.wanted; rw [hg]) hr
    | some jw =>
      obtain ⟨j, want⟩ := jw
      rw [hg] at hr
      simp only at hr
      cases hI : hasI j idl with
      | true =>
        rw [hI] at hr
        refine idle s hs ?_ hr
        unfold Region.wanted
        rw [hg]
        simp only
        rw [hidl j (hasI_mem hrec hI)]
        rfl
      | false =>
      rw [hI] at hr
      simp only at hr
      cases ht : (ops[j]?).bind (·.dst) with
      | none => rw [ht] at hr; cases hr
      | some t =>
        rw [ht] at hr
        simp only at hr
        obtain ⟨g, hgv, hr⟩ := optK_some hr
        have hget := hs t g hgv
        have hy : ∀ b, g = .bool b → yields ops s1 j = some b := fun b hb => by
          unfold yields
          rw [ht]
          simp only [hget, hb]
        rcases ifV_some hrec hr with ⟨hb, hr⟩ | ⟨hb, hr⟩
        · have hs' : Sub ((t, .bool true) :: s) s1 := hs.cons (by rw [hget, hb])
          cases want with
          | true => exact go _ hs' (by unfold Region.wanted; rw [hg]; simp only; rw [hy _ hb]; rfl) hr
          | false => exact idle _ hs' (by unfold Region.wanted; rw [hg]; simp only; rw [hy _ hb]; rfl) hr
        · have hs' : Sub ((t, .bool false) :: s) s1 := hs.cons (by rw [hget, hb])
          cases want with
          | true => exact idle _ hs' (by unfold Region.wanted; rw [hg]; simp only; rw [hy _ hb]; rfl) hr
          | false => exact go _ hs' (by unfold Region.wanted; rw [hg]; simp only; rw [hy _ hb]; rfl) hr
theorem regK_ok {β : Type} {nt : Nat} {ops : Array Oper} {draw : Bool} (hd : ∀ o ∈ ops.toList, ∀ d, o.dst = some d → d < nt ∧ d < 1023) {s : Fr} {s1 : S} {k : Fr → M β} {h : H} {n : Nat} {r : Out β} (hs : Sub s s1) (hr : regK P rec ops draw s k h n = some r) :
    ∃ s' s2 h1 n1 L1 L2, Does (fun fuel => evRegion P (evCall P kn fuel) nt ops draw s1) h n s2 h1 n1 L1 ∧ Sub s' s2 ∧ k s' h1 n1 = some ⟨r.val, r.h, r.n, L2⟩ ∧ r.log = L1 ++ L2 := by
  have fin : ∀ {y : S × List Tk} {h1 : H} {n1 : Nat} {L1 : List En}, Does (fun fuel => evOpers P (evCall P kn fuel) nt ops ops.toList s1) h n y h1 n1 L1 → (TksOk n ops.toList y.2 n1 → (!draw || (edgesOk ops && pairsOk ops (befores ops.toList []) (tagged 0 y.2))) = true) → Does (fun fuel => evRegion P (evCall P kn fuel) nt ops draw s1) h n y.1 h1 n1 L1 := by
    intro y h1 n1 L1 e1 hc
    have hc := hc (by
      obtain ⟨f0, e⟩ := e1
      exact opers_tks (fun f a => Loc.evCall P kn f0 f a) _ _ _ _ _ _ _ _ (e f0 (Nat.le_refl _)))
    obtain ⟨f0, e⟩ := e1
    refine ⟨f0, fun fuel hf => ?_⟩
    show evRegion P (evCall P kn fuel) nt ops draw s1 h n = _
    unfold evRegion
    have := bind_run (f := fun y : S × List Tk => if (!draw || (edgesOk ops && pairsOk ops (befores ops.toList []) (tagged 0 y.2))) = true then M.ret y.1 else .fail) (e fuel hf) (L2 := []) (b := y.1) (h2 := h1) (n2 := n1) (by rw [if_pos hc]; rfl)
    rw [List.append_nil] at this
    exact this
  unfold regK at hr
  cases hst : (!draw || staticOk ops) with
  | true =>
    simp only [hst] at hr
    obtain ⟨s', y, h1, n1, L1, L2, e1, e2, e3, e4⟩ := opsK_ok hrec ops.toList hd 0 (fun q o hq => by rw [Nat.zero_add, ← Array.getElem?_toList]; exact hq) [] s s1 (fun j hj => by cases hj) k h n r hs hr
    refine ⟨s', y.1, h1, n1, L1, L2, fin e1 fun x => ?_, e2, e3, e4⟩
    simp only [Bool.or_eq_true, Bool.not_eq_true'] at hst
    rcases hst with g | g
    · rw [g]; rfl
    · obtain ⟨g1, g2⟩ := static_pairs x g
      rw [g1, g2]; simp
  | false =>
    simp only [hst] at hr
    cases he : edgesOk ops with
    | false => simp only [he] at hr; cases hr
    | true =>
      simp only [he] at hr
      obtain ⟨s', y, ts, h1, n1, L1, L2, e1, e2, e3, e4, e5⟩ := opsT_ok hrec ops.toList hd 0 (fun q o hq => by rw [Nat.zero_add, ← Array.getElem?_toList]; exact hq) [] s s1 (fun j hj => by cases hj) [] _ h n r hs hr
      simp only [List.reverse_nil, List.nil_append] at e3
      cases hc : dynPairs (befores ops.toList []) ops 0 ops.toList ts with
      | false => rw [hc] at e3; cases e3
      | true =>
        rw [hc] at e3
        exact ⟨s', y.1, h1, n1, L1, L2, fin e1 fun x => by rw [he, dyn_pairs x e5 hc]; simp, e2, e3, e4⟩

def DoesC (kn : List FuncId) (P : Program) (nt : Nat) (c : Code) (s1 : S) (h : H) (n : Nat) (x : Ex × S) (h1 : H) (n1 : Nat) (L : List En) : Prop := ∃ f0, ∀ fr, f0 ≤ fr → ∀ f, f0 ≤ f → evCode P (evCall P kn fr) nt f c s1 h n = some ⟨x, h1, n1, L⟩
def Runs (kn : List FuncId) (P : Program) (nt : Nat) (c : Code) (s1 : S) {β : Type} (k : Ex → Fr → M β) (h : H) (n : Nat) (r : Out β) : Prop :=
  ∃ e s' s2 h1 n1 L1 L2, DoesC kn P nt c s1 h n (e, s2) h1 n1 L1 ∧ Sub s' s2 ∧ k e s' h1 n1 = some ⟨r.val, r.h, r.n, L2⟩ ∧ r.log = L1 ++ L2

theorem codeK_ok {β : Type} {nt : Nat} {G : Hint} {lf : Nat} : ∀ (c : Code) (_ : dstOk nt c = true) (s : Fr) (s1 : S) (k : Ex → Fr → M β) (h : H) (n : Nat) (r : Out β), Sub s s1 → codeK P rec G lf c s k h n = some r → Runs kn P nt c s1 k h n r := by
  intro c
  induction c with
  | skip => intro _ s s1 k h n r hs hr; exact ⟨.normal, s, s1, h, n, [], r.log, ⟨1, fun fr _ f hf => by match f, hf with | f + 1, _ => rfl⟩, hs, hr, rfl⟩
  | label l => intro _ s s1 k h n r hs hr; exact ⟨.normal, s, s1, h, n, [], r.log, ⟨1, fun fr _ f hf => by match f, hf with | f + 1, _ => rfl⟩, hs, hr, rfl⟩
  | region id ops draw =>
    intro hd s s1 k h n r hs hr
    unfold dstOk at hd
    rw [Array.all_eq_true_iff_forall_mem] at hd
    obtain ⟨s', s2, h1, n1, L1, L2, ⟨f0, e1⟩, e2, e3, e4⟩ := regK_ok hrec (fun o ho d hod => by
      have := hd o (by simpa using ho)
      rw [hod] at this
      simpa using this) hs hr
    refine ⟨.normal, s'.keep G.1, s2, h1, n1, L1, L2, ⟨f0 + 1, fun fr hfr f hf => ?_⟩, e2.keep G.1, e3, e4⟩
    match f, hf with
    | f + 1, _ =>
      unfold evCode
      have := bind_run (f := fun s1 => M.ret (Ex.normal, s1)) (e1 fr (by omega)) (L2 := []) (h2 := h1) (n2 := n1) (b := (Ex.normal, s2)) rfl
      rw [List.append_nil] at this
      exact this
  | seq a b iha ihb =>
    intro hd s s1 k h n r hs hr
    unfold dstOk at hd
    simp only [Bool.and_eq_true] at hd
    obtain ⟨e, s', s2, h1, n1, L1, L2, ⟨f0, d1⟩, d2, d3, d4⟩ := iha hd.1 s s1 _ h n r hs hr
    cases e with
    | normal =>
      obtain ⟨e, s3, s4, h3, n3, L3, L4, ⟨f1, q1⟩, q2, q3, q4⟩ := ihb hd.2 s' s2 k h1 n1 _ d2 d3
      refine ⟨e, s3, s4, h3, n3, L1 ++ L3, L4, ⟨max f0 f1 + 1, fun fr hfr f hf => ?_⟩, q2, q3, by rw [d4]; simp only at q4; rw [q4, List.append_assoc]⟩
      match f, hf with
      | f + 1, _ =>
        unfold evCode
        exact bind_run (d1 fr (by omega) f (by omega)) (q1 fr (by omega) f (by omega))
    | ret =>
      refine ⟨.ret, s', s2, h1, n1, L1, L2, ⟨f0 + 1, fun fr hfr f hf => ?_⟩, d2, d3, d4⟩
      match f, hf with
      | f + 1, _ =>
        unfold evCode
        rw [← List.append_nil L1]
        exact bind_run (d1 fr (by omega) f (by omega)) rfl
    | exit i =>
      refine ⟨.exit i, s', s2, h1, n1, L1, L2, ⟨f0 + 1, fun fr hfr f hf => ?_⟩, d2, d3, d4⟩
      match f, hf with
      | f + 1, _ =>
        unfold evCode
        rw [← List.append_nil L1]
        exact bind_run (d1 fr (by omega) f (by omega)) rfl
  | cond c a b iha ihb =>
    intro hd s s1 k h n r hs hr
    unfold dstOk at hd
    simp only [Bool.and_eq_true] at hd
    obtain ⟨v, hv, hr⟩ := optK_some hr
    have hc := hs.evo hv
    rcases ifV_some hrec hr with ⟨rfl, hr⟩ | ⟨rfl, hr⟩
    · obtain ⟨e, s', s2, h1, n1, L1, L2, ⟨f0, d1⟩, d2, d3, d4⟩ := iha hd.1 s s1 k h n r hs hr
      refine ⟨e, s', s2, h1, n1, L1, L2, ⟨f0 + 1, fun fr hfr f hf => ?_⟩, d2, d3, d4⟩
      match f, hf with
      | f + 1, _ =>
        unfold evCode
        simp only [hc, if_true]
        exact d1 fr (by omega) f (by omega)
    · obtain ⟨e, s', s2, h1, n1, L1, L2, ⟨f0, d1⟩, d2, d3, d4⟩ := ihb hd.2 s s1 k h n r hs hr
      refine ⟨e, s', s2, h1, n1, L1, L2, ⟨f0 + 1, fun fr hfr f hf => ?_⟩, d2, d3, d4⟩
      match f, hf with
      | f + 1, _ =>
        unfold evCode
        simp only [hc, Bool.false_eq_true, if_false]
        exact d1 fr (by omega) f (by omega)
  | block id c ih =>
    intro hd s s1 k h n r hs hr
    unfold dstOk at hd
    obtain ⟨e, s', s2, h1, n1, L1, L2, ⟨f0, d1⟩, d2, d3, d4⟩ := ih hd s s1 _ h n r hs hr
    have fin : ∀ e' : Ex, (∀ fr, f0 ≤ fr → ∀ f, f0 ≤ f → evCode P (evCall P kn fr) nt (f + 1) (.block id c) s1 h n = some ⟨(e', s2), h1, n1, L1⟩) → k e' s' h1 n1 = some ⟨r.val, r.h, r.n, L2⟩ → Runs kn P nt (.block id c) s1 k h n r := by
      intro e' hrun hk
      refine ⟨e', s', s2, h1, n1, L1, L2, ⟨f0 + 1, fun fr hfr f hf => ?_⟩, d2, hk, d4⟩
      match f, hf with
      | f + 1, _ => exact hrun fr (by omega) f (by omega)
    cases e with
    | normal => exact fin .normal (fun fr hfr f hf => by unfold evCode; rw [← List.append_nil L1]; exact bind_run (d1 fr hfr f hf) rfl) d3
    | ret => exact fin .ret (fun fr hfr f hf => by unfold evCode; rw [← List.append_nil L1]; exact bind_run (d1 fr hfr f hf) rfl) d3
    | exit i =>
      cases hi : Nat.beq i id with
      | true =>
        have hii : i = id := Nat.eq_of_beq_eq_true hi
        simp only [blockK, hi] at d3
        exact fin .normal (fun fr hfr f hf => by unfold evCode; rw [← List.append_nil L1]; exact bind_run (d1 fr hfr f hf) (by simp only [if_pos hii]; rfl)) d3
      | false =>
        have hii : ¬ i = id := by rintro rfl; rw [Nat.beq_refl] at hi; cases hi
        simp only [blockK, hi] at d3
        exact fin (.exit i) (fun fr hfr f hf => by unfold evCode; rw [← List.append_nil L1]; exact bind_run (d1 fr hfr f hf) (by simp only [if_neg hii]; rfl)) d3
  | loop c ih =>
    intro hd s s1 k h n r hs hr
    have hd' : dstOk nt c = true := by unfold dstOk at hd; exact hd
    have key : ∀ (lf' : Nat) (keys : List Nat) (s : Fr) (s1 : S) (h : H) (n : Nat) (r : Out β), Sub s s1 → loopK (fun s1 k1 => codeK P rec G lf c s1 k1) keys lf' s k h n = some r → Runs kn P nt (.loop c) s1 k h n r := by
      intro lf'
      induction lf' with
      | zero => intro keys s s1 h n r _ hr; cases hr
      | succ lf' ihl =>
        intro keys s s1 h n r hs hr
        unfold loopK at hr
        obtain ⟨e, s', s2, h1, n1, L1, L2, ⟨f0, d1⟩, d2, d3, d4⟩ := ih hd' s s1 _ h n r hs hr
        cases e with
        | normal =>
          obtain ⟨e, s3, s4, h3, n3, L3, L4, ⟨f1, q1⟩, q2, q3, q4⟩ := ihl keys _ s2 h1 n1 _ (d2.keep keys) d3
          refine ⟨e, s3, s4, h3, n3, L1 ++ L3, L4, ⟨max f0 f1 + 1, fun fr hfr f hf => ?_⟩, q2, q3, by rw [d4]; simp only at q4; rw [q4, List.append_assoc]⟩
          match f, hf with
          | f + 1, _ =>
            unfold evCode
            exact bind_run (d1 fr (by omega) f (by omega)) (q1 fr (by omega) f (by omega))
        | ret =>
          refine ⟨.ret, s', s2, h1, n1, L1, L2, ⟨f0 + 1, fun fr hfr f hf => ?_⟩, d2, d3, d4⟩
          match f, hf with
          | f + 1, _ =>
            unfold evCode
            rw [← List.append_nil L1]
            exact bind_run (d1 fr (by omega) f (by omega)) rfl
        | exit i =>
          refine ⟨.exit i, s', s2, h1, n1, L1, L2, ⟨f0 + 1, fun fr hfr f hf => ?_⟩, d2, d3, d4⟩
          match f, hf with
          | f + 1, _ =>
            unfold evCode
            rw [← List.append_nil L1]
            exact bind_run (d1 fr (by omega) f (by omega)) rfl
    exact key lf s.keys s s1 h n r hs hr
  | exit id => intro _ s s1 k h n r hs hr; exact ⟨.exit id, _, s1, h, n, [], r.log, ⟨1, fun fr _ f hf => by match f, hf with | f + 1, _ => rfl⟩, hs.out G id, hr, rfl⟩
  | ret => intro _ s s1 k h n r hs hr; exact ⟨.ret, _, s1, h, n, [], r.log, ⟨1, fun fr _ f hf => by match f, hf with | f + 1, _ => rfl⟩, hs.keep _, hr, rfl⟩
  | rangeFunc _ _ _ _ => intro _ s s1 k h n r hs hr; cases hr
  | scope _ => intro _ s s1 k h n r hs hr; cases hr
  | goto _ => intro _ s s1 k h n r hs hr; cases hr
  | refuse _ => intro _ s s1 k h n r hs hr; cases hr
end

theorem resK_ok {P : Program} {s : Fr} {s1 : S} (hs : Sub s s1) : ∀ (l : List ResultVar) (k : List Value → M Value) (h : H) (n : Nat) (r : Out Value), resK P s l k h n = some r → ∃ vs h1 n1 L1 L2, evResults P s1 l h n = some ⟨vs, h1, n1, L1⟩ ∧ k vs h1 n1 = some ⟨r.val, r.h, r.n, L2⟩ ∧ r.log = L1 ++ L2 := by
  intro l
  induction l with
  | nil => intro k h n r hr; exact ⟨[], h, n, [], r.log, rfl, hr, rfl⟩
  | cons x l ih =>
    intro k h n r hr
    cases x with
    | tmp t =>
      obtain ⟨v, hv, hr⟩ := optK_some hr
      obtain ⟨vs, h1, n1, L1, L2, e1, e2, e3⟩ := ih _ h n r hr
      refine ⟨v :: vs, h1, n1, L1, L2, ?_, e2, e3⟩
      unfold evResults
      rw [hs t v hv, ← List.append_nil L1]
      exact bind_run e1 rfl
    | cell a t =>
      obtain ⟨v, hv, hr⟩ := optK_some hr
      obtain ⟨c, hc, nc, Lc⟩ := r
      obtain ⟨u, h1, n1, L1, L2, e1, e2, e3⟩ := bind_some (loadQ_sub hr)
      obtain ⟨L', e7, e8⟩ := inside_inv e1
      obtain ⟨rfl, _⟩ := Q1.load P t v _ _ _ _ _ _ e7
      rw [List.filter_eq_self.2 (fun x _ => by simp; omega)] at e8
      subst e8
      have e1 := e7
      obtain ⟨vs, h3, n3, L3, L4, e4, e5, e6⟩ := ih _ h1 n1 _ e2
      refine ⟨u :: vs, h3, n3, L1 ++ L3, L4, ?_, e5, by rw [e3]; simp only at e6; rw [e6, List.append_assoc]⟩
      unfold evResults
      rw [hs a v hv]
      refine bind_run e1 ?_
      rw [← List.append_nil L3]
      exact bind_run e4 rfl
theorem argF_sub : ∀ (l : List Value) (i : Nat) (s : S), i + l.length < 1023 → Sub (argF i l) (argS i l s) := by
  intro l
  induction l with
  | nil => intro i s _; exact Sub.nil _
  | cons v l ih =>
    intro i s h
    simp only [List.length_cons] at h
    show Sub ((i, v) :: argF (i + 1) l) (argS (i + 1) l (s.put i v))
    refine (ih (i + 1) (s.put i v) (by omega)).cons ?_
    rw [argS_get _ _ _ _ (by omega), if_neg (by omega), S.get_put _ _ _ _ (by omega), if_pos rfl]
theorem callN_ok {P : Program} {kn : List FuncId} (hd : okDsts P = true) {gt : Nat → Hint} {lf : Nat} : ∀ (d : Nat) (f : FuncId) (args : Array Value) (h : H) (n : Nat) (v : Value) (h1 : H) (n1 : Nat) (L : List En), evCallN kn P gt lf d f args h n = some ⟨v, h1, n1, L⟩ → Does (fun fuel => evCall P kn fuel f args) h n v h1 n1 L := by
  intro d
  induction d with
  | zero => intro f args h n v h1 n1 L hr; cases hr
  | succ d ih =>
    intro f args h n v h1 n1 L hr
    unfold evCallN at hr
    cases hkn : kn.contains f with
    | true =>
      rw [hkn] at hr
      simp only at hr
      cases hnat : natOf f with
      | some k =>
        rw [hnat] at hr
        refine ⟨1, fun fuel hf => ?_⟩
        match fuel, hf with
        | fuel + 1, hf =>
          show evCall P kn (fuel + 1) f args h n = _
          unfold evCall
          rw [if_pos hkn, hnat]
          exact hr
      | none =>
      rw [hnat] at hr
      simp only at hr
      cases hz : (decide (args.size = 0) && noPar P f) with
      | false => rw [hz] at hr; cases hr
      | true =>
        rw [hz] at hr
        refine ⟨1, fun fuel hf => ?_⟩
        match fuel, hf with
        | fuel + 1, hf =>
          show evCall P kn (fuel + 1) f args h n = _
          unfold evCall
          rw [if_pos hkn, hnat]
          show (if (decide (args.size = 0) && noPar P f) = true then _ else _ : M Value) h n = _
          rw [if_pos hz]
          exact hr
    | false =>
    rw [hkn] at hr
    simp only at hr
    unfold evStep at hr
    cases hfn : P.funcs[f]? with
    | none => rw [hfn] at hr; cases hr
    | some fn =>
      rw [hfn] at hr
      simp only at hr
      cases hc : fn.body with
      | none => rw [hc] at hr; cases hr
      | some c =>
        rw [hc] at hr
        simp only at hr
        cases hcond : (decide (args.size ≤ fn.ntmps) && decide (fn.ntmps < 1000)) with
        | false => rw [hcond] at hr; cases hr
        | true =>
          rw [hcond] at hr
          simp only at hr
          have hcond' := hcond
          simp only [Bool.and_eq_true, decide_eq_true_eq] at hcond
          obtain ⟨L', hr, hL⟩ := inside_inv hr
          have hdc : dstOk fn.ntmps c = true := by
            unfold okDsts at hd
            rw [Array.all_eq_true_iff_forall_mem] at hd
            have := hd fn (Array.mem_of_getElem? hfn)
            rw [hc] at this
            exact this
          obtain ⟨e, s', s2, h2, n2, L1, L2, ⟨f0, d1⟩, d2, d3, d4⟩ := codeK_ok ih c hdc _ (argS 0 args.toList .nil) _ h n _ (argF_sub _ 0 _ (by simp; omega)) hr
          have fin : ∀ (hn : e = .normal ∨ e = .ret), resK P s' fn.results.toList outK h2 n2 = some ⟨v, h1, n1, L2⟩ → Does (fun fuel => evCall P kn fuel f args) h n v h1 n1 L := by
            intro hn hres
            obtain ⟨vs, h3, n3, L3, L4, r1, r2, r3⟩ := resK_ok d2 _ _ _ _ _ hres
            simp only at r2 r3
            unfold outK at r2
            obtain ⟨rfl, rfl, rfl, rfl⟩ := ret_run_inv r2
            rw [List.append_nil] at r3
            subst r3
            simp only at d4
            refine ⟨f0 + 1, fun fuel hf => ?_⟩
            match fuel, hf with
            | fuel + 1, hf =>
              show evCall P kn (fuel + 1) f args h n = _
              unfold evCall
              rw [if_neg (by rw [hkn]; simp)]
              simp only [hfn, hc]
              rw [if_pos hcond']
              rw [hL, d4]
              refine inside_run (bind_run (d1 fuel (by omega) fuel (by omega)) ?_)
              rcases hn with rfl | rfl
              · show ((evResults P s2 fn.results.toList).bind _) h2 n2 = _
                rw [← List.append_nil L2]
                exact bind_run r1 rfl
              · show ((evResults P s2 fn.results.toList).bind _) h2 n2 = _
                rw [← List.append_nil L2]
                exact bind_run r1 rfl
          cases e with
          | normal => exact fin (.inl rfl) d3
          | ret => exact fin (.inr rfl) d3
          | exit i => cases d3
theorem call2_ok {P : Program} (hd : okDsts P = true) {gt : Nat → Hint} {lf : Nat} (d : Nat) (f : FuncId) (args : Array Value) (h : H) (n : Nat) (v : Value) (h1 : H) (n1 : Nat) (L : List En) (e : evCall2 P gt lf d f args h n = some ⟨v, h1, n1, L⟩) : Does (fun fuel => evCall P KN fuel f args) h n v h1 n1 L := callN_ok hd d f args h n v h1 n1 L e

end Go.Proofs.YtmjolmggelkjlaaGreat.Ev
