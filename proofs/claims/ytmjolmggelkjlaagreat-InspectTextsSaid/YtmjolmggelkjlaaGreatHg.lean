/- The third form's operations, and that they yield what the second one's do. No program in sight. -/
import Derived.Test.YtmjolmggelkjlaaGreatHf
namespace Go.Proofs.YtmjolmggelkjlaaGreat.Ev
set_option linter.unusedVariables false
set_option linter.unusedSimpArgs false
open Go Go.RowKit

noncomputable section
variable {β : Type} (P : Program)
def unQ (op : UnOp) (x : Value) (k : Value → M β) : M β := match op with
  | .not => knt x k
  | .neg => kng x k
  | .xor => knx x k
  | _ => .fail
def convQ (src dst : TypeId) (x : Value) (k : Value → M β) : M β := match toStr? (P.underlying src) (P.underlying dst) with
  | some e => match u8? P e with
    | true => kts x k
    | false => .fail
  | none => match toBy2? (P.underlying src) (P.underlying dst) with
    | some e => match u8? P e && size? P e == some 1 with
      | true => ktb e x k
      | false => .fail
    | none => match P.underlying src with
      | some _ => match P.underlying dst with
        | some (.int kd) => kcv kd x k
        | some .string => kid x k
        | _ => .fail
      | none => .fail
def loadQ (t : TypeId) (a : Value) (k : Value → M β) : M β := match agg? P t with
  | some true => match size? P t with
    | some sz => klg sz a k
    | none => .fail
  | some false => kld a k
  | none => .fail
def storeQ (t : TypeId) (a x : Value) (k : Value → M β) : M β := match size? P t with
  | some sz => match agg? P t with
    | some true => ksg sz a x k
    | some false => match Nat.beq sz 1 with
      | true => kst a x k
      | false => .fail
    | none => .fail
  | none => .fail
def allocQ (e : TypeId) (k : Value → M β) : M β := match zero? P e with
  | some z => kal e (cellsL z) k
  | none => .fail
def boxQ (e : TypeId) (x : Value) (k : Value → M β) : M β := match size? P e with
  | some _ => kbx e x k
  | none => .fail
def placeK (pl : Nat → Option (Nat × Nat)) : List (Nat × Value) → Option (List (Nat × Nat × Value))
  | [] => some []
  | q :: r => match pl q.1 with
    | some p => match placeK pl r with
      | some l => some ((p.1, p.2, q.2) :: l)
      | none => none
    | none => none
def buildQ (t : TypeId) (ps : List (Nat × Value)) (k : Value → M β) : M β := match zero? P t with
  | some z => match P.underlying t with
    | some (.struct fs) => match fs.all fun f => (size? P f.type).isSome with
      | true => optK (placeK (placeOf P fs) ps) fun qs => kbd (cellsL z) qs k
      | false => .fail
    | _ => .fail
  | none => .fail
def lone : Nat → List (Nat × Value) → Option Value
  | 1, [(0, v)] => some v
  | _, _ => none
def bsQ (t : TypeId) (len : Nat) (ps : List (Nat × Value)) (k : Value → M β) : M β := match P.underlying t with
  | some (.slice e) => match size? P e with
    | some sz => match zero? P e with
      | some z => match Nat.beq len 0 && ps.isEmpty with
        | true => kbs e [] 0 [] k
        | false => match Nat.ble 1 (len * sz) && Nat.ble (len * sz) 65536 && Nat.beq (lenV (cellsL z)) sz with
          | true => match lone len ps with
            | some v => kb1 e sz v k
            | none => optK (placeK (fun i => some (i * sz, sz)) ps) fun qs => kbs e (catV (cellsL z) len) len qs k
          | false => .fail
      | none => .fail
    | none => .fail
  | _ => .fail
def makeQ (t : TypeId) (l c : Value) (k : Value → M β) : M β := match P.underlying t with
  | some (.slice e) => match P.info? e with
    | some ie => match zero? P e with
      | some z => match Nat.ble ie.bytes 64 && Nat.beq (lenV (cellsL z)) ie.size && Nat.ble 1 ie.size with
        | true => kmk e (cellsL z) l c k
        | false => .fail
      | none => .fail
    | none => .fail
  | _ => .fail
def sliceQ (t : TypeId) (x : Value) (lo hi mx : Option Value) (k : Value → M β) : M β := match mx with
  | some _ => .fail
  | none => match P.underlying t with
    | some .string => ksx x lo hi k
    | some (.slice e) => match size? P e with
      | some sz => ksc e sz x lo hi k
      | none => .fail
    | _ => .fail
def faQ (t : TypeId) (x : Value) (f : Nat) (k : Value → M β) : M β := match P.underlying t with
  | some (.struct fs) => match fs[f]? with
    | some fd => match size? P fd.type with
      | some (_ + 1) => kfa fd.offset x k
      | _ => .fail
    | none => .fail
  | _ => .fail
def fieldQ (t : TypeId) (x : Value) (f : Nat) (k : Value → M β) : M β := match P.underlying t with
  | some (.struct fs) => match fs[f]? with
    | some fd => match agg? P fd.type with
      | some true => match size? P fd.type with
        | some m => kfg fd.offset m x k
        | none => .fail
      | some false => kfd fd.offset x k
      | none => .fail
    | none => .fail
  | _ => .fail
def ixQ (t : TypeId) (x ix : Value) (k : Value → M β) : M β := match P.underlying t with
  | some (.slice e) => match size? P e with
    | some sz => match Nat.beq sz 1 with
      | true => kix x ix k
      | false => kiy sz x ix k
    | none => .fail
  | some (.array len e) => match size? P e with
    | some sz => match Nat.beq sz 1 with
      | true => kia len x ix k
      | false => kib len sz x ix k
    | none => .fail
  | _ => .fail
def indexQ (t : TypeId) (x ix : Value) (k : Value → M β) : M β := match P.underlying t with
  | some .string => kit x ix k
  | some (.array len e) => match agg? P e with
    | some false => match size? P e with
      | some sz => match Nat.beq sz 1 with
        | true => kiv len x ix k
        | false => .fail
      | none => .fail
    | _ => .fail
  | _ => .fail
def lenQ (ats : Array TypeId) (vs : List Value) (k : Value → M β) : M β := match ats[0]? with
  | some t => match vs with
    | [x] => match P.underlying t with
      | some (.slice _) => kln x k
      | some .string => klx x k
      | _ => .fail
    | _ => .fail
  | none => .fail
def minQ (vs : List Value) (k : Value → M β) : M β := match vs with
  | [x, y] => kmi x y k
  | [x, y, z, u, v, w] => km6 x y z u v w k
  | _ => .fail
def maxQ (vs : List Value) (k : Value → M β) : M β := match vs with
  | [x, y] => kma x y k
  | _ => .fail
def appK (t : TypeId) (s x : Value) (k : Value → M β) : M β := match P.underlying t with
  | some (.slice e) => match P.info? e with
    | some ie => match zero? P e with
      | some z => match Nat.ble ie.bytes 64 && Nat.beq (lenV (cellsL z)) ie.size && Nat.ble 1 ie.size with
        | true => kap e ie.size s x k
        | false => .fail
      | none => .fail
    | none => .fail
  | _ => .fail
def copyQ (t : TypeId) (d s : Value) (k : Value → M β) : M β := match P.underlying t with
  | some (.slice e) => match size? P e with
    | some sz => kcp sz d s k
    | none => .fail
  | _ => .fail
variable (rec : FuncId → Array Value → M Value)
def callQ (s : Fr) (c : Call) (vs : List Value) (k : Value → M β) : M β := match c.callee with
  | .value (.func g) => match hasBody P g with
    | true => kcl rec g vs k
    | false => .fail
  | .value f => optK (evo s f) fun fv => callV P rec fv vs k
  | .builtin .append => optK (app? P c.argTypes vs) fun q => appK P q.1 q.2.1 q.2.2 k
  | .builtin .copy => optK (cpy? c.argTypes vs) fun q => copyQ P q.1 q.2.1 q.2.2 k
  | .builtin .len => lenQ P c.argTypes vs k
  | .builtin .min => minQ vs k
  | .builtin .max => maxQ vs k
  | _ => .fail
def opQ (s : Fr) (o : Oper) (k : Value → M β) : M β :=
  match o.op with
  | .move x | .assign x => optK (evo s x) k
  | .pick c a b => optK (evo s c) fun c => optK (evo s a) fun a => optK (evo s b) fun b => kpk c a b k
  | .alloc e => allocQ P e k
  | .box e x => optK (evo s x) fun x => boxQ P e x k
  | .build t parts => evosK s (parts.toList.map (·.2)) fun vs => buildQ P t ((parts.toList.map (·.1)).zip vs) k
  | .buildSlice t len parts => evosK s (parts.toList.map (·.2)) fun vs => bsQ P t len ((parts.toList.map (·.1)).zip vs) k
  | .load t a => optK (evo s a) fun a => loadQ P t a k
  | .store t a x => optK (evo s a) fun a => optK (evo s x) fun x => storeQ P t a x k
  | .nilCheck x => optK (evo s x) fun x => knn x k
  | .binOp op t x y _ => optK (evo s x) fun x => optK (evo s y) fun y => binQ P op t x y k
  | .unOp op _ x => optK (evo s x) fun x => unQ op x k
  | .convert src dst x => optK (evo s x) fun x => convQ P src dst x k
  | .makeFunc fn a b => evosK s a.toList fun a => evosK s b.toList fun b => k (.func fn a.toArray b.toArray)
  | .makeSlice t l c => optK (evo s l) fun l => optK (evo s c) fun c => makeQ P t l c k
  | .slice t x lo hi mx => optK (evo s x) fun x => evoK s lo fun lo => evoK s hi fun hi => evoK s mx fun mx => sliceQ P t x lo hi mx k
  | .fieldAddr t x f => optK (evo s x) fun x => faQ P t x f k
  | .field t x f => optK (evo s x) fun x => fieldQ P t x f k
  | .indexAddr t x ix => optK (evo s x) fun x => optK (evo s ix) fun ix => ixQ P t x ix k
  | .index t x ix => optK (evo s x) fun x => optK (evo s ix) fun ix => indexQ P t x ix k
  | .extract t i => optK (evo s t) fun t => kex t i k
  | .call c => evosK s c.args.toList fun vs => callQ P rec s c vs k
  | _ => .fail
end

section
variable {β : Type} {P : Program} {t : TypeId} {x y a : Value} {k : Value → M β} {h : H} {n : Nat} {r : Out β}
theorem un_xor {P : Program} {p : Nat} (hp : p ≤ 4294967295) : un2 P .xor (.int .u32 (.ofNat p)) = some (.int .u32 (.ofNat (Nat.sub 4294967295 p))) := by
  have e : Op.unary .xor (.int .u32 (.ofNat p)) = pure (.int .u32 (IntKind.u32.wrap (BitVec.ofInt 32 4294967295 ^^^ BitVec.ofInt 32 (Int.ofNat p)).toNat)) := rfl
  have e1 : (BitVec.ofInt 32 4294967295 ^^^ BitVec.ofInt 32 (Int.ofNat p)).toNat = 4294967295 - p := by
    have h1 : BitVec.ofInt 32 4294967295 = BitVec.allOnes 32 := by decide
    rw [h1, BitVec.allOnes_xor, BitVec.toNat_not]
    have : (BitVec.ofInt 32 (Int.ofNat p)).toNat = p := by
      show (BitVec.ofInt 32 (p : Int)).toNat = p
      rw [BitVec.ofInt_natCast, BitVec.toNat_ofNat]
      exact Nat.mod_eq_of_lt (by omega)
    rw [this]
  have e2 : IntKind.u32.wrap ((4294967295 - p : Nat) : Int) = ((4294967295 - p : Nat) : Int) := IntWalk.u32_in _ (by omega)
  unfold un2 plainS
  rw [e, e1, e2]
  rfl
theorem unQ_sub {op : UnOp} (hr : unQ op x k h n = some r) : optK (un2 P op x) k h n = some r := by
  unfold unQ at hr
  split at hr
  · unfold knt at hr
    split at hr
    · exact opt_of rfl hr
    · cases hr
  · unfold kng at hr
    split at hr
    · rename_i j p
      exact opt_of (v := .int j (j.wrap (0 - p))) rfl (by rw [← fwrap_eq, ← isub_eq]; exact hr)
    · cases hr
  · unfold knx at hr
    split at hr
    · rename_i p
      cases hp : Nat.ble p 4294967295 with
      | false => simp only [hp] at hr; cases hr
      | true =>
        simp only [hp] at hr
        exact opt_of (un_xor (Nat.le_of_ble_eq_true hp)) hr
    · cases hr
  · cases hr
theorem ret_of {v : Value} (hr : k v h n = some r) : ((inside (M.ret v)).bind k) h n = some r := by
  obtain ⟨c, h2, n2, L⟩ := r
  exact bind_run (L1 := []) rfl hr
theorem kts_sub (hr : kts x k h n = some r) : ((inside (evToStr x)).bind k) h n = some r := by
  unfold kts at hr
  split at hr
  · rename_i b off len c
    refine ins_of (m := (rdN3 b off len).bind fun vs => match bytesL vs with
    | some l => .ret (.string ⟨⟨l⟩⟩)
    | none => .fail) ?_ hr
    have := congrFun evToStr3_eq (.slice (some ⟨b, off, none⟩) len c)
    exact this
  · exact ret_of hr
  · cases hr
theorem ktb_sub {e : TypeId} (hr : ktb e x k h n = some r) : ((inside (toBytes2 e x)).bind k) h n = some r := by
  unfold ktb at hr
  split at hr
  · rename_i l
    cases hl : Nat.ble (lenB l) 1099511627776 with
    | false => simp only [hl] at hr; cases hr
    | true =>
      simp only [hl] at hr
      refine ins_of ?_ hr
      have := Nat.le_of_ble_eq_true hl
      rw [lenB_eq] at this ⊢
      unfold toBytes2 evToBytes
      rw [newB3_eq]
      have hs : (⟨⟨l⟩⟩ : ByteArray).size = l.length := rfl
      simp only [hs]
      rw [if_pos this]
      simp
  · cases hr
theorem convQ_sub {src dst : TypeId} (hr : convQ P src dst x k h n = some r) : conv2 P src dst x k h n = some r := by
  unfold convQ at hr
  unfold conv2
  cases hs : toStr? (P.underlying src) (P.underlying dst) with
  | some e =>
    simp only [hs] at hr ⊢
    cases hu : u8? P e with
    | true => simp only [hu] at hr ⊢; exact kts_sub hr
    | false => simp only [hu] at hr; cases hr
  | none =>
    simp only [hs] at hr ⊢
    cases hb : toBy2? (P.underlying src) (P.underlying dst) with
    | some e =>
      simp only [hb] at hr ⊢
      cases hu : (u8? P e && size? P e == some 1) with
      | true => simp only [hu] at hr ⊢; exact ktb_sub hr
      | false => simp only [hu] at hr; cases hr
    | none =>
      simp only [hb] at hr ⊢
      cases hd : P.underlying src with
      | none => simp only [hd] at hr; cases hr
      | some ds =>
        simp only [hd] at hr
        cases he : P.underlying dst with
        | none => simp only [he] at hr; cases hr
        | some dd =>
          simp only [he] at hr
          cases dd <;> try (cases hr; done)
          · cases x <;> try (cases hr; done)
            · rename_i kd j p
              refine opt_of (v := .int kd (kd.wrap p)) ?_ (by rw [← fwrap_eq]; exact hr)
              unfold plainS
              simp only [scalar]
              have : pureRun P (do pure (Next.value (← Go.convert src dst (.int j p)))) = some (.int kd (kd.wrap p)) := by
                unfold Go.convert
                simp only [bind_assoc]
                rw [pureRun_und hd, pureRun_und he]
                rfl
              rw [this]
          · cases x <;> try (cases hr; done)
            · rename_i s
              refine opt_of (v := .string s) ?_ hr
              unfold plainS
              simp only [scalar]
              have : pureRun P (do pure (Next.value (← Go.convert src dst (.string s)))) = some (.string s) := by
                unfold Go.convert
                simp only [bind_assoc]
                rw [pureRun_und hd, pureRun_und he]
                rfl
              rw [this]
theorem loadQ_sub (hr : loadQ P t a k h n = some r) : ((inside (evLoad P t a)).bind k) h n = some r := by
  unfold loadQ at hr
  cases ha : agg? P t with
  | none => simp only [ha] at hr; cases hr
  | some b =>
    cases b with
    | false =>
      simp only [ha] at hr
      unfold kld at hr
      split at hr
      · refine ins_of ?_ hr
        rw [rd3_eq]
        unfold evLoad
        simp only [ha]
      · cases hr
    | true =>
      simp only [ha] at hr
      cases hs : size? P t with
      | none => simp only [hs] at hr; cases hr
      | some sz =>
        simp only [hs] at hr
        unfold klg at hr
        split at hr
        · refine ins_of ?_ hr
          rw [rdN3_eq]
          unfold evLoad
          simp only [ha, hs]
        · cases hr
theorem storeQ_sub (hr : storeQ P t a x k h n = some r) : ((inside (evStore P t a x)).bind k) h n = some r := by
  unfold storeQ at hr
  cases hs : size? P t with
  | none => simp only [hs] at hr; cases hr
  | some sz =>
    simp only [hs] at hr
    cases ha : agg? P t with
    | none => simp only [ha] at hr; cases hr
    | some b =>
      cases b with
      | true =>
        simp only [ha] at hr
        unfold ksg at hr
        split at hr
        · split at hr
          · rename_i b off _ l
            cases hl : Nat.beq (lenV l) sz with
            | false => simp only [hl] at hr; cases hr
            | true =>
              simp only [hl] at hr
              refine ins_of ?_ hr
              have := Nat.eq_of_beq_eq_true hl
              rw [lenV_eq] at this
              unfold evStore
              have hc : (Value.agg ⟨l⟩).cells = ⟨l⟩ := rfl
              simp only [hs, hc]
              rw [if_pos (by simpa using this), wrN3_eq]
          · cases hr
        · cases hr
      | false =>
        simp only [ha] at hr
        cases h1 : Nat.beq sz 1 with
        | false => simp only [h1] at hr; cases hr
        | true =>
          simp only [h1] at hr
          have := Nat.eq_of_beq_eq_true h1
          subst this
          unfold kst at hr
          split at hr
          · rename_i b off
            cases ho : one x with
            | false => simp only [ho] at hr; cases hr
            | true =>
              simp only [ho] at hr
              refine ins_of ?_ hr
              have hc : x.cells = #[x] := by cases x <;> first | rfl | (simp [one] at ho)
              unfold evStore
              simp only [hs, hc]
              rw [wr3_eq]
              funext hh n
              show _ = ((wrN b off [x]).bind fun _ => M.ret undef) hh n
              unfold wrN wrN M.bind
              cases wr b off x hh n with
              | none => rfl
              | some o => simp [M.ret]
          · cases hr
theorem allocQ_sub {e : TypeId} (hr : allocQ P e k h n = some r) : ((inside (evAlloc P e)).bind k) h n = some r := by
  unfold allocQ at hr
  cases hz : zero? P e with
  | none => simp only [hz] at hr; cases hr
  | some z =>
    simp only [hz] at hr
    refine ins_of ?_ hr
    unfold evAlloc
    rw [hz, newB3_eq, cellsL_eq]
theorem boxQ_sub {e : TypeId} (hr : boxQ P e x k h n = some r) : ((inside (evBox P e x)).bind k) h n = some r := by
  unfold boxQ at hr
  cases hz : size? P e with
  | none => simp only [hz] at hr; cases hr
  | some z =>
    simp only [hz] at hr
    refine ins_of ?_ hr
    unfold evBox
    rw [hz, newB3_eq, cellsL_eq]
theorem fillQ_place {pl : Nat → Option (Nat × Nat)} : ∀ (ps : List (Nat × Value)) (qs : List (Nat × Nat × Value)) (cs : List Value), placeK pl ps = some qs → fillQ cs qs = fill3 pl cs ps
  | [], qs, cs, e => by cases e; rfl
  | (i, v) :: r, qs, cs, e => by
    unfold placeK at e
    unfold fill3
    simp only at e
    cases hp : pl i with
    | none => simp only [hp] at e; cases e
    | some p =>
      obtain ⟨off, sz⟩ := p
      simp only [hp] at e ⊢
      cases hr : placeK pl r with
      | none => simp only [hr] at e; cases e
      | some l =>
        simp only [hr] at e
        cases e
        unfold fillQ
        simp only
        cases Nat.beq (lenV (cellsL v)) sz with
        | false => rfl
        | true =>
          simp only [Bool.true_and]
          cases Nat.ble (Nat.add off (lenV (cellsL v))) (lenV cs) with
          | false => rfl
          | true => exact fillQ_place r l _ hr
theorem buildQ_sub {ps : List (Nat × Value)} (hr : buildQ P t ps k h n = some r) : ((inside (evBuild P t ps)).bind k) h n = some r := by
  unfold buildQ at hr
  cases hz : zero? P t with
  | none => simp only [hz] at hr; cases hr
  | some z =>
    simp only [hz] at hr
    cases hu : P.underlying t with
    | none => simp only [hu] at hr; cases hr
    | some u =>
      simp only [hu] at hr
      cases u <;> try (cases hr; done)
      rename_i fs
      simp only at hr
      cases hf : (fs.all fun f => (size? P f.type).isSome) with
      | false => simp only [hf] at hr; cases hr
      | true =>
        simp only [hf] at hr
        obtain ⟨qs, hq, hr⟩ := optK_some hr
        unfold kbd at hr
        have e := fillQ_place ps qs (cellsL z) hq
        rw [cellsL_eq, fill3_eq] at e
        rw [cellsL_eq, e] at hr
        have : evBuild P t ps = match Instr.fill (placeOf P fs) z.cells ps with
            | some cs => M.ret (.agg cs)
            | none => .fail := by
          unfold evBuild
          simp only [hz, hu, hf, if_true]
          rfl
        rw [this]
        cases hi : Instr.fill (placeOf P fs) z.cells ps with
        | none => rw [hi] at hr; cases hr
        | some cs =>
          rw [hi] at hr
          exact ret_of hr
end
end Go.Proofs.YtmjolmggelkjlaaGreat.Ev
