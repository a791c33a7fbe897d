/- An evaluator of calls on closed arguments: its definitions. No program in sight. -/
import Derived.WalkKit
import Derived.Test.YtmjolmggelkjlaaGreatKn
import Derived.WalkSpells
import Derived.WalkLawsBesides
import Derived.Lib.Bytealg
import Derived.Lib.Bytes
import Derived.Lib.Repeat
namespace Go.Proofs.YtmjolmggelkjlaaGreat.Ev
set_option linter.unusedVariables false
set_option linter.unusedSimpArgs false
open Go

/-- a trie of entries by number -/
inductive Tr (α : Type) where
  | nil
  | node (l : Tr α) (v : Option α) (r : Tr α)
def Tr.get {α : Type} : Nat → Tr α → Nat → Option α
  | 0, _, _ => none
  | _ + 1, .nil, _ => none
  | f + 1, .node l v r, i => if i = 0 then v else if i % 2 = 1 then Tr.get f l (i / 2) else Tr.get f r (i / 2 - 1)
def Tr.set {α : Type} : Nat → Tr α → Nat → Option α → Tr α
  | 0, t, _, _ => t
  | f + 1, .nil, i, a => if i = 0 then .node .nil a .nil else if i % 2 = 1 then .node (Tr.set f .nil (i / 2) a) none .nil else .node .nil none (Tr.set f .nil (i / 2 - 1) a)
  | f + 1, .node l v r, i, a => if i = 0 then .node l a r else if i % 2 = 1 then .node (Tr.set f l (i / 2) a) v r else .node l v (Tr.set f r (i / 2 - 1) a)

/-- a block: its element's type, whether the call owns it, its cells -/
structure AB where
  elem : TypeId
  own : Bool
  cells : List Value
abbrev H := Tr AB
def H.get (h : H) (b : Nat) : Option AB := Tr.get (b + 1) h b
def H.set (h : H) (b : Nat) (x : Option AB) : H := Tr.set (b + 1) h b x
abbrev S := Tr Value
def S.get (s : S) (t : Nat) : Value := (Tr.get 10 s t).getD undef
def S.put (s : S) (t : Nat) (v : Value) : S := Tr.set 10 s t (some v)

/-- what a step touched: was it written, of which block, which cell (none: the block whole) -/
structure En where
  wr : Bool
  b : Nat
  k : Option Nat
structure Out (α : Type) where
  val : α
  h : H
  n : Nat
  log : List En
def M (α : Type) := H → Nat → Option (Out α)
def M.ret {α : Type} (a : α) : M α := fun h n => some ⟨a, h, n, []⟩
def M.fail {α : Type} : M α := fun _ _ => none
def M.lift {α : Type} (o : Option α) : M α := fun h n => match o with | some a => some ⟨a, h, n, []⟩ | none => none
def M.bind {α β : Type} (m : M α) (f : α → M β) : M β := fun h n =>
  match m h n with
  | some ⟨a, h1, n1, L1⟩ => match f a h1 n1 with
    | some ⟨c, h2, n2, L2⟩ => some ⟨c, h2, n2, L1 ++ L2⟩
    | none => none
  | none => none
instance : Monad M where
  pure := M.ret
  bind := M.bind

def rd (b k : Nat) : M Value := fun h n =>
  if b < n then match h.get b with
    | some B => match B.cells[k]? with
      | some v => some ⟨v, h, n, [⟨false, b, some k⟩]⟩
      | none => none
    | none => none
  else none
def one : Value → Bool
  | .agg _ | .tuple _ => false
  | _ => true
def wr (b k : Nat) (v : Value) : M Unit := fun h n =>
  if b < n then match h.get b with
    | some B => if B.own && k < B.cells.length && one v then some ⟨(), h.set b (some { B with cells := B.cells.set k v }), n, [⟨false, b, some k⟩, ⟨true, b, some k⟩]⟩ else none
    | none => none
  else none
def newB (e : TypeId) (cs : List Value) : M Nat := fun h n =>
  if n < n + 1 then some ⟨n, h.set n (some ⟨e, true, cs⟩), n + 1, []⟩ else none
def whole (b : Nat) : M AB := fun h n =>
  if b < n then match h.get b with
    | some B => some ⟨B, h, n, [⟨false, b, none⟩]⟩
    | none => none
  else none
/-- a block's element type (told as a cell that no block has) -/
def hdr (b : Nat) : M TypeId := fun h n =>
  if b < n then match h.get b with
    | some B => some ⟨B.elem, h, n, [⟨false, b, some 1099511627776⟩]⟩
    | none => none
  else none
def kill (b : Nat) : M Unit := fun h n =>
  if b < n then match h.get b with
    | some B => if B.own then some ⟨(), h.set b none, n, [⟨false, b, none⟩, ⟨true, b, none⟩]⟩ else none
    | none => none
  else none
def rdN (b k : Nat) : Nat → M (List Value)
  | 0 => .ret []
  | n + 1 => (rd b k).bind fun v => (rdN b (k + 1) n).bind fun vs => .ret (v :: vs)
def wrN (b k : Nat) : List Value → M Unit
  | [] => .ret ()
  | v :: vs => (wr b k v).bind fun _ => wrN b (k + 1) vs
/-- a part whose own blocks are not told outside -/
def inside {α : Type} (m : M α) : M α := fun h n =>
  match m h n with
  | some ⟨a, h1, n1, L⟩ => some ⟨a, h1, n1, L.filter fun e => !(n ≤ e.b && e.b < n1)⟩
  | none => none

/-! operations -/
def CAP : Nat := 1152921504606846976
def agg? (P : Program) (t : TypeId) : Option Bool :=
  match P.underlying t with
  | some (.struct _) | some (.array _ _) => some true
  | some _ => some false
  | none => none
def size? (P : Program) (t : TypeId) : Option Nat := (P.info? t).map (·.size)
def clean1 : Value → Bool
  | .bool _ | .int _ _ | .float _ _ | .string _ | .pointer none | .nilFunc => true
  | .slice none n c => n ≤ c && c < CAP
  | _ => false
def clean : Value → Bool
  | .agg cs => cs.all clean1
  | .tuple cs => cs.all clean1
  | v => clean1 v
def zero? (P : Program) (t : TypeId) : Option Value := match (P.info? t).bind (·.zero) with
  | some z => if clean z then some z else none
  | none => none
def scalar : Value → Bool
  | .bool _ | .int _ _ | .string _ => true
  | _ => false
/-- a plain step without memory -/
def pureRun (P : Program) : Sem Next → Option Value
  | .pure (.value v) => some v
  | .program k => pureRun P (k P)
  | _ => none
def partOf (P : Program) (t : TypeId) (cs : Array Value) (off : Nat) : Option Value :=
  match agg? P t, size? P t with
  | some true, some n => some (.agg (cs.extract off (off + n)))
  | some false, _ => cs[off]?
  | _, _ => none
def bytesOf : List Value → ByteArray → Option ByteArray
  | [], acc => some acc
  | .int .u8 n :: r, acc => bytesOf r (acc.push (UInt8.ofNat n.toNat))
  | _, _ => none
inductive Nx where
  | val (v : Value)
  | call (f : FuncId) (args : Array Value)

def elemsOf (sz : Nat) (n : Nat) : Value → M (List Value)
  | .slice (some ⟨b, off, none⟩) _ _ => rdN b off (n * sz)
  | .string s => .ret ((s.extract 0 n).data.map fun b => Value.int .u8 b.toNat).toList
  | _ => .fail
def lenOf? : Value → Option Nat
  | .slice _ n _ => some n
  | .string s => some s.size
  | _ => none
def evNew (e : TypeId) (l n : Nat) (old new : List Value) : M Value :=
  (newB e (old ++ new)).bind fun id => .ret (.slice (some ⟨id, 0, none⟩) (l + n) (CAP + (l + n)))
def evAppendTo (e : TypeId) (n sz b off l cap : Nat) (new : List Value) : M Value :=
  if cap < CAP then
    if l + n ≤ cap then (wrN b (off + l * sz) new).bind fun _ => .ret (.slice (some ⟨b, off, none⟩) (l + n) cap)
    else (rdN b off (l * sz)).bind fun old => evNew e l n old new
  else (rdN b off (l * sz)).bind fun old => (kill b).bind fun _ => evNew e l n old new
def evAppend (P : Program) (sType : TypeId) (s x : Value) : M Value :=
  match P.underlying sType with
  | some (.slice e) => match P.info? e, zero? P e, lenOf? x with
    | some ie, some z, some n =>
        if z.cells.size = ie.size && 1 ≤ ie.size && ie.bytes ≤ 64 then
        if n = 0 then (match s with | .slice _ _ _ => .ret s | _ => .fail) else
        match s with
        | .slice none 0 0 => if n ≤ 1099511627776 then (elemsOf ie.size n x).bind fun new => if new.length = n * ie.size && new.all one then evNew e 0 n [] new else .fail else .fail
        | .slice (some ⟨b, off, none⟩) l cap =>
          if l + n ≤ 1099511627776 then
          (hdr b).bind fun e' => if e' = e then
            (elemsOf ie.size n x).bind fun new => if new.length = n * ie.size && new.all one then evAppendTo e n ie.size b off l cap new else .fail
          else .fail
          else .fail
        | _ => .fail
        else .fail
    | _, _, _ => .fail
  | _ => .fail

def boundOf (o : Option Value) (d : Nat) : Option Nat :=
  match o with
  | none => some d
  | some (.int _ i) => if 0 ≤ i then some i.toNat else none
  | _ => none

/-- an equality test with a nil -/
def nilEq : Option TypeDesc → Value → Value → Option Bool
  | some (.pointer _), .pointer none, .pointer b => some b.isNone
  | some (.pointer _), .pointer _, .pointer none => some false
  | some (.slice _), .slice none _ _, .slice b _ _ => some b.isNone
  | some (.slice _), .slice _ _ _, .slice none _ _ => some false
  | some (.func _ _ _), .nilFunc, .nilFunc => some true
  | some (.func _ _ _), .nilFunc, .func _ _ _ => some false
  | some (.func _ _ _), .func _ _ _, .nilFunc => some false
  | _, _, _ => none
/-- an equality test of two structs of numbers, texts, truths: what kinds its cells are -/
def kindOf? : Option TypeDesc → Option Nat
  | some (.int _) => some 0
  | some .string => some 1
  | some .bool => some 2
  | _ => none
def fldKinds (P : Program) : Nat → List Field → Option (List Nat)
  | _, [] => some []
  | i, f :: r => match kindOf? (P.underlying f.type), size? P f.type, fldKinds P (i + 1) r with
    | some d, some 1, some l => if f.name != "_" && f.offset == i then some (d :: l) else none
    | _, _, _ => none
def stKinds (P : Program) (t : TypeId) : Option (List Nat) := match P.underlying t with
  | some (.struct fs) => if P.stoodInHeld t || P.eqGuardType P.depth t then none else fldKinds P 0 fs.toList
  | _ => none
def kindEq : Nat → Value → Value → Option Bool
  | 0, .int k a, .int k' b => if k = k' then some (a == b) else none
  | 1, .string a, .string b => some (a == b)
  | 2, .bool a, .bool b => some (a == b)
  | _, _, _ => none
def kindsEq : List Nat → List Value → List Value → Option Bool
  | [], [], [] => some true
  | d :: ds, x :: l, y :: m => match kindEq d x y, kindsEq ds l m with
    | some a, some b => some (a && b)
    | _, _ => none
  | _, _, _ => none
def stEq (ds : Option (List Nat)) (x y : Value) : Option Bool := match ds, x, y with
  | some ds, .agg xs, .agg ys => kindsEq ds xs.toList ys.toList
  | _, _, _ => none
def anyEq (P : Program) (t : TypeId) (x y : Value) : Option Bool := match nilEq (P.underlying t) x y with
  | some b => some b
  | none => stEq (stKinds P t) x y
def evSlice (P : Program) (t : TypeId) (x : Value) (lo hi mx : Option Value) : Option Value :=
  match P.underlying t, x with
  | some (.slice e), .slice a len cap =>
    match size? P e, boundOf mx cap, boundOf hi len, boundOf lo 0 with
    | some sz, some m, some h, some l =>
      if mx.isSome && !hi.isSome then none else
      if l ≤ h && h ≤ m && m ≤ cap && (cap < CAP || (mx.isNone && h ≤ len)) then
        match a with
        | none => some (.slice none (h - l) (m - l))
        | some ⟨b, off, none⟩ => some (.slice (some ⟨b, if m = l then off else off + l * sz, none⟩) (h - l) (m - l))
        | _ => none
      else none
    | _, _, _, _ => none
  | _, _ => none

def evSliceM (P : Program) (t : TypeId) (x : Value) (lo hi mx : Option Value) : M Value :=
  match x with
  | .slice (some ⟨b, _, none⟩) _ _ => (hdr b).bind fun e' => match P.underlying t with
    | some (.slice e) => if size? P e' = size? P e then M.lift (evSlice P t x lo hi mx) else .fail
    | _ => .fail
  | _ => M.lift (evSlice P t x lo hi mx)
def evAlloc (P : Program) (e : TypeId) : M Value :=
  match zero? P e with
  | some z => (newB e z.cells.toList).bind fun id => .ret (.pointer (some ⟨id, 0, none⟩))
  | none => .fail
def evBox (P : Program) (e : TypeId) (v : Value) : M Value :=
  match size? P e with
  | some _ => (newB e v.cells.toList).bind fun id => .ret (.pointer (some ⟨id, 0, none⟩))
  | none => .fail
def placeOf (P : Program) (fs : Array Field) (i : Nat) : Option (Nat × Nat) := (fs[i]?).bind fun f => (size? P f.type).map fun n => (f.offset, n)
def evBuild (P : Program) (t : TypeId) (parts : List (Nat × Value)) : M Value :=
  match zero? P t, P.underlying t with
  | some z, some (.struct fs) => if fs.all fun f => (size? P f.type).isSome then
      (match Instr.fill (placeOf P fs) z.cells parts with
      | some cs => .ret (.agg cs)
      | none => .fail) else .fail
  | _, _ => .fail
def zeros (z : Value) (n : Nat) : Array Value := (Array.range n).map (z.cells[· % z.cells.size]!)
def evBuildSlice (P : Program) (t : TypeId) (len : Nat) (parts : List (Nat × Value)) : M Value :=
  match P.underlying t with
  | some (.slice e) => match size? P e, zero? P e with
    | some sz, some z =>
      if len = 0 && parts.isEmpty then (newB e []).bind fun id => .ret (.slice (some ⟨id, 0, none⟩) 0 0) else
      if 0 < len * sz && len * sz ≤ 65536 then
        match Instr.fill (fun i => some (i * sz, sz)) (zeros z (len * sz)) parts with
        | some cs => (newB e cs.toList).bind fun id => .ret (.slice (some ⟨id, 0, none⟩) len len)
        | none => .fail
      else .fail
    | _, _ => .fail
  | _ => .fail
def evLoad (P : Program) (t : TypeId) : Value → M Value
  | .pointer (some ⟨b, off, none⟩) => match agg? P t, size? P t with
    | some true, some n => (rdN b off n).bind fun vs => .ret (.agg vs.toArray)
    | some false, _ => rd b off
    | _, _ => .fail
  | _ => .fail
def evStore (P : Program) (t : TypeId) (a x : Value) : M Value :=
  match a with
  | .pointer (some ⟨b, off, none⟩) => match size? P t with
    | some n => if x.cells.size = n then (wrN b off x.cells.toList).bind fun _ => .ret undef else .fail
    | none => .fail
  | _ => .fail
def evNilCheck : Value → M Value
  | .pointer (some a) => .ret (.pointer (some a))
  | .func (.func f) a b => .ret (.func (.func f) a b)
  | _ => .fail
def evToStr : Value → M Value
  | .slice none _ _ => .ret (.string .empty)
  | .slice (some ⟨b, off, none⟩) len _ => (rdN b off len).bind fun vs => match bytesOf vs .empty with
    | some s => .ret (.string s)
    | none => .fail
  | _ => .fail
def evToBytes (e : TypeId) (s : ByteArray) : M Value :=
  if s.size ≤ 1099511627776 then (newB e (s.data.map fun b => Value.int .u8 b.toNat).toList).bind fun id => .ret (.slice (some ⟨id, 0, none⟩) s.size (CAP + s.size)) else .fail
def u8? (P : Program) (e : TypeId) : Bool := match P.underlying e with | some (.int .u8) => true | _ => false
def toStr? : Option TypeDesc → Option TypeDesc → Option TypeId
  | some (.slice e), some .string => some e
  | _, _ => none
def toBy? : Option TypeDesc → Option TypeDesc → Value → Option (TypeId × ByteArray)
  | some .string, some (.slice e), .string s => some (e, s)
  | _, _, _ => none
def evMakeSlice (P : Program) (t : TypeId) (l c : Value) : M Value :=
  match P.underlying t, l, c with
  | some (.slice e), .int _ l, .int _ c => match P.info? e, zero? P e with
    | some ie, some z => if 0 ≤ l && l ≤ c && c ≤ 1099511627776 && ie.bytes ≤ 64 && z.cells.size = ie.size && 1 ≤ ie.size then
        (newB e (zeros z (c.toNat * ie.size)).toList).bind fun id => .ret (.slice (some ⟨id, 0, none⟩) l.toNat c.toNat)
      else .fail
    | _, _ => .fail
  | _, _, _ => .fail
def evFieldAddr (P : Program) (s : TypeId) (x : Value) (f : Nat) : Option Value :=
  match P.underlying s, x with
  | some (.struct fs), .pointer (some ⟨b, off, none⟩) => match fs[f]? with
    | some fd => match size? P fd.type with
      | some n => if n = 0 then none else some (.pointer (some ⟨b, off + fd.offset, none⟩))
      | none => none
    | none => none
  | _, _ => none
def evField (P : Program) (t : TypeId) (x : Value) (f : Nat) : Option Value :=
  match P.underlying t, x with
  | some (.struct fs), .agg cs => match fs[f]? with
    | some fd => partOf P fd.type cs fd.offset
    | none => none
  | _, _ => none
def evIndexAddr (P : Program) (t : TypeId) (x ix : Value) : Option Value :=
  match P.underlying t, x, ix with
  | some (.slice e), .slice (some ⟨b, off, none⟩) len _, .int _ i => match size? P e with
    | some sz => if 0 ≤ i ∧ i < len then some (.pointer (some ⟨b, off + i.toNat * sz, none⟩)) else none
    | none => none
  | some (.array len e), .pointer (some ⟨b, off, none⟩), .int _ i => match size? P e with
    | some sz => if 0 ≤ i ∧ i < len then some (.pointer (some ⟨b, off + i.toNat * sz, none⟩)) else none
    | none => none
  | _, _, _ => none
def evIndex (P : Program) (t : TypeId) (x ix : Value) : Option Value :=
  match P.underlying t, x, ix with
  | some (.array len e), .agg cs, .int _ i => match size? P e with
    | some sz => if 0 ≤ i ∧ i < len then partOf P e cs (i.toNat * sz) else none
    | none => none
  | _, _, _ => none
def evExtract (x : Value) (i : Nat) : Option Value :=
  match x with
  | .tuple vs => vs[i]?
  | _ => none
/-- a step on numbers, texts and truths alone -/
def evPlain (P : Program) (ρ : Operand → Value) (o : Oper) : M Nx :=
  if o.op.operands.all fun x => scalar (ρ x) then (M.lift (pureRun P (execOp ρ o))).bind fun v => if scalar v then .ret (.val v) else .fail else .fail
def isStr : Value → Bool
  | .string _ => true
  | _ => false
def asFn? : Value → Option (FuncId × Array Value × Array Value)
  | .func (.func g) first captured => some (g, first, captured)
  | _ => none
def hasBody (P : Program) (g : FuncId) : Bool := match P.funcs[g]? with
  | some fn => fn.body.isSome
  | none => false
def sliceOrStr (P : Program) (t : TypeId) : Bool := match P.underlying t with
  | some (.slice _) | some .string => true
  | _ => false
def app? (P : Program) (ats : Array TypeId) (args : List Value) : Option (TypeId × Value × Value) := match ats[0]?, ats[1]?, args with
  | some t, some u, [s, x] => if sliceOrStr P u then some (t, s, x) else none
  | _, _, _ => none
/-- 'copy' into a row of the call's own -/
def evCopy (P : Program) (t : TypeId) (d s : Value) : M Value :=
  match P.underlying t with
  | some (.slice e) => match size? P e, d, lenOf? s with
    | some sz, .slice a dl _, some sl =>
      if 0 < Nat.min sl dl then (match a with
        | some ⟨b, off, none⟩ => (elemsOf sz (Nat.min sl dl) s).bind fun vs => (wrN b off vs).bind fun _ => .ret (.int .i64 (Nat.min sl dl))
        | _ => .fail)
      else .ret (.int .i64 0)
    | _, _, _ => .fail
  | _ => .fail
def cpy? (ats : Array TypeId) (args : List Value) : Option (TypeId × Value × Value) := match ats[0]?, args with
  | some t, [d, s] => some (t, d, s)
  | _, _ => none
def sliceLen? (P : Program) (ats : Array TypeId) (args : List Value) : Option Nat := match ats[0]?, args with
  | some t, .slice _ n _ :: _ => (match P.underlying t with | some (.slice _) => some n | _ => none)
  | _, _ => none
def evCallOp (P : Program) (ρ : Operand → Value) (o : Oper) (c : Call) (args : Array Value) : M Nx :=
  match c.callee with
  | .value f => match asFn? (ρ f) with
    | some (g, first, captured) => if hasBody P g then .ret (.call g (first ++ args ++ captured)) else .fail
    | none => .fail
  | .builtin .append => match app? P c.argTypes args.toList with
    | some (t, s, x) => (evAppend P t s x).bind fun v => .ret (.val v)
    | none => .fail
  | .builtin .copy => match cpy? c.argTypes args.toList with
    | some (t, d, s) => (evCopy P t d s).bind fun v => .ret (.val v)
    | none => .fail
  | .builtin .len => match sliceLen? P c.argTypes args.toList with
    | some n => .ret (.val (.int .i64 n))
    | none => evPlain P ρ o
  | .builtin .min | .builtin .max => evPlain P ρ o
  | _ => .fail

def evOp (P : Program) (ρ : Operand → Value) (o : Oper) : M Nx :=
  match o.op with
  | .move x | .assign x => .ret (.val (ρ x))
  | .pick c a b => match ρ c with
    | .bool t => .ret (.val (if t then ρ a else ρ b))
    | _ => .fail
  | .alloc e => (evAlloc P e).bind fun v => .ret (.val v)
  | .box e x => (evBox P e (ρ x)).bind fun v => .ret (.val v)
  | .build t parts => (evBuild P t (parts.toList.map fun (i, x) => (i, ρ x))).bind fun v => .ret (.val v)
  | .buildSlice t len parts => (evBuildSlice P t len (parts.toList.map fun (i, x) => (i, ρ x))).bind fun v => .ret (.val v)
  | .load t a => (evLoad P t (ρ a)).bind fun v => .ret (.val v)
  | .store t a x => (evStore P t (ρ a) (ρ x)).bind fun v => .ret (.val v)
  | .nilCheck x => (evNilCheck (ρ x)).bind fun v => .ret (.val v)
  | .binOp op t x y _ => match anyEq P t (ρ x) (ρ y), op with
    | some v, .eql => .ret (.val (.bool v))
    | some v, .neq => .ret (.val (.bool (!v)))
    | none, _ => evPlain P ρ o
    | _, _ => .fail
  | .unOp _ _ _ => evPlain P ρ o
  | .convert src dst x => match toStr? (P.underlying src) (P.underlying dst) with
    | some e => if u8? P e then (evToStr (ρ x)).bind fun v => .ret (.val v) else .fail
    | none => match toBy? (P.underlying src) (P.underlying dst) (ρ x) with
      | some (e, s) => if u8? P e && size? P e == some 1 then (evToBytes e s).bind fun v => .ret (.val v) else .fail
      | none => evPlain P ρ o
  | .makeFunc fn a b => .ret (.val (.func fn (a.map ρ) (b.map ρ)))
  | .makeSlice t l c => (evMakeSlice P t (ρ l) (ρ c)).bind fun v => .ret (.val v)
  | .slice t x lo hi mx => if isStr (ρ x) then evPlain P ρ o else (evSliceM P t (ρ x) (lo.map ρ) (hi.map ρ) (mx.map ρ)).bind fun v => .ret (.val v)
  | .fieldAddr s x f => (M.lift (evFieldAddr P s (ρ x) f)).bind fun v => .ret (.val v)
  | .field t x f => (M.lift (evField P t (ρ x) f)).bind fun v => .ret (.val v)
  | .indexAddr t x ix => (M.lift (evIndexAddr P t (ρ x) (ρ ix))).bind fun v => .ret (.val v)
  | .index t x ix => if isStr (ρ x) then evPlain P ρ o else (M.lift (evIndex P t (ρ x) (ρ ix))).bind fun v => .ret (.val v)
  | .extract t i => (M.lift (evExtract (ρ t) i)).bind fun v => .ret (.val v)
  | .call c => evCallOp P ρ o c (c.args.map ρ)
  | _ => .fail

/-! code -/
def ev (s : S) : Operand → Value
  | .tmp t => s.get t
  | .const v => v
  | .global g => .pointer (some ⟨g, 0, none⟩)
  | .func f => .func (.func f) #[] #[]
def putS (nt : Nat) (s : S) (dst : Option Tmp) (v : Value) : Option S :=
  match dst with
  | none => some s
  | some d => if d < nt && d < 1023 then some (s.put d v) else none
def yields (ops : Array Oper) (s : S) (j : Nat) : Option Bool :=
  match (ops[j]?).bind (·.dst) with
  | some t => match s.get t with
    | .bool b => some b
    | _ => none
  | none => none

/-- which operations stand before each, by its edges: bit i of entry k -/
def befores : List Oper → List Nat → List Nat
  | [], acc => acc
  | o :: r, acc => befores r (acc ++ [o.after.toList.foldl (fun s e => if Region.binds .any e then s ||| 2 ^ e.on ||| acc.getD e.on 0 else s) 0])
structure Tk where
  n : Nat
  n1 : Nat
  log : List En
/-- what a part touched, told beside what it yields -/
def timed {α : Type} (m : M α) : M (α × Tk) := fun h n =>
  match m h n with
  | some ⟨a, h1, n1, L⟩ => some ⟨(a, ⟨n, n1, L⟩), h1, n1, L⟩
  | none => none
def tagged : Nat → List Tk → List (Nat × Tk)
  | _, [] => []
  | i, t :: r => (i, t) :: tagged (i + 1) r
def En.meets (x y : En) : Bool := x.b == y.b && (x.k == y.k || x.k.isNone || y.k.isNone)
def Tk.clash (a b : Tk) : Bool :=
  (a.log.any fun x => x.wr && b.log.any fun y => x.meets y) || (b.log.any fun x => x.wr && a.log.any fun y => x.meets y) ||
  (a.log.any fun x => b.n ≤ x.b && x.b < b.n1) || (b.log.any fun x => a.n ≤ x.b && x.b < a.n1)
def looks (ops : Array Oper) (o : Oper) : List Tmp := o.looksAt ops
def slotClash (ops : Array Oper) (x y : Oper) : Bool := !(x.apart ops y)
/-- of two operations that no edge puts in order nothing is shared -/
def pairsOk (ops : Array Oper) (bef : List Nat) : List (Nat × Tk) → Bool
  | [] => true
  | (j, tj) :: r => (r.all fun (k, tk) => (bef.getD k 0).testBit j || (!(tj.clash tk) && !(slotClash ops (ops.getD j default) (ops.getD k default)))) && pairsOk ops bef r
def edgesOk (ops : Array Oper) : Bool := ops.toList.zipIdx.all fun (o, i) => o.after.all (fun e => !Region.binds .any e || e.on < i) && !(o.op matches .select ..)

inductive Ex where
  | normal | ret
  | exit (id : Nat)

section
variable (P : Program) (rec : FuncId → Array Value → M Value) (nt : Nat)
/-- what an operation yields -/
def evVal (ops : Array Oper) (o : Oper) (s : S) : M Value :=
  if Region.wanted o (yields ops s) then
    (evOp P (ev s) o).bind fun
      | .val v => .ret v
      | .call f args => rec f args
  else .ret undef
/-- the operations in their order; what each touched -/
def evOpers (ops : Array Oper) : List Oper → S → M (S × List Tk)
  | [], s => .ret (s, [])
  | o :: r, s => (timed (inside (evVal P rec ops o s))).bind fun x => (M.lift (putS nt s o.dst x.1)).bind fun s1 => (evOpers ops r s1).bind fun y => .ret (y.1, x.2 :: y.2)
def evRegion (ops : Array Oper) (draw : Bool) (s : S) : M S :=
  (evOpers P rec nt ops ops.toList s).bind fun y =>
    if !draw || (edgesOk ops && pairsOk ops (befores ops.toList []) (tagged 0 y.2)) then .ret y.1 else .fail
def evCode : Nat → Code → S → M (Ex × S)
  | 0, _, _ => .fail
  | f + 1, c, s => match c with
    | .skip | .label _ => .ret (.normal, s)
    | .region _ ops draw => (evRegion P rec nt ops draw s).bind fun s1 => .ret (.normal, s1)
    | .seq a b => (evCode f a s).bind fun
      | (.normal, s1) => evCode f b s1
      | (e, s1) => .ret (e, s1)
    | .cond c a b => match ev s c with
      | .bool t => evCode f (if t then a else b) s
      | _ => .fail
    | .block id c => (evCode f c s).bind fun
      | (.exit i, s1) => if i = id then .ret (.normal, s1) else .ret (.exit i, s1)
      | (e, s1) => .ret (e, s1)
    | .loop c => (evCode f c s).bind fun
      | (.normal, s1) => evCode f (.loop c) s1
      | (e, s1) => .ret (e, s1)
    | .exit id => .ret (.exit id, s)
    | .ret => .ret (.ret, s)
    | _ => .fail
end

/-! what is looked up once of a program -/
def okOperand (P : Program) : Operand → Bool
  | .const v => clean v
  | .global g => g < P.globals.size
  | _ => true
def okOper (P : Program) (o : Oper) : Bool := o.op.operands.all (okOperand P)
def okCode (P : Program) : Code → Bool
  | .region _ ops _ => ops.all (okOper P)
  | .seq a b => okCode P a && okCode P b
  | .cond c a b => okOperand P c && okCode P a && okCode P b
  | .block _ c | .loop c => okCode P c
  | _ => true
def okNames (P : Program) : Bool := P.funcs.all fun fn => !(fn.name == "runtime.NumGoroutine")
/-- all functions but those of a list -/
def okProg (P : Program) (bad : List FuncId) : Bool :=
  P.funcs.toList.zipIdx.all fun (fn, i) => bad.contains i || (match fn.body with | some c => okCode P c | none => true)

def argS : Nat → List Value → S → S
  | _, [], s => s
  | i, v :: r, s => argS (i + 1) r (s.put i v)
def evResults (P : Program) (s : S) : List ResultVar → M (List Value)
  | [] => .ret []
  | .tmp t :: r => (evResults P s r).bind fun vs => .ret (s.get t :: vs)
  | .cell a t :: r => (evLoad P t (s.get a)).bind fun v => (evResults P s r).bind fun vs => .ret (v :: vs)
/-- a function that takes nothing -/
def noPar (P : Program) (f : FuncId) : Bool := match P.funcs[f]? with
  | some fn => fn.params.size == 0
  | none => false
/-- the cells of package-level variables hold what they are known for -/
def sameI : Value → Value → Bool
  | .int k a, .int k' b => decide (k = k') && decide (a = b)
  | _, _ => false
def chkG (P : Program) : List (Nat × Nat × Value) → M Unit
  | [] => .ret ()
  | g :: r => (rd g.1 g.2.1).bind fun u => if (decide (g.1 < P.globals.size) && sameI u g.2.2) = true then chkG P r else .fail
/-! functions of the library that are known by what they do: 1 bytes.IndexByte, 2 strings.Repeat -/
def natIn : List (FuncId × Nat) → FuncId → Option Nat
  | [], _ => none
  | q :: r, f => match Nat.beq q.1 f with
    | true => some q.2
    | false => natIn r f
def natOf (f : FuncId) : Option Nat := natIn NV f
def u8s : List Value → Option (List Int)
  | [] => some []
  | .int .u8 x :: r => match u8s r with
    | some l => some (x :: l)
    | none => none
  | _ => none
def idxIn (c : Int) : Option (List Int) → M Value
  | some l => .ret (.int .i64 (Lib.indexByte (Lib.bytesOf l) c.toNat.toUInt8))
  | none => .fail
def evIdx (b off len : Nat) (c : Int) : M Value := (rdN b off len).bind fun vs => idxIn c (u8s vs)
def evRep (s : ByteArray) (c : Int) : M Value := if (decide (0 ≤ c) && decide (c ≤ 1000000) && decide (s.size ≤ 1000000)) = true then .ret (.string ⟨(Lib.repeatL s.data.toList c.toNat).toArray⟩) else .fail
def evNat1 : List Value → M Value
  | [.slice (some ⟨b, off, none⟩) len _, .int .u8 c] => evIdx b off len c
  | _ => .fail
def evNat2 : List Value → M Value
  | [.string s, .int .i64 c] => evRep s c
  | _ => .fail
/-- a function of numbers and texts, by what it yields; a function of one row of plain cells -/
def evNat3 (f : FuncId) (args : List Value) : M Value := if args.all scalar then M.lift (natP f args) else .fail
def evNat4 (f : FuncId) : List Value → M Value
  | [.slice none 0 0] => M.lift (natR f 0 [])
  | [.slice (some ⟨b, off, none⟩) len _] => (rdN b off (len * natZ f)).bind fun vs => if vs.all scalar then M.lift (natR f len vs) else .fail
  | _ => .fail
def evNat (f : FuncId) (k : Nat) (args : List Value) : M Value := match k with
  | 1 => evNat1 args
  | 2 => evNat2 args
  | 3 => evNat3 f args
  | 4 => evNat4 f args
  | _ => .fail
/-- of the functions of the list: those that take nothing yield true; the others are not run -/
def evCall (P : Program) (bad : List FuncId) : Nat → FuncId → Array Value → M Value
  | 0, _, _ => .fail
  | fuel + 1, f, args => if bad.contains f then (match natOf f with
    | some k => evNat f k args.toList
    | none => if (decide (args.size = 0) && noPar P f) = true then (chkG P KG).bind fun _ => .ret (.bool true) else .fail) else match P.funcs[f]? with
    | some fn => match fn.body with
      | some c => if args.size ≤ fn.ntmps && fn.ntmps < 1000 then
          inside ((evCode P (evCall P bad fuel) fn.ntmps fuel c (argS 0 args.toList .nil)).bind fun
            | (.normal, s) | (.ret, s) => (evResults P s fn.results.toList).bind fun vs => .ret (match vs with | [v] => v | _ => .tuple vs.toArray)
            | (.exit _, _) => .fail)
        else .fail
      | none => .fail
    | none => .fail

end Go.Proofs.YtmjolmggelkjlaaGreat.Ev
