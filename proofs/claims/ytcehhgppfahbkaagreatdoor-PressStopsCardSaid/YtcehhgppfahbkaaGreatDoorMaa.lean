import Derived.WalkKit
import Derived.WalkSpells
import Derived.WalkLawsBesides
import Derived.Lib.Bytealg
import Derived.Lib.Bytes
import Derived.Lib.Repeat
import Derived.Laws.Append
import Derived.Laws.Cells
import Derived.Orders
import Derived.Laws.Sem
import Derived.Laws.MakeOwn
import Derived.Laws.BytesString
namespace Go.Proofs.YtcehhgppfahbkaaGreatDoor.Ev
set_option linter.unusedVariables false
set_option linter.unusedSimpArgs false
open Go
def KN : List FuncId := [32, 229, 158, 211]
def NV : List (FuncId × Nat) := [(158, 1), (211, 2)]
def natP : FuncId → List Value → Option Value := fun _ _ => none
def natZ : FuncId → Nat := fun _ => 0
def natR : FuncId → Nat → List Value → Option Value := fun _ _ _ => none
def KG : List (Nat × Nat × Value) := [(1, 0, .int .i64 200), (1, 1, .int .i64 600), (1, 2, .int .i64 1200), (1, 3, .int .i64 2400)]
end Go.Proofs.YtcehhgppfahbkaaGreatDoor.Ev
namespace Go.Proofs.YtcehhgppfahbkaaGreatDoor.Ev
set_option linter.unusedVariables false
set_option linter.unusedSimpArgs false
open Go
theorem aI {a b : Prop} (x : a) (y : b) : a ∧ b := And.intro x y

inductive Tr (α : Type) where
  | nil
  | node (l : Tr α) (v : Option α) (r : Tr α)
def Tr.get {α : Type} : Nat → Tr α → Nat → Option α
  | 0, _, _ => none
  | _ + 1, .nil, _ => none
  | f + 1, .node l v r, i => if i = 0 then v else if i % 2 = 1 then Tr.get f l (i / 2) else Tr.get f r (i / 2 - 1)
def Tr.set {α : Type} : Nat → Tr α → Nat → Option α → Tr α
  | 0, t, _, _ => t
  | f + 1, .nil, i, a => if i = 0 then .node .nil a .nil else if i % 2 = 1 then .node (Tr.set f .nil (i / 2) a) none .nil else .node .nil none (Tr.set f .nil (i / 2 - 1) a)
  | f + 1, .node l v r, i, a => if i = 0 then .node l a r else if i % 2 = 1 then .node (Tr.set f l (i / 2) a) v r else .node l v (Tr.set f r (i / 2 - 1) a)

structure AB where
  elem : TypeId
  own : Bool
  cells : List Value
abbrev H := Tr AB
def H.get (h : H) (b : Nat) : Option AB := Tr.get (b + 1) h b
def H.set (h : H) (b : Nat) (x : Option AB) : H := Tr.set (b + 1) h b x
abbrev S := Tr Value
def S.get (s : S) (t : Nat) : Value := (Tr.get 10 s t).getD undef
def S.put (s : S) (t : Nat) (v : Value) : S := Tr.set 10 s t (some v)

structure En where
  wr : Bool
  b : Nat
  k : Option Nat
structure Out (α : Type) where
  val : α
  h : H
  n : Nat
  log : List En
def M (α : Type) := H → Nat → Option (Out α)
def M.ret {α : Type} (a : α) : M α := fun h n => some ⟨a, h, n, []⟩
def M.fail {α : Type} : M α := fun _ _ => none
def M.lift {α : Type} (o : Option α) : M α := fun h n => match o with | some a => some ⟨a, h, n, []⟩ | none => none
def M.bind {α β : Type} (m : M α) (f : α → M β) : M β := fun h n =>
  match m h n with
  | some ⟨a, h1, n1, L1⟩ => match f a h1 n1 with
    | some ⟨c, h2, n2, L2⟩ => some ⟨c, h2, n2, L1 ++ L2⟩
    | none => none
  | none => none
instance : Monad M where
  pure := M.ret
  bind := M.bind

def rd (b k : Nat) : M Value := fun h n =>
  if b < n then match h.get b with
    | some B => match B.cells[k]? with
      | some v => some ⟨v, h, n, [⟨false, b, some k⟩]⟩
      | none => none
    | none => none
  else none
def one : Value → Bool
  | .agg _ | .tuple _ => false
  | _ => true
def wr (b k : Nat) (v : Value) : M Unit := fun h n =>
  if b < n then match h.get b with
    | some B => if B.own && k < B.cells.length && one v then some ⟨(), h.set b (some { B with cells := B.cells.set k v }), n, [⟨false, b, some k⟩, ⟨true, b, some k⟩]⟩ else none
    | none => none
  else none
def newB (e : TypeId) (cs : List Value) : M Nat := fun h n =>
  if n < n + 1 then some ⟨n, h.set n (some ⟨e, true, cs⟩), n + 1, []⟩ else none
def whole (b : Nat) : M AB := fun h n =>
  if b < n then match h.get b with
    | some B => some ⟨B, h, n, [⟨false, b, none⟩]⟩
    | none => none
  else none
def hdr (b : Nat) : M TypeId := fun h n =>
  if b < n then match h.get b with
    | some B => some ⟨B.elem, h, n, [⟨false, b, some 1099511627776⟩]⟩
    | none => none
  else none
def kill (b : Nat) : M Unit := fun h n =>
  if b < n then match h.get b with
    | some B => if B.own then some ⟨(), h.set b none, n, [⟨false, b, none⟩, ⟨true, b, none⟩]⟩ else none
    | none => none
  else none
def rdN (b k : Nat) : Nat → M (List Value)
  | 0 => .ret []
  | n + 1 => (rd b k).bind fun v => (rdN b (k + 1) n).bind fun vs => .ret (v :: vs)
def wrN (b k : Nat) : List Value → M Unit
  | [] => .ret ()
  | v :: vs => (wr b k v).bind fun _ => wrN b (k + 1) vs
def inside {α : Type} (m : M α) : M α := fun h n =>
  match m h n with
  | some ⟨a, h1, n1, L⟩ => some ⟨a, h1, n1, L.filter fun e => !(n ≤ e.b && e.b < n1)⟩
  | none => none

def CAP : Nat := 1152921504606846976
def agg? (P : Program) (t : TypeId) : Option Bool :=
  match P.underlying t with
  | some (.struct _) | some (.array _ _) => some true
  | some _ => some false
  | none => none
def size? (P : Program) (t : TypeId) : Option Nat := (P.info? t).map (·.size)
def clean1 : Value → Bool
  | .bool _ | .int _ _ | .float _ _ | .string _ | .pointer none | .nilFunc => true
  | .slice none n c => n ≤ c && c < CAP
  | _ => false
def clean : Value → Bool
  | .agg cs => cs.all clean1
  | .tuple cs => cs.all clean1
  | v => clean1 v
def zero? (P : Program) (t : TypeId) : Option Value := match (P.info? t).bind (·.zero) with
  | some z => if clean z then some z else none
  | none => none
def scalar : Value → Bool
  | .bool _ | .int _ _ | .string _ => true
  | _ => false
def pureRun (P : Program) : Sem Next → Option Value
  | .pure (.value v) => some v
  | .program k => pureRun P (k P)
  | _ => none
def partOf (P : Program) (t : TypeId) (cs : Array Value) (off : Nat) : Option Value :=
  match agg? P t, size? P t with
  | some true, some n => some (.agg (cs.extract off (off + n)))
  | some false, _ => cs[off]?
  | _, _ => none
def bytesOf : List Value → ByteArray → Option ByteArray
  | [], acc => some acc
  | .int .u8 n :: r, acc => bytesOf r (acc.push (UInt8.ofNat n.toNat))
  | _, _ => none
inductive Nx where
  | val (v : Value)
  | call (f : FuncId) (args : Array Value)

def elemsOf (sz : Nat) (n : Nat) : Value → M (List Value)
  | .slice (some ⟨b, off, none⟩) _ _ => rdN b off (n * sz)
  | .string s => .ret ((s.extract 0 n).data.map fun b => Value.int .u8 b.toNat).toList
  | _ => .fail
def lenOf? : Value → Option Nat
  | .slice _ n _ => some n
  | .string s => some s.size
  | _ => none
def evNew (e : TypeId) (l n : Nat) (old new : List Value) : M Value :=
  (newB e (old ++ new)).bind fun id => .ret (.slice (some ⟨id, 0, none⟩) (l + n) (CAP + (l + n)))
def evAppendTo (e : TypeId) (n sz b off l cap : Nat) (new : List Value) : M Value :=
  if cap < CAP then
    if l + n ≤ cap then (wrN b (off + l * sz) new).bind fun _ => .ret (.slice (some ⟨b, off, none⟩) (l + n) cap)
    else (rdN b off (l * sz)).bind fun old => evNew e l n old new
  else (rdN b off (l * sz)).bind fun old => (kill b).bind fun _ => evNew e l n old new
def evAppend (P : Program) (sType : TypeId) (s x : Value) : M Value :=
  match P.underlying sType with
  | some (.slice e) => match P.info? e, zero? P e, lenOf? x with
    | some ie, some z, some n =>
        if z.cells.size = ie.size && 1 ≤ ie.size && ie.bytes ≤ 64 then
        if n = 0 then (match s with | .slice _ _ _ => .ret s | _ => .fail) else
        match s with
        | .slice none 0 0 => if n ≤ 1099511627776 then (elemsOf ie.size n x).bind fun new => if new.length = n * ie.size && new.all one then evNew e 0 n [] new else .fail else .fail
        | .slice (some ⟨b, off, none⟩) l cap =>
          if l + n ≤ 1099511627776 then
          (hdr b).bind fun e' => if e' = e then
            (elemsOf ie.size n x).bind fun new => if new.length = n * ie.size && new.all one then evAppendTo e n ie.size b off l cap new else .fail
          else .fail
          else .fail
        | _ => .fail
        else .fail
    | _, _, _ => .fail
  | _ => .fail

def boundOf (o : Option Value) (d : Nat) : Option Nat :=
  match o with
  | none => some d
  | some (.int _ i) => if 0 ≤ i then some i.toNat else none
  | _ => none

def nilEq : Option TypeDesc → Value → Value → Option Bool
  | some (.pointer _), .pointer none, .pointer b => some b.isNone
  | some (.pointer _), .pointer _, .pointer none => some false
  | some (.slice _), .slice none _ _, .slice b _ _ => some b.isNone
  | some (.slice _), .slice _ _ _, .slice none _ _ => some false
  | some (.func _ _ _), .nilFunc, .nilFunc => some true
  | some (.func _ _ _), .nilFunc, .func _ _ _ => some false
  | some (.func _ _ _), .func _ _ _, .nilFunc => some false
  | _, _, _ => none
def kindOf? : Option TypeDesc → Option Nat
  | some (.int _) => some 0
  | some .string => some 1
  | some .bool => some 2
  | _ => none
def fldKinds (P : Program) : Nat → List Field → Option (List Nat)
  | _, [] => some []
  | i, f :: r => match kindOf? (P.underlying f.type), size? P f.type, fldKinds P (i + 1) r with
    | some d, some 1, some l => if f.name != "_" && f.offset == i then some (d :: l) else none
    | _, _, _ => none
def stKinds (P : Program) (t : TypeId) : Option (List Nat) := match P.underlying t with
  | some (.struct fs) => if P.stoodInHeld t || P.eqGuardType P.depth t then none else fldKinds P 0 fs.toList
  | _ => none
def kindEq : Nat → Value → Value → Option Bool
  | 0, .int k a, .int k' b => if k = k' then some (a == b) else none
  | 1, .string a, .string b => some (a == b)
  | 2, .bool a, .bool b => some (a == b)
  | _, _, _ => none
def kindsEq : List Nat → List Value → List Value → Option Bool
  | [], [], [] => some true
  | d :: ds, x :: l, y :: m => match kindEq d x y, kindsEq ds l m with
    | some a, some b => some (a && b)
    | _, _ => none
  | _, _, _ => none
def stEq (ds : Option (List Nat)) (x y : Value) : Option Bool := match ds, x, y with
  | some ds, .agg xs, .agg ys => kindsEq ds xs.toList ys.toList
  | _, _, _ => none
def anyEq (P : Program) (t : TypeId) (x y : Value) : Option Bool := match nilEq (P.underlying t) x y with
  | some b => some b
  | none => stEq (stKinds P t) x y
def evSlice (P : Program) (t : TypeId) (x : Value) (lo hi mx : Option Value) : Option Value :=
  match P.underlying t, x with
  | some (.slice e), .slice a len cap =>
    match size? P e, boundOf mx cap, boundOf hi len, boundOf lo 0 with
    | some sz, some m, some h, some l =>
      if mx.isSome && !hi.isSome then none else
      if l ≤ h && h ≤ m && m ≤ cap && (cap < CAP || (mx.isNone && h ≤ len)) then
        match a with
        | none => some (.slice none (h - l) (m - l))
        | some ⟨b, off, none⟩ => some (.slice (some ⟨b, if m = l then off else off + l * sz, none⟩) (h - l) (m - l))
        | _ => none
      else none
    | _, _, _, _ => none
  | _, _ => none

def evSliceM (P : Program) (t : TypeId) (x : Value) (lo hi mx : Option Value) : M Value :=
  match x with
  | .slice (some ⟨b, _, none⟩) _ _ => (hdr b).bind fun e' => match P.underlying t with
    | some (.slice e) => if size? P e' = size? P e then M.lift (evSlice P t x lo hi mx) else .fail
    | _ => .fail
  | _ => M.lift (evSlice P t x lo hi mx)
def evAlloc (P : Program) (e : TypeId) : M Value :=
  match zero? P e with
  | some z => (newB e z.cells.toList).bind fun id => .ret (.pointer (some ⟨id, 0, none⟩))
  | none => .fail
def evBox (P : Program) (e : TypeId) (v : Value) : M Value :=
  match size? P e with
  | some _ => (newB e v.cells.toList).bind fun id => .ret (.pointer (some ⟨id, 0, none⟩))
  | none => .fail
def placeOf (P : Program) (fs : Array Field) (i : Nat) : Option (Nat × Nat) := (fs[i]?).bind fun f => (size? P f.type).map fun n => (f.offset, n)
def plc? (P : Program) : TypeDesc → Option (Nat → Option (Nat × Nat))
  | .struct fs => match fs.all fun f => (size? P f.type).isSome with
    | true => some (placeOf P fs)
    | false => none
  | .array _ e => match size? P e with
    | some s => some fun i => some (i * s, s)
    | none => none
  | _ => none
def evBuild (P : Program) (t : TypeId) (parts : List (Nat × Value)) : M Value :=
  match zero? P t, P.underlying t with
  | some z, some d => match plc? P d with
    | some pl => (match Instr.fill pl z.cells parts with
      | some cs => .ret (.agg cs)
      | none => .fail)
    | none => .fail
  | _, _ => .fail
def zeros (z : Value) (n : Nat) : Array Value := (Array.range n).map (z.cells[· % z.cells.size]!)
def evBuildSlice (P : Program) (t : TypeId) (len : Nat) (parts : List (Nat × Value)) : M Value :=
  match P.underlying t with
  | some (.slice e) => match size? P e, zero? P e with
    | some sz, some z =>
      if len = 0 && parts.isEmpty then (newB e []).bind fun id => .ret (.slice (some ⟨id, 0, none⟩) 0 0) else
      if 0 < len * sz && len * sz ≤ 65536 then
        match Instr.fill (fun i => some (i * sz, sz)) (zeros z (len * sz)) parts with
        | some cs => (newB e cs.toList).bind fun id => .ret (.slice (some ⟨id, 0, none⟩) len len)
        | none => .fail
      else .fail
    | _, _ => .fail
  | _ => .fail
def evLoad (P : Program) (t : TypeId) : Value → M Value
  | .pointer (some ⟨b, off, none⟩) => match agg? P t, size? P t with
    | some true, some n => (rdN b off n).bind fun vs => .ret (.agg vs.toArray)
    | some false, _ => rd b off
    | _, _ => .fail
  | _ => .fail
def evStore (P : Program) (t : TypeId) (a x : Value) : M Value :=
  match a with
  | .pointer (some ⟨b, off, none⟩) => match size? P t with
    | some n => if x.cells.size = n then (wrN b off x.cells.toList).bind fun _ => .ret undef else .fail
    | none => .fail
  | _ => .fail
def evNilCheck : Value → M Value
  | .pointer (some a) => .ret (.pointer (some a))
  | .func (.func f) a b => .ret (.func (.func f) a b)
  | _ => .fail
def evToStr : Value → M Value
  | .slice none _ _ => .ret (.string .empty)
  | .slice (some ⟨b, off, none⟩) len _ => (rdN b off len).bind fun vs => match bytesOf vs .empty with
    | some s => .ret (.string s)
    | none => .fail
  | _ => .fail
def evToBytes (e : TypeId) (s : ByteArray) : M Value :=
  if s.size ≤ 1099511627776 then (newB e (s.data.map fun b => Value.int .u8 b.toNat).toList).bind fun id => .ret (.slice (some ⟨id, 0, none⟩) s.size (CAP + s.size)) else .fail
def u8? (P : Program) (e : TypeId) : Bool := match P.underlying e with | some (.int .u8) => true | _ => false
def toStr? : Option TypeDesc → Option TypeDesc → Option TypeId
  | some (.slice e), some .string => some e
  | _, _ => none
def toBy? : Option TypeDesc → Option TypeDesc → Value → Option (TypeId × ByteArray)
  | some .string, some (.slice e), .string s => some (e, s)
  | _, _, _ => none
def evMakeSlice (P : Program) (t : TypeId) (l c : Value) : M Value :=
  match P.underlying t, l, c with
  | some (.slice e), .int _ l, .int _ c => match P.info? e, zero? P e with
    | some ie, some z => if 0 ≤ l && l ≤ c && c ≤ 1099511627776 && ie.bytes ≤ 64 && z.cells.size = ie.size && 1 ≤ ie.size then
        (newB e (zeros z (c.toNat * ie.size)).toList).bind fun id => .ret (.slice (some ⟨id, 0, none⟩) l.toNat c.toNat)
      else .fail
    | _, _ => .fail
  | _, _, _ => .fail
def evFieldAddr (P : Program) (s : TypeId) (x : Value) (f : Nat) : Option Value :=
  match P.underlying s, x with
  | some (.struct fs), .pointer (some ⟨b, off, none⟩) => match fs[f]? with
    | some fd => match size? P fd.type with
      | some n => if n = 0 then none else some (.pointer (some ⟨b, off + fd.offset, none⟩))
      | none => none
    | none => none
  | _, _ => none
def evField (P : Program) (t : TypeId) (x : Value) (f : Nat) : Option Value :=
  match P.underlying t, x with
  | some (.struct fs), .agg cs => match fs[f]? with
    | some fd => partOf P fd.type cs fd.offset
    | none => none
  | _, _ => none
def evIndexAddr (P : Program) (t : TypeId) (x ix : Value) : Option Value :=
  match P.underlying t, x, ix with
  | some (.slice e), .slice (some ⟨b, off, none⟩) len _, .int _ i => match size? P e with
    | some sz => if 0 ≤ i ∧ i < len then some (.pointer (some ⟨b, off + i.toNat * sz, none⟩)) else none
    | none => none
  | some (.array len e), .pointer (some ⟨b, off, none⟩), .int _ i => match size? P e with
    | some sz => if 0 ≤ i ∧ i < len then some (.pointer (some ⟨b, off + i.toNat * sz, none⟩)) else none
    | none => none
  | _, _, _ => none
def evIndex (P : Program) (t : TypeId) (x ix : Value) : Option Value :=
  match P.underlying t, x, ix with
  | some (.array len e), .agg cs, .int _ i => match size? P e with
    | some sz => if 0 ≤ i ∧ i < len then partOf P e cs (i.toNat * sz) else none
    | none => none
  | _, _, _ => none
def evExtract (x : Value) (i : Nat) : Option Value :=
  match x with
  | .tuple vs => vs[i]?
  | _ => none
def evPlain (P : Program) (ρ : Operand → Value) (o : Oper) : M Nx :=
  if o.op.operands.all fun x => scalar (ρ x) then (M.lift (pureRun P (execOp ρ o))).bind fun v => if scalar v then .ret (.val v) else .fail else .fail
def isStr : Value → Bool
  | .string _ => true
  | _ => false
def asFn? : Value → Option (FuncId × Array Value × Array Value)
  | .func (.func g) first captured => some (g, first, captured)
  | _ => none
def hasBody (P : Program) (g : FuncId) : Bool := match P.funcs[g]? with
  | some fn => fn.body.isSome
  | none => false
def sliceOrStr (P : Program) (t : TypeId) : Bool := match P.underlying t with
  | some (.slice _) | some .string => true
  | _ => false
def app? (P : Program) (ats : Array TypeId) (args : List Value) : Option (TypeId × Value × Value) := match ats[0]?, ats[1]?, args with
  | some t, some u, [s, x] => if sliceOrStr P u then some (t, s, x) else none
  | _, _, _ => none
def evCopy (P : Program) (t : TypeId) (d s : Value) : M Value :=
  match P.underlying t with
  | some (.slice e) => match size? P e, d, lenOf? s with
    | some sz, .slice a dl _, some sl =>
      if 0 < Nat.min sl dl then (match a with
        | some ⟨b, off, none⟩ => (elemsOf sz (Nat.min sl dl) s).bind fun vs => (wrN b off vs).bind fun _ => .ret (.int .i64 (Nat.min sl dl))
        | _ => .fail)
      else .ret (.int .i64 0)
    | _, _, _ => .fail
  | _ => .fail
def cpy? (ats : Array TypeId) (args : List Value) : Option (TypeId × Value × Value) := match ats[0]?, args with
  | some t, [d, s] => some (t, d, s)
  | _, _ => none
def sliceLen? (P : Program) (ats : Array TypeId) (args : List Value) : Option Nat := match ats[0]?, args with
  | some t, .slice _ n _ :: _ => (match P.underlying t with | some (.slice _) => some n | _ => none)
  | _, _ => none
def evCallOp (P : Program) (ρ : Operand → Value) (o : Oper) (c : Call) (args : Array Value) : M Nx :=
  match c.callee with
  | .value f => match asFn? (ρ f) with
    | some (g, first, captured) => if hasBody P g then .ret (.call g (first ++ args ++ captured)) else .fail
    | none => .fail
  | .builtin .append => match app? P c.argTypes args.toList with
    | some (t, s, x) => (evAppend P t s x).bind fun v => .ret (.val v)
    | none => .fail
  | .builtin .copy => match cpy? c.argTypes args.toList with
    | some (t, d, s) => (evCopy P t d s).bind fun v => .ret (.val v)
    | none => .fail
  | .builtin .len => match sliceLen? P c.argTypes args.toList with
    | some n => .ret (.val (.int .i64 n))
    | none => evPlain P ρ o
  | .builtin .min | .builtin .max => evPlain P ρ o
  | _ => .fail

def evOp (P : Program) (ρ : Operand → Value) (o : Oper) : M Nx :=
  match o.op with
  | .move x | .assign x => .ret (.val (ρ x))
  | .pick c a b => match ρ c with
    | .bool t => .ret (.val (if t then ρ a else ρ b))
    | _ => .fail
  | .alloc e => (evAlloc P e).bind fun v => .ret (.val v)
  | .box e x => (evBox P e (ρ x)).bind fun v => .ret (.val v)
  | .build t parts => (evBuild P t (parts.toList.map fun (i, x) => (i, ρ x))).bind fun v => .ret (.val v)
  | .buildSlice t len parts => (evBuildSlice P t len (parts.toList.map fun (i, x) => (i, ρ x))).bind fun v => .ret (.val v)
  | .load t a => (evLoad P t (ρ a)).bind fun v => .ret (.val v)
  | .store t a x => (evStore P t (ρ a) (ρ x)).bind fun v => .ret (.val v)
  | .nilCheck x => (evNilCheck (ρ x)).bind fun v => .ret (.val v)
  | .binOp op t x y _ => match anyEq P t (ρ x) (ρ y), op with
    | some v, .eql => .ret (.val (.bool v))
    | some v, .neq => .ret (.val (.bool (!v)))
    | none, _ => evPlain P ρ o
    | _, _ => .fail
  | .unOp _ _ _ => evPlain P ρ o
  | .convert src dst x => match toStr? (P.underlying src) (P.underlying dst) with
    | some e => if u8? P e then (evToStr (ρ x)).bind fun v => .ret (.val v) else .fail
    | none => match toBy? (P.underlying src) (P.underlying dst) (ρ x) with
      | some (e, s) => if u8? P e && size? P e == some 1 then (evToBytes e s).bind fun v => .ret (.val v) else .fail
      | none => evPlain P ρ o
  | .makeFunc fn a b => .ret (.val (.func fn (a.map ρ) (b.map ρ)))
  | .makeSlice t l c => (evMakeSlice P t (ρ l) (ρ c)).bind fun v => .ret (.val v)
  | .slice t x lo hi mx => if isStr (ρ x) then evPlain P ρ o else (evSliceM P t (ρ x) (lo.map ρ) (hi.map ρ) (mx.map ρ)).bind fun v => .ret (.val v)
  | .fieldAddr s x f => (M.lift (evFieldAddr P s (ρ x) f)).bind fun v => .ret (.val v)
  | .field t x f => (M.lift (evField P t (ρ x) f)).bind fun v => .ret (.val v)
  | .indexAddr t x ix => (M.lift (evIndexAddr P t (ρ x) (ρ ix))).bind fun v => .ret (.val v)
  | .index t x ix => if isStr (ρ x) then evPlain P ρ o else (M.lift (evIndex P t (ρ x) (ρ ix))).bind fun v => .ret (.val v)
  | .extract t i => (M.lift (evExtract (ρ t) i)).bind fun v => .ret (.val v)
  | .call c => evCallOp P ρ o c (c.args.map ρ)
  | _ => .fail

def ev (s : S) : Operand → Value
  | .tmp t => s.get t
  | .const v => v
  | .global g => .pointer (some ⟨g, 0, none⟩)
  | .func f => .func (.func f) #[] #[]
def putS (nt : Nat) (s : S) (dst : Option Tmp) (v : Value) : Option S :=
  match dst with
  | none => some s
  | some d => if d < nt && d < 1023 then some (s.put d v) else none
def yields (ops : Array Oper) (s : S) (j : Nat) : Option Bool :=
  match (ops[j]?).bind (·.dst) with
  | some t => match s.get t with
    | .bool b => some b
    | _ => none
  | none => none

def befores : List Oper → List Nat → List Nat
  | [], acc => acc
  | o :: r, acc => befores r (acc ++ [o.after.toList.foldl (fun s e => if Region.binds .any e then s ||| 2 ^ e.on ||| acc.getD e.on 0 else s) 0])
structure Tk where
  n : Nat
  n1 : Nat
  log : List En
def timed {α : Type} (m : M α) : M (α × Tk) := fun h n =>
  match m h n with
  | some ⟨a, h1, n1, L⟩ => some ⟨(a, ⟨n, n1, L⟩), h1, n1, L⟩
  | none => none
def tagged : Nat → List Tk → List (Nat × Tk)
  | _, [] => []
  | i, t :: r => (i, t) :: tagged (i + 1) r
def En.meets (x y : En) : Bool := x.b == y.b && (x.k == y.k || x.k.isNone || y.k.isNone)
def Tk.clash (a b : Tk) : Bool :=
  (a.log.any fun x => x.wr && b.log.any fun y => x.meets y) || (b.log.any fun x => x.wr && a.log.any fun y => x.meets y) ||
  (a.log.any fun x => b.n ≤ x.b && x.b < b.n1) || (b.log.any fun x => a.n ≤ x.b && x.b < a.n1)
def looks (ops : Array Oper) (o : Oper) : List Tmp := o.looksAt ops
def slotClash (ops : Array Oper) (x y : Oper) : Bool := !(x.apart ops y)
def pairsOk (ops : Array Oper) (bef : List Nat) : List (Nat × Tk) → Bool
  | [] => true
  | (j, tj) :: r => (r.all fun (k, tk) => (bef.getD k 0).testBit j || (!(tj.clash tk) && !(slotClash ops (ops.getD j default) (ops.getD k default)))) && pairsOk ops bef r
def edgesOk (ops : Array Oper) : Bool := ops.toList.zipIdx.all fun (o, i) => o.after.all (fun e => !Region.binds .any e || e.on < i) && !(o.op matches .select ..)

inductive Ex where
  | normal | ret
  | exit (id : Nat)

section
variable (P : Program) (rec : FuncId → Array Value → M Value) (nt : Nat)
def evVal (ops : Array Oper) (o : Oper) (s : S) : M Value :=
  if Region.wanted o (yields ops s) then
    (evOp P (ev s) o).bind fun
      | .val v => .ret v
      | .call f args => rec f args
  else .ret undef
def evOpers (ops : Array Oper) : List Oper → S → M (S × List Tk)
  | [], s => .ret (s, [])
  | o :: r, s => (timed (inside (evVal P rec ops o s))).bind fun x => (M.lift (putS nt s o.dst x.1)).bind fun s1 => (evOpers ops r s1).bind fun y => .ret (y.1, x.2 :: y.2)
def evRegion (ops : Array Oper) (draw : Bool) (s : S) : M S :=
  (evOpers P rec nt ops ops.toList s).bind fun y =>
    if !draw || (edgesOk ops && pairsOk ops (befores ops.toList []) (tagged 0 y.2)) then .ret y.1 else .fail
def evCode : Nat → Code → S → M (Ex × S)
  | 0, _, _ => .fail
  | f + 1, c, s => match c with
    | .skip | .label _ => .ret (.normal, s)
    | .region _ ops draw => (evRegion P rec nt ops draw s).bind fun s1 => .ret (.normal, s1)
    | .seq a b => (evCode f a s).bind fun
      | (.normal, s1) => evCode f b s1
      | (e, s1) => .ret (e, s1)
    | .cond c a b => match ev s c with
      | .bool t => evCode f (if t then a else b) s
      | _ => .fail
    | .block id c => (evCode f c s).bind fun
      | (.exit i, s1) => if i = id then .ret (.normal, s1) else .ret (.exit i, s1)
      | (e, s1) => .ret (e, s1)
    | .loop c => (evCode f c s).bind fun
      | (.normal, s1) => evCode f (.loop c) s1
      | (e, s1) => .ret (e, s1)
    | .exit id => .ret (.exit id, s)
    | .ret => .ret (.ret, s)
    | _ => .fail
end

def okOperand (P : Program) : Operand → Bool
  | .const v => clean v
  | .global g => g < P.globals.size
  | _ => true
def okOper (P : Program) (o : Oper) : Bool := o.op.operands.all (okOperand P)
def okCode (P : Program) : Code → Bool
  | .region _ ops _ => ops.all (okOper P)
  | .seq a b => okCode P a && okCode P b
  | .cond c a b => okOperand P c && okCode P a && okCode P b
  | .block _ c | .loop c => okCode P c
  | _ => true
def okNames (P : Program) : Bool := P.funcs.all fun fn => !(fn.name == "runtime.NumGoroutine")
def okProg (P : Program) (bad : List FuncId) : Bool :=
  P.funcs.toList.zipIdx.all fun (fn, i) => bad.contains i || (match fn.body with | some c => okCode P c | none => true)

def argS : Nat → List Value → S → S
  | _, [], s => s
  | i, v :: r, s => argS (i + 1) r (s.put i v)
def evResults (P : Program) (s : S) : List ResultVar → M (List Value)
  | [] => .ret []
  | .tmp t :: r => (evResults P s r).bind fun vs => .ret (s.get t :: vs)
  | .cell a t :: r => (evLoad P t (s.get a)).bind fun v => (evResults P s r).bind fun vs => .ret (v :: vs)
def noPar (P : Program) (f : FuncId) : Bool := match P.funcs[f]? with
  | some fn => fn.params.size == 0
  | none => false
def sameI : Value → Value → Bool
  | .int k a, .int k' b => decide (k = k') && decide (a = b)
  | _, _ => false
def chkG (P : Program) : List (Nat × Nat × Value) → M Unit
  | [] => .ret ()
  | g :: r => (rd g.1 g.2.1).bind fun u => if (decide (g.1 < P.globals.size) && sameI u g.2.2) = true then chkG P r else .fail
def natIn : List (FuncId × Nat) → FuncId → Option Nat
  | [], _ => none
  | q :: r, f => match Nat.beq q.1 f with
    | true => some q.2
    | false => natIn r f
def natOf (f : FuncId) : Option Nat := natIn NV f
def u8s : List Value → Option (List Int)
  | [] => some []
  | .int .u8 x :: r => match u8s r with
    | some l => some (x :: l)
    | none => none
  | _ => none
def idxIn (c : Int) : Option (List Int) → M Value
  | some l => .ret (.int .i64 (Lib.indexByte (Lib.bytesOf l) c.toNat.toUInt8))
  | none => .fail
def evIdx (b off len : Nat) (c : Int) : M Value := (rdN b off len).bind fun vs => idxIn c (u8s vs)
def evRep (s : ByteArray) (c : Int) : M Value := if (decide (0 ≤ c) && decide (c ≤ 1000000) && decide (s.size ≤ 1000000)) = true then .ret (.string ⟨(Lib.repeatL s.data.toList c.toNat).toArray⟩) else .fail
def evNat1 : List Value → M Value
  | [.slice (some ⟨b, off, none⟩) len _, .int .u8 c] => evIdx b off len c
  | _ => .fail
def evNat2 : List Value → M Value
  | [.string s, .int .i64 c] => evRep s c
  | _ => .fail
def evNat3 (f : FuncId) (args : List Value) : M Value := if args.all scalar then M.lift (natP f args) else .fail
def evNat4 (f : FuncId) : List Value → M Value
  | [.slice none 0 0] => M.lift (natR f 0 [])
  | [.slice (some ⟨b, off, none⟩) len _] => (rdN b off (len * natZ f)).bind fun vs => if vs.all scalar then M.lift (natR f len vs) else .fail
  | _ => .fail
def evNat (f : FuncId) (k : Nat) (args : List Value) : M Value := match k with
  | 1 => evNat1 args
  | 2 => evNat2 args
  | 3 => evNat3 f args
  | 4 => evNat4 f args
  | _ => .fail
def evCall (P : Program) (bad : List FuncId) : Nat → FuncId → Array Value → M Value
  | 0, _, _ => .fail
  | fuel + 1, f, args => if bad.contains f then (match natOf f with
    | some k => evNat f k args.toList
    | none => if (decide (args.size = 0) && noPar P f) = true then (chkG P KG).bind fun _ => .ret (.bool true) else .fail) else match P.funcs[f]? with
    | some fn => match fn.body with
      | some c => if args.size ≤ fn.ntmps && fn.ntmps < 1000 then
          inside ((evCode P (evCall P bad fuel) fn.ntmps fuel c (argS 0 args.toList .nil)).bind fun
            | (.normal, s) | (.ret, s) => (evResults P s fn.results.toList).bind fun vs => .ret (match vs with | [v] => v | _ => .tuple vs.toArray)
            | (.exit _, _) => .fail)
        else .fail
      | none => .fail
    | none => .fail

end Go.Proofs.YtcehhgppfahbkaaGreatDoor.Ev
namespace Go.Proofs.YtcehhgppfahbkaaGreatDoor.Ev
set_option linter.unusedVariables false
set_option linter.unusedSimpArgs false
open Go

theorem Tr.get_nil {α : Type} (f j : Nat) : Tr.get f (.nil : Tr α) j = none := by cases f <;> rfl
theorem Tr.get_set {α : Type} : ∀ (f : Nat) (t : Tr α) (i : Nat) (a : Option α) (j : Nat), i < 2 ^ f - 1 → Tr.get f (Tr.set f t i a) j = if j = i then a else Tr.get f t j := by
  intro f
  induction f with
  | zero => intro t i a j h; simp at h
  | succ f ih =>
    intro t i a j hi
    have h2 : 2 ^ (f + 1) = 2 * 2 ^ f := by rw [Nat.pow_succ]; omega
    have h1 : 1 ≤ 2 ^ f := Nat.one_le_two_pow
    cases t with
    | nil =>
      unfold Tr.set
      by_cases h0 : i = 0
      · subst h0
        simp only [if_true]
        unfold Tr.get
        by_cases hj : j = 0
        · simp [hj]
        · simp [hj, Tr.get_nil]
      · rw [if_neg h0]
        by_cases ho : i % 2 = 1
        · rw [if_pos ho]
          simp only [Tr.get]
          by_cases hj : j = 0
          · subst hj; simp; omega
          · rw [if_neg hj]
            by_cases hjo : j % 2 = 1
            · rw [if_pos hjo, ih _ _ _ _ (by omega)]
              by_cases e : j = i
              · subst e; simp
              · rw [if_neg e, if_neg (by omega), Tr.get_nil]
            · rw [if_neg hjo, Tr.get_nil, if_neg (by intro e; subst e; exact hjo ho)]
        · rw [if_neg ho]
          simp only [Tr.get]
          by_cases hj : j = 0
          · subst hj; simp; omega
          · rw [if_neg hj]
            by_cases hjo : j % 2 = 1
            · rw [if_pos hjo, Tr.get_nil, if_neg (by intro e; subst e; exact ho hjo)]
            · rw [if_neg hjo, ih _ _ _ _ (by omega)]
              by_cases e : j = i
              · subst e; simp
              · rw [if_neg e, if_neg (by omega), Tr.get_nil]
    | node l v r =>
      unfold Tr.set
      by_cases h0 : i = 0
      · subst h0
        simp only [if_true]
        unfold Tr.get
        by_cases hj : j = 0
        · simp [hj]
        · simp [hj]
      · rw [if_neg h0]
        by_cases ho : i % 2 = 1
        · rw [if_pos ho]
          simp only [Tr.get]
          by_cases hj : j = 0
          · subst hj; simp; omega
          · rw [if_neg hj, if_neg hj]
            by_cases hjo : j % 2 = 1
            · rw [if_pos hjo, if_pos hjo, ih _ _ _ _ (by omega)]
              by_cases e : j = i
              · subst e; simp
              · rw [if_neg e, if_neg (by omega)]
            · rw [if_neg hjo, if_neg hjo, if_neg (by intro e; subst e; exact hjo ho)]
        · rw [if_neg ho]
          simp only [Tr.get]
          by_cases hj : j = 0
          · subst hj; simp; omega
          · rw [if_neg hj, if_neg hj]
            by_cases hjo : j % 2 = 1
            · rw [if_pos hjo, if_pos hjo, if_neg (by intro e; subst e; exact ho hjo)]
            · rw [if_neg hjo, if_neg hjo, ih _ _ _ _ (by omega)]
              by_cases e : j = i
              · subst e; simp
              · rw [if_neg e, if_neg (by omega)]
theorem Tr.get_fuel {α : Type} : ∀ (f f' : Nat) (t : Tr α) (i : Nat), i < 2 ^ f - 1 → i < 2 ^ f' - 1 → Tr.get f t i = Tr.get f' t i := by
  intro f
  induction f with
  | zero => intro f' t i h; simp at h
  | succ f ih =>
    intro f' t i h h'
    cases f' with
    | zero => simp at h'
    | succ f' =>
      have h2 : 2 ^ (f + 1) = 2 * 2 ^ f := by rw [Nat.pow_succ]; omega
      have h3 : 2 ^ (f' + 1) = 2 * 2 ^ f' := by rw [Nat.pow_succ]; omega
      cases t with
      | nil => rfl
      | node l v r =>
        unfold Tr.get
        by_cases h0 : i = 0
        · rw [if_pos h0, if_pos h0]
        · rw [if_neg h0, if_neg h0]
          split
          · exact ih f' l _ (by omega) (by omega)
          · exact ih f' r _ (by omega) (by omega)
theorem Tr.set_fuel {α : Type} : ∀ (f f' : Nat) (t : Tr α) (i : Nat) (a : Option α), i < 2 ^ f - 1 → i < 2 ^ f' - 1 → Tr.set f t i a = Tr.set f' t i a := by
  intro f
  induction f with
  | zero => intro f' t i a h; simp at h
  | succ f ih =>
    intro f' t i a h h'
    cases f' with
    | zero => simp at h'
    | succ f' =>
      have h2 : 2 ^ (f + 1) = 2 * 2 ^ f := by rw [Nat.pow_succ]; omega
      have h3 : 2 ^ (f' + 1) = 2 * 2 ^ f' := by rw [Nat.pow_succ]; omega
      cases t with
      | nil =>
        unfold Tr.set
        by_cases h0 : i = 0
        · rw [if_pos h0, if_pos h0]
        · rw [if_neg h0, if_neg h0]
          split
          · rw [ih f' _ _ a (by omega) (by omega)]
          · rw [ih f' _ _ a (by omega) (by omega)]
      | node l v r =>
        unfold Tr.set
        by_cases h0 : i = 0
        · rw [if_pos h0, if_pos h0]
        · rw [if_neg h0, if_neg h0]
          split
          · rw [ih f' _ _ a (by omega) (by omega)]
          · rw [ih f' _ _ a (by omega) (by omega)]
theorem pow_room (i k : Nat) : i < 2 ^ (i + 1 + k) - 1 := by
  have h1 : i + 1 + k < 2 ^ (i + 1 + k) := Nat.lt_two_pow_self
  omega
theorem H.get_set {h : H} {i : Nat} (x : Option AB) (j : Nat) : (h.set i x).get j = if j = i then x else h.get j := by
  unfold H.get H.set
  have hi := pow_room i (j + 1)
  have hj := pow_room j (i + 1)
  have hi0 := pow_room i 0
  have hj0 := pow_room j 0
  have e : i + 1 + (j + 1) = j + 1 + (i + 1) := by omega
  rw [e] at hi
  rw [Tr.get_fuel (j + 1) (j + 1 + (i + 1)) _ _ hj0 hj, Tr.get_fuel (j + 1) (j + 1 + (i + 1)) h _ hj0 hj, Tr.set_fuel (i + 1) (j + 1 + (i + 1)) _ _ _ hi0 hi]
  exact Tr.get_set _ _ _ _ _ hi

def hd (B : AB) : TypeId × Bool × Nat := (B.elem, B.own, B.cells.length)
def H.hd (h : H) (b : Nat) : Option (TypeId × Bool × Nat) := (h.get b).map Ev.hd
def H.cell (h : H) (b k : Nat) : Option Value := (h.get b).bind (·.cells[k]?)
def agrS (h h' : H) (b k : Nat) : Prop := h.hd b = h'.hd b ∧ h.cell b k = h'.cell b k
def agrE (h h' : H) (e : En) : Prop := match e.k with
  | none => h.get e.b = h'.get e.b
  | some k => agrS h h' e.b k
def wrote (L : List En) (b k : Nat) : Prop := ∃ e ∈ L, e.wr = true ∧ e.b = b ∧ (e.k = none ∨ e.k = some k)

theorem agrS.refl (h : H) (b k : Nat) : agrS h h b k := ⟨rfl, rfl⟩
theorem agrS.symm {h h' : H} {b k : Nat} (x : agrS h h' b k) : agrS h' h b k := ⟨x.1.symm, x.2.symm⟩
theorem agrS.trans {h h' h'' : H} {b k : Nat} (x : agrS h h' b k) (y : agrS h' h'' b k) : agrS h h'' b k := ⟨x.1.trans y.1, x.2.trans y.2⟩
theorem agrS.of_get {h h' : H} {b : Nat} (k : Nat) (x : h.get b = h'.get b) : agrS h h' b k := by
  unfold agrS H.hd H.cell; rw [x]; exact ⟨rfl, rfl⟩
theorem get_of_agrS {h h' : H} {b : Nat} (x : ∀ k, agrS h h' b k) : h.get b = h'.get b := by
  have h0 := (x 0).1
  unfold H.hd at h0
  cases hg : h.get b with
  | none => rw [hg] at h0; cases hg' : h'.get b with
    | none => rfl
    | some B => rw [hg'] at h0; simp at h0
  | some B =>
    rw [hg] at h0
    cases hg' : h'.get b with
    | none => rw [hg'] at h0; simp at h0
    | some B' =>
      rw [hg'] at h0
      simp [Ev.hd] at h0
      obtain ⟨h1, h2, h3⟩ := h0
      have hc : B.cells = B'.cells := by
        apply List.ext_getElem?
        intro k
        have := (x k).2
        unfold H.cell at this
        rw [hg, hg'] at this
        simpa using this
      cases B; cases B'
      simp_all
theorem agrE.of_get {h h' : H} {e : En} (x : h.get e.b = h'.get e.b) : agrE h h' e := by
  unfold agrE
  split
  · exact x
  · exact agrS.of_get _ x
theorem agrE.of_all {h h' : H} {e : En} (x : ∀ k, (e.k = none ∨ e.k = some k) → agrS h h' e.b k) : agrE h h' e := by
  unfold agrE
  split
  · rename_i he
    exact get_of_agrS fun k => x k (.inl he)
  · rename_i k he
    exact x k (.inr he)
theorem agrE.at_ {h h' : H} {e : En} (x : agrE h h' e) {k : Nat} (hk : e.k = none ∨ e.k = some k) : agrS h h' e.b k := by
  unfold agrE at x
  rcases hk with hk | hk
  · rw [hk] at x; exact agrS.of_get k x
  · rw [hk] at x; exact x

theorem wrote_append {L L' : List En} {b k : Nat} : wrote (L ++ L') b k ↔ wrote L b k ∨ wrote L' b k := by
  unfold wrote
  constructor
  · rintro ⟨e, he, hr⟩
    rcases List.mem_append.1 he with h | h
    · exact .inl ⟨e, h, hr⟩
    · exact .inr ⟨e, h, hr⟩
  · rintro (⟨e, he, hr⟩ | ⟨e, he, hr⟩)
    · exact ⟨e, List.mem_append.2 (.inl he), hr⟩
    · exact ⟨e, List.mem_append.2 (.inr he), hr⟩
theorem not_wrote_nil {b k : Nat} : ¬ wrote [] b k := by rintro ⟨e, he, _⟩; cases he

structure LocAt {α : Type} (m : M α) (h : H) (n : Nat) (r : α) (h1 : H) (n1 : Nat) (L : List En) : Prop where
  le : n ≤ n1
  lt : ∀ e ∈ L, e.b < n1
  frame : ∀ b k, ¬ wrote L b k → ¬ (n ≤ b ∧ b < n1) → agrS h1 h b k
  det : ∀ h', (∀ e ∈ L, ¬ (n ≤ e.b ∧ e.b < n1) → agrE h h' e) → ∃ h1', m h' n = some ⟨r, h1', n1, L⟩ ∧ ∀ b k, (wrote L b k ∨ (n ≤ b ∧ b < n1)) → agrS h1' h1 b k
def Loc {α : Type} (m : M α) : Prop := ∀ h n r h1 n1 L, m h n = some ⟨r, h1, n1, L⟩ → LocAt m h n r h1 n1 L

theorem Loc.ret {α : Type} (a : α) : Loc (.ret a) := by
  intro h n r h1 n1 L hm
  simp only [M.ret, Option.some.injEq, Out.mk.injEq] at hm
  obtain ⟨rfl, rfl, rfl, rfl⟩ := hm
  exact ⟨Nat.le_refl _, (fun e he => nomatch he), fun b k _ _ => agrS.refl _ _ _, fun h' _ => ⟨h', rfl, fun b k hw => by
    rcases hw with hw | hw
    · exact absurd hw not_wrote_nil
    · omega⟩⟩
theorem Loc.fail {α : Type} : Loc (.fail : M α) := by intro h n r h1 n1 L hm; cases hm
theorem Loc.lift {α : Type} (o : Option α) : Loc (.lift o) := by
  cases o with
  | none => intro h n r h1 n1 L hm; cases hm
  | some a => exact Loc.ret a
theorem Loc.bind {α β : Type} {m : M α} {f : α → M β} (hm : Loc m) (hf : ∀ a, Loc (f a)) : Loc (m.bind f) := by
  intro h n r h2 n2 L hr
  unfold M.bind at hr
  split at hr
  · rename_i a h1 n1 L1 e1
    split at hr
    · rename_i c h2' n2' L2 e2
      simp only [Option.some.injEq, Out.mk.injEq] at hr
      obtain ⟨rfl, rfl, rfl, rfl⟩ := hr
      have A := hm h n a h1 n1 L1 e1
      have B := hf a h1 n1 c h2' n2' L2 e2
      have hle1 := A.le
      have hle2 := B.le
      refine ⟨by omega, fun e he => ?_, fun b k hw hi => ?_, fun h' hag => ?_⟩
      · rcases List.mem_append.1 he with h | h
        · have := A.lt e h; omega
        · exact B.lt e h
      · rw [wrote_append] at hw
        exact (B.frame b k (fun x => hw (.inr x)) (by omega)).trans (A.frame b k (fun x => hw (.inl x)) (by omega))
      · obtain ⟨h1', r1, w1⟩ := A.det h' fun e he hi => hag e (List.mem_append.2 (.inl he)) (by have := A.lt e he; omega)
        have A' := hm h' n a h1' n1 L1 r1
        obtain ⟨h2', r2, w2⟩ := B.det h1' fun e he hi => by
          apply agrE.of_all
          intro k hk
          by_cases hw : wrote L1 e.b k ∨ (n ≤ e.b ∧ e.b < n1)
          · exact (w1 e.b k hw).symm
          · have hw1 : ¬ wrote L1 e.b k := fun x => hw (.inl x)
            have hw2 : ¬ (n ≤ e.b ∧ e.b < n1) := fun x => hw (.inr x)
            exact ((A.frame e.b k hw1 hw2).trans ((hag e (List.mem_append.2 (.inr he)) (by omega)).at_ hk)).trans (A'.frame e.b k hw1 hw2).symm
        have B' := hf a h1' n1 c h2' n2' L2 r2
        refine ⟨h2', by unfold M.bind; rw [r1]; simp only [r2], fun b k hw => ?_⟩
        rw [wrote_append] at hw
        by_cases hw2 : wrote L2 b k ∨ (n1 ≤ b ∧ b < n2')
        · exact w2 b k hw2
        · have hx1 : ¬ wrote L2 b k := fun x => hw2 (.inl x)
          have hx2 : ¬ (n1 ≤ b ∧ b < n2') := fun x => hw2 (.inr x)
          have hy : wrote L1 b k ∨ (n ≤ b ∧ b < n1) := by
            rcases hw with (hw | hw) | hw
            · exact .inl hw
            · exact absurd hw hx1
            · exact .inr (by omega)
          exact ((B'.frame b k hx1 hx2).trans (w1 b k hy)).trans (B.frame b k hx1 hx2).symm
    · cases hr
  · cases hr
theorem Loc.ite {α : Type} {c : Prop} [Decidable c] {x y : M α} (hx : Loc x) (hy : Loc y) : Loc (if c then x else y) := by
  by_cases h : c
  · rw [if_pos h]; exact hx
  · rw [if_neg h]; exact hy

theorem Loc.rd (b k : Nat) : Loc (Ev.rd b k) := by
  intro h n r h1 n1 L hr
  unfold Ev.rd at hr
  split at hr
  · rename_i hb
    split at hr
    · rename_i B hB
      split at hr
      · rename_i v hv
        simp only [Option.some.injEq, Out.mk.injEq] at hr
        obtain ⟨rfl, rfl, rfl, rfl⟩ := hr
        have nw : ∀ b' k', ¬ wrote [(⟨false, b, some k⟩ : En)] b' k' := by
          rintro b' k' ⟨e, he, hw, _⟩
          simp at he; subst he; cases hw
        refine ⟨Nat.le_refl _, fun e he => by simp at he; subst he; exact hb, fun b' k' _ _ => agrS.refl _ _ _, fun h' hag => ⟨h', ?_, fun b' k' hw => ?_⟩⟩
        · have := hag ⟨false, b, some k⟩ (by simp) (by show ¬ (n ≤ b ∧ b < n); omega)
          unfold agrE agrS at this
          simp only [H.cell, hB, Option.bind_some, hv] at this
          obtain ⟨_, t2⟩ := this
          cases hg : h'.get b with
          | none => rw [hg] at t2; simp at t2
          | some B' =>
            rw [hg] at t2
            simp at t2
            unfold Ev.rd
            rw [if_pos hb, hg]
            simp only [← t2]
        · rcases hw with hw | hw
          · exact absurd hw (nw _ _)
          · omega
      · cases hr
    · cases hr
  · cases hr
theorem set_cell {h : H} {b k : Nat} {B : AB} (hB : h.get b = some B) (v : Value) (b' k' : Nat) : (h.set b (some { B with cells := B.cells.set k v })).get b' = if b' = b then some { B with cells := B.cells.set k v } else h.get b' := H.get_set _ _
theorem Loc.wr (b k : Nat) (v : Value) : Loc (Ev.wr b k v) := by
  intro h n r h1 n1 L hr
  unfold Ev.wr at hr
  split at hr
  · rename_i hb
    split at hr
    · rename_i B hB
      split at hr
      · rename_i hc
        simp only [Option.some.injEq, Out.mk.injEq] at hr
        obtain ⟨_, rfl, rfl, rfl⟩ := hr
        have hcc := hc
        simp only [Bool.and_eq_true, decide_eq_true_eq] at hcc
        obtain ⟨⟨hown, hk⟩, hone⟩ := hcc
        refine ⟨Nat.le_refl _, fun e he => by simp at he; rcases he with rfl | rfl <;> exact hb, fun b' k' hw _ => ?_, fun h' hag => ?_⟩
        · unfold agrS H.hd H.cell
          rw [set_cell hB v b' k']
          by_cases e : b' = b
          · subst e
            rw [if_pos rfl, hB]
            have hkk : k ≠ k' := fun e => hw ⟨⟨true, b', some k⟩, by simp, rfl, rfl, .inr (by rw [e])⟩
            simp [Ev.hd, List.getElem?_set_ne hkk]
          · rw [if_neg e]; exact ⟨rfl, rfl⟩
        · have := hag ⟨false, b, some k⟩ (by simp) (by show ¬ (n ≤ b ∧ b < n); omega)
          unfold agrE agrS at this
          simp only [H.hd, H.cell, hB, Option.map_some, Option.bind_some] at this
          obtain ⟨t1, t2⟩ := this
          cases hg : h'.get b with
          | none => rw [hg] at t1; simp at t1
          | some B' =>
            rw [hg] at t1 t2
            simp [Ev.hd] at t1
            obtain ⟨q1, q2, q3⟩ := t1
            refine ⟨h'.set b (some { B' with cells := B'.cells.set k v }), ?_, fun b' k' hw => ?_⟩
            · unfold Ev.wr
              rw [if_pos hb, hg]
              simp only
              rw [if_pos (by rw [← q2, ← q3]; exact hc)]
            · have hbk : b' = b ∧ k' = k := by
                rcases hw with ⟨e, he, hw, rfl, hk'⟩ | hw
                · simp at he
                  rcases he with rfl | rfl
                  · cases hw
                  · simp at hk'; exact ⟨rfl, hk'.symm⟩
                · omega
              obtain ⟨rfl, rfl⟩ := hbk
              unfold agrS H.hd H.cell
              rw [set_cell hB v b' k', set_cell hg v b' k', if_pos rfl, if_pos rfl]
              refine ⟨?_, ?_⟩
              · simp [Ev.hd, q1, q2, q3]
              · simp [hk, ← q3]
      · cases hr
    · cases hr
  · cases hr
theorem Loc.newB (e : TypeId) (cs : List Value) : Loc (Ev.newB e cs) := by
  intro h n r h1 n1 L hr
  unfold Ev.newB at hr
  split at hr
  · rename_i hn
    simp only [Option.some.injEq, Out.mk.injEq] at hr
    obtain ⟨rfl, rfl, rfl, rfl⟩ := hr
    refine ⟨by omega, (fun e he => nomatch he), fun b k _ hi => ?_, fun h' _ => ⟨h'.set n (some ⟨e, true, cs⟩), ?_, fun b k hw => ?_⟩⟩
    · apply agrS.of_get
      rw [H.get_set _ _, if_neg (by omega)]
    · unfold Ev.newB
      rw [if_pos hn]
    · have hb : b = n := by
        rcases hw with hw | hw
        · exact absurd hw not_wrote_nil
        · omega
      subst hb
      apply agrS.of_get
      rw [H.get_set _ _, H.get_set _ _]
      simp
  · cases hr
theorem Loc.whole (b : Nat) : Loc (Ev.whole b) := by
  intro h n r h1 n1 L hr
  unfold Ev.whole at hr
  split at hr
  · rename_i hb
    split at hr
    · rename_i B hB
      simp only [Option.some.injEq, Out.mk.injEq] at hr
      obtain ⟨rfl, rfl, rfl, rfl⟩ := hr
      refine ⟨Nat.le_refl _, fun e he => by simp at he; subst he; exact hb, fun b' k' _ _ => agrS.refl _ _ _, fun h' hag => ⟨h', ?_, fun b' k' hw => ?_⟩⟩
      · have := hag ⟨false, b, none⟩ (by simp) (by show ¬ (n ≤ b ∧ b < n); omega)
        unfold agrE at this
        simp only [hB] at this
        unfold Ev.whole
        rw [if_pos hb, ← this]
      · rcases hw with ⟨e, he, hw, _⟩ | hw
        · simp at he; subst he; cases hw
        · omega
    · cases hr
  · cases hr
theorem Loc.hdr (b : Nat) : Loc (Ev.hdr b) := by
  intro h n r h1 n1 L hr
  unfold Ev.hdr at hr
  split at hr
  · rename_i hb
    split at hr
    · rename_i B hB
      simp only [Option.some.injEq, Out.mk.injEq] at hr
      obtain ⟨rfl, rfl, rfl, rfl⟩ := hr
      refine ⟨Nat.le_refl _, fun e he => by simp at he; subst he; exact hb, fun b' k' _ _ => agrS.refl _ _ _, fun h' hag => ⟨h', ?_, fun b' k' hw => ?_⟩⟩
      · have := hag ⟨false, b, some 1099511627776⟩ (by simp) (by show ¬ (n ≤ b ∧ b < n); omega)
        unfold agrE agrS at this
        simp only [H.hd, hB, Option.map_some] at this
        cases hg : h'.get b with
        | none => rw [hg] at this; simp at this
        | some B' =>
          rw [hg] at this
          simp [Ev.hd] at this
          unfold Ev.hdr
          rw [if_pos hb, hg]
          simp only [← this.1.1]
      · rcases hw with ⟨e, he, hw, _⟩ | hw
        · simp at he; subst he; cases hw
        · omega
    · cases hr
  · cases hr
theorem Loc.kill (b : Nat) : Loc (Ev.kill b) := by
  intro h n r h1 n1 L hr
  unfold Ev.kill at hr
  split at hr
  · rename_i hb
    split at hr
    · rename_i B hB
      split at hr
      · rename_i ho
        simp only [Option.some.injEq, Out.mk.injEq] at hr
        obtain ⟨_, rfl, rfl, rfl⟩ := hr
        refine ⟨Nat.le_refl _, fun e he => by simp at he; rcases he with rfl | rfl <;> exact hb, fun b' k' hw _ => ?_, fun h' hag => ⟨h'.set b none, ?_, fun b' k' hw => ?_⟩⟩
        · apply agrS.of_get
          rw [H.get_set _ _, if_neg]
          rintro rfl
          exact hw ⟨⟨true, b', none⟩, by simp, rfl, rfl, .inl rfl⟩
        · have := hag ⟨false, b, none⟩ (by simp) (by show ¬ (n ≤ b ∧ b < n); omega)
          unfold agrE at this
          simp only [hB] at this
          unfold Ev.kill
          rw [if_pos hb, ← this]
          simp only [ho, if_true]
        · have hbb : b' = b := by
            rcases hw with ⟨e, he, hw, rfl, _⟩ | hw
            · simp at he
              rcases he with rfl | rfl <;> rfl
            · omega
          subst hbb
          apply agrS.of_get
          rw [H.get_set _ _, H.get_set _ _]
          simp
      · cases hr
    · cases hr
  · cases hr
theorem Loc.rdN (b : Nat) : ∀ (n k : Nat), Loc (Ev.rdN b k n) := by
  intro n
  induction n with
  | zero => intro k; exact Loc.ret _
  | succ n ih => intro k; exact Loc.bind (Loc.rd _ _) fun v => Loc.bind (ih _) fun vs => Loc.ret _
theorem Loc.wrN (b : Nat) : ∀ (vs : List Value) (k : Nat), Loc (Ev.wrN b k vs) := by
  intro vs
  induction vs with
  | nil => intro k; exact Loc.ret _
  | cons v vs ih => intro k; exact Loc.bind (Loc.wr _ _ _) fun _ => ih _
theorem wrote_filter {L : List En} {n n1 b k : Nat} (hi : ¬ (n ≤ b ∧ b < n1)) : wrote (L.filter fun e => !(n ≤ e.b && e.b < n1)) b k ↔ wrote L b k := by
  unfold wrote
  constructor
  · rintro ⟨e, he, hr⟩
    exact ⟨e, (List.mem_filter.1 he).1, hr⟩
  · rintro ⟨e, he, h1, h2, h3⟩
    refine ⟨e, List.mem_filter.2 ⟨he, ?_⟩, h1, h2, h3⟩
    rw [h2]
    simp
    omega
theorem LocAt.filter {α : Type} {m m' : M α} {h h1 : H} {n n1 : Nat} {r : α} {L : List En} (A : LocAt m h n r h1 n1 L)
    (hm : ∀ h' h1', m h' n = some ⟨r, h1', n1, L⟩ → m' h' n = some ⟨r, h1', n1, L.filter fun e => !(n ≤ e.b && e.b < n1)⟩) : LocAt m' h n r h1 n1 (L.filter fun e => !(n ≤ e.b && e.b < n1)) := by
  refine ⟨A.le, fun e he => A.lt e (List.mem_filter.1 he).1, fun b k hw hi => A.frame b k (fun x => hw ((wrote_filter hi).2 x)) hi, fun h' hag => ?_⟩
  obtain ⟨h1', r1, w1⟩ := A.det h' fun e he hi => hag e (List.mem_filter.2 ⟨he, by simp; omega⟩) hi
  refine ⟨h1', hm h' h1' r1, fun b k hw => w1 b k ?_⟩
  by_cases hi : n ≤ b ∧ b < n1
  · exact .inr hi
  · rcases hw with hw | hw
    · exact .inl ((wrote_filter hi).1 hw)
    · exact .inr hw
theorem Loc.inside {α : Type} {m : M α} (hm : Loc m) : Loc (Ev.inside m) := by
  intro h n r h1 n1 L hr
  unfold Ev.inside at hr
  split at hr
  · rename_i a h1' n1' L' e1
    simp only [Option.some.injEq, Out.mk.injEq] at hr
    obtain ⟨rfl, rfl, rfl, rfl⟩ := hr
    refine (hm h n a h1' n1' L' e1).filter fun h' h1'' e => ?_
    unfold Ev.inside
    rw [e]
  · cases hr
theorem Loc.timed {α : Type} {m : M α} (hm : Loc m) : Loc (Ev.timed m) := by
  intro h n r h1 n1 L hr
  unfold Ev.timed at hr
  split at hr
  · rename_i a h1' n1' L' e1
    simp only [Option.some.injEq, Out.mk.injEq] at hr
    obtain ⟨rfl, rfl, rfl, rfl⟩ := hr
    have A := hm h n a h1' n1' L' e1
    refine ⟨A.le, A.lt, A.frame, fun h' hag => ?_⟩
    obtain ⟨h2, r2, w2⟩ := A.det h' hag
    exact ⟨h2, by unfold Ev.timed; rw [r2], w2⟩
  · cases hr

theorem Loc.elemsOf (sz n : Nat) (x : Value) : Loc (Ev.elemsOf sz n x) := by
  unfold Ev.elemsOf
  repeat' (first | exact Loc.ret _ | exact Loc.fail | exact Loc.lift _ | exact Loc.rd _ _ | exact Loc.rdN _ _ _ | exact Loc.wrN _ _ _ | exact Loc.whole _ | exact Loc.kill _ | exact Loc.newB _ _ | refine Loc.bind ?_ fun _ => ?_ | split)
theorem Loc.evNew (e : TypeId) (l n : Nat) (old new : List Value) : Loc (Ev.evNew e l n old new) := by
  unfold Ev.evNew
  repeat' (first | exact Loc.ret _ | exact Loc.fail | exact Loc.lift _ | exact Loc.rdN _ _ _ | exact Loc.wrN _ _ _ | exact Loc.hdr _ | exact Loc.kill _ | exact Loc.newB _ _ | refine Loc.bind ?_ fun _ => ?_ | split)
theorem Loc.evAppendTo (e : TypeId) (n sz b off l cap : Nat) (new : List Value) : Loc (Ev.evAppendTo e n sz b off l cap new) := by
  unfold Ev.evAppendTo
  repeat' (first | exact Loc.ret _ | exact Loc.fail | exact Loc.lift _ | exact Loc.rdN _ _ _ | exact Loc.wrN _ _ _ | exact Loc.hdr _ | exact Loc.kill _ | exact Loc.newB _ _ | exact Loc.evNew _ _ _ _ _ | refine Loc.bind ?_ fun _ => ?_ | split)
theorem Loc.evAppend (P : Program) (t : TypeId) (s x : Value) : Loc (Ev.evAppend P t s x) := by
  unfold Ev.evAppend
  repeat' (first | exact Loc.ret _ | exact Loc.fail | exact Loc.lift _ | exact Loc.rdN _ _ _ | exact Loc.wrN _ _ _ | exact Loc.hdr _ | exact Loc.kill _ | exact Loc.newB _ _ | exact Loc.elemsOf _ _ _ | exact Loc.evNew _ _ _ _ _ | exact Loc.evAppendTo _ _ _ _ _ _ _ _ | refine Loc.bind ?_ fun _ => ?_ | split)
theorem Loc.evCopy (P : Program) (t : TypeId) (d s : Value) : Loc (Ev.evCopy P t d s) := by
  unfold Ev.evCopy
  repeat' (first | exact Loc.ret _ | exact Loc.fail | exact Loc.lift _ | exact Loc.wrN _ _ _ | exact Loc.elemsOf _ _ _ | refine Loc.bind ?_ fun _ => ?_ | split)
theorem Loc.evPlain (P : Program) (ρ : Operand → Value) (o : Oper) : Loc (Ev.evPlain P ρ o) := by
  unfold Ev.evPlain
  repeat' (first | exact Loc.ret _ | exact Loc.fail | exact Loc.lift _ | exact Loc.rd _ _ | exact Loc.rdN _ _ _ | exact Loc.wrN _ _ _ | exact Loc.whole _ | exact Loc.kill _ | exact Loc.newB _ _ | refine Loc.bind ?_ fun _ => ?_ | split)
theorem Loc.evCallOp (P : Program) (ρ : Operand → Value) (o : Oper) (c : Call) (args : Array Value) : Loc (Ev.evCallOp P ρ o c args) := by
  unfold Ev.evCallOp
  repeat' (first | exact Loc.ret _ | exact Loc.fail | exact Loc.lift _ | exact Loc.rd _ _ | exact Loc.rdN _ _ _ | exact Loc.wrN _ _ _ | exact Loc.whole _ | exact Loc.kill _ | exact Loc.newB _ _ | exact Loc.evAppend _ _ _ _ | exact Loc.evCopy _ _ _ _ | exact Loc.evPlain _ _ _ | refine Loc.bind ?_ fun _ => ?_ | split)
theorem Loc.evAlloc (P : Program) (e : TypeId) : Loc (Ev.evAlloc P e) := by
  unfold Ev.evAlloc
  repeat' (first | exact Loc.ret _ | exact Loc.fail | exact Loc.lift _ | exact Loc.rd _ _ | exact Loc.rdN _ _ _ | exact Loc.wrN _ _ _ | exact Loc.whole _ | exact Loc.kill _ | exact Loc.newB _ _ | refine Loc.bind ?_ fun _ => ?_ | split)
theorem Loc.evBox (P : Program) (e : TypeId) (v : Value) : Loc (Ev.evBox P e v) := by
  unfold Ev.evBox
  repeat' (first | exact Loc.ret _ | exact Loc.fail | exact Loc.lift _ | exact Loc.rd _ _ | exact Loc.rdN _ _ _ | exact Loc.wrN _ _ _ | exact Loc.whole _ | exact Loc.kill _ | exact Loc.newB _ _ | refine Loc.bind ?_ fun _ => ?_ | split)
theorem Loc.evBuild (P : Program) (t : TypeId) (l : List (Nat × Value)) : Loc (Ev.evBuild P t l) := by
  unfold Ev.evBuild
  repeat' (first | exact Loc.ret _ | exact Loc.fail | exact Loc.lift _ | exact Loc.rd _ _ | exact Loc.rdN _ _ _ | exact Loc.wrN _ _ _ | exact Loc.whole _ | exact Loc.kill _ | exact Loc.newB _ _ | refine Loc.bind ?_ fun _ => ?_ | split)
theorem Loc.evBuildSlice (P : Program) (t : TypeId) (n : Nat) (l : List (Nat × Value)) : Loc (Ev.evBuildSlice P t n l) := by
  unfold Ev.evBuildSlice
  repeat' (first | exact Loc.ret _ | exact Loc.fail | exact Loc.lift _ | exact Loc.rd _ _ | exact Loc.rdN _ _ _ | exact Loc.wrN _ _ _ | exact Loc.whole _ | exact Loc.kill _ | exact Loc.newB _ _ | refine Loc.bind ?_ fun _ => ?_ | split)
theorem Loc.evLoad (P : Program) (t : TypeId) (v : Value) : Loc (Ev.evLoad P t v) := by
  unfold Ev.evLoad
  repeat' (first | exact Loc.ret _ | exact Loc.fail | exact Loc.lift _ | exact Loc.rd _ _ | exact Loc.rdN _ _ _ | exact Loc.wrN _ _ _ | exact Loc.whole _ | exact Loc.kill _ | exact Loc.newB _ _ | refine Loc.bind ?_ fun _ => ?_ | split)
theorem Loc.evStore (P : Program) (t : TypeId) (a v : Value) : Loc (Ev.evStore P t a v) := by
  unfold Ev.evStore
  repeat' (first | exact Loc.ret _ | exact Loc.fail | exact Loc.lift _ | exact Loc.rd _ _ | exact Loc.rdN _ _ _ | exact Loc.wrN _ _ _ | exact Loc.whole _ | exact Loc.kill _ | exact Loc.newB _ _ | refine Loc.bind ?_ fun _ => ?_ | split)
theorem Loc.evNilCheck (v : Value) : Loc (Ev.evNilCheck v) := by
  unfold Ev.evNilCheck
  repeat' (first | exact Loc.ret _ | exact Loc.fail | exact Loc.lift _ | exact Loc.rd _ _ | exact Loc.rdN _ _ _ | exact Loc.wrN _ _ _ | exact Loc.whole _ | exact Loc.kill _ | exact Loc.newB _ _ | refine Loc.bind ?_ fun _ => ?_ | split)
theorem Loc.evToStr (v : Value) : Loc (Ev.evToStr v) := by
  unfold Ev.evToStr
  repeat' (first | exact Loc.ret _ | exact Loc.fail | exact Loc.lift _ | exact Loc.rd _ _ | exact Loc.rdN _ _ _ | exact Loc.wrN _ _ _ | exact Loc.whole _ | exact Loc.kill _ | exact Loc.newB _ _ | refine Loc.bind ?_ fun _ => ?_ | split)
theorem Loc.evToBytes (e : TypeId) (s : ByteArray) : Loc (Ev.evToBytes e s) := by
  unfold Ev.evToBytes
  repeat' (first | exact Loc.ret _ | exact Loc.fail | exact Loc.lift _ | exact Loc.rd _ _ | exact Loc.rdN _ _ _ | exact Loc.wrN _ _ _ | exact Loc.whole _ | exact Loc.kill _ | exact Loc.newB _ _ | refine Loc.bind ?_ fun _ => ?_ | split)
theorem Loc.evMakeSlice (P : Program) (t : TypeId) (l c : Value) : Loc (Ev.evMakeSlice P t l c) := by
  unfold Ev.evMakeSlice
  repeat' (first | exact Loc.ret _ | exact Loc.fail | exact Loc.lift _ | exact Loc.rd _ _ | exact Loc.rdN _ _ _ | exact Loc.wrN _ _ _ | exact Loc.whole _ | exact Loc.kill _ | exact Loc.newB _ _ | refine Loc.bind ?_ fun _ => ?_ | split)
theorem Loc.evSliceM (P : Program) (t : TypeId) (x : Value) (a b c : Option Value) : Loc (Ev.evSliceM P t x a b c) := by
  unfold Ev.evSliceM
  repeat' (first | exact Loc.fail | exact Loc.lift _ | exact Loc.hdr _ | refine Loc.bind ?_ fun _ => ?_ | split)
theorem Loc.evOp (P : Program) (ρ : Operand → Value) (o : Oper) : Loc (Ev.evOp P ρ o) := by
  unfold Ev.evOp
  repeat' (first | exact Loc.ret _ | exact Loc.fail | exact Loc.lift _ | exact Loc.rd _ _ | exact Loc.rdN _ _ _ | exact Loc.wrN _ _ _ | exact Loc.whole _ | exact Loc.kill _ | exact Loc.newB _ _ | exact Loc.evPlain _ _ _ | exact Loc.evSliceM _ _ _ _ _ _  | exact Loc.evCallOp _ _ _ _ _  | exact Loc.evAlloc _ _  | exact Loc.evBox _ _ _  | exact Loc.evBuild _ _ _  | exact Loc.evBuildSlice _ _ _ _  | exact Loc.evLoad _ _ _  | exact Loc.evStore _ _ _ _  | exact Loc.evNilCheck _  | exact Loc.evToStr _  | exact Loc.evToBytes _ _  | exact Loc.evMakeSlice _ _ _ _  | refine Loc.bind ?_ fun _ => ?_ | split)
section
variable {P : Program} {rec : FuncId → Array Value → M Value} {nt : Nat}
theorem Loc.evVal (hrec : ∀ f a, Loc (rec f a)) (ops : Array Oper) (o : Oper) (s : S) : Loc (Ev.evVal P rec ops o s) := by
  unfold Ev.evVal
  repeat' (first | exact Loc.ret _ | exact Loc.fail | exact Loc.lift _ | exact Loc.evOp _ _ _ | exact hrec _ _ | refine Loc.bind ?_ fun _ => ?_ | split)
theorem Loc.evOpers (hrec : ∀ f a, Loc (rec f a)) (ops : Array Oper) : ∀ (l : List Oper) (s : S), Loc (Ev.evOpers P rec nt ops l s) := by
  intro l
  induction l with
  | nil => intro s; exact Loc.ret _
  | cons o r ih => intro s; exact Loc.bind (Loc.timed (Loc.inside (Loc.evVal hrec _ _ _))) fun x => Loc.bind (Loc.lift _) fun s1 => Loc.bind (ih _) fun y => Loc.ret _
theorem Loc.evRegion (hrec : ∀ f a, Loc (rec f a)) (ops : Array Oper) (draw : Bool) (s : S) : Loc (Ev.evRegion P rec nt ops draw s) :=
  Loc.bind (Loc.evOpers hrec _ _ _) fun y => Loc.ite (Loc.ret _) Loc.fail
theorem Loc.evCode (hrec : ∀ f a, Loc (rec f a)) : ∀ (fuel : Nat) (c : Code) (s : S), Loc (Ev.evCode P rec nt fuel c s) := by
  intro fuel
  induction fuel with
  | zero => intro c s; exact Loc.fail
  | succ f ih =>
    intro c s
    cases c <;> unfold Ev.evCode <;> simp only
    all_goals repeat' (first | exact Loc.ret _ | exact Loc.fail | exact ih _ _ | exact Loc.evRegion hrec _ _ _ | refine Loc.bind ?_ fun _ => ?_ | split)
end
theorem Loc.evResults (P : Program) (s : S) : ∀ l, Loc (Ev.evResults P s l) := by
  intro l
  induction l with
  | nil => exact Loc.ret _
  | cons r l ih =>
    cases r <;> unfold Ev.evResults
    · exact Loc.bind ih fun _ => Loc.ret _
    · exact Loc.bind (Loc.evLoad _ _ _) fun _ => Loc.bind ih fun _ => Loc.ret _
theorem Loc.chkG (P : Program) : ∀ l, Loc (Ev.chkG P l) := by
  intro l
  induction l with
  | nil => exact Loc.ret _
  | cons g l ih =>
    unfold Ev.chkG
    refine Loc.bind (Loc.rd _ _) fun u => ?_
    split
    · exact ih
    · exact Loc.fail
theorem Loc.evNat (f : FuncId) (k : Nat) (args : List Value) : Loc (Ev.evNat f k args) := by
  unfold Ev.evNat
  split
  · unfold Ev.evNat1
    split
    · unfold Ev.evIdx
      refine Loc.bind (Loc.rdN _ _ _) fun vs => ?_
      unfold Ev.idxIn
      split
      · exact Loc.ret _
      · exact Loc.fail
    · exact Loc.fail
  · unfold Ev.evNat2
    split
    · unfold Ev.evRep
      split
      · exact Loc.ret _
      · exact Loc.fail
    · exact Loc.fail
  · unfold Ev.evNat3
    split
    · exact Loc.lift _
    · exact Loc.fail
  · unfold Ev.evNat4
    split
    · exact Loc.lift _
    · refine Loc.bind (Loc.rdN _ _ _) fun vs => ?_
      split
      · exact Loc.lift _
      · exact Loc.fail
    · exact Loc.fail
  · exact Loc.fail
theorem Loc.evCall (P : Program) (bad : List FuncId) : ∀ (fuel : Nat) (f : FuncId) (args : Array Value), Loc (Ev.evCall P bad fuel f args) := by
  intro fuel
  induction fuel with
  | zero => intro f a; exact Loc.fail
  | succ fuel ih =>
    intro f args
    unfold Ev.evCall
    repeat' (first | exact Loc.ret _ | exact Loc.fail | exact Loc.chkG _ _ | exact Loc.evNat _ _ _ | exact Loc.evCode ih _ _ _ | exact Loc.evResults _ _ _ | refine Loc.inside ?_ | refine Loc.bind ?_ fun _ => ?_ | split)

end Go.Proofs.YtcehhgppfahbkaaGreatDoor.Ev
namespace Go.Proofs.YtcehhgppfahbkaaGreatDoor.Ev
set_option linter.unusedVariables false
set_option linter.unusedSimpArgs false
open Go Go.RowKit

theorem bind_some {α β : Type} {m : M α} {f : α → M β} {h : H} {n : Nat} {c : β} {h2 : H} {n2 : Nat} {L : List En} (hr : (m.bind f) h n = some ⟨c, h2, n2, L⟩) :
    ∃ a h1 n1 L1 L2, m h n = some ⟨a, h1, n1, L1⟩ ∧ f a h1 n1 = some ⟨c, h2, n2, L2⟩ ∧ L = L1 ++ L2 := by
  unfold M.bind at hr
  split at hr
  · rename_i a h1 n1 L1 e1
    split at hr
    · rename_i c' h2' n2' L2 e2
      simp only [Option.some.injEq, Out.mk.injEq] at hr
      obtain ⟨rfl, rfl, rfl, rfl⟩ := hr
      exact ⟨a, h1, n1, L1, L2, e1, e2, rfl⟩
    · cases hr
  · cases hr
theorem ret_some {α : Type} {a c : α} {h h2 : H} {n n2 : Nat} {L : List En} (hr : (M.ret a) h n = some ⟨c, h2, n2, L⟩) : c = a ∧ h2 = h ∧ n2 = n := by
  simp only [M.ret, Option.some.injEq, Out.mk.injEq] at hr
  exact ⟨hr.1.symm, hr.2.1.symm, hr.2.2.1.symm⟩
theorem lift_some {α : Type} {o : Option α} {c : α} {h h2 : H} {n n2 : Nat} {L : List En} (hr : (M.lift o) h n = some ⟨c, h2, n2, L⟩) : o = some c ∧ h2 = h ∧ n2 = n := by
  unfold M.lift at hr
  cases o with
  | none => cases hr
  | some a =>
    simp only [Option.some.injEq, Out.mk.injEq] at hr
    exact ⟨by rw [hr.1], hr.2.1.symm, hr.2.2.1.symm⟩

structure Ds where
  blk : Nat
  sh : Nat
  tot : Nat
  esz : Nat
  el : TypeId
abbrev Mp := Nat → Option Ds

mutual
inductive VR (m : Mp) : Value → Value → Prop
  | bool (b : Bool) : VR m (.bool b) (.bool b)
  | int (k : IntKind) (n : Int) : VR m (.int k n) (.int k n)
  | float (k : FloatKind) (n : Nat) : VR m (.float k n) (.float k n)
  | string (s : ByteArray) : VR m (.string s) (.string s)
  | pnil : VR m (.pointer none) (.pointer none)
  | ptr {b off : Nat} {d : Ds} (h : m b = some d) : VR m (.pointer (some ⟨b, off, none⟩)) (.pointer (some ⟨d.blk, d.sh + off, none⟩))
  | snil (n c : Nat) (hc : n ≤ c ∧ c < CAP) : VR m (.slice none n c) (.slice none n c)
  | slc {b off n cap cap' o' : Nat} {d : Ds} (h : m b = some d) (ho : 0 < n ∨ cap < CAP → o' = d.sh + off) (h1 : cap < CAP → cap' = cap) (h2 : CAP ≤ cap → CAP + n ≤ cap ∧ cap ≤ CAP + cap') (hn : n ≤ cap') (ht : o' + cap' * d.esz ≤ d.tot) :
      VR m (.slice (some ⟨b, off, none⟩) n cap) (.slice (some ⟨d.blk, o', none⟩) n cap')
  | semp (b off s : Nat) (a' : Addr) : VR m (.slice (some ⟨b, off, some s⟩) 0 0) (.slice (some a') 0 0)
  | func (fn : Fn) {f c f' c' : Array Value} (h1 : VRs m f.toList f'.toList) (h2 : VRs m c.toList c'.toList) : VR m (.func fn f c) (.func fn f' c')
  | nilFunc : VR m .nilFunc .nilFunc
  | agg {cs cs' : Array Value} (h : VRs m cs.toList cs'.toList) : VR m (.agg cs) (.agg cs')
  | tuple {cs cs' : Array Value} (h : VRs m cs.toList cs'.toList) : VR m (.tuple cs) (.tuple cs')
inductive VRs (m : Mp) : List Value → List Value → Prop
  | nil : VRs m [] []
  | cons {v v' : Value} {l l' : List Value} (h : VR m v v') (t : VRs m l l') : VRs m (v :: l) (v' :: l')
end

def Le (m m' : Mp) : Prop := ∀ b d, m b = some d → m' b = some d
theorem Le.refl (m : Mp) : Le m m := fun _ _ h => h
theorem Le.trans {a b c : Mp} (h : Le a b) (k : Le b c) : Le a c := fun x d e => k x d (h x d e)
mutual
theorem VR.mono {m m' : Mp} (hl : Le m m') : ∀ {v v' : Value}, VR m v v' → VR m' v v'
  | _, _, .bool b => .bool b
  | _, _, .int k n => .int k n
  | _, _, .float k n => .float k n
  | _, _, .string s => .string s
  | _, _, .pnil => .pnil
  | _, _, .ptr h => .ptr (hl _ _ h)
  | _, _, .snil n c hc => .snil n c hc
  | _, _, .slc h ho h1 h2 hn ht => .slc (hl _ _ h) ho h1 h2 hn ht
  | _, _, .semp b off s a' => .semp b off s a'
  | _, _, .func fn h1 h2 => .func fn (VRs.mono hl h1) (VRs.mono hl h2)
  | _, _, .nilFunc => .nilFunc
  | _, _, .agg h => .agg (VRs.mono hl h)
  | _, _, .tuple h => .tuple (VRs.mono hl h)
theorem VRs.mono {m m' : Mp} (hl : Le m m') : ∀ {l l' : List Value}, VRs m l l' → VRs m' l l'
  | _, _, .nil => .nil
  | _, _, .cons h t => .cons (VR.mono hl h) (VRs.mono hl t)
end
theorem VRs.length {m : Mp} : ∀ {l l' : List Value}, VRs m l l' → l.length = l'.length
  | _, _, .nil => rfl
  | _, _, .cons _ t => by simp [VRs.length t]
theorem VRs.get {m : Mp} : ∀ {l l' : List Value}, VRs m l l' → ∀ (k : Nat) (v : Value), l[k]? = some v → ∃ v', l'[k]? = some v' ∧ VR m v v'
  | _, _, .nil, k, v, h => by simp at h
  | _, _, .cons h t, k, v, hk => by
    cases k with
    | zero => simp at hk; subst hk; exact ⟨_, rfl, h⟩
    | succ k => simp at hk; simpa using VRs.get t k v hk
theorem VRs.of_get {m : Mp} : ∀ {l l' : List Value}, l.length = l'.length → (∀ (k : Nat) (v : Value), l[k]? = some v → ∃ v', l'[k]? = some v' ∧ VR m v v') → VRs m l l'
  | [], [], _, _ => .nil
  | v :: l, v' :: l', hl, h => by
    obtain ⟨u, hu, hr⟩ := h 0 v rfl
    simp at hu; subst hu
    exact .cons hr (VRs.of_get (by simpa using hl) fun k x hk => by simpa using h (k + 1) x (by simpa using hk))
theorem VRs.append {m : Mp} : ∀ {a a' b b' : List Value}, VRs m a a' → VRs m b b' → VRs m (a ++ b) (a' ++ b')
  | _, _, _, _, .nil, k => k
  | _, _, _, _, .cons h t, k => .cons h (VRs.append t k)
theorem VRs.set {m : Mp} : ∀ {a a' : List Value} (k : Nat) {v v' : Value}, VRs m a a' → VR m v v' → VRs m (a.set k v) (a'.set k v')
  | _, _, _, _, _, .nil, _ => .nil
  | _, _, 0, _, _, .cons _ t, h => .cons h t
  | _, _, k + 1, _, _, .cons u t, h => .cons u (VRs.set k t h)
theorem VRs.map {m : Mp} {α : Type} {f g : α → Value} : ∀ (l : List α), (∀ x, VR m (f x) (g x)) → VRs m (l.map f) (l.map g)
  | [], _ => .nil
  | x :: l, h => .cons (h x) (VRs.map l h)
theorem VR.scalar {m : Mp} {v v' : Value} (h : VR m v v') (hs : Ev.scalar v = true) : v' = v := by
  cases h <;> first | rfl | cases hs
theorem VR.self {m : Mp} {v : Value} (hs : Ev.scalar v = true) : VR m v v := by
  cases v <;> first | exact .bool _ | exact .int _ _ | exact .string _ | cases hs
theorem VR.one {m : Mp} {v v' : Value} (h : VR m v v') : Ev.one v' = Ev.one v := by cases h <;> rfl
theorem VR.cells {m : Mp} {v v' : Value} (h : VR m v v') : VRs m v.cells.toList v'.cells.toList := by
  cases h with
  | agg h => exact h
  | bool b => exact .cons (.bool b) .nil
  | int k n => exact .cons (.int k n) .nil
  | float k n => exact .cons (.float k n) .nil
  | string s => exact .cons (.string s) .nil
  | pnil => exact .cons .pnil .nil
  | ptr h => exact .cons (.ptr h) .nil
  | snil n c hc => exact .cons (.snil n c hc) .nil
  | slc h ho h1 h2 hn ht => exact .cons (.slc h ho h1 h2 hn ht) .nil
  | semp b off s a' => exact .cons (.semp b off s a') .nil
  | func fn h1 h2 => exact .cons (.func fn h1 h2) .nil
  | nilFunc => exact .cons .nilFunc .nil
  | tuple h => exact .cons (.tuple h) .nil
theorem VR.undef {m : Mp} : VR m Go.undef Go.undef := .tuple .nil
theorem VR.cells_size {m : Mp} {v v' : Value} (h : VR m v v') : v.cells.size = v'.cells.size := by
  have := h.cells.length
  simpa using this

structure WR (P : Program) (m : Mp) (base : Nat) (h : H) (hp : Array Obj) : Prop where
  live : ∀ b B, h.get b = some B → ∃ d cs lo hi, m b = some d ∧ hp[d.blk]? = some (.cells cs d.el (lo, hi)) ∧ cs.size = d.tot ∧ d.sh + B.cells.length ≤ d.tot ∧
    size? P B.elem = some d.esz ∧ (B.own = true → d.el = B.elem ∧ base ≤ d.blk ∧ ∀ k, k < d.tot → ¬ (lo ≤ k ∧ k < hi)) ∧ ∀ k v, B.cells[k]? = some v → ∃ v', cs[d.sh + k]? = some v' ∧ VR m v v'
  inj : ∀ b b' B B' d d', h.get b = some B → h.get b' = some B' → (B.own = true ∨ B'.own = true) → m b = some d → m b' = some d' → d.blk = d'.blk → b = b'

theorem WR.of_get {P : Program} {m : Mp} {base : Nat} {h h' : H} {hp : Array Obj} (x : WR P m base h hp) (e : ∀ b, h'.get b = h.get b) : WR P m base h' hp :=
  ⟨fun b B hb => x.live b B (by rw [← e]; exact hb), fun b b' B B' d d' hb hb' => x.inj b b' B B' d d' (by rw [← e]; exact hb) (by rw [← e]; exact hb')⟩
theorem WR.lt {P : Program} {m : Mp} {base : Nat} {h : H} {hp : Array Obj} (x : WR P m base h hp) {b : Nat} {B : AB} (hb : h.get b = some B) : ∃ d, m b = some d ∧ d.blk < hp.size := by
  obtain ⟨d, cs, lo, hi, hm, hg, _⟩ := x.live b B hb
  exact ⟨d, hm, (Array.getElem?_eq_some_iff.1 hg).1⟩

structure Post (P : Program) (m : Mp) (base n n1 : Nat) (w : World) (h1 : H) (m' : Mp) (w' : World) : Prop where
  le : Le m m'
  out : ∀ b, ¬ (n ≤ b ∧ b < n1) → m' b = m b
  wr : WR P m' base h1 w'.heap
  below : Below base w w'
theorem Post.refl {P : Program} {m : Mp} {base n : Nat} {w : World} {h : H} (x : WR P m base h w.heap) : Post P m base n n w h m w :=
  ⟨Le.refl _, fun _ _ => rfl, x, Below.refl _ _⟩
theorem Post.trans {P : Program} {m m' m'' : Mp} {base n n1 n2 : Nat} {w w' w'' : World} {h1 h2 : H} (h01 : n ≤ n1) (h12 : n1 ≤ n2) (x : Post P m base n n1 w h1 m' w') (y : Post P m' base n1 n2 w' h2 m'' w'') : Post P m base n n2 w h2 m'' w'' :=
  ⟨x.le.trans y.le, fun b hb => (y.out b (by omega)).trans (x.out b (by omega)), y.wr, x.below.trans y.below⟩
def Fresh (m : Mp) (n n1 : Nat) : Prop := ∀ b, n ≤ b → b < n1 → m b = none
theorem Fresh.after {P : Program} {m m' : Mp} {base n n1 n2 : Nat} {w w' : World} {h1 : H} (f : Fresh m n n2) (hn : n ≤ n1) (x : Post P m base n n1 w h1 m' w') : Fresh m' n1 n2 :=
  fun b h1 h2 => by rw [x.out b (by omega)]; exact f b (by omega) h2
theorem Fresh.first {m : Mp} {n n1 n2 : Nat} (f : Fresh m n n2) (h : n1 ≤ n2) : Fresh m n n1 := fun b h1 h2 => f b h1 (by omega)

theorem add0 (b o i : Nat) : (⟨b, o, none⟩ : Addr).add i = ⟨b, o + i, none⟩ := by
  unfold Addr.add
  split
  · rename_i h; subst h; rfl
  · rfl
theorem cell_eq (w : World) (c o : Nat) {cs : Array Value} {e : TypeId} {f : Nat × Nat} (h : w.heap[c]? = some (.cells cs e f)) : w.cell? ⟨c, o, none⟩ = cs[o]? := by
  unfold World.cell?
  simp [h]

theorem rd_at {P : Program} {m : Mp} {base : Nat} {h h1 : H} {w : World} {b k n n1 : Nat} {v : Value} {L : List En} (x : WR P m base h w.heap) (hr : rd b k h n = some ⟨v, h1, n1, L⟩) :
    h1 = h ∧ n1 = n ∧ ∃ d v', m b = some d ∧ w.cell? ⟨d.blk, d.sh + k, none⟩ = some v' ∧ VR m v v' := by
  unfold rd at hr
  split at hr
  · split at hr
    · rename_i B hB
      split at hr
      · rename_i u hu
        simp only [Option.some.injEq, Out.mk.injEq] at hr
        obtain ⟨rfl, rfl, rfl, _⟩ := hr
        obtain ⟨d, cs, lo, hi, hm, hg, _, _, _, _, hc⟩ := x.live b B hB
        obtain ⟨v', hv', hr⟩ := hc k u hu
        exact ⟨rfl, rfl, d, v', hm, by rw [cell_eq w _ _ hg]; exact hv', hr⟩
      · cases hr
    · cases hr
  · cases hr
theorem rdN_at {P : Program} {m : Mp} {base : Nat} {h : H} {w : World} {b n : Nat} (x : WR P m base h w.heap) {d : Ds} (hd : m b = some d) : ∀ {c k n1 : Nat} {vs : List Value} {h1 : H} {L : List En}, rdN b k c h n = some ⟨vs, h1, n1, L⟩ →
    h1 = h ∧ n1 = n ∧ vs.length = c ∧ ∃ vs', VRs m vs vs' ∧ ∀ j v, vs'[j]? = some v → w.cell? ⟨d.blk, d.sh + k + j, none⟩ = some v := by
  intro c
  induction c with
  | zero =>
    intro k n1 vs h1 L hr
    simp only [rdN, M.ret, Option.some.injEq, Out.mk.injEq] at hr
    obtain ⟨rfl, rfl, rfl, _⟩ := hr
    exact ⟨rfl, rfl, rfl, [], .nil, fun j v hv => by simp at hv⟩
  | succ c ih =>
    intro k n1 vs h1 L hr
    obtain ⟨v, h2, n2, L1, L2, e2, e3, _⟩ := bind_some (m := rd b k) hr
    obtain ⟨rfl, rfl, d', v', hd', hc, hv⟩ := rd_at x e2
    rw [hd] at hd'
    cases hd'
    obtain ⟨ws, h4, n4, L3, L4, e4, e5, _⟩ := bind_some (m := rdN b (k + 1) c) e3
    obtain ⟨rfl, rfl, hl, vs', hvs, hcs⟩ := ih e4
    obtain ⟨rfl, rfl, rfl⟩ := ret_some e5
    refine ⟨rfl, rfl, by simp [hl], v' :: vs', .cons hv hvs, fun j u hu => ?_⟩
    cases j with
    | zero => simp at hu; subst hu; exact hc
    | succ j =>
      have := hcs j u (by simpa using hu)
      rw [show d.sh + k + (j + 1) = d.sh + (k + 1) + j by omega]
      exact this
theorem run_loadCells_of {P : Program} {w : World} {c o : Nat} {vs : List Value} (h : ∀ j v, vs[j]? = some v → w.cell? ⟨c, o + j, none⟩ = some v) : (loadCells ⟨c, o, none⟩ vs.length).run P w = .ok vs.toArray w := by
  have := run_loadCells_list (P := P) (w := w) ⟨c, o, none⟩ vs (fun j v hv => by rw [add0]; exact h j v hv)
  simpa using this

theorem hdr_at {P : Program} {m : Mp} {base : Nat} {h h1 : H} {w : World} {b n n1 : Nat} {e : TypeId} {L : List En} (x : WR P m base h w.heap) (hr : hdr b h n = some ⟨e, h1, n1, L⟩) :
    h1 = h ∧ n1 = n ∧ ∃ d, m b = some d ∧ size? P e = some d.esz ∧ ∃ B, h.get b = some B ∧ B.elem = e := by
  unfold hdr at hr
  split at hr
  · split at hr
    · rename_i B hB
      simp only [Option.some.injEq, Out.mk.injEq] at hr
      obtain ⟨rfl, rfl, rfl, _⟩ := hr
      obtain ⟨d, cs, lo, hi, hm, _, _, _, hs, _⟩ := x.live b B hB
      exact ⟨rfl, rfl, d, hm, hs, B, hB, rfl⟩
    · cases hr
  · cases hr
theorem getElem?_modify_ne {α : Type} (a : Array α) (f : α → α) {i j : Nat} (h : i ≠ j) : (a.modify i f)[j]? = a[j]? := by
  rw [Array.getElem?_modify, if_neg h]
theorem wr_at {P : Program} {m : Mp} {base : Nat} {h h1 : H} {w : World} {b k n n1 : Nat} {v v' : Value} {L : List En} (x : WR P m base h w.heap) (hr : wr b k v h n = some ⟨(), h1, n1, L⟩) (hv : VR m v v') {d : Ds} (hd : m b = some d) :
    n1 = n ∧ (w.cell? ⟨d.blk, d.sh + k, none⟩).isSome = true ∧ w.frozen? ⟨d.blk, d.sh + k, none⟩ = false ∧ Ev.one v' = true ∧ base ≤ d.blk ∧ WR P m base h1 (w.setCell ⟨d.blk, d.sh + k, none⟩ v').heap := by
  unfold wr at hr
  split at hr
  · split at hr
    · rename_i B hB
      split at hr
      · rename_i hc
        simp only [Bool.and_eq_true, decide_eq_true_eq] at hc
        obtain ⟨⟨hown, hk⟩, hone⟩ := hc
        simp only [Option.some.injEq, Out.mk.injEq] at hr
        obtain ⟨_, rfl, rfl, _⟩ := hr
        obtain ⟨d0, cs, lo, hi, hm, hg, hsz, hlen, hesz, ho, hc⟩ := x.live b B hB
        rw [hd] at hm; cases hm
        obtain ⟨hel, hbase, hfr⟩ := ho hown
        have hlt : d.sh + k < cs.size := by omega
        have hset : (w.setCell ⟨d.blk, d.sh + k, none⟩ v').heap[d.blk]? = some (.cells (cs.setIfInBounds (d.sh + k) v') d.el (lo, hi)) := by
          simp only [World.setCell, Array.getElem?_modify, if_true, hg]
          simp
        refine ⟨rfl, by rw [cell_eq w _ _ hg]; simp [hlt], ?_, by rw [hv.one]; exact hone, hbase, ?_⟩
        · unfold World.frozen?
          simp only [hg]
          have := hfr (d.sh + k) (by omega)
          simp only [Bool.and_eq_false_iff, decide_eq_false_iff_not]
          omega
        · constructor
          · intro b2 B2 hb2
            rw [set_cell hB v b2 0] at hb2
            by_cases e : b2 = b
            · subst e
              rw [if_pos rfl] at hb2
              cases hb2
              refine ⟨d, _, lo, hi, hd, hset, by simpa using hsz, by simpa using hlen, hesz, fun _ => ⟨hel, hbase, hfr⟩, fun j u hu => ?_⟩
              by_cases e2 : k = j
              · subst e2
                simp [hk] at hu
                subst hu
                exact ⟨v', by simp [hlt], hv⟩
              · rw [List.getElem?_set_ne e2] at hu
                obtain ⟨u', hu', hr⟩ := hc j u hu
                exact ⟨u', by rw [Array.getElem?_setIfInBounds_ne (by omega)]; exact hu', hr⟩
            · rw [if_neg e] at hb2
              obtain ⟨d2, cs2, lo2, hi2, hm2, hg2, r⟩ := x.live b2 B2 hb2
              have hne : d.blk ≠ d2.blk := fun e3 => e (x.inj b2 b B2 B d2 d hb2 hB (.inr hown) hm2 hd e3.symm)
              refine ⟨d2, cs2, lo2, hi2, hm2, ?_, r⟩
              rw [Below.heap_setCell w _ _ _ (Ne.symm hne)]
              exact hg2
          · intro b2 b3 B2 B3 d2 d3 hb2 hb3 hoo
            have key : ∀ c C, (h.set b (some { B with cells := B.cells.set k v })).get c = some C → ∃ C', h.get c = some C' ∧ C'.own = C.own := by
              intro c C hcC
              rw [set_cell hB v c 0] at hcC
              by_cases e : c = b
              · subst e
                rw [if_pos rfl] at hcC
                cases hcC
                exact ⟨B, hB, rfl⟩
              · rw [if_neg e] at hcC; exact ⟨C, hcC, rfl⟩
            obtain ⟨C2, h2, g2⟩ := key b2 B2 hb2
            obtain ⟨C3, h3, g3⟩ := key b3 B3 hb3
            exact x.inj b2 b3 C2 C3 d2 d3 h2 h3 (by rw [g2, g3]; exact hoo)
      · cases hr
    · cases hr
  · cases hr
theorem run_store_one {P : Program} {α : Type} {w : World} {p : Addr} {v : Value} {k : Sem α} (h1 : (w.cell? p).isSome = true) (h2 : w.frozen? p = false) (h3 : Ev.one v = true) : (Sem.store .plain p v k).run P w = k.run P (w.setCell p v) := by
  obtain ⟨u, hu⟩ := Option.isSome_iff_exists.1 h1
  cases v <;> first | (simp [Ev.one] at h3; done) | simp [Sem.run, hu, h2]
theorem wrN_at {P : Program} {m : Mp} {base : Nat} {b : Nat} {d : Ds} (hd : m b = some d) : ∀ {vs vs' : List Value} (_ : VRs m vs vs') {k i n n1 : Nat} {h h1 : H} {w : World} {L : List En} (o : Nat), o + i = d.sh + k → WR P m base h w.heap → wrN b k vs h n = some ⟨(), h1, n1, L⟩ →
    n1 = n ∧ ∃ w', (storeCells ⟨d.blk, o, none⟩ vs' i).run P w = .ok () w' ∧ WR P m base h1 w'.heap ∧ Below base w w' := by
  intro vs vs' hvs
  induction hvs using VRs.rec (motive_1 := fun _ _ _ => True) with
  | nil =>
    intro k i n n1 h h1 w L o _ x hr
    simp only [wrN, M.ret, Option.some.injEq, Out.mk.injEq] at hr
    obtain ⟨_, rfl, rfl, _⟩ := hr
    exact ⟨rfl, w, rfl, x, Below.refl _ _⟩
  | cons hv _ _ ih =>
    intro k i n n1 h h1 w L o ho x hr
    obtain ⟨u, h2, n2, L1, L2, e2, e3, _⟩ := bind_some (m := wr b k _) hr
    cases u
    obtain ⟨rfl, c1, c2, c3, hb, x2⟩ := wr_at x e2 hv hd
    obtain ⟨rfl, w', hw', x3, hbl⟩ := ih (i := i + 1) o (by omega) x2 e3
    refine ⟨rfl, w', ?_, x3, ((Below.refl base w).setCell (p := ⟨d.blk, d.sh + k, none⟩) hb _).trans hbl⟩
    unfold storeCells
    rw [add0, ho]
    show (Sem.bind (store _ _) _).run P w = _
    unfold store
    simp only [Sem.bind]
    rw [run_store_one c1 c2 c3]
    exact hw'
  | _ => trivial

theorem newB_at {P : Program} {m : Mp} {base : Nat} {h h1 : H} {w : World} {n n1 r : Nat} {e : TypeId} {cs : List Value} {L : List En} (x : WR P m base h w.heap) (hr : newB e cs h n = some ⟨r, h1, n1, L⟩) (hf : Fresh m n n1) (hbase : base ≤ w.heap.size)
    {cs' : Array Value} (hlen : cs.length ≤ cs'.size) (hcs : ∀ (k : Nat) (v : Value), cs[k]? = some v → ∃ v', cs'[k]? = some v' ∧ VR m v v') {esz : Nat} (he : size? P e = some esz) :
    r = n ∧ n1 = n + 1 ∧ ∃ m', m' n = some ⟨w.heap.size, 0, cs'.size, esz, e⟩ ∧ Post P m base n n1 w h1 m' (w.alloc (.cells cs' e)) := by
  unfold newB at hr
  split at hr
  · rename_i hn
    simp only [Option.some.injEq, Out.mk.injEq] at hr
    obtain ⟨rfl, rfl, rfl, _⟩ := hr
    have hn0 : m n = none := hf n (Nat.le_refl _) (by omega)
    have hle : Le m (fun b => if b = n then some ⟨w.heap.size, 0, cs'.size, esz, e⟩ else m b) := by
      intro b d hb
      by_cases e : b = n
      · subst e; rw [hn0] at hb; cases hb
      · simp [e, hb]
    refine ⟨rfl, rfl, fun b => if b = n then some ⟨w.heap.size, 0, cs'.size, esz, e⟩ else m b, by simp, hle, fun b hb => by rw [if_neg (by omega)], ?_, (Below.refl _ _).alloc hbase _⟩
    constructor
    · intro b B hb
      rw [H.get_set _ _] at hb
      by_cases eb : b = n
      · subst eb
        rw [if_pos rfl] at hb
        cases hb
        refine ⟨_, cs', 0, 0, if_pos rfl, ?_, rfl, by simpa using hlen, he, fun _ => ⟨rfl, hbase, fun k _ => by omega⟩, fun k v hk => ?_⟩
        · exact heap_alloc_new w _
        · obtain ⟨v', hv', hr⟩ := hcs k v hk
          exact ⟨v', by simpa using hv', hr.mono hle⟩
      · rw [if_neg eb] at hb
        obtain ⟨d, cs2, lo, hi, hm, hg, h1, h2, hsz, h3, h4⟩ := x.live b B hb
        refine ⟨d, cs2, lo, hi, by simp [eb, hm], ?_, h1, h2, hsz, h3, fun k v hk => ?_⟩
        · rw [Below.heap_alloc w _ _ (Array.getElem?_eq_some_iff.1 hg).1]; exact hg
        · obtain ⟨v', hv', hr⟩ := h4 k v hk
          exact ⟨v', hv', hr.mono hle⟩
    · intro b b' B B' d d' hb hb' hoo hm hm' he
      rw [H.get_set _ _] at hb hb'
      by_cases eb : b = n
      · by_cases eb' : b' = n
        · rw [eb, eb']
        · rw [if_neg eb'] at hb' hm'
          rw [if_pos eb] at hm
          obtain ⟨d2, h2, hlt⟩ := x.lt hb'
          rw [hm'] at h2
          cases h2; cases hm
          simp at he
          omega
      · rw [if_neg eb] at hb hm
        by_cases eb' : b' = n
        · rw [if_pos eb'] at hm'
          obtain ⟨d2, h2, hlt⟩ := x.lt hb
          rw [hm] at h2
          cases h2; cases hm'
          simp at he
          omega
        · rw [if_neg eb'] at hb' hm'
          exact x.inj b b' B B' d d' hb hb' hoo hm hm' he
  · cases hr
theorem WR.kill {P : Program} {m : Mp} {base : Nat} {h : H} {hp : Array Obj} (x : WR P m base h hp) {b : Nat} {B : AB} (hB : h.get b = some B) : WR P m base (h.set b none) hp := by
  have key : ∀ c C, (h.set b none).get c = some C → c ≠ b ∧ h.get c = some C := by
    intro c C hc
    rw [H.get_set _ _] at hc
    by_cases e : c = b
    · rw [if_pos e] at hc; cases hc
    · rw [if_neg e] at hc; exact ⟨e, hc⟩
  exact ⟨fun c C hc => x.live c C (key c C hc).2, fun c c' C C' d d' hc hc' => x.inj c c' C C' d d' (key c C hc).2 (key c' C' hc').2⟩

end Go.Proofs.YtcehhgppfahbkaaGreatDoor.Ev
namespace Go.Proofs.YtcehhgppfahbkaaGreatDoor.Ev
set_option linter.unusedVariables false
set_option linter.unusedSimpArgs false
open Go Go.RowKit

def Gl (P : Program) (m : Mp) : Prop := ∀ g, g < P.globals.size → ∃ d, m g = some d ∧ d.blk = g ∧ d.sh = 0
theorem Gl.mono {P : Program} {m m' : Mp} (g : Gl P m) (h : Le m m') : Gl P m' := fun i hi => let ⟨d, h1, h2⟩ := g i hi; ⟨d, h _ _ h1, h2⟩
structure SR (m : Mp) (nt : Nat) (s : S) (a : Act) : Prop where
  df : a.defers = []
  sz : a.tmps.size = nt
  at_ : ∀ t, VR m (s.get t) (a.tmps.getD t undef)
theorem SR.mono {m m' : Mp} {nt : Nat} {s : S} {a : Act} (x : SR m nt s a) (h : Le m m') : SR m' nt s a := ⟨x.df, x.sz, fun t => (x.at_ t).mono h⟩

theorem VR.clean1 {m : Mp} {v : Value} (h : Ev.clean1 v = true) : VR m v v := by
  unfold Ev.clean1 at h
  split at h
  · exact .bool _
  · exact .int _ _
  · exact .float _ _
  · exact .string _
  · exact .pnil
  · exact .nilFunc
  · exact .snil _ _ (by simpa using h)
  · cases h
theorem VRs.clean {m : Mp} : ∀ {l : List Value}, (∀ v ∈ l, Ev.clean1 v = true) → VRs m l l
  | [], _ => .nil
  | v :: l, h => .cons (VR.clean1 (h v (by simp))) (VRs.clean fun u hu => h u (by simp [hu]))
theorem VR.clean {m : Mp} {v : Value} (h : Ev.clean v = true) : VR m v v := by
  unfold Ev.clean at h
  split at h
  · exact .agg (VRs.clean fun u hu => by rw [Array.all_eq_true_iff_forall_mem] at h; exact h u (Array.mem_toList_iff.1 hu))
  · exact .tuple (VRs.clean fun u hu => by rw [Array.all_eq_true_iff_forall_mem] at h; exact h u (Array.mem_toList_iff.1 hu))
  · exact VR.clean1 h
theorem ev_at {P : Program} {m : Mp} {nt : Nat} {s : S} {a : Act} (g : Gl P m) (x : SR m nt s a) {y : Operand} (h : okOperand P y = true) : VR m (ev s y) (a.eval y) := by
  cases y with
  | tmp t => exact x.at_ t
  | const v => exact VR.clean h
  | global i =>
    obtain ⟨d, h1, h2, h3⟩ := g i (by simpa [okOperand] using h)
    have := VR.ptr (m := m) (off := 0) h1
    rw [h2, h3] at this
    exact this
  | func f => exact .func _ .nil .nil

theorem yields_eq {m : Mp} {nt : Nat} {s : S} {a : Act} (x : SR m nt s a) (ops : Array Oper) (j : Nat) : yields ops s j = yielded ops a.tmps j := by
  unfold yields yielded
  cases ho : (ops[j]?).bind (·.dst) with
  | none => rfl
  | some t =>
    have hr := x.at_ t
    simp only [Option.bind_some]
    rw [Array.getD_eq_getD_getElem?] at hr
    cases hg : a.tmps[t]? with
    | none =>
      rw [hg] at hr
      generalize s.get t = v at hr
      cases hr; rfl
    | some u =>
      rw [hg] at hr
      simp only [Option.getD_some] at hr
      generalize s.get t = v at hr
      cases hr <;> rfl
theorem S.get_put (s : S) (d : Nat) (v : Value) (t : Nat) (hd : d < 1023) : (s.put d v).get t = if t = d then v else s.get t := by
  unfold S.get S.put
  rw [Tr.get_set 10 s d (some v) t (by omega)]
  split <;> rfl
theorem putS_at {m : Mp} {nt : Nat} {s s1 : S} {a : Act} {dst : Option Tmp} {v v' : Value} (x : SR m nt s a) (hv : VR m v v') (h : putS nt s dst v = some s1) : SR m nt s1 (a.put dst v') := by
  unfold putS at h
  cases dst with
  | none => cases h; exact x
  | some d =>
    simp only at h
    split at h
    · rename_i hc
      simp only [Bool.and_eq_true, decide_eq_true_eq] at hc
      cases h
      refine ⟨x.df, by simp [Act.put, x.sz], fun t => ?_⟩
      rw [S.get_put _ _ _ _ hc.2]
      simp only [Act.put]
      by_cases e : t = d
      · subst e
        rw [if_pos rfl]
        have : t < a.tmps.size := by rw [x.sz]; exact hc.1
        simpa [this] using hv
      · rw [if_neg e]
        have := x.at_ t
        simpa [Array.getElem?_setIfInBounds_ne (Ne.symm e), Array.getD_eq_getD_getElem?] using this
    · cases h

inductive NR (m : Mp) : Nx → Next → Prop
  | val {v v' : Value} (h : VR m v v') : NR m (.val v) (.value v')
  | skip : NR m (.val undef) .skip
  | call {f : FuncId} {args args' : Array Value} (h : VRs m args.toList args'.toList) : NR m (.call f args) (.enter f args')
def OpSim (P : Program) (base : Nat) : Prop := ∀ (ρ ρ' : Operand → Value) (o : Oper) (h : H) (n : Nat) (r : Nx) (h1 : H) (n1 : Nat) (L : List En) (m : Mp) (w : World),
  evOp P ρ o h n = some ⟨r, h1, n1, L⟩ → (∀ y ∈ o.op.operands, VR m (ρ y) (ρ' y)) → WR P m base h w.heap → base ≤ w.heap.size → Fresh m n n1 →
  ∃ m' w' R, (execOp ρ' o).run P w = .ok R w' ∧ Post P m base n n1 w h1 m' w' ∧ NR m' r R
def CallSim (P : Program) (base : Nat) (rec : FuncId → Array Value → M Value) : Prop := ∀ (f : FuncId) (args : Array Value) (h : H) (n : Nat) (v : Value) (h1 : H) (n1 : Nat) (L : List En) (m : Mp) (w : World) (args' : Array Value),
  rec f args h n = some ⟨v, h1, n1, L⟩ → WR P m base h w.heap → base ≤ w.heap.size → VRs m args.toList args'.toList → Fresh m n n1 → Gl P m →
  Calls P f args' w fun e w' => ∃ m' v', e = .returned v' ∧ Post P m base n n1 w h1 m' w' ∧ VR m' v v'

section
variable {P : Program} {base : Nat} {rec : FuncId → Array Value → M Value} {nt : Nat} {ops : Array Oper} {Q : Exit → Act → World → Prop}
theorem Below.le {B : Nat} {w w' : World} (b : Below B w w') (h : B ≤ w.heap.size) : B ≤ w'.heap.size := Nat.le_trans h b.size
theorem evVal_sim (hop : OpSim P base) (hrec : CallSim P base rec) (hrl : ∀ f a, Loc (rec f a)) {i : Nat} {o : Oper} (hi : ops[i]? = some o) (hok : okOper P o = true) {m : Mp} {s : S} {a : Act} {w : World} {h h1 : H} {n n1 : Nat} {L : List En} {v : Value}
    (x : WR P m base h w.heap) (hb : base ≤ w.heap.size) (g : Gl P m) (hs : SR m nt s a) (hr : evVal P rec ops o s h n = some ⟨v, h1, n1, L⟩) (hf : Fresh m n n1) {K : Act → World → Prop}
    (hK : ∀ m' w' v', Post P m base n n1 w h1 m' w' → VR m' v v' → K (a.put o.dst v') w') : wpOp P ops Q i K a w := by
  have hw : Region.wanted o (yields ops s) = Region.wanted o (yielded ops a.tmps) := by
    congr 1; funext j; exact yields_eq hs ops j
  unfold wpOp
  simp only [hi]
  unfold evVal at hr
  rw [hw] at hr
  by_cases hwt : Region.wanted o (yielded ops a.tmps) = true
  · rw [if_pos hwt] at hr ⊢
    obtain ⟨r, h2, n2, L1, L2, e1, e2, rfl⟩ := bind_some hr
    have A := Loc.evOp P (ev s) o h n r h2 n2 L1 e1
    have hn2 : n2 ≤ n1 := by
      cases r with
      | val u => obtain ⟨_, _, e⟩ := ret_some e2; omega
      | call f args => exact (hrl f args _ _ _ _ _ _ e2).le
    obtain ⟨m', w', R, hrun, hpost, hnr⟩ := hop (ev s) a.eval o h n r h2 n2 L1 m w e1 (fun y hy => ev_at g hs (by
      unfold okOper at hok
      rw [Array.all_eq_true_iff_forall_mem] at hok
      exact hok y hy)) x hb (hf.first hn2)
    left
    unfold Oper.wp
    rw [hrun]
    cases hnr with
    | val hv =>
      obtain ⟨rfl, rfl, rfl⟩ := ret_some e2
      exact hK m' w' _ hpost hv
    | skip =>
      obtain ⟨rfl, rfl, rfl⟩ := ret_some e2
      exact hK m' w' _ hpost VR.undef
    | call hargs =>
      rename_i f args args'
      refine (hrec f args h2 n2 v h1 n1 L2 m' w' args' e2 hpost.wr (Below.le hpost.below hb) hargs (hf.after A.le hpost) (g.mono hpost.le)).mono ?_
      rintro e w'' ⟨m'', v', rfl, hp2, hv⟩
      exact hK m'' w'' v' (hpost.trans A.le hn2 hp2) hv
  · have hwf : Region.wanted o (yielded ops a.tmps) = false := by simpa using hwt
    rw [if_neg hwt] at hr ⊢
    obtain ⟨rfl, rfl, rfl⟩ := ret_some hr
    exact hK m w undef (Post.refl x) VR.undef

theorem all_congr {α : Type} {l : Array α} {f g : α → Bool} (h : ∀ x ∈ l, f x = g x) : l.all f = l.all g := by
  rw [Bool.eq_iff_iff, Array.all_eq_true_iff_forall_mem, Array.all_eq_true_iff_forall_mem]
  exact ⟨fun a x hx => by rw [← h x hx]; exact a x hx, fun a x hx => by rw [h x hx]; exact a x hx⟩
theorem evOp_congr {ρ ρ' : Operand → Value} (o : Oper) (h : ∀ x ∈ o.op.operands, ρ x = ρ' x) : evOp P ρ o = evOp P ρ' o := by
  by_cases hs : ∃ cs b, o.op = .select cs b
  · obtain ⟨cs, b, hs⟩ := hs
    unfold evOp
    rw [hs]
  have hex : execOp ρ o = execOp ρ' o := execOp_congr o (fun cs b hh => hs ⟨cs, b, hh⟩) h
  have hpl : evPlain P ρ o = evPlain P ρ' o := by
    unfold evPlain
    rw [hex, all_congr fun x hx => by rw [h x hx]]
  have pairs : ∀ ps : Array (Nat × Operand), (∀ x ∈ (ps.toList.map (·.2)).toArray, ρ x = ρ' x) → (ps.toList.map fun (i, x) => (i, ρ x)) = (ps.toList.map fun (i, x) => (i, ρ' x)) := fun ps hp =>
    List.map_congr_left fun p hm => by
      obtain ⟨i, x⟩ := p
      simp only [hp x (by simpa using ⟨i, by simpa using hm⟩)]
  unfold evOp
  cases hop : o.op <;> rw [hop] at h <;> simp only [Op.operands] at h <;> simp only
  case build t ps => rw [pairs ps h]
  case buildSlice t n ps => rw [pairs ps h]
  case makeFunc fn first captured =>
    rw [Array.map_congr_left (xs := first) fun x hx => h x (by simp [hx]), Array.map_congr_left (xs := captured) fun x hx => h x (by simp [hx])]
  case call c =>
    have hargs : c.args.map ρ = c.args.map ρ' := Array.map_congr_left fun x hx => h x (by simp [Call.operands, hx])
    rw [hargs]
    unfold evCallOp
    cases hc : c.callee with
    | value f => have hf : ρ f = ρ' f := h f (by simp [Call.operands, hc]); simp only [hf]
    | invoke r m => rfl
    | builtin b => cases b <;> simp only [hpl]
  case slice t x lo hi mx =>
    rw [hpl, h x (by simp)]
    cases lo <;> cases hi <;> cases mx <;> simp_all
  all_goals (first | rfl | (simp_all; done) | (rw [hpl]; simp_all; done))
theorem ev_congr {s s' : S} {y : Operand} (h : ∀ t, y = .tmp t → s.get t = s'.get t) : ev s y = ev s' y := by
  cases y with
  | tmp t => exact h t rfl
  | _ => rfl
theorem evVal_congr {o : Oper} {s s' : S} (h : ∀ t ∈ o.looksAt ops, s.get t = s'.get t) : evVal P rec ops o s = evVal P rec ops o s' := by
  have h1 : evOp P (ev s) o = evOp P (ev s') o := evOp_congr o fun x hx => ev_congr fun t ht => h t (by
    unfold Oper.looksAt
    exact List.mem_append_left _ (List.mem_filterMap.2 ⟨x, by simpa using hx, by rw [ht]⟩))
  have h2 : Region.wanted o (yields ops s) = Region.wanted o (yields ops s') := by
    unfold Region.wanted
    cases hg : o.guard with
    | none => rfl
    | some gw =>
      obtain ⟨g, want⟩ := gw
      have : yields ops s g = yields ops s' g := by
        unfold yields
        cases ht : (ops[g]?).bind (·.dst) with
        | none => rfl
        | some t => simp only [h t (by unfold Oper.looksAt; exact List.mem_append_right _ (by simp [hg, ht]))]
      simp only [this]
  unfold evVal
  rw [h1, h2]
end

structure Chain (P : Program) (rec : FuncId → Array Value → M Value) (nt : Nat) (ops : Array Oper) (l : List Oper) (s : Nat → S) (h : Nat → H) (n : Nat → Nat) (v : Nat → Value) (L : Nat → List En) : Prop where
  step : ∀ i o, l[i]? = some o → inside (evVal P rec ops o (s i)) (h i) (n i) = some ⟨v i, h (i + 1), n (i + 1), L i⟩
  put : ∀ i o, l[i]? = some o → putS nt (s i) o.dst (v i) = some (s (i + 1))
theorem evOpers_chain {P : Program} {rec : FuncId → Array Value → M Value} {nt : Nat} {ops : Array Oper} : ∀ (l : List Oper) (s0 : S) (h0 : H) (n0 : Nat) (y : S × List Tk) (h1 : H) (n1 : Nat) (L0 : List En),
    evOpers P rec nt ops l s0 h0 n0 = some ⟨y, h1, n1, L0⟩ → ∃ s h n v L, Chain P rec nt ops l s h n v L ∧ s 0 = s0 ∧ h 0 = h0 ∧ n 0 = n0 ∧ s l.length = y.1 ∧ h l.length = h1 ∧ n l.length = n1 ∧ y.2.length = l.length ∧ ∀ i, i < l.length → y.2[i]? = some ⟨n i, n (i + 1), L i⟩ := by
  intro l
  induction l with
  | nil =>
    intro s0 h0 n0 y h1 n1 L0 hr
    obtain ⟨rfl, rfl, rfl⟩ := ret_some hr
    exact ⟨fun _ => s0, fun _ => h1, fun _ => n1, fun _ => undef, fun _ => [], ⟨fun i o h => by simp at h, fun i o h => by simp at h⟩, rfl, rfl, rfl, rfl, rfl, rfl, rfl, fun i hi => by simp at hi⟩
  | cons o r ih =>
    intro s0 h0 n0 y h1 n1 L0 hr
    obtain ⟨x, h2, n2, L1, L2, e1, e2, _⟩ := bind_some (m := timed (inside (evVal P rec ops o s0))) hr
    unfold timed at e1
    split at e1
    · rename_i v0 h2' n2' Li ei
      simp only [Option.some.injEq, Out.mk.injEq] at e1
      obtain ⟨rfl, rfl, rfl, rfl⟩ := e1
      obtain ⟨s1, h3, n3, L3, L4, e3, e4, _⟩ := bind_some (m := M.lift _) e2
      obtain ⟨hput, rfl, rfl⟩ := lift_some e3
      obtain ⟨y2, h4, n4, L5, L6, e5, e6, _⟩ := bind_some (m := evOpers P rec nt ops r s1) e4
      obtain ⟨rfl, rfl, rfl⟩ := ret_some e6
      obtain ⟨s, h, n, v, L, C, a1, a2, a3, a4, a5, a6, a7, a8⟩ := ih _ _ _ _ _ _ _ e5
      refine ⟨fun i => if i = 0 then s0 else s (i - 1), fun i => if i = 0 then h0 else h (i - 1), fun i => if i = 0 then n0 else n (i - 1), fun i => if i = 0 then v0 else v (i - 1), fun i => if i = 0 then Li else L (i - 1), ⟨fun i o' ho => ?_, fun i o' ho => ?_⟩, rfl, rfl, rfl, by simpa using a4, by simpa using a5, by simpa using a6, by simp [a7], fun i hi => ?_⟩
      · cases i with
        | zero => simp at ho; subst ho; simpa [a2, a3] using ei
        | succ i => simpa using C.step i o' (by simpa using ho)
      · cases i with
        | zero => simp at ho; subst ho; simpa [a1] using hput
        | succ i => simpa using C.put i o' (by simpa using ho)
      · cases i with
        | zero => simp [a3]
        | succ i => simpa using a8 i (by simpa using hi)
    · cases e1
theorem inside_some {α : Type} {m : M α} {h h1 : H} {n n1 : Nat} {a : α} {L : List En} (hr : inside m h n = some ⟨a, h1, n1, L⟩) : ∃ L', m h n = some ⟨a, h1, n1, L'⟩ := by
  unfold inside at hr
  split at hr
  · rename_i a' h1' n1' L' e
    simp only [Option.some.injEq, Out.mk.injEq] at hr
    obtain ⟨rfl, rfl, rfl, _⟩ := hr
    exact ⟨L', e⟩
  · cases hr

section
variable {P : Program} {base : Nat} {rec : FuncId → Array Value → M Value} {nt : Nat} {ops : Array Oper} {Q : Exit → Act → World → Prop}
theorem chain_sim (hop : OpSim P base) (hrec : CallSim P base rec) (hrl : ∀ f a, Loc (rec f a)) (hok : ∀ o ∈ ops, okOper P o = true) {s : Nat → S} {h : Nat → H} {n : Nat → Nat} {v : Nat → Value} {L : Nat → List En}
    (C : Chain P rec nt ops ops.toList s h n v L) {m0 : Mp} {w0 : World} (hf : Fresh m0 (n 0) (n ops.size)) (hmono : ∀ i, i < ops.size → n i ≤ n (i + 1)) (hb : base ≤ w0.heap.size) (g : Gl P m0) (R : Act → World → Prop)
    (hR : ∀ m' a' w', Post P m0 base (n 0) (n ops.size) w0 (h ops.size) m' w' → SR m' nt (s ops.size) a' → Q .normal a' w') :
    ∀ (k i : Nat), i + k = ops.size → ∀ (m : Mp) (a : Act) (w : World), Post P m0 base (n 0) (n i) w0 (h i) m w → SR m nt (s i) a → wpOps P ops Q (List.range' i k) a w := by
  have hm2 : ∀ i j, i ≤ j → j ≤ ops.size → n i ≤ n j := by
    intro i j hij
    induction hij with
    | refl => intro _; exact Nat.le_refl _
    | step hij ih => intro hj; exact Nat.le_trans (ih (by omega)) (hmono _ (by omega))
  intro k
  induction k with
  | zero =>
    intro i hik m a w hp hs
    have : i = ops.size := by omega
    subst this
    exact hR m a w hp hs
  | succ k ih =>
    intro i hik m a w hp hs
    have hi : i < ops.size := by omega
    rw [List.range'_succ, wpOps_cons]
    have hoi : ops[i]? = some ops[i] := by simp [hi]
    obtain ⟨L', hv⟩ := inside_some (C.step i ops[i] (by simp [hi]))
    have hput := C.put i ops[i] (by simp [hi])
    refine evVal_sim (nt := nt) hop hrec hrl hoi (hok _ (by simp)) hp.wr (Below.le hp.below hb) (g.mono hp.le) hs hv (fun b h1 h2 => ?_) fun m' w' v' hp2 hv' => ?_
    · have q1 := hm2 0 i (by omega) (by omega)
      have q2 := hm2 (i + 1) ops.size (by omega) (by omega)
      rw [hp.out b (by omega)]
      exact hf b (by omega) (by omega)
    · exact ih (i + 1) (by omega) m' _ w' (hp.trans (hm2 0 i (by omega) (by omega)) (hmono i hi) hp2) (putS_at (hs.mono hp2.le) hv' hput)
end

end Go.Proofs.YtcehhgppfahbkaaGreatDoor.Ev
namespace Go.Proofs.YtcehhgppfahbkaaGreatDoor.Ev
set_option linter.unusedVariables false
set_option linter.unusedSimpArgs false
open Go Go.RowKit

def Good (ops : Array Oper) (acc : List Nat) : Prop := ∀ k, k < acc.length → ∀ j, (acc.getD k 0).testBit j = true → ∃ o, ops[k]? = some o ∧ ∃ e ∈ o.after, Region.binds .any e = true ∧ (j = e.on ∨ (acc.getD e.on 0).testBit j = true)
theorem getD_append_left {l l' : List Nat} {k : Nat} (h : k < l.length) : (l ++ l').getD k 0 = l.getD k 0 := by
  simp [List.getD_eq_getElem?_getD, List.getElem?_append_left h]
theorem fold_bit (acc : List Nat) (j : Nat) : ∀ (es : List Edge) (s : Nat), (es.foldl (fun s e => if Region.binds .any e then s ||| 2 ^ e.on ||| acc.getD e.on 0 else s) s).testBit j = true →
    s.testBit j = true ∨ ∃ e ∈ es, Region.binds .any e = true ∧ (j = e.on ∨ (acc.getD e.on 0).testBit j = true) := by
  intro es
  induction es with
  | nil => intro s h; exact .inl h
  | cons e es ih =>
    intro s h
    simp only [List.foldl_cons] at h
    rcases ih _ h with h1 | ⟨e', he', h1⟩
    · by_cases hb : Region.binds .any e = true
      · rw [if_pos hb] at h1
        simp only [Nat.testBit_or, Bool.or_eq_true] at h1
        rcases h1 with (h1 | h1) | h1
        · exact .inl h1
        · rw [Nat.testBit_two_pow] at h1
          exact .inr ⟨e, by simp, hb, .inl (by simpa using Eq.symm (of_decide_eq_true h1))⟩
        · exact .inr ⟨e, by simp, hb, .inr h1⟩
      · rw [if_neg hb] at h1; exact .inl h1
    · exact .inr ⟨e', by simp [he'], h1⟩
theorem befores_good (ops : Array Oper) : ∀ (l : List Oper) (acc : List Nat), (∀ i o, l[i]? = some o → ops[acc.length + i]? = some o) → Good ops acc → Good ops (befores l acc) ∧ (befores l acc).length = acc.length + l.length := by
  intro l
  induction l with
  | nil => intro acc _ h; exact ⟨h, by simp [befores]⟩
  | cons o r ih =>
    intro acc hl h
    unfold befores
    generalize hB : (o.after.toList.foldl (fun s e => if Region.binds .any e then s ||| 2 ^ e.on ||| acc.getD e.on 0 else s) 0) = B
    have := ih (acc ++ [B]) (fun i o' ho' => by
      have := hl (i + 1) o' (by simpa using ho')
      simp only [List.length_append, List.length_singleton]
      rw [show acc.length + 1 + i = acc.length + (i + 1) by omega]
      exact this) ?_
    · exact ⟨this.1, by rw [this.2]; simp; omega⟩
    · intro k hk j hj
      by_cases hk2 : k < acc.length
      · rw [getD_append_left hk2] at hj
        obtain ⟨o', h1, e, h2, h3, h4⟩ := h k hk2 j hj
        refine ⟨o', h1, e, h2, h3, ?_⟩
        rcases h4 with h4 | h4
        · exact .inl h4
        · refine .inr ?_
          by_cases he : e.on < acc.length
          · rw [getD_append_left he]; exact h4
          · rw [List.getD_eq_getElem?_getD, List.getElem?_eq_none (by omega)] at h4
            simp at h4
      · have hk3 : k = acc.length := by simp at hk; omega
        subst hk3
        have hB2 : (acc ++ [B]).getD acc.length 0 = B := by simp [List.getD_eq_getElem?_getD]
        rw [hB2, ← hB] at hj
        rcases fold_bit acc j _ _ hj with h1 | ⟨e, he, hb, h1⟩
        · simp at h1
        · refine ⟨o, by simpa using hl 0 o rfl, e, by simpa using he, hb, ?_⟩
          rcases h1 with h1 | h1
          · exact .inl h1
          · refine .inr ?_
            by_cases he : e.on < acc.length
            · rw [getD_append_left he]; exact h1
            · rw [List.getD_eq_getElem?_getD, List.getElem?_eq_none (by omega)] at h1
              simp at h1
theorem before_done {ops : Array Oper} {bef : List Nat} (hg : Good ops bef) (hlen : bef.length = ops.size) (he : ∀ k o, ops[k]? = some o → ∀ e ∈ o.after, Region.binds .any e = true → e.on < k) {D : Nat → Prop}
    (hc : ∀ k o, D k → ops[k]? = some o → ∀ e ∈ o.after, Region.binds .any e = true → D e.on) : ∀ (k : Nat), (∀ o, ops[k]? = some o → ∀ e ∈ o.after, Region.binds .any e = true → D e.on) → ∀ j, (bef.getD k 0).testBit j = true → D j := by
  intro k
  induction k using Nat.strongRecOn with
  | _ k ih =>
    intro hk j hj
    by_cases hlt : k < bef.length
    · obtain ⟨o, ho, e, hme, hbi, h1⟩ := hg k hlt j hj
      have hd := hk o ho e hme hbi
      rcases h1 with rfl | h1
      · exact hd
      · exact ih e.on (he k o ho e hme hbi) (fun o' ho' => hc e.on o' hd ho') j h1
    · rw [List.getD_eq_getElem?_getD, List.getElem?_eq_none (by omega)] at hj
      simp at hj

theorem pairsOk_at {ops : Array Oper} {bef : List Nat} : ∀ (l : List (Nat × Tk)), pairsOk ops bef l = true → ∀ (p q : Nat) (x y : Nat × Tk), p < q → l[p]? = some x → l[q]? = some y → (bef.getD y.1 0).testBit x.1 = true ∨ (x.2.clash y.2 = false ∧ slotClash ops (ops.getD x.1 default) (ops.getD y.1 default) = false) := by
  intro l
  induction l with
  | nil => intro _ p q x y _ hp; simp at hp
  | cons a l ih =>
    intro h p q x y hpq hp hq
    obtain ⟨ja, ta⟩ := a
    unfold pairsOk at h
    simp only [Bool.and_eq_true] at h
    cases q with
    | zero => omega
    | succ q =>
      cases p with
      | zero =>
        simp at hp
        subst hp
        have := List.all_eq_true.1 h.1 y (List.mem_of_getElem? (by simpa using hq))
        simpa using this
      | succ p => exact ih h.2 p q x y (by omega) (by simpa using hp) (by simpa using hq)
theorem tagged_at : ∀ (ts : List Tk) (b i : Nat), (tagged b ts)[i]? = (ts[i]?).map fun t => (b + i, t) := by
  intro ts
  induction ts with
  | nil => intro b i; simp [tagged]
  | cons t ts ih =>
    intro b i
    cases i with
    | zero => simp [tagged]
    | succ i =>
      simp only [tagged, List.getElem?_cons_succ, ih]
      congr 1
      funext x
      rw [show b + 1 + i = b + (i + 1) by omega]
theorem clash_spec {a b : Tk} (h : a.clash b = false) :
    (∀ x ∈ a.log, ∀ y ∈ b.log, (x.wr = true ∨ y.wr = true) → x.b = y.b → (x.k = y.k ∨ x.k = none ∨ y.k = none) → False) ∧ (∀ x ∈ a.log, ¬ (b.n ≤ x.b ∧ x.b < b.n1)) ∧ (∀ x ∈ b.log, ¬ (a.n ≤ x.b ∧ x.b < a.n1)) := by
  unfold Tk.clash at h
  simp only [Bool.or_eq_false_iff] at h
  obtain ⟨⟨⟨h1, h2⟩, h3⟩, h4⟩ := h
  refine ⟨fun x hx y hy hw hb hk => ?_, fun x hx hi => ?_, fun x hx hi => ?_⟩
  · have hm : x.meets y = true ∧ y.meets x = true := by
      unfold En.meets
      rcases hk with hk | hk | hk <;> simp [hb, hk]
    rcases hw with hw | hw
    · have := (List.any_eq_false.1 h1) x hx
      simp only [hw, Bool.true_and] at this
      exact (List.any_eq_false.1 (by simpa using this)) y hy hm.1
    · have := (List.any_eq_false.1 h2) y hy
      simp only [hw, Bool.true_and] at this
      exact (List.any_eq_false.1 (by simpa using this)) x hx hm.2
  · have := (List.any_eq_false.1 h3) x hx
    simp at this
    omega
  · have := (List.any_eq_false.1 h4) x hx
    simp at this
    omega

theorem or3 {a b : Option Nat} (h : a = b ∨ a = none ∨ b = none) : b = a ∨ b = none ∨ a = none := by
  rcases h with h | h | h
  · exact .inl h.symm
  · exact .inr (.inr h)
  · exact .inr (.inl h)
section
variable {P : Program} {base : Nat} {rec : FuncId → Array Value → M Value} {nt : Nat} {ops : Array Oper} {Q : Exit → Act → World → Prop}
def Wr (n : Nat → Nat) (L : Nat → List En) (j b c : Nat) : Prop := wrote (L j) b c ∨ (n j ≤ b ∧ b < n (j + 1))
def Dn (listed : Array Bool) (j : Nat) : Prop := listed.getD j false = true
structure Inv (P : Program) (base nt : Nat) (ops : Array Oper) (s : Nat → S) (h : Nat → H) (n : Nat → Nat) (L : Nat → List En) (m0 : Mp) (w0 : World) (listed : Array Bool) (m : Mp) (sD : S) (hD : H) (a : Act) (w : World) : Prop where
  sz : listed.size = ops.size
  closed : ∀ k o, Dn listed k → ops[k]? = some o → ∀ e ∈ o.after, Region.binds .any e = true → Dn listed e.on
  mem : ∀ b c i, i ≤ ops.size → (∀ j, j < ops.size → Wr n L j b c → (Dn listed j ↔ j < i)) → agrS hD (h i) b c
  slot : ∀ t i, i ≤ ops.size → (∀ j o, ops[j]? = some o → o.dst = some t → (Dn listed j ↔ j < i)) → sD.get t = (s i).get t
  le : Le m0 m
  out : ∀ b, (∀ j, j < ops.size → Dn listed j → ¬ (n j ≤ b ∧ b < n (j + 1))) → m b = m0 b
  wr : WR P m base hD w.heap
  below : Below base w0 w
  sr : SR m nt sD a
theorem dn_set {listed : Array Bool} {k j : Nat} (hk : k < listed.size) : Dn (listed.setIfInBounds k true) j ↔ (j = k ∨ Dn listed j) := by
  unfold Dn
  by_cases e : j = k
  · subst e; simp [hk]
  · simp [e, Array.getElem?_setIfInBounds_ne (Ne.symm e), Array.getD_eq_getD_getElem?]
theorem undone_all {listed : Array Bool} (he : ∀ k o, ops[k]? = some o → ∀ e ∈ o.after, Region.binds .any e = true → e.on < k) (hsz : listed.size = ops.size) (hr : Region.ready .any ops listed = []) : ∀ k, k < ops.size → Dn listed k := by
  intro k
  induction k using Nat.strongRecOn with
  | _ k ih =>
    intro hk
    cases hd : listed.getD k true with
    | true =>
      unfold Dn
      simpa [Array.getD_eq_getD_getElem?, hsz ▸ hk, Array.getElem?_eq_getElem (hsz ▸ hk : k < listed.size)] using hd
    | false =>
      have : k ∈ Region.ready .any ops listed := mem_ready.2 ⟨hd, ops[k], by simp [hk], fun e hm hb => ih e.on (he k ops[k] (by simp [hk]) e hm hb) (by
        have := he k ops[k] (by simp [hk]) e hm hb
        omega)⟩
      rw [hr] at this
      cases this
theorem any_sim (hop : OpSim P base) (hrec : CallSim P base rec) (hrl : ∀ f a, Loc (rec f a)) (hok : ∀ o ∈ ops, okOper P o = true) {s : Nat → S} {h : Nat → H} {n : Nat → Nat} {v : Nat → Value} {L : Nat → List En}
    (C : Chain P rec nt ops ops.toList s h n v L) (he : ∀ k o, ops[k]? = some o → ∀ e ∈ o.after, Region.binds .any e = true → e.on < k)
    {bef : List Nat} (hg : Good ops bef) (hlen : bef.length = ops.size)
    (hpair : ∀ j k, j < k → k < ops.size → (bef.getD k 0).testBit j = true ∨ ((⟨n j, n (j + 1), L j⟩ : Tk).clash ⟨n k, n (k + 1), L k⟩ = false ∧ slotClash ops (ops.getD j default) (ops.getD k default) = false))
    {m0 : Mp} {w0 : World} (hf : Fresh m0 (n 0) (n ops.size)) (hmono : ∀ i, i < ops.size → n i ≤ n (i + 1)) (hb : base ≤ w0.heap.size) (g : Gl P m0)
    (hR : ∀ m' a' w', Post P m0 base (n 0) (n ops.size) w0 (h ops.size) m' w' → SR m' nt (s ops.size) a' → Q .normal a' w') :
    ∀ (fuel : Nat) (listed : Array Bool) (m : Mp) (sD : S) (hD : H) (a : Act) (w : World), listed.toList.countP (fun b => !b) = fuel → Inv P base nt ops s h n L m0 w0 listed m sD hD a w → wpAny P .any ops Q fuel listed a w := by
  have hm2 : ∀ i j, i ≤ j → j ≤ ops.size → n i ≤ n j := by
    intro i j hij
    induction hij with
    | refl => intro _; exact Nat.le_refl _
    | step hij ih => intro hj; exact Nat.le_trans (ih (by omega)) (hmono _ (by omega))
  have hloc : ∀ k o, ops[k]? = some o → LocAt (inside (evVal P rec ops o (s k))) (h k) (n k) (v k) (h (k + 1)) (n (k + 1)) (L k) := fun k o ho =>
    Loc.inside (Loc.evVal hrl ops o (s k)) _ _ _ _ _ _ (C.step k o (by simpa using ho))
  -- between the writers of a cell it stays
  have hframe : ∀ b c i j, i ≤ j → j ≤ ops.size → (∀ p, i ≤ p → p < j → ¬ Wr n L p b c) → agrS (h j) (h i) b c := by
    intro b c i j hij
    induction hij with
    | refl => intro _ _; exact agrS.refl _ _ _
    | @step j hij ih =>
      intro hj hp
      have hj2 : j < ops.size := by omega
      have A := hloc j ops[j] (by simp [hj2])
      have hw := hp j hij (by omega)
      exact (A.frame b c (fun x => hw (.inl x)) (fun x => hw (.inr x))).trans (ih (by omega) fun p h1 h2 => hp p h1 (by omega))
  have hsframe : ∀ t i j, i ≤ j → j ≤ ops.size → (∀ p o, i ≤ p → p < j → ops[p]? = some o → o.dst ≠ some t) → (s j).get t = (s i).get t := by
    intro t i j hij
    induction hij with
    | refl => intro _ _; rfl
    | @step j hij ih =>
      intro hj hp
      have hj2 : j < ops.size := by omega
      have hput := C.put j ops[j] (by simp [hj2])
      have hd := hp j ops[j] hij (by omega) (by simp [hj2])
      rw [← ih (by omega) fun p o h1 h2 => hp p o h1 (by omega)]
      unfold putS at hput
      cases hdst : (ops[j]).dst with
      | none => rw [hdst] at hput; have hq : s j = s (j + 1) := Option.some.inj hput; rw [hq]
      | some d =>
        rw [hdst] at hput hd
        simp only at hput
        split at hput
        · rename_i hc
          simp only [Bool.and_eq_true, decide_eq_true_eq] at hc
          have hq := Option.some.inj hput
          rw [← hq, S.get_put _ _ _ _ hc.2, if_neg (fun e => hd (by rw [e]))]
        · cases hput
  have fin : ∀ listed m sD hD a w, Inv P base nt ops s h n L m0 w0 listed m sD hD a w → Region.ready .any ops listed = [] → Q .normal a w := by
    intro listed m sD hD a w I hr
    have hall := undone_all he I.sz hr
    refine hR m a w ⟨I.le, fun b hb => I.out b fun j hj _ hi => hb ⟨Nat.le_trans (hm2 0 j (by omega) (by omega)) hi.1, Nat.lt_of_lt_of_le hi.2 (hm2 (j + 1) ops.size (by omega) (by omega))⟩, I.wr.of_get fun b => ?_, I.below⟩ ⟨I.sr.df, I.sr.sz, fun t => ?_⟩
    · exact (get_of_agrS fun c => I.mem b c ops.size (Nat.le_refl _) fun j hj _ => ⟨fun _ => hj, fun _ => hall j hj⟩).symm
    · rw [← I.slot t ops.size (Nat.le_refl _) fun j o ho _ => ⟨fun _ => (Array.getElem?_eq_some_iff.1 ho).1, fun hj => hall j hj⟩]
      exact I.sr.at_ t
  intro fuel
  induction fuel with
  | zero =>
    intro listed m sD hD a w hfu I
    have hnil : Region.ready .any ops listed = [] := by
      apply List.eq_nil_iff_forall_not_mem.2
      intro k hk
      obtain ⟨h1, o, ho, _⟩ := mem_ready.1 hk
      have hlt : k < listed.size := by rw [I.sz]; exact (Array.getElem?_eq_some_iff.1 ho).1
      have h2 : listed[k] = false := by simpa [Array.getD_eq_getD_getElem?, hlt] using h1
      have := List.countP_eq_zero.1 hfu listed[k] (by simp)
      rw [h2] at this
      exact this rfl
    exact ⟨hnil, fin _ _ _ _ _ _ I hnil⟩
  | succ fuel ih =>
    intro listed m sD hD a w hfu I
    refine ⟨fin _ _ _ _ _ _ I, fun k hk => ?_⟩
    obtain ⟨h1, o, ho, hpre⟩ := mem_ready.1 hk
    have hks : k < ops.size := (Array.getElem?_eq_some_iff.1 ho).1
    have hlt : k < listed.size := by rw [I.sz]; exact hks
    have hkf : listed[k] = false := by simpa [Array.getD_eq_getD_getElem?, hlt] using h1
    have hnk : ¬ Dn listed k := by unfold Dn; simp [Array.getD_eq_getD_getElem?, hlt, hkf]
    have hbef : ∀ j, (bef.getD k 0).testBit j = true → Dn listed j := before_done hg hlen he I.closed k fun o' ho' e hm hb' => by
      rw [ho] at ho'; cases ho'
      exact hpre e hm hb'
    have haft : ∀ j, Dn listed j → (bef.getD j 0).testBit k = true → False := fun j hj hb' => hnk (before_done hg hlen he I.closed j (fun o' ho' => I.closed j o' hj ho') k hb')
    -- which operations may be apart of k
    have hapart : ∀ j, j < ops.size → j ≠ k → ¬ (Dn listed j ↔ j < k) → ((∀ x ∈ L j, ∀ y ∈ L k, (x.wr = true ∨ y.wr = true) → x.b = y.b → (x.k = y.k ∨ x.k = none ∨ y.k = none) → False) ∧ (∀ x ∈ L j, ¬ (n k ≤ x.b ∧ x.b < n (k + 1))) ∧ (∀ x ∈ L k, ¬ (n j ≤ x.b ∧ x.b < n (j + 1)))) ∧
        ∀ oj, ops[j]? = some oj → (∀ d, oj.dst = some d → d ∉ o.looksAt ops) ∧ (∀ d, oj.dst = some d → o.dst ≠ some d) := by
      intro j hj hjk hiff
      have gk : ops.getD k default = o := by simp [Array.getD_eq_getD_getElem?, ho]
      have gj : ∀ oj, ops[j]? = some oj → ops.getD j default = oj := fun oj h' => by simp [Array.getD_eq_getD_getElem?, h']
      rcases Nat.lt_or_ge j k with h' | h'
      · rcases hpair j k h' hks with hbit | ⟨hcl, hsl⟩
        · exact absurd ⟨fun _ => h', fun _ => hbef j hbit⟩ hiff
        · obtain ⟨c1, c2, c3⟩ := clash_spec hcl
          refine ⟨⟨c1, c2, c3⟩, fun oj hoj => ?_⟩
          rw [gk, gj oj hoj] at hsl
          obtain ⟨a1, a2, a3⟩ := Oper.apart_spec (by unfold slotClash at hsl; simpa using hsl)
          exact ⟨a1, a2⟩
      · have h'' : k < j := by omega
        have hdj : Dn listed j := by
          by_cases hd : Dn listed j
          · exact hd
          · exact absurd ⟨fun x => absurd x hd, fun x => by omega⟩ hiff
        rcases hpair k j h'' hj with hbit | ⟨hcl, hsl⟩
        · exact (haft j hdj hbit).elim
        · obtain ⟨c1, c2, c3⟩ := clash_spec hcl
          refine ⟨⟨fun x hx y hy hw hb' hk' => c1 y hy x hx hw.symm hb'.symm (or3 hk'), c3, c2⟩, fun oj hoj => ?_⟩
          rw [gk, gj oj hoj] at hsl
          obtain ⟨a1, a2, a3⟩ := Oper.apart_spec (by unfold slotClash at hsl; simpa using hsl)
          exact ⟨a3, fun d hd e => a2 d e hd⟩
    have A := hloc k o ho
    -- the slots that it looks at are as in the text's order
    have hsl : ∀ t ∈ o.looksAt ops, sD.get t = (s k).get t := fun t ht => I.slot t k (by omega) fun j oj hoj hdst => by
      by_cases hjk : j = k
      · subst hjk; exact ⟨fun x => absurd x hnk, fun x => by omega⟩
      · by_cases hiff : (Dn listed j ↔ j < k)
        · exact hiff
        · exact absurd ht (((hapart j (Array.getElem?_eq_some_iff.1 hoj).1 hjk hiff).2 oj hoj).1 t hdst)
    -- and so is what it touches
    obtain ⟨h1', hrun, hwr⟩ := A.det hD fun e hme hni => agrE.of_all fun c hc => (I.mem e.b c k (by omega) fun j hj hw => by
      by_cases hjk : j = k
      · subst hjk; exact ⟨fun x => absurd x hnk, fun x => by omega⟩
      · by_cases hiff : (Dn listed j ↔ j < k)
        · exact hiff
        · obtain ⟨⟨c1, c2, c3⟩, _⟩ := hapart j hj hjk hiff
          rcases hw with ⟨x, hx, hxw, hxb, hxk⟩ | hw
          · exact (c1 x hx e hme (.inl hxw) hxb (by
              rcases hxk with q | q
              · exact .inr (.inl q)
              · rcases hc with r | r
                · exact .inr (.inr r)
                · exact .inl (by rw [q, r]))).elim
          · exact (c3 e hme hw).elim).symm
    have A' := Loc.inside (Loc.evVal hrl ops o (s k)) _ _ _ _ _ _ hrun
    rw [← evVal_congr (s := sD) hsl] at hrun
    obtain ⟨L', hv⟩ := inside_some hrun
    have hput := C.put k o (by simpa using ho)
    have hout : ∀ b, n k ≤ b → b < n (k + 1) → m b = none := fun b hb1 hb2 => by
      have q1 := hm2 0 k (by omega) (by omega)
      have q2 := hm2 (k + 1) ops.size (by omega) (by omega)
      rw [I.out b fun j hj hd hi => ?_]
      · exact hf b (by omega) (by omega)
      · by_cases hjk : j = k
        · subst hjk; exact hnk hd
        · rcases Nat.lt_or_ge j k with h' | h'
          · have := hm2 (j + 1) k (by omega) (by omega); omega
          · have := hm2 (k + 1) j (by omega) (by omega); omega
    refine evVal_sim (nt := nt) hop hrec hrl ho (hok o (Array.mem_of_getElem? ho)) I.wr (Below.le I.below hb) (g.mono I.le) I.sr hv hout fun m' w' v' hp2 hv' => ?_
    -- the slots behind it
    have hsD : ∃ sD', putS nt sD o.dst (v k) = some sD' ∧ ∀ t, sD'.get t = if o.dst = some t then (s (k + 1)).get t else sD.get t := by
      unfold putS at hput ⊢
      cases hdst : o.dst with
      | none => exact ⟨sD, rfl, fun t => by simp⟩
      | some d =>
        rw [hdst] at hput
        simp only at hput ⊢
        split at hput
        · rename_i hc
          rw [if_pos hc]
          simp only [Bool.and_eq_true, decide_eq_true_eq] at hc
          have hq := Option.some.inj hput
          rw [← hq]
          refine ⟨_, rfl, fun t => ?_⟩
          rw [S.get_put _ _ _ _ hc.2, S.get_put _ _ _ _ hc.2]
          by_cases e : t = d
          · subst e; simp
          · rw [if_neg e, if_neg e]
            simp [Ne.symm e]
        · cases hput
    obtain ⟨sD', hput', hget'⟩ := hsD
    refine ih (listed.setIfInBounds k true) m' sD' h1' _ w' ?_ ⟨by simp [I.sz], ?_, ?_, ?_, I.le.trans hp2.le, ?_, hp2.wr, I.below.trans hp2.below, putS_at (I.sr.mono hp2.le) hv' hput'⟩
    · have hc := List.countP_set (p := fun b => !b) (l := listed.toList) (i := k) (a := true) (by simpa using hlt)
      have e1 : listed.toList[k] = false := by simpa using hkf
      rw [Array.toList_setIfInBounds, hc, hfu, e1]
      simp
    · intro j oj hd hoj e hme hb'
      rw [dn_set hlt] at hd ⊢
      rcases hd with rfl | hd
      · rw [ho] at hoj; cases hoj
        exact .inr (hpre e hme hb')
      · exact .inr (I.closed j oj hd hoj e hme hb')
    · intro b c i hi hiff
      by_cases hw : Wr n L k b c
      · have hki : k < i := (hiff k hks hw).1 ((dn_set hlt).2 (.inl rfl))
        have h2 : agrS (h i) (h (k + 1)) b c := hframe b c (k + 1) i (by omega) hi fun p hp1 hp2' hwp => by
          have hdp : Dn listed p := by
            rcases (dn_set hlt).1 ((hiff p (by omega) hwp).2 hp2') with q | q
            · omega
            · exact q
          obtain ⟨⟨c1, c2, c3⟩, _⟩ := hapart p (by omega) (by omega) (by intro q; have := q.1 hdp; omega)
          rcases hwp with ⟨x, hx, hxw, hxb, hxk⟩ | hwp
          · rcases hw with ⟨y, hy, hyw, hyb, hyk⟩ | hw
            · exact c1 x hx y hy (.inl hxw) (by rw [hxb, hyb]) (by
                rcases hxk with q | q
                · exact .inr (.inl q)
                · rcases hyk with r | r
                  · exact .inr (.inr r)
                  · exact .inl (by rw [q, r]))
            · exact c2 x hx (by rw [hxb]; exact hw)
          · rcases hw with ⟨y, hy, hyw, hyb, hyk⟩ | hw
            · exact c3 y hy (by rw [hyb]; exact hwp)
            · have := hm2 (k + 1) p (by omega) (by omega); omega
        exact (hwr b c hw).trans h2.symm
      · refine (A'.frame b c (fun x => hw (.inl x)) (fun x => hw (.inr x))).trans (I.mem b c i hi fun j hj hwj => ?_)
        have hjk : j ≠ k := fun e => hw (e ▸ hwj)
        rw [← hiff j hj hwj, dn_set hlt]
        exact ⟨.inr, fun q => q.resolve_left hjk⟩
    · intro t i hi hiff
      rw [hget' t]
      by_cases hd : o.dst = some t
      · rw [if_pos hd]
        have hki : k < i := (hiff k o ho hd).1 ((dn_set hlt).2 (.inl rfl))
        refine (hsframe t (k + 1) i (by omega) hi fun p op hp1 hp2' hop' hdp' => ?_).symm
        have hdp : Dn listed p := by
          rcases (dn_set hlt).1 ((hiff p op hop' hdp').2 hp2') with q | q
          · omega
          · exact q
        obtain ⟨_, c⟩ := hapart p (by omega) (by omega) (by intro q; have := q.1 hdp; omega)
        exact (c op hop').2 t hdp' hd
      · rw [if_neg hd]
        refine I.slot t i hi fun j oj hoj hdst => ?_
        have hjk : j ≠ k := fun e => hd (by subst e; rw [ho] at hoj; cases hoj; exact hdst)
        rw [← hiff j oj hoj hdst, dn_set hlt]
        exact ⟨.inr, fun q => q.resolve_left hjk⟩
    · intro b hbo
      rw [hp2.out b (hbo k hks ((dn_set hlt).2 (.inl rfl)))]
      exact I.out b fun j hj hd => hbo j hj ((dn_set hlt).2 (.inr hd))
end

end Go.Proofs.YtcehhgppfahbkaaGreatDoor.Ev
namespace Go.Proofs.YtcehhgppfahbkaaGreatDoor.Ev
set_option linter.unusedVariables false
set_option linter.unusedSimpArgs false
open Go Go.RowKit

theorem exists_least {p : Nat → Prop} (h : ∃ n, p n) : ∃ n, p n ∧ ∀ k, p k → n ≤ k := by
  obtain ⟨n, hn⟩ := h
  induction n using Nat.strongRecOn with
  | _ n ih =>
    by_cases hx : ∃ k, k < n ∧ p k
    · obtain ⟨k, hk, hp⟩ := hx
      exact ih k hk hp
    · exact ⟨n, hn, fun k hk => by
        rcases Nat.lt_or_ge k n with h | h
        · exact absurd ⟨k, h, hk⟩ hx
        · exact h⟩
noncomputable def least (p : Nat → Prop) : Nat := open Classical in if h : ∃ n, p n then Classical.choose (exists_least h) else 0
theorem least_spec {p : Nat → Prop} (h : ∃ n, p n) : p (least p) ∧ ∀ k, p k → least p ≤ k := by
  unfold least
  rw [dif_pos h]
  exact Classical.choose_spec (exists_least h)

def cv : Ex → Exit
  | .normal => .normal
  | .ret => .ret
  | .exit id => .exit id

section
variable {P : Program} {base : Nat} {rec : FuncId → Array Value → M Value} {nt : Nat}
theorem region_sim (hop : OpSim P base) (hrec : CallSim P base rec) (hrl : ∀ f a, Loc (rec f a)) (hmix : P.follows .mixedOrders = true) {id : Nat} {ops : Array Oper} {draw : Bool} (hok : ∀ o ∈ ops, okOper P o = true)
    {Q : Exit → Act → World → Prop} {m : Mp} {s s1 : S} {a : Act} {w : World} {h h1 : H} {n n1 : Nat} {L : List En} (x : WR P m base h w.heap) (hb : base ≤ w.heap.size) (g : Gl P m) (hs : SR m nt s a)
    (hr : evRegion P rec nt ops draw s h n = some ⟨s1, h1, n1, L⟩) (hf : Fresh m n n1) (hQ : ∀ m' a' w', Post P m base n n1 w h1 m' w' → SR m' nt s1 a' → Q .normal a' w') : (Code.region id ops draw).wp P Q a w := by
  unfold evRegion at hr
  obtain ⟨y, h2, n2, L1, L2, e1, e2, _⟩ := bind_some hr
  obtain ⟨sf, hf', nf, vf, Lf, C, a1, a2, a3, a4, a5, a6, a7, a8⟩ := evOpers_chain _ _ _ _ _ _ _ _ e1
  have hlen : ops.toList.length = ops.size := by simp
  rw [hlen] at a4 a5 a6 a7 a8
  have hmono : ∀ i, i < ops.size → nf i ≤ nf (i + 1) := fun i hi =>
    (Loc.inside (Loc.evVal hrl ops ops[i] (sf i)) _ _ _ _ _ _ (C.step i ops[i] (by simp [hi]))).le
  split at e2
  · rename_i hcond
    obtain ⟨rfl, rfl, rfl⟩ := ret_some e2
    subst a1 a2 a3 a5 a6
    rw [← a4] at hQ
    cases draw with
    | false =>
      apply wp_region
      rw [List.range_eq_range']
      exact chain_sim hop hrec hrl hok C hf hmono hb g (fun _ _ => True) hQ ops.size 0 (by omega) m a w (Post.refl x) hs
    | true =>
      simp only [Bool.not_true, Bool.false_or, Bool.and_eq_true] at hcond
      obtain ⟨hedge, hpairs⟩ := hcond
      apply wp_region_any hmix
      have hgood := befores_good ops ops.toList [] (fun i o ho => by simpa using ho) (fun k hk => by simp at hk)
      refine any_sim hop hrec hrl hok C (fun k o ho e he hb' => ?_) hgood.1 (by simpa using hgood.2) (fun j k hjk hk => ?_) hf hmono (w0 := { w with drawn := w.drawn + 1 }) hb g (fun m' a' w' hp hs' => hQ m' a' w' ⟨hp.le, hp.out, hp.wr, (Below.drew (Below.refl base w)).trans hp.below⟩ hs') ops.size _ m (sf 0) (hf' 0) a _ ?_ ?_
      · unfold edgesOk at hedge
        rw [List.all_eq_true] at hedge
        have := hedge (o, k) (by
          rw [List.mem_iff_getElem?]
          exact ⟨k, by simp [List.getElem?_zipIdx, ho]⟩)
        simp only [Bool.and_eq_true] at this
        have h2 := this.1
        rw [Array.all_eq_true_iff_forall_mem] at h2
        have h3 := h2 e he
        simpa [hb'] using h3
      · have hj : j < ops.size := by omega
        have := pairsOk_at _ hpairs j k (j, ⟨nf j, nf (j + 1), Lf j⟩) (k, ⟨nf k, nf (k + 1), Lf k⟩) hjk (by rw [tagged_at, a8 j hj]; simp) (by rw [tagged_at, a8 k hk]; simp)
        exact this
      · simp [List.countP_replicate]
      · have hnd : ∀ j, ¬ Dn (Array.replicate ops.size false) j := by
          intro j hj
          unfold Dn at hj
          rw [Array.getD_eq_getD_getElem?, Array.getElem?_replicate] at hj
          split at hj <;> simp at hj
        refine ⟨by simp, fun k o hd => absurd hd (hnd k), fun b c i hi hiff => ?_, fun t i hi hiff => ?_, Le.refl _, fun _ _ => rfl, x, Below.refl _ _, hs⟩
        · -- no writer lies ahead of i
          have key : ∀ i, i ≤ ops.size → (∀ j, j < ops.size → Wr nf Lf j b c → ¬ j < i) → agrS (hf' 0) (hf' i) b c := by
            intro i
            induction i with
            | zero => intro _ _; exact agrS.refl _ _ _
            | succ i ih =>
              intro hi hno
              have A := Loc.inside (Loc.evVal hrl ops ops[i] (sf i)) _ _ _ _ _ _ (C.step i ops[i] (by simp [show i < ops.size by omega]))
              have hw : ¬ Wr nf Lf i b c := fun hw => hno i (by omega) hw (by omega)
              exact (ih (by omega) fun j hj hwj hlt => hno j hj hwj (by omega)).trans (A.frame b c (fun q => hw (.inl q)) (fun q => hw (.inr q))).symm
          exact key i hi fun j hj hw hlt => hnd j ((hiff j hj hw).2 hlt)
        · have key : ∀ i, i ≤ ops.size → (∀ j o, ops[j]? = some o → o.dst = some t → ¬ j < i) → (sf 0).get t = (sf i).get t := by
            intro i
            induction i with
            | zero => intro _ _; rfl
            | succ i ih =>
              intro hi hno
              have hi2 : i < ops.size := by omega
              rw [ih (by omega) fun j o ho hd hlt => hno j o ho hd (by omega)]
              have hput := C.put i ops[i] (by simp [hi2])
              have hd : (ops[i]).dst ≠ some t := fun hd => hno i ops[i] (by simp [hi2]) hd (by omega)
              unfold putS at hput
              cases hdst : (ops[i]).dst with
              | none => rw [hdst] at hput; have hq : sf i = sf (i + 1) := Option.some.inj hput; rw [hq]
              | some d =>
                rw [hdst] at hput hd
                simp only at hput
                split at hput
                · rename_i hc
                  simp only [Bool.and_eq_true, decide_eq_true_eq] at hc
                  have hq := Option.some.inj hput
                  rw [← hq, S.get_put _ _ _ _ hc.2, if_neg (fun e => hd (by rw [e]))]
                · cases hput
          exact key i hi fun j o ho hd hlt => hnd j ((hiff j o ho hd).2 hlt)
  · cases e2

theorem code_sim (hop : OpSim P base) (hrec : CallSim P base rec) (hrl : ∀ f a, Loc (rec f a)) (hmix : P.follows .mixedOrders = true) :
    ∀ (fuel : Nat) (c : Code) (_ : okCode P c = true) (Q : Exit → Act → World → Prop) (m : Mp) (s s1 : S) (a : Act) (w : World) (h h1 : H) (n n1 : Nat) (L : List En) (e : Ex), WR P m base h w.heap → base ≤ w.heap.size → Gl P m → SR m nt s a →
      evCode P rec nt fuel c s h n = some ⟨(e, s1), h1, n1, L⟩ → Fresh m n n1 → (∀ m' a' w', Post P m base n n1 w h1 m' w' → SR m' nt s1 a' → Q (cv e) a' w') → c.wp P Q a w := by
  intro fuel
  induction fuel using Nat.strongRecOn with
  | _ fuel ih =>
    intro c hok Q m s s1 a w h h1 n n1 L e x hb g hs hr hf hQ
    cases fuel with
    | zero => cases hr
    | succ f =>
      cases c with
      | skip =>
        obtain ⟨q, rfl, rfl⟩ := ret_some hr
        cases q
        exact wp_skip (hQ m a w (Post.refl x) hs)
      | label l =>
        obtain ⟨q, rfl, rfl⟩ := ret_some hr
        cases q
        exact wp_label (hQ m a w (Post.refl x) hs)
      | region id ops draw =>
        unfold evCode at hr
        obtain ⟨s2, h2, n2, L1, L2, e1, e2, _⟩ := bind_some hr
        obtain ⟨q, rfl, rfl⟩ := ret_some e2
        cases q
        refine region_sim hop hrec hrl hmix (fun o ho => ?_) x hb g hs e1 hf hQ
        unfold okCode at hok
        rw [Array.all_eq_true_iff_forall_mem] at hok
        exact hok o ho
      | seq c1 c2 =>
        unfold okCode at hok
        simp only [Bool.and_eq_true] at hok
        unfold evCode at hr
        obtain ⟨y, h2, n2, L1, L2, e1, e2, _⟩ := bind_some hr
        obtain ⟨e0, s2⟩ := y
        have A := Loc.evCode hrl f c1 s h n _ h2 n2 L1 e1
        apply wp_seq
        cases e0 with
        | normal =>
          have B := Loc.evCode hrl f c2 s2 h2 n2 _ h1 n1 L2 e2
          refine ih f (by omega) c1 hok.1 _ m s s2 a w h h2 n n2 L1 .normal x hb g hs e1 (hf.first B.le) fun m' a' w' hp hs' => ?_
          exact ih f (by omega) c2 hok.2 Q m' s2 s1 a' w' h2 h1 n2 n1 L2 e hp.wr (Below.le hp.below hb) (g.mono hp.le) hs' e2 (hf.after A.le hp) fun m'' a'' w'' hp2 hs2 => hQ m'' a'' w'' (hp.trans A.le B.le hp2) hs2
        | ret =>
          obtain ⟨q, rfl, rfl⟩ := ret_some e2
          cases q
          exact ih f (by omega) c1 hok.1 _ m s _ a w h _ n _ L1 .ret x hb g hs e1 hf fun m' a' w' hp hs' => hQ m' a' w' hp hs'
        | exit id =>
          obtain ⟨q, rfl, rfl⟩ := ret_some e2
          cases q
          exact ih f (by omega) c1 hok.1 _ m s _ a w h _ n _ L1 (.exit id) x hb g hs e1 hf fun m' a' w' hp hs' => hQ m' a' w' hp hs'
      | cond c0 c1 c2 =>
        unfold okCode at hok
        simp only [Bool.and_eq_true] at hok
        unfold evCode at hr
        simp only at hr
        generalize ht : ev s c0 = v0 at hr
        cases v0 with
        | bool t =>
          have hv := ev_at g hs hok.1.1
          rw [ht] at hv
          have hc : a.eval c0 = .bool t := by
            generalize a.eval c0 = u at hv
            cases hv; rfl
          refine wp_cond hc ?_
          refine ih f (by omega) _ ?_ Q m s s1 a w h h1 n n1 L e x hb g hs hr hf hQ
          cases t
          · exact hok.2
          · exact hok.1.2
        | _ => cases hr
      | block id c1 =>
        unfold okCode at hok
        unfold evCode at hr
        obtain ⟨y, h2, n2, L1, L2, e1, e2, _⟩ := bind_some hr
        obtain ⟨e0, s2⟩ := y
        apply wp_block
        cases e0 with
        | normal =>
          obtain ⟨q, rfl, rfl⟩ := ret_some e2
          cases q
          exact ih f (by omega) c1 hok _ m s _ a w h _ n _ L1 .normal x hb g hs e1 hf fun m' a' w' hp hs' => hQ m' a' w' hp hs'
        | ret =>
          obtain ⟨q, rfl, rfl⟩ := ret_some e2
          cases q
          exact ih f (by omega) c1 hok _ m s _ a w h _ n _ L1 .ret x hb g hs e1 hf fun m' a' w' hp hs' => hQ m' a' w' hp hs'
        | exit id' =>
          simp only at e2
          by_cases hid : id' = id
          · rw [if_pos hid] at e2
            obtain ⟨q, rfl, rfl⟩ := ret_some e2
            cases q
            refine ih f (by omega) c1 hok _ m s _ a w h _ n _ L1 (.exit id') x hb g hs e1 hf fun m' a' w' hp hs' => ?_
            show (if id' = id then _ else _)
            rw [if_pos hid]
            exact hQ m' a' w' hp hs'
          · rw [if_neg hid] at e2
            obtain ⟨q, rfl, rfl⟩ := ret_some e2
            cases q
            refine ih f (by omega) c1 hok _ m s _ a w h _ n _ L1 (.exit id') x hb g hs e1 hf fun m' a' w' hp hs' => ?_
            show (if id' = id then _ else _)
            rw [if_neg hid]
            exact hQ m' a' w' hp hs'
      | loop c1 =>
        have hok1 : okCode P c1 = true := by unfold okCode at hok; exact hok
        let J : Act → World → Nat → Prop := fun a' w' k => k ≤ f + 1 ∧ ∃ m' s' h' n' L', n ≤ n' ∧ n' ≤ n1 ∧ Post P m base n n' w h' m' w' ∧ SR m' nt s' a' ∧ evCode P rec nt k (.loop c1) s' h' n' = some ⟨(e, s1), h1, n1, L'⟩
        have hle := (Loc.evCode hrl (f + 1) (.loop c1) s h n _ h1 n1 L hr).le
        refine wp_loop (fun a' w' => ∃ k, J a' w' k) (fun a' w' => least (J a' w')) ⟨f + 1, Nat.le_refl _, m, s, h, n, L, Nat.le_refl _, hle, Post.refl x, hs, hr⟩ ?_
        intro a' w' hI
        obtain ⟨hJ, hmin⟩ := least_spec hI
        generalize hk : least (J a' w') = k at hJ
        obtain ⟨hkf, m', s', h', n', L', hn1, hn2, hp, hs', hr'⟩ := hJ
        cases k with
        | zero => cases hr'
        | succ k =>
          unfold evCode at hr'
          obtain ⟨y, h2, n2, L1, L2, e1, e2, _⟩ := bind_some hr'
          obtain ⟨e0, s2⟩ := y
          have A := Loc.evCode hrl k c1 s' h' n' _ h2 n2 L1 e1
          cases e0 with
          | normal =>
            have B := Loc.evCode hrl k (.loop c1) s2 h2 n2 _ h1 n1 L2 e2
            refine ih k (by omega) c1 hok1 _ m' s' s2 a' w' h' h2 n' n2 L1 .normal hp.wr (Below.le hp.below hb) (g.mono hp.le) hs' e1 (fun b q1 q2 => ?_) fun m'' a'' w'' hp2 hs2 => ?_
            · have := B.le
              rw [hp.out b (by omega)]
              exact hf b (by omega) (by omega)
            · have hJ2 : J a'' w'' k := ⟨by omega, m'', s2, h2, n2, L2, by have := A.le; omega, B.le, hp.trans hn1 A.le hp2, hs2, e2⟩
              exact ⟨⟨k, hJ2⟩, Nat.lt_succ_of_le ((least_spec ⟨k, hJ2⟩).2 k hJ2)⟩
          | ret =>
            obtain ⟨q, rfl, rfl⟩ := ret_some e2
            cases q
            refine ih k (by omega) c1 hok1 _ m' s' _ a' w' h' _ n' _ L1 .ret hp.wr (Below.le hp.below hb) (g.mono hp.le) hs' e1 (fun b q1 q2 => ?_) fun m'' a'' w'' hp2 hs2 => hQ m'' a'' w'' (hp.trans hn1 A.le hp2) hs2
            rw [hp.out b (by omega)]
            exact hf b (by omega) q2
          | exit id =>
            obtain ⟨q, rfl, rfl⟩ := ret_some e2
            cases q
            refine ih k (by omega) c1 hok1 _ m' s' _ a' w' h' _ n' _ L1 (.exit id) hp.wr (Below.le hp.below hb) (g.mono hp.le) hs' e1 (fun b q1 q2 => ?_) fun m'' a'' w'' hp2 hs2 => hQ m'' a'' w'' (hp.trans hn1 A.le hp2) hs2
            rw [hp.out b (by omega)]
            exact hf b (by omega) q2
      | exit id =>
        obtain ⟨q, rfl, rfl⟩ := ret_some hr
        cases q
        exact wp_exit (hQ m a w (Post.refl x) hs)
      | ret =>
        obtain ⟨q, rfl, rfl⟩ := ret_some hr
        cases q
        exact wp_ret (hQ m a w (Post.refl x) hs)
      | rangeFunc _ _ _ _ => cases hr
      | scope _ => cases hr
      | goto _ => cases hr
      | refuse _ => cases hr
end

theorem argS_get : ∀ (l : List Value) (i : Nat) (s : S) (t : Nat), i + l.length < 1023 → (argS i l s).get t = if i ≤ t ∧ t < i + l.length then l.getD (t - i) undef else s.get t := by
  intro l
  induction l with
  | nil => intro i s t _; rw [if_neg (by simp)]; rfl
  | cons v r ih =>
    intro i s t hl
    simp only [List.length_cons] at hl
    unfold argS
    rw [ih (i + 1) _ t (by omega)]
    by_cases h1 : i + 1 ≤ t ∧ t < i + 1 + r.length
    · rw [if_pos h1, if_pos (by simp; omega)]
      rw [show t - i = (t - (i + 1)) + 1 by omega]
      simp
    · rw [if_neg h1, S.get_put _ _ _ _ (by omega)]
      by_cases e : t = i
      · subst e; simp
      · rw [if_neg e, if_neg (by simp; omega)]
theorem S.get_nil (t : Nat) : S.get (.nil : S) t = undef := by unfold S.get; rw [Tr.get_nil]; rfl
theorem args_sr {m : Mp} {args args' : Array Value} {nt : Nat} (h : VRs m args.toList args'.toList) (h1 : args.size ≤ nt) (h2 : nt < 1000) : SR m nt (argS 0 args.toList .nil) { tmps := args' ++ Array.replicate (nt - args'.size) undef, defers := [] } := by
  have hl : args.size = args'.size := by simpa using h.length
  refine ⟨rfl, by simp; omega, fun t => ?_⟩
  rw [argS_get _ _ _ _ (by simp; omega)]
  by_cases ht : t < args.size
  · rw [if_pos (by simp; exact ht)]
    obtain ⟨v', hv', hr⟩ := h.get t (args.toList.getD (t - 0) undef) (by simp [List.getD_eq_getElem?_getD, ht])
    have : (args' ++ Array.replicate (nt - args'.size) undef).getD t undef = v' := by
      have ht' : t < args'.size := by omega
      rw [Array.getD_eq_getD_getElem?, Array.getElem?_append_left ht']
      simp at hv'
      simp [hv']
    show VR m _ ((args' ++ Array.replicate (nt - args'.size) undef).getD t undef)
    rw [this]
    exact hr
  · rw [if_neg (by simp; omega), S.get_nil]
    have : (args' ++ Array.replicate (nt - args'.size) undef).getD t undef = undef := by
      rw [Array.getD_eq_getD_getElem?, Array.getElem?_append_right (by omega), Array.getElem?_replicate]
      split <;> rfl
    show VR m _ ((args' ++ Array.replicate (nt - args'.size) undef).getD t undef)
    rw [this]
    exact VR.undef
end Go.Proofs.YtcehhgppfahbkaaGreatDoor.Ev
namespace Go.Proofs.YtcehhgppfahbkaaGreatDoor.Ev
set_option linter.unusedVariables false
set_option linter.unusedSimpArgs false
open Go Go.RowKit

theorem pureRun_run {P : Program} : ∀ (s : Sem Next) (v : Value), pureRun P s = some v → ∀ w, s.run P w = .ok (.value v) w := by
  intro s
  induction s with
  | pure a =>
    intro v h w
    cases a <;> simp [pureRun] at h
    subst h; rfl
  | program k ih =>
    intro v h w
    exact ih P v (by simpa [pureRun] using h) w
  | _ => intro v h; simp [pureRun] at h
def Sound (P : Program) (base : Nat) (m : Mp) (w : World) (h : H) (n : Nat) (s : Sem Value) (r : Value) (h1 : H) (n1 : Nat) : Prop :=
  ∃ m' w' v', s.run P w = .ok v' w' ∧ Post P m base n n1 w h1 m' w' ∧ VR m' r v'
theorem size_info {P : Program} {e : TypeId} {n : Nat} (h : size? P e = some n) : ∃ i, P.info? e = some i ∧ i.size = n := by
  unfold size? at h
  cases hi : P.info? e with
  | none => rw [hi] at h; cases h
  | some i => rw [hi] at h; exact ⟨i, rfl, by simpa using h⟩
theorem zero_both {P : Program} {e : TypeId} {z : Value} (h : zero? P e = some z) : (∃ i, P.info? e = some i ∧ i.zero = some z) ∧ clean z = true := by
  unfold zero? at h
  cases hi : P.info? e with
  | none => rw [hi] at h; cases h
  | some i =>
    rw [hi] at h
    simp only [Option.bind_some] at h
    cases hz : i.zero with
    | none => rw [hz] at h; cases h
    | some u =>
      rw [hz] at h
      simp only at h
      split at h
      · rename_i hc
        cases h
        exact ⟨⟨i, rfl, hz⟩, hc⟩
      · cases h
theorem zero_info {P : Program} {e : TypeId} {z : Value} (h : zero? P e = some z) : ∃ i, P.info? e = some i ∧ i.zero = some z := (zero_both h).1
theorem zero_clean {P : Program} {e : TypeId} {z : Value} (h : zero? P e = some z) : clean z = true := (zero_both h).2
theorem run_sizeOf {P : Program} {e : TypeId} {n : Nat} (h : size? P e = some n) (w : World) : (sizeOf e).run P w = .ok n w := by
  obtain ⟨i, hi, rfl⟩ := size_info h
  simp [sizeOf, typeInfo, program, hi, Sem.run, bind, Sem.bind]
  rfl
theorem run_zeroValue {P : Program} {e : TypeId} {z : Value} (h : zero? P e = some z) (w : World) : (zeroValue e).run P w = .ok z w := by
  obtain ⟨i, hi, hz⟩ := zero_info h
  simp [zeroValue, typeInfo, program, hi, hz, Sem.run]
theorem agg_isAgg {P : Program} {t : TypeId} {b : Bool} (h : agg? P t = some b) (w : World) : (isAgg t).run P w = .ok b w := by
  unfold agg? at h
  cases hd : P.underlying t with
  | none => rw [hd] at h; cases h
  | some d =>
    rw [hd] at h
    unfold isAgg
    rw [Sem.run_bind, run_underlying hd]
    cases d <;> simp at h <;> subst h <;> rfl

section
variable {P : Program} {base : Nat} {m : Mp} {w : World} {h h1 : H} {n n1 : Nat} {r : Value} {L : List En}
theorem sound_alloc {e : TypeId} (x : WR P m base h w.heap) (hb : base ≤ w.heap.size) (hf : Fresh m n n1) (hr : evAlloc P e h n = some ⟨r, h1, n1, L⟩) : Sound P base m w h n (Instr.alloc e true (.tuple #[])) r h1 n1 := by
  unfold evAlloc at hr
  cases hz : zero? P e with
  | none => rw [hz] at hr; cases hr
  | some z =>
    rw [hz] at hr
    obtain ⟨id, h2, n2, L1, L2, e1, e2, _⟩ := bind_some hr
    obtain ⟨rfl, rfl, rfl⟩ := ret_some e2
    obtain ⟨i, hi, _⟩ := zero_info hz
    have hc := (VR.clean (m := m) (zero_clean hz)).cells
    obtain ⟨rfl, rfl, m', hm', hp⟩ := newB_at x e1 hf hb (cs' := z.cells) (by simp) (fun k v hk => by simpa using hc.get k v hk) (esz := i.size) (by simp [size?, hi])
    refine ⟨m', _, .pointer (some ⟨w.heap.size, 0, none⟩), ?_, hp, ?_⟩
    · simp only [Instr.alloc, Sem.run_bind, run_zeroValue hz, Result.andThen, newVar, newRow, newObj]
      rfl
    · exact VR.ptr hm'
theorem sound_box {e : TypeId} {v v' : Value} (hv : VR m v v') (x : WR P m base h w.heap) (hb : base ≤ w.heap.size) (hf : Fresh m n n1) (hr : evBox P e v h n = some ⟨r, h1, n1, L⟩) : Sound P base m w h n (Instr.box e v') r h1 n1 := by
  unfold evBox at hr
  cases hz : size? P e with
  | none => rw [hz] at hr; cases hr
  | some z =>
    rw [hz] at hr
    obtain ⟨id, h2, n2, L1, L2, e1, e2, _⟩ := bind_some hr
    obtain ⟨rfl, rfl, rfl⟩ := ret_some e2
    obtain ⟨rfl, rfl, m', hm', hp⟩ := newB_at x e1 hf hb (cs' := v'.cells) (by simp [hv.cells_size]) (fun k u hk => by simpa using hv.cells.get k u hk) hz
    exact ⟨m', _, .pointer (some ⟨w.heap.size, 0, none⟩), rfl, hp, VR.ptr hm'⟩
theorem setMany {cs cs' : Array Value} {off : Nat} : ∀ {us us' : List Value} (_ : VRs m us us') (i : Nat) {cs cs' : Array Value}, VRs m cs.toList cs'.toList →
    VRs m ((us.zipIdx i).foldl (fun (a : Array Value) (x : Value × Nat) => a.setIfInBounds (off + x.2) x.1) cs).toList ((us'.zipIdx i).foldl (fun (a : Array Value) (x : Value × Nat) => a.setIfInBounds (off + x.2) x.1) cs').toList := by
  intro us us' hu
  induction hu using VRs.rec (motive_1 := fun _ _ _ => True) with
  | nil => intro i cs cs' hc; exact hc
  | cons hv _ _ ih =>
    intro i cs cs' hc
    simp only [List.zipIdx_cons, List.foldl_cons]
    exact ih (i + 1) (by simpa using VRs.set (off + i) hc hv)
  | _ => trivial
theorem fill_at {place : Nat → Option (Nat × Nat)} : ∀ (parts parts' : List (Nat × Value)) (cs cs' out : Array Value), parts.map (·.1) = parts'.map (·.1) → VRs m (parts.map (·.2)) (parts'.map (·.2)) → VRs m cs.toList cs'.toList → Instr.fill place cs parts = some out →
    ∃ out', Instr.fill place cs' parts' = some out' ∧ VRs m out.toList out'.toList ∧ out.size = cs.size := by
  intro parts
  induction parts with
  | nil =>
    intro parts' cs cs' out h1 h2 h3 h4
    cases parts' with
    | nil => simp [Instr.fill] at h4; subst h4; exact ⟨cs', rfl, h3, rfl⟩
    | cons _ _ => simp at h1
  | cons p parts ih =>
    intro parts' cs cs' out h1 h2 h3 h4
    cases parts' with
    | nil => simp at h1
    | cons p' parts' =>
      obtain ⟨i, v⟩ := p
      obtain ⟨i', v'⟩ := p'
      simp at h1
      obtain ⟨rfl, h1⟩ := h1
      simp only [List.map_cons] at h2
      cases h2 with
      | cons hv ht =>
        unfold Instr.fill at h4 ⊢
        cases hp : place i with
        | none => rw [hp] at h4; cases h4
        | some os =>
          obtain ⟨off, sz⟩ := os
          rw [hp] at h4
          simp only at h4 ⊢
          have e1 : v'.cells.size = v.cells.size := hv.cells_size.symm
          have e2 : cs'.size = cs.size := by have := h3.length; simpa using this.symm
          rw [e1, e2]
          split at h4
          · cases h4
          · rename_i hc
            rw [if_neg hc]
            have hs := setMany (m := m) (cs := cs) (cs' := cs') (off := off) hv.cells 0 h3
            have e3 : ∀ (vs : Array Value) (a : Array Value), vs.zipIdx.foldl (fun cs (c, j) => cs.setIfInBounds (off + j) c) a = (vs.toList.zipIdx 0).foldl (fun (a : Array Value) (x : Value × Nat) => a.setIfInBounds (off + x.2) x.1) a := by
              intro vs a
              rw [← Array.foldl_toList, Array.toList_zipIdx]
            have e4 : ∀ (vs : List (Value × Nat)) (a : Array Value), (vs.foldl (fun (a : Array Value) (x : Value × Nat) => a.setIfInBounds (off + x.2) x.1) a).size = a.size := by
              intro vs
              induction vs with
              | nil => intro a; rfl
              | cons y ys ihy => intro a; rw [List.foldl_cons, ihy]; simp
            rw [e3] at h4 ⊢
            obtain ⟨out', a1, a2, a3⟩ := ih parts' _ _ out h1 ht hs h4
            exact ⟨out', a1, a2, by rw [a3, e4]⟩
theorem sound_build {t : TypeId} {parts parts' : List (Nat × Value)} (h1p : parts.map (·.1) = parts'.map (·.1)) (h2p : VRs m (parts.map (·.2)) (parts'.map (·.2))) (x : WR P m base h w.heap)
    (hr : evBuild P t parts h n = some ⟨r, h1, n1, L⟩) : Sound P base m w h n (Instr.build t parts'.toArray) r h1 n1 := by
  unfold evBuild at hr
  cases hz : zero? P t with
  | none => rw [hz] at hr; cases hr
  | some z =>
    rw [hz] at hr
    cases hu : P.underlying t with
    | none => rw [hu] at hr; cases hr
    | some d =>
      rw [hu] at hr
      simp only at hr
      cases hpc : plc? P d with
      | none => rw [hpc] at hr; cases hr
      | some pl =>
        rw [hpc] at hr
        simp only at hr
        cases hfl : Instr.fill pl z.cells parts with
        | none => rw [hfl] at hr; cases hr
        | some cs =>
          rw [hfl] at hr
          obtain ⟨rfl, rfl, rfl⟩ := ret_some hr
          obtain ⟨cs', a1, a2, _⟩ := fill_at parts parts' _ _ cs h1p h2p (VR.clean (m := m) (zero_clean hz)).cells hfl
          refine ⟨m, w, .agg cs', ?_, Post.refl x, .agg a2⟩
          cases d with
          | struct fs =>
            unfold plc? at hpc
            cases hall : fs.all fun f => (size? P f.type).isSome with
            | false => simp only [hall] at hpc; cases hpc
            | true =>
              simp only [hall] at hpc
              cases hpc
              have hplaces : (fs.mapM fun f => do pure (f.offset, ← sizeOf f.type) : Sem (Array (Nat × Nat))).run P w = .ok (fs.map fun f => (f.offset, (size? P f.type).getD 0)) w := by
                rw [Array.mapM_eq_mapM_toList]
                have : ∀ l : List Field, (∀ f ∈ l, (size? P f.type).isSome = true) → (l.mapM (fun f => do pure (f.offset, ← sizeOf f.type)) : Sem (List (Nat × Nat))).run P w = .ok (l.map fun f => (f.offset, (size? P f.type).getD 0)) w := by
                  intro l
                  induction l with
                  | nil => intro _; rfl
                  | cons f l ih =>
                    intro hl
                    obtain ⟨k, hk⟩ := Option.isSome_iff_exists.1 (hl f (by simp))
                    rw [List.mapM_cons]
                    simp only [bind_assoc, pure_bind, Sem.run_bind, run_sizeOf hk, Result.andThen, ih fun f' hf' => hl f' (by simp [hf'])]
                    simp [hk]
                have h3 := this fs.toList fun f hf' => (Array.all_eq_true_iff_forall_mem.1 hall) f (Array.mem_toList_iff.1 hf')
                simp only [map_eq_pure_bind, Sem.run_bind, h3, Result.andThen, Sem.run_pure]
                congr 1
                apply Array.ext'
                simp
              have hpl : ∀ i, (fs.map fun f => (f.offset, (size? P f.type).getD 0))[i]? = placeOf P fs i := by
                intro i
                unfold placeOf
                cases hfi : fs[i]? with
                | none => simp [hfi]
                | some f =>
                  obtain ⟨k, hk⟩ := Option.isSome_iff_exists.1 ((Array.all_eq_true_iff_forall_mem.1 hall) f (Array.mem_of_getElem? hfi))
                  simp [hfi, hk]
              have hpl2 : (fun i => (fs.map fun f => (f.offset, (size? P f.type).getD 0))[i]?) = placeOf P fs := funext hpl
              unfold Instr.build
              simp only [Sem.run_bind, run_zeroValue hz, run_underlying hu, Result.andThen, hplaces, hpl2, a1]
              rfl
          | array _ e =>
            unfold plc? at hpc
            cases hs : size? P e with
            | none => simp only [hs] at hpc; cases hpc
            | some sz =>
              simp only [hs] at hpc
              cases hpc
              unfold Instr.build
              simp only [Sem.run_bind, run_zeroValue hz, run_underlying hu, Result.andThen, run_sizeOf hs, a1]
              rfl
          | _ => cases hpc
theorem zeros_at {e : TypeId} {z : Value} (hz : zero? P e = some z) (k : Nat) : VRs m (zeros z k).toList (zeros z k).toList := by
  unfold zeros
  rw [Array.toList_map]
  refine VRs.map _ fun i => ?_
  have hc := (VR.clean (m := m) (zero_clean hz)).cells
  by_cases hi : i % z.cells.size < z.cells.size
  · obtain ⟨v', hv', hr⟩ := hc.get (i % z.cells.size) z.cells[i % z.cells.size] (by simp [hi])
    have : v' = z.cells[i % z.cells.size] := by simpa [hi] using hv'.symm
    rw [this] at hr
    simpa [hi] using hr
  · rw [getElem!_neg z.cells _ hi]
    exact .bool _
theorem sound_buildSlice {t : TypeId} {len : Nat} {parts parts' : List (Nat × Value)} (h1p : parts.map (·.1) = parts'.map (·.1)) (h2p : VRs m (parts.map (·.2)) (parts'.map (·.2))) (x : WR P m base h w.heap) (hb : base ≤ w.heap.size) (hf : Fresh m n n1)
    (hr : evBuildSlice P t len parts h n = some ⟨r, h1, n1, L⟩) : Sound P base m w h n (Instr.buildSlice t len parts'.toArray) r h1 n1 := by
  unfold evBuildSlice at hr
  cases hu : P.underlying t with
  | none => rw [hu] at hr; cases hr
  | some d =>
    rw [hu] at hr
    cases d <;> try (cases hr; done)
    rename_i e
    simp only at hr
    cases hs : size? P e with
    | none => rw [hs] at hr; cases hr
    | some sz =>
      cases hz : zero? P e with
      | none => rw [hs, hz] at hr; cases hr
      | some z =>
        rw [hs, hz] at hr
        simp only at hr
        by_cases hzero : (len = 0 && parts.isEmpty) = true
        · rw [if_pos hzero] at hr
          simp only [Bool.and_eq_true, decide_eq_true_eq, List.isEmpty_iff] at hzero
          obtain ⟨rfl, rfl⟩ := hzero
          obtain ⟨id, h2, n2, L1, L2, e1, e2, _⟩ := bind_some hr
          obtain ⟨rfl, rfl, rfl⟩ := ret_some e2
          have hp0 : parts' = [] := by
            cases parts' with
            | nil => rfl
            | cons p ps => simp at h1p
          subst hp0
          obtain ⟨rfl, rfl, m', hm', hp⟩ := newB_at x e1 hf hb (cs' := #[]) (by simp) (fun k v hk => by simp at hk) hs
          refine ⟨m', _, .slice (some ⟨w.heap.size, 0, none⟩) 0 0, ?_, hp, VR.slc hm' (fun _ => rfl) (fun _ => rfl) (fun hcap => by simp [CAP] at hcap) (Nat.le_refl _) (by simp)⟩
          unfold Instr.buildSlice
          simp only [Sem.run_bind, run_underlying hu, Result.andThen, run_sizeOf hs, Nat.zero_mul, if_true, Sem.run_pure, pure_bind]
          have n0 : ¬ (0 > 2 ^ 24) := by omega
          simp only [if_neg n0, Instr.fill, Array.range_zero', Array.map_empty]
          rfl
        rw [if_neg hzero] at hr
        split at hr
        · rename_i hc
          simp only [Bool.and_eq_true, decide_eq_true_eq] at hc
          cases hfl : Instr.fill (fun i => some (i * sz, sz)) (zeros z (len * sz)) parts with
          | none => rw [hfl] at hr; cases hr
          | some cs =>
            rw [hfl] at hr
            simp only at hr
            obtain ⟨id, h2, n2, L1, L2, e1, e2, _⟩ := bind_some hr
            obtain ⟨rfl, rfl, rfl⟩ := ret_some e2
            obtain ⟨cs', a1, a2, a3⟩ := fill_at parts parts' _ _ cs h1p h2p (zeros_at (m := m) hz (len * sz)) hfl
            have hlen : cs.size = cs'.size := by have := a2.length; simpa using this
            obtain ⟨rfl, rfl, m', hm', hp⟩ := newB_at x e1 hf hb (cs' := cs') (by simp [hlen]) (fun k v hk => by simpa using a2.get k v hk) hs
            have hcs : cs'.size = len * sz := by rw [← hlen, a3]; simp [zeros]
            have hsz1 : 1 ≤ sz := by
              rcases Nat.eq_zero_or_pos sz with h0 | h0
              · subst h0; simp at hc
              · exact h0
            have hl : len ≤ len * sz := Nat.le_mul_of_pos_right _ hsz1
            refine ⟨m', _, .slice (some ⟨w.heap.size, 0, none⟩) len len, ?_, hp, VR.slc hm' (fun _ => rfl) (fun _ => rfl) (fun hcap => by simp [CAP] at hcap; omega) (Nat.le_refl _) (by simp [hcs])⟩
            unfold Instr.buildSlice
            have n0 : ¬ (len * sz > 2 ^ 24) := by omega
            have n1 : ¬ (len * sz = 0) := by omega
            simp only [Sem.run_bind, run_underlying hu, Result.andThen, run_sizeOf hs, if_neg n0, if_neg n1, run_zeroValue hz, Sem.run_pure, pure_bind]
            unfold zeros at a1
            rw [a1]
            rfl
        · cases hr
theorem ptr_at {b off : Nat} {v' : Value} (hv : VR m (.pointer (some ⟨b, off, none⟩)) v') : ∃ d, m b = some d ∧ v' = .pointer (some ⟨d.blk, d.sh + off, none⟩) := by
  cases hv with
  | ptr h => exact ⟨_, h, rfl⟩
theorem sound_load {t : TypeId} {a a' : Value} (ha : VR m a a') (x : WR P m base h w.heap) (hr : evLoad P t a h n = some ⟨r, h1, n1, L⟩) : Sound P base m w h n (Instr.loadAt t a') r h1 n1 := by
  unfold evLoad at hr
  split at hr
  · rename_i b off
    obtain ⟨d, hd, rfl⟩ := ptr_at ha
    cases hg : agg? P t with
    | none => rw [hg] at hr; cases hr
    | some g =>
      rw [hg] at hr
      cases g with
      | false =>
        simp only at hr
        obtain ⟨rfl, rfl, d', v', hd', hc, hv⟩ := rd_at x hr
        rw [hd] at hd'; cases hd'
        refine ⟨m, w, v', ?_, Post.refl x, hv⟩
        simp only [Instr.loadAt, Instr.sureAddr, pure_bind, loadVar, Sem.run_bind, agg_isAgg hg w, Result.andThen, Bool.false_eq_true, if_false]
        show (Sem.load _ _ _).run P w = _
        simp [Sem.run, hc]
      | true =>
        cases hs : size? P t with
        | none => rw [hs] at hr; cases hr
        | some k =>
          rw [hs] at hr
          simp only at hr
          obtain ⟨vs, h2, n2, L1, L2, e1, e2, _⟩ := bind_some hr
          obtain ⟨rfl, rfl, rfl⟩ := ret_some e2
          obtain ⟨rfl, rfl, hl, vs', hvs, hcs⟩ := rdN_at x hd e1
          refine ⟨m, w, .agg vs'.toArray, ?_, Post.refl x, .agg (by simpa using hvs)⟩
          have hlen : vs'.length = k := by rw [← hvs.length, hl]
          have := run_loadCells_of (P := P) hcs
          rw [hlen] at this
          simp only [Instr.loadAt, Instr.sureAddr, pure_bind, loadVar, Sem.run_bind, agg_isAgg hg w, Result.andThen, if_true, run_sizeOf hs, this]
          rfl
  · cases hr
theorem sound_store {t : TypeId} {a a' v v' : Value} (ha : VR m a a') (hv : VR m v v') (x : WR P m base h w.heap) (hr : evStore P t a v h n = some ⟨r, h1, n1, L⟩) : r = undef ∧ ∃ w', (Instr.storeAt t a' v').run P w = .ok () w' ∧ Post P m base n n1 w h1 m w' := by
  unfold evStore at hr
  split at hr
  · rename_i b off
    obtain ⟨d, hd, rfl⟩ := ptr_at ha
    cases hs : size? P t with
    | none => rw [hs] at hr; cases hr
    | some k =>
      rw [hs] at hr
      simp only at hr
      split at hr
      · rename_i hk
        obtain ⟨u, h2, n2, L1, L2, e1, e2, _⟩ := bind_some hr
        obtain ⟨rfl, rfl, rfl⟩ := ret_some e2
        cases u
        obtain ⟨rfl, w', hw', x2, hbl⟩ := wrN_at hd hv.cells (i := 0) (d.sh + off) (by omega) x e1
        refine ⟨rfl, w', ?_, ⟨Le.refl _, fun _ _ => rfl, x2, hbl⟩⟩
        have hk2 : v'.cells.size = k := by rw [← hv.cells_size]; exact hk
        simp only [Instr.storeAt, Instr.sureAddr, pure_bind, storeVar, Sem.run_bind, run_sizeOf hs, Result.andThen, hk2, ne_eq, not_true, if_false]
        exact hw'
      · cases hr
  · cases hr
theorem sound_nilCheck {v v' : Value} (hv : VR m v v') (x : WR P m base h w.heap) (hr : evNilCheck v h n = some ⟨r, h1, n1, L⟩) :
    h1 = h ∧ n1 = n ∧ VR m r v' ∧ ((∃ a, v' = .pointer (some a)) ∨ ∃ f a b, v' = .func (.func f) a b) := by
  unfold evNilCheck at hr
  split at hr
  · obtain ⟨rfl, rfl, rfl⟩ := ret_some hr
    refine ⟨rfl, rfl, hv, .inl ?_⟩
    cases hv with | ptr h => exact ⟨_, rfl⟩
  · obtain ⟨rfl, rfl, rfl⟩ := ret_some hr
    refine ⟨rfl, rfl, hv, .inr ?_⟩
    cases hv with | func fn h1 h2 => exact ⟨_, _, _, rfl⟩
  · cases hr
theorem bytesOf_at : ∀ (vs : List Value) (acc s : ByteArray), bytesOf vs acc = some s → ∃ ns : List Int, vs = ns.map (Value.int .u8) ∧ s = ns.foldl (fun r n => r.push (UInt8.ofNat n.toNat)) acc := by
  intro vs
  induction vs with
  | nil => intro acc s h; simp [bytesOf] at h; exact ⟨[], rfl, h.symm⟩
  | cons v vs ih =>
    intro acc s h
    cases v with
    | int k n =>
      cases k with
      | u8 =>
        obtain ⟨ns, rfl, hs⟩ := ih (acc.push (UInt8.ofNat n.toNat)) s (by simpa [bytesOf] using h)
        exact ⟨n :: ns, rfl, hs⟩
      | _ => simp [bytesOf] at h
    | _ => simp [bytesOf] at h
theorem VRs.ints {k : IntKind} : ∀ {ns : List Int} {vs' : List Value}, VRs m (ns.map (Value.int k)) vs' → vs' = ns.map (Value.int k)
  | [], _, .nil => rfl
  | _ :: _, _, .cons (.int _ _) t => by rw [VRs.ints t]; rfl
theorem sound_toStr {v v' : Value} (hv : VR m v v') (x : WR P m base h w.heap) (hr : evToStr v h n = some ⟨r, h1, n1, L⟩) : ∃ a l c, v' = .slice a l c ∧ Sound P base m w h n (Conv.bytesToString v') r h1 n1 := by
  unfold evToStr at hr
  split at hr
  · obtain ⟨rfl, rfl, rfl⟩ := ret_some hr
    cases hv
    exact ⟨_, _, _, rfl, m, w, .string .empty, by simp [Conv.bytesToString], Post.refl x, .string _⟩
  · rename_i b off len cap
    obtain ⟨vs, h2, n2, L1, L2, e1, e2, _⟩ := bind_some hr
    cases hbs : bytesOf vs .empty with
    | none => rw [hbs] at e2; cases e2
    | some s =>
      rw [hbs] at e2
      obtain ⟨rfl, rfl, rfl⟩ := ret_some e2
      cases hv with
      | @slc _ _ _ _ cap' o' d hd ho c1 c2 c3 c4 =>
        obtain ⟨rfl, rfl, hl, vs', hvs, hcs⟩ := rdN_at x hd e1
        obtain ⟨ns, rfl, hs⟩ := bytesOf_at _ _ _ hbs
        have hv2 := VRs.ints hvs
        subst hv2
        refine ⟨_, _, _, rfl, m, w, .string s, ?_, Post.refl x, .string _⟩
        rw [hs]
        apply run_bytesToString
        have hlen : (ns.map (Value.int .u8)).length = len := hl
        have := run_loadCells_of (P := P) hcs
        rw [hlen] at this
        by_cases h0 : 0 < len
        · rw [ho (.inl h0)]; exact this
        · have h00 : len = 0 := by omega
          subst h00
          have : ns = [] := by simpa using hlen
          subst this
          rfl
  · cases hr
theorem sound_toBytes {e : TypeId} {s : ByteArray} (hs1 : size? P e = some 1) (x : WR P m base h w.heap) (hb : base ≤ w.heap.size) (hf : Fresh m n n1) (hr : evToBytes e s h n = some ⟨r, h1, n1, L⟩) : Sound P base m w h n (Conv.stringToBytes e s) r h1 n1 := by
  unfold evToBytes at hr
  split at hr
  · rename_i hle
    obtain ⟨id, h2, n2, L1, L2, e1, e2, _⟩ := bind_some hr
    obtain ⟨rfl, rfl, rfl⟩ := ret_some e2
    obtain ⟨cap, hcap⟩ : ∃ cap, grownCap w s.size 0 e = cap := ⟨_, rfl⟩
    have hge : s.size ≤ cap := by rw [← hcap]; unfold grownCap Question.cut; exact Nat.le_add_right _ _
    obtain ⟨cs', hcs'⟩ : ∃ cs' : Array Value, (s.data.map fun b => Value.int .u8 b.toNat) ++ Array.replicate (cap - s.size) (.int .u8 0) = cs' := ⟨_, rfl⟩
    have hsz : cs'.size = cap := by rw [← hcs']; simp; have : s.data.size = s.size := rfl; omega
    obtain ⟨rfl, rfl, m', hm', hp⟩ := newB_at (w := w.drew) (P := P) (m := m) (base := base) x e1 hf hb (cs' := cs') (by rw [hsz]; simp; exact hge) (fun k v hk => by
      refine ⟨v, ?_, ?_⟩
      · rw [← hcs']
        have hk2 : k < s.data.size := by
          rcases Nat.lt_or_ge k s.data.size with q | q
          · exact q
          · rw [List.getElem?_eq_none (by simpa using q)] at hk; cases hk
        rw [Array.getElem?_append_left (by simpa using hk2)]
        simpa using hk
      · have : v ∈ (s.data.map fun b => Value.int .u8 b.toNat).toList := List.mem_of_getElem? hk
        simp at this
        obtain ⟨b, _, rfl⟩ := this
        exact .int _ _) hs1
    have hheap : ((w.drew.alloc (.cells cs' e)).freeze ⟨w.heap.size, cap, none⟩ 1).heap = (w.drew.alloc (.cells cs' e)).heap.modify w.heap.size (fun _ => .cells cs' e (cap, cap + 1)) := by
      unfold World.freeze
      simp only [Nat.one_ne_zero, if_false]
      apply Array.ext_getElem?
      intro i
      rw [Array.getElem?_modify, Array.getElem?_modify]
      by_cases hi : w.heap.size = i
      · subst hi
        have : (w.drew.alloc (.cells cs' e)).heap[w.heap.size]? = some (.cells cs' e (0, 0)) := heap_alloc_new w.drew _
        rw [if_pos rfl, if_pos rfl, this]
        simp
      · simp [hi]
    refine ⟨m', (w.drew.alloc (.cells cs' e)).freeze ⟨w.heap.size, cap, none⟩ 1, .slice (some ⟨w.heap.size, 0, none⟩) s.size cap, ?_, ⟨hp.le, hp.out, ?_, ?_⟩, ?_⟩
    · have hshape : (w.drew.alloc (.cells cs' e)).shape? w.heap.size = some (e, cap) := by
        unfold World.shape?
        rw [show (w.drew.alloc (.cells cs' e)).heap[w.heap.size]? = some (.cells cs' e (0, 0)) from heap_alloc_new w.drew _]
        simp [hsz]
      unfold Conv.stringToBytes
      simp only [choose, bind, Sem.bind, pure]
      show (Sem.choose _ _).run P w = _
      simp only [Sem.run, Question.forced, Bool.false_eq_true, if_false]
      have hc2 : Question.cut (.appendCap s.size 0 e) (w.tape w.drawn (.appendCap s.size 0 e)) = cap := hcap
      rw [hc2, hcs']
      simp only [newRow, newObj, bind, Sem.bind, pure, Sem.run, markStringish, shape]
      have hpush : ({ heap := w.heap.push (.cells cs' e), tape := w.tape, drawn := w.drawn + 1, os := w.os, output := w.output } : World) = w.drew.alloc (.cells cs' e) := rfl
      rw [hpush, hshape]
      rfl
    · have hwr := hp.wr
      constructor
      · intro b B hB
        obtain ⟨⟨dblk, dsh, dtot, desz, del⟩, cs, lo, hi, a1, a2, a3, a4, a7, a5, a6⟩ := hwr.live b B hB
        simp only at a2 a3 a4 a7 a5 a6
        rw [hheap]
        by_cases hbk : dblk = w.heap.size
        · have : (w.drew.alloc (.cells cs' e)).heap[w.heap.size]? = some (.cells cs' e (0, 0)) := heap_alloc_new w.drew _
          rw [hbk, this] at a2
          cases a2
          refine ⟨_, cs', cap, cap + 1, a1, ?_, a3, a4, a7, fun ho => ⟨(a5 ho).1, (a5 ho).2.1, fun k hk => by simp only at hk; omega⟩, a6⟩
          rw [hbk, Array.getElem?_modify, if_pos rfl, this]
          rfl
        · exact ⟨_, cs, lo, hi, a1, by rw [getElem?_modify_ne _ _ (Ne.symm hbk)]; exact a2, a3, a4, a7, a5, a6⟩
      · exact hwr.inj
    · have h1 := hp.below
      have h0 : Below base w w.drew := Below.drew (Below.refl _ _)
      have h2 : Below base (w.drew.alloc (.cells cs' e)) ((w.drew.alloc (.cells cs' e)).freeze ⟨w.heap.size, cap, none⟩ 1) := by
        refine ⟨?_, ?_, ?_, ?_, fun k hk => ?_⟩
        · unfold World.freeze; simp
        · unfold World.freeze; simp
        · unfold World.freeze; simp
        · rw [hheap]; simp
        · rw [hheap, getElem?_modify_ne _ _ (by omega)]
      exact (h0.trans h1).trans h2
    · exact VR.slc hm' (fun _ => rfl) (fun q => by simp [CAP] at q; omega) (fun _ => ⟨Nat.le_refl _, by omega⟩) hge (by simp [hsz])
  · cases hr
theorem sound_makeSlice {t : TypeId} {l c l' c' : Value} (hl : VR m l l') (hc : VR m c c') (x : WR P m base h w.heap) (hb : base ≤ w.heap.size) (hf : Fresh m n n1) (hr : evMakeSlice P t l c h n = some ⟨r, h1, n1, L⟩) : Sound P base m w h n (Instr.makeSlice t l' c') r h1 n1 := by
  unfold evMakeSlice at hr
  cases hu : P.underlying t with
  | none => rw [hu] at hr; cases hr
  | some d =>
    rw [hu] at hr
    cases d <;> try (cases hr; done)
    rename_i e
    cases hl <;> try (cases hr; done)
    rename_i kl l
    cases hc <;> try (cases hr; done)
    rename_i kc c
    simp only at hr
    cases hi : P.info? e with
    | none => rw [hi] at hr; cases hr
    | some ie =>
      cases hz : zero? P e with
      | none => rw [hi, hz] at hr; cases hr
      | some z =>
        rw [hi, hz] at hr
        simp only at hr
        split at hr
        · rename_i hcond
          simp only [Bool.and_eq_true, decide_eq_true_eq] at hcond
          obtain ⟨⟨⟨⟨⟨c1, c2⟩, c3⟩, c4⟩, c5⟩, c6⟩ := hcond
          obtain ⟨id, h2, n2, L1, L2, e1, e2, _⟩ := bind_some hr
          obtain ⟨rfl, rfl, rfl⟩ := ret_some e2
          obtain ⟨i2, hi2, hz2⟩ := zero_info hz
          rw [hi] at hi2; cases hi2
          have hzs := zeros_at (m := m) hz (c.toNat * ie.size)
          obtain ⟨rfl, rfl, m', hm', hp⟩ := newB_at x e1 hf hb (cs' := zeros z (c.toNat * ie.size)) (by simp) (fun k v hk => by simpa using hzs.get k v hk) (esz := ie.size) (by simp [size?, hi])
          refine ⟨m', _, .slice (some ⟨w.heap.size, 0, none⟩) l.toNat c.toNat, ?_, hp, VR.slc hm' (fun _ => rfl) (fun _ => rfl) (fun q => by simp [CAP] at q; omega) (by omega) (by simp [zeros])⟩
          have hbytes : (ie.bytes : Int) * c ≤ 281474976710656 := by
            have h1 : (ie.bytes : Int) * c ≤ 64 * c := Int.mul_le_mul_of_nonneg_right (by omega) (by omega)
            omega
          exact run_make w t e ie z hu hi hz2 kl kc l c c1 c2 hbytes (by omega)
        · cases hr

end
end Go.Proofs.YtcehhgppfahbkaaGreatDoor.Ev
namespace Go.Proofs.YtcehhgppfahbkaaGreatDoor.Ev
set_option linter.unusedVariables false
set_option linter.unusedSimpArgs false
open Go Go.RowKit

section
variable {P : Program} {base : Nat} {m : Mp} {w : World} {h h1 : H} {n n1 : Nat} {r : Value} {L : List En}
theorem part_at {t : TypeId} {cs cs' : Array Value} (hc : VRs m cs.toList cs'.toList) {off : Nat} (hr : partOf P t cs off = some r) (w : World) : ∃ v', (part t cs' off).run P w = .ok v' w ∧ VR m r v' := by
  unfold partOf at hr
  cases hg : agg? P t with
  | none => rw [hg] at hr; cases hr
  | some g =>
    rw [hg] at hr
    cases g with
    | true =>
      cases hs : size? P t with
      | none => rw [hs] at hr; cases hr
      | some k =>
        rw [hs] at hr
        simp only [Option.some.injEq] at hr
        subst hr
        refine ⟨.agg (cs'.extract off (off + k)), ?_, .agg ?_⟩
        · unfold part
          simp only [Sem.run_bind, agg_isAgg hg w, Result.andThen, if_true, run_sizeOf hs]
          rfl
        · have hl : cs.size = cs'.size := by simpa using hc.length
          refine VRs.of_get (by simp [hl]) fun j v hj => ?_
          simp only [Array.toList_extract, List.extract_eq_take_drop, List.getElem?_take, List.getElem?_drop] at hj ⊢
          split at hj
          · rename_i hlt
            rw [if_pos hlt]
            exact hc.get _ v hj
          · cases hj
    | false =>
      simp only at hr
      obtain ⟨v', hv', hr'⟩ := hc.get off r (by simpa using hr)
      refine ⟨v', ?_, hr'⟩
      unfold part
      have : cs'[off]? = some v' := by simpa using hv'
      simp only [Sem.run_bind, agg_isAgg hg w, Result.andThen, Bool.false_eq_true, if_false, this]
      rfl
theorem field_at {t : TypeId} {v v' : Value} {f : Nat} (hv : VR m v v') (hr : evField P t v f = some r) (w : World) : ∃ u, (Instr.field t v' f).run P w = .ok u w ∧ VR m r u := by
  unfold evField at hr
  cases hu : P.underlying t with
  | none => rw [hu] at hr; cases hr
  | some d =>
    rw [hu] at hr
    cases d <;> try (cases hr; done)
    rename_i fs
    cases hv <;> try (cases hr; done)
    rename_i cs cs' hc
    simp only at hr
    cases hf : fs[f]? with
    | none => rw [hf] at hr; cases hr
    | some fd =>
      rw [hf] at hr
      obtain ⟨u, hu2, hru⟩ := part_at hc hr w
      refine ⟨u, ?_, hru⟩
      unfold Instr.field
      simp only [Sem.run_bind, run_underlying hu, Result.andThen, hf, asAgg, Sem.run_pure]
      exact hu2
theorem fieldAddr_at {t : TypeId} {v v' : Value} {f : Nat} (hv : VR m v v') (hr : evFieldAddr P t v f = some r) (w : World) : ∃ u, (Instr.fieldAt t v' f).run P w = .ok u w ∧ VR m r u := by
  unfold evFieldAddr at hr
  cases hu : P.underlying t with
  | none => rw [hu] at hr; cases hr
  | some d =>
    rw [hu] at hr
    cases d <;> try (cases hr; done)
    rename_i fs
    cases hv <;> try (cases hr; done)
    rename_i b off d hd
    simp only at hr
    cases hf : fs[f]? with
    | none => rw [hf] at hr; cases hr
    | some fd =>
      rw [hf] at hr
      simp only at hr
      cases hs : size? P fd.type with
      | none => rw [hs] at hr; cases hr
      | some k =>
        rw [hs] at hr
        simp only at hr
        split at hr
        · cases hr
        · rename_i hk
          cases hr
          refine ⟨.pointer (some ⟨d.blk, d.sh + (off + fd.offset), none⟩), ?_, VR.ptr hd⟩
          unfold Instr.fieldAt
          simp only [Sem.run_bind, run_underlying hu, Result.andThen, hf, Instr.sureAddr, Sem.run_pure, fieldPlace, run_sizeOf hs, if_neg hk, add0]
          rw [Nat.add_assoc]
theorem indexAddr_at {t : TypeId} {v v' i i' : Value} (hv : VR m v v') (hi : VR m i i') (hr : evIndexAddr P t v i = some r) (w : World) : ∃ u, (Instr.indexAt t v' i').run P w = .ok u w ∧ VR m r u := by
  unfold evIndexAddr at hr
  cases hu : P.underlying t with
  | none => rw [hu] at hr; cases hr
  | some d =>
    rw [hu] at hr
    cases d <;> try (cases hr; done)
    case slice e =>
      cases hv <;> try (cases hr; done)
      rename_i b off len cap cap' o' d hd ho c1 c2 c3 c4
      cases hi <;> try (cases hr; done)
      rename_i k j
      simp only at hr
      cases hs : size? P e with
      | none => rw [hs] at hr; cases hr
      | some sz =>
        rw [hs] at hr
        simp only at hr
        split at hr
        · rename_i hj
          cases hr
          refine ⟨.pointer (some ⟨d.blk, d.sh + (off + j.toNat * sz), none⟩), ?_, VR.ptr hd⟩
          unfold Instr.indexAt
          simp only [asIntOf, pure_bind, Sem.run_bind, run_underlying hu, Result.andThen, Sem.run_pure, if_pos hj, run_sizeOf hs, add0, ho (.inl (by omega))]
          rw [Nat.add_assoc]
        · cases hr
    case array len e =>
      cases hv <;> try (cases hr; done)
      rename_i b off d hd
      cases hi <;> try (cases hr; done)
      rename_i k j
      simp only at hr
      cases hs : size? P e with
      | none => rw [hs] at hr; cases hr
      | some sz =>
        rw [hs] at hr
        simp only at hr
        split at hr
        · rename_i hj
          cases hr
          refine ⟨.pointer (some ⟨d.blk, d.sh + (off + j.toNat * sz), none⟩), ?_, VR.ptr hd⟩
          unfold Instr.indexAt
          simp only [asIntOf, pure_bind, Sem.run_bind, run_underlying hu, Result.andThen, Sem.run_pure, Instr.sureAddr, if_pos hj, run_sizeOf hs, add0]
          rw [Nat.add_assoc]
        · cases hr
theorem index_at {t : TypeId} {v v' i i' : Value} (hv : VR m v v') (hi : VR m i i') (hr : evIndex P t v i = some r) (w : World) : ∃ u, (Instr.index t v' i').run P w = .ok u w ∧ VR m r u := by
  unfold evIndex at hr
  cases hu : P.underlying t with
  | none => rw [hu] at hr; cases hr
  | some d =>
    rw [hu] at hr
    cases d <;> try (cases hr; done)
    rename_i len e
    cases hv <;> try (cases hr; done)
    rename_i cs cs' hc
    cases hi <;> try (cases hr; done)
    rename_i k j
    simp only at hr
    cases hs : size? P e with
    | none => rw [hs] at hr; cases hr
    | some sz =>
      rw [hs] at hr
      simp only at hr
      split at hr
      · rename_i hj
        obtain ⟨u, hu2, hru⟩ := part_at hc hr w
        refine ⟨u, ?_, hru⟩
        unfold Instr.index
        simp only [asIntOf, pure_bind, Sem.run_bind, run_underlying hu, Result.andThen, if_pos hj, run_sizeOf hs]
        exact hu2
      · cases hr
theorem extract_at {v v' : Value} {i : Nat} (hv : VR m v v') (hr : evExtract v i = some r) (w : World) : ∃ u, (Instr.extract v' i).run P w = .ok u w ∧ VR m r u := by
  unfold evExtract at hr
  cases hv <;> try (cases hr; done)
  rename_i cs cs' hc
  simp only at hr
  obtain ⟨u, hu, hru⟩ := hc.get i r (by simpa using hr)
  have : cs'[i]? = some u := by simpa using hu
  exact ⟨u, by simp [Instr.extract, this], hru⟩
def OptR (m : Mp) (a b : Option Value) : Prop := match a, b with
  | none, none => True
  | some x, some y => VR m x y
  | _, _ => False
theorem bound_some {a b : Option Value} {d k : Nat} (ha : OptR m a b) (hr : boundOf a d = some k) : (a = none ∧ b = none ∧ k = d) ∨ ∃ kd i, a = some (.int kd i) ∧ b = some (.int kd i) ∧ 0 ≤ i ∧ k = i.toNat := by
  unfold boundOf at hr
  cases a with
  | none =>
    cases b with
    | none => left; exact ⟨rfl, rfl, by simpa using hr.symm⟩
    | some y => cases ha
  | some x =>
    cases b with
    | none => cases ha
    | some y =>
      have ha : VR m x y := ha
      cases ha <;> simp at hr
      rename_i kd i
      exact .inr ⟨kd, i, rfl, rfl, hr.1, hr.2.symm⟩
theorem run_bound {k : IntKind} {i : Int} {y : Nat} {code : BoundsCode} (h0 : 0 ≤ i) (h1 : i.toNat ≤ y) (w : World) : (Instr.sliceBound (.int k i) y code).run P w = .ok i.toNat w := by
  have : 0 ≤ i ∧ i ≤ (y : Int) := ⟨h0, by omega⟩
  simp [Instr.sliceBound, asIntOf, this]
theorem slice_at {t : TypeId} {v v' : Value} (hsz : ∀ b off l c e, v = .slice (some ⟨b, off, none⟩) l c → P.underlying t = some (.slice e) → ∃ d, m b = some d ∧ size? P e = some d.esz) {lo hi mx lo' hi' mx' : Option Value} (hv : VR m v v') (hl : OptR m lo lo') (hh : OptR m hi hi') (hm : OptR m mx mx') (hr : evSlice P t v lo hi mx = some r) (w : World) :
    ∃ u, (Instr.sliceAt t v' lo' hi' mx').run P w = .ok u w ∧ VR m r u := by
  unfold evSlice at hr
  cases hu : P.underlying t with
  | none => rw [hu] at hr; cases hr
  | some dd =>
    rw [hu] at hr
    cases dd <;> try (cases hr; done)
    rename_i e
    -- the concrete bounds
    have core : ∀ (a : Option Addr) (len cap cap' : Nat), (∀ sz mm hh' ll, size? P e = some sz → boundOf mx cap = some mm → boundOf hi len = some hh' → boundOf lo 0 = some ll → (mx.isSome && !hi.isSome) = false →
        (ll ≤ hh' ∧ hh' ≤ mm ∧ mm ≤ cap ∧ (cap < CAP ∨ (mx = none ∧ hh' ≤ len))) → (cap < CAP → cap' = cap) → len ≤ cap' →
        (Instr.sliceAt t (.slice a len cap') lo' hi' mx').run P w = .ok (.slice (if (if mx = none then cap' else mm) = ll then a else a.map (·.add (ll * sz))) (hh' - ll) ((if mx = none then cap' else mm) - ll)) w) := by
      intro a len cap cap' sz mm hh' ll hs hbm hbh hbl hmx hc hcap hlen
      obtain ⟨c1, c2, c3, c4⟩ := hc
      have hcap2 : hh' ≤ cap' := by
        rcases c4 with q | ⟨_, q⟩
        · rw [hcap q]; omega
        · omega
      have hbounds : (Instr.sliceBounds true len cap' lo' hi' mx').run P w = .ok (ll, hh', if mx = none then cap' else mm) w := by
        unfold Instr.sliceBounds
        rcases bound_some hm hbm with ⟨rfl, rfl, rfl⟩ | ⟨km, im, rfl, rfl, pm, rfl⟩
        · rcases bound_some hh hbh with ⟨rfl, rfl, rfl⟩ | ⟨kh, ih, rfl, rfl, ph, rfl⟩
          · rcases bound_some hl hbl with ⟨rfl, rfl, rfl⟩ | ⟨kl, il, rfl, rfl, pl, rfl⟩
            · simp
            · simp [run_bound pl c1 w]
          · rcases bound_some hl hbl with ⟨rfl, rfl, rfl⟩ | ⟨kl, il, rfl, rfl, pl, rfl⟩
            · simp [run_bound ph hcap2 w]
            · simp [run_bound ph hcap2 w, run_bound pl c1 w]
        · rcases bound_some hh hbh with ⟨rfl, rfl, rfl⟩ | ⟨kh, ih, rfl, rfl, ph, rfl⟩
          · simp at hmx
          · have q : cap < CAP := by
              rcases c4 with q | ⟨q, _⟩
              · exact q
              · cases q
            have e : im.toNat ≤ cap' := by rw [hcap q]; exact c3
            rcases bound_some hl hbl with ⟨rfl, rfl, rfl⟩ | ⟨kl, il, rfl, rfl, pl, rfl⟩
            · simp [run_bound pm e w, run_bound ph c2 w]
            · simp [run_bound pm e w, run_bound ph c2 w, run_bound pl c1 w]
      unfold Instr.sliceAt
      simp only [Sem.run_bind, run_underlying hu, Result.andThen]
      unfold Instr.slice
      simp only [Sem.run_bind, run_underlying hu, Result.andThen, hbounds, run_sizeOf hs, Sem.run_pure]
    cases hv <;> try (cases hr; done)
    case snil len cap hcap =>
      simp only at hr
      cases hs : size? P e with
      | none => rw [hs] at hr; cases hr
      | some sz =>
        cases hbm : boundOf mx cap with
        | none => rw [hs, hbm] at hr; cases hr
        | some mm =>
          cases hbh : boundOf hi len with
          | none => rw [hs, hbm, hbh] at hr; cases hr
          | some hh' =>
            cases hbl : boundOf lo 0 with
            | none => rw [hs, hbm, hbh, hbl] at hr; cases hr
            | some ll =>
              rw [hs, hbm, hbh, hbl] at hr
              simp only at hr
              split at hr
              · cases hr
              · rename_i hmx
                split at hr
                · rename_i hc
                  cases hr
                  simp only [Bool.and_eq_true, Bool.or_eq_true, decide_eq_true_eq, Option.isNone_iff_eq_none] at hc
                  have hmm : (if mx = none then cap else mm) = mm := by
                    split
                    · rename_i q; subst q; simpa [boundOf] using hbm
                    · rfl
                  refine ⟨_, core none len cap cap sz mm hh' ll hs hbm hbh hbl (Bool.eq_false_iff.2 hmx) ⟨hc.1.1.1, hc.1.1.2, hc.1.2, hc.2⟩ (fun _ => rfl) hcap.1, ?_⟩
                  rw [hmm]
                  have : (if mm = ll then (none : Option Addr) else Option.map (fun (q : Addr) => q.add (ll * sz)) none) = none := by split <;> rfl
                  rw [this]
                  exact .snil _ _ (by omega)
                · cases hr
    case semp b off s a' =>
      exfalso
      simp only at hr
      repeat' (first | (cases hr; done) | split at hr)
    case slc b off len cap cap' o' d hd ho c1 c2 c3 c4 =>
      simp only at hr
      cases hs : size? P e with
      | none => rw [hs] at hr; cases hr
      | some sz =>
        cases hbm : boundOf mx cap with
        | none => rw [hs, hbm] at hr; cases hr
        | some mm =>
          cases hbh : boundOf hi len with
          | none => rw [hs, hbm, hbh] at hr; cases hr
          | some hh' =>
            cases hbl : boundOf lo 0 with
            | none => rw [hs, hbm, hbh, hbl] at hr; cases hr
            | some ll =>
              rw [hs, hbm, hbh, hbl] at hr
              simp only at hr
              split at hr
              · cases hr
              · rename_i hmx
                split at hr
                · rename_i hc
                  cases hr
                  simp only [Bool.and_eq_true, Bool.or_eq_true, decide_eq_true_eq, Option.isNone_iff_eq_none] at hc
                  refine ⟨_, core _ len cap cap' sz mm hh' ll hs hbm hbh hbl (Bool.eq_false_iff.2 hmx) ⟨hc.1.1.1, hc.1.1.2, hc.1.2, hc.2⟩ c1 c3, ?_⟩
                  obtain ⟨d2, hd2, hes⟩ := hsz b off len cap e rfl hu
                  rw [hd] at hd2; cases hd2
                  rw [hs] at hes
                  have hes : sz = d.esz := by simpa using hes
                  subst hes
                  obtain ⟨⟨⟨k1, k2⟩, k3⟩, k4⟩ := hc
                  by_cases hcap : cap < CAP
                  · have hcc := c1 hcap
                    subst hcc
                    have hoo := ho (.inr hcap)
                    subst hoo
                    have hmm : (if mx = none then cap' else mm) = mm := by
                      split
                      · rename_i q; subst q; simpa [boundOf] using hbm
                      · rfl
                    rw [hmm]
                    have hmul : ll * d.esz + (mm - ll) * d.esz = mm * d.esz := by rw [← Nat.add_mul]; congr 1; omega
                    have hle : mm * d.esz ≤ cap' * d.esz := Nat.mul_le_mul_right _ k3
                    by_cases hml : mm = ll
                    · rw [if_pos hml, if_pos hml]
                      exact VR.slc hd (fun _ => rfl) (fun _ => rfl) (fun q => by omega) (by omega) (by omega)
                    · rw [if_neg hml, if_neg hml]
                      simp only [Option.map_some, add0]
                      exact VR.slc hd (fun _ => by omega) (fun _ => rfl) (fun q => by omega) (by omega) (by omega)
                  · have hcap2 : CAP ≤ cap := by omega
                    obtain ⟨q1, q2⟩ := c2 hcap2
                    rcases k4 with k4 | ⟨k4, k5⟩
                    · omega
                    · subst k4
                      have hmm : mm = cap := by simpa [boundOf] using hbm.symm
                      subst hmm
                      simp only [if_true]
                      have hcp : ll ≤ cap' := by omega
                      have hmul : ll * d.esz + (cap' - ll) * d.esz = cap' * d.esz := by rw [← Nat.add_mul]; congr 1; omega
                      have hml : ¬ mm = ll := by unfold CAP at *; omega
                      rw [if_neg hml]
                      by_cases hcl : cap' = ll
                      · rw [if_pos hcl]
                        exact VR.slc hd (fun q => by omega) (fun q => by omega) (fun q => by omega) (by omega) (by omega)
                      · rw [if_neg hcl]
                        simp only [Option.map_some, add0]
                        exact VR.slc hd (fun q => by have := ho (.inl (by omega)); omega) (fun q => by omega) (fun q => by omega) (by omega) (by omega)
                · cases hr
end
end Go.Proofs.YtcehhgppfahbkaaGreatDoor.Ev
namespace Go.Proofs.YtcehhgppfahbkaaGreatDoor.Ev
set_option linter.unusedVariables false
set_option linter.unusedSimpArgs false
open Go Go.RowKit

section
variable {P : Program} {base : Nat} {m : Mp} {w : World} {h h1 : H} {n n1 : Nat} {r : Value} {L : List En}
theorem run_lenOf {x x' : Value} {k : Nat} (hx : VR m x x') (hl : lenOf? x = some k) (w : World) : (Builtin.lenOf x').run P w = .ok k w := by
  cases hx <;> simp [lenOf?] at hl <;> subst hl <;> rfl
theorem elems_at {sz k j0 : Nat} {x x' : Value} {vs : List Value} (hx : VR m x x') (hl : lenOf? x = some k) (h0 : 0 < k) (wr : WR P m base h w.heap) (hr : elemsOf sz j0 x h n = some ⟨vs, h1, n1, L⟩) :
    h1 = h ∧ n1 = n ∧ ∃ vs', VRs m vs vs' ∧ ∀ w2 : World, w2.heap = w.heap → (Builtin.firstCells sz j0 x').run P w2 = .ok vs'.toArray w2 := by
  unfold elemsOf at hr
  split at hr
  · rename_i b off l c
    simp [lenOf?] at hl
    subst hl
    cases hx with
    | @slc _ _ _ _ cap' o' d hd ho c1 c2 c3 c4 =>
      obtain ⟨rfl, rfl, hlen, vs', hvs, hcs⟩ := rdN_at wr hd hr
      refine ⟨rfl, rfl, vs', hvs, fun w2 hw2 => ?_⟩
      have hl2 : vs'.length = j0 * sz := by rw [← hvs.length, hlen]
      have := run_loadCells_of (P := P) (w := w2) (c := d.blk) (o := d.sh + off) (vs := vs') (fun j v hj => by
        have := hcs j v hj
        unfold World.cell? at this ⊢
        rw [hw2]; exact this)
      rw [hl2] at this
      simp only [Builtin.firstCells, ho (.inl h0)]
      exact this
  · rename_i s
    simp [lenOf?] at hl
    subst hl
    cases hx
    obtain ⟨rfl, rfl, rfl⟩ := ret_some hr
    refine ⟨rfl, rfl, _, VRs.of_get rfl (fun j v hj => ⟨v, hj, ?_⟩), fun w2 _ => by
      simp [Builtin.firstCells]
      apply Array.ext'
      simp⟩
    have hm := List.mem_of_getElem? hj
    simp only [ByteArray.data_extract, Array.map_extract, Array.toList_extract, List.extract_eq_take_drop, List.drop_zero, Array.toList_map] at hm
    have hm := List.mem_of_mem_take hm
    simp at hm
    obtain ⟨b, _, rfl⟩ := hm
    exact .int _ _
  · cases hr
theorem run_store_raw {c o : Nat} {e : TypeId} {lo hi : Nat} : ∀ (vs : List Value) (i : Nat) (w : World) (cs : Array Value), w.heap[c]? = some (.cells cs e (lo, hi)) → (∀ j, j < vs.length → o + i + j < cs.size ∧ ¬ (lo ≤ o + i + j ∧ o + i + j < hi)) → (∀ v ∈ vs, Ev.one v = true) → base ≤ c →
    ∃ w' cs', (storeCells ⟨c, o, none⟩ vs i).run P w = .ok () w' ∧ w'.heap[c]? = some (.cells cs' e (lo, hi)) ∧ cs'.size = cs.size ∧ (∀ j, cs'[j]? = if o + i ≤ j ∧ j < o + i + vs.length then vs[j - (o + i)]? else cs[j]?) ∧ (∀ b, b ≠ c → w'.heap[b]? = w.heap[b]?) ∧ Below base w w' := by
  intro vs
  induction vs with
  | nil => intro i w cs hg _ _ _; exact ⟨w, cs, rfl, hg, rfl, fun j => by rw [if_neg (by simp)], fun _ _ => rfl, Below.refl _ _⟩
  | cons v vs ih =>
    intro i w cs hg hin h1 hb
    obtain ⟨hlt, hfr⟩ := hin 0 (by simp)
    have hset : (w.setCell ⟨c, o + i, none⟩ v).heap[c]? = some (.cells (cs.setIfInBounds (o + i) v) e (lo, hi)) := by
      simp only [World.setCell, Array.getElem?_modify, if_true, hg]
      simp
    obtain ⟨w', cs', a1, a2, a3, a4, a5, a6⟩ := ih (i + 1) (w.setCell ⟨c, o + i, none⟩ v) _ hset (fun j hj => by
      have := hin (j + 1) (by simpa using hj)
      rw [show o + (i + 1) + j = o + i + (j + 1) by omega]
      simpa using this) (fun u hu => h1 u (by simp [hu])) hb
    refine ⟨w', cs', ?_, a2, by rw [a3]; simp, fun j => ?_, fun b hbc => ?_, ((Below.refl base w).setCell (p := ⟨c, o + i, none⟩) hb _).trans a6⟩
    · unfold storeCells
      rw [add0]
      show (Sem.bind (store _ _) _).run P w = _
      unfold store
      simp only [Sem.bind]
      rw [run_store_one (by rw [cell_eq w _ _ hg]; simpa using hlt) (by
        unfold World.frozen?
        simp only [hg, Bool.and_eq_false_iff, decide_eq_false_iff_not]
        omega) (h1 v (by simp))]
      exact a1
    · rw [a4 j]
      simp only [List.length_cons]
      by_cases hj : o + (i + 1) ≤ j ∧ j < o + (i + 1) + vs.length
      · rw [if_pos hj, if_pos (by omega)]
        rw [show j - (o + i) = (j - (o + (i + 1))) + 1 by omega]
        simp
      · rw [if_neg hj]
        by_cases e2 : j = o + i
        · subst e2
          rw [if_pos (by omega)]
          simp at hlt
          simp [hlt]
        · rw [if_neg (by omega), Array.getElem?_setIfInBounds_ne (by omega)]
    · rw [a5 b hbc, Below.heap_setCell w _ _ _ hbc]
theorem run_append_in {ats : Array TypeId} {t u ty e : TypeId} {i : TypeInfo} {x : Value} {k : Nat} {news : List Value} {b off l cap : Nat} {w' : World} (ht0 : ats[0]? = some t) (ht1 : ats[1]? = some u) (ht : P.underlying t = some (.slice e)) (hu : (∃ e', P.underlying u = some (.slice e')) ∨ P.underlying u = some .string) (hi : P.info? e = some i)
    (hl : (Builtin.lenOf x).run P w = .ok k w) (hroom : l + k ≤ cap) (hx : (Builtin.firstCells i.size k x).run P w = .ok news.toArray w) (hst : (storeCells ⟨b, off + l * i.size, none⟩ news).run P w = .ok () w') :
    (Builtin.append_ ats ty #[.slice (some ⟨b, off, none⟩) l cap, x]).run P w = .ok (.slice (some ⟨b, off, none⟩) (l + k) cap) w' := by
  rcases hu with ⟨e', hk⟩ | hk <;> simp [Builtin.append_, ht0, ht1, run_underlying ht, run_underlying hk, sizeOf, typeInfo, hi, hl, hroom, hx, add0, hst]
theorem run_append_out {ats : Array TypeId} {t u ty e : TypeId} {i : TypeInfo} {z : Value} {x : Value} {k : Nat} {olds news : List Value} {bo : Option Addr} {l cap : Nat} (ht0 : ats[0]? = some t) (ht1 : ats[1]? = some u) (ht : P.underlying t = some (.slice e)) (hu : (∃ e', P.underlying u = some (.slice e')) ∨ P.underlying u = some .string) (hi : P.info? e = some i) (hz : i.zero = some z)
    (hl : (Builtin.lenOf x).run P w = .ok k w) (hroom : cap < l + k) (hsm : l + k ≤ 1099511627776) (hby : i.bytes ≤ 64) (hx : (Builtin.firstCells i.size k x).run P w.drew = .ok news.toArray w.drew) (ho : (Builtin.firstCells i.size l (.slice bo l cap)).run P w.drew = .ok olds.toArray w.drew) :
    (Builtin.append_ ats ty #[.slice bo l cap, x]).run P w = .ok (.slice (some ⟨w.heap.size, 0, none⟩) (l + k) (grownCap w (l + k) cap e))
      (w.drew.alloc (.cells ((olds ++ news).toArray ++ Builtin.zeroCells z.cells (grownCap w (l + k) cap e - (l + k))) e)) := by
  have hn : ¬ (l + k ≤ cap) := by omega
  have h63' : ¬ (9223372036854775807 < ((l : Int) + (k : Int))) := by omega
  have hfit := growslice_fits (need := l + k) (old := cap) (bytes := i.bytes) hroom (by
    have := Nat.mul_le_mul hsm hby
    omega)
  have h48' : ¬ (281474976710656 < Builtin.nextslicecap (l + k) cap * i.bytes) := by omega
  rcases hu with ⟨e', hk⟩ | hk <;>
    (simp [Builtin.append_, ht0, ht1, run_underlying ht, run_underlying hk, sizeOf, typeInfo, zeroValue, hi, hz, hl, hn, h63', h48', Question.forced, hx, ho, newRow, grownCap]
     congr 2
     apply Array.ext'
     simp [List.append_assoc])
theorem size_zeroCells (z : Array Value) (k : Nat) : (Builtin.zeroCells z k).size = k * z.size := by simp [Builtin.zeroCells]
theorem le_grownCap (w : World) (need old : Nat) (e : TypeId) : need ≤ grownCap w need old e := by unfold grownCap Question.cut; exact Nat.le_add_right _ _
theorem sound_new {e : TypeId} {i : TypeInfo} {z : Value} {l k cap : Nat} {old new old' new' : List Value} (x : WR P m base h w.heap) (hb : base ≤ w.heap.size) (hf : Fresh m n n1) (hi : P.info? e = some i) (hzs : z.cells.size = i.size) (ho : VRs m old old') (hn : VRs m new new') (hol : old.length = l * i.size) (hnl : new.length = k * i.size)
    (hr : evNew e l k old new h n = some ⟨r, h1, n1, L⟩) : ∃ m', Post P m base n n1 w h1 m' (w.drew.alloc (.cells ((old' ++ new').toArray ++ Builtin.zeroCells z.cells (grownCap w (l + k) cap e - (l + k))) e)) ∧
      VR m' r (.slice (some ⟨w.heap.size, 0, none⟩) (l + k) (grownCap w (l + k) cap e)) := by
  unfold evNew at hr
  obtain ⟨id, h2, n2, L1, L2, e1, e2, _⟩ := bind_some hr
  obtain ⟨rfl, rfl, rfl⟩ := ret_some e2
  have hc := le_grownCap w (l + k) cap e
  have hon := ho.append hn
  have hlen := hon.length
  obtain ⟨rfl, rfl, m', hm', hp⟩ := newB_at (w := w.drew) (P := P) (m := m) (base := base) x e1 hf hb (cs' := (old' ++ new').toArray ++ Builtin.zeroCells z.cells (grownCap w (l + k) cap e - (l + k))) (by simp at hlen ⊢; omega) (fun j v hj => by
    obtain ⟨v', hv', hr'⟩ := hon.get j v hj
    refine ⟨v', ?_, hr'⟩
    have : j < (old' ++ new').length := by
      rcases Nat.lt_or_ge j (old' ++ new').length with q | q
      · exact q
      · rw [List.getElem?_eq_none q] at hv'; cases hv'
    rw [Array.getElem?_append_left (by simpa using this)]
    simpa using hv') (esz := i.size) (by simp [size?, hi])
  refine ⟨m', ⟨hp.le, hp.out, hp.wr, (Below.drew (Below.refl base w)).trans hp.below⟩, VR.slc hm' (fun _ => rfl) (fun q => by unfold CAP at q; omega) (fun _ => ⟨Nat.le_refl _, by omega⟩) hc ?_⟩
  simp only [Array.size_append, size_zeroCells, hzs, List.size_toArray, ← hlen, List.length_append, hol, hnl]
  rw [← Nat.add_mul, ← Nat.add_mul, Nat.zero_add]
  exact Nat.le_of_eq (by congr 1; omega)
theorem sound_append {ats : Array TypeId} {t u ty : TypeId} {s s' x x' : Value} (ht0 : ats[0]? = some t) (ht1 : ats[1]? = some u) (hu : (∃ e', P.underlying u = some (.slice e')) ∨ P.underlying u = some .string) (hs : VR m s s') (hx : VR m x x') (wr : WR P m base h w.heap) (hb : base ≤ w.heap.size) (hf : Fresh m n n1)
    (hr : evAppend P t s x h n = some ⟨r, h1, n1, L⟩) : Sound P base m w h n (Builtin.append_ ats ty #[s', x']) r h1 n1 := by
  unfold evAppend at hr
  cases ht : P.underlying t with
  | none => rw [ht] at hr; cases hr
  | some dt =>
    rw [ht] at hr
    cases dt <;> try (cases hr; done)
    rename_i e
    simp only at hr
    cases hi : P.info? e with
    | none => rw [hi] at hr; cases hr
    | some ie =>
      cases hz : zero? P e with
      | none => rw [hi, hz] at hr; cases hr
      | some z =>
        cases hl : lenOf? x with
        | none => rw [hi, hz, hl] at hr; cases hr
        | some k =>
          rw [hi, hz, hl] at hr
          simp only at hr
          obtain ⟨i2, hi2, hz2⟩ := zero_info hz
          rw [hi] at hi2; cases hi2
          split at hr
          · rename_i hcond
            simp only [Bool.and_eq_true, decide_eq_true_eq] at hcond
            obtain ⟨⟨hzs, hsz1⟩, hby⟩ := hcond
            by_cases hk : k = 0
            · rw [if_pos hk] at hr
              subst hk
              cases hs <;> try (cases hr; done)
              case snil l cap hcap =>
                obtain ⟨rfl, rfl, rfl⟩ := ret_some hr
                refine ⟨m, w, .slice none l cap, ?_, Post.refl wr, .snil _ _ hcap⟩
                have hx0 : (Builtin.firstCells ie.size 0 x').run P w = .ok #[] w := by
                  cases hx <;> simp [lenOf?] at hl <;> simp [Builtin.firstCells, loadCells, loadCellsFrom]
                have := run_lenOf (P := P) hx hl w
                rcases hu with ⟨e', hk⟩ | hk <;> simp [Builtin.append_, ht0, ht1, run_underlying ht, run_underlying hk, sizeOf, typeInfo, hi, this, hcap.1, hx0]
              case semp b off s a' =>
                obtain ⟨rfl, rfl, rfl⟩ := ret_some hr
                refine ⟨m, w, .slice (some a') 0 0, ?_, Post.refl wr, .semp _ _ _ _⟩
                have hx0 : (Builtin.firstCells ie.size 0 x').run P w = .ok #[] w := by
                  cases hx <;> simp [lenOf?] at hl <;> simp [Builtin.firstCells, loadCells, loadCellsFrom]
                have := run_lenOf (P := P) hx hl w
                rcases hu with ⟨e', hk⟩ | hk <;> simp [Builtin.append_, ht0, ht1, run_underlying ht, run_underlying hk, sizeOf, typeInfo, hi, this, hx0, storeCells]
              case slc b off l cap cap' o' d hd ho c1 c2 c3 c4 =>
                obtain ⟨rfl, rfl, rfl⟩ := ret_some hr
                refine ⟨m, w, _, ?_, Post.refl wr, .slc hd ho c1 c2 c3 c4⟩
                have hx0 : (Builtin.firstCells ie.size 0 x').run P w = .ok ([] : List Value).toArray w := by
                  cases hx <;> simp [lenOf?] at hl <;> simp [Builtin.firstCells, loadCells, loadCellsFrom]
                have := run_append_in (P := P) (ty := ty) ht0 ht1 ht hu hi (run_lenOf (P := P) hx hl w) (b := d.blk) (off := o') (l := l) (cap := cap') (by omega) hx0 (w' := w) rfl
                simpa using this
            · rw [if_neg hk] at hr
              have hk0 : 0 < k := by omega
              cases hs <;> try (cases hr; done)
              case snil l cap hcap =>
                cases l <;> try (cases hr; done)
                cases cap <;> try (cases hr; done)
                simp only at hr
                split at hr
                · rename_i hk64
                  obtain ⟨new, h2, n2, L1, L2, e1, e2, _⟩ := bind_some hr
                  obtain ⟨rfl, rfl, new', hn, hfc⟩ := elems_at hx hl hk0 wr e1
                  split at e2
                  · rename_i hc
                    simp only [Bool.and_eq_true, decide_eq_true_eq] at hc
                    obtain ⟨m', hp, hv⟩ := sound_new (cap := 0) (old := []) (old' := []) (l := 0) wr hb hf hi hzs .nil hn (by simp) hc.1 e2
                    refine ⟨m', _, _, ?_, hp, hv⟩
                    exact run_append_out (P := P) ht0 ht1 ht hu hi hz2 (run_lenOf (P := P) hx hl w) (by omega) (by omega) hby (hfc _ rfl) (by simp [Builtin.firstCells])
                  · cases e2
                · cases hr
              case slc b off l cap cap' o' d hd ho c1 c2 c3 c4 =>
                simp only at hr
                split at hr
                · rename_i hk64
                  obtain ⟨e', h2, n2, L1, L2, e1, e2, _⟩ := bind_some hr
                  obtain ⟨rfl, rfl, d2, hd2, hes, B0, hB0, hBe⟩ := hdr_at wr e1
                  rw [hd] at hd2; cases hd2
                  split at e2
                  · rename_i he
                    subst he
                    have hes2 : ie.size = d.esz := by simpa [size?, hi] using hes
                    obtain ⟨new, h3, n3, L3, L4, e3, e4, _⟩ := bind_some e2
                    obtain ⟨rfl, rfl, new', hn, hfc⟩ := elems_at hx hl hk0 wr e3
                    split at e4
                    · rename_i hc
                      simp only [Bool.and_eq_true, decide_eq_true_eq] at hc
                      obtain ⟨hnl, hnone⟩ := hc
                      have hnl' : new'.length = k * ie.size := by rw [← hn.length]; exact hnl
                      have hone' : ∀ v ∈ new', Ev.one v = true := by
                        intro v hv
                        obtain ⟨j, hj⟩ := List.mem_iff_getElem?.1 hv
                        have hjl : j < new.length := by
                          rw [hn.length]
                          exact (List.getElem?_eq_some_iff.1 hj).1
                        obtain ⟨v2, hv2, hr2⟩ := hn.get j new[j] (by simp [hjl])
                        rw [hj] at hv2; cases hv2
                        rw [hr2.one]
                        exact List.all_eq_true.1 hnone _ (List.getElem_mem hjl)
                      unfold evAppendTo at e4
                      by_cases hcap : cap < CAP
                      · rw [if_pos hcap] at e4
                        have hcc := c1 hcap
                        subst hcc
                        have hoo := ho (.inr hcap)
                        subst hoo
                        by_cases hroom : l + k ≤ cap'
                        · rw [if_pos hroom] at e4
                          obtain ⟨uu, h5, n5, L5, L6, e5, e6, _⟩ := bind_some e4
                          obtain ⟨rfl, rfl, rfl⟩ := ret_some e6
                          cases uu
                          obtain ⟨rfl, w', hst, x2, hbl⟩ := wrN_at hd hn (i := 0) (d.sh + off + l * ie.size) (by omega) wr e5
                          refine ⟨m, w', _, ?_, ⟨Le.refl _, fun _ _ => rfl, x2, hbl⟩, .slc hd (fun _ => rfl) (fun _ => rfl) (fun q => by omega) (by omega) c4⟩
                          exact run_append_in (P := P) ht0 ht1 ht hu hi (run_lenOf (P := P) hx hl w) hroom (hfc w rfl) hst
                        · rw [if_neg hroom] at e4
                          obtain ⟨old, h5, n5, L5, L6, e5, e6, _⟩ := bind_some e4
                          obtain ⟨rfl, rfl, hol, old', hov, hoc⟩ := rdN_at wr hd e5
                          obtain ⟨m', hp, hv⟩ := sound_new (cap := cap') wr hb hf hi hzs hov hn hol hnl e6
                          refine ⟨m', _, _, ?_, hp, hv⟩
                          refine run_append_out (P := P) ht0 ht1 ht hu hi hz2 (run_lenOf (P := P) hx hl w) (by omega) hk64 hby (hfc _ rfl) ?_
                          have := run_loadCells_of (P := P) (w := w.drew) (c := d.blk) (o := d.sh + off) (vs := old') hoc
                          rw [← hov.length, hol] at this
                          simpa [Builtin.firstCells] using this
                      · rw [if_neg hcap] at e4
                        obtain ⟨old, h5, n5, L5, L6, e5, e6, _⟩ := bind_some e4
                        obtain ⟨rfl, rfl, hol, old', hov, hoc⟩ := rdN_at wr hd e5
                        obtain ⟨uu, h7, n7, L7, L8, e7, e8, _⟩ := bind_some e6
                        unfold kill at e7
                        split at e7
                        · split at e7
                          · rename_i hbn _ B hB
                            split at e7
                            · rename_i hown
                              simp only [Option.some.injEq, Out.mk.injEq] at e7
                              obtain ⟨_, rfl, rfl, _⟩ := e7
                              have xk := wr.kill hB
                              -- what the old row reads as
                              have hoc' : ∀ (w2 : World), w2.heap = w.heap → (Builtin.firstCells ie.size l (.slice (some ⟨d.blk, o', none⟩) l cap')).run P w2 = .ok old'.toArray w2 := by
                                intro w2 hw2
                                have hq : ∀ j v, old'[j]? = some v → w2.cell? ⟨d.blk, o' + j, none⟩ = some v := by
                                  intro j v hj
                                  have hjl : j < old'.length := (List.getElem?_eq_some_iff.1 hj).1
                                  have hl0 : 0 < l := by
                                    rcases Nat.eq_zero_or_pos l with q | q
                                    · rw [← hov.length, hol, q] at hjl; simp at hjl
                                    · exact q
                                  rw [ho (.inl hl0)]
                                  have := hoc j v hj
                                  unfold World.cell? at this ⊢
                                  rw [hw2]; exact this
                                have := run_loadCells_of (P := P) hq
                                rw [← hov.length, hol] at this
                                simpa [Builtin.firstCells] using this
                              by_cases hroom : l + k ≤ cap'
                              · -- there is room: the same block goes on
                                obtain ⟨dB, cs, lo, hi2, b1, b2, b3, b4, b5, b6, b7⟩ := wr.live b B hB
                                rw [hd] at b1; cases b1
                                obtain ⟨hel, hbase, hfr⟩ := b6 hown
                                have hmul : l * d.esz + k * d.esz ≤ cap' * d.esz := by rw [← Nat.add_mul]; exact Nat.mul_le_mul_right _ hroom
                                obtain ⟨w', cs', s1, s2, s3, s4, s5, s6⟩ := run_store_raw (P := P) (base := base) (o := o' + l * ie.size) new' 0 w cs b2 (fun j hj => by
                                  rw [hnl', hes2] at hj
                                  rw [hes2]
                                  exact ⟨by omega, hfr _ (by omega)⟩) hone' hbase
                                unfold evNew at e8
                                obtain ⟨id, h9, n9, L9, L10, e9, e10, _⟩ := bind_some e8
                                obtain ⟨rfl, rfl, rfl⟩ := ret_some e10
                                unfold newB at e9
                                split at e9
                                · rename_i hn65
                                  simp only [Option.some.injEq, Out.mk.injEq] at e9
                                  obtain ⟨rfl, rfl, rfl, _⟩ := e9
                                  have hBB : B.elem = e' := by rw [hB] at hB0; cases hB0; exact hBe
                                  rw [hel, hBB] at s2
                                  have hn0 : m n5 = none := hf n5 (Nat.le_refl _) (by omega)
                                  obtain ⟨m', hm'⟩ : ∃ m' : Mp, m' = fun q => if q = n5 then some ⟨d.blk, o', d.tot, d.esz, e'⟩ else m q := ⟨_, rfl⟩
                                  have hmn : m' n5 = some ⟨d.blk, o', d.tot, d.esz, e'⟩ := by rw [hm']; simp
                                  have hmo : ∀ q, q ≠ n5 → m' q = m q := fun q hq => by rw [hm']; simp [hq]
                                  have hle : Le m m' := fun q dd hq => by
                                    by_cases e : q = n5
                                    · subst e; rw [hn0] at hq; cases hq
                                    · rw [hmo q e]; exact hq
                                  refine ⟨m', w', .slice (some ⟨d.blk, o', none⟩) (l + k) cap', ?_, ⟨hle, fun q hq => hmo q (by omega), ⟨?_, ?_⟩, s6⟩, VR.slc (d := ⟨d.blk, o', d.tot, d.esz, e'⟩) hmn (fun _ => rfl) (fun q => by unfold CAP at *; omega) (fun _ => ⟨Nat.le_refl _, by omega⟩) hroom c4⟩
                                  · exact run_append_in (P := P) ht0 ht1 ht hu hi (run_lenOf (P := P) hx hl w) hroom (hfc w rfl) s1
                                  · intro q B2 hq
                                    rw [H.get_set _ _] at hq
                                    by_cases e : q = n5
                                    · subst e
                                      rw [if_pos rfl] at hq
                                      cases hq
                                      refine ⟨_, cs', lo, hi2, hmn, s2, by rw [s3, b3], ?_, hes, fun _ => ⟨rfl, hbase, hfr⟩, fun j v hj => ?_⟩
                                      · simp only [List.length_append, hol, hnl, hes2]; omega
                                      · obtain ⟨v', hv', hr'⟩ := (hov.append hn).get j v hj
                                        refine ⟨v', ?_, hr'.mono hle⟩
                                        show cs'[o' + j]? = _
                                        rw [s4]
                                        have hol' : old'.length = l * ie.size := by rw [← hov.length, hol]
                                        by_cases hjl : j < old'.length
                                        · rw [if_neg (by rw [hol'] at hjl; omega)]
                                          rw [List.getElem?_append_left hjl] at hv'
                                          have hl0 : 0 < l := by
                                            rcases Nat.eq_zero_or_pos l with q | q
                                            · rw [hol', q] at hjl; simp at hjl
                                            · exact q
                                          have := hoc j v' hv'
                                          rw [cell_eq w _ _ b2] at this
                                          rw [ho (.inl hl0)]
                                          exact this
                                        · have hjl2 : j < (old' ++ new').length := (List.getElem?_eq_some_iff.1 hv').1
                                          rw [List.getElem?_append_right (by omega)] at hv'
                                          simp only [List.length_append] at hjl2
                                          rw [if_pos (by omega)]
                                          rw [← hv', hol']
                                          congr 1
                                          omega
                                    · rw [if_neg e] at hq
                                      obtain ⟨d3, cs3, lo3, hi3, g1, g2, g3, g4, g5, g6, g7⟩ := xk.live q B2 hq
                                      have hqb : q ≠ b ∧ h5.get q = some B2 := by
                                        rw [H.get_set _ _] at hq
                                        by_cases e3 : q = b
                                        · rw [if_pos e3] at hq; cases hq
                                        · rw [if_neg e3] at hq; exact ⟨e3, hq⟩
                                      have hne : d3.blk ≠ d.blk := fun e3 => hqb.1 (wr.inj q b B2 B d3 d hqb.2 hB (.inr hown) g1 hd e3)
                                      refine ⟨d3, cs3, lo3, hi3, hle _ _ g1, by rw [s5 _ hne]; exact g2, g3, g4, g5, g6, fun j v hj => ?_⟩
                                      obtain ⟨v', hv', hr'⟩ := g7 j v hj
                                      exact ⟨v', hv', hr'.mono hle⟩
                                  · intro q q' B2 B3 d2 d3 hq hq' hoo hm2 hm3 hbe
                                    rw [H.get_set _ _] at hq hq'
                                    have key : ∀ q B2 d2, q ≠ n5 → (h5.set b none).get q = some B2 → m' q = some d2 → d2.blk ≠ d.blk := by
                                      intro q B2 d2 hqn hq hm2 hbe
                                      rw [H.get_set _ _] at hq
                                      by_cases e3 : q = b
                                      · rw [if_pos e3] at hq; cases hq
                                      · rw [if_neg e3] at hq
                                        rw [hmo q hqn] at hm2
                                        exact e3 (wr.inj q b B2 B d2 d hq hB (.inr hown) hm2 hd hbe)
                                    by_cases e1 : q = n5
                                    · by_cases e2 : q' = n5
                                      · rw [e1, e2]
                                      · rw [if_neg e2] at hq'
                                        subst e1
                                        rw [hmn] at hm2; cases hm2
                                        exact absurd hbe.symm (key q' B3 d3 e2 hq' hm3)
                                    · rw [if_neg e1] at hq
                                      by_cases e2 : q' = n5
                                      · subst e2
                                        rw [hmn] at hm3; cases hm3
                                        exact absurd hbe (key q B2 d2 e1 hq hm2)
                                      · rw [if_neg e2] at hq'
                                        rw [hmo q e1] at hm2
                                        rw [hmo q' e2] at hm3
                                        exact xk.inj q q' B2 B3 d2 d3 hq hq' hoo hm2 hm3 hbe
                                · cases e9
                              · -- there is none: a new row
                                obtain ⟨m', hp, hv⟩ := sound_new (cap := cap') xk hb hf hi hzs hov hn hol hnl e8
                                refine ⟨m', _, _, ?_, hp, hv⟩
                                exact run_append_out (P := P) ht0 ht1 ht hu hi hz2 (run_lenOf (P := P) hx hl w) (by omega) hk64 hby (hfc _ rfl) (hoc' _ rfl)
                            · cases e7
                          · cases e7
                        · cases e7
                    · cases e4
                  · cases e2
                · cases hr
          · cases hr
theorem sound_copy {ats : Array TypeId} {t ty : TypeId} {d d' s s' : Value} (ht0 : ats[0]? = some t) (hd : VR m d d') (hs : VR m s s') (wr : WR P m base h w.heap) (hr : evCopy P t d s h n = some ⟨r, h1, n1, L⟩) :
    Sound P base m w h n (Builtin.copy_ ats ty #[d', s']) r h1 n1 := by
  unfold evCopy at hr
  cases hue : P.underlying t with
  | none => rw [hue] at hr; cases hr
  | some du =>
    rw [hue] at hr
    cases du <;> try (cases hr; done)
    rename_i e
    simp only at hr
    cases hsz : size? P e with
    | none => rw [hsz] at hr; cases hr
    | some sz =>
      cases hsl : lenOf? s with
      | none => rw [hsz, hsl] at hr; cases hd <;> cases hr
      | some sl =>
        rw [hsz, hsl] at hr
        have hlen := run_lenOf (P := P) hs hsl w
        have zero : ∀ dl, ¬ 0 < Nat.min sl dl → Nat.min sl dl = 0 ∧ (Builtin.firstCells sz (Nat.min sl dl) s').run P w = .ok #[] w := by
          intro dl h0
          have h0' : Nat.min sl dl = 0 := by omega
          refine ⟨h0', ?_⟩
          rw [h0']
          cases hs <;> simp [lenOf?] at hsl <;> simp [Builtin.firstCells, loadCells, loadCellsFrom]
        cases hd with
        | snil dl cap hc =>
          simp only at hr
          by_cases h0 : 0 < Nat.min sl dl
          · rw [if_pos h0] at hr; cases hr
          · rw [if_neg h0] at hr
            obtain ⟨rfl, rfl, rfl⟩ := ret_some hr
            obtain ⟨z1, z2⟩ := zero dl h0
            refine ⟨m, w, _, ?_, Post.refl wr, .int _ _⟩
            rw [z1] at z2
            simp [Builtin.copy_, ht0, run_underlying hue, run_sizeOf hsz, hlen, z1, z2, goInt]
        | semp b off sp a' =>
          simp only at hr
          by_cases h0 : 0 < Nat.min sl 0
          · rw [if_pos h0] at hr; cases hr
          · rw [if_neg h0] at hr
            obtain ⟨rfl, rfl, rfl⟩ := ret_some hr
            obtain ⟨z1, z2⟩ := zero 0 h0
            refine ⟨m, w, _, ?_, Post.refl wr, .int _ _⟩
            rw [z1] at z2
            simp [Builtin.copy_, ht0, run_underlying hue, run_sizeOf hsz, hlen, z1, z2, goInt, storeCells]
        | @slc b off dl cap cap' o' dd hdd ho c1 c2 c3 c4 =>
          simp only at hr
          by_cases h0 : 0 < Nat.min sl dl
          · rw [if_pos h0] at hr
            obtain ⟨vs, h2, n2, L1, L2, e1, e2, _⟩ := bind_some hr
            have hsl0 : 0 < sl := Nat.lt_of_lt_of_le h0 (Nat.min_le_left _ _)
            have hdl0 : 0 < dl := Nat.lt_of_lt_of_le h0 (Nat.min_le_right _ _)
            obtain ⟨rfl, rfl, vs', hvs, hfc⟩ := elems_at hs hsl hsl0 wr e1
            obtain ⟨u, h3, n3, L3, L4, e3, e4, _⟩ := bind_some e2
            obtain ⟨rfl, rfl, rfl⟩ := ret_some e4
            cases u
            obtain ⟨rfl, w', hst, x2, hbl⟩ := wrN_at hdd hvs (i := 0) (dd.sh + off) (by omega) wr e3
            refine ⟨m, w', _, ?_, ⟨Le.refl _, fun _ _ => rfl, x2, hbl⟩, .int _ _⟩
            have hf := hfc w rfl
            rw [← ho (.inl hdl0)] at hst
            simp [Builtin.copy_, ht0, run_underlying hue, run_sizeOf hsz, hlen, hf, hst, goInt]
          · rw [if_neg h0] at hr
            obtain ⟨rfl, rfl, rfl⟩ := ret_some hr
            obtain ⟨z1, z2⟩ := zero dl h0
            refine ⟨m, w, _, ?_, Post.refl wr, .int _ _⟩
            rw [z1] at z2
            simp [Builtin.copy_, ht0, run_underlying hue, run_sizeOf hsz, hlen, z1, z2, goInt, storeCells]
        | _ => cases hr
end
end Go.Proofs.YtcehhgppfahbkaaGreatDoor.Ev
