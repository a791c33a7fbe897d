/- Layer 47, plain: digits of a sum and of a number, a part as text, parts as text. No program in sight. -/
import Derived.WalkKit
import Derived.WalkSpells
import Derived.WalkLawsBesides
import Derived.Lib.Bytealg
import Derived.Lib.Bytes
import Derived.Lib.Repeat
import Derived.Laws.Append
import Derived.Laws.Cells
import Derived.Orders
namespace Go.Proofs.YtmjolmggelkjlaaGreat.Ip
set_option linter.unusedVariables false
set_option linter.unusedSimpArgs false
open Go

def digs : Nat → Nat → List Nat
  | 0, _ => []
  | k + 1, n => if n < 10 then [n] else digs k (n / 10) ++ [n % 10]
def numB (n : Int) : List Nat := (digs 19 n.toNat).map (48 + ·)
def hexD (x : Nat) : Nat := if x < 10 then 48 + x else 87 + x
def hexB (n : Nat) : List Nat := (List.range 8).map fun i => hexD (n / 16 ^ (7 - i) % 16)
def wordsB : List Nat → List Int → List Nat
  | s, [] => s
  | s, n :: l => wordsB (s ++ 32 :: numB n) l
/-- what a part is made of -/
structure Pt where
  what : Int
  level : Int
  frm : Int
  to_ : Int
  sum : Int
  orig : Int
  last : Int
  len : Int
def Pt.small (p : Pt) : Bool := decide (p.level < 0) || decide (p.frm < 0) || decide (p.to_ < 0) || decide (p.orig < 0) || decide (p.last < 0) || decide (p.len < 0)
def beginB : List Nat := [98, 101, 103, 105, 110]
def blockB : List Nat := [98, 108, 111, 99, 107, 32]
def endB : List Nat := [101, 110, 100, 32]
def lineB (p : Pt) : Option (List Nat) :=
  if p.small = true then none
  else if p.what = 1 then some (wordsB beginB [p.level, p.frm, p.to_])
  else if p.what = 2 then some (wordsB (blockB ++ hexB p.sum.toNat) [p.orig, p.last, p.len, p.frm, p.to_])
  else if p.what = 3 then some (wordsB (endB ++ hexB p.sum.toNat) [p.frm, p.to_])
  else none
def textB : List Pt → Option (List Nat)
  | [] => some []
  | p :: l => match lineB p, textB l with
    | some a, some b => some (a ++ 10 :: b)
    | _, _ => none
def stB (l : List Nat) : Value := .string ⟨(l.map UInt8.ofNat).toArray⟩
def ansB (o : Option (List Nat)) : Value := match o with
  | some l => .tuple #[stB l, .int .i64 0]
  | none => .tuple #[stB [], .int .i64 1]
/-- numbers as the machine has them -/
def i64ok (n : Int) : Bool := decide (-9223372036854775808 ≤ n) && decide (n ≤ 9223372036854775807)
def Pt.ok (p : Pt) : Bool := i64ok p.what && i64ok p.level && i64ok p.frm && i64ok p.to_ && decide (0 ≤ p.sum) && decide (p.sum < 4294967296) && i64ok p.orig && i64ok p.last && i64ok p.len
def Pt.cells (p : Pt) : List Value := [.int .i64 p.what, .int .i64 p.level, .int .i64 p.frm, .int .i64 p.to_, .int .u32 p.sum, .int .i64 p.orig, .int .i64 p.last, .int .i64 p.len]
def ptsOf : List Value → Option (List Pt)
  | [] => some []
  | .int .i64 a :: .int .i64 b :: .int .i64 c :: .int .i64 d :: .int .u32 e :: .int .i64 f :: .int .i64 g :: .int .i64 h :: r => match ptsOf r with
    | some l => if (Pt.mk a b c d e f g h).ok = true then some (⟨a, b, c, d, e, f, g, h⟩ :: l) else none
    | none => none
  | _ => none
def hexN : List Value → Option Value
  | [.int .u32 n] => if 0 ≤ n ∧ n < 4294967296 then some (stB (hexB n.toNat)) else none
  | _ => none
def textN (n : Nat) (cs : List Value) : Option Value := if n ≤ 1000 then (match ptsOf cs with
  | some l => some (ansB (textB l))
  | none => none) else none
end Go.Proofs.YtmjolmggelkjlaaGreat.Ip
/- The closed functions of this seat's statements that yield true in every world: what the evaluator need not walk; and functions that are known by what they yield. -/
namespace Go.Proofs.YtmjolmggelkjlaaGreat.Ev
set_option linter.unusedVariables false
set_option linter.unusedSimpArgs false
open Go
def KN : List FuncId := [12, 65, 68, 18]
/-- functions that are known by what they do -/
def NV : List (FuncId × Nat) := [(68, 3), (18, 4)]
/-- functions of numbers and texts, and of one row of plain cells, that are known by what they yield -/
def natP : FuncId → List Value → Option Value := fun _ => Ip.hexN
def natZ : FuncId → Nat := fun _ => 8
def natR : FuncId → Nat → List Value → Option Value := fun _ => Ip.textN
/-- cells of package-level variables that these functions read: the variable's number, the cell, what it holds -/
def KG : List (Nat × Nat × Value) := []
end Go.Proofs.YtmjolmggelkjlaaGreat.Ev
/- An evaluator of calls on closed arguments: its definitions. No program in sight. -/
namespace Go.Proofs.YtmjolmggelkjlaaGreat.Ev
set_option linter.unusedVariables false
set_option linter.unusedSimpArgs false
open Go

/-- a trie of entries by number -/
inductive Tr (α : Type) where
  | nil
  | node (l : Tr α) (v : Option α) (r : Tr α)
def Tr.get {α : Type} : Nat → Tr α → Nat → Option α
  | 0, _, _ => none
  | _ + 1, .nil, _ => none
  | f + 1, .node l v r, i => if i = 0 then v else if i % 2 = 1 then Tr.get f l (i / 2) else Tr.get f r (i / 2 - 1)
def Tr.set {α : Type} : Nat → Tr α → Nat → Option α → Tr α
  | 0, t, _, _ => t
  | f + 1, .nil, i, a => if i = 0 then .node .nil a .nil else if i % 2 = 1 then .node (Tr.set f .nil (i / 2) a) none .nil else .node .nil none (Tr.set f .nil (i / 2 - 1) a)
  | f + 1, .node l v r, i, a => if i = 0 then .node l a r else if i % 2 = 1 then .node (Tr.set f l (i / 2) a) v r else .node l v (Tr.set f r (i / 2 - 1) a)

/-- a block: its element's type, whether the call owns it, its cells -/
structure AB where
  elem : TypeId
  own : Bool
  cells : List Value
abbrev H := Tr AB
def H.get (h : H) (b : Nat) : Option AB := Tr.get (b + 1) h b
def H.set (h : H) (b : Nat) (x : Option AB) : H := Tr.set (b + 1) h b x
abbrev S := Tr Value
def S.get (s : S) (t : Nat) : Value := (Tr.get 10 s t).getD undef
def S.put (s : S) (t : Nat) (v : Value) : S := Tr.set 10 s t (some v)

/-- what a step touched: was it written, of which block, which cell (none: the block whole) -/
structure En where
  wr : Bool
  b : Nat
  k : Option Nat
structure Out (α : Type) where
  val : α
  h : H
  n : Nat
  log : List En
def M (α : Type) := H → Nat → Option (Out α)
def M.ret {α : Type} (a : α) : M α := fun h n => some ⟨a, h, n, []⟩
def M.fail {α : Type} : M α := fun _ _ => none
def M.lift {α : Type} (o : Option α) : M α := fun h n => match o with | some a => some ⟨a, h, n, []⟩ | none => none
def M.bind {α β : Type} (m : M α) (f : α → M β) : M β := fun h n =>
  match m h n with
  | some ⟨a, h1, n1, L1⟩ => match f a h1 n1 with
    | some ⟨c, h2, n2, L2⟩ => some ⟨c, h2, n2, L1 ++ L2⟩
    | none => none
  | none => none
instance : Monad M where
  pure := M.ret
  bind := M.bind

def rd (b k : Nat) : M Value := fun h n =>
  if b < n then match h.get b with
    | some B => match B.cells[k]? with
      | some v => some ⟨v, h, n, [⟨false, b, some k⟩]⟩
      | none => none
    | none => none
  else none
def one : Value → Bool
  | .agg _ | .tuple _ => false
  | _ => true
def wr (b k : Nat) (v : Value) : M Unit := fun h n =>
  if b < n then match h.get b with
    | some B => if B.own && k < B.cells.length && one v then some ⟨(), h.set b (some { B with cells := B.cells.set k v }), n, [⟨false, b, some k⟩, ⟨true, b, some k⟩]⟩ else none
    | none => none
  else none
def newB (e : TypeId) (cs : List Value) : M Nat := fun h n =>
  if n < n + 1 then some ⟨n, h.set n (some ⟨e, true, cs⟩), n + 1, []⟩ else none
def whole (b : Nat) : M AB := fun h n =>
  if b < n then match h.get b with
    | some B => some ⟨B, h, n, [⟨false, b, none⟩]⟩
    | none => none
  else none
/-- a block's element type (told as a cell that no block has) -/
def hdr (b : Nat) : M TypeId := fun h n =>
  if b < n then match h.get b with
    | some B => some ⟨B.elem, h, n, [⟨false, b, some 1099511627776⟩]⟩
    | none => none
  else none
def kill (b : Nat) : M Unit := fun h n =>
  if b < n then match h.get b with
    | some B => if B.own then some ⟨(), h.set b none, n, [⟨false, b, none⟩, ⟨true, b, none⟩]⟩ else none
    | none => none
  else none
def rdN (b k : Nat) : Nat → M (List Value)
  | 0 => .ret []
  | n + 1 => (rd b k).bind fun v => (rdN b (k + 1) n).bind fun vs => .ret (v :: vs)
def wrN (b k : Nat) : List Value → M Unit
  | [] => .ret ()
  | v :: vs => (wr b k v).bind fun _ => wrN b (k + 1) vs
/-- a part whose own blocks are not told outside -/
def inside {α : Type} (m : M α) : M α := fun h n =>
  match m h n with
  | some ⟨a, h1, n1, L⟩ => some ⟨a, h1, n1, L.filter fun e => !(n ≤ e.b && e.b < n1)⟩
  | none => none

def CAP : Nat := 1152921504606846976
def agg? (P : Program) (t : TypeId) : Option Bool :=
  match P.underlying t with
  | some (.struct _) | some (.array _ _) => some true
  | some _ => some false
  | none => none
def size? (P : Program) (t : TypeId) : Option Nat := (P.info? t).map (·.size)
def clean1 : Value → Bool
  | .bool _ | .int _ _ | .float _ _ | .string _ | .pointer none | .nilFunc => true
  | .slice none n c => n ≤ c && c < CAP
  | _ => false
def clean : Value → Bool
  | .agg cs => cs.all clean1
  | .tuple cs => cs.all clean1
  | v => clean1 v
def zero? (P : Program) (t : TypeId) : Option Value := match (P.info? t).bind (·.zero) with
  | some z => if clean z then some z else none
  | none => none
def scalar : Value → Bool
  | .bool _ | .int _ _ | .string _ => true
  | _ => false
/-- a plain step without memory -/
def pureRun (P : Program) : Sem Next → Option Value
  | .pure (.value v) => some v
  | .program k => pureRun P (k P)
  | _ => none
def partOf (P : Program) (t : TypeId) (cs : Array Value) (off : Nat) : Option Value :=
  match agg? P t, size? P t with
  | some true, some n => some (.agg (cs.extract off (off + n)))
  | some false, _ => cs[off]?
  | _, _ => none
def bytesOf : List Value → ByteArray → Option ByteArray
  | [], acc => some acc
  | .int .u8 n :: r, acc => bytesOf r (acc.push (UInt8.ofNat n.toNat))
  | _, _ => none
inductive Nx where
  | val (v : Value)
  | call (f : FuncId) (args : Array Value)

def elemsOf (sz : Nat) (n : Nat) : Value → M (List Value)
  | .slice (some ⟨b, off, none⟩) _ _ => rdN b off (n * sz)
  | .string s => .ret ((s.extract 0 n).data.map fun b => Value.int .u8 b.toNat).toList
  | _ => .fail
def lenOf? : Value → Option Nat
  | .slice _ n _ => some n
  | .string s => some s.size
  | _ => none
def evNew (e : TypeId) (l n : Nat) (old new : List Value) : M Value :=
  (newB e (old ++ new)).bind fun id => .ret (.slice (some ⟨id, 0, none⟩) (l + n) (CAP + (l + n)))
def evAppendTo (e : TypeId) (n sz b off l cap : Nat) (new : List Value) : M Value :=
  if cap < CAP then
    if l + n ≤ cap then (wrN b (off + l * sz) new).bind fun _ => .ret (.slice (some ⟨b, off, none⟩) (l + n) cap)
    else (rdN b off (l * sz)).bind fun old => evNew e l n old new
  else (rdN b off (l * sz)).bind fun old => (kill b).bind fun _ => evNew e l n old new
def evAppend (P : Program) (sType : TypeId) (s x : Value) : M Value :=
  match P.underlying sType with
  | some (.slice e) => match P.info? e, zero? P e, lenOf? x with
    | some ie, some z, some n =>
        if z.cells.size = ie.size && 1 ≤ ie.size && ie.bytes ≤ 64 then
        if n = 0 then (match s with | .slice _ _ _ => .ret s | _ => .fail) else
        match s with
        | .slice none 0 0 => if n ≤ 1099511627776 then (elemsOf ie.size n x).bind fun new => if new.length = n * ie.size && new.all one then evNew e 0 n [] new else .fail else .fail
        | .slice (some ⟨b, off, none⟩) l cap =>
          if l + n ≤ 1099511627776 then
          (hdr b).bind fun e' => if e' = e then
            (elemsOf ie.size n x).bind fun new => if new.length = n * ie.size && new.all one then evAppendTo e n ie.size b off l cap new else .fail
          else .fail
          else .fail
        | _ => .fail
        else .fail
    | _, _, _ => .fail
  | _ => .fail

def boundOf (o : Option Value) (d : Nat) : Option Nat :=
  match o with
  | none => some d
  | some (.int _ i) => if 0 ≤ i then some i.toNat else none
  | _ => none

/-- an equality test with a nil -/
def nilEq : Option TypeDesc → Value → Value → Option Bool
  | some (.pointer _), .pointer none, .pointer b => some b.isNone
  | some (.pointer _), .pointer _, .pointer none => some false
  | some (.slice _), .slice none _ _, .slice b _ _ => some b.isNone
  | some (.slice _), .slice _ _ _, .slice none _ _ => some false
  | some (.func _ _ _), .nilFunc, .nilFunc => some true
  | some (.func _ _ _), .nilFunc, .func _ _ _ => some false
  | some (.func _ _ _), .func _ _ _, .nilFunc => some false
  | _, _, _ => none
/-- an equality test of two structs of numbers, texts, truths: what kinds its cells are -/
def kindOf? : Option TypeDesc → Option Nat
  | some (.int _) => some 0
  | some .string => some 1
  | some .bool => some 2
  | _ => none
def fldKinds (P : Program) : Nat → List Field → Option (List Nat)
  | _, [] => some []
  | i, f :: r => match kindOf? (P.underlying f.type), size? P f.type, fldKinds P (i + 1) r with
    | some d, some 1, some l => if f.name != "_" && f.offset == i then some (d :: l) else none
    | _, _, _ => none
def stKinds (P : Program) (t : TypeId) : Option (List Nat) := match P.underlying t with
  | some (.struct fs) => if P.stoodInHeld t || P.eqGuardType P.depth t then none else fldKinds P 0 fs.toList
  | _ => none
def kindEq : Nat → Value → Value → Option Bool
  | 0, .int k a, .int k' b => if k = k' then some (a == b) else none
  | 1, .string a, .string b => some (a == b)
  | 2, .bool a, .bool b => some (a == b)
  | _, _, _ => none
def kindsEq : List Nat → List Value → List Value → Option Bool
  | [], [], [] => some true
  | d :: ds, x :: l, y :: m => match kindEq d x y, kindsEq ds l m with
    | some a, some b => some (a && b)
    | _, _ => none
  | _, _, _ => none
def stEq (ds : Option (List Nat)) (x y : Value) : Option Bool := match ds, x, y with
  | some ds, .agg xs, .agg ys => kindsEq ds xs.toList ys.toList
  | _, _, _ => none
def anyEq (P : Program) (t : TypeId) (x y : Value) : Option Bool := match nilEq (P.underlying t) x y with
  | some b => some b
  | none => stEq (stKinds P t) x y
def evSlice (P : Program) (t : TypeId) (x : Value) (lo hi mx : Option Value) : Option Value :=
  match P.underlying t, x with
  | some (.slice e), .slice a len cap =>
    match size? P e, boundOf mx cap, boundOf hi len, boundOf lo 0 with
    | some sz, some m, some h, some l =>
      if mx.isSome && !hi.isSome then none else
      if l ≤ h && h ≤ m && m ≤ cap && (cap < CAP || (mx.isNone && h ≤ len)) then
        match a with
        | none => some (.slice none (h - l) (m - l))
        | some ⟨b, off, none⟩ => some (.slice (some ⟨b, if m = l then off else off + l * sz, none⟩) (h - l) (m - l))
        | _ => none
      else none
    | _, _, _, _ => none
  | _, _ => none

def evSliceM (P : Program) (t : TypeId) (x : Value) (lo hi mx : Option Value) : M Value :=
  match x with
  | .slice (some ⟨b, _, none⟩) _ _ => (hdr b).bind fun e' => match P.underlying t with
    | some (.slice e) => if size? P e' = size? P e then M.lift (evSlice P t x lo hi mx) else .fail
    | _ => .fail
  | _ => M.lift (evSlice P t x lo hi mx)
def evAlloc (P : Program) (e : TypeId) : M Value :=
  match zero? P e with
  | some z => (newB e z.cells.toList).bind fun id => .ret (.pointer (some ⟨id, 0, none⟩))
  | none => .fail
def evBox (P : Program) (e : TypeId) (v : Value) : M Value :=
  match size? P e with
  | some _ => (newB e v.cells.toList).bind fun id => .ret (.pointer (some ⟨id, 0, none⟩))
  | none => .fail
def placeOf (P : Program) (fs : Array Field) (i : Nat) : Option (Nat × Nat) := (fs[i]?).bind fun f => (size? P f.type).map fun n => (f.offset, n)
def evBuild (P : Program) (t : TypeId) (parts : List (Nat × Value)) : M Value :=
  match zero? P t, P.underlying t with
  | some z, some (.struct fs) => if fs.all fun f => (size? P f.type).isSome then
      (match Instr.fill (placeOf P fs) z.cells parts with
      | some cs => .ret (.agg cs)
      | none => .fail) else .fail
  | _, _ => .fail
def zeros (z : Value) (n : Nat) : Array Value := (Array.range n).map (z.cells[· % z.cells.size]!)
def evBuildSlice (P : Program) (t : TypeId) (len : Nat) (parts : List (Nat × Value)) : M Value :=
  match P.underlying t with
  | some (.slice e) => match size? P e, zero? P e with
    | some sz, some z =>
      if len = 0 && parts.isEmpty then (newB e []).bind fun id => .ret (.slice (some ⟨id, 0, none⟩) 0 0) else
      if 0 < len * sz && len * sz ≤ 65536 then
        match Instr.fill (fun i => some (i * sz, sz)) (zeros z (len * sz)) parts with
        | some cs => (newB e cs.toList).bind fun id => .ret (.slice (some ⟨id, 0, none⟩) len len)
        | none => .fail
      else .fail
    | _, _ => .fail
  | _ => .fail
def evLoad (P : Program) (t : TypeId) : Value → M Value
  | .pointer (some ⟨b, off, none⟩) => match agg? P t, size? P t with
    | some true, some n => (rdN b off n).bind fun vs => .ret (.agg vs.toArray)
    | some false, _ => rd b off
    | _, _ => .fail
  | _ => .fail
def evStore (P : Program) (t : TypeId) (a x : Value) : M Value :=
  match a with
  | .pointer (some ⟨b, off, none⟩) => match size? P t with
    | some n => if x.cells.size = n then (wrN b off x.cells.toList).bind fun _ => .ret undef else .fail
    | none => .fail
  | _ => .fail
def evNilCheck : Value → M Value
  | .pointer (some a) => .ret (.pointer (some a))
  | .func (.func f) a b => .ret (.func (.func f) a b)
  | _ => .fail
def evToStr : Value → M Value
  | .slice none _ _ => .ret (.string .empty)
  | .slice (some ⟨b, off, none⟩) len _ => (rdN b off len).bind fun vs => match bytesOf vs .empty with
    | some s => .ret (.string s)
    | none => .fail
  | _ => .fail
def evToBytes (e : TypeId) (s : ByteArray) : M Value :=
  if s.size ≤ 1099511627776 then (newB e (s.data.map fun b => Value.int .u8 b.toNat).toList).bind fun id => .ret (.slice (some ⟨id, 0, none⟩) s.size (CAP + s.size)) else .fail
def u8? (P : Program) (e : TypeId) : Bool := match P.underlying e with | some (.int .u8) => true | _ => false
def toStr? : Option TypeDesc → Option TypeDesc → Option TypeId
  | some (.slice e), some .string => some e
  | _, _ => none
def toBy? : Option TypeDesc → Option TypeDesc → Value → Option (TypeId × ByteArray)
  | some .string, some (.slice e), .string s => some (e, s)
  | _, _, _ => none
def evMakeSlice (P : Program) (t : TypeId) (l c : Value) : M Value :=
  match P.underlying t, l, c with
  | some (.slice e), .int _ l, .int _ c => match P.info? e, zero? P e with
    | some ie, some z => if 0 ≤ l && l ≤ c && c ≤ 1099511627776 && ie.bytes ≤ 64 && z.cells.size = ie.size && 1 ≤ ie.size then
        (newB e (zeros z (c.toNat * ie.size)).toList).bind fun id => .ret (.slice (some ⟨id, 0, none⟩) l.toNat c.toNat)
      else .fail
    | _, _ => .fail
  | _, _, _ => .fail
def evFieldAddr (P : Program) (s : TypeId) (x : Value) (f : Nat) : Option Value :=
  match P.underlying s, x with
  | some (.struct fs), .pointer (some ⟨b, off, none⟩) => match fs[f]? with
    | some fd => match size? P fd.type with
      | some n => if n = 0 then none else some (.pointer (some ⟨b, off + fd.offset, none⟩))
      | none => none
    | none => none
  | _, _ => none
def evField (P : Program) (t : TypeId) (x : Value) (f : Nat) : Option Value :=
  match P.underlying t, x with
  | some (.struct fs), .agg cs => match fs[f]? with
    | some fd => partOf P fd.type cs fd.offset
    | none => none
  | _, _ => none
def evIndexAddr (P : Program) (t : TypeId) (x ix : Value) : Option Value :=
  match P.underlying t, x, ix with
  | some (.slice e), .slice (some ⟨b, off, none⟩) len _, .int _ i => match size? P e with
    | some sz => if 0 ≤ i ∧ i < len then some (.pointer (some ⟨b, off + i.toNat * sz, none⟩)) else none
    | none => none
  | some (.array len e), .pointer (some ⟨b, off, none⟩), .int _ i => match size? P e with
    | some sz => if 0 ≤ i ∧ i < len then some (.pointer (some ⟨b, off + i.toNat * sz, none⟩)) else none
    | none => none
  | _, _, _ => none
def evIndex (P : Program) (t : TypeId) (x ix : Value) : Option Value :=
  match P.underlying t, x, ix with
  | some (.array len e), .agg cs, .int _ i => match size? P e with
    | some sz => if 0 ≤ i ∧ i < len then partOf P e cs (i.toNat * sz) else none
    | none => none
  | _, _, _ => none
def evExtract (x : Value) (i : Nat) : Option Value :=
  match x with
  | .tuple vs => vs[i]?
  | _ => none
/-- a step on numbers, texts and truths alone -/
def evPlain (P : Program) (ρ : Operand → Value) (o : Oper) : M Nx :=
  if o.op.operands.all fun x => scalar (ρ x) then (M.lift (pureRun P (execOp ρ o))).bind fun v => if scalar v then .ret (.val v) else .fail else .fail
def isStr : Value → Bool
  | .string _ => true
  | _ => false
def asFn? : Value → Option (FuncId × Array Value × Array Value)
  | .func (.func g) first captured => some (g, first, captured)
  | _ => none
def hasBody (P : Program) (g : FuncId) : Bool := match P.funcs[g]? with
  | some fn => fn.body.isSome
  | none => false
def sliceOrStr (P : Program) (t : TypeId) : Bool := match P.underlying t with
  | some (.slice _) | some .string => true
  | _ => false
def app? (P : Program) (ats : Array TypeId) (args : List Value) : Option (TypeId × Value × Value) := match ats[0]?, ats[1]?, args with
  | some t, some u, [s, x] => if sliceOrStr P u then some (t, s, x) else none
  | _, _, _ => none
/-- 'copy' into a row of the call's own -/
def evCopy (P : Program) (t : TypeId) (d s : Value) : M Value :=
  match P.underlying t with
  | some (.slice e) => match size? P e, d, lenOf? s with
    | some sz, .slice a dl _, some sl =>
      if 0 < Nat.min sl dl then (match a with
        | some ⟨b, off, none⟩ => (elemsOf sz (Nat.min sl dl) s).bind fun vs => (wrN b off vs).bind fun _ => .ret (.int .i64 (Nat.min sl dl))
        | _ => .fail)
      else .ret (.int .i64 0)
    | _, _, _ => .fail
  | _ => .fail
def cpy? (ats : Array TypeId) (args : List Value) : Option (TypeId × Value × Value) := match ats[0]?, args with
  | some t, [d, s] => some (t, d, s)
  | _, _ => none
def sliceLen? (P : Program) (ats : Array TypeId) (args : List Value) : Option Nat := match ats[0]?, args with
  | some t, .slice _ n _ :: _ => (match P.underlying t with | some (.slice _) => some n | _ => none)
  | _, _ => none
def evCallOp (P : Program) (ρ : Operand → Value) (o : Oper) (c : Call) (args : Array Value) : M Nx :=
  match c.callee with
  | .value f => match asFn? (ρ f) with
    | some (g, first, captured) => if hasBody P g then .ret (.call g (first ++ args ++ captured)) else .fail
    | none => .fail
  | .builtin .append => match app? P c.argTypes args.toList with
    | some (t, s, x) => (evAppend P t s x).bind fun v => .ret (.val v)
    | none => .fail
  | .builtin .copy => match cpy? c.argTypes args.toList with
    | some (t, d, s) => (evCopy P t d s).bind fun v => .ret (.val v)
    | none => .fail
  | .builtin .len => match sliceLen? P c.argTypes args.toList with
    | some n => .ret (.val (.int .i64 n))
    | none => evPlain P ρ o
  | .builtin .min | .builtin .max => evPlain P ρ o
  | _ => .fail

def evOp (P : Program) (ρ : Operand → Value) (o : Oper) : M Nx :=
  match o.op with
  | .move x | .assign x => .ret (.val (ρ x))
  | .pick c a b => match ρ c with
    | .bool t => .ret (.val (if t then ρ a else ρ b))
    | _ => .fail
  | .alloc e => (evAlloc P e).bind fun v => .ret (.val v)
  | .box e x => (evBox P e (ρ x)).bind fun v => .ret (.val v)
  | .build t parts => (evBuild P t (parts.toList.map fun (i, x) => (i, ρ x))).bind fun v => .ret (.val v)
  | .buildSlice t len parts => (evBuildSlice P t len (parts.toList.map fun (i, x) => (i, ρ x))).bind fun v => .ret (.val v)
  | .load t a => (evLoad P t (ρ a)).bind fun v => .ret (.val v)
  | .store t a x => (evStore P t (ρ a) (ρ x)).bind fun v => .ret (.val v)
  | .nilCheck x => (evNilCheck (ρ x)).bind fun v => .ret (.val v)
  | .binOp op t x y _ => match anyEq P t (ρ x) (ρ y), op with
    | some v, .eql => .ret (.val (.bool v))
    | some v, .neq => .ret (.val (.bool (!v)))
    | none, _ => evPlain P ρ o
    | _, _ => .fail
  | .unOp _ _ _ => evPlain P ρ o
  | .convert src dst x => match toStr? (P.underlying src) (P.underlying dst) with
    | some e => if u8? P e then (evToStr (ρ x)).bind fun v => .ret (.val v) else .fail
    | none => match toBy? (P.underlying src) (P.underlying dst) (ρ x) with
      | some (e, s) => if u8? P e && size? P e == some 1 then (evToBytes e s).bind fun v => .ret (.val v) else .fail
      | none => evPlain P ρ o
  | .makeFunc fn a b => .ret (.val (.func fn (a.map ρ) (b.map ρ)))
  | .makeSlice t l c => (evMakeSlice P t (ρ l) (ρ c)).bind fun v => .ret (.val v)
  | .slice t x lo hi mx => if isStr (ρ x) then evPlain P ρ o else (evSliceM P t (ρ x) (lo.map ρ) (hi.map ρ) (mx.map ρ)).bind fun v => .ret (.val v)
  | .fieldAddr s x f => (M.lift (evFieldAddr P s (ρ x) f)).bind fun v => .ret (.val v)
  | .field t x f => (M.lift (evField P t (ρ x) f)).bind fun v => .ret (.val v)
  | .indexAddr t x ix => (M.lift (evIndexAddr P t (ρ x) (ρ ix))).bind fun v => .ret (.val v)
  | .index t x ix => if isStr (ρ x) then evPlain P ρ o else (M.lift (evIndex P t (ρ x) (ρ ix))).bind fun v => .ret (.val v)
  | .extract t i => (M.lift (evExtract (ρ t) i)).bind fun v => .ret (.val v)
  | .call c => evCallOp P ρ o c (c.args.map ρ)
  | _ => .fail

def ev (s : S) : Operand → Value
  | .tmp t => s.get t
  | .const v => v
  | .global g => .pointer (some ⟨g, 0, none⟩)
  | .func f => .func (.func f) #[] #[]
def putS (nt : Nat) (s : S) (dst : Option Tmp) (v : Value) : Option S :=
  match dst with
  | none => some s
  | some d => if d < nt && d < 1023 then some (s.put d v) else none
def yields (ops : Array Oper) (s : S) (j : Nat) : Option Bool :=
  match (ops[j]?).bind (·.dst) with
  | some t => match s.get t with
    | .bool b => some b
    | _ => none
  | none => none

/-- which operations stand before each, by its edges: bit i of entry k -/
def befores : List Oper → List Nat → List Nat
  | [], acc => acc
  | o :: r, acc => befores r (acc ++ [o.after.toList.foldl (fun s e => if Region.binds .any e then s ||| 2 ^ e.on ||| acc.getD e.on 0 else s) 0])
structure Tk where
  n : Nat
  n1 : Nat
  log : List En
/-- what a part touched, told beside what it yields -/
def timed {α : Type} (m : M α) : M (α × Tk) := fun h n =>
  match m h n with
  | some ⟨a, h1, n1, L⟩ => some ⟨(a, ⟨n, n1, L⟩), h1, n1, L⟩
  | none => none
def tagged : Nat → List Tk → List (Nat × Tk)
  | _, [] => []
  | i, t :: r => (i, t) :: tagged (i + 1) r
def En.meets (x y : En) : Bool := x.b == y.b && (x.k == y.k || x.k.isNone || y.k.isNone)
def Tk.clash (a b : Tk) : Bool :=
  (a.log.any fun x => x.wr && b.log.any fun y => x.meets y) || (b.log.any fun x => x.wr && a.log.any fun y => x.meets y) ||
  (a.log.any fun x => b.n ≤ x.b && x.b < b.n1) || (b.log.any fun x => a.n ≤ x.b && x.b < a.n1)
def looks (ops : Array Oper) (o : Oper) : List Tmp := o.looksAt ops
def slotClash (ops : Array Oper) (x y : Oper) : Bool := !(x.apart ops y)
/-- of two operations that no edge puts in order nothing is shared -/
def pairsOk (ops : Array Oper) (bef : List Nat) : List (Nat × Tk) → Bool
  | [] => true
  | (j, tj) :: r => (r.all fun (k, tk) => (bef.getD k 0).testBit j || (!(tj.clash tk) && !(slotClash ops (ops.getD j default) (ops.getD k default)))) && pairsOk ops bef r
def edgesOk (ops : Array Oper) : Bool := ops.toList.zipIdx.all fun (o, i) => o.after.all (fun e => !Region.binds .any e || e.on < i) && !(o.op matches .select ..)

inductive Ex where
  | normal | ret
  | exit (id : Nat)

section
variable (P : Program) (rec : FuncId → Array Value → M Value) (nt : Nat)
/-- what an operation yields -/
def evVal (ops : Array Oper) (o : Oper) (s : S) : M Value :=
  if Region.wanted o (yields ops s) then
    (evOp P (ev s) o).bind fun
      | .val v => .ret v
      | .call f args => rec f args
  else .ret undef
/-- the operations in their order; what each touched -/
def evOpers (ops : Array Oper) : List Oper → S → M (S × List Tk)
  | [], s => .ret (s, [])
  | o :: r, s => (timed (inside (evVal P rec ops o s))).bind fun x => (M.lift (putS nt s o.dst x.1)).bind fun s1 => (evOpers ops r s1).bind fun y => .ret (y.1, x.2 :: y.2)
def evRegion (ops : Array Oper) (draw : Bool) (s : S) : M S :=
  (evOpers P rec nt ops ops.toList s).bind fun y =>
    if !draw || (edgesOk ops && pairsOk ops (befores ops.toList []) (tagged 0 y.2)) then .ret y.1 else .fail
def evCode : Nat → Code → S → M (Ex × S)
  | 0, _, _ => .fail
  | f + 1, c, s => match c with
    | .skip | .label _ => .ret (.normal, s)
    | .region _ ops draw => (evRegion P rec nt ops draw s).bind fun s1 => .ret (.normal, s1)
    | .seq a b => (evCode f a s).bind fun
      | (.normal, s1) => evCode f b s1
      | (e, s1) => .ret (e, s1)
    | .cond c a b => match ev s c with
      | .bool t => evCode f (if t then a else b) s
      | _ => .fail
    | .block id c => (evCode f c s).bind fun
      | (.exit i, s1) => if i = id then .ret (.normal, s1) else .ret (.exit i, s1)
      | (e, s1) => .ret (e, s1)
    | .loop c => (evCode f c s).bind fun
      | (.normal, s1) => evCode f (.loop c) s1
      | (e, s1) => .ret (e, s1)
    | .exit id => .ret (.exit id, s)
    | .ret => .ret (.ret, s)
    | _ => .fail
end

def okOperand (P : Program) : Operand → Bool
  | .const v => clean v
  | .global g => g < P.globals.size
  | _ => true
def okOper (P : Program) (o : Oper) : Bool := o.op.operands.all (okOperand P)
def okCode (P : Program) : Code → Bool
  | .region _ ops _ => ops.all (okOper P)
  | .seq a b => okCode P a && okCode P b
  | .cond c a b => okOperand P c && okCode P a && okCode P b
  | .block _ c | .loop c => okCode P c
  | _ => true
def okNames (P : Program) : Bool := P.funcs.all fun fn => !(fn.name == "runtime.NumGoroutine")
/-- all functions but those of a list -/
def okProg (P : Program) (bad : List FuncId) : Bool :=
  P.funcs.toList.zipIdx.all fun (fn, i) => bad.contains i || (match fn.body with | some c => okCode P c | none => true)

def argS : Nat → List Value → S → S
  | _, [], s => s
  | i, v :: r, s => argS (i + 1) r (s.put i v)
def evResults (P : Program) (s : S) : List ResultVar → M (List Value)
  | [] => .ret []
  | .tmp t :: r => (evResults P s r).bind fun vs => .ret (s.get t :: vs)
  | .cell a t :: r => (evLoad P t (s.get a)).bind fun v => (evResults P s r).bind fun vs => .ret (v :: vs)
/-- a function that takes nothing -/
def noPar (P : Program) (f : FuncId) : Bool := match P.funcs[f]? with
  | some fn => fn.params.size == 0
  | none => false
/-- the cells of package-level variables hold what they are known for -/
def sameI : Value → Value → Bool
  | .int k a, .int k' b => decide (k = k') && decide (a = b)
  | _, _ => false
def chkG (P : Program) : List (Nat × Nat × Value) → M Unit
  | [] => .ret ()
  | g :: r => (rd g.1 g.2.1).bind fun u => if (decide (g.1 < P.globals.size) && sameI u g.2.2) = true then chkG P r else .fail
def natIn : List (FuncId × Nat) → FuncId → Option Nat
  | [], _ => none
  | q :: r, f => match Nat.beq q.1 f with
    | true => some q.2
    | false => natIn r f
def natOf (f : FuncId) : Option Nat := natIn NV f
def u8s : List Value → Option (List Int)
  | [] => some []
  | .int .u8 x :: r => match u8s r with
    | some l => some (x :: l)
    | none => none
  | _ => none
def idxIn (c : Int) : Option (List Int) → M Value
  | some l => .ret (.int .i64 (Lib.indexByte (Lib.bytesOf l) c.toNat.toUInt8))
  | none => .fail
def evIdx (b off len : Nat) (c : Int) : M Value := (rdN b off len).bind fun vs => idxIn c (u8s vs)
def evRep (s : ByteArray) (c : Int) : M Value := if (decide (0 ≤ c) && decide (c ≤ 1000000) && decide (s.size ≤ 1000000)) = true then .ret (.string ⟨(Lib.repeatL s.data.toList c.toNat).toArray⟩) else .fail
def evNat1 : List Value → M Value
  | [.slice (some ⟨b, off, none⟩) len _, .int .u8 c] => evIdx b off len c
  | _ => .fail
def evNat2 : List Value → M Value
  | [.string s, .int .i64 c] => evRep s c
  | _ => .fail
/-- a function of numbers and texts, by what it yields; a function of one row of plain cells -/
def evNat3 (f : FuncId) (args : List Value) : M Value := if args.all scalar then M.lift (natP f args) else .fail
def evNat4 (f : FuncId) : List Value → M Value
  | [.slice none 0 0] => M.lift (natR f 0 [])
  | [.slice (some ⟨b, off, none⟩) len _] => (rdN b off (len * natZ f)).bind fun vs => if vs.all scalar then M.lift (natR f len vs) else .fail
  | _ => .fail
def evNat (f : FuncId) (k : Nat) (args : List Value) : M Value := match k with
  | 1 => evNat1 args
  | 2 => evNat2 args
  | 3 => evNat3 f args
  | 4 => evNat4 f args
  | _ => .fail
/-- of the functions of the list: those that take nothing yield true; the others are not run -/
def evCall (P : Program) (bad : List FuncId) : Nat → FuncId → Array Value → M Value
  | 0, _, _ => .fail
  | fuel + 1, f, args => if bad.contains f then (match natOf f with
    | some k => evNat f k args.toList
    | none => if (decide (args.size = 0) && noPar P f) = true then (chkG P KG).bind fun _ => .ret (.bool true) else .fail) else match P.funcs[f]? with
    | some fn => match fn.body with
      | some c => if args.size ≤ fn.ntmps && fn.ntmps < 1000 then
          inside ((evCode P (evCall P bad fuel) fn.ntmps fuel c (argS 0 args.toList .nil)).bind fun
            | (.normal, s) | (.ret, s) => (evResults P s fn.results.toList).bind fun vs => .ret (match vs with | [v] => v | _ => .tuple vs.toArray)
            | (.exit _, _) => .fail)
        else .fail
      | none => .fail
    | none => .fail

end Go.Proofs.YtmjolmggelkjlaaGreat.Ev
/- The evaluator's parts are local: what they yield hangs on what they touched alone. No program in sight. -/
namespace Go.Proofs.YtmjolmggelkjlaaGreat.Ev
set_option linter.unusedVariables false
set_option linter.unusedSimpArgs false
open Go

theorem Tr.get_nil {α : Type} (f j : Nat) : Tr.get f (.nil : Tr α) j = none := by cases f <;> rfl
theorem Tr.get_set {α : Type} : ∀ (f : Nat) (t : Tr α) (i : Nat) (a : Option α) (j : Nat), i < 2 ^ f - 1 → Tr.get f (Tr.set f t i a) j = if j = i then a else Tr.get f t j := by
  intro f
  induction f with
  | zero => intro t i a j h; simp at h
  | succ f ih =>
    intro t i a j hi
    have h2 : 2 ^ (f + 1) = 2 * 2 ^ f := by rw [Nat.pow_succ]; omega
    have h1 : 1 ≤ 2 ^ f := Nat.one_le_two_pow
    cases t with
    | nil =>
      unfold Tr.set
      by_cases h0 : i = 0
      · subst h0
        simp only [if_true]
        unfold Tr.get
        by_cases hj : j = 0
        · simp [hj]
        · simp [hj, Tr.get_nil]
      · rw [if_neg h0]
        by_cases ho : i % 2 = 1
        · rw [if_pos ho]
          simp only [Tr.get]
          by_cases hj : j = 0
          · subst hj; simp; omega
          · rw [if_neg hj]
            by_cases hjo : j % 2 = 1
            · rw [if_pos hjo, ih _ _ _ _ (by omega)]
              by_cases e : j = i
              · subst e; simp
              · rw [if_neg e, if_neg (by omega), Tr.get_nil]
            · rw [if_neg hjo, Tr.get_nil, if_neg (by intro e; subst e; exact hjo ho)]
        · rw [if_neg ho]
          simp only [Tr.get]
          by_cases hj : j = 0
          · subst hj; simp; omega
          · rw [if_neg hj]
            by_cases hjo : j % 2 = 1
            · rw [if_pos hjo, Tr.get_nil, if_neg (by intro e; subst e; exact ho hjo)]
            · rw [if_neg hjo, ih _ _ _ _ (by omega)]
              by_cases e : j = i
              · subst e; simp
              · rw [if_neg e, if_neg (by omega), Tr.get_nil]
    | node l v r =>
      unfold Tr.set
      by_cases h0 : i = 0
      · subst h0
        simp only [if_true]
        unfold Tr.get
        by_cases hj : j = 0
        · simp [hj]
        · simp [hj]
      · rw [if_neg h0]
        by_cases ho : i % 2 = 1
        · rw [if_pos ho]
          simp only [Tr.get]
          by_cases hj : j = 0
          · subst hj; simp; omega
          · rw [if_neg hj, if_neg hj]
            by_cases hjo : j % 2 = 1
            · rw [if_pos hjo, if_pos hjo, ih _ _ _ _ (by omega)]
              by_cases e : j = i
              · subst e; simp
              · rw [if_neg e, if_neg (by omega)]
            · rw [if_neg hjo, if_neg hjo, if_neg (by intro e; subst e; exact hjo ho)]
        · rw [if_neg ho]
          simp only [Tr.get]
          by_cases hj : j = 0
          · subst hj; simp; omega
          · rw [if_neg hj, if_neg hj]
            by_cases hjo : j % 2 = 1
            · rw [if_pos hjo, if_pos hjo, if_neg (by intro e; subst e; exact ho hjo)]
            · rw [if_neg hjo, if_neg hjo, ih _ _ _ _ (by omega)]
              by_cases e : j = i
              · subst e; simp
              · rw [if_neg e, if_neg (by omega)]
theorem Tr.get_fuel {α : Type} : ∀ (f f' : Nat) (t : Tr α) (i : Nat), i < 2 ^ f - 1 → i < 2 ^ f' - 1 → Tr.get f t i = Tr.get f' t i := by
  intro f
  induction f with
  | zero => intro f' t i h; simp at h
  | succ f ih =>
    intro f' t i h h'
    cases f' with
    | zero => simp at h'
    | succ f' =>
      have h2 : 2 ^ (f + 1) = 2 * 2 ^ f := by rw [Nat.pow_succ]; omega
      have h3 : 2 ^ (f' + 1) = 2 * 2 ^ f' := by rw [Nat.pow_succ]; omega
      cases t with
      | nil => rfl
      | node l v r =>
        unfold Tr.get
        by_cases h0 : i = 0
        · rw [if_pos h0, if_pos h0]
        · rw [if_neg h0, if_neg h0]
          split
          · exact ih f' l _ (by omega) (by omega)
          · exact ih f' r _ (by omega) (by omega)
theorem Tr.set_fuel {α : Type} : ∀ (f f' : Nat) (t : Tr α) (i : Nat) (a : Option α), i < 2 ^ f - 1 → i < 2 ^ f' - 1 → Tr.set f t i a = Tr.set f' t i a := by
  intro f
  induction f with
  | zero => intro f' t i a h; simp at h
  | succ f ih =>
    intro f' t i a h h'
    cases f' with
    | zero => simp at h'
    | succ f' =>
      have h2 : 2 ^ (f + 1) = 2 * 2 ^ f := by rw [Nat.pow_succ]; omega
      have h3 : 2 ^ (f' + 1) = 2 * 2 ^ f' := by rw [Nat.pow_succ]; omega
      cases t with
      | nil =>
        unfold Tr.set
        by_cases h0 : i = 0
        · rw [if_pos h0, if_pos h0]
        · rw [if_neg h0, if_neg h0]
          split
          · rw [ih f' _ _ a (by omega) (by omega)]
          · rw [ih f' _ _ a (by omega) (by omega)]
      | node l v r =>
        unfold Tr.set
        by_cases h0 : i = 0
        · rw [if_pos h0, if_pos h0]
        · rw [if_neg h0, if_neg h0]
          split
          · rw [ih f' _ _ a (by omega) (by omega)]
          · rw [ih f' _ _ a (by omega) (by omega)]
theorem pow_room (i k : Nat) : i < 2 ^ (i + 1 + k) - 1 := by
  have h1 : i + 1 + k < 2 ^ (i + 1 + k) := Nat.lt_two_pow_self
  omega
theorem H.get_set {h : H} {i : Nat} (x : Option AB) (j : Nat) : (h.set i x).get j = if j = i then x else h.get j := by
  unfold H.get H.set
  have hi := pow_room i (j + 1)
  have hj := pow_room j (i + 1)
  have hi0 := pow_room i 0
  have hj0 := pow_room j 0
  have e : i + 1 + (j + 1) = j + 1 + (i + 1) := by omega
  rw [e] at hi
  rw [Tr.get_fuel (j + 1) (j + 1 + (i + 1)) _ _ hj0 hj, Tr.get_fuel (j + 1) (j + 1 + (i + 1)) h _ hj0 hj, Tr.set_fuel (i + 1) (j + 1 + (i + 1)) _ _ _ hi0 hi]
  exact Tr.get_set _ _ _ _ _ hi

def hd (B : AB) : TypeId × Bool × Nat := (B.elem, B.own, B.cells.length)
def H.hd (h : H) (b : Nat) : Option (TypeId × Bool × Nat) := (h.get b).map Ev.hd
def H.cell (h : H) (b k : Nat) : Option Value := (h.get b).bind (·.cells[k]?)
def agrS (h h' : H) (b k : Nat) : Prop := h.hd b = h'.hd b ∧ h.cell b k = h'.cell b k
def agrE (h h' : H) (e : En) : Prop := match e.k with
  | none => h.get e.b = h'.get e.b
  | some k => agrS h h' e.b k
def wrote (L : List En) (b k : Nat) : Prop := ∃ e ∈ L, e.wr = true ∧ e.b = b ∧ (e.k = none ∨ e.k = some k)

theorem agrS.refl (h : H) (b k : Nat) : agrS h h b k := ⟨rfl, rfl⟩
theorem agrS.symm {h h' : H} {b k : Nat} (x : agrS h h' b k) : agrS h' h b k := ⟨x.1.symm, x.2.symm⟩
theorem agrS.trans {h h' h'' : H} {b k : Nat} (x : agrS h h' b k) (y : agrS h' h'' b k) : agrS h h'' b k := ⟨x.1.trans y.1, x.2.trans y.2⟩
theorem agrS.of_get {h h' : H} {b : Nat} (k : Nat) (x : h.get b = h'.get b) : agrS h h' b k := by
  unfold agrS H.hd H.cell; rw [x]; exact ⟨rfl, rfl⟩
theorem get_of_agrS {h h' : H} {b : Nat} (x : ∀ k, agrS h h' b k) : h.get b = h'.get b := by
  have h0 := (x 0).1
  unfold H.hd at h0
  cases hg : h.get b with
  | none => rw [hg] at h0; cases hg' : h'.get b with
    | none => rfl
    | some B => rw [hg'] at h0; simp at h0
  | some B =>
    rw [hg] at h0
    cases hg' : h'.get b with
    | none => rw [hg'] at h0; simp at h0
    | some B' =>
      rw [hg'] at h0
      simp [Ev.hd] at h0
      obtain ⟨h1, h2, h3⟩ := h0
      have hc : B.cells = B'.cells := by
        apply List.ext_getElem?
        intro k
        have := (x k).2
        unfold H.cell at this
        rw [hg, hg'] at this
        simpa using this
      cases B; cases B'
      simp_all
theorem agrE.of_get {h h' : H} {e : En} (x : h.get e.b = h'.get e.b) : agrE h h' e := by
  unfold agrE
  split
  · exact x
  · exact agrS.of_get _ x
theorem agrE.of_all {h h' : H} {e : En} (x : ∀ k, (e.k = none ∨ e.k = some k) → agrS h h' e.b k) : agrE h h' e := by
  unfold agrE
  split
  · rename_i he
    exact get_of_agrS fun k => x k (.inl he)
  · rename_i k he
    exact x k (.inr he)
theorem agrE.at_ {h h' : H} {e : En} (x : agrE h h' e) {k : Nat} (hk : e.k = none ∨ e.k = some k) : agrS h h' e.b k := by
  unfold agrE at x
  rcases hk with hk | hk
  · rw [hk] at x; exact agrS.of_get k x
  · rw [hk] at x; exact x

theorem wrote_append {L L' : List En} {b k : Nat} : wrote (L ++ L') b k ↔ wrote L b k ∨ wrote L' b k := by
  unfold wrote
  constructor
  · rintro ⟨e, he, hr⟩
    rcases List.mem_append.1 he with h | h
    · exact .inl ⟨e, h, hr⟩
    · exact .inr ⟨e, h, hr⟩
  · rintro (⟨e, he, hr⟩ | ⟨e, he, hr⟩)
    · exact ⟨e, List.mem_append.2 (.inl he), hr⟩
    · exact ⟨e, List.mem_append.2 (.inr he), hr⟩
theorem not_wrote_nil {b k : Nat} : ¬ wrote [] b k := by rintro ⟨e, he, _⟩; cases he

/-- what a part yields hangs on what it touched alone, and it changes nothing else -/
structure LocAt {α : Type} (m : M α) (h : H) (n : Nat) (r : α) (h1 : H) (n1 : Nat) (L : List En) : Prop where
  le : n ≤ n1
  lt : ∀ e ∈ L, e.b < n1
  frame : ∀ b k, ¬ wrote L b k → ¬ (n ≤ b ∧ b < n1) → agrS h1 h b k
  det : ∀ h', (∀ e ∈ L, ¬ (n ≤ e.b ∧ e.b < n1) → agrE h h' e) → ∃ h1', m h' n = some ⟨r, h1', n1, L⟩ ∧ ∀ b k, (wrote L b k ∨ (n ≤ b ∧ b < n1)) → agrS h1' h1 b k
def Loc {α : Type} (m : M α) : Prop := ∀ h n r h1 n1 L, m h n = some ⟨r, h1, n1, L⟩ → LocAt m h n r h1 n1 L

theorem Loc.ret {α : Type} (a : α) : Loc (.ret a) := by
  intro h n r h1 n1 L hm
  simp only [M.ret, Option.some.injEq, Out.mk.injEq] at hm
  obtain ⟨rfl, rfl, rfl, rfl⟩ := hm
  exact ⟨Nat.le_refl _, (fun e he => nomatch he), fun b k _ _ => agrS.refl _ _ _, fun h' _ => ⟨h', rfl, fun b k hw => by
    rcases hw with hw | hw
    · exact absurd hw not_wrote_nil
    · omega⟩⟩
theorem Loc.fail {α : Type} : Loc (.fail : M α) := by intro h n r h1 n1 L hm; cases hm
theorem Loc.lift {α : Type} (o : Option α) : Loc (.lift o) := by
  cases o with
  | none => intro h n r h1 n1 L hm; cases hm
  | some a => exact Loc.ret a
theorem Loc.bind {α β : Type} {m : M α} {f : α → M β} (hm : Loc m) (hf : ∀ a, Loc (f a)) : Loc (m.bind f) := by
  intro h n r h2 n2 L hr
  unfold M.bind at hr
  split at hr
  · rename_i a h1 n1 L1 e1
    split at hr
    · rename_i c h2' n2' L2 e2
      simp only [Option.some.injEq, Out.mk.injEq] at hr
      obtain ⟨rfl, rfl, rfl, rfl⟩ := hr
      have A := hm h n a h1 n1 L1 e1
      have B := hf a h1 n1 c h2' n2' L2 e2
      have hle1 := A.le
      have hle2 := B.le
      refine ⟨by omega, fun e he => ?_, fun b k hw hi => ?_, fun h' hag => ?_⟩
      · rcases List.mem_append.1 he with h | h
        · have := A.lt e h; omega
        · exact B.lt e h
      · rw [wrote_append] at hw
        exact (B.frame b k (fun x => hw (.inr x)) (by omega)).trans (A.frame b k (fun x => hw (.inl x)) (by omega))
      · obtain ⟨h1', r1, w1⟩ := A.det h' fun e he hi => hag e (List.mem_append.2 (.inl he)) (by have := A.lt e he; omega)
        have A' := hm h' n a h1' n1 L1 r1
        obtain ⟨h2', r2, w2⟩ := B.det h1' fun e he hi => by
          apply agrE.of_all
          intro k hk
          by_cases hw : wrote L1 e.b k ∨ (n ≤ e.b ∧ e.b < n1)
          · exact (w1 e.b k hw).symm
          · have hw1 : ¬ wrote L1 e.b k := fun x => hw (.inl x)
            have hw2 : ¬ (n ≤ e.b ∧ e.b < n1) := fun x => hw (.inr x)
            exact ((A.frame e.b k hw1 hw2).trans ((hag e (List.mem_append.2 (.inr he)) (by omega)).at_ hk)).trans (A'.frame e.b k hw1 hw2).symm
        have B' := hf a h1' n1 c h2' n2' L2 r2
        refine ⟨h2', by unfold M.bind; rw [r1]; simp only [r2], fun b k hw => ?_⟩
        rw [wrote_append] at hw
        by_cases hw2 : wrote L2 b k ∨ (n1 ≤ b ∧ b < n2')
        · exact w2 b k hw2
        · have hx1 : ¬ wrote L2 b k := fun x => hw2 (.inl x)
          have hx2 : ¬ (n1 ≤ b ∧ b < n2') := fun x => hw2 (.inr x)
          have hy : wrote L1 b k ∨ (n ≤ b ∧ b < n1) := by
            rcases hw with (hw | hw) | hw
            · exact .inl hw
            · exact absurd hw hx1
            · exact .inr (by omega)
          exact ((B'.frame b k hx1 hx2).trans (w1 b k hy)).trans (B.frame b k hx1 hx2).symm
    · cases hr
  · cases hr
theorem Loc.ite {α : Type} {c : Prop} [Decidable c] {x y : M α} (hx : Loc x) (hy : Loc y) : Loc (if c then x else y) := by
  by_cases h : c
  · rw [if_pos h]; exact hx
  · rw [if_neg h]; exact hy

theorem Loc.rd (b k : Nat) : Loc (Ev.rd b k) := by
  intro h n r h1 n1 L hr
  unfold Ev.rd at hr
  split at hr
  · rename_i hb
    split at hr
    · rename_i B hB
      split at hr
      · rename_i v hv
        simp only [Option.some.injEq, Out.mk.injEq] at hr
        obtain ⟨rfl, rfl, rfl, rfl⟩ := hr
        have nw : ∀ b' k', ¬ wrote [(⟨false, b, some k⟩ : En)] b' k' := by
          rintro b' k' ⟨e, he, hw, _⟩
          simp at he; subst he; cases hw
        refine ⟨Nat.le_refl _, fun e he => by simp at he; subst he; exact hb, fun b' k' _ _ => agrS.refl _ _ _, fun h' hag => ⟨h', ?_, fun b' k' hw => ?_⟩⟩
        · have := hag ⟨false, b, some k⟩ (by simp) (by show ¬ (n ≤ b ∧ b < n); omega)
          unfold agrE agrS at this
          simp only [H.cell, hB, Option.bind_some, hv] at this
          obtain ⟨_, t2⟩ := this
          cases hg : h'.get b with
          | none => rw [hg] at t2; simp at t2
          | some B' =>
            rw [hg] at t2
            simp at t2
            unfold Ev.rd
            rw [if_pos hb, hg]
            simp only [← t2]
        · rcases hw with hw | hw
          · exact absurd hw (nw _ _)
          · omega
      · cases hr
    · cases hr
  · cases hr
theorem set_cell {h : H} {b k : Nat} {B : AB} (hB : h.get b = some B) (v : Value) (b' k' : Nat) : (h.set b (some { B with cells := B.cells.set k v })).get b' = if b' = b then some { B with cells := B.cells.set k v } else h.get b' := H.get_set _ _
theorem Loc.wr (b k : Nat) (v : Value) : Loc (Ev.wr b k v) := by
  intro h n r h1 n1 L hr
  unfold Ev.wr at hr
  split at hr
  · rename_i hb
    split at hr
    · rename_i B hB
      split at hr
      · rename_i hc
        simp only [Option.some.injEq, Out.mk.injEq] at hr
        obtain ⟨_, rfl, rfl, rfl⟩ := hr
        have hcc := hc
        simp only [Bool.and_eq_true, decide_eq_true_eq] at hcc
        obtain ⟨⟨hown, hk⟩, hone⟩ := hcc
        refine ⟨Nat.le_refl _, fun e he => by simp at he; rcases he with rfl | rfl <;> exact hb, fun b' k' hw _ => ?_, fun h' hag => ?_⟩
        · unfold agrS H.hd H.cell
          rw [set_cell hB v b' k']
          by_cases e : b' = b
          · subst e
            rw [if_pos rfl, hB]
            have hkk : k ≠ k' := fun e => hw ⟨⟨true, b', some k⟩, by simp, rfl, rfl, .inr (by rw [e])⟩
            simp [Ev.hd, List.getElem?_set_ne hkk]
          · rw [if_neg e]; exact ⟨rfl, rfl⟩
        · have := hag ⟨false, b, some k⟩ (by simp) (by show ¬ (n ≤ b ∧ b < n); omega)
          unfold agrE agrS at this
          simp only [H.hd, H.cell, hB, Option.map_some, Option.bind_some] at this
          obtain ⟨t1, t2⟩ := this
          cases hg : h'.get b with
          | none => rw [hg] at t1; simp at t1
          | some B' =>
            rw [hg] at t1 t2
            simp [Ev.hd] at t1
            obtain ⟨q1, q2, q3⟩ := t1
            refine ⟨h'.set b (some { B' with cells := B'.cells.set k v }), ?_, fun b' k' hw => ?_⟩
            · unfold Ev.wr
              rw [if_pos hb, hg]
              simp only
              rw [if_pos (by rw [← q2, ← q3]; exact hc)]
            · have hbk : b' = b ∧ k' = k := by
                rcases hw with ⟨e, he, hw, rfl, hk'⟩ | hw
                · simp at he
                  rcases he with rfl | rfl
                  · cases hw
                  · simp at hk'; exact ⟨rfl, hk'.symm⟩
                · omega
              obtain ⟨rfl, rfl⟩ := hbk
              unfold agrS H.hd H.cell
              rw [set_cell hB v b' k', set_cell hg v b' k', if_pos rfl, if_pos rfl]
              refine ⟨?_, ?_⟩
              · simp [Ev.hd, q1, q2, q3]
              · simp [hk, ← q3]
      · cases hr
    · cases hr
  · cases hr
theorem Loc.newB (e : TypeId) (cs : List Value) : Loc (Ev.newB e cs) := by
  intro h n r h1 n1 L hr
  unfold Ev.newB at hr
  split at hr
  · rename_i hn
    simp only [Option.some.injEq, Out.mk.injEq] at hr
    obtain ⟨rfl, rfl, rfl, rfl⟩ := hr
    refine ⟨by omega, (fun e he => nomatch he), fun b k _ hi => ?_, fun h' _ => ⟨h'.set n (some ⟨e, true, cs⟩), ?_, fun b k hw => ?_⟩⟩
    · apply agrS.of_get
      rw [H.get_set _ _, if_neg (by omega)]
    · unfold Ev.newB
      rw [if_pos hn]
    · have hb : b = n := by
        rcases hw with hw | hw
        · exact absurd hw not_wrote_nil
        · omega
      subst hb
      apply agrS.of_get
      rw [H.get_set _ _, H.get_set _ _]
      simp
  · cases hr
theorem Loc.whole (b : Nat) : Loc (Ev.whole b) := by
  intro h n r h1 n1 L hr
  unfold Ev.whole at hr
  split at hr
  · rename_i hb
    split at hr
    · rename_i B hB
      simp only [Option.some.injEq, Out.mk.injEq] at hr
      obtain ⟨rfl, rfl, rfl, rfl⟩ := hr
      refine ⟨Nat.le_refl _, fun e he => by simp at he; subst he; exact hb, fun b' k' _ _ => agrS.refl _ _ _, fun h' hag => ⟨h', ?_, fun b' k' hw => ?_⟩⟩
      · have := hag ⟨false, b, none⟩ (by simp) (by show ¬ (n ≤ b ∧ b < n); omega)
        unfold agrE at this
        simp only [hB] at this
        unfold Ev.whole
        rw [if_pos hb, ← this]
      · rcases hw with ⟨e, he, hw, _⟩ | hw
        · simp at he; subst he; cases hw
        · omega
    · cases hr
  · cases hr
theorem Loc.hdr (b : Nat) : Loc (Ev.hdr b) := by
  intro h n r h1 n1 L hr
  unfold Ev.hdr at hr
  split at hr
  · rename_i hb
    split at hr
    · rename_i B hB
      simp only [Option.some.injEq, Out.mk.injEq] at hr
      obtain ⟨rfl, rfl, rfl, rfl⟩ := hr
      refine ⟨Nat.le_refl _, fun e he => by simp at he; subst he; exact hb, fun b' k' _ _ => agrS.refl _ _ _, fun h' hag => ⟨h', ?_, fun b' k' hw => ?_⟩⟩
      · have := hag ⟨false, b, some 1099511627776⟩ (by simp) (by show ¬ (n ≤ b ∧ b < n); omega)
        unfold agrE agrS at this
        simp only [H.hd, hB, Option.map_some] at this
        cases hg : h'.get b with
        | none => rw [hg] at this; simp at this
        | some B' =>
          rw [hg] at this
          simp [Ev.hd] at this
          unfold Ev.hdr
          rw [if_pos hb, hg]
          simp only [← this.1.1]
      · rcases hw with ⟨e, he, hw, _⟩ | hw
        · simp at he; subst he; cases hw
        · omega
    · cases hr
  · cases hr
theorem Loc.kill (b : Nat) : Loc (Ev.kill b) := by
  intro h n r h1 n1 L hr
  unfold Ev.kill at hr
  split at hr
  · rename_i hb
    split at hr
    · rename_i B hB
      split at hr
      · rename_i ho
        simp only [Option.some.injEq, Out.mk.injEq] at hr
        obtain ⟨_, rfl, rfl, rfl⟩ := hr
        refine ⟨Nat.le_refl _, fun e he => by simp at he; rcases he with rfl | rfl <;> exact hb, fun b' k' hw _ => ?_, fun h' hag => ⟨h'.set b none, ?_, fun b' k' hw => ?_⟩⟩
        · apply agrS.of_get
          rw [H.get_set _ _, if_neg]
          rintro rfl
          exact hw ⟨⟨true, b', none⟩, by simp, rfl, rfl, .inl rfl⟩
        · have := hag ⟨false, b, none⟩ (by simp) (by show ¬ (n ≤ b ∧ b < n); omega)
          unfold agrE at this
          simp only [hB] at this
          unfold Ev.kill
          rw [if_pos hb, ← this]
          simp only [ho, if_true]
        · have hbb : b' = b := by
            rcases hw with ⟨e, he, hw, rfl, _⟩ | hw
            · simp at he
              rcases he with rfl | rfl <;> rfl
            · omega
          subst hbb
          apply agrS.of_get
          rw [H.get_set _ _, H.get_set _ _]
          simp
      · cases hr
    · cases hr
  · cases hr
theorem Loc.rdN (b : Nat) : ∀ (n k : Nat), Loc (Ev.rdN b k n) := by
  intro n
  induction n with
  | zero => intro k; exact Loc.ret _
  | succ n ih => intro k; exact Loc.bind (Loc.rd _ _) fun v => Loc.bind (ih _) fun vs => Loc.ret _
theorem Loc.wrN (b : Nat) : ∀ (vs : List Value) (k : Nat), Loc (Ev.wrN b k vs) := by
  intro vs
  induction vs with
  | nil => intro k; exact Loc.ret _
  | cons v vs ih => intro k; exact Loc.bind (Loc.wr _ _ _) fun _ => ih _
theorem wrote_filter {L : List En} {n n1 b k : Nat} (hi : ¬ (n ≤ b ∧ b < n1)) : wrote (L.filter fun e => !(n ≤ e.b && e.b < n1)) b k ↔ wrote L b k := by
  unfold wrote
  constructor
  · rintro ⟨e, he, hr⟩
    exact ⟨e, (List.mem_filter.1 he).1, hr⟩
  · rintro ⟨e, he, h1, h2, h3⟩
    refine ⟨e, List.mem_filter.2 ⟨he, ?_⟩, h1, h2, h3⟩
    rw [h2]
    simp
    omega
theorem LocAt.filter {α : Type} {m m' : M α} {h h1 : H} {n n1 : Nat} {r : α} {L : List En} (A : LocAt m h n r h1 n1 L)
    (hm : ∀ h' h1', m h' n = some ⟨r, h1', n1, L⟩ → m' h' n = some ⟨r, h1', n1, L.filter fun e => !(n ≤ e.b && e.b < n1)⟩) : LocAt m' h n r h1 n1 (L.filter fun e => !(n ≤ e.b && e.b < n1)) := by
  refine ⟨A.le, fun e he => A.lt e (List.mem_filter.1 he).1, fun b k hw hi => A.frame b k (fun x => hw ((wrote_filter hi).2 x)) hi, fun h' hag => ?_⟩
  obtain ⟨h1', r1, w1⟩ := A.det h' fun e he hi => hag e (List.mem_filter.2 ⟨he, by simp; omega⟩) hi
  refine ⟨h1', hm h' h1' r1, fun b k hw => w1 b k ?_⟩
  by_cases hi : n ≤ b ∧ b < n1
  · exact .inr hi
  · rcases hw with hw | hw
    · exact .inl ((wrote_filter hi).1 hw)
    · exact .inr hw
theorem Loc.inside {α : Type} {m : M α} (hm : Loc m) : Loc (Ev.inside m) := by
  intro h n r h1 n1 L hr
  unfold Ev.inside at hr
  split at hr
  · rename_i a h1' n1' L' e1
    simp only [Option.some.injEq, Out.mk.injEq] at hr
    obtain ⟨rfl, rfl, rfl, rfl⟩ := hr
    refine (hm h n a h1' n1' L' e1).filter fun h' h1'' e => ?_
    unfold Ev.inside
    rw [e]
  · cases hr
theorem Loc.timed {α : Type} {m : M α} (hm : Loc m) : Loc (Ev.timed m) := by
  intro h n r h1 n1 L hr
  unfold Ev.timed at hr
  split at hr
  · rename_i a h1' n1' L' e1
    simp only [Option.some.injEq, Out.mk.injEq] at hr
    obtain ⟨rfl, rfl, rfl, rfl⟩ := hr
    have A := hm h n a h1' n1' L' e1
    refine ⟨A.le, A.lt, A.frame, fun h' hag => ?_⟩
    obtain ⟨h2, r2, w2⟩ := A.det h' hag
    exact ⟨h2, by unfold Ev.timed; rw [r2], w2⟩
  · cases hr

theorem Loc.elemsOf (sz n : Nat) (x : Value) : Loc (Ev.elemsOf sz n x) := by
  unfold Ev.elemsOf
  repeat' (first | exact Loc.ret _ | exact Loc.fail | exact Loc.lift _ | exact Loc.rd _ _ | exact Loc.rdN _ _ _ | exact Loc.wrN _ _ _ | exact Loc.whole _ | exact Loc.kill _ | exact Loc.newB _ _ | refine Loc.bind ?_ fun _ => ?_ | split)
theorem Loc.evNew (e : TypeId) (l n : Nat) (old new : List Value) : Loc (Ev.evNew e l n old new) := by
  unfold Ev.evNew
  repeat' (first | exact Loc.ret _ | exact Loc.fail | exact Loc.lift _ | exact Loc.rdN _ _ _ | exact Loc.wrN _ _ _ | exact Loc.hdr _ | exact Loc.kill _ | exact Loc.newB _ _ | refine Loc.bind ?_ fun _ => ?_ | split)
theorem Loc.evAppendTo (e : TypeId) (n sz b off l cap : Nat) (new : List Value) : Loc (Ev.evAppendTo e n sz b off l cap new) := by
  unfold Ev.evAppendTo
  repeat' (first | exact Loc.ret _ | exact Loc.fail | exact Loc.lift _ | exact Loc.rdN _ _ _ | exact Loc.wrN _ _ _ | exact Loc.hdr _ | exact Loc.kill _ | exact Loc.newB _ _ | exact Loc.evNew _ _ _ _ _ | refine Loc.bind ?_ fun _ => ?_ | split)
theorem Loc.evAppend (P : Program) (t : TypeId) (s x : Value) : Loc (Ev.evAppend P t s x) := by
  unfold Ev.evAppend
  repeat' (first | exact Loc.ret _ | exact Loc.fail | exact Loc.lift _ | exact Loc.rdN _ _ _ | exact Loc.wrN _ _ _ | exact Loc.hdr _ | exact Loc.kill _ | exact Loc.newB _ _ | exact Loc.elemsOf _ _ _ | exact Loc.evNew _ _ _ _ _ | exact Loc.evAppendTo _ _ _ _ _ _ _ _ | refine Loc.bind ?_ fun _ => ?_ | split)
theorem Loc.evCopy (P : Program) (t : TypeId) (d s : Value) : Loc (Ev.evCopy P t d s) := by
  unfold Ev.evCopy
  repeat' (first | exact Loc.ret _ | exact Loc.fail | exact Loc.lift _ | exact Loc.wrN _ _ _ | exact Loc.elemsOf _ _ _ | refine Loc.bind ?_ fun _ => ?_ | split)
theorem Loc.evPlain (P : Program) (ρ : Operand → Value) (o : Oper) : Loc (Ev.evPlain P ρ o) := by
  unfold Ev.evPlain
  repeat' (first | exact Loc.ret _ | exact Loc.fail | exact Loc.lift _ | exact Loc.rd _ _ | exact Loc.rdN _ _ _ | exact Loc.wrN _ _ _ | exact Loc.whole _ | exact Loc.kill _ | exact Loc.newB _ _ | refine Loc.bind ?_ fun _ => ?_ | split)
theorem Loc.evCallOp (P : Program) (ρ : Operand → Value) (o : Oper) (c : Call) (args : Array Value) : Loc (Ev.evCallOp P ρ o c args) := by
  unfold Ev.evCallOp
  repeat' (first | exact Loc.ret _ | exact Loc.fail | exact Loc.lift _ | exact Loc.rd _ _ | exact Loc.rdN _ _ _ | exact Loc.wrN _ _ _ | exact Loc.whole _ | exact Loc.kill _ | exact Loc.newB _ _ | exact Loc.evAppend _ _ _ _ | exact Loc.evCopy _ _ _ _ | exact Loc.evPlain _ _ _ | refine Loc.bind ?_ fun _ => ?_ | split)
theorem Loc.evAlloc (P : Program) (e : TypeId) : Loc (Ev.evAlloc P e) := by
  unfold Ev.evAlloc
  repeat' (first | exact Loc.ret _ | exact Loc.fail | exact Loc.lift _ | exact Loc.rd _ _ | exact Loc.rdN _ _ _ | exact Loc.wrN _ _ _ | exact Loc.whole _ | exact Loc.kill _ | exact Loc.newB _ _ | refine Loc.bind ?_ fun _ => ?_ | split)
theorem Loc.evBox (P : Program) (e : TypeId) (v : Value) : Loc (Ev.evBox P e v) := by
  unfold Ev.evBox
  repeat' (first | exact Loc.ret _ | exact Loc.fail | exact Loc.lift _ | exact Loc.rd _ _ | exact Loc.rdN _ _ _ | exact Loc.wrN _ _ _ | exact Loc.whole _ | exact Loc.kill _ | exact Loc.newB _ _ | refine Loc.bind ?_ fun _ => ?_ | split)
theorem Loc.evBuild (P : Program) (t : TypeId) (l : List (Nat × Value)) : Loc (Ev.evBuild P t l) := by
  unfold Ev.evBuild
  repeat' (first | exact Loc.ret _ | exact Loc.fail | exact Loc.lift _ | exact Loc.rd _ _ | exact Loc.rdN _ _ _ | exact Loc.wrN _ _ _ | exact Loc.whole _ | exact Loc.kill _ | exact Loc.newB _ _ | refine Loc.bind ?_ fun _ => ?_ | split)
theorem Loc.evBuildSlice (P : Program) (t : TypeId) (n : Nat) (l : List (Nat × Value)) : Loc (Ev.evBuildSlice P t n l) := by
  unfold Ev.evBuildSlice
  repeat' (first | exact Loc.ret _ | exact Loc.fail | exact Loc.lift _ | exact Loc.rd _ _ | exact Loc.rdN _ _ _ | exact Loc.wrN _ _ _ | exact Loc.whole _ | exact Loc.kill _ | exact Loc.newB _ _ | refine Loc.bind ?_ fun _ => ?_ | split)
theorem Loc.evLoad (P : Program) (t : TypeId) (v : Value) : Loc (Ev.evLoad P t v) := by
  unfold Ev.evLoad
  repeat' (first | exact Loc.ret _ | exact Loc.fail | exact Loc.lift _ | exact Loc.rd _ _ | exact Loc.rdN _ _ _ | exact Loc.wrN _ _ _ | exact Loc.whole _ | exact Loc.kill _ | exact Loc.newB _ _ | refine Loc.bind ?_ fun _ => ?_ | split)
theorem Loc.evStore (P : Program) (t : TypeId) (a v : Value) : Loc (Ev.evStore P t a v) := by
  unfold Ev.evStore
  repeat' (first | exact Loc.ret _ | exact Loc.fail | exact Loc.lift _ | exact Loc.rd _ _ | exact Loc.rdN _ _ _ | exact Loc.wrN _ _ _ | exact Loc.whole _ | exact Loc.kill _ | exact Loc.newB _ _ | refine Loc.bind ?_ fun _ => ?_ | split)
theorem Loc.evNilCheck (v : Value) : Loc (Ev.evNilCheck v) := by
  unfold Ev.evNilCheck
  repeat' (first | exact Loc.ret _ | exact Loc.fail | exact Loc.lift _ | exact Loc.rd _ _ | exact Loc.rdN _ _ _ | exact Loc.wrN _ _ _ | exact Loc.whole _ | exact Loc.kill _ | exact Loc.newB _ _ | refine Loc.bind ?_ fun _ => ?_ | split)
theorem Loc.evToStr (v : Value) : Loc (Ev.evToStr v) := by
  unfold Ev.evToStr
  repeat' (first | exact Loc.ret _ | exact Loc.fail | exact Loc.lift _ | exact Loc.rd _ _ | exact Loc.rdN _ _ _ | exact Loc.wrN _ _ _ | exact Loc.whole _ | exact Loc.kill _ | exact Loc.newB _ _ | refine Loc.bind ?_ fun _ => ?_ | split)
theorem Loc.evToBytes (e : TypeId) (s : ByteArray) : Loc (Ev.evToBytes e s) := by
  unfold Ev.evToBytes
  repeat' (first | exact Loc.ret _ | exact Loc.fail | exact Loc.lift _ | exact Loc.rd _ _ | exact Loc.rdN _ _ _ | exact Loc.wrN _ _ _ | exact Loc.whole _ | exact Loc.kill _ | exact Loc.newB _ _ | refine Loc.bind ?_ fun _ => ?_ | split)
theorem Loc.evMakeSlice (P : Program) (t : TypeId) (l c : Value) : Loc (Ev.evMakeSlice P t l c) := by
  unfold Ev.evMakeSlice
  repeat' (first | exact Loc.ret _ | exact Loc.fail | exact Loc.lift _ | exact Loc.rd _ _ | exact Loc.rdN _ _ _ | exact Loc.wrN _ _ _ | exact Loc.whole _ | exact Loc.kill _ | exact Loc.newB _ _ | refine Loc.bind ?_ fun _ => ?_ | split)
theorem Loc.evSliceM (P : Program) (t : TypeId) (x : Value) (a b c : Option Value) : Loc (Ev.evSliceM P t x a b c) := by
  unfold Ev.evSliceM
  repeat' (first | exact Loc.fail | exact Loc.lift _ | exact Loc.hdr _ | refine Loc.bind ?_ fun _ => ?_ | split)
theorem Loc.evOp (P : Program) (ρ : Operand → Value) (o : Oper) : Loc (Ev.evOp P ρ o) := by
  unfold Ev.evOp
  repeat' (first | exact Loc.ret _ | exact Loc.fail | exact Loc.lift _ | exact Loc.rd _ _ | exact Loc.rdN _ _ _ | exact Loc.wrN _ _ _ | exact Loc.whole _ | exact Loc.kill _ | exact Loc.newB _ _ | exact Loc.evPlain _ _ _ | exact Loc.evSliceM _ _ _ _ _ _  | exact Loc.evCallOp _ _ _ _ _  | exact Loc.evAlloc _ _  | exact Loc.evBox _ _ _  | exact Loc.evBuild _ _ _  | exact Loc.evBuildSlice _ _ _ _  | exact Loc.evLoad _ _ _  | exact Loc.evStore _ _ _ _  | exact Loc.evNilCheck _  | exact Loc.evToStr _  | exact Loc.evToBytes _ _  | exact Loc.evMakeSlice _ _ _ _  | refine Loc.bind ?_ fun _ => ?_ | split)
section
variable {P : Program} {rec : FuncId → Array Value → M Value} {nt : Nat}
theorem Loc.evVal (hrec : ∀ f a, Loc (rec f a)) (ops : Array Oper) (o : Oper) (s : S) : Loc (Ev.evVal P rec ops o s) := by
  unfold Ev.evVal
  repeat' (first | exact Loc.ret _ | exact Loc.fail | exact Loc.lift _ | exact Loc.evOp _ _ _ | exact hrec _ _ | refine Loc.bind ?_ fun _ => ?_ | split)
theorem Loc.evOpers (hrec : ∀ f a, Loc (rec f a)) (ops : Array Oper) : ∀ (l : List Oper) (s : S), Loc (Ev.evOpers P rec nt ops l s) := by
  intro l
  induction l with
  | nil => intro s; exact Loc.ret _
  | cons o r ih => intro s; exact Loc.bind (Loc.timed (Loc.inside (Loc.evVal hrec _ _ _))) fun x => Loc.bind (Loc.lift _) fun s1 => Loc.bind (ih _) fun y => Loc.ret _
theorem Loc.evRegion (hrec : ∀ f a, Loc (rec f a)) (ops : Array Oper) (draw : Bool) (s : S) : Loc (Ev.evRegion P rec nt ops draw s) :=
  Loc.bind (Loc.evOpers hrec _ _ _) fun y => Loc.ite (Loc.ret _) Loc.fail
theorem Loc.evCode (hrec : ∀ f a, Loc (rec f a)) : ∀ (fuel : Nat) (c : Code) (s : S), Loc (Ev.evCode P rec nt fuel c s) := by
  intro fuel
  induction fuel with
  | zero => intro c s; exact Loc.fail
  | succ f ih =>
    intro c s
    cases c <;> unfold Ev.evCode <;> simp only
    all_goals repeat' (first | exact Loc.ret _ | exact Loc.fail | exact ih _ _ | exact Loc.evRegion hrec _ _ _ | refine Loc.bind ?_ fun _ => ?_ | split)
end
theorem Loc.evResults (P : Program) (s : S) : ∀ l, Loc (Ev.evResults P s l) := by
  intro l
  induction l with
  | nil => exact Loc.ret _
  | cons r l ih =>
    cases r <;> unfold Ev.evResults
    · exact Loc.bind ih fun _ => Loc.ret _
    · exact Loc.bind (Loc.evLoad _ _ _) fun _ => Loc.bind ih fun _ => Loc.ret _
theorem Loc.chkG (P : Program) : ∀ l, Loc (Ev.chkG P l) := by
  intro l
  induction l with
  | nil => exact Loc.ret _
  | cons g l ih =>
    unfold Ev.chkG
    refine Loc.bind (Loc.rd _ _) fun u => ?_
    split
    · exact ih
    · exact Loc.fail
theorem Loc.evNat (f : FuncId) (k : Nat) (args : List Value) : Loc (Ev.evNat f k args) := by
  unfold Ev.evNat
  split
  · unfold Ev.evNat1
    split
    · unfold Ev.evIdx
      refine Loc.bind (Loc.rdN _ _ _) fun vs => ?_
      unfold Ev.idxIn
      split
      · exact Loc.ret _
      · exact Loc.fail
    · exact Loc.fail
  · unfold Ev.evNat2
    split
    · unfold Ev.evRep
      split
      · exact Loc.ret _
      · exact Loc.fail
    · exact Loc.fail
  · unfold Ev.evNat3
    split
    · exact Loc.lift _
    · exact Loc.fail
  · unfold Ev.evNat4
    split
    · exact Loc.lift _
    · refine Loc.bind (Loc.rdN _ _ _) fun vs => ?_
      split
      · exact Loc.lift _
      · exact Loc.fail
    · exact Loc.fail
  · exact Loc.fail
theorem Loc.evCall (P : Program) (bad : List FuncId) : ∀ (fuel : Nat) (f : FuncId) (args : Array Value), Loc (Ev.evCall P bad fuel f args) := by
  intro fuel
  induction fuel with
  | zero => intro f a; exact Loc.fail
  | succ fuel ih =>
    intro f args
    unfold Ev.evCall
    repeat' (first | exact Loc.ret _ | exact Loc.fail | exact Loc.chkG _ _ | exact Loc.evNat _ _ _ | exact Loc.evCode ih _ _ _ | exact Loc.evResults _ _ _ | refine Loc.inside ?_ | refine Loc.bind ?_ fun _ => ?_ | split)

end Go.Proofs.YtmjolmggelkjlaaGreat.Ev
/- What the evaluator's memory says of a world: the relation, and how single steps keep it. No program in sight. -/
namespace Go.Proofs.YtmjolmggelkjlaaGreat.Ev
set_option linter.unusedVariables false
set_option linter.unusedSimpArgs false
open Go Go.RowKit

theorem bind_some {α β : Type} {m : M α} {f : α → M β} {h : H} {n : Nat} {c : β} {h2 : H} {n2 : Nat} {L : List En} (hr : (m.bind f) h n = some ⟨c, h2, n2, L⟩) :
    ∃ a h1 n1 L1 L2, m h n = some ⟨a, h1, n1, L1⟩ ∧ f a h1 n1 = some ⟨c, h2, n2, L2⟩ ∧ L = L1 ++ L2 := by
  unfold M.bind at hr
  split at hr
  · rename_i a h1 n1 L1 e1
    split at hr
    · rename_i c' h2' n2' L2 e2
      simp only [Option.some.injEq, Out.mk.injEq] at hr
      obtain ⟨rfl, rfl, rfl, rfl⟩ := hr
      exact ⟨a, h1, n1, L1, L2, e1, e2, rfl⟩
    · cases hr
  · cases hr
theorem ret_some {α : Type} {a c : α} {h h2 : H} {n n2 : Nat} {L : List En} (hr : (M.ret a) h n = some ⟨c, h2, n2, L⟩) : c = a ∧ h2 = h ∧ n2 = n := by
  simp only [M.ret, Option.some.injEq, Out.mk.injEq] at hr
  exact ⟨hr.1.symm, hr.2.1.symm, hr.2.2.1.symm⟩
theorem lift_some {α : Type} {o : Option α} {c : α} {h h2 : H} {n n2 : Nat} {L : List En} (hr : (M.lift o) h n = some ⟨c, h2, n2, L⟩) : o = some c ∧ h2 = h ∧ n2 = n := by
  unfold M.lift at hr
  cases o with
  | none => cases hr
  | some a =>
    simp only [Option.some.injEq, Out.mk.injEq] at hr
    exact ⟨by rw [hr.1], hr.2.1.symm, hr.2.2.1.symm⟩

/-- where a block lies: the world's block, how far in it begins, how many cells that block has, an element's size -/
structure Ds where
  blk : Nat
  sh : Nat
  tot : Nat
  esz : Nat
  el : TypeId
abbrev Mp := Nat → Option Ds

mutual
inductive VR (m : Mp) : Value → Value → Prop
  | bool (b : Bool) : VR m (.bool b) (.bool b)
  | int (k : IntKind) (n : Int) : VR m (.int k n) (.int k n)
  | float (k : FloatKind) (n : Nat) : VR m (.float k n) (.float k n)
  | string (s : ByteArray) : VR m (.string s) (.string s)
  | pnil : VR m (.pointer none) (.pointer none)
  | ptr {b off : Nat} {d : Ds} (h : m b = some d) : VR m (.pointer (some ⟨b, off, none⟩)) (.pointer (some ⟨d.blk, d.sh + off, none⟩))
  | snil (n c : Nat) (hc : n ≤ c ∧ c < CAP) : VR m (.slice none n c) (.slice none n c)
  | slc {b off n cap cap' o' : Nat} {d : Ds} (h : m b = some d) (ho : 0 < n ∨ cap < CAP → o' = d.sh + off) (h1 : cap < CAP → cap' = cap) (h2 : CAP ≤ cap → CAP + n ≤ cap ∧ cap ≤ CAP + cap') (hn : n ≤ cap') (ht : o' + cap' * d.esz ≤ d.tot) :
      VR m (.slice (some ⟨b, off, none⟩) n cap) (.slice (some ⟨d.blk, o', none⟩) n cap')
  | semp (b off s : Nat) (a' : Addr) : VR m (.slice (some ⟨b, off, some s⟩) 0 0) (.slice (some a') 0 0)
  | func (fn : Fn) {f c f' c' : Array Value} (h1 : VRs m f.toList f'.toList) (h2 : VRs m c.toList c'.toList) : VR m (.func fn f c) (.func fn f' c')
  | nilFunc : VR m .nilFunc .nilFunc
  | agg {cs cs' : Array Value} (h : VRs m cs.toList cs'.toList) : VR m (.agg cs) (.agg cs')
  | tuple {cs cs' : Array Value} (h : VRs m cs.toList cs'.toList) : VR m (.tuple cs) (.tuple cs')
inductive VRs (m : Mp) : List Value → List Value → Prop
  | nil : VRs m [] []
  | cons {v v' : Value} {l l' : List Value} (h : VR m v v') (t : VRs m l l') : VRs m (v :: l) (v' :: l')
end

def Le (m m' : Mp) : Prop := ∀ b d, m b = some d → m' b = some d
theorem Le.refl (m : Mp) : Le m m := fun _ _ h => h
theorem Le.trans {a b c : Mp} (h : Le a b) (k : Le b c) : Le a c := fun x d e => k x d (h x d e)
mutual
theorem VR.mono {m m' : Mp} (hl : Le m m') : ∀ {v v' : Value}, VR m v v' → VR m' v v'
  | _, _, .bool b => .bool b
  | _, _, .int k n => .int k n
  | _, _, .float k n => .float k n
  | _, _, .string s => .string s
  | _, _, .pnil => .pnil
  | _, _, .ptr h => .ptr (hl _ _ h)
  | _, _, .snil n c hc => .snil n c hc
  | _, _, .slc h ho h1 h2 hn ht => .slc (hl _ _ h) ho h1 h2 hn ht
  | _, _, .semp b off s a' => .semp b off s a'
  | _, _, .func fn h1 h2 => .func fn (VRs.mono hl h1) (VRs.mono hl h2)
  | _, _, .nilFunc => .nilFunc
  | _, _, .agg h => .agg (VRs.mono hl h)
  | _, _, .tuple h => .tuple (VRs.mono hl h)
theorem VRs.mono {m m' : Mp} (hl : Le m m') : ∀ {l l' : List Value}, VRs m l l' → VRs m' l l'
  | _, _, .nil => .nil
  | _, _, .cons h t => .cons (VR.mono hl h) (VRs.mono hl t)
end
theorem VRs.length {m : Mp} : ∀ {l l' : List Value}, VRs m l l' → l.length = l'.length
  | _, _, .nil => rfl
  | _, _, .cons _ t => by simp [VRs.length t]
theorem VRs.get {m : Mp} : ∀ {l l' : List Value}, VRs m l l' → ∀ (k : Nat) (v : Value), l[k]? = some v → ∃ v', l'[k]? = some v' ∧ VR m v v'
  | _, _, .nil, k, v, h => by simp at h
  | _, _, .cons h t, k, v, hk => by
    cases k with
    | zero => simp at hk; subst hk; exact ⟨_, rfl, h⟩
    | succ k => simp at hk; simpa using VRs.get t k v hk
theorem VRs.of_get {m : Mp} : ∀ {l l' : List Value}, l.length = l'.length → (∀ (k : Nat) (v : Value), l[k]? = some v → ∃ v', l'[k]? = some v' ∧ VR m v v') → VRs m l l'
  | [], [], _, _ => .nil
  | v :: l, v' :: l', hl, h => by
    obtain ⟨u, hu, hr⟩ := h 0 v rfl
    simp at hu; subst hu
    exact .cons hr (VRs.of_get (by simpa using hl) fun k x hk => by simpa using h (k + 1) x (by simpa using hk))
theorem VRs.append {m : Mp} : ∀ {a a' b b' : List Value}, VRs m a a' → VRs m b b' → VRs m (a ++ b) (a' ++ b')
  | _, _, _, _, .nil, k => k
  | _, _, _, _, .cons h t, k => .cons h (VRs.append t k)
theorem VRs.set {m : Mp} : ∀ {a a' : List Value} (k : Nat) {v v' : Value}, VRs m a a' → VR m v v' → VRs m (a.set k v) (a'.set k v')
  | _, _, _, _, _, .nil, _ => .nil
  | _, _, 0, _, _, .cons _ t, h => .cons h t
  | _, _, k + 1, _, _, .cons u t, h => .cons u (VRs.set k t h)
theorem VRs.map {m : Mp} {α : Type} {f g : α → Value} : ∀ (l : List α), (∀ x, VR m (f x) (g x)) → VRs m (l.map f) (l.map g)
  | [], _ => .nil
  | x :: l, h => .cons (h x) (VRs.map l h)
theorem VR.scalar {m : Mp} {v v' : Value} (h : VR m v v') (hs : Ev.scalar v = true) : v' = v := by
  cases h <;> first | rfl | cases hs
theorem VR.self {m : Mp} {v : Value} (hs : Ev.scalar v = true) : VR m v v := by
  cases v <;> first | exact .bool _ | exact .int _ _ | exact .string _ | cases hs
theorem VR.one {m : Mp} {v v' : Value} (h : VR m v v') : Ev.one v' = Ev.one v := by cases h <;> rfl
theorem VR.cells {m : Mp} {v v' : Value} (h : VR m v v') : VRs m v.cells.toList v'.cells.toList := by
  cases h with
  | agg h => exact h
  | bool b => exact .cons (.bool b) .nil
  | int k n => exact .cons (.int k n) .nil
  | float k n => exact .cons (.float k n) .nil
  | string s => exact .cons (.string s) .nil
  | pnil => exact .cons .pnil .nil
  | ptr h => exact .cons (.ptr h) .nil
  | snil n c hc => exact .cons (.snil n c hc) .nil
  | slc h ho h1 h2 hn ht => exact .cons (.slc h ho h1 h2 hn ht) .nil
  | semp b off s a' => exact .cons (.semp b off s a') .nil
  | func fn h1 h2 => exact .cons (.func fn h1 h2) .nil
  | nilFunc => exact .cons .nilFunc .nil
  | tuple h => exact .cons (.tuple h) .nil
theorem VR.undef {m : Mp} : VR m Go.undef Go.undef := .tuple .nil
theorem VR.cells_size {m : Mp} {v v' : Value} (h : VR m v v') : v.cells.size = v'.cells.size := by
  have := h.cells.length
  simpa using this

/-- the evaluator's memory and the world's -/
structure WR (P : Program) (m : Mp) (base : Nat) (h : H) (hp : Array Obj) : Prop where
  live : ∀ b B, h.get b = some B → ∃ d cs lo hi, m b = some d ∧ hp[d.blk]? = some (.cells cs d.el (lo, hi)) ∧ cs.size = d.tot ∧ d.sh + B.cells.length ≤ d.tot ∧
    size? P B.elem = some d.esz ∧ (B.own = true → d.el = B.elem ∧ base ≤ d.blk ∧ ∀ k, k < d.tot → ¬ (lo ≤ k ∧ k < hi)) ∧ ∀ k v, B.cells[k]? = some v → ∃ v', cs[d.sh + k]? = some v' ∧ VR m v v'
  inj : ∀ b b' B B' d d', h.get b = some B → h.get b' = some B' → (B.own = true ∨ B'.own = true) → m b = some d → m b' = some d' → d.blk = d'.blk → b = b'

theorem WR.of_get {P : Program} {m : Mp} {base : Nat} {h h' : H} {hp : Array Obj} (x : WR P m base h hp) (e : ∀ b, h'.get b = h.get b) : WR P m base h' hp :=
  ⟨fun b B hb => x.live b B (by rw [← e]; exact hb), fun b b' B B' d d' hb hb' => x.inj b b' B B' d d' (by rw [← e]; exact hb) (by rw [← e]; exact hb')⟩
theorem WR.lt {P : Program} {m : Mp} {base : Nat} {h : H} {hp : Array Obj} (x : WR P m base h hp) {b : Nat} {B : AB} (hb : h.get b = some B) : ∃ d, m b = some d ∧ d.blk < hp.size := by
  obtain ⟨d, cs, lo, hi, hm, hg, _⟩ := x.live b B hb
  exact ⟨d, hm, (Array.getElem?_eq_some_iff.1 hg).1⟩

/-- what a part leaves behind -/
structure Post (P : Program) (m : Mp) (base n n1 : Nat) (w : World) (h1 : H) (m' : Mp) (w' : World) : Prop where
  le : Le m m'
  out : ∀ b, ¬ (n ≤ b ∧ b < n1) → m' b = m b
  wr : WR P m' base h1 w'.heap
  below : Below base w w'
theorem Post.refl {P : Program} {m : Mp} {base n : Nat} {w : World} {h : H} (x : WR P m base h w.heap) : Post P m base n n w h m w :=
  ⟨Le.refl _, fun _ _ => rfl, x, Below.refl _ _⟩
theorem Post.trans {P : Program} {m m' m'' : Mp} {base n n1 n2 : Nat} {w w' w'' : World} {h1 h2 : H} (h01 : n ≤ n1) (h12 : n1 ≤ n2) (x : Post P m base n n1 w h1 m' w') (y : Post P m' base n1 n2 w' h2 m'' w'') : Post P m base n n2 w h2 m'' w'' :=
  ⟨x.le.trans y.le, fun b hb => (y.out b (by omega)).trans (x.out b (by omega)), y.wr, x.below.trans y.below⟩
def Fresh (m : Mp) (n n1 : Nat) : Prop := ∀ b, n ≤ b → b < n1 → m b = none
theorem Fresh.after {P : Program} {m m' : Mp} {base n n1 n2 : Nat} {w w' : World} {h1 : H} (f : Fresh m n n2) (hn : n ≤ n1) (x : Post P m base n n1 w h1 m' w') : Fresh m' n1 n2 :=
  fun b h1 h2 => by rw [x.out b (by omega)]; exact f b (by omega) h2
theorem Fresh.first {m : Mp} {n n1 n2 : Nat} (f : Fresh m n n2) (h : n1 ≤ n2) : Fresh m n n1 := fun b h1 h2 => f b h1 (by omega)

theorem add0 (b o i : Nat) : (⟨b, o, none⟩ : Addr).add i = ⟨b, o + i, none⟩ := by
  unfold Addr.add
  split
  · rename_i h; subst h; rfl
  · rfl
theorem cell_eq (w : World) (c o : Nat) {cs : Array Value} {e : TypeId} {f : Nat × Nat} (h : w.heap[c]? = some (.cells cs e f)) : w.cell? ⟨c, o, none⟩ = cs[o]? := by
  unfold World.cell?
  simp [h]

/-- reading -/
theorem rd_at {P : Program} {m : Mp} {base : Nat} {h h1 : H} {w : World} {b k n n1 : Nat} {v : Value} {L : List En} (x : WR P m base h w.heap) (hr : rd b k h n = some ⟨v, h1, n1, L⟩) :
    h1 = h ∧ n1 = n ∧ ∃ d v', m b = some d ∧ w.cell? ⟨d.blk, d.sh + k, none⟩ = some v' ∧ VR m v v' := by
  unfold rd at hr
  split at hr
  · split at hr
    · rename_i B hB
      split at hr
      · rename_i u hu
        simp only [Option.some.injEq, Out.mk.injEq] at hr
        obtain ⟨rfl, rfl, rfl, _⟩ := hr
        obtain ⟨d, cs, lo, hi, hm, hg, _, _, _, _, hc⟩ := x.live b B hB
        obtain ⟨v', hv', hr⟩ := hc k u hu
        exact ⟨rfl, rfl, d, v', hm, by rw [cell_eq w _ _ hg]; exact hv', hr⟩
      · cases hr
    · cases hr
  · cases hr
theorem rdN_at {P : Program} {m : Mp} {base : Nat} {h : H} {w : World} {b n : Nat} (x : WR P m base h w.heap) {d : Ds} (hd : m b = some d) : ∀ {c k n1 : Nat} {vs : List Value} {h1 : H} {L : List En}, rdN b k c h n = some ⟨vs, h1, n1, L⟩ →
    h1 = h ∧ n1 = n ∧ vs.length = c ∧ ∃ vs', VRs m vs vs' ∧ ∀ j v, vs'[j]? = some v → w.cell? ⟨d.blk, d.sh + k + j, none⟩ = some v := by
  intro c
  induction c with
  | zero =>
    intro k n1 vs h1 L hr
    simp only [rdN, M.ret, Option.some.injEq, Out.mk.injEq] at hr
    obtain ⟨rfl, rfl, rfl, _⟩ := hr
    exact ⟨rfl, rfl, rfl, [], .nil, fun j v hv => by simp at hv⟩
  | succ c ih =>
    intro k n1 vs h1 L hr
    obtain ⟨v, h2, n2, L1, L2, e2, e3, _⟩ := bind_some (m := rd b k) hr
    obtain ⟨rfl, rfl, d', v', hd', hc, hv⟩ := rd_at x e2
    rw [hd] at hd'
    cases hd'
    obtain ⟨ws, h4, n4, L3, L4, e4, e5, _⟩ := bind_some (m := rdN b (k + 1) c) e3
    obtain ⟨rfl, rfl, hl, vs', hvs, hcs⟩ := ih e4
    obtain ⟨rfl, rfl, rfl⟩ := ret_some e5
    refine ⟨rfl, rfl, by simp [hl], v' :: vs', .cons hv hvs, fun j u hu => ?_⟩
    cases j with
    | zero => simp at hu; subst hu; exact hc
    | succ j =>
      have := hcs j u (by simpa using hu)
      rw [show d.sh + k + (j + 1) = d.sh + (k + 1) + j by omega]
      exact this
theorem run_loadCells_of {P : Program} {w : World} {c o : Nat} {vs : List Value} (h : ∀ j v, vs[j]? = some v → w.cell? ⟨c, o + j, none⟩ = some v) : (loadCells ⟨c, o, none⟩ vs.length).run P w = .ok vs.toArray w := by
  have := run_loadCells_list (P := P) (w := w) ⟨c, o, none⟩ vs (fun j v hv => by rw [add0]; exact h j v hv)
  simpa using this

theorem hdr_at {P : Program} {m : Mp} {base : Nat} {h h1 : H} {w : World} {b n n1 : Nat} {e : TypeId} {L : List En} (x : WR P m base h w.heap) (hr : hdr b h n = some ⟨e, h1, n1, L⟩) :
    h1 = h ∧ n1 = n ∧ ∃ d, m b = some d ∧ size? P e = some d.esz ∧ ∃ B, h.get b = some B ∧ B.elem = e := by
  unfold hdr at hr
  split at hr
  · split at hr
    · rename_i B hB
      simp only [Option.some.injEq, Out.mk.injEq] at hr
      obtain ⟨rfl, rfl, rfl, _⟩ := hr
      obtain ⟨d, cs, lo, hi, hm, _, _, _, hs, _⟩ := x.live b B hB
      exact ⟨rfl, rfl, d, hm, hs, B, hB, rfl⟩
    · cases hr
  · cases hr
/-- writing one cell -/
theorem getElem?_modify_ne {α : Type} (a : Array α) (f : α → α) {i j : Nat} (h : i ≠ j) : (a.modify i f)[j]? = a[j]? := by
  rw [Array.getElem?_modify, if_neg h]
theorem wr_at {P : Program} {m : Mp} {base : Nat} {h h1 : H} {w : World} {b k n n1 : Nat} {v v' : Value} {L : List En} (x : WR P m base h w.heap) (hr : wr b k v h n = some ⟨(), h1, n1, L⟩) (hv : VR m v v') {d : Ds} (hd : m b = some d) :
    n1 = n ∧ (w.cell? ⟨d.blk, d.sh + k, none⟩).isSome = true ∧ w.frozen? ⟨d.blk, d.sh + k, none⟩ = false ∧ Ev.one v' = true ∧ base ≤ d.blk ∧ WR P m base h1 (w.setCell ⟨d.blk, d.sh + k, none⟩ v').heap := by
  unfold wr at hr
  split at hr
  · split at hr
    · rename_i B hB
      split at hr
      · rename_i hc
        simp only [Bool.and_eq_true, decide_eq_true_eq] at hc
        obtain ⟨⟨hown, hk⟩, hone⟩ := hc
        simp only [Option.some.injEq, Out.mk.injEq] at hr
        obtain ⟨_, rfl, rfl, _⟩ := hr
        obtain ⟨d0, cs, lo, hi, hm, hg, hsz, hlen, hesz, ho, hc⟩ := x.live b B hB
        rw [hd] at hm; cases hm
        obtain ⟨hel, hbase, hfr⟩ := ho hown
        have hlt : d.sh + k < cs.size := by omega
        have hset : (w.setCell ⟨d.blk, d.sh + k, none⟩ v').heap[d.blk]? = some (.cells (cs.setIfInBounds (d.sh + k) v') d.el (lo, hi)) := by
          simp only [World.setCell, Array.getElem?_modify, if_true, hg]
          simp
        refine ⟨rfl, by rw [cell_eq w _ _ hg]; simp [hlt], ?_, by rw [hv.one]; exact hone, hbase, ?_⟩
        · unfold World.frozen?
          simp only [hg]
          have := hfr (d.sh + k) (by omega)
          simp only [Bool.and_eq_false_iff, decide_eq_false_iff_not]
          omega
        · constructor
          · intro b2 B2 hb2
            rw [set_cell hB v b2 0] at hb2
            by_cases e : b2 = b
            · subst e
              rw [if_pos rfl] at hb2
              cases hb2
              refine ⟨d, _, lo, hi, hd, hset, by simpa using hsz, by simpa using hlen, hesz, fun _ => ⟨hel, hbase, hfr⟩, fun j u hu => ?_⟩
              by_cases e2 : k = j
              · subst e2
                simp [hk] at hu
                subst hu
                exact ⟨v', by simp [hlt], hv⟩
              · rw [List.getElem?_set_ne e2] at hu
                obtain ⟨u', hu', hr⟩ := hc j u hu
                exact ⟨u', by rw [Array.getElem?_setIfInBounds_ne (by omega)]; exact hu', hr⟩
            · rw [if_neg e] at hb2
              obtain ⟨d2, cs2, lo2, hi2, hm2, hg2, r⟩ := x.live b2 B2 hb2
              have hne : d.blk ≠ d2.blk := fun e3 => e (x.inj b2 b B2 B d2 d hb2 hB (.inr hown) hm2 hd e3.symm)
              refine ⟨d2, cs2, lo2, hi2, hm2, ?_, r⟩
              rw [Below.heap_setCell w _ _ _ (Ne.symm hne)]
              exact hg2
          · intro b2 b3 B2 B3 d2 d3 hb2 hb3 hoo
            have key : ∀ c C, (h.set b (some { B with cells := B.cells.set k v })).get c = some C → ∃ C', h.get c = some C' ∧ C'.own = C.own := by
              intro c C hcC
              rw [set_cell hB v c 0] at hcC
              by_cases e : c = b
              · subst e
                rw [if_pos rfl] at hcC
                cases hcC
                exact ⟨B, hB, rfl⟩
              · rw [if_neg e] at hcC; exact ⟨C, hcC, rfl⟩
            obtain ⟨C2, h2, g2⟩ := key b2 B2 hb2
            obtain ⟨C3, h3, g3⟩ := key b3 B3 hb3
            exact x.inj b2 b3 C2 C3 d2 d3 h2 h3 (by rw [g2, g3]; exact hoo)
      · cases hr
    · cases hr
  · cases hr
theorem run_store_one {P : Program} {α : Type} {w : World} {p : Addr} {v : Value} {k : Sem α} (h1 : (w.cell? p).isSome = true) (h2 : w.frozen? p = false) (h3 : Ev.one v = true) : (Sem.store .plain p v k).run P w = k.run P (w.setCell p v) := by
  obtain ⟨u, hu⟩ := Option.isSome_iff_exists.1 h1
  cases v <;> first | (simp [Ev.one] at h3; done) | simp [Sem.run, hu, h2]
theorem wrN_at {P : Program} {m : Mp} {base : Nat} {b : Nat} {d : Ds} (hd : m b = some d) : ∀ {vs vs' : List Value} (_ : VRs m vs vs') {k i n n1 : Nat} {h h1 : H} {w : World} {L : List En} (o : Nat), o + i = d.sh + k → WR P m base h w.heap → wrN b k vs h n = some ⟨(), h1, n1, L⟩ →
    n1 = n ∧ ∃ w', (storeCells ⟨d.blk, o, none⟩ vs' i).run P w = .ok () w' ∧ WR P m base h1 w'.heap ∧ Below base w w' := by
  intro vs vs' hvs
  induction hvs using VRs.rec (motive_1 := fun _ _ _ => True) with
  | nil =>
    intro k i n n1 h h1 w L o _ x hr
    simp only [wrN, M.ret, Option.some.injEq, Out.mk.injEq] at hr
    obtain ⟨_, rfl, rfl, _⟩ := hr
    exact ⟨rfl, w, rfl, x, Below.refl _ _⟩
  | cons hv _ _ ih =>
    intro k i n n1 h h1 w L o ho x hr
    obtain ⟨u, h2, n2, L1, L2, e2, e3, _⟩ := bind_some (m := wr b k _) hr
    cases u
    obtain ⟨rfl, c1, c2, c3, hb, x2⟩ := wr_at x e2 hv hd
    obtain ⟨rfl, w', hw', x3, hbl⟩ := ih (i := i + 1) o (by omega) x2 e3
    refine ⟨rfl, w', ?_, x3, ((Below.refl base w).setCell (p := ⟨d.blk, d.sh + k, none⟩) hb _).trans hbl⟩
    unfold storeCells
    rw [add0, ho]
    show (Sem.bind (store _ _) _).run P w = _
    unfold store
    simp only [Sem.bind]
    rw [run_store_one c1 c2 c3]
    exact hw'
  | _ => trivial

/-- a new block -/
theorem newB_at {P : Program} {m : Mp} {base : Nat} {h h1 : H} {w : World} {n n1 r : Nat} {e : TypeId} {cs : List Value} {L : List En} (x : WR P m base h w.heap) (hr : newB e cs h n = some ⟨r, h1, n1, L⟩) (hf : Fresh m n n1) (hbase : base ≤ w.heap.size)
    {cs' : Array Value} (hlen : cs.length ≤ cs'.size) (hcs : ∀ (k : Nat) (v : Value), cs[k]? = some v → ∃ v', cs'[k]? = some v' ∧ VR m v v') {esz : Nat} (he : size? P e = some esz) :
    r = n ∧ n1 = n + 1 ∧ ∃ m', m' n = some ⟨w.heap.size, 0, cs'.size, esz, e⟩ ∧ Post P m base n n1 w h1 m' (w.alloc (.cells cs' e)) := by
  unfold newB at hr
  split at hr
  · rename_i hn
    simp only [Option.some.injEq, Out.mk.injEq] at hr
    obtain ⟨rfl, rfl, rfl, _⟩ := hr
    have hn0 : m n = none := hf n (Nat.le_refl _) (by omega)
    have hle : Le m (fun b => if b = n then some ⟨w.heap.size, 0, cs'.size, esz, e⟩ else m b) := by
      intro b d hb
      by_cases e : b = n
      · subst e; rw [hn0] at hb; cases hb
      · simp [e, hb]
    refine ⟨rfl, rfl, fun b => if b = n then some ⟨w.heap.size, 0, cs'.size, esz, e⟩ else m b, by simp, hle, fun b hb => by rw [if_neg (by omega)], ?_, (Below.refl _ _).alloc hbase _⟩
    constructor
    · intro b B hb
      rw [H.get_set _ _] at hb
      by_cases eb : b = n
      · subst eb
        rw [if_pos rfl] at hb
        cases hb
        refine ⟨_, cs', 0, 0, if_pos rfl, ?_, rfl, by simpa using hlen, he, fun _ => ⟨rfl, hbase, fun k _ => by omega⟩, fun k v hk => ?_⟩
        · exact heap_alloc_new w _
        · obtain ⟨v', hv', hr⟩ := hcs k v hk
          exact ⟨v', by simpa using hv', hr.mono hle⟩
      · rw [if_neg eb] at hb
        obtain ⟨d, cs2, lo, hi, hm, hg, h1, h2, hsz, h3, h4⟩ := x.live b B hb
        refine ⟨d, cs2, lo, hi, by simp [eb, hm], ?_, h1, h2, hsz, h3, fun k v hk => ?_⟩
        · rw [Below.heap_alloc w _ _ (Array.getElem?_eq_some_iff.1 hg).1]; exact hg
        · obtain ⟨v', hv', hr⟩ := h4 k v hk
          exact ⟨v', hv', hr.mono hle⟩
    · intro b b' B B' d d' hb hb' hoo hm hm' he
      rw [H.get_set _ _] at hb hb'
      by_cases eb : b = n
      · by_cases eb' : b' = n
        · rw [eb, eb']
        · rw [if_neg eb'] at hb' hm'
          rw [if_pos eb] at hm
          obtain ⟨d2, h2, hlt⟩ := x.lt hb'
          rw [hm'] at h2
          cases h2; cases hm
          simp at he
          omega
      · rw [if_neg eb] at hb hm
        by_cases eb' : b' = n
        · rw [if_pos eb'] at hm'
          obtain ⟨d2, h2, hlt⟩ := x.lt hb
          rw [hm] at h2
          cases h2; cases hm'
          simp at he
          omega
        · rw [if_neg eb'] at hb' hm'
          exact x.inj b b' B B' d d' hb hb' hoo hm hm' he
  · cases hr
/-- a block is given up -/
theorem WR.kill {P : Program} {m : Mp} {base : Nat} {h : H} {hp : Array Obj} (x : WR P m base h hp) {b : Nat} {B : AB} (hB : h.get b = some B) : WR P m base (h.set b none) hp := by
  have key : ∀ c C, (h.set b none).get c = some C → c ≠ b ∧ h.get c = some C := by
    intro c C hc
    rw [H.get_set _ _] at hc
    by_cases e : c = b
    · rw [if_pos e] at hc; cases hc
    · rw [if_neg e] at hc; exact ⟨e, hc⟩
  exact ⟨fun c C hc => x.live c C (key c C hc).2, fun c c' C C' d d' hc hc' => x.inj c c' C C' d d' (key c C hc).2 (key c' C' hc').2⟩

end Go.Proofs.YtmjolmggelkjlaaGreat.Ev
/- Operations in any order: what the evaluator finds in one order holds in each. No program in sight. -/
namespace Go.Proofs.YtmjolmggelkjlaaGreat.Ev
set_option linter.unusedVariables false
set_option linter.unusedSimpArgs false
open Go Go.RowKit

def Gl (P : Program) (m : Mp) : Prop := ∀ g, g < P.globals.size → ∃ d, m g = some d ∧ d.blk = g ∧ d.sh = 0
theorem Gl.mono {P : Program} {m m' : Mp} (g : Gl P m) (h : Le m m') : Gl P m' := fun i hi => let ⟨d, h1, h2⟩ := g i hi; ⟨d, h _ _ h1, h2⟩
structure SR (m : Mp) (nt : Nat) (s : S) (a : Act) : Prop where
  df : a.defers = []
  sz : a.tmps.size = nt
  at_ : ∀ t, VR m (s.get t) (a.tmps.getD t undef)
theorem SR.mono {m m' : Mp} {nt : Nat} {s : S} {a : Act} (x : SR m nt s a) (h : Le m m') : SR m' nt s a := ⟨x.df, x.sz, fun t => (x.at_ t).mono h⟩

theorem VR.clean1 {m : Mp} {v : Value} (h : Ev.clean1 v = true) : VR m v v := by
  unfold Ev.clean1 at h
  split at h
  · exact .bool _
  · exact .int _ _
  · exact .float _ _
  · exact .string _
  · exact .pnil
  · exact .nilFunc
  · exact .snil _ _ (by simpa using h)
  · cases h
theorem VRs.clean {m : Mp} : ∀ {l : List Value}, (∀ v ∈ l, Ev.clean1 v = true) → VRs m l l
  | [], _ => .nil
  | v :: l, h => .cons (VR.clean1 (h v (by simp))) (VRs.clean fun u hu => h u (by simp [hu]))
theorem VR.clean {m : Mp} {v : Value} (h : Ev.clean v = true) : VR m v v := by
  unfold Ev.clean at h
  split at h
  · exact .agg (VRs.clean fun u hu => by rw [Array.all_eq_true_iff_forall_mem] at h; exact h u (Array.mem_toList_iff.1 hu))
  · exact .tuple (VRs.clean fun u hu => by rw [Array.all_eq_true_iff_forall_mem] at h; exact h u (Array.mem_toList_iff.1 hu))
  · exact VR.clean1 h
theorem ev_at {P : Program} {m : Mp} {nt : Nat} {s : S} {a : Act} (g : Gl P m) (x : SR m nt s a) {y : Operand} (h : okOperand P y = true) : VR m (ev s y) (a.eval y) := by
  cases y with
  | tmp t => exact x.at_ t
  | const v => exact VR.clean h
  | global i =>
    obtain ⟨d, h1, h2, h3⟩ := g i (by simpa [okOperand] using h)
    have := VR.ptr (m := m) (off := 0) h1
    rw [h2, h3] at this
    exact this
  | func f => exact .func _ .nil .nil

theorem yields_eq {m : Mp} {nt : Nat} {s : S} {a : Act} (x : SR m nt s a) (ops : Array Oper) (j : Nat) : yields ops s j = yielded ops a.tmps j := by
  unfold yields yielded
  cases ho : (ops[j]?).bind (·.dst) with
  | none => rfl
  | some t =>
    have hr := x.at_ t
    simp only [Option.bind_some]
    rw [Array.getD_eq_getD_getElem?] at hr
    cases hg : a.tmps[t]? with
    | none =>
      rw [hg] at hr
      generalize s.get t = v at hr
      cases hr; rfl
    | some u =>
      rw [hg] at hr
      simp only [Option.getD_some] at hr
      generalize s.get t = v at hr
      cases hr <;> rfl
theorem S.get_put (s : S) (d : Nat) (v : Value) (t : Nat) (hd : d < 1023) : (s.put d v).get t = if t = d then v else s.get t := by
  unfold S.get S.put
  rw [Tr.get_set 10 s d (some v) t (by omega)]
  split <;> rfl
theorem putS_at {m : Mp} {nt : Nat} {s s1 : S} {a : Act} {dst : Option Tmp} {v v' : Value} (x : SR m nt s a) (hv : VR m v v') (h : putS nt s dst v = some s1) : SR m nt s1 (a.put dst v') := by
  unfold putS at h
  cases dst with
  | none => cases h; exact x
  | some d =>
    simp only at h
    split at h
    · rename_i hc
      simp only [Bool.and_eq_true, decide_eq_true_eq] at hc
      cases h
      refine ⟨x.df, by simp [Act.put, x.sz], fun t => ?_⟩
      rw [S.get_put _ _ _ _ hc.2]
      simp only [Act.put]
      by_cases e : t = d
      · subst e
        rw [if_pos rfl]
        have : t < a.tmps.size := by rw [x.sz]; exact hc.1
        simpa [this] using hv
      · rw [if_neg e]
        have := x.at_ t
        simpa [Array.getElem?_setIfInBounds_ne (Ne.symm e), Array.getD_eq_getD_getElem?] using this
    · cases h

inductive NR (m : Mp) : Nx → Next → Prop
  | val {v v' : Value} (h : VR m v v') : NR m (.val v) (.value v')
  | skip : NR m (.val undef) .skip
  | call {f : FuncId} {args args' : Array Value} (h : VRs m args.toList args'.toList) : NR m (.call f args) (.enter f args')
def OpSim (P : Program) (base : Nat) : Prop := ∀ (ρ ρ' : Operand → Value) (o : Oper) (h : H) (n : Nat) (r : Nx) (h1 : H) (n1 : Nat) (L : List En) (m : Mp) (w : World),
  evOp P ρ o h n = some ⟨r, h1, n1, L⟩ → (∀ y ∈ o.op.operands, VR m (ρ y) (ρ' y)) → WR P m base h w.heap → base ≤ w.heap.size → Fresh m n n1 →
  ∃ m' w' R, (execOp ρ' o).run P w = .ok R w' ∧ Post P m base n n1 w h1 m' w' ∧ NR m' r R
def CallSim (P : Program) (base : Nat) (rec : FuncId → Array Value → M Value) : Prop := ∀ (f : FuncId) (args : Array Value) (h : H) (n : Nat) (v : Value) (h1 : H) (n1 : Nat) (L : List En) (m : Mp) (w : World) (args' : Array Value),
  rec f args h n = some ⟨v, h1, n1, L⟩ → WR P m base h w.heap → base ≤ w.heap.size → VRs m args.toList args'.toList → Fresh m n n1 → Gl P m →
  Calls P f args' w fun e w' => ∃ m' v', e = .returned v' ∧ Post P m base n n1 w h1 m' w' ∧ VR m' v v'

section
variable {P : Program} {base : Nat} {rec : FuncId → Array Value → M Value} {nt : Nat} {ops : Array Oper} {Q : Exit → Act → World → Prop}
theorem Below.le {B : Nat} {w w' : World} (b : Below B w w') (h : B ≤ w.heap.size) : B ≤ w'.heap.size := Nat.le_trans h b.size
theorem evVal_sim (hop : OpSim P base) (hrec : CallSim P base rec) (hrl : ∀ f a, Loc (rec f a)) {i : Nat} {o : Oper} (hi : ops[i]? = some o) (hok : okOper P o = true) {m : Mp} {s : S} {a : Act} {w : World} {h h1 : H} {n n1 : Nat} {L : List En} {v : Value}
    (x : WR P m base h w.heap) (hb : base ≤ w.heap.size) (g : Gl P m) (hs : SR m nt s a) (hr : evVal P rec ops o s h n = some ⟨v, h1, n1, L⟩) (hf : Fresh m n n1) {K : Act → World → Prop}
    (hK : ∀ m' w' v', Post P m base n n1 w h1 m' w' → VR m' v v' → K (a.put o.dst v') w') : wpOp P ops Q i K a w := by
  have hw : Region.wanted o (yields ops s) = Region.wanted o (yielded ops a.tmps) := by
    congr 1; funext j; exact yields_eq hs ops j
  unfold wpOp
  simp only [hi]
  unfold evVal at hr
  rw [hw] at hr
  by_cases hwt : Region.wanted o (yielded ops a.tmps) = true
  · rw [if_pos hwt] at hr ⊢
    obtain ⟨r, h2, n2, L1, L2, e1, e2, rfl⟩ := bind_some hr
    have A := Loc.evOp P (ev s) o h n r h2 n2 L1 e1
    have hn2 : n2 ≤ n1 := by
      cases r with
      | val u => obtain ⟨_, _, e⟩ := ret_some e2; omega
      | call f args => exact (hrl f args _ _ _ _ _ _ e2).le
    obtain ⟨m', w', R, hrun, hpost, hnr⟩ := hop (ev s) a.eval o h n r h2 n2 L1 m w e1 (fun y hy => ev_at g hs (by
      unfold okOper at hok
      rw [Array.all_eq_true_iff_forall_mem] at hok
      exact hok y hy)) x hb (hf.first hn2)
    left
    unfold Oper.wp
    rw [hrun]
    cases hnr with
    | val hv =>
      obtain ⟨rfl, rfl, rfl⟩ := ret_some e2
      exact hK m' w' _ hpost hv
    | skip =>
      obtain ⟨rfl, rfl, rfl⟩ := ret_some e2
      exact hK m' w' _ hpost VR.undef
    | call hargs =>
      rename_i f args args'
      refine (hrec f args h2 n2 v h1 n1 L2 m' w' args' e2 hpost.wr (Below.le hpost.below hb) hargs (hf.after A.le hpost) (g.mono hpost.le)).mono ?_
      rintro e w'' ⟨m'', v', rfl, hp2, hv⟩
      exact hK m'' w'' v' (hpost.trans A.le hn2 hp2) hv
  · have hwf : Region.wanted o (yielded ops a.tmps) = false := by simpa using hwt
    rw [if_neg hwt] at hr ⊢
    obtain ⟨rfl, rfl, rfl⟩ := ret_some hr
    exact hK m w undef (Post.refl x) VR.undef

theorem all_congr {α : Type} {l : Array α} {f g : α → Bool} (h : ∀ x ∈ l, f x = g x) : l.all f = l.all g := by
  rw [Bool.eq_iff_iff, Array.all_eq_true_iff_forall_mem, Array.all_eq_true_iff_forall_mem]
  exact ⟨fun a x hx => by rw [← h x hx]; exact a x hx, fun a x hx => by rw [h x hx]; exact a x hx⟩
theorem evOp_congr {ρ ρ' : Operand → Value} (o : Oper) (h : ∀ x ∈ o.op.operands, ρ x = ρ' x) : evOp P ρ o = evOp P ρ' o := by
  by_cases hs : ∃ cs b, o.op = .select cs b
  · obtain ⟨cs, b, hs⟩ := hs
    unfold evOp
    rw [hs]
  have hex : execOp ρ o = execOp ρ' o := execOp_congr o (fun cs b hh => hs ⟨cs, b, hh⟩) h
  have hpl : evPlain P ρ o = evPlain P ρ' o := by
    unfold evPlain
    rw [hex, all_congr fun x hx => by rw [h x hx]]
  have pairs : ∀ ps : Array (Nat × Operand), (∀ x ∈ (ps.toList.map (·.2)).toArray, ρ x = ρ' x) → (ps.toList.map fun (i, x) => (i, ρ x)) = (ps.toList.map fun (i, x) => (i, ρ' x)) := fun ps hp =>
    List.map_congr_left fun p hm => by
      obtain ⟨i, x⟩ := p
      simp only [hp x (by simpa using ⟨i, by simpa using hm⟩)]
  unfold evOp
  cases hop : o.op <;> rw [hop] at h <;> simp only [Op.operands] at h <;> simp only
  case build t ps => rw [pairs ps h]
  case buildSlice t n ps => rw [pairs ps h]
  case makeFunc fn first captured =>
    rw [Array.map_congr_left (xs := first) fun x hx => h x (by simp [hx]), Array.map_congr_left (xs := captured) fun x hx => h x (by simp [hx])]
  case call c =>
    have hargs : c.args.map ρ = c.args.map ρ' := Array.map_congr_left fun x hx => h x (by simp [Call.operands, hx])
    rw [hargs]
    unfold evCallOp
    cases hc : c.callee with
    | value f => have hf : ρ f = ρ' f := h f (by simp [Call.operands, hc]); simp only [hf]
    | invoke r m => rfl
    | builtin b => cases b <;> simp only [hpl]
  case slice t x lo hi mx =>
    rw [hpl, h x (by simp)]
    cases lo <;> cases hi <;> cases mx <;> simp_all
  all_goals (first | rfl | (simp_all; done) | (rw [hpl]; simp_all; done))
theorem ev_congr {s s' : S} {y : Operand} (h : ∀ t, y = .tmp t → s.get t = s'.get t) : ev s y = ev s' y := by
  cases y with
  | tmp t => exact h t rfl
  | _ => rfl
theorem evVal_congr {o : Oper} {s s' : S} (h : ∀ t ∈ o.looksAt ops, s.get t = s'.get t) : evVal P rec ops o s = evVal P rec ops o s' := by
  have h1 : evOp P (ev s) o = evOp P (ev s') o := evOp_congr o fun x hx => ev_congr fun t ht => h t (by
    unfold Oper.looksAt
    exact List.mem_append_left _ (List.mem_filterMap.2 ⟨x, by simpa using hx, by rw [ht]⟩))
  have h2 : Region.wanted o (yields ops s) = Region.wanted o (yields ops s') := by
    unfold Region.wanted
    cases hg : o.guard with
    | none => rfl
    | some gw =>
      obtain ⟨g, want⟩ := gw
      have : yields ops s g = yields ops s' g := by
        unfold yields
        cases ht : (ops[g]?).bind (·.dst) with
        | none => rfl
        | some t => simp only [h t (by unfold Oper.looksAt; exact List.mem_append_right _ (by simp [hg, ht]))]
      simp only [this]
  unfold evVal
  rw [h1, h2]
end

structure Chain (P : Program) (rec : FuncId → Array Value → M Value) (nt : Nat) (ops : Array Oper) (l : List Oper) (s : Nat → S) (h : Nat → H) (n : Nat → Nat) (v : Nat → Value) (L : Nat → List En) : Prop where
  step : ∀ i o, l[i]? = some o → inside (evVal P rec ops o (s i)) (h i) (n i) = some ⟨v i, h (i + 1), n (i + 1), L i⟩
  put : ∀ i o, l[i]? = some o → putS nt (s i) o.dst (v i) = some (s (i + 1))
theorem evOpers_chain {P : Program} {rec : FuncId → Array Value → M Value} {nt : Nat} {ops : Array Oper} : ∀ (l : List Oper) (s0 : S) (h0 : H) (n0 : Nat) (y : S × List Tk) (h1 : H) (n1 : Nat) (L0 : List En),
    evOpers P rec nt ops l s0 h0 n0 = some ⟨y, h1, n1, L0⟩ → ∃ s h n v L, Chain P rec nt ops l s h n v L ∧ s 0 = s0 ∧ h 0 = h0 ∧ n 0 = n0 ∧ s l.length = y.1 ∧ h l.length = h1 ∧ n l.length = n1 ∧ y.2.length = l.length ∧ ∀ i, i < l.length → y.2[i]? = some ⟨n i, n (i + 1), L i⟩ := by
  intro l
  induction l with
  | nil =>
    intro s0 h0 n0 y h1 n1 L0 hr
    obtain ⟨rfl, rfl, rfl⟩ := ret_some hr
    exact ⟨fun _ => s0, fun _ => h1, fun _ => n1, fun _ => undef, fun _ => [], ⟨fun i o h => by simp at h, fun i o h => by simp at h⟩, rfl, rfl, rfl, rfl, rfl, rfl, rfl, fun i hi => by simp at hi⟩
  | cons o r ih =>
    intro s0 h0 n0 y h1 n1 L0 hr
    obtain ⟨x, h2, n2, L1, L2, e1, e2, _⟩ := bind_some (m := timed (inside (evVal P rec ops o s0))) hr
    unfold timed at e1
    split at e1
    · rename_i v0 h2' n2' Li ei
      simp only [Option.some.injEq, Out.mk.injEq] at e1
      obtain ⟨rfl, rfl, rfl, rfl⟩ := e1
      obtain ⟨s1, h3, n3, L3, L4, e3, e4, _⟩ := bind_some (m := M.lift _) e2
      obtain ⟨hput, rfl, rfl⟩ := lift_some e3
      obtain ⟨y2, h4, n4, L5, L6, e5, e6, _⟩ := bind_some (m := evOpers P rec nt ops r s1) e4
      obtain ⟨rfl, rfl, rfl⟩ := ret_some e6
      obtain ⟨s, h, n, v, L, C, a1, a2, a3, a4, a5, a6, a7, a8⟩ := ih _ _ _ _ _ _ _ e5
      refine ⟨fun i => if i = 0 then s0 else s (i - 1), fun i => if i = 0 then h0 else h (i - 1), fun i => if i = 0 then n0 else n (i - 1), fun i => if i = 0 then v0 else v (i - 1), fun i => if i = 0 then Li else L (i - 1), ⟨fun i o' ho => ?_, fun i o' ho => ?_⟩, rfl, rfl, rfl, by simpa using a4, by simpa using a5, by simpa using a6, by simp [a7], fun i hi => ?_⟩
      · cases i with
        | zero => simp at ho; subst ho; simpa [a2, a3] using ei
        | succ i => simpa using C.step i o' (by simpa using ho)
      · cases i with
        | zero => simp at ho; subst ho; simpa [a1] using hput
        | succ i => simpa using C.put i o' (by simpa using ho)
      · cases i with
        | zero => simp [a3]
        | succ i => simpa using a8 i (by simpa using hi)
    · cases e1
theorem inside_some {α : Type} {m : M α} {h h1 : H} {n n1 : Nat} {a : α} {L : List En} (hr : inside m h n = some ⟨a, h1, n1, L⟩) : ∃ L', m h n = some ⟨a, h1, n1, L'⟩ := by
  unfold inside at hr
  split at hr
  · rename_i a' h1' n1' L' e
    simp only [Option.some.injEq, Out.mk.injEq] at hr
    obtain ⟨rfl, rfl, rfl, _⟩ := hr
    exact ⟨L', e⟩
  · cases hr

section
variable {P : Program} {base : Nat} {rec : FuncId → Array Value → M Value} {nt : Nat} {ops : Array Oper} {Q : Exit → Act → World → Prop}
/-- in the text's order -/
theorem chain_sim (hop : OpSim P base) (hrec : CallSim P base rec) (hrl : ∀ f a, Loc (rec f a)) (hok : ∀ o ∈ ops, okOper P o = true) {s : Nat → S} {h : Nat → H} {n : Nat → Nat} {v : Nat → Value} {L : Nat → List En}
    (C : Chain P rec nt ops ops.toList s h n v L) {m0 : Mp} {w0 : World} (hf : Fresh m0 (n 0) (n ops.size)) (hmono : ∀ i, i < ops.size → n i ≤ n (i + 1)) (hb : base ≤ w0.heap.size) (g : Gl P m0) (R : Act → World → Prop)
    (hR : ∀ m' a' w', Post P m0 base (n 0) (n ops.size) w0 (h ops.size) m' w' → SR m' nt (s ops.size) a' → Q .normal a' w') :
    ∀ (k i : Nat), i + k = ops.size → ∀ (m : Mp) (a : Act) (w : World), Post P m0 base (n 0) (n i) w0 (h i) m w → SR m nt (s i) a → wpOps P ops Q (List.range' i k) a w := by
  have hm2 : ∀ i j, i ≤ j → j ≤ ops.size → n i ≤ n j := by
    intro i j hij
    induction hij with
    | refl => intro _; exact Nat.le_refl _
    | step hij ih => intro hj; exact Nat.le_trans (ih (by omega)) (hmono _ (by omega))
  intro k
  induction k with
  | zero =>
    intro i hik m a w hp hs
    have : i = ops.size := by omega
    subst this
    exact hR m a w hp hs
  | succ k ih =>
    intro i hik m a w hp hs
    have hi : i < ops.size := by omega
    rw [List.range'_succ, wpOps_cons]
    have hoi : ops[i]? = some ops[i] := by simp [hi]
    obtain ⟨L', hv⟩ := inside_some (C.step i ops[i] (by simp [hi]))
    have hput := C.put i ops[i] (by simp [hi])
    refine evVal_sim (nt := nt) hop hrec hrl hoi (hok _ (by simp)) hp.wr (Below.le hp.below hb) (g.mono hp.le) hs hv (fun b h1 h2 => ?_) fun m' w' v' hp2 hv' => ?_
    · have q1 := hm2 0 i (by omega) (by omega)
      have q2 := hm2 (i + 1) ops.size (by omega) (by omega)
      rw [hp.out b (by omega)]
      exact hf b (by omega) (by omega)
    · exact ih (i + 1) (by omega) m' _ w' (hp.trans (hm2 0 i (by omega) (by omega)) (hmono i hi) hp2) (putS_at (hs.mono hp2.le) hv' hput)
end

end Go.Proofs.YtmjolmggelkjlaaGreat.Ev
