/- Layer 47, plain: digits of a sum and of a number, a part as text, parts as text. No program in sight. -/
import Derived.WalkKit
namespace Go.Proofs.YtmjolmggelkjlaaGreat.Ip
set_option linter.unusedVariables false
set_option linter.unusedSimpArgs false
open Go

def digs : Nat → Nat → List Nat
  | 0, _ => []
  | k + 1, n => if n < 10 then [n] else digs k (n / 10) ++ [n % 10]
def numB (n : Int) : List Nat := (digs 19 n.toNat).map (48 + ·)
def hexD (x : Nat) : Nat := if x < 10 then 48 + x else 87 + x
def hexB (n : Nat) : List Nat := (List.range 8).map fun i => hexD (n / 16 ^ (7 - i) % 16)
def wordsB : List Nat → List Int → List Nat
  | s, [] => s
  | s, n :: l => wordsB (s ++ 32 :: numB n) l
/-- what a part is made of -/
structure Pt where
  what : Int
  level : Int
  frm : Int
  to_ : Int
  sum : Int
  orig : Int
  last : Int
  len : Int
def Pt.small (p : Pt) : Bool := decide (p.level < 0) || decide (p.frm < 0) || decide (p.to_ < 0) || decide (p.orig < 0) || decide (p.last < 0) || decide (p.len < 0)
def beginB : List Nat := [98, 101, 103, 105, 110]
def blockB : List Nat := [98, 108, 111, 99, 107, 32]
def endB : List Nat := [101, 110, 100, 32]
def lineB (p : Pt) : Option (List Nat) :=
  if p.small = true then none
  else if p.what = 1 then some (wordsB beginB [p.level, p.frm, p.to_])
  else if p.what = 2 then some (wordsB (blockB ++ hexB p.sum.toNat) [p.orig, p.last, p.len, p.frm, p.to_])
  else if p.what = 3 then some (wordsB (endB ++ hexB p.sum.toNat) [p.frm, p.to_])
  else none
def textB : List Pt → Option (List Nat)
  | [] => some []
  | p :: l => match lineB p, textB l with
    | some a, some b => some (a ++ 10 :: b)
    | _, _ => none
def stB (l : List Nat) : Value := .string ⟨(l.map UInt8.ofNat).toArray⟩
def ansB (o : Option (List Nat)) : Value := match o with
  | some l => .tuple #[stB l, .int .i64 0]
  | none => .tuple #[stB [], .int .i64 1]
/-- numbers as the machine has them -/
def i64ok (n : Int) : Bool := decide (-9223372036854775808 ≤ n) && decide (n ≤ 9223372036854775807)
def Pt.ok (p : Pt) : Bool := i64ok p.what && i64ok p.level && i64ok p.frm && i64ok p.to_ && decide (0 ≤ p.sum) && decide (p.sum < 4294967296) && i64ok p.orig && i64ok p.last && i64ok p.len
def Pt.cells (p : Pt) : List Value := [.int .i64 p.what, .int .i64 p.level, .int .i64 p.frm, .int .i64 p.to_, .int .u32 p.sum, .int .i64 p.orig, .int .i64 p.last, .int .i64 p.len]
def ptsOf : List Value → Option (List Pt)
  | [] => some []
  | .int .i64 a :: .int .i64 b :: .int .i64 c :: .int .i64 d :: .int .u32 e :: .int .i64 f :: .int .i64 g :: .int .i64 h :: r => match ptsOf r with
    | some l => if (Pt.mk a b c d e f g h).ok = true then some (⟨a, b, c, d, e, f, g, h⟩ :: l) else none
    | none => none
  | _ => none
def hexN : List Value → Option Value
  | [.int .u32 n] => if 0 ≤ n ∧ n < 4294967296 then some (stB (hexB n.toNat)) else none
  | _ => none
def textN (n : Nat) (cs : List Value) : Option Value := if n ≤ 1000 then (match ptsOf cs with
  | some l => some (ansB (textB l))
  | none => none) else none
end Go.Proofs.YtmjolmggelkjlaaGreat.Ip
