/- A second form of the evaluator, in the continuing style, whose frames are lists of what is known: what it yields the first one yields. Its definitions. No program in sight. -/
import Derived.Test.YtmjolmggelkjlaaGreatEvJ
import Derived.Test.YtmjolmggelkjlaaGreatKn
namespace Go.Proofs.YtmjolmggelkjlaaGreat.Ev
set_option linter.unusedVariables false
set_option linter.unusedSimpArgs false
open Go

abbrev Fr := List (Nat × Value)
def Fr.at_ : Fr → Nat → Option Value
  | [], _ => none
  | (u, v) :: r, t => match Nat.beq u t with
    | true => some v
    | false => Fr.at_ r t
def Fr.keep (s : Fr) : List Nat → Fr
  | [] => []
  | t :: r => match s.at_ t with
    | some v => (t, v) :: Fr.keep s r
    | none => Fr.keep s r
def Fr.keys : Fr → List Nat
  | [] => []
  | (u, _) :: r => u :: Fr.keys r
def putF (s : Fr) (dst : Option Tmp) (v : Value) : Fr := match dst with
  | none => s
  | some d => (d, v) :: s
def optK {α β : Type} (o : Option α) (k : α → M β) : M β := match o with
  | some v => k v
  | none => .fail
def evo (s : Fr) : Operand → Option Value
  | .tmp t => s.at_ t
  | .const v => some v
  | .global g => some (.pointer (some ⟨g, 0, none⟩))
  | .func f => some (.func (.func f) #[] #[])
def evosK {β : Type} (s : Fr) : List Operand → (List Value → M β) → M β
  | [], k => k []
  | x :: r, k => optK (evo s x) fun v => evosK s r fun vs => k (v :: vs)
def evoK {β : Type} (s : Fr) (x : Option Operand) (k : Option Value → M β) : M β := match x with
  | some x => optK (evo s x) fun v => k (some v)
  | none => k none
def ifV {β : Type} (v : Value) (x y : M β) : M β := match v with
  | .bool true => x
  | .bool false => y
  | _ => .fail

section
variable (P : Program)
/-- a step on numbers, texts and truths alone -/
def plainS (ok : Bool) (s : Sem Value) : Option Value :=
  match ok with
  | true => match pureRun P (do pure (.value (← s))) with
    | some v => match scalar v with
      | true => some v
      | false => none
    | none => none
  | false => none
def pick2 (c a b : Value) : Option Value := match c with
  | .bool t => some (if t then a else b)
  | _ => none
def nil2 : Value → Option Value
  | .pointer (some a) => some (.pointer (some a))
  | .func (.func f) a b => some (.func (.func f) a b)
  | _ => none
def isNilT (t : TypeId) : Bool := match P.underlying t with
  | some (.pointer _) | some (.slice _) | some (.func _ _ _) | some (.struct _) => true
  | _ => false
def binN (op : BinOp) (t : TypeId) (x y : Value) : Option Value := match anyEq P t x y, op with
  | some v, .eql => some (.bool v)
  | some v, .neq => some (.bool (!v))
  | _, _ => none
def binP (op : BinOp) (t : TypeId) (x y : Value) : Option Value := plainS P (scalar x && scalar y) (Go.binOp op t x y)
def bin2 (op : BinOp) (t : TypeId) (x y : Value) : Option Value := match isNilT P t with
  | true => binN P op t x y
  | false => binP P op t x y
def un2 (op : UnOp) (x : Value) : Option Value := plainS P (scalar x) (Op.unary op x)
def toBy2? : Option TypeDesc → Option TypeDesc → Option TypeId
  | some .string, some (.slice e) => some e
  | _, _ => none
def toBytes2 (e : TypeId) (x : Value) : M Value := match x with
  | .string s => evToBytes e s
  | _ => .fail
def conv2 {β : Type} (src dst : TypeId) (x : Value) (k : Value → M β) : M β :=
  match toStr? (P.underlying src) (P.underlying dst) with
  | some e => match u8? P e with
    | true => (inside (evToStr x)).bind k
    | false => .fail
  | none => match toBy2? (P.underlying src) (P.underlying dst) with
    | some e => match u8? P e && size? P e == some 1 with
      | true => (inside (toBytes2 e x)).bind k
      | false => .fail
    | none => optK (plainS P (scalar x) (Go.convert src dst x)) k
def scal? : Option Value → Bool
  | some v => scalar v
  | none => true
def strSl (t : TypeId) (x : Value) (lo hi mx : Option Value) : Option Value := match isStr x with
  | true => plainS P (scal? lo && scal? hi && scal? mx) (Instr.sliceAt t x lo hi mx)
  | false => none
def slSl (t : TypeId) (x : Value) (lo hi mx : Option Value) : M Value := match isStr x with
  | true => .fail
  | false => evSliceM P t x lo hi mx
def isStrT (t : TypeId) : Bool := match P.underlying t with
  | some .string => true
  | _ => false
def slice2 {β : Type} (t : TypeId) (x : Value) (lo hi mx : Option Value) (k : Value → M β) : M β := match isStrT P t with
  | true => optK (strSl P t x lo hi mx) k
  | false => (inside (slSl P t x lo hi mx)).bind k
def strIx (t : TypeId) (x ix : Value) : Option Value := match isStr x with
  | true => plainS P (scalar ix) (Instr.index t x ix)
  | false => none
def arrIx (t : TypeId) (x ix : Value) : Option Value := match isStr x with
  | true => none
  | false => evIndex P t x ix
def index2 (t : TypeId) (x ix : Value) : Option Value := match isStrT P t with
  | true => strIx P t x ix
  | false => arrIx P t x ix
def lenS : Value → Option Value
  | .slice _ n _ => some (.int .i64 n)
  | _ => none
def lenT : Value → Option Value
  | .string s => some (.int .i64 s.size)
  | _ => none
def len2 (ats : Array TypeId) (vs : List Value) : Option Value := match ats[0]?, vs with
  | some t, [x] => match P.underlying t with
    | some (.slice _) => lenS x
    | some .string => lenT x
    | _ => none
  | _, _ => none
def imin (a b : Int) : Int := if b < a then b else a
def min2 : List Value → Option Value
  | [.int k a, .int _ b] => some (.int k (if b < a then b else a))
  | [.int k a, .int _ b, .int _ c, .int _ d, .int _ e, .int _ f] => some (.int k (imin (imin (imin (imin (imin a b) c) d) e) f))
  | _ => none
def max2 : List Value → Option Value
  | [.int k a, .int _ b] => some (.int k (if a < b then b else a))
  | _ => none

variable (rec : FuncId → Array Value → M Value)
def callV {β : Type} (fv : Value) (vs : List Value) (k : Value → M β) : M β :=
  optK (asFn? fv) fun q => match hasBody P q.1 with
    | true => (inside (rec q.1 (q.2.1.toList ++ vs ++ q.2.2.toList).toArray)).bind k
    | false => .fail
def app2 {β : Type} (ats : Array TypeId) (vs : List Value) (k : Value → M β) : M β :=
  optK (app? P ats vs) fun q => (inside (evAppend P q.1 q.2.1 q.2.2)).bind k
def copy2 {β : Type} (ats : Array TypeId) (vs : List Value) (k : Value → M β) : M β :=
  optK (cpy? ats vs) fun q => (inside (evCopy P q.1 q.2.1 q.2.2)).bind k
def call2 {β : Type} (s : Fr) (c : Call) (vs : List Value) (k : Value → M β) : M β :=
  match c.callee with
  | .value f => optK (evo s f) fun fv => callV P rec fv vs k
  | .builtin .append => app2 P c.argTypes vs k
  | .builtin .copy => copy2 P c.argTypes vs k
  | .builtin .len => optK (len2 P c.argTypes vs) k
  | .builtin .min => optK (min2 vs) k
  | .builtin .max => optK (max2 vs) k
  | _ => .fail
def op2 {β : Type} (s : Fr) (o : Oper) (k : Value → M β) : M β :=
  match o.op with
  | .move x | .assign x => optK (evo s x) k
  | .pick c a b => optK (evo s c) fun c => optK (evo s a) fun a => optK (evo s b) fun b => optK (pick2 c a b) k
  | .alloc e => (inside (evAlloc P e)).bind k
  | .box e x => optK (evo s x) fun x => (inside (evBox P e x)).bind k
  | .build t parts => evosK s (parts.toList.map (·.2)) fun vs => (inside (evBuild P t ((parts.toList.map (·.1)).zip vs))).bind k
  | .buildSlice t len parts => evosK s (parts.toList.map (·.2)) fun vs => (inside (evBuildSlice P t len ((parts.toList.map (·.1)).zip vs))).bind k
  | .load t a => optK (evo s a) fun a => (inside (evLoad P t a)).bind k
  | .store t a x => optK (evo s a) fun a => optK (evo s x) fun x => (inside (evStore P t a x)).bind k
  | .nilCheck x => optK (evo s x) fun x => optK (nil2 x) k
  | .binOp op t x y _ => optK (evo s x) fun x => optK (evo s y) fun y => optK (bin2 P op t x y) k
  | .unOp op _ x => optK (evo s x) fun x => optK (un2 P op x) k
  | .convert src dst x => optK (evo s x) fun x => conv2 P src dst x k
  | .makeFunc fn a b => evosK s a.toList fun a => evosK s b.toList fun b => k (.func fn a.toArray b.toArray)
  | .makeSlice t l c => optK (evo s l) fun l => optK (evo s c) fun c => (inside (evMakeSlice P t l c)).bind k
  | .slice t x lo hi mx => optK (evo s x) fun x => evoK s lo fun lo => evoK s hi fun hi => evoK s mx fun mx => slice2 P t x lo hi mx k
  | .fieldAddr t x f => optK (evo s x) fun x => optK (evFieldAddr P t x f) k
  | .field t x f => optK (evo s x) fun x => optK (evField P t x f) k
  | .indexAddr t x ix => optK (evo s x) fun x => optK (evo s ix) fun ix => optK (evIndexAddr P t x ix) k
  | .index t x ix => optK (evo s x) fun x => optK (evo s ix) fun ix => optK (index2 P t x ix) k
  | .extract t i => optK (evo s t) fun t => optK (evExtract t i) k
  | .call c => evosK s c.args.toList fun vs => call2 P rec s c vs k
  | _ => .fail

/-- what of memory an operation may touch: 0 nothing, 1 it reads, 2 it makes a block, 3 whatever -/
def kind (o : Op) : Nat := match o with
  | .move _ | .assign _ | .pick _ _ _ | .nilCheck _ | .binOp _ _ _ _ _ | .unOp _ _ _ | .makeFunc _ _ _ | .fieldAddr _ _ _ | .field _ _ _ | .indexAddr _ _ _ | .index _ _ _ | .extract _ _ | .build _ _ => 0
  | .load _ _ | .slice _ _ _ _ _ => 1
  | .alloc _ | .box _ _ | .buildSlice _ _ _ | .makeSlice _ _ _ => 2
  | .call c => match c.callee with
    | .builtin .len | .builtin .min | .builtin .max => 0
    | _ => 3
  | _ => 3
def fits (i j : Nat) : Bool := i == 0 || j == 0 || (i == 1 && j == 1) || (i == 2 && j == 2) || (i == 1 && j == 2)
def safeAll (ops : Array Oper) (bef : List Nat) (j : Nat) (oj : Oper) : Nat → List Oper → Bool
  | _, [] => true
  | k, ok :: r => ((bef.getD k 0).testBit j || (fits (kind oj.op) (kind ok.op) && !(slotClash ops oj ok))) && safeAll ops bef j oj (k + 1) r
def safePairs (ops : Array Oper) (bef : List Nat) : Nat → List Oper → Bool
  | _, [] => true
  | j, oj :: r => safeAll ops bef j oj (j + 1) r && safePairs ops bef (j + 1) r
def staticOk (ops : Array Oper) : Bool := edgesOk ops && safePairs ops (befores ops.toList []) 0 ops.toList
end

end Go.Proofs.YtmjolmggelkjlaaGreat.Ev
