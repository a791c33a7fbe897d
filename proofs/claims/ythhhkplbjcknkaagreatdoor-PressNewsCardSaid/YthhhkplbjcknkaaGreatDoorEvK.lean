/- A second form of the evaluator, in the continuing style, whose frames are lists of what is known: what it yields the first one yields. Its definitions. No program in sight. -/
import Derived.Test.YthhhkplbjcknkaaGreatDoorEvJ
import Derived.Test.YthhhkplbjcknkaaGreatDoorKn
namespace Go.Proofs.YthhhkplbjcknkaaGreatDoor.Ev
set_option linter.unusedVariables false
set_option linter.unusedSimpArgs false
open Go

abbrev Fr := List (Nat × Value)
def Fr.at_ : Fr → Nat → Option Value
  | [], _ => none
  | (u, v) :: r, t => match Nat.beq u t with
    | true => some v
    | false => Fr.at_ r t
def Fr.keep (s : Fr) : List Nat → Fr
  | [] => []
  | t :: r => match s.at_ t with
    | some v => (t, v) :: Fr.keep s r
    | none => Fr.keep s r
def Fr.keys : Fr → List Nat
  | [] => []
  | (u, _) :: r => u :: Fr.keys r
def putF (s : Fr) (dst : Option Tmp) (v : Value) : Fr := match dst with
  | none => s
  | some d => (d, v) :: s
def optK {α β : Type} (o : Option α) (k : α → M β) : M β := match o with
  | some v => k v
  | none => .fail
def evo (s : Fr) : Operand → Option Value
  | .tmp t => s.at_ t
  | .const v => some v
  | .global g => some (.pointer (some ⟨g, 0, none⟩))
  | .func f => some (.func (.func f) #[] #[])
def evosK {β : Type} (s : Fr) : List Operand → (List Value → M β) → M β
  | [], k => k []
  | x :: r, k => optK (evo s x) fun v => evosK s r fun vs => k (v :: vs)
def evoK {β : Type} (s : Fr) (x : Option Operand) (k : Option Value → M β) : M β := match x with
  | some x => optK (evo s x) fun v => k (some v)
  | none => k none
def ifV {β : Type} (v : Value) (x y : M β) : M β := match v with
  | .bool true => x
  | .bool false => y
  | _ => .fail

section
variable (P : Program)
/-- a step on numbers, texts and truths alone -/
def plainS (ok : Bool) (s : Sem Value) : Option Value :=
  match ok with
  | true => match pureRun P (do pure (.value (← s))) with
    | some v => match scalar v with
      | true => some v
      | false => none
    | none => none
  | false => none
def pick2 (c a b : Value) : Option Value := match c with
  | .bool t => some (if t then a else b)
  | _ => none
def nil2 : Value → Option Value
  | .pointer (some a) => some (.pointer (some a))
  | .func (.func f) a b => some (.func (.func f) a b)
  | _ => none
def isNilT (t : TypeId) : Bool := match P.underlying t with
  | some (.pointer _) | some (.slice _) | some (.func _ _ _) => true
  | _ => false
def binN (op : BinOp) (t : TypeId) (x y : Value) : Option Value := match nilEq (P.underlying t) x y, op with
  | some v, .eql => some (.bool v)
  | some v, .neq => some (.bool (!v))
  | _, _ => none
def binP (op : BinOp) (t : TypeId) (x y : Value) : Option Value := plainS P (scalar x && scalar y) (Go.binOp op t x y)
def bin2 (op : BinOp) (t : TypeId) (x y : Value) : Option Value := match isNilT P t with
  | true => binN P op t x y
  | false => binP P op t x y
def un2 (op : UnOp) (x : Value) : Option Value := plainS P (scalar x) (Op.unary op x)
def toBy2? : Option TypeDesc → Option TypeDesc → Option TypeId
  | some .string, some (.slice e) => some e
  | _, _ => none
def toBytes2 (e : TypeId) (x : Value) : M Value := match x with
  | .string s => evToBytes e s
  | _ => .fail
def conv2 {β : Type} (src dst : TypeId) (x : Value) (k : Value → M β) : M β :=
  match toStr? (P.underlying src) (P.underlying dst) with
  | some e => match u8? P e with
    | true => (inside (evToStr x)).bind k
    | false => .fail
  | none => match toBy2? (P.underlying src) (P.underlying dst) with
    | some e => match u8? P e && size? P e == some 1 with
      | true => (inside (toBytes2 e x)).bind k
      | false => .fail
    | none => optK (plainS P (scalar x) (Go.convert src dst x)) k
def scal? : Option Value → Bool
  | some v => scalar v
  | none => true
def strSl (t : TypeId) (x : Value) (lo hi mx : Option Value) : Option Value := match isStr x with
  | true => plainS P (scal? lo && scal? hi && scal? mx) (Instr.sliceAt t x lo hi mx)
  | false => none
def slSl (t : TypeId) (x : Value) (lo hi mx : Option Value) : M Value := match isStr x with
  | true => .fail
  | false => evSliceM P t x lo hi mx
def isStrT (t : TypeId) : Bool := match P.underlying t with
  | some .string => true
  | _ => false
def slice2 {β : Type} (t : TypeId) (x : Value) (lo hi mx : Option Value) (k : Value → M β) : M β := match isStrT P t with
  | true => optK (strSl P t x lo hi mx) k
  | false => (inside (slSl P t x lo hi mx)).bind k
def strIx (t : TypeId) (x ix : Value) : Option Value := match isStr x with
  | true => plainS P (scalar ix) (Instr.index t x ix)
  | false => none
def arrIx (t : TypeId) (x ix : Value) : Option Value := match isStr x with
  | true => none
  | false => evIndex P t x ix
def index2 (t : TypeId) (x ix : Value) : Option Value := match isStrT P t with
  | true => strIx P t x ix
  | false => arrIx P t x ix
def lenS : Value → Option Value
  | .slice _ n _ => some (.int .i64 n)
  | _ => none
def lenT : Value → Option Value
  | .string s => some (.int .i64 s.size)
  | _ => none
def len2 (ats : Array TypeId) (vs : List Value) : Option Value := match ats[0]?, vs with
  | some t, [x] => match P.underlying t with
    | some (.slice _) => lenS x
    | some .string => lenT x
    | _ => none
  | _, _ => none
def min2 : List Value → Option Value
  | [.int k a, .int _ b] => some (.int k (if b < a then b else a))
  | _ => none
def max2 : List Value → Option Value
  | [.int k a, .int _ b] => some (.int k (if a < b then b else a))
  | _ => none

variable (rec : FuncId → Array Value → M Value)
def callV {β : Type} (fv : Value) (vs : List Value) (k : Value → M β) : M β :=
  optK (asFn? fv) fun q => match hasBody P q.1 with
    | true => (inside (rec q.1 (q.2.1.toList ++ vs ++ q.2.2.toList).toArray)).bind k
    | false => .fail
def app2 {β : Type} (ats : Array TypeId) (vs : List Value) (k : Value → M β) : M β :=
  optK (app? P ats vs) fun q => (inside (evAppend P q.1 q.2.1 q.2.2)).bind k
def copy2 {β : Type} (ats : Array TypeId) (vs : List Value) (k : Value → M β) : M β :=
  optK (cpy? ats vs) fun q => (inside (evCopy P q.1 q.2.1 q.2.2)).bind k
def call2 {β : Type} (s : Fr) (c : Call) (vs : List Value) (k : Value → M β) : M β :=
  match c.callee with
  | .value f => optK (evo s f) fun fv => callV P rec fv vs k
  | .builtin .append => app2 P c.argTypes vs k
  | .builtin .copy => copy2 P c.argTypes vs k
  | .builtin .len => optK (len2 P c.argTypes vs) k
  | .builtin .min => optK (min2 vs) k
  | .builtin .max => optK (max2 vs) k
  | _ => .fail
def op2 {β : Type} (s : Fr) (o : Oper) (k : Value → M β) : M β :=
  match o.op with
  | .move x | .assign x => optK (evo s x) k
  | .pick c a b => optK (evo s c) fun c => optK (evo s a) fun a => optK (evo s b) fun b => optK (pick2 c a b) k
  | .alloc e => (inside (evAlloc P e)).bind k
  | .box e x => optK (evo s x) fun x => (inside (evBox P e x)).bind k
  | .build t parts => evosK s (parts.toList.map (·.2)) fun vs => (inside (evBuild P t ((parts.toList.map (·.1)).zip vs))).bind k
  | .buildSlice t len parts => evosK s (parts.toList.map (·.2)) fun vs => (inside (evBuildSlice P t len ((parts.toList.map (·.1)).zip vs))).bind k
  | .load t a => optK (evo s a) fun a => (inside (evLoad P t a)).bind k
  | .store t a x => optK (evo s a) fun a => optK (evo s x) fun x => (inside (evStore P t a x)).bind k
  | .nilCheck x => optK (evo s x) fun x => optK (nil2 x) k
  | .binOp op t x y _ => optK (evo s x) fun x => optK (evo s y) fun y => optK (bin2 P op t x y) k
  | .unOp op _ x => optK (evo s x) fun x => optK (un2 P op x) k
  | .convert src dst x => optK (evo s x) fun x => conv2 P src dst x k
  | .makeFunc fn a b => evosK s a.toList fun a => evosK s b.toList fun b => k (.func fn a.toArray b.toArray)
  | .makeSlice t l c => optK (evo s l) fun l => optK (evo s c) fun c => (inside (evMakeSlice P t l c)).bind k
  | .slice t x lo hi mx => optK (evo s x) fun x => evoK s lo fun lo => evoK s hi fun hi => evoK s mx fun mx => slice2 P t x lo hi mx k
  | .fieldAddr t x f => optK (evo s x) fun x => optK (evFieldAddr P t x f) k
  | .field t x f => optK (evo s x) fun x => optK (evField P t x f) k
  | .indexAddr t x ix => optK (evo s x) fun x => optK (evo s ix) fun ix => optK (evIndexAddr P t x ix) k
  | .index t x ix => optK (evo s x) fun x => optK (evo s ix) fun ix => optK (index2 P t x ix) k
  | .extract t i => optK (evo s t) fun t => optK (evExtract t i) k
  | .call c => evosK s c.args.toList fun vs => call2 P rec s c vs k
  | _ => .fail

/-- what of memory an operation may touch: 0 nothing, 1 it reads, 2 it makes a block, 3 whatever -/
def kind (o : Op) : Nat := match o with
  | .move _ | .assign _ | .pick _ _ _ | .nilCheck _ | .binOp _ _ _ _ _ | .unOp _ _ _ | .makeFunc _ _ _ | .fieldAddr _ _ _ | .field _ _ _ | .indexAddr _ _ _ | .index _ _ _ | .extract _ _ | .build _ _ => 0
  | .load _ _ | .slice _ _ _ _ _ => 1
  | .alloc _ | .box _ _ | .buildSlice _ _ _ | .makeSlice _ _ _ => 2
  | .call c => match c.callee with
    | .builtin .len | .builtin .min | .builtin .max => 0
    | _ => 3
  | _ => 3
def fits (i j : Nat) : Bool := i == 0 || j == 0 || (i == 1 && j == 1) || (i == 2 && j == 2) || (i == 1 && j == 2)
def safeAll (ops : Array Oper) (bef : List Nat) (j : Nat) (oj : Oper) : Nat → List Oper → Bool
  | _, [] => true
  | k, ok :: r => ((bef.getD k 0).testBit j || (fits (kind oj.op) (kind ok.op) && !(slotClash ops oj ok))) && safeAll ops bef j oj (k + 1) r
def safePairs (ops : Array Oper) (bef : List Nat) : Nat → List Oper → Bool
  | _, [] => true
  | j, oj :: r => safeAll ops bef j oj (j + 1) r && safePairs ops bef (j + 1) r
def staticOk (ops : Array Oper) : Bool := edgesOk ops && safePairs ops (befores ops.toList []) 0 ops.toList

def dropI (ops : Array Oper) (dst : Option Tmp) : List Nat → List Nat
  | [] => []
  | j :: r => match (ops[j]?).bind (·.dst), dst with
    | some t, some d => match Nat.beq t d with
      | true => dropI ops dst r
      | false => j :: dropI ops dst r
    | _, _ => j :: dropI ops dst r
def hasI (j : Nat) : List Nat → Bool
  | [] => false
  | i :: r => match Nat.beq i j with
    | true => true
    | false => hasI j r
/-- i: the operation's number; idl: those that were passed by, and yield nothing -/
def opsK {β : Type} (ops : Array Oper) : List Oper → Nat → List Nat → Fr → (Fr → M β) → M β
  | [], _, _, s, k => k s
  | o :: r, i, idl, s, k => match o.guard with
    | none => op2 P rec s o fun v => opsK ops r (i + 1) (dropI ops o.dst idl) (putF s o.dst v) k
    | some (j, want) => match hasI j idl with
      | true => opsK ops r (i + 1) (i :: dropI ops o.dst idl) (putF s o.dst undef) k
      | false => match (ops[j]?).bind (·.dst) with
        | none => .fail
        | some t => optK (s.at_ t) fun g =>
          ifV g (match want with
              | true => op2 P rec ((t, .bool true) :: s) o fun v => opsK ops r (i + 1) (dropI ops o.dst idl) (putF ((t, .bool true) :: s) o.dst v) k
              | false => opsK ops r (i + 1) (i :: dropI ops o.dst idl) (putF ((t, .bool true) :: s) o.dst undef) k)
            (match want with
              | true => opsK ops r (i + 1) (i :: dropI ops o.dst idl) (putF ((t, .bool false) :: s) o.dst undef) k
              | false => op2 P rec ((t, .bool false) :: s) o fun v => opsK ops r (i + 1) (dropI ops o.dst idl) (putF ((t, .bool false) :: s) o.dst v) k)

def opsT {β : Type} (ops : Array Oper) : List Oper → Fr → List Tk → (Fr → List Tk → M β) → M β
  | [], s, acc, k => k s acc.reverse
  | o :: r, s, acc, k => match o.guard with
    | none => match kind o.op with
      | 0 => op2 P rec s o fun v => opsT ops r (putF s o.dst v) (⟨0, 0, []⟩ :: acc) k
      | _ => (timed (op2 P rec s o M.ret)).bind fun x => opsT ops r (putF s o.dst x.1) (x.2 :: acc) k
    | some _ => .fail
def dynPair (bef : List Nat) (ops : Array Oper) (j : Nat) (oj : Oper) (tj : Tk) (k : Nat) (ok : Oper) (tk : Tk) : Bool :=
  (bef.getD k 0).testBit j || (!(slotClash ops oj ok) && (match fits (kind oj.op) (kind ok.op) with
    | true => true
    | false => !(tj.clash tk)))
def dynAll (bef : List Nat) (ops : Array Oper) (j : Nat) (oj : Oper) (tj : Tk) : Nat → List Oper → List Tk → Bool
  | k, ok :: r, tk :: t => dynPair bef ops j oj tj k ok tk && dynAll bef ops j oj tj (k + 1) r t
  | _, _, _ => true
def dynPairs (bef : List Nat) (ops : Array Oper) : Nat → List Oper → List Tk → Bool
  | j, oj :: r, tj :: t => dynAll bef ops j oj tj (j + 1) r t && dynPairs bef ops (j + 1) r t
  | _, _, _ => true
def chkT {β : Type} (b : Bool) (m : M β) : M β := match b with
  | true => m
  | false => .fail
def regK {β : Type} (ops : Array Oper) (draw : Bool) (s : Fr) (k : Fr → M β) : M β :=
  match !draw || staticOk ops with
  | true => opsK P rec ops ops.toList 0 [] s k
  | false => match edgesOk ops with
    | true => opsT P rec ops ops.toList s [] fun s1 tks => chkT (dynPairs (befores ops.toList []) ops 0 ops.toList tks) (k s1)
    | false => .fail

def seqK {β : Type} (kb : Fr → (Ex → Fr → M β) → M β) (k : Ex → Fr → M β) : Ex → Fr → M β
  | .normal, s1 => kb s1 k
  | .ret, s1 => k .ret s1
  | .exit i, s1 => k (.exit i) s1
def blockK {β : Type} (id : Nat) (k : Ex → Fr → M β) : Ex → Fr → M β
  | .normal, s1 => k .normal s1
  | .ret, s1 => k .ret s1
  | .exit i, s1 => match Nat.beq i id with
    | true => k .normal s1
    | false => k (.exit i) s1
def againK {β : Type} (again : Fr → M β) (k : Ex → Fr → M β) : Ex → Fr → M β
  | .normal, s1 => again s1
  | .ret, s1 => k .ret s1
  | .exit i, s1 => k (.exit i) s1
def loopK {β : Type} (body : Fr → (Ex → Fr → M β) → M β) (keys : List Nat) : Nat → Fr → (Ex → Fr → M β) → M β
  | 0, _, _ => .fail
  | f + 1, s, k => body s (againK (fun s1 => loopK body keys f (s1.keep keys) k) k)
def codeK {β : Type} (G : List Nat) (lf : Nat) : Code → Fr → (Ex → Fr → M β) → M β
  | .skip, s, k => k .normal s
  | .label _, s, k => k .normal s
  | .region _ ops draw, s, k => regK P rec ops draw s fun s1 => k .normal (s1.keep G)
  | .seq a b, s, k => codeK G lf a s (seqK (fun s1 k1 => codeK G lf b s1 k1) k)
  | .cond c a b, s, k => optK (evo s c) fun v => ifV v (codeK G lf a s k) (codeK G lf b s k)
  | .block id c, s, k => codeK G lf c s (blockK id k)
  | .loop c, s, k => loopK (fun s1 k1 => codeK G lf c s1 k1) s.keys lf s k
  | .exit id, s, k => k (.exit id) s
  | .ret, s, k => k .ret s
  | _, _, _ => .fail
def codeAt : Code → List Bool → Code
  | .seq a b, t :: p => match t with
    | true => codeAt b p
    | false => codeAt a p
  | .cond _ a b, t :: p => match t with
    | true => codeAt b p
    | false => codeAt a p
  | .block _ c, _ :: p => codeAt c p
  | .loop c, _ :: p => codeAt c p
  | c, _ => c
def contAt {β : Type} (G : List Nat) (lf : Nat) : Code → List Bool → (Ex → Fr → M β) → Ex → Fr → M β
  | .seq a b, t :: p, k => match t with
    | true => contAt G lf b p k
    | false => contAt G lf a p (seqK (fun s1 k1 => codeK P rec G lf b s1 k1) k)
  | .cond _ a b, t :: p, k => match t with
    | true => contAt G lf b p k
    | false => contAt G lf a p k
  | .block id c, _ :: p, k => contAt G lf c p (blockK id k)
  | _, _, k => k
def resK {β : Type} (s : Fr) : List ResultVar → (List Value → M β) → M β
  | [], k => k []
  | .tmp t :: r, k => optK (s.at_ t) fun v => resK s r fun vs => k (v :: vs)
  | .cell a t :: r, k => optK (s.at_ a) fun a => (evLoad P t a).bind fun v => resK s r fun vs => k (v :: vs)
def outK (vs : List Value) : M Value := .ret (match vs with | [v] => v | _ => .tuple vs.toArray)
def endK (rs : List ResultVar) : Ex → Fr → M Value
  | .normal, s => resK P s rs outK
  | .ret, s => resK P s rs outK
  | .exit _, _ => .fail
def argF : Nat → List Value → Fr
  | _, [] => []
  | i, v :: r => (i, v) :: argF (i + 1) r
end

def bodyOf (P : Program) (f : FuncId) : Code := match P.funcs[f]? with
  | some fn => match fn.body with
    | some c => c
    | none => .skip
  | none => .skip
def resOf (P : Program) (f : FuncId) : List ResultVar := match P.funcs[f]? with
  | some fn => fn.results.toList
  | none => []
def evCallN (kn : List FuncId) (P : Program) (gt : Nat → List Nat) (lf : Nat) : Nat → FuncId → Array Value → M Value
  | 0, _, _ => .fail
  | d + 1, f, args => match kn.contains f with
    | true => match natOf f with
      | some k => evNat k args.toList
      | none => match decide (args.size = 0) && noPar P f with
        | true => (chkG P KG).bind fun _ => .ret (.bool true)
        | false => .fail
    | false => match P.funcs[f]? with
      | some fn => match fn.body with
        | some c => match decide (args.size ≤ fn.ntmps) && decide (fn.ntmps < 1000) with
          | true => inside (codeK P (evCallN kn P gt lf d) (gt f) lf c (argF 0 args.toList) (endK P fn.results.toList))
          | false => .fail
        | none => .fail
      | none => .fail

def evCall2 (P : Program) (gt : Nat → List Nat) (lf : Nat) : Nat → FuncId → Array Value → M Value := evCallN KN P gt lf

def dstOk (nt : Nat) : Code → Bool
  | .region _ ops _ => ops.all fun o => match o.dst with
    | some d => d < nt && d < 1023
    | none => true
  | .seq a b => dstOk nt a && dstOk nt b
  | .cond _ a b => dstOk nt a && dstOk nt b
  | .block _ c | .loop c => dstOk nt c
  | _ => true
def okDsts (P : Program) : Bool := P.funcs.all fun fn => match fn.body with
  | some c => dstOk fn.ntmps c
  | none => true

end Go.Proofs.YthhhkplbjcknkaaGreatDoor.Ev
