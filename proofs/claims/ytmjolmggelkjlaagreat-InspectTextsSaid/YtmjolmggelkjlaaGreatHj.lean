/- The third form: regions, code, calls. No program in sight. -/
import Derived.Test.YtmjolmggelkjlaaGreatHi
namespace Go.Proofs.YtmjolmggelkjlaaGreat.Ev
set_option linter.unusedVariables false
set_option linter.unusedSimpArgs false
open Go
noncomputable section
variable (P : Program) (rec : FuncId → Array Value → M Value)
def dropI (ops : Array Oper) (dst : Option Tmp) : List Nat → List Nat
  | [] => []
  | j :: r => match (ops[j]?).bind (·.dst), dst with
    | some t, some d => match Nat.beq t d with
      | true => dropI ops dst r
      | false => j :: dropI ops dst r
    | _, _ => j :: dropI ops dst r
def hasI (j : Nat) : List Nat → Bool
  | [] => false
  | i :: r => match Nat.beq i j with
    | true => true
    | false => hasI j r
/-- i: the operation's number; idl: those that were passed by, and yield nothing -/
def opsK {β : Type} (ops : Array Oper) : List Oper → Nat → List Nat → Fr → (Fr → M β) → M β
  | [], _, _, s, k => k s
  | o :: r, i, idl, s, k => match o.guard with
    | none => opQ P rec s o fun v => opsK ops r (i + 1) (dropI ops o.dst idl) (putF s o.dst v) k
    | some (j, want) => match hasI j idl with
      | true => opsK ops r (i + 1) (i :: dropI ops o.dst idl) (putF s o.dst undef) k
      | false => match (ops[j]?).bind (·.dst) with
        | none => .fail
        | some t => optK (s.at_ t) fun g =>
          ifV g (match want with
              | true => opQ P rec ((t, .bool true) :: s) o fun v => opsK ops r (i + 1) (dropI ops o.dst idl) (putF ((t, .bool true) :: s) o.dst v) k
              | false => opsK ops r (i + 1) (i :: dropI ops o.dst idl) (putF ((t, .bool true) :: s) o.dst undef) k)
            (match want with
              | true => opsK ops r (i + 1) (i :: dropI ops o.dst idl) (putF ((t, .bool false) :: s) o.dst undef) k
              | false => opQ P rec ((t, .bool false) :: s) o fun v => opsK ops r (i + 1) (dropI ops o.dst idl) (putF ((t, .bool false) :: s) o.dst v) k)

/-- what of a frame is kept: behind a region; at a return; at the exit of a block -/
abbrev Hint := List Nat × List Nat × List (Nat × List Nat)
def exAt : List (Nat × List Nat) → Nat → Option (List Nat)
  | [], _ => none
  | q :: r, i => match Nat.beq q.1 i with
    | true => some q.2
    | false => exAt r i
def Hint.out (G : Hint) (id : Nat) (s : Fr) : Fr := match exAt G.2.2 id with
  | some l => s.keep l
  | none => s
/-! regions whose order matters: what each operation touched is held against the others' -/
/-- an operation that is passed by -/
def passT {β : Type} (kd : Nat) (k : Tk → M β) : M β := match kd with
  | 0 => k ⟨0, 0, []⟩
  | _ => (timed (M.ret undef)).bind fun x => k x.2
def opsT {β : Type} (ops : Array Oper) : List Oper → Nat → List Nat → Fr → List Tk → (Fr → List Tk → M β) → M β
  | [], _, _, s, acc, k => k s acc.reverse
  | o :: r, i, idl, s, acc, k => match o.guard with
    | none => match kind o.op with
      | 0 => opQ P rec s o fun v => opsT ops r (i + 1) (dropI ops o.dst idl) (putF s o.dst v) (⟨0, 0, []⟩ :: acc) k
      | _ => (timed (opQ P rec s o M.ret)).bind fun x => opsT ops r (i + 1) (dropI ops o.dst idl) (putF s o.dst x.1) (x.2 :: acc) k
    | some (j, want) => match hasI j idl with
      | true => passT (kind o.op) fun tk => opsT ops r (i + 1) (i :: dropI ops o.dst idl) (putF s o.dst undef) (tk :: acc) k
      | false => match (ops[j]?).bind (·.dst) with
        | none => .fail
        | some t => optK (s.at_ t) fun g =>
          ifV g (match want with
              | true => match kind o.op with
                | 0 => opQ P rec ((t, .bool true) :: s) o fun v => opsT ops r (i + 1) (dropI ops o.dst idl) (putF ((t, .bool true) :: s) o.dst v) (⟨0, 0, []⟩ :: acc) k
                | _ => (timed (opQ P rec ((t, .bool true) :: s) o M.ret)).bind fun x => opsT ops r (i + 1) (dropI ops o.dst idl) (putF ((t, .bool true) :: s) o.dst x.1) (x.2 :: acc) k
              | false => passT (kind o.op) fun tk => opsT ops r (i + 1) (i :: dropI ops o.dst idl) (putF ((t, .bool true) :: s) o.dst undef) (tk :: acc) k)
            (match want with
              | true => passT (kind o.op) fun tk => opsT ops r (i + 1) (i :: dropI ops o.dst idl) (putF ((t, .bool false) :: s) o.dst undef) (tk :: acc) k
              | false => match kind o.op with
                | 0 => opQ P rec ((t, .bool false) :: s) o fun v => opsT ops r (i + 1) (dropI ops o.dst idl) (putF ((t, .bool false) :: s) o.dst v) (⟨0, 0, []⟩ :: acc) k
                | _ => (timed (opQ P rec ((t, .bool false) :: s) o M.ret)).bind fun x => opsT ops r (i + 1) (dropI ops o.dst idl) (putF ((t, .bool false) :: s) o.dst x.1) (x.2 :: acc) k)
def dynPair (bef : List Nat) (ops : Array Oper) (j : Nat) (oj : Oper) (tj : Tk) (k : Nat) (ok : Oper) (tk : Tk) : Bool :=
  (bef.getD k 0).testBit j || (!(slotClash ops oj ok) && (match fits (kind oj.op) (kind ok.op) with
    | true => true
    | false => !(clash3 tj tk)))
def dynAll (bef : List Nat) (ops : Array Oper) (j : Nat) (oj : Oper) (tj : Tk) : Nat → List Oper → List Tk → Bool
  | k, ok :: r, tk :: t => dynPair bef ops j oj tj k ok tk && dynAll bef ops j oj tj (k + 1) r t
  | _, _, _ => true
def dynPairs (bef : List Nat) (ops : Array Oper) : Nat → List Oper → List Tk → Bool
  | j, oj :: r, tj :: t => dynAll bef ops j oj tj (j + 1) r t && dynPairs bef ops (j + 1) r t
  | _, _, _ => true
def chkT {β : Type} (b : Bool) (m : M β) : M β := match b with
  | true => m
  | false => .fail
def regK {β : Type} (ops : Array Oper) (draw : Bool) (s : Fr) (k : Fr → M β) : M β :=
  match !draw || staticOk ops with
  | true => opsK P rec ops ops.toList 0 [] s k
  | false => match edgesOk ops with
    | true => opsT P rec ops ops.toList 0 [] s [] fun s1 tks => chkT (dynPairs (befores ops.toList []) ops 0 ops.toList tks) (k s1)
    | false => .fail

def seqK {β : Type} (kb : Fr → (Ex → Fr → M β) → M β) (k : Ex → Fr → M β) : Ex → Fr → M β
  | .normal, s1 => kb s1 k
  | .ret, s1 => k .ret s1
  | .exit i, s1 => k (.exit i) s1
def blockK {β : Type} (id : Nat) (k : Ex → Fr → M β) : Ex → Fr → M β
  | .normal, s1 => k .normal s1
  | .ret, s1 => k .ret s1
  | .exit i, s1 => match Nat.beq i id with
    | true => k .normal s1
    | false => k (.exit i) s1
def againK {β : Type} (again : Fr → M β) (k : Ex → Fr → M β) : Ex → Fr → M β
  | .normal, s1 => again s1
  | .ret, s1 => k .ret s1
  | .exit i, s1 => k (.exit i) s1
def loopK {β : Type} (body : Fr → (Ex → Fr → M β) → M β) (keys : List Nat) : Nat → Fr → (Ex → Fr → M β) → M β
  | 0, _, _ => .fail
  | f + 1, s, k => body s (againK (fun s1 => loopK body keys f (s1.keep keys) k) k)
def codeK {β : Type} (G : Hint) (lf : Nat) : Code → Fr → (Ex → Fr → M β) → M β
  | .skip, s, k => k .normal s
  | .label _, s, k => k .normal s
  | .region _ ops draw, s, k => regK P rec ops draw s fun s1 => k .normal (s1.keep G.1)
  | .seq a b, s, k => codeK G lf a s (seqK (fun s1 k1 => codeK G lf b s1 k1) k)
  | .cond c a b, s, k => optK (evo s c) fun v => ifV v (codeK G lf a s k) (codeK G lf b s k)
  | .block id c, s, k => codeK G lf c s (blockK id k)
  | .loop c, s, k => loopK (fun s1 k1 => codeK G lf c s1 k1) s.keys lf s k
  | .exit id, s, k => k (.exit id) (G.out id s)
  | .ret, s, k => k .ret (s.keep G.2.1)
  | _, _, _ => .fail
/-! places in the code, and what follows behind them -/
def codeAt : Code → List Bool → Code
  | .seq a b, t :: p => match t with
    | true => codeAt b p
    | false => codeAt a p
  | .cond _ a b, t :: p => match t with
    | true => codeAt b p
    | false => codeAt a p
  | .block _ c, _ :: p => codeAt c p
  | .loop c, _ :: p => codeAt c p
  | c, _ => c
def contAt {β : Type} (G : Hint) (lf : Nat) : Code → List Bool → (Ex → Fr → M β) → Ex → Fr → M β
  | .seq a b, t :: p, k => match t with
    | true => contAt G lf b p k
    | false => contAt G lf a p (seqK (fun s1 k1 => codeK P rec G lf b s1 k1) k)
  | .cond _ a b, t :: p, k => match t with
    | true => contAt G lf b p k
    | false => contAt G lf a p k
  | .block id c, _ :: p, k => contAt G lf c p (blockK id k)
  | _, _, k => k
def resK {β : Type} (s : Fr) : List ResultVar → (List Value → M β) → M β
  | [], k => k []
  | .tmp t :: r, k => optK (s.at_ t) fun v => resK s r fun vs => k (v :: vs)
  | .cell a t :: r, k => optK (s.at_ a) fun a => loadQ P t a fun v => resK s r fun vs => k (v :: vs)
def outK (vs : List Value) : M Value := .ret (match vs with | [v] => v | _ => .tuple vs.toArray)
def endK (rs : List ResultVar) : Ex → Fr → M Value
  | .normal, s => resK P s rs outK
  | .ret, s => resK P s rs outK
  | .exit _, _ => .fail
def argF : Nat → List Value → Fr
  | _, [] => []
  | i, v :: r => (i, v) :: argF (i + 1) r
end

def bodyOf (P : Program) (f : FuncId) : Code := match P.funcs[f]? with
  | some fn => match fn.body with
    | some c => c
    | none => .skip
  | none => .skip
def resOf (P : Program) (f : FuncId) : List ResultVar := match P.funcs[f]? with
  | some fn => fn.results.toList
  | none => []
def regOps : Code → Array Oper
  | .region _ ops _ => ops
  | _ => #[]
noncomputable def evStep (P : Program) (gt : Nat → Hint) (lf : Nat) (rec : FuncId → Array Value → M Value) (f : FuncId) (args : Array Value) : M Value := match P.funcs[f]? with
  | some fn => match fn.body with
    | some c => match decide (args.size ≤ fn.ntmps) && decide (fn.ntmps < 1000) with
      | true => inside (codeK P rec (gt f) lf c (argF 0 args.toList) (endK P fn.results.toList))
      | false => .fail
    | none => .fail
  | none => .fail
noncomputable def evCallN (kn : List FuncId) (P : Program) (gt : Nat → Hint) (lf : Nat) : Nat → FuncId → Array Value → M Value
  | 0, _, _ => .fail
  | d + 1, f, args => match kn.contains f with
    | true => match natOf f with
      | some k => evNat f k args.toList
      | none => match decide (args.size = 0) && noPar P f with
        | true => (chkG P KG).bind fun _ => .ret (.bool true)
        | false => .fail
    | false => evStep P gt lf (evCallN kn P gt lf d) f args

noncomputable def evCall2 (P : Program) (gt : Nat → Hint) (lf : Nat) : Nat → FuncId → Array Value → M Value := evCallN KN P gt lf

/-! what is looked up once of a program -/
def dstOk (nt : Nat) : Code → Bool
  | .region _ ops _ => ops.all fun o => match o.dst with
    | some d => d < nt && d < 1023
    | none => true
  | .seq a b => dstOk nt a && dstOk nt b
  | .cond _ a b => dstOk nt a && dstOk nt b
  | .block _ c | .loop c => dstOk nt c
  | _ => true
def okDsts (P : Program) : Bool := P.funcs.all fun fn => match fn.body with
  | some c => dstOk fn.ntmps c
  | none => true

end Go.Proofs.YtmjolmggelkjlaaGreat.Ev
