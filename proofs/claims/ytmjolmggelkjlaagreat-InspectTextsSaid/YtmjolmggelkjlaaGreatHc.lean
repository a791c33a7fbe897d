/- The steps of the third form: the second form's, with all that is known of types looked up, in the continuing style, and quick for the kernel. No program in sight. -/
import Derived.Test.YtmjolmggelkjlaaGreatHb
import Derived.Test.YtmjolmggelkjlaaGreatEvK
namespace Go.Proofs.YtmjolmggelkjlaaGreat.Ev
set_option linter.unusedVariables false
set_option linter.unusedSimpArgs false
open Go Go.RowKit

noncomputable section
variable {β : Type}
/-! numbers, texts, truths -/
def num2 (f : IntKind → Int → Int → Value) (x y : Value) (k : Value → M β) : M β := match x with
  | .int a p => match y with
    | .int b q => match sameK a b with
      | true => k (f a p q)
      | false => .fail
    | _ => .fail
  | _ => .fail
def bit2 (f : Nat → Nat → Nat) (x y : Value) (k : Value → M β) : M β := match x with
  | .int a (.ofNat p) => match y with
    | .int b (.ofNat q) => match sameK a b with
      | true => k (.int a (fwrap a (.ofNat (f (Nat.mod p (pw a)) (Nat.mod q (pw a))))))
      | false => .fail
    | _ => .fail
  | _ => .fail
def kad (x y : Value) (k : Value → M β) : M β := match x with
  | .string ⟨⟨a⟩⟩ => match y with
    | .string ⟨⟨b⟩⟩ => match Nat.ble (Nat.add (lenB a) (lenB b)) 9223372036854775807 with
      | true => k (.string ⟨⟨appB a b⟩⟩)
      | false => .fail
    | _ => .fail
  | x => num2 (fun k a b => .int k (fwrap k (iadd a b))) x y k
def ksb (x y : Value) (k : Value → M β) : M β := num2 (fun k a b => .int k (fwrap k (isub a b))) x y k
def kml (x y : Value) (k : Value → M β) : M β := num2 (fun k a b => .int k (fwrap k (imul a b))) x y k
def keq (x y : Value) (k : Value → M β) : M β := match x with
  | .string ⟨⟨a⟩⟩ => match y with
    | .string ⟨⟨b⟩⟩ => k (.bool (beqB a b))
    | _ => .fail
  | x => num2 (fun _ a b => .bool (ieq a b)) x y k
def kne (x y : Value) (k : Value → M β) : M β := match x with
  | .string ⟨⟨a⟩⟩ => match y with
    | .string ⟨⟨b⟩⟩ => k (.bool (!beqB a b))
    | _ => .fail
  | x => num2 (fun _ a b => .bool (!ieq a b)) x y k
def kls (x y : Value) (k : Value → M β) : M β := num2 (fun _ a b => .bool (ilt a b)) x y k
def klq (x y : Value) (k : Value → M β) : M β := num2 (fun _ a b => .bool (ile a b)) x y k
def kgr (x y : Value) (k : Value → M β) : M β := num2 (fun _ a b => .bool (ilt b a)) x y k
def kgq (x y : Value) (k : Value → M β) : M β := num2 (fun _ a b => .bool (ile b a)) x y k
def kan (x y : Value) (k : Value → M β) : M β := bit2 Nat.land x y k
def kor (x y : Value) (k : Value → M β) : M β := bit2 Nat.lor x y k
def kxo (x y : Value) (k : Value → M β) : M β := bit2 Nat.xor x y k
def ksl (x y : Value) (k : Value → M β) : M β := match x with
  | .int a (.ofNat p) => match y with
    | .int _ (.ofNat q) => k (.int a (fwrap a (.ofNat (Nat.mul p (Nat.pow 2 (Nat.min q a.bits))))))
    | _ => .fail
  | _ => .fail
def ksr (x y : Value) (k : Value → M β) : M β := match x with
  | .int a (.ofNat p) => match y with
    | .int _ (.ofNat q) => k (.int a (.ofNat (Nat.div p (Nat.pow 2 (Nat.min q a.bits)))))
    | _ => .fail
  | _ => .fail
def kqu (x y : Value) (k : Value → M β) : M β := match x with
  | .int a p => match y with
    | .int b q => match sameK a b with
      | true => match ieq q 0 with
        | true => .fail
        | false => k (.int a (fwrap a (Int.tdiv p q)))
      | false => .fail
    | _ => .fail
  | _ => .fail
def krm (x y : Value) (k : Value → M β) : M β := match x with
  | .int a p => match y with
    | .int b q => match sameK a b with
      | true => match ieq q 0 with
        | true => .fail
        | false => k (.int a (Int.tmod p q))
      | false => .fail
    | _ => .fail
  | _ => .fail
def kbe (x y : Value) (k : Value → M β) : M β := match x with
  | .bool a => match y with
    | .bool b => k (.bool (match a with
      | true => b
      | false => !b))
    | _ => .fail
  | _ => .fail
def kbn (x y : Value) (k : Value → M β) : M β := match x with
  | .bool a => match y with
    | .bool b => k (.bool (match a with
      | true => !b
      | false => b))
    | _ => .fail
  | _ => .fail
/-- an equality with a nil -/
def nil1 (f : Bool → Bool) (x y : Value) (k : Value → M β) : M β := match x with
  | .pointer none => match y with
    | .pointer b => k (.bool (f b.isNone))
    | _ => .fail
  | .pointer (some _) => match y with
    | .pointer none => k (.bool (f false))
    | _ => .fail
  | _ => .fail
def nil3 (f : Bool → Bool) (x y : Value) (k : Value → M β) : M β := match x with
  | .slice none _ _ => match y with
    | .slice b _ _ => k (.bool (f b.isNone))
    | _ => .fail
  | .slice (some _) _ _ => match y with
    | .slice none _ _ => k (.bool (f false))
    | _ => .fail
  | _ => .fail
def nil4 (f : Bool → Bool) (x y : Value) (k : Value → M β) : M β := match x with
  | .nilFunc => match y with
    | .nilFunc => k (.bool (f true))
    | .func _ _ _ => k (.bool (f false))
    | _ => .fail
  | .func _ _ _ => match y with
    | .nilFunc => k (.bool (f false))
    | _ => .fail
  | _ => .fail
/-- structs of numbers, texts, truths -/
def kge (ds : List Nat) (x y : Value) (k : Value → M β) : M β := match x with
  | .agg ⟨l⟩ => match y with
    | .agg ⟨m⟩ => match kindsEq ds l m with
      | some b => k (.bool b)
      | none => .fail
    | _ => .fail
  | _ => .fail
def kgn (ds : List Nat) (x y : Value) (k : Value → M β) : M β := match x with
  | .agg ⟨l⟩ => match y with
    | .agg ⟨m⟩ => match kindsEq ds l m with
      | some b => k (.bool !b)
      | none => .fail
    | _ => .fail
  | _ => .fail
def kpe (x y : Value) (k : Value → M β) : M β := nil1 (fun b => b) x y k
def kpn (x y : Value) (k : Value → M β) : M β := nil1 (fun b => !b) x y k
def kse (x y : Value) (k : Value → M β) : M β := nil3 (fun b => b) x y k
def ksn (x y : Value) (k : Value → M β) : M β := nil3 (fun b => !b) x y k
def kfe (x y : Value) (k : Value → M β) : M β := nil4 (fun b => b) x y k
def kfn (x y : Value) (k : Value → M β) : M β := nil4 (fun b => !b) x y k
def knt (x : Value) (k : Value → M β) : M β := match x with
  | .bool b => k (.bool (!b))
  | _ => .fail
def kng (x : Value) (k : Value → M β) : M β := match x with
  | .int a p => k (.int a (fwrap a (isub 0 p)))
  | _ => .fail
/-- all bits turned -/
def knx (x : Value) (k : Value → M β) : M β := match x with
  | .int .u32 (.ofNat p) => match Nat.ble p 4294967295 with
    | true => k (.int .u32 (.ofNat (Nat.sub 4294967295 p)))
    | false => .fail
  | _ => .fail
def kcv (kd : IntKind) (x : Value) (k : Value → M β) : M β := match x with
  | .int _ p => k (.int kd (fwrap kd p))
  | _ => .fail
def kid (x : Value) (k : Value → M β) : M β := match x with
  | .string s => k (.string s)
  | _ => .fail
def kln (x : Value) (k : Value → M β) : M β := match x with
  | .slice _ n _ => k (.int .i64 (.ofNat n))
  | _ => .fail
def klx (x : Value) (k : Value → M β) : M β := match x with
  | .string ⟨⟨l⟩⟩ => k (.int .i64 (.ofNat (lenB l)))
  | _ => .fail
def kmi (x y : Value) (k : Value → M β) : M β := match x with
  | .int a p => match y with
    | .int _ q => k (.int a (match ilt q p with
      | true => q
      | false => p))
    | _ => .fail
  | _ => .fail
/-- the least of six -/
def km6 (x y z u v w : Value) (k : Value → M β) : M β := kmi x y fun a => kmi a z fun a => kmi a u fun a => kmi a v fun a => kmi a w k
def kma (x y : Value) (k : Value → M β) : M β := match x with
  | .int a p => match y with
    | .int _ q => k (.int a (match ilt p q with
      | true => q
      | false => p))
    | _ => .fail
  | _ => .fail
def kpk (c a b : Value) (k : Value → M β) : M β := match c with
  | .bool true => k a
  | .bool false => k b
  | _ => .fail
def knn (x : Value) (k : Value → M β) : M β := match x with
  | .pointer (some a) => k (.pointer (some a))
  | .func (.func f) a b => k (.func (.func f) a b)
  | _ => .fail

/-! places -/
def kfa (K : Nat) (x : Value) (k : Value → M β) : M β := match x with
  | .pointer (some ⟨b, off, none⟩) => k (.pointer (some ⟨b, Nat.add off K, none⟩))
  | _ => .fail
def kfd (K : Nat) (x : Value) (k : Value → M β) : M β := match x with
  | .agg ⟨l⟩ => match nthV l K with
    | some v => k v
    | none => .fail
  | _ => .fail
def kfg (K m : Nat) (x : Value) (k : Value → M β) : M β := match x with
  | .agg ⟨l⟩ => k (.agg ⟨(l.drop K).take m⟩)
  | _ => .fail
def kix (x ix : Value) (k : Value → M β) : M β := match x with
  | .slice (some ⟨b, off, none⟩) n _ => match ix with
    | .int _ (.ofNat i) => match Nat.ble (Nat.succ i) n with
      | true => k (.pointer (some ⟨b, Nat.add off i, none⟩))
      | false => .fail
    | _ => .fail
  | _ => .fail
def kiy (sz : Nat) (x ix : Value) (k : Value → M β) : M β := match x with
  | .slice (some ⟨b, off, none⟩) n _ => match ix with
    | .int _ (.ofNat i) => match Nat.ble (Nat.succ i) n with
      | true => k (.pointer (some ⟨b, Nat.add off (Nat.mul i sz), none⟩))
      | false => .fail
    | _ => .fail
  | _ => .fail
def kia (n : Nat) (x ix : Value) (k : Value → M β) : M β := match x with
  | .pointer (some ⟨b, off, none⟩) => match ix with
    | .int _ (.ofNat i) => match Nat.ble (Nat.succ i) n with
      | true => k (.pointer (some ⟨b, Nat.add off i, none⟩))
      | false => .fail
    | _ => .fail
  | _ => .fail
def kib (n sz : Nat) (x ix : Value) (k : Value → M β) : M β := match x with
  | .pointer (some ⟨b, off, none⟩) => match ix with
    | .int _ (.ofNat i) => match Nat.ble (Nat.succ i) n with
      | true => k (.pointer (some ⟨b, Nat.add off (Nat.mul i sz), none⟩))
      | false => .fail
    | _ => .fail
  | _ => .fail
def kit (x ix : Value) (k : Value → M β) : M β := match x with
  | .string ⟨⟨l⟩⟩ => match ix with
    | .int _ (.ofNat i) => match nthB l i with
      | some c => k (.int .u8 (.ofNat c.toNat))
      | none => .fail
    | _ => .fail
  | _ => .fail
def kiv (n : Nat) (x ix : Value) (k : Value → M β) : M β := match x with
  | .agg ⟨l⟩ => match ix with
    | .int _ (.ofNat i) => match Nat.ble (Nat.succ i) n with
      | true => match nthV l i with
        | some v => k v
        | none => .fail
      | false => .fail
    | _ => .fail
  | _ => .fail
def kex (x : Value) (i : Nat) (k : Value → M β) : M β := match x with
  | .tuple ⟨l⟩ => match nthV l i with
    | some v => k v
    | none => .fail
  | _ => .fail
def bndN (o : Option Value) (d : Nat) : Option Nat := match o with
  | none => some d
  | some (.int _ (.ofNat i)) => some i
  | _ => none
def ksx (x : Value) (lo hi : Option Value) (k : Value → M β) : M β := match x with
  | .string ⟨⟨l⟩⟩ => match bndN lo 0 with
    | some a => match bndN hi (lenB l) with
      | some b => match Nat.ble a b with
        | true => match Nat.ble b (lenB l) with
          | true => k (.string ⟨⟨(l.drop a).take (Nat.sub b a)⟩⟩)
          | false => .fail
        | false => .fail
      | none => .fail
    | none => .fail
  | _ => .fail

/-! memory -/
def kld (x : Value) (k : Value → M β) : M β := match x with
  | .pointer (some ⟨b, off, none⟩) => insB (rd3 b off) k
  | _ => .fail
def klg (sz : Nat) (x : Value) (k : Value → M β) : M β := match x with
  | .pointer (some ⟨b, off, none⟩) => insB ((rdN3 b off sz).bind fun vs => .ret (.agg ⟨vs⟩)) k
  | _ => .fail
def kst (a x : Value) (k : Value → M β) : M β := match a with
  | .pointer (some ⟨b, off, none⟩) => match one x with
    | true => insB ((wr3 b off x).bind fun _ => .ret undef) k
    | false => .fail
  | _ => .fail
def ksg (sz : Nat) (a x : Value) (k : Value → M β) : M β := match a with
  | .pointer (some ⟨b, off, none⟩) => match x with
    | .agg ⟨l⟩ => match Nat.beq (lenV l) sz with
      | true => insB ((wrN3 b off l).bind fun _ => .ret undef) k
      | false => .fail
    | _ => .fail
  | _ => .fail
def kal (e : TypeId) (z : List Value) (k : Value → M β) : M β := insB ((newB3 e z).bind fun id => .ret (.pointer (some ⟨id, 0, none⟩))) k
def kbx (e : TypeId) (v : Value) (k : Value → M β) : M β := insB ((newB3 e (cellsL v)).bind fun id => .ret (.pointer (some ⟨id, 0, none⟩))) k
def fillQ : List Value → List (Nat × Nat × Value) → Option (List Value)
  | cs, [] => some cs
  | cs, q :: r => match Nat.beq (lenV (cellsL q.2.2)) q.2.1 with
    | true => match Nat.ble (Nat.add q.1 (lenV (cellsL q.2.2))) (lenV cs) with
      | true => fillQ (splice cs q.1 (cellsL q.2.2)) r
      | false => none
    | false => none
def kbd (z : List Value) (ps : List (Nat × Nat × Value)) (k : Value → M β) : M β := match fillQ z ps with
  | some cs => k (.agg ⟨cs⟩)
  | none => .fail
def kb1 (e : TypeId) (sz : Nat) (v : Value) (k : Value → M β) : M β := match Nat.beq (lenV (cellsL v)) sz with
  | true => insB ((newB3 e (cellsL v)).bind fun id => .ret (.slice (some ⟨id, 0, none⟩) 1 1)) k
  | false => .fail
def kbs (e : TypeId) (z : List Value) (len : Nat) (ps : List (Nat × Nat × Value)) (k : Value → M β) : M β := match fillQ z ps with
  | some cs => insB ((newB3 e cs).bind fun id => .ret (.slice (some ⟨id, 0, none⟩) len len)) k
  | none => .fail
def catV (z : List Value) : Nat → List Value
  | 0 => []
  | n + 1 => appV z (catV z n)
/-- z: an element's cells -/
def kmk (e : TypeId) (z : List Value) (l c : Value) (k : Value → M β) : M β := match l with
  | .int _ (.ofNat l) => match c with
    | .int _ (.ofNat c) => match Nat.ble l c with
      | true => match Nat.ble c 1099511627776 with
        | true => insB ((newB3 e (catV z c)).bind fun id => .ret (.slice (some ⟨id, 0, none⟩) l c)) k
        | false => .fail
      | false => .fail
    | _ => .fail
  | _ => .fail
def sl1 (sz : Nat) (a : Option Addr) (len cap : Nat) (lo hi : Option Value) : Option Value := match boundOf hi len, boundOf lo 0 with
  | some h, some l =>
    if l ≤ h && h ≤ cap && cap ≤ cap && (cap < CAP || ((none : Option Value).isNone && h ≤ len)) then
      match a with
      | none => some (.slice none (h - l) (cap - l))
      | some ⟨b, off, none⟩ => some (.slice (some ⟨b, if cap = l then off else off + l * sz, none⟩) (h - l) (cap - l))
      | _ => none
    else none
  | _, _ => none
def ksc (e : TypeId) (sz : Nat) (x : Value) (lo hi : Option Value) (k : Value → M β) : M β := match x with
  | .slice none len cap => match sl1 sz none len cap lo hi with
    | some v => k v
    | none => .fail
  | .slice (some ⟨b, off, none⟩) len cap => insB ((hdr3 b).bind fun e' => match Nat.beq e' e with
    | true => M.lift (sl1 sz (some ⟨b, off, none⟩) len cap lo hi)
    | false => .fail) k
  | _ => .fail
def appTo (e : TypeId) (n sz b off l cap : Nat) (new : List Value) : M Value :=
  if cap < CAP then
    if l + n ≤ cap then (wrN3 b (off + l * sz) new).bind fun _ => .ret (.slice (some ⟨b, off, none⟩) (l + n) cap)
    else (rdN3 b off (l * sz)).bind fun old => (newB3 e (old ++ new)).bind fun id => .ret (.slice (some ⟨id, 0, none⟩) (l + n) (CAP + (l + n)))
  else (rdN3 b off (l * sz)).bind fun old => (kill3 b).bind fun _ => (newB3 e (old ++ new)).bind fun id => .ret (.slice (some ⟨id, 0, none⟩) (l + n) (CAP + (l + n)))
def appQ (e : TypeId) (sz : Nat) (s x : Value) : M Value := match lenOf? x with
  | some n =>
    if n = 0 then (match s with | .slice _ _ _ => .ret s | _ => .fail) else
    match s with
    | .slice none 0 0 => if n ≤ 1099511627776 then (elems3 sz n x).bind fun new => if new.length = n * sz && new.all one then (newB3 e ([] ++ new)).bind fun id => .ret (.slice (some ⟨id, 0, none⟩) (0 + n) (CAP + (0 + n))) else .fail else .fail
    | .slice (some ⟨b, off, none⟩) l cap =>
      if l + n ≤ 1099511627776 then
      (hdr3 b).bind fun e' => if e' = e then
        (elems3 sz n x).bind fun new => if new.length = n * sz && new.all one then appTo e n sz b off l cap new else .fail
      else .fail
      else .fail
    | _ => .fail
  | none => .fail
def kap (e : TypeId) (sz : Nat) (s x : Value) (k : Value → M β) : M β := insB (appQ e sz s x) k
def cpQ (sz : Nat) (d s : Value) : M Value := match d, lenOf? s with
  | .slice a dl _, some sl =>
    if 0 < Nat.min sl dl then (match a with
      | some ⟨b, off, none⟩ => (elems3 sz (Nat.min sl dl) s).bind fun vs => (wrN3 b off vs).bind fun _ => .ret (.int .i64 (Nat.min sl dl))
      | _ => .fail)
    else .ret (.int .i64 0)
  | _, _ => .fail
def kcp (sz : Nat) (d s : Value) (k : Value → M β) : M β := insB (cpQ sz d s) k
def kts (x : Value) (k : Value → M β) : M β := match x with
  | .slice (some ⟨b, off, none⟩) len _ => insB ((rdN3 b off len).bind fun vs => match bytesL vs with
    | some l => .ret (.string ⟨⟨l⟩⟩)
    | none => .fail) k
  | .slice none _ _ => k (.string ⟨⟨[]⟩⟩)
  | _ => .fail
def ktb (e : TypeId) (x : Value) (k : Value → M β) : M β := match x with
  | .string ⟨⟨l⟩⟩ => match Nat.ble (lenB l) 1099511627776 with
    | true => insB ((newB3 e (l.map fun b => Value.int .u8 (.ofNat b.toNat))).bind fun id => .ret (.slice (some ⟨id, 0, none⟩) (lenB l) (CAP + lenB l))) k
    | false => .fail
  | _ => .fail
def kcl (R : FuncId → Array Value → M Value) (f : FuncId) (vs : List Value) (k : Value → M β) : M β := insB (R f ⟨vs⟩) k
end

end Go.Proofs.YtmjolmggelkjlaaGreat.Ev
