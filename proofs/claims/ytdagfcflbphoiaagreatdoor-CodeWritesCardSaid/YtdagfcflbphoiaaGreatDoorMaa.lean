import Derived.WalkKit
import Derived.WalkSpells
import Derived.WalkLawsBesides
import Derived.Lib.Bytealg
import Derived.Lib.Bytes
import Derived.Lib.Repeat
import Derived.Laws.Append
import Derived.Laws.Cells
import Derived.Orders
import Derived.Laws.Sem
import Derived.Laws.MakeOwn
import Derived.Laws.BytesString
open Nat renaming le_refl→av, add_mul→lj, pow_succ→oH, le_trans→Cj, add_assoc→Hj, strongRecOn→N9, lt_or_ge→Ob
open List renaming getD_eq_getElem?_getD→aF, getElem?_eq_none→qI, foldl_cons→aaK, getElem?_set_ne→alJ, mem_of_getElem?→alQ
open Bool renaming and_eq_true→cb, false_eq_true→sd, or_eq_true→xI, true_and→N'
open Option.some renaming injEq→ee, inj→xK
open Go.Sem renaming run_bind→eI, run_pure→oI, bind→zG, run→Ci
open Go.Result renaming andThen→fi
open Go.Region renaming wanted→fJ, binds→pM, ready→Oa
open Go.Value renaming int→gZ
open Go.Instr renaming fill→lQ, index→Co, sliceAt→Cp, sureAddr→Hi, sliceBound→Of, buildSlice→aaM, loadAt→aaN, indexAt→aaQ, alloc→alW, build→alX, storeAt→al0, field→al5, fieldAt→al6, extract→al7, sliceBounds→al8
open UInt8 renaming ofNat→nB
open Array renaming getD_eq_getD_getElem?→pN, all_eq_true_iff_forall_mem→uB, replicate→zJ, getElem?_modify→Hh, getElem?_setIfInBounds_ne→aaI, map_congr_left→aaJ, mem_of_getElem?→alS, getElem?_replicate→alU, getElem?_append_left→alV
open Go.RowKit.Below renaming refl→r7, drew→alT
open Go.Call renaming operands→zI
open Option renaming map_some→Ch, bind_some→N8, isNone_iff_eq_none→al9
open Go.World renaming freeze→Oe
open Go.Question renaming cut→aaO, forced→al3
open Go renaming undef→alK
open Go.Act renaming put→alN
open Go.Oper renaming looksAt→alO, apart_spec→alR
open Go.Conv renaming bytesToString→al1, stringToBytes→al2
open Classical renaming choose→anI, choose_spec→anJ
set_option linter.unusedVariables false
set_option linter.unusedSimpArgs false
namespace Go.Proofs.YtdagfcflbphoiaaGreatDoor.Ev
open Go
def KN:List FuncId:=[8]
def NV:List (FuncId×Nat):=[]
def KG:List (Nat×Nat×Value):=[(0,0,.int .i64 200),(0,1,.int .i64 600),(0,2,.int .i64 1200),(0,3,.int .i64 2400)]
inductive Tr (α:Type) where
 |nil
 |node (l:Tr α) (v:Option α) (r:Tr α)
def Tr.get{α:Type}:Nat->Tr α->Nat->Option α
 |0,_,_=>none
 |_+1,.nil,_=>none
 |f+1,.node l v r,i=>if i=0 then v else if i %2=1 then Tr.get f l (i/2)else Tr.get f r (i/2-1)
def Tr.set{α:Type}:Nat->Tr α->Nat->Option α->Tr α
 |0,t,_,_=>t
 |f+1,.nil,i,a=>if i=0 then .node .nil a .nil else if i %2=1 then .node (Tr.set f .nil (i/2) a) none .nil else .node .nil none (Tr.set f .nil (i/2-1) a)
 |f+1,.node l v r,i,a=>if i=0 then .node l a r else if i %2=1 then .node (Tr.set f l (i/2) a) v r else .node l v (Tr.set f r (i/2-1) a)
structure AB where
 elem:TypeId
 own:Bool
 cells:List Value
abbrev H:=Tr AB
def H.get(h:H)(b:Nat):Option AB:=Tr.get (b+1) h b
def H.set(h:H)(b:Nat)(x:Option AB):H:=Tr.set (b+1) h b x
abbrev S:=Tr Value
def S.get(s:S)(t:Nat):Value:=(Tr.get 10 s t).getD undef
def S.put(s:S)(t:Nat)(v:Value):S:=Tr.set 10 s t (some v)
structure En where
 wr:Bool
 b:Nat
 k:Option Nat
structure Out (α:Type) where
 val:α
 h:H
 n:Nat
 log:List En
def M(α:Type):=H->Nat->Option (Out α)
def M.ret{α:Type}(a:α):M α:=fun h n=>some ⟨a,h,n,[]⟩
def M.fail{α:Type}:M α:=fun _ _=>none
def M.lift{α:Type}(o:Option α):M α:=fun h n=>match o with|some a=>some ⟨a,h,n,[]⟩|none=>none
def M.bind{α β:Type}(m:M α)(f:α->M β):M β:=fun h n=>
 match m h n with
 |some ⟨a,h1,n1,L1⟩=>match f a h1 n1 with
  |some ⟨c,h2,n2,L2⟩=>some ⟨c,h2,n2,L1++L2⟩
  |none=>none
 |none=>none
instance:Monad M where
 pure:=M.ret
 bind:=M.bind
def rd(b k:Nat):M Value:=fun h n=>
 if b<n then match h.get b with
  |some B=>match B.cells[k]? with
   |some v=>some ⟨v,h,n,[⟨false,b,some k⟩]⟩
   |none=>none
  |none=>none
 else none
def one:Value->Bool
 | .agg _| .tuple _=>false
 |_=>true
def wr(b k:Nat)(v:Value):M Unit:=fun h n=>
 if b<n then match h.get b with
  |some B=>if B.own&&k<B.cells.length&&one v then some ⟨(),h.set b (some {B with cells:=B.cells.set k v}),n,[⟨false,b,some k⟩,⟨true,b,some k⟩]⟩else none
  |none=>none
 else none
def cY(e:TypeId)(cs:List Value):M Nat:=fun h n=>
 if n<n+1 then some ⟨n,h.set n (some ⟨e,true,cs⟩),n+1,[]⟩else none
def whole(b:Nat):M AB:=fun h n=>
 if b<n then match h.get b with
  |some B=>some ⟨B,h,n,[⟨false,b,none⟩]⟩
  |none=>none
 else none
def gN(b:Nat):M TypeId:=fun h n=>
 if b<n then match h.get b with
  |some B=>some ⟨B.elem,h,n,[⟨false,b,some 1099511627776⟩]⟩
  |none=>none
 else none
def kill(b:Nat):M Unit:=fun h n=>
 if b<n then match h.get b with
  |some B=>if B.own then some ⟨(),h.set b none,n,[⟨false,b,none⟩,⟨true,b,none⟩]⟩else none
  |none=>none
 else none
def dj(b k:Nat):Nat->M (List Value)
 |0=> .ret []
 |n+1=>(rd b k).bind fun v=>(dj b (k+1) n).bind fun vs=> .ret (v::vs)
def ez(b k:Nat):List Value->M Unit
 |[]=> .ret ()
 |v::vs=>(wr b k v).bind fun _=>ez b (k+1) vs
def inside{α:Type}(m:M α):M α:=fun h n=>
 match m h n with
 |some ⟨a,h1,n1,L⟩=>some ⟨a,h1,n1,L.filter fun e=> !(n<=e.b&&e.b<n1)⟩
 |none=>none
def bc:Nat:=1152921504606846976
def kI(P:Program)(t:TypeId):Option Bool:=
 match P.underlying t with
 |some (.struct _)|some (.array _ _)=>some true
 |some _=>some false
 |none=>none
def size?(P:Program)(t:TypeId):Option Nat:=(P.info? t).map (·.size)
def qM:Value->Bool
 | .bool _| .int _ _| .float _ _| .string _| .pointer none| .nilFunc=>true
 | .slice none n c=>n<=c&&c<bc
 |_=>false
def clean:Value->Bool
 | .agg cs=>cs.all qM
 | .tuple cs=>cs.all qM
 |v=>qM v
def fK(P:Program)(t:TypeId):Option Value:=match (P.info? t).bind (·.zero)with
 |some z=>if clean z then some z else none
 |none=>none
def scalar:Value->Bool
 | .bool _| .int _ _| .string _=>true
 |_=>false
def je(P:Program):Sem Next->Option Value
 | .pure (.value v)=>some v
 | .program k=>je P (k P)
 |_=>none
def partOf(P:Program)(t:TypeId)(cs:Array Value)(off:Nat):Option Value:=
 match kI P t,size? P t with
 |some true,some n=>some (.agg (cs.extract off (off+n)))
 |some false,_=>cs[off]?
 |_,_=>none
def bytesOf:List Value->ByteArray->Option ByteArray
 |[],acc=>some acc
 | .int .u8 n::r,acc=>bytesOf r (acc.push (nB n.toNat))
 |_,_=>none
inductive Nx where
 |val (v:Value)
 |call (f:FuncId) (args:Array Value)
def j8(sz:Nat)(n:Nat):Value->M (List Value)
 | .slice (some ⟨b,off,none⟩) _ _=>dj b off (n*sz)
 | .string s=> .ret ((s.extract 0 n).data.map fun b=>gZ .u8 b.toNat).toList
 |_=> .fail
def gO:Value->Option Nat
 | .slice _ n _=>some n
 | .string s=>some s.size
 |_=>none
def nF(e:TypeId)(l n:Nat)(old new:List Value):M Value:=
 (cY e (old++new)).bind fun id=> .ret (.slice (some ⟨id,0,none⟩) (l+n) (bc+(l+n)))
def uH(e:TypeId)(n sz b off l cap:Nat)(new:List Value):M Value:=
 if cap<bc then
  if l+n<=cap then(ez b (off+l*sz) new).bind fun _=> .ret (.slice (some ⟨b,off,none⟩) (l+n) cap)
  else(dj b off (l*sz)).bind fun old=>nF e l n old new
 else(dj b off (l*sz)).bind fun old=>(kill b).bind fun _=>nF e l n old new
def pR(P:Program)(abj:TypeId)(s x:Value):M Value:=
 match P.underlying abj with
 |some (.slice e)=>match P.info? e,fK P e,gO x with
  |some ie,some z,some n=>
    if z.cells.size=ie.size&&1<=ie.size&&ie.bytes<=64 then
    if n=0 then(match s with| .slice _ _ _=> .ret s|_=> .fail)else
    match s with
    | .slice none 0 0=>if n<=1099511627776 then(j8 ie.size n x).bind fun new=>if new.length=n*ie.size&&new.all one then nF e 0 n [] new else .fail else .fail
    | .slice (some ⟨b,off,none⟩) l cap=>
      if l+n<=1099511627776 then
      (gN b).bind fun e'=>if e'=e then
        (j8 ie.size n x).bind fun new=>if new.length=n*ie.size&&new.all one then uH e n ie.size b off l cap new else .fail
      else .fail
      else .fail
    |_=> .fail
    else .fail
  |_,_,_=> .fail
 |_=> .fail
def er(o:Option Value)(d:Nat):Option Nat:=
 match o with
 |none=>some d
 |some (.int _ i)=>if 0<=i then some i.toNat else none
 |_=>none
def nG:Option TypeDesc->Value->Value->Option Bool
 |some (.pointer _),.pointer none,.pointer b=>some b.isNone
 |some (.pointer _),.pointer _,.pointer none=>some false
 |some (.slice _),.slice none _ _,.slice b _ _=>some b.isNone
 |some (.slice _),.slice _ _ _,.slice none _ _=>some false
 |some (.func _ _ _),.nilFunc,.nilFunc=>some true
 |some (.func _ _ _),.nilFunc,.func _ _ _=>some false
 |some (.func _ _ _),.func _ _ _,.nilFunc=>some false
 |_,_,_=>none
def xN(P:Program)(t:TypeId)(x:Value)(lo hi mx:Option Value):Option Value:=
 match P.underlying t,x with
 |some (.slice e),.slice a len cap=>
  match size? P e,er mx cap,er hi len,er lo 0 with
  |some sz,some m,some h,some l=>
   if mx.isSome&& !hi.isSome then none else
   if l<=h&&h<=m&&m<=cap&&(cap<bc||(mx.isNone&&h<=len))then
    match a with
    |none=>some (.slice none (h-l) (m-l))
    |some ⟨b,off,none⟩=>some (.slice (some ⟨b,if m=l then off else off+l*sz,none⟩) (h-l) (m-l))
    |_=>none
   else none
  |_,_,_,_=>none
 |_,_=>none
def oN(P:Program)(t:TypeId)(x:Value)(lo hi mx:Option Value):M Value:=
 match x with
 | .slice (some ⟨b,_,none⟩) _ _=>(gN b).bind fun e'=>match P.underlying t with
   |some (.slice e)=>if size? P e'=size? P e then M.lift (xN P t x lo hi mx)else .fail
   |_=> .fail
 |_=>M.lift (xN P t x lo hi mx)
def nH(P:Program)(e:TypeId):M Value:=
 match fK P e with
 |some z=>(cY e z.cells.toList).bind fun id=> .ret (.pointer (some ⟨id,0,none⟩))
 |none=> .fail
def nI(P:Program)(e:TypeId)(v:Value):M Value:=
 match size? P e with
 |some _=>(cY e v.cells.toList).bind fun id=> .ret (.pointer (some ⟨id,0,none⟩))
 |none=> .fail
def placeOf(P:Program)(fs:Array Field)(i:Nat):Option (Nat×Nat):=(fs[i]?).bind fun f=>(size? P f.type).map fun n=>(f.offset,n)
def mJ(P:Program)(t:TypeId)(parts:List (Nat×Value)):M Value:=
 match fK P t,P.underlying t with
 |some z,some (.struct fs)=>if fs.all fun f=>(size? P f.type).isSome then
   (match lQ (placeOf P fs) z.cells parts with
   |some cs=> .ret (.agg cs)
   |none=> .fail)else .fail
 |_,_=> .fail
def gP(z:Value)(n:Nat):Array Value:=(Array.range n).map (z.cells[·%z.cells.size]!)
def mK(P:Program)(t:TypeId)(len:Nat)(parts:List (Nat×Value)):M Value:=
 match P.underlying t with
 |some (.slice e)=>match size? P e,fK P e with
  |some sz,some z=>
   if len=0&&parts.isEmpty then(cY e []).bind fun id=> .ret (.slice (some ⟨id,0,none⟩) 0 0)else
   if 0<len*sz&&len*sz<=65536 then
    match lQ (fun i=>some (i*sz,sz)) (gP z (len*sz)) parts with
    |some cs=>(cY e cs.toList).bind fun id=> .ret (.slice (some ⟨id,0,none⟩) len len)
    |none=> .fail
   else .fail
  |_,_=> .fail
 |_=> .fail
def jf(P:Program)(t:TypeId):Value->M Value
 | .pointer (some ⟨b,off,none⟩)=>match kI P t,size? P t with
   |some true,some n=>(dj b off n).bind fun vs=> .ret (.agg vs.toArray)
   |some false,_=>rd b off
   |_,_=> .fail
 |_=> .fail
def oO(P:Program)(t:TypeId)(a x:Value):M Value:=
 match a with
 | .pointer (some ⟨b,off,none⟩)=>match size? P t with
   |some n=>if x.cells.size=n then(ez b off x.cells.toList).bind fun _=> .ret undef else .fail
   |none=> .fail
 |_=> .fail
def qN:Value->M Value
 | .pointer (some a)=> .ret (.pointer (some a))
 | .func (.func f) a b=> .ret (.func (.func f) a b)
 |_=> .fail
def nJ:Value->M Value
 | .slice none _ _=> .ret (.string .empty)
 | .slice (some ⟨b,off,none⟩) len _=>(dj b off len).bind fun vs=>match bytesOf vs .empty with
   |some s=> .ret (.string s)
   |none=> .fail
 |_=> .fail
def qO(e:TypeId)(s:ByteArray):M Value:=
 if s.size<=1099511627776 then(cY e (s.data.map fun b=>gZ .u8 b.toNat).toList).bind fun id=> .ret (.slice (some ⟨id,0,none⟩) s.size (bc+s.size))else .fail
def nK(P:Program)(e:TypeId):Bool:=match P.underlying e with|some (.int .u8)=>true|_=>false
def sx:Option TypeDesc->Option TypeDesc->Option TypeId
 |some (.slice e),some .string=>some e
 |_,_=>none
def uI:Option TypeDesc->Option TypeDesc->Value->Option (TypeId×ByteArray)
 |some .string,some (.slice e),.string s=>some (e,s)
 |_,_,_=>none
def nL(P:Program)(t:TypeId)(l c:Value):M Value:=
 match P.underlying t,l,c with
 |some (.slice e),.int _ l,.int _ c=>match P.info? e,fK P e with
  |some ie,some z=>if 0<=l&&l<=c&&c<=1099511627776&&ie.bytes<=64&&z.cells.size=ie.size&&1<=ie.size then
    (cY e (gP z (c.toNat*ie.size)).toList).bind fun id=> .ret (.slice (some ⟨id,0,none⟩) l.toNat c.toNat)
   else .fail
  |_,_=> .fail
 |_,_,_=> .fail
def xO(P:Program)(s:TypeId)(x:Value)(f:Nat):Option Value:=
 match P.underlying s,x with
 |some (.struct fs),.pointer (some ⟨b,off,none⟩)=>match fs[f]? with
  |some fd=>match size? P fd.type with
   |some n=>if n=0 then none else some (.pointer (some ⟨b,off+fd.offset,none⟩))
   |none=>none
  |none=>none
 |_,_=>none
def sA(P:Program)(t:TypeId)(x:Value)(f:Nat):Option Value:=
 match P.underlying t,x with
 |some (.struct fs),.agg cs=>match fs[f]? with
  |some fd=>partOf P fd.type cs fd.offset
  |none=>none
 |_,_=>none
def qP(P:Program)(t:TypeId)(x ix:Value):Option Value:=
 match P.underlying t,x,ix with
 |some (.slice e),.slice (some ⟨b,off,none⟩) len _,.int _ i=>match size? P e with
  |some sz=>if 0<=i∧i<len then some (.pointer (some ⟨b,off+i.toNat*sz,none⟩))else none
  |none=>none
 |some (.array len e),.pointer (some ⟨b,off,none⟩),.int _ i=>match size? P e with
  |some sz=>if 0<=i∧i<len then some (.pointer (some ⟨b,off+i.toNat*sz,none⟩))else none
  |none=>none
 |_,_,_=>none
def xP(P:Program)(t:TypeId)(x ix:Value):Option Value:=
 match P.underlying t,x,ix with
 |some (.array len e),.agg cs,.int _ i=>match size? P e with
  |some sz=>if 0<=i∧i<len then partOf P e cs (i.toNat*sz)else none
  |none=>none
 |_,_,_=>none
def sB(x:Value)(i:Nat):Option Value:=
 match x with
 | .tuple vs=>vs[i]?
 |_=>none
def fT(P:Program)(ρ:Operand->Value)(o:Oper):M Nx:=
 if o.op.operands.all fun x=>scalar (ρ x)then(M.lift (je P (execOp ρ o))).bind fun v=>if scalar v then .ret (.val v)else .fail else .fail
def isStr:Value->Bool
 | .string _=>true
 |_=>false
def Cz:Value->Option (FuncId×Array Value×Array Value)
 | .func (.func g) first captured=>some (g,first,captured)
 |_=>none
def mL(P:Program)(g:FuncId):Bool:=match P.funcs[g]? with
 |some fn=>fn.body.isSome
 |none=>false
def OJ(P:Program)(t:TypeId):Bool:=match P.underlying t with
 |some (.slice _)|some .string=>true
 |_=>false
def xQ(P:Program)(dk:Array TypeId)(args:List Value):Option (TypeId×Value×Value):=match dk[0]?,dk[1]?,args with
 |some t,some u,[s,x]=>if OJ P u then some (t,s,x)else none
 |_,_,_=>none
def pS(P:Program)(t:TypeId)(d s:Value):M Value:=
 match P.underlying t with
 |some (.slice e)=>match size? P e,d,gO s with
  |some sz,.slice a dl _,some sl=>
   if 0<Nat.min sl dl then(match a with
    |some ⟨b,off,none⟩=>(j8 sz (Nat.min sl dl) s).bind fun vs=>(ez b off vs).bind fun _=> .ret (.int .i64 (Nat.min sl dl))
    |_=> .fail)
   else .ret (.int .i64 0)
  |_,_,_=> .fail
 |_=> .fail
def xR(dk:Array TypeId)(args:List Value):Option (TypeId×Value×Value):=match dk[0]?,args with
 |some t,[d,s]=>some (t,d,s)
 |_,_=>none
def uJ(P:Program)(dk:Array TypeId)(args:List Value):Option Nat:=match dk[0]?,args with
 |some t,.slice _ n _::_=>(match P.underlying t with|some (.slice _)=>some n|_=>none)
 |_,_=>none
def kJ(P:Program)(ρ:Operand->Value)(o:Oper)(c:Call)(args:Array Value):M Nx:=
 match c.callee with
 | .value f=>match Cz (ρ f)with
   |some (g,first,captured)=>if mL P g then .ret (.call g (first++args++captured))else .fail
   |none=> .fail
 | .builtin .append=>match xQ P c.argTypes args.toList with
   |some (t,s,x)=>(pR P t s x).bind fun v=> .ret (.val v)
   |none=> .fail
 | .builtin .copy=>match xR c.argTypes args.toList with
   |some (t,d,s)=>(pS P t d s).bind fun v=> .ret (.val v)
   |none=> .fail
 | .builtin .len=>match uJ P c.argTypes args.toList with
   |some n=> .ret (.val (.int .i64 n))
   |none=>fT P ρ o
 | .builtin .min| .builtin .max=>fT P ρ o
 |_=> .fail
def bU(P:Program)(ρ:Operand->Value)(o:Oper):M Nx:=
 match o.op with
 | .move x| .assign x=> .ret (.val (ρ x))
 | .pick c a b=>match ρ c with
   | .bool t=> .ret (.val (if t then ρ a else ρ b))
   |_=> .fail
 | .alloc e=>(nH P e).bind fun v=> .ret (.val v)
 | .box e x=>(nI P e (ρ x)).bind fun v=> .ret (.val v)
 | .build t parts=>(mJ P t (parts.toList.map fun(i,x)=>(i,ρ x))).bind fun v=> .ret (.val v)
 | .buildSlice t len parts=>(mK P t len (parts.toList.map fun(i,x)=>(i,ρ x))).bind fun v=> .ret (.val v)
 | .load t a=>(jf P t (ρ a)).bind fun v=> .ret (.val v)
 | .store t a x=>(oO P t (ρ a) (ρ x)).bind fun v=> .ret (.val v)
 | .nilCheck x=>(qN (ρ x)).bind fun v=> .ret (.val v)
 | .binOp op t x y _=>match nG (P.underlying t) (ρ x) (ρ y),op with
   |some v,.eql=> .ret (.val (.bool v))
   |some v,.neq=> .ret (.val (.bool (!v)))
   |none,_=>fT P ρ o
   |_,_=> .fail
 | .unOp _ _ _=>fT P ρ o
 | .convert src dst x=>match sx (P.underlying src) (P.underlying dst)with
   |some e=>if nK P e then(nJ (ρ x)).bind fun v=> .ret (.val v)else .fail
   |none=>match uI (P.underlying src) (P.underlying dst) (ρ x)with
    |some (e,s)=>if nK P e&&size? P e==some 1 then(qO e s).bind fun v=> .ret (.val v)else .fail
    |none=>fT P ρ o
 | .makeFunc fn a b=> .ret (.val (.func fn (a.map ρ) (b.map ρ)))
 | .makeSlice t l c=>(nL P t (ρ l) (ρ c)).bind fun v=> .ret (.val v)
 | .slice t x lo hi mx=>if isStr (ρ x)then fT P ρ o else(oN P t (ρ x) (lo.map ρ) (hi.map ρ) (mx.map ρ)).bind fun v=> .ret (.val v)
 | .fieldAddr s x f=>(M.lift (xO P s (ρ x) f)).bind fun v=> .ret (.val v)
 | .field t x f=>(M.lift (sA P t (ρ x) f)).bind fun v=> .ret (.val v)
 | .indexAddr t x ix=>(M.lift (qP P t (ρ x) (ρ ix))).bind fun v=> .ret (.val v)
 | .index t x ix=>if isStr (ρ x)then fT P ρ o else(M.lift (xP P t (ρ x) (ρ ix))).bind fun v=> .ret (.val v)
 | .extract t i=>(M.lift (sB (ρ t) i)).bind fun v=> .ret (.val v)
 | .call c=>kJ P ρ o c (c.args.map ρ)
 |_=> .fail
def ev(s:S):Operand->Value
 | .tmp t=>s.get t
 | .const v=>v
 | .global g=> .pointer (some ⟨g,0,none⟩)
 | .func f=> .func (.func f) #[] #[]
def kK(nt:Nat)(s:S)(dst:Option Tmp)(v:Value):Option S:=
 match dst with
 |none=>some s
 |some d=>if d<nt&&d<1023 then some (s.put d v)else none
def fZ(ops:Array Oper)(s:S)(j:Nat):Option Bool:=
 match (ops[j]?).bind (·.dst)with
 |some t=>match s.get t with
  | .bool b=>some b
  |_=>none
 |none=>none
def lS:List Oper->List Nat->List Nat
 |[],acc=>acc
 |o::r,acc=>lS r (acc++[o.after.toList.foldl (fun s e=>if pM .any e then s|||2^e.on|||acc.getD e.on 0 else s) 0])
structure Tk where
 n:Nat
 n1:Nat
 log:List En
def aV{α:Type}(m:M α):M (α×Tk):=fun h n=>
 match m h n with
 |some ⟨a,h1,n1,L⟩=>some ⟨(a,⟨n,n1,L⟩),h1,n1,L⟩
 |none=>none
def tagged:Nat->List Tk->List (Nat×Tk)
 |_,[]=>[]
 |i,t::r=>(i,t)::tagged (i+1) r
def En.meets(x y:En):Bool:=x.b==y.b&&(x.k==y.k||x.k.isNone||y.k.isNone)
def Tk.iQ(a b:Tk):Bool:=
 (a.log.any fun x=>x.wr&&b.log.any fun y=>x.meets y)||(b.log.any fun x=>x.wr&&a.log.any fun y=>x.meets y)||
 (a.log.any fun x=>b.n<=x.b&&x.b<b.n1)||(b.log.any fun x=>a.n<=x.b&&x.b<a.n1)
def looks(ops:Array Oper)(o:Oper):List Tmp:=o.looksAt ops
def pT(ops:Array Oper)(x y:Oper):Bool:= !(x.apart ops y)
def pU(ops:Array Oper)(dc:List Nat):List (Nat×Tk)->Bool
 |[]=>true
 |(j,tj)::r=>(r.all fun(k,tk)=>(dc.getD k 0).testBit j||(!(tj.iQ tk)&& !(pT ops (ops.getD j default) (ops.getD k default))))&&pU ops dc r
def sC(ops:Array Oper):Bool:=ops.toList.zipIdx.all fun(o,i)=>o.after.all (fun e=> !Region.binds .any e||e.on<i)&& !(o.op matches .select ..)
inductive Ex where
 |normal|ret
 |exit (id:Nat)
section
variable (P:Program) (rec:FuncId->Array Value->M Value) (nt:Nat)
def fD(ops:Array Oper)(o:Oper)(s:S):M Value:=
 if fJ o (fZ ops s)then
  (bU P (ev s) o).bind fun
    | .val v=> .ret v
    | .call f args=>rec f args
 else .ret undef
def iR(ops:Array Oper):List Oper->S->M (S×List Tk)
 |[],s=> .ret (s,[])
 |o::r,s=>(aV (inside (fD P rec ops o s))).bind fun x=>(M.lift (kK nt s o.dst x.1)).bind fun s1=>(iR ops r s1).bind fun y=> .ret (y.1,x.2::y.2)
def pV(ops:Array Oper)(draw:Bool)(s:S):M S:=
 (iR P rec nt ops ops.toList s).bind fun y=>
   if !draw||(sC ops&&pU ops (lS ops.toList []) (tagged 0 y.2))then .ret y.1 else .fail
def dP:Nat->Code->S->M (Ex×S)
 |0,_,_=> .fail
 |f+1,c,s=>match c with
  | .skip| .label _=> .ret (.normal,s)
  | .region _ ops draw=>(pV P rec nt ops draw s).bind fun s1=> .ret (.normal,s1)
  | .seq a b=>(dP f a s).bind fun
    |(.normal,s1)=>dP f b s1
    |(e,s1)=> .ret (e,s1)
  | .cond c a b=>match ev s c with
    | .bool t=>dP f (if t then a else b) s
    |_=> .fail
  | .block id c=>(dP f c s).bind fun
    |(.exit i,s1)=>if i=id then .ret (.normal,s1)else .ret (.exit i,s1)
    |(e,s1)=> .ret (e,s1)
  | .loop c=>(dP f c s).bind fun
    |(.normal,s1)=>dP f (.loop c) s1
    |(e,s1)=> .ret (e,s1)
  | .exit id=> .ret (.exit id,s)
  | .ret=> .ret (.ret,s)
  |_=> .fail
end
def CA(P:Program):Operand->Bool
 | .const v=>clean v
 | .global g=>g<P.globals.size
 |_=>true
def xS(P:Program)(o:Oper):Bool:=o.op.operands.all (CA P)
def lr(P:Program):Code->Bool
 | .region _ ops _=>ops.all (xS P)
 | .seq a b=>lr P a&&lr P b
 | .cond c a b=>CA P c&&lr P a&&lr P b
 | .block _ c| .loop c=>lr P c
 |_=>true
def sE(P:Program):Bool:=P.funcs.all fun fn=> !(fn.name== "runtime.NumGoroutine")
def qQ(P:Program)(bad:List FuncId):Bool:=
 P.funcs.toList.zipIdx.all fun(fn,i)=>bad.contains i||(match fn.body with|some c=>lr P c|none=>true)
def sF:Nat->List Value->S->S
 |_,[],s=>s
 |i,v::r,s=>sF (i+1) r (s.put i v)
def jg(P:Program)(s:S):List ResultVar->M (List Value)
 |[]=> .ret []
 | .tmp t::r=>(jg P s r).bind fun vs=> .ret (s.get t::vs)
 | .cell a t::r=>(jf P t (s.get a)).bind fun v=>(jg P s r).bind fun vs=> .ret (v::vs)
def xT(P:Program)(f:FuncId):Bool:=match P.funcs[f]? with
 |some fn=>fn.params.size==0
 |none=>false
def xU:Value->Value->Bool
 | .int k a,.int k' b=>decide (k=k')&&decide (a=b)
 |_,_=>false
def mM(P:Program):List (Nat×Nat×Value)->M Unit
 |[]=> .ret ()
 |g::r=>(rd g.1 g.2.1).bind fun u=>if(decide (g.1<P.globals.size)&&xU u g.2.2)=true then mM P r else .fail
def HB:List (FuncId×Nat)->FuncId->Option Nat
 |[],_=>none
 |q::r,f=>match Nat.beq q.1 f with
  |true=>some q.2
  |false=>HB r f
def sG(f:FuncId):Option Nat:=HB NV f
def zT:List Value->Option (List Int)
 |[]=>some []
 | .int .u8 x::r=>match zT r with
   |some l=>some (x::l)
   |none=>none
 |_=>none
def OK(c:Int):Option (List Int)->M Value
 |some l=> .ret (.int .i64 (Lib.indexByte (Lib.bytesOf l) c.toNat.toUInt8))
 |none=> .fail
def HC(b off len:Nat)(c:Int):M Value:=(dj b off len).bind fun vs=>OK c (zT vs)
def HD(s:ByteArray)(c:Int):M Value:=if(decide (0<=c)&&decide (c<=1000000)&&decide (s.size<=1000000))=true then .ret (.string ⟨(Lib.repeatL s.data.toList c.toNat).toArray⟩)else .fail
def HE:List Value->M Value
 |[.slice (some ⟨b,off,none⟩) len _,.int .u8 c]=>HC b off len c
 |_=> .fail
def HF:List Value->M Value
 |[.string s,.int .i64 c]=>HD s c
 |_=> .fail
def sH(k:Nat)(args:List Value):M Value:=match k with
 |1=>HE args
 |2=>HF args
 |_=> .fail
def cS(P:Program)(bad:List FuncId):Nat->FuncId->Array Value->M Value
 |0,_,_=> .fail
 |fuel+1,f,args=>if bad.contains f then(match sG f with
  |some k=>sH k args.toList
  |none=>if(decide (args.size=0)&&xT P f)=true then(mM P KG).bind fun _=> .ret (.bool true)else .fail)else match P.funcs[f]? with
  |some fn=>match fn.body with
   |some c=>if args.size<=fn.ntmps&&fn.ntmps<1000 then
     inside ((dP P (cS P bad fuel) fn.ntmps fuel c (sF 0 args.toList .nil)).bind fun
      |(.normal,s)|(.ret,s)=>(jg P s fn.results.toList).bind fun vs=> .ret (match vs with|[v]=>v|_=> .tuple vs.toArray)
      |(.exit _,_)=> .fail)
    else .fail
   |none=> .fail
  |none=> .fail
theorem Tr.get_nil{α:Type}(f j:Nat):Tr.get f (.nil:Tr α) j=none:=by cases f<;>rfl
theorem Tr.ji{α:Type}:∀(f:Nat) (t:Tr α) (i:Nat) (a:Option α) (j:Nat),i<2^f-1->Tr.get f (Tr.set f t i a) j=if j=i then a else Tr.get f t j:=by
 intro f
 induction f with
 |zero=>intro t i a j h;simp at h
 |succ f ih=>
  intro t i a j hi
  have h2:2^(f+1)=2*2^f:=by rw[oH];omega
  have h1:1<=2^f:=Nat.one_le_two_pow
  cases t with
  |nil=>
   unfold Tr.set
   by_cases h0:i=0
   ·subst h0
    simp only[if_true]
    unfold Tr.get
    by_cases hj:j=0
    ·simp[hj]
    ·simp[hj,Tr.get_nil]
   ·rw[if_neg h0]
    by_cases ho:i %2=1
    ·rw[if_pos ho]
     simp only[Tr.get]
     by_cases hj:j=0
     ·subst hj;simp;omega
     ·rw[if_neg hj]
      by_cases iS:j %2=1
      ·rw[if_pos iS,ih _ _ _ _ (by omega)]
       by_cases e:j=i
       ·subst e;simp
       ·rw[if_neg e,if_neg (by omega),Tr.get_nil]
      ·rw[if_neg iS,Tr.get_nil,if_neg (by intro e;subst e;exact iS ho)]
    ·rw[if_neg ho]
     simp only[Tr.get]
     by_cases hj:j=0
     ·subst hj;simp;omega
     ·rw[if_neg hj]
      by_cases iS:j %2=1
      ·rw[if_pos iS,Tr.get_nil,if_neg (by intro e;subst e;exact ho iS)]
      ·rw[if_neg iS,ih _ _ _ _ (by omega)]
       by_cases e:j=i
       ·subst e;simp
       ·rw[if_neg e,if_neg (by omega),Tr.get_nil]
  |node l v r=>
   unfold Tr.set
   by_cases h0:i=0
   ·subst h0
    simp only[if_true]
    unfold Tr.get
    by_cases hj:j=0
    ·simp[hj]
    ·simp[hj]
   ·rw[if_neg h0]
    by_cases ho:i %2=1
    ·rw[if_pos ho]
     simp only[Tr.get]
     by_cases hj:j=0
     ·subst hj;simp;omega
     ·rw[if_neg hj,if_neg hj]
      by_cases iS:j %2=1
      ·rw[if_pos iS,if_pos iS,ih _ _ _ _ (by omega)]
       by_cases e:j=i
       ·subst e;simp
       ·rw[if_neg e,if_neg (by omega)]
      ·rw[if_neg iS,if_neg iS,if_neg (by intro e;subst e;exact iS ho)]
    ·rw[if_neg ho]
     simp only[Tr.get]
     by_cases hj:j=0
     ·subst hj;simp;omega
     ·rw[if_neg hj,if_neg hj]
      by_cases iS:j %2=1
      ·rw[if_pos iS,if_pos iS,if_neg (by intro e;subst e;exact ho iS)]
      ·rw[if_neg iS,if_neg iS,ih _ _ _ _ (by omega)]
       by_cases e:j=i
       ·subst e;simp
       ·rw[if_neg e,if_neg (by omega)]
theorem Tr.OL{α:Type}:∀(f f':Nat) (t:Tr α) (i:Nat),i<2^f-1->i<2^f'-1->Tr.get f t i=Tr.get f' t i:=by
 intro f
 induction f with
 |zero=>intro f' t i h;simp at h
 |succ f ih=>
  intro f' t i h h'
  cases f' with
  |zero=>simp at h'
  |succ f'=>
   have h2:2^(f+1)=2*2^f:=by rw[oH];omega
   have h3:2^(f'+1)=2*2^f':=by rw[oH];omega
   cases t with
   |nil=>rfl
   |node l v r=>
    unfold Tr.get
    by_cases h0:i=0
    ·rw[if_pos h0,if_pos h0]
    ·rw[if_neg h0,if_neg h0]
     split
     ·exact ih f' l _ (by omega) (by omega)
     ·exact ih f' r _ (by omega) (by omega)
theorem Tr.abk{α:Type}:∀(f f':Nat) (t:Tr α) (i:Nat) (a:Option α),i<2^f-1->i<2^f'-1->Tr.set f t i a=Tr.set f' t i a:=by
 intro f
 induction f with
 |zero=>intro f' t i a h;simp at h
 |succ f ih=>
  intro f' t i a h h'
  cases f' with
  |zero=>simp at h'
  |succ f'=>
   have h2:2^(f+1)=2*2^f:=by rw[oH];omega
   have h3:2^(f'+1)=2*2^f':=by rw[oH];omega
   cases t with
   |nil=>
    unfold Tr.set
    by_cases h0:i=0
    ·rw[if_pos h0,if_pos h0]
    ·rw[if_neg h0,if_neg h0]
     split
     ·rw[ih f' _ _ a (by omega) (by omega)]
     ·rw[ih f' _ _ a (by omega) (by omega)]
   |node l v r=>
    unfold Tr.set
    by_cases h0:i=0
    ·rw[if_pos h0,if_pos h0]
    ·rw[if_neg h0,if_neg h0]
     split
     ·rw[ih f' _ _ a (by omega) (by omega)]
     ·rw[ih f' _ _ a (by omega) (by omega)]
theorem CB(i k:Nat):i<2^(i+1+k)-1:=by
 have h1:i+1+k<2^(i+1+k):=Nat.lt_two_pow_self
 omega
theorem H.ji{h:H}{i:Nat}(x:Option AB)(j:Nat):(h.set i x).get j=if j=i then x else h.get j:=by
 unfold H.get H.set
 have hi:=CB i (j+1)
 have hj:=CB j (i+1)
 have HG:=CB i 0
 have OM:=CB j 0
 have e:i+1+(j+1)=j+1+(i+1):=by omega
 rw[e]at hi
 rw[Tr.OL (j+1) (j+1+(i+1)) _ _ OM hj,Tr.OL (j+1) (j+1+(i+1)) h _ OM hj,Tr.abk (i+1) (j+1+(i+1)) _ _ _ HG hi]
 exact Tr.ji _ _ _ _ _ hi
def hd(B:AB):TypeId×Bool×Nat:=(B.elem,B.own,B.cells.length)
def H.hd(h:H)(b:Nat):Option (TypeId×Bool×Nat):=(h.get b).map Ev.hd
def H.cell(h:H)(b k:Nat):Option Value:=(h.get b).bind (·.cells[k]?)
def dN(h h':H)(b k:Nat):Prop:=h.hd b=h'.hd b∧h.cell b k=h'.cell b k
def j9(h h':H)(e:En):Prop:=match e.k with
 |none=>h.get e.b=h'.get e.b
 |some k=>dN h h' e.b k
def wrote(L:List En)(b k:Nat):Prop:=∃e∈L,e.wr=true∧e.b=b∧(e.k=none∨e.k=some k)
theorem dN.refl(h:H)(b k:Nat):dN h h b k:=⟨rfl,rfl⟩
theorem dN.symm{h h':H}{b k:Nat}(x:dN h h' b k):dN h' h b k:=⟨x.1.symm,x.2.symm⟩
theorem dN.trans{h h' CC:H}{b k:Nat}(x:dN h h' b k)(y:dN h' CC b k):dN h CC b k:=⟨x.1.trans y.1,x.2.trans y.2⟩
theorem dN.mN{h h':H}{b:Nat}(k:Nat)(x:h.get b=h'.get b):dN h h' b k:=by
 unfold dN H.hd H.cell;rw[x];exact⟨rfl,rfl⟩
theorem HH{h h':H}{b:Nat}(x:∀k,dN h h' b k):h.get b=h'.get b:=by
 have h0:=(x 0).1
 unfold H.hd at h0
 cases hg:h.get b with
 |none=>rw[hg]at h0;cases fj:h'.get b with
  |none=>rfl
  |some B=>rw[fj]at h0;simp at h0
 |some B=>
  rw[hg]at h0
  cases fj:h'.get b with
  |none=>rw[fj]at h0;simp at h0
  |some B'=>
   rw[fj]at h0
   simp[Ev.hd]at h0
   obtain⟨h1,h2,h3⟩:=h0
   have hc:B.cells=B'.cells:=by
    apply List.ext_getElem?
    intro k
    have:=(x k).2
    unfold H.cell at this
    rw[hg,fj]at this
    simpa using this
   cases B;cases B'
   simp_all
theorem j9.mN{h h':H}{e:En}(x:h.get e.b=h'.get e.b):j9 h h' e:=by
 unfold j9
 split
 ·exact x
 ·exact dN.mN _ x
theorem j9.ON{h h':H}{e:En}(x:∀k,(e.k=none∨e.k=some k)->dN h h' e.b k):j9 h h' e:=by
 unfold j9
 split
 ·rename_i he
  exact HH fun k=>x k (.inl he)
 ·rename_i k he
  exact x k (.inr he)
theorem j9.at_{h h':H}{e:En}(x:j9 h h' e){k:Nat}(hk:e.k=none∨e.k=some k):dN h h' e.b k:=by
 unfold j9 at x
 rcases hk with hk|hk
 ·rw[hk]at x;exact dN.mN k x
 ·rw[hk]at x;exact x
theorem OO{L L':List En}{b k:Nat}:wrote (L++L') b k↔wrote L b k∨wrote L' b k:=by
 unfold wrote
 constructor
 ·rintro⟨e,he,hr⟩
  rcases List.mem_append.1 he with h|h
  ·exact .inl ⟨e,h,hr⟩
  ·exact .inr ⟨e,h,hr⟩
 ·rintro(⟨e,he,hr⟩|⟨e,he,hr⟩)
  ·exact⟨e,List.mem_append.2 (.inl he),hr⟩
  ·exact⟨e,List.mem_append.2 (.inr he),hr⟩
theorem OP{b k:Nat}:¬wrote [] b k:=by rintro⟨e,he,_⟩;cases he
structure zU {α:Type} (m:M α) (h:H) (n:Nat) (r:α) (h1:H) (n1:Nat) (L:List En):Prop where
 le:n<=n1
 lt:∀e∈L,e.b<n1
 frame:∀b k,¬wrote L b k->¬(n<=b∧b<n1)->dN h1 h b k
 uK:∀h',(∀e∈L,¬(n<=e.b∧e.b<n1)->j9 h h' e)->∃eg,m h' n=some ⟨r,eg,n1,L⟩∧∀b k,(wrote L b k∨(n<=b∧b<n1))->dN eg h1 b k
def Loc{α:Type}(m:M α):Prop:=∀h n r h1 n1 L,m h n=some ⟨r,h1,n1,L⟩->zU m h n r h1 n1 L
theorem Loc.ret{α:Type}(a:α):Loc (.ret a):=by
 intro h n r h1 n1 L hm
 simp only[M.ret,ee,Out.mk.injEq]at hm
 obtain⟨rfl,rfl,rfl,rfl⟩:=hm
 exact⟨av _,(fun e he=>nomatch he),fun b k _ _=>dN.refl _ _ _,fun h' _=>⟨h',rfl,fun b k hw=>by
  rcases hw with hw|hw
  ·exact absurd hw OP
  ·omega⟩⟩
theorem Loc.fail{α:Type}:Loc (.fail:M α):=by intro h n r h1 n1 L hm;cases hm
theorem Loc.lift{α:Type}(o:Option α):Loc (.lift o):=by
 cases o with
 |none=>intro h n r h1 n1 L hm;cases hm
 |some a=>exact Loc.ret a
theorem Loc.bind{α β:Type}{m:M α}{f:α->M β}(hm:Loc m)(hf:∀a,Loc (f a)):Loc (m.bind f):=by
 intro h n r h2 n2 L hr
 unfold M.bind at hr
 split at hr
 ·rename_i a h1 n1 L1 e1
  split at hr
  ·rename_i c lu xV L2 e2
   simp only[ee,Out.mk.injEq]at hr
   obtain⟨rfl,rfl,rfl,rfl⟩:=hr
   have A:=hm h n a h1 n1 L1 e1
   have B:=hf a h1 n1 c lu xV L2 e2
   have am8:=A.le
   have abl:=B.le
   refine⟨by omega,fun e he=> ?_,fun b k hw hi=> ?_,fun h' kL=> ?_⟩
   ·rcases List.mem_append.1 he with h|h
    ·have:=A.lt e h;omega
    ·exact B.lt e h
   ·rw[OO]at hw
    exact(B.frame b k (fun x=>hw (.inr x)) (by omega)).trans (A.frame b k (fun x=>hw (.inl x)) (by omega))
   ·obtain⟨eg,r1,w1⟩:=A.uK h' fun e he hi=>kL e (List.mem_append.2 (.inl he)) (by have:=A.lt e he;omega)
    have A':=hm h' n a eg n1 L1 r1
    obtain⟨lu,r2,w2⟩:=B.uK eg fun e he hi=>by
     apply j9.ON
     intro k hk
     by_cases hw:wrote L1 e.b k∨(n<=e.b∧e.b<n1)
     ·exact(w1 e.b k hw).symm
     ·have HI:¬wrote L1 e.b k:=fun x=>hw (.inl x)
      have hZ:¬(n<=e.b∧e.b<n1):=fun x=>hw (.inr x)
      exact((A.frame e.b k HI hZ).trans ((kL e (List.mem_append.2 (.inr he)) (by omega)).at_ hk)).trans (A'.frame e.b k HI hZ).symm
    have B':=hf a eg n1 c lu xV L2 r2
    refine⟨lu,by unfold M.bind;rw[r1];simp only[r2],fun b k hw=> ?_⟩
    rw[OO]at hw
    by_cases hZ:wrote L2 b k∨(n1<=b∧b<xV)
    ·exact w2 b k hZ
    ·have fU:¬wrote L2 b k:=fun x=>hZ (.inl x)
     have bN:¬(n1<=b∧b<xV):=fun x=>hZ (.inr x)
     have hy:wrote L1 b k∨(n<=b∧b<n1):=by
      rcases hw with (hw|hw)|hw
      ·exact .inl hw
      ·exact absurd hw fU
      ·exact .inr (by omega)
     exact((B'.frame b k fU bN).trans (w1 b k hy)).trans (B.frame b k fU bN).symm
  ·cases hr
 ·cases hr
theorem Loc.ite{α:Type}{c:Prop} [Decidable c]{x y:M α}(hx:Loc x)(hy:Loc y):Loc (if c then x else y):=by
 by_cases h:c
 ·rw[if_pos h];exact hx
 ·rw[if_neg h];exact hy
theorem Loc.rd(b k:Nat):Loc (Ev.rd b k):=by
 intro h n r h1 n1 L hr
 unfold Ev.rd at hr
 split at hr
 ·rename_i hb
  split at hr
  ·rename_i B hB
   split at hr
   ·rename_i v hv
    simp only[ee,Out.mk.injEq]at hr
    obtain⟨rfl,rfl,rfl,rfl⟩:=hr
    have nw:∀b' k',¬wrote [(⟨false,b,some k⟩:En)] b' k':=by
     rintro b' k' ⟨e,he,hw,_⟩
     simp at he;subst he;cases hw
    refine⟨av _,fun e he=>by simp at he;subst he;exact hb,fun b' k' _ _=>dN.refl _ _ _,fun h' kL=>⟨h', ?_,fun b' k' hw=> ?_⟩⟩
    ·have:=kL ⟨false,b,some k⟩ (by simp) (by show¬(n<=b∧b<n);omega)
     unfold j9 dN at this
     simp only[H.cell,hB,N8,hv]at this
     obtain⟨_,t2⟩:=this
     cases hg:h'.get b with
     |none=>rw[hg]at t2;simp at t2
     |some B'=>
      rw[hg]at t2
      simp at t2
      unfold Ev.rd
      rw[if_pos hb,hg]
      simp only[<-t2]
    ·rcases hw with hw|hw
     ·exact absurd hw (nw _ _)
     ·omega
   ·cases hr
  ·cases hr
 ·cases hr
theorem zV{h:H}{b k:Nat}{B:AB}(hB:h.get b=some B)(v:Value)(b' k':Nat):(h.set b (some {B with cells:=B.cells.set k v})).get b'=if b'=b then some {B with cells:=B.cells.set k v}else h.get b':=H.ji _ _
theorem Loc.wr(b k:Nat)(v:Value):Loc (Ev.wr b k v):=by
 intro h n r h1 n1 L hr
 unfold Ev.wr at hr
 split at hr
 ·rename_i hb
  split at hr
  ·rename_i B hB
   split at hr
   ·rename_i hc
    simp only[ee,Out.mk.injEq]at hr
    obtain⟨_,rfl,rfl,rfl⟩:=hr
    have xW:=hc
    simp only[cb,decide_eq_true_eq]at xW
    obtain⟨⟨oP,hk⟩,zW⟩:=xW
    refine⟨av _,fun e he=>by simp at he;rcases he with rfl|rfl<;>exact hb,fun b' k' hw _=> ?_,fun h' kL=> ?_⟩
    ·unfold dN H.hd H.cell
     rw[zV hB v b' k']
     by_cases e:b'=b
     ·subst e
      rw[if_pos rfl,hB]
      have qR:k≠k':=fun e=>hw ⟨⟨true,b',some k⟩,by simp,rfl,rfl,.inr (by rw[e])⟩
      simp[Ev.hd,alJ qR]
     ·rw[if_neg e];exact⟨rfl,rfl⟩
    ·have:=kL ⟨false,b,some k⟩ (by simp) (by show¬(n<=b∧b<n);omega)
     unfold j9 dN at this
     simp only[H.hd,H.cell,hB,Ch,N8]at this
     obtain⟨t1,t2⟩:=this
     cases hg:h'.get b with
     |none=>rw[hg]at t1;simp at t1
     |some B'=>
      rw[hg]at t1 t2
      simp[Ev.hd]at t1
      obtain⟨q1,q2,q3⟩:=t1
      refine⟨h'.set b (some {B' with cells:=B'.cells.set k v}), ?_,fun b' k' hw=> ?_⟩
      ·unfold Ev.wr
       rw[if_pos hb,hg]
       simp only
       rw[if_pos (by rw[<-q2,<-q3];exact hc)]
      ·have zX:b'=b∧k'=k:=by
        rcases hw with ⟨e,he,hw,rfl,eu⟩|hw
        ·simp at he
         rcases he with rfl|rfl
         ·cases hw
         ·simp at eu;exact⟨rfl,eu.symm⟩
        ·omega
       obtain⟨rfl,rfl⟩:=zX
       unfold dN H.hd H.cell
       rw[zV hB v b' k',zV hg v b' k',if_pos rfl,if_pos rfl]
       refine⟨?_, ?_⟩
       ·simp[Ev.hd,q1,q2,q3]
       ·simp[hk,<-q3]
   ·cases hr
  ·cases hr
 ·cases hr
theorem Loc.cY(e:TypeId)(cs:List Value):Loc (Ev.cY e cs):=by
 intro h n r h1 n1 L hr
 unfold Ev.cY at hr
 split at hr
 ·rename_i hn
  simp only[ee,Out.mk.injEq]at hr
  obtain⟨rfl,rfl,rfl,rfl⟩:=hr
  refine⟨by omega,(fun e he=>nomatch he),fun b k _ hi=> ?_,fun h' _=>⟨h'.set n (some ⟨e,true,cs⟩), ?_,fun b k hw=> ?_⟩⟩
  ·apply dN.mN
   rw[H.ji _ _,if_neg (by omega)]
  ·unfold Ev.cY
   rw[if_pos hn]
  ·have hb:b=n:=by
    rcases hw with hw|hw
    ·exact absurd hw OP
    ·omega
   subst hb
   apply dN.mN
   rw[H.ji _ _,H.ji _ _]
   simp
 ·cases hr
theorem Loc.whole(b:Nat):Loc (Ev.whole b):=by
 intro h n r h1 n1 L hr
 unfold Ev.whole at hr
 split at hr
 ·rename_i hb
  split at hr
  ·rename_i B hB
   simp only[ee,Out.mk.injEq]at hr
   obtain⟨rfl,rfl,rfl,rfl⟩:=hr
   refine⟨av _,fun e he=>by simp at he;subst he;exact hb,fun b' k' _ _=>dN.refl _ _ _,fun h' kL=>⟨h', ?_,fun b' k' hw=> ?_⟩⟩
   ·have:=kL ⟨false,b,none⟩ (by simp) (by show¬(n<=b∧b<n);omega)
    unfold j9 at this
    simp only[hB]at this
    unfold Ev.whole
    rw[if_pos hb,<-this]
   ·rcases hw with ⟨e,he,hw,_⟩|hw
    ·simp at he;subst he;cases hw
    ·omega
  ·cases hr
 ·cases hr
theorem Loc.gN(b:Nat):Loc (Ev.gN b):=by
 intro h n r h1 n1 L hr
 unfold Ev.gN at hr
 split at hr
 ·rename_i hb
  split at hr
  ·rename_i B hB
   simp only[ee,Out.mk.injEq]at hr
   obtain⟨rfl,rfl,rfl,rfl⟩:=hr
   refine⟨av _,fun e he=>by simp at he;subst he;exact hb,fun b' k' _ _=>dN.refl _ _ _,fun h' kL=>⟨h', ?_,fun b' k' hw=> ?_⟩⟩
   ·have:=kL ⟨false,b,some 1099511627776⟩ (by simp) (by show¬(n<=b∧b<n);omega)
    unfold j9 dN at this
    simp only[H.hd,hB,Ch]at this
    cases hg:h'.get b with
    |none=>rw[hg]at this;simp at this
    |some B'=>
     rw[hg]at this
     simp[Ev.hd]at this
     unfold Ev.gN
     rw[if_pos hb,hg]
     simp only[<-this.1.1]
   ·rcases hw with ⟨e,he,hw,_⟩|hw
    ·simp at he;subst he;cases hw
    ·omega
  ·cases hr
 ·cases hr
theorem Loc.kill(b:Nat):Loc (Ev.kill b):=by
 intro h n r h1 n1 L hr
 unfold Ev.kill at hr
 split at hr
 ·rename_i hb
  split at hr
  ·rename_i B hB
   split at hr
   ·rename_i ho
    simp only[ee,Out.mk.injEq]at hr
    obtain⟨_,rfl,rfl,rfl⟩:=hr
    refine⟨av _,fun e he=>by simp at he;rcases he with rfl|rfl<;>exact hb,fun b' k' hw _=> ?_,fun h' kL=>⟨h'.set b none, ?_,fun b' k' hw=> ?_⟩⟩
    ·apply dN.mN
     rw[H.ji _ _,if_neg]
     rintro rfl
     exact hw ⟨⟨true,b',none⟩,by simp,rfl,rfl,.inl rfl⟩
    ·have:=kL ⟨false,b,none⟩ (by simp) (by show¬(n<=b∧b<n);omega)
     unfold j9 at this
     simp only[hB]at this
     unfold Ev.kill
     rw[if_pos hb,<-this]
     simp only[ho,if_true]
    ·have OQ:b'=b:=by
      rcases hw with ⟨e,he,hw,rfl,_⟩|hw
      ·simp at he
       rcases he with rfl|rfl<;>rfl
      ·omega
     subst OQ
     apply dN.mN
     rw[H.ji _ _,H.ji _ _]
     simp
   ·cases hr
  ·cases hr
 ·cases hr
theorem Loc.dj(b:Nat):∀(n k:Nat),Loc (Ev.dj b k n):=by
 intro n
 induction n with
 |zero=>intro k;exact Loc.ret _
 |succ n ih=>intro k;exact Loc.bind (Loc.rd _ _) fun v=>Loc.bind (ih _) fun vs=>Loc.ret _
theorem Loc.ez(b:Nat):∀(vs:List Value) (k:Nat),Loc (Ev.ez b k vs):=by
 intro vs
 induction vs with
 |nil=>intro k;exact Loc.ret _
 |cons v vs ih=>intro k;exact Loc.bind (Loc.wr _ _ _) fun _=>ih _
theorem OR{L:List En}{n n1 b k:Nat}(hi:¬(n<=b∧b<n1)):wrote (L.filter fun e=> !(n<=e.b&&e.b<n1)) b k↔wrote L b k:=by
 unfold wrote
 constructor
 ·rintro⟨e,he,hr⟩
  exact⟨e,(List.mem_filter.1 he).1,hr⟩
 ·rintro⟨e,he,h1,h2,h3⟩
  refine⟨e,List.mem_filter.2 ⟨he, ?_⟩,h1,h2,h3⟩
  rw[h2]
  simp
  omega
theorem zU.filter {α:Type} {m m':M α} {h h1:H} {n n1:Nat} {r:α} {L:List En} (A:zU m h n r h1 n1 L)
 (hm:∀h' eg,m h' n=some ⟨r,eg,n1,L⟩->m' h' n=some ⟨r,eg,n1,L.filter fun e=> !(n<=e.b&&e.b<n1)⟩):zU m' h n r h1 n1 (L.filter fun e=> !(n<=e.b&&e.b<n1)):=by
 refine⟨A.le,fun e he=>A.lt e (List.mem_filter.1 he).1,fun b k hw hi=>A.frame b k (fun x=>hw ((OR hi).2 x)) hi,fun h' kL=> ?_⟩
 obtain⟨eg,r1,w1⟩:=A.uK h' fun e he hi=>kL e (List.mem_filter.2 ⟨he,by simp;omega⟩) hi
 refine⟨eg,hm h' eg r1,fun b k hw=>w1 b k ?_⟩
 by_cases hi:n<=b∧b<n1
 ·exact .inr hi
 ·rcases hw with hw|hw
  ·exact .inl ((OR hi).1 hw)
  ·exact .inr hw
theorem Loc.inside{α:Type}{m:M α}(hm:Loc m):Loc (Ev.inside m):=by
 intro h n r h1 n1 L hr
 unfold Ev.inside at hr
 split at hr
 ·rename_i a eg qS L' e1
  simp only[ee,Out.mk.injEq]at hr
  obtain⟨rfl,rfl,rfl,rfl⟩:=hr
  refine(hm h n a eg qS L' e1).filter fun h' am9 e=> ?_
  unfold Ev.inside
  rw[e]
 ·cases hr
theorem Loc.aV{α:Type}{m:M α}(hm:Loc m):Loc (Ev.aV m):=by
 intro h n r h1 n1 L hr
 unfold Ev.aV at hr
 split at hr
 ·rename_i a eg qS L' e1
  simp only[ee,Out.mk.injEq]at hr
  obtain⟨rfl,rfl,rfl,rfl⟩:=hr
  have A:=hm h n a eg qS L' e1
  refine⟨A.le,A.lt,A.frame,fun h' kL=> ?_⟩
  obtain⟨h2,r2,w2⟩:=A.uK h' kL
  exact⟨h2,by unfold Ev.aV;rw[r2],w2⟩
 ·cases hr
theorem Loc.j8(sz n:Nat)(x:Value):Loc (Ev.j8 sz n x):=by
 unfold Ev.j8
 repeat' (first|exact Loc.ret _|exact Loc.fail|exact Loc.lift _|exact Loc.rd _ _|exact Loc.dj _ _ _|exact Loc.ez _ _ _|exact Loc.whole _|exact Loc.kill _|exact Loc.cY _ _|refine Loc.bind ?_ fun _=> ?_|split)
theorem Loc.nF(e:TypeId)(l n:Nat)(old new:List Value):Loc (Ev.nF e l n old new):=by
 unfold Ev.nF
 repeat' (first|exact Loc.ret _|exact Loc.fail|exact Loc.lift _|exact Loc.dj _ _ _|exact Loc.ez _ _ _|exact Loc.gN _|exact Loc.kill _|exact Loc.cY _ _|refine Loc.bind ?_ fun _=> ?_|split)
theorem Loc.uH(e:TypeId)(n sz b off l cap:Nat)(new:List Value):Loc (Ev.uH e n sz b off l cap new):=by
 unfold Ev.uH
 repeat' (first|exact Loc.ret _|exact Loc.fail|exact Loc.lift _|exact Loc.dj _ _ _|exact Loc.ez _ _ _|exact Loc.gN _|exact Loc.kill _|exact Loc.cY _ _|exact Loc.nF _ _ _ _ _|refine Loc.bind ?_ fun _=> ?_|split)
theorem Loc.pR(P:Program)(t:TypeId)(s x:Value):Loc (Ev.pR P t s x):=by
 unfold Ev.pR
 repeat' (first|exact Loc.ret _|exact Loc.fail|exact Loc.lift _|exact Loc.dj _ _ _|exact Loc.ez _ _ _|exact Loc.gN _|exact Loc.kill _|exact Loc.cY _ _|exact Loc.j8 _ _ _|exact Loc.nF _ _ _ _ _|exact Loc.uH _ _ _ _ _ _ _ _|refine Loc.bind ?_ fun _=> ?_|split)
theorem Loc.pS(P:Program)(t:TypeId)(d s:Value):Loc (Ev.pS P t d s):=by
 unfold Ev.pS
 repeat' (first|exact Loc.ret _|exact Loc.fail|exact Loc.lift _|exact Loc.ez _ _ _|exact Loc.j8 _ _ _|refine Loc.bind ?_ fun _=> ?_|split)
theorem Loc.fT(P:Program)(ρ:Operand->Value)(o:Oper):Loc (Ev.fT P ρ o):=by
 unfold Ev.fT
 repeat' (first|exact Loc.ret _|exact Loc.fail|exact Loc.lift _|exact Loc.rd _ _|exact Loc.dj _ _ _|exact Loc.ez _ _ _|exact Loc.whole _|exact Loc.kill _|exact Loc.cY _ _|refine Loc.bind ?_ fun _=> ?_|split)
theorem Loc.kJ(P:Program)(ρ:Operand->Value)(o:Oper)(c:Call)(args:Array Value):Loc (Ev.kJ P ρ o c args):=by
 unfold Ev.kJ
 repeat' (first|exact Loc.ret _|exact Loc.fail|exact Loc.lift _|exact Loc.rd _ _|exact Loc.dj _ _ _|exact Loc.ez _ _ _|exact Loc.whole _|exact Loc.kill _|exact Loc.cY _ _|exact Loc.pR _ _ _ _|exact Loc.pS _ _ _ _|exact Loc.fT _ _ _|refine Loc.bind ?_ fun _=> ?_|split)
theorem Loc.nH(P:Program)(e:TypeId):Loc (Ev.nH P e):=by
 unfold Ev.nH
 repeat' (first|exact Loc.ret _|exact Loc.fail|exact Loc.lift _|exact Loc.rd _ _|exact Loc.dj _ _ _|exact Loc.ez _ _ _|exact Loc.whole _|exact Loc.kill _|exact Loc.cY _ _|refine Loc.bind ?_ fun _=> ?_|split)
theorem Loc.nI(P:Program)(e:TypeId)(v:Value):Loc (Ev.nI P e v):=by
 unfold Ev.nI
 repeat' (first|exact Loc.ret _|exact Loc.fail|exact Loc.lift _|exact Loc.rd _ _|exact Loc.dj _ _ _|exact Loc.ez _ _ _|exact Loc.whole _|exact Loc.kill _|exact Loc.cY _ _|refine Loc.bind ?_ fun _=> ?_|split)
theorem Loc.mJ(P:Program)(t:TypeId)(l:List (Nat×Value)):Loc (Ev.mJ P t l):=by
 unfold Ev.mJ
 repeat' (first|exact Loc.ret _|exact Loc.fail|exact Loc.lift _|exact Loc.rd _ _|exact Loc.dj _ _ _|exact Loc.ez _ _ _|exact Loc.whole _|exact Loc.kill _|exact Loc.cY _ _|refine Loc.bind ?_ fun _=> ?_|split)
theorem Loc.mK(P:Program)(t:TypeId)(n:Nat)(l:List (Nat×Value)):Loc (Ev.mK P t n l):=by
 unfold Ev.mK
 repeat' (first|exact Loc.ret _|exact Loc.fail|exact Loc.lift _|exact Loc.rd _ _|exact Loc.dj _ _ _|exact Loc.ez _ _ _|exact Loc.whole _|exact Loc.kill _|exact Loc.cY _ _|refine Loc.bind ?_ fun _=> ?_|split)
theorem Loc.jf(P:Program)(t:TypeId)(v:Value):Loc (Ev.jf P t v):=by
 unfold Ev.jf
 repeat' (first|exact Loc.ret _|exact Loc.fail|exact Loc.lift _|exact Loc.rd _ _|exact Loc.dj _ _ _|exact Loc.ez _ _ _|exact Loc.whole _|exact Loc.kill _|exact Loc.cY _ _|refine Loc.bind ?_ fun _=> ?_|split)
theorem Loc.oO(P:Program)(t:TypeId)(a v:Value):Loc (Ev.oO P t a v):=by
 unfold Ev.oO
 repeat' (first|exact Loc.ret _|exact Loc.fail|exact Loc.lift _|exact Loc.rd _ _|exact Loc.dj _ _ _|exact Loc.ez _ _ _|exact Loc.whole _|exact Loc.kill _|exact Loc.cY _ _|refine Loc.bind ?_ fun _=> ?_|split)
theorem Loc.qN(v:Value):Loc (Ev.qN v):=by
 unfold Ev.qN
 repeat' (first|exact Loc.ret _|exact Loc.fail|exact Loc.lift _|exact Loc.rd _ _|exact Loc.dj _ _ _|exact Loc.ez _ _ _|exact Loc.whole _|exact Loc.kill _|exact Loc.cY _ _|refine Loc.bind ?_ fun _=> ?_|split)
theorem Loc.nJ(v:Value):Loc (Ev.nJ v):=by
 unfold Ev.nJ
 repeat' (first|exact Loc.ret _|exact Loc.fail|exact Loc.lift _|exact Loc.rd _ _|exact Loc.dj _ _ _|exact Loc.ez _ _ _|exact Loc.whole _|exact Loc.kill _|exact Loc.cY _ _|refine Loc.bind ?_ fun _=> ?_|split)
theorem Loc.qO(e:TypeId)(s:ByteArray):Loc (Ev.qO e s):=by
 unfold Ev.qO
 repeat' (first|exact Loc.ret _|exact Loc.fail|exact Loc.lift _|exact Loc.rd _ _|exact Loc.dj _ _ _|exact Loc.ez _ _ _|exact Loc.whole _|exact Loc.kill _|exact Loc.cY _ _|refine Loc.bind ?_ fun _=> ?_|split)
theorem Loc.nL(P:Program)(t:TypeId)(l c:Value):Loc (Ev.nL P t l c):=by
 unfold Ev.nL
 repeat' (first|exact Loc.ret _|exact Loc.fail|exact Loc.lift _|exact Loc.rd _ _|exact Loc.dj _ _ _|exact Loc.ez _ _ _|exact Loc.whole _|exact Loc.kill _|exact Loc.cY _ _|refine Loc.bind ?_ fun _=> ?_|split)
theorem Loc.oN(P:Program)(t:TypeId)(x:Value)(a b c:Option Value):Loc (Ev.oN P t x a b c):=by
 unfold Ev.oN
 repeat' (first|exact Loc.fail|exact Loc.lift _|exact Loc.gN _|refine Loc.bind ?_ fun _=> ?_|split)
theorem Loc.bU(P:Program)(ρ:Operand->Value)(o:Oper):Loc (Ev.bU P ρ o):=by
 unfold Ev.bU
 repeat' (first|exact Loc.ret _|exact Loc.fail|exact Loc.lift _|exact Loc.rd _ _|exact Loc.dj _ _ _|exact Loc.ez _ _ _|exact Loc.whole _|exact Loc.kill _|exact Loc.cY _ _|exact Loc.fT _ _ _|exact Loc.oN _ _ _ _ _ _|exact Loc.kJ _ _ _ _ _|exact Loc.nH _ _|exact Loc.nI _ _ _|exact Loc.mJ _ _ _|exact Loc.mK _ _ _ _|exact Loc.jf _ _ _|exact Loc.oO _ _ _ _|exact Loc.qN _|exact Loc.nJ _|exact Loc.qO _ _|exact Loc.nL _ _ _ _|refine Loc.bind ?_ fun _=> ?_|split)
section
variable {P:Program} {rec:FuncId->Array Value->M Value} {nt:Nat}
theorem Loc.fD(cF:∀f a,Loc (rec f a))(ops:Array Oper)(o:Oper)(s:S):Loc (Ev.fD P rec ops o s):=by
 unfold Ev.fD
 repeat' (first|exact Loc.ret _|exact Loc.fail|exact Loc.lift _|exact Loc.bU _ _ _|exact cF _ _|refine Loc.bind ?_ fun _=> ?_|split)
theorem Loc.iR(cF:∀f a,Loc (rec f a))(ops:Array Oper):∀(l:List Oper) (s:S),Loc (Ev.iR P rec nt ops l s):=by
 intro l
 induction l with
 |nil=>intro s;exact Loc.ret _
 |cons o r ih=>intro s;exact Loc.bind (Loc.aV (Loc.inside (Loc.fD cF _ _ _))) fun x=>Loc.bind (Loc.lift _) fun s1=>Loc.bind (ih _) fun y=>Loc.ret _
theorem Loc.pV(cF:∀f a,Loc (rec f a))(ops:Array Oper)(draw:Bool)(s:S):Loc (Ev.pV P rec nt ops draw s):=
 Loc.bind (Loc.iR cF _ _ _) fun y=>Loc.ite (Loc.ret _) Loc.fail
theorem Loc.dP(cF:∀f a,Loc (rec f a)):∀(fuel:Nat) (c:Code) (s:S),Loc (Ev.dP P rec nt fuel c s):=by
 intro fuel
 induction fuel with
 |zero=>intro c s;exact Loc.fail
 |succ f ih=>
  intro c s
  cases c<;>unfold Ev.dP<;>simp only
  all_goals repeat' (first|exact Loc.ret _|exact Loc.fail|exact ih _ _|exact Loc.pV cF _ _ _|refine Loc.bind ?_ fun _=> ?_|split)
end
theorem Loc.jg(P:Program)(s:S):∀l,Loc (Ev.jg P s l):=by
 intro l
 induction l with
 |nil=>exact Loc.ret _
 |cons r l ih=>
  cases r<;>unfold Ev.jg
  ·exact Loc.bind ih fun _=>Loc.ret _
  ·exact Loc.bind (Loc.jf _ _ _) fun _=>Loc.bind ih fun _=>Loc.ret _
theorem Loc.mM(P:Program):∀l,Loc (Ev.mM P l):=by
 intro l
 induction l with
 |nil=>exact Loc.ret _
 |cons g l ih=>
  unfold Ev.mM
  refine Loc.bind (Loc.rd _ _) fun u=> ?_
  split
  ·exact ih
  ·exact Loc.fail
theorem Loc.sH(k:Nat)(args:List Value):Loc (Ev.sH k args):=by
 unfold Ev.sH
 split
 ·unfold Ev.HE
  split
  ·unfold Ev.HC
   refine Loc.bind (Loc.dj _ _ _) fun vs=> ?_
   unfold Ev.OK
   split
   ·exact Loc.ret _
   ·exact Loc.fail
  ·exact Loc.fail
 ·unfold Ev.HF
  split
  ·unfold Ev.HD
   split
   ·exact Loc.ret _
   ·exact Loc.fail
  ·exact Loc.fail
 ·exact Loc.fail
theorem Loc.cS(P:Program)(bad:List FuncId):∀(fuel:Nat) (f:FuncId) (args:Array Value),Loc (Ev.cS P bad fuel f args):=by
 intro fuel
 induction fuel with
 |zero=>intro f a;exact Loc.fail
 |succ fuel ih=>
  intro f args
  unfold Ev.cS
  repeat' (first|exact Loc.ret _|exact Loc.fail|exact Loc.mM _ _|exact Loc.sH _ _|exact Loc.dP ih _ _ _|exact Loc.jg _ _ _|refine Loc.inside ?_|refine Loc.bind ?_ fun _=> ?_|split)
end Go.Proofs.YtdagfcflbphoiaaGreatDoor.Ev
namespace Go.Proofs.YtdagfcflbphoiaaGreatDoor.Ev
open Go Go.RowKit
theorem bind_some{α β:Type}{m:M α}{f:α->M β}{h:H}{n:Nat}{c:β}{h2:H}{n2:Nat}{L:List En}(hr:(m.bind f) h n=some ⟨c,h2,n2,L⟩):
 ∃a h1 n1 L1 L2,m h n=some ⟨a,h1,n1,L1⟩∧f a h1 n1=some ⟨c,h2,n2,L2⟩∧L=L1++L2:=by
 unfold M.bind at hr
 split at hr
 ·rename_i a h1 n1 L1 e1
  split at hr
  ·rename_i c' lu xV L2 e2
   simp only[ee,Out.mk.injEq]at hr
   obtain⟨rfl,rfl,rfl,rfl⟩:=hr
   exact⟨a,h1,n1,L1,L2,e1,e2,rfl⟩
  ·cases hr
 ·cases hr
theorem bD{α:Type}{a c:α}{h h2:H}{n n2:Nat}{L:List En}(hr:(M.ret a) h n=some ⟨c,h2,n2,L⟩):c=a∧h2=h∧n2=n:=by
 simp only[M.ret,ee,Out.mk.injEq]at hr
 exact⟨hr.1.symm,hr.2.1.symm,hr.2.2.1.symm⟩
theorem pW{α:Type}{o:Option α}{c:α}{h h2:H}{n n2:Nat}{L:List En}(hr:(M.lift o) h n=some ⟨c,h2,n2,L⟩):o=some c∧h2=h∧n2=n:=by
 unfold M.lift at hr
 cases o with
 |none=>cases hr
 |some a=>
  simp only[ee,Out.mk.injEq]at hr
  exact⟨by rw[hr.1],hr.2.1.symm,hr.2.2.1.symm⟩
structure Ds where
 dJ:Nat
 sh:Nat
 uL:Nat
 esz:Nat
 el:TypeId
abbrev Mp:=Nat->Option Ds
mutual
inductive VR (m:Mp):Value->Value->Prop
 |bool (b:Bool):VR m (.bool b) (.bool b)
 |int (k:IntKind) (n:Int):VR m (.int k n) (.int k n)
 |float (k:FloatKind) (n:Nat):VR m (.float k n) (.float k n)
 |string (s:ByteArray):VR m (.string s) (.string s)
 |zY:VR m (.pointer none) (.pointer none)
 |ptr {b off:Nat} {d:Ds} (h:m b=some d):VR m (.pointer (some ⟨b,off,none⟩)) (.pointer (some ⟨d.dJ,d.sh+off,none⟩))
 |mO (n c:Nat) (hc:n<=c∧c<bc):VR m (.slice none n c) (.slice none n c)
 |fV {b off n cap cG o':Nat} {d:Ds} (h:m b=some d) (ho:0<n∨cap<bc->o'=d.sh+off) (h1:cap<bc->cG=cap) (h2:bc<=cap->bc+n<=cap∧cap<=bc+cG) (hn:n<=cG) (ht:o'+cG*d.esz<=d.uL):
   VR m (.slice (some ⟨b,off,none⟩) n cap) (.slice (some ⟨d.dJ,o',none⟩) n cG)
 |pX (b off s:Nat) (a':Addr):VR m (.slice (some ⟨b,off,some s⟩) 0 0) (.slice (some a') 0 0)
 |func (fn:Fn) {f c f' c':Array Value} (h1:ba m f.toList f'.toList) (h2:ba m c.toList c'.toList):VR m (.func fn f c) (.func fn f' c')
 |nilFunc:VR m .nilFunc .nilFunc
 |agg {cs cs':Array Value} (h:ba m cs.toList cs'.toList):VR m (.agg cs) (.agg cs')
 |tuple {cs cs':Array Value} (h:ba m cs.toList cs'.toList):VR m (.tuple cs) (.tuple cs')
inductive ba (m:Mp):List Value->List Value->Prop
 |nil:ba m [] []
 |cons {v v':Value} {l l':List Value} (h:VR m v v') (t:ba m l l'):ba m (v::l) (v'::l')
end
def Le(m m':Mp):Prop:=∀b d,m b=some d->m' b=some d
theorem Le.refl(m:Mp):Le m m:=fun _ _ h=>h
theorem Le.trans{a b c:Mp}(h:Le a b)(k:Le b c):Le a c:=fun x d e=>k x d (h x d e)
mutual
theorem VR.mono{m m':Mp}(hl:Le m m'):∀{v v':Value},VR m v v'->VR m' v v'
 |_,_,.bool b=> .bool b
 |_,_,.int k n=> .int k n
 |_,_,.float k n=> .float k n
 |_,_,.string s=> .string s
 |_,_,.zY=> .zY
 |_,_,.ptr h=> .ptr (hl _ _ h)
 |_,_,.mO n c hc=> .mO n c hc
 |_,_,.fV h ho h1 h2 hn ht=> .fV (hl _ _ h) ho h1 h2 hn ht
 |_,_,.pX b off s a'=> .pX b off s a'
 |_,_,.func fn h1 h2=> .func fn (ba.mono hl h1) (ba.mono hl h2)
 |_,_,.nilFunc=> .nilFunc
 |_,_,.agg h=> .agg (ba.mono hl h)
 |_,_,.tuple h=> .tuple (ba.mono hl h)
theorem ba.mono{m m':Mp}(hl:Le m m'):∀{l l':List Value},ba m l l'->ba m' l l'
 |_,_,.nil=> .nil
 |_,_,.cons h t=> .cons (VR.mono hl h) (ba.mono hl t)
end
theorem ba.length{m:Mp}:∀{l l':List Value},ba m l l'->l.length=l'.length
 |_,_,.nil=>rfl
 |_,_,.cons _ t=>by simp[ba.length t]
theorem ba.get{m:Mp}:∀{l l':List Value},ba m l l'->∀(k:Nat) (v:Value),l[k]? =some v->∃v',l'[k]? =some v'∧VR m v v'
 |_,_,.nil,k,v,h=>by simp at h
 |_,_,.cons h t,k,v,hk=>by
  cases k with
  |zero=>simp at hk;subst hk;exact⟨_,rfl,h⟩
  |succ k=>simp at hk;simpa using ba.get t k v hk
theorem ba.mN{m:Mp}:∀{l l':List Value},l.length=l'.length->(∀(k:Nat) (v:Value),l[k]? =some v->∃v',l'[k]? =some v'∧VR m v v')->ba m l l'
 |[],[],_,_=> .nil
 |v::l,v'::l',hl,h=>by
  obtain⟨u,hu,hr⟩:=h 0 v rfl
  simp at hu;subst hu
  exact .cons hr (ba.mN (by simpa using hl) fun k x hk=>by simpa using h (k+1) x (by simpa using hk))
theorem ba.append{m:Mp}:∀{a a' b b':List Value},ba m a a'->ba m b b'->ba m (a++b) (a'++b')
 |_,_,_,_,.nil,k=>k
 |_,_,_,_,.cons h t,k=> .cons h (ba.append t k)
theorem ba.set{m:Mp}:∀{a a':List Value} (k:Nat) {v v':Value},ba m a a'->VR m v v'->ba m (a.set k v) (a'.set k v')
 |_,_,_,_,_,.nil,_=> .nil
 |_,_,0,_,_,.cons _ t,h=> .cons h t
 |_,_,k+1,_,_,.cons u t,h=> .cons u (ba.set k t h)
theorem ba.map{m:Mp}{α:Type}{f g:α->Value}:∀(l:List α),(∀x,VR m (f x) (g x))->ba m (l.map f) (l.map g)
 |[],_=> .nil
 |x::l,h=> .cons (h x) (ba.map l h)
theorem VR.scalar{m:Mp}{v v':Value}(h:VR m v v')(hs:Ev.scalar v=true):v'=v:=by
 cases h<;>first|rfl|cases hs
theorem VR.self{m:Mp}{v:Value}(hs:Ev.scalar v=true):VR m v v:=by
 cases v<;>first|exact .bool _|exact .int _ _|exact .string _|cases hs
theorem VR.one{m:Mp}{v v':Value}(h:VR m v v'):Ev.one v'=Ev.one v:=by cases h<;>rfl
theorem VR.cells{m:Mp}{v v':Value}(h:VR m v v'):ba m v.cells.toList v'.cells.toList:=by
 cases h with
 |agg h=>exact h
 |bool b=>exact .cons (.bool b) .nil
 |int k n=>exact .cons (.int k n) .nil
 |float k n=>exact .cons (.float k n) .nil
 |string s=>exact .cons (.string s) .nil
 |zY=>exact .cons .zY .nil
 |ptr h=>exact .cons (.ptr h) .nil
 |mO n c hc=>exact .cons (.mO n c hc) .nil
 |fV h ho h1 h2 hn ht=>exact .cons (.fV h ho h1 h2 hn ht) .nil
 |pX b off s a'=>exact .cons (.pX b off s a') .nil
 |func fn h1 h2=>exact .cons (.func fn h1 h2) .nil
 |nilFunc=>exact .cons .nilFunc .nil
 |tuple h=>exact .cons (.tuple h) .nil
theorem VR.undef{m:Mp}:VR m alK alK:= .tuple .nil
theorem VR.HJ{m:Mp}{v v':Value}(h:VR m v v'):v.cells.size=v'.cells.size:=by
 have:=h.cells.length
 simpa using this
structure WR (P:Program) (m:Mp) (base:Nat) (h:H) (hp:Array Obj):Prop where
 live:∀b B,h.get b=some B->∃d cs lo hi,m b=some d∧hp[d.dJ]? =some (.cells cs d.el (lo,hi))∧cs.size=d.uL∧d.sh+B.cells.length<=d.uL∧
  size? P B.elem=some d.esz∧(B.own=true->d.el=B.elem∧base<=d.dJ∧∀k,k<d.uL->¬(lo<=k∧k<hi))∧∀k v,B.cells[k]? =some v->∃v',cs[d.sh+k]? =some v'∧VR m v v'
 inj:∀b b' B B' d d',h.get b=some B->h.get b'=some B'->(B.own=true∨B'.own=true)->m b=some d->m b'=some d'->d.dJ=d'.dJ->b=b'
theorem WR.mN{P:Program}{m:Mp}{base:Nat}{h h':H}{hp:Array Obj}(x:WR P m base h hp)(e:∀b,h'.get b=h.get b):WR P m base h' hp:=
 ⟨fun b B hb=>x.live b B (by rw[<-e];exact hb),fun b b' B B' d d' hb bO=>x.inj b b' B B' d d' (by rw[<-e];exact hb) (by rw[<-e];exact bO)⟩
theorem WR.lt{P:Program}{m:Mp}{base:Nat}{h:H}{hp:Array Obj}(x:WR P m base h hp){b:Nat}{B:AB}(hb:h.get b=some B):∃d,m b=some d∧d.dJ<hp.size:=by
 obtain⟨d,cs,lo,hi,hm,hg,_⟩:=x.live b B hb
 exact⟨d,hm,(Array.getElem?_eq_some_iff.1 hg).1⟩
structure cK (P:Program) (m:Mp) (base n n1:Nat) (w:World) (h1:H) (m':Mp) (w':World):Prop where
 le:Le m m'
 out:∀b,¬(n<=b∧b<n1)->m' b=m b
 wr:WR P m' base h1 w'.heap
 below:Below base w w'
theorem cK.refl{P:Program}{m:Mp}{base n:Nat}{w:World}{h:H}(x:WR P m base h w.heap):cK P m base n n w h m w:=
 ⟨Le.refl _,fun _ _=>rfl,x,r7 _ _⟩
theorem cK.trans{P:Program}{m m' nM:Mp}{base n n1 n2:Nat}{w w' nN:World}{h1 h2:H}(h01:n<=n1)(h12:n1<=n2)(x:cK P m base n n1 w h1 m' w')(y:cK P m' base n1 n2 w' h2 nM nN):cK P m base n n2 w h2 nM nN:=
 ⟨x.le.trans y.le,fun b hb=>(y.out b (by omega)).trans (x.out b (by omega)),y.wr,x.below.trans y.below⟩
def ic(m:Mp)(n n1:Nat):Prop:=∀b,n<=b->b<n1->m b=none
theorem ic.after{P:Program}{m m':Mp}{base n n1 n2:Nat}{w w':World}{h1:H}(f:ic m n n2)(hn:n<=n1)(x:cK P m base n n1 w h1 m' w'):ic m' n1 n2:=
 fun b h1 h2=>by rw[x.out b (by omega)];exact f b (by omega) h2
theorem ic.first{m:Mp}{n n1 n2:Nat}(f:ic m n n2)(h:n1<=n2):ic m n n1:=fun b h1 h2=>f b h1 (by omega)
theorem nO(b o i:Nat):(⟨b,o,none⟩:Addr).add i=⟨b,o+i,none⟩:=by
 unfold Addr.add
 split
 ·rename_i h;subst h;rfl
 ·rfl
theorem uM(w:World)(c o:Nat){cs:Array Value}{e:TypeId}{f:Nat×Nat}(h:w.heap[c]? =some (.cells cs e f)):w.cell? ⟨c,o,none⟩=cs[o]? :=by
 unfold World.cell?
 simp[h]
theorem CD{P:Program}{m:Mp}{base:Nat}{h h1:H}{w:World}{b k n n1:Nat}{v:Value}{L:List En}(x:WR P m base h w.heap)(hr:rd b k h n=some ⟨v,h1,n1,L⟩):
 h1=h∧n1=n∧∃d v',m b=some d∧w.cell? ⟨d.dJ,d.sh+k,none⟩=some v'∧VR m v v':=by
 unfold rd at hr
 split at hr
 ·split at hr
  ·rename_i B hB
   split at hr
   ·rename_i u hu
    simp only[ee,Out.mk.injEq]at hr
    obtain⟨rfl,rfl,rfl,_⟩:=hr
    obtain⟨d,cs,lo,hi,hm,hg,_,_,_,_,hc⟩:=x.live b B hB
    obtain⟨v',bX,hr⟩:=hc k u hu
    exact⟨rfl,rfl,d,v',hm,by rw[uM w _ _ hg];exact bX,hr⟩
   ·cases hr
  ·cases hr
 ·cases hr
theorem uN{P:Program}{m:Mp}{base:Nat}{h:H}{w:World}{b n:Nat}(x:WR P m base h w.heap){d:Ds}(hd:m b=some d):∀{c k n1:Nat} {vs:List Value} {h1:H} {L:List En},dj b k c h n=some ⟨vs,h1,n1,L⟩->
 h1=h∧n1=n∧vs.length=c∧∃dh,ba m vs dh∧∀j v,dh[j]? =some v->w.cell? ⟨d.dJ,d.sh+k+j,none⟩=some v:=by
 intro c
 induction c with
 |zero=>
  intro k n1 vs h1 L hr
  simp only[dj,M.ret,ee,Out.mk.injEq]at hr
  obtain⟨rfl,rfl,rfl,_⟩:=hr
  exact⟨rfl,rfl,rfl,[],.nil,fun j v hv=>by simp at hv⟩
 |succ c ih=>
  intro k n1 vs h1 L hr
  obtain⟨v,h2,n2,L1,L2,e2,e3,_⟩:=bind_some (m:=rd b k) hr
  obtain⟨rfl,rfl,d',v',lx,hc,hv⟩:=CD x e2
  rw[hd]at lx
  cases lx
  obtain⟨ws,h4,n4,L3,L4,e4,e5,_⟩:=bind_some (m:=dj b (k+1) c) e3
  obtain⟨rfl,rfl,hl,dh,fE,eh⟩:=ih e4
  obtain⟨rfl,rfl,rfl⟩:=bD e5
  refine⟨rfl,rfl,by simp[hl],v'::dh,.cons hv fE,fun j u hu=> ?_⟩
  cases j with
  |zero=>simp at hu;subst hu;exact hc
  |succ j=>
   have:=eh j u (by simpa using hu)
   rw[show d.sh+k+(j+1)=d.sh+(k+1)+j by omega]
   exact this
theorem xX{P:Program}{w:World}{c o:Nat}{vs:List Value}(h:∀j v,vs[j]? =some v->w.cell? ⟨c,o+j,none⟩=some v):(loadCells ⟨c,o,none⟩ vs.length).run P w= .ok vs.toArray w:=by
 have:=run_loadCells_list (P:=P) (w:=w) ⟨c,o,none⟩ vs (fun j v hv=>by rw[nO];exact h j v hv)
 simpa using this
theorem OS{P:Program}{m:Mp}{base:Nat}{h h1:H}{w:World}{b n n1:Nat}{e:TypeId}{L:List En}(x:WR P m base h w.heap)(hr:gN b h n=some ⟨e,h1,n1,L⟩):
 h1=h∧n1=n∧∃d,m b=some d∧size? P e=some d.esz∧∃B,h.get b=some B∧B.elem=e:=by
 unfold gN at hr
 split at hr
 ·split at hr
  ·rename_i B hB
   simp only[ee,Out.mk.injEq]at hr
   obtain⟨rfl,rfl,rfl,_⟩:=hr
   obtain⟨d,cs,lo,hi,hm,_,_,_,hs,_⟩:=x.live b B hB
   exact⟨rfl,rfl,d,hm,hs,B,hB,rfl⟩
  ·cases hr
 ·cases hr
theorem getElem?_modify_ne{α:Type}(a:Array α)(f:α->α){i j:Nat}(h:i≠j):(a.modify i f)[j]? =a[j]? :=by
 rw[Hh,if_neg h]
theorem abm{P:Program}{m:Mp}{base:Nat}{h h1:H}{w:World}{b k n n1:Nat}{v v':Value}{L:List En}(x:WR P m base h w.heap)(hr:wr b k v h n=some ⟨(),h1,n1,L⟩)(hv:VR m v v'){d:Ds}(hd:m b=some d):
 n1=n∧(w.cell? ⟨d.dJ,d.sh+k,none⟩).isSome=true∧w.frozen? ⟨d.dJ,d.sh+k,none⟩=false∧Ev.one v'=true∧base<=d.dJ∧WR P m base h1 (w.setCell ⟨d.dJ,d.sh+k,none⟩ v').heap:=by
 unfold wr at hr
 split at hr
 ·split at hr
  ·rename_i B hB
   split at hr
   ·rename_i hc
    simp only[cb,decide_eq_true_eq]at hc
    obtain⟨⟨oP,hk⟩,zW⟩:=hc
    simp only[ee,Out.mk.injEq]at hr
    obtain⟨_,rfl,rfl,_⟩:=hr
    obtain⟨d0,cs,lo,hi,hm,hg,fL,hlen,abn,ho,hc⟩:=x.live b B hB
    rw[hd]at hm;cases hm
    obtain⟨nQ,sI,fF⟩:=ho oP
    have bf:d.sh+k<cs.size:=by omega
    have jj:(w.setCell ⟨d.dJ,d.sh+k,none⟩ v').heap[d.dJ]? =some (.cells (cs.setIfInBounds (d.sh+k) v') d.el (lo,hi)):=by
     simp only[World.setCell,Hh,if_true,hg]
     simp
    refine⟨rfl,by rw[uM w _ _ hg];simp[bf], ?_,by rw[hv.one];exact zW,sI, ?_⟩
    ·unfold World.frozen?
     simp only[hg]
     have:=fF (d.sh+k) (by omega)
     simp only[Bool.and_eq_false_iff,decide_eq_false_iff_not]
     omega
    ·constructor
     ·intro b2 B2 ig
      rw[zV hB v b2 0]at ig
      by_cases e:b2=b
      ·subst e
       rw[if_pos rfl]at ig
       cases ig
       refine⟨d,_,lo,hi,hd,jj,by simpa using fL,by simpa using hlen,abn,fun _=>⟨nQ,sI,fF⟩,fun j u hu=> ?_⟩
       by_cases e2:k=j
       ·subst e2
        simp[hk]at hu
        subst hu
        exact⟨v',by simp[bf],hv⟩
       ·rw[alJ e2]at hu
        obtain⟨u',qT,hr⟩:=hc j u hu
        exact⟨u',by rw[aaI (by omega)];exact qT,hr⟩
      ·rw[if_neg e]at ig
       obtain⟨d2,qU,HK,ke,gf,dy,r⟩:=x.live b2 B2 ig
       have bE:d.dJ≠d2.dJ:=fun e3=>e (x.inj b2 b B2 B d2 d ig hB (.inr oP) gf hd e3.symm)
       refine⟨d2,qU,HK,ke,gf, ?_,r⟩
       rw[Below.heap_setCell w _ _ _ (Ne.symm bE)]
       exact dy
     ·intro b2 b3 B2 B3 d2 d3 ig hb3 qV
      have key:∀c C,(h.set b (some {B with cells:=B.cells.set k v})).get c=some C->∃C',h.get c=some C'∧C'.own=C.own:=by
       intro c C kf
       rw[zV hB v c 0]at kf
       by_cases e:c=b
       ·subst e
        rw[if_pos rfl]at kf
        cases kf
        exact⟨B,hB,rfl⟩
       ·rw[if_neg e]at kf;exact⟨C,kf,rfl⟩
      obtain⟨C2,h2,g2⟩:=key b2 B2 ig
      obtain⟨C3,h3,g3⟩:=key b3 B3 hb3
      exact x.inj b2 b3 C2 C3 d2 d3 h2 h3 (by rw[g2,g3];exact qV)
   ·cases hr
  ·cases hr
 ·cases hr
theorem OT{P:Program}{α:Type}{w:World}{p:Addr}{v:Value}{k:Sem α}(h1:(w.cell? p).isSome=true)(h2:w.frozen? p=false)(h3:Ev.one v=true):(Sem.store .plain p v k).run P w=k.run P (w.setCell p v):=by
 obtain⟨u,hu⟩:=Option.isSome_iff_exists.1 h1
 cases v<;>first|(simp[Ev.one]at h3;done)|simp[Ci,hu,h2]
theorem HL{P:Program}{m:Mp}{base:Nat}{b:Nat}{d:Ds}(hd:m b=some d):∀{vs dh:List Value} (_:ba m vs dh) {k i n n1:Nat} {h h1:H} {w:World} {L:List En} (o:Nat),o+i=d.sh+k->WR P m base h w.heap->ez b k vs h n=some ⟨(),h1,n1,L⟩->
 n1=n∧∃w',(storeCells ⟨d.dJ,o,none⟩ dh i).run P w= .ok () w'∧WR P m base h1 w'.heap∧Below base w w':=by
 intro vs dh fE
 induction fE using ba.rec (motive_1:=fun _ _ _=>True)with
 |nil=>
  intro k i n n1 h h1 w L o _ x hr
  simp only[ez,M.ret,ee,Out.mk.injEq]at hr
  obtain⟨_,rfl,rfl,_⟩:=hr
  exact⟨rfl,w,rfl,x,r7 _ _⟩
 |cons hv _ _ ih=>
  intro k i n n1 h h1 w L o ho x hr
  obtain⟨u,h2,n2,L1,L2,e2,e3,_⟩:=bind_some (m:=wr b k _) hr
  cases u
  obtain⟨rfl,c1,c2,c3,hb,x2⟩:=abm x e2 hv hd
  obtain⟨rfl,w',zZ,x3,ew⟩:=ih (i:=i+1) o (by omega) x2 e3
  refine⟨rfl,w', ?_,x3,((r7 base w).setCell (p:=⟨d.dJ,d.sh+k,none⟩) hb _).trans ew⟩
  unfold storeCells
  rw[nO,ho]
  show(zG (store _ _) _).run P w=_
  unfold store
  simp only[zG]
  rw[OT c1 c2 c3]
  exact zZ
 |_=>trivial
theorem uO {P:Program} {m:Mp} {base:Nat} {h h1:H} {w:World} {n n1 r:Nat} {e:TypeId} {cs:List Value} {L:List En} (x:WR P m base h w.heap) (hr:cY e cs h n=some ⟨r,h1,n1,L⟩) (hf:ic m n n1) (sI:base<=w.heap.size)
 {cs':Array Value} (hlen:cs.length<=cs'.size) (eh:∀(k:Nat) (v:Value),cs[k]? =some v->∃v',cs'[k]? =some v'∧VR m v v') {esz:Nat} (he:size? P e=some esz):
 r=n∧n1=n+1∧∃m',m' n=some ⟨w.heap.size,0,cs'.size,esz,e⟩∧cK P m base n n1 w h1 m' (w.alloc (.cells cs' e)):=by
 unfold cY at hr
 split at hr
 ·rename_i hn
  simp only[ee,Out.mk.injEq]at hr
  obtain⟨rfl,rfl,rfl,_⟩:=hr
  have dF:m n=none:=hf n (av _) (by omega)
  have hle:Le m (fun b=>if b=n then some ⟨w.heap.size,0,cs'.size,esz,e⟩else m b):=by
   intro b d hb
   by_cases e:b=n
   ·subst e;rw[dF]at hb;cases hb
   ·simp[e,hb]
  refine⟨rfl,rfl,fun b=>if b=n then some ⟨w.heap.size,0,cs'.size,esz,e⟩else m b,by simp,hle,fun b hb=>by rw[if_neg (by omega)], ?_,(r7 _ _).alloc sI _⟩
  constructor
  ·intro b B hb
   rw[H.ji _ _]at hb
   by_cases eb:b=n
   ·subst eb
    rw[if_pos rfl]at hb
    cases hb
    refine⟨_,cs',0,0,if_pos rfl, ?_,rfl,by simpa using hlen,he,fun _=>⟨rfl,sI,fun k _=>by omega⟩,fun k v hk=> ?_⟩
    ·exact heap_alloc_new w _
    ·obtain⟨v',bX,hr⟩:=eh k v hk
     exact⟨v',by simpa using bX,hr.mono hle⟩
   ·rw[if_neg eb]at hb
    obtain⟨d,qU,lo,hi,hm,hg,h1,h2,fL,h3,h4⟩:=x.live b B hb
    refine⟨d,qU,lo,hi,by simp[eb,hm], ?_,h1,h2,fL,h3,fun k v hk=> ?_⟩
    ·rw[Below.heap_alloc w _ _ (Array.getElem?_eq_some_iff.1 hg).1];exact hg
    ·obtain⟨v',bX,hr⟩:=h4 k v hk
     exact⟨v',bX,hr.mono hle⟩
  ·intro b b' B B' d d' hb bO qV hm dz he
   rw[H.ji _ _]at hb bO
   by_cases eb:b=n
   ·by_cases uP:b'=n
    ·rw[eb,uP]
    ·rw[if_neg uP]at bO dz
     rw[if_pos eb]at hm
     obtain⟨d2,h2,bf⟩:=x.lt bO
     rw[dz]at h2
     cases h2;cases hm
     simp at he
     omega
   ·rw[if_neg eb]at hb hm
    by_cases uP:b'=n
    ·rw[if_pos uP]at dz
     obtain⟨d2,h2,bf⟩:=x.lt hb
     rw[hm]at h2
     cases h2;cases dz
     simp at he
     omega
    ·rw[if_neg uP]at bO dz
     exact x.inj b b' B B' d d' hb bO qV hm dz he
 ·cases hr
theorem WR.kill{P:Program}{m:Mp}{base:Nat}{h:H}{hp:Array Obj}(x:WR P m base h hp){b:Nat}{B:AB}(hB:h.get b=some B):WR P m base (h.set b none) hp:=by
 have key:∀c C,(h.set b none).get c=some C->c≠b∧h.get c=some C:=by
  intro c C hc
  rw[H.ji _ _]at hc
  by_cases e:c=b
  ·rw[if_pos e]at hc;cases hc
  ·rw[if_neg e]at hc;exact⟨e,hc⟩
 exact⟨fun c C hc=>x.live c C (key c C hc).2,fun c c' C C' d d' hc mP=>x.inj c c' C C' d d' (key c C hc).2 (key c' C' mP).2⟩
def Gl(P:Program)(m:Mp):Prop:=∀g,g<P.globals.size->∃d,m g=some d∧d.dJ=g∧d.sh=0
theorem Gl.mono{P:Program}{m m':Mp}(g:Gl P m)(h:Le m m'):Gl P m':=fun i hi=>let⟨d,h1,h2⟩:=g i hi;⟨d,h _ _ h1,h2⟩
structure SR (m:Mp) (nt:Nat) (s:S) (a:Act):Prop where
 df:a.defers=[]
 sz:a.tmps.size=nt
 at_:∀t,VR m (s.get t) (a.tmps.getD t undef)
theorem SR.mono{m m':Mp}{nt:Nat}{s:S}{a:Act}(x:SR m nt s a)(h:Le m m'):SR m' nt s a:=⟨x.df,x.sz,fun t=>(x.at_ t).mono h⟩
theorem VR.qM{m:Mp}{v:Value}(h:Ev.qM v=true):VR m v v:=by
 unfold Ev.qM at h
 split at h
 ·exact .bool _
 ·exact .int _ _
 ·exact .float _ _
 ·exact .string _
 ·exact .zY
 ·exact .nilFunc
 ·exact .mO _ _ (by simpa using h)
 ·cases h
theorem ba.clean{m:Mp}:∀{l:List Value},(∀v∈l,Ev.qM v=true)->ba m l l
 |[],_=> .nil
 |v::l,h=> .cons (VR.qM (h v (by simp))) (ba.clean fun u hu=>h u (by simp[hu]))
theorem VR.clean{m:Mp}{v:Value}(h:Ev.clean v=true):VR m v v:=by
 unfold Ev.clean at h
 split at h
 ·exact .agg (ba.clean fun u hu=>by rw[uB]at h;exact h u (Array.mem_toList_iff.1 hu))
 ·exact .tuple (ba.clean fun u hu=>by rw[uB]at h;exact h u (Array.mem_toList_iff.1 hu))
 ·exact VR.qM h
theorem OU{P:Program}{m:Mp}{nt:Nat}{s:S}{a:Act}(g:Gl P m)(x:SR m nt s a){y:Operand}(h:CA P y=true):VR m (ev s y) (a.eval y):=by
 cases y with
 |tmp t=>exact x.at_ t
 |const v=>exact VR.clean h
 |global i=>
  obtain⟨d,h1,h2,h3⟩:=g i (by simpa[CA]using h)
  have:=VR.ptr (m:=m) (off:=0) h1
  rw[h2,h3]at this
  exact this
 |func f=>exact .func _ .nil .nil
theorem abo{m:Mp}{nt:Nat}{s:S}{a:Act}(x:SR m nt s a)(ops:Array Oper)(j:Nat):fZ ops s j=yielded ops a.tmps j:=by
 unfold fZ yielded
 cases ho:(ops[j]?).bind (·.dst)with
 |none=>rfl
 |some t=>
  have hr:=x.at_ t
  simp only[N8]
  rw[pN]at hr
  cases hg:a.tmps[t]? with
  |none=>
   rw[hg]at hr
   generalize s.get t=v at hr
   cases hr;rfl
  |some u=>
   rw[hg]at hr
   simp only[Option.getD_some]at hr
   generalize s.get t=v at hr
   cases hr<;>rfl
theorem S.p5(s:S)(d:Nat)(v:Value)(t:Nat)(hd:d<1023):(s.put d v).get t=if t=d then v else s.get t:=by
 unfold S.get S.put
 rw[Tr.ji 10 s d (some v) t (by omega)]
 split<;>rfl
theorem OV{m:Mp}{nt:Nat}{s s1:S}{a:Act}{dst:Option Tmp}{v v':Value}(x:SR m nt s a)(hv:VR m v v')(h:kK nt s dst v=some s1):SR m nt s1 (a.put dst v'):=by
 unfold kK at h
 cases dst with
 |none=>cases h;exact x
 |some d=>
  simp only at h
  split at h
  ·rename_i hc
   simp only[cb,decide_eq_true_eq]at hc
   cases h
   refine⟨x.df,by simp[alN,x.sz],fun t=> ?_⟩
   rw[S.p5 _ _ _ _ hc.2]
   simp only[alN]
   by_cases e:t=d
   ·subst e
    rw[if_pos rfl]
    have:t<a.tmps.size:=by rw[x.sz];exact hc.1
    simpa[this]using hv
   ·rw[if_neg e]
    have:=x.at_ t
    simpa[aaI (Ne.symm e),pN]using this
  ·cases h
inductive NR (m:Mp):Nx->Next->Prop
 |val {v v':Value} (h:VR m v v'):NR m (.val v) (.value v')
 |skip:NR m (.val undef) .skip
 |call {f:FuncId} {args ej:Array Value} (h:ba m args.toList ej.toList):NR m (.call f args) (.enter f ej)
def uQ(P:Program)(base:Nat):Prop:=∀(ρ ρ':Operand->Value) (o:Oper) (h:H) (n:Nat) (r:Nx) (h1:H) (n1:Nat) (L:List En) (m:Mp) (w:World),
 bU P ρ o h n=some ⟨r,h1,n1,L⟩->(∀y∈o.op.operands,VR m (ρ y) (ρ' y))->WR P m base h w.heap->base<=w.heap.size->ic m n n1->
 ∃m' w' R,(execOp ρ' o).run P w= .ok R w'∧cK P m base n n1 w h1 m' w'∧NR m' r R
def xY(P:Program)(base:Nat)(rec:FuncId->Array Value->M Value):Prop:=∀(f:FuncId) (args:Array Value) (h:H) (n:Nat) (v:Value) (h1:H) (n1:Nat) (L:List En) (m:Mp) (w:World) (ej:Array Value),
 rec f args h n=some ⟨v,h1,n1,L⟩->WR P m base h w.heap->base<=w.heap.size->ba m args.toList ej.toList->ic m n n1->Gl P m->
 Calls P f ej w fun e w'=>∃m' v',e= .returned v'∧cK P m base n n1 w h1 m' w'∧VR m' v v'
section
variable {P:Program} {base:Nat} {rec:FuncId->Array Value->M Value} {nt:Nat} {ops:Array Oper} {Q:Exit->Act->World->Prop}
theorem Below.le{B:Nat}{w w':World}(b:Below B w w')(h:B<=w.heap.size):B<=w'.heap.size:=Cj h b.size
theorem OW (bC:uQ P base) (cF:xY P base rec) (fM:∀f a,Loc (rec f a)) {i:Nat} {o:Oper} (hi:ops[i]? =some o) (cH:xS P o=true) {m:Mp} {s:S} {a:Act} {w:World} {h h1:H} {n n1:Nat} {L:List En} {v:Value}
 (x:WR P m base h w.heap) (hb:base<=w.heap.size) (g:Gl P m) (hs:SR m nt s a) (hr:fD P rec ops o s h n=some ⟨v,h1,n1,L⟩) (hf:ic m n n1) {K:Act->World->Prop}
 (hK:∀m' w' v',cK P m base n n1 w h1 m' w'->VR m' v v'->K (a.put o.dst v') w'):wpOp P ops Q i K a w:=by
 have hw:fJ o (fZ ops s)=fJ o (yielded ops a.tmps):=by
  congr 1;funext j;exact abo hs ops j
 unfold wpOp
 simp only[hi]
 unfold fD at hr
 rw[hw]at hr
 by_cases HM:fJ o (yielded ops a.tmps)=true
 ·rw[if_pos HM]at hr⊢
  obtain⟨r,h2,n2,L1,L2,e1,e2,rfl⟩:=bind_some hr
  have A:=Loc.bU P (ev s) o h n r h2 n2 L1 e1
  have ey:n2<=n1:=by
   cases r with
   |val u=>obtain⟨_,_,e⟩:=bD e2;omega
   |call f args=>exact(fM f args _ _ _ _ _ _ e2).le
  obtain⟨m',w',R,jK,uR,OX⟩:=bC (ev s) a.eval o h n r h2 n2 L1 m w e1 (fun y hy=>OU g hs (by
   unfold xS at cH
   rw[uB]at cH
   exact cH y hy)) x hb (hf.first ey)
  left
  unfold Oper.wp
  rw[jK]
  cases OX with
  |val hv=>
   obtain⟨rfl,rfl,rfl⟩:=bD e2
   exact hK m' w' _ uR hv
  |skip=>
   obtain⟨rfl,rfl,rfl⟩:=bD e2
   exact hK m' w' _ uR VR.undef
  |call ek=>
   rename_i f args ej
   refine(cF f args h2 n2 v h1 n1 L2 m' w' ej e2 uR.wr (Below.le uR.below hb) ek (hf.after A.le uR) (g.mono uR.le)).mono ?_
   rintro e nN ⟨nM,v',rfl,gG,hv⟩
   exact hK nM nN v' (uR.trans A.le ey gG) hv
 ·have hwf:fJ o (yielded ops a.tmps)=false:=by simpa using HM
  rw[if_neg HM]at hr⊢
  obtain⟨rfl,rfl,rfl⟩:=bD hr
  exact hK m w undef (cK.refl x) VR.undef
theorem all_congr{α:Type}{l:Array α}{f g:α->Bool}(h:∀x∈l,f x=g x):l.all f=l.all g:=by
 rw[Bool.eq_iff_iff,uB,uB]
 exact⟨fun a x hx=>by rw[<-h x hx];exact a x hx,fun a x hx=>by rw[h x hx];exact a x hx⟩
theorem abp{ρ ρ':Operand->Value}(o:Oper)(h:∀x∈o.op.operands,ρ x=ρ' x):bU P ρ o=bU P ρ' o:=by
 by_cases hs:∃cs b,o.op= .select cs b
 ·obtain⟨cs,b,hs⟩:=hs
  unfold bU
  rw[hs]
 have hex:execOp ρ o=execOp ρ' o:=execOp_congr o (fun cs b hh=>hs ⟨cs,b,hh⟩) h
 have iT:fT P ρ o=fT P ρ' o:=by
  unfold fT
  rw[hex,all_congr fun x hx=>by rw[h x hx]]
 have OY:∀ps:Array (Nat×Operand),(∀x∈(ps.toList.map (·.2)).toArray,ρ x=ρ' x)->(ps.toList.map fun(i,x)=>(i,ρ x))=(ps.toList.map fun(i,x)=>(i,ρ' x)):=fun ps hp=>
  List.map_congr_left fun p hm=>by
   obtain⟨i,x⟩:=p
   simp only[hp x (by simpa using ⟨i,by simpa using hm⟩)]
 unfold bU
 cases bC:o.op<;>rw[bC]at h<;>simp only[Op.operands]at h<;>simp only
 case build t ps=>rw[OY ps h]
 case buildSlice t n ps=>rw[OY ps h]
 case makeFunc fn first captured=>
  rw[aaJ (xs:=first) fun x hx=>h x (by simp[hx]),aaJ (xs:=captured) fun x hx=>h x (by simp[hx])]
 case call c=>
  have ek:c.args.map ρ=c.args.map ρ':=aaJ fun x hx=>h x (by simp[zI,hx])
  rw[ek]
  unfold kJ
  cases hc:c.callee with
  |value f=>have hf:ρ f=ρ' f:=h f (by simp[zI,hc]);simp only[hf]
  |invoke r m=>rfl
  |builtin b=>cases b<;>simp only[iT]
 case slice t x lo hi mx=>
  rw[iT,h x (by simp)]
  cases lo<;>cases hi<;>cases mx<;>simp_all
 all_goals (first|rfl|(simp_all;done)|(rw[iT];simp_all;done))
theorem abq{s s':S}{y:Operand}(h:∀t,y= .tmp t->s.get t=s'.get t):ev s y=ev s' y:=by
 cases y with
 |tmp t=>exact h t rfl
 |_=>rfl
theorem abr{o:Oper}{s s':S}(h:∀t∈o.looksAt ops,s.get t=s'.get t):fD P rec ops o s=fD P rec ops o s':=by
 have h1:bU P (ev s) o=bU P (ev s') o:=abp o fun x hx=>abq fun t ht=>h t (by
  unfold alO
  exact List.mem_append_left _ (List.mem_filterMap.2 ⟨x,by simpa using hx,by rw[ht]⟩))
 have h2:fJ o (fZ ops s)=fJ o (fZ ops s'):=by
  unfold fJ
  cases hg:o.guard with
  |none=>rfl
  |some gw=>
   obtain⟨g,want⟩:=gw
   have:fZ ops s g=fZ ops s' g:=by
    unfold fZ
    cases ht:(ops[g]?).bind (·.dst)with
    |none=>rfl
    |some t=>simp only[h t (by unfold alO;exact List.mem_append_right _ (by simp[hg,ht]))]
   simp only[this]
 unfold fD
 rw[h1,h2]
end
structure HN (P:Program) (rec:FuncId->Array Value->M Value) (nt:Nat) (ops:Array Oper) (l:List Oper) (s:Nat->S) (h:Nat->H) (n:Nat->Nat) (v:Nat->Value) (L:Nat->List En):Prop where
 step:∀i o,l[i]? =some o->inside (fD P rec ops o (s i)) (h i) (n i)=some ⟨v i,h (i+1),n (i+1),L i⟩
 put:∀i o,l[i]? =some o->kK nt (s i) o.dst (v i)=some (s (i+1))
theorem abt{P:Program}{rec:FuncId->Array Value->M Value}{nt:Nat}{ops:Array Oper}:∀(l:List Oper) (s0:S) (h0:H) (n0:Nat) (y:S×List Tk) (h1:H) (n1:Nat) (L0:List En),
 iR P rec nt ops l s0 h0 n0=some ⟨y,h1,n1,L0⟩->∃s h n v L,HN P rec nt ops l s h n v L∧s 0=s0∧h 0=h0∧n 0=n0∧s l.length=y.1∧h l.length=h1∧n l.length=n1∧y.2.length=l.length∧∀i,i<l.length->y.2[i]? =some ⟨n i,n (i+1),L i⟩:=by
 intro l
 induction l with
 |nil=>
  intro s0 h0 n0 y h1 n1 L0 hr
  obtain⟨rfl,rfl,rfl⟩:=bD hr
  exact⟨fun _=>s0,fun _=>h1,fun _=>n1,fun _=>undef,fun _=>[],⟨fun i o h=>by simp at h,fun i o h=>by simp at h⟩,rfl,rfl,rfl,rfl,rfl,rfl,rfl,fun i hi=>by simp at hi⟩
 |cons o r ih=>
  intro s0 h0 n0 y h1 n1 L0 hr
  obtain⟨x,h2,n2,L1,L2,e1,e2,_⟩:=bind_some (m:=aV (inside (fD P rec ops o s0))) hr
  unfold aV at e1
  split at e1
  ·rename_i v0 lu xV Li ei
   simp only[ee,Out.mk.injEq]at e1
   obtain⟨rfl,rfl,rfl,rfl⟩:=e1
   obtain⟨s1,h3,n3,L3,L4,e3,e4,_⟩:=bind_some (m:=M.lift _) e2
   obtain⟨fq,rfl,rfl⟩:=pW e3
   obtain⟨y2,h4,n4,L5,L6,e5,e6,_⟩:=bind_some (m:=iR P rec nt ops r s1) e4
   obtain⟨rfl,rfl,rfl⟩:=bD e6
   obtain⟨s,h,n,v,L,C,a1,a2,a3,a4,a5,a6,a7,a8⟩:=ih _ _ _ _ _ _ _ e5
   refine⟨fun i=>if i=0 then s0 else s (i-1),fun i=>if i=0 then h0 else h (i-1),fun i=>if i=0 then n0 else n (i-1),fun i=>if i=0 then v0 else v (i-1),fun i=>if i=0 then Li else L (i-1),⟨fun i o' ho=> ?_,fun i o' ho=> ?_⟩,rfl,rfl,rfl,by simpa using a4,by simpa using a5,by simpa using a6,by simp[a7],fun i hi=> ?_⟩
   ·cases i with
    |zero=>simp at ho;subst ho;simpa[a2,a3]using ei
    |succ i=>simpa using C.step i o' (by simpa using ho)
   ·cases i with
    |zero=>simp at ho;subst ho;simpa[a1]using fq
    |succ i=>simpa using C.put i o' (by simpa using ho)
   ·cases i with
    |zero=>simp[a3]
    |succ i=>simpa using a8 i (by simpa using hi)
  ·cases e1
theorem HO{α:Type}{m:M α}{h h1:H}{n n1:Nat}{a:α}{L:List En}(hr:inside m h n=some ⟨a,h1,n1,L⟩):∃L',m h n=some ⟨a,h1,n1,L'⟩:=by
 unfold inside at hr
 split at hr
 ·rename_i a' eg qS L' e
  simp only[ee,Out.mk.injEq]at hr
  obtain⟨rfl,rfl,rfl,_⟩:=hr
  exact⟨L',e⟩
 ·cases hr
section
variable {P:Program} {base:Nat} {rec:FuncId->Array Value->M Value} {nt:Nat} {ops:Array Oper} {Q:Exit->Act->World->Prop}
theorem abu (bC:uQ P base) (cF:xY P base rec) (fM:∀f a,Loc (rec f a)) (cH:∀o∈ops,xS P o=true) {s:Nat->S} {h:Nat->H} {n:Nat->Nat} {v:Nat->Value} {L:Nat->List En}
 (C:HN P rec nt ops ops.toList s h n v L) {m0:Mp} {w0:World} (hf:ic m0 (n 0) (n ops.size)) (uS:∀i,i<ops.size->n i<=n (i+1)) (hb:base<=w0.heap.size) (g:Gl P m0) (R:Act->World->Prop)
 (hR:∀m' a' w',cK P m0 base (n 0) (n ops.size) w0 (h ops.size) m' w'->SR m' nt (s ops.size) a'->Q .normal a' w'):
 ∀(k i:Nat),i+k=ops.size->∀(m:Mp) (a:Act) (w:World),cK P m0 base (n 0) (n i) w0 (h i) m w->SR m nt (s i) a->wpOps P ops Q (List.range' i k) a w:=by
 have gf:∀i j,i<=j->j<=ops.size->n i<=n j:=by
  intro i j ij
  induction ij with
  |refl=>intro _;exact av _
  |step ij ih=>intro hj;exact Cj (ih (by omega)) (uS _ (by omega))
 intro k
 induction k with
 |zero=>
  intro i hik m a w hp hs
  have:i=ops.size:=by omega
  subst this
  exact hR m a w hp hs
 |succ k ih=>
  intro i hik m a w hp hs
  have hi:i<ops.size:=by omega
  rw[List.range'_succ,wpOps_cons]
  have qW:ops[i]? =some ops[i]:=by simp[hi]
  obtain⟨L',hv⟩:=HO (C.step i ops[i] (by simp[hi]))
  have fq:=C.put i ops[i] (by simp[hi])
  refine OW (nt:=nt) bC cF fM qW (cH _ (by simp)) hp.wr (Below.le hp.below hb) (g.mono hp.le) hs hv (fun b h1 h2=> ?_) fun m' w' v' gG bX=> ?_
  ·have q1:=gf 0 i (by omega) (by omega)
   have q2:=gf (i+1) ops.size (by omega) (by omega)
   rw[hp.out b (by omega)]
   exact hf b (by omega) (by omega)
  ·exact ih (i+1) (by omega) m' _ w' (hp.trans (gf 0 i (by omega) (by omega)) (uS i hi) gG) (OV (hs.mono gG.le) bX fq)
end
def Good(ops:Array Oper)(acc:List Nat):Prop:=∀k,k<acc.length->∀j,(acc.getD k 0).testBit j=true->∃o,ops[k]? =some o∧∃e∈o.after,pM .any e=true∧(j=e.on∨(acc.getD e.on 0).testBit j=true)
theorem HP{l l':List Nat}{k:Nat}(h:k<l.length):(l++l').getD k 0=l.getD k 0:=by
 simp[aF,List.getElem?_append_left h]
theorem abv(acc:List Nat)(j:Nat):∀(es:List Edge) (s:Nat),(es.foldl (fun s e=>if pM .any e then s|||2^e.on|||acc.getD e.on 0 else s) s).testBit j=true->
 s.testBit j=true∨∃e∈es,pM .any e=true∧(j=e.on∨(acc.getD e.on 0).testBit j=true):=by
 intro es
 induction es with
 |nil=>intro s h;exact .inl h
 |cons e es ih=>
  intro s h
  simp only[aaK]at h
  rcases ih _ h with h1|⟨e',he',h1⟩
  ·by_cases hb:pM .any e=true
   ·rw[if_pos hb]at h1
    simp only[Nat.testBit_or,xI]at h1
    rcases h1 with (h1|h1)|h1
    ·exact .inl h1
    ·rw[Nat.testBit_two_pow]at h1
     exact .inr ⟨e,by simp,hb,.inl (by simpa using Eq.symm (of_decide_eq_true h1))⟩
    ·exact .inr ⟨e,by simp,hb,.inr h1⟩
   ·rw[if_neg hb]at h1;exact .inl h1
  ·exact .inr ⟨e',by simp[he'],h1⟩
theorem abw(ops:Array Oper):∀(l:List Oper) (acc:List Nat),(∀i o,l[i]? =some o->ops[acc.length+i]? =some o)->Good ops acc->Good ops (lS l acc)∧(lS l acc).length=acc.length+l.length:=by
 intro l
 induction l with
 |nil=>intro acc _ h;exact⟨h,by simp[lS]⟩
 |cons o r ih=>
  intro acc hl h
  unfold lS
  generalize hB:(o.after.toList.foldl (fun s e=>if pM .any e then s|||2^e.on|||acc.getD e.on 0 else s) 0)=B
  have:=ih (acc++[B]) (fun i o' sJ=>by
   have:=hl (i+1) o' (by simpa using sJ)
   simp only[List.length_append,List.length_singleton]
   rw[show acc.length+1+i=acc.length+(i+1) by omega]
   exact this) ?_
  ·exact⟨this.1,by rw[this.2];simp;omega⟩
  ·intro k hk j hj
   by_cases bq:k<acc.length
   ·rw[HP bq]at hj
    obtain⟨o',h1,e,h2,h3,h4⟩:=h k bq j hj
    refine⟨o',h1,e,h2,h3, ?_⟩
    rcases h4 with h4|h4
    ·exact .inl h4
    ·refine .inr ?_
     by_cases he:e.on<acc.length
     ·rw[HP he];exact h4
     ·rw[aF,qI (by omega)]at h4
      simp at h4
   ·have z7:k=acc.length:=by simp at hk;omega
    subst z7
    have hB2:(acc++[B]).getD acc.length 0=B:=by simp[aF]
    rw[hB2,<-hB]at hj
    rcases abv acc j _ _ hj with h1|⟨e,he,hb,h1⟩
    ·simp at h1
    ·refine⟨o,by simpa using hl 0 o rfl,e,by simpa using he,hb, ?_⟩
     rcases h1 with h1|h1
     ·exact .inl h1
     ·refine .inr ?_
      by_cases he:e.on<acc.length
      ·rw[HP he];exact h1
      ·rw[aF,qI (by omega)]at h1
       simp at h1
theorem OZ {ops:Array Oper} {dc:List Nat} (hg:Good ops dc) (hlen:dc.length=ops.size) (he:∀k o,ops[k]? =some o->∀e∈o.after,pM .any e=true->e.on<k) {D:Nat->Prop}
 (hc:∀k o,D k->ops[k]? =some o->∀e∈o.after,pM .any e=true->D e.on):∀(k:Nat),(∀o,ops[k]? =some o->∀e∈o.after,pM .any e=true->D e.on)->∀j,(dc.getD k 0).testBit j=true->D j:=by
 intro k
 induction k using N9 with
 |_ k ih=>
  intro hk j hj
  by_cases bf:k<dc.length
  ·obtain⟨o,ho,e,sK,jk,h1⟩:=hg k bf j hj
   have hd:=hk o ho e sK jk
   rcases h1 with rfl|h1
   ·exact hd
   ·exact ih e.on (he k o ho e sK jk) (fun o' sJ=>hc e.on o' hd sJ) j h1
  ·rw[aF,qI (by omega)]at hj
   simp at hj
theorem abx{ops:Array Oper}{dc:List Nat}:∀(l:List (Nat×Tk)),pU ops dc l=true->∀(p q:Nat) (x y:Nat×Tk),p<q->l[p]? =some x->l[q]? =some y->(dc.getD y.1 0).testBit x.1=true∨(x.2.iQ y.2=false∧pT ops (ops.getD x.1 default) (ops.getD y.1 default)=false):=by
 intro l
 induction l with
 |nil=>intro _ p q x y _ hp;simp at hp
 |cons a l ih=>
  intro h p q x y oQ hp hq
  obtain⟨ja,ta⟩:=a
  unfold pU at h
  simp only[cb]at h
  cases q with
  |zero=>omega
  |succ q=>
   cases p with
   |zero=>
    simp at hp
    subst hp
    have:=List.all_eq_true.1 h.1 y (alQ (by simpa using hq))
    simpa using this
   |succ p=>exact ih h.2 p q x y (by omega) (by simpa using hp) (by simpa using hq)
theorem HQ:∀(ts:List Tk) (b i:Nat),(tagged b ts)[i]? =(ts[i]?).map fun t=>(b+i,t):=by
 intro ts
 induction ts with
 |nil=>intro b i;simp[tagged]
 |cons t ts ih=>
  intro b i
  cases i with
  |zero=>simp[tagged]
  |succ i=>
   simp only[tagged,List.getElem?_cons_succ,ih]
   congr 1
   funext x
   rw[show b+1+i=b+(i+1) by omega]
theorem O0{a b:Tk}(h:a.iQ b=false):
 (∀x∈a.log,∀y∈b.log,(x.wr=true∨y.wr=true)->x.b=y.b->(x.k=y.k∨x.k=none∨y.k=none)->False)∧(∀x∈a.log,¬(b.n<=x.b∧x.b<b.n1))∧(∀x∈b.log,¬(a.n<=x.b∧x.b<a.n1)):=by
 unfold Tk.iQ at h
 simp only[Bool.or_eq_false_iff]at h
 obtain⟨⟨⟨h1,h2⟩,h3⟩,h4⟩:=h
 refine⟨fun x hx y hy hw hb hk=> ?_,fun x hx hi=> ?_,fun x hx hi=> ?_⟩
 ·have hm:x.meets y=true∧y.meets x=true:=by
   unfold En.meets
   rcases hk with hk|hk|hk<;>simp[hb,hk]
  rcases hw with hw|hw
  ·have:=(List.any_eq_false.1 h1) x hx
   simp only[hw,N']at this
   exact(List.any_eq_false.1 (by simpa using this)) y hy hm.1
  ·have:=(List.any_eq_false.1 h2) y hy
   simp only[hw,N']at this
   exact(List.any_eq_false.1 (by simpa using this)) x hx hm.2
 ·have:=(List.any_eq_false.1 h3) x hx
  simp at this
  omega
 ·have:=(List.any_eq_false.1 h4) x hx
  simp at this
  omega
theorem or3{a b:Option Nat}(h:a=b∨a=none∨b=none):b=a∨b=none∨a=none:=by
 rcases h with h|h|h
 ·exact .inl h.symm
 ·exact .inr (.inr h)
 ·exact .inr (.inl h)
section
variable {P:Program} {base:Nat} {rec:FuncId->Array Value->M Value} {nt:Nat} {ops:Array Oper} {Q:Exit->Act->World->Prop}
def Wr(n:Nat->Nat)(L:Nat->List En)(j b c:Nat):Prop:=wrote (L j) b c∨(n j<=b∧b<n (j+1))
def Dn(listed:Array Bool)(j:Nat):Prop:=listed.getD j false=true
structure Inv (P:Program) (base nt:Nat) (ops:Array Oper) (s:Nat->S) (h:Nat->H) (n:Nat->Nat) (L:Nat->List En) (m0:Mp) (w0:World) (listed:Array Bool) (m:Mp) (sD:S) (hD:H) (a:Act) (w:World):Prop where
 sz:listed.size=ops.size
 closed:∀k o,Dn listed k->ops[k]? =some o->∀e∈o.after,pM .any e=true->Dn listed e.on
 mem:∀b c i,i<=ops.size->(∀j,j<ops.size->Wr n L j b c->(Dn listed j↔j<i))->dN hD (h i) b c
 slot:∀t i,i<=ops.size->(∀j o,ops[j]? =some o->o.dst=some t->(Dn listed j↔j<i))->sD.get t=(s i).get t
 le:Le m0 m
 out:∀b,(∀j,j<ops.size->Dn listed j->¬(n j<=b∧b<n (j+1)))->m b=m0 b
 wr:WR P m base hD w.heap
 below:Below base w0 w
 sr:SR m nt sD a
theorem qX{listed:Array Bool}{k j:Nat}(hk:k<listed.size):Dn (listed.setIfInBounds k true) j↔(j=k∨Dn listed j):=by
 unfold Dn
 by_cases e:j=k
 ·subst e;simp[hk]
 ·simp[e,aaI (Ne.symm e),pN]
theorem aby{listed:Array Bool}(he:∀k o,ops[k]? =some o->∀e∈o.after,pM .any e=true->e.on<k)(fL:listed.size=ops.size)(hr:Oa .any ops listed=[]):∀k,k<ops.size->Dn listed k:=by
 intro k
 induction k using N9 with
 |_ k ih=>
  intro hk
  cases hd:listed.getD k true with
  |true=>
   unfold Dn
   simpa[pN,fL▸hk,Array.getElem?_eq_getElem (fL▸hk:k<listed.size)]using hd
  |false=>
   have:k∈Oa .any ops listed:=mem_ready.2 ⟨hd,ops[k],by simp[hk],fun e hm hb=>ih e.on (he k ops[k] (by simp[hk]) e hm hb) (by
    have:=he k ops[k] (by simp[hk]) e hm hb
    omega)⟩
   rw[hr]at this
   cases this
theorem abz (bC:uQ P base) (cF:xY P base rec) (fM:∀f a,Loc (rec f a)) (cH:∀o∈ops,xS P o=true) {s:Nat->S} {h:Nat->H} {n:Nat->Nat} {v:Nat->Value} {L:Nat->List En}
 (C:HN P rec nt ops ops.toList s h n v L) (he:∀k o,ops[k]? =some o->∀e∈o.after,pM .any e=true->e.on<k)
 {dc:List Nat} (hg:Good ops dc) (hlen:dc.length=ops.size)
 (O1:∀j k,j<k->k<ops.size->(dc.getD k 0).testBit j=true∨((⟨n j,n (j+1),L j⟩:Tk).iQ ⟨n k,n (k+1),L k⟩=false∧pT ops (ops.getD j default) (ops.getD k default)=false))
 {m0:Mp} {w0:World} (hf:ic m0 (n 0) (n ops.size)) (uS:∀i,i<ops.size->n i<=n (i+1)) (hb:base<=w0.heap.size) (g:Gl P m0)
 (hR:∀m' a' w',cK P m0 base (n 0) (n ops.size) w0 (h ops.size) m' w'->SR m' nt (s ops.size) a'->Q .normal a' w'):
 ∀(fuel:Nat) (listed:Array Bool) (m:Mp) (sD:S) (hD:H) (a:Act) (w:World),listed.toList.countP (fun b=> !b)=fuel->Inv P base nt ops s h n L m0 w0 listed m sD hD a w->wpAny P .any ops Q fuel listed a w:=by
 have gf:∀i j,i<=j->j<=ops.size->n i<=n j:=by
  intro i j ij
  induction ij with
  |refl=>intro _;exact av _
  |step ij ih=>intro hj;exact Cj (ih (by omega)) (uS _ (by omega))
 have O2:∀k o,ops[k]? =some o->zU (inside (fD P rec ops o (s k))) (h k) (n k) (v k) (h (k+1)) (n (k+1)) (L k):=fun k o ho=>
  Loc.inside (Loc.fD fM ops o (s k)) _ _ _ _ _ _ (C.step k o (by simpa using ho))
 have abA:∀b c i j,i<=j->j<=ops.size->(∀p,i<=p->p<j->¬Wr n L p b c)->dN (h j) (h i) b c:=by
  intro b c i j ij
  induction ij with
  |refl=>intro _ _;exact dN.refl _ _ _
  |@step j ij ih=>
   intro hj hp
   have gQ:j<ops.size:=by omega
   have A:=O2 j ops[j] (by simp[gQ])
   have hw:=hp j ij (by omega)
   exact(A.frame b c (fun x=>hw (.inl x)) (fun x=>hw (.inr x))).trans (ih (by omega) fun p h1 h2=>hp p h1 (by omega))
 have abB:∀t i j,i<=j->j<=ops.size->(∀p o,i<=p->p<j->ops[p]? =some o->o.dst≠some t)->(s j).get t=(s i).get t:=by
  intro t i j ij
  induction ij with
  |refl=>intro _ _;rfl
  |@step j ij ih=>
   intro hj hp
   have gQ:j<ops.size:=by omega
   have fq:=C.put j ops[j] (by simp[gQ])
   have hd:=hp j ops[j] ij (by omega) (by simp[gQ])
   rw[<-ih (by omega) fun p o h1 h2=>hp p o h1 (by omega)]
   unfold kK at fq
   cases nR:(ops[j]).dst with
   |none=>rw[nR]at fq;have hq:s j=s (j+1):=xK fq;rw[hq]
   |some d=>
    rw[nR]at fq hd
    simp only at fq
    split at fq
    ·rename_i hc
     simp only[cb,decide_eq_true_eq]at hc
     have hq:=xK fq
     rw[<-hq,S.p5 _ _ _ _ hc.2,if_neg (fun e=>hd (by rw[e]))]
    ·cases fq
 have fin:∀listed m sD hD a w,Inv P base nt ops s h n L m0 w0 listed m sD hD a w->Oa .any ops listed=[]->Q .normal a w:=by
  intro listed m sD hD a w I hr
  have gR:=aby he I.sz hr
  refine hR m a w ⟨I.le,fun b hb=>I.out b fun j hj _ hi=>hb ⟨Cj (gf 0 j (by omega) (by omega)) hi.1,Nat.lt_of_lt_of_le hi.2 (gf (j+1) ops.size (by omega) (by omega))⟩,I.wr.mN fun b=> ?_,I.below⟩ ⟨I.sr.df,I.sr.sz,fun t=> ?_⟩
  ·exact(HH fun c=>I.mem b c ops.size (av _) fun j hj _=>⟨fun _=>hj,fun _=>gR j hj⟩).symm
  ·rw[<-I.slot t ops.size (av _) fun j o ho _=>⟨fun _=>(Array.getElem?_eq_some_iff.1 ho).1,fun hj=>gR j hj⟩]
   exact I.sr.at_ t
 intro fuel
 induction fuel with
 |zero=>
  intro listed m sD hD a w bM I
  have sL:Oa .any ops listed=[]:=by
   apply List.eq_nil_iff_forall_not_mem.2
   intro k hk
   obtain⟨h1,o,ho,_⟩:=mem_ready.1 hk
   have bf:k<listed.size:=by rw[I.sz];exact(Array.getElem?_eq_some_iff.1 ho).1
   have h2:listed[k]=false:=by simpa[pN,bf]using h1
   have:=List.countP_eq_zero.1 bM listed[k] (by simp)
   rw[h2]at this
   exact this rfl
  exact⟨sL,fin _ _ _ _ _ _ I sL⟩
 |succ fuel ih=>
  intro listed m sD hD a w bM I
  refine⟨fin _ _ _ _ _ _ I,fun k hk=> ?_⟩
  obtain⟨h1,o,ho,O3⟩:=mem_ready.1 hk
  have CE:k<ops.size:=(Array.getElem?_eq_some_iff.1 ho).1
  have bf:k<listed.size:=by rw[I.sz];exact CE
  have HR:listed[k]=false:=by simpa[pN,bf]using h1
  have CF:¬Dn listed k:=by unfold Dn;simp[pN,bf,HR]
  have abC:∀j,(dc.getD k 0).testBit j=true->Dn listed j:=OZ hg hlen he I.closed k fun o' sJ e hm bO=>by
   rw[ho]at sJ;cases sJ
   exact O3 e hm bO
  have abD:∀j,Dn listed j->(dc.getD j 0).testBit k=true->False:=fun j hj bO=>CF (OZ hg hlen he I.closed j (fun o' sJ=>I.closed j o' hj sJ) k bO)
  have CG:∀j,j<ops.size->j≠k->¬(Dn listed j↔j<k)->((∀x∈L j,∀y∈L k,(x.wr=true∨y.wr=true)->x.b=y.b->(x.k=y.k∨x.k=none∨y.k=none)->False)∧(∀x∈L j,¬(n k<=x.b∧x.b<n (k+1)))∧(∀x∈L k,¬(n j<=x.b∧x.b<n (j+1))))∧
   ∀oj,ops[j]? =some oj->(∀d,oj.dst=some d->d∉o.looksAt ops)∧(∀d,oj.dst=some d->o.dst≠some d):=by
   intro j hj lV iU
   have gk:ops.getD k default=o:=by simp[pN,ho]
   have gj:∀oj,ops[j]? =some oj->ops.getD j default=oj:=fun oj h'=>by simp[pN,h']
   rcases Ob j k with h'|h'
   ·rcases O1 j k h' CE with HS|⟨fG,eL⟩
    ·exact absurd ⟨fun _=>h',fun _=>abC j HS⟩ iU
    ·obtain⟨c1,c2,c3⟩:=O0 fG
     refine⟨⟨c1,c2,c3⟩,fun oj lW=> ?_⟩
     rw[gk,gj oj lW]at eL
     obtain⟨a1,a2,a3⟩:=alR (by unfold pT at eL;simpa using eL)
     exact⟨a1,a2⟩
   ·have CC:k<j:=by omega
    have hdj:Dn listed j:=by
     by_cases hd:Dn listed j
     ·exact hd
     ·exact absurd ⟨fun x=>absurd x hd,fun x=>by omega⟩ iU
    rcases O1 k j CC hj with HS|⟨fG,eL⟩
    ·exact(abD j hdj HS).elim
    ·obtain⟨c1,c2,c3⟩:=O0 fG
     refine⟨⟨fun x hx y hy hw bO eu=>c1 y hy x hx hw.symm bO.symm (or3 eu),c3,c2⟩,fun oj lW=> ?_⟩
     rw[gk,gj oj lW]at eL
     obtain⟨a1,a2,a3⟩:=alR (by unfold pT at eL;simpa using eL)
     exact⟨a3,fun d hd e=>a2 d e hd⟩
  have A:=O2 k o ho
  have eL:∀t∈o.looksAt ops,sD.get t=(s k).get t:=fun t ht=>I.slot t k (by omega) fun j oj lW nR=>by
   by_cases lV:j=k
   ·subst lV;exact⟨fun x=>absurd x CF,fun x=>by omega⟩
   ·by_cases iU:(Dn listed j↔j<k)
    ·exact iU
    ·exact absurd ht (((CG j (Array.getElem?_eq_some_iff.1 lW).1 lV iU).2 oj lW).1 t nR)
  obtain⟨eg,jK,mQ⟩:=A.uK hD fun e sK hni=>j9.ON fun c hc=>(I.mem e.b c k (by omega) fun j hj hw=>by
   by_cases lV:j=k
   ·subst lV;exact⟨fun x=>absurd x CF,fun x=>by omega⟩
   ·by_cases iU:(Dn listed j↔j<k)
    ·exact iU
    ·obtain⟨⟨c1,c2,c3⟩,_⟩:=CG j hj lV iU
     rcases hw with ⟨x,hx,HU,CH,HV⟩|hw
     ·exact(c1 x hx e sK (.inl HU) CH (by
       rcases HV with q|q
       ·exact .inr (.inl q)
       ·rcases hc with r|r
        ·exact .inr (.inr r)
        ·exact .inl (by rw[q,r]))).elim
     ·exact(c3 e sK hw).elim).symm
  have A':=Loc.inside (Loc.fD fM ops o (s k)) _ _ _ _ _ _ jK
  rw[<-abr (s:=sD) eL]at jK
  obtain⟨L',hv⟩:=HO jK
  have fq:=C.put k o (by simpa using ho)
  have uT:∀b,n k<=b->b<n (k+1)->m b=none:=fun b nT ig=>by
   have q1:=gf 0 k (by omega) (by omega)
   have q2:=gf (k+1) ops.size (by omega) (by omega)
   rw[I.out b fun j hj hd hi=> ?_]
   ·exact hf b (by omega) (by omega)
   ·by_cases lV:j=k
    ·subst lV;exact CF hd
    ·rcases Ob j k with h'|h'
     ·have:=gf (j+1) k (by omega) (by omega);omega
     ·have:=gf (k+1) j (by omega) (by omega);omega
  refine OW (nt:=nt) bC cF fM ho (cH o (alS ho)) I.wr (Below.le I.below hb) (g.mono I.le) I.sr hv uT fun m' w' v' gG bX=> ?_
  have hsD:∃CI,kK nt sD o.dst (v k)=some CI∧∀t,CI.get t=if o.dst=some t then(s (k+1)).get t else sD.get t:=by
   unfold kK at fq⊢
   cases nR:o.dst with
   |none=>exact⟨sD,rfl,fun t=>by simp⟩
   |some d=>
    rw[nR]at fq
    simp only at fq⊢
    split at fq
    ·rename_i hc
     rw[if_pos hc]
     simp only[cb,decide_eq_true_eq]at hc
     have hq:=xK fq
     rw[<-hq]
     refine⟨_,rfl,fun t=> ?_⟩
     rw[S.p5 _ _ _ _ hc.2,S.p5 _ _ _ _ hc.2]
     by_cases e:t=d
     ·subst e;simp
     ·rw[if_neg e,if_neg e]
      simp[Ne.symm e]
    ·cases fq
  obtain⟨CI,abE,abF⟩:=hsD
  refine ih (listed.setIfInBounds k true) m' CI eg _ w' ?_ ⟨by simp[I.sz], ?_, ?_, ?_,I.le.trans gG.le, ?_,gG.wr,I.below.trans gG.below,OV (I.sr.mono gG.le) bX abE⟩
  ·have hc:=List.countP_set (p:=fun b=> !b) (l:=listed.toList) (i:=k) (a:=true) (by simpa using bf)
   have e1:listed.toList[k]=false:=by simpa using HR
   rw[Array.toList_setIfInBounds,hc,bM,e1]
   simp
  ·intro j oj hd lW e sK bO
   rw[qX bf]at hd⊢
   rcases hd with rfl|hd
   ·rw[ho]at lW;cases lW
    exact .inr (O3 e sK bO)
   ·exact .inr (I.closed j oj hd lW e sK bO)
  ·intro b c i hi iU
   by_cases hw:Wr n L k b c
   ·have hki:k<i:=(iU k CE hw).1 ((qX bf).2 (.inl rfl))
    have h2:dN (h i) (h (k+1)) b c:=abA b c (k+1) i (by omega) hi fun p HW HX CJ=>by
     have HY:Dn listed p:=by
      rcases (qX bf).1 ((iU p (by omega) CJ).2 HX)with q|q
      ·omega
      ·exact q
     obtain⟨⟨c1,c2,c3⟩,_⟩:=CG p (by omega) (by omega) (by intro q;have:=q.1 HY;omega)
     rcases CJ with ⟨x,hx,HU,CH,HV⟩|CJ
     ·rcases hw with ⟨y,hy,HZ,uU,O4⟩|hw
      ·exact c1 x hx y hy (.inl HU) (by rw[CH,uU]) (by
        rcases HV with q|q
        ·exact .inr (.inl q)
        ·rcases O4 with r|r
         ·exact .inr (.inr r)
         ·exact .inl (by rw[q,r]))
      ·exact c2 x hx (by rw[CH];exact hw)
     ·rcases hw with ⟨y,hy,HZ,uU,O4⟩|hw
      ·exact c3 y hy (by rw[uU];exact CJ)
      ·have:=gf (k+1) p (by omega) (by omega);omega
    exact(mQ b c hw).trans h2.symm
   ·refine(A'.frame b c (fun x=>hw (.inl x)) (fun x=>hw (.inr x))).trans (I.mem b c i hi fun j hj sM=> ?_)
    have lV:j≠k:=fun e=>hw (e▸sM)
    rw[<-iU j hj sM,qX bf]
    exact⟨.inr,fun q=>q.resolve_left lV⟩
  ·intro t i hi iU
   rw[abF t]
   by_cases hd:o.dst=some t
   ·rw[if_pos hd]
    have hki:k<i:=(iU k o ho hd).1 ((qX bf).2 (.inl rfl))
    refine(abB t (k+1) i (by omega) hi fun p op HW HX O5 O6=> ?_).symm
    have HY:Dn listed p:=by
     rcases (qX bf).1 ((iU p op O5 O6).2 HX)with q|q
     ·omega
     ·exact q
    obtain⟨_,c⟩:=CG p (by omega) (by omega) (by intro q;have:=q.1 HY;omega)
    exact(c op O5).2 t O6 hd
   ·rw[if_neg hd]
    refine I.slot t i hi fun j oj lW nR=> ?_
    have lV:j≠k:=fun e=>hd (by subst e;rw[ho]at lW;cases lW;exact nR)
    rw[<-iU j oj lW nR,qX bf]
    exact⟨.inr,fun q=>q.resolve_left lV⟩
  ·intro b uV
   rw[gG.out b (uV k CE ((qX bf).2 (.inl rfl)))]
   exact I.out b fun j hj hd=>uV j hj ((qX bf).2 (.inr hd))
end
theorem O7{p:Nat->Prop}(h:∃n,p n):∃n,p n∧∀k,p k->n<=k:=by
 obtain⟨n,hn⟩:=h
 induction n using N9 with
 |_ n ih=>
  by_cases hx:∃k,k<n∧p k
  ·obtain⟨k,hk,hp⟩:=hx
   exact ih k hk hp
  ·exact⟨n,hn,fun k hk=>by
    rcases Ob k n with h|h
    ·exact absurd ⟨k,h,hk⟩ hx
    ·exact h⟩
noncomputable def least (p:Nat->Prop):Nat:=open Classical in if h:∃n,p n then anI (O7 h)else 0
theorem O8{p:Nat->Prop}(h:∃n,p n):p (least p)∧∀k,p k->least p<=k:=by
 unfold least
 rw[dif_pos h]
 exact anJ (O7 h)
def cv:Ex->Exit
 | .normal=> .normal
 | .ret=> .ret
 | .exit id=> .exit id
section
variable {P:Program} {base:Nat} {rec:FuncId->Array Value->M Value} {nt:Nat}
theorem abG (bC:uQ P base) (cF:xY P base rec) (fM:∀f a,Loc (rec f a)) (mR:P.follows .mixedOrders=true) {id:Nat} {ops:Array Oper} {draw:Bool} (cH:∀o∈ops,xS P o=true)
 {Q:Exit->Act->World->Prop} {m:Mp} {s s1:S} {a:Act} {w:World} {h h1:H} {n n1:Nat} {L:List En} (x:WR P m base h w.heap) (hb:base<=w.heap.size) (g:Gl P m) (hs:SR m nt s a)
 (hr:pV P rec nt ops draw s h n=some ⟨s1,h1,n1,L⟩) (hf:ic m n n1) (hQ:∀m' a' w',cK P m base n n1 w h1 m' w'->SR m' nt s1 a'->Q .normal a' w'):(Code.region id ops draw).wp P Q a w:=by
 unfold pV at hr
 obtain⟨y,h2,n2,L1,L2,e1,e2,_⟩:=bind_some hr
 obtain⟨sf,uW,nf,vf,Lf,C,a1,a2,a3,a4,a5,a6,a7,a8⟩:=abt _ _ _ _ _ _ _ _ e1
 have hlen:ops.toList.length=ops.size:=by simp
 rw[hlen]at a4 a5 a6 a7 a8
 have uS:∀i,i<ops.size->nf i<=nf (i+1):=fun i hi=>
  (Loc.inside (Loc.fD fM ops ops[i] (sf i)) _ _ _ _ _ _ (C.step i ops[i] (by simp[hi]))).le
 split at e2
 ·rename_i jm
  obtain⟨rfl,rfl,rfl⟩:=bD e2
  subst a1 a2 a3 a5 a6
  rw[<-a4]at hQ
  cases draw with
  |false=>
   apply wp_region
   rw[List.range_eq_range']
   exact abu bC cF fM cH C hf uS hb g (fun _ _=>True) hQ ops.size 0 (by omega) m a w (cK.refl x) hs
  |true=>
   simp only[Bool.not_true,Bool.false_or,cb]at jm
   obtain⟨H2,abH⟩:=jm
   apply wp_region_any mR
   have O9:=abw ops ops.toList [] (fun i o ho=>by simpa using ho) (fun k hk=>by simp at hk)
   refine abz bC cF fM cH C (fun k o ho e he bO=> ?_) O9.1 (by simpa using O9.2) (fun j k lV hk=> ?_) hf uS (w0:={w with drawn:=w.drawn+1}) hb g (fun m' a' w' hp dK=>hQ m' a' w' ⟨hp.le,hp.out,hp.wr,(alT (r7 base w)).trans hp.below⟩ dK) ops.size _ m (sf 0) (uW 0) a _ ?_ ?_
   ·unfold sC at H2
    rw[List.all_eq_true]at H2
    have:=H2 (o,k) (by
     rw[List.mem_iff_getElem?]
     exact⟨k,by simp[List.getElem?_zipIdx,ho]⟩)
    simp only[cb]at this
    have h2:=this.1
    rw[uB]at h2
    have h3:=h2 e he
    simpa[bO]using h3
   ·have hj:j<ops.size:=by omega
    have:=abx _ abH j k (j,⟨nf j,nf (j+1),Lf j⟩) (k,⟨nf k,nf (k+1),Lf k⟩) lV (by rw[HQ,a8 j hj];simp) (by rw[HQ,a8 k hk];simp)
    exact this
   ·simp[List.countP_replicate]
   ·have kg:∀j,¬Dn (zJ ops.size false) j:=by
     intro j hj
     unfold Dn at hj
     rw[pN,alU]at hj
     split at hj<;>simp at hj
    refine⟨by simp,fun k o hd=>absurd hd (kg k),fun b c i hi iU=> ?_,fun t i hi iU=> ?_,Le.refl _,fun _ _=>rfl,x,r7 _ _,hs⟩
    ·
     have key:∀i,i<=ops.size->(∀j,j<ops.size->Wr nf Lf j b c->¬j<i)->dN (uW 0) (uW i) b c:=by
      intro i
      induction i with
      |zero=>intro _ _;exact dN.refl _ _ _
      |succ i ih=>
       intro hi qY
       have A:=Loc.inside (Loc.fD fM ops ops[i] (sf i)) _ _ _ _ _ _ (C.step i ops[i] (by simp[show i<ops.size by omega]))
       have hw:¬Wr nf Lf i b c:=fun hw=>qY i (by omega) hw (by omega)
       exact(ih (by omega) fun j hj sM bf=>qY j hj sM (by omega)).trans (A.frame b c (fun q=>hw (.inl q)) (fun q=>hw (.inr q))).symm
     exact key i hi fun j hj hw bf=>kg j ((iU j hj hw).2 bf)
    ·have key:∀i,i<=ops.size->(∀j o,ops[j]? =some o->o.dst=some t->¬j<i)->(sf 0).get t=(sf i).get t:=by
      intro i
      induction i with
      |zero=>intro _ _;rfl
      |succ i ih=>
       intro hi qY
       have ke:i<ops.size:=by omega
       rw[ih (by omega) fun j o ho hd bf=>qY j o ho hd (by omega)]
       have fq:=C.put i ops[i] (by simp[ke])
       have hd:(ops[i]).dst≠some t:=fun hd=>qY i ops[i] (by simp[ke]) hd (by omega)
       unfold kK at fq
       cases nR:(ops[i]).dst with
       |none=>rw[nR]at fq;have hq:sf i=sf (i+1):=xK fq;rw[hq]
       |some d=>
        rw[nR]at fq hd
        simp only at fq
        split at fq
        ·rename_i hc
         simp only[cb,decide_eq_true_eq]at hc
         have hq:=xK fq
         rw[<-hq,S.p5 _ _ _ _ hc.2,if_neg (fun e=>hd (by rw[e]))]
        ·cases fq
     exact key i hi fun j o ho hd bf=>kg j ((iU j o ho hd).2 bf)
 ·cases e2
theorem abI(bC:uQ P base)(cF:xY P base rec)(fM:∀f a,Loc (rec f a))(mR:P.follows .mixedOrders=true):
 ∀(fuel:Nat) (c:Code) (_:lr P c=true) (Q:Exit->Act->World->Prop) (m:Mp) (s s1:S) (a:Act) (w:World) (h h1:H) (n n1:Nat) (L:List En) (e:Ex),WR P m base h w.heap->base<=w.heap.size->Gl P m->SR m nt s a->
  dP P rec nt fuel c s h n=some ⟨(e,s1),h1,n1,L⟩->ic m n n1->(∀m' a' w',cK P m base n n1 w h1 m' w'->SR m' nt s1 a'->Q (cv e) a' w')->c.wp P Q a w:=by
 intro fuel
 induction fuel using N9 with
 |_ fuel ih=>
  intro c cH Q m s s1 a w h h1 n n1 L e x hb g hs hr hf hQ
  cases fuel with
  |zero=>cases hr
  |succ f=>
   cases c with
   |skip=>
    obtain⟨q,rfl,rfl⟩:=bD hr
    cases q
    exact wp_skip (hQ m a w (cK.refl x) hs)
   |label l=>
    obtain⟨q,rfl,rfl⟩:=bD hr
    cases q
    exact wp_label (hQ m a w (cK.refl x) hs)
   |region id ops draw=>
    unfold dP at hr
    obtain⟨s2,h2,n2,L1,L2,e1,e2,_⟩:=bind_some hr
    obtain⟨q,rfl,rfl⟩:=bD e2
    cases q
    refine abG bC cF fM mR (fun o ho=> ?_) x hb g hs e1 hf hQ
    unfold lr at cH
    rw[uB]at cH
    exact cH o ho
   |seq c1 c2=>
    unfold lr at cH
    simp only[cb]at cH
    unfold dP at hr
    obtain⟨y,h2,n2,L1,L2,e1,e2,_⟩:=bind_some hr
    obtain⟨e0,s2⟩:=y
    have A:=Loc.dP fM f c1 s h n _ h2 n2 L1 e1
    apply wp_seq
    cases e0 with
    |normal=>
     have B:=Loc.dP fM f c2 s2 h2 n2 _ h1 n1 L2 e2
     refine ih f (by omega) c1 cH.1 _ m s s2 a w h h2 n n2 L1 .normal x hb g hs e1 (hf.first B.le) fun m' a' w' hp dK=> ?_
     exact ih f (by omega) c2 cH.2 Q m' s2 s1 a' w' h2 h1 n2 n1 L2 e hp.wr (Below.le hp.below hb) (g.mono hp.le) dK e2 (hf.after A.le hp) fun nM p7 nN gG eU=>hQ nM p7 nN (hp.trans A.le B.le gG) eU
    |ret=>
     obtain⟨q,rfl,rfl⟩:=bD e2
     cases q
     exact ih f (by omega) c1 cH.1 _ m s _ a w h _ n _ L1 .ret x hb g hs e1 hf fun m' a' w' hp dK=>hQ m' a' w' hp dK
    |exit id=>
     obtain⟨q,rfl,rfl⟩:=bD e2
     cases q
     exact ih f (by omega) c1 cH.1 _ m s _ a w h _ n _ L1 (.exit id) x hb g hs e1 hf fun m' a' w' hp dK=>hQ m' a' w' hp dK
   |cond c0 c1 c2=>
    unfold lr at cH
    simp only[cb]at cH
    unfold dP at hr
    simp only at hr
    generalize ht:ev s c0=v0 at hr
    cases v0 with
    |bool t=>
     have hv:=OU g hs cH.1.1
     rw[ht]at hv
     have hc:a.eval c0= .bool t:=by
      generalize a.eval c0=u at hv
      cases hv;rfl
     refine wp_cond hc ?_
     refine ih f (by omega) _ ?_ Q m s s1 a w h h1 n n1 L e x hb g hs hr hf hQ
     cases t
     ·exact cH.2
     ·exact cH.1.2
    |_=>cases hr
   |block id c1=>
    unfold lr at cH
    unfold dP at hr
    obtain⟨y,h2,n2,L1,L2,e1,e2,_⟩:=bind_some hr
    obtain⟨e0,s2⟩:=y
    apply wp_block
    cases e0 with
    |normal=>
     obtain⟨q,rfl,rfl⟩:=bD e2
     cases q
     exact ih f (by omega) c1 cH _ m s _ a w h _ n _ L1 .normal x hb g hs e1 hf fun m' a' w' hp dK=>hQ m' a' w' hp dK
    |ret=>
     obtain⟨q,rfl,rfl⟩:=bD e2
     cases q
     exact ih f (by omega) c1 cH _ m s _ a w h _ n _ L1 .ret x hb g hs e1 hf fun m' a' w' hp dK=>hQ m' a' w' hp dK
    |exit z8=>
     simp only at e2
     by_cases hid:z8=id
     ·rw[if_pos hid]at e2
      obtain⟨q,rfl,rfl⟩:=bD e2
      cases q
      refine ih f (by omega) c1 cH _ m s _ a w h _ n _ L1 (.exit z8) x hb g hs e1 hf fun m' a' w' hp dK=> ?_
      show(if z8=id then _ else _)
      rw[if_pos hid]
      exact hQ m' a' w' hp dK
     ·rw[if_neg hid]at e2
      obtain⟨q,rfl,rfl⟩:=bD e2
      cases q
      refine ih f (by omega) c1 cH _ m s _ a w h _ n _ L1 (.exit z8) x hb g hs e1 hf fun m' a' w' hp dK=> ?_
      show(if z8=id then _ else _)
      rw[if_neg hid]
      exact hQ m' a' w' hp dK
   |loop c1=>
    have z9:lr P c1=true:=by unfold lr at cH;exact cH
    let J:Act->World->Nat->Prop:=fun a' w' k=>k<=f+1∧∃m' s' h' n' L',n<=n'∧n'<=n1∧cK P m base n n' w h' m' w'∧SR m' nt s' a'∧dP P rec nt k (.loop c1) s' h' n'=some ⟨(e,s1),h1,n1,L'⟩
    have hle:=(Loc.dP fM (f+1) (.loop c1) s h n _ h1 n1 L hr).le
    refine wp_loop (fun a' w'=>∃k,J a' w' k) (fun a' w'=>least (J a' w')) ⟨f+1,av _,m,s,h,n,L,av _,hle,cK.refl x,hs,hr⟩ ?_
    intro a' w' hI
    obtain⟨hJ,qZ⟩:=O8 hI
    generalize hk:least (J a' w')=k at hJ
    obtain⟨HR,m',s',h',n',L',bQ,ey,hp,dK,oR⟩:=hJ
    cases k with
    |zero=>cases oR
    |succ k=>
     unfold dP at oR
     obtain⟨y,h2,n2,L1,L2,e1,e2,_⟩:=bind_some oR
     obtain⟨e0,s2⟩:=y
     have A:=Loc.dP fM k c1 s' h' n' _ h2 n2 L1 e1
     cases e0 with
     |normal=>
      have B:=Loc.dP fM k (.loop c1) s2 h2 n2 _ h1 n1 L2 e2
      refine ih k (by omega) c1 z9 _ m' s' s2 a' w' h' h2 n' n2 L1 .normal hp.wr (Below.le hp.below hb) (g.mono hp.le) dK e1 (fun b q1 q2=> ?_) fun nM p7 nN gG eU=> ?_
      ·have:=B.le
       rw[hp.out b (by omega)]
       exact hf b (by omega) (by omega)
      ·have H3:J p7 nN k:=⟨by omega,nM,s2,h2,n2,L2,by have:=A.le;omega,B.le,hp.trans bQ A.le gG,eU,e2⟩
       exact⟨⟨k,H3⟩,Nat.lt_succ_of_le ((O8 ⟨k,H3⟩).2 k H3)⟩
     |ret=>
      obtain⟨q,rfl,rfl⟩:=bD e2
      cases q
      refine ih k (by omega) c1 z9 _ m' s' _ a' w' h' _ n' _ L1 .ret hp.wr (Below.le hp.below hb) (g.mono hp.le) dK e1 (fun b q1 q2=> ?_) fun nM p7 nN gG eU=>hQ nM p7 nN (hp.trans bQ A.le gG) eU
      rw[hp.out b (by omega)]
      exact hf b (by omega) q2
     |exit id=>
      obtain⟨q,rfl,rfl⟩:=bD e2
      cases q
      refine ih k (by omega) c1 z9 _ m' s' _ a' w' h' _ n' _ L1 (.exit id) hp.wr (Below.le hp.below hb) (g.mono hp.le) dK e1 (fun b q1 q2=> ?_) fun nM p7 nN gG eU=>hQ nM p7 nN (hp.trans bQ A.le gG) eU
      rw[hp.out b (by omega)]
      exact hf b (by omega) q2
   |exit id=>
    obtain⟨q,rfl,rfl⟩:=bD hr
    cases q
    exact wp_exit (hQ m a w (cK.refl x) hs)
   |ret=>
    obtain⟨q,rfl,rfl⟩:=bD hr
    cases q
    exact wp_ret (hQ m a w (cK.refl x) hs)
   |rangeFunc _ _ _ _=>cases hr
   |scope _=>cases hr
   |goto _=>cases hr
   |refuse _=>cases hr
end
theorem O':∀(l:List Value) (i:Nat) (s:S) (t:Nat),i+l.length<1023->(sF i l s).get t=if i<=t∧t<i+l.length then l.getD (t-i) undef else s.get t:=by
 intro l
 induction l with
 |nil=>intro i s t _;rw[if_neg (by simp)];rfl
 |cons v r ih=>
  intro i s t hl
  simp only[List.length_cons]at hl
  unfold sF
  rw[ih (i+1) _ t (by omega)]
  by_cases h1:i+1<=t∧t<i+1+r.length
  ·rw[if_pos h1,if_pos (by simp;omega)]
   rw[show t-i=(t-(i+1))+1 by omega]
   simp
  ·rw[if_neg h1,S.p5 _ _ _ _ (by omega)]
   by_cases e:t=i
   ·subst e;simp
   ·rw[if_neg e,if_neg (by simp;omega)]
theorem S.get_nil(t:Nat):S.get (.nil:S) t=undef:=by unfold S.get;rw[Tr.get_nil];rfl
theorem abJ{m:Mp}{args ej:Array Value}{nt:Nat}(h:ba m args.toList ej.toList)(h1:args.size<=nt)(h2:nt<1000):SR m nt (sF 0 args.toList .nil) {tmps:=ej++zJ (nt-ej.size) undef,defers:=[]}:=by
 have hl:args.size=ej.size:=by simpa using h.length
 refine⟨rfl,by simp;omega,fun t=> ?_⟩
 rw[O' _ _ _ _ (by simp;omega)]
 by_cases ht:t<args.size
 ·rw[if_pos (by simp;exact ht)]
  obtain⟨v',bX,hr⟩:=h.get t (args.toList.getD (t-0) undef) (by simp[aF,ht])
  have:(ej++zJ (nt-ej.size) undef).getD t undef=v':=by
   have mS:t<ej.size:=by omega
   rw[pN,alV mS]
   simp at bX
   simp[bX]
  show VR m _ ((ej++zJ (nt-ej.size) undef).getD t undef)
  rw[this]
  exact hr
 ·rw[if_neg (by simp;omega),S.get_nil]
  have:(ej++zJ (nt-ej.size) undef).getD t undef=undef:=by
   rw[pN,Array.getElem?_append_right (by omega),alU]
   split<;>rfl
  show VR m _ ((ej++zJ (nt-ej.size) undef).getD t undef)
  rw[this]
  exact VR.undef
theorem abK{P:Program}:∀(s:Sem Next) (v:Value),je P s=some v->∀w,s.run P w= .ok (.value v) w:=by
 intro s
 induction s with
 |pure a=>
  intro v h w
  cases a<;>simp[je]at h
  subst h;rfl
 |program k ih=>
  intro v h w
  exact ih P v (by simpa[je]using h) w
 |_=>intro v h;simp[je]at h
def Sound(P:Program)(base:Nat)(m:Mp)(w:World)(h:H)(n:Nat)(s:Sem Value)(r:Value)(h1:H)(n1:Nat):Prop:=
 ∃m' w' v',s.run P w= .ok v' w'∧cK P m base n n1 w h1 m' w'∧VR m' r v'
theorem abL{P:Program}{e:TypeId}{n:Nat}(h:size? P e=some n):∃i,P.info? e=some i∧i.size=n:=by
 unfold size? at h
 cases hi:P.info? e with
 |none=>rw[hi]at h;cases h
 |some i=>rw[hi]at h;exact⟨i,rfl,by simpa using h⟩
theorem Pa{P:Program}{e:TypeId}{z:Value}(h:fK P e=some z):(∃i,P.info? e=some i∧i.zero=some z)∧clean z=true:=by
 unfold fK at h
 cases hi:P.info? e with
 |none=>rw[hi]at h;cases h
 |some i=>
  rw[hi]at h
  simp only[N8]at h
  cases hz:i.zero with
  |none=>rw[hz]at h;cases h
  |some u=>
   rw[hz]at h
   simp only at h
   split at h
   ·rename_i hc
    cases h
    exact⟨⟨i,rfl,hz⟩,hc⟩
   ·cases h
theorem CK{P:Program}{e:TypeId}{z:Value}(h:fK P e=some z):∃i,P.info? e=some i∧i.zero=some z:=(Pa h).1
theorem H4{P:Program}{e:TypeId}{z:Value}(h:fK P e=some z):clean z=true:=(Pa h).2
theorem run_sizeOf{P:Program}{e:TypeId}{n:Nat}(h:size? P e=some n)(w:World):(sizeOf e).run P w= .ok n w:=by
 obtain⟨i,hi,rfl⟩:=abL h
 simp[sizeOf,typeInfo,program,hi,Ci,bind,zG]
 rfl
theorem H5{P:Program}{e:TypeId}{z:Value}(h:fK P e=some z)(w:World):(zeroValue e).run P w= .ok z w:=by
 obtain⟨i,hi,hz⟩:=CK h
 simp[zeroValue,typeInfo,program,hi,hz,Ci]
theorem xZ{P:Program}{t:TypeId}{b:Bool}(h:kI P t=some b)(w:World):(isAgg t).run P w= .ok b w:=by
 unfold kI at h
 cases hd:P.underlying t with
 |none=>rw[hd]at h;cases h
 |some d=>
  rw[hd]at h
  unfold isAgg
  rw[eI,run_underlying hd]
  cases d<;>simp at h<;>subst h<;>rfl
section
variable {P:Program} {base:Nat} {m:Mp} {w:World} {h h1:H} {n n1:Nat} {r:Value} {L:List En}
theorem abM{e:TypeId}(x:WR P m base h w.heap)(hb:base<=w.heap.size)(hf:ic m n n1)(hr:nH P e h n=some ⟨r,h1,n1,L⟩):Sound P base m w h n (alW e true (.tuple #[])) r h1 n1:=by
 unfold nH at hr
 cases hz:fK P e with
 |none=>rw[hz]at hr;cases hr
 |some z=>
  rw[hz]at hr
  obtain⟨id,h2,n2,L1,L2,e1,e2,_⟩:=bind_some hr
  obtain⟨rfl,rfl,rfl⟩:=bD e2
  obtain⟨i,hi,_⟩:=CK hz
  have hc:=(VR.clean (m:=m) (H4 hz)).cells
  obtain⟨rfl,rfl,m',dz,hp⟩:=uO x e1 hf hb (cs':=z.cells) (by simp) (fun k v hk=>by simpa using hc.get k v hk) (esz:=i.size) (by simp[size?,hi])
  refine⟨m',_,.pointer (some ⟨w.heap.size,0,none⟩), ?_,hp, ?_⟩
  ·simp only[alW,eI,H5 hz,fi,newVar,newRow,newObj]
   rfl
  ·exact VR.ptr dz
theorem abN{e:TypeId}{v v':Value}(hv:VR m v v')(x:WR P m base h w.heap)(hb:base<=w.heap.size)(hf:ic m n n1)(hr:nI P e v h n=some ⟨r,h1,n1,L⟩):Sound P base m w h n (Instr.box e v') r h1 n1:=by
 unfold nI at hr
 cases hz:size? P e with
 |none=>rw[hz]at hr;cases hr
 |some z=>
  rw[hz]at hr
  obtain⟨id,h2,n2,L1,L2,e1,e2,_⟩:=bind_some hr
  obtain⟨rfl,rfl,rfl⟩:=bD e2
  obtain⟨rfl,rfl,m',dz,hp⟩:=uO x e1 hf hb (cs':=v'.cells) (by simp[hv.HJ]) (fun k u hk=>by simpa using hv.cells.get k u hk) hz
  exact⟨m',_,.pointer (some ⟨w.heap.size,0,none⟩),rfl,hp,VR.ptr dz⟩
theorem abO{cs cs':Array Value}{off:Nat}:∀{us H6:List Value} (_:ba m us H6) (i:Nat) {cs cs':Array Value},ba m cs.toList cs'.toList->
 ba m ((us.zipIdx i).foldl (fun(a:Array Value) (x:Value×Nat)=>a.setIfInBounds (off+x.2) x.1) cs).toList ((H6.zipIdx i).foldl (fun(a:Array Value) (x:Value×Nat)=>a.setIfInBounds (off+x.2) x.1) cs').toList:=by
 intro us H6 hu
 induction hu using ba.rec (motive_1:=fun _ _ _=>True)with
 |nil=>intro i cs cs' hc;exact hc
 |cons hv _ _ ih=>
  intro i cs cs' hc
  simp only[List.zipIdx_cons,aaK]
  exact ih (i+1) (by simpa using ba.set (off+i) hc hv)
 |_=>trivial
theorem Pb{place:Nat->Option (Nat×Nat)}:∀(parts ik:List (Nat×Value)) (cs cs' out:Array Value),parts.map (·.1)=ik.map (·.1)->ba m (parts.map (·.2)) (ik.map (·.2))->ba m cs.toList cs'.toList->lQ place cs parts=some out->
 ∃CL,lQ place cs' ik=some CL∧ba m out.toList CL.toList∧out.size=cs.size:=by
 intro parts
 induction parts with
 |nil=>
  intro ik cs cs' out h1 h2 h3 h4
  cases ik with
  |nil=>simp[lQ]at h4;subst h4;exact⟨cs',rfl,h3,rfl⟩
  |cons _ _=>simp at h1
 |cons p parts ih=>
  intro ik cs cs' out h1 h2 h3 h4
  cases ik with
  |nil=>simp at h1
  |cons p' ik=>
   obtain⟨i,v⟩:=p
   obtain⟨i',v'⟩:=p'
   simp at h1
   obtain⟨rfl,h1⟩:=h1
   simp only[List.map_cons]at h2
   cases h2 with
   |cons hv ht=>
    unfold lQ at h4⊢
    cases hp:place i with
    |none=>rw[hp]at h4;cases h4
    |some os=>
     obtain⟨off,sz⟩:=os
     rw[hp]at h4
     simp only at h4⊢
     have e1:v'.cells.size=v.cells.size:=hv.HJ.symm
     have e2:cs'.size=cs.size:=by have:=h3.length;simpa using this.symm
     rw[e1,e2]
     split at h4
     ·cases h4
     ·rename_i hc
      rw[if_neg hc]
      have hs:=abO (m:=m) (cs:=cs) (cs':=cs') (off:=off) hv.cells 0 h3
      have e3:∀(vs:Array Value) (a:Array Value),vs.zipIdx.foldl (fun cs (c,j)=>cs.setIfInBounds (off+j) c) a=(vs.toList.zipIdx 0).foldl (fun(a:Array Value) (x:Value×Nat)=>a.setIfInBounds (off+x.2) x.1) a:=by
       intro vs a
       rw[<-Array.foldl_toList,Array.toList_zipIdx]
      have e4:∀(vs:List (Value×Nat)) (a:Array Value),(vs.foldl (fun(a:Array Value) (x:Value×Nat)=>a.setIfInBounds (off+x.2) x.1) a).size=a.size:=by
       intro vs
       induction vs with
       |nil=>intro a;rfl
       |cons y ys ihy=>intro a;rw[aaK,ihy];simp
      rw[e3]at h4⊢
      obtain⟨CL,a1,a2,a3⟩:=ih ik _ _ out h1 ht hs h4
      exact⟨CL,a1,a2,by rw[a3,e4]⟩
theorem abP {t:TypeId} {parts ik:List (Nat×Value)} (sN:parts.map (·.1)=ik.map (·.1)) (uX:ba m (parts.map (·.2)) (ik.map (·.2))) (x:WR P m base h w.heap)
 (hr:mJ P t parts h n=some ⟨r,h1,n1,L⟩):Sound P base m w h n (alX t ik.toArray) r h1 n1:=by
 unfold mJ at hr
 cases hz:fK P t with
 |none=>rw[hz]at hr;cases hr
 |some z=>
  rw[hz]at hr
  cases hu:P.underlying t with
  |none=>rw[hu]at hr;cases hr
  |some d=>
   rw[hu]at hr
   cases d<;>try(cases hr;done)
   rename_i fs
   simp only at hr
   split at hr
   ·rename_i gR
    cases uY:lQ (placeOf P fs) z.cells parts with
    |none=>rw[uY]at hr;cases hr
    |some cs=>
     rw[uY]at hr
     obtain⟨rfl,rfl,rfl⟩:=bD hr
     obtain⟨cs',a1,a2,_⟩:=Pb parts ik _ _ cs sN uX (VR.clean (m:=m) (H4 hz)).cells uY
     refine⟨m,w,.agg cs', ?_,cK.refl x,.agg a2⟩
     have abQ:(fs.mapM fun f=>do pure (f.offset,<-sizeOf f.type):Sem (Array (Nat×Nat))).run P w= .ok (fs.map fun f=>(f.offset,(size? P f.type).getD 0)) w:=by
      rw[Array.mapM_eq_mapM_toList]
      have:∀l:List Field,(∀f∈l,(size? P f.type).isSome=true)->(l.mapM (fun f=>do pure (f.offset,<-sizeOf f.type)):Sem (List (Nat×Nat))).run P w= .ok (l.map fun f=>(f.offset,(size? P f.type).getD 0)) w:=by
       intro l
       induction l with
       |nil=>intro _;rfl
       |cons f l ih=>
        intro hl
        obtain⟨k,hk⟩:=Option.isSome_iff_exists.1 (hl f (by simp))
        rw[List.mapM_cons]
        simp only[bind_assoc,pure_bind,eI,run_sizeOf hk,fi,ih fun f' uW=>hl f' (by simp[uW])]
        simp[hk]
      have h3:=this fs.toList fun f uW=>(uB.1 gR) f (Array.mem_toList_iff.1 uW)
      simp only[map_eq_pure_bind,eI,h3,fi,oI]
      congr 1
      apply Array.ext'
      simp
     have iT:∀i,(fs.map fun f=>(f.offset,(size? P f.type).getD 0))[i]? =placeOf P fs i:=by
      intro i
      unfold placeOf
      cases H7:fs[i]? with
      |none=>simp[H7]
      |some f=>
       obtain⟨k,hk⟩:=Option.isSome_iff_exists.1 ((uB.1 gR) f (alS H7))
       simp[H7,hk]
     have abR:(fun i=>(fs.map fun f=>(f.offset,(size? P f.type).getD 0))[i]?)=placeOf P fs:=funext iT
     unfold alX
     simp only[eI,H5 hz,run_underlying hu,fi,abQ,abR,a1]
     rfl
   ·cases hr
theorem Pc{e:TypeId}{z:Value}(hz:fK P e=some z)(k:Nat):ba m (gP z k).toList (gP z k).toList:=by
 unfold gP
 rw[Array.toList_map]
 refine ba.map _ fun i=> ?_
 have hc:=(VR.clean (m:=m) (H4 hz)).cells
 by_cases hi:i %z.cells.size<z.cells.size
 ·obtain⟨v',bX,hr⟩:=hc.get (i %z.cells.size) z.cells[i %z.cells.size] (by simp[hi])
  have:v'=z.cells[i %z.cells.size]:=by simpa[hi]using bX.symm
  rw[this]at hr
  simpa[hi]using hr
 ·rw[getElem!_neg z.cells _ hi]
  exact .bool _
theorem abS {t:TypeId} {len:Nat} {parts ik:List (Nat×Value)} (sN:parts.map (·.1)=ik.map (·.1)) (uX:ba m (parts.map (·.2)) (ik.map (·.2))) (x:WR P m base h w.heap) (hb:base<=w.heap.size) (hf:ic m n n1)
 (hr:mK P t len parts h n=some ⟨r,h1,n1,L⟩):Sound P base m w h n (aaM t len ik.toArray) r h1 n1:=by
 unfold mK at hr
 cases hu:P.underlying t with
 |none=>rw[hu]at hr;cases hr
 |some d=>
  rw[hu]at hr
  cases d<;>try(cases hr;done)
  rename_i e
  simp only at hr
  cases hs:size? P e with
  |none=>rw[hs]at hr;cases hr
  |some sz=>
   cases hz:fK P e with
   |none=>rw[hs,hz]at hr;cases hr
   |some z=>
    rw[hs,hz]at hr
    simp only at hr
    by_cases hzero:(len=0&&parts.isEmpty)=true
    ·rw[if_pos hzero]at hr
     simp only[cb,decide_eq_true_eq,List.isEmpty_iff]at hzero
     obtain⟨rfl,rfl⟩:=hzero
     obtain⟨id,h2,n2,L1,L2,e1,e2,_⟩:=bind_some hr
     obtain⟨rfl,rfl,rfl⟩:=bD e2
     have H8:ik=[]:=by
      cases ik with
      |nil=>rfl
      |cons p ps=>simp at sN
     subst H8
     obtain⟨rfl,rfl,m',dz,hp⟩:=uO x e1 hf hb (cs':=#[]) (by simp) (fun k v hk=>by simp at hk) hs
     refine⟨m',_,.slice (some ⟨w.heap.size,0,none⟩) 0 0, ?_,hp,VR.fV dz (fun _=>rfl) (fun _=>rfl) (fun fW=>by simp[bc]at fW) (av _) (by simp)⟩
     unfold aaM
     simp only[eI,run_underlying hu,fi,run_sizeOf hs,Nat.zero_mul,if_true,oI,pure_bind]
     have n0:¬(0>2^24):=by omega
     simp only[if_neg n0,lQ,Array.range_zero',Array.map_empty]
     rfl
    rw[if_neg hzero]at hr
    split at hr
    ·rename_i hc
     simp only[cb,decide_eq_true_eq]at hc
     cases uY:lQ (fun i=>some (i*sz,sz)) (gP z (len*sz)) parts with
     |none=>rw[uY]at hr;cases hr
     |some cs=>
      rw[uY]at hr
      simp only at hr
      obtain⟨id,h2,n2,L1,L2,e1,e2,_⟩:=bind_some hr
      obtain⟨rfl,rfl,rfl⟩:=bD e2
      obtain⟨cs',a1,a2,a3⟩:=Pb parts ik _ _ cs sN uX (Pc (m:=m) hz (len*sz)) uY
      have hlen:cs.size=cs'.size:=by have:=a2.length;simpa using this
      obtain⟨rfl,rfl,m',dz,hp⟩:=uO x e1 hf hb (cs':=cs') (by simp[hlen]) (fun k v hk=>by simpa using a2.get k v hk) hs
      have eh:cs'.size=len*sz:=by rw[<-hlen,a3];simp[gP]
      have Pd:1<=sz:=by
       rcases Nat.eq_zero_or_pos sz with h0|h0
       ·subst h0;simp at hc
       ·exact h0
      have hl:len<=len*sz:=Nat.le_mul_of_pos_right _ Pd
      refine⟨m',_,.slice (some ⟨w.heap.size,0,none⟩) len len, ?_,hp,VR.fV dz (fun _=>rfl) (fun _=>rfl) (fun fW=>by simp[bc]at fW;omega) (av _) (by simp[eh])⟩
      unfold aaM
      have n0:¬(len*sz>2^24):=by omega
      have n1:¬(len*sz=0):=by omega
      simp only[eI,run_underlying hu,fi,run_sizeOf hs,if_neg n0,if_neg n1,H5 hz,oI,pure_bind]
      unfold gP at a1
      rw[a1]
      rfl
    ·cases hr
theorem H9{b off:Nat}{v':Value}(hv:VR m (.pointer (some ⟨b,off,none⟩)) v'):∃d,m b=some d∧v'= .pointer (some ⟨d.dJ,d.sh+off,none⟩):=by
 cases hv with
 |ptr h=>exact⟨_,h,rfl⟩
theorem abT{t:TypeId}{a a':Value}(ha:VR m a a')(x:WR P m base h w.heap)(hr:jf P t a h n=some ⟨r,h1,n1,L⟩):Sound P base m w h n (aaN t a') r h1 n1:=by
 unfold jf at hr
 split at hr
 ·rename_i b off
  obtain⟨d,hd,rfl⟩:=H9 ha
  cases hg:kI P t with
  |none=>rw[hg]at hr;cases hr
  |some g=>
   rw[hg]at hr
   cases g with
   |false=>
    simp only at hr
    obtain⟨rfl,rfl,d',v',lx,hc,hv⟩:=CD x hr
    rw[hd]at lx;cases lx
    refine⟨m,w,v', ?_,cK.refl x,hv⟩
    simp only[aaN,Hi,pure_bind,loadVar,eI,xZ hg w,fi,sd,if_false]
    show(Sem.load _ _ _).run P w=_
    simp[Ci,hc]
   |true=>
    cases hs:size? P t with
    |none=>rw[hs]at hr;cases hr
    |some k=>
     rw[hs]at hr
     simp only at hr
     obtain⟨vs,h2,n2,L1,L2,e1,e2,_⟩:=bind_some hr
     obtain⟨rfl,rfl,rfl⟩:=bD e2
     obtain⟨rfl,rfl,hl,dh,fE,eh⟩:=uN x hd e1
     refine⟨m,w,.agg dh.toArray, ?_,cK.refl x,.agg (by simpa using fE)⟩
     have hlen:dh.length=k:=by rw[<-fE.length,hl]
     have:=xX (P:=P) eh
     rw[hlen]at this
     simp only[aaN,Hi,pure_bind,loadVar,eI,xZ hg w,fi,if_true,run_sizeOf hs,this]
     rfl
 ·cases hr
theorem abU{t:TypeId}{a a' v v':Value}(ha:VR m a a')(hv:VR m v v')(x:WR P m base h w.heap)(hr:oO P t a v h n=some ⟨r,h1,n1,L⟩):r=undef∧∃w',(al0 t a' v').run P w= .ok () w'∧cK P m base n n1 w h1 m w':=by
 unfold oO at hr
 split at hr
 ·rename_i b off
  obtain⟨d,hd,rfl⟩:=H9 ha
  cases hs:size? P t with
  |none=>rw[hs]at hr;cases hr
  |some k=>
   rw[hs]at hr
   simp only at hr
   split at hr
   ·rename_i hk
    obtain⟨u,h2,n2,L1,L2,e1,e2,_⟩:=bind_some hr
    obtain⟨rfl,rfl,rfl⟩:=bD e2
    cases u
    obtain⟨rfl,w',zZ,x2,ew⟩:=HL hd hv.cells (i:=0) (d.sh+off) (by omega) x e1
    refine⟨rfl,w', ?_,⟨Le.refl _,fun _ _=>rfl,x2,ew⟩⟩
    have bq:v'.cells.size=k:=by rw[<-hv.HJ];exact hk
    simp only[al0,Hi,pure_bind,storeVar,eI,run_sizeOf hs,fi,bq,ne_eq,not_true,if_false]
    exact zZ
   ·cases hr
 ·cases hr
theorem abV{v v':Value}(hv:VR m v v')(x:WR P m base h w.heap)(hr:qN v h n=some ⟨r,h1,n1,L⟩):
 h1=h∧n1=n∧VR m r v'∧((∃a,v'= .pointer (some a))∨∃f a b,v'= .func (.func f) a b):=by
 unfold qN at hr
 split at hr
 ·obtain⟨rfl,rfl,rfl⟩:=bD hr
  refine⟨rfl,rfl,hv,.inl ?_⟩
  cases hv with|ptr h=>exact⟨_,rfl⟩
 ·obtain⟨rfl,rfl,rfl⟩:=bD hr
  refine⟨rfl,rfl,hv,.inr ?_⟩
  cases hv with|func fn h1 h2=>exact⟨_,_,_,rfl⟩
 ·cases hr
theorem abW:∀(vs:List Value) (acc s:ByteArray),bytesOf vs acc=some s->∃ns:List Int,vs=ns.map (gZ .u8)∧s=ns.foldl (fun r n=>r.push (nB n.toNat)) acc:=by
 intro vs
 induction vs with
 |nil=>intro acc s h;simp[bytesOf]at h;exact⟨[],rfl,h.symm⟩
 |cons v vs ih=>
  intro acc s h
  cases v with
  |int k n=>
   cases k with
   |u8=>
    obtain⟨ns,rfl,hs⟩:=ih (acc.push (nB n.toNat)) s (by simpa[bytesOf]using h)
    exact⟨n::ns,rfl,hs⟩
   |_=>simp[bytesOf]at h
  |_=>simp[bytesOf]at h
theorem ba.ints{k:IntKind}:∀{ns:List Int} {dh:List Value},ba m (ns.map (gZ k)) dh->dh=ns.map (gZ k)
 |[],_,.nil=>rfl
 |_::_,_,.cons (.int _ _) t=>by rw[ba.ints t];rfl
theorem abX{v v':Value}(hv:VR m v v')(x:WR P m base h w.heap)(hr:nJ v h n=some ⟨r,h1,n1,L⟩):∃a l c,v'= .slice a l c∧Sound P base m w h n (al1 v') r h1 n1:=by
 unfold nJ at hr
 split at hr
 ·obtain⟨rfl,rfl,rfl⟩:=bD hr
  cases hv
  exact⟨_,_,_,rfl,m,w,.string .empty,by simp[al1],cK.refl x,.string _⟩
 ·rename_i b off len cap
  obtain⟨vs,h2,n2,L1,L2,e1,e2,_⟩:=bind_some hr
  cases H':bytesOf vs .empty with
  |none=>rw[H']at e2;cases e2
  |some s=>
   rw[H']at e2
   obtain⟨rfl,rfl,rfl⟩:=bD e2
   cases hv with
   |@fV _ _ _ _ cG o' d hd ho c1 c2 c3 c4=>
    obtain⟨rfl,rfl,hl,dh,fE,eh⟩:=uN x hd e1
    obtain⟨ns,rfl,hs⟩:=abW _ _ _ H'
    have iq:=ba.ints fE
    subst iq
    refine⟨_,_,_,rfl,m,w,.string s, ?_,cK.refl x,.string _⟩
    rw[hs]
    apply run_bytesToString
    have hlen:(ns.map (gZ .u8)).length=len:=hl
    have:=xX (P:=P) eh
    rw[hlen]at this
    by_cases h0:0<len
    ·rw[ho (.inl h0)];exact this
    ·have Ia:len=0:=by omega
     subst Ia
     have:ns=[]:=by simpa using hlen
     subst this
     rfl
 ·cases hr
theorem abY{e:TypeId}{s:ByteArray}(Ib:size? P e=some 1)(x:WR P m base h w.heap)(hb:base<=w.heap.size)(hf:ic m n n1)(hr:qO e s h n=some ⟨r,h1,n1,L⟩):Sound P base m w h n (al2 e s) r h1 n1:=by
 unfold qO at hr
 split at hr
 ·rename_i hle
  obtain⟨id,h2,n2,L1,L2,e1,e2,_⟩:=bind_some hr
  obtain⟨rfl,rfl,rfl⟩:=bD e2
  obtain⟨cap,fW⟩:∃cap,grownCap w s.size 0 e=cap:=⟨_,rfl⟩
  have uZ:s.size<=cap:=by rw[<-fW];unfold grownCap aaO;exact Nat.le_add_right _ _
  obtain⟨cs',Ic⟩:∃cs':Array Value,(s.data.map fun b=>gZ .u8 b.toNat)++zJ (cap-s.size) (.int .u8 0)=cs':=⟨_,rfl⟩
  have fL:cs'.size=cap:=by rw[<-Ic];simp;have:s.data.size=s.size:=rfl;omega
  obtain⟨rfl,rfl,m',dz,hp⟩:=uO (w:=w.drew) (P:=P) (m:=m) (base:=base) x e1 hf hb (cs':=cs') (by rw[fL];simp;exact uZ) (fun k v hk=>by
   refine⟨v, ?_, ?_⟩
   ·rw[<-Ic]
    have bq:k<s.data.size:=by
     rcases Ob k s.data.size with q|q
     ·exact q
     ·rw[qI (by simpa using q)]at hk;cases hk
    rw[alV (by simpa using bq)]
    simpa using hk
   ·have:v∈(s.data.map fun b=>gZ .u8 b.toNat).toList:=alQ hk
    simp at this
    obtain⟨b,_,rfl⟩:=this
    exact .int _ _) Ib
  have Ie:((w.drew.alloc (.cells cs' e)).freeze ⟨w.heap.size,cap,none⟩ 1).heap=(w.drew.alloc (.cells cs' e)).heap.modify w.heap.size (fun _=> .cells cs' e (cap,cap+1)):=by
   unfold Oe
   simp only[Nat.one_ne_zero,if_false]
   apply Array.ext_getElem?
   intro i
   rw[Hh,Hh]
   by_cases hi:w.heap.size=i
   ·subst hi
    have:(w.drew.alloc (.cells cs' e)).heap[w.heap.size]? =some (.cells cs' e (0,0)):=heap_alloc_new w.drew _
    rw[if_pos rfl,if_pos rfl,this]
    simp
   ·simp[hi]
  refine⟨m',(w.drew.alloc (.cells cs' e)).freeze ⟨w.heap.size,cap,none⟩ 1,.slice (some ⟨w.heap.size,0,none⟩) s.size cap, ?_,⟨hp.le,hp.out, ?_, ?_⟩, ?_⟩
  ·have abZ:(w.drew.alloc (.cells cs' e)).shape? w.heap.size=some (e,cap):=by
    unfold World.shape?
    rw[show(w.drew.alloc (.cells cs' e)).heap[w.heap.size]? =some (.cells cs' e (0,0))from heap_alloc_new w.drew _]
    simp[fL]
   unfold al2
   simp only[choose,bind,zG,pure]
   show(Sem.choose _ _).run P w=_
   simp only[Ci,al3,sd,if_false]
   have iV:aaO (.appendCap s.size 0 e) (w.tape w.drawn (.appendCap s.size 0 e))=cap:=fW
   rw[iV,Ic]
   simp only[newRow,newObj,bind,zG,pure,Ci,markStringish,shape]
   have ab0:({heap:=w.heap.push (.cells cs' e),tape:=w.tape,drawn:=w.drawn+1,os:=w.os,output:=w.output}:World)=w.drew.alloc (.cells cs' e):=rfl
   rw[ab0,abZ]
   rfl
  ·have mQ:=hp.wr
   constructor
   ·intro b B hB
    obtain⟨⟨ab1,dsh,am',am_,del⟩,cs,lo,hi,a1,a2,a3,a4,a7,a5,a6⟩:=mQ.live b B hB
    simp only at a2 a3 a4 a7 a5 a6
    rw[Ie]
    by_cases zX:ab1=w.heap.size
    ·have:(w.drew.alloc (.cells cs' e)).heap[w.heap.size]? =some (.cells cs' e (0,0)):=heap_alloc_new w.drew _
     rw[zX,this]at a2
     cases a2
     refine⟨_,cs',cap,cap+1,a1, ?_,a3,a4,a7,fun ho=>⟨(a5 ho).1,(a5 ho).2.1,fun k hk=>by simp only at hk;omega⟩,a6⟩
     rw[zX,Hh,if_pos rfl,this]
     rfl
    ·exact⟨_,cs,lo,hi,a1,by rw[getElem?_modify_ne _ _ (Ne.symm zX)];exact a2,a3,a4,a7,a5,a6⟩
   ·exact mQ.inj
  ·have h1:=hp.below
   have h0:Below base w w.drew:=alT (r7 _ _)
   have h2:Below base (w.drew.alloc (.cells cs' e)) ((w.drew.alloc (.cells cs' e)).freeze ⟨w.heap.size,cap,none⟩ 1):=by
    refine⟨?_, ?_, ?_, ?_,fun k hk=> ?_⟩
    ·unfold Oe;simp
    ·unfold Oe;simp
    ·unfold Oe;simp
    ·rw[Ie];simp
    ·rw[Ie,getElem?_modify_ne _ _ (by omega)]
   exact(h0.trans h1).trans h2
  ·exact VR.fV dz (fun _=>rfl) (fun q=>by simp[bc]at q;omega) (fun _=>⟨av _,by omega⟩) uZ (by simp[fL])
 ·cases hr
theorem ab2{t:TypeId}{l c l' c':Value}(hl:VR m l l')(hc:VR m c c')(x:WR P m base h w.heap)(hb:base<=w.heap.size)(hf:ic m n n1)(hr:nL P t l c h n=some ⟨r,h1,n1,L⟩):Sound P base m w h n (Instr.makeSlice t l' c') r h1 n1:=by
 unfold nL at hr
 cases hu:P.underlying t with
 |none=>rw[hu]at hr;cases hr
 |some d=>
  rw[hu]at hr
  cases d<;>try(cases hr;done)
  rename_i e
  cases hl<;>try(cases hr;done)
  rename_i kl l
  cases hc<;>try(cases hr;done)
  rename_i kc c
  simp only at hr
  cases hi:P.info? e with
  |none=>rw[hi]at hr;cases hr
  |some ie=>
   cases hz:fK P e with
   |none=>rw[hi,hz]at hr;cases hr
   |some z=>
    rw[hi,hz]at hr
    simp only at hr
    split at hr
    ·rename_i jm
     simp only[cb,decide_eq_true_eq]at jm
     obtain⟨⟨⟨⟨⟨c1,c2⟩,c3⟩,c4⟩,c5⟩,c6⟩:=jm
     obtain⟨id,h2,n2,L1,L2,e1,e2,_⟩:=bind_some hr
     obtain⟨rfl,rfl,rfl⟩:=bD e2
     obtain⟨i2,ke,lX⟩:=CK hz
     rw[hi]at ke;cases ke
     have p8:=Pc (m:=m) hz (c.toNat*ie.size)
     obtain⟨rfl,rfl,m',dz,hp⟩:=uO x e1 hf hb (cs':=gP z (c.toNat*ie.size)) (by simp) (fun k v hk=>by simpa using p8.get k v hk) (esz:=ie.size) (by simp[size?,hi])
     refine⟨m',_,.slice (some ⟨w.heap.size,0,none⟩) l.toNat c.toNat, ?_,hp,VR.fV dz (fun _=>rfl) (fun _=>rfl) (fun q=>by simp[bc]at q;omega) (by omega) (by simp[gP])⟩
     have ab3:(ie.bytes:Int)*c<=281474976710656:=by
      have h1:(ie.bytes:Int)*c<=64*c:=Int.mul_le_mul_of_nonneg_right (by omega) (by omega)
      omega
     exact run_make w t e ie z hu hi lX kl kc l c c1 c2 ab3 (by omega)
    ·cases hr
end
section
variable {P:Program} {base:Nat} {m:Mp} {w:World} {h h1:H} {n n1:Nat} {r:Value} {L:List En}
theorem Pe{t:TypeId}{cs cs':Array Value}(hc:ba m cs.toList cs'.toList){off:Nat}(hr:partOf P t cs off=some r)(w:World):∃v',(part t cs' off).run P w= .ok v' w∧VR m r v':=by
 unfold partOf at hr
 cases hg:kI P t with
 |none=>rw[hg]at hr;cases hr
 |some g=>
  rw[hg]at hr
  cases g with
  |true=>
   cases hs:size? P t with
   |none=>rw[hs]at hr;cases hr
   |some k=>
    rw[hs]at hr
    simp only[ee]at hr
    subst hr
    refine⟨.agg (cs'.extract off (off+k)), ?_,.agg ?_⟩
    ·unfold part
     simp only[eI,xZ hg w,fi,if_true,run_sizeOf hs]
     rfl
    ·have hl:cs.size=cs'.size:=by simpa using hc.length
     refine ba.mN (by simp[hl]) fun j v hj=> ?_
     simp only[Array.toList_extract,List.extract_eq_take_drop,List.getElem?_take,List.getElem?_drop]at hj⊢
     split at hj
     ·rename_i bf
      rw[if_pos bf]
      exact hc.get _ v hj
     ·cases hj
  |false=>
   simp only at hr
   obtain⟨v',bX,oR⟩:=hc.get off r (by simpa using hr)
   refine⟨v', ?_,oR⟩
   unfold part
   have:cs'[off]? =some v':=by simpa using bX
   simp only[eI,xZ hg w,fi,sd,if_false,this]
   rfl
theorem Ig{t:TypeId}{v v':Value}{f:Nat}(hv:VR m v v')(hr:sA P t v f=some r)(w:World):∃u,(al5 t v' f).run P w= .ok u w∧VR m r u:=by
 unfold sA at hr
 cases hu:P.underlying t with
 |none=>rw[hu]at hr;cases hr
 |some d=>
  rw[hu]at hr
  cases d<;>try(cases hr;done)
  rename_i fs
  cases hv<;>try(cases hr;done)
  rename_i cs cs' hc
  simp only at hr
  cases hf:fs[f]? with
  |none=>rw[hf]at hr;cases hr
  |some fd=>
   rw[hf]at hr
   obtain⟨u,q6,jq⟩:=Pe hc hr w
   refine⟨u, ?_,jq⟩
   unfold al5
   simp only[eI,run_underlying hu,fi,hf,asAgg,oI]
   exact q6
theorem ab4{t:TypeId}{v v':Value}{f:Nat}(hv:VR m v v')(hr:xO P t v f=some r)(w:World):∃u,(al6 t v' f).run P w= .ok u w∧VR m r u:=by
 unfold xO at hr
 cases hu:P.underlying t with
 |none=>rw[hu]at hr;cases hr
 |some d=>
  rw[hu]at hr
  cases d<;>try(cases hr;done)
  rename_i fs
  cases hv<;>try(cases hr;done)
  rename_i b off d hd
  simp only at hr
  cases hf:fs[f]? with
  |none=>rw[hf]at hr;cases hr
  |some fd=>
   rw[hf]at hr
   simp only at hr
   cases hs:size? P fd.type with
   |none=>rw[hs]at hr;cases hr
   |some k=>
    rw[hs]at hr
    simp only at hr
    split at hr
    ·cases hr
    ·rename_i hk
     cases hr
     refine⟨.pointer (some ⟨d.dJ,d.sh+(off+fd.offset),none⟩), ?_,VR.ptr hd⟩
     unfold al6
     simp only[eI,run_underlying hu,fi,hf,Hi,oI,fieldPlace,run_sizeOf hs,if_neg hk,nO]
     rw[Hj]
theorem ab5{t:TypeId}{v v' i i':Value}(hv:VR m v v')(hi:VR m i i')(hr:qP P t v i=some r)(w:World):∃u,(aaQ t v' i').run P w= .ok u w∧VR m r u:=by
 unfold qP at hr
 cases hu:P.underlying t with
 |none=>rw[hu]at hr;cases hr
 |some d=>
  rw[hu]at hr
  cases d<;>try(cases hr;done)
  case slice e=>
   cases hv<;>try(cases hr;done)
   rename_i b off len cap cG o' d hd ho c1 c2 c3 c4
   cases hi<;>try(cases hr;done)
   rename_i k j
   simp only at hr
   cases hs:size? P e with
   |none=>rw[hs]at hr;cases hr
   |some sz=>
    rw[hs]at hr
    simp only at hr
    split at hr
    ·rename_i hj
     cases hr
     refine⟨.pointer (some ⟨d.dJ,d.sh+(off+j.toNat*sz),none⟩), ?_,VR.ptr hd⟩
     unfold aaQ
     simp only[asIntOf,pure_bind,eI,run_underlying hu,fi,oI,if_pos hj,run_sizeOf hs,nO,ho (.inl (by omega))]
     rw[Hj]
    ·cases hr
  case array len e=>
   cases hv<;>try(cases hr;done)
   rename_i b off d hd
   cases hi<;>try(cases hr;done)
   rename_i k j
   simp only at hr
   cases hs:size? P e with
   |none=>rw[hs]at hr;cases hr
   |some sz=>
    rw[hs]at hr
    simp only at hr
    split at hr
    ·rename_i hj
     cases hr
     refine⟨.pointer (some ⟨d.dJ,d.sh+(off+j.toNat*sz),none⟩), ?_,VR.ptr hd⟩
     unfold aaQ
     simp only[asIntOf,pure_bind,eI,run_underlying hu,fi,oI,Hi,if_pos hj,run_sizeOf hs,nO]
     rw[Hj]
    ·cases hr
theorem ab6{t:TypeId}{v v' i i':Value}(hv:VR m v v')(hi:VR m i i')(hr:xP P t v i=some r)(w:World):∃u,(Co t v' i').run P w= .ok u w∧VR m r u:=by
 unfold xP at hr
 cases hu:P.underlying t with
 |none=>rw[hu]at hr;cases hr
 |some d=>
  rw[hu]at hr
  cases d<;>try(cases hr;done)
  rename_i len e
  cases hv<;>try(cases hr;done)
  rename_i cs cs' hc
  cases hi<;>try(cases hr;done)
  rename_i k j
  simp only at hr
  cases hs:size? P e with
  |none=>rw[hs]at hr;cases hr
  |some sz=>
   rw[hs]at hr
   simp only at hr
   split at hr
   ·rename_i hj
    obtain⟨u,q6,jq⟩:=Pe hc hr w
    refine⟨u, ?_,jq⟩
    unfold Co
    simp only[asIntOf,pure_bind,eI,run_underlying hu,fi,if_pos hj,run_sizeOf hs]
    exact q6
   ·cases hr
theorem ab7{v v':Value}{i:Nat}(hv:VR m v v')(hr:sB v i=some r)(w:World):∃u,(al7 v' i).run P w= .ok u w∧VR m r u:=by
 unfold sB at hr
 cases hv<;>try(cases hr;done)
 rename_i cs cs' hc
 simp only at hr
 obtain⟨u,hu,jq⟩:=hc.get i r (by simpa using hr)
 have:cs'[i]? =some u:=by simpa using hu
 exact⟨u,by simp[al7,this],jq⟩
def sO(m:Mp)(a b:Option Value):Prop:=match a,b with
 |none,none=>True
 |some x,some y=>VR m x y
 |_,_=>False
theorem ya{a b:Option Value}{d k:Nat}(ha:sO m a b)(hr:er a d=some k):(a=none∧b=none∧k=d)∨∃kd i,a=some (.int kd i)∧b=some (.int kd i)∧0<=i∧k=i.toNat:=by
 unfold er at hr
 cases a with
 |none=>
  cases b with
  |none=>left;exact⟨rfl,rfl,by simpa using hr.symm⟩
  |some y=>cases ha
 |some x=>
  cases b with
  |none=>cases ha
  |some y=>
   have ha:VR m x y:=ha
   cases ha<;>simp at hr
   rename_i kd i
   exact .inr ⟨kd,i,rfl,rfl,hr.1,hr.2.symm⟩
theorem q7{k:IntKind}{i:Int}{y:Nat}{code:BoundsCode}(h0:0<=i)(h1:i.toNat<=y)(w:World):(Of (.int k i) y code).run P w= .ok i.toNat w:=by
 have:0<=i∧i<=(y:Int):=⟨h0,by omega⟩
 simp[Of,asIntOf,this]
theorem Pf{t:TypeId}{v v':Value}(fL:∀b off l c e,v= .slice (some ⟨b,off,none⟩) l c->P.underlying t=some (.slice e)->∃d,m b=some d∧size? P e=some d.esz){lo hi mx l5 p9 CM:Option Value}(hv:VR m v v')(hl:sO m lo l5)(hh:sO m hi p9)(hm:sO m mx CM)(hr:xN P t v lo hi mx=some r)(w:World):
 ∃u,(Cp t v' l5 p9 CM).run P w= .ok u w∧VR m r u:=by
 unfold xN at hr
 cases hu:P.underlying t with
 |none=>rw[hu]at hr;cases hr
 |some dd=>
  rw[hu]at hr
  cases dd<;>try(cases hr;done)
  rename_i e
  have core:∀(a:Option Addr) (len cap cG:Nat),(∀sz mm l7 ll,size? P e=some sz->er mx cap=some mm->er hi len=some l7->er lo 0=some ll->(mx.isSome&& !hi.isSome)=false->
   (ll<=l7∧l7<=mm∧mm<=cap∧(cap<bc∨(mx=none∧l7<=len)))->(cap<bc->cG=cap)->len<=cG->
   (Cp t (.slice a len cG) l5 p9 CM).run P w= .ok (.slice (if(if mx=none then cG else mm)=ll then a else a.map (·.add (ll*sz))) (l7-ll) ((if mx=none then cG else mm)-ll)) w):=by
   intro a len cap cG sz mm l7 ll hs jL nU ew sP hc fW hlen
   obtain⟨c1,c2,c3,c4⟩:=hc
   have CN:l7<=cG:=by
    rcases c4 with q|⟨_,q⟩
    ·rw[fW q];omega
    ·omega
   have ab8:(al8 true len cG l5 p9 CM).run P w= .ok (ll,l7,if mx=none then cG else mm) w:=by
    unfold al8
    rcases ya hm jL with ⟨rfl,rfl,rfl⟩|⟨km,im,rfl,rfl,pm,rfl⟩
    ·rcases ya hh nU with ⟨rfl,rfl,rfl⟩|⟨kh,ih,rfl,rfl,ph,rfl⟩
     ·rcases ya hl ew with ⟨rfl,rfl,rfl⟩|⟨kl,il,rfl,rfl,pl,rfl⟩
      ·simp
      ·simp[q7 pl c1 w]
     ·rcases ya hl ew with ⟨rfl,rfl,rfl⟩|⟨kl,il,rfl,rfl,pl,rfl⟩
      ·simp[q7 ph CN w]
      ·simp[q7 ph CN w,q7 pl c1 w]
    ·rcases ya hh nU with ⟨rfl,rfl,rfl⟩|⟨kh,ih,rfl,rfl,ph,rfl⟩
     ·simp at sP
     ·have q:cap<bc:=by
       rcases c4 with q|⟨q,_⟩
       ·exact q
       ·cases q
      have e:im.toNat<=cG:=by rw[fW q];exact c3
      rcases ya hl ew with ⟨rfl,rfl,rfl⟩|⟨kl,il,rfl,rfl,pl,rfl⟩
      ·simp[q7 pm e w,q7 ph c2 w]
      ·simp[q7 pm e w,q7 ph c2 w,q7 pl c1 w]
   unfold Cp
   simp only[eI,run_underlying hu,fi]
   unfold Instr.slice
   simp only[eI,run_underlying hu,fi,ab8,run_sizeOf hs,oI]
  cases hv<;>try(cases hr;done)
  case mO len cap fW=>
   simp only at hr
   cases hs:size? P e with
   |none=>rw[hs]at hr;cases hr
   |some sz=>
    cases jL:er mx cap with
    |none=>rw[hs,jL]at hr;cases hr
    |some mm=>
     cases nU:er hi len with
     |none=>rw[hs,jL,nU]at hr;cases hr
     |some l7=>
      cases ew:er lo 0 with
      |none=>rw[hs,jL,nU,ew]at hr;cases hr
      |some ll=>
       rw[hs,jL,nU,ew]at hr
       simp only at hr
       split at hr
       ·cases hr
       ·rename_i sP
        split at hr
        ·rename_i hc
         cases hr
         simp only[cb,xI,decide_eq_true_eq,al9]at hc
         have z':(if mx=none then cap else mm)=mm:=by
          split
          ·rename_i q;subst q;simpa[er]using jL
          ·rfl
         refine⟨_,core none len cap cap sz mm l7 ll hs jL nU ew (Bool.eq_false_iff.2 sP) ⟨hc.1.1.1,hc.1.1.2,hc.1.2,hc.2⟩ (fun _=>rfl) fW.1, ?_⟩
         rw[z']
         have:(if mm=ll then(none:Option Addr)else Option.map (fun(q:Addr)=>q.add (ll*sz)) none)=none:=by split<;>rfl
         rw[this]
         exact .mO _ _ (by omega)
        ·cases hr
  case pX b off s a'=>
   exfalso
   simp only at hr
   repeat' (first|(cases hr;done)|split at hr)
  case fV b off len cap cG o' d hd ho c1 c2 c3 c4=>
   simp only at hr
   cases hs:size? P e with
   |none=>rw[hs]at hr;cases hr
   |some sz=>
    cases jL:er mx cap with
    |none=>rw[hs,jL]at hr;cases hr
    |some mm=>
     cases nU:er hi len with
     |none=>rw[hs,jL,nU]at hr;cases hr
     |some l7=>
      cases ew:er lo 0 with
      |none=>rw[hs,jL,nU,ew]at hr;cases hr
      |some ll=>
       rw[hs,jL,nU,ew]at hr
       simp only at hr
       split at hr
       ·cases hr
       ·rename_i sP
        split at hr
        ·rename_i hc
         cases hr
         simp only[cb,xI,decide_eq_true_eq,al9]at hc
         refine⟨_,core _ len cap cG sz mm l7 ll hs jL nU ew (Bool.eq_false_iff.2 sP) ⟨hc.1.1.1,hc.1.1.2,hc.1.2,hc.2⟩ c1 c3, ?_⟩
         obtain⟨d2,u0,oS⟩:=fL b off len cap e rfl hu
         rw[hd]at u0;cases u0
         rw[hs]at oS
         have oS:sz=d.esz:=by simpa using oS
         subst oS
         obtain⟨⟨⟨k1,k2⟩,k3⟩,k4⟩:=hc
         by_cases fW:cap<bc
         ·have xW:=c1 fW
          subst xW
          have qV:=ho (.inr fW)
          subst qV
          have z':(if mx=none then cG else mm)=mm:=by
           split
           ·rename_i q;subst q;simpa[er]using jL
           ·rfl
          rw[z']
          have hmul:ll*d.esz+(mm-ll)*d.esz=mm*d.esz:=by rw[<-lj];congr 1;omega
          have hle:mm*d.esz<=cG*d.esz:=Nat.mul_le_mul_right _ k3
          by_cases nV:mm=ll
          ·rw[if_pos nV,if_pos nV]
           exact VR.fV hd (fun _=>rfl) (fun _=>rfl) (fun q=>by omega) (by omega) (by omega)
          ·rw[if_neg nV,if_neg nV]
           simp only[Ch,nO]
           exact VR.fV hd (fun _=>by omega) (fun _=>rfl) (fun q=>by omega) (by omega) (by omega)
         ·have CN:bc<=cap:=by omega
          obtain⟨q1,q2⟩:=c2 CN
          rcases k4 with k4|⟨k4,k5⟩
          ·omega
          ·subst k4
           have z':mm=cap:=by simpa[er]using jL.symm
           subst z'
           simp only[if_true]
           have u1:ll<=cG:=by omega
           have hmul:ll*d.esz+(cG-ll)*d.esz=cG*d.esz:=by rw[<-lj];congr 1;omega
           have nV:¬mm=ll:=by unfold bc at*;omega
           rw[if_neg nV]
           by_cases fG:cG=ll
           ·rw[if_pos fG]
            exact VR.fV hd (fun q=>by omega) (fun q=>by omega) (fun q=>by omega) (by omega) (by omega)
           ·rw[if_neg fG]
            simp only[Ch,nO]
            exact VR.fV hd (fun q=>by have:=ho (.inl (by omega));omega) (fun q=>by omega) (fun q=>by omega) (by omega) (by omega)
        ·cases hr
end
end Go.Proofs.YtdagfcflbphoiaaGreatDoor.Ev
