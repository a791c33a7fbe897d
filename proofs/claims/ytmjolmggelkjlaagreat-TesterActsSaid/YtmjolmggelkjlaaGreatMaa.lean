import Derived.WalkKit
import Derived.WalkSpells
import Derived.WalkLawsBesides
import Derived.Lib.Bytealg
import Derived.Lib.Bytes
import Derived.Lib.Repeat
import Derived.Laws.Append
import Derived.Laws.Cells
import Derived.Orders
import Derived.Laws.Sem
import Derived.Laws.MakeOwn
import Derived.Laws.BytesString
open Nat renaming le_refl→ah, le_trans→gV, pow_succ→mL, add_mul→oR, lt_or_ge→sT, add_assoc→vo, strongRecOn→xD
open List renaming getD_eq_getElem?_getD→bz, getElem?_eq_none→oP, foldl_cons→aaP, getElem?_set_ne→anq, mem_of_getElem?→anx
open Bool renaming and_eq_true→bZ, or_eq_true→oO, false_eq_true→oQ, true_and→Mn
open Option.some renaming injEq→dH, inj→vn
open Go.Value renaming int→eJ
open Go.Sem renaming run_bind→eP, run_pure→nu, bind→xC, run→AJ
open Go.Result renaming andThen→ft
open Go.Region renaming wanted→gy, binds→oL, ready→Mo
open UInt8 renaming ofNat→gU
open Go.Instr renaming fill→lP, index→AL, sureAddr→Fm, sliceAt→Fp, sliceBound→Ms, buildSlice→aaR, loadAt→aaT, indexAt→aaV, alloc→anE, build→anF, storeAt→anI, field→anO, fieldAt→anP, extract→anQ, sliceBounds→anR
open Array renaming getD_eq_getD_getElem?→oM, all_eq_true_iff_forall_mem→sR, replicate→xF, getElem?_modify→Fk, getElem?_setIfInBounds_ne→aaN, map_congr_left→aaO, mem_of_getElem?→anA, getElem?_replicate→anC, getElem?_append_left→anD
open Go.RowKit.Below renaming refl→qS, drew→anB
open Go.Call renaming operands→vl
open Option renaming map_some→AH, bind_some→Mm, isNone_iff_eq_none→anS
open Go.World renaming freeze→Mr
open Go.Question renaming cut→aaU, forced→anL
open Go renaming undef→anr
open Go.Act renaming put→anv
open Go.Oper renaming looksAt→anw, apart_spec→anz
open Go.Conv renaming bytesToString→anJ, stringToBytes→anK
open Classical renaming choose→apb, choose_spec→apc
set_option linter.unusedVariables false
set_option linter.unusedSimpArgs false
namespace Go.Proofs.YtmjolmggelkjlaaGreat
theorem jO{p:Prop}(h:p:=by omega):p:=h
theorem jD{p:Prop}(h:p:=by decide):p:=h
theorem jS{p:Prop}(h:p:=by simp):p:=h
theorem jK{c:Sort _}{a b:c}(h:a=b:=by kernel_rfl):a=b:=h
end Go.Proofs.YtmjolmggelkjlaaGreat
namespace Go.Proofs.YtmjolmggelkjlaaGreat.Ev
open Go
def KN:List FuncId:=[43,65,183]
def NV:List (FuncId×Nat):=[(183,2)]
def MW:FuncId->List Value->Option Value:=fun _ _=>none
def MX:FuncId->Nat:=fun _=>0
def AX:FuncId->Nat->List Value->Option Value:=fun _ _ _=>none
def KG:List (Nat×Nat×Value):=[]
theorem aI{a b:Prop}(x:a)(y:b):a∧b:=And.intro x y
inductive Tr (α:Type) where
 |nil
 |node (l:Tr α) (v:Option α) (r:Tr α)
def Tr.get{a:Type}:Nat->Tr a->Nat->Option a
 |0,_,_=>none
 |_+1,.nil,_=>none
 |f+1,.node l v r,i=>if i=0 then v else if i %2=1 then Tr.get f l (i/2)else Tr.get f r (i/2-1)
def Tr.set{b:Type}:Nat->Tr b->Nat->Option b->Tr b
 |0,t,_,_=>t
 |f+1,.nil,i,a=>if i=0 then .node .nil a .nil else if i %2=1 then .node (Tr.set f .nil (i/2) a) none .nil else .node .nil none (Tr.set f .nil (i/2-1) a)
 |f+1,.node l v r,i,a=>if i=0 then .node l a r else if i %2=1 then .node (Tr.set f l (i/2) a) v r else .node l v (Tr.set f r (i/2-1) a)
structure AB where
 elem:TypeId
 own:Bool
 cells:List Value
abbrev H:=Tr AB
def H.get(h:H)(b:Nat):Option AB:=Tr.get (b+1) h b
def H.set(h:H)(b:Nat)(x:Option AB):H:=Tr.set (b+1) h b x
abbrev S:=Tr Value
def S.get(s:S)(t:Nat):Value:=(Tr.get 10 s t).getD undef
def S.put(s:S)(t:Nat)(v:Value):S:=Tr.set 10 s t (some v)
structure En where
 wr:Bool
 b:Nat
 k:Option Nat
structure Out (α:Type) where
 val:α
 h:H
 n:Nat
 log:List En
def M(a:Type):=H->Nat->Option (Out a)
def M.ret{b:Type}(a:b):M b:=fun h n=>some ⟨a,h,n,[]⟩
def M.fail{a:Type}:M a:=fun _ _=>none
def M.lift{b:Type}(o:Option b):M b:=fun h n=>match o with|some a=>some ⟨a,h,n,[]⟩|none=>none
def M.bind{d b:Type}(m:M d)(f:d->M b):M b:=fun h n=>
 match m h n with
 |some ⟨a,j,g,l⟩=>match f a j g with
  |some ⟨c,i,e,k⟩=>some ⟨c,i,e,l++k⟩
  |none=>none
 |none=>none
instance:Monad M where
 pure:=M.ret
 bind:=M.bind
def rd(b k:Nat):M Value:=fun h n=>
 if b<n then match h.get b with
  |some B=>match B.cells[k]? with
   |some v=>some ⟨v,h,n,[⟨false,b,some k⟩]⟩
   |none=>none
  |none=>none
 else none
def one:Value->Bool
 | .agg _| .tuple _=>false
 |_=>true
def wr(b k:Nat)(v:Value):M Unit:=fun h n=>
 if b<n then match h.get b with
  |some B=>if B.own&&k<B.cells.length&&one v then some ⟨(),h.set b (some {B with cells:=B.cells.set k v}),n,[⟨false,b,some k⟩,⟨true,b,some k⟩]⟩else none
  |none=>none
 else none
def cW(e:TypeId)(cs:List Value):M Nat:=fun h n=>if n<n+1 then some ⟨n,h.set n (some ⟨e,true,cs⟩),n+1,[]⟩else none
def whole(b:Nat):M AB:=fun h n=>
 if b<n then match h.get b with
  |some B=>some ⟨B,h,n,[⟨false,b,none⟩]⟩
  |none=>none
 else none
def fw(b:Nat):M TypeId:=fun h n=>
 if b<n then match h.get b with
  |some B=>some ⟨B.elem,h,n,[⟨false,b,some 1099511627776⟩]⟩
  |none=>none
 else none
def kill(b:Nat):M Unit:=fun h n=>
 if b<n then match h.get b with
  |some B=>if B.own then some ⟨(),h.set b none,n,[⟨false,b,none⟩,⟨true,b,none⟩]⟩else none
  |none=>none
 else none
def cR(b k:Nat):Nat->M (List Value)
 |0=> .ret []
 |n+1=>(rd b k).bind fun v=>(cR b (k+1) n).bind fun a=> .ret (v::a)
def eQ(b k:Nat):List Value->M Unit
 |[]=> .ret ()
 |v::a=>(wr b k v).bind fun _=>eQ b (k+1) a
def inside{b:Type}(m:M b):M b:=fun h n=>
 match m h n with
 |some ⟨a,d,c,L⟩=>some ⟨a,d,c,L.filter fun e=> !(n<=e.b&&e.b<c)⟩
 |none=>none
def bo:Nat:=1152921504606846976
def jn(P:Program)(t:TypeId):Option Bool:=
 match P.underlying t with
 |some (.struct _)|some (.array _ _)=>some true
 |some _=>some false
 |none=>none
def size?(P:Program)(t:TypeId):Option Nat:=(P.info? t).map (·.size)
def qb:Value->Bool
 | .bool _| .int _ _| .float _ _| .string _| .pointer none| .nilFunc=>true
 | .slice none n c=>n<=c&&c<bo
 |_=>false
def clean:Value->Bool
 | .agg a=>a.all qb
 | .tuple a=>a.all qb
 |v=>qb v
def gz(P:Program)(t:TypeId):Option Value:=match (P.info? t).bind (·.zero)with
 |some z=>if clean z then some z else none
 |none=>none
def scalar:Value->Bool
 | .bool _| .int _ _| .string _=>true
 |_=>false
def jo(P:Program):Sem Next->Option Value
 | .pure (.value v)=>some v
 | .program k=>jo P (k P)
 |_=>none
def partOf(P:Program)(t:TypeId)(cs:Array Value)(off:Nat):Option Value:=
 match jn P t,size? P t with
 |some true,some n=>some (.agg (cs.extract off (off+n)))
 |some false,_=>cs[off]?
 |_,_=>none
def bytesOf:List Value->ByteArray->Option ByteArray
 |[],a=>some a
 | .int .u8 n::r,a=>bytesOf r (a.push (gU n.toNat))
 |_,_=>none
inductive Nx where
 |val (v:Value)
 |call (f:FuncId) (args:Array Value)
def kF(sz:Nat)(n:Nat):Value->M (List Value)
 | .slice (some ⟨b,a,none⟩) _ _=>cR b a (n*sz)
 | .string s=> .ret ((s.extract 0 n).data.map fun b=>eJ .u8 b.toNat).toList
 |_=> .fail
def iz:Value->Option Nat
 | .slice _ n _=>some n
 | .string s=>some s.size
 |_=>none
def mN(e:TypeId)(l n:Nat)(old a:List Value):M Value:=
 (cW e (old++a)).bind fun id=> .ret (.slice (some ⟨id,0,none⟩) (l+n) (bo+(l+n)))
def sY(e:TypeId)(n sz b off l cap:Nat)(c:List Value):M Value:=
 if cap<bo then
  if l+n<=cap then(eQ b (off+l*sz) c).bind fun _=> .ret (.slice (some ⟨b,off,none⟩) (l+n) cap)
  else(cR b off (l*sz)).bind fun a=>mN e l n a c
 else(cR b off (l*sz)).bind fun a=>(kill b).bind fun _=>mN e l n a c
def oU(P:Program)(d:TypeId)(s x:Value):M Value:=
 match P.underlying d with
 |some (.slice e)=>match P.info? e,gz P e,iz x with
  |some c,some z,some n=>
    if z.cells.size=c.size&&1<=c.size&&c.bytes<=64 then
    if n=0 then(match s with| .slice _ _ _=> .ret s|_=> .fail)else
    match s with
    | .slice none 0 0=>if n<=1099511627776 then(kF c.size n x).bind fun a=>if a.length=n*c.size&&a.all one then mN e 0 n [] a else .fail else .fail
    | .slice (some ⟨b,f,none⟩) l cap=>
      if l+n<=1099511627776 then
      (fw b).bind fun g=>if g=e then
        (kF c.size n x).bind fun a=>if a.length=n*c.size&&a.all one then sY e n c.size b f l cap a else .fail
      else .fail
      else .fail
    |_=> .fail
    else .fail
  |_,_,_=> .fail
 |_=> .fail
def ej(o:Option Value)(d:Nat):Option Nat:=
 match o with
 |none=>some d
 |some (.int _ i)=>if 0<=i then some i.toNat else none
 |_=>none
def oV:Option TypeDesc->Value->Value->Option Bool
 |some (.pointer _),.pointer none,.pointer b=>some b.isNone
 |some (.pointer _),.pointer _,.pointer none=>some false
 |some (.slice _),.slice none _ _,.slice b _ _=>some b.isNone
 |some (.slice _),.slice _ _ _,.slice none _ _=>some false
 |some (.func _ _ _),.nilFunc,.nilFunc=>some true
 |some (.func _ _ _),.nilFunc,.func _ _ _=>some false
 |some (.func _ _ _),.func _ _ _,.nilFunc=>some false
 |_,_,_=>none
def MY:Option TypeDesc->Option Nat
 |some (.int _)=>some 0
 |some .string=>some 1
 |some .bool=>some 2
 |_=>none
def xL(P:Program):Nat->List Field->Option (List Nat)
 |_,[]=>some []
 |i,f::r=>match MY (P.underlying f.type),size? P f.type,xL P (i+1) r with
  |some d,some 1,some l=>if f.name != "_" &&f.offset==i then some (d::l)else none
  |_,_,_=>none
def sZ(P:Program)(t:TypeId):Option (List Nat):=match P.underlying t with
 |some (.struct a)=>if P.stoodInHeld t||P.eqGuardType P.depth t then none else xL P 0 a.toList
 |_=>none
def AY:Nat->Value->Value->Option Bool
 |0,.int k a,.int c b=>if k=c then some (a==b)else none
 |1,.string a,.string b=>some (a==b)
 |2,.bool a,.bool b=>some (a==b)
 |_,_,_=>none
def lA:List Nat->List Value->List Value->Option Bool
 |[],[],[]=>some true
 |d::c,x::l,y::m=>match AY d x y,lA c l m with
  |some a,some b=>some (a&&b)
  |_,_=>none
 |_,_,_=>none
def FN(a:Option (List Nat))(x y:Value):Option Bool:=match a,x,y with
 |some a,.agg c,.agg b=>lA a c.toList b.toList
 |_,_,_=>none
def oW(P:Program)(t:TypeId)(x y:Value):Option Bool:=match oV (P.underlying t) x y with
 |some b=>some b
 |none=>FN (sZ P t) x y
def vw(P:Program)(t:TypeId)(x:Value)(lo f d:Option Value):Option Value:=
 match P.underlying t,x with
 |some (.slice e),.slice a len cap=>
  match size? P e,ej d cap,ej f len,ej lo 0 with
  |some g,some m,some h,some l=>
   if d.isSome&& !f.isSome then none else
   if l<=h&&h<=m&&m<=cap&&(cap<bo||(d.isNone&&h<=len))then
    match a with
    |none=>some (.slice none (h-l) (m-l))
    |some ⟨b,c,none⟩=>some (.slice (some ⟨b,if m=l then c else c+l*g,none⟩) (h-l) (m-l))
    |_=>none
   else none
  |_,_,_,_=>none
 |_,_=>none
def ny(P:Program)(t:TypeId)(x:Value)(lo c a:Option Value):M Value:=
 match x with
 | .slice (some ⟨b,_,none⟩) _ _=>(fw b).bind fun d=>match P.underlying t with
   |some (.slice e)=>if size? P d=size? P e then M.lift (vw P t x lo c a)else .fail
   |_=> .fail
 |_=>M.lift (vw P t x lo c a)
def mO(P:Program)(e:TypeId):M Value:=
 match gz P e with
 |some z=>(cW e z.cells.toList).bind fun id=> .ret (.pointer (some ⟨id,0,none⟩))
 |none=> .fail
def mP(P:Program)(e:TypeId)(v:Value):M Value:=
 match size? P e with
 |some _=>(cW e v.cells.toList).bind fun id=> .ret (.pointer (some ⟨id,0,none⟩))
 |none=> .fail
def placeOf(P:Program)(a:Array Field)(i:Nat):Option (Nat×Nat):=(a[i]?).bind fun f=>(size? P f.type).map fun n=>(f.offset,n)
def mc(P:Program)(t:TypeId)(a:List (Nat×Value)):M Value:=
 match gz P t,P.underlying t with
 |some z,some (.struct b)=>if b.all fun f=>(size? P f.type).isSome then
   (match lP (placeOf P b) z.cells a with
   |some c=> .ret (.agg c)
   |none=> .fail)else .fail
 |_,_=> .fail
def aR(z:Value)(n:Nat):Array Value:=(Array.range n).map (z.cells[·%z.cells.size]!)
def me(P:Program)(t:TypeId)(len:Nat)(a:List (Nat×Value)):M Value:=
 match P.underlying t with
 |some (.slice e)=>match size? P e,gz P e with
  |some b,some z=>
   if len=0&&a.isEmpty then(cW e []).bind fun id=> .ret (.slice (some ⟨id,0,none⟩) 0 0)else
   if 0<len*b&&len*b<=65536 then
    match lP (fun i=>some (i*b,b)) (aR z (len*b)) a with
    |some c=>(cW e c.toList).bind fun id=> .ret (.slice (some ⟨id,0,none⟩) len len)
    |none=> .fail
   else .fail
  |_,_=> .fail
 |_=> .fail
def jq(P:Program)(t:TypeId):Value->M Value
 | .pointer (some ⟨b,a,none⟩)=>match jn P t,size? P t with
   |some true,some n=>(cR b a n).bind fun c=> .ret (.agg c.toArray)
   |some false,_=>rd b a
   |_,_=> .fail
 |_=> .fail
def nA(P:Program)(t:TypeId)(a x:Value):M Value:=
 match a with
 | .pointer (some ⟨b,c,none⟩)=>match size? P t with
   |some n=>if x.cells.size=n then(eQ b c x.cells.toList).bind fun _=> .ret undef else .fail
   |none=> .fail
 |_=> .fail
def qc:Value->M Value
 | .pointer (some a)=> .ret (.pointer (some a))
 | .func (.func f) a b=> .ret (.func (.func f) a b)
 |_=> .fail
def mQ:Value->M Value
 | .slice none _ _=> .ret (.string .empty)
 | .slice (some ⟨b,a,none⟩) len _=>(cR b a len).bind fun c=>match bytesOf c .empty with
   |some s=> .ret (.string s)
   |none=> .fail
 |_=> .fail
def qd(e:TypeId)(s:ByteArray):M Value:=
 if s.size<=1099511627776 then(cW e (s.data.map fun b=>eJ .u8 b.toNat).toList).bind fun id=> .ret (.slice (some ⟨id,0,none⟩) s.size (bo+s.size))else .fail
def mR(P:Program)(e:TypeId):Bool:=match P.underlying e with|some (.int .u8)=>true|_=>false
def qZ:Option TypeDesc->Option TypeDesc->Option TypeId
 |some (.slice e),some .string=>some e
 |_,_=>none
def s7:Option TypeDesc->Option TypeDesc->Value->Option (TypeId×ByteArray)
 |some .string,some (.slice e),.string s=>some (e,s)
 |_,_,_=>none
def mS(P:Program)(t:TypeId)(l c:Value):M Value:=
 match P.underlying t,l,c with
 |some (.slice e),.int _ l,.int _ c=>match P.info? e,gz P e with
  |some a,some z=>if 0<=l&&l<=c&&c<=1099511627776&&a.bytes<=64&&z.cells.size=a.size&&1<=a.size then
    (cW e (aR z (c.toNat*a.size)).toList).bind fun id=> .ret (.slice (some ⟨id,0,none⟩) l.toNat c.toNat)
   else .fail
  |_,_=> .fail
 |_,_,_=> .fail
def vx(P:Program)(s:TypeId)(x:Value)(f:Nat):Option Value:=
 match P.underlying s,x with
 |some (.struct d),.pointer (some ⟨b,a,none⟩)=>match d[f]? with
  |some c=>match size? P c.type with
   |some n=>if n=0 then none else some (.pointer (some ⟨b,a+c.offset,none⟩))
   |none=>none
  |none=>none
 |_,_=>none
def re(P:Program)(t:TypeId)(x:Value)(f:Nat):Option Value:=
 match P.underlying t,x with
 |some (.struct b),.agg c=>match b[f]? with
  |some a=>partOf P a.type c a.offset
  |none=>none
 |_,_=>none
def qe(P:Program)(t:TypeId)(x d:Value):Option Value:=
 match P.underlying t,x,d with
 |some (.slice e),.slice (some ⟨b,a,none⟩) len _,.int _ i=>match size? P e with
  |some c=>if 0<=i∧i<len then some (.pointer (some ⟨b,a+i.toNat*c,none⟩))else none
  |none=>none
 |some (.array len e),.pointer (some ⟨b,a,none⟩),.int _ i=>match size? P e with
  |some c=>if 0<=i∧i<len then some (.pointer (some ⟨b,a+i.toNat*c,none⟩))else none
  |none=>none
 |_,_,_=>none
def vz(P:Program)(t:TypeId)(x b:Value):Option Value:=
 match P.underlying t,x,b with
 |some (.array len e),.agg c,.int _ i=>match size? P e with
  |some a=>if 0<=i∧i<len then partOf P e c (i.toNat*a)else none
  |none=>none
 |_,_,_=>none
def rf(x:Value)(i:Nat):Option Value:=
 match x with
 | .tuple a=>a[i]?
 |_=>none
def gM(P:Program)(ρ:Operand->Value)(o:Oper):M Nx:=
 if o.op.operands.all fun x=>scalar (ρ x)then(M.lift (jo P (execOp ρ o))).bind fun v=>if scalar v then .ret (.val v)else .fail else .fail
def isStr:Value->Bool
 | .string _=>true
 |_=>false
def AZ:Value->Option (FuncId×Array Value×Array Value)
 | .func (.func g) first a=>some (g,first,a)
 |_=>none
def nB(P:Program)(g:FuncId):Bool:=match P.funcs[g]? with
 |some a=>a.body.isSome
 |none=>false
def MZ(P:Program)(t:TypeId):Bool:=match P.underlying t with
 |some (.slice _)|some .string=>true
 |_=>false
def vA(P:Program)(a:Array TypeId)(args:List Value):Option (TypeId×Value×Value):=match a[0]?,a[1]?,args with
 |some t,some u,[s,x]=>if MZ P u then some (t,s,x)else none
 |_,_,_=>none
def oX(P:Program)(t:TypeId)(d s:Value):M Value:=
 match P.underlying t with
 |some (.slice e)=>match size? P e,d,iz s with
  |some i,.slice a g _,some c=>
   if 0<Nat.min c g then(match a with
    |some ⟨b,f,none⟩=>(kF i (Nat.min c g) s).bind fun h=>(eQ b f h).bind fun _=> .ret (.int .i64 (Nat.min c g))
    |_=> .fail)
   else .ret (.int .i64 0)
  |_,_,_=> .fail
 |_=> .fail
def vB(a:Array TypeId)(args:List Value):Option (TypeId×Value×Value):=match a[0]?,args with
 |some t,[d,s]=>some (t,d,s)
 |_,_=>none
def s9(P:Program)(a:Array TypeId)(args:List Value):Option Nat:=match a[0]?,args with
 |some t,.slice _ n _::_=>(match P.underlying t with|some (.slice _)=>some n|_=>none)
 |_,_=>none
def kG(P:Program)(ρ:Operand->Value)(o:Oper)(c:Call)(args:Array Value):M Nx:=
 match c.callee with
 | .value f=>match AZ (ρ f)with
   |some (g,first,a)=>if nB P g then .ret (.call g (first++args++a))else .fail
   |none=> .fail
 | .builtin .append=>match vA P c.argTypes args.toList with
   |some (t,s,x)=>(oU P t s x).bind fun v=> .ret (.val v)
   |none=> .fail
 | .builtin .copy=>match vB c.argTypes args.toList with
   |some (t,d,s)=>(oX P t d s).bind fun v=> .ret (.val v)
   |none=> .fail
 | .builtin .len=>match s9 P c.argTypes args.toList with
   |some n=> .ret (.val (.int .i64 n))
   |none=>gM P ρ o
 | .builtin .min| .builtin .max=>gM P ρ o
 |_=> .fail
def cx(P:Program)(ρ:Operand->Value)(o:Oper):M Nx:=
 match o.op with
 | .move x| .assign x=> .ret (.val (ρ x))
 | .pick c a b=>match ρ c with
   | .bool t=> .ret (.val (if t then ρ a else ρ b))
   |_=> .fail
 | .alloc e=>(mO P e).bind fun v=> .ret (.val v)
 | .box e x=>(mP P e (ρ x)).bind fun v=> .ret (.val v)
 | .build t d=>(mc P t (d.toList.map fun(i,x)=>(i,ρ x))).bind fun v=> .ret (.val v)
 | .buildSlice t len d=>(me P t len (d.toList.map fun(i,x)=>(i,ρ x))).bind fun v=> .ret (.val v)
 | .load t a=>(jq P t (ρ a)).bind fun v=> .ret (.val v)
 | .store t a x=>(nA P t (ρ a) (ρ x)).bind fun v=> .ret (.val v)
 | .nilCheck x=>(qc (ρ x)).bind fun v=> .ret (.val v)
 | .binOp j t x y _=>match oW P t (ρ x) (ρ y),j with
   |some v,.eql=> .ret (.val (.bool v))
   |some v,.neq=> .ret (.val (.bool (!v)))
   |none,_=>gM P ρ o
   |_,_=> .fail
 | .unOp _ _ _=>gM P ρ o
 | .convert src g x=>match qZ (P.underlying src) (P.underlying g)with
   |some e=>if mR P e then(mQ (ρ x)).bind fun v=> .ret (.val v)else .fail
   |none=>match s7 (P.underlying src) (P.underlying g) (ρ x)with
    |some (e,s)=>if mR P e&&size? P e==some 1 then(qd e s).bind fun v=> .ret (.val v)else .fail
    |none=>gM P ρ o
 | .makeFunc p a b=> .ret (.val (.func p (a.map ρ) (b.map ρ)))
 | .makeSlice t l c=>(mS P t (ρ l) (ρ c)).bind fun v=> .ret (.val v)
 | .slice t x m n k=>if isStr (ρ x)then gM P ρ o else(ny P t (ρ x) (m.map ρ) (n.map ρ) (k.map ρ)).bind fun v=> .ret (.val v)
 | .fieldAddr s x f=>(M.lift (vx P s (ρ x) f)).bind fun v=> .ret (.val v)
 | .field t x f=>(M.lift (re P t (ρ x) f)).bind fun v=> .ret (.val v)
 | .indexAddr t x h=>(M.lift (qe P t (ρ x) (ρ h))).bind fun v=> .ret (.val v)
 | .index t x h=>if isStr (ρ x)then gM P ρ o else(M.lift (vz P t (ρ x) (ρ h))).bind fun v=> .ret (.val v)
 | .extract t i=>(M.lift (rf (ρ t) i)).bind fun v=> .ret (.val v)
 | .call c=>kG P ρ o c (c.args.map ρ)
 |_=> .fail
def ev(s:S):Operand->Value
 | .tmp t=>s.get t
 | .const v=>v
 | .global g=> .pointer (some ⟨g,0,none⟩)
 | .func f=> .func (.func f) #[] #[]
def kH(nt:Nat)(s:S)(a:Option Tmp)(v:Value):Option S:=
 match a with
 |none=>some s
 |some d=>if d<nt&&d<1023 then some (s.put d v)else none
def gX(ops:Array Oper)(s:S)(j:Nat):Option Bool:=
 match (ops[j]?).bind (·.dst)with
 |some t=>match s.get t with
  | .bool b=>some b
  |_=>none
 |none=>none
def lR:List Oper->List Nat->List Nat
 |[],acc=>acc
 |o::r,acc=>lR r (acc++[o.after.toList.foldl (fun s e=>if oL .any e then s|||2^e.on|||acc.getD e.on 0 else s) 0])
structure Tk where
 n:Nat
 n1:Nat
 log:List En
def az{b:Type}(m:M b):M (b×Tk):=fun h n=>
 match m h n with
 |some ⟨a,d,c,L⟩=>some ⟨(a,⟨n,c,L⟩),d,c,L⟩
 |none=>none
def tagged:Nat->List Tk->List (Nat×Tk)
 |_,[]=>[]
 |i,t::r=>(i,t)::tagged (i+1) r
def En.meets(x y:En):Bool:=x.b==y.b&&(x.k==y.k||x.k.isNone||y.k.isNone)
def Tk.cy(a b:Tk):Bool:=
 (a.log.any fun x=>x.wr&&b.log.any fun y=>x.meets y)||(b.log.any fun x=>x.wr&&a.log.any fun y=>x.meets y)||
 (a.log.any fun x=>b.n<=x.b&&x.b<b.n1)||(b.log.any fun x=>a.n<=x.b&&x.b<a.n1)
def looks(ops:Array Oper)(o:Oper):List Tmp:=o.looksAt ops
def oY(ops:Array Oper)(x y:Oper):Bool:= !(x.apart ops y)
def oZ(ops:Array Oper)(a:List Nat):List (Nat×Tk)->Bool
 |[]=>true
 |(j,c)::r=>(r.all fun(k,b)=>(a.getD k 0).testBit j||(!(c.cy b)&& !(oY ops (ops.getD j default) (ops.getD k default))))&&oZ ops a r
def rh(ops:Array Oper):Bool:=ops.toList.zipIdx.all fun(o,i)=>o.after.all (fun e=> !Region.binds .any e||e.on<i)&& !(o.op matches .select ..)
inductive Ex where
 |normal|ret
 |exit (id:Nat)
section
variable (P:Program) (rec:FuncId->Array Value->M Value) (nt:Nat)
def fY(ops:Array Oper)(o:Oper)(s:S):M Value:=
 if gy o (gX ops s)then
  (cx P (ev s) o).bind fun
    | .val v=> .ret v
    | .call f args=>rec f args
 else .ret undef
def jg(ops:Array Oper):List Oper->S->M (S×List Tk)
 |[],s=> .ret (s,[])
 |o::r,s=>(az (inside (fY P rec ops o s))).bind fun x=>(M.lift (kH nt s o.dst x.1)).bind fun a=>(jg ops r a).bind fun y=> .ret (y.1,x.2::y.2)
def o0(ops:Array Oper)(a:Bool)(s:S):M S:=
 (jg P rec nt ops ops.toList s).bind fun y=>if !a||(rh ops&&oZ ops (lR ops.toList []) (tagged 0 y.2))then .ret y.1 else .fail
def dP:Nat->Code->S->M (Ex×S)
 |0,_,_=> .fail
 |f+1,c,s=>match c with
  | .skip| .label _=> .ret (.normal,s)
  | .region _ h g=>(o0 P rec nt h g s).bind fun d=> .ret (.normal,d)
  | .seq a b=>(dP f a s).bind fun
    |(.normal,d)=>dP f b d
    |(e,d)=> .ret (e,d)
  | .cond c a b=>match ev s c with
    | .bool t=>dP f (if t then a else b) s
    |_=> .fail
  | .block id c=>(dP f c s).bind fun
    |(.exit i,d)=>if i=id then .ret (.normal,d)else .ret (.exit i,d)
    |(e,d)=> .ret (e,d)
  | .loop c=>(dP f c s).bind fun
    |(.normal,d)=>dP f (.loop c) d
    |(e,d)=> .ret (e,d)
  | .exit id=> .ret (.exit id,s)
  | .ret=> .ret (.ret,s)
  |_=> .fail
end
def A0(P:Program):Operand->Bool
 | .const v=>clean v
 | .global g=>g<P.globals.size
 |_=>true
def vC(P:Program)(o:Oper):Bool:=o.op.operands.all (A0 P)
def lB(P:Program):Code->Bool
 | .region _ d _=>d.all (vC P)
 | .seq a b=>lB P a&&lB P b
 | .cond c a b=>A0 P c&&lB P a&&lB P b
 | .block _ c| .loop c=>lB P c
 |_=>true
def ri(P:Program):Bool:=P.funcs.all fun a=> !(a.name== "runtime.NumGoroutine")
def qf(P:Program)(a:List FuncId):Bool:=
 P.funcs.toList.zipIdx.all fun(b,i)=>a.contains i||(match b.body with|some c=>lB P c|none=>true)
def rj:Nat->List Value->S->S
 |_,[],s=>s
 |i,v::r,s=>rj (i+1) r (s.put i v)
def jr(P:Program)(s:S):List ResultVar->M (List Value)
 |[]=> .ret []
 | .tmp t::r=>(jr P s r).bind fun b=> .ret (s.get t::b)
 | .cell a t::r=>(jq P t (s.get a)).bind fun v=>(jr P s r).bind fun b=> .ret (v::b)
def rk(P:Program)(f:FuncId):Bool:=match P.funcs[f]? with
 |some a=>a.params.size==0
 |none=>false
def xM:Value->Value->Bool
 | .int k a,.int c b=>decide (k=c)&&decide (a=b)
 |_,_=>false
def nC(P:Program):List (Nat×Nat×Value)->M Unit
 |[]=> .ret ()
 |g::r=>(rd g.1 g.2.1).bind fun u=>if(decide (g.1<P.globals.size)&&xM u g.2.2)=true then nC P r else .fail
def M0:List (FuncId×Nat)->FuncId->Option Nat
 |[],_=>none
 |q::r,f=>match Nat.beq q.1 f with
  |true=>some q.2
  |false=>M0 r f
def rq(f:FuncId):Option Nat:=M0 NV f
def xN:List Value->Option (List Int)
 |[]=>some []
 | .int .u8 x::r=>match xN r with
   |some l=>some (x::l)
   |none=>none
 |_=>none
def M3(c:Int):Option (List Int)->M Value
 |some l=> .ret (.int .i64 (Lib.indexByte (Lib.bytesOf l) c.toNat.toUInt8))
 |none=> .fail
def FO(b off len:Nat)(c:Int):M Value:=(cR b off len).bind fun a=>M3 c (xN a)
def xO(s:ByteArray)(c:Int):M Value:=if(decide (0<=c)&&decide (c<=1000000)&&decide (s.size<=1000000))=true then .ret (.string ⟨(Lib.repeatL s.data.toList c.toNat).toArray⟩)else .fail
def FP:List Value->M Value
 |[.slice (some ⟨b,a,none⟩) len _,.int .u8 c]=>FO b a len c
 |_=> .fail
def FQ:List Value->M Value
 |[.string s,.int .i64 c]=>xO s c
 |_=> .fail
def FR(f:FuncId)(args:List Value):M Value:=if args.all scalar then M.lift (MW f args)else .fail
def FT(f:FuncId):List Value->M Value
 |[.slice none 0 0]=>M.lift (AX f 0 [])
 |[.slice (some ⟨b,a,none⟩) len _]=>(cR b a (len*MX f)).bind fun c=>if c.all scalar then M.lift (AX f len c)else .fail
 |_=> .fail
def ry(f:FuncId)(k:Nat)(args:List Value):M Value:=match k with
 |1=>FP args
 |2=>FQ args
 |3=>FR f args
 |4=>FT f args
 |_=> .fail
def cK(P:Program)(b:List FuncId):Nat->FuncId->Array Value->M Value
 |0,_,_=> .fail
 |fuel+1,f,args=>if b.contains f then(match rq f with
  |some k=>ry f k args.toList
  |none=>if(decide (args.size=0)&&rk P f)=true then(nC P KG).bind fun _=> .ret (.bool true)else .fail)else match P.funcs[f]? with
  |some a=>match a.body with
   |some c=>if args.size<=a.ntmps&&a.ntmps<1000 then
     inside ((dP P (cK P b fuel) a.ntmps fuel c (rj 0 args.toList .nil)).bind fun
      |(.normal,s)|(.ret,s)=>(jr P s a.results.toList).bind fun d=> .ret (match d with|[v]=>v|_=> .tuple d.toArray)
      |(.exit _,_)=> .fail)
    else .fail
   |none=> .fail
  |none=> .fail
theorem Tr.get_nil{a:Type}(f j:Nat):Tr.get f (.nil:Tr a) j=none:=by cases f<;>rfl
theorem Tr.js{m:Type}:∀(f:Nat) (t:Tr m) (i:Nat) (a:Option m) (j:Nat),i<2^f-1->Tr.get f (Tr.set f t i a) j=if j=i then a else Tr.get f t j:=by
 intro f
 induction f with
 |zero=>intro t i a j h;simp at h
 |succ f k=>
  intro t i a j n;have o:2^(f+1)=2*2^f:=by rw[mL];omega
  have p:1<=2^f:=Nat.one_le_two_pow;cases t with
  |nil=>
   unfold Tr.set;by_cases g:i=0
   ·subst g;simp only[if_true];unfold Tr.get;by_cases c:j=0
    ·simp[c]
    ·simp[c,Tr.get_nil]
   ·rw[if_neg g];by_cases d:i %2=1
    ·rw[if_pos d];simp only[Tr.get];by_cases c:j=0
     ·subst c;simp;omega
     ·rw[if_neg c];by_cases b:j %2=1
      ·rw[if_pos b,k _ _ _ _ jO];by_cases e:j=i
       ·subst e;simp
       ·rw[if_neg e,if_neg jO,Tr.get_nil]
      ·rw[if_neg b,Tr.get_nil,if_neg (by intro e;subst e;exact b d)]
    ·rw[if_neg d];simp only[Tr.get];by_cases c:j=0
     ·subst c;simp;omega
     ·rw[if_neg c];by_cases b:j %2=1
      ·rw[if_pos b,Tr.get_nil,if_neg (by intro e;subst e;exact d b)]
      ·rw[if_neg b,k _ _ _ _ jO];by_cases e:j=i
       ·subst e;simp
       ·rw[if_neg e,if_neg jO,Tr.get_nil]
  |node l v r=>
   unfold Tr.set;by_cases g:i=0
   ·subst g;simp only[if_true];unfold Tr.get;by_cases c:j=0
    ·simp[c]
    ·simp[c]
   ·rw[if_neg g];by_cases d:i %2=1
    ·rw[if_pos d];simp only[Tr.get];by_cases c:j=0
     ·subst c;simp;omega
     ·rw[if_neg c,if_neg c];by_cases b:j %2=1
      ·rw[if_pos b,if_pos b,k _ _ _ _ jO];by_cases e:j=i
       ·subst e;simp
       ·rw[if_neg e,if_neg jO]
      ·rw[if_neg b,if_neg b,if_neg (by intro e;subst e;exact b d)]
    ·rw[if_neg d];simp only[Tr.get];by_cases c:j=0
     ·subst c;simp;omega
     ·rw[if_neg c,if_neg c];by_cases b:j %2=1
      ·rw[if_pos b,if_pos b,if_neg (by intro e;subst e;exact d b)]
      ·rw[if_neg b,if_neg b,k _ _ _ _ jO];by_cases e:j=i
       ·subst e;simp
       ·rw[if_neg e,if_neg jO]
theorem Tr.M4{d:Type}:∀(f a:Nat) (t:Tr d) (i:Nat),i<2^f-1->i<2^a-1->Tr.get f t i=Tr.get a t i:=by
 intro f
 induction f with
 |zero=>intro a t i h;simp at h
 |succ f c=>
  intro a t i h e;cases a with
  |zero=>simp at e
  |succ a=>
   have j:2^(f+1)=2*2^f:=by rw[mL];omega
   have g:2^(a+1)=2*2^a:=by rw[mL];omega
   cases t with
   |nil=>rfl
   |node l v r=>
    unfold Tr.get;by_cases b:i=0
    ·rw[if_pos b,if_pos b]
    ·rw[if_neg b,if_neg b];split
     ·exact c a l _ jO jO
     ·exact c a r _ jO jO
theorem Tr.abt{e:Type}:∀(f b:Nat) (t:Tr e) (i:Nat) (a:Option e),i<2^f-1->i<2^b-1->Tr.set f t i a=Tr.set b t i a:=by
 intro f
 induction f with
 |zero=>intro b t i a h;simp at h
 |succ f d=>
  intro b t i a h g;cases b with
  |zero=>simp at g
  |succ b=>
   have k:2^(f+1)=2*2^f:=by rw[mL];omega
   have j:2^(b+1)=2*2^b:=by rw[mL];omega
   cases t with
   |nil=>
    unfold Tr.set;by_cases c:i=0
    ·rw[if_pos c,if_pos c]
    ·rw[if_neg c,if_neg c];split
     ·rw[d b _ _ a jO jO]
     ·rw[d b _ _ a jO jO]
   |node l v r=>
    unfold Tr.set;by_cases c:i=0
    ·rw[if_pos c,if_pos c]
    ·rw[if_neg c,if_neg c];split
     ·rw[d b _ _ a jO jO]
     ·rw[d b _ _ a jO jO]
theorem A1(i k:Nat):i<2^(i+1+k)-1:=by have a:i+1+k<2^(i+1+k):=Nat.lt_two_pow_self;omega
theorem H.js{h:H}{i:Nat}(x:Option AB)(j:Nat):(h.set i x).get j=if j=i then x else h.get j:=by unfold H.get H.set;have c:=A1 i (j+1);have d:=A1 j (i+1);have b:=A1 i 0;have a:=A1 j 0;have e:i+1+(j+1)=j+1+(i+1):=jO;rw[e]at c;rw[Tr.M4 (j+1) (j+1+(i+1)) _ _ a d,Tr.M4 (j+1) (j+1+(i+1)) h _ a d,Tr.abt (i+1) (j+1+(i+1)) _ _ _ b c];exact Tr.js _ _ _ _ _ c
def hd(B:AB):TypeId×Bool×Nat:=(B.elem,B.own,B.cells.length)
def H.hd(h:H)(b:Nat):Option (TypeId×Bool×Nat):=(h.get b).map Ev.hd
def H.cell(h:H)(b k:Nat):Option Value:=(h.get b).bind (·.cells[k]?)
def dK(h h':H)(b k:Nat):Prop:=h.hd b=h'.hd b∧h.cell b k=h'.cell b k
def j5(h h':H)(e:En):Prop:=match e.k with
 |none=>h.get e.b=h'.get e.b
 |some k=>dK h h' e.b k
def wrote(L:List En)(b k:Nat):Prop:=∃e∈L,e.wr=true∧e.b=b∧(e.k=none∨e.k=some k)
theorem dK.refl(h:H)(b k:Nat):dK h h b k:=⟨rfl,rfl⟩
theorem dK.symm{h h':H}{b k:Nat}(x:dK h h' b k):dK h' h b k:=⟨x.1.symm,x.2.symm⟩
theorem dK.trans{h h' a:H}{b k:Nat}(x:dK h h' b k)(y:dK h' a b k):dK h a b k:=⟨x.1.trans y.1,x.2.trans y.2⟩
theorem dK.mf{h h':H}{b:Nat}(k:Nat)(x:h.get b=h'.get b):dK h h' b k:=by unfold dK H.hd H.cell;rw[x];exact⟨rfl,rfl⟩
theorem A2{h h':H}{b:Nat}(x:∀k,dK h h' b k):h.get b=h'.get b:=by
 have c:=(x 0).1;unfold H.hd at c;cases d:h.get b with
 |none=>rw[d]at c;cases a:h'.get b with
  |none=>rfl
  |some B=>rw[a]at c;simp at c
 |some B=>
  rw[d]at c;cases a:h'.get b with
  |none=>rw[a]at c;simp at c
  |some e=>
   rw[a]at c;simp[Ev.hd]at c;obtain⟨j,i,g⟩:=c
   have f:B.cells=e.cells:=by apply List.ext_getElem?;intro k;have:=(x k).2;unfold H.cell at this;rw[d,a]at this;simpa using this
   cases B;cases e;simp_all
theorem j5.mf{h h':H}{e:En}(x:h.get e.b=h'.get e.b):j5 h h' e:=by
 unfold j5;split
 ·exact x
 ·exact dK.mf _ x
theorem j5.M5{h h':H}{e:En}(x:∀k,(e.k=none∨e.k=some k)->dK h h' e.b k):j5 h h' e:=by
 unfold j5;split
 ·rename_i a;exact A2 fun k=>x k (.inl a)
 ·rename_i k a;exact x k (.inr a)
theorem j5.at_{h h':H}{e:En}(x:j5 h h' e){k:Nat}(hk:e.k=none∨e.k=some k):dK h h' e.b k:=by
 unfold j5 at x;rcases hk with hk|hk
 ·rw[hk]at x;exact dK.mf k x
 ·rw[hk]at x;exact x
theorem M6{L L':List En}{b k:Nat}:wrote (L++L') b k↔wrote L b k∨wrote L' b k:=by
 unfold wrote;constructor
 ·rintro⟨e,c,a⟩;rcases List.mem_append.1 c with h|h
  ·exact .inl ⟨e,h,a⟩
  ·exact .inr ⟨e,h,a⟩
 ·rintro(⟨e,c,a⟩|⟨e,c,a⟩)
  ·exact⟨e,List.mem_append.2 (.inl c),a⟩
  ·exact⟨e,List.mem_append.2 (.inr c),a⟩
theorem M7{b k:Nat}:¬wrote [] b k:=by rintro⟨e,a,_⟩;cases a
structure xP {α:Type} (m:M α) (h:H) (n:Nat) (r:α) (h1:H) (n1:Nat) (L:List En):Prop where
 le:n<=n1
 lt:∀e∈L,e.b<n1
 frame:∀b k,¬wrote L b k->¬(n<=b∧b<n1)->dK h1 h b k
 xQ:∀h',(∀e∈L,¬(n<=e.b∧e.b<n1)->j5 h h' e)->∃M8,m h' n=some ⟨r,M8,n1,L⟩∧∀b k,(wrote L b k∨(n<=b∧b<n1))->dK M8 h1 b k
def Loc{c:Type}(m:M c):Prop:=∀h n r b a L,m h n=some ⟨r,b,a,L⟩->xP m h n r b a L
theorem Loc.ret{d:Type}(a:d):Loc (.ret a):=by
 intro h n r j i L c;simp only[M.ret,dH,Out.mk.injEq]at c;obtain⟨rfl,rfl,rfl,rfl⟩:=c
 exact⟨ah _,(fun e f=>nomatch f),fun b k _ _=>dK.refl _ _ _,fun g _=>⟨g,rfl,fun b k hw=>by
  rcases hw with hw|hw
  ·exact absurd hw M7
  ·omega⟩⟩
theorem Loc.fail{a:Type}:Loc (.fail:M a):=by intro h n r d c L b;cases b
theorem Loc.lift{b:Type}(o:Option b):Loc (.lift o):=by
 cases o with
 |none=>intro h n r e d L c;cases c
 |some a=>exact Loc.ret a
theorem Loc.bind{z Q:Type}{m:M z}{f:z->M Q}(G:Loc m)(N:∀a,Loc (f a)):Loc (m.bind f):=by
 intro h n r h2 n2 L o;unfold M.bind at o;split at o
 ·rename_i a O i v X;split at o
  ·rename_i c j g y W;simp only[dH,Out.mk.injEq]at o;obtain⟨rfl,rfl,rfl,rfl⟩:=o;have A:=G h n a O i v X;have B:=N a O i c j g y W;have J:=A.le;have I:=B.le;refine⟨jO,fun e q=> ?_,fun b k hw K=> ?_,fun P u=> ?_⟩
   ·rcases List.mem_append.1 q with h|h
    ·have:=A.lt e h;omega
    ·exact B.lt e h
   ·rw[M6]at hw;exact(B.frame b k (fun x=>hw (.inr x)) jO).trans (A.frame b k (fun x=>hw (.inl x)) jO)
   ·obtain⟨p,E,C⟩:=A.xQ P fun e q K=>u e (List.mem_append.2 (.inl q)) (by have:=A.lt e q;omega);have Z:=G P n a p i v E
    obtain⟨j,D,R⟩:=B.xQ p fun e q K=>by
     apply j5.M5;intro k U;by_cases hw:wrote v e.b k∨(n<=e.b∧e.b<i)
     ·exact(C e.b k hw).symm
     ·have t:¬wrote v e.b k:=fun x=>hw (.inl x);have d:¬(n<=e.b∧e.b<i):=fun x=>hw (.inr x);exact((A.frame e.b k t d).trans ((u e (List.mem_append.2 (.inr q)) jO).at_ U)).trans (Z.frame e.b k t d).symm
    have Y:=N a p i c j g y D;refine⟨j,by unfold M.bind;rw[E];simp only[D],fun b k hw=> ?_⟩;rw[M6]at hw;by_cases d:wrote y b k∨(i<=b∧b<g)
    ·exact R b k d
    ·have l:¬wrote y b k:=fun x=>d (.inl x);have s:¬(i<=b∧b<g):=fun x=>d (.inr x)
     have T:wrote v b k∨(n<=b∧b<i):=by
      rcases hw with (hw|hw)|hw
      ·exact .inl hw
      ·exact absurd hw l
      ·exact .inr jO
     exact((Y.frame b k l s).trans (C b k T)).trans (B.frame b k l s).symm
  ·cases o
 ·cases o
theorem Loc.ite{a:Type}{c:Prop} [Decidable c]{x y:M a}(d:Loc x)(b:Loc y):Loc (if c then x else y):=by
 by_cases h:c
 ·rw[if_pos h];exact d
 ·rw[if_neg h];exact b
theorem Loc.rd(b k:Nat):Loc (Ev.rd b k):=by
 intro h n r t s L a;unfold Ev.rd at a;split at a
 ·rename_i l;split at a
  ·rename_i B q;split at a
   ·rename_i v p;simp only[dH,Out.mk.injEq]at a;obtain⟨rfl,rfl,rfl,rfl⟩:=a
    have o:∀g f,¬wrote [(⟨false,b,some k⟩:En)] g f:=by rintro g f ⟨e,d,hw,_⟩;simp at d;subst d;cases hw
    refine⟨ah _,fun e d=>by simp at d;subst d;exact l,fun g f _ _=>dK.refl _ _ _,fun m j=>⟨m, ?_,fun g f hw=> ?_⟩⟩
    ·have:=j ⟨false,b,some k⟩ jS (by show¬(n<=b∧b<n);omega);unfold j5 dK at this;simp only[H.cell,q,Mm,p]at this;obtain⟨_,c⟩:=this;cases i:m.get b with
     |none=>rw[i]at c;simp at c
     |some u=>rw[i]at c;simp at c;unfold Ev.rd;rw[if_pos l,i];simp only[<-c]
    ·rcases hw with hw|hw
     ·exact absurd hw (o _ _)
     ·omega
   ·cases a
  ·cases a
 ·cases a
theorem xR{h:H}{b k:Nat}{B:AB}(c:h.get b=some B)(v:Value)(b' a:Nat):(h.set b (some {B with cells:=B.cells.set k v})).get b'=if b'=b then some {B with cells:=B.cells.set k v}else h.get b':=H.js _ _
theorem Loc.wr(b k:Nat)(v:Value):Loc (Ev.wr b k v):=by
 intro h n r G E L a;unfold Ev.wr at a;split at a
 ·rename_i y;split at a
  ·rename_i B m;split at a
   ·rename_i x;simp only[dH,Out.mk.injEq]at a;obtain⟨_,rfl,rfl,rfl⟩:=a;have j:=x;simp only[bZ,decide_eq_true_eq]at j;obtain⟨⟨t,D⟩,u⟩:=j;refine⟨ah _,fun e i=>by simp at i;rcases i with rfl|rfl<;>exact y,fun c d hw _=> ?_,fun z s=> ?_⟩
    ·unfold dK H.hd H.cell;rw[xR m v c d];by_cases e:c=b
     ·subst e;rw[if_pos rfl,m];have p:k≠d:=fun e=>hw ⟨⟨true,c,some k⟩,jS,rfl,rfl,.inr (by rw[e])⟩;simp[Ev.hd,anq p]
     ·rw[if_neg e];exact⟨rfl,rfl⟩
    ·have:=s ⟨false,b,some k⟩ jS (by show¬(n<=b∧b<n);omega);unfold j5 dK at this;simp only[H.hd,H.cell,m,AH,Mm]at this;obtain⟨f,C⟩:=this;cases l:z.get b with
     |none=>rw[l]at f;simp at f
     |some A=>
      rw[l]at f C;simp[Ev.hd]at f;obtain⟨q1,q2,o⟩:=f;refine⟨z.set b (some {A with cells:=A.cells.set k v}), ?_,fun c d hw=> ?_⟩
      ·unfold Ev.wr;rw[if_pos y,l];simp only;rw[if_pos (by rw[<-q2,<-o];exact x)]
      ·have q:c=b∧d=k:=by
        rcases hw with ⟨e,i,hw,rfl,g⟩|hw
        ·simp at i;rcases i with rfl|rfl
         ·cases hw
         ·simp at g;exact⟨rfl,g.symm⟩
        ·omega
       obtain⟨rfl,rfl⟩:=q;unfold dK H.hd H.cell;rw[xR m v c d,xR l v c d,if_pos rfl,if_pos rfl];refine⟨?_, ?_⟩
       ·simp[Ev.hd,q1,q2,o]
       ·simp[D,<-o]
   ·cases a
  ·cases a
 ·cases a
theorem Loc.cW(e:TypeId)(cs:List Value):Loc (Ev.cW e cs):=by
 intro h n r l i L a;unfold Ev.cW at a;split at a
 ·rename_i c;simp only[dH,Out.mk.injEq]at a;obtain⟨rfl,rfl,rfl,rfl⟩:=a;refine⟨jO,(fun e d=>nomatch d),fun b k _ j=> ?_,fun g _=>⟨g.set n (some ⟨e,true,cs⟩), ?_,fun b k hw=> ?_⟩⟩
  ·apply dK.mf;rw[H.js _ _,if_neg jO]
  ·unfold Ev.cW;rw[if_pos c]
  ·have f:b=n:=by
    rcases hw with hw|hw
    ·exact absurd hw M7
    ·omega
   subst f;apply dK.mf;rw[H.js _ _,H.js _ _];simp
 ·cases a
theorem Loc.whole(b:Nat):Loc (Ev.whole b):=by
 intro h n r m l L a;unfold Ev.whole at a;split at a
 ·rename_i f;split at a
  ·rename_i B i;simp only[dH,Out.mk.injEq]at a;obtain⟨rfl,rfl,rfl,rfl⟩:=a;refine⟨ah _,fun e c=>by simp at c;subst c;exact f,fun k g _ _=>dK.refl _ _ _,fun j d=>⟨j, ?_,fun k g hw=> ?_⟩⟩
   ·have:=d ⟨false,b,none⟩ jS (by show¬(n<=b∧b<n);omega);unfold j5 at this;simp only[i]at this;unfold Ev.whole;rw[if_pos f,<-this]
   ·rcases hw with ⟨e,c,hw,_⟩|hw
    ·simp at c;subst c;cases hw
    ·omega
  ·cases a
 ·cases a
theorem Loc.fw(b:Nat):Loc (Ev.fw b):=by
 intro h n r o m L a;unfold Ev.fw at a;split at a
 ·rename_i g;split at a
  ·rename_i B k;simp only[dH,Out.mk.injEq]at a;obtain⟨rfl,rfl,rfl,rfl⟩:=a;refine⟨ah _,fun e c=>by simp at c;subst c;exact g,fun l j _ _=>dK.refl _ _ _,fun i f=>⟨i, ?_,fun l j hw=> ?_⟩⟩
   ·have:=f ⟨false,b,some 1099511627776⟩ jS (by show¬(n<=b∧b<n);omega);unfold j5 dK at this;simp only[H.hd,k,AH]at this;cases d:i.get b with
    |none=>rw[d]at this;simp at this
    |some p=>rw[d]at this;simp[Ev.hd]at this;unfold Ev.fw;rw[if_pos g,d];simp only[<-this.1.1]
   ·rcases hw with ⟨e,c,hw,_⟩|hw
    ·simp at c;subst c;cases hw
    ·omega
  ·cases a
 ·cases a
theorem Loc.kill(b:Nat):Loc (Ev.kill b):=by
 intro h n r p o L a;unfold Ev.kill at a;split at a
 ·rename_i i;split at a
  ·rename_i B l;split at a
   ·rename_i k;simp only[dH,Out.mk.injEq]at a;obtain⟨_,rfl,rfl,rfl⟩:=a;refine⟨ah _,fun e c=>by simp at c;rcases c with rfl|rfl<;>exact i,fun g j hw _=> ?_,fun m f=>⟨m.set b none, ?_,fun g j hw=> ?_⟩⟩
    ·apply dK.mf;rw[H.js _ _,if_neg];rintro rfl;exact hw ⟨⟨true,g,none⟩,jS,rfl,rfl,.inl rfl⟩
    ·have:=f ⟨false,b,none⟩ jS (by show¬(n<=b∧b<n);omega);unfold j5 at this;simp only[l]at this;unfold Ev.kill;rw[if_pos i,<-this];simp only[k,if_true]
    ·have d:g=b:=by
      rcases hw with ⟨e,c,hw,rfl,_⟩|hw
      ·simp at c;rcases c with rfl|rfl<;>rfl
      ·omega
     subst d;apply dK.mf;rw[H.js _ _,H.js _ _];simp
   ·cases a
  ·cases a
 ·cases a
theorem Loc.cR(b:Nat):∀(n k:Nat),Loc (Ev.cR b k n):=by
 intro n
 induction n with
 |zero=>intro k;exact Loc.ret _
 |succ n a=>intro k;exact Loc.bind (Loc.rd _ _) fun v=>Loc.bind (a _) fun c=>Loc.ret _
theorem Loc.eQ(b:Nat):∀(vs:List Value) (k:Nat),Loc (Ev.eQ b k vs):=by
 intro vs
 induction vs with
 |nil=>intro k;exact Loc.ret _
 |cons v vs a=>intro k;exact Loc.bind (Loc.wr _ _ _) fun _=>a _
theorem M9{L:List En}{n c b k:Nat}(i:¬(n<=b∧b<c)):wrote (L.filter fun e=> !(n<=e.b&&e.b<c)) b k↔wrote L b k:=by
 unfold wrote;constructor
 ·rintro⟨e,a,f⟩;exact⟨e,(List.mem_filter.1 a).1,f⟩
 ·rintro⟨e,a,h,d,g⟩;refine⟨e,List.mem_filter.2 ⟨a, ?_⟩,h,d,g⟩;rw[d];simp;omega
theorem xP.filter {i:Type} {m j:M i} {h h1:H} {n c:Nat} {r:i} {L:List En} (A:xP m h n r h1 c L)
 (p:∀h' a,m h' n=some ⟨r,a,c,L⟩->j h' n=some ⟨r,a,c,L.filter fun e=> !(n<=e.b&&e.b<c)⟩):xP j h n r h1 c (L.filter fun e=> !(n<=e.b&&e.b<c)):=by
 refine⟨A.le,fun e f=>A.lt e (List.mem_filter.1 f).1,fun b k hw d=>A.frame b k (fun x=>hw ((M9 d).2 x)) d,fun h' g=> ?_⟩;obtain⟨a,o,l⟩:=A.xQ h' fun e f d=>g e (List.mem_filter.2 ⟨f,by simp;omega⟩) d;refine⟨a,p h' a o,fun b k hw=>l b k ?_⟩;by_cases d:n<=b∧b<c
 ·exact .inr d
 ·rcases hw with hw|hw
  ·exact .inl ((M9 d).1 hw)
  ·exact .inr hw
theorem Loc.inside{g:Type}{m:M g}(i:Loc m):Loc (Ev.inside m):=by
 intro h n r o l L b;unfold Ev.inside at b;split at b
 ·rename_i a d c k j;simp only[dH,Out.mk.injEq]at b;obtain⟨rfl,rfl,rfl,rfl⟩:=b;refine(i h n a d c k j).filter fun p f e=> ?_;unfold Ev.inside;rw[e]
 ·cases b
theorem Loc.az{f:Type}{m:M f}(j:Loc m):Loc (Ev.az m):=by
 intro h n r s q L b;unfold Ev.az at b;split at b
 ·rename_i a e c p o;simp only[dH,Out.mk.injEq]at b;obtain⟨rfl,rfl,rfl,rfl⟩:=b;have A:=j h n a e c p o;refine⟨A.le,A.lt,A.frame,fun l d=> ?_⟩;obtain⟨k,i,g⟩:=A.xQ l d;exact⟨k,by unfold Ev.az;rw[i],g⟩
 ·cases b
theorem Loc.kF(sz n:Nat)(x:Value):Loc (Ev.kF sz n x):=by
 unfold Ev.kF
 repeat' (first|exact Loc.ret _|exact Loc.fail|exact Loc.lift _|exact Loc.rd _ _|exact Loc.cR _ _ _|exact Loc.eQ _ _ _|exact Loc.whole _|exact Loc.kill _|exact Loc.cW _ _|refine Loc.bind ?_ fun _=> ?_|split)
theorem Loc.mN(e:TypeId)(l n:Nat)(old a:List Value):Loc (Ev.mN e l n old a):=by
 unfold Ev.mN
 repeat' (first|exact Loc.ret _|exact Loc.fail|exact Loc.lift _|exact Loc.cR _ _ _|exact Loc.eQ _ _ _|exact Loc.fw _|exact Loc.kill _|exact Loc.cW _ _|refine Loc.bind ?_ fun _=> ?_|split)
theorem Loc.sY(e:TypeId)(n sz b off l cap:Nat)(a:List Value):Loc (Ev.sY e n sz b off l cap a):=by
 unfold Ev.sY
 repeat' (first|exact Loc.ret _|exact Loc.fail|exact Loc.lift _|exact Loc.cR _ _ _|exact Loc.eQ _ _ _|exact Loc.fw _|exact Loc.kill _|exact Loc.cW _ _|exact Loc.mN _ _ _ _ _|refine Loc.bind ?_ fun _=> ?_|split)
theorem Loc.oU(P:Program)(t:TypeId)(s x:Value):Loc (Ev.oU P t s x):=by
 unfold Ev.oU
 repeat' (first|exact Loc.ret _|exact Loc.fail|exact Loc.lift _|exact Loc.cR _ _ _|exact Loc.eQ _ _ _|exact Loc.fw _|exact Loc.kill _|exact Loc.cW _ _|exact Loc.kF _ _ _|exact Loc.mN _ _ _ _ _|exact Loc.sY _ _ _ _ _ _ _ _|refine Loc.bind ?_ fun _=> ?_|split)
theorem Loc.oX(P:Program)(t:TypeId)(d s:Value):Loc (Ev.oX P t d s):=by
 unfold Ev.oX
 repeat' (first|exact Loc.ret _|exact Loc.fail|exact Loc.lift _|exact Loc.eQ _ _ _|exact Loc.kF _ _ _|refine Loc.bind ?_ fun _=> ?_|split)
theorem Loc.gM(P:Program)(ρ:Operand->Value)(o:Oper):Loc (Ev.gM P ρ o):=by
 unfold Ev.gM
 repeat' (first|exact Loc.ret _|exact Loc.fail|exact Loc.lift _|exact Loc.rd _ _|exact Loc.cR _ _ _|exact Loc.eQ _ _ _|exact Loc.whole _|exact Loc.kill _|exact Loc.cW _ _|refine Loc.bind ?_ fun _=> ?_|split)
theorem Loc.kG(P:Program)(ρ:Operand->Value)(o:Oper)(c:Call)(args:Array Value):Loc (Ev.kG P ρ o c args):=by
 unfold Ev.kG
 repeat' (first|exact Loc.ret _|exact Loc.fail|exact Loc.lift _|exact Loc.rd _ _|exact Loc.cR _ _ _|exact Loc.eQ _ _ _|exact Loc.whole _|exact Loc.kill _|exact Loc.cW _ _|exact Loc.oU _ _ _ _|exact Loc.oX _ _ _ _|exact Loc.gM _ _ _|refine Loc.bind ?_ fun _=> ?_|split)
theorem Loc.mO(P:Program)(e:TypeId):Loc (Ev.mO P e):=by
 unfold Ev.mO
 repeat' (first|exact Loc.ret _|exact Loc.fail|exact Loc.lift _|exact Loc.rd _ _|exact Loc.cR _ _ _|exact Loc.eQ _ _ _|exact Loc.whole _|exact Loc.kill _|exact Loc.cW _ _|refine Loc.bind ?_ fun _=> ?_|split)
theorem Loc.mP(P:Program)(e:TypeId)(v:Value):Loc (Ev.mP P e v):=by
 unfold Ev.mP
 repeat' (first|exact Loc.ret _|exact Loc.fail|exact Loc.lift _|exact Loc.rd _ _|exact Loc.cR _ _ _|exact Loc.eQ _ _ _|exact Loc.whole _|exact Loc.kill _|exact Loc.cW _ _|refine Loc.bind ?_ fun _=> ?_|split)
theorem Loc.mc(P:Program)(t:TypeId)(l:List (Nat×Value)):Loc (Ev.mc P t l):=by
 unfold Ev.mc
 repeat' (first|exact Loc.ret _|exact Loc.fail|exact Loc.lift _|exact Loc.rd _ _|exact Loc.cR _ _ _|exact Loc.eQ _ _ _|exact Loc.whole _|exact Loc.kill _|exact Loc.cW _ _|refine Loc.bind ?_ fun _=> ?_|split)
theorem Loc.me(P:Program)(t:TypeId)(n:Nat)(l:List (Nat×Value)):Loc (Ev.me P t n l):=by
 unfold Ev.me
 repeat' (first|exact Loc.ret _|exact Loc.fail|exact Loc.lift _|exact Loc.rd _ _|exact Loc.cR _ _ _|exact Loc.eQ _ _ _|exact Loc.whole _|exact Loc.kill _|exact Loc.cW _ _|refine Loc.bind ?_ fun _=> ?_|split)
theorem Loc.jq(P:Program)(t:TypeId)(v:Value):Loc (Ev.jq P t v):=by
 unfold Ev.jq
 repeat' (first|exact Loc.ret _|exact Loc.fail|exact Loc.lift _|exact Loc.rd _ _|exact Loc.cR _ _ _|exact Loc.eQ _ _ _|exact Loc.whole _|exact Loc.kill _|exact Loc.cW _ _|refine Loc.bind ?_ fun _=> ?_|split)
theorem Loc.nA(P:Program)(t:TypeId)(a v:Value):Loc (Ev.nA P t a v):=by
 unfold Ev.nA
 repeat' (first|exact Loc.ret _|exact Loc.fail|exact Loc.lift _|exact Loc.rd _ _|exact Loc.cR _ _ _|exact Loc.eQ _ _ _|exact Loc.whole _|exact Loc.kill _|exact Loc.cW _ _|refine Loc.bind ?_ fun _=> ?_|split)
theorem Loc.qc(v:Value):Loc (Ev.qc v):=by
 unfold Ev.qc
 repeat' (first|exact Loc.ret _|exact Loc.fail|exact Loc.lift _|exact Loc.rd _ _|exact Loc.cR _ _ _|exact Loc.eQ _ _ _|exact Loc.whole _|exact Loc.kill _|exact Loc.cW _ _|refine Loc.bind ?_ fun _=> ?_|split)
theorem Loc.mQ(v:Value):Loc (Ev.mQ v):=by
 unfold Ev.mQ
 repeat' (first|exact Loc.ret _|exact Loc.fail|exact Loc.lift _|exact Loc.rd _ _|exact Loc.cR _ _ _|exact Loc.eQ _ _ _|exact Loc.whole _|exact Loc.kill _|exact Loc.cW _ _|refine Loc.bind ?_ fun _=> ?_|split)
theorem Loc.qd(e:TypeId)(s:ByteArray):Loc (Ev.qd e s):=by
 unfold Ev.qd
 repeat' (first|exact Loc.ret _|exact Loc.fail|exact Loc.lift _|exact Loc.rd _ _|exact Loc.cR _ _ _|exact Loc.eQ _ _ _|exact Loc.whole _|exact Loc.kill _|exact Loc.cW _ _|refine Loc.bind ?_ fun _=> ?_|split)
theorem Loc.mS(P:Program)(t:TypeId)(l c:Value):Loc (Ev.mS P t l c):=by
 unfold Ev.mS
 repeat' (first|exact Loc.ret _|exact Loc.fail|exact Loc.lift _|exact Loc.rd _ _|exact Loc.cR _ _ _|exact Loc.eQ _ _ _|exact Loc.whole _|exact Loc.kill _|exact Loc.cW _ _|refine Loc.bind ?_ fun _=> ?_|split)
theorem Loc.ny(P:Program)(t:TypeId)(x:Value)(a b c:Option Value):Loc (Ev.ny P t x a b c):=by
 unfold Ev.ny
 repeat' (first|exact Loc.fail|exact Loc.lift _|exact Loc.fw _|refine Loc.bind ?_ fun _=> ?_|split)
theorem Loc.cx(P:Program)(ρ:Operand->Value)(o:Oper):Loc (Ev.cx P ρ o):=by
 unfold Ev.cx
 repeat' (first|exact Loc.ret _|exact Loc.fail|exact Loc.lift _|exact Loc.rd _ _|exact Loc.cR _ _ _|exact Loc.eQ _ _ _|exact Loc.whole _|exact Loc.kill _|exact Loc.cW _ _|exact Loc.gM _ _ _|exact Loc.ny _ _ _ _ _ _|exact Loc.kG _ _ _ _ _|exact Loc.mO _ _|exact Loc.mP _ _ _|exact Loc.mc _ _ _|exact Loc.me _ _ _ _|exact Loc.jq _ _ _|exact Loc.nA _ _ _ _|exact Loc.qc _|exact Loc.mQ _|exact Loc.qd _ _|exact Loc.mS _ _ _ _|refine Loc.bind ?_ fun _=> ?_|split)
section
variable {P:Program} {rec:FuncId->Array Value->M Value} {nt:Nat}
theorem Loc.fY(b:∀f a,Loc (rec f a))(ops:Array Oper)(o:Oper)(s:S):Loc (Ev.fY P rec ops o s):=by
 unfold Ev.fY
 repeat' (first|exact Loc.ret _|exact Loc.fail|exact Loc.lift _|exact Loc.cx _ _ _|exact b _ _|refine Loc.bind ?_ fun _=> ?_|split)
theorem Loc.jg(b:∀f a,Loc (rec f a))(ops:Array Oper):∀(l:List Oper) (s:S),Loc (Ev.jg P rec nt ops l s):=by
 intro l
 induction l with
 |nil=>intro s;exact Loc.ret _
 |cons o r c=>intro s;exact Loc.bind (Loc.az (Loc.inside (Loc.fY b _ _ _))) fun x=>Loc.bind (Loc.lift _) fun d=>Loc.bind (c _) fun y=>Loc.ret _
theorem Loc.o0(b:∀f a,Loc (rec f a))(ops:Array Oper)(c:Bool)(s:S):Loc (Ev.o0 P rec nt ops c s):=
 Loc.bind (Loc.jg b _ _ _) fun y=>Loc.ite (Loc.ret _) Loc.fail
theorem Loc.dP(b:∀f a,Loc (rec f a)):∀(fuel:Nat) (c:Code) (s:S),Loc (Ev.dP P rec nt fuel c s):=by
 intro fuel
 induction fuel with
 |zero=>intro c s;exact Loc.fail
 |succ f d=>intro c s;cases c<;>unfold Ev.dP<;>simp only;all_goals repeat' (first|exact Loc.ret _|exact Loc.fail|exact d _ _|exact Loc.o0 b _ _ _|refine Loc.bind ?_ fun _=> ?_|split)
end
theorem Loc.jr(P:Program)(s:S):∀l,Loc (Ev.jr P s l):=by
 intro l
 induction l with
 |nil=>exact Loc.ret _
 |cons r l a=>
  cases r<;>unfold Ev.jr
  ·exact Loc.bind a fun _=>Loc.ret _
  ·exact Loc.bind (Loc.jq _ _ _) fun _=>Loc.bind a fun _=>Loc.ret _
theorem Loc.nC(P:Program):∀l,Loc (Ev.nC P l):=by
 intro l
 induction l with
 |nil=>exact Loc.ret _
 |cons g l a=>
  unfold Ev.nC;refine Loc.bind (Loc.rd _ _) fun u=> ?_;split
  ·exact a
  ·exact Loc.fail
theorem Loc.ry(f:FuncId)(k:Nat)(args:List Value):Loc (Ev.ry f k args):=by
 unfold Ev.ry;split
 ·unfold Ev.FP;split
  ·unfold Ev.FO;refine Loc.bind (Loc.cR _ _ _) fun a=> ?_;unfold Ev.M3;split
   ·exact Loc.ret _
   ·exact Loc.fail
  ·exact Loc.fail
 ·unfold Ev.FQ;split
  ·unfold Ev.xO;split
   ·exact Loc.ret _
   ·exact Loc.fail
  ·exact Loc.fail
 ·unfold Ev.FR;split
  ·exact Loc.lift _
  ·exact Loc.fail
 ·unfold Ev.FT;split
  ·exact Loc.lift _
  ·refine Loc.bind (Loc.cR _ _ _) fun a=> ?_;split
   ·exact Loc.lift _
   ·exact Loc.fail
  ·exact Loc.fail
 ·exact Loc.fail
theorem Loc.cK(P:Program)(b:List FuncId):∀(fuel:Nat) (f:FuncId) (args:Array Value),Loc (Ev.cK P b fuel f args):=by
 intro fuel
 induction fuel with
 |zero=>intro f a;exact Loc.fail
 |succ fuel c=>
  intro f args;unfold Ev.cK
  repeat' (first|exact Loc.ret _|exact Loc.fail|exact Loc.nC _ _|exact Loc.ry _ _ _|exact Loc.dP c _ _ _|exact Loc.jr _ _ _|refine Loc.inside ?_|refine Loc.bind ?_ fun _=> ?_|split)
end Go.Proofs.YtmjolmggelkjlaaGreat.Ev
namespace Go.Proofs.YtmjolmggelkjlaaGreat.Ev
open Go Go.RowKit
theorem bind_some{g e:Type}{m:M g}{f:g->M e}{h:H}{n:Nat}{c:e}{h2:H}{n2:Nat}{L:List En}(b:(m.bind f) h n=some ⟨c,h2,n2,L⟩):
 ∃a h1 d L1 L2,m h n=some ⟨a,h1,d,L1⟩∧f a h1 d=some ⟨c,h2,n2,L2⟩∧L=L1++L2:=by
 unfold M.bind at b;split at b
 ·rename_i a h1 d L1 l;split at b
  ·rename_i o j i L2 k;simp only[dH,Out.mk.injEq]at b;obtain⟨rfl,rfl,rfl,rfl⟩:=b;exact⟨a,h1,d,L1,L2,l,k,rfl⟩
  ·cases b
 ·cases b
theorem bM{d:Type}{a c:d}{h h2:H}{n n2:Nat}{L:List En}(b:(M.ret a) h n=some ⟨c,h2,n2,L⟩):c=a∧h2=h∧n2=n:=by simp only[M.ret,dH,Out.mk.injEq]at b;exact⟨b.1.symm,b.2.1.symm,b.2.2.1.symm⟩
theorem mg{d:Type}{o:Option d}{c:d}{h h2:H}{n n2:Nat}{L:List En}(b:(M.lift o) h n=some ⟨c,h2,n2,L⟩):o=some c∧h2=h∧n2=n:=by
 unfold M.lift at b;cases o with
 |none=>cases b
 |some a=>simp only[dH,Out.mk.injEq]at b;exact⟨by rw[b.1],b.2.1.symm,b.2.2.1.symm⟩
structure Ds where
 bf:Nat
 sh:Nat
 tot:Nat
 esz:Nat
 el:TypeId
abbrev Mp:=Nat->Option Ds
mutual
inductive VR (m:Mp):Value->Value->Prop
 |bool (b:Bool):VR m (.bool b) (.bool b)
 |int (k:IntKind) (n:Int):VR m (.int k n) (.int k n)
 |float (k:FloatKind) (n:Nat):VR m (.float k n) (.float k n)
 |string (s:ByteArray):VR m (.string s) (.string s)
 |xS:VR m (.pointer none) (.pointer none)
 |ptr {b off:Nat} {d:Ds} (h:m b=some d):VR m (.pointer (some ⟨b,off,none⟩)) (.pointer (some ⟨d.bf,d.sh+off,none⟩))
 |mh (n c:Nat) (hc:n<=c∧c<bo):VR m (.slice none n c) (.slice none n c)
 |gB {b off n cap xT o':Nat} {d:Ds} (h:m b=some d) (ho:0<n∨cap<bo->o'=d.sh+off) (h1:cap<bo->xT=cap) (h2:bo<=cap->bo+n<=cap∧cap<=bo+xT) (hn:n<=xT) (ht:o'+xT*d.esz<=d.tot):
   VR m (.slice (some ⟨b,off,none⟩) n cap) (.slice (some ⟨d.bf,o',none⟩) n xT)
 |o4 (b off s:Nat) (a':Addr):VR m (.slice (some ⟨b,off,some s⟩) 0 0) (.slice (some a') 0 0)
 |func (fn:Fn) {f c f' c':Array Value} (h1:bu m f.toList f'.toList) (h2:bu m c.toList c'.toList):VR m (.func fn f c) (.func fn f' c')
 |nilFunc:VR m .nilFunc .nilFunc
 |agg {cs cs':Array Value} (h:bu m cs.toList cs'.toList):VR m (.agg cs) (.agg cs')
 |tuple {cs cs':Array Value} (h:bu m cs.toList cs'.toList):VR m (.tuple cs) (.tuple cs')
inductive bu (m:Mp):List Value->List Value->Prop
 |nil:bu m [] []
 |cons {v v':Value} {l l':List Value} (h:VR m v v') (t:bu m l l'):bu m (v::l) (v'::l')
end
def Le(m a:Mp):Prop:=∀b d,m b=some d->a b=some d
theorem Le.refl(m:Mp):Le m m:=fun _ _ h=>h
theorem Le.trans{a b c:Mp}(h:Le a b)(k:Le b c):Le a c:=fun x d e=>k x d (h x d e)
mutual
theorem VR.mono{m i:Mp}(a:Le m i):∀{v g:Value},VR m v g->VR i v g
 |_,_,.bool b=> .bool b
 |_,_,.int k n=> .int k n
 |_,_,.float k n=> .float k n
 |_,_,.string s=> .string s
 |_,_,.xS=> .xS
 |_,_,.ptr h=> .ptr (a _ _ h)
 |_,_,.mh n c p=> .mh n c p
 |_,_,.gB h l f e o j=> .gB (a _ _ h) l f e o j
 |_,_,.o4 b d s r=> .o4 b d s r
 |_,_,.func q f e=> .func q (bu.mono a f) (bu.mono a e)
 |_,_,.nilFunc=> .nilFunc
 |_,_,.agg h=> .agg (bu.mono a h)
 |_,_,.tuple h=> .tuple (bu.mono a h)
theorem bu.mono{m a:Mp}(c:Le m a):∀{l b:List Value},bu m l b->bu a l b
 |_,_,.nil=> .nil
 |_,_,.cons h t=> .cons (VR.mono c h) (bu.mono c t)
end
theorem bu.length{m:Mp}:∀{l a:List Value},bu m l a->l.length=a.length
 |_,_,.nil=>rfl
 |_,_,.cons _ t=>by simp[bu.length t]
theorem bu.get{m:Mp}:∀{l c:List Value},bu m l c->∀(k:Nat) (v:Value),l[k]? =some v->∃b,c[k]? =some b∧VR m v b
 |_,_,.nil,k,v,h=>by simp at h
 |_,_,.cons h t,k,v,a=>by
  cases k with
  |zero=>simp at a;subst a;exact⟨_,rfl,h⟩
  |succ k=>simp at a;simpa using bu.get t k v a
theorem bu.mf{m:Mp}:∀{l a:List Value},l.length=a.length->(∀(k:Nat) (v:Value),l[k]? =some v->∃b,a[k]? =some b∧VR m v b)->bu m l a
 |[],[],_,_=> .nil
 |v::l,b::a,e,h=>by obtain⟨u,c,d⟩:=h 0 v rfl;simp at c;subst c;exact .cons d (bu.mf (by simpa using e) fun k x f=>by simpa using h (k+1) x (by simpa using f))
theorem bu.append{m:Mp}:∀{a c b b':List Value},bu m a c->bu m b b'->bu m (a++b) (c++b')
 |_,_,_,_,.nil,k=>k
 |_,_,_,_,.cons h t,k=> .cons h (bu.append t k)
theorem bu.set{m:Mp}:∀{a c:List Value} (k:Nat) {v b:Value},bu m a c->VR m v b->bu m (a.set k v) (c.set k b)
 |_,_,_,_,_,.nil,_=> .nil
 |_,_,0,_,_,.cons _ t,h=> .cons h t
 |_,_,k+1,_,_,.cons u t,h=> .cons u (bu.set k t h)
theorem bu.map{m:Mp}{a:Type}{f g:a->Value}:∀(l:List a),(∀x,VR m (f x) (g x))->bu m (l.map f) (l.map g)
 |[],_=> .nil
 |x::l,h=> .cons (h x) (bu.map l h)
theorem VR.scalar{m:Mp}{v a:Value}(h:VR m v a)(b:Ev.scalar v=true):a=v:=by cases h<;>first|rfl|cases b
theorem VR.self{m:Mp}{v:Value}(a:Ev.scalar v=true):VR m v v:=by cases v<;>first|exact .bool _|exact .int _ _|exact .string _|cases a
theorem VR.one{m:Mp}{v a:Value}(h:VR m v a):Ev.one a=Ev.one v:=by cases h<;>rfl
theorem VR.cells{m:Mp}{v f:Value}(h:VR m v f):bu m v.cells.toList f.cells.toList:=by
 cases h with
 |agg h=>exact h
 |bool b=>exact .cons (.bool b) .nil
 |int k n=>exact .cons (.int k n) .nil
 |float k n=>exact .cons (.float k n) .nil
 |string s=>exact .cons (.string s) .nil
 |xS=>exact .cons .xS .nil
 |ptr h=>exact .cons (.ptr h) .nil
 |mh n c l=>exact .cons (.mh n c l) .nil
 |gB h i e d j g=>exact .cons (.gB h i e d j g) .nil
 |o4 b a s p=>exact .cons (.o4 b a s p) .nil
 |func o e d=>exact .cons (.func o e d) .nil
 |nilFunc=>exact .cons .nilFunc .nil
 |tuple h=>exact .cons (.tuple h) .nil
theorem VR.undef{m:Mp}:VR m anr anr:= .tuple .nil
theorem VR.FU{m:Mp}{v a:Value}(h:VR m v a):v.cells.size=a.cells.size:=by have:=h.cells.length;simpa using this
structure WR (P:Program) (m:Mp) (base:Nat) (h:H) (hp:Array Obj):Prop where
 live:∀b B,h.get b=some B->∃d cs lo hi,m b=some d∧hp[d.bf]? =some (.cells cs d.el (lo,hi))∧cs.size=d.tot∧d.sh+B.cells.length<=d.tot∧
  size? P B.elem=some d.esz∧(B.own=true->d.el=B.elem∧base<=d.bf∧∀k,k<d.tot->¬(lo<=k∧k<hi))∧∀k v,B.cells[k]? =some v->∃v',cs[d.sh+k]? =some v'∧VR m v v'
 inj:∀b b' B B' d d',h.get b=some B->h.get b'=some B'->(B.own=true∨B'.own=true)->m b=some d->m b'=some d'->d.bf=d'.bf->b=b'
theorem WR.mf{P:Program}{m:Mp}{base:Nat}{h h':H}{f:Array Obj}(x:WR P m base h f)(e:∀b,h'.get b=h.get b):WR P m base h' f:=
 ⟨fun b B c=>x.live b B (by rw[<-e];exact c),fun b i B j d g c a=>x.inj b i B j d g (by rw[<-e];exact c) (by rw[<-e];exact a)⟩
theorem WR.lt{P:Program}{m:Mp}{base:Nat}{h:H}{a:Array Obj}(x:WR P m base h a){b:Nat}{B:AB}(f:h.get b=some B):∃d,m b=some d∧d.bf<a.size:=by obtain⟨d,j,g,i,c,e,_⟩:=x.live b B f;exact⟨d,c,(Array.getElem?_eq_some_iff.1 e).1⟩
structure cL (P:Program) (m:Mp) (base n n1:Nat) (w:World) (h1:H) (m':Mp) (w':World):Prop where
 le:Le m m'
 out:∀b,¬(n<=b∧b<n1)->m' b=m b
 wr:WR P m' base h1 w'.heap
 below:Below base w w'
theorem cL.refl{P:Program}{m:Mp}{base n:Nat}{w:World}{h:H}(x:WR P m base h w.heap):cL P m base n n w h m w:=
 ⟨Le.refl _,fun _ _=>rfl,x,qS _ _⟩
theorem cL.trans{P:Program}{m e c:Mp}{base n d n2:Nat}{w w' a:World}{h1 h2:H}(g:n<=d)(f:d<=n2)(x:cL P m base n d w h1 e w')(y:cL P e base d n2 w' h2 c a):cL P m base n n2 w h2 c a:=
 ⟨x.le.trans y.le,fun b h=>(y.out b jO).trans (x.out b jO),y.wr,x.below.trans y.below⟩
def iQ(m:Mp)(n a:Nat):Prop:=∀b,n<=b->b<a->m b=none
theorem iQ.after{P:Program}{m c:Mp}{base n a n2:Nat}{w w':World}{h1:H}(f:iQ m n n2)(e:n<=a)(x:cL P m base n a w h1 c w'):iQ c a n2:=
 fun b h1 d=>by rw[x.out b jO];exact f b jO d
theorem iQ.first{m:Mp}{n a n2:Nat}(f:iQ m n n2)(h:a<=n2):iQ m n a:=fun b c d=>f b c jO
theorem lC(b o i:Nat):(⟨b,o,none⟩:Addr).add i=⟨b,o+i,none⟩:=by
 unfold Addr.add;split
 ·rename_i h;subst h;rfl
 ·rfl
theorem vD(w:World)(c o:Nat){cs:Array Value}{e:TypeId}{f:Nat×Nat}(h:w.heap[c]? =some (.cells cs e f)):w.cell? ⟨c,o,none⟩=cs[o]? :=by unfold World.cell?;simp[h]
theorem A3{P:Program}{m:Mp}{base:Nat}{h h1:H}{w:World}{b k n f:Nat}{v:Value}{L:List En}(x:WR P m base h w.heap)(a:rd b k h n=some ⟨v,h1,f,L⟩):
 h1=h∧f=n∧∃d c,m b=some d∧w.cell? ⟨d.bf,d.sh+k,none⟩=some c∧VR m v c:=by
 unfold rd at a;split at a
 ·split at a
  ·rename_i B o;split at a
   ·rename_i u g;simp only[dH,Out.mk.injEq]at a;obtain⟨rfl,rfl,rfl,_⟩:=a;obtain⟨d,r,p,q,i,j,_,_,_,_,l⟩:=x.live b B o;obtain⟨c,e,a⟩:=l k u g;exact⟨rfl,rfl,d,c,i,by rw[vD w _ _ j];exact e,a⟩
   ·cases a
  ·cases a
 ·cases a
theorem rz{P:Program}{m:Mp}{base:Nat}{h:H}{w:World}{b n:Nat}(x:WR P m base h w.heap){d:Ds}(hd:m b=some d):∀{c k f:Nat} {vs:List Value} {h1:H} {L:List En},cR b k c h n=some ⟨vs,h1,f,L⟩->
 h1=h∧f=n∧vs.length=c∧∃a,bu m vs a∧∀j v,a[j]? =some v->w.cell? ⟨d.bf,d.sh+k+j,none⟩=some v:=by
 intro c
 induction c with
 |zero=>intro k f vs h1 L g;simp only[cR,M.ret,dH,Out.mk.injEq]at g;obtain⟨rfl,rfl,rfl,_⟩:=g;exact⟨rfl,rfl,rfl,[],.nil,fun j v l=>by simp at l⟩
 |succ c r=>
  intro k f vs h1 L g;obtain⟨v,I,E,Q,O,B,A,_⟩:=bind_some (m:=rd b k) g;obtain⟨rfl,rfl,J,q,e,t,l⟩:=A3 x B;rw[hd]at e;cases e;obtain⟨C,G,D,N,K,z,y,_⟩:=bind_some (m:=cR b (k+1) c) A;obtain⟨rfl,rfl,s,a,i,p⟩:=r z;obtain⟨rfl,rfl,rfl⟩:=bM y;refine⟨rfl,rfl,by simp[s],q::a,.cons l i,fun j u o=> ?_⟩;cases j with
  |zero=>simp at o;subst o;exact t
  |succ j=>have:=p j u (by simpa using o);rw[show d.sh+k+(j+1)=d.sh+(k+1)+j by omega];exact this
theorem vE{P:Program}{w:World}{c o:Nat}{vs:List Value}(h:∀j v,vs[j]? =some v->w.cell? ⟨c,o+j,none⟩=some v):(loadCells ⟨c,o,none⟩ vs.length).run P w= .ok vs.toArray w:=by have:=run_loadCells_list (P:=P) (w:=w) ⟨c,o,none⟩ vs (fun j v a=>by rw[lC];exact h j v a);simpa using this
theorem M'{P:Program}{m:Mp}{base:Nat}{h h1:H}{w:World}{b n c:Nat}{e:TypeId}{L:List En}(x:WR P m base h w.heap)(a:fw b h n=some ⟨e,h1,c,L⟩):
 h1=h∧c=n∧∃d,m b=some d∧size? P e=some d.esz∧∃B,h.get b=some B∧B.elem=e:=by
 unfold fw at a;split at a
 ·split at a
  ·rename_i B f;simp only[dH,Out.mk.injEq]at a;obtain⟨rfl,rfl,rfl,_⟩:=a;obtain⟨d,l,j,k,i,_,_,_,g,_⟩:=x.live b B f;exact⟨rfl,rfl,d,i,g,B,f,rfl⟩
  ·cases a
 ·cases a
theorem getElem?_modify_ne{b:Type}(a:Array b)(f:b->b){i j:Nat}(h:i≠j):(a.modify i f)[j]? =a[j]? :=by rw[Fk,if_neg h]
theorem abu{P:Program}{m:Mp}{base:Nat}{h h1:H}{w:World}{b k n n1:Nat}{v p:Value}{L:List En}(x:WR P m base h w.heap)(f:wr b k v h n=some ⟨(),h1,n1,L⟩)(hv:VR m v p){d:Ds}(hd:m b=some d):
 n1=n∧(w.cell? ⟨d.bf,d.sh+k,none⟩).isSome=true∧w.frozen? ⟨d.bf,d.sh+k,none⟩=false∧Ev.one p=true∧base<=d.bf∧WR P m base h1 (w.setCell ⟨d.bf,d.sh+k,none⟩ p).heap:=by
 unfold wr at f;split at f
 ·split at f
  ·rename_i B E;split at f
   ·rename_i J;simp only[bZ,decide_eq_true_eq]at J;obtain⟨⟨l,hk⟩,s⟩:=J;simp only[dH,Out.mk.injEq]at f;obtain⟨_,rfl,rfl,_⟩:=f;obtain⟨d0,cs,lo,hi,hm,X,Q,z,D,ho,J⟩:=x.live b B E;rw[hd]at hm;cases hm;obtain⟨Y,i,A⟩:=ho l;have y:d.sh+k<cs.size:=jO
    have nD:(w.setCell ⟨d.bf,d.sh+k,none⟩ p).heap[d.bf]? =some (.cells (cs.setIfInBounds (d.sh+k) p) d.el (lo,hi)):=by simp only[World.setCell,Fk,if_true,X];simp
    refine⟨rfl,by rw[vD w _ _ X];simp[y], ?_,by rw[hv.one];exact s,i, ?_⟩
    ·unfold World.frozen?;simp only[X];have:=A (d.sh+k) jO;simp only[Bool.and_eq_false_iff,decide_eq_false_iff_not];omega
    ·constructor
     ·intro o K a;rw[xR E v o 0]at a;by_cases e:o=b
      ·subst e;rw[if_pos rfl]at a;cases a;refine⟨d,_,lo,hi,hd,nD,by simpa using Q,by simpa using z,D,fun _=>⟨Y,i,A⟩,fun j u I=> ?_⟩;by_cases e2:k=j
       ·subst e2;simp[hk]at I;subst I;exact⟨p,by simp[y],hv⟩
       ·rw[anq e2]at I;obtain⟨u',O,f⟩:=J j u I;exact⟨u',by rw[aaN jO];exact O,f⟩
      ·rw[if_neg e]at a;obtain⟨G,u0,N,U,t,W,r⟩:=x.live o K a;have T:d.bf≠G.bf:=fun e3=>e (x.inj o b K B G d a E (.inr l) t hd e3.symm);refine⟨G,u0,N,U,t, ?_,r⟩;rw[Below.heap_setCell w _ _ _ (Ne.symm T)];exact W
     ·intro o b3 K B3 G d3 a Z R
      have q:∀c C,(h.set b (some {B with cells:=B.cells.set k v})).get c=some C->∃C',h.get c=some C'∧C'.own=C.own:=by
       intro c C g;rw[xR E v c 0]at g;by_cases e:c=b
       ·subst e;rw[if_pos rfl]at g;cases g;exact⟨B,E,rfl⟩
       ·rw[if_neg e]at g;exact⟨C,g,rfl⟩
      obtain⟨C2,h2,g2⟩:=q o K a;obtain⟨C3,h3,g3⟩:=q b3 B3 Z;exact x.inj o b3 C2 C3 G d3 h2 h3 (by rw[g2,g3];exact R)
   ·cases f
  ·cases f
 ·cases f
theorem Na{P:Program}{a:Type}{w:World}{p:Addr}{v:Value}{k:Sem a}(h1:(w.cell? p).isSome=true)(h2:w.frozen? p=false)(c:Ev.one v=true):(Sem.store .plain p v k).run P w=k.run P (w.setCell p v):=by obtain⟨u,b⟩:=Option.isSome_iff_exists.1 h1;cases v<;>first|(simp[Ev.one]at c;done)|simp[AJ,b,h2]
theorem FV{P:Program}{m:Mp}{base:Nat}{b:Nat}{d:Ds}(hd:m b=some d):∀{vs a:List Value} (_:bu m vs a) {k i n c:Nat} {h h1:H} {w:World} {L:List En} (o:Nat),o+i=d.sh+k->WR P m base h w.heap->eQ b k vs h n=some ⟨(),h1,c,L⟩->
 c=n∧∃w',(storeCells ⟨d.bf,o,none⟩ a i).run P w= .ok () w'∧WR P m base h1 w'.heap∧Below base w w':=by
 intro vs a g
 induction g using bu.rec (motive_1:=fun _ _ _=>True)with
 |nil=>intro k i n c h h1 w L o _ x e;simp only[eQ,M.ret,dH,Out.mk.injEq]at e;obtain⟨_,rfl,rfl,_⟩:=e;exact⟨rfl,w,rfl,x,qS _ _⟩
 |cons s _ _ r=>intro k i n c h h1 w L o t x e;obtain⟨u,E,D,I,G,z,y,_⟩:=bind_some (m:=wr b k _) e;cases u;obtain⟨rfl,C,B,A,v,q⟩:=abu x z s hd;obtain⟨rfl,w',f,l,j⟩:=r (i:=i+1) o jO q y;refine⟨rfl,w', ?_,l,((qS base w).setCell (p:=⟨d.bf,d.sh+k,none⟩) v _).trans j⟩;unfold storeCells;rw[lC,t];show(xC (store _ _) _).run P w=_;unfold store;simp only[xC];rw[Na C B A];exact f
 |_=>trivial
theorem td {P:Program} {m:Mp} {base:Nat} {h h1:H} {w:World} {n z r:Nat} {e:TypeId} {cs:List Value} {L:List En} (x:WR P m base h w.heap) (j:cW e cs h n=some ⟨r,h1,z,L⟩) (T:iQ m n z) (f:base<=w.heap.size)
 {cs':Array Value} (u:cs.length<=cs'.size) (I:∀(k:Nat) (v:Value),cs[k]? =some v->∃t,cs'[k]? =some t∧VR m v t) {esz:Nat} (y:size? P e=some esz):
 r=n∧z=n+1∧∃N,N n=some ⟨w.heap.size,0,cs'.size,esz,e⟩∧cL P m base n z w h1 N (w.alloc (.cells cs' e)):=by
 unfold cW at j;split at j
 ·rename_i hn;simp only[dH,Out.mk.injEq]at j;obtain⟨rfl,rfl,rfl,_⟩:=j;have D:m n=none:=T n (ah _) jO
  have p:Le m (fun b=>if b=n then some ⟨w.heap.size,0,cs'.size,esz,e⟩else m b):=by
   intro b d a;by_cases e:b=n
   ·subst e;rw[D]at a;cases a
   ·simp[e,a]
  refine⟨rfl,rfl,fun b=>if b=n then some ⟨w.heap.size,0,cs'.size,esz,e⟩else m b,jS,p,fun b a=>by rw[if_neg jO], ?_,(qS _ _).alloc f _⟩;constructor
  ·intro b B a;rw[H.js _ _]at a;by_cases s:b=n
   ·subst s;rw[if_pos rfl]at a;cases a;refine⟨_,cs',0,0,if_pos rfl, ?_,rfl,by simpa using u,y,fun _=>⟨rfl,f,fun k _=>by omega⟩,fun k v G=> ?_⟩
    ·exact heap_alloc_new w _
    ·obtain⟨t,l,j⟩:=I k v G;exact⟨t,by simpa using l,j.mono p⟩
   ·rw[if_neg s]at a;obtain⟨d,J,Q,R,o,O,h1,q,A,W,U⟩:=x.live b B a;refine⟨d,J,Q,R,by simp[s,o], ?_,h1,q,A,W,fun k v G=> ?_⟩
    ·rw[Below.heap_alloc w _ _ (Array.getElem?_eq_some_iff.1 O).1];exact O
    ·obtain⟨t,l,j⟩:=U k v G;exact⟨t,l,j.mono p⟩
  ·intro b K B Z d Y a g C o c y;rw[H.js _ _]at a g;by_cases s:b=n
   ·by_cases i:K=n
    ·rw[s,i]
    ·rw[if_neg i]at g c;rw[if_pos s]at o;obtain⟨X,q,E⟩:=x.lt g;rw[c]at q;cases q;cases o;simp at y;omega
   ·rw[if_neg s]at a o;by_cases i:K=n
    ·rw[if_pos i]at c;obtain⟨X,q,E⟩:=x.lt a;rw[o]at q;cases q;cases c;simp at y;omega
    ·rw[if_neg i]at g c;exact x.inj b K B Z d Y a g C o c y
 ·cases j
theorem WR.kill{P:Program}{m:Mp}{base:Nat}{h:H}{i:Array Obj}(x:WR P m base h i){b:Nat}{B:AB}(n:h.get b=some B):WR P m base (h.set b none) i:=by
 have f:∀c C,(h.set b none).get c=some C->c≠b∧h.get c=some C:=by
  intro c C a;rw[H.js _ _]at a;by_cases e:c=b
  ·rw[if_pos e]at a;cases a
  ·rw[if_neg e]at a;exact⟨e,a⟩
 exact⟨fun c C a=>x.live c C (f c C a).2,fun c j C k d l a g=>x.inj c j C k d l (f c C a).2 (f j k g).2⟩
def Gl(P:Program)(m:Mp):Prop:=∀g,g<P.globals.size->∃d,m g=some d∧d.bf=g∧d.sh=0
theorem Gl.mono{P:Program}{m a:Mp}(g:Gl P m)(h:Le m a):Gl P a:=fun i b=>let⟨d,e,c⟩:=g i b;⟨d,h _ _ e,c⟩
structure SR (m:Mp) (nt:Nat) (s:S) (a:Act):Prop where
 df:a.defers=[]
 sz:a.tmps.size=nt
 at_:∀t,VR m (s.get t) (a.tmps.getD t undef)
theorem SR.mono{m b:Mp}{nt:Nat}{s:S}{a:Act}(x:SR m nt s a)(h:Le m b):SR b nt s a:=⟨x.df,x.sz,fun t=>(x.at_ t).mono h⟩
theorem VR.qb{m:Mp}{v:Value}(h:Ev.qb v=true):VR m v v:=by
 unfold Ev.qb at h;split at h
 ·exact .bool _
 ·exact .int _ _
 ·exact .float _ _
 ·exact .string _
 ·exact .xS
 ·exact .nilFunc
 ·exact .mh _ _ (by simpa using h)
 ·cases h
theorem bu.clean{m:Mp}:∀{l:List Value},(∀v∈l,Ev.qb v=true)->bu m l l
 |[],_=> .nil
 |v::l,h=> .cons (VR.qb (h v jS)) (bu.clean fun u a=>h u (by simp[a]))
theorem VR.clean{m:Mp}{v:Value}(h:Ev.clean v=true):VR m v v:=by
 unfold Ev.clean at h;split at h
 ·exact .agg (bu.clean fun u a=>by rw[sR]at h;exact h u (Array.mem_toList_iff.1 a))
 ·exact .tuple (bu.clean fun u a=>by rw[sR]at h;exact h u (Array.mem_toList_iff.1 a))
 ·exact VR.qb h
theorem Nb{P:Program}{m:Mp}{nt:Nat}{s:S}{a:Act}(g:Gl P m)(x:SR m nt s a){y:Operand}(h:A0 P y=true):VR m (ev s y) (a.eval y):=by
 cases y with
 |tmp t=>exact x.at_ t
 |const v=>exact VR.clean h
 |global i=>obtain⟨d,e,c,b⟩:=g i (by simpa[A0]using h);have:=VR.ptr (m:=m) (off:=0) e;rw[c,b]at this;exact this
 |func f=>exact .func _ .nil .nil
theorem abv{m:Mp}{nt:Nat}{s:S}{a:Act}(x:SR m nt s a)(ops:Array Oper)(j:Nat):gX ops s j=yielded ops a.tmps j:=by
 unfold gX yielded;cases d:(ops[j]?).bind (·.dst)with
 |none=>rfl
 |some t=>
  have b:=x.at_ t;simp only[Mm];rw[oM]at b;cases c:a.tmps[t]? with
  |none=>rw[c]at b;generalize s.get t=v at b;cases b;rfl
  |some u=>rw[c]at b;simp only[Option.getD_some]at b;generalize s.get t=v at b;cases b<;>rfl
theorem S.o7(s:S)(d:Nat)(v:Value)(t:Nat)(hd:d<1023):(s.put d v).get t=if t=d then v else s.get t:=by unfold S.get S.put;rw[Tr.js 10 s d (some v) t jO];split<;>rfl
theorem Nc{m:Mp}{nt:Nat}{s g:S}{a:Act}{b:Option Tmp}{v f:Value}(x:SR m nt s a)(i:VR m v f)(h:kH nt s b v=some g):SR m nt g (a.put b f):=by
 unfold kH at h;cases b with
 |none=>cases h;exact x
 |some d=>
  simp only at h;split at h
  ·rename_i c;simp only[bZ,decide_eq_true_eq]at c;cases h;refine⟨x.df,by simp[anv,x.sz],fun t=> ?_⟩;rw[S.o7 _ _ _ _ c.2];simp only[anv];by_cases e:t=d
   ·subst e;rw[if_pos rfl];have:t<a.tmps.size:=by rw[x.sz];exact c.1
    simpa[this]using i
   ·rw[if_neg e];have:=x.at_ t;simpa[aaN (Ne.symm e),oM]using this
  ·cases h
inductive NR (m:Mp):Nx->Next->Prop
 |val {v v':Value} (h:VR m v v'):NR m (.val v) (.value v')
 |skip:NR m (.val undef) .skip
 |call {f:FuncId} {args Nd:Array Value} (h:bu m args.toList Nd.toList):NR m (.call f args) (.enter f Nd)
def te(P:Program)(base:Nat):Prop:=∀(c a:Operand->Value) (o:Oper) (h:H) (n:Nat) (r:Nx) (f:H) (b:Nat) (L:List En) (m:Mp) (w:World),
 cx P c o h n=some ⟨r,f,b,L⟩->(∀y∈o.op.operands,VR m (c y) (a y))->WR P m base h w.heap->base<=w.heap.size->iQ m n b->
 ∃e d R,(execOp a o).run P w= .ok R d∧cL P m base n b w f e d∧NR e r R
def vF(P:Program)(base:Nat)(rec:FuncId->Array Value->M Value):Prop:=∀(f:FuncId) (args:Array Value) (h:H) (n:Nat) (v:Value) (g:H) (b:Nat) (L:List En) (m:Mp) (w:World) (a:Array Value),
 rec f args h n=some ⟨v,g,b,L⟩->WR P m base h w.heap->base<=w.heap.size->bu m args.toList a.toList->iQ m n b->Gl P m->
 Calls P f a w fun e i=>∃d c,e= .returned c∧cL P m base n b w g d i∧VR d v c
section
variable {P:Program} {base:Nat} {rec:FuncId->Array Value->M Value} {nt:Nat} {ops:Array Oper} {Q:Exit->Act->World->Prop}
theorem Below.le{B:Nat}{w w':World}(b:Below B w w')(h:B<=w.heap.size):B<=w'.heap.size:=gV h b.size
theorem Nf (bC:te P base) (B:vF P base rec) (T:∀f a,Loc (rec f a)) {i:Nat} {o:Oper} (hi:ops[i]? =some o) (d:vC P o=true) {m:Mp} {s:S} {a:Act} {w:World} {h h1:H} {n t:Nat} {L:List En} {v:Value}
 (x:WR P m base h w.heap) (hb:base<=w.heap.size) (g:Gl P m) (Y:SR m nt s a) (q:fY P rec ops o s h n=some ⟨v,h1,t,L⟩) (Z:iQ m n t) {K:Act->World->Prop}
 (I:∀p w' E,cL P m base n t w h1 p w'->VR p v E->K (a.put o.dst E) w'):wpOp P ops Q i K a w:=by
 have hw:gy o (gX ops s)=gy o (yielded ops a.tmps):=by congr 1;funext j;exact abv Y ops j
 unfold wpOp;simp only[hi];unfold fY at q;rw[hw]at q;by_cases c:gy o (yielded ops a.tmps)=true
 ·rw[if_pos c]at q⊢;obtain⟨r,X,G,L1,L2,e1,D,rfl⟩:=bind_some q;have A:=Loc.cx P (ev s) o h n r X G L1 e1
  have C:G<=t:=by
   cases r with
   |val u=>obtain⟨_,_,e⟩:=bM D;omega
   |call f args=>exact(T f args _ _ _ _ _ _ D).le
  obtain⟨p,w',R,z,b,W⟩:=bC (ev s) a.eval o h n r X G L1 m w e1 (fun y hy=>Nb g Y (by
   unfold vC at d;rw[sR]at d
   exact d y hy)) x hb (Z.first C)
  left;unfold Oper.wp;rw[z];cases W with
  |val O=>obtain⟨rfl,rfl,rfl⟩:=bM D;exact I p w' _ b O
  |skip=>obtain⟨rfl,rfl,rfl⟩:=bM D;exact I p w' _ b VR.undef
  |call k=>rename_i f args l;refine(B f args X G v h1 t L2 p w' l D b.wr (Below.le b.below hb) k (Z.after A.le b) (g.mono b.le)).mono ?_;rintro e J ⟨N,E,rfl,U,O⟩;exact I N J E (b.trans A.le C U) O
 ·have u0:gy o (yielded ops a.tmps)=false:=by simpa using c
  rw[if_neg c]at q⊢;obtain⟨rfl,rfl,rfl⟩:=bM q;exact I m w undef (cL.refl x) VR.undef
theorem all_congr{c:Type}{l:Array c}{f g:c->Bool}(h:∀x∈l,f x=g x):l.all f=l.all g:=by rw[Bool.eq_iff_iff,sR,sR];exact⟨fun a x b=>by rw[<-h x b];exact a x b,fun a x b=>by rw[h x b];exact a x b⟩
theorem abw{ρ ρ':Operand->Value}(o:Oper)(h:∀x∈o.op.operands,ρ x=ρ' x):cx P ρ o=cx P ρ' o:=by
 by_cases l:∃q b,o.op= .select q b
 ·obtain⟨q,b,l⟩:=l;unfold cx;rw[l]
 have s:execOp ρ o=execOp ρ' o:=execOp_congr o (fun q b B=>l ⟨q,b,B⟩) h
 have j:gM P ρ o=gM P ρ' o:=by unfold gM;rw[s,all_congr fun x g=>by rw[h x g]]
 have d:∀e:Array (Nat×Operand),(∀x∈(e.toList.map (·.2)).toArray,ρ x=ρ' x)->(e.toList.map fun(i,x)=>(i,ρ x))=(e.toList.map fun(i,x)=>(i,ρ' x)):=fun e y=>List.map_congr_left fun p z=>by obtain⟨i,x⟩:=p;simp only[y x (by simpa using ⟨i,by simpa using z⟩)]
 unfold cx;cases bC:o.op<;>rw[bC]at h<;>simp only[Op.operands]at h<;>simp only
 case build t e=>rw[d e h]
 case buildSlice t n e=>rw[d e h]
 case makeFunc E first a=>rw[aaO (xs:=first) fun x g=>h x (by simp[g]),aaO (xs:=a) fun x g=>h x (by simp[g])]
 case call c=>
  have k:c.args.map ρ=c.args.map ρ':=aaO fun x g=>h x (by simp[vl,g]);rw[k];unfold kG;cases D:c.callee with
  |value f=>have C:ρ f=ρ' f:=h f (by simp[vl,D]);simp only[C]
  |invoke r m=>rfl
  |builtin b=>cases b<;>simp only[j]
 case slice t x v A u=>rw[j,h x jS];cases v<;>cases A<;>cases u<;>simp_all
 all_goals (first|rfl|(simp_all;done)|(rw[j];simp_all;done))
theorem abx{s a:S}{y:Operand}(h:∀t,y= .tmp t->s.get t=a.get t):ev s y=ev a y:=by
 cases y with
 |tmp t=>exact h t rfl
 |_=>rfl
theorem aby{o:Oper}{s a:S}(h:∀t∈o.looksAt ops,s.get t=a.get t):fY P rec ops o s=fY P rec ops o a:=by
 have i:cx P (ev s) o=cx P (ev a) o:=abw o fun x d=>abx fun t b=>h t (by
  unfold anw
  exact List.mem_append_left _ (List.mem_filterMap.2 ⟨x,by simpa using d,by rw[b]⟩))
 have f:gy o (gX ops s)=gy o (gX ops a):=by
  unfold gy;cases e:o.guard with
  |none=>rfl
  |some j=>
   obtain⟨g,c⟩:=j
   have:gX ops s g=gX ops a g:=by
    unfold gX;cases b:(ops[g]?).bind (·.dst)with
    |none=>rfl
    |some t=>simp only[h t (by unfold anw;exact List.mem_append_right _ (by simp[e,b]))]
   simp only[this]
 unfold fY;rw[i,f]
end
structure FW (P:Program) (rec:FuncId->Array Value->M Value) (nt:Nat) (ops:Array Oper) (l:List Oper) (s:Nat->S) (h:Nat->H) (n:Nat->Nat) (v:Nat->Value) (L:Nat->List En):Prop where
 step:∀i o,l[i]? =some o->inside (fY P rec ops o (s i)) (h i) (n i)=some ⟨v i,h (i+1),n (i+1),L i⟩
 put:∀i o,l[i]? =some o->kH nt (s i) o.dst (v i)=some (s (i+1))
theorem abz{P:Program}{rec:FuncId->Array Value->M Value}{nt:Nat}{ops:Array Oper}:∀(l:List Oper) (a:S) (e:H) (n0:Nat) (y:S×List Tk) (h1:H) (c:Nat) (p:List En),
 jg P rec nt ops l a e n0=some ⟨y,h1,c,p⟩->∃s h n v L,FW P rec nt ops l s h n v L∧s 0=a∧h 0=e∧n 0=n0∧s l.length=y.1∧h l.length=h1∧n l.length=c∧y.2.length=l.length∧∀i,i<l.length->y.2[i]? =some ⟨n i,n (i+1),L i⟩:=by
 intro l
 induction l with
 |nil=>intro a e n0 y h1 c p j;obtain⟨rfl,rfl,rfl⟩:=bM j;exact⟨fun _=>a,fun _=>h1,fun _=>c,fun _=>undef,fun _=>[],⟨fun i o h=>by simp at h,fun i o h=>by simp at h⟩,rfl,rfl,rfl,rfl,rfl,rfl,rfl,fun i k=>by simp at k⟩
 |cons o r A=>
  intro a e n0 y h1 c p j;obtain⟨x,h2,n2,L1,L2,f,K,_⟩:=bind_some (m:=az (inside (fY P rec ops o a))) j;unfold az at f;split at f
  ·rename_i t B z X D;simp only[dH,Out.mk.injEq]at f;obtain⟨rfl,rfl,rfl,rfl⟩:=f;obtain⟨u,h3,n3,L3,L4,J,I,_⟩:=bind_some (m:=M.lift _) K;obtain⟨d,rfl,rfl⟩:=mg J;obtain⟨Y,h4,Z,L5,L6,G,E,_⟩:=bind_some (m:=jg P rec nt ops r u) I;obtain⟨rfl,rfl,rfl⟩:=bM E;obtain⟨s,h,n,v,L,C,W,U,q,T,R,Q,O,N⟩:=A _ _ _ _ _ _ _ G;refine⟨fun i=>if i=0 then a else s (i-1),fun i=>if i=0 then e else h (i-1),fun i=>if i=0 then n0 else n (i-1),fun i=>if i=0 then t else v (i-1),fun i=>if i=0 then X else L (i-1),⟨fun i g b=> ?_,fun i g b=> ?_⟩,rfl,rfl,rfl,by simpa using T,by simpa using R,by simpa using Q,by simp[O],fun i k=> ?_⟩
   ·cases i with
    |zero=>simp at b;subst b;simpa[U,q]using D
    |succ i=>simpa using C.step i g (by simpa using b)
   ·cases i with
    |zero=>simp at b;subst b;simpa[W]using d
    |succ i=>simpa using C.put i g (by simpa using b)
   ·cases i with
    |zero=>simp[q]
    |succ i=>simpa using N i (by simpa using k)
  ·cases f
theorem FX{c:Type}{m:M c}{h h1:H}{n d:Nat}{a:c}{L:List En}(b:inside m h n=some ⟨a,h1,d,L⟩):∃L',m h n=some ⟨a,h1,d,L'⟩:=by
 unfold inside at b;split at b
 ·rename_i i g f L' e;simp only[dH,Out.mk.injEq]at b;obtain⟨rfl,rfl,rfl,_⟩:=b;exact⟨L',e⟩
 ·cases b
section
variable {P:Program} {base:Nat} {rec:FuncId->Array Value->M Value} {nt:Nat} {ops:Array Oper} {Q:Exit->Act->World->Prop}
theorem abA (bC:te P base) (l:vF P base rec) (A:∀f a,Loc (rec f a)) (B:∀o∈ops,vC P o=true) {s:Nat->S} {h:Nat->H} {n:Nat->Nat} {v:Nat->Value} {L:Nat->List En}
 (C:FW P rec nt ops ops.toList s h n v L) {m0:Mp} {w0:World} (J:iQ m0 (n 0) (n ops.size)) (c:∀i,i<ops.size->n i<=n (i+1)) (K:base<=w0.heap.size) (g:Gl P m0) (R:Act->World->Prop)
 (N:∀t G w',cL P m0 base (n 0) (n ops.size) w0 (h ops.size) t w'->SR t nt (s ops.size) G->Q .normal G w'):
 ∀(k i:Nat),i+k=ops.size->∀(m:Mp) (a:Act) (w:World),cL P m0 base (n 0) (n i) w0 (h i) m w->SR m nt (s i) a->wpOps P ops Q (List.range' i k) a w:=by
 have e:∀i j,i<=j->j<=ops.size->n i<=n j:=by
  intro i j r
  induction r with
  |refl=>intro _;exact ah _
  |step r y=>intro T;exact gV (y jO) (c _ jO)
 intro k
 induction k with
 |zero=>intro i E m a w d u;have:i=ops.size:=jO;subst this;exact N m a w d u
 |succ k y=>
  intro i E m a w d u;have x:i<ops.size:=jO;rw[List.range'_succ,wpOps_cons];have D:ops[i]? =some ops[i]:=by simp[x]
  obtain⟨X,I⟩:=FX (C.step i ops[i] (by simp[x]));have p:=C.put i ops[i] (by simp[x]);refine Nf (nt:=nt) bC l A D (B _ jS) d.wr (Below.le d.below K) (g.mono d.le) u I (fun b W U=> ?_) fun t w' O q z=> ?_
  ·have q1:=e 0 i jO jO;have q2:=e (i+1) ops.size jO jO;rw[d.out b jO];exact J b jO jO
  ·exact y (i+1) jO t _ w' (d.trans (e 0 i jO jO) (c i x) q) (Nc (u.mono q.le) z p)
end
def Good(ops:Array Oper)(acc:List Nat):Prop:=∀k,k<acc.length->∀j,(acc.getD k 0).testBit j=true->∃o,ops[k]? =some o∧∃e∈o.after,oL .any e=true∧(j=e.on∨(acc.getD e.on 0).testBit j=true)
theorem FY{l a:List Nat}{k:Nat}(h:k<l.length):(l++a).getD k 0=l.getD k 0:=by simp[bz,List.getElem?_append_left h]
theorem abB(acc:List Nat)(j:Nat):∀(a:List Edge) (s:Nat),(a.foldl (fun s e=>if oL .any e then s|||2^e.on|||acc.getD e.on 0 else s) s).testBit j=true->
 s.testBit j=true∨∃e∈a,oL .any e=true∧(j=e.on∨(acc.getD e.on 0).testBit j=true):=by
 intro a
 induction a with
 |nil=>intro s h;exact .inl h
 |cons e a d=>
  intro s h;simp only[aaP]at h;rcases d _ h with h1|⟨f,c,h1⟩
  ·by_cases b:oL .any e=true
   ·rw[if_pos b]at h1;simp only[Nat.testBit_or,oO]at h1;rcases h1 with (h1|h1)|h1
    ·exact .inl h1
    ·rw[Nat.testBit_two_pow]at h1;exact .inr ⟨e,jS,b,.inl (by simpa using Eq.symm (of_decide_eq_true h1))⟩
    ·exact .inr ⟨e,jS,b,.inr h1⟩
   ·rw[if_neg b]at h1;exact .inl h1
  ·exact .inr ⟨f,by simp[c],h1⟩
theorem abC(ops:Array Oper):∀(l:List Oper) (acc:List Nat),(∀i o,l[i]? =some o->ops[acc.length+i]? =some o)->Good ops acc->Good ops (lR l acc)∧(lR l acc).length=acc.length+l.length:=by
 intro l
 induction l with
 |nil=>intro acc _ h;exact⟨h,by simp[lR]⟩
 |cons o r p=>
  intro acc n h;unfold lR;generalize u:(o.after.toList.foldl (fun s e=>if oL .any e then s|||2^e.on|||acc.getD e.on 0 else s) 0)=B
  have:=p (acc++[B]) (fun i d f=>by
   have:=n (i+1) d (by simpa using f);simp only[List.length_append,List.length_singleton];rw[show acc.length+1+i=acc.length+(i+1) by omega]
   exact this) ?_
  ·exact⟨this.1,by rw[this.2];simp;omega⟩
  ·intro k q j c;by_cases a:k<acc.length
   ·rw[FY a]at c;obtain⟨d,h1,e,x,v,h4⟩:=h k a j c;refine⟨d,h1,e,x,v, ?_⟩;rcases h4 with h4|h4
    ·exact .inl h4
    ·refine .inr ?_;by_cases b:e.on<acc.length
     ·rw[FY b];exact h4
     ·rw[bz,oP jO]at h4;simp at h4
   ·have g:k=acc.length:=by simp at q;omega
    subst g;have m:(acc++[B]).getD acc.length 0=B:=by simp[bz]
    rw[m,<-u]at c;rcases abB acc j _ _ c with h1|⟨e,b,t,h1⟩
    ·simp at h1
    ·refine⟨o,by simpa using n 0 o rfl,e,by simpa using b,t, ?_⟩;rcases h1 with h1|h1
     ·exact .inl h1
     ·refine .inr ?_;by_cases b:e.on<acc.length
      ·rw[FY b];exact h1
      ·rw[bz,oP jO]at h1;simp at h1
theorem Ng {ops:Array Oper} {a:List Nat} (p:Good ops a) (i:a.length=ops.size) (q:∀k o,ops[k]? =some o->∀e∈o.after,oL .any e=true->e.on<k) {D:Nat->Prop}
 (r:∀k o,D k->ops[k]? =some o->∀e∈o.after,oL .any e=true->D e.on):∀(k:Nat),(∀o,ops[k]? =some o->∀e∈o.after,oL .any e=true->D e.on)->∀j,(a.getD k 0).testBit j=true->D j:=by
 intro k
 induction k using xD with
 |_ k m=>
  intro n j g;by_cases f:k<a.length
  ·obtain⟨o,h,e,b,c,h1⟩:=p k f j g;have hd:=n o h e b c;rcases h1 with rfl|h1
   ·exact hd
   ·exact m e.on (q k o h e b c) (fun l d=>r e.on l hd d) j h1
  ·rw[bz,oP jO]at g;simp at g
theorem abD{ops:Array Oper}{c:List Nat}:∀(l:List (Nat×Tk)),oZ ops c l=true->∀(p q:Nat) (x y:Nat×Tk),p<q->l[p]? =some x->l[q]? =some y->(c.getD y.1 0).testBit x.1=true∨(x.2.cy y.2=false∧oY ops (ops.getD x.1 default) (ops.getD y.1 default)=false):=by
 intro l
 induction l with
 |nil=>intro _ p q x y _ b;simp at b
 |cons a l e=>
  intro h p q x y f b d;obtain⟨i,g⟩:=a;unfold oZ at h;simp only[bZ]at h;cases q with
  |zero=>omega
  |succ q=>
   cases p with
   |zero=>simp at b;subst b;have:=List.all_eq_true.1 h.1 y (anx (by simpa using d));simpa using this
   |succ p=>exact e h.2 p q x y jO (by simpa using b) (by simpa using d)
theorem FZ:∀(a:List Tk) (b i:Nat),(tagged b a)[i]? =(a[i]?).map fun t=>(b+i,t):=by
 intro a
 induction a with
 |nil=>intro b i;simp[tagged]
 |cons t a c=>
  intro b i;cases i with
  |zero=>simp[tagged]
  |succ i=>simp only[tagged,List.getElem?_cons_succ,c];congr 1;funext x;rw[show b+1+i=b+(i+1) by omega]
theorem Nh{a b:Tk}(h:a.cy b=false):
 (∀x∈a.log,∀y∈b.log,(x.wr=true∨y.wr=true)->x.b=y.b->(x.k=y.k∨x.k=none∨y.k=none)->False)∧(∀x∈a.log,¬(b.n<=x.b∧x.b<b.n1))∧(∀x∈b.log,¬(a.n<=x.b∧x.b<a.n1)):=by
 unfold Tk.cy at h;simp only[Bool.or_eq_false_iff]at h;obtain⟨⟨⟨l,k⟩,j⟩,i⟩:=h;refine⟨fun x c y d hw g hk=> ?_,fun x c f=> ?_,fun x c f=> ?_⟩
 ·have e:x.meets y=true∧y.meets x=true:=by unfold En.meets;rcases hk with hk|hk|hk<;>simp[g,hk]
  rcases hw with hw|hw
  ·have:=(List.any_eq_false.1 l) x c;simp only[hw,Mn]at this;exact(List.any_eq_false.1 (by simpa using this)) y d e.1
  ·have:=(List.any_eq_false.1 k) y d;simp only[hw,Mn]at this;exact(List.any_eq_false.1 (by simpa using this)) x c e.2
 ·have:=(List.any_eq_false.1 j) x c;simp at this;omega
 ·have:=(List.any_eq_false.1 i) x c;simp at this;omega
theorem or3{a b:Option Nat}(h:a=b∨a=none∨b=none):b=a∨b=none∨a=none:=by
 rcases h with h|h|h
 ·exact .inl h.symm
 ·exact .inr (.inr h)
 ·exact .inr (.inl h)
section
variable {P:Program} {base:Nat} {rec:FuncId->Array Value->M Value} {nt:Nat} {ops:Array Oper} {Q:Exit->Act->World->Prop}
def Wr(n:Nat->Nat)(L:Nat->List En)(j b c:Nat):Prop:=wrote (L j) b c∨(n j<=b∧b<n (j+1))
def Dn(a:Array Bool)(j:Nat):Prop:=a.getD j false=true
structure Inv (P:Program) (base nt:Nat) (ops:Array Oper) (s:Nat->S) (h:Nat->H) (n:Nat->Nat) (L:Nat->List En) (m0:Mp) (w0:World) (listed:Array Bool) (m:Mp) (sD:S) (hD:H) (a:Act) (w:World):Prop where
 sz:listed.size=ops.size
 closed:∀k o,Dn listed k->ops[k]? =some o->∀e∈o.after,oL .any e=true->Dn listed e.on
 mem:∀b c i,i<=ops.size->(∀j,j<ops.size->Wr n L j b c->(Dn listed j↔j<i))->dK hD (h i) b c
 slot:∀t i,i<=ops.size->(∀j o,ops[j]? =some o->o.dst=some t->(Dn listed j↔j<i))->sD.get t=(s i).get t
 le:Le m0 m
 out:∀b,(∀j,j<ops.size->Dn listed j->¬(n j<=b∧b<n (j+1)))->m b=m0 b
 wr:WR P m base hD w.heap
 below:Below base w0 w
 sr:SR m nt sD a
theorem qg{a:Array Bool}{k j:Nat}(b:k<a.size):Dn (a.setIfInBounds k true) j↔(j=k∨Dn a j):=by
 unfold Dn;by_cases e:j=k
 ·subst e;simp[b]
 ·simp[e,aaN (Ne.symm e),oM]
theorem abE{a:Array Bool}(f:∀k o,ops[k]? =some o->∀e∈o.after,oL .any e=true->e.on<k)(b:a.size=ops.size)(i:Mo .any ops a=[]):∀k,k<ops.size->Dn a k:=by
 intro k
 induction k using xD with
 |_ k h=>
  intro c;cases hd:a.getD k true with
  |true=>unfold Dn;simpa[oM,b▸c,Array.getElem?_eq_getElem (b▸c:k<a.size)]using hd
  |false=>
   have:k∈Mo .any ops a:=mem_ready.2 ⟨hd,ops[k],by simp[c],fun e d g=>h e.on (f k ops[k] (by simp[c]) e d g) (by
    have:=f k ops[k] (by simp[c]) e d g
    omega)⟩
   rw[i]at this;cases this
theorem abF (bC:te P base) (y2:vF P base rec) (x1:∀f a,Loc (rec f a)) (z9:∀o∈ops,vC P o=true) {s:Nat->S} {h:Nat->H} {n:Nat->Nat} {v:Nat->Value} {L:Nat->List En}
 (C:FW P rec nt ops ops.toList s h n v L) (he:∀k o,ops[k]? =some o->∀e∈o.after,oL .any e=true->e.on<k)
 {u6:List Nat} (hg:Good ops u6) (w1:u6.length=ops.size)
 (u1:∀j k,j<k->k<ops.size->(u6.getD k 0).testBit j=true∨((⟨n j,n (j+1),L j⟩:Tk).cy ⟨n k,n (k+1),L k⟩=false∧oY ops (ops.getD j default) (ops.getD k default)=false))
 {m0:Mp} {w0:World} (hf:iQ m0 (n 0) (n ops.size)) (x3:∀i,i<ops.size->n i<=n (i+1)) (hb:base<=w0.heap.size) (g:Gl P m0)
 (hR:∀m' a' w',cL P m0 base (n 0) (n ops.size) w0 (h ops.size) m' w'->SR m' nt (s ops.size) a'->Q .normal a' w'):
 ∀(fuel:Nat) (u:Array Bool) (m:Mp) (Y:S) (hD:H) (a:Act) (w:World),u.toList.countP (fun b=> !b)=fuel->Inv P base nt ops s h n L m0 w0 u m Y hD a w->wpAny P .any ops Q fuel u a w:=by
 have X:∀i j,i<=j->j<=ops.size->n i<=n j:=by
  intro i j N
  induction N with
  |refl=>intro _;exact ah _
  |step N ih=>intro R;exact gV (ih jO) (x3 _ jO)
 have v9:∀k o,ops[k]? =some o->xP (inside (fY P rec ops o (s k))) (h k) (n k) (v k) (h (k+1)) (n (k+1)) (L k):=fun k o W=>Loc.inside (Loc.fY x1 ops o (s k)) _ _ _ _ _ _ (C.step k o (by simpa using W))
 have v4:∀b c i j,i<=j->j<=ops.size->(∀p,i<=p->p<j->¬Wr n L p b c)->dK (h j) (h i) b c:=by
  intro b c i j N
  induction N with
  |refl=>intro _ _;exact dK.refl _ _ _
  |@step j N ih=>intro R hp;have v3:j<ops.size:=jO;have A:=v9 j ops[j] (by simp[v3]);have hw:=hp j N jO;exact(A.frame b c (fun x=>hw (.inl x)) (fun x=>hw (.inr x))).trans (ih jO fun p h1 h2=>hp p h1 jO)
 have Z:∀t i j,i<=j->j<=ops.size->(∀p o,i<=p->p<j->ops[p]? =some o->o.dst≠some t)->(s j).get t=(s i).get t:=by
  intro t i j N
  induction N with
  |refl=>intro _ _;rfl
  |@step j N ih=>
   intro R hp;have v3:j<ops.size:=jO;have B:=C.put j ops[j] (by simp[v3]);have hd:=hp j ops[j] N jO (by simp[v3]);rw[<-ih jO fun p o h1 h2=>hp p o h1 jO];unfold kH at B;cases G:(ops[j]).dst with
   |none=>rw[G]at B;have hq:s j=s (j+1):=vn B;rw[hq]
   |some d=>
    rw[G]at B hd;simp only at B;split at B
    ·rename_i hc;simp only[bZ,decide_eq_true_eq]at hc;have hq:=vn B;rw[<-hq,S.o7 _ _ _ _ hc.2,if_neg (fun e=>hd (by rw[e]))]
    ·cases B
 have fin:∀u m Y hD a w,Inv P base nt ops s h n L m0 w0 u m Y hD a w->Mo .any ops u=[]->Q .normal a w:=by
  intro u m Y hD a w I hr;have w3:=abE he I.sz hr;refine hR m a w ⟨I.le,fun b hb=>I.out b fun j R _ hi=>hb ⟨gV (X 0 j jO jO) hi.1,Nat.lt_of_lt_of_le hi.2 (X (j+1) ops.size jO jO)⟩,I.wr.mf fun b=> ?_,I.below⟩ ⟨I.sr.df,I.sr.sz,fun t=> ?_⟩
  ·exact(A2 fun c=>I.mem b c ops.size (ah _) fun j R _=>⟨fun _=>R,fun _=>w3 j R⟩).symm
  ·rw[<-I.slot t ops.size (ah _) fun j o W _=>⟨fun _=>(Array.getElem?_eq_some_iff.1 W).1,fun R=>w3 j R⟩];exact I.sr.at_ t
 intro fuel
 induction fuel with
 |zero=>
  intro u m Y hD a w x5 I
  have v8:Mo .any ops u=[]:=by
   apply List.eq_nil_iff_forall_not_mem.2;intro k hk;obtain⟨h1,o,W,_⟩:=mem_ready.1 hk;have E:k<u.size:=by rw[I.sz];exact(Array.getElem?_eq_some_iff.1 W).1
   have h2:u[k]=false:=by simpa[oM,E]using h1
   have:=List.countP_eq_zero.1 x5 u[k] jS;rw[h2]at this;exact this rfl
  exact⟨v8,fin _ _ _ _ _ _ I v8⟩
 |succ fuel ih=>
  intro u m Y hD a w x5 I;refine⟨fin _ _ _ _ _ _ I,fun k hk=> ?_⟩;obtain⟨h1,o,W,v6⟩:=mem_ready.1 hk;have v2:k<ops.size:=(Array.getElem?_eq_some_iff.1 W).1;have E:k<u.size:=by rw[I.sz];exact v2
  have y4:u[k]=false:=by simpa[oM,E]using h1
  have v1:¬Dn u k:=by unfold Dn;simp[oM,E,y4]
  have y6:∀j,(u6.getD k 0).testBit j=true->Dn u j:=Ng hg w1 he I.closed k fun o' v0 e hm U=>by rw[W]at v0;cases v0;exact v6 e hm U
  have y7:∀j,Dn u j->(u6.getD j 0).testBit k=true->False:=fun j R U=>v1 (Ng hg w1 he I.closed j (fun o' v0=>I.closed j o' R v0) k U)
  have K:∀j,j<ops.size->j≠k->¬(Dn u j↔j<k)->((∀x∈L j,∀y∈L k,(x.wr=true∨y.wr=true)->x.b=y.b->(x.k=y.k∨x.k=none∨y.k=none)->False)∧(∀x∈L j,¬(n k<=x.b∧x.b<n (k+1)))∧(∀x∈L k,¬(n j<=x.b∧x.b<n (j+1))))∧
   ∀T,ops[j]? =some T->(∀d,T.dst=some d->d∉o.looksAt ops)∧(∀d,T.dst=some d->o.dst≠some d):=by
   intro j R J z;have gk:ops.getD k default=o:=by simp[oM,W]
   have gj:∀T,ops[j]? =some T->ops.getD j default=T:=fun T h'=>by simp[oM,h']
   rcases sT j k with h'|h'
   ·rcases u1 j k h' v2 with u5|⟨x7,O⟩
    ·exact absurd ⟨fun _=>h',fun _=>y6 j u5⟩ z
    ·obtain⟨c1,c2,c3⟩:=Nh x7;refine⟨⟨c1,c2,c3⟩,fun T D=> ?_⟩;rw[gk,gj T D]at O;obtain⟨a1,a2,a3⟩:=anz (by unfold oY at O;simpa using O);exact⟨a1,a2⟩
   ·have f':k<j:=jO
    have d':Dn u j:=by
     by_cases hd:Dn u j
     ·exact hd
     ·exact absurd ⟨fun x=>absurd x hd,fun x=>by omega⟩ z
    rcases u1 k j f' R with u5|⟨x7,O⟩
    ·exact(y7 j d' u5).elim
    ·obtain⟨c1,c2,c3⟩:=Nh x7;refine⟨⟨fun x hx y hy hw U c'=>c1 y hy x hx hw.symm U.symm (or3 c'),c3,c2⟩,fun T D=> ?_⟩;rw[gk,gj T D]at O;obtain⟨a1,a2,a3⟩:=anz (by unfold oY at O;simpa using O);exact⟨a3,fun d hd e=>a2 d e hd⟩
  have A:=v9 k o W
  have O:∀t∈o.looksAt ops,Y.get t=(s k).get t:=fun t ht=>I.slot t k jO fun j T D G=>by
   by_cases J:j=k
   ·subst J;exact⟨fun x=>absurd x v1,fun x=>by omega⟩
   ·by_cases z:(Dn u j↔j<k)
    ·exact z
    ·exact absurd ht (((K j (Array.getElem?_eq_some_iff.1 D).1 J z).2 T D).1 t G)
  obtain⟨e',u0,z5⟩:=A.xQ hD fun e u4 j'=>j5.M5 fun c hc=>(I.mem e.b c k jO fun j R hw=>by
   by_cases J:j=k
   ·subst J;exact⟨fun x=>absurd x v1,fun x=>by omega⟩
   ·by_cases z:(Dn u j↔j<k)
    ·exact z
    ·obtain⟨⟨c1,c2,c3⟩,_⟩:=K j R J z;rcases hw with ⟨x,hx,w7,u9,w9⟩|hw
     ·exact(c1 x hx e u4 (.inl w7) u9 (by
       rcases w9 with q|q
       ·exact .inr (.inl q)
       ·rcases hc with r|r
        ·exact .inr (.inr r)
        ·exact .inl (by rw[q,r]))).elim
     ·exact(c3 e u4 hw).elim).symm
  have A':=Loc.inside (Loc.fY x1 ops o (s k)) _ _ _ _ _ _ u0;rw[<-aby (s:=Y) O]at u0;obtain⟨L',hv⟩:=FX u0;have B:=C.put k o (by simpa using W)
  have y3:∀b,n k<=b->b<n (k+1)->m b=none:=fun b l' k'=>by
   have q1:=X 0 k jO jO;have q2:=X (k+1) ops.size jO jO;rw[I.out b fun j R hd hi=> ?_]
   ·exact hf b jO jO
   ·by_cases J:j=k
    ·subst J;exact v1 hd
    ·rcases sT j k with h'|h'
     ·have:=X (j+1) k jO jO;omega
     ·have:=X (k+1) j jO jO;omega
  refine Nf (nt:=nt) bC y2 x1 W (z9 o (anA W)) I.wr (Below.le I.below hb) (g.mono I.le) I.sr hv y3 fun m' w' v' u3 z6=> ?_
  have z7:∃u7,kH nt Y o.dst (v k)=some u7∧∀t,u7.get t=if o.dst=some t then(s (k+1)).get t else Y.get t:=by
   unfold kH at B⊢;cases G:o.dst with
   |none=>exact⟨Y,rfl,fun t=>by simp⟩
   |some d=>
    rw[G]at B;simp only at B⊢;split at B
    ·rename_i hc;rw[if_pos hc];simp only[bZ,decide_eq_true_eq]at hc;have hq:=vn B;rw[<-hq];refine⟨_,rfl,fun t=> ?_⟩;rw[S.o7 _ _ _ _ hc.2,S.o7 _ _ _ _ hc.2];by_cases e:t=d
     ·subst e;simp
     ·rw[if_neg e,if_neg e];simp[Ne.symm e]
    ·cases B
  obtain⟨u7,x2,x4⟩:=z7;refine ih (u.setIfInBounds k true) m' u7 e' _ w' ?_ ⟨by simp[I.sz], ?_, ?_, ?_,I.le.trans u3.le, ?_,u3.wr,I.below.trans u3.below,Nc (I.sr.mono u3.le) z6 x2⟩
  ·have hc:=List.countP_set (p:=fun b=> !b) (l:=u.toList) (i:=k) (a:=true) (by simpa using E);have e1:u.toList[k]=false:=by simpa using y4
   rw[Array.toList_setIfInBounds,hc,x5,e1];simp
  ·intro j T hd D e u4 U;rw[qg E]at hd⊢;rcases hd with rfl|hd
   ·rw[W]at D;cases D;exact .inr (v6 e u4 U)
   ·exact .inr (I.closed j T hd D e u4 U)
  ·intro b c i hi z;by_cases hw:Wr n L k b c
   ·have b':k<i:=(z k v2 hw).1 ((qg E).2 (.inl rfl))
    have h2:dK (h i) (h (k+1)) b c:=v4 b c (k+1) i jO hi fun p z8 u2 A4=>by
     have x6:Dn u p:=by
      rcases (qg E).1 ((z p jO A4).2 u2)with q|q
      ·omega
      ·exact q
     obtain⟨⟨c1,c2,c3⟩,_⟩:=K p jO jO (by intro q;have:=q.1 x6;omega);rcases A4 with ⟨x,hx,w7,u9,w9⟩|A4
     ·rcases hw with ⟨y,hy,z4,w6,y0⟩|hw
      ·exact c1 x hx y hy (.inl w7) (by rw[u9,w6]) (by
        rcases w9 with q|q
        ·exact .inr (.inl q)
        ·rcases y0 with r|r
         ·exact .inr (.inr r)
         ·exact .inl (by rw[q,r]))
      ·exact c2 x hx (by rw[u9];exact hw)
     ·rcases hw with ⟨y,hy,z4,w6,y0⟩|hw
      ·exact c3 y hy (by rw[w6];exact A4)
      ·have:=X (k+1) p jO jO;omega
    exact(z5 b c hw).trans h2.symm
   ·refine(A'.frame b c (fun x=>hw (.inl x)) (fun x=>hw (.inr x))).trans (I.mem b c i hi fun j R y1=> ?_);have J:j≠k:=fun e=>hw (e▸y1);rw[<-z j R y1,qg E];exact⟨.inr,fun q=>q.resolve_left J⟩
  ·intro t i hi z;rw[x4 t];by_cases hd:o.dst=some t
   ·rw[if_pos hd];have b':k<i:=(z k o W hd).1 ((qg E).2 (.inl rfl));refine(Z t (k+1) i jO hi fun p op z8 u2 v7 w2=> ?_).symm
    have x6:Dn u p:=by
     rcases (qg E).1 ((z p op v7 w2).2 u2)with q|q
     ·omega
     ·exact q
    obtain⟨_,c⟩:=K p jO jO (by intro q;have:=q.1 x6;omega);exact(c op v7).2 t w2 hd
   ·rw[if_neg hd];refine I.slot t i hi fun j T D G=> ?_;have J:j≠k:=fun e=>hd (by subst e;rw[W]at D;cases D;exact G);rw[<-z j T D G,qg E];exact⟨.inr,fun q=>q.resolve_left J⟩
  ·intro b y5;rw[u3.out b (y5 k v2 ((qg E).2 (.inl rfl)))];exact I.out b fun j R hd=>y5 j R ((qg E).2 (.inr hd))
end
theorem exists_least{p:Nat->Prop}(h:∃n,p n):∃n,p n∧∀k,p k->n<=k:=by
 obtain⟨n,e⟩:=h
 induction n using xD with
 |_ n c=>
  by_cases b:∃k,k<n∧p k
  ·obtain⟨k,a,d⟩:=b;exact c k a d
  ·exact⟨n,e,fun k a=>by
    rcases sT k n with h|h
    ·exact absurd ⟨k,h,a⟩ b
    ·exact h⟩
noncomputable def least (p:Nat->Prop):Nat:=open Classical in if h:∃n,p n then apb (exists_least h)else 0
theorem Ni{p:Nat->Prop}(h:∃n,p n):p (least p)∧∀k,p k->least p<=k:=by unfold least;rw[dif_pos h];exact apc (exists_least h)
def cv:Ex->Exit
 | .normal=> .normal
 | .ret=> .ret
 | .exit id=> .exit id
section
variable {P:Program} {base:Nat} {rec:FuncId->Array Value->M Value} {nt:Nat}
theorem abG (bC:te P base) (N:vF P base rec) (I:∀f a,Loc (rec f a)) (u1:P.follows .mixedOrders=true) {id:Nat} {ops:Array Oper} {E:Bool} (u0:∀o∈ops,vC P o=true)
 {Q:Exit->Act->World->Prop} {m:Mp} {s s1:S} {a:Act} {w:World} {h h1:H} {n n1:Nat} {L:List En} (x:WR P m base h w.heap) (hb:base<=w.heap.size) (g:Gl P m) (hs:SR m nt s a)
 (hr:o0 P rec nt ops E s h n=some ⟨s1,h1,n1,L⟩) (hf:iQ m n n1) (hQ:∀m' a' w',cL P m base n n1 w h1 m' w'->SR m' nt s1 a'->Q .normal a' w'):(Code.region id ops E).wp P Q a w:=by
 unfold o0 at hr;obtain⟨y,h2,n2,L1,L2,e1,e2,_⟩:=bind_some hr;obtain⟨R,Y,K,vf,Lf,C,a1,a2,a3,a4,a5,a6,a7,a8⟩:=abz _ _ _ _ _ _ _ _ e1;have u2:ops.toList.length=ops.size:=jS;rw[u2]at a4 a5 a6 a7 a8
 have u:∀i,i<ops.size->K i<=K (i+1):=fun i X=>(Loc.inside (Loc.fY I ops ops[i] (R i)) _ _ _ _ _ _ (C.step i ops[i] (by simp[X]))).le
 split at e2
 ·rename_i D;obtain⟨rfl,rfl,rfl⟩:=bM e2;subst a1 a2 a3 a5 a6;rw[<-a4]at hQ;cases E with
  |false=>apply wp_region;rw[List.range_eq_range'];exact abA bC N I u0 C hf u hb g (fun _ _=>True) hQ ops.size 0 jO m a w (cL.refl x) hs
  |true=>
   simp only[Bool.not_true,Bool.false_or,bZ]at D;obtain⟨p,J⟩:=D;apply wp_region_any u1;have B:=abC ops ops.toList [] (fun i o U=>by simpa using U) (fun k hk=>by simp at hk);refine abF bC N I u0 C (fun k o U e he u9=> ?_) B.1 (by simpa using B.2) (fun j k u7 hk=> ?_) hf u (w0:={w with drawn:=w.drawn+1}) hb g (fun m' a' w' hp u6=>hQ m' a' w' ⟨hp.le,hp.out,hp.wr,(anB (qS base w)).trans hp.below⟩ u6) ops.size _ m (R 0) (Y 0) a _ ?_ ?_
   ·unfold rh at p;rw[List.all_eq_true]at p
    have:=p (o,k) (by
     rw[List.mem_iff_getElem?]
     exact⟨k,by simp[List.getElem?_zipIdx,U]⟩)
    simp only[bZ]at this;have h2:=this.1;rw[sR]at h2;have h3:=h2 e he;simpa[u9]using h3
   ·have G:j<ops.size:=jO;have:=abD _ J j k (j,⟨K j,K (j+1),Lf j⟩) (k,⟨K k,K (k+1),Lf k⟩) u7 (by rw[FZ,a8 j G];simp) (by rw[FZ,a8 k hk];simp);exact this
   ·simp[List.countP_replicate]
   ·have W:∀j,¬Dn (xF ops.size false) j:=by intro j G;unfold Dn at G;rw[oM,anC]at G;split at G<;>simp at G
    refine⟨jS,fun k o hd=>absurd hd (W k),fun b c i X z=> ?_,fun t i X z=> ?_,Le.refl _,fun _ _=>rfl,x,qS _ _,hs⟩
    ·
     have T:∀i,i<=ops.size->(∀j,j<ops.size->Wr K Lf j b c->¬j<i)->dK (Y 0) (Y i) b c:=by
      intro i
      induction i with
      |zero=>intro _ _;exact dK.refl _ _ _
      |succ i ih=>intro X r;have A:=Loc.inside (Loc.fY I ops ops[i] (R i)) _ _ _ _ _ _ (C.step i ops[i] (by simp[show i<ops.size by omega]));have Z:¬Wr K Lf i b c:=fun Z=>r i jO Z jO;exact(ih jO fun j G u5 v=>r j G u5 jO).trans (A.frame b c (fun q=>Z (.inl q)) (fun q=>Z (.inr q))).symm
     exact T i X fun j G Z v=>W j ((z j G Z).2 v)
    ·have T:∀i,i<=ops.size->(∀j o,ops[j]? =some o->o.dst=some t->¬j<i)->(R 0).get t=(R i).get t:=by
      intro i
      induction i with
      |zero=>intro _ _;rfl
      |succ i ih=>
       intro X r;have u3:i<ops.size:=jO;rw[ih jO fun j o U hd v=>r j o U hd jO];have l:=C.put i ops[i] (by simp[u3]);have hd:(ops[i]).dst≠some t:=fun hd=>r i ops[i] (by simp[u3]) hd jO;unfold kH at l;cases O:(ops[i]).dst with
       |none=>rw[O]at l;have hq:R i=R (i+1):=vn l;rw[hq]
       |some d=>
        rw[O]at l hd;simp only at l;split at l
        ·rename_i hc;simp only[bZ,decide_eq_true_eq]at hc;have hq:=vn l;rw[<-hq,S.o7 _ _ _ _ hc.2,if_neg (fun e=>hd (by rw[e]))]
        ·cases l
     exact T i X fun j o U hd v=>W j ((z j o U hd).2 v)
 ·cases e2
theorem abH(bC:te P base)(u6:vF P base rec)(U:∀f a,Loc (rec f a))(u7:P.follows .mixedOrders=true):
 ∀(fuel:Nat) (c:Code) (_:lB P c=true) (Q:Exit->Act->World->Prop) (m:Mp) (s s1:S) (a:Act) (w:World) (h h1:H) (n n1:Nat) (L:List En) (e:Ex),WR P m base h w.heap->base<=w.heap.size->Gl P m->SR m nt s a->
  dP P rec nt fuel c s h n=some ⟨(e,s1),h1,n1,L⟩->iQ m n n1->(∀r p w',cL P m base n n1 w h1 r w'->SR r nt s1 p->Q (cv e) p w')->c.wp P Q a w:=by
 intro fuel
 induction fuel using xD with
 |_ fuel Y=>
  intro c d Q m s s1 a w h h1 n n1 L e x X g K v W O;cases fuel with
  |zero=>cases v
  |succ f=>
   cases c with
   |skip=>obtain⟨q,rfl,rfl⟩:=bM v;cases q;exact wp_skip (O m a w (cL.refl x) K)
   |label l=>obtain⟨q,rfl,rfl⟩:=bM v;cases q;exact wp_label (O m a w (cL.refl x) K)
   |region id v3 v2=>unfold dP at v;obtain⟨s2,h2,Z,T,L2,D,z,_⟩:=bind_some v;obtain⟨q,rfl,rfl⟩:=bM z;cases q;refine abG bC u6 U u7 (fun o ho=> ?_) x X g K D W O;unfold lB at d;rw[sR]at d;exact d o ho
   |seq C c2=>
    unfold lB at d;simp only[bZ]at d;unfold dP at v;obtain⟨y,h2,Z,T,L2,D,z,_⟩:=bind_some v;obtain⟨e0,s2⟩:=y;have A:=Loc.dP U f C s h n _ h2 Z T D;apply wp_seq;cases e0 with
    |normal=>have B:=Loc.dP U f c2 s2 h2 Z _ h1 n1 L2 z;refine Y f jO C d.1 _ m s s2 a w h h2 n Z T .normal x X g K D (W.first B.le) fun r p w' j i=> ?_;exact Y f jO c2 d.2 Q r s2 s1 p w' h2 h1 Z n1 L2 e j.wr (Below.le j.below X) (g.mono j.le) i z (W.after A.le j) fun G R E N I=>O G R E (j.trans A.le B.le N) I
    |ret=>obtain⟨q,rfl,rfl⟩:=bM z;cases q;exact Y f jO C d.1 _ m s _ a w h _ n _ T .ret x X g K D W fun r p w' j i=>O r p w' j i
    |exit id=>obtain⟨q,rfl,rfl⟩:=bM z;cases q;exact Y f jO C d.1 _ m s _ a w h _ n _ T (.exit id) x X g K D W fun r p w' j i=>O r p w' j i
   |cond c0 C c2=>
    unfold lB at d;simp only[bZ]at d;unfold dP at v;simp only at v;generalize ht:ev s c0=v0 at v;cases v0 with
    |bool t=>
     have hv:=Nb g K d.1.1;rw[ht]at hv
     have hc:a.eval c0= .bool t:=by generalize a.eval c0=u at hv;cases hv;rfl
     refine wp_cond hc ?_;refine Y f jO _ ?_ Q m s s1 a w h h1 n n1 L e x X g K v W O;cases t
     ·exact d.2
     ·exact d.1.2
    |_=>cases v
   |block id C=>
    unfold lB at d;unfold dP at v;obtain⟨y,h2,Z,T,L2,D,z,_⟩:=bind_some v;obtain⟨e0,s2⟩:=y;apply wp_block;cases e0 with
    |normal=>obtain⟨q,rfl,rfl⟩:=bM z;cases q;exact Y f jO C d _ m s _ a w h _ n _ T .normal x X g K D W fun r p w' j i=>O r p w' j i
    |ret=>obtain⟨q,rfl,rfl⟩:=bM z;cases q;exact Y f jO C d _ m s _ a w h _ n _ T .ret x X g K D W fun r p w' j i=>O r p w' j i
    |exit u0=>
     simp only at z;by_cases u2:u0=id
     ·rw[if_pos u2]at z;obtain⟨q,rfl,rfl⟩:=bM z;cases q;refine Y f jO C d _ m s _ a w h _ n _ T (.exit u0) x X g K D W fun r p w' j i=> ?_;show(if u0=id then _ else _);rw[if_pos u2];exact O r p w' j i
     ·rw[if_neg u2]at z;obtain⟨q,rfl,rfl⟩:=bM z;cases q;refine Y f jO C d _ m s _ a w h _ n _ T (.exit u0) x X g K D W fun r p w' j i=> ?_;show(if u0=id then _ else _);rw[if_neg u2];exact O r p w' j i
   |loop C=>
    have u1:lB P C=true:=by unfold lB at d;exact d
    let J:Act->World->Nat->Prop:=fun p w' k=>k<=f+1∧∃r s' h' n' L',n<=n'∧n'<=n1∧cL P m base n n' w h' r w'∧SR r nt s' p∧dP P rec nt k (.loop C) s' h' n'=some ⟨(e,s1),h1,n1,L'⟩;have u9:=(Loc.dP U (f+1) (.loop C) s h n _ h1 n1 L v).le;refine wp_loop (fun p w'=>∃k,J p w' k) (fun p w'=>least (J p w')) ⟨f+1,ah _,m,s,h,n,L,ah _,u9,cL.refl x,K,v⟩ ?_;intro p w' hI;obtain⟨hJ,v1⟩:=Ni hI;generalize hk:least (J p w')=k at hJ;obtain⟨v5,r,s',h',n',L',u4,v4,j,i,u3⟩:=hJ;cases k with
    |zero=>cases u3
    |succ k=>
     unfold dP at u3;obtain⟨y,h2,Z,T,L2,D,z,_⟩:=bind_some u3;obtain⟨e0,s2⟩:=y;have A:=Loc.dP U k C s' h' n' _ h2 Z T D;cases e0 with
     |normal=>
      have B:=Loc.dP U k (.loop C) s2 h2 Z _ h1 n1 L2 z;refine Y k jO C u1 _ r s' s2 p w' h' h2 n' Z T .normal j.wr (Below.le j.below X) (g.mono j.le) i D (fun b q1 q2=> ?_) fun G R E N I=> ?_
      ·have:=B.le;rw[j.out b jO];exact W b jO jO
      ·have u5:J R E k:=⟨jO,G,s2,h2,Z,L2,by have:=A.le;omega,B.le,j.trans u4 A.le N,I,z⟩;exact⟨⟨k,u5⟩,Nat.lt_succ_of_le ((Ni ⟨k,u5⟩).2 k u5)⟩
     |ret=>obtain⟨q,rfl,rfl⟩:=bM z;cases q;refine Y k jO C u1 _ r s' _ p w' h' _ n' _ T .ret j.wr (Below.le j.below X) (g.mono j.le) i D (fun b q1 q2=> ?_) fun G R E N I=>O G R E (j.trans u4 A.le N) I;rw[j.out b jO];exact W b jO q2
     |exit id=>obtain⟨q,rfl,rfl⟩:=bM z;cases q;refine Y k jO C u1 _ r s' _ p w' h' _ n' _ T (.exit id) j.wr (Below.le j.below X) (g.mono j.le) i D (fun b q1 q2=> ?_) fun G R E N I=>O G R E (j.trans u4 A.le N) I;rw[j.out b jO];exact W b jO q2
   |exit id=>obtain⟨q,rfl,rfl⟩:=bM v;cases q;exact wp_exit (O m a w (cL.refl x) K)
   |ret=>obtain⟨q,rfl,rfl⟩:=bM v;cases q;exact wp_ret (O m a w (cL.refl x) K)
   |rangeFunc _ _ _ _=>cases v
   |scope _=>cases v
   |goto _=>cases v
   |refuse _=>cases v
end
theorem Nj:∀(l:List Value) (i:Nat) (s:S) (t:Nat),i+l.length<1023->(rj i l s).get t=if i<=t∧t<i+l.length then l.getD (t-i) undef else s.get t:=by
 intro l
 induction l with
 |nil=>intro i s t _;rw[if_neg jS];rfl
 |cons v r b=>
  intro i s t c;simp only[List.length_cons]at c;unfold rj;rw[b (i+1) _ t jO];by_cases a:i+1<=t∧t<i+1+r.length
  ·rw[if_pos a,if_pos (by simp;omega)];rw[show t-i=(t-(i+1))+1 by omega];simp
  ·rw[if_neg a,S.o7 _ _ _ _ jO];by_cases e:t=i
   ·subst e;simp
   ·rw[if_neg e,if_neg (by simp;omega)]
theorem S.get_nil(t:Nat):S.get (.nil:S) t=undef:=by unfold S.get;rw[Tr.get_nil];rfl
theorem abI{m:Mp}{args a:Array Value}{nt:Nat}(h:bu m args.toList a.toList)(h1:args.size<=nt)(h2:nt<1000):SR m nt (rj 0 args.toList .nil) {tmps:=a++xF (nt-a.size) undef,defers:=[]}:=by
 have g:args.size=a.size:=by simpa using h.length
 refine⟨rfl,by simp;omega,fun t=> ?_⟩;rw[Nj _ _ _ _ (by simp;omega)];by_cases d:t<args.size
 ·rw[if_pos (by simp;exact d)];obtain⟨e,b,f⟩:=h.get t (args.toList.getD (t-0) undef) (by simp[bz,d])
  have:(a++xF (nt-a.size) undef).getD t undef=e:=by have c:t<a.size:=jO;rw[oM,anD c];simp at b;simp[b]
  show VR m _ ((a++xF (nt-a.size) undef).getD t undef);rw[this];exact f
 ·rw[if_neg (by simp;omega),S.get_nil]
  have:(a++xF (nt-a.size) undef).getD t undef=undef:=by rw[oM,Array.getElem?_append_right jO,anC];split<;>rfl
  show VR m _ ((a++xF (nt-a.size) undef).getD t undef);rw[this];exact VR.undef
theorem abJ{P:Program}:∀(s:Sem Next) (v:Value),jo P s=some v->∀w,s.run P w= .ok (.value v) w:=by
 intro s
 induction s with
 |pure a=>intro v h w;cases a<;>simp[jo]at h;subst h;rfl
 |program k b=>intro v h w;exact b P v (by simpa[jo]using h) w
 |_=>intro v h;simp[jo]at h
def Sound(P:Program)(base:Nat)(m:Mp)(w:World)(h:H)(n:Nat)(s:Sem Value)(r:Value)(h1:H)(d:Nat):Prop:=
 ∃c a b,s.run P w= .ok b a∧cL P m base n d w h1 c a∧VR c r b
theorem abK{P:Program}{e:TypeId}{n:Nat}(h:size? P e=some n):∃i,P.info? e=some i∧i.size=n:=by
 unfold size? at h;cases a:P.info? e with
 |none=>rw[a]at h;cases h
 |some i=>rw[a]at h;exact⟨i,rfl,by simpa using h⟩
theorem Nk{P:Program}{e:TypeId}{z:Value}(h:gz P e=some z):(∃i,P.info? e=some i∧i.zero=some z)∧clean z=true:=by
 unfold gz at h;cases b:P.info? e with
 |none=>rw[b]at h;cases h
 |some i=>
  rw[b]at h;simp only[Mm]at h;cases a:i.zero with
  |none=>rw[a]at h;cases h
  |some u=>
   rw[a]at h;simp only at h;split at h
   ·rename_i c;cases h;exact⟨⟨i,rfl,a⟩,c⟩
   ·cases h
theorem A5{P:Program}{e:TypeId}{z:Value}(h:gz P e=some z):∃i,P.info? e=some i∧i.zero=some z:=(Nk h).1
theorem F0{P:Program}{e:TypeId}{z:Value}(h:gz P e=some z):clean z=true:=(Nk h).2
theorem run_sizeOf{P:Program}{e:TypeId}{n:Nat}(h:size? P e=some n)(w:World):(sizeOf e).run P w= .ok n w:=by obtain⟨i,a,rfl⟩:=abK h;simp[sizeOf,typeInfo,program,a,AJ,bind,xC];rfl
theorem F1{P:Program}{e:TypeId}{z:Value}(h:gz P e=some z)(w:World):(zeroValue e).run P w= .ok z w:=by obtain⟨i,b,a⟩:=A5 h;simp[zeroValue,typeInfo,program,b,a,AJ]
theorem tf{P:Program}{t:TypeId}{b:Bool}(h:jn P t=some b)(w:World):(isAgg t).run P w= .ok b w:=by
 unfold jn at h;cases hd:P.underlying t with
 |none=>rw[hd]at h;cases h
 |some d=>rw[hd]at h;unfold isAgg;rw[eP,run_underlying hd];cases d<;>simp at h<;>subst h<;>rfl
section
variable {P:Program} {base:Nat} {m:Mp} {w:World} {h h1:H} {n n1:Nat} {r:Value} {L:List En}
theorem abL{e:TypeId}(x:WR P m base h w.heap)(p:base<=w.heap.size)(l:iQ m n n1)(b:mO P e h n=some ⟨r,h1,n1,L⟩):Sound P base m w h n (anE e true (.tuple #[])) r h1 n1:=by
 unfold mO at b;cases a:gz P e with
 |none=>rw[a]at b;cases b
 |some z=>
  rw[a]at b;obtain⟨id,u,t,A,y,s,q,_⟩:=bind_some b;obtain⟨rfl,rfl,rfl⟩:=bM q;obtain⟨i,j,_⟩:=A5 a;have o:=(VR.clean (m:=m) (F0 a)).cells;obtain⟨rfl,rfl,d,c,f⟩:=td x s l p (cs':=z.cells) jS (fun k v g=>by simpa using o.get k v g) (esz:=i.size) (by simp[size?,j]);refine⟨d,_,.pointer (some ⟨w.heap.size,0,none⟩), ?_,f, ?_⟩
  ·simp only[anE,eP,F1 a,ft,newVar,newRow,newObj];rfl
  ·exact VR.ptr c
theorem abM{e:TypeId}{v b:Value}(f:VR m v b)(x:WR P m base h w.heap)(o:base<=w.heap.size)(l:iQ m n n1)(a:mP P e v h n=some ⟨r,h1,n1,L⟩):Sound P base m w h n (Instr.box e b) r h1 n1:=by
 unfold mP at a;cases c:size? P e with
 |none=>rw[c]at a;cases a
 |some z=>rw[c]at a;obtain⟨id,t,s,A,y,q,p,_⟩:=bind_some a;obtain⟨rfl,rfl,rfl⟩:=bM p;obtain⟨rfl,rfl,g,d,i⟩:=td x q l o (cs':=b.cells) (by simp[f.FU]) (fun k u j=>by simpa using f.cells.get k u j) c;exact⟨g,_,.pointer (some ⟨w.heap.size,0,none⟩),rfl,i,VR.ptr d⟩
theorem abN{cs cs':Array Value}{off:Nat}:∀{c b:List Value} (_:bu m c b) (i:Nat) {cs cs':Array Value},bu m cs.toList cs'.toList->
 bu m ((c.zipIdx i).foldl (fun(a:Array Value) (x:Value×Nat)=>a.setIfInBounds (off+x.2) x.1) cs).toList ((b.zipIdx i).foldl (fun(a:Array Value) (x:Value×Nat)=>a.setIfInBounds (off+x.2) x.1) cs').toList:=by
 intro c b g
 induction g using bu.rec (motive_1:=fun _ _ _=>True)with
 |nil=>intro i cs cs' d;exact d
 |cons f _ _ e=>intro i cs cs' d;simp only[List.zipIdx_cons,aaP];exact e (i+1) (by simpa using bu.set (off+i) d f)
 |_=>trivial
theorem Nl{e:Nat->Option (Nat×Nat)}:∀(d b:List (Nat×Value)) (cs cs' out:Array Value),d.map (·.1)=b.map (·.1)->bu m (d.map (·.2)) (b.map (·.2))->bu m cs.toList cs'.toList->lP e cs d=some out->
 ∃f,lP e cs' b=some f∧bu m out.toList f.toList∧out.size=cs.size:=by
 intro d
 induction d with
 |nil=>
  intro b cs cs' out h1 n k g;cases b with
  |nil=>simp[lP]at g;subst g;exact⟨cs',rfl,k,rfl⟩
  |cons _ _=>simp at h1
 |cons p d u=>
  intro b cs cs' out h1 n k g;cases b with
  |nil=>simp at h1
  |cons s b=>
   obtain⟨i,v⟩:=p;obtain⟨O,r⟩:=s;simp at h1;obtain⟨rfl,h1⟩:=h1;simp only[List.map_cons]at n;cases n with
   |cons o z=>
    unfold lP at g⊢;cases q:e i with
    |none=>rw[q]at g;cases g
    |some t=>
     obtain⟨off,N⟩:=t;rw[q]at g;simp only at g⊢;have G:r.cells.size=v.cells.size:=o.FU.symm;have E:cs'.size=cs.size:=by have:=k.length;simpa using this.symm
     rw[G,E];split at g
     ·cases g
     ·rename_i B;rw[if_neg B];have A:=abN (m:=m) (cs:=cs) (cs':=cs') (off:=off) o.cells 0 k
      have D:∀(h:Array Value) (a:Array Value),h.zipIdx.foldl (fun cs (c,j)=>cs.setIfInBounds (off+j) c) a=(h.toList.zipIdx 0).foldl (fun(a:Array Value) (x:Value×Nat)=>a.setIfInBounds (off+x.2) x.1) a:=by intro h a;rw[<-Array.foldl_toList,Array.toList_zipIdx]
      have C:∀(h:List (Value×Nat)) (a:Array Value),(h.foldl (fun(a:Array Value) (x:Value×Nat)=>a.setIfInBounds (off+x.2) x.1) a).size=a.size:=by
       intro h
       induction h with
       |nil=>intro a;rfl
       |cons y L l=>intro a;rw[aaP,l];simp
      rw[D]at g⊢;obtain⟨f,K,J,I⟩:=u b _ _ out h1 z A g;exact⟨f,K,J,by rw[I,C]⟩
theorem abO {t:TypeId} {b a:List (Nat×Value)} (C:b.map (·.1)=a.map (·.1)) (B:bu m (b.map (·.2)) (a.map (·.2))) (x:WR P m base h w.heap)
 (c:mc P t b h n=some ⟨r,h1,n1,L⟩):Sound P base m w h n (anF t a.toArray) r h1 n1:=by
 unfold mc at c;cases u:gz P t with
 |none=>rw[u]at c;cases c
 |some z=>
  rw[u]at c;cases y:P.underlying t with
  |none=>rw[y]at c;cases c
  |some d=>
   rw[y]at c;cases d<;>try(cases c;done)
   rename_i g;simp only at c;split at c
   ·rename_i j;cases o:lP (placeOf P g) z.cells b with
    |none=>rw[o]at c;cases c
    |some K=>
     rw[o]at c;obtain⟨rfl,rfl,rfl⟩:=bM c;obtain⟨D,O,N,_⟩:=Nl b a _ _ K C B (VR.clean (m:=m) (F0 u)).cells o;refine⟨m,w,.agg D, ?_,cL.refl x,.agg N⟩
     have e:(g.mapM fun f=>do pure (f.offset,<-sizeOf f.type):Sem (Array (Nat×Nat))).run P w= .ok (g.map fun f=>(f.offset,(size? P f.type).getD 0)) w:=by
      rw[Array.mapM_eq_mapM_toList]
      have:∀l:List Field,(∀f∈l,(size? P f.type).isSome=true)->(l.mapM (fun f=>do pure (f.offset,<-sizeOf f.type)):Sem (List (Nat×Nat))).run P w= .ok (l.map fun f=>(f.offset,(size? P f.type).getD 0)) w:=by
       intro l
       induction l with
       |nil=>intro _;rfl
       |cons f l G=>intro E;obtain⟨k,v⟩:=Option.isSome_iff_exists.1 (E f jS);rw[List.mapM_cons];simp only[bind_assoc,pure_bind,eP,run_sizeOf v,ft,G fun J q=>E J (by simp[q])];simp[v]
      have I:=this g.toList fun f q=>(sR.1 j) f (Array.mem_toList_iff.1 q);simp only[map_eq_pure_bind,eP,I,ft,nu];congr 1;apply Array.ext';simp
     have A:∀i,(g.map fun f=>(f.offset,(size? P f.type).getD 0))[i]? =placeOf P g i:=by
      intro i;unfold placeOf;cases p:g[i]? with
      |none=>simp[p]
      |some f=>obtain⟨k,v⟩:=Option.isSome_iff_exists.1 ((sR.1 j) f (anA p));simp[p,v]
     have s:(fun i=>(g.map fun f=>(f.offset,(size? P f.type).getD 0))[i]?)=placeOf P g:=funext A;unfold anF;simp only[eP,F1 u,run_underlying y,ft,e,s,O];rfl
   ·cases c
theorem Nn{e:TypeId}{z:Value}(f:gz P e=some z)(k:Nat):bu m (aR z k).toList (aR z k).toList:=by
 unfold aR;rw[Array.toList_map];refine bu.map _ fun i=> ?_;have g:=(VR.clean (m:=m) (F0 f)).cells;by_cases a:i %z.cells.size<z.cells.size
 ·obtain⟨d,b,c⟩:=g.get (i %z.cells.size) z.cells[i %z.cells.size] (by simp[a]);have:d=z.cells[i %z.cells.size]:=by simpa[a]using b.symm
  rw[this]at c;simpa[a]using c
 ·rw[getElem!_neg z.cells _ a];exact .bool _
theorem abP {t:TypeId} {len:Nat} {b a:List (Nat×Value)} (y:b.map (·.1)=a.map (·.1)) (K:bu m (b.map (·.2)) (a.map (·.2))) (x:WR P m base h w.heap) (T:base<=w.heap.size) (Q:iQ m n n1)
 (c:me P t len b h n=some ⟨r,h1,n1,L⟩):Sound P base m w h n (aaR t len a.toArray) r h1 n1:=by
 unfold me at c;cases B:P.underlying t with
 |none=>rw[B]at c;cases c
 |some d=>
  rw[B]at c;cases d<;>try(cases c;done)
  rename_i e;simp only at c;cases o:size? P e with
  |none=>rw[o]at c;cases c
  |some j=>
   cases A:gz P e with
   |none=>rw[o,A]at c;cases c
   |some z=>
    rw[o,A]at c;simp only at c;by_cases f:(len=0&&b.isEmpty)=true
    ·rw[if_pos f]at c;simp only[bZ,decide_eq_true_eq,List.isEmpty_iff]at f;obtain⟨rfl,rfl⟩:=f;obtain⟨id,Z,Y,L1,L2,O,N,_⟩:=bind_some c;obtain⟨rfl,rfl,rfl⟩:=bM N
     have E:a=[]:=by
      cases a with
      |nil=>rfl
      |cons p ps=>simp at y
     subst E;obtain⟨rfl,rfl,D,q,G⟩:=td x O Q T (cs':=#[]) jS (fun k v I=>by simp at I) o;refine⟨D,_,.slice (some ⟨w.heap.size,0,none⟩) 0 0, ?_,G,VR.gB q (fun _=>rfl) (fun _=>rfl) (fun g=>by simp[bo]at g) (ah _) jS⟩;unfold aaR;simp only[eP,run_underlying B,ft,run_sizeOf o,Nat.zero_mul,if_true,nu,pure_bind];have C:¬(0>2^24):=jO;simp only[if_neg C,lP,Array.range_zero',Array.map_empty];rfl
    rw[if_neg f]at c;split at c
    ·rename_i R;simp only[bZ,decide_eq_true_eq]at R;cases s:lP (fun i=>some (i*j,j)) (aR z (len*j)) b with
     |none=>rw[s]at c;cases c
     |some U=>
      rw[s]at c;simp only at c;obtain⟨id,Z,Y,L1,L2,O,N,_⟩:=bind_some c;obtain⟨rfl,rfl,rfl⟩:=bM N;obtain⟨cs',X,W,a3⟩:=Nl b a _ _ U y K (Nn (m:=m) A (len*j)) s;have l:U.size=cs'.size:=by have:=W.length;simpa using this
      obtain⟨rfl,rfl,D,q,G⟩:=td x O Q T (cs':=cs') (by simp[l]) (fun k v I=>by simpa using W.get k v I) o;have J:cs'.size=len*j:=by rw[<-l,a3];simp[aR]
      have u:1<=j:=by
       rcases Nat.eq_zero_or_pos j with h0|h0
       ·subst h0;simp at R
       ·exact h0
      have hl:len<=len*j:=Nat.le_mul_of_pos_right _ u;refine⟨D,_,.slice (some ⟨w.heap.size,0,none⟩) len len, ?_,G,VR.gB q (fun _=>rfl) (fun _=>rfl) (fun g=>by simp[bo]at g;omega) (ah _) (by simp[J])⟩;unfold aaR;have C:¬(len*j>2^24):=jO;have n1:¬(len*j=0):=jO;simp only[eP,run_underlying B,ft,run_sizeOf o,if_neg C,if_neg n1,F1 A,nu,pure_bind];unfold aR at X;rw[X];rfl
    ·cases c
theorem F2{b off:Nat}{a:Value}(c:VR m (.pointer (some ⟨b,off,none⟩)) a):∃d,m b=some d∧a= .pointer (some ⟨d.bf,d.sh+off,none⟩):=by
 cases c with
 |ptr h=>exact⟨_,h,rfl⟩
theorem abQ{t:TypeId}{a q:Value}(A:VR m a q)(x:WR P m base h w.heap)(c:jq P t a h n=some ⟨r,h1,n1,L⟩):Sound P base m w h n (aaT t q) r h1 n1:=by
 unfold jq at c;split at c
 ·rename_i b u;obtain⟨d,hd,rfl⟩:=F2 A;cases l:jn P t with
  |none=>rw[l]at c;cases c
  |some g=>
   rw[l]at c;cases g with
   |false=>simp only at c;obtain⟨rfl,rfl,I,s,j,z,v⟩:=A3 x c;rw[hd]at j;cases j;refine⟨m,w,s, ?_,cL.refl x,v⟩;simp only[aaT,Fm,pure_bind,loadVar,eP,tf l w,ft,oQ,if_false];show(Sem.load _ _ _).run P w=_;simp[AJ,z]
   |true=>
    cases o:size? P t with
    |none=>rw[o]at c;cases c
    |some k=>
     rw[o]at c;simp only at c;obtain⟨D,G,E,K,J,C,B,_⟩:=bind_some c;obtain⟨rfl,rfl,rfl⟩:=bM B;obtain⟨rfl,rfl,y,e,f,p⟩:=rz x hd C;refine⟨m,w,.agg e.toArray, ?_,cL.refl x,.agg (by simpa using f)⟩;have i:e.length=k:=by rw[<-f.length,y]
     have:=vE (P:=P) p;rw[i]at this;simp only[aaT,Fm,pure_bind,loadVar,eP,tf l w,ft,if_true,run_sizeOf o,this];rfl
 ·cases c
theorem abR{t:TypeId}{a q v e:Value}(z:VR m a q)(p:VR m v e)(x:WR P m base h w.heap)(c:nA P t a v h n=some ⟨r,h1,n1,L⟩):r=undef∧∃w',(anI t q e).run P w= .ok () w'∧cL P m base n n1 w h1 m w':=by
 unfold nA at c;split at c
 ·rename_i b f;obtain⟨d,hd,rfl⟩:=F2 z;cases j:size? P t with
  |none=>rw[j]at c;cases c
  |some k=>
   rw[j]at c;simp only at c;split at c
   ·rename_i y;obtain⟨u,D,C,G,E,B,A,_⟩:=bind_some c;obtain⟨rfl,rfl,rfl⟩:=bM A;cases u;obtain⟨rfl,w',g,s,o⟩:=FV hd p.cells (i:=0) (d.sh+f) jO x B;refine⟨rfl,w', ?_,⟨Le.refl _,fun _ _=>rfl,s,o⟩⟩;have l:e.cells.size=k:=by rw[<-p.FU];exact y
    simp only[anI,Fm,pure_bind,storeVar,eP,run_sizeOf j,ft,l,ne_eq,not_true,if_false];exact g
   ·cases c
 ·cases c
theorem abS{v d:Value}(e:VR m v d)(x:WR P m base h w.heap)(c:qc v h n=some ⟨r,h1,n1,L⟩):
 h1=h∧n1=n∧VR m r d∧((∃a,d= .pointer (some a))∨∃f a b,d= .func (.func f) a b):=by
 unfold qc at c;split at c
 ·obtain⟨rfl,rfl,rfl⟩:=bM c;refine⟨rfl,rfl,e,.inl ?_⟩;cases e with|ptr h=>exact⟨_,rfl⟩
 ·obtain⟨rfl,rfl,rfl⟩:=bM c;refine⟨rfl,rfl,e,.inr ?_⟩;cases e with|func i h1 g=>exact⟨_,_,_,rfl⟩
 ·cases c
theorem abT:∀(vs:List Value) (acc s:ByteArray),bytesOf vs acc=some s->∃a:List Int,vs=a.map (eJ .u8)∧s=a.foldl (fun r n=>r.push (gU n.toNat)) acc:=by
 intro vs
 induction vs with
 |nil=>intro acc s h;simp[bytesOf]at h;exact⟨[],rfl,h.symm⟩
 |cons v vs b=>
  intro acc s h;cases v with
  |int k n=>
   cases k with
   |u8=>obtain⟨a,rfl,c⟩:=b (acc.push (gU n.toNat)) s (by simpa[bytesOf]using h);exact⟨n::a,rfl,c⟩
   |_=>simp[bytesOf]at h
  |_=>simp[bytesOf]at h
theorem bu.ints{k:IntKind}:∀{b:List Int} {a:List Value},bu m (b.map (eJ k)) a->a=b.map (eJ k)
 |[],_,.nil=>rfl
 |_::_,_,.cons (.int _ _) t=>by rw[bu.ints t];rfl
theorem abU{v j:Value}(u:VR m v j)(x:WR P m base h w.heap)(g:mQ v h n=some ⟨r,h1,n1,L⟩):∃a l c,j= .slice a l c∧Sound P base m w h n (anJ j) r h1 n1:=by
 unfold mQ at g;split at g
 ·obtain⟨rfl,rfl,rfl⟩:=bM g;cases u;exact⟨_,_,_,rfl,m,w,.string .empty,by simp[anJ],cL.refl x,.string _⟩
 ·rename_i b B len cap;obtain⟨A,N,K,W,U,I,i,_⟩:=bind_some g;cases f:bytesOf A .empty with
  |none=>rw[f]at i;cases i
  |some s=>
   rw[f]at i;obtain⟨rfl,rfl,rfl⟩:=bM i;cases u with
   |@gB _ _ _ _ y J d hd D T R Q O=>
    obtain⟨rfl,rfl,E,z,k,p⟩:=rz x hd I;obtain⟨t,rfl,C⟩:=abT _ _ _ f;have o:=bu.ints k;subst o;refine⟨_,_,_,rfl,m,w,.string s, ?_,cL.refl x,.string _⟩;rw[C];apply run_bytesToString;have e:(t.map (eJ .u8)).length=len:=E;have:=vE (P:=P) p;rw[e]at this;by_cases G:0<len
    ·rw[D (.inl G)];exact this
    ·have q:len=0:=jO;subst q;have:t=[]:=by simpa using e
     subst this;rfl
 ·cases g
theorem abV{e:TypeId}{s:ByteArray}(E:size? P e=some 1)(x:WR P m base h w.heap)(hb:base<=w.heap.size)(hf:iQ m n n1)(y:qd e s h n=some ⟨r,h1,n1,L⟩):Sound P base m w h n (anK e s) r h1 n1:=by
 unfold qd at y;split at y
 ·rename_i u0;obtain⟨id,T,n2,L1,L2,e1,e2,_⟩:=bind_some y;obtain⟨rfl,rfl,rfl⟩:=bM e2;obtain⟨cap,f⟩:∃cap,grownCap w s.size 0 e=cap:=⟨_,rfl⟩;have t:s.size<=cap:=by rw[<-f];unfold grownCap aaU;exact Nat.le_add_right _ _
  obtain⟨cs',c⟩:∃cs':Array Value,(s.data.map fun b=>eJ .u8 b.toNat)++xF (cap-s.size) (.int .u8 0)=cs':=⟨_,rfl⟩;have g:cs'.size=cap:=by rw[<-c];simp;have:s.data.size=s.size:=rfl;omega
  obtain⟨rfl,rfl,Y,G,z⟩:=td (w:=w.drew) (P:=P) (m:=m) (base:=base) x e1 hf hb (cs':=cs') (by rw[g];simp;exact t) (fun k v l=>by
   refine⟨v, ?_, ?_⟩
   ·rw[<-c]
    have I:k<s.data.size:=by
     rcases sT k s.data.size with q|q
     ·exact q
     ·rw[oP (by simpa using q)]at l;cases l
    rw[anD (by simpa using I)];simpa using l
   ·have:v∈(s.data.map fun b=>eJ .u8 b.toNat).toList:=anx l;simp at this;obtain⟨b,_,rfl⟩:=this
    exact .int _ _) E
  have a:((w.drew.alloc (.cells cs' e)).freeze ⟨w.heap.size,cap,none⟩ 1).heap=(w.drew.alloc (.cells cs' e)).heap.modify w.heap.size (fun _=> .cells cs' e (cap,cap+1)):=by
   unfold Mr;simp only[Nat.one_ne_zero,if_false];apply Array.ext_getElem?;intro i;rw[Fk,Fk];by_cases A:w.heap.size=i
   ·subst A;have:(w.drew.alloc (.cells cs' e)).heap[w.heap.size]? =some (.cells cs' e (0,0)):=heap_alloc_new w.drew _;rw[if_pos rfl,if_pos rfl,this];simp
   ·simp[A]
  refine⟨Y,(w.drew.alloc (.cells cs' e)).freeze ⟨w.heap.size,cap,none⟩ 1,.slice (some ⟨w.heap.size,0,none⟩) s.size cap, ?_,⟨z.le,z.out, ?_, ?_⟩, ?_⟩
  ·have d:(w.drew.alloc (.cells cs' e)).shape? w.heap.size=some (e,cap):=by unfold World.shape?;rw[show(w.drew.alloc (.cells cs' e)).heap[w.heap.size]? =some (.cells cs' e (0,0))from heap_alloc_new w.drew _];simp[g]
   unfold anK;simp only[choose,bind,xC,pure];show(Sem.choose _ _).run P w=_;simp only[AJ,anL,oQ,if_false];have J:aaU (.appendCap s.size 0 e) (w.tape w.drawn (.appendCap s.size 0 e))=cap:=f;rw[J,c];simp only[newRow,newObj,bind,xC,pure,AJ,markStringish,shape];have j:({heap:=w.heap.push (.cells cs' e),tape:=w.tape,drawn:=w.drawn+1,os:=w.os,output:=w.output}:World)=w.drew.alloc (.cells cs' e):=rfl;rw[j,d];rfl
  ·have p:=z.wr;constructor
   ·intro b B hB;obtain⟨⟨u,u1,U,W,u2⟩,cs,Z,A,X,D,Q,O,K,C,N⟩:=p.live b B hB;simp only at D Q O K C N;rw[a];by_cases o:u=w.heap.size
    ·have:(w.drew.alloc (.cells cs' e)).heap[w.heap.size]? =some (.cells cs' e (0,0)):=heap_alloc_new w.drew _;rw[o,this]at D;cases D;refine⟨_,cs',cap,cap+1,X, ?_,Q,O,K,fun R=>⟨(C R).1,(C R).2.1,fun k l=>by simp only at l;omega⟩,N⟩;rw[o,Fk,if_pos rfl,this];rfl
    ·exact⟨_,cs,Z,A,X,by rw[getElem?_modify_ne _ _ (Ne.symm o)];exact D,Q,O,K,C,N⟩
   ·exact p.inj
  ·have h1:=z.below;have h0:Below base w w.drew:=anB (qS _ _)
   have T:Below base (w.drew.alloc (.cells cs' e)) ((w.drew.alloc (.cells cs' e)).freeze ⟨w.heap.size,cap,none⟩ 1):=by
    refine⟨?_, ?_, ?_, ?_,fun k l=> ?_⟩
    ·unfold Mr;simp
    ·unfold Mr;simp
    ·unfold Mr;simp
    ·rw[a];simp
    ·rw[a,getElem?_modify_ne _ _ jO]
   exact(h0.trans h1).trans T
  ·exact VR.gB G (fun _=>rfl) (fun q=>by simp[bo]at q;omega) (fun _=>⟨ah _,jO⟩) t (by simp[g])
 ·cases y
theorem abW{t:TypeId}{l c A c':Value}(G:VR m l A)(K:VR m c c')(x:WR P m base h w.heap)(N:base<=w.heap.size)(J:iQ m n n1)(a:mS P t l c h n=some ⟨r,h1,n1,L⟩):Sound P base m w h n (Instr.makeSlice t A c') r h1 n1:=by
 unfold mS at a;cases u:P.underlying t with
 |none=>rw[u]at a;cases a
 |some d=>
  rw[u]at a;cases d<;>try(cases a;done)
  rename_i e;cases G<;>try(cases a;done)
  rename_i C l;cases K<;>try(cases a;done)
  rename_i D c;simp only at a;cases i:P.info? e with
  |none=>rw[i]at a;cases a
  |some g=>
   cases o:gz P e with
   |none=>rw[i,o]at a;cases a
   |some z=>
    rw[i,o]at a;simp only at a;split at a
    ·rename_i b;simp only[bZ,decide_eq_true_eq]at b;obtain⟨⟨⟨⟨⟨T,R⟩,c3⟩,c4⟩,Z⟩,Y⟩:=b;obtain⟨id,X,U,L1,L2,Q,O,_⟩:=bind_some a;obtain⟨rfl,rfl,rfl⟩:=bM O;obtain⟨W,j,s⟩:=A5 o;rw[i]at j;cases j;have p:=Nn (m:=m) o (c.toNat*g.size);obtain⟨rfl,rfl,B,y,E⟩:=td x Q J N (cs':=aR z (c.toNat*g.size)) jS (fun k v I=>by simpa using p.get k v I) (esz:=g.size) (by simp[size?,i]);refine⟨B,_,.slice (some ⟨w.heap.size,0,none⟩) l.toNat c.toNat, ?_,E,VR.gB y (fun _=>rfl) (fun _=>rfl) (fun q=>by simp[bo]at q;omega) jO (by simp[aR])⟩
     have f:(g.bytes:Int)*c<=281474976710656:=by have h1:(g.bytes:Int)*c<=64*c:=Int.mul_le_mul_of_nonneg_right jO jO;omega
     exact run_make w t e g z u i s C D l c T R f jO
    ·cases a
end
section
variable {P:Program} {base:Nat} {m:Mp} {w:World} {h h1:H} {n n1:Nat} {r:Value} {L:List En}
theorem Np{t:TypeId}{cs cs':Array Value}(l:bu m cs.toList cs'.toList){off:Nat}(a:partOf P t cs off=some r)(w:World):∃b,(part t cs' off).run P w= .ok b w∧VR m r b:=by
 unfold partOf at a;cases d:jn P t with
 |none=>rw[d]at a;cases a
 |some g=>
  rw[d]at a;cases g with
  |true=>
   cases f:size? P t with
   |none=>rw[f]at a;cases a
   |some k=>
    rw[f]at a;simp only[dH]at a;subst a;refine⟨.agg (cs'.extract off (off+k)), ?_,.agg ?_⟩
    ·unfold part;simp only[eP,tf d w,ft,if_true,run_sizeOf f];rfl
    ·have n:cs.size=cs'.size:=by simpa using l.length
     refine bu.mf (by simp[n]) fun j v c=> ?_;simp only[Array.toList_extract,List.extract_eq_take_drop,List.getElem?_take,List.getElem?_drop]at c⊢;split at c
     ·rename_i i;rw[if_pos i];exact l.get _ v c
     ·cases c
  |false=>
   simp only at a;obtain⟨b,e,h⟩:=l.get off r (by simpa using a);refine⟨b, ?_,h⟩;unfold part;have:cs'[off]? =some b:=by simpa using e
   simp only[eP,tf d w,ft,oQ,if_false,this];rfl
theorem xU{t:TypeId}{v h:Value}{f:Nat}(i:VR m v h)(a:re P t v f=some r)(w:World):∃u,(anO t h f).run P w= .ok u w∧VR m r u:=by
 unfold re at a;cases c:P.underlying t with
 |none=>rw[c]at a;cases a
 |some d=>
  rw[c]at a;cases d<;>try(cases a;done)
  rename_i k;cases i<;>try(cases a;done)
  rename_i o l j;simp only at a;cases g:k[f]? with
  |none=>rw[g]at a;cases a
  |some n=>rw[g]at a;obtain⟨u,b,e⟩:=Np j a w;refine⟨u, ?_,e⟩;unfold anO;simp only[eP,run_underlying c,ft,g,asAgg,nu];exact b
theorem abX{t:TypeId}{v i:Value}{f:Nat}(l:VR m v i)(a:vx P t v f=some r)(w:World):∃u,(anP t i f).run P w= .ok u w∧VR m r u:=by
 unfold vx at a;cases e:P.underlying t with
 |none=>rw[e]at a;cases a
 |some d=>
  rw[e]at a;cases d<;>try(cases a;done)
  rename_i o;cases l<;>try(cases a;done)
  rename_i b c d hd;simp only at a;cases h:o[f]? with
  |none=>rw[h]at a;cases a
  |some j=>
   rw[h]at a;simp only at a;cases g:size? P j.type with
   |none=>rw[g]at a;cases a
   |some k=>
    rw[g]at a;simp only at a;split at a
    ·cases a
    ·rename_i n;cases a;refine⟨.pointer (some ⟨d.bf,d.sh+(c+j.offset),none⟩), ?_,VR.ptr hd⟩;unfold anP;simp only[eP,run_underlying e,ft,h,Fm,nu,fieldPlace,run_sizeOf g,if_neg n,lC];rw[vo]
theorem abY{t:TypeId}{v n i o:Value}(p:VR m v n)(q:VR m i o)(a:qe P t v i=some r)(w:World):∃u,(aaV t n o).run P w= .ok u w∧VR m r u:=by
 unfold qe at a;cases g:P.underlying t with
 |none=>rw[g]at a;cases a
 |some d=>
  rw[g]at a;cases d<;>try(cases a;done)
  case slice e=>
   cases p<;>try(cases a;done)
   rename_i b c len cap s y d hd x C B A z;cases q<;>try(cases a;done)
   rename_i k j;simp only at a;cases f:size? P e with
   |none=>rw[f]at a;cases a
   |some h=>
    rw[f]at a;simp only at a;split at a
    ·rename_i l;cases a;refine⟨.pointer (some ⟨d.bf,d.sh+(c+j.toNat*h),none⟩), ?_,VR.ptr hd⟩;unfold aaV;simp only[asIntOf,pure_bind,eP,run_underlying g,ft,nu,if_pos l,run_sizeOf f,lC,x (.inl jO)];rw[vo]
    ·cases a
  case array len e=>
   cases p<;>try(cases a;done)
   rename_i b c d hd;cases q<;>try(cases a;done)
   rename_i k j;simp only at a;cases f:size? P e with
   |none=>rw[f]at a;cases a
   |some h=>
    rw[f]at a;simp only at a;split at a
    ·rename_i l;cases a;refine⟨.pointer (some ⟨d.bf,d.sh+(c+j.toNat*h),none⟩), ?_,VR.ptr hd⟩;unfold aaV;simp only[asIntOf,pure_bind,eP,run_underlying g,ft,nu,Fm,if_pos l,run_sizeOf f,lC];rw[vo]
    ·cases a
theorem abZ{t:TypeId}{v h i l:Value}(n:VR m v h)(p:VR m i l)(a:vz P t v i=some r)(w:World):∃u,(AL t h l).run P w= .ok u w∧VR m r u:=by
 unfold vz at a;cases c:P.underlying t with
 |none=>rw[c]at a;cases a
 |some d=>
  rw[c]at a;cases d<;>try(cases a;done)
  rename_i len e;cases n<;>try(cases a;done)
  rename_i y s q;cases p<;>try(cases a;done)
  rename_i k j;simp only at a;cases f:size? P e with
  |none=>rw[f]at a;cases a
  |some x=>
   rw[f]at a;simp only at a;split at a
   ·rename_i o;obtain⟨u,b,g⟩:=Np q a w;refine⟨u, ?_,g⟩;unfold AL;simp only[asIntOf,pure_bind,eP,run_underlying c,ft,if_pos o,run_sizeOf f];exact b
   ·cases a
theorem ab0{v d:Value}{i:Nat}(e:VR m v d)(a:rf v i=some r)(w:World):∃u,(anQ d i).run P w= .ok u w∧VR m r u:=by
 unfold rf at a;cases e<;>try(cases a;done)
 rename_i h c g;simp only at a;obtain⟨u,f,b⟩:=g.get i r (by simpa using a);have:c[i]? =some u:=by simpa using f
 exact⟨u,by simp[anQ,this],b⟩
def rA(m:Mp)(a b:Option Value):Prop:=match a,b with
 |none,none=>True
 |some x,some y=>VR m x y
 |_,_=>False
theorem vG{a b:Option Value}{d k:Nat}(e:rA m a b)(c:ej a d=some k):(a=none∧b=none∧k=d)∨∃f i,a=some (.int f i)∧b=some (.int f i)∧0<=i∧k=i.toNat:=by
 unfold ej at c;cases a with
 |none=>
  cases b with
  |none=>left;exact⟨rfl,rfl,by simpa using c.symm⟩
  |some y=>cases e
 |some x=>
  cases b with
  |none=>cases e
  |some y=>have e:VR m x y:=e;cases e<;>simp at c;rename_i f i;exact .inr ⟨f,i,rfl,rfl,c.1,c.2.symm⟩
theorem qh{k:IntKind}{i:Int}{y:Nat}{a:BoundsCode}(b:0<=i)(h1:i.toNat<=y)(w:World):(Ms (.int k i) y a).run P w= .ok i.toNat w:=by have:0<=i∧i<=(y:Int):=⟨b,jO⟩;simp[Ms,asIntOf,this]
theorem Nq{t:TypeId}{v v':Value}(u1:∀b off l c e,v= .slice (some ⟨b,off,none⟩) l c->P.underlying t=some (.slice e)->∃d,m b=some d∧size? P e=some d.esz){lo O B J K I:Option Value}(hv:VR m v v')(hl:rA m lo J)(hh:rA m O K)(hm:rA m B I)(g:vw P t v lo O B=some r)(w:World):
 ∃u,(Fp t v' J K I).run P w= .ok u w∧VR m r u:=by
 unfold vw at g;cases W:P.underlying t with
 |none=>rw[W]at g;cases g
 |some dd=>
  rw[W]at g;cases dd<;>try(cases g;done)
  rename_i e
  have N:∀(a:Option Addr) (len cap f:Nat),(∀G o i p,size? P e=some G->ej B cap=some o->ej O len=some i->ej lo 0=some p->(B.isSome&& !O.isSome)=false->
   (p<=i∧i<=o∧o<=cap∧(cap<bo∨(B=none∧i<=len)))->(cap<bo->f=cap)->len<=f->
   (Fp t (.slice a len f) J K I).run P w= .ok (.slice (if(if B=none then f else o)=p then a else a.map (·.add (p*G))) (i-p) ((if B=none then f else o)-p)) w):=by
   intro a len cap f G o i p y h j n C z k u4;obtain⟨R,c2,c3,c4⟩:=z
   have x:i<=f:=by
    rcases c4 with q|⟨_,q⟩
    ·rw[k q];omega
    ·omega
   have E:(anR true len f J K I).run P w= .ok (p,i,if B=none then f else o) w:=by
    unfold anR;rcases vG hm h with ⟨rfl,rfl,rfl⟩|⟨km,im,rfl,rfl,pm,rfl⟩
    ·rcases vG hh j with ⟨rfl,rfl,rfl⟩|⟨kh,ih,rfl,rfl,U,rfl⟩
     ·rcases vG hl n with ⟨rfl,rfl,rfl⟩|⟨kl,il,rfl,rfl,T,rfl⟩
      ·simp
      ·simp[qh T R w]
     ·rcases vG hl n with ⟨rfl,rfl,rfl⟩|⟨kl,il,rfl,rfl,T,rfl⟩
      ·simp[qh U x w]
      ·simp[qh U x w,qh T R w]
    ·rcases vG hh j with ⟨rfl,rfl,rfl⟩|⟨kh,ih,rfl,rfl,U,rfl⟩
     ·simp at C
     ·have q:cap<bo:=by
       rcases c4 with q|⟨q,_⟩
       ·exact q
       ·cases q
      have e:im.toNat<=f:=by rw[k q];exact c3
      rcases vG hl n with ⟨rfl,rfl,rfl⟩|⟨kl,il,rfl,rfl,T,rfl⟩
      ·simp[qh pm e w,qh U c2 w]
      ·simp[qh pm e w,qh U c2 w,qh T R w]
   unfold Fp;simp only[eP,run_underlying W,ft];unfold Instr.slice;simp only[eP,run_underlying W,ft,E,run_sizeOf y,nu]
  cases hv<;>try(cases g;done)
  case mh len cap k=>
   simp only at g;cases y:size? P e with
   |none=>rw[y]at g;cases g
   |some G=>
    cases h:ej B cap with
    |none=>rw[y,h]at g;cases g
    |some o=>
     cases j:ej O len with
     |none=>rw[y,h,j]at g;cases g
     |some i=>
      cases n:ej lo 0 with
      |none=>rw[y,h,j,n]at g;cases g
      |some p=>
       rw[y,h,j,n]at g;simp only at g;split at g
       ·cases g
       ·rename_i C;split at g
        ·rename_i z;cases g;simp only[bZ,oO,decide_eq_true_eq,anS]at z
         have D:(if B=none then cap else o)=o:=by
          split
          ·rename_i q;subst q;simpa[ej]using h
          ·rfl
         refine⟨_,N none len cap cap G o i p y h j n (Bool.eq_false_iff.2 C) ⟨z.1.1.1,z.1.1.2,z.1.2,z.2⟩ (fun _=>rfl) k.1, ?_⟩;rw[D];have:(if o=p then(none:Option Addr)else Option.map (fun(q:Addr)=>q.add (p*G)) none)=none:=by split<;>rfl
         rw[this];exact .mh _ _ jO
        ·cases g
  case o4 b off s a'=>
   exfalso;simp only at g
   repeat' (first|(cases g;done)|split at g)
  case gB b off len cap f o' d hd ho R c2 c3 c4=>
   simp only at g;cases y:size? P e with
   |none=>rw[y]at g;cases g
   |some G=>
    cases h:ej B cap with
    |none=>rw[y,h]at g;cases g
    |some o=>
     cases j:ej O len with
     |none=>rw[y,h,j]at g;cases g
     |some i=>
      cases n:ej lo 0 with
      |none=>rw[y,h,j,n]at g;cases g
      |some p=>
       rw[y,h,j,n]at g;simp only at g;split at g
       ·cases g
       ·rename_i C;split at g
        ·rename_i z;cases g;simp only[bZ,oO,decide_eq_true_eq,anS]at z;refine⟨_,N _ len cap f G o i p y h j n (Bool.eq_false_iff.2 C) ⟨z.1.1.1,z.1.1.2,z.1.2,z.2⟩ R c3, ?_⟩;obtain⟨d2,Y,L⟩:=u1 b off len cap e rfl W;rw[hd]at Y;cases Y;rw[y]at L;have L:G=d.esz:=by simpa using L
         subst L;obtain⟨⟨⟨k1,k2⟩,k3⟩,k4⟩:=z;by_cases k:cap<bo
         ·have u3:=R k;subst u3;have u2:=ho (.inr k);subst u2
          have D:(if B=none then f else o)=o:=by
           split
           ·rename_i q;subst q;simpa[ej]using h
           ·rfl
          rw[D];have X:p*d.esz+(o-p)*d.esz=o*d.esz:=by rw[<-oR];congr 1;omega
          have u6:o*d.esz<=f*d.esz:=Nat.mul_le_mul_right _ k3;by_cases A:o=p
          ·rw[if_pos A,if_pos A];exact VR.gB hd (fun _=>rfl) (fun _=>rfl) (fun q=>by omega) jO jO
          ·rw[if_neg A,if_neg A];simp only[AH,lC];exact VR.gB hd (fun _=>by omega) (fun _=>rfl) (fun q=>by omega) jO jO
         ·have x:bo<=cap:=jO;obtain⟨q1,q2⟩:=c2 x;rcases k4 with k4|⟨k4,k5⟩
          ·omega
          ·subst k4;have D:o=cap:=by simpa[ej]using h.symm
           subst D;simp only[if_true];have u7:p<=f:=jO;have X:p*d.esz+(f-p)*d.esz=f*d.esz:=by rw[<-oR];congr 1;omega
           have A:¬o=p:=by unfold bo at*;omega
           rw[if_neg A];by_cases Z:f=p
           ·rw[if_pos Z];exact VR.gB hd (fun q=>by omega) (fun q=>by omega) (fun q=>by omega) jO jO
           ·rw[if_neg Z];simp only[AH,lC];exact VR.gB hd (fun q=>by have:=ho (.inl jO);omega) (fun q=>by omega) (fun q=>by omega) jO jO
        ·cases g
end
end Go.Proofs.YtmjolmggelkjlaaGreat.Ev
