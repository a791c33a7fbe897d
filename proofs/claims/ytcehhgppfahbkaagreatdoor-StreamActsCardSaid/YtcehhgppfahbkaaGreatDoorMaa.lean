import Derived.WalkKit
import Derived.WalkSpells
import Derived.WalkLawsBesides
import Derived.Lib.Bytealg
import Derived.Lib.Bytes
import Derived.Lib.Repeat
import Derived.Laws.Append
import Derived.Laws.Cells
import Derived.Orders
import Derived.Laws.Sem
import Derived.Laws.MakeOwn
import Derived.Laws.BytesString
open Nat renaming le_refl→ai, add_mul→fW, add_assoc→iA, pow_succ→lH, le_trans→rY, lt_or_ge→Cl, strongRecOn→Od
open List renaming getD_eq_getElem?_getD→aC, getElem?_eq_none→jM, foldl_cons→Cj, getElem?_set_ne→apJ, mem_of_getElem?→apQ
open Bool renaming and_eq_true→cD, or_eq_true→mr, false_eq_true→nD, true_and→oA
open UInt8 renaming ofNat→dT
open Option.some renaming injEq→ep, inj→r3
open Go.Sem renaming run_bind→eF, run_pure→oB, bind→zs, run→Ch
open Go.Result renaming andThen→eP
open Go.Region renaming wanted→fP, binds→pD, ready→Oe
open Go.Value renaming int→gW
open Go.Instr renaming fill→lG, index→Cp, sureAddr→Hn, sliceAt→Ho, sliceBound→Oj, build→ac', buildSlice→ac_, loadAt→ada, indexAt→adf, alloc→apW, storeAt→apY, field→ap3, fieldAt→ap4, extract→ap5, sliceBounds→ap6
open Array renaming getD_eq_getD_getElem?→pE, all_eq_true_iff_forall_mem→ur, replicate→zt, getElem?_modify→Hm, getElem?_setIfInBounds_ne→ac8, map_congr_left→ac9, mem_of_getElem?→apS, getElem?_replicate→apU, getElem?_append_left→apV
open Go.RowKit.Below renaming refl→rX, drew→apT
open Go.Call renaming operands→xp
open Option renaming map_some→Cg, bind_some→Ob, isNone_iff_eq_none→ap7
open Go.World renaming freeze→Og
open Go.Question renaming cut→adb, forced→ap1
open Go renaming undef→apK
open Go.Act renaming put→apN
open Go.Oper renaming looksAt→apP, apart_spec→apR
open Go.Conv renaming bytesToString→apZ, stringToBytes→ap0
open Classical renaming choose→arR, choose_spec→arS
set_option linter.unusedVariables false
set_option linter.unusedSimpArgs false
namespace Go.Proofs.YtcehhgppfahbkaaGreatDoor
theorem jO{p:Prop}(h:p:=by omega):p:=h
theorem jD{p:Prop}(h:p:=by decide):p:=h
theorem jS{p:Prop}(h:p:=by simp):p:=h
theorem jK{c:Sort _}{a b:c}(h:a=b:=by kernel_rfl):a=b:=h
end Go.Proofs.YtcehhgppfahbkaaGreatDoor
namespace Go.Proofs.YtcehhgppfahbkaaGreatDoor.Ev
open Go
def KN:List FuncId:=[10,229,158,211]
def NV:List (FuncId×Nat):=[(158,1),(211,2)]
def OQ:FuncId->List Value->Option Value:=fun _ _=>none
def OR:FuncId->Nat:=fun _=>0
def CC:FuncId->Nat->List Value->Option Value:=fun _ _ _=>none
def KG:List (Nat×Nat×Value):=[(1,0,.int .i64 200),(1,1,.int .i64 600),(1,2,.int .i64 1200),(1,3,.int .i64 2400)]
theorem aI{a b:Prop}(x:a)(y:b):a∧b:=And.intro x y
inductive Tr (α:Type) where
 |nil
 |node (l:Tr α) (v:Option α) (r:Tr α)
def Tr.get{a:Type}:Nat->Tr a->Nat->Option a
 |0,_,_=>none
 |_+1,.nil,_=>none
 |f+1,.node l v r,i=>if i=0 then v else if i %2=1 then Tr.get f l (i/2)else Tr.get f r (i/2-1)
def Tr.set{b:Type}:Nat->Tr b->Nat->Option b->Tr b
 |0,t,_,_=>t
 |f+1,.nil,i,a=>if i=0 then .node .nil a .nil else if i %2=1 then .node (Tr.set f .nil (i/2) a) none .nil else .node .nil none (Tr.set f .nil (i/2-1) a)
 |f+1,.node l v r,i,a=>if i=0 then .node l a r else if i %2=1 then .node (Tr.set f l (i/2) a) v r else .node l v (Tr.set f r (i/2-1) a)
structure AB where
 elem:TypeId
 own:Bool
 cells:List Value
abbrev H:=Tr AB
def H.get(h:H)(b:Nat):Option AB:=Tr.get (b+1) h b
def H.set(h:H)(b:Nat)(x:Option AB):H:=Tr.set (b+1) h b x
abbrev S:=Tr Value
def S.get(s:S)(t:Nat):Value:=(Tr.get 10 s t).getD undef
def S.put(s:S)(t:Nat)(v:Value):S:=Tr.set 10 s t (some v)
structure En where
 wr:Bool
 b:Nat
 k:Option Nat
structure Out (α:Type) where
 val:α
 h:H
 n:Nat
 log:List En
def M(a:Type):=H->Nat->Option (Out a)
def M.ret{b:Type}(a:b):M b:=fun h n=>some ⟨a,h,n,[]⟩
def M.fail{a:Type}:M a:=fun _ _=>none
def M.lift{b:Type}(o:Option b):M b:=fun h n=>match o with|some a=>some ⟨a,h,n,[]⟩|none=>none
def M.bind{d b:Type}(m:M d)(f:d->M b):M b:=fun h n=>
 match m h n with
 |some ⟨a,j,g,l⟩=>match f a j g with
  |some ⟨c,i,e,k⟩=>some ⟨c,i,e,l++k⟩
  |none=>none
 |none=>none
instance:Monad M where
 pure:=M.ret
 bind:=M.bind
def rd(b k:Nat):M Value:=fun h n=>
 if b<n then match h.get b with
  |some B=>match B.cells[k]? with
   |some v=>some ⟨v,h,n,[⟨false,b,some k⟩]⟩
   |none=>none
  |none=>none
 else none
def one:Value->Bool
 | .agg _| .tuple _=>false
 |_=>true
def wr(b k:Nat)(v:Value):M Unit:=fun h n=>
 if b<n then match h.get b with
  |some B=>if B.own&&k<B.cells.length&&one v then some ⟨(),h.set b (some {B with cells:=B.cells.set k v}),n,[⟨false,b,some k⟩,⟨true,b,some k⟩]⟩else none
  |none=>none
 else none
def dy(e:TypeId)(cs:List Value):M Nat:=fun h n=>if n<n+1 then some ⟨n,h.set n (some ⟨e,true,cs⟩),n+1,[]⟩else none
def whole(b:Nat):M AB:=fun h n=>
 if b<n then match h.get b with
  |some B=>some ⟨B,h,n,[⟨false,b,none⟩]⟩
  |none=>none
 else none
def gZ(b:Nat):M TypeId:=fun h n=>
 if b<n then match h.get b with
  |some B=>some ⟨B.elem,h,n,[⟨false,b,some 1099511627776⟩]⟩
  |none=>none
 else none
def kill(b:Nat):M Unit:=fun h n=>
 if b<n then match h.get b with
  |some B=>if B.own then some ⟨(),h.set b none,n,[⟨false,b,none⟩,⟨true,b,none⟩]⟩else none
  |none=>none
 else none
def cW(b k:Nat):Nat->M (List Value)
 |0=> .ret []
 |n+1=>(rd b k).bind fun v=>(cW b (k+1) n).bind fun a=> .ret (v::a)
def eK(b k:Nat):List Value->M Unit
 |[]=> .ret ()
 |v::a=>(wr b k v).bind fun _=>eK b (k+1) a
def inside{b:Type}(m:M b):M b:=fun h n=>
 match m h n with
 |some ⟨a,d,c,L⟩=>some ⟨a,d,c,L.filter fun e=> !(n<=e.b&&e.b<c)⟩
 |none=>none
def aU:Nat:=1152921504606846976
def jf(P:Program)(t:TypeId):Option Bool:=
 match P.underlying t with
 |some (.struct _)|some (.array _ _)=>some true
 |some _=>some false
 |none=>none
def size?(P:Program)(t:TypeId):Option Nat:=(P.info? t).map (·.size)
def qG:Value->Bool
 | .bool _| .int _ _| .float _ _| .string _| .pointer none| .nilFunc=>true
 | .slice none n c=>n<=c&&c<aU
 |_=>false
def clean:Value->Bool
 | .agg a=>a.all qG
 | .tuple a=>a.all qG
 |v=>qG v
def fQ(P:Program)(t:TypeId):Option Value:=match (P.info? t).bind (·.zero)with
 |some z=>if clean z then some z else none
 |none=>none
def scalar:Value->Bool
 | .bool _| .int _ _| .string _=>true
 |_=>false
def jg(P:Program):Sem Next->Option Value
 | .pure (.value v)=>some v
 | .program k=>jg P (k P)
 |_=>none
def partOf(P:Program)(t:TypeId)(cs:Array Value)(off:Nat):Option Value:=
 match jf P t,size? P t with
 |some true,some n=>some (.agg (cs.extract off (off+n)))
 |some false,_=>cs[off]?
 |_,_=>none
def bytesOf:List Value->ByteArray->Option ByteArray
 |[],a=>some a
 | .int .u8 n::r,a=>bytesOf r (a.push (dT n.toNat))
 |_,_=>none
inductive Nx where
 |val (v:Value)
 |call (f:FuncId) (args:Array Value)
def ji(sz:Nat)(n:Nat):Value->M (List Value)
 | .slice (some ⟨b,a,none⟩) _ _=>cW b a (n*sz)
 | .string s=> .ret ((s.extract 0 n).data.map fun b=>gW .u8 b.toNat).toList
 |_=> .fail
def gd:Value->Option Nat
 | .slice _ n _=>some n
 | .string s=>some s.size
 |_=>none
def nH(e:TypeId)(l n:Nat)(old a:List Value):M Value:=
 (dy e (old++a)).bind fun id=> .ret (.slice (some ⟨id,0,none⟩) (l+n) (aU+(l+n)))
def uB(e:TypeId)(n sz b off l cap:Nat)(c:List Value):M Value:=
 if cap<aU then
  if l+n<=cap then(eK b (off+l*sz) c).bind fun _=> .ret (.slice (some ⟨b,off,none⟩) (l+n) cap)
  else(cW b off (l*sz)).bind fun a=>nH e l n a c
 else(cW b off (l*sz)).bind fun a=>(kill b).bind fun _=>nH e l n a c
def pH(P:Program)(d:TypeId)(s x:Value):M Value:=
 match P.underlying d with
 |some (.slice e)=>match P.info? e,fQ P e,gd x with
  |some c,some z,some n=>
    if z.cells.size=c.size&&1<=c.size&&c.bytes<=64 then
    if n=0 then(match s with| .slice _ _ _=> .ret s|_=> .fail)else
    match s with
    | .slice none 0 0=>if n<=1099511627776 then(ji c.size n x).bind fun a=>if a.length=n*c.size&&a.all one then nH e 0 n [] a else .fail else .fail
    | .slice (some ⟨b,f,none⟩) l cap=>
      if l+n<=1099511627776 then
      (gZ b).bind fun g=>if g=e then
        (ji c.size n x).bind fun a=>if a.length=n*c.size&&a.all one then uB e n c.size b f l cap a else .fail
      else .fail
      else .fail
    |_=> .fail
    else .fail
  |_,_,_=> .fail
 |_=> .fail
def eG(o:Option Value)(d:Nat):Option Nat:=
 match o with
 |none=>some d
 |some (.int _ i)=>if 0<=i then some i.toNat else none
 |_=>none
def pI:Option TypeDesc->Value->Value->Option Bool
 |some (.pointer _),.pointer none,.pointer b=>some b.isNone
 |some (.pointer _),.pointer _,.pointer none=>some false
 |some (.slice _),.slice none _ _,.slice b _ _=>some b.isNone
 |some (.slice _),.slice _ _ _,.slice none _ _=>some false
 |some (.func _ _ _),.nilFunc,.nilFunc=>some true
 |some (.func _ _ _),.nilFunc,.func _ _ _=>some false
 |some (.func _ _ _),.func _ _ _,.nilFunc=>some false
 |_,_,_=>none
def OS:Option TypeDesc->Option Nat
 |some (.int _)=>some 0
 |some .string=>some 1
 |some .bool=>some 2
 |_=>none
def zG(P:Program):Nat->List Field->Option (List Nat)
 |_,[]=>some []
 |i,f::r=>match OS (P.underlying f.type),size? P f.type,zG P (i+1) r with
  |some d,some 1,some l=>if f.name != "_" &&f.offset==i then some (d::l)else none
  |_,_,_=>none
def uC(P:Program)(t:TypeId):Option (List Nat):=match P.underlying t with
 |some (.struct a)=>if P.stoodInHeld t||P.eqGuardType P.depth t then none else zG P 0 a.toList
 |_=>none
def CD:Nat->Value->Value->Option Bool
 |0,.int k a,.int c b=>if k=c then some (a==b)else none
 |1,.string a,.string b=>some (a==b)
 |2,.bool a,.bool b=>some (a==b)
 |_,_,_=>none
def kT:List Nat->List Value->List Value->Option Bool
 |[],[],[]=>some true
 |d::c,x::l,y::m=>match CD d x y,kT c l m with
  |some a,some b=>some (a&&b)
  |_,_=>none
 |_,_,_=>none
def HM(a:Option (List Nat))(x y:Value):Option Bool:=match a,x,y with
 |some a,.agg c,.agg b=>kT a c.toList b.toList
 |_,_,_=>none
def pJ(P:Program)(t:TypeId)(x y:Value):Option Bool:=match pI (P.underlying t) x y with
 |some b=>some b
 |none=>HM (uC P t) x y
def xy(P:Program)(t:TypeId)(x:Value)(lo f d:Option Value):Option Value:=
 match P.underlying t,x with
 |some (.slice e),.slice a len cap=>
  match size? P e,eG d cap,eG f len,eG lo 0 with
  |some g,some m,some h,some l=>
   if d.isSome&& !f.isSome then none else
   if l<=h&&h<=m&&m<=cap&&(cap<aU||(d.isNone&&h<=len))then
    match a with
    |none=>some (.slice none (h-l) (m-l))
    |some ⟨b,c,none⟩=>some (.slice (some ⟨b,if m=l then c else c+l*g,none⟩) (h-l) (m-l))
    |_=>none
   else none
  |_,_,_,_=>none
 |_,_=>none
def oE(P:Program)(t:TypeId)(x:Value)(lo c a:Option Value):M Value:=
 match x with
 | .slice (some ⟨b,_,none⟩) _ _=>(gZ b).bind fun d=>match P.underlying t with
   |some (.slice e)=>if size? P d=size? P e then M.lift (xy P t x lo c a)else .fail
   |_=> .fail
 |_=>M.lift (xy P t x lo c a)
def nI(P:Program)(e:TypeId):M Value:=
 match fQ P e with
 |some z=>(dy e z.cells.toList).bind fun id=> .ret (.pointer (some ⟨id,0,none⟩))
 |none=> .fail
def nJ(P:Program)(e:TypeId)(v:Value):M Value:=
 match size? P e with
 |some _=>(dy e v.cells.toList).bind fun id=> .ret (.pointer (some ⟨id,0,none⟩))
 |none=> .fail
def placeOf(P:Program)(a:Array Field)(i:Nat):Option (Nat×Nat):=(a[i]?).bind fun f=>(size? P f.type).map fun n=>(f.offset,n)
def xz(P:Program):TypeDesc->Option (Nat->Option (Nat×Nat))
 | .struct a=>match a.all fun f=>(size? P f.type).isSome with
   |true=>some (placeOf P a)
   |false=>none
 | .array _ e=>match size? P e with
   |some s=>some fun i=>some (i*s,s)
   |none=>none
 |_=>none
def mC(P:Program)(t:TypeId)(a:List (Nat×Value)):M Value:=
 match fQ P t,P.underlying t with
 |some z,some d=>match xz P d with
  |some b=>(match lG b z.cells a with
   |some c=> .ret (.agg c)
   |none=> .fail)
  |none=> .fail
 |_,_=> .fail
def gf(z:Value)(n:Nat):Array Value:=(Array.range n).map (z.cells[·%z.cells.size]!)
def mD(P:Program)(t:TypeId)(len:Nat)(a:List (Nat×Value)):M Value:=
 match P.underlying t with
 |some (.slice e)=>match size? P e,fQ P e with
  |some b,some z=>
   if len=0&&a.isEmpty then(dy e []).bind fun id=> .ret (.slice (some ⟨id,0,none⟩) 0 0)else
   if 0<len*b&&len*b<=65536 then
    match lG (fun i=>some (i*b,b)) (gf z (len*b)) a with
    |some c=>(dy e c.toList).bind fun id=> .ret (.slice (some ⟨id,0,none⟩) len len)
    |none=> .fail
   else .fail
  |_,_=> .fail
 |_=> .fail
def jj(P:Program)(t:TypeId):Value->M Value
 | .pointer (some ⟨b,a,none⟩)=>match jf P t,size? P t with
   |some true,some n=>(cW b a n).bind fun c=> .ret (.agg c.toArray)
   |some false,_=>rd b a
   |_,_=> .fail
 |_=> .fail
def oF(P:Program)(t:TypeId)(a x:Value):M Value:=
 match a with
 | .pointer (some ⟨b,c,none⟩)=>match size? P t with
   |some n=>if x.cells.size=n then(eK b c x.cells.toList).bind fun _=> .ret undef else .fail
   |none=> .fail
 |_=> .fail
def qH:Value->M Value
 | .pointer (some a)=> .ret (.pointer (some a))
 | .func (.func f) a b=> .ret (.func (.func f) a b)
 |_=> .fail
def nK:Value->M Value
 | .slice none _ _=> .ret (.string .empty)
 | .slice (some ⟨b,a,none⟩) len _=>(cW b a len).bind fun c=>match bytesOf c .empty with
   |some s=> .ret (.string s)
   |none=> .fail
 |_=> .fail
def qI(e:TypeId)(s:ByteArray):M Value:=
 if s.size<=1099511627776 then(dy e (s.data.map fun b=>gW .u8 b.toNat).toList).bind fun id=> .ret (.slice (some ⟨id,0,none⟩) s.size (aU+s.size))else .fail
def nL(P:Program)(e:TypeId):Bool:=match P.underlying e with|some (.int .u8)=>true|_=>false
def si:Option TypeDesc->Option TypeDesc->Option TypeId
 |some (.slice e),some .string=>some e
 |_,_=>none
def uD:Option TypeDesc->Option TypeDesc->Value->Option (TypeId×ByteArray)
 |some .string,some (.slice e),.string s=>some (e,s)
 |_,_,_=>none
def nM(P:Program)(t:TypeId)(l c:Value):M Value:=
 match P.underlying t,l,c with
 |some (.slice e),.int _ l,.int _ c=>match P.info? e,fQ P e with
  |some a,some z=>if 0<=l&&l<=c&&c<=1099511627776&&a.bytes<=64&&z.cells.size=a.size&&1<=a.size then
    (dy e (gf z (c.toNat*a.size)).toList).bind fun id=> .ret (.slice (some ⟨id,0,none⟩) l.toNat c.toNat)
   else .fail
  |_,_=> .fail
 |_,_,_=> .fail
def xA(P:Program)(s:TypeId)(x:Value)(f:Nat):Option Value:=
 match P.underlying s,x with
 |some (.struct d),.pointer (some ⟨b,a,none⟩)=>match d[f]? with
  |some c=>match size? P c.type with
   |some n=>if n=0 then none else some (.pointer (some ⟨b,a+c.offset,none⟩))
   |none=>none
  |none=>none
 |_,_=>none
def sq(P:Program)(t:TypeId)(x:Value)(f:Nat):Option Value:=
 match P.underlying t,x with
 |some (.struct b),.agg c=>match b[f]? with
  |some a=>partOf P a.type c a.offset
  |none=>none
 |_,_=>none
def qJ(P:Program)(t:TypeId)(x d:Value):Option Value:=
 match P.underlying t,x,d with
 |some (.slice e),.slice (some ⟨b,a,none⟩) len _,.int _ i=>match size? P e with
  |some c=>if 0<=i∧i<len then some (.pointer (some ⟨b,a+i.toNat*c,none⟩))else none
  |none=>none
 |some (.array len e),.pointer (some ⟨b,a,none⟩),.int _ i=>match size? P e with
  |some c=>if 0<=i∧i<len then some (.pointer (some ⟨b,a+i.toNat*c,none⟩))else none
  |none=>none
 |_,_,_=>none
def xB(P:Program)(t:TypeId)(x b:Value):Option Value:=
 match P.underlying t,x,b with
 |some (.array len e),.agg c,.int _ i=>match size? P e with
  |some a=>if 0<=i∧i<len then partOf P e c (i.toNat*a)else none
  |none=>none
 |_,_,_=>none
def su(x:Value)(i:Nat):Option Value:=
 match x with
 | .tuple a=>a[i]?
 |_=>none
def gh(P:Program)(ρ:Operand->Value)(o:Oper):M Nx:=
 if o.op.operands.all fun x=>scalar (ρ x)then(M.lift (jg P (execOp ρ o))).bind fun v=>if scalar v then .ret (.val v)else .fail else .fail
def isStr:Value->Bool
 | .string _=>true
 |_=>false
def CE:Value->Option (FuncId×Array Value×Array Value)
 | .func (.func g) first a=>some (g,first,a)
 |_=>none
def mE(P:Program)(g:FuncId):Bool:=match P.funcs[g]? with
 |some a=>a.body.isSome
 |none=>false
def OT(P:Program)(t:TypeId):Bool:=match P.underlying t with
 |some (.slice _)|some .string=>true
 |_=>false
def xC(P:Program)(a:Array TypeId)(args:List Value):Option (TypeId×Value×Value):=match a[0]?,a[1]?,args with
 |some t,some u,[s,x]=>if OT P u then some (t,s,x)else none
 |_,_,_=>none
def pK(P:Program)(t:TypeId)(d s:Value):M Value:=
 match P.underlying t with
 |some (.slice e)=>match size? P e,d,gd s with
  |some i,.slice a g _,some c=>
   if 0<Nat.min c g then(match a with
    |some ⟨b,f,none⟩=>(ji i (Nat.min c g) s).bind fun h=>(eK b f h).bind fun _=> .ret (.int .i64 (Nat.min c g))
    |_=> .fail)
   else .ret (.int .i64 0)
  |_,_,_=> .fail
 |_=> .fail
def xD(a:Array TypeId)(args:List Value):Option (TypeId×Value×Value):=match a[0]?,args with
 |some t,[d,s]=>some (t,d,s)
 |_,_=>none
def uE(P:Program)(a:Array TypeId)(args:List Value):Option Nat:=match a[0]?,args with
 |some t,.slice _ n _::_=>(match P.underlying t with|some (.slice _)=>some n|_=>none)
 |_,_=>none
def kE(P:Program)(ρ:Operand->Value)(o:Oper)(c:Call)(args:Array Value):M Nx:=
 match c.callee with
 | .value f=>match CE (ρ f)with
   |some (g,first,a)=>if mE P g then .ret (.call g (first++args++a))else .fail
   |none=> .fail
 | .builtin .append=>match xC P c.argTypes args.toList with
   |some (t,s,x)=>(pH P t s x).bind fun v=> .ret (.val v)
   |none=> .fail
 | .builtin .copy=>match xD c.argTypes args.toList with
   |some (t,d,s)=>(pK P t d s).bind fun v=> .ret (.val v)
   |none=> .fail
 | .builtin .len=>match uE P c.argTypes args.toList with
   |some n=> .ret (.val (.int .i64 n))
   |none=>gh P ρ o
 | .builtin .min| .builtin .max=>gh P ρ o
 |_=> .fail
def cC(P:Program)(ρ:Operand->Value)(o:Oper):M Nx:=
 match o.op with
 | .move x| .assign x=> .ret (.val (ρ x))
 | .pick c a b=>match ρ c with
   | .bool t=> .ret (.val (if t then ρ a else ρ b))
   |_=> .fail
 | .alloc e=>(nI P e).bind fun v=> .ret (.val v)
 | .box e x=>(nJ P e (ρ x)).bind fun v=> .ret (.val v)
 | .build t d=>(mC P t (d.toList.map fun(i,x)=>(i,ρ x))).bind fun v=> .ret (.val v)
 | .buildSlice t len d=>(mD P t len (d.toList.map fun(i,x)=>(i,ρ x))).bind fun v=> .ret (.val v)
 | .load t a=>(jj P t (ρ a)).bind fun v=> .ret (.val v)
 | .store t a x=>(oF P t (ρ a) (ρ x)).bind fun v=> .ret (.val v)
 | .nilCheck x=>(qH (ρ x)).bind fun v=> .ret (.val v)
 | .binOp j t x y _=>match pJ P t (ρ x) (ρ y),j with
   |some v,.eql=> .ret (.val (.bool v))
   |some v,.neq=> .ret (.val (.bool (!v)))
   |none,_=>gh P ρ o
   |_,_=> .fail
 | .unOp _ _ _=>gh P ρ o
 | .convert src g x=>match si (P.underlying src) (P.underlying g)with
   |some e=>if nL P e then(nK (ρ x)).bind fun v=> .ret (.val v)else .fail
   |none=>match uD (P.underlying src) (P.underlying g) (ρ x)with
    |some (e,s)=>if nL P e&&size? P e==some 1 then(qI e s).bind fun v=> .ret (.val v)else .fail
    |none=>gh P ρ o
 | .makeFunc p a b=> .ret (.val (.func p (a.map ρ) (b.map ρ)))
 | .makeSlice t l c=>(nM P t (ρ l) (ρ c)).bind fun v=> .ret (.val v)
 | .slice t x m n k=>if isStr (ρ x)then gh P ρ o else(oE P t (ρ x) (m.map ρ) (n.map ρ) (k.map ρ)).bind fun v=> .ret (.val v)
 | .fieldAddr s x f=>(M.lift (xA P s (ρ x) f)).bind fun v=> .ret (.val v)
 | .field t x f=>(M.lift (sq P t (ρ x) f)).bind fun v=> .ret (.val v)
 | .indexAddr t x h=>(M.lift (qJ P t (ρ x) (ρ h))).bind fun v=> .ret (.val v)
 | .index t x h=>if isStr (ρ x)then gh P ρ o else(M.lift (xB P t (ρ x) (ρ h))).bind fun v=> .ret (.val v)
 | .extract t i=>(M.lift (su (ρ t) i)).bind fun v=> .ret (.val v)
 | .call c=>kE P ρ o c (c.args.map ρ)
 |_=> .fail
def ev(s:S):Operand->Value
 | .tmp t=>s.get t
 | .const v=>v
 | .global g=> .pointer (some ⟨g,0,none⟩)
 | .func f=> .func (.func f) #[] #[]
def aq7(nt:Nat)(s:S)(a:Option Tmp)(v:Value):Option S:=
 match a with
 |none=>some s
 |some d=>if d<nt&&d<1023 then some (s.put d v)else none
def gG(ops:Array Oper)(s:S)(j:Nat):Option Bool:=
 match (ops[j]?).bind (·.dst)with
 |some t=>match s.get t with
  | .bool b=>some b
  |_=>none
 |none=>none
def lM:List Oper->List Nat->List Nat
 |[],acc=>acc
 |o::r,acc=>lM r (acc++[o.after.toList.foldl (fun s e=>if pD .any e then s|||2^e.on|||acc.getD e.on 0 else s) 0])
structure Tk where
 n:Nat
 n1:Nat
 log:List En
def bx{b:Type}(m:M b):M (b×Tk):=fun h n=>
 match m h n with
 |some ⟨a,d,c,L⟩=>some ⟨(a,⟨n,c,L⟩),d,c,L⟩
 |none=>none
def tagged:Nat->List Tk->List (Nat×Tk)
 |_,[]=>[]
 |i,t::r=>(i,t)::tagged (i+1) r
def En.meets(x y:En):Bool:=x.b==y.b&&(x.k==y.k||x.k.isNone||y.k.isNone)
def Tk.gq(a b:Tk):Bool:=
 (a.log.any fun x=>x.wr&&b.log.any fun y=>x.meets y)||(b.log.any fun x=>x.wr&&a.log.any fun y=>x.meets y)||
 (a.log.any fun x=>b.n<=x.b&&x.b<b.n1)||(b.log.any fun x=>a.n<=x.b&&x.b<a.n1)
def looks(ops:Array Oper)(o:Oper):List Tmp:=o.looksAt ops
def pL(ops:Array Oper)(x y:Oper):Bool:= !(x.apart ops y)
def pM(ops:Array Oper)(a:List Nat):List (Nat×Tk)->Bool
 |[]=>true
 |(j,c)::r=>(r.all fun(k,b)=>(a.getD k 0).testBit j||(!(c.gq b)&& !(pL ops (ops.getD j default) (ops.getD k default))))&&pM ops a r
def sx(ops:Array Oper):Bool:=ops.toList.zipIdx.all fun(o,i)=>o.after.all (fun e=> !Region.binds .any e||e.on<i)&& !(o.op matches .select ..)
inductive Ex where
 |normal|ret
 |exit (id:Nat)
section
variable (P:Program) (rec:FuncId->Array Value->M Value) (nt:Nat)
def fI(ops:Array Oper)(o:Oper)(s:S):M Value:=
 if fP o (gG ops s)then
  (cC P (ev s) o).bind fun
    | .val v=> .ret v
    | .call f args=>rec f args
 else .ret undef
def iR(ops:Array Oper):List Oper->S->M (S×List Tk)
 |[],s=> .ret (s,[])
 |o::r,s=>(bx (inside (fI P rec ops o s))).bind fun x=>(M.lift (aq7 nt s o.dst x.1)).bind fun a=>(iR ops r a).bind fun y=> .ret (y.1,x.2::y.2)
def pN(ops:Array Oper)(a:Bool)(s:S):M S:=
 (iR P rec nt ops ops.toList s).bind fun y=>if !a||(sx ops&&pM ops (lM ops.toList []) (tagged 0 y.2))then .ret y.1 else .fail
def dY:Nat->Code->S->M (Ex×S)
 |0,_,_=> .fail
 |f+1,c,s=>match c with
  | .skip| .label _=> .ret (.normal,s)
  | .region _ h g=>(pN P rec nt h g s).bind fun d=> .ret (.normal,d)
  | .seq a b=>(dY f a s).bind fun
    |(.normal,d)=>dY f b d
    |(e,d)=> .ret (e,d)
  | .cond c a b=>match ev s c with
    | .bool t=>dY f (if t then a else b) s
    |_=> .fail
  | .block id c=>(dY f c s).bind fun
    |(.exit i,d)=>if i=id then .ret (.normal,d)else .ret (.exit i,d)
    |(e,d)=> .ret (e,d)
  | .loop c=>(dY f c s).bind fun
    |(.normal,d)=>dY f (.loop c) d
    |(e,d)=> .ret (e,d)
  | .exit id=> .ret (.exit id,s)
  | .ret=> .ret (.ret,s)
  |_=> .fail
end
def CF(P:Program):Operand->Bool
 | .const v=>clean v
 | .global g=>g<P.globals.size
 |_=>true
def xE(P:Program)(o:Oper):Bool:=o.op.operands.all (CF P)
def kU(P:Program):Code->Bool
 | .region _ d _=>d.all (xE P)
 | .seq a b=>kU P a&&kU P b
 | .cond c a b=>CF P c&&kU P a&&kU P b
 | .block _ c| .loop c=>kU P c
 |_=>true
def sC(P:Program):Bool:=P.funcs.all fun a=> !(a.name== "runtime.NumGoroutine")
def qK(P:Program)(a:List FuncId):Bool:=
 P.funcs.toList.zipIdx.all fun(b,i)=>a.contains i||(match b.body with|some c=>kU P c|none=>true)
def sE:Nat->List Value->S->S
 |_,[],s=>s
 |i,v::r,s=>sE (i+1) r (s.put i v)
def jk(P:Program)(s:S):List ResultVar->M (List Value)
 |[]=> .ret []
 | .tmp t::r=>(jk P s r).bind fun b=> .ret (s.get t::b)
 | .cell a t::r=>(jj P t (s.get a)).bind fun v=>(jk P s r).bind fun b=> .ret (v::b)
def sF(P:Program)(f:FuncId):Bool:=match P.funcs[f]? with
 |some a=>a.params.size==0
 |none=>false
def xF:Value->Value->Bool
 | .int k a,.int c b=>decide (k=c)&&decide (a=b)
 |_,_=>false
def mF(P:Program):List (Nat×Nat×Value)->M Unit
 |[]=> .ret ()
 |g::r=>(rd g.1 g.2.1).bind fun u=>if(decide (g.1<P.globals.size)&&xF u g.2.2)=true then mF P r else .fail
def OU:List (FuncId×Nat)->FuncId->Option Nat
 |[],_=>none
 |q::r,f=>match Nat.beq q.1 f with
  |true=>some q.2
  |false=>OU r f
def pO(f:FuncId):Option Nat:=OU NV f
def sG:List Value->Option (List Int)
 |[]=>some []
 | .int .u8 x::r=>match sG r with
   |some l=>some (x::l)
   |none=>none
 |_=>none
def HN(c:Int):Option (List Int)->M Value
 |some l=> .ret (.int .i64 (Lib.indexByte (Lib.bytesOf l) c.toNat.toUInt8))
 |none=> .fail
def zH(b off len:Nat)(c:Int):M Value:=(cW b off len).bind fun a=>HN c (sG a)
def HO(s:ByteArray)(c:Int):M Value:=if(decide (0<=c)&&decide (c<=1000000)&&decide (s.size<=1000000))=true then .ret (.string ⟨(Lib.repeatL s.data.toList c.toNat).toArray⟩)else .fail
def HP:List Value->M Value
 |[.slice (some ⟨b,a,none⟩) len _,.int .u8 c]=>zH b a len c
 |_=> .fail
def HQ:List Value->M Value
 |[.string s,.int .i64 c]=>HO s c
 |_=> .fail
def HR(f:FuncId)(args:List Value):M Value:=if args.all scalar then M.lift (OQ f args)else .fail
def HS(f:FuncId):List Value->M Value
 |[.slice none 0 0]=>M.lift (CC f 0 [])
 |[.slice (some ⟨b,a,none⟩) len _]=>(cW b a (len*OR f)).bind fun c=>if c.all scalar then M.lift (CC f len c)else .fail
 |_=> .fail
def sH(f:FuncId)(k:Nat)(args:List Value):M Value:=match k with
 |1=>HP args
 |2=>HQ args
 |3=>HR f args
 |4=>HS f args
 |_=> .fail
def dm(P:Program)(b:List FuncId):Nat->FuncId->Array Value->M Value
 |0,_,_=> .fail
 |fuel+1,f,args=>if b.contains f then(match pO f with
  |some k=>sH f k args.toList
  |none=>if(decide (args.size=0)&&sF P f)=true then(mF P KG).bind fun _=> .ret (.bool true)else .fail)else match P.funcs[f]? with
  |some a=>match a.body with
   |some c=>if args.size<=a.ntmps&&a.ntmps<1000 then
     inside ((dY P (dm P b fuel) a.ntmps fuel c (sE 0 args.toList .nil)).bind fun
      |(.normal,s)|(.ret,s)=>(jk P s a.results.toList).bind fun d=> .ret (match d with|[v]=>v|_=> .tuple d.toArray)
      |(.exit _,_)=> .fail)
    else .fail
   |none=> .fail
  |none=> .fail
theorem Tr.get_nil{a:Type}(f j:Nat):Tr.get f (.nil:Tr a) j=none:=by cases f<;>rfl
theorem Tr.jm{m:Type}:∀(f:Nat) (t:Tr m) (i:Nat) (a:Option m) (j:Nat),i<2^f-1->Tr.get f (Tr.set f t i a) j=if j=i then a else Tr.get f t j:=by
 intro f
 induction f with
 |zero=>intro t i a j h;simp at h
 |succ f k=>
  intro t i a j n;have o:2^(f+1)=2*2^f:=by rw[lH];omega
  have p:1<=2^f:=Nat.one_le_two_pow;cases t with
  |nil=>
   unfold Tr.set;by_cases g:i=0
   ·subst g;simp only[if_true];unfold Tr.get;by_cases c:j=0
    ·simp[c]
    ·simp[c,Tr.get_nil]
   ·rw[if_neg g];by_cases d:i %2=1
    ·rw[if_pos d];simp only[Tr.get];by_cases c:j=0
     ·subst c;simp;omega
     ·rw[if_neg c];by_cases b:j %2=1
      ·rw[if_pos b,k _ _ _ _ jO];by_cases e:j=i
       ·subst e;simp
       ·rw[if_neg e,if_neg jO,Tr.get_nil]
      ·rw[if_neg b,Tr.get_nil,if_neg (by intro e;subst e;exact b d)]
    ·rw[if_neg d];simp only[Tr.get];by_cases c:j=0
     ·subst c;simp;omega
     ·rw[if_neg c];by_cases b:j %2=1
      ·rw[if_pos b,Tr.get_nil,if_neg (by intro e;subst e;exact d b)]
      ·rw[if_neg b,k _ _ _ _ jO];by_cases e:j=i
       ·subst e;simp
       ·rw[if_neg e,if_neg jO,Tr.get_nil]
  |node l v r=>
   unfold Tr.set;by_cases g:i=0
   ·subst g;simp only[if_true];unfold Tr.get;by_cases c:j=0
    ·simp[c]
    ·simp[c]
   ·rw[if_neg g];by_cases d:i %2=1
    ·rw[if_pos d];simp only[Tr.get];by_cases c:j=0
     ·subst c;simp;omega
     ·rw[if_neg c,if_neg c];by_cases b:j %2=1
      ·rw[if_pos b,if_pos b,k _ _ _ _ jO];by_cases e:j=i
       ·subst e;simp
       ·rw[if_neg e,if_neg jO]
      ·rw[if_neg b,if_neg b,if_neg (by intro e;subst e;exact b d)]
    ·rw[if_neg d];simp only[Tr.get];by_cases c:j=0
     ·subst c;simp;omega
     ·rw[if_neg c,if_neg c];by_cases b:j %2=1
      ·rw[if_pos b,if_pos b,if_neg (by intro e;subst e;exact d b)]
      ·rw[if_neg b,if_neg b,k _ _ _ _ jO];by_cases e:j=i
       ·subst e;simp
       ·rw[if_neg e,if_neg jO]
theorem Tr.OV{d:Type}:∀(f a:Nat) (t:Tr d) (i:Nat),i<2^f-1->i<2^a-1->Tr.get f t i=Tr.get a t i:=by
 intro f
 induction f with
 |zero=>intro a t i h;simp at h
 |succ f c=>
  intro a t i h e;cases a with
  |zero=>simp at e
  |succ a=>
   have j:2^(f+1)=2*2^f:=by rw[lH];omega
   have g:2^(a+1)=2*2^a:=by rw[lH];omega
   cases t with
   |nil=>rfl
   |node l v r=>
    unfold Tr.get;by_cases b:i=0
    ·rw[if_pos b,if_pos b]
    ·rw[if_neg b,if_neg b];split
     ·exact c a l _ jO jO
     ·exact c a r _ jO jO
theorem Tr.adF{e:Type}:∀(f b:Nat) (t:Tr e) (i:Nat) (a:Option e),i<2^f-1->i<2^b-1->Tr.set f t i a=Tr.set b t i a:=by
 intro f
 induction f with
 |zero=>intro b t i a h;simp at h
 |succ f d=>
  intro b t i a h g;cases b with
  |zero=>simp at g
  |succ b=>
   have k:2^(f+1)=2*2^f:=by rw[lH];omega
   have j:2^(b+1)=2*2^b:=by rw[lH];omega
   cases t with
   |nil=>
    unfold Tr.set;by_cases c:i=0
    ·rw[if_pos c,if_pos c]
    ·rw[if_neg c,if_neg c];split
     ·rw[d b _ _ a jO jO]
     ·rw[d b _ _ a jO jO]
   |node l v r=>
    unfold Tr.set;by_cases c:i=0
    ·rw[if_pos c,if_pos c]
    ·rw[if_neg c,if_neg c];split
     ·rw[d b _ _ a jO jO]
     ·rw[d b _ _ a jO jO]
theorem CG(i k:Nat):i<2^(i+1+k)-1:=by have a:i+1+k<2^(i+1+k):=Nat.lt_two_pow_self;omega
theorem H.jm{h:H}{i:Nat}(x:Option AB)(j:Nat):(h.set i x).get j=if j=i then x else h.get j:=by unfold H.get H.set;have c:=CG i (j+1);have d:=CG j (i+1);have b:=CG i 0;have a:=CG j 0;have e:i+1+(j+1)=j+1+(i+1):=jO;rw[e]at c;rw[Tr.OV (j+1) (j+1+(i+1)) _ _ a d,Tr.OV (j+1) (j+1+(i+1)) h _ a d,Tr.adF (i+1) (j+1+(i+1)) _ _ _ b c];exact Tr.jm _ _ _ _ _ c
def hd(B:AB):TypeId×Bool×Nat:=(B.elem,B.own,B.cells.length)
def H.hd(h:H)(b:Nat):Option (TypeId×Bool×Nat):=(h.get b).map Ev.hd
def H.cell(h:H)(b k:Nat):Option Value:=(h.get b).bind (·.cells[k]?)
def dV(h h':H)(b k:Nat):Prop:=h.hd b=h'.hd b∧h.cell b k=h'.cell b k
def j9(h h':H)(e:En):Prop:=match e.k with
 |none=>h.get e.b=h'.get e.b
 |some k=>dV h h' e.b k
def wrote(L:List En)(b k:Nat):Prop:=∃e∈L,e.wr=true∧e.b=b∧(e.k=none∨e.k=some k)
theorem dV.refl(h:H)(b k:Nat):dV h h b k:=⟨rfl,rfl⟩
theorem dV.symm{h h':H}{b k:Nat}(x:dV h h' b k):dV h' h b k:=⟨x.1.symm,x.2.symm⟩
theorem dV.trans{h h' a:H}{b k:Nat}(x:dV h h' b k)(y:dV h' a b k):dV h a b k:=⟨x.1.trans y.1,x.2.trans y.2⟩
theorem dV.mG{h h':H}{b:Nat}(k:Nat)(x:h.get b=h'.get b):dV h h' b k:=by unfold dV H.hd H.cell;rw[x];exact⟨rfl,rfl⟩
theorem HU{h h':H}{b:Nat}(x:∀k,dV h h' b k):h.get b=h'.get b:=by
 have c:=(x 0).1;unfold H.hd at c;cases d:h.get b with
 |none=>rw[d]at c;cases a:h'.get b with
  |none=>rfl
  |some B=>rw[a]at c;simp at c
 |some B=>
  rw[d]at c;cases a:h'.get b with
  |none=>rw[a]at c;simp at c
  |some e=>
   rw[a]at c;simp[Ev.hd]at c;obtain⟨j,i,g⟩:=c
   have f:B.cells=e.cells:=by apply List.ext_getElem?;intro k;have:=(x k).2;unfold H.cell at this;rw[d,a]at this;simpa using this
   cases B;cases e;simp_all
theorem j9.OW{h h':H}{e:En}(x:∀k,(e.k=none∨e.k=some k)->dV h h' e.b k):j9 h h' e:=by
 unfold j9;split
 ·rename_i a;exact HU fun k=>x k (.inl a)
 ·rename_i k a;exact x k (.inr a)
theorem j9.at_{h h':H}{e:En}(x:j9 h h' e){k:Nat}(hk:e.k=none∨e.k=some k):dV h h' e.b k:=by
 unfold j9 at x;rcases hk with hk|hk
 ·rw[hk]at x;exact dV.mG k x
 ·rw[hk]at x;exact x
theorem OX{L L':List En}{b k:Nat}:wrote (L++L') b k↔wrote L b k∨wrote L' b k:=by
 unfold wrote;constructor
 ·rintro⟨e,c,a⟩;rcases List.mem_append.1 c with h|h
  ·exact .inl ⟨e,h,a⟩
  ·exact .inr ⟨e,h,a⟩
 ·rintro(⟨e,c,a⟩|⟨e,c,a⟩)
  ·exact⟨e,List.mem_append.2 (.inl c),a⟩
  ·exact⟨e,List.mem_append.2 (.inr c),a⟩
theorem OY{b k:Nat}:¬wrote [] b k:=by rintro⟨e,a,_⟩;cases a
structure zI {α:Type} (m:M α) (h:H) (n:Nat) (r:α) (h1:H) (n1:Nat) (L:List En):Prop where
 le:n<=n1
 lt:∀e∈L,e.b<n1
 frame:∀b k,¬wrote L b k->¬(n<=b∧b<n1)->dV h1 h b k
 uF:∀h',(∀e∈L,¬(n<=e.b∧e.b<n1)->j9 h h' e)->∃OZ,m h' n=some ⟨r,OZ,n1,L⟩∧∀b k,(wrote L b k∨(n<=b∧b<n1))->dV OZ h1 b k
def Loc{c:Type}(m:M c):Prop:=∀h n r b a L,m h n=some ⟨r,b,a,L⟩->zI m h n r b a L
theorem Loc.ret{d:Type}(a:d):Loc (.ret a):=by
 intro h n r j i L c;simp only[M.ret,ep,Out.mk.injEq]at c;obtain⟨rfl,rfl,rfl,rfl⟩:=c
 exact⟨ai _,(fun e f=>nomatch f),fun b k _ _=>dV.refl _ _ _,fun g _=>⟨g,rfl,fun b k hw=>by
  rcases hw with hw|hw
  ·exact absurd hw OY
  ·omega⟩⟩
theorem Loc.fail{a:Type}:Loc (.fail:M a):=by intro h n r d c L b;cases b
theorem Loc.lift{b:Type}(o:Option b):Loc (.lift o):=by
 cases o with
 |none=>intro h n r e d L c;cases c
 |some a=>exact Loc.ret a
theorem Loc.bind{y O:Type}{m:M y}{f:y->M O}(E:Loc m)(J:∀a,Loc (f a)):Loc (m.bind f):=by
 intro h n r Z Y L o;unfold M.bind at o;split at o
 ·rename_i a K i v U;split at o
  ·rename_i c j g w T;simp only[ep,Out.mk.injEq]at o;obtain⟨rfl,rfl,rfl,rfl⟩:=o;have A:=E h n a K i v U;have B:=J a K i c j g w T;have G:=A.le;have F:=B.le;refine⟨jO,fun e q=> ?_,fun b k hw I=> ?_,fun N u=> ?_⟩
   ·rcases List.mem_append.1 q with h|h
    ·have:=A.lt e h;omega
    ·exact B.lt e h
   ·rw[OX]at hw;exact(B.frame b k (fun x=>hw (.inr x)) jO).trans (A.frame b k (fun x=>hw (.inl x)) jO)
   ·obtain⟨p,D,z⟩:=A.uF N fun e q I=>u e (List.mem_append.2 (.inl q)) (by have:=A.lt e q;omega);have X:=E N n a p i v D
    obtain⟨j,C,P⟩:=B.uF p fun e q I=>by
     apply j9.OW;intro k R;by_cases hw:wrote v e.b k∨(n<=e.b∧e.b<i)
     ·exact(z e.b k hw).symm
     ·have t:¬wrote v e.b k:=fun x=>hw (.inl x);have d:¬(n<=e.b∧e.b<i):=fun x=>hw (.inr x);exact((A.frame e.b k t d).trans ((u e (List.mem_append.2 (.inr q)) jO).at_ R)).trans (X.frame e.b k t d).symm
    have W:=J a p i c j g w C;refine⟨j,by unfold M.bind;rw[D];simp only[C],fun b k hw=> ?_⟩;rw[OX]at hw;by_cases d:wrote w b k∨(i<=b∧b<g)
    ·exact P b k d
    ·have l:¬wrote w b k:=fun x=>d (.inl x);have s:¬(i<=b∧b<g):=fun x=>d (.inr x)
     have Q:wrote v b k∨(n<=b∧b<i):=by
      rcases hw with (hw|hw)|hw
      ·exact .inl hw
      ·exact absurd hw l
      ·exact .inr jO
     exact((W.frame b k l s).trans (z b k Q)).trans (B.frame b k l s).symm
  ·cases o
 ·cases o
theorem Loc.ite{a:Type}{c:Prop} [Decidable c]{x y:M a}(d:Loc x)(b:Loc y):Loc (if c then x else y):=by
 by_cases h:c
 ·rw[if_pos h];exact d
 ·rw[if_neg h];exact b
theorem Loc.rd(b k:Nat):Loc (Ev.rd b k):=by
 intro h n r t s L a;unfold Ev.rd at a;split at a
 ·rename_i l;split at a
  ·rename_i B q;split at a
   ·rename_i v p;simp only[ep,Out.mk.injEq]at a;obtain⟨rfl,rfl,rfl,rfl⟩:=a
    have o:∀g f,¬wrote [(⟨false,b,some k⟩:En)] g f:=by rintro g f ⟨e,d,hw,_⟩;simp at d;subst d;cases hw
    refine⟨ai _,fun e d=>by simp at d;subst d;exact l,fun g f _ _=>dV.refl _ _ _,fun m j=>⟨m, ?_,fun g f hw=> ?_⟩⟩
    ·have:=j ⟨false,b,some k⟩ jS (by show¬(n<=b∧b<n);omega);unfold j9 dV at this;simp only[H.cell,q,Ob,p]at this;obtain⟨_,c⟩:=this;cases i:m.get b with
     |none=>rw[i]at c;simp at c
     |some u=>rw[i]at c;simp at c;unfold Ev.rd;rw[if_pos l,i];simp only[<-c]
    ·rcases hw with hw|hw
     ·exact absurd hw (o _ _)
     ·omega
   ·cases a
  ·cases a
 ·cases a
theorem zJ{h:H}{b k:Nat}{B:AB}(d:h.get b=some B)(v:Value)(a c:Nat):(h.set b (some {B with cells:=B.cells.set k v})).get a=if a=b then some {B with cells:=B.cells.set k v}else h.get a:=H.jm _ _
theorem Loc.wr(b k:Nat)(v:Value):Loc (Ev.wr b k v):=by
 intro h n r E D L a;unfold Ev.wr at a;split at a
 ·rename_i x;split at a
  ·rename_i B m;split at a
   ·rename_i w;simp only[ep,Out.mk.injEq]at a;obtain⟨_,rfl,rfl,rfl⟩:=a;have j:=w;simp only[cD,decide_eq_true_eq]at j;obtain⟨⟨t,C⟩,u⟩:=j;refine⟨ai _,fun e i=>by simp at i;rcases i with rfl|rfl<;>exact x,fun c d hw _=> ?_,fun y s=> ?_⟩
    ·unfold dV H.hd H.cell;rw[zJ m v c d];by_cases e:c=b
     ·subst e;rw[if_pos rfl,m];have p:k≠d:=fun e=>hw ⟨⟨true,c,some k⟩,jS,rfl,rfl,.inr (by rw[e])⟩;simp[Ev.hd,apJ p]
     ·rw[if_neg e];exact⟨rfl,rfl⟩
    ·have:=s ⟨false,b,some k⟩ jS (by show¬(n<=b∧b<n);omega);unfold j9 dV at this;simp only[H.hd,H.cell,m,Cg,Ob]at this;obtain⟨f,A⟩:=this;cases l:y.get b with
     |none=>rw[l]at f;simp at f
     |some z=>
      rw[l]at f A;simp[Ev.hd]at f;obtain⟨q1,q2,o⟩:=f;refine⟨y.set b (some {z with cells:=z.cells.set k v}), ?_,fun c d hw=> ?_⟩
      ·unfold Ev.wr;rw[if_pos x,l];simp only;rw[if_pos (by rw[<-q2,<-o];exact w)]
      ·have q:c=b∧d=k:=by
        rcases hw with ⟨e,i,hw,rfl,g⟩|hw
        ·simp at i;rcases i with rfl|rfl
         ·cases hw
         ·simp at g;exact⟨rfl,g.symm⟩
        ·omega
       obtain⟨rfl,rfl⟩:=q;unfold dV H.hd H.cell;rw[zJ m v c d,zJ l v c d,if_pos rfl,if_pos rfl];refine⟨?_, ?_⟩
       ·simp[Ev.hd,q1,q2,o]
       ·simp[C,<-o]
   ·cases a
  ·cases a
 ·cases a
theorem Loc.dy(e:TypeId)(cs:List Value):Loc (Ev.dy e cs):=by
 intro h n r l i L a;unfold Ev.dy at a;split at a
 ·rename_i c;simp only[ep,Out.mk.injEq]at a;obtain⟨rfl,rfl,rfl,rfl⟩:=a;refine⟨jO,(fun e d=>nomatch d),fun b k _ j=> ?_,fun g _=>⟨g.set n (some ⟨e,true,cs⟩), ?_,fun b k hw=> ?_⟩⟩
  ·apply dV.mG;rw[H.jm _ _,if_neg jO]
  ·unfold Ev.dy;rw[if_pos c]
  ·have f:b=n:=by
    rcases hw with hw|hw
    ·exact absurd hw OY
    ·omega
   subst f;apply dV.mG;rw[H.jm _ _,H.jm _ _];simp
 ·cases a
theorem Loc.gZ(b:Nat):Loc (Ev.gZ b):=by
 intro h n r o m L a;unfold Ev.gZ at a;split at a
 ·rename_i g;split at a
  ·rename_i B k;simp only[ep,Out.mk.injEq]at a;obtain⟨rfl,rfl,rfl,rfl⟩:=a;refine⟨ai _,fun e c=>by simp at c;subst c;exact g,fun l j _ _=>dV.refl _ _ _,fun i f=>⟨i, ?_,fun l j hw=> ?_⟩⟩
   ·have:=f ⟨false,b,some 1099511627776⟩ jS (by show¬(n<=b∧b<n);omega);unfold j9 dV at this;simp only[H.hd,k,Cg]at this;cases d:i.get b with
    |none=>rw[d]at this;simp at this
    |some p=>rw[d]at this;simp[Ev.hd]at this;unfold Ev.gZ;rw[if_pos g,d];simp only[<-this.1.1]
   ·rcases hw with ⟨e,c,hw,_⟩|hw
    ·simp at c;subst c;cases hw
    ·omega
  ·cases a
 ·cases a
theorem Loc.kill(b:Nat):Loc (Ev.kill b):=by
 intro h n r p o L a;unfold Ev.kill at a;split at a
 ·rename_i i;split at a
  ·rename_i B l;split at a
   ·rename_i k;simp only[ep,Out.mk.injEq]at a;obtain⟨_,rfl,rfl,rfl⟩:=a;refine⟨ai _,fun e c=>by simp at c;rcases c with rfl|rfl<;>exact i,fun g j hw _=> ?_,fun m f=>⟨m.set b none, ?_,fun g j hw=> ?_⟩⟩
    ·apply dV.mG;rw[H.jm _ _,if_neg];rintro rfl;exact hw ⟨⟨true,g,none⟩,jS,rfl,rfl,.inl rfl⟩
    ·have:=f ⟨false,b,none⟩ jS (by show¬(n<=b∧b<n);omega);unfold j9 at this;simp only[l]at this;unfold Ev.kill;rw[if_pos i,<-this];simp only[k,if_true]
    ·have d:g=b:=by
      rcases hw with ⟨e,c,hw,rfl,_⟩|hw
      ·simp at c;rcases c with rfl|rfl<;>rfl
      ·omega
     subst d;apply dV.mG;rw[H.jm _ _,H.jm _ _];simp
   ·cases a
  ·cases a
 ·cases a
theorem Loc.cW(b:Nat):∀(n k:Nat),Loc (Ev.cW b k n):=by
 intro n
 induction n with
 |zero=>intro k;exact Loc.ret _
 |succ n a=>intro k;exact Loc.bind (Loc.rd _ _) fun v=>Loc.bind (a _) fun c=>Loc.ret _
theorem Loc.eK(b:Nat):∀(vs:List Value) (k:Nat),Loc (Ev.eK b k vs):=by
 intro vs
 induction vs with
 |nil=>intro k;exact Loc.ret _
 |cons v vs a=>intro k;exact Loc.bind (Loc.wr _ _ _) fun _=>a _
theorem O0{L:List En}{n c b k:Nat}(i:¬(n<=b∧b<c)):wrote (L.filter fun e=> !(n<=e.b&&e.b<c)) b k↔wrote L b k:=by
 unfold wrote;constructor
 ·rintro⟨e,a,f⟩;exact⟨e,(List.mem_filter.1 a).1,f⟩
 ·rintro⟨e,a,h,d,g⟩;refine⟨e,List.mem_filter.2 ⟨a, ?_⟩,h,d,g⟩;rw[d];simp;omega
theorem zI.filter {i:Type} {m m':M i} {h j:H} {n c:Nat} {r:i} {L:List En} (A:zI m h n r j c L)
 (p:∀h' a,m h' n=some ⟨r,a,c,L⟩->m' h' n=some ⟨r,a,c,L.filter fun e=> !(n<=e.b&&e.b<c)⟩):zI m' h n r j c (L.filter fun e=> !(n<=e.b&&e.b<c)):=by
 refine⟨A.le,fun e f=>A.lt e (List.mem_filter.1 f).1,fun b k hw d=>A.frame b k (fun x=>hw ((O0 d).2 x)) d,fun h' g=> ?_⟩;obtain⟨a,o,l⟩:=A.uF h' fun e f d=>g e (List.mem_filter.2 ⟨f,by simp;omega⟩) d;refine⟨a,p h' a o,fun b k hw=>l b k ?_⟩;by_cases d:n<=b∧b<c
 ·exact .inr d
 ·rcases hw with hw|hw
  ·exact .inl ((O0 d).1 hw)
  ·exact .inr hw
theorem Loc.inside{g:Type}{m:M g}(i:Loc m):Loc (Ev.inside m):=by
 intro h n r o l L b;unfold Ev.inside at b;split at b
 ·rename_i a d c k j;simp only[ep,Out.mk.injEq]at b;obtain⟨rfl,rfl,rfl,rfl⟩:=b;refine(i h n a d c k j).filter fun p f e=> ?_;unfold Ev.inside;rw[e]
 ·cases b
theorem Loc.bx{f:Type}{m:M f}(j:Loc m):Loc (Ev.bx m):=by
 intro h n r s q L b;unfold Ev.bx at b;split at b
 ·rename_i a e c p o;simp only[ep,Out.mk.injEq]at b;obtain⟨rfl,rfl,rfl,rfl⟩:=b;have A:=j h n a e c p o;refine⟨A.le,A.lt,A.frame,fun l d=> ?_⟩;obtain⟨k,i,g⟩:=A.uF l d;exact⟨k,by unfold Ev.bx;rw[i],g⟩
 ·cases b
theorem Loc.ji(sz n:Nat)(x:Value):Loc (Ev.ji sz n x):=by
 unfold Ev.ji
 repeat' (first|exact Loc.ret _|exact Loc.fail|exact Loc.lift _|exact Loc.rd _ _|exact Loc.cW _ _ _|exact Loc.eK _ _ _|exact Loc.whole _|exact Loc.kill _|exact Loc.dy _ _|refine Loc.bind ?_ fun _=> ?_|split)
theorem Loc.nH(e:TypeId)(l n:Nat)(old a:List Value):Loc (Ev.nH e l n old a):=by
 unfold Ev.nH
 repeat' (first|exact Loc.ret _|exact Loc.fail|exact Loc.lift _|exact Loc.cW _ _ _|exact Loc.eK _ _ _|exact Loc.gZ _|exact Loc.kill _|exact Loc.dy _ _|refine Loc.bind ?_ fun _=> ?_|split)
theorem Loc.uB(e:TypeId)(n sz b off l cap:Nat)(a:List Value):Loc (Ev.uB e n sz b off l cap a):=by
 unfold Ev.uB
 repeat' (first|exact Loc.ret _|exact Loc.fail|exact Loc.lift _|exact Loc.cW _ _ _|exact Loc.eK _ _ _|exact Loc.gZ _|exact Loc.kill _|exact Loc.dy _ _|exact Loc.nH _ _ _ _ _|refine Loc.bind ?_ fun _=> ?_|split)
theorem Loc.pH(P:Program)(t:TypeId)(s x:Value):Loc (Ev.pH P t s x):=by
 unfold Ev.pH
 repeat' (first|exact Loc.ret _|exact Loc.fail|exact Loc.lift _|exact Loc.cW _ _ _|exact Loc.eK _ _ _|exact Loc.gZ _|exact Loc.kill _|exact Loc.dy _ _|exact Loc.ji _ _ _|exact Loc.nH _ _ _ _ _|exact Loc.uB _ _ _ _ _ _ _ _|refine Loc.bind ?_ fun _=> ?_|split)
theorem Loc.pK(P:Program)(t:TypeId)(d s:Value):Loc (Ev.pK P t d s):=by
 unfold Ev.pK
 repeat' (first|exact Loc.ret _|exact Loc.fail|exact Loc.lift _|exact Loc.eK _ _ _|exact Loc.ji _ _ _|refine Loc.bind ?_ fun _=> ?_|split)
theorem Loc.gh(P:Program)(ρ:Operand->Value)(o:Oper):Loc (Ev.gh P ρ o):=by
 unfold Ev.gh
 repeat' (first|exact Loc.ret _|exact Loc.fail|exact Loc.lift _|exact Loc.rd _ _|exact Loc.cW _ _ _|exact Loc.eK _ _ _|exact Loc.whole _|exact Loc.kill _|exact Loc.dy _ _|refine Loc.bind ?_ fun _=> ?_|split)
theorem Loc.kE(P:Program)(ρ:Operand->Value)(o:Oper)(c:Call)(args:Array Value):Loc (Ev.kE P ρ o c args):=by
 unfold Ev.kE
 repeat' (first|exact Loc.ret _|exact Loc.fail|exact Loc.lift _|exact Loc.rd _ _|exact Loc.cW _ _ _|exact Loc.eK _ _ _|exact Loc.whole _|exact Loc.kill _|exact Loc.dy _ _|exact Loc.pH _ _ _ _|exact Loc.pK _ _ _ _|exact Loc.gh _ _ _|refine Loc.bind ?_ fun _=> ?_|split)
theorem Loc.nI(P:Program)(e:TypeId):Loc (Ev.nI P e):=by
 unfold Ev.nI
 repeat' (first|exact Loc.ret _|exact Loc.fail|exact Loc.lift _|exact Loc.rd _ _|exact Loc.cW _ _ _|exact Loc.eK _ _ _|exact Loc.whole _|exact Loc.kill _|exact Loc.dy _ _|refine Loc.bind ?_ fun _=> ?_|split)
theorem Loc.nJ(P:Program)(e:TypeId)(v:Value):Loc (Ev.nJ P e v):=by
 unfold Ev.nJ
 repeat' (first|exact Loc.ret _|exact Loc.fail|exact Loc.lift _|exact Loc.rd _ _|exact Loc.cW _ _ _|exact Loc.eK _ _ _|exact Loc.whole _|exact Loc.kill _|exact Loc.dy _ _|refine Loc.bind ?_ fun _=> ?_|split)
theorem Loc.mC(P:Program)(t:TypeId)(l:List (Nat×Value)):Loc (Ev.mC P t l):=by
 unfold Ev.mC
 repeat' (first|exact Loc.ret _|exact Loc.fail|exact Loc.lift _|exact Loc.rd _ _|exact Loc.cW _ _ _|exact Loc.eK _ _ _|exact Loc.whole _|exact Loc.kill _|exact Loc.dy _ _|refine Loc.bind ?_ fun _=> ?_|split)
theorem Loc.mD(P:Program)(t:TypeId)(n:Nat)(l:List (Nat×Value)):Loc (Ev.mD P t n l):=by
 unfold Ev.mD
 repeat' (first|exact Loc.ret _|exact Loc.fail|exact Loc.lift _|exact Loc.rd _ _|exact Loc.cW _ _ _|exact Loc.eK _ _ _|exact Loc.whole _|exact Loc.kill _|exact Loc.dy _ _|refine Loc.bind ?_ fun _=> ?_|split)
theorem Loc.jj(P:Program)(t:TypeId)(v:Value):Loc (Ev.jj P t v):=by
 unfold Ev.jj
 repeat' (first|exact Loc.ret _|exact Loc.fail|exact Loc.lift _|exact Loc.rd _ _|exact Loc.cW _ _ _|exact Loc.eK _ _ _|exact Loc.whole _|exact Loc.kill _|exact Loc.dy _ _|refine Loc.bind ?_ fun _=> ?_|split)
theorem Loc.oF(P:Program)(t:TypeId)(a v:Value):Loc (Ev.oF P t a v):=by
 unfold Ev.oF
 repeat' (first|exact Loc.ret _|exact Loc.fail|exact Loc.lift _|exact Loc.rd _ _|exact Loc.cW _ _ _|exact Loc.eK _ _ _|exact Loc.whole _|exact Loc.kill _|exact Loc.dy _ _|refine Loc.bind ?_ fun _=> ?_|split)
theorem Loc.qH(v:Value):Loc (Ev.qH v):=by
 unfold Ev.qH
 repeat' (first|exact Loc.ret _|exact Loc.fail|exact Loc.lift _|exact Loc.rd _ _|exact Loc.cW _ _ _|exact Loc.eK _ _ _|exact Loc.whole _|exact Loc.kill _|exact Loc.dy _ _|refine Loc.bind ?_ fun _=> ?_|split)
theorem Loc.nK(v:Value):Loc (Ev.nK v):=by
 unfold Ev.nK
 repeat' (first|exact Loc.ret _|exact Loc.fail|exact Loc.lift _|exact Loc.rd _ _|exact Loc.cW _ _ _|exact Loc.eK _ _ _|exact Loc.whole _|exact Loc.kill _|exact Loc.dy _ _|refine Loc.bind ?_ fun _=> ?_|split)
theorem Loc.qI(e:TypeId)(s:ByteArray):Loc (Ev.qI e s):=by
 unfold Ev.qI
 repeat' (first|exact Loc.ret _|exact Loc.fail|exact Loc.lift _|exact Loc.rd _ _|exact Loc.cW _ _ _|exact Loc.eK _ _ _|exact Loc.whole _|exact Loc.kill _|exact Loc.dy _ _|refine Loc.bind ?_ fun _=> ?_|split)
theorem Loc.nM(P:Program)(t:TypeId)(l c:Value):Loc (Ev.nM P t l c):=by
 unfold Ev.nM
 repeat' (first|exact Loc.ret _|exact Loc.fail|exact Loc.lift _|exact Loc.rd _ _|exact Loc.cW _ _ _|exact Loc.eK _ _ _|exact Loc.whole _|exact Loc.kill _|exact Loc.dy _ _|refine Loc.bind ?_ fun _=> ?_|split)
theorem Loc.oE(P:Program)(t:TypeId)(x:Value)(a b c:Option Value):Loc (Ev.oE P t x a b c):=by
 unfold Ev.oE
 repeat' (first|exact Loc.fail|exact Loc.lift _|exact Loc.gZ _|refine Loc.bind ?_ fun _=> ?_|split)
theorem Loc.cC(P:Program)(ρ:Operand->Value)(o:Oper):Loc (Ev.cC P ρ o):=by
 unfold Ev.cC
 repeat' (first|exact Loc.ret _|exact Loc.fail|exact Loc.lift _|exact Loc.rd _ _|exact Loc.cW _ _ _|exact Loc.eK _ _ _|exact Loc.whole _|exact Loc.kill _|exact Loc.dy _ _|exact Loc.gh _ _ _|exact Loc.oE _ _ _ _ _ _|exact Loc.kE _ _ _ _ _|exact Loc.nI _ _|exact Loc.nJ _ _ _|exact Loc.mC _ _ _|exact Loc.mD _ _ _ _|exact Loc.jj _ _ _|exact Loc.oF _ _ _ _|exact Loc.qH _|exact Loc.nK _|exact Loc.qI _ _|exact Loc.nM _ _ _ _|refine Loc.bind ?_ fun _=> ?_|split)
section
variable {P:Program} {rec:FuncId->Array Value->M Value} {nt:Nat}
theorem Loc.fI(b:∀f a,Loc (rec f a))(ops:Array Oper)(o:Oper)(s:S):Loc (Ev.fI P rec ops o s):=by
 unfold Ev.fI
 repeat' (first|exact Loc.ret _|exact Loc.fail|exact Loc.lift _|exact Loc.cC _ _ _|exact b _ _|refine Loc.bind ?_ fun _=> ?_|split)
theorem Loc.iR(b:∀f a,Loc (rec f a))(ops:Array Oper):∀(l:List Oper) (s:S),Loc (Ev.iR P rec nt ops l s):=by
 intro l
 induction l with
 |nil=>intro s;exact Loc.ret _
 |cons o r c=>intro s;exact Loc.bind (Loc.bx (Loc.inside (Loc.fI b _ _ _))) fun x=>Loc.bind (Loc.lift _) fun d=>Loc.bind (c _) fun y=>Loc.ret _
theorem Loc.pN(b:∀f a,Loc (rec f a))(ops:Array Oper)(c:Bool)(s:S):Loc (Ev.pN P rec nt ops c s):=
 Loc.bind (Loc.iR b _ _ _) fun y=>Loc.ite (Loc.ret _) Loc.fail
theorem Loc.dY(b:∀f a,Loc (rec f a)):∀(fuel:Nat) (c:Code) (s:S),Loc (Ev.dY P rec nt fuel c s):=by
 intro fuel
 induction fuel with
 |zero=>intro c s;exact Loc.fail
 |succ f d=>intro c s;cases c<;>unfold Ev.dY<;>simp only;all_goals repeat' (first|exact Loc.ret _|exact Loc.fail|exact d _ _|exact Loc.pN b _ _ _|refine Loc.bind ?_ fun _=> ?_|split)
end
theorem Loc.jk(P:Program)(s:S):∀l,Loc (Ev.jk P s l):=by
 intro l
 induction l with
 |nil=>exact Loc.ret _
 |cons r l a=>
  cases r<;>unfold Ev.jk
  ·exact Loc.bind a fun _=>Loc.ret _
  ·exact Loc.bind (Loc.jj _ _ _) fun _=>Loc.bind a fun _=>Loc.ret _
theorem Loc.mF(P:Program):∀l,Loc (Ev.mF P l):=by
 intro l
 induction l with
 |nil=>exact Loc.ret _
 |cons g l a=>
  unfold Ev.mF;refine Loc.bind (Loc.rd _ _) fun u=> ?_;split
  ·exact a
  ·exact Loc.fail
theorem Loc.sH(f:FuncId)(k:Nat)(args:List Value):Loc (Ev.sH f k args):=by
 unfold Ev.sH;split
 ·unfold Ev.HP;split
  ·unfold Ev.zH;refine Loc.bind (Loc.cW _ _ _) fun a=> ?_;unfold Ev.HN;split
   ·exact Loc.ret _
   ·exact Loc.fail
  ·exact Loc.fail
 ·unfold Ev.HQ;split
  ·unfold Ev.HO;split
   ·exact Loc.ret _
   ·exact Loc.fail
  ·exact Loc.fail
 ·unfold Ev.HR;split
  ·exact Loc.lift _
  ·exact Loc.fail
 ·unfold Ev.HS;split
  ·exact Loc.lift _
  ·refine Loc.bind (Loc.cW _ _ _) fun a=> ?_;split
   ·exact Loc.lift _
   ·exact Loc.fail
  ·exact Loc.fail
 ·exact Loc.fail
theorem Loc.dm(P:Program)(b:List FuncId):∀(fuel:Nat) (f:FuncId) (args:Array Value),Loc (Ev.dm P b fuel f args):=by
 intro fuel
 induction fuel with
 |zero=>intro f a;exact Loc.fail
 |succ fuel c=>
  intro f args;unfold Ev.dm
  repeat' (first|exact Loc.ret _|exact Loc.fail|exact Loc.mF _ _|exact Loc.sH _ _ _|exact Loc.dY c _ _ _|exact Loc.jk _ _ _|refine Loc.inside ?_|refine Loc.bind ?_ fun _=> ?_|split)
end Go.Proofs.YtcehhgppfahbkaaGreatDoor.Ev
namespace Go.Proofs.YtcehhgppfahbkaaGreatDoor.Ev
open Go Go.RowKit
theorem bind_some{i g:Type}{m:M i}{f:i->M g}{h:H}{n:Nat}{c:g}{h2:H}{n2:Nat}{L:List En}(b:(m.bind f) h n=some ⟨c,h2,n2,L⟩):
 ∃a e d L1 L2,m h n=some ⟨a,e,d,L1⟩∧f a e d=some ⟨c,h2,n2,L2⟩∧L=L1++L2:=by
 unfold M.bind at b;split at b
 ·rename_i a e d L1 o;split at b
  ·rename_i p k j L2 l;simp only[ep,Out.mk.injEq]at b;obtain⟨rfl,rfl,rfl,rfl⟩:=b;exact⟨a,e,d,L1,L2,o,l,rfl⟩
  ·cases b
 ·cases b
theorem bX{d:Type}{a c:d}{h h2:H}{n n2:Nat}{L:List En}(b:(M.ret a) h n=some ⟨c,h2,n2,L⟩):c=a∧h2=h∧n2=n:=by simp only[M.ret,ep,Out.mk.injEq]at b;exact⟨b.1.symm,b.2.1.symm,b.2.2.1.symm⟩
theorem mH{d:Type}{o:Option d}{c:d}{h h2:H}{n n2:Nat}{L:List En}(b:(M.lift o) h n=some ⟨c,h2,n2,L⟩):o=some c∧h2=h∧n2=n:=by
 unfold M.lift at b;cases o with
 |none=>cases b
 |some a=>simp only[ep,Out.mk.injEq]at b;exact⟨by rw[b.1],b.2.1.symm,b.2.2.1.symm⟩
structure Ds where
 dD:Nat
 sh:Nat
 uG:Nat
 esz:Nat
 el:TypeId
abbrev Mp:=Nat->Option Ds
mutual
inductive VR (m:Mp):Value->Value->Prop
 |bool (b:Bool):VR m (.bool b) (.bool b)
 |int (k:IntKind) (n:Int):VR m (.int k n) (.int k n)
 |float (k:FloatKind) (n:Nat):VR m (.float k n) (.float k n)
 |string (s:ByteArray):VR m (.string s) (.string s)
 |zK:VR m (.pointer none) (.pointer none)
 |ptr {b off:Nat} {d:Ds} (h:m b=some d):VR m (.pointer (some ⟨b,off,none⟩)) (.pointer (some ⟨d.dD,d.sh+off,none⟩))
 |mI (n c:Nat) (hc:n<=c∧c<aU):VR m (.slice none n c) (.slice none n c)
 |fR {b off n cap zL o':Nat} {d:Ds} (h:m b=some d) (ho:0<n∨cap<aU->o'=d.sh+off) (h1:cap<aU->zL=cap) (h2:aU<=cap->aU+n<=cap∧cap<=aU+zL) (hn:n<=zL) (ht:o'+zL*d.esz<=d.uG):
   VR m (.slice (some ⟨b,off,none⟩) n cap) (.slice (some ⟨d.dD,o',none⟩) n zL)
 |pP (b off s:Nat) (a':Addr):VR m (.slice (some ⟨b,off,some s⟩) 0 0) (.slice (some a') 0 0)
 |func (fn:Fn) {f c f' c':Array Value} (h1:bo m f.toList f'.toList) (h2:bo m c.toList c'.toList):VR m (.func fn f c) (.func fn f' c')
 |nilFunc:VR m .nilFunc .nilFunc
 |agg {cs cs':Array Value} (h:bo m cs.toList cs'.toList):VR m (.agg cs) (.agg cs')
 |tuple {cs cs':Array Value} (h:bo m cs.toList cs'.toList):VR m (.tuple cs) (.tuple cs')
inductive bo (m:Mp):List Value->List Value->Prop
 |nil:bo m [] []
 |cons {v v':Value} {l l':List Value} (h:VR m v v') (t:bo m l l'):bo m (v::l) (v'::l')
end
def Le(m m':Mp):Prop:=∀b d,m b=some d->m' b=some d
theorem Le.refl(m:Mp):Le m m:=fun _ _ h=>h
theorem Le.trans{a b c:Mp}(h:Le a b)(k:Le b c):Le a c:=fun x d e=>k x d (h x d e)
mutual
theorem VR.mono{m m':Mp}(a:Le m m'):∀{v g:Value},VR m v g->VR m' v g
 |_,_,.bool b=> .bool b
 |_,_,.int k n=> .int k n
 |_,_,.float k n=> .float k n
 |_,_,.string s=> .string s
 |_,_,.zK=> .zK
 |_,_,.ptr h=> .ptr (a _ _ h)
 |_,_,.mI n c o=> .mI n c o
 |_,_,.fR h j f e l i=> .fR (a _ _ h) j f e l i
 |_,_,.pP b d s q=> .pP b d s q
 |_,_,.func p f e=> .func p (bo.mono a f) (bo.mono a e)
 |_,_,.nilFunc=> .nilFunc
 |_,_,.agg h=> .agg (bo.mono a h)
 |_,_,.tuple h=> .tuple (bo.mono a h)
theorem bo.mono{m m':Mp}(b:Le m m'):∀{l a:List Value},bo m l a->bo m' l a
 |_,_,.nil=> .nil
 |_,_,.cons h t=> .cons (VR.mono b h) (bo.mono b t)
end
theorem bo.length{m:Mp}:∀{l a:List Value},bo m l a->l.length=a.length
 |_,_,.nil=>rfl
 |_,_,.cons _ t=>by simp[bo.length t]
theorem bo.get{m:Mp}:∀{l c:List Value},bo m l c->∀(k:Nat) (v:Value),l[k]? =some v->∃b,c[k]? =some b∧VR m v b
 |_,_,.nil,k,v,h=>by simp at h
 |_,_,.cons h t,k,v,a=>by
  cases k with
  |zero=>simp at a;subst a;exact⟨_,rfl,h⟩
  |succ k=>simp at a;simpa using bo.get t k v a
theorem bo.mG{m:Mp}:∀{l a:List Value},l.length=a.length->(∀(k:Nat) (v:Value),l[k]? =some v->∃b,a[k]? =some b∧VR m v b)->bo m l a
 |[],[],_,_=> .nil
 |v::l,b::a,e,h=>by obtain⟨u,c,d⟩:=h 0 v rfl;simp at c;subst c;exact .cons d (bo.mG (by simpa using e) fun k x f=>by simpa using h (k+1) x (by simpa using f))
theorem bo.append{m:Mp}:∀{a d b c:List Value},bo m a d->bo m b c->bo m (a++b) (d++c)
 |_,_,_,_,.nil,k=>k
 |_,_,_,_,.cons h t,k=> .cons h (bo.append t k)
theorem bo.set{m:Mp}:∀{a c:List Value} (k:Nat) {v b:Value},bo m a c->VR m v b->bo m (a.set k v) (c.set k b)
 |_,_,_,_,_,.nil,_=> .nil
 |_,_,0,_,_,.cons _ t,h=> .cons h t
 |_,_,k+1,_,_,.cons u t,h=> .cons u (bo.set k t h)
theorem bo.map{m:Mp}{a:Type}{f g:a->Value}:∀(l:List a),(∀x,VR m (f x) (g x))->bo m (l.map f) (l.map g)
 |[],_=> .nil
 |x::l,h=> .cons (h x) (bo.map l h)
theorem VR.scalar{m:Mp}{v a:Value}(h:VR m v a)(b:Ev.scalar v=true):a=v:=by cases h<;>first|rfl|cases b
theorem VR.self{m:Mp}{v:Value}(a:Ev.scalar v=true):VR m v v:=by cases v<;>first|exact .bool _|exact .int _ _|exact .string _|cases a
theorem VR.one{m:Mp}{v a:Value}(h:VR m v a):Ev.one a=Ev.one v:=by cases h<;>rfl
theorem VR.cells{m:Mp}{v f:Value}(h:VR m v f):bo m v.cells.toList f.cells.toList:=by
 cases h with
 |agg h=>exact h
 |bool b=>exact .cons (.bool b) .nil
 |int k n=>exact .cons (.int k n) .nil
 |float k n=>exact .cons (.float k n) .nil
 |string s=>exact .cons (.string s) .nil
 |zK=>exact .cons .zK .nil
 |ptr h=>exact .cons (.ptr h) .nil
 |mI n c l=>exact .cons (.mI n c l) .nil
 |fR h i e d j g=>exact .cons (.fR h i e d j g) .nil
 |pP b a s p=>exact .cons (.pP b a s p) .nil
 |func o e d=>exact .cons (.func o e d) .nil
 |nilFunc=>exact .cons .nilFunc .nil
 |tuple h=>exact .cons (.tuple h) .nil
theorem VR.undef{m:Mp}:VR m apK apK:= .tuple .nil
theorem VR.HV{m:Mp}{v a:Value}(h:VR m v a):v.cells.size=a.cells.size:=by have:=h.cells.length;simpa using this
structure WR (P:Program) (m:Mp) (base:Nat) (h:H) (hp:Array Obj):Prop where
 live:∀b B,h.get b=some B->∃d cs lo hi,m b=some d∧hp[d.dD]? =some (.cells cs d.el (lo,hi))∧cs.size=d.uG∧d.sh+B.cells.length<=d.uG∧
  size? P B.elem=some d.esz∧(B.own=true->d.el=B.elem∧base<=d.dD∧∀k,k<d.uG->¬(lo<=k∧k<hi))∧∀k v,B.cells[k]? =some v->∃v',cs[d.sh+k]? =some v'∧VR m v v'
 inj:∀b b' B B' d d',h.get b=some B->h.get b'=some B'->(B.own=true∨B'.own=true)->m b=some d->m b'=some d'->d.dD=d'.dD->b=b'
theorem WR.mG{P:Program}{m:Mp}{base:Nat}{h h':H}{f:Array Obj}(x:WR P m base h f)(e:∀b,h'.get b=h.get b):WR P m base h' f:=
 ⟨fun b B c=>x.live b B (by rw[<-e];exact c),fun b i B j d g c a=>x.inj b i B j d g (by rw[<-e];exact c) (by rw[<-e];exact a)⟩
theorem WR.lt{P:Program}{m:Mp}{base:Nat}{h:H}{a:Array Obj}(x:WR P m base h a){b:Nat}{B:AB}(f:h.get b=some B):∃d,m b=some d∧d.dD<a.size:=by obtain⟨d,j,g,i,c,e,_⟩:=x.live b B f;exact⟨d,c,(Array.getElem?_eq_some_iff.1 e).1⟩
structure cP (P:Program) (m:Mp) (base n n1:Nat) (w:World) (h1:H) (m':Mp) (w':World):Prop where
 le:Le m m'
 out:∀b,¬(n<=b∧b<n1)->m' b=m b
 wr:WR P m' base h1 w'.heap
 below:Below base w w'
theorem cP.refl{P:Program}{m:Mp}{base n:Nat}{w:World}{h:H}(x:WR P m base h w.heap):cP P m base n n w h m w:=
 ⟨Le.refl _,fun _ _=>rfl,x,rX _ _⟩
theorem cP.trans{P:Program}{m m' c:Mp}{base n d n2:Nat}{w w' a:World}{f h2:H}(g:n<=d)(e:d<=n2)(x:cP P m base n d w f m' w')(y:cP P m' base d n2 w' h2 c a):cP P m base n n2 w h2 c a:=
 ⟨x.le.trans y.le,fun b h=>(y.out b jO).trans (x.out b jO),y.wr,x.below.trans y.below⟩
def iC(m:Mp)(n a:Nat):Prop:=∀b,n<=b->b<a->m b=none
theorem iC.after{P:Program}{m m':Mp}{base n a n2:Nat}{w w':World}{c:H}(f:iC m n n2)(e:n<=a)(x:cP P m base n a w c m' w'):iC m' a n2:=
 fun b c d=>by rw[x.out b jO];exact f b jO d
theorem iC.first{m:Mp}{n a n2:Nat}(f:iC m n n2)(h:a<=n2):iC m n a:=fun b c d=>f b c jO
theorem nN(b o i:Nat):(⟨b,o,none⟩:Addr).add i=⟨b,o+i,none⟩:=by
 unfold Addr.add;split
 ·rename_i h;subst h;rfl
 ·rfl
theorem uH(w:World)(c o:Nat){cs:Array Value}{e:TypeId}{f:Nat×Nat}(h:w.heap[c]? =some (.cells cs e f)):w.cell? ⟨c,o,none⟩=cs[o]? :=by unfold World.cell?;simp[h]
theorem CH{P:Program}{m:Mp}{base:Nat}{h g:H}{w:World}{b k n f:Nat}{v:Value}{L:List En}(x:WR P m base h w.heap)(a:rd b k h n=some ⟨v,g,f,L⟩):
 g=h∧f=n∧∃d c,m b=some d∧w.cell? ⟨d.dD,d.sh+k,none⟩=some c∧VR m v c:=by
 unfold rd at a;split at a
 ·split at a
  ·rename_i B p;split at a
   ·rename_i u i;simp only[ep,Out.mk.injEq]at a;obtain⟨rfl,rfl,rfl,_⟩:=a;obtain⟨d,s,q,r,j,l,_,_,_,_,o⟩:=x.live b B p;obtain⟨c,e,a⟩:=o k u i;exact⟨rfl,rfl,d,c,j,by rw[uH w _ _ l];exact e,a⟩
   ·cases a
  ·cases a
 ·cases a
theorem sI{P:Program}{m:Mp}{base:Nat}{h:H}{w:World}{b n:Nat}(x:WR P m base h w.heap){d:Ds}(hd:m b=some d):∀{c k f:Nat} {vs:List Value} {i:H} {L:List En},cW b k c h n=some ⟨vs,i,f,L⟩->
 i=h∧f=n∧vs.length=c∧∃a,bo m vs a∧∀j v,a[j]? =some v->w.cell? ⟨d.dD,d.sh+k+j,none⟩=some v:=by
 intro c
 induction c with
 |zero=>intro k f vs i L g;simp only[cW,M.ret,ep,Out.mk.injEq]at g;obtain⟨rfl,rfl,rfl,_⟩:=g;exact⟨rfl,rfl,rfl,[],.nil,fun j v o=>by simp at o⟩
 |succ c s=>
  intro k f vs i L g;obtain⟨v,G,E,O,N,C,B,_⟩:=bind_some (m:=rd b k) g;obtain⟨rfl,rfl,I,r,e,y,o⟩:=CH x C;rw[hd]at e;cases e;obtain⟨ws,F,D,K,J,A,z,_⟩:=bind_some (m:=cW b (k+1) c) B;obtain⟨rfl,rfl,t,a,l,q⟩:=s A;obtain⟨rfl,rfl,rfl⟩:=bX z;refine⟨rfl,rfl,by simp[t],r::a,.cons o l,fun j u p=> ?_⟩;cases j with
  |zero=>simp at p;subst p;exact y
  |succ j=>have:=q j u (by simpa using p);rw[show d.sh+k+(j+1)=d.sh+(k+1)+j by omega];exact this
theorem xG{P:Program}{w:World}{c o:Nat}{vs:List Value}(h:∀j v,vs[j]? =some v->w.cell? ⟨c,o+j,none⟩=some v):(loadCells ⟨c,o,none⟩ vs.length).run P w= .ok vs.toArray w:=by have:=run_loadCells_list (P:=P) (w:=w) ⟨c,o,none⟩ vs (fun j v a=>by rw[nN];exact h j v a);simpa using this
theorem O1{P:Program}{m:Mp}{base:Nat}{h g:H}{w:World}{b n c:Nat}{e:TypeId}{L:List En}(x:WR P m base h w.heap)(a:gZ b h n=some ⟨e,g,c,L⟩):
 g=h∧c=n∧∃d,m b=some d∧size? P e=some d.esz∧∃B,h.get b=some B∧B.elem=e:=by
 unfold gZ at a;split at a
 ·split at a
  ·rename_i B f;simp only[ep,Out.mk.injEq]at a;obtain⟨rfl,rfl,rfl,_⟩:=a;obtain⟨d,o,k,l,j,_,_,_,i,_⟩:=x.live b B f;exact⟨rfl,rfl,d,j,i,B,f,rfl⟩
  ·cases a
 ·cases a
theorem getElem?_modify_ne{b:Type}(a:Array b)(f:b->b){i j:Nat}(h:i≠j):(a.modify i f)[j]? =a[j]? :=by rw[Hm,if_neg h]
theorem adG{P:Program}{m:Mp}{base:Nat}{h h1:H}{w:World}{b k n n1:Nat}{v p:Value}{L:List En}(x:WR P m base h w.heap)(f:wr b k v h n=some ⟨(),h1,n1,L⟩)(hv:VR m v p){d:Ds}(hd:m b=some d):
 n1=n∧(w.cell? ⟨d.dD,d.sh+k,none⟩).isSome=true∧w.frozen? ⟨d.dD,d.sh+k,none⟩=false∧Ev.one p=true∧base<=d.dD∧WR P m base h1 (w.setCell ⟨d.dD,d.sh+k,none⟩ p).heap:=by
 unfold wr at f;split at f
 ·split at f
  ·rename_i B E;split at f
   ·rename_i I;simp only[cD,decide_eq_true_eq]at I;obtain⟨⟨l,hk⟩,s⟩:=I;simp only[ep,Out.mk.injEq]at f;obtain⟨_,rfl,rfl,_⟩:=f;obtain⟨d0,cs,lo,hi,hm,W,O,z,D,ho,I⟩:=x.live b B E;rw[hd]at hm;cases hm;obtain⟨X,i,A⟩:=ho l;have y:d.sh+k<cs.size:=jO
    have iD:(w.setCell ⟨d.dD,d.sh+k,none⟩ p).heap[d.dD]? =some (.cells (cs.setIfInBounds (d.sh+k) p) d.el (lo,hi)):=by simp only[World.setCell,Hm,if_true,W];simp
    refine⟨rfl,by rw[uH w _ _ W];simp[y], ?_,by rw[hv.one];exact s,i, ?_⟩
    ·unfold World.frozen?;simp only[W];have:=A (d.sh+k) jO;simp only[Bool.and_eq_false_iff,decide_eq_false_iff_not];omega
    ·constructor
     ·intro o J a;rw[zJ E v o 0]at a;by_cases e:o=b
      ·subst e;rw[if_pos rfl]at a;cases a;refine⟨d,_,lo,hi,hd,iD,by simpa using O,by simpa using z,D,fun _=>⟨X,i,A⟩,fun j u G=> ?_⟩;by_cases e2:k=j
       ·subst e2;simp[hk]at G;subst G;exact⟨p,by simp[y],hv⟩
       ·rw[apJ e2]at G;obtain⟨u',N,f⟩:=I j u G;exact⟨u',by rw[ac8 jO];exact N,f⟩
      ·rw[if_neg e]at a;obtain⟨F,Z,K,T,t,U,r⟩:=x.live o J a;have R:d.dD≠F.dD:=fun e3=>e (x.inj o b J B F d a E (.inr l) t hd e3.symm);refine⟨F,Z,K,T,t, ?_,r⟩;rw[Below.heap_setCell w _ _ _ (Ne.symm R)];exact U
     ·intro o b3 J B3 F d3 a Y Q
      have q:∀c C,(h.set b (some {B with cells:=B.cells.set k v})).get c=some C->∃C',h.get c=some C'∧C'.own=C.own:=by
       intro c C g;rw[zJ E v c 0]at g;by_cases e:c=b
       ·subst e;rw[if_pos rfl]at g;cases g;exact⟨B,E,rfl⟩
       ·rw[if_neg e]at g;exact⟨C,g,rfl⟩
      obtain⟨C2,h2,g2⟩:=q o J a;obtain⟨C3,h3,g3⟩:=q b3 B3 Y;exact x.inj o b3 C2 C3 F d3 h2 h3 (by rw[g2,g3];exact Q)
   ·cases f
  ·cases f
 ·cases f
theorem O2{P:Program}{a:Type}{w:World}{p:Addr}{v:Value}{k:Sem a}(d:(w.cell? p).isSome=true)(h2:w.frozen? p=false)(c:Ev.one v=true):(Sem.store .plain p v k).run P w=k.run P (w.setCell p v):=by obtain⟨u,b⟩:=Option.isSome_iff_exists.1 d;cases v<;>first|(simp[Ev.one]at c;done)|simp[Ch,b,h2]
theorem HW{P:Program}{m:Mp}{base:Nat}{b:Nat}{d:Ds}(hd:m b=some d):∀{vs a:List Value} (_:bo m vs a) {k i n c:Nat} {h f:H} {w:World} {L:List En} (o:Nat),o+i=d.sh+k->WR P m base h w.heap->eK b k vs h n=some ⟨(),f,c,L⟩->
 c=n∧∃w',(storeCells ⟨d.dD,o,none⟩ a i).run P w= .ok () w'∧WR P m base f w'.heap∧Below base w w':=by
 intro vs a j
 induction j using bo.rec (motive_1:=fun _ _ _=>True)with
 |nil=>intro k i n c h f w L o _ x e;simp only[eK,M.ret,ep,Out.mk.injEq]at e;obtain⟨_,rfl,rfl,_⟩:=e;exact⟨rfl,w,rfl,x,rX _ _⟩
 |cons t _ _ s=>intro k i n c h f w L o v x e;obtain⟨u,F,E,I,G,A,z,_⟩:=bind_some (m:=wr b k _) e;cases u;obtain⟨rfl,D,C,B,y,r⟩:=adG x A t hd;obtain⟨rfl,w',g,q,l⟩:=s (i:=i+1) o jO r z;refine⟨rfl,w', ?_,q,((rX base w).setCell (p:=⟨d.dD,d.sh+k,none⟩) y _).trans l⟩;unfold storeCells;rw[nN,v];show(zs (store _ _) _).run P w=_;unfold store;simp only[zs];rw[O2 D C B];exact g
 |_=>trivial
theorem uI {P:Program} {m:Mp} {base:Nat} {h A:H} {w:World} {n z r:Nat} {e:TypeId} {cs:List Value} {L:List En} (x:WR P m base h w.heap) (j:dy e cs h n=some ⟨r,A,z,L⟩) (R:iC m n z) (f:base<=w.heap.size)
 {cs':Array Value} (u:cs.length<=cs'.size) (I:∀(k:Nat) (v:Value),cs[k]? =some v->∃t,cs'[k]? =some t∧VR m v t) {esz:Nat} (y:size? P e=some esz):
 r=n∧z=n+1∧∃m',m' n=some ⟨w.heap.size,0,cs'.size,esz,e⟩∧cP P m base n z w A m' (w.alloc (.cells cs' e)):=by
 unfold dy at j;split at j
 ·rename_i Z;simp only[ep,Out.mk.injEq]at j;obtain⟨rfl,rfl,rfl,_⟩:=j;have E:m n=none:=R n (ai _) jO
  have p:Le m (fun b=>if b=n then some ⟨w.heap.size,0,cs'.size,esz,e⟩else m b):=by
   intro b d a;by_cases e:b=n
   ·subst e;rw[E]at a;cases a
   ·simp[e,a]
  refine⟨rfl,rfl,fun b=>if b=n then some ⟨w.heap.size,0,cs'.size,esz,e⟩else m b,jS,p,fun b a=>by rw[if_neg jO], ?_,(rX _ _).alloc f _⟩;constructor
  ·intro b B a;rw[H.jm _ _]at a;by_cases s:b=n
   ·subst s;rw[if_pos rfl]at a;cases a;refine⟨_,cs',0,0,if_pos rfl, ?_,rfl,by simpa using u,y,fun _=>⟨rfl,f,fun k _=>by omega⟩,fun k v G=> ?_⟩
    ·exact heap_alloc_new w _
    ·obtain⟨t,l,j⟩:=I k v G;exact⟨t,by simpa using l,j.mono p⟩
   ·rw[if_neg s]at a;obtain⟨d,J,O,Q,o,N,A,q,C,U,T⟩:=x.live b B a;refine⟨d,J,O,Q,by simp[s,o], ?_,A,q,C,U,fun k v G=> ?_⟩
    ·rw[Below.heap_alloc w _ _ (Array.getElem?_eq_some_iff.1 N).1];exact N
    ·obtain⟨t,l,j⟩:=T k v G;exact⟨t,l,j.mono p⟩
  ·intro b K B Y d X a g D o c y;rw[H.jm _ _]at a g;by_cases s:b=n
   ·by_cases i:K=n
    ·rw[s,i]
    ·rw[if_neg i]at g c;rw[if_pos s]at o;obtain⟨W,q,F⟩:=x.lt g;rw[c]at q;cases q;cases o;simp at y;omega
   ·rw[if_neg s]at a o;by_cases i:K=n
    ·rw[if_pos i]at c;obtain⟨W,q,F⟩:=x.lt a;rw[o]at q;cases q;cases c;simp at y;omega
    ·rw[if_neg i]at g c;exact x.inj b K B Y d X a g D o c y
 ·cases j
theorem WR.kill{P:Program}{m:Mp}{base:Nat}{h:H}{i:Array Obj}(x:WR P m base h i){b:Nat}{B:AB}(n:h.get b=some B):WR P m base (h.set b none) i:=by
 have f:∀c C,(h.set b none).get c=some C->c≠b∧h.get c=some C:=by
  intro c C a;rw[H.jm _ _]at a;by_cases e:c=b
  ·rw[if_pos e]at a;cases a
  ·rw[if_neg e]at a;exact⟨e,a⟩
 exact⟨fun c C a=>x.live c C (f c C a).2,fun c j C k d l a g=>x.inj c j C k d l (f c C a).2 (f j k g).2⟩
def Gl(P:Program)(m:Mp):Prop:=∀g,g<P.globals.size->∃d,m g=some d∧d.dD=g∧d.sh=0
theorem Gl.mono{P:Program}{m m':Mp}(g:Gl P m)(h:Le m m'):Gl P m':=fun i a=>let⟨d,c,b⟩:=g i a;⟨d,h _ _ c,b⟩
structure SR (m:Mp) (nt:Nat) (s:S) (a:Act):Prop where
 df:a.defers=[]
 sz:a.tmps.size=nt
 at_:∀t,VR m (s.get t) (a.tmps.getD t undef)
theorem SR.mono{m m':Mp}{nt:Nat}{s:S}{a:Act}(x:SR m nt s a)(h:Le m m'):SR m' nt s a:=⟨x.df,x.sz,fun t=>(x.at_ t).mono h⟩
theorem VR.qG{m:Mp}{v:Value}(h:Ev.qG v=true):VR m v v:=by
 unfold Ev.qG at h;split at h
 ·exact .bool _
 ·exact .int _ _
 ·exact .float _ _
 ·exact .string _
 ·exact .zK
 ·exact .nilFunc
 ·exact .mI _ _ (by simpa using h)
 ·cases h
theorem bo.clean{m:Mp}:∀{l:List Value},(∀v∈l,Ev.qG v=true)->bo m l l
 |[],_=> .nil
 |v::l,h=> .cons (VR.qG (h v jS)) (bo.clean fun u a=>h u (by simp[a]))
theorem VR.clean{m:Mp}{v:Value}(h:Ev.clean v=true):VR m v v:=by
 unfold Ev.clean at h;split at h
 ·exact .agg (bo.clean fun u a=>by rw[ur]at h;exact h u (Array.mem_toList_iff.1 a))
 ·exact .tuple (bo.clean fun u a=>by rw[ur]at h;exact h u (Array.mem_toList_iff.1 a))
 ·exact VR.qG h
theorem O3{P:Program}{m:Mp}{nt:Nat}{s:S}{a:Act}(g:Gl P m)(x:SR m nt s a){y:Operand}(h:CF P y=true):VR m (ev s y) (a.eval y):=by
 cases y with
 |tmp t=>exact x.at_ t
 |const v=>exact VR.clean h
 |global i=>obtain⟨d,e,c,b⟩:=g i (by simpa[CF]using h);have:=VR.ptr (m:=m) (off:=0) e;rw[c,b]at this;exact this
 |func f=>exact .func _ .nil .nil
theorem adH{m:Mp}{nt:Nat}{s:S}{a:Act}(x:SR m nt s a)(ops:Array Oper)(j:Nat):gG ops s j=yielded ops a.tmps j:=by
 unfold gG yielded;cases d:(ops[j]?).bind (·.dst)with
 |none=>rfl
 |some t=>
  have b:=x.at_ t;simp only[Ob];rw[pE]at b;cases c:a.tmps[t]? with
  |none=>rw[c]at b;generalize s.get t=v at b;cases b;rfl
  |some u=>rw[c]at b;simp only[Option.getD_some]at b;generalize s.get t=v at b;cases b<;>rfl
theorem S.pQ(s:S)(d:Nat)(v:Value)(t:Nat)(hd:d<1023):(s.put d v).get t=if t=d then v else s.get t:=by unfold S.get S.put;rw[Tr.jm 10 s d (some v) t jO];split<;>rfl
theorem O4{m:Mp}{nt:Nat}{s g:S}{a:Act}{b:Option Tmp}{v f:Value}(x:SR m nt s a)(i:VR m v f)(h:aq7 nt s b v=some g):SR m nt g (a.put b f):=by
 unfold aq7 at h;cases b with
 |none=>cases h;exact x
 |some d=>
  simp only at h;split at h
  ·rename_i c;simp only[cD,decide_eq_true_eq]at c;cases h;refine⟨x.df,by simp[apN,x.sz],fun t=> ?_⟩;rw[S.pQ _ _ _ _ c.2];simp only[apN];by_cases e:t=d
   ·subst e;rw[if_pos rfl];have:t<a.tmps.size:=by rw[x.sz];exact c.1
    simpa[this]using i
   ·rw[if_neg e];have:=x.at_ t;simpa[ac8 (Ne.symm e),pE]using this
  ·cases h
inductive NR (m:Mp):Nx->Next->Prop
 |val {v v':Value} (h:VR m v v'):NR m (.val v) (.value v')
 |skip:NR m (.val undef) .skip
 |call {f:FuncId} {args O5:Array Value} (h:bo m args.toList O5.toList):NR m (.call f args) (.enter f O5)
def uJ(P:Program)(base:Nat):Prop:=∀(c a:Operand->Value) (o:Oper) (h:H) (n:Nat) (r:Nx) (f:H) (b:Nat) (L:List En) (m:Mp) (w:World),
 cC P c o h n=some ⟨r,f,b,L⟩->(∀y∈o.op.operands,VR m (c y) (a y))->WR P m base h w.heap->base<=w.heap.size->iC m n b->
 ∃e d R,(execOp a o).run P w= .ok R d∧cP P m base n b w f e d∧NR e r R
def xH(P:Program)(base:Nat)(rec:FuncId->Array Value->M Value):Prop:=∀(f:FuncId) (args:Array Value) (h:H) (n:Nat) (v:Value) (g:H) (b:Nat) (L:List En) (m:Mp) (w:World) (a:Array Value),
 rec f args h n=some ⟨v,g,b,L⟩->WR P m base h w.heap->base<=w.heap.size->bo m args.toList a.toList->iC m n b->Gl P m->
 Calls P f a w fun e i=>∃d c,e= .returned c∧cP P m base n b w g d i∧VR d v c
section
variable {P:Program} {base:Nat} {rec:FuncId->Array Value->M Value} {nt:Nat} {ops:Array Oper} {Q:Exit->Act->World->Prop}
theorem Below.le{B:Nat}{w w':World}(b:Below B w w')(h:B<=w.heap.size):B<=w'.heap.size:=rY h b.size
theorem O6 (T:uJ P base) (z:xH P base rec) (N:∀f a,Loc (rec f a)) {i:Nat} {o:Oper} (hi:ops[i]? =some o) (d:xE P o=true) {m:Mp} {s:S} {a:Act} {w:World} {h X:H} {n q:Nat} {L:List En} {v:Value}
 (x:WR P m base h w.heap) (hb:base<=w.heap.size) (g:Gl P m) (Y:SR m nt s a) (p:fI P rec ops o s h n=some ⟨v,X,q,L⟩) (Z:iC m n q) {K:Act->World->Prop}
 (F:∀m' w' D,cP P m base n q w X m' w'->VR m' v D->K (a.put o.dst D) w'):wpOp P ops Q i K a w:=by
 have hw:fP o (gG ops s)=fP o (yielded ops a.tmps):=by congr 1;funext j;exact adH Y ops j
 unfold wpOp;simp only[hi];unfold fI at p;rw[hw]at p;by_cases c:fP o (yielded ops a.tmps)=true
 ·rw[if_pos c]at p⊢;obtain⟨r,W,E,L1,L2,e1,C,rfl⟩:=bind_some p;have A:=Loc.cC P (ev s) o h n r W E L1 e1
  have B:E<=q:=by
   cases r with
   |val u=>obtain⟨_,_,e⟩:=bX C;omega
   |call f args=>exact(N f args _ _ _ _ _ _ C).le
  obtain⟨m',w',R,t,b,U⟩:=T (ev s) a.eval o h n r W E L1 m w e1 (fun y hy=>O3 g Y (by
   unfold xE at d;rw[ur]at d
   exact d y hy)) x hb (Z.first B)
  left;unfold Oper.wp;rw[t];cases U with
  |val J=>obtain⟨rfl,rfl,rfl⟩:=bX C;exact F m' w' _ b J
  |skip=>obtain⟨rfl,rfl,rfl⟩:=bX C;exact F m' w' _ b VR.undef
  |call k=>rename_i f args l;refine(z f args W E v X q L2 m' w' l C b.wr (Below.le b.below hb) k (Z.after A.le b) (g.mono b.le)).mono ?_;rintro e G ⟨I,D,rfl,O,J⟩;exact F I G D (b.trans A.le B O) J
 ·have u0:fP o (yielded ops a.tmps)=false:=by simpa using c
  rw[if_neg c]at p⊢;obtain⟨rfl,rfl,rfl⟩:=bX p;exact F m w undef (cP.refl x) VR.undef
theorem all_congr{c:Type}{l:Array c}{f g:c->Bool}(h:∀x∈l,f x=g x):l.all f=l.all g:=by rw[Bool.eq_iff_iff,ur,ur];exact⟨fun a x b=>by rw[<-h x b];exact a x b,fun a x b=>by rw[h x b];exact a x b⟩
theorem adI{ρ ρ':Operand->Value}(o:Oper)(h:∀x∈o.op.operands,ρ x=ρ' x):cC P ρ o=cC P ρ' o:=by
 by_cases l:∃q b,o.op= .select q b
 ·obtain⟨q,b,l⟩:=l;unfold cC;rw[l]
 have u:execOp ρ o=execOp ρ' o:=execOp_congr o (fun q b B=>l ⟨q,b,B⟩) h
 have j:gh P ρ o=gh P ρ' o:=by unfold gh;rw[u,all_congr fun x g=>by rw[h x g]]
 have d:∀e:Array (Nat×Operand),(∀x∈(e.toList.map (·.2)).toArray,ρ x=ρ' x)->(e.toList.map fun(i,x)=>(i,ρ x))=(e.toList.map fun(i,x)=>(i,ρ' x)):=fun e y=>List.map_congr_left fun p z=>by obtain⟨i,x⟩:=p;simp only[y x (by simpa using ⟨i,by simpa using z⟩)]
 unfold cC;cases s:o.op<;>rw[s]at h<;>simp only[Op.operands]at h<;>simp only
 case build t e=>rw[d e h]
 case buildSlice t n e=>rw[d e h]
 case makeFunc E first a=>rw[ac9 (xs:=first) fun x g=>h x (by simp[g]),ac9 (xs:=a) fun x g=>h x (by simp[g])]
 case call c=>
  have k:c.args.map ρ=c.args.map ρ':=ac9 fun x g=>h x (by simp[xp,g]);rw[k];unfold kE;cases D:c.callee with
  |value f=>have C:ρ f=ρ' f:=h f (by simp[xp,D]);simp only[C]
  |invoke r m=>rfl
  |builtin b=>cases b<;>simp only[j]
 case slice t x w A v=>rw[j,h x jS];cases w<;>cases A<;>cases v<;>simp_all
 all_goals (first|rfl|(simp_all;done)|(rw[j];simp_all;done))
theorem adJ{s a:S}{y:Operand}(h:∀t,y= .tmp t->s.get t=a.get t):ev s y=ev a y:=by
 cases y with
 |tmp t=>exact h t rfl
 |_=>rfl
theorem adK{o:Oper}{s a:S}(h:∀t∈o.looksAt ops,s.get t=a.get t):fI P rec ops o s=fI P rec ops o a:=by
 have i:cC P (ev s) o=cC P (ev a) o:=adI o fun x d=>adJ fun t b=>h t (by
  unfold apP
  exact List.mem_append_left _ (List.mem_filterMap.2 ⟨x,by simpa using d,by rw[b]⟩))
 have f:fP o (gG ops s)=fP o (gG ops a):=by
  unfold fP;cases e:o.guard with
  |none=>rfl
  |some j=>
   obtain⟨g,c⟩:=j
   have:gG ops s g=gG ops a g:=by
    unfold gG;cases b:(ops[g]?).bind (·.dst)with
    |none=>rfl
    |some t=>simp only[h t (by unfold apP;exact List.mem_append_right _ (by simp[e,b]))]
   simp only[this]
 unfold fI;rw[i,f]
end
structure HX (P:Program) (rec:FuncId->Array Value->M Value) (nt:Nat) (ops:Array Oper) (l:List Oper) (s:Nat->S) (h:Nat->H) (n:Nat->Nat) (v:Nat->Value) (L:Nat->List En):Prop where
 step:∀i o,l[i]? =some o->inside (fI P rec ops o (s i)) (h i) (n i)=some ⟨v i,h (i+1),n (i+1),L i⟩
 put:∀i o,l[i]? =some o->aq7 nt (s i) o.dst (v i)=some (s (i+1))
theorem adL{P:Program}{rec:FuncId->Array Value->M Value}{nt:Nat}{ops:Array Oper}:∀(l:List Oper) (a:S) (f:H) (n0:Nat) (y:S×List Tk) (e:H) (c:Nat) (q:List En),
 iR P rec nt ops l a f n0=some ⟨y,e,c,q⟩->∃s h n v L,HX P rec nt ops l s h n v L∧s 0=a∧h 0=f∧n 0=n0∧s l.length=y.1∧h l.length=e∧n l.length=c∧y.2.length=l.length∧∀i,i<l.length->y.2[i]? =some ⟨n i,n (i+1),L i⟩:=by
 intro l
 induction l with
 |nil=>intro a f n0 y e c q k;obtain⟨rfl,rfl,rfl⟩:=bX k;exact⟨fun _=>a,fun _=>e,fun _=>c,fun _=>undef,fun _=>[],⟨fun i o h=>by simp at h,fun i o h=>by simp at h⟩,rfl,rfl,rfl,rfl,rfl,rfl,rfl,fun i p=>by simp at p⟩
 |cons o r A=>
  intro a f n0 y e c q k;obtain⟨x,h2,n2,L1,L2,g,J,_⟩:=bind_some (m:=bx (inside (fI P rec ops o a))) k;unfold bx at g;split at g
  ·rename_i u B z W D;simp only[ep,Out.mk.injEq]at g;obtain⟨rfl,rfl,rfl,rfl⟩:=g;obtain⟨w,h3,Z,L3,L4,I,G,_⟩:=bind_some (m:=M.lift _) J;obtain⟨d,rfl,rfl⟩:=mH I;obtain⟨X,h4,Y,L5,L6,F,E,_⟩:=bind_some (m:=iR P rec nt ops r w) G;obtain⟨rfl,rfl,rfl⟩:=bX E;obtain⟨s,h,n,v,L,C,U,T,t,R,Q,O,N,K⟩:=A _ _ _ _ _ _ _ F;refine⟨fun i=>if i=0 then a else s (i-1),fun i=>if i=0 then f else h (i-1),fun i=>if i=0 then n0 else n (i-1),fun i=>if i=0 then u else v (i-1),fun i=>if i=0 then W else L (i-1),⟨fun i j b=> ?_,fun i j b=> ?_⟩,rfl,rfl,rfl,by simpa using R,by simpa using Q,by simpa using O,by simp[N],fun i p=> ?_⟩
   ·cases i with
    |zero=>simp at b;subst b;simpa[T,t]using D
    |succ i=>simpa using C.step i j (by simpa using b)
   ·cases i with
    |zero=>simp at b;subst b;simpa[U]using d
    |succ i=>simpa using C.put i j (by simpa using b)
   ·cases i with
    |zero=>simp[t]
    |succ i=>simpa using K i (by simpa using p)
  ·cases g
theorem HY{c:Type}{m:M c}{h f:H}{n d:Nat}{a:c}{L:List En}(b:inside m h n=some ⟨a,f,d,L⟩):∃L',m h n=some ⟨a,f,d,L'⟩:=by
 unfold inside at b;split at b
 ·rename_i j i g L' e;simp only[ep,Out.mk.injEq]at b;obtain⟨rfl,rfl,rfl,_⟩:=b;exact⟨L',e⟩
 ·cases b
section
variable {P:Program} {base:Nat} {rec:FuncId->Array Value->M Value} {nt:Nat} {ops:Array Oper} {Q:Exit->Act->World->Prop}
theorem adM (B:uJ P base) (l:xH P base rec) (A:∀f a,Loc (rec f a)) (D:∀o∈ops,xE P o=true) {s:Nat->S} {h:Nat->H} {n:Nat->Nat} {v:Nat->Value} {L:Nat->List En}
 (C:HX P rec nt ops ops.toList s h n v L) {t:Mp} {w0:World} (J:iC t (n 0) (n ops.size)) (c:∀i,i<ops.size->n i<=n (i+1)) (K:base<=w0.heap.size) (g:Gl P t) (R:Act->World->Prop)
 (N:∀m' G w',cP P t base (n 0) (n ops.size) w0 (h ops.size) m' w'->SR m' nt (s ops.size) G->Q .normal G w'):
 ∀(k i:Nat),i+k=ops.size->∀(m:Mp) (a:Act) (w:World),cP P t base (n 0) (n i) w0 (h i) m w->SR m nt (s i) a->wpOps P ops Q (List.range' i k) a w:=by
 have e:∀i j,i<=j->j<=ops.size->n i<=n j:=by
  intro i j r
  induction r with
  |refl=>intro _;exact ai _
  |step r y=>intro T;exact rY (y jO) (c _ jO)
 intro k
 induction k with
 |zero=>intro i F m a w d u;have:i=ops.size:=jO;subst this;exact N m a w d u
 |succ k y=>
  intro i F m a w d u;have x:i<ops.size:=jO;rw[List.range'_succ,wpOps_cons];have E:ops[i]? =some ops[i]:=by simp[x]
  obtain⟨X,I⟩:=HY (C.step i ops[i] (by simp[x]));have p:=C.put i ops[i] (by simp[x]);refine O6 (nt:=nt) B l A E (D _ jS) d.wr (Below.le d.below K) (g.mono d.le) u I (fun b W U=> ?_) fun m' w' O q z=> ?_
  ·have q1:=e 0 i jO jO;have q2:=e (i+1) ops.size jO jO;rw[d.out b jO];exact J b jO jO
  ·exact y (i+1) jO m' _ w' (d.trans (e 0 i jO jO) (c i x) q) (O4 (u.mono q.le) z p)
end
def Good(ops:Array Oper)(a:List Nat):Prop:=∀k,k<a.length->∀j,(a.getD k 0).testBit j=true->∃o,ops[k]? =some o∧∃e∈o.after,pD .any e=true∧(j=e.on∨(a.getD e.on 0).testBit j=true)
theorem HZ{l a:List Nat}{k:Nat}(h:k<l.length):(l++a).getD k 0=l.getD k 0:=by simp[aC,List.getElem?_append_left h]
theorem adN(acc:List Nat)(j:Nat):∀(a:List Edge) (s:Nat),(a.foldl (fun s e=>if pD .any e then s|||2^e.on|||acc.getD e.on 0 else s) s).testBit j=true->
 s.testBit j=true∨∃e∈a,pD .any e=true∧(j=e.on∨(acc.getD e.on 0).testBit j=true):=by
 intro a
 induction a with
 |nil=>intro s h;exact .inl h
 |cons e a d=>
  intro s h;simp only[Cj]at h;rcases d _ h with h1|⟨f,c,h1⟩
  ·by_cases b:pD .any e=true
   ·rw[if_pos b]at h1;simp only[Nat.testBit_or,mr]at h1;rcases h1 with (h1|h1)|h1
    ·exact .inl h1
    ·rw[Nat.testBit_two_pow]at h1;exact .inr ⟨e,jS,b,.inl (by simpa using Eq.symm (of_decide_eq_true h1))⟩
    ·exact .inr ⟨e,jS,b,.inr h1⟩
   ·rw[if_neg b]at h1;exact .inl h1
  ·exact .inr ⟨f,by simp[c],h1⟩
theorem adO(ops:Array Oper):∀(l:List Oper) (acc:List Nat),(∀i o,l[i]? =some o->ops[acc.length+i]? =some o)->Good ops acc->Good ops (lM l acc)∧(lM l acc).length=acc.length+l.length:=by
 intro l
 induction l with
 |nil=>intro acc _ h;exact⟨h,by simp[lM]⟩
 |cons o r p=>
  intro acc n h;unfold lM;generalize u:(o.after.toList.foldl (fun s e=>if pD .any e then s|||2^e.on|||acc.getD e.on 0 else s) 0)=B
  have:=p (acc++[B]) (fun i d f=>by
   have:=n (i+1) d (by simpa using f);simp only[List.length_append,List.length_singleton];rw[show acc.length+1+i=acc.length+(i+1) by omega]
   exact this) ?_
  ·exact⟨this.1,by rw[this.2];simp;omega⟩
  ·intro k q j c;by_cases a:k<acc.length
   ·rw[HZ a]at c;obtain⟨d,h1,e,w,v,h4⟩:=h k a j c;refine⟨d,h1,e,w,v, ?_⟩;rcases h4 with h4|h4
    ·exact .inl h4
    ·refine .inr ?_;by_cases b:e.on<acc.length
     ·rw[HZ b];exact h4
     ·rw[aC,jM jO]at h4;simp at h4
   ·have g:k=acc.length:=by simp at q;omega
    subst g;have m:(acc++[B]).getD acc.length 0=B:=by simp[aC]
    rw[m,<-u]at c;rcases adN acc j _ _ c with h1|⟨e,b,t,h1⟩
    ·simp at h1
    ·refine⟨o,by simpa using n 0 o rfl,e,by simpa using b,t, ?_⟩;rcases h1 with h1|h1
     ·exact .inl h1
     ·refine .inr ?_;by_cases b:e.on<acc.length
      ·rw[HZ b];exact h1
      ·rw[aC,jM jO]at h1;simp at h1
theorem O7 {ops:Array Oper} {a:List Nat} (p:Good ops a) (i:a.length=ops.size) (q:∀k o,ops[k]? =some o->∀e∈o.after,pD .any e=true->e.on<k) {D:Nat->Prop}
 (r:∀k o,D k->ops[k]? =some o->∀e∈o.after,pD .any e=true->D e.on):∀(k:Nat),(∀o,ops[k]? =some o->∀e∈o.after,pD .any e=true->D e.on)->∀j,(a.getD k 0).testBit j=true->D j:=by
 intro k
 induction k using Od with
 |_ k m=>
  intro n j g;by_cases f:k<a.length
  ·obtain⟨o,h,e,b,c,h1⟩:=p k f j g;have hd:=n o h e b c;rcases h1 with rfl|h1
   ·exact hd
   ·exact m e.on (q k o h e b c) (fun l d=>r e.on l hd d) j h1
  ·rw[aC,jM jO]at g;simp at g
theorem adP{ops:Array Oper}{c:List Nat}:∀(l:List (Nat×Tk)),pM ops c l=true->∀(p q:Nat) (x y:Nat×Tk),p<q->l[p]? =some x->l[q]? =some y->(c.getD y.1 0).testBit x.1=true∨(x.2.gq y.2=false∧pL ops (ops.getD x.1 default) (ops.getD y.1 default)=false):=by
 intro l
 induction l with
 |nil=>intro _ p q x y _ b;simp at b
 |cons a l e=>
  intro h p q x y f b d;obtain⟨i,g⟩:=a;unfold pM at h;simp only[cD]at h;cases q with
  |zero=>omega
  |succ q=>
   cases p with
   |zero=>simp at b;subst b;have:=List.all_eq_true.1 h.1 y (apQ (by simpa using d));simpa using this
   |succ p=>exact e h.2 p q x y jO (by simpa using b) (by simpa using d)
theorem H2:∀(ts:List Tk) (b i:Nat),(tagged b ts)[i]? =(ts[i]?).map fun t=>(b+i,t):=by
 intro ts
 induction ts with
 |nil=>intro b i;simp[tagged]
 |cons t ts a=>
  intro b i;cases i with
  |zero=>simp[tagged]
  |succ i=>simp only[tagged,List.getElem?_cons_succ,a];congr 1;funext x;rw[show b+1+i=b+(i+1) by omega]
theorem O8{a b:Tk}(h:a.gq b=false):
 (∀x∈a.log,∀y∈b.log,(x.wr=true∨y.wr=true)->x.b=y.b->(x.k=y.k∨x.k=none∨y.k=none)->False)∧(∀x∈a.log,¬(b.n<=x.b∧x.b<b.n1))∧(∀x∈b.log,¬(a.n<=x.b∧x.b<a.n1)):=by
 unfold Tk.gq at h;simp only[Bool.or_eq_false_iff]at h;obtain⟨⟨⟨l,k⟩,j⟩,i⟩:=h;refine⟨fun x c y d hw g hk=> ?_,fun x c f=> ?_,fun x c f=> ?_⟩
 ·have e:x.meets y=true∧y.meets x=true:=by unfold En.meets;rcases hk with hk|hk|hk<;>simp[g,hk]
  rcases hw with hw|hw
  ·have:=(List.any_eq_false.1 l) x c;simp only[hw,oA]at this;exact(List.any_eq_false.1 (by simpa using this)) y d e.1
  ·have:=(List.any_eq_false.1 k) y d;simp only[hw,oA]at this;exact(List.any_eq_false.1 (by simpa using this)) x c e.2
 ·have:=(List.any_eq_false.1 j) x c;simp at this;omega
 ·have:=(List.any_eq_false.1 i) x c;simp at this;omega
theorem Zq{a b:Option Nat}(h:a=b∨a=none∨b=none):b=a∨b=none∨a=none:=by
 rcases h with h|h|h
 ·exact .inl h.symm
 ·exact .inr (.inr h)
 ·exact .inr (.inl h)
section
variable {P:Program} {base:Nat} {rec:FuncId->Array Value->M Value} {nt:Nat} {ops:Array Oper} {Q:Exit->Act->World->Prop}
def Wr(n:Nat->Nat)(L:Nat->List En)(j b c:Nat):Prop:=wrote (L j) b c∨(n j<=b∧b<n (j+1))
def Dn(a:Array Bool)(j:Nat):Prop:=a.getD j false=true
structure Inv (P:Program) (base nt:Nat) (ops:Array Oper) (s:Nat->S) (h:Nat->H) (n:Nat->Nat) (L:Nat->List En) (m0:Mp) (w0:World) (listed:Array Bool) (m:Mp) (sD:S) (hD:H) (a:Act) (w:World):Prop where
 sz:listed.size=ops.size
 closed:∀k o,Dn listed k->ops[k]? =some o->∀e∈o.after,pD .any e=true->Dn listed e.on
 mem:∀b c i,i<=ops.size->(∀j,j<ops.size->Wr n L j b c->(Dn listed j↔j<i))->dV hD (h i) b c
 slot:∀t i,i<=ops.size->(∀j o,ops[j]? =some o->o.dst=some t->(Dn listed j↔j<i))->sD.get t=(s i).get t
 le:Le m0 m
 out:∀b,(∀j,j<ops.size->Dn listed j->¬(n j<=b∧b<n (j+1)))->m b=m0 b
 wr:WR P m base hD w.heap
 below:Below base w0 w
 sr:SR m nt sD a
theorem qL{a:Array Bool}{k j:Nat}(b:k<a.size):Dn (a.setIfInBounds k true) j↔(j=k∨Dn a j):=by
 unfold Dn;by_cases e:j=k
 ·subst e;simp[b]
 ·simp[e,ac8 (Ne.symm e),pE]
theorem adQ{a:Array Bool}(f:∀k o,ops[k]? =some o->∀e∈o.after,pD .any e=true->e.on<k)(b:a.size=ops.size)(i:Oe .any ops a=[]):∀k,k<ops.size->Dn a k:=by
 intro k
 induction k using Od with
 |_ k h=>
  intro c;cases hd:a.getD k true with
  |true=>unfold Dn;simpa[pE,b▸c,Array.getElem?_eq_getElem (b▸c:k<a.size)]using hd
  |false=>
   have:k∈Oe .any ops a:=mem_ready.2 ⟨hd,ops[k],by simp[c],fun e d g=>h e.on (f k ops[k] (by simp[c]) e d g) (by
    have:=f k ops[k] (by simp[c]) e d g
    omega)⟩
   rw[i]at this;cases this
theorem adR (z9:uJ P base) (y0:xH P base rec) (w9:∀f a,Loc (rec f a)) (b':∀o∈ops,xE P o=true) {s:Nat->S} {h:Nat->H} {n:Nat->Nat} {v:Nat->Value} {L:Nat->List En}
 (C:HX P rec nt ops ops.toList s h n v L) (he:∀k o,ops[k]? =some o->∀e∈o.after,pD .any e=true->e.on<k)
 {u5:List Nat} (hg:Good ops u5) (v9:u5.length=ops.size)
 (u0:∀j k,j<k->k<ops.size->(u5.getD k 0).testBit j=true∨((⟨n j,n (j+1),L j⟩:Tk).gq ⟨n k,n (k+1),L k⟩=false∧pL ops (ops.getD j default) (ops.getD k default)=false))
 {m0:Mp} {w0:World} (hf:iC m0 (n 0) (n ops.size)) (x1:∀i,i<ops.size->n i<=n (i+1)) (hb:base<=w0.heap.size) (g:Gl P m0)
 (hR:∀m' a' w',cP P m0 base (n 0) (n ops.size) w0 (h ops.size) m' w'->SR m' nt (s ops.size) a'->Q .normal a' w'):
 ∀(fuel:Nat) (u:Array Bool) (m:Mp) (X:S) (hD:H) (a:Act) (w:World),u.toList.countP (fun b=> !b)=fuel->Inv P base nt ops s h n L m0 w0 u m X hD a w->wpAny P .any ops Q fuel u a w:=by
 have W:∀i j,i<=j->j<=ops.size->n i<=n j:=by
  intro i j K
  induction K with
  |refl=>intro _;exact ai _
  |step K ih=>intro O;exact rY (ih jO) (x1 _ jO)
 have v8:∀k o,ops[k]? =some o->zI (inside (fI P rec ops o (s k))) (h k) (n k) (v k) (h (k+1)) (n (k+1)) (L k):=fun k o U=>Loc.inside (Loc.fI w9 ops o (s k)) _ _ _ _ _ _ (C.step k o (by simpa using U))
 have v3:∀b c i j,i<=j->j<=ops.size->(∀p,i<=p->p<j->¬Wr n L p b c)->dV (h j) (h i) b c:=by
  intro b c i j K
  induction K with
  |refl=>intro _ _;exact dV.refl _ _ _
  |@step j K ih=>intro O hp;have v2:j<ops.size:=jO;have A:=v8 j ops[j] (by simp[v2]);have hw:=hp j K jO;exact(A.frame b c (fun x=>hw (.inl x)) (fun x=>hw (.inr x))).trans (ih jO fun p h1 h2=>hp p h1 jO)
 have Y:∀t i j,i<=j->j<=ops.size->(∀p o,i<=p->p<j->ops[p]? =some o->o.dst≠some t)->(s j).get t=(s i).get t:=by
  intro t i j K
  induction K with
  |refl=>intro _ _;rfl
  |@step j K ih=>
   intro O hp;have v2:j<ops.size:=jO;have B:=C.put j ops[j] (by simp[v2]);have hd:=hp j ops[j] K jO (by simp[v2]);rw[<-ih jO fun p o h1 h2=>hp p o h1 jO];unfold aq7 at B;cases F:(ops[j]).dst with
   |none=>rw[F]at B;have hq:s j=s (j+1):=r3 B;rw[hq]
   |some d=>
    rw[F]at B hd;simp only at B;split at B
    ·rename_i hc;simp only[cD,decide_eq_true_eq]at hc;have hq:=r3 B;rw[<-hq,S.pQ _ _ _ _ hc.2,if_neg (fun e=>hd (by rw[e]))]
    ·cases B
 have y6:∀u m X hD a w,Inv P base nt ops s h n L m0 w0 u m X hD a w->Oe .any ops u=[]->Q .normal a w:=by
  intro u m X hD a w I hr;have w2:=adQ he I.sz hr;refine hR m a w ⟨I.le,fun b hb=>I.out b fun j O _ hi=>hb ⟨rY (W 0 j jO jO) hi.1,Nat.lt_of_lt_of_le hi.2 (W (j+1) ops.size jO jO)⟩,I.wr.mG fun b=> ?_,I.below⟩ ⟨I.sr.df,I.sr.sz,fun t=> ?_⟩
  ·exact(HU fun c=>I.mem b c ops.size (ai _) fun j O _=>⟨fun _=>O,fun _=>w2 j O⟩).symm
  ·rw[<-I.slot t ops.size (ai _) fun j o U _=>⟨fun _=>(Array.getElem?_eq_some_iff.1 U).1,fun O=>w2 j O⟩];exact I.sr.at_ t
 intro fuel
 induction fuel with
 |zero=>
  intro u m X hD a w x3 I
  have v7:Oe .any ops u=[]:=by
   apply List.eq_nil_iff_forall_not_mem.2;intro k hk;obtain⟨h1,o,U,_⟩:=mem_ready.1 hk;have E:k<u.size:=by rw[I.sz];exact(Array.getElem?_eq_some_iff.1 U).1
   have h2:u[k]=false:=by simpa[pE,E]using h1
   have:=List.countP_eq_zero.1 x3 u[k] jS;rw[h2]at this;exact this rfl
  exact⟨v7,y6 _ _ _ _ _ _ I v7⟩
 |succ fuel ih=>
  intro u m X hD a w x3 I;refine⟨y6 _ _ _ _ _ _ I,fun k hk=> ?_⟩;obtain⟨h1,o,U,v5⟩:=mem_ready.1 hk;have v1:k<ops.size:=(Array.getElem?_eq_some_iff.1 U).1;have E:k<u.size:=by rw[I.sz];exact v1
  have y2:u[k]=false:=by simpa[pE,E]using h1
  have v0:¬Dn u k:=by unfold Dn;simp[pE,E,y2]
  have y4:∀j,(u5.getD k 0).testBit j=true->Dn u j:=O7 hg v9 he I.closed k fun o' u9 e hm T=>by rw[U]at u9;cases u9;exact v5 e hm T
  have y5:∀j,Dn u j->(u5.getD j 0).testBit k=true->False:=fun j O T=>v0 (O7 hg v9 he I.closed j (fun o' u9=>I.closed j o' O u9) k T)
  have J:∀j,j<ops.size->j≠k->¬(Dn u j↔j<k)->((∀x∈L j,∀y∈L k,(x.wr=true∨y.wr=true)->x.b=y.b->(x.k=y.k∨x.k=none∨y.k=none)->False)∧(∀x∈L j,¬(n k<=x.b∧x.b<n (k+1)))∧(∀x∈L k,¬(n j<=x.b∧x.b<n (j+1))))∧
   ∀R,ops[j]? =some R->(∀d,R.dst=some d->d∉o.looksAt ops)∧(∀d,R.dst=some d->o.dst≠some d):=by
   intro j O G z;have gk:ops.getD k default=o:=by simp[pE,U]
   have gj:∀R,ops[j]? =some R->ops.getD j default=R:=fun R h'=>by simp[pE,h']
   rcases Cl j k with h'|h'
   ·rcases u0 j k h' v1 with u4|⟨x5,N⟩
    ·exact absurd ⟨fun _=>h',fun _=>y4 j u4⟩ z
    ·obtain⟨c1,c2,c3⟩:=O8 x5;refine⟨⟨c1,c2,c3⟩,fun R D=> ?_⟩;rw[gk,gj R D]at N;obtain⟨a1,a2,a3⟩:=apR (by unfold pL at N;simpa using N);exact⟨a1,a2⟩
   ·have g':k<j:=jO
    have e':Dn u j:=by
     by_cases hd:Dn u j
     ·exact hd
     ·exact absurd ⟨fun x=>absurd x hd,fun x=>by omega⟩ z
    rcases u0 k j g' O with u4|⟨x5,N⟩
    ·exact(y5 j e' u4).elim
    ·obtain⟨c1,c2,c3⟩:=O8 x5;refine⟨⟨fun x hx y hy hw T d'=>c1 y hy x hx hw.symm T.symm (Zq d'),c3,c2⟩,fun R D=> ?_⟩;rw[gk,gj R D]at N;obtain⟨a1,a2,a3⟩:=apR (by unfold pL at N;simpa using N);exact⟨a3,fun d hd e=>a2 d e hd⟩
  have A:=v8 k o U
  have N:∀t∈o.looksAt ops,X.get t=(s k).get t:=fun t ht=>I.slot t k jO fun j R D F=>by
   by_cases G:j=k
   ·subst G;exact⟨fun x=>absurd x v0,fun x=>by omega⟩
   ·by_cases z:(Dn u j↔j<k)
    ·exact z
    ·exact absurd ht (((J j (Array.getElem?_eq_some_iff.1 D).1 G z).2 R D).1 t F)
  obtain⟨f',Z,z5⟩:=A.uF hD fun e u3 l'=>j9.OW fun c hc=>(I.mem e.b c k jO fun j O hw=>by
   by_cases G:j=k
   ·subst G;exact⟨fun x=>absurd x v0,fun x=>by omega⟩
   ·by_cases z:(Dn u j↔j<k)
    ·exact z
    ·obtain⟨⟨c1,c2,c3⟩,_⟩:=J j O G z;rcases hw with ⟨x,hx,w6,u7,w7⟩|hw
     ·exact(c1 x hx e u3 (.inl w6) u7 (by
       rcases w7 with q|q
       ·exact .inr (.inl q)
       ·rcases hc with r|r
        ·exact .inr (.inr r)
        ·exact .inl (by rw[q,r]))).elim
     ·exact(c3 e u3 hw).elim).symm
  have A':=Loc.inside (Loc.fI w9 ops o (s k)) _ _ _ _ _ _ Z;rw[<-adK (s:=X) N]at Z;obtain⟨L',hv⟩:=HY Z;have B:=C.put k o (by simpa using U)
  have y1:∀b,n k<=b->b<n (k+1)->m b=none:=fun b p' n'=>by
   have q1:=W 0 k jO jO;have q2:=W (k+1) ops.size jO jO;rw[I.out b fun j O hd hi=> ?_]
   ·exact hf b jO jO
   ·by_cases G:j=k
    ·subst G;exact v0 hd
    ·rcases Cl j k with h'|h'
     ·have:=W (j+1) k jO jO;omega
     ·have:=W (k+1) j jO jO;omega
  refine O6 (nt:=nt) z9 y0 w9 U (b' o (apS U)) I.wr (Below.le I.below hb) (g.mono I.le) I.sr hv y1 fun m' w' v' u2 z6=> ?_
  have z7:∃u6,aq7 nt X o.dst (v k)=some u6∧∀t,u6.get t=if o.dst=some t then(s (k+1)).get t else X.get t:=by
   unfold aq7 at B⊢;cases F:o.dst with
   |none=>exact⟨X,rfl,fun t=>by simp⟩
   |some d=>
    rw[F]at B;simp only at B⊢;split at B
    ·rename_i hc;rw[if_pos hc];simp only[cD,decide_eq_true_eq]at hc;have hq:=r3 B;rw[<-hq];refine⟨_,rfl,fun t=> ?_⟩;rw[S.pQ _ _ _ _ hc.2,S.pQ _ _ _ _ hc.2];by_cases e:t=d
     ·subst e;simp
     ·rw[if_neg e,if_neg e];simp[Ne.symm e]
    ·cases B
  obtain⟨u6,x0,x2⟩:=z7;refine ih (u.setIfInBounds k true) m' u6 f' _ w' ?_ ⟨by simp[I.sz], ?_, ?_, ?_,I.le.trans u2.le, ?_,u2.wr,I.below.trans u2.below,O4 (I.sr.mono u2.le) z6 x0⟩
  ·have hc:=List.countP_set (p:=fun b=> !b) (l:=u.toList) (i:=k) (a:=true) (by simpa using E);have e1:u.toList[k]=false:=by simpa using y2
   rw[Array.toList_setIfInBounds,hc,x3,e1];simp
  ·intro j R hd D e u3 T;rw[qL E]at hd⊢;rcases hd with rfl|hd
   ·rw[U]at D;cases D;exact .inr (v5 e u3 T)
   ·exact .inr (I.closed j R hd D e u3 T)
  ·intro b c i hi z;by_cases hw:Wr n L k b c
   ·have c':k<i:=(z k v1 hw).1 ((qL E).2 (.inl rfl))
    have h2:dV (h i) (h (k+1)) b c:=v3 b c (k+1) i jO hi fun p z8 u1 CI=>by
     have x4:Dn u p:=by
      rcases (qL E).1 ((z p jO CI).2 u1)with q|q
      ·omega
      ·exact q
     obtain⟨⟨c1,c2,c3⟩,_⟩:=J p jO jO (by intro q;have:=q.1 x4;omega);rcases CI with ⟨x,hx,w6,u7,w7⟩|CI
     ·rcases hw with ⟨y,hy,z4,w5,x8⟩|hw
      ·exact c1 x hx y hy (.inl w6) (by rw[u7,w5]) (by
        rcases w7 with q|q
        ·exact .inr (.inl q)
        ·rcases x8 with r|r
         ·exact .inr (.inr r)
         ·exact .inl (by rw[q,r]))
      ·exact c2 x hx (by rw[u7];exact hw)
     ·rcases hw with ⟨y,hy,z4,w5,x8⟩|hw
      ·exact c3 y hy (by rw[w5];exact CI)
      ·have:=W (k+1) p jO jO;omega
    exact(z5 b c hw).trans h2.symm
   ·refine(A'.frame b c (fun x=>hw (.inl x)) (fun x=>hw (.inr x))).trans (I.mem b c i hi fun j O x9=> ?_);have G:j≠k:=fun e=>hw (e▸x9);rw[<-z j O x9,qL E];exact⟨.inr,fun q=>q.resolve_left G⟩
  ·intro t i hi z;rw[x2 t];by_cases hd:o.dst=some t
   ·rw[if_pos hd];have c':k<i:=(z k o U hd).1 ((qL E).2 (.inl rfl));refine(Y t (k+1) i jO hi fun p op z8 u1 v6 w1=> ?_).symm
    have x4:Dn u p:=by
     rcases (qL E).1 ((z p op v6 w1).2 u1)with q|q
     ·omega
     ·exact q
    obtain⟨_,c⟩:=J p jO jO (by intro q;have:=q.1 x4;omega);exact(c op v6).2 t w1 hd
   ·rw[if_neg hd];refine I.slot t i hi fun j R D F=> ?_;have G:j≠k:=fun e=>hd (by subst e;rw[U]at D;cases D;exact F);rw[<-z j R D F,qL E];exact⟨.inr,fun q=>q.resolve_left G⟩
  ·intro b y3;rw[u2.out b (y3 k v1 ((qL E).2 (.inl rfl)))];exact I.out b fun j O hd=>y3 j O ((qL E).2 (.inr hd))
end
theorem exists_least{p:Nat->Prop}(h:∃n,p n):∃n,p n∧∀k,p k->n<=k:=by
 obtain⟨n,e⟩:=h
 induction n using Od with
 |_ n c=>
  by_cases b:∃k,k<n∧p k
  ·obtain⟨k,a,d⟩:=b;exact c k a d
  ·exact⟨n,e,fun k a=>by
    rcases Cl k n with h|h
    ·exact absurd ⟨k,h,a⟩ b
    ·exact h⟩
noncomputable def least (p:Nat->Prop):Nat:=open Classical in if h:∃n,p n then arR (exists_least h)else 0
theorem O9{p:Nat->Prop}(h:∃n,p n):p (least p)∧∀k,p k->least p<=k:=by unfold least;rw[dif_pos h];exact arS (exists_least h)
def cv:Ex->Exit
 | .normal=> .normal
 | .ret=> .ret
 | .exit id=> .exit id
section
variable {P:Program} {base:Nat} {rec:FuncId->Array Value->M Value} {nt:Nat}
theorem adS (Y:uJ P base) (J:xH P base rec) (G:∀f a,Loc (rec f a)) (u0:P.follows .mixedOrders=true) {id:Nat} {ops:Array Oper} {E:Bool} (Z:∀o∈ops,xE P o=true)
 {Q:Exit->Act->World->Prop} {m:Mp} {s s1:S} {a:Act} {w:World} {h h1:H} {n n1:Nat} {L:List En} (x:WR P m base h w.heap) (hb:base<=w.heap.size) (g:Gl P m) (hs:SR m nt s a)
 (hr:pN P rec nt ops E s h n=some ⟨s1,h1,n1,L⟩) (hf:iC m n n1) (hQ:∀m' a' w',cP P m base n n1 w h1 m' w'->SR m' nt s1 a'->Q .normal a' w'):(Code.region id ops E).wp P Q a w:=by
 unfold pN at hr;obtain⟨y,h2,n2,L1,L2,e1,e2,_⟩:=bind_some hr;obtain⟨N,W,nf,vf,Lf,C,a1,a2,a3,a4,a5,a6,a7,a8⟩:=adL _ _ _ _ _ _ _ _ e1;have u1:ops.toList.length=ops.size:=jS;rw[u1]at a4 a5 a6 a7 a8
 have u:∀i,i<ops.size->nf i<=nf (i+1):=fun i U=>(Loc.inside (Loc.fI G ops ops[i] (N i)) _ _ _ _ _ _ (C.step i ops[i] (by simp[U]))).le
 split at e2
 ·rename_i D;obtain⟨rfl,rfl,rfl⟩:=bX e2;subst a1 a2 a3 a5 a6;rw[<-a4]at hQ;cases E with
  |false=>apply wp_region;rw[List.range_eq_range'];exact adM Y J G Z C hf u hb g (fun _ _=>True) hQ ops.size 0 jO m a w (cP.refl x) hs
  |true=>
   simp only[Bool.not_true,Bool.false_or,cD]at D;obtain⟨p,I⟩:=D;apply wp_region_any u0;have B:=adO ops ops.toList [] (fun i o R=>by simpa using R) (fun k hk=>by simp at hk);refine adR Y J G Z C (fun k o R e he u7=> ?_) B.1 (by simpa using B.2) (fun j k u6 hk=> ?_) hf u (w0:={w with drawn:=w.drawn+1}) hb g (fun m' a' w' hp u5=>hQ m' a' w' ⟨hp.le,hp.out,hp.wr,(apT (rX base w)).trans hp.below⟩ u5) ops.size _ m (N 0) (W 0) a _ ?_ ?_
   ·unfold sx at p;rw[List.all_eq_true]at p
    have:=p (o,k) (by
     rw[List.mem_iff_getElem?]
     exact⟨k,by simp[List.getElem?_zipIdx,R]⟩)
    simp only[cD]at this;have h2:=this.1;rw[ur]at h2;have h3:=h2 e he;simpa[u7]using h3
   ·have F:j<ops.size:=jO;have:=adP _ I j k (j,⟨nf j,nf (j+1),Lf j⟩) (k,⟨nf k,nf (k+1),Lf k⟩) u6 (by rw[H2,a8 j F];simp) (by rw[H2,a8 k hk];simp);exact this
   ·simp[List.countP_replicate]
   ·have T:∀j,¬Dn (zt ops.size false) j:=by intro j F;unfold Dn at F;rw[pE,apU]at F;split at F<;>simp at F
    refine⟨jS,fun k o hd=>absurd hd (T k),fun b c i U z=> ?_,fun t i U z=> ?_,Le.refl _,fun _ _=>rfl,x,rX _ _,hs⟩
    ·
     have O:∀i,i<=ops.size->(∀j,j<ops.size->Wr nf Lf j b c->¬j<i)->dV (W 0) (W i) b c:=by
      intro i
      induction i with
      |zero=>intro _ _;exact dV.refl _ _ _
      |succ i ih=>intro U r;have A:=Loc.inside (Loc.fI G ops ops[i] (N i)) _ _ _ _ _ _ (C.step i ops[i] (by simp[show i<ops.size by omega]));have X:¬Wr nf Lf i b c:=fun X=>r i jO X jO;exact(ih jO fun j F u4 v=>r j F u4 jO).trans (A.frame b c (fun q=>X (.inl q)) (fun q=>X (.inr q))).symm
     exact O i U fun j F X v=>T j ((z j F X).2 v)
    ·have O:∀i,i<=ops.size->(∀j o,ops[j]? =some o->o.dst=some t->¬j<i)->(N 0).get t=(N i).get t:=by
      intro i
      induction i with
      |zero=>intro _ _;rfl
      |succ i ih=>
       intro U r;have u2:i<ops.size:=jO;rw[ih jO fun j o R hd v=>r j o R hd jO];have l:=C.put i ops[i] (by simp[u2]);have hd:(ops[i]).dst≠some t:=fun hd=>r i ops[i] (by simp[u2]) hd jO;unfold aq7 at l;cases K:(ops[i]).dst with
       |none=>rw[K]at l;have hq:N i=N (i+1):=r3 l;rw[hq]
       |some d=>
        rw[K]at l hd;simp only at l;split at l
        ·rename_i hc;simp only[cD,decide_eq_true_eq]at hc;have hq:=r3 l;rw[<-hq,S.pQ _ _ _ _ hc.2,if_neg (fun e=>hd (by rw[e]))]
        ·cases l
     exact O i U fun j o R hd v=>T j ((z j o R hd).2 v)
 ·cases e2
theorem adT(u7:uJ P base)(u5:xH P base rec)(R:∀f a,Loc (rec f a))(u6:P.follows .mixedOrders=true):
 ∀(fuel:Nat) (c:Code) (_:kU P c=true) (Q:Exit->Act->World->Prop) (m:Mp) (s s1:S) (a:Act) (w:World) (h h1:H) (n Y:Nat) (L:List En) (e:Ex),WR P m base h w.heap->base<=w.heap.size->Gl P m->SR m nt s a->
  dY P rec nt fuel c s h n=some ⟨(e,s1),h1,Y,L⟩->iC m n Y->(∀m' p w',cP P m base n Y w h1 m' w'->SR m' nt s1 p->Q (cv e) p w')->c.wp P Q a w:=by
 intro fuel
 induction fuel using Od with
 |_ fuel W=>
  intro c d Q m s s1 a w h h1 n Y L e x U g G r T K;cases fuel with
  |zero=>cases r
  |succ f=>
   cases c with
   |skip=>obtain⟨q,rfl,rfl⟩:=bX r;cases q;exact wp_skip (K m a w (cP.refl x) G)
   |label l=>obtain⟨q,rfl,rfl⟩:=bX r;cases q;exact wp_label (K m a w (cP.refl x) G)
   |region id v3 v2=>unfold dY at r;obtain⟨s2,h2,X,O,L2,C,v,_⟩:=bind_some r;obtain⟨q,rfl,rfl⟩:=bX v;cases q;refine adS u7 u5 R u6 (fun o ho=> ?_) x U g G C T K;unfold kU at d;rw[ur]at d;exact d o ho
   |seq z c2=>
    unfold kU at d;simp only[cD]at d;unfold dY at r;obtain⟨y,h2,X,O,L2,C,v,_⟩:=bind_some r;obtain⟨e0,s2⟩:=y;have A:=Loc.dY R f z s h n _ h2 X O C;apply wp_seq;cases e0 with
    |normal=>have B:=Loc.dY R f c2 s2 h2 X _ h1 Y L2 v;refine W f jO z d.1 _ m s s2 a w h h2 n X O .normal x U g G C (T.first B.le) fun m' p w' j i=> ?_;exact W f jO c2 d.2 Q m' s2 s1 p w' h2 h1 X Y L2 e j.wr (Below.le j.below U) (g.mono j.le) i v (T.after A.le j) fun E N D I F=>K E N D (j.trans A.le B.le I) F
    |ret=>obtain⟨q,rfl,rfl⟩:=bX v;cases q;exact W f jO z d.1 _ m s _ a w h _ n _ O .ret x U g G C T fun m' p w' j i=>K m' p w' j i
    |exit id=>obtain⟨q,rfl,rfl⟩:=bX v;cases q;exact W f jO z d.1 _ m s _ a w h _ n _ O (.exit id) x U g G C T fun m' p w' j i=>K m' p w' j i
   |cond c0 z c2=>
    unfold kU at d;simp only[cD]at d;unfold dY at r;simp only at r;generalize ht:ev s c0=v0 at r;cases v0 with
    |bool t=>
     have hv:=O3 g G d.1.1;rw[ht]at hv
     have hc:a.eval c0= .bool t:=by generalize a.eval c0=u at hv;cases hv;rfl
     refine wp_cond hc ?_;refine W f jO _ ?_ Q m s s1 a w h h1 n Y L e x U g G r T K;cases t
     ·exact d.2
     ·exact d.1.2
    |_=>cases r
   |block id z=>
    unfold kU at d;unfold dY at r;obtain⟨y,h2,X,O,L2,C,v,_⟩:=bind_some r;obtain⟨e0,s2⟩:=y;apply wp_block;cases e0 with
    |normal=>obtain⟨q,rfl,rfl⟩:=bX v;cases q;exact W f jO z d _ m s _ a w h _ n _ O .normal x U g G C T fun m' p w' j i=>K m' p w' j i
    |ret=>obtain⟨q,rfl,rfl⟩:=bX v;cases q;exact W f jO z d _ m s _ a w h _ n _ O .ret x U g G C T fun m' p w' j i=>K m' p w' j i
    |exit Z=>
     simp only at v;by_cases u1:Z=id
     ·rw[if_pos u1]at v;obtain⟨q,rfl,rfl⟩:=bX v;cases q;refine W f jO z d _ m s _ a w h _ n _ O (.exit Z) x U g G C T fun m' p w' j i=> ?_;show(if Z=id then _ else _);rw[if_pos u1];exact K m' p w' j i
     ·rw[if_neg u1]at v;obtain⟨q,rfl,rfl⟩:=bX v;cases q;refine W f jO z d _ m s _ a w h _ n _ O (.exit Z) x U g G C T fun m' p w' j i=> ?_;show(if Z=id then _ else _);rw[if_neg u1];exact K m' p w' j i
   |loop z=>
    have u0:kU P z=true:=by unfold kU at d;exact d
    let J:Act->World->Nat->Prop:=fun p w' k=>k<=f+1∧∃m' s' h' n' L',n<=n'∧n'<=Y∧cP P m base n n' w h' m' w'∧SR m' nt s' p∧dY P rec nt k (.loop z) s' h' n'=some ⟨(e,s1),h1,Y,L'⟩;have u9:=(Loc.dY R (f+1) (.loop z) s h n _ h1 Y L r).le;refine wp_loop (fun p w'=>∃k,J p w' k) (fun p w'=>least (J p w')) ⟨f+1,ai _,m,s,h,n,L,ai _,u9,cP.refl x,G,r⟩ ?_;intro p w' hI;obtain⟨hJ,v1⟩:=O9 hI;generalize hk:least (J p w')=k at hJ;obtain⟨v5,m',s',h',n',L',u3,v4,j,i,u2⟩:=hJ;cases k with
    |zero=>cases u2
    |succ k=>
     unfold dY at u2;obtain⟨y,h2,X,O,L2,C,v,_⟩:=bind_some u2;obtain⟨e0,s2⟩:=y;have A:=Loc.dY R k z s' h' n' _ h2 X O C;cases e0 with
     |normal=>
      have B:=Loc.dY R k (.loop z) s2 h2 X _ h1 Y L2 v;refine W k jO z u0 _ m' s' s2 p w' h' h2 n' X O .normal j.wr (Below.le j.below U) (g.mono j.le) i C (fun b q1 q2=> ?_) fun E N D I F=> ?_
      ·have:=B.le;rw[j.out b jO];exact T b jO jO
      ·have u4:J N D k:=⟨jO,E,s2,h2,X,L2,by have:=A.le;omega,B.le,j.trans u3 A.le I,F,v⟩;exact⟨⟨k,u4⟩,Nat.lt_succ_of_le ((O9 ⟨k,u4⟩).2 k u4)⟩
     |ret=>obtain⟨q,rfl,rfl⟩:=bX v;cases q;refine W k jO z u0 _ m' s' _ p w' h' _ n' _ O .ret j.wr (Below.le j.below U) (g.mono j.le) i C (fun b q1 q2=> ?_) fun E N D I F=>K E N D (j.trans u3 A.le I) F;rw[j.out b jO];exact T b jO q2
     |exit id=>obtain⟨q,rfl,rfl⟩:=bX v;cases q;refine W k jO z u0 _ m' s' _ p w' h' _ n' _ O (.exit id) j.wr (Below.le j.below U) (g.mono j.le) i C (fun b q1 q2=> ?_) fun E N D I F=>K E N D (j.trans u3 A.le I) F;rw[j.out b jO];exact T b jO q2
   |exit id=>obtain⟨q,rfl,rfl⟩:=bX r;cases q;exact wp_exit (K m a w (cP.refl x) G)
   |ret=>obtain⟨q,rfl,rfl⟩:=bX r;cases q;exact wp_ret (K m a w (cP.refl x) G)
   |rangeFunc _ _ _ _=>cases r
   |scope _=>cases r
   |goto _=>cases r
   |refuse _=>cases r
end
theorem O':∀(l:List Value) (i:Nat) (s:S) (t:Nat),i+l.length<1023->(sE i l s).get t=if i<=t∧t<i+l.length then l.getD (t-i) undef else s.get t:=by
 intro l
 induction l with
 |nil=>intro i s t _;rw[if_neg jS];rfl
 |cons v r b=>
  intro i s t c;simp only[List.length_cons]at c;unfold sE;rw[b (i+1) _ t jO];by_cases a:i+1<=t∧t<i+1+r.length
  ·rw[if_pos a,if_pos (by simp;omega)];rw[show t-i=(t-(i+1))+1 by omega];simp
  ·rw[if_neg a,S.pQ _ _ _ _ jO];by_cases e:t=i
   ·subst e;simp
   ·rw[if_neg e,if_neg (by simp;omega)]
theorem S.get_nil(t:Nat):S.get (.nil:S) t=undef:=by unfold S.get;rw[Tr.get_nil];rfl
theorem adU{m:Mp}{args a:Array Value}{nt:Nat}(h:bo m args.toList a.toList)(i:args.size<=nt)(h2:nt<1000):SR m nt (sE 0 args.toList .nil) {tmps:=a++zt (nt-a.size) undef,defers:=[]}:=by
 have g:args.size=a.size:=by simpa using h.length
 refine⟨rfl,by simp;omega,fun t=> ?_⟩;rw[O' _ _ _ _ (by simp;omega)];by_cases d:t<args.size
 ·rw[if_pos (by simp;exact d)];obtain⟨e,b,f⟩:=h.get t (args.toList.getD (t-0) undef) (by simp[aC,d])
  have:(a++zt (nt-a.size) undef).getD t undef=e:=by have c:t<a.size:=jO;rw[pE,apV c];simp at b;simp[b]
  show VR m _ ((a++zt (nt-a.size) undef).getD t undef);rw[this];exact f
 ·rw[if_neg (by simp;omega),S.get_nil]
  have:(a++zt (nt-a.size) undef).getD t undef=undef:=by rw[pE,Array.getElem?_append_right jO,apU];split<;>rfl
  show VR m _ ((a++zt (nt-a.size) undef).getD t undef);rw[this];exact VR.undef
theorem adV{P:Program}:∀(s:Sem Next) (v:Value),jg P s=some v->∀w,s.run P w= .ok (.value v) w:=by
 intro s
 induction s with
 |pure a=>intro v h w;cases a<;>simp[jg]at h;subst h;rfl
 |program k b=>intro v h w;exact b P v (by simpa[jg]using h) w
 |_=>intro v h;simp[jg]at h
def Sound(P:Program)(base:Nat)(m:Mp)(w:World)(h:H)(n:Nat)(s:Sem Value)(r:Value)(e:H)(d:Nat):Prop:=
 ∃c a b,s.run P w= .ok b a∧cP P m base n d w e c a∧VR c r b
theorem adW{P:Program}{e:TypeId}{n:Nat}(h:size? P e=some n):∃i,P.info? e=some i∧i.size=n:=by
 unfold size? at h;cases a:P.info? e with
 |none=>rw[a]at h;cases h
 |some i=>rw[a]at h;exact⟨i,rfl,by simpa using h⟩
theorem Pa{P:Program}{e:TypeId}{z:Value}(h:fQ P e=some z):(∃i,P.info? e=some i∧i.zero=some z)∧clean z=true:=by
 unfold fQ at h;cases b:P.info? e with
 |none=>rw[b]at h;cases h
 |some i=>
  rw[b]at h;simp only[Ob]at h;cases a:i.zero with
  |none=>rw[a]at h;cases h
  |some u=>
   rw[a]at h;simp only at h;split at h
   ·rename_i c;cases h;exact⟨⟨i,rfl,a⟩,c⟩
   ·cases h
theorem CJ{P:Program}{e:TypeId}{z:Value}(h:fQ P e=some z):∃i,P.info? e=some i∧i.zero=some z:=(Pa h).1
theorem H3{P:Program}{e:TypeId}{z:Value}(h:fQ P e=some z):clean z=true:=(Pa h).2
theorem run_sizeOf{P:Program}{e:TypeId}{n:Nat}(h:size? P e=some n)(w:World):(sizeOf e).run P w= .ok n w:=by obtain⟨i,a,rfl⟩:=adW h;simp[sizeOf,typeInfo,program,a,Ch,bind,zs];rfl
theorem CK{P:Program}{e:TypeId}{z:Value}(h:fQ P e=some z)(w:World):(zeroValue e).run P w= .ok z w:=by obtain⟨i,b,a⟩:=CJ h;simp[zeroValue,typeInfo,program,b,a,Ch]
theorem uK{P:Program}{t:TypeId}{b:Bool}(h:jf P t=some b)(w:World):(isAgg t).run P w= .ok b w:=by
 unfold jf at h;cases hd:P.underlying t with
 |none=>rw[hd]at h;cases h
 |some d=>rw[hd]at h;unfold isAgg;rw[eF,run_underlying hd];cases d<;>simp at h<;>subst h<;>rfl
section
variable {P:Program} {base:Nat} {m:Mp} {w:World} {h h1:H} {n n1:Nat} {r:Value} {L:List En}
theorem adX{e:TypeId}(x:WR P m base h w.heap)(p:base<=w.heap.size)(l:iC m n n1)(b:nI P e h n=some ⟨r,h1,n1,L⟩):Sound P base m w h n (apW e true (.tuple #[])) r h1 n1:=by
 unfold nI at b;cases a:fQ P e with
 |none=>rw[a]at b;cases b
 |some z=>
  rw[a]at b;obtain⟨id,u,t,A,y,s,q,_⟩:=bind_some b;obtain⟨rfl,rfl,rfl⟩:=bX q;obtain⟨i,j,_⟩:=CJ a;have o:=(VR.clean (m:=m) (H3 a)).cells;obtain⟨rfl,rfl,d,c,f⟩:=uI x s l p (cs':=z.cells) jS (fun k v g=>by simpa using o.get k v g) (esz:=i.size) (by simp[size?,j]);refine⟨d,_,.pointer (some ⟨w.heap.size,0,none⟩), ?_,f, ?_⟩
  ·simp only[apW,eF,CK a,eP,newVar,newRow,newObj];rfl
  ·exact VR.ptr c
theorem adY{e:TypeId}{v b:Value}(f:VR m v b)(x:WR P m base h w.heap)(o:base<=w.heap.size)(l:iC m n n1)(a:nJ P e v h n=some ⟨r,h1,n1,L⟩):Sound P base m w h n (Instr.box e b) r h1 n1:=by
 unfold nJ at a;cases c:size? P e with
 |none=>rw[c]at a;cases a
 |some z=>rw[c]at a;obtain⟨id,t,s,A,y,q,p,_⟩:=bind_some a;obtain⟨rfl,rfl,rfl⟩:=bX p;obtain⟨rfl,rfl,g,d,i⟩:=uI x q l o (cs':=b.cells) (by simp[f.HV]) (fun k u j=>by simpa using f.cells.get k u j) c;exact⟨g,_,.pointer (some ⟨w.heap.size,0,none⟩),rfl,i,VR.ptr d⟩
theorem adZ{cs cs':Array Value}{off:Nat}:∀{us b:List Value} (_:bo m us b) (i:Nat) {cs cs':Array Value},bo m cs.toList cs'.toList->
 bo m ((us.zipIdx i).foldl (fun(a:Array Value) (x:Value×Nat)=>a.setIfInBounds (off+x.2) x.1) cs).toList ((b.zipIdx i).foldl (fun(a:Array Value) (x:Value×Nat)=>a.setIfInBounds (off+x.2) x.1) cs').toList:=by
 intro us b f
 induction f using bo.rec (motive_1:=fun _ _ _=>True)with
 |nil=>intro i cs cs' c;exact c
 |cons e _ _ d=>intro i cs cs' c;simp only[List.zipIdx_cons,Cj];exact d (i+1) (by simpa using bo.set (off+i) c e)
 |_=>trivial
theorem Pb{e:Nat->Option (Nat×Nat)}:∀(d b:List (Nat×Value)) (cs cs' out:Array Value),d.map (·.1)=b.map (·.1)->bo m (d.map (·.2)) (b.map (·.2))->bo m cs.toList cs'.toList->lG e cs d=some out->
 ∃f,lG e cs' b=some f∧bo m out.toList f.toList∧out.size=cs.size:=by
 intro d
 induction d with
 |nil=>
  intro b cs cs' out h1 n k g;cases b with
  |nil=>simp[lG]at g;subst g;exact⟨cs',rfl,k,rfl⟩
  |cons _ _=>simp at h1
 |cons p d u=>
  intro b cs cs' out h1 n k g;cases b with
  |nil=>simp at h1
  |cons s b=>
   obtain⟨i,v⟩:=p;obtain⟨L,r⟩:=s;simp at h1;obtain⟨rfl,h1⟩:=h1;simp only[List.map_cons]at n;cases n with
   |cons o w=>
    unfold lG at g⊢;cases q:e i with
    |none=>rw[q]at g;cases g
    |some t=>
     obtain⟨off,K⟩:=t;rw[q]at g;simp only at g⊢;have E:r.cells.size=v.cells.size:=o.HV.symm;have D:cs'.size=cs.size:=by have:=k.length;simpa using this.symm
     rw[E,D];split at g
     ·cases g
     ·rename_i A;rw[if_neg A];have z:=adZ (m:=m) (cs:=cs) (cs':=cs') (off:=off) o.cells 0 k
      have C:∀(h:Array Value) (a:Array Value),h.zipIdx.foldl (fun cs (c,j)=>cs.setIfInBounds (off+j) c) a=(h.toList.zipIdx 0).foldl (fun(a:Array Value) (x:Value×Nat)=>a.setIfInBounds (off+x.2) x.1) a:=by intro h a;rw[<-Array.foldl_toList,Array.toList_zipIdx]
      have B:∀(h:List (Value×Nat)) (a:Array Value),(h.foldl (fun(a:Array Value) (x:Value×Nat)=>a.setIfInBounds (off+x.2) x.1) a).size=a.size:=by
       intro h
       induction h with
       |nil=>intro a;rfl
       |cons y J l=>intro a;rw[Cj,l];simp
      rw[C]at g⊢;obtain⟨f,I,G,F⟩:=u b _ _ out h1 w z g;exact⟨f,I,G,by rw[F,B]⟩
theorem ad0 {t:TypeId} {c b:List (Nat×Value)} (F:c.map (·.1)=b.map (·.1)) (E:bo m (c.map (·.2)) (b.map (·.2))) (x:WR P m base h w.heap)
 (g:mC P t c h n=some ⟨r,h1,n1,L⟩):Sound P base m w h n (ac' t b.toArray) r h1 n1:=by
 unfold mC at g;cases v:fQ P t with
 |none=>rw[v]at g;cases g
 |some z=>
  rw[v]at g;cases A:P.underlying t with
  |none=>rw[A]at g;cases g
  |some d=>
   rw[A]at g;simp only at g;cases a:xz P d with
   |none=>rw[a]at g;cases g
   |some K=>
    rw[a]at g;simp only at g;cases q:lG K z.cells c with
    |none=>rw[q]at g;cases g
    |some R=>
     rw[q]at g;obtain⟨rfl,rfl,rfl⟩:=bX g;obtain⟨G,J,T,_⟩:=Pb c b _ _ R F E (VR.clean (m:=m) (H3 v)).cells q;refine⟨m,w,.agg G, ?_,cP.refl x,.agg T⟩;cases d with
     |struct p=>
      unfold xz at a;cases j:p.all fun f=>(size? P f.type).isSome with
      |false=>simp only[j]at a;cases a
      |true=>
       simp only[j]at a;cases a
       have o:(p.mapM fun f=>do pure (f.offset,<-sizeOf f.type):Sem (Array (Nat×Nat))).run P w= .ok (p.map fun f=>(f.offset,(size? P f.type).getD 0)) w:=by
        rw[Array.mapM_eq_mapM_toList]
        have:∀l:List Field,(∀f∈l,(size? P f.type).isSome=true)->(l.mapM (fun f=>do pure (f.offset,<-sizeOf f.type)):Sem (List (Nat×Nat))).run P w= .ok (l.map fun f=>(f.offset,(size? P f.type).getD 0)) w:=by
         intro l
         induction l with
         |nil=>intro _;rfl
         |cons f l N=>intro I;obtain⟨k,B⟩:=Option.isSome_iff_exists.1 (I f jS);rw[List.mapM_cons];simp only[bind_assoc,pure_bind,eF,run_sizeOf B,eP,N fun Q u=>I Q (by simp[u])];simp[B]
        have O:=this p.toList fun f u=>(ur.1 j) f (Array.mem_toList_iff.1 u);simp only[map_eq_pure_bind,eF,O,eP,oB];congr 1;apply Array.ext';simp
       have D:∀i,(p.map fun f=>(f.offset,(size? P f.type).getD 0))[i]? =placeOf P p i:=by
        intro i;unfold placeOf;cases s:p[i]? with
        |none=>simp[s]
        |some f=>obtain⟨k,B⟩:=Option.isSome_iff_exists.1 ((ur.1 j) f (apS s));simp[s,B]
       have y:(fun i=>(p.map fun f=>(f.offset,(size? P f.type).getD 0))[i]?)=placeOf P p:=funext D;unfold ac';simp only[eF,CK v,run_underlying A,eP,o,y,J];rfl
     |array _ e=>
      unfold xz at a;cases C:size? P e with
      |none=>simp only[C]at a;cases a
      |some U=>simp only[C]at a;cases a;unfold ac';simp only[eF,CK v,run_underlying A,eP,run_sizeOf C,J];rfl
     |_=>cases a
theorem Pc{e:TypeId}{z:Value}(f:fQ P e=some z)(k:Nat):bo m (gf z k).toList (gf z k).toList:=by
 unfold gf;rw[Array.toList_map];refine bo.map _ fun i=> ?_;have g:=(VR.clean (m:=m) (H3 f)).cells;by_cases a:i %z.cells.size<z.cells.size
 ·obtain⟨d,b,c⟩:=g.get (i %z.cells.size) z.cells[i %z.cells.size] (by simp[a]);have:d=z.cells[i %z.cells.size]:=by simpa[a]using b.symm
  rw[this]at c;simpa[a]using c
 ·rw[getElem!_neg z.cells _ a];exact .bool _
theorem ad1 {t:TypeId} {len:Nat} {b a:List (Nat×Value)} (y:b.map (·.1)=a.map (·.1)) (J:bo m (b.map (·.2)) (a.map (·.2))) (x:WR P m base h w.heap) (R:base<=w.heap.size) (O:iC m n n1)
 (c:mD P t len b h n=some ⟨r,h1,n1,L⟩):Sound P base m w h n (ac_ t len a.toArray) r h1 n1:=by
 unfold mD at c;cases B:P.underlying t with
 |none=>rw[B]at c;cases c
 |some d=>
  rw[B]at c;cases d<;>try(cases c;done)
  rename_i e;simp only at c;cases o:size? P e with
  |none=>rw[o]at c;cases c
  |some j=>
   cases A:fQ P e with
   |none=>rw[o,A]at c;cases c
   |some z=>
    rw[o,A]at c;simp only at c;by_cases f:(len=0&&b.isEmpty)=true
    ·rw[if_pos f]at c;simp only[cD,decide_eq_true_eq,List.isEmpty_iff]at f;obtain⟨rfl,rfl⟩:=f;obtain⟨id,Y,X,L1,L2,N,K,_⟩:=bind_some c;obtain⟨rfl,rfl,rfl⟩:=bX K
     have E:a=[]:=by
      cases a with
      |nil=>rfl
      |cons p ps=>simp at y
     subst E;obtain⟨rfl,rfl,D,q,F⟩:=uI x N O R (cs':=#[]) jS (fun k v G=>by simp at G) o;refine⟨D,_,.slice (some ⟨w.heap.size,0,none⟩) 0 0, ?_,F,VR.fR q (fun _=>rfl) (fun _=>rfl) (fun g=>by simp[aU]at g) (ai _) jS⟩;unfold ac_;simp only[eF,run_underlying B,eP,run_sizeOf o,Nat.zero_mul,if_true,oB,pure_bind];have C:¬(0>2^24):=jO;simp only[if_neg C,lG,Array.range_zero',Array.map_empty];rfl
    rw[if_neg f]at c;split at c
    ·rename_i Q;simp only[cD,decide_eq_true_eq]at Q;cases s:lG (fun i=>some (i*j,j)) (gf z (len*j)) b with
     |none=>rw[s]at c;cases c
     |some T=>
      rw[s]at c;simp only at c;obtain⟨id,Y,X,L1,L2,N,K,_⟩:=bind_some c;obtain⟨rfl,rfl,rfl⟩:=bX K;obtain⟨cs',W,U,Z⟩:=Pb b a _ _ T y J (Pc (m:=m) A (len*j)) s;have l:T.size=cs'.size:=by have:=U.length;simpa using this
      obtain⟨rfl,rfl,D,q,F⟩:=uI x N O R (cs':=cs') (by simp[l]) (fun k v G=>by simpa using U.get k v G) o;have I:cs'.size=len*j:=by rw[<-l,Z];simp[gf]
      have u:1<=j:=by
       rcases Nat.eq_zero_or_pos j with h0|h0
       ·subst h0;simp at Q
       ·exact h0
      have hl:len<=len*j:=Nat.le_mul_of_pos_right _ u;refine⟨D,_,.slice (some ⟨w.heap.size,0,none⟩) len len, ?_,F,VR.fR q (fun _=>rfl) (fun _=>rfl) (fun g=>by simp[aU]at g;omega) (ai _) (by simp[I])⟩;unfold ac_;have C:¬(len*j>2^24):=jO;have n1:¬(len*j=0):=jO;simp only[eF,run_underlying B,eP,run_sizeOf o,if_neg C,if_neg n1,CK A,oB,pure_bind];unfold gf at W;rw[W];rfl
    ·cases c
theorem H4{b off:Nat}{a:Value}(c:VR m (.pointer (some ⟨b,off,none⟩)) a):∃d,m b=some d∧a= .pointer (some ⟨d.dD,d.sh+off,none⟩):=by
 cases c with
 |ptr h=>exact⟨_,h,rfl⟩
theorem ad2{t:TypeId}{a q:Value}(A:VR m a q)(x:WR P m base h w.heap)(c:jj P t a h n=some ⟨r,h1,n1,L⟩):Sound P base m w h n (ada t q) r h1 n1:=by
 unfold jj at c;split at c
 ·rename_i b u;obtain⟨d,hd,rfl⟩:=H4 A;cases l:jf P t with
  |none=>rw[l]at c;cases c
  |some g=>
   rw[l]at c;cases g with
   |false=>simp only at c;obtain⟨rfl,rfl,G,s,j,z,v⟩:=CH x c;rw[hd]at j;cases j;refine⟨m,w,s, ?_,cP.refl x,v⟩;simp only[ada,Hn,pure_bind,loadVar,eF,uK l w,eP,nD,if_false];show(Sem.load _ _ _).run P w=_;simp[Ch,z]
   |true=>
    cases o:size? P t with
    |none=>rw[o]at c;cases c
    |some k=>
     rw[o]at c;simp only at c;obtain⟨D,F,E,J,I,C,B,_⟩:=bind_some c;obtain⟨rfl,rfl,rfl⟩:=bX B;obtain⟨rfl,rfl,y,e,f,p⟩:=sI x hd C;refine⟨m,w,.agg e.toArray, ?_,cP.refl x,.agg (by simpa using f)⟩;have i:e.length=k:=by rw[<-f.length,y]
     have:=xG (P:=P) p;rw[i]at this;simp only[ada,Hn,pure_bind,loadVar,eF,uK l w,eP,if_true,run_sizeOf o,this];rfl
 ·cases c
theorem ad3{t:TypeId}{a q v e:Value}(z:VR m a q)(p:VR m v e)(x:WR P m base h w.heap)(c:oF P t a v h n=some ⟨r,h1,n1,L⟩):r=undef∧∃w',(apY t q e).run P w= .ok () w'∧cP P m base n n1 w h1 m w':=by
 unfold oF at c;split at c
 ·rename_i b f;obtain⟨d,hd,rfl⟩:=H4 z;cases j:size? P t with
  |none=>rw[j]at c;cases c
  |some k=>
   rw[j]at c;simp only at c;split at c
   ·rename_i y;obtain⟨u,D,C,F,E,B,A,_⟩:=bind_some c;obtain⟨rfl,rfl,rfl⟩:=bX A;cases u;obtain⟨rfl,w',g,s,o⟩:=HW hd p.cells (i:=0) (d.sh+f) jO x B;refine⟨rfl,w', ?_,⟨Le.refl _,fun _ _=>rfl,s,o⟩⟩;have l:e.cells.size=k:=by rw[<-p.HV];exact y
    simp only[apY,Hn,pure_bind,storeVar,eF,run_sizeOf j,eP,l,ne_eq,not_true,if_false];exact g
   ·cases c
 ·cases c
theorem ad4{v d:Value}(e:VR m v d)(x:WR P m base h w.heap)(c:qH v h n=some ⟨r,h1,n1,L⟩):
 h1=h∧n1=n∧VR m r d∧((∃a,d= .pointer (some a))∨∃f a b,d= .func (.func f) a b):=by
 unfold qH at c;split at c
 ·obtain⟨rfl,rfl,rfl⟩:=bX c;refine⟨rfl,rfl,e,.inl ?_⟩;cases e with|ptr h=>exact⟨_,rfl⟩
 ·obtain⟨rfl,rfl,rfl⟩:=bX c;refine⟨rfl,rfl,e,.inr ?_⟩;cases e with|func i h1 g=>exact⟨_,_,_,rfl⟩
 ·cases c
theorem ad5:∀(vs:List Value) (a s:ByteArray),bytesOf vs a=some s->∃b:List Int,vs=b.map (gW .u8)∧s=b.foldl (fun r n=>r.push (dT n.toNat)) a:=by
 intro vs
 induction vs with
 |nil=>intro a s h;simp[bytesOf]at h;exact⟨[],rfl,h.symm⟩
 |cons v vs c=>
  intro a s h;cases v with
  |int k n=>
   cases k with
   |u8=>obtain⟨b,rfl,d⟩:=c (a.push (dT n.toNat)) s (by simpa[bytesOf]using h);exact⟨n::b,rfl,d⟩
   |_=>simp[bytesOf]at h
  |_=>simp[bytesOf]at h
theorem bo.ints{k:IntKind}:∀{b:List Int} {a:List Value},bo m (b.map (gW k)) a->a=b.map (gW k)
 |[],_,.nil=>rfl
 |_::_,_,.cons (.int _ _) t=>by rw[bo.ints t];rfl
theorem ad6{v j:Value}(u:VR m v j)(x:WR P m base h w.heap)(g:nK v h n=some ⟨r,h1,n1,L⟩):∃a l c,j= .slice a l c∧Sound P base m w h n (apZ j) r h1 n1:=by
 unfold nK at g;split at g
 ·obtain⟨rfl,rfl,rfl⟩:=bX g;cases u;exact⟨_,_,_,rfl,m,w,.string .empty,by simp[apZ],cP.refl x,.string _⟩
 ·rename_i b B len cap;obtain⟨A,K,J,U,T,G,i,_⟩:=bind_some g;cases f:bytesOf A .empty with
  |none=>rw[f]at i;cases i
  |some s=>
   rw[f]at i;obtain⟨rfl,rfl,rfl⟩:=bX i;cases u with
   |@fR _ _ _ _ y I d hd D R Q O N=>
    obtain⟨rfl,rfl,E,z,k,p⟩:=sI x hd G;obtain⟨t,rfl,C⟩:=ad5 _ _ _ f;have o:=bo.ints k;subst o;refine⟨_,_,_,rfl,m,w,.string s, ?_,cP.refl x,.string _⟩;rw[C];apply run_bytesToString;have e:(t.map (gW .u8)).length=len:=E;have:=xG (P:=P) p;rw[e]at this;by_cases F:0<len
    ·rw[D (.inl F)];exact this
    ·have q:len=0:=jO;subst q;have:t=[]:=by simpa using e
     subst this;rfl
 ·cases g
theorem ad7{e:TypeId}{s:ByteArray}(E:size? P e=some 1)(x:WR P m base h w.heap)(hb:base<=w.heap.size)(hf:iC m n n1)(y:qI e s h n=some ⟨r,h1,n1,L⟩):Sound P base m w h n (ap0 e s) r h1 n1:=by
 unfold qI at y;split at y
 ·rename_i Z;obtain⟨id,R,n2,L1,L2,e1,e2,_⟩:=bind_some y;obtain⟨rfl,rfl,rfl⟩:=bX e2;obtain⟨cap,f⟩:∃cap,grownCap w s.size 0 e=cap:=⟨_,rfl⟩;have t:s.size<=cap:=by rw[<-f];unfold grownCap adb;exact Nat.le_add_right _ _
  obtain⟨cs',c⟩:∃cs':Array Value,(s.data.map fun b=>gW .u8 b.toNat)++zt (cap-s.size) (.int .u8 0)=cs':=⟨_,rfl⟩;have g:cs'.size=cap:=by rw[<-c];simp;have:s.data.size=s.size:=rfl;omega
  obtain⟨rfl,rfl,X,F,z⟩:=uI (w:=w.drew) (P:=P) (m:=m) (base:=base) x e1 hf hb (cs':=cs') (by rw[g];simp;exact t) (fun k v l=>by
   refine⟨v, ?_, ?_⟩
   ·rw[<-c]
    have G:k<s.data.size:=by
     rcases Cl k s.data.size with q|q
     ·exact q
     ·rw[jM (by simpa using q)]at l;cases l
    rw[apV (by simpa using G)];simpa using l
   ·have:v∈(s.data.map fun b=>gW .u8 b.toNat).toList:=apQ l;simp at this;obtain⟨b,_,rfl⟩:=this
    exact .int _ _) E
  have a:((w.drew.alloc (.cells cs' e)).freeze ⟨w.heap.size,cap,none⟩ 1).heap=(w.drew.alloc (.cells cs' e)).heap.modify w.heap.size (fun _=> .cells cs' e (cap,cap+1)):=by
   unfold Og;simp only[Nat.one_ne_zero,if_false];apply Array.ext_getElem?;intro i;rw[Hm,Hm];by_cases A:w.heap.size=i
   ·subst A;have:(w.drew.alloc (.cells cs' e)).heap[w.heap.size]? =some (.cells cs' e (0,0)):=heap_alloc_new w.drew _;rw[if_pos rfl,if_pos rfl,this];simp
   ·simp[A]
  refine⟨X,(w.drew.alloc (.cells cs' e)).freeze ⟨w.heap.size,cap,none⟩ 1,.slice (some ⟨w.heap.size,0,none⟩) s.size cap, ?_,⟨z.le,z.out, ?_, ?_⟩, ?_⟩
  ·have d:(w.drew.alloc (.cells cs' e)).shape? w.heap.size=some (e,cap):=by unfold World.shape?;rw[show(w.drew.alloc (.cells cs' e)).heap[w.heap.size]? =some (.cells cs' e (0,0))from heap_alloc_new w.drew _];simp[g]
   unfold ap0;simp only[choose,bind,zs,pure];show(Sem.choose _ _).run P w=_;simp only[Ch,ap1,nD,if_false];have I:adb (.appendCap s.size 0 e) (w.tape w.drawn (.appendCap s.size 0 e))=cap:=f;rw[I,c];simp only[newRow,newObj,bind,zs,pure,Ch,markStringish,shape];have j:({heap:=w.heap.push (.cells cs' e),tape:=w.tape,drawn:=w.drawn+1,os:=w.os,output:=w.output}:World)=w.drew.alloc (.cells cs' e):=rfl;rw[j,d];rfl
  ·have p:=z.wr;constructor
   ·intro b B hB;obtain⟨⟨u,u0,T,U,u1⟩,cs,Y,A,W,D,O,N,J,C,K⟩:=p.live b B hB;simp only at D O N J C K;rw[a];by_cases o:u=w.heap.size
    ·have:(w.drew.alloc (.cells cs' e)).heap[w.heap.size]? =some (.cells cs' e (0,0)):=heap_alloc_new w.drew _;rw[o,this]at D;cases D;refine⟨_,cs',cap,cap+1,W, ?_,O,N,J,fun Q=>⟨(C Q).1,(C Q).2.1,fun k l=>by simp only at l;omega⟩,K⟩;rw[o,Hm,if_pos rfl,this];rfl
    ·exact⟨_,cs,Y,A,W,by rw[getElem?_modify_ne _ _ (Ne.symm o)];exact D,O,N,J,C,K⟩
   ·exact p.inj
  ·have h1:=z.below;have h0:Below base w w.drew:=apT (rX _ _)
   have R:Below base (w.drew.alloc (.cells cs' e)) ((w.drew.alloc (.cells cs' e)).freeze ⟨w.heap.size,cap,none⟩ 1):=by
    refine⟨?_, ?_, ?_, ?_,fun k l=> ?_⟩
    ·unfold Og;simp
    ·unfold Og;simp
    ·unfold Og;simp
    ·rw[a];simp
    ·rw[a,getElem?_modify_ne _ _ jO]
   exact(h0.trans h1).trans R
  ·exact VR.fR F (fun _=>rfl) (fun q=>by simp[aU]at q;omega) (fun _=>⟨ai _,jO⟩) t (by simp[g])
 ·cases y
theorem ad8{t:TypeId}{l c A B:Value}(G:VR m l A)(K:VR m c B)(x:WR P m base h w.heap)(N:base<=w.heap.size)(J:iC m n n1)(a:nM P t l c h n=some ⟨r,h1,n1,L⟩):Sound P base m w h n (Instr.makeSlice t A B) r h1 n1:=by
 unfold nM at a;cases u:P.underlying t with
 |none=>rw[u]at a;cases a
 |some d=>
  rw[u]at a;cases d<;>try(cases a;done)
  rename_i e;cases G<;>try(cases a;done)
  rename_i D l;cases K<;>try(cases a;done)
  rename_i E c;simp only at a;cases i:P.info? e with
  |none=>rw[i]at a;cases a
  |some g=>
   cases o:fQ P e with
   |none=>rw[i,o]at a;cases a
   |some z=>
    rw[i,o]at a;simp only at a;split at a
    ·rename_i b;simp only[cD,decide_eq_true_eq]at b;obtain⟨⟨⟨⟨⟨T,R⟩,c3⟩,c4⟩,Z⟩,Y⟩:=b;obtain⟨id,X,U,L1,L2,Q,O,_⟩:=bind_some a;obtain⟨rfl,rfl,rfl⟩:=bX O;obtain⟨W,j,s⟩:=CJ o;rw[i]at j;cases j;have p:=Pc (m:=m) o (c.toNat*g.size);obtain⟨rfl,rfl,C,y,F⟩:=uI x Q J N (cs':=gf z (c.toNat*g.size)) jS (fun k v I=>by simpa using p.get k v I) (esz:=g.size) (by simp[size?,i]);refine⟨C,_,.slice (some ⟨w.heap.size,0,none⟩) l.toNat c.toNat, ?_,F,VR.fR y (fun _=>rfl) (fun _=>rfl) (fun q=>by simp[aU]at q;omega) jO (by simp[gf])⟩
     have f:(g.bytes:Int)*c<=281474976710656:=by have h1:(g.bytes:Int)*c<=64*c:=Int.mul_le_mul_of_nonneg_right jO jO;omega
     exact run_make w t e g z u i s D E l c T R f jO
    ·cases a
end
section
variable {P:Program} {base:Nat} {m:Mp} {w:World} {h h1:H} {n n1:Nat} {r:Value} {L:List En}
theorem Pd{t:TypeId}{cs cs':Array Value}(l:bo m cs.toList cs'.toList){off:Nat}(a:partOf P t cs off=some r)(w:World):∃b,(part t cs' off).run P w= .ok b w∧VR m r b:=by
 unfold partOf at a;cases d:jf P t with
 |none=>rw[d]at a;cases a
 |some g=>
  rw[d]at a;cases g with
  |true=>
   cases f:size? P t with
   |none=>rw[f]at a;cases a
   |some k=>
    rw[f]at a;simp only[ep]at a;subst a;refine⟨.agg (cs'.extract off (off+k)), ?_,.agg ?_⟩
    ·unfold part;simp only[eF,uK d w,eP,if_true,run_sizeOf f];rfl
    ·have n:cs.size=cs'.size:=by simpa using l.length
     refine bo.mG (by simp[n]) fun j v c=> ?_;simp only[Array.toList_extract,List.extract_eq_take_drop,List.getElem?_take,List.getElem?_drop]at c⊢;split at c
     ·rename_i i;rw[if_pos i];exact l.get _ v c
     ·cases c
  |false=>
   simp only at a;obtain⟨b,e,h⟩:=l.get off r (by simpa using a);refine⟨b, ?_,h⟩;unfold part;have:cs'[off]? =some b:=by simpa using e
   simp only[eF,uK d w,eP,nD,if_false,this];rfl
theorem H5{t:TypeId}{v h:Value}{f:Nat}(i:VR m v h)(a:sq P t v f=some r)(w:World):∃u,(ap3 t h f).run P w= .ok u w∧VR m r u:=by
 unfold sq at a;cases c:P.underlying t with
 |none=>rw[c]at a;cases a
 |some d=>
  rw[c]at a;cases d<;>try(cases a;done)
  rename_i k;cases i<;>try(cases a;done)
  rename_i o l j;simp only at a;cases g:k[f]? with
  |none=>rw[g]at a;cases a
  |some n=>rw[g]at a;obtain⟨u,b,e⟩:=Pd j a w;refine⟨u, ?_,e⟩;unfold ap3;simp only[eF,run_underlying c,eP,g,asAgg,oB];exact b
theorem ad9{t:TypeId}{v i:Value}{f:Nat}(l:VR m v i)(a:xA P t v f=some r)(w:World):∃u,(ap4 t i f).run P w= .ok u w∧VR m r u:=by
 unfold xA at a;cases e:P.underlying t with
 |none=>rw[e]at a;cases a
 |some d=>
  rw[e]at a;cases d<;>try(cases a;done)
  rename_i o;cases l<;>try(cases a;done)
  rename_i b c d hd;simp only at a;cases h:o[f]? with
  |none=>rw[h]at a;cases a
  |some j=>
   rw[h]at a;simp only at a;cases g:size? P j.type with
   |none=>rw[g]at a;cases a
   |some k=>
    rw[g]at a;simp only at a;split at a
    ·cases a
    ·rename_i n;cases a;refine⟨.pointer (some ⟨d.dD,d.sh+(c+j.offset),none⟩), ?_,VR.ptr hd⟩;unfold ap4;simp only[eF,run_underlying e,eP,h,Hn,oB,fieldPlace,run_sizeOf g,if_neg n,nN];rw[iA]
theorem ad'{t:TypeId}{v n i o:Value}(p:VR m v n)(q:VR m i o)(a:qJ P t v i=some r)(w:World):∃u,(adf t n o).run P w= .ok u w∧VR m r u:=by
 unfold qJ at a;cases g:P.underlying t with
 |none=>rw[g]at a;cases a
 |some d=>
  rw[g]at a;cases d<;>try(cases a;done)
  case slice e=>
   cases p<;>try(cases a;done)
   rename_i b c len cap s y d hd x C B A z;cases q<;>try(cases a;done)
   rename_i k j;simp only at a;cases f:size? P e with
   |none=>rw[f]at a;cases a
   |some h=>
    rw[f]at a;simp only at a;split at a
    ·rename_i l;cases a;refine⟨.pointer (some ⟨d.dD,d.sh+(c+j.toNat*h),none⟩), ?_,VR.ptr hd⟩;unfold adf;simp only[asIntOf,pure_bind,eF,run_underlying g,eP,oB,if_pos l,run_sizeOf f,nN,x (.inl jO)];rw[iA]
    ·cases a
  case array len e=>
   cases p<;>try(cases a;done)
   rename_i b c d hd;cases q<;>try(cases a;done)
   rename_i k j;simp only at a;cases f:size? P e with
   |none=>rw[f]at a;cases a
   |some h=>
    rw[f]at a;simp only at a;split at a
    ·rename_i l;cases a;refine⟨.pointer (some ⟨d.dD,d.sh+(c+j.toNat*h),none⟩), ?_,VR.ptr hd⟩;unfold adf;simp only[asIntOf,pure_bind,eF,run_underlying g,eP,oB,Hn,if_pos l,run_sizeOf f,nN];rw[iA]
    ·cases a
theorem ad_{t:TypeId}{v h i l:Value}(n:VR m v h)(p:VR m i l)(a:xB P t v i=some r)(w:World):∃u,(Cp t h l).run P w= .ok u w∧VR m r u:=by
 unfold xB at a;cases c:P.underlying t with
 |none=>rw[c]at a;cases a
 |some d=>
  rw[c]at a;cases d<;>try(cases a;done)
  rename_i len e;cases n<;>try(cases a;done)
  rename_i y s q;cases p<;>try(cases a;done)
  rename_i k j;simp only at a;cases f:size? P e with
  |none=>rw[f]at a;cases a
  |some x=>
   rw[f]at a;simp only at a;split at a
   ·rename_i o;obtain⟨u,b,g⟩:=Pd q a w;refine⟨u, ?_,g⟩;unfold Cp;simp only[asIntOf,pure_bind,eF,run_underlying c,eP,if_pos o,run_sizeOf f];exact b
   ·cases a
theorem aea{v d:Value}{i:Nat}(e:VR m v d)(a:su v i=some r)(w:World):∃u,(ap5 d i).run P w= .ok u w∧VR m r u:=by
 unfold su at a;cases e<;>try(cases a;done)
 rename_i h c g;simp only at a;obtain⟨u,f,b⟩:=g.get i r (by simpa using a);have:c[i]? =some u:=by simpa using f
 exact⟨u,by simp[ap5,this],b⟩
def sJ(m:Mp)(a b:Option Value):Prop:=match a,b with
 |none,none=>True
 |some x,some y=>VR m x y
 |_,_=>False
theorem xI{a b:Option Value}{d k:Nat}(e:sJ m a b)(c:eG a d=some k):(a=none∧b=none∧k=d)∨∃f i,a=some (.int f i)∧b=some (.int f i)∧0<=i∧k=i.toNat:=by
 unfold eG at c;cases a with
 |none=>
  cases b with
  |none=>left;exact⟨rfl,rfl,by simpa using c.symm⟩
  |some y=>cases e
 |some x=>
  cases b with
  |none=>cases e
  |some y=>have e:VR m x y:=e;cases e<;>simp at c;rename_i f i;exact .inr ⟨f,i,rfl,rfl,c.1,c.2.symm⟩
theorem qM{k:IntKind}{i:Int}{y:Nat}{a:BoundsCode}(b:0<=i)(h1:i.toNat<=y)(w:World):(Oj (.int k i) y a).run P w= .ok i.toNat w:=by have:0<=i∧i<=(y:Int):=⟨b,jO⟩;simp[Oj,asIntOf,this]
theorem Pe{t:TypeId}{v v':Value}(u1:∀b off l c e,v= .slice (some ⟨b,off,none⟩) l c->P.underlying t=some (.slice e)->∃d,m b=some d∧size? P e=some d.esz){lo N B I J G:Option Value}(hv:VR m v v')(hl:sJ m lo I)(hh:sJ m N J)(hm:sJ m B G)(g:xy P t v lo N B=some r)(w:World):
 ∃u,(Ho t v' I J G).run P w= .ok u w∧VR m r u:=by
 unfold xy at g;cases U:P.underlying t with
 |none=>rw[U]at g;cases g
 |some dd=>
  rw[U]at g;cases dd<;>try(cases g;done)
  rename_i e
  have L:∀(a:Option Addr) (len cap f:Nat),(∀F o i p,size? P e=some F->eG B cap=some o->eG N len=some i->eG lo 0=some p->(B.isSome&& !N.isSome)=false->
   (p<=i∧i<=o∧o<=cap∧(cap<aU∨(B=none∧i<=len)))->(cap<aU->f=cap)->len<=f->
   (Ho t (.slice a len f) I J G).run P w= .ok (.slice (if(if B=none then f else o)=p then a else a.map (·.add (p*F))) (i-p) ((if B=none then f else o)-p)) w):=by
   intro a len cap f F o i p y h j n C z k u4;obtain⟨Q,c2,c3,c4⟩:=z
   have x:i<=f:=by
    rcases c4 with q|⟨_,q⟩
    ·rw[k q];omega
    ·omega
   have E:(ap6 true len f I J G).run P w= .ok (p,i,if B=none then f else o) w:=by
    unfold ap6;rcases xI hm h with ⟨rfl,rfl,rfl⟩|⟨km,im,rfl,rfl,pm,rfl⟩
    ·rcases xI hh j with ⟨rfl,rfl,rfl⟩|⟨kh,ih,rfl,rfl,T,rfl⟩
     ·rcases xI hl n with ⟨rfl,rfl,rfl⟩|⟨kl,il,rfl,rfl,R,rfl⟩
      ·simp
      ·simp[qM R Q w]
     ·rcases xI hl n with ⟨rfl,rfl,rfl⟩|⟨kl,il,rfl,rfl,R,rfl⟩
      ·simp[qM T x w]
      ·simp[qM T x w,qM R Q w]
    ·rcases xI hh j with ⟨rfl,rfl,rfl⟩|⟨kh,ih,rfl,rfl,T,rfl⟩
     ·simp at C
     ·have q:cap<aU:=by
       rcases c4 with q|⟨q,_⟩
       ·exact q
       ·cases q
      have e:im.toNat<=f:=by rw[k q];exact c3
      rcases xI hl n with ⟨rfl,rfl,rfl⟩|⟨kl,il,rfl,rfl,R,rfl⟩
      ·simp[qM pm e w,qM T c2 w]
      ·simp[qM pm e w,qM T c2 w,qM R Q w]
   unfold Ho;simp only[eF,run_underlying U,eP];unfold Instr.slice;simp only[eF,run_underlying U,eP,E,run_sizeOf y,oB]
  cases hv<;>try(cases g;done)
  case mI len cap k=>
   simp only at g;cases y:size? P e with
   |none=>rw[y]at g;cases g
   |some F=>
    cases h:eG B cap with
    |none=>rw[y,h]at g;cases g
    |some o=>
     cases j:eG N len with
     |none=>rw[y,h,j]at g;cases g
     |some i=>
      cases n:eG lo 0 with
      |none=>rw[y,h,j,n]at g;cases g
      |some p=>
       rw[y,h,j,n]at g;simp only at g;split at g
       ·cases g
       ·rename_i C;split at g
        ·rename_i z;cases g;simp only[cD,mr,decide_eq_true_eq,ap7]at z
         have D:(if B=none then cap else o)=o:=by
          split
          ·rename_i q;subst q;simpa[eG]using h
          ·rfl
         refine⟨_,L none len cap cap F o i p y h j n (Bool.eq_false_iff.2 C) ⟨z.1.1.1,z.1.1.2,z.1.2,z.2⟩ (fun _=>rfl) k.1, ?_⟩;rw[D];have:(if o=p then(none:Option Addr)else Option.map (fun(q:Addr)=>q.add (p*F)) none)=none:=by split<;>rfl
         rw[this];exact .mI _ _ jO
        ·cases g
  case pP b off s a'=>
   exfalso;simp only at g
   repeat' (first|(cases g;done)|split at g)
  case fR b off len cap f o' d hd ho Q c2 c3 c4=>
   simp only at g;cases y:size? P e with
   |none=>rw[y]at g;cases g
   |some F=>
    cases h:eG B cap with
    |none=>rw[y,h]at g;cases g
    |some o=>
     cases j:eG N len with
     |none=>rw[y,h,j]at g;cases g
     |some i=>
      cases n:eG lo 0 with
      |none=>rw[y,h,j,n]at g;cases g
      |some p=>
       rw[y,h,j,n]at g;simp only at g;split at g
       ·cases g
       ·rename_i C;split at g
        ·rename_i z;cases g;simp only[cD,mr,decide_eq_true_eq,ap7]at z;refine⟨_,L _ len cap f F o i p y h j n (Bool.eq_false_iff.2 C) ⟨z.1.1.1,z.1.1.2,z.1.2,z.2⟩ Q c3, ?_⟩;obtain⟨d2,X,K⟩:=u1 b off len cap e rfl U;rw[hd]at X;cases X;rw[y]at K;have K:F=d.esz:=by simpa using K
         subst K;obtain⟨⟨⟨k1,k2⟩,k3⟩,Z⟩:=z;by_cases k:cap<aU
         ·have u3:=Q k;subst u3;have u2:=ho (.inr k);subst u2
          have D:(if B=none then f else o)=o:=by
           split
           ·rename_i q;subst q;simpa[eG]using h
           ·rfl
          rw[D];have W:p*d.esz+(o-p)*d.esz=o*d.esz:=by rw[<-fW];congr 1;omega
          have u6:o*d.esz<=f*d.esz:=Nat.mul_le_mul_right _ k3;by_cases A:o=p
          ·rw[if_pos A,if_pos A];exact VR.fR hd (fun _=>rfl) (fun _=>rfl) (fun q=>by omega) jO jO
          ·rw[if_neg A,if_neg A];simp only[Cg,nN];exact VR.fR hd (fun _=>by omega) (fun _=>rfl) (fun q=>by omega) jO jO
         ·have x:aU<=cap:=jO;obtain⟨q1,q2⟩:=c2 x;rcases Z with Z|⟨Z,k5⟩
          ·omega
          ·subst Z;have D:o=cap:=by simpa[eG]using h.symm
           subst D;simp only[if_true];have u7:p<=f:=jO;have W:p*d.esz+(f-p)*d.esz=f*d.esz:=by rw[<-fW];congr 1;omega
           have A:¬o=p:=by unfold aU at*;omega
           rw[if_neg A];by_cases Y:f=p
           ·rw[if_pos Y];exact VR.fR hd (fun q=>by omega) (fun q=>by omega) (fun q=>by omega) jO jO
           ·rw[if_neg Y];simp only[Cg,nN];exact VR.fR hd (fun q=>by have:=ho (.inl jO);omega) (fun q=>by omega) (fun q=>by omega) jO jO
        ·cases g
end
end Go.Proofs.YtcehhgppfahbkaaGreatDoor.Ev
