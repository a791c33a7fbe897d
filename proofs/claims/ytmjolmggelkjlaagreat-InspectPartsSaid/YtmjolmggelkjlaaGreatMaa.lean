import Derived.WalkKit
import Derived.WalkSpells
import Derived.WalkLawsBesides
import Derived.Lib.Bytealg
import Derived.Lib.Bytes
import Derived.Lib.Repeat
import Derived.Laws.Append
import Derived.Laws.Cells
import Derived.Orders
import Derived.Laws.Sem
import Derived.Laws.MakeOwn
import Derived.Laws.BytesString
open Nat renaming le_refl→an, le_trans→lM, pow_succ→pX, add_mul→pZ, add_assoc→vF, strongRecOn→Rl, lt_or_ge→Rn
open List renaming getD_eq_getElem?_getD→bC, getElem?_eq_none→sC, foldl_cons→ac1, getElem?_set_ne→aqJ, mem_of_getElem?→aqP
open Bool renaming and_eq_true→cj, or_eq_true→pY, false_eq_true→sE, true_and→xX
open Go.Value renaming int→dG
open Option.some renaming injEq→eG, inj→AQ
open Go.Sem renaming run_bind→fL, run_pure→qQ, run→AN, bind→CM
open Go.Result renaming andThen→gf
open Go.Region renaming wanted→iA, binds→sA, ready→Rm
open UInt8 renaming ofNat→jq
open Go.Instr renaming fill→nY, index→FH, sureAddr→Ka, sliceAt→Kb, sliceBound→Rt, buildSlice→ac3, loadAt→ac6, indexAt→ac8, alloc→aqV, build→aqX, storeAt→aqZ, field→aq4, fieldAt→aq5, extract→aq6, sliceBounds→aq7
open Array renaming getD_eq_getD_getElem?→sB, all_eq_true_iff_forall_mem→xW, replicate→CO, getElem?_modify→J', getElem?_setIfInBounds_ne→acZ, map_congr_left→ac0, mem_of_getElem?→aqR, getElem?_replicate→aqT, getElem?_append_left→aqU
open Go.RowKit.Below renaming refl→vD, drew→aqS
open Go.Call renaming operands→AO
open Option renaming map_some→FF, bind_some→Rk, isNone_iff_eq_none→aq8
open Go.World renaming freeze→Rq
open Go.Question renaming cut→ac7, forced→aq2
open Go renaming undef→aqK
open Go.Act renaming put→aqN
open Go.Oper renaming looksAt→aqO, apart_spec→aqQ
open Go.Conv renaming bytesToString→aq0, stringToBytes→aq1
open Classical renaming choose→asV, choose_spec→asW
set_option linter.unusedVariables false
set_option linter.unusedSimpArgs false
namespace Go.Proofs.YtmjolmggelkjlaaGreat.Ip
open Go
def vK:Nat->Nat->List Nat
 |0,_=>[]
 |k+1,n=>if n<10 then [n]else vK k (n/10)++[n %10]
def FR(n:Int):List Nat:=(vK 19 n.toNat).map (48+·)
def AW(x:Nat):Nat:=if x<10 then 48+x else 87+x
def js(n:Nat):List Nat:=(List.range 8).map fun i=>AW (n/16^(7-i)%16)
def qT:List Nat->List Int->List Nat
 |s,[]=>s
 |s,n::l=>qT (s++32::FR n) l
structure Pt where
 what:Int
 level:Int
 aO:Int
 dQ:Int
 sum:Int
 lP:Int
 last:Int
 len:Int
def Pt.small(p:Pt):Bool:=decide (p.level<0)||decide (p.aO<0)||decide (p.dQ<0)||decide (p.lP<0)||decide (p.last<0)||decide (p.len<0)
def CX:List Nat:=[98,101,103,105,110]
def yd:List Nat:=[98,108,111,99,107,32]
def ye:List Nat:=[101,110,100,32]
def jD(p:Pt):Option (List Nat):=
 if p.small=true then none
 else if p.what=1 then some (qT CX [p.level,p.aO,p.dQ])
 else if p.what=2 then some (qT (yd++js p.sum.toNat) [p.lP,p.last,p.len,p.aO,p.dQ])
 else if p.what=3 then some (qT (ye++js p.sum.toNat) [p.aO,p.dQ])
 else none
def ni:List Pt->Option (List Nat)
 |[]=>some []
 |p::l=>match jD p,ni l with
  |some a,some b=>some (a++10::b)
  |_,_=>none
def aF(l:List Nat):Value:= .string ⟨(l.map jq).toArray⟩
def sG(o:Option (List Nat)):Value:=match o with
 |some l=> .tuple #[aF l,.int .i64 0]
 |none=> .tuple #[aF [],.int .i64 1]
def vL(n:Int):Bool:=decide (-9223372036854775808<=n)&&decide (n<=9223372036854775807)
def Pt.ok(p:Pt):Bool:=vL p.what&&vL p.level&&vL p.aO&&vL p.dQ&&decide (0<=p.sum)&&decide (p.sum<4294967296)&&vL p.lP&&vL p.last&&vL p.len
def Pt.cells(p:Pt):List Value:=[.int .i64 p.what,.int .i64 p.level,.int .i64 p.aO,.int .i64 p.dQ,.int .u32 p.sum,.int .i64 p.lP,.int .i64 p.last,.int .i64 p.len]
def AX:List Value->Option (List Pt)
 |[]=>some []
 | .int .i64 a:: .int .i64 b:: .int .i64 c:: .int .i64 d:: .int .u32 e:: .int .i64 f:: .int .i64 g:: .int .i64 h::r=>match AX r with
   |some l=>if(Pt.mk a b c d e f g h).ok=true then some (⟨a,b,c,d,e,f,g,h⟩::l)else none
   |none=>none
 |_=>none
def CY:List Value->Option Value
 |[.int .u32 n]=>if 0<=n∧n<4294967296 then some (aF (js n.toNat))else none
 |_=>none
def Kx(n:Nat)(cs:List Value):Option Value:=if n<=1000 then(match AX cs with
 |some l=>some (sG (ni l))
 |none=>none)else none
end Go.Proofs.YtmjolmggelkjlaaGreat.Ip
namespace Go.Proofs.YtmjolmggelkjlaaGreat.Ev
open Go
def KN:List FuncId:=[12,65,68,18]
def NV:List (FuncId×Nat):=[(68,3),(18,4)]
def R8:FuncId->List Value->Option Value:=fun _=>Ip.CY
def R9:FuncId->Nat:=fun _=>8
def FT:FuncId->Nat->List Value->Option Value:=fun _=>Ip.Kx
def KG:List (Nat×Nat×Value):=[]
theorem aI{a b:Prop}(x:a)(y:b):a∧b:=And.intro x y
inductive Tr (α:Type) where
 |nil
 |node (l:Tr α) (v:Option α) (r:Tr α)
def Tr.get{α:Type}:Nat->Tr α->Nat->Option α
 |0,_,_=>none
 |_+1,.nil,_=>none
 |f+1,.node l v r,i=>if i=0 then v else if i %2=1 then Tr.get f l (i/2)else Tr.get f r (i/2-1)
def Tr.set{α:Type}:Nat->Tr α->Nat->Option α->Tr α
 |0,t,_,_=>t
 |f+1,.nil,i,a=>if i=0 then .node .nil a .nil else if i %2=1 then .node (Tr.set f .nil (i/2) a) none .nil else .node .nil none (Tr.set f .nil (i/2-1) a)
 |f+1,.node l v r,i,a=>if i=0 then .node l a r else if i %2=1 then .node (Tr.set f l (i/2) a) v r else .node l v (Tr.set f r (i/2-1) a)
structure AB where
 elem:TypeId
 own:Bool
 cells:List Value
abbrev H:=Tr AB
def H.get(h:H)(b:Nat):Option AB:=Tr.get (b+1) h b
def H.set(h:H)(b:Nat)(x:Option AB):H:=Tr.set (b+1) h b x
abbrev S:=Tr Value
def S.get(s:S)(t:Nat):Value:=(Tr.get 10 s t).getD undef
def S.put(s:S)(t:Nat)(v:Value):S:=Tr.set 10 s t (some v)
structure En where
 wr:Bool
 b:Nat
 k:Option Nat
structure Out (α:Type) where
 val:α
 h:H
 n:Nat
 log:List En
def M(α:Type):=H->Nat->Option (Out α)
def M.ret{α:Type}(a:α):M α:=fun h n=>some ⟨a,h,n,[]⟩
def M.fail{α:Type}:M α:=fun _ _=>none
def M.lift{α:Type}(o:Option α):M α:=fun h n=>match o with|some a=>some ⟨a,h,n,[]⟩|none=>none
def M.bind{α β:Type}(m:M α)(f:α->M β):M β:=fun h n=>
 match m h n with
 |some ⟨a,h1,n1,L1⟩=>match f a h1 n1 with
  |some ⟨c,h2,n2,L2⟩=>some ⟨c,h2,n2,L1++L2⟩
  |none=>none
 |none=>none
instance:Monad M where
 pure:=M.ret
 bind:=M.bind
def rd(b k:Nat):M Value:=fun h n=>
 if b<n then match h.get b with
  |some B=>match B.cells[k]? with
   |some v=>some ⟨v,h,n,[⟨false,b,some k⟩]⟩
   |none=>none
  |none=>none
 else none
def one:Value->Bool
 | .agg _| .tuple _=>false
 |_=>true
def wr(b k:Nat)(v:Value):M Unit:=fun h n=>
 if b<n then match h.get b with
  |some B=>if B.own&&k<B.cells.length&&one v then some ⟨(),h.set b (some {B with cells:=B.cells.set k v}),n,[⟨false,b,some k⟩,⟨true,b,some k⟩]⟩else none
  |none=>none
 else none
def dC(e:TypeId)(cs:List Value):M Nat:=fun h n=>
 if n<n+1 then some ⟨n,h.set n (some ⟨e,true,cs⟩),n+1,[]⟩else none
def whole(b:Nat):M AB:=fun h n=>
 if b<n then match h.get b with
  |some B=>some ⟨B,h,n,[⟨false,b,none⟩]⟩
  |none=>none
 else none
def gH(b:Nat):M TypeId:=fun h n=>
 if b<n then match h.get b with
  |some B=>some ⟨B.elem,h,n,[⟨false,b,some 1099511627776⟩]⟩
  |none=>none
 else none
def kill(b:Nat):M Unit:=fun h n=>
 if b<n then match h.get b with
  |some B=>if B.own then some ⟨(),h.set b none,n,[⟨false,b,none⟩,⟨true,b,none⟩]⟩else none
  |none=>none
 else none
def cU(b k:Nat):Nat->M (List Value)
 |0=> .ret []
 |n+1=>(rd b k).bind fun v=>(cU b (k+1) n).bind fun vs=> .ret (v::vs)
def fN(b k:Nat):List Value->M Unit
 |[]=> .ret ()
 |v::vs=>(wr b k v).bind fun _=>fN b (k+1) vs
def inside{α:Type}(m:M α):M α:=fun h n=>
 match m h n with
 |some ⟨a,h1,n1,L⟩=>some ⟨a,h1,n1,L.filter fun e=> !(n<=e.b&&e.b<n1)⟩
 |none=>none
def bq:Nat:=1152921504606846976
def kS(P:Program)(t:TypeId):Option Bool:=
 match P.underlying t with
 |some (.struct _)|some (.array _ _)=>some true
 |some _=>some false
 |none=>none
def size?(P:Program)(t:TypeId):Option Nat:=(P.info? t).map (·.size)
def uv:Value->Bool
 | .bool _| .int _ _| .float _ _| .string _| .pointer none| .nilFunc=>true
 | .slice none n c=>n<=c&&c<bq
 |_=>false
def clean:Value->Bool
 | .agg cs=>cs.all uv
 | .tuple cs=>cs.all uv
 |v=>uv v
def iB(P:Program)(t:TypeId):Option Value:=match (P.info? t).bind (·.zero)with
 |some z=>if clean z then some z else none
 |none=>none
def scalar:Value->Bool
 | .bool _| .int _ _| .string _=>true
 |_=>false
def kT(P:Program):Sem Next->Option Value
 | .pure (.value v)=>some v
 | .program k=>kT P (k P)
 |_=>none
def partOf(P:Program)(t:TypeId)(cs:Array Value)(off:Nat):Option Value:=
 match kS P t,size? P t with
 |some true,some n=>some (.agg (cs.extract off (off+n)))
 |some false,_=>cs[off]?
 |_,_=>none
def bytesOf:List Value->ByteArray->Option ByteArray
 |[],acc=>some acc
 | .int .u8 n::r,acc=>bytesOf r (acc.push (jq n.toNat))
 |_,_=>none
inductive Nx where
 |val (v:Value)
 |call (f:FuncId) (args:Array Value)
def kU(sz:Nat)(n:Nat):Value->M (List Value)
 | .slice (some ⟨b,off,none⟩) _ _=>cU b off (n*sz)
 | .string s=> .ret ((s.extract 0 n).data.map fun b=>dG .u8 b.toNat).toList
 |_=> .fail
def ic:Value->Option Nat
 | .slice _ n _=>some n
 | .string s=>some s.size
 |_=>none
def qc(e:TypeId)(l n:Nat)(old new:List Value):M Value:=
 (dC e (old++new)).bind fun id=> .ret (.slice (some ⟨id,0,none⟩) (l+n) (bq+(l+n)))
def yg(e:TypeId)(n sz b off l cap:Nat)(new:List Value):M Value:=
 if cap<bq then
  if l+n<=cap then(fN b (off+l*sz) new).bind fun _=> .ret (.slice (some ⟨b,off,none⟩) (l+n) cap)
  else(cU b off (l*sz)).bind fun old=>qc e l n old new
 else(cU b off (l*sz)).bind fun old=>(kill b).bind fun _=>qc e l n old new
def sH(P:Program)(adJ:TypeId)(s x:Value):M Value:=
 match P.underlying adJ with
 |some (.slice e)=>match P.info? e,iB P e,ic x with
  |some ie,some z,some n=>
    if z.cells.size=ie.size&&1<=ie.size&&ie.bytes<=64 then
    if n=0 then(match s with| .slice _ _ _=> .ret s|_=> .fail)else
    match s with
    | .slice none 0 0=>if n<=1099511627776 then(kU ie.size n x).bind fun new=>if new.length=n*ie.size&&new.all one then qc e 0 n [] new else .fail else .fail
    | .slice (some ⟨b,off,none⟩) l cap=>
      if l+n<=1099511627776 then
      (gH b).bind fun e'=>if e'=e then
        (kU ie.size n x).bind fun new=>if new.length=n*ie.size&&new.all one then yg e n ie.size b off l cap new else .fail
      else .fail
      else .fail
    |_=> .fail
    else .fail
  |_,_,_=> .fail
 |_=> .fail
def fH(o:Option Value)(d:Nat):Option Nat:=
 match o with
 |none=>some d
 |some (.int _ i)=>if 0<=i then some i.toNat else none
 |_=>none
def sI:Option TypeDesc->Value->Value->Option Bool
 |some (.pointer _),.pointer none,.pointer b=>some b.isNone
 |some (.pointer _),.pointer _,.pointer none=>some false
 |some (.slice _),.slice none _ _,.slice b _ _=>some b.isNone
 |some (.slice _),.slice _ _ _,.slice none _ _=>some false
 |some (.func _ _ _),.nilFunc,.nilFunc=>some true
 |some (.func _ _ _),.nilFunc,.func _ _ _=>some false
 |some (.func _ _ _),.func _ _ _,.nilFunc=>some false
 |_,_,_=>none
def R':Option TypeDesc->Option Nat
 |some (.int _)=>some 0
 |some .string=>some 1
 |some .bool=>some 2
 |_=>none
def CZ(P:Program):Nat->List Field->Option (List Nat)
 |_,[]=>some []
 |i,f::r=>match R' (P.underlying f.type),size? P f.type,CZ P (i+1) r with
  |some d,some 1,some l=>if f.name != "_" &&f.offset==i then some (d::l)else none
  |_,_,_=>none
def yh(P:Program)(t:TypeId):Option (List Nat):=match P.underlying t with
 |some (.struct fs)=>if P.stoodInHeld t||P.eqGuardType P.depth t then none else CZ P 0 fs.toList
 |_=>none
def C0:Nat->Value->Value->Option Bool
 |0,.int k a,.int k' b=>if k=k' then some (a==b)else none
 |1,.string a,.string b=>some (a==b)
 |2,.bool a,.bool b=>some (a==b)
 |_,_,_=>none
def lQ:List Nat->List Value->List Value->Option Bool
 |[],[],[]=>some true
 |d::ds,x::l,y::m=>match C0 d x y,lQ ds l m with
  |some a,some b=>some (a&&b)
  |_,_=>none
 |_,_,_=>none
def Ky(ds:Option (List Nat))(x y:Value):Option Bool:=match ds,x,y with
 |some ds,.agg xs,.agg ys=>lQ ds xs.toList ys.toList
 |_,_,_=>none
def sJ(P:Program)(t:TypeId)(x y:Value):Option Bool:=match sI (P.underlying t) x y with
 |some b=>some b
 |none=>Ky (yh P t) x y
def AY(P:Program)(t:TypeId)(x:Value)(lo hi mx:Option Value):Option Value:=
 match P.underlying t,x with
 |some (.slice e),.slice a len cap=>
  match size? P e,fH mx cap,fH hi len,fH lo 0 with
  |some sz,some m,some h,some l=>
   if mx.isSome&& !hi.isSome then none else
   if l<=h&&h<=m&&m<=cap&&(cap<bq||(mx.isNone&&h<=len))then
    match a with
    |none=>some (.slice none (h-l) (m-l))
    |some ⟨b,off,none⟩=>some (.slice (some ⟨b,if m=l then off else off+l*sz,none⟩) (h-l) (m-l))
    |_=>none
   else none
  |_,_,_,_=>none
 |_,_=>none
def qU(P:Program)(t:TypeId)(x:Value)(lo hi mx:Option Value):M Value:=
 match x with
 | .slice (some ⟨b,_,none⟩) _ _=>(gH b).bind fun e'=>match P.underlying t with
   |some (.slice e)=>if size? P e'=size? P e then M.lift (AY P t x lo hi mx)else .fail
   |_=> .fail
 |_=>M.lift (AY P t x lo hi mx)
def qd(P:Program)(e:TypeId):M Value:=
 match iB P e with
 |some z=>(dC e z.cells.toList).bind fun id=> .ret (.pointer (some ⟨id,0,none⟩))
 |none=> .fail
def qe(P:Program)(e:TypeId)(v:Value):M Value:=
 match size? P e with
 |some _=>(dC e v.cells.toList).bind fun id=> .ret (.pointer (some ⟨id,0,none⟩))
 |none=> .fail
def placeOf(P:Program)(fs:Array Field)(i:Nat):Option (Nat×Nat):=(fs[i]?).bind fun f=>(size? P f.type).map fun n=>(f.offset,n)
def oV(P:Program)(t:TypeId)(parts:List (Nat×Value)):M Value:=
 match iB P t,P.underlying t with
 |some z,some (.struct fs)=>if fs.all fun f=>(size? P f.type).isSome then
   (match nY (placeOf P fs) z.cells parts with
   |some cs=> .ret (.agg cs)
   |none=> .fail)else .fail
 |_,_=> .fail
def aQ(z:Value)(n:Nat):Array Value:=(Array.range n).map (z.cells[·%z.cells.size]!)
def oW(P:Program)(t:TypeId)(len:Nat)(parts:List (Nat×Value)):M Value:=
 match P.underlying t with
 |some (.slice e)=>match size? P e,iB P e with
  |some sz,some z=>
   if len=0&&parts.isEmpty then(dC e []).bind fun id=> .ret (.slice (some ⟨id,0,none⟩) 0 0)else
   if 0<len*sz&&len*sz<=65536 then
    match nY (fun i=>some (i*sz,sz)) (aQ z (len*sz)) parts with
    |some cs=>(dC e cs.toList).bind fun id=> .ret (.slice (some ⟨id,0,none⟩) len len)
    |none=> .fail
   else .fail
  |_,_=> .fail
 |_=> .fail
def kV(P:Program)(t:TypeId):Value->M Value
 | .pointer (some ⟨b,off,none⟩)=>match kS P t,size? P t with
   |some true,some n=>(cU b off n).bind fun vs=> .ret (.agg vs.toArray)
   |some false,_=>rd b off
   |_,_=> .fail
 |_=> .fail
def qV(P:Program)(t:TypeId)(a x:Value):M Value:=
 match a with
 | .pointer (some ⟨b,off,none⟩)=>match size? P t with
   |some n=>if x.cells.size=n then(fN b off x.cells.toList).bind fun _=> .ret undef else .fail
   |none=> .fail
 |_=> .fail
def ux:Value->M Value
 | .pointer (some a)=> .ret (.pointer (some a))
 | .func (.func f) a b=> .ret (.func (.func f) a b)
 |_=> .fail
def qf:Value->M Value
 | .slice none _ _=> .ret (.string .empty)
 | .slice (some ⟨b,off,none⟩) len _=>(cU b off len).bind fun vs=>match bytesOf vs .empty with
   |some s=> .ret (.string s)
   |none=> .fail
 |_=> .fail
def uy(e:TypeId)(s:ByteArray):M Value:=
 if s.size<=1099511627776 then(dC e (s.data.map fun b=>dG .u8 b.toNat).toList).bind fun id=> .ret (.slice (some ⟨id,0,none⟩) s.size (bq+s.size))else .fail
def qg(P:Program)(e:TypeId):Bool:=match P.underlying e with|some (.int .u8)=>true|_=>false
def vM:Option TypeDesc->Option TypeDesc->Option TypeId
 |some (.slice e),some .string=>some e
 |_,_=>none
def yi:Option TypeDesc->Option TypeDesc->Value->Option (TypeId×ByteArray)
 |some .string,some (.slice e),.string s=>some (e,s)
 |_,_,_=>none
def qh(P:Program)(t:TypeId)(l c:Value):M Value:=
 match P.underlying t,l,c with
 |some (.slice e),.int _ l,.int _ c=>match P.info? e,iB P e with
  |some ie,some z=>if 0<=l&&l<=c&&c<=1099511627776&&ie.bytes<=64&&z.cells.size=ie.size&&1<=ie.size then
    (dC e (aQ z (c.toNat*ie.size)).toList).bind fun id=> .ret (.slice (some ⟨id,0,none⟩) l.toNat c.toNat)
   else .fail
  |_,_=> .fail
 |_,_,_=> .fail
def AZ(P:Program)(s:TypeId)(x:Value)(f:Nat):Option Value:=
 match P.underlying s,x with
 |some (.struct fs),.pointer (some ⟨b,off,none⟩)=>match fs[f]? with
  |some fd=>match size? P fd.type with
   |some n=>if n=0 then none else some (.pointer (some ⟨b,off+fd.offset,none⟩))
   |none=>none
  |none=>none
 |_,_=>none
def vN(P:Program)(t:TypeId)(x:Value)(f:Nat):Option Value:=
 match P.underlying t,x with
 |some (.struct fs),.agg cs=>match fs[f]? with
  |some fd=>partOf P fd.type cs fd.offset
  |none=>none
 |_,_=>none
def uz(P:Program)(t:TypeId)(x ix:Value):Option Value:=
 match P.underlying t,x,ix with
 |some (.slice e),.slice (some ⟨b,off,none⟩) len _,.int _ i=>match size? P e with
  |some sz=>if 0<=i∧i<len then some (.pointer (some ⟨b,off+i.toNat*sz,none⟩))else none
  |none=>none
 |some (.array len e),.pointer (some ⟨b,off,none⟩),.int _ i=>match size? P e with
  |some sz=>if 0<=i∧i<len then some (.pointer (some ⟨b,off+i.toNat*sz,none⟩))else none
  |none=>none
 |_,_,_=>none
def A1(P:Program)(t:TypeId)(x ix:Value):Option Value:=
 match P.underlying t,x,ix with
 |some (.array len e),.agg cs,.int _ i=>match size? P e with
  |some sz=>if 0<=i∧i<len then partOf P e cs (i.toNat*sz)else none
  |none=>none
 |_,_,_=>none
def vO(x:Value)(i:Nat):Option Value:=
 match x with
 | .tuple vs=>vs[i]?
 |_=>none
def iQ(P:Program)(ρ:Operand->Value)(o:Oper):M Nx:=
 if o.op.operands.all fun x=>scalar (ρ x)then(M.lift (kT P (execOp ρ o))).bind fun v=>if scalar v then .ret (.val v)else .fail else .fail
def isStr:Value->Bool
 | .string _=>true
 |_=>false
def FU:Value->Option (FuncId×Array Value×Array Value)
 | .func (.func g) first captured=>some (g,first,captured)
 |_=>none
def oX(P:Program)(g:FuncId):Bool:=match P.funcs[g]? with
 |some fn=>fn.body.isSome
 |none=>false
def Sa(P:Program)(t:TypeId):Bool:=match P.underlying t with
 |some (.slice _)|some .string=>true
 |_=>false
def A2(P:Program)(dR:Array TypeId)(args:List Value):Option (TypeId×Value×Value):=match dR[0]?,dR[1]?,args with
 |some t,some u,[s,x]=>if Sa P u then some (t,s,x)else none
 |_,_,_=>none
def sK(P:Program)(t:TypeId)(d s:Value):M Value:=
 match P.underlying t with
 |some (.slice e)=>match size? P e,d,ic s with
  |some sz,.slice a dl _,some sl=>
   if 0<Nat.min sl dl then(match a with
    |some ⟨b,off,none⟩=>(kU sz (Nat.min sl dl) s).bind fun vs=>(fN b off vs).bind fun _=> .ret (.int .i64 (Nat.min sl dl))
    |_=> .fail)
   else .ret (.int .i64 0)
  |_,_,_=> .fail
 |_=> .fail
def A3(dR:Array TypeId)(args:List Value):Option (TypeId×Value×Value):=match dR[0]?,args with
 |some t,[d,s]=>some (t,d,s)
 |_,_=>none
def yj(P:Program)(dR:Array TypeId)(args:List Value):Option Nat:=match dR[0]?,args with
 |some t,.slice _ n _::_=>(match P.underlying t with|some (.slice _)=>some n|_=>none)
 |_,_=>none
def mK(P:Program)(ρ:Operand->Value)(o:Oper)(c:Call)(args:Array Value):M Nx:=
 match c.callee with
 | .value f=>match FU (ρ f)with
   |some (g,first,captured)=>if oX P g then .ret (.call g (first++args++captured))else .fail
   |none=> .fail
 | .builtin .append=>match A2 P c.argTypes args.toList with
   |some (t,s,x)=>(sH P t s x).bind fun v=> .ret (.val v)
   |none=> .fail
 | .builtin .copy=>match A3 c.argTypes args.toList with
   |some (t,d,s)=>(sK P t d s).bind fun v=> .ret (.val v)
   |none=> .fail
 | .builtin .len=>match yj P c.argTypes args.toList with
   |some n=> .ret (.val (.int .i64 n))
   |none=>iQ P ρ o
 | .builtin .min| .builtin .max=>iQ P ρ o
 |_=> .fail
def cI(P:Program)(ρ:Operand->Value)(o:Oper):M Nx:=
 match o.op with
 | .move x| .assign x=> .ret (.val (ρ x))
 | .pick c a b=>match ρ c with
   | .bool t=> .ret (.val (if t then ρ a else ρ b))
   |_=> .fail
 | .alloc e=>(qd P e).bind fun v=> .ret (.val v)
 | .box e x=>(qe P e (ρ x)).bind fun v=> .ret (.val v)
 | .build t parts=>(oV P t (parts.toList.map fun(i,x)=>(i,ρ x))).bind fun v=> .ret (.val v)
 | .buildSlice t len parts=>(oW P t len (parts.toList.map fun(i,x)=>(i,ρ x))).bind fun v=> .ret (.val v)
 | .load t a=>(kV P t (ρ a)).bind fun v=> .ret (.val v)
 | .store t a x=>(qV P t (ρ a) (ρ x)).bind fun v=> .ret (.val v)
 | .nilCheck x=>(ux (ρ x)).bind fun v=> .ret (.val v)
 | .binOp op t x y _=>match sJ P t (ρ x) (ρ y),op with
   |some v,.eql=> .ret (.val (.bool v))
   |some v,.neq=> .ret (.val (.bool (!v)))
   |none,_=>iQ P ρ o
   |_,_=> .fail
 | .unOp _ _ _=>iQ P ρ o
 | .convert src dst x=>match vM (P.underlying src) (P.underlying dst)with
   |some e=>if qg P e then(qf (ρ x)).bind fun v=> .ret (.val v)else .fail
   |none=>match yi (P.underlying src) (P.underlying dst) (ρ x)with
    |some (e,s)=>if qg P e&&size? P e==some 1 then(uy e s).bind fun v=> .ret (.val v)else .fail
    |none=>iQ P ρ o
 | .makeFunc fn a b=> .ret (.val (.func fn (a.map ρ) (b.map ρ)))
 | .makeSlice t l c=>(qh P t (ρ l) (ρ c)).bind fun v=> .ret (.val v)
 | .slice t x lo hi mx=>if isStr (ρ x)then iQ P ρ o else(qU P t (ρ x) (lo.map ρ) (hi.map ρ) (mx.map ρ)).bind fun v=> .ret (.val v)
 | .fieldAddr s x f=>(M.lift (AZ P s (ρ x) f)).bind fun v=> .ret (.val v)
 | .field t x f=>(M.lift (vN P t (ρ x) f)).bind fun v=> .ret (.val v)
 | .indexAddr t x ix=>(M.lift (uz P t (ρ x) (ρ ix))).bind fun v=> .ret (.val v)
 | .index t x ix=>if isStr (ρ x)then iQ P ρ o else(M.lift (A1 P t (ρ x) (ρ ix))).bind fun v=> .ret (.val v)
 | .extract t i=>(M.lift (vO (ρ t) i)).bind fun v=> .ret (.val v)
 | .call c=>mK P ρ o c (c.args.map ρ)
 |_=> .fail
def ev(s:S):Operand->Value
 | .tmp t=>s.get t
 | .const v=>v
 | .global g=> .pointer (some ⟨g,0,none⟩)
 | .func f=> .func (.func f) #[] #[]
def mL(nt:Nat)(s:S)(dst:Option Tmp)(v:Value):Option S:=
 match dst with
 |none=>some s
 |some d=>if d<nt&&d<1023 then some (s.put d v)else none
def jh(ops:Array Oper)(s:S)(j:Nat):Option Bool:=
 match (ops[j]?).bind (·.dst)with
 |some t=>match s.get t with
  | .bool b=>some b
  |_=>none
 |none=>none
def od:List Oper->List Nat->List Nat
 |[],acc=>acc
 |o::r,acc=>od r (acc++[o.after.toList.foldl (fun s e=>if sA .any e then s|||2^e.on|||acc.getD e.on 0 else s) 0])
structure Tk where
 n:Nat
 n1:Nat
 log:List En
def aG{α:Type}(m:M α):M (α×Tk):=fun h n=>
 match m h n with
 |some ⟨a,h1,n1,L⟩=>some ⟨(a,⟨n,n1,L⟩),h1,n1,L⟩
 |none=>none
def tagged:Nat->List Tk->List (Nat×Tk)
 |_,[]=>[]
 |i,t::r=>(i,t)::tagged (i+1) r
def En.meets(x y:En):Bool:=x.b==y.b&&(x.k==y.k||x.k.isNone||y.k.isNone)
def Tk.cA(a b:Tk):Bool:=
 (a.log.any fun x=>x.wr&&b.log.any fun y=>x.meets y)||(b.log.any fun x=>x.wr&&a.log.any fun y=>x.meets y)||
 (a.log.any fun x=>b.n<=x.b&&x.b<b.n1)||(b.log.any fun x=>a.n<=x.b&&x.b<a.n1)
def looks(ops:Array Oper)(o:Oper):List Tmp:=o.looksAt ops
def sM(ops:Array Oper)(x y:Oper):Bool:= !(x.apart ops y)
def sN(ops:Array Oper)(dH:List Nat):List (Nat×Tk)->Bool
 |[]=>true
 |(j,tj)::r=>(r.all fun(k,tk)=>(dH.getD k 0).testBit j||(!(tj.cA tk)&& !(sM ops (ops.getD j default) (ops.getD k default))))&&sN ops dH r
def vP(ops:Array Oper):Bool:=ops.toList.zipIdx.all fun(o,i)=>o.after.all (fun e=> !Region.binds .any e||e.on<i)&& !(o.op matches .select ..)
inductive Ex where
 |normal|ret
 |exit (id:Nat)
section
variable (P:Program) (rec:FuncId->Array Value->M Value) (nt:Nat)
def ig(ops:Array Oper)(o:Oper)(s:S):M Value:=
 if iA o (jh ops s)then
  (cI P (ev s) o).bind fun
    | .val v=> .ret v
    | .call f args=>rec f args
 else .ret undef
def kp(ops:Array Oper):List Oper->S->M (S×List Tk)
 |[],s=> .ret (s,[])
 |o::r,s=>(aG (inside (ig P rec ops o s))).bind fun x=>(M.lift (mL nt s o.dst x.1)).bind fun s1=>(kp ops r s1).bind fun y=> .ret (y.1,x.2::y.2)
def sO(ops:Array Oper)(draw:Bool)(s:S):M S:=
 (kp P rec nt ops ops.toList s).bind fun y=>
   if !draw||(vP ops&&sN ops (od ops.toList []) (tagged 0 y.2))then .ret y.1 else .fail
def eQ:Nat->Code->S->M (Ex×S)
 |0,_,_=> .fail
 |f+1,c,s=>match c with
  | .skip| .label _=> .ret (.normal,s)
  | .region _ ops draw=>(sO P rec nt ops draw s).bind fun s1=> .ret (.normal,s1)
  | .seq a b=>(eQ f a s).bind fun
    |(.normal,s1)=>eQ f b s1
    |(e,s1)=> .ret (e,s1)
  | .cond c a b=>match ev s c with
    | .bool t=>eQ f (if t then a else b) s
    |_=> .fail
  | .block id c=>(eQ f c s).bind fun
    |(.exit i,s1)=>if i=id then .ret (.normal,s1)else .ret (.exit i,s1)
    |(e,s1)=> .ret (e,s1)
  | .loop c=>(eQ f c s).bind fun
    |(.normal,s1)=>eQ f (.loop c) s1
    |(e,s1)=> .ret (e,s1)
  | .exit id=> .ret (.exit id,s)
  | .ret=> .ret (.ret,s)
  |_=> .fail
end
def FV(P:Program):Operand->Bool
 | .const v=>clean v
 | .global g=>g<P.globals.size
 |_=>true
def A4(P:Program)(o:Oper):Bool:=o.op.operands.all (FV P)
def nj(P:Program):Code->Bool
 | .region _ ops _=>ops.all (A4 P)
 | .seq a b=>nj P a&&nj P b
 | .cond c a b=>FV P c&&nj P a&&nj P b
 | .block _ c| .loop c=>nj P c
 |_=>true
def vQ(P:Program):Bool:=P.funcs.all fun fn=> !(fn.name== "runtime.NumGoroutine")
def qW(P:Program)(bad:List FuncId):Bool:=
 P.funcs.toList.zipIdx.all fun(fn,i)=>bad.contains i||(match fn.body with|some c=>nj P c|none=>true)
def vR:Nat->List Value->S->S
 |_,[],s=>s
 |i,v::r,s=>vR (i+1) r (s.put i v)
def kW(P:Program)(s:S):List ResultVar->M (List Value)
 |[]=> .ret []
 | .tmp t::r=>(kW P s r).bind fun vs=> .ret (s.get t::vs)
 | .cell a t::r=>(kV P t (s.get a)).bind fun v=>(kW P s r).bind fun vs=> .ret (v::vs)
def uA(P:Program)(f:FuncId):Bool:=match P.funcs[f]? with
 |some fn=>fn.params.size==0
 |none=>false
def C1:Value->Value->Bool
 | .int k a,.int k' b=>decide (k=k')&&decide (a=b)
 |_,_=>false
def qX(P:Program):List (Nat×Nat×Value)->M Unit
 |[]=> .ret ()
 |g::r=>(rd g.1 g.2.1).bind fun u=>if(decide (g.1<P.globals.size)&&C1 u g.2.2)=true then qX P r else .fail
def Sb:List (FuncId×Nat)->FuncId->Option Nat
 |[],_=>none
 |q::r,f=>match Nat.beq q.1 f with
  |true=>some q.2
  |false=>Sb r f
def vS(f:FuncId):Option Nat:=Sb NV f
def C4:List Value->Option (List Int)
 |[]=>some []
 | .int .u8 x::r=>match C4 r with
   |some l=>some (x::l)
   |none=>none
 |_=>none
def Sc(c:Int):Option (List Int)->M Value
 |some l=> .ret (.int .i64 (Lib.indexByte (Lib.bytesOf l) c.toNat.toUInt8))
 |none=> .fail
def Kz(b off len:Nat)(c:Int):M Value:=(cU b off len).bind fun vs=>Sc c (C4 vs)
def KA(s:ByteArray)(c:Int):M Value:=if(decide (0<=c)&&decide (c<=1000000)&&decide (s.size<=1000000))=true then .ret (.string ⟨(Lib.repeatL s.data.toList c.toNat).toArray⟩)else .fail
def KB:List Value->M Value
 |[.slice (some ⟨b,off,none⟩) len _,.int .u8 c]=>Kz b off len c
 |_=> .fail
def KC:List Value->M Value
 |[.string s,.int .i64 c]=>KA s c
 |_=> .fail
def KD(f:FuncId)(args:List Value):M Value:=if args.all scalar then M.lift (R8 f args)else .fail
def KE(f:FuncId):List Value->M Value
 |[.slice none 0 0]=>M.lift (FT f 0 [])
 |[.slice (some ⟨b,off,none⟩) len _]=>(cU b off (len*R9 f)).bind fun vs=>if vs.all scalar then M.lift (FT f len vs)else .fail
 |_=> .fail
def vT(f:FuncId)(k:Nat)(args:List Value):M Value:=match k with
 |1=>KB args
 |2=>KC args
 |3=>KD f args
 |4=>KE f args
 |_=> .fail
def cZ(P:Program)(bad:List FuncId):Nat->FuncId->Array Value->M Value
 |0,_,_=> .fail
 |fuel+1,f,args=>if bad.contains f then(match vS f with
  |some k=>vT f k args.toList
  |none=>if(decide (args.size=0)&&uA P f)=true then(qX P KG).bind fun _=> .ret (.bool true)else .fail)else match P.funcs[f]? with
  |some fn=>match fn.body with
   |some c=>if args.size<=fn.ntmps&&fn.ntmps<1000 then
     inside ((eQ P (cZ P bad fuel) fn.ntmps fuel c (vR 0 args.toList .nil)).bind fun
      |(.normal,s)|(.ret,s)=>(kW P s fn.results.toList).bind fun vs=> .ret (match vs with|[v]=>v|_=> .tuple vs.toArray)
      |(.exit _,_)=> .fail)
    else .fail
   |none=> .fail
  |none=> .fail
theorem Tr.get_nil{α:Type}(f j:Nat):Tr.get f (.nil:Tr α) j=none:=by cases f<;>rfl
theorem Tr.kX{α:Type}:∀(f:Nat) (t:Tr α) (i:Nat) (a:Option α) (j:Nat),i<2^f-1->Tr.get f (Tr.set f t i a) j=if j=i then a else Tr.get f t j:=by
 intro f
 induction f with
 |zero=>intro t i a j h;simp at h
 |succ f ih=>
  intro t i a j hi
  have h2:2^(f+1)=2*2^f:=by rw[pX];omega
  have h1:1<=2^f:=Nat.one_le_two_pow
  cases t with
  |nil=>
   unfold Tr.set
   by_cases h0:i=0
   ·subst h0
    simp only[if_true]
    unfold Tr.get
    by_cases hj:j=0
    ·simp[hj]
    ·simp[hj,Tr.get_nil]
   ·rw[if_neg h0]
    by_cases ho:i %2=1
    ·rw[if_pos ho]
     simp only[Tr.get]
     by_cases hj:j=0
     ·subst hj;simp;omega
     ·rw[if_neg hj]
      by_cases kY:j %2=1
      ·rw[if_pos kY,ih _ _ _ _ (by omega)]
       by_cases e:j=i
       ·subst e;simp
       ·rw[if_neg e,if_neg (by omega),Tr.get_nil]
      ·rw[if_neg kY,Tr.get_nil,if_neg (by intro e;subst e;exact kY ho)]
    ·rw[if_neg ho]
     simp only[Tr.get]
     by_cases hj:j=0
     ·subst hj;simp;omega
     ·rw[if_neg hj]
      by_cases kY:j %2=1
      ·rw[if_pos kY,Tr.get_nil,if_neg (by intro e;subst e;exact ho kY)]
      ·rw[if_neg kY,ih _ _ _ _ (by omega)]
       by_cases e:j=i
       ·subst e;simp
       ·rw[if_neg e,if_neg (by omega),Tr.get_nil]
  |node l v r=>
   unfold Tr.set
   by_cases h0:i=0
   ·subst h0
    simp only[if_true]
    unfold Tr.get
    by_cases hj:j=0
    ·simp[hj]
    ·simp[hj]
   ·rw[if_neg h0]
    by_cases ho:i %2=1
    ·rw[if_pos ho]
     simp only[Tr.get]
     by_cases hj:j=0
     ·subst hj;simp;omega
     ·rw[if_neg hj,if_neg hj]
      by_cases kY:j %2=1
      ·rw[if_pos kY,if_pos kY,ih _ _ _ _ (by omega)]
       by_cases e:j=i
       ·subst e;simp
       ·rw[if_neg e,if_neg (by omega)]
      ·rw[if_neg kY,if_neg kY,if_neg (by intro e;subst e;exact kY ho)]
    ·rw[if_neg ho]
     simp only[Tr.get]
     by_cases hj:j=0
     ·subst hj;simp;omega
     ·rw[if_neg hj,if_neg hj]
      by_cases kY:j %2=1
      ·rw[if_pos kY,if_pos kY,if_neg (by intro e;subst e;exact ho kY)]
      ·rw[if_neg kY,if_neg kY,ih _ _ _ _ (by omega)]
       by_cases e:j=i
       ·subst e;simp
       ·rw[if_neg e,if_neg (by omega)]
theorem Tr.Sd{α:Type}:∀(f f':Nat) (t:Tr α) (i:Nat),i<2^f-1->i<2^f'-1->Tr.get f t i=Tr.get f' t i:=by
 intro f
 induction f with
 |zero=>intro f' t i h;simp at h
 |succ f ih=>
  intro f' t i h h'
  cases f' with
  |zero=>simp at h'
  |succ f'=>
   have h2:2^(f+1)=2*2^f:=by rw[pX];omega
   have h3:2^(f'+1)=2*2^f':=by rw[pX];omega
   cases t with
   |nil=>rfl
   |node l v r=>
    unfold Tr.get
    by_cases h0:i=0
    ·rw[if_pos h0,if_pos h0]
    ·rw[if_neg h0,if_neg h0]
     split
     ·exact ih f' l _ (by omega) (by omega)
     ·exact ih f' r _ (by omega) (by omega)
theorem Tr.adK{α:Type}:∀(f f':Nat) (t:Tr α) (i:Nat) (a:Option α),i<2^f-1->i<2^f'-1->Tr.set f t i a=Tr.set f' t i a:=by
 intro f
 induction f with
 |zero=>intro f' t i a h;simp at h
 |succ f ih=>
  intro f' t i a h h'
  cases f' with
  |zero=>simp at h'
  |succ f'=>
   have h2:2^(f+1)=2*2^f:=by rw[pX];omega
   have h3:2^(f'+1)=2*2^f':=by rw[pX];omega
   cases t with
   |nil=>
    unfold Tr.set
    by_cases h0:i=0
    ·rw[if_pos h0,if_pos h0]
    ·rw[if_neg h0,if_neg h0]
     split
     ·rw[ih f' _ _ a (by omega) (by omega)]
     ·rw[ih f' _ _ a (by omega) (by omega)]
   |node l v r=>
    unfold Tr.set
    by_cases h0:i=0
    ·rw[if_pos h0,if_pos h0]
    ·rw[if_neg h0,if_neg h0]
     split
     ·rw[ih f' _ _ a (by omega) (by omega)]
     ·rw[ih f' _ _ a (by omega) (by omega)]
theorem FW(i k:Nat):i<2^(i+1+k)-1:=by
 have h1:i+1+k<2^(i+1+k):=Nat.lt_two_pow_self
 omega
theorem H.kX{h:H}{i:Nat}(x:Option AB)(j:Nat):(h.set i x).get j=if j=i then x else h.get j:=by
 unfold H.get H.set
 have hi:=FW i (j+1)
 have hj:=FW j (i+1)
 have Se:=FW i 0
 have Sf:=FW j 0
 have e:i+1+(j+1)=j+1+(i+1):=by omega
 rw[e]at hi
 rw[Tr.Sd (j+1) (j+1+(i+1)) _ _ Sf hj,Tr.Sd (j+1) (j+1+(i+1)) h _ Sf hj,Tr.adK (i+1) (j+1+(i+1)) _ _ _ Se hi]
 exact Tr.kX _ _ _ _ _ hi
def hd(B:AB):TypeId×Bool×Nat:=(B.elem,B.own,B.cells.length)
def H.hd(h:H)(b:Nat):Option (TypeId×Bool×Nat):=(h.get b).map Ev.hd
def H.cell(h:H)(b k:Nat):Option Value:=(h.get b).bind (·.cells[k]?)
def eH(h h':H)(b k:Nat):Prop:=h.hd b=h'.hd b∧h.cell b k=h'.cell b k
def mi(h h':H)(e:En):Prop:=match e.k with
 |none=>h.get e.b=h'.get e.b
 |some k=>eH h h' e.b k
def wrote(L:List En)(b k:Nat):Prop:=∃e∈L,e.wr=true∧e.b=b∧(e.k=none∨e.k=some k)
theorem eH.refl(h:H)(b k:Nat):eH h h b k:=⟨rfl,rfl⟩
theorem eH.symm{h h':H}{b k:Nat}(x:eH h h' b k):eH h' h b k:=⟨x.1.symm,x.2.symm⟩
theorem eH.trans{h h' FX:H}{b k:Nat}(x:eH h h' b k)(y:eH h' FX b k):eH h FX b k:=⟨x.1.trans y.1,x.2.trans y.2⟩
theorem eH.oY{h h':H}{b:Nat}(k:Nat)(x:h.get b=h'.get b):eH h h' b k:=by
 unfold eH H.hd H.cell;rw[x];exact⟨rfl,rfl⟩
theorem FY{h h':H}{b:Nat}(x:∀k,eH h h' b k):h.get b=h'.get b:=by
 have h0:=(x 0).1
 unfold H.hd at h0
 cases hg:h.get b with
 |none=>rw[hg]at h0;cases uB:h'.get b with
  |none=>rfl
  |some B=>rw[uB]at h0;simp at h0
 |some B=>
  rw[hg]at h0
  cases uB:h'.get b with
  |none=>rw[uB]at h0;simp at h0
  |some B'=>
   rw[uB]at h0
   simp[Ev.hd]at h0
   obtain⟨h1,h2,h3⟩:=h0
   have hc:B.cells=B'.cells:=by
    apply List.ext_getElem?
    intro k
    have:=(x k).2
    unfold H.cell at this
    rw[hg,uB]at this
    simpa using this
   cases B;cases B'
   simp_all
theorem mi.oY{h h':H}{e:En}(x:h.get e.b=h'.get e.b):mi h h' e:=by
 unfold mi
 split
 ·exact x
 ·exact eH.oY _ x
theorem mi.Sg{h h':H}{e:En}(x:∀k,(e.k=none∨e.k=some k)->eH h h' e.b k):mi h h' e:=by
 unfold mi
 split
 ·rename_i he
  exact FY fun k=>x k (.inl he)
 ·rename_i k he
  exact x k (.inr he)
theorem mi.at_{h h':H}{e:En}(x:mi h h' e){k:Nat}(hk:e.k=none∨e.k=some k):eH h h' e.b k:=by
 unfold mi at x
 rcases hk with hk|hk
 ·rw[hk]at x;exact eH.oY k x
 ·rw[hk]at x;exact x
theorem Sh{L L':List En}{b k:Nat}:wrote (L++L') b k↔wrote L b k∨wrote L' b k:=by
 unfold wrote
 constructor
 ·rintro⟨e,he,hr⟩
  rcases List.mem_append.1 he with h|h
  ·exact .inl ⟨e,h,hr⟩
  ·exact .inr ⟨e,h,hr⟩
 ·rintro(⟨e,he,hr⟩|⟨e,he,hr⟩)
  ·exact⟨e,List.mem_append.2 (.inl he),hr⟩
  ·exact⟨e,List.mem_append.2 (.inr he),hr⟩
theorem Si{b k:Nat}:¬wrote [] b k:=by rintro⟨e,he,_⟩;cases he
structure C5 {α:Type} (m:M α) (h:H) (n:Nat) (r:α) (h1:H) (n1:Nat) (L:List En):Prop where
 le:n<=n1
 lt:∀e∈L,e.b<n1
 frame:∀b k,¬wrote L b k->¬(n<=b∧b<n1)->eH h1 h b k
 C6:∀h',(∀e∈L,¬(n<=e.b∧e.b<n1)->mi h h' e)->∃fS,m h' n=some ⟨r,fS,n1,L⟩∧∀b k,(wrote L b k∨(n<=b∧b<n1))->eH fS h1 b k
def Loc{α:Type}(m:M α):Prop:=∀h n r h1 n1 L,m h n=some ⟨r,h1,n1,L⟩->C5 m h n r h1 n1 L
theorem Loc.ret{α:Type}(a:α):Loc (.ret a):=by
 intro h n r h1 n1 L hm
 simp only[M.ret,eG,Out.mk.injEq]at hm
 obtain⟨rfl,rfl,rfl,rfl⟩:=hm
 exact⟨an _,(fun e he=>nomatch he),fun b k _ _=>eH.refl _ _ _,fun h' _=>⟨h',rfl,fun b k hw=>by
  rcases hw with hw|hw
  ·exact absurd hw Si
  ·omega⟩⟩
theorem Loc.fail{α:Type}:Loc (.fail:M α):=by intro h n r h1 n1 L hm;cases hm
theorem Loc.lift{α:Type}(o:Option α):Loc (.lift o):=by
 cases o with
 |none=>intro h n r h1 n1 L hm;cases hm
 |some a=>exact Loc.ret a
theorem Loc.bind{α β:Type}{m:M α}{f:α->M β}(hm:Loc m)(hf:∀a,Loc (f a)):Loc (m.bind f):=by
 intro h n r h2 n2 L hr
 unfold M.bind at hr
 split at hr
 ·rename_i a h1 n1 L1 e1
  split at hr
  ·rename_i c qi A5 L2 e2
   simp only[eG,Out.mk.injEq]at hr
   obtain⟨rfl,rfl,rfl,rfl⟩:=hr
   have A:=hm h n a h1 n1 L1 e1
   have B:=hf a h1 n1 c qi A5 L2 e2
   have asD:=A.le
   have asE:=B.le
   refine⟨by omega,fun e he=> ?_,fun b k hw hi=> ?_,fun h' mM=> ?_⟩
   ·rcases List.mem_append.1 he with h|h
    ·have:=A.lt e h;omega
    ·exact B.lt e h
   ·rw[Sh]at hw
    exact(B.frame b k (fun x=>hw (.inr x)) (by omega)).trans (A.frame b k (fun x=>hw (.inl x)) (by omega))
   ·obtain⟨fS,r1,w1⟩:=A.C6 h' fun e he hi=>mM e (List.mem_append.2 (.inl he)) (by have:=A.lt e he;omega)
    have A':=hm h' n a fS n1 L1 r1
    obtain⟨qi,r2,w2⟩:=B.C6 fS fun e he hi=>by
     apply mi.Sg
     intro k hk
     by_cases hw:wrote L1 e.b k∨(n<=e.b∧e.b<n1)
     ·exact(w1 e.b k hw).symm
     ·have A6:¬wrote L1 e.b k:=fun x=>hw (.inl x)
      have mN:¬(n<=e.b∧e.b<n1):=fun x=>hw (.inr x)
      exact((A.frame e.b k A6 mN).trans ((mM e (List.mem_append.2 (.inr he)) (by omega)).at_ hk)).trans (A'.frame e.b k A6 mN).symm
    have B':=hf a fS n1 c qi A5 L2 r2
    refine⟨qi,by unfold M.bind;rw[r1];simp only[r2],fun b k hw=> ?_⟩
    rw[Sh]at hw
    by_cases mN:wrote L2 b k∨(n1<=b∧b<A5)
    ·exact w2 b k mN
    ·have nk:¬wrote L2 b k:=fun x=>mN (.inl x)
     have ee:¬(n1<=b∧b<A5):=fun x=>mN (.inr x)
     have hy:wrote L1 b k∨(n<=b∧b<n1):=by
      rcases hw with (hw|hw)|hw
      ·exact .inl hw
      ·exact absurd hw nk
      ·exact .inr (by omega)
     exact((B'.frame b k nk ee).trans (w1 b k hy)).trans (B.frame b k nk ee).symm
  ·cases hr
 ·cases hr
theorem Loc.ite{α:Type}{c:Prop} [Decidable c]{x y:M α}(hx:Loc x)(hy:Loc y):Loc (if c then x else y):=by
 by_cases h:c
 ·rw[if_pos h];exact hx
 ·rw[if_neg h];exact hy
theorem Loc.rd(b k:Nat):Loc (Ev.rd b k):=by
 intro h n r h1 n1 L hr
 unfold Ev.rd at hr
 split at hr
 ·rename_i hb
  split at hr
  ·rename_i B hB
   split at hr
   ·rename_i v hv
    simp only[eG,Out.mk.injEq]at hr
    obtain⟨rfl,rfl,rfl,rfl⟩:=hr
    have nw:∀b' k',¬wrote [(⟨false,b,some k⟩:En)] b' k':=by
     rintro b' k' ⟨e,he,hw,_⟩
     simp at he;subst he;cases hw
    refine⟨an _,fun e he=>by simp at he;subst he;exact hb,fun b' k' _ _=>eH.refl _ _ _,fun h' mM=>⟨h', ?_,fun b' k' hw=> ?_⟩⟩
    ·have:=mM ⟨false,b,some k⟩ (by simp) (by show¬(n<=b∧b<n);omega)
     unfold mi eH at this
     simp only[H.cell,hB,Rk,hv]at this
     obtain⟨_,t2⟩:=this
     cases hg:h'.get b with
     |none=>rw[hg]at t2;simp at t2
     |some B'=>
      rw[hg]at t2
      simp at t2
      unfold Ev.rd
      rw[if_pos hb,hg]
      simp only[<-t2]
    ·rcases hw with hw|hw
     ·exact absurd hw (nw _ _)
     ·omega
   ·cases hr
  ·cases hr
 ·cases hr
theorem C7{h:H}{b k:Nat}{B:AB}(hB:h.get b=some B)(v:Value)(b' k':Nat):(h.set b (some {B with cells:=B.cells.set k v})).get b'=if b'=b then some {B with cells:=B.cells.set k v}else h.get b':=H.kX _ _
theorem Loc.wr(b k:Nat)(v:Value):Loc (Ev.wr b k v):=by
 intro h n r h1 n1 L hr
 unfold Ev.wr at hr
 split at hr
 ·rename_i hb
  split at hr
  ·rename_i B hB
   split at hr
   ·rename_i hc
    simp only[eG,Out.mk.injEq]at hr
    obtain⟨_,rfl,rfl,rfl⟩:=hr
    have uC:=hc
    simp only[cj,decide_eq_true_eq]at uC
    obtain⟨⟨oh,hk⟩,A7⟩:=uC
    refine⟨an _,fun e he=>by simp at he;rcases he with rfl|rfl<;>exact hb,fun b' k' hw _=> ?_,fun h' mM=> ?_⟩
    ·unfold eH H.hd H.cell
     rw[C7 hB v b' k']
     by_cases e:b'=b
     ·subst e
      rw[if_pos rfl,hB]
      have KF:k≠k':=fun e=>hw ⟨⟨true,b',some k⟩,by simp,rfl,rfl,.inr (by rw[e])⟩
      simp[Ev.hd,aqJ KF]
     ·rw[if_neg e];exact⟨rfl,rfl⟩
    ·have:=mM ⟨false,b,some k⟩ (by simp) (by show¬(n<=b∧b<n);omega)
     unfold mi eH at this
     simp only[H.hd,H.cell,hB,FF,Rk]at this
     obtain⟨t1,t2⟩:=this
     cases hg:h'.get b with
     |none=>rw[hg]at t1;simp at t1
     |some B'=>
      rw[hg]at t1 t2
      simp[Ev.hd]at t1
      obtain⟨q1,q2,q3⟩:=t1
      refine⟨h'.set b (some {B' with cells:=B'.cells.set k v}), ?_,fun b' k' hw=> ?_⟩
      ·unfold Ev.wr
       rw[if_pos hb,hg]
       simp only
       rw[if_pos (by rw[<-q2,<-q3];exact hc)]
      ·have yk:b'=b∧k'=k:=by
        rcases hw with ⟨e,he,hw,rfl,sP⟩|hw
        ·simp at he
         rcases he with rfl|rfl
         ·cases hw
         ·simp at sP;exact⟨rfl,sP.symm⟩
        ·omega
       obtain⟨rfl,rfl⟩:=yk
       unfold eH H.hd H.cell
       rw[C7 hB v b' k',C7 hg v b' k',if_pos rfl,if_pos rfl]
       refine⟨?_, ?_⟩
       ·simp[Ev.hd,q1,q2,q3]
       ·simp[hk,<-q3]
   ·cases hr
  ·cases hr
 ·cases hr
theorem Loc.dC(e:TypeId)(cs:List Value):Loc (Ev.dC e cs):=by
 intro h n r h1 n1 L hr
 unfold Ev.dC at hr
 split at hr
 ·rename_i hn
  simp only[eG,Out.mk.injEq]at hr
  obtain⟨rfl,rfl,rfl,rfl⟩:=hr
  refine⟨by omega,(fun e he=>nomatch he),fun b k _ hi=> ?_,fun h' _=>⟨h'.set n (some ⟨e,true,cs⟩), ?_,fun b k hw=> ?_⟩⟩
  ·apply eH.oY
   rw[H.kX _ _,if_neg (by omega)]
  ·unfold Ev.dC
   rw[if_pos hn]
  ·have hb:b=n:=by
    rcases hw with hw|hw
    ·exact absurd hw Si
    ·omega
   subst hb
   apply eH.oY
   rw[H.kX _ _,H.kX _ _]
   simp
 ·cases hr
theorem Loc.whole(b:Nat):Loc (Ev.whole b):=by
 intro h n r h1 n1 L hr
 unfold Ev.whole at hr
 split at hr
 ·rename_i hb
  split at hr
  ·rename_i B hB
   simp only[eG,Out.mk.injEq]at hr
   obtain⟨rfl,rfl,rfl,rfl⟩:=hr
   refine⟨an _,fun e he=>by simp at he;subst he;exact hb,fun b' k' _ _=>eH.refl _ _ _,fun h' mM=>⟨h', ?_,fun b' k' hw=> ?_⟩⟩
   ·have:=mM ⟨false,b,none⟩ (by simp) (by show¬(n<=b∧b<n);omega)
    unfold mi at this
    simp only[hB]at this
    unfold Ev.whole
    rw[if_pos hb,<-this]
   ·rcases hw with ⟨e,he,hw,_⟩|hw
    ·simp at he;subst he;cases hw
    ·omega
  ·cases hr
 ·cases hr
theorem Loc.gH(b:Nat):Loc (Ev.gH b):=by
 intro h n r h1 n1 L hr
 unfold Ev.gH at hr
 split at hr
 ·rename_i hb
  split at hr
  ·rename_i B hB
   simp only[eG,Out.mk.injEq]at hr
   obtain⟨rfl,rfl,rfl,rfl⟩:=hr
   refine⟨an _,fun e he=>by simp at he;subst he;exact hb,fun b' k' _ _=>eH.refl _ _ _,fun h' mM=>⟨h', ?_,fun b' k' hw=> ?_⟩⟩
   ·have:=mM ⟨false,b,some 1099511627776⟩ (by simp) (by show¬(n<=b∧b<n);omega)
    unfold mi eH at this
    simp only[H.hd,hB,FF]at this
    cases hg:h'.get b with
    |none=>rw[hg]at this;simp at this
    |some B'=>
     rw[hg]at this
     simp[Ev.hd]at this
     unfold Ev.gH
     rw[if_pos hb,hg]
     simp only[<-this.1.1]
   ·rcases hw with ⟨e,he,hw,_⟩|hw
    ·simp at he;subst he;cases hw
    ·omega
  ·cases hr
 ·cases hr
theorem Loc.kill(b:Nat):Loc (Ev.kill b):=by
 intro h n r h1 n1 L hr
 unfold Ev.kill at hr
 split at hr
 ·rename_i hb
  split at hr
  ·rename_i B hB
   split at hr
   ·rename_i ho
    simp only[eG,Out.mk.injEq]at hr
    obtain⟨_,rfl,rfl,rfl⟩:=hr
    refine⟨an _,fun e he=>by simp at he;rcases he with rfl|rfl<;>exact hb,fun b' k' hw _=> ?_,fun h' mM=>⟨h'.set b none, ?_,fun b' k' hw=> ?_⟩⟩
    ·apply eH.oY
     rw[H.kX _ _,if_neg]
     rintro rfl
     exact hw ⟨⟨true,b',none⟩,by simp,rfl,rfl,.inl rfl⟩
    ·have:=mM ⟨false,b,none⟩ (by simp) (by show¬(n<=b∧b<n);omega)
     unfold mi at this
     simp only[hB]at this
     unfold Ev.kill
     rw[if_pos hb,<-this]
     simp only[ho,if_true]
    ·have ym:b'=b:=by
      rcases hw with ⟨e,he,hw,rfl,_⟩|hw
      ·simp at he
       rcases he with rfl|rfl<;>rfl
      ·omega
     subst ym
     apply eH.oY
     rw[H.kX _ _,H.kX _ _]
     simp
   ·cases hr
  ·cases hr
 ·cases hr
theorem Loc.cU(b:Nat):∀(n k:Nat),Loc (Ev.cU b k n):=by
 intro n
 induction n with
 |zero=>intro k;exact Loc.ret _
 |succ n ih=>intro k;exact Loc.bind (Loc.rd _ _) fun v=>Loc.bind (ih _) fun vs=>Loc.ret _
theorem Loc.fN(b:Nat):∀(vs:List Value) (k:Nat),Loc (Ev.fN b k vs):=by
 intro vs
 induction vs with
 |nil=>intro k;exact Loc.ret _
 |cons v vs ih=>intro k;exact Loc.bind (Loc.wr _ _ _) fun _=>ih _
theorem Sj{L:List En}{n n1 b k:Nat}(hi:¬(n<=b∧b<n1)):wrote (L.filter fun e=> !(n<=e.b&&e.b<n1)) b k↔wrote L b k:=by
 unfold wrote
 constructor
 ·rintro⟨e,he,hr⟩
  exact⟨e,(List.mem_filter.1 he).1,hr⟩
 ·rintro⟨e,he,h1,h2,h3⟩
  refine⟨e,List.mem_filter.2 ⟨he, ?_⟩,h1,h2,h3⟩
  rw[h2]
  simp
  omega
theorem C5.filter {α:Type} {m m':M α} {h h1:H} {n n1:Nat} {r:α} {L:List En} (A:C5 m h n r h1 n1 L)
 (hm:∀h' fS,m h' n=some ⟨r,fS,n1,L⟩->m' h' n=some ⟨r,fS,n1,L.filter fun e=> !(n<=e.b&&e.b<n1)⟩):C5 m' h n r h1 n1 (L.filter fun e=> !(n<=e.b&&e.b<n1)):=by
 refine⟨A.le,fun e he=>A.lt e (List.mem_filter.1 he).1,fun b k hw hi=>A.frame b k (fun x=>hw ((Sj hi).2 x)) hi,fun h' mM=> ?_⟩
 obtain⟨fS,r1,w1⟩:=A.C6 h' fun e he hi=>mM e (List.mem_filter.2 ⟨he,by simp;omega⟩) hi
 refine⟨fS,hm h' fS r1,fun b k hw=>w1 b k ?_⟩
 by_cases hi:n<=b∧b<n1
 ·exact .inr hi
 ·rcases hw with hw|hw
  ·exact .inl ((Sj hi).1 hw)
  ·exact .inr hw
theorem Loc.inside{α:Type}{m:M α}(hm:Loc m):Loc (Ev.inside m):=by
 intro h n r h1 n1 L hr
 unfold Ev.inside at hr
 split at hr
 ·rename_i a fS qY L' e1
  simp only[eG,Out.mk.injEq]at hr
  obtain⟨rfl,rfl,rfl,rfl⟩:=hr
  refine(hm h n a fS qY L' e1).filter fun h' asF e=> ?_
  unfold Ev.inside
  rw[e]
 ·cases hr
theorem Loc.aG{α:Type}{m:M α}(hm:Loc m):Loc (Ev.aG m):=by
 intro h n r h1 n1 L hr
 unfold Ev.aG at hr
 split at hr
 ·rename_i a fS qY L' e1
  simp only[eG,Out.mk.injEq]at hr
  obtain⟨rfl,rfl,rfl,rfl⟩:=hr
  have A:=hm h n a fS qY L' e1
  refine⟨A.le,A.lt,A.frame,fun h' mM=> ?_⟩
  obtain⟨h2,r2,w2⟩:=A.C6 h' mM
  exact⟨h2,by unfold Ev.aG;rw[r2],w2⟩
 ·cases hr
theorem Loc.kU(sz n:Nat)(x:Value):Loc (Ev.kU sz n x):=by
 unfold Ev.kU
 repeat' (first|exact Loc.ret _|exact Loc.fail|exact Loc.lift _|exact Loc.rd _ _|exact Loc.cU _ _ _|exact Loc.fN _ _ _|exact Loc.whole _|exact Loc.kill _|exact Loc.dC _ _|refine Loc.bind ?_ fun _=> ?_|split)
theorem Loc.qc(e:TypeId)(l n:Nat)(old new:List Value):Loc (Ev.qc e l n old new):=by
 unfold Ev.qc
 repeat' (first|exact Loc.ret _|exact Loc.fail|exact Loc.lift _|exact Loc.cU _ _ _|exact Loc.fN _ _ _|exact Loc.gH _|exact Loc.kill _|exact Loc.dC _ _|refine Loc.bind ?_ fun _=> ?_|split)
theorem Loc.yg(e:TypeId)(n sz b off l cap:Nat)(new:List Value):Loc (Ev.yg e n sz b off l cap new):=by
 unfold Ev.yg
 repeat' (first|exact Loc.ret _|exact Loc.fail|exact Loc.lift _|exact Loc.cU _ _ _|exact Loc.fN _ _ _|exact Loc.gH _|exact Loc.kill _|exact Loc.dC _ _|exact Loc.qc _ _ _ _ _|refine Loc.bind ?_ fun _=> ?_|split)
theorem Loc.sH(P:Program)(t:TypeId)(s x:Value):Loc (Ev.sH P t s x):=by
 unfold Ev.sH
 repeat' (first|exact Loc.ret _|exact Loc.fail|exact Loc.lift _|exact Loc.cU _ _ _|exact Loc.fN _ _ _|exact Loc.gH _|exact Loc.kill _|exact Loc.dC _ _|exact Loc.kU _ _ _|exact Loc.qc _ _ _ _ _|exact Loc.yg _ _ _ _ _ _ _ _|refine Loc.bind ?_ fun _=> ?_|split)
theorem Loc.sK(P:Program)(t:TypeId)(d s:Value):Loc (Ev.sK P t d s):=by
 unfold Ev.sK
 repeat' (first|exact Loc.ret _|exact Loc.fail|exact Loc.lift _|exact Loc.fN _ _ _|exact Loc.kU _ _ _|refine Loc.bind ?_ fun _=> ?_|split)
theorem Loc.iQ(P:Program)(ρ:Operand->Value)(o:Oper):Loc (Ev.iQ P ρ o):=by
 unfold Ev.iQ
 repeat' (first|exact Loc.ret _|exact Loc.fail|exact Loc.lift _|exact Loc.rd _ _|exact Loc.cU _ _ _|exact Loc.fN _ _ _|exact Loc.whole _|exact Loc.kill _|exact Loc.dC _ _|refine Loc.bind ?_ fun _=> ?_|split)
theorem Loc.mK(P:Program)(ρ:Operand->Value)(o:Oper)(c:Call)(args:Array Value):Loc (Ev.mK P ρ o c args):=by
 unfold Ev.mK
 repeat' (first|exact Loc.ret _|exact Loc.fail|exact Loc.lift _|exact Loc.rd _ _|exact Loc.cU _ _ _|exact Loc.fN _ _ _|exact Loc.whole _|exact Loc.kill _|exact Loc.dC _ _|exact Loc.sH _ _ _ _|exact Loc.sK _ _ _ _|exact Loc.iQ _ _ _|refine Loc.bind ?_ fun _=> ?_|split)
theorem Loc.qd(P:Program)(e:TypeId):Loc (Ev.qd P e):=by
 unfold Ev.qd
 repeat' (first|exact Loc.ret _|exact Loc.fail|exact Loc.lift _|exact Loc.rd _ _|exact Loc.cU _ _ _|exact Loc.fN _ _ _|exact Loc.whole _|exact Loc.kill _|exact Loc.dC _ _|refine Loc.bind ?_ fun _=> ?_|split)
theorem Loc.qe(P:Program)(e:TypeId)(v:Value):Loc (Ev.qe P e v):=by
 unfold Ev.qe
 repeat' (first|exact Loc.ret _|exact Loc.fail|exact Loc.lift _|exact Loc.rd _ _|exact Loc.cU _ _ _|exact Loc.fN _ _ _|exact Loc.whole _|exact Loc.kill _|exact Loc.dC _ _|refine Loc.bind ?_ fun _=> ?_|split)
theorem Loc.oV(P:Program)(t:TypeId)(l:List (Nat×Value)):Loc (Ev.oV P t l):=by
 unfold Ev.oV
 repeat' (first|exact Loc.ret _|exact Loc.fail|exact Loc.lift _|exact Loc.rd _ _|exact Loc.cU _ _ _|exact Loc.fN _ _ _|exact Loc.whole _|exact Loc.kill _|exact Loc.dC _ _|refine Loc.bind ?_ fun _=> ?_|split)
theorem Loc.oW(P:Program)(t:TypeId)(n:Nat)(l:List (Nat×Value)):Loc (Ev.oW P t n l):=by
 unfold Ev.oW
 repeat' (first|exact Loc.ret _|exact Loc.fail|exact Loc.lift _|exact Loc.rd _ _|exact Loc.cU _ _ _|exact Loc.fN _ _ _|exact Loc.whole _|exact Loc.kill _|exact Loc.dC _ _|refine Loc.bind ?_ fun _=> ?_|split)
theorem Loc.kV(P:Program)(t:TypeId)(v:Value):Loc (Ev.kV P t v):=by
 unfold Ev.kV
 repeat' (first|exact Loc.ret _|exact Loc.fail|exact Loc.lift _|exact Loc.rd _ _|exact Loc.cU _ _ _|exact Loc.fN _ _ _|exact Loc.whole _|exact Loc.kill _|exact Loc.dC _ _|refine Loc.bind ?_ fun _=> ?_|split)
theorem Loc.qV(P:Program)(t:TypeId)(a v:Value):Loc (Ev.qV P t a v):=by
 unfold Ev.qV
 repeat' (first|exact Loc.ret _|exact Loc.fail|exact Loc.lift _|exact Loc.rd _ _|exact Loc.cU _ _ _|exact Loc.fN _ _ _|exact Loc.whole _|exact Loc.kill _|exact Loc.dC _ _|refine Loc.bind ?_ fun _=> ?_|split)
theorem Loc.ux(v:Value):Loc (Ev.ux v):=by
 unfold Ev.ux
 repeat' (first|exact Loc.ret _|exact Loc.fail|exact Loc.lift _|exact Loc.rd _ _|exact Loc.cU _ _ _|exact Loc.fN _ _ _|exact Loc.whole _|exact Loc.kill _|exact Loc.dC _ _|refine Loc.bind ?_ fun _=> ?_|split)
theorem Loc.qf(v:Value):Loc (Ev.qf v):=by
 unfold Ev.qf
 repeat' (first|exact Loc.ret _|exact Loc.fail|exact Loc.lift _|exact Loc.rd _ _|exact Loc.cU _ _ _|exact Loc.fN _ _ _|exact Loc.whole _|exact Loc.kill _|exact Loc.dC _ _|refine Loc.bind ?_ fun _=> ?_|split)
theorem Loc.uy(e:TypeId)(s:ByteArray):Loc (Ev.uy e s):=by
 unfold Ev.uy
 repeat' (first|exact Loc.ret _|exact Loc.fail|exact Loc.lift _|exact Loc.rd _ _|exact Loc.cU _ _ _|exact Loc.fN _ _ _|exact Loc.whole _|exact Loc.kill _|exact Loc.dC _ _|refine Loc.bind ?_ fun _=> ?_|split)
theorem Loc.qh(P:Program)(t:TypeId)(l c:Value):Loc (Ev.qh P t l c):=by
 unfold Ev.qh
 repeat' (first|exact Loc.ret _|exact Loc.fail|exact Loc.lift _|exact Loc.rd _ _|exact Loc.cU _ _ _|exact Loc.fN _ _ _|exact Loc.whole _|exact Loc.kill _|exact Loc.dC _ _|refine Loc.bind ?_ fun _=> ?_|split)
theorem Loc.qU(P:Program)(t:TypeId)(x:Value)(a b c:Option Value):Loc (Ev.qU P t x a b c):=by
 unfold Ev.qU
 repeat' (first|exact Loc.fail|exact Loc.lift _|exact Loc.gH _|refine Loc.bind ?_ fun _=> ?_|split)
theorem Loc.cI(P:Program)(ρ:Operand->Value)(o:Oper):Loc (Ev.cI P ρ o):=by
 unfold Ev.cI
 repeat' (first|exact Loc.ret _|exact Loc.fail|exact Loc.lift _|exact Loc.rd _ _|exact Loc.cU _ _ _|exact Loc.fN _ _ _|exact Loc.whole _|exact Loc.kill _|exact Loc.dC _ _|exact Loc.iQ _ _ _|exact Loc.qU _ _ _ _ _ _|exact Loc.mK _ _ _ _ _|exact Loc.qd _ _|exact Loc.qe _ _ _|exact Loc.oV _ _ _|exact Loc.oW _ _ _ _|exact Loc.kV _ _ _|exact Loc.qV _ _ _ _|exact Loc.ux _|exact Loc.qf _|exact Loc.uy _ _|exact Loc.qh _ _ _ _|refine Loc.bind ?_ fun _=> ?_|split)
section
variable {P:Program} {rec:FuncId->Array Value->M Value} {nt:Nat}
theorem Loc.ig(cV:∀f a,Loc (rec f a))(ops:Array Oper)(o:Oper)(s:S):Loc (Ev.ig P rec ops o s):=by
 unfold Ev.ig
 repeat' (first|exact Loc.ret _|exact Loc.fail|exact Loc.lift _|exact Loc.cI _ _ _|exact cV _ _|refine Loc.bind ?_ fun _=> ?_|split)
theorem Loc.kp(cV:∀f a,Loc (rec f a))(ops:Array Oper):∀(l:List Oper) (s:S),Loc (Ev.kp P rec nt ops l s):=by
 intro l
 induction l with
 |nil=>intro s;exact Loc.ret _
 |cons o r ih=>intro s;exact Loc.bind (Loc.aG (Loc.inside (Loc.ig cV _ _ _))) fun x=>Loc.bind (Loc.lift _) fun s1=>Loc.bind (ih _) fun y=>Loc.ret _
theorem Loc.sO(cV:∀f a,Loc (rec f a))(ops:Array Oper)(draw:Bool)(s:S):Loc (Ev.sO P rec nt ops draw s):=
 Loc.bind (Loc.kp cV _ _ _) fun y=>Loc.ite (Loc.ret _) Loc.fail
theorem Loc.eQ(cV:∀f a,Loc (rec f a)):∀(fuel:Nat) (c:Code) (s:S),Loc (Ev.eQ P rec nt fuel c s):=by
 intro fuel
 induction fuel with
 |zero=>intro c s;exact Loc.fail
 |succ f ih=>
  intro c s
  cases c<;>unfold Ev.eQ<;>simp only
  all_goals repeat' (first|exact Loc.ret _|exact Loc.fail|exact ih _ _|exact Loc.sO cV _ _ _|refine Loc.bind ?_ fun _=> ?_|split)
end
theorem Loc.kW(P:Program)(s:S):∀l,Loc (Ev.kW P s l):=by
 intro l
 induction l with
 |nil=>exact Loc.ret _
 |cons r l ih=>
  cases r<;>unfold Ev.kW
  ·exact Loc.bind ih fun _=>Loc.ret _
  ·exact Loc.bind (Loc.kV _ _ _) fun _=>Loc.bind ih fun _=>Loc.ret _
theorem Loc.qX(P:Program):∀l,Loc (Ev.qX P l):=by
 intro l
 induction l with
 |nil=>exact Loc.ret _
 |cons g l ih=>
  unfold Ev.qX
  refine Loc.bind (Loc.rd _ _) fun u=> ?_
  split
  ·exact ih
  ·exact Loc.fail
theorem Loc.vT(f:FuncId)(k:Nat)(args:List Value):Loc (Ev.vT f k args):=by
 unfold Ev.vT
 split
 ·unfold Ev.KB
  split
  ·unfold Ev.Kz
   refine Loc.bind (Loc.cU _ _ _) fun vs=> ?_
   unfold Ev.Sc
   split
   ·exact Loc.ret _
   ·exact Loc.fail
  ·exact Loc.fail
 ·unfold Ev.KC
  split
  ·unfold Ev.KA
   split
   ·exact Loc.ret _
   ·exact Loc.fail
  ·exact Loc.fail
 ·unfold Ev.KD
  split
  ·exact Loc.lift _
  ·exact Loc.fail
 ·unfold Ev.KE
  split
  ·exact Loc.lift _
  ·refine Loc.bind (Loc.cU _ _ _) fun vs=> ?_
   split
   ·exact Loc.lift _
   ·exact Loc.fail
  ·exact Loc.fail
 ·exact Loc.fail
theorem Loc.cZ(P:Program)(bad:List FuncId):∀(fuel:Nat) (f:FuncId) (args:Array Value),Loc (Ev.cZ P bad fuel f args):=by
 intro fuel
 induction fuel with
 |zero=>intro f a;exact Loc.fail
 |succ fuel ih=>
  intro f args
  unfold Ev.cZ
  repeat' (first|exact Loc.ret _|exact Loc.fail|exact Loc.qX _ _|exact Loc.vT _ _ _|exact Loc.eQ ih _ _ _|exact Loc.kW _ _ _|refine Loc.inside ?_|refine Loc.bind ?_ fun _=> ?_|split)
end Go.Proofs.YtmjolmggelkjlaaGreat.Ev
namespace Go.Proofs.YtmjolmggelkjlaaGreat.Ev
open Go Go.RowKit
theorem bind_some{α β:Type}{m:M α}{f:α->M β}{h:H}{n:Nat}{c:β}{h2:H}{n2:Nat}{L:List En}(hr:(m.bind f) h n=some ⟨c,h2,n2,L⟩):
 ∃a h1 n1 L1 L2,m h n=some ⟨a,h1,n1,L1⟩∧f a h1 n1=some ⟨c,h2,n2,L2⟩∧L=L1++L2:=by
 unfold M.bind at hr
 split at hr
 ·rename_i a h1 n1 L1 e1
  split at hr
  ·rename_i c' qi A5 L2 e2
   simp only[eG,Out.mk.injEq]at hr
   obtain⟨rfl,rfl,rfl,rfl⟩:=hr
   exact⟨a,h1,n1,L1,L2,e1,e2,rfl⟩
  ·cases hr
 ·cases hr
theorem bY{α:Type}{a c:α}{h h2:H}{n n2:Nat}{L:List En}(hr:(M.ret a) h n=some ⟨c,h2,n2,L⟩):c=a∧h2=h∧n2=n:=by
 simp only[M.ret,eG,Out.mk.injEq]at hr
 exact⟨hr.1.symm,hr.2.1.symm,hr.2.2.1.symm⟩
theorem oZ{α:Type}{o:Option α}{c:α}{h h2:H}{n n2:Nat}{L:List En}(hr:(M.lift o) h n=some ⟨c,h2,n2,L⟩):o=some c∧h2=h∧n2=n:=by
 unfold M.lift at hr
 cases o with
 |none=>cases hr
 |some a=>
  simp only[eG,Out.mk.injEq]at hr
  exact⟨by rw[hr.1],hr.2.1.symm,hr.2.2.1.symm⟩
structure Ds where
 bE:Nat
 sh:Nat
 jE:Nat
 esz:Nat
 el:TypeId
abbrev Mp:=Nat->Option Ds
mutual
inductive VR (m:Mp):Value->Value->Prop
 |bool (b:Bool):VR m (.bool b) (.bool b)
 |int (k:IntKind) (n:Int):VR m (.int k n) (.int k n)
 |float (k:FloatKind) (n:Nat):VR m (.float k n) (.float k n)
 |string (s:ByteArray):VR m (.string s) (.string s)
 |C8:VR m (.pointer none) (.pointer none)
 |ptr {b off:Nat} {d:Ds} (h:m b=some d):VR m (.pointer (some ⟨b,off,none⟩)) (.pointer (some ⟨d.bE,d.sh+off,none⟩))
 |o0 (n c:Nat) (hc:n<=c∧c<bq):VR m (.slice none n c) (.slice none n c)
 |iC {b off n cap dz o':Nat} {d:Ds} (h:m b=some d) (ho:0<n∨cap<bq->o'=d.sh+off) (h1:cap<bq->dz=cap) (h2:bq<=cap->bq+n<=cap∧cap<=bq+dz) (hn:n<=dz) (ht:o'+dz*d.esz<=d.jE):
   VR m (.slice (some ⟨b,off,none⟩) n cap) (.slice (some ⟨d.bE,o',none⟩) n dz)
 |sQ (b off s:Nat) (a':Addr):VR m (.slice (some ⟨b,off,some s⟩) 0 0) (.slice (some a') 0 0)
 |func (fn:Fn) {f c f' c':Array Value} (h1:bA m f.toList f'.toList) (h2:bA m c.toList c'.toList):VR m (.func fn f c) (.func fn f' c')
 |nilFunc:VR m .nilFunc .nilFunc
 |agg {cs cs':Array Value} (h:bA m cs.toList cs'.toList):VR m (.agg cs) (.agg cs')
 |tuple {cs cs':Array Value} (h:bA m cs.toList cs'.toList):VR m (.tuple cs) (.tuple cs')
inductive bA (m:Mp):List Value->List Value->Prop
 |nil:bA m [] []
 |cons {v v':Value} {l l':List Value} (h:VR m v v') (t:bA m l l'):bA m (v::l) (v'::l')
end
def Le(m m':Mp):Prop:=∀b d,m b=some d->m' b=some d
theorem Le.refl(m:Mp):Le m m:=fun _ _ h=>h
theorem Le.trans{a b c:Mp}(h:Le a b)(k:Le b c):Le a c:=fun x d e=>k x d (h x d e)
mutual
theorem VR.mono{m m':Mp}(hl:Le m m'):∀{v v':Value},VR m v v'->VR m' v v'
 |_,_,.bool b=> .bool b
 |_,_,.int k n=> .int k n
 |_,_,.float k n=> .float k n
 |_,_,.string s=> .string s
 |_,_,.C8=> .C8
 |_,_,.ptr h=> .ptr (hl _ _ h)
 |_,_,.o0 n c hc=> .o0 n c hc
 |_,_,.iC h ho h1 h2 hn ht=> .iC (hl _ _ h) ho h1 h2 hn ht
 |_,_,.sQ b off s a'=> .sQ b off s a'
 |_,_,.func fn h1 h2=> .func fn (bA.mono hl h1) (bA.mono hl h2)
 |_,_,.nilFunc=> .nilFunc
 |_,_,.agg h=> .agg (bA.mono hl h)
 |_,_,.tuple h=> .tuple (bA.mono hl h)
theorem bA.mono{m m':Mp}(hl:Le m m'):∀{l l':List Value},bA m l l'->bA m' l l'
 |_,_,.nil=> .nil
 |_,_,.cons h t=> .cons (VR.mono hl h) (bA.mono hl t)
end
theorem bA.length{m:Mp}:∀{l l':List Value},bA m l l'->l.length=l'.length
 |_,_,.nil=>rfl
 |_,_,.cons _ t=>by simp[bA.length t]
theorem bA.get{m:Mp}:∀{l l':List Value},bA m l l'->∀(k:Nat) (v:Value),l[k]? =some v->∃v',l'[k]? =some v'∧VR m v v'
 |_,_,.nil,k,v,h=>by simp at h
 |_,_,.cons h t,k,v,hk=>by
  cases k with
  |zero=>simp at hk;subst hk;exact⟨_,rfl,h⟩
  |succ k=>simp at hk;simpa using bA.get t k v hk
theorem bA.oY{m:Mp}:∀{l l':List Value},l.length=l'.length->(∀(k:Nat) (v:Value),l[k]? =some v->∃v',l'[k]? =some v'∧VR m v v')->bA m l l'
 |[],[],_,_=> .nil
 |v::l,v'::l',hl,h=>by
  obtain⟨u,hu,hr⟩:=h 0 v rfl
  simp at hu;subst hu
  exact .cons hr (bA.oY (by simpa using hl) fun k x hk=>by simpa using h (k+1) x (by simpa using hk))
theorem bA.append{m:Mp}:∀{a a' b b':List Value},bA m a a'->bA m b b'->bA m (a++b) (a'++b')
 |_,_,_,_,.nil,k=>k
 |_,_,_,_,.cons h t,k=> .cons h (bA.append t k)
theorem bA.set{m:Mp}:∀{a a':List Value} (k:Nat) {v v':Value},bA m a a'->VR m v v'->bA m (a.set k v) (a'.set k v')
 |_,_,_,_,_,.nil,_=> .nil
 |_,_,0,_,_,.cons _ t,h=> .cons h t
 |_,_,k+1,_,_,.cons u t,h=> .cons u (bA.set k t h)
theorem bA.map{m:Mp}{α:Type}{f g:α->Value}:∀(l:List α),(∀x,VR m (f x) (g x))->bA m (l.map f) (l.map g)
 |[],_=> .nil
 |x::l,h=> .cons (h x) (bA.map l h)
theorem VR.scalar{m:Mp}{v v':Value}(h:VR m v v')(hs:Ev.scalar v=true):v'=v:=by
 cases h<;>first|rfl|cases hs
theorem VR.self{m:Mp}{v:Value}(hs:Ev.scalar v=true):VR m v v:=by
 cases v<;>first|exact .bool _|exact .int _ _|exact .string _|cases hs
theorem VR.one{m:Mp}{v v':Value}(h:VR m v v'):Ev.one v'=Ev.one v:=by cases h<;>rfl
theorem VR.cells{m:Mp}{v v':Value}(h:VR m v v'):bA m v.cells.toList v'.cells.toList:=by
 cases h with
 |agg h=>exact h
 |bool b=>exact .cons (.bool b) .nil
 |int k n=>exact .cons (.int k n) .nil
 |float k n=>exact .cons (.float k n) .nil
 |string s=>exact .cons (.string s) .nil
 |C8=>exact .cons .C8 .nil
 |ptr h=>exact .cons (.ptr h) .nil
 |o0 n c hc=>exact .cons (.o0 n c hc) .nil
 |iC h ho h1 h2 hn ht=>exact .cons (.iC h ho h1 h2 hn ht) .nil
 |sQ b off s a'=>exact .cons (.sQ b off s a') .nil
 |func fn h1 h2=>exact .cons (.func fn h1 h2) .nil
 |nilFunc=>exact .cons .nilFunc .nil
 |tuple h=>exact .cons (.tuple h) .nil
theorem VR.undef{m:Mp}:VR m aqK aqK:= .tuple .nil
theorem VR.KH{m:Mp}{v v':Value}(h:VR m v v'):v.cells.size=v'.cells.size:=by
 have:=h.cells.length
 simpa using this
structure WR (P:Program) (m:Mp) (base:Nat) (h:H) (hp:Array Obj):Prop where
 live:∀b B,h.get b=some B->∃d cs lo hi,m b=some d∧hp[d.bE]? =some (.cells cs d.el (lo,hi))∧cs.size=d.jE∧d.sh+B.cells.length<=d.jE∧
  size? P B.elem=some d.esz∧(B.own=true->d.el=B.elem∧base<=d.bE∧∀k,k<d.jE->¬(lo<=k∧k<hi))∧∀k v,B.cells[k]? =some v->∃v',cs[d.sh+k]? =some v'∧VR m v v'
 inj:∀b b' B B' d d',h.get b=some B->h.get b'=some B'->(B.own=true∨B'.own=true)->m b=some d->m b'=some d'->d.bE=d'.bE->b=b'
theorem WR.oY{P:Program}{m:Mp}{base:Nat}{h h':H}{hp:Array Obj}(x:WR P m base h hp)(e:∀b,h'.get b=h.get b):WR P m base h' hp:=
 ⟨fun b B hb=>x.live b B (by rw[<-e];exact hb),fun b b' B B' d d' hb bW=>x.inj b b' B B' d d' (by rw[<-e];exact hb) (by rw[<-e];exact bW)⟩
theorem WR.lt{P:Program}{m:Mp}{base:Nat}{h:H}{hp:Array Obj}(x:WR P m base h hp){b:Nat}{B:AB}(hb:h.get b=some B):∃d,m b=some d∧d.bE<hp.size:=by
 obtain⟨d,cs,lo,hi,hm,hg,_⟩:=x.live b B hb
 exact⟨d,hm,(Array.getElem?_eq_some_iff.1 hg).1⟩
structure c8 (P:Program) (m:Mp) (base n n1:Nat) (w:World) (h1:H) (m':Mp) (w':World):Prop where
 le:Le m m'
 out:∀b,¬(n<=b∧b<n1)->m' b=m b
 wr:WR P m' base h1 w'.heap
 below:Below base w w'
theorem c8.refl{P:Program}{m:Mp}{base n:Nat}{w:World}{h:H}(x:WR P m base h w.heap):c8 P m base n n w h m w:=
 ⟨Le.refl _,fun _ _=>rfl,x,vD _ _⟩
theorem c8.trans{P:Program}{m m' qj:Mp}{base n n1 n2:Nat}{w w' qk:World}{h1 h2:H}(h01:n<=n1)(dW:n1<=n2)(x:c8 P m base n n1 w h1 m' w')(y:c8 P m' base n1 n2 w' h2 qj qk):c8 P m base n n2 w h2 qj qk:=
 ⟨x.le.trans y.le,fun b hb=>(y.out b (by omega)).trans (x.out b (by omega)),y.wr,x.below.trans y.below⟩
def jQ(m:Mp)(n n1:Nat):Prop:=∀b,n<=b->b<n1->m b=none
theorem jQ.after{P:Program}{m m':Mp}{base n n1 n2:Nat}{w w':World}{h1:H}(f:jQ m n n2)(hn:n<=n1)(x:c8 P m base n n1 w h1 m' w'):jQ m' n1 n2:=
 fun b h1 h2=>by rw[x.out b (by omega)];exact f b (by omega) h2
theorem jQ.first{m:Mp}{n n1 n2:Nat}(f:jQ m n n2)(h:n1<=n2):jQ m n n1:=fun b h1 h2=>f b h1 (by omega)
theorem nm(b o i:Nat):(⟨b,o,none⟩:Addr).add i=⟨b,o+i,none⟩:=by
 unfold Addr.add
 split
 ·rename_i h;subst h;rfl
 ·rfl
theorem A8(w:World)(c o:Nat){cs:Array Value}{e:TypeId}{f:Nat×Nat}(h:w.heap[c]? =some (.cells cs e f)):w.cell? ⟨c,o,none⟩=cs[o]? :=by
 unfold World.cell?
 simp[h]
theorem FZ{P:Program}{m:Mp}{base:Nat}{h h1:H}{w:World}{b k n n1:Nat}{v:Value}{L:List En}(x:WR P m base h w.heap)(hr:rd b k h n=some ⟨v,h1,n1,L⟩):
 h1=h∧n1=n∧∃d v',m b=some d∧w.cell? ⟨d.bE,d.sh+k,none⟩=some v'∧VR m v v':=by
 unfold rd at hr
 split at hr
 ·split at hr
  ·rename_i B hB
   split at hr
   ·rename_i u hu
    simp only[eG,Out.mk.injEq]at hr
    obtain⟨rfl,rfl,rfl,_⟩:=hr
    obtain⟨d,cs,lo,hi,hm,hg,_,_,_,_,hc⟩:=x.live b B hB
    obtain⟨v',eI,hr⟩:=hc k u hu
    exact⟨rfl,rfl,d,v',hm,by rw[A8 w _ _ hg];exact eI,hr⟩
   ·cases hr
  ·cases hr
 ·cases hr
theorem vU{P:Program}{m:Mp}{base:Nat}{h:H}{w:World}{b n:Nat}(x:WR P m base h w.heap){d:Ds}(hd:m b=some d):∀{c k n1:Nat} {vs:List Value} {h1:H} {L:List En},cU b k c h n=some ⟨vs,h1,n1,L⟩->
 h1=h∧n1=n∧vs.length=c∧∃dD,bA m vs dD∧∀j v,dD[j]? =some v->w.cell? ⟨d.bE,d.sh+k+j,none⟩=some v:=by
 intro c
 induction c with
 |zero=>
  intro k n1 vs h1 L hr
  simp only[cU,M.ret,eG,Out.mk.injEq]at hr
  obtain⟨rfl,rfl,rfl,_⟩:=hr
  exact⟨rfl,rfl,rfl,[],.nil,fun j v hv=>by simp at hv⟩
 |succ c ih=>
  intro k n1 vs h1 L hr
  obtain⟨v,h2,n2,L1,L2,e2,e3,_⟩:=bind_some (m:=rd b k) hr
  obtain⟨rfl,rfl,d',v',mj,hc,hv⟩:=FZ x e2
  rw[hd]at mj
  cases mj
  obtain⟨ws,h4,n4,L3,L4,e4,e5,_⟩:=bind_some (m:=cU b (k+1) c) e3
  obtain⟨rfl,rfl,hl,dD,gI,fI⟩:=ih e4
  obtain⟨rfl,rfl,rfl⟩:=bY e5
  refine⟨rfl,rfl,by simp[hl],v'::dD,.cons hv gI,fun j u hu=> ?_⟩
  cases j with
  |zero=>simp at hu;subst hu;exact hc
  |succ j=>
   have:=fI j u (by simpa using hu)
   rw[show d.sh+k+(j+1)=d.sh+(k+1)+j by omega]
   exact this
theorem A9{P:Program}{w:World}{c o:Nat}{vs:List Value}(h:∀j v,vs[j]? =some v->w.cell? ⟨c,o+j,none⟩=some v):(loadCells ⟨c,o,none⟩ vs.length).run P w= .ok vs.toArray w:=by
 have:=run_loadCells_list (P:=P) (w:=w) ⟨c,o,none⟩ vs (fun j v hv=>by rw[nm];exact h j v hv)
 simpa using this
theorem Sk{P:Program}{m:Mp}{base:Nat}{h h1:H}{w:World}{b n n1:Nat}{e:TypeId}{L:List En}(x:WR P m base h w.heap)(hr:gH b h n=some ⟨e,h1,n1,L⟩):
 h1=h∧n1=n∧∃d,m b=some d∧size? P e=some d.esz∧∃B,h.get b=some B∧B.elem=e:=by
 unfold gH at hr
 split at hr
 ·split at hr
  ·rename_i B hB
   simp only[eG,Out.mk.injEq]at hr
   obtain⟨rfl,rfl,rfl,_⟩:=hr
   obtain⟨d,cs,lo,hi,hm,_,_,_,hs,_⟩:=x.live b B hB
   exact⟨rfl,rfl,d,hm,hs,B,hB,rfl⟩
  ·cases hr
 ·cases hr
theorem getElem?_modify_ne{α:Type}(a:Array α)(f:α->α){i j:Nat}(h:i≠j):(a.modify i f)[j]? =a[j]? :=by
 rw[J',if_neg h]
theorem adL{P:Program}{m:Mp}{base:Nat}{h h1:H}{w:World}{b k n n1:Nat}{v v':Value}{L:List En}(x:WR P m base h w.heap)(hr:wr b k v h n=some ⟨(),h1,n1,L⟩)(hv:VR m v v'){d:Ds}(hd:m b=some d):
 n1=n∧(w.cell? ⟨d.bE,d.sh+k,none⟩).isSome=true∧w.frozen? ⟨d.bE,d.sh+k,none⟩=false∧Ev.one v'=true∧base<=d.bE∧WR P m base h1 (w.setCell ⟨d.bE,d.sh+k,none⟩ v').heap:=by
 unfold wr at hr
 split at hr
 ·split at hr
  ·rename_i B hB
   split at hr
   ·rename_i hc
    simp only[cj,decide_eq_true_eq]at hc
    obtain⟨⟨oh,hk⟩,A7⟩:=hc
    simp only[eG,Out.mk.injEq]at hr
    obtain⟨_,rfl,rfl,_⟩:=hr
    obtain⟨d0,cs,lo,hi,hm,hg,dS,hlen,adM,ho,hc⟩:=x.live b B hB
    rw[hd]at hm;cases hm
    obtain⟨qm,vV,ij⟩:=ho oh
    have bM:d.sh+k<cs.size:=by omega
    have qZ:(w.setCell ⟨d.bE,d.sh+k,none⟩ v').heap[d.bE]? =some (.cells (cs.setIfInBounds (d.sh+k) v') d.el (lo,hi)):=by
     simp only[World.setCell,J',if_true,hg]
     simp
    refine⟨rfl,by rw[A8 w _ _ hg];simp[bM], ?_,by rw[hv.one];exact A7,vV, ?_⟩
    ·unfold World.frozen?
     simp only[hg]
     have:=ij (d.sh+k) (by omega)
     simp only[Bool.and_eq_false_iff,decide_eq_false_iff_not]
     omega
    ·constructor
     ·intro b2 B2 cF
      rw[C7 hB v b2 0]at cF
      by_cases e:b2=b
      ·subst e
       rw[if_pos rfl]at cF
       cases cF
       refine⟨d,_,lo,hi,hd,qZ,by simpa using dS,by simpa using hlen,adM,fun _=>⟨qm,vV,ij⟩,fun j u hu=> ?_⟩
       by_cases e2:k=j
       ·subst e2
        simp[hk]at hu
        subst hu
        exact⟨v',by simp[bM],hv⟩
       ·rw[aqJ e2]at hu
        obtain⟨u',uD,hr⟩:=hc j u hu
        exact⟨u',by rw[acZ (by omega)];exact uD,hr⟩
      ·rw[if_neg e]at cF
       obtain⟨d2,C9,KI,gT,fh,KJ,r⟩:=x.live b2 B2 cF
       have fC:d.bE≠d2.bE:=fun e3=>e (x.inj b2 b B2 B d2 d cF hB (.inr oh) fh hd e3.symm)
       refine⟨d2,C9,KI,gT,fh, ?_,r⟩
       rw[Below.heap_setCell w _ _ _ (Ne.symm fC)]
       exact KJ
     ·intro b2 b3 B2 B3 d2 d3 cF F0 uE
      have key:∀c C,(h.set b (some {B with cells:=B.cells.set k v})).get c=some C->∃C',h.get c=some C'∧C'.own=C.own:=by
       intro c C mo
       rw[C7 hB v c 0]at mo
       by_cases e:c=b
       ·subst e
        rw[if_pos rfl]at mo
        cases mo
        exact⟨B,hB,rfl⟩
       ·rw[if_neg e]at mo;exact⟨C,mo,rfl⟩
      obtain⟨C2,h2,g2⟩:=key b2 B2 cF
      obtain⟨C3,h3,g3⟩:=key b3 B3 F0
      exact x.inj b2 b3 C2 C3 d2 d3 h2 h3 (by rw[g2,g3];exact uE)
   ·cases hr
  ·cases hr
 ·cases hr
theorem Sl{P:Program}{α:Type}{w:World}{p:Addr}{v:Value}{k:Sem α}(h1:(w.cell? p).isSome=true)(h2:w.frozen? p=false)(h3:Ev.one v=true):(Sem.store .plain p v k).run P w=k.run P (w.setCell p v):=by
 obtain⟨u,hu⟩:=Option.isSome_iff_exists.1 h1
 cases v<;>first|(simp[Ev.one]at h3;done)|simp[AN,hu,h2]
theorem KK{P:Program}{m:Mp}{base:Nat}{b:Nat}{d:Ds}(hd:m b=some d):∀{vs dD:List Value} (_:bA m vs dD) {k i n n1:Nat} {h h1:H} {w:World} {L:List En} (o:Nat),o+i=d.sh+k->WR P m base h w.heap->fN b k vs h n=some ⟨(),h1,n1,L⟩->
 n1=n∧∃w',(storeCells ⟨d.bE,o,none⟩ dD i).run P w= .ok () w'∧WR P m base h1 w'.heap∧Below base w w':=by
 intro vs dD gI
 induction gI using bA.rec (motive_1:=fun _ _ _=>True)with
 |nil=>
  intro k i n n1 h h1 w L o _ x hr
  simp only[fN,M.ret,eG,Out.mk.injEq]at hr
  obtain⟨_,rfl,rfl,_⟩:=hr
  exact⟨rfl,w,rfl,x,vD _ _⟩
 |cons hv _ _ ih=>
  intro k i n n1 h h1 w L o ho x hr
  obtain⟨u,h2,n2,L1,L2,e2,e3,_⟩:=bind_some (m:=wr b k _) hr
  cases u
  obtain⟨rfl,c1,c2,c3,hb,x2⟩:=adL x e2 hv hd
  obtain⟨rfl,w',uF,x3,kZ⟩:=ih (i:=i+1) o (by omega) x2 e3
  refine⟨rfl,w', ?_,x3,((vD base w).setCell (p:=⟨d.bE,d.sh+k,none⟩) hb _).trans kZ⟩
  unfold storeCells
  rw[nm,ho]
  show(CM (store _ _) _).run P w=_
  unfold store
  simp only[CM]
  rw[Sl c1 c2 c3]
  exact uF
 |_=>trivial
theorem yn {P:Program} {m:Mp} {base:Nat} {h h1:H} {w:World} {n n1 r:Nat} {e:TypeId} {cs:List Value} {L:List En} (x:WR P m base h w.heap) (hr:dC e cs h n=some ⟨r,h1,n1,L⟩) (hf:jQ m n n1) (vV:base<=w.heap.size)
 {cs':Array Value} (hlen:cs.length<=cs'.size) (fI:∀(k:Nat) (v:Value),cs[k]? =some v->∃v',cs'[k]? =some v'∧VR m v v') {esz:Nat} (he:size? P e=some esz):
 r=n∧n1=n+1∧∃m',m' n=some ⟨w.heap.size,0,cs'.size,esz,e⟩∧c8 P m base n n1 w h1 m' (w.alloc (.cells cs' e)):=by
 unfold dC at hr
 split at hr
 ·rename_i hn
  simp only[eG,Out.mk.injEq]at hr
  obtain⟨rfl,rfl,rfl,_⟩:=hr
  have qn:m n=none:=hf n (an _) (by omega)
  have hle:Le m (fun b=>if b=n then some ⟨w.heap.size,0,cs'.size,esz,e⟩else m b):=by
   intro b d hb
   by_cases e:b=n
   ·subst e;rw[qn]at hb;cases hb
   ·simp[e,hb]
  refine⟨rfl,rfl,fun b=>if b=n then some ⟨w.heap.size,0,cs'.size,esz,e⟩else m b,by simp,hle,fun b hb=>by rw[if_neg (by omega)], ?_,(vD _ _).alloc vV _⟩
  constructor
  ·intro b B hb
   rw[H.kX _ _]at hb
   by_cases eb:b=n
   ·subst eb
    rw[if_pos rfl]at hb
    cases hb
    refine⟨_,cs',0,0,if_pos rfl, ?_,rfl,by simpa using hlen,he,fun _=>⟨rfl,vV,fun k _=>by omega⟩,fun k v hk=> ?_⟩
    ·exact heap_alloc_new w _
    ·obtain⟨v',eI,hr⟩:=fI k v hk
     exact⟨v',by simpa using eI,hr.mono hle⟩
   ·rw[if_neg eb]at hb
    obtain⟨d,C9,lo,hi,hm,hg,h1,h2,dS,h3,h4⟩:=x.live b B hb
    refine⟨d,C9,lo,hi,by simp[eb,hm], ?_,h1,h2,dS,h3,fun k v hk=> ?_⟩
    ·rw[Below.heap_alloc w _ _ (Array.getElem?_eq_some_iff.1 hg).1];exact hg
    ·obtain⟨v',eI,hr⟩:=h4 k v hk
     exact⟨v',eI,hr.mono hle⟩
  ·intro b b' B B' d d' hb bW uE hm fO he
   rw[H.kX _ _]at hb bW
   by_cases eb:b=n
   ·by_cases Da:b'=n
    ·rw[eb,Da]
    ·rw[if_neg Da]at bW fO
     rw[if_pos eb]at hm
     obtain⟨d2,h2,bM⟩:=x.lt bW
     rw[fO]at h2
     cases h2;cases hm
     simp at he
     omega
   ·rw[if_neg eb]at hb hm
    by_cases Da:b'=n
    ·rw[if_pos Da]at fO
     obtain⟨d2,h2,bM⟩:=x.lt hb
     rw[hm]at h2
     cases h2;cases fO
     simp at he
     omega
    ·rw[if_neg Da]at bW fO
     exact x.inj b b' B B' d d' hb bW uE hm fO he
 ·cases hr
theorem WR.kill{P:Program}{m:Mp}{base:Nat}{h:H}{hp:Array Obj}(x:WR P m base h hp){b:Nat}{B:AB}(hB:h.get b=some B):WR P m base (h.set b none) hp:=by
 have key:∀c C,(h.set b none).get c=some C->c≠b∧h.get c=some C:=by
  intro c C hc
  rw[H.kX _ _]at hc
  by_cases e:c=b
  ·rw[if_pos e]at hc;cases hc
  ·rw[if_neg e]at hc;exact⟨e,hc⟩
 exact⟨fun c C hc=>x.live c C (key c C hc).2,fun c c' C C' d d' hc Ba=>x.inj c c' C C' d d' (key c C hc).2 (key c' C' Ba).2⟩
def Gl(P:Program)(m:Mp):Prop:=∀g,g<P.globals.size->∃d,m g=some d∧d.bE=g∧d.sh=0
theorem Gl.mono{P:Program}{m m':Mp}(g:Gl P m)(h:Le m m'):Gl P m':=fun i hi=>let⟨d,h1,h2⟩:=g i hi;⟨d,h _ _ h1,h2⟩
structure SR (m:Mp) (nt:Nat) (s:S) (a:Act):Prop where
 df:a.defers=[]
 sz:a.tmps.size=nt
 at_:∀t,VR m (s.get t) (a.tmps.getD t undef)
theorem SR.mono{m m':Mp}{nt:Nat}{s:S}{a:Act}(x:SR m nt s a)(h:Le m m'):SR m' nt s a:=⟨x.df,x.sz,fun t=>(x.at_ t).mono h⟩
theorem VR.uv{m:Mp}{v:Value}(h:Ev.uv v=true):VR m v v:=by
 unfold Ev.uv at h
 split at h
 ·exact .bool _
 ·exact .int _ _
 ·exact .float _ _
 ·exact .string _
 ·exact .C8
 ·exact .nilFunc
 ·exact .o0 _ _ (by simpa using h)
 ·cases h
theorem bA.clean{m:Mp}:∀{l:List Value},(∀v∈l,Ev.uv v=true)->bA m l l
 |[],_=> .nil
 |v::l,h=> .cons (VR.uv (h v (by simp))) (bA.clean fun u hu=>h u (by simp[hu]))
theorem VR.clean{m:Mp}{v:Value}(h:Ev.clean v=true):VR m v v:=by
 unfold Ev.clean at h
 split at h
 ·exact .agg (bA.clean fun u hu=>by rw[xW]at h;exact h u (Array.mem_toList_iff.1 hu))
 ·exact .tuple (bA.clean fun u hu=>by rw[xW]at h;exact h u (Array.mem_toList_iff.1 hu))
 ·exact VR.uv h
theorem Sm{P:Program}{m:Mp}{nt:Nat}{s:S}{a:Act}(g:Gl P m)(x:SR m nt s a){y:Operand}(h:FV P y=true):VR m (ev s y) (a.eval y):=by
 cases y with
 |tmp t=>exact x.at_ t
 |const v=>exact VR.clean h
 |global i=>
  obtain⟨d,h1,h2,h3⟩:=g i (by simpa[FV]using h)
  have:=VR.ptr (m:=m) (off:=0) h1
  rw[h2,h3]at this
  exact this
 |func f=>exact .func _ .nil .nil
theorem adN{m:Mp}{nt:Nat}{s:S}{a:Act}(x:SR m nt s a)(ops:Array Oper)(j:Nat):jh ops s j=yielded ops a.tmps j:=by
 unfold jh yielded
 cases ho:(ops[j]?).bind (·.dst)with
 |none=>rfl
 |some t=>
  have hr:=x.at_ t
  simp only[Rk]
  rw[sB]at hr
  cases hg:a.tmps[t]? with
  |none=>
   rw[hg]at hr
   generalize s.get t=v at hr
   cases hr;rfl
  |some u=>
   rw[hg]at hr
   simp only[Option.getD_some]at hr
   generalize s.get t=v at hr
   cases hr<;>rfl
theorem S.sR(s:S)(d:Nat)(v:Value)(t:Nat)(hd:d<1023):(s.put d v).get t=if t=d then v else s.get t:=by
 unfold S.get S.put
 rw[Tr.kX 10 s d (some v) t (by omega)]
 split<;>rfl
theorem Sn{m:Mp}{nt:Nat}{s s1:S}{a:Act}{dst:Option Tmp}{v v':Value}(x:SR m nt s a)(hv:VR m v v')(h:mL nt s dst v=some s1):SR m nt s1 (a.put dst v'):=by
 unfold mL at h
 cases dst with
 |none=>cases h;exact x
 |some d=>
  simp only at h
  split at h
  ·rename_i hc
   simp only[cj,decide_eq_true_eq]at hc
   cases h
   refine⟨x.df,by simp[aqN,x.sz],fun t=> ?_⟩
   rw[S.sR _ _ _ _ hc.2]
   simp only[aqN]
   by_cases e:t=d
   ·subst e
    rw[if_pos rfl]
    have:t<a.tmps.size:=by rw[x.sz];exact hc.1
    simpa[this]using hv
   ·rw[if_neg e]
    have:=x.at_ t
    simpa[acZ (Ne.symm e),sB]using this
  ·cases h
inductive NR (m:Mp):Nx->Next->Prop
 |val {v v':Value} (h:VR m v v'):NR m (.val v) (.value v')
 |skip:NR m (.val undef) .skip
 |call {f:FuncId} {args eR:Array Value} (h:bA m args.toList eR.toList):NR m (.call f args) (.enter f eR)
def yo(P:Program)(base:Nat):Prop:=∀(ρ ρ':Operand->Value) (o:Oper) (h:H) (n:Nat) (r:Nx) (h1:H) (n1:Nat) (L:List En) (m:Mp) (w:World),
 cI P ρ o h n=some ⟨r,h1,n1,L⟩->(∀y∈o.op.operands,VR m (ρ y) (ρ' y))->WR P m base h w.heap->base<=w.heap.size->jQ m n n1->
 ∃m' w' R,(execOp ρ' o).run P w= .ok R w'∧c8 P m base n n1 w h1 m' w'∧NR m' r R
def Bb(P:Program)(base:Nat)(rec:FuncId->Array Value->M Value):Prop:=∀(f:FuncId) (args:Array Value) (h:H) (n:Nat) (v:Value) (h1:H) (n1:Nat) (L:List En) (m:Mp) (w:World) (eR:Array Value),
 rec f args h n=some ⟨v,h1,n1,L⟩->WR P m base h w.heap->base<=w.heap.size->bA m args.toList eR.toList->jQ m n n1->Gl P m->
 Calls P f eR w fun e w'=>∃m' v',e= .returned v'∧c8 P m base n n1 w h1 m' w'∧VR m' v v'
section
variable {P:Program} {base:Nat} {rec:FuncId->Array Value->M Value} {nt:Nat} {ops:Array Oper} {Q:Exit->Act->World->Prop}
theorem Below.le{B:Nat}{w w':World}(b:Below B w w')(h:B<=w.heap.size):B<=w'.heap.size:=lM h b.size
theorem So (bN:yo P base) (cV:Bb P base rec) (jt:∀f a,Loc (rec f a)) {i:Nat} {o:Oper} (hi:ops[i]? =some o) (cG:A4 P o=true) {m:Mp} {s:S} {a:Act} {w:World} {h h1:H} {n n1:Nat} {L:List En} {v:Value}
 (x:WR P m base h w.heap) (hb:base<=w.heap.size) (g:Gl P m) (hs:SR m nt s a) (hr:ig P rec ops o s h n=some ⟨v,h1,n1,L⟩) (hf:jQ m n n1) {K:Act->World->Prop}
 (hK:∀m' w' v',c8 P m base n n1 w h1 m' w'->VR m' v v'->K (a.put o.dst v') w'):wpOp P ops Q i K a w:=by
 have hw:iA o (jh ops s)=iA o (yielded ops a.tmps):=by
  congr 1;funext j;exact adN hs ops j
 unfold wpOp
 simp only[hi]
 unfold ig at hr
 rw[hw]at hr
 by_cases KL:iA o (yielded ops a.tmps)=true
 ·rw[if_pos KL]at hr⊢
  obtain⟨r,h2,n2,L1,L2,e1,e2,rfl⟩:=bind_some hr
  have A:=Loc.cI P (ev s) o h n r h2 n2 L1 e1
  have cJ:n2<=n1:=by
   cases r with
   |val u=>obtain⟨_,_,e⟩:=bY e2;omega
   |call f args=>exact(jt f args _ _ _ _ _ _ e2).le
  obtain⟨m',w',R,kq,yp,hnr⟩:=bN (ev s) a.eval o h n r h2 n2 L1 m w e1 (fun y hy=>Sm g hs (by
   unfold A4 at cG
   rw[xW]at cG
   exact cG y hy)) x hb (hf.first cJ)
  left
  unfold Oper.wp
  rw[kq]
  cases hnr with
  |val hv=>
   obtain⟨rfl,rfl,rfl⟩:=bY e2
   exact hK m' w' _ yp hv
  |skip=>
   obtain⟨rfl,rfl,rfl⟩:=bY e2
   exact hK m' w' _ yp VR.undef
  |call dM=>
   rename_i f args eR
   refine(cV f args h2 n2 v h1 n1 L2 m' w' eR e2 yp.wr (Below.le yp.below hb) dM (hf.after A.le yp) (g.mono yp.le)).mono ?_
   rintro e qk ⟨qj,v',rfl,kt,hv⟩
   exact hK qj qk v' (yp.trans A.le cJ kt) hv
 ·have hwf:iA o (yielded ops a.tmps)=false:=by simpa using KL
  rw[if_neg KL]at hr⊢
  obtain⟨rfl,rfl,rfl⟩:=bY hr
  exact hK m w undef (c8.refl x) VR.undef
theorem all_congr{α:Type}{l:Array α}{f g:α->Bool}(h:∀x∈l,f x=g x):l.all f=l.all g:=by
 rw[Bool.eq_iff_iff,xW,xW]
 exact⟨fun a x hx=>by rw[<-h x hx];exact a x hx,fun a x hx=>by rw[h x hx];exact a x hx⟩
theorem adO{ρ ρ':Operand->Value}(o:Oper)(h:∀x∈o.op.operands,ρ x=ρ' x):cI P ρ o=cI P ρ' o:=by
 by_cases hs:∃cs b,o.op= .select cs b
 ·obtain⟨cs,b,hs⟩:=hs
  unfold cI
  rw[hs]
 have hex:execOp ρ o=execOp ρ' o:=execOp_congr o (fun cs b hh=>hs ⟨cs,b,hh⟩) h
 have dX:iQ P ρ o=iQ P ρ' o:=by
  unfold iQ
  rw[hex,all_congr fun x hx=>by rw[h x hx]]
 have Sp:∀ps:Array (Nat×Operand),(∀x∈(ps.toList.map (·.2)).toArray,ρ x=ρ' x)->(ps.toList.map fun(i,x)=>(i,ρ x))=(ps.toList.map fun(i,x)=>(i,ρ' x)):=fun ps hp=>
  List.map_congr_left fun p hm=>by
   obtain⟨i,x⟩:=p
   simp only[hp x (by simpa using ⟨i,by simpa using hm⟩)]
 unfold cI
 cases bN:o.op<;>rw[bN]at h<;>simp only[Op.operands]at h<;>simp only
 case build t ps=>rw[Sp ps h]
 case buildSlice t n ps=>rw[Sp ps h]
 case makeFunc fn first captured=>
  rw[ac0 (xs:=first) fun x hx=>h x (by simp[hx]),ac0 (xs:=captured) fun x hx=>h x (by simp[hx])]
 case call c=>
  have dM:c.args.map ρ=c.args.map ρ':=ac0 fun x hx=>h x (by simp[AO,hx])
  rw[dM]
  unfold mK
  cases hc:c.callee with
  |value f=>have hf:ρ f=ρ' f:=h f (by simp[AO,hc]);simp only[hf]
  |invoke r m=>rfl
  |builtin b=>cases b<;>simp only[dX]
 case slice t x lo hi mx=>
  rw[dX,h x (by simp)]
  cases lo<;>cases hi<;>cases mx<;>simp_all
 all_goals (first|rfl|(simp_all;done)|(rw[dX];simp_all;done))
theorem adP{s s':S}{y:Operand}(h:∀t,y= .tmp t->s.get t=s'.get t):ev s y=ev s' y:=by
 cases y with
 |tmp t=>exact h t rfl
 |_=>rfl
theorem adQ{o:Oper}{s s':S}(h:∀t∈o.looksAt ops,s.get t=s'.get t):ig P rec ops o s=ig P rec ops o s':=by
 have h1:cI P (ev s) o=cI P (ev s') o:=adO o fun x hx=>adP fun t ht=>h t (by
  unfold aqO
  exact List.mem_append_left _ (List.mem_filterMap.2 ⟨x,by simpa using hx,by rw[ht]⟩))
 have h2:iA o (jh ops s)=iA o (jh ops s'):=by
  unfold iA
  cases hg:o.guard with
  |none=>rfl
  |some gw=>
   obtain⟨g,want⟩:=gw
   have:jh ops s g=jh ops s' g:=by
    unfold jh
    cases ht:(ops[g]?).bind (·.dst)with
    |none=>rfl
    |some t=>simp only[h t (by unfold aqO;exact List.mem_append_right _ (by simp[hg,ht]))]
   simp only[this]
 unfold ig
 rw[h1,h2]
end
structure KM (P:Program) (rec:FuncId->Array Value->M Value) (nt:Nat) (ops:Array Oper) (l:List Oper) (s:Nat->S) (h:Nat->H) (n:Nat->Nat) (v:Nat->Value) (L:Nat->List En):Prop where
 step:∀i o,l[i]? =some o->inside (ig P rec ops o (s i)) (h i) (n i)=some ⟨v i,h (i+1),n (i+1),L i⟩
 put:∀i o,l[i]? =some o->mL nt (s i) o.dst (v i)=some (s (i+1))
theorem adR{P:Program}{rec:FuncId->Array Value->M Value}{nt:Nat}{ops:Array Oper}:∀(l:List Oper) (s0:S) (h0:H) (n0:Nat) (y:S×List Tk) (h1:H) (n1:Nat) (L0:List En),
 kp P rec nt ops l s0 h0 n0=some ⟨y,h1,n1,L0⟩->∃s h n v L,KM P rec nt ops l s h n v L∧s 0=s0∧h 0=h0∧n 0=n0∧s l.length=y.1∧h l.length=h1∧n l.length=n1∧y.2.length=l.length∧∀i,i<l.length->y.2[i]? =some ⟨n i,n (i+1),L i⟩:=by
 intro l
 induction l with
 |nil=>
  intro s0 h0 n0 y h1 n1 L0 hr
  obtain⟨rfl,rfl,rfl⟩:=bY hr
  exact⟨fun _=>s0,fun _=>h1,fun _=>n1,fun _=>undef,fun _=>[],⟨fun i o h=>by simp at h,fun i o h=>by simp at h⟩,rfl,rfl,rfl,rfl,rfl,rfl,rfl,fun i hi=>by simp at hi⟩
 |cons o r ih=>
  intro s0 h0 n0 y h1 n1 L0 hr
  obtain⟨x,h2,n2,L1,L2,e1,e2,_⟩:=bind_some (m:=aG (inside (ig P rec ops o s0))) hr
  unfold aG at e1
  split at e1
  ·rename_i v0 qi A5 Li ei
   simp only[eG,Out.mk.injEq]at e1
   obtain⟨rfl,rfl,rfl,rfl⟩:=e1
   obtain⟨s1,h3,n3,L3,L4,e3,e4,_⟩:=bind_some (m:=M.lift _) e2
   obtain⟨hP,rfl,rfl⟩:=oZ e3
   obtain⟨y2,h4,n4,L5,L6,e5,e6,_⟩:=bind_some (m:=kp P rec nt ops r s1) e4
   obtain⟨rfl,rfl,rfl⟩:=bY e6
   obtain⟨s,h,n,v,L,C,a1,a2,a3,a4,a5,a6,a7,a8⟩:=ih _ _ _ _ _ _ _ e5
   refine⟨fun i=>if i=0 then s0 else s (i-1),fun i=>if i=0 then h0 else h (i-1),fun i=>if i=0 then n0 else n (i-1),fun i=>if i=0 then v0 else v (i-1),fun i=>if i=0 then Li else L (i-1),⟨fun i o' ho=> ?_,fun i o' ho=> ?_⟩,rfl,rfl,rfl,by simpa using a4,by simpa using a5,by simpa using a6,by simp[a7],fun i hi=> ?_⟩
   ·cases i with
    |zero=>simp at ho;subst ho;simpa[a2,a3]using ei
    |succ i=>simpa using C.step i o' (by simpa using ho)
   ·cases i with
    |zero=>simp at ho;subst ho;simpa[a1]using hP
    |succ i=>simpa using C.put i o' (by simpa using ho)
   ·cases i with
    |zero=>simp[a3]
    |succ i=>simpa using a8 i (by simpa using hi)
  ·cases e1
theorem KO{α:Type}{m:M α}{h h1:H}{n n1:Nat}{a:α}{L:List En}(hr:inside m h n=some ⟨a,h1,n1,L⟩):∃L',m h n=some ⟨a,h1,n1,L'⟩:=by
 unfold inside at hr
 split at hr
 ·rename_i a' fS qY L' e
  simp only[eG,Out.mk.injEq]at hr
  obtain⟨rfl,rfl,rfl,_⟩:=hr
  exact⟨L',e⟩
 ·cases hr
section
variable {P:Program} {base:Nat} {rec:FuncId->Array Value->M Value} {nt:Nat} {ops:Array Oper} {Q:Exit->Act->World->Prop}
theorem adS (bN:yo P base) (cV:Bb P base rec) (jt:∀f a,Loc (rec f a)) (cG:∀o∈ops,A4 P o=true) {s:Nat->S} {h:Nat->H} {n:Nat->Nat} {v:Nat->Value} {L:Nat->List En}
 (C:KM P rec nt ops ops.toList s h n v L) {m0:Mp} {w0:World} (hf:jQ m0 (n 0) (n ops.size)) (yq:∀i,i<ops.size->n i<=n (i+1)) (hb:base<=w0.heap.size) (g:Gl P m0) (R:Act->World->Prop)
 (hR:∀m' a' w',c8 P m0 base (n 0) (n ops.size) w0 (h ops.size) m' w'->SR m' nt (s ops.size) a'->Q .normal a' w'):
 ∀(k i:Nat),i+k=ops.size->∀(m:Mp) (a:Act) (w:World),c8 P m0 base (n 0) (n i) w0 (h i) m w->SR m nt (s i) a->wpOps P ops Q (List.range' i k) a w:=by
 have fh:∀i j,i<=j->j<=ops.size->n i<=n j:=by
  intro i j o4
  induction o4 with
  |refl=>intro _;exact an _
  |step o4 ih=>intro hj;exact lM (ih (by omega)) (yq _ (by omega))
 intro k
 induction k with
 |zero=>
  intro i hik m a w hp hs
  have:i=ops.size:=by omega
  subst this
  exact hR m a w hp hs
 |succ k ih=>
  intro i hik m a w hp hs
  have hi:i<ops.size:=by omega
  rw[List.range'_succ,wpOps_cons]
  have hoi:ops[i]? =some ops[i]:=by simp[hi]
  obtain⟨L',hv⟩:=KO (C.step i ops[i] (by simp[hi]))
  have hP:=C.put i ops[i] (by simp[hi])
  refine So (nt:=nt) bN cV jt hoi (cG _ (by simp)) hp.wr (Below.le hp.below hb) (g.mono hp.le) hs hv (fun b h1 h2=> ?_) fun m' w' v' kt eI=> ?_
  ·have q1:=fh 0 i (by omega) (by omega)
   have q2:=fh (i+1) ops.size (by omega) (by omega)
   rw[hp.out b (by omega)]
   exact hf b (by omega) (by omega)
  ·exact ih (i+1) (by omega) m' _ w' (hp.trans (fh 0 i (by omega) (by omega)) (yq i hi) kt) (Sn (hs.mono kt.le) eI hP)
end
def Good(ops:Array Oper)(acc:List Nat):Prop:=∀k,k<acc.length->∀j,(acc.getD k 0).testBit j=true->∃o,ops[k]? =some o∧∃e∈o.after,sA .any e=true∧(j=e.on∨(acc.getD e.on 0).testBit j=true)
theorem KP{l l':List Nat}{k:Nat}(h:k<l.length):(l++l').getD k 0=l.getD k 0:=by
 simp[bC,List.getElem?_append_left h]
theorem adT(acc:List Nat)(j:Nat):∀(es:List Edge) (s:Nat),(es.foldl (fun s e=>if sA .any e then s|||2^e.on|||acc.getD e.on 0 else s) s).testBit j=true->
 s.testBit j=true∨∃e∈es,sA .any e=true∧(j=e.on∨(acc.getD e.on 0).testBit j=true):=by
 intro es
 induction es with
 |nil=>intro s h;exact .inl h
 |cons e es ih=>
  intro s h
  simp only[ac1]at h
  rcases ih _ h with h1|⟨e',he',h1⟩
  ·by_cases hb:sA .any e=true
   ·rw[if_pos hb]at h1
    simp only[Nat.testBit_or,pY]at h1
    rcases h1 with (h1|h1)|h1
    ·exact .inl h1
    ·rw[Nat.testBit_two_pow]at h1
     exact .inr ⟨e,by simp,hb,.inl (by simpa using Eq.symm (of_decide_eq_true h1))⟩
    ·exact .inr ⟨e,by simp,hb,.inr h1⟩
   ·rw[if_neg hb]at h1;exact .inl h1
  ·exact .inr ⟨e',by simp[he'],h1⟩
theorem adU(ops:Array Oper):∀(l:List Oper) (acc:List Nat),(∀i o,l[i]? =some o->ops[acc.length+i]? =some o)->Good ops acc->Good ops (od l acc)∧(od l acc).length=acc.length+l.length:=by
 intro l
 induction l with
 |nil=>intro acc _ h;exact⟨h,by simp[od]⟩
 |cons o r ih=>
  intro acc hl h
  unfold od
  generalize hB:(o.after.toList.foldl (fun s e=>if sA .any e then s|||2^e.on|||acc.getD e.on 0 else s) 0)=B
  have:=ih (acc++[B]) (fun i o' o7=>by
   have:=hl (i+1) o' (by simpa using o7)
   simp only[List.length_append,List.length_singleton]
   rw[show acc.length+1+i=acc.length+(i+1) by omega]
   exact this) ?_
  ·exact⟨this.1,by rw[this.2];simp;omega⟩
  ·intro k hk j hj
   by_cases om:k<acc.length
   ·rw[KP om]at hj
    obtain⟨o',h1,e,h2,h3,h4⟩:=h k om j hj
    refine⟨o',h1,e,h2,h3, ?_⟩
    rcases h4 with h4|h4
    ·exact .inl h4
    ·refine .inr ?_
     by_cases he:e.on<acc.length
     ·rw[KP he];exact h4
     ·rw[bC,sC (by omega)]at h4
      simp at h4
   ·have hk3:k=acc.length:=by simp at hk;omega
    subst hk3
    have F1:(acc++[B]).getD acc.length 0=B:=by simp[bC]
    rw[F1,<-hB]at hj
    rcases adT acc j _ _ hj with h1|⟨e,he,hb,h1⟩
    ·simp at h1
    ·refine⟨o,by simpa using hl 0 o rfl,e,by simpa using he,hb, ?_⟩
     rcases h1 with h1|h1
     ·exact .inl h1
     ·refine .inr ?_
      by_cases he:e.on<acc.length
      ·rw[KP he];exact h1
      ·rw[bC,sC (by omega)]at h1
       simp at h1
theorem Sq {ops:Array Oper} {dH:List Nat} (hg:Good ops dH) (hlen:dH.length=ops.size) (he:∀k o,ops[k]? =some o->∀e∈o.after,sA .any e=true->e.on<k) {D:Nat->Prop}
 (hc:∀k o,D k->ops[k]? =some o->∀e∈o.after,sA .any e=true->D e.on):∀(k:Nat),(∀o,ops[k]? =some o->∀e∈o.after,sA .any e=true->D e.on)->∀j,(dH.getD k 0).testBit j=true->D j:=by
 intro k
 induction k using Rl with
 |_ k ih=>
  intro hk j hj
  by_cases bM:k<dH.length
  ·obtain⟨o,ho,e,vW,Sr,h1⟩:=hg k bM j hj
   have hd:=hk o ho e vW Sr
   rcases h1 with rfl|h1
   ·exact hd
   ·exact ih e.on (he k o ho e vW Sr) (fun o' o7=>hc e.on o' hd o7) j h1
  ·rw[bC,sC (by omega)]at hj
   simp at hj
theorem adV{ops:Array Oper}{dH:List Nat}:∀(l:List (Nat×Tk)),sN ops dH l=true->∀(p q:Nat) (x y:Nat×Tk),p<q->l[p]? =some x->l[q]? =some y->(dH.getD y.1 0).testBit x.1=true∨(x.2.cA y.2=false∧sM ops (ops.getD x.1 default) (ops.getD y.1 default)=false):=by
 intro l
 induction l with
 |nil=>intro _ p q x y _ hp;simp at hp
 |cons a l ih=>
  intro h p q x y fi hp hq
  obtain⟨ja,ta⟩:=a
  unfold sN at h
  simp only[cj]at h
  cases q with
  |zero=>omega
  |succ q=>
   cases p with
   |zero=>
    simp at hp
    subst hp
    have:=List.all_eq_true.1 h.1 y (aqP (by simpa using hq))
    simpa using this
   |succ p=>exact ih h.2 p q x y (by omega) (by simpa using hp) (by simpa using hq)
theorem KQ:∀(ts:List Tk) (b i:Nat),(tagged b ts)[i]? =(ts[i]?).map fun t=>(b+i,t):=by
 intro ts
 induction ts with
 |nil=>intro b i;simp[tagged]
 |cons t ts ih=>
  intro b i
  cases i with
  |zero=>simp[tagged]
  |succ i=>
   simp only[tagged,List.getElem?_cons_succ,ih]
   congr 1
   funext x
   rw[show b+1+i=b+(i+1) by omega]
theorem Ss{a b:Tk}(h:a.cA b=false):
 (∀x∈a.log,∀y∈b.log,(x.wr=true∨y.wr=true)->x.b=y.b->(x.k=y.k∨x.k=none∨y.k=none)->False)∧(∀x∈a.log,¬(b.n<=x.b∧x.b<b.n1))∧(∀x∈b.log,¬(a.n<=x.b∧x.b<a.n1)):=by
 unfold Tk.cA at h
 simp only[Bool.or_eq_false_iff]at h
 obtain⟨⟨⟨h1,h2⟩,h3⟩,h4⟩:=h
 refine⟨fun x hx y hy hw hb hk=> ?_,fun x hx hi=> ?_,fun x hx hi=> ?_⟩
 ·have hm:x.meets y=true∧y.meets x=true:=by
   unfold En.meets
   rcases hk with hk|hk|hk<;>simp[hb,hk]
  rcases hw with hw|hw
  ·have:=(List.any_eq_false.1 h1) x hx
   simp only[hw,xX]at this
   exact(List.any_eq_false.1 (by simpa using this)) y hy hm.1
  ·have:=(List.any_eq_false.1 h2) y hy
   simp only[hw,xX]at this
   exact(List.any_eq_false.1 (by simpa using this)) x hx hm.2
 ·have:=(List.any_eq_false.1 h3) x hx
  simp at this
  omega
 ·have:=(List.any_eq_false.1 h4) x hx
  simp at this
  omega
theorem or3{a b:Option Nat}(h:a=b∨a=none∨b=none):b=a∨b=none∨a=none:=by
 rcases h with h|h|h
 ·exact .inl h.symm
 ·exact .inr (.inr h)
 ·exact .inr (.inl h)
section
variable {P:Program} {base:Nat} {rec:FuncId->Array Value->M Value} {nt:Nat} {ops:Array Oper} {Q:Exit->Act->World->Prop}
def Wr(n:Nat->Nat)(L:Nat->List En)(j b c:Nat):Prop:=wrote (L j) b c∨(n j<=b∧b<n (j+1))
def Dn(listed:Array Bool)(j:Nat):Prop:=listed.getD j false=true
structure Inv (P:Program) (base nt:Nat) (ops:Array Oper) (s:Nat->S) (h:Nat->H) (n:Nat->Nat) (L:Nat->List En) (m0:Mp) (w0:World) (listed:Array Bool) (m:Mp) (sD:S) (hD:H) (a:Act) (w:World):Prop where
 sz:listed.size=ops.size
 closed:∀k o,Dn listed k->ops[k]? =some o->∀e∈o.after,sA .any e=true->Dn listed e.on
 mem:∀b c i,i<=ops.size->(∀j,j<ops.size->Wr n L j b c->(Dn listed j↔j<i))->eH hD (h i) b c
 slot:∀t i,i<=ops.size->(∀j o,ops[j]? =some o->o.dst=some t->(Dn listed j↔j<i))->sD.get t=(s i).get t
 le:Le m0 m
 out:∀b,(∀j,j<ops.size->Dn listed j->¬(n j<=b∧b<n (j+1)))->m b=m0 b
 wr:WR P m base hD w.heap
 below:Below base w0 w
 sr:SR m nt sD a
theorem uG{listed:Array Bool}{k j:Nat}(hk:k<listed.size):Dn (listed.setIfInBounds k true) j↔(j=k∨Dn listed j):=by
 unfold Dn
 by_cases e:j=k
 ·subst e;simp[hk]
 ·simp[e,acZ (Ne.symm e),sB]
theorem adW{listed:Array Bool}(he:∀k o,ops[k]? =some o->∀e∈o.after,sA .any e=true->e.on<k)(dS:listed.size=ops.size)(hr:Rm .any ops listed=[]):∀k,k<ops.size->Dn listed k:=by
 intro k
 induction k using Rl with
 |_ k ih=>
  intro hk
  cases hd:listed.getD k true with
  |true=>
   unfold Dn
   simpa[sB,dS▸hk,Array.getElem?_eq_getElem (dS▸hk:k<listed.size)]using hd
  |false=>
   have:k∈Rm .any ops listed:=mem_ready.2 ⟨hd,ops[k],by simp[hk],fun e hm hb=>ih e.on (he k ops[k] (by simp[hk]) e hm hb) (by
    have:=he k ops[k] (by simp[hk]) e hm hb
    omega)⟩
   rw[hr]at this
   cases this
theorem adX (bN:yo P base) (cV:Bb P base rec) (jt:∀f a,Loc (rec f a)) (cG:∀o∈ops,A4 P o=true) {s:Nat->S} {h:Nat->H} {n:Nat->Nat} {v:Nat->Value} {L:Nat->List En}
 (C:KM P rec nt ops ops.toList s h n v L) (he:∀k o,ops[k]? =some o->∀e∈o.after,sA .any e=true->e.on<k)
 {dH:List Nat} (hg:Good ops dH) (hlen:dH.length=ops.size)
 (Su:∀j k,j<k->k<ops.size->(dH.getD k 0).testBit j=true∨((⟨n j,n (j+1),L j⟩:Tk).cA ⟨n k,n (k+1),L k⟩=false∧sM ops (ops.getD j default) (ops.getD k default)=false))
 {m0:Mp} {w0:World} (hf:jQ m0 (n 0) (n ops.size)) (yq:∀i,i<ops.size->n i<=n (i+1)) (hb:base<=w0.heap.size) (g:Gl P m0)
 (hR:∀m' a' w',c8 P m0 base (n 0) (n ops.size) w0 (h ops.size) m' w'->SR m' nt (s ops.size) a'->Q .normal a' w'):
 ∀(fuel:Nat) (listed:Array Bool) (m:Mp) (sD:S) (hD:H) (a:Act) (w:World),listed.toList.countP (fun b=> !b)=fuel->Inv P base nt ops s h n L m0 w0 listed m sD hD a w->wpAny P .any ops Q fuel listed a w:=by
 have fh:∀i j,i<=j->j<=ops.size->n i<=n j:=by
  intro i j o4
  induction o4 with
  |refl=>intro _;exact an _
  |step o4 ih=>intro hj;exact lM (ih (by omega)) (yq _ (by omega))
 have Sv:∀k o,ops[k]? =some o->C5 (inside (ig P rec ops o (s k))) (h k) (n k) (v k) (h (k+1)) (n (k+1)) (L k):=fun k o ho=>
  Loc.inside (Loc.ig jt ops o (s k)) _ _ _ _ _ _ (C.step k o (by simpa using ho))
 have adY:∀b c i j,i<=j->j<=ops.size->(∀p,i<=p->p<j->¬Wr n L p b c)->eH (h j) (h i) b c:=by
  intro b c i j o4
  induction o4 with
  |refl=>intro _ _;exact eH.refl _ _ _
  |@step j o4 ih=>
   intro hj hp
   have o8:j<ops.size:=by omega
   have A:=Sv j ops[j] (by simp[o8])
   have hw:=hp j o4 (by omega)
   exact(A.frame b c (fun x=>hw (.inl x)) (fun x=>hw (.inr x))).trans (ih (by omega) fun p h1 h2=>hp p h1 (by omega))
 have adZ:∀t i j,i<=j->j<=ops.size->(∀p o,i<=p->p<j->ops[p]? =some o->o.dst≠some t)->(s j).get t=(s i).get t:=by
  intro t i j o4
  induction o4 with
  |refl=>intro _ _;rfl
  |@step j o4 ih=>
   intro hj hp
   have o8:j<ops.size:=by omega
   have hP:=C.put j ops[j] (by simp[o8])
   have hd:=hp j ops[j] o4 (by omega) (by simp[o8])
   rw[<-ih (by omega) fun p o h1 h2=>hp p o h1 (by omega)]
   unfold mL at hP
   cases qo:(ops[j]).dst with
   |none=>rw[qo]at hP;have hq:s j=s (j+1):=AQ hP;rw[hq]
   |some d=>
    rw[qo]at hP hd
    simp only at hP
    split at hP
    ·rename_i hc
     simp only[cj,decide_eq_true_eq]at hc
     have hq:=AQ hP
     rw[<-hq,S.sR _ _ _ _ hc.2,if_neg (fun e=>hd (by rw[e]))]
    ·cases hP
 have fin:∀listed m sD hD a w,Inv P base nt ops s h n L m0 w0 listed m sD hD a w->Rm .any ops listed=[]->Q .normal a w:=by
  intro listed m sD hD a w I hr
  have ku:=adW he I.sz hr
  refine hR m a w ⟨I.le,fun b hb=>I.out b fun j hj _ hi=>hb ⟨lM (fh 0 j (by omega) (by omega)) hi.1,Nat.lt_of_lt_of_le hi.2 (fh (j+1) ops.size (by omega) (by omega))⟩,I.wr.oY fun b=> ?_,I.below⟩ ⟨I.sr.df,I.sr.sz,fun t=> ?_⟩
  ·exact(FY fun c=>I.mem b c ops.size (an _) fun j hj _=>⟨fun _=>hj,fun _=>ku j hj⟩).symm
  ·rw[<-I.slot t ops.size (an _) fun j o ho _=>⟨fun _=>(Array.getElem?_eq_some_iff.1 ho).1,fun hj=>ku j hj⟩]
   exact I.sr.at_ t
 intro fuel
 induction fuel with
 |zero=>
  intro listed m sD hD a w gU I
  have yu:Rm .any ops listed=[]:=by
   apply List.eq_nil_iff_forall_not_mem.2
   intro k hk
   obtain⟨h1,o,ho,_⟩:=mem_ready.1 hk
   have bM:k<listed.size:=by rw[I.sz];exact(Array.getElem?_eq_some_iff.1 ho).1
   have h2:listed[k]=false:=by simpa[sB,bM]using h1
   have:=List.countP_eq_zero.1 gU listed[k] (by simp)
   rw[h2]at this
   exact this rfl
  exact⟨yu,fin _ _ _ _ _ _ I yu⟩
 |succ fuel ih=>
  intro listed m sD hD a w gU I
  refine⟨fin _ _ _ _ _ _ I,fun k hk=> ?_⟩
  obtain⟨h1,o,ho,Sw⟩:=mem_ready.1 hk
  have F2:k<ops.size:=(Array.getElem?_eq_some_iff.1 ho).1
  have bM:k<listed.size:=by rw[I.sz];exact F2
  have KR:listed[k]=false:=by simpa[sB,bM]using h1
  have F3:¬Dn listed k:=by unfold Dn;simp[sB,bM,KR]
  have ad0:∀j,(dH.getD k 0).testBit j=true->Dn listed j:=Sq hg hlen he I.closed k fun o' o7 e hm bW=>by
   rw[ho]at o7;cases o7
   exact Sw e hm bW
  have ad3:∀j,Dn listed j->(dH.getD j 0).testBit k=true->False:=fun j hj bW=>F3 (Sq hg hlen he I.closed j (fun o' o7=>I.closed j o' hj o7) k bW)
  have F4:∀j,j<ops.size->j≠k->¬(Dn listed j↔j<k)->((∀x∈L j,∀y∈L k,(x.wr=true∨y.wr=true)->x.b=y.b->(x.k=y.k∨x.k=none∨y.k=none)->False)∧(∀x∈L j,¬(n k<=x.b∧x.b<n (k+1)))∧(∀x∈L k,¬(n j<=x.b∧x.b<n (j+1))))∧
   ∀oj,ops[j]? =some oj->(∀d,oj.dst=some d->d∉o.looksAt ops)∧(∀d,oj.dst=some d->o.dst≠some d):=by
   intro j hj ot kv
   have gk:ops.getD k default=o:=by simp[sB,ho]
   have gj:∀oj,ops[j]? =some oj->ops.getD j default=oj:=fun oj h'=>by simp[sB,h']
   rcases Rn j k with h'|h'
   ·rcases Su j k h' F2 with yv|⟨gN,iR⟩
    ·exact absurd ⟨fun _=>h',fun _=>ad0 j yv⟩ kv
    ·obtain⟨c1,c2,c3⟩:=Ss gN
     refine⟨⟨c1,c2,c3⟩,fun oj ow=> ?_⟩
     rw[gk,gj oj ow]at iR
     obtain⟨a1,a2,a3⟩:=aqQ (by unfold sM at iR;simpa using iR)
     exact⟨a1,a2⟩
   ·have FX:k<j:=by omega
    have hdj:Dn listed j:=by
     by_cases hd:Dn listed j
     ·exact hd
     ·exact absurd ⟨fun x=>absurd x hd,fun x=>by omega⟩ kv
    rcases Su k j FX hj with yv|⟨gN,iR⟩
    ·exact(ad3 j hdj yv).elim
    ·obtain⟨c1,c2,c3⟩:=Ss gN
     refine⟨⟨fun x hx y hy hw bW sP=>c1 y hy x hx hw.symm bW.symm (or3 sP),c3,c2⟩,fun oj ow=> ?_⟩
     rw[gk,gj oj ow]at iR
     obtain⟨a1,a2,a3⟩:=aqQ (by unfold sM at iR;simpa using iR)
     exact⟨a3,fun d hd e=>a2 d e hd⟩
  have A:=Sv k o ho
  have iR:∀t∈o.looksAt ops,sD.get t=(s k).get t:=fun t ht=>I.slot t k (by omega) fun j oj ow qo=>by
   by_cases ot:j=k
   ·subst ot;exact⟨fun x=>absurd x F3,fun x=>by omega⟩
   ·by_cases kv:(Dn listed j↔j<k)
    ·exact kv
    ·exact absurd ht (((F4 j (Array.getElem?_eq_some_iff.1 ow).1 ot kv).2 oj ow).1 t qo)
  obtain⟨fS,kq,jR⟩:=A.C6 hD fun e vW hni=>mi.Sg fun c hc=>(I.mem e.b c k (by omega) fun j hj hw=>by
   by_cases ot:j=k
   ·subst ot;exact⟨fun x=>absurd x F3,fun x=>by omega⟩
   ·by_cases kv:(Dn listed j↔j<k)
    ·exact kv
    ·obtain⟨⟨c1,c2,c3⟩,_⟩:=F4 j hj ot kv
     rcases hw with ⟨x,hx,KU,F5,KV⟩|hw
     ·exact(c1 x hx e vW (.inl KU) F5 (by
       rcases KV with q|q
       ·exact .inr (.inl q)
       ·rcases hc with r|r
        ·exact .inr (.inr r)
        ·exact .inl (by rw[q,r]))).elim
     ·exact(c3 e vW hw).elim).symm
  have A':=Loc.inside (Loc.ig jt ops o (s k)) _ _ _ _ _ _ kq
  rw[<-adQ (s:=sD) iR]at kq
  obtain⟨L',hv⟩:=KO kq
  have hP:=C.put k o (by simpa using ho)
  have ad4:∀b,n k<=b->b<n (k+1)->m b=none:=fun b iS cF=>by
   have q1:=fh 0 k (by omega) (by omega)
   have q2:=fh (k+1) ops.size (by omega) (by omega)
   rw[I.out b fun j hj hd hi=> ?_]
   ·exact hf b (by omega) (by omega)
   ·by_cases ot:j=k
    ·subst ot;exact F3 hd
    ·rcases Rn j k with h'|h'
     ·have:=fh (j+1) k (by omega) (by omega);omega
     ·have:=fh (k+1) j (by omega) (by omega);omega
  refine So (nt:=nt) bN cV jt ho (cG o (aqR ho)) I.wr (Below.le I.below hb) (g.mono I.le) I.sr hv ad4 fun m' w' v' kt eI=> ?_
  have hsD:∃F6,mL nt sD o.dst (v k)=some F6∧∀t,F6.get t=if o.dst=some t then(s (k+1)).get t else sD.get t:=by
   unfold mL at hP⊢
   cases qo:o.dst with
   |none=>exact⟨sD,rfl,fun t=>by simp⟩
   |some d=>
    rw[qo]at hP
    simp only at hP⊢
    split at hP
    ·rename_i hc
     rw[if_pos hc]
     simp only[cj,decide_eq_true_eq]at hc
     have hq:=AQ hP
     rw[<-hq]
     refine⟨_,rfl,fun t=> ?_⟩
     rw[S.sR _ _ _ _ hc.2,S.sR _ _ _ _ hc.2]
     by_cases e:t=d
     ·subst e;simp
     ·rw[if_neg e,if_neg e]
      simp[Ne.symm e]
    ·cases hP
  obtain⟨F6,ad5,ad6⟩:=hsD
  refine ih (listed.setIfInBounds k true) m' F6 fS _ w' ?_ ⟨by simp[I.sz], ?_, ?_, ?_,I.le.trans kt.le, ?_,kt.wr,I.below.trans kt.below,Sn (I.sr.mono kt.le) eI ad5⟩
  ·have hc:=List.countP_set (p:=fun b=> !b) (l:=listed.toList) (i:=k) (a:=true) (by simpa using bM)
   have e1:listed.toList[k]=false:=by simpa using KR
   rw[Array.toList_setIfInBounds,hc,gU,e1]
   simp
  ·intro j oj hd ow e vW bW
   rw[uG bM]at hd⊢
   rcases hd with rfl|hd
   ·rw[ho]at ow;cases ow
    exact .inr (Sw e vW bW)
   ·exact .inr (I.closed j oj hd ow e vW bW)
  ·intro b c i hi kv
   by_cases hw:Wr n L k b c
   ·have hki:k<i:=(kv k F2 hw).1 ((uG bM).2 (.inl rfl))
    have h2:eH (h i) (h (k+1)) b c:=adY b c (k+1) i (by omega) hi fun p yw KW F7=>by
     have KX:Dn listed p:=by
      rcases (uG bM).1 ((kv p (by omega) F7).2 KW)with q|q
      ·omega
      ·exact q
     obtain⟨⟨c1,c2,c3⟩,_⟩:=F4 p (by omega) (by omega) (by intro q;have:=q.1 KX;omega)
     rcases F7 with ⟨x,hx,KU,F5,KV⟩|F7
     ·rcases hw with ⟨y,hy,hyw,KY,Sx⟩|hw
      ·exact c1 x hx y hy (.inl KU) (by rw[F5,KY]) (by
        rcases KV with q|q
        ·exact .inr (.inl q)
        ·rcases Sx with r|r
         ·exact .inr (.inr r)
         ·exact .inl (by rw[q,r]))
      ·exact c2 x hx (by rw[F5];exact hw)
     ·rcases hw with ⟨y,hy,hyw,KY,Sx⟩|hw
      ·exact c3 y hy (by rw[KY];exact F7)
      ·have:=fh (k+1) p (by omega) (by omega);omega
    exact(jR b c hw).trans h2.symm
   ·refine(A'.frame b c (fun x=>hw (.inl x)) (fun x=>hw (.inr x))).trans (I.mem b c i hi fun j hj F8=> ?_)
    have ot:j≠k:=fun e=>hw (e▸F8)
    rw[<-kv j hj F8,uG bM]
    exact⟨.inr,fun q=>q.resolve_left ot⟩
  ·intro t i hi kv
   rw[ad6 t]
   by_cases hd:o.dst=some t
   ·rw[if_pos hd]
    have hki:k<i:=(kv k o ho hd).1 ((uG bM).2 (.inl rfl))
    refine(adZ t (k+1) i (by omega) hi fun p op yw KW Sz SA=> ?_).symm
    have KX:Dn listed p:=by
     rcases (uG bM).1 ((kv p op Sz SA).2 KW)with q|q
     ·omega
     ·exact q
    obtain⟨_,c⟩:=F4 p (by omega) (by omega) (by intro q;have:=q.1 KX;omega)
    exact(c op Sz).2 t SA hd
   ·rw[if_neg hd]
    refine I.slot t i hi fun j oj ow qo=> ?_
    have ot:j≠k:=fun e=>hd (by subst e;rw[ho]at ow;cases ow;exact qo)
    rw[<-kv j oj ow qo,uG bM]
    exact⟨.inr,fun q=>q.resolve_left ot⟩
  ·intro b KZ
   rw[kt.out b (KZ k F2 ((uG bM).2 (.inl rfl)))]
   exact I.out b fun j hj hd=>KZ j hj ((uG bM).2 (.inr hd))
end
theorem SB{p:Nat->Prop}(h:∃n,p n):∃n,p n∧∀k,p k->n<=k:=by
 obtain⟨n,hn⟩:=h
 induction n using Rl with
 |_ n ih=>
  by_cases hx:∃k,k<n∧p k
  ·obtain⟨k,hk,hp⟩:=hx
   exact ih k hk hp
  ·exact⟨n,hn,fun k hk=>by
    rcases Rn k n with h|h
    ·exact absurd ⟨k,h,hk⟩ hx
    ·exact h⟩
noncomputable def least (p:Nat->Prop):Nat:=open Classical in if h:∃n,p n then asV (SB h)else 0
theorem SC{p:Nat->Prop}(h:∃n,p n):p (least p)∧∀k,p k->least p<=k:=by
 unfold least
 rw[dif_pos h]
 exact asW (SB h)
def cv:Ex->Exit
 | .normal=> .normal
 | .ret=> .ret
 | .exit id=> .exit id
section
variable {P:Program} {base:Nat} {rec:FuncId->Array Value->M Value} {nt:Nat}
theorem ad7 (bN:yo P base) (cV:Bb P base rec) (jt:∀f a,Loc (rec f a)) (o9:P.follows .mixedOrders=true) {id:Nat} {ops:Array Oper} {draw:Bool} (cG:∀o∈ops,A4 P o=true)
 {Q:Exit->Act->World->Prop} {m:Mp} {s s1:S} {a:Act} {w:World} {h h1:H} {n n1:Nat} {L:List En} (x:WR P m base h w.heap) (hb:base<=w.heap.size) (g:Gl P m) (hs:SR m nt s a)
 (hr:sO P rec nt ops draw s h n=some ⟨s1,h1,n1,L⟩) (hf:jQ m n n1) (hQ:∀m' a' w',c8 P m base n n1 w h1 m' w'->SR m' nt s1 a'->Q .normal a' w'):(Code.region id ops draw).wp P Q a w:=by
 unfold sO at hr
 obtain⟨y,h2,n2,L1,L2,e1,e2,_⟩:=bind_some hr
 obtain⟨sf,yx,nf,vf,Lf,C,a1,a2,a3,a4,a5,a6,a7,a8⟩:=adR _ _ _ _ _ _ _ _ e1
 have hlen:ops.toList.length=ops.size:=by simp
 rw[hlen]at a4 a5 a6 a7 a8
 have yq:∀i,i<ops.size->nf i<=nf (i+1):=fun i hi=>
  (Loc.inside (Loc.ig jt ops ops[i] (sf i)) _ _ _ _ _ _ (C.step i ops[i] (by simp[hi]))).le
 split at e2
 ·rename_i ld
  obtain⟨rfl,rfl,rfl⟩:=bY e2
  subst a1 a2 a3 a5 a6
  rw[<-a4]at hQ
  cases draw with
  |false=>
   apply wp_region
   rw[List.range_eq_range']
   exact adS bN cV jt cG C hf yq hb g (fun _ _=>True) hQ ops.size 0 (by omega) m a w (c8.refl x) hs
  |true=>
   simp only[Bool.not_true,Bool.false_or,cj]at ld
   obtain⟨K0,ad8⟩:=ld
   apply wp_region_any o9
   have SD:=adU ops ops.toList [] (fun i o ho=>by simpa using ho) (fun k hk=>by simp at hk)
   refine adX bN cV jt cG C (fun k o ho e he bW=> ?_) SD.1 (by simpa using SD.2) (fun j k ot hk=> ?_) hf yq (w0:={w with drawn:=w.drawn+1}) hb g (fun m' a' w' hp dA=>hQ m' a' w' ⟨hp.le,hp.out,hp.wr,(aqS (vD base w)).trans hp.below⟩ dA) ops.size _ m (sf 0) (yx 0) a _ ?_ ?_
   ·unfold vP at K0
    rw[List.all_eq_true]at K0
    have:=K0 (o,k) (by
     rw[List.mem_iff_getElem?]
     exact⟨k,by simp[List.getElem?_zipIdx,ho]⟩)
    simp only[cj]at this
    have h2:=this.1
    rw[xW]at h2
    have h3:=h2 e he
    simpa[bW]using h3
   ·have hj:j<ops.size:=by omega
    have:=adV _ ad8 j k (j,⟨nf j,nf (j+1),Lf j⟩) (k,⟨nf k,nf (k+1),Lf k⟩) ot (by rw[KQ,a8 j hj];simp) (by rw[KQ,a8 k hk];simp)
    exact this
   ·simp[List.countP_replicate]
   ·have F9:∀j,¬Dn (CO ops.size false) j:=by
     intro j hj
     unfold Dn at hj
     rw[sB,aqT]at hj
     split at hj<;>simp at hj
    refine⟨by simp,fun k o hd=>absurd hd (F9 k),fun b c i hi kv=> ?_,fun t i hi kv=> ?_,Le.refl _,fun _ _=>rfl,x,vD _ _,hs⟩
    ·
     have key:∀i,i<=ops.size->(∀j,j<ops.size->Wr nf Lf j b c->¬j<i)->eH (yx 0) (yx i) b c:=by
      intro i
      induction i with
      |zero=>intro _ _;exact eH.refl _ _ _
      |succ i ih=>
       intro hi yy
       have A:=Loc.inside (Loc.ig jt ops ops[i] (sf i)) _ _ _ _ _ _ (C.step i ops[i] (by simp[show i<ops.size by omega]))
       have hw:¬Wr nf Lf i b c:=fun hw=>yy i (by omega) hw (by omega)
       exact(ih (by omega) fun j hj F8 bM=>yy j hj F8 (by omega)).trans (A.frame b c (fun q=>hw (.inl q)) (fun q=>hw (.inr q))).symm
     exact key i hi fun j hj hw bM=>F9 j ((kv j hj hw).2 bM)
    ·have key:∀i,i<=ops.size->(∀j o,ops[j]? =some o->o.dst=some t->¬j<i)->(sf 0).get t=(sf i).get t:=by
      intro i
      induction i with
      |zero=>intro _ _;rfl
      |succ i ih=>
       intro hi yy
       have gT:i<ops.size:=by omega
       rw[ih (by omega) fun j o ho hd bM=>yy j o ho hd (by omega)]
       have hP:=C.put i ops[i] (by simp[gT])
       have hd:(ops[i]).dst≠some t:=fun hd=>yy i ops[i] (by simp[gT]) hd (by omega)
       unfold mL at hP
       cases qo:(ops[i]).dst with
       |none=>rw[qo]at hP;have hq:sf i=sf (i+1):=AQ hP;rw[hq]
       |some d=>
        rw[qo]at hP hd
        simp only at hP
        split at hP
        ·rename_i hc
         simp only[cj,decide_eq_true_eq]at hc
         have hq:=AQ hP
         rw[<-hq,S.sR _ _ _ _ hc.2,if_neg (fun e=>hd (by rw[e]))]
        ·cases hP
     exact key i hi fun j o ho hd bM=>F9 j ((kv j o ho hd).2 bM)
 ·cases e2
theorem ad9(bN:yo P base)(cV:Bb P base rec)(jt:∀f a,Loc (rec f a))(o9:P.follows .mixedOrders=true):
 ∀(fuel:Nat) (c:Code) (_:nj P c=true) (Q:Exit->Act->World->Prop) (m:Mp) (s s1:S) (a:Act) (w:World) (h h1:H) (n n1:Nat) (L:List En) (e:Ex),WR P m base h w.heap->base<=w.heap.size->Gl P m->SR m nt s a->
  eQ P rec nt fuel c s h n=some ⟨(e,s1),h1,n1,L⟩->jQ m n n1->(∀m' a' w',c8 P m base n n1 w h1 m' w'->SR m' nt s1 a'->Q (cv e) a' w')->c.wp P Q a w:=by
 intro fuel
 induction fuel using Rl with
 |_ fuel ih=>
  intro c cG Q m s s1 a w h h1 n n1 L e x hb g hs hr hf hQ
  cases fuel with
  |zero=>cases hr
  |succ f=>
   cases c with
   |skip=>
    obtain⟨q,rfl,rfl⟩:=bY hr
    cases q
    exact wp_skip (hQ m a w (c8.refl x) hs)
   |label l=>
    obtain⟨q,rfl,rfl⟩:=bY hr
    cases q
    exact wp_label (hQ m a w (c8.refl x) hs)
   |region id ops draw=>
    unfold eQ at hr
    obtain⟨s2,h2,n2,L1,L2,e1,e2,_⟩:=bind_some hr
    obtain⟨q,rfl,rfl⟩:=bY e2
    cases q
    refine ad7 bN cV jt o9 (fun o ho=> ?_) x hb g hs e1 hf hQ
    unfold nj at cG
    rw[xW]at cG
    exact cG o ho
   |seq c1 c2=>
    unfold nj at cG
    simp only[cj]at cG
    unfold eQ at hr
    obtain⟨y,h2,n2,L1,L2,e1,e2,_⟩:=bind_some hr
    obtain⟨e0,s2⟩:=y
    have A:=Loc.eQ jt f c1 s h n _ h2 n2 L1 e1
    apply wp_seq
    cases e0 with
    |normal=>
     have B:=Loc.eQ jt f c2 s2 h2 n2 _ h1 n1 L2 e2
     refine ih f (by omega) c1 cG.1 _ m s s2 a w h h2 n n2 L1 .normal x hb g hs e1 (hf.first B.le) fun m' a' w' hp dA=> ?_
     exact ih f (by omega) c2 cG.2 Q m' s2 s1 a' w' h2 h1 n2 n1 L2 e hp.wr (Below.le hp.below hb) (g.mono hp.le) dA e2 (hf.after A.le hp) fun qj yz qk kt dN=>hQ qj yz qk (hp.trans A.le B.le kt) dN
    |ret=>
     obtain⟨q,rfl,rfl⟩:=bY e2
     cases q
     exact ih f (by omega) c1 cG.1 _ m s _ a w h _ n _ L1 .ret x hb g hs e1 hf fun m' a' w' hp dA=>hQ m' a' w' hp dA
    |exit id=>
     obtain⟨q,rfl,rfl⟩:=bY e2
     cases q
     exact ih f (by omega) c1 cG.1 _ m s _ a w h _ n _ L1 (.exit id) x hb g hs e1 hf fun m' a' w' hp dA=>hQ m' a' w' hp dA
   |cond c0 c1 c2=>
    unfold nj at cG
    simp only[cj]at cG
    unfold eQ at hr
    simp only at hr
    generalize ht:ev s c0=v0 at hr
    cases v0 with
    |bool t=>
     have hv:=Sm g hs cG.1.1
     rw[ht]at hv
     have hc:a.eval c0= .bool t:=by
      generalize a.eval c0=u at hv
      cases hv;rfl
     refine wp_cond hc ?_
     refine ih f (by omega) _ ?_ Q m s s1 a w h h1 n n1 L e x hb g hs hr hf hQ
     cases t
     ·exact cG.2
     ·exact cG.1.2
    |_=>cases hr
   |block id c1=>
    unfold nj at cG
    unfold eQ at hr
    obtain⟨y,h2,n2,L1,L2,e1,e2,_⟩:=bind_some hr
    obtain⟨e0,s2⟩:=y
    apply wp_block
    cases e0 with
    |normal=>
     obtain⟨q,rfl,rfl⟩:=bY e2
     cases q
     exact ih f (by omega) c1 cG _ m s _ a w h _ n _ L1 .normal x hb g hs e1 hf fun m' a' w' hp dA=>hQ m' a' w' hp dA
    |ret=>
     obtain⟨q,rfl,rfl⟩:=bY e2
     cases q
     exact ih f (by omega) c1 cG _ m s _ a w h _ n _ L1 .ret x hb g hs e1 hf fun m' a' w' hp dA=>hQ m' a' w' hp dA
    |exit Db=>
     simp only at e2
     by_cases hid:Db=id
     ·rw[if_pos hid]at e2
      obtain⟨q,rfl,rfl⟩:=bY e2
      cases q
      refine ih f (by omega) c1 cG _ m s _ a w h _ n _ L1 (.exit Db) x hb g hs e1 hf fun m' a' w' hp dA=> ?_
      show(if Db=id then _ else _)
      rw[if_pos hid]
      exact hQ m' a' w' hp dA
     ·rw[if_neg hid]at e2
      obtain⟨q,rfl,rfl⟩:=bY e2
      cases q
      refine ih f (by omega) c1 cG _ m s _ a w h _ n _ L1 (.exit Db) x hb g hs e1 hf fun m' a' w' hp dA=> ?_
      show(if Db=id then _ else _)
      rw[if_neg hid]
      exact hQ m' a' w' hp dA
   |loop c1=>
    have K1:nj P c1=true:=by unfold nj at cG;exact cG
    let J:Act->World->Nat->Prop:=fun a' w' k=>k<=f+1∧∃m' s' h' n' L',n<=n'∧n'<=n1∧c8 P m base n n' w h' m' w'∧SR m' nt s' a'∧eQ P rec nt k (.loop c1) s' h' n'=some ⟨(e,s1),h1,n1,L'⟩
    have hle:=(Loc.eQ jt (f+1) (.loop c1) s h n _ h1 n1 L hr).le
    refine wp_loop (fun a' w'=>∃k,J a' w' k) (fun a' w'=>least (J a' w')) ⟨f+1,an _,m,s,h,n,L,an _,hle,c8.refl x,hs,hr⟩ ?_
    intro a' w' hI
    obtain⟨hJ,asG⟩:=SC hI
    generalize hk:least (J a' w')=k at hJ
    obtain⟨KR,m',s',h',n',L',aM,cJ,hp,dA,jF⟩:=hJ
    cases k with
    |zero=>cases jF
    |succ k=>
     unfold eQ at jF
     obtain⟨y,h2,n2,L1,L2,e1,e2,_⟩:=bind_some jF
     obtain⟨e0,s2⟩:=y
     have A:=Loc.eQ jt k c1 s' h' n' _ h2 n2 L1 e1
     cases e0 with
     |normal=>
      have B:=Loc.eQ jt k (.loop c1) s2 h2 n2 _ h1 n1 L2 e2
      refine ih k (by omega) c1 K1 _ m' s' s2 a' w' h' h2 n' n2 L1 .normal hp.wr (Below.le hp.below hb) (g.mono hp.le) dA e1 (fun b q1 q2=> ?_) fun qj yz qk kt dN=> ?_
      ·have:=B.le
       rw[hp.out b (by omega)]
       exact hf b (by omega) (by omega)
      ·have K2:J yz qk k:=⟨by omega,qj,s2,h2,n2,L2,by have:=A.le;omega,B.le,hp.trans aM A.le kt,dN,e2⟩
       exact⟨⟨k,K2⟩,Nat.lt_succ_of_le ((SC ⟨k,K2⟩).2 k K2)⟩
     |ret=>
      obtain⟨q,rfl,rfl⟩:=bY e2
      cases q
      refine ih k (by omega) c1 K1 _ m' s' _ a' w' h' _ n' _ L1 .ret hp.wr (Below.le hp.below hb) (g.mono hp.le) dA e1 (fun b q1 q2=> ?_) fun qj yz qk kt dN=>hQ qj yz qk (hp.trans aM A.le kt) dN
      rw[hp.out b (by omega)]
      exact hf b (by omega) q2
     |exit id=>
      obtain⟨q,rfl,rfl⟩:=bY e2
      cases q
      refine ih k (by omega) c1 K1 _ m' s' _ a' w' h' _ n' _ L1 (.exit id) hp.wr (Below.le hp.below hb) (g.mono hp.le) dA e1 (fun b q1 q2=> ?_) fun qj yz qk kt dN=>hQ qj yz qk (hp.trans aM A.le kt) dN
      rw[hp.out b (by omega)]
      exact hf b (by omega) q2
   |exit id=>
    obtain⟨q,rfl,rfl⟩:=bY hr
    cases q
    exact wp_exit (hQ m a w (c8.refl x) hs)
   |ret=>
    obtain⟨q,rfl,rfl⟩:=bY hr
    cases q
    exact wp_ret (hQ m a w (c8.refl x) hs)
   |rangeFunc _ _ _ _=>cases hr
   |scope _=>cases hr
   |goto _=>cases hr
   |refuse _=>cases hr
end
theorem SE:∀(l:List Value) (i:Nat) (s:S) (t:Nat),i+l.length<1023->(vR i l s).get t=if i<=t∧t<i+l.length then l.getD (t-i) undef else s.get t:=by
 intro l
 induction l with
 |nil=>intro i s t _;rw[if_neg (by simp)];rfl
 |cons v r ih=>
  intro i s t hl
  simp only[List.length_cons]at hl
  unfold vR
  rw[ih (i+1) _ t (by omega)]
  by_cases h1:i+1<=t∧t<i+1+r.length
  ·rw[if_pos h1,if_pos (by simp;omega)]
   rw[show t-i=(t-(i+1))+1 by omega]
   simp
  ·rw[if_neg h1,S.sR _ _ _ _ (by omega)]
   by_cases e:t=i
   ·subst e;simp
   ·rw[if_neg e,if_neg (by simp;omega)]
theorem S.get_nil(t:Nat):S.get (.nil:S) t=undef:=by unfold S.get;rw[Tr.get_nil];rfl
theorem ad'{m:Mp}{args eR:Array Value}{nt:Nat}(h:bA m args.toList eR.toList)(h1:args.size<=nt)(h2:nt<1000):SR m nt (vR 0 args.toList .nil) {tmps:=eR++CO (nt-eR.size) undef,defers:=[]}:=by
 have hl:args.size=eR.size:=by simpa using h.length
 refine⟨rfl,by simp;omega,fun t=> ?_⟩
 rw[SE _ _ _ _ (by simp;omega)]
 by_cases ht:t<args.size
 ·rw[if_pos (by simp;exact ht)]
  obtain⟨v',eI,hr⟩:=h.get t (args.toList.getD (t-0) undef) (by simp[bC,ht])
  have:(eR++CO (nt-eR.size) undef).getD t undef=v':=by
   have q9:t<eR.size:=by omega
   rw[sB,aqU q9]
   simp at eI
   simp[eI]
  show VR m _ ((eR++CO (nt-eR.size) undef).getD t undef)
  rw[this]
  exact hr
 ·rw[if_neg (by simp;omega),S.get_nil]
  have:(eR++CO (nt-eR.size) undef).getD t undef=undef:=by
   rw[sB,Array.getElem?_append_right (by omega),aqT]
   split<;>rfl
  show VR m _ ((eR++CO (nt-eR.size) undef).getD t undef)
  rw[this]
  exact VR.undef
theorem ad_{P:Program}:∀(s:Sem Next) (v:Value),kT P s=some v->∀w,s.run P w= .ok (.value v) w:=by
 intro s
 induction s with
 |pure a=>
  intro v h w
  cases a<;>simp[kT]at h
  subst h;rfl
 |program k ih=>
  intro v h w
  exact ih P v (by simpa[kT]using h) w
 |_=>intro v h;simp[kT]at h
def Sound(P:Program)(base:Nat)(m:Mp)(w:World)(h:H)(n:Nat)(s:Sem Value)(r:Value)(h1:H)(n1:Nat):Prop:=
 ∃m' w' v',s.run P w= .ok v' w'∧c8 P m base n n1 w h1 m' w'∧VR m' r v'
theorem aea{P:Program}{e:TypeId}{n:Nat}(h:size? P e=some n):∃i,P.info? e=some i∧i.size=n:=by
 unfold size? at h
 cases hi:P.info? e with
 |none=>rw[hi]at h;cases h
 |some i=>rw[hi]at h;exact⟨i,rfl,by simpa using h⟩
theorem SF{P:Program}{e:TypeId}{z:Value}(h:iB P e=some z):(∃i,P.info? e=some i∧i.zero=some z)∧clean z=true:=by
 unfold iB at h
 cases hi:P.info? e with
 |none=>rw[hi]at h;cases h
 |some i=>
  rw[hi]at h
  simp only[Rk]at h
  cases hz:i.zero with
  |none=>rw[hz]at h;cases h
  |some u=>
   rw[hz]at h
   simp only at h
   split at h
   ·rename_i hc
    cases h
    exact⟨⟨i,rfl,hz⟩,hc⟩
   ·cases h
theorem F'{P:Program}{e:TypeId}{z:Value}(h:iB P e=some z):∃i,P.info? e=some i∧i.zero=some z:=(SF h).1
theorem K3{P:Program}{e:TypeId}{z:Value}(h:iB P e=some z):clean z=true:=(SF h).2
theorem run_sizeOf{P:Program}{e:TypeId}{n:Nat}(h:size? P e=some n)(w:World):(sizeOf e).run P w= .ok n w:=by
 obtain⟨i,hi,rfl⟩:=aea h
 simp[sizeOf,typeInfo,program,hi,AN,bind,CM]
 rfl
theorem K4{P:Program}{e:TypeId}{z:Value}(h:iB P e=some z)(w:World):(zeroValue e).run P w= .ok z w:=by
 obtain⟨i,hi,hz⟩:=F' h
 simp[zeroValue,typeInfo,program,hi,hz,AN]
theorem yA{P:Program}{t:TypeId}{b:Bool}(h:kS P t=some b)(w:World):(isAgg t).run P w= .ok b w:=by
 unfold kS at h
 cases hd:P.underlying t with
 |none=>rw[hd]at h;cases h
 |some d=>
  rw[hd]at h
  unfold isAgg
  rw[fL,run_underlying hd]
  cases d<;>simp at h<;>subst h<;>rfl
section
variable {P:Program} {base:Nat} {m:Mp} {w:World} {h h1:H} {n n1:Nat} {r:Value} {L:List En}
theorem aeb{e:TypeId}(x:WR P m base h w.heap)(hb:base<=w.heap.size)(hf:jQ m n n1)(hr:qd P e h n=some ⟨r,h1,n1,L⟩):Sound P base m w h n (aqV e true (.tuple #[])) r h1 n1:=by
 unfold qd at hr
 cases hz:iB P e with
 |none=>rw[hz]at hr;cases hr
 |some z=>
  rw[hz]at hr
  obtain⟨id,h2,n2,L1,L2,e1,e2,_⟩:=bind_some hr
  obtain⟨rfl,rfl,rfl⟩:=bY e2
  obtain⟨i,hi,_⟩:=F' hz
  have hc:=(VR.clean (m:=m) (K3 hz)).cells
  obtain⟨rfl,rfl,m',fO,hp⟩:=yn x e1 hf hb (cs':=z.cells) (by simp) (fun k v hk=>by simpa using hc.get k v hk) (esz:=i.size) (by simp[size?,hi])
  refine⟨m',_,.pointer (some ⟨w.heap.size,0,none⟩), ?_,hp, ?_⟩
  ·simp only[aqV,fL,K4 hz,gf,newVar,newRow,newObj]
   rfl
  ·exact VR.ptr fO
theorem aec{e:TypeId}{v v':Value}(hv:VR m v v')(x:WR P m base h w.heap)(hb:base<=w.heap.size)(hf:jQ m n n1)(hr:qe P e v h n=some ⟨r,h1,n1,L⟩):Sound P base m w h n (Instr.box e v') r h1 n1:=by
 unfold qe at hr
 cases hz:size? P e with
 |none=>rw[hz]at hr;cases hr
 |some z=>
  rw[hz]at hr
  obtain⟨id,h2,n2,L1,L2,e1,e2,_⟩:=bind_some hr
  obtain⟨rfl,rfl,rfl⟩:=bY e2
  obtain⟨rfl,rfl,m',fO,hp⟩:=yn x e1 hf hb (cs':=v'.cells) (by simp[hv.KH]) (fun k u hk=>by simpa using hv.cells.get k u hk) hz
  exact⟨m',_,.pointer (some ⟨w.heap.size,0,none⟩),rfl,hp,VR.ptr fO⟩
theorem aed{cs cs':Array Value}{off:Nat}:∀{us K5:List Value} (_:bA m us K5) (i:Nat) {cs cs':Array Value},bA m cs.toList cs'.toList->
 bA m ((us.zipIdx i).foldl (fun(a:Array Value) (x:Value×Nat)=>a.setIfInBounds (off+x.2) x.1) cs).toList ((K5.zipIdx i).foldl (fun(a:Array Value) (x:Value×Nat)=>a.setIfInBounds (off+x.2) x.1) cs').toList:=by
 intro us K5 hu
 induction hu using bA.rec (motive_1:=fun _ _ _=>True)with
 |nil=>intro i cs cs' hc;exact hc
 |cons hv _ _ ih=>
  intro i cs cs' hc
  simp only[List.zipIdx_cons,ac1]
  exact ih (i+1) (by simpa using bA.set (off+i) hc hv)
 |_=>trivial
theorem SG{place:Nat->Option (Nat×Nat)}:∀(parts jS:List (Nat×Value)) (cs cs' out:Array Value),parts.map (·.1)=jS.map (·.1)->bA m (parts.map (·.2)) (jS.map (·.2))->bA m cs.toList cs'.toList->nY place cs parts=some out->
 ∃re,nY place cs' jS=some re∧bA m out.toList re.toList∧out.size=cs.size:=by
 intro parts
 induction parts with
 |nil=>
  intro jS cs cs' out h1 h2 h3 h4
  cases jS with
  |nil=>simp[nY]at h4;subst h4;exact⟨cs',rfl,h3,rfl⟩
  |cons _ _=>simp at h1
 |cons p parts ih=>
  intro jS cs cs' out h1 h2 h3 h4
  cases jS with
  |nil=>simp at h1
  |cons p' jS=>
   obtain⟨i,v⟩:=p
   obtain⟨i',v'⟩:=p'
   simp at h1
   obtain⟨rfl,h1⟩:=h1
   simp only[List.map_cons]at h2
   cases h2 with
   |cons hv ht=>
    unfold nY at h4⊢
    cases hp:place i with
    |none=>rw[hp]at h4;cases h4
    |some os=>
     obtain⟨off,sz⟩:=os
     rw[hp]at h4
     simp only at h4⊢
     have e1:v'.cells.size=v.cells.size:=hv.KH.symm
     have e2:cs'.size=cs.size:=by have:=h3.length;simpa using this.symm
     rw[e1,e2]
     split at h4
     ·cases h4
     ·rename_i hc
      rw[if_neg hc]
      have hs:=aed (m:=m) (cs:=cs) (cs':=cs') (off:=off) hv.cells 0 h3
      have e3:∀(vs:Array Value) (a:Array Value),vs.zipIdx.foldl (fun cs (c,j)=>cs.setIfInBounds (off+j) c) a=(vs.toList.zipIdx 0).foldl (fun(a:Array Value) (x:Value×Nat)=>a.setIfInBounds (off+x.2) x.1) a:=by
       intro vs a
       rw[<-Array.foldl_toList,Array.toList_zipIdx]
      have e4:∀(vs:List (Value×Nat)) (a:Array Value),(vs.foldl (fun(a:Array Value) (x:Value×Nat)=>a.setIfInBounds (off+x.2) x.1) a).size=a.size:=by
       intro vs
       induction vs with
       |nil=>intro a;rfl
       |cons y ys ihy=>intro a;rw[ac1,ihy];simp
      rw[e3]at h4⊢
      obtain⟨re,a1,a2,a3⟩:=ih jS _ _ out h1 ht hs h4
      exact⟨re,a1,a2,by rw[a3,e4]⟩
theorem aee {t:TypeId} {parts jS:List (Nat×Value)} (vX:parts.map (·.1)=jS.map (·.1)) (yB:bA m (parts.map (·.2)) (jS.map (·.2))) (x:WR P m base h w.heap)
 (hr:oV P t parts h n=some ⟨r,h1,n1,L⟩):Sound P base m w h n (aqX t jS.toArray) r h1 n1:=by
 unfold oV at hr
 cases hz:iB P t with
 |none=>rw[hz]at hr;cases hr
 |some z=>
  rw[hz]at hr
  cases hu:P.underlying t with
  |none=>rw[hu]at hr;cases hr
  |some d=>
   rw[hu]at hr
   cases d<;>try(cases hr;done)
   rename_i fs
   simp only at hr
   split at hr
   ·rename_i ku
    cases nr:nY (placeOf P fs) z.cells parts with
    |none=>rw[nr]at hr;cases hr
    |some cs=>
     rw[nr]at hr
     obtain⟨rfl,rfl,rfl⟩:=bY hr
     obtain⟨cs',a1,a2,_⟩:=SG parts jS _ _ cs vX yB (VR.clean (m:=m) (K3 hz)).cells nr
     refine⟨m,w,.agg cs', ?_,c8.refl x,.agg a2⟩
     have aef:(fs.mapM fun f=>do pure (f.offset,<-sizeOf f.type):Sem (Array (Nat×Nat))).run P w= .ok (fs.map fun f=>(f.offset,(size? P f.type).getD 0)) w:=by
      rw[Array.mapM_eq_mapM_toList]
      have:∀l:List Field,(∀f∈l,(size? P f.type).isSome=true)->(l.mapM (fun f=>do pure (f.offset,<-sizeOf f.type)):Sem (List (Nat×Nat))).run P w= .ok (l.map fun f=>(f.offset,(size? P f.type).getD 0)) w:=by
       intro l
       induction l with
       |nil=>intro _;rfl
       |cons f l ih=>
        intro hl
        obtain⟨k,hk⟩:=Option.isSome_iff_exists.1 (hl f (by simp))
        rw[List.mapM_cons]
        simp only[bind_assoc,pure_bind,fL,run_sizeOf hk,gf,ih fun f' yx=>hl f' (by simp[yx])]
        simp[hk]
      have h3:=this fs.toList fun f yx=>(xW.1 ku) f (Array.mem_toList_iff.1 yx)
      simp only[map_eq_pure_bind,fL,h3,gf,qQ]
      congr 1
      apply Array.ext'
      simp
     have dX:∀i,(fs.map fun f=>(f.offset,(size? P f.type).getD 0))[i]? =placeOf P fs i:=by
      intro i
      unfold placeOf
      cases K6:fs[i]? with
      |none=>simp[K6]
      |some f=>
       obtain⟨k,hk⟩:=Option.isSome_iff_exists.1 ((xW.1 ku) f (aqR K6))
       simp[K6,hk]
     have aeg:(fun i=>(fs.map fun f=>(f.offset,(size? P f.type).getD 0))[i]?)=placeOf P fs:=funext dX
     unfold aqX
     simp only[fL,K4 hz,run_underlying hu,gf,aef,aeg,a1]
     rfl
   ·cases hr
theorem SH{e:TypeId}{z:Value}(hz:iB P e=some z)(k:Nat):bA m (aQ z k).toList (aQ z k).toList:=by
 unfold aQ
 rw[Array.toList_map]
 refine bA.map _ fun i=> ?_
 have hc:=(VR.clean (m:=m) (K3 hz)).cells
 by_cases hi:i %z.cells.size<z.cells.size
 ·obtain⟨v',eI,hr⟩:=hc.get (i %z.cells.size) z.cells[i %z.cells.size] (by simp[hi])
  have:v'=z.cells[i %z.cells.size]:=by simpa[hi]using eI.symm
  rw[this]at hr
  simpa[hi]using hr
 ·rw[getElem!_neg z.cells _ hi]
  exact .bool _
theorem aeh {t:TypeId} {len:Nat} {parts jS:List (Nat×Value)} (vX:parts.map (·.1)=jS.map (·.1)) (yB:bA m (parts.map (·.2)) (jS.map (·.2))) (x:WR P m base h w.heap) (hb:base<=w.heap.size) (hf:jQ m n n1)
 (hr:oW P t len parts h n=some ⟨r,h1,n1,L⟩):Sound P base m w h n (ac3 t len jS.toArray) r h1 n1:=by
 unfold oW at hr
 cases hu:P.underlying t with
 |none=>rw[hu]at hr;cases hr
 |some d=>
  rw[hu]at hr
  cases d<;>try(cases hr;done)
  rename_i e
  simp only at hr
  cases hs:size? P e with
  |none=>rw[hs]at hr;cases hr
  |some sz=>
   cases hz:iB P e with
   |none=>rw[hs,hz]at hr;cases hr
   |some z=>
    rw[hs,hz]at hr
    simp only at hr
    by_cases hzero:(len=0&&parts.isEmpty)=true
    ·rw[if_pos hzero]at hr
     simp only[cj,decide_eq_true_eq,List.isEmpty_iff]at hzero
     obtain⟨rfl,rfl⟩:=hzero
     obtain⟨id,h2,n2,L1,L2,e1,e2,_⟩:=bind_some hr
     obtain⟨rfl,rfl,rfl⟩:=bY e2
     have hp0:jS=[]:=by
      cases jS with
      |nil=>rfl
      |cons p ps=>simp at vX
     subst hp0
     obtain⟨rfl,rfl,m',fO,hp⟩:=yn x e1 hf hb (cs':=#[]) (by simp) (fun k v hk=>by simp at hk) hs
     refine⟨m',_,.slice (some ⟨w.heap.size,0,none⟩) 0 0, ?_,hp,VR.iC fO (fun _=>rfl) (fun _=>rfl) (fun iT=>by simp[bq]at iT) (an _) (by simp)⟩
     unfold ac3
     simp only[fL,run_underlying hu,gf,run_sizeOf hs,Nat.zero_mul,if_true,qQ,pure_bind]
     have n0:¬(0>2^24):=by omega
     simp only[if_neg n0,nY,Array.range_zero',Array.map_empty]
     rfl
    rw[if_neg hzero]at hr
    split at hr
    ·rename_i hc
     simp only[cj,decide_eq_true_eq]at hc
     cases nr:nY (fun i=>some (i*sz,sz)) (aQ z (len*sz)) parts with
     |none=>rw[nr]at hr;cases hr
     |some cs=>
      rw[nr]at hr
      simp only at hr
      obtain⟨id,h2,n2,L1,L2,e1,e2,_⟩:=bind_some hr
      obtain⟨rfl,rfl,rfl⟩:=bY e2
      obtain⟨cs',a1,a2,a3⟩:=SG parts jS _ _ cs vX yB (SH (m:=m) hz (len*sz)) nr
      have hlen:cs.size=cs'.size:=by have:=a2.length;simpa using this
      obtain⟨rfl,rfl,m',fO,hp⟩:=yn x e1 hf hb (cs':=cs') (by simp[hlen]) (fun k v hk=>by simpa using a2.get k v hk) hs
      have fI:cs'.size=len*sz:=by rw[<-hlen,a3];simp[aQ]
      have SI:1<=sz:=by
       rcases Nat.eq_zero_or_pos sz with h0|h0
       ·subst h0;simp at hc
       ·exact h0
      have hl:len<=len*sz:=Nat.le_mul_of_pos_right _ SI
      refine⟨m',_,.slice (some ⟨w.heap.size,0,none⟩) len len, ?_,hp,VR.iC fO (fun _=>rfl) (fun _=>rfl) (fun iT=>by simp[bq]at iT;omega) (an _) (by simp[fI])⟩
      unfold ac3
      have n0:¬(len*sz>2^24):=by omega
      have n1:¬(len*sz=0):=by omega
      simp only[fL,run_underlying hu,gf,run_sizeOf hs,if_neg n0,if_neg n1,K4 hz,qQ,pure_bind]
      unfold aQ at a1
      rw[a1]
      rfl
    ·cases hr
theorem K7{b off:Nat}{v':Value}(hv:VR m (.pointer (some ⟨b,off,none⟩)) v'):∃d,m b=some d∧v'= .pointer (some ⟨d.bE,d.sh+off,none⟩):=by
 cases hv with
 |ptr h=>exact⟨_,h,rfl⟩
theorem aei{t:TypeId}{a a':Value}(ha:VR m a a')(x:WR P m base h w.heap)(hr:kV P t a h n=some ⟨r,h1,n1,L⟩):Sound P base m w h n (ac6 t a') r h1 n1:=by
 unfold kV at hr
 split at hr
 ·rename_i b off
  obtain⟨d,hd,rfl⟩:=K7 ha
  cases hg:kS P t with
  |none=>rw[hg]at hr;cases hr
  |some g=>
   rw[hg]at hr
   cases g with
   |false=>
    simp only at hr
    obtain⟨rfl,rfl,d',v',mj,hc,hv⟩:=FZ x hr
    rw[hd]at mj;cases mj
    refine⟨m,w,v', ?_,c8.refl x,hv⟩
    simp only[ac6,Ka,pure_bind,loadVar,fL,yA hg w,gf,sE,if_false]
    show(Sem.load _ _ _).run P w=_
    simp[AN,hc]
   |true=>
    cases hs:size? P t with
    |none=>rw[hs]at hr;cases hr
    |some k=>
     rw[hs]at hr
     simp only at hr
     obtain⟨vs,h2,n2,L1,L2,e1,e2,_⟩:=bind_some hr
     obtain⟨rfl,rfl,rfl⟩:=bY e2
     obtain⟨rfl,rfl,hl,dD,gI,fI⟩:=vU x hd e1
     refine⟨m,w,.agg dD.toArray, ?_,c8.refl x,.agg (by simpa using gI)⟩
     have hlen:dD.length=k:=by rw[<-gI.length,hl]
     have:=A9 (P:=P) fI
     rw[hlen]at this
     simp only[ac6,Ka,pure_bind,loadVar,fL,yA hg w,gf,if_true,run_sizeOf hs,this]
     rfl
 ·cases hr
theorem aej{t:TypeId}{a a' v v':Value}(ha:VR m a a')(hv:VR m v v')(x:WR P m base h w.heap)(hr:qV P t a v h n=some ⟨r,h1,n1,L⟩):r=undef∧∃w',(aqZ t a' v').run P w= .ok () w'∧c8 P m base n n1 w h1 m w':=by
 unfold qV at hr
 split at hr
 ·rename_i b off
  obtain⟨d,hd,rfl⟩:=K7 ha
  cases hs:size? P t with
  |none=>rw[hs]at hr;cases hr
  |some k=>
   rw[hs]at hr
   simp only at hr
   split at hr
   ·rename_i hk
    obtain⟨u,h2,n2,L1,L2,e1,e2,_⟩:=bind_some hr
    obtain⟨rfl,rfl,rfl⟩:=bY e2
    cases u
    obtain⟨rfl,w',uF,x2,kZ⟩:=KK hd hv.cells (i:=0) (d.sh+off) (by omega) x e1
    refine⟨rfl,w', ?_,⟨Le.refl _,fun _ _=>rfl,x2,kZ⟩⟩
    have om:v'.cells.size=k:=by rw[<-hv.KH];exact hk
    simp only[aqZ,Ka,pure_bind,storeVar,fL,run_sizeOf hs,gf,om,ne_eq,not_true,if_false]
    exact uF
   ·cases hr
 ·cases hr
theorem aek{v v':Value}(hv:VR m v v')(x:WR P m base h w.heap)(hr:ux v h n=some ⟨r,h1,n1,L⟩):
 h1=h∧n1=n∧VR m r v'∧((∃a,v'= .pointer (some a))∨∃f a b,v'= .func (.func f) a b):=by
 unfold ux at hr
 split at hr
 ·obtain⟨rfl,rfl,rfl⟩:=bY hr
  refine⟨rfl,rfl,hv,.inl ?_⟩
  cases hv with|ptr h=>exact⟨_,rfl⟩
 ·obtain⟨rfl,rfl,rfl⟩:=bY hr
  refine⟨rfl,rfl,hv,.inr ?_⟩
  cases hv with|func fn h1 h2=>exact⟨_,_,_,rfl⟩
 ·cases hr
theorem ael:∀(vs:List Value) (acc s:ByteArray),bytesOf vs acc=some s->∃ns:List Int,vs=ns.map (dG .u8)∧s=ns.foldl (fun r n=>r.push (jq n.toNat)) acc:=by
 intro vs
 induction vs with
 |nil=>intro acc s h;simp[bytesOf]at h;exact⟨[],rfl,h.symm⟩
 |cons v vs ih=>
  intro acc s h
  cases v with
  |int k n=>
   cases k with
   |u8=>
    obtain⟨ns,rfl,hs⟩:=ih (acc.push (jq n.toNat)) s (by simpa[bytesOf]using h)
    exact⟨n::ns,rfl,hs⟩
   |_=>simp[bytesOf]at h
  |_=>simp[bytesOf]at h
theorem bA.ints{k:IntKind}:∀{ns:List Int} {dD:List Value},bA m (ns.map (dG k)) dD->dD=ns.map (dG k)
 |[],_,.nil=>rfl
 |_::_,_,.cons (.int _ _) t=>by rw[bA.ints t];rfl
theorem aem{v v':Value}(hv:VR m v v')(x:WR P m base h w.heap)(hr:qf v h n=some ⟨r,h1,n1,L⟩):∃a l c,v'= .slice a l c∧Sound P base m w h n (aq0 v') r h1 n1:=by
 unfold qf at hr
 split at hr
 ·obtain⟨rfl,rfl,rfl⟩:=bY hr
  cases hv
  exact⟨_,_,_,rfl,m,w,.string .empty,by simp[aq0],c8.refl x,.string _⟩
 ·rename_i b off len cap
  obtain⟨vs,h2,n2,L1,L2,e1,e2,_⟩:=bind_some hr
  cases bR:bytesOf vs .empty with
  |none=>rw[bR]at e2;cases e2
  |some s=>
   rw[bR]at e2
   obtain⟨rfl,rfl,rfl⟩:=bY e2
   cases hv with
   |@iC _ _ _ _ dz o' d hd ho c1 c2 c3 c4=>
    obtain⟨rfl,rfl,hl,dD,gI,fI⟩:=vU x hd e1
    obtain⟨ns,rfl,hs⟩:=ael _ _ _ bR
    have sS:=bA.ints gI
    subst sS
    refine⟨_,_,_,rfl,m,w,.string s, ?_,c8.refl x,.string _⟩
    rw[hs]
    apply run_bytesToString
    have hlen:(ns.map (dG .u8)).length=len:=hl
    have:=A9 (P:=P) fI
    rw[hlen]at this
    by_cases h0:0<len
    ·rw[ho (.inl h0)];exact this
    ·have K8:len=0:=by omega
     subst K8
     have:ns=[]:=by simpa using hlen
     subst this
     rfl
 ·cases hr
theorem aen{e:TypeId}{s:ByteArray}(nu:size? P e=some 1)(x:WR P m base h w.heap)(hb:base<=w.heap.size)(hf:jQ m n n1)(hr:uy e s h n=some ⟨r,h1,n1,L⟩):Sound P base m w h n (aq1 e s) r h1 n1:=by
 unfold uy at hr
 split at hr
 ·rename_i hle
  obtain⟨id,h2,n2,L1,L2,e1,e2,_⟩:=bind_some hr
  obtain⟨rfl,rfl,rfl⟩:=bY e2
  obtain⟨cap,iT⟩:∃cap,grownCap w s.size 0 e=cap:=⟨_,rfl⟩
  have Dc:s.size<=cap:=by rw[<-iT];unfold grownCap ac7;exact Nat.le_add_right _ _
  obtain⟨cs',K9⟩:∃cs':Array Value,(s.data.map fun b=>dG .u8 b.toNat)++CO (cap-s.size) (.int .u8 0)=cs':=⟨_,rfl⟩
  have dS:cs'.size=cap:=by rw[<-K9];simp;have:s.data.size=s.size:=rfl;omega
  obtain⟨rfl,rfl,m',fO,hp⟩:=yn (w:=w.drew) (P:=P) (m:=m) (base:=base) x e1 hf hb (cs':=cs') (by rw[dS];simp;exact Dc) (fun k v hk=>by
   refine⟨v, ?_, ?_⟩
   ·rw[<-K9]
    have om:k<s.data.size:=by
     rcases Rn k s.data.size with q|q
     ·exact q
     ·rw[sC (by simpa using q)]at hk;cases hk
    rw[aqU (by simpa using om)]
    simpa using hk
   ·have:v∈(s.data.map fun b=>dG .u8 b.toNat).toList:=aqP hk
    simp at this
    obtain⟨b,_,rfl⟩:=this
    exact .int _ _) nu
  have K':((w.drew.alloc (.cells cs' e)).freeze ⟨w.heap.size,cap,none⟩ 1).heap=(w.drew.alloc (.cells cs' e)).heap.modify w.heap.size (fun _=> .cells cs' e (cap,cap+1)):=by
   unfold Rq
   simp only[Nat.one_ne_zero,if_false]
   apply Array.ext_getElem?
   intro i
   rw[J',J']
   by_cases hi:w.heap.size=i
   ·subst hi
    have:(w.drew.alloc (.cells cs' e)).heap[w.heap.size]? =some (.cells cs' e (0,0)):=heap_alloc_new w.drew _
    rw[if_pos rfl,if_pos rfl,this]
    simp
   ·simp[hi]
  refine⟨m',(w.drew.alloc (.cells cs' e)).freeze ⟨w.heap.size,cap,none⟩ 1,.slice (some ⟨w.heap.size,0,none⟩) s.size cap, ?_,⟨hp.le,hp.out, ?_, ?_⟩, ?_⟩
  ·have aeo:(w.drew.alloc (.cells cs' e)).shape? w.heap.size=some (e,cap):=by
    unfold World.shape?
    rw[show(w.drew.alloc (.cells cs' e)).heap[w.heap.size]? =some (.cells cs' e (0,0))from heap_alloc_new w.drew _]
    simp[dS]
   unfold aq1
   simp only[choose,bind,CM,pure]
   show(Sem.choose _ _).run P w=_
   simp only[AN,aq2,sE,if_false]
   have ky:ac7 (.appendCap s.size 0 e) (w.tape w.drawn (.appendCap s.size 0 e))=cap:=iT
   rw[ky,K9]
   simp only[newRow,newObj,bind,CM,pure,AN,markStringish,shape]
   have aep:({heap:=w.heap.push (.cells cs' e),tape:=w.tape,drawn:=w.drawn+1,os:=w.os,output:=w.output}:World)=w.drew.alloc (.cells cs' e):=rfl
   rw[aep,aeo]
   rfl
  ·have jR:=hp.wr
   constructor
   ·intro b B hB
    obtain⟨⟨aeq,dsh,asH,asI,del⟩,cs,lo,hi,a1,a2,a3,a4,a7,a5,a6⟩:=jR.live b B hB
    simp only at a2 a3 a4 a7 a5 a6
    rw[K']
    by_cases yk:aeq=w.heap.size
    ·have:(w.drew.alloc (.cells cs' e)).heap[w.heap.size]? =some (.cells cs' e (0,0)):=heap_alloc_new w.drew _
     rw[yk,this]at a2
     cases a2
     refine⟨_,cs',cap,cap+1,a1, ?_,a3,a4,a7,fun ho=>⟨(a5 ho).1,(a5 ho).2.1,fun k hk=>by simp only at hk;omega⟩,a6⟩
     rw[yk,J',if_pos rfl,this]
     rfl
    ·exact⟨_,cs,lo,hi,a1,by rw[getElem?_modify_ne _ _ (Ne.symm yk)];exact a2,a3,a4,a7,a5,a6⟩
   ·exact jR.inj
  ·have h1:=hp.below
   have h0:Below base w w.drew:=aqS (vD _ _)
   have h2:Below base (w.drew.alloc (.cells cs' e)) ((w.drew.alloc (.cells cs' e)).freeze ⟨w.heap.size,cap,none⟩ 1):=by
    refine⟨?_, ?_, ?_, ?_,fun k hk=> ?_⟩
    ·unfold Rq;simp
    ·unfold Rq;simp
    ·unfold Rq;simp
    ·rw[K'];simp
    ·rw[K',getElem?_modify_ne _ _ (by omega)]
   exact(h0.trans h1).trans h2
  ·exact VR.iC fO (fun _=>rfl) (fun q=>by simp[bq]at q;omega) (fun _=>⟨an _,by omega⟩) Dc (by simp[dS])
 ·cases hr
theorem aer{t:TypeId}{l c l' c':Value}(hl:VR m l l')(hc:VR m c c')(x:WR P m base h w.heap)(hb:base<=w.heap.size)(hf:jQ m n n1)(hr:qh P t l c h n=some ⟨r,h1,n1,L⟩):Sound P base m w h n (Instr.makeSlice t l' c') r h1 n1:=by
 unfold qh at hr
 cases hu:P.underlying t with
 |none=>rw[hu]at hr;cases hr
 |some d=>
  rw[hu]at hr
  cases d<;>try(cases hr;done)
  rename_i e
  cases hl<;>try(cases hr;done)
  rename_i kl l
  cases hc<;>try(cases hr;done)
  rename_i kc c
  simp only at hr
  cases hi:P.info? e with
  |none=>rw[hi]at hr;cases hr
  |some ie=>
   cases hz:iB P e with
   |none=>rw[hi,hz]at hr;cases hr
   |some z=>
    rw[hi,hz]at hr
    simp only at hr
    split at hr
    ·rename_i ld
     simp only[cj,decide_eq_true_eq]at ld
     obtain⟨⟨⟨⟨⟨c1,c2⟩,c3⟩,c4⟩,c5⟩,c6⟩:=ld
     obtain⟨id,h2,n2,L1,L2,e1,e2,_⟩:=bind_some hr
     obtain⟨rfl,rfl,rfl⟩:=bY e2
     obtain⟨i2,gT,ju⟩:=F' hz
     rw[hi]at gT;cases gT
     have sT:=SH (m:=m) hz (c.toNat*ie.size)
     obtain⟨rfl,rfl,m',fO,hp⟩:=yn x e1 hf hb (cs':=aQ z (c.toNat*ie.size)) (by simp) (fun k v hk=>by simpa using sT.get k v hk) (esz:=ie.size) (by simp[size?,hi])
     refine⟨m',_,.slice (some ⟨w.heap.size,0,none⟩) l.toNat c.toNat, ?_,hp,VR.iC fO (fun _=>rfl) (fun _=>rfl) (fun q=>by simp[bq]at q;omega) (by omega) (by simp[aQ])⟩
     have aes:(ie.bytes:Int)*c<=281474976710656:=by
      have h1:(ie.bytes:Int)*c<=64*c:=Int.mul_le_mul_of_nonneg_right (by omega) (by omega)
      omega
     exact run_make w t e ie z hu hi ju kl kc l c c1 c2 aes (by omega)
    ·cases hr
end
section
variable {P:Program} {base:Nat} {m:Mp} {w:World} {h h1:H} {n n1:Nat} {r:Value} {L:List En}
theorem SJ{t:TypeId}{cs cs':Array Value}(hc:bA m cs.toList cs'.toList){off:Nat}(hr:partOf P t cs off=some r)(w:World):∃v',(part t cs' off).run P w= .ok v' w∧VR m r v':=by
 unfold partOf at hr
 cases hg:kS P t with
 |none=>rw[hg]at hr;cases hr
 |some g=>
  rw[hg]at hr
  cases g with
  |true=>
   cases hs:size? P t with
   |none=>rw[hs]at hr;cases hr
   |some k=>
    rw[hs]at hr
    simp only[eG]at hr
    subst hr
    refine⟨.agg (cs'.extract off (off+k)), ?_,.agg ?_⟩
    ·unfold part
     simp only[fL,yA hg w,gf,if_true,run_sizeOf hs]
     rfl
    ·have hl:cs.size=cs'.size:=by simpa using hc.length
     refine bA.oY (by simp[hl]) fun j v hj=> ?_
     simp only[Array.toList_extract,List.extract_eq_take_drop,List.getElem?_take,List.getElem?_drop]at hj⊢
     split at hj
     ·rename_i bM
      rw[if_pos bM]
      exact hc.get _ v hj
     ·cases hj
  |false=>
   simp only at hr
   obtain⟨v',eI,jF⟩:=hc.get off r (by simpa using hr)
   refine⟨v', ?_,jF⟩
   unfold part
   have:cs'[off]? =some v':=by simpa using eI
   simp only[fL,yA hg w,gf,sE,if_false,this]
   rfl
theorem Dd{t:TypeId}{v v':Value}{f:Nat}(hv:VR m v v')(hr:vN P t v f=some r)(w:World):∃u,(aq4 t v' f).run P w= .ok u w∧VR m r u:=by
 unfold vN at hr
 cases hu:P.underlying t with
 |none=>rw[hu]at hr;cases hr
 |some d=>
  rw[hu]at hr
  cases d<;>try(cases hr;done)
  rename_i fs
  cases hv<;>try(cases hr;done)
  rename_i cs cs' hc
  simp only at hr
  cases hf:fs[f]? with
  |none=>rw[hf]at hr;cases hr
  |some fd=>
   rw[hf]at hr
   obtain⟨u,nv,lh⟩:=SJ hc hr w
   refine⟨u, ?_,lh⟩
   unfold aq4
   simp only[fL,run_underlying hu,gf,hf,asAgg,qQ]
   exact nv
theorem aet{t:TypeId}{v v':Value}{f:Nat}(hv:VR m v v')(hr:AZ P t v f=some r)(w:World):∃u,(aq5 t v' f).run P w= .ok u w∧VR m r u:=by
 unfold AZ at hr
 cases hu:P.underlying t with
 |none=>rw[hu]at hr;cases hr
 |some d=>
  rw[hu]at hr
  cases d<;>try(cases hr;done)
  rename_i fs
  cases hv<;>try(cases hr;done)
  rename_i b off d hd
  simp only at hr
  cases hf:fs[f]? with
  |none=>rw[hf]at hr;cases hr
  |some fd=>
   rw[hf]at hr
   simp only at hr
   cases hs:size? P fd.type with
   |none=>rw[hs]at hr;cases hr
   |some k=>
    rw[hs]at hr
    simp only at hr
    split at hr
    ·cases hr
    ·rename_i hk
     cases hr
     refine⟨.pointer (some ⟨d.bE,d.sh+(off+fd.offset),none⟩), ?_,VR.ptr hd⟩
     unfold aq5
     simp only[fL,run_underlying hu,gf,hf,Ka,qQ,fieldPlace,run_sizeOf hs,if_neg hk,nm]
     rw[vF]
theorem aeu{t:TypeId}{v v' i i':Value}(hv:VR m v v')(hi:VR m i i')(hr:uz P t v i=some r)(w:World):∃u,(ac8 t v' i').run P w= .ok u w∧VR m r u:=by
 unfold uz at hr
 cases hu:P.underlying t with
 |none=>rw[hu]at hr;cases hr
 |some d=>
  rw[hu]at hr
  cases d<;>try(cases hr;done)
  case slice e=>
   cases hv<;>try(cases hr;done)
   rename_i b off len cap dz o' d hd ho c1 c2 c3 c4
   cases hi<;>try(cases hr;done)
   rename_i k j
   simp only at hr
   cases hs:size? P e with
   |none=>rw[hs]at hr;cases hr
   |some sz=>
    rw[hs]at hr
    simp only at hr
    split at hr
    ·rename_i hj
     cases hr
     refine⟨.pointer (some ⟨d.bE,d.sh+(off+j.toNat*sz),none⟩), ?_,VR.ptr hd⟩
     unfold ac8
     simp only[asIntOf,pure_bind,fL,run_underlying hu,gf,qQ,if_pos hj,run_sizeOf hs,nm,ho (.inl (by omega))]
     rw[vF]
    ·cases hr
  case array len e=>
   cases hv<;>try(cases hr;done)
   rename_i b off d hd
   cases hi<;>try(cases hr;done)
   rename_i k j
   simp only at hr
   cases hs:size? P e with
   |none=>rw[hs]at hr;cases hr
   |some sz=>
    rw[hs]at hr
    simp only at hr
    split at hr
    ·rename_i hj
     cases hr
     refine⟨.pointer (some ⟨d.bE,d.sh+(off+j.toNat*sz),none⟩), ?_,VR.ptr hd⟩
     unfold ac8
     simp only[asIntOf,pure_bind,fL,run_underlying hu,gf,qQ,Ka,if_pos hj,run_sizeOf hs,nm]
     rw[vF]
    ·cases hr
theorem aev{t:TypeId}{v v' i i':Value}(hv:VR m v v')(hi:VR m i i')(hr:A1 P t v i=some r)(w:World):∃u,(FH t v' i').run P w= .ok u w∧VR m r u:=by
 unfold A1 at hr
 cases hu:P.underlying t with
 |none=>rw[hu]at hr;cases hr
 |some d=>
  rw[hu]at hr
  cases d<;>try(cases hr;done)
  rename_i len e
  cases hv<;>try(cases hr;done)
  rename_i cs cs' hc
  cases hi<;>try(cases hr;done)
  rename_i k j
  simp only at hr
  cases hs:size? P e with
  |none=>rw[hs]at hr;cases hr
  |some sz=>
   rw[hs]at hr
   simp only at hr
   split at hr
   ·rename_i hj
    obtain⟨u,nv,lh⟩:=SJ hc hr w
    refine⟨u, ?_,lh⟩
    unfold FH
    simp only[asIntOf,pure_bind,fL,run_underlying hu,gf,if_pos hj,run_sizeOf hs]
    exact nv
   ·cases hr
theorem aew{v v':Value}{i:Nat}(hv:VR m v v')(hr:vO v i=some r)(w:World):∃u,(aq6 v' i).run P w= .ok u w∧VR m r u:=by
 unfold vO at hr
 cases hv<;>try(cases hr;done)
 rename_i cs cs' hc
 simp only at hr
 obtain⟨u,hu,lh⟩:=hc.get i r (by simpa using hr)
 have:cs'[i]? =some u:=by simpa using hu
 exact⟨u,by simp[aq6,this],lh⟩
def vY(m:Mp)(a b:Option Value):Prop:=match a,b with
 |none,none=>True
 |some x,some y=>VR m x y
 |_,_=>False
theorem Bc{a b:Option Value}{d k:Nat}(ha:vY m a b)(hr:fH a d=some k):(a=none∧b=none∧k=d)∨∃kd i,a=some (.int kd i)∧b=some (.int kd i)∧0<=i∧k=i.toNat:=by
 unfold fH at hr
 cases a with
 |none=>
  cases b with
  |none=>left;exact⟨rfl,rfl,by simpa using hr.symm⟩
  |some y=>cases ha
 |some x=>
  cases b with
  |none=>cases ha
  |some y=>
   have ha:VR m x y:=ha
   cases ha<;>simp at hr
   rename_i kd i
   exact .inr ⟨kd,i,rfl,rfl,hr.1,hr.2.symm⟩
theorem uH{k:IntKind}{i:Int}{y:Nat}{code:BoundsCode}(h0:0<=i)(h1:i.toNat<=y)(w:World):(Rt (.int k i) y code).run P w= .ok i.toNat w:=by
 have:0<=i∧i<=(y:Int):=⟨h0,by omega⟩
 simp[Rt,asIntOf,this]
theorem SK{t:TypeId}{v v':Value}(dS:∀b off l c e,v= .slice (some ⟨b,off,none⟩) l c->P.underlying t=some (.slice e)->∃d,m b=some d∧size? P e=some d.esz){lo hi mx rf uI Ga:Option Value}(hv:VR m v v')(hl:vY m lo rf)(hh:vY m hi uI)(hm:vY m mx Ga)(hr:AY P t v lo hi mx=some r)(w:World):
 ∃u,(Kb t v' rf uI Ga).run P w= .ok u w∧VR m r u:=by
 unfold AY at hr
 cases hu:P.underlying t with
 |none=>rw[hu]at hr;cases hr
 |some dd=>
  rw[hu]at hr
  cases dd<;>try(cases hr;done)
  rename_i e
  have core:∀(a:Option Addr) (len cap dz:Nat),(∀sz mm qp ll,size? P e=some sz->fH mx cap=some mm->fH hi len=some qp->fH lo 0=some ll->(mx.isSome&& !hi.isSome)=false->
   (ll<=qp∧qp<=mm∧mm<=cap∧(cap<bq∨(mx=none∧qp<=len)))->(cap<bq->dz=cap)->len<=dz->
   (Kb t (.slice a len dz) rf uI Ga).run P w= .ok (.slice (if(if mx=none then dz else mm)=ll then a else a.map (·.add (ll*sz))) (qp-ll) ((if mx=none then dz else mm)-ll)) w):=by
   intro a len cap dz sz mm qp ll hs mO qq kZ vZ hc iT hlen
   obtain⟨c1,c2,c3,c4⟩:=hc
   have Gb:qp<=dz:=by
    rcases c4 with q|⟨_,q⟩
    ·rw[iT q];omega
    ·omega
   have aex:(aq7 true len dz rf uI Ga).run P w= .ok (ll,qp,if mx=none then dz else mm) w:=by
    unfold aq7
    rcases Bc hm mO with ⟨rfl,rfl,rfl⟩|⟨km,im,rfl,rfl,pm,rfl⟩
    ·rcases Bc hh qq with ⟨rfl,rfl,rfl⟩|⟨kh,ih,rfl,rfl,ph,rfl⟩
     ·rcases Bc hl kZ with ⟨rfl,rfl,rfl⟩|⟨kl,il,rfl,rfl,pl,rfl⟩
      ·simp
      ·simp[uH pl c1 w]
     ·rcases Bc hl kZ with ⟨rfl,rfl,rfl⟩|⟨kl,il,rfl,rfl,pl,rfl⟩
      ·simp[uH ph Gb w]
      ·simp[uH ph Gb w,uH pl c1 w]
    ·rcases Bc hh qq with ⟨rfl,rfl,rfl⟩|⟨kh,ih,rfl,rfl,ph,rfl⟩
     ·simp at vZ
     ·have q:cap<bq:=by
       rcases c4 with q|⟨q,_⟩
       ·exact q
       ·cases q
      have e:im.toNat<=dz:=by rw[iT q];exact c3
      rcases Bc hl kZ with ⟨rfl,rfl,rfl⟩|⟨kl,il,rfl,rfl,pl,rfl⟩
      ·simp[uH pm e w,uH ph c2 w]
      ·simp[uH pm e w,uH ph c2 w,uH pl c1 w]
   unfold Kb
   simp only[fL,run_underlying hu,gf]
   unfold Instr.slice
   simp only[fL,run_underlying hu,gf,aex,run_sizeOf hs,qQ]
  cases hv<;>try(cases hr;done)
  case o0 len cap iT=>
   simp only at hr
   cases hs:size? P e with
   |none=>rw[hs]at hr;cases hr
   |some sz=>
    cases mO:fH mx cap with
    |none=>rw[hs,mO]at hr;cases hr
    |some mm=>
     cases qq:fH hi len with
     |none=>rw[hs,mO,qq]at hr;cases hr
     |some qp=>
      cases kZ:fH lo 0 with
      |none=>rw[hs,mO,qq,kZ]at hr;cases hr
      |some ll=>
       rw[hs,mO,qq,kZ]at hr
       simp only at hr
       split at hr
       ·cases hr
       ·rename_i vZ
        split at hr
        ·rename_i hc
         cases hr
         simp only[cj,pY,decide_eq_true_eq,aq8]at hc
         have De:(if mx=none then cap else mm)=mm:=by
          split
          ·rename_i q;subst q;simpa[fH]using mO
          ·rfl
         refine⟨_,core none len cap cap sz mm qp ll hs mO qq kZ (Bool.eq_false_iff.2 vZ) ⟨hc.1.1.1,hc.1.1.2,hc.1.2,hc.2⟩ (fun _=>rfl) iT.1, ?_⟩
         rw[De]
         have:(if mm=ll then(none:Option Addr)else Option.map (fun(q:Addr)=>q.add (ll*sz)) none)=none:=by split<;>rfl
         rw[this]
         exact .o0 _ _ (by omega)
        ·cases hr
  case sQ b off s a'=>
   exfalso
   simp only at hr
   repeat' (first|(cases hr;done)|split at hr)
  case iC b off len cap dz o' d hd ho c1 c2 c3 c4=>
   simp only at hr
   cases hs:size? P e with
   |none=>rw[hs]at hr;cases hr
   |some sz=>
    cases mO:fH mx cap with
    |none=>rw[hs,mO]at hr;cases hr
    |some mm=>
     cases qq:fH hi len with
     |none=>rw[hs,mO,qq]at hr;cases hr
     |some qp=>
      cases kZ:fH lo 0 with
      |none=>rw[hs,mO,qq,kZ]at hr;cases hr
      |some ll=>
       rw[hs,mO,qq,kZ]at hr
       simp only at hr
       split at hr
       ·cases hr
       ·rename_i vZ
        split at hr
        ·rename_i hc
         cases hr
         simp only[cj,pY,decide_eq_true_eq,aq8]at hc
         refine⟨_,core _ len cap dz sz mm qp ll hs mO qq kZ (Bool.eq_false_iff.2 vZ) ⟨hc.1.1.1,hc.1.1.2,hc.1.2,hc.2⟩ c1 c3, ?_⟩
         obtain⟨d2,qt,rh⟩:=dS b off len cap e rfl hu
         rw[hd]at qt;cases qt
         rw[hs]at rh
         have rh:sz=d.esz:=by simpa using rh
         subst rh
         obtain⟨⟨⟨k1,k2⟩,k3⟩,k4⟩:=hc
         by_cases iT:cap<bq
         ·have uC:=c1 iT
          subst uC
          have uE:=ho (.inr iT)
          subst uE
          have De:(if mx=none then dz else mm)=mm:=by
           split
           ·rename_i q;subst q;simpa[fH]using mO
           ·rfl
          rw[De]
          have hmul:ll*d.esz+(mm-ll)*d.esz=mm*d.esz:=by rw[<-pZ];congr 1;omega
          have hle:mm*d.esz<=dz*d.esz:=Nat.mul_le_mul_right _ k3
          by_cases lq:mm=ll
          ·rw[if_pos lq,if_pos lq]
           exact VR.iC hd (fun _=>rfl) (fun _=>rfl) (fun q=>by omega) (by omega) (by omega)
          ·rw[if_neg lq,if_neg lq]
           simp only[FF,nm]
           exact VR.iC hd (fun _=>by omega) (fun _=>rfl) (fun q=>by omega) (by omega) (by omega)
         ·have Gb:bq<=cap:=by omega
          obtain⟨q1,q2⟩:=c2 Gb
          rcases k4 with k4|⟨k4,k5⟩
          ·omega
          ·subst k4
           have De:mm=cap:=by simpa[fH]using mO.symm
           subst De
           simp only[if_true]
           have Gc:ll<=dz:=by omega
           have hmul:ll*d.esz+(dz-ll)*d.esz=dz*d.esz:=by rw[<-pZ];congr 1;omega
           have lq:¬mm=ll:=by unfold bq at*;omega
           rw[if_neg lq]
           by_cases gN:dz=ll
           ·rw[if_pos gN]
            exact VR.iC hd (fun q=>by omega) (fun q=>by omega) (fun q=>by omega) (by omega) (by omega)
           ·rw[if_neg gN]
            simp only[FF,nm]
            exact VR.iC hd (fun q=>by have:=ho (.inl (by omega));omega) (fun q=>by omega) (fun q=>by omega) (by omega) (by omega)
        ·cases hr
end
end Go.Proofs.YtmjolmggelkjlaaGreat.Ev
