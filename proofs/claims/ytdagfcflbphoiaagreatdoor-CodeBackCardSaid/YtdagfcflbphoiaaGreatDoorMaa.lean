import Derived.WalkKit
import Derived.WalkSpells
import Derived.WalkLawsBesides
import Derived.Lib.Bytealg
import Derived.Lib.Bytes
import Derived.Lib.Repeat
import Derived.Laws.Append
import Derived.Laws.Cells
import Derived.Orders
import Derived.Laws.Sem
import Derived.Laws.MakeOwn
import Derived.Laws.BytesString
open Nat renaming le_refl→ak, add_mul→kF, pow_succ→oY, le_trans→xM, add_assoc→E1, strongRecOn→K5, lt_or_ge→K7
open List renaming getD_eq_getElem?_getD→aC, getElem?_eq_none→vG, foldl_cons→WL, getElem?_set_ne→ag1, mem_of_getElem?→ag'
open Bool renaming and_eq_true→bZ, false_eq_true→qg, or_eq_true→vF, true_and→EZ
open Option.some renaming injEq→dV, inj→vI
open Go.Sem renaming run_bind→eO, run_pure→nN, bind→xL, run→Av
open Go.Result renaming andThen→fc
open Go.Region renaming wanted→fK, binds→oX, ready→K6
open Go.Value renaming int→iy
open Go.Instr renaming fill→lB, index→Az, sliceAt→AA, sureAddr→E0, sliceBound→La, buildSlice→WN, loadAt→WO, indexAt→WU, alloc→ahe, build→ahf, storeAt→ahi, field→aho, fieldAt→ahp, extract→ahq, sliceBounds→ahr
open UInt8 renaming ofNat→nM
open Array renaming getD_eq_getD_getElem?→oZ, all_eq_true_iff_forall_mem→tr, replicate→xO, getElem?_modify→EX, getElem?_setIfInBounds_ne→WJ, map_congr_left→WK, mem_of_getElem?→aha, getElem?_replicate→ahc, getElem?_append_left→ahd
open Go.RowKit.Below renaming refl→rp, drew→ahb
open Go.Call renaming operands→xN
open Option renaming map_some→Au, bind_some→K4, isNone_iff_eq_none→ahs
open Go.World renaming freeze→K'
open Go.Question renaming cut→WQ, forced→ahl
open Go renaming undef→ag2
open Go.Act renaming put→ag6
open Go.Oper renaming looksAt→ag7, apart_spec→ag_
open Go.Conv renaming bytesToString→ahj, stringToBytes→ahk
open Classical renaming choose→ai5, choose_spec→ai6
set_option linter.unusedVariables false
set_option linter.unusedSimpArgs false
namespace Go.Proofs.YtdagfcflbphoiaaGreatDoor.Ev
open Go
def KN:List FuncId:=[8]
def NV:List (FuncId×Nat):=[]
def KG:List (Nat×Nat×Value):=[(0,0,.int .i64 200),(0,1,.int .i64 600),(0,2,.int .i64 1200),(0,3,.int .i64 2400)]
inductive Tr (α:Type) where
 |nil
 |node (l:Tr α) (v:Option α) (r:Tr α)
def Tr.get{α:Type}:Nat->Tr α->Nat->Option α
 |0,_,_=>none
 |_+1,.nil,_=>none
 |f+1,.node l v r,i=>if i=0 then v else if i %2=1 then Tr.get f l (i/2)else Tr.get f r (i/2-1)
def Tr.set{α:Type}:Nat->Tr α->Nat->Option α->Tr α
 |0,t,_,_=>t
 |f+1,.nil,i,a=>if i=0 then .node .nil a .nil else if i %2=1 then .node (Tr.set f .nil (i/2) a) none .nil else .node .nil none (Tr.set f .nil (i/2-1) a)
 |f+1,.node l v r,i,a=>if i=0 then .node l a r else if i %2=1 then .node (Tr.set f l (i/2) a) v r else .node l v (Tr.set f r (i/2-1) a)
structure AB where
 elem:TypeId
 own:Bool
 cells:List Value
abbrev H:=Tr AB
def H.get(h:H)(b:Nat):Option AB:=Tr.get (b+1) h b
def H.set(h:H)(b:Nat)(x:Option AB):H:=Tr.set (b+1) h b x
abbrev S:=Tr Value
def S.get(s:S)(t:Nat):Value:=(Tr.get 10 s t).getD undef
def S.put(s:S)(t:Nat)(v:Value):S:=Tr.set 10 s t (some v)
structure En where
 wr:Bool
 b:Nat
 k:Option Nat
structure Out (α:Type) where
 val:α
 h:H
 n:Nat
 log:List En
def M(α:Type):=H->Nat->Option (Out α)
def M.ret{α:Type}(a:α):M α:=fun h n=>some ⟨a,h,n,[]⟩
def M.fail{α:Type}:M α:=fun _ _=>none
def M.lift{α:Type}(o:Option α):M α:=fun h n=>match o with|some a=>some ⟨a,h,n,[]⟩|none=>none
def M.bind{α β:Type}(m:M α)(f:α->M β):M β:=fun h n=>
 match m h n with
 |some ⟨a,h1,n1,L1⟩=>match f a h1 n1 with
  |some ⟨c,h2,n2,L2⟩=>some ⟨c,h2,n2,L1++L2⟩
  |none=>none
 |none=>none
instance:Monad M where
 pure:=M.ret
 bind:=M.bind
def rd(b k:Nat):M Value:=fun h n=>
 if b<n then match h.get b with
  |some B=>match B.cells[k]? with
   |some v=>some ⟨v,h,n,[⟨false,b,some k⟩]⟩
   |none=>none
  |none=>none
 else none
def one:Value->Bool
 | .agg _| .tuple _=>false
 |_=>true
def wr(b k:Nat)(v:Value):M Unit:=fun h n=>
 if b<n then match h.get b with
  |some B=>if B.own&&k<B.cells.length&&one v then some ⟨(),h.set b (some {B with cells:=B.cells.set k v}),n,[⟨false,b,some k⟩,⟨true,b,some k⟩]⟩else none
  |none=>none
 else none
def cR(e:TypeId)(cs:List Value):M Nat:=fun h n=>
 if n<n+1 then some ⟨n,h.set n (some ⟨e,true,cs⟩),n+1,[]⟩else none
def whole(b:Nat):M AB:=fun h n=>
 if b<n then match h.get b with
  |some B=>some ⟨B,h,n,[⟨false,b,none⟩]⟩
  |none=>none
 else none
def iA(b:Nat):M TypeId:=fun h n=>
 if b<n then match h.get b with
  |some B=>some ⟨B.elem,h,n,[⟨false,b,some 1099511627776⟩]⟩
  |none=>none
 else none
def kill(b:Nat):M Unit:=fun h n=>
 if b<n then match h.get b with
  |some B=>if B.own then some ⟨(),h.set b none,n,[⟨false,b,none⟩,⟨true,b,none⟩]⟩else none
  |none=>none
 else none
def db(b k:Nat):Nat->M (List Value)
 |0=> .ret []
 |n+1=>(rd b k).bind fun v=>(db b (k+1) n).bind fun vs=> .ret (v::vs)
def eD(b k:Nat):List Value->M Unit
 |[]=> .ret ()
 |v::vs=>(wr b k v).bind fun _=>eD b (k+1) vs
def inside{α:Type}(m:M α):M α:=fun h n=>
 match m h n with
 |some ⟨a,h1,n1,L⟩=>some ⟨a,h1,n1,L.filter fun e=> !(n<=e.b&&e.b<n1)⟩
 |none=>none
def ba:Nat:=1152921504606846976
def jZ(P:Program)(t:TypeId):Option Bool:=
 match P.underlying t with
 |some (.struct _)|some (.array _ _)=>some true
 |some _=>some false
 |none=>none
def size?(P:Program)(t:TypeId):Option Nat:=(P.info? t).map (·.size)
def qi:Value->Bool
 | .bool _| .int _ _| .float _ _| .string _| .pointer none| .nilFunc=>true
 | .slice none n c=>n<=c&&c<ba
 |_=>false
def clean:Value->Bool
 | .agg cs=>cs.all qi
 | .tuple cs=>cs.all qi
 |v=>qi v
def fL(P:Program)(t:TypeId):Option Value:=match (P.info? t).bind (·.zero)with
 |some z=>if clean z then some z else none
 |none=>none
def scalar:Value->Bool
 | .bool _| .int _ _| .string _=>true
 |_=>false
def iP(P:Program):Sem Next->Option Value
 | .pure (.value v)=>some v
 | .program k=>iP P (k P)
 |_=>none
def partOf(P:Program)(t:TypeId)(cs:Array Value)(off:Nat):Option Value:=
 match jZ P t,size? P t with
 |some true,some n=>some (.agg (cs.extract off (off+n)))
 |some false,_=>cs[off]?
 |_,_=>none
def bytesOf:List Value->ByteArray->Option ByteArray
 |[],acc=>some acc
 | .int .u8 n::r,acc=>bytesOf r (acc.push (nM n.toNat))
 |_,_=>none
inductive Nx where
 |val (v:Value)
 |call (f:FuncId) (args:Array Value)
def kI(sz:Nat)(n:Nat):Value->M (List Value)
 | .slice (some ⟨b,off,none⟩) _ _=>db b off (n*sz)
 | .string s=> .ret ((s.extract 0 n).data.map fun b=>iy .u8 b.toNat).toList
 |_=> .fail
def iQ:Value->Option Nat
 | .slice _ n _=>some n
 | .string s=>some s.size
 |_=>none
def mT(e:TypeId)(l n:Nat)(old new:List Value):M Value:=
 (cR e (old++new)).bind fun id=> .ret (.slice (some ⟨id,0,none⟩) (l+n) (ba+(l+n)))
def tt(e:TypeId)(n sz b off l cap:Nat)(new:List Value):M Value:=
 if cap<ba then
  if l+n<=cap then(eD b (off+l*sz) new).bind fun _=> .ret (.slice (some ⟨b,off,none⟩) (l+n) cap)
  else(db b off (l*sz)).bind fun old=>mT e l n old new
 else(db b off (l*sz)).bind fun old=>(kill b).bind fun _=>mT e l n old new
def o6(P:Program)(Xn:TypeId)(s x:Value):M Value:=
 match P.underlying Xn with
 |some (.slice e)=>match P.info? e,fL P e,iQ x with
  |some ie,some z,some n=>
    if z.cells.size=ie.size&&1<=ie.size&&ie.bytes<=64 then
    if n=0 then(match s with| .slice _ _ _=> .ret s|_=> .fail)else
    match s with
    | .slice none 0 0=>if n<=1099511627776 then(kI ie.size n x).bind fun new=>if new.length=n*ie.size&&new.all one then mT e 0 n [] new else .fail else .fail
    | .slice (some ⟨b,off,none⟩) l cap=>
      if l+n<=1099511627776 then
      (iA b).bind fun e'=>if e'=e then
        (kI ie.size n x).bind fun new=>if new.length=n*ie.size&&new.all one then tt e n ie.size b off l cap new else .fail
      else .fail
      else .fail
    |_=> .fail
    else .fail
  |_,_,_=> .fail
 |_=> .fail
def er(o:Option Value)(d:Nat):Option Nat:=
 match o with
 |none=>some d
 |some (.int _ i)=>if 0<=i then some i.toNat else none
 |_=>none
def mU:Option TypeDesc->Value->Value->Option Bool
 |some (.pointer _),.pointer none,.pointer b=>some b.isNone
 |some (.pointer _),.pointer _,.pointer none=>some false
 |some (.slice _),.slice none _ _,.slice b _ _=>some b.isNone
 |some (.slice _),.slice _ _ _,.slice none _ _=>some false
 |some (.func _ _ _),.nilFunc,.nilFunc=>some true
 |some (.func _ _ _),.nilFunc,.func _ _ _=>some false
 |some (.func _ _ _),.func _ _ _,.nilFunc=>some false
 |_,_,_=>none
def vN(P:Program)(t:TypeId)(x:Value)(lo hi mx:Option Value):Option Value:=
 match P.underlying t,x with
 |some (.slice e),.slice a len cap=>
  match size? P e,er mx cap,er hi len,er lo 0 with
  |some sz,some m,some h,some l=>
   if mx.isSome&& !hi.isSome then none else
   if l<=h&&h<=m&&m<=cap&&(cap<ba||(mx.isNone&&h<=len))then
    match a with
    |none=>some (.slice none (h-l) (m-l))
    |some ⟨b,off,none⟩=>some (.slice (some ⟨b,if m=l then off else off+l*sz,none⟩) (h-l) (m-l))
    |_=>none
   else none
  |_,_,_,_=>none
 |_,_=>none
def nV(P:Program)(t:TypeId)(x:Value)(lo hi mx:Option Value):M Value:=
 match x with
 | .slice (some ⟨b,_,none⟩) _ _=>(iA b).bind fun e'=>match P.underlying t with
   |some (.slice e)=>if size? P e'=size? P e then M.lift (vN P t x lo hi mx)else .fail
   |_=> .fail
 |_=>M.lift (vN P t x lo hi mx)
def mV(P:Program)(e:TypeId):M Value:=
 match fL P e with
 |some z=>(cR e z.cells.toList).bind fun id=> .ret (.pointer (some ⟨id,0,none⟩))
 |none=> .fail
def mW(P:Program)(e:TypeId)(v:Value):M Value:=
 match size? P e with
 |some _=>(cR e v.cells.toList).bind fun id=> .ret (.pointer (some ⟨id,0,none⟩))
 |none=> .fail
def placeOf(P:Program)(fs:Array Field)(i:Nat):Option (Nat×Nat):=(fs[i]?).bind fun f=>(size? P f.type).map fun n=>(f.offset,n)
def mg(P:Program)(t:TypeId)(parts:List (Nat×Value)):M Value:=
 match fL P t,P.underlying t with
 |some z,some (.struct fs)=>if fs.all fun f=>(size? P f.type).isSome then
   (match lB (placeOf P fs) z.cells parts with
   |some cs=> .ret (.agg cs)
   |none=> .fail)else .fail
 |_,_=> .fail
def gK(z:Value)(n:Nat):Array Value:=(Array.range n).map (z.cells[·%z.cells.size]!)
def mh(P:Program)(t:TypeId)(len:Nat)(parts:List (Nat×Value)):M Value:=
 match P.underlying t with
 |some (.slice e)=>match size? P e,fL P e with
  |some sz,some z=>
   if len=0&&parts.isEmpty then(cR e []).bind fun id=> .ret (.slice (some ⟨id,0,none⟩) 0 0)else
   if 0<len*sz&&len*sz<=65536 then
    match lB (fun i=>some (i*sz,sz)) (gK z (len*sz)) parts with
    |some cs=>(cR e cs.toList).bind fun id=> .ret (.slice (some ⟨id,0,none⟩) len len)
    |none=> .fail
   else .fail
  |_,_=> .fail
 |_=> .fail
def iR(P:Program)(t:TypeId):Value->M Value
 | .pointer (some ⟨b,off,none⟩)=>match jZ P t,size? P t with
   |some true,some n=>(db b off n).bind fun vs=> .ret (.agg vs.toArray)
   |some false,_=>rd b off
   |_,_=> .fail
 |_=> .fail
def nW(P:Program)(t:TypeId)(a x:Value):M Value:=
 match a with
 | .pointer (some ⟨b,off,none⟩)=>match size? P t with
   |some n=>if x.cells.size=n then(eD b off x.cells.toList).bind fun _=> .ret undef else .fail
   |none=> .fail
 |_=> .fail
def qj:Value->M Value
 | .pointer (some a)=> .ret (.pointer (some a))
 | .func (.func f) a b=> .ret (.func (.func f) a b)
 |_=> .fail
def mX:Value->M Value
 | .slice none _ _=> .ret (.string .empty)
 | .slice (some ⟨b,off,none⟩) len _=>(db b off len).bind fun vs=>match bytesOf vs .empty with
   |some s=> .ret (.string s)
   |none=> .fail
 |_=> .fail
def qk(e:TypeId)(s:ByteArray):M Value:=
 if s.size<=1099511627776 then(cR e (s.data.map fun b=>iy .u8 b.toNat).toList).bind fun id=> .ret (.slice (some ⟨id,0,none⟩) s.size (ba+s.size))else .fail
def mY(P:Program)(e:TypeId):Bool:=match P.underlying e with|some (.int .u8)=>true|_=>false
def rD:Option TypeDesc->Option TypeDesc->Option TypeId
 |some (.slice e),some .string=>some e
 |_,_=>none
def tu:Option TypeDesc->Option TypeDesc->Value->Option (TypeId×ByteArray)
 |some .string,some (.slice e),.string s=>some (e,s)
 |_,_,_=>none
def mZ(P:Program)(t:TypeId)(l c:Value):M Value:=
 match P.underlying t,l,c with
 |some (.slice e),.int _ l,.int _ c=>match P.info? e,fL P e with
  |some ie,some z=>if 0<=l&&l<=c&&c<=1099511627776&&ie.bytes<=64&&z.cells.size=ie.size&&1<=ie.size then
    (cR e (gK z (c.toNat*ie.size)).toList).bind fun id=> .ret (.slice (some ⟨id,0,none⟩) l.toNat c.toNat)
   else .fail
  |_,_=> .fail
 |_,_,_=> .fail
def vO(P:Program)(s:TypeId)(x:Value)(f:Nat):Option Value:=
 match P.underlying s,x with
 |some (.struct fs),.pointer (some ⟨b,off,none⟩)=>match fs[f]? with
  |some fd=>match size? P fd.type with
   |some n=>if n=0 then none else some (.pointer (some ⟨b,off+fd.offset,none⟩))
   |none=>none
  |none=>none
 |_,_=>none
def rE(P:Program)(t:TypeId)(x:Value)(f:Nat):Option Value:=
 match P.underlying t,x with
 |some (.struct fs),.agg cs=>match fs[f]? with
  |some fd=>partOf P fd.type cs fd.offset
  |none=>none
 |_,_=>none
def qm(P:Program)(t:TypeId)(x ix:Value):Option Value:=
 match P.underlying t,x,ix with
 |some (.slice e),.slice (some ⟨b,off,none⟩) len _,.int _ i=>match size? P e with
  |some sz=>if 0<=i∧i<len then some (.pointer (some ⟨b,off+i.toNat*sz,none⟩))else none
  |none=>none
 |some (.array len e),.pointer (some ⟨b,off,none⟩),.int _ i=>match size? P e with
  |some sz=>if 0<=i∧i<len then some (.pointer (some ⟨b,off+i.toNat*sz,none⟩))else none
  |none=>none
 |_,_,_=>none
def vP(P:Program)(t:TypeId)(x ix:Value):Option Value:=
 match P.underlying t,x,ix with
 |some (.array len e),.agg cs,.int _ i=>match size? P e with
  |some sz=>if 0<=i∧i<len then partOf P e cs (i.toNat*sz)else none
  |none=>none
 |_,_,_=>none
def rF(x:Value)(i:Nat):Option Value:=
 match x with
 | .tuple vs=>vs[i]?
 |_=>none
def fS(P:Program)(ρ:Operand->Value)(o:Oper):M Nx:=
 if o.op.operands.all fun x=>scalar (ρ x)then(M.lift (iP P (execOp ρ o))).bind fun v=>if scalar v then .ret (.val v)else .fail else .fail
def isStr:Value->Bool
 | .string _=>true
 |_=>false
def AR:Value->Option (FuncId×Array Value×Array Value)
 | .func (.func g) first captured=>some (g,first,captured)
 |_=>none
def j1(P:Program)(g:FuncId):Bool:=match P.funcs[g]? with
 |some fn=>fn.body.isSome
 |none=>false
def LF(P:Program)(t:TypeId):Bool:=match P.underlying t with
 |some (.slice _)|some .string=>true
 |_=>false
def vQ(P:Program)(dc:Array TypeId)(args:List Value):Option (TypeId×Value×Value):=match dc[0]?,dc[1]?,args with
 |some t,some u,[s,x]=>if LF P u then some (t,s,x)else none
 |_,_,_=>none
def o7(P:Program)(t:TypeId)(d s:Value):M Value:=
 match P.underlying t with
 |some (.slice e)=>match size? P e,d,iQ s with
  |some sz,.slice a dl _,some sl=>
   if 0<Nat.min sl dl then(match a with
    |some ⟨b,off,none⟩=>(kI sz (Nat.min sl dl) s).bind fun vs=>(eD b off vs).bind fun _=> .ret (.int .i64 (Nat.min sl dl))
    |_=> .fail)
   else .ret (.int .i64 0)
  |_,_,_=> .fail
 |_=> .fail
def vR(dc:Array TypeId)(args:List Value):Option (TypeId×Value×Value):=match dc[0]?,args with
 |some t,[d,s]=>some (t,d,s)
 |_,_=>none
def tw(P:Program)(dc:Array TypeId)(args:List Value):Option Nat:=match dc[0]?,args with
 |some t,.slice _ n _::_=>(match P.underlying t with|some (.slice _)=>some n|_=>none)
 |_,_=>none
def j2(P:Program)(ρ:Operand->Value)(o:Oper)(c:Call)(args:Array Value):M Nx:=
 match c.callee with
 | .value f=>match AR (ρ f)with
   |some (g,first,captured)=>if j1 P g then .ret (.call g (first++args++captured))else .fail
   |none=> .fail
 | .builtin .append=>match vQ P c.argTypes args.toList with
   |some (t,s,x)=>(o6 P t s x).bind fun v=> .ret (.val v)
   |none=> .fail
 | .builtin .copy=>match vR c.argTypes args.toList with
   |some (t,d,s)=>(o7 P t d s).bind fun v=> .ret (.val v)
   |none=> .fail
 | .builtin .len=>match tw P c.argTypes args.toList with
   |some n=> .ret (.val (.int .i64 n))
   |none=>fS P ρ o
 | .builtin .min| .builtin .max=>fS P ρ o
 |_=> .fail
def bU(P:Program)(ρ:Operand->Value)(o:Oper):M Nx:=
 match o.op with
 | .move x| .assign x=> .ret (.val (ρ x))
 | .pick c a b=>match ρ c with
   | .bool t=> .ret (.val (if t then ρ a else ρ b))
   |_=> .fail
 | .alloc e=>(mV P e).bind fun v=> .ret (.val v)
 | .box e x=>(mW P e (ρ x)).bind fun v=> .ret (.val v)
 | .build t parts=>(mg P t (parts.toList.map fun(i,x)=>(i,ρ x))).bind fun v=> .ret (.val v)
 | .buildSlice t len parts=>(mh P t len (parts.toList.map fun(i,x)=>(i,ρ x))).bind fun v=> .ret (.val v)
 | .load t a=>(iR P t (ρ a)).bind fun v=> .ret (.val v)
 | .store t a x=>(nW P t (ρ a) (ρ x)).bind fun v=> .ret (.val v)
 | .nilCheck x=>(qj (ρ x)).bind fun v=> .ret (.val v)
 | .binOp op t x y _=>match mU (P.underlying t) (ρ x) (ρ y),op with
   |some v,.eql=> .ret (.val (.bool v))
   |some v,.neq=> .ret (.val (.bool (!v)))
   |none,_=>fS P ρ o
   |_,_=> .fail
 | .unOp _ _ _=>fS P ρ o
 | .convert src dst x=>match rD (P.underlying src) (P.underlying dst)with
   |some e=>if mY P e then(mX (ρ x)).bind fun v=> .ret (.val v)else .fail
   |none=>match tu (P.underlying src) (P.underlying dst) (ρ x)with
    |some (e,s)=>if mY P e&&size? P e==some 1 then(qk e s).bind fun v=> .ret (.val v)else .fail
    |none=>fS P ρ o
 | .makeFunc fn a b=> .ret (.val (.func fn (a.map ρ) (b.map ρ)))
 | .makeSlice t l c=>(mZ P t (ρ l) (ρ c)).bind fun v=> .ret (.val v)
 | .slice t x lo hi mx=>if isStr (ρ x)then fS P ρ o else(nV P t (ρ x) (lo.map ρ) (hi.map ρ) (mx.map ρ)).bind fun v=> .ret (.val v)
 | .fieldAddr s x f=>(M.lift (vO P s (ρ x) f)).bind fun v=> .ret (.val v)
 | .field t x f=>(M.lift (rE P t (ρ x) f)).bind fun v=> .ret (.val v)
 | .indexAddr t x ix=>(M.lift (qm P t (ρ x) (ρ ix))).bind fun v=> .ret (.val v)
 | .index t x ix=>if isStr (ρ x)then fS P ρ o else(M.lift (vP P t (ρ x) (ρ ix))).bind fun v=> .ret (.val v)
 | .extract t i=>(M.lift (rF (ρ t) i)).bind fun v=> .ret (.val v)
 | .call c=>j2 P ρ o c (c.args.map ρ)
 |_=> .fail
def ev(s:S):Operand->Value
 | .tmp t=>s.get t
 | .const v=>v
 | .global g=> .pointer (some ⟨g,0,none⟩)
 | .func f=> .func (.func f) #[] #[]
def j3(nt:Nat)(s:S)(dst:Option Tmp)(v:Value):Option S:=
 match dst with
 |none=>some s
 |some d=>if d<nt&&d<1023 then some (s.put d v)else none
def gy(ops:Array Oper)(s:S)(j:Nat):Option Bool:=
 match (ops[j]?).bind (·.dst)with
 |some t=>match s.get t with
  | .bool b=>some b
  |_=>none
 |none=>none
def lH:List Oper->List Nat->List Nat
 |[],acc=>acc
 |o::r,acc=>lH r (acc++[o.after.toList.foldl (fun s e=>if oX .any e then s|||2^e.on|||acc.getD e.on 0 else s) 0])
structure Tk where
 n:Nat
 n1:Nat
 log:List En
def cz{α:Type}(m:M α):M (α×Tk):=fun h n=>
 match m h n with
 |some ⟨a,h1,n1,L⟩=>some ⟨(a,⟨n,n1,L⟩),h1,n1,L⟩
 |none=>none
def tagged:Nat->List Tk->List (Nat×Tk)
 |_,[]=>[]
 |i,t::r=>(i,t)::tagged (i+1) r
def En.meets(x y:En):Bool:=x.b==y.b&&(x.k==y.k||x.k.isNone||y.k.isNone)
def Tk.g8(a b:Tk):Bool:=
 (a.log.any fun x=>x.wr&&b.log.any fun y=>x.meets y)||(b.log.any fun x=>x.wr&&a.log.any fun y=>x.meets y)||
 (a.log.any fun x=>b.n<=x.b&&x.b<b.n1)||(b.log.any fun x=>a.n<=x.b&&x.b<a.n1)
def looks(ops:Array Oper)(o:Oper):List Tmp:=o.looksAt ops
def o8(ops:Array Oper)(x y:Oper):Bool:= !(x.apart ops y)
def o9(ops:Array Oper)(cU:List Nat):List (Nat×Tk)->Bool
 |[]=>true
 |(j,tj)::r=>(r.all fun(k,tk)=>(cU.getD k 0).testBit j||(!(tj.g8 tk)&& !(o8 ops (ops.getD j default) (ops.getD k default))))&&o9 ops cU r
def rG(ops:Array Oper):Bool:=ops.toList.zipIdx.all fun(o,i)=>o.after.all (fun e=> !Region.binds .any e||e.on<i)&& !(o.op matches .select ..)
inductive Ex where
 |normal|ret
 |exit (id:Nat)
section
variable (P:Program) (rec:FuncId->Array Value->M Value) (nt:Nat)
def fD(ops:Array Oper)(o:Oper)(s:S):M Value:=
 if fK o (gy ops s)then
  (bU P (ev s) o).bind fun
    | .val v=> .ret v
    | .call f args=>rec f args
 else .ret undef
def iB(ops:Array Oper):List Oper->S->M (S×List Tk)
 |[],s=> .ret (s,[])
 |o::r,s=>(cz (inside (fD P rec ops o s))).bind fun x=>(M.lift (j3 nt s o.dst x.1)).bind fun s1=>(iB ops r s1).bind fun y=> .ret (y.1,x.2::y.2)
def pc(ops:Array Oper)(draw:Bool)(s:S):M S:=
 (iB P rec nt ops ops.toList s).bind fun y=>
   if !draw||(rG ops&&o9 ops (lH ops.toList []) (tagged 0 y.2))then .ret y.1 else .fail
def dK:Nat->Code->S->M (Ex×S)
 |0,_,_=> .fail
 |f+1,c,s=>match c with
  | .skip| .label _=> .ret (.normal,s)
  | .region _ ops draw=>(pc P rec nt ops draw s).bind fun s1=> .ret (.normal,s1)
  | .seq a b=>(dK f a s).bind fun
    |(.normal,s1)=>dK f b s1
    |(e,s1)=> .ret (e,s1)
  | .cond c a b=>match ev s c with
    | .bool t=>dK f (if t then a else b) s
    |_=> .fail
  | .block id c=>(dK f c s).bind fun
    |(.exit i,s1)=>if i=id then .ret (.normal,s1)else .ret (.exit i,s1)
    |(e,s1)=> .ret (e,s1)
  | .loop c=>(dK f c s).bind fun
    |(.normal,s1)=>dK f (.loop c) s1
    |(e,s1)=> .ret (e,s1)
  | .exit id=> .ret (.exit id,s)
  | .ret=> .ret (.ret,s)
  |_=> .fail
end
def AU(P:Program):Operand->Bool
 | .const v=>clean v
 | .global g=>g<P.globals.size
 |_=>true
def vS(P:Program)(o:Oper):Bool:=o.op.operands.all (AU P)
def kJ(P:Program):Code->Bool
 | .region _ ops _=>ops.all (vS P)
 | .seq a b=>kJ P a&&kJ P b
 | .cond c a b=>AU P c&&kJ P a&&kJ P b
 | .block _ c| .loop c=>kJ P c
 |_=>true
def rH(P:Program):Bool:=P.funcs.all fun fn=> !(fn.name== "runtime.NumGoroutine")
def qn(P:Program)(bad:List FuncId):Bool:=
 P.funcs.toList.zipIdx.all fun(fn,i)=>bad.contains i||(match fn.body with|some c=>kJ P c|none=>true)
def rI:Nat->List Value->S->S
 |_,[],s=>s
 |i,v::r,s=>rI (i+1) r (s.put i v)
def iS(P:Program)(s:S):List ResultVar->M (List Value)
 |[]=> .ret []
 | .tmp t::r=>(iS P s r).bind fun vs=> .ret (s.get t::vs)
 | .cell a t::r=>(iR P t (s.get a)).bind fun v=>(iS P s r).bind fun vs=> .ret (v::vs)
def vT(P:Program)(f:FuncId):Bool:=match P.funcs[f]? with
 |some fn=>fn.params.size==0
 |none=>false
def vU:Value->Value->Bool
 | .int k a,.int k' b=>decide (k=k')&&decide (a=b)
 |_,_=>false
def mi(P:Program):List (Nat×Nat×Value)->M Unit
 |[]=> .ret ()
 |g::r=>(rd g.1 g.2.1).bind fun u=>if(decide (g.1<P.globals.size)&&vU u g.2.2)=true then mi P r else .fail
def Ff:List (FuncId×Nat)->FuncId->Option Nat
 |[],_=>none
 |q::r,f=>match Nat.beq q.1 f with
  |true=>some q.2
  |false=>Ff r f
def rJ(f:FuncId):Option Nat:=Ff NV f
def xV:List Value->Option (List Int)
 |[]=>some []
 | .int .u8 x::r=>match xV r with
   |some l=>some (x::l)
   |none=>none
 |_=>none
def LG(c:Int):Option (List Int)->M Value
 |some l=> .ret (.int .i64 (Lib.indexByte (Lib.bytesOf l) c.toNat.toUInt8))
 |none=> .fail
def Fg(b off len:Nat)(c:Int):M Value:=(db b off len).bind fun vs=>LG c (xV vs)
def Fh(s:ByteArray)(c:Int):M Value:=if(decide (0<=c)&&decide (c<=1000000)&&decide (s.size<=1000000))=true then .ret (.string ⟨(Lib.repeatL s.data.toList c.toNat).toArray⟩)else .fail
def Fi:List Value->M Value
 |[.slice (some ⟨b,off,none⟩) len _,.int .u8 c]=>Fg b off len c
 |_=> .fail
def Fj:List Value->M Value
 |[.string s,.int .i64 c]=>Fh s c
 |_=> .fail
def rK(k:Nat)(args:List Value):M Value:=match k with
 |1=>Fi args
 |2=>Fj args
 |_=> .fail
def cM(P:Program)(bad:List FuncId):Nat->FuncId->Array Value->M Value
 |0,_,_=> .fail
 |fuel+1,f,args=>if bad.contains f then(match rJ f with
  |some k=>rK k args.toList
  |none=>if(decide (args.size=0)&&vT P f)=true then(mi P KG).bind fun _=> .ret (.bool true)else .fail)else match P.funcs[f]? with
  |some fn=>match fn.body with
   |some c=>if args.size<=fn.ntmps&&fn.ntmps<1000 then
     inside ((dK P (cM P bad fuel) fn.ntmps fuel c (rI 0 args.toList .nil)).bind fun
      |(.normal,s)|(.ret,s)=>(iS P s fn.results.toList).bind fun vs=> .ret (match vs with|[v]=>v|_=> .tuple vs.toArray)
      |(.exit _,_)=> .fail)
    else .fail
   |none=> .fail
  |none=> .fail
theorem Tr.get_nil{α:Type}(f j:Nat):Tr.get f (.nil:Tr α) j=none:=by cases f<;>rfl
theorem Tr.iT{α:Type}:∀(f:Nat) (t:Tr α) (i:Nat) (a:Option α) (j:Nat),i<2^f-1->Tr.get f (Tr.set f t i a) j=if j=i then a else Tr.get f t j:=by
 intro f
 induction f with
 |zero=>intro t i a j h;simp at h
 |succ f ih=>
  intro t i a j hi
  have h2:2^(f+1)=2*2^f:=by rw[oY];omega
  have h1:1<=2^f:=Nat.one_le_two_pow
  cases t with
  |nil=>
   unfold Tr.set
   by_cases h0:i=0
   ·subst h0
    simp only[if_true]
    unfold Tr.get
    by_cases hj:j=0
    ·simp[hj]
    ·simp[hj,Tr.get_nil]
   ·rw[if_neg h0]
    by_cases ho:i %2=1
    ·rw[if_pos ho]
     simp only[Tr.get]
     by_cases hj:j=0
     ·subst hj;simp;omega
     ·rw[if_neg hj]
      by_cases iC:j %2=1
      ·rw[if_pos iC,ih _ _ _ _ (by omega)]
       by_cases e:j=i
       ·subst e;simp
       ·rw[if_neg e,if_neg (by omega),Tr.get_nil]
      ·rw[if_neg iC,Tr.get_nil,if_neg (by intro e;subst e;exact iC ho)]
    ·rw[if_neg ho]
     simp only[Tr.get]
     by_cases hj:j=0
     ·subst hj;simp;omega
     ·rw[if_neg hj]
      by_cases iC:j %2=1
      ·rw[if_pos iC,Tr.get_nil,if_neg (by intro e;subst e;exact ho iC)]
      ·rw[if_neg iC,ih _ _ _ _ (by omega)]
       by_cases e:j=i
       ·subst e;simp
       ·rw[if_neg e,if_neg (by omega),Tr.get_nil]
  |node l v r=>
   unfold Tr.set
   by_cases h0:i=0
   ·subst h0
    simp only[if_true]
    unfold Tr.get
    by_cases hj:j=0
    ·simp[hj]
    ·simp[hj]
   ·rw[if_neg h0]
    by_cases ho:i %2=1
    ·rw[if_pos ho]
     simp only[Tr.get]
     by_cases hj:j=0
     ·subst hj;simp;omega
     ·rw[if_neg hj,if_neg hj]
      by_cases iC:j %2=1
      ·rw[if_pos iC,if_pos iC,ih _ _ _ _ (by omega)]
       by_cases e:j=i
       ·subst e;simp
       ·rw[if_neg e,if_neg (by omega)]
      ·rw[if_neg iC,if_neg iC,if_neg (by intro e;subst e;exact iC ho)]
    ·rw[if_neg ho]
     simp only[Tr.get]
     by_cases hj:j=0
     ·subst hj;simp;omega
     ·rw[if_neg hj,if_neg hj]
      by_cases iC:j %2=1
      ·rw[if_pos iC,if_pos iC,if_neg (by intro e;subst e;exact ho iC)]
      ·rw[if_neg iC,if_neg iC,ih _ _ _ _ (by omega)]
       by_cases e:j=i
       ·subst e;simp
       ·rw[if_neg e,if_neg (by omega)]
theorem Tr.LH{α:Type}:∀(f f':Nat) (t:Tr α) (i:Nat),i<2^f-1->i<2^f'-1->Tr.get f t i=Tr.get f' t i:=by
 intro f
 induction f with
 |zero=>intro f' t i h;simp at h
 |succ f ih=>
  intro f' t i h h'
  cases f' with
  |zero=>simp at h'
  |succ f'=>
   have h2:2^(f+1)=2*2^f:=by rw[oY];omega
   have h3:2^(f'+1)=2*2^f':=by rw[oY];omega
   cases t with
   |nil=>rfl
   |node l v r=>
    unfold Tr.get
    by_cases h0:i=0
    ·rw[if_pos h0,if_pos h0]
    ·rw[if_neg h0,if_neg h0]
     split
     ·exact ih f' l _ (by omega) (by omega)
     ·exact ih f' r _ (by omega) (by omega)
theorem Tr.Xo{α:Type}:∀(f f':Nat) (t:Tr α) (i:Nat) (a:Option α),i<2^f-1->i<2^f'-1->Tr.set f t i a=Tr.set f' t i a:=by
 intro f
 induction f with
 |zero=>intro f' t i a h;simp at h
 |succ f ih=>
  intro f' t i a h h'
  cases f' with
  |zero=>simp at h'
  |succ f'=>
   have h2:2^(f+1)=2*2^f:=by rw[oY];omega
   have h3:2^(f'+1)=2*2^f':=by rw[oY];omega
   cases t with
   |nil=>
    unfold Tr.set
    by_cases h0:i=0
    ·rw[if_pos h0,if_pos h0]
    ·rw[if_neg h0,if_neg h0]
     split
     ·rw[ih f' _ _ a (by omega) (by omega)]
     ·rw[ih f' _ _ a (by omega) (by omega)]
   |node l v r=>
    unfold Tr.set
    by_cases h0:i=0
    ·rw[if_pos h0,if_pos h0]
    ·rw[if_neg h0,if_neg h0]
     split
     ·rw[ih f' _ _ a (by omega) (by omega)]
     ·rw[ih f' _ _ a (by omega) (by omega)]
theorem AV(i k:Nat):i<2^(i+1+k)-1:=by
 have h1:i+1+k<2^(i+1+k):=Nat.lt_two_pow_self
 omega
theorem H.iT{h:H}{i:Nat}(x:Option AB)(j:Nat):(h.set i x).get j=if j=i then x else h.get j:=by
 unfold H.get H.set
 have hi:=AV i (j+1)
 have hj:=AV j (i+1)
 have Fk:=AV i 0
 have LI:=AV j 0
 have e:i+1+(j+1)=j+1+(i+1):=by omega
 rw[e]at hi
 rw[Tr.LH (j+1) (j+1+(i+1)) _ _ LI hj,Tr.LH (j+1) (j+1+(i+1)) h _ LI hj,Tr.Xo (i+1) (j+1+(i+1)) _ _ _ Fk hi]
 exact Tr.iT _ _ _ _ _ hi
def hd(B:AB):TypeId×Bool×Nat:=(B.elem,B.own,B.cells.length)
def H.hd(h:H)(b:Nat):Option (TypeId×Bool×Nat):=(h.get b).map Ev.hd
def H.cell(h:H)(b k:Nat):Option Value:=(h.get b).bind (·.cells[k]?)
def dG(h h':H)(b k:Nat):Prop:=h.hd b=h'.hd b∧h.cell b k=h'.cell b k
def jG(h h':H)(e:En):Prop:=match e.k with
 |none=>h.get e.b=h'.get e.b
 |some k=>dG h h' e.b k
def wrote(L:List En)(b k:Nat):Prop:=∃e∈L,e.wr=true∧e.b=b∧(e.k=none∨e.k=some k)
theorem dG.refl(h:H)(b k:Nat):dG h h b k:=⟨rfl,rfl⟩
theorem dG.symm{h h':H}{b k:Nat}(x:dG h h' b k):dG h' h b k:=⟨x.1.symm,x.2.symm⟩
theorem dG.trans{h h' AW:H}{b k:Nat}(x:dG h h' b k)(y:dG h' AW b k):dG h AW b k:=⟨x.1.trans y.1,x.2.trans y.2⟩
theorem dG.mj{h h':H}{b:Nat}(k:Nat)(x:h.get b=h'.get b):dG h h' b k:=by
 unfold dG H.hd H.cell;rw[x];exact⟨rfl,rfl⟩
theorem Fl{h h':H}{b:Nat}(x:∀k,dG h h' b k):h.get b=h'.get b:=by
 have h0:=(x 0).1
 unfold H.hd at h0
 cases hg:h.get b with
 |none=>rw[hg]at h0;cases fM:h'.get b with
  |none=>rfl
  |some B=>rw[fM]at h0;simp at h0
 |some B=>
  rw[hg]at h0
  cases fM:h'.get b with
  |none=>rw[fM]at h0;simp at h0
  |some B'=>
   rw[fM]at h0
   simp[Ev.hd]at h0
   obtain⟨h1,h2,h3⟩:=h0
   have hc:B.cells=B'.cells:=by
    apply List.ext_getElem?
    intro k
    have:=(x k).2
    unfold H.cell at this
    rw[hg,fM]at this
    simpa using this
   cases B;cases B'
   simp_all
theorem jG.mj{h h':H}{e:En}(x:h.get e.b=h'.get e.b):jG h h' e:=by
 unfold jG
 split
 ·exact x
 ·exact dG.mj _ x
theorem jG.LJ{h h':H}{e:En}(x:∀k,(e.k=none∨e.k=some k)->dG h h' e.b k):jG h h' e:=by
 unfold jG
 split
 ·rename_i he
  exact Fl fun k=>x k (.inl he)
 ·rename_i k he
  exact x k (.inr he)
theorem jG.at_{h h':H}{e:En}(x:jG h h' e){k:Nat}(hk:e.k=none∨e.k=some k):dG h h' e.b k:=by
 unfold jG at x
 rcases hk with hk|hk
 ·rw[hk]at x;exact dG.mj k x
 ·rw[hk]at x;exact x
theorem LK{L L':List En}{b k:Nat}:wrote (L++L') b k↔wrote L b k∨wrote L' b k:=by
 unfold wrote
 constructor
 ·rintro⟨e,he,hr⟩
  rcases List.mem_append.1 he with h|h
  ·exact .inl ⟨e,h,hr⟩
  ·exact .inr ⟨e,h,hr⟩
 ·rintro(⟨e,he,hr⟩|⟨e,he,hr⟩)
  ·exact⟨e,List.mem_append.2 (.inl he),hr⟩
  ·exact⟨e,List.mem_append.2 (.inr he),hr⟩
theorem LL{b k:Nat}:¬wrote [] b k:=by rintro⟨e,he,_⟩;cases he
structure xW {α:Type} (m:M α) (h:H) (n:Nat) (r:α) (h1:H) (n1:Nat) (L:List En):Prop where
 le:n<=n1
 lt:∀e∈L,e.b<n1
 frame:∀b k,¬wrote L b k->¬(n<=b∧b<n1)->dG h1 h b k
 tx:∀h',(∀e∈L,¬(n<=e.b∧e.b<n1)->jG h h' e)->∃dX,m h' n=some ⟨r,dX,n1,L⟩∧∀b k,(wrote L b k∨(n<=b∧b<n1))->dG dX h1 b k
def Loc{α:Type}(m:M α):Prop:=∀h n r h1 n1 L,m h n=some ⟨r,h1,n1,L⟩->xW m h n r h1 n1 L
theorem Loc.ret{α:Type}(a:α):Loc (.ret a):=by
 intro h n r h1 n1 L hm
 simp only[M.ret,dV,Out.mk.injEq]at hm
 obtain⟨rfl,rfl,rfl,rfl⟩:=hm
 exact⟨ak _,(fun e he=>nomatch he),fun b k _ _=>dG.refl _ _ _,fun h' _=>⟨h',rfl,fun b k hw=>by
  rcases hw with hw|hw
  ·exact absurd hw LL
  ·omega⟩⟩
theorem Loc.fail{α:Type}:Loc (.fail:M α):=by intro h n r h1 n1 L hm;cases hm
theorem Loc.lift{α:Type}(o:Option α):Loc (.lift o):=by
 cases o with
 |none=>intro h n r h1 n1 L hm;cases hm
 |some a=>exact Loc.ret a
theorem Loc.bind{α β:Type}{m:M α}{f:α->M β}(hm:Loc m)(hf:∀a,Loc (f a)):Loc (m.bind f):=by
 intro h n r h2 n2 L hr
 unfold M.bind at hr
 split at hr
 ·rename_i a h1 n1 L1 e1
  split at hr
  ·rename_i c kK vV L2 e2
   simp only[dV,Out.mk.injEq]at hr
   obtain⟨rfl,rfl,rfl,rfl⟩:=hr
   have A:=hm h n a h1 n1 L1 e1
   have B:=hf a h1 n1 c kK vV L2 e2
   have aiu:=A.le
   have Xp:=B.le
   refine⟨by omega,fun e he=> ?_,fun b k hw hi=> ?_,fun h' j4=> ?_⟩
   ·rcases List.mem_append.1 he with h|h
    ·have:=A.lt e h;omega
    ·exact B.lt e h
   ·rw[LK]at hw
    exact(B.frame b k (fun x=>hw (.inr x)) (by omega)).trans (A.frame b k (fun x=>hw (.inl x)) (by omega))
   ·obtain⟨dX,r1,w1⟩:=A.tx h' fun e he hi=>j4 e (List.mem_append.2 (.inl he)) (by have:=A.lt e he;omega)
    have A':=hm h' n a dX n1 L1 r1
    obtain⟨kK,r2,w2⟩:=B.tx dX fun e he hi=>by
     apply jG.LJ
     intro k hk
     by_cases hw:wrote L1 e.b k∨(n<=e.b∧e.b<n1)
     ·exact(w1 e.b k hw).symm
     ·have LM:¬wrote L1 e.b k:=fun x=>hw (.inl x)
      have kL:¬(n<=e.b∧e.b<n1):=fun x=>hw (.inr x)
      exact((A.frame e.b k LM kL).trans ((j4 e (List.mem_append.2 (.inr he)) (by omega)).at_ hk)).trans (A'.frame e.b k LM kL).symm
    have B':=hf a dX n1 c kK vV L2 r2
    refine⟨kK,by unfold M.bind;rw[r1];simp only[r2],fun b k hw=> ?_⟩
    rw[LK]at hw
    by_cases kL:wrote L2 b k∨(n1<=b∧b<vV)
    ·exact w2 b k kL
    ·have jH:¬wrote L2 b k:=fun x=>kL (.inl x)
     have cA:¬(n1<=b∧b<vV):=fun x=>kL (.inr x)
     have hy:wrote L1 b k∨(n<=b∧b<n1):=by
      rcases hw with (hw|hw)|hw
      ·exact .inl hw
      ·exact absurd hw jH
      ·exact .inr (by omega)
     exact((B'.frame b k jH cA).trans (w1 b k hy)).trans (B.frame b k jH cA).symm
  ·cases hr
 ·cases hr
theorem Loc.ite{α:Type}{c:Prop} [Decidable c]{x y:M α}(hx:Loc x)(hy:Loc y):Loc (if c then x else y):=by
 by_cases h:c
 ·rw[if_pos h];exact hx
 ·rw[if_neg h];exact hy
theorem Loc.rd(b k:Nat):Loc (Ev.rd b k):=by
 intro h n r h1 n1 L hr
 unfold Ev.rd at hr
 split at hr
 ·rename_i hb
  split at hr
  ·rename_i B hB
   split at hr
   ·rename_i v hv
    simp only[dV,Out.mk.injEq]at hr
    obtain⟨rfl,rfl,rfl,rfl⟩:=hr
    have nw:∀b' k',¬wrote [(⟨false,b,some k⟩:En)] b' k':=by
     rintro b' k' ⟨e,he,hw,_⟩
     simp at he;subst he;cases hw
    refine⟨ak _,fun e he=>by simp at he;subst he;exact hb,fun b' k' _ _=>dG.refl _ _ _,fun h' j4=>⟨h', ?_,fun b' k' hw=> ?_⟩⟩
    ·have:=j4 ⟨false,b,some k⟩ (by simp) (by show¬(n<=b∧b<n);omega)
     unfold jG dG at this
     simp only[H.cell,hB,K4,hv]at this
     obtain⟨_,t2⟩:=this
     cases hg:h'.get b with
     |none=>rw[hg]at t2;simp at t2
     |some B'=>
      rw[hg]at t2
      simp at t2
      unfold Ev.rd
      rw[if_pos hb,hg]
      simp only[<-t2]
    ·rcases hw with hw|hw
     ·exact absurd hw (nw _ _)
     ·omega
   ·cases hr
  ·cases hr
 ·cases hr
theorem xX{h:H}{b k:Nat}{B:AB}(hB:h.get b=some B)(v:Value)(b' k':Nat):(h.set b (some {B with cells:=B.cells.set k v})).get b'=if b'=b then some {B with cells:=B.cells.set k v}else h.get b':=H.iT _ _
theorem Loc.wr(b k:Nat)(v:Value):Loc (Ev.wr b k v):=by
 intro h n r h1 n1 L hr
 unfold Ev.wr at hr
 split at hr
 ·rename_i hb
  split at hr
  ·rename_i B hB
   split at hr
   ·rename_i hc
    simp only[dV,Out.mk.injEq]at hr
    obtain⟨_,rfl,rfl,rfl⟩:=hr
    have vW:=hc
    simp only[bZ,decide_eq_true_eq]at vW
    obtain⟨⟨nX,hk⟩,LN⟩:=vW
    refine⟨ak _,fun e he=>by simp at he;rcases he with rfl|rfl<;>exact hb,fun b' k' hw _=> ?_,fun h' j4=> ?_⟩
    ·unfold dG H.hd H.cell
     rw[xX hB v b' k']
     by_cases e:b'=b
     ·subst e
      rw[if_pos rfl,hB]
      have Fm:k≠k':=fun e=>hw ⟨⟨true,b',some k⟩,by simp,rfl,rfl,.inr (by rw[e])⟩
      simp[Ev.hd,ag1 Fm]
     ·rw[if_neg e];exact⟨rfl,rfl⟩
    ·have:=j4 ⟨false,b,some k⟩ (by simp) (by show¬(n<=b∧b<n);omega)
     unfold jG dG at this
     simp only[H.hd,H.cell,hB,Au,K4]at this
     obtain⟨t1,t2⟩:=this
     cases hg:h'.get b with
     |none=>rw[hg]at t1;simp at t1
     |some B'=>
      rw[hg]at t1 t2
      simp[Ev.hd]at t1
      obtain⟨q1,q2,q3⟩:=t1
      refine⟨h'.set b (some {B' with cells:=B'.cells.set k v}), ?_,fun b' k' hw=> ?_⟩
      ·unfold Ev.wr
       rw[if_pos hb,hg]
       simp only
       rw[if_pos (by rw[<-q2,<-q3];exact hc)]
      ·have xY:b'=b∧k'=k:=by
        rcases hw with ⟨e,he,hw,rfl,kM⟩|hw
        ·simp at he
         rcases he with rfl|rfl
         ·cases hw
         ·simp at kM;exact⟨rfl,kM.symm⟩
        ·omega
       obtain⟨rfl,rfl⟩:=xY
       unfold dG H.hd H.cell
       rw[xX hB v b' k',xX hg v b' k',if_pos rfl,if_pos rfl]
       refine⟨?_, ?_⟩
       ·simp[Ev.hd,q1,q2,q3]
       ·simp[hk,<-q3]
   ·cases hr
  ·cases hr
 ·cases hr
theorem Loc.cR(e:TypeId)(cs:List Value):Loc (Ev.cR e cs):=by
 intro h n r h1 n1 L hr
 unfold Ev.cR at hr
 split at hr
 ·rename_i hn
  simp only[dV,Out.mk.injEq]at hr
  obtain⟨rfl,rfl,rfl,rfl⟩:=hr
  refine⟨by omega,(fun e he=>nomatch he),fun b k _ hi=> ?_,fun h' _=>⟨h'.set n (some ⟨e,true,cs⟩), ?_,fun b k hw=> ?_⟩⟩
  ·apply dG.mj
   rw[H.iT _ _,if_neg (by omega)]
  ·unfold Ev.cR
   rw[if_pos hn]
  ·have hb:b=n:=by
    rcases hw with hw|hw
    ·exact absurd hw LL
    ·omega
   subst hb
   apply dG.mj
   rw[H.iT _ _,H.iT _ _]
   simp
 ·cases hr
theorem Loc.whole(b:Nat):Loc (Ev.whole b):=by
 intro h n r h1 n1 L hr
 unfold Ev.whole at hr
 split at hr
 ·rename_i hb
  split at hr
  ·rename_i B hB
   simp only[dV,Out.mk.injEq]at hr
   obtain⟨rfl,rfl,rfl,rfl⟩:=hr
   refine⟨ak _,fun e he=>by simp at he;subst he;exact hb,fun b' k' _ _=>dG.refl _ _ _,fun h' j4=>⟨h', ?_,fun b' k' hw=> ?_⟩⟩
   ·have:=j4 ⟨false,b,none⟩ (by simp) (by show¬(n<=b∧b<n);omega)
    unfold jG at this
    simp only[hB]at this
    unfold Ev.whole
    rw[if_pos hb,<-this]
   ·rcases hw with ⟨e,he,hw,_⟩|hw
    ·simp at he;subst he;cases hw
    ·omega
  ·cases hr
 ·cases hr
theorem Loc.iA(b:Nat):Loc (Ev.iA b):=by
 intro h n r h1 n1 L hr
 unfold Ev.iA at hr
 split at hr
 ·rename_i hb
  split at hr
  ·rename_i B hB
   simp only[dV,Out.mk.injEq]at hr
   obtain⟨rfl,rfl,rfl,rfl⟩:=hr
   refine⟨ak _,fun e he=>by simp at he;subst he;exact hb,fun b' k' _ _=>dG.refl _ _ _,fun h' j4=>⟨h', ?_,fun b' k' hw=> ?_⟩⟩
   ·have:=j4 ⟨false,b,some 1099511627776⟩ (by simp) (by show¬(n<=b∧b<n);omega)
    unfold jG dG at this
    simp only[H.hd,hB,Au]at this
    cases hg:h'.get b with
    |none=>rw[hg]at this;simp at this
    |some B'=>
     rw[hg]at this
     simp[Ev.hd]at this
     unfold Ev.iA
     rw[if_pos hb,hg]
     simp only[<-this.1.1]
   ·rcases hw with ⟨e,he,hw,_⟩|hw
    ·simp at he;subst he;cases hw
    ·omega
  ·cases hr
 ·cases hr
theorem Loc.kill(b:Nat):Loc (Ev.kill b):=by
 intro h n r h1 n1 L hr
 unfold Ev.kill at hr
 split at hr
 ·rename_i hb
  split at hr
  ·rename_i B hB
   split at hr
   ·rename_i ho
    simp only[dV,Out.mk.injEq]at hr
    obtain⟨_,rfl,rfl,rfl⟩:=hr
    refine⟨ak _,fun e he=>by simp at he;rcases he with rfl|rfl<;>exact hb,fun b' k' hw _=> ?_,fun h' j4=>⟨h'.set b none, ?_,fun b' k' hw=> ?_⟩⟩
    ·apply dG.mj
     rw[H.iT _ _,if_neg]
     rintro rfl
     exact hw ⟨⟨true,b',none⟩,by simp,rfl,rfl,.inl rfl⟩
    ·have:=j4 ⟨false,b,none⟩ (by simp) (by show¬(n<=b∧b<n);omega)
     unfold jG at this
     simp only[hB]at this
     unfold Ev.kill
     rw[if_pos hb,<-this]
     simp only[ho,if_true]
    ·have tz:b'=b:=by
      rcases hw with ⟨e,he,hw,rfl,_⟩|hw
      ·simp at he
       rcases he with rfl|rfl<;>rfl
      ·omega
     subst tz
     apply dG.mj
     rw[H.iT _ _,H.iT _ _]
     simp
   ·cases hr
  ·cases hr
 ·cases hr
theorem Loc.db(b:Nat):∀(n k:Nat),Loc (Ev.db b k n):=by
 intro n
 induction n with
 |zero=>intro k;exact Loc.ret _
 |succ n ih=>intro k;exact Loc.bind (Loc.rd _ _) fun v=>Loc.bind (ih _) fun vs=>Loc.ret _
theorem Loc.eD(b:Nat):∀(vs:List Value) (k:Nat),Loc (Ev.eD b k vs):=by
 intro vs
 induction vs with
 |nil=>intro k;exact Loc.ret _
 |cons v vs ih=>intro k;exact Loc.bind (Loc.wr _ _ _) fun _=>ih _
theorem LO{L:List En}{n n1 b k:Nat}(hi:¬(n<=b∧b<n1)):wrote (L.filter fun e=> !(n<=e.b&&e.b<n1)) b k↔wrote L b k:=by
 unfold wrote
 constructor
 ·rintro⟨e,he,hr⟩
  exact⟨e,(List.mem_filter.1 he).1,hr⟩
 ·rintro⟨e,he,h1,h2,h3⟩
  refine⟨e,List.mem_filter.2 ⟨he, ?_⟩,h1,h2,h3⟩
  rw[h2]
  simp
  omega
theorem xW.filter {α:Type} {m m':M α} {h h1:H} {n n1:Nat} {r:α} {L:List En} (A:xW m h n r h1 n1 L)
 (hm:∀h' dX,m h' n=some ⟨r,dX,n1,L⟩->m' h' n=some ⟨r,dX,n1,L.filter fun e=> !(n<=e.b&&e.b<n1)⟩):xW m' h n r h1 n1 (L.filter fun e=> !(n<=e.b&&e.b<n1)):=by
 refine⟨A.le,fun e he=>A.lt e (List.mem_filter.1 he).1,fun b k hw hi=>A.frame b k (fun x=>hw ((LO hi).2 x)) hi,fun h' j4=> ?_⟩
 obtain⟨dX,r1,w1⟩:=A.tx h' fun e he hi=>j4 e (List.mem_filter.2 ⟨he,by simp;omega⟩) hi
 refine⟨dX,hm h' dX r1,fun b k hw=>w1 b k ?_⟩
 by_cases hi:n<=b∧b<n1
 ·exact .inr hi
 ·rcases hw with hw|hw
  ·exact .inl ((LO hi).1 hw)
  ·exact .inr hw
theorem Loc.inside{α:Type}{m:M α}(hm:Loc m):Loc (Ev.inside m):=by
 intro h n r h1 n1 L hr
 unfold Ev.inside at hr
 split at hr
 ·rename_i a dX qo L' e1
  simp only[dV,Out.mk.injEq]at hr
  obtain⟨rfl,rfl,rfl,rfl⟩:=hr
  refine(hm h n a dX qo L' e1).filter fun h' aiv e=> ?_
  unfold Ev.inside
  rw[e]
 ·cases hr
theorem Loc.cz{α:Type}{m:M α}(hm:Loc m):Loc (Ev.cz m):=by
 intro h n r h1 n1 L hr
 unfold Ev.cz at hr
 split at hr
 ·rename_i a dX qo L' e1
  simp only[dV,Out.mk.injEq]at hr
  obtain⟨rfl,rfl,rfl,rfl⟩:=hr
  have A:=hm h n a dX qo L' e1
  refine⟨A.le,A.lt,A.frame,fun h' j4=> ?_⟩
  obtain⟨h2,r2,w2⟩:=A.tx h' j4
  exact⟨h2,by unfold Ev.cz;rw[r2],w2⟩
 ·cases hr
theorem Loc.kI(sz n:Nat)(x:Value):Loc (Ev.kI sz n x):=by
 unfold Ev.kI
 repeat' (first|exact Loc.ret _|exact Loc.fail|exact Loc.lift _|exact Loc.rd _ _|exact Loc.db _ _ _|exact Loc.eD _ _ _|exact Loc.whole _|exact Loc.kill _|exact Loc.cR _ _|refine Loc.bind ?_ fun _=> ?_|split)
theorem Loc.mT(e:TypeId)(l n:Nat)(old new:List Value):Loc (Ev.mT e l n old new):=by
 unfold Ev.mT
 repeat' (first|exact Loc.ret _|exact Loc.fail|exact Loc.lift _|exact Loc.db _ _ _|exact Loc.eD _ _ _|exact Loc.iA _|exact Loc.kill _|exact Loc.cR _ _|refine Loc.bind ?_ fun _=> ?_|split)
theorem Loc.tt(e:TypeId)(n sz b off l cap:Nat)(new:List Value):Loc (Ev.tt e n sz b off l cap new):=by
 unfold Ev.tt
 repeat' (first|exact Loc.ret _|exact Loc.fail|exact Loc.lift _|exact Loc.db _ _ _|exact Loc.eD _ _ _|exact Loc.iA _|exact Loc.kill _|exact Loc.cR _ _|exact Loc.mT _ _ _ _ _|refine Loc.bind ?_ fun _=> ?_|split)
theorem Loc.o6(P:Program)(t:TypeId)(s x:Value):Loc (Ev.o6 P t s x):=by
 unfold Ev.o6
 repeat' (first|exact Loc.ret _|exact Loc.fail|exact Loc.lift _|exact Loc.db _ _ _|exact Loc.eD _ _ _|exact Loc.iA _|exact Loc.kill _|exact Loc.cR _ _|exact Loc.kI _ _ _|exact Loc.mT _ _ _ _ _|exact Loc.tt _ _ _ _ _ _ _ _|refine Loc.bind ?_ fun _=> ?_|split)
theorem Loc.o7(P:Program)(t:TypeId)(d s:Value):Loc (Ev.o7 P t d s):=by
 unfold Ev.o7
 repeat' (first|exact Loc.ret _|exact Loc.fail|exact Loc.lift _|exact Loc.eD _ _ _|exact Loc.kI _ _ _|refine Loc.bind ?_ fun _=> ?_|split)
theorem Loc.fS(P:Program)(ρ:Operand->Value)(o:Oper):Loc (Ev.fS P ρ o):=by
 unfold Ev.fS
 repeat' (first|exact Loc.ret _|exact Loc.fail|exact Loc.lift _|exact Loc.rd _ _|exact Loc.db _ _ _|exact Loc.eD _ _ _|exact Loc.whole _|exact Loc.kill _|exact Loc.cR _ _|refine Loc.bind ?_ fun _=> ?_|split)
theorem Loc.j2(P:Program)(ρ:Operand->Value)(o:Oper)(c:Call)(args:Array Value):Loc (Ev.j2 P ρ o c args):=by
 unfold Ev.j2
 repeat' (first|exact Loc.ret _|exact Loc.fail|exact Loc.lift _|exact Loc.rd _ _|exact Loc.db _ _ _|exact Loc.eD _ _ _|exact Loc.whole _|exact Loc.kill _|exact Loc.cR _ _|exact Loc.o6 _ _ _ _|exact Loc.o7 _ _ _ _|exact Loc.fS _ _ _|refine Loc.bind ?_ fun _=> ?_|split)
theorem Loc.mV(P:Program)(e:TypeId):Loc (Ev.mV P e):=by
 unfold Ev.mV
 repeat' (first|exact Loc.ret _|exact Loc.fail|exact Loc.lift _|exact Loc.rd _ _|exact Loc.db _ _ _|exact Loc.eD _ _ _|exact Loc.whole _|exact Loc.kill _|exact Loc.cR _ _|refine Loc.bind ?_ fun _=> ?_|split)
theorem Loc.mW(P:Program)(e:TypeId)(v:Value):Loc (Ev.mW P e v):=by
 unfold Ev.mW
 repeat' (first|exact Loc.ret _|exact Loc.fail|exact Loc.lift _|exact Loc.rd _ _|exact Loc.db _ _ _|exact Loc.eD _ _ _|exact Loc.whole _|exact Loc.kill _|exact Loc.cR _ _|refine Loc.bind ?_ fun _=> ?_|split)
theorem Loc.mg(P:Program)(t:TypeId)(l:List (Nat×Value)):Loc (Ev.mg P t l):=by
 unfold Ev.mg
 repeat' (first|exact Loc.ret _|exact Loc.fail|exact Loc.lift _|exact Loc.rd _ _|exact Loc.db _ _ _|exact Loc.eD _ _ _|exact Loc.whole _|exact Loc.kill _|exact Loc.cR _ _|refine Loc.bind ?_ fun _=> ?_|split)
theorem Loc.mh(P:Program)(t:TypeId)(n:Nat)(l:List (Nat×Value)):Loc (Ev.mh P t n l):=by
 unfold Ev.mh
 repeat' (first|exact Loc.ret _|exact Loc.fail|exact Loc.lift _|exact Loc.rd _ _|exact Loc.db _ _ _|exact Loc.eD _ _ _|exact Loc.whole _|exact Loc.kill _|exact Loc.cR _ _|refine Loc.bind ?_ fun _=> ?_|split)
theorem Loc.iR(P:Program)(t:TypeId)(v:Value):Loc (Ev.iR P t v):=by
 unfold Ev.iR
 repeat' (first|exact Loc.ret _|exact Loc.fail|exact Loc.lift _|exact Loc.rd _ _|exact Loc.db _ _ _|exact Loc.eD _ _ _|exact Loc.whole _|exact Loc.kill _|exact Loc.cR _ _|refine Loc.bind ?_ fun _=> ?_|split)
theorem Loc.nW(P:Program)(t:TypeId)(a v:Value):Loc (Ev.nW P t a v):=by
 unfold Ev.nW
 repeat' (first|exact Loc.ret _|exact Loc.fail|exact Loc.lift _|exact Loc.rd _ _|exact Loc.db _ _ _|exact Loc.eD _ _ _|exact Loc.whole _|exact Loc.kill _|exact Loc.cR _ _|refine Loc.bind ?_ fun _=> ?_|split)
theorem Loc.qj(v:Value):Loc (Ev.qj v):=by
 unfold Ev.qj
 repeat' (first|exact Loc.ret _|exact Loc.fail|exact Loc.lift _|exact Loc.rd _ _|exact Loc.db _ _ _|exact Loc.eD _ _ _|exact Loc.whole _|exact Loc.kill _|exact Loc.cR _ _|refine Loc.bind ?_ fun _=> ?_|split)
theorem Loc.mX(v:Value):Loc (Ev.mX v):=by
 unfold Ev.mX
 repeat' (first|exact Loc.ret _|exact Loc.fail|exact Loc.lift _|exact Loc.rd _ _|exact Loc.db _ _ _|exact Loc.eD _ _ _|exact Loc.whole _|exact Loc.kill _|exact Loc.cR _ _|refine Loc.bind ?_ fun _=> ?_|split)
theorem Loc.qk(e:TypeId)(s:ByteArray):Loc (Ev.qk e s):=by
 unfold Ev.qk
 repeat' (first|exact Loc.ret _|exact Loc.fail|exact Loc.lift _|exact Loc.rd _ _|exact Loc.db _ _ _|exact Loc.eD _ _ _|exact Loc.whole _|exact Loc.kill _|exact Loc.cR _ _|refine Loc.bind ?_ fun _=> ?_|split)
theorem Loc.mZ(P:Program)(t:TypeId)(l c:Value):Loc (Ev.mZ P t l c):=by
 unfold Ev.mZ
 repeat' (first|exact Loc.ret _|exact Loc.fail|exact Loc.lift _|exact Loc.rd _ _|exact Loc.db _ _ _|exact Loc.eD _ _ _|exact Loc.whole _|exact Loc.kill _|exact Loc.cR _ _|refine Loc.bind ?_ fun _=> ?_|split)
theorem Loc.nV(P:Program)(t:TypeId)(x:Value)(a b c:Option Value):Loc (Ev.nV P t x a b c):=by
 unfold Ev.nV
 repeat' (first|exact Loc.fail|exact Loc.lift _|exact Loc.iA _|refine Loc.bind ?_ fun _=> ?_|split)
theorem Loc.bU(P:Program)(ρ:Operand->Value)(o:Oper):Loc (Ev.bU P ρ o):=by
 unfold Ev.bU
 repeat' (first|exact Loc.ret _|exact Loc.fail|exact Loc.lift _|exact Loc.rd _ _|exact Loc.db _ _ _|exact Loc.eD _ _ _|exact Loc.whole _|exact Loc.kill _|exact Loc.cR _ _|exact Loc.fS _ _ _|exact Loc.nV _ _ _ _ _ _|exact Loc.j2 _ _ _ _ _|exact Loc.mV _ _|exact Loc.mW _ _ _|exact Loc.mg _ _ _|exact Loc.mh _ _ _ _|exact Loc.iR _ _ _|exact Loc.nW _ _ _ _|exact Loc.qj _|exact Loc.mX _|exact Loc.qk _ _|exact Loc.mZ _ _ _ _|refine Loc.bind ?_ fun _=> ?_|split)
section
variable {P:Program} {rec:FuncId->Array Value->M Value} {nt:Nat}
theorem Loc.fD(cB:∀f a,Loc (rec f a))(ops:Array Oper)(o:Oper)(s:S):Loc (Ev.fD P rec ops o s):=by
 unfold Ev.fD
 repeat' (first|exact Loc.ret _|exact Loc.fail|exact Loc.lift _|exact Loc.bU _ _ _|exact cB _ _|refine Loc.bind ?_ fun _=> ?_|split)
theorem Loc.iB(cB:∀f a,Loc (rec f a))(ops:Array Oper):∀(l:List Oper) (s:S),Loc (Ev.iB P rec nt ops l s):=by
 intro l
 induction l with
 |nil=>intro s;exact Loc.ret _
 |cons o r ih=>intro s;exact Loc.bind (Loc.cz (Loc.inside (Loc.fD cB _ _ _))) fun x=>Loc.bind (Loc.lift _) fun s1=>Loc.bind (ih _) fun y=>Loc.ret _
theorem Loc.pc(cB:∀f a,Loc (rec f a))(ops:Array Oper)(draw:Bool)(s:S):Loc (Ev.pc P rec nt ops draw s):=
 Loc.bind (Loc.iB cB _ _ _) fun y=>Loc.ite (Loc.ret _) Loc.fail
theorem Loc.dK(cB:∀f a,Loc (rec f a)):∀(fuel:Nat) (c:Code) (s:S),Loc (Ev.dK P rec nt fuel c s):=by
 intro fuel
 induction fuel with
 |zero=>intro c s;exact Loc.fail
 |succ f ih=>
  intro c s
  cases c<;>unfold Ev.dK<;>simp only
  all_goals repeat' (first|exact Loc.ret _|exact Loc.fail|exact ih _ _|exact Loc.pc cB _ _ _|refine Loc.bind ?_ fun _=> ?_|split)
end
theorem Loc.iS(P:Program)(s:S):∀l,Loc (Ev.iS P s l):=by
 intro l
 induction l with
 |nil=>exact Loc.ret _
 |cons r l ih=>
  cases r<;>unfold Ev.iS
  ·exact Loc.bind ih fun _=>Loc.ret _
  ·exact Loc.bind (Loc.iR _ _ _) fun _=>Loc.bind ih fun _=>Loc.ret _
theorem Loc.mi(P:Program):∀l,Loc (Ev.mi P l):=by
 intro l
 induction l with
 |nil=>exact Loc.ret _
 |cons g l ih=>
  unfold Ev.mi
  refine Loc.bind (Loc.rd _ _) fun u=> ?_
  split
  ·exact ih
  ·exact Loc.fail
theorem Loc.rK(k:Nat)(args:List Value):Loc (Ev.rK k args):=by
 unfold Ev.rK
 split
 ·unfold Ev.Fi
  split
  ·unfold Ev.Fg
   refine Loc.bind (Loc.db _ _ _) fun vs=> ?_
   unfold Ev.LG
   split
   ·exact Loc.ret _
   ·exact Loc.fail
  ·exact Loc.fail
 ·unfold Ev.Fj
  split
  ·unfold Ev.Fh
   split
   ·exact Loc.ret _
   ·exact Loc.fail
  ·exact Loc.fail
 ·exact Loc.fail
theorem Loc.cM(P:Program)(bad:List FuncId):∀(fuel:Nat) (f:FuncId) (args:Array Value),Loc (Ev.cM P bad fuel f args):=by
 intro fuel
 induction fuel with
 |zero=>intro f a;exact Loc.fail
 |succ fuel ih=>
  intro f args
  unfold Ev.cM
  repeat' (first|exact Loc.ret _|exact Loc.fail|exact Loc.mi _ _|exact Loc.rK _ _|exact Loc.dK ih _ _ _|exact Loc.iS _ _ _|refine Loc.inside ?_|refine Loc.bind ?_ fun _=> ?_|split)
end Go.Proofs.YtdagfcflbphoiaaGreatDoor.Ev
namespace Go.Proofs.YtdagfcflbphoiaaGreatDoor.Ev
open Go Go.RowKit
theorem bind_some{α β:Type}{m:M α}{f:α->M β}{h:H}{n:Nat}{c:β}{h2:H}{n2:Nat}{L:List En}(hr:(m.bind f) h n=some ⟨c,h2,n2,L⟩):
 ∃a h1 n1 L1 L2,m h n=some ⟨a,h1,n1,L1⟩∧f a h1 n1=some ⟨c,h2,n2,L2⟩∧L=L1++L2:=by
 unfold M.bind at hr
 split at hr
 ·rename_i a h1 n1 L1 e1
  split at hr
  ·rename_i c' kK vV L2 e2
   simp only[dV,Out.mk.injEq]at hr
   obtain⟨rfl,rfl,rfl,rfl⟩:=hr
   exact⟨a,h1,n1,L1,L2,e1,e2,rfl⟩
  ·cases hr
 ·cases hr
theorem bI{α:Type}{a c:α}{h h2:H}{n n2:Nat}{L:List En}(hr:(M.ret a) h n=some ⟨c,h2,n2,L⟩):c=a∧h2=h∧n2=n:=by
 simp only[M.ret,dV,Out.mk.injEq]at hr
 exact⟨hr.1.symm,hr.2.1.symm,hr.2.2.1.symm⟩
theorem pd{α:Type}{o:Option α}{c:α}{h h2:H}{n n2:Nat}{L:List En}(hr:(M.lift o) h n=some ⟨c,h2,n2,L⟩):o=some c∧h2=h∧n2=n:=by
 unfold M.lift at hr
 cases o with
 |none=>cases hr
 |some a=>
  simp only[dV,Out.mk.injEq]at hr
  exact⟨by rw[hr.1],hr.2.1.symm,hr.2.2.1.symm⟩
structure Ds where
 dy:Nat
 sh:Nat
 tA:Nat
 esz:Nat
 el:TypeId
abbrev Mp:=Nat->Option Ds
mutual
inductive VR (m:Mp):Value->Value->Prop
 |bool (b:Bool):VR m (.bool b) (.bool b)
 |int (k:IntKind) (n:Int):VR m (.int k n) (.int k n)
 |float (k:FloatKind) (n:Nat):VR m (.float k n) (.float k n)
 |string (s:ByteArray):VR m (.string s) (.string s)
 |xZ:VR m (.pointer none) (.pointer none)
 |ptr {b off:Nat} {d:Ds} (h:m b=some d):VR m (.pointer (some ⟨b,off,none⟩)) (.pointer (some ⟨d.dy,d.sh+off,none⟩))
 |ml (n c:Nat) (hc:n<=c∧c<ba):VR m (.slice none n c) (.slice none n c)
 |fT {b off n cap cK o':Nat} {d:Ds} (h:m b=some d) (ho:0<n∨cap<ba->o'=d.sh+off) (h1:cap<ba->cK=cap) (h2:ba<=cap->ba+n<=cap∧cap<=ba+cK) (hn:n<=cK) (ht:o'+cK*d.esz<=d.tA):
   VR m (.slice (some ⟨b,off,none⟩) n cap) (.slice (some ⟨d.dy,o',none⟩) n cK)
 |pe (b off s:Nat) (a':Addr):VR m (.slice (some ⟨b,off,some s⟩) 0 0) (.slice (some a') 0 0)
 |func (fn:Fn) {f c f' c':Array Value} (h1:aQ m f.toList f'.toList) (h2:aQ m c.toList c'.toList):VR m (.func fn f c) (.func fn f' c')
 |nilFunc:VR m .nilFunc .nilFunc
 |agg {cs cs':Array Value} (h:aQ m cs.toList cs'.toList):VR m (.agg cs) (.agg cs')
 |tuple {cs cs':Array Value} (h:aQ m cs.toList cs'.toList):VR m (.tuple cs) (.tuple cs')
inductive aQ (m:Mp):List Value->List Value->Prop
 |nil:aQ m [] []
 |cons {v v':Value} {l l':List Value} (h:VR m v v') (t:aQ m l l'):aQ m (v::l) (v'::l')
end
def Le(m m':Mp):Prop:=∀b d,m b=some d->m' b=some d
theorem Le.refl(m:Mp):Le m m:=fun _ _ h=>h
theorem Le.trans{a b c:Mp}(h:Le a b)(k:Le b c):Le a c:=fun x d e=>k x d (h x d e)
mutual
theorem VR.mono{m m':Mp}(hl:Le m m'):∀{v v':Value},VR m v v'->VR m' v v'
 |_,_,.bool b=> .bool b
 |_,_,.int k n=> .int k n
 |_,_,.float k n=> .float k n
 |_,_,.string s=> .string s
 |_,_,.xZ=> .xZ
 |_,_,.ptr h=> .ptr (hl _ _ h)
 |_,_,.ml n c hc=> .ml n c hc
 |_,_,.fT h ho h1 h2 hn ht=> .fT (hl _ _ h) ho h1 h2 hn ht
 |_,_,.pe b off s a'=> .pe b off s a'
 |_,_,.func fn h1 h2=> .func fn (aQ.mono hl h1) (aQ.mono hl h2)
 |_,_,.nilFunc=> .nilFunc
 |_,_,.agg h=> .agg (aQ.mono hl h)
 |_,_,.tuple h=> .tuple (aQ.mono hl h)
theorem aQ.mono{m m':Mp}(hl:Le m m'):∀{l l':List Value},aQ m l l'->aQ m' l l'
 |_,_,.nil=> .nil
 |_,_,.cons h t=> .cons (VR.mono hl h) (aQ.mono hl t)
end
theorem aQ.length{m:Mp}:∀{l l':List Value},aQ m l l'->l.length=l'.length
 |_,_,.nil=>rfl
 |_,_,.cons _ t=>by simp[aQ.length t]
theorem aQ.get{m:Mp}:∀{l l':List Value},aQ m l l'->∀(k:Nat) (v:Value),l[k]? =some v->∃v',l'[k]? =some v'∧VR m v v'
 |_,_,.nil,k,v,h=>by simp at h
 |_,_,.cons h t,k,v,hk=>by
  cases k with
  |zero=>simp at hk;subst hk;exact⟨_,rfl,h⟩
  |succ k=>simp at hk;simpa using aQ.get t k v hk
theorem aQ.mj{m:Mp}:∀{l l':List Value},l.length=l'.length->(∀(k:Nat) (v:Value),l[k]? =some v->∃v',l'[k]? =some v'∧VR m v v')->aQ m l l'
 |[],[],_,_=> .nil
 |v::l,v'::l',hl,h=>by
  obtain⟨u,hu,hr⟩:=h 0 v rfl
  simp at hu;subst hu
  exact .cons hr (aQ.mj (by simpa using hl) fun k x hk=>by simpa using h (k+1) x (by simpa using hk))
theorem aQ.append{m:Mp}:∀{a a' b b':List Value},aQ m a a'->aQ m b b'->aQ m (a++b) (a'++b')
 |_,_,_,_,.nil,k=>k
 |_,_,_,_,.cons h t,k=> .cons h (aQ.append t k)
theorem aQ.set{m:Mp}:∀{a a':List Value} (k:Nat) {v v':Value},aQ m a a'->VR m v v'->aQ m (a.set k v) (a'.set k v')
 |_,_,_,_,_,.nil,_=> .nil
 |_,_,0,_,_,.cons _ t,h=> .cons h t
 |_,_,k+1,_,_,.cons u t,h=> .cons u (aQ.set k t h)
theorem aQ.map{m:Mp}{α:Type}{f g:α->Value}:∀(l:List α),(∀x,VR m (f x) (g x))->aQ m (l.map f) (l.map g)
 |[],_=> .nil
 |x::l,h=> .cons (h x) (aQ.map l h)
theorem VR.scalar{m:Mp}{v v':Value}(h:VR m v v')(hs:Ev.scalar v=true):v'=v:=by
 cases h<;>first|rfl|cases hs
theorem VR.self{m:Mp}{v:Value}(hs:Ev.scalar v=true):VR m v v:=by
 cases v<;>first|exact .bool _|exact .int _ _|exact .string _|cases hs
theorem VR.one{m:Mp}{v v':Value}(h:VR m v v'):Ev.one v'=Ev.one v:=by cases h<;>rfl
theorem VR.cells{m:Mp}{v v':Value}(h:VR m v v'):aQ m v.cells.toList v'.cells.toList:=by
 cases h with
 |agg h=>exact h
 |bool b=>exact .cons (.bool b) .nil
 |int k n=>exact .cons (.int k n) .nil
 |float k n=>exact .cons (.float k n) .nil
 |string s=>exact .cons (.string s) .nil
 |xZ=>exact .cons .xZ .nil
 |ptr h=>exact .cons (.ptr h) .nil
 |ml n c hc=>exact .cons (.ml n c hc) .nil
 |fT h ho h1 h2 hn ht=>exact .cons (.fT h ho h1 h2 hn ht) .nil
 |pe b off s a'=>exact .cons (.pe b off s a') .nil
 |func fn h1 h2=>exact .cons (.func fn h1 h2) .nil
 |nilFunc=>exact .cons .nilFunc .nil
 |tuple h=>exact .cons (.tuple h) .nil
theorem VR.undef{m:Mp}:VR m ag2 ag2:= .tuple .nil
theorem VR.Fo{m:Mp}{v v':Value}(h:VR m v v'):v.cells.size=v'.cells.size:=by
 have:=h.cells.length
 simpa using this
structure WR (P:Program) (m:Mp) (base:Nat) (h:H) (hp:Array Obj):Prop where
 live:∀b B,h.get b=some B->∃d cs lo hi,m b=some d∧hp[d.dy]? =some (.cells cs d.el (lo,hi))∧cs.size=d.tA∧d.sh+B.cells.length<=d.tA∧
  size? P B.elem=some d.esz∧(B.own=true->d.el=B.elem∧base<=d.dy∧∀k,k<d.tA->¬(lo<=k∧k<hi))∧∀k v,B.cells[k]? =some v->∃v',cs[d.sh+k]? =some v'∧VR m v v'
 inj:∀b b' B B' d d',h.get b=some B->h.get b'=some B'->(B.own=true∨B'.own=true)->m b=some d->m b'=some d'->d.dy=d'.dy->b=b'
theorem WR.mj{P:Program}{m:Mp}{base:Nat}{h h':H}{hp:Array Obj}(x:WR P m base h hp)(e:∀b,h'.get b=h.get b):WR P m base h' hp:=
 ⟨fun b B hb=>x.live b B (by rw[<-e];exact hb),fun b b' B B' d d' hb bM=>x.inj b b' B B' d d' (by rw[<-e];exact hb) (by rw[<-e];exact bM)⟩
theorem WR.lt{P:Program}{m:Mp}{base:Nat}{h:H}{hp:Array Obj}(x:WR P m base h hp){b:Nat}{B:AB}(hb:h.get b=some B):∃d,m b=some d∧d.dy<hp.size:=by
 obtain⟨d,cs,lo,hi,hm,hg,_⟩:=x.live b B hb
 exact⟨d,hm,(Array.getElem?_eq_some_iff.1 hg).1⟩
structure cF (P:Program) (m:Mp) (base n n1:Nat) (w:World) (h1:H) (m':Mp) (w':World):Prop where
 le:Le m m'
 out:∀b,¬(n<=b∧b<n1)->m' b=m b
 wr:WR P m' base h1 w'.heap
 below:Below base w w'
theorem cF.refl{P:Program}{m:Mp}{base n:Nat}{w:World}{h:H}(x:WR P m base h w.heap):cF P m base n n w h m w:=
 ⟨Le.refl _,fun _ _=>rfl,x,rp _ _⟩
theorem cF.trans{P:Program}{m m' m4:Mp}{base n n1 n2:Nat}{w w' m5:World}{h1 h2:H}(h01:n<=n1)(cV:n1<=n2)(x:cF P m base n n1 w h1 m' w')(y:cF P m' base n1 n2 w' h2 m4 m5):cF P m base n n2 w h2 m4 m5:=
 ⟨x.le.trans y.le,fun b hb=>(y.out b (by omega)).trans (x.out b (by omega)),y.wr,x.below.trans y.below⟩
def g9(m:Mp)(n n1:Nat):Prop:=∀b,n<=b->b<n1->m b=none
theorem g9.after{P:Program}{m m':Mp}{base n n1 n2:Nat}{w w':World}{h1:H}(f:g9 m n n2)(hn:n<=n1)(x:cF P m base n n1 w h1 m' w'):g9 m' n1 n2:=
 fun b h1 h2=>by rw[x.out b (by omega)];exact f b (by omega) h2
theorem g9.first{m:Mp}{n n1 n2:Nat}(f:g9 m n n2)(h:n1<=n2):g9 m n n1:=fun b h1 h2=>f b h1 (by omega)
theorem m6(b o i:Nat):(⟨b,o,none⟩:Addr).add i=⟨b,o+i,none⟩:=by
 unfold Addr.add
 split
 ·rename_i h;subst h;rfl
 ·rfl
theorem tB(w:World)(c o:Nat){cs:Array Value}{e:TypeId}{f:Nat×Nat}(h:w.heap[c]? =some (.cells cs e f)):w.cell? ⟨c,o,none⟩=cs[o]? :=by
 unfold World.cell?
 simp[h]
theorem AX{P:Program}{m:Mp}{base:Nat}{h h1:H}{w:World}{b k n n1:Nat}{v:Value}{L:List En}(x:WR P m base h w.heap)(hr:rd b k h n=some ⟨v,h1,n1,L⟩):
 h1=h∧n1=n∧∃d v',m b=some d∧w.cell? ⟨d.dy,d.sh+k,none⟩=some v'∧VR m v v':=by
 unfold rd at hr
 split at hr
 ·split at hr
  ·rename_i B hB
   split at hr
   ·rename_i u hu
    simp only[dV,Out.mk.injEq]at hr
    obtain⟨rfl,rfl,rfl,_⟩:=hr
    obtain⟨d,cs,lo,hi,hm,hg,_,_,_,_,hc⟩:=x.live b B hB
    obtain⟨v',ct,hr⟩:=hc k u hu
    exact⟨rfl,rfl,d,v',hm,by rw[tB w _ _ hg];exact ct,hr⟩
   ·cases hr
  ·cases hr
 ·cases hr
theorem tC{P:Program}{m:Mp}{base:Nat}{h:H}{w:World}{b n:Nat}(x:WR P m base h w.heap){d:Ds}(hd:m b=some d):∀{c k n1:Nat} {vs:List Value} {h1:H} {L:List En},db b k c h n=some ⟨vs,h1,n1,L⟩->
 h1=h∧n1=n∧vs.length=c∧∃cZ,aQ m vs cZ∧∀j v,cZ[j]? =some v->w.cell? ⟨d.dy,d.sh+k+j,none⟩=some v:=by
 intro c
 induction c with
 |zero=>
  intro k n1 vs h1 L hr
  simp only[db,M.ret,dV,Out.mk.injEq]at hr
  obtain⟨rfl,rfl,rfl,_⟩:=hr
  exact⟨rfl,rfl,rfl,[],.nil,fun j v hv=>by simp at hv⟩
 |succ c ih=>
  intro k n1 vs h1 L hr
  obtain⟨v,h2,n2,L1,L2,e2,e3,_⟩:=bind_some (m:=rd b k) hr
  obtain⟨rfl,rfl,d',v',kN,hc,hv⟩:=AX x e2
  rw[hd]at kN
  cases kN
  obtain⟨ws,h4,n4,L3,L4,e4,e5,_⟩:=bind_some (m:=db b (k+1) c) e3
  obtain⟨rfl,rfl,hl,cZ,fE,eJ⟩:=ih e4
  obtain⟨rfl,rfl,rfl⟩:=bI e5
  refine⟨rfl,rfl,by simp[hl],v'::cZ,.cons hv fE,fun j u hu=> ?_⟩
  cases j with
  |zero=>simp at hu;subst hu;exact hc
  |succ j=>
   have:=eJ j u (by simpa using hu)
   rw[show d.sh+k+(j+1)=d.sh+(k+1)+j by omega]
   exact this
theorem vX{P:Program}{w:World}{c o:Nat}{vs:List Value}(h:∀j v,vs[j]? =some v->w.cell? ⟨c,o+j,none⟩=some v):(loadCells ⟨c,o,none⟩ vs.length).run P w= .ok vs.toArray w:=by
 have:=run_loadCells_list (P:=P) (w:=w) ⟨c,o,none⟩ vs (fun j v hv=>by rw[m6];exact h j v hv)
 simpa using this
theorem LP{P:Program}{m:Mp}{base:Nat}{h h1:H}{w:World}{b n n1:Nat}{e:TypeId}{L:List En}(x:WR P m base h w.heap)(hr:iA b h n=some ⟨e,h1,n1,L⟩):
 h1=h∧n1=n∧∃d,m b=some d∧size? P e=some d.esz∧∃B,h.get b=some B∧B.elem=e:=by
 unfold iA at hr
 split at hr
 ·split at hr
  ·rename_i B hB
   simp only[dV,Out.mk.injEq]at hr
   obtain⟨rfl,rfl,rfl,_⟩:=hr
   obtain⟨d,cs,lo,hi,hm,_,_,_,hs,_⟩:=x.live b B hB
   exact⟨rfl,rfl,d,hm,hs,B,hB,rfl⟩
  ·cases hr
 ·cases hr
theorem getElem?_modify_ne{α:Type}(a:Array α)(f:α->α){i j:Nat}(h:i≠j):(a.modify i f)[j]? =a[j]? :=by
 rw[EX,if_neg h]
theorem Xq{P:Program}{m:Mp}{base:Nat}{h h1:H}{w:World}{b k n n1:Nat}{v v':Value}{L:List En}(x:WR P m base h w.heap)(hr:wr b k v h n=some ⟨(),h1,n1,L⟩)(hv:VR m v v'){d:Ds}(hd:m b=some d):
 n1=n∧(w.cell? ⟨d.dy,d.sh+k,none⟩).isSome=true∧w.frozen? ⟨d.dy,d.sh+k,none⟩=false∧Ev.one v'=true∧base<=d.dy∧WR P m base h1 (w.setCell ⟨d.dy,d.sh+k,none⟩ v').heap:=by
 unfold wr at hr
 split at hr
 ·split at hr
  ·rename_i B hB
   split at hr
   ·rename_i hc
    simp only[bZ,decide_eq_true_eq]at hc
    obtain⟨⟨nX,hk⟩,LN⟩:=hc
    simp only[dV,Out.mk.injEq]at hr
    obtain⟨_,rfl,rfl,_⟩:=hr
    obtain⟨d0,cs,lo,hi,hm,hg,fN,hlen,Xr,ho,hc⟩:=x.live b B hB
    rw[hd]at hm;cases hm
    obtain⟨m7,rL,fF⟩:=ho nX
    have bf:d.sh+k<cs.size:=by omega
    have j5:(w.setCell ⟨d.dy,d.sh+k,none⟩ v').heap[d.dy]? =some (.cells (cs.setIfInBounds (d.sh+k) v') d.el (lo,hi)):=by
     simp only[World.setCell,EX,if_true,hg]
     simp
    refine⟨rfl,by rw[tB w _ _ hg];simp[bf], ?_,by rw[hv.one];exact LN,rL, ?_⟩
    ·unfold World.frozen?
     simp only[hg]
     have:=fF (d.sh+k) (by omega)
     simp only[Bool.and_eq_false_iff,decide_eq_false_iff_not]
     omega
    ·constructor
     ·intro b2 B2 cW
      rw[xX hB v b2 0]at cW
      by_cases e:b2=b
      ·subst e
       rw[if_pos rfl]at cW
       cases cW
       refine⟨d,_,lo,hi,hd,j5,by simpa using fN,by simpa using hlen,Xr,fun _=>⟨m7,rL,fF⟩,fun j u hu=> ?_⟩
       by_cases e2:k=j
       ·subst e2
        simp[hk]at hu
        subst hu
        exact⟨v',by simp[bf],hv⟩
       ·rw[ag1 e2]at hu
        obtain⟨u',qp,hr⟩:=hc j u hu
        exact⟨u',by rw[WJ (by omega)];exact qp,hr⟩
      ·rw[if_neg e]at cW
       obtain⟨d2,rM,Xs,gL,gB,fG,r⟩:=x.live b2 B2 cW
       have cd:d.dy≠d2.dy:=fun e3=>e (x.inj b2 b B2 B d2 d cW hB (.inr nX) gB hd e3.symm)
       refine⟨d2,rM,Xs,gL,gB, ?_,r⟩
       rw[Below.heap_setCell w _ _ _ (Ne.symm cd)]
       exact fG
     ·intro b2 b3 B2 B3 d2 d3 cW Xt qq
      have key:∀c C,(h.set b (some {B with cells:=B.cells.set k v})).get c=some C->∃C',h.get c=some C'∧C'.own=C.own:=by
       intro c C jI
       rw[xX hB v c 0]at jI
       by_cases e:c=b
       ·subst e
        rw[if_pos rfl]at jI
        cases jI
        exact⟨B,hB,rfl⟩
       ·rw[if_neg e]at jI;exact⟨C,jI,rfl⟩
      obtain⟨C2,h2,g2⟩:=key b2 B2 cW
      obtain⟨C3,h3,g3⟩:=key b3 B3 Xt
      exact x.inj b2 b3 C2 C3 d2 d3 h2 h3 (by rw[g2,g3];exact qq)
   ·cases hr
  ·cases hr
 ·cases hr
theorem LQ{P:Program}{α:Type}{w:World}{p:Addr}{v:Value}{k:Sem α}(h1:(w.cell? p).isSome=true)(h2:w.frozen? p=false)(h3:Ev.one v=true):(Sem.store .plain p v k).run P w=k.run P (w.setCell p v):=by
 obtain⟨u,hu⟩:=Option.isSome_iff_exists.1 h1
 cases v<;>first|(simp[Ev.one]at h3;done)|simp[Av,hu,h2]
theorem Fp{P:Program}{m:Mp}{base:Nat}{b:Nat}{d:Ds}(hd:m b=some d):∀{vs cZ:List Value} (_:aQ m vs cZ) {k i n n1:Nat} {h h1:H} {w:World} {L:List En} (o:Nat),o+i=d.sh+k->WR P m base h w.heap->eD b k vs h n=some ⟨(),h1,n1,L⟩->
 n1=n∧∃w',(storeCells ⟨d.dy,o,none⟩ cZ i).run P w= .ok () w'∧WR P m base h1 w'.heap∧Below base w w':=by
 intro vs cZ fE
 induction fE using aQ.rec (motive_1:=fun _ _ _=>True)with
 |nil=>
  intro k i n n1 h h1 w L o _ x hr
  simp only[eD,M.ret,dV,Out.mk.injEq]at hr
  obtain⟨_,rfl,rfl,_⟩:=hr
  exact⟨rfl,w,rfl,x,rp _ _⟩
 |cons hv _ _ ih=>
  intro k i n n1 h h1 w L o ho x hr
  obtain⟨u,h2,n2,L1,L2,e2,e3,_⟩:=bind_some (m:=wr b k _) hr
  cases u
  obtain⟨rfl,c1,c2,c3,hb,x2⟩:=Xq x e2 hv hd
  obtain⟨rfl,w',ya,x3,eL⟩:=ih (i:=i+1) o (by omega) x2 e3
  refine⟨rfl,w', ?_,x3,((rp base w).setCell (p:=⟨d.dy,d.sh+k,none⟩) hb _).trans eL⟩
  unfold storeCells
  rw[m6,ho]
  show(xL (store _ _) _).run P w=_
  unfold store
  simp only[xL]
  rw[LQ c1 c2 c3]
  exact ya
 |_=>trivial
theorem tD {P:Program} {m:Mp} {base:Nat} {h h1:H} {w:World} {n n1 r:Nat} {e:TypeId} {cs:List Value} {L:List En} (x:WR P m base h w.heap) (hr:cR e cs h n=some ⟨r,h1,n1,L⟩) (hf:g9 m n n1) (rL:base<=w.heap.size)
 {cs':Array Value} (hlen:cs.length<=cs'.size) (eJ:∀(k:Nat) (v:Value),cs[k]? =some v->∃v',cs'[k]? =some v'∧VR m v v') {esz:Nat} (he:size? P e=some esz):
 r=n∧n1=n+1∧∃m',m' n=some ⟨w.heap.size,0,cs'.size,esz,e⟩∧cF P m base n n1 w h1 m' (w.alloc (.cells cs' e)):=by
 unfold cR at hr
 split at hr
 ·rename_i hn
  simp only[dV,Out.mk.injEq]at hr
  obtain⟨rfl,rfl,rfl,_⟩:=hr
  have eE:m n=none:=hf n (ak _) (by omega)
  have hle:Le m (fun b=>if b=n then some ⟨w.heap.size,0,cs'.size,esz,e⟩else m b):=by
   intro b d hb
   by_cases e:b=n
   ·subst e;rw[eE]at hb;cases hb
   ·simp[e,hb]
  refine⟨rfl,rfl,fun b=>if b=n then some ⟨w.heap.size,0,cs'.size,esz,e⟩else m b,by simp,hle,fun b hb=>by rw[if_neg (by omega)], ?_,(rp _ _).alloc rL _⟩
  constructor
  ·intro b B hb
   rw[H.iT _ _]at hb
   by_cases eb:b=n
   ·subst eb
    rw[if_pos rfl]at hb
    cases hb
    refine⟨_,cs',0,0,if_pos rfl, ?_,rfl,by simpa using hlen,he,fun _=>⟨rfl,rL,fun k _=>by omega⟩,fun k v hk=> ?_⟩
    ·exact heap_alloc_new w _
    ·obtain⟨v',ct,hr⟩:=eJ k v hk
     exact⟨v',by simpa using ct,hr.mono hle⟩
   ·rw[if_neg eb]at hb
    obtain⟨d,rM,lo,hi,hm,hg,h1,h2,fN,h3,h4⟩:=x.live b B hb
    refine⟨d,rM,lo,hi,by simp[eb,hm], ?_,h1,h2,fN,h3,fun k v hk=> ?_⟩
    ·rw[Below.heap_alloc w _ _ (Array.getElem?_eq_some_iff.1 hg).1];exact hg
    ·obtain⟨v',ct,hr⟩:=h4 k v hk
     exact⟨v',ct,hr.mono hle⟩
  ·intro b b' B B' d d' hb bM qq hm dM he
   rw[H.iT _ _]at hb bM
   by_cases eb:b=n
   ·by_cases yb:b'=n
    ·rw[eb,yb]
    ·rw[if_neg yb]at bM dM
     rw[if_pos eb]at hm
     obtain⟨d2,h2,bf⟩:=x.lt bM
     rw[dM]at h2
     cases h2;cases hm
     simp at he
     omega
   ·rw[if_neg eb]at hb hm
    by_cases yb:b'=n
    ·rw[if_pos yb]at dM
     obtain⟨d2,h2,bf⟩:=x.lt hb
     rw[hm]at h2
     cases h2;cases dM
     simp at he
     omega
    ·rw[if_neg yb]at bM dM
     exact x.inj b b' B B' d d' hb bM qq hm dM he
 ·cases hr
theorem WR.kill{P:Program}{m:Mp}{base:Nat}{h:H}{hp:Array Obj}(x:WR P m base h hp){b:Nat}{B:AB}(hB:h.get b=some B):WR P m base (h.set b none) hp:=by
 have key:∀c C,(h.set b none).get c=some C->c≠b∧h.get c=some C:=by
  intro c C hc
  rw[H.iT _ _]at hc
  by_cases e:c=b
  ·rw[if_pos e]at hc;cases hc
  ·rw[if_neg e]at hc;exact⟨e,hc⟩
 exact⟨fun c C hc=>x.live c C (key c C hc).2,fun c c' C C' d d' hc kO=>x.inj c c' C C' d d' (key c C hc).2 (key c' C' kO).2⟩
def Gl(P:Program)(m:Mp):Prop:=∀g,g<P.globals.size->∃d,m g=some d∧d.dy=g∧d.sh=0
theorem Gl.mono{P:Program}{m m':Mp}(g:Gl P m)(h:Le m m'):Gl P m':=fun i hi=>let⟨d,h1,h2⟩:=g i hi;⟨d,h _ _ h1,h2⟩
structure SR (m:Mp) (nt:Nat) (s:S) (a:Act):Prop where
 df:a.defers=[]
 sz:a.tmps.size=nt
 at_:∀t,VR m (s.get t) (a.tmps.getD t undef)
theorem SR.mono{m m':Mp}{nt:Nat}{s:S}{a:Act}(x:SR m nt s a)(h:Le m m'):SR m' nt s a:=⟨x.df,x.sz,fun t=>(x.at_ t).mono h⟩
theorem VR.qi{m:Mp}{v:Value}(h:Ev.qi v=true):VR m v v:=by
 unfold Ev.qi at h
 split at h
 ·exact .bool _
 ·exact .int _ _
 ·exact .float _ _
 ·exact .string _
 ·exact .xZ
 ·exact .nilFunc
 ·exact .ml _ _ (by simpa using h)
 ·cases h
theorem aQ.clean{m:Mp}:∀{l:List Value},(∀v∈l,Ev.qi v=true)->aQ m l l
 |[],_=> .nil
 |v::l,h=> .cons (VR.qi (h v (by simp))) (aQ.clean fun u hu=>h u (by simp[hu]))
theorem VR.clean{m:Mp}{v:Value}(h:Ev.clean v=true):VR m v v:=by
 unfold Ev.clean at h
 split at h
 ·exact .agg (aQ.clean fun u hu=>by rw[tr]at h;exact h u (Array.mem_toList_iff.1 hu))
 ·exact .tuple (aQ.clean fun u hu=>by rw[tr]at h;exact h u (Array.mem_toList_iff.1 hu))
 ·exact VR.qi h
theorem LR{P:Program}{m:Mp}{nt:Nat}{s:S}{a:Act}(g:Gl P m)(x:SR m nt s a){y:Operand}(h:AU P y=true):VR m (ev s y) (a.eval y):=by
 cases y with
 |tmp t=>exact x.at_ t
 |const v=>exact VR.clean h
 |global i=>
  obtain⟨d,h1,h2,h3⟩:=g i (by simpa[AU]using h)
  have:=VR.ptr (m:=m) (off:=0) h1
  rw[h2,h3]at this
  exact this
 |func f=>exact .func _ .nil .nil
theorem Xu{m:Mp}{nt:Nat}{s:S}{a:Act}(x:SR m nt s a)(ops:Array Oper)(j:Nat):gy ops s j=yielded ops a.tmps j:=by
 unfold gy yielded
 cases ho:(ops[j]?).bind (·.dst)with
 |none=>rfl
 |some t=>
  have hr:=x.at_ t
  simp only[K4]
  rw[oZ]at hr
  cases hg:a.tmps[t]? with
  |none=>
   rw[hg]at hr
   generalize s.get t=v at hr
   cases hr;rfl
  |some u=>
   rw[hg]at hr
   simp only[Option.getD_some]at hr
   generalize s.get t=v at hr
   cases hr<;>rfl
theorem S.pf(s:S)(d:Nat)(v:Value)(t:Nat)(hd:d<1023):(s.put d v).get t=if t=d then v else s.get t:=by
 unfold S.get S.put
 rw[Tr.iT 10 s d (some v) t (by omega)]
 split<;>rfl
theorem LS{m:Mp}{nt:Nat}{s s1:S}{a:Act}{dst:Option Tmp}{v v':Value}(x:SR m nt s a)(hv:VR m v v')(h:j3 nt s dst v=some s1):SR m nt s1 (a.put dst v'):=by
 unfold j3 at h
 cases dst with
 |none=>cases h;exact x
 |some d=>
  simp only at h
  split at h
  ·rename_i hc
   simp only[bZ,decide_eq_true_eq]at hc
   cases h
   refine⟨x.df,by simp[ag6,x.sz],fun t=> ?_⟩
   rw[S.pf _ _ _ _ hc.2]
   simp only[ag6]
   by_cases e:t=d
   ·subst e
    rw[if_pos rfl]
    have:t<a.tmps.size:=by rw[x.sz];exact hc.1
    simpa[this]using hv
   ·rw[if_neg e]
    have:=x.at_ t
    simpa[WJ (Ne.symm e),oZ]using this
  ·cases h
inductive NR (m:Mp):Nx->Next->Prop
 |val {v v':Value} (h:VR m v v'):NR m (.val v) (.value v')
 |skip:NR m (.val undef) .skip
 |call {f:FuncId} {args dY:Array Value} (h:aQ m args.toList dY.toList):NR m (.call f args) (.enter f dY)
def tE(P:Program)(base:Nat):Prop:=∀(ρ ρ':Operand->Value) (o:Oper) (h:H) (n:Nat) (r:Nx) (h1:H) (n1:Nat) (L:List En) (m:Mp) (w:World),
 bU P ρ o h n=some ⟨r,h1,n1,L⟩->(∀y∈o.op.operands,VR m (ρ y) (ρ' y))->WR P m base h w.heap->base<=w.heap.size->g9 m n n1->
 ∃m' w' R,(execOp ρ' o).run P w= .ok R w'∧cF P m base n n1 w h1 m' w'∧NR m' r R
def vY(P:Program)(base:Nat)(rec:FuncId->Array Value->M Value):Prop:=∀(f:FuncId) (args:Array Value) (h:H) (n:Nat) (v:Value) (h1:H) (n1:Nat) (L:List En) (m:Mp) (w:World) (dY:Array Value),
 rec f args h n=some ⟨v,h1,n1,L⟩->WR P m base h w.heap->base<=w.heap.size->aQ m args.toList dY.toList->g9 m n n1->Gl P m->
 Calls P f dY w fun e w'=>∃m' v',e= .returned v'∧cF P m base n n1 w h1 m' w'∧VR m' v v'
section
variable {P:Program} {base:Nat} {rec:FuncId->Array Value->M Value} {nt:Nat} {ops:Array Oper} {Q:Exit->Act->World->Prop}
theorem Below.le{B:Nat}{w w':World}(b:Below B w w')(h:B<=w.heap.size):B<=w'.heap.size:=xM h b.size
theorem LU (bD:tE P base) (cB:vY P base rec) (fH:∀f a,Loc (rec f a)) {i:Nat} {o:Oper} (hi:ops[i]? =some o) (b9:vS P o=true) {m:Mp} {s:S} {a:Act} {w:World} {h h1:H} {n n1:Nat} {L:List En} {v:Value}
 (x:WR P m base h w.heap) (hb:base<=w.heap.size) (g:Gl P m) (hs:SR m nt s a) (hr:fD P rec ops o s h n=some ⟨v,h1,n1,L⟩) (hf:g9 m n n1) {K:Act->World->Prop}
 (hK:∀m' w' v',cF P m base n n1 w h1 m' w'->VR m' v v'->K (a.put o.dst v') w'):wpOp P ops Q i K a w:=by
 have hw:fK o (gy ops s)=fK o (yielded ops a.tmps):=by
  congr 1;funext j;exact Xu hs ops j
 unfold wpOp
 simp only[hi]
 unfold fD at hr
 rw[hw]at hr
 by_cases Fq:fK o (yielded ops a.tmps)=true
 ·rw[if_pos Fq]at hr⊢
  obtain⟨r,h2,n2,L1,L2,e1,e2,rfl⟩:=bind_some hr
  have A:=Loc.bU P (ev s) o h n r h2 n2 L1 e1
  have dZ:n2<=n1:=by
   cases r with
   |val u=>obtain⟨_,_,e⟩:=bI e2;omega
   |call f args=>exact(fH f args _ _ _ _ _ _ e2).le
  obtain⟨m',w',R,iD,tF,LV⟩:=bD (ev s) a.eval o h n r h2 n2 L1 m w e1 (fun y hy=>LR g hs (by
   unfold vS at b9
   rw[tr]at b9
   exact b9 y hy)) x hb (hf.first dZ)
  left
  unfold Oper.wp
  rw[iD]
  cases LV with
  |val hv=>
   obtain⟨rfl,rfl,rfl⟩:=bI e2
   exact hK m' w' _ tF hv
  |skip=>
   obtain⟨rfl,rfl,rfl⟩:=bI e2
   exact hK m' w' _ tF VR.undef
  |call ed=>
   rename_i f args dY
   refine(cB f args h2 n2 v h1 n1 L2 m' w' dY e2 tF.wr (Below.le tF.below hb) ed (hf.after A.le tF) (g.mono tF.le)).mono ?_
   rintro e m5 ⟨m4,v',rfl,iE,hv⟩
   exact hK m4 m5 v' (tF.trans A.le dZ iE) hv
 ·have Xv:fK o (yielded ops a.tmps)=false:=by simpa using Fq
  rw[if_neg Fq]at hr⊢
  obtain⟨rfl,rfl,rfl⟩:=bI hr
  exact hK m w undef (cF.refl x) VR.undef
theorem all_congr{α:Type}{l:Array α}{f g:α->Bool}(h:∀x∈l,f x=g x):l.all f=l.all g:=by
 rw[Bool.eq_iff_iff,tr,tr]
 exact⟨fun a x hx=>by rw[<-h x hx];exact a x hx,fun a x hx=>by rw[h x hx];exact a x hx⟩
theorem Xw{ρ ρ':Operand->Value}(o:Oper)(h:∀x∈o.op.operands,ρ x=ρ' x):bU P ρ o=bU P ρ' o:=by
 by_cases hs:∃cs b,o.op= .select cs b
 ·obtain⟨cs,b,hs⟩:=hs
  unfold bU
  rw[hs]
 have hex:execOp ρ o=execOp ρ' o:=execOp_congr o (fun cs b hh=>hs ⟨cs,b,hh⟩) h
 have dN:fS P ρ o=fS P ρ' o:=by
  unfold fS
  rw[hex,all_congr fun x hx=>by rw[h x hx]]
 have LW:∀ps:Array (Nat×Operand),(∀x∈(ps.toList.map (·.2)).toArray,ρ x=ρ' x)->(ps.toList.map fun(i,x)=>(i,ρ x))=(ps.toList.map fun(i,x)=>(i,ρ' x)):=fun ps hp=>
  List.map_congr_left fun p hm=>by
   obtain⟨i,x⟩:=p
   simp only[hp x (by simpa using ⟨i,by simpa using hm⟩)]
 unfold bU
 cases bD:o.op<;>rw[bD]at h<;>simp only[Op.operands]at h<;>simp only
 case build t ps=>rw[LW ps h]
 case buildSlice t n ps=>rw[LW ps h]
 case makeFunc fn first captured=>
  rw[WK (xs:=first) fun x hx=>h x (by simp[hx]),WK (xs:=captured) fun x hx=>h x (by simp[hx])]
 case call c=>
  have ed:c.args.map ρ=c.args.map ρ':=WK fun x hx=>h x (by simp[xN,hx])
  rw[ed]
  unfold j2
  cases hc:c.callee with
  |value f=>have hf:ρ f=ρ' f:=h f (by simp[xN,hc]);simp only[hf]
  |invoke r m=>rfl
  |builtin b=>cases b<;>simp only[dN]
 case slice t x lo hi mx=>
  rw[dN,h x (by simp)]
  cases lo<;>cases hi<;>cases mx<;>simp_all
 all_goals (first|rfl|(simp_all;done)|(rw[dN];simp_all;done))
theorem Xx{s s':S}{y:Operand}(h:∀t,y= .tmp t->s.get t=s'.get t):ev s y=ev s' y:=by
 cases y with
 |tmp t=>exact h t rfl
 |_=>rfl
theorem Xy{o:Oper}{s s':S}(h:∀t∈o.looksAt ops,s.get t=s'.get t):fD P rec ops o s=fD P rec ops o s':=by
 have h1:bU P (ev s) o=bU P (ev s') o:=Xw o fun x hx=>Xx fun t ht=>h t (by
  unfold ag7
  exact List.mem_append_left _ (List.mem_filterMap.2 ⟨x,by simpa using hx,by rw[ht]⟩))
 have h2:fK o (gy ops s)=fK o (gy ops s'):=by
  unfold fK
  cases hg:o.guard with
  |none=>rfl
  |some gw=>
   obtain⟨g,want⟩:=gw
   have:gy ops s g=gy ops s' g:=by
    unfold gy
    cases ht:(ops[g]?).bind (·.dst)with
    |none=>rfl
    |some t=>simp only[h t (by unfold ag7;exact List.mem_append_right _ (by simp[hg,ht]))]
   simp only[this]
 unfold fD
 rw[h1,h2]
end
structure Fs (P:Program) (rec:FuncId->Array Value->M Value) (nt:Nat) (ops:Array Oper) (l:List Oper) (s:Nat->S) (h:Nat->H) (n:Nat->Nat) (v:Nat->Value) (L:Nat->List En):Prop where
 step:∀i o,l[i]? =some o->inside (fD P rec ops o (s i)) (h i) (n i)=some ⟨v i,h (i+1),n (i+1),L i⟩
 put:∀i o,l[i]? =some o->j3 nt (s i) o.dst (v i)=some (s (i+1))
theorem Xz{P:Program}{rec:FuncId->Array Value->M Value}{nt:Nat}{ops:Array Oper}:∀(l:List Oper) (s0:S) (h0:H) (n0:Nat) (y:S×List Tk) (h1:H) (n1:Nat) (L0:List En),
 iB P rec nt ops l s0 h0 n0=some ⟨y,h1,n1,L0⟩->∃s h n v L,Fs P rec nt ops l s h n v L∧s 0=s0∧h 0=h0∧n 0=n0∧s l.length=y.1∧h l.length=h1∧n l.length=n1∧y.2.length=l.length∧∀i,i<l.length->y.2[i]? =some ⟨n i,n (i+1),L i⟩:=by
 intro l
 induction l with
 |nil=>
  intro s0 h0 n0 y h1 n1 L0 hr
  obtain⟨rfl,rfl,rfl⟩:=bI hr
  exact⟨fun _=>s0,fun _=>h1,fun _=>n1,fun _=>undef,fun _=>[],⟨fun i o h=>by simp at h,fun i o h=>by simp at h⟩,rfl,rfl,rfl,rfl,rfl,rfl,rfl,fun i hi=>by simp at hi⟩
 |cons o r ih=>
  intro s0 h0 n0 y h1 n1 L0 hr
  obtain⟨x,h2,n2,L1,L2,e1,e2,_⟩:=bind_some (m:=cz (inside (fD P rec ops o s0))) hr
  unfold cz at e1
  split at e1
  ·rename_i v0 kK vV Li ei
   simp only[dV,Out.mk.injEq]at e1
   obtain⟨rfl,rfl,rfl,rfl⟩:=e1
   obtain⟨s1,h3,n3,L3,L4,e3,e4,_⟩:=bind_some (m:=M.lift _) e2
   obtain⟨fw,rfl,rfl⟩:=pd e3
   obtain⟨y2,h4,n4,L5,L6,e5,e6,_⟩:=bind_some (m:=iB P rec nt ops r s1) e4
   obtain⟨rfl,rfl,rfl⟩:=bI e6
   obtain⟨s,h,n,v,L,C,a1,a2,a3,a4,a5,a6,a7,a8⟩:=ih _ _ _ _ _ _ _ e5
   refine⟨fun i=>if i=0 then s0 else s (i-1),fun i=>if i=0 then h0 else h (i-1),fun i=>if i=0 then n0 else n (i-1),fun i=>if i=0 then v0 else v (i-1),fun i=>if i=0 then Li else L (i-1),⟨fun i o' ho=> ?_,fun i o' ho=> ?_⟩,rfl,rfl,rfl,by simpa using a4,by simpa using a5,by simpa using a6,by simp[a7],fun i hi=> ?_⟩
   ·cases i with
    |zero=>simp at ho;subst ho;simpa[a2,a3]using ei
    |succ i=>simpa using C.step i o' (by simpa using ho)
   ·cases i with
    |zero=>simp at ho;subst ho;simpa[a1]using fw
    |succ i=>simpa using C.put i o' (by simpa using ho)
   ·cases i with
    |zero=>simp[a3]
    |succ i=>simpa using a8 i (by simpa using hi)
  ·cases e1
theorem Ft{α:Type}{m:M α}{h h1:H}{n n1:Nat}{a:α}{L:List En}(hr:inside m h n=some ⟨a,h1,n1,L⟩):∃L',m h n=some ⟨a,h1,n1,L'⟩:=by
 unfold inside at hr
 split at hr
 ·rename_i a' dX qo L' e
  simp only[dV,Out.mk.injEq]at hr
  obtain⟨rfl,rfl,rfl,_⟩:=hr
  exact⟨L',e⟩
 ·cases hr
section
variable {P:Program} {base:Nat} {rec:FuncId->Array Value->M Value} {nt:Nat} {ops:Array Oper} {Q:Exit->Act->World->Prop}
theorem XA (bD:tE P base) (cB:vY P base rec) (fH:∀f a,Loc (rec f a)) (b9:∀o∈ops,vS P o=true) {s:Nat->S} {h:Nat->H} {n:Nat->Nat} {v:Nat->Value} {L:Nat->List En}
 (C:Fs P rec nt ops ops.toList s h n v L) {m0:Mp} {w0:World} (hf:g9 m0 (n 0) (n ops.size)) (tG:∀i,i<ops.size->n i<=n (i+1)) (hb:base<=w0.heap.size) (g:Gl P m0) (R:Act->World->Prop)
 (hR:∀m' a' w',cF P m0 base (n 0) (n ops.size) w0 (h ops.size) m' w'->SR m' nt (s ops.size) a'->Q .normal a' w'):
 ∀(k i:Nat),i+k=ops.size->∀(m:Mp) (a:Act) (w:World),cF P m0 base (n 0) (n i) w0 (h i) m w->SR m nt (s i) a->wpOps P ops Q (List.range' i k) a w:=by
 have gB:∀i j,i<=j->j<=ops.size->n i<=n j:=by
  intro i j hH
  induction hH with
  |refl=>intro _;exact ak _
  |step hH ih=>intro hj;exact xM (ih (by omega)) (tG _ (by omega))
 intro k
 induction k with
 |zero=>
  intro i XB m a w hp hs
  have:i=ops.size:=by omega
  subst this
  exact hR m a w hp hs
 |succ k ih=>
  intro i XB m a w hp hs
  have hi:i<ops.size:=by omega
  rw[List.range'_succ,wpOps_cons]
  have qt:ops[i]? =some ops[i]:=by simp[hi]
  obtain⟨L',hv⟩:=Ft (C.step i ops[i] (by simp[hi]))
  have fw:=C.put i ops[i] (by simp[hi])
  refine LU (nt:=nt) bD cB fH qt (b9 _ (by simp)) hp.wr (Below.le hp.below hb) (g.mono hp.le) hs hv (fun b h1 h2=> ?_) fun m' w' v' iE ct=> ?_
  ·have q1:=gB 0 i (by omega) (by omega)
   have q2:=gB (i+1) ops.size (by omega) (by omega)
   rw[hp.out b (by omega)]
   exact hf b (by omega) (by omega)
  ·exact ih (i+1) (by omega) m' _ w' (hp.trans (gB 0 i (by omega) (by omega)) (tG i hi) iE) (LS (hs.mono iE.le) ct fw)
end
def Good(ops:Array Oper)(acc:List Nat):Prop:=∀k,k<acc.length->∀j,(acc.getD k 0).testBit j=true->∃o,ops[k]? =some o∧∃e∈o.after,oX .any e=true∧(j=e.on∨(acc.getD e.on 0).testBit j=true)
theorem Fu{l l':List Nat}{k:Nat}(h:k<l.length):(l++l').getD k 0=l.getD k 0:=by
 simp[aC,List.getElem?_append_left h]
theorem XC(acc:List Nat)(j:Nat):∀(es:List Edge) (s:Nat),(es.foldl (fun s e=>if oX .any e then s|||2^e.on|||acc.getD e.on 0 else s) s).testBit j=true->
 s.testBit j=true∨∃e∈es,oX .any e=true∧(j=e.on∨(acc.getD e.on 0).testBit j=true):=by
 intro es
 induction es with
 |nil=>intro s h;exact .inl h
 |cons e es ih=>
  intro s h
  simp only[WL]at h
  rcases ih _ h with h1|⟨e',XD,h1⟩
  ·by_cases hb:oX .any e=true
   ·rw[if_pos hb]at h1
    simp only[Nat.testBit_or,vF]at h1
    rcases h1 with (h1|h1)|h1
    ·exact .inl h1
    ·rw[Nat.testBit_two_pow]at h1
     exact .inr ⟨e,by simp,hb,.inl (by simpa using Eq.symm (of_decide_eq_true h1))⟩
    ·exact .inr ⟨e,by simp,hb,.inr h1⟩
   ·rw[if_neg hb]at h1;exact .inl h1
  ·exact .inr ⟨e',by simp[XD],h1⟩
theorem XE(ops:Array Oper):∀(l:List Oper) (acc:List Nat),(∀i o,l[i]? =some o->ops[acc.length+i]? =some o)->Good ops acc->Good ops (lH l acc)∧(lH l acc).length=acc.length+l.length:=by
 intro l
 induction l with
 |nil=>intro acc _ h;exact⟨h,by simp[lH]⟩
 |cons o r ih=>
  intro acc hl h
  unfold lH
  generalize hB:(o.after.toList.foldl (fun s e=>if oX .any e then s|||2^e.on|||acc.getD e.on 0 else s) 0)=B
  have:=ih (acc++[B]) (fun i o' rN=>by
   have:=hl (i+1) o' (by simpa using rN)
   simp only[List.length_append,List.length_singleton]
   rw[show acc.length+1+i=acc.length+(i+1) by omega]
   exact this) ?_
  ·exact⟨this.1,by rw[this.2];simp;omega⟩
  ·intro k hk j hj
   by_cases b8:k<acc.length
   ·rw[Fu b8]at hj
    obtain⟨o',h1,e,h2,h3,h4⟩:=h k b8 j hj
    refine⟨o',h1,e,h2,h3, ?_⟩
    rcases h4 with h4|h4
    ·exact .inl h4
    ·refine .inr ?_
     by_cases he:e.on<acc.length
     ·rw[Fu he];exact h4
     ·rw[aC,vG (by omega)]at h4
      simp at h4
   ·have yc:k=acc.length:=by simp at hk;omega
    subst yc
    have XF:(acc++[B]).getD acc.length 0=B:=by simp[aC]
    rw[XF,<-hB]at hj
    rcases XC acc j _ _ hj with h1|⟨e,he,hb,h1⟩
    ·simp at h1
    ·refine⟨o,by simpa using hl 0 o rfl,e,by simpa using he,hb, ?_⟩
     rcases h1 with h1|h1
     ·exact .inl h1
     ·refine .inr ?_
      by_cases he:e.on<acc.length
      ·rw[Fu he];exact h1
      ·rw[aC,vG (by omega)]at h1
       simp at h1
theorem LX {ops:Array Oper} {cU:List Nat} (hg:Good ops cU) (hlen:cU.length=ops.size) (he:∀k o,ops[k]? =some o->∀e∈o.after,oX .any e=true->e.on<k) {D:Nat->Prop}
 (hc:∀k o,D k->ops[k]? =some o->∀e∈o.after,oX .any e=true->D e.on):∀(k:Nat),(∀o,ops[k]? =some o->∀e∈o.after,oX .any e=true->D e.on)->∀j,(cU.getD k 0).testBit j=true->D j:=by
 intro k
 induction k using K5 with
 |_ k ih=>
  intro hk j hj
  by_cases bf:k<cU.length
  ·obtain⟨o,ho,e,rO,iU,h1⟩:=hg k bf j hj
   have hd:=hk o ho e rO iU
   rcases h1 with rfl|h1
   ·exact hd
   ·exact ih e.on (he k o ho e rO iU) (fun o' rN=>hc e.on o' hd rN) j h1
  ·rw[aC,vG (by omega)]at hj
   simp at hj
theorem XG{ops:Array Oper}{cU:List Nat}:∀(l:List (Nat×Tk)),o9 ops cU l=true->∀(p q:Nat) (x y:Nat×Tk),p<q->l[p]? =some x->l[q]? =some y->(cU.getD y.1 0).testBit x.1=true∨(x.2.g8 y.2=false∧o8 ops (ops.getD x.1 default) (ops.getD y.1 default)=false):=by
 intro l
 induction l with
 |nil=>intro _ p q x y _ hp;simp at hp
 |cons a l ih=>
  intro h p q x y dO hp hq
  obtain⟨ja,ta⟩:=a
  unfold o9 at h
  simp only[bZ]at h
  cases q with
  |zero=>omega
  |succ q=>
   cases p with
   |zero=>
    simp at hp
    subst hp
    have:=List.all_eq_true.1 h.1 y (ag' (by simpa using hq))
    simpa using this
   |succ p=>exact ih h.2 p q x y (by omega) (by simpa using hp) (by simpa using hq)
theorem Fv:∀(ts:List Tk) (b i:Nat),(tagged b ts)[i]? =(ts[i]?).map fun t=>(b+i,t):=by
 intro ts
 induction ts with
 |nil=>intro b i;simp[tagged]
 |cons t ts ih=>
  intro b i
  cases i with
  |zero=>simp[tagged]
  |succ i=>
   simp only[tagged,List.getElem?_cons_succ,ih]
   congr 1
   funext x
   rw[show b+1+i=b+(i+1) by omega]
theorem LY{a b:Tk}(h:a.g8 b=false):
 (∀x∈a.log,∀y∈b.log,(x.wr=true∨y.wr=true)->x.b=y.b->(x.k=y.k∨x.k=none∨y.k=none)->False)∧(∀x∈a.log,¬(b.n<=x.b∧x.b<b.n1))∧(∀x∈b.log,¬(a.n<=x.b∧x.b<a.n1)):=by
 unfold Tk.g8 at h
 simp only[Bool.or_eq_false_iff]at h
 obtain⟨⟨⟨h1,h2⟩,h3⟩,h4⟩:=h
 refine⟨fun x hx y hy hw hb hk=> ?_,fun x hx hi=> ?_,fun x hx hi=> ?_⟩
 ·have hm:x.meets y=true∧y.meets x=true:=by
   unfold En.meets
   rcases hk with hk|hk|hk<;>simp[hb,hk]
  rcases hw with hw|hw
  ·have:=(List.any_eq_false.1 h1) x hx
   simp only[hw,EZ]at this
   exact(List.any_eq_false.1 (by simpa using this)) y hy hm.1
  ·have:=(List.any_eq_false.1 h2) y hy
   simp only[hw,EZ]at this
   exact(List.any_eq_false.1 (by simpa using this)) x hx hm.2
 ·have:=(List.any_eq_false.1 h3) x hx
  simp at this
  omega
 ·have:=(List.any_eq_false.1 h4) x hx
  simp at this
  omega
theorem XH{a b:Option Nat}(h:a=b∨a=none∨b=none):b=a∨b=none∨a=none:=by
 rcases h with h|h|h
 ·exact .inl h.symm
 ·exact .inr (.inr h)
 ·exact .inr (.inl h)
section
variable {P:Program} {base:Nat} {rec:FuncId->Array Value->M Value} {nt:Nat} {ops:Array Oper} {Q:Exit->Act->World->Prop}
def Wr(n:Nat->Nat)(L:Nat->List En)(j b c:Nat):Prop:=wrote (L j) b c∨(n j<=b∧b<n (j+1))
def Dn(listed:Array Bool)(j:Nat):Prop:=listed.getD j false=true
structure Inv (P:Program) (base nt:Nat) (ops:Array Oper) (s:Nat->S) (h:Nat->H) (n:Nat->Nat) (L:Nat->List En) (m0:Mp) (w0:World) (listed:Array Bool) (m:Mp) (sD:S) (hD:H) (a:Act) (w:World):Prop where
 sz:listed.size=ops.size
 closed:∀k o,Dn listed k->ops[k]? =some o->∀e∈o.after,oX .any e=true->Dn listed e.on
 mem:∀b c i,i<=ops.size->(∀j,j<ops.size->Wr n L j b c->(Dn listed j↔j<i))->dG hD (h i) b c
 slot:∀t i,i<=ops.size->(∀j o,ops[j]? =some o->o.dst=some t->(Dn listed j↔j<i))->sD.get t=(s i).get t
 le:Le m0 m
 out:∀b,(∀j,j<ops.size->Dn listed j->¬(n j<=b∧b<n (j+1)))->m b=m0 b
 wr:WR P m base hD w.heap
 below:Below base w0 w
 sr:SR m nt sD a
theorem qu{listed:Array Bool}{k j:Nat}(hk:k<listed.size):Dn (listed.setIfInBounds k true) j↔(j=k∨Dn listed j):=by
 unfold Dn
 by_cases e:j=k
 ·subst e;simp[hk]
 ·simp[e,WJ (Ne.symm e),oZ]
theorem XI{listed:Array Bool}(he:∀k o,ops[k]? =some o->∀e∈o.after,oX .any e=true->e.on<k)(fN:listed.size=ops.size)(hr:K6 .any ops listed=[]):∀k,k<ops.size->Dn listed k:=by
 intro k
 induction k using K5 with
 |_ k ih=>
  intro hk
  cases hd:listed.getD k true with
  |true=>
   unfold Dn
   simpa[oZ,fN▸hk,Array.getElem?_eq_getElem (fN▸hk:k<listed.size)]using hd
  |false=>
   have:k∈K6 .any ops listed:=mem_ready.2 ⟨hd,ops[k],by simp[hk],fun e hm hb=>ih e.on (he k ops[k] (by simp[hk]) e hm hb) (by
    have:=he k ops[k] (by simp[hk]) e hm hb
    omega)⟩
   rw[hr]at this
   cases this
theorem XJ (bD:tE P base) (cB:vY P base rec) (fH:∀f a,Loc (rec f a)) (b9:∀o∈ops,vS P o=true) {s:Nat->S} {h:Nat->H} {n:Nat->Nat} {v:Nat->Value} {L:Nat->List En}
 (C:Fs P rec nt ops ops.toList s h n v L) (he:∀k o,ops[k]? =some o->∀e∈o.after,oX .any e=true->e.on<k)
 {cU:List Nat} (hg:Good ops cU) (hlen:cU.length=ops.size)
 (LZ:∀j k,j<k->k<ops.size->(cU.getD k 0).testBit j=true∨((⟨n j,n (j+1),L j⟩:Tk).g8 ⟨n k,n (k+1),L k⟩=false∧o8 ops (ops.getD j default) (ops.getD k default)=false))
 {m0:Mp} {w0:World} (hf:g9 m0 (n 0) (n ops.size)) (tG:∀i,i<ops.size->n i<=n (i+1)) (hb:base<=w0.heap.size) (g:Gl P m0)
 (hR:∀m' a' w',cF P m0 base (n 0) (n ops.size) w0 (h ops.size) m' w'->SR m' nt (s ops.size) a'->Q .normal a' w'):
 ∀(fuel:Nat) (listed:Array Bool) (m:Mp) (sD:S) (hD:H) (a:Act) (w:World),listed.toList.countP (fun b=> !b)=fuel->Inv P base nt ops s h n L m0 w0 listed m sD hD a w->wpAny P .any ops Q fuel listed a w:=by
 have gB:∀i j,i<=j->j<=ops.size->n i<=n j:=by
  intro i j hH
  induction hH with
  |refl=>intro _;exact ak _
  |step hH ih=>intro hj;exact xM (ih (by omega)) (tG _ (by omega))
 have Ma:∀k o,ops[k]? =some o->xW (inside (fD P rec ops o (s k))) (h k) (n k) (v k) (h (k+1)) (n (k+1)) (L k):=fun k o ho=>
  Loc.inside (Loc.fD fH ops o (s k)) _ _ _ _ _ _ (C.step k o (by simpa using ho))
 have XK:∀b c i j,i<=j->j<=ops.size->(∀p,i<=p->p<j->¬Wr n L p b c)->dG (h j) (h i) b c:=by
  intro b c i j hH
  induction hH with
  |refl=>intro _ _;exact dG.refl _ _ _
  |@step j hH ih=>
   intro hj hp
   have iV:j<ops.size:=by omega
   have A:=Ma j ops[j] (by simp[iV])
   have hw:=hp j hH (by omega)
   exact(A.frame b c (fun x=>hw (.inl x)) (fun x=>hw (.inr x))).trans (ih (by omega) fun p h1 h2=>hp p h1 (by omega))
 have XL:∀t i j,i<=j->j<=ops.size->(∀p o,i<=p->p<j->ops[p]? =some o->o.dst≠some t)->(s j).get t=(s i).get t:=by
  intro t i j hH
  induction hH with
  |refl=>intro _ _;rfl
  |@step j hH ih=>
   intro hj hp
   have iV:j<ops.size:=by omega
   have fw:=C.put j ops[j] (by simp[iV])
   have hd:=hp j ops[j] hH (by omega) (by simp[iV])
   rw[<-ih (by omega) fun p o h1 h2=>hp p o h1 (by omega)]
   unfold j3 at fw
   cases m8:(ops[j]).dst with
   |none=>rw[m8]at fw;have hq:s j=s (j+1):=vI fw;rw[hq]
   |some d=>
    rw[m8]at fw hd
    simp only at fw
    split at fw
    ·rename_i hc
     simp only[bZ,decide_eq_true_eq]at hc
     have hq:=vI fw
     rw[<-hq,S.pf _ _ _ _ hc.2,if_neg (fun e=>hd (by rw[e]))]
    ·cases fw
 have fin:∀listed m sD hD a w,Inv P base nt ops s h n L m0 w0 listed m sD hD a w->K6 .any ops listed=[]->Q .normal a w:=by
  intro listed m sD hD a w I hr
  have gM:=XI he I.sz hr
  refine hR m a w ⟨I.le,fun b hb=>I.out b fun j hj _ hi=>hb ⟨xM (gB 0 j (by omega) (by omega)) hi.1,Nat.lt_of_lt_of_le hi.2 (gB (j+1) ops.size (by omega) (by omega))⟩,I.wr.mj fun b=> ?_,I.below⟩ ⟨I.sr.df,I.sr.sz,fun t=> ?_⟩
  ·exact(Fl fun c=>I.mem b c ops.size (ak _) fun j hj _=>⟨fun _=>hj,fun _=>gM j hj⟩).symm
  ·rw[<-I.slot t ops.size (ak _) fun j o ho _=>⟨fun _=>(Array.getElem?_eq_some_iff.1 ho).1,fun hj=>gM j hj⟩]
   exact I.sr.at_ t
 intro fuel
 induction fuel with
 |zero=>
  intro listed m sD hD a w cC I
  have Mb:K6 .any ops listed=[]:=by
   apply List.eq_nil_iff_forall_not_mem.2
   intro k hk
   obtain⟨h1,o,ho,_⟩:=mem_ready.1 hk
   have bf:k<listed.size:=by rw[I.sz];exact(Array.getElem?_eq_some_iff.1 ho).1
   have h2:listed[k]=false:=by simpa[oZ,bf]using h1
   have:=List.countP_eq_zero.1 cC listed[k] (by simp)
   rw[h2]at this
   exact this rfl
  exact⟨Mb,fin _ _ _ _ _ _ I Mb⟩
 |succ fuel ih=>
  intro listed m sD hD a w cC I
  refine⟨fin _ _ _ _ _ _ I,fun k hk=> ?_⟩
  obtain⟨h1,o,ho,Mc⟩:=mem_ready.1 hk
  have AY:k<ops.size:=(Array.getElem?_eq_some_iff.1 ho).1
  have bf:k<listed.size:=by rw[I.sz];exact AY
  have Fw:listed[k]=false:=by simpa[oZ,bf]using h1
  have AZ:¬Dn listed k:=by unfold Dn;simp[oZ,bf,Fw]
  have XM:∀j,(cU.getD k 0).testBit j=true->Dn listed j:=LX hg hlen he I.closed k fun o' rN e hm bM=>by
   rw[ho]at rN;cases rN
   exact Mc e hm bM
  have XN:∀j,Dn listed j->(cU.getD j 0).testBit k=true->False:=fun j hj bM=>AZ (LX hg hlen he I.closed j (fun o' rN=>I.closed j o' hj rN) k bM)
  have A0:∀j,j<ops.size->j≠k->¬(Dn listed j↔j<k)->((∀x∈L j,∀y∈L k,(x.wr=true∨y.wr=true)->x.b=y.b->(x.k=y.k∨x.k=none∨y.k=none)->False)∧(∀x∈L j,¬(n k<=x.b∧x.b<n (k+1)))∧(∀x∈L k,¬(n j<=x.b∧x.b<n (j+1))))∧
   ∀oj,ops[j]? =some oj->(∀d,oj.dst=some d->d∉o.looksAt ops)∧(∀d,oj.dst=some d->o.dst≠some d):=by
   intro j hj lI iF
   have gk:ops.getD k default=o:=by simp[oZ,ho]
   have gj:∀oj,ops[j]? =some oj->ops.getD j default=oj:=fun oj h'=>by simp[oZ,h']
   rcases K7 j k with h'|h'
   ·rcases LZ j k h' AY with Fx|⟨fU,fO⟩
    ·exact absurd ⟨fun _=>h',fun _=>XM j Fx⟩ iF
    ·obtain⟨c1,c2,c3⟩:=LY fU
     refine⟨⟨c1,c2,c3⟩,fun oj lJ=> ?_⟩
     rw[gk,gj oj lJ]at fO
     obtain⟨a1,a2,a3⟩:=ag_ (by unfold o8 at fO;simpa using fO)
     exact⟨a1,a2⟩
   ·have AW:k<j:=by omega
    have XO:Dn listed j:=by
     by_cases hd:Dn listed j
     ·exact hd
     ·exact absurd ⟨fun x=>absurd x hd,fun x=>by omega⟩ iF
    rcases LZ k j AW hj with Fx|⟨fU,fO⟩
    ·exact(XN j XO Fx).elim
    ·obtain⟨c1,c2,c3⟩:=LY fU
     refine⟨⟨fun x hx y hy hw bM kM=>c1 y hy x hx hw.symm bM.symm (XH kM),c3,c2⟩,fun oj lJ=> ?_⟩
     rw[gk,gj oj lJ]at fO
     obtain⟨a1,a2,a3⟩:=ag_ (by unfold o8 at fO;simpa using fO)
     exact⟨a3,fun d hd e=>a2 d e hd⟩
  have A:=Ma k o ho
  have fO:∀t∈o.looksAt ops,sD.get t=(s k).get t:=fun t ht=>I.slot t k (by omega) fun j oj lJ m8=>by
   by_cases lI:j=k
   ·subst lI;exact⟨fun x=>absurd x AZ,fun x=>by omega⟩
   ·by_cases iF:(Dn listed j↔j<k)
    ·exact iF
    ·exact absurd ht (((A0 j (Array.getElem?_eq_some_iff.1 lJ).1 lI iF).2 oj lJ).1 t m8)
  obtain⟨dX,iD,j6⟩:=A.tx hD fun e rO hni=>jG.LJ fun c hc=>(I.mem e.b c k (by omega) fun j hj hw=>by
   by_cases lI:j=k
   ·subst lI;exact⟨fun x=>absurd x AZ,fun x=>by omega⟩
   ·by_cases iF:(Dn listed j↔j<k)
    ·exact iF
    ·obtain⟨⟨c1,c2,c3⟩,_⟩:=A0 j hj lI iF
     rcases hw with ⟨x,hx,Fy,A1,Fz⟩|hw
     ·exact(c1 x hx e rO (.inl Fy) A1 (by
       rcases Fz with q|q
       ·exact .inr (.inl q)
       ·rcases hc with r|r
        ·exact .inr (.inr r)
        ·exact .inl (by rw[q,r]))).elim
     ·exact(c3 e rO hw).elim).symm
  have A':=Loc.inside (Loc.fD fH ops o (s k)) _ _ _ _ _ _ iD
  rw[<-Xy (s:=sD) fO]at iD
  obtain⟨L',hv⟩:=Ft iD
  have fw:=C.put k o (by simpa using ho)
  have tH:∀b,n k<=b->b<n (k+1)->m b=none:=fun b nY cW=>by
   have q1:=gB 0 k (by omega) (by omega)
   have q2:=gB (k+1) ops.size (by omega) (by omega)
   rw[I.out b fun j hj hd hi=> ?_]
   ·exact hf b (by omega) (by omega)
   ·by_cases lI:j=k
    ·subst lI;exact AZ hd
    ·rcases K7 j k with h'|h'
     ·have:=gB (j+1) k (by omega) (by omega);omega
     ·have:=gB (k+1) j (by omega) (by omega);omega
  refine LU (nt:=nt) bD cB fH ho (b9 o (aha ho)) I.wr (Below.le I.below hb) (g.mono I.le) I.sr hv tH fun m' w' v' iE ct=> ?_
  have XP:∃A2,j3 nt sD o.dst (v k)=some A2∧∀t,A2.get t=if o.dst=some t then(s (k+1)).get t else sD.get t:=by
   unfold j3 at fw⊢
   cases m8:o.dst with
   |none=>exact⟨sD,rfl,fun t=>by simp⟩
   |some d=>
    rw[m8]at fw
    simp only at fw⊢
    split at fw
    ·rename_i hc
     rw[if_pos hc]
     simp only[bZ,decide_eq_true_eq]at hc
     have hq:=vI fw
     rw[<-hq]
     refine⟨_,rfl,fun t=> ?_⟩
     rw[S.pf _ _ _ _ hc.2,S.pf _ _ _ _ hc.2]
     by_cases e:t=d
     ·subst e;simp
     ·rw[if_neg e,if_neg e]
      simp[Ne.symm e]
    ·cases fw
  obtain⟨A2,XQ,XR⟩:=XP
  refine ih (listed.setIfInBounds k true) m' A2 dX _ w' ?_ ⟨by simp[I.sz], ?_, ?_, ?_,I.le.trans iE.le, ?_,iE.wr,I.below.trans iE.below,LS (I.sr.mono iE.le) ct XQ⟩
  ·have hc:=List.countP_set (p:=fun b=> !b) (l:=listed.toList) (i:=k) (a:=true) (by simpa using bf)
   have e1:listed.toList[k]=false:=by simpa using Fw
   rw[Array.toList_setIfInBounds,hc,cC,e1]
   simp
  ·intro j oj hd lJ e rO bM
   rw[qu bf]at hd⊢
   rcases hd with rfl|hd
   ·rw[ho]at lJ;cases lJ
    exact .inr (Mc e rO bM)
   ·exact .inr (I.closed j oj hd lJ e rO bM)
  ·intro b c i hi iF
   by_cases hw:Wr n L k b c
   ·have XS:k<i:=(iF k AY hw).1 ((qu bf).2 (.inl rfl))
    have h2:dG (h i) (h (k+1)) b c:=XK b c (k+1) i (by omega) hi fun p FA FB A3=>by
     have FC:Dn listed p:=by
      rcases (qu bf).1 ((iF p (by omega) A3).2 FB)with q|q
      ·omega
      ·exact q
     obtain⟨⟨c1,c2,c3⟩,_⟩:=A0 p (by omega) (by omega) (by intro q;have:=q.1 FC;omega)
     rcases A3 with ⟨x,hx,Fy,A1,Fz⟩|A3
     ·rcases hw with ⟨y,hy,FD,FE,Md⟩|hw
      ·exact c1 x hx y hy (.inl Fy) (by rw[A1,FE]) (by
        rcases Fz with q|q
        ·exact .inr (.inl q)
        ·rcases Md with r|r
         ·exact .inr (.inr r)
         ·exact .inl (by rw[q,r]))
      ·exact c2 x hx (by rw[A1];exact hw)
     ·rcases hw with ⟨y,hy,FD,FE,Md⟩|hw
      ·exact c3 y hy (by rw[FE];exact A3)
      ·have:=gB (k+1) p (by omega) (by omega);omega
    exact(j6 b c hw).trans h2.symm
   ·refine(A'.frame b c (fun x=>hw (.inl x)) (fun x=>hw (.inr x))).trans (I.mem b c i hi fun j hj rP=> ?_)
    have lI:j≠k:=fun e=>hw (e▸rP)
    rw[<-iF j hj rP,qu bf]
    exact⟨.inr,fun q=>q.resolve_left lI⟩
  ·intro t i hi iF
   rw[XR t]
   by_cases hd:o.dst=some t
   ·rw[if_pos hd]
    have XS:k<i:=(iF k o ho hd).1 ((qu bf).2 (.inl rfl))
    refine(XL t (k+1) i (by omega) hi fun p op FA FB Me Mf=> ?_).symm
    have FC:Dn listed p:=by
     rcases (qu bf).1 ((iF p op Me Mf).2 FB)with q|q
     ·omega
     ·exact q
    obtain⟨_,c⟩:=A0 p (by omega) (by omega) (by intro q;have:=q.1 FC;omega)
    exact(c op Me).2 t Mf hd
   ·rw[if_neg hd]
    refine I.slot t i hi fun j oj lJ m8=> ?_
    have lI:j≠k:=fun e=>hd (by subst e;rw[ho]at lJ;cases lJ;exact m8)
    rw[<-iF j oj lJ m8,qu bf]
    exact⟨.inr,fun q=>q.resolve_left lI⟩
  ·intro b A4
   rw[iE.out b (A4 k AY ((qu bf).2 (.inl rfl)))]
   exact I.out b fun j hj hd=>A4 j hj ((qu bf).2 (.inr hd))
end
theorem Mg{p:Nat->Prop}(h:∃n,p n):∃n,p n∧∀k,p k->n<=k:=by
 obtain⟨n,hn⟩:=h
 induction n using K5 with
 |_ n ih=>
  by_cases hx:∃k,k<n∧p k
  ·obtain⟨k,hk,hp⟩:=hx
   exact ih k hk hp
  ·exact⟨n,hn,fun k hk=>by
    rcases K7 k n with h|h
    ·exact absurd ⟨k,h,hk⟩ hx
    ·exact h⟩
noncomputable def least (p:Nat->Prop):Nat:=open Classical in if h:∃n,p n then ai5 (Mg h)else 0
theorem Mh{p:Nat->Prop}(h:∃n,p n):p (least p)∧∀k,p k->least p<=k:=by
 unfold least
 rw[dif_pos h]
 exact ai6 (Mg h)
def cv:Ex->Exit
 | .normal=> .normal
 | .ret=> .ret
 | .exit id=> .exit id
section
variable {P:Program} {base:Nat} {rec:FuncId->Array Value->M Value} {nt:Nat}
theorem XT (bD:tE P base) (cB:vY P base rec) (fH:∀f a,Loc (rec f a)) (mn:P.follows .mixedOrders=true) {id:Nat} {ops:Array Oper} {draw:Bool} (b9:∀o∈ops,vS P o=true)
 {Q:Exit->Act->World->Prop} {m:Mp} {s s1:S} {a:Act} {w:World} {h h1:H} {n n1:Nat} {L:List En} (x:WR P m base h w.heap) (hb:base<=w.heap.size) (g:Gl P m) (hs:SR m nt s a)
 (hr:pc P rec nt ops draw s h n=some ⟨s1,h1,n1,L⟩) (hf:g9 m n n1) (hQ:∀m' a' w',cF P m base n n1 w h1 m' w'->SR m' nt s1 a'->Q .normal a' w'):(Code.region id ops draw).wp P Q a w:=by
 unfold pc at hr
 obtain⟨y,h2,n2,L1,L2,e1,e2,_⟩:=bind_some hr
 obtain⟨sf,tI,nf,vf,Lf,C,a1,a2,a3,a4,a5,a6,a7,a8⟩:=Xz _ _ _ _ _ _ _ _ e1
 have hlen:ops.toList.length=ops.size:=by simp
 rw[hlen]at a4 a5 a6 a7 a8
 have tG:∀i,i<ops.size->nf i<=nf (i+1):=fun i hi=>
  (Loc.inside (Loc.fD fH ops ops[i] (sf i)) _ _ _ _ _ _ (C.step i ops[i] (by simp[hi]))).le
 split at e2
 ·rename_i iW
  obtain⟨rfl,rfl,rfl⟩:=bI e2
  subst a1 a2 a3 a5 a6
  rw[<-a4]at hQ
  cases draw with
  |false=>
   apply wp_region
   rw[List.range_eq_range']
   exact XA bD cB fH b9 C hf tG hb g (fun _ _=>True) hQ ops.size 0 (by omega) m a w (cF.refl x) hs
  |true=>
   simp only[Bool.not_true,Bool.false_or,bZ]at iW
   obtain⟨FF,XU⟩:=iW
   apply wp_region_any mn
   have Mj:=XE ops ops.toList [] (fun i o ho=>by simpa using ho) (fun k hk=>by simp at hk)
   refine XJ bD cB fH b9 C (fun k o ho e he bM=> ?_) Mj.1 (by simpa using Mj.2) (fun j k lI hk=> ?_) hf tG (w0:={w with drawn:=w.drawn+1}) hb g (fun m' a' w' hp dz=>hQ m' a' w' ⟨hp.le,hp.out,hp.wr,(ahb (rp base w)).trans hp.below⟩ dz) ops.size _ m (sf 0) (tI 0) a _ ?_ ?_
   ·unfold rG at FF
    rw[List.all_eq_true]at FF
    have:=FF (o,k) (by
     rw[List.mem_iff_getElem?]
     exact⟨k,by simp[List.getElem?_zipIdx,ho]⟩)
    simp only[bZ]at this
    have h2:=this.1
    rw[tr]at h2
    have h3:=h2 e he
    simpa[bM]using h3
   ·have hj:j<ops.size:=by omega
    have:=XG _ XU j k (j,⟨nf j,nf (j+1),Lf j⟩) (k,⟨nf k,nf (k+1),Lf k⟩) lI (by rw[Fv,a8 j hj];simp) (by rw[Fv,a8 k hk];simp)
    exact this
   ·simp[List.countP_replicate]
   ·have pj:∀j,¬Dn (xO ops.size false) j:=by
     intro j hj
     unfold Dn at hj
     rw[oZ,ahc]at hj
     split at hj<;>simp at hj
    refine⟨by simp,fun k o hd=>absurd hd (pj k),fun b c i hi iF=> ?_,fun t i hi iF=> ?_,Le.refl _,fun _ _=>rfl,x,rp _ _,hs⟩
    ·
     have key:∀i,i<=ops.size->(∀j,j<ops.size->Wr nf Lf j b c->¬j<i)->dG (tI 0) (tI i) b c:=by
      intro i
      induction i with
      |zero=>intro _ _;exact dG.refl _ _ _
      |succ i ih=>
       intro hi qv
       have A:=Loc.inside (Loc.fD fH ops ops[i] (sf i)) _ _ _ _ _ _ (C.step i ops[i] (by simp[show i<ops.size by omega]))
       have hw:¬Wr nf Lf i b c:=fun hw=>qv i (by omega) hw (by omega)
       exact(ih (by omega) fun j hj rP bf=>qv j hj rP (by omega)).trans (A.frame b c (fun q=>hw (.inl q)) (fun q=>hw (.inr q))).symm
     exact key i hi fun j hj hw bf=>pj j ((iF j hj hw).2 bf)
    ·have key:∀i,i<=ops.size->(∀j o,ops[j]? =some o->o.dst=some t->¬j<i)->(sf 0).get t=(sf i).get t:=by
      intro i
      induction i with
      |zero=>intro _ _;rfl
      |succ i ih=>
       intro hi qv
       have gL:i<ops.size:=by omega
       rw[ih (by omega) fun j o ho hd bf=>qv j o ho hd (by omega)]
       have fw:=C.put i ops[i] (by simp[gL])
       have hd:(ops[i]).dst≠some t:=fun hd=>qv i ops[i] (by simp[gL]) hd (by omega)
       unfold j3 at fw
       cases m8:(ops[i]).dst with
       |none=>rw[m8]at fw;have hq:sf i=sf (i+1):=vI fw;rw[hq]
       |some d=>
        rw[m8]at fw hd
        simp only at fw
        split at fw
        ·rename_i hc
         simp only[bZ,decide_eq_true_eq]at hc
         have hq:=vI fw
         rw[<-hq,S.pf _ _ _ _ hc.2,if_neg (fun e=>hd (by rw[e]))]
        ·cases fw
     exact key i hi fun j o ho hd bf=>pj j ((iF j o ho hd).2 bf)
 ·cases e2
theorem XV(bD:tE P base)(cB:vY P base rec)(fH:∀f a,Loc (rec f a))(mn:P.follows .mixedOrders=true):
 ∀(fuel:Nat) (c:Code) (_:kJ P c=true) (Q:Exit->Act->World->Prop) (m:Mp) (s s1:S) (a:Act) (w:World) (h h1:H) (n n1:Nat) (L:List En) (e:Ex),WR P m base h w.heap->base<=w.heap.size->Gl P m->SR m nt s a->
  dK P rec nt fuel c s h n=some ⟨(e,s1),h1,n1,L⟩->g9 m n n1->(∀m' a' w',cF P m base n n1 w h1 m' w'->SR m' nt s1 a'->Q (cv e) a' w')->c.wp P Q a w:=by
 intro fuel
 induction fuel using K5 with
 |_ fuel ih=>
  intro c b9 Q m s s1 a w h h1 n n1 L e x hb g hs hr hf hQ
  cases fuel with
  |zero=>cases hr
  |succ f=>
   cases c with
   |skip=>
    obtain⟨q,rfl,rfl⟩:=bI hr
    cases q
    exact wp_skip (hQ m a w (cF.refl x) hs)
   |label l=>
    obtain⟨q,rfl,rfl⟩:=bI hr
    cases q
    exact wp_label (hQ m a w (cF.refl x) hs)
   |region id ops draw=>
    unfold dK at hr
    obtain⟨s2,h2,n2,L1,L2,e1,e2,_⟩:=bind_some hr
    obtain⟨q,rfl,rfl⟩:=bI e2
    cases q
    refine XT bD cB fH mn (fun o ho=> ?_) x hb g hs e1 hf hQ
    unfold kJ at b9
    rw[tr]at b9
    exact b9 o ho
   |seq c1 c2=>
    unfold kJ at b9
    simp only[bZ]at b9
    unfold dK at hr
    obtain⟨y,h2,n2,L1,L2,e1,e2,_⟩:=bind_some hr
    obtain⟨e0,s2⟩:=y
    have A:=Loc.dK fH f c1 s h n _ h2 n2 L1 e1
    apply wp_seq
    cases e0 with
    |normal=>
     have B:=Loc.dK fH f c2 s2 h2 n2 _ h1 n1 L2 e2
     refine ih f (by omega) c1 b9.1 _ m s s2 a w h h2 n n2 L1 .normal x hb g hs e1 (hf.first B.le) fun m' a' w' hp dz=> ?_
     exact ih f (by omega) c2 b9.2 Q m' s2 s1 a' w' h2 h1 n2 n1 L2 e hp.wr (Below.le hp.below hb) (g.mono hp.le) dz e2 (hf.after A.le hp) fun m4 pq m5 iE fx=>hQ m4 pq m5 (hp.trans A.le B.le iE) fx
    |ret=>
     obtain⟨q,rfl,rfl⟩:=bI e2
     cases q
     exact ih f (by omega) c1 b9.1 _ m s _ a w h _ n _ L1 .ret x hb g hs e1 hf fun m' a' w' hp dz=>hQ m' a' w' hp dz
    |exit id=>
     obtain⟨q,rfl,rfl⟩:=bI e2
     cases q
     exact ih f (by omega) c1 b9.1 _ m s _ a w h _ n _ L1 (.exit id) x hb g hs e1 hf fun m' a' w' hp dz=>hQ m' a' w' hp dz
   |cond c0 c1 c2=>
    unfold kJ at b9
    simp only[bZ]at b9
    unfold dK at hr
    simp only at hr
    generalize ht:ev s c0=v0 at hr
    cases v0 with
    |bool t=>
     have hv:=LR g hs b9.1.1
     rw[ht]at hv
     have hc:a.eval c0= .bool t:=by
      generalize a.eval c0=u at hv
      cases hv;rfl
     refine wp_cond hc ?_
     refine ih f (by omega) _ ?_ Q m s s1 a w h h1 n n1 L e x hb g hs hr hf hQ
     cases t
     ·exact b9.2
     ·exact b9.1.2
    |_=>cases hr
   |block id c1=>
    unfold kJ at b9
    unfold dK at hr
    obtain⟨y,h2,n2,L1,L2,e1,e2,_⟩:=bind_some hr
    obtain⟨e0,s2⟩:=y
    apply wp_block
    cases e0 with
    |normal=>
     obtain⟨q,rfl,rfl⟩:=bI e2
     cases q
     exact ih f (by omega) c1 b9 _ m s _ a w h _ n _ L1 .normal x hb g hs e1 hf fun m' a' w' hp dz=>hQ m' a' w' hp dz
    |ret=>
     obtain⟨q,rfl,rfl⟩:=bI e2
     cases q
     exact ih f (by omega) c1 b9 _ m s _ a w h _ n _ L1 .ret x hb g hs e1 hf fun m' a' w' hp dz=>hQ m' a' w' hp dz
    |exit yd=>
     simp only at e2
     by_cases hid:yd=id
     ·rw[if_pos hid]at e2
      obtain⟨q,rfl,rfl⟩:=bI e2
      cases q
      refine ih f (by omega) c1 b9 _ m s _ a w h _ n _ L1 (.exit yd) x hb g hs e1 hf fun m' a' w' hp dz=> ?_
      show(if yd=id then _ else _)
      rw[if_pos hid]
      exact hQ m' a' w' hp dz
     ·rw[if_neg hid]at e2
      obtain⟨q,rfl,rfl⟩:=bI e2
      cases q
      refine ih f (by omega) c1 b9 _ m s _ a w h _ n _ L1 (.exit yd) x hb g hs e1 hf fun m' a' w' hp dz=> ?_
      show(if yd=id then _ else _)
      rw[if_neg hid]
      exact hQ m' a' w' hp dz
   |loop c1=>
    have ye:kJ P c1=true:=by unfold kJ at b9;exact b9
    let J:Act->World->Nat->Prop:=fun a' w' k=>k<=f+1∧∃m' s' h' n' L',n<=n'∧n'<=n1∧cF P m base n n' w h' m' w'∧SR m' nt s' a'∧dK P rec nt k (.loop c1) s' h' n'=some ⟨(e,s1),h1,n1,L'⟩
    have hle:=(Loc.dK fH (f+1) (.loop c1) s h n _ h1 n1 L hr).le
    refine wp_loop (fun a' w'=>∃k,J a' w' k) (fun a' w'=>least (J a' w')) ⟨f+1,ak _,m,s,h,n,L,ak _,hle,cF.refl x,hs,hr⟩ ?_
    intro a' w' hI
    obtain⟨hJ,aiw⟩:=Mh hI
    generalize hk:least (J a' w')=k at hJ
    obtain⟨Fw,m',s',h',n',L',bb,dZ,hp,dz,nZ⟩:=hJ
    cases k with
    |zero=>cases nZ
    |succ k=>
     unfold dK at nZ
     obtain⟨y,h2,n2,L1,L2,e1,e2,_⟩:=bind_some nZ
     obtain⟨e0,s2⟩:=y
     have A:=Loc.dK fH k c1 s' h' n' _ h2 n2 L1 e1
     cases e0 with
     |normal=>
      have B:=Loc.dK fH k (.loop c1) s2 h2 n2 _ h1 n1 L2 e2
      refine ih k (by omega) c1 ye _ m' s' s2 a' w' h' h2 n' n2 L1 .normal hp.wr (Below.le hp.below hb) (g.mono hp.le) dz e1 (fun b q1 q2=> ?_) fun m4 pq m5 iE fx=> ?_
      ·have:=B.le
       rw[hp.out b (by omega)]
       exact hf b (by omega) (by omega)
      ·have FG:J pq m5 k:=⟨by omega,m4,s2,h2,n2,L2,by have:=A.le;omega,B.le,hp.trans bb A.le iE,fx,e2⟩
       exact⟨⟨k,FG⟩,Nat.lt_succ_of_le ((Mh ⟨k,FG⟩).2 k FG)⟩
     |ret=>
      obtain⟨q,rfl,rfl⟩:=bI e2
      cases q
      refine ih k (by omega) c1 ye _ m' s' _ a' w' h' _ n' _ L1 .ret hp.wr (Below.le hp.below hb) (g.mono hp.le) dz e1 (fun b q1 q2=> ?_) fun m4 pq m5 iE fx=>hQ m4 pq m5 (hp.trans bb A.le iE) fx
      rw[hp.out b (by omega)]
      exact hf b (by omega) q2
     |exit id=>
      obtain⟨q,rfl,rfl⟩:=bI e2
      cases q
      refine ih k (by omega) c1 ye _ m' s' _ a' w' h' _ n' _ L1 (.exit id) hp.wr (Below.le hp.below hb) (g.mono hp.le) dz e1 (fun b q1 q2=> ?_) fun m4 pq m5 iE fx=>hQ m4 pq m5 (hp.trans bb A.le iE) fx
      rw[hp.out b (by omega)]
      exact hf b (by omega) q2
   |exit id=>
    obtain⟨q,rfl,rfl⟩:=bI hr
    cases q
    exact wp_exit (hQ m a w (cF.refl x) hs)
   |ret=>
    obtain⟨q,rfl,rfl⟩:=bI hr
    cases q
    exact wp_ret (hQ m a w (cF.refl x) hs)
   |rangeFunc _ _ _ _=>cases hr
   |scope _=>cases hr
   |goto _=>cases hr
   |refuse _=>cases hr
end
theorem Mk:∀(l:List Value) (i:Nat) (s:S) (t:Nat),i+l.length<1023->(rI i l s).get t=if i<=t∧t<i+l.length then l.getD (t-i) undef else s.get t:=by
 intro l
 induction l with
 |nil=>intro i s t _;rw[if_neg (by simp)];rfl
 |cons v r ih=>
  intro i s t hl
  simp only[List.length_cons]at hl
  unfold rI
  rw[ih (i+1) _ t (by omega)]
  by_cases h1:i+1<=t∧t<i+1+r.length
  ·rw[if_pos h1,if_pos (by simp;omega)]
   rw[show t-i=(t-(i+1))+1 by omega]
   simp
  ·rw[if_neg h1,S.pf _ _ _ _ (by omega)]
   by_cases e:t=i
   ·subst e;simp
   ·rw[if_neg e,if_neg (by simp;omega)]
theorem S.get_nil(t:Nat):S.get (.nil:S) t=undef:=by unfold S.get;rw[Tr.get_nil];rfl
theorem XW{m:Mp}{args dY:Array Value}{nt:Nat}(h:aQ m args.toList dY.toList)(h1:args.size<=nt)(h2:nt<1000):SR m nt (rI 0 args.toList .nil) {tmps:=dY++xO (nt-dY.size) undef,defers:=[]}:=by
 have hl:args.size=dY.size:=by simpa using h.length
 refine⟨rfl,by simp;omega,fun t=> ?_⟩
 rw[Mk _ _ _ _ (by simp;omega)]
 by_cases ht:t<args.size
 ·rw[if_pos (by simp;exact ht)]
  obtain⟨v',ct,hr⟩:=h.get t (args.toList.getD (t-0) undef) (by simp[aC,ht])
  have:(dY++xO (nt-dY.size) undef).getD t undef=v':=by
   have n8:t<dY.size:=by omega
   rw[oZ,ahd n8]
   simp at ct
   simp[ct]
  show VR m _ ((dY++xO (nt-dY.size) undef).getD t undef)
  rw[this]
  exact hr
 ·rw[if_neg (by simp;omega),S.get_nil]
  have:(dY++xO (nt-dY.size) undef).getD t undef=undef:=by
   rw[oZ,Array.getElem?_append_right (by omega),ahc]
   split<;>rfl
  show VR m _ ((dY++xO (nt-dY.size) undef).getD t undef)
  rw[this]
  exact VR.undef
theorem XX{P:Program}:∀(s:Sem Next) (v:Value),iP P s=some v->∀w,s.run P w= .ok (.value v) w:=by
 intro s
 induction s with
 |pure a=>
  intro v h w
  cases a<;>simp[iP]at h
  subst h;rfl
 |program k ih=>
  intro v h w
  exact ih P v (by simpa[iP]using h) w
 |_=>intro v h;simp[iP]at h
def Sound(P:Program)(base:Nat)(m:Mp)(w:World)(h:H)(n:Nat)(s:Sem Value)(r:Value)(h1:H)(n1:Nat):Prop:=
 ∃m' w' v',s.run P w= .ok v' w'∧cF P m base n n1 w h1 m' w'∧VR m' r v'
theorem XZ{P:Program}{e:TypeId}{n:Nat}(h:size? P e=some n):∃i,P.info? e=some i∧i.size=n:=by
 unfold size? at h
 cases hi:P.info? e with
 |none=>rw[hi]at h;cases h
 |some i=>rw[hi]at h;exact⟨i,rfl,by simpa using h⟩
theorem Ml{P:Program}{e:TypeId}{z:Value}(h:fL P e=some z):(∃i,P.info? e=some i∧i.zero=some z)∧clean z=true:=by
 unfold fL at h
 cases hi:P.info? e with
 |none=>rw[hi]at h;cases h
 |some i=>
  rw[hi]at h
  simp only[K4]at h
  cases hz:i.zero with
  |none=>rw[hz]at h;cases h
  |some u=>
   rw[hz]at h
   simp only at h
   split at h
   ·rename_i hc
    cases h
    exact⟨⟨i,rfl,hz⟩,hc⟩
   ·cases h
theorem A5{P:Program}{e:TypeId}{z:Value}(h:fL P e=some z):∃i,P.info? e=some i∧i.zero=some z:=(Ml h).1
theorem FH{P:Program}{e:TypeId}{z:Value}(h:fL P e=some z):clean z=true:=(Ml h).2
theorem run_sizeOf{P:Program}{e:TypeId}{n:Nat}(h:size? P e=some n)(w:World):(sizeOf e).run P w= .ok n w:=by
 obtain⟨i,hi,rfl⟩:=XZ h
 simp[sizeOf,typeInfo,program,hi,Av,bind,xL]
 rfl
theorem FI{P:Program}{e:TypeId}{z:Value}(h:fL P e=some z)(w:World):(zeroValue e).run P w= .ok z w:=by
 obtain⟨i,hi,hz⟩:=A5 h
 simp[zeroValue,typeInfo,program,hi,hz,Av]
theorem vZ{P:Program}{t:TypeId}{b:Bool}(h:jZ P t=some b)(w:World):(isAgg t).run P w= .ok b w:=by
 unfold jZ at h
 cases hd:P.underlying t with
 |none=>rw[hd]at h;cases h
 |some d=>
  rw[hd]at h
  unfold isAgg
  rw[eO,run_underlying hd]
  cases d<;>simp at h<;>subst h<;>rfl
section
variable {P:Program} {base:Nat} {m:Mp} {w:World} {h h1:H} {n n1:Nat} {r:Value} {L:List En}
theorem X0{e:TypeId}(x:WR P m base h w.heap)(hb:base<=w.heap.size)(hf:g9 m n n1)(hr:mV P e h n=some ⟨r,h1,n1,L⟩):Sound P base m w h n (ahe e true (.tuple #[])) r h1 n1:=by
 unfold mV at hr
 cases hz:fL P e with
 |none=>rw[hz]at hr;cases hr
 |some z=>
  rw[hz]at hr
  obtain⟨id,h2,n2,L1,L2,e1,e2,_⟩:=bind_some hr
  obtain⟨rfl,rfl,rfl⟩:=bI e2
  obtain⟨i,hi,_⟩:=A5 hz
  have hc:=(VR.clean (m:=m) (FH hz)).cells
  obtain⟨rfl,rfl,m',dM,hp⟩:=tD x e1 hf hb (cs':=z.cells) (by simp) (fun k v hk=>by simpa using hc.get k v hk) (esz:=i.size) (by simp[size?,hi])
  refine⟨m',_,.pointer (some ⟨w.heap.size,0,none⟩), ?_,hp, ?_⟩
  ·simp only[ahe,eO,FI hz,fc,newVar,newRow,newObj]
   rfl
  ·exact VR.ptr dM
theorem X3{e:TypeId}{v v':Value}(hv:VR m v v')(x:WR P m base h w.heap)(hb:base<=w.heap.size)(hf:g9 m n n1)(hr:mW P e v h n=some ⟨r,h1,n1,L⟩):Sound P base m w h n (Instr.box e v') r h1 n1:=by
 unfold mW at hr
 cases hz:size? P e with
 |none=>rw[hz]at hr;cases hr
 |some z=>
  rw[hz]at hr
  obtain⟨id,h2,n2,L1,L2,e1,e2,_⟩:=bind_some hr
  obtain⟨rfl,rfl,rfl⟩:=bI e2
  obtain⟨rfl,rfl,m',dM,hp⟩:=tD x e1 hf hb (cs':=v'.cells) (by simp[hv.Fo]) (fun k u hk=>by simpa using hv.cells.get k u hk) hz
  exact⟨m',_,.pointer (some ⟨w.heap.size,0,none⟩),rfl,hp,VR.ptr dM⟩
theorem X4{cs cs':Array Value}{off:Nat}:∀{us FJ:List Value} (_:aQ m us FJ) (i:Nat) {cs cs':Array Value},aQ m cs.toList cs'.toList->
 aQ m ((us.zipIdx i).foldl (fun(a:Array Value) (x:Value×Nat)=>a.setIfInBounds (off+x.2) x.1) cs).toList ((FJ.zipIdx i).foldl (fun(a:Array Value) (x:Value×Nat)=>a.setIfInBounds (off+x.2) x.1) cs').toList:=by
 intro us FJ hu
 induction hu using aQ.rec (motive_1:=fun _ _ _=>True)with
 |nil=>intro i cs cs' hc;exact hc
 |cons hv _ _ ih=>
  intro i cs cs' hc
  simp only[List.zipIdx_cons,WL]
  exact ih (i+1) (by simpa using aQ.set (off+i) hc hv)
 |_=>trivial
theorem Mm{place:Nat->Option (Nat×Nat)}:∀(parts hZ:List (Nat×Value)) (cs cs' out:Array Value),parts.map (·.1)=hZ.map (·.1)->aQ m (parts.map (·.2)) (hZ.map (·.2))->aQ m cs.toList cs'.toList->lB place cs parts=some out->
 ∃A6,lB place cs' hZ=some A6∧aQ m out.toList A6.toList∧out.size=cs.size:=by
 intro parts
 induction parts with
 |nil=>
  intro hZ cs cs' out h1 h2 h3 h4
  cases hZ with
  |nil=>simp[lB]at h4;subst h4;exact⟨cs',rfl,h3,rfl⟩
  |cons _ _=>simp at h1
 |cons p parts ih=>
  intro hZ cs cs' out h1 h2 h3 h4
  cases hZ with
  |nil=>simp at h1
  |cons p' hZ=>
   obtain⟨i,v⟩:=p
   obtain⟨i',v'⟩:=p'
   simp at h1
   obtain⟨rfl,h1⟩:=h1
   simp only[List.map_cons]at h2
   cases h2 with
   |cons hv ht=>
    unfold lB at h4⊢
    cases hp:place i with
    |none=>rw[hp]at h4;cases h4
    |some os=>
     obtain⟨off,sz⟩:=os
     rw[hp]at h4
     simp only at h4⊢
     have e1:v'.cells.size=v.cells.size:=hv.Fo.symm
     have e2:cs'.size=cs.size:=by have:=h3.length;simpa using this.symm
     rw[e1,e2]
     split at h4
     ·cases h4
     ·rename_i hc
      rw[if_neg hc]
      have hs:=X4 (m:=m) (cs:=cs) (cs':=cs') (off:=off) hv.cells 0 h3
      have e3:∀(vs:Array Value) (a:Array Value),vs.zipIdx.foldl (fun cs (c,j)=>cs.setIfInBounds (off+j) c) a=(vs.toList.zipIdx 0).foldl (fun(a:Array Value) (x:Value×Nat)=>a.setIfInBounds (off+x.2) x.1) a:=by
       intro vs a
       rw[<-Array.foldl_toList,Array.toList_zipIdx]
      have e4:∀(vs:List (Value×Nat)) (a:Array Value),(vs.foldl (fun(a:Array Value) (x:Value×Nat)=>a.setIfInBounds (off+x.2) x.1) a).size=a.size:=by
       intro vs
       induction vs with
       |nil=>intro a;rfl
       |cons y ys X5=>intro a;rw[WL,X5];simp
      rw[e3]at h4⊢
      obtain⟨A6,a1,a2,a3⟩:=ih hZ _ _ out h1 ht hs h4
      exact⟨A6,a1,a2,by rw[a3,e4]⟩
theorem X6 {t:TypeId} {parts hZ:List (Nat×Value)} (rQ:parts.map (·.1)=hZ.map (·.1)) (tJ:aQ m (parts.map (·.2)) (hZ.map (·.2))) (x:WR P m base h w.heap)
 (hr:mg P t parts h n=some ⟨r,h1,n1,L⟩):Sound P base m w h n (ahf t hZ.toArray) r h1 n1:=by
 unfold mg at hr
 cases hz:fL P t with
 |none=>rw[hz]at hr;cases hr
 |some z=>
  rw[hz]at hr
  cases hu:P.underlying t with
  |none=>rw[hu]at hr;cases hr
  |some d=>
   rw[hu]at hr
   cases d<;>try(cases hr;done)
   rename_i fs
   simp only at hr
   split at hr
   ·rename_i gM
    cases tL:lB (placeOf P fs) z.cells parts with
    |none=>rw[tL]at hr;cases hr
    |some cs=>
     rw[tL]at hr
     obtain⟨rfl,rfl,rfl⟩:=bI hr
     obtain⟨cs',a1,a2,_⟩:=Mm parts hZ _ _ cs rQ tJ (VR.clean (m:=m) (FH hz)).cells tL
     refine⟨m,w,.agg cs', ?_,cF.refl x,.agg a2⟩
     have X7:(fs.mapM fun f=>do pure (f.offset,<-sizeOf f.type):Sem (Array (Nat×Nat))).run P w= .ok (fs.map fun f=>(f.offset,(size? P f.type).getD 0)) w:=by
      rw[Array.mapM_eq_mapM_toList]
      have:∀l:List Field,(∀f∈l,(size? P f.type).isSome=true)->(l.mapM (fun f=>do pure (f.offset,<-sizeOf f.type)):Sem (List (Nat×Nat))).run P w= .ok (l.map fun f=>(f.offset,(size? P f.type).getD 0)) w:=by
       intro l
       induction l with
       |nil=>intro _;rfl
       |cons f l ih=>
        intro hl
        obtain⟨k,hk⟩:=Option.isSome_iff_exists.1 (hl f (by simp))
        rw[List.mapM_cons]
        simp only[bind_assoc,pure_bind,eO,run_sizeOf hk,fc,ih fun f' tI=>hl f' (by simp[tI])]
        simp[hk]
      have h3:=this fs.toList fun f tI=>(tr.1 gM) f (Array.mem_toList_iff.1 tI)
      simp only[map_eq_pure_bind,eO,h3,fc,nN]
      congr 1
      apply Array.ext'
      simp
     have dN:∀i,(fs.map fun f=>(f.offset,(size? P f.type).getD 0))[i]? =placeOf P fs i:=by
      intro i
      unfold placeOf
      cases FK:fs[i]? with
      |none=>simp[FK]
      |some f=>
       obtain⟨k,hk⟩:=Option.isSome_iff_exists.1 ((tr.1 gM) f (aha FK))
       simp[FK,hk]
     have X8:(fun i=>(fs.map fun f=>(f.offset,(size? P f.type).getD 0))[i]?)=placeOf P fs:=funext dN
     unfold ahf
     simp only[eO,FI hz,run_underlying hu,fc,X7,X8,a1]
     rfl
   ·cases hr
theorem Mn{e:TypeId}{z:Value}(hz:fL P e=some z)(k:Nat):aQ m (gK z k).toList (gK z k).toList:=by
 unfold gK
 rw[Array.toList_map]
 refine aQ.map _ fun i=> ?_
 have hc:=(VR.clean (m:=m) (FH hz)).cells
 by_cases hi:i %z.cells.size<z.cells.size
 ·obtain⟨v',ct,hr⟩:=hc.get (i %z.cells.size) z.cells[i %z.cells.size] (by simp[hi])
  have:v'=z.cells[i %z.cells.size]:=by simpa[hi]using ct.symm
  rw[this]at hr
  simpa[hi]using hr
 ·rw[getElem!_neg z.cells _ hi]
  exact .bool _
theorem X9 {t:TypeId} {len:Nat} {parts hZ:List (Nat×Value)} (rQ:parts.map (·.1)=hZ.map (·.1)) (tJ:aQ m (parts.map (·.2)) (hZ.map (·.2))) (x:WR P m base h w.heap) (hb:base<=w.heap.size) (hf:g9 m n n1)
 (hr:mh P t len parts h n=some ⟨r,h1,n1,L⟩):Sound P base m w h n (WN t len hZ.toArray) r h1 n1:=by
 unfold mh at hr
 cases hu:P.underlying t with
 |none=>rw[hu]at hr;cases hr
 |some d=>
  rw[hu]at hr
  cases d<;>try(cases hr;done)
  rename_i e
  simp only at hr
  cases hs:size? P e with
  |none=>rw[hs]at hr;cases hr
  |some sz=>
   cases hz:fL P e with
   |none=>rw[hs,hz]at hr;cases hr
   |some z=>
    rw[hs,hz]at hr
    simp only at hr
    by_cases hzero:(len=0&&parts.isEmpty)=true
    ·rw[if_pos hzero]at hr
     simp only[bZ,decide_eq_true_eq,List.isEmpty_iff]at hzero
     obtain⟨rfl,rfl⟩:=hzero
     obtain⟨id,h2,n2,L1,L2,e1,e2,_⟩:=bind_some hr
     obtain⟨rfl,rfl,rfl⟩:=bI e2
     have FL:hZ=[]:=by
      cases hZ with
      |nil=>rfl
      |cons p ps=>simp at rQ
     subst FL
     obtain⟨rfl,rfl,m',dM,hp⟩:=tD x e1 hf hb (cs':=#[]) (by simp) (fun k v hk=>by simp at hk) hs
     refine⟨m',_,.slice (some ⟨w.heap.size,0,none⟩) 0 0, ?_,hp,VR.fT dM (fun _=>rfl) (fun _=>rfl) (fun fV=>by simp[ba]at fV) (ak _) (by simp)⟩
     unfold WN
     simp only[eO,run_underlying hu,fc,run_sizeOf hs,Nat.zero_mul,if_true,nN,pure_bind]
     have n0:¬(0>2^24):=by omega
     simp only[if_neg n0,lB,Array.range_zero',Array.map_empty]
     rfl
    rw[if_neg hzero]at hr
    split at hr
    ·rename_i hc
     simp only[bZ,decide_eq_true_eq]at hc
     cases tL:lB (fun i=>some (i*sz,sz)) (gK z (len*sz)) parts with
     |none=>rw[tL]at hr;cases hr
     |some cs=>
      rw[tL]at hr
      simp only at hr
      obtain⟨id,h2,n2,L1,L2,e1,e2,_⟩:=bind_some hr
      obtain⟨rfl,rfl,rfl⟩:=bI e2
      obtain⟨cs',a1,a2,a3⟩:=Mm parts hZ _ _ cs rQ tJ (Mn (m:=m) hz (len*sz)) tL
      have hlen:cs.size=cs'.size:=by have:=a2.length;simpa using this
      obtain⟨rfl,rfl,m',dM,hp⟩:=tD x e1 hf hb (cs':=cs') (by simp[hlen]) (fun k v hk=>by simpa using a2.get k v hk) hs
      have eJ:cs'.size=len*sz:=by rw[<-hlen,a3];simp[gK]
      have Mo:1<=sz:=by
       rcases Nat.eq_zero_or_pos sz with h0|h0
       ·subst h0;simp at hc
       ·exact h0
      have hl:len<=len*sz:=Nat.le_mul_of_pos_right _ Mo
      refine⟨m',_,.slice (some ⟨w.heap.size,0,none⟩) len len, ?_,hp,VR.fT dM (fun _=>rfl) (fun _=>rfl) (fun fV=>by simp[ba]at fV;omega) (ak _) (by simp[eJ])⟩
      unfold WN
      have n0:¬(len*sz>2^24):=by omega
      have n1:¬(len*sz=0):=by omega
      simp only[eO,run_underlying hu,fc,run_sizeOf hs,if_neg n0,if_neg n1,FI hz,nN,pure_bind]
      unfold gK at a1
      rw[a1]
      rfl
    ·cases hr
theorem FM{b off:Nat}{v':Value}(hv:VR m (.pointer (some ⟨b,off,none⟩)) v'):∃d,m b=some d∧v'= .pointer (some ⟨d.dy,d.sh+off,none⟩):=by
 cases hv with
 |ptr h=>exact⟨_,h,rfl⟩
theorem X'{t:TypeId}{a a':Value}(ha:VR m a a')(x:WR P m base h w.heap)(hr:iR P t a h n=some ⟨r,h1,n1,L⟩):Sound P base m w h n (WO t a') r h1 n1:=by
 unfold iR at hr
 split at hr
 ·rename_i b off
  obtain⟨d,hd,rfl⟩:=FM ha
  cases hg:jZ P t with
  |none=>rw[hg]at hr;cases hr
  |some g=>
   rw[hg]at hr
   cases g with
   |false=>
    simp only at hr
    obtain⟨rfl,rfl,d',v',kN,hc,hv⟩:=AX x hr
    rw[hd]at kN;cases kN
    refine⟨m,w,v', ?_,cF.refl x,hv⟩
    simp only[WO,E0,pure_bind,loadVar,eO,vZ hg w,fc,qg,if_false]
    show(Sem.load _ _ _).run P w=_
    simp[Av,hc]
   |true=>
    cases hs:size? P t with
    |none=>rw[hs]at hr;cases hr
    |some k=>
     rw[hs]at hr
     simp only at hr
     obtain⟨vs,h2,n2,L1,L2,e1,e2,_⟩:=bind_some hr
     obtain⟨rfl,rfl,rfl⟩:=bI e2
     obtain⟨rfl,rfl,hl,cZ,fE,eJ⟩:=tC x hd e1
     refine⟨m,w,.agg cZ.toArray, ?_,cF.refl x,.agg (by simpa using fE)⟩
     have hlen:cZ.length=k:=by rw[<-fE.length,hl]
     have:=vX (P:=P) eJ
     rw[hlen]at this
     simp only[WO,E0,pure_bind,loadVar,eO,vZ hg w,fc,if_true,run_sizeOf hs,this]
     rfl
 ·cases hr
theorem Ya{t:TypeId}{a a' v v':Value}(ha:VR m a a')(hv:VR m v v')(x:WR P m base h w.heap)(hr:nW P t a v h n=some ⟨r,h1,n1,L⟩):r=undef∧∃w',(ahi t a' v').run P w= .ok () w'∧cF P m base n n1 w h1 m w':=by
 unfold nW at hr
 split at hr
 ·rename_i b off
  obtain⟨d,hd,rfl⟩:=FM ha
  cases hs:size? P t with
  |none=>rw[hs]at hr;cases hr
  |some k=>
   rw[hs]at hr
   simp only at hr
   split at hr
   ·rename_i hk
    obtain⟨u,h2,n2,L1,L2,e1,e2,_⟩:=bind_some hr
    obtain⟨rfl,rfl,rfl⟩:=bI e2
    cases u
    obtain⟨rfl,w',ya,x2,eL⟩:=Fp hd hv.cells (i:=0) (d.sh+off) (by omega) x e1
    refine⟨rfl,w', ?_,⟨Le.refl _,fun _ _=>rfl,x2,eL⟩⟩
    have b8:v'.cells.size=k:=by rw[<-hv.Fo];exact hk
    simp only[ahi,E0,pure_bind,storeVar,eO,run_sizeOf hs,fc,b8,ne_eq,not_true,if_false]
    exact ya
   ·cases hr
 ·cases hr
theorem Yb{v v':Value}(hv:VR m v v')(x:WR P m base h w.heap)(hr:qj v h n=some ⟨r,h1,n1,L⟩):
 h1=h∧n1=n∧VR m r v'∧((∃a,v'= .pointer (some a))∨∃f a b,v'= .func (.func f) a b):=by
 unfold qj at hr
 split at hr
 ·obtain⟨rfl,rfl,rfl⟩:=bI hr
  refine⟨rfl,rfl,hv,.inl ?_⟩
  cases hv with|ptr h=>exact⟨_,rfl⟩
 ·obtain⟨rfl,rfl,rfl⟩:=bI hr
  refine⟨rfl,rfl,hv,.inr ?_⟩
  cases hv with|func fn h1 h2=>exact⟨_,_,_,rfl⟩
 ·cases hr
theorem Yc:∀(vs:List Value) (acc s:ByteArray),bytesOf vs acc=some s->∃ns:List Int,vs=ns.map (iy .u8)∧s=ns.foldl (fun r n=>r.push (nM n.toNat)) acc:=by
 intro vs
 induction vs with
 |nil=>intro acc s h;simp[bytesOf]at h;exact⟨[],rfl,h.symm⟩
 |cons v vs ih=>
  intro acc s h
  cases v with
  |int k n=>
   cases k with
   |u8=>
    obtain⟨ns,rfl,hs⟩:=ih (acc.push (nM n.toNat)) s (by simpa[bytesOf]using h)
    exact⟨n::ns,rfl,hs⟩
   |_=>simp[bytesOf]at h
  |_=>simp[bytesOf]at h
theorem aQ.ints{k:IntKind}:∀{ns:List Int} {cZ:List Value},aQ m (ns.map (iy k)) cZ->cZ=ns.map (iy k)
 |[],_,.nil=>rfl
 |_::_,_,.cons (.int _ _) t=>by rw[aQ.ints t];rfl
theorem Yd{v v':Value}(hv:VR m v v')(x:WR P m base h w.heap)(hr:mX v h n=some ⟨r,h1,n1,L⟩):∃a l c,v'= .slice a l c∧Sound P base m w h n (ahj v') r h1 n1:=by
 unfold mX at hr
 split at hr
 ·obtain⟨rfl,rfl,rfl⟩:=bI hr
  cases hv
  exact⟨_,_,_,rfl,m,w,.string .empty,by simp[ahj],cF.refl x,.string _⟩
 ·rename_i b off len cap
  obtain⟨vs,h2,n2,L1,L2,e1,e2,_⟩:=bind_some hr
  cases dH:bytesOf vs .empty with
  |none=>rw[dH]at e2;cases e2
  |some s=>
   rw[dH]at e2
   obtain⟨rfl,rfl,rfl⟩:=bI e2
   cases hv with
   |@fT _ _ _ _ cK o' d hd ho c1 c2 c3 c4=>
    obtain⟨rfl,rfl,hl,cZ,fE,eJ⟩:=tC x hd e1
    obtain⟨ns,rfl,hs⟩:=Yc _ _ _ dH
    have j7:=aQ.ints fE
    subst j7
    refine⟨_,_,_,rfl,m,w,.string s, ?_,cF.refl x,.string _⟩
    rw[hs]
    apply run_bytesToString
    have hlen:(ns.map (iy .u8)).length=len:=hl
    have:=vX (P:=P) eJ
    rw[hlen]at this
    by_cases h0:0<len
    ·rw[ho (.inl h0)];exact this
    ·have tM:len=0:=by omega
     subst tM
     have:ns=[]:=by simpa using hlen
     subst this
     rfl
 ·cases hr
theorem Ye{e:TypeId}{s:ByteArray}(A7:size? P e=some 1)(x:WR P m base h w.heap)(hb:base<=w.heap.size)(hf:g9 m n n1)(hr:qk e s h n=some ⟨r,h1,n1,L⟩):Sound P base m w h n (ahk e s) r h1 n1:=by
 unfold qk at hr
 split at hr
 ·rename_i hle
  obtain⟨id,h2,n2,L1,L2,e1,e2,_⟩:=bind_some hr
  obtain⟨rfl,rfl,rfl⟩:=bI e2
  obtain⟨cap,fV⟩:∃cap,grownCap w s.size 0 e=cap:=⟨_,rfl⟩
  have tN:s.size<=cap:=by rw[<-fV];unfold grownCap WQ;exact Nat.le_add_right _ _
  obtain⟨cs',FN⟩:∃cs':Array Value,(s.data.map fun b=>iy .u8 b.toNat)++xO (cap-s.size) (.int .u8 0)=cs':=⟨_,rfl⟩
  have fN:cs'.size=cap:=by rw[<-FN];simp;have:s.data.size=s.size:=rfl;omega
  obtain⟨rfl,rfl,m',dM,hp⟩:=tD (w:=w.drew) (P:=P) (m:=m) (base:=base) x e1 hf hb (cs':=cs') (by rw[fN];simp;exact tN) (fun k v hk=>by
   refine⟨v, ?_, ?_⟩
   ·rw[<-FN]
    have b8:k<s.data.size:=by
     rcases K7 k s.data.size with q|q
     ·exact q
     ·rw[vG (by simpa using q)]at hk;cases hk
    rw[ahd (by simpa using b8)]
    simpa using hk
   ·have:v∈(s.data.map fun b=>iy .u8 b.toNat).toList:=ag' hk
    simp at this
    obtain⟨b,_,rfl⟩:=this
    exact .int _ _) A7
  have FO:((w.drew.alloc (.cells cs' e)).freeze ⟨w.heap.size,cap,none⟩ 1).heap=(w.drew.alloc (.cells cs' e)).heap.modify w.heap.size (fun _=> .cells cs' e (cap,cap+1)):=by
   unfold K'
   simp only[Nat.one_ne_zero,if_false]
   apply Array.ext_getElem?
   intro i
   rw[EX,EX]
   by_cases hi:w.heap.size=i
   ·subst hi
    have:(w.drew.alloc (.cells cs' e)).heap[w.heap.size]? =some (.cells cs' e (0,0)):=heap_alloc_new w.drew _
    rw[if_pos rfl,if_pos rfl,this]
    simp
   ·simp[hi]
  refine⟨m',(w.drew.alloc (.cells cs' e)).freeze ⟨w.heap.size,cap,none⟩ 1,.slice (some ⟨w.heap.size,0,none⟩) s.size cap, ?_,⟨hp.le,hp.out, ?_, ?_⟩, ?_⟩
  ·have Yf:(w.drew.alloc (.cells cs' e)).shape? w.heap.size=some (e,cap):=by
    unfold World.shape?
    rw[show(w.drew.alloc (.cells cs' e)).heap[w.heap.size]? =some (.cells cs' e (0,0))from heap_alloc_new w.drew _]
    simp[fN]
   unfold ahk
   simp only[choose,bind,xL,pure]
   show(Sem.choose _ _).run P w=_
   simp only[Av,ahl,qg,if_false]
   have fh:WQ (.appendCap s.size 0 e) (w.tape w.drawn (.appendCap s.size 0 e))=cap:=fV
   rw[fh,FN]
   simp only[newRow,newObj,bind,xL,pure,Av,markStringish,shape]
   have Yg:({heap:=w.heap.push (.cells cs' e),tape:=w.tape,drawn:=w.drawn+1,os:=w.os,output:=w.output}:World)=w.drew.alloc (.cells cs' e):=rfl
   rw[Yg,Yf]
   rfl
  ·have j6:=hp.wr
   constructor
   ·intro b B hB
    obtain⟨⟨Yh,dsh,aix,aiy,del⟩,cs,lo,hi,a1,a2,a3,a4,a7,a5,a6⟩:=j6.live b B hB
    simp only at a2 a3 a4 a7 a5 a6
    rw[FO]
    by_cases xY:Yh=w.heap.size
    ·have:(w.drew.alloc (.cells cs' e)).heap[w.heap.size]? =some (.cells cs' e (0,0)):=heap_alloc_new w.drew _
     rw[xY,this]at a2
     cases a2
     refine⟨_,cs',cap,cap+1,a1, ?_,a3,a4,a7,fun ho=>⟨(a5 ho).1,(a5 ho).2.1,fun k hk=>by simp only at hk;omega⟩,a6⟩
     rw[xY,EX,if_pos rfl,this]
     rfl
    ·exact⟨_,cs,lo,hi,a1,by rw[getElem?_modify_ne _ _ (Ne.symm xY)];exact a2,a3,a4,a7,a5,a6⟩
   ·exact j6.inj
  ·have h1:=hp.below
   have h0:Below base w w.drew:=ahb (rp _ _)
   have h2:Below base (w.drew.alloc (.cells cs' e)) ((w.drew.alloc (.cells cs' e)).freeze ⟨w.heap.size,cap,none⟩ 1):=by
    refine⟨?_, ?_, ?_, ?_,fun k hk=> ?_⟩
    ·unfold K';simp
    ·unfold K';simp
    ·unfold K';simp
    ·rw[FO];simp
    ·rw[FO,getElem?_modify_ne _ _ (by omega)]
   exact(h0.trans h1).trans h2
  ·exact VR.fT dM (fun _=>rfl) (fun q=>by simp[ba]at q;omega) (fun _=>⟨ak _,by omega⟩) tN (by simp[fN])
 ·cases hr
theorem Yi{t:TypeId}{l c l' c':Value}(hl:VR m l l')(hc:VR m c c')(x:WR P m base h w.heap)(hb:base<=w.heap.size)(hf:g9 m n n1)(hr:mZ P t l c h n=some ⟨r,h1,n1,L⟩):Sound P base m w h n (Instr.makeSlice t l' c') r h1 n1:=by
 unfold mZ at hr
 cases hu:P.underlying t with
 |none=>rw[hu]at hr;cases hr
 |some d=>
  rw[hu]at hr
  cases d<;>try(cases hr;done)
  rename_i e
  cases hl<;>try(cases hr;done)
  rename_i kl l
  cases hc<;>try(cases hr;done)
  rename_i kc c
  simp only at hr
  cases hi:P.info? e with
  |none=>rw[hi]at hr;cases hr
  |some ie=>
   cases hz:fL P e with
   |none=>rw[hi,hz]at hr;cases hr
   |some z=>
    rw[hi,hz]at hr
    simp only at hr
    split at hr
    ·rename_i iW
     simp only[bZ,decide_eq_true_eq]at iW
     obtain⟨⟨⟨⟨⟨c1,c2⟩,c3⟩,c4⟩,c5⟩,c6⟩:=iW
     obtain⟨id,h2,n2,L1,L2,e1,e2,_⟩:=bind_some hr
     obtain⟨rfl,rfl,rfl⟩:=bI e2
     obtain⟨i2,gL,lK⟩:=A5 hz
     rw[hi]at gL;cases gL
     have pt:=Mn (m:=m) hz (c.toNat*ie.size)
     obtain⟨rfl,rfl,m',dM,hp⟩:=tD x e1 hf hb (cs':=gK z (c.toNat*ie.size)) (by simp) (fun k v hk=>by simpa using pt.get k v hk) (esz:=ie.size) (by simp[size?,hi])
     refine⟨m',_,.slice (some ⟨w.heap.size,0,none⟩) l.toNat c.toNat, ?_,hp,VR.fT dM (fun _=>rfl) (fun _=>rfl) (fun q=>by simp[ba]at q;omega) (by omega) (by simp[gK])⟩
     have Yj:(ie.bytes:Int)*c<=281474976710656:=by
      have h1:(ie.bytes:Int)*c<=64*c:=Int.mul_le_mul_of_nonneg_right (by omega) (by omega)
      omega
     exact run_make w t e ie z hu hi lK kl kc l c c1 c2 Yj (by omega)
    ·cases hr
end
section
variable {P:Program} {base:Nat} {m:Mp} {w:World} {h h1:H} {n n1:Nat} {r:Value} {L:List En}
theorem Mq{t:TypeId}{cs cs':Array Value}(hc:aQ m cs.toList cs'.toList){off:Nat}(hr:partOf P t cs off=some r)(w:World):∃v',(part t cs' off).run P w= .ok v' w∧VR m r v':=by
 unfold partOf at hr
 cases hg:jZ P t with
 |none=>rw[hg]at hr;cases hr
 |some g=>
  rw[hg]at hr
  cases g with
  |true=>
   cases hs:size? P t with
   |none=>rw[hs]at hr;cases hr
   |some k=>
    rw[hs]at hr
    simp only[dV]at hr
    subst hr
    refine⟨.agg (cs'.extract off (off+k)), ?_,.agg ?_⟩
    ·unfold part
     simp only[eO,vZ hg w,fc,if_true,run_sizeOf hs]
     rfl
    ·have hl:cs.size=cs'.size:=by simpa using hc.length
     refine aQ.mj (by simp[hl]) fun j v hj=> ?_
     simp only[Array.toList_extract,List.extract_eq_take_drop,List.getElem?_take,List.getElem?_drop]at hj⊢
     split at hj
     ·rename_i bf
      rw[if_pos bf]
      exact hc.get _ v hj
     ·cases hj
  |false=>
   simp only at hr
   obtain⟨v',ct,nZ⟩:=hc.get off r (by simpa using hr)
   refine⟨v', ?_,nZ⟩
   unfold part
   have:cs'[off]? =some v':=by simpa using ct
   simp only[eO,vZ hg w,fc,qg,if_false,this]
   rfl
theorem A8{t:TypeId}{v v':Value}{f:Nat}(hv:VR m v v')(hr:rE P t v f=some r)(w:World):∃u,(aho t v' f).run P w= .ok u w∧VR m r u:=by
 unfold rE at hr
 cases hu:P.underlying t with
 |none=>rw[hu]at hr;cases hr
 |some d=>
  rw[hu]at hr
  cases d<;>try(cases hr;done)
  rename_i fs
  cases hv<;>try(cases hr;done)
  rename_i cs cs' hc
  simp only at hr
  cases hf:fs[f]? with
  |none=>rw[hf]at hr;cases hr
  |some fd=>
   rw[hf]at hr
   obtain⟨u,qw,iX⟩:=Mq hc hr w
   refine⟨u, ?_,iX⟩
   unfold aho
   simp only[eO,run_underlying hu,fc,hf,asAgg,nN]
   exact qw
theorem Yk{t:TypeId}{v v':Value}{f:Nat}(hv:VR m v v')(hr:vO P t v f=some r)(w:World):∃u,(ahp t v' f).run P w= .ok u w∧VR m r u:=by
 unfold vO at hr
 cases hu:P.underlying t with
 |none=>rw[hu]at hr;cases hr
 |some d=>
  rw[hu]at hr
  cases d<;>try(cases hr;done)
  rename_i fs
  cases hv<;>try(cases hr;done)
  rename_i b off d hd
  simp only at hr
  cases hf:fs[f]? with
  |none=>rw[hf]at hr;cases hr
  |some fd=>
   rw[hf]at hr
   simp only at hr
   cases hs:size? P fd.type with
   |none=>rw[hs]at hr;cases hr
   |some k=>
    rw[hs]at hr
    simp only at hr
    split at hr
    ·cases hr
    ·rename_i hk
     cases hr
     refine⟨.pointer (some ⟨d.dy,d.sh+(off+fd.offset),none⟩), ?_,VR.ptr hd⟩
     unfold ahp
     simp only[eO,run_underlying hu,fc,hf,E0,nN,fieldPlace,run_sizeOf hs,if_neg hk,m6]
     rw[E1]
theorem Yl{t:TypeId}{v v' i i':Value}(hv:VR m v v')(hi:VR m i i')(hr:qm P t v i=some r)(w:World):∃u,(WU t v' i').run P w= .ok u w∧VR m r u:=by
 unfold qm at hr
 cases hu:P.underlying t with
 |none=>rw[hu]at hr;cases hr
 |some d=>
  rw[hu]at hr
  cases d<;>try(cases hr;done)
  case slice e=>
   cases hv<;>try(cases hr;done)
   rename_i b off len cap cK o' d hd ho c1 c2 c3 c4
   cases hi<;>try(cases hr;done)
   rename_i k j
   simp only at hr
   cases hs:size? P e with
   |none=>rw[hs]at hr;cases hr
   |some sz=>
    rw[hs]at hr
    simp only at hr
    split at hr
    ·rename_i hj
     cases hr
     refine⟨.pointer (some ⟨d.dy,d.sh+(off+j.toNat*sz),none⟩), ?_,VR.ptr hd⟩
     unfold WU
     simp only[asIntOf,pure_bind,eO,run_underlying hu,fc,nN,if_pos hj,run_sizeOf hs,m6,ho (.inl (by omega))]
     rw[E1]
    ·cases hr
  case array len e=>
   cases hv<;>try(cases hr;done)
   rename_i b off d hd
   cases hi<;>try(cases hr;done)
   rename_i k j
   simp only at hr
   cases hs:size? P e with
   |none=>rw[hs]at hr;cases hr
   |some sz=>
    rw[hs]at hr
    simp only at hr
    split at hr
    ·rename_i hj
     cases hr
     refine⟨.pointer (some ⟨d.dy,d.sh+(off+j.toNat*sz),none⟩), ?_,VR.ptr hd⟩
     unfold WU
     simp only[asIntOf,pure_bind,eO,run_underlying hu,fc,nN,E0,if_pos hj,run_sizeOf hs,m6]
     rw[E1]
    ·cases hr
theorem Ym{t:TypeId}{v v' i i':Value}(hv:VR m v v')(hi:VR m i i')(hr:vP P t v i=some r)(w:World):∃u,(Az t v' i').run P w= .ok u w∧VR m r u:=by
 unfold vP at hr
 cases hu:P.underlying t with
 |none=>rw[hu]at hr;cases hr
 |some d=>
  rw[hu]at hr
  cases d<;>try(cases hr;done)
  rename_i len e
  cases hv<;>try(cases hr;done)
  rename_i cs cs' hc
  cases hi<;>try(cases hr;done)
  rename_i k j
  simp only at hr
  cases hs:size? P e with
  |none=>rw[hs]at hr;cases hr
  |some sz=>
   rw[hs]at hr
   simp only at hr
   split at hr
   ·rename_i hj
    obtain⟨u,qw,iX⟩:=Mq hc hr w
    refine⟨u, ?_,iX⟩
    unfold Az
    simp only[asIntOf,pure_bind,eO,run_underlying hu,fc,if_pos hj,run_sizeOf hs]
    exact qw
   ·cases hr
theorem Yn{v v':Value}{i:Nat}(hv:VR m v v')(hr:rF v i=some r)(w:World):∃u,(ahq v' i).run P w= .ok u w∧VR m r u:=by
 unfold rF at hr
 cases hv<;>try(cases hr;done)
 rename_i cs cs' hc
 simp only at hr
 obtain⟨u,hu,iX⟩:=hc.get i r (by simpa using hr)
 have:cs'[i]? =some u:=by simpa using hu
 exact⟨u,by simp[ahq,this],iX⟩
def rR(m:Mp)(a b:Option Value):Prop:=match a,b with
 |none,none=>True
 |some x,some y=>VR m x y
 |_,_=>False
theorem v8{a b:Option Value}{d k:Nat}(ha:rR m a b)(hr:er a d=some k):(a=none∧b=none∧k=d)∨∃kd i,a=some (.int kd i)∧b=some (.int kd i)∧0<=i∧k=i.toNat:=by
 unfold er at hr
 cases a with
 |none=>
  cases b with
  |none=>left;exact⟨rfl,rfl,by simpa using hr.symm⟩
  |some y=>cases ha
 |some x=>
  cases b with
  |none=>cases ha
  |some y=>
   have ha:VR m x y:=ha
   cases ha<;>simp at hr
   rename_i kd i
   exact .inr ⟨kd,i,rfl,rfl,hr.1,hr.2.symm⟩
theorem qx{k:IntKind}{i:Int}{y:Nat}{code:BoundsCode}(h0:0<=i)(h1:i.toNat<=y)(w:World):(La (.int k i) y code).run P w= .ok i.toNat w:=by
 have:0<=i∧i<=(y:Int):=⟨h0,by omega⟩
 simp[La,asIntOf,this]
theorem Mr{t:TypeId}{v v':Value}(fN:∀b off l c e,v= .slice (some ⟨b,off,none⟩) l c->P.underlying t=some (.slice e)->∃d,m b=some d∧size? P e=some d.esz){lo hi mx oa m9 A9:Option Value}(hv:VR m v v')(hl:rR m lo oa)(hh:rR m hi m9)(hm:rR m mx A9)(hr:vN P t v lo hi mx=some r)(w:World):
 ∃u,(AA t v' oa m9 A9).run P w= .ok u w∧VR m r u:=by
 unfold vN at hr
 cases hu:P.underlying t with
 |none=>rw[hu]at hr;cases hr
 |some dd=>
  rw[hu]at hr
  cases dd<;>try(cases hr;done)
  rename_i e
  have core:∀(a:Option Addr) (len cap cK:Nat),(∀sz mm lL ll,size? P e=some sz->er mx cap=some mm->er hi len=some lL->er lo 0=some ll->(mx.isSome&& !hi.isSome)=false->
   (ll<=lL∧lL<=mm∧mm<=cap∧(cap<ba∨(mx=none∧lL<=len)))->(cap<ba->cK=cap)->len<=cK->
   (AA t (.slice a len cK) oa m9 A9).run P w= .ok (.slice (if(if mx=none then cK else mm)=ll then a else a.map (·.add (ll*sz))) (lL-ll) ((if mx=none then cK else mm)-ll)) w):=by
   intro a len cap cK sz mm lL ll hs jq nd eL rS hc fV hlen
   obtain⟨c1,c2,c3,c4⟩:=hc
   have Ba:lL<=cK:=by
    rcases c4 with q|⟨_,q⟩
    ·rw[fV q];omega
    ·omega
   have Yo:(ahr true len cK oa m9 A9).run P w= .ok (ll,lL,if mx=none then cK else mm) w:=by
    unfold ahr
    rcases v8 hm jq with ⟨rfl,rfl,rfl⟩|⟨km,im,rfl,rfl,pm,rfl⟩
    ·rcases v8 hh nd with ⟨rfl,rfl,rfl⟩|⟨kh,ih,rfl,rfl,ph,rfl⟩
     ·rcases v8 hl eL with ⟨rfl,rfl,rfl⟩|⟨kl,il,rfl,rfl,pl,rfl⟩
      ·simp
      ·simp[qx pl c1 w]
     ·rcases v8 hl eL with ⟨rfl,rfl,rfl⟩|⟨kl,il,rfl,rfl,pl,rfl⟩
      ·simp[qx ph Ba w]
      ·simp[qx ph Ba w,qx pl c1 w]
    ·rcases v8 hh nd with ⟨rfl,rfl,rfl⟩|⟨kh,ih,rfl,rfl,ph,rfl⟩
     ·simp at rS
     ·have q:cap<ba:=by
       rcases c4 with q|⟨q,_⟩
       ·exact q
       ·cases q
      have e:im.toNat<=cK:=by rw[fV q];exact c3
      rcases v8 hl eL with ⟨rfl,rfl,rfl⟩|⟨kl,il,rfl,rfl,pl,rfl⟩
      ·simp[qx pm e w,qx ph c2 w]
      ·simp[qx pm e w,qx ph c2 w,qx pl c1 w]
   unfold AA
   simp only[eO,run_underlying hu,fc]
   unfold Instr.slice
   simp only[eO,run_underlying hu,fc,Yo,run_sizeOf hs,nN]
  cases hv<;>try(cases hr;done)
  case ml len cap fV=>
   simp only at hr
   cases hs:size? P e with
   |none=>rw[hs]at hr;cases hr
   |some sz=>
    cases jq:er mx cap with
    |none=>rw[hs,jq]at hr;cases hr
    |some mm=>
     cases nd:er hi len with
     |none=>rw[hs,jq,nd]at hr;cases hr
     |some lL=>
      cases eL:er lo 0 with
      |none=>rw[hs,jq,nd,eL]at hr;cases hr
      |some ll=>
       rw[hs,jq,nd,eL]at hr
       simp only at hr
       split at hr
       ·cases hr
       ·rename_i rS
        split at hr
        ·rename_i hc
         cases hr
         simp only[bZ,vF,decide_eq_true_eq,ahs]at hc
         have yf:(if mx=none then cap else mm)=mm:=by
          split
          ·rename_i q;subst q;simpa[er]using jq
          ·rfl
         refine⟨_,core none len cap cap sz mm lL ll hs jq nd eL (Bool.eq_false_iff.2 rS) ⟨hc.1.1.1,hc.1.1.2,hc.1.2,hc.2⟩ (fun _=>rfl) fV.1, ?_⟩
         rw[yf]
         have:(if mm=ll then(none:Option Addr)else Option.map (fun(q:Addr)=>q.add (ll*sz)) none)=none:=by split<;>rfl
         rw[this]
         exact .ml _ _ (by omega)
        ·cases hr
  case pe b off s a'=>
   exfalso
   simp only at hr
   repeat' (first|(cases hr;done)|split at hr)
  case fT b off len cap cK o' d hd ho c1 c2 c3 c4=>
   simp only at hr
   cases hs:size? P e with
   |none=>rw[hs]at hr;cases hr
   |some sz=>
    cases jq:er mx cap with
    |none=>rw[hs,jq]at hr;cases hr
    |some mm=>
     cases nd:er hi len with
     |none=>rw[hs,jq,nd]at hr;cases hr
     |some lL=>
      cases eL:er lo 0 with
      |none=>rw[hs,jq,nd,eL]at hr;cases hr
      |some ll=>
       rw[hs,jq,nd,eL]at hr
       simp only at hr
       split at hr
       ·cases hr
       ·rename_i rS
        split at hr
        ·rename_i hc
         cases hr
         simp only[bZ,vF,decide_eq_true_eq,ahs]at hc
         refine⟨_,core _ len cap cK sz mm lL ll hs jq nd eL (Bool.eq_false_iff.2 rS) ⟨hc.1.1.1,hc.1.1.2,hc.1.2,hc.2⟩ c1 c3, ?_⟩
         obtain⟨d2,ng,ob⟩:=fN b off len cap e rfl hu
         rw[hd]at ng;cases ng
         rw[hs]at ob
         have ob:sz=d.esz:=by simpa using ob
         subst ob
         obtain⟨⟨⟨k1,k2⟩,k3⟩,k4⟩:=hc
         by_cases fV:cap<ba
         ·have vW:=c1 fV
          subst vW
          have qq:=ho (.inr fV)
          subst qq
          have yf:(if mx=none then cK else mm)=mm:=by
           split
           ·rename_i q;subst q;simpa[er]using jq
           ·rfl
          rw[yf]
          have hmul:ll*d.esz+(mm-ll)*d.esz=mm*d.esz:=by rw[<-kF];congr 1;omega
          have hle:mm*d.esz<=cK*d.esz:=Nat.mul_le_mul_right _ k3
          by_cases py:mm=ll
          ·rw[if_pos py,if_pos py]
           exact VR.fT hd (fun _=>rfl) (fun _=>rfl) (fun q=>by omega) (by omega) (by omega)
          ·rw[if_neg py,if_neg py]
           simp only[Au,m6]
           exact VR.fT hd (fun _=>by omega) (fun _=>rfl) (fun q=>by omega) (by omega) (by omega)
         ·have Ba:ba<=cap:=by omega
          obtain⟨q1,q2⟩:=c2 Ba
          rcases k4 with k4|⟨k4,k5⟩
          ·omega
          ·subst k4
           have yf:mm=cap:=by simpa[er]using jq.symm
           subst yf
           simp only[if_true]
           have tO:ll<=cK:=by omega
           have hmul:ll*d.esz+(cK-ll)*d.esz=cK*d.esz:=by rw[<-kF];congr 1;omega
           have py:¬mm=ll:=by unfold ba at*;omega
           rw[if_neg py]
           by_cases fU:cK=ll
           ·rw[if_pos fU]
            exact VR.fT hd (fun q=>by omega) (fun q=>by omega) (fun q=>by omega) (by omega) (by omega)
           ·rw[if_neg fU]
            simp only[Au,m6]
            exact VR.fT hd (fun q=>by have:=ho (.inl (by omega));omega) (fun q=>by omega) (fun q=>by omega) (by omega) (by omega)
        ·cases hr
end
end Go.Proofs.YtdagfcflbphoiaaGreatDoor.Ev
