import Derived.Test.YtdagfcflbphoiaaGreatDoorRows
import Derived.Test.YtdagfcflbphoiaaGreatDoorMad
open Go.Proofs.Tryz renaming prog→ai
open Go.Value renaming string→ef, func→pP
open Go.Fn renaming func→sq
set_option linter.unusedVariables false
set_option linter.unusedSimpArgs false
namespace Go.Proofs.YtdagfcflbphoiaaGreatDoor
open Go.RowKit Ev
def gtL:List Hint:=[([],[],[]),([],[],[]),([],[],[]),([0,1,2,5,6,7,8,9,10,11,12,13,35,56],[6],[]),([0,1,2,5,6,7,8,9,10,11,12,13,
 31,51],[6],[]),([0,1,2,6,7,8,9,10,11,12,14,28,69],[6],[]),([0,1,2,6,7,8,9,10,11,12,14,15,16,17,19,37,56,60,61,62,64,116,148,
 151,157,158,167,168],[6],[(0,[])]),([0,1,4,5,11,12,13,14],[4],[(0,[0,5])]),([0,1,2,3,4,5,6,7],[0],[]),([0],[0],[]),([0,1,2,6,7,8,
 11,16,17,18],[6],[(1,[])]),([0,1,2,6,7,8,9,11,12,14,15,17,25,35,36,37,38,54,55,56,57],[6],[(0,[0,1,2,6,7,8,9,17,25,35,36,37,
 38]),(2,[])]),([0,1,4,5,6,7,8,11,12,14,23,35,36,37,38],[4,5],[(0,[0,6,8])]),([0,1,4,5,6,20,21,22,23,24,37],[4],[(0,[])]),([0,2,
 4],[2],[]),([0,1,4,5,6,7,9,10,11,22,23,24,25,38,39,40,41],[4],[(0,[0,1,4,5,6,7,22,23,24,25]),(2,[6])]),([0,11],[],[(0,[])]),([0,
 2,3,5],[2],[]),([0,2],[2],[]),([0,1,4,5,6,7,8],[4],[(0,[5])]),([0,2],[2],[]),([0,1,4,5,8],[4],[]),([0,1,2,6,7,8,9,10,11,13,24,
 35],[6,7],[]),([0,2],[2],[]),([0,2,4],[2],[]),([0,1,2,6,7,8,9,10,11,12,17,31,46,65,70,86],[6],[]),([0,2,3,4,8],[2],[(0,[3])]),
 ([0,1,4,5,10,12,13,14,24],[4],[(0,[])]),([0,2,3,4,5,12],[2,3],[]),([0,2],[2],[]),([0,1,4,5,6,7,8,9,22,34,43,64,68],[4,5],[]),
 ([0,2,4],[2],[]),([0,2,4],[2],[]),([0,1,4,6],[4],[]),([0,1,4],[4],[]),([0,1,4,29],[],[]),([0,1,4,5,18],[4,5],[]),([0,1,2,6,8,9,
 12,27,28,29,30],[6],[(1,[])]),([0,1,2,4,5,8],[4],[]),([0,2,3,4,5,6,7,8,9,18,30,51,52,53,54,60],[2,3],[(1,[4]),(3,[0,2,3,4,5,
 6,9,18])]),([0,1,2,6,7,8,9,11,20],[6],[]),([0,1,4,5,6,8,12,14,15,16,17],[4,5],[(0,[6])]),([0,2,3,4,7],[2,3],[]),([0,1,3,4,5,
 6,7,8,9,11,12,19,21,22,23,24,36,54],[4,5],[(0,[6])]),([0,1,4,6,7,8,9,10,19],[4],[(0,[])]),([0,1,4,5,6,7,9,10,11,12,13,14,24,
 25,26,27,28,29,42,43,44,46,47,48,49,58],[4],[(0,[4,5]),(2,[0,1,4,5,6,7,24,25,26,27,28,29]),(4,[0,1,4,5,6,7,10,24]),(6,[0,1,4,
 5,6,7,10,12,24,25,26,27,28,29,42,43])]),([0,1,4,5,6,8,9,18,19,20,21],[4],[(0,[5])]),([0,2,3,4,6,7,16,17,18,19,22,23,29,36],
 [2],[(0,[3]),(2,[0,2,3,6,16,17,18])]),([0,2,3,4,5,6,7,12,15,16,17,18,24,26,27,28,29],[2],[(0,[3]),(2,[0,2,3,4,5]),(4,[0,2,3,4,
 5,6,12,15,16,17])]),([0,2,3,6],[2],[(0,[3])]),([0,2,6],[2],[(0,[0])]),([0,2],[2],[]),([0,1,2,6,7,8,9,10,15,22,26,29],[6,7],[(0,
 [8])]),([0,2,3,4,5,6,7,8,11,30,35,42,52],[2],[(0,[2,3,6,7])]),([0,1,2,6,7,8,10,11,12,21,36],[6],[(0,[6,7])]),([0,1,4,5,6,7,8,
 9,10,16],[4],[(0,[])]),([0,2,3,6],[2,3],[]),([0],[0],[]),([0,1,4,5,6,7,8,20,40],[4,5],[]),([0,2],[2],[]),([0,1,4,5,6,17],[4,5],
 []),([0,2,4],[2],[]),([0,1,4,5,6,7,8,9,26,38],[4,5],[]),([0,2,4],[2],[]),([0,1,4,5,7,8,9,16],[4],[(0,[])]),([0,1,4,5,6,7,8,9,
 10,11,18,27,40,41],[4,5],[(1,[4,9])]),([0,1,3,4,17],[4],[]),([0,2,3,4,5,6,11,12,13,14],[2],[(0,[4])]),([0,2],[2],[]),([0,1,4,6,
 13,14,15,16,21,28],[],[(0,[]),(2,[0,1,4,6,13,14,15,16,21]),(4,[0,1,4,13,14,15])]),([0,1,2],[],[]),([0,2,3,4],[2],[]),([0,2,4],
 [2],[]),([0,1,4,5,6,7,10],[4,5,6],[]),([1,2],[],[]),([0,2,4],[2],[]),([0,1,4,5,14],[4,5],[]),([0,1,4,5,6,8,11,12,13,14,15,25],
 [4,5],[(0,[6])]),([0,1,4,5,6,7,8,9,11,14,15,16,18,19,20,21,27,36],[4],[(0,[6]),(2,[0,1,4,5,6,8,14,15])]),([0,1,4,5,6,7,8,9],
 [4],[(0,[5])]),([0,2,3,4,5,6,7,8,9,10,27],[2],[(0,[3])]),([0,1,4,5,6,7,8,9,10,11,24],[4],[(0,[5])]),([0,2,3,5,6,7,8,9,10,14,
 20,21,25],[2],[(0,[0,2,3,7,8,9,10]),(2,[])]),([0,1,4,5,9,16],[4],[(0,[])]),([0,1,4],[4],[]),([0,1,4,5,6,7,8,13,22,34],[4],[(0,
 [0,1,4,5,6,7,13]),(2,[5])]),([0,2,3,4,8],[2],[(0,[3])]),([0,2,3,13],[2],[(0,[3])]),([0,1,4,5,6,7,10,21,26,30,35,46,52,62],[4],
 [(0,[4,6,7])]),([0,2],[2],[]),([0,1,4],[4],[]),([0,2],[2],[]),([0,1,2,3,4],[0],[(0,[0,1])]),([0,1,4,5,6,7,8,14,24],[4,5],[]),([0,
 1,4,5,6,7,8,19,32,39],[4],[]),([0,1,4,5,6,7,18,29],[4],[]),([0,2],[2],[]),([0,2,4],[2],[]),([0,1,4,5,6,8,14,17,18,19,20,29],
 [4,5],[(0,[6])]),([0,2,3,4,5,9,10,11],[2],[(0,[3])]),([0,1,4,5,6,7,8,9,10,11,12,18,19,20,29,30,31,32,42,43,44,48],[4],[(0,[0,1,
 4,5,6,18,19,20]),(2,[6]),(4,[0,1,4,5,6,8,10,18,19,20,29,30,31])]),([0,1,2,6,7,8,9,10,12,13,14,16,18,20,21,27,28,29,37,38,39,
 40,70,71,72,73],[6,7],[(0,[0,1,2,6,7,8,9,27,28,29]),(2,[0,1,2,6,7,8,9,27,28,29,37,38,39,40]),(4,[8,18])]),([0,2],[2],[]),([0,
 1,4],[4],[]),([0,1,3],[3],[]),([0,1,4,5,12],[4],[(0,[0,5])]),([0,2],[2],[]),([0,2],[2],[]),([0,2,3,4,6,14,15,16,17,18],[2,3],[(0,
 [4])]),([0,1,4],[4],[]),([0,1,2,6],[6],[]),([0,2],[2],[]),([0,1,4],[4],[]),([0,2,4,6,8,10],[2],[]),([0,1,4,5,7,8,9,10,11,16],
 [4],[(0,[5])]),([0,1,4,5,6,7,8,9,10,11,17,18,19],[4],[(0,[5]),(2,[0,1,4,5,8,9,10])]),([0,2,3,4,5,6,7,8,9,10,11,12,13,15,18,
 19,20,21,39,66,67,68,69],[2],[(0,[0,2,3,4,18,19,20,21]),(2,[7]),(4,[0,2,3,4,7,8,10,12,13,18,19,20,21])]),([0,1,2,6,8,9,10,11,
 12,22],[6],[(0,[])]),([0,2,3,5,6,7,8,9,13],[2],[(0,[3])]),([0,2,3,5,6,7,8,9,10,14,15,16],[2],[(0,[3]),(2,[0,2,3,6,7,8,9])]),
 ([0,1,4,5,6,7,8,9,10,12,21,51],[4,5],[(0,[])]),([0,1,4,5,6,7,11,12,13,21,24],[4],[(0,[0])]),([0,1,4,5,6,7,8,15,29],[4],[]),
 ([0,1,4,5,6,7,8,13,20,32,35,55],[4],[]),([0,2,3,5,6,7,8,12],[2],[(0,[3])]),([0,1,4,5,6,7,8,9,11,12,13,14,26],[4],[(0,[5])]),
 ([0,1,4,5,6,7,22,27,28,29],[4,5],[(0,[6])]),([0,2,3,4,5,6,7,20,24,25,26,27,41],[2,3],[(0,[0,2,3,4,20,24,25,26,27])]),([0,1,4,
 5,7,8,9,16],[4],[(0,[])]),([0,1,4,5,6,14],[4],[(0,[0,5])]),([0,1,2,4,5,6],[6],[]),([0,2],[2],[]),([0,2],[2],[]),([0,2,4],[2],[]),
 ([0,2,3,4,5,6,7,8,9,18],[2],[(0,[3])]),([0,1,4,5,6,7,8,9,10,11,17],[4],[(0,[5])]),([0,1,4,5,6,7,10,17,22,23,24],[4,5],[(1,
 [6])]),([0,2],[2],[]),([0,1,4,7],[4],[]),([0,2,3,4,5,6,11,12,13,32],[2],[(0,[0,2,3,11,12,13]),(2,[0,5])]),([0,2,3,5,6,7,8,9],
 [2],[(0,[3])]),([0,2,3,4,5,9,10,11,12],[2],[(0,[3])]),([0,1,2,4],[4],[]),([0,1,2,3,4],[4],[]),([0,2,4],[2],[]),([0,1,4,5],[4],
 []),([0,1,2,3,4,12,13,14],[2],[(0,[1,3])]),([0,2,3,46],[2],[]),([0,1,2],[],[]),([0,1],[],[]),([0,1,2,5],[5],[]),([0,1,4,5,6,11,
 12,13,16,19],[4],[]),([0,1,2,6,7,8,9,13,30,35,54],[],[(0,[0,1,2,6,7,8,13]),(2,[]),(4,[0,1,2,6,7,8,13])]),([0,2],[2],[]),([0,1,
 2,3,8,9,14,34],[],[(0,[]),(2,[0,1,2,3,8])]),([0,1,2,3,4,10,11,12,13,14,15,16,17,18,19,20,21,22,23,24,28,33,50,58,80,85,103,
 110,140,151,171,185,199,213],[],[(0,[0,1,2,3,4,10,11,28,33]),(2,[]),(4,[0,1,2,3,4,14,15,28,80,85]),(6,[]),(8,[0,1,2,3,4,18,19,
 20])]),([0,1,2,3,4,10,11,20,23],[],[(0,[0,2,4,10])]),([0,1,2,3,10,13],[],[(0,[])]),([],[],[]),([],[],[]),([],[],[]),([],[],[]),
 ([],[],[]),([],[],[]),([],[],[]),([],[],[]),([],[],[]),([],[],[]),([],[],[]),([],[],[]),([],[],[]),([],[],[]),([],[],[]),([],[],[]),
 ([],[],[]),([],[],[]),([],[],[]),([],[],[]),([],[],[]),([],[],[]),([],[],[])]
def gt(f:Nat):Hint:=gtL.getD f ([],[],[])
theorem aW:mZ ai=true:=by kernel_rfl
abbrev ii(x:Int):Value:= .int .i64 x
abbrev i1(x:Int):Value:= .int .u8 x
abbrev i3(x:Int):Value:= .int .u32 x
abbrev i6(x:Int):Value:= .int .u64 x
abbrev bT:Value:= .bool true
abbrev bF:Value:= .bool false
abbrev nP:Value:= .pointer none
abbrev nS:Value:= .slice none 0 0
abbrev RT:=FuncId->Array Value->M Value
abbrev V:=Value
abbrev KT:=Ex->Fr->M Value
def pb:Nat->Nat->List Bool
 |0,_=>[]
 |l+1,n=>(Nat.beq (n %2) 1)::pb l (n/2)
def zp:List Nat->List Value->Fr
 |[],_=>[]
 |_,[]=>[]
 |a::l,v::m=>(a,v)::zp l m
noncomputable def cQ (f:Nat) (p:List Bool) (lf:Nat) (r:RT):Fr->KT->M Value:=fun s k=>po ai r (gt f) lf (th (Jw ai f) p) s k
noncomputable def tK (f:Nat) (p:List Bool) (lf:Nat) (r:RT):KT:=vv ai r (gt f) lf (Jw ai f) p (Qa ai (adX ai f))
noncomputable def iK (f:Nat) (p q:List Bool) (s:List Nat) (fu:Nat) (K:KT) (lf:Nat) (r:RT):KT:=vv ai r (gt f) lf (th (Jw ai f) p) q (P' (fun x=>aO (cQ f p lf r) s fu (x.aB s) K) K)
theorem aQ{lf d:Nat}{f:FuncId}{a:Array Value}{b:RT->M Value}(s:∀r,aG ai gt lf r f a=b r)(h:KN.contains f=false):au ai gt lf (d+1) f a=b (au ai gt lf d):=by
 show(match KN.contains f with
  |true=>_
  |false=>aG ai gt lf (au ai gt lf d) f a:M Value)=_
 rw[h]
 exact s _
theorem bV{β:Type}{W:Nat->Prop}{n0:Nat}{h:H}{n:Nat}{Q:β->H->Nat->Prop}{lf d:Nat}{f:FuncId}{vs:List Value}{v:Value}{W':Nat->Prop}(s:aj W' n (au ai gt lf d f ⟨vs⟩) h n fun v' h' n'=>v'=v∧h'=h∧n'=n)(hn:n0<=n)(hW:∀b,b<n->W' b->n0<=b∨W b){k:Value->M β}(x:aj W n0 (k v) h n Q):aj W n0 (az (au ai gt lf d) f vs k) h n Q:=by
 refine bh aW s hn hW fun v' h' n' _ _ hq=> ?_
 obtain⟨rfl,rfl,rfl⟩:=hq
 exact x
noncomputable section
def z3:List Value:=[(ii 0)]
def z49:List Value:=[nS,(ii 0),(ii 0),(ii 0)]
def RD:List Value:=[nS,(i1 0),(ii 0)]
def m6:List Value:=[nS,nS]
def yF:List Value:=[nS,nS]
def RE:List Value:=[(ef {data:=#[]}),(ii 0),(ii 0)]
def z88:List Value:=[nS,(ii 0),(ii 0),(ii 0),(ii 0)]
def z91:List Value:=[nS,(ii 0),(ii 0)]
def RF:List Value:=[(ii 0),nP,nS,nP,nS,(ii 0),bF,(ii 0)]
def J1:List Value:=(Dv [nS,nS,nS] (ac5 (ii 0) 43))
def aeB:List Value:=[nS,(ii 0),(ii 0)]
def RG:List Value:=[(ii 0),(ii 0),nS,bF]
def Ed:List Value:=[(ii 0),(ii 0),(ii 0),(ii 0),(ii 0),(ii 0)]
def RH:List Value:=[(ii 0),(ii 0),(ii 0),(ii 0),(ii 0),(ii 0),(ii 0),(ii 0),nS,bF]
def tz:List Value:=[(ii 0),(ii 0),nS]
def RJ:List Value:=[nS,nS,nS,(ii 0)]
theorem J2:z3=[(ii 0)]:=rfl
theorem RK:z49=[nS,(ii 0),(ii 0),(ii 0)]:=rfl
theorem RL:RD=[nS,(i1 0),(ii 0)]:=rfl
theorem qk:m6=[nS,nS]:=rfl
theorem AJ:yF=[nS,nS]:=rfl
theorem RN:RE=[(ef {data:=#[]}),(ii 0),(ii 0)]:=rfl
theorem RP:z88=[nS,(ii 0),(ii 0),(ii 0),(ii 0)]:=rfl
theorem RQ:z91=[nS,(ii 0),(ii 0)]:=rfl
theorem RS:RF=[(ii 0),nP,nS,nP,nS,(ii 0),bF,(ii 0)]:=rfl
theorem RU:aeB=[nS,(ii 0),(ii 0)]:=rfl
theorem RV:RG=[(ii 0),(ii 0),nS,bF]:=rfl
theorem AK:Ed=[(ii 0),(ii 0),(ii 0),(ii 0),(ii 0),(ii 0)]:=rfl
theorem RW:RH=[(ii 0),(ii 0),(ii 0),(ii 0),(ii 0),(ii 0),(ii 0),(ii 0),nS,bF]:=rfl
theorem RX:tz=[(ii 0),(ii 0),nS]:=rfl
theorem RY:RJ=[nS,nS,nS,(ii 0)]:=rfl
def R0(lf:Nat)(r:RT)(a b c:V):M V:=jt 24 c fun d=>gx 2 d (ii 1) fun e=>ay e fun f=>pd f (i3 9) fun g=>eZ .i64 g fun h=>
 aN a fun e=>ft e (ii 260) fun f=>ar f (az r 8 [] fun e=>ak [e]) (ft b (ii 40) fun g=>ar g (jP b (ii 258) fun i=>ar i (az r 8 [] fun e=>ak [e])
 (gx 2 d (ii 0) fun j=>ay j fun l=>az r 7 [l,h] fun m=>dZ m fun n=>ar n (az r 8 [] fun e=>ak [e]) (az r 9 [] fun e=>gx 2 d (ii 0) fun f=>ay f
 fun g=>az r 10 [e,g,h] fun i=>az r 11 [e,a,b] fun f=>az r 12 [a,b] fun g=>bm g 0 fun j=>bm g 1 fun l=>az r 13 [a,b] fun g=>dZ g fun m=>ar
 m (bJ i (ii 0) fun g=>ar g (bJ f (ii 1) fun o=>ar o (bJ l (ii 1) fun p=>ar p (bJ j (ii 0) fun q=>ar q (az r 14 [e] fun s=>bJ s h fun t=>ar t
 (az r 8 [] fun u=>ak [u]) (ak [bF])) (ak [bF])) (ak [bF])) (ak [bF])) (ak [bF])) (az r 15 [a,b] fun g=>az r 16 [e] fun o=>bJ i (ii 0) fun o=>
 ar o (bJ f (ii 0) fun p=>ar p (bJ l (ii 0) fun q=>ar q (lA g fun s=>bJ j s fun t=>ar t ((aV (az r 17 [e] M.ret)).bind fun u=>gx 2 d (ii 0) fun v
 =>(aV (ay v M.ret)).bind fun w=>(aV (az r 19 [w.1,h] M.ret)).bind fun x=>aC x.1 g fun y=>(aV (az r 18 [y] M.ret)).bind fun z=>bJ u.1 z.1 fun A
 =>ar A ((aV (az r 8 [] M.ret)).bind fun B=>iy ((!(fH u.2 w.2)&&true)&&true) (ak [B.1])) ((aV (M.ret undef)).bind fun B=>iy ((!(fH u.2
 w.2)&&true)&&true) (ak [bF]))) ((aV (M.ret undef)).bind fun u=>(aV (M.ret undef)).bind fun v=>(aV (M.ret undef)).bind fun w=>(aV (M.ret
 undef)).bind fun x=>(aV (M.ret undef)).bind fun y=>iy ((!(fH u.2 v.2)&&true)&&true) (ak [bF]))) ((aV (M.ret undef)).bind fun s=>(aV (M.ret
 undef)).bind fun t=>(aV (M.ret undef)).bind fun u=>(aV (M.ret undef)).bind fun v=>(aV (M.ret undef)).bind fun w=>iy ((!(fH s.2 t.2)&&true)&&
 true) (ak [bF]))) ((aV (M.ret undef)).bind fun q=>(aV (M.ret undef)).bind fun s=>(aV (M.ret undef)).bind fun t=>(aV (M.ret undef)).bind fun u=>
 (aV (M.ret undef)).bind fun v=>iy ((!(fH q.2 s.2)&&true)&&true) (ak [bF]))) ((aV (M.ret undef)).bind fun p=>(aV (M.ret undef)).bind fun q=>
 (aV (M.ret undef)).bind fun s=>(aV (M.ret undef)).bind fun t=>(aV (M.ret undef)).bind fun u=>iy ((!(fH p.2 q.2)&&true)&&true) (ak [bF]))))))
 (gx 2 d (ii 0) fun i=>ay i fun j=>az r 7 [j,h] fun l=>dZ l fun m=>ar m (az r 8 [] fun e=>ak [e]) (az r 9 [] fun e=>gx 2 d (ii 0) fun f=>ay f
 fun g=>az r 10 [e,g,h] fun i=>az r 11 [e,a,b] fun f=>az r 12 [a,b] fun g=>bm g 0 fun j=>bm g 1 fun l=>az r 13 [a,b] fun g=>dZ g fun n=>ar
 n (bJ i (ii 0) fun g=>ar g (bJ f (ii 1) fun o=>ar o (bJ l (ii 1) fun p=>ar p (bJ j (ii 0) fun q=>ar q (az r 14 [e] fun s=>bJ s h fun t=>ar t
 (az r 8 [] fun u=>ak [u]) (ak [bF])) (ak [bF])) (ak [bF])) (ak [bF])) (ak [bF])) (az r 15 [a,b] fun g=>az r 16 [e] fun o=>bJ i (ii 0) fun o=>
 ar o (bJ f (ii 0) fun p=>ar p (bJ l (ii 0) fun q=>ar q (lA g fun s=>bJ j s fun t=>ar t ((aV (az r 17 [e] M.ret)).bind fun u=>gx 2 d (ii 0) fun v
 =>(aV (ay v M.ret)).bind fun w=>(aV (az r 19 [w.1,h] M.ret)).bind fun x=>aC x.1 g fun y=>(aV (az r 18 [y] M.ret)).bind fun z=>bJ u.1 z.1 fun A
 =>ar A ((aV (az r 8 [] M.ret)).bind fun B=>iy ((!(fH u.2 w.2)&&true)&&true) (ak [B.1])) ((aV (M.ret undef)).bind fun B=>iy ((!(fH u.2
 w.2)&&true)&&true) (ak [bF]))) ((aV (M.ret undef)).bind fun u=>(aV (M.ret undef)).bind fun v=>(aV (M.ret undef)).bind fun w=>(aV (M.ret
 undef)).bind fun x=>(aV (M.ret undef)).bind fun y=>iy ((!(fH u.2 v.2)&&true)&&true) (ak [bF]))) ((aV (M.ret undef)).bind fun s=>(aV (M.ret
 undef)).bind fun t=>(aV (M.ret undef)).bind fun u=>(aV (M.ret undef)).bind fun v=>(aV (M.ret undef)).bind fun w=>iy ((!(fH s.2 t.2)&&true)&&
 true) (ak [bF]))) ((aV (M.ret undef)).bind fun q=>(aV (M.ret undef)).bind fun s=>(aV (M.ret undef)).bind fun t=>(aV (M.ret undef)).bind fun u=>
 (aV (M.ret undef)).bind fun v=>iy ((!(fH q.2 s.2)&&true)&&true) (ak [bF]))) ((aV (M.ret undef)).bind fun p=>(aV (M.ret undef)).bind fun q=>
 (aV (M.ret undef)).bind fun s=>(aV (M.ret undef)).bind fun t=>(aV (M.ret undef)).bind fun u=>iy ((!(fH p.2 q.2)&&true)&&true) (ak [bF]))))))
theorem aeC{lf:Nat}{r:RT}{a b c:V}:aG ai gt lf r 3 #[a,b,c]=inside (R0 lf r a b c):=by kernel_rfl
def vE(lf:Nat)(r:RT):Nat->(V->V->M V)->V->V->V->V->V->V->V->M V
 |0,_,_,_,_,_,_,_,_=> .fail
 |fu+1,k,a,b,c,d,e,f,g=>aH g f fun h=>ar h (jO (i6 2) d fun i=>aC g (ii 1) fun d=>vE lf r fu k a b c i e f d) (k a d)
def R1:List Nat:=[0,1,4,5,11,12,13]
def Ee(lf:Nat)(r:RT):(V->V->M V):=fun a b=>eZ .u64 a fun c=>aH c b fun d=>ak [d]
def J3(lf:Nat)(r:RT)(a b:V):M V:=aH b (ii 0) fun c=>ar c (ak [bF]) (ft b (ii 32) fun d=>ar d (ak [bF]) (vE lf r
 lf (Ee lf r) a b bF (i6 1) d b (ii 0)))
theorem R2{lf:Nat}{r:RT}(K:KT):∀fu,vE lf r fu (fun a b=>K (.exit 0) (zp [0,5] [a,b]))=fun a b c d e f g=>aO (cQ
 7 (pb 7 23) lf r) R1 fu (zp R1 [a,b,c,d,e,f,g]) K
 |0=>by funext a b c d e f g;kernel_rfl
 |fu+1=>by
  have ih:=R2 (lf:=lf) (r:=r) K fu
  funext a b c d e f g
  rw[vE]
  simp only[ih]
  kernel_rfl
theorem aeD{lf:Nat}{r:RT}:Ee lf r=(fun a b=>(tK 7 (pb 6 23) lf r) (.exit 0) (zp [0,5] [a,b])):=by kernel_rfl
theorem aeE{lf:Nat}{r:RT}{a b:V}:aG ai gt lf r 7 #[a,b]=inside (J3 lf r a b):=by
 unfold J3
 simp only[aeD,R2]
 kernel_rfl
def J4(lf:Nat)(r:RT):M V:=az r 9 [] fun a=>rz 3 (ju [(ii 0)] 2) 2 [(0,1,(ii 0)),(1,1,(ii 2))] fun b=>az r 11 [a,b,(ii 3)] fun c
 =>rz 3 (ju [(ii 0)] 2) 2 [(0,1,(ii 0)),(1,1,(ii 2))] fun b=>az r 12 [b,(ii 3)] fun d=>bm d 0 fun e=>bm d 1 fun f=>az r 14 [a] fun b=>az r 16
 [a] fun d=>az r 17 [a] fun d=>az r 20 [d] fun g=>az r 22 [g,(ii 3),(ii 2)] fun h=>bm h 0 fun i=>bm h 1 fun j=>bJ c (ii 0) fun d=>ar d (bJ f (ii
 0) fun g=>ar g (bJ j (ii 0) fun h=>ar h (bJ e b fun l=>ar l (rz 3 (ju [(ii 0)] 2) 2 [(0,1,(ii 0)),(1,1,(ii 2))] fun m=>az r 27 [i,m] fun n=>
 ak [n]) (ak [bF])) (ak [bF])) (ak [bF])) (ak [bF])
theorem R3{lf:Nat}{r:RT}:aG ai gt lf r 8 #[]=inside (J4 lf r):=by kernel_rfl
def J5(lf:Nat)(r:RT):M V:=gS RD [] fun a=>jt 63 a fun b=>ak [b]
theorem R4{lf:Nat}{r:RT}:aG ai gt lf r 9 #[]=inside (J5 lf r):=by kernel_rfl
def vF(lf:Nat)(r:RT):Nat->(M V)->V->V->V->V->V->V->V->V->M V
 |0,_,_,_,_,_,_,_,_,_=> .fail
 |fu+1,k,a,b,c,d,e,f,g,h=>aH h g fun i=>ar i (bW c (ii 1) fun j=>bW j h fun l=>od b l fun m=>Ar m (i3 1) fun n=>eZ .u8 n fun o=>az r
  35 [a,o] fun p=>aC h (ii 1) fun j=>vF lf r fu k a b c d e f g j) (k)
def R5:List Nat:=[0,1,2,6,8,11,16,17]
def Ef(lf:Nat)(r:RT):(M V):=ak [(ii 0)]
def Eg(lf:Nat)(r:RT)(a b c:V):M V:=fw a nP fun d=>ar d (ak [(ii 7)]) (az r 34 [b,c] fun e=>dZ e fun f=>ar f (ak [(ii 1)])
 (vF lf r lf (Ef lf r) a b c (ii 0) d f c (ii 0)))
theorem R6{lf:Nat}{r:RT}(K:KT):∀fu,vF lf r fu (K (.exit 1) [])=fun a b c d e f g h=>aO (cQ 10 (pb 6 11) lf r)
 R5 fu (zp R5 [a,b,c,d,e,f,g,h]) K
 |0=>by funext a b c d e f g h;kernel_rfl
 |fu+1=>by
  have ih:=R6 (lf:=lf) (r:=r) K fu
  funext a b c d e f g h
  rw[vF]
  simp only[ih]
  kernel_rfl
theorem aeF{lf:Nat}{r:RT}:Ef lf r=((tK 10 (pb 5 11) lf r) (.exit 1) []):=by kernel_rfl
theorem R7{lf:Nat}{r:RT}{a b c:V}:aG ai gt lf r 10 #[a,b,c]=inside (Eg lf r a b c):=by
 unfold Eg
 simp only[aeF,R6]
 kernel_rfl
def vG(lf:Nat)(r:RT):Nat->(V->V->V->V->V->V->V->V->V->V->V->V->V->M V)->V->V->V->V->V->V->V->V->V->V->V->V->M V
 |0,_,_,_,_,_,_,_,_,_,_,_,_,_=> .fail
 |fu+1,k,a,b,c,d,e,f,g,h,i,j,l,m=>aH m l fun n=>ar n (aL j m fun o=>ay o fun p=>az r 38 [a,p] fun o=>az r 39 [p] fun o=>bm o 0 fun q
  =>bm o 1 fun s=>cZ 72 1 q fun o=>cO 72 1 g o fun s=>aC m (ii 1) fun g=>vG lf r fu k a b c d e f s h i j l g) (k a b c d e f g h i j l m n)
def R9:List Nat:=[0,1,2,6,7,8,9,17,25,35,36,37]
def vH(lf:Nat)(r:RT):Nat->(M V)->V->V->V->V->V->V->V->V->V->V->V->V->V->V->V->V->M V
 |0,_,_,_,_,_,_,_,_,_,_,_,_,_,_,_,_,_=> .fail
 |fu+1,k,a,b,c,d,e,f,g,h,i,j,l,m,n,o,p,q=>aH q p fun s=>ar s (aL o q fun t=>ay t fun u=>aE 1 e fun t=>ay t fun v=>mi q (ii 50)
  fun w=>aL v w fun x=>ay x fun y=>aL g y fun z=>ay z fun A=>az r 40 [A,a,u] fun B=>aC q (ii 1) fun t=>vH lf r fu k a b c d e f g h i j l m n o p t) (k)
def R':List Nat:=[0,1,2,6,7,8,9,17,25,35,36,37,38,54,55,56]
def Eh(lf:Nat)(r:RT):(M V):=ak [(ii 0)]
def Ei(lf:Nat)(r:RT):(V->V->V->V->V->V->V->V->V->V->V->V->V->M V):=fun a b c d e f g h i j l m n=>aN b fun o=>vH lf r lf (Eh lf r) a b c d e f g h i j l m n b o (ii 0)
def Ej(lf:Nat)(r:RT)(a b c:V):M V:=fw a nP fun d=>ar d (ak [(ii 7)]) (az r 36 [b,c] fun e=>bm e 0 fun f=>bm e 1 fun g=>iW 67 m6
 fun h=>fb 2 h f fun _=>dO g (ii 0) fun e=>ar e (ak [g]) (aE 1 h fun f=>ay f fun i=>aE 0 h fun j=>ay j fun l=>aN l fun m=>az r 37 [a,i,m]
 fun n=>aE 0 h fun f=>ay f fun i=>aN i fun j=>vG lf r lf (Ei lf r) a b c (ii 0) h g nS d e i j (ii 0)))
theorem Sa{lf:Nat}{r:RT}(K:KT):∀fu,vG lf r fu (fun a b c d e f g h i j l m n=>K (.exit 0) (zp [0,1,2,6,7,8,9,17,25,35,
 36,37,38] [a,b,c,d,e,f,g,h,i,j,l,m,n]))=fun a b c d e f g h i j l m=>aO (cQ 11 (pb 10 191) lf r) R9 fu (zp R9 [a,b,c,d,e,f,g,h,i,j,l,m]) K
 |0=>by funext a b c d e f g h i j l m;kernel_rfl
 |fu+1=>by
  have ih:=Sa (lf:=lf) (r:=r) K fu
  funext a b c d e f g h i j l m
  rw[vG]
  simp only[ih]
  kernel_rfl
theorem J6{lf:Nat}{r:RT}(K:KT):∀fu,vH lf r fu (K (.exit 2) [])=fun a b c d e f g h i j l m n o p q=>aO (cQ 11 (pb 11 383) lf
 r) R' fu (zp R' [a,b,c,d,e,f,g,h,i,j,l,m,n,o,p,q]) K
 |0=>by funext a b c d e f g h i j l m n o p q;kernel_rfl
 |fu+1=>by
  have ih:=J6 (lf:=lf) (r:=r) K fu
  funext a b c d e f g h i j l m n o p q
  rw[vH]
  simp only[ih]
  kernel_rfl
theorem Sb{lf:Nat}{r:RT}:Eh lf r=((tK 11 (pb 10 383) lf r) (.exit 2) []):=by kernel_rfl
theorem aeG{lf:Nat}{r:RT}:Ei lf r=(fun a b c d e f g h i j l m n=>(tK 11 (pb 9 191) lf r) (.exit 0) (zp [0,1,2,6,7,8,9,17,25,
 35,36,37,38] [a,b,c,d,e,f,g,h,i,j,l,m,n])):=by
 unfold Ei
 simp only[Sb,J6]
 kernel_rfl
theorem Sc{lf:Nat}{r:RT}{a b c:V}:aG ai gt lf r 11 #[a,b,c]=inside (Ej lf r a b c):=by
 unfold Ej
 simp only[aeG,Sb,Sa,J6]
 kernel_rfl
def vI(lf:Nat)(r:RT):Nat->(V->V->V->M V)->V->V->V->V->V->V->V->V->V->V->V->M V
 |0,_,_,_,_,_,_,_,_,_,_,_,_=> .fail
 |fu+1,k,a,b,c,d,e,f,g,h,i,j,l=>aH l j fun m=>ar m (aL i l fun n=>ay n fun o=>az r 42 [o] fun n=>bm n 0 fun p=>bm n 1 fun q=>aC g p
  fun n=>aC l (ii 1) fun g=>vI lf r fu k a b c d e f n h i j g) (k a e g)
def Sd:List Nat:=[0,1,4,5,6,7,8,23,35,36,37]
def J7(lf:Nat)(r:RT):(V->V->V->M V):=fun a b c=>fa 2 b fun d=>az r 43 [a,d] fun e=>bm e 0 fun f=>bm e 1 fun g=>aC c f fun d=>ak [d,(ii 0)]
def Ek(lf:Nat)(r:RT)(a b:V):M V:=az r 36 [a,b] fun c=>bm c 0 fun d=>bm c 1 fun e=>iW 67 m6 fun f=>fb 2 f d fun _=>dO e (ii 0) fun
 c=>ar c (ak [(ii 0),e]) (aE 1 f fun d=>ay d fun g=>aE 0 f fun h=>ay h fun i=>aN i fun j=>az r 41 [g,j] fun l=>bm l 0 fun m=>bm l 1 fun n
 =>aE 0 f fun d=>ay d fun g=>aN g fun h=>vI lf r lf (J7 lf r) a b (ii 0) (ii 0) f e m c g h (ii 0))
theorem Se{lf:Nat}{r:RT}(K:KT):∀fu,vI lf r fu (fun a b c=>K (.exit 0) (zp [0,6,8] [a,b,c]))=fun a b c d e f g h i j l=>aO
 (cQ 12 (pb 8 47) lf r) Sd fu (zp Sd [a,b,c,d,e,f,g,h,i,j,l]) K
 |0=>by funext a b c d e f g h i j l;kernel_rfl
 |fu+1=>by
  have ih:=Se (lf:=lf) (r:=r) K fu
  funext a b c d e f g h i j l
  rw[vI]
  simp only[ih]
  kernel_rfl
theorem aeH{lf:Nat}{r:RT}:J7 lf r=(fun a b c=>(tK 12 (pb 7 47) lf r) (.exit 0) (zp [0,6,8] [a,b,c])):=by kernel_rfl
theorem Sf{lf:Nat}{r:RT}{a b:V}:aG ai gt lf r 12 #[a,b]=inside (Ek lf r a b):=by
 unfold Ek
 simp only[aeH,Se]
 kernel_rfl
def vJ(lf:Nat)(r:RT):Nat->((M V)×(V->M V))->V->V->V->V->V->V->V->M V
 |0,_,_,_,_,_,_,_,_=> .fail
 |fu+1,k,a,b,c,d,e,f,g=>aH g f fun h=>ar h (aL e g fun i=>ay i fun j=>bW b (ii 1) fun i=>bJ j i fun l=>aN a fun m=>bW m (ii 1) fun n=>
  bJ g n fun o=>As l o fun p=>ar p (k.2 bF) (aC g (ii 1) fun i=>vJ lf r fu k a b c d e f i)) (k.1)
def Sg:List Nat:=[0,1,4,20,21,22,23]
def yG(lf:Nat)(r:RT):(M V)×(V->M V):=(ak [bT],fun a=>ak [a])
def J8(lf:Nat)(r:RT)(a b:V):M V:=aN a fun c=>bJ c (ii 0) fun d=>ar d (ak [bF]) (az r 23 [b] fun e=>dZ e fun f=>ar f (ak
 [bF]) (az r 44 [a,b] fun g=>dZ g fun h=>ar h (ak [bF]) (aN a fun c=>vJ lf r lf (yG lf r) a b bF h a c (ii 0))))
theorem Sh{lf:Nat}{r:RT}(K:KT):∀fu,vJ lf r fu ((K (.exit 0) [],fun a=>K .ret (zp [4] [a])))=fun a b c d e f g=>aO
 (cQ 13 (pb 6 11) lf r) Sg fu (zp Sg [a,b,c,d,e,f,g]) K
 |0=>by funext a b c d e f g;kernel_rfl
 |fu+1=>by
  have ih:=Sh (lf:=lf) (r:=r) K fu
  funext a b c d e f g
  rw[vJ]
  simp only[ih]
  kernel_rfl
theorem aeI{lf:Nat}{r:RT}:yG lf r=(((tK 13 (pb 5 11) lf r) (.exit 0) [],fun a=>(tK 13 (pb 5 11) lf r) .ret (zp [4] [a]))):=by kernel_rfl
theorem aeJ{lf:Nat}{r:RT}{a b:V}:aG ai gt lf r 13 #[a,b]=inside (J8 lf r a b):=by
 unfold J8
 simp only[aeI,Sh]
 kernel_rfl
def J9(lf:Nat)(r:RT)(a:V):M V:=fw a nP fun b=>ar b (ak [(ii 0)]) (aI a fun c=>aE 2 c fun d=>ay d fun e=>ak [e])
theorem Si{lf:Nat}{r:RT}{a:V}:aG ai gt lf r 14 #[a]=inside (J9 lf r a):=by kernel_rfl
def vK(lf:Nat)(r:RT):Nat->(V->V->V->V->V->V->V->V->V->V->M V)->V->V->V->V->V->V->V->V->V->M V
 |0,_,_,_,_,_,_,_,_,_,_=> .fail
 |fu+1,k,a,b,c,d,e,f,g,h,i=>aH i h fun j=>ar j (aL g i fun l=>ay l fun m=>az r 47 [m] fun l=>aC e l fun n=>az r 48 [m] fun e=>cZ 82 1
  e fun l=>cO 82 1 f l fun o=>aC i (ii 1) fun e=>vK lf r fu k a b c d n o g h e) (k a b c d e f g h i j)
def Sj:List Nat:=[0,1,4,5,6,7,22,23,24]
def vL(lf:Nat)(r:RT):Nat->(V->M V)->V->V->V->V->V->V->V->V->V->V->V->V->V->M V
 |0,_,_,_,_,_,_,_,_,_,_,_,_,_,_=> .fail
 |fu+1,k,a,b,c,d,e,f,g,h,i,j,l,m,n=>aH n m fun o=>ar o (aL l n fun p=>ay p fun q=>aE 1 d fun p=>ay p fun s=>mi n (ii 50) fun t=>
  aL s t fun u=>ay u fun v=>aL f v fun w=>ay w fun x=>aL x q fun y=>ay y fun z=>aC e z fun A=>aC n (ii 1) fun e=>vL lf r fu k a b c d A f g h i j l m e) (k e)
def Sk:List Nat:=[0,1,4,5,6,7,22,23,24,25,38,39,40]
def El(lf:Nat)(r:RT):(V->M V):=fun a=>ak [a]
def Em(lf:Nat)(r:RT):(V->V->V->V->V->V->V->V->V->V->M V):=fun a b c d e f g h i j=>aN a fun l=>vL lf r lf (El lf r) a b c d e f g h i j a l (ii 0)
def J'(lf:Nat)(r:RT)(a b:V):M V:=az r 45 [a,b] fun c=>iW 78 yF fun d=>fb 2 d c fun _=>aE 1 d fun c=>ay c fun e=>aE 0 d fun
 f=>ay f fun g=>aN g fun h=>az r 46 [e,h] fun i=>aE 0 d fun c=>ay c fun e=>aN e fun f=>vK lf r lf (Em lf r) a b
 (ef {data:=#[]}) d i nS e f (ii 0)
theorem Sl{lf:Nat}{r:RT}(K:KT):∀fu,vK lf r fu (fun a b c d e f g h i j=>K (.exit 0) (zp [0,1,4,5,6,7,22,23,24,
 25] [a,b,c,d,e,f,g,h,i,j]))=fun a b c d e f g h i=>aO (cQ 15 (pb 8 47) lf r) Sj fu (zp Sj [a,b,c,d,e,f,g,h,i]) K
 |0=>by funext a b c d e f g h i;kernel_rfl
 |fu+1=>by
  have ih:=Sl (lf:=lf) (r:=r) K fu
  funext a b c d e f g h i
  rw[vK]
  simp only[ih]
  kernel_rfl
theorem Ka{lf:Nat}{r:RT}(K:KT):∀fu,vL lf r fu (fun a=>K (.exit 2) (zp [6] [a]))=fun a b c d e f g h i j l m n=>aO
 (cQ 15 (pb 9 95) lf r) Sk fu (zp Sk [a,b,c,d,e,f,g,h,i,j,l,m,n]) K
 |0=>by funext a b c d e f g h i j l m n;kernel_rfl
 |fu+1=>by
  have ih:=Ka (lf:=lf) (r:=r) K fu
  funext a b c d e f g h i j l m n
  rw[vL]
  simp only[ih]
  kernel_rfl
theorem Sm{lf:Nat}{r:RT}:El lf r=(fun a=>(tK 15 (pb 8 95) lf r) (.exit 2) (zp [6] [a])):=by kernel_rfl
theorem aeK{lf:Nat}{r:RT}:Em lf r=(fun a b c d e f g h i j=>(tK 15 (pb 7 47) lf r) (.exit 0) (zp [0,1,4,5,6,7,22,23,
 24,25] [a,b,c,d,e,f,g,h,i,j])):=by
 unfold Em
 simp only[Sm,Ka]
 kernel_rfl
theorem aeL{lf:Nat}{r:RT}{a b:V}:aG ai gt lf r 15 #[a,b]=inside (J' lf r a b):=by
 unfold J'
 simp only[aeK,Sm,Sl,Ka]
 kernel_rfl
def vM(lf:Nat)(r:RT):Nat->(M V)->V->M V
 |0,_,_=> .fail
 |fu+1,k,a=>vo a nP fun b=>ar b (aI a fun c=>aE 2 c fun d=>ay d fun e=>pd e (ii 8) fun f=>dO f (ii 0) fun g=>ar g (az r 35 [a,(i1 0)] fun b
  =>vM lf r fu k a) (k)) (k)
def Sn:List Nat:=[0]
def Eo(lf:Nat)(r:RT):(M V):=ak []
def Ep(lf:Nat)(r:RT)(a:V):M V:=vM lf r lf (Eo lf r) a
theorem So{lf:Nat}{r:RT}(K:KT):∀fu,vM lf r fu (K (.exit 0) [])=fun a=>aO (cQ 16 (pb 2 0) lf r) Sn fu (zp Sn [a]) K
 |0=>by funext a;kernel_rfl
 |fu+1=>by
  have ih:=So (lf:=lf) (r:=r) K fu
  funext a
  rw[vM]
  simp only[ih]
  kernel_rfl
theorem aeM{lf:Nat}{r:RT}:Eo lf r=((tK 16 (pb 1 0) lf r) (.exit 0) []):=by kernel_rfl
theorem Sp{lf:Nat}{r:RT}{a:V}:aG ai gt lf r 16 #[a]=inside (Ep lf r a):=by
 unfold Ep
 simp only[aeM,So]
 kernel_rfl
def Kb(lf:Nat)(r:RT)(a:V):M V:=fw a nP fun b=>ar b (ak [(ef {data:=#[]})]) (aI a fun c=>aE 0 c fun d=>ay d fun e
 =>vt e fun f=>aI a fun c=>aE 0 c fun d=>bG d nS fun _=>ak [f])
theorem Sq{lf:Nat}{r:RT}{a:V}:aG ai gt lf r 17 #[a]=inside (Kb lf r a):=by kernel_rfl
def Sr(lf:Nat)(r:RT)(a:V):M V:=az r 50 [a] fun b=>az r 49 [b] fun c=>ak [c]
theorem aeN{lf:Nat}{r:RT}{a:V}:aG ai gt lf r 18 #[a]=inside (Sr lf r a):=by kernel_rfl
def vN(lf:Nat)(r:RT):Nat->(V->M V)->V->V->V->V->V->V->M V
 |0,_,_,_,_,_,_,_=> .fail
 |fu+1,k,a,b,c,d,e,f=>aH f e fun g=>ar g (pd a (i3 2) fun h=>pd a (i3 2) fun i=>aC i (i3 1) fun j=>kx (ef {data:=#[48,49]})
  (some h) (some j) fun l=>aC l d fun m=>mi a (i3 2) fun d=>aC f (ii 1) fun a=>vN lf r fu k d b c m e a) (k d)
def Ss:List Nat:=[0,1,4,5,6,7]
def Er(lf:Nat)(r:RT):(V->M V):=fun a=>ak [a]
def Kc(lf:Nat)(r:RT)(a b:V):M V:=vN lf r lf (Er lf r) a b (ef {data:=#[]}) (ef {data:=#[]}) b (ii 0)
theorem Su{lf:Nat}{r:RT}(K:KT):∀fu,vN lf r fu (fun a=>K (.exit 0) (zp [5] [a]))=fun a b c d e f=>aO (cQ 19 (pb
 6 11) lf r) Ss fu (zp Ss [a,b,c,d,e,f]) K
 |0=>by funext a b c d e f;kernel_rfl
 |fu+1=>by
  have ih:=Su (lf:=lf) (r:=r) K fu
  funext a b c d e f
  rw[vN]
  simp only[ih]
  kernel_rfl
theorem aeO{lf:Nat}{r:RT}:Er lf r=(fun a=>(tK 19 (pb 5 11) lf r) (.exit 0) (zp [5] [a])):=by kernel_rfl
theorem aeP{lf:Nat}{r:RT}{a b:V}:aG ai gt lf r 19 #[a,b]=inside (Kc lf r a b):=by
 unfold Kc
 simp only[aeO,Su]
 kernel_rfl
def Sv(lf:Nat)(r:RT)(a:V):M V:=gS RE [(0,1,a)] fun b=>jt 85 b fun c=>ak [c]
theorem aeQ{lf:Nat}{r:RT}{a:V}:aG ai gt lf r 20 #[a]=inside (Sv lf r a):=by kernel_rfl
def Sw(lf:Nat)(r:RT)(a b:V):M V:=fw a nP fun c=>ar c (ak [(ii 7)]) (aI a fun d=>aE 1 d fun e=>ay e fun f=>jO (ii 8) f fun g
 =>aH b g fun h=>ar h (ak [(ii 1)]) (az r 51 [a] fun i=>ft b i fun j=>ar j (ak [(ii 1)]) (aI a fun d=>aE 2 d fun e=>bG e b fun _=>ak [(ii 0)])))
theorem aeR{lf:Nat}{r:RT}{a b:V}:aG ai gt lf r 21 #[a,b]=inside (Sw lf r a b):=by kernel_rfl
def Sx(lf:Nat)(r:RT)(a b c:V):M V:=fw a nP fun d=>ar d (ak [nS,(ii 7)]) (az r 28 [b] fun e=>bm e 0 fun f=>bm e 1 fun g=>dO g (ii
 0) fun e=>ar e (ak [nS,(ii 1)]) (aH c (ii 0) fun h=>ar h (ak [nS,(ii 1)]) (az r 24 [a] fun e=>az r 52 [f,a,c] fun i=>bm i 0 fun j=>bm i 1 fun
 l=>dO l (ii 0) fun g=>ar g (az r 21 [a,e] fun i=>ak [j,l]) (ak [j,l]))))
theorem aeS{lf:Nat}{r:RT}{a b c:V}:aG ai gt lf r 22 #[a,b,c]=inside (Sx lf r a b c):=by kernel_rfl
def Sy(lf:Nat)(r:RT)(a:V):M V:=gH a (ii 3) fun b=>ar b (jP a (ii 258) fun c=>ak [c]) (ak [bF])
theorem aeT{lf:Nat}{r:RT}{a:V}:aG ai gt lf r 23 #[a]=inside (Sy lf r a):=by kernel_rfl
def Sz(lf:Nat)(r:RT)(a:V):M V:=fw a nP fun b=>ar b (ak [(ii 0)]) (aI a fun c=>aE 2 c fun d=>ay d fun e=>ak [e])
theorem aeU{lf:Nat}{r:RT}{a:V}:aG ai gt lf r 24 #[a]=inside (Sz lf r a):=by kernel_rfl
def Es(lf:Nat)(r:RT):Nat->((M V)×(V->M V))->V->V->V->V->V->V->M V
 |0,_,_,_,_,_,_,_=> .fail
 |fu+1,k,a,b,c,d,e,f=>aH f e fun g=>ar g (aL a f fun h=>ay h fun i=>aL b f fun j=>ay j fun l=>dO i l fun m=>ar m (k.2 bF) (aC f (ii 1)
  fun h=>Es lf r fu k a b c d e h)) (k.1)
def SA:List Nat:=[0,1,4,10,12,13]
def SB(lf:Nat)(r:RT):(M V)×(V->M V):=(ak [bT],fun a=>ak [a])
def Kd(lf:Nat)(r:RT)(a b:V):M V:=aN a fun c=>aN b fun d=>dO c d fun e=>ar e (ak [bF]) (aN a fun c=>Es lf r lf
 (SB lf r) a b bF e c (ii 0))
theorem SC{lf:Nat}{r:RT}(K:KT):∀fu,Es lf r fu ((K (.exit 0) [],fun a=>K .ret (zp [4] [a])))=fun a b c d e f=>aO
 (cQ 27 (pb 6 11) lf r) SA fu (zp SA [a,b,c,d,e,f]) K
 |0=>by funext a b c d e f;kernel_rfl
 |fu+1=>by
  have ih:=SC (lf:=lf) (r:=r) K fu
  funext a b c d e f
  rw[Es]
  simp only[ih]
  kernel_rfl
theorem aeV{lf:Nat}{r:RT}:SB lf r=(((tK 27 (pb 5 11) lf r) (.exit 0) [],fun a=>(tK 27 (pb 5 11) lf r) .ret (zp [4] [a]))):=by kernel_rfl
theorem aeW{lf:Nat}{r:RT}{a b:V}:aG ai gt lf r 27 #[a,b]=inside (Kd lf r a b):=by
 unfold Kd
 simp only[aeV,SC]
 kernel_rfl
def SD(lf:Nat)(r:RT)(a:V):M V:=az r 56 [a] fun b=>bm b 0 fun c=>bm b 1 fun d=>dO d (ii 0) fun b=>ar b (ak [nP,d]) (az r 57 []
 fun e=>gS RF [(0,1,a),(1,1,e),(3,1,c)] fun f=>jt 100 f fun g=>ak [g,(ii 0)])
theorem aeX{lf:Nat}{r:RT}{a:V}:aG ai gt lf r 28 #[a]=inside (SD lf r a):=by kernel_rfl
def SE(lf:Nat)(r:RT)(a b:V):M V:=fw a nP fun c=>ar c (ak [(ii 0),(ii 7)]) (fw b nP fun d=>ar d (ak [(ii 0),(ii 7)]) (aI a fun
 e=>aE 6 e fun f=>ay f fun g=>ar g (ak [(ii 0),(ii 7)]) (aI a fun c=>aE 7 c fun d=>ay d fun e=>dO e (ii 0) fun f=>ar f (aI a fun c=>aE 7 c
 fun d=>ay d fun e=>ak [(ii 0),e]) (aI a fun c=>aE 1 c fun d=>ay d fun e=>az r 59 [e] fun h=>dZ h fun i=>(fun c=>ar i (c (pP
 (sq 60) #[a] #[])) (aI a fun d=>aE 4 d fun e=>(aV (ay e M.ret)).bind fun h=>aN h.1 fun j=>aI a fun l=>aE 1 l fun m=>(aV (ay m
 M.ret)).bind fun n=>(aV (az r 61 [n.1] M.ret)).bind fun o=>aH j o.1 fun p=>iy ((!(fH h.2 o.2)&&true)&&true) (ar p (c (pP (sq 62)
 #[a] #[])) (c (pP (sq 58) #[a] #[]))))) fun c=>fO ai r c [b] fun d=>bm d 0 fun e=>bm d 1 fun h=>bJ h (ii 0) fun d=>ar d (ak
 [e,h]) (dO h (ii 3) fun j=>ar j (aI a fun l=>aE 7 l fun m=>bG m h fun _=>ak [(ii 0),h]) (ak [(ii 0),h]))))))
theorem aeY{lf:Nat}{r:RT}{a b:V}:aG ai gt lf r 30 #[a,b]=inside (SE lf r a b):=by kernel_rfl
def Ke(lf:Nat)(r:RT)(a b:V):M V:=gH b (ii 0) fun c=>ar c (jP b (ii 32) fun d=>ar d (eZ .u64 a fun e=>od e b fun f=>bJ f (i6 0) fun g=>ak [g]) (ak [bF])) (ak [bF])
theorem SF{lf:Nat}{r:RT}{a b:V}:aG ai gt lf r 34 #[a,b]=inside (Ke lf r a b):=by kernel_rfl
def Kf(lf:Nat)(r:RT)(a b:V):M V:=aI a fun c=>aE 2 c fun d=>ay d fun e=>pd e (ii 8) fun f=>aI a fun c=>aE 1 c fun d=>ay d
 fun e=>bW (ii 7) f fun g=>td b g fun h=>Dx e h fun i=>aI a fun j=>aE 1 j fun l=>bG l i fun _=>aI a fun c=>aE 2 c fun d=>ay d fun e=>aC e
 (ii 1) fun g=>aI a fun h=>aE 2 h fun i=>bG i g fun _=>bJ f (ii 7) fun c=>ar c (aI a fun d=>aE 0 d fun e=>ay e fun g=>aI a fun h=>aE 1 h fun
 i=>ay i fun j=>cZ 5 1 j fun l=>cO 5 1 g l fun m=>aI a fun n=>aE 0 n fun o=>bG o m fun _=>aI a fun d=>aE 1 d fun e=>bG e (i1 0) fun _=>ak []) (ak [])
theorem SG{lf:Nat}{r:RT}{a b:V}:aG ai gt lf r 35 #[a,b]=inside (Kf lf r a b):=by kernel_rfl
def Kg(lf:Nat)(r:RT)(a b:V):M V:=iW 67 m6 fun c=>aN a fun d=>bJ d (ii 0) fun e=>ar e (gS m6 [] fun d=>fb 2 c d fun _=>fa 2 c
 fun a=>ak [a,(ii 1)]) (bW b (ii 1) fun f=>az r 64 [a,f] fun g=>aN a fun h=>bW h (ii 1) fun i=>dO g i fun j=>ar j (gS m6 [] fun d=>fb 2 c d
 fun _=>fa 2 c fun a=>ak [a,(ii 1)]) (az r 65 [a,b] fun d=>bm d 0 fun e=>bm d 1 fun f=>fb 2 c e fun _=>fa 2 c fun a=>ak [a,f]))
theorem SH{lf:Nat}{r:RT}{a b:V}:aG ai gt lf r 36 #[a,b]=inside (Kg lf r a b):=by kernel_rfl
def vO(lf:Nat)(r:RT):Nat->(M V)->V->V->V->V->V->V->V->V->V->M V
 |0,_,_,_,_,_,_,_,_,_,_=> .fail
 |fu+1,k,a,b,c,d,e,f,g,h,i=>aH i h fun j=>ar j (aL g i fun l=>ay l fun m=>aC m (ii 1) fun l=>td (i3 1) l fun n=>bW n (i3 2) fun o=>aC
  m (ii 1) fun p=>az r 10 [a,o,p] fun q=>aC i (ii 1) fun l=>vO lf r fu k a b c d e f g h l) (k)
def SI:List Nat:=[0,1,2,6,9,12,27,28,29]
def Et(lf:Nat)(r:RT):(M V):=ak [(ii 0)]
def Eu(lf:Nat)(r:RT)(a b c:V):M V:=fw a nP fun d=>ar d (ak [(ii 7)]) (az r 66 [b,c] fun e=>dZ e fun f=>ar f (ak [(ii 1)]) (eZ
 .u32 c fun e=>az r 10 [a,e,(ii 3)] fun g=>aN b fun e=>eZ .u32 e fun g=>az r 10 [a,g,(ii 15)] fun h=>az r 67 [b] fun e=>aN e fun g=>
 vO lf r lf (Et lf r) a b c (ii 0) d f e g (ii 0)))
theorem SJ{lf:Nat}{r:RT}(K:KT):∀fu,vO lf r fu (K (.exit 1) [])=fun a b c d e f g h i=>aO (cQ 37 (pb 8 47) lf r)
 SI fu (zp SI [a,b,c,d,e,f,g,h,i]) K
 |0=>by funext a b c d e f g h i;kernel_rfl
 |fu+1=>by
  have ih:=SJ (lf:=lf) (r:=r) K fu
  funext a b c d e f g h i
  rw[vO]
  simp only[ih]
  kernel_rfl
theorem aeZ{lf:Nat}{r:RT}:Et lf r=((tK 37 (pb 7 47) lf r) (.exit 1) []):=by kernel_rfl
theorem SK{lf:Nat}{r:RT}{a b c:V}:aG ai gt lf r 37 #[a,b,c]=inside (Eu lf r a b c):=by
 unfold Eu
 simp only[aeZ,SJ]
 kernel_rfl
def Kh(lf:Nat)(r:RT)(a b:V):M V:=jt 27 a fun c=>ay c fun d=>fw d nP fun e=>ar e (ak [(ii 7)]) (az r 68 [b] fun d=>dZ d fun f=>
 ar f (ak [(ii 1)]) (az r 69 [b,(pP (sq 70) #[] #[c])] fun d=>ak [(ii 0)]))
theorem SL{lf:Nat}{r:RT}{a b:V}:aG ai gt lf r 38 #[a,b]=inside (Kh lf r a b):=by kernel_rfl
def tA(lf:Nat)(r:RT):Nat->(V->V->V->V->V->V->V->V->M V)->V->V->V->V->V->V->V->V->V->V->V->V->M V
 |0,_,_,_,_,_,_,_,_,_,_,_,_,_=> .fail
 |fu+1,k,a,b,c,d,e,f,g,h,i,j,l,m=>aH m l fun n=>ar n (aL j m fun o=>ay o fun p=>bJ p f fun o=>ar o (aI d fun q=>aE 1 q fun s=>ay
  s fun t=>eZ .u32 e fun u=>aL t m fun v=>bG v u fun _=>aI d fun q=>aE 2 q fun s=>ay s fun t=>cZ 3 1 m fun u=>cO 3 1 t u fun v=>aI d fun w=>
  aE 2 w fun x=>bG x v fun _=>aC e (ii 1) fun q=>aC m (ii 1) fun e=>tA lf r fu k a b c d q f g h i j l e) (aC m (ii 1) fun q=>tA lf
  r fu k a b c d e f g h i j l q)) (k a b c d e f g h)
def SM:List Nat:=[0,2,3,4,5,6,9,18,30,51,52,53]
def Ew(lf:Nat)(r:RT)(k:(V->M V))(again:V->V->V->V->V->V->V->V->M V):(V->V->V->V->V->V->V->V->M V):=fun a b c d e f g h=>aC f (ii 1) fun i=>again a b c d e i g h
def tB(lf:Nat)(r:RT):Nat->(V->M V)->V->V->V->V->V->V->V->V->M V
 |0,_,_,_,_,_,_,_,_,_=> .fail
 |fu+1,k,a,b,c,d,e,f,g,h=>jP f (ii 20) fun i=>ar i (jO e (ii 2) fun j=>aI d fun e=>aE 3 e fun l=>gx 21 l f fun m=>bG m j fun _=>aI d
  fun e=>aE 2 e fun l=>ay l fun m=>aN m fun n=>aI d fun o=>aE 24 o fun p=>gx 22 p f fun q=>bG q n fun _=>aN a fun e=>tA lf r lf
  (Ew lf r k (tB lf r fu k)) a b c d j f g h i a e (ii 0)) (k d)
def AL:List Nat:=[0,2,3,4,5,6,9,18]
abbrev SN(lf:Nat)(r:RT)(fu:Nat)(k:(V->M V)):(V->V->V->V->V->V->V->V->M V):=Ew lf r k (tB lf r fu k)
def AM(lf:Nat)(r:RT):(V->M V):=fun a=>aI a fun b=>aE 2 b fun c=>ay c fun d=>aN d fun e=>aI a fun f=>aE 24 f fun g=>gx 22 g (ii
 21) fun h=>bG h e fun _=>ak [a,(ii 0)]
def Ey(lf:Nat)(r:RT)(a:V):M V:=aN a fun b=>aH b (ii 3) fun c=>ar c (ak [nP,(ii 1)]) (aN a fun d=>ft d (ii 258) fun e=>ar e (ak
 [nP,(ii 1)]) (az r 71 [a] fun b=>dZ b fun c=>ar c (ak [nP,(ii 22)]) ((aV (az r 72 [a] M.ret)).bind fun b=>aN a fun d=>(aV (jx 23 [(i3 0)] d d
 M.ret)).bind fun f=>gS J1 [(0,1,b.1),(1,1,f.1)] fun g=>(aV (jt 111 g M.ret)).bind fun h=>iy ((!(fH b.2 f.2)&&true)&&true) (tB lf
 r lf (AM lf r) a nP (ii 0) h.1 (ii 0) (ii 1) e c))))
theorem SO{lf:Nat}{r:RT}(K:KT):∀fu,tA lf r fu (fun a b c d e f g h=>K (.exit 3) (zp [0,2,3,4,5,6,9,18] [a,b,c,d,e,f,g,
 h]))=fun a b c d e f g h i j l m=>aO (cQ 39 (pb 17 31023) lf r) SM fu (zp SM [a,b,c,d,e,f,g,h,i,j,l,m]) K
 |0=>by funext a b c d e f g h i j l m;kernel_rfl
 |fu+1=>by
  have ih:=SO (lf:=lf) (r:=r) K fu
  funext a b c d e f g h i j l m
  rw[tA]
  simp only[ih]
  kernel_rfl
theorem ae0{lf:Nat}{r:RT}(K:KT)(fu:Nat):Ew lf r (fun a=>K (.exit 1) (zp [4] [a])) (fun a b c d e f g h=>aO (cQ 39 (pb 8 47) lf
 r) AL fu (zp AL [a,b,c,d,e,f,g,h]) K)=(fun a b c d e f g h=>(iK 39 (pb 8 47) (pb 8 121) AL fu K lf r) (.exit 3) (zp [0,2,3,
 4,5,6,9,18] [a,b,c,d,e,f,g,h])):=by kernel_rfl
theorem SP{lf:Nat}{r:RT}(K:KT):∀fu,tB lf r fu (fun a=>K (.exit 1) (zp [4] [a]))=fun a b c d e f g h=>aO (cQ 39 (pb 8 47) lf
 r) AL fu (zp AL [a,b,c,d,e,f,g,h]) K
 |0=>by funext a b c d e f g h;kernel_rfl
 |fu+1=>by
  have ih:=SP (lf:=lf) (r:=r) K fu
  funext a b c d e f g h
  rw[tB]
  simp only[ih,ae0,SO]
  kernel_rfl
theorem ae1{lf:Nat}{r:RT}:AM lf r=(fun a=>(tK 39 (pb 7 47) lf r) (.exit 1) (zp [4] [a])):=by kernel_rfl
theorem SQ{lf:Nat}{r:RT}{a:V}:aG ai gt lf r 39 #[a]=inside (Ey lf r a):=by
 unfold Ey
 simp only[ae1,SP]
 kernel_rfl
def Ki(lf:Nat)(r:RT)(a b c:V):M V:=fw b nP fun d=>ar d (ak [(ii 7)]) (az r 73 [a,c] fun e=>bm e 0 fun f=>bm e 1 fun g=>bm e 2
 fun h=>dO h (ii 0) fun e=>ar e (ak [h]) (az r 10 [b,f,g] fun i=>ak [i]))
theorem SS{lf:Nat}{r:RT}{a b c:V}:aG ai gt lf r 40 #[a,b,c]=inside (Ki lf r a b c):=by kernel_rfl
def vP(lf:Nat)(r:RT):Nat->(V->M V)->V->V->V->V->V->V->V->V->V->M V
 |0,_,_,_,_,_,_,_,_,_,_=> .fail
 |fu+1,k,a,b,c,d,e,f,g,h,i=>aH i h fun j=>ar j (aL g i fun l=>ay l fun m=>aC m (ii 1) fun l=>aC e l fun n=>aC i (ii 1) fun e=>vP lf r fu k a b c d n f g h e) (k e)
def SU:List Nat:=[0,1,4,5,6,12,14,15,16]
def Ez(lf:Nat)(r:RT):(V->M V):=fun a=>ak [a,(ii 0)]
def EA(lf:Nat)(r:RT)(a b:V):M V:=az r 66 [a,b] fun c=>dZ c fun d=>ar d (ak [(ii 0),(ii 1)]) (az r 67 [a] fun c=>aN c fun e=>
 vP lf r lf (Ez lf r) a b (ii 0) (ii 0) (ii 18) d c e (ii 0))
theorem SV{lf:Nat}{r:RT}(K:KT):∀fu,vP lf r fu (fun a=>K (.exit 0) (zp [6] [a]))=fun a b c d e f g h i=>aO (cQ 41 (pb 7 23)
 lf r) SU fu (zp SU [a,b,c,d,e,f,g,h,i]) K
 |0=>by funext a b c d e f g h i;kernel_rfl
 |fu+1=>by
  have ih:=SV (lf:=lf) (r:=r) K fu
  funext a b c d e f g h i
  rw[vP]
  simp only[ih]
  kernel_rfl
theorem ae2{lf:Nat}{r:RT}:Ez lf r=(fun a=>(tK 41 (pb 6 23) lf r) (.exit 0) (zp [6] [a])):=by kernel_rfl
theorem SW{lf:Nat}{r:RT}{a b:V}:aG ai gt lf r 41 #[a,b]=inside (EA lf r a b):=by
 unfold EA
 simp only[ae2,SV]
 kernel_rfl
def Kj(lf:Nat)(r:RT)(a:V):M V:=az r 68 [a] fun b=>dZ b fun c=>ar c (ak [(ii 0),(ii 1)]) (iW 3 z3 fun b=>bG b (ii 0) fun _=>az r
 69 [a,(pP (sq 74) #[] #[b])] fun d=>ay b fun d=>ak [d,(ii 0)])
theorem SX{lf:Nat}{r:RT}{a:V}:aG ai gt lf r 42 #[a]=inside (Kj lf r a):=by kernel_rfl
def vQ(lf:Nat)(r:RT):Nat->((V->M V)×(V->V->M V))->V->V->V->V->V->V->V->V->V->V->M V
 |0,_,_,_,_,_,_,_,_,_,_,_=> .fail
 |fu+1,k,a,b,c,d,e,f,g,h,i,j=>aH j i fun l=>ar l (aL h j fun m=>ay m fun n=>aH n (ii 0) fun m=>ar m (k.2 (ii 0) (ii 1)) (aE 0 c fun o=>
  ay o fun p=>aN p fun q=>gH n q fun s=>ar s (k.2 (ii 0) (ii 1)) (az r 76 [a,j] fun m=>bm m 0 fun o=>bm m 1 fun p=>aE 0 c fun m=>ay m fun p=>
  aL p n fun q=>ay q fun t=>az r 77 [o,t] fun u=>bm u 0 fun v=>bm u 1 fun w=>dO w (ii 0) fun m=>ar m (k.2 (ii 0) w) (aC f v fun p=>te p (ii
  1099511627776) fun q=>aC j (ii 1) fun f=>vQ lf r fu k a b c d e q g h i f)))) (k.1 f)
def SY:List Nat:=[0,1,3,4,5,6,19,21,22,23]
def vR(lf:Nat)(r:RT):(V->M V)×(V->V->M V):=(fun a=>ak [a,(ii 0)],fun a b=>ak [a,b])
def EB(lf:Nat)(r:RT)(a b:V):M V:=jt 67 b fun c=>aE 1 c fun d=>(aV (ay d M.ret)).bind fun e=>aN e.1 fun f=>aN a fun g=>(aV
 (az r 75 [g] M.ret)).bind fun h=>dO f h.1 fun i=>iy ((!(fH e.2 h.2)&&true)&&true) (ar i (ak [(ii 0),(ii 1)]) (aE 1 c fun d=>ay d fun e=>aN e
 fun f=>vQ lf r lf (vR lf r) a b c (ii 0) (ii 0) (ii 0) i e f (ii 0)))
theorem SZ{lf:Nat}{r:RT}(K:KT):∀fu,vQ lf r fu ((fun a=>K (.exit 0) (zp [6] [a]),fun a b=>K .ret (zp [4,5] [a,b])))=fun a
 b c d e f g h i j=>aO (cQ 43 (pb 7 23) lf r) SY fu (zp SY [a,b,c,d,e,f,g,h,i,j]) K
 |0=>by funext a b c d e f g h i j;kernel_rfl
 |fu+1=>by
  have ih:=SZ (lf:=lf) (r:=r) K fu
  funext a b c d e f g h i j
  rw[vQ]
  simp only[ih]
  kernel_rfl
theorem ae3{lf:Nat}{r:RT}:vR lf r=((fun a=>(tK 43 (pb 6 23) lf r) (.exit 0) (zp [6] [a]),fun a b=>(tK 43 (pb 6 23) lf r) .ret (zp [4,5] [a,b]))):=by kernel_rfl
theorem S0{lf:Nat}{r:RT}{a b:V}:aG ai gt lf r 43 #[a,b]=inside (EB lf r a b):=by
 unfold EB
 simp only[ae3,SZ]
 kernel_rfl
def vS(lf:Nat)(r:RT):Nat->((M V)×(V->M V))->V->V->V->V->V->V->M V
 |0,_,_,_,_,_,_,_=> .fail
 |fu+1,k,a,b,c,d,e,f=>aH f e fun g=>ar g (aL d f fun h=>ay h fun i=>aH i (ii 0) fun h=>ar h (k.2 bF) (gH i b fun j=>ar j (k.2 bF) (aC f
  (ii 1) fun h=>vS lf r fu k a b c d e h))) (k.1)
def S1:List Nat:=[0,1,4,7,8,9]
def yH(lf:Nat)(r:RT):(M V)×(V->M V):=(ak [bT],fun a=>ak [a])
def Kk(lf:Nat)(r:RT)(a b:V):M V:=aN a fun c=>vS lf r lf (yH lf r) a b bF a c (ii 0)
theorem S2{lf:Nat}{r:RT}(K:KT):∀fu,vS lf r fu ((K (.exit 0) [],fun a=>K .ret (zp [4] [a])))=fun a b c d e f=>aO (cQ
 44 (pb 5 5) lf r) S1 fu (zp S1 [a,b,c,d,e,f]) K
 |0=>by funext a b c d e f;kernel_rfl
 |fu+1=>by
  have ih:=S2 (lf:=lf) (r:=r) K fu
  funext a b c d e f
  rw[vS]
  simp only[ih]
  kernel_rfl
theorem ae4{lf:Nat}{r:RT}:yH lf r=(((tK 44 (pb 4 5) lf r) (.exit 0) [],fun a=>(tK 44 (pb 4 5) lf r) .ret (zp [4] [a]))):=by kernel_rfl
theorem ae5{lf:Nat}{r:RT}{a b:V}:aG ai gt lf r 44 #[a,b]=inside (Kk lf r a b):=by
 unfold Kk
 simp only[ae4,S2]
 kernel_rfl
def vT(lf:Nat)(r:RT):Nat->(V->V->V->V->V->V->V->V->V->V->V->V->M V)->V->V->V->V->V->V->V->V->V->V->V->M V
 |0,_,_,_,_,_,_,_,_,_,_,_,_=> .fail
 |fu+1,k,a,b,c,d,e,f,g,h,i,j,l=>aH l j fun m=>ar m (aL i l fun n=>ay n fun o=>aE 0 d fun n=>ay n fun p=>az r 81 [o,p] fun q=>cZ 3
  1 q fun s=>cO 3 1 f s fun t=>aC l (ii 1) fun f=>vT lf r fu k a b c d e t g h i j f) (k a b c d e f g h i j l m)
def S3:List Nat:=[0,1,4,5,6,7,24,25,26,27,28]
def tC(lf:Nat)(r:RT):Nat->(V->V->V->V->V->V->V->V->V->V->V->V->V->V->V->V->M V)->V->V->V->V->V->V->V->V->V->V->V->V->V->V->V->V->V->V->V->V->V->M V
 |0,_,_,_,_,_,_,_,_,_,_,_,_,_,_,_,_,_,_,_,_,_,_=> .fail
 |fu+1,k,a,b,c,d,e,f,g,h,i,j,l,m,n,o,p,q,s,t,u,v,w=>aH w v fun x=>ar x (aL u w fun y=>ay y fun z=>aL f w fun y=>ay y fun A=>
  bJ A h fun B=>ar B (cO 3 1 i z fun y=>aC w (ii 1) fun i=>tC lf r fu k a b c d e f g h y j l m n o p q s t u v i) (aC w (ii 1) fun y=>
  tC lf r fu k a b c d e f g h i j l m n o p q s t u v y)) (k a b c d e f g i j l m n o p q s)
def S4:List Nat:=[0,1,4,5,6,7,10,11,12,24,25,26,27,28,29,42,43,44,46,47,48]
def EC(lf:Nat)(r:RT)(k:(V->V->V->V->V->V->V->V->M V))(again:V->V->V->V->V->V->V->V->V->V->V->V->V->V->V->M V):(V->V->V->V->V->V->V->V->V->V->V->V->V->V->V->V->M V):=fun a b c d
 e f g h i j l m n o p q=>az r 79 [h,b] fun s=>az r 82 [s] fun t=>cZ 22 1 t fun u=>cO 22 1 g u fun v=>aC q (ii 1) fun g=>again a b c d e f v i j l m n o p g
def tD(lf:Nat)(r:RT):Nat->(V->V->V->V->V->V->V->V->M V)->V->V->V->V->V->V->V->V->V->V->V->V->V->V->V->M V
 |0,_,_,_,_,_,_,_,_,_,_,_,_,_,_,_,_=> .fail
 |fu+1,k,a,b,c,d,e,f,g,h,i,j,l,m,n,o,p=>aH p o fun q=>ar q (aN e fun s=>tC lf r lf (EC lf r k
  (tD lf r fu k)) a b c d e f g p nS h i j l m n o p q e s (ii 0)) (k a b c d e f g h)
def AN:List Nat:=[0,1,4,5,6,7,10,24,25,26,27,28,29,42,43]
abbrev S5(lf:Nat)(r:RT)(fu:Nat)(k:(V->V->V->V->V->V->V->V->M V)):(V->V->V->V->V->V->V->V->V->V->V->V->V->V->V->V->M V):=EC lf r k (tD lf r fu k)
def ED(lf:Nat)(r:RT)(k:(V->V->M V))(again:V->V->V->V->V->V->M V):(V->V->V->V->V->V->V->V->M V):=fun a b c d e f g h=>gS yF [(0,1,g),(1,1,f)] fun
 i=>fb 2 d i fun _=>aC h (ii 1) fun i=>again a b c d e i
def AO(lf:Nat)(r:RT)(k:(V->V->M V))(again:V->V->V->V->V->V->M V):(V->V->V->V->V->V->V->V->V->V->V->V->M V):=fun a b c d e f g h i j l m=>aE 0 d fun n=>
 ay n fun o=>aN o fun p=>tD lf r lf (ED lf r k again) a b c d e f nS g h i j l m p (ii 0)
def rH(lf:Nat)(r:RT):Nat->(V->V->M V)->V->V->V->V->V->V->M V
 |0,_,_,_,_,_,_,_=> .fail
 |fu+1,k,a,b,c,d,e,f=>aH f (ii 4) fun g=>ar g (aN e fun h=>vT lf r lf (AO lf r k (rH lf r fu k)) a b c d e nS f g e h (ii 0)) (k c d)
def tE:List Nat:=[0,1,4,5,6,24]
abbrev S6(lf:Nat)(r:RT)(fu:Nat)(k:(V->V->M V)):(V->V->V->V->V->V->V->V->V->V->V->V->M V):=AO lf r k (rH lf r fu k)
abbrev Kl(lf:Nat)(r:RT)(fu:Nat)(k:(V->V->M V)):(V->V->V->V->V->V->V->V->M V):=ED lf r k (rH lf r fu k)
def vU(lf:Nat)(r:RT):(V->V->M V):=fun a b=>fa 2 b fun c=>fb 2 a c fun _=>fa 2 a fun b=>ak [b]
def Km(lf:Nat)(r:RT)(a b:V):M V:=iW 78 yF fun c=>az r 79 [a,b] fun d=>aN a fun e=>az r 78 [d,e] fun f=>gS yF [(0,1,f)] fun g
 =>iW 78 yF fun h=>fb 2 h g fun _=>az r 80 [a] fun d=>rH lf r lf (vU lf r) a b c h d (ii 0)
theorem S7{lf:Nat}{r:RT}(K:KT):∀fu,vT lf r fu (fun a b c d e f g h i j l m=>K (.exit 2) (zp [0,1,4,5,6,7,24,25,26,
 27,28,29] [a,b,c,d,e,f,g,h,i,j,l,m]))=fun a b c d e f g h i j l=>aO (cQ 45 (pb 16 10647) lf r) S3 fu (zp S3 [a,b,c,d,e,f,g,h,i,j,l]) K
 |0=>by funext a b c d e f g h i j l;kernel_rfl
 |fu+1=>by
  have ih:=S7 (lf:=lf) (r:=r) K fu
  funext a b c d e f g h i j l
  rw[vT]
  simp only[ih]
  kernel_rfl
theorem S8{lf:Nat}{r:RT}(K:KT):∀fu,tC lf r fu (fun a b c d e f g h i j l m n o p q=>K (.exit 6) (zp [0,1,4,5,6,7,10,
 12,24,25,26,27,28,29,42,43] [a,b,c,d,e,f,g,h,i,j,l,m,n,o,p,q]))=fun a b c d e f g h i j l m n o p q s t u v w=>aO (cQ 45 (pb 28 46971287)
 lf r) S4 fu (zp S4 [a,b,c,d,e,f,g,h,i,j,l,m,n,o,p,q,s,t,u,v,w]) K
 |0=>by funext a b c d e f g h i j l m n o p q s t u v w;kernel_rfl
 |fu+1=>by
  have ih:=S8 (lf:=lf) (r:=r) K fu
  funext a b c d e f g h i j l m n o p q s t u v w
  rw[tC]
  simp only[ih]
  kernel_rfl
theorem ae6{lf:Nat}{r:RT}(K:KT)(fu:Nat):EC lf r (fun a b c d e f g h=>K (.exit 4) (zp [0,1,4,5,6,7,10,24] [a,b,c,
 d,e,f,g,h])) (fun a b c d e f g h i j l m n o p=>aO (cQ 45 (pb 18 47511) lf r) AN fu (zp AN [a,b,c,d,e,f,g,h,i,j,l,m,
 n,o,p]) K)=(fun a b c d e f g h i j l m n o p q=>(iK 45 (pb 18 47511) (pb 9 179) AN fu K lf r) (.exit 6) (zp [0,1,4,5,6,7,10,12,24,25,26,
 27,28,29,42,43] [a,b,c,d,e,f,g,h,i,j,l,m,n,o,p,q])):=by kernel_rfl
theorem Kn{lf:Nat}{r:RT}(K:KT):∀fu,tD lf r fu (fun a b c d e f g h=>K (.exit 4) (zp [0,1,4,5,6,7,10,24] [a,b,c,d,
 e,f,g,h]))=fun a b c d e f g h i j l m n o p=>aO (cQ 45 (pb 18 47511) lf r) AN fu (zp AN [a,b,c,d,e,f,g,h,i,j,l,m,n,o,p]) K
 |0=>by funext a b c d e f g h i j l m n o p;kernel_rfl
 |fu+1=>by
  have ih:=Kn (lf:=lf) (r:=r) K fu
  funext a b c d e f g h i j l m n o p
  rw[tD]
  simp only[ih,ae6,S8]
  kernel_rfl
theorem S9{lf:Nat}{r:RT}(K:KT)(fu:Nat):ED lf r (fun a b=>K (.exit 0) (zp [4,5] [a,b])) (fun a b c d e f=>aO (cQ 45
 (pb 7 23) lf r) tE fu (zp tE [a,b,c,d,e,f]) K)=(fun a b c d e f g h=>(iK 45 (pb 7 23) (pb 10 371) tE fu K lf r)
 (.exit 4) (zp [0,1,4,5,6,7,10,24] [a,b,c,d,e,f,g,h])):=by kernel_rfl
theorem ae7{lf:Nat}{r:RT}(K:KT)(fu:Nat):AO lf r (fun a b=>K (.exit 0) (zp [4,5] [a,b])) (fun a b c d e f=>aO (cQ 45
 (pb 7 23) lf r) tE fu (zp tE [a,b,c,d,e,f]) K)=(fun a b c d e f g h i j l m=>(iK 45 (pb 7 23) (pb 8 83) tE fu K lf
 r) (.exit 2) (zp [0,1,4,5,6,7,24,25,26,27,28,29] [a,b,c,d,e,f,g,h,i,j,l,m])):=by
 unfold AO
 simp only[S9,Kn]
 kernel_rfl
theorem S'{lf:Nat}{r:RT}(K:KT):∀fu,rH lf r fu (fun a b=>K (.exit 0) (zp [4,5] [a,b]))=fun a b c d e f=>aO (cQ 45
 (pb 7 23) lf r) tE fu (zp tE [a,b,c,d,e,f]) K
 |0=>by funext a b c d e f;kernel_rfl
 |fu+1=>by
  have ih:=S' (lf:=lf) (r:=r) K fu
  funext a b c d e f
  rw[rH]
  simp only[ih,ae7,S9,S7,Kn]
  kernel_rfl
theorem ae8{lf:Nat}{r:RT}:vU lf r=(fun a b=>(tK 45 (pb 6 23) lf r) (.exit 0) (zp [4,5] [a,b])):=by kernel_rfl
theorem ae9{lf:Nat}{r:RT}{a b:V}:aG ai gt lf r 45 #[a,b]=inside (Km lf r a b):=by
 unfold Km
 simp only[ae8,S']
 kernel_rfl
def vV(lf:Nat)(r:RT):Nat->(V->M V)->V->V->V->V->V->V->V->V->M V
 |0,_,_,_,_,_,_,_,_,_=> .fail
 |fu+1,k,a,b,c,d,e,f,g,h=>aH h g fun i=>ar i (aL f h fun j=>ay j fun l=>pf (ef {data:=#[48,49,50,51,52,53]}) l fun j=>az
  r 83 [e,j] fun m=>az r 84 [e,m] fun j=>kx (ef {data:=#[49,49,49,49,49,49]}) none (some m) fun e=>aC d e fun n=>aC n (ef {
  data:=#[48]}) fun o=>aC h (ii 1) fun d=>vV lf r fu k a b c o j f g d) (k d)
def Ta:List Nat:=[0,1,4,5,6,18,19,20]
def EE(lf:Nat)(r:RT):(V->M V):=fun a=>ak [a]
def Ko(lf:Nat)(r:RT)(a b:V):M V:=eZ .u32 b fun c=>az r 19 [c,(ii 3)] fun d=>aN a fun e=>eZ .u32 e fun f=>az r 19 [f,(ii 15)]
 fun g=>aC d g fun h=>aN a fun c=>vV lf r lf (EE lf r) a b (ef {data:=#[]}) h (ef {data:=#[48,49,50,51,52,53]}) a c (ii 0)
theorem Tc{lf:Nat}{r:RT}(K:KT):∀fu,vV lf r fu (fun a=>K (.exit 0) (zp [5] [a]))=fun a b c d e f g h=>aO (cQ 46
 (pb 7 23) lf r) Ta fu (zp Ta [a,b,c,d,e,f,g,h]) K
 |0=>by funext a b c d e f g h;kernel_rfl
 |fu+1=>by
  have ih:=Tc (lf:=lf) (r:=r) K fu
  funext a b c d e f g h
  rw[vV]
  simp only[ih]
  kernel_rfl
theorem ae'{lf:Nat}{r:RT}:EE lf r=(fun a=>(tK 46 (pb 6 23) lf r) (.exit 0) (zp [5] [a])):=by kernel_rfl
theorem ae_{lf:Nat}{r:RT}{a b:V}:aG ai gt lf r 46 #[a,b]=inside (Ko lf r a b):=by
 unfold Ko
 simp only[ae',Tc]
 kernel_rfl
def tF(lf:Nat)(r:RT):Nat->(V->V->V->V->V->V->V->M V)->V->V->V->V->V->V->V->V->V->V->M V
 |0,_,_,_,_,_,_,_,_,_,_,_=> .fail
 |fu+1,k,a,b,c,d,e,f,g,h,i,j=>aH j (ii 40) fun l=>ar l (bW e d fun m=>aH j m fun n=>(fun m=>ar n (aC c (ef {data:=#[49,48]
  }) fun o=>m o) (m c)) fun c=>bW d e fun m=>aH j m fun o=>ar o (aC c (ef {data:=#[49,49]}) fun m=>aC j (ii 1) fun c=>
  tF lf r fu k a b m d e f g h i c) (aC j (ii 1) fun m=>tF lf r fu k a b c d e f g h i m)) (k a b c e f g h)
def Td:List Nat:=[0,2,3,4,6,16,17,18,19,22]
def Kp(lf:Nat)(r:RT)(k:(V->M V))(again:V->V->V->V->V->V->V->M V):(V->V->V->V->V->V->V->M V):=fun a b c d e f g=>aC c (ef {data:=#[48]
 }) fun h=>aC g (ii 1) fun c=>again a b h d e f c
def vW(lf:Nat)(r:RT):Nat->(V->M V)->V->V->V->V->V->V->V->M V
 |0,_,_,_,_,_,_,_,_=> .fail
 |fu+1,k,a,b,c,d,e,f,g=>aH g f fun h=>ar h (aL e g fun i=>ay i fun j=>tF lf r lf (Kp lf r k
  (vW lf r fu k)) a b c d j e f g h (ii 0)) (k c)
def AP:List Nat:=[0,2,3,4,16,17,18]
def EF(lf:Nat)(r:RT):(V->M V):=fun a=>ak [a]
def Kq(lf:Nat)(r:RT)(a:V):M V:=aL a (ii 0) fun b=>ay b fun c=>eZ .u32 c fun d=>az r 19 [d,(ii 5)] fun e=>aL a (ii 0) fun b=>
 ay b fun c=>aN a fun b=>vW lf r lf (EF lf r) a (ef {data:=#[]}) e c a b (ii 0)
theorem Te{lf:Nat}{r:RT}(K:KT):∀fu,tF lf r fu (fun a b c d e f g=>K (.exit 2) (zp [0,2,3,6,16,17,18] [a,b,c,d,
 e,f,g]))=fun a b c d e f g h i j=>aO (cQ 47 (pb 16 10647) lf r) Td fu (zp Td [a,b,c,d,e,f,g,h,i,j]) K
 |0=>by funext a b c d e f g h i j;kernel_rfl
 |fu+1=>by
  have ih:=Te (lf:=lf) (r:=r) K fu
  funext a b c d e f g h i j
  rw[tF]
  simp only[ih]
  kernel_rfl
theorem afa{lf:Nat}{r:RT}(K:KT)(fu:Nat):Kp lf r (fun a=>K (.exit 0) (zp [3] [a])) (fun a b c d e f g=>aO (cQ 47 (pb
 7 23) lf r) AP fu (zp AP [a,b,c,d,e,f,g]) K)=(fun a b c d e f g=>(iK 47 (pb 7 23) (pb 8 83) AP fu K lf r)
 (.exit 2) (zp [0,2,3,6,16,17,18] [a,b,c,d,e,f,g])):=by kernel_rfl
theorem Tf{lf:Nat}{r:RT}(K:KT):∀fu,vW lf r fu (fun a=>K (.exit 0) (zp [3] [a]))=fun a b c d e f g=>aO (cQ 47 (pb
 7 23) lf r) AP fu (zp AP [a,b,c,d,e,f,g]) K
 |0=>by funext a b c d e f g;kernel_rfl
 |fu+1=>by
  have ih:=Tf (lf:=lf) (r:=r) K fu
  funext a b c d e f g
  rw[vW]
  simp only[ih,afa,Te]
  kernel_rfl
theorem afb{lf:Nat}{r:RT}:EF lf r=(fun a=>(tK 47 (pb 6 23) lf r) (.exit 0) (zp [3] [a])):=by kernel_rfl
theorem afc{lf:Nat}{r:RT}{a:V}:aG ai gt lf r 47 #[a]=inside (Kq lf r a):=by
 unfold Kq
 simp only[afb,Tf]
 kernel_rfl
def vX(lf:Nat)(r:RT):Nat->(V->V->V->V->V->V->V->V->V->V->M V)->V->V->V->V->V->V->V->V->V->V->V->V->V->V->V->V->M V
 |0,_,_,_,_,_,_,_,_,_,_,_,_,_,_,_,_,_=> .fail
 |fu+1,k,a,b,c,d,e,f,g,h,i,j,l,m,n,o,p,q=>aH q p fun s=>ar s (aC d (ef {data:=#[48]}) fun t=>aC q (ii 1) fun d=>
  vX lf r fu k a b c t e f g h i j l m n o p d) (k a b c d e f h i j l)
def Tg:List Nat:=[0,2,3,4,5,6,7,12,15,16,17,18,24,26,27,28]
def EG(lf:Nat)(r:RT)(k:(V->V->V->V->V->M V))(again:V->V->V->V->V->V->V->V->V->M V):(V->V->V->V->V->V->V->V->V->V->M V):=fun a b c d e f g h i j=>aL c f fun
 l=>bG l d fun _=>aC j (ii 1) fun l=>again a b c d e g h i l
def ql(lf:Nat)(r:RT):Nat->(V->V->V->V->V->M V)->V->V->V->V->V->V->V->V->V->M V
 |0,_,_,_,_,_,_,_,_,_,_=> .fail
 |fu+1,k,a,b,c,d,e,f,g,h,i=>aH i h fun j=>ar j (aL g i fun l=>ay l fun m=>dO m e fun l=>ar l (aC i (ii 1) fun n=>ql lf
  r fu k a b c d e f g h n) (bJ d (ef {data:=#[]}) fun n=>ar n (vX lf r lf (EG lf r k (ql lf r
  fu k)) a b c d e i m f g h i j l n e (ii 0)) (az r 85 [d,e] fun o=>aL c i fun d=>bG d o fun _=>aC i (ii 1) fun d=>ql lf r fu k a b c o e f g h d))) (k a b c d e)
def AQ:List Nat:=[0,2,3,4,5,12,15,16,17]
abbrev Th(lf:Nat)(r:RT)(fu:Nat)(k:(V->V->V->V->V->M V)):(V->V->V->V->V->V->V->V->V->V->M V):=EG lf r k (ql lf r fu k)
def EH(lf:Nat)(r:RT)(k:(V->M V))(again:V->V->V->V->V->M V):(V->V->V->V->V->M V):=fun a b c d e=>aC e (ii 1) fun f=>again a b c d f
def tG(lf:Nat)(r:RT):Nat->(V->M V)->V->V->V->V->V->M V
 |0,_,_,_,_,_,_=> .fail
 |fu+1,k,a,b,c,d,e=>jP e (ii 20) fun f=>ar f (aN a fun g=>ql lf r lf (EH lf r k (tG lf r fu k)) a b c d e f a g (ii 0)) (k c)
def AR:List Nat:=[0,2,3,4,5]
abbrev Kr(lf:Nat)(r:RT)(fu:Nat)(k:(V->M V)):(V->V->V->V->V->M V):=EH lf r k (tG lf r fu k)
def yI(lf:Nat)(r:RT):(V->M V):=fun a=>ak [a]
def Ks(lf:Nat)(r:RT)(a:V):M V:=aN a fun b=>jx 9 [(ef {data:=#[]})] b b fun c=>tG lf r lf
 (yI lf r) a nS c (ef {data:=#[]}) (ii 1)
theorem Ti{lf:Nat}{r:RT}(K:KT):∀fu,vX lf r fu (fun a b c d e f g h i j=>K (.exit 4) (zp [0,2,3,4,5,6,12,15,16,
 17] [a,b,c,d,e,f,g,h,i,j]))=fun a b c d e f g h i j l m n o p q=>aO (cQ 48 (pb 25 5661847) lf r) Tg fu (zp Tg [a,b,
 c,d,e,f,g,h,i,j,l,m,n,o,p,q]) K
 |0=>by funext a b c d e f g h i j l m n o p q;kernel_rfl
 |fu+1=>by
  have ih:=Ti (lf:=lf) (r:=r) K fu
  funext a b c d e f g h i j l m n o p q
  rw[vX]
  simp only[ih]
  kernel_rfl
theorem afd{lf:Nat}{r:RT}(K:KT)(fu:Nat):EG lf r (fun a b c d e=>K (.exit 2) (zp [0,2,3,4,5] [a,b,c,d,e])) (fun
 a b c d e f g h i=>aO (cQ 48 (pb 13 1175) lf r) AQ fu (zp AQ [a,b,c,d,e,f,g,h,i]) K)=(fun a b c d e f g h i j=>(iK
 48 (pb 13 1175) (pb 11 691) AQ fu K lf r) (.exit 4) (zp [0,2,3,4,5,6,12,15,16,17] [a,b,c,d,e,f,g,h,i,j])):=by kernel_rfl
theorem Tj{lf:Nat}{r:RT}(K:KT):∀fu,ql lf r fu (fun a b c d e=>K (.exit 2) (zp [0,2,3,4,5] [a,b,c,d,e]))=fun
 a b c d e f g h i=>aO (cQ 48 (pb 13 1175) lf r) AQ fu (zp AQ [a,b,c,d,e,f,g,h,i]) K
 |0=>by funext a b c d e f g h i;kernel_rfl
 |fu+1=>by
  have ih:=Tj (lf:=lf) (r:=r) K fu
  funext a b c d e f g h i
  rw[ql]
  simp only[ih,afd,Ti]
  kernel_rfl
theorem afe{lf:Nat}{r:RT}(K:KT)(fu:Nat):EH lf r (fun a=>K (.exit 0) (zp [3] [a])) (fun a b c d e=>aO (cQ 48 (pb 7
 23) lf r) AR fu (zp AR [a,b,c,d,e]) K)=(fun a b c d e=>(iK 48 (pb 7 23) (pb 5 9) AR fu K lf r) (.exit 2) (zp
 [0,2,3,4,5] [a,b,c,d,e])):=by kernel_rfl
theorem Tl{lf:Nat}{r:RT}(K:KT):∀fu,tG lf r fu (fun a=>K (.exit 0) (zp [3] [a]))=fun a b c d e=>aO (cQ 48 (pb 7
 23) lf r) AR fu (zp AR [a,b,c,d,e]) K
 |0=>by funext a b c d e;kernel_rfl
 |fu+1=>by
  have ih:=Tl (lf:=lf) (r:=r) K fu
  funext a b c d e
  rw[tG]
  simp only[ih,afe,Tj]
  kernel_rfl
theorem aff{lf:Nat}{r:RT}:yI lf r=(fun a=>(tK 48 (pb 6 23) lf r) (.exit 0) (zp [3] [a])):=by kernel_rfl
theorem afg{lf:Nat}{r:RT}{a:V}:aG ai gt lf r 48 #[a]=inside (Ks lf r a):=by
 unfold Ks
 simp only[aff,Tl]
 kernel_rfl
def vY(lf:Nat)(r:RT):Nat->(V->M V)->V->V->V->M V
 |0,_,_,_,_=> .fail
 |fu+1,k,a,b,c=>lA a fun d=>gH d (ii 8) fun e=>ar e (kx a none (some (ii 8)) fun d=>az r 86 [d] fun f=>eZ .u8 f fun g=>cZ 5 1 g fun h=>vt h
  fun i=>aC c i fun j=>kx a (some (ii 8)) none fun c=>vY lf r fu k c b j) (k c)
def Tm:List Nat:=[0,2,3]
def EI(lf:Nat)(r:RT):(V->M V):=fun a=>ak [a]
def Kt(lf:Nat)(r:RT)(a:V):M V:=vY lf r lf (EI lf r) a (ef {data:=#[]}) (ef {data:=#[]})
theorem Tn{lf:Nat}{r:RT}(K:KT):∀fu,vY lf r fu (fun a=>K (.exit 0) (zp [3] [a]))=fun a b c=>aO (cQ 49 (pb 5 3)
 lf r) Tm fu (zp Tm [a,b,c]) K
 |0=>by funext a b c;kernel_rfl
 |fu+1=>by
  have ih:=Tn (lf:=lf) (r:=r) K fu
  funext a b c
  rw[vY]
  simp only[ih]
  kernel_rfl
theorem afh{lf:Nat}{r:RT}:EI lf r=(fun a=>(tK 49 (pb 4 3) lf r) (.exit 0) (zp [3] [a])):=by kernel_rfl
theorem afi{lf:Nat}{r:RT}{a:V}:aG ai gt lf r 49 #[a]=inside (Kt lf r a):=by
 unfold Kt
 simp only[afh,Tn]
 kernel_rfl
def vZ(lf:Nat)(r:RT):Nat->(V->M V)->V->V->M V
 |0,_,_,_=> .fail
 |fu+1,k,a,b=>lA a fun c=>pd c (ii 8) fun d=>dO d (ii 0) fun e=>ar e (aC a (ef {data:=#[48]}) fun c=>vZ lf r fu k c b) (k a)
def To:List Nat:=[0,2]
def EJ(lf:Nat)(r:RT):(V->M V):=fun a=>ak [a]
def Ku(lf:Nat)(r:RT)(a:V):M V:=vZ lf r lf (EJ lf r) a (ef {data:=#[]})
theorem Tp{lf:Nat}{r:RT}(K:KT):∀fu,vZ lf r fu (fun a=>K (.exit 0) (zp [0] [a]))=fun a b=>aO (cQ 50 (pb 4 1)
 lf r) To fu (zp To [a,b]) K
 |0=>by funext a b;kernel_rfl
 |fu+1=>by
  have ih:=Tp (lf:=lf) (r:=r) K fu
  funext a b
  rw[vZ]
  simp only[ih]
  kernel_rfl
theorem afj{lf:Nat}{r:RT}:EJ lf r=(fun a=>(tK 50 (pb 3 1) lf r) (.exit 0) (zp [0] [a])):=by kernel_rfl
theorem afk{lf:Nat}{r:RT}{a:V}:aG ai gt lf r 50 #[a]=inside (Ku lf r a):=by
 unfold Ku
 simp only[afj,Tp]
 kernel_rfl
def Tq(lf:Nat)(r:RT)(a:V):M V:=aI a fun b=>aE 1 b fun c=>ay c fun d=>aI a fun e=>aE 0 e fun f=>ay f fun g=>lA g fun h=>
 aC d h fun i=>jO (ii 8) i fun j=>ak [j]
theorem afl{lf:Nat}{r:RT}{a:V}:aG ai gt lf r 51 #[a]=inside (Tq lf r a):=by kernel_rfl
def AU(lf:Nat)(r:RT):Nat->((V->M V)×(V->V->M V))->V->V->V->V->V->V->M V
 |0,_,_,_,_,_,_,_=> .fail
 |fu+1,k,a,b,c,d,e,f=>aI a fun g=>aE 6 g fun h=>ay h fun i=>dZ i fun j=>ar j (az r 30 [a,b] fun g=>bm g 0 fun h=>bm g 1 fun i=>dO i
  (ii 0) fun g=>ar g (k.2 nS i) (bJ h (ii (-1)) fun l=>ar l (AU lf r fu k a b c d e f) (aN f fun m=>bJ m c fun n=>ar n (k.2 nS (ii 2))
  (cZ 3 1 h fun m=>cO 3 1 f m fun o=>AU lf r fu k a b c d e o)))) (k.1 f)
def Ts:List Nat:=[0,1,2,6,7,8]
def Tt(lf:Nat)(r:RT):(V->M V)×(V->V->M V):=(fun a=>ak [a,(ii 0)],fun a b=>ak [a,b])
def Kv(lf:Nat)(r:RT)(a b c:V):M V:=AU lf r lf (Tt lf r) a b c nS (ii 0) nS
theorem Tu{lf:Nat}{r:RT}(K:KT):∀fu,AU lf r fu ((fun a=>K (.exit 0) (zp [8] [a]),fun a b=>K .ret (zp [6,7] [a,
 b])))=fun a b c d e f=>aO (cQ 52 (pb 5 3) lf r) Ts fu (zp Ts [a,b,c,d,e,f]) K
 |0=>by funext a b c d e f;kernel_rfl
 |fu+1=>by
  have ih:=Tu (lf:=lf) (r:=r) K fu
  funext a b c d e f
  rw[AU]
  simp only[ih]
  kernel_rfl
theorem afm{lf:Nat}{r:RT}:Tt lf r=((fun a=>(tK 52 (pb 4 3) lf r) (.exit 0) (zp [8] [a]),fun a b=>(tK 52 (pb 4 3) lf r)
 .ret (zp [6,7] [a,b]))):=by kernel_rfl
theorem afn{lf:Nat}{r:RT}{a b c:V}:aG ai gt lf r 52 #[a,b,c]=inside (Kv lf r a b c):=by
 unfold Kv
 simp only[afm,Tu]
 kernel_rfl
def Tv(lf:Nat)(r:RT)(a:V):M V:=az r 91 [a] fun b=>dZ b fun c=>ar c (ak [nP,(ii 1)]) (gS RG [(0,1,a)] fun b=>jt 130 b fun d=>ak [d,(ii 0)])
theorem afo{lf:Nat}{r:RT}{a:V}:aG ai gt lf r 56 #[a]=inside (Tv lf r a):=by kernel_rfl
def Tw(lf:Nat)(r:RT):M V:=az r 92 [] fun a=>gS RH [(2,6,a)] fun b=>jt 135 b fun c=>ak [c]
theorem afp{lf:Nat}{r:RT}:aG ai gt lf r 57 #[]=inside (Tw lf r):=by kernel_rfl
def Tx(lf:Nat)(r:RT)(a b:V):M V:=aI a fun c=>aE 5 c fun d=>ay d fun e=>mi e (ii 50) fun f=>aI a fun c=>aE 2 c fun d=>ay
 d fun e=>aN e fun g=>gH f g fun h=>ar h (ak [(ii (-1)),(ii 25)]) (aI a fun c=>aE 4 c fun d=>ay d fun e=>aI a fun g=>aE 2 g fun i=>ay i fun
 j=>aL j f fun l=>ay l fun m=>aL e m fun n=>ay n fun o=>az r 93 [o,b] fun p=>bm p 0 fun q=>bm p 1 fun s=>dO s (ii 0) fun c=>ar c (ak [(ii
 (-1)),s]) (aI a fun d=>aE 5 d fun e=>ay e fun g=>aC g (ii 1) fun i=>aI a fun j=>aE 5 j fun l=>bG l i fun _=>aI a fun d=>aE 0 d fun e=>ay e
 fun g=>bW g (ii 1) fun i=>bJ q i fun j=>aI a fun l=>aE 6 l fun m=>bG m j fun _=>ak [q,(ii 0)]))
theorem afq{lf:Nat}{r:RT}{a b:V}:aG ai gt lf r 58 #[a,b]=inside (Tx lf r a b):=by kernel_rfl
def Ty(lf:Nat)(r:RT)(a:V):M V:=vo a nP fun b=>ar b (aI a fun c=>aE 1 c fun d=>ay d fun e=>ft e (ii 0) fun f=>ar f (aI a
 fun g=>aE 8 g fun h=>ay h fun i=>aN i fun j=>aI a fun l=>aE 1 l fun m=>ay m fun n=>bJ j n fun o=>ak [o]) (ak [bF])) (ak [bF])
theorem afr{lf:Nat}{r:RT}{a:V}:aG ai gt lf r 59 #[a]=inside (Ty lf r a):=by kernel_rfl
def Tz(lf:Nat)(r:RT)(a b:V):M V:=aI a fun c=>aE 1 c fun d=>ay d fun e=>az r 94 [e,b] fun f=>aI a fun c=>aE 1 c fun d=>ay
 d fun e=>az r 59 [e] fun g=>ar g (aI a fun c=>aE 1 c fun d=>ay d fun e=>az r 63 [e] fun h=>aI a fun i=>aE 2 i fun j=>bG j h fun _=>ak [(ii (-1)),f]) (ak [(ii (-1)),f])
theorem afs{lf:Nat}{r:RT}{a b:V}:aG ai gt lf r 60 #[a,b]=inside (Tz lf r a b):=by kernel_rfl
def TA(lf:Nat)(r:RT)(a:V):M V:=fw a nP fun b=>ar b (ak [(ii 0)]) (aI a fun c=>aE 0 c fun d=>ay d fun e=>ak [e])
theorem aft{lf:Nat}{r:RT}{a:V}:aG ai gt lf r 61 #[a]=inside (TA lf r a):=by kernel_rfl
def TB(lf:Nat)(r:RT)(a b:V):M V:=aI a fun c=>aE 3 c fun d=>ay d fun e=>az r 95 [e,b] fun f=>dO f (ii 0) fun c=>ar c (ak
 [(ii (-1)),f]) (aI a fun d=>aE 3 d fun e=>ay e fun g=>az r 96 [g] fun h=>dZ h fun i=>ar i (ak [(ii (-1)),f]) (aI a fun c=>aE 3 c fun d=>ay d
 fun e=>az r 97 [e] fun g=>az r 39 [g] fun h=>bm h 0 fun j=>bm h 1 fun l=>dO l (ii 0) fun c=>ar c (ak [(ii (-1)),l]) (aI a fun d=>aE 4 d fun e
 =>ay e fun g=>cZ 72 1 j fun h=>cO 72 1 g h fun m=>aI a fun n=>aE 4 n fun o=>bG o m fun _=>aI a fun d=>aE 0 d fun e=>ay e fun g=>az r 56
 [g] fun h=>bm h 0 fun m=>bm h 1 fun n=>aI a fun d=>aE 3 d fun e=>bG e m fun _=>ak [(ii (-1)),(ii 0)])))
theorem afu{lf:Nat}{r:RT}{a b:V}:aG ai gt lf r 62 #[a,b]=inside (TB lf r a b):=by kernel_rfl
def TC(lf:Nat)(r:RT)(a:V):M V:=fw a nP fun b=>ar b (ak [nS]) (aI a fun c=>aE 8 c fun d=>ay d fun e=>az r 72 [e] fun f=>ak [f])
theorem afv{lf:Nat}{r:RT}{a:V}:aG ai gt lf r 63 #[a]=inside (TC lf r a):=by kernel_rfl
def wc(lf:Nat)(r:RT):Nat->((M V)×(V->M V))->V->V->V->V->V->M V
 |0,_,_,_,_,_,_=> .fail
 |fu+1,k,a,b,c,d,e=>aH e d fun f=>ar f (aL a e fun g=>ay g fun h=>bJ b h fun i=>ar i (k.2 e) (aC e (ii 1) fun g=>wc lf r fu k a b c d g)) (k.1)
def TD:List Nat:=[0,1,4,7,8]
def AV(lf:Nat)(r:RT):(M V)×(V->M V):=(ak [(ii (-1))],fun a=>ak [a])
def EK(lf:Nat)(r:RT)(a b:V):M V:=aN a fun c=>wc lf r lf (AV lf r) a b (ii 0) c (ii 0)
theorem TE{lf:Nat}{r:RT}(K:KT):∀fu,wc lf r fu ((K (.exit 0) [],fun a=>K .ret (zp [4] [a])))=fun a b c d e
 =>aO (cQ 64 (pb 5 5) lf r) TD fu (zp TD [a,b,c,d,e]) K
 |0=>by funext a b c d e;kernel_rfl
 |fu+1=>by
  have ih:=TE (lf:=lf) (r:=r) K fu
  funext a b c d e
  rw[wc]
  simp only[ih]
  kernel_rfl
theorem afw{lf:Nat}{r:RT}:AV lf r=(((tK 64 (pb 4 5) lf r) (.exit 0) [],fun a=>(tK 64 (pb 4 5) lf r) .ret (zp [4] [a]))):=by kernel_rfl
theorem TF{lf:Nat}{r:RT}{a b:V}:aG ai gt lf r 64 #[a,b]=inside (EK lf r a b):=by
 unfold EK
 simp only[afw,TE]
 kernel_rfl
def we(lf:Nat)(r:RT):Nat->(V->V->M V)->V->V->V->V->V->V->V->V->V->V->V->M V
 |0,_,_,_,_,_,_,_,_,_,_,_,_=> .fail
 |fu+1,k,a,b,c,d,e,f,g,h,i,j,l=>aH l (ii 4) fun m=>ar m (aE 0 h fun n=>ay n fun o=>az r 101 [g,o,b] fun p=>bm p 0 fun q=>bm p 1 fun
  s=>gS m6 [(0,1,s),(1,1,q)] fun n=>fb 2 h n fun _=>aC l (ii 1) fun n=>we lf r fu k a b c d e f g h i j n) (k c h)
def TG:List Nat:=[0,1,4,5,6,7,8,9,18,27,40]
def EL(lf:Nat)(r:RT):(V->V->M V):=fun a b=>fa 2 b fun c=>fb 2 a c fun _=>fa 2 a fun b=>ak [b,(ii 0)]
def AW(lf:Nat)(r:RT)(a b:V):M V:=iW 67 m6 fun c=>az r 98 [a,b] fun d=>bm d 0 fun e=>bm d 1 fun f=>dO f (ii 0) fun d=>ar d (gS
 m6 [] fun d=>fb 2 c d fun _=>fa 2 c fun a=>ak [a,(ii 1)]) (aN a fun g=>bJ g (ii 0) fun h=>ar h (gS m6 [] fun d=>fb 2 c d fun _=>fa 2 c fun a
 =>ak [a,(ii 1)]) (aN a fun d=>az r 75 [d] fun g=>ft g (ii 32767) fun i=>ar i (gS m6 [] fun d=>fb 2 c d fun _=>fa 2 c fun a=>ak [a,(ii 2)])
 (az r 99 [a] fun d=>aN a fun g=>az r 100 [e,g] fun j=>gS m6 [(0,1,j)] fun l=>iW 67 m6 fun m=>fb 2 m l fun _=>we lf r lf
 (EL lf r) a b c (ii 0) e f d m h i (ii 0))))
theorem TH{lf:Nat}{r:RT}(K:KT):∀fu,we lf r fu (fun a b=>K (.exit 1) (zp [4,9] [a,b]))=fun a b c d e f g h i j l=>aO (cQ 65
 (pb 9 95) lf r) TG fu (zp TG [a,b,c,d,e,f,g,h,i,j,l]) K
 |0=>by funext a b c d e f g h i j l;kernel_rfl
 |fu+1=>by
  have ih:=TH (lf:=lf) (r:=r) K fu
  funext a b c d e f g h i j l
  rw[we]
  simp only[ih]
  kernel_rfl
theorem afx{lf:Nat}{r:RT}:EL lf r=(fun a b=>(tK 65 (pb 8 95) lf r) (.exit 1) (zp [4,9] [a,b])):=by kernel_rfl
theorem Kw{lf:Nat}{r:RT}{a b:V}:aG ai gt lf r 65 #[a,b]=inside (AW lf r a b):=by
 unfold AW
 simp only[afx,TH]
 kernel_rfl
def Kx(lf:Nat)(r:RT)(a b:V):M V:=jt 3 b fun c=>ay c fun d=>az r 102 [d] fun e=>dZ e fun f=>ar f (ak [bF]) (aN a fun g=>bJ g (ii
 0) fun h=>ar h (ak [bF]) (aN a fun i=>ft i (ii 32767) fun j=>ar j (ak [bF]) (az r 103 [a,(pP (sq 104) #[] #[c])] fun d=>dZ d fun e=>ak [e])))
theorem TI{lf:Nat}{r:RT}{a b:V}:aG ai gt lf r 66 #[a,b]=inside (Kx lf r a b):=by kernel_rfl
def wg(lf:Nat)(r:RT):Nat->(V->M V)->V->V->V->V->V->V->V->M V
 |0,_,_,_,_,_,_,_,_=> .fail
 |fu+1,k,a,b,c,d,e,f,g=>aH g f fun h=>ar h (aL e g fun i=>ay i fun j=>az r 105 [c,j] fun i=>aL d g fun l=>bG l i fun _=>aC g (ii 1)
  fun i=>wg lf r fu k a b c d e f i) (k d)
def TJ:List Nat:=[0,2,3,4,11,12,13]
def EM(lf:Nat)(r:RT):(V->M V):=fun a=>ak [a]
def EN(lf:Nat)(r:RT)(a:V):M V:=az r 92 [] fun b=>iW 132 Ed fun c=>fb 6 c b fun _=>aN a fun b=>jx 3 [(ii 0)] b b fun d=>aN a
 fun b=>wg lf r lf (EM lf r) a nS c d a b (ii 0)
theorem TK{lf:Nat}{r:RT}(K:KT):∀fu,wg lf r fu (fun a=>K (.exit 0) (zp [4] [a]))=fun a b c d e f g=>aO (cQ 67 (pb 7 23)
 lf r) TJ fu (zp TJ [a,b,c,d,e,f,g]) K
 |0=>by funext a b c d e f g;kernel_rfl
 |fu+1=>by
  have ih:=TK (lf:=lf) (r:=r) K fu
  funext a b c d e f g
  rw[wg]
  simp only[ih]
  kernel_rfl
theorem afy{lf:Nat}{r:RT}:EM lf r=(fun a=>(tK 67 (pb 6 23) lf r) (.exit 0) (zp [4] [a])):=by kernel_rfl
theorem TL{lf:Nat}{r:RT}{a:V}:aG ai gt lf r 67 #[a]=inside (EN lf r a):=by
 unfold EN
 simp only[afy,TK]
 kernel_rfl
def Ky(lf:Nat)(r:RT)(a:V):M V:=aN a fun b=>az r 91 [b] fun c=>ar c (az r 103 [a,(pP (.func 106) #[] #[])] fun d=>dZ d fun e=>ak [e]) (ak [bF])
theorem TM{lf:Nat}{r:RT}{a:V}:aG ai gt lf r 68 #[a]=inside (Ky lf r a):=by kernel_rfl
def wi(lf:Nat)(r:RT):Nat->(V->V->V->V->V->V->V->V->V->M V)->V->V->V->V->V->V->V->V->M V
 |0,_,_,_,_,_,_,_,_,_=> .fail
 |fu+1,k,a,b,c,d,e,f,g,h=>aH c d fun i=>ar i (fO ai r b [(ii 2),(ii 2)] fun j=>aC c (ii 1) fun j=>wi lf r fu k a b j d e f g h) (k a b c d e f g h i)
def TN:List Nat:=[0,1,4,6,13,14,15,16]
def wj(lf:Nat)(r:RT):Nat->(V->V->V->V->V->V->M V)->V->V->V->V->V->V->V->V->V->M V
 |0,_,_,_,_,_,_,_,_,_,_=> .fail
 |fu+1,k,a,b,c,d,e,f,g,h,i=>ft c d fun j=>ar j (fO ai r b [(ii 3),(ii 2)] fun l=>bW c (ii 1) fun l=>wj lf r fu k a b l d e f g h i) (k a b c e f g)
def TO:List Nat:=[0,1,4,6,13,14,15,16,21]
def Kz(lf:Nat)(r:RT)(k:(M V))(again:V->V->V->V->V->V->M V):(V->V->V->V->V->V->M V):=fun a b c d e f=>fO ai r b [(ii 0),(ii 1)] fun g=>aC f (ii 1) fun g=>again a b c d e g
def EO(lf:Nat)(r:RT)(k:(M V))(again:V->V->V->V->V->V->M V):(V->V->V->V->V->V->V->V->V->M V):=fun a b c d e f g h i=>wj lf r lf (Kz lf r k again) a b c d e f g h i
def wm(lf:Nat)(r:RT):Nat->(M V)->V->V->V->V->V->V->M V
 |0,_,_,_,_,_,_,_=> .fail
 |fu+1,k,a,b,c,d,e,f=>aH f e fun g=>ar g (aL d f fun h=>ay h fun i=>wi lf r lf (EO lf r k (wm lf r fu k)) a b c i d e f g) (k)
def tH:List Nat:=[0,1,4,13,14,15]
def EP(lf:Nat)(r:RT):(M V):=ak []
def ER(lf:Nat)(r:RT)(a b:V):M V:=aL a (ii 0) fun c=>ay c fun d=>fO ai r b [d,(ii 5)] fun c=>aN a fun c=>wm lf r
 lf (EP lf r) a b d a c (ii 0)
theorem TP{lf:Nat}{r:RT}(K:KT):∀fu,wi lf r fu (fun a b c d e f g h i=>K (.exit 2) (zp [0,1,4,6,13,14,15,16,21] [a,b,c,
 d,e,f,g,h,i]))=fun a b c d e f g h=>aO (cQ 69 (pb 13 615) lf r) TN fu (zp TN [a,b,c,d,e,f,g,h]) K
 |0=>by funext a b c d e f g h;kernel_rfl
 |fu+1=>by
  have ih:=TP (lf:=lf) (r:=r) K fu
  funext a b c d e f g h
  rw[wi]
  simp only[ih]
  kernel_rfl
theorem KA{lf:Nat}{r:RT}(K:KT):∀fu,wj lf r fu (fun a b c d e f=>K (.exit 4) (zp [0,1,4,13,14,15] [a,b,c,d,e,f]))=fun
 a b c d e f g h i=>aO (cQ 69 (pb 14 1639) lf r) TO fu (zp TO [a,b,c,d,e,f,g,h,i]) K
 |0=>by funext a b c d e f g h i;kernel_rfl
 |fu+1=>by
  have ih:=KA (lf:=lf) (r:=r) K fu
  funext a b c d e f g h i
  rw[wj]
  simp only[ih]
  kernel_rfl
theorem TQ{lf:Nat}{r:RT}(K:KT)(fu:Nat):Kz lf r (K (.exit 0) []) (fun a b c d e f=>aO (cQ 69 (pb 5 7) lf r) tH fu
 (zp tH [a,b,c,d,e,f]) K)=(fun a b c d e f=>(iK 69 (pb 5 7) (pb 8 51) tH fu K lf r) (.exit 4) (zp [0,1,4,13,14,15] [a,b,c,d,e,f])):=by kernel_rfl
theorem afz{lf:Nat}{r:RT}(K:KT)(fu:Nat):EO lf r (K (.exit 0) []) (fun a b c d e f=>aO (cQ 69 (pb 5 7) lf r) tH fu
 (zp tH [a,b,c,d,e,f]) K)=(fun a b c d e f g h i=>(iK 69 (pb 5 7) (pb 7 19) tH fu K lf r) (.exit 2) (zp [0,1,4,6,13,14,15,16,21] [a,b,c,d,e,f,g,h,i])):=by
 unfold EO
 simp only[TQ,KA]
 kernel_rfl
theorem TR{lf:Nat}{r:RT}(K:KT):∀fu,wm lf r fu (K (.exit 0) [])=fun a b c d e f=>aO (cQ 69 (pb 5 7) lf r) tH fu (zp tH [a,b,c,d,e,f]) K
 |0=>by funext a b c d e f;kernel_rfl
 |fu+1=>by
  have ih:=TR (lf:=lf) (r:=r) K fu
  funext a b c d e f
  rw[wm]
  simp only[ih,afz,TQ,TP,KA]
  kernel_rfl
theorem afA{lf:Nat}{r:RT}:EP lf r=((tK 69 (pb 4 7) lf r) (.exit 0) []):=by kernel_rfl
theorem TS{lf:Nat}{r:RT}{a b:V}:aG ai gt lf r 69 #[a,b]=inside (ER lf r a b):=by
 unfold ER
 simp only[afA,TR]
 kernel_rfl
def KB(lf:Nat)(r:RT)(a b c:V):M V:=ay c fun d=>eZ .u32 a fun e=>az r 10 [d,e,b] fun f=>ak []
theorem TU{lf:Nat}{r:RT}{a b c:V}:aG ai gt lf r 70 #[a,b,c]=inside (KB lf r a b c):=by kernel_rfl
def KC(lf:Nat)(r:RT)(a:V):M V:=az r 108 [a] fun b=>bm b 0 fun c=>bm b 1 fun d=>bJ d (ii 0) fun b=>ar b (bJ c (ii 1048576) fun e=>
 ar e (az r 109 [a,(ii 0)] fun f=>dZ f fun g=>ak [g]) (ak [bF])) (ak [bF])
theorem TV{lf:Nat}{r:RT}{a:V}:aG ai gt lf r 71 #[a]=inside (KC lf r a):=by kernel_rfl
def KD(lf:Nat)(r:RT)(a:V):M V:=Au a nS fun b=>ar b (ak [nS]) (rz 3 [] 0 [] fun c=>cO 3 1 c a fun d=>ak [d])
theorem TW{lf:Nat}{r:RT}{a:V}:aG ai gt lf r 72 #[a]=inside (KD lf r a):=by kernel_rfl
def KE(lf:Nat)(r:RT)(a b:V):M V:=fw a nP fun c=>ar c (ak [(i3 0),(ii 0),(ii 7)]) (aH b (ii 0) fun d=>ar d (ak [(i3 0),(ii 0),
 (ii 1)]) (aI a fun e=>aE 0 e fun f=>ay f fun g=>aN g fun h=>gH b h fun i=>ar i (ak [(i3 0),(ii 0),(ii 1)]) (aI a fun d=>aE 1 d fun e=>ay e
 fun f=>aL f b fun g=>ay g fun h=>aI a fun j=>aE 0 j fun l=>ay l fun m=>aL m b fun n=>ay n fun o=>ak [h,o,(ii 0)])))
theorem TX{lf:Nat}{r:RT}{a b:V}:aG ai gt lf r 73 #[a,b]=inside (KE lf r a b):=by kernel_rfl
def KF(lf:Nat)(r:RT)(a b c:V):M V:=ay c fun d=>aC d b fun e=>bG c e fun _=>ak []
theorem TY{lf:Nat}{r:RT}{a b c:V}:aG ai gt lf r 74 #[a,b,c]=inside (KF lf r a b c):=by kernel_rfl
def KH(lf:Nat)(r:RT)(a:V):M V:=jP a (ii 0) fun b=>ar b (ak [(ii 0)]) (bW a (ii 1) fun c=>mi c (ii 50) fun d=>aC d (ii 1) fun e=>ak [e])
theorem TZ{lf:Nat}{r:RT}{a:V}:aG ai gt lf r 75 #[a]=inside (KH lf r a):=by kernel_rfl
def KI(lf:Nat)(r:RT)(a b:V):M V:=aH b (ii 0) fun c=>ar c (ak [nS,(ii 1)]) (aN a fun d=>az r 75 [d] fun e=>gH b e fun f=>ar f
 (ak [nS,(ii 1)]) (az r 110 [a,b,(ii 50)] fun c=>ak [c,(ii 0)]))
theorem T0{lf:Nat}{r:RT}{a b:V}:aG ai gt lf r 76 #[a,b]=inside (KI lf r a b):=by kernel_rfl
def wo(lf:Nat)(r:RT):Nat->((V->M V)×(V->V->M V))->V->V->V->V->V->V->V->V->V->M V
 |0,_,_,_,_,_,_,_,_,_,_=> .fail
 |fu+1,k,a,b,c,d,e,f,g,h,i=>aH i h fun j=>ar j (aL g i fun l=>ay l fun m=>aH m (ii 0) fun l=>ar l (k.2 (ii 0) (ii 1)) (aN b fun n=>gH m
  n fun o=>ar o (k.2 (ii 0) (ii 1)) (aL b m fun l=>ay l fun n=>az r 112 [e,n] fun p=>aC i (ii 1) fun e=>wo lf r fu k a b c d p f g h e))) (k.1 e)
def T4:List Nat:=[0,1,4,5,6,11,12,13,14]
def yJ(lf:Nat)(r:RT):(V->M V)×(V->V->M V):=(fun a=>ak [a,(ii 0)],fun a b=>ak [a,b])
def ES(lf:Nat)(r:RT)(a b:V):M V:=az r 111 [b] fun c=>dZ c fun d=>ar d (ak [(ii 0),(ii 1)]) (aN a fun c=>wo lf r lf
 (yJ lf r) a b (ii 0) (ii 0) (ii 0) d a c (ii 0))
theorem T5{lf:Nat}{r:RT}(K:KT):∀fu,wo lf r fu ((fun a=>K (.exit 0) (zp [6] [a]),fun a b=>K .ret (zp [4,5] [a,b])))=fun a b c
 d e f g h i=>aO (cQ 77 (pb 7 23) lf r) T4 fu (zp T4 [a,b,c,d,e,f,g,h,i]) K
 |0=>by funext a b c d e f g h i;kernel_rfl
 |fu+1=>by
  have ih:=T5 (lf:=lf) (r:=r) K fu
  funext a b c d e f g h i
  rw[wo]
  simp only[ih]
  kernel_rfl
theorem afB{lf:Nat}{r:RT}:yJ lf r=((fun a=>(tK 77 (pb 6 23) lf r) (.exit 0) (zp [6] [a]),fun a b=>(tK 77 (pb 6 23) lf r) .ret (zp [4,5] [a,b]))):=by kernel_rfl
theorem T6{lf:Nat}{r:RT}{a b:V}:aG ai gt lf r 77 #[a,b]=inside (ES lf r a b):=by
 unfold ES
 simp only[afB,T5]
 kernel_rfl
def tI(lf:Nat)(r:RT):Nat->(V->V->V->V->V->V->V->V->M V)->V->V->V->V->V->V->V->V->V->V->V->V->V->V->M V
 |0,_,_,_,_,_,_,_,_,_,_,_,_,_,_,_=> .fail
 |fu+1,k,a,b,c,d,e,f,g,h,i,j,l,m,n,o=>aH o n fun p=>ar p (aL m o fun q=>ay q fun s=>bW b (ii 1) fun q=>ft h q fun t=>(fun q=>ar t
  (bW b (ii 1) fun u=>q u) (q h)) fun h=>jO h d fun q=>mi q b fun u=>bJ u f fun v=>(fun q=>ar v (cZ 3 1 (ii 0) fun u=>cO 3 1 g u fun w=>q w) (cZ
  3 1 (ii 15) fun u=>cO 3 1 g u fun w=>q w)) fun g=>aC h s fun q=>aC o (ii 1) fun h=>tI lf r fu k a b c d e f g q i j l m n h) (k a b c d e g i j)
def T7:List Nat:=[0,1,4,5,6,7,8,9,14,15,16,18,19,20]
def ET(lf:Nat)(r:RT)(k:(V->M V))(again:V->V->V->V->V->V->V->M V):(V->V->V->V->V->V->V->V->M V):=fun a b c d e f g h=>cZ 22 1 f fun i=>cO 22 1 e i
 fun j=>aC h (ii 1) fun e=>again a b c d j g e
def tJ(lf:Nat)(r:RT):Nat->(V->M V)->V->V->V->V->V->V->V->M V
 |0,_,_,_,_,_,_,_,_=> .fail
 |fu+1,k,a,b,c,d,e,f,g=>aH g f fun h=>ar h (aN a fun i=>tI lf r lf (ET lf r k (tJ lf r fu k))
  a b c d e g nS (ii 0) f g h a i (ii 0)) (k e)
def AX:List Nat:=[0,1,4,5,6,14,15]
abbrev KJ(lf:Nat)(r:RT)(fu:Nat)(k:(V->M V)):(V->V->V->V->V->V->V->V->M V):=ET lf r k (tJ lf r fu k)
def yK(lf:Nat)(r:RT):(V->M V):=fun a=>ak [a]
def KL(lf:Nat)(r:RT)(a b:V):M V:=az r 113 [b] fun c=>tJ lf r lf (yK lf r) a b nS c nS c (ii 0)
theorem T8{lf:Nat}{r:RT}(K:KT):∀fu,tI lf r fu (fun a b c d e f g h=>K (.exit 2) (zp [0,1,4,5,6,8,14,15] [a,b,
 c,d,e,f,g,h]))=fun a b c d e f g h i j l m n o=>aO (cQ 78 (pb 18 47511) lf r) T7 fu (zp T7 [a,b,c,d,e,f,g,h,i,j,l,m,n,o]) K
 |0=>by funext a b c d e f g h i j l m n o;kernel_rfl
 |fu+1=>by
  have ih:=T8 (lf:=lf) (r:=r) K fu
  funext a b c d e f g h i j l m n o
  rw[tI]
  simp only[ih]
  kernel_rfl
theorem afC{lf:Nat}{r:RT}(K:KT)(fu:Nat):ET lf r (fun a=>K (.exit 0) (zp [6] [a])) (fun a b c d e f g=>aO (cQ 78
 (pb 7 23) lf r) AX fu (zp AX [a,b,c,d,e,f,g]) K)=(fun a b c d e f g h=>(iK 78 (pb 7 23) (pb 10 371) AX fu
 K lf r) (.exit 2) (zp [0,1,4,5,6,8,14,15] [a,b,c,d,e,f,g,h])):=by kernel_rfl
theorem T9{lf:Nat}{r:RT}(K:KT):∀fu,tJ lf r fu (fun a=>K (.exit 0) (zp [6] [a]))=fun a b c d e f g=>aO (cQ 78
 (pb 7 23) lf r) AX fu (zp AX [a,b,c,d,e,f,g]) K
 |0=>by funext a b c d e f g;kernel_rfl
 |fu+1=>by
  have ih:=T9 (lf:=lf) (r:=r) K fu
  funext a b c d e f g
  rw[tJ]
  simp only[ih,afC,T8]
  kernel_rfl
theorem afD{lf:Nat}{r:RT}:yK lf r=(fun a=>(tK 78 (pb 6 23) lf r) (.exit 0) (zp [6] [a])):=by kernel_rfl
theorem afE{lf:Nat}{r:RT}{a b:V}:aG ai gt lf r 78 #[a,b]=inside (KL lf r a b):=by
 unfold KL
 simp only[afD,T9]
 kernel_rfl
def wq(lf:Nat)(r:RT):Nat->(V->M V)->V->V->V->V->V->V->M V
 |0,_,_,_,_,_,_,_=> .fail
 |fu+1,k,a,b,c,d,e,f=>aH f e fun g=>ar g (az r 114 [a,f] fun h=>cZ 3 1 h fun i=>cO 3 1 d i fun j=>aC f (ii 1) fun d=>wq lf r fu k a b c j e d) (k d)
def Ua:List Nat:=[0,1,4,5,7,8]
def EU(lf:Nat)(r:RT):(V->M V):=fun a=>ak [a]
def KM(lf:Nat)(r:RT)(a b:V):M V:=wq lf r lf (EU lf r) a b nS nS b (ii 0)
theorem Ub{lf:Nat}{r:RT}(K:KT):∀fu,wq lf r fu (fun a=>K (.exit 0) (zp [5] [a]))=fun a b c d e f=>aO (cQ 79
 (pb 6 11) lf r) Ua fu (zp Ua [a,b,c,d,e,f]) K
 |0=>by funext a b c d e f;kernel_rfl
 |fu+1=>by
  have ih:=Ub (lf:=lf) (r:=r) K fu
  funext a b c d e f
  rw[wq]
  simp only[ih]
  kernel_rfl
theorem afF{lf:Nat}{r:RT}:EU lf r=(fun a=>(tK 79 (pb 5 11) lf r) (.exit 0) (zp [5] [a])):=by kernel_rfl
theorem afG{lf:Nat}{r:RT}{a b:V}:aG ai gt lf r 79 #[a,b]=inside (KM lf r a b):=by
 unfold KM
 simp only[afF,Ub]
 kernel_rfl
def qm(lf:Nat)(r:RT):Nat->(V->M V)->V->V->V->V->V->V->V->M V
 |0,_,_,_,_,_,_,_,_=> .fail
 |fu+1,k,a,b,c,d,e,f,g=>aH g f fun h=>ar h (aL e g fun i=>ay i fun j=>cZ 3 1 j fun i=>cO 3 1 d i fun l=>aN l fun d=>bJ d (ii 50) fun i
  =>ar i (cZ 22 1 l fun d=>cO 22 1 c d fun i=>aC g (ii 1) fun c=>qm lf r fu k a b i nS e f c) (aC g (ii 1) fun m=>aN a fun n=>bJ m
  n fun o=>ar o (cZ 22 1 l fun d=>cO 22 1 c d fun i=>aC g (ii 1) fun c=>qm lf r fu k a b i nS e f c) (aC g (ii 1) fun d=>qm lf r fu k a b c l e f d))) (k c)
def Uc:List Nat:=[0,2,3,4,7,8,9]
def AY(lf:Nat)(r:RT):(V->M V):=fun a=>ak [a]
def KO(lf:Nat)(r:RT)(a:V):M V:=aN a fun b=>qm lf r lf (AY lf r) a nS nS nS a b (ii 0)
theorem Ud{lf:Nat}{r:RT}(K:KT):∀fu,qm lf r fu (fun a=>K (.exit 0) (zp [3] [a]))=fun a b c d e f g=>aO (cQ 80
 (pb 7 23) lf r) Uc fu (zp Uc [a,b,c,d,e,f,g]) K
 |0=>by funext a b c d e f g;kernel_rfl
 |fu+1=>by
  have ih:=Ud (lf:=lf) (r:=r) K fu
  funext a b c d e f g
  rw[qm]
  simp only[ih]
  kernel_rfl
theorem afH{lf:Nat}{r:RT}:AY lf r=(fun a=>(tK 80 (pb 6 23) lf r) (.exit 0) (zp [3] [a])):=by kernel_rfl
theorem afI{lf:Nat}{r:RT}{a:V}:aG ai gt lf r 80 #[a]=inside (KO lf r a):=by
 unfold KO
 simp only[afH,Ud]
 kernel_rfl
def tL(lf:Nat)(r:RT):Nat->(V->M V)->V->V->V->V->V->V->V->M V
 |0,_,_,_,_,_,_,_,_=> .fail
 |fu+1,k,a,b,c,d,e,f,g=>aH g f fun h=>ar h (aL e g fun i=>ay i fun j=>(aV (az r 115 [a,j] M.ret)).bind fun i=>aL b d fun l=>(aV (ay
  l M.ret)).bind fun m=>(aV (az r 115 [a,m.1] M.ret)).bind fun n=>aH i.1 n.1 fun o=>iy ((!(fH i.2 m.2)&&true)&&true) (ar o (aC g (ii 1) fun d=>
  tL lf r fu k a b c g e f d) (aC g (ii 1) fun i=>tL lf r fu k a b c d e f i))) (k d)
def Ue:List Nat:=[0,1,4,5,8,9,10]
def EV(lf:Nat)(r:RT):(V->M V):=fun a=>ak [a]
def KP(lf:Nat)(r:RT)(a b:V):M V:=aN b fun c=>tL lf r lf (EV lf r) a b (ii 0) (ii 0) b c (ii 0)
theorem Uf{lf:Nat}{r:RT}(K:KT):∀fu,tL lf r fu (fun a=>K (.exit 0) (zp [5] [a]))=fun a b c d e f g=>aO (cQ 81 (pb
 6 11) lf r) Ue fu (zp Ue [a,b,c,d,e,f,g]) K
 |0=>by funext a b c d e f g;kernel_rfl
 |fu+1=>by
  have ih:=Uf (lf:=lf) (r:=r) K fu
  funext a b c d e f g
  rw[tL]
  simp only[ih]
  kernel_rfl
theorem afJ{lf:Nat}{r:RT}:EV lf r=(fun a=>(tK 81 (pb 5 11) lf r) (.exit 0) (zp [5] [a])):=by kernel_rfl
theorem afK{lf:Nat}{r:RT}{a b:V}:aG ai gt lf r 81 #[a,b]=inside (KP lf r a b):=by
 unfold KP
 simp only[afJ,Uf]
 kernel_rfl
def rI(lf:Nat)(r:RT):Nat->(V->V->V->V->V->V->V->M V)->V->V->V->V->V->V->M V
 |0,_,_,_,_,_,_,_=> .fail
 |fu+1,k,a,b,c,d,e,f=>aH f e fun g=>ar g (aL d f fun h=>ay h fun i=>bJ i (ii 0) fun h=>ar h (cZ 3 1 (ii 1) fun i=>cO 3 1 c i fun j=>aC
  f (ii 1) fun c=>rI lf r fu k a b j d e c) (cZ 3 1 i fun j=>cO 3 1 c j fun l=>aC f (ii 1) fun c=>rI lf r fu k a b l d e c)) (k a b c d e f g)
def Ug:List Nat:=[0,2,3,7,8,9]
def wu(lf:Nat)(r:RT):Nat->((M V)×(V->M V))->V->V->V->V->V->V->V->V->M V
 |0,_,_,_,_,_,_,_,_,_=> .fail
 |fu+1,k,a,b,c,d,e,f,g,h=>aH h (ii 100) fun i=>ar i (az r 116 [c] fun j=>az r 117 [j,(ii 1),(ii 20)] fun l=>ar l (k.2 j) (az r 118 [c] fun m
  =>aC h (ii 1) fun c=>wu lf r fu k a b m d e f g c)) (k.1)
def Uh:List Nat:=[0,2,3,7,8,9,10,20]
def EW(lf:Nat)(r:RT):(M V)×(V->M V):=(ak [nS],fun a=>ak [a])
def EX(lf:Nat)(r:RT):(V->V->V->V->V->V->V->M V):=fun a b c d e f g=>wu lf r lf (EW lf r) a b c d e f g (ii 0)
def KQ(lf:Nat)(r:RT)(a:V):M V:=aN a fun b=>rI lf r lf (EX lf r) a nS nS a b (ii 0)
theorem Ui{lf:Nat}{r:RT}(K:KT):∀fu,rI lf r fu (fun a b c d e f g=>K (.exit 0) (zp [0,2,3,7,8,9,10] [a,b,c,d,e,f,
 g]))=fun a b c d e f=>aO (cQ 82 (pb 6 11) lf r) Ug fu (zp Ug [a,b,c,d,e,f]) K
 |0=>by funext a b c d e f;kernel_rfl
 |fu+1=>by
  have ih:=Ui (lf:=lf) (r:=r) K fu
  funext a b c d e f
  rw[rI]
  simp only[ih]
  kernel_rfl
theorem KR{lf:Nat}{r:RT}(K:KT):∀fu,wu lf r fu ((K (.exit 2) [],fun a=>K .ret (zp [2] [a])))=fun a b c d e f g h=>aO
 (cQ 82 (pb 7 23) lf r) Uh fu (zp Uh [a,b,c,d,e,f,g,h]) K
 |0=>by funext a b c d e f g h;kernel_rfl
 |fu+1=>by
  have ih:=KR (lf:=lf) (r:=r) K fu
  funext a b c d e f g h
  rw[wu]
  simp only[ih]
  kernel_rfl
theorem Uj{lf:Nat}{r:RT}:EW lf r=(((tK 82 (pb 6 23) lf r) (.exit 2) [],fun a=>(tK 82 (pb 6 23) lf r) .ret (zp [2] [a]))):=by kernel_rfl
theorem afL{lf:Nat}{r:RT}:EX lf r=(fun a b c d e f g=>(tK 82 (pb 5 11) lf r) (.exit 0) (zp [0,2,3,7,8,9,10] [a,b,c,d,e,f,g])):=by
 unfold EX
 simp only[Uj,KR]
 kernel_rfl
theorem afM{lf:Nat}{r:RT}{a:V}:aG ai gt lf r 82 #[a]=inside (KQ lf r a):=by
 unfold KQ
 simp only[afL,Uj,Ui,KR]
 kernel_rfl
def wx(lf:Nat)(r:RT):Nat->((M V)×(V->M V))->V->V->V->V->M V
 |0,_,_,_,_,_=> .fail
 |fu+1,k,a,b,c,d=>lA a fun e=>aH d e fun f=>ar f (pf a d fun e=>bJ e b fun g=>ar g (k.2 d) (aC d (ii 1) fun e=>wx lf r fu k a b c e)) (k.1)
def Uk:List Nat:=[0,1,4,5]
def EY(lf:Nat)(r:RT):(M V)×(V->M V):=(ak [(ii (-1))],fun a=>ak [a])
def KS(lf:Nat)(r:RT)(a b:V):M V:=wx lf r lf (EY lf r) a b (ii 0) (ii 0)
theorem Ul{lf:Nat}{r:RT}(K:KT):∀fu,wx lf r fu ((K (.exit 0) [],fun a=>K .ret (zp [4] [a])))=fun a b c d=>aO
 (cQ 83 (pb 5 5) lf r) Uk fu (zp Uk [a,b,c,d]) K
 |0=>by funext a b c d;kernel_rfl
 |fu+1=>by
  have ih:=Ul (lf:=lf) (r:=r) K fu
  funext a b c d
  rw[wx]
  simp only[ih]
  kernel_rfl
theorem afN{lf:Nat}{r:RT}:EY lf r=(((tK 83 (pb 4 5) lf r) (.exit 0) [],fun a=>(tK 83 (pb 4 5) lf r) .ret (zp [4] [a]))):=by kernel_rfl
theorem afO{lf:Nat}{r:RT}{a b:V}:aG ai gt lf r 83 #[a,b]=inside (KS lf r a b):=by
 unfold KS
 simp only[afN,Ul]
 kernel_rfl
def Um(lf:Nat)(r:RT)(a b:V):M V:=aC b (ii 1) fun c=>kx a (some b) (some c) fun d=>kx a none (some b) fun e=>aC d e fun f=>aC b
 (ii 1) fun g=>kx a (some g) none fun h=>aC f h fun i=>ak [i]
theorem afP{lf:Nat}{r:RT}{a b:V}:aG ai gt lf r 84 #[a,b]=inside (Um lf r a b):=by kernel_rfl
def tM(lf:Nat)(r:RT):Nat->(V->V->V->V->V->V->V->M V)->V->V->V->V->V->V->M V
 |0,_,_,_,_,_,_,_=> .fail
 |fu+1,k,a,b,c,d,e,f=>gH f (ii 0) fun g=>ar g (pf a f fun h=>bJ h (i1 49) fun i=>As i e fun h=>(fun l=>ar h (aC (ef {data:=
  #[49]}) d fun j=>l j) (aC (ef {data:=#[48]}) d fun j=>l j)) fun d=>ar e (bW f (ii 1) fun e=>tM lf r fu k a b c d i e) (bW
  f (ii 1) fun e=>tM lf r fu k a b c d bF e)) (k a b c d e f g)
def Un:List Nat:=[0,1,4,5,6,7]
def wy(lf:Nat)(r:RT):Nat->(V->M V)->V->V->V->V->V->V->V->M V
 |0,_,_,_,_,_,_,_,_=> .fail
 |fu+1,k,a,b,c,d,e,f,g=>lA d fun h=>aH h b fun i=>ar i (aC d (ef {data:=#[48]}) fun h=>wy lf r fu k a b c h e f g) (k d)
def Uo:List Nat:=[0,1,4,5,6,7,13]
def EZ(lf:Nat)(r:RT):(V->M V):=fun a=>ak [a]
def AZ(lf:Nat)(r:RT):(V->V->V->V->V->V->V->M V):=fun a b c d e f g=>wy lf r lf (EZ lf r) a b c d e f g
def KU(lf:Nat)(r:RT)(a b:V):M V:=lA a fun c=>bW c (ii 1) fun d=>tM lf r lf (AZ lf r) a b
 (ef {data:=#[]}) (ef {data:=#[]}) bT d
theorem Up{lf:Nat}{r:RT}(K:KT):∀fu,tM lf r fu (fun a b c d e f g=>K (.exit 0) (zp [0,1,4,5,6,7,13] [a,b,c,d,e,
 f,g]))=fun a b c d e f=>aO (cQ 85 (pb 7 23) lf r) Un fu (zp Un [a,b,c,d,e,f]) K
 |0=>by funext a b c d e f;kernel_rfl
 |fu+1=>by
  have ih:=Up (lf:=lf) (r:=r) K fu
  funext a b c d e f
  rw[tM]
  simp only[ih]
  kernel_rfl
theorem KV{lf:Nat}{r:RT}(K:KT):∀fu,wy lf r fu (fun a=>K (.exit 2) (zp [5] [a]))=fun a b c d e f g=>aO (cQ 85 (pb
 7 15) lf r) Uo fu (zp Uo [a,b,c,d,e,f,g]) K
 |0=>by funext a b c d e f g;kernel_rfl
 |fu+1=>by
  have ih:=KV (lf:=lf) (r:=r) K fu
  funext a b c d e f g
  rw[wy]
  simp only[ih]
  kernel_rfl
theorem Uq{lf:Nat}{r:RT}:EZ lf r=(fun a=>(tK 85 (pb 6 15) lf r) (.exit 2) (zp [5] [a])):=by kernel_rfl
theorem afQ{lf:Nat}{r:RT}:AZ lf r=(fun a b c d e f g=>(tK 85 (pb 6 23) lf r) (.exit 0) (zp [0,1,4,5,6,7,13] [a,b,c,d,e,f,g])):=by
 unfold AZ
 simp only[Uq,KV]
 kernel_rfl
theorem afR{lf:Nat}{r:RT}{a b:V}:aG ai gt lf r 85 #[a,b]=inside (KU lf r a b):=by
 unfold KU
 simp only[afQ,Uq,Up,KV]
 kernel_rfl
def wz(lf:Nat)(r:RT):Nat->(V->M V)->V->V->V->V->M V
 |0,_,_,_,_,_=> .fail
 |fu+1,k,a,b,c,d=>lA a fun e=>aH d e fun f=>ar f (jO (i3 2) c fun e=>pf a d fun g=>bW g (i1 48) fun h=>eZ .u32 h fun i=>aC e i fun j=>
  aC d (ii 1) fun c=>wz lf r fu k a b j c) (k c)
def Ur:List Nat:=[0,2,3,4]
def E0(lf:Nat)(r:RT):(V->M V):=fun a=>ak [a]
def KW(lf:Nat)(r:RT)(a:V):M V:=wz lf r lf (E0 lf r) a (i3 0) (i3 0) (ii 0)
theorem Us{lf:Nat}{r:RT}(K:KT):∀fu,wz lf r fu (fun a=>K (.exit 0) (zp [3] [a]))=fun a b c d=>aO (cQ 86 (pb 6
 11) lf r) Ur fu (zp Ur [a,b,c,d]) K
 |0=>by funext a b c d;kernel_rfl
 |fu+1=>by
  have ih:=Us (lf:=lf) (r:=r) K fu
  funext a b c d
  rw[wz]
  simp only[ih]
  kernel_rfl
theorem afS{lf:Nat}{r:RT}:E0 lf r=(fun a=>(tK 86 (pb 5 11) lf r) (.exit 0) (zp [3] [a])):=by kernel_rfl
theorem afT{lf:Nat}{r:RT}{a:V}:aG ai gt lf r 86 #[a]=inside (KW lf r a):=by
 unfold KW
 simp only[afS,Us]
 kernel_rfl
def KX(lf:Nat)(r:RT)(a:V):M V:=gH a (ii 3) fun b=>ar b (jP a (ii 258) fun c=>ak [c]) (ak [bF])
theorem Ut{lf:Nat}{r:RT}{a:V}:aG ai gt lf r 91 #[a]=inside (KX lf r a):=by kernel_rfl
def yL(lf:Nat)(r:RT):Nat->(V->V->M V)->V->V->V->M V
 |0,_,_,_,_=> .fail
 |fu+1,k,a,b,c=>aH c (ii 6) fun d=>ar d (gx 6 b c fun e=>bG e c fun _=>aC c (ii 1) fun e=>yL lf r fu k a b e) (k a b)
def Uu:List Nat:=[0,1,3]
def E1(lf:Nat)(r:RT):(V->V->M V):=fun a b=>fa 6 b fun c=>fb 6 a c fun _=>fa 6 a fun b=>ak [b]
def E2(lf:Nat)(r:RT):M V:=iW 132 Ed fun a=>iW 132 Ed fun b=>yL lf r lf (E1 lf r) a b (ii 0)
theorem Uv{lf:Nat}{r:RT}(K:KT):∀fu,yL lf r fu (fun a b=>K (.exit 0) (zp [0,1] [a,b]))=fun a b c=>aO (cQ 92 (pb 6 11) lf
 r) Uu fu (zp Uu [a,b,c]) K
 |0=>by funext a b c;kernel_rfl
 |fu+1=>by
  have ih:=Uv (lf:=lf) (r:=r) K fu
  funext a b c
  rw[yL]
  simp only[ih]
  kernel_rfl
theorem afU{lf:Nat}{r:RT}:E1 lf r=(fun a b=>(tK 92 (pb 5 11) lf r) (.exit 0) (zp [0,1] [a,b])):=by kernel_rfl
theorem Uw{lf:Nat}{r:RT}:aG ai gt lf r 92 #[]=inside (E2 lf r):=by
 unfold E2
 simp only[afU,Uv]
 kernel_rfl
def Ux(lf:Nat)(r:RT)(a b:V):M V:=fw a nP fun c=>ar c (ak [(ii 0),(ii 7)]) (fw b nP fun d=>ar d (ak [(ii 0),(ii 7)]) (az r 24
 [b] fun c=>az r 120 [a,b] fun e=>bm e 0 fun f=>bm e 1 fun g=>dO g (ii 0) fun e=>ar e (az r 21 [b,c] fun h=>ak [f,g]) (ak [f,g])))
theorem afV{lf:Nat}{r:RT}{a b:V}:aG ai gt lf r 93 #[a,b]=inside (Ux lf r a b):=by kernel_rfl
def Uy(lf:Nat)(r:RT)(a b:V):M V:=fw a nP fun c=>ar c (ak [(ii 7)]) (fw b nP fun d=>ar d (ak [(ii 7)]) (az r 59 [a] fun e=>
 ar e (ak [(ii 7)]) (aI a fun c=>aE 9 c fun d=>ay d fun f=>ar f (ak [(ii 25)]) (az r 24 [b] fun c=>aI a fun d=>aE 1 d fun g=>ay g fun h=>bJ
 h (ii 0) fun i=>(fun d=>ar i (d (pP (sq 122) #[a] #[])) (d (pP (sq 121) #[a] #[]))) fun d=>fO ai r d [b] fun g=>bJ g
 (ii 3) fun h=>ar h (az r 21 [b,c] fun j=>ak [g]) (ak [g])))))
theorem afW{lf:Nat}{r:RT}{a b:V}:aG ai gt lf r 94 #[a,b]=inside (Uy lf r a b):=by kernel_rfl
def Uz(lf:Nat)(r:RT)(a b:V):M V:=fw a nP fun c=>ar c (ak [(ii 7)]) (fw b nP fun d=>ar d (ak [(ii 7)]) (az r 96 [a] fun e=>
 ar e (ak [(ii 7)]) (aI a fun c=>aE 3 c fun d=>ay d fun f=>ar f (ak [(ii 22)]) (az r 24 [b] fun c=>az r 123 [a,b] fun d=>bJ d (ii 3) fun g=>ar
 g (az r 21 [b,c] fun h=>ak [d]) (ak [d])))))
theorem afX{lf:Nat}{r:RT}{a b:V}:aG ai gt lf r 95 #[a,b]=inside (Uz lf r a b):=by kernel_rfl
def UA(lf:Nat)(r:RT)(a:V):M V:=vo a nP fun b=>ar b (aI a fun c=>aE 2 c fun d=>ay d fun e=>aN e fun f=>aI a fun g=>aE 0
 g fun h=>ay h fun i=>bJ f i fun j=>ak [j]) (ak [bF])
theorem afY{lf:Nat}{r:RT}{a:V}:aG ai gt lf r 96 #[a]=inside (UA lf r a):=by kernel_rfl
def UB(lf:Nat)(r:RT)(a:V):M V:=fw a nP fun b=>ar b (ak [nS]) (aI a fun c=>aE 2 c fun d=>ay d fun e=>az r 72 [e] fun f=>ak [f])
theorem afZ{lf:Nat}{r:RT}{a:V}:aG ai gt lf r 97 #[a]=inside (UB lf r a):=by kernel_rfl
def wA(lf:Nat)(r:RT):Nat->((V->M V)×(V->V->M V))->V->V->V->V->V->V->V->V->V->M V
 |0,_,_,_,_,_,_,_,_,_,_=> .fail
 |fu+1,k,a,b,c,d,e,f,g,h,i=>aH i h fun j=>ar j (aL g i fun l=>ay l fun m=>aH m (ii 0) fun l=>ar l (k.2 nS (ii 1)) (gH m b fun n=>ar n
  (k.2 nS (ii 1)) (aL e m fun l=>ay l fun o=>aC o (ii 1) fun p=>aL e m fun q=>bG q p fun _=>aC i (ii 1) fun l=>wA lf r fu k a b c d e f g h l))) (k.1 e)
def UC:List Nat:=[0,1,4,5,6,14,17,18,19]
def yM(lf:Nat)(r:RT):(V->M V)×(V->V->M V):=(fun a=>ak [a,(ii 0)],fun a b=>ak [a,b])
def A0(lf:Nat)(r:RT)(a b:V):M V:=aH b (ii 3) fun c=>ar c (ak [nS,(ii 1)]) (ft b (ii 258) fun d=>ar d (ak [nS,(ii 1)]) (jx 3 [(ii
 0)] b b fun c=>aN a fun e=>wA lf r lf (yM lf r) a b nS (ii 0) c d a e (ii 0)))
theorem UD{lf:Nat}{r:RT}(K:KT):∀fu,wA lf r fu ((fun a=>K (.exit 0) (zp [6] [a]),fun a b=>K .ret (zp [4,5] [a,b])))=fun a
 b c d e f g h i=>aO (cQ 98 (pb 7 23) lf r) UC fu (zp UC [a,b,c,d,e,f,g,h,i]) K
 |0=>by funext a b c d e f g h i;kernel_rfl
 |fu+1=>by
  have ih:=UD (lf:=lf) (r:=r) K fu
  funext a b c d e f g h i
  rw[wA]
  simp only[ih]
  kernel_rfl
theorem af0{lf:Nat}{r:RT}:yM lf r=((fun a=>(tK 98 (pb 6 23) lf r) (.exit 0) (zp [6] [a]),fun a b=>(tK 98 (pb 6 23) lf r) .ret (zp [4,5] [a,b]))):=by kernel_rfl
theorem KY{lf:Nat}{r:RT}{a b:V}:aG ai gt lf r 98 #[a,b]=inside (A0 lf r a b):=by
 unfold A0
 simp only[af0,UD]
 kernel_rfl
def wB(lf:Nat)(r:RT):Nat->(V->M V)->V->V->V->V->V->M V
 |0,_,_,_,_,_,_=> .fail
 |fu+1,k,a,b,c,d,e=>aH e d fun f=>ar f (az r 76 [a,e] fun g=>bm g 0 fun h=>bm g 1 fun i=>cZ 22 1 h fun g=>cO 22 1 c g fun i=>aC e (ii 1)
  fun c=>wB lf r fu k a b i d c) (k c)
def UE:List Nat:=[0,2,3,9,10]
def E3(lf:Nat)(r:RT):(V->M V):=fun a=>ak [a]
def E4(lf:Nat)(r:RT)(a:V):M V:=aN a fun b=>az r 75 [b] fun c=>wB lf r lf (E3 lf r) a nS nS c (ii 0)
theorem UF{lf:Nat}{r:RT}(K:KT):∀fu,wB lf r fu (fun a=>K (.exit 0) (zp [3] [a]))=fun a b c d e=>aO (cQ 99 (pb 6
 11) lf r) UE fu (zp UE [a,b,c,d,e]) K
 |0=>by funext a b c d e;kernel_rfl
 |fu+1=>by
  have ih:=UF (lf:=lf) (r:=r) K fu
  funext a b c d e
  rw[wB]
  simp only[ih]
  kernel_rfl
theorem af1{lf:Nat}{r:RT}:E3 lf r=(fun a=>(tK 99 (pb 5 11) lf r) (.exit 0) (zp [3] [a])):=by kernel_rfl
theorem UG{lf:Nat}{r:RT}{a:V}:aG ai gt lf r 99 #[a]=inside (E4 lf r a):=by
 unfold E4
 simp only[af1,UF]
 kernel_rfl
def wC(lf:Nat)(r:RT):Nat->(V->V->V->V->V->V->V->V->M V)->V->V->V->V->V->V->V->M V
 |0,_,_,_,_,_,_,_,_=> .fail
 |fu+1,k,a,b,c,d,e,f,g=>aH g f fun h=>ar h (aN a fun i=>jx 3 [(ii 0)] i i fun j=>aL e g fun l=>bG l j fun _=>aC g (ii 1) fun i=>
  wC lf r fu k a b c d e f i) (k a b c d e f g h)
def UH:List Nat:=[0,1,4,5,6,18,19]
def tN(lf:Nat)(r:RT):Nat->(V->V->V->V->V->V->V->V->V->V->V->V->V->M V)->V->V->V->V->V->V->V->V->V->V->V->V->V->V->V->V->V->V->M V
 |0,_,_,_,_,_,_,_,_,_,_,_,_,_,_,_,_,_,_,_=> .fail
 |fu+1,k,a,b,c,d,e,f,g,h,i,j,l,m,n,o,p,q,s,t=>aH t s fun u=>ar u (dO t i fun v=>ar v (aL e t fun w=>ay w fun x=>aL x g fun y=>
  bG y (ii 15) fun _=>aC t (ii 1) fun w=>tN lf r fu k a b c d e f g h i j l m n o p q s w) (aC t (ii 1) fun w=>tN lf r fu k a b c d
  e f g h i j l m n o p q s w)) (k a b c d e f h j l m n o p)
def UI:List Nat:=[0,1,4,5,6,8,9,10,11,18,19,20,29,30,31,32,42,43]
def E5(lf:Nat)(r:RT)(k:(V->M V))(again:V->V->V->V->V->V->V->V->V->V->V->V->M V):(V->V->V->V->V->V->V->V->V->V->V->V->V->M V):=fun a b c d e f g h i j l m n=>aC f
 g fun o=>bW b (ii 1) fun p=>te o p fun q=>aC n (ii 1) fun f=>again a b c d e q h i j l m f
def tO(lf:Nat)(r:RT):Nat->(V->M V)->V->V->V->V->V->V->V->V->V->V->V->V->M V
 |0,_,_,_,_,_,_,_,_,_,_,_,_,_=> .fail
 |fu+1,k,a,b,c,d,e,f,g,h,i,j,l,m=>aH m l fun n=>ar n (aL j m fun o=>ay o fun p=>jO f d fun o=>mi o b fun q=>aN e fun o=>
  tN lf r lf (E5 lf r k (tO lf r fu k)) a b c d e f m p q g h i j l m n o (ii 0)) (k e)
def A1:List Nat:=[0,1,4,5,6,8,18,19,20,29,30,31]
abbrev UJ(lf:Nat)(r:RT)(fu:Nat)(k:(V->M V)):(V->V->V->V->V->V->V->V->V->V->V->V->V->M V):=E5 lf r k (tO lf r fu k)
def A2(lf:Nat)(r:RT):(V->M V):=fun a=>ak [a]
def A3(lf:Nat)(r:RT):(V->V->V->V->V->V->V->V->M V):=fun a b c d e f g h=>aN a fun i=>tO lf r lf (A2 lf r) a b c d e (ii 0) f g h a i (ii 0)
def E6(lf:Nat)(r:RT)(a b:V):M V:=az r 124 [b] fun c=>jx 22 [nS] c c fun d=>aN d fun e=>wC lf r lf (A3 lf r) a b nS c d e (ii 0)
theorem UK{lf:Nat}{r:RT}(K:KT):∀fu,wC lf r fu (fun a b c d e f g h=>K (.exit 0) (zp [0,1,4,5,6,18,19,20] [a,b,c,d,
 e,f,g,h]))=fun a b c d e f g=>aO (cQ 100 (pb 7 23) lf r) UH fu (zp UH [a,b,c,d,e,f,g]) K
 |0=>by funext a b c d e f g;kernel_rfl
 |fu+1=>by
  have ih:=UK (lf:=lf) (r:=r) K fu
  funext a b c d e f g
  rw[wC]
  simp only[ih]
  kernel_rfl
theorem UL{lf:Nat}{r:RT}(K:KT):∀fu,tN lf r fu (fun a b c d e f g h i j l m n=>K (.exit 4) (zp [0,1,4,5,6,8,10,18,19,
 20,29,30,31] [a,b,c,d,e,f,g,h,i,j,l,m,n]))=fun a b c d e f g h i j l m n o p q s t=>aO (cQ 100 (pb 19 91743) lf r) UI fu (zp
 UI [a,b,c,d,e,f,g,h,i,j,l,m,n,o,p,q,s,t]) K
 |0=>by funext a b c d e f g h i j l m n o p q s t;kernel_rfl
 |fu+1=>by
  have ih:=UL (lf:=lf) (r:=r) K fu
  funext a b c d e f g h i j l m n o p q s t
  rw[tN]
  simp only[ih]
  kernel_rfl
theorem af2{lf:Nat}{r:RT}(K:KT)(fu:Nat):E5 lf r (fun a=>K (.exit 2) (zp [6] [a])) (fun a b c d e f g h i j l m=>aO (cQ
 100 (pb 9 95) lf r) A1 fu (zp A1 [a,b,c,d,e,f,g,h,i,j,l,m]) K)=(fun a b c d e f g h i j l m n=>(iK 100 (pb 9 95) (pb 9 179)
 A1 fu K lf r) (.exit 4) (zp [0,1,4,5,6,8,10,18,19,20,29,30,31] [a,b,c,d,e,f,g,h,i,j,l,m,n])):=by kernel_rfl
theorem KZ{lf:Nat}{r:RT}(K:KT):∀fu,tO lf r fu (fun a=>K (.exit 2) (zp [6] [a]))=fun a b c d e f g h i j l m=>aO (cQ 100
 (pb 9 95) lf r) A1 fu (zp A1 [a,b,c,d,e,f,g,h,i,j,l,m]) K
 |0=>by funext a b c d e f g h i j l m;kernel_rfl
 |fu+1=>by
  have ih:=KZ (lf:=lf) (r:=r) K fu
  funext a b c d e f g h i j l m
  rw[tO]
  simp only[ih,af2,UL]
  kernel_rfl
theorem UM{lf:Nat}{r:RT}:A2 lf r=(fun a=>(tK 100 (pb 8 95) lf r) (.exit 2) (zp [6] [a])):=by kernel_rfl
theorem af3{lf:Nat}{r:RT}:A3 lf r=(fun a b c d e f g h=>(tK 100 (pb 6 23) lf r) (.exit 0) (zp [0,1,4,5,6,18,19,20] [a,b,c,d,e,f,g,h])):=by
 unfold A3
 simp only[UM,KZ]
 kernel_rfl
theorem UN{lf:Nat}{r:RT}{a b:V}:aG ai gt lf r 100 #[a,b]=inside (E6 lf r a b):=by
 unfold E6
 simp only[af3,UM,UK,KZ]
 kernel_rfl
def wD(lf:Nat)(r:RT):Nat->(V->V->V->V->V->V->V->V->V->V->M V)->V->V->V->V->V->V->V->V->V->M V
 |0,_,_,_,_,_,_,_,_,_,_=> .fail
 |fu+1,k,a,b,c,d,e,f,g,h,i=>aH i h fun j=>ar j (jx 3 [(ii 0)] c c fun l=>aL g i fun m=>bG m l fun _=>aC i (ii 1) fun l=>wD
  lf r fu k a b c d e f g h l) (k a b c d e f g h i j)
def UO:List Nat:=[0,1,2,6,7,8,9,27,28]
def wE(lf:Nat)(r:RT):Nat->(V->V->V->V->V->V->V->V->V->V->V->V->V->V->M V)->V->V->V->V->V->V->V->V->V->V->V->V->V->M V
 |0,_,_,_,_,_,_,_,_,_,_,_,_,_,_=> .fail
 |fu+1,k,a,b,c,d,e,f,g,h,i,j,l,m,n=>aH n m fun o=>ar o (aL l n fun p=>ay p fun q=>az r 125 [q,b] fun p=>cZ 3 1 p fun s=>cO 3 1 f s
  fun t=>az r 98 [q,c] fun f=>bm f 0 fun s=>bm f 1 fun u=>aL g p fun f=>ay f fun u=>az r 126 [u,s] fun v=>bm v 0 fun w=>bm v 1 fun x=>aL g
  p fun f=>bG f w fun _=>aC n (ii 1) fun f=>wE lf r fu k a b c d e t g h i j l m f) (k a b c d e f g h i j l m n o)
def UP:List Nat:=[0,1,2,6,7,8,9,27,28,29,37,38,39]
def wF(lf:Nat)(r:RT):Nat->(V->V->M V)->V->V->V->V->V->V->V->V->V->V->V->V->V->V->V->V->V->V->M V
 |0,_,_,_,_,_,_,_,_,_,_,_,_,_,_,_,_,_,_,_=> .fail
 |fu+1,k,a,b,c,d,e,f,g,h,i,j,l,m,n,o,p,q,s,t=>aH t s fun u=>ar u (aL q t fun v=>ay v fun w=>az r 127 [w] fun v=>bm v 0 fun x=>
  bm v 1 fun y=>cZ 22 1 x fun v=>cO 22 1 h v fun y=>aC t (ii 1) fun h=>wF lf r fu k a b c d e f g y i j l m n o p q s h) (k f h)
def UQ:List Nat:=[0,1,2,6,7,8,9,18,27,28,29,37,38,39,40,70,71,72]
def E7(lf:Nat)(r:RT):(V->V->M V):=fun a b=>ak [a,b]
def A4(lf:Nat)(r:RT):(V->V->V->V->V->V->V->V->V->V->V->V->V->V->M V):=fun a b c d e f g h i j l m n o=>aN g fun p=>wF lf r lf
 (E7 lf r) a b c d e f g nS h i j l m n o g p (ii 0)
def A5(lf:Nat)(r:RT):(V->V->V->V->V->V->V->V->V->V->M V):=fun a b c d e f g h i j=>aN a fun l=>wE lf r lf (A4 lf r) a b c d e f g h i j a l (ii 0)
def E8(lf:Nat)(r:RT)(a b c:V):M V:=aN b fun d=>jx 22 [nS] d d fun e=>aN e fun d=>wD lf r lf (A5 lf r) a b c nS nS nS e d (ii 0)
theorem UR{lf:Nat}{r:RT}(K:KT):∀fu,wD lf r fu (fun a b c d e f g h i j=>K (.exit 0) (zp [0,1,2,6,7,8,9,27,28,29] [a,
 b,c,d,e,f,g,h,i,j]))=fun a b c d e f g h i=>aO (cQ 101 (pb 7 23) lf r) UO fu (zp UO [a,b,c,d,e,f,g,h,i]) K
 |0=>by funext a b c d e f g h i;kernel_rfl
 |fu+1=>by
  have ih:=UR (lf:=lf) (r:=r) K fu
  funext a b c d e f g h i
  rw[wD]
  simp only[ih]
  kernel_rfl
theorem K0{lf:Nat}{r:RT}(K:KT):∀fu,wE lf r fu (fun a b c d e f g h i j l m n o=>K (.exit 2) (zp [0,1,2,6,7,8,9,27,28,
 29,37,38,39,40] [a,b,c,d,e,f,g,h,i,j,l,m,n,o]))=fun a b c d e f g h i j l m n=>aO (cQ 101 (pb 8 47) lf r) UP fu (zp
 UP [a,b,c,d,e,f,g,h,i,j,l,m,n]) K
 |0=>by funext a b c d e f g h i j l m n;kernel_rfl
 |fu+1=>by
  have ih:=K0 (lf:=lf) (r:=r) K fu
  funext a b c d e f g h i j l m n
  rw[wE]
  simp only[ih]
  kernel_rfl
theorem K1{lf:Nat}{r:RT}(K:KT):∀fu,wF lf r fu (fun a b=>K (.exit 4) (zp [8,18] [a,b]))=fun a b c d e f g h i j l m n o p q
 s t=>aO (cQ 101 (pb 10 191) lf r) UQ fu (zp UQ [a,b,c,d,e,f,g,h,i,j,l,m,n,o,p,q,s,t]) K
 |0=>by funext a b c d e f g h i j l m n o p q s t;kernel_rfl
 |fu+1=>by
  have ih:=K1 (lf:=lf) (r:=r) K fu
  funext a b c d e f g h i j l m n o p q s t
  rw[wF]
  simp only[ih]
  kernel_rfl
theorem US{lf:Nat}{r:RT}:E7 lf r=(fun a b=>(tK 101 (pb 9 191) lf r) (.exit 4) (zp [8,18] [a,b])):=by kernel_rfl
theorem UT{lf:Nat}{r:RT}:A4 lf r=(fun a b c d e f g h i j l m n o=>(tK 101 (pb 7 47) lf r) (.exit 2) (zp [0,1,2,6,7,8,9,
 27,28,29,37,38,39,40] [a,b,c,d,e,f,g,h,i,j,l,m,n,o])):=by
 unfold A4
 simp only[US,K1]
 kernel_rfl
theorem af4{lf:Nat}{r:RT}:A5 lf r=(fun a b c d e f g h i j=>(tK 101 (pb 6 23) lf r) (.exit 0) (zp [0,1,2,6,7,8,9,27,28,29] [a,b,c,d,e,f,g,h,i,j])):=by
 unfold A5
 simp only[UT,K0]
 kernel_rfl
theorem UU{lf:Nat}{r:RT}{a b c:V}:aG ai gt lf r 101 #[a,b,c]=inside (E8 lf r a b c):=by
 unfold E8
 simp only[af4,UT,US,UR,K0,K1]
 kernel_rfl
def K2(lf:Nat)(r:RT)(a:V):M V:=gH a (ii 2) fun b=>ar b (jP a (ii 6) fun c=>ak [c]) (ak [bF])
theorem UW{lf:Nat}{r:RT}{a:V}:aG ai gt lf r 102 #[a]=inside (K2 lf r a):=by kernel_rfl
def A6(lf:Nat)(r:RT)(a b:V):M V:=az r 128 [a,b] fun c=>gH c (ii 0) fun d=>ak [d]
theorem E9{lf:Nat}{r:RT}{a b:V}:aG ai gt lf r 103 #[a,b]=inside (A6 lf r a b):=by kernel_rfl
def K4(lf:Nat)(r:RT)(a b:V):M V:=aH a (ii 0) fun c=>ar c (ak [bT]) (ay b fun d=>gH a d fun e=>ak [e])
theorem UX{lf:Nat}{r:RT}{a b:V}:aG ai gt lf r 104 #[a,b]=inside (K4 lf r a b):=by kernel_rfl
def wG(lf:Nat)(r:RT):Nat->(V->V->M V)->V->V->V->V->M V
 |0,_,_,_,_,_=> .fail
 |fu+1,k,a,b,c,d=>aI a fun e=>gx 6 e d fun f=>ay f fun g=>dO g b fun h=>ar h (aC d (ii 1) fun e=>wG lf r fu k a b c e) (k a d)
def UY:List Nat:=[0,1,4,5]
def E'(lf:Nat)(r:RT):(V->V->M V):=fun a b=>az r 129 [a,b] fun c=>ak [b]
def Fa(lf:Nat)(r:RT)(a b:V):M V:=wG lf r lf (E' lf r) a b (ii 0) (ii 0)
theorem UZ{lf:Nat}{r:RT}(K:KT):∀fu,wG lf r fu (fun a b=>K (.exit 0) (zp [0,5] [a,b]))=fun a b c d=>aO (cQ 105
 (pb 5 3) lf r) UY fu (zp UY [a,b,c,d]) K
 |0=>by funext a b c d;kernel_rfl
 |fu+1=>by
  have ih:=UZ (lf:=lf) (r:=r) K fu
  funext a b c d
  rw[wG]
  simp only[ih]
  kernel_rfl
theorem af5{lf:Nat}{r:RT}:E' lf r=(fun a b=>(tK 105 (pb 4 3) lf r) (.exit 0) (zp [0,5] [a,b])):=by kernel_rfl
theorem U0{lf:Nat}{r:RT}{a b:V}:aG ai gt lf r 105 #[a,b]=inside (Fa lf r a b):=by
 unfold Fa
 simp only[af5,UZ]
 kernel_rfl
def K5(lf:Nat)(r:RT)(a:V):M V:=az r 107 [a] fun b=>dZ b fun c=>ak [c]
theorem U3{lf:Nat}{r:RT}{a:V}:aG ai gt lf r 106 #[a]=inside (K5 lf r a):=by kernel_rfl
def K7(lf:Nat)(r:RT)(a:V):M V:=gH a (ii 1) fun b=>ar b (jP a (ii 20) fun c=>ak [c]) (ak [bF])
theorem U4{lf:Nat}{r:RT}{a:V}:aG ai gt lf r 107 #[a]=inside (K7 lf r a):=by kernel_rfl
def wH(lf:Nat)(r:RT):Nat->(V->M V)->V->V->V->V->V->V->V->V->M V
 |0,_,_,_,_,_,_,_,_,_=> .fail
 |fu+1,k,a,b,c,d,e,f,g,h=>aH h g fun i=>ar i (aL f h fun j=>ay j fun l=>bW (ii 20) l fun j=>td (ii 1) j fun m=>aC d m fun n=>aC h (ii
  1) fun d=>wH lf r fu k a b c n e f g d) (k d)
def U5:List Nat:=[0,2,3,4,14,15,16,17]
def Fb(lf:Nat)(r:RT):(V->M V):=fun a=>ak [a,(ii 0)]
def Fc(lf:Nat)(r:RT)(a:V):M V:=aN a fun b=>ft b (ii 258) fun c=>ar c (ak [(ii 0),(ii 1)]) (az r 130 [a,(ii 0),(ii 20)] fun d=>dZ d
 fun e=>ar e (ak [(ii 0),(ii 1)]) (aN a fun b=>wH lf r lf (Fb lf r) a (ii 0) (ii 0) (ii 0) e a b (ii 0)))
theorem U6{lf:Nat}{r:RT}(K:KT):∀fu,wH lf r fu (fun a=>K (.exit 0) (zp [4] [a]))=fun a b c d e f g h=>aO (cQ 108 (pb 7 23)
 lf r) U5 fu (zp U5 [a,b,c,d,e,f,g,h]) K
 |0=>by funext a b c d e f g h;kernel_rfl
 |fu+1=>by
  have ih:=U6 (lf:=lf) (r:=r) K fu
  funext a b c d e f g h
  rw[wH]
  simp only[ih]
  kernel_rfl
theorem af6{lf:Nat}{r:RT}:Fb lf r=(fun a=>(tK 108 (pb 6 23) lf r) (.exit 0) (zp [4] [a])):=by kernel_rfl
theorem U7{lf:Nat}{r:RT}{a:V}:aG ai gt lf r 108 #[a]=inside (Fc lf r a):=by
 unfold Fc
 simp only[af6,U6]
 kernel_rfl
def K9(lf:Nat)(r:RT)(a b:V):M V:=az r 64 [a,b] fun c=>gH c (ii 0) fun d=>ak [d]
theorem U8{lf:Nat}{r:RT}{a b:V}:aG ai gt lf r 109 #[a,b]=inside (K9 lf r a b):=by kernel_rfl
def K'(lf:Nat)(r:RT)(a b c:V):M V:=jO b c fun d=>aN a fun e=>aC b (ii 1) fun f=>jO f c fun g=>te e g fun h=>rA 3 1 a (some d)
 (some h) fun i=>az r 72 [i] fun j=>ak [j]
theorem U9{lf:Nat}{r:RT}{a b c:V}:aG ai gt lf r 110 #[a,b,c]=inside (K' lf r a b c):=by kernel_rfl
def La(lf:Nat)(r:RT)(a:V):M V:=az r 103 [a,(pP (.func 131) #[] #[])] fun b=>dZ b fun c=>ak [c]
theorem U'{lf:Nat}{r:RT}{a:V}:aG ai gt lf r 111 #[a]=inside (La lf r a):=by kernel_rfl
def Lb(lf:Nat)(r:RT)(a b:V):M V:=aC a b fun c=>te c (ii 1099511627776) fun d=>ak [d]
theorem Va{lf:Nat}{r:RT}{a b:V}:aG ai gt lf r 112 #[a,b]=inside (Lb lf r a b):=by kernel_rfl
def Vb(lf:Nat)(r:RT)(a:V):M V:=aH a (ii 200) fun b=>ar b (ak [(ii 2)]) (aH a (ii 600) fun c=>ar c (ak [(ii 3)]) (aH a (ii
 1200) fun d=>ar d (ak [(ii 4)]) (aH a (ii 2400) fun e=>ar e (ak [(ii 5)]) (ak [(ii 6)]))))
theorem af7{lf:Nat}{r:RT}{a:V}:aG ai gt lf r 113 #[a]=inside (Vb lf r a):=by kernel_rfl
def tP(lf:Nat)(r:RT):Nat->(V->M V)->V->V->V->V->V->V->V->M V
 |0,_,_,_,_,_,_,_,_=> .fail
 |fu+1,k,a,b,c,d,e,f,g=>aH g f fun h=>ar h (aL e g fun i=>ay i fun j=>bJ b j fun i=>ar i (aC d (ii 1) fun l=>aC g (ii 1) fun d=>
  tP lf r fu k a b c l e f d) (aC g (ii 1) fun l=>tP lf r fu k a b c d e f l)) (k d)
def Vc:List Nat:=[0,1,4,5,8,9,10]
def Fe(lf:Nat)(r:RT):(V->M V):=fun a=>ak [a]
def Ld(lf:Nat)(r:RT)(a b:V):M V:=aN a fun c=>tP lf r lf (Fe lf r) a b (ii 0) (ii 0) a c (ii 0)
theorem Vd{lf:Nat}{r:RT}(K:KT):∀fu,tP lf r fu (fun a=>K (.exit 0) (zp [5] [a]))=fun a b c d e f g=>aO (cQ 114
 (pb 6 11) lf r) Vc fu (zp Vc [a,b,c,d,e,f,g]) K
 |0=>by funext a b c d e f g;kernel_rfl
 |fu+1=>by
  have ih:=Vd (lf:=lf) (r:=r) K fu
  funext a b c d e f g
  rw[tP]
  simp only[ih]
  kernel_rfl
theorem af8{lf:Nat}{r:RT}:Fe lf r=(fun a=>(tK 114 (pb 5 11) lf r) (.exit 0) (zp [5] [a])):=by kernel_rfl
theorem af9{lf:Nat}{r:RT}{a b:V}:aG ai gt lf r 114 #[a,b]=inside (Ld lf r a b):=by
 unfold Ld
 simp only[af8,Vd]
 kernel_rfl
def wI(lf:Nat)(r:RT):Nat->(V->V->V->V->V->V->V->M V)->V->V->V->V->V->V->V->V->V->V->V->V->M V
 |0,_,_,_,_,_,_,_,_,_,_,_,_,_=> .fail
 |fu+1,k,a,b,c,d,e,f,g,h,i,j,l,m=>aH m l fun n=>ar n (aC d f fun o=>az r 133 [o] fun p=>aC m (ii 1) fun d=>wI lf r fu k
  a b c p e f g h i j l d) (k a b c d g h i)
def Ve:List Nat:=[0,1,4,5,6,7,8,9,10,11,17,18]
def Ff(lf:Nat)(r:RT)(k:(V->M V))(again:V->V->V->V->V->V->V->M V):(V->V->V->V->V->V->V->M V):=fun a b c d e f g=>aC g (ii 1) fun h=>again a b c d e f h
def tQ(lf:Nat)(r:RT):Nat->(V->M V)->V->V->V->V->V->V->V->M V
 |0,_,_,_,_,_,_,_,_=> .fail
 |fu+1,k,a,b,c,d,e,f,g=>aH g f fun h=>ar h (aL e g fun i=>ay i fun j=>az r 114 [a,g] fun i=>wI lf r lf (Ff
  lf r k (tQ lf r fu k)) a b c d g j e f g h i (ii 0)) (k d)
def A7:List Nat:=[0,1,4,5,8,9,10]
abbrev Vf(lf:Nat)(r:RT)(fu:Nat)(k:(V->M V)):(V->V->V->V->V->V->V->M V):=Ff lf r k (tQ lf r fu k)
def A8(lf:Nat)(r:RT):(V->M V):=fun a=>ak [a]
def Lg(lf:Nat)(r:RT)(a b:V):M V:=aN b fun c=>tQ lf r lf (A8 lf r) a b (ii 0) (ii 0) b c (ii 0)
theorem Vg{lf:Nat}{r:RT}(K:KT):∀fu,wI lf r fu (fun a b c d e f g=>K (.exit 2) (zp [0,1,4,5,8,9,10] [a,b,c,d,e,
 f,g]))=fun a b c d e f g h i j l m=>aO (cQ 115 (pb 14 3275) lf r) Ve fu (zp Ve [a,b,c,d,e,f,g,h,i,j,l,m]) K
 |0=>by funext a b c d e f g h i j l m;kernel_rfl
 |fu+1=>by
  have ih:=Vg (lf:=lf) (r:=r) K fu
  funext a b c d e f g h i j l m
  rw[wI]
  simp only[ih]
  kernel_rfl
theorem af'{lf:Nat}{r:RT}(K:KT)(fu:Nat):Ff lf r (fun a=>K (.exit 0) (zp [5] [a])) (fun a b c d e f g=>aO (cQ 115
 (pb 6 11) lf r) A7 fu (zp A7 [a,b,c,d,e,f,g]) K)=(fun a b c d e f g=>(iK 115 (pb 6 11) (pb 7 51) A7 fu K lf
 r) (.exit 2) (zp [0,1,4,5,8,9,10] [a,b,c,d,e,f,g])):=by kernel_rfl
theorem Vh{lf:Nat}{r:RT}(K:KT):∀fu,tQ lf r fu (fun a=>K (.exit 0) (zp [5] [a]))=fun a b c d e f g=>aO (cQ 115 (pb
 6 11) lf r) A7 fu (zp A7 [a,b,c,d,e,f,g]) K
 |0=>by funext a b c d e f g;kernel_rfl
 |fu+1=>by
  have ih:=Vh (lf:=lf) (r:=r) K fu
  funext a b c d e f g
  rw[tQ]
  simp only[ih,af',Vg]
  kernel_rfl
theorem af_{lf:Nat}{r:RT}:A8 lf r=(fun a=>(tK 115 (pb 5 11) lf r) (.exit 0) (zp [5] [a])):=by kernel_rfl
theorem aga{lf:Nat}{r:RT}{a b:V}:aG ai gt lf r 115 #[a,b]=inside (Lg lf r a b):=by
 unfold Lg
 simp only[af_,Vh]
 kernel_rfl
def wJ(lf:Nat)(r:RT):Nat->(V->V->V->V->V->V->V->V->M V)->V->V->V->V->V->V->V->M V
 |0,_,_,_,_,_,_,_,_=> .fail
 |fu+1,k,a,b,c,d,e,f,g=>aH g f fun h=>ar h (aL e g fun i=>ay i fun j=>cZ 3 1 g fun i=>gS tz [(0,1,j),(1,1,g),(2,1,i)] fun l=>cZ
  151 3 l fun m=>cO 151 3 d m fun n=>aC g (ii 1) fun d=>wJ lf r fu k a b c n e f d) (k a b c d e f g h)
def Vi:List Nat:=[0,2,3,4,18,19,20]
def tR(lf:Nat)(r:RT):Nat->(V->V->V->V->V->V->V->V->V->V->V->V->V->M V)->V->V->V->V->V->V->V->V->V->V->V->V->V->V->V->V->V->V->V->M V
 |0,_,_,_,_,_,_,_,_,_,_,_,_,_,_,_,_,_,_,_,_=> .fail
 |fu+1,k,a,b,c,d,e,f,g,h,i,j,l,m,n,o,p,q,s,t,u=>aH u t fun v=>ar v (aL s u fun w=>ay w fun x=>aL e x fun w=>ay w fun y=>aC y
  (ii 1) fun z=>aL e x fun A=>bG A z fun _=>aC u (ii 1) fun w=>tR lf r fu k a b c d e f g h i j l m n o p q s t w) (k a b c d e f h j l m n o p)
def Vj:List Nat:=[0,2,3,4,7,8,9,10,11,12,13,18,19,20,21,39,66,67,68]
def Fg(lf:Nat)(r:RT)(k:(V->M V))(again:V->V->V->V->V->V->V->V->V->V->M V):(V->V->V->V->V->V->V->V->V->V->V->V->V->M V):=fun a b c d e f g h i j l m n=>aE 0
 g fun o=>ay o fun p=>aE 0 h fun q=>ay q fun s=>aC p s fun t=>gS tz [(0,1,t),(1,1,f),(2,1,i)] fun u=>cZ 151 3 u fun v=>cO 151 3 d v fun w
 =>aC f (ii 1) fun d=>again a b c w e d j l m n
def rJ(lf:Nat)(r:RT):Nat->(V->M V)->V->V->V->V->V->V->V->V->V->V->M V
 |0,_,_,_,_,_,_,_,_,_,_,_=> .fail
 |fu+1,k,a,b,c,d,e,f,g,h,i,j=>aN d fun l=>ft l (ii 1) fun m=>ar m (az r 134 [d] fun l=>qh 3 d l fun n=>fa 3 n fun o=>iW 151 tz fun p
  =>fb 3 p o fun _=>az r 135 [d,l] fun n=>az r 134 [n] fun d=>qh 3 n d fun o=>fa 3 o fun q=>iW 151 tz fun s=>fb 3 s q fun _=>az r 135 [n,d]
  fun o=>aE 2 p fun n=>ay n fun q=>cO 3 1 nS q fun t=>aE 2 s fun n=>ay n fun q=>cO 3 1 t q fun u=>aN u fun n=>tR lf r lf
  (Fg lf r k (rJ lf r fu k)) a b c o e f l p d s u g h i j m u n (ii 0)) (k e)
def A9:List Nat:=[0,2,3,4,7,8,18,19,20,21]
abbrev Vk(lf:Nat)(r:RT)(fu:Nat)(k:(V->M V)):(V->V->V->V->V->V->V->V->V->V->V->V->V->M V):=Fg lf r k (rJ lf r fu k)
def Fh(lf:Nat)(r:RT):(V->M V):=fun a=>ak [a]
def Fi(lf:Nat)(r:RT):(V->V->V->V->V->V->V->V->M V):=fun a b c d e f g h=>jx 3 [(ii 0)] c c fun i=>rJ lf r lf (Fh lf r) a b c d i c e f g h
def Lh(lf:Nat)(r:RT)(a:V):M V:=aN a fun b=>aN a fun c=>wJ lf r lf (Fi lf r) a nS b nS a c (ii 0)
theorem Vl{lf:Nat}{r:RT}(K:KT):∀fu,wJ lf r fu (fun a b c d e f g h=>K (.exit 0) (zp [0,2,3,4,18,19,20,21] [a,
 b,c,d,e,f,g,h]))=fun a b c d e f g=>aO (cQ 116 (pb 7 23) lf r) Vi fu (zp Vi [a,b,c,d,e,f,g]) K
 |0=>by funext a b c d e f g;kernel_rfl
 |fu+1=>by
  have ih:=Vl (lf:=lf) (r:=r) K fu
  funext a b c d e f g
  rw[wJ]
  simp only[ih]
  kernel_rfl
theorem Vm{lf:Nat}{r:RT}(K:KT):∀fu,tR lf r fu (fun a b c d e f g h i j l m n=>K (.exit 4) (zp [0,2,3,4,7,8,10,
 12,13,18,19,20,21] [a,b,c,d,e,f,g,h,i,j,l,m,n]))=fun a b c d e f g h i j l m n o p q s t u=>aO (cQ 116 (pb 24 3144255) lf r)
 Vj fu (zp Vj [a,b,c,d,e,f,g,h,i,j,l,m,n,o,p,q,s,t,u]) K
 |0=>by funext a b c d e f g h i j l m n o p q s t u;kernel_rfl
 |fu+1=>by
  have ih:=Vm (lf:=lf) (r:=r) K fu
  funext a b c d e f g h i j l m n o p q s t u
  rw[tR]
  simp only[ih]
  kernel_rfl
theorem agb{lf:Nat}{r:RT}(K:KT)(fu:Nat):Fg lf r (fun a=>K (.exit 2) (zp [7] [a])) (fun a b c d e f g h i j=>aO
 (cQ 116 (pb 9 63) lf r) A9 fu (zp A9 [a,b,c,d,e,f,g,h,i,j]) K)=(fun a b c d e f g h i j l m n=>(iK 116 (pb 9 63) (pb
 14 6141) A9 fu K lf r) (.exit 4) (zp [0,2,3,4,7,8,10,12,13,18,19,20,21] [a,b,c,d,e,f,g,h,i,j,l,m,n])):=by kernel_rfl
theorem Lj{lf:Nat}{r:RT}(K:KT):∀fu,rJ lf r fu (fun a=>K (.exit 2) (zp [7] [a]))=fun a b c d e f g h i j=>aO
 (cQ 116 (pb 9 63) lf r) A9 fu (zp A9 [a,b,c,d,e,f,g,h,i,j]) K
 |0=>by funext a b c d e f g h i j;kernel_rfl
 |fu+1=>by
  have ih:=Lj (lf:=lf) (r:=r) K fu
  funext a b c d e f g h i j
  rw[rJ]
  simp only[ih,agb,Vm]
  kernel_rfl
theorem Vn{lf:Nat}{r:RT}:Fh lf r=(fun a=>(tK 116 (pb 8 63) lf r) (.exit 2) (zp [7] [a])):=by kernel_rfl
theorem agc{lf:Nat}{r:RT}:Fi lf r=(fun a b c d e f g h=>(tK 116 (pb 6 23) lf r) (.exit 0) (zp [0,2,3,4,18,19,20,21] [a,b,c,d,e,f,g,h])):=by
 unfold Fi
 simp only[Vn,Lj]
 kernel_rfl
theorem agd{lf:Nat}{r:RT}{a:V}:aG ai gt lf r 116 #[a]=inside (Lh lf r a):=by
 unfold Lh
 simp only[agc,Vn,Vl,Lj]
 kernel_rfl
def wK(lf:Nat)(r:RT):Nat->((M V)×(V->M V))->V->V->V->V->V->V->V->M V
 |0,_,_,_,_,_,_,_,_=> .fail
 |fu+1,k,a,b,c,d,e,f,g=>aH g f fun h=>ar h (aL e g fun i=>ay i fun j=>aH j b fun i=>ar i (k.2 bF) (ft j c fun l=>ar l (k.2 bF) (aC g (ii
  1) fun i=>wK lf r fu k a b c d e f i))) (k.1)
def Vo:List Nat:=[0,1,2,6,9,10,11]
def yN(lf:Nat)(r:RT):(M V)×(V->M V):=(ak [bT],fun a=>ak [a])
def Lk(lf:Nat)(r:RT)(a b c:V):M V:=aN a fun d=>wK lf r lf (yN lf r) a b c bF a d (ii 0)
theorem Vp{lf:Nat}{r:RT}(K:KT):∀fu,wK lf r fu ((K (.exit 0) [],fun a=>K .ret (zp [6] [a])))=fun a b c d e f g=>aO
 (cQ 117 (pb 5 5) lf r) Vo fu (zp Vo [a,b,c,d,e,f,g]) K
 |0=>by funext a b c d e f g;kernel_rfl
 |fu+1=>by
  have ih:=Vp (lf:=lf) (r:=r) K fu
  funext a b c d e f g
  rw[wK]
  simp only[ih]
  kernel_rfl
theorem age{lf:Nat}{r:RT}:yN lf r=(((tK 117 (pb 4 5) lf r) (.exit 0) [],fun a=>(tK 117 (pb 4 5) lf r) .ret (zp [6] [a]))):=by kernel_rfl
theorem agf{lf:Nat}{r:RT}{a b c:V}:aG ai gt lf r 117 #[a,b,c]=inside (Lk lf r a b c):=by
 unfold Lk
 simp only[age,Vp]
 kernel_rfl
def tS(lf:Nat)(r:RT):Nat->(V->M V)->V->V->V->V->V->V->M V
 |0,_,_,_,_,_,_,_=> .fail
 |fu+1,k,a,b,c,d,e,f=>aH f e fun g=>ar g (aL d f fun h=>ay h fun i=>aH i (ii 0) fun h=>(fun l=>ar h (l (ii 0)) (l i)) fun i=>mi i (ii 2)
  fun j=>aC j (ii 1) fun l=>cZ 3 1 l fun m=>cO 3 1 c m fun n=>aC f (ii 1) fun c=>tS lf r fu k a b n d e c) (k c)
def Vq:List Nat:=[0,2,3,6,7,8]
def Ba(lf:Nat)(r:RT):(V->M V):=fun a=>ak [a]
def Ll(lf:Nat)(r:RT)(a:V):M V:=aN a fun b=>tS lf r lf (Ba lf r) a nS nS a b (ii 0)
theorem Vr{lf:Nat}{r:RT}(K:KT):∀fu,tS lf r fu (fun a=>K (.exit 0) (zp [3] [a]))=fun a b c d e f=>aO (cQ 118
 (pb 6 11) lf r) Vq fu (zp Vq [a,b,c,d,e,f]) K
 |0=>by funext a b c d e f;kernel_rfl
 |fu+1=>by
  have ih:=Vr (lf:=lf) (r:=r) K fu
  funext a b c d e f
  rw[tS]
  simp only[ih]
  kernel_rfl
theorem agh{lf:Nat}{r:RT}:Ba lf r=(fun a=>(tK 118 (pb 5 11) lf r) (.exit 0) (zp [3] [a])):=by kernel_rfl
theorem agi{lf:Nat}{r:RT}{a:V}:aG ai gt lf r 118 #[a]=inside (Ll lf r a):=by
 unfold Ll
 simp only[agh,Vr]
 kernel_rfl
def Fj(lf:Nat)(r:RT):Nat->((M V)×(V->V->M V))->V->V->V->V->V->V->M V
 |0,_,_,_,_,_,_,_=> .fail
 |fu+1,k,a,b,c,d,e,f=>jP f (ii 20) fun g=>ar g (az r 136 [b,(ii 1)] fun h=>bm h 0 fun i=>bm h 1 fun j=>dO j (ii 0) fun h=>ar h (k.2 (ii 0)
  j) (jO (ii 2) e fun l=>eZ .i64 i fun m=>aC l m fun n=>aI a fun e=>aE 24 e fun l=>gx 22 l f fun m=>ay m fun o=>aC o n fun p=>aI a fun q=>aE
  3 q fun s=>gx 21 s f fun t=>ay t fun u=>bW p u fun v=>aC f (ii 1) fun e=>aI a fun l=>aE 24 l fun m=>gx 22 m e fun o=>ay o fun p=>aH v p fun
  q=>ar q (aI a fun e=>aE 2 e fun l=>ay l fun m=>aL m v fun o=>ay o fun p=>k.2 p (ii 0)) (aC f (ii 1) fun e=>Fj lf r fu k a b c d n e))) (k.1)
def Vs:List Nat:=[0,1,4,5,6,7]
def Vt(lf:Nat)(r:RT):(M V)×(V->V->M V):=(ak [(ii 0),(ii 22)],fun a b=>ak [a,b])
def Lm(lf:Nat)(r:RT)(a b:V):M V:=Fj lf r lf (Vt lf r) a b (ii 0) (ii 0) (ii 0) (ii 1)
theorem Vu{lf:Nat}{r:RT}(K:KT):∀fu,Fj lf r fu ((K (.exit 0) [],fun a b=>K .ret (zp [4,5] [a,b])))=fun a b c d e f=>
 aO (cQ 120 (pb 6 11) lf r) Vs fu (zp Vs [a,b,c,d,e,f]) K
 |0=>by funext a b c d e f;kernel_rfl
 |fu+1=>by
  have ih:=Vu (lf:=lf) (r:=r) K fu
  funext a b c d e f
  rw[Fj]
  simp only[ih]
  kernel_rfl
theorem agj{lf:Nat}{r:RT}:Vt lf r=(((tK 120 (pb 5 11) lf r) (.exit 0) [],fun a b=>(tK 120 (pb 5 11) lf r) .ret (zp [4,5] [a,b]))):=by kernel_rfl
theorem agk{lf:Nat}{r:RT}{a b:V}:aG ai gt lf r 120 #[a,b]=inside (Lm lf r a b):=by
 unfold Lm
 simp only[agj,Vu]
 kernel_rfl
def Fk(lf:Nat)(r:RT):Nat->((V->M V)×(V->M V))->V->V->V->V->V->M V
 |0,_,_,_,_,_,_=> .fail
 |fu+1,k,a,b,c,d,e=>aH e d fun f=>ar f (az r 136 [b,(ii 1)] fun g=>bm g 0 fun h=>bm g 1 fun i=>dO i (ii 0) fun g=>ar g (k.2 i) (bJ h (i3
  0) fun j=>ar j (aI a fun l=>aE 8 l fun m=>(aV (ay m M.ret)).bind fun n=>aI a fun o=>aE 2 o fun p=>(aV (az r 129 [p,e] M.ret)).bind fun q=>
  (aV (cZ 3 1 q.1 M.ret)).bind fun s=>(aV (cO 3 1 n.1 s.1 M.ret)).bind fun t=>aI a fun u=>aE 8 u fun v=>(aV (bG v t.1 M.ret)).bind fun w=>iy
  ((!(fH n.2 q.2)&&true)&&true) (k.2 (ii 0))) (aC e (ii 1) fun l=>Fk lf r fu k a b c d l))) (k.1 a)
def Vv:List Nat:=[0,1,4,11,12]
def Vw(lf:Nat)(r:RT):(V->M V)×(V->M V):=(fun a=>az r 137 [a] fun b=>ak [b],fun a=>ak [a])
def Ln(lf:Nat)(r:RT)(a b:V):M V:=aI a fun c=>aE 0 c fun d=>ay d fun e=>Fk lf r lf (Vw lf r) a b (ii 0) e (ii 0)
theorem Vx{lf:Nat}{r:RT}(K:KT):∀fu,Fk lf r fu ((fun a=>K (.exit 0) (zp [0] [a]),fun a=>K .ret (zp [4] [a])))=
 fun a b c d e=>aO (cQ 121 (pb 5 5) lf r) Vv fu (zp Vv [a,b,c,d,e]) K
 |0=>by funext a b c d e;kernel_rfl
 |fu+1=>by
  have ih:=Vx (lf:=lf) (r:=r) K fu
  funext a b c d e
  rw[Fk]
  simp only[ih]
  kernel_rfl
theorem agl{lf:Nat}{r:RT}:Vw lf r=((fun a=>(tK 121 (pb 4 5) lf r) (.exit 0) (zp [0] [a]),fun a=>(tK 121 (pb 4 5) lf r) .ret (zp [4] [a]))):=by kernel_rfl
theorem agm{lf:Nat}{r:RT}{a b:V}:aG ai gt lf r 121 #[a,b]=inside (Ln lf r a b):=by
 unfold Ln
 simp only[agl,Vx]
 kernel_rfl
def Vy(lf:Nat)(r:RT)(a b:V):M V:=az r 136 [b,(ii 18)] fun c=>bm c 0 fun d=>bm c 1 fun e=>dO e (ii 0) fun c=>ar c (ak [e])
 (od d (i6 15) fun f=>eZ .i64 f fun g=>Ar d (i3 32767) fun h=>eZ .i64 h fun i=>az r 102 [g] fun f=>dZ f fun h=>ar h (az r 137 [a] fun f=>ak [f])
 (bJ i (ii 0) fun j=>ar j (az r 137 [a] fun f=>ak [f]) (aI a fun f=>aE 0 f fun h=>bG h g fun _=>aI a fun f=>aE 1 f fun h=>bG h i fun _=>ak [(ii 0)])))
theorem agn{lf:Nat}{r:RT}{a b:V}:aG ai gt lf r 122 #[a,b]=inside (Vy lf r a b):=by kernel_rfl
def Vz(lf:Nat)(r:RT)(a b:V):M V:=aI a fun c=>aE 1 c fun d=>ay d fun e=>bJ e (ii 0) fun f=>ar f (az r 136 [b,(ii 5)] fun c=>
 bm c 0 fun d=>bm c 1 fun e=>dO e (ii 0) fun c=>ar c (ak [e]) (eZ .i64 d fun g=>az r 138 [a,g] fun h=>ak [h])) (az r 136 [b,(ii 1)] fun c=>bm
 c 0 fun d=>bm c 1 fun e=>dO e (ii 0) fun c=>ar c (ak [e]) (bJ d (i3 0) fun g=>ar g (aI a fun h=>aE 2 h fun i=>ay i fun j=>aI a fun l=>aE 1
 l fun m=>ay m fun n=>cZ 3 1 n fun o=>cO 3 1 j o fun p=>aI a fun q=>aE 2 q fun s=>bG s p fun _=>ak [(ii 0)]) (az r 136 [b,(ii 1)] fun h=>bm h
 0 fun i=>bm h 1 fun j=>dO j (ii 0) fun d=>ar d (ak [j]) (aI a fun e=>aE 1 e fun h=>ay h fun l=>aC l (ii 1) fun m=>eZ .i64 i fun n=>jO (ii 2)
 n fun o=>bW m o fun p=>az r 138 [a,p] fun q=>ak [q]))))
theorem ago{lf:Nat}{r:RT}{a b:V}:aG ai gt lf r 123 #[a,b]=inside (Vz lf r a b):=by kernel_rfl
def eQ(lf:Nat)(r:RT):Nat->(V->M V)->V->V->V->V->V->M V
 |0,_,_,_,_,_,_=> .fail
 |fu+1,k,a,b,c,d,e=>aH e (ii 4) fun f=>ar f (Av 4 d e fun g=>gH a g fun h=>ar h (aC c (ii 1) fun i=>aC e (ii 1) fun c=>eQ lf
  r fu k a b i d c) (aC e (ii 1) fun i=>eQ lf r fu k a b c d i)) (k c)
def VA:List Nat:=[0,2,3,6,7]
def tT(lf:Nat)(r:RT):(V->M V):=fun a=>ak [a]
def Fl(lf:Nat)(r:RT)(a:V):M V:=fa 4 (Value.pointer (some ⟨0,0,none⟩)) fun b=>eQ lf r lf (tT lf r) a (ii 0) (ii 2) b (ii 0)
theorem VB{lf:Nat}{r:RT}(K:KT):∀fu,eQ lf r fu (fun a=>K (.exit 0) (zp [3] [a]))=fun a b c d e=>aO (cQ 124 (pb 6 11)
 lf r) VA fu (zp VA [a,b,c,d,e]) K
 |0=>by funext a b c d e;kernel_rfl
 |fu+1=>by
  have ih:=VB (lf:=lf) (r:=r) K fu
  funext a b c d e
  rw[eQ]
  simp only[ih]
  kernel_rfl
theorem agp{lf:Nat}{r:RT}:tT lf r=(fun a=>(tK 124 (pb 5 11) lf r) (.exit 0) (zp [3] [a])):=by kernel_rfl
theorem VC{lf:Nat}{r:RT}{a:V}:aG ai gt lf r 124 #[a]=inside (Fl lf r a):=by
 unfold Fl
 simp only[agp,VB]
 kernel_rfl
def tU(lf:Nat)(r:RT):Nat->(V->M V)->V->V->V->V->V->V->V->V->M V
 |0,_,_,_,_,_,_,_,_,_=> .fail
 |fu+1,k,a,b,c,d,e,f,g,h=>aH h g fun i=>ar i (aL f h fun j=>ay j fun l=>az r 77 [a,l] fun j=>bm j 0 fun m=>bm j 1 fun n=>aH m e fun j
  =>ar j (aC h (ii 1) fun d=>tU lf r fu k a b c h m f g d) (aC h (ii 1) fun n=>tU lf r fu k a b c d e f g n)) (k d)
def VD:List Nat:=[0,1,4,5,6,11,12,13]
def Fm(lf:Nat)(r:RT):(V->M V):=fun a=>ak [a]
def Fo(lf:Nat)(r:RT)(a b:V):M V:=aN b fun c=>tU lf r lf (Fm lf r) a b (ii 0) (ii 0) (ii 1099511627776) b c (ii 0)
theorem VE{lf:Nat}{r:RT}(K:KT):∀fu,tU lf r fu (fun a=>K (.exit 0) (zp [5] [a]))=fun a b c d e f g h=>aO (cQ 125 (pb 6 11)
 lf r) VD fu (zp VD [a,b,c,d,e,f,g,h]) K
 |0=>by funext a b c d e f g h;kernel_rfl
 |fu+1=>by
  have ih:=VE (lf:=lf) (r:=r) K fu
  funext a b c d e f g h
  rw[tU]
  simp only[ih]
  kernel_rfl
theorem agq{lf:Nat}{r:RT}:Fm lf r=(fun a=>(tK 125 (pb 5 11) lf r) (.exit 0) (zp [5] [a])):=by kernel_rfl
theorem VF{lf:Nat}{r:RT}{a b:V}:aG ai gt lf r 125 #[a,b]=inside (Fo lf r a b):=by
 unfold Fo
 simp only[agq,VE]
 kernel_rfl
def wL(lf:Nat)(r:RT):Nat->(V->M V)->V->V->V->V->V->V->V->V->M V
 |0,_,_,_,_,_,_,_,_,_=> .fail
 |fu+1,k,a,b,c,d,e,f,g,h=>aH h g fun i=>ar i (aL a h fun j=>ay j fun l=>aL b h fun m=>ay m fun n=>az r 112 [l,n] fun o=>aL e h fun p
  =>bG p o fun _=>aC h (ii 1) fun j=>wL lf r fu k a b c d e f g j) (k e)
def VG:List Nat:=[0,1,4,5,6,22,27,28]
def Fp(lf:Nat)(r:RT):(V->M V):=fun a=>ak [a,(ii 0)]
def Fq(lf:Nat)(r:RT)(a b:V):M V:=aN a fun c=>aN b fun d=>dO c d fun e=>ar e (ak [nS,(ii 1)]) (az r 111 [a] fun f=>dZ f fun g=>ar
 g (ak [nS,(ii 1)]) (az r 111 [b] fun h=>dZ h fun i=>ar i (ak [nS,(ii 1)]) (aN a fun c=>jx 3 [(ii 0)] c c fun d=>aN d fun c=>wL lf r lf
 (Fp lf r) a b nS (ii 0) d i c (ii 0))))
theorem VH{lf:Nat}{r:RT}(K:KT):∀fu,wL lf r fu (fun a=>K (.exit 0) (zp [6] [a]))=fun a b c d e f g h=>aO (cQ 126 (pb 7 23) lf r)
 VG fu (zp VG [a,b,c,d,e,f,g,h]) K
 |0=>by funext a b c d e f g h;kernel_rfl
 |fu+1=>by
  have ih:=VH (lf:=lf) (r:=r) K fu
  funext a b c d e f g h
  rw[wL]
  simp only[ih]
  kernel_rfl
theorem agr{lf:Nat}{r:RT}:Fp lf r=(fun a=>(tK 126 (pb 6 23) lf r) (.exit 0) (zp [6] [a])):=by kernel_rfl
theorem VI{lf:Nat}{r:RT}{a b:V}:aG ai gt lf r 126 #[a,b]=inside (Fq lf r a b):=by
 unfold Fq
 simp only[agr,VH]
 kernel_rfl
def wM(lf:Nat)(r:RT):Nat->(V->V->V->V->V->V->V->V->V->M V)->V->V->V->V->V->V->V->V->M V
 |0,_,_,_,_,_,_,_,_,_=> .fail
 |fu+1,k,a,b,c,d,e,f,g,h=>aH h g fun i=>ar i (aL f h fun j=>ay j fun l=>vq l (ii 1) fun j=>aL d h fun m=>bG m j fun _=>aC h (ii 1) fun
  j=>wM lf r fu k a b c d e f g j) (k a b c d e f g h i)
def VJ:List Nat:=[0,2,3,4,20,24,25,26]
def wN(lf:Nat)(r:RT):Nat->(V->V->M V)->V->V->V->V->V->V->V->V->V->M V
 |0,_,_,_,_,_,_,_,_,_,_=> .fail
 |fu+1,k,a,b,c,d,e,f,g,h,i=>az r 139 [d] fun j=>az r 140 [j] fun l=>jP l (ii 20) fun m=>ar m (az r 72 [j] fun l=>k l (ii 0)) (az r 141 [d]
  fun l=>wN lf r fu k a b c l e f g h i)
def VK:List Nat:=[0,2,3,4,20,24,25,26,27]
def Bb(lf:Nat)(r:RT):(V->V->M V):=fun a b=>ak [a,b]
def Fs(lf:Nat)(r:RT):(V->V->V->V->V->V->V->V->V->M V):=fun a b c d e f g h i=>wN lf r lf (Bb lf r) a b c d e f g h i
def Ft(lf:Nat)(r:RT)(a:V):M V:=aN a fun b=>aH b (ii 3) fun c=>ar c (ak [nS,(ii 1)]) (aN a fun d=>ft d (ii 258) fun e=>ar e (ak
 [nS,(ii 1)]) (az r 130 [a,(ii 0),(ii 1099511627776)] fun f=>dZ f fun g=>ar g (ak [nS,(ii 1)]) (aN a fun b=>jx 3 [(ii 0)] b b fun c=>aN a fun b=>
 wM lf r lf (Fs lf r) a nS (ii 0) c g a b (ii 0))))
theorem VL{lf:Nat}{r:RT}(K:KT):∀fu,wM lf r fu (fun a b c d e f g h i=>K (.exit 0) (zp [0,2,3,4,20,24,25,26,27] [a,b,c,d,e,
 f,g,h,i]))=fun a b c d e f g h=>aO (cQ 127 (pb 7 23) lf r) VJ fu (zp VJ [a,b,c,d,e,f,g,h]) K
 |0=>by funext a b c d e f g h;kernel_rfl
 |fu+1=>by
  have ih:=VL (lf:=lf) (r:=r) K fu
  funext a b c d e f g h
  rw[wM]
  simp only[ih]
  kernel_rfl
theorem Lo{lf:Nat}{r:RT}(K:KT):∀fu,wN lf r fu (fun a b=>K .ret (zp [2,3] [a,b]))=fun a b c d e f g h i=>aO (cQ 127 (pb 6 15) lf
 r) VK fu (zp VK [a,b,c,d,e,f,g,h,i]) K
 |0=>by funext a b c d e f g h i;kernel_rfl
 |fu+1=>by
  have ih:=Lo (lf:=lf) (r:=r) K fu
  funext a b c d e f g h i
  rw[wN]
  simp only[ih]
  kernel_rfl
theorem VM{lf:Nat}{r:RT}:Bb lf r=(fun a b=>(tK 127 (pb 5 15) lf r) .ret (zp [2,3] [a,b])):=by kernel_rfl
theorem ags{lf:Nat}{r:RT}:Fs lf r=(fun a b c d e f g h i=>(tK 127 (pb 6 23) lf r) (.exit 0) (zp [0,2,3,4,20,24,25,26,27] [a,b,c,d,e,f,g,h,i])):=by
 unfold Fs
 simp only[VM,Lo]
 kernel_rfl
theorem VN{lf:Nat}{r:RT}{a:V}:aG ai gt lf r 127 #[a]=inside (Ft lf r a):=by
 unfold Ft
 simp only[ags,VM,VL,Lo]
 kernel_rfl
def m7(lf:Nat)(r:RT):Nat->((M V)×(V->M V))->V->V->V->V->V->M V
 |0,_,_,_,_,_,_=> .fail
 |fu+1,k,a,b,c,d,e=>aH e d fun f=>ar f (aL a e fun g=>ay g fun h=>fO ai r b [h] fun i=>ar i (k.2 e) (aC e (ii 1) fun g=>
  m7 lf r fu k a b c d g)) (k.1)
def VO:List Nat:=[0,1,4,7,8]
def pq(lf:Nat)(r:RT):(M V)×(V->M V):=(ak [(ii (-1))],fun a=>ak [a])
def yO(lf:Nat)(r:RT)(a b:V):M V:=aN a fun c=>m7 lf r lf (pq lf r) a b (ii 0) c (ii 0)
theorem VP{lf:Nat}{r:RT}(K:KT):∀fu,m7 lf r fu ((K (.exit 0) [],fun a=>K .ret (zp [4] [a])))=fun a b
 c d e=>aO (cQ 128 (pb 5 5) lf r) VO fu (zp VO [a,b,c,d,e]) K
 |0=>by funext a b c d e;kernel_rfl
 |fu+1=>by
  have ih:=VP (lf:=lf) (r:=r) K fu
  funext a b c d e
  rw[m7]
  simp only[ih]
  kernel_rfl
theorem agt{lf:Nat}{r:RT}:pq lf r=(((tK 128 (pb 4 5) lf r) (.exit 0) [],fun a=>(tK 128 (pb 4 5) lf r) .ret (zp [4] [a]))):=by kernel_rfl
theorem Fu{lf:Nat}{r:RT}{a b:V}:aG ai gt lf r 128 #[a,b]=inside (yO lf r a b):=by
 unfold yO
 simp only[agt,VP]
 kernel_rfl
def wO(lf:Nat)(r:RT):Nat->(V->V->M V)->V->V->V->V->V->M V
 |0,_,_,_,_,_,_=> .fail
 |fu+1,k,a,b,c,d,e=>ft e (ii 0) fun f=>ar f (bW e (ii 1) fun g=>aI a fun h=>gx 6 h g fun i=>ay i fun j=>aI a fun l=>gx 6 l e fun m=>bG
  m j fun _=>bW e (ii 1) fun g=>wO lf r fu k a b c d g) (k a d)
def VQ:List Nat:=[0,1,4,5,6]
def Fv(lf:Nat)(r:RT):(V->V->M V):=fun a b=>aI a fun c=>gx 6 c (ii 0) fun d=>bG d b fun _=>ak [b]
def Fw(lf:Nat)(r:RT)(a b:V):M V:=aI a fun c=>gx 6 c b fun d=>ay d fun e=>wO lf r lf (Fv lf r) a b (ii 0) e b
theorem VS{lf:Nat}{r:RT}(K:KT):∀fu,wO lf r fu (fun a b=>K (.exit 0) (zp [0,5] [a,b]))=fun a b c d e=>aO (cQ
 129 (pb 6 11) lf r) VQ fu (zp VQ [a,b,c,d,e]) K
 |0=>by funext a b c d e;kernel_rfl
 |fu+1=>by
  have ih:=VS (lf:=lf) (r:=r) K fu
  funext a b c d e
  rw[wO]
  simp only[ih]
  kernel_rfl
theorem agu{lf:Nat}{r:RT}:Fv lf r=(fun a b=>(tK 129 (pb 5 11) lf r) (.exit 0) (zp [0,5] [a,b])):=by kernel_rfl
theorem VT{lf:Nat}{r:RT}{a b:V}:aG ai gt lf r 129 #[a,b]=inside (Fw lf r a b):=by
 unfold Fw
 simp only[agu,VS]
 kernel_rfl
def Lp(lf:Nat)(r:RT)(a b c:V):M V:=jt 3 b fun d=>jt 3 c fun e=>az r 103 [a,(pP (sq 142) #[] #[d,e])] fun f=>dZ f fun g=>ak [g]
theorem VU{lf:Nat}{r:RT}{a b c:V}:aG ai gt lf r 130 #[a,b,c]=inside (Lp lf r a b c):=by kernel_rfl
def Lq(lf:Nat)(r:RT)(a:V):M V:=az r 132 [a] fun b=>dZ b fun c=>ak [c]
theorem VV{lf:Nat}{r:RT}{a:V}:aG ai gt lf r 131 #[a]=inside (Lq lf r a):=by kernel_rfl
def Lr(lf:Nat)(r:RT)(a:V):M V:=gH a (ii 0) fun b=>ar b (jP a (ii 1099511627776) fun c=>ak [c]) (ak [bF])
theorem VW{lf:Nat}{r:RT}{a:V}:aG ai gt lf r 132 #[a]=inside (Lr lf r a):=by kernel_rfl
def VX(lf:Nat)(r:RT)(a:V):M V:=ft a (ii 1099511627776) fun b=>ar b (ak [(ii 1099511627776)]) (ak [a])
theorem agv{lf:Nat}{r:RT}{a:V}:aG ai gt lf r 133 #[a]=inside (VX lf r a):=by kernel_rfl
def tV(lf:Nat)(r:RT):Nat->(V->M V)->V->V->V->V->V->V->M V
 |0,_,_,_,_,_,_,_=> .fail
 |fu+1,k,a,b,c,d,e,f=>aH f e fun g=>ar g (qh 3 d f fun h=>fa 3 h fun i=>iW 151 tz fun j=>fb 3 j i fun _=>fa 3 j fun h=>qh 3 a c fun i
  =>fa 3 i fun l=>az r 143 [h,l] fun m=>ar m (aC f (ii 1) fun c=>tV lf r fu k a b f d e c) (aC f (ii 1) fun h=>tV lf r fu k a b c d e h)) (k c)
def VY:List Nat:=[0,2,3,6,7,8]
def Fx(lf:Nat)(r:RT):(V->M V):=fun a=>ak [a]
def Ls(lf:Nat)(r:RT)(a:V):M V:=aN a fun b=>tV lf r lf (Fx lf r) a (ii 0) (ii 0) a b (ii 0)
theorem VZ{lf:Nat}{r:RT}(K:KT):∀fu,tV lf r fu (fun a=>K (.exit 0) (zp [3] [a]))=fun a b c d e f=>aO (cQ 134 (pb
 6 11) lf r) VY fu (zp VY [a,b,c,d,e,f]) K
 |0=>by funext a b c d e f;kernel_rfl
 |fu+1=>by
  have ih:=VZ (lf:=lf) (r:=r) K fu
  funext a b c d e f
  rw[tV]
  simp only[ih]
  kernel_rfl
theorem agw{lf:Nat}{r:RT}:Fx lf r=(fun a=>(tK 134 (pb 5 11) lf r) (.exit 0) (zp [3] [a])):=by kernel_rfl
theorem agx{lf:Nat}{r:RT}{a:V}:aG ai gt lf r 134 #[a]=inside (Ls lf r a):=by
 unfold Ls
 simp only[agw,VZ]
 kernel_rfl
def tW(lf:Nat)(r:RT):Nat->(V->M V)->V->V->V->V->V->V->V->M V
 |0,_,_,_,_,_,_,_,_=> .fail
 |fu+1,k,a,b,c,d,e,f,g=>aH g f fun h=>ar h (qh 3 e g fun i=>fa 3 i fun j=>iW 151 tz fun l=>fb 3 l j fun _=>dO g b fun i=>ar i (fa 3
  l fun j=>cZ 151 3 j fun m=>cO 151 3 d m fun n=>aC g (ii 1) fun d=>tW lf r fu k a b c n e f d) (aC g (ii 1) fun j=>tW lf r fu k a b c d e f j)) (k d)
def V0:List Nat:=[0,1,4,5,8,9,10]
def Fy(lf:Nat)(r:RT):(V->M V):=fun a=>ak [a]
def Lt(lf:Nat)(r:RT)(a b:V):M V:=aN a fun c=>tW lf r lf (Fy lf r) a b nS nS a c (ii 0)
theorem V4{lf:Nat}{r:RT}(K:KT):∀fu,tW lf r fu (fun a=>K (.exit 0) (zp [5] [a]))=fun a b c d e f g=>aO (cQ
 135 (pb 6 11) lf r) V0 fu (zp V0 [a,b,c,d,e,f,g]) K
 |0=>by funext a b c d e f g;kernel_rfl
 |fu+1=>by
  have ih:=V4 (lf:=lf) (r:=r) K fu
  funext a b c d e f g
  rw[tW]
  simp only[ih]
  kernel_rfl
theorem agy{lf:Nat}{r:RT}:Fy lf r=(fun a=>(tK 135 (pb 5 11) lf r) (.exit 0) (zp [5] [a])):=by kernel_rfl
theorem agz{lf:Nat}{r:RT}{a b:V}:aG ai gt lf r 135 #[a,b]=inside (Lt lf r a b):=by
 unfold Lt
 simp only[agy,V4]
 kernel_rfl
def Fz(lf:Nat)(r:RT):Nat->(V->M V)->V->V->V->V->V->V->V->V->V->V->M V
 |0,_,_,_,_,_,_,_,_,_,_,_=> .fail
 |fu+1,k,a,b,c,d,e,f,g,h,i,j=>aH j i fun l=>ar l (td e (i6 1) fun m=>aI a fun n=>aE 2 n fun o=>ay o fun p=>az r 145 [a,p] fun q=>Dx
  m q fun s=>aI a fun e=>aE 2 e fun m=>ay m fun n=>aC n (ii 1) fun o=>aI a fun p=>aE 2 p fun q=>bG q o fun _=>aC j (ii 1) fun e=>
  Fz lf r fu k a b c d s f g h i e) (k e)
def V5:List Nat:=[0,1,4,5,6,7,10,17,22,23]
def V6(lf:Nat)(r:RT):(V->M V):=fun a=>ak [a,(ii 0)]
def Lu(lf:Nat)(r:RT)(a b:V):M V:=fw a nP fun c=>ar c (ak [(i3 0),(ii 7)]) (aH b (ii 0) fun d=>ar d (ak [(i3 0),(ii 1)]) (ft b
 (ii 32) fun e=>ar e (ak [(i3 0),(ii 1)]) (az r 144 [a] fun d=>aH d b fun f=>ar f (ak [(i3 0),(ii 3)]) (Fz lf r lf (V6
 lf r) a b (i3 0) (ii 0) (i3 0) c e f b (ii 0)))))
theorem V7{lf:Nat}{r:RT}(K:KT):∀fu,Fz lf r fu (fun a=>K (.exit 1) (zp [6] [a]))=fun a b c d e f g h i j=>aO (cQ
 136 (pb 7 23) lf r) V5 fu (zp V5 [a,b,c,d,e,f,g,h,i,j]) K
 |0=>by funext a b c d e f g h i j;kernel_rfl
 |fu+1=>by
  have ih:=V7 (lf:=lf) (r:=r) K fu
  funext a b c d e f g h i j
  rw[Fz]
  simp only[ih]
  kernel_rfl
theorem agA{lf:Nat}{r:RT}:V6 lf r=(fun a=>(tK 136 (pb 6 23) lf r) (.exit 1) (zp [6] [a])):=by kernel_rfl
theorem agB{lf:Nat}{r:RT}{a b:V}:aG ai gt lf r 136 #[a,b]=inside (Lu lf r a b):=by
 unfold Lu
 simp only[agA,V7]
 kernel_rfl
def V8(lf:Nat)(r:RT)(a:V):M V:=aI a fun b=>aE 9 b fun c=>bG c bT fun _=>ak [(ii 25)]
theorem agC{lf:Nat}{r:RT}{a:V}:aG ai gt lf r 137 #[a]=inside (V8 lf r a):=by kernel_rfl
def V9(lf:Nat)(r:RT)(a b:V):M V:=az r 107 [b] fun c=>dZ c fun d=>ar d (aI a fun c=>aE 3 c fun e=>bG e bT fun _=>ak [(ii
 22)]) (aI a fun c=>aE 1 c fun e=>bG e b fun _=>ak [(ii 0)])
theorem agD{lf:Nat}{r:RT}{a b:V}:aG ai gt lf r 138 #[a,b]=inside (V9 lf r a b):=by kernel_rfl
def wP(lf:Nat)(r:RT):Nat->(V->V->V->V->V->V->M V)->V->V->V->V->V->M V
 |0,_,_,_,_,_,_=> .fail
 |fu+1,k,a,b,c,d,e=>aH e d fun f=>ar f (az r 147 [c] fun g=>az r 147 [c] fun h=>az r 148 [c,g,h] fun i=>aC e (ii 1) fun h=>wP lf r fu k a b c d h) (k a b c d e f)
def V':List Nat:=[0,2,3,11,12]
def wQ(lf:Nat)(r:RT):Nat->(V->V->M V)->V->V->V->V->V->V->V->V->M V
 |0,_,_,_,_,_,_,_,_,_=> .fail
 |fu+1,k,a,b,c,d,e,f,g,h=>gH e (ii 0) fun i=>ar i (aI c fun j=>aE 1 j fun l=>ay l fun m=>aL m e fun n=>ay n fun o=>aL d o fun p=>ay
  p fun q=>aC q (ii 1) fun s=>aL d e fun t=>bG t s fun _=>bW e (ii 1) fun j=>wQ lf r fu k a b c d j f g h) (k a d)
def Wa:List Nat:=[0,2,3,5,6,11,12,13]
def Lv(lf:Nat)(r:RT):(V->V->M V):=fun a b=>aN a fun c=>rA 3 1 b none (some c) fun d=>ak [d]
def FA(lf:Nat)(r:RT):(V->V->V->V->V->V->M V):=fun a b c d e f=>aI c fun g=>aE 0 g fun h=>ay h fun i=>aN i fun j=>jx 3 [(ii 0)] j j fun l
 =>aN l fun g=>bW g (ii 2) fun h=>wQ lf r lf (Lv lf r) a b c l h d e f
def FB(lf:Nat)(r:RT)(a:V):M V:=az r 146 [a] fun b=>aN a fun c=>bW c (ii 1) fun d=>wP lf r lf (FA lf r) a nS b d (ii 0)
theorem Wc{lf:Nat}{r:RT}(K:KT):∀fu,wP lf r fu (fun a b c d e f=>K (.exit 0) (zp [0,2,3,11,12,13] [a,b,c,d,e,f]))=fun
 a b c d e=>aO (cQ 139 (pb 6 11) lf r) V' fu (zp V' [a,b,c,d,e]) K
 |0=>by funext a b c d e;kernel_rfl
 |fu+1=>by
  have ih:=Wc (lf:=lf) (r:=r) K fu
  funext a b c d e
  rw[wP]
  simp only[ih]
  kernel_rfl
theorem Lw{lf:Nat}{r:RT}(K:KT):∀fu,wQ lf r fu (fun a b=>K (.exit 2) (zp [0,5] [a,b]))=fun a b c d e f g h=>aO (cQ 139
 (pb 8 47) lf r) Wa fu (zp Wa [a,b,c,d,e,f,g,h]) K
 |0=>by funext a b c d e f g h;kernel_rfl
 |fu+1=>by
  have ih:=Lw (lf:=lf) (r:=r) K fu
  funext a b c d e f g h
  rw[wQ]
  simp only[ih]
  kernel_rfl
theorem Wd{lf:Nat}{r:RT}:Lv lf r=(fun a b=>(tK 139 (pb 7 47) lf r) (.exit 2) (zp [0,5] [a,b])):=by kernel_rfl
theorem agE{lf:Nat}{r:RT}:FA lf r=(fun a b c d e f=>(tK 139 (pb 5 11) lf r) (.exit 0) (zp [0,2,3,11,12,13] [a,b,c,d,e,f])):=by
 unfold FA
 simp only[Wd,Lw]
 kernel_rfl
theorem We{lf:Nat}{r:RT}{a:V}:aG ai gt lf r 139 #[a]=inside (FB lf r a):=by
 unfold FB
 simp only[agE,Wd,Wc,Lw]
 kernel_rfl
def wR(lf:Nat)(r:RT):Nat->(V->M V)->V->V->V->V->V->V->M V
 |0,_,_,_,_,_,_,_=> .fail
 |fu+1,k,a,b,c,d,e,f=>aH f e fun g=>ar g (aL d f fun h=>ay h fun i=>vq c i fun h=>aC f (ii 1) fun c=>wR lf r fu k a b h d e c) (k c)
def Wf:List Nat:=[0,2,3,6,7,8]
def FC(lf:Nat)(r:RT):(V->M V):=fun a=>ak [a]
def FD(lf:Nat)(r:RT)(a:V):M V:=aN a fun b=>wR lf r lf (FC lf r) a (ii 0) (ii 0) a b (ii 0)
theorem Wg{lf:Nat}{r:RT}(K:KT):∀fu,wR lf r fu (fun a=>K (.exit 0) (zp [3] [a]))=fun a b c d e f=>aO (cQ 140 (pb 6 11)
 lf r) Wf fu (zp Wf [a,b,c,d,e,f]) K
 |0=>by funext a b c d e f;kernel_rfl
 |fu+1=>by
  have ih:=Wg (lf:=lf) (r:=r) K fu
  funext a b c d e f
  rw[wR]
  simp only[ih]
  kernel_rfl
theorem agF{lf:Nat}{r:RT}:FC lf r=(fun a=>(tK 140 (pb 5 11) lf r) (.exit 0) (zp [3] [a])):=by kernel_rfl
theorem Wi{lf:Nat}{r:RT}{a:V}:aG ai gt lf r 140 #[a]=inside (FD lf r a):=by
 unfold FD
 simp only[agF,Wg]
 kernel_rfl
def wS(lf:Nat)(r:RT):Nat->(V->M V)->V->V->V->V->V->V->M V
 |0,_,_,_,_,_,_,_=> .fail
 |fu+1,k,a,b,c,d,e,f=>aH f e fun g=>ar g (aL d f fun h=>ay h fun i=>vq i (ii 0) fun h=>mi h (ii 2) fun j=>aC j (ii 1) fun l=>aL c f fun
  m=>bG m l fun _=>aC f (ii 1) fun h=>wS lf r fu k a b c d e h) (k c)
def Wj:List Nat:=[0,2,3,9,10,11]
def FE(lf:Nat)(r:RT):(V->M V):=fun a=>ak [a]
def FF(lf:Nat)(r:RT)(a:V):M V:=aN a fun b=>jx 3 [(ii 0)] b b fun c=>aN a fun b=>wS lf r lf (FE lf r) a nS c a b (ii 0)
theorem Wk{lf:Nat}{r:RT}(K:KT):∀fu,wS lf r fu (fun a=>K (.exit 0) (zp [3] [a]))=fun a b c d e f=>aO (cQ 141 (pb 6 11) lf
 r) Wj fu (zp Wj [a,b,c,d,e,f]) K
 |0=>by funext a b c d e f;kernel_rfl
 |fu+1=>by
  have ih:=Wk (lf:=lf) (r:=r) K fu
  funext a b c d e f
  rw[wS]
  simp only[ih]
  kernel_rfl
theorem agG{lf:Nat}{r:RT}:FE lf r=(fun a=>(tK 141 (pb 5 11) lf r) (.exit 0) (zp [3] [a])):=by kernel_rfl
theorem Wl{lf:Nat}{r:RT}{a:V}:aG ai gt lf r 141 #[a]=inside (FF lf r a):=by
 unfold FF
 simp only[agG,Wk]
 kernel_rfl
def Lx(lf:Nat)(r:RT)(a b c:V):M V:=ay b fun d=>aH a d fun e=>ar e (ak [bT]) (ay c fun f=>ft a f fun g=>ak [g])
theorem Wm{lf:Nat}{r:RT}{a b c:V}:aG ai gt lf r 142 #[a,b,c]=inside (Lx lf r a b c):=by kernel_rfl
def Wn(lf:Nat)(r:RT)(a b:V):M V:=jt 151 a fun c=>jt 151 b fun d=>aE 0 c fun e=>ay e fun f=>aE 0 d fun g=>ay g fun h=>aH f
 h fun i=>ar i (ak [bT]) (aE 0 c fun j=>ay j fun l=>aE 0 d fun m=>ay m fun n=>bJ l n fun o=>ar o (aE 1 c fun p=>ay p fun q=>aE 1 d fun s=>
 ay s fun t=>aH q t fun u=>ak [u]) (ak [bF]))
theorem agH{lf:Nat}{r:RT}{a b:V}:aG ai gt lf r 143 #[a,b]=inside (Wn lf r a b):=by kernel_rfl
def Wo(lf:Nat)(r:RT)(a:V):M V:=fw a nP fun b=>ar b (ak [(ii 0)]) ((aV (az r 51 [a] M.ret)).bind fun c=>aI a fun d=>aE 2 d
 fun e=>(aV (ay e M.ret)).bind fun f=>bW c.1 f.1 fun g=>iy ((!(fH c.2 f.2)&&true)&&true) (ak [g]))
theorem agI{lf:Nat}{r:RT}{a:V}:aG ai gt lf r 144 #[a]=inside (Wo lf r a):=by kernel_rfl
def Wp(lf:Nat)(r:RT)(a b:V):M V:=aI a fun c=>aE 0 c fun d=>ay d fun e=>mi b (ii 8) fun f=>aI a fun g=>aE 1 g fun h=>ay h
 fun i=>bW f i fun j=>pf e j fun l=>pd b (ii 8) fun c=>bW (ii 7) c fun d=>od l d fun e=>Ar e (i1 1) fun f=>eZ .u32 f fun g=>ak [g]
theorem agJ{lf:Nat}{r:RT}{a b:V}:aG ai gt lf r 145 #[a,b]=inside (Wp lf r a b):=by kernel_rfl
def wT(lf:Nat)(r:RT):Nat->(V->V->M V)->V->V->V->V->V->V->M V
 |0,_,_,_,_,_,_,_=> .fail
 |fu+1,k,a,b,c,d,e,f=>aH f e fun g=>ar g (aI d fun h=>aE 2 h fun i=>ay i fun j=>cZ 3 1 f fun l=>cO 3 1 j l fun m=>aI d fun n=>aE 2 n
  fun o=>bG o m fun _=>aI d fun h=>aE 1 h fun i=>ay i fun j=>cZ 3 1 (ii (-1)) fun l=>cO 3 1 j l fun m=>aI d fun n=>aE 1 n fun o=>bG o m fun _
  =>aC f (ii 1) fun h=>wT lf r fu k a b c d e h) (k b d)
def Wq:List Nat:=[0,1,2,3,12,13]
def Ly(lf:Nat)(r:RT):(V->V->M V):=fun a b=>aI b fun c=>aE 2 c fun d=>ay d fun e=>az r 149 [e,(pP (sq 150) #[] #[a])] fun f=>ak [b]
def FG(lf:Nat)(r:RT)(a:V):M V:=jt 22 a fun b=>(aV (ay b M.ret)).bind fun c=>(aV (az r 72 [c.1] M.ret)).bind fun d=>(aV (ay b
 M.ret)).bind fun e=>aN e.1 fun f=>gS RJ [(0,1,d.1),(3,1,f)] fun g=>(aV (jt 164 g M.ret)).bind fun h=>iy ((!(fH d.2 e.2)&&true)&&true)
 (ay b fun c=>aN c fun d=>wT lf r lf (Ly lf r) a b nP h.1 d (ii 0))
theorem Wt{lf:Nat}{r:RT}(K:KT):∀fu,wT lf r fu (fun a b=>K (.exit 0) (zp [1,3] [a,b]))=fun a b c d e f=>aO (cQ 146 (pb
 6 11) lf r) Wq fu (zp Wq [a,b,c,d,e,f]) K
 |0=>by funext a b c d e f;kernel_rfl
 |fu+1=>by
  have ih:=Wt (lf:=lf) (r:=r) K fu
  funext a b c d e f
  rw[wT]
  simp only[ih]
  kernel_rfl
theorem agK{lf:Nat}{r:RT}:Ly lf r=(fun a b=>(tK 146 (pb 5 11) lf r) (.exit 0) (zp [1,3] [a,b])):=by kernel_rfl
theorem Wu{lf:Nat}{r:RT}{a:V}:aG ai gt lf r 146 #[a]=inside (FG lf r a):=by
 unfold FG
 simp only[agK,Wt]
 kernel_rfl
def Lz(lf:Nat)(r:RT)(a:V):M V:=aI a fun b=>aE 3 b fun c=>ay c fun d=>aI a fun e=>aE 0 e fun f=>ay f fun g=>aN g fun h=>
 bJ d h fun i=>ar i (aI a fun b=>aE 2 b fun c=>ay c fun d=>aL d (ii 0) fun e=>ay e fun f=>aI a fun b=>aE 2 b fun c=>ay c fun d=>rA 3 1 d
 (some (ii 1)) none fun e=>aI a fun g=>aE 2 g fun h=>bG h e fun _=>ak [f]) (aI a fun j=>aE 2 j fun l=>ay l fun m=>aN m fun n=>ft n (ii 0) fun
 o=>ar o (aI a fun p=>aE 0 p fun q=>ay q fun s=>aI a fun t=>aE 2 t fun u=>ay u fun v=>aL v (ii 0) fun w=>ay w fun x=>aL s x fun y=>ay y
 fun z=>aI a fun A=>aE 0 A fun B=>ay B fun C=>aI a fun D=>aE 3 D fun E=>ay E fun G=>aL C G fun J=>ay J fun L=>jP z L fun N=>ar N (aI a
 fun b=>aE 2 b fun c=>ay c fun d=>aL d (ii 0) fun e=>ay e fun f=>aI a fun b=>aE 2 b fun c=>ay c fun d=>rA 3 1 d (some (ii 1)) none fun e=>aI
 a fun g=>aE 2 g fun h=>bG h e fun _=>ak [f]) (aI a fun b=>aE 3 b fun c=>ay c fun d=>aC d (ii 1) fun e=>aI a fun f=>aE 3 f fun g=>bG g e
 fun _=>aI a fun b=>aE 3 b fun c=>ay c fun d=>bW d (ii 1) fun e=>ak [e])) (aI a fun b=>aE 3 b fun c=>ay c fun d=>aC d (ii 1) fun e=>aI a
 fun f=>aE 3 f fun g=>bG g e fun _=>aI a fun b=>aE 3 b fun c=>ay c fun d=>bW d (ii 1) fun e=>ak [e]))
theorem Wv{lf:Nat}{r:RT}{a:V}:aG ai gt lf r 147 #[a]=inside (Lz lf r a):=by kernel_rfl
def LA(lf:Nat)(r:RT)(a b c:V):M V:=aI a fun d=>aE 1 d fun e=>ay e fun f=>aI a fun g=>aE 0 g fun h=>ay h fun i=>aN i fun j
 =>aL f b fun l=>bG l j fun _=>aI a fun d=>aE 1 d fun e=>ay e fun f=>aI a fun g=>aE 0 g fun h=>ay h fun i=>aN i fun j=>aL f c fun l=>bG
 l j fun _=>aI a fun d=>aE 0 d fun e=>ay e fun f=>aI a fun g=>aE 0 g fun h=>ay h fun i=>aL i b fun j=>ay j fun l=>aI a fun m=>aE 0 m fun n
 =>ay n fun o=>aL o c fun p=>ay p fun q=>aC l q fun s=>cZ 3 1 s fun t=>cO 3 1 f t fun u=>aI a fun v=>aE 0 v fun w=>bG w u fun _=>aI a fun d
 =>aE 1 d fun e=>ay e fun f=>cZ 3 1 (ii (-1)) fun g=>cO 3 1 f g fun h=>aI a fun i=>aE 1 i fun j=>bG j h fun _=>ak []
theorem Ww{lf:Nat}{r:RT}{a b c:V}:aG ai gt lf r 148 #[a,b,c]=inside (LA lf r a b c):=by kernel_rfl
def LB(lf:Nat)(r:RT)(a b:V):M V:=aN a fun c=>az r 152 [a,c,b] fun d=>ak []
theorem Wx{lf:Nat}{r:RT}{a b:V}:aG ai gt lf r 149 #[a,b]=inside (LB lf r a b):=by kernel_rfl
def LC(lf:Nat)(r:RT)(a b c:V):M V:=ay c fun d=>aL d a fun e=>ay e fun f=>ay c fun g=>aL g b fun h=>ay h fun i=>az r 151 [f,i] fun j=>ak [j]
theorem Wy{lf:Nat}{r:RT}{a b c:V}:aG ai gt lf r 150 #[a,b,c]=inside (LC lf r a b c):=by kernel_rfl
def LD(lf:Nat)(r:RT)(a b:V):M V:=az r 153 [a] fun c=>az r 153 [b] fun d=>ar c (ar d (ak [(ii 0)]) (ak [(ii (-1))])) (ar d (ak
 [(ii 1)]) (aH a b fun e=>ar e (ak [(ii (-1))]) (ft a b fun f=>ar f (ak [(ii 1)]) (ak [(ii 0)]))))
theorem Wz{lf:Nat}{r:RT}{a b:V}:aG ai gt lf r 151 #[a,b]=inside (LD lf r a b):=by kernel_rfl
def wU(lf:Nat)(r:RT):Nat->(V->V->V->V->V->V->V->M V)->V->V->V->V->V->V->M V
 |0,_,_,_,_,_,_,_=> .fail
 |fu+1,k,a,b,c,d,e,f=>jP f b fun g=>ar g (az r 154 [a,e,f,c] fun h=>aC f d fun e=>wU lf r fu k a b c d f e) (k a b c d e f g)
def WA:List Nat:=[0,1,2,6,7,8]
def wV(lf:Nat)(r:RT):Nat->(V->V->V->V->V->V->V->M V)->V->V->V->V->V->V->V->V->M V
 |0,_,_,_,_,_,_,_,_,_=> .fail
 |fu+1,k,a,b,c,d,e,f,g,h=>jP f b fun i=>ar i (aC e d fun j=>az r 155 [a,e,j,f,c] fun l=>jO (ii 2) d fun e=>aC f e fun j=>
  wV lf r fu k a b c d f j g h) (k a b c d e f g)
def WB:List Nat:=[0,1,2,6,7,8,13,30]
def FH(lf:Nat)(r:RT)(k:(M V))(again:V->V->V->V->V->V->V->M V):(V->V->V->V->V->V->V->M V):=fun a b c d e f g=>aC e d fun h=>aH h b fun i
 =>ar i (az r 155 [a,e,h,b,c] fun j=>jO d (ii 2) fun j=>again a b c j e f g) (jO d (ii 2) fun j=>again a b c j e f g)
def tX(lf:Nat)(r:RT):Nat->(M V)->V->V->V->V->V->V->V->M V
 |0,_,_,_,_,_,_,_,_=> .fail
 |fu+1,k,a,b,c,d,e,f,g=>aH d b fun h=>ar h (jO (ii 2) d fun i=>wV lf r lf (FH lf r k
  (tX lf r fu k)) a b c d (ii 0) i g h) (k)
def Bc:List Nat:=[0,1,2,6,7,8,13]
abbrev agL(lf:Nat)(r:RT)(fu:Nat)(k:(M V)):(V->V->V->V->V->V->V->M V):=FH lf r k (tX lf r fu k)
def FI(lf:Nat)(r:RT):(M V):=ak []
def Bd(lf:Nat)(r:RT):(V->V->V->V->V->V->V->M V):=fun a b c d e f g=>az r 154 [a,e,b,c] fun h=>tX lf r lf
 (FI lf r) a b c d e f g
def FJ(lf:Nat)(r:RT)(a b c:V):M V:=wU lf r lf (Bd lf r) a b c (ii 20) (ii 0) (ii 20)
theorem WC{lf:Nat}{r:RT}(K:KT):∀fu,wU lf r fu (fun a b c d e f g=>K (.exit 0) (zp [0,1,2,6,7,8,
 13] [a,b,c,d,e,f,g]))=fun a b c d e f=>aO (cQ 152 (pb 5 3) lf r) WA fu (zp WA [a,b,c,d,e,f]) K
 |0=>by funext a b c d e f;kernel_rfl
 |fu+1=>by
  have ih:=WC (lf:=lf) (r:=r) K fu
  funext a b c d e f
  rw[wU]
  simp only[ih]
  kernel_rfl
theorem WD{lf:Nat}{r:RT}(K:KT):∀fu,wV lf r fu (fun a b c d e f g=>K (.exit 4) (zp [0,1,2,6,7,8,
 13] [a,b,c,d,e,f,g]))=fun a b c d e f g h=>aO (cQ 152 (pb 12 335) lf r) WB fu (zp WB [a,b,c,d,e,f,g,h]) K
 |0=>by funext a b c d e f g h;kernel_rfl
 |fu+1=>by
  have ih:=WD (lf:=lf) (r:=r) K fu
  funext a b c d e f g h
  rw[wV]
  simp only[ih]
  kernel_rfl
theorem agM{lf:Nat}{r:RT}(K:KT)(fu:Nat):FH lf r (K (.exit 2) []) (fun a b c d e f g=>aO (cQ 152 (pb
 6 15) lf r) Bc fu (zp Bc [a,b,c,d,e,f,g]) K)=(fun a b c d e f g=>(iK 152 (pb 6 15) (pb 5 5)
 Bc fu K lf r) (.exit 4) (zp [0,1,2,6,7,8,13] [a,b,c,d,e,f,g])):=by kernel_rfl
theorem LF{lf:Nat}{r:RT}(K:KT):∀fu,tX lf r fu (K (.exit 2) [])=fun a b c d e f g=>aO (cQ 152 (pb
 6 15) lf r) Bc fu (zp Bc [a,b,c,d,e,f,g]) K
 |0=>by funext a b c d e f g;kernel_rfl
 |fu+1=>by
  have ih:=LF (lf:=lf) (r:=r) K fu
  funext a b c d e f g
  rw[tX]
  simp only[ih,agM,WD]
  kernel_rfl
theorem WE{lf:Nat}{r:RT}:FI lf r=((tK 152 (pb 5 15) lf r) (.exit 2) []):=by kernel_rfl
theorem agN{lf:Nat}{r:RT}:Bd lf r=(fun a b c d e f g=>(tK 152 (pb 4 3) lf r) (.exit 0) (zp [0,1,2,6,7,8,13] [a,b,c,d,e,f,g])):=by
 unfold Bd
 simp only[WE,LF]
 kernel_rfl
theorem WG{lf:Nat}{r:RT}{a b c:V}:aG ai gt lf r 152 #[a,b,c]=inside (FJ lf r a b c):=by
 unfold FJ
 simp only[agN,WE,WC,LF]
 kernel_rfl
def LG(lf:Nat)(r:RT)(a:V):M V:=dO a a fun b=>ak [b]
theorem WH{lf:Nat}{r:RT}{a:V}:aG ai gt lf r 153 #[a]=inside (LG lf r a):=by kernel_rfl
def wW(lf:Nat)(r:RT):Nat->(V->V->V->V->V->M V)->V->V->V->V->V->V->V->M V
 |0,_,_,_,_,_,_,_,_=> .fail
 |fu+1,k,a,b,c,d,e,f,g=>ft f b fun h=>ar h (aL a f fun i=>ay i fun j=>bW f (ii 1) fun l=>aL a l fun m=>ay m fun n=>fO ai r d
  [j,n] fun o=>aH o (ii 0) fun p=>ar p (bW f (ii 1) fun h=>bW f (ii 1) fun i=>aL a i fun j=>ay j fun l=>aL a f fun m=>ay m fun n=>aL a f fun o
  =>bG o l fun _=>aL a h fun q=>bG q n fun _=>bW f (ii 1) fun h=>wW lf r fu k a b c d e h g) (k a b c d e)) (k a b c d e)
def WI:List Nat:=[0,1,2,3,8,9,14]
def FK(lf:Nat)(r:RT)(k:(M V))(again:V->V->V->V->V->M V):(V->V->V->V->V->M V):=fun a b c d e=>aC e (ii 1) fun f=>again a b c d f
def qn(lf:Nat)(r:RT):Nat->(M V)->V->V->V->V->V->M V
 |0,_,_,_,_,_,_=> .fail
 |fu+1,k,a,b,c,d,e=>aH e c fun f=>ar f (wW lf r lf (FK lf r k
  (qn lf r fu k)) a b c d e e f) (k)
def Be:List Nat:=[0,1,2,3,8]
abbrev agO(lf:Nat)(r:RT)(fu:Nat)(k:(M V)):(V->V->V->V->V->M V):=FK lf r k (qn lf r fu k)
def Bf(lf:Nat)(r:RT):(M V):=ak []
def Bg(lf:Nat)(r:RT)(a b c d:V):M V:=aC b (ii 1) fun e=>qn lf r lf (Bf lf r) a b c d e
theorem WJ{lf:Nat}{r:RT}(K:KT):∀fu,wW lf r fu (fun a b c d e=>K (.exit 2) (zp [0,1,2,
 3,8] [a,b,c,d,e]))=fun a b c d e f g=>aO (cQ 154 (pb 9 73) lf r) WI fu (zp WI [a,b,c,d,e,f,g]) K
 |0=>by funext a b c d e f g;kernel_rfl
 |fu+1=>by
  have ih:=WJ (lf:=lf) (r:=r) K fu
  funext a b c d e f g
  rw[wW]
  simp only[ih]
  kernel_rfl
theorem agP{lf:Nat}{r:RT}(K:KT)(fu:Nat):FK lf r (K (.exit 0) []) (fun a b c d e=>aO
 (cQ 154 (pb 3 1) lf r) Be fu (zp Be [a,b,c,d,e]) K)=(fun a b c d e=>(iK 154 (pb 3 1) (pb 5 9)
 Be fu K lf r) (.exit 2) (zp [0,1,2,3,8] [a,b,c,d,e])):=by kernel_rfl
theorem WK{lf:Nat}{r:RT}(K:KT):∀fu,qn lf r fu (K (.exit 0) [])=fun a b c d e=>aO
 (cQ 154 (pb 3 1) lf r) Be fu (zp Be [a,b,c,d,e]) K
 |0=>by funext a b c d e;kernel_rfl
 |fu+1=>by
  have ih:=WK (lf:=lf) (r:=r) K fu
  funext a b c d e
  rw[qn]
  simp only[ih,agP,WJ]
  kernel_rfl
theorem agQ{lf:Nat}{r:RT}:Bf lf r=((tK 154 (pb 2 1) lf r) (.exit 0) []):=by kernel_rfl
theorem LH{lf:Nat}{r:RT}{a b c d:V}:aG ai gt lf r 154 #[a,b,c,d]=inside (Bg lf r a b c d):=by
 unfold Bg
 simp only[agQ,WK]
 kernel_rfl
def tY(lf:Nat)(r:RT):Nat->(V->V->V->V->V->V->V->V->V->M V)->V->V->V->V->V->V->V->V->M V
 |0,_,_,_,_,_,_,_,_,_=> .fail
 |fu+1,k,a,b,c,d,e,f,g,h=>aH f g fun i=>ar i (aC f g fun j=>eZ .u64 j fun l=>od l (i6 1) fun m=>eZ .i64 m fun n=>aL a n fun j=>ay j
  fun l=>aL a b fun m=>ay m fun o=>fO ai r e [l,o] fun p=>aH p (ii 0) fun q=>ar q (aC n (ii 1) fun j=>tY lf r fu
  k a b c d e j g h) (tY lf r fu k a b c d e f n h)) (k a b c d e f g h i)
def WL:List Nat:=[0,1,2,3,4,10,11,28]
def tZ(lf:Nat)(r:RT):Nat->(V->V->V->V->V->V->V->V->V->V->M V)->V->V->V->V->V->V->V->V->V->M V
 |0,_,_,_,_,_,_,_,_,_,_=> .fail
 |fu+1,k,a,b,c,d,e,f,g,h,i=>aH f g fun j=>ar j (aC f g fun l=>eZ .u64 l fun m=>od m (i6 1) fun n=>eZ .i64 n fun o=>aL a c fun l=>ay l
  fun m=>aL a o fun n=>ay n fun p=>fO ai r e [m,p] fun q=>aH q (ii 0) fun s=>dZ s fun t=>ar t (aC o (ii 1) fun l=>
  tZ lf r fu k a b c d e l g h i) (tZ lf r fu k a b c d e f o h i)) (k a b c d e f g h i j)
def WM:List Nat:=[0,1,2,3,4,14,15,28,80]
def ua(lf:Nat)(r:RT):Nat->(V->V->V->V->V->V->V->V->M V)->V->V->V->V->V->V->V->V->V->V->V->V->V->M V
 |0,_,_,_,_,_,_,_,_,_,_,_,_,_,_=> .fail
 |fu+1,k,a,b,c,d,e,f,g,h,i,j,l,m,n=>aH h i fun o=>ar o (aC h i fun p=>eZ .u64 p fun q=>od q (i6 1) fun s=>eZ .i64 s fun t=>bW j t
  fun p=>aL a p fun q=>ay q fun s=>aL a t fun u=>ay u fun v=>fO ai r e [s,v] fun w=>aH w (ii 0) fun x=>dZ x fun y=>ar y (aC t (ii 1)
  fun p=>ua lf r fu k a b c d e f g p i j l m n) (ua lf r fu k a b c d e f g h t j l m n)) (k a b c d e f g h)
def WN:List Nat:=[0,1,2,3,4,18,19,20,21,22,28,80,140]
def wX(lf:Nat)(r:RT):Nat->(M V)->V->V->V->V->V->V->V->V->V->V->M V
 |0,_,_,_,_,_,_,_,_,_,_,_=> .fail
 |fu+1,k,a,b,c,d,e,f,g,h,i,j=>bW f (ii 1) fun l=>aH h l fun m=>ar m (aC h (ii 1) fun l=>aC h (ii 1) fun n=>aL a n fun o=>ay o fun p=>
  aL a h fun q=>ay q fun s=>aL a h fun t=>bG t p fun _=>aL a l fun u=>bG u s fun _=>aC h (ii 1) fun l=>wX lf r fu k a b c d e f g l i j) (k)
def WO:List Nat:=[0,1,2,3,4,10,11,13,28,33]
def wY(lf:Nat)(r:RT):Nat->(M V)->V->V->V->V->V->V->V->V->V->V->V->M V
 |0,_,_,_,_,_,_,_,_,_,_,_,_=> .fail
 |fu+1,k,a,b,c,d,e,f,g,h,i,j,l=>ft h f fun m=>ar m (bW h (ii 1) fun n=>bW h (ii 1) fun o=>aL a o fun p=>ay p fun q=>aL a h fun s=>
  ay s fun t=>aL a h fun u=>bG u q fun _=>aL a n fun v=>bG v t fun _=>bW h (ii 1) fun n=>wY lf r fu k a b c d e f g n i j l) (k)
def WQ:List Nat:=[0,1,2,3,4,14,15,17,28,80,85]
def LI(lf:Nat)(r:RT):(M V):=ak []
def LJ(lf:Nat)(r:RT):(M V):=ak []
def Bh(lf:Nat)(r:RT):(V->V->V->V->V->V->V->V->M V):=fun a b c d e f g h=>bW g h fun i=>aH h c fun j=>ar j (aH c i fun l=>(fun m
 =>ar l (az r 156 [a,h,c,i,e] fun j=>m) (m)) (aH b h fun j=>ar j (aH h f fun m=>(fun n=>ar m (az r 155 [a,b,h,f,e] fun j=>n) (n)) (aH f i fun
 j=>ar j (aH i d fun n=>ar n (az r 155 [a,f,i,d,e] fun j=>ak []) (ak [])) (ak []))) (aH f i fun j=>ar j (aH i d fun m=>ar m (az r 155 [a,
 f,i,d,e] fun j=>ak []) (ak [])) (ak [])))) (aH b h fun j=>ar j (aH h f fun l=>(fun m=>ar l (az r 155 [a,b,h,f,e] fun j=>m) (m)) (aH f i
 fun j=>ar j (aH i d fun m=>ar m (az r 155 [a,f,i,d,e] fun j=>ak []) (ak [])) (ak []))) (aH f i fun j=>ar j (aH i d fun l=>ar l (az r 155
 [a,f,i,d,e] fun j=>ak []) (ak [])) (ak [])))
def Bi(lf:Nat)(r:RT):(V->V->V->V->V->V->V->V->V->V->M V):=fun a b c d e f g h i j=>wY lf r lf
 (LI lf r) a b c d e f g c h i j
def Bj(lf:Nat)(r:RT):(V->V->V->V->V->V->V->V->V->M V):=fun a b c d e f g h i=>wX lf r lf (LJ lf r) a b c d e f g b h i
def yP(lf:Nat)(r:RT)(a b c d e:V):M V:=bW c b fun f=>bJ f (ii 1) fun g=>ar g (tY lf r lf
 (Bj lf r) a b c d e c d g) (bW d c fun f=>bJ f (ii 1) fun h=>ar h (tZ lf r lf
 (Bi lf r) a b c d e b c g h) (aC b d fun f=>eZ .u64 f fun i=>od i (i6 1) fun j=>eZ .i64 j fun l=>aC l c fun f=>ft c l fun i
 =>(fun m=>ar i (bW f d fun j=>m j l) (m b c)) fun m j=>bW f (ii 1) fun n=>ua lf r lf (Bh lf r) a b c d e l f m j n g h i))
theorem WS{lf:Nat}{r:RT}(K:KT):∀fu,tY lf r fu (fun a b c d e f g h i=>K (.exit 0) (zp [0,1,2,3,
 4,10,11,28,33] [a,b,c,d,e,f,g,h,i]))=fun a b c d e f g h=>aO (cQ 155 (pb 8 26) lf r) WL fu (zp WL [a,b,c,d,e,f,g,h]) K
 |0=>by funext a b c d e f g h;kernel_rfl
 |fu+1=>by
  have ih:=WS (lf:=lf) (r:=r) K fu
  funext a b c d e f g h
  rw[tY]
  simp only[ih]
  kernel_rfl
theorem WT{lf:Nat}{r:RT}(K:KT):∀fu,tZ lf r fu (fun a b c d e f g h i j=>K (.exit 4) (zp [0,1,2,
 3,4,14,15,28,80,85] [a,b,c,d,e,f,g,h,i,j]))=fun a b c d e f g h i=>aO (cQ 155 (pb 9 53) lf r) WM fu (zp
 WM [a,b,c,d,e,f,g,h,i]) K
 |0=>by funext a b c d e f g h i;kernel_rfl
 |fu+1=>by
  have ih:=WT (lf:=lf) (r:=r) K fu
  funext a b c d e f g h i
  rw[tZ]
  simp only[ih]
  kernel_rfl
theorem WU{lf:Nat}{r:RT}(K:KT):∀fu,ua lf r fu (fun a b c d e f g h=>K (.exit 8) (zp [0,1,2,3,
 4,18,19,20] [a,b,c,d,e,f,g,h]))=fun a b c d e f g h i j l m n=>aO (cQ 155 (pb 10 127) lf r) WN fu (zp
 WN [a,b,c,d,e,f,g,h,i,j,l,m,n]) K
 |0=>by funext a b c d e f g h i j l m n;kernel_rfl
 |fu+1=>by
  have ih:=WU (lf:=lf) (r:=r) K fu
  funext a b c d e f g h i j l m n
  rw[ua]
  simp only[ih]
  kernel_rfl
theorem LK{lf:Nat}{r:RT}(K:KT):∀fu,wX lf r fu (K (.exit 2) [])=fun a b c d e f g h i j=>aO
 (cQ 155 (pb 10 186) lf r) WO fu (zp WO [a,b,c,d,e,f,g,h,i,j]) K
 |0=>by funext a b c d e f g h i j;kernel_rfl
 |fu+1=>by
  have ih:=LK (lf:=lf) (r:=r) K fu
  funext a b c d e f g h i j
  rw[wX]
  simp only[ih]
  kernel_rfl
theorem LL{lf:Nat}{r:RT}(K:KT):∀fu,wY lf r fu (K (.exit 6) [])=fun a b c d e f g h i j l=>aO
 (cQ 155 (pb 11 373) lf r) WQ fu (zp WQ [a,b,c,d,e,f,g,h,i,j,l]) K
 |0=>by funext a b c d e f g h i j l;kernel_rfl
 |fu+1=>by
  have ih:=LL (lf:=lf) (r:=r) K fu
  funext a b c d e f g h i j l
  rw[wY]
  simp only[ih]
  kernel_rfl
theorem WV{lf:Nat}{r:RT}:LI lf r=((tK 155 (pb 10 373) lf r) (.exit 6) []):=by kernel_rfl
theorem WW{lf:Nat}{r:RT}:LJ lf r=((tK 155 (pb 9 186) lf r) (.exit 2) []):=by kernel_rfl
theorem agR{lf:Nat}{r:RT}:Bh lf r=(fun a b c d e f g h=>(tK 155 (pb 9 127) lf r) (.exit 8) (zp [0,1,
 2,3,4,18,19,20] [a,b,c,d,e,f,g,h])):=by kernel_rfl
theorem agS{lf:Nat}{r:RT}:Bi lf r=(fun a b c d e f g h i j=>(tK 155 (pb 8 53) lf r) (.exit 4) (zp [0,
 1,2,3,4,14,15,28,80,85] [a,b,c,d,e,f,g,h,i,j])):=by
 unfold Bi
 simp only[WV,LL]
 kernel_rfl
theorem agT{lf:Nat}{r:RT}:Bj lf r=(fun a b c d e f g h i=>(tK 155 (pb 7 26) lf r) (.exit 0) (zp [0,1,
 2,3,4,10,11,28,33] [a,b,c,d,e,f,g,h,i])):=by
 unfold Bj
 simp only[WW,LK]
 kernel_rfl
theorem FL{lf:Nat}{r:RT}{a b c d e:V}:aG ai gt lf r 155 #[a,b,c,d,e]=inside (yP lf r a b c d e):=by
 unfold yP
 simp only[agT,agS,agR,WW,
  WV,WS,WT,WU,LK,LL]
 kernel_rfl
def wZ(lf:Nat)(r:RT):Nat->(V->V->V->V->M V)->V->V->V->V->V->V->V->M V
 |0,_,_,_,_,_,_,_,_=> .fail
 |fu+1,k,a,b,c,d,e,f,g=>dO f g fun h=>ar h (ft f g fun i=>ar i (bW c f fun j=>az r 157 [a,j,c,g,e] fun l=>bW f g fun j=>
  wZ lf r fu k a b c d e j g) (bW c f fun j=>aC c g fun l=>bW l f fun m=>az r 157 [a,j,m,f,e] fun n=>bW g f fun j=>
  wZ lf r fu k a b c d e f j)) (k a c e f)
def WX:List Nat:=[0,1,2,3,4,10,11]
def LM(lf:Nat)(r:RT):(V->V->V->V->M V):=fun a b c d=>bW b d fun e=>az r 157 [a,e,b,d,c] fun f=>ak []
def FM(lf:Nat)(r:RT)(a b c d e:V):M V:=bW c b fun f=>bW d c fun g=>wZ lf r lf (LM lf r) a b c d e f g
theorem WY{lf:Nat}{r:RT}(K:KT):∀fu,wZ lf r fu (fun a b c d=>K (.exit 0) (zp [0,2,4,10] [a,b,c,
 d]))=fun a b c d e f g=>aO (cQ 156 (pb 5 3) lf r) WX fu (zp WX [a,b,c,d,e,f,g]) K
 |0=>by funext a b c d e f g;kernel_rfl
 |fu+1=>by
  have ih:=WY (lf:=lf) (r:=r) K fu
  funext a b c d e f g
  rw[wZ]
  simp only[ih]
  kernel_rfl
theorem agU{lf:Nat}{r:RT}:LM lf r=(fun a b c d=>(tK 156 (pb 4 3) lf r) (.exit 0) (zp [0,2,4,10] [a,b,c,d])):=by kernel_rfl
theorem WZ{lf:Nat}{r:RT}{a b c d e:V}:aG ai gt lf r 156 #[a,b,c,d,e]=inside (FM lf r a b c d e):=by
 unfold FM
 simp only[agU,WY]
 kernel_rfl
def w7(lf:Nat)(r:RT):Nat->(M V)->V->V->V->V->V->M V
 |0,_,_,_,_,_,_=> .fail
 |fu+1,k,a,b,c,d,e=>aH e d fun f=>ar f (aC b e fun g=>aC c e fun h=>aC c e fun i=>aL a i fun j=>ay j fun l=>aC b e fun m=>aL a m fun n
  =>ay n fun o=>aL a g fun p=>bG p l fun _=>aL a h fun q=>bG q o fun _=>aC e (ii 1) fun g=>w7 lf r fu k a b c d g) (k)
def W0:List Nat:=[0,1,2,3,10]
def LN(lf:Nat)(r:RT):(M V):=ak []
def FN(lf:Nat)(r:RT)(a b c d e:V):M V:=w7 lf r lf (LN lf r) a b c d (ii 0)
theorem W1{lf:Nat}{r:RT}(K:KT):∀fu,w7 lf r fu (K (.exit 0) [])=fun a b c d e=>aO (cQ 157
 (pb 3 1) lf r) W0 fu (zp W0 [a,b,c,d,e]) K
 |0=>by funext a b c d e;kernel_rfl
 |fu+1=>by
  have ih:=W1 (lf:=lf) (r:=r) K fu
  funext a b c d e
  rw[w7]
  simp only[ih]
  kernel_rfl
theorem agV{lf:Nat}{r:RT}:LN lf r=((tK 157 (pb 2 1) lf r) (.exit 0) []):=by kernel_rfl
theorem W2{lf:Nat}{r:RT}{a b c d e:V}:aG ai gt lf r 157 #[a,b,c,d,e]=inside (FN lf r a b c d e):=by
 unfold FN
 simp only[agV,W1]
 kernel_rfl
end
end Go.Proofs.YtdagfcflbphoiaaGreatDoor
