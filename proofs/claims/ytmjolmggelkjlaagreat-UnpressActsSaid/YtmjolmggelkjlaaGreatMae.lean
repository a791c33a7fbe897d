import Derived.Test.YtmjolmggelkjlaaGreatRows
import Derived.Test.YtmjolmggelkjlaaGreatMad
open Go.Proofs.Tryz renaming prog→aa
open Go.Value renaming string→aO, func→Ar
open List renaming replicate→bQ
open Go.Fn renaming func→As
set_option linter.unusedVariables false
set_option linter.unusedSimpArgs false
namespace Go.Proofs.YtmjolmggelkjlaaGreat
open Go.RowKit Ev
abbrev oG:Hint:=([],[],[])
noncomputable abbrev ak {a:Type} (n:Nat) (x:Value) (k:Value->M a):M a:=ay n x fun c=>aQ c k
noncomputable abbrev aX {d:Type} (a b:Value) (x y:M d):M d:=eg a b fun c=>aA c x y
noncomputable abbrev vK {d:Type} (a b:Value) (x y:M d):M d:=mf a b fun c=>aA c x y
noncomputable abbrev eD {d:Type} (a b:Value) (x y:M d):M d:=iH a b fun c=>aA c x y
noncomputable abbrev gw {d:Type} (a b:Value) (x y:M d):M d:=qj a b fun c=>aA c x y
noncomputable abbrev bq {d:Type} (a b:Value) (x y:M d):M d:=cD a b fun c=>aA c x y
noncomputable abbrev cb {d:Type} (a b:Value) (x y:M d):M d:=fA a b fun c=>aA c x y
noncomputable abbrev c9 {d:Type} (a b:Value) (x y:M d):M d:=rk a b fun c=>aA c x y
noncomputable abbrev lf {d:Type} (a b:Value) (x y:M d):M d:=xQ a b fun c=>aA c x y
noncomputable abbrev ac3 {d:Type} (a b:Value) (x y:M d):M d:=xR a b fun c=>aA c x y
noncomputable abbrev anP {d:Type} (a b:Value) (x y:M d):M d:=xS a b fun c=>aA c x y
noncomputable abbrev anQ {d:Type} (a b:Value) (x y:M d):M d:=Bf a b fun c=>aA c x y
noncomputable abbrev anR {d:Type} (a b:Value) (x y:M d):M d:=xP a b fun c=>aA c x y
def gtL:List Hint:=[oG,oG,oG,oG,oG,oG,oG,oG,([0,1,2,3,6,7,8,9,10,11,12,14,15,16,34,57,67,68,69,70,71,72,95,144],[6],[(0,[1,3,7,9,11]),(2,[0,1,2,3,6,7,8,9,10,11,12,34,57,67])]),oG,oG,oG,oG,oG,([0,2],[2],[]),oG,oG,oG,oG,oG,oG,oG,oG,oG,([0,1,2,6,7,8,10,18,19,20,21],[6],[(0,[7,8])]),([0,2,3,5,6,7,8,9],[2],[(0,[3])]),([0,1,4,5,6,7,8,9,10,15,16,17,23,45,64],[4],[(0,[4])]),([0,1,2],[2],[]),([0,1,2,3,4,5,6],[0],[]),([0,1,2,6,7,8,9,22],[6,7],[]),([0,1,2,4,5,6,9],[4],[(0,[2,4])]),([0,2],[2],[]),([0,2,4],[2],[]),([0,1,2,6],[6],[]),([0,1,2,3,5,6,7,8,9,10,11,13,50,57],[6],[]),([0,2,3,5,27],[2],[]),([0,2,4],[2],[]),([0,2,3,12],[2],[]),([0,2,4],[2],[]),([0,1,4,5,13,18,23,27],[4],[(0,[0,5])]),([0,1,4,5,19,42],[4],[]),([0,1,2,3,6,7,42,55],[6],[]),oG,oG,oG,oG,oG,oG,oG,oG,oG,oG,oG,oG,oG,oG,oG,oG,([0,2,3,5,12],[2,3],[]),([0,2],[2],[]),oG,([0,2,3,4,8],[2],[(0,[3])]),oG,([0,2,3,4,8],[2],[(0,[3])]),oG,oG,oG,oG,oG,oG,oG,oG,([0,2],[2],[]),([0,1,4,5,6,8,9,12,13,14,15,27,39,40,41,55],[4],[(0,[5,6]),(2,[0,1,4,5,6,12,13,14])]),([0,1,4,5],[4],[]),([0,1,2],[2],[]),([0,2],[2],[]),([0,2],[2],[]),([0,1,4,5,9],[4],[]),([0,2,3,4,5,7,8,15,35,47],[2],[(0,[])]),([0,1,4,5,6,7,8,9,10,11,15,16,17,23,36,41,51,59,68,72,83],[4],[(0,[4])]),([0,1,2,6],[6],[]),([0,2,10],[2],[]),([0,1,4,5,6,12],[4],[]),([0,1,4],[4],[]),([0,2,4],[2],[]),([0,2,4],[2],[]),([0,2,4],[2],[]),([0,2,3,21,27],[],[]),([0,2,3,4,23,43,56,61,67],[2],[]),([0,1,4,6],[4],[]),oG,oG,oG,oG,oG,([0,1,4,5,19],[4,5],[]),([0,2],[2],[]),([0,2,4],[2],[]),([0,1,4,5,6,7,8,15,32],[4,5],[]),oG,oG,oG,([0,1,4,5,6,7,8],[4],[(0,[5])]),([0,1,4,5,6,7,8,9,11,13,16,20,27,52,56,82],[4],[]),([0,1,2,3,4,5,8,19,30,35],[2,3],[]),oG,oG,([0,2,3,4,7],[2],[(0,[3])]),([0,1,2,3,4,6,7,8,11,21],[2],[(0,[1,3])]),([0,2],[2],[]),([0,1,2,3,4,6],[2],[]),([0,2,3,4,8],[2],[(0,[3])]),([0,2,3,6],[2],[(0,[3])]),([0,2,6],[2],[(0,[0])]),([0,2,3,6],[2],[]),([0,2,3,4,5,6,18,30],[2,3],[]),([0,1],[],[]),([0,2],[2],[]),([0,2,3,5],[2],[]),([0,1,2,3],[2],[]),([0,2,4],[2],[]),([0,2],[2],[]),([0,1,4,5,9,10,15,20],[4,5],[]),oG,oG,([0,2,4],[2],[]),([0,1,4],[4],[]),([0,2,3,4,5,6,9,11,12,17,22,24,25,32,47],[2],[(0,[2,3,4]),(2,[0,2,3,4,9,11])]),([0,1,2,6,7,8,9,10,11,12,17,31,46,65,70,86],[6],[]),([0,1,2,6,7,9,10,14,15,16,17,25],[6],[(0,[])]),([0,1,4,5,6,7,8,9,10,15,26,38,56,72],[4],[(0,[8])]),([0,1,2,6,7,8,9,11,12,26,30,31,32,33,41,44,48,49,50,57,68],[6,7],[(0,[8,9]),(2,[0,1,2,6,7,8,9,12,26,30,31,32])]),([0,1,4,5,6,7,9,12,14,15,16,17,27],[4,5],[(0,[6])]),([0,2,3,4,7,10,19,22,26,27,28],[2,3],[(0,[4]),(2,[0,2,3,4])]),([0,1,4,5,6,7,12,13,14],[4],[(0,[6])]),oG,([0,2,3,19],[2],[(0,[3])]),([0,1,4,5,6,7,8,10,11,12,13,30],[4],[(0,[4,5])]),([0,2,3,4,5,6,8,10,11,12,14,15,16,17,27,38],[2],[(0,[3]),(2,[0,2,4,5,6,10,11])]),([0,2,3,4,5,6,10],[2],[(0,[3])]),([0,1,4,5,6,7,8,9,12,17,26],[4,5],[(0,[6])]),([0,1,4,5,6,7,9,15,16,17,18,19,28,30],[4,5],[(0,[1,6,7])]),([0,2,3,4,5,6,7,8,9,10,12,13,20,26],[2],[(0,[3,4]),(2,[0,2,3,4,6,7,9])]),([0,1,4,5,6,7,9,10,11,22,23,24,25,38,39,40,41],[4],[(0,[0,1,4,5,6,7,22,23,24,25]),(2,[6])]),([0,1,4],[4],[]),([0,2,4],[2],[]),([0,1,4,5,7,24],[4],[(0,[0,5])]),([0,2,3,5],[2],[]),([0,1,4,5,6,12,15,19,35],[4,5],[]),([0,1,4,6,7,8],[],[(0,[])]),([0,2,3,10,17],[2],[]),([0,1,4,5,6,9,13],[4,5],[]),([0],[0],[]),([0],[0],[]),([0,1,4,5,6,12,16,29,37],[4],[]),([0,1,4,5,7,9,10,13,29,30,53],[4],[]),([0,1,4,5,6,22],[4,5],[]),([0,1,4,5,6,7,13,17],[4,5],[]),oG,oG,oG,([0,2,3,4,5,6,7,8,11,30,35,42,52],[2],[(0,[2,3,6,7])]),([0,1,2,6,7,8,10,11,12,21,36],[6],[(0,[6,7])]),([0,1,4,5,6,7,8,9,10,16],[4],[(0,[])]),([0,1,2,4,5,6,7,9,20,25,40,58,71],[4],[]),([0,2],[2],[]),([0,1,4],[4],[]),([0,2],[2],[]),([0,2,3,4,5,6,7,10,11,12,19],[2],[(0,[3]),(2,[0,2,3,6])]),([0,1,4],[4],[]),([0,1,2,6,7,8],[6],[]),([0,1,4,5,9,17],[4],[(0,[])]),([0,1,4,5,9,16],[4],[(0,[])]),([0,2,3,5,8],[2],[]),([0,1,4,5,6,7,9,10,11,12,13,14,24,25,26,27,28,29,42,43,44,46,47,48,49,58],[4],[(0,[4,5]),(2,[0,1,4,5,6,7,24,25,26,27,28,29]),(4,[0,1,4,5,6,7,10,24]),(6,[0,1,4,5,6,7,10,12,24,25,26,27,28,29,42,43])]),([0,1,4,5,6,8,9,18,19,20,21],[4],[(0,[5])]),([0,2,3,4,6,7,16,17,18,19,22,23,29,36],[2],[(0,[3]),(2,[0,2,3,6,16,17,18])]),([0,2,3,4,5,6,7,12,15,16,17,18,24,26,27,28,29],[2],[(0,[3]),(2,[0,2,3,4,5]),(4,[0,2,3,4,5,6,12,15,16,17])]),([0,2,3,4,6],[2],[(0,[0])]),([0,2,4],[2],[]),([0,2,3,4,21,53,73,76],[],[]),([0,2],[2],[]),oG,([0,1,5],[],[]),([0,2,3,6],[2],[]),([0,2,4],[2],[]),([0,1,2,3,4,5,6,11,12],[0],[(0,[0,1]),(2,[0,1,2,3,5])]),([0,1,4,5,6,7,10,17,22,23,24],[4,5],[(1,[6])]),([0,2,3,9],[2,3],[]),([0,1,4,5,6,19,33],[4],[]),([0,2],[2],[]),([0,2,5],[2],[]),([0,11],[],[(0,[])]),oG,oG,([0,2,3,13],[2],[(0,[3])]),([0,1,4,5,6,7,10,21,26,30,35,46,52,62],[4],[(0,[4,6,7])]),([0,2],[2],[]),([0,1,4],[4],[]),([0,1,2],[2],[]),([0,2,3,4,6,7,8,9,10,14],[2],[(0,[3])]),([0,1,4,5,6,7,8,9,11,14,15,16,18,19,20,21,27,36],[4],[(0,[6]),(2,[0,1,4,5,6,8,14,15])]),([0,1,4,5,6,7,8,9],[4],[(0,[5])]),([0,2,3,4,5,6,7,8,9,10,27],[2],[(0,[3])]),([0,1,4,5,6,7,8,9,10,11,24],[4],[(0,[5])]),([0,2,3,5,6,7,8,9,10,14,20,21,25],[2],[(0,[0,2,3,7,8,9,10]),(2,[])]),([0,1,4,5,6,7,8,13,22,34],[4],[(0,[0,1,4,5,6,7,13]),(2,[5])]),([0,2,4],[2],[]),([0,2,3,4,8,9,10],[],[(0,[])]),oG,oG,oG,oG,([0,1,2,6],[6],[]),([0,1,4,5],[4],[]),([0,1,4,5,9,18,27,48],[4],[]),([0,1,2,6,8,9,10,11,12,22],[6],[(0,[])]),([0,2,3,5,6,7,8,9,10,14,15,16],[2],[(0,[3]),(2,[0,2,3,6,7,8,9])]),([0,2,4,6,8,10],[2],[]),([0,1,4,5,7,8,9,10,11,16],[4],[(0,[5])]),([0,1,4,5,6,7,8,9,10,11,17,18,19],[4],[(0,[5]),(2,[0,1,4,5,8,9,10])]),([0,2,3,4,5,6,7,8,9,10,11,12,13,15,18,19,20,21,39,66,67,68,69],[2],[(0,[0,2,3,4,18,19,20,21]),(2,[7]),(4,[0,2,3,4,7,8,10,12,13,18,19,20,21])]),([0,2,3,5,6,7,8,9,13],[2],[(0,[3])]),oG,oG,oG,oG,([0,1,4,5,7,9,13,42],[4],[]),([0,1,4,5,6,13],[4],[]),([0,2],[2],[]),([0,2,3,4,10],[2],[]),([0,1,4,5,6,24],[4],[]),([0,2,3,27],[2],[]),([0,2,4],[2],[]),([0,2,3,4,5,6,7,8,9,18],[2],[(0,[3])]),([0,1,4,5,6,7,8,9,10,11,17],[4],[(0,[5])]),oG,([0,2,3,4,5,6,15],[2,3],[]),([0,1,4,5,7,9],[4],[]),([0,1,4,5,6,9],[4,5],[]),([0,1,4,5,6,7,8,9,22,34,43,64,68],[4,5],[]),([0,1,4,5,6,7,19],[4],[]),([0,2],[2],[]),([0,1,2,3,4],[4],[]),([0,2,3,4,5,6,8,9,10,12,13,20,23,24,25,26,35,38,39,40,41,54],[2,3],[(0,[6]),(2,[0,2,3,4,5,6,20,23,24,25])]),([0,1,4,5,8],[4],[]),([0,2,3,4,5,12],[2,3],[]),([0,1,4,5,16],[4,5],[]),([0,2,3,6],[2,3],[]),([0,1,4,5],[4],[]),([0,1,4,5,6,7,8,20,40],[4,5],[]),([0,2],[2],[]),([0,1,4,5,6,17],[4,5],[]),([0,2,4],[2],[]),([0,1,4,5,6,7,8,9,26,38],[4,5],[]),([0,1,4,5,6,7,8,17,29,36,46,56],[4,5,6],[]),([0,2,3,4,5,6,13],[2],[(0,[3])]),([0,1,2,3,4,5,6,7,8,11],[2],[(0,[3])]),([0,2,3,6],[2,3],[]),([0],[0],[]),([0,2],[2],[]),([0,2,3,5,6,7,20],[2],[(0,[0])]),([0,1,4,5,6,7,8,14,24],[4,5],[]),([0,1,4,5,6,7,8,19,32,39],[4],[]),([0,1,4,5,6,7,18,29],[4],[]),([0,2],[2],[]),([0,2,3,4,5,6,7,8,9,18,30,51,52,53,54,60],[2,3],[(1,[4]),(3,[0,2,3,4,5,6,9,18])]),([0,2,4],[2],[]),([0,1,4,5,20],[4],[]),([0,2,4],[2],[]),([0,2],[2],[]),([0,1,2,3,4],[0],[(0,[0,1])]),([0,1,4,5,6,7,8,9,10,12,21,51],[4,5],[(0,[])]),([0,1,4,5,6,7,11,12,13,21,24],[4],[(0,[0])]),([0,1,4,5,6,7,8,15,29],[4],[]),([0,1,4,5,6,7,8,13,20,32,35,55],[4],[]),([0,2,3,4],[2],[]),([0,1,4,5,6,14],[4],[(0,[0,5])]),([0,2],[2],[]),([0,2],[2],[]),([0,1,4,7],[4],[]),([0,2,3,4,6,14,15,16,17,18],[2,3],[(0,[4])]),([0,1,4],[4],[]),([0,2],[2],[]),([0,1,2,4,5,6],[6],[]),([0,1,4,5,7,8,9,16],[4],[(0,[])]),([0,1,4],[4],[]),([0,1,2,4],[4],[]),([0,1,4,5,7,8,9,16],[4],[(0,[])])]
def gt(f:Nat):Hint:=gtL.getD f ([],[],[])
theorem aE:kD aa=true:=jK
abbrev ii(x:Int):Value:= .int .i64 x
abbrev i1(x:Int):Value:= .int .u8 x
abbrev i3(x:Int):Value:= .int .u32 x
abbrev i6(x:Int):Value:= .int .u64 x
abbrev bT:Value:= .bool true
abbrev bF:Value:= .bool false
abbrev nP:Value:= .pointer none
abbrev nS:Value:= .slice none 0 0
abbrev RT:=FuncId->Array Value->M Value
abbrev V:=Value
abbrev KT:=Ex->Fr->M Value
def pb:Nat->Nat->List Bool|0,_=>[]|l+1,n=>(Nat.beq (n %2) 1)::pb l (n/2)
def zp:List Nat->List Value->Fr|[],_=>[]|_,[]=>[]|a::l,v::m=>(a,v)::zp l m
noncomputable def cQ (f:Nat) (p:List Bool) (Y:Nat) (r:RT):Fr->KT->M Value:=fun s k=>ij aa r (gt f) Y (eB (fH aa f) p) s k
noncomputable def tK (f:Nat) (p:List Bool) (Y:Nat) (r:RT):KT:=tp aa r (gt f) Y (fH aa f) p (BA aa (GF aa f))
noncomputable def iK (f:Nat) (p q:List Bool) (s:List Nat) (a:Nat) (K:KT) (Y:Nat) (r:RT):KT:=tp aa r (gt f) Y (eB (fH aa f) p) q (Nt (fun x=>aU (cQ f p Y r) s a (x.au s) K) K)
theorem aC{Y d:Nat}{f:FuncId}{a:Array Value}{b:RT->M Value}(s:∀r,ax aa gt Y r f a=b r)(h:KN.contains f=false):aj aa gt Y (d+1) f a=b (aj aa gt Y d):=by
 show(match KN.contains f with
  |true=>_
  |false=>ax aa gt Y (aj aa gt Y d) f a:M Value)=_
 rw[h];exact s _
theorem bz{a:Type}{W:Nat->Prop}{n0:Nat}{h:H}{n:Nat}{Q:a->H->Nat->Prop}{Y d:Nat}{f:FuncId}{vs:List Value}{v:Value}{W':Nat->Prop}(s:af W' n (aj aa gt Y d f ⟨vs⟩) h n fun c h' n'=>c=v∧h'=h∧n'=n)(g:n0<=n)(i:∀b,b<n->W' b->n0<=b∨W b){k:Value->M a}(x:af W n0 (k v) h n Q):af W n0 (ai (aj aa gt Y d) f vs k) h n Q:=by refine aN aE s g i fun c h' n' _ _ e=> ?_;obtain⟨rfl,rfl,rfl⟩:=e;exact x
noncomputable section
variable {Y:Nat} {r:RT} {a b c d e f g h i j l m:V}
def z33:List Value:=[(ii 0),(ii 0),(ii 0),(ii 0),(i3 0),(ii 0),(ii 0),(ii 0)]
def z34:List Value:=[(ii 0),(ii 0),(ii 0),(ii 0),(i3 0),(ii 0),(ii 0),(ii 0)]
def z43:List Value:=[(ii 0),(ii 0),(ii 0),(ii 0),(ii 0)]
def z51:List Value:=[(aO {data:=#[]}),(ii 0)]
def lM:List Value:=[nP,(ii 0),(aO {data:=#[]}),bF]
def BQ:List Value:=[(ii 0),(ii 0)]
def z73:List Value:=[nS]
def z85:List Value:=[nP,(ii 0),(aO {data:=#[]}),bF]
def z87:List Value:=[(ii 0),(ii 0)]
def z98:List Value:=[(aO {data:=#[]}),nP,nP,nS,(ii 0),(i3 0)]
def z107:List Value:=[nP,nS]
def yh:List Value:=[(aO {data:=#[]}),(aO {data:=#[]})]
def j1:List Value:=[(aO {data:=#[]}),(ii 0),(ii 0)]
def OX:List Value:=[(ii 0),(ii 0),bF,nP,nP,nP,bF,nS,bF,(ii 0),(ii 0)]
def vL:List Value:=[(aO {data:=#[]}),(ii 0),(i3 0)]
def z139:List Value:=[(aO {data:=#[]}),(ii 0),(i3 0),nP,nP,nP]
def ac4:List Value:=[nP,(ii 0)]
def ac5:List Value:=[nP,(ii 0),(aO {data:=#[]}),bF]
def OY:List Value:=[(ii 0),(ii 0),(ii 0),(ii 0),nP,(aO {data:=#[]}),(ii 0),(i3 0),(i3 0),bF,(ii 0)]
def z152:List Value:=[(aO {data:=#[]}),(ii 0),(ii 0)]
def z157:List Value:=[(aO {data:=#[]}),(ii 0),(i3 0)]
def z159:List Value:=[(aO {data:=#[]}),(ii 0),(i3 0),(ii 0),(ii 0),(ii 0)]
def z168:List Value:=[(i1 0),(ii 0)]
def z171:List Value:=[(aO {data:=#[]}),(ii 0)]
def G6:List Value:=(qh [(aO {data:=#[]})] (qh (tg (ii 0) 256) (qh [nS] (qh [(ii 0)] (qh [nS] [(ii 0)])))))
def nI:List Value:=[(aO {data:=#[]}),(ii 0),(ii 0)]
def qp:List Value:=[nS,(ii 0),(ii 0),(ii 0)]
def OZ:List Value:=[nP,(ii 0),bF,(i3 0),(ii 0),nS,bF,(ii 0)]
def z212:List Value:=[nP,nP,nP,(ii 0),(ii 0)]
def nJ:List Value:=[nS,(ii 0),(ii 0),(ii 0),(ii 0)]
def z228:List Value:=[nS,(ii 0),(ii 0)]
def z233:List Value:=[(ii 0),(ii 0),(ii 0),nS,bF]
def j2:List Value:=[(ii 0),(ii 0),(ii 0),nS,bF,(ii 0),(ii 0),(ii 0)]
def vM:List Value:=[nS,nS]
def O1:List Value:=[(ii 0),nP,nS,nP,nS,(ii 0),bF,(ii 0)]
def O2:List Value:=[(i1 0),(ii 0)]
def G7:List Value:=(tg (i3 0) 256)
def O3:List Value:=(tg (i3 0) 257)
def nK:List Value:=[nS,(ii 0),(ii 0)]
def G8:List Value:=[(ii 0),(ii 0),(ii 0),(ii 0),(ii 0),(ii 0)]
def G9:List Value:=[(ii 0),(ii 0),(ii 0),(ii 0),(ii 0),(ii 0),(ii 0),(ii 0),nS,bF]
def tB:List Value:=[(ii 0),(ii 0),nS]
def O4:List Value:=[nS]
def O5:List Value:=(tg bF 256)
def O6:List Value:=[(ii 0),(ii 0),(ii 0),(ii 0),(ii 0),bF]
def O7:List Value:=[(ii 0),(ii 0),nS,bF]
def G':List Value:=(qh [nS,nS,nS] (tg (ii 0) 43))
theorem O8:z33=[(ii 0),(ii 0),(ii 0),(ii 0),(i3 0),(ii 0),(ii 0),(ii 0)]:=rfl
theorem O9:z34=[(ii 0),(ii 0),(ii 0),(ii 0),(i3 0),(ii 0),(ii 0),(ii 0)]:=rfl
theorem O':z43=[(ii 0),(ii 0),(ii 0),(ii 0),(ii 0)]:=rfl
theorem Pa:z51=[(aO {data:=#[]}),(ii 0)]:=rfl
theorem Pb:lM=[nP,(ii 0),(aO {data:=#[]}),bF]:=rfl
theorem Pc:BQ=[(ii 0),(ii 0)]:=rfl
theorem Pd:z73=[nS]:=rfl
theorem Pe:z85=[nP,(ii 0),(aO {data:=#[]}),bF]:=rfl
theorem Pf:z87=[(ii 0),(ii 0)]:=rfl
theorem Pg:z98=[(aO {data:=#[]}),nP,nP,nS,(ii 0),(i3 0)]:=rfl
theorem Ph:z107=[nP,nS]:=rfl
theorem Pj:yh=[(aO {data:=#[]}),(aO {data:=#[]})]:=rfl
theorem Pl:j1=[(aO {data:=#[]}),(ii 0),(ii 0)]:=rfl
theorem Pm:OX=[(ii 0),(ii 0),bF,nP,nP,nP,bF,nS,bF,(ii 0),(ii 0)]:=rfl
theorem Pn:vL=[(aO {data:=#[]}),(ii 0),(i3 0)]:=rfl
theorem Po:z139=[(aO {data:=#[]}),(ii 0),(i3 0),nP,nP,nP]:=rfl
theorem Pp:ac4=[nP,(ii 0)]:=rfl
theorem Pq:ac5=[nP,(ii 0),(aO {data:=#[]}),bF]:=rfl
theorem Pr:OY=[(ii 0),(ii 0),(ii 0),(ii 0),nP,(aO {data:=#[]}),(ii 0),(i3 0),(i3 0),bF,(ii 0)]:=rfl
theorem Ps:z152=[(aO {data:=#[]}),(ii 0),(ii 0)]:=rfl
theorem Pu:z157=[(aO {data:=#[]}),(ii 0),(i3 0)]:=rfl
theorem Pv:z159=[(aO {data:=#[]}),(ii 0),(i3 0),(ii 0),(ii 0),(ii 0)]:=rfl
theorem Pw:z168=[(i1 0),(ii 0)]:=rfl
theorem Px:z171=[(aO {data:=#[]}),(ii 0)]:=rfl
theorem Py:nI=[(aO {data:=#[]}),(ii 0),(ii 0)]:=rfl
theorem Ha:qp=[nS,(ii 0),(ii 0),(ii 0)]:=rfl
theorem Pz:OZ=[nP,(ii 0),bF,(i3 0),(ii 0),nS,bF,(ii 0)]:=rfl
theorem PA:z212=[nP,nP,nP,(ii 0),(ii 0)]:=rfl
theorem yi:nJ=[nS,(ii 0),(ii 0),(ii 0),(ii 0)]:=rfl
theorem vN:z228=[nS,(ii 0),(ii 0)]:=rfl
theorem PB:z233=[(ii 0),(ii 0),(ii 0),nS,bF]:=rfl
theorem PC:j2=[(ii 0),(ii 0),(ii 0),nS,bF,(ii 0),(ii 0),(ii 0)]:=rfl
theorem PD:vM=[nS,nS]:=rfl
theorem PE:O1=[(ii 0),nP,nS,nP,nS,(ii 0),bF,(ii 0)]:=rfl
theorem PF:O2=[(i1 0),(ii 0)]:=rfl
theorem PG:G7=bQ 256 (i3 0):=xM _ _
theorem BR:nK=[nS,(ii 0),(ii 0)]:=rfl
theorem BS:G8=[(ii 0),(ii 0),(ii 0),(ii 0),(ii 0),(ii 0)]:=rfl
theorem PH:G9=[(ii 0),(ii 0),(ii 0),(ii 0),(ii 0),(ii 0),(ii 0),(ii 0),nS,bF]:=rfl
theorem PI:tB=[(ii 0),(ii 0),nS]:=rfl
theorem PJ:O4=[nS]:=rfl
theorem ac6:O5=bQ 256 bF:=xM _ _
theorem PK:O6=[(ii 0),(ii 0),(ii 0),(ii 0),(ii 0),bF]:=rfl
theorem PL:O7=[(ii 0),(ii 0),nS,bF]:=rfl
def tC(Y:Nat)(r:RT):Nat->((V->V->V->V->V->V->V->V->V->V->V->V->V->V->M V)×(V->M V))->V->V->V->V->V->V->V->V->V->V->V->V->V->V->V->V->V->V->M V|0,_,_,_,_,_,_,_,_,_,_,_,_,_,_,_,_,_,_,_=> .fail|fu+1,k,a,b,c,d,e,f,g,h,i,j,l,m,n,o,p,q,s,t=>aX t s (mh 2 q t fun v=>aT 2 v fun w=>cy 67 BQ fun x=>aM 2 x w fun _=>aT 4 j fun v=>aT 2 x fun w=>ai r 34 [v,b,w] fun y=>aM 4 j y fun _=>ay 3 j fun v=>(az (aQ v M.ret)).bind fun w=>dC w.1 fun y=>aA y ((az (M.ret undef)).bind fun z=>(az (M.ret undef)).bind fun A=>(az (M.ret undef)).bind fun B=>dD ((!(cz A.2 B.2)&&true)&&true) (k.2 bF)) ((az (ai r 35 [f] M.ret)).bind fun z=>eD z.1 l ((az (M.ret undef)).bind fun B=>(az (M.ret undef)).bind fun C=>dD ((!(cz B.2 C.2)&&true)&&true) (k.2 bF)) ((az (ai r 36 [f] M.ret)).bind fun B=>ay 2 d fun C=>(az (aQ C M.ret)).bind fun D=>aq D.1 (ii 250) fun E=>iH B.1 E fun G=>dD ((!(cz B.2 D.2)&&true)&&true) (aA G (k.2 bF) (aq t (ii 1) fun v=>tC Y r fu k a b c d e f g h i j l m n o p q s v))))) (k.1 a b c d e f g h i j l m n o)
def PM:List Nat:=[0,1,2,3,6,7,8,9,10,11,12,34,57,67,68,69,70,71]
def Hb(Y:Nat)(r:RT)(k:(V->V->V->V->V->M V)×(V->M V))(q:V->V->V->V->V->V->V->V->V->V->V->V->V->V->M V):(V->V->V->V->V->V->V->V->V->V->V->V->V->V->M V)×(V->M V):=(fun a b c d e f g h i j l m n o=>aq o (ii 1) fun p=>q a b c d e f g h i j l m n p,fun a=>k.2 a)
def tD(Y:Nat)(r:RT):Nat->((V->V->V->V->V->M V)×(V->M V))->V->V->V->V->V->V->V->V->V->V->V->V->V->V->M V|0,_,_,_,_,_,_,_,_,_,_,_,_,_,_,_=> .fail|fu+1,k,a,b,c,d,e,f,g,h,i,j,l,m,n,o=>eg o (ii 5) fun p=>aA p (bx c fun q=>tC Y r Y (Hb Y r k (tD Y r fu k)) a b c d e f g h i j l m n o p c q (ii 0)) (k.1 b d f h j)
def vO:List Nat:=[0,1,2,3,6,7,8,9,10,11,12,34,57,67]
def BT(Y:Nat)(r:RT):(V->V->V->V->V->M V)×(V->M V):=(fun a b c d e=>aT 4 e fun f=>ai r 30 [f,a] fun g=>aM 4 e g fun _=>bo lM [(0,1,d),(3,1,bT)] fun f=>ai r 30 [f,a] fun g=>cy 60 lM fun h=>aM 4 h g fun _=>ak 0 b fun g=>ai r 26 [g,a] fun i=>cy 51 z51 fun j=>aM 2 j i fun _=>(az (ai r 31 [c] M.ret)).bind fun f=>dC f.1 fun g=>aA g ((az (M.ret undef)).bind fun i=>(az (M.ret undef)).bind fun l=>(az (M.ret undef)).bind fun m=>(az (M.ret undef)).bind fun n=>(az (M.ret undef)).bind fun o=>(az (M.ret undef)).bind fun p=>(az (M.ret undef)).bind fun q=>(az (M.ret undef)).bind fun s=>(az (M.ret undef)).bind fun t=>dD ((!(cz l.2 m.2)&&true)&&true) (ag [bF])) ((az (ai r 37 [c] M.ret)).bind fun i=>dC i.1 fun l=>aA l ((az (M.ret undef)).bind fun m=>(az (M.ret undef)).bind fun n=>(az (M.ret undef)).bind fun o=>(az (M.ret undef)).bind fun p=>(az (M.ret undef)).bind fun q=>(az (M.ret undef)).bind fun s=>(az (M.ret undef)).bind fun t=>(az (M.ret undef)).bind fun u=>dD ((!(cz m.2 n.2)&&true)&&true) (ag [bF])) ((az (ai r 32 [c] M.ret)).bind fun m=>ay 1 j fun n=>(az (aQ n M.ret)).bind fun o=>cb m.1 o.1 ((az (M.ret undef)).bind fun q=>(az (M.ret undef)).bind fun s=>(az (M.ret undef)).bind fun t=>(az (M.ret undef)).bind fun u=>(az (M.ret undef)).bind fun v=>(az (M.ret undef)).bind fun w=>dD ((!(cz m.2 o.2)&&true)&&true) (ag [bF])) ((az (ai r 32 [d] M.ret)).bind fun q=>(az (ai r 32 [c] M.ret)).bind fun s=>cb q.1 s.1 ((az (M.ret undef)).bind fun u=>(az (M.ret undef)).bind fun v=>(az (M.ret undef)).bind fun w=>(az (M.ret undef)).bind fun x=>dD ((!(cz m.2 o.2)&&true)&&true) (ag [bF])) ((az (ai r 38 [c] M.ret)).bind fun u=>(az (ai r 38 [d] M.ret)).bind fun v=>cb u.1 v.1 ((az (M.ret undef)).bind fun x=>(az (M.ret undef)).bind fun y=>dD ((!(cz m.2 o.2)&&true)&&true) (ag [bF])) (ay 2 e fun x=>(az (aQ x M.ret)).bind fun y=>ay 2 h fun z=>(az (aQ z M.ret)).bind fun A=>fA y.1 A.1 fun B=>dD ((!(cz m.2 o.2)&&true)&&true) (aA B (ag [bF]) (ak 1 j fun g=>cb g (ii 0) (ai r 39 [c,(ii 1)] fun l=>bq l (ii 0) (ai r 40 [c,(aO {data:=#[97]})] fun n=>bq n (ii 0) (ai r 28 [] fun p=>ag [p]) (ag [bF])) (ag [bF])) (ak 2 e fun m=>ak 0 j fun o=>bq m o (ai r 39 [c,(ii 1)] fun q=>bq q (ii 0) (ai r 40 [c,(aO {data:=#[97]})] fun t=>bq t (ii 0) (ai r 28 [] fun v=>ag [v]) (ag [bF])) (ag [bF])) (ag [bF]))))))))),fun a=>ag [a])
def Hc(Y:Nat)(r:RT)(a b c:V):M V:=dP 55 a fun d=>aT 3 d fun e=>ai r 27 [e] fun f=>dC f fun g=>aA g (ai r 28 [] fun e=>ag [e]) (ak 0 d fun i=>eD i (ii 200) (ai r 28 [] fun e=>ag [e]) (bJ b fun l=>eD l (ii 200) (ai r 28 [] fun e=>ag [e]) (bx c fun n=>iH n (ii 30) fun o=>aA o (ai r 28 [] fun e=>ag [e]) (ak 0 d fun f=>ak 1 d fun h=>ak 2 d fun j=>ai r 29 [f,h,j] fun l=>aV l 0 fun m=>aV l 1 fun n=>ak 0 d fun f=>ai r 29 [f,(ii 1048576),(ii 65536)] fun g=>aV g 0 fun h=>aV g 1 fun i=>cb n (ii 0) (ag [bF]) (fA i (ii 0) fun f=>aA f (ag [bF]) (bo lM [(0,1,m),(3,1,bT)] fun e=>cy 60 lM fun g=>aM 4 g e fun _=>ak 0 d fun j=>ak 1 d fun p=>ak 2 d fun s=>ai r 33 [j,p,s] fun t=>tD Y r Y (BT Y r) a b c d bF m n h i g t o f (ii 0)))))))
theorem PN(K:KT):∀fu,tC Y r fu ((fun a b c d e f g h i j l m n o=>K (.exit 2) (zp [0,1,2,
 3,6,7,8,9,10,11,12,34,57,67] [a,b,c,d,e,f,g,h,i,j,l,m,n,o]),fun a=>K .ret (zp [6] [a])))=fun a b c d e f g h i j l m n o p q s t=>aU
 (cQ 8 (pb 18 39295) Y r) PM fu (zp PM [a,b,c,d,e,f,g,h,i,j,l,m,n,o,p,q,s,t]) K
 |0=>by funext a b c d e f g h i j l m n o p q s t;kernel_rfl
 |fu+1=>by have k:=PN K fu;funext a b c d e f g h i j l m n o p q s t;rw[tC];simp only[k];kernel_rfl
theorem ac7(K:KT)(k:Nat):Hb Y r ((fun a b c d e=>K (.exit 0) (zp [1,3,7,9,11] [a,b,
 c,d,e]),fun a=>K .ret (zp [6] [a]))) (fun a b c d e f g h i j l m n o=>aU (cQ 8 (pb 11 383) Y r) vO k (zp vO
 [a,b,c,d,e,f,g,h,i,j,l,m,n,o]) K)=((fun a b c d e f g h i j l m n o=>(iK 8 (pb 11 383) (pb 6 19) vO k K Y r) (.exit 2) (zp
 [0,1,2,3,6,7,8,9,10,11,12,34,57,67] [a,b,c,d,e,f,g,h,i,j,l,m,n,o]),fun a=>(iK 8 (pb 11 383) (pb 6 19) vO k K Y r) .ret (zp [6] [a]))):=by kernel_rfl
theorem PO(K:KT):∀fu,tD Y r fu ((fun a b c d e=>K (.exit 0) (zp [1,3,7,9,11] [a,b,c,
 d,e]),fun a=>K .ret (zp [6] [a])))=fun a b c d e f g h i j l m n o=>aU (cQ 8 (pb 11 383) Y r) vO fu (zp vO
 [a,b,c,d,e,f,g,h,i,j,l,m,n,o]) K
 |0=>by funext a b c d e f g h i j l m n o;kernel_rfl
 |fu+1=>by have k:=PO K fu;funext a b c d e f g h i j l m n o;rw[tD];simp only[k,ac7,PN];kernel_rfl
theorem ac8:BT Y r=((fun a b c d e=>(tK 8 (pb 10 383) Y r) (.exit 0) (zp [1,3,7,9,11] [a,
 b,c,d,e]),fun a=>(tK 8 (pb 10 383) Y r) .ret (zp [6] [a]))):=by kernel_rfl
theorem ac9:ax aa gt Y r 8 #[a,b,c]=inside (Hc Y r a b c):=by unfold Hc;simp only[ac8,PO];kernel_rfl
def PQ(Y:Nat)(r:RT)(a:V):M V:=gw a (ii 24) (mf a (ii 100000) fun c=>ag [c]) (ag [bF])
theorem ac':ax aa gt Y r 14 #[a]=inside (PQ Y r a):=jK
def BU(Y:Nat)(r:RT):Nat->(V->V->M V)->V->V->V->V->V->V->V->V->V->M V|0,_,_,_,_,_,_,_,_,_,_=> .fail|fu+1,k,a,b,c,d,e,f,g,h,i=>aX i h (mh 2 g i fun l=>aT 2 l fun m=>cy 120 yh fun n=>aM 2 n m fun _=>aq e (aO {data:=#[48,48,49,49,48,48,48,49,48,49,48,48,48,48,48,49,48,49,48,49,49,48,48,49,48,48,49,48,48,49,49,48,48,49,48,49,48,48,49,49,48,49,48,49,49,48,48,49]}) fun l=>ay 0 n fun m=>(az (aQ m M.ret)).bind fun o=>(az (aT 2 n M.ret)).bind fun p=>(az (ai r 75 [p.1] M.ret)).bind fun q=>(az (ai r 74 [o.1,q.1] M.ret)).bind fun s=>aq l s.1 fun t=>dD ((!(cz o.2 q.2)&&true)&&true) (aT 2 n fun e=>ai r 75 [e] fun l=>bO 31 1 l fun m=>bL 31 1 f m fun o=>aq i (ii 1) fun e=>BU Y r fu k a b c d t o g h e)) (k e f)
def PR:List Nat:=[0,1,2,6,7,8,18,19,20]
def PS(Y:Nat)(r:RT):(V->V->M V):=fun a b=>ai r 77 [b] fun c=>aq a c fun d=>ai r 76 [d] fun e=>ag [e]
def Hd(Y:Nat)(r:RT)(a b c:V):M V:=ai r 72 [a] fun d=>dK a b fun e=>cL e (ii 19) fun f=>ai r 73 [c,f] fun g=>bx g fun h=>BU Y r Y (PS Y r) a b c (aO {data:=#[]}) d nS g h (ii 0)
theorem PT(K:KT):∀fu,BU Y r fu (fun a b=>K (.exit 0) (zp [7,8] [a,b]))=fun a b c d e f g h i=>aU
 (cQ 24 (pb 7 23) Y r) PR fu (zp PR [a,b,c,d,e,f,g,h,i]) K
 |0=>by funext a b c d e f g h i;kernel_rfl
 |fu+1=>by have j:=PT K fu;funext a b c d e f g h i;rw[BU];simp only[j];kernel_rfl
theorem ac_:PS Y r=(fun a b=>(tK 24 (pb 6 23) Y r) (.exit 0) (zp [7,8] [a,b])):=jK
theorem ada:ax aa gt Y r 24 #[a,b,c]=inside (Hd Y r a b c):=by unfold Hd;simp only[ac_,PT];kernel_rfl
def tE(Y:Nat)(r:RT):Nat->(V->M V)->V->V->V->V->V->V->M V|0,_,_,_,_,_,_,_=> .fail|fu+1,k,a,b,c,d,e,f=>aX f e (bM d f fun h=>aQ h fun i=>ai r 78 [c,i] fun h=>aq f (ii 1) fun c=>tE Y r fu k a b h d e c) (k c)
def PU:List Nat:=[0,2,3,6,7,8]
def BV(Y:Nat)(r:RT):(V->M V):=fun a=>ag [a]
def BW(Y:Nat)(r:RT)(a:V):M V:=bx a fun b=>tE Y r Y (BV Y r) a (i3 0) (i3 0) a b (ii 0)
theorem PV(K:KT):∀fu,tE Y r fu (fun a=>K (.exit 0) (zp [3] [a]))=fun a b c d e f=>aU (cQ 25
 (pb 6 11) Y r) PU fu (zp PU [a,b,c,d,e,f]) K
 |0=>by funext a b c d e f;kernel_rfl
 |fu+1=>by have g:=PV K fu;funext a b c d e f;rw[tE];simp only[g];kernel_rfl
theorem adb:BV Y r=(fun a=>(tK 25 (pb 5 11) Y r) (.exit 0) (zp [3] [a])):=jK
theorem PW:ax aa gt Y r 25 #[a]=inside (BW Y r a):=by unfold BW;simp only[adb,PV];kernel_rfl
def tF(Y:Nat)(r:RT):Nat->((V->M V)×(V->M V))->V->V->V->V->V->V->V->V->M V|0,_,_,_,_,_,_,_,_,_=> .fail|fu+1,k,a,b,c,d,e,f,g,h=>aX h g (bN d (some f) none fun j=>ai r 79 [j] fun l=>cb l (ii 0) (bo z51 [(1,1,l)] fun m=>aM 2 c m fun _=>k.2 c) (aq f (ii 24) fun m=>aq f (ii 32) fun n=>bN d (some m) (some n) fun o=>ai r 63 [o] fun p=>dm .i64 p fun q=>cL q (ii 48) fun s=>aq f (ii 32) fun m=>bN d (some m) none fun n=>dK s a fun o=>ai r 80 [n,o] fun p=>cy 126 j1 fun q=>aM 3 q p fun _=>ak 2 q fun n=>cb n (ii 0) (ak 2 q fun n=>bo z51 [(1,1,n)] fun p=>aM 2 c p fun _=>k.2 c) (ak 0 q fun n=>aq e n fun p=>aq f (ii 32) fun e=>ak 1 q fun n=>aq e n fun t=>aq t (ii 7) fun u=>jm u (ii 8) fun v=>dK v (ii 8) fun w=>bJ d fun e=>bq w e (bo z51 [(0,1,p)] fun e=>aM 2 c e fun _=>k.2 c) (aq h (ii 1) fun e=>tF Y r fu k a b c d p w g e)))) (k.1 c)
def PX:List Nat:=[0,1,4,5,6,7,15,16]
def tG(Y:Nat)(r:RT):(V->M V)×(V->M V):=(fun a=>bo z51 [(1,1,(ii 24))] fun b=>aM 2 a b fun _=>aT 2 a fun b=>ag [b],fun a=>aT 2 a fun b=>ag [b])
def He(Y:Nat)(r:RT)(a b:V):M V:=cy 51 z51 fun c=>ai r 61 [b] fun d=>bJ b fun e=>aq e (ii 1) fun f=>tF Y r Y (tG Y r) a b c d (aO {data:=#[]}) (ii 0) f (ii 0)
theorem PY(K:KT):∀fu,tF Y r fu ((fun a=>K (.exit 0) (zp [4] [a]),fun a=>K .ret (zp [4] [a])))=fun a
 b c d e f g h=>aU (cQ 26 (pb 8 47) Y r) PX fu (zp PX [a,b,c,d,e,f,g,h]) K
 |0=>by funext a b c d e f g h;kernel_rfl
 |fu+1=>by have i:=PY K fu;funext a b c d e f g h;rw[tF];simp only[i];kernel_rfl
theorem ade:tG Y r=((fun a=>(tK 26 (pb 7 47) Y r) (.exit 0) (zp [4] [a]),fun a=>(tK 26 (pb 7 47) Y r) .ret (zp [4] [a]))):=jK
theorem adf:ax aa gt Y r 26 #[a,b]=inside (He Y r a b):=by unfold He;simp only[ade,PY];kernel_rfl
def PZ(Y:Nat)(r:RT)(a:V):M V:=dP 55 a fun b=>ak 0 b fun d=>ak 1 b fun f=>ak 2 b fun h=>ai r 81 [d,f,h] fun i=>ag [i]
theorem adg:ax aa gt Y r 27 #[a]=inside (PZ Y r a):=jK
def Hf(Y:Nat)(r:RT):M V:=ai r 29 [(ii 24),(ii 64),(ii 9)] fun a=>aV a 0 fun b=>aV a 1 fun c=>ai r 24 [(ii 1),(ii 24),(aO {data:=#[]})] fun a=>ai r 40 [b,a] fun d=>ai r 39 [b,(ii 100)] fun a=>ai r 82 [b] fun e=>ai r 39 [b,(ii 100)] fun f=>bq c (ii 0) (bq e (ii 0) (bq d (ii 14) (bq a (ii 6) (bq f (ii 1) (ai r 31 [b] fun m=>aA m (ai r 32 [b] fun n=>bq n (ii 0) (ai r 38 [b] fun p=>bq p (ii 7) (ai r 83 [b,(ii 9)] fun s=>cD s (aO {data:=#[]}) fun t=>ag [t]) (ag [bF])) (ag [bF])) (ag [bF])) (ag [bF])) (ag [bF])) (ag [bF])) (ag [bF])) (ag [bF])
theorem P0:ax aa gt Y r 28 #[]=inside (Hf Y r):=jK
def Hg(Y:Nat)(r:RT)(a b c:V):M V:=ai r 58 [a] fun d=>aV d 0 fun e=>aV d 1 fun f=>cb f (ii 0) (ag [nP,(ii 1)]) (ai r 84 [b,c] fun g=>dC g fun h=>aA h (ag [nP,(ii 1)]) (ai r 59 [(aO {data:=#[]})] fun d=>bo OX [(0,1,b),(1,1,c),(3,1,d),(4,1,e)] fun g=>dP 132 g fun i=>ag [i,(ii 0)]))
theorem P1:ax aa gt Y r 29 #[a,b,c]=inside (Hg Y r a b c):=jK
def vP(Y:Nat)(r:RT):Nat->(V->V->M V)->V->V->V->V->V->M V|0,_,_,_,_,_,_=> .fail|fu+1,k,a,b,c,d,e=>aX e (ii 100000) (ak 0 c fun h=>ai r 31 [h] fun i=>aA i (k c d) (aT 4 c fun g=>bJ b fun h=>ai r 41 [g,b,h] fun j=>aM 4 c j fun _=>ak 0 c fun h=>ai r 39 [h,(ii 100000)] fun j=>ay 2 c fun g=>(az (aQ g M.ret)).bind fun h=>ay 0 c fun j=>(az (aQ j M.ret)).bind fun l=>(az (ai r 83 [l.1,(ii 100000)] M.ret)).bind fun m=>aq h.1 m.1 fun n=>ay 2 c fun o=>(az (aK o n M.ret)).bind fun p=>dD ((!(cz h.2 m.2)&&true)&&true) (aq e (ii 1) fun g=>vP Y r fu k a b c d g))) (k c d)
def P2:List Nat:=[0,1,2,4,5]
def BX(Y:Nat)(r:RT):(V->V->M V):=fun a b=>ay 2 a fun c=>(az (aQ c M.ret)).bind fun d=>ay 0 a fun e=>(az (aQ e M.ret)).bind fun f=>(az (ai r 83 [f.1,(ii 1048576)] M.ret)).bind fun g=>aq d.1 g.1 fun h=>ay 2 a fun i=>(az (aK i h M.ret)).bind fun j=>dD ((!(cz d.2 g.2)&&true)&&true) (aT 4 a fun c=>aM 4 b c fun _=>aT 4 b fun a=>ag [a])
def Hi(Y:Nat)(r:RT)(a b:V):M V:=dP 60 a fun c=>cy 60 lM fun d=>vP Y r Y (BX Y r) a b c d (ii 0)
theorem P3(K:KT):∀fu,vP Y r fu (fun a b=>K (.exit 0) (zp [2,4] [a,b]))=fun a b c d e=>aU
 (cQ 30 (pb 5 5) Y r) P2 fu (zp P2 [a,b,c,d,e]) K
 |0=>by funext a b c d e;kernel_rfl
 |fu+1=>by have f:=P3 K fu;funext a b c d e;rw[vP];simp only[f];kernel_rfl
theorem adh:BX Y r=(fun a b=>(tK 30 (pb 4 5) Y r) (.exit 0) (zp [2,4] [a,b])):=jK
theorem adi:ax aa gt Y r 30 #[a,b]=inside (Hi Y r a b):=by unfold Hi;simp only[adh,P3];kernel_rfl
def Hj(Y:Nat)(r:RT)(a:V):M V:=lf a nP (an a fun c=>ak 8 c fun e=>ag [e]) (ag [bF])
theorem P4:ax aa gt Y r 31 #[a]=inside (Hj Y r a):=jK
def Hk(Y:Nat)(r:RT)(a:V):M V:=c9 a nP (ag [(ii 0)]) (an a fun c=>ak 9 c fun e=>ag [e])
theorem P5:ax aa gt Y r 32 #[a]=inside (Hk Y r a):=jK
def P6(Y:Nat)(r:RT)(a b c:V):M V:=aq b c fun d=>dK (ii 36) a fun e=>aq d e fun f=>aq f (ii 40960) fun g=>ag [g]
theorem adj:ax aa gt Y r 33 #[a,b,c]=inside (P6 Y r a b c):=jK
def P7(Y:Nat)(r:RT)(a b c:V):M V:=dP 60 a fun d=>dP 67 c fun e=>cy 60 lM fun f=>ak 0 e fun h=>cD h (ii 0) fun g=>(fun i=>aA g (aT 4 d fun j=>ak 1 e fun m=>ai r 41 [j,b,m] fun n=>aM 4 f n fun _=>aT 4 f fun a=>ag [a]) (bq h (ii 1) (ak 0 d fun m=>ai r 38 [m] fun n=>ak 0 d fun m=>ai r 37 [m] fun o=>ak 0 d fun m=>ak 1 e fun q=>ai r 39 [m,q] fun s=>ak 3 d fun m=>aA m (gw s (ii 0) (ak 1 e fun t=>o0 t (ii 0) fun u=>vK s u (ak 0 d fun x=>ai r 38 [x] fun y=>aq n s fun z=>bq y z (bq s (ii 0) (ak 1 e fun D=>o0 D (ii 0) fun E=>bq s E (ay 3 d fun J=>aK J bT fun _=>i) (ak 0 d fun L=>ai r 37 [L] fun N=>ay 3 d fun O=>aK O N fun _=>i)) (dC o fun C=>aA C (ak 1 e fun E=>o0 E (ii 0) fun G=>bq s G (ay 3 d fun L=>aK L bT fun _=>i) (ak 0 d fun N=>ai r 37 [N] fun O=>ay 3 d fun Q=>aK Q O fun _=>i)) (ay 3 d fun D=>aK D bF fun _=>i))) (ay 3 d fun B=>aK B bF fun _=>i)) (ay 3 d fun w=>aK w bF fun _=>i)) (ay 3 d fun q=>aK q bF fun _=>i)) (ay 3 d fun p=>aK p bF fun _=>i)) (ak 0 d fun m=>ai r 36 [m] fun n=>ak 0 d fun m=>ak 1 e fun p=>ai r 83 [m,p] fun q=>ak 3 d fun m=>aA m (bJ q fun o=>ak 1 e fun s=>o0 s (ii 0) fun t=>kY n t fun u=>bq o u (ak 0 d fun x=>ai r 36 [x] fun y=>bJ q fun z=>cL n z fun A=>cD y A fun B=>ay 3 d fun C=>aK C B fun _=>ak 2 d fun m=>aq m q fun o=>ay 2 d fun p=>aK p o fun _=>i) (ay 3 d fun w=>aK w bF fun _=>ak 2 d fun m=>aq m q fun o=>ay 2 d fun p=>aK p o fun _=>i)) (ay 3 d fun o=>aK o bF fun _=>ak 2 d fun m=>aq m q fun o=>ay 2 d fun p=>aK p o fun _=>i)))) (aT 4 d fun i=>aM 4 f i fun _=>aT 4 f fun a=>ag [a])
theorem adk:ax aa gt Y r 34 #[a,b,c]=inside (P7 Y r a b c):=jK
def P8(Y:Nat)(r:RT)(a:V):M V:=c9 a nP (ag [(ii 0)]) (an a fun c=>ay 3 c fun d=>(az (aQ d M.ret)).bind fun e=>(az (ai r 85 [e.1] M.ret)).bind fun f=>an a fun g=>ay 4 g fun h=>(az (aQ h M.ret)).bind fun i=>(az (ai r 86 [i.1] M.ret)).bind fun j=>aq f.1 j.1 fun l=>an a fun m=>ay 7 m fun n=>(az (aQ n M.ret)).bind fun o=>bx o.1 fun p=>aq l p fun q=>dD ((!(cz f.2 i.2)&&(!(cz f.2 o.2)&&true))&&((!(cz j.2 o.2)&&true)&&true)) (an a fun c=>ak 5 c fun e=>lf e nP (an a fun c=>ak 5 c fun e=>an e fun g=>ak 3 g fun i=>ai r 87 [i] fun j=>aq q j fun l=>ag [l]) (ag [q])))
theorem adl:ax aa gt Y r 35 #[a]=inside (P8 Y r a):=jK
def P9(Y:Nat)(r:RT)(a:V):M V:=c9 a nP (ag [(ii 0)]) (an a fun c=>ak 7 c fun e=>bx e fun f=>ag [f])
theorem adm:ax aa gt Y r 36 #[a]=inside (P9 Y r a):=jK
def Hl(Y:Nat)(r:RT)(a:V):M V:=c9 a nP (ag [bT]) (an a fun c=>ak 8 c fun e=>aA e (ag [bT]) (an a fun b=>ak 5 b fun d=>lf d nP (an a fun b=>ak 7 b fun d=>bx d fun g=>an a fun h=>ak 1 h fun j=>qj g j fun l=>ag [l]) (an a fun b=>ak 6 b fun d=>ag [d])))
theorem P':ax aa gt Y r 37 #[a]=inside (Hl Y r a):=jK
def Hm(Y:Nat)(r:RT)(a:V):M V:=c9 a nP (ag [(ii 0)]) (an a fun c=>ak 10 c fun e=>ag [e])
theorem Qa:ax aa gt Y r 38 #[a]=inside (Hm Y r a):=jK
def rD(Y:Nat)(r:RT):Nat->(V->V->M V)->V->V->V->V->M V|0,_,_,_,_,_=> .fail|fu+1,k,a,b,c,d=>aX d b (ai r 37 [a] fun f=>dC f fun g=>aA g (an a fun e=>ak 5 e fun h=>lf h nP (ai r 88 [a] fun e=>aq d (ii 1) fun e=>rD Y r fu k a b c e) (ai r 89 [a] fun e=>dC e fun f=>aA f (rD Y r fu k a b c d) (aq d (ii 1) fun e=>rD Y r fu k a b c e))) (k a d)) (k a d)
def Qb:List Nat:=[0,1,4,5]
def yk(Y:Nat)(r:RT):(V->V->M V):=fun a b=>lf a nP (an a fun d=>ak 10 d fun f=>aq f b fun g=>an a fun h=>ay 10 h fun i=>aK i g fun _=>ag [b]) (ag [b])
def BZ(Y:Nat)(r:RT)(a b:V):M V:=rD Y r Y (yk Y r) a b (ii 0) (ii 0)
theorem Qc(K:KT):∀fu,rD Y r fu (fun a b=>K (.exit 0) (zp [0,5] [a,b]))=fun a b c d=>
 aU (cQ 39 (pb 5 3) Y r) Qb fu (zp Qb [a,b,c,d]) K
 |0=>by funext a b c d;kernel_rfl
 |fu+1=>by have e:=Qc K fu;funext a b c d;rw[rD];simp only[e];kernel_rfl
theorem adn:yk Y r=(fun a b=>(tK 39 (pb 4 3) Y r) (.exit 0) (zp [0,5] [a,b])):=jK
theorem Qd:ax aa gt Y r 39 #[a,b]=inside (BZ Y r a b):=by unfold BZ;simp only[adn,Qc];kernel_rfl
def Hn(Y:Nat)(r:RT)(a b:V):M V:=c9 a nP (ag [(ii 0)]) (an a fun d=>ak 2 d fun f=>aA f (ag [(ii 0)]) (an a fun g=>ak 8 g fun i=>aA i (ag [(ii 0)]) (bJ b fun c=>an a fun d=>ay 0 d fun e=>(az (aQ e M.ret)).bind fun f=>an a fun g=>ay 3 g fun h=>(az (aQ h M.ret)).bind fun j=>(az (ai r 85 [j.1] M.ret)).bind fun l=>cL f.1 l.1 fun m=>kY c m fun n=>dD ((!(cz f.2 l.2)&&true)&&true) (an a fun c=>ak 3 c fun e=>bN b none (some n) fun f=>ai r 90 [e,f] fun g=>eD n (ii 0) (an a fun d=>ay 6 d fun e=>aK e bF fun _=>ag [n]) (ag [n])))))
theorem Qe:ax aa gt Y r 40 #[a,b]=inside (Hn Y r a b):=jK
def Qf(Y:Nat)(r:RT)(a b c:V):M V:=dP 60 a fun d=>cy 60 lM fun e=>o0 c (ii 0) fun f=>bJ b fun g=>ak 1 d fun i=>cL g i fun j=>kY f j fun l=>ak 0 d fun f=>ak 1 d fun h=>ak 1 d fun j=>aq j l fun m=>bN b (some h) (some m) fun n=>ai r 40 [f,n] fun o=>aX o (ii 0) (ak 0 d fun f=>bo lM [(0,1,f)] fun g=>aM 4 e g fun _=>aT 4 e fun a=>ag [a]) (eD o l (ak 0 d fun f=>bo lM [(0,1,f)] fun g=>aM 4 e g fun _=>aT 4 e fun a=>ag [a]) (ak 0 d fun h=>ai r 31 [h] fun i=>aA i (eD o (ii 0) (ak 0 d fun f=>bo lM [(0,1,f)] fun g=>aM 4 e g fun _=>aT 4 e fun a=>ag [a]) (ak 1 d fun f=>aq f o fun g=>ay 1 d fun h=>aK h g fun _=>ak 1 d fun f=>bJ b fun g=>bq f g (ak 0 d fun f=>ai r 82 [f] fun g=>aT 4 d fun c=>aM 4 e c fun _=>aT 4 e fun a=>ag [a]) (aT 4 d fun c=>aM 4 e c fun _=>aT 4 e fun a=>ag [a]))) (ak 1 d fun f=>aq f o fun g=>ay 1 d fun h=>aK h g fun _=>ak 1 d fun f=>bJ b fun g=>bq f g (ak 0 d fun f=>ai r 82 [f] fun g=>aT 4 d fun c=>aM 4 e c fun _=>aT 4 e fun a=>ag [a]) (aT 4 d fun c=>aM 4 e c fun _=>aT 4 e fun a=>ag [a]))))
theorem ado:ax aa gt Y r 41 #[a,b,c]=inside (Qf Y r a b c):=jK
def Ho(Y:Nat)(r:RT)(a:V):M V:=ai r 96 [(ii 1),a] fun b=>aV b 0 fun c=>aV b 1 fun d=>cb d (ii 0) (ag [nP,d]) (bo OY [(0,1,a)] fun c=>dP 150 c fun e=>ag [e,(ii 0)])
theorem Qg:ax aa gt Y r 58 #[a]=inside (Ho Y r a):=jK
def Hp(Y:Nat)(r:RT)(a:V):M V:=bo z152 [(0,1,a)] fun b=>dP 152 b fun c=>ag [c]
theorem Qh:ax aa gt Y r 59 #[a]=inside (Hp Y r a):=jK
def tH(Y:Nat)(r:RT):Nat->(V->M V)->V->V->V->V->M V|0,_,_,_,_,_=> .fail|fu+1,k,a,b,c,d=>bJ a fun e=>aX d e (cP a d fun e=>dm .u32 e fun g=>ai r 103 [g,(ii 8)] fun h=>aq c h fun i=>aq d (ii 1) fun c=>tH Y r fu k a b i c) (k c)
def Qi:List Nat:=[0,2,3,4]
def B1(Y:Nat)(r:RT):(V->M V):=fun a=>ag [a]
def B4(Y:Nat)(r:RT)(a:V):M V:=tH Y r Y (B1 Y r) a (aO {data:=#[]}) (aO {data:=#[]}) (ii 0)
theorem Qj(K:KT):∀fu,tH Y r fu (fun a=>K (.exit 0) (zp [3] [a]))=fun a b c d=>aU (cQ 61 (pb 6 11)
 Y r) Qi fu (zp Qi [a,b,c,d]) K
 |0=>by funext a b c d;kernel_rfl
 |fu+1=>by have e:=Qj K fu;funext a b c d;rw[tH];simp only[e];kernel_rfl
theorem adp:B1 Y r=(fun a=>(tK 61 (pb 5 11) Y r) (.exit 0) (zp [3] [a])):=jK
theorem Qk:ax aa gt Y r 61 #[a]=inside (B4 Y r a):=by unfold B4;simp only[adp,Qj];kernel_rfl
def pd(Y:Nat)(r:RT):Nat->(V->M V)->V->V->V->V->M V|0,_,_,_,_,_=> .fail|fu+1,k,a,b,c,d=>bJ a fun e=>aX d e (dK (i3 2) c fun e=>cP a d fun g=>cL g (i1 48) fun h=>dm .u32 h fun i=>aq e i fun j=>aq d (ii 1) fun c=>pd Y r fu k a b j c) (k c)
def Ql:List Nat:=[0,2,3,4]
def vQ(Y:Nat)(r:RT):(V->M V):=fun a=>ag [a]
def yl(Y:Nat)(r:RT)(a:V):M V:=pd Y r Y (vQ Y r) a (i3 0) (i3 0) (ii 0)
theorem Qm(K:KT):∀fu,pd Y r fu (fun a=>K (.exit 0) (zp [3] [a]))=fun a b c d=>aU (cQ 63 (pb 6
 11) Y r) Ql fu (zp Ql [a,b,c,d]) K
 |0=>by funext a b c d;kernel_rfl
 |fu+1=>by have e:=Qm K fu;funext a b c d;rw[pd];simp only[e];kernel_rfl
theorem adq:vQ Y r=(fun a=>(tK 63 (pb 5 11) Y r) (.exit 0) (zp [3] [a])):=jK
theorem Hq:ax aa gt Y r 63 #[a]=inside (yl Y r a):=by unfold yl;simp only[adq,Qm];kernel_rfl
def Qn(Y:Nat)(r:RT)(a:V):M V:=aq a (ii 1) fun b=>bN (aO {data:=#[48,49,50,51,52,53,54,55,56,57]}) (some a) (some b) fun c=>aq (aO {data:=#[66,90,104]}) c fun d=>ai r 61 [d] fun e=>ag [e]
theorem adr:ax aa gt Y r 72 #[a]=inside (Qn Y r a):=jK
def B5(Y:Nat)(r:RT):Nat->(V->V->V->V->V->V->V->V->M V)->V->V->V->V->V->V->V->V->V->V->V->V->V->V->M V|0,_,_,_,_,_,_,_,_,_,_,_,_,_,_,_=> .fail|fu+1,k,a,b,c,d,e,f,g,h,i,j,l,m,n,o=>aX o n (ak 1 e fun s=>ak 0 f fun u=>bO 5 1 u fun v=>iI v fun w=>aq s w fun x=>ay 1 e fun y=>aK y x fun _=>aq o (ii 1) fun q=>B5 Y r fu k a b c d e f g h i j l m n q) (k a b c d e h i j)
def Qo:List Nat:=[0,1,4,5,6,8,9,12,13,14,15,27,39,40]
def Qp(Y:Nat)(r:RT)(k:(V->V->M V))(j:V->V->V->V->V->V->V->V->M V):(V->V->V->V->V->V->V->V->M V):=fun a b c d e f g h=>aq h (ii 1) fun i=>j a b c d e f g i
def B6(Y:Nat)(r:RT):Nat->(V->V->M V)->V->V->V->V->V->V->V->V->M V|0,_,_,_,_,_,_,_,_,_=> .fail|fu+1,k,a,b,c,d,e,f,g,h=>eg h g fun i=>aA i (mh 2 f h fun j=>aT 2 j fun l=>cy 168 z168 fun m=>aM 2 m l fun _=>aT 2 m fun j=>ai r 109 [j] fun l=>ak 0 e fun n=>bJ n fun o=>bJ l fun p=>aq o p fun q=>iH q b fun s=>(fun n=>aA s (aT 2 e fun j=>bO 120 2 j fun o=>bL 120 2 d o fun p=>bo yh [] fun j=>aM 2 e j fun _=>n p) (n d)) fun d=>ak 0 e fun n=>aq n l fun o=>ay 0 e fun p=>aK p o fun _=>ak 1 m fun n=>B5 Y r Y (Qp Y r k (B6 Y r fu k)) a b c d e m l f g h i s n (ii 0)) (k d e)
def ym:List Nat:=[0,1,4,5,6,12,13,14]
def Qq(Y:Nat)(r:RT):(V->V->M V):=fun a b=>ak 0 b fun d=>bJ d fun e=>eD e (ii 0) (aT 2 b fun c=>bO 120 2 c fun d=>bL 120 2 a d fun e=>ag [e]) (ag [a])
def Hr(Y:Nat)(r:RT)(a b:V):M V:=bo yh [] fun c=>cy 120 yh fun d=>aM 2 d c fun _=>ai r 108 [a] fun c=>bx c fun e=>B6 Y r Y (Qq Y r) a b nS nS d c e (ii 0)
theorem Qr(K:KT):∀fu,B5 Y r fu (fun a b c d e f g h=>K (.exit 2) (zp [0,1,4,5,6,12,13,14] [a,b,c,d,
 e,f,g,h]))=fun a b c d e f g h i j l m n o=>aU (cQ 73 (pb 18 63895) Y r) Qo fu (zp Qo [a,b,c,d,e,f,g,h,i,j,l,m,n,o]) K
 |0=>by funext a b c d e f g h i j l m n o;kernel_rfl
 |fu+1=>by have k:=Qr K fu;funext a b c d e f g h i j l m n o;rw[B5];simp only[k];kernel_rfl
theorem ads(K:KT)(i:Nat):Qp Y r (fun a b=>K (.exit 0) (zp [5,6] [a,b])) (fun a b c d e f g h=>aU (cQ
 73 (pb 7 23) Y r) ym i (zp ym [a,b,c,d,e,f,g,h]) K)=(fun a b c d e f g h=>(iK 73 (pb 7 23) (pb 10 499) ym i K
 Y r) (.exit 2) (zp [0,1,4,5,6,12,13,14] [a,b,c,d,e,f,g,h])):=by kernel_rfl
theorem Qs(K:KT):∀fu,B6 Y r fu (fun a b=>K (.exit 0) (zp [5,6] [a,b]))=fun a b c d e f g h=>aU (cQ
 73 (pb 7 23) Y r) ym fu (zp ym [a,b,c,d,e,f,g,h]) K
 |0=>by funext a b c d e f g h;kernel_rfl
 |fu+1=>by have i:=Qs K fu;funext a b c d e f g h;rw[B6];simp only[i,ads,Qr];kernel_rfl
theorem adt:Qq Y r=(fun a b=>(tK 73 (pb 6 23) Y r) (.exit 0) (zp [5,6] [a,b])):=jK
theorem adu:ax aa gt Y r 73 #[a,b]=inside (Hr Y r a b):=by unfold Hr;simp only[adt,Qs];kernel_rfl
def Qt(Y:Nat)(r:RT)(a b:V):M V:=ai r 110 [a] fun c=>cy 171 z171 fun d=>aM 2 d c fun _=>ak 0 d fun e=>ak 1 d fun g=>bo z157 [(0,1,e),(1,1,g),(2,1,b)] fun h=>ai r 111 [h] fun i=>ag [i]
theorem adv:ax aa gt Y r 74 #[a,b]=inside (Qt Y r a b):=jK
def Qu(Y:Nat)(r:RT)(a:V):M V:=dP 120 a fun b=>ak 1 b fun d=>ai r 112 [d] fun e=>ag [e]
theorem adw:ax aa gt Y r 75 #[a]=inside (Qu Y r a):=jK
def Qv(Y:Nat)(r:RT)(a:V):M V:=ai r 114 [a] fun b=>ai r 113 [b] fun c=>ag [c]
theorem adx:ax aa gt Y r 76 #[a]=inside (Qv Y r a):=jK
def Qw(Y:Nat)(r:RT)(a:V):M V:=ai r 25 [a] fun b=>ai r 103 [b,(ii 32)] fun c=>aq (aO {data:=#[48,48,48,49,48,49,49,49,48,49,49,49,48,48,49,48,48,49,48,48,48,49,48,49,48,48,49,49,49,48,48,48,48,49,48,49,48,48,48,48,49,48,48,49,48,48,48,48]}) c fun d=>ag [d]
theorem ady:ax aa gt Y r 77 #[a]=inside (Qw Y r a):=jK
def Hs(Y:Nat)(r:RT)(a b:V):M V:=dK a (i3 2) fun c=>gw a (i3 2147483648) (aq c (i3 1) fun e=>nC e b fun c=>ag [c]) (nC c b fun e=>ag [e])
theorem Qx:ax aa gt Y r 78 #[a,b]=inside (Hs Y r a b):=jK
def mn(Y:Nat)(r:RT):Nat->((M V)×(V->M V))->V->V->V->V->M V|0,_,_,_,_,_=> .fail|fu+1,k,a,b,c,d=>aX d (ii 4) (bJ a fun f=>dK (ii 8) d fun g=>aq g (ii 8) fun h=>aX f h (k.2 (ii 24)) (dK (ii 8) d fun f=>dK (ii 8) d fun g=>aq g (ii 8) fun h=>bN a (some f) (some h) fun j=>aX d (ii 3) (dK (ii 8) d fun g=>dK (ii 8) d fun h=>aq h (ii 8) fun l=>bN c (some g) (some l) fun m=>cb j m (k.2 (ii 20)) (bq d (ii 3) (ai r 63 [j] fun g=>aX g (i3 49) (k.2 (ii 20)) (ai r 63 [j] fun l=>eD l (i3 57) (k.2 (ii 20)) (aq d (ii 1) fun f=>mn Y r fu k a b c f))) (aq d (ii 1) fun f=>mn Y r fu k a b c f))) (bq d (ii 3) (ai r 63 [j] fun g=>aX g (i3 49) (k.2 (ii 20)) (ai r 63 [j] fun l=>eD l (i3 57) (k.2 (ii 20)) (aq d (ii 1) fun f=>mn Y r fu k a b c f))) (aq d (ii 1) fun f=>mn Y r fu k a b c f)))) (k.1)
def Qy:List Nat:=[0,2,3,7]
def nL(Y:Nat)(r:RT):(M V)×(V->M V):=(ag [(ii 0)],fun a=>ag [a])
def Ht(Y:Nat)(r:RT)(a:V):M V:=ai r 61 [(aO {data:=#[66,90,104]})] fun b=>mn Y r Y (nL Y r) a (ii 0) b (ii 0)
theorem Qz(K:KT):∀fu,mn Y r fu ((K (.exit 0) [],fun a=>K .ret (zp [2] [a])))=fun a b c d=>aU
 (cQ 79 (pb 6 11) Y r) Qy fu (zp Qy [a,b,c,d]) K
 |0=>by funext a b c d;kernel_rfl
 |fu+1=>by have e:=Qz K fu;funext a b c d;rw[mn];simp only[e];kernel_rfl
theorem adz:nL Y r=(((tK 79 (pb 5 11) Y r) (.exit 0) [],fun a=>(tK 79 (pb 5 11) Y r) .ret (zp [2] [a]))):=jK
theorem adA:ax aa gt Y r 79 #[a]=inside (Ht Y r a):=by unfold Ht;simp only[adz,Qz];kernel_rfl
def vR(Y:Nat)(r:RT):Nat->((V->M V)×(V->M V))->V->V->V->V->V->V->V->M V|0,_,_,_,_,_,_,_,_=> .fail|fu+1,k,a,b,c,d,e,f,g=>aX g f (bJ a fun i=>ak 1 d fun l=>cL i l fun m=>aX m (ii 48) (bo j1 [(2,1,(ii 24))] fun i=>aM 3 c i fun _=>k.2 c) (ak 1 d fun j=>ak 1 d fun m=>aq m (ii 48) fun o=>bN a (some j) (some o) fun p=>ak 1 d fun j=>aq j (ii 48) fun l=>bq p (aO {data:=#[48,48,48,49,48,49,49,49,48,49,49,49,48,48,49,48,48,49,48,48,48,49,48,49,48,48,49,49,49,48,48,48,48,49,48,49,48,48,48,48,49,48,48,49,48,48,48,48]}) (bJ a fun j=>cL j l fun m=>aX m (ii 32) (bo j1 [(2,1,(ii 24))] fun j=>aM 3 c j fun _=>k.2 c) (aq l (ii 32) fun j=>bN a (some l) (some j) fun m=>ai r 63 [m] fun q=>ai r 25 [e] fun s=>cb q s (bo j1 [(2,1,(ii 21))] fun j=>aM 3 c j fun _=>k.2 c) (ak 0 d fun m=>aq l (ii 32) fun q=>bo j1 [(0,1,m),(1,1,q)] fun s=>aM 3 c s fun _=>k.2 c))) (cb p (aO {data:=#[48,48,49,49,48,48,48,49,48,49,48,48,48,48,48,49,48,49,48,49,49,48,48,49,48,48,49,48,48,49,49,48,48,49,48,49,48,48,49,49,48,49,48,49,49,48,48,49]}) (bo j1 [(2,1,(ii 20))] fun m=>aM 3 c m fun _=>k.2 c) (bN a (some l) none fun m=>ai r 104 [m,b] fun o=>cy 159 z159 fun q=>aM 6 q o fun _=>ak 5 q fun o=>bq o (ii 3) (bo j1 [(2,1,(ii 24))] fun m=>aM 3 c m fun _=>k.2 c) (ak 5 q fun o=>cb o (ii 0) (ak 5 q fun o=>bo j1 [(2,1,o)] fun u=>aM 3 c u fun _=>k.2 c) (ay 0 q fun m=>aT 3 m fun o=>ai r 105 [o] fun u=>aV u 0 fun v=>aV u 1 fun w=>cb w (ii 0) (bo j1 [(2,1,w)] fun o=>aM 3 c o fun _=>k.2 c) (ay 0 q fun o=>ak 2 o fun x=>bO 31 1 x fun y=>bL 31 1 e y fun z=>ak 0 d fun o=>aq o v fun u=>ak 3 q fun y=>aq l y fun A=>bo j1 [(0,1,u),(1,1,A)] fun B=>aM 3 d B fun _=>aq g (ii 1) fun e=>vR Y r fu k a b c d z f e))))))) (k.1 c)
def QA:List Nat:=[0,1,4,5,6,15,16]
def vS(Y:Nat)(r:RT):(V->M V)×(V->M V):=(fun a=>bo j1 [(2,1,(ii 24))] fun b=>aM 3 a b fun _=>aT 3 a fun b=>ag [b],fun a=>aT 3 a fun b=>ag [b])
def Hv(Y:Nat)(r:RT)(a b:V):M V:=cy 126 j1 fun c=>bo j1 [] fun d=>cy 126 j1 fun e=>aM 3 e d fun _=>bJ a fun d=>aq d (ii 1) fun f=>vR Y r Y (vS Y r) a b c e nS f (ii 0)
theorem QB(K:KT):∀fu,vR Y r fu ((fun a=>K (.exit 0) (zp [4] [a]),fun a=>K .ret (zp [4] [a])))=fun a b
 c d e f g=>aU (cQ 80 (pb 7 23) Y r) QA fu (zp QA [a,b,c,d,e,f,g]) K
 |0=>by funext a b c d e f g;kernel_rfl
 |fu+1=>by have h:=QB K fu;funext a b c d e f g;rw[vR];simp only[h];kernel_rfl
theorem adB:vS Y r=((fun a=>(tK 80 (pb 6 23) Y r) (.exit 0) (zp [4] [a]),fun a=>(tK 80 (pb 6 23) Y r) .ret (zp [4] [a]))):=jK
theorem adC:ax aa gt Y r 80 #[a,b]=inside (Hv Y r a b):=by unfold Hv;simp only[adB,QB];kernel_rfl
def QC(Y:Nat)(r:RT)(a b c:V):M V:=ai r 14 [a] fun d=>aA d (gw b (ii 64) (vK b (ii 1048576) (gw c (ii 1) (mf c (ii 65536) fun h=>ag [h]) (ag [bF])) (ag [bF])) (ag [bF])) (ag [bF])
theorem adD:ax aa gt Y r 81 #[a,b,c]=inside (QC Y r a b c):=jK
def Hw(Y:Nat)(r:RT)(a:V):M V:=c9 a nP (ag [(ii 7)]) (an a fun c=>ak 2 c fun e=>aA e (ag [(ii 7)]) (an a fun b=>ay 2 b fun c=>aK c bT fun _=>an a fun b=>ay 6 b fun c=>aK c bF fun _=>ag [(ii 0)]))
theorem QD:ax aa gt Y r 82 #[a]=inside (Hw Y r a):=jK
def Hx(Y:Nat)(r:RT)(a b:V):M V:=c9 a nP (ag [(aO {data:=#[]})]) (aX b (ii 1) (ag [(aO {data:=#[]})]) (an a fun c=>ak 7 c fun f=>bx f fun g=>kY b g fun h=>an a fun c=>ak 7 c fun f=>nF 5 1 f none (some h) fun g=>iI g fun i=>an a fun c=>ak 7 c fun f=>nF 5 1 f (some h) none fun g=>an a fun j=>ay 7 j fun l=>aK l g fun _=>ag [i]))
theorem QE:ax aa gt Y r 83 #[a,b]=inside (Hx Y r a b):=jK
def Hy(Y:Nat)(r:RT)(a b:V):M V:=gw a (ii 64) (vK a (ii 1048576) (gw b (ii 1) (mf b (ii 65536) fun f=>ag [f]) (ag [bF])) (ag [bF])) (ag [bF])
theorem QF:ax aa gt Y r 84 #[a,b]=inside (Hy Y r a b):=jK
def Hz(Y:Nat)(r:RT)(a:V):M V:=c9 a nP (ag [(ii 0)]) (an a fun c=>ak 0 c fun e=>bJ e fun f=>ag [f])
theorem QG:ax aa gt Y r 85 #[a]=inside (Hz Y r a):=jK
def QH(Y:Nat)(r:RT)(a:V):M V:=c9 a nP (ag [(ii 0)]) (an a fun c=>ak 4 c fun e=>ai r 115 [e] fun f=>ag [f])
theorem adE:ax aa gt Y r 86 #[a]=inside (QH Y r a):=jK
def QI(Y:Nat)(r:RT)(a:V):M V:=c9 a nP (ag [(ii 0)]) (an a fun c=>ak 0 c fun e=>bJ e fun f=>dK (ii 2) f fun g=>an a fun h=>ak 259 h fun j=>bx j fun l=>aq g l fun m=>ag [m])
theorem adF:ax aa gt Y r 87 #[a]=inside (QI Y r a):=jK
def HA(Y:Nat)(r:RT)(a:V):M V:=an a fun b=>ak 5 b fun d=>ai r 116 [d] fun e=>aV e 0 fun f=>aV e 1 fun g=>an a fun b=>ak 7 b fun d=>bL 5 1 d f fun e=>an a fun h=>ay 7 h fun i=>aK i e fun _=>cb g (ii 0) (ai r 117 [a,g] fun c=>ag []) (an a fun c=>ak 5 c fun e=>an e fun h=>ak 3 h fun j=>ai r 118 [j] fun l=>aA l (an a fun c=>ay 5 c fun d=>aK d nP fun _=>ag []) (ag []))
theorem QJ:ax aa gt Y r 88 #[a]=inside (HA Y r a):=jK
def HB(Y:Nat)(r:RT)(a:V):M V:=an a fun b=>ak 2 b fun d=>aA d (an a fun e=>ak 4 e fun g=>ai r 97 [g] fun h=>aA h (an a fun i=>ak 3 i fun l=>ai r 98 [l] fun m=>bq m (ii 0) (ai r 117 [a,(ii 0)] fun b=>ag [bT]) (an a fun b=>ak 4 b fun d=>an a fun e=>ak 3 e fun g=>ai r 99 [d,g] fun h=>aV h 0 fun i=>aV h 1 fun j=>an a fun b=>ak 3 b fun d=>ai r 119 [d] fun e=>bq j (ii 3) (an a fun c=>ak 2 c fun e=>dC e fun f=>aA f (an a fun b=>ay 6 b fun c=>aK c bT fun _=>ag [bF]) (bq j (ii 3) (ai r 117 [a,(ii 24)] fun c=>ag [bT]) (cb j (ii 0) (ai r 117 [a,j] fun d=>ag [bT]) (bq i (ii 1) (an a fun e=>ak 4 e fun h=>ai r 121 [h] fun l=>ai r 120 [l] fun m=>an a fun o=>ay 5 o fun p=>aK p m fun _=>ag [bT]) (ag [bT]))))) (bq j (ii 3) (ai r 117 [a,(ii 24)] fun c=>ag [bT]) (cb j (ii 0) (ai r 117 [a,j] fun d=>ag [bT]) (bq i (ii 1) (an a fun e=>ak 4 e fun g=>ai r 121 [g] fun h=>ai r 120 [h] fun l=>an a fun m=>ay 5 m fun o=>aK o l fun _=>ag [bT]) (ag [bT])))))) (an a fun b=>ak 4 b fun d=>an a fun e=>ak 3 e fun g=>ai r 99 [d,g] fun h=>aV h 0 fun i=>aV h 1 fun j=>an a fun b=>ak 3 b fun d=>ai r 119 [d] fun e=>bq j (ii 3) (an a fun c=>ak 2 c fun e=>dC e fun f=>aA f (an a fun b=>ay 6 b fun c=>aK c bT fun _=>ag [bF]) (bq j (ii 3) (ai r 117 [a,(ii 24)] fun c=>ag [bT]) (cb j (ii 0) (ai r 117 [a,j] fun d=>ag [bT]) (bq i (ii 1) (an a fun e=>ak 4 e fun h=>ai r 121 [h] fun l=>ai r 120 [l] fun m=>an a fun n=>ay 5 n fun o=>aK o m fun _=>ag [bT]) (ag [bT]))))) (bq j (ii 3) (ai r 117 [a,(ii 24)] fun c=>ag [bT]) (cb j (ii 0) (ai r 117 [a,j] fun d=>ag [bT]) (bq i (ii 1) (an a fun e=>ak 4 e fun g=>ai r 121 [g] fun h=>ai r 120 [h] fun l=>an a fun m=>ay 5 m fun n=>aK n l fun _=>ag [bT]) (ag [bT])))))) (an a fun b=>ak 4 b fun d=>an a fun e=>ak 3 e fun g=>ai r 99 [d,g] fun h=>aV h 0 fun i=>aV h 1 fun j=>an a fun b=>ak 3 b fun d=>ai r 119 [d] fun e=>bq j (ii 3) (an a fun c=>ak 2 c fun e=>dC e fun f=>aA f (an a fun b=>ay 6 b fun c=>aK c bT fun _=>ag [bF]) (bq j (ii 3) (ai r 117 [a,(ii 24)] fun c=>ag [bT]) (cb j (ii 0) (ai r 117 [a,j] fun d=>ag [bT]) (bq i (ii 1) (an a fun e=>ak 4 e fun h=>ai r 121 [h] fun l=>ai r 120 [l] fun m=>an a fun n=>ay 5 n fun o=>aK o m fun _=>ag [bT]) (ag [bT]))))) (bq j (ii 3) (ai r 117 [a,(ii 24)] fun c=>ag [bT]) (cb j (ii 0) (ai r 117 [a,j] fun d=>ag [bT]) (bq i (ii 1) (an a fun e=>ak 4 e fun g=>ai r 121 [g] fun h=>ai r 120 [h] fun l=>an a fun m=>ay 5 m fun n=>aK n l fun _=>ag [bT]) (ag [bT])))))
theorem QL:ax aa gt Y r 89 #[a]=inside (HB Y r a):=jK
def HC(Y:Nat)(r:RT)(a b:V):M V:=c9 a nP (ag [(ii 7)]) (an a fun d=>ak 0 d fun f=>aq f b fun g=>an a fun h=>ay 0 h fun i=>aK i g fun _=>ag [(ii 0)])
theorem QM:ax aa gt Y r 90 #[a,b]=inside (HC Y r a b):=jK
def HD(Y:Nat)(r:RT)(a b:V):M V:=aX a (ii 1) (ag [(ii 0),(ii 1)]) (eD a (ii 9) (ag [(ii 0),(ii 1)]) (aX b (ii 24) (ag [(ii 0),(ii 1)]) (eD b (ii 100000) (ag [(ii 0),(ii 1)]) (dK a b fun c=>cL c (ii 19) fun d=>ag [d,(ii 0)]))))
theorem QN:ax aa gt Y r 96 #[a,b]=inside (HD Y r a b):=jK
def HE(Y:Nat)(r:RT)(a:V):M V:=lf a nP (an a fun c=>ak 9 c fun e=>aA e (an a fun f=>ak 1 f fun h=>bq h (ii 0) (an a fun j=>ak 2 j fun m=>bq m (ii 0) (an a fun o=>ak 10 o fun q=>cD q (ii 0) fun s=>ag [s]) (ag [bF])) (ag [bF])) (ag [bF])) (ag [bF])
theorem QO:ax aa gt Y r 97 #[a]=inside (HE Y r a):=jK
def HF(Y:Nat)(r:RT)(a:V):M V:=c9 a nP (ag [(ii 0)]) ((az (ai r 122 [a] M.ret)).bind fun c=>an a fun d=>ay 2 d fun e=>(az (aQ e M.ret)).bind fun f=>cL c.1 f.1 fun g=>dD ((!(cz c.2 f.2)&&true)&&true) (ag [g]))
theorem QP:ax aa gt Y r 98 #[a]=inside (HF Y r a):=jK
def HG(Y:Nat)(r:RT)(a b:V):M V:=c9 a nP (ag [(ii 0),(ii 7)]) (c9 b nP (ag [(ii 0),(ii 7)]) (an a fun c=>ak 10 c fun f=>cb f (ii 0) (an a fun c=>ak 10 c fun f=>ag [(ii 0),f]) (ai r 123 [a,b] fun c=>aV c 0 fun e=>aV c 1 fun f=>cb f (ii 3) (an a fun h=>ay 10 h fun i=>aK i f fun _=>ag [e,f]) (ag [e,f]))))
theorem QQ:ax aa gt Y r 99 #[a,b]=inside (HG Y r a b):=jK
def tI(Y:Nat)(r:RT):Nat->(V->M V)->V->V->V->V->V->V->M V|0,_,_,_,_,_,_,_=> .fail|fu+1,k,a,b,c,d,e,f=>aX f e (nD a (i3 2) fun h=>nD a (i3 2) fun i=>aq i (i3 1) fun j=>bN (aO {data:=#[48,49]}) (some h) (some j) fun l=>aq l d fun m=>jm a (i3 2) fun d=>aq f (ii 1) fun a=>tI Y r fu k d b c m e a) (k d)
def QR:List Nat:=[0,1,4,5,6,7]
def B7(Y:Nat)(r:RT):(V->M V):=fun a=>ag [a]
def B8(Y:Nat)(r:RT)(a b:V):M V:=tI Y r Y (B7 Y r) a b (aO {data:=#[]}) (aO {data:=#[]}) b (ii 0)
theorem QS(K:KT):∀fu,tI Y r fu (fun a=>K (.exit 0) (zp [5] [a]))=fun a b c d e f=>aU (cQ 103 (pb
 6 11) Y r) QR fu (zp QR [a,b,c,d,e,f]) K
 |0=>by funext a b c d e f;kernel_rfl
 |fu+1=>by have g:=QS K fu;funext a b c d e f;rw[tI];simp only[g];kernel_rfl
theorem adG:B7 Y r=(fun a=>(tK 103 (pb 5 11) Y r) (.exit 0) (zp [5] [a])):=jK
theorem QT:ax aa gt Y r 103 #[a,b]=inside (B8 Y r a b):=by unfold B8;simp only[adG,QS];kernel_rfl
def QU(Y:Nat)(r:RT)(a b:V):M V:=cy 159 z159 fun c=>bJ a fun d=>aX d (ii 57) (bo z159 [(5,1,(ii 3))] fun d=>aM 6 c d fun _=>aT 6 c fun a=>ag [a]) (cP a (ii 32) fun d=>bq d (i1 49) (bo z159 [(5,1,(ii 25))] fun d=>aM 6 c d fun _=>aT 6 c fun a=>ag [a]) (bN a (some (ii 57)) none fun d=>ai r 128 [d] fun g=>cy 185 nI fun h=>aM 3 h g fun _=>ak 2 h fun g=>cb g (ii 0) (ak 2 h fun g=>bo z159 [(5,1,g)] fun j=>aM 6 c j fun _=>aT 6 c fun a=>ag [a]) (ak 0 h fun g=>bJ g fun j=>ak 1 h fun g=>aq (ii 57) g fun l=>bN a (some l) none fun d=>aq j (ii 2) fun g=>ai r 129 [d,g,(ii 8000)] fun m=>cy 188 qp fun n=>aM 4 n m fun _=>bN a (some l) none fun d=>aq j (ii 2) fun g=>ai r 131 [d,g] fun m=>ai r 130 [m,j,b] fun o=>cb o (ii 0) (bo z159 [(5,1,(ii 25))] fun d=>aM 6 c d fun _=>aT 6 c fun a=>ag [a]) (ak 3 n fun g=>cb g (ii 0) (ak 3 n fun g=>bo z159 [(5,1,g)] fun o=>aM 6 c o fun _=>aT 6 c fun a=>ag [a]) (ak 0 n fun g=>ai r 132 [g,j,b] fun o=>aV o 0 fun q=>aV o 1 fun s=>ak 0 h fun g=>ai r 133 [q,g] fun o=>aV o 0 fun s=>aV o 1 fun t=>bN a (some (ii 33)) (some (ii 57)) fun d=>ai r 63 [d] fun g=>dm .i64 g fun o=>bJ s fun d=>gw o d (bo z159 [(5,1,(ii 23))] fun d=>aM 6 c d fun _=>aT 6 c fun a=>ag [a]) ((az (bN a none (some (ii 32)) M.ret)).bind fun d=>(az (ai r 63 [d.1] M.ret)).bind fun t=>bo z157 [(0,1,s),(1,1,o),(2,1,t.1)] fun u=>ay 1 n fun v=>(az (aQ v M.ret)).bind fun w=>aq l w.1 fun x=>ay 2 n fun y=>(az (aQ y M.ret)).bind fun z=>bJ s fun A=>aq z.1 A fun B=>bo z159 [(0,3,u),(3,1,x),(4,1,B)] fun C=>(az (aM 6 c C M.ret)).bind fun D=>dD ((!(cz t.2 w.2)&&(!(cz t.2 z.2)&&true))&&true) (aT 6 c fun a=>ag [a])))))))
theorem adH:ax aa gt Y r 104 #[a,b]=inside (QU Y r a b):=jK
def QW(Y:Nat)(r:RT)(a:V):M V:=dP 157 a fun b=>ak 0 b fun d=>bq d (aO {data:=#[]}) (ag [(aO {data:=#[]}),(ii 1)]) (ak 1 b fun d=>aX d (ii 0) (ag [(aO {data:=#[]}),(ii 23)]) (ak 1 b fun h=>ak 0 b fun j=>bJ j fun l=>gw h l (ag [(aO {data:=#[]}),(ii 23)]) (ak 0 b fun d=>ak 1 b fun g=>ai r 135 [d,g] fun h=>ai r 134 [h] fun i=>aV i 0 fun j=>aV i 1 fun l=>cb l (ii 0) (ag [(aO {data:=#[]}),(ii 25)]) ((az (ai r 112 [j] M.ret)).bind fun d=>ay 2 b fun f=>(az (aQ f M.ret)).bind fun g=>fA d.1 g.1 fun h=>dD ((!(cz d.2 g.2)&&true)&&true) (aA h (ag [(aO {data:=#[]}),(ii 21)]) (ag [j,(ii 0)]))))))
theorem adI:ax aa gt Y r 105 #[a]=inside (QW Y r a):=jK
def B9(Y:Nat)(r:RT):Nat->(V->M V)->V->V->V->M V|0,_,_,_,_=> .fail|fu+1,k,a,b,c=>bJ a fun d=>eD d (ii 0) (ai r 137 [a] fun d=>cP a (ii 0) fun f=>bo z168 [(0,1,f),(1,1,d)] fun g=>bO 168 2 g fun h=>bL 168 2 c h fun i=>bN a (some d) none fun c=>B9 Y r fu k c b i) (k c)
def QX:List Nat:=[0,2,3]
def QY(Y:Nat)(r:RT):(V->M V):=fun a=>ag [a]
def HH(Y:Nat)(r:RT)(a:V):M V:=B9 Y r Y (QY Y r) a nS nS
theorem QZ(K:KT):∀fu,B9 Y r fu (fun a=>K (.exit 0) (zp [3] [a]))=fun a b c=>aU (cQ 108 (pb 5
 3) Y r) QX fu (zp QX [a,b,c]) K
 |0=>by funext a b c;kernel_rfl
 |fu+1=>by have d:=QZ K fu;funext a b c;rw[B9];simp only[d];kernel_rfl
theorem adJ:QY Y r=(fun a=>(tK 108 (pb 4 3) Y r) (.exit 0) (zp [3] [a])):=jK
theorem adK:ax aa gt Y r 108 #[a]=inside (HH Y r a):=by unfold HH;simp only[adJ,QZ];kernel_rfl
def yn(Y:Nat)(r:RT):Nat->(V->V->M V)->V->V->V->V->V->V->M V|0,_,_,_,_,_,_,_=> .fail|fu+1,k,a,b,c,d,e,f=>aX f e (aX f (ii 4) (ak 0 b fun j=>bO 5 1 j fun l=>iI l fun m=>aq d m fun n=>aq f (ii 1) fun d=>yn Y r fu k a b c n e d) (aq f (ii 1) fun i=>yn Y r fu k a b c d e i)) (k b d)
def Q3:List Nat:=[0,1,2,3,6,7]
def Q4(Y:Nat)(r:RT):(V->V->M V):=fun a b=>ak 1 a fun d=>gw d (ii 4) (ak 1 a fun d=>cL d (ii 4) fun f=>dm .u8 f fun g=>bO 5 1 g fun h=>iI h fun i=>aq b i fun j=>ag [j]) (ag [b])
def HI(Y:Nat)(r:RT)(a:V):M V:=dP 168 a fun b=>ak 1 b fun d=>yn Y r Y (Q4 Y r) a b (aO {data:=#[]}) (aO {data:=#[]}) d (ii 0)
theorem Q5(K:KT):∀fu,yn Y r fu (fun a b=>K (.exit 0) (zp [1,3] [a,b]))=fun a b c d e f=>aU (cQ
 109 (pb 6 11) Y r) Q3 fu (zp Q3 [a,b,c,d,e,f]) K
 |0=>by funext a b c d e f;kernel_rfl
 |fu+1=>by have g:=Q5 K fu;funext a b c d e f;rw[yn];simp only[g];kernel_rfl
theorem adL:Q4 Y r=(fun a b=>(tK 109 (pb 5 11) Y r) (.exit 0) (zp [1,3] [a,b])):=jK
theorem adM:ax aa gt Y r 109 #[a]=inside (HI Y r a):=by unfold HI;simp only[adL,Q5];kernel_rfl
def Q6(Y:Nat)(r:RT)(a:V):M V:=cy 171 z171 fun b=>ai r 139 [a] fun c=>ai r 138 [a,c] fun d=>aM 2 b d fun _=>aT 2 b fun a=>ag [a]
theorem adN:ax aa gt Y r 110 #[a]=inside (Q6 Y r a):=jK
def Q7(Y:Nat)(r:RT)(a:V):M V:=dP 157 a fun b=>ak 0 b fun d=>ai r 140 [d] fun e=>ak 0 b fun d=>ai r 141 [d,e] fun f=>aV f 0 fun g=>aV f 1 fun h=>bJ e fun c=>ai r 142 [g,c] fun d=>aV d 0 fun f=>aV d 1 fun h=>ay 2 b fun c=>(az (aQ c M.ret)).bind fun d=>(az (ai r 103 [d.1,(ii 32)] M.ret)).bind fun h=>aq h.1 (aO {data:=#[48]}) fun i=>ay 1 b fun j=>(az (aQ j M.ret)).bind fun l=>(az (dm .u32 l.1 M.ret)).bind fun m=>(az (ai r 103 [m.1,(ii 24)] M.ret)).bind fun n=>aq i n.1 fun o=>(az (ai r 143 [e] M.ret)).bind fun p=>aq o p.1 fun q=>bJ e fun s=>aq s (ii 2) fun t=>(az (ai r 144 [f,t] M.ret)).bind fun u=>aq q u.1 fun v=>dD ((!(cz d.2 m.2)&&true)&&((!(cz h.2 l.2)&&(!(cz h.2 m.2)&&true))&&true)) (ag [v])
theorem adO:ax aa gt Y r 111 #[a]=inside (Q7 Y r a):=jK
def tJ(Y:Nat)(r:RT):Nat->(V->M V)->V->V->V->V->M V|0,_,_,_,_,_=> .fail|fu+1,k,a,b,c,d=>bJ a fun e=>aX d e (cP a d fun e=>ai r 145 [c,e] fun g=>aq d (ii 1) fun c=>tJ Y r fu k a b g c) (k c)
def Q8:List Nat:=[0,2,3,4]
def Ca(Y:Nat)(r:RT):(V->M V):=fun a=>cL (i3 4294967295) a fun b=>ag [b]
def Cb(Y:Nat)(r:RT)(a:V):M V:=tJ Y r Y (Ca Y r) a (i3 0) (i3 4294967295) (ii 0)
theorem Q9(K:KT):∀fu,tJ Y r fu (fun a=>K (.exit 0) (zp [3] [a]))=fun a b c d=>aU (cQ 112 (pb 6 11) Y
 r) Q8 fu (zp Q8 [a,b,c,d]) K
 |0=>by funext a b c d;kernel_rfl
 |fu+1=>by have e:=Q9 K fu;funext a b c d;rw[tJ];simp only[e];kernel_rfl
theorem adP:Ca Y r=(fun a=>(tK 112 (pb 5 11) Y r) (.exit 0) (zp [3] [a])):=jK
theorem Ra:ax aa gt Y r 112 #[a]=inside (Cb Y r a):=by unfold Cb;simp only[adP,Q9];kernel_rfl
def Cc(Y:Nat)(r:RT):Nat->(V->M V)->V->V->V->M V|0,_,_,_,_=> .fail|fu+1,k,a,b,c=>bJ a fun d=>gw d (ii 8) (bN a none (some (ii 8)) fun d=>ai r 63 [d] fun f=>dm .u8 f fun g=>bO 5 1 g fun h=>iI h fun i=>aq c i fun j=>bN a (some (ii 8)) none fun c=>Cc Y r fu k c b j) (k c)
def Rb:List Nat:=[0,2,3]
def Rc(Y:Nat)(r:RT):(V->M V):=fun a=>ag [a]
def HJ(Y:Nat)(r:RT)(a:V):M V:=Cc Y r Y (Rc Y r) a (aO {data:=#[]}) (aO {data:=#[]})
theorem Rd(K:KT):∀fu,Cc Y r fu (fun a=>K (.exit 0) (zp [3] [a]))=fun a b c=>aU (cQ 113 (pb 5 3)
 Y r) Rb fu (zp Rb [a,b,c]) K
 |0=>by funext a b c;kernel_rfl
 |fu+1=>by have d:=Rd K fu;funext a b c;rw[Cc];simp only[d];kernel_rfl
theorem adQ:Rc Y r=(fun a=>(tK 113 (pb 4 3) Y r) (.exit 0) (zp [3] [a])):=jK
theorem adR:ax aa gt Y r 113 #[a]=inside (HJ Y r a):=by unfold HJ;simp only[adQ,Rd];kernel_rfl
def Ce(Y:Nat)(r:RT):Nat->(V->M V)->V->V->M V|0,_,_,_=> .fail|fu+1,k,a,b=>bJ a fun c=>nD c (ii 8) fun d=>cb d (ii 0) (aq a (aO {data:=#[48]}) fun c=>Ce Y r fu k c b) (k a)
def Re:List Nat:=[0,2]
def Rf(Y:Nat)(r:RT):(V->M V):=fun a=>ag [a]
def HK(Y:Nat)(r:RT)(a:V):M V:=Ce Y r Y (Rf Y r) a (aO {data:=#[]})
theorem Rg(K:KT):∀fu,Ce Y r fu (fun a=>K (.exit 0) (zp [0] [a]))=fun a b=>aU (cQ 114 (pb 4 1)
 Y r) Re fu (zp Re [a,b]) K
 |0=>by funext a b;kernel_rfl
 |fu+1=>by have c:=Rg K fu;funext a b;rw[Ce];simp only[c];kernel_rfl
theorem adS:Rf Y r=(fun a=>(tK 114 (pb 3 1) Y r) (.exit 0) (zp [0] [a])):=jK
theorem adT:ax aa gt Y r 114 #[a]=inside (HK Y r a):=by unfold HK;simp only[adS,Rg];kernel_rfl
def HL(Y:Nat)(r:RT)(a:V):M V:=c9 a nP (ag [(ii 0)]) (an a fun c=>ak 0 c fun e=>c9 e nP (an a fun c=>ak 5 c fun e=>bx e fun g=>ag [g]) (an a fun c=>ay 0 c fun d=>(az (aQ d M.ret)).bind fun e=>an e.1 fun g=>ay 0 g fun h=>(az (aQ h M.ret)).bind fun i=>(az (ai r 146 [i.1] M.ret)).bind fun j=>an a fun l=>ay 5 l fun m=>(az (aQ m M.ret)).bind fun n=>bx n.1 fun o=>aq j.1 o fun p=>dD ((!(cz j.2 n.2)&&true)&&true) (ag [p])))
theorem Rh:ax aa gt Y r 115 #[a]=inside (HL Y r a):=jK
def HM(Y:Nat)(r:RT)(a:V):M V:=an a fun b=>ak 3 b fun d=>ai r 147 [d,(ii 1)] fun e=>an a fun b=>ak 3 b fun d=>ai r 148 [d] fun e=>bq e (aO {data:=#[]}) (ag [(aO {data:=#[]}),(ii 0)]) (an a fun c=>ak 4 c fun f=>cP e (ii 0) fun g=>ai r 149 [f,g] fun h=>aV h 0 fun i=>aV h 1 fun j=>cb j (ii 0) (ag [(aO {data:=#[]}),j]) (an a fun d=>ak 5 d fun g=>ai r 150 [g,i] fun h=>ai r 151 [a] fun d=>ag [i,d]))
theorem Ri:ax aa gt Y r 116 #[a]=inside (HM Y r a):=jK
def HN(Y:Nat)(r:RT)(a b:V):M V:=an a fun c=>ay 8 c fun d=>aK d bT fun _=>an a fun c=>ay 9 c fun d=>aK d b fun _=>an a fun c=>ay 5 c fun d=>aK d nP fun _=>ag []
theorem Rj:ax aa gt Y r 117 #[a,b]=inside (HN Y r a b):=jK
def HO(Y:Nat)(r:RT)(a:V):M V:=lf a nP (an a fun c=>ak 260 c fun e=>an a fun f=>ak 0 f fun h=>bJ h fun i=>dK (ii 3) i fun j=>cD e j fun l=>ag [l]) (ag [bF])
theorem Rk:ax aa gt Y r 118 #[a]=inside (HO Y r a):=jK
def HP(Y:Nat)(r:RT)(a:V):M V:=c9 a nP (ag [(ii 0)]) (an a fun c=>ak 2 c fun e=>jm e (ii 8) fun f=>an a fun g=>ak 1 g fun i=>cL f i fun j=>an a fun c=>ak 0 c fun e=>bN e (some j) none fun f=>an a fun g=>ay 0 g fun h=>aK h f fun _=>an a fun c=>ak 1 c fun e=>aq e j fun f=>an a fun g=>ay 1 g fun h=>aK h f fun _=>ag [j])
theorem Rl:ax aa gt Y r 119 #[a]=inside (HP Y r a):=jK
def HQ(Y:Nat)(r:RT)(a:V):M V:=dP 134 a fun b=>ak 0 b fun d=>ak 1 b fun f=>ai r 152 [d,f] fun g=>aV g 0 fun h=>aV g 1 fun i=>(az (aT 3 b M.ret)).bind fun c=>(az (ai r 153 [] M.ret)).bind fun d=>(az (ai r 154 [] M.ret)).bind fun e=>bo z139 [(0,3,c.1),(3,1,h),(4,1,d.1),(5,1,e.1)] fun f=>(az (dP 139 f M.ret)).bind fun g=>dD ((!(cz c.2 d.2)&&(!(cz c.2 e.2)&&true))&&true) (ag [g.1])
theorem Rm:ax aa gt Y r 120 #[a]=inside (HQ Y r a):=jK
def HR(Y:Nat)(r:RT)(a:V):M V:=cy 134 vL fun b=>c9 a nP (bo vL [] fun d=>aM 3 b d fun _=>aT 3 b fun a=>ag [a]) (an a fun d=>ay 5 d fun e=>aT 3 e fun f=>aM 3 b f fun _=>aT 3 b fun a=>ag [a])
theorem Rn:ax aa gt Y r 121 #[a]=inside (HR Y r a):=jK
def HS(Y:Nat)(r:RT)(a:V):M V:=an a fun b=>ak 1 b fun d=>an a fun e=>ak 0 e fun g=>bJ g fun h=>aq d h fun i=>dK (ii 8) i fun j=>ag [j]
theorem Ro:ax aa gt Y r 122 #[a]=inside (HS Y r a):=jK
def HU(Y:Nat)(r:RT)(a b:V):M V:=an a fun c=>ak 1 c fun e=>bq e (ii 0) (ai r 155 [a,b] fun d=>ag [(ii 0),d]) (bq e (ii 1) (ai r 156 [a,b] fun f=>ag [(ii 0),f]) (bq e (ii 2) (ai r 157 [a,b] fun g=>aV g 0 fun h=>aV g 1 fun i=>ag [h,i]) (ai r 158 [a,b] fun g=>aV g 0 fun h=>aV g 1 fun i=>ag [h,i])))
theorem Rp:ax aa gt Y r 123 #[a,b]=inside (HU Y r a b):=jK
def HV(Y:Nat)(r:RT)(a:V):M V:=c9 a nP (ag [(ii 0)]) (an a fun c=>ak 2 c fun e=>ag [e])
theorem Rq:ax aa gt Y r 126 #[a]=inside (HV Y r a):=jK
def HW(Y:Nat)(r:RT)(a b:V):M V:=mg a (i6 1) fun c=>oZ a (i6 31) fun d=>nC c d fun e=>nC e b fun f=>ag [f]
theorem Rr:ax aa gt Y r 127 #[a,b]=inside (HW Y r a b):=jK
def qq(Y:Nat)(r:RT):Nat->(V->V->V->V->V->V->M V)->V->V->V->V->V->V->V->V->V->V->V->M V|0,_,_,_,_,_,_,_,_,_,_,_,_=> .fail|fu+1,k,a,b,c,d,e,f,g,h,i,j,l=>aX l (ii 16) (aq c l fun n=>cP a n fun o=>bq o (i1 49) (dK (ii 16) e fun n=>aq n l fun o=>dm .u8 o fun q=>bO 5 1 q fun s=>iI s fun t=>aq d t fun u=>aq l (ii 1) fun d=>qq Y r fu k a b c u e f g h i j d) (aq l (ii 1) fun n=>qq Y r fu k a b c d e f g h i j n)) (k a b c d f g)
def Rt:List Nat:=[0,2,3,4,5,9,11,12,17,22,24]
def HX(Y:Nat)(r:RT)(k:(V->V->V->M V)×(V->M V))(h:V->V->V->V->V->V->M V):(V->V->V->V->V->V->M V):=fun a b c d e f=>aq c (ii 16) fun g=>aq f (ii 1) fun c=>h a b g d e c
def rE(Y:Nat)(r:RT):Nat->((V->V->V->M V)×(V->M V))->V->V->V->V->V->V->M V|0,_,_,_,_,_,_,_=> .fail|fu+1,k,a,b,c,d,e,f=>eg f (ii 16) fun g=>aA g (cP a f fun h=>fA h (i1 49) fun i=>aA i (aq f (ii 1) fun h=>rE Y r fu k a b c d e h) (bJ a fun h=>aq c (ii 16) fun j=>eg h j fun l=>aA l (bo nI [(2,1,(ii 3))] fun h=>aM 3 b h fun _=>k.2 b) (qq Y r Y (HX Y r k (rE Y r fu k)) a b c d f e f g i l (ii 0)))) (k.1 b c d)
def yo:List Nat:=[0,2,3,4,9,11]
def yp(Y:Nat)(r:RT):(V->V->V->M V)×(V->M V):=(fun a b c=>bq c (aO {data:=#[]}) (bo nI [(2,1,(ii 25))] fun e=>aM 3 a e fun _=>aT 3 a fun b=>ag [b]) (bo nI [(0,1,c),(1,1,b)] fun e=>aM 3 a e fun _=>aT 3 a fun b=>ag [b]),fun a=>aT 3 a fun b=>ag [b])
def HY(Y:Nat)(r:RT)(a:V):M V:=cy 185 nI fun b=>bJ a fun c=>eg c (ii 16) fun d=>aA d (bo nI [(2,1,(ii 3))] fun c=>aM 3 b c fun _=>aT 3 b fun a=>ag [a]) (rE Y r Y (yp Y r) a b (ii 16) (aO {data:=#[]}) d (ii 0))
theorem Ru(K:KT):∀fu,qq Y r fu (fun a b c d e f=>K (.exit 2) (zp [0,2,3,4,9,11] [a,b,c,d,e,f]))
 =fun a b c d e f g h i j l=>aU (cQ 128 (pb 19 95023) Y r) Rt fu (zp Rt [a,b,c,d,e,f,g,h,i,j,l]) K
 |0=>by funext a b c d e f g h i j l;kernel_rfl
 |fu+1=>by have k:=Ru K fu;funext a b c d e f g h i j l;rw[qq];simp only[k];kernel_rfl
theorem adU(K:KT)(g:Nat):HX Y r ((fun a b c=>K (.exit 0) (zp [2,3,4] [a,b,c]),fun a=>K .ret (zp
 [2] [a]))) (fun a b c d e f=>aU (cQ 128 (pb 8 47) Y r) yo g (zp yo [a,b,c,d,e,f]) K)=(fun a b c d e f=>(iK 128 (pb 8
 47) (pb 10 371) yo g K Y r) (.exit 2) (zp [0,2,3,4,9,11] [a,b,c,d,e,f])):=by kernel_rfl
theorem Rv(K:KT):∀fu,rE Y r fu ((fun a b c=>K (.exit 0) (zp [2,3,4] [a,b,c]),fun a=>K .ret (zp [2]
 [a])))=fun a b c d e f=>aU (cQ 128 (pb 8 47) Y r) yo fu (zp yo [a,b,c,d,e,f]) K
 |0=>by funext a b c d e f;kernel_rfl
 |fu+1=>by have g:=Rv K fu;funext a b c d e f;rw[rE];simp only[g,adU,Ru];kernel_rfl
theorem adV:yp Y r=((fun a b c=>(tK 128 (pb 7 47) Y r) (.exit 0) (zp [2,3,4] [a,b,c]),fun a=>(tK 128
 (pb 7 47) Y r) .ret (zp [2] [a]))):=by kernel_rfl
theorem adW:ax aa gt Y r 128 #[a]=inside (HY Y r a):=by unfold HY;simp only[adV,Rv];kernel_rfl
def vT(Y:Nat)(r:RT):Nat->(V->M V)->V->V->V->V->V->V->V->V->V->V->M V|0,_,_,_,_,_,_,_,_,_,_,_=> .fail|fu+1,k,a,b,c,d,e,f,g,h,i,j=>bx h fun l=>jm l (ii 50) fun m=>ak 0 e fun o=>bx o fun p=>gw m p (bo qp [(3,1,(ii 25))] fun l=>aM 4 d l fun _=>k d) (ak 0 f fun m=>ak 0 e fun o=>bx h fun p=>jm p (ii 50) fun s=>bM o s fun t=>aQ t fun u=>bM m u fun v=>aQ v fun w=>bN a (some g) none fun l=>ai r 164 [w,l] fun m=>aX m (ii 0) (bo qp [(3,1,(ii 3))] fun n=>aM 4 d n fun _=>k d) (bx h fun n=>bq n c (bo qp [(3,1,(ii 2))] fun n=>aM 4 d n fun _=>k d) (bM w m fun n=>aQ n fun p=>bJ p fun s=>aq g s fun t=>bO 3 1 m fun g=>bL 3 1 h g fun n=>cL b (ii 1) fun g=>bq m g (ak 0 e fun p=>bx p fun s=>ak 1 e fun v=>dK v b fun x=>aq s x fun y=>bo qp [(0,1,n),(1,1,t),(2,1,y)] fun z=>aM 4 d z fun _=>k d) (vT Y r fu k a b c d e f t n i j))))
def Rx:List Nat:=[0,1,2,6,7,8,9,10,17,31]
def tL(Y:Nat)(r:RT):(V->M V):=fun a=>aT 4 a fun b=>ag [b]
def HZ(Y:Nat)(r:RT)(a b c:V):M V:=cy 188 qp fun d=>ai r 162 [a] fun e=>cy 224 nJ fun f=>aM 5 f e fun _=>ak 4 f fun g=>fA g (ii 0) fun h=>aA h (ak 4 f fun g=>bo qp [(3,1,g)] fun i=>aM 4 d i fun _=>aT 4 d fun a=>ag [a]) (ay 2 f fun e=>(az (aQ e M.ret)).bind fun g=>(az (bN a (some g.1) none M.ret)).bind fun i=>ay 1 f fun j=>(az (aQ j M.ret)).bind fun l=>(az (ai r 163 [i.1,l.1,b] M.ret)).bind fun m=>(az (cy 228 z228 M.ret)).bind fun n=>(az (aM 3 n.1 m.1 M.ret)).bind fun o=>dD ((!(cz m.2 n.2)&&true)&&true) (ak 2 n.1 fun g=>fA g (ii 0) fun i=>aA i (ak 2 n.1 fun g=>bo qp [(3,1,g)] fun j=>aM 4 d j fun _=>aT 4 d fun a=>ag [a]) (ak 2 f fun g=>ak 1 n.1 fun l=>aq g l fun m=>vT Y r Y (tL Y r) a b c d f n.1 m nS h i)))
theorem Ry(K:KT):∀fu,vT Y r fu (fun a=>K .ret (zp [6] [a]))=fun a b c d e f g h i j=>aU (cQ 129
 (pb 9 127) Y r) Rx fu (zp Rx [a,b,c,d,e,f,g,h,i,j]) K
 |0=>by funext a b c d e f g h i j;kernel_rfl
 |fu+1=>by have k:=Ry K fu;funext a b c d e f g h i j;rw[vT];simp only[k];kernel_rfl
theorem adX:tL Y r=(fun a=>(tK 129 (pb 8 127) Y r) .ret (zp [6] [a])):=jK
theorem adY:ax aa gt Y r 129 #[a,b,c]=inside (HZ Y r a b c):=by unfold HZ;simp only[adX,Ry];kernel_rfl
def tM(Y:Nat)(r:RT):Nat->((M V)×(V->M V))->V->V->V->V->V->V->V->V->M V|0,_,_,_,_,_,_,_,_,_=> .fail|fu+1,k,a,b,c,d,e,f,g,h=>aX h g (bM f h fun j=>aQ j fun l=>aT 5 e fun j=>ai r 165 [j,l] fun m=>cy 235 j2 fun n=>aM 8 n m fun _=>ak 7 n fun m=>cb m (ii 0) (ak 7 n fun m=>k.2 m) (ay 0 n fun j=>aT 5 j fun m=>aM 5 e m fun _=>aq h (ii 1) fun j=>tM Y r fu k a b c d e f g j)) (k.1)
def Rz:List Nat:=[0,1,2,6,7,14,15,16]
def yq(Y:Nat)(r:RT):(M V)×(V->M V):=(ag [(ii 0)],fun a=>ag [a])
def H2(Y:Nat)(r:RT)(a b c:V):M V:=bo z233 [(0,1,b),(1,1,c)] fun d=>cy 233 z233 fun e=>aM 5 e d fun _=>bx a fun d=>tM Y r Y (yq Y r) a b c (ii 0) e a d (ii 0)
theorem RA(K:KT):∀fu,tM Y r fu ((K (.exit 0) [],fun a=>K .ret (zp [6] [a])))=fun a b c d e f g h=>
 aU (cQ 130 (pb 6 11) Y r) Rz fu (zp Rz [a,b,c,d,e,f,g,h]) K
 |0=>by funext a b c d e f g h;kernel_rfl
 |fu+1=>by have i:=RA K fu;funext a b c d e f g h;rw[tM];simp only[i];kernel_rfl
theorem adZ:yq Y r=(((tK 130 (pb 5 11) Y r) (.exit 0) [],fun a=>(tK 130 (pb 5 11) Y r) .ret (zp [6] [a]))):=jK
theorem ad0:ax aa gt Y r 130 #[a,b,c]=inside (H2 Y r a b c):=by unfold H2;simp only[adZ,RA];kernel_rfl
def vU(Y:Nat)(r:RT):Nat->((V->M V)×(V->M V))->V->V->V->V->V->V->V->V->V->M V|0,_,_,_,_,_,_,_,_,_,_=> .fail|fu+1,k,a,b,c,d,e,f,g,h,i=>bx g fun j=>jm j (ii 50) fun l=>ak 0 d fun n=>bx n fun o=>aX l o (ak 0 e fun l=>ak 0 d fun n=>bx g fun o=>jm o (ii 50) fun q=>bM n q fun s=>aQ s fun t=>bM l t fun u=>aQ u fun v=>bN a (some f) none fun j=>ai r 164 [v,j] fun l=>aX l (ii 0) (k.2 g) (bM v l fun m=>aQ m fun n=>bJ n fun o=>aq f o fun q=>bO 3 1 l fun f=>bL 3 1 g f fun m=>cL b (ii 1) fun f=>bq l f (k.2 m) (vU Y r fu k a b c d e q m h i))) (k.1 g)
def RC:List Nat:=[0,1,4,5,6,7,8,15,26]
def vV(Y:Nat)(r:RT):(V->M V)×(V->M V):=(fun a=>ag [a],fun a=>ag [a])
def H3(Y:Nat)(r:RT)(a b:V):M V:=ai r 162 [a] fun c=>cy 224 nJ fun d=>aM 5 d c fun _=>ak 4 d fun e=>fA e (ii 0) fun f=>aA f (ag [nS]) (ay 2 d fun c=>(az (aQ c M.ret)).bind fun e=>(az (bN a (some e.1) none M.ret)).bind fun g=>ay 1 d fun h=>(az (aQ h M.ret)).bind fun i=>(az (ai r 163 [g.1,i.1,b] M.ret)).bind fun j=>(az (cy 228 z228 M.ret)).bind fun l=>(az (aM 3 l.1 j.1 M.ret)).bind fun m=>dD ((!(cz j.2 l.2)&&true)&&true) (ak 2 l.1 fun e=>fA e (ii 0) fun g=>aA g (ag [nS]) (ak 2 d fun e=>ak 1 l.1 fun i=>aq e i fun j=>vU Y r Y (vV Y r) a b nS d l.1 j nS f g)))
theorem RD(K:KT):∀fu,vU Y r fu ((fun a=>K (.exit 0) (zp [8] [a]),fun a=>K .ret (zp [4] [a])))=fun a
 b c d e f g h i=>aU (cQ 131 (pb 10 127) Y r) RC fu (zp RC [a,b,c,d,e,f,g,h,i]) K
 |0=>by funext a b c d e f g h i;kernel_rfl
 |fu+1=>by have j:=RD K fu;funext a b c d e f g h i;rw[vU];simp only[j];kernel_rfl
theorem ad1:vV Y r=((fun a=>(tK 131 (pb 9 127) Y r) (.exit 0) (zp [8] [a]),fun a=>(tK 131 (pb 9 127) Y r) .ret (zp [4] [a]))):=jK
theorem ad2:ax aa gt Y r 131 #[a,b]=inside (H3 Y r a b):=by unfold H3;simp only[ad1,RD];kernel_rfl
def tN(Y:Nat)(r:RT):Nat->(V->V->V->V->V->V->V->V->V->V->V->V->M V)->V->V->V->V->V->V->V->V->V->V->V->V->V->V->V->V->V->V->M V|0,_,_,_,_,_,_,_,_,_,_,_,_,_,_,_,_,_,_,_=> .fail|fu+1,k,a,b,c,d,e,f,g,h,i,j,l,m,n,o,p,q,s,t=>aX t s (bO 3 1 (ii 0) fun v=>bL 3 1 g v fun w=>aq t (ii 1) fun g=>tN Y r fu k a b c d e f w h i j l m n o p q s g) (k a b c d e f g i j l m n)
def RE:List Nat:=[0,1,2,6,7,8,9,11,12,26,30,31,32,33,41,44,48,49]
def Cf(Y:Nat)(r:RT)(k:(V->V->M V)×(V->V->M V))(u:V->V->V->V->V->V->V->V->V->V->V->M V):(V->V->V->V->V->V->V->V->V->V->V->V->M V):=fun a b c d e f g h i j l m=>ak 6 h fun o=>qj o (ii 0) fun p=>(fun n=>aA p (ak 6 h fun q=>bO 3 1 q fun s=>bL 3 1 g s fun t=>n t) (n g)) fun g=>ay 0 h fun n=>aT 5 n fun o=>aM 5 f o fun _=>aq m (ii 1) fun n=>u a b c d e f g i j l n
def qt(Y:Nat)(r:RT):Nat->((V->V->M V)×(V->V->M V))->V->V->V->V->V->V->V->V->V->V->V->M V|0,_,_,_,_,_,_,_,_,_,_,_,_=> .fail|fu+1,k,a,b,c,d,e,f,g,h,i,j,l=>eg l j fun m=>aA m (bM i l fun n=>aQ n fun o=>aT 5 f fun n=>ai r 165 [n,o] fun p=>cy 235 j2 fun q=>aM 8 q p fun _=>ak 7 q fun p=>cD p (ii 7) fun s=>aA s (k.2 nS (ii 25)) (ak 7 q fun p=>fA p (ii 0) fun t=>aA t (ak 7 q fun p=>k.2 nS p) (ak 5 q fun p=>tN Y r Y (Cf Y r k (qt Y r fu k)) a b c d e f g o q h i j l m s t p (ii 0)))) (k.1 f g)
def yr:List Nat:=[0,1,2,6,7,8,9,26,30,31,32]
abbrev RF(Y:Nat)(r:RT)(a:Nat)(k:(V->V->M V)×(V->V->M V)):(V->V->V->V->V->V->V->V->V->V->V->V->M V):=Cf Y r k (qt Y r a k)
def vW(Y:Nat)(r:RT):(V->V->M V)×(V->V->M V):=(fun a b=>ak 4 a fun d=>dC d fun e=>aA e (ag [nS,(ii 24)]) (ag [b,(ii 0)]),fun a b=>ag [a,b])
def H4(Y:Nat)(r:RT)(a b c:V):M V:=aX b (ii 1) (ag [nS,(ii 1)]) (eD b (ii 256) (ag [nS,(ii 1)]) (aX c (ii 0) (ag [nS,(ii 1)]) (iH c (ii 1099511627776) fun g=>aA g (ag [nS,(ii 1)]) (bo z233 [(0,1,b),(1,1,c)] fun d=>cy 233 z233 fun e=>aM 5 e d fun _=>bx a fun d=>qt Y r Y (vW Y r) a b c nS (ii 0) e nS g a d (ii 0)))))
theorem RG(K:KT):∀fu,tN Y r fu (fun a b c d e f g h i j l m=>K (.exit 2) (zp [0,1,2,6,7,8,9,
 12,26,30,31,32] [a,b,c,d,e,f,g,h,i,j,l,m]))=fun a b c d e f g h i j l m n o p q s t=>aU (cQ 132 (pb 20 193327) Y r) RE fu (zp
 RE [a,b,c,d,e,f,g,h,i,j,l,m,n,o,p,q,s,t]) K
 |0=>by funext a b c d e f g h i j l m n o p q s t;kernel_rfl
 |fu+1=>by have k:=RG K fu;funext a b c d e f g h i j l m n o p q s t;rw[tN];simp only[k];kernel_rfl
theorem ad3(K:KT)(k:Nat):Cf Y r ((fun a b=>K (.exit 0) (zp [8,9] [a,b]),fun a b=>K .ret (zp [6,
 7] [a,b]))) (fun a b c d e f g h i j l=>aU (cQ 132 (pb 8 47) Y r) yr k (zp yr [a,b,c,d,e,f,g,h,i,j,l]) K)=(fun
 a b c d e f g h i j l m=>(iK 132 (pb 8 47) (pb 11 755) yr k K Y r) (.exit 2) (zp [0,1,2,6,7,8,9,12,26,30,31,32] [a,b,c,d,e,f,g,h,i,j,l,m])):=by kernel_rfl
theorem RH(K:KT):∀fu,qt Y r fu ((fun a b=>K (.exit 0) (zp [8,9] [a,b]),fun a b=>K .ret (zp [6,
 7] [a,b])))=fun a b c d e f g h i j l=>aU (cQ 132 (pb 8 47) Y r) yr fu (zp yr [a,b,c,d,e,f,g,h,i,j,l]) K
 |0=>by funext a b c d e f g h i j l;kernel_rfl
 |fu+1=>by have k:=RH K fu;funext a b c d e f g h i j l;rw[qt];simp only[k,ad3,RG];kernel_rfl
theorem ad4:vW Y r=((fun a b=>(tK 132 (pb 7 47) Y r) (.exit 0) (zp [8,9] [a,b]),fun a b=>(tK 132
 (pb 7 47) Y r) .ret (zp [6,7] [a,b]))):=by kernel_rfl
theorem ad5:ax aa gt Y r 132 #[a,b,c]=inside (H4 Y r a b c):=by unfold H4;simp only[ad4,RH];kernel_rfl
def tO(Y:Nat)(r:RT):Nat->((V->M V)×(V->V->M V))->V->V->V->V->V->V->V->V->V->V->M V|0,_,_,_,_,_,_,_,_,_,_,_=> .fail|fu+1,k,a,b,c,d,e,f,g,h,i,j=>aX j i (bM h j fun m=>aQ m fun n=>aX n (ii 0) (k.2 (aO {data:=#[]}) (ii 1)) (bJ f fun o=>gw n o (k.2 (aO {data:=#[]}) (ii 1)) (aq n (ii 1) fun m=>bN f (some n) (some m) fun o=>aq e o fun q=>ai r 167 [f,n] fun e=>aq j (ii 1) fun f=>tO Y r fu k a b c d q e g h i f))) (k.1 e)
def RI:List Nat:=[0,1,4,5,6,7,12,14,15,16]
def Cg(Y:Nat)(r:RT):(V->M V)×(V->V->M V):=(fun a=>ag [a,(ii 0)],fun a b=>ag [a,b])
def H5(Y:Nat)(r:RT)(a b:V):M V:=ai r 166 [b] fun c=>dC c fun d=>aA d (ag [(aO {data:=#[]}),(ii 1)]) (bx a fun c=>tO Y r Y (Cg Y r) a b (aO {data:=#[]}) (ii 0) (aO {data:=#[]}) b d a c (ii 0))
theorem RJ(K:KT):∀fu,tO Y r fu ((fun a=>K (.exit 0) (zp [6] [a]),fun a b=>K .ret (zp [4,5] [a,
 b])))=fun a b c d e f g h i j=>aU (cQ 133 (pb 8 47) Y r) RI fu (zp RI [a,b,c,d,e,f,g,h,i,j]) K
 |0=>by funext a b c d e f g h i j;kernel_rfl
 |fu+1=>by have k:=RJ K fu;funext a b c d e f g h i j;rw[tO];simp only[k];kernel_rfl
theorem ad6:Cg Y r=((fun a=>(tK 133 (pb 7 47) Y r) (.exit 0) (zp [6] [a]),fun a b=>(tK 133 (pb 7 47)
 Y r) .ret (zp [4,5] [a,b]))):=by kernel_rfl
theorem ad7:ax aa gt Y r 133 #[a,b]=inside (H5 Y r a b):=by unfold H5;simp only[ad6,RJ];kernel_rfl
def tP(Y:Nat)(r:RT):Nat->(V->V->V->V->M V)->V->V->V->V->V->V->V->V->V->V->M V|0,_,_,_,_,_,_,_,_,_,_,_=> .fail|fu+1,k,a,b,c,d,e,f,g,h,i,j=>aX j i (bN a none (some (ii 1)) fun m=>aq d m fun n=>aq j (ii 1) fun d=>tP Y r fu k a b c n e f g h i d) (k a b c d)
def RK:List Nat:=[0,2,3,4,7,10,19,22,26,27]
def Ch(Y:Nat)(r:RT)(k:(V->M V)×(V->V->M V))(f:V->V->V->V->M V):(V->V->V->V->M V):=fun a b c d=>bN a (some (ii 5)) none fun e=>f e b c d
def pe(Y:Nat)(r:RT):Nat->((V->M V)×(V->V->M V))->V->V->V->V->M V|0,_,_,_,_,_=> .fail|fu+1,k,a,b,c,d=>bJ a fun e=>iH e (ii 0) fun f=>aA f (ai r 168 [a] fun e=>dC e fun g=>aA g (bN a none (some (ii 1)) fun e=>aq d e fun h=>bN a (some (ii 1)) none fun d=>pe Y r fu k d b c h) (bJ a fun e=>cD e (ii 4) fun h=>aA h (k.2 (aO {data:=#[]}) (ii 24)) (cP a (ii 4) fun e=>iH e (i1 251) fun i=>aA i (k.2 (aO {data:=#[]}) (ii 25)) (cP a (ii 4) fun e=>dm .i64 e fun j=>aq (ii 4) j fun l=>tP Y r Y (Ch Y r k (pe Y r fu k)) a b c d f g h i l (ii 0))))) (k.1 d)
def yu:List Nat:=[0,2,3,4]
abbrev RL(Y:Nat)(r:RT)(a:Nat)(k:(V->M V)×(V->V->M V)):(V->V->V->V->M V):=Ch Y r k (pe Y r a k)
def rF(Y:Nat)(r:RT):(V->M V)×(V->V->M V):=(fun a=>ag [a,(ii 0)],fun a b=>ag [a,b])
def H6(Y:Nat)(r:RT)(a:V):M V:=pe Y r Y (rF Y r) a (aO {data:=#[]}) (ii 0) (aO {data:=#[]})
theorem RM(K:KT):∀fu,tP Y r fu (fun a b c d=>K (.exit 2) (zp [0,2,3,4] [a,b,c,d]))=fun a b c
 d e f g h i j=>aU (cQ 134 (pb 14 2979) Y r) RK fu (zp RK [a,b,c,d,e,f,g,h,i,j]) K
 |0=>by funext a b c d e f g h i j;kernel_rfl
 |fu+1=>by have k:=RM K fu;funext a b c d e f g h i j;rw[tP];simp only[k];kernel_rfl
theorem ad8(K:KT)(e:Nat):Ch Y r ((fun a=>K (.exit 0) (zp [4] [a]),fun a b=>K .ret (zp [2,3] [a,
 b]))) (fun a b c d=>aU (cQ 134 (pb 5 3) Y r) yu e (zp yu [a,b,c,d]) K)=(fun a b c d=>(iK 134 (pb 5 3) (pb 8 93)
 yu e K Y r) (.exit 2) (zp [0,2,3,4] [a,b,c,d])):=by kernel_rfl
theorem RN(K:KT):∀fu,pe Y r fu ((fun a=>K (.exit 0) (zp [4] [a]),fun a b=>K .ret (zp [2,3] [a,
 b])))=fun a b c d=>aU (cQ 134 (pb 5 3) Y r) yu fu (zp yu [a,b,c,d]) K
 |0=>by funext a b c d;kernel_rfl
 |fu+1=>by have e:=RN K fu;funext a b c d;rw[pe];simp only[e,ad8,RM];kernel_rfl
theorem ad9:rF Y r=((fun a=>(tK 134 (pb 4 3) Y r) (.exit 0) (zp [4] [a]),fun a b=>(tK 134 (pb 4 3) Y
 r) .ret (zp [2,3] [a,b]))):=by kernel_rfl
theorem ad':ax aa gt Y r 134 #[a]=inside (H6 Y r a):=by unfold H6;simp only[ad9,RN];kernel_rfl
def tQ(Y:Nat)(r:RT):Nat->(V->M V)->V->V->V->V->V->V->V->V->M V|0,_,_,_,_,_,_,_,_,_=> .fail|fu+1,k,a,b,c,d,e,f,g,h=>aX h g (bM d f fun j=>aQ j fun l=>aq l (ii 1) fun f=>bN a (some l) (some f) fun j=>aq e j fun m=>aq h (ii 1) fun e=>tQ Y r fu k a b c d m l g e) (k e)
def RP:List Nat:=[0,1,4,5,6,7,12,13]
def Ci(Y:Nat)(r:RT):(V->M V):=fun a=>ag [a]
def H7(Y:Nat)(r:RT)(a b:V):M V:=ai r 169 [a] fun c=>bJ a fun d=>tQ Y r Y (Ci Y r) a b (aO {data:=#[]}) c (aO {data:=#[]}) b d (ii 0)
theorem RQ(K:KT):∀fu,tQ Y r fu (fun a=>K (.exit 0) (zp [6] [a]))=fun a b c d e f g h=>aU (cQ 135 (pb 8
 47) Y r) RP fu (zp RP [a,b,c,d,e,f,g,h]) K
 |0=>by funext a b c d e f g h;kernel_rfl
 |fu+1=>by have i:=RQ K fu;funext a b c d e f g h;rw[tQ];simp only[i];kernel_rfl
theorem ad_:Ci Y r=(fun a=>(tK 135 (pb 7 47) Y r) (.exit 0) (zp [6] [a])):=jK
theorem aea:ax aa gt Y r 135 #[a,b]=inside (H7 Y r a b):=by unfold H7;simp only[ad_,RQ];kernel_rfl
def Cj(Y:Nat)(r:RT):Nat->(V->M V)->V->V->V->M V|0,_,_,_,_=> .fail|fu+1,k,a,b,c=>bJ a fun d=>aX c d (aX c (ii 255) (cP a c fun g=>cP a (ii 0) fun h=>bq g h (aq c (ii 1) fun d=>Cj Y r fu k a b d) (k c)) (k c)) (k c)
def RR:List Nat:=[0,2,3]
def RS(Y:Nat)(r:RT):(V->M V):=fun a=>ag [a]
def H8(Y:Nat)(r:RT)(a:V):M V:=Cj Y r Y (RS Y r) a (ii 0) (ii 0)
theorem RU(K:KT):∀fu,Cj Y r fu (fun a=>K (.exit 0) (zp [3] [a]))=fun a b c=>aU (cQ 137 (pb 5 3) Y
 r) RR fu (zp RR [a,b,c]) K
 |0=>by funext a b c;kernel_rfl
 |fu+1=>by have d:=RU K fu;funext a b c;rw[Cj];simp only[d];kernel_rfl
theorem aeb:RS Y r=(fun a=>(tK 137 (pb 4 3) Y r) (.exit 0) (zp [3] [a])):=jK
theorem aec:ax aa gt Y r 137 #[a]=inside (H8 Y r a):=by unfold H8;simp only[aeb,RU];kernel_rfl
def yv(Y:Nat)(r:RT):Nat->(V->V->M V)->V->V->V->V->V->V->V->M V|0,_,_,_,_,_,_,_,_=> .fail|fu+1,k,a,b,c,d,e,f,g=>aX g f (bM e g fun i=>aQ i fun j=>ai r 170 [a,j] fun i=>ak 0 d fun m=>bJ i fun n=>cL n (ii 1) fun o=>bN i (some o) none fun p=>aq m p fun q=>ay 0 d fun s=>aK s q fun _=>bq j (ii 0) (ay 1 d fun m=>aK m g fun _=>aq g (ii 1) fun m=>yv Y r fu k a b c d e f m) (aq g (ii 1) fun m=>yv Y r fu k a b c d e f m)) (k c d)
def RV:List Nat:=[0,1,4,5,10,11,12]
def RW(Y:Nat)(r:RT):(V->V->M V):=fun a b=>aT 2 b fun c=>aM 2 a c fun _=>aT 2 a fun b=>ag [b]
def H9(Y:Nat)(r:RT)(a b:V):M V:=cy 171 z171 fun c=>bo z171 [] fun d=>cy 171 z171 fun e=>aM 2 e d fun _=>bx b fun d=>yv Y r Y (RW Y r) a b c e b d (ii 0)
theorem RX(K:KT):∀fu,yv Y r fu (fun a b=>K (.exit 0) (zp [4,5] [a,b]))=fun a b c d e f g=>aU (cQ
 138 (pb 6 11) Y r) RV fu (zp RV [a,b,c,d,e,f,g]) K
 |0=>by funext a b c d e f g;kernel_rfl
 |fu+1=>by have h:=RX K fu;funext a b c d e f g;rw[yv];simp only[h];kernel_rfl
theorem aed:RW Y r=(fun a b=>(tK 138 (pb 5 11) Y r) (.exit 0) (zp [4,5] [a,b])):=jK
theorem aee:ax aa gt Y r 138 #[a,b]=inside (H9 Y r a b):=by unfold H9;simp only[aed,RX];kernel_rfl
def yw(Y:Nat)(r:RT):Nat->(V->V->V->V->V->V->V->M V)->V->V->V->V->V->V->V->V->V->V->V->V->M V|0,_,_,_,_,_,_,_,_,_,_,_,_,_=> .fail|fu+1,k,a,b,c,d,e,f,g,h,i,j,l,m=>aX m l (bM j m fun o=>aQ o fun p=>dC f fun o=>aA o (ai r 171 [a,d,p] fun q=>(fun o=>aA q (bO 3 1 d fun s=>bL 3 1 e s fun t=>o t bT) (o e f)) fun e f=>bO 3 1 p fun o=>bL 3 1 e o fun s=>aq m (ii 1) fun e=>yw Y r fu k a b c d s f g h i j l e) (bO 3 1 p fun o=>bL 3 1 e o fun q=>aq m (ii 1) fun e=>yw Y r fu k a b c d q f g h i j l e)) (k a b d e f g h)
def RY:List Nat:=[0,2,3,4,5,6,10,11,12,14,15,16]
def R0(Y:Nat)(r:RT)(k:(V->M V))(l:V->V->V->V->V->M V):(V->V->V->V->V->V->V->M V):=fun a b c d e f g=>dC e fun h=>aA h (bO 3 1 c fun i=>bL 3 1 d i fun j=>aq g (ii 1) fun d=>l a b j f d) (aq g (ii 1) fun i=>l a b d f i)
def Cl(Y:Nat)(r:RT):Nat->(V->M V)->V->V->V->V->V->M V|0,_,_,_,_,_,_=> .fail|fu+1,k,a,b,c,d,e=>eg e d fun f=>aA f (bx c fun g=>yw Y r Y (R0 Y r k (Cl Y r fu k)) a b c e nS bF d e f c g (ii 0)) (k c)
def yx:List Nat:=[0,2,3,10,11]
def R1(Y:Nat)(r:RT):(V->M V):=fun a=>ag [a]
def H'(Y:Nat)(r:RT)(a:V):M V:=bJ a fun b=>Cl Y r Y (R1 Y r) a nS nS b (ii 0)
theorem R2(K:KT):∀fu,yw Y r fu (fun a b c d e f g=>K (.exit 2) (zp [0,2,4,5,6,10,11] [a,b,c,
 d,e,f,g]))=fun a b c d e f g h i j l m=>aU (cQ 139 (pb 17 23755) Y r) RY fu (zp RY [a,b,c,d,e,f,g,h,i,j,l,m]) K
 |0=>by funext a b c d e f g h i j l m;kernel_rfl
 |fu+1=>by have k:=R2 K fu;funext a b c d e f g h i j l m;rw[yw];simp only[k];kernel_rfl
theorem aef(K:KT)(h:Nat):R0 Y r (fun a=>K (.exit 0) (zp [3] [a])) (fun a b c d e=>aU (cQ 139
 (pb 6 11) Y r) yx h (zp yx [a,b,c,d,e]) K)=(fun a b c d e f g=>(iK 139 (pb 6 11) (pb 10 371) yx h K Y
 r) (.exit 2) (zp [0,2,4,5,6,10,11] [a,b,c,d,e,f,g])):=by kernel_rfl
theorem R3(K:KT):∀fu,Cl Y r fu (fun a=>K (.exit 0) (zp [3] [a]))=fun a b c d e=>aU (cQ 139 (pb
 6 11) Y r) yx fu (zp yx [a,b,c,d,e]) K
 |0=>by funext a b c d e;kernel_rfl
 |fu+1=>by have f:=R3 K fu;funext a b c d e;rw[Cl];simp only[f,aef,R2];kernel_rfl
theorem aeg:R1 Y r=(fun a=>(tK 139 (pb 5 11) Y r) (.exit 0) (zp [3] [a])):=jK
theorem aeh:ax aa gt Y r 139 #[a]=inside (H' Y r a):=by unfold H';simp only[aeg,R3];kernel_rfl
def rG(Y:Nat)(r:RT):Nat->(V->M V)->V->V->V->V->M V|0,_,_,_,_,_=> .fail|fu+1,k,a,b,c,d=>aX d (ii 256) (ai r 172 [a,d] fun f=>aA f (dm .u8 d fun g=>bO 5 1 g fun h=>iI h fun i=>aq c i fun j=>aq d (ii 1) fun c=>rG Y r fu k a b j c) (aq d (ii 1) fun g=>rG Y r fu k a b c g)) (k c)
def R4:List Nat:=[0,2,3,5]
def Co(Y:Nat)(r:RT):(V->M V):=fun a=>ag [a]
def Cp(Y:Nat)(r:RT)(a:V):M V:=rG Y r Y (Co Y r) a (aO {data:=#[]}) (aO {data:=#[]}) (ii 0)
theorem R5(K:KT):∀fu,rG Y r fu (fun a=>K (.exit 0) (zp [3] [a]))=fun a b c d=>aU (cQ 140 (pb
 6 11) Y r) R4 fu (zp R4 [a,b,c,d]) K
 |0=>by funext a b c d;kernel_rfl
 |fu+1=>by have e:=R5 K fu;funext a b c d;rw[rG];simp only[e];kernel_rfl
theorem aei:Co Y r=(fun a=>(tK 140 (pb 5 11) Y r) (.exit 0) (zp [3] [a])):=jK
theorem R7:ax aa gt Y r 140 #[a]=inside (Cp Y r a):=by unfold Cp;simp only[aei,R5];kernel_rfl
def Cq(Y:Nat)(r:RT):Nat->((V->M V)×(V->V->M V))->V->V->V->V->V->V->V->V->M V|0,_,_,_,_,_,_,_,_,_=> .fail|fu+1,k,a,b,c,d,e,f,g,h=>bJ a fun i=>aX g i (cP a g fun i=>ai r 173 [f,i] fun l=>aX l (ii 0) (k.2 nS (ii 6)) (bO 3 1 l fun m=>bL 3 1 e m fun n=>ai r 167 [f,l] fun e=>aq g (ii 1) fun f=>Cq Y r fu k a b c d n e f h)) (k.1 e)
def R8:List Nat:=[0,1,4,5,6,7,8,12]
def R9(Y:Nat)(r:RT):(V->M V)×(V->V->M V):=(fun a=>ag [a,(ii 0)],fun a b=>ag [a,b])
def Ia(Y:Nat)(r:RT)(a b:V):M V:=ai r 166 [b] fun c=>dC c fun d=>aA d (ag [nS,(ii 1)]) (Cq Y r Y (R9 Y r) a b nS (ii 0) nS b (ii 0) d)
theorem R'(K:KT):∀fu,Cq Y r fu ((fun a=>K (.exit 0) (zp [6] [a]),fun a b=>K .ret (zp [4,5] [a,
 b])))=fun a b c d e f g h=>aU (cQ 141 (pb 8 47) Y r) R8 fu (zp R8 [a,b,c,d,e,f,g,h]) K
 |0=>by funext a b c d e f g h;kernel_rfl
 |fu+1=>by have i:=R' K fu;funext a b c d e f g h;rw[Cq];simp only[i];kernel_rfl
theorem aej:R9 Y r=((fun a=>(tK 141 (pb 7 47) Y r) (.exit 0) (zp [6] [a]),fun a b=>(tK 141 (pb 7 47)
 Y r) .ret (zp [4,5] [a,b]))):=by kernel_rfl
theorem aek:ax aa gt Y r 141 #[a,b]=inside (Ia Y r a b):=by unfold Ia;simp only[aej,R'];kernel_rfl
def yy(Y:Nat)(r:RT):Nat->((V->V->V->M V)×(V->V->M V))->V->V->V->V->V->V->V->V->V->V->M V|0,_,_,_,_,_,_,_,_,_,_,_=> .fail|fu+1,k,a,b,c,d,e,f,g,h,i,j=>aX j i (bM h j fun m=>aQ m fun n=>aX n (ii 0) (k.2 nS (ii 1)) (gw n b (k.2 nS (ii 1)) (bq n (ii 0) (aq f (ii 1) fun p=>aq j (ii 1) fun f=>yy Y r fu k a b c d e p g h i f) (ai r 174 [f] fun p=>bL 3 1 e p fun q=>aq n (ii 1) fun e=>bO 3 1 e fun p=>bL 3 1 q p fun s=>aq j (ii 1) fun e=>yy Y r fu k a b c d s (ii 0) g h i e)))) (k.1 b e f)
def Sa:List Nat:=[0,1,4,5,6,7,15,16,17,18]
def Sb(Y:Nat)(r:RT):(V->V->V->M V)×(V->V->M V):=(fun a b c=>ai r 174 [c] fun d=>bL 3 1 b d fun e=>aq a (ii 1) fun b=>bO 3 1 b fun d=>bL 3 1 e d fun f=>ag [f,(ii 0)],fun a b=>ag [a,b])
def Ib(Y:Nat)(r:RT)(a b:V):M V:=aX b (ii 1) (ag [nS,(ii 1)]) (iH b (ii 256) fun d=>aA d (ag [nS,(ii 1)]) (bx a fun c=>yy Y r Y (Sb Y r) a b nS (ii 0) nS (ii 0) d a c (ii 0)))
theorem Sc(K:KT):∀fu,yy Y r fu ((fun a b c=>K (.exit 0) (zp [1,6,7] [a,b,c]),fun a b=>K .ret
 (zp [4,5] [a,b])))=fun a b c d e f g h i j=>aU (cQ 142 (pb 8 47) Y r) Sa fu (zp Sa [a,b,c,d,e,f,g,h,i,j]) K
 |0=>by funext a b c d e f g h i j;kernel_rfl
 |fu+1=>by have k:=Sc K fu;funext a b c d e f g h i j;rw[yy];simp only[k];kernel_rfl
theorem ael:Sb Y r=((fun a b c=>(tK 142 (pb 7 47) Y r) (.exit 0) (zp [1,6,7] [a,b,c]),fun a b=>(tK 142 (pb 7 47) Y r) .ret (zp [4,5] [a,b]))):=by kernel_rfl
theorem aem:ax aa gt Y r 142 #[a,b]=inside (Ib Y r a b):=by unfold Ib;simp only[ael,Sc];kernel_rfl
def yz(Y:Nat)(r:RT):Nat->(V->V->V->V->V->V->V->M V)->V->V->V->V->V->V->V->V->V->V->M V|0,_,_,_,_,_,_,_,_,_,_,_=> .fail|fu+1,k,a,b,c,d,e,f,g,h,i,j=>aX j (ii 16) (dK (ii 16) e fun m=>aq m j fun n=>ai r 172 [a,n] fun o=>aA o (aq f (aO {data:=#[49]}) fun m=>aq j (ii 1) fun f=>yz Y r fu k a b c d e m bT h i f) (aq f (aO {data:=#[48]}) fun m=>aq j (ii 1) fun f=>yz Y r fu k a b c d e m g h i f)) (k a b c d f g h)
def Sd:List Nat:=[0,2,3,4,5,6,7,9,10,12]
def Se(Y:Nat)(r:RT)(k:(V->V->M V))(i:V->V->V->V->V->M V):(V->V->V->V->V->V->V->M V):=fun a b c d e f g=>aA f (aq c (aO {data:=#[49]}) fun h=>aq d e fun c=>aq g (ii 1) fun d=>i a b h c d) (aq c (aO {data:=#[48]}) fun h=>aq g (ii 1) fun c=>i a b h d c)
def Cr(Y:Nat)(r:RT):Nat->(V->V->M V)->V->V->V->V->V->M V|0,_,_,_,_,_,_=> .fail|fu+1,k,a,b,c,d,e=>eg e (ii 16) fun f=>aA f (yz Y r Y (Se Y r k (Cr Y r fu k)) a b c d e (aO {data:=#[]}) bF e f (ii 0)) (k c d)
def yA:List Nat:=[0,2,3,4,9]
def Sf(Y:Nat)(r:RT):(V->V->M V):=fun a b=>aq a b fun c=>ag [c]
def Ic(Y:Nat)(r:RT)(a:V):M V:=Cr Y r Y (Sf Y r) a (aO {data:=#[]}) (aO {data:=#[]}) (aO {data:=#[]}) (ii 0)
theorem Sg(K:KT):∀fu,yz Y r fu (fun a b c d e f g=>K (.exit 2) (zp [0,2,3,4,6,7,9] [a,b,c,d,e,
 f,g]))=fun a b c d e f g h i j=>aU (cQ 143 (pb 18 47511) Y r) Sd fu (zp Sd [a,b,c,d,e,f,g,h,i,j]) K
 |0=>by funext a b c d e f g h i j;kernel_rfl
 |fu+1=>by have k:=Sg K fu;funext a b c d e f g h i j;rw[yz];simp only[k];kernel_rfl
theorem aen(K:KT)(h:Nat):Se Y r (fun a b=>K (.exit 0) (zp [3,4] [a,b])) (fun a b c d e=>aU (cQ
 143 (pb 7 23) Y r) yA h (zp yA [a,b,c,d,e]) K)=(fun a b c d e f g=>(iK 143 (pb 7 23) (pb 10 371) yA h K Y
 r) (.exit 2) (zp [0,2,3,4,6,7,9] [a,b,c,d,e,f,g])):=by kernel_rfl
theorem Sh(K:KT):∀fu,Cr Y r fu (fun a b=>K (.exit 0) (zp [3,4] [a,b]))=fun a b c d e=>aU (cQ 143
 (pb 7 23) Y r) yA fu (zp yA [a,b,c,d,e]) K
 |0=>by funext a b c d e;kernel_rfl
 |fu+1=>by have f:=Sh K fu;funext a b c d e;rw[Cr];simp only[f,aen,Sg];kernel_rfl
theorem aeo:Sf Y r=(fun a b=>(tK 143 (pb 6 23) Y r) (.exit 0) (zp [3,4] [a,b])):=jK
theorem aep:ax aa gt Y r 143 #[a]=inside (Ic Y r a):=by unfold Ic;simp only[aeo,Sh];kernel_rfl
def Cs(Y:Nat)(r:RT):Nat->(V->V->V->V->V->V->V->V->V->V->M V)->V->V->V->V->V->V->V->V->V->M V|0,_,_,_,_,_,_,_,_,_,_=> .fail|fu+1,k,a,b,c,d,e,f,g,h,i=>eg i h fun j=>aA j (bM g i fun l=>aQ l fun m=>ai r 177 [m] fun l=>aq e l fun n=>ai r 178 [m] fun e=>bO 230 1 e fun l=>bL 230 1 f l fun o=>aq i (ii 1) fun e=>Cs Y r fu k a b c d n o g h e) (k a b c d e f g h i j)
def Si:List Nat:=[0,1,4,5,6,7,22,23,24]
def Ct(Y:Nat)(r:RT):Nat->(V->M V)->V->V->V->V->V->V->V->V->V->V->V->V->V->M V|0,_,_,_,_,_,_,_,_,_,_,_,_,_,_=> .fail|fu+1,k,a,b,c,d,e,f,g,h,i,j,l,m,n=>aX n m (bM l n fun p=>aQ p fun q=>ak 1 d fun s=>jm n (ii 50) fun t=>bM s t fun u=>aQ u fun v=>bM f v fun w=>aQ w fun x=>bM x q fun y=>aQ y fun z=>aq e z fun A=>aq n (ii 1) fun e=>Ct Y r fu k a b c d A f g h i j l m e) (k e)
def Sj:List Nat:=[0,1,4,5,6,7,22,23,24,25,38,39,40]
def Sk(Y:Nat)(r:RT):(V->M V):=fun a=>ag [a]
def Ie(Y:Nat)(r:RT):(V->V->V->V->V->V->V->V->V->V->M V):=fun a b c d e f g h i j=>bx a fun l=>Ct Y r Y (Sk Y r) a b c d e f g h i j a l (ii 0)
def Ig(Y:Nat)(r:RT)(a b:V):M V:=ai r 175 [a,b] fun c=>cy 243 vM fun d=>aM 2 d c fun _=>ak 1 d fun e=>ak 0 d fun g=>bx g fun h=>ai r 176 [e,h] fun i=>ak 0 d fun e=>bx e fun f=>Cs Y r Y (Ie Y r) a b (aO {data:=#[]}) d i nS e f (ii 0)
theorem Sl(K:KT):∀fu,Cs Y r fu (fun a b c d e f g h i j=>K (.exit 0) (zp [0,1,4,5,6,7,22,23,24,
 25] [a,b,c,d,e,f,g,h,i,j]))=fun a b c d e f g h i=>aU (cQ 144 (pb 8 47) Y r) Si fu (zp Si [a,b,c,d,e,f,g,h,i]) K
 |0=>by funext a b c d e f g h i;kernel_rfl
 |fu+1=>by have k:=Sl K fu;funext a b c d e f g h i;rw[Cs];simp only[k];kernel_rfl
theorem Ih(K:KT):∀fu,Ct Y r fu (fun a=>K (.exit 2) (zp [6] [a]))=fun a b c d e f g h i j l m n=>aU
 (cQ 144 (pb 9 95) Y r) Sj fu (zp Sj [a,b,c,d,e,f,g,h,i,j,l,m,n]) K
 |0=>by funext a b c d e f g h i j l m n;kernel_rfl
 |fu+1=>by have k:=Ih K fu;funext a b c d e f g h i j l m n;rw[Ct];simp only[k];kernel_rfl
theorem Sm:Sk Y r=(fun a=>(tK 144 (pb 8 95) Y r) (.exit 2) (zp [6] [a])):=jK
theorem aeq:Ie Y r=(fun a b c d e f g h i j=>(tK 144 (pb 7 47) Y r) (.exit 0) (zp [0,1,4,5,6,7,22,23,
 24,25] [a,b,c,d,e,f,g,h,i,j])):=by
 unfold Ie;simp only[Sm,Ih];kernel_rfl
theorem aer:ax aa gt Y r 144 #[a,b]=inside (Ig Y r a b):=by unfold Ig;simp only[aeq,Sm,Sl,Ih];kernel_rfl
def Ii(Y:Nat)(r:RT)(a b:V):M V:=dm .u32 b fun c=>dK c (i3 16777216) fun d=>nC a d fun e=>ai r 179 [e] fun f=>ag [f]
theorem Sn:ax aa gt Y r 145 #[a,b]=inside (Ii Y r a b):=jK
def So(Y:Nat)(r:RT)(a:V):M V:=c9 a nP (ag [(ii 0)]) (an a fun c=>ay 1 c fun d=>(az (aQ d M.ret)).bind fun e=>(az (ai r 180 [e.1] M.ret)).bind fun f=>bx f.1 fun g=>an a fun h=>ay 0 h fun i=>(az (aQ i M.ret)).bind fun j=>an a fun l=>ay 4 l fun m=>(az (aQ m M.ret)).bind fun n=>bx n.1 fun o=>dK j.1 o fun p=>aq g p fun q=>dD ((!(cz f.2 j.2)&&(!(cz f.2 n.2)&&true))&&true) (ag [q]))
theorem aes:ax aa gt Y r 146 #[a]=inside (So Y r a):=jK
def tR(Y:Nat)(r:RT):Nat->(V->V->M V)->V->V->V->V->V->M V|0,_,_,_,_,_,_=> .fail|fu+1,k,a,b,c,d,e=>ai r 118 [a] fun f=>dC f fun g=>aA g (an a fun h=>ak 260 h fun j=>cL j d fun l=>aX l b (ai r 181 [a] fun f=>tR Y r fu k a b c d e) (k a d)) (k a d)
def Sp:List Nat:=[0,1,4,5,7]
def yB(Y:Nat)(r:RT):(V->V->M V):=fun a b=>an a fun c=>ak 260 c fun e=>cL e b fun f=>ag [f]
def Cu(Y:Nat)(r:RT)(a b:V):M V:=rk a nP fun c=>aA c (ag [(ii 0)]) (an a fun d=>ak 260 d fun f=>tR Y r Y (yB Y r) a b (ii 0) f c)
theorem Sq(K:KT):∀fu,tR Y r fu (fun a b=>K (.exit 0) (zp [0,5] [a,b]))=fun a b c d e=>aU
 (cQ 147 (pb 6 7) Y r) Sp fu (zp Sp [a,b,c,d,e]) K
 |0=>by funext a b c d e;kernel_rfl
 |fu+1=>by have f:=Sq K fu;funext a b c d e;rw[tR];simp only[f];kernel_rfl
theorem aet:yB Y r=(fun a b=>(tK 147 (pb 5 7) Y r) (.exit 0) (zp [0,5] [a,b])):=jK
theorem Sr:ax aa gt Y r 147 #[a,b]=inside (Cu Y r a b):=by unfold Cu;simp only[aet,Sq];kernel_rfl
def Ij(Y:Nat)(r:RT)(a:V):M V:=c9 a nP (ag [(aO {data:=#[]})]) (an a fun c=>ak 259 c fun e=>iI e fun f=>an a fun c=>ay 259 c fun d=>aK d nS fun _=>ag [f])
theorem Ss:ax aa gt Y r 148 #[a]=inside (Ij Y r a):=jK
def Ik(Y:Nat)(r:RT)(a b:V):M V:=rk a nP fun c=>(fun d=>aA c (ag [(aO {data:=#[]}),(ii 7)]) (ai r 182 [a] fun e=>aA e (eD b (i1 251) (ag [(aO {data:=#[]}),(ii 25)]) (an a fun g=>ay 0 g fun h=>ak 0 h fun j=>bO 5 1 j fun l=>iI l fun m=>dm .i64 b fun n=>ai r 183 [m,n] fun o=>bo z168 [] fun g=>an a fun h=>ay 0 h fun i=>aM 2 i g fun _=>ag [o,(ii 0)])) (an a fun f=>ay 0 f fun g=>ak 1 g fun i=>eD i (ii 0) (an a fun l=>ay 0 l fun m=>ak 0 m fun o=>bq o b (an a fun f=>ay 0 f fun g=>ak 1 g fun i=>aq i (ii 1) fun j=>an a fun l=>ay 0 l fun m=>ay 1 m fun n=>aK n j fun _=>d) (bo z168 [(0,1,b),(1,1,(ii 1))] fun f=>an a fun g=>ay 0 g fun h=>aM 2 h f fun _=>d)) (bo z168 [(0,1,b),(1,1,(ii 1))] fun f=>an a fun g=>ay 0 g fun h=>aM 2 h f fun _=>d)))) (bO 5 1 b fun d=>iI d fun e=>ag [e,(ii 0)])
theorem Su:ax aa gt Y r 149 #[a,b]=inside (Ik Y r a b):=jK
def tS(Y:Nat)(r:RT):Nat->(M V)->V->V->V->V->M V|0,_,_,_,_,_=> .fail|fu+1,k,a,b,c,d=>aX d c (cP b d fun f=>ai r 184 [a,f] fun g=>aq d (ii 1) fun f=>tS Y r fu k a b c f) (k)
def Sv:List Nat:=[0,1,6,7]
def Cv(Y:Nat)(r:RT):(M V):=ag []
def Cw(Y:Nat)(r:RT)(a b:V):M V:=bJ b fun c=>tS Y r Y (Cv Y r) a b c (ii 0)
theorem Sw(K:KT):∀fu,tS Y r fu (K (.exit 0) [])=fun a b c d=>aU (cQ 150 (pb 3 1) Y r) Sv fu (zp Sv [a,b,c,d]) K
 |0=>by funext a b c d;kernel_rfl
 |fu+1=>by have e:=Sw K fu;funext a b c d;rw[tS];simp only[e];kernel_rfl
theorem aeu:Cv Y r=((tK 150 (pb 2 1) Y r) (.exit 0) []):=jK
theorem Sx:ax aa gt Y r 150 #[a,b]=inside (Cw Y r a b):=by unfold Cw;simp only[aeu,Sw];kernel_rfl
def Il(Y:Nat)(r:RT)(a:V):M V:=an a fun b=>ak 3 b fun d=>ai r 118 [d] fun e=>dC e fun f=>aA f (ag [(ii 0)]) (an a fun b=>ak 4 b fun d=>ai r 185 [d] fun e=>cb e (ii 0) (ag [(ii 25)]) (an a fun b=>ay 5 b fun c=>(az (aQ c M.ret)).bind fun d=>(az (ai r 186 [d.1] M.ret)).bind fun e=>an a fun h=>ay 0 h fun i=>ay 2 i fun j=>(az (aQ j M.ret)).bind fun l=>fA e.1 l.1 fun m=>dD ((!(cz e.2 l.2)&&true)&&true) (aA m (ag [(ii 21)]) (ag [(ii 0)]))))
theorem Sz:ax aa gt Y r 151 #[a]=inside (Il Y r a):=jK
def Im(Y:Nat)(r:RT)(a b:V):M V:=bq a (aO {data:=#[]}) (ag [nP,(ii 1)]) (bJ a fun d=>eD d (ii 900000) (ag [nP,(ii 2)]) (aX b (ii 0) (ag [nP,(ii 23)]) (bJ a fun f=>gw b f (ag [nP,(ii 23)]) (bJ a fun d=>o4 3 [(ii 0)] d d fun f=>bo G6 [(0,1,a),(257,1,f),(258,1,b)] fun h=>dP 176 h fun i=>ag [i,(ii 0)]))))
theorem SA:ax aa gt Y r 152 #[a,b]=inside (Im Y r a b):=jK
def Io(Y:Nat)(r:RT):M V:=bo O2 [] fun a=>dP 255 a fun b=>ag [b]
theorem SB:ax aa gt Y r 153 #[]=inside (Io Y r):=jK
def Iq(Y:Nat)(r:RT):M V:=ai r 187 [] fun a=>bo O3 [(0,256,a),(256,1,(i3 4294967295))] fun b=>dP 260 b fun c=>ag [c]
theorem SC:ax aa gt Y r 154 #[]=inside (Iq Y r):=jK
def Ir(Y:Nat)(r:RT)(a b:V):M V:=ai r 188 [b,(ii 8)] fun c=>aV c 0 fun d=>aV c 1 fun e=>cb e (ii 0) (ag [e]) (an a fun f=>ak 2 f fun h=>aX h (ii 3) (an a fun f=>ak 2 f fun h=>cP (aO {data:=#[66,90,104]}) h fun j=>dm .u32 j fun l=>cb d l (ag [(ii 20)]) (an a fun f=>ak 2 f fun h=>aq h (ii 1) fun j=>an a fun l=>ay 2 l fun n=>aK n j fun _=>ag [(ii 0)])) (aX d (i3 49) (ag [(ii 20)]) (eD d (i3 57) (ag [(ii 20)]) (cL d (i3 48) fun f=>dm .i64 f fun h=>an a fun j=>ay 3 j fun l=>aK l h fun _=>an a fun f=>ay 2 f fun h=>aK h (ii 0) fun _=>an a fun f=>ay 8 f fun h=>aK h (i3 0) fun _=>an a fun f=>ay 1 f fun h=>aK h (ii 1) fun _=>ag [(ii 0)]))))
theorem SD:ax aa gt Y r 155 #[a,b]=inside (Ir Y r a b):=jK
def Cx(Y:Nat)(r:RT)(a b:V):M V:=ai r 98 [b] fun c=>aX c (ii 48) (ag [(ii 3)]) (ai r 188 [b,(ii 24)] fun c=>aV c 0 fun e=>aV c 1 fun f=>ai r 188 [b,(ii 24)] fun c=>aV c 0 fun f=>aV c 1 fun g=>dm .u64 e fun c=>mg c (i6 24) fun g=>dm .u64 f fun h=>xO g h fun i=>bq i (i6 54156738319193) (an a fun g=>ak 3 g fun j=>an a fun l=>ak 0 l fun n=>dK j n fun o=>ai r 189 [o] fun p=>aV p 0 fun q=>aV p 1 fun s=>an a fun g=>ay 4 g fun h=>aK h q fun _=>an a fun g=>ay 1 g fun h=>aK h (ii 2) fun _=>ag [s]) (bq i (i6 25779555029136) (an a fun h=>ay 1 h fun j=>aK j (ii 3) fun _=>ag [(ii 0)]) (ag [(ii 20)])))
section
variable (Y:Nat) (r:RT) (a b c d e f i:V) (k:Ex->Fr->M V)
theorem aev(x y:Code)(s:Fr)(G:Hint):ij aa r G Y (.seq x y) s k=ij aa r G Y x s (xU (fun a b=>ij aa r G Y y a b) k):=rfl
theorem aew(a:Fr->(Ex->Fr->M V)->M V)(s:Fr):xU a k .normal s=a s k:=rfl
theorem aex(a:Fr->(Ex->Fr->M V)->M V)(s:Fr):xU a k .ret s=k .ret s:=rfl
theorem aey(v:V):BA aa (GF aa 156) .ret [(4,v)]=ag [v]:=jK
theorem aez:eB (fH aa 156) []= .seq (eB (fH aa 156) [false]) (eB (fH aa 156) [true]):=jK
theorem aeA:eB (fH aa 156) [true]= .seq (eB (fH aa 156) [true,false]) (eB (fH aa 156) [true,true]):=jK
theorem aeB:eB (fH aa 156) [true,true]= .seq (eB (fH aa 156) [true,true,false]) (eB (fH aa 156) [true,true,true]):=jK
theorem aeC:eB (fH aa 156) [true,true,true]= .seq (eB (fH aa 156) [true,true,true,false]) (eB (fH aa 156) [true,true,true,true]):=jK
theorem aeD:eB (fH aa 156) [true,true,true,true]= .seq (eB (fH aa 156) [true,true,true,true,false]) (eB (fH aa 156) [true,true,true,true,true]):=jK
theorem aeE:eB (fH aa 156) [true,true,true,true,false]= .seq (eB (fH aa 156) [true,true,true,true,false,false]) (eB (fH aa 156) [true,true,true,true,false,true]):=jK
theorem aeF:ij aa r (gt 156) Y (eB (fH aa 156) [false]) [(0,a),(1,b)] k=k .normal [(0,a),(1,b),(4,ii 0)]:=jK
theorem aeG:ij aa r (gt 156) Y (eB (fH aa 156) [true,false]) [(0,a),(1,b),(4,ii 0)] k=ai r 98 [b] fun c=>eg c (ii 48) fun d=>aA d (k .ret [(4,ii 3)]) (k .normal [(0,a),(1,b),(4,ii 0),(13,d)]):=jK
theorem aeH:ij aa r (gt 156) Y (eB (fH aa 156) [true,true,false]) [(0,a),(1,b),(4,ii 0),(13,d)] k=ai r 188 [b,(ii 24)] fun c=>aV c 0 fun e=>aV c 1 fun f=>k .normal [(0,a),(1,b),(4,ii 0),(5,e),(13,d)]:=jK
theorem aeI:ij aa r (gt 156) Y (eB (fH aa 156) [true,true,true,false]) [(0,a),(1,b),(4,ii 0),(5,e),(13,d)] k=ai r 188 [b,(ii 24)] fun c=>aV c 0 fun f=>aV c 1 fun g=>k .normal [(0,a),(1,b),(4,ii 0),(5,e),(7,f),(13,d)]:=jK
theorem aeJ:ij aa r (gt 156) Y (eB (fH aa 156) [true,true,true,true,false,false]) [(0,a),(1,b),(4,ii 0),(5,e),(7,f),(13,d)] k=dm .u64 e fun c=>mg c (i6 24) fun g=>dm .u64 f fun h=>xO g h fun i=>k .normal [(0,a),(1,b),(4,ii 0),(5,e),(7,f),(13,d),(29,i)]:=jK
theorem aeK:ij aa r (gt 156) Y (eB (fH aa 156) [true,true,true,true,false,true]) [(0,a),(1,b),(4,ii 0),(5,e),(7,f),(13,d),(29,i)] k=cD i (i6 54156738319193) fun c=>aA c (an a fun g=>ay 3 g fun h=>aQ h fun j=>an a fun l=>ay 0 l fun m=>aQ m fun n=>dK j n fun o=>ai r 189 [o] fun p=>aV p 0 fun q=>aV p 1 fun s=>an a fun g=>ay 4 g fun h=>aK h q fun _=>an a fun g=>ay 1 g fun h=>aK h (ii 2) fun _=>k .ret [(4,s)]) (cD i (i6 25779555029136) fun g=>aA g (an a fun h=>ay 1 h fun j=>aK j (ii 3) fun _=>k .ret [(4,(ii 0))]) (k .normal [(0,a),(1,b),(4,ii 0),(5,e),(7,f),(13,d),(29,i),(30,c),(53,g)])):=jK
theorem aeL(c g:V):ij aa r (gt 156) Y (eB (fH aa 156) [true,true,true,true,true]) [(0,a),(1,b),(4,ii 0),(5,e),(7,f),(13,d),(29,i),(30,c),(53,g)] k=k .ret [(4,ii 20)]:=jK
theorem aeM:ax aa gt Y r 156 #[a,b]=inside (ij aa r (gt 156) Y (eB (fH aa 156) []) [(0,a),(1,b)] (BA aa (GF aa 156))):=jK
end
theorem SE:ax aa gt Y r 156 #[a,b]=inside (Cx Y r a b):=by rw[aeM];unfold Cx;simp-implicitDefEqProofs only[aez,aeA,aeB,aeC,aeD,aeE,aev,aeF,aeG,aeH,aeI,aeJ,aeK,aeL,aew,aex,aey]
def It(Y:Nat)(r:RT)(a b:V):M V:=an a fun c=>ak 4 c fun e=>ai r 190 [e,b] fun f=>cb f (ii 0) (ag [(ii 0),f]) (an a fun d=>ak 4 d fun g=>ai r 191 [g] fun h=>dC h fun i=>aA i (ag [(ii 0),f]) (an a fun c=>ak 4 c fun e=>ai r 192 [e] fun g=>an a fun h=>ay 5 h fun j=>aM 3 j g fun _=>an a fun c=>ay 4 c fun d=>aK d nP fun _=>an a fun c=>ak 8 c fun e=>an a fun g=>ay 5 g fun h=>ak 2 h fun l=>ai r 127 [e,l] fun m=>an a fun n=>ay 8 n fun o=>aK o m fun _=>an a fun c=>ay 1 c fun d=>aK d (ii 1) fun _=>ag [(ii 1),(ii 0)]))
theorem SF:ax aa gt Y r 157 #[a,b]=inside (It Y r a b):=jK
def Iu(Y:Nat)(r:RT)(a b:V):M V:=ai r 188 [b,(ii 32)] fun c=>aV c 0 fun d=>aV c 1 fun e=>cb e (ii 0) (ag [(ii 0),e]) (an a fun f=>ak 8 f fun h=>cb d h (ag [(ii 0),(ii 21)]) (ai r 193 [b] fun f=>an a fun f=>ay 1 f fun g=>aK g (ii 0) fun _=>an a fun f=>ay 9 f fun g=>aK g bT fun _=>ag [(ii 2),(ii 0)]))
theorem SG:ax aa gt Y r 158 #[a,b]=inside (Iu Y r a b):=jK
def vX(Y:Nat)(r:RT):Nat->((V->V->V->V->M V)×(V->M V))->V->V->V->V->V->V->V->V->V->M V|0,_,_,_,_,_,_,_,_,_,_=> .fail|fu+1,k,a,b,c,d,e,f,g,h,i=>bx f fun j=>aX j d (bN a (some g) none fun j=>ai r 196 [j] fun m=>gw m c (aq g c fun n=>bo nJ [(3,1,n),(4,1,(ii 25))] fun o=>aM 5 b o fun _=>k.2 b) (aq g m fun n=>bJ a fun o=>bq n o (bo nJ [(4,1,(ii 3))] fun n=>aM 5 b n fun _=>k.2 b) (cP e m fun n=>dm .i64 n fun o=>cL o (ii 48) fun q=>bO 3 1 q fun s=>bL 3 1 f s fun t=>ai r 167 [e,m] fun f=>aq g m fun e=>aq e (ii 1) fun n=>vX Y r fu k a b c d f t n h i))) (k.1 b c f g)
def SH:List Nat:=[0,2,3,4,5,6,7,11,30]
def vY(Y:Nat)(r:RT):(V->V->V->V->M V)×(V->M V):=(fun a b c d=>bo nJ [(0,1,c),(1,1,b),(2,1,d),(3,1,d)] fun e=>aM 5 a e fun _=>aT 5 a fun b=>ag [b],fun a=>aT 5 a fun b=>ag [b])
def Iv(Y:Nat)(r:RT)(a:V):M V:=cy 224 nJ fun b=>bJ a fun c=>eg c (ii 18) fun d=>aA d (bo nJ [(4,1,(ii 3))] fun c=>aM 5 b c fun _=>aT 5 b fun a=>ag [a]) (bN a none (some (ii 3)) fun c=>ai r 63 [c] fun e=>dm .i64 e fun f=>bN a (some (ii 3)) (some (ii 18)) fun c=>ai r 63 [c] fun e=>dm .i64 e fun g=>aX f (ii 2) (bo nJ [(3,1,(ii 18)),(4,1,(ii 25))] fun c=>aM 5 b c fun _=>aT 5 b fun a=>ag [a]) (eD f (ii 6) (bo nJ [(3,1,(ii 18)),(4,1,(ii 25))] fun c=>aM 5 b c fun _=>aT 5 b fun a=>ag [a]) (cD g (ii 0) fun h=>aA h (bo nJ [(3,1,(ii 18)),(4,1,(ii 25))] fun c=>aM 5 b c fun _=>aT 5 b fun a=>ag [a]) (vX Y r Y (vY Y r) a b f g (aO {data:=#[48,49,50,51,52,53]}) nS (ii 18) d h))))
theorem SI(K:KT):∀fu,vX Y r fu ((fun a b c d=>K (.exit 0) (zp [2,3,6,7] [a,b,c,d]),fun a=>K .ret
 (zp [2] [a])))=fun a b c d e f g h i=>aU (cQ 162 (pb 11 255) Y r) SH fu (zp SH [a,b,c,d,e,f,g,h,i]) K
 |0=>by funext a b c d e f g h i;kernel_rfl
 |fu+1=>by have j:=SI K fu;funext a b c d e f g h i;rw[vX];simp only[j];kernel_rfl
theorem aeN:vY Y r=((fun a b c d=>(tK 162 (pb 10 255) Y r) (.exit 0) (zp [2,3,6,7] [a,b,c,d]),fun a
 =>(tK 162 (pb 10 255) Y r) .ret (zp [2] [a]))):=by kernel_rfl
theorem aeO:ax aa gt Y r 162 #[a]=inside (Iv Y r a):=by unfold Iv;simp only[aeN,SI];kernel_rfl
def tT(Y:Nat)(r:RT):Nat->((V->V->M V)×(V->M V))->V->V->V->V->V->V->V->M V|0,_,_,_,_,_,_,_,_=> .fail|fu+1,k,a,b,c,d,e,f,g=>aX g f (ak 1 e fun j=>bN a (some j) none fun l=>ai r 197 [l,c] fun m=>cy 269 nK fun n=>aM 3 n m fun _=>ak 2 n fun j=>cb j (ii 0) (ak 0 e fun j=>ak 2 n fun o=>bo z228 [(0,1,j),(2,1,o)] fun p=>aM 3 d p fun _=>k.2 d) (ak 1 e fun j=>ak 1 n fun o=>aq j o fun p=>ay 1 e fun q=>aK q p fun _=>ak 0 n fun j=>ai r 198 [j] fun m=>dC m fun o=>aA o (ak 0 e fun j=>bo z228 [(0,1,j),(2,1,(ii 22))] fun m=>aM 3 d m fun _=>k.2 d) (ay 0 e fun i=>(az (aQ i M.ret)).bind fun j=>ay 0 n fun m=>(az (aQ m M.ret)).bind fun p=>(az (ai r 178 [p.1] M.ret)).bind fun q=>(az (bO 230 1 q.1 M.ret)).bind fun s=>(az (bL 230 1 j.1 s.1 M.ret)).bind fun t=>ay 0 e fun u=>(az (aK u t.1 M.ret)).bind fun v=>dD ((!(cz j.2 q.2)&&true)&&true) (aq g (ii 1) fun i=>tT Y r fu k a b c d e f i)))) (k.1 d e)
def SJ:List Nat:=[0,1,2,6,7,10,11]
def tU(Y:Nat)(r:RT):(V->V->M V)×(V->M V):=(fun a b=>aT 3 b fun c=>aM 3 a c fun _=>aT 3 a fun b=>ag [b],fun a=>aT 3 a fun b=>ag [b])
def Iw(Y:Nat)(r:RT)(a b c:V):M V:=cy 228 z228 fun d=>bo z228 [] fun e=>cy 228 z228 fun f=>aM 3 f e fun _=>tT Y r Y (tU Y r) a b c d f b (ii 0)
theorem SK(K:KT):∀fu,tT Y r fu ((fun a b=>K (.exit 0) (zp [6,7] [a,b]),fun a=>K .ret (zp
 [6] [a])))=fun a b c d e f g=>aU (cQ 163 (pb 6 11) Y r) SJ fu (zp SJ [a,b,c,d,e,f,g]) K
 |0=>by funext a b c d e f g;kernel_rfl
 |fu+1=>by have h:=SK K fu;funext a b c d e f g;rw[tT];simp only[h];kernel_rfl
theorem aeP:tU Y r=((fun a b=>(tK 163 (pb 5 11) Y r) (.exit 0) (zp [6,7] [a,b]),fun a=>(tK
 163 (pb 5 11) Y r) .ret (zp [6] [a]))):=by kernel_rfl
theorem aeQ:ax aa gt Y r 163 #[a,b,c]=inside (Iw Y r a b c):=by unfold Iw;simp only[aeP,SK];kernel_rfl
def tV(Y:Nat)(r:RT):Nat->((M V)×(V->M V))->V->V->V->V->V->V->M V|0,_,_,_,_,_,_,_=> .fail|fu+1,k,a,b,c,d,e,f=>aX f e (bM d f fun h=>aQ h fun i=>ai r 199 [b,i] fun h=>aA h (k.2 f) (aq f (ii 1) fun j=>tV Y r fu k a b c d e j)) (k.1)
def SL:List Nat:=[0,1,4,7,8,9]
def yC(Y:Nat)(r:RT):(M V)×(V->M V):=(ag [(ii (-1))],fun a=>ag [a])
def Iy(Y:Nat)(r:RT)(a b:V):M V:=bx a fun c=>tV Y r Y (yC Y r) a b (ii 0) a c (ii 0)
theorem SM(K:KT):∀fu,tV Y r fu ((K (.exit 0) [],fun a=>K .ret (zp [4] [a])))=fun a b c d e f=>aU
 (cQ 164 (pb 5 5) Y r) SL fu (zp SL [a,b,c,d,e,f]) K
 |0=>by funext a b c d e f;kernel_rfl
 |fu+1=>by have g:=SM K fu;funext a b c d e f;rw[tV];simp only[g];kernel_rfl
theorem aeR:yC Y r=(((tK 164 (pb 4 5) Y r) (.exit 0) [],fun a=>(tK 164 (pb 4 5) Y r) .ret (zp [4] [a]))):=jK
theorem aeS:ax aa gt Y r 164 #[a,b]=inside (Iy Y r a b):=by unfold Iy;simp only[aeR,SM];kernel_rfl
def SN(Y:Nat)(r:RT)(a b:V):M V:=dP 233 a fun c=>cy 235 j2 fun d=>ak 4 c fun f=>aA f (aT 5 c fun e=>bo j2 [(0,5,e),(7,1,(ii 7))] fun g=>aM 8 d g fun _=>aT 8 d fun a=>ag [a]) (aX b (ii 0) (aT 5 c fun e=>bo j2 [(0,5,e),(7,1,(ii 25))] fun g=>aM 8 d g fun _=>aT 8 d fun a=>ag [a]) (ak 0 c fun h=>aq h (ii 1) fun i=>eD b i (aT 5 c fun e=>bo j2 [(0,5,e),(7,1,(ii 25))] fun g=>aM 8 d g fun _=>aT 8 d fun a=>ag [a]) (aT 5 c fun e=>cy 233 z233 fun g=>aM 5 g e fun _=>aX b (ii 2) (ak 3 c fun i=>bL 3 1 nS i fun l=>bO 3 1 b fun h=>bL 3 1 l h fun i=>ay 3 g fun h=>aK h i fun _=>(az (aT 5 g M.ret)).bind fun h=>(az (ai r 200 [h.1] M.ret)).bind fun l=>ay 1 c fun m=>(az (aQ m M.ret)).bind fun n=>iH l.1 n.1 fun o=>dD ((!(cz l.2 n.2)&&true)&&true) (aA o (aT 5 c fun h=>bo j2 [(0,5,h),(7,1,(ii 2))] fun l=>aM 8 d l fun _=>aT 8 d fun a=>ag [a]) (aT 5 g fun h=>bo j2 [(0,5,h),(6,1,(ii (-1)))] fun l=>aM 8 d l fun _=>aT 8 d fun a=>ag [a]))) (ak 3 c fun i=>ai r 201 [i] fun l=>ak 2 c fun i=>aq i l fun m=>ay 2 g fun n=>aK n m fun _=>ay 3 g fun h=>aK h nS fun _=>ak 0 c fun i=>aq i (ii 1) fun m=>bq b m (ay 4 g fun h=>aK h bT fun _=>aT 5 g fun h=>bo j2 [(0,5,h),(5,1,l),(6,1,(ii (-1)))] fun i=>aM 8 d i fun _=>aT 8 d fun a=>ag [a]) (ak 2 g fun i=>aq i (ii 1) fun m=>ay 2 g fun o=>aK o m fun _=>ak 2 g fun i=>ak 1 c fun o=>eD i o (aT 5 c fun h=>bo j2 [(0,5,h),(7,1,(ii 2))] fun i=>aM 8 d i fun _=>aT 8 d fun a=>ag [a]) (aT 5 g fun h=>cL b (ii 1) fun i=>bo j2 [(0,5,h),(5,1,l),(6,1,i)] fun m=>aM 8 d m fun _=>aT 8 d fun a=>ag [a]))))))
theorem aeT:ax aa gt Y r 165 #[a,b]=inside (SN Y r a b):=jK
def Iz(Y:Nat)(r:RT)(a:V):M V:=bJ a fun b=>eD b (ii 0) (ai r 140 [a] fun d=>cD d a fun e=>ag [e]) (ag [bF])
theorem SO:ax aa gt Y r 166 #[a]=inside (Iz Y r a):=jK
def Cy(Y:Nat)(r:RT)(a b:V):M V:=aq b (ii 1) fun c=>bN a (some b) (some c) fun d=>bN a none (some b) fun e=>aq d e fun f=>aq b (ii 1) fun g=>bN a (some g) none fun h=>aq f h fun i=>ag [i]
theorem IA:ax aa gt Y r 167 #[a,b]=inside (Cy Y r a b):=jK
def SP(Y:Nat)(r:RT)(a:V):M V:=bJ a fun b=>gw b (ii 4) (cP a (ii 0) fun d=>cP a (ii 1) fun e=>bq d e (cP a (ii 1) fun g=>cP a (ii 2) fun h=>bq g h (cP a (ii 2) fun j=>cP a (ii 3) fun l=>cD j l fun m=>ag [m]) (ag [bF])) (ag [bF])) (ag [bF])
theorem aeU:ax aa gt Y r 168 #[a]=inside (SP Y r a):=jK
def rH(Y:Nat)(r:RT):Nat->(V->V->V->V->M V)->V->V->V->V->V->V->V->V->M V|0,_,_,_,_,_,_,_,_,_=> .fail|fu+1,k,a,b,c,d,e,f,g,h=>aX h g (cP a h fun j=>dm .i64 j fun l=>bq l d (bO 3 1 h fun j=>bL 3 1 c j fun l=>aq h (ii 1) fun c=>rH Y r fu k a b l d e f g c) (aq h (ii 1) fun j=>rH Y r fu k a b c d e f g j)) (k a b c e)
def SQ:List Nat:=[0,2,3,4,6,7,10,11]
def Cz(Y:Nat)(r:RT)(k:(V->M V))(f:V->V->V->V->M V):(V->V->V->V->M V):=fun a b c d=>aq d (ii 1) fun e=>f a b c e
def rI(Y:Nat)(r:RT):Nat->(V->M V)->V->V->V->V->M V|0,_,_,_,_,_=> .fail|fu+1,k,a,b,c,d=>eg d (ii 256) fun e=>aA e (bJ a fun f=>rH Y r Y (Cz Y r k (rI Y r fu k)) a b c d d e f (ii 0)) (k c)
def yD:List Nat:=[0,2,3,6]
abbrev SS(Y:Nat)(r:RT)(a:Nat)(k:(V->M V)):(V->V->V->V->M V):=Cz Y r k (rI Y r a k)
def yE(Y:Nat)(r:RT):(V->M V):=fun a=>ag [a]
def IB(Y:Nat)(r:RT)(a:V):M V:=rI Y r Y (yE Y r) a nS nS (ii 0)
theorem SU(K:KT):∀fu,rH Y r fu (fun a b c d=>K (.exit 2) (zp [0,2,3,6] [a,b,c,d]))=fun a b c d
 e f g h=>aU (cQ 169 (pb 14 3275) Y r) SQ fu (zp SQ [a,b,c,d,e,f,g,h]) K
 |0=>by funext a b c d e f g h;kernel_rfl
 |fu+1=>by have i:=SU K fu;funext a b c d e f g h;rw[rH];simp only[i];kernel_rfl
theorem aeV(K:KT)(e:Nat):Cz Y r (fun a=>K (.exit 0) (zp [3] [a])) (fun a b c d=>aU (cQ 169 (pb 6
 11) Y r) yD e (zp yD [a,b,c,d]) K)=(fun a b c d=>(iK 169 (pb 6 11) (pb 7 51) yD e K Y r) (.exit 2) (zp
 [0,2,3,6] [a,b,c,d])):=by kernel_rfl
theorem SV(K:KT):∀fu,rI Y r fu (fun a=>K (.exit 0) (zp [3] [a]))=fun a b c d=>aU (cQ 169 (pb 6
 11) Y r) yD fu (zp yD [a,b,c,d]) K
 |0=>by funext a b c d;kernel_rfl
 |fu+1=>by have e:=SV K fu;funext a b c d;rw[rI];simp only[e,aeV,SU];kernel_rfl
theorem aeW:yE Y r=(fun a=>(tK 169 (pb 5 11) Y r) (.exit 0) (zp [3] [a])):=jK
theorem aeX:ax aa gt Y r 169 #[a]=inside (IB Y r a):=by unfold IB;simp only[aeW,SV];kernel_rfl
def SW(Y:Nat)(r:RT)(a b:V):M V:=bN a (some b) none fun c=>bN a none (some b) fun d=>aq c d fun e=>ag [e]
theorem aeY:ax aa gt Y r 170 #[a,b]=inside (SW Y r a b):=jK
def SX(Y:Nat)(r:RT)(a b c:V):M V:=ai r 170 [a,b] fun d=>ai r 170 [a,c] fun e=>aX d e (ag [bT]) (bq d e (eg b c fun h=>ag [h]) (ag [bF]))
theorem aeZ:ax aa gt Y r 171 #[a,b,c]=inside (SX Y r a b c):=jK
def tW(Y:Nat)(r:RT):Nat->((M V)×(V->M V))->V->V->V->V->M V|0,_,_,_,_,_=> .fail|fu+1,k,a,b,c,d=>bJ a fun e=>aX d e (cP a d fun e=>dm .i64 e fun g=>bq g b (k.2 bT) (aq d (ii 1) fun e=>tW Y r fu k a b c e)) (k.1)
def SY:List Nat:=[0,1,4,5]
def yF(Y:Nat)(r:RT):(M V)×(V->M V):=(ag [bF],fun a=>ag [a])
def CA(Y:Nat)(r:RT)(a b:V):M V:=tW Y r Y (yF Y r) a b bF (ii 0)
theorem SZ(K:KT):∀fu,tW Y r fu ((K (.exit 0) [],fun a=>K .ret (zp [4] [a])))=fun a b c d=>aU
 (cQ 172 (pb 5 5) Y r) SY fu (zp SY [a,b,c,d]) K
 |0=>by funext a b c d;kernel_rfl
 |fu+1=>by have e:=SZ K fu;funext a b c d;rw[tW];simp only[e];kernel_rfl
theorem ae0:yF Y r=(((tK 172 (pb 4 5) Y r) (.exit 0) [],fun a=>(tK 172 (pb 4 5) Y r) .ret (zp [4] [a]))):=jK
theorem S0:ax aa gt Y r 172 #[a,b]=inside (CA Y r a b):=by unfold CA;simp only[ae0,SZ];kernel_rfl
def CB(Y:Nat)(r:RT):Nat->((M V)×(V->M V))->V->V->V->V->M V|0,_,_,_,_,_=> .fail|fu+1,k,a,b,c,d=>bJ a fun e=>aX d e (cP a d fun e=>bq e b (k.2 d) (aq d (ii 1) fun e=>CB Y r fu k a b c e)) (k.1)
def S1:List Nat:=[0,1,4,5]
def S2(Y:Nat)(r:RT):(M V)×(V->M V):=(ag [(ii (-1))],fun a=>ag [a])
def IC(Y:Nat)(r:RT)(a b:V):M V:=CB Y r Y (S2 Y r) a b (ii 0) (ii 0)
theorem S3(K:KT):∀fu,CB Y r fu ((K (.exit 0) [],fun a=>K .ret (zp [4] [a])))=fun a b c d=>aU
 (cQ 173 (pb 5 5) Y r) S1 fu (zp S1 [a,b,c,d]) K
 |0=>by funext a b c d;kernel_rfl
 |fu+1=>by have e:=S3 K fu;funext a b c d;rw[CB];simp only[e];kernel_rfl
theorem ae1:S2 Y r=(((tK 173 (pb 4 5) Y r) (.exit 0) [],fun a=>(tK 173 (pb 4 5) Y r) .ret (zp [4] [a]))):=jK
theorem ae2:ax aa gt Y r 173 #[a,b]=inside (IC Y r a b):=by unfold IC;simp only[ae1,S3];kernel_rfl
def S4(Y:Nat)(r:RT)(a:V):M V:=bq a (ii 0) (ag [nS]) (nD a (ii 2) fun c=>bq c (ii 1) (bO 3 1 (ii 0) fun c=>bL 3 1 nS c fun e=>cL a (ii 1) fun c=>jm c (ii 2) fun f=>ai r 174 [f] fun g=>bL 3 1 e g fun h=>ag [h]) (bO 3 1 (ii 1) fun c=>bL 3 1 nS c fun e=>cL a (ii 2) fun c=>jm c (ii 2) fun f=>ai r 174 [f] fun g=>bL 3 1 e g fun h=>ag [h]))
theorem ae3:ax aa gt Y r 174 #[a]=inside (S4 Y r a):=jK
def CC(Y:Nat)(r:RT):Nat->(V->V->V->V->V->V->V->V->V->V->V->V->M V)->V->V->V->V->V->V->V->V->V->V->V->M V|0,_,_,_,_,_,_,_,_,_,_,_,_=> .fail|fu+1,k,a,b,c,d,e,f,g,h,i,j,l=>eg l j fun m=>aA m (bM i l fun n=>aQ n fun o=>ak 0 d fun p=>ai r 205 [o,p] fun q=>bO 3 1 q fun s=>bL 3 1 f s fun t=>aq l (ii 1) fun f=>CC Y r fu k a b c d e t g h i j f) (k a b c d e f g h i j l m)
def S5:List Nat:=[0,1,4,5,6,7,24,25,26,27,28]
def yG(Y:Nat)(r:RT):Nat->(V->V->V->V->V->V->V->V->V->V->V->V->V->V->V->V->M V)->V->V->V->V->V->V->V->V->V->V->V->V->V->V->V->V->V->V->V->V->V->M V|0,_,_,_,_,_,_,_,_,_,_,_,_,_,_,_,_,_,_,_,_,_,_=> .fail|fu+1,k,a,b,c,d,e,f,g,h,i,j,l,m,n,o,p,q,s,t,u,v,w=>aX w v (bM u w fun y=>aQ y fun z=>bM f w fun y=>aQ y fun A=>bq A h (bL 3 1 i z fun y=>aq w (ii 1) fun i=>yG Y r fu k a b c d e f g h y j l m n o p q s t u v i) (aq w (ii 1) fun y=>yG Y r fu k a b c d e f g h i j l m n o p q s t u v y)) (k a b c d e f g i j l m n o p q s)
def S6:List Nat:=[0,1,4,5,6,7,10,11,12,24,25,26,27,28,29,42,43,44,46,47,48]
def S7(Y:Nat)(r:RT)(k:(V->V->V->V->V->V->V->V->M V))(x:V->V->V->V->V->V->V->V->V->V->V->V->V->V->V->M V):(V->V->V->V->V->V->V->V->V->V->V->V->V->V->V->V->M V):=fun a b c d e f g h i j l m n o p q=>ai r 203 [h,b] fun s=>ai r 206 [s] fun t=>bO 115 1 t fun u=>bL 115 1 g u fun v=>aq q (ii 1) fun g=>x a b c d e f v i j l m n o p g
def CD(Y:Nat)(r:RT):Nat->(V->V->V->V->V->V->V->V->M V)->V->V->V->V->V->V->V->V->V->V->V->V->V->V->V->M V|0,_,_,_,_,_,_,_,_,_,_,_,_,_,_,_,_=> .fail|fu+1,k,a,b,c,d,e,f,g,h,i,j,l,m,n,o,p=>eg p o fun q=>aA q (bx e fun s=>yG Y r Y (S7 Y r k (CD Y r fu k)) a b c d e f g p nS h i j l m n o p q e s (ii 0)) (k a b c d e f g h)
def yH:List Nat:=[0,1,4,5,6,7,10,24,25,26,27,28,29,42,43]
def S8(Y:Nat)(r:RT)(k:(V->V->M V))(j:V->V->V->V->V->V->M V):(V->V->V->V->V->V->V->V->M V):=fun a b c d e f g h=>bo vM [(0,1,g),(1,1,f)] fun i=>aM 2 d i fun _=>aq h (ii 1) fun i=>j a b c d e i
def ID(Y:Nat)(r:RT)(k:(V->V->M V))(n:V->V->V->V->V->V->M V):(V->V->V->V->V->V->V->V->V->V->V->V->M V):=fun a b c d e f g h i j l m=>ak 0 d fun o=>bx o fun p=>CD Y r Y (S8 Y r k n) a b c d e f nS g h i j l m p (ii 0)
def CE(Y:Nat)(r:RT):Nat->(V->V->M V)->V->V->V->V->V->V->M V|0,_,_,_,_,_,_,_=> .fail|fu+1,k,a,b,c,d,e,f=>eg f (ii 4) fun g=>aA g (bx e fun h=>CC Y r Y (ID Y r k (CE Y r fu k)) a b c d e nS f g e h (ii 0)) (k c d)
def rJ:List Nat:=[0,1,4,5,6,24]
def S9(Y:Nat)(r:RT):(V->V->M V):=fun a b=>aT 2 b fun c=>aM 2 a c fun _=>aT 2 a fun b=>ag [b]
def IE(Y:Nat)(r:RT)(a b:V):M V:=cy 243 vM fun c=>ai r 203 [a,b] fun d=>bx a fun e=>ai r 202 [d,e] fun f=>bo vM [(0,1,f)] fun g=>cy 243 vM fun h=>aM 2 h g fun _=>ai r 204 [a] fun d=>CE Y r Y (S9 Y r) a b c h d (ii 0)
theorem S'(K:KT):∀fu,CC Y r fu (fun a b c d e f g h i j l m=>K (.exit 2) (zp [0,1,4,5,6,7,24,25,26,
 27,28,29] [a,b,c,d,e,f,g,h,i,j,l,m]))=fun a b c d e f g h i j l=>aU (cQ 175 (pb 16 10647) Y r) S5 fu (zp S5 [a,b,c,d,e,f,g,h,i,j,l]) K
 |0=>by funext a b c d e f g h i j l;kernel_rfl
 |fu+1=>by have k:=S' K fu;funext a b c d e f g h i j l;rw[CC];simp only[k];kernel_rfl
theorem Ta(K:KT):∀fu,yG Y r fu (fun a b c d e f g h i j l m n o p q=>K (.exit 6) (zp [0,1,4,5,6,7,10,
 12,24,25,26,27,28,29,42,43] [a,b,c,d,e,f,g,h,i,j,l,m,n,o,p,q]))=fun a b c d e f g h i j l m n o p q s t u v w=>aU (cQ 175 (pb 28
 46971287) Y r) S6 fu (zp S6 [a,b,c,d,e,f,g,h,i,j,l,m,n,o,p,q,s,t,u,v,w]) K
 |0=>by funext a b c d e f g h i j l m n o p q s t u v w;kernel_rfl
 |fu+1=>by have k:=Ta K fu;funext a b c d e f g h i j l m n o p q s t u v w;rw[yG];simp only[k];kernel_rfl
theorem ae4(K:KT)(k:Nat):S7 Y r (fun a b c d e f g h=>K (.exit 4) (zp [0,1,4,5,6,7,10,24] [a,b,c,
 d,e,f,g,h])) (fun a b c d e f g h i j l m n o p=>aU (cQ 175 (pb 18 47511) Y r) yH k (zp yH [a,b,c,d,e,f,g,h,i,j,l,m,
 n,o,p]) K)=(fun a b c d e f g h i j l m n o p q=>(iK 175 (pb 18 47511) (pb 9 179) yH k K Y r) (.exit 6) (zp [0,1,4,5,6,7,10,12,24,25,
 26,27,28,29,42,43] [a,b,c,d,e,f,g,h,i,j,l,m,n,o,p,q])):=by kernel_rfl
theorem IF(K:KT):∀fu,CD Y r fu (fun a b c d e f g h=>K (.exit 4) (zp [0,1,4,5,6,7,10,24] [a,b,c,d,
 e,f,g,h]))=fun a b c d e f g h i j l m n o p=>aU (cQ 175 (pb 18 47511) Y r) yH fu (zp yH [a,b,c,d,e,f,g,h,i,j,l,m,n,o,p]) K
 |0=>by funext a b c d e f g h i j l m n o p;kernel_rfl
 |fu+1=>by have k:=IF K fu;funext a b c d e f g h i j l m n o p;rw[CD];simp only[k,ae4,Ta];kernel_rfl
theorem Tb(K:KT)(i:Nat):S8 Y r (fun a b=>K (.exit 0) (zp [4,5] [a,b])) (fun a b c d e f=>aU (cQ 175
 (pb 7 23) Y r) rJ i (zp rJ [a,b,c,d,e,f]) K)=(fun a b c d e f g h=>(iK 175 (pb 7 23) (pb 10 371) rJ i K Y r)
 (.exit 4) (zp [0,1,4,5,6,7,10,24] [a,b,c,d,e,f,g,h])):=by kernel_rfl
theorem ae5(K:KT)(k:Nat):ID Y r (fun a b=>K (.exit 0) (zp [4,5] [a,b])) (fun a b c d e f=>aU (cQ 175
 (pb 7 23) Y r) rJ k (zp rJ [a,b,c,d,e,f]) K)=(fun a b c d e f g h i j l m=>(iK 175 (pb 7 23) (pb 8 83) rJ k K Y
 r) (.exit 2) (zp [0,1,4,5,6,7,24,25,26,27,28,29] [a,b,c,d,e,f,g,h,i,j,l,m])):=by
 unfold ID;simp only[Tb,IF];kernel_rfl
theorem Tc(K:KT):∀fu,CE Y r fu (fun a b=>K (.exit 0) (zp [4,5] [a,b]))=fun a b c d e f=>aU (cQ 175
 (pb 7 23) Y r) rJ fu (zp rJ [a,b,c,d,e,f]) K
 |0=>by funext a b c d e f;kernel_rfl
 |fu+1=>by have g:=Tc K fu;funext a b c d e f;rw[CE];simp only[g,ae5,Tb,S',IF];kernel_rfl
theorem ae6:S9 Y r=(fun a b=>(tK 175 (pb 6 23) Y r) (.exit 0) (zp [4,5] [a,b])):=jK
theorem ae7:ax aa gt Y r 175 #[a,b]=inside (IE Y r a b):=by unfold IE;simp only[ae6,Tc];kernel_rfl
def CF(Y:Nat)(r:RT):Nat->(V->M V)->V->V->V->V->V->V->V->V->M V|0,_,_,_,_,_,_,_,_,_=> .fail|fu+1,k,a,b,c,d,e,f,g,h=>aX h g (bM f h fun j=>aQ j fun l=>cP (aO {data:=#[48,49,50,51,52,53]}) l fun j=>ai r 173 [e,j] fun m=>ai r 167 [e,m] fun j=>bN (aO {data:=#[49,49,49,49,49,49]}) none (some m) fun e=>aq d e fun n=>aq n (aO {data:=#[48]}) fun o=>aq h (ii 1) fun d=>CF Y r fu k a b c o j f g d) (k d)
def Td:List Nat:=[0,1,4,5,6,18,19,20]
def Te(Y:Nat)(r:RT):(V->M V):=fun a=>ag [a]
def IG(Y:Nat)(r:RT)(a b:V):M V:=dm .u32 b fun c=>ai r 103 [c,(ii 3)] fun d=>bx a fun e=>dm .u32 e fun f=>ai r 103 [f,(ii 15)] fun g=>aq d g fun h=>bx a fun c=>CF Y r Y (Te Y r) a b (aO {data:=#[]}) h (aO {data:=#[48,49,50,51,52,53]}) a c (ii 0)
theorem Tf(K:KT):∀fu,CF Y r fu (fun a=>K (.exit 0) (zp [5] [a]))=fun a b c d e f g h=>aU (cQ 176
 (pb 7 23) Y r) Td fu (zp Td [a,b,c,d,e,f,g,h]) K
 |0=>by funext a b c d e f g h;kernel_rfl
 |fu+1=>by have i:=Tf K fu;funext a b c d e f g h;rw[CF];simp only[i];kernel_rfl
theorem ae8:Te Y r=(fun a=>(tK 176 (pb 6 23) Y r) (.exit 0) (zp [5] [a])):=jK
theorem ae9:ax aa gt Y r 176 #[a,b]=inside (IG Y r a b):=by unfold IG;simp only[ae8,Tf];kernel_rfl
def yI(Y:Nat)(r:RT):Nat->(V->V->V->V->V->V->V->M V)->V->V->V->V->V->V->V->V->V->V->M V|0,_,_,_,_,_,_,_,_,_,_,_=> .fail|fu+1,k,a,b,c,d,e,f,g,h,i,j=>aX j (ii 40) (cL e d fun m=>eg j m fun n=>(fun m=>aA n (aq c (aO {data:=#[49,48]}) fun o=>m o) (m c)) fun c=>cL d e fun m=>aX j m (aq c (aO {data:=#[49,49]}) fun m=>aq j (ii 1) fun c=>yI Y r fu k a b m d e f g h i c) (aq j (ii 1) fun m=>yI Y r fu k a b c d e f g h i m)) (k a b c e f g h)
def Tg:List Nat:=[0,2,3,4,6,16,17,18,19,22]
def Th(Y:Nat)(r:RT)(k:(V->M V))(i:V->V->V->V->V->V->V->M V):(V->V->V->V->V->V->V->M V):=fun a b c d e f g=>aq c (aO {data:=#[48]}) fun h=>aq g (ii 1) fun c=>i a b h d e f c
def CG(Y:Nat)(r:RT):Nat->(V->M V)->V->V->V->V->V->V->V->M V|0,_,_,_,_,_,_,_,_=> .fail|fu+1,k,a,b,c,d,e,f,g=>eg g f fun h=>aA h (bM e g fun i=>aQ i fun j=>yI Y r Y (Th Y r k (CG Y r fu k)) a b c d j e f g h (ii 0)) (k c)
def yJ:List Nat:=[0,2,3,4,16,17,18]
def Ti(Y:Nat)(r:RT):(V->M V):=fun a=>ag [a]
def IH(Y:Nat)(r:RT)(a:V):M V:=bM a (ii 0) fun b=>aQ b fun c=>dm .u32 c fun d=>ai r 103 [d,(ii 5)] fun e=>bM a (ii 0) fun b=>aQ b fun c=>bx a fun b=>CG Y r Y (Ti Y r) a (aO {data:=#[]}) e c a b (ii 0)
theorem Tj(K:KT):∀fu,yI Y r fu (fun a b c d e f g=>K (.exit 2) (zp [0,2,3,6,16,17,18] [a,b,c,d,
 e,f,g]))=fun a b c d e f g h i j=>aU (cQ 177 (pb 16 10647) Y r) Tg fu (zp Tg [a,b,c,d,e,f,g,h,i,j]) K
 |0=>by funext a b c d e f g h i j;kernel_rfl
 |fu+1=>by have k:=Tj K fu;funext a b c d e f g h i j;rw[yI];simp only[k];kernel_rfl
theorem ae'(K:KT)(h:Nat):Th Y r (fun a=>K (.exit 0) (zp [3] [a])) (fun a b c d e f g=>aU (cQ 177
 (pb 7 23) Y r) yJ h (zp yJ [a,b,c,d,e,f,g]) K)=(fun a b c d e f g=>(iK 177 (pb 7 23) (pb 8 83) yJ h K Y
 r) (.exit 2) (zp [0,2,3,6,16,17,18] [a,b,c,d,e,f,g])):=by kernel_rfl
theorem Tl(K:KT):∀fu,CG Y r fu (fun a=>K (.exit 0) (zp [3] [a]))=fun a b c d e f g=>aU (cQ 177 (pb
 7 23) Y r) yJ fu (zp yJ [a,b,c,d,e,f,g]) K
 |0=>by funext a b c d e f g;kernel_rfl
 |fu+1=>by have h:=Tl K fu;funext a b c d e f g;rw[CG];simp only[h,ae',Tj];kernel_rfl
theorem ae_:Ti Y r=(fun a=>(tK 177 (pb 6 23) Y r) (.exit 0) (zp [3] [a])):=jK
theorem afa:ax aa gt Y r 177 #[a]=inside (IH Y r a):=by unfold IH;simp only[ae_,Tl];kernel_rfl
def tX(Y:Nat)(r:RT):Nat->(V->V->V->V->V->V->V->V->V->V->M V)->V->V->V->V->V->V->V->V->V->V->V->V->V->V->V->V->M V|0,_,_,_,_,_,_,_,_,_,_,_,_,_,_,_,_,_=> .fail|fu+1,k,a,b,c,d,e,f,g,h,i,j,l,m,n,o,p,q=>aX q p (aq d (aO {data:=#[48]}) fun t=>aq q (ii 1) fun d=>tX Y r fu k a b c t e f g h i j l m n o p d) (k a b c d e f h i j l)
def Tm:List Nat:=[0,2,3,4,5,6,7,12,15,16,17,18,24,26,27,28]
def CH(Y:Nat)(r:RT)(k:(V->V->V->V->V->M V))(m:V->V->V->V->V->V->V->V->V->M V):(V->V->V->V->V->V->V->V->V->V->M V):=fun a b c d e f g h i j=>bM c f fun l=>aK l d fun _=>aq j (ii 1) fun l=>m a b c d e g h i l
def pf(Y:Nat)(r:RT):Nat->(V->V->V->V->V->M V)->V->V->V->V->V->V->V->V->V->M V|0,_,_,_,_,_,_,_,_,_,_=> .fail|fu+1,k,a,b,c,d,e,f,g,h,i=>eg i h fun j=>aA j (bM g i fun l=>aQ l fun m=>fA m e fun l=>aA l (aq i (ii 1) fun n=>pf Y r fu k a b c d e f g h n) (cD d (aO {data:=#[]}) fun n=>aA n (tX Y r Y (CH Y r k (pf Y r fu k)) a b c d e i m f g h i j l n e (ii 0)) (ai r 207 [d,e] fun o=>bM c i fun d=>aK d o fun _=>aq i (ii 1) fun d=>pf Y r fu k a b c o e f g h d))) (k a b c d e)
def yK:List Nat:=[0,2,3,4,5,12,15,16,17]
abbrev Tn(Y:Nat)(r:RT)(a:Nat)(k:(V->V->V->V->V->M V)):(V->V->V->V->V->V->V->V->V->V->M V):=CH Y r k (pf Y r a k)
def CI(Y:Nat)(r:RT)(k:(V->M V))(g:V->V->V->V->V->M V):(V->V->V->V->V->M V):=fun a b c d e=>aq e (ii 1) fun f=>g a b c d f
def rK(Y:Nat)(r:RT):Nat->(V->M V)->V->V->V->V->V->M V|0,_,_,_,_,_,_=> .fail|fu+1,k,a,b,c,d,e=>mf e (ii 20) fun f=>aA f (bx a fun g=>pf Y r Y (CI Y r k (rK Y r fu k)) a b c d e f a g (ii 0)) (k c)
def yL:List Nat:=[0,2,3,4,5]
abbrev IJ(Y:Nat)(r:RT)(a:Nat)(k:(V->M V)):(V->V->V->V->V->M V):=CI Y r k (rK Y r a k)
def vZ(Y:Nat)(r:RT):(V->M V):=fun a=>ag [a]
def CJ(Y:Nat)(r:RT)(a:V):M V:=bx a fun b=>o4 9 [(aO {data:=#[]})] b b fun c=>rK Y r Y (vZ Y r) a nS c (aO {data:=#[]}) (ii 1)
theorem To(K:KT):∀fu,tX Y r fu (fun a b c d e f g h i j=>K (.exit 4) (zp [0,2,3,4,5,6,12,15,16,
 17] [a,b,c,d,e,f,g,h,i,j]))=fun a b c d e f g h i j l m n o p q=>aU (cQ 178 (pb 25 5661847) Y r) Tm fu (zp Tm [a,b,
 c,d,e,f,g,h,i,j,l,m,n,o,p,q]) K
 |0=>by funext a b c d e f g h i j l m n o p q;kernel_rfl
 |fu+1=>by have k:=To K fu;funext a b c d e f g h i j l m n o p q;rw[tX];simp only[k];kernel_rfl
theorem afb(K:KT)(k:Nat):CH Y r (fun a b c d e=>K (.exit 2) (zp [0,2,3,4,5] [a,b,c,d,e])) (fun
 a b c d e f g h i=>aU (cQ 178 (pb 13 1175) Y r) yK k (zp yK [a,b,c,d,e,f,g,h,i]) K)=(fun a b c d e f g h i j=>(iK
 178 (pb 13 1175) (pb 11 691) yK k K Y r) (.exit 4) (zp [0,2,3,4,5,6,12,15,16,17] [a,b,c,d,e,f,g,h,i,j])):=by kernel_rfl
theorem Tp(K:KT):∀fu,pf Y r fu (fun a b c d e=>K (.exit 2) (zp [0,2,3,4,5] [a,b,c,d,e]))=fun
 a b c d e f g h i=>aU (cQ 178 (pb 13 1175) Y r) yK fu (zp yK [a,b,c,d,e,f,g,h,i]) K
 |0=>by funext a b c d e f g h i;kernel_rfl
 |fu+1=>by have j:=Tp K fu;funext a b c d e f g h i;rw[pf];simp only[j,afb,To];kernel_rfl
theorem afc(K:KT)(f:Nat):CI Y r (fun a=>K (.exit 0) (zp [3] [a])) (fun a b c d e=>aU (cQ 178 (pb
 7 23) Y r) yL f (zp yL [a,b,c,d,e]) K)=(fun a b c d e=>(iK 178 (pb 7 23) (pb 5 9) yL f K Y r) (.exit 2)
 (zp [0,2,3,4,5] [a,b,c,d,e])):=by kernel_rfl
theorem Tq(K:KT):∀fu,rK Y r fu (fun a=>K (.exit 0) (zp [3] [a]))=fun a b c d e=>aU (cQ 178 (pb 7
 23) Y r) yL fu (zp yL [a,b,c,d,e]) K
 |0=>by funext a b c d e;kernel_rfl
 |fu+1=>by have f:=Tq K fu;funext a b c d e;rw[rK];simp only[f,afc,Tp];kernel_rfl
theorem afd:vZ Y r=(fun a=>(tK 178 (pb 6 23) Y r) (.exit 0) (zp [3] [a])):=jK
theorem Ts:ax aa gt Y r 178 #[a]=inside (CJ Y r a):=by unfold CJ;simp only[afd,Tq];kernel_rfl
def rL(Y:Nat)(r:RT):Nat->(V->M V)->V->V->V->M V|0,_,_,_,_=> .fail|fu+1,k,a,b,c=>aX c (ii 8) (gw a (i3 2147483648) (cL a (i3 2147483648) fun f=>dK f (i3 2) fun g=>nC g (i3 79764919) fun h=>aq c (ii 1) fun a=>rL Y r fu k h b a) (dK a (i3 2) fun f=>aq c (ii 1) fun a=>rL Y r fu k f b a)) (k a)
def Tt:List Nat:=[0,2,3]
def CK(Y:Nat)(r:RT):(V->M V):=fun a=>ag [a]
def CL(Y:Nat)(r:RT)(a:V):M V:=rL Y r Y (CK Y r) a (i3 0) (ii 0)
theorem Tu(K:KT):∀fu,rL Y r fu (fun a=>K (.exit 0) (zp [0] [a]))=fun a b c=>aU (cQ 179 (pb 5 5) Y
 r) Tt fu (zp Tt [a,b,c]) K
 |0=>by funext a b c;kernel_rfl
 |fu+1=>by have d:=Tu K fu;funext a b c;rw[rL];simp only[d];kernel_rfl
theorem afe:CK Y r=(fun a=>(tK 179 (pb 4 5) Y r) (.exit 0) (zp [0] [a])):=jK
theorem Tv:ax aa gt Y r 179 #[a]=inside (CL Y r a):=by unfold CL;simp only[afe,Tu];kernel_rfl
def CM(Y:Nat)(r:RT)(a:V):M V:=c9 a nP (ag [nS]) (an a fun c=>ak 8 c fun e=>ai r 208 [e] fun f=>ag [f])
theorem IK:ax aa gt Y r 180 #[a]=inside (CM Y r a):=jK
def IL(Y:Nat)(r:RT)(a:V):M V:=an a fun b=>ak 0 b fun d=>bJ d fun e=>an a fun b=>ak 260 b fun d=>nD d e fun f=>an a fun b=>ak 260 b fun d=>jm d e fun g=>cD g (ii 0) fun b=>(fun c=>aA b (an a fun d=>ak 0 d fun i=>cP i f fun j=>an a fun l=>ay 1 l fun m=>gG 256 m j fun n=>aQ n fun o=>aq o (ii 1) fun p=>an a fun q=>ay 1 q fun s=>gG 256 s j fun t=>aK t p fun _=>cL e (ii 1) fun d=>bq f d (ai r 209 [a] fun d=>c) (c)) (bq g (ii 1) (an a fun h=>ak 0 h fun j=>cP j f fun l=>an a fun h=>ak 257 h fun j=>an a fun m=>ay 1 m fun n=>gG 256 n l fun o=>aQ o fun p=>bM j p fun q=>aK q f fun _=>an a fun h=>ay 1 h fun i=>gG 256 i l fun j=>aQ j fun m=>aq m (ii 1) fun n=>an a fun o=>ay 1 o fun p=>gG 256 p l fun q=>aK q n fun _=>c) (an a fun h=>ak 257 h fun j=>an a fun l=>ak 258 l fun n=>bM j n fun o=>aQ o fun p=>an a fun q=>ay 258 q fun s=>aK s p fun _=>an a fun h=>ak 259 h fun j=>an a fun l=>ak 0 l fun n=>an a fun o=>ak 258 o fun q=>cP n q fun s=>bO 5 1 s fun t=>bL 5 1 j t fun u=>an a fun v=>ay 259 v fun w=>aK w u fun _=>c))) (an a fun c=>ak 260 c fun h=>aq h (ii 1) fun i=>an a fun j=>ay 260 j fun l=>aK l i fun _=>ag [])
theorem Tw:ax aa gt Y r 181 #[a]=inside (IL Y r a):=jK
def IM(Y:Nat)(r:RT)(a:V):M V:=lf a nP (an a fun c=>ay 0 c fun d=>ak 1 d fun f=>cD f (ii 4) fun g=>ag [g]) (ag [bF])
theorem Tx:ax aa gt Y r 182 #[a]=inside (IM Y r a):=jK
def IP(Y:Nat)(r:RT)(a b:V):M V:=lf a nP (an a fun d=>ay 0 d fun e=>an a fun f=>ak 256 f fun h=>ai r 214 [e,h,b] fun i=>an a fun j=>ay 256 j fun l=>aK l i fun _=>ag []) (ag [])
theorem Ty:ax aa gt Y r 184 #[a,b]=inside (IP Y r a b):=jK
def IQ(Y:Nat)(r:RT)(a:V):M V:=c9 a nP (ag [(ii 7)]) (ai r 182 [a] fun c=>aA c (ag [(ii 24)]) (bo z168 [] fun d=>an a fun e=>ay 0 e fun f=>aM 2 f d fun _=>ag [(ii 0)]))
theorem Tz:ax aa gt Y r 185 #[a]=inside (IQ Y r a):=jK
def IU(Y:Nat)(r:RT)(a:V):M V:=c9 a nP (ag [(i3 0)]) (an a fun c=>ak 256 c fun e=>Bn e fun f=>ag [f])
theorem TA:ax aa gt Y r 186 #[a]=inside (IU Y r a):=jK
def tY(Y:Nat)(r:RT):Nat->(V->V->V->V->V->M V)->V->V->V->V->V->V->V->M V|0,_,_,_,_,_,_,_,_=> .fail|fu+1,k,a,b,c,d,e,f,g=>aX g (ii 8) (oZ d (i6 31) fun i=>mg d (i6 1) fun j=>dK i (i3 79764919) fun l=>nC j l fun m=>aq g (ii 1) fun d=>tY Y r fu k a b c m e f d) (k a b c d e)
def TB:List Nat:=[0,1,2,3,5,6,11]
def CN(Y:Nat)(r:RT)(k:(V->V->M V))(g:V->V->V->M V):(V->V->V->V->V->M V):=fun a b c d e=>gG 256 b c fun f=>aK f d fun _=>aq e (ii 1) fun f=>g a b f
def rM(Y:Nat)(r:RT):Nat->(V->V->M V)->V->V->V->M V|0,_,_,_,_=> .fail|fu+1,k,a,b,c=>eg c (ii 256) fun d=>aA d (dm .u32 c fun e=>mg e (i6 24) fun f=>tY Y r Y (CN Y r k (rM Y r fu k)) a b c f c d (ii 0)) (k a b)
def yM:List Nat:=[0,1,5]
abbrev TC(Y:Nat)(r:RT)(a:Nat)(k:(V->V->M V)):(V->V->V->V->V->M V):=CN Y r k (rM Y r a k)
def yN(Y:Nat)(r:RT):(V->V->M V):=fun a b=>aT 256 b fun c=>aM 256 a c fun _=>aT 256 a fun b=>ag [b]
def CO(Y:Nat)(r:RT):M V:=cy 257 G7 fun a=>cy 257 G7 fun b=>rM Y r Y (yN Y r) a b (ii 0)
theorem TD(K:KT):∀fu,tY Y r fu (fun a b c d e=>K (.exit 2) (zp [0,1,2,3,5] [a,b,c,d,e]))=fun a b c d e f g
 =>aU (cQ 187 (pb 16 11467) Y r) TB fu (zp TB [a,b,c,d,e,f,g]) K
 |0=>by funext a b c d e f g;kernel_rfl
 |fu+1=>by have h:=TD K fu;funext a b c d e f g;rw[tY];simp only[h];kernel_rfl
theorem aff(K:KT)(f:Nat):CN Y r (fun a b=>K (.exit 0) (zp [0,1] [a,b])) (fun a b c=>aU (cQ 187 (pb 6 11) Y
 r) yM f (zp yM [a,b,c]) K)=(fun a b c d e=>(iK 187 (pb 6 11) (pb 9 179) yM f K Y r) (.exit 2) (zp [0,1,2,3,5] [a,b,c,d,e])):=by kernel_rfl
theorem TE(K:KT):∀fu,rM Y r fu (fun a b=>K (.exit 0) (zp [0,1] [a,b]))=fun a b c=>aU (cQ 187 (pb 6 11) Y r)
 yM fu (zp yM [a,b,c]) K
 |0=>by funext a b c;kernel_rfl
 |fu+1=>by have d:=TE K fu;funext a b c;rw[rM];simp only[d,aff,TD];kernel_rfl
theorem afg:yN Y r=(fun a b=>(tK 187 (pb 5 11) Y r) (.exit 0) (zp [0,1] [a,b])):=jK
theorem TF:ax aa gt Y r 187 #[]=inside (CO Y r):=by unfold CO;simp only[afg,TE];kernel_rfl
def tZ(Y:Nat)(r:RT):Nat->(V->M V)->V->V->V->V->V->V->V->V->V->V->M V|0,_,_,_,_,_,_,_,_,_,_,_=> .fail|fu+1,k,a,b,c,d,e,f,g,h,i,j=>aX j i (mg e (i6 1) fun m=>an a fun n=>ak 2 n fun p=>ai r 215 [a,p] fun q=>xO m q fun s=>an a fun e=>ak 2 e fun n=>aq n (ii 1) fun o=>an a fun p=>ay 2 p fun q=>aK q o fun _=>aq j (ii 1) fun e=>tZ Y r fu k a b c d s f g h i e) (k e)
def TG:List Nat:=[0,1,4,5,6,7,10,17,22,23]
def CP(Y:Nat)(r:RT):(V->M V):=fun a=>ag [a,(ii 0)]
def CQ(Y:Nat)(r:RT)(a b:V):M V:=rk a nP fun c=>aA c (ag [(i3 0),(ii 7)]) (aX b (ii 0) (ag [(i3 0),(ii 1)]) (iH b (ii 32) fun e=>aA e (ag [(i3 0),(ii 1)]) (ai r 98 [a] fun d=>eg d b fun f=>aA f (ag [(i3 0),(ii 3)]) (tZ Y r Y (CP Y r) a b (i3 0) (ii 0) (i3 0) c e f b (ii 0)))))
theorem TH(K:KT):∀fu,tZ Y r fu (fun a=>K (.exit 1) (zp [6] [a]))=fun a b c d e f g h i j=>aU (cQ
 188 (pb 7 23) Y r) TG fu (zp TG [a,b,c,d,e,f,g,h,i,j]) K
 |0=>by funext a b c d e f g h i j;kernel_rfl
 |fu+1=>by have k:=TH K fu;funext a b c d e f g h i j;rw[tZ];simp only[k];kernel_rfl
theorem afh:CP Y r=(fun a=>(tK 188 (pb 6 23) Y r) (.exit 1) (zp [6] [a])):=jK
theorem TI:ax aa gt Y r 188 #[a,b]=inside (CQ Y r a b):=by unfold CQ;simp only[afh,TH];kernel_rfl
def IV(Y:Nat)(r:RT)(a:V):M V:=aX a (ii 5) (ag [nP,(ii 1)]) (eD a (ii 900000) (ag [nP,(ii 1)]) (bo OZ [(1,1,a)] fun b=>dP 207 b fun d=>ag [d,(ii 0)]))
theorem TJ:ax aa gt Y r 189 #[a]=inside (IV Y r a):=jK
def IW(Y:Nat)(r:RT)(a b:V):M V:=c9 a nP (ag [(ii 7)]) (c9 b nP (ag [(ii 7)]) (an a fun e=>ak 6 e fun g=>aA g (ag [(ii 7)]) (an a fun c=>ak 7 c fun e=>cb e (ii 0) (an a fun c=>ak 7 c fun e=>ag [e]) (ai r 216 [a,b] fun c=>cb c (ii 3) (an a fun e=>ay 7 e fun h=>aK h c fun _=>ag [c]) (ag [c])))))
theorem TK:ax aa gt Y r 190 #[a,b]=inside (IW Y r a b):=jK
def IX(Y:Nat)(r:RT)(a:V):M V:=lf a nP (an a fun c=>ak 6 c fun e=>ag [e]) (ag [bF])
theorem TL:ax aa gt Y r 191 #[a]=inside (IX Y r a):=jK
def IY(Y:Nat)(r:RT)(a:V):M V:=cy 134 vL fun b=>ai r 191 [a] fun c=>dC c fun d=>aA d (bo vL [] fun c=>aM 3 b c fun _=>aT 3 b fun a=>ag [a]) (an a fun c=>ay 5 c fun e=>(az (aQ e M.ret)).bind fun f=>(az (iI f.1 M.ret)).bind fun g=>an a fun h=>ay 4 h fun i=>(az (aQ i M.ret)).bind fun j=>an a fun l=>ay 3 l fun m=>(az (aQ m M.ret)).bind fun n=>bo vL [(0,1,g.1),(1,1,j.1),(2,1,n.1)] fun o=>(az (aM 3 b o M.ret)).bind fun p=>dD ((!(cz g.2 j.2)&&(!(cz g.2 n.2)&&true))&&true) (aT 3 b fun a=>ag [a]))
theorem TM:ax aa gt Y r 192 #[a]=inside (IY Y r a):=jK
def uc(Y:Nat)(r:RT):Nat->(M V)->V->M V|0,_,_=> .fail|fu+1,k,a=>lf a nP (an a fun c=>ak 2 c fun e=>nD e (ii 8) fun f=>cb f (ii 0) (an a fun b=>ak 2 b fun d=>aq d (ii 1) fun e=>an a fun f=>ay 2 f fun h=>aK h e fun _=>uc Y r fu k a) (k)) (k)
def TN:List Nat:=[0]
def CR(Y:Nat)(r:RT):(M V):=ag []
def CS(Y:Nat)(r:RT)(a:V):M V:=uc Y r Y (CR Y r) a
theorem TO(K:KT):∀fu,uc Y r fu (K (.exit 0) [])=fun a=>aU (cQ 193 (pb 2 0) Y r) TN fu (zp TN [a]) K
 |0=>by funext a;kernel_rfl
 |fu+1=>by have b:=TO K fu;funext a;rw[uc];simp only[b];kernel_rfl
theorem afi:CR Y r=((tK 193 (pb 1 0) Y r) (.exit 0) []):=jK
theorem TP:ax aa gt Y r 193 #[a]=inside (CS Y r a):=by unfold CS;simp only[afi,TO];kernel_rfl
def ud(Y:Nat)(r:RT):Nat->(V->M V)->V->V->V->M V|0,_,_,_,_=> .fail|fu+1,k,a,b,c=>bJ a fun d=>aX c d (cP a c fun f=>bq f (i1 49) (aq c (ii 1) fun d=>ud Y r fu k a b d) (k c)) (k c)
def TQ:List Nat:=[0,2,3]
def yO(Y:Nat)(r:RT):(V->M V):=fun a=>ag [a]
def IZ(Y:Nat)(r:RT)(a:V):M V:=ud Y r Y (yO Y r) a (ii 0) (ii 0)
theorem TR(K:KT):∀fu,ud Y r fu (fun a=>K (.exit 0) (zp [3] [a]))=fun a b c=>aU (cQ 196 (pb 5 3) Y
 r) TQ fu (zp TQ [a,b,c]) K
 |0=>by funext a b c;kernel_rfl
 |fu+1=>by have d:=TR K fu;funext a b c;rw[ud];simp only[d];kernel_rfl
theorem afj:yO Y r=(fun a=>(tK 196 (pb 4 3) Y r) (.exit 0) (zp [3] [a])):=jK
theorem afk:ax aa gt Y r 196 #[a]=inside (IZ Y r a):=by unfold IZ;simp only[afj,TR];kernel_rfl
def rN(Y:Nat)(r:RT):Nat->((V->V->V->M V)×(V->M V))->V->V->V->V->V->V->V->V->M V|0,_,_,_,_,_,_,_,_,_=> .fail|fu+1,k,a,b,c,d,e,f,g,h=>bx e fun i=>aX i b (bJ a fun i=>bq f i (bo nK [(2,1,(ii 3))] fun i=>aM 3 c i fun _=>k.2 c) (cP a f fun i=>bq i (i1 48) (bO 3 1 d fun i=>bL 3 1 e i fun n=>aq f (ii 1) fun e=>rN Y r fu k a b c d n e g h) (aq f (ii 1) fun i=>bJ a fun n=>bq i n (bo nK [(2,1,(ii 3))] fun i=>aM 3 c i fun _=>k.2 c) (aq f (ii 1) fun i=>cP a i fun n=>cD n (i1 48) fun p=>(fun i=>aA p (aq d (ii 1) fun n=>i n) (cL d (ii 1) fun n=>i n)) fun d=>aX d (ii 1) (bo nK [(2,1,(ii 22))] fun i=>aM 3 c i fun _=>k.2 c) (eD d (ii 20) (bo nK [(2,1,(ii 22))] fun i=>aM 3 c i fun _=>k.2 c) (aq f (ii 2) fun i=>rN Y r fu k a b c d e i g h)))))) (k.1 c e f)
def TS:List Nat:=[0,1,4,5,6,7,10,21]
def qu(Y:Nat)(r:RT):(V->V->V->M V)×(V->M V):=(fun a b c=>bo nK [(0,1,b),(1,1,c)] fun d=>aM 3 a d fun _=>aT 3 a fun b=>ag [b],fun a=>aT 3 a fun b=>ag [b])
def I0(Y:Nat)(r:RT)(a b:V):M V:=cy 269 nK fun c=>bJ a fun d=>eg d (ii 5) fun e=>aA e (bo nK [(2,1,(ii 3))] fun d=>aM 3 c d fun _=>aT 3 c fun a=>ag [a]) (bN a none (some (ii 5)) fun d=>ai r 63 [d] fun f=>dm .i64 f fun g=>aX g (ii 1) (bo nK [(2,1,(ii 22))] fun d=>aM 3 c d fun _=>aT 3 c fun a=>ag [a]) (iH g (ii 20) fun f=>aA f (bo nK [(2,1,(ii 22))] fun d=>aM 3 c d fun _=>aT 3 c fun a=>ag [a]) (rN Y r Y (qu Y r) a b c g nS (ii 5) e f)))
theorem TU(K:KT):∀fu,rN Y r fu ((fun a b c=>K (.exit 0) (zp [4,6,7] [a,b,c]),fun a=>K .ret (zp [4]
 [a])))=fun a b c d e f g h=>aU (cQ 197 (pb 9 63) Y r) TS fu (zp TS [a,b,c,d,e,f,g,h]) K
 |0=>by funext a b c d e f g h;kernel_rfl
 |fu+1=>by have i:=TU K fu;funext a b c d e f g h;rw[rN];simp only[i];kernel_rfl
theorem afl:qu Y r=((fun a b c=>(tK 197 (pb 8 63) Y r) (.exit 0) (zp [4,6,7] [a,b,c]),fun a=>(tK 197
 (pb 8 63) Y r) .ret (zp [4] [a]))):=by kernel_rfl
theorem afm:ax aa gt Y r 197 #[a,b]=inside (I0 Y r a b):=by unfold I0;simp only[afl,TU];kernel_rfl
def TV(Y:Nat)(r:RT)(a:V):M V:=ai r 217 [a,(ii 1),(ii 20)] fun b=>aA b (ai r 218 [a] fun c=>cD c (ii 1048576) fun d=>ag [d]) (ag [bF])
theorem afn:ax aa gt Y r 198 #[a]=inside (TV Y r a):=jK
def TW(Y:Nat)(r:RT)(a b:V):M V:=bJ a fun c=>bJ b fun d=>gw c d (bJ b fun f=>bN a none (some f) fun g=>cD g b fun h=>ag [h]) (ag [bF])
theorem afo:ax aa gt Y r 199 #[a,b]=inside (TW Y r a b):=jK
def TX(Y:Nat)(r:RT)(a:V):M V:=dP 233 a fun b=>ay 2 b fun c=>(az (aQ c M.ret)).bind fun d=>ay 3 b fun e=>(az (aQ e M.ret)).bind fun f=>(az (ai r 201 [f.1] M.ret)).bind fun g=>aq d.1 g.1 fun h=>dD ((!(cz d.2 g.2)&&true)&&true) (ag [h])
theorem afp:ax aa gt Y r 200 #[a]=inside (TX Y r a):=jK
def ue(Y:Nat)(r:RT):Nat->((V->M V)×(V->M V))->V->V->V->V->V->V->V->M V|0,_,_,_,_,_,_,_,_=> .fail|fu+1,k,a,b,c,d,e,f,g=>aX g f (bM e g fun i=>aQ i fun j=>eD d (ii 2199023255552) (k.2 (ii 2199023255552)) (aq c d fun l=>dK j d fun m=>aq l m fun n=>dK (ii 2) d fun c=>aq g (ii 1) fun d=>ue Y r fu k a b n c e f d)) (k.1 c)
def TY:List Nat:=[0,2,3,4,7,8,9]
def CT(Y:Nat)(r:RT):(V->M V)×(V->M V):=(fun a=>ag [a],fun a=>ag [a])
def I1(Y:Nat)(r:RT)(a:V):M V:=bx a fun b=>ue Y r Y (CT Y r) a (ii 0) (ii 0) (ii 1) a b (ii 0)
theorem TZ(K:KT):∀fu,ue Y r fu ((fun a=>K (.exit 0) (zp [3] [a]),fun a=>K .ret (zp [2] [a])))=fun
 a b c d e f g=>aU (cQ 201 (pb 7 23) Y r) TY fu (zp TY [a,b,c,d,e,f,g]) K
 |0=>by funext a b c d e f g;kernel_rfl
 |fu+1=>by have h:=TZ K fu;funext a b c d e f g;rw[ue];simp only[h];kernel_rfl
theorem afq:CT Y r=((fun a=>(tK 201 (pb 6 23) Y r) (.exit 0) (zp [3] [a]),fun a=>(tK 201 (pb 6 23) Y r) .ret (zp [2] [a]))):=jK
theorem afr:ax aa gt Y r 201 #[a]=inside (I1 Y r a):=by unfold I1;simp only[afq,TZ];kernel_rfl
def CU(Y:Nat)(r:RT):Nat->(V->V->V->V->V->V->V->V->M V)->V->V->V->V->V->V->V->V->V->V->V->V->V->V->M V|0,_,_,_,_,_,_,_,_,_,_,_,_,_,_,_=> .fail|fu+1,k,a,b,c,d,e,f,g,h,i,j,l,m,n,o=>aX o n (bM m o fun q=>aQ q fun s=>cL b (ii 1) fun q=>iH h q fun t=>(fun q=>aA t (cL b (ii 1) fun u=>q u) (q h)) fun h=>dK h d fun q=>jm q b fun u=>cD u f fun v=>(fun q=>aA v (bO 3 1 (ii 0) fun u=>bL 3 1 g u fun w=>q w) (bO 3 1 (ii 15) fun u=>bL 3 1 g u fun w=>q w)) fun g=>aq h s fun q=>aq o (ii 1) fun h=>CU Y r fu k a b c d e f g q i j l m n h) (k a b c d e g i j)
def T0:List Nat:=[0,1,4,5,6,7,8,9,14,15,16,18,19,20]
def T'(Y:Nat)(r:RT)(k:(V->M V))(l:V->V->V->V->V->V->V->M V):(V->V->V->V->V->V->V->V->M V):=fun a b c d e f g h=>bO 115 1 f fun i=>bL 115 1 e i fun j=>aq h (ii 1) fun e=>l a b c d j g e
def CV(Y:Nat)(r:RT):Nat->(V->M V)->V->V->V->V->V->V->V->M V|0,_,_,_,_,_,_,_,_=> .fail|fu+1,k,a,b,c,d,e,f,g=>eg g f fun h=>aA h (bx a fun i=>CU Y r Y (T' Y r k (CV Y r fu k)) a b c d e g nS (ii 0) f g h a i (ii 0)) (k e)
def yP:List Nat:=[0,1,4,5,6,14,15]
def Ua(Y:Nat)(r:RT):(V->M V):=fun a=>ag [a]
def I2(Y:Nat)(r:RT)(a b:V):M V:=ai r 219 [b] fun c=>CV Y r Y (Ua Y r) a b nS c nS c (ii 0)
theorem Ub(K:KT):∀fu,CU Y r fu (fun a b c d e f g h=>K (.exit 2) (zp [0,1,4,5,6,8,14,15] [a,b,
 c,d,e,f,g,h]))=fun a b c d e f g h i j l m n o=>aU (cQ 202 (pb 18 47511) Y r) T0 fu (zp T0 [a,b,c,d,e,f,g,h,i,j,l,m,n,o]) K
 |0=>by funext a b c d e f g h i j l m n o;kernel_rfl
 |fu+1=>by have k:=Ub K fu;funext a b c d e f g h i j l m n o;rw[CU];simp only[k];kernel_rfl
theorem afs(K:KT)(i:Nat):T' Y r (fun a=>K (.exit 0) (zp [6] [a])) (fun a b c d e f g=>aU (cQ 202
 (pb 7 23) Y r) yP i (zp yP [a,b,c,d,e,f,g]) K)=(fun a b c d e f g h=>(iK 202 (pb 7 23) (pb 10 371) yP i
 K Y r) (.exit 2) (zp [0,1,4,5,6,8,14,15] [a,b,c,d,e,f,g,h])):=by kernel_rfl
theorem Uc(K:KT):∀fu,CV Y r fu (fun a=>K (.exit 0) (zp [6] [a]))=fun a b c d e f g=>aU (cQ 202
 (pb 7 23) Y r) yP fu (zp yP [a,b,c,d,e,f,g]) K
 |0=>by funext a b c d e f g;kernel_rfl
 |fu+1=>by have h:=Uc K fu;funext a b c d e f g;rw[CV];simp only[h,afs,Ub];kernel_rfl
theorem aft:Ua Y r=(fun a=>(tK 202 (pb 6 23) Y r) (.exit 0) (zp [6] [a])):=jK
theorem afu:ax aa gt Y r 202 #[a,b]=inside (I2 Y r a b):=by unfold I2;simp only[aft,Uc];kernel_rfl
def CW(Y:Nat)(r:RT):Nat->(V->M V)->V->V->V->V->V->V->M V|0,_,_,_,_,_,_,_=> .fail|fu+1,k,a,b,c,d,e,f=>aX f e (ai r 220 [a,f] fun h=>bO 3 1 h fun i=>bL 3 1 d i fun j=>aq f (ii 1) fun d=>CW Y r fu k a b c j e d) (k d)
def Ud:List Nat:=[0,1,4,5,7,8]
def Ue(Y:Nat)(r:RT):(V->M V):=fun a=>ag [a]
def I3(Y:Nat)(r:RT)(a b:V):M V:=CW Y r Y (Ue Y r) a b nS nS b (ii 0)
theorem Uf(K:KT):∀fu,CW Y r fu (fun a=>K (.exit 0) (zp [5] [a]))=fun a b c d e f=>aU (cQ 203
 (pb 6 11) Y r) Ud fu (zp Ud [a,b,c,d,e,f]) K
 |0=>by funext a b c d e f;kernel_rfl
 |fu+1=>by have g:=Uf K fu;funext a b c d e f;rw[CW];simp only[g];kernel_rfl
theorem afv:Ue Y r=(fun a=>(tK 203 (pb 5 11) Y r) (.exit 0) (zp [5] [a])):=jK
theorem afw:ax aa gt Y r 203 #[a,b]=inside (I3 Y r a b):=by unfold I3;simp only[afv,Uf];kernel_rfl
def wc(Y:Nat)(r:RT):Nat->(V->M V)->V->V->V->V->V->V->V->M V|0,_,_,_,_,_,_,_,_=> .fail|fu+1,k,a,b,c,d,e,f,g=>aX g f (bM e g fun i=>aQ i fun j=>bO 3 1 j fun i=>bL 3 1 d i fun l=>bx l fun d=>bq d (ii 50) (bO 115 1 l fun d=>bL 115 1 c d fun i=>aq g (ii 1) fun c=>wc Y r fu k a b i nS e f c) (aq g (ii 1) fun m=>bx a fun n=>bq m n (bO 115 1 l fun d=>bL 115 1 c d fun i=>aq g (ii 1) fun c=>wc Y r fu k a b i nS e f c) (aq g (ii 1) fun d=>wc Y r fu k a b c l e f d))) (k c)
def Ug:List Nat:=[0,2,3,4,7,8,9]
def Uh(Y:Nat)(r:RT):(V->M V):=fun a=>ag [a]
def I4(Y:Nat)(r:RT)(a:V):M V:=bx a fun b=>wc Y r Y (Uh Y r) a nS nS nS a b (ii 0)
theorem Ui(K:KT):∀fu,wc Y r fu (fun a=>K (.exit 0) (zp [3] [a]))=fun a b c d e f g=>aU (cQ 204
 (pb 7 23) Y r) Ug fu (zp Ug [a,b,c,d,e,f,g]) K
 |0=>by funext a b c d e f g;kernel_rfl
 |fu+1=>by have h:=Ui K fu;funext a b c d e f g;rw[wc];simp only[h];kernel_rfl
theorem afx:Uh Y r=(fun a=>(tK 204 (pb 6 23) Y r) (.exit 0) (zp [3] [a])):=jK
theorem afy:ax aa gt Y r 204 #[a]=inside (I4 Y r a):=by unfold I4;simp only[afx,Ui];kernel_rfl
def yQ(Y:Nat)(r:RT):Nat->(V->M V)->V->V->V->V->V->V->V->M V|0,_,_,_,_,_,_,_,_=> .fail|fu+1,k,a,b,c,d,e,f,g=>aX g f (bM e g fun i=>aQ i fun j=>(az (ai r 221 [a,j] M.ret)).bind fun i=>bM b d fun l=>(az (aQ l M.ret)).bind fun m=>(az (ai r 221 [a,m.1] M.ret)).bind fun n=>eg i.1 n.1 fun o=>dD ((!(cz i.2 m.2)&&true)&&true) (aA o (aq g (ii 1) fun d=>yQ Y r fu k a b c g e f d) (aq g (ii 1) fun i=>yQ Y r fu k a b c d e f i))) (k d)
def Uj:List Nat:=[0,1,4,5,8,9,10]
def Uk(Y:Nat)(r:RT):(V->M V):=fun a=>ag [a]
def I5(Y:Nat)(r:RT)(a b:V):M V:=bx b fun c=>yQ Y r Y (Uk Y r) a b (ii 0) (ii 0) b c (ii 0)
theorem Ul(K:KT):∀fu,yQ Y r fu (fun a=>K (.exit 0) (zp [5] [a]))=fun a b c d e f g=>aU (cQ 205 (pb
 6 11) Y r) Uj fu (zp Uj [a,b,c,d,e,f,g]) K
 |0=>by funext a b c d e f g;kernel_rfl
 |fu+1=>by have h:=Ul K fu;funext a b c d e f g;rw[yQ];simp only[h];kernel_rfl
theorem afz:Uk Y r=(fun a=>(tK 205 (pb 5 11) Y r) (.exit 0) (zp [5] [a])):=jK
theorem afA:ax aa gt Y r 205 #[a,b]=inside (I5 Y r a b):=by unfold I5;simp only[afz,Ul];kernel_rfl
def yR(Y:Nat)(r:RT):Nat->(V->V->V->V->V->V->V->M V)->V->V->V->V->V->V->M V|0,_,_,_,_,_,_,_=> .fail|fu+1,k,a,b,c,d,e,f=>eg f e fun g=>aA g (bM d f fun h=>aQ h fun i=>bq i (ii 0) (bO 3 1 (ii 1) fun i=>bL 3 1 c i fun j=>aq f (ii 1) fun c=>yR Y r fu k a b j d e c) (bO 3 1 i fun j=>bL 3 1 c j fun l=>aq f (ii 1) fun c=>yR Y r fu k a b l d e c)) (k a b c d e f g)
def Un:List Nat:=[0,2,3,7,8,9]
def CX(Y:Nat)(r:RT):Nat->((M V)×(V->M V))->V->V->V->V->V->V->V->V->M V|0,_,_,_,_,_,_,_,_,_=> .fail|fu+1,k,a,b,c,d,e,f,g,h=>aX h (ii 100) (ai r 222 [c] fun j=>ai r 217 [j,(ii 1),(ii 20)] fun l=>aA l (k.2 j) (ai r 223 [c] fun m=>aq h (ii 1) fun c=>CX Y r fu k a b m d e f g c)) (k.1)
def Uo:List Nat:=[0,2,3,7,8,9,10,20]
def Up(Y:Nat)(r:RT):(M V)×(V->M V):=(ag [nS],fun a=>ag [a])
def I6(Y:Nat)(r:RT):(V->V->V->V->V->V->V->M V):=fun a b c d e f g=>CX Y r Y (Up Y r) a b c d e f g (ii 0)
def I7(Y:Nat)(r:RT)(a:V):M V:=bx a fun b=>yR Y r Y (I6 Y r) a nS nS a b (ii 0)
theorem Uq(K:KT):∀fu,yR Y r fu (fun a b c d e f g=>K (.exit 0) (zp [0,2,3,7,8,9,10] [a,b,c,d,e,f,
 g]))=fun a b c d e f=>aU (cQ 206 (pb 6 11) Y r) Un fu (zp Un [a,b,c,d,e,f]) K
 |0=>by funext a b c d e f;kernel_rfl
 |fu+1=>by have h:=Uq K fu;funext a b c d e f;rw[yR];simp only[h];kernel_rfl
theorem I8(K:KT):∀fu,CX Y r fu ((K (.exit 2) [],fun a=>K .ret (zp [2] [a])))=fun a b c d e f g h=>aU
 (cQ 206 (pb 7 23) Y r) Uo fu (zp Uo [a,b,c,d,e,f,g,h]) K
 |0=>by funext a b c d e f g h;kernel_rfl
 |fu+1=>by have i:=I8 K fu;funext a b c d e f g h;rw[CX];simp only[i];kernel_rfl
theorem Ur:Up Y r=(((tK 206 (pb 6 23) Y r) (.exit 2) [],fun a=>(tK 206 (pb 6 23) Y r) .ret (zp [2] [a]))):=jK
theorem afB:I6 Y r=(fun a b c d e f g=>(tK 206 (pb 5 11) Y r) (.exit 0) (zp [0,2,3,7,8,9,10] [a,b,c,d,e,f,g])):=by unfold I6;simp only[Ur,I8];kernel_rfl
theorem afC:ax aa gt Y r 206 #[a]=inside (I7 Y r a):=by unfold I7;simp only[afB,Ur,Uq,I8];kernel_rfl
def rO(Y:Nat)(r:RT):Nat->(V->V->V->V->V->V->V->M V)->V->V->V->V->V->V->M V|0,_,_,_,_,_,_,_=> .fail|fu+1,k,a,b,c,d,e,f=>qj f (ii 0) fun g=>aA g (cP a f fun h=>cD h (i1 49) fun i=>xP i e fun h=>(fun l=>aA h (aq (aO {data:=#[49]}) d fun j=>l j) (aq (aO {data:=#[48]}) d fun j=>l j)) fun d=>aA e (cL f (ii 1) fun e=>rO Y r fu k a b c d i e) (cL f (ii 1) fun e=>rO Y r fu k a b c d bF e)) (k a b c d e f g)
def Ut:List Nat:=[0,1,4,5,6,7]
def uf(Y:Nat)(r:RT):Nat->(V->M V)->V->V->V->V->V->V->V->M V|0,_,_,_,_,_,_,_,_=> .fail|fu+1,k,a,b,c,d,e,f,g=>bJ d fun h=>aX h b (aq d (aO {data:=#[48]}) fun h=>uf Y r fu k a b c h e f g) (k d)
def Uu:List Nat:=[0,1,4,5,6,7,13]
def CY(Y:Nat)(r:RT):(V->M V):=fun a=>ag [a]
def yS(Y:Nat)(r:RT):(V->V->V->V->V->V->V->M V):=fun a b c d e f g=>uf Y r Y (CY Y r) a b c d e f g
def CZ(Y:Nat)(r:RT)(a b:V):M V:=bJ a fun c=>cL c (ii 1) fun d=>rO Y r Y (yS Y r) a b (aO {data:=#[]}) (aO {data:=#[]}) bT d
theorem Uv(K:KT):∀fu,rO Y r fu (fun a b c d e f g=>K (.exit 0) (zp [0,1,4,5,6,7,13] [a,b,c,d,e,
 f,g]))=fun a b c d e f=>aU (cQ 207 (pb 7 23) Y r) Ut fu (zp Ut [a,b,c,d,e,f]) K
 |0=>by funext a b c d e f;kernel_rfl
 |fu+1=>by have h:=Uv K fu;funext a b c d e f;rw[rO];simp only[h];kernel_rfl
theorem I9(K:KT):∀fu,uf Y r fu (fun a=>K (.exit 2) (zp [5] [a]))=fun a b c d e f g=>aU (cQ 207 (pb
 7 15) Y r) Uu fu (zp Uu [a,b,c,d,e,f,g]) K
 |0=>by funext a b c d e f g;kernel_rfl
 |fu+1=>by have h:=I9 K fu;funext a b c d e f g;rw[uf];simp only[h];kernel_rfl
theorem Uw:CY Y r=(fun a=>(tK 207 (pb 6 15) Y r) (.exit 2) (zp [5] [a])):=jK
theorem afD:yS Y r=(fun a b c d e f g=>(tK 207 (pb 6 23) Y r) (.exit 0) (zp [0,1,4,5,6,7,13] [a,b,c,d,e,f,g])):=by unfold yS;simp only[Uw,I9];kernel_rfl
theorem Ux:ax aa gt Y r 207 #[a,b]=inside (CZ Y r a b):=by unfold CZ;simp only[afD,Uw,Uv,I9];kernel_rfl
def C0(Y:Nat)(r:RT)(a:V):M V:=ac3 a nS (ag [nS]) (vz 3 [] 0 [] fun c=>bL 3 1 c a fun d=>ag [d])
theorem I':ax aa gt Y r 208 #[a]=inside (C0 Y r a):=jK
def rP(Y:Nat)(r:RT):Nat->(M V)->V->V->V->V->M V|0,_,_,_,_,_=> .fail|fu+1,k,a,b,c,d=>aX d (ii 256) (vx 256 c d fun f=>an a fun g=>ay 1 g fun h=>gG 256 h d fun i=>aK i b fun _=>aq b f fun g=>aq d (ii 1) fun b=>rP Y r fu k a g c b) (k)
def Uy:List Nat:=[0,2,8,9]
def yT(Y:Nat)(r:RT):(M V):=ag []
def C1(Y:Nat)(r:RT)(a:V):M V:=an a fun b=>ay 1 b fun c=>aT 256 c fun d=>rP Y r Y (yT Y r) a (ii 0) d (ii 0)
theorem Uz(K:KT):∀fu,rP Y r fu (K (.exit 0) [])=fun a b c d=>aU (cQ 209 (pb 4 3) Y r)
 Uy fu (zp Uy [a,b,c,d]) K
 |0=>by funext a b c d;kernel_rfl
 |fu+1=>by have e:=Uz K fu;funext a b c d;rw[rP];simp only[e];kernel_rfl
theorem afE:yT Y r=((tK 209 (pb 3 3) Y r) (.exit 0) []):=jK
theorem UA:ax aa gt Y r 209 #[a]=inside (C1 Y r a):=by unfold C1;simp only[afE,Uz];kernel_rfl
def Ja(Y:Nat)(r:RT)(a b c:V):M V:=mg b (i6 8) fun d=>oZ b (i6 24) fun e=>dm .u8 e fun f=>nC f c fun g=>an a fun h=>gG 256 h g fun i=>aQ i fun j=>nC d j fun l=>ag [l]
theorem UB:ax aa gt Y r 214 #[a,b,c]=inside (Ja Y r a b c):=jK
def Jb(Y:Nat)(r:RT)(a b:V):M V:=an a fun c=>ak 0 c fun e=>jm b (ii 8) fun f=>an a fun g=>ak 1 g fun i=>cL f i fun j=>cP e j fun l=>nD b (ii 8) fun c=>cL (ii 7) c fun d=>oZ l d fun e=>xN e (i1 1) fun f=>dm .u32 f fun g=>ag [g]
theorem UC:ax aa gt Y r 215 #[a,b]=inside (Jb Y r a b):=jK
def Jc(Y:Nat)(r:RT)(a b:V):M V:=an a fun c=>ak 2 c fun e=>dC e fun f=>aA f (ai r 228 [a,b] fun c=>cb c (ii 0) (ag [c]) (ai r 233 [a] fun e=>ag [e])) (an a fun c=>ak 0 c fun e=>c9 e nP (ai r 229 [a,b] fun c=>cb c (ii 0) (ag [c]) (ai r 233 [a] fun e=>ag [e])) (an a fun c=>ak 0 c fun e=>ai r 230 [e] fun h=>aA h (an a fun c=>ay 5 c fun d=>(az (aQ d M.ret)).bind fun e=>an a fun i=>ay 0 i fun j=>(az (aQ j M.ret)).bind fun l=>(az (ai r 231 [l.1] M.ret)).bind fun m=>(az (bO 5 1 m.1 M.ret)).bind fun n=>(az (bL 5 1 e.1 n.1 M.ret)).bind fun o=>an a fun p=>ay 5 p fun q=>(az (aK q o.1 M.ret)).bind fun s=>dD ((!(cz e.2 m.2)&&true)&&true) (cb (ii 0) (ii 0) (ag [(ii 0)]) (ai r 233 [a] fun d=>ag [d]))) (ai r 232 [a,b] fun c=>cb c (ii 0) (ag [c]) (ai r 233 [a] fun e=>ag [e]))))
theorem UD:ax aa gt Y r 216 #[a,b]=inside (Jc Y r a b):=jK
def ug(Y:Nat)(r:RT):Nat->((M V)×(V->M V))->V->V->V->V->V->V->V->M V|0,_,_,_,_,_,_,_,_=> .fail|fu+1,k,a,b,c,d,e,f,g=>aX g f (bM e g fun i=>aQ i fun j=>aX j b (k.2 bF) (eD j c (k.2 bF) (aq g (ii 1) fun i=>ug Y r fu k a b c d e f i))) (k.1)
def UE:List Nat:=[0,1,2,6,9,10,11]
def we(Y:Nat)(r:RT):(M V)×(V->M V):=(ag [bT],fun a=>ag [a])
def C4(Y:Nat)(r:RT)(a b c:V):M V:=bx a fun d=>ug Y r Y (we Y r) a b c bF a d (ii 0)
theorem UF(K:KT):∀fu,ug Y r fu ((K (.exit 0) [],fun a=>K .ret (zp [6] [a])))=fun a b c d e f g=>aU
 (cQ 217 (pb 5 5) Y r) UE fu (zp UE [a,b,c,d,e,f,g]) K
 |0=>by funext a b c d e f g;kernel_rfl
 |fu+1=>by have h:=UF K fu;funext a b c d e f g;rw[ug];simp only[h];kernel_rfl
theorem afF:we Y r=(((tK 217 (pb 4 5) Y r) (.exit 0) [],fun a=>(tK 217 (pb 4 5) Y r) .ret (zp [6] [a]))):=jK
theorem UG:ax aa gt Y r 217 #[a,b,c]=inside (C4 Y r a b c):=by unfold C4;simp only[afF,UF];kernel_rfl
def uh(Y:Nat)(r:RT):Nat->(V->V->V->V->V->V->V->M V)->V->V->V->V->V->V->V->V->V->V->V->M V|0,_,_,_,_,_,_,_,_,_,_,_,_=> .fail|fu+1,k,a,b,c,d,e,f,g,h,i,j,l=>aX l j (dK (ii 2) e fun n=>aq l (ii 1) fun e=>uh Y r fu k a b c d n f g h i j e) (k a b c e f g h)
def UH:List Nat:=[0,2,3,5,6,7,8,9,10,14,15]
def C5(Y:Nat)(r:RT)(k:(V->M V))(i:V->V->V->V->V->V->M V):(V->V->V->V->V->V->V->M V):=fun a b c d e f g=>aq c d fun h=>aq g (ii 1) fun c=>i a b h e f c
def rQ(Y:Nat)(r:RT):Nat->(V->M V)->V->V->V->V->V->V->M V|0,_,_,_,_,_,_,_=> .fail|fu+1,k,a,b,c,d,e,f=>eg f e fun g=>aA g (bM d f fun h=>aQ h fun i=>cL (ii 20) i fun h=>uh Y r Y (C5 Y r k (rQ Y r fu k)) a b c i (ii 1) d e f g h (ii 0)) (k c)
def yU:List Nat:=[0,2,3,7,8,9]
abbrev afG(Y:Nat)(r:RT)(a:Nat)(k:(V->M V)):(V->V->V->V->V->V->V->M V):=C5 Y r k (rQ Y r a k)
def C6(Y:Nat)(r:RT):(V->M V):=fun a=>ag [a]
def Jd(Y:Nat)(r:RT)(a:V):M V:=bx a fun b=>rQ Y r Y (C6 Y r) a (ii 0) (ii 0) a b (ii 0)
theorem UJ(K:KT):∀fu,uh Y r fu (fun a b c d e f g=>K (.exit 2) (zp [0,2,3,6,7,8,9] [a,b,c,d,
 e,f,g]))=fun a b c d e f g h i j l=>aU (cQ 218 (pb 16 11467) Y r) UH fu (zp UH [a,b,c,d,e,f,g,h,i,j,l]) K
 |0=>by funext a b c d e f g h i j l;kernel_rfl
 |fu+1=>by have k:=UJ K fu;funext a b c d e f g h i j l;rw[uh];simp only[k];kernel_rfl
theorem afH(K:KT)(h:Nat):C5 Y r (fun a=>K (.exit 0) (zp [3] [a])) (fun a b c d e f=>aU (cQ 218
 (pb 6 11) Y r) yU h (zp yU [a,b,c,d,e,f]) K)=(fun a b c d e f g=>(iK 218 (pb 6 11) (pb 9 179) yU h K Y
 r) (.exit 2) (zp [0,2,3,6,7,8,9] [a,b,c,d,e,f,g])):=by kernel_rfl
theorem UK(K:KT):∀fu,rQ Y r fu (fun a=>K (.exit 0) (zp [3] [a]))=fun a b c d e f=>aU (cQ 218 (pb
 6 11) Y r) yU fu (zp yU [a,b,c,d,e,f]) K
 |0=>by funext a b c d e f;kernel_rfl
 |fu+1=>by have g:=UK K fu;funext a b c d e f;rw[rQ];simp only[g,afH,UJ];kernel_rfl
theorem afI:C6 Y r=(fun a=>(tK 218 (pb 5 11) Y r) (.exit 0) (zp [3] [a])):=jK
theorem afJ:ax aa gt Y r 218 #[a]=inside (Jd Y r a):=by unfold Jd;simp only[afI,UK];kernel_rfl
def UL(Y:Nat)(r:RT)(a:V):M V:=aX a (ii 200) (ag [(ii 2)]) (aX a (ii 600) (ag [(ii 3)]) (aX a (ii 1200) (ag [(ii 4)]) (aX a (ii 2400) (ag [(ii 5)]) (ag [(ii 6)]))))
theorem afK:ax aa gt Y r 219 #[a]=inside (UL Y r a):=jK
def yV(Y:Nat)(r:RT):Nat->(V->M V)->V->V->V->V->V->V->V->M V|0,_,_,_,_,_,_,_,_=> .fail|fu+1,k,a,b,c,d,e,f,g=>aX g f (bM e g fun i=>aQ i fun j=>bq b j (aq d (ii 1) fun l=>aq g (ii 1) fun d=>yV Y r fu k a b c l e f d) (aq g (ii 1) fun l=>yV Y r fu k a b c d e f l)) (k d)
def UM:List Nat:=[0,1,4,5,8,9,10]
def UN(Y:Nat)(r:RT):(V->M V):=fun a=>ag [a]
def Je(Y:Nat)(r:RT)(a b:V):M V:=bx a fun c=>yV Y r Y (UN Y r) a b (ii 0) (ii 0) a c (ii 0)
theorem UO(K:KT):∀fu,yV Y r fu (fun a=>K (.exit 0) (zp [5] [a]))=fun a b c d e f g=>aU (cQ 220
 (pb 6 11) Y r) UM fu (zp UM [a,b,c,d,e,f,g]) K
 |0=>by funext a b c d e f g;kernel_rfl
 |fu+1=>by have h:=UO K fu;funext a b c d e f g;rw[yV];simp only[h];kernel_rfl
theorem afL:UN Y r=(fun a=>(tK 220 (pb 5 11) Y r) (.exit 0) (zp [5] [a])):=jK
theorem afM:ax aa gt Y r 220 #[a,b]=inside (Je Y r a b):=by unfold Je;simp only[afL,UO];kernel_rfl
def C7(Y:Nat)(r:RT):Nat->(V->V->V->V->V->V->V->M V)->V->V->V->V->V->V->V->V->V->V->V->V->M V|0,_,_,_,_,_,_,_,_,_,_,_,_,_=> .fail|fu+1,k,a,b,c,d,e,f,g,h,i,j,l,m=>aX m l (aq d f fun o=>ai r 234 [o] fun p=>aq m (ii 1) fun d=>C7 Y r fu k a b c p e f g h i j l d) (k a b c d g h i)
def UP:List Nat:=[0,1,4,5,6,7,8,9,10,11,17,18]
def UQ(Y:Nat)(r:RT)(k:(V->M V))(i:V->V->V->V->V->V->V->M V):(V->V->V->V->V->V->V->M V):=fun a b c d e f g=>aq g (ii 1) fun h=>i a b c d e f h
def C8(Y:Nat)(r:RT):Nat->(V->M V)->V->V->V->V->V->V->V->M V|0,_,_,_,_,_,_,_,_=> .fail|fu+1,k,a,b,c,d,e,f,g=>eg g f fun h=>aA h (bM e g fun i=>aQ i fun j=>ai r 220 [a,g] fun i=>C7 Y r Y (UQ Y r k (C8 Y r fu k)) a b c d g j e f g h i (ii 0)) (k d)
def yW:List Nat:=[0,1,4,5,8,9,10]
def UR(Y:Nat)(r:RT):(V->M V):=fun a=>ag [a]
def Jf(Y:Nat)(r:RT)(a b:V):M V:=bx b fun c=>C8 Y r Y (UR Y r) a b (ii 0) (ii 0) b c (ii 0)
theorem US(K:KT):∀fu,C7 Y r fu (fun a b c d e f g=>K (.exit 2) (zp [0,1,4,5,8,9,10] [a,b,c,d,e,
 f,g]))=fun a b c d e f g h i j l m=>aU (cQ 221 (pb 14 3275) Y r) UP fu (zp UP [a,b,c,d,e,f,g,h,i,j,l,m]) K
 |0=>by funext a b c d e f g h i j l m;kernel_rfl
 |fu+1=>by have k:=US K fu;funext a b c d e f g h i j l m;rw[C7];simp only[k];kernel_rfl
theorem afN(K:KT)(h:Nat):UQ Y r (fun a=>K (.exit 0) (zp [5] [a])) (fun a b c d e f g=>aU (cQ 221
 (pb 6 11) Y r) yW h (zp yW [a,b,c,d,e,f,g]) K)=(fun a b c d e f g=>(iK 221 (pb 6 11) (pb 7 51) yW h K Y
 r) (.exit 2) (zp [0,1,4,5,8,9,10] [a,b,c,d,e,f,g])):=by kernel_rfl
theorem UT(K:KT):∀fu,C8 Y r fu (fun a=>K (.exit 0) (zp [5] [a]))=fun a b c d e f g=>aU (cQ 221 (pb
 6 11) Y r) yW fu (zp yW [a,b,c,d,e,f,g]) K
 |0=>by funext a b c d e f g;kernel_rfl
 |fu+1=>by have h:=UT K fu;funext a b c d e f g;rw[C8];simp only[h,afN,US];kernel_rfl
theorem afO:UR Y r=(fun a=>(tK 221 (pb 5 11) Y r) (.exit 0) (zp [5] [a])):=jK
theorem afP:ax aa gt Y r 221 #[a,b]=inside (Jf Y r a b):=by unfold Jf;simp only[afO,UT];kernel_rfl
def C9(Y:Nat)(r:RT):Nat->(V->V->V->V->V->V->V->V->M V)->V->V->V->V->V->V->V->M V|0,_,_,_,_,_,_,_,_=> .fail|fu+1,k,a,b,c,d,e,f,g=>eg g f fun h=>aA h (bM e g fun i=>aQ i fun j=>bO 3 1 g fun i=>bo tB [(0,1,j),(1,1,g),(2,1,i)] fun l=>bO 299 3 l fun m=>bL 299 3 d m fun n=>aq g (ii 1) fun d=>C9 Y r fu k a b c n e f d) (k a b c d e f g h)
def UU:List Nat:=[0,2,3,4,18,19,20]
def Da(Y:Nat)(r:RT):Nat->(V->V->V->V->V->V->V->V->V->V->V->V->V->M V)->V->V->V->V->V->V->V->V->V->V->V->V->V->V->V->V->V->V->V->M V|0,_,_,_,_,_,_,_,_,_,_,_,_,_,_,_,_,_,_,_,_=> .fail|fu+1,k,a,b,c,d,e,f,g,h,i,j,l,m,n,o,p,q,s,t,u=>aX u t (bM s u fun w=>aQ w fun x=>bM e x fun w=>aQ w fun y=>aq y (ii 1) fun z=>bM e x fun A=>aK A z fun _=>aq u (ii 1) fun w=>Da Y r fu k a b c d e f g h i j l m n o p q s t w) (k a b c d e f h j l m n o p)
def UW:List Nat:=[0,2,3,4,7,8,9,10,11,12,13,18,19,20,21,39,66,67,68]
def UX(Y:Nat)(r:RT)(k:(V->M V))(o:V->V->V->V->V->V->V->V->V->V->M V):(V->V->V->V->V->V->V->V->V->V->V->V->V->M V):=fun a b c d e f g h i j l m n=>ak 0 g fun p=>ak 0 h fun s=>aq p s fun t=>bo tB [(0,1,t),(1,1,f),(2,1,i)] fun u=>bO 299 3 u fun v=>bL 299 3 d v fun w=>aq f (ii 1) fun d=>o a b c w e d j l m n
def Db(Y:Nat)(r:RT):Nat->(V->M V)->V->V->V->V->V->V->V->V->V->V->M V|0,_,_,_,_,_,_,_,_,_,_,_=> .fail|fu+1,k,a,b,c,d,e,f,g,h,i,j=>bx d fun l=>iH l (ii 1) fun m=>aA m (ai r 235 [d] fun l=>mh 3 d l fun n=>aT 3 n fun o=>cy 299 tB fun p=>aM 3 p o fun _=>ai r 236 [d,l] fun n=>ai r 235 [n] fun d=>mh 3 n d fun o=>aT 3 o fun q=>cy 299 tB fun s=>aM 3 s q fun _=>ai r 236 [n,d] fun o=>ak 2 p fun q=>bL 3 1 nS q fun t=>ak 2 s fun q=>bL 3 1 t q fun u=>bx u fun n=>Da Y r Y (UX Y r k (Db Y r fu k)) a b c o e f l p d s u g h i j m u n (ii 0)) (k e)
def yX:List Nat:=[0,2,3,4,7,8,18,19,20,21]
def UY(Y:Nat)(r:RT):(V->M V):=fun a=>ag [a]
def Jg(Y:Nat)(r:RT):(V->V->V->V->V->V->V->V->M V):=fun a b c d e f g h=>o4 3 [(ii 0)] c c fun i=>Db Y r Y (UY Y r) a b c d i c e f g h
def Jh(Y:Nat)(r:RT)(a:V):M V:=bx a fun b=>bx a fun c=>C9 Y r Y (Jg Y r) a nS b nS a c (ii 0)
theorem UZ(K:KT):∀fu,C9 Y r fu (fun a b c d e f g h=>K (.exit 0) (zp [0,2,3,4,18,19,20,21] [a,
 b,c,d,e,f,g,h]))=fun a b c d e f g=>aU (cQ 222 (pb 7 23) Y r) UU fu (zp UU [a,b,c,d,e,f,g]) K
 |0=>by funext a b c d e f g;kernel_rfl
 |fu+1=>by have i:=UZ K fu;funext a b c d e f g;rw[C9];simp only[i];kernel_rfl
theorem U0(K:KT):∀fu,Da Y r fu (fun a b c d e f g h i j l m n=>K (.exit 4) (zp [0,2,3,4,7,8,10,
 12,13,18,19,20,21] [a,b,c,d,e,f,g,h,i,j,l,m,n]))=fun a b c d e f g h i j l m n o p q s t u=>aU (cQ 222 (pb 24 3144255) Y r)
 UW fu (zp UW [a,b,c,d,e,f,g,h,i,j,l,m,n,o,p,q,s,t,u]) K
 |0=>by funext a b c d e f g h i j l m n o p q s t u;kernel_rfl
 |fu+1=>by have k:=U0 K fu;funext a b c d e f g h i j l m n o p q s t u;rw[Da];simp only[k];kernel_rfl
theorem afQ(K:KT)(k:Nat):UX Y r (fun a=>K (.exit 2) (zp [7] [a])) (fun a b c d e f g h i j=>aU
 (cQ 222 (pb 9 63) Y r) yX k (zp yX [a,b,c,d,e,f,g,h,i,j]) K)=(fun a b c d e f g h i j l m n=>(iK 222 (pb 9 63) (pb
 14 6141) yX k K Y r) (.exit 4) (zp [0,2,3,4,7,8,10,12,13,18,19,20,21] [a,b,c,d,e,f,g,h,i,j,l,m,n])):=by kernel_rfl
theorem Ji(K:KT):∀fu,Db Y r fu (fun a=>K (.exit 2) (zp [7] [a]))=fun a b c d e f g h i j=>aU
 (cQ 222 (pb 9 63) Y r) yX fu (zp yX [a,b,c,d,e,f,g,h,i,j]) K
 |0=>by funext a b c d e f g h i j;kernel_rfl
 |fu+1=>by have k:=Ji K fu;funext a b c d e f g h i j;rw[Db];simp only[k,afQ,U0];kernel_rfl
theorem U1:UY Y r=(fun a=>(tK 222 (pb 8 63) Y r) (.exit 2) (zp [7] [a])):=jK
theorem afR:Jg Y r=(fun a b c d e f g h=>(tK 222 (pb 6 23) Y r) (.exit 0) (zp [0,2,3,4,18,19,20,21] [a,b,c,d,e,f,g,h])):=by unfold Jg;simp only[U1,Ji];kernel_rfl
theorem afS:ax aa gt Y r 222 #[a]=inside (Jh Y r a):=by unfold Jh;simp only[afR,U1,UZ,Ji];kernel_rfl
def Dc(Y:Nat)(r:RT):Nat->(V->M V)->V->V->V->V->V->V->M V|0,_,_,_,_,_,_,_=> .fail|fu+1,k,a,b,c,d,e,f=>aX f e (bM d f fun h=>aQ h fun i=>eg i (ii 0) fun h=>(fun l=>aA h (l (ii 0)) (l i)) fun i=>jm i (ii 2) fun j=>aq j (ii 1) fun l=>bO 3 1 l fun m=>bL 3 1 c m fun n=>aq f (ii 1) fun c=>Dc Y r fu k a b n d e c) (k c)
def U2:List Nat:=[0,2,3,6,7,8]
def U3(Y:Nat)(r:RT):(V->M V):=fun a=>ag [a]
def Jj(Y:Nat)(r:RT)(a:V):M V:=bx a fun b=>Dc Y r Y (U3 Y r) a nS nS a b (ii 0)
theorem U4(K:KT):∀fu,Dc Y r fu (fun a=>K (.exit 0) (zp [3] [a]))=fun a b c d e f=>aU (cQ 223
 (pb 6 11) Y r) U2 fu (zp U2 [a,b,c,d,e,f]) K
 |0=>by funext a b c d e f;kernel_rfl
 |fu+1=>by have g:=U4 K fu;funext a b c d e f;rw[Dc];simp only[g];kernel_rfl
theorem afT:U3 Y r=(fun a=>(tK 223 (pb 5 11) Y r) (.exit 0) (zp [3] [a])):=jK
theorem afU:ax aa gt Y r 223 #[a]=inside (Jj Y r a):=by unfold Jj;simp only[afT,U4];kernel_rfl
def Jk(Y:Nat)(r:RT)(a b:V):M V:=ai r 98 [b] fun c=>aX c (ii 57) (ag [(ii 3)]) (ai r 188 [b,(ii 32)] fun c=>aV c 0 fun e=>aV c 1 fun f=>ai r 188 [b,(ii 1)] fun c=>aV c 0 fun f=>aV c 1 fun g=>ai r 188 [b,(ii 24)] fun c=>aV c 0 fun g=>aV c 1 fun h=>an a fun c=>ay 2 c fun h=>aK h bT fun _=>an a fun c=>ay 3 c fun h=>aK h e fun _=>dm .i64 g fun c=>an a fun h=>ay 4 h fun i=>aK i c fun _=>bq f (i3 1) (ag [(ii 25)]) (ag [(ii 0)]))
theorem U5:ax aa gt Y r 228 #[a,b]=inside (Jk Y r a b):=jK
def Jl(Y:Nat)(r:RT)(a b:V):M V:=ai r 238 [b] fun c=>aV c 0 fun d=>aV c 1 fun e=>bq e (ii 0) (an a fun f=>ak 1 f fun h=>ai r 239 [d,h] fun i=>an a fun j=>ay 0 j fun l=>aK l i fun _=>ag [e]) (ag [e])
theorem U6:ax aa gt Y r 229 #[a,b]=inside (Jl Y r a b):=jK
def Jm(Y:Nat)(r:RT)(a:V):M V:=lf a nP (an a fun c=>ak 3 c fun e=>eD e (ii 0) (ag [bT]) (an a fun g=>ak 4 g fun i=>iH i (ii 0) fun j=>ag [j])) (ag [bF])
theorem U7:ax aa gt Y r 230 #[a]=inside (Jm Y r a):=jK
def Jn(Y:Nat)(r:RT)(a:V):M V:=an a fun b=>ak 3 b fun d=>iH d (ii 0) fun e=>(fun b=>aA e (an a fun c=>ak 3 c fun f=>cL f (ii 1) fun g=>an a fun h=>ay 3 h fun i=>aK i g fun _=>b (ii 0)) (an a fun c=>ak 4 c fun f=>an a fun c=>ay 4 c fun d=>aK d (ii 0) fun _=>b f)) fun b=>an a fun c=>ak 2 c fun f=>ai r 240 [f,b] fun g=>aV g 0 fun h=>aV g 1 fun i=>ag [h]
theorem U8:ax aa gt Y r 231 #[a]=inside (Jn Y r a):=jK
def Jo(Y:Nat)(r:RT)(a b:V):M V:=an a fun c=>ak 0 c fun e=>an e fun f=>ak 0 f fun h=>ai r 241 [h,b] fun i=>aV i 0 fun j=>aV i 1 fun l=>cb l (ii 0) (ag [l]) (aX j (ii 0) (ag [l]) (an a fun c=>ak 0 c fun f=>ai r 242 [f,j] fun g=>ag [g]))
theorem U9:ax aa gt Y r 232 #[a,b]=inside (Jo Y r a b):=jK
def Dd(Y:Nat)(r:RT)(a:V):M V:=an a fun b=>ak 0 b fun d=>c9 d nP (ag [(ii 0)]) (an a fun f=>ak 0 f fun h=>an h fun i=>ak 0 i fun l=>ai r 243 [l] fun m=>dC m fun n=>aA n (ag [(ii 0)]) (an a fun o=>ak 0 o fun q=>ai r 230 [q] fun s=>aA s (ag [(ii 0)]) (an a fun b=>ak 4 b fun d=>an a fun e=>ak 5 e fun g=>bx g fun h=>gw d h (ag [(ii 23)]) (an a fun b=>ay 6 b fun c=>aK c bT fun _=>ag [(ii 0)]))))
theorem Jp:ax aa gt Y r 233 #[a]=inside (Dd Y r a):=jK
def U'(Y:Nat)(r:RT)(a:V):M V:=eD a (ii 1099511627776) (ag [(ii 1099511627776)]) (ag [a])
theorem afV:ax aa gt Y r 234 #[a]=inside (U' Y r a):=jK
def yY(Y:Nat)(r:RT):Nat->(V->M V)->V->V->V->V->V->V->M V|0,_,_,_,_,_,_,_=> .fail|fu+1,k,a,b,c,d,e,f=>aX f e (mh 3 d f fun h=>aT 3 h fun i=>cy 299 tB fun j=>aM 3 j i fun _=>aT 3 j fun h=>mh 3 a c fun i=>aT 3 i fun l=>ai r 244 [h,l] fun m=>aA m (aq f (ii 1) fun c=>yY Y r fu k a b f d e c) (aq f (ii 1) fun h=>yY Y r fu k a b c d e h)) (k c)
def Va:List Nat:=[0,2,3,6,7,8]
def Vb(Y:Nat)(r:RT):(V->M V):=fun a=>ag [a]
def Jq(Y:Nat)(r:RT)(a:V):M V:=bx a fun b=>yY Y r Y (Vb Y r) a (ii 0) (ii 0) a b (ii 0)
theorem Vc(K:KT):∀fu,yY Y r fu (fun a=>K (.exit 0) (zp [3] [a]))=fun a b c d e f=>aU (cQ 235 (pb
 6 11) Y r) Va fu (zp Va [a,b,c,d,e,f]) K
 |0=>by funext a b c d e f;kernel_rfl
 |fu+1=>by have g:=Vc K fu;funext a b c d e f;rw[yY];simp only[g];kernel_rfl
theorem afW:Vb Y r=(fun a=>(tK 235 (pb 5 11) Y r) (.exit 0) (zp [3] [a])):=jK
theorem afX:ax aa gt Y r 235 #[a]=inside (Jq Y r a):=by unfold Jq;simp only[afW,Vc];kernel_rfl
def yZ(Y:Nat)(r:RT):Nat->(V->M V)->V->V->V->V->V->V->V->M V|0,_,_,_,_,_,_,_,_=> .fail|fu+1,k,a,b,c,d,e,f,g=>aX g f (mh 3 e g fun i=>aT 3 i fun j=>cy 299 tB fun l=>aM 3 l j fun _=>cb g b (aT 3 l fun j=>bO 299 3 j fun m=>bL 299 3 d m fun n=>aq g (ii 1) fun d=>yZ Y r fu k a b c n e f d) (aq g (ii 1) fun j=>yZ Y r fu k a b c d e f j)) (k d)
def Vd:List Nat:=[0,1,4,5,8,9,10]
def Ve(Y:Nat)(r:RT):(V->M V):=fun a=>ag [a]
def Jr(Y:Nat)(r:RT)(a b:V):M V:=bx a fun c=>yZ Y r Y (Ve Y r) a b nS nS a c (ii 0)
theorem Vf(K:KT):∀fu,yZ Y r fu (fun a=>K (.exit 0) (zp [5] [a]))=fun a b c d e f g=>aU (cQ
 236 (pb 6 11) Y r) Vd fu (zp Vd [a,b,c,d,e,f,g]) K
 |0=>by funext a b c d e f g;kernel_rfl
 |fu+1=>by have h:=Vf K fu;funext a b c d e f g;rw[yZ];simp only[h];kernel_rfl
theorem afY:Ve Y r=(fun a=>(tK 236 (pb 5 11) Y r) (.exit 0) (zp [5] [a])):=jK
theorem afZ:ax aa gt Y r 236 #[a,b]=inside (Jr Y r a b):=by unfold Jr;simp only[afY,Vf];kernel_rfl
def Js(Y:Nat)(r:RT)(a:V):M V:=ai r 126 [a] fun b=>ai r 245 [a] fun c=>aV c 0 fun d=>aV c 1 fun e=>cb e (ii 0) (ai r 246 [a,b] fun f=>ag [d,e]) (ag [d,e])
theorem Vg:ax aa gt Y r 238 #[a]=inside (Js Y r a):=jK
def Jt(Y:Nat)(r:RT)(a b:V):M V:=bJ a fun c=>aq c (ii 2) fun d=>ai r 247 [d] fun e=>aV e 0 fun f=>aV e 1 fun g=>bJ a fun c=>ai r 248 [c,b] fun d=>aV d 0 fun e=>aV d 1 fun g=>ai r 249 [a] fun c=>aV c 0 fun d=>aV c 1 fun g=>bo z212 [(0,1,f),(1,1,e),(2,1,d)] fun c=>dP 212 c fun g=>ag [g]
theorem Vh:ax aa gt Y r 239 #[a,b]=inside (Jt Y r a b):=jK
def Ju(Y:Nat)(r:RT)(a b:V):M V:=c9 a nP (ag [(i1 0),(ii 7)]) (aX b (ii 0) (ag [(i1 0),(ii 1)]) (an a fun e=>ak 0 e fun g=>bx g fun h=>gw b h (ag [(i1 0),(ii 1)]) (ai r 250 [a,b] fun d=>ag [d,(ii 0)])))
theorem Vi:ax aa gt Y r 240 #[a,b]=inside (Ju Y r a b):=jK
def Jv(Y:Nat)(r:RT)(a b:V):M V:=c9 a nP (ag [(ii 0),(ii 7)]) (c9 b nP (ag [(ii 0),(ii 7)]) (an a fun e=>ak 6 e fun g=>aA g (ag [(ii 0),(ii 7)]) (an a fun c=>ak 7 c fun e=>cb e (ii 0) (an a fun c=>ak 7 c fun e=>ag [(ii 0),e]) (an a fun c=>ak 1 c fun e=>ai r 252 [e] fun h=>dC h fun i=>(fun c=>aA i (c (Ar (As 253) #[a] #[])) (an a fun d=>ay 4 d fun e=>(az (aQ e M.ret)).bind fun h=>bx h.1 fun j=>an a fun l=>ay 1 l fun m=>(az (aQ m M.ret)).bind fun n=>(az (ai r 254 [n.1] M.ret)).bind fun o=>eg j o.1 fun p=>dD ((!(cz h.2 o.2)&&true)&&true) (aA p (c (Ar (As 255) #[a] #[])) (c (Ar (As 251) #[a] #[]))))) fun c=>ku aa r c [b] fun d=>aV d 0 fun e=>aV d 1 fun h=>bq h (ii 0) (ag [e,h]) (cb h (ii 3) (an a fun l=>ay 7 l fun m=>aK m h fun _=>ag [(ii 0),h]) (ag [(ii 0),h]))))))
theorem Vj:ax aa gt Y r 241 #[a,b]=inside (Jv Y r a b):=jK
def Jw(Y:Nat)(r:RT)(a b:V):M V:=an a fun c=>ak 1 c fun e=>ai r 256 [e,b] fun f=>aV f 0 fun g=>aV f 1 fun h=>aV f 2 fun i=>cb i (ii 0) (ag [(ii 25)]) (an a fun d=>ay 3 d fun e=>aK e g fun _=>o0 h (ii 0) fun d=>an a fun e=>ay 4 e fun f=>aK f d fun _=>ag [(ii 0)])
theorem Vk:ax aa gt Y r 242 #[a,b]=inside (Jw Y r a b):=jK
def Jx(Y:Nat)(r:RT)(a:V):M V:=lf a nP (an a fun c=>ak 6 c fun e=>ag [e]) (ag [bF])
theorem Vl:ax aa gt Y r 243 #[a]=inside (Jx Y r a):=jK
def Vm(Y:Nat)(r:RT)(a b:V):M V:=dP 299 a fun c=>dP 299 b fun d=>ak 0 c fun f=>ak 0 d fun h=>aX f h (ag [bT]) (ak 0 c fun l=>ak 0 d fun n=>bq l n (ak 1 c fun q=>ak 1 d fun t=>eg q t fun u=>ag [u]) (ag [bF]))
theorem af0:ax aa gt Y r 244 #[a,b]=inside (Vm Y r a b):=jK
def ui(Y:Nat)(r:RT):Nat->(V->V->V->V->V->V->V->V->V->V->M V)->V->V->V->V->V->V->V->V->V->V->V->V->V->V->V->V->V->V->M V|0,_,_,_,_,_,_,_,_,_,_,_,_,_,_,_,_,_,_,_=> .fail|fu+1,k,a,b,c,d,e,f,g,h,i,j,l,m,n,o,p,q,s,t=>aX t s (bM q t fun v=>aQ v fun w=>dK (ii 16) g fun v=>aq v w fun x=>gG 256 f x fun y=>aK y bT fun _=>aq t (ii 1) fun v=>ui Y r fu k a b c d e f g h i j l m n o p q s v) (k a b c d e f j l m n)
def Vn:List Nat:=[0,2,3,4,5,6,8,9,10,20,23,24,25,26,35,38,39,40]
def De(Y:Nat)(r:RT)(k:(V->M V)×(V->V->M V))(m:V->V->V->V->V->V->V->V->V->V->M V):(V->V->V->V->V->V->V->V->V->V->M V):=fun a b c d e f g h i j=>aq j (ii 1) fun l=>m a b c d e f g h i l
def rR(Y:Nat)(r:RT):Nat->((V->M V)×(V->V->M V))->V->V->V->V->V->V->V->V->V->V->M V|0,_,_,_,_,_,_,_,_,_,_,_=> .fail|fu+1,k,a,b,c,d,e,f,g,h,i,j=>eg j i fun l=>aA l (bM h j fun m=>aQ m fun n=>ai r 188 [a,(ii 16)] fun m=>aV m 0 fun o=>aV m 1 fun p=>fA p (ii 0) fun m=>aA m (k.2 (aO {data:=#[]}) p) (ai r 257 [o] fun q=>bx q fun s=>ui Y r Y (De Y r k (rR Y r fu k)) a b c d e f n o p g h i j l m q s (ii 0))) (k.1 f)
def za:List Nat:=[0,2,3,4,5,6,20,23,24,25]
abbrev Vo(Y:Nat)(r:RT)(a:Nat)(k:(V->M V)×(V->V->M V)):(V->V->V->V->V->V->V->V->V->V->M V):=De Y r k (rR Y r a k)
def wg(Y:Nat)(r:RT):(V->M V)×(V->V->M V):=(fun a=>aT 256 a fun b=>ai r 258 [b] fun c=>bq c (aO {data:=#[]}) (ag [(aO {data:=#[]}),(ii 25)]) (ag [c,(ii 0)]),fun a b=>ag [a,b])
def Df(Y:Nat)(r:RT)(a:V):M V:=ai r 188 [a,(ii 16)] fun b=>aV b 0 fun c=>aV b 1 fun d=>fA d (ii 0) fun b=>aA b (ag [(aO {data:=#[]}),d]) (cy 321 O5 fun e=>ai r 257 [c] fun f=>bx f fun g=>rR Y r Y (wg Y r) a (aO {data:=#[]}) (ii 0) c d e b f g (ii 0))
theorem Vp(K:KT):∀fu,ui Y r fu (fun a b c d e f g h i j=>K (.exit 2) (zp [0,2,3,4,5,6,20,23,24,25] [a,b,c,
 d,e,f,g,h,i,j]))=fun a b c d e f g h i j l m n o p q s t=>aU (cQ 245 (pb 18 62255) Y r) Vn fu (zp Vn [a,b,c,d,e,f,g,h,i,j,l,m,n,o,p,q,s,t]) K
 |0=>by funext a b c d e f g h i j l m n o p q s t;kernel_rfl
 |fu+1=>by have k:=Vp K fu;funext a b c d e f g h i j l m n o p q s t;rw[ui];simp only[k];kernel_rfl
theorem af1(K:KT)(k:Nat):De Y r ((fun a=>K (.exit 0) (zp [6] [a]),fun a b=>K .ret (zp [2,3] [a,b]))) (fun a b c
 d e f g h i j=>aU (cQ 245 (pb 8 47) Y r) za k (zp za [a,b,c,d,e,f,g,h,i,j]) K)=(fun a b c d e f g h i j=>(iK 245 (pb 8 47) (pb
 9 243) za k K Y r) (.exit 2) (zp [0,2,3,4,5,6,20,23,24,25] [a,b,c,d,e,f,g,h,i,j])):=by kernel_rfl
theorem Vq(K:KT):∀fu,rR Y r fu ((fun a=>K (.exit 0) (zp [6] [a]),fun a b=>K .ret (zp [2,3] [a,b])))=fun a b c
 d e f g h i j=>aU (cQ 245 (pb 8 47) Y r) za fu (zp za [a,b,c,d,e,f,g,h,i,j]) K
 |0=>by funext a b c d e f g h i j;kernel_rfl
 |fu+1=>by have k:=Vq K fu;funext a b c d e f g h i j;rw[rR];simp only[k,af1,Vp];kernel_rfl
theorem af2:wg Y r=((fun a=>(tK 245 (pb 7 47) Y r) (.exit 0) (zp [6] [a]),fun a b=>(tK 245 (pb 7 47) Y r) .ret (zp [2,3] [a,b]))):=jK
theorem Vr:ax aa gt Y r 245 #[a]=inside (Df Y r a):=by unfold Df;simp only[af2,Vq];kernel_rfl
def Jy(Y:Nat)(r:RT)(a b:V):M V:=c9 a nP (ag [(ii 7)]) (an a fun d=>ak 1 d fun f=>dK (ii 8) f fun g=>aX b g (ag [(ii 1)]) (ai r 122 [a] fun i=>eD b i (ag [(ii 1)]) (an a fun d=>ay 2 d fun e=>aK e b fun _=>ag [(ii 0)])))
theorem Vs:ax aa gt Y r 246 #[a,b]=inside (Jy Y r a b):=jK
def Jz(Y:Nat)(r:RT)(a:V):M V:=ai r 259 [a] fun b=>aV b 0 fun c=>aV b 1 fun d=>cb d (ii 0) (ag [nP,d]) (ai r 260 [] fun e=>bo O1 [(0,1,a),(1,1,e),(3,1,c)] fun f=>dP 252 f fun g=>ag [g,(ii 0)])
theorem Vt:ax aa gt Y r 247 #[a]=inside (Jz Y r a):=jK
def JA(Y:Nat)(r:RT)(a b:V):M V:=ai r 261 [a] fun c=>dC c fun d=>aA d (ag [nP,(ii 1)]) (aX b (ii 0) (ag [nP,(ii 1)]) (eD b (ii 1099511627776) (ag [nP,(ii 1)]) (bo O6 [(0,1,a),(1,1,b),(4,1,(ii 1))] fun c=>dP 328 c fun d=>ag [d,(ii 0)])))
theorem Vu:ax aa gt Y r 248 #[a,b]=inside (JA Y r a b):=jK
def JB(Y:Nat)(r:RT)(a:V):M V:=ai r 262 [a] fun b=>dC b fun c=>aA c (ag [nP,(ii 1)]) (vA 5 a fun b=>bo O4 [(0,1,b)] fun d=>dP 317 d fun e=>ag [e,(ii 0)])
theorem Vv:ax aa gt Y r 249 #[a]=inside (JB Y r a):=jK
def JC(Y:Nat)(r:RT)(a b:V):M V:=an a fun c=>ak 0 c fun e=>bM e b fun f=>aQ f fun g=>an a fun c=>ak 0 c fun e=>aq b (ii 1) fun f=>nF 5 1 e (some (ii 1)) (some f) fun h=>an a fun i=>ak 0 i fun l=>nF 5 1 l none (some b) fun m=>Bp 1 h m fun n=>an a fun c=>ak 0 c fun e=>bM e (ii 0) fun f=>aK f g fun _=>ag [g]
theorem Vw:ax aa gt Y r 250 #[a,b]=inside (JC Y r a b):=jK
def JD(Y:Nat)(r:RT)(a b:V):M V:=an a fun c=>ak 5 c fun e=>jm e (ii 50) fun f=>an a fun c=>ak 2 c fun e=>bx e fun g=>gw f g (ag [(ii (-1)),(ii 25)]) (an a fun c=>ak 4 c fun e=>an a fun g=>ak 2 g fun j=>bM j f fun l=>aQ l fun m=>bM e m fun n=>aQ n fun o=>ai r 263 [o,b] fun p=>aV p 0 fun q=>aV p 1 fun s=>cb s (ii 0) (ag [(ii (-1)),s]) (an a fun d=>ak 5 d fun g=>aq g (ii 1) fun i=>an a fun j=>ay 5 j fun l=>aK l i fun _=>an a fun d=>ak 0 d fun g=>cL g (ii 1) fun i=>cD q i fun j=>an a fun l=>ay 6 l fun m=>aK m j fun _=>ag [q,(ii 0)]))
theorem Vx:ax aa gt Y r 251 #[a,b]=inside (JD Y r a b):=jK
def JE(Y:Nat)(r:RT)(a:V):M V:=lf a nP (an a fun c=>ak 1 c fun e=>eD e (ii 0) (an a fun g=>ak 8 g fun i=>bx i fun j=>an a fun l=>ak 1 l fun n=>cD j n fun o=>ag [o]) (ag [bF])) (ag [bF])
theorem Vy:ax aa gt Y r 252 #[a]=inside (JE Y r a):=jK
def JF(Y:Nat)(r:RT)(a b:V):M V:=an a fun c=>ak 1 c fun e=>ai r 264 [e,b] fun f=>an a fun c=>ak 1 c fun e=>ai r 252 [e] fun g=>aA g (an a fun c=>ak 1 c fun e=>ai r 180 [e] fun h=>an a fun i=>ay 2 i fun j=>aK j h fun _=>ag [(ii (-1)),f]) (ag [(ii (-1)),f])
theorem Vz:ax aa gt Y r 253 #[a,b]=inside (JF Y r a b):=jK
def JG(Y:Nat)(r:RT)(a:V):M V:=c9 a nP (ag [(ii 0)]) (an a fun c=>ak 0 c fun e=>ag [e])
theorem VA:ax aa gt Y r 254 #[a]=inside (JG Y r a):=jK
def JH(Y:Nat)(r:RT)(a b:V):M V:=an a fun c=>ak 3 c fun e=>ai r 265 [e,b] fun f=>cb f (ii 0) (ag [(ii (-1)),f]) (an a fun d=>ak 3 d fun g=>ai r 266 [g] fun h=>dC h fun i=>aA i (ag [(ii (-1)),f]) (an a fun c=>ak 3 c fun e=>ai r 268 [e] fun g=>ai r 267 [g] fun h=>aV h 0 fun j=>aV h 1 fun l=>cb l (ii 0) (ag [(ii (-1)),l]) (an a fun d=>ak 4 d fun g=>bO 329 1 j fun h=>bL 329 1 g h fun m=>an a fun n=>ay 4 n fun o=>aK o m fun _=>an a fun d=>ak 0 d fun g=>ai r 259 [g] fun h=>aV h 0 fun m=>aV h 1 fun n=>an a fun d=>ay 3 d fun e=>aK e m fun _=>ag [(ii (-1)),(ii 0)])))
theorem VB:ax aa gt Y r 255 #[a,b]=inside (JH Y r a b):=jK
def JI(Y:Nat)(r:RT)(a b:V):M V:=c9 a nP (ag [(ii 0),(ii 0),(ii 7)]) (an a fun d=>ak 5 d fun f=>aA f (ag [(ii 0),(ii 0),(ii 7)]) (aX b (ii 0) (ag [(ii 0),(ii 0),(ii 25)]) (an a fun d=>ak 0 d fun g=>aq g (ii 1) fun h=>eD b h (ag [(ii 0),(ii 0),(ii 25)]) (vK b (ii 1) (ai r 269 [a,b] fun d=>cb d (ii 0) (ag [(ii 0),(ii 0),d]) (ag [(ii 0),(ii (-1)),(ii 0)])) (cL b (ii 1) fun d=>an a fun e=>ak 0 e fun h=>aq h (ii 1) fun j=>cD b j fun l=>(fun e=>aA l (an a fun g=>ay 5 g fun h=>aK h bT fun _=>e (ii (-1))) ((az (ai r 270 [a] M.ret)).bind fun g=>an a fun h=>ay 1 h fun j=>(az (aQ j M.ret)).bind fun m=>cD g.1 m.1 fun n=>dD ((!(cz g.2 m.2)&&true)&&true) (aA n (ag [(ii 0),(ii 0),(ii 2)]) (an a fun g=>ak 2 g fun j=>aq j (ii 1) fun m=>an a fun o=>ay 2 o fun p=>aK p m fun _=>e d)))) fun d=>an a fun e=>ak 3 e fun h=>an a fun e=>ak 2 e fun j=>aq j h fun m=>an a fun n=>ay 2 n fun o=>aK o m fun _=>an a fun e=>ay 3 e fun g=>aK g (ii 0) fun _=>an a fun e=>ay 4 e fun g=>aK g (ii 1) fun _=>ag [h,d,(ii 0)])))))
theorem VC:ax aa gt Y r 256 #[a,b]=inside (JI Y r a b):=jK
def rS(Y:Nat)(r:RT):Nat->(V->M V)->V->V->V->V->M V|0,_,_,_,_,_=> .fail|fu+1,k,a,b,c,d=>aX d (ii 16) (cL (ii 15) d fun f=>oZ a f fun g=>xN g (i3 1) fun h=>bq h (i3 1) (bO 3 1 d fun f=>bL 3 1 c f fun g=>aq d (ii 1) fun c=>rS Y r fu k a b g c) (aq d (ii 1) fun f=>rS Y r fu k a b c f)) (k c)
def VD:List Nat:=[0,2,3,5]
def Dg(Y:Nat)(r:RT):(V->M V):=fun a=>ag [a]
def Dh(Y:Nat)(r:RT)(a:V):M V:=rS Y r Y (Dg Y r) a nS nS (ii 0)
theorem VE(K:KT):∀fu,rS Y r fu (fun a=>K (.exit 0) (zp [3] [a]))=fun a b c d=>aU (cQ 257 (pb 6 11) Y r)
 VD fu (zp VD [a,b,c,d]) K
 |0=>by funext a b c d;kernel_rfl
 |fu+1=>by have e:=VE K fu;funext a b c d;rw[rS];simp only[e];kernel_rfl
theorem af3:Dg Y r=(fun a=>(tK 257 (pb 5 11) Y r) (.exit 0) (zp [3] [a])):=jK
theorem VF:ax aa gt Y r 257 #[a]=inside (Dh Y r a):=by unfold Dh;simp only[af3,VE];kernel_rfl
def qv(Y:Nat)(r:RT):Nat->(V->M V)->V->V->V->V->V->V->M V|0,_,_,_,_,_,_,_=> .fail|fu+1,k,a,b,c,d,e,f=>aX f (ii 256) (vx 256 e f fun h=>aA h (dm .u8 f fun i=>bO 5 1 i fun j=>bL 5 1 d j fun l=>aq f (ii 1) fun d=>qv Y r fu k a b c l e d) (aq f (ii 1) fun i=>qv Y r fu k a b c d e i)) (k d)
def VG:List Nat:=[0,1,2,3,6,7]
def zb(Y:Nat)(r:RT):(V->M V):=fun a=>iI a fun b=>ag [b]
def Di(Y:Nat)(r:RT)(a:V):M V:=dP 321 a fun b=>aT 256 b fun c=>qv Y r Y (zb Y r) a b (aO {data:=#[]}) nS c (ii 0)
theorem VH(K:KT):∀fu,qv Y r fu (fun a=>K (.exit 0) (zp [3] [a]))=fun a b c d e f=>aU (cQ 258 (pb 6 11) Y
 r) VG fu (zp VG [a,b,c,d,e,f]) K
 |0=>by funext a b c d e f;kernel_rfl
 |fu+1=>by have g:=VH K fu;funext a b c d e f;rw[qv];simp only[g];kernel_rfl
theorem af4:zb Y r=(fun a=>(tK 258 (pb 5 11) Y r) (.exit 0) (zp [3] [a])):=jK
theorem VI:ax aa gt Y r 258 #[a]=inside (Di Y r a):=by unfold Di;simp only[af4,VH];kernel_rfl
def JJ(Y:Nat)(r:RT)(a:V):M V:=ai r 271 [a] fun b=>dC b fun c=>aA c (ag [nP,(ii 1)]) (bo O7 [(0,1,a)] fun b=>dP 333 b fun d=>ag [d,(ii 0)])
theorem VJ:ax aa gt Y r 259 #[a]=inside (JJ Y r a):=jK
def JK(Y:Nat)(r:RT):M V:=ai r 272 [] fun a=>bo G9 [(2,6,a)] fun b=>dP 282 b fun c=>ag [c]
theorem VK:ax aa gt Y r 260 #[]=inside (JK Y r):=jK
def JL(Y:Nat)(r:RT)(a:V):M V:=gw a (ii 1) (mf a (ii 256) fun c=>ag [c]) (ag [bF])
theorem VL:ax aa gt Y r 261 #[a]=inside (JL Y r a):=jK
def rT(Y:Nat)(r:RT):Nat->((V->M V)×(V->M V))->V->V->V->V->M V|0,_,_,_,_,_=> .fail|fu+1,k,a,b,c,d=>aX d c (eD d (ii 0) (cP a d fun g=>cL d (ii 1) fun h=>cP a h fun i=>vK g i (k.2 bF) (aq d (ii 1) fun f=>rT Y r fu k a b c f)) (aq d (ii 1) fun f=>rT Y r fu k a b c f)) (k.1 a)
def VM:List Nat:=[0,2,5,6]
def Dj(Y:Nat)(r:RT):(V->M V)×(V->M V):=(fun a=>fA a (aO {data:=#[]}) fun b=>ag [b],fun a=>ag [a])
def Dk(Y:Nat)(r:RT)(a:V):M V:=bJ a fun b=>rT Y r Y (Dj Y r) a bF b (ii 0)
theorem VN(K:KT):∀fu,rT Y r fu ((fun a=>K (.exit 0) (zp [0] [a]),fun a=>K .ret (zp [2] [a])))=fun a b c d=>aU
 (cQ 262 (pb 5 5) Y r) VM fu (zp VM [a,b,c,d]) K
 |0=>by funext a b c d;kernel_rfl
 |fu+1=>by have e:=VN K fu;funext a b c d;rw[rT];simp only[e];kernel_rfl
theorem af5:Dj Y r=((fun a=>(tK 262 (pb 4 5) Y r) (.exit 0) (zp [0] [a]),fun a=>(tK 262 (pb 4 5) Y r) .ret (zp [2] [a]))):=jK
theorem VO:ax aa gt Y r 262 #[a]=inside (Dk Y r a):=by unfold Dk;simp only[af5,VN];kernel_rfl
def JM(Y:Nat)(r:RT)(a b:V):M V:=c9 a nP (ag [(ii 0),(ii 7)]) (c9 b nP (ag [(ii 0),(ii 7)]) (ai r 126 [b] fun c=>ai r 273 [a,b] fun e=>aV e 0 fun f=>aV e 1 fun g=>cb g (ii 0) (ai r 246 [b,c] fun h=>ag [f,g]) (ag [f,g])))
theorem VP:ax aa gt Y r 263 #[a,b]=inside (JM Y r a b):=jK
def JN(Y:Nat)(r:RT)(a b:V):M V:=c9 a nP (ag [(ii 7)]) (c9 b nP (ag [(ii 7)]) (ai r 252 [a] fun e=>aA e (ag [(ii 7)]) (an a fun c=>ak 9 c fun f=>aA f (ag [(ii 25)]) (ai r 126 [b] fun c=>an a fun d=>ak 1 d fun h=>cD h (ii 0) fun i=>(fun d=>aA i (d (Ar (As 275) #[a] #[])) (d (Ar (As 274) #[a] #[]))) fun d=>ku aa r d [b] fun g=>bq g (ii 3) (ai r 246 [b,c] fun j=>ag [g]) (ag [g])))))
theorem VQ:ax aa gt Y r 264 #[a,b]=inside (JN Y r a b):=jK
def JO(Y:Nat)(r:RT)(a b:V):M V:=c9 a nP (ag [(ii 7)]) (c9 b nP (ag [(ii 7)]) (ai r 266 [a] fun e=>aA e (ag [(ii 7)]) (an a fun c=>ak 3 c fun f=>aA f (ag [(ii 22)]) (ai r 126 [b] fun c=>ai r 276 [a,b] fun d=>bq d (ii 3) (ai r 246 [b,c] fun h=>ag [d]) (ag [d])))))
theorem VS:ax aa gt Y r 265 #[a,b]=inside (JO Y r a b):=jK
def JP(Y:Nat)(r:RT)(a:V):M V:=lf a nP (an a fun c=>ak 2 c fun e=>bx e fun f=>an a fun g=>ak 0 g fun i=>cD f i fun j=>ag [j]) (ag [bF])
theorem VT:ax aa gt Y r 266 #[a]=inside (JP Y r a):=jK
def rU(Y:Nat)(r:RT):Nat->(V->V->V->V->V->V->V->V->M V)->V->V->V->V->V->V->V->V->V->V->V->V->M V|0,_,_,_,_,_,_,_,_,_,_,_,_,_=> .fail|fu+1,k,a,b,c,d,e,f,g,h,i,j,l,m=>aX m l (bM j m fun o=>aQ o fun p=>bq p f (an d fun q=>ak 1 q fun t=>dm .u32 e fun u=>bM t m fun v=>aK v u fun _=>an d fun q=>ak 2 q fun t=>bO 3 1 m fun u=>bL 3 1 t u fun v=>an d fun w=>ay 2 w fun x=>aK x v fun _=>aq e (ii 1) fun q=>aq m (ii 1) fun e=>rU Y r fu k a b c d q f g h i j l e) (aq m (ii 1) fun q=>rU Y r fu k a b c d e f g h i j l q)) (k a b c d e f g h)
def VU:List Nat:=[0,2,3,4,5,6,9,18,30,51,52,53]
def Dl(Y:Nat)(r:RT)(k:(V->M V))(j:V->V->V->V->V->V->V->V->M V):(V->V->V->V->V->V->V->V->M V):=fun a b c d e f g h=>aq f (ii 1) fun i=>j a b c d e i g h
def rW(Y:Nat)(r:RT):Nat->(V->M V)->V->V->V->V->V->V->V->V->M V|0,_,_,_,_,_,_,_,_,_=> .fail|fu+1,k,a,b,c,d,e,f,g,h=>mf f (ii 20) fun i=>aA i (dK e (ii 2) fun j=>an d fun e=>ay 3 e fun l=>gG 21 l f fun m=>aK m j fun _=>an d fun e=>ak 2 e fun m=>bx m fun n=>an d fun o=>ay 24 o fun p=>gG 22 p f fun q=>aK q n fun _=>bx a fun e=>rU Y r Y (Dl Y r k (rW Y r fu k)) a b c d j f g h i a e (ii 0)) (k d)
def zc:List Nat:=[0,2,3,4,5,6,9,18]
abbrev VV(Y:Nat)(r:RT)(a:Nat)(k:(V->M V)):(V->V->V->V->V->V->V->V->M V):=Dl Y r k (rW Y r a k)
def zf(Y:Nat)(r:RT):(V->M V):=fun a=>an a fun b=>ak 2 b fun d=>bx d fun e=>an a fun f=>ay 24 f fun g=>gG 22 g (ii 21) fun h=>aK h e fun _=>ag [a,(ii 0)]
def zg(Y:Nat)(r:RT)(a:V):M V:=bx a fun b=>aX b (ii 3) (ag [nP,(ii 1)]) (bx a fun d=>iH d (ii 258) fun e=>aA e (ag [nP,(ii 1)]) (ai r 277 [a] fun b=>dC b fun c=>aA c (ag [nP,(ii 22)]) ((az (ai r 208 [a] M.ret)).bind fun b=>bx a fun d=>(az (o4 31 [(i3 0)] d d M.ret)).bind fun f=>bo G' [(0,1,b.1),(1,1,f.1)] fun g=>(az (dP 338 g M.ret)).bind fun h=>dD ((!(cz b.2 f.2)&&true)&&true) (rW Y r Y (zf Y r) a nP (ii 0) h.1 (ii 0) (ii 1) e c))))
theorem VW(K:KT):∀fu,rU Y r fu (fun a b c d e f g h=>K (.exit 3) (zp [0,2,3,4,5,6,9,18] [a,b,c,d,e,f,g,
 h]))=fun a b c d e f g h i j l m=>aU (cQ 267 (pb 17 31023) Y r) VU fu (zp VU [a,b,c,d,e,f,g,h,i,j,l,m]) K
 |0=>by funext a b c d e f g h i j l m;kernel_rfl
 |fu+1=>by have k:=VW K fu;funext a b c d e f g h i j l m;rw[rU];simp only[k];kernel_rfl
theorem af6(K:KT)(i:Nat):Dl Y r (fun a=>K (.exit 1) (zp [4] [a])) (fun a b c d e f g h=>aU (cQ 267 (pb 8 47) Y
 r) zc i (zp zc [a,b,c,d,e,f,g,h]) K)=(fun a b c d e f g h=>(iK 267 (pb 8 47) (pb 8 121) zc i K Y r) (.exit 3) (zp [0,2,3,
 4,5,6,9,18] [a,b,c,d,e,f,g,h])):=by kernel_rfl
theorem VX(K:KT):∀fu,rW Y r fu (fun a=>K (.exit 1) (zp [4] [a]))=fun a b c d e f g h=>aU (cQ 267 (pb 8 47) Y
 r) zc fu (zp zc [a,b,c,d,e,f,g,h]) K
 |0=>by funext a b c d e f g h;kernel_rfl
 |fu+1=>by have i:=VX K fu;funext a b c d e f g h;rw[rW];simp only[i,af6,VW];kernel_rfl
theorem af7:zf Y r=(fun a=>(tK 267 (pb 7 47) Y r) (.exit 1) (zp [4] [a])):=jK
theorem JQ:ax aa gt Y r 267 #[a]=inside (zg Y r a):=by unfold zg;simp only[af7,VX];kernel_rfl
def JR(Y:Nat)(r:RT)(a:V):M V:=c9 a nP (ag [nS]) (an a fun c=>ak 2 c fun e=>ai r 208 [e] fun f=>ag [f])
theorem VY:ax aa gt Y r 268 #[a]=inside (JR Y r a):=jK
def JS(Y:Nat)(r:RT)(a b:V):M V:=an a fun c=>ak 4 c fun e=>mg e b fun f=>an a fun c=>ay 1 c fun d=>(az (aQ d M.ret)).bind fun e=>(az (ai r 270 [a] M.ret)).bind fun g=>cL e.1 g.1 fun h=>iH f h fun i=>dD ((!(cz e.2 g.2)&&true)&&true) (aA i (ag [(ii 2)]) (an a fun c=>ak 3 c fun e=>aq e f fun g=>an a fun h=>ay 3 h fun j=>aK j g fun _=>an a fun c=>ak 4 c fun e=>dK e (ii 2) fun g=>an a fun h=>ay 4 h fun j=>aK j g fun _=>ag [(ii 0)]))
theorem VZ:ax aa gt Y r 269 #[a,b]=inside (JS Y r a b):=jK
def JT(Y:Nat)(r:RT)(a:V):M V:=c9 a nP (ag [(ii 0)]) (an a fun c=>ak 2 c fun e=>an a fun f=>ak 3 f fun h=>aq e h fun i=>ag [i])
theorem V0:ax aa gt Y r 270 #[a]=inside (JT Y r a):=jK
def JU(Y:Nat)(r:RT)(a:V):M V:=gw a (ii 3) (mf a (ii 258) fun c=>ag [c]) (ag [bF])
theorem V1:ax aa gt Y r 271 #[a]=inside (JU Y r a):=jK
def wj(Y:Nat)(r:RT):Nat->(V->V->M V)->V->V->V->M V|0,_,_,_,_=> .fail|fu+1,k,a,b,c=>aX c (ii 6) (gG 6 b c fun e=>aK e c fun _=>aq c (ii 1) fun e=>wj Y r fu k a b e) (k a b)
def V2:List Nat:=[0,1,3]
def Dm(Y:Nat)(r:RT):(V->V->M V):=fun a b=>aT 6 b fun c=>aM 6 a c fun _=>aT 6 a fun b=>ag [b]
def Dp(Y:Nat)(r:RT):M V:=cy 280 G8 fun a=>cy 280 G8 fun b=>wj Y r Y (Dm Y r) a b (ii 0)
theorem V3(K:KT):∀fu,wj Y r fu (fun a b=>K (.exit 0) (zp [0,1] [a,b]))=fun a b c=>aU (cQ 272 (pb 6 11)
 Y r) V2 fu (zp V2 [a,b,c]) K
 |0=>by funext a b c;kernel_rfl
 |fu+1=>by have d:=V3 K fu;funext a b c;rw[wj];simp only[d];kernel_rfl
theorem af8:Dm Y r=(fun a b=>(tK 272 (pb 5 11) Y r) (.exit 0) (zp [0,1] [a,b])):=jK
theorem V4:ax aa gt Y r 272 #[]=inside (Dp Y r):=by unfold Dp;simp only[af8,V3];kernel_rfl
def wk(Y:Nat)(r:RT):Nat->((M V)×(V->V->M V))->V->V->V->V->V->V->M V|0,_,_,_,_,_,_,_=> .fail|fu+1,k,a,b,c,d,e,f=>vK f (ii 20) (ai r 188 [b,(ii 1)] fun h=>aV h 0 fun i=>aV h 1 fun j=>cb j (ii 0) (k.2 (ii 0) j) (dK (ii 2) e fun l=>dm .i64 i fun m=>aq l m fun n=>an a fun e=>ay 24 e fun l=>gG 22 l f fun m=>aQ m fun o=>aq o n fun p=>an a fun q=>ay 3 q fun s=>gG 21 s f fun t=>aQ t fun u=>cL p u fun v=>aq f (ii 1) fun e=>an a fun l=>ay 24 l fun m=>gG 22 m e fun o=>aQ o fun p=>aX v p (an a fun e=>ak 2 e fun m=>bM m v fun o=>aQ o fun p=>k.2 p (ii 0)) (aq f (ii 1) fun e=>wk Y r fu k a b c d n e))) (k.1)
def V5:List Nat:=[0,1,4,5,6,7]
def zh(Y:Nat)(r:RT):(M V)×(V->V->M V):=(ag [(ii 0),(ii 22)],fun a b=>ag [a,b])
def Dq(Y:Nat)(r:RT)(a b:V):M V:=wk Y r Y (zh Y r) a b (ii 0) (ii 0) (ii 0) (ii 1)
theorem V6(K:KT):∀fu,wk Y r fu ((K (.exit 0) [],fun a b=>K .ret (zp [4,5] [a,b])))=fun a b c d e f=>
 aU (cQ 273 (pb 6 11) Y r) V5 fu (zp V5 [a,b,c,d,e,f]) K
 |0=>by funext a b c d e f;kernel_rfl
 |fu+1=>by have g:=V6 K fu;funext a b c d e f;rw[wk];simp only[g];kernel_rfl
theorem af9:zh Y r=(((tK 273 (pb 5 11) Y r) (.exit 0) [],fun a b=>(tK 273 (pb 5 11) Y r) .ret (zp [4,5] [a,b]))):=jK
theorem V7:ax aa gt Y r 273 #[a,b]=inside (Dq Y r a b):=by unfold Dq;simp only[af9,V6];kernel_rfl
def uj(Y:Nat)(r:RT):Nat->((V->M V)×(V->M V))->V->V->V->V->V->M V|0,_,_,_,_,_,_=> .fail|fu+1,k,a,b,c,d,e=>aX e d (ai r 188 [b,(ii 1)] fun g=>aV g 0 fun h=>aV g 1 fun i=>cb i (ii 0) (k.2 i) (bq h (i3 0) (an a fun l=>ay 8 l fun m=>(az (aQ m M.ret)).bind fun n=>an a fun o=>ay 2 o fun p=>(az (ai r 278 [p,e] M.ret)).bind fun q=>(az (bO 3 1 q.1 M.ret)).bind fun s=>(az (bL 3 1 n.1 s.1 M.ret)).bind fun t=>an a fun u=>ay 8 u fun v=>(az (aK v t.1 M.ret)).bind fun w=>dD ((!(cz n.2 q.2)&&true)&&true) (k.2 (ii 0))) (aq e (ii 1) fun l=>uj Y r fu k a b c d l))) (k.1 a)
def V8:List Nat:=[0,1,4,11,12]
def wo(Y:Nat)(r:RT):(V->M V)×(V->M V):=(fun a=>ai r 279 [a] fun b=>ag [b],fun a=>ag [a])
def Dr(Y:Nat)(r:RT)(a b:V):M V:=an a fun c=>ak 0 c fun e=>uj Y r Y (wo Y r) a b (ii 0) e (ii 0)
theorem V9(K:KT):∀fu,uj Y r fu ((fun a=>K (.exit 0) (zp [0] [a]),fun a=>K .ret (zp [4] [a])))=
 fun a b c d e=>aU (cQ 274 (pb 5 5) Y r) V8 fu (zp V8 [a,b,c,d,e]) K
 |0=>by funext a b c d e;kernel_rfl
 |fu+1=>by have f:=V9 K fu;funext a b c d e;rw[uj];simp only[f];kernel_rfl
theorem af':wo Y r=((fun a=>(tK 274 (pb 4 5) Y r) (.exit 0) (zp [0] [a]),fun a=>(tK 274 (pb 4 5) Y r) .ret (zp [4] [a]))):=jK
theorem V':ax aa gt Y r 274 #[a,b]=inside (Dr Y r a b):=by unfold Dr;simp only[af',V9];kernel_rfl
def JV(Y:Nat)(r:RT)(a b:V):M V:=ai r 188 [b,(ii 18)] fun c=>aV c 0 fun d=>aV c 1 fun e=>cb e (ii 0) (ag [e]) (oZ d (i6 15) fun f=>dm .i64 f fun g=>xN d (i3 32767) fun h=>dm .i64 h fun i=>ai r 280 [g] fun f=>dC f fun h=>aA h (ai r 279 [a] fun f=>ag [f]) (bq i (ii 0) (ai r 279 [a] fun f=>ag [f]) (an a fun f=>ay 0 f fun h=>aK h g fun _=>an a fun f=>ay 1 f fun h=>aK h i fun _=>ag [(ii 0)])))
theorem Wa:ax aa gt Y r 275 #[a,b]=inside (JV Y r a b):=jK
def JW(Y:Nat)(r:RT)(a b:V):M V:=an a fun c=>ak 1 c fun e=>bq e (ii 0) (ai r 188 [b,(ii 5)] fun c=>aV c 0 fun d=>aV c 1 fun e=>cb e (ii 0) (ag [e]) (dm .i64 d fun g=>ai r 281 [a,g] fun h=>ag [h])) (ai r 188 [b,(ii 1)] fun c=>aV c 0 fun d=>aV c 1 fun e=>cb e (ii 0) (ag [e]) (bq d (i3 0) (an a fun h=>ak 2 h fun j=>an a fun l=>ak 1 l fun n=>bO 3 1 n fun o=>bL 3 1 j o fun p=>an a fun q=>ay 2 q fun s=>aK s p fun _=>ag [(ii 0)]) (ai r 188 [b,(ii 1)] fun h=>aV h 0 fun i=>aV h 1 fun j=>cb j (ii 0) (ag [j]) (an a fun e=>ak 1 e fun l=>aq l (ii 1) fun m=>dm .i64 i fun n=>dK (ii 2) n fun o=>cL m o fun p=>ai r 281 [a,p] fun q=>ag [q]))))
theorem Wb:ax aa gt Y r 276 #[a,b]=inside (JW Y r a b):=jK
def JX(Y:Nat)(r:RT)(a:V):M V:=ai r 282 [a] fun b=>aV b 0 fun c=>aV b 1 fun d=>bq d (ii 0) (bq c (ii 1048576) (ai r 283 [a,(ii 0)] fun f=>dC f fun g=>ag [g]) (ag [bF])) (ag [bF])
theorem Wc:ax aa gt Y r 277 #[a]=inside (JX Y r a):=jK
def uk(Y:Nat)(r:RT):Nat->(V->V->M V)->V->V->V->V->V->M V|0,_,_,_,_,_,_=> .fail|fu+1,k,a,b,c,d,e=>eD e (ii 0) (cL e (ii 1) fun g=>an a fun h=>gG 6 h g fun i=>aQ i fun j=>an a fun l=>gG 6 l e fun m=>aK m j fun _=>cL e (ii 1) fun g=>uk Y r fu k a b c d g) (k a d)
def Wd:List Nat:=[0,1,4,5,6]
def Dt(Y:Nat)(r:RT):(V->V->M V):=fun a b=>an a fun c=>gG 6 c (ii 0) fun d=>aK d b fun _=>ag [b]
def Du(Y:Nat)(r:RT)(a b:V):M V:=an a fun c=>gG 6 c b fun d=>aQ d fun e=>uk Y r Y (Dt Y r) a b (ii 0) e b
theorem We(K:KT):∀fu,uk Y r fu (fun a b=>K (.exit 0) (zp [0,5] [a,b]))=fun a b c d e=>aU (cQ
 278 (pb 6 11) Y r) Wd fu (zp Wd [a,b,c,d,e]) K
 |0=>by funext a b c d e;kernel_rfl
 |fu+1=>by have f:=We K fu;funext a b c d e;rw[uk];simp only[f];kernel_rfl
theorem af_:Dt Y r=(fun a b=>(tK 278 (pb 5 11) Y r) (.exit 0) (zp [0,5] [a,b])):=jK
theorem Wf:ax aa gt Y r 278 #[a,b]=inside (Du Y r a b):=by unfold Du;simp only[af_,We];kernel_rfl
def JY(Y:Nat)(r:RT)(a:V):M V:=an a fun b=>ay 9 b fun c=>aK c bT fun _=>ag [(ii 25)]
theorem Wg:ax aa gt Y r 279 #[a]=inside (JY Y r a):=jK
def JZ(Y:Nat)(r:RT)(a:V):M V:=gw a (ii 2) (mf a (ii 6) fun c=>ag [c]) (ag [bF])
theorem Wi:ax aa gt Y r 280 #[a]=inside (JZ Y r a):=jK
def J0(Y:Nat)(r:RT)(a b:V):M V:=ai r 284 [b] fun c=>dC c fun d=>aA d (an a fun c=>ay 3 c fun e=>aK e bT fun _=>ag [(ii 22)]) (an a fun c=>ay 1 c fun e=>aK e b fun _=>ag [(ii 0)])
theorem Wj:ax aa gt Y r 281 #[a,b]=inside (J0 Y r a b):=jK
def uo(Y:Nat)(r:RT):Nat->(V->M V)->V->V->V->V->V->V->V->V->M V|0,_,_,_,_,_,_,_,_,_=> .fail|fu+1,k,a,b,c,d,e,f,g,h=>aX h g (bM f h fun j=>aQ j fun l=>cL (ii 20) l fun j=>mg (ii 1) j fun m=>aq d m fun n=>aq h (ii 1) fun d=>uo Y r fu k a b c n e f g d) (k d)
def Wk:List Nat:=[0,2,3,4,14,15,16,17]
def Dv(Y:Nat)(r:RT):(V->M V):=fun a=>ag [a,(ii 0)]
def Dw(Y:Nat)(r:RT)(a:V):M V:=bx a fun b=>eD b (ii 258) (ag [(ii 0),(ii 1)]) (ai r 285 [a,(ii 0),(ii 20)] fun d=>dC d fun e=>aA e (ag [(ii 0),(ii 1)]) (bx a fun b=>uo Y r Y (Dv Y r) a (ii 0) (ii 0) (ii 0) e a b (ii 0)))
theorem Wm(K:KT):∀fu,uo Y r fu (fun a=>K (.exit 0) (zp [4] [a]))=fun a b c d e f g h=>aU (cQ 282 (pb 7 23)
 Y r) Wk fu (zp Wk [a,b,c,d,e,f,g,h]) K
 |0=>by funext a b c d e f g h;kernel_rfl
 |fu+1=>by have i:=Wm K fu;funext a b c d e f g h;rw[uo];simp only[i];kernel_rfl
theorem aga:Dv Y r=(fun a=>(tK 282 (pb 6 23) Y r) (.exit 0) (zp [4] [a])):=jK
theorem Wn:ax aa gt Y r 282 #[a]=inside (Dw Y r a):=by unfold Dw;simp only[aga,Wm];kernel_rfl
def J1(Y:Nat)(r:RT)(a b:V):M V:=ai r 286 [a,b] fun c=>qj c (ii 0) fun d=>ag [d]
theorem Wo:ax aa gt Y r 283 #[a,b]=inside (J1 Y r a b):=jK
def J2(Y:Nat)(r:RT)(a:V):M V:=gw a (ii 1) (mf a (ii 20) fun c=>ag [c]) (ag [bF])
theorem Wp:ax aa gt Y r 284 #[a]=inside (J2 Y r a):=jK
def J3(Y:Nat)(r:RT)(a b c:V):M V:=dP 3 b fun d=>dP 3 c fun e=>ai r 287 [a,(Ar (As 288) #[] #[d,e])] fun f=>dC f fun g=>ag [g]
theorem Wq:ax aa gt Y r 285 #[a,b,c]=inside (J3 Y r a b c):=jK
def uq(Y:Nat)(r:RT):Nat->((M V)×(V->M V))->V->V->V->V->V->M V|0,_,_,_,_,_,_=> .fail|fu+1,k,a,b,c,d,e=>aX e d (bM a e fun g=>aQ g fun h=>bq b h (k.2 e) (aq e (ii 1) fun g=>uq Y r fu k a b c d g)) (k.1)
def Ws:List Nat:=[0,1,4,7,8]
def zi(Y:Nat)(r:RT):(M V)×(V->M V):=(ag [(ii (-1))],fun a=>ag [a])
def Dx(Y:Nat)(r:RT)(a b:V):M V:=bx a fun c=>uq Y r Y (zi Y r) a b (ii 0) c (ii 0)
theorem Wt(K:KT):∀fu,uq Y r fu ((K (.exit 0) [],fun a=>K .ret (zp [4] [a])))=fun a b c d e
 =>aU (cQ 286 (pb 5 5) Y r) Ws fu (zp Ws [a,b,c,d,e]) K
 |0=>by funext a b c d e;kernel_rfl
 |fu+1=>by have f:=Wt K fu;funext a b c d e;rw[uq];simp only[f];kernel_rfl
theorem agb:zi Y r=(((tK 286 (pb 4 5) Y r) (.exit 0) [],fun a=>(tK 286 (pb 4 5) Y r) .ret (zp [4] [a]))):=jK
theorem Wu:ax aa gt Y r 286 #[a,b]=inside (Dx Y r a b):=by unfold Dx;simp only[agb,Wt];kernel_rfl
def J4(Y:Nat)(r:RT)(a b:V):M V:=ai r 289 [a,b] fun c=>qj c (ii 0) fun d=>ag [d]
theorem Wv:ax aa gt Y r 287 #[a,b]=inside (J4 Y r a b):=jK
def J5(Y:Nat)(r:RT)(a b c:V):M V:=aQ b fun d=>aX a d (ag [bT]) (aQ c fun f=>iH a f fun g=>ag [g])
theorem Ww:ax aa gt Y r 288 #[a,b,c]=inside (J5 Y r a b c):=jK
def ur(Y:Nat)(r:RT):Nat->((M V)×(V->M V))->V->V->V->V->V->M V|0,_,_,_,_,_,_=> .fail|fu+1,k,a,b,c,d,e=>aX e d (bM a e fun g=>aQ g fun h=>ku aa r b [h] fun i=>aA i (k.2 e) (aq e (ii 1) fun g=>ur Y r fu k a b c d g)) (k.1)
def Wx:List Nat:=[0,1,4,7,8]
def zj(Y:Nat)(r:RT):(M V)×(V->M V):=(ag [(ii (-1))],fun a=>ag [a])
def Dy(Y:Nat)(r:RT)(a b:V):M V:=bx a fun c=>ur Y r Y (zj Y r) a b (ii 0) c (ii 0)
theorem Wy(K:KT):∀fu,ur Y r fu ((K (.exit 0) [],fun a=>K .ret (zp [4] [a])))=fun a b
 c d e=>aU (cQ 289 (pb 5 5) Y r) Wx fu (zp Wx [a,b,c,d,e]) K
 |0=>by funext a b c d e;kernel_rfl
 |fu+1=>by have f:=Wy K fu;funext a b c d e;rw[ur];simp only[f];kernel_rfl
theorem agc:zj Y r=(((tK 289 (pb 4 5) Y r) (.exit 0) [],fun a=>(tK 289 (pb 4 5) Y r) .ret (zp [4] [a]))):=jK
theorem Wz:ax aa gt Y r 289 #[a,b]=inside (Dy Y r a b):=by unfold Dy;simp only[agc,Wy];kernel_rfl
end
end Go.Proofs.YtmjolmggelkjlaaGreat
