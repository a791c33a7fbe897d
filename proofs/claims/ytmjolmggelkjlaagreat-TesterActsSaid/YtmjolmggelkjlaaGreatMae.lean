import Derived.Test.YtmjolmggelkjlaaGreatRows
import Derived.Test.YtmjolmggelkjlaaGreatMad
open Go.Proofs.Tryz renaming prog→aa
open Go.Value renaming string→aM, func→AQ
open List renaming replicate→bU
open Go.Fn renaming func→AR
set_option linter.unusedVariables false
set_option linter.unusedSimpArgs false
namespace Go.Proofs.YtmjolmggelkjlaaGreat
open Go.RowKit Ev
abbrev oG:Hint:=([],[],[])
noncomputable abbrev an {a:Type} (n:Nat) (x:Value) (k:Value->M a):M a:=ay n x fun c=>aP c k
noncomputable abbrev aW {d:Type} (a b:Value) (x y:M d):M d:=dV a b fun c=>aC c x y
noncomputable abbrev vY {d:Type} (a b:Value) (x y:M d):M d:=mr a b fun c=>aC c x y
noncomputable abbrev eB {d:Type} (a b:Value) (x y:M d):M d:=jh a b fun c=>aC c x y
noncomputable abbrev fT {d:Type} (a b:Value) (x y:M d):M d:=qu a b fun c=>aC c x y
noncomputable abbrev bx {d:Type} (a b:Value) (x y:M d):M d:=cH a b fun c=>aC c x y
noncomputable abbrev b9 {d:Type} (a b:Value) (x y:M d):M d:=fG a b fun c=>aC c x y
noncomputable abbrev cJ {d:Type} (a b:Value) (x y:M d):M d:=qv a b fun c=>aC c x y
noncomputable abbrev kU {d:Type} (a b:Value) (x y:M d):M d:=ym a b fun c=>aC c x y
noncomputable abbrev ad8 {d:Type} (a b:Value) (x y:M d):M d:=yn a b fun c=>aC c x y
noncomputable abbrev ao8 {d:Type} (a b:Value) (x y:M d):M d:=yo a b fun c=>aC c x y
noncomputable abbrev ao9 {d:Type} (a b:Value) (x y:M d):M d:=BG a b fun c=>aC c x y
noncomputable abbrev ao' {d:Type} (a b:Value) (x y:M d):M d:=yl a b fun c=>aC c x y
def gtL:List Hint:=[oG,oG,oG,oG,oG,oG,oG,oG,oG,oG,oG,([0,1,2,3,6,7,8,9,10,11,12,14,15,16,34,55,63,64,65,66,67,68,83,139,142],[6],[(0,[1,3,7,9,11]),(2,[0,1,2,3,6,7,8,9,10,11,12,34,55,63])]),oG,oG,([0,2],[2],[]),oG,oG,oG,oG,oG,oG,oG,oG,oG,([0,1,2,6,7,8,10,18,19,20,21],[6],[(0,[7,8])]),([0,2,3,5,6,7,8,9],[2],[(0,[3])]),([0,1,4,5,6,7,8,9,10,15,16,17,23,45,64],[4],[(0,[4])]),oG,oG,([0,1,2,6,7,8,9,22],[6,7],[]),oG,([0,2],[2],[]),([0,2,4],[2],[]),([0,1,2,6],[6],[]),oG,([0,2,3,5,27],[2],[]),([0,2,4],[2],[]),([0,2,3,12],[2],[]),([0,2,4],[2],[]),([0,1,4,5,13,18,23,27],[4],[(0,[0,5])]),([0,1,4,5,19,42],[4],[]),oG,([0,1,2],[2],[]),([0,1,2,3,4,5,6],[0],[]),([0,1,4,5,6,7,15],[4,5],[]),([0,1,4,6],[4],[]),([0,2,4],[2],[]),([0,1,4,5,7,15,41],[4],[(0,[0,5])]),([0,2],[2],[]),([0,2,4],[2],[]),([0,2,4],[2],[]),([0,2,4],[2],[]),([0,2,3,5,13],[2],[(0,[3])]),([0,1,4],[4],[]),([0,1,2,3,5,6,7,8,9,10,11,12,13,15,52,80,93,97],[6],[]),([0,2,4],[2],[]),([0,1,2,4,5,6,9],[4],[(0,[2,4])]),([0,2,4],[2],[]),([0,2,3,5,12],[2,3],[]),([0,2],[2],[]),oG,([0,2,3,4,8],[2],[(0,[3])]),oG,([0,2,3,4,8],[2],[(0,[3])]),oG,oG,oG,oG,oG,oG,oG,oG,([0,2],[2],[]),([0,1,4,5,6,8,9,12,13,14,15,27,39,40,41,55],[4],[(0,[5,6]),(2,[0,1,4,5,6,12,13,14])]),([0,1,4,5],[4],[]),([0,1,2],[2],[]),([0,2],[2],[]),([0,2],[2],[]),([0,1,4,5,9],[4],[]),([0,2,3,4,5,7,8,15,35,47],[2],[(0,[])]),([0,1,4,5,6,7,8,9,10,11,15,16,17,23,36,41,51,59,68,72,83],[4],[(0,[4])]),([0,1,2,6],[6],[]),([0,2,10],[2],[]),([0,1,4,5,6,12],[4],[]),([0,1,4],[4],[]),([0,2,4],[2],[]),([0,2,4],[2],[]),([0,2,4],[2],[]),([0,2,3,21,27],[],[]),([0,2,3,4,23,43,56,61,67],[2],[]),([0,1,4,6],[4],[]),([0,1,4],[4],[]),([0,1,4,5,6,12],[4],[]),([0,2],[2],[]),([0],[],[]),([0,23],[],[]),([0,1,4,5,19],[4,5],[]),([0,2],[2],[]),([0,2,4],[2],[]),([0,1,4,5,6,7,8,15,32],[4,5],[]),oG,oG,oG,([0,1,4,5,6,7,8],[4],[(0,[5])]),([0,1,4,5,6,7,8,9,11,13,16,20,27,52,56,82],[4],[]),([0,1,2,3,4,5,8,19,30,35],[2,3],[]),oG,([0,2,4],[2],[]),([0,2,3,4,7],[2],[(0,[3])]),([0,1,2,3,4,6,7,8,11,21],[2],[(0,[1,3])]),([0,2],[2],[]),([0,1,2,3,4,6],[2],[]),([0,2,3,4,8],[2],[(0,[3])]),([0,2,3,6],[2],[(0,[3])]),([0,2,6],[2],[(0,[0])]),([0,2,3,6],[2],[]),([0,2,3,4,5,6,18,30],[2,3],[]),([0,1],[],[]),([0,2],[2],[]),([0,2,3,5],[2],[]),([0,1,2,3],[2],[]),([0,2,4],[2],[]),([0,2],[2],[]),([0,1,4,5,9,10,15,20],[4,5],[]),oG,oG,([0,2,4],[2],[]),([0,1,4],[4],[]),([0,2,3,4,5,6,9,11,12,17,22,24,25,32,47],[2],[(0,[2,3,4]),(2,[0,2,3,4,9,11])]),([0,1,2,6,7,8,9,10,11,12,17,31,46,65,70,86],[6],[]),([0,1,2,6,7,9,10,14,15,16,17,25],[6],[(0,[])]),([0,1,4,5,6,7,8,9,10,15,26,38,56,72],[4],[(0,[8])]),([0,1,2,6,7,8,9,11,12,26,30,31,32,33,41,44,48,49,50,57,68],[6,7],[(0,[8,9]),(2,[0,1,2,6,7,8,9,12,26,30,31,32])]),([0,1,4,5,6,7,9,12,14,15,16,17,27],[4,5],[(0,[6])]),([0,2,3,4,7,10,19,22,26,27,28],[2,3],[(0,[4]),(2,[0,2,3,4])]),([0,1,4,5,6,7,12,13,14],[4],[(0,[6])]),oG,([0,2,3,19],[2],[(0,[3])]),([0,1,4,5,6,7,8,10,11,12,13,30],[4],[(0,[4,5])]),([0,2,3,4,5,6,8,10,11,12,14,15,16,17,27,38],[2],[(0,[3]),(2,[0,2,4,5,6,10,11])]),([0,2,3,4,5,6,10],[2],[(0,[3])]),([0,1,4,5,6,7,8,9,12,17,26],[4,5],[(0,[6])]),([0,1,4,5,6,7,9,15,16,17,18,19,28,30],[4,5],[(0,[1,6,7])]),([0,2,3,4,5,6,7,8,9,10,12,13,20,26],[2],[(0,[3,4]),(2,[0,2,3,4,6,7,9])]),([0,1,4,5,6,7,9,10,11,22,23,24,25,38,39,40,41],[4],[(0,[0,1,4,5,6,7,22,23,24,25]),(2,[6])]),([0,1,4],[4],[]),([0,2,4],[2],[]),([0,1,4,5,7,24],[4],[(0,[0,5])]),([0,2,3,5],[2],[]),([0,1,4,5,6,12,15,19,35],[4,5],[]),([0,1,4,6,7,8],[],[(0,[])]),([0,2,3,10,17],[2],[]),([0,1,4,5,6,9,13],[4,5],[]),([0],[0],[]),([0],[0],[]),([0,1,4,5,6,12,16,29,37],[4],[]),([0,1,4,5,7,9,10,13,29,30,53],[4],[]),([0,1,4,5,6,22],[4,5],[]),([0,1,4,5,6,7,13,17],[4,5],[]),oG,oG,oG,([0,2,3,4,5,6,7,8,11,30,35,42,52],[2],[(0,[2,3,6,7])]),([0,1,2,6,7,8,10,11,12,21,36],[6],[(0,[6,7])]),([0,1,4,5,6,7,8,9,10,16],[4],[(0,[])]),([0,1,2,4,5,6,7,9,20,25,40,58,71],[4],[]),([0,2],[2],[]),([0,1,4],[4],[]),([0,2],[2],[]),([0,2,3,4,5,6,7,10,11,12,19],[2],[(0,[3]),(2,[0,2,3,6])]),([0,1,4],[4],[]),([0,1,2,6,7,8],[6],[]),([0,1,4,5,9,17],[4],[(0,[])]),([0,1,4,5,9,16],[4],[(0,[])]),([0,2,3,5,8],[2],[]),([0,1,4,5,6,7,9,10,11,12,13,14,24,25,26,27,28,29,42,43,44,46,47,48,49,58],[4],[(0,[4,5]),(2,[0,1,4,5,6,7,24,25,26,27,28,29]),(4,[0,1,4,5,6,7,10,24]),(6,[0,1,4,5,6,7,10,12,24,25,26,27,28,29,42,43])]),([0,1,4,5,6,8,9,18,19,20,21],[4],[(0,[5])]),([0,2,3,4,6,7,16,17,18,19,22,23,29,36],[2],[(0,[3]),(2,[0,2,3,6,16,17,18])]),([0,2,3,4,5,6,7,12,15,16,17,18,24,26,27,28,29],[2],[(0,[3]),(2,[0,2,3,4,5]),(4,[0,2,3,4,5,6,12,15,16,17])]),([0,2,3,4,6],[2],[(0,[0])]),([0,2,4],[2],[]),([0,2,3,4,21,53,73,76],[],[]),([0,2],[2],[]),oG,([0,1,5],[],[]),([0,2,3,6],[2],[]),([0,2,4],[2],[]),([0,1,2,3,4,5,6,11,12],[0],[(0,[0,1]),(2,[0,1,2,3,5])]),([0,1,4,5,6,7,10,17,22,23,24],[4,5],[(1,[6])]),([0,2,3,9],[2,3],[]),([0,1,4,5,6,19,33],[4],[]),([0,2],[2],[]),([0,2,5],[2],[]),([0,11],[],[(0,[])]),oG,oG,([0,2,3,13],[2],[(0,[3])]),([0,1,4,5,6,7,10,21,26,30,35,46,52,62],[4],[(0,[4,6,7])]),([0,2],[2],[]),([0,1,4],[4],[]),([0,1,2],[2],[]),([0,2,3,4,6,7,8,9,10,14],[2],[(0,[3])]),([0,1,4,5,6,7,8,9,11,14,15,16,18,19,20,21,27,36],[4],[(0,[6]),(2,[0,1,4,5,6,8,14,15])]),([0,1,4,5,6,7,8,9],[4],[(0,[5])]),([0,2,3,4,5,6,7,8,9,10,27],[2],[(0,[3])]),([0,1,4,5,6,7,8,9,10,11,24],[4],[(0,[5])]),([0,2,3,5,6,7,8,9,10,14,20,21,25],[2],[(0,[0,2,3,7,8,9,10]),(2,[])]),([0,1,4,5,6,7,8,13,22,34],[4],[(0,[0,1,4,5,6,7,13]),(2,[5])]),([0,2,4],[2],[]),([0,2,3,4,8,9,10],[],[(0,[])]),oG,oG,oG,oG,([0,1,2,6],[6],[]),([0,1,4,5],[4],[]),([0,1,4,5,9,18,27,48],[4],[]),([0,1,2,6,8,9,10,11,12,22],[6],[(0,[])]),([0,2,3,5,6,7,8,9,10,14,15,16],[2],[(0,[3]),(2,[0,2,3,6,7,8,9])]),([0,2,4,6,8,10],[2],[]),([0,1,4,5,7,8,9,10,11,16],[4],[(0,[5])]),([0,1,4,5,6,7,8,9,10,11,17,18,19],[4],[(0,[5]),(2,[0,1,4,5,8,9,10])]),([0,2,3,4,5,6,7,8,9,10,11,12,13,15,18,19,20,21,39,66,67,68,69],[2],[(0,[0,2,3,4,18,19,20,21]),(2,[7]),(4,[0,2,3,4,7,8,10,12,13,18,19,20,21])]),([0,2,3,5,6,7,8,9,13],[2],[(0,[3])]),oG,oG,oG,oG,([0,1,4,5,7,9,13,42],[4],[]),([0,1,4,5,6,13],[4],[]),([0,2],[2],[]),([0,2,3,4,10],[2],[]),([0,1,4,5,6,24],[4],[]),([0,2,3,27],[2],[]),([0,2,4],[2],[]),([0,2,3,4,5,6,7,8,9,18],[2],[(0,[3])]),([0,1,4,5,6,7,8,9,10,11,17],[4],[(0,[5])]),oG,([0,2,3,4,5,6,15],[2,3],[]),([0,1,4,5,7,9],[4],[]),([0,1,4,5,6,9],[4,5],[]),([0,1,4,5,6,7,8,9,22,34,43,64,68],[4,5],[]),([0,1,4,5,6,7,19],[4],[]),([0,2],[2],[]),([0,1,2,3,4],[4],[]),([0,2,3,4,5,6,8,9,10,12,13,20,23,24,25,26,35,38,39,40,41,54],[2,3],[(0,[6]),(2,[0,2,3,4,5,6,20,23,24,25])]),([0,1,4,5,8],[4],[]),([0,2,3,4,5,12],[2,3],[]),([0,1,4,5,16],[4,5],[]),([0,2,3,6],[2,3],[]),([0,1,4,5],[4],[]),([0,1,4,5,6,7,8,20,40],[4,5],[]),([0,2],[2],[]),([0,1,4,5,6,17],[4,5],[]),([0,2,4],[2],[]),([0,1,4,5,6,7,8,9,26,38],[4,5],[]),([0,1,4,5,6,7,8,17,29,36,46,56],[4,5,6],[]),([0,2,3,4,5,6,13],[2],[(0,[3])]),([0,1,2,3,4,5,6,7,8,11],[2],[(0,[3])]),([0,2,3,6],[2,3],[]),([0],[0],[]),([0,2],[2],[]),([0,2,3,5,6,7,20],[2],[(0,[0])]),([0,1,4,5,6,7,8,14,24],[4,5],[]),([0,1,4,5,6,7,8,19,32,39],[4],[]),([0,1,4,5,6,7,18,29],[4],[]),([0,2],[2],[]),([0,2,3,4,5,6,7,8,9,18,30,51,52,53,54,60],[2,3],[(1,[4]),(3,[0,2,3,4,5,6,9,18])]),([0,2,4],[2],[]),([0,1,4,5,20],[4],[]),([0,2,4],[2],[]),([0,2],[2],[]),([0,1,2,3,4],[0],[(0,[0,1])]),([0,1,4,5,6,7,8,9,10,12,21,51],[4,5],[(0,[])]),([0,1,4,5,6,7,11,12,13,21,24],[4],[(0,[0])]),([0,1,4,5,6,7,8,15,29],[4],[]),([0,1,4,5,6,7,8,13,20,32,35,55],[4],[]),([0,2,3,4],[2],[]),([0,1,4,5,6,14],[4],[(0,[0,5])]),([0,2],[2],[]),([0,2],[2],[]),([0,1,4,7],[4],[]),([0,2,3,4,6,14,15,16,17,18],[2,3],[(0,[4])]),([0,1,4],[4],[]),([0,2],[2],[]),([0,1,2,4,5,6],[6],[]),([0,1,4,5,7,8,9,16],[4],[(0,[])]),([0,1,4],[4],[]),([0,1,2,4],[4],[]),([0,1,4,5,7,8,9,16],[4],[(0,[])])]
def gt(f:Nat):Hint:=gtL.getD f ([],[],[])
theorem aF:j9 aa=true:=jK
abbrev ii(x:Int):Value:= .int .i64 x
abbrev i1(x:Int):Value:= .int .u8 x
abbrev i3(x:Int):Value:= .int .u32 x
abbrev i6(x:Int):Value:= .int .u64 x
abbrev bT:Value:= .bool true
abbrev bF:Value:= .bool false
abbrev nP:Value:= .pointer none
abbrev nS:Value:= .slice none 0 0
abbrev RT:=FuncId->Array Value->M Value
abbrev V:=Value
abbrev KT:=Ex->Fr->M Value
def pb:Nat->Nat->List Bool|0,_=>[]|l+1,n=>(Nat.beq (n %2) 1)::pb l (n/2)
def zp:List Nat->List Value->Fr|[],_=>[]|_,[]=>[]|a::l,v::m=>(a,v)::zp l m
noncomputable def cQ (f:Nat) (p:List Bool) (Y:Nat) (r:RT):Fr->KT->M Value:=fun s k=>iC aa r (gt f) Y (eO (fO aa f) p) s k
noncomputable def tK (f:Nat) (p:List Bool) (Y:Nat) (r:RT):KT:=tF aa r (gt f) Y (fO aa f) p (BX aa (G7 aa f))
noncomputable def iK (f:Nat) (p q:List Bool) (s:List Nat) (a:Nat) (K:KT) (Y:Nat) (r:RT):KT:=tF aa r (gt f) Y (eO (fO aa f) p) q (Od (fun x=>aT (cQ f p Y r) s a (x.au s) K) K)
theorem aB{Y d:Nat}{f:FuncId}{a:Array Value}{b:RT->M Value}(s:∀r,ax aa gt Y r f a=b r)(h:KN.contains f=false):aj aa gt Y (d+1) f a=b (aj aa gt Y d):=by
 show(match KN.contains f with
  |true=>_
  |false=>ax aa gt Y (aj aa gt Y d) f a:M Value)=_
 rw[h];exact s _
theorem bq{a:Type}{W:Nat->Prop}{n0:Nat}{h:H}{n:Nat}{Q:a->H->Nat->Prop}{Y d:Nat}{f:FuncId}{vs:List Value}{v:Value}{W':Nat->Prop}(s:af W' n (aj aa gt Y d f ⟨vs⟩) h n fun c h' n'=>c=v∧h'=h∧n'=n)(g:n0<=n)(i:∀b,b<n->W' b->n0<=b∨W b){k:Value->M a}(x:af W n0 (k v) h n Q):af W n0 (ai (aj aa gt Y d) f vs k) h n Q:=by refine aN aF s g i fun c h' n' _ _ e=> ?_;obtain⟨rfl,rfl,rfl⟩:=e;exact x
noncomputable section
variable {Y:Nat} {r:RT} {a b c d e f g h i j l m:V}
def z33:List Value:=[(ii 0),(ii 0),(ii 0),(ii 0),(i3 0),(ii 0),(ii 0),(ii 0)]
def z34:List Value:=[(ii 0),(ii 0),(ii 0),(ii 0),(i3 0),(ii 0),(ii 0),(ii 0)]
def z43:List Value:=[(ii 0),(ii 0),(ii 0),(ii 0),(ii 0)]
def z51:List Value:=[(aM {data:=#[]}),(ii 0)]
def z60:List Value:=[nP,(ii 0),(aM {data:=#[]}),bF]
def z67:List Value:=[(ii 0),(ii 0)]
def z73:List Value:=[nS]
def z85:List Value:=[nP,(ii 0),(aM {data:=#[]}),bF]
def z87:List Value:=[(ii 0),(ii 0)]
def z98:List Value:=[(aM {data:=#[]}),nP,nP,nS,(ii 0),(i3 0)]
def z107:List Value:=[nP,nS]
def yC:List Value:=[(aM {data:=#[]}),(aM {data:=#[]})]
def kf:List Value:=[(aM {data:=#[]}),(ii 0),(ii 0)]
def PF:List Value:=[(ii 0),(ii 0),bF,nP,nP,nP,bF,nS,bF,(ii 0),(ii 0)]
def vZ:List Value:=[(aM {data:=#[]}),(ii 0),(i3 0)]
def z139:List Value:=[(aM {data:=#[]}),(ii 0),(i3 0),nP,nP,nP]
def PG:List Value:=[nP,(ii 0)]
def PH:List Value:=[nP,(ii 0),(aM {data:=#[]}),bF]
def PI:List Value:=[(ii 0),(ii 0),(ii 0),(ii 0),nP,(aM {data:=#[]}),(ii 0),(i3 0),(i3 0),bF,(ii 0)]
def z152:List Value:=[(aM {data:=#[]}),(ii 0),(ii 0)]
def z157:List Value:=[(aM {data:=#[]}),(ii 0),(i3 0)]
def z159:List Value:=[(aM {data:=#[]}),(ii 0),(i3 0),(ii 0),(ii 0),(ii 0)]
def z168:List Value:=[(i1 0),(ii 0)]
def z171:List Value:=[(aM {data:=#[]}),(ii 0)]
def Hx:List Value:=(qq [(aM {data:=#[]})] (qq (tz (ii 0) 256) (qq [nS] (qq [(ii 0)] (qq [nS] [(ii 0)])))))
def nU:List Value:=[(aM {data:=#[]}),(ii 0),(ii 0)]
def qA:List Value:=[nS,(ii 0),(ii 0),(ii 0)]
def PJ:List Value:=[nP,(ii 0),bF,(i3 0),(ii 0),nS,bF,(ii 0)]
def z212:List Value:=[nP,nP,nP,(ii 0),(ii 0)]
def nV:List Value:=[nS,(ii 0),(ii 0),(ii 0),(ii 0)]
def z228:List Value:=[nS,(ii 0),(ii 0)]
def z233:List Value:=[(ii 0),(ii 0),(ii 0),nS,bF]
def kg:List Value:=[(ii 0),(ii 0),(ii 0),nS,bF,(ii 0),(ii 0),(ii 0)]
def wc:List Value:=[nS,nS]
def PK:List Value:=[(ii 0),nP,nS,nP,nS,(ii 0),bF,(ii 0)]
def PL:List Value:=[(i1 0),(ii 0)]
def Hy:List Value:=(tz (i3 0) 256)
def PM:List Value:=(tz (i3 0) 257)
def nX:List Value:=[nS,(ii 0),(ii 0)]
def Hz:List Value:=[(ii 0),(ii 0),(ii 0),(ii 0),(ii 0),(ii 0)]
def HA:List Value:=[(ii 0),(ii 0),(ii 0),(ii 0),(ii 0),(ii 0),(ii 0),(ii 0),nS,bF]
def tP:List Value:=[(ii 0),(ii 0),nS]
def PN:List Value:=[nS]
def PO:List Value:=(tz bF 256)
def PQ:List Value:=[(ii 0),(ii 0),(ii 0),(ii 0),(ii 0),bF]
def PR:List Value:=[(ii 0),(ii 0),nS,bF]
def HB:List Value:=(qq [nS,nS,nS] (tz (ii 0) 43))
theorem PS:z33=[(ii 0),(ii 0),(ii 0),(ii 0),(i3 0),(ii 0),(ii 0),(ii 0)]:=rfl
theorem PT:z34=[(ii 0),(ii 0),(ii 0),(ii 0),(i3 0),(ii 0),(ii 0),(ii 0)]:=rfl
theorem PU:z43=[(ii 0),(ii 0),(ii 0),(ii 0),(ii 0)]:=rfl
theorem PV:z51=[(aM {data:=#[]}),(ii 0)]:=rfl
theorem PW:z60=[nP,(ii 0),(aM {data:=#[]}),bF]:=rfl
theorem PX:z67=[(ii 0),(ii 0)]:=rfl
theorem PY:z73=[nS]:=rfl
theorem PZ:z85=[nP,(ii 0),(aM {data:=#[]}),bF]:=rfl
theorem P0:z87=[(ii 0),(ii 0)]:=rfl
theorem P1:z98=[(aM {data:=#[]}),nP,nP,nS,(ii 0),(i3 0)]:=rfl
theorem P2:z107=[nP,nS]:=rfl
theorem P3:yC=[(aM {data:=#[]}),(aM {data:=#[]})]:=rfl
theorem P4:kf=[(aM {data:=#[]}),(ii 0),(ii 0)]:=rfl
theorem P5:PF=[(ii 0),(ii 0),bF,nP,nP,nP,bF,nS,bF,(ii 0),(ii 0)]:=rfl
theorem P6:vZ=[(aM {data:=#[]}),(ii 0),(i3 0)]:=rfl
theorem P7:z139=[(aM {data:=#[]}),(ii 0),(i3 0),nP,nP,nP]:=rfl
theorem P8:PG=[nP,(ii 0)]:=rfl
theorem P9:PH=[nP,(ii 0),(aM {data:=#[]}),bF]:=rfl
theorem P':PI=[(ii 0),(ii 0),(ii 0),(ii 0),nP,(aM {data:=#[]}),(ii 0),(i3 0),(i3 0),bF,(ii 0)]:=rfl
theorem Qa:z152=[(aM {data:=#[]}),(ii 0),(ii 0)]:=rfl
theorem Qb:z157=[(aM {data:=#[]}),(ii 0),(i3 0)]:=rfl
theorem Qc:z159=[(aM {data:=#[]}),(ii 0),(i3 0),(ii 0),(ii 0),(ii 0)]:=rfl
theorem Qd:z168=[(i1 0),(ii 0)]:=rfl
theorem Qe:z171=[(aM {data:=#[]}),(ii 0)]:=rfl
theorem Qf:nU=[(aM {data:=#[]}),(ii 0),(ii 0)]:=rfl
theorem HC:qA=[nS,(ii 0),(ii 0),(ii 0)]:=rfl
theorem Qg:PJ=[nP,(ii 0),bF,(i3 0),(ii 0),nS,bF,(ii 0)]:=rfl
theorem Qh:z212=[nP,nP,nP,(ii 0),(ii 0)]:=rfl
theorem yD:nV=[nS,(ii 0),(ii 0),(ii 0),(ii 0)]:=rfl
theorem we:z228=[nS,(ii 0),(ii 0)]:=rfl
theorem Qi:z233=[(ii 0),(ii 0),(ii 0),nS,bF]:=rfl
theorem Qj:kg=[(ii 0),(ii 0),(ii 0),nS,bF,(ii 0),(ii 0),(ii 0)]:=rfl
theorem Qk:wc=[nS,nS]:=rfl
theorem Ql:PK=[(ii 0),nP,nS,nP,nS,(ii 0),bF,(ii 0)]:=rfl
theorem Qm:PL=[(i1 0),(ii 0)]:=rfl
theorem Qn:Hy=bU 256 (i3 0):=yh _ _
theorem Cj:nX=[nS,(ii 0),(ii 0)]:=rfl
theorem Cl:Hz=[(ii 0),(ii 0),(ii 0),(ii 0),(ii 0),(ii 0)]:=rfl
theorem Qo:HA=[(ii 0),(ii 0),(ii 0),(ii 0),(ii 0),(ii 0),(ii 0),(ii 0),nS,bF]:=rfl
theorem Qp:tP=[(ii 0),(ii 0),nS]:=rfl
theorem Qq:PN=[nS]:=rfl
theorem ad9:PO=bU 256 bF:=yh _ _
theorem Qr:PQ=[(ii 0),(ii 0),(ii 0),(ii 0),(ii 0),bF]:=rfl
theorem Qs:PR=[(ii 0),(ii 0),nS,bF]:=rfl
def tQ(Y:Nat)(r:RT):Nat->((V->V->V->V->V->V->V->V->V->V->V->V->V->V->M V)×(V->M V))->V->V->V->V->V->V->V->V->V->V->V->V->V->V->V->V->V->V->M V|0,_,_,_,_,_,_,_,_,_,_,_,_,_,_,_,_,_,_,_=> .fail|fu+1,k,a,b,c,d,e,f,g,h,i,j,l,m,n,o,p,q,s,t=>aW t s (mw 2 q t fun v=>bc 2 v fun w=>cC 87 z87 fun x=>aQ 2 x w fun _=>bc 4 j fun v=>bc 2 x fun w=>ai r 54 [v,b,w] fun y=>aQ 4 j y fun _=>an 3 j fun w=>dC w fun y=>aC y (k.2 bF) (ai r 55 [f] fun z=>eB z l (k.2 bF) (aq t (ii 1) fun v=>tQ Y r fu k a b c d e f g h i j l m n o p q s v))) (k.1 a b c d e f g h i j l m n o)
def Qt:List Nat:=[0,1,2,3,6,7,8,9,10,11,12,34,55,63,64,65,66,67]
def HD(Y:Nat)(r:RT)(k:(V->V->V->V->V->M V)×(V->M V))(q:V->V->V->V->V->V->V->V->V->V->V->V->V->V->M V):(V->V->V->V->V->V->V->V->V->V->V->V->V->V->M V)×(V->M V):=(fun a b c d e f g h i j l m n o=>aq o (ii 1) fun p=>q a b c d e f g h i j l m n p,fun a=>k.2 a)
def tR(Y:Nat)(r:RT):Nat->((V->V->V->V->V->M V)×(V->M V))->V->V->V->V->V->V->V->V->V->V->V->V->V->V->M V|0,_,_,_,_,_,_,_,_,_,_,_,_,_,_,_=> .fail|fu+1,k,a,b,c,d,e,f,g,h,i,j,l,m,n,o=>dV o (ii 5) fun p=>aC p (bA c fun q=>tQ Y r Y (HD Y r k (tR Y r fu k)) a b c d e f g h i j l m n o p c q (ii 0)) (k.1 b d f h j)
def wg:List Nat:=[0,1,2,3,6,7,8,9,10,11,12,34,55,63]
def Co(Y:Nat)(r:RT):(V->V->V->V->V->M V)×(V->M V):=(fun a b c d e=>bc 4 e fun f=>ai r 56 [f,a] fun g=>aQ 4 e g fun _=>bp z85 [(0,1,d),(3,1,bT)] fun f=>ai r 56 [f,a] fun g=>cC 85 z85 fun h=>aQ 4 h g fun _=>an 0 b fun g=>ai r 26 [g,a] fun i=>cC 51 z51 fun j=>aQ 2 j i fun _=>ay 3 e fun f=>(az (aP f M.ret)).bind fun g=>dC g.1 fun i=>aC i ((az (M.ret undef)).bind fun l=>(az (M.ret undef)).bind fun m=>(az (M.ret undef)).bind fun n=>(az (M.ret undef)).bind fun o=>(az (M.ret undef)).bind fun p=>(az (M.ret undef)).bind fun q=>(az (M.ret undef)).bind fun s=>(az (M.ret undef)).bind fun t=>(az (M.ret undef)).bind fun u=>(az (M.ret undef)).bind fun v=>(az (M.ret undef)).bind fun w=>dm ((!(bP m.2 n.2)&&true)&&true) (ag [bF])) ((az (ai r 48 [c] M.ret)).bind fun l=>dC l.1 fun m=>aC m ((az (M.ret undef)).bind fun n=>(az (M.ret undef)).bind fun o=>(az (M.ret undef)).bind fun p=>(az (M.ret undef)).bind fun q=>(az (M.ret undef)).bind fun s=>(az (M.ret undef)).bind fun t=>(az (M.ret undef)).bind fun u=>(az (M.ret undef)).bind fun v=>(az (M.ret undef)).bind fun w=>(az (M.ret undef)).bind fun x=>dm ((!(bP n.2 o.2)&&true)&&true) (ag [bF])) ((az (ai r 49 [c] M.ret)).bind fun n=>ay 1 j fun o=>(az (aP o M.ret)).bind fun p=>b9 n.1 p.1 ((az (M.ret undef)).bind fun s=>(az (M.ret undef)).bind fun t=>(az (M.ret undef)).bind fun u=>(az (M.ret undef)).bind fun v=>(az (M.ret undef)).bind fun w=>(az (M.ret undef)).bind fun x=>(az (M.ret undef)).bind fun y=>(az (M.ret undef)).bind fun z=>dm ((!(bP n.2 p.2)&&true)&&true) (ag [bF])) ((az (ai r 49 [d] M.ret)).bind fun s=>(az (ai r 49 [c] M.ret)).bind fun t=>b9 s.1 t.1 ((az (M.ret undef)).bind fun v=>(az (M.ret undef)).bind fun w=>(az (M.ret undef)).bind fun x=>(az (M.ret undef)).bind fun y=>(az (M.ret undef)).bind fun z=>(az (M.ret undef)).bind fun A=>dm ((!(bP n.2 p.2)&&true)&&true) (ag [bF])) ((az (ai r 57 [c] M.ret)).bind fun v=>(az (ai r 57 [d] M.ret)).bind fun w=>b9 v.1 w.1 ((az (M.ret undef)).bind fun y=>(az (M.ret undef)).bind fun z=>(az (M.ret undef)).bind fun A=>(az (M.ret undef)).bind fun B=>dm ((!(bP n.2 p.2)&&true)&&true) (ag [bF])) (ay 2 e fun y=>(az (aP y M.ret)).bind fun z=>ay 2 h fun A=>(az (aP A M.ret)).bind fun B=>b9 z.1 B.1 ((az (M.ret undef)).bind fun D=>(az (M.ret undef)).bind fun E=>dm ((!(bP n.2 p.2)&&true)&&true) (ag [bF])) ((az (ai r 50 [c] M.ret)).bind fun D=>(az (ai r 50 [d] M.ret)).bind fun E=>fG D.1 E.1 fun G=>dm ((!(bP n.2 p.2)&&true)&&true) (aC G (ag [bF]) (an 1 j fun g=>b9 g (ii 0) (an 2 e fun g=>bx g (aM {data:=#[]}) (ai r 43 [] fun m=>ag [m]) (ag [bF])) (ay 2 e fun f=>(az (aP f M.ret)).bind fun g=>ay 0 j fun l=>(az (aP l M.ret)).bind fun m=>bH m.1 fun n=>(az (ai r 52 [n] M.ret)).bind fun o=>bx g.1 o.1 ((az (ai r 50 [c] M.ret)).bind fun q=>ay 0 j fun s=>(az (aP s M.ret)).bind fun t=>bH t.1 fun u=>bx q.1 u ((az (ai r 47 [c,(ii 1)] M.ret)).bind fun w=>bx w.1 (ii 0) ((az (ai r 43 [] M.ret)).bind fun y=>dm ((!(bP g.2 o.2)&&true)&&((!(bP q.2 t.2)&&true)&&true)) (ag [y.1])) ((az (M.ret undef)).bind fun y=>dm ((!(bP g.2 o.2)&&true)&&((!(bP q.2 t.2)&&true)&&true)) (ag [bF]))) ((az (M.ret undef)).bind fun w=>(az (M.ret undef)).bind fun x=>dm ((!(bP g.2 o.2)&&true)&&((!(bP q.2 t.2)&&true)&&true)) (ag [bF]))) ((az (M.ret undef)).bind fun q=>(az (M.ret undef)).bind fun s=>(az (M.ret undef)).bind fun t=>(az (M.ret undef)).bind fun u=>dm ((!(bP g.2 o.2)&&true)&&((!(bP q.2 s.2)&&true)&&true)) (ag [bF]))))))))))),fun a=>ag [a])
def HE(Y:Nat)(r:RT)(a b c:V):M V:=dW 77 a fun d=>bc 2 d fun e=>ai r 42 [e] fun f=>dC f fun g=>aC g (ai r 43 [] fun e=>ag [e]) (an 0 d fun i=>eB i (ii 200) (ai r 43 [] fun e=>ag [e]) (bH b fun l=>eB l (ii 200) (ai r 43 [] fun e=>ag [e]) (bA c fun n=>jh n (ii 30) fun o=>aC o (ai r 43 [] fun e=>ag [e]) (an 0 d fun f=>an 1 d fun h=>ai r 44 [f,h] fun i=>aU i 0 fun j=>aU i 1 fun l=>an 0 d fun f=>ai r 44 [f,(ii 1048576)] fun g=>aU g 0 fun h=>aU g 1 fun i=>b9 l (ii 0) (ag [bF]) (fG i (ii 0) fun f=>aC f (ag [bF]) (bp z85 [(0,1,j),(3,1,bT)] fun e=>cC 85 z85 fun g=>aQ 4 g e fun _=>an 0 d fun m=>an 1 d fun p=>ai r 53 [m,p] fun q=>tR Y r Y (Co Y r) a b c d bF j l h i g q o f (ii 0)))))))
theorem Qu(K:KT):∀fu,tQ Y r fu ((fun a b c d e f g h i j l m n o=>K (.exit 2) (zp [0,1,2,
 3,6,7,8,9,10,11,12,34,55,63] [a,b,c,d,e,f,g,h,i,j,l,m,n,o]),fun a=>K .ret (zp [6] [a])))=fun a b c d e f g h i j l m n o p q s t=>aT
 (cQ 11 (pb 18 39295) Y r) Qt fu (zp Qt [a,b,c,d,e,f,g,h,i,j,l,m,n,o,p,q,s,t]) K
 |0=>by funext a b c d e f g h i j l m n o p q s t;kernel_rfl
 |fu+1=>by have k:=Qu K fu;funext a b c d e f g h i j l m n o p q s t;rw[tQ];simp only[k];kernel_rfl
theorem ad'(K:KT)(k:Nat):HD Y r ((fun a b c d e=>K (.exit 0) (zp [1,3,7,9,11] [a,b,c,
 d,e]),fun a=>K .ret (zp [6] [a]))) (fun a b c d e f g h i j l m n o=>aT (cQ 11 (pb 11 383) Y r) wg k (zp wg [a,
 b,c,d,e,f,g,h,i,j,l,m,n,o]) K)=((fun a b c d e f g h i j l m n o=>(iK 11 (pb 11 383) (pb 6 19) wg k K Y r) (.exit 2) (zp [0,1,
 2,3,6,7,8,9,10,11,12,34,55,63] [a,b,c,d,e,f,g,h,i,j,l,m,n,o]),fun a=>(iK 11 (pb 11 383) (pb 6 19) wg k K Y r) .ret (zp [6] [a]))):=by kernel_rfl
theorem Qv(K:KT):∀fu,tR Y r fu ((fun a b c d e=>K (.exit 0) (zp [1,3,7,9,11] [a,b,c,d,
 e]),fun a=>K .ret (zp [6] [a])))=fun a b c d e f g h i j l m n o=>aT (cQ 11 (pb 11 383) Y r) wg fu (zp wg [a,b,c,d,e,f,g,h,i,j,l,m,n,o]) K
 |0=>by funext a b c d e f g h i j l m n o;kernel_rfl
 |fu+1=>by have k:=Qv K fu;funext a b c d e f g h i j l m n o;rw[tR];simp only[k,ad',Qu];kernel_rfl
theorem ad_:Co Y r=((fun a b c d e=>(tK 11 (pb 10 383) Y r) (.exit 0) (zp [1,3,7,9,11] [a,
 b,c,d,e]),fun a=>(tK 11 (pb 10 383) Y r) .ret (zp [6] [a]))):=by kernel_rfl
theorem aea:ax aa gt Y r 11 #[a,b,c]=inside (HE Y r a b c):=by unfold HE;simp only[ad_,Qv];kernel_rfl
def Qw(Y:Nat)(r:RT)(a:V):M V:=fT a (ii 24) (mr a (ii 100000) fun c=>ag [c]) (ag [bF])
theorem aeb:ax aa gt Y r 14 #[a]=inside (Qw Y r a):=jK
def Cp(Y:Nat)(r:RT):Nat->(V->V->M V)->V->V->V->V->V->V->V->V->V->M V|0,_,_,_,_,_,_,_,_,_,_=> .fail|fu+1,k,a,b,c,d,e,f,g,h,i=>aW i h (mw 2 g i fun l=>bc 2 l fun m=>cC 120 yC fun n=>aQ 2 n m fun _=>aq e (aM {data:=#[48,48,49,49,48,48,48,49,48,49,48,48,48,48,48,49,48,49,48,49,49,48,48,49,48,48,49,48,48,49,49,48,48,49,48,49,48,48,49,49,48,49,48,49,49,48,48,49]}) fun l=>ay 0 n fun m=>(az (aP m M.ret)).bind fun o=>(az (bc 2 n M.ret)).bind fun p=>(az (ai r 75 [p.1] M.ret)).bind fun q=>(az (ai r 74 [o.1,q.1] M.ret)).bind fun s=>aq l s.1 fun t=>dm ((!(bP o.2 q.2)&&true)&&true) (bc 2 n fun e=>ai r 75 [e] fun l=>bO 31 1 l fun m=>bN 31 1 f m fun o=>aq i (ii 1) fun e=>Cp Y r fu k a b c d t o g h e)) (k e f)
def Qx:List Nat:=[0,1,2,6,7,8,18,19,20]
def Qy(Y:Nat)(r:RT):(V->V->M V):=fun a b=>ai r 77 [b] fun c=>aq a c fun d=>ai r 76 [d] fun e=>ag [e]
def HF(Y:Nat)(r:RT)(a b c:V):M V:=ai r 72 [a] fun d=>dR a b fun e=>cO e (ii 19) fun f=>ai r 73 [c,f] fun g=>bA g fun h=>Cp Y r Y (Qy Y r) a b c (aM {data:=#[]}) d nS g h (ii 0)
theorem Qz(K:KT):∀fu,Cp Y r fu (fun a b=>K (.exit 0) (zp [7,8] [a,b]))=fun a b c d e f g h i=>aT
 (cQ 24 (pb 7 23) Y r) Qx fu (zp Qx [a,b,c,d,e,f,g,h,i]) K
 |0=>by funext a b c d e f g h i;kernel_rfl
 |fu+1=>by have j:=Qz K fu;funext a b c d e f g h i;rw[Cp];simp only[j];kernel_rfl
theorem aec:Qy Y r=(fun a b=>(tK 24 (pb 6 23) Y r) (.exit 0) (zp [7,8] [a,b])):=jK
theorem aed:ax aa gt Y r 24 #[a,b,c]=inside (HF Y r a b c):=by unfold HF;simp only[aec,Qz];kernel_rfl
def tS(Y:Nat)(r:RT):Nat->(V->M V)->V->V->V->V->V->V->M V|0,_,_,_,_,_,_,_=> .fail|fu+1,k,a,b,c,d,e,f=>aW f e (bQ d f fun h=>aP h fun i=>ai r 78 [c,i] fun h=>aq f (ii 1) fun c=>tS Y r fu k a b h d e c) (k c)
def QA:List Nat:=[0,2,3,6,7,8]
def Cq(Y:Nat)(r:RT):(V->M V):=fun a=>ag [a]
def Cr(Y:Nat)(r:RT)(a:V):M V:=bA a fun b=>tS Y r Y (Cq Y r) a (i3 0) (i3 0) a b (ii 0)
theorem QB(K:KT):∀fu,tS Y r fu (fun a=>K (.exit 0) (zp [3] [a]))=fun a b c d e f=>aT (cQ 25
 (pb 6 11) Y r) QA fu (zp QA [a,b,c,d,e,f]) K
 |0=>by funext a b c d e f;kernel_rfl
 |fu+1=>by have g:=QB K fu;funext a b c d e f;rw[tS];simp only[g];kernel_rfl
theorem aee:Cq Y r=(fun a=>(tK 25 (pb 5 11) Y r) (.exit 0) (zp [3] [a])):=jK
theorem QC:ax aa gt Y r 25 #[a]=inside (Cr Y r a):=by unfold Cr;simp only[aee,QB];kernel_rfl
def tT(Y:Nat)(r:RT):Nat->((V->M V)×(V->M V))->V->V->V->V->V->V->V->V->M V|0,_,_,_,_,_,_,_,_,_=> .fail|fu+1,k,a,b,c,d,e,f,g,h=>aW h g (bL d (some f) none fun j=>ai r 79 [j] fun l=>b9 l (ii 0) (bp z51 [(1,1,l)] fun m=>aQ 2 c m fun _=>k.2 c) (aq f (ii 24) fun m=>aq f (ii 32) fun n=>bL d (some m) (some n) fun o=>ai r 63 [o] fun p=>dh .i64 p fun q=>cO q (ii 48) fun s=>aq f (ii 32) fun m=>bL d (some m) none fun n=>dR s a fun o=>ai r 80 [n,o] fun p=>cC 126 kf fun q=>aQ 3 q p fun _=>an 2 q fun n=>b9 n (ii 0) (an 2 q fun n=>bp z51 [(1,1,n)] fun p=>aQ 2 c p fun _=>k.2 c) (an 0 q fun n=>aq e n fun p=>aq f (ii 32) fun e=>an 1 q fun n=>aq e n fun t=>aq t (ii 7) fun u=>iS u (ii 8) fun v=>dR v (ii 8) fun w=>bH d fun e=>bx w e (bp z51 [(0,1,p)] fun e=>aQ 2 c e fun _=>k.2 c) (aq h (ii 1) fun e=>tT Y r fu k a b c d p w g e)))) (k.1 c)
def QD:List Nat:=[0,1,4,5,6,7,15,16]
def tU(Y:Nat)(r:RT):(V->M V)×(V->M V):=(fun a=>bp z51 [(1,1,(ii 24))] fun b=>aQ 2 a b fun _=>bc 2 a fun b=>ag [b],fun a=>bc 2 a fun b=>ag [b])
def HG(Y:Nat)(r:RT)(a b:V):M V:=cC 51 z51 fun c=>ai r 61 [b] fun d=>bH b fun e=>aq e (ii 1) fun f=>tT Y r Y (tU Y r) a b c d (aM {data:=#[]}) (ii 0) f (ii 0)
theorem QE(K:KT):∀fu,tT Y r fu ((fun a=>K (.exit 0) (zp [4] [a]),fun a=>K .ret (zp [4] [a])))=fun a
 b c d e f g h=>aT (cQ 26 (pb 8 47) Y r) QD fu (zp QD [a,b,c,d,e,f,g,h]) K
 |0=>by funext a b c d e f g h;kernel_rfl
 |fu+1=>by have i:=QE K fu;funext a b c d e f g h;rw[tT];simp only[i];kernel_rfl
theorem aef:tU Y r=((fun a=>(tK 26 (pb 7 47) Y r) (.exit 0) (zp [4] [a]),fun a=>(tK 26 (pb 7 47) Y r) .ret (zp [4] [a]))):=jK
theorem aeg:ax aa gt Y r 26 #[a,b]=inside (HG Y r a b):=by unfold HG;simp only[aef,QE];kernel_rfl
def HH(Y:Nat)(r:RT)(a b c:V):M V:=ai r 58 [a] fun d=>aU d 0 fun e=>aU d 1 fun f=>b9 f (ii 0) (ag [nP,(ii 1)]) (ai r 84 [b,c] fun g=>dC g fun h=>aC h (ag [nP,(ii 1)]) (ai r 59 [(aM {data:=#[]})] fun d=>bp PF [(0,1,b),(1,1,c),(3,1,d),(4,1,e)] fun g=>dW 132 g fun i=>ag [i,(ii 0)]))
theorem QF:ax aa gt Y r 29 #[a,b,c]=inside (HH Y r a b c):=jK
def HI(Y:Nat)(r:RT)(a:V):M V:=kU a nP (ak a fun c=>an 8 c fun e=>ag [e]) (ag [bF])
theorem QG:ax aa gt Y r 31 #[a]=inside (HI Y r a):=jK
def HJ(Y:Nat)(r:RT)(a:V):M V:=cJ a nP (ag [(ii 0)]) (ak a fun c=>an 9 c fun e=>ag [e])
theorem QH:ax aa gt Y r 32 #[a]=inside (HJ Y r a):=jK
def QI(Y:Nat)(r:RT)(a b c:V):M V:=aq b c fun d=>dR (ii 36) a fun e=>aq d e fun f=>aq f (ii 40960) fun g=>ag [g]
theorem aeh:ax aa gt Y r 33 #[a,b,c]=inside (QI Y r a b c):=jK
def QJ(Y:Nat)(r:RT)(a:V):M V:=cJ a nP (ag [(ii 0)]) (ak a fun c=>ay 3 c fun d=>(az (aP d M.ret)).bind fun e=>(az (ai r 85 [e.1] M.ret)).bind fun f=>ak a fun g=>ay 4 g fun h=>(az (aP h M.ret)).bind fun i=>(az (ai r 86 [i.1] M.ret)).bind fun j=>aq f.1 j.1 fun l=>ak a fun m=>ay 7 m fun n=>(az (aP n M.ret)).bind fun o=>bA o.1 fun p=>aq l p fun q=>dm ((!(bP f.2 i.2)&&(!(bP f.2 o.2)&&true))&&((!(bP j.2 o.2)&&true)&&true)) (ak a fun c=>an 5 c fun e=>kU e nP (ak a fun c=>an 5 c fun e=>ak e fun g=>an 3 g fun i=>ai r 87 [i] fun j=>aq q j fun l=>ag [l]) (ag [q])))
theorem aei:ax aa gt Y r 35 #[a]=inside (QJ Y r a):=jK
def HK(Y:Nat)(r:RT)(a:V):M V:=cJ a nP (ag [(ii 0)]) (ak a fun c=>an 7 c fun e=>bA e fun f=>ag [f])
theorem QL:ax aa gt Y r 36 #[a]=inside (HK Y r a):=jK
def HL(Y:Nat)(r:RT)(a:V):M V:=cJ a nP (ag [bT]) (ak a fun c=>an 8 c fun e=>aC e (ag [bT]) (ak a fun b=>an 5 b fun d=>kU d nP (ak a fun b=>an 7 b fun d=>bA d fun g=>ak a fun h=>an 1 h fun j=>qu g j fun l=>ag [l]) (ak a fun b=>an 6 b fun d=>ag [d])))
theorem QM:ax aa gt Y r 37 #[a]=inside (HL Y r a):=jK
def HM(Y:Nat)(r:RT)(a:V):M V:=cJ a nP (ag [(ii 0)]) (ak a fun c=>an 10 c fun e=>ag [e])
theorem QN:ax aa gt Y r 38 #[a]=inside (HM Y r a):=jK
def rM(Y:Nat)(r:RT):Nat->(V->V->M V)->V->V->V->V->M V|0,_,_,_,_,_=> .fail|fu+1,k,a,b,c,d=>aW d b (ai r 37 [a] fun f=>dC f fun g=>aC g (ak a fun e=>an 5 e fun h=>kU h nP (ai r 88 [a] fun e=>aq d (ii 1) fun e=>rM Y r fu k a b c e) (ai r 89 [a] fun e=>dC e fun f=>aC f (rM Y r fu k a b c d) (aq d (ii 1) fun e=>rM Y r fu k a b c e))) (k a d)) (k a d)
def QO:List Nat:=[0,1,4,5]
def yE(Y:Nat)(r:RT):(V->V->M V):=fun a b=>kU a nP (ak a fun d=>an 10 d fun f=>aq f b fun g=>ak a fun h=>ay 10 h fun i=>aJ i g fun _=>ag [b]) (ag [b])
def Cs(Y:Nat)(r:RT)(a b:V):M V:=rM Y r Y (yE Y r) a b (ii 0) (ii 0)
theorem QP(K:KT):∀fu,rM Y r fu (fun a b=>K (.exit 0) (zp [0,5] [a,b]))=fun a b c d=>
 aT (cQ 39 (pb 5 3) Y r) QO fu (zp QO [a,b,c,d]) K
 |0=>by funext a b c d;kernel_rfl
 |fu+1=>by have e:=QP K fu;funext a b c d;rw[rM];simp only[e];kernel_rfl
theorem aej:yE Y r=(fun a b=>(tK 39 (pb 4 3) Y r) (.exit 0) (zp [0,5] [a,b])):=jK
theorem QQ:ax aa gt Y r 39 #[a,b]=inside (Cs Y r a b):=by unfold Cs;simp only[aej,QP];kernel_rfl
def HN(Y:Nat)(r:RT)(a b:V):M V:=cJ a nP (ag [(ii 0)]) (ak a fun d=>an 2 d fun f=>aC f (ag [(ii 0)]) (ak a fun g=>an 8 g fun i=>aC i (ag [(ii 0)]) (bH b fun c=>ak a fun d=>ay 0 d fun e=>(az (aP e M.ret)).bind fun f=>ak a fun g=>ay 3 g fun h=>(az (aP h M.ret)).bind fun j=>(az (ai r 85 [j.1] M.ret)).bind fun l=>cO f.1 l.1 fun m=>kO c m fun n=>dm ((!(bP f.2 l.2)&&true)&&true) (ak a fun c=>an 3 c fun e=>bL b none (some n) fun f=>ai r 90 [e,f] fun g=>eB n (ii 0) (ak a fun d=>ay 6 d fun e=>aJ e bF fun _=>ag [n]) (ag [n])))))
theorem QR:ax aa gt Y r 40 #[a,b]=inside (HN Y r a b):=jK
def QS(Y:Nat)(r:RT)(a:V):M V:=dW 77 a fun b=>an 0 b fun d=>an 1 b fun f=>ai r 91 [d,f] fun g=>ag [g]
theorem aek:ax aa gt Y r 42 #[a]=inside (QS Y r a):=jK
def HO(Y:Nat)(r:RT):M V:=ai r 44 [(ii 24),(ii 64)] fun a=>aU a 0 fun b=>aU a 1 fun c=>ai r 24 [(ii 1),(ii 24),(aM {data:=#[97,98,99]})] fun a=>ai r 45 [b,a] fun d=>ai r 47 [b,(ii 100000)] fun a=>ai r 46 [b] fun e=>ai r 47 [b,(ii 100000)] fun f=>bx c (ii 0) (bx e (ii 0) (eB d (ii 14) (eB a (ii 9) (bx f (ii 1) (ai r 48 [b] fun m=>aC m (ai r 49 [b] fun n=>bx n (ii 0) (ai r 50 [b] fun p=>bx p (ii 3) (ai r 57 [b] fun s=>aq a (ii 1) fun t=>bx s t (ai r 92 [b,(ii 9)] fun v=>cH v (aM {data:=#[51]}) fun w=>ag [w]) (ag [bF])) (ag [bF])) (ag [bF])) (ag [bF])) (ag [bF])) (ag [bF])) (ag [bF])) (ag [bF])) (ag [bF])
theorem QT:ax aa gt Y r 43 #[]=inside (HO Y r):=jK
def HP(Y:Nat)(r:RT)(a b:V):M V:=ai r 29 [a,b,(ii 4096)] fun c=>aU c 0 fun d=>aU c 1 fun e=>b9 e (ii 0) (ag [nP,e]) (bp PG [(0,1,d)] fun f=>bp PH [(0,2,f)] fun g=>dW 144 g fun h=>ag [h,(ii 0)])
theorem QU:ax aa gt Y r 44 #[a,b]=inside (HP Y r a b):=jK
def HQ(Y:Nat)(r:RT)(a b:V):M V:=cJ a nP (ag [(ii 0)]) (ak a fun d=>ay 0 d fun e=>an 0 e fun g=>ai r 40 [g,b] fun h=>ag [h])
theorem QW:ax aa gt Y r 45 #[a,b]=inside (HQ Y r a b):=jK
def HR(Y:Nat)(r:RT)(a:V):M V:=cJ a nP (ag [(ii 7)]) (ak a fun c=>ay 0 c fun d=>an 0 d fun f=>ai r 82 [f] fun g=>ag [g])
theorem QX:ax aa gt Y r 46 #[a]=inside (HR Y r a):=jK
def pA(Y:Nat)(r:RT):Nat->(V->V->M V)->V->V->V->V->V->M V|0,_,_,_,_,_,_=> .fail|fu+1,k,a,b,c,d,e=>aW d b (ai r 93 [a] fun g=>dC g fun h=>aC h (ak a fun f=>ay 0 f fun g=>an 0 g fun j=>cO b d fun l=>ai r 39 [j,l] fun m=>aq d m fun n=>ak a fun d=>ay 0 d fun f=>an 0 f fun i=>ai r 36 [i] fun j=>fT j (ii 4096) (ak a fun d=>ay 0 d fun f=>ai r 94 [f] fun g=>pA Y r fu k a b c n e) (ak a fun m=>ay 0 m fun o=>an 0 o fun q=>ai r 31 [q] fun s=>aC s (ak a fun d=>ay 0 d fun f=>ai r 94 [f] fun g=>pA Y r fu k a b c n e) (pA Y r fu k a b c n e))) (k a d)) (k a d)
def QY:List Nat:=[0,1,4,5,7]
def tV(Y:Nat)(r:RT):(V->V->M V):=fun a b=>ai r 95 [a] fun c=>ag [b]
def Ct(Y:Nat)(r:RT)(a b:V):M V:=qv a nP fun c=>aC c (ag [(ii 0)]) (pA Y r Y (tV Y r) a b (ii 0) (ii 0) c)
theorem QZ(K:KT):∀fu,pA Y r fu (fun a b=>K (.exit 0) (zp [0,5] [a,b]))=fun a b c d e=>aT
 (cQ 47 (pb 6 7) Y r) QY fu (zp QY [a,b,c,d,e]) K
 |0=>by funext a b c d e;kernel_rfl
 |fu+1=>by have f:=QZ K fu;funext a b c d e;rw[pA];simp only[f];kernel_rfl
theorem ael:tV Y r=(fun a b=>(tK 47 (pb 5 7) Y r) (.exit 0) (zp [0,5] [a,b])):=jK
theorem Q3:ax aa gt Y r 47 #[a,b]=inside (Ct Y r a b):=by unfold Ct;simp only[ael,QZ];kernel_rfl
def HS(Y:Nat)(r:RT)(a:V):M V:=kU a nP (ak a fun c=>ay 0 c fun d=>an 0 d fun f=>ai r 31 [f] fun g=>ag [g]) (ag [bF])
theorem Q4:ax aa gt Y r 48 #[a]=inside (HS Y r a):=jK
def HU(Y:Nat)(r:RT)(a:V):M V:=cJ a nP (ag [(ii 0)]) (ak a fun c=>ay 0 c fun d=>an 0 d fun f=>ai r 32 [f] fun g=>ag [g])
theorem Q5:ax aa gt Y r 49 #[a]=inside (HU Y r a):=jK
def HV(Y:Nat)(r:RT)(a:V):M V:=cJ a nP (ag [(ii 0)]) (ak a fun c=>ay 0 c fun d=>an 1 d fun f=>ag [f])
theorem Q6:ax aa gt Y r 50 #[a]=inside (HV Y r a):=jK
def Q7(Y:Nat)(r:RT)(a:V):M V:=cJ a nP (ag [(ii 0)]) (ak a fun c=>an 2 c fun e=>bH e fun f=>ag [f])
theorem aem:ax aa gt Y r 51 #[a]=inside (Q7 Y r a):=jK
def tW(Y:Nat)(r:RT):Nat->(V->M V)->V->V->V->V->M V|0,_,_,_,_,_=> .fail|fu+1,k,a,b,c,d=>fT a (ii 10) (iS a (ii 10) fun f=>kN f (ii 10) fun a=>kN f (ii 10) fun g=>aq g (ii 1) fun h=>bL (aM {data:=#[48,49,50,51,52,53,54,55,56,57]}) (some a) (some h) fun i=>aq i c fun j=>tW Y r fu k f b j d) (k c)
def Q8:List Nat:=[0,2,3,5]
def yF(Y:Nat)(r:RT):(V->M V):=fun a=>ag [a]
def HW(Y:Nat)(r:RT)(a:V):M V:=dV a (ii 0) fun b=>(fun c=>aC b (c (ii 0)) (c a)) fun a=>kN a (ii 10) fun c=>kN a (ii 10) fun d=>aq d (ii 1) fun e=>bL (aM {data:=#[48,49,50,51,52,53,54,55,56,57]}) (some c) (some e) fun f=>tW Y r Y (yF Y r) a (aM {data:=#[]}) f b
theorem Q9(K:KT):∀fu,tW Y r fu (fun a=>K (.exit 0) (zp [3] [a]))=fun a b c d=>aT (cQ 52 (pb 6
 7) Y r) Q8 fu (zp Q8 [a,b,c,d]) K
 |0=>by funext a b c d;kernel_rfl
 |fu+1=>by have e:=Q9 K fu;funext a b c d;rw[tW];simp only[e];kernel_rfl
theorem aen:yF Y r=(fun a=>(tK 52 (pb 5 7) Y r) (.exit 0) (zp [3] [a])):=jK
theorem aeo:ax aa gt Y r 52 #[a]=inside (HW Y r a):=by unfold HW;simp only[aen,Q9];kernel_rfl
def Ra(Y:Nat)(r:RT)(a b:V):M V:=ai r 33 [a,b,(ii 4096)] fun c=>aq c (ii 32) fun d=>ag [d]
theorem aep:ax aa gt Y r 53 #[a,b]=inside (Ra Y r a b):=jK
def Rb(Y:Nat)(r:RT)(a b c:V):M V:=dW 85 a fun d=>dW 87 c fun e=>cC 85 z85 fun f=>an 0 e fun h=>cH h (ii 0) fun g=>(fun i=>aC g (an 1 e fun l=>nO l (ii 0) fun m=>bH b fun n=>an 1 d fun p=>cO n p fun q=>kO m q fun s=>an 0 d fun l=>an 1 d fun n=>an 1 d fun p=>aq p s fun q=>bL b (some n) (some q) fun t=>ai r 45 [l,t] fun u=>aW u (ii 0) (an 0 d fun l=>bp z85 [(0,1,l)] fun m=>aQ 4 f m fun _=>bc 4 f fun a=>ag [a]) (eB u s (an 0 d fun m=>bp z85 [(0,1,m)] fun n=>aQ 4 f n fun _=>bc 4 f fun a=>ag [a]) (an 1 d fun m=>aq m u fun n=>ay 1 d fun o=>aJ o n fun _=>an 1 d fun m=>bH b fun n=>bx m n (an 0 d fun m=>ai r 46 [m] fun n=>i) (i)))) (bx h (ii 1) (an 0 d fun m=>ai r 57 [m] fun n=>an 0 d fun m=>ai r 93 [m] fun o=>an 0 d fun m=>an 1 e fun q=>ai r 47 [m,q] fun s=>an 3 d fun m=>aC m (fT s (ii 0) (an 1 e fun t=>nO t (ii 0) fun u=>vY s u (an 0 d fun x=>ai r 57 [x] fun y=>aq n s fun z=>bx y z (bx s (ii 0) (an 1 e fun D=>nO D (ii 0) fun E=>bx s E (ay 3 d fun J=>aJ J bT fun _=>i) (an 0 d fun L=>ai r 93 [L] fun N=>ay 3 d fun O=>aJ O N fun _=>i)) (dC o fun C=>aC C (an 1 e fun E=>nO E (ii 0) fun G=>bx s G (ay 3 d fun L=>aJ L bT fun _=>i) (an 0 d fun N=>ai r 93 [N] fun O=>ay 3 d fun Q=>aJ Q O fun _=>i)) (ay 3 d fun D=>aJ D bF fun _=>i))) (ay 3 d fun B=>aJ B bF fun _=>i)) (ay 3 d fun w=>aJ w bF fun _=>i)) (ay 3 d fun q=>aJ q bF fun _=>i)) (ay 3 d fun p=>aJ p bF fun _=>i)) (an 0 d fun m=>ai r 51 [m] fun n=>an 0 d fun m=>an 1 e fun p=>ai r 92 [m,p] fun q=>an 3 d fun m=>aC m (bH q fun o=>an 1 e fun s=>nO s (ii 0) fun t=>kO n t fun u=>bx o u (an 0 d fun x=>ai r 51 [x] fun y=>bH q fun z=>cO n z fun A=>cH y A fun B=>ay 3 d fun C=>aJ C B fun _=>an 2 d fun m=>aq m q fun o=>ay 2 d fun p=>aJ p o fun _=>i) (ay 3 d fun w=>aJ w bF fun _=>an 2 d fun m=>aq m q fun o=>ay 2 d fun p=>aJ p o fun _=>i)) (ay 3 d fun o=>aJ o bF fun _=>an 2 d fun m=>aq m q fun o=>ay 2 d fun p=>aJ p o fun _=>i)))) (bc 4 d fun i=>aQ 4 f i fun _=>bc 4 f fun a=>ag [a])
theorem aeq:ax aa gt Y r 54 #[a,b,c]=inside (Rb Y r a b c):=jK
def Rc(Y:Nat)(r:RT)(a:V):M V:=cJ a nP (ag [(ii 0)]) (ak a fun c=>ay 0 c fun d=>ay 0 d fun e=>(az (aP e M.ret)).bind fun f=>(az (ai r 35 [f.1] M.ret)).bind fun g=>ak a fun h=>ay 2 h fun i=>(az (aP i M.ret)).bind fun j=>bH j.1 fun l=>aq g.1 l fun m=>dm ((!(bP g.2 j.2)&&true)&&true) (ag [m]))
theorem aer:ax aa gt Y r 55 #[a]=inside (Rc Y r a):=jK
def wj(Y:Nat)(r:RT):Nat->(V->V->M V)->V->V->V->V->V->M V|0,_,_,_,_,_,_=> .fail|fu+1,k,a,b,c,d,e=>aW e (ii 2000) (an 0 c fun h=>ai r 48 [h] fun i=>aC i (k c d) (bc 4 c fun g=>bH b fun h=>bp z87 [(1,1,h)] fun j=>ai r 54 [g,b,j] fun l=>aQ 4 c l fun _=>an 0 c fun h=>ai r 47 [h,(ii 1000000)] fun j=>aq e (ii 1) fun g=>wj Y r fu k a b c d g)) (k c d)
def Rd:List Nat:=[0,1,2,4,5]
def Cu(Y:Nat)(r:RT):(V->V->M V):=fun a b=>ay 2 a fun c=>(az (aP c M.ret)).bind fun d=>ay 0 a fun e=>(az (aP e M.ret)).bind fun f=>(az (ai r 92 [f.1,(ii 1000)] M.ret)).bind fun g=>aq d.1 g.1 fun h=>ay 2 a fun i=>(az (aJ i h M.ret)).bind fun j=>dm ((!(bP d.2 g.2)&&true)&&true) (bc 4 a fun c=>aQ 4 b c fun _=>bc 4 b fun a=>ag [a])
def HX(Y:Nat)(r:RT)(a b:V):M V:=dW 85 a fun c=>cC 85 z85 fun d=>wj Y r Y (Cu Y r) a b c d (ii 0)
theorem Re(K:KT):∀fu,wj Y r fu (fun a b=>K (.exit 0) (zp [2,4] [a,b]))=fun a b c d e=>aT
 (cQ 56 (pb 5 5) Y r) Rd fu (zp Rd [a,b,c,d,e]) K
 |0=>by funext a b c d e;kernel_rfl
 |fu+1=>by have f:=Re K fu;funext a b c d e;rw[wj];simp only[f];kernel_rfl
theorem aes:Cu Y r=(fun a b=>(tK 56 (pb 4 5) Y r) (.exit 0) (zp [2,4] [a,b])):=jK
theorem aet:ax aa gt Y r 56 #[a,b]=inside (HX Y r a b):=by unfold HX;simp only[aes,Re];kernel_rfl
def HY(Y:Nat)(r:RT)(a:V):M V:=cJ a nP (ag [(ii 0)]) (ak a fun c=>ay 0 c fun d=>an 0 d fun f=>ai r 38 [f] fun g=>ag [g])
theorem Rf:ax aa gt Y r 57 #[a]=inside (HY Y r a):=jK
def HZ(Y:Nat)(r:RT)(a:V):M V:=ai r 96 [(ii 1),a] fun b=>aU b 0 fun c=>aU b 1 fun d=>b9 d (ii 0) (ag [nP,d]) (bp PI [(0,1,a)] fun c=>dW 150 c fun e=>ag [e,(ii 0)])
theorem Rg:ax aa gt Y r 58 #[a]=inside (HZ Y r a):=jK
def H2(Y:Nat)(r:RT)(a:V):M V:=bp z152 [(0,1,a)] fun b=>dW 152 b fun c=>ag [c]
theorem Rh:ax aa gt Y r 59 #[a]=inside (H2 Y r a):=jK
def tX(Y:Nat)(r:RT):Nat->(V->M V)->V->V->V->V->M V|0,_,_,_,_,_=> .fail|fu+1,k,a,b,c,d=>bH a fun e=>aW d e (cU a d fun e=>dh .u32 e fun g=>ai r 103 [g,(ii 8)] fun h=>aq c h fun i=>aq d (ii 1) fun c=>tX Y r fu k a b i c) (k c)
def Ri:List Nat:=[0,2,3,4]
def Cv(Y:Nat)(r:RT):(V->M V):=fun a=>ag [a]
def Cw(Y:Nat)(r:RT)(a:V):M V:=tX Y r Y (Cv Y r) a (aM {data:=#[]}) (aM {data:=#[]}) (ii 0)
theorem Rj(K:KT):∀fu,tX Y r fu (fun a=>K (.exit 0) (zp [3] [a]))=fun a b c d=>aT (cQ 61 (pb 6 11)
 Y r) Ri fu (zp Ri [a,b,c,d]) K
 |0=>by funext a b c d;kernel_rfl
 |fu+1=>by have e:=Rj K fu;funext a b c d;rw[tX];simp only[e];kernel_rfl
theorem aeu:Cv Y r=(fun a=>(tK 61 (pb 5 11) Y r) (.exit 0) (zp [3] [a])):=jK
theorem Rk:ax aa gt Y r 61 #[a]=inside (Cw Y r a):=by unfold Cw;simp only[aeu,Rj];kernel_rfl
def pB(Y:Nat)(r:RT):Nat->(V->M V)->V->V->V->V->M V|0,_,_,_,_,_=> .fail|fu+1,k,a,b,c,d=>bH a fun e=>aW d e (dR (i3 2) c fun e=>cU a d fun g=>cO g (i1 48) fun h=>dh .u32 h fun i=>aq e i fun j=>aq d (ii 1) fun c=>pB Y r fu k a b j c) (k c)
def Rl:List Nat:=[0,2,3,4]
def wk(Y:Nat)(r:RT):(V->M V):=fun a=>ag [a]
def yG(Y:Nat)(r:RT)(a:V):M V:=pB Y r Y (wk Y r) a (i3 0) (i3 0) (ii 0)
theorem Rm(K:KT):∀fu,pB Y r fu (fun a=>K (.exit 0) (zp [3] [a]))=fun a b c d=>aT (cQ 63 (pb 6
 11) Y r) Rl fu (zp Rl [a,b,c,d]) K
 |0=>by funext a b c d;kernel_rfl
 |fu+1=>by have e:=Rm K fu;funext a b c d;rw[pB];simp only[e];kernel_rfl
theorem aev:wk Y r=(fun a=>(tK 63 (pb 5 11) Y r) (.exit 0) (zp [3] [a])):=jK
theorem H3:ax aa gt Y r 63 #[a]=inside (yG Y r a):=by unfold yG;simp only[aev,Rm];kernel_rfl
def Rn(Y:Nat)(r:RT)(a:V):M V:=aq a (ii 1) fun b=>bL (aM {data:=#[48,49,50,51,52,53,54,55,56,57]}) (some a) (some b) fun c=>aq (aM {data:=#[66,90,104]}) c fun d=>ai r 61 [d] fun e=>ag [e]
theorem aew:ax aa gt Y r 72 #[a]=inside (Rn Y r a):=jK
def Cx(Y:Nat)(r:RT):Nat->(V->V->V->V->V->V->V->V->M V)->V->V->V->V->V->V->V->V->V->V->V->V->V->V->M V|0,_,_,_,_,_,_,_,_,_,_,_,_,_,_,_=> .fail|fu+1,k,a,b,c,d,e,f,g,h,i,j,l,m,n,o=>aW o n (an 1 e fun s=>an 0 f fun u=>bO 5 1 u fun v=>hC v fun w=>aq s w fun x=>ay 1 e fun y=>aJ y x fun _=>aq o (ii 1) fun q=>Cx Y r fu k a b c d e f g h i j l m n q) (k a b c d e h i j)
def Ro:List Nat:=[0,1,4,5,6,8,9,12,13,14,15,27,39,40]
def Rp(Y:Nat)(r:RT)(k:(V->V->M V))(j:V->V->V->V->V->V->V->V->M V):(V->V->V->V->V->V->V->V->M V):=fun a b c d e f g h=>aq h (ii 1) fun i=>j a b c d e f g i
def Cy(Y:Nat)(r:RT):Nat->(V->V->M V)->V->V->V->V->V->V->V->V->M V|0,_,_,_,_,_,_,_,_,_=> .fail|fu+1,k,a,b,c,d,e,f,g,h=>dV h g fun i=>aC i (mw 2 f h fun j=>bc 2 j fun l=>cC 168 z168 fun m=>aQ 2 m l fun _=>bc 2 m fun j=>ai r 109 [j] fun l=>an 0 e fun n=>bH n fun o=>bH l fun p=>aq o p fun q=>jh q b fun s=>(fun n=>aC s (bc 2 e fun j=>bO 120 2 j fun o=>bN 120 2 d o fun p=>bp yC [] fun j=>aQ 2 e j fun _=>n p) (n d)) fun d=>an 0 e fun n=>aq n l fun o=>ay 0 e fun p=>aJ p o fun _=>an 1 m fun n=>Cx Y r Y (Rp Y r k (Cy Y r fu k)) a b c d e m l f g h i s n (ii 0)) (k d e)
def yH:List Nat:=[0,1,4,5,6,12,13,14]
def Rq(Y:Nat)(r:RT):(V->V->M V):=fun a b=>an 0 b fun d=>bH d fun e=>eB e (ii 0) (bc 2 b fun c=>bO 120 2 c fun d=>bN 120 2 a d fun e=>ag [e]) (ag [a])
def H4(Y:Nat)(r:RT)(a b:V):M V:=bp yC [] fun c=>cC 120 yC fun d=>aQ 2 d c fun _=>ai r 108 [a] fun c=>bA c fun e=>Cy Y r Y (Rq Y r) a b nS nS d c e (ii 0)
theorem Rr(K:KT):∀fu,Cx Y r fu (fun a b c d e f g h=>K (.exit 2) (zp [0,1,4,5,6,12,13,14] [a,b,c,d,
 e,f,g,h]))=fun a b c d e f g h i j l m n o=>aT (cQ 73 (pb 18 63895) Y r) Ro fu (zp Ro [a,b,c,d,e,f,g,h,i,j,l,m,n,o]) K
 |0=>by funext a b c d e f g h i j l m n o;kernel_rfl
 |fu+1=>by have k:=Rr K fu;funext a b c d e f g h i j l m n o;rw[Cx];simp only[k];kernel_rfl
theorem aex(K:KT)(i:Nat):Rp Y r (fun a b=>K (.exit 0) (zp [5,6] [a,b])) (fun a b c d e f g h=>aT (cQ
 73 (pb 7 23) Y r) yH i (zp yH [a,b,c,d,e,f,g,h]) K)=(fun a b c d e f g h=>(iK 73 (pb 7 23) (pb 10 499) yH i K
 Y r) (.exit 2) (zp [0,1,4,5,6,12,13,14] [a,b,c,d,e,f,g,h])):=by kernel_rfl
theorem Rt(K:KT):∀fu,Cy Y r fu (fun a b=>K (.exit 0) (zp [5,6] [a,b]))=fun a b c d e f g h=>aT (cQ
 73 (pb 7 23) Y r) yH fu (zp yH [a,b,c,d,e,f,g,h]) K
 |0=>by funext a b c d e f g h;kernel_rfl
 |fu+1=>by have i:=Rt K fu;funext a b c d e f g h;rw[Cy];simp only[i,aex,Rr];kernel_rfl
theorem aey:Rq Y r=(fun a b=>(tK 73 (pb 6 23) Y r) (.exit 0) (zp [5,6] [a,b])):=jK
theorem aez:ax aa gt Y r 73 #[a,b]=inside (H4 Y r a b):=by unfold H4;simp only[aey,Rt];kernel_rfl
def Ru(Y:Nat)(r:RT)(a b:V):M V:=ai r 110 [a] fun c=>cC 171 z171 fun d=>aQ 2 d c fun _=>an 0 d fun e=>an 1 d fun g=>bp z157 [(0,1,e),(1,1,g),(2,1,b)] fun h=>ai r 111 [h] fun i=>ag [i]
theorem aeA:ax aa gt Y r 74 #[a,b]=inside (Ru Y r a b):=jK
def Rv(Y:Nat)(r:RT)(a:V):M V:=dW 120 a fun b=>an 1 b fun d=>ai r 112 [d] fun e=>ag [e]
theorem aeB:ax aa gt Y r 75 #[a]=inside (Rv Y r a):=jK
def Rx(Y:Nat)(r:RT)(a:V):M V:=ai r 114 [a] fun b=>ai r 113 [b] fun c=>ag [c]
theorem aeC:ax aa gt Y r 76 #[a]=inside (Rx Y r a):=jK
def Ry(Y:Nat)(r:RT)(a:V):M V:=ai r 25 [a] fun b=>ai r 103 [b,(ii 32)] fun c=>aq (aM {data:=#[48,48,48,49,48,49,49,49,48,49,49,49,48,48,49,48,48,49,48,48,48,49,48,49,48,48,49,49,49,48,48,48,48,49,48,49,48,48,48,48,49,48,48,49,48,48,48,48]}) c fun d=>ag [d]
theorem aeD:ax aa gt Y r 77 #[a]=inside (Ry Y r a):=jK
def H5(Y:Nat)(r:RT)(a b:V):M V:=dR a (i3 2) fun c=>fT a (i3 2147483648) (aq c (i3 1) fun e=>nN e b fun c=>ag [c]) (nN c b fun e=>ag [e])
theorem Rz:ax aa gt Y r 78 #[a,b]=inside (H5 Y r a b):=jK
def mB(Y:Nat)(r:RT):Nat->((M V)×(V->M V))->V->V->V->V->M V|0,_,_,_,_,_=> .fail|fu+1,k,a,b,c,d=>aW d (ii 4) (bH a fun f=>dR (ii 8) d fun g=>aq g (ii 8) fun h=>aW f h (k.2 (ii 24)) (dR (ii 8) d fun f=>dR (ii 8) d fun g=>aq g (ii 8) fun h=>bL a (some f) (some h) fun j=>aW d (ii 3) (dR (ii 8) d fun g=>dR (ii 8) d fun h=>aq h (ii 8) fun l=>bL c (some g) (some l) fun m=>b9 j m (k.2 (ii 20)) (bx d (ii 3) (ai r 63 [j] fun g=>aW g (i3 49) (k.2 (ii 20)) (ai r 63 [j] fun l=>eB l (i3 57) (k.2 (ii 20)) (aq d (ii 1) fun f=>mB Y r fu k a b c f))) (aq d (ii 1) fun f=>mB Y r fu k a b c f))) (bx d (ii 3) (ai r 63 [j] fun g=>aW g (i3 49) (k.2 (ii 20)) (ai r 63 [j] fun l=>eB l (i3 57) (k.2 (ii 20)) (aq d (ii 1) fun f=>mB Y r fu k a b c f))) (aq d (ii 1) fun f=>mB Y r fu k a b c f)))) (k.1)
def RA:List Nat:=[0,2,3,7]
def nY(Y:Nat)(r:RT):(M V)×(V->M V):=(ag [(ii 0)],fun a=>ag [a])
def H6(Y:Nat)(r:RT)(a:V):M V:=ai r 61 [(aM {data:=#[66,90,104]})] fun b=>mB Y r Y (nY Y r) a (ii 0) b (ii 0)
theorem RC(K:KT):∀fu,mB Y r fu ((K (.exit 0) [],fun a=>K .ret (zp [2] [a])))=fun a b c d=>aT
 (cQ 79 (pb 6 11) Y r) RA fu (zp RA [a,b,c,d]) K
 |0=>by funext a b c d;kernel_rfl
 |fu+1=>by have e:=RC K fu;funext a b c d;rw[mB];simp only[e];kernel_rfl
theorem aeE:nY Y r=(((tK 79 (pb 5 11) Y r) (.exit 0) [],fun a=>(tK 79 (pb 5 11) Y r) .ret (zp [2] [a]))):=jK
theorem aeF:ax aa gt Y r 79 #[a]=inside (H6 Y r a):=by unfold H6;simp only[aeE,RC];kernel_rfl
def wo(Y:Nat)(r:RT):Nat->((V->M V)×(V->M V))->V->V->V->V->V->V->V->M V|0,_,_,_,_,_,_,_,_=> .fail|fu+1,k,a,b,c,d,e,f,g=>aW g f (bH a fun i=>an 1 d fun l=>cO i l fun m=>aW m (ii 48) (bp kf [(2,1,(ii 24))] fun i=>aQ 3 c i fun _=>k.2 c) (an 1 d fun j=>an 1 d fun m=>aq m (ii 48) fun o=>bL a (some j) (some o) fun p=>an 1 d fun j=>aq j (ii 48) fun l=>bx p (aM {data:=#[48,48,48,49,48,49,49,49,48,49,49,49,48,48,49,48,48,49,48,48,48,49,48,49,48,48,49,49,49,48,48,48,48,49,48,49,48,48,48,48,49,48,48,49,48,48,48,48]}) (bH a fun j=>cO j l fun m=>aW m (ii 32) (bp kf [(2,1,(ii 24))] fun j=>aQ 3 c j fun _=>k.2 c) (aq l (ii 32) fun j=>bL a (some l) (some j) fun m=>ai r 63 [m] fun q=>ai r 25 [e] fun s=>b9 q s (bp kf [(2,1,(ii 21))] fun j=>aQ 3 c j fun _=>k.2 c) (an 0 d fun m=>aq l (ii 32) fun q=>bp kf [(0,1,m),(1,1,q)] fun s=>aQ 3 c s fun _=>k.2 c))) (b9 p (aM {data:=#[48,48,49,49,48,48,48,49,48,49,48,48,48,48,48,49,48,49,48,49,49,48,48,49,48,48,49,48,48,49,49,48,48,49,48,49,48,48,49,49,48,49,48,49,49,48,48,49]}) (bp kf [(2,1,(ii 20))] fun m=>aQ 3 c m fun _=>k.2 c) (bL a (some l) none fun m=>ai r 104 [m,b] fun o=>cC 159 z159 fun q=>aQ 6 q o fun _=>an 5 q fun o=>bx o (ii 3) (bp kf [(2,1,(ii 24))] fun m=>aQ 3 c m fun _=>k.2 c) (an 5 q fun o=>b9 o (ii 0) (an 5 q fun o=>bp kf [(2,1,o)] fun u=>aQ 3 c u fun _=>k.2 c) (ay 0 q fun m=>bc 3 m fun o=>ai r 105 [o] fun u=>aU u 0 fun v=>aU u 1 fun w=>b9 w (ii 0) (bp kf [(2,1,w)] fun o=>aQ 3 c o fun _=>k.2 c) (ay 0 q fun o=>an 2 o fun x=>bO 31 1 x fun y=>bN 31 1 e y fun z=>an 0 d fun o=>aq o v fun u=>an 3 q fun y=>aq l y fun A=>bp kf [(0,1,u),(1,1,A)] fun B=>aQ 3 d B fun _=>aq g (ii 1) fun e=>wo Y r fu k a b c d z f e))))))) (k.1 c)
def RD:List Nat:=[0,1,4,5,6,15,16]
def wv(Y:Nat)(r:RT):(V->M V)×(V->M V):=(fun a=>bp kf [(2,1,(ii 24))] fun b=>aQ 3 a b fun _=>bc 3 a fun b=>ag [b],fun a=>bc 3 a fun b=>ag [b])
def H7(Y:Nat)(r:RT)(a b:V):M V:=cC 126 kf fun c=>bp kf [] fun d=>cC 126 kf fun e=>aQ 3 e d fun _=>bH a fun d=>aq d (ii 1) fun f=>wo Y r Y (wv Y r) a b c e nS f (ii 0)
theorem RE(K:KT):∀fu,wo Y r fu ((fun a=>K (.exit 0) (zp [4] [a]),fun a=>K .ret (zp [4] [a])))=fun a b
 c d e f g=>aT (cQ 80 (pb 7 23) Y r) RD fu (zp RD [a,b,c,d,e,f,g]) K
 |0=>by funext a b c d e f g;kernel_rfl
 |fu+1=>by have h:=RE K fu;funext a b c d e f g;rw[wo];simp only[h];kernel_rfl
theorem aeG:wv Y r=((fun a=>(tK 80 (pb 6 23) Y r) (.exit 0) (zp [4] [a]),fun a=>(tK 80 (pb 6 23) Y r) .ret (zp [4] [a]))):=jK
theorem aeH:ax aa gt Y r 80 #[a,b]=inside (H7 Y r a b):=by unfold H7;simp only[aeG,RE];kernel_rfl
def RF(Y:Nat)(r:RT)(a b c:V):M V:=ai r 14 [a] fun d=>aC d (fT b (ii 64) (vY b (ii 1048576) (fT c (ii 1) (mr c (ii 65536) fun h=>ag [h]) (ag [bF])) (ag [bF])) (ag [bF])) (ag [bF])
theorem aeI:ax aa gt Y r 81 #[a,b,c]=inside (RF Y r a b c):=jK
def H8(Y:Nat)(r:RT)(a:V):M V:=cJ a nP (ag [(ii 7)]) (ak a fun c=>an 2 c fun e=>aC e (ag [(ii 7)]) (ak a fun b=>ay 2 b fun c=>aJ c bT fun _=>ak a fun b=>ay 6 b fun c=>aJ c bF fun _=>ag [(ii 0)]))
theorem RG:ax aa gt Y r 82 #[a]=inside (H8 Y r a):=jK
def H9(Y:Nat)(r:RT)(a b:V):M V:=cJ a nP (ag [(aM {data:=#[]})]) (aW b (ii 1) (ag [(aM {data:=#[]})]) (ak a fun c=>an 7 c fun f=>bA f fun g=>kO b g fun h=>ak a fun c=>an 7 c fun f=>nQ 5 1 f none (some h) fun g=>hC g fun i=>ak a fun c=>an 7 c fun f=>nQ 5 1 f (some h) none fun g=>ak a fun j=>ay 7 j fun l=>aJ l g fun _=>ag [i]))
theorem RH:ax aa gt Y r 83 #[a,b]=inside (H9 Y r a b):=jK
def H'(Y:Nat)(r:RT)(a b:V):M V:=fT a (ii 64) (vY a (ii 1048576) (fT b (ii 1) (mr b (ii 65536) fun f=>ag [f]) (ag [bF])) (ag [bF])) (ag [bF])
theorem RI:ax aa gt Y r 84 #[a,b]=inside (H' Y r a b):=jK
def Ia(Y:Nat)(r:RT)(a:V):M V:=cJ a nP (ag [(ii 0)]) (ak a fun c=>an 0 c fun e=>bH e fun f=>ag [f])
theorem RJ:ax aa gt Y r 85 #[a]=inside (Ia Y r a):=jK
def RK(Y:Nat)(r:RT)(a:V):M V:=cJ a nP (ag [(ii 0)]) (ak a fun c=>an 4 c fun e=>ai r 115 [e] fun f=>ag [f])
theorem aeJ:ax aa gt Y r 86 #[a]=inside (RK Y r a):=jK
def RL(Y:Nat)(r:RT)(a:V):M V:=cJ a nP (ag [(ii 0)]) (ak a fun c=>an 0 c fun e=>bH e fun f=>dR (ii 2) f fun g=>ak a fun h=>an 259 h fun j=>bA j fun l=>aq g l fun m=>ag [m])
theorem aeK:ax aa gt Y r 87 #[a]=inside (RL Y r a):=jK
def Ib(Y:Nat)(r:RT)(a:V):M V:=ak a fun b=>an 5 b fun d=>ai r 116 [d] fun e=>aU e 0 fun f=>aU e 1 fun g=>ak a fun b=>an 7 b fun d=>bN 5 1 d f fun e=>ak a fun h=>ay 7 h fun i=>aJ i e fun _=>b9 g (ii 0) (ai r 117 [a,g] fun c=>ag []) (ak a fun c=>an 5 c fun e=>ak e fun h=>an 3 h fun j=>ai r 118 [j] fun l=>aC l (ak a fun c=>ay 5 c fun d=>aJ d nP fun _=>ag []) (ag []))
theorem RM:ax aa gt Y r 88 #[a]=inside (Ib Y r a):=jK
def Ic(Y:Nat)(r:RT)(a:V):M V:=ak a fun b=>an 2 b fun d=>aC d (ak a fun e=>an 4 e fun g=>ai r 97 [g] fun h=>aC h (ak a fun i=>an 3 i fun l=>ai r 98 [l] fun m=>bx m (ii 0) (ai r 117 [a,(ii 0)] fun b=>ag [bT]) (ak a fun b=>an 4 b fun d=>ak a fun e=>an 3 e fun g=>ai r 99 [d,g] fun h=>aU h 0 fun i=>aU h 1 fun j=>ak a fun b=>an 3 b fun d=>ai r 119 [d] fun e=>bx j (ii 3) (ak a fun c=>an 2 c fun e=>dC e fun f=>aC f (ak a fun b=>ay 6 b fun c=>aJ c bT fun _=>ag [bF]) (bx j (ii 3) (ai r 117 [a,(ii 24)] fun c=>ag [bT]) (b9 j (ii 0) (ai r 117 [a,j] fun d=>ag [bT]) (bx i (ii 1) (ak a fun e=>an 4 e fun h=>ai r 121 [h] fun l=>ai r 120 [l] fun m=>ak a fun o=>ay 5 o fun p=>aJ p m fun _=>ag [bT]) (ag [bT]))))) (bx j (ii 3) (ai r 117 [a,(ii 24)] fun c=>ag [bT]) (b9 j (ii 0) (ai r 117 [a,j] fun d=>ag [bT]) (bx i (ii 1) (ak a fun e=>an 4 e fun g=>ai r 121 [g] fun h=>ai r 120 [h] fun l=>ak a fun m=>ay 5 m fun o=>aJ o l fun _=>ag [bT]) (ag [bT])))))) (ak a fun b=>an 4 b fun d=>ak a fun e=>an 3 e fun g=>ai r 99 [d,g] fun h=>aU h 0 fun i=>aU h 1 fun j=>ak a fun b=>an 3 b fun d=>ai r 119 [d] fun e=>bx j (ii 3) (ak a fun c=>an 2 c fun e=>dC e fun f=>aC f (ak a fun b=>ay 6 b fun c=>aJ c bT fun _=>ag [bF]) (bx j (ii 3) (ai r 117 [a,(ii 24)] fun c=>ag [bT]) (b9 j (ii 0) (ai r 117 [a,j] fun d=>ag [bT]) (bx i (ii 1) (ak a fun e=>an 4 e fun h=>ai r 121 [h] fun l=>ai r 120 [l] fun m=>ak a fun n=>ay 5 n fun o=>aJ o m fun _=>ag [bT]) (ag [bT]))))) (bx j (ii 3) (ai r 117 [a,(ii 24)] fun c=>ag [bT]) (b9 j (ii 0) (ai r 117 [a,j] fun d=>ag [bT]) (bx i (ii 1) (ak a fun e=>an 4 e fun g=>ai r 121 [g] fun h=>ai r 120 [h] fun l=>ak a fun m=>ay 5 m fun n=>aJ n l fun _=>ag [bT]) (ag [bT])))))) (ak a fun b=>an 4 b fun d=>ak a fun e=>an 3 e fun g=>ai r 99 [d,g] fun h=>aU h 0 fun i=>aU h 1 fun j=>ak a fun b=>an 3 b fun d=>ai r 119 [d] fun e=>bx j (ii 3) (ak a fun c=>an 2 c fun e=>dC e fun f=>aC f (ak a fun b=>ay 6 b fun c=>aJ c bT fun _=>ag [bF]) (bx j (ii 3) (ai r 117 [a,(ii 24)] fun c=>ag [bT]) (b9 j (ii 0) (ai r 117 [a,j] fun d=>ag [bT]) (bx i (ii 1) (ak a fun e=>an 4 e fun h=>ai r 121 [h] fun l=>ai r 120 [l] fun m=>ak a fun n=>ay 5 n fun o=>aJ o m fun _=>ag [bT]) (ag [bT]))))) (bx j (ii 3) (ai r 117 [a,(ii 24)] fun c=>ag [bT]) (b9 j (ii 0) (ai r 117 [a,j] fun d=>ag [bT]) (bx i (ii 1) (ak a fun e=>an 4 e fun g=>ai r 121 [g] fun h=>ai r 120 [h] fun l=>ak a fun m=>ay 5 m fun n=>aJ n l fun _=>ag [bT]) (ag [bT])))))
theorem RN:ax aa gt Y r 89 #[a]=inside (Ic Y r a):=jK
def Ie(Y:Nat)(r:RT)(a b:V):M V:=cJ a nP (ag [(ii 7)]) (ak a fun d=>an 0 d fun f=>aq f b fun g=>ak a fun h=>ay 0 h fun i=>aJ i g fun _=>ag [(ii 0)])
theorem RP:ax aa gt Y r 90 #[a,b]=inside (Ie Y r a b):=jK
def RQ(Y:Nat)(r:RT)(a b:V):M V:=ai r 81 [a,b,(ii 4096)] fun c=>ag [c]
theorem aeL:ax aa gt Y r 91 #[a,b]=inside (RQ Y r a b):=jK
def Ig(Y:Nat)(r:RT)(a b:V):M V:=cJ a nP (ag [(aM {data:=#[]})]) (aW b (ii 1) (ag [(aM {data:=#[]})]) (ak a fun c=>an 2 c fun f=>bH f fun g=>kO b g fun h=>ak a fun c=>an 2 c fun f=>bL f none (some h) fun g=>ak a fun c=>an 2 c fun f=>bL f (some h) none fun i=>ak a fun j=>ay 2 j fun l=>aJ l i fun _=>ag [g]))
theorem RR:ax aa gt Y r 92 #[a,b]=inside (Ig Y r a b):=jK
def Ih(Y:Nat)(r:RT)(a:V):M V:=cJ a nP (ag [bT]) (ak a fun c=>ay 0 c fun d=>an 0 d fun f=>ai r 37 [f] fun g=>ag [g])
theorem RS:ax aa gt Y r 93 #[a]=inside (Ih Y r a):=jK
def Ii(Y:Nat)(r:RT)(a:V):M V:=ak a fun b=>ay 1 b fun c=>(az (aP c M.ret)).bind fun d=>ak a fun e=>ay 0 e fun f=>(az (aP f M.ret)).bind fun g=>ak a fun h=>ay 0 h fun i=>(az (aP i M.ret)).bind fun j=>(az (ai r 36 [j.1] M.ret)).bind fun l=>(az (ai r 83 [g.1,l.1] M.ret)).bind fun m=>bH m.1 fun n=>aq d.1 n fun o=>ak a fun p=>ay 1 p fun q=>(az (aJ q o M.ret)).bind fun s=>dm ((!(bP d.2 l.2)&&(!(bP d.2 m.2)&&true))&&((!(bP g.2 l.2)&&true)&&true)) (ag [])
theorem RU:ax aa gt Y r 94 #[a]=inside (Ii Y r a):=jK
def Ij(Y:Nat)(r:RT)(a:V):M V:=ak a fun b=>ay 0 b fun c=>an 0 c fun e=>ai r 31 [e] fun f=>aC f (ak a fun g=>ay 0 g fun h=>an 0 h fun j=>ai r 32 [j] fun l=>bx l (ii 0) (ak a fun n=>an 3 n fun p=>dC p fun q=>aC q (ak a fun b=>ay 3 b fun c=>aJ c bT fun _=>ak a fun b=>ay 0 b fun c=>an 1 c fun e=>ai r 107 [e] fun f=>ak a fun g=>ay 2 g fun h=>aJ h f fun _=>ag []) (ag [])) (ag [])) (ag [])
theorem RV:ax aa gt Y r 95 #[a]=inside (Ij Y r a):=jK
def Ik(Y:Nat)(r:RT)(a b:V):M V:=aW a (ii 1) (ag [(ii 0),(ii 1)]) (eB a (ii 9) (ag [(ii 0),(ii 1)]) (aW b (ii 24) (ag [(ii 0),(ii 1)]) (eB b (ii 100000) (ag [(ii 0),(ii 1)]) (dR a b fun c=>cO c (ii 19) fun d=>ag [d,(ii 0)]))))
theorem RW:ax aa gt Y r 96 #[a,b]=inside (Ik Y r a b):=jK
def Il(Y:Nat)(r:RT)(a:V):M V:=kU a nP (ak a fun c=>an 9 c fun e=>aC e (ak a fun f=>an 1 f fun h=>bx h (ii 0) (ak a fun j=>an 2 j fun m=>bx m (ii 0) (ak a fun o=>an 10 o fun q=>cH q (ii 0) fun s=>ag [s]) (ag [bF])) (ag [bF])) (ag [bF])) (ag [bF])
theorem RX:ax aa gt Y r 97 #[a]=inside (Il Y r a):=jK
def Im(Y:Nat)(r:RT)(a:V):M V:=cJ a nP (ag [(ii 0)]) ((az (ai r 122 [a] M.ret)).bind fun c=>ak a fun d=>ay 2 d fun e=>(az (aP e M.ret)).bind fun f=>cO c.1 f.1 fun g=>dm ((!(bP c.2 f.2)&&true)&&true) (ag [g]))
theorem RY:ax aa gt Y r 98 #[a]=inside (Im Y r a):=jK
def Io(Y:Nat)(r:RT)(a b:V):M V:=cJ a nP (ag [(ii 0),(ii 7)]) (cJ b nP (ag [(ii 0),(ii 7)]) (ak a fun c=>an 10 c fun f=>b9 f (ii 0) (ak a fun c=>an 10 c fun f=>ag [(ii 0),f]) (ai r 123 [a,b] fun c=>aU c 0 fun e=>aU c 1 fun f=>b9 f (ii 3) (ak a fun h=>ay 10 h fun i=>aJ i f fun _=>ag [e,f]) (ag [e,f]))))
theorem R0:ax aa gt Y r 99 #[a,b]=inside (Io Y r a b):=jK
def tY(Y:Nat)(r:RT):Nat->(V->M V)->V->V->V->V->V->V->M V|0,_,_,_,_,_,_,_=> .fail|fu+1,k,a,b,c,d,e,f=>aW f e (kN a (i3 2) fun h=>kN a (i3 2) fun i=>aq i (i3 1) fun j=>bL (aM {data:=#[48,49]}) (some h) (some j) fun l=>aq l d fun m=>iS a (i3 2) fun d=>aq f (ii 1) fun a=>tY Y r fu k d b c m e a) (k d)
def R1:List Nat:=[0,1,4,5,6,7]
def Cz(Y:Nat)(r:RT):(V->M V):=fun a=>ag [a]
def CA(Y:Nat)(r:RT)(a b:V):M V:=tY Y r Y (Cz Y r) a b (aM {data:=#[]}) (aM {data:=#[]}) b (ii 0)
theorem R2(K:KT):∀fu,tY Y r fu (fun a=>K (.exit 0) (zp [5] [a]))=fun a b c d e f=>aT (cQ 103 (pb
 6 11) Y r) R1 fu (zp R1 [a,b,c,d,e,f]) K
 |0=>by funext a b c d e f;kernel_rfl
 |fu+1=>by have g:=R2 K fu;funext a b c d e f;rw[tY];simp only[g];kernel_rfl
theorem aeM:Cz Y r=(fun a=>(tK 103 (pb 5 11) Y r) (.exit 0) (zp [5] [a])):=jK
theorem R3:ax aa gt Y r 103 #[a,b]=inside (CA Y r a b):=by unfold CA;simp only[aeM,R2];kernel_rfl
def R4(Y:Nat)(r:RT)(a b:V):M V:=cC 159 z159 fun c=>bH a fun d=>aW d (ii 57) (bp z159 [(5,1,(ii 3))] fun d=>aQ 6 c d fun _=>bc 6 c fun a=>ag [a]) (cU a (ii 32) fun d=>bx d (i1 49) (bp z159 [(5,1,(ii 25))] fun d=>aQ 6 c d fun _=>bc 6 c fun a=>ag [a]) (bL a (some (ii 57)) none fun d=>ai r 128 [d] fun g=>cC 185 nU fun h=>aQ 3 h g fun _=>an 2 h fun g=>b9 g (ii 0) (an 2 h fun g=>bp z159 [(5,1,g)] fun j=>aQ 6 c j fun _=>bc 6 c fun a=>ag [a]) (an 0 h fun g=>bH g fun j=>an 1 h fun g=>aq (ii 57) g fun l=>bL a (some l) none fun d=>aq j (ii 2) fun g=>ai r 129 [d,g,(ii 8000)] fun m=>cC 188 qA fun n=>aQ 4 n m fun _=>bL a (some l) none fun d=>aq j (ii 2) fun g=>ai r 131 [d,g] fun m=>ai r 130 [m,j,b] fun o=>b9 o (ii 0) (bp z159 [(5,1,(ii 25))] fun d=>aQ 6 c d fun _=>bc 6 c fun a=>ag [a]) (an 3 n fun g=>b9 g (ii 0) (an 3 n fun g=>bp z159 [(5,1,g)] fun o=>aQ 6 c o fun _=>bc 6 c fun a=>ag [a]) (an 0 n fun g=>ai r 132 [g,j,b] fun o=>aU o 0 fun q=>aU o 1 fun s=>an 0 h fun g=>ai r 133 [q,g] fun o=>aU o 0 fun s=>aU o 1 fun t=>bL a (some (ii 33)) (some (ii 57)) fun d=>ai r 63 [d] fun g=>dh .i64 g fun o=>bH s fun d=>fT o d (bp z159 [(5,1,(ii 23))] fun d=>aQ 6 c d fun _=>bc 6 c fun a=>ag [a]) ((az (bL a none (some (ii 32)) M.ret)).bind fun d=>(az (ai r 63 [d.1] M.ret)).bind fun t=>bp z157 [(0,1,s),(1,1,o),(2,1,t.1)] fun u=>ay 1 n fun v=>(az (aP v M.ret)).bind fun w=>aq l w.1 fun x=>ay 2 n fun y=>(az (aP y M.ret)).bind fun z=>bH s fun A=>aq z.1 A fun B=>bp z159 [(0,3,u),(3,1,x),(4,1,B)] fun C=>(az (aQ 6 c C M.ret)).bind fun D=>dm ((!(bP t.2 w.2)&&(!(bP t.2 z.2)&&true))&&true) (bc 6 c fun a=>ag [a])))))))
theorem aeN:ax aa gt Y r 104 #[a,b]=inside (R4 Y r a b):=jK
def R5(Y:Nat)(r:RT)(a:V):M V:=dW 157 a fun b=>an 0 b fun d=>bx d (aM {data:=#[]}) (ag [(aM {data:=#[]}),(ii 1)]) (an 1 b fun d=>aW d (ii 0) (ag [(aM {data:=#[]}),(ii 23)]) (an 1 b fun h=>an 0 b fun j=>bH j fun l=>fT h l (ag [(aM {data:=#[]}),(ii 23)]) (an 0 b fun d=>an 1 b fun g=>ai r 135 [d,g] fun h=>ai r 134 [h] fun i=>aU i 0 fun j=>aU i 1 fun l=>b9 l (ii 0) (ag [(aM {data:=#[]}),(ii 25)]) ((az (ai r 112 [j] M.ret)).bind fun d=>ay 2 b fun f=>(az (aP f M.ret)).bind fun g=>fG d.1 g.1 fun h=>dm ((!(bP d.2 g.2)&&true)&&true) (aC h (ag [(aM {data:=#[]}),(ii 21)]) (ag [j,(ii 0)]))))))
theorem aeO:ax aa gt Y r 105 #[a]=inside (R5 Y r a):=jK
def CB(Y:Nat)(r:RT)(a:V):M V:=aW a (ii 10) (nO a (ii 0) fun c=>aq (ii 48) c fun d=>dh .u8 d fun e=>bO 5 1 e fun f=>hC f fun g=>ag [g]) (iS a (ii 10) fun c=>(az (ai r 107 [c] M.ret)).bind fun d=>kN a (ii 10) fun e=>aq (ii 48) e fun f=>(az (dh .u8 f M.ret)).bind fun g=>(az (bO 5 1 g.1 M.ret)).bind fun h=>(az (hC h.1 M.ret)).bind fun i=>aq d.1 i.1 fun j=>dm ((!(bP d.2 g.2)&&(!(bP d.2 h.2)&&(!(bP d.2 i.2)&&true)))&&true) (ag [j]))
theorem Iq:ax aa gt Y r 107 #[a]=inside (CB Y r a):=jK
def CC(Y:Nat)(r:RT):Nat->(V->M V)->V->V->V->M V|0,_,_,_,_=> .fail|fu+1,k,a,b,c=>bH a fun d=>eB d (ii 0) (ai r 137 [a] fun d=>cU a (ii 0) fun f=>bp z168 [(0,1,f),(1,1,d)] fun g=>bO 168 2 g fun h=>bN 168 2 c h fun i=>bL a (some d) none fun c=>CC Y r fu k c b i) (k c)
def R7:List Nat:=[0,2,3]
def R8(Y:Nat)(r:RT):(V->M V):=fun a=>ag [a]
def Ir(Y:Nat)(r:RT)(a:V):M V:=CC Y r Y (R8 Y r) a nS nS
theorem R9(K:KT):∀fu,CC Y r fu (fun a=>K (.exit 0) (zp [3] [a]))=fun a b c=>aT (cQ 108 (pb 5
 3) Y r) R7 fu (zp R7 [a,b,c]) K
 |0=>by funext a b c;kernel_rfl
 |fu+1=>by have d:=R9 K fu;funext a b c;rw[CC];simp only[d];kernel_rfl
theorem aeP:R8 Y r=(fun a=>(tK 108 (pb 4 3) Y r) (.exit 0) (zp [3] [a])):=jK
theorem aeQ:ax aa gt Y r 108 #[a]=inside (Ir Y r a):=by unfold Ir;simp only[aeP,R9];kernel_rfl
def yI(Y:Nat)(r:RT):Nat->(V->V->M V)->V->V->V->V->V->V->M V|0,_,_,_,_,_,_,_=> .fail|fu+1,k,a,b,c,d,e,f=>aW f e (aW f (ii 4) (an 0 b fun j=>bO 5 1 j fun l=>hC l fun m=>aq d m fun n=>aq f (ii 1) fun d=>yI Y r fu k a b c n e d) (aq f (ii 1) fun i=>yI Y r fu k a b c d e i)) (k b d)
def R':List Nat:=[0,1,2,3,6,7]
def Sa(Y:Nat)(r:RT):(V->V->M V):=fun a b=>an 1 a fun d=>fT d (ii 4) (an 1 a fun d=>cO d (ii 4) fun f=>dh .u8 f fun g=>bO 5 1 g fun h=>hC h fun i=>aq b i fun j=>ag [j]) (ag [b])
def It(Y:Nat)(r:RT)(a:V):M V:=dW 168 a fun b=>an 1 b fun d=>yI Y r Y (Sa Y r) a b (aM {data:=#[]}) (aM {data:=#[]}) d (ii 0)
theorem Sb(K:KT):∀fu,yI Y r fu (fun a b=>K (.exit 0) (zp [1,3] [a,b]))=fun a b c d e f=>aT (cQ
 109 (pb 6 11) Y r) R' fu (zp R' [a,b,c,d,e,f]) K
 |0=>by funext a b c d e f;kernel_rfl
 |fu+1=>by have g:=Sb K fu;funext a b c d e f;rw[yI];simp only[g];kernel_rfl
theorem aeR:Sa Y r=(fun a b=>(tK 109 (pb 5 11) Y r) (.exit 0) (zp [1,3] [a,b])):=jK
theorem aeS:ax aa gt Y r 109 #[a]=inside (It Y r a):=by unfold It;simp only[aeR,Sb];kernel_rfl
def Sc(Y:Nat)(r:RT)(a:V):M V:=cC 171 z171 fun b=>ai r 139 [a] fun c=>ai r 138 [a,c] fun d=>aQ 2 b d fun _=>bc 2 b fun a=>ag [a]
theorem aeT:ax aa gt Y r 110 #[a]=inside (Sc Y r a):=jK
def Sd(Y:Nat)(r:RT)(a:V):M V:=dW 157 a fun b=>an 0 b fun d=>ai r 140 [d] fun e=>an 0 b fun d=>ai r 141 [d,e] fun f=>aU f 0 fun g=>aU f 1 fun h=>bH e fun c=>ai r 142 [g,c] fun d=>aU d 0 fun f=>aU d 1 fun h=>ay 2 b fun c=>(az (aP c M.ret)).bind fun d=>(az (ai r 103 [d.1,(ii 32)] M.ret)).bind fun h=>aq h.1 (aM {data:=#[48]}) fun i=>ay 1 b fun j=>(az (aP j M.ret)).bind fun l=>(az (dh .u32 l.1 M.ret)).bind fun m=>(az (ai r 103 [m.1,(ii 24)] M.ret)).bind fun n=>aq i n.1 fun o=>(az (ai r 143 [e] M.ret)).bind fun p=>aq o p.1 fun q=>bH e fun s=>aq s (ii 2) fun t=>(az (ai r 144 [f,t] M.ret)).bind fun u=>aq q u.1 fun v=>dm ((!(bP d.2 m.2)&&true)&&((!(bP h.2 l.2)&&(!(bP h.2 m.2)&&true))&&true)) (ag [v])
theorem aeU:ax aa gt Y r 111 #[a]=inside (Sd Y r a):=jK
def tZ(Y:Nat)(r:RT):Nat->(V->M V)->V->V->V->V->M V|0,_,_,_,_,_=> .fail|fu+1,k,a,b,c,d=>bH a fun e=>aW d e (cU a d fun e=>ai r 145 [c,e] fun g=>aq d (ii 1) fun c=>tZ Y r fu k a b g c) (k c)
def Se:List Nat:=[0,2,3,4]
def CD(Y:Nat)(r:RT):(V->M V):=fun a=>cO (i3 4294967295) a fun b=>ag [b]
def CE(Y:Nat)(r:RT)(a:V):M V:=tZ Y r Y (CD Y r) a (i3 0) (i3 4294967295) (ii 0)
theorem Sf(K:KT):∀fu,tZ Y r fu (fun a=>K (.exit 0) (zp [3] [a]))=fun a b c d=>aT (cQ 112 (pb 6 11) Y
 r) Se fu (zp Se [a,b,c,d]) K
 |0=>by funext a b c d;kernel_rfl
 |fu+1=>by have e:=Sf K fu;funext a b c d;rw[tZ];simp only[e];kernel_rfl
theorem aeV:CD Y r=(fun a=>(tK 112 (pb 5 11) Y r) (.exit 0) (zp [3] [a])):=jK
theorem Sg:ax aa gt Y r 112 #[a]=inside (CE Y r a):=by unfold CE;simp only[aeV,Sf];kernel_rfl
def CF(Y:Nat)(r:RT):Nat->(V->M V)->V->V->V->M V|0,_,_,_,_=> .fail|fu+1,k,a,b,c=>bH a fun d=>fT d (ii 8) (bL a none (some (ii 8)) fun d=>ai r 63 [d] fun f=>dh .u8 f fun g=>bO 5 1 g fun h=>hC h fun i=>aq c i fun j=>bL a (some (ii 8)) none fun c=>CF Y r fu k c b j) (k c)
def Sh:List Nat:=[0,2,3]
def Si(Y:Nat)(r:RT):(V->M V):=fun a=>ag [a]
def Iu(Y:Nat)(r:RT)(a:V):M V:=CF Y r Y (Si Y r) a (aM {data:=#[]}) (aM {data:=#[]})
theorem Sj(K:KT):∀fu,CF Y r fu (fun a=>K (.exit 0) (zp [3] [a]))=fun a b c=>aT (cQ 113 (pb 5 3)
 Y r) Sh fu (zp Sh [a,b,c]) K
 |0=>by funext a b c;kernel_rfl
 |fu+1=>by have d:=Sj K fu;funext a b c;rw[CF];simp only[d];kernel_rfl
theorem aeW:Si Y r=(fun a=>(tK 113 (pb 4 3) Y r) (.exit 0) (zp [3] [a])):=jK
theorem aeX:ax aa gt Y r 113 #[a]=inside (Iu Y r a):=by unfold Iu;simp only[aeW,Sj];kernel_rfl
def CG(Y:Nat)(r:RT):Nat->(V->M V)->V->V->M V|0,_,_,_=> .fail|fu+1,k,a,b=>bH a fun c=>kN c (ii 8) fun d=>b9 d (ii 0) (aq a (aM {data:=#[48]}) fun c=>CG Y r fu k c b) (k a)
def Sk:List Nat:=[0,2]
def Sl(Y:Nat)(r:RT):(V->M V):=fun a=>ag [a]
def Iv(Y:Nat)(r:RT)(a:V):M V:=CG Y r Y (Sl Y r) a (aM {data:=#[]})
theorem Sm(K:KT):∀fu,CG Y r fu (fun a=>K (.exit 0) (zp [0] [a]))=fun a b=>aT (cQ 114 (pb 4 1)
 Y r) Sk fu (zp Sk [a,b]) K
 |0=>by funext a b;kernel_rfl
 |fu+1=>by have c:=Sm K fu;funext a b;rw[CG];simp only[c];kernel_rfl
theorem aeY:Sl Y r=(fun a=>(tK 114 (pb 3 1) Y r) (.exit 0) (zp [0] [a])):=jK
theorem aeZ:ax aa gt Y r 114 #[a]=inside (Iv Y r a):=by unfold Iv;simp only[aeY,Sm];kernel_rfl
def Iw(Y:Nat)(r:RT)(a:V):M V:=cJ a nP (ag [(ii 0)]) (ak a fun c=>an 0 c fun e=>cJ e nP (ak a fun c=>an 5 c fun e=>bA e fun g=>ag [g]) (ak a fun c=>ay 0 c fun d=>(az (aP d M.ret)).bind fun e=>ak e.1 fun g=>ay 0 g fun h=>(az (aP h M.ret)).bind fun i=>(az (ai r 146 [i.1] M.ret)).bind fun j=>ak a fun l=>ay 5 l fun m=>(az (aP m M.ret)).bind fun n=>bA n.1 fun o=>aq j.1 o fun p=>dm ((!(bP j.2 n.2)&&true)&&true) (ag [p])))
theorem Sn:ax aa gt Y r 115 #[a]=inside (Iw Y r a):=jK
def Iy(Y:Nat)(r:RT)(a:V):M V:=ak a fun b=>an 3 b fun d=>ai r 147 [d,(ii 1)] fun e=>ak a fun b=>an 3 b fun d=>ai r 148 [d] fun e=>bx e (aM {data:=#[]}) (ag [(aM {data:=#[]}),(ii 0)]) (ak a fun c=>an 4 c fun f=>cU e (ii 0) fun g=>ai r 149 [f,g] fun h=>aU h 0 fun i=>aU h 1 fun j=>b9 j (ii 0) (ag [(aM {data:=#[]}),j]) (ak a fun d=>an 5 d fun g=>ai r 150 [g,i] fun h=>ai r 151 [a] fun d=>ag [i,d]))
theorem So:ax aa gt Y r 116 #[a]=inside (Iy Y r a):=jK
def Iz(Y:Nat)(r:RT)(a b:V):M V:=ak a fun c=>ay 8 c fun d=>aJ d bT fun _=>ak a fun c=>ay 9 c fun d=>aJ d b fun _=>ak a fun c=>ay 5 c fun d=>aJ d nP fun _=>ag []
theorem Sp:ax aa gt Y r 117 #[a,b]=inside (Iz Y r a b):=jK
def IA(Y:Nat)(r:RT)(a:V):M V:=kU a nP (ak a fun c=>an 260 c fun e=>ak a fun f=>an 0 f fun h=>bH h fun i=>dR (ii 3) i fun j=>cH e j fun l=>ag [l]) (ag [bF])
theorem Sq:ax aa gt Y r 118 #[a]=inside (IA Y r a):=jK
def IB(Y:Nat)(r:RT)(a:V):M V:=cJ a nP (ag [(ii 0)]) (ak a fun c=>an 2 c fun e=>iS e (ii 8) fun f=>ak a fun g=>an 1 g fun i=>cO f i fun j=>ak a fun c=>an 0 c fun e=>bL e (some j) none fun f=>ak a fun g=>ay 0 g fun h=>aJ h f fun _=>ak a fun c=>an 1 c fun e=>aq e j fun f=>ak a fun g=>ay 1 g fun h=>aJ h f fun _=>ag [j])
theorem Sr:ax aa gt Y r 119 #[a]=inside (IB Y r a):=jK
def IC(Y:Nat)(r:RT)(a:V):M V:=dW 134 a fun b=>an 0 b fun d=>an 1 b fun f=>ai r 152 [d,f] fun g=>aU g 0 fun h=>aU g 1 fun i=>(az (bc 3 b M.ret)).bind fun c=>(az (ai r 153 [] M.ret)).bind fun d=>(az (ai r 154 [] M.ret)).bind fun e=>bp z139 [(0,3,c.1),(3,1,h),(4,1,d.1),(5,1,e.1)] fun f=>(az (dW 139 f M.ret)).bind fun g=>dm ((!(bP c.2 d.2)&&(!(bP c.2 e.2)&&true))&&true) (ag [g.1])
theorem Ss:ax aa gt Y r 120 #[a]=inside (IC Y r a):=jK
def ID(Y:Nat)(r:RT)(a:V):M V:=cC 134 vZ fun b=>cJ a nP (bp vZ [] fun d=>aQ 3 b d fun _=>bc 3 b fun a=>ag [a]) (ak a fun d=>ay 5 d fun e=>bc 3 e fun f=>aQ 3 b f fun _=>bc 3 b fun a=>ag [a])
theorem Su:ax aa gt Y r 121 #[a]=inside (ID Y r a):=jK
def IE(Y:Nat)(r:RT)(a:V):M V:=ak a fun b=>an 1 b fun d=>ak a fun e=>an 0 e fun g=>bH g fun h=>aq d h fun i=>dR (ii 8) i fun j=>ag [j]
theorem Sv:ax aa gt Y r 122 #[a]=inside (IE Y r a):=jK
def IF(Y:Nat)(r:RT)(a b:V):M V:=ak a fun c=>an 1 c fun e=>bx e (ii 0) (ai r 155 [a,b] fun d=>ag [(ii 0),d]) (bx e (ii 1) (ai r 156 [a,b] fun f=>ag [(ii 0),f]) (bx e (ii 2) (ai r 157 [a,b] fun g=>aU g 0 fun h=>aU g 1 fun i=>ag [h,i]) (ai r 158 [a,b] fun g=>aU g 0 fun h=>aU g 1 fun i=>ag [h,i])))
theorem Sw:ax aa gt Y r 123 #[a,b]=inside (IF Y r a b):=jK
def IG(Y:Nat)(r:RT)(a:V):M V:=cJ a nP (ag [(ii 0)]) (ak a fun c=>an 2 c fun e=>ag [e])
theorem Sx:ax aa gt Y r 126 #[a]=inside (IG Y r a):=jK
def IH(Y:Nat)(r:RT)(a b:V):M V:=mv a (i6 1) fun c=>pj a (i6 31) fun d=>nN c d fun e=>nN e b fun f=>ag [f]
theorem Sz:ax aa gt Y r 127 #[a,b]=inside (IH Y r a b):=jK
def qB(Y:Nat)(r:RT):Nat->(V->V->V->V->V->V->M V)->V->V->V->V->V->V->V->V->V->V->V->M V|0,_,_,_,_,_,_,_,_,_,_,_,_=> .fail|fu+1,k,a,b,c,d,e,f,g,h,i,j,l=>aW l (ii 16) (aq c l fun n=>cU a n fun o=>bx o (i1 49) (dR (ii 16) e fun n=>aq n l fun o=>dh .u8 o fun q=>bO 5 1 q fun s=>hC s fun t=>aq d t fun u=>aq l (ii 1) fun d=>qB Y r fu k a b c u e f g h i j d) (aq l (ii 1) fun n=>qB Y r fu k a b c d e f g h i j n)) (k a b c d f g)
def SA:List Nat:=[0,2,3,4,5,9,11,12,17,22,24]
def IJ(Y:Nat)(r:RT)(k:(V->V->V->M V)×(V->M V))(h:V->V->V->V->V->V->M V):(V->V->V->V->V->V->M V):=fun a b c d e f=>aq c (ii 16) fun g=>aq f (ii 1) fun c=>h a b g d e c
def rN(Y:Nat)(r:RT):Nat->((V->V->V->M V)×(V->M V))->V->V->V->V->V->V->M V|0,_,_,_,_,_,_,_=> .fail|fu+1,k,a,b,c,d,e,f=>dV f (ii 16) fun g=>aC g (cU a f fun h=>fG h (i1 49) fun i=>aC i (aq f (ii 1) fun h=>rN Y r fu k a b c d e h) (bH a fun h=>aq c (ii 16) fun j=>dV h j fun l=>aC l (bp nU [(2,1,(ii 3))] fun h=>aQ 3 b h fun _=>k.2 b) (qB Y r Y (IJ Y r k (rN Y r fu k)) a b c d f e f g i l (ii 0)))) (k.1 b c d)
def yJ:List Nat:=[0,2,3,4,9,11]
def yK(Y:Nat)(r:RT):(V->V->V->M V)×(V->M V):=(fun a b c=>bx c (aM {data:=#[]}) (bp nU [(2,1,(ii 25))] fun e=>aQ 3 a e fun _=>bc 3 a fun b=>ag [b]) (bp nU [(0,1,c),(1,1,b)] fun e=>aQ 3 a e fun _=>bc 3 a fun b=>ag [b]),fun a=>bc 3 a fun b=>ag [b])
def IK(Y:Nat)(r:RT)(a:V):M V:=cC 185 nU fun b=>bH a fun c=>dV c (ii 16) fun d=>aC d (bp nU [(2,1,(ii 3))] fun c=>aQ 3 b c fun _=>bc 3 b fun a=>ag [a]) (rN Y r Y (yK Y r) a b (ii 16) (aM {data:=#[]}) d (ii 0))
theorem SB(K:KT):∀fu,qB Y r fu (fun a b c d e f=>K (.exit 2) (zp [0,2,3,4,9,11] [a,b,c,d,e,f]))
 =fun a b c d e f g h i j l=>aT (cQ 128 (pb 19 95023) Y r) SA fu (zp SA [a,b,c,d,e,f,g,h,i,j,l]) K
 |0=>by funext a b c d e f g h i j l;kernel_rfl
 |fu+1=>by have k:=SB K fu;funext a b c d e f g h i j l;rw[qB];simp only[k];kernel_rfl
theorem ae0(K:KT)(g:Nat):IJ Y r ((fun a b c=>K (.exit 0) (zp [2,3,4] [a,b,c]),fun a=>K .ret (zp
 [2] [a]))) (fun a b c d e f=>aT (cQ 128 (pb 8 47) Y r) yJ g (zp yJ [a,b,c,d,e,f]) K)=(fun a b c d e f=>(iK 128 (pb 8
 47) (pb 10 371) yJ g K Y r) (.exit 2) (zp [0,2,3,4,9,11] [a,b,c,d,e,f])):=by kernel_rfl
theorem SC(K:KT):∀fu,rN Y r fu ((fun a b c=>K (.exit 0) (zp [2,3,4] [a,b,c]),fun a=>K .ret (zp [2]
 [a])))=fun a b c d e f=>aT (cQ 128 (pb 8 47) Y r) yJ fu (zp yJ [a,b,c,d,e,f]) K
 |0=>by funext a b c d e f;kernel_rfl
 |fu+1=>by have g:=SC K fu;funext a b c d e f;rw[rN];simp only[g,ae0,SB];kernel_rfl
theorem ae1:yK Y r=((fun a b c=>(tK 128 (pb 7 47) Y r) (.exit 0) (zp [2,3,4] [a,b,c]),fun a=>(tK 128
 (pb 7 47) Y r) .ret (zp [2] [a]))):=by kernel_rfl
theorem ae2:ax aa gt Y r 128 #[a]=inside (IK Y r a):=by unfold IK;simp only[ae1,SC];kernel_rfl
def wx(Y:Nat)(r:RT):Nat->(V->M V)->V->V->V->V->V->V->V->V->V->V->M V|0,_,_,_,_,_,_,_,_,_,_,_=> .fail|fu+1,k,a,b,c,d,e,f,g,h,i,j=>bA h fun l=>iS l (ii 50) fun m=>an 0 e fun o=>bA o fun p=>fT m p (bp qA [(3,1,(ii 25))] fun l=>aQ 4 d l fun _=>k d) (an 0 f fun m=>an 0 e fun o=>bA h fun p=>iS p (ii 50) fun s=>bQ o s fun t=>aP t fun u=>bQ m u fun v=>aP v fun w=>bL a (some g) none fun l=>ai r 164 [w,l] fun m=>aW m (ii 0) (bp qA [(3,1,(ii 3))] fun n=>aQ 4 d n fun _=>k d) (bA h fun n=>bx n c (bp qA [(3,1,(ii 2))] fun n=>aQ 4 d n fun _=>k d) (bQ w m fun n=>aP n fun p=>bH p fun s=>aq g s fun t=>bO 3 1 m fun g=>bN 3 1 h g fun n=>cO b (ii 1) fun g=>bx m g (an 0 e fun p=>bA p fun s=>an 1 e fun v=>dR v b fun x=>aq s x fun y=>bp qA [(0,1,n),(1,1,t),(2,1,y)] fun z=>aQ 4 d z fun _=>k d) (wx Y r fu k a b c d e f t n i j))))
def SD:List Nat:=[0,1,2,6,7,8,9,10,17,31]
def uc(Y:Nat)(r:RT):(V->M V):=fun a=>bc 4 a fun b=>ag [b]
def IL(Y:Nat)(r:RT)(a b c:V):M V:=cC 188 qA fun d=>ai r 162 [a] fun e=>cC 224 nV fun f=>aQ 5 f e fun _=>an 4 f fun g=>fG g (ii 0) fun h=>aC h (an 4 f fun g=>bp qA [(3,1,g)] fun i=>aQ 4 d i fun _=>bc 4 d fun a=>ag [a]) (ay 2 f fun e=>(az (aP e M.ret)).bind fun g=>(az (bL a (some g.1) none M.ret)).bind fun i=>ay 1 f fun j=>(az (aP j M.ret)).bind fun l=>(az (ai r 163 [i.1,l.1,b] M.ret)).bind fun m=>(az (cC 228 z228 M.ret)).bind fun n=>(az (aQ 3 n.1 m.1 M.ret)).bind fun o=>dm ((!(bP m.2 n.2)&&true)&&true) (an 2 n.1 fun g=>fG g (ii 0) fun i=>aC i (an 2 n.1 fun g=>bp qA [(3,1,g)] fun j=>aQ 4 d j fun _=>bc 4 d fun a=>ag [a]) (an 2 f fun g=>an 1 n.1 fun l=>aq g l fun m=>wx Y r Y (uc Y r) a b c d f n.1 m nS h i)))
theorem SE(K:KT):∀fu,wx Y r fu (fun a=>K .ret (zp [6] [a]))=fun a b c d e f g h i j=>aT (cQ 129
 (pb 9 127) Y r) SD fu (zp SD [a,b,c,d,e,f,g,h,i,j]) K
 |0=>by funext a b c d e f g h i j;kernel_rfl
 |fu+1=>by have k:=SE K fu;funext a b c d e f g h i j;rw[wx];simp only[k];kernel_rfl
theorem ae3:uc Y r=(fun a=>(tK 129 (pb 8 127) Y r) .ret (zp [6] [a])):=jK
theorem ae4:ax aa gt Y r 129 #[a,b,c]=inside (IL Y r a b c):=by unfold IL;simp only[ae3,SE];kernel_rfl
def ud(Y:Nat)(r:RT):Nat->((M V)×(V->M V))->V->V->V->V->V->V->V->V->M V|0,_,_,_,_,_,_,_,_,_=> .fail|fu+1,k,a,b,c,d,e,f,g,h=>aW h g (bQ f h fun j=>aP j fun l=>bc 5 e fun j=>ai r 165 [j,l] fun m=>cC 235 kg fun n=>aQ 8 n m fun _=>an 7 n fun m=>b9 m (ii 0) (an 7 n fun m=>k.2 m) (ay 0 n fun j=>bc 5 j fun m=>aQ 5 e m fun _=>aq h (ii 1) fun j=>ud Y r fu k a b c d e f g j)) (k.1)
def SF:List Nat:=[0,1,2,6,7,14,15,16]
def yL(Y:Nat)(r:RT):(M V)×(V->M V):=(ag [(ii 0)],fun a=>ag [a])
def IM(Y:Nat)(r:RT)(a b c:V):M V:=bp z233 [(0,1,b),(1,1,c)] fun d=>cC 233 z233 fun e=>aQ 5 e d fun _=>bA a fun d=>ud Y r Y (yL Y r) a b c (ii 0) e a d (ii 0)
theorem SG(K:KT):∀fu,ud Y r fu ((K (.exit 0) [],fun a=>K .ret (zp [6] [a])))=fun a b c d e f g h=>
 aT (cQ 130 (pb 6 11) Y r) SF fu (zp SF [a,b,c,d,e,f,g,h]) K
 |0=>by funext a b c d e f g h;kernel_rfl
 |fu+1=>by have i:=SG K fu;funext a b c d e f g h;rw[ud];simp only[i];kernel_rfl
theorem ae5:yL Y r=(((tK 130 (pb 5 11) Y r) (.exit 0) [],fun a=>(tK 130 (pb 5 11) Y r) .ret (zp [6] [a]))):=jK
theorem ae6:ax aa gt Y r 130 #[a,b,c]=inside (IM Y r a b c):=by unfold IM;simp only[ae5,SG];kernel_rfl
def wy(Y:Nat)(r:RT):Nat->((V->M V)×(V->M V))->V->V->V->V->V->V->V->V->V->M V|0,_,_,_,_,_,_,_,_,_,_=> .fail|fu+1,k,a,b,c,d,e,f,g,h,i=>bA g fun j=>iS j (ii 50) fun l=>an 0 d fun n=>bA n fun o=>aW l o (an 0 e fun l=>an 0 d fun n=>bA g fun o=>iS o (ii 50) fun q=>bQ n q fun s=>aP s fun t=>bQ l t fun u=>aP u fun v=>bL a (some f) none fun j=>ai r 164 [v,j] fun l=>aW l (ii 0) (k.2 g) (bQ v l fun m=>aP m fun n=>bH n fun o=>aq f o fun q=>bO 3 1 l fun f=>bN 3 1 g f fun m=>cO b (ii 1) fun f=>bx l f (k.2 m) (wy Y r fu k a b c d e q m h i))) (k.1 g)
def SH:List Nat:=[0,1,4,5,6,7,8,15,26]
def wz(Y:Nat)(r:RT):(V->M V)×(V->M V):=(fun a=>ag [a],fun a=>ag [a])
def IP(Y:Nat)(r:RT)(a b:V):M V:=ai r 162 [a] fun c=>cC 224 nV fun d=>aQ 5 d c fun _=>an 4 d fun e=>fG e (ii 0) fun f=>aC f (ag [nS]) (ay 2 d fun c=>(az (aP c M.ret)).bind fun e=>(az (bL a (some e.1) none M.ret)).bind fun g=>ay 1 d fun h=>(az (aP h M.ret)).bind fun i=>(az (ai r 163 [g.1,i.1,b] M.ret)).bind fun j=>(az (cC 228 z228 M.ret)).bind fun l=>(az (aQ 3 l.1 j.1 M.ret)).bind fun m=>dm ((!(bP j.2 l.2)&&true)&&true) (an 2 l.1 fun e=>fG e (ii 0) fun g=>aC g (ag [nS]) (an 2 d fun e=>an 1 l.1 fun i=>aq e i fun j=>wy Y r Y (wz Y r) a b nS d l.1 j nS f g)))
theorem SI(K:KT):∀fu,wy Y r fu ((fun a=>K (.exit 0) (zp [8] [a]),fun a=>K .ret (zp [4] [a])))=fun a
 b c d e f g h i=>aT (cQ 131 (pb 10 127) Y r) SH fu (zp SH [a,b,c,d,e,f,g,h,i]) K
 |0=>by funext a b c d e f g h i;kernel_rfl
 |fu+1=>by have j:=SI K fu;funext a b c d e f g h i;rw[wy];simp only[j];kernel_rfl
theorem ae7:wz Y r=((fun a=>(tK 131 (pb 9 127) Y r) (.exit 0) (zp [8] [a]),fun a=>(tK 131 (pb 9 127) Y r) .ret (zp [4] [a]))):=jK
theorem ae8:ax aa gt Y r 131 #[a,b]=inside (IP Y r a b):=by unfold IP;simp only[ae7,SI];kernel_rfl
def ue(Y:Nat)(r:RT):Nat->(V->V->V->V->V->V->V->V->V->V->V->V->M V)->V->V->V->V->V->V->V->V->V->V->V->V->V->V->V->V->V->V->M V|0,_,_,_,_,_,_,_,_,_,_,_,_,_,_,_,_,_,_,_=> .fail|fu+1,k,a,b,c,d,e,f,g,h,i,j,l,m,n,o,p,q,s,t=>aW t s (bO 3 1 (ii 0) fun v=>bN 3 1 g v fun w=>aq t (ii 1) fun g=>ue Y r fu k a b c d e f w h i j l m n o p q s g) (k a b c d e f g i j l m n)
def SJ:List Nat:=[0,1,2,6,7,8,9,11,12,26,30,31,32,33,41,44,48,49]
def CH(Y:Nat)(r:RT)(k:(V->V->M V)×(V->V->M V))(u:V->V->V->V->V->V->V->V->V->V->V->M V):(V->V->V->V->V->V->V->V->V->V->V->V->M V):=fun a b c d e f g h i j l m=>an 6 h fun o=>qu o (ii 0) fun p=>(fun n=>aC p (an 6 h fun q=>bO 3 1 q fun s=>bN 3 1 g s fun t=>n t) (n g)) fun g=>ay 0 h fun n=>bc 5 n fun o=>aQ 5 f o fun _=>aq m (ii 1) fun n=>u a b c d e f g i j l n
def qC(Y:Nat)(r:RT):Nat->((V->V->M V)×(V->V->M V))->V->V->V->V->V->V->V->V->V->V->V->M V|0,_,_,_,_,_,_,_,_,_,_,_,_=> .fail|fu+1,k,a,b,c,d,e,f,g,h,i,j,l=>dV l j fun m=>aC m (bQ i l fun n=>aP n fun o=>bc 5 f fun n=>ai r 165 [n,o] fun p=>cC 235 kg fun q=>aQ 8 q p fun _=>an 7 q fun p=>cH p (ii 7) fun s=>aC s (k.2 nS (ii 25)) (an 7 q fun p=>fG p (ii 0) fun t=>aC t (an 7 q fun p=>k.2 nS p) (an 5 q fun p=>ue Y r Y (CH Y r k (qC Y r fu k)) a b c d e f g o q h i j l m s t p (ii 0)))) (k.1 f g)
def yM:List Nat:=[0,1,2,6,7,8,9,26,30,31,32]
abbrev SK(Y:Nat)(r:RT)(a:Nat)(k:(V->V->M V)×(V->V->M V)):(V->V->V->V->V->V->V->V->V->V->V->V->M V):=CH Y r k (qC Y r a k)
def wA(Y:Nat)(r:RT):(V->V->M V)×(V->V->M V):=(fun a b=>an 4 a fun d=>dC d fun e=>aC e (ag [nS,(ii 24)]) (ag [b,(ii 0)]),fun a b=>ag [a,b])
def IQ(Y:Nat)(r:RT)(a b c:V):M V:=aW b (ii 1) (ag [nS,(ii 1)]) (eB b (ii 256) (ag [nS,(ii 1)]) (aW c (ii 0) (ag [nS,(ii 1)]) (jh c (ii 1099511627776) fun g=>aC g (ag [nS,(ii 1)]) (bp z233 [(0,1,b),(1,1,c)] fun d=>cC 233 z233 fun e=>aQ 5 e d fun _=>bA a fun d=>qC Y r Y (wA Y r) a b c nS (ii 0) e nS g a d (ii 0)))))
theorem SL(K:KT):∀fu,ue Y r fu (fun a b c d e f g h i j l m=>K (.exit 2) (zp [0,1,2,6,7,8,9,
 12,26,30,31,32] [a,b,c,d,e,f,g,h,i,j,l,m]))=fun a b c d e f g h i j l m n o p q s t=>aT (cQ 132 (pb 20 193327) Y r) SJ fu (zp
 SJ [a,b,c,d,e,f,g,h,i,j,l,m,n,o,p,q,s,t]) K
 |0=>by funext a b c d e f g h i j l m n o p q s t;kernel_rfl
 |fu+1=>by have k:=SL K fu;funext a b c d e f g h i j l m n o p q s t;rw[ue];simp only[k];kernel_rfl
theorem ae9(K:KT)(k:Nat):CH Y r ((fun a b=>K (.exit 0) (zp [8,9] [a,b]),fun a b=>K .ret (zp [6,
 7] [a,b]))) (fun a b c d e f g h i j l=>aT (cQ 132 (pb 8 47) Y r) yM k (zp yM [a,b,c,d,e,f,g,h,i,j,l]) K)=(fun
 a b c d e f g h i j l m=>(iK 132 (pb 8 47) (pb 11 755) yM k K Y r) (.exit 2) (zp [0,1,2,6,7,8,9,12,26,30,31,32] [a,b,c,d,e,f,g,h,i,j,l,m])):=by kernel_rfl
theorem SM(K:KT):∀fu,qC Y r fu ((fun a b=>K (.exit 0) (zp [8,9] [a,b]),fun a b=>K .ret (zp [6,
 7] [a,b])))=fun a b c d e f g h i j l=>aT (cQ 132 (pb 8 47) Y r) yM fu (zp yM [a,b,c,d,e,f,g,h,i,j,l]) K
 |0=>by funext a b c d e f g h i j l;kernel_rfl
 |fu+1=>by have k:=SM K fu;funext a b c d e f g h i j l;rw[qC];simp only[k,ae9,SL];kernel_rfl
theorem ae':wA Y r=((fun a b=>(tK 132 (pb 7 47) Y r) (.exit 0) (zp [8,9] [a,b]),fun a b=>(tK 132
 (pb 7 47) Y r) .ret (zp [6,7] [a,b]))):=by kernel_rfl
theorem ae_:ax aa gt Y r 132 #[a,b,c]=inside (IQ Y r a b c):=by unfold IQ;simp only[ae',SM];kernel_rfl
def uf(Y:Nat)(r:RT):Nat->((V->M V)×(V->V->M V))->V->V->V->V->V->V->V->V->V->V->M V|0,_,_,_,_,_,_,_,_,_,_,_=> .fail|fu+1,k,a,b,c,d,e,f,g,h,i,j=>aW j i (bQ h j fun m=>aP m fun n=>aW n (ii 0) (k.2 (aM {data:=#[]}) (ii 1)) (bH f fun o=>fT n o (k.2 (aM {data:=#[]}) (ii 1)) (aq n (ii 1) fun m=>bL f (some n) (some m) fun o=>aq e o fun q=>ai r 167 [f,n] fun e=>aq j (ii 1) fun f=>uf Y r fu k a b c d q e g h i f))) (k.1 e)
def SN:List Nat:=[0,1,4,5,6,7,12,14,15,16]
def CI(Y:Nat)(r:RT):(V->M V)×(V->V->M V):=(fun a=>ag [a,(ii 0)],fun a b=>ag [a,b])
def IU(Y:Nat)(r:RT)(a b:V):M V:=ai r 166 [b] fun c=>dC c fun d=>aC d (ag [(aM {data:=#[]}),(ii 1)]) (bA a fun c=>uf Y r Y (CI Y r) a b (aM {data:=#[]}) (ii 0) (aM {data:=#[]}) b d a c (ii 0))
theorem SO(K:KT):∀fu,uf Y r fu ((fun a=>K (.exit 0) (zp [6] [a]),fun a b=>K .ret (zp [4,5] [a,
 b])))=fun a b c d e f g h i j=>aT (cQ 133 (pb 8 47) Y r) SN fu (zp SN [a,b,c,d,e,f,g,h,i,j]) K
 |0=>by funext a b c d e f g h i j;kernel_rfl
 |fu+1=>by have k:=SO K fu;funext a b c d e f g h i j;rw[uf];simp only[k];kernel_rfl
theorem afa:CI Y r=((fun a=>(tK 133 (pb 7 47) Y r) (.exit 0) (zp [6] [a]),fun a b=>(tK 133 (pb 7 47)
 Y r) .ret (zp [4,5] [a,b]))):=by kernel_rfl
theorem afb:ax aa gt Y r 133 #[a,b]=inside (IU Y r a b):=by unfold IU;simp only[afa,SO];kernel_rfl
def ug(Y:Nat)(r:RT):Nat->(V->V->V->V->M V)->V->V->V->V->V->V->V->V->V->V->M V|0,_,_,_,_,_,_,_,_,_,_,_=> .fail|fu+1,k,a,b,c,d,e,f,g,h,i,j=>aW j i (bL a none (some (ii 1)) fun m=>aq d m fun n=>aq j (ii 1) fun d=>ug Y r fu k a b c n e f g h i d) (k a b c d)
def SP:List Nat:=[0,2,3,4,7,10,19,22,26,27]
def CJ(Y:Nat)(r:RT)(k:(V->M V)×(V->V->M V))(f:V->V->V->V->M V):(V->V->V->V->M V):=fun a b c d=>bL a (some (ii 5)) none fun e=>f e b c d
def pC(Y:Nat)(r:RT):Nat->((V->M V)×(V->V->M V))->V->V->V->V->M V|0,_,_,_,_,_=> .fail|fu+1,k,a,b,c,d=>bH a fun e=>jh e (ii 0) fun f=>aC f (ai r 168 [a] fun e=>dC e fun g=>aC g (bL a none (some (ii 1)) fun e=>aq d e fun h=>bL a (some (ii 1)) none fun d=>pC Y r fu k d b c h) (bH a fun e=>cH e (ii 4) fun h=>aC h (k.2 (aM {data:=#[]}) (ii 24)) (cU a (ii 4) fun e=>jh e (i1 251) fun i=>aC i (k.2 (aM {data:=#[]}) (ii 25)) (cU a (ii 4) fun e=>dh .i64 e fun j=>aq (ii 4) j fun l=>ug Y r Y (CJ Y r k (pC Y r fu k)) a b c d f g h i l (ii 0))))) (k.1 d)
def yN:List Nat:=[0,2,3,4]
abbrev SQ(Y:Nat)(r:RT)(a:Nat)(k:(V->M V)×(V->V->M V)):(V->V->V->V->M V):=CJ Y r k (pC Y r a k)
def rO(Y:Nat)(r:RT):(V->M V)×(V->V->M V):=(fun a=>ag [a,(ii 0)],fun a b=>ag [a,b])
def IV(Y:Nat)(r:RT)(a:V):M V:=pC Y r Y (rO Y r) a (aM {data:=#[]}) (ii 0) (aM {data:=#[]})
theorem SS(K:KT):∀fu,ug Y r fu (fun a b c d=>K (.exit 2) (zp [0,2,3,4] [a,b,c,d]))=fun a b c
 d e f g h i j=>aT (cQ 134 (pb 14 2979) Y r) SP fu (zp SP [a,b,c,d,e,f,g,h,i,j]) K
 |0=>by funext a b c d e f g h i j;kernel_rfl
 |fu+1=>by have k:=SS K fu;funext a b c d e f g h i j;rw[ug];simp only[k];kernel_rfl
theorem afc(K:KT)(e:Nat):CJ Y r ((fun a=>K (.exit 0) (zp [4] [a]),fun a b=>K .ret (zp [2,3] [a,
 b]))) (fun a b c d=>aT (cQ 134 (pb 5 3) Y r) yN e (zp yN [a,b,c,d]) K)=(fun a b c d=>(iK 134 (pb 5 3) (pb 8 93)
 yN e K Y r) (.exit 2) (zp [0,2,3,4] [a,b,c,d])):=by kernel_rfl
theorem SU(K:KT):∀fu,pC Y r fu ((fun a=>K (.exit 0) (zp [4] [a]),fun a b=>K .ret (zp [2,3] [a,
 b])))=fun a b c d=>aT (cQ 134 (pb 5 3) Y r) yN fu (zp yN [a,b,c,d]) K
 |0=>by funext a b c d;kernel_rfl
 |fu+1=>by have e:=SU K fu;funext a b c d;rw[pC];simp only[e,afc,SS];kernel_rfl
theorem afd:rO Y r=((fun a=>(tK 134 (pb 4 3) Y r) (.exit 0) (zp [4] [a]),fun a b=>(tK 134 (pb 4 3) Y
 r) .ret (zp [2,3] [a,b]))):=by kernel_rfl
theorem afe:ax aa gt Y r 134 #[a]=inside (IV Y r a):=by unfold IV;simp only[afd,SU];kernel_rfl
def uh(Y:Nat)(r:RT):Nat->(V->M V)->V->V->V->V->V->V->V->V->M V|0,_,_,_,_,_,_,_,_,_=> .fail|fu+1,k,a,b,c,d,e,f,g,h=>aW h g (bQ d f fun j=>aP j fun l=>aq l (ii 1) fun f=>bL a (some l) (some f) fun j=>aq e j fun m=>aq h (ii 1) fun e=>uh Y r fu k a b c d m l g e) (k e)
def SV:List Nat:=[0,1,4,5,6,7,12,13]
def CK(Y:Nat)(r:RT):(V->M V):=fun a=>ag [a]
def IW(Y:Nat)(r:RT)(a b:V):M V:=ai r 169 [a] fun c=>bH a fun d=>uh Y r Y (CK Y r) a b (aM {data:=#[]}) c (aM {data:=#[]}) b d (ii 0)
theorem SW(K:KT):∀fu,uh Y r fu (fun a=>K (.exit 0) (zp [6] [a]))=fun a b c d e f g h=>aT (cQ 135 (pb 8
 47) Y r) SV fu (zp SV [a,b,c,d,e,f,g,h]) K
 |0=>by funext a b c d e f g h;kernel_rfl
 |fu+1=>by have i:=SW K fu;funext a b c d e f g h;rw[uh];simp only[i];kernel_rfl
theorem aff:CK Y r=(fun a=>(tK 135 (pb 7 47) Y r) (.exit 0) (zp [6] [a])):=jK
theorem afg:ax aa gt Y r 135 #[a,b]=inside (IW Y r a b):=by unfold IW;simp only[aff,SW];kernel_rfl
def CL(Y:Nat)(r:RT):Nat->(V->M V)->V->V->V->M V|0,_,_,_,_=> .fail|fu+1,k,a,b,c=>bH a fun d=>aW c d (aW c (ii 255) (cU a c fun g=>cU a (ii 0) fun h=>bx g h (aq c (ii 1) fun d=>CL Y r fu k a b d) (k c)) (k c)) (k c)
def SX:List Nat:=[0,2,3]
def SY(Y:Nat)(r:RT):(V->M V):=fun a=>ag [a]
def IX(Y:Nat)(r:RT)(a:V):M V:=CL Y r Y (SY Y r) a (ii 0) (ii 0)
theorem SZ(K:KT):∀fu,CL Y r fu (fun a=>K (.exit 0) (zp [3] [a]))=fun a b c=>aT (cQ 137 (pb 5 3) Y
 r) SX fu (zp SX [a,b,c]) K
 |0=>by funext a b c;kernel_rfl
 |fu+1=>by have d:=SZ K fu;funext a b c;rw[CL];simp only[d];kernel_rfl
theorem afh:SY Y r=(fun a=>(tK 137 (pb 4 3) Y r) (.exit 0) (zp [3] [a])):=jK
theorem afi:ax aa gt Y r 137 #[a]=inside (IX Y r a):=by unfold IX;simp only[afh,SZ];kernel_rfl
def yO(Y:Nat)(r:RT):Nat->(V->V->M V)->V->V->V->V->V->V->V->M V|0,_,_,_,_,_,_,_,_=> .fail|fu+1,k,a,b,c,d,e,f,g=>aW g f (bQ e g fun i=>aP i fun j=>ai r 170 [a,j] fun i=>an 0 d fun m=>bH i fun n=>cO n (ii 1) fun o=>bL i (some o) none fun p=>aq m p fun q=>ay 0 d fun s=>aJ s q fun _=>bx j (ii 0) (ay 1 d fun m=>aJ m g fun _=>aq g (ii 1) fun m=>yO Y r fu k a b c d e f m) (aq g (ii 1) fun m=>yO Y r fu k a b c d e f m)) (k c d)
def S0:List Nat:=[0,1,4,5,10,11,12]
def S1(Y:Nat)(r:RT):(V->V->M V):=fun a b=>bc 2 b fun c=>aQ 2 a c fun _=>bc 2 a fun b=>ag [b]
def IY(Y:Nat)(r:RT)(a b:V):M V:=cC 171 z171 fun c=>bp z171 [] fun d=>cC 171 z171 fun e=>aQ 2 e d fun _=>bA b fun d=>yO Y r Y (S1 Y r) a b c e b d (ii 0)
theorem S2(K:KT):∀fu,yO Y r fu (fun a b=>K (.exit 0) (zp [4,5] [a,b]))=fun a b c d e f g=>aT (cQ
 138 (pb 6 11) Y r) S0 fu (zp S0 [a,b,c,d,e,f,g]) K
 |0=>by funext a b c d e f g;kernel_rfl
 |fu+1=>by have h:=S2 K fu;funext a b c d e f g;rw[yO];simp only[h];kernel_rfl
theorem afj:S1 Y r=(fun a b=>(tK 138 (pb 5 11) Y r) (.exit 0) (zp [4,5] [a,b])):=jK
theorem afk:ax aa gt Y r 138 #[a,b]=inside (IY Y r a b):=by unfold IY;simp only[afj,S2];kernel_rfl
def yP(Y:Nat)(r:RT):Nat->(V->V->V->V->V->V->V->M V)->V->V->V->V->V->V->V->V->V->V->V->V->M V|0,_,_,_,_,_,_,_,_,_,_,_,_,_=> .fail|fu+1,k,a,b,c,d,e,f,g,h,i,j,l,m=>aW m l (bQ j m fun o=>aP o fun p=>dC f fun o=>aC o (ai r 171 [a,d,p] fun q=>(fun o=>aC q (bO 3 1 d fun s=>bN 3 1 e s fun t=>o t bT) (o e f)) fun e f=>bO 3 1 p fun o=>bN 3 1 e o fun s=>aq m (ii 1) fun e=>yP Y r fu k a b c d s f g h i j l e) (bO 3 1 p fun o=>bN 3 1 e o fun q=>aq m (ii 1) fun e=>yP Y r fu k a b c d q f g h i j l e)) (k a b d e f g h)
def S3:List Nat:=[0,2,3,4,5,6,10,11,12,14,15,16]
def S4(Y:Nat)(r:RT)(k:(V->M V))(l:V->V->V->V->V->M V):(V->V->V->V->V->V->V->M V):=fun a b c d e f g=>dC e fun h=>aC h (bO 3 1 c fun i=>bN 3 1 d i fun j=>aq g (ii 1) fun d=>l a b j f d) (aq g (ii 1) fun i=>l a b d f i)
def CM(Y:Nat)(r:RT):Nat->(V->M V)->V->V->V->V->V->M V|0,_,_,_,_,_,_=> .fail|fu+1,k,a,b,c,d,e=>dV e d fun f=>aC f (bA c fun g=>yP Y r Y (S4 Y r k (CM Y r fu k)) a b c e nS bF d e f c g (ii 0)) (k c)
def yQ:List Nat:=[0,2,3,10,11]
def S5(Y:Nat)(r:RT):(V->M V):=fun a=>ag [a]
def IZ(Y:Nat)(r:RT)(a:V):M V:=bH a fun b=>CM Y r Y (S5 Y r) a nS nS b (ii 0)
theorem S6(K:KT):∀fu,yP Y r fu (fun a b c d e f g=>K (.exit 2) (zp [0,2,4,5,6,10,11] [a,b,c,
 d,e,f,g]))=fun a b c d e f g h i j l m=>aT (cQ 139 (pb 17 23755) Y r) S3 fu (zp S3 [a,b,c,d,e,f,g,h,i,j,l,m]) K
 |0=>by funext a b c d e f g h i j l m;kernel_rfl
 |fu+1=>by have k:=S6 K fu;funext a b c d e f g h i j l m;rw[yP];simp only[k];kernel_rfl
theorem afl(K:KT)(h:Nat):S4 Y r (fun a=>K (.exit 0) (zp [3] [a])) (fun a b c d e=>aT (cQ 139
 (pb 6 11) Y r) yQ h (zp yQ [a,b,c,d,e]) K)=(fun a b c d e f g=>(iK 139 (pb 6 11) (pb 10 371) yQ h K Y
 r) (.exit 2) (zp [0,2,4,5,6,10,11] [a,b,c,d,e,f,g])):=by kernel_rfl
theorem S7(K:KT):∀fu,CM Y r fu (fun a=>K (.exit 0) (zp [3] [a]))=fun a b c d e=>aT (cQ 139 (pb
 6 11) Y r) yQ fu (zp yQ [a,b,c,d,e]) K
 |0=>by funext a b c d e;kernel_rfl
 |fu+1=>by have f:=S7 K fu;funext a b c d e;rw[CM];simp only[f,afl,S6];kernel_rfl
theorem afm:S5 Y r=(fun a=>(tK 139 (pb 5 11) Y r) (.exit 0) (zp [3] [a])):=jK
theorem afn:ax aa gt Y r 139 #[a]=inside (IZ Y r a):=by unfold IZ;simp only[afm,S7];kernel_rfl
def rP(Y:Nat)(r:RT):Nat->(V->M V)->V->V->V->V->M V|0,_,_,_,_,_=> .fail|fu+1,k,a,b,c,d=>aW d (ii 256) (ai r 172 [a,d] fun f=>aC f (dh .u8 d fun g=>bO 5 1 g fun h=>hC h fun i=>aq c i fun j=>aq d (ii 1) fun c=>rP Y r fu k a b j c) (aq d (ii 1) fun g=>rP Y r fu k a b c g)) (k c)
def S8:List Nat:=[0,2,3,5]
def CN(Y:Nat)(r:RT):(V->M V):=fun a=>ag [a]
def CO(Y:Nat)(r:RT)(a:V):M V:=rP Y r Y (CN Y r) a (aM {data:=#[]}) (aM {data:=#[]}) (ii 0)
theorem S9(K:KT):∀fu,rP Y r fu (fun a=>K (.exit 0) (zp [3] [a]))=fun a b c d=>aT (cQ 140 (pb
 6 11) Y r) S8 fu (zp S8 [a,b,c,d]) K
 |0=>by funext a b c d;kernel_rfl
 |fu+1=>by have e:=S9 K fu;funext a b c d;rw[rP];simp only[e];kernel_rfl
theorem afo:CN Y r=(fun a=>(tK 140 (pb 5 11) Y r) (.exit 0) (zp [3] [a])):=jK
theorem S':ax aa gt Y r 140 #[a]=inside (CO Y r a):=by unfold CO;simp only[afo,S9];kernel_rfl
def CP(Y:Nat)(r:RT):Nat->((V->M V)×(V->V->M V))->V->V->V->V->V->V->V->V->M V|0,_,_,_,_,_,_,_,_,_=> .fail|fu+1,k,a,b,c,d,e,f,g,h=>bH a fun i=>aW g i (cU a g fun i=>ai r 173 [f,i] fun l=>aW l (ii 0) (k.2 nS (ii 6)) (bO 3 1 l fun m=>bN 3 1 e m fun n=>ai r 167 [f,l] fun e=>aq g (ii 1) fun f=>CP Y r fu k a b c d n e f h)) (k.1 e)
def Ta:List Nat:=[0,1,4,5,6,7,8,12]
def Tb(Y:Nat)(r:RT):(V->M V)×(V->V->M V):=(fun a=>ag [a,(ii 0)],fun a b=>ag [a,b])
def I0(Y:Nat)(r:RT)(a b:V):M V:=ai r 166 [b] fun c=>dC c fun d=>aC d (ag [nS,(ii 1)]) (CP Y r Y (Tb Y r) a b nS (ii 0) nS b (ii 0) d)
theorem Tc(K:KT):∀fu,CP Y r fu ((fun a=>K (.exit 0) (zp [6] [a]),fun a b=>K .ret (zp [4,5] [a,
 b])))=fun a b c d e f g h=>aT (cQ 141 (pb 8 47) Y r) Ta fu (zp Ta [a,b,c,d,e,f,g,h]) K
 |0=>by funext a b c d e f g h;kernel_rfl
 |fu+1=>by have i:=Tc K fu;funext a b c d e f g h;rw[CP];simp only[i];kernel_rfl
theorem afp:Tb Y r=((fun a=>(tK 141 (pb 7 47) Y r) (.exit 0) (zp [6] [a]),fun a b=>(tK 141 (pb 7 47)
 Y r) .ret (zp [4,5] [a,b]))):=by kernel_rfl
theorem afq:ax aa gt Y r 141 #[a,b]=inside (I0 Y r a b):=by unfold I0;simp only[afp,Tc];kernel_rfl
def yR(Y:Nat)(r:RT):Nat->((V->V->V->M V)×(V->V->M V))->V->V->V->V->V->V->V->V->V->V->M V|0,_,_,_,_,_,_,_,_,_,_,_=> .fail|fu+1,k,a,b,c,d,e,f,g,h,i,j=>aW j i (bQ h j fun m=>aP m fun n=>aW n (ii 0) (k.2 nS (ii 1)) (fT n b (k.2 nS (ii 1)) (bx n (ii 0) (aq f (ii 1) fun p=>aq j (ii 1) fun f=>yR Y r fu k a b c d e p g h i f) (ai r 174 [f] fun p=>bN 3 1 e p fun q=>aq n (ii 1) fun e=>bO 3 1 e fun p=>bN 3 1 q p fun s=>aq j (ii 1) fun e=>yR Y r fu k a b c d s (ii 0) g h i e)))) (k.1 b e f)
def Td:List Nat:=[0,1,4,5,6,7,15,16,17,18]
def Tf(Y:Nat)(r:RT):(V->V->V->M V)×(V->V->M V):=(fun a b c=>ai r 174 [c] fun d=>bN 3 1 b d fun e=>aq a (ii 1) fun b=>bO 3 1 b fun d=>bN 3 1 e d fun f=>ag [f,(ii 0)],fun a b=>ag [a,b])
def I1(Y:Nat)(r:RT)(a b:V):M V:=aW b (ii 1) (ag [nS,(ii 1)]) (jh b (ii 256) fun d=>aC d (ag [nS,(ii 1)]) (bA a fun c=>yR Y r Y (Tf Y r) a b nS (ii 0) nS (ii 0) d a c (ii 0)))
theorem Tg(K:KT):∀fu,yR Y r fu ((fun a b c=>K (.exit 0) (zp [1,6,7] [a,b,c]),fun a b=>K .ret
 (zp [4,5] [a,b])))=fun a b c d e f g h i j=>aT (cQ 142 (pb 8 47) Y r) Td fu (zp Td [a,b,c,d,e,f,g,h,i,j]) K
 |0=>by funext a b c d e f g h i j;kernel_rfl
 |fu+1=>by have k:=Tg K fu;funext a b c d e f g h i j;rw[yR];simp only[k];kernel_rfl
theorem afr:Tf Y r=((fun a b c=>(tK 142 (pb 7 47) Y r) (.exit 0) (zp [1,6,7] [a,b,c]),fun a b=>(tK 142 (pb 7 47) Y r) .ret (zp [4,5] [a,b]))):=by kernel_rfl
theorem afs:ax aa gt Y r 142 #[a,b]=inside (I1 Y r a b):=by unfold I1;simp only[afr,Tg];kernel_rfl
def yS(Y:Nat)(r:RT):Nat->(V->V->V->V->V->V->V->M V)->V->V->V->V->V->V->V->V->V->V->M V|0,_,_,_,_,_,_,_,_,_,_,_=> .fail|fu+1,k,a,b,c,d,e,f,g,h,i,j=>aW j (ii 16) (dR (ii 16) e fun m=>aq m j fun n=>ai r 172 [a,n] fun o=>aC o (aq f (aM {data:=#[49]}) fun m=>aq j (ii 1) fun f=>yS Y r fu k a b c d e m bT h i f) (aq f (aM {data:=#[48]}) fun m=>aq j (ii 1) fun f=>yS Y r fu k a b c d e m g h i f)) (k a b c d f g h)
def Th:List Nat:=[0,2,3,4,5,6,7,9,10,12]
def Ti(Y:Nat)(r:RT)(k:(V->V->M V))(i:V->V->V->V->V->M V):(V->V->V->V->V->V->V->M V):=fun a b c d e f g=>aC f (aq c (aM {data:=#[49]}) fun h=>aq d e fun c=>aq g (ii 1) fun d=>i a b h c d) (aq c (aM {data:=#[48]}) fun h=>aq g (ii 1) fun c=>i a b h d c)
def CQ(Y:Nat)(r:RT):Nat->(V->V->M V)->V->V->V->V->V->M V|0,_,_,_,_,_,_=> .fail|fu+1,k,a,b,c,d,e=>dV e (ii 16) fun f=>aC f (yS Y r Y (Ti Y r k (CQ Y r fu k)) a b c d e (aM {data:=#[]}) bF e f (ii 0)) (k c d)
def yT:List Nat:=[0,2,3,4,9]
def Tj(Y:Nat)(r:RT):(V->V->M V):=fun a b=>aq a b fun c=>ag [c]
def I2(Y:Nat)(r:RT)(a:V):M V:=CQ Y r Y (Tj Y r) a (aM {data:=#[]}) (aM {data:=#[]}) (aM {data:=#[]}) (ii 0)
theorem Tl(K:KT):∀fu,yS Y r fu (fun a b c d e f g=>K (.exit 2) (zp [0,2,3,4,6,7,9] [a,b,c,d,e,
 f,g]))=fun a b c d e f g h i j=>aT (cQ 143 (pb 18 47511) Y r) Th fu (zp Th [a,b,c,d,e,f,g,h,i,j]) K
 |0=>by funext a b c d e f g h i j;kernel_rfl
 |fu+1=>by have k:=Tl K fu;funext a b c d e f g h i j;rw[yS];simp only[k];kernel_rfl
theorem aft(K:KT)(h:Nat):Ti Y r (fun a b=>K (.exit 0) (zp [3,4] [a,b])) (fun a b c d e=>aT (cQ
 143 (pb 7 23) Y r) yT h (zp yT [a,b,c,d,e]) K)=(fun a b c d e f g=>(iK 143 (pb 7 23) (pb 10 371) yT h K Y
 r) (.exit 2) (zp [0,2,3,4,6,7,9] [a,b,c,d,e,f,g])):=by kernel_rfl
theorem Tm(K:KT):∀fu,CQ Y r fu (fun a b=>K (.exit 0) (zp [3,4] [a,b]))=fun a b c d e=>aT (cQ 143
 (pb 7 23) Y r) yT fu (zp yT [a,b,c,d,e]) K
 |0=>by funext a b c d e;kernel_rfl
 |fu+1=>by have f:=Tm K fu;funext a b c d e;rw[CQ];simp only[f,aft,Tl];kernel_rfl
theorem afu:Tj Y r=(fun a b=>(tK 143 (pb 6 23) Y r) (.exit 0) (zp [3,4] [a,b])):=jK
theorem afv:ax aa gt Y r 143 #[a]=inside (I2 Y r a):=by unfold I2;simp only[afu,Tm];kernel_rfl
def CR(Y:Nat)(r:RT):Nat->(V->V->V->V->V->V->V->V->V->V->M V)->V->V->V->V->V->V->V->V->V->M V|0,_,_,_,_,_,_,_,_,_,_=> .fail|fu+1,k,a,b,c,d,e,f,g,h,i=>dV i h fun j=>aC j (bQ g i fun l=>aP l fun m=>ai r 177 [m] fun l=>aq e l fun n=>ai r 178 [m] fun e=>bO 230 1 e fun l=>bN 230 1 f l fun o=>aq i (ii 1) fun e=>CR Y r fu k a b c d n o g h e) (k a b c d e f g h i j)
def Tn:List Nat:=[0,1,4,5,6,7,22,23,24]
def CS(Y:Nat)(r:RT):Nat->(V->M V)->V->V->V->V->V->V->V->V->V->V->V->V->V->M V|0,_,_,_,_,_,_,_,_,_,_,_,_,_,_=> .fail|fu+1,k,a,b,c,d,e,f,g,h,i,j,l,m,n=>aW n m (bQ l n fun p=>aP p fun q=>an 1 d fun s=>iS n (ii 50) fun t=>bQ s t fun u=>aP u fun v=>bQ f v fun w=>aP w fun x=>bQ x q fun y=>aP y fun z=>aq e z fun A=>aq n (ii 1) fun e=>CS Y r fu k a b c d A f g h i j l m e) (k e)
def To:List Nat:=[0,1,4,5,6,7,22,23,24,25,38,39,40]
def Tp(Y:Nat)(r:RT):(V->M V):=fun a=>ag [a]
def I3(Y:Nat)(r:RT):(V->V->V->V->V->V->V->V->V->V->M V):=fun a b c d e f g h i j=>bA a fun l=>CS Y r Y (Tp Y r) a b c d e f g h i j a l (ii 0)
def I4(Y:Nat)(r:RT)(a b:V):M V:=ai r 175 [a,b] fun c=>cC 243 wc fun d=>aQ 2 d c fun _=>an 1 d fun e=>an 0 d fun g=>bA g fun h=>ai r 176 [e,h] fun i=>an 0 d fun e=>bA e fun f=>CR Y r Y (I3 Y r) a b (aM {data:=#[]}) d i nS e f (ii 0)
theorem Tq(K:KT):∀fu,CR Y r fu (fun a b c d e f g h i j=>K (.exit 0) (zp [0,1,4,5,6,7,22,23,24,
 25] [a,b,c,d,e,f,g,h,i,j]))=fun a b c d e f g h i=>aT (cQ 144 (pb 8 47) Y r) Tn fu (zp Tn [a,b,c,d,e,f,g,h,i]) K
 |0=>by funext a b c d e f g h i;kernel_rfl
 |fu+1=>by have k:=Tq K fu;funext a b c d e f g h i;rw[CR];simp only[k];kernel_rfl
theorem I5(K:KT):∀fu,CS Y r fu (fun a=>K (.exit 2) (zp [6] [a]))=fun a b c d e f g h i j l m n=>aT
 (cQ 144 (pb 9 95) Y r) To fu (zp To [a,b,c,d,e,f,g,h,i,j,l,m,n]) K
 |0=>by funext a b c d e f g h i j l m n;kernel_rfl
 |fu+1=>by have k:=I5 K fu;funext a b c d e f g h i j l m n;rw[CS];simp only[k];kernel_rfl
theorem Ts:Tp Y r=(fun a=>(tK 144 (pb 8 95) Y r) (.exit 2) (zp [6] [a])):=jK
theorem afw:I3 Y r=(fun a b c d e f g h i j=>(tK 144 (pb 7 47) Y r) (.exit 0) (zp [0,1,4,5,6,7,22,23,
 24,25] [a,b,c,d,e,f,g,h,i,j])):=by
 unfold I3;simp only[Ts,I5];kernel_rfl
theorem afx:ax aa gt Y r 144 #[a,b]=inside (I4 Y r a b):=by unfold I4;simp only[afw,Ts,Tq,I5];kernel_rfl
def I6(Y:Nat)(r:RT)(a b:V):M V:=dh .u32 b fun c=>dR c (i3 16777216) fun d=>nN a d fun e=>ai r 179 [e] fun f=>ag [f]
theorem Tt:ax aa gt Y r 145 #[a,b]=inside (I6 Y r a b):=jK
def Tu(Y:Nat)(r:RT)(a:V):M V:=cJ a nP (ag [(ii 0)]) (ak a fun c=>ay 1 c fun d=>(az (aP d M.ret)).bind fun e=>(az (ai r 180 [e.1] M.ret)).bind fun f=>bA f.1 fun g=>ak a fun h=>ay 0 h fun i=>(az (aP i M.ret)).bind fun j=>ak a fun l=>ay 4 l fun m=>(az (aP m M.ret)).bind fun n=>bA n.1 fun o=>dR j.1 o fun p=>aq g p fun q=>dm ((!(bP f.2 j.2)&&(!(bP f.2 n.2)&&true))&&true) (ag [q]))
theorem afy:ax aa gt Y r 146 #[a]=inside (Tu Y r a):=jK
def ui(Y:Nat)(r:RT):Nat->(V->V->M V)->V->V->V->V->V->M V|0,_,_,_,_,_,_=> .fail|fu+1,k,a,b,c,d,e=>ai r 118 [a] fun f=>dC f fun g=>aC g (ak a fun h=>an 260 h fun j=>cO j d fun l=>aW l b (ai r 181 [a] fun f=>ui Y r fu k a b c d e) (k a d)) (k a d)
def Tv:List Nat:=[0,1,4,5,7]
def yU(Y:Nat)(r:RT):(V->V->M V):=fun a b=>ak a fun c=>an 260 c fun e=>cO e b fun f=>ag [f]
def CT(Y:Nat)(r:RT)(a b:V):M V:=qv a nP fun c=>aC c (ag [(ii 0)]) (ak a fun d=>an 260 d fun f=>ui Y r Y (yU Y r) a b (ii 0) f c)
theorem Tw(K:KT):∀fu,ui Y r fu (fun a b=>K (.exit 0) (zp [0,5] [a,b]))=fun a b c d e=>aT
 (cQ 147 (pb 6 7) Y r) Tv fu (zp Tv [a,b,c,d,e]) K
 |0=>by funext a b c d e;kernel_rfl
 |fu+1=>by have f:=Tw K fu;funext a b c d e;rw[ui];simp only[f];kernel_rfl
theorem afz:yU Y r=(fun a b=>(tK 147 (pb 5 7) Y r) (.exit 0) (zp [0,5] [a,b])):=jK
theorem Tx:ax aa gt Y r 147 #[a,b]=inside (CT Y r a b):=by unfold CT;simp only[afz,Tw];kernel_rfl
def I7(Y:Nat)(r:RT)(a:V):M V:=cJ a nP (ag [(aM {data:=#[]})]) (ak a fun c=>an 259 c fun e=>hC e fun f=>ak a fun c=>ay 259 c fun d=>aJ d nS fun _=>ag [f])
theorem Ty:ax aa gt Y r 148 #[a]=inside (I7 Y r a):=jK
def I8(Y:Nat)(r:RT)(a b:V):M V:=qv a nP fun c=>(fun d=>aC c (ag [(aM {data:=#[]}),(ii 7)]) (ai r 182 [a] fun e=>aC e (eB b (i1 251) (ag [(aM {data:=#[]}),(ii 25)]) (ak a fun g=>ay 0 g fun h=>an 0 h fun j=>bO 5 1 j fun l=>hC l fun m=>dh .i64 b fun n=>ai r 183 [m,n] fun o=>bp z168 [] fun g=>ak a fun h=>ay 0 h fun i=>aQ 2 i g fun _=>ag [o,(ii 0)])) (ak a fun f=>ay 0 f fun g=>an 1 g fun i=>eB i (ii 0) (ak a fun l=>ay 0 l fun m=>an 0 m fun o=>bx o b (ak a fun f=>ay 0 f fun g=>an 1 g fun i=>aq i (ii 1) fun j=>ak a fun l=>ay 0 l fun m=>ay 1 m fun n=>aJ n j fun _=>d) (bp z168 [(0,1,b),(1,1,(ii 1))] fun f=>ak a fun g=>ay 0 g fun h=>aQ 2 h f fun _=>d)) (bp z168 [(0,1,b),(1,1,(ii 1))] fun f=>ak a fun g=>ay 0 g fun h=>aQ 2 h f fun _=>d)))) (bO 5 1 b fun d=>hC d fun e=>ag [e,(ii 0)])
theorem Tz:ax aa gt Y r 149 #[a,b]=inside (I8 Y r a b):=jK
def uj(Y:Nat)(r:RT):Nat->(M V)->V->V->V->V->M V|0,_,_,_,_,_=> .fail|fu+1,k,a,b,c,d=>aW d c (cU b d fun f=>ai r 184 [a,f] fun g=>aq d (ii 1) fun f=>uj Y r fu k a b c f) (k)
def TA:List Nat:=[0,1,6,7]
def CU(Y:Nat)(r:RT):(M V):=ag []
def CV(Y:Nat)(r:RT)(a b:V):M V:=bH b fun c=>uj Y r Y (CU Y r) a b c (ii 0)
theorem TB(K:KT):∀fu,uj Y r fu (K (.exit 0) [])=fun a b c d=>aT (cQ 150 (pb 3 1) Y r) TA fu (zp TA [a,b,c,d]) K
 |0=>by funext a b c d;kernel_rfl
 |fu+1=>by have e:=TB K fu;funext a b c d;rw[uj];simp only[e];kernel_rfl
theorem afA:CU Y r=((tK 150 (pb 2 1) Y r) (.exit 0) []):=jK
theorem TC:ax aa gt Y r 150 #[a,b]=inside (CV Y r a b):=by unfold CV;simp only[afA,TB];kernel_rfl
def I9(Y:Nat)(r:RT)(a:V):M V:=ak a fun b=>an 3 b fun d=>ai r 118 [d] fun e=>dC e fun f=>aC f (ag [(ii 0)]) (ak a fun b=>an 4 b fun d=>ai r 185 [d] fun e=>b9 e (ii 0) (ag [(ii 25)]) (ak a fun b=>ay 5 b fun c=>(az (aP c M.ret)).bind fun d=>(az (ai r 186 [d.1] M.ret)).bind fun e=>ak a fun h=>ay 0 h fun i=>ay 2 i fun j=>(az (aP j M.ret)).bind fun l=>fG e.1 l.1 fun m=>dm ((!(bP e.2 l.2)&&true)&&true) (aC m (ag [(ii 21)]) (ag [(ii 0)]))))
theorem TD:ax aa gt Y r 151 #[a]=inside (I9 Y r a):=jK
def I'(Y:Nat)(r:RT)(a b:V):M V:=bx a (aM {data:=#[]}) (ag [nP,(ii 1)]) (bH a fun d=>eB d (ii 900000) (ag [nP,(ii 2)]) (aW b (ii 0) (ag [nP,(ii 23)]) (bH a fun f=>fT b f (ag [nP,(ii 23)]) (bH a fun d=>po 3 [(ii 0)] d d fun f=>bp Hx [(0,1,a),(257,1,f),(258,1,b)] fun h=>dW 176 h fun i=>ag [i,(ii 0)]))))
theorem TE:ax aa gt Y r 152 #[a,b]=inside (I' Y r a b):=jK
def Ja(Y:Nat)(r:RT):M V:=bp PL [] fun a=>dW 255 a fun b=>ag [b]
theorem TF:ax aa gt Y r 153 #[]=inside (Ja Y r):=jK
def Jb(Y:Nat)(r:RT):M V:=ai r 187 [] fun a=>bp PM [(0,256,a),(256,1,(i3 4294967295))] fun b=>dW 260 b fun c=>ag [c]
theorem TG:ax aa gt Y r 154 #[]=inside (Jb Y r):=jK
def Jc(Y:Nat)(r:RT)(a b:V):M V:=ai r 188 [b,(ii 8)] fun c=>aU c 0 fun d=>aU c 1 fun e=>b9 e (ii 0) (ag [e]) (ak a fun f=>an 2 f fun h=>aW h (ii 3) (ak a fun f=>an 2 f fun h=>cU (aM {data:=#[66,90,104]}) h fun j=>dh .u32 j fun l=>b9 d l (ag [(ii 20)]) (ak a fun f=>an 2 f fun h=>aq h (ii 1) fun j=>ak a fun l=>ay 2 l fun n=>aJ n j fun _=>ag [(ii 0)])) (aW d (i3 49) (ag [(ii 20)]) (eB d (i3 57) (ag [(ii 20)]) (cO d (i3 48) fun f=>dh .i64 f fun h=>ak a fun j=>ay 3 j fun l=>aJ l h fun _=>ak a fun f=>ay 2 f fun h=>aJ h (ii 0) fun _=>ak a fun f=>ay 8 f fun h=>aJ h (i3 0) fun _=>ak a fun f=>ay 1 f fun h=>aJ h (ii 1) fun _=>ag [(ii 0)]))))
theorem TH:ax aa gt Y r 155 #[a,b]=inside (Jc Y r a b):=jK
def CW(Y:Nat)(r:RT)(a b:V):M V:=ai r 98 [b] fun c=>aW c (ii 48) (ag [(ii 3)]) (ai r 188 [b,(ii 24)] fun c=>aU c 0 fun e=>aU c 1 fun f=>ai r 188 [b,(ii 24)] fun c=>aU c 0 fun f=>aU c 1 fun g=>dh .u64 e fun c=>mv c (i6 24) fun g=>dh .u64 f fun h=>yk g h fun i=>bx i (i6 54156738319193) (ak a fun g=>an 3 g fun j=>ak a fun l=>an 0 l fun n=>dR j n fun o=>ai r 189 [o] fun p=>aU p 0 fun q=>aU p 1 fun s=>ak a fun g=>ay 4 g fun h=>aJ h q fun _=>ak a fun g=>ay 1 g fun h=>aJ h (ii 2) fun _=>ag [s]) (bx i (i6 25779555029136) (ak a fun h=>ay 1 h fun j=>aJ j (ii 3) fun _=>ag [(ii 0)]) (ag [(ii 20)])))
section
variable (Y:Nat) (r:RT) (a b c d e f i:V) (k:Ex->Fr->M V)
theorem afB(x y:Code)(s:Fr)(G:Hint):iC aa r G Y (.seq x y) s k=iC aa r G Y x s (yq (fun a b=>iC aa r G Y y a b) k):=rfl
theorem afC(a:Fr->(Ex->Fr->M V)->M V)(s:Fr):yq a k .normal s=a s k:=rfl
theorem afD(a:Fr->(Ex->Fr->M V)->M V)(s:Fr):yq a k .ret s=k .ret s:=rfl
theorem afE(v:V):BX aa (G7 aa 156) .ret [(4,v)]=ag [v]:=jK
theorem afF:eO (fO aa 156) []= .seq (eO (fO aa 156) [false]) (eO (fO aa 156) [true]):=jK
theorem afG:eO (fO aa 156) [true]= .seq (eO (fO aa 156) [true,false]) (eO (fO aa 156) [true,true]):=jK
theorem afH:eO (fO aa 156) [true,true]= .seq (eO (fO aa 156) [true,true,false]) (eO (fO aa 156) [true,true,true]):=jK
theorem afI:eO (fO aa 156) [true,true,true]= .seq (eO (fO aa 156) [true,true,true,false]) (eO (fO aa 156) [true,true,true,true]):=jK
theorem afJ:eO (fO aa 156) [true,true,true,true]= .seq (eO (fO aa 156) [true,true,true,true,false]) (eO (fO aa 156) [true,true,true,true,true]):=jK
theorem afK:eO (fO aa 156) [true,true,true,true,false]= .seq (eO (fO aa 156) [true,true,true,true,false,false]) (eO (fO aa 156) [true,true,true,true,false,true]):=jK
theorem afL:iC aa r (gt 156) Y (eO (fO aa 156) [false]) [(0,a),(1,b)] k=k .normal [(0,a),(1,b),(4,ii 0)]:=jK
theorem afM:iC aa r (gt 156) Y (eO (fO aa 156) [true,false]) [(0,a),(1,b),(4,ii 0)] k=ai r 98 [b] fun c=>dV c (ii 48) fun d=>aC d (k .ret [(4,ii 3)]) (k .normal [(0,a),(1,b),(4,ii 0),(13,d)]):=jK
theorem afN:iC aa r (gt 156) Y (eO (fO aa 156) [true,true,false]) [(0,a),(1,b),(4,ii 0),(13,d)] k=ai r 188 [b,(ii 24)] fun c=>aU c 0 fun e=>aU c 1 fun f=>k .normal [(0,a),(1,b),(4,ii 0),(5,e),(13,d)]:=jK
theorem afO:iC aa r (gt 156) Y (eO (fO aa 156) [true,true,true,false]) [(0,a),(1,b),(4,ii 0),(5,e),(13,d)] k=ai r 188 [b,(ii 24)] fun c=>aU c 0 fun f=>aU c 1 fun g=>k .normal [(0,a),(1,b),(4,ii 0),(5,e),(7,f),(13,d)]:=jK
theorem afP:iC aa r (gt 156) Y (eO (fO aa 156) [true,true,true,true,false,false]) [(0,a),(1,b),(4,ii 0),(5,e),(7,f),(13,d)] k=dh .u64 e fun c=>mv c (i6 24) fun g=>dh .u64 f fun h=>yk g h fun i=>k .normal [(0,a),(1,b),(4,ii 0),(5,e),(7,f),(13,d),(29,i)]:=jK
theorem afQ:iC aa r (gt 156) Y (eO (fO aa 156) [true,true,true,true,false,true]) [(0,a),(1,b),(4,ii 0),(5,e),(7,f),(13,d),(29,i)] k=cH i (i6 54156738319193) fun c=>aC c (ak a fun g=>ay 3 g fun h=>aP h fun j=>ak a fun l=>ay 0 l fun m=>aP m fun n=>dR j n fun o=>ai r 189 [o] fun p=>aU p 0 fun q=>aU p 1 fun s=>ak a fun g=>ay 4 g fun h=>aJ h q fun _=>ak a fun g=>ay 1 g fun h=>aJ h (ii 2) fun _=>k .ret [(4,s)]) (cH i (i6 25779555029136) fun g=>aC g (ak a fun h=>ay 1 h fun j=>aJ j (ii 3) fun _=>k .ret [(4,(ii 0))]) (k .normal [(0,a),(1,b),(4,ii 0),(5,e),(7,f),(13,d),(29,i),(30,c),(53,g)])):=jK
theorem afR(c g:V):iC aa r (gt 156) Y (eO (fO aa 156) [true,true,true,true,true]) [(0,a),(1,b),(4,ii 0),(5,e),(7,f),(13,d),(29,i),(30,c),(53,g)] k=k .ret [(4,ii 20)]:=jK
theorem afS:ax aa gt Y r 156 #[a,b]=inside (iC aa r (gt 156) Y (eO (fO aa 156) []) [(0,a),(1,b)] (BX aa (G7 aa 156))):=jK
end
theorem TI:ax aa gt Y r 156 #[a,b]=inside (CW Y r a b):=by rw[afS];unfold CW;simp-implicitDefEqProofs only[afF,afG,afH,afI,afJ,afK,afB,afL,afM,afN,afO,afP,afQ,afR,afC,afD,afE]
def Jd(Y:Nat)(r:RT)(a b:V):M V:=ak a fun c=>an 4 c fun e=>ai r 190 [e,b] fun f=>b9 f (ii 0) (ag [(ii 0),f]) (ak a fun d=>an 4 d fun g=>ai r 191 [g] fun h=>dC h fun i=>aC i (ag [(ii 0),f]) (ak a fun c=>an 4 c fun e=>ai r 192 [e] fun g=>ak a fun h=>ay 5 h fun j=>aQ 3 j g fun _=>ak a fun c=>ay 4 c fun d=>aJ d nP fun _=>ak a fun c=>an 8 c fun e=>ak a fun g=>ay 5 g fun h=>an 2 h fun l=>ai r 127 [e,l] fun m=>ak a fun n=>ay 8 n fun o=>aJ o m fun _=>ak a fun c=>ay 1 c fun d=>aJ d (ii 1) fun _=>ag [(ii 1),(ii 0)]))
theorem TJ:ax aa gt Y r 157 #[a,b]=inside (Jd Y r a b):=jK
def Je(Y:Nat)(r:RT)(a b:V):M V:=ai r 188 [b,(ii 32)] fun c=>aU c 0 fun d=>aU c 1 fun e=>b9 e (ii 0) (ag [(ii 0),e]) (ak a fun f=>an 8 f fun h=>b9 d h (ag [(ii 0),(ii 21)]) (ai r 193 [b] fun f=>ak a fun f=>ay 1 f fun g=>aJ g (ii 0) fun _=>ak a fun f=>ay 9 f fun g=>aJ g bT fun _=>ag [(ii 2),(ii 0)]))
theorem TK:ax aa gt Y r 158 #[a,b]=inside (Je Y r a b):=jK
def wB(Y:Nat)(r:RT):Nat->((V->V->V->V->M V)×(V->M V))->V->V->V->V->V->V->V->V->V->M V|0,_,_,_,_,_,_,_,_,_,_=> .fail|fu+1,k,a,b,c,d,e,f,g,h,i=>bA f fun j=>aW j d (bL a (some g) none fun j=>ai r 196 [j] fun m=>fT m c (aq g c fun n=>bp nV [(3,1,n),(4,1,(ii 25))] fun o=>aQ 5 b o fun _=>k.2 b) (aq g m fun n=>bH a fun o=>bx n o (bp nV [(4,1,(ii 3))] fun n=>aQ 5 b n fun _=>k.2 b) (cU e m fun n=>dh .i64 n fun o=>cO o (ii 48) fun q=>bO 3 1 q fun s=>bN 3 1 f s fun t=>ai r 167 [e,m] fun f=>aq g m fun e=>aq e (ii 1) fun n=>wB Y r fu k a b c d f t n h i))) (k.1 b c f g)
def TL:List Nat:=[0,2,3,4,5,6,7,11,30]
def wC(Y:Nat)(r:RT):(V->V->V->V->M V)×(V->M V):=(fun a b c d=>bp nV [(0,1,c),(1,1,b),(2,1,d),(3,1,d)] fun e=>aQ 5 a e fun _=>bc 5 a fun b=>ag [b],fun a=>bc 5 a fun b=>ag [b])
def Jf(Y:Nat)(r:RT)(a:V):M V:=cC 224 nV fun b=>bH a fun c=>dV c (ii 18) fun d=>aC d (bp nV [(4,1,(ii 3))] fun c=>aQ 5 b c fun _=>bc 5 b fun a=>ag [a]) (bL a none (some (ii 3)) fun c=>ai r 63 [c] fun e=>dh .i64 e fun f=>bL a (some (ii 3)) (some (ii 18)) fun c=>ai r 63 [c] fun e=>dh .i64 e fun g=>aW f (ii 2) (bp nV [(3,1,(ii 18)),(4,1,(ii 25))] fun c=>aQ 5 b c fun _=>bc 5 b fun a=>ag [a]) (eB f (ii 6) (bp nV [(3,1,(ii 18)),(4,1,(ii 25))] fun c=>aQ 5 b c fun _=>bc 5 b fun a=>ag [a]) (cH g (ii 0) fun h=>aC h (bp nV [(3,1,(ii 18)),(4,1,(ii 25))] fun c=>aQ 5 b c fun _=>bc 5 b fun a=>ag [a]) (wB Y r Y (wC Y r) a b f g (aM {data:=#[48,49,50,51,52,53]}) nS (ii 18) d h))))
theorem TM(K:KT):∀fu,wB Y r fu ((fun a b c d=>K (.exit 0) (zp [2,3,6,7] [a,b,c,d]),fun a=>K .ret
 (zp [2] [a])))=fun a b c d e f g h i=>aT (cQ 162 (pb 11 255) Y r) TL fu (zp TL [a,b,c,d,e,f,g,h,i]) K
 |0=>by funext a b c d e f g h i;kernel_rfl
 |fu+1=>by have j:=TM K fu;funext a b c d e f g h i;rw[wB];simp only[j];kernel_rfl
theorem afT:wC Y r=((fun a b c d=>(tK 162 (pb 10 255) Y r) (.exit 0) (zp [2,3,6,7] [a,b,c,d]),fun a
 =>(tK 162 (pb 10 255) Y r) .ret (zp [2] [a]))):=by kernel_rfl
theorem afU:ax aa gt Y r 162 #[a]=inside (Jf Y r a):=by unfold Jf;simp only[afT,TM];kernel_rfl
def uk(Y:Nat)(r:RT):Nat->((V->V->M V)×(V->M V))->V->V->V->V->V->V->V->M V|0,_,_,_,_,_,_,_,_=> .fail|fu+1,k,a,b,c,d,e,f,g=>aW g f (an 1 e fun j=>bL a (some j) none fun l=>ai r 197 [l,c] fun m=>cC 269 nX fun n=>aQ 3 n m fun _=>an 2 n fun j=>b9 j (ii 0) (an 0 e fun j=>an 2 n fun o=>bp z228 [(0,1,j),(2,1,o)] fun p=>aQ 3 d p fun _=>k.2 d) (an 1 e fun j=>an 1 n fun o=>aq j o fun p=>ay 1 e fun q=>aJ q p fun _=>an 0 n fun j=>ai r 198 [j] fun m=>dC m fun o=>aC o (an 0 e fun j=>bp z228 [(0,1,j),(2,1,(ii 22))] fun m=>aQ 3 d m fun _=>k.2 d) (ay 0 e fun i=>(az (aP i M.ret)).bind fun j=>ay 0 n fun m=>(az (aP m M.ret)).bind fun p=>(az (ai r 178 [p.1] M.ret)).bind fun q=>(az (bO 230 1 q.1 M.ret)).bind fun s=>(az (bN 230 1 j.1 s.1 M.ret)).bind fun t=>ay 0 e fun u=>(az (aJ u t.1 M.ret)).bind fun v=>dm ((!(bP j.2 q.2)&&true)&&true) (aq g (ii 1) fun i=>uk Y r fu k a b c d e f i)))) (k.1 d e)
def TN:List Nat:=[0,1,2,6,7,10,11]
def uo(Y:Nat)(r:RT):(V->V->M V)×(V->M V):=(fun a b=>bc 3 b fun c=>aQ 3 a c fun _=>bc 3 a fun b=>ag [b],fun a=>bc 3 a fun b=>ag [b])
def Jg(Y:Nat)(r:RT)(a b c:V):M V:=cC 228 z228 fun d=>bp z228 [] fun e=>cC 228 z228 fun f=>aQ 3 f e fun _=>uk Y r Y (uo Y r) a b c d f b (ii 0)
theorem TO(K:KT):∀fu,uk Y r fu ((fun a b=>K (.exit 0) (zp [6,7] [a,b]),fun a=>K .ret (zp
 [6] [a])))=fun a b c d e f g=>aT (cQ 163 (pb 6 11) Y r) TN fu (zp TN [a,b,c,d,e,f,g]) K
 |0=>by funext a b c d e f g;kernel_rfl
 |fu+1=>by have h:=TO K fu;funext a b c d e f g;rw[uk];simp only[h];kernel_rfl
theorem afV:uo Y r=((fun a b=>(tK 163 (pb 5 11) Y r) (.exit 0) (zp [6,7] [a,b]),fun a=>(tK
 163 (pb 5 11) Y r) .ret (zp [6] [a]))):=by kernel_rfl
theorem afW:ax aa gt Y r 163 #[a,b,c]=inside (Jg Y r a b c):=by unfold Jg;simp only[afV,TO];kernel_rfl
def uq(Y:Nat)(r:RT):Nat->((M V)×(V->M V))->V->V->V->V->V->V->M V|0,_,_,_,_,_,_,_=> .fail|fu+1,k,a,b,c,d,e,f=>aW f e (bQ d f fun h=>aP h fun i=>ai r 199 [b,i] fun h=>aC h (k.2 f) (aq f (ii 1) fun j=>uq Y r fu k a b c d e j)) (k.1)
def TP:List Nat:=[0,1,4,7,8,9]
def yV(Y:Nat)(r:RT):(M V)×(V->M V):=(ag [(ii (-1))],fun a=>ag [a])
def Jh(Y:Nat)(r:RT)(a b:V):M V:=bA a fun c=>uq Y r Y (yV Y r) a b (ii 0) a c (ii 0)
theorem TQ(K:KT):∀fu,uq Y r fu ((K (.exit 0) [],fun a=>K .ret (zp [4] [a])))=fun a b c d e f=>aT
 (cQ 164 (pb 5 5) Y r) TP fu (zp TP [a,b,c,d,e,f]) K
 |0=>by funext a b c d e f;kernel_rfl
 |fu+1=>by have g:=TQ K fu;funext a b c d e f;rw[uq];simp only[g];kernel_rfl
theorem afX:yV Y r=(((tK 164 (pb 4 5) Y r) (.exit 0) [],fun a=>(tK 164 (pb 4 5) Y r) .ret (zp [4] [a]))):=jK
theorem afY:ax aa gt Y r 164 #[a,b]=inside (Jh Y r a b):=by unfold Jh;simp only[afX,TQ];kernel_rfl
def TR(Y:Nat)(r:RT)(a b:V):M V:=dW 233 a fun c=>cC 235 kg fun d=>an 4 c fun f=>aC f (bc 5 c fun e=>bp kg [(0,5,e),(7,1,(ii 7))] fun g=>aQ 8 d g fun _=>bc 8 d fun a=>ag [a]) (aW b (ii 0) (bc 5 c fun e=>bp kg [(0,5,e),(7,1,(ii 25))] fun g=>aQ 8 d g fun _=>bc 8 d fun a=>ag [a]) (an 0 c fun h=>aq h (ii 1) fun i=>eB b i (bc 5 c fun e=>bp kg [(0,5,e),(7,1,(ii 25))] fun g=>aQ 8 d g fun _=>bc 8 d fun a=>ag [a]) (bc 5 c fun e=>cC 233 z233 fun g=>aQ 5 g e fun _=>aW b (ii 2) (an 3 c fun i=>bN 3 1 nS i fun l=>bO 3 1 b fun h=>bN 3 1 l h fun i=>ay 3 g fun h=>aJ h i fun _=>(az (bc 5 g M.ret)).bind fun h=>(az (ai r 200 [h.1] M.ret)).bind fun l=>ay 1 c fun m=>(az (aP m M.ret)).bind fun n=>jh l.1 n.1 fun o=>dm ((!(bP l.2 n.2)&&true)&&true) (aC o (bc 5 c fun h=>bp kg [(0,5,h),(7,1,(ii 2))] fun l=>aQ 8 d l fun _=>bc 8 d fun a=>ag [a]) (bc 5 g fun h=>bp kg [(0,5,h),(6,1,(ii (-1)))] fun l=>aQ 8 d l fun _=>bc 8 d fun a=>ag [a]))) (an 3 c fun i=>ai r 201 [i] fun l=>an 2 c fun i=>aq i l fun m=>ay 2 g fun n=>aJ n m fun _=>ay 3 g fun h=>aJ h nS fun _=>an 0 c fun i=>aq i (ii 1) fun m=>bx b m (ay 4 g fun h=>aJ h bT fun _=>bc 5 g fun h=>bp kg [(0,5,h),(5,1,l),(6,1,(ii (-1)))] fun i=>aQ 8 d i fun _=>bc 8 d fun a=>ag [a]) (an 2 g fun i=>aq i (ii 1) fun m=>ay 2 g fun o=>aJ o m fun _=>an 2 g fun i=>an 1 c fun o=>eB i o (bc 5 c fun h=>bp kg [(0,5,h),(7,1,(ii 2))] fun i=>aQ 8 d i fun _=>bc 8 d fun a=>ag [a]) (bc 5 g fun h=>cO b (ii 1) fun i=>bp kg [(0,5,h),(5,1,l),(6,1,i)] fun m=>aQ 8 d m fun _=>bc 8 d fun a=>ag [a]))))))
theorem afZ:ax aa gt Y r 165 #[a,b]=inside (TR Y r a b):=jK
def Ji(Y:Nat)(r:RT)(a:V):M V:=bH a fun b=>eB b (ii 0) (ai r 140 [a] fun d=>cH d a fun e=>ag [e]) (ag [bF])
theorem TS:ax aa gt Y r 166 #[a]=inside (Ji Y r a):=jK
def CX(Y:Nat)(r:RT)(a b:V):M V:=aq b (ii 1) fun c=>bL a (some b) (some c) fun d=>bL a none (some b) fun e=>aq d e fun f=>aq b (ii 1) fun g=>bL a (some g) none fun h=>aq f h fun i=>ag [i]
theorem Jj:ax aa gt Y r 167 #[a,b]=inside (CX Y r a b):=jK
def TU(Y:Nat)(r:RT)(a:V):M V:=bH a fun b=>fT b (ii 4) (cU a (ii 0) fun d=>cU a (ii 1) fun e=>bx d e (cU a (ii 1) fun g=>cU a (ii 2) fun h=>bx g h (cU a (ii 2) fun j=>cU a (ii 3) fun l=>cH j l fun m=>ag [m]) (ag [bF])) (ag [bF])) (ag [bF])
theorem af0:ax aa gt Y r 168 #[a]=inside (TU Y r a):=jK
def rQ(Y:Nat)(r:RT):Nat->(V->V->V->V->M V)->V->V->V->V->V->V->V->V->M V|0,_,_,_,_,_,_,_,_,_=> .fail|fu+1,k,a,b,c,d,e,f,g,h=>aW h g (cU a h fun j=>dh .i64 j fun l=>bx l d (bO 3 1 h fun j=>bN 3 1 c j fun l=>aq h (ii 1) fun c=>rQ Y r fu k a b l d e f g c) (aq h (ii 1) fun j=>rQ Y r fu k a b c d e f g j)) (k a b c e)
def TV:List Nat:=[0,2,3,4,6,7,10,11]
def CY(Y:Nat)(r:RT)(k:(V->M V))(f:V->V->V->V->M V):(V->V->V->V->M V):=fun a b c d=>aq d (ii 1) fun e=>f a b c e
def rR(Y:Nat)(r:RT):Nat->(V->M V)->V->V->V->V->M V|0,_,_,_,_,_=> .fail|fu+1,k,a,b,c,d=>dV d (ii 256) fun e=>aC e (bH a fun f=>rQ Y r Y (CY Y r k (rR Y r fu k)) a b c d d e f (ii 0)) (k c)
def yW:List Nat:=[0,2,3,6]
abbrev TW(Y:Nat)(r:RT)(a:Nat)(k:(V->M V)):(V->V->V->V->M V):=CY Y r k (rR Y r a k)
def yX(Y:Nat)(r:RT):(V->M V):=fun a=>ag [a]
def Jk(Y:Nat)(r:RT)(a:V):M V:=rR Y r Y (yX Y r) a nS nS (ii 0)
theorem TX(K:KT):∀fu,rQ Y r fu (fun a b c d=>K (.exit 2) (zp [0,2,3,6] [a,b,c,d]))=fun a b c d
 e f g h=>aT (cQ 169 (pb 14 3275) Y r) TV fu (zp TV [a,b,c,d,e,f,g,h]) K
 |0=>by funext a b c d e f g h;kernel_rfl
 |fu+1=>by have i:=TX K fu;funext a b c d e f g h;rw[rQ];simp only[i];kernel_rfl
theorem af1(K:KT)(e:Nat):CY Y r (fun a=>K (.exit 0) (zp [3] [a])) (fun a b c d=>aT (cQ 169 (pb 6
 11) Y r) yW e (zp yW [a,b,c,d]) K)=(fun a b c d=>(iK 169 (pb 6 11) (pb 7 51) yW e K Y r) (.exit 2) (zp
 [0,2,3,6] [a,b,c,d])):=by kernel_rfl
theorem TY(K:KT):∀fu,rR Y r fu (fun a=>K (.exit 0) (zp [3] [a]))=fun a b c d=>aT (cQ 169 (pb 6
 11) Y r) yW fu (zp yW [a,b,c,d]) K
 |0=>by funext a b c d;kernel_rfl
 |fu+1=>by have e:=TY K fu;funext a b c d;rw[rR];simp only[e,af1,TX];kernel_rfl
theorem af2:yX Y r=(fun a=>(tK 169 (pb 5 11) Y r) (.exit 0) (zp [3] [a])):=jK
theorem af3:ax aa gt Y r 169 #[a]=inside (Jk Y r a):=by unfold Jk;simp only[af2,TY];kernel_rfl
def TZ(Y:Nat)(r:RT)(a b:V):M V:=bL a (some b) none fun c=>bL a none (some b) fun d=>aq c d fun e=>ag [e]
theorem af4:ax aa gt Y r 170 #[a,b]=inside (TZ Y r a b):=jK
def Ua(Y:Nat)(r:RT)(a b c:V):M V:=ai r 170 [a,b] fun d=>ai r 170 [a,c] fun e=>aW d e (ag [bT]) (bx d e (dV b c fun h=>ag [h]) (ag [bF]))
theorem af5:ax aa gt Y r 171 #[a,b,c]=inside (Ua Y r a b c):=jK
def ur(Y:Nat)(r:RT):Nat->((M V)×(V->M V))->V->V->V->V->M V|0,_,_,_,_,_=> .fail|fu+1,k,a,b,c,d=>bH a fun e=>aW d e (cU a d fun e=>dh .i64 e fun g=>bx g b (k.2 bT) (aq d (ii 1) fun e=>ur Y r fu k a b c e)) (k.1)
def Ub:List Nat:=[0,1,4,5]
def yY(Y:Nat)(r:RT):(M V)×(V->M V):=(ag [bF],fun a=>ag [a])
def CZ(Y:Nat)(r:RT)(a b:V):M V:=ur Y r Y (yY Y r) a b bF (ii 0)
theorem Uc(K:KT):∀fu,ur Y r fu ((K (.exit 0) [],fun a=>K .ret (zp [4] [a])))=fun a b c d=>aT
 (cQ 172 (pb 5 5) Y r) Ub fu (zp Ub [a,b,c,d]) K
 |0=>by funext a b c d;kernel_rfl
 |fu+1=>by have e:=Uc K fu;funext a b c d;rw[ur];simp only[e];kernel_rfl
theorem af6:yY Y r=(((tK 172 (pb 4 5) Y r) (.exit 0) [],fun a=>(tK 172 (pb 4 5) Y r) .ret (zp [4] [a]))):=jK
theorem Ud:ax aa gt Y r 172 #[a,b]=inside (CZ Y r a b):=by unfold CZ;simp only[af6,Uc];kernel_rfl
def C0(Y:Nat)(r:RT):Nat->((M V)×(V->M V))->V->V->V->V->M V|0,_,_,_,_,_=> .fail|fu+1,k,a,b,c,d=>bH a fun e=>aW d e (cU a d fun e=>bx e b (k.2 d) (aq d (ii 1) fun e=>C0 Y r fu k a b c e)) (k.1)
def Ue:List Nat:=[0,1,4,5]
def Uf(Y:Nat)(r:RT):(M V)×(V->M V):=(ag [(ii (-1))],fun a=>ag [a])
def Jl(Y:Nat)(r:RT)(a b:V):M V:=C0 Y r Y (Uf Y r) a b (ii 0) (ii 0)
theorem Ug(K:KT):∀fu,C0 Y r fu ((K (.exit 0) [],fun a=>K .ret (zp [4] [a])))=fun a b c d=>aT
 (cQ 173 (pb 5 5) Y r) Ue fu (zp Ue [a,b,c,d]) K
 |0=>by funext a b c d;kernel_rfl
 |fu+1=>by have e:=Ug K fu;funext a b c d;rw[C0];simp only[e];kernel_rfl
theorem af7:Uf Y r=(((tK 173 (pb 4 5) Y r) (.exit 0) [],fun a=>(tK 173 (pb 4 5) Y r) .ret (zp [4] [a]))):=jK
theorem af8:ax aa gt Y r 173 #[a,b]=inside (Jl Y r a b):=by unfold Jl;simp only[af7,Ug];kernel_rfl
def Uh(Y:Nat)(r:RT)(a:V):M V:=bx a (ii 0) (ag [nS]) (kN a (ii 2) fun c=>bx c (ii 1) (bO 3 1 (ii 0) fun c=>bN 3 1 nS c fun e=>cO a (ii 1) fun c=>iS c (ii 2) fun f=>ai r 174 [f] fun g=>bN 3 1 e g fun h=>ag [h]) (bO 3 1 (ii 1) fun c=>bN 3 1 nS c fun e=>cO a (ii 2) fun c=>iS c (ii 2) fun f=>ai r 174 [f] fun g=>bN 3 1 e g fun h=>ag [h]))
theorem af9:ax aa gt Y r 174 #[a]=inside (Uh Y r a):=jK
def C1(Y:Nat)(r:RT):Nat->(V->V->V->V->V->V->V->V->V->V->V->V->M V)->V->V->V->V->V->V->V->V->V->V->V->M V|0,_,_,_,_,_,_,_,_,_,_,_,_=> .fail|fu+1,k,a,b,c,d,e,f,g,h,i,j,l=>dV l j fun m=>aC m (bQ i l fun n=>aP n fun o=>an 0 d fun p=>ai r 205 [o,p] fun q=>bO 3 1 q fun s=>bN 3 1 f s fun t=>aq l (ii 1) fun f=>C1 Y r fu k a b c d e t g h i j f) (k a b c d e f g h i j l m)
def Ui:List Nat:=[0,1,4,5,6,7,24,25,26,27,28]
def yZ(Y:Nat)(r:RT):Nat->(V->V->V->V->V->V->V->V->V->V->V->V->V->V->V->V->M V)->V->V->V->V->V->V->V->V->V->V->V->V->V->V->V->V->V->V->V->V->V->M V|0,_,_,_,_,_,_,_,_,_,_,_,_,_,_,_,_,_,_,_,_,_,_=> .fail|fu+1,k,a,b,c,d,e,f,g,h,i,j,l,m,n,o,p,q,s,t,u,v,w=>aW w v (bQ u w fun y=>aP y fun z=>bQ f w fun y=>aP y fun A=>bx A h (bN 3 1 i z fun y=>aq w (ii 1) fun i=>yZ Y r fu k a b c d e f g h y j l m n o p q s t u v i) (aq w (ii 1) fun y=>yZ Y r fu k a b c d e f g h i j l m n o p q s t u v y)) (k a b c d e f g i j l m n o p q s)
def Uj:List Nat:=[0,1,4,5,6,7,10,11,12,24,25,26,27,28,29,42,43,44,46,47,48]
def Uk(Y:Nat)(r:RT)(k:(V->V->V->V->V->V->V->V->M V))(x:V->V->V->V->V->V->V->V->V->V->V->V->V->V->V->M V):(V->V->V->V->V->V->V->V->V->V->V->V->V->V->V->V->M V):=fun a b c d e f g h i j l m n o p q=>ai r 203 [h,b] fun s=>ai r 206 [s] fun t=>bO 115 1 t fun u=>bN 115 1 g u fun v=>aq q (ii 1) fun g=>x a b c d e f v i j l m n o p g
def C4(Y:Nat)(r:RT):Nat->(V->V->V->V->V->V->V->V->M V)->V->V->V->V->V->V->V->V->V->V->V->V->V->V->V->M V|0,_,_,_,_,_,_,_,_,_,_,_,_,_,_,_,_=> .fail|fu+1,k,a,b,c,d,e,f,g,h,i,j,l,m,n,o,p=>dV p o fun q=>aC q (bA e fun s=>yZ Y r Y (Uk Y r k (C4 Y r fu k)) a b c d e f g p nS h i j l m n o p q e s (ii 0)) (k a b c d e f g h)
def za:List Nat:=[0,1,4,5,6,7,10,24,25,26,27,28,29,42,43]
def Ul(Y:Nat)(r:RT)(k:(V->V->M V))(j:V->V->V->V->V->V->M V):(V->V->V->V->V->V->V->V->M V):=fun a b c d e f g h=>bp wc [(0,1,g),(1,1,f)] fun i=>aQ 2 d i fun _=>aq h (ii 1) fun i=>j a b c d e i
def Jm(Y:Nat)(r:RT)(k:(V->V->M V))(n:V->V->V->V->V->V->M V):(V->V->V->V->V->V->V->V->V->V->V->V->M V):=fun a b c d e f g h i j l m=>an 0 d fun o=>bA o fun p=>C4 Y r Y (Ul Y r k n) a b c d e f nS g h i j l m p (ii 0)
def C5(Y:Nat)(r:RT):Nat->(V->V->M V)->V->V->V->V->V->V->M V|0,_,_,_,_,_,_,_=> .fail|fu+1,k,a,b,c,d,e,f=>dV f (ii 4) fun g=>aC g (bA e fun h=>C1 Y r Y (Jm Y r k (C5 Y r fu k)) a b c d e nS f g e h (ii 0)) (k c d)
def rS:List Nat:=[0,1,4,5,6,24]
def Un(Y:Nat)(r:RT):(V->V->M V):=fun a b=>bc 2 b fun c=>aQ 2 a c fun _=>bc 2 a fun b=>ag [b]
def Jn(Y:Nat)(r:RT)(a b:V):M V:=cC 243 wc fun c=>ai r 203 [a,b] fun d=>bA a fun e=>ai r 202 [d,e] fun f=>bp wc [(0,1,f)] fun g=>cC 243 wc fun h=>aQ 2 h g fun _=>ai r 204 [a] fun d=>C5 Y r Y (Un Y r) a b c h d (ii 0)
theorem Uo(K:KT):∀fu,C1 Y r fu (fun a b c d e f g h i j l m=>K (.exit 2) (zp [0,1,4,5,6,7,24,25,26,
 27,28,29] [a,b,c,d,e,f,g,h,i,j,l,m]))=fun a b c d e f g h i j l=>aT (cQ 175 (pb 16 10647) Y r) Ui fu (zp Ui [a,b,c,d,e,f,g,h,i,j,l]) K
 |0=>by funext a b c d e f g h i j l;kernel_rfl
 |fu+1=>by have k:=Uo K fu;funext a b c d e f g h i j l;rw[C1];simp only[k];kernel_rfl
theorem Up(K:KT):∀fu,yZ Y r fu (fun a b c d e f g h i j l m n o p q=>K (.exit 6) (zp [0,1,4,5,6,7,10,
 12,24,25,26,27,28,29,42,43] [a,b,c,d,e,f,g,h,i,j,l,m,n,o,p,q]))=fun a b c d e f g h i j l m n o p q s t u v w=>aT (cQ 175 (pb 28
 46971287) Y r) Uj fu (zp Uj [a,b,c,d,e,f,g,h,i,j,l,m,n,o,p,q,s,t,u,v,w]) K
 |0=>by funext a b c d e f g h i j l m n o p q s t u v w;kernel_rfl
 |fu+1=>by have k:=Up K fu;funext a b c d e f g h i j l m n o p q s t u v w;rw[yZ];simp only[k];kernel_rfl
theorem af'(K:KT)(k:Nat):Uk Y r (fun a b c d e f g h=>K (.exit 4) (zp [0,1,4,5,6,7,10,24] [a,b,c,
 d,e,f,g,h])) (fun a b c d e f g h i j l m n o p=>aT (cQ 175 (pb 18 47511) Y r) za k (zp za [a,b,c,d,e,f,g,h,i,j,l,m,
 n,o,p]) K)=(fun a b c d e f g h i j l m n o p q=>(iK 175 (pb 18 47511) (pb 9 179) za k K Y r) (.exit 6) (zp [0,1,4,5,6,7,10,12,24,25,
 26,27,28,29,42,43] [a,b,c,d,e,f,g,h,i,j,l,m,n,o,p,q])):=by kernel_rfl
theorem Jo(K:KT):∀fu,C4 Y r fu (fun a b c d e f g h=>K (.exit 4) (zp [0,1,4,5,6,7,10,24] [a,b,c,d,
 e,f,g,h]))=fun a b c d e f g h i j l m n o p=>aT (cQ 175 (pb 18 47511) Y r) za fu (zp za [a,b,c,d,e,f,g,h,i,j,l,m,n,o,p]) K
 |0=>by funext a b c d e f g h i j l m n o p;kernel_rfl
 |fu+1=>by have k:=Jo K fu;funext a b c d e f g h i j l m n o p;rw[C4];simp only[k,af',Up];kernel_rfl
theorem Uq(K:KT)(i:Nat):Ul Y r (fun a b=>K (.exit 0) (zp [4,5] [a,b])) (fun a b c d e f=>aT (cQ 175
 (pb 7 23) Y r) rS i (zp rS [a,b,c,d,e,f]) K)=(fun a b c d e f g h=>(iK 175 (pb 7 23) (pb 10 371) rS i K Y r)
 (.exit 4) (zp [0,1,4,5,6,7,10,24] [a,b,c,d,e,f,g,h])):=by kernel_rfl
theorem af_(K:KT)(k:Nat):Jm Y r (fun a b=>K (.exit 0) (zp [4,5] [a,b])) (fun a b c d e f=>aT (cQ 175
 (pb 7 23) Y r) rS k (zp rS [a,b,c,d,e,f]) K)=(fun a b c d e f g h i j l m=>(iK 175 (pb 7 23) (pb 8 83) rS k K Y
 r) (.exit 2) (zp [0,1,4,5,6,7,24,25,26,27,28,29] [a,b,c,d,e,f,g,h,i,j,l,m])):=by
 unfold Jm;simp only[Uq,Jo];kernel_rfl
theorem Ur(K:KT):∀fu,C5 Y r fu (fun a b=>K (.exit 0) (zp [4,5] [a,b]))=fun a b c d e f=>aT (cQ 175
 (pb 7 23) Y r) rS fu (zp rS [a,b,c,d,e,f]) K
 |0=>by funext a b c d e f;kernel_rfl
 |fu+1=>by have g:=Ur K fu;funext a b c d e f;rw[C5];simp only[g,af_,Uq,Uo,Jo];kernel_rfl
theorem aga:Un Y r=(fun a b=>(tK 175 (pb 6 23) Y r) (.exit 0) (zp [4,5] [a,b])):=jK
theorem agb:ax aa gt Y r 175 #[a,b]=inside (Jn Y r a b):=by unfold Jn;simp only[aga,Ur];kernel_rfl
def C6(Y:Nat)(r:RT):Nat->(V->M V)->V->V->V->V->V->V->V->V->M V|0,_,_,_,_,_,_,_,_,_=> .fail|fu+1,k,a,b,c,d,e,f,g,h=>aW h g (bQ f h fun j=>aP j fun l=>cU (aM {data:=#[48,49,50,51,52,53]}) l fun j=>ai r 173 [e,j] fun m=>ai r 167 [e,m] fun j=>bL (aM {data:=#[49,49,49,49,49,49]}) none (some m) fun e=>aq d e fun n=>aq n (aM {data:=#[48]}) fun o=>aq h (ii 1) fun d=>C6 Y r fu k a b c o j f g d) (k d)
def Ut:List Nat:=[0,1,4,5,6,18,19,20]
def Uu(Y:Nat)(r:RT):(V->M V):=fun a=>ag [a]
def Jp(Y:Nat)(r:RT)(a b:V):M V:=dh .u32 b fun c=>ai r 103 [c,(ii 3)] fun d=>bA a fun e=>dh .u32 e fun f=>ai r 103 [f,(ii 15)] fun g=>aq d g fun h=>bA a fun c=>C6 Y r Y (Uu Y r) a b (aM {data:=#[]}) h (aM {data:=#[48,49,50,51,52,53]}) a c (ii 0)
theorem Uv(K:KT):∀fu,C6 Y r fu (fun a=>K (.exit 0) (zp [5] [a]))=fun a b c d e f g h=>aT (cQ 176
 (pb 7 23) Y r) Ut fu (zp Ut [a,b,c,d,e,f,g,h]) K
 |0=>by funext a b c d e f g h;kernel_rfl
 |fu+1=>by have i:=Uv K fu;funext a b c d e f g h;rw[C6];simp only[i];kernel_rfl
theorem agc:Uu Y r=(fun a=>(tK 176 (pb 6 23) Y r) (.exit 0) (zp [5] [a])):=jK
theorem agd:ax aa gt Y r 176 #[a,b]=inside (Jp Y r a b):=by unfold Jp;simp only[agc,Uv];kernel_rfl
def zf(Y:Nat)(r:RT):Nat->(V->V->V->V->V->V->V->M V)->V->V->V->V->V->V->V->V->V->V->M V|0,_,_,_,_,_,_,_,_,_,_,_=> .fail|fu+1,k,a,b,c,d,e,f,g,h,i,j=>aW j (ii 40) (cO e d fun m=>dV j m fun n=>(fun m=>aC n (aq c (aM {data:=#[49,48]}) fun o=>m o) (m c)) fun c=>cO d e fun m=>aW j m (aq c (aM {data:=#[49,49]}) fun m=>aq j (ii 1) fun c=>zf Y r fu k a b m d e f g h i c) (aq j (ii 1) fun m=>zf Y r fu k a b c d e f g h i m)) (k a b c e f g h)
def Uw:List Nat:=[0,2,3,4,6,16,17,18,19,22]
def Ux(Y:Nat)(r:RT)(k:(V->M V))(i:V->V->V->V->V->V->V->M V):(V->V->V->V->V->V->V->M V):=fun a b c d e f g=>aq c (aM {data:=#[48]}) fun h=>aq g (ii 1) fun c=>i a b h d e f c
def C7(Y:Nat)(r:RT):Nat->(V->M V)->V->V->V->V->V->V->V->M V|0,_,_,_,_,_,_,_,_=> .fail|fu+1,k,a,b,c,d,e,f,g=>dV g f fun h=>aC h (bQ e g fun i=>aP i fun j=>zf Y r Y (Ux Y r k (C7 Y r fu k)) a b c d j e f g h (ii 0)) (k c)
def zg:List Nat:=[0,2,3,4,16,17,18]
def Uy(Y:Nat)(r:RT):(V->M V):=fun a=>ag [a]
def Jq(Y:Nat)(r:RT)(a:V):M V:=bQ a (ii 0) fun b=>aP b fun c=>dh .u32 c fun d=>ai r 103 [d,(ii 5)] fun e=>bQ a (ii 0) fun b=>aP b fun c=>bA a fun b=>C7 Y r Y (Uy Y r) a (aM {data:=#[]}) e c a b (ii 0)
theorem Uz(K:KT):∀fu,zf Y r fu (fun a b c d e f g=>K (.exit 2) (zp [0,2,3,6,16,17,18] [a,b,c,d,
 e,f,g]))=fun a b c d e f g h i j=>aT (cQ 177 (pb 16 10647) Y r) Uw fu (zp Uw [a,b,c,d,e,f,g,h,i,j]) K
 |0=>by funext a b c d e f g h i j;kernel_rfl
 |fu+1=>by have k:=Uz K fu;funext a b c d e f g h i j;rw[zf];simp only[k];kernel_rfl
theorem age(K:KT)(h:Nat):Ux Y r (fun a=>K (.exit 0) (zp [3] [a])) (fun a b c d e f g=>aT (cQ 177
 (pb 7 23) Y r) zg h (zp zg [a,b,c,d,e,f,g]) K)=(fun a b c d e f g=>(iK 177 (pb 7 23) (pb 8 83) zg h K Y
 r) (.exit 2) (zp [0,2,3,6,16,17,18] [a,b,c,d,e,f,g])):=by kernel_rfl
theorem UA(K:KT):∀fu,C7 Y r fu (fun a=>K (.exit 0) (zp [3] [a]))=fun a b c d e f g=>aT (cQ 177 (pb
 7 23) Y r) zg fu (zp zg [a,b,c,d,e,f,g]) K
 |0=>by funext a b c d e f g;kernel_rfl
 |fu+1=>by have h:=UA K fu;funext a b c d e f g;rw[C7];simp only[h,age,Uz];kernel_rfl
theorem agf:Uy Y r=(fun a=>(tK 177 (pb 6 23) Y r) (.exit 0) (zp [3] [a])):=jK
theorem agh:ax aa gt Y r 177 #[a]=inside (Jq Y r a):=by unfold Jq;simp only[agf,UA];kernel_rfl
def uv(Y:Nat)(r:RT):Nat->(V->V->V->V->V->V->V->V->V->V->M V)->V->V->V->V->V->V->V->V->V->V->V->V->V->V->V->V->M V|0,_,_,_,_,_,_,_,_,_,_,_,_,_,_,_,_,_=> .fail|fu+1,k,a,b,c,d,e,f,g,h,i,j,l,m,n,o,p,q=>aW q p (aq d (aM {data:=#[48]}) fun t=>aq q (ii 1) fun d=>uv Y r fu k a b c t e f g h i j l m n o p d) (k a b c d e f h i j l)
def UB:List Nat:=[0,2,3,4,5,6,7,12,15,16,17,18,24,26,27,28]
def C8(Y:Nat)(r:RT)(k:(V->V->V->V->V->M V))(m:V->V->V->V->V->V->V->V->V->M V):(V->V->V->V->V->V->V->V->V->V->M V):=fun a b c d e f g h i j=>bQ c f fun l=>aJ l d fun _=>aq j (ii 1) fun l=>m a b c d e g h i l
def pD(Y:Nat)(r:RT):Nat->(V->V->V->V->V->M V)->V->V->V->V->V->V->V->V->V->M V|0,_,_,_,_,_,_,_,_,_,_=> .fail|fu+1,k,a,b,c,d,e,f,g,h,i=>dV i h fun j=>aC j (bQ g i fun l=>aP l fun m=>fG m e fun l=>aC l (aq i (ii 1) fun n=>pD Y r fu k a b c d e f g h n) (cH d (aM {data:=#[]}) fun n=>aC n (uv Y r Y (C8 Y r k (pD Y r fu k)) a b c d e i m f g h i j l n e (ii 0)) (ai r 207 [d,e] fun o=>bQ c i fun d=>aJ d o fun _=>aq i (ii 1) fun d=>pD Y r fu k a b c o e f g h d))) (k a b c d e)
def zh:List Nat:=[0,2,3,4,5,12,15,16,17]
abbrev UC(Y:Nat)(r:RT)(a:Nat)(k:(V->V->V->V->V->M V)):(V->V->V->V->V->V->V->V->V->V->M V):=C8 Y r k (pD Y r a k)
def C9(Y:Nat)(r:RT)(k:(V->M V))(g:V->V->V->V->V->M V):(V->V->V->V->V->M V):=fun a b c d e=>aq e (ii 1) fun f=>g a b c d f
def rT(Y:Nat)(r:RT):Nat->(V->M V)->V->V->V->V->V->M V|0,_,_,_,_,_,_=> .fail|fu+1,k,a,b,c,d,e=>mr e (ii 20) fun f=>aC f (bA a fun g=>pD Y r Y (C9 Y r k (rT Y r fu k)) a b c d e f a g (ii 0)) (k c)
def zi:List Nat:=[0,2,3,4,5]
abbrev Jr(Y:Nat)(r:RT)(a:Nat)(k:(V->M V)):(V->V->V->V->V->M V):=C9 Y r k (rT Y r a k)
def wD(Y:Nat)(r:RT):(V->M V):=fun a=>ag [a]
def Da(Y:Nat)(r:RT)(a:V):M V:=bA a fun b=>po 9 [(aM {data:=#[]})] b b fun c=>rT Y r Y (wD Y r) a nS c (aM {data:=#[]}) (ii 1)
theorem UD(K:KT):∀fu,uv Y r fu (fun a b c d e f g h i j=>K (.exit 4) (zp [0,2,3,4,5,6,12,15,16,
 17] [a,b,c,d,e,f,g,h,i,j]))=fun a b c d e f g h i j l m n o p q=>aT (cQ 178 (pb 25 5661847) Y r) UB fu (zp UB [a,b,
 c,d,e,f,g,h,i,j,l,m,n,o,p,q]) K
 |0=>by funext a b c d e f g h i j l m n o p q;kernel_rfl
 |fu+1=>by have k:=UD K fu;funext a b c d e f g h i j l m n o p q;rw[uv];simp only[k];kernel_rfl
theorem agi(K:KT)(k:Nat):C8 Y r (fun a b c d e=>K (.exit 2) (zp [0,2,3,4,5] [a,b,c,d,e])) (fun
 a b c d e f g h i=>aT (cQ 178 (pb 13 1175) Y r) zh k (zp zh [a,b,c,d,e,f,g,h,i]) K)=(fun a b c d e f g h i j=>(iK
 178 (pb 13 1175) (pb 11 691) zh k K Y r) (.exit 4) (zp [0,2,3,4,5,6,12,15,16,17] [a,b,c,d,e,f,g,h,i,j])):=by kernel_rfl
theorem UE(K:KT):∀fu,pD Y r fu (fun a b c d e=>K (.exit 2) (zp [0,2,3,4,5] [a,b,c,d,e]))=fun
 a b c d e f g h i=>aT (cQ 178 (pb 13 1175) Y r) zh fu (zp zh [a,b,c,d,e,f,g,h,i]) K
 |0=>by funext a b c d e f g h i;kernel_rfl
 |fu+1=>by have j:=UE K fu;funext a b c d e f g h i;rw[pD];simp only[j,agi,UD];kernel_rfl
theorem agj(K:KT)(f:Nat):C9 Y r (fun a=>K (.exit 0) (zp [3] [a])) (fun a b c d e=>aT (cQ 178 (pb
 7 23) Y r) zi f (zp zi [a,b,c,d,e]) K)=(fun a b c d e=>(iK 178 (pb 7 23) (pb 5 9) zi f K Y r) (.exit 2)
 (zp [0,2,3,4,5] [a,b,c,d,e])):=by kernel_rfl
theorem UF(K:KT):∀fu,rT Y r fu (fun a=>K (.exit 0) (zp [3] [a]))=fun a b c d e=>aT (cQ 178 (pb 7
 23) Y r) zi fu (zp zi [a,b,c,d,e]) K
 |0=>by funext a b c d e;kernel_rfl
 |fu+1=>by have f:=UF K fu;funext a b c d e;rw[rT];simp only[f,agj,UE];kernel_rfl
theorem agk:wD Y r=(fun a=>(tK 178 (pb 6 23) Y r) (.exit 0) (zp [3] [a])):=jK
theorem UG:ax aa gt Y r 178 #[a]=inside (Da Y r a):=by unfold Da;simp only[agk,UF];kernel_rfl
def rU(Y:Nat)(r:RT):Nat->(V->M V)->V->V->V->M V|0,_,_,_,_=> .fail|fu+1,k,a,b,c=>aW c (ii 8) (fT a (i3 2147483648) (cO a (i3 2147483648) fun f=>dR f (i3 2) fun g=>nN g (i3 79764919) fun h=>aq c (ii 1) fun a=>rU Y r fu k h b a) (dR a (i3 2) fun f=>aq c (ii 1) fun a=>rU Y r fu k f b a)) (k a)
def UH:List Nat:=[0,2,3]
def Db(Y:Nat)(r:RT):(V->M V):=fun a=>ag [a]
def Dc(Y:Nat)(r:RT)(a:V):M V:=rU Y r Y (Db Y r) a (i3 0) (ii 0)
theorem UJ(K:KT):∀fu,rU Y r fu (fun a=>K (.exit 0) (zp [0] [a]))=fun a b c=>aT (cQ 179 (pb 5 5) Y
 r) UH fu (zp UH [a,b,c]) K
 |0=>by funext a b c;kernel_rfl
 |fu+1=>by have d:=UJ K fu;funext a b c;rw[rU];simp only[d];kernel_rfl
theorem agl:Db Y r=(fun a=>(tK 179 (pb 4 5) Y r) (.exit 0) (zp [0] [a])):=jK
theorem UK:ax aa gt Y r 179 #[a]=inside (Dc Y r a):=by unfold Dc;simp only[agl,UJ];kernel_rfl
def Dd(Y:Nat)(r:RT)(a:V):M V:=cJ a nP (ag [nS]) (ak a fun c=>an 8 c fun e=>ai r 208 [e] fun f=>ag [f])
theorem Js:ax aa gt Y r 180 #[a]=inside (Dd Y r a):=jK
def Jt(Y:Nat)(r:RT)(a:V):M V:=ak a fun b=>an 0 b fun d=>bH d fun e=>ak a fun b=>an 260 b fun d=>kN d e fun f=>ak a fun b=>an 260 b fun d=>iS d e fun g=>cH g (ii 0) fun b=>(fun c=>aC b (ak a fun d=>an 0 d fun i=>cU i f fun j=>ak a fun l=>ay 1 l fun m=>gN 256 m j fun n=>aP n fun o=>aq o (ii 1) fun p=>ak a fun q=>ay 1 q fun s=>gN 256 s j fun t=>aJ t p fun _=>cO e (ii 1) fun d=>bx f d (ai r 209 [a] fun d=>c) (c)) (bx g (ii 1) (ak a fun h=>an 0 h fun j=>cU j f fun l=>ak a fun h=>an 257 h fun j=>ak a fun m=>ay 1 m fun n=>gN 256 n l fun o=>aP o fun p=>bQ j p fun q=>aJ q f fun _=>ak a fun h=>ay 1 h fun i=>gN 256 i l fun j=>aP j fun m=>aq m (ii 1) fun n=>ak a fun o=>ay 1 o fun p=>gN 256 p l fun q=>aJ q n fun _=>c) (ak a fun h=>an 257 h fun j=>ak a fun l=>an 258 l fun n=>bQ j n fun o=>aP o fun p=>ak a fun q=>ay 258 q fun s=>aJ s p fun _=>ak a fun h=>an 259 h fun j=>ak a fun l=>an 0 l fun n=>ak a fun o=>an 258 o fun q=>cU n q fun s=>bO 5 1 s fun t=>bN 5 1 j t fun u=>ak a fun v=>ay 259 v fun w=>aJ w u fun _=>c))) (ak a fun c=>an 260 c fun h=>aq h (ii 1) fun i=>ak a fun j=>ay 260 j fun l=>aJ l i fun _=>ag [])
theorem UL:ax aa gt Y r 181 #[a]=inside (Jt Y r a):=jK
def Ju(Y:Nat)(r:RT)(a:V):M V:=kU a nP (ak a fun c=>ay 0 c fun d=>an 1 d fun f=>cH f (ii 4) fun g=>ag [g]) (ag [bF])
theorem UM:ax aa gt Y r 182 #[a]=inside (Ju Y r a):=jK
def Jv(Y:Nat)(r:RT)(a b:V):M V:=kU a nP (ak a fun d=>ay 0 d fun e=>ak a fun f=>an 256 f fun h=>ai r 214 [e,h,b] fun i=>ak a fun j=>ay 256 j fun l=>aJ l i fun _=>ag []) (ag [])
theorem UN:ax aa gt Y r 184 #[a,b]=inside (Jv Y r a b):=jK
def Jw(Y:Nat)(r:RT)(a:V):M V:=cJ a nP (ag [(ii 7)]) (ai r 182 [a] fun c=>aC c (ag [(ii 24)]) (bp z168 [] fun d=>ak a fun e=>ay 0 e fun f=>aQ 2 f d fun _=>ag [(ii 0)]))
theorem UO:ax aa gt Y r 185 #[a]=inside (Jw Y r a):=jK
def Jx(Y:Nat)(r:RT)(a:V):M V:=cJ a nP (ag [(i3 0)]) (ak a fun c=>an 256 c fun e=>BL e fun f=>ag [f])
theorem UP:ax aa gt Y r 186 #[a]=inside (Jx Y r a):=jK
def uw(Y:Nat)(r:RT):Nat->(V->V->V->V->V->M V)->V->V->V->V->V->V->V->M V|0,_,_,_,_,_,_,_,_=> .fail|fu+1,k,a,b,c,d,e,f,g=>aW g (ii 8) (pj d (i6 31) fun i=>mv d (i6 1) fun j=>dR i (i3 79764919) fun l=>nN j l fun m=>aq g (ii 1) fun d=>uw Y r fu k a b c m e f d) (k a b c d e)
def UQ:List Nat:=[0,1,2,3,5,6,11]
def De(Y:Nat)(r:RT)(k:(V->V->M V))(g:V->V->V->M V):(V->V->V->V->V->M V):=fun a b c d e=>gN 256 b c fun f=>aJ f d fun _=>aq e (ii 1) fun f=>g a b f
def rW(Y:Nat)(r:RT):Nat->(V->V->M V)->V->V->V->M V|0,_,_,_,_=> .fail|fu+1,k,a,b,c=>dV c (ii 256) fun d=>aC d (dh .u32 c fun e=>mv e (i6 24) fun f=>uw Y r Y (De Y r k (rW Y r fu k)) a b c f c d (ii 0)) (k a b)
def zj:List Nat:=[0,1,5]
abbrev UR(Y:Nat)(r:RT)(a:Nat)(k:(V->V->M V)):(V->V->V->V->V->M V):=De Y r k (rW Y r a k)
def zu(Y:Nat)(r:RT):(V->V->M V):=fun a b=>bc 256 b fun c=>aQ 256 a c fun _=>bc 256 a fun b=>ag [b]
def Df(Y:Nat)(r:RT):M V:=cC 257 Hy fun a=>cC 257 Hy fun b=>rW Y r Y (zu Y r) a b (ii 0)
theorem US(K:KT):∀fu,uw Y r fu (fun a b c d e=>K (.exit 2) (zp [0,1,2,3,5] [a,b,c,d,e]))=fun a b c d e f g
 =>aT (cQ 187 (pb 16 11467) Y r) UQ fu (zp UQ [a,b,c,d,e,f,g]) K
 |0=>by funext a b c d e f g;kernel_rfl
 |fu+1=>by have h:=US K fu;funext a b c d e f g;rw[uw];simp only[h];kernel_rfl
theorem agm(K:KT)(f:Nat):De Y r (fun a b=>K (.exit 0) (zp [0,1] [a,b])) (fun a b c=>aT (cQ 187 (pb 6 11) Y
 r) zj f (zp zj [a,b,c]) K)=(fun a b c d e=>(iK 187 (pb 6 11) (pb 9 179) zj f K Y r) (.exit 2) (zp [0,1,2,3,5] [a,b,c,d,e])):=by kernel_rfl
theorem UT(K:KT):∀fu,rW Y r fu (fun a b=>K (.exit 0) (zp [0,1] [a,b]))=fun a b c=>aT (cQ 187 (pb 6 11) Y r)
 zj fu (zp zj [a,b,c]) K
 |0=>by funext a b c;kernel_rfl
 |fu+1=>by have d:=UT K fu;funext a b c;rw[rW];simp only[d,agm,US];kernel_rfl
theorem agn:zu Y r=(fun a b=>(tK 187 (pb 5 11) Y r) (.exit 0) (zp [0,1] [a,b])):=jK
theorem UU:ax aa gt Y r 187 #[]=inside (Df Y r):=by unfold Df;simp only[agn,UT];kernel_rfl
def ux(Y:Nat)(r:RT):Nat->(V->M V)->V->V->V->V->V->V->V->V->V->V->M V|0,_,_,_,_,_,_,_,_,_,_,_=> .fail|fu+1,k,a,b,c,d,e,f,g,h,i,j=>aW j i (mv e (i6 1) fun m=>ak a fun n=>an 2 n fun p=>ai r 215 [a,p] fun q=>yk m q fun s=>ak a fun e=>an 2 e fun n=>aq n (ii 1) fun o=>ak a fun p=>ay 2 p fun q=>aJ q o fun _=>aq j (ii 1) fun e=>ux Y r fu k a b c d s f g h i e) (k e)
def UW:List Nat:=[0,1,4,5,6,7,10,17,22,23]
def Dg(Y:Nat)(r:RT):(V->M V):=fun a=>ag [a,(ii 0)]
def Dh(Y:Nat)(r:RT)(a b:V):M V:=qv a nP fun c=>aC c (ag [(i3 0),(ii 7)]) (aW b (ii 0) (ag [(i3 0),(ii 1)]) (jh b (ii 32) fun e=>aC e (ag [(i3 0),(ii 1)]) (ai r 98 [a] fun d=>dV d b fun f=>aC f (ag [(i3 0),(ii 3)]) (ux Y r Y (Dg Y r) a b (i3 0) (ii 0) (i3 0) c e f b (ii 0)))))
theorem UX(K:KT):∀fu,ux Y r fu (fun a=>K (.exit 1) (zp [6] [a]))=fun a b c d e f g h i j=>aT (cQ
 188 (pb 7 23) Y r) UW fu (zp UW [a,b,c,d,e,f,g,h,i,j]) K
 |0=>by funext a b c d e f g h i j;kernel_rfl
 |fu+1=>by have k:=UX K fu;funext a b c d e f g h i j;rw[ux];simp only[k];kernel_rfl
theorem ago:Dg Y r=(fun a=>(tK 188 (pb 6 23) Y r) (.exit 1) (zp [6] [a])):=jK
theorem UY:ax aa gt Y r 188 #[a,b]=inside (Dh Y r a b):=by unfold Dh;simp only[ago,UX];kernel_rfl
def Jy(Y:Nat)(r:RT)(a:V):M V:=aW a (ii 5) (ag [nP,(ii 1)]) (eB a (ii 900000) (ag [nP,(ii 1)]) (bp PJ [(1,1,a)] fun b=>dW 207 b fun d=>ag [d,(ii 0)]))
theorem UZ:ax aa gt Y r 189 #[a]=inside (Jy Y r a):=jK
def Jz(Y:Nat)(r:RT)(a b:V):M V:=cJ a nP (ag [(ii 7)]) (cJ b nP (ag [(ii 7)]) (ak a fun e=>an 6 e fun g=>aC g (ag [(ii 7)]) (ak a fun c=>an 7 c fun e=>b9 e (ii 0) (ak a fun c=>an 7 c fun e=>ag [e]) (ai r 216 [a,b] fun c=>b9 c (ii 3) (ak a fun e=>ay 7 e fun h=>aJ h c fun _=>ag [c]) (ag [c])))))
theorem U0:ax aa gt Y r 190 #[a,b]=inside (Jz Y r a b):=jK
def JA(Y:Nat)(r:RT)(a:V):M V:=kU a nP (ak a fun c=>an 6 c fun e=>ag [e]) (ag [bF])
theorem U1:ax aa gt Y r 191 #[a]=inside (JA Y r a):=jK
def JB(Y:Nat)(r:RT)(a:V):M V:=cC 134 vZ fun b=>ai r 191 [a] fun c=>dC c fun d=>aC d (bp vZ [] fun c=>aQ 3 b c fun _=>bc 3 b fun a=>ag [a]) (ak a fun c=>ay 5 c fun e=>(az (aP e M.ret)).bind fun f=>(az (hC f.1 M.ret)).bind fun g=>ak a fun h=>ay 4 h fun i=>(az (aP i M.ret)).bind fun j=>ak a fun l=>ay 3 l fun m=>(az (aP m M.ret)).bind fun n=>bp vZ [(0,1,g.1),(1,1,j.1),(2,1,n.1)] fun o=>(az (aQ 3 b o M.ret)).bind fun p=>dm ((!(bP g.2 j.2)&&(!(bP g.2 n.2)&&true))&&true) (bc 3 b fun a=>ag [a]))
theorem U2:ax aa gt Y r 192 #[a]=inside (JB Y r a):=jK
def uy(Y:Nat)(r:RT):Nat->(M V)->V->M V|0,_,_=> .fail|fu+1,k,a=>kU a nP (ak a fun c=>an 2 c fun e=>kN e (ii 8) fun f=>b9 f (ii 0) (ak a fun b=>an 2 b fun d=>aq d (ii 1) fun e=>ak a fun f=>ay 2 f fun h=>aJ h e fun _=>uy Y r fu k a) (k)) (k)
def U3:List Nat:=[0]
def Di(Y:Nat)(r:RT):(M V):=ag []
def Dj(Y:Nat)(r:RT)(a:V):M V:=uy Y r Y (Di Y r) a
theorem U4(K:KT):∀fu,uy Y r fu (K (.exit 0) [])=fun a=>aT (cQ 193 (pb 2 0) Y r) U3 fu (zp U3 [a]) K
 |0=>by funext a;kernel_rfl
 |fu+1=>by have b:=U4 K fu;funext a;rw[uy];simp only[b];kernel_rfl
theorem agp:Di Y r=((tK 193 (pb 1 0) Y r) (.exit 0) []):=jK
theorem U5:ax aa gt Y r 193 #[a]=inside (Dj Y r a):=by unfold Dj;simp only[agp,U4];kernel_rfl
def uz(Y:Nat)(r:RT):Nat->(V->M V)->V->V->V->M V|0,_,_,_,_=> .fail|fu+1,k,a,b,c=>bH a fun d=>aW c d (cU a c fun f=>bx f (i1 49) (aq c (ii 1) fun d=>uz Y r fu k a b d) (k c)) (k c)
def U6:List Nat:=[0,2,3]
def zv(Y:Nat)(r:RT):(V->M V):=fun a=>ag [a]
def JC(Y:Nat)(r:RT)(a:V):M V:=uz Y r Y (zv Y r) a (ii 0) (ii 0)
theorem U7(K:KT):∀fu,uz Y r fu (fun a=>K (.exit 0) (zp [3] [a]))=fun a b c=>aT (cQ 196 (pb 5 3) Y
 r) U6 fu (zp U6 [a,b,c]) K
 |0=>by funext a b c;kernel_rfl
 |fu+1=>by have d:=U7 K fu;funext a b c;rw[uz];simp only[d];kernel_rfl
theorem agq:zv Y r=(fun a=>(tK 196 (pb 4 3) Y r) (.exit 0) (zp [3] [a])):=jK
theorem agr:ax aa gt Y r 196 #[a]=inside (JC Y r a):=by unfold JC;simp only[agq,U7];kernel_rfl
def rX(Y:Nat)(r:RT):Nat->((V->V->V->M V)×(V->M V))->V->V->V->V->V->V->V->V->M V|0,_,_,_,_,_,_,_,_,_=> .fail|fu+1,k,a,b,c,d,e,f,g,h=>bA e fun i=>aW i b (bH a fun i=>bx f i (bp nX [(2,1,(ii 3))] fun i=>aQ 3 c i fun _=>k.2 c) (cU a f fun i=>bx i (i1 48) (bO 3 1 d fun i=>bN 3 1 e i fun n=>aq f (ii 1) fun e=>rX Y r fu k a b c d n e g h) (aq f (ii 1) fun i=>bH a fun n=>bx i n (bp nX [(2,1,(ii 3))] fun i=>aQ 3 c i fun _=>k.2 c) (aq f (ii 1) fun i=>cU a i fun n=>cH n (i1 48) fun p=>(fun i=>aC p (aq d (ii 1) fun n=>i n) (cO d (ii 1) fun n=>i n)) fun d=>aW d (ii 1) (bp nX [(2,1,(ii 22))] fun i=>aQ 3 c i fun _=>k.2 c) (eB d (ii 20) (bp nX [(2,1,(ii 22))] fun i=>aQ 3 c i fun _=>k.2 c) (aq f (ii 2) fun i=>rX Y r fu k a b c d e i g h)))))) (k.1 c e f)
def U8:List Nat:=[0,1,4,5,6,7,10,21]
def qD(Y:Nat)(r:RT):(V->V->V->M V)×(V->M V):=(fun a b c=>bp nX [(0,1,b),(1,1,c)] fun d=>aQ 3 a d fun _=>bc 3 a fun b=>ag [b],fun a=>bc 3 a fun b=>ag [b])
def JD(Y:Nat)(r:RT)(a b:V):M V:=cC 269 nX fun c=>bH a fun d=>dV d (ii 5) fun e=>aC e (bp nX [(2,1,(ii 3))] fun d=>aQ 3 c d fun _=>bc 3 c fun a=>ag [a]) (bL a none (some (ii 5)) fun d=>ai r 63 [d] fun f=>dh .i64 f fun g=>aW g (ii 1) (bp nX [(2,1,(ii 22))] fun d=>aQ 3 c d fun _=>bc 3 c fun a=>ag [a]) (jh g (ii 20) fun f=>aC f (bp nX [(2,1,(ii 22))] fun d=>aQ 3 c d fun _=>bc 3 c fun a=>ag [a]) (rX Y r Y (qD Y r) a b c g nS (ii 5) e f)))
theorem U9(K:KT):∀fu,rX Y r fu ((fun a b c=>K (.exit 0) (zp [4,6,7] [a,b,c]),fun a=>K .ret (zp [4]
 [a])))=fun a b c d e f g h=>aT (cQ 197 (pb 9 63) Y r) U8 fu (zp U8 [a,b,c,d,e,f,g,h]) K
 |0=>by funext a b c d e f g h;kernel_rfl
 |fu+1=>by have i:=U9 K fu;funext a b c d e f g h;rw[rX];simp only[i];kernel_rfl
theorem ags:qD Y r=((fun a b c=>(tK 197 (pb 8 63) Y r) (.exit 0) (zp [4,6,7] [a,b,c]),fun a=>(tK 197
 (pb 8 63) Y r) .ret (zp [4] [a]))):=by kernel_rfl
theorem agt:ax aa gt Y r 197 #[a,b]=inside (JD Y r a b):=by unfold JD;simp only[ags,U9];kernel_rfl
def U'(Y:Nat)(r:RT)(a:V):M V:=ai r 217 [a,(ii 1),(ii 20)] fun b=>aC b (ai r 218 [a] fun c=>cH c (ii 1048576) fun d=>ag [d]) (ag [bF])
theorem agu:ax aa gt Y r 198 #[a]=inside (U' Y r a):=jK
def Va(Y:Nat)(r:RT)(a b:V):M V:=bH a fun c=>bH b fun d=>fT c d (bH b fun f=>bL a none (some f) fun g=>cH g b fun h=>ag [h]) (ag [bF])
theorem agv:ax aa gt Y r 199 #[a,b]=inside (Va Y r a b):=jK
def Vb(Y:Nat)(r:RT)(a:V):M V:=dW 233 a fun b=>ay 2 b fun c=>(az (aP c M.ret)).bind fun d=>ay 3 b fun e=>(az (aP e M.ret)).bind fun f=>(az (ai r 201 [f.1] M.ret)).bind fun g=>aq d.1 g.1 fun h=>dm ((!(bP d.2 g.2)&&true)&&true) (ag [h])
theorem agw:ax aa gt Y r 200 #[a]=inside (Vb Y r a):=jK
def uA(Y:Nat)(r:RT):Nat->((V->M V)×(V->M V))->V->V->V->V->V->V->V->M V|0,_,_,_,_,_,_,_,_=> .fail|fu+1,k,a,b,c,d,e,f,g=>aW g f (bQ e g fun i=>aP i fun j=>eB d (ii 2199023255552) (k.2 (ii 2199023255552)) (aq c d fun l=>dR j d fun m=>aq l m fun n=>dR (ii 2) d fun c=>aq g (ii 1) fun d=>uA Y r fu k a b n c e f d)) (k.1 c)
def Vc:List Nat:=[0,2,3,4,7,8,9]
def Dk(Y:Nat)(r:RT):(V->M V)×(V->M V):=(fun a=>ag [a],fun a=>ag [a])
def JE(Y:Nat)(r:RT)(a:V):M V:=bA a fun b=>uA Y r Y (Dk Y r) a (ii 0) (ii 0) (ii 1) a b (ii 0)
theorem Vd(K:KT):∀fu,uA Y r fu ((fun a=>K (.exit 0) (zp [3] [a]),fun a=>K .ret (zp [2] [a])))=fun
 a b c d e f g=>aT (cQ 201 (pb 7 23) Y r) Vc fu (zp Vc [a,b,c,d,e,f,g]) K
 |0=>by funext a b c d e f g;kernel_rfl
 |fu+1=>by have h:=Vd K fu;funext a b c d e f g;rw[uA];simp only[h];kernel_rfl
theorem agx:Dk Y r=((fun a=>(tK 201 (pb 6 23) Y r) (.exit 0) (zp [3] [a]),fun a=>(tK 201 (pb 6 23) Y r) .ret (zp [2] [a]))):=jK
theorem agy:ax aa gt Y r 201 #[a]=inside (JE Y r a):=by unfold JE;simp only[agx,Vd];kernel_rfl
def Dl(Y:Nat)(r:RT):Nat->(V->V->V->V->V->V->V->V->M V)->V->V->V->V->V->V->V->V->V->V->V->V->V->V->M V|0,_,_,_,_,_,_,_,_,_,_,_,_,_,_,_=> .fail|fu+1,k,a,b,c,d,e,f,g,h,i,j,l,m,n,o=>aW o n (bQ m o fun q=>aP q fun s=>cO b (ii 1) fun q=>jh h q fun t=>(fun q=>aC t (cO b (ii 1) fun u=>q u) (q h)) fun h=>dR h d fun q=>iS q b fun u=>cH u f fun v=>(fun q=>aC v (bO 3 1 (ii 0) fun u=>bN 3 1 g u fun w=>q w) (bO 3 1 (ii 15) fun u=>bN 3 1 g u fun w=>q w)) fun g=>aq h s fun q=>aq o (ii 1) fun h=>Dl Y r fu k a b c d e f g q i j l m n h) (k a b c d e g i j)
def Ve:List Nat:=[0,1,4,5,6,7,8,9,14,15,16,18,19,20]
def Vf(Y:Nat)(r:RT)(k:(V->M V))(l:V->V->V->V->V->V->V->M V):(V->V->V->V->V->V->V->V->M V):=fun a b c d e f g h=>bO 115 1 f fun i=>bN 115 1 e i fun j=>aq h (ii 1) fun e=>l a b c d j g e
def Dm(Y:Nat)(r:RT):Nat->(V->M V)->V->V->V->V->V->V->V->M V|0,_,_,_,_,_,_,_,_=> .fail|fu+1,k,a,b,c,d,e,f,g=>dV g f fun h=>aC h (bA a fun i=>Dl Y r Y (Vf Y r k (Dm Y r fu k)) a b c d e g nS (ii 0) f g h a i (ii 0)) (k e)
def zw:List Nat:=[0,1,4,5,6,14,15]
def Vg(Y:Nat)(r:RT):(V->M V):=fun a=>ag [a]
def JF(Y:Nat)(r:RT)(a b:V):M V:=ai r 219 [b] fun c=>Dm Y r Y (Vg Y r) a b nS c nS c (ii 0)
theorem Vh(K:KT):∀fu,Dl Y r fu (fun a b c d e f g h=>K (.exit 2) (zp [0,1,4,5,6,8,14,15] [a,b,
 c,d,e,f,g,h]))=fun a b c d e f g h i j l m n o=>aT (cQ 202 (pb 18 47511) Y r) Ve fu (zp Ve [a,b,c,d,e,f,g,h,i,j,l,m,n,o]) K
 |0=>by funext a b c d e f g h i j l m n o;kernel_rfl
 |fu+1=>by have k:=Vh K fu;funext a b c d e f g h i j l m n o;rw[Dl];simp only[k];kernel_rfl
theorem agz(K:KT)(i:Nat):Vf Y r (fun a=>K (.exit 0) (zp [6] [a])) (fun a b c d e f g=>aT (cQ 202
 (pb 7 23) Y r) zw i (zp zw [a,b,c,d,e,f,g]) K)=(fun a b c d e f g h=>(iK 202 (pb 7 23) (pb 10 371) zw i
 K Y r) (.exit 2) (zp [0,1,4,5,6,8,14,15] [a,b,c,d,e,f,g,h])):=by kernel_rfl
theorem Vi(K:KT):∀fu,Dm Y r fu (fun a=>K (.exit 0) (zp [6] [a]))=fun a b c d e f g=>aT (cQ 202
 (pb 7 23) Y r) zw fu (zp zw [a,b,c,d,e,f,g]) K
 |0=>by funext a b c d e f g;kernel_rfl
 |fu+1=>by have h:=Vi K fu;funext a b c d e f g;rw[Dm];simp only[h,agz,Vh];kernel_rfl
theorem agA:Vg Y r=(fun a=>(tK 202 (pb 6 23) Y r) (.exit 0) (zp [6] [a])):=jK
theorem agB:ax aa gt Y r 202 #[a,b]=inside (JF Y r a b):=by unfold JF;simp only[agA,Vi];kernel_rfl
def Dp(Y:Nat)(r:RT):Nat->(V->M V)->V->V->V->V->V->V->M V|0,_,_,_,_,_,_,_=> .fail|fu+1,k,a,b,c,d,e,f=>aW f e (ai r 220 [a,f] fun h=>bO 3 1 h fun i=>bN 3 1 d i fun j=>aq f (ii 1) fun d=>Dp Y r fu k a b c j e d) (k d)
def Vj:List Nat:=[0,1,4,5,7,8]
def Vk(Y:Nat)(r:RT):(V->M V):=fun a=>ag [a]
def JG(Y:Nat)(r:RT)(a b:V):M V:=Dp Y r Y (Vk Y r) a b nS nS b (ii 0)
theorem Vl(K:KT):∀fu,Dp Y r fu (fun a=>K (.exit 0) (zp [5] [a]))=fun a b c d e f=>aT (cQ 203
 (pb 6 11) Y r) Vj fu (zp Vj [a,b,c,d,e,f]) K
 |0=>by funext a b c d e f;kernel_rfl
 |fu+1=>by have g:=Vl K fu;funext a b c d e f;rw[Dp];simp only[g];kernel_rfl
theorem agC:Vk Y r=(fun a=>(tK 203 (pb 5 11) Y r) (.exit 0) (zp [5] [a])):=jK
theorem agD:ax aa gt Y r 203 #[a,b]=inside (JG Y r a b):=by unfold JG;simp only[agC,Vl];kernel_rfl
def wE(Y:Nat)(r:RT):Nat->(V->M V)->V->V->V->V->V->V->V->M V|0,_,_,_,_,_,_,_,_=> .fail|fu+1,k,a,b,c,d,e,f,g=>aW g f (bQ e g fun i=>aP i fun j=>bO 3 1 j fun i=>bN 3 1 d i fun l=>bA l fun d=>bx d (ii 50) (bO 115 1 l fun d=>bN 115 1 c d fun i=>aq g (ii 1) fun c=>wE Y r fu k a b i nS e f c) (aq g (ii 1) fun m=>bA a fun n=>bx m n (bO 115 1 l fun d=>bN 115 1 c d fun i=>aq g (ii 1) fun c=>wE Y r fu k a b i nS e f c) (aq g (ii 1) fun d=>wE Y r fu k a b c l e f d))) (k c)
def Vm:List Nat:=[0,2,3,4,7,8,9]
def Vn(Y:Nat)(r:RT):(V->M V):=fun a=>ag [a]
def JH(Y:Nat)(r:RT)(a:V):M V:=bA a fun b=>wE Y r Y (Vn Y r) a nS nS nS a b (ii 0)
theorem Vo(K:KT):∀fu,wE Y r fu (fun a=>K (.exit 0) (zp [3] [a]))=fun a b c d e f g=>aT (cQ 204
 (pb 7 23) Y r) Vm fu (zp Vm [a,b,c,d,e,f,g]) K
 |0=>by funext a b c d e f g;kernel_rfl
 |fu+1=>by have h:=Vo K fu;funext a b c d e f g;rw[wE];simp only[h];kernel_rfl
theorem agE:Vn Y r=(fun a=>(tK 204 (pb 6 23) Y r) (.exit 0) (zp [3] [a])):=jK
theorem agF:ax aa gt Y r 204 #[a]=inside (JH Y r a):=by unfold JH;simp only[agE,Vo];kernel_rfl
def zx(Y:Nat)(r:RT):Nat->(V->M V)->V->V->V->V->V->V->V->M V|0,_,_,_,_,_,_,_,_=> .fail|fu+1,k,a,b,c,d,e,f,g=>aW g f (bQ e g fun i=>aP i fun j=>(az (ai r 221 [a,j] M.ret)).bind fun i=>bQ b d fun l=>(az (aP l M.ret)).bind fun m=>(az (ai r 221 [a,m.1] M.ret)).bind fun n=>dV i.1 n.1 fun o=>dm ((!(bP i.2 m.2)&&true)&&true) (aC o (aq g (ii 1) fun d=>zx Y r fu k a b c g e f d) (aq g (ii 1) fun i=>zx Y r fu k a b c d e f i))) (k d)
def Vp:List Nat:=[0,1,4,5,8,9,10]
def Vq(Y:Nat)(r:RT):(V->M V):=fun a=>ag [a]
def JI(Y:Nat)(r:RT)(a b:V):M V:=bA b fun c=>zx Y r Y (Vq Y r) a b (ii 0) (ii 0) b c (ii 0)
theorem Vr(K:KT):∀fu,zx Y r fu (fun a=>K (.exit 0) (zp [5] [a]))=fun a b c d e f g=>aT (cQ 205 (pb
 6 11) Y r) Vp fu (zp Vp [a,b,c,d,e,f,g]) K
 |0=>by funext a b c d e f g;kernel_rfl
 |fu+1=>by have h:=Vr K fu;funext a b c d e f g;rw[zx];simp only[h];kernel_rfl
theorem agG:Vq Y r=(fun a=>(tK 205 (pb 5 11) Y r) (.exit 0) (zp [5] [a])):=jK
theorem agH:ax aa gt Y r 205 #[a,b]=inside (JI Y r a b):=by unfold JI;simp only[agG,Vr];kernel_rfl
def zy(Y:Nat)(r:RT):Nat->(V->V->V->V->V->V->V->M V)->V->V->V->V->V->V->M V|0,_,_,_,_,_,_,_=> .fail|fu+1,k,a,b,c,d,e,f=>dV f e fun g=>aC g (bQ d f fun h=>aP h fun i=>bx i (ii 0) (bO 3 1 (ii 1) fun i=>bN 3 1 c i fun j=>aq f (ii 1) fun c=>zy Y r fu k a b j d e c) (bO 3 1 i fun j=>bN 3 1 c j fun l=>aq f (ii 1) fun c=>zy Y r fu k a b l d e c)) (k a b c d e f g)
def Vs:List Nat:=[0,2,3,7,8,9]
def Dq(Y:Nat)(r:RT):Nat->((M V)×(V->M V))->V->V->V->V->V->V->V->V->M V|0,_,_,_,_,_,_,_,_,_=> .fail|fu+1,k,a,b,c,d,e,f,g,h=>aW h (ii 100) (ai r 222 [c] fun j=>ai r 217 [j,(ii 1),(ii 20)] fun l=>aC l (k.2 j) (ai r 223 [c] fun m=>aq h (ii 1) fun c=>Dq Y r fu k a b m d e f g c)) (k.1)
def Vt:List Nat:=[0,2,3,7,8,9,10,20]
def Vu(Y:Nat)(r:RT):(M V)×(V->M V):=(ag [nS],fun a=>ag [a])
def JJ(Y:Nat)(r:RT):(V->V->V->V->V->V->V->M V):=fun a b c d e f g=>Dq Y r Y (Vu Y r) a b c d e f g (ii 0)
def JK(Y:Nat)(r:RT)(a:V):M V:=bA a fun b=>zy Y r Y (JJ Y r) a nS nS a b (ii 0)
theorem Vv(K:KT):∀fu,zy Y r fu (fun a b c d e f g=>K (.exit 0) (zp [0,2,3,7,8,9,10] [a,b,c,d,e,f,
 g]))=fun a b c d e f=>aT (cQ 206 (pb 6 11) Y r) Vs fu (zp Vs [a,b,c,d,e,f]) K
 |0=>by funext a b c d e f;kernel_rfl
 |fu+1=>by have h:=Vv K fu;funext a b c d e f;rw[zy];simp only[h];kernel_rfl
theorem JL(K:KT):∀fu,Dq Y r fu ((K (.exit 2) [],fun a=>K .ret (zp [2] [a])))=fun a b c d e f g h=>aT
 (cQ 206 (pb 7 23) Y r) Vt fu (zp Vt [a,b,c,d,e,f,g,h]) K
 |0=>by funext a b c d e f g h;kernel_rfl
 |fu+1=>by have i:=JL K fu;funext a b c d e f g h;rw[Dq];simp only[i];kernel_rfl
theorem Vw:Vu Y r=(((tK 206 (pb 6 23) Y r) (.exit 2) [],fun a=>(tK 206 (pb 6 23) Y r) .ret (zp [2] [a]))):=jK
theorem agI:JJ Y r=(fun a b c d e f g=>(tK 206 (pb 5 11) Y r) (.exit 0) (zp [0,2,3,7,8,9,10] [a,b,c,d,e,f,g])):=by unfold JJ;simp only[Vw,JL];kernel_rfl
theorem agJ:ax aa gt Y r 206 #[a]=inside (JK Y r a):=by unfold JK;simp only[agI,Vw,Vv,JL];kernel_rfl
def rY(Y:Nat)(r:RT):Nat->(V->V->V->V->V->V->V->M V)->V->V->V->V->V->V->M V|0,_,_,_,_,_,_,_=> .fail|fu+1,k,a,b,c,d,e,f=>qu f (ii 0) fun g=>aC g (cU a f fun h=>cH h (i1 49) fun i=>yl i e fun h=>(fun l=>aC h (aq (aM {data:=#[49]}) d fun j=>l j) (aq (aM {data:=#[48]}) d fun j=>l j)) fun d=>aC e (cO f (ii 1) fun e=>rY Y r fu k a b c d i e) (cO f (ii 1) fun e=>rY Y r fu k a b c d bF e)) (k a b c d e f g)
def Vx:List Nat:=[0,1,4,5,6,7]
def uB(Y:Nat)(r:RT):Nat->(V->M V)->V->V->V->V->V->V->V->M V|0,_,_,_,_,_,_,_,_=> .fail|fu+1,k,a,b,c,d,e,f,g=>bH d fun h=>aW h b (aq d (aM {data:=#[48]}) fun h=>uB Y r fu k a b c h e f g) (k d)
def Vy:List Nat:=[0,1,4,5,6,7,13]
def Dr(Y:Nat)(r:RT):(V->M V):=fun a=>ag [a]
def zC(Y:Nat)(r:RT):(V->V->V->V->V->V->V->M V):=fun a b c d e f g=>uB Y r Y (Dr Y r) a b c d e f g
def Dt(Y:Nat)(r:RT)(a b:V):M V:=bH a fun c=>cO c (ii 1) fun d=>rY Y r Y (zC Y r) a b (aM {data:=#[]}) (aM {data:=#[]}) bT d
theorem Vz(K:KT):∀fu,rY Y r fu (fun a b c d e f g=>K (.exit 0) (zp [0,1,4,5,6,7,13] [a,b,c,d,e,
 f,g]))=fun a b c d e f=>aT (cQ 207 (pb 7 23) Y r) Vx fu (zp Vx [a,b,c,d,e,f]) K
 |0=>by funext a b c d e f;kernel_rfl
 |fu+1=>by have h:=Vz K fu;funext a b c d e f;rw[rY];simp only[h];kernel_rfl
theorem JM(K:KT):∀fu,uB Y r fu (fun a=>K (.exit 2) (zp [5] [a]))=fun a b c d e f g=>aT (cQ 207 (pb
 7 15) Y r) Vy fu (zp Vy [a,b,c,d,e,f,g]) K
 |0=>by funext a b c d e f g;kernel_rfl
 |fu+1=>by have h:=JM K fu;funext a b c d e f g;rw[uB];simp only[h];kernel_rfl
theorem VA:Dr Y r=(fun a=>(tK 207 (pb 6 15) Y r) (.exit 2) (zp [5] [a])):=jK
theorem agK:zC Y r=(fun a b c d e f g=>(tK 207 (pb 6 23) Y r) (.exit 0) (zp [0,1,4,5,6,7,13] [a,b,c,d,e,f,g])):=by unfold zC;simp only[VA,JM];kernel_rfl
theorem VB:ax aa gt Y r 207 #[a,b]=inside (Dt Y r a b):=by unfold Dt;simp only[agK,VA,Vz,JM];kernel_rfl
def Du(Y:Nat)(r:RT)(a:V):M V:=ad8 a nS (ag [nS]) (vQ 3 [] 0 [] fun c=>bN 3 1 c a fun d=>ag [d])
theorem JN:ax aa gt Y r 208 #[a]=inside (Du Y r a):=jK
def rZ(Y:Nat)(r:RT):Nat->(M V)->V->V->V->V->M V|0,_,_,_,_,_=> .fail|fu+1,k,a,b,c,d=>aW d (ii 256) (vP 256 c d fun f=>ak a fun g=>ay 1 g fun h=>gN 256 h d fun i=>aJ i b fun _=>aq b f fun g=>aq d (ii 1) fun b=>rZ Y r fu k a g c b) (k)
def VC:List Nat:=[0,2,8,9]
def zD(Y:Nat)(r:RT):(M V):=ag []
def Dv(Y:Nat)(r:RT)(a:V):M V:=ak a fun b=>ay 1 b fun c=>bc 256 c fun d=>rZ Y r Y (zD Y r) a (ii 0) d (ii 0)
theorem VD(K:KT):∀fu,rZ Y r fu (K (.exit 0) [])=fun a b c d=>aT (cQ 209 (pb 4 3) Y r)
 VC fu (zp VC [a,b,c,d]) K
 |0=>by funext a b c d;kernel_rfl
 |fu+1=>by have e:=VD K fu;funext a b c d;rw[rZ];simp only[e];kernel_rfl
theorem agL:zD Y r=((tK 209 (pb 3 3) Y r) (.exit 0) []):=jK
theorem VE:ax aa gt Y r 209 #[a]=inside (Dv Y r a):=by unfold Dv;simp only[agL,VD];kernel_rfl
def JO(Y:Nat)(r:RT)(a b c:V):M V:=mv b (i6 8) fun d=>pj b (i6 24) fun e=>dh .u8 e fun f=>nN f c fun g=>ak a fun h=>gN 256 h g fun i=>aP i fun j=>nN d j fun l=>ag [l]
theorem VF:ax aa gt Y r 214 #[a,b,c]=inside (JO Y r a b c):=jK
def JP(Y:Nat)(r:RT)(a b:V):M V:=ak a fun c=>an 0 c fun e=>iS b (ii 8) fun f=>ak a fun g=>an 1 g fun i=>cO f i fun j=>cU e j fun l=>kN b (ii 8) fun c=>cO (ii 7) c fun d=>pj l d fun e=>yi e (i1 1) fun f=>dh .u32 f fun g=>ag [g]
theorem VG:ax aa gt Y r 215 #[a,b]=inside (JP Y r a b):=jK
def JQ(Y:Nat)(r:RT)(a b:V):M V:=ak a fun c=>an 2 c fun e=>dC e fun f=>aC f (ai r 228 [a,b] fun c=>b9 c (ii 0) (ag [c]) (ai r 233 [a] fun e=>ag [e])) (ak a fun c=>an 0 c fun e=>cJ e nP (ai r 229 [a,b] fun c=>b9 c (ii 0) (ag [c]) (ai r 233 [a] fun e=>ag [e])) (ak a fun c=>an 0 c fun e=>ai r 230 [e] fun h=>aC h (ak a fun c=>ay 5 c fun d=>(az (aP d M.ret)).bind fun e=>ak a fun i=>ay 0 i fun j=>(az (aP j M.ret)).bind fun l=>(az (ai r 231 [l.1] M.ret)).bind fun m=>(az (bO 5 1 m.1 M.ret)).bind fun n=>(az (bN 5 1 e.1 n.1 M.ret)).bind fun o=>ak a fun p=>ay 5 p fun q=>(az (aJ q o.1 M.ret)).bind fun s=>dm ((!(bP e.2 m.2)&&true)&&true) (b9 (ii 0) (ii 0) (ag [(ii 0)]) (ai r 233 [a] fun d=>ag [d]))) (ai r 232 [a,b] fun c=>b9 c (ii 0) (ag [c]) (ai r 233 [a] fun e=>ag [e]))))
theorem VH:ax aa gt Y r 216 #[a,b]=inside (JQ Y r a b):=jK
def uC(Y:Nat)(r:RT):Nat->((M V)×(V->M V))->V->V->V->V->V->V->V->M V|0,_,_,_,_,_,_,_,_=> .fail|fu+1,k,a,b,c,d,e,f,g=>aW g f (bQ e g fun i=>aP i fun j=>aW j b (k.2 bF) (eB j c (k.2 bF) (aq g (ii 1) fun i=>uC Y r fu k a b c d e f i))) (k.1)
def VI:List Nat:=[0,1,2,6,9,10,11]
def wF(Y:Nat)(r:RT):(M V)×(V->M V):=(ag [bT],fun a=>ag [a])
def Dw(Y:Nat)(r:RT)(a b c:V):M V:=bA a fun d=>uC Y r Y (wF Y r) a b c bF a d (ii 0)
theorem VJ(K:KT):∀fu,uC Y r fu ((K (.exit 0) [],fun a=>K .ret (zp [6] [a])))=fun a b c d e f g=>aT
 (cQ 217 (pb 5 5) Y r) VI fu (zp VI [a,b,c,d,e,f,g]) K
 |0=>by funext a b c d e f g;kernel_rfl
 |fu+1=>by have h:=VJ K fu;funext a b c d e f g;rw[uC];simp only[h];kernel_rfl
theorem agM:wF Y r=(((tK 217 (pb 4 5) Y r) (.exit 0) [],fun a=>(tK 217 (pb 4 5) Y r) .ret (zp [6] [a]))):=jK
theorem VK:ax aa gt Y r 217 #[a,b,c]=inside (Dw Y r a b c):=by unfold Dw;simp only[agM,VJ];kernel_rfl
def uD(Y:Nat)(r:RT):Nat->(V->V->V->V->V->V->V->M V)->V->V->V->V->V->V->V->V->V->V->V->M V|0,_,_,_,_,_,_,_,_,_,_,_,_=> .fail|fu+1,k,a,b,c,d,e,f,g,h,i,j,l=>aW l j (dR (ii 2) e fun n=>aq l (ii 1) fun e=>uD Y r fu k a b c d n f g h i j e) (k a b c e f g h)
def VL:List Nat:=[0,2,3,5,6,7,8,9,10,14,15]
def Dx(Y:Nat)(r:RT)(k:(V->M V))(i:V->V->V->V->V->V->M V):(V->V->V->V->V->V->V->M V):=fun a b c d e f g=>aq c d fun h=>aq g (ii 1) fun c=>i a b h e f c
def r6(Y:Nat)(r:RT):Nat->(V->M V)->V->V->V->V->V->V->M V|0,_,_,_,_,_,_,_=> .fail|fu+1,k,a,b,c,d,e,f=>dV f e fun g=>aC g (bQ d f fun h=>aP h fun i=>cO (ii 20) i fun h=>uD Y r Y (Dx Y r k (r6 Y r fu k)) a b c i (ii 1) d e f g h (ii 0)) (k c)
def zE:List Nat:=[0,2,3,7,8,9]
abbrev agN(Y:Nat)(r:RT)(a:Nat)(k:(V->M V)):(V->V->V->V->V->V->V->M V):=Dx Y r k (r6 Y r a k)
def Dy(Y:Nat)(r:RT):(V->M V):=fun a=>ag [a]
def JR(Y:Nat)(r:RT)(a:V):M V:=bA a fun b=>r6 Y r Y (Dy Y r) a (ii 0) (ii 0) a b (ii 0)
theorem VM(K:KT):∀fu,uD Y r fu (fun a b c d e f g=>K (.exit 2) (zp [0,2,3,6,7,8,9] [a,b,c,d,
 e,f,g]))=fun a b c d e f g h i j l=>aT (cQ 218 (pb 16 11467) Y r) VL fu (zp VL [a,b,c,d,e,f,g,h,i,j,l]) K
 |0=>by funext a b c d e f g h i j l;kernel_rfl
 |fu+1=>by have k:=VM K fu;funext a b c d e f g h i j l;rw[uD];simp only[k];kernel_rfl
theorem agO(K:KT)(h:Nat):Dx Y r (fun a=>K (.exit 0) (zp [3] [a])) (fun a b c d e f=>aT (cQ 218
 (pb 6 11) Y r) zE h (zp zE [a,b,c,d,e,f]) K)=(fun a b c d e f g=>(iK 218 (pb 6 11) (pb 9 179) zE h K Y
 r) (.exit 2) (zp [0,2,3,6,7,8,9] [a,b,c,d,e,f,g])):=by kernel_rfl
theorem VN(K:KT):∀fu,r6 Y r fu (fun a=>K (.exit 0) (zp [3] [a]))=fun a b c d e f=>aT (cQ 218 (pb
 6 11) Y r) zE fu (zp zE [a,b,c,d,e,f]) K
 |0=>by funext a b c d e f;kernel_rfl
 |fu+1=>by have g:=VN K fu;funext a b c d e f;rw[r6];simp only[g,agO,VM];kernel_rfl
theorem agP:Dy Y r=(fun a=>(tK 218 (pb 5 11) Y r) (.exit 0) (zp [3] [a])):=jK
theorem agQ:ax aa gt Y r 218 #[a]=inside (JR Y r a):=by unfold JR;simp only[agP,VN];kernel_rfl
def VO(Y:Nat)(r:RT)(a:V):M V:=aW a (ii 200) (ag [(ii 2)]) (aW a (ii 600) (ag [(ii 3)]) (aW a (ii 1200) (ag [(ii 4)]) (aW a (ii 2400) (ag [(ii 5)]) (ag [(ii 6)]))))
theorem agR:ax aa gt Y r 219 #[a]=inside (VO Y r a):=jK
def zF(Y:Nat)(r:RT):Nat->(V->M V)->V->V->V->V->V->V->V->M V|0,_,_,_,_,_,_,_,_=> .fail|fu+1,k,a,b,c,d,e,f,g=>aW g f (bQ e g fun i=>aP i fun j=>bx b j (aq d (ii 1) fun l=>aq g (ii 1) fun d=>zF Y r fu k a b c l e f d) (aq g (ii 1) fun l=>zF Y r fu k a b c d e f l)) (k d)
def VP:List Nat:=[0,1,4,5,8,9,10]
def VQ(Y:Nat)(r:RT):(V->M V):=fun a=>ag [a]
def JS(Y:Nat)(r:RT)(a b:V):M V:=bA a fun c=>zF Y r Y (VQ Y r) a b (ii 0) (ii 0) a c (ii 0)
theorem VS(K:KT):∀fu,zF Y r fu (fun a=>K (.exit 0) (zp [5] [a]))=fun a b c d e f g=>aT (cQ 220
 (pb 6 11) Y r) VP fu (zp VP [a,b,c,d,e,f,g]) K
 |0=>by funext a b c d e f g;kernel_rfl
 |fu+1=>by have h:=VS K fu;funext a b c d e f g;rw[zF];simp only[h];kernel_rfl
theorem agS:VQ Y r=(fun a=>(tK 220 (pb 5 11) Y r) (.exit 0) (zp [5] [a])):=jK
theorem agT:ax aa gt Y r 220 #[a,b]=inside (JS Y r a b):=by unfold JS;simp only[agS,VS];kernel_rfl
def Dz(Y:Nat)(r:RT):Nat->(V->V->V->V->V->V->V->M V)->V->V->V->V->V->V->V->V->V->V->V->V->M V|0,_,_,_,_,_,_,_,_,_,_,_,_,_=> .fail|fu+1,k,a,b,c,d,e,f,g,h,i,j,l,m=>aW m l (aq d f fun o=>ai r 234 [o] fun p=>aq m (ii 1) fun d=>Dz Y r fu k a b c p e f g h i j l d) (k a b c d g h i)
def VT:List Nat:=[0,1,4,5,6,7,8,9,10,11,17,18]
def VU(Y:Nat)(r:RT)(k:(V->M V))(i:V->V->V->V->V->V->V->M V):(V->V->V->V->V->V->V->M V):=fun a b c d e f g=>aq g (ii 1) fun h=>i a b c d e f h
def DA(Y:Nat)(r:RT):Nat->(V->M V)->V->V->V->V->V->V->V->M V|0,_,_,_,_,_,_,_,_=> .fail|fu+1,k,a,b,c,d,e,f,g=>dV g f fun h=>aC h (bQ e g fun i=>aP i fun j=>ai r 220 [a,g] fun i=>Dz Y r Y (VU Y r k (DA Y r fu k)) a b c d g j e f g h i (ii 0)) (k d)
def zG:List Nat:=[0,1,4,5,8,9,10]
def VV(Y:Nat)(r:RT):(V->M V):=fun a=>ag [a]
def JT(Y:Nat)(r:RT)(a b:V):M V:=bA b fun c=>DA Y r Y (VV Y r) a b (ii 0) (ii 0) b c (ii 0)
theorem VW(K:KT):∀fu,Dz Y r fu (fun a b c d e f g=>K (.exit 2) (zp [0,1,4,5,8,9,10] [a,b,c,d,e,
 f,g]))=fun a b c d e f g h i j l m=>aT (cQ 221 (pb 14 3275) Y r) VT fu (zp VT [a,b,c,d,e,f,g,h,i,j,l,m]) K
 |0=>by funext a b c d e f g h i j l m;kernel_rfl
 |fu+1=>by have k:=VW K fu;funext a b c d e f g h i j l m;rw[Dz];simp only[k];kernel_rfl
theorem agU(K:KT)(h:Nat):VU Y r (fun a=>K (.exit 0) (zp [5] [a])) (fun a b c d e f g=>aT (cQ 221
 (pb 6 11) Y r) zG h (zp zG [a,b,c,d,e,f,g]) K)=(fun a b c d e f g=>(iK 221 (pb 6 11) (pb 7 51) zG h K Y
 r) (.exit 2) (zp [0,1,4,5,8,9,10] [a,b,c,d,e,f,g])):=by kernel_rfl
theorem VX(K:KT):∀fu,DA Y r fu (fun a=>K (.exit 0) (zp [5] [a]))=fun a b c d e f g=>aT (cQ 221 (pb
 6 11) Y r) zG fu (zp zG [a,b,c,d,e,f,g]) K
 |0=>by funext a b c d e f g;kernel_rfl
 |fu+1=>by have h:=VX K fu;funext a b c d e f g;rw[DA];simp only[h,agU,VW];kernel_rfl
theorem agV:VV Y r=(fun a=>(tK 221 (pb 5 11) Y r) (.exit 0) (zp [5] [a])):=jK
theorem agW:ax aa gt Y r 221 #[a,b]=inside (JT Y r a b):=by unfold JT;simp only[agV,VX];kernel_rfl
def DB(Y:Nat)(r:RT):Nat->(V->V->V->V->V->V->V->V->M V)->V->V->V->V->V->V->V->M V|0,_,_,_,_,_,_,_,_=> .fail|fu+1,k,a,b,c,d,e,f,g=>dV g f fun h=>aC h (bQ e g fun i=>aP i fun j=>bO 3 1 g fun i=>bp tP [(0,1,j),(1,1,g),(2,1,i)] fun l=>bO 299 3 l fun m=>bN 299 3 d m fun n=>aq g (ii 1) fun d=>DB Y r fu k a b c n e f d) (k a b c d e f g h)
def VY:List Nat:=[0,2,3,4,18,19,20]
def DC(Y:Nat)(r:RT):Nat->(V->V->V->V->V->V->V->V->V->V->V->V->V->M V)->V->V->V->V->V->V->V->V->V->V->V->V->V->V->V->V->V->V->V->M V|0,_,_,_,_,_,_,_,_,_,_,_,_,_,_,_,_,_,_,_,_=> .fail|fu+1,k,a,b,c,d,e,f,g,h,i,j,l,m,n,o,p,q,s,t,u=>aW u t (bQ s u fun w=>aP w fun x=>bQ e x fun w=>aP w fun y=>aq y (ii 1) fun z=>bQ e x fun A=>aJ A z fun _=>aq u (ii 1) fun w=>DC Y r fu k a b c d e f g h i j l m n o p q s t w) (k a b c d e f h j l m n o p)
def VZ:List Nat:=[0,2,3,4,7,8,9,10,11,12,13,18,19,20,21,39,66,67,68]
def V0(Y:Nat)(r:RT)(k:(V->M V))(o:V->V->V->V->V->V->V->V->V->V->M V):(V->V->V->V->V->V->V->V->V->V->V->V->V->M V):=fun a b c d e f g h i j l m n=>an 0 g fun p=>an 0 h fun s=>aq p s fun t=>bp tP [(0,1,t),(1,1,f),(2,1,i)] fun u=>bO 299 3 u fun v=>bN 299 3 d v fun w=>aq f (ii 1) fun d=>o a b c w e d j l m n
def DD(Y:Nat)(r:RT):Nat->(V->M V)->V->V->V->V->V->V->V->V->V->V->M V|0,_,_,_,_,_,_,_,_,_,_,_=> .fail|fu+1,k,a,b,c,d,e,f,g,h,i,j=>bA d fun l=>jh l (ii 1) fun m=>aC m (ai r 235 [d] fun l=>mw 3 d l fun n=>bc 3 n fun o=>cC 299 tP fun p=>aQ 3 p o fun _=>ai r 236 [d,l] fun n=>ai r 235 [n] fun d=>mw 3 n d fun o=>bc 3 o fun q=>cC 299 tP fun s=>aQ 3 s q fun _=>ai r 236 [n,d] fun o=>an 2 p fun q=>bN 3 1 nS q fun t=>an 2 s fun q=>bN 3 1 t q fun u=>bA u fun n=>DC Y r Y (V0 Y r k (DD Y r fu k)) a b c o e f l p d s u g h i j m u n (ii 0)) (k e)
def zH:List Nat:=[0,2,3,4,7,8,18,19,20,21]
def V1(Y:Nat)(r:RT):(V->M V):=fun a=>ag [a]
def JU(Y:Nat)(r:RT):(V->V->V->V->V->V->V->V->M V):=fun a b c d e f g h=>po 3 [(ii 0)] c c fun i=>DD Y r Y (V1 Y r) a b c d i c e f g h
def JV(Y:Nat)(r:RT)(a:V):M V:=bA a fun b=>bA a fun c=>DB Y r Y (JU Y r) a nS b nS a c (ii 0)
theorem V2(K:KT):∀fu,DB Y r fu (fun a b c d e f g h=>K (.exit 0) (zp [0,2,3,4,18,19,20,21] [a,
 b,c,d,e,f,g,h]))=fun a b c d e f g=>aT (cQ 222 (pb 7 23) Y r) VY fu (zp VY [a,b,c,d,e,f,g]) K
 |0=>by funext a b c d e f g;kernel_rfl
 |fu+1=>by have i:=V2 K fu;funext a b c d e f g;rw[DB];simp only[i];kernel_rfl
theorem V3(K:KT):∀fu,DC Y r fu (fun a b c d e f g h i j l m n=>K (.exit 4) (zp [0,2,3,4,7,8,10,
 12,13,18,19,20,21] [a,b,c,d,e,f,g,h,i,j,l,m,n]))=fun a b c d e f g h i j l m n o p q s t u=>aT (cQ 222 (pb 24 3144255) Y r)
 VZ fu (zp VZ [a,b,c,d,e,f,g,h,i,j,l,m,n,o,p,q,s,t,u]) K
 |0=>by funext a b c d e f g h i j l m n o p q s t u;kernel_rfl
 |fu+1=>by have k:=V3 K fu;funext a b c d e f g h i j l m n o p q s t u;rw[DC];simp only[k];kernel_rfl
theorem agX(K:KT)(k:Nat):V0 Y r (fun a=>K (.exit 2) (zp [7] [a])) (fun a b c d e f g h i j=>aT
 (cQ 222 (pb 9 63) Y r) zH k (zp zH [a,b,c,d,e,f,g,h,i,j]) K)=(fun a b c d e f g h i j l m n=>(iK 222 (pb 9 63) (pb
 14 6141) zH k K Y r) (.exit 4) (zp [0,2,3,4,7,8,10,12,13,18,19,20,21] [a,b,c,d,e,f,g,h,i,j,l,m,n])):=by kernel_rfl
theorem JW(K:KT):∀fu,DD Y r fu (fun a=>K (.exit 2) (zp [7] [a]))=fun a b c d e f g h i j=>aT
 (cQ 222 (pb 9 63) Y r) zH fu (zp zH [a,b,c,d,e,f,g,h,i,j]) K
 |0=>by funext a b c d e f g h i j;kernel_rfl
 |fu+1=>by have k:=JW K fu;funext a b c d e f g h i j;rw[DD];simp only[k,agX,V3];kernel_rfl
theorem V4:V1 Y r=(fun a=>(tK 222 (pb 8 63) Y r) (.exit 2) (zp [7] [a])):=jK
theorem agY:JU Y r=(fun a b c d e f g h=>(tK 222 (pb 6 23) Y r) (.exit 0) (zp [0,2,3,4,18,19,20,21] [a,b,c,d,e,f,g,h])):=by unfold JU;simp only[V4,JW];kernel_rfl
theorem agZ:ax aa gt Y r 222 #[a]=inside (JV Y r a):=by unfold JV;simp only[agY,V4,V2,JW];kernel_rfl
def DE(Y:Nat)(r:RT):Nat->(V->M V)->V->V->V->V->V->V->M V|0,_,_,_,_,_,_,_=> .fail|fu+1,k,a,b,c,d,e,f=>aW f e (bQ d f fun h=>aP h fun i=>dV i (ii 0) fun h=>(fun l=>aC h (l (ii 0)) (l i)) fun i=>iS i (ii 2) fun j=>aq j (ii 1) fun l=>bO 3 1 l fun m=>bN 3 1 c m fun n=>aq f (ii 1) fun c=>DE Y r fu k a b n d e c) (k c)
def V5:List Nat:=[0,2,3,6,7,8]
def V6(Y:Nat)(r:RT):(V->M V):=fun a=>ag [a]
def JX(Y:Nat)(r:RT)(a:V):M V:=bA a fun b=>DE Y r Y (V6 Y r) a nS nS a b (ii 0)
theorem V7(K:KT):∀fu,DE Y r fu (fun a=>K (.exit 0) (zp [3] [a]))=fun a b c d e f=>aT (cQ 223
 (pb 6 11) Y r) V5 fu (zp V5 [a,b,c,d,e,f]) K
 |0=>by funext a b c d e f;kernel_rfl
 |fu+1=>by have g:=V7 K fu;funext a b c d e f;rw[DE];simp only[g];kernel_rfl
theorem ag0:V6 Y r=(fun a=>(tK 223 (pb 5 11) Y r) (.exit 0) (zp [3] [a])):=jK
theorem ag1:ax aa gt Y r 223 #[a]=inside (JX Y r a):=by unfold JX;simp only[ag0,V7];kernel_rfl
def JY(Y:Nat)(r:RT)(a b:V):M V:=ai r 98 [b] fun c=>aW c (ii 57) (ag [(ii 3)]) (ai r 188 [b,(ii 32)] fun c=>aU c 0 fun e=>aU c 1 fun f=>ai r 188 [b,(ii 1)] fun c=>aU c 0 fun f=>aU c 1 fun g=>ai r 188 [b,(ii 24)] fun c=>aU c 0 fun g=>aU c 1 fun h=>ak a fun c=>ay 2 c fun h=>aJ h bT fun _=>ak a fun c=>ay 3 c fun h=>aJ h e fun _=>dh .i64 g fun c=>ak a fun h=>ay 4 h fun i=>aJ i c fun _=>bx f (i3 1) (ag [(ii 25)]) (ag [(ii 0)]))
theorem V8:ax aa gt Y r 228 #[a,b]=inside (JY Y r a b):=jK
def JZ(Y:Nat)(r:RT)(a b:V):M V:=ai r 238 [b] fun c=>aU c 0 fun d=>aU c 1 fun e=>bx e (ii 0) (ak a fun f=>an 1 f fun h=>ai r 239 [d,h] fun i=>ak a fun j=>ay 0 j fun l=>aJ l i fun _=>ag [e]) (ag [e])
theorem V9:ax aa gt Y r 229 #[a,b]=inside (JZ Y r a b):=jK
def J0(Y:Nat)(r:RT)(a:V):M V:=kU a nP (ak a fun c=>an 3 c fun e=>eB e (ii 0) (ag [bT]) (ak a fun g=>an 4 g fun i=>jh i (ii 0) fun j=>ag [j])) (ag [bF])
theorem V':ax aa gt Y r 230 #[a]=inside (J0 Y r a):=jK
def J1(Y:Nat)(r:RT)(a:V):M V:=ak a fun b=>an 3 b fun d=>jh d (ii 0) fun e=>(fun b=>aC e (ak a fun c=>an 3 c fun f=>cO f (ii 1) fun g=>ak a fun h=>ay 3 h fun i=>aJ i g fun _=>b (ii 0)) (ak a fun c=>an 4 c fun f=>ak a fun c=>ay 4 c fun d=>aJ d (ii 0) fun _=>b f)) fun b=>ak a fun c=>an 2 c fun f=>ai r 240 [f,b] fun g=>aU g 0 fun h=>aU g 1 fun i=>ag [h]
theorem Wa:ax aa gt Y r 231 #[a]=inside (J1 Y r a):=jK
def J2(Y:Nat)(r:RT)(a b:V):M V:=ak a fun c=>an 0 c fun e=>ak e fun f=>an 0 f fun h=>ai r 241 [h,b] fun i=>aU i 0 fun j=>aU i 1 fun l=>b9 l (ii 0) (ag [l]) (aW j (ii 0) (ag [l]) (ak a fun c=>an 0 c fun f=>ai r 242 [f,j] fun g=>ag [g]))
theorem Wb:ax aa gt Y r 232 #[a,b]=inside (J2 Y r a b):=jK
def DF(Y:Nat)(r:RT)(a:V):M V:=ak a fun b=>an 0 b fun d=>cJ d nP (ag [(ii 0)]) (ak a fun f=>an 0 f fun h=>ak h fun i=>an 0 i fun l=>ai r 243 [l] fun m=>dC m fun n=>aC n (ag [(ii 0)]) (ak a fun o=>an 0 o fun q=>ai r 230 [q] fun s=>aC s (ag [(ii 0)]) (ak a fun b=>an 4 b fun d=>ak a fun e=>an 5 e fun g=>bA g fun h=>fT d h (ag [(ii 23)]) (ak a fun b=>ay 6 b fun c=>aJ c bT fun _=>ag [(ii 0)]))))
theorem J3:ax aa gt Y r 233 #[a]=inside (DF Y r a):=jK
def Wc(Y:Nat)(r:RT)(a:V):M V:=eB a (ii 1099511627776) (ag [(ii 1099511627776)]) (ag [a])
theorem ag2:ax aa gt Y r 234 #[a]=inside (Wc Y r a):=jK
def zI(Y:Nat)(r:RT):Nat->(V->M V)->V->V->V->V->V->V->M V|0,_,_,_,_,_,_,_=> .fail|fu+1,k,a,b,c,d,e,f=>aW f e (mw 3 d f fun h=>bc 3 h fun i=>cC 299 tP fun j=>aQ 3 j i fun _=>bc 3 j fun h=>mw 3 a c fun i=>bc 3 i fun l=>ai r 244 [h,l] fun m=>aC m (aq f (ii 1) fun c=>zI Y r fu k a b f d e c) (aq f (ii 1) fun h=>zI Y r fu k a b c d e h)) (k c)
def Wd:List Nat:=[0,2,3,6,7,8]
def We(Y:Nat)(r:RT):(V->M V):=fun a=>ag [a]
def J4(Y:Nat)(r:RT)(a:V):M V:=bA a fun b=>zI Y r Y (We Y r) a (ii 0) (ii 0) a b (ii 0)
theorem Wf(K:KT):∀fu,zI Y r fu (fun a=>K (.exit 0) (zp [3] [a]))=fun a b c d e f=>aT (cQ 235 (pb
 6 11) Y r) Wd fu (zp Wd [a,b,c,d,e,f]) K
 |0=>by funext a b c d e f;kernel_rfl
 |fu+1=>by have g:=Wf K fu;funext a b c d e f;rw[zI];simp only[g];kernel_rfl
theorem ag3:We Y r=(fun a=>(tK 235 (pb 5 11) Y r) (.exit 0) (zp [3] [a])):=jK
theorem ag4:ax aa gt Y r 235 #[a]=inside (J4 Y r a):=by unfold J4;simp only[ag3,Wf];kernel_rfl
def zJ(Y:Nat)(r:RT):Nat->(V->M V)->V->V->V->V->V->V->V->M V|0,_,_,_,_,_,_,_,_=> .fail|fu+1,k,a,b,c,d,e,f,g=>aW g f (mw 3 e g fun i=>bc 3 i fun j=>cC 299 tP fun l=>aQ 3 l j fun _=>b9 g b (bc 3 l fun j=>bO 299 3 j fun m=>bN 299 3 d m fun n=>aq g (ii 1) fun d=>zJ Y r fu k a b c n e f d) (aq g (ii 1) fun j=>zJ Y r fu k a b c d e f j)) (k d)
def Wg:List Nat:=[0,1,4,5,8,9,10]
def Wi(Y:Nat)(r:RT):(V->M V):=fun a=>ag [a]
def J5(Y:Nat)(r:RT)(a b:V):M V:=bA a fun c=>zJ Y r Y (Wi Y r) a b nS nS a c (ii 0)
theorem Wj(K:KT):∀fu,zJ Y r fu (fun a=>K (.exit 0) (zp [5] [a]))=fun a b c d e f g=>aT (cQ
 236 (pb 6 11) Y r) Wg fu (zp Wg [a,b,c,d,e,f,g]) K
 |0=>by funext a b c d e f g;kernel_rfl
 |fu+1=>by have h:=Wj K fu;funext a b c d e f g;rw[zJ];simp only[h];kernel_rfl
theorem ag5:Wi Y r=(fun a=>(tK 236 (pb 5 11) Y r) (.exit 0) (zp [5] [a])):=jK
theorem ag6:ax aa gt Y r 236 #[a,b]=inside (J5 Y r a b):=by unfold J5;simp only[ag5,Wj];kernel_rfl
def J6(Y:Nat)(r:RT)(a:V):M V:=ai r 126 [a] fun b=>ai r 245 [a] fun c=>aU c 0 fun d=>aU c 1 fun e=>b9 e (ii 0) (ai r 246 [a,b] fun f=>ag [d,e]) (ag [d,e])
theorem Wk:ax aa gt Y r 238 #[a]=inside (J6 Y r a):=jK
def J7(Y:Nat)(r:RT)(a b:V):M V:=bH a fun c=>aq c (ii 2) fun d=>ai r 247 [d] fun e=>aU e 0 fun f=>aU e 1 fun g=>bH a fun c=>ai r 248 [c,b] fun d=>aU d 0 fun e=>aU d 1 fun g=>ai r 249 [a] fun c=>aU c 0 fun d=>aU c 1 fun g=>bp z212 [(0,1,f),(1,1,e),(2,1,d)] fun c=>dW 212 c fun g=>ag [g]
theorem Wm:ax aa gt Y r 239 #[a,b]=inside (J7 Y r a b):=jK
def J8(Y:Nat)(r:RT)(a b:V):M V:=cJ a nP (ag [(i1 0),(ii 7)]) (aW b (ii 0) (ag [(i1 0),(ii 1)]) (ak a fun e=>an 0 e fun g=>bA g fun h=>fT b h (ag [(i1 0),(ii 1)]) (ai r 250 [a,b] fun d=>ag [d,(ii 0)])))
theorem Wn:ax aa gt Y r 240 #[a,b]=inside (J8 Y r a b):=jK
def J9(Y:Nat)(r:RT)(a b:V):M V:=cJ a nP (ag [(ii 0),(ii 7)]) (cJ b nP (ag [(ii 0),(ii 7)]) (ak a fun e=>an 6 e fun g=>aC g (ag [(ii 0),(ii 7)]) (ak a fun c=>an 7 c fun e=>b9 e (ii 0) (ak a fun c=>an 7 c fun e=>ag [(ii 0),e]) (ak a fun c=>an 1 c fun e=>ai r 252 [e] fun h=>dC h fun i=>(fun c=>aC i (c (AQ (AR 253) #[a] #[])) (ak a fun d=>ay 4 d fun e=>(az (aP e M.ret)).bind fun h=>bA h.1 fun j=>ak a fun l=>ay 1 l fun m=>(az (aP m M.ret)).bind fun n=>(az (ai r 254 [n.1] M.ret)).bind fun o=>dV j o.1 fun p=>dm ((!(bP h.2 o.2)&&true)&&true) (aC p (c (AQ (AR 255) #[a] #[])) (c (AQ (AR 251) #[a] #[]))))) fun c=>kI aa r c [b] fun d=>aU d 0 fun e=>aU d 1 fun h=>bx h (ii 0) (ag [e,h]) (b9 h (ii 3) (ak a fun l=>ay 7 l fun m=>aJ m h fun _=>ag [(ii 0),h]) (ag [(ii 0),h]))))))
theorem Wo:ax aa gt Y r 241 #[a,b]=inside (J9 Y r a b):=jK
def J'(Y:Nat)(r:RT)(a b:V):M V:=ak a fun c=>an 1 c fun e=>ai r 256 [e,b] fun f=>aU f 0 fun g=>aU f 1 fun h=>aU f 2 fun i=>b9 i (ii 0) (ag [(ii 25)]) (ak a fun d=>ay 3 d fun e=>aJ e g fun _=>nO h (ii 0) fun d=>ak a fun e=>ay 4 e fun f=>aJ f d fun _=>ag [(ii 0)])
theorem Wp:ax aa gt Y r 242 #[a,b]=inside (J' Y r a b):=jK
def Ka(Y:Nat)(r:RT)(a:V):M V:=kU a nP (ak a fun c=>an 6 c fun e=>ag [e]) (ag [bF])
theorem Wq:ax aa gt Y r 243 #[a]=inside (Ka Y r a):=jK
def Ws(Y:Nat)(r:RT)(a b:V):M V:=dW 299 a fun c=>dW 299 b fun d=>an 0 c fun f=>an 0 d fun h=>aW f h (ag [bT]) (an 0 c fun l=>an 0 d fun n=>bx l n (an 1 c fun q=>an 1 d fun t=>dV q t fun u=>ag [u]) (ag [bF]))
theorem ag7:ax aa gt Y r 244 #[a,b]=inside (Ws Y r a b):=jK
def uE(Y:Nat)(r:RT):Nat->(V->V->V->V->V->V->V->V->V->V->M V)->V->V->V->V->V->V->V->V->V->V->V->V->V->V->V->V->V->V->M V|0,_,_,_,_,_,_,_,_,_,_,_,_,_,_,_,_,_,_,_=> .fail|fu+1,k,a,b,c,d,e,f,g,h,i,j,l,m,n,o,p,q,s,t=>aW t s (bQ q t fun v=>aP v fun w=>dR (ii 16) g fun v=>aq v w fun x=>gN 256 f x fun y=>aJ y bT fun _=>aq t (ii 1) fun v=>uE Y r fu k a b c d e f g h i j l m n o p q s v) (k a b c d e f j l m n)
def Wt:List Nat:=[0,2,3,4,5,6,8,9,10,20,23,24,25,26,35,38,39,40]
def DG(Y:Nat)(r:RT)(k:(V->M V)×(V->V->M V))(m:V->V->V->V->V->V->V->V->V->V->M V):(V->V->V->V->V->V->V->V->V->V->M V):=fun a b c d e f g h i j=>aq j (ii 1) fun l=>m a b c d e f g h i l
def r7(Y:Nat)(r:RT):Nat->((V->M V)×(V->V->M V))->V->V->V->V->V->V->V->V->V->V->M V|0,_,_,_,_,_,_,_,_,_,_,_=> .fail|fu+1,k,a,b,c,d,e,f,g,h,i,j=>dV j i fun l=>aC l (bQ h j fun m=>aP m fun n=>ai r 188 [a,(ii 16)] fun m=>aU m 0 fun o=>aU m 1 fun p=>fG p (ii 0) fun m=>aC m (k.2 (aM {data:=#[]}) p) (ai r 257 [o] fun q=>bA q fun s=>uE Y r Y (DG Y r k (r7 Y r fu k)) a b c d e f n o p g h i j l m q s (ii 0))) (k.1 f)
def zK:List Nat:=[0,2,3,4,5,6,20,23,24,25]
abbrev Wu(Y:Nat)(r:RT)(a:Nat)(k:(V->M V)×(V->V->M V)):(V->V->V->V->V->V->V->V->V->V->M V):=DG Y r k (r7 Y r a k)
def wG(Y:Nat)(r:RT):(V->M V)×(V->V->M V):=(fun a=>bc 256 a fun b=>ai r 258 [b] fun c=>bx c (aM {data:=#[]}) (ag [(aM {data:=#[]}),(ii 25)]) (ag [c,(ii 0)]),fun a b=>ag [a,b])
def DH(Y:Nat)(r:RT)(a:V):M V:=ai r 188 [a,(ii 16)] fun b=>aU b 0 fun c=>aU b 1 fun d=>fG d (ii 0) fun b=>aC b (ag [(aM {data:=#[]}),d]) (cC 321 PO fun e=>ai r 257 [c] fun f=>bA f fun g=>r7 Y r Y (wG Y r) a (aM {data:=#[]}) (ii 0) c d e b f g (ii 0))
theorem Wv(K:KT):∀fu,uE Y r fu (fun a b c d e f g h i j=>K (.exit 2) (zp [0,2,3,4,5,6,20,23,24,25] [a,b,c,
 d,e,f,g,h,i,j]))=fun a b c d e f g h i j l m n o p q s t=>aT (cQ 245 (pb 18 62255) Y r) Wt fu (zp Wt [a,b,c,d,e,f,g,h,i,j,l,m,n,o,p,q,s,t]) K
 |0=>by funext a b c d e f g h i j l m n o p q s t;kernel_rfl
 |fu+1=>by have k:=Wv K fu;funext a b c d e f g h i j l m n o p q s t;rw[uE];simp only[k];kernel_rfl
theorem ag8(K:KT)(k:Nat):DG Y r ((fun a=>K (.exit 0) (zp [6] [a]),fun a b=>K .ret (zp [2,3] [a,b]))) (fun a b c
 d e f g h i j=>aT (cQ 245 (pb 8 47) Y r) zK k (zp zK [a,b,c,d,e,f,g,h,i,j]) K)=(fun a b c d e f g h i j=>(iK 245 (pb 8 47) (pb
 9 243) zK k K Y r) (.exit 2) (zp [0,2,3,4,5,6,20,23,24,25] [a,b,c,d,e,f,g,h,i,j])):=by kernel_rfl
theorem Ww(K:KT):∀fu,r7 Y r fu ((fun a=>K (.exit 0) (zp [6] [a]),fun a b=>K .ret (zp [2,3] [a,b])))=fun a b c
 d e f g h i j=>aT (cQ 245 (pb 8 47) Y r) zK fu (zp zK [a,b,c,d,e,f,g,h,i,j]) K
 |0=>by funext a b c d e f g h i j;kernel_rfl
 |fu+1=>by have k:=Ww K fu;funext a b c d e f g h i j;rw[r7];simp only[k,ag8,Wv];kernel_rfl
theorem ag9:wG Y r=((fun a=>(tK 245 (pb 7 47) Y r) (.exit 0) (zp [6] [a]),fun a b=>(tK 245 (pb 7 47) Y r) .ret (zp [2,3] [a,b]))):=jK
theorem Wx:ax aa gt Y r 245 #[a]=inside (DH Y r a):=by unfold DH;simp only[ag9,Ww];kernel_rfl
def Kb(Y:Nat)(r:RT)(a b:V):M V:=cJ a nP (ag [(ii 7)]) (ak a fun d=>an 1 d fun f=>dR (ii 8) f fun g=>aW b g (ag [(ii 1)]) (ai r 122 [a] fun i=>eB b i (ag [(ii 1)]) (ak a fun d=>ay 2 d fun e=>aJ e b fun _=>ag [(ii 0)])))
theorem Wy:ax aa gt Y r 246 #[a,b]=inside (Kb Y r a b):=jK
def Kc(Y:Nat)(r:RT)(a:V):M V:=ai r 259 [a] fun b=>aU b 0 fun c=>aU b 1 fun d=>b9 d (ii 0) (ag [nP,d]) (ai r 260 [] fun e=>bp PK [(0,1,a),(1,1,e),(3,1,c)] fun f=>dW 252 f fun g=>ag [g,(ii 0)])
theorem Wz:ax aa gt Y r 247 #[a]=inside (Kc Y r a):=jK
def Kd(Y:Nat)(r:RT)(a b:V):M V:=ai r 261 [a] fun c=>dC c fun d=>aC d (ag [nP,(ii 1)]) (aW b (ii 0) (ag [nP,(ii 1)]) (eB b (ii 1099511627776) (ag [nP,(ii 1)]) (bp PQ [(0,1,a),(1,1,b),(4,1,(ii 1))] fun c=>dW 328 c fun d=>ag [d,(ii 0)])))
theorem WA:ax aa gt Y r 248 #[a,b]=inside (Kd Y r a b):=jK
def Ke(Y:Nat)(r:RT)(a:V):M V:=ai r 262 [a] fun b=>dC b fun c=>aC c (ag [nP,(ii 1)]) (vR 5 a fun b=>bp PN [(0,1,b)] fun d=>dW 317 d fun e=>ag [e,(ii 0)])
theorem WC:ax aa gt Y r 249 #[a]=inside (Ke Y r a):=jK
def Kf(Y:Nat)(r:RT)(a b:V):M V:=ak a fun c=>an 0 c fun e=>bQ e b fun f=>aP f fun g=>ak a fun c=>an 0 c fun e=>aq b (ii 1) fun f=>nQ 5 1 e (some (ii 1)) (some f) fun h=>ak a fun i=>an 0 i fun l=>nQ 5 1 l none (some b) fun m=>BN 1 h m fun n=>ak a fun c=>an 0 c fun e=>bQ e (ii 0) fun f=>aJ f g fun _=>ag [g]
theorem WD:ax aa gt Y r 250 #[a,b]=inside (Kf Y r a b):=jK
def Kg(Y:Nat)(r:RT)(a b:V):M V:=ak a fun c=>an 5 c fun e=>iS e (ii 50) fun f=>ak a fun c=>an 2 c fun e=>bA e fun g=>fT f g (ag [(ii (-1)),(ii 25)]) (ak a fun c=>an 4 c fun e=>ak a fun g=>an 2 g fun j=>bQ j f fun l=>aP l fun m=>bQ e m fun n=>aP n fun o=>ai r 263 [o,b] fun p=>aU p 0 fun q=>aU p 1 fun s=>b9 s (ii 0) (ag [(ii (-1)),s]) (ak a fun d=>an 5 d fun g=>aq g (ii 1) fun i=>ak a fun j=>ay 5 j fun l=>aJ l i fun _=>ak a fun d=>an 0 d fun g=>cO g (ii 1) fun i=>cH q i fun j=>ak a fun l=>ay 6 l fun m=>aJ m j fun _=>ag [q,(ii 0)]))
theorem WE:ax aa gt Y r 251 #[a,b]=inside (Kg Y r a b):=jK
def Kh(Y:Nat)(r:RT)(a:V):M V:=kU a nP (ak a fun c=>an 1 c fun e=>eB e (ii 0) (ak a fun g=>an 8 g fun i=>bA i fun j=>ak a fun l=>an 1 l fun n=>cH j n fun o=>ag [o]) (ag [bF])) (ag [bF])
theorem WG:ax aa gt Y r 252 #[a]=inside (Kh Y r a):=jK
def Ki(Y:Nat)(r:RT)(a b:V):M V:=ak a fun c=>an 1 c fun e=>ai r 264 [e,b] fun f=>ak a fun c=>an 1 c fun e=>ai r 252 [e] fun g=>aC g (ak a fun c=>an 1 c fun e=>ai r 180 [e] fun h=>ak a fun i=>ay 2 i fun j=>aJ j h fun _=>ag [(ii (-1)),f]) (ag [(ii (-1)),f])
theorem WH:ax aa gt Y r 253 #[a,b]=inside (Ki Y r a b):=jK
def Kj(Y:Nat)(r:RT)(a:V):M V:=cJ a nP (ag [(ii 0)]) (ak a fun c=>an 0 c fun e=>ag [e])
theorem WI:ax aa gt Y r 254 #[a]=inside (Kj Y r a):=jK
def Kk(Y:Nat)(r:RT)(a b:V):M V:=ak a fun c=>an 3 c fun e=>ai r 265 [e,b] fun f=>b9 f (ii 0) (ag [(ii (-1)),f]) (ak a fun d=>an 3 d fun g=>ai r 266 [g] fun h=>dC h fun i=>aC i (ag [(ii (-1)),f]) (ak a fun c=>an 3 c fun e=>ai r 268 [e] fun g=>ai r 267 [g] fun h=>aU h 0 fun j=>aU h 1 fun l=>b9 l (ii 0) (ag [(ii (-1)),l]) (ak a fun d=>an 4 d fun g=>bO 329 1 j fun h=>bN 329 1 g h fun m=>ak a fun n=>ay 4 n fun o=>aJ o m fun _=>ak a fun d=>an 0 d fun g=>ai r 259 [g] fun h=>aU h 0 fun m=>aU h 1 fun n=>ak a fun d=>ay 3 d fun e=>aJ e m fun _=>ag [(ii (-1)),(ii 0)])))
theorem WJ:ax aa gt Y r 255 #[a,b]=inside (Kk Y r a b):=jK
def Kl(Y:Nat)(r:RT)(a b:V):M V:=cJ a nP (ag [(ii 0),(ii 0),(ii 7)]) (ak a fun d=>an 5 d fun f=>aC f (ag [(ii 0),(ii 0),(ii 7)]) (aW b (ii 0) (ag [(ii 0),(ii 0),(ii 25)]) (ak a fun d=>an 0 d fun g=>aq g (ii 1) fun h=>eB b h (ag [(ii 0),(ii 0),(ii 25)]) (vY b (ii 1) (ai r 269 [a,b] fun d=>b9 d (ii 0) (ag [(ii 0),(ii 0),d]) (ag [(ii 0),(ii (-1)),(ii 0)])) (cO b (ii 1) fun d=>ak a fun e=>an 0 e fun h=>aq h (ii 1) fun j=>cH b j fun l=>(fun e=>aC l (ak a fun g=>ay 5 g fun h=>aJ h bT fun _=>e (ii (-1))) ((az (ai r 270 [a] M.ret)).bind fun g=>ak a fun h=>ay 1 h fun j=>(az (aP j M.ret)).bind fun m=>cH g.1 m.1 fun n=>dm ((!(bP g.2 m.2)&&true)&&true) (aC n (ag [(ii 0),(ii 0),(ii 2)]) (ak a fun g=>an 2 g fun j=>aq j (ii 1) fun m=>ak a fun o=>ay 2 o fun p=>aJ p m fun _=>e d)))) fun d=>ak a fun e=>an 3 e fun h=>ak a fun e=>an 2 e fun j=>aq j h fun m=>ak a fun n=>ay 2 n fun o=>aJ o m fun _=>ak a fun e=>ay 3 e fun g=>aJ g (ii 0) fun _=>ak a fun e=>ay 4 e fun g=>aJ g (ii 1) fun _=>ag [h,d,(ii 0)])))))
theorem WK:ax aa gt Y r 256 #[a,b]=inside (Kl Y r a b):=jK
def r9(Y:Nat)(r:RT):Nat->(V->M V)->V->V->V->V->M V|0,_,_,_,_,_=> .fail|fu+1,k,a,b,c,d=>aW d (ii 16) (cO (ii 15) d fun f=>pj a f fun g=>yi g (i3 1) fun h=>bx h (i3 1) (bO 3 1 d fun f=>bN 3 1 c f fun g=>aq d (ii 1) fun c=>r9 Y r fu k a b g c) (aq d (ii 1) fun f=>r9 Y r fu k a b c f)) (k c)
def WL:List Nat:=[0,2,3,5]
def DI(Y:Nat)(r:RT):(V->M V):=fun a=>ag [a]
def DJ(Y:Nat)(r:RT)(a:V):M V:=r9 Y r Y (DI Y r) a nS nS (ii 0)
theorem WM(K:KT):∀fu,r9 Y r fu (fun a=>K (.exit 0) (zp [3] [a]))=fun a b c d=>aT (cQ 257 (pb 6 11) Y r)
 WL fu (zp WL [a,b,c,d]) K
 |0=>by funext a b c d;kernel_rfl
 |fu+1=>by have e:=WM K fu;funext a b c d;rw[r9];simp only[e];kernel_rfl
theorem ag':DI Y r=(fun a=>(tK 257 (pb 5 11) Y r) (.exit 0) (zp [3] [a])):=jK
theorem WN:ax aa gt Y r 257 #[a]=inside (DJ Y r a):=by unfold DJ;simp only[ag',WM];kernel_rfl
def qE(Y:Nat)(r:RT):Nat->(V->M V)->V->V->V->V->V->V->M V|0,_,_,_,_,_,_,_=> .fail|fu+1,k,a,b,c,d,e,f=>aW f (ii 256) (vP 256 e f fun h=>aC h (dh .u8 f fun i=>bO 5 1 i fun j=>bN 5 1 d j fun l=>aq f (ii 1) fun d=>qE Y r fu k a b c l e d) (aq f (ii 1) fun i=>qE Y r fu k a b c d e i)) (k d)
def WQ:List Nat:=[0,1,2,3,6,7]
def zL(Y:Nat)(r:RT):(V->M V):=fun a=>hC a fun b=>ag [b]
def DK(Y:Nat)(r:RT)(a:V):M V:=dW 321 a fun b=>bc 256 b fun c=>qE Y r Y (zL Y r) a b (aM {data:=#[]}) nS c (ii 0)
theorem WS(K:KT):∀fu,qE Y r fu (fun a=>K (.exit 0) (zp [3] [a]))=fun a b c d e f=>aT (cQ 258 (pb 6 11) Y
 r) WQ fu (zp WQ [a,b,c,d,e,f]) K
 |0=>by funext a b c d e f;kernel_rfl
 |fu+1=>by have g:=WS K fu;funext a b c d e f;rw[qE];simp only[g];kernel_rfl
theorem ag_:zL Y r=(fun a=>(tK 258 (pb 5 11) Y r) (.exit 0) (zp [3] [a])):=jK
theorem WV:ax aa gt Y r 258 #[a]=inside (DK Y r a):=by unfold DK;simp only[ag_,WS];kernel_rfl
def Km(Y:Nat)(r:RT)(a:V):M V:=ai r 271 [a] fun b=>dC b fun c=>aC c (ag [nP,(ii 1)]) (bp PR [(0,1,a)] fun b=>dW 333 b fun d=>ag [d,(ii 0)])
theorem WY:ax aa gt Y r 259 #[a]=inside (Km Y r a):=jK
def Kn(Y:Nat)(r:RT):M V:=ai r 272 [] fun a=>bp HA [(2,6,a)] fun b=>dW 282 b fun c=>ag [c]
theorem WZ:ax aa gt Y r 260 #[]=inside (Kn Y r):=jK
def Ko(Y:Nat)(r:RT)(a:V):M V:=fT a (ii 1) (mr a (ii 256) fun c=>ag [c]) (ag [bF])
theorem W0:ax aa gt Y r 261 #[a]=inside (Ko Y r a):=jK
def sb(Y:Nat)(r:RT):Nat->((V->M V)×(V->M V))->V->V->V->V->M V|0,_,_,_,_,_=> .fail|fu+1,k,a,b,c,d=>aW d c (eB d (ii 0) (cU a d fun g=>cO d (ii 1) fun h=>cU a h fun i=>vY g i (k.2 bF) (aq d (ii 1) fun f=>sb Y r fu k a b c f)) (aq d (ii 1) fun f=>sb Y r fu k a b c f)) (k.1 a)
def W2:List Nat:=[0,2,5,6]
def DL(Y:Nat)(r:RT):(V->M V)×(V->M V):=(fun a=>fG a (aM {data:=#[]}) fun b=>ag [b],fun a=>ag [a])
def DM(Y:Nat)(r:RT)(a:V):M V:=bH a fun b=>sb Y r Y (DL Y r) a bF b (ii 0)
theorem W3(K:KT):∀fu,sb Y r fu ((fun a=>K (.exit 0) (zp [0] [a]),fun a=>K .ret (zp [2] [a])))=fun a b c d=>aT
 (cQ 262 (pb 5 5) Y r) W2 fu (zp W2 [a,b,c,d]) K
 |0=>by funext a b c d;kernel_rfl
 |fu+1=>by have e:=W3 K fu;funext a b c d;rw[sb];simp only[e];kernel_rfl
theorem aha:DL Y r=((fun a=>(tK 262 (pb 4 5) Y r) (.exit 0) (zp [0] [a]),fun a=>(tK 262 (pb 4 5) Y r) .ret (zp [2] [a]))):=jK
theorem W4:ax aa gt Y r 262 #[a]=inside (DM Y r a):=by unfold DM;simp only[aha,W3];kernel_rfl
def Kp(Y:Nat)(r:RT)(a b:V):M V:=cJ a nP (ag [(ii 0),(ii 7)]) (cJ b nP (ag [(ii 0),(ii 7)]) (ai r 126 [b] fun c=>ai r 273 [a,b] fun e=>aU e 0 fun f=>aU e 1 fun g=>b9 g (ii 0) (ai r 246 [b,c] fun h=>ag [f,g]) (ag [f,g])))
theorem W5:ax aa gt Y r 263 #[a,b]=inside (Kp Y r a b):=jK
def Kq(Y:Nat)(r:RT)(a b:V):M V:=cJ a nP (ag [(ii 7)]) (cJ b nP (ag [(ii 7)]) (ai r 252 [a] fun e=>aC e (ag [(ii 7)]) (ak a fun c=>an 9 c fun f=>aC f (ag [(ii 25)]) (ai r 126 [b] fun c=>ak a fun d=>an 1 d fun h=>cH h (ii 0) fun i=>(fun d=>aC i (d (AQ (AR 275) #[a] #[])) (d (AQ (AR 274) #[a] #[]))) fun d=>kI aa r d [b] fun g=>bx g (ii 3) (ai r 246 [b,c] fun j=>ag [g]) (ag [g])))))
theorem W6:ax aa gt Y r 264 #[a,b]=inside (Kq Y r a b):=jK
def Kr(Y:Nat)(r:RT)(a b:V):M V:=cJ a nP (ag [(ii 7)]) (cJ b nP (ag [(ii 7)]) (ai r 266 [a] fun e=>aC e (ag [(ii 7)]) (ak a fun c=>an 3 c fun f=>aC f (ag [(ii 22)]) (ai r 126 [b] fun c=>ai r 276 [a,b] fun d=>bx d (ii 3) (ai r 246 [b,c] fun h=>ag [d]) (ag [d])))))
theorem W7:ax aa gt Y r 265 #[a,b]=inside (Kr Y r a b):=jK
def Ks(Y:Nat)(r:RT)(a:V):M V:=kU a nP (ak a fun c=>an 2 c fun e=>bA e fun f=>ak a fun g=>an 0 g fun i=>cH f i fun j=>ag [j]) (ag [bF])
theorem W8:ax aa gt Y r 266 #[a]=inside (Ks Y r a):=jK
def sd(Y:Nat)(r:RT):Nat->(V->V->V->V->V->V->V->V->M V)->V->V->V->V->V->V->V->V->V->V->V->V->M V|0,_,_,_,_,_,_,_,_,_,_,_,_,_=> .fail|fu+1,k,a,b,c,d,e,f,g,h,i,j,l,m=>aW m l (bQ j m fun o=>aP o fun p=>bx p f (ak d fun q=>an 1 q fun t=>dh .u32 e fun u=>bQ t m fun v=>aJ v u fun _=>ak d fun q=>an 2 q fun t=>bO 3 1 m fun u=>bN 3 1 t u fun v=>ak d fun w=>ay 2 w fun x=>aJ x v fun _=>aq e (ii 1) fun q=>aq m (ii 1) fun e=>sd Y r fu k a b c d q f g h i j l e) (aq m (ii 1) fun q=>sd Y r fu k a b c d e f g h i j l q)) (k a b c d e f g h)
def W9:List Nat:=[0,2,3,4,5,6,9,18,30,51,52,53]
def DN(Y:Nat)(r:RT)(k:(V->M V))(j:V->V->V->V->V->V->V->V->M V):(V->V->V->V->V->V->V->V->M V):=fun a b c d e f g h=>aq f (ii 1) fun i=>j a b c d e i g h
def se(Y:Nat)(r:RT):Nat->(V->M V)->V->V->V->V->V->V->V->V->M V|0,_,_,_,_,_,_,_,_,_=> .fail|fu+1,k,a,b,c,d,e,f,g,h=>mr f (ii 20) fun i=>aC i (dR e (ii 2) fun j=>ak d fun e=>ay 3 e fun l=>gN 21 l f fun m=>aJ m j fun _=>ak d fun e=>an 2 e fun m=>bA m fun n=>ak d fun o=>ay 24 o fun p=>gN 22 p f fun q=>aJ q n fun _=>bA a fun e=>sd Y r Y (DN Y r k (se Y r fu k)) a b c d j f g h i a e (ii 0)) (k d)
def zO:List Nat:=[0,2,3,4,5,6,9,18]
abbrev Xa(Y:Nat)(r:RT)(a:Nat)(k:(V->M V)):(V->V->V->V->V->V->V->V->M V):=DN Y r k (se Y r a k)
def zP(Y:Nat)(r:RT):(V->M V):=fun a=>ak a fun b=>an 2 b fun d=>bA d fun e=>ak a fun f=>ay 24 f fun g=>gN 22 g (ii 21) fun h=>aJ h e fun _=>ag [a,(ii 0)]
def zQ(Y:Nat)(r:RT)(a:V):M V:=bA a fun b=>aW b (ii 3) (ag [nP,(ii 1)]) (bA a fun d=>jh d (ii 258) fun e=>aC e (ag [nP,(ii 1)]) (ai r 277 [a] fun b=>dC b fun c=>aC c (ag [nP,(ii 22)]) ((az (ai r 208 [a] M.ret)).bind fun b=>bA a fun d=>(az (po 31 [(i3 0)] d d M.ret)).bind fun f=>bp HB [(0,1,b.1),(1,1,f.1)] fun g=>(az (dW 338 g M.ret)).bind fun h=>dm ((!(bP b.2 f.2)&&true)&&true) (se Y r Y (zP Y r) a nP (ii 0) h.1 (ii 0) (ii 1) e c))))
theorem Xb(K:KT):∀fu,sd Y r fu (fun a b c d e f g h=>K (.exit 3) (zp [0,2,3,4,5,6,9,18] [a,b,c,d,e,f,g,
 h]))=fun a b c d e f g h i j l m=>aT (cQ 267 (pb 17 31023) Y r) W9 fu (zp W9 [a,b,c,d,e,f,g,h,i,j,l,m]) K
 |0=>by funext a b c d e f g h i j l m;kernel_rfl
 |fu+1=>by have k:=Xb K fu;funext a b c d e f g h i j l m;rw[sd];simp only[k];kernel_rfl
theorem ahb(K:KT)(i:Nat):DN Y r (fun a=>K (.exit 1) (zp [4] [a])) (fun a b c d e f g h=>aT (cQ 267 (pb 8 47) Y
 r) zO i (zp zO [a,b,c,d,e,f,g,h]) K)=(fun a b c d e f g h=>(iK 267 (pb 8 47) (pb 8 121) zO i K Y r) (.exit 3) (zp [0,2,3,
 4,5,6,9,18] [a,b,c,d,e,f,g,h])):=by kernel_rfl
theorem Xd(K:KT):∀fu,se Y r fu (fun a=>K (.exit 1) (zp [4] [a]))=fun a b c d e f g h=>aT (cQ 267 (pb 8 47) Y
 r) zO fu (zp zO [a,b,c,d,e,f,g,h]) K
 |0=>by funext a b c d e f g h;kernel_rfl
 |fu+1=>by have i:=Xd K fu;funext a b c d e f g h;rw[se];simp only[i,ahb,Xb];kernel_rfl
theorem ahc:zP Y r=(fun a=>(tK 267 (pb 7 47) Y r) (.exit 1) (zp [4] [a])):=jK
theorem Kt:ax aa gt Y r 267 #[a]=inside (zQ Y r a):=by unfold zQ;simp only[ahc,Xd];kernel_rfl
def Ku(Y:Nat)(r:RT)(a:V):M V:=cJ a nP (ag [nS]) (ak a fun c=>an 2 c fun e=>ai r 208 [e] fun f=>ag [f])
theorem Xe:ax aa gt Y r 268 #[a]=inside (Ku Y r a):=jK
def Kv(Y:Nat)(r:RT)(a b:V):M V:=ak a fun c=>an 4 c fun e=>mv e b fun f=>ak a fun c=>ay 1 c fun d=>(az (aP d M.ret)).bind fun e=>(az (ai r 270 [a] M.ret)).bind fun g=>cO e.1 g.1 fun h=>jh f h fun i=>dm ((!(bP e.2 g.2)&&true)&&true) (aC i (ag [(ii 2)]) (ak a fun c=>an 3 c fun e=>aq e f fun g=>ak a fun h=>ay 3 h fun j=>aJ j g fun _=>ak a fun c=>an 4 c fun e=>dR e (ii 2) fun g=>ak a fun h=>ay 4 h fun j=>aJ j g fun _=>ag [(ii 0)]))
theorem Xf:ax aa gt Y r 269 #[a,b]=inside (Kv Y r a b):=jK
def Kw(Y:Nat)(r:RT)(a:V):M V:=cJ a nP (ag [(ii 0)]) (ak a fun c=>an 2 c fun e=>ak a fun f=>an 3 f fun h=>aq e h fun i=>ag [i])
theorem Xg:ax aa gt Y r 270 #[a]=inside (Kw Y r a):=jK
def Kx(Y:Nat)(r:RT)(a:V):M V:=fT a (ii 3) (mr a (ii 258) fun c=>ag [c]) (ag [bF])
theorem Xh:ax aa gt Y r 271 #[a]=inside (Kx Y r a):=jK
def wH(Y:Nat)(r:RT):Nat->(V->V->M V)->V->V->V->M V|0,_,_,_,_=> .fail|fu+1,k,a,b,c=>aW c (ii 6) (gN 6 b c fun e=>aJ e c fun _=>aq c (ii 1) fun e=>wH Y r fu k a b e) (k a b)
def Xi:List Nat:=[0,1,3]
def DO(Y:Nat)(r:RT):(V->V->M V):=fun a b=>bc 6 b fun c=>aQ 6 a c fun _=>bc 6 a fun b=>ag [b]
def DP(Y:Nat)(r:RT):M V:=cC 280 Hz fun a=>cC 280 Hz fun b=>wH Y r Y (DO Y r) a b (ii 0)
theorem Xj(K:KT):∀fu,wH Y r fu (fun a b=>K (.exit 0) (zp [0,1] [a,b]))=fun a b c=>aT (cQ 272 (pb 6 11)
 Y r) Xi fu (zp Xi [a,b,c]) K
 |0=>by funext a b c;kernel_rfl
 |fu+1=>by have d:=Xj K fu;funext a b c;rw[wH];simp only[d];kernel_rfl
theorem ahd:DO Y r=(fun a b=>(tK 272 (pb 5 11) Y r) (.exit 0) (zp [0,1] [a,b])):=jK
theorem Xk:ax aa gt Y r 272 #[]=inside (DP Y r):=by unfold DP;simp only[ahd,Xj];kernel_rfl
def wI(Y:Nat)(r:RT):Nat->((M V)×(V->V->M V))->V->V->V->V->V->V->M V|0,_,_,_,_,_,_,_=> .fail|fu+1,k,a,b,c,d,e,f=>vY f (ii 20) (ai r 188 [b,(ii 1)] fun h=>aU h 0 fun i=>aU h 1 fun j=>b9 j (ii 0) (k.2 (ii 0) j) (dR (ii 2) e fun l=>dh .i64 i fun m=>aq l m fun n=>ak a fun e=>ay 24 e fun l=>gN 22 l f fun m=>aP m fun o=>aq o n fun p=>ak a fun q=>ay 3 q fun s=>gN 21 s f fun t=>aP t fun u=>cO p u fun v=>aq f (ii 1) fun e=>ak a fun l=>ay 24 l fun m=>gN 22 m e fun o=>aP o fun p=>aW v p (ak a fun e=>an 2 e fun m=>bQ m v fun o=>aP o fun p=>k.2 p (ii 0)) (aq f (ii 1) fun e=>wI Y r fu k a b c d n e))) (k.1)
def Xl:List Nat:=[0,1,4,5,6,7]
def zR(Y:Nat)(r:RT):(M V)×(V->V->M V):=(ag [(ii 0),(ii 22)],fun a b=>ag [a,b])
def DQ(Y:Nat)(r:RT)(a b:V):M V:=wI Y r Y (zR Y r) a b (ii 0) (ii 0) (ii 0) (ii 1)
theorem Xn(K:KT):∀fu,wI Y r fu ((K (.exit 0) [],fun a b=>K .ret (zp [4,5] [a,b])))=fun a b c d e f=>
 aT (cQ 273 (pb 6 11) Y r) Xl fu (zp Xl [a,b,c,d,e,f]) K
 |0=>by funext a b c d e f;kernel_rfl
 |fu+1=>by have g:=Xn K fu;funext a b c d e f;rw[wI];simp only[g];kernel_rfl
theorem ahe:zR Y r=(((tK 273 (pb 5 11) Y r) (.exit 0) [],fun a b=>(tK 273 (pb 5 11) Y r) .ret (zp [4,5] [a,b]))):=jK
theorem Xo:ax aa gt Y r 273 #[a,b]=inside (DQ Y r a b):=by unfold DQ;simp only[ahe,Xn];kernel_rfl
def uF(Y:Nat)(r:RT):Nat->((V->M V)×(V->M V))->V->V->V->V->V->M V|0,_,_,_,_,_,_=> .fail|fu+1,k,a,b,c,d,e=>aW e d (ai r 188 [b,(ii 1)] fun g=>aU g 0 fun h=>aU g 1 fun i=>b9 i (ii 0) (k.2 i) (bx h (i3 0) (ak a fun l=>ay 8 l fun m=>(az (aP m M.ret)).bind fun n=>ak a fun o=>ay 2 o fun p=>(az (ai r 278 [p,e] M.ret)).bind fun q=>(az (bO 3 1 q.1 M.ret)).bind fun s=>(az (bN 3 1 n.1 s.1 M.ret)).bind fun t=>ak a fun u=>ay 8 u fun v=>(az (aJ v t.1 M.ret)).bind fun w=>dm ((!(bP n.2 q.2)&&true)&&true) (k.2 (ii 0))) (aq e (ii 1) fun l=>uF Y r fu k a b c d l))) (k.1 a)
def Xp:List Nat:=[0,1,4,11,12]
def wJ(Y:Nat)(r:RT):(V->M V)×(V->M V):=(fun a=>ai r 279 [a] fun b=>ag [b],fun a=>ag [a])
def DR(Y:Nat)(r:RT)(a b:V):M V:=ak a fun c=>an 0 c fun e=>uF Y r Y (wJ Y r) a b (ii 0) e (ii 0)
theorem Xq(K:KT):∀fu,uF Y r fu ((fun a=>K (.exit 0) (zp [0] [a]),fun a=>K .ret (zp [4] [a])))=
 fun a b c d e=>aT (cQ 274 (pb 5 5) Y r) Xp fu (zp Xp [a,b,c,d,e]) K
 |0=>by funext a b c d e;kernel_rfl
 |fu+1=>by have f:=Xq K fu;funext a b c d e;rw[uF];simp only[f];kernel_rfl
theorem ahf:wJ Y r=((fun a=>(tK 274 (pb 4 5) Y r) (.exit 0) (zp [0] [a]),fun a=>(tK 274 (pb 4 5) Y r) .ret (zp [4] [a]))):=jK
theorem Xr:ax aa gt Y r 274 #[a,b]=inside (DR Y r a b):=by unfold DR;simp only[ahf,Xq];kernel_rfl
def Ky(Y:Nat)(r:RT)(a b:V):M V:=ai r 188 [b,(ii 18)] fun c=>aU c 0 fun d=>aU c 1 fun e=>b9 e (ii 0) (ag [e]) (pj d (i6 15) fun f=>dh .i64 f fun g=>yi d (i3 32767) fun h=>dh .i64 h fun i=>ai r 280 [g] fun f=>dC f fun h=>aC h (ai r 279 [a] fun f=>ag [f]) (bx i (ii 0) (ai r 279 [a] fun f=>ag [f]) (ak a fun f=>ay 0 f fun h=>aJ h g fun _=>ak a fun f=>ay 1 f fun h=>aJ h i fun _=>ag [(ii 0)])))
theorem Xs:ax aa gt Y r 275 #[a,b]=inside (Ky Y r a b):=jK
def Kz(Y:Nat)(r:RT)(a b:V):M V:=ak a fun c=>an 1 c fun e=>bx e (ii 0) (ai r 188 [b,(ii 5)] fun c=>aU c 0 fun d=>aU c 1 fun e=>b9 e (ii 0) (ag [e]) (dh .i64 d fun g=>ai r 281 [a,g] fun h=>ag [h])) (ai r 188 [b,(ii 1)] fun c=>aU c 0 fun d=>aU c 1 fun e=>b9 e (ii 0) (ag [e]) (bx d (i3 0) (ak a fun h=>an 2 h fun j=>ak a fun l=>an 1 l fun n=>bO 3 1 n fun o=>bN 3 1 j o fun p=>ak a fun q=>ay 2 q fun s=>aJ s p fun _=>ag [(ii 0)]) (ai r 188 [b,(ii 1)] fun h=>aU h 0 fun i=>aU h 1 fun j=>b9 j (ii 0) (ag [j]) (ak a fun e=>an 1 e fun l=>aq l (ii 1) fun m=>dh .i64 i fun n=>dR (ii 2) n fun o=>cO m o fun p=>ai r 281 [a,p] fun q=>ag [q]))))
theorem Xt:ax aa gt Y r 276 #[a,b]=inside (Kz Y r a b):=jK
def KA(Y:Nat)(r:RT)(a:V):M V:=ai r 282 [a] fun b=>aU b 0 fun c=>aU b 1 fun d=>bx d (ii 0) (bx c (ii 1048576) (ai r 283 [a,(ii 0)] fun f=>dC f fun g=>ag [g]) (ag [bF])) (ag [bF])
theorem Xu:ax aa gt Y r 277 #[a]=inside (KA Y r a):=jK
def uG(Y:Nat)(r:RT):Nat->(V->V->M V)->V->V->V->V->V->M V|0,_,_,_,_,_,_=> .fail|fu+1,k,a,b,c,d,e=>eB e (ii 0) (cO e (ii 1) fun g=>ak a fun h=>gN 6 h g fun i=>aP i fun j=>ak a fun l=>gN 6 l e fun m=>aJ m j fun _=>cO e (ii 1) fun g=>uG Y r fu k a b c d g) (k a d)
def Xv:List Nat:=[0,1,4,5,6]
def DS(Y:Nat)(r:RT):(V->V->M V):=fun a b=>ak a fun c=>gN 6 c (ii 0) fun d=>aJ d b fun _=>ag [b]
def DT(Y:Nat)(r:RT)(a b:V):M V:=ak a fun c=>gN 6 c b fun d=>aP d fun e=>uG Y r Y (DS Y r) a b (ii 0) e b
theorem Xw(K:KT):∀fu,uG Y r fu (fun a b=>K (.exit 0) (zp [0,5] [a,b]))=fun a b c d e=>aT (cQ
 278 (pb 6 11) Y r) Xv fu (zp Xv [a,b,c,d,e]) K
 |0=>by funext a b c d e;kernel_rfl
 |fu+1=>by have f:=Xw K fu;funext a b c d e;rw[uG];simp only[f];kernel_rfl
theorem ahg:DS Y r=(fun a b=>(tK 278 (pb 5 11) Y r) (.exit 0) (zp [0,5] [a,b])):=jK
theorem Xx:ax aa gt Y r 278 #[a,b]=inside (DT Y r a b):=by unfold DT;simp only[ahg,Xw];kernel_rfl
def KB(Y:Nat)(r:RT)(a:V):M V:=ak a fun b=>ay 9 b fun c=>aJ c bT fun _=>ag [(ii 25)]
theorem Xy:ax aa gt Y r 279 #[a]=inside (KB Y r a):=jK
def KC(Y:Nat)(r:RT)(a:V):M V:=fT a (ii 2) (mr a (ii 6) fun c=>ag [c]) (ag [bF])
theorem Xz:ax aa gt Y r 280 #[a]=inside (KC Y r a):=jK
def KD(Y:Nat)(r:RT)(a b:V):M V:=ai r 284 [b] fun c=>dC c fun d=>aC d (ak a fun c=>ay 3 c fun e=>aJ e bT fun _=>ag [(ii 22)]) (ak a fun c=>ay 1 c fun e=>aJ e b fun _=>ag [(ii 0)])
theorem XA:ax aa gt Y r 281 #[a,b]=inside (KD Y r a b):=jK
def uH(Y:Nat)(r:RT):Nat->(V->M V)->V->V->V->V->V->V->V->V->M V|0,_,_,_,_,_,_,_,_,_=> .fail|fu+1,k,a,b,c,d,e,f,g,h=>aW h g (bQ f h fun j=>aP j fun l=>cO (ii 20) l fun j=>mv (ii 1) j fun m=>aq d m fun n=>aq h (ii 1) fun d=>uH Y r fu k a b c n e f g d) (k d)
def XB:List Nat:=[0,2,3,4,14,15,16,17]
def DU(Y:Nat)(r:RT):(V->M V):=fun a=>ag [a,(ii 0)]
def DV(Y:Nat)(r:RT)(a:V):M V:=bA a fun b=>eB b (ii 258) (ag [(ii 0),(ii 1)]) (ai r 285 [a,(ii 0),(ii 20)] fun d=>dC d fun e=>aC e (ag [(ii 0),(ii 1)]) (bA a fun b=>uH Y r Y (DU Y r) a (ii 0) (ii 0) (ii 0) e a b (ii 0)))
theorem XC(K:KT):∀fu,uH Y r fu (fun a=>K (.exit 0) (zp [4] [a]))=fun a b c d e f g h=>aT (cQ 282 (pb 7 23)
 Y r) XB fu (zp XB [a,b,c,d,e,f,g,h]) K
 |0=>by funext a b c d e f g h;kernel_rfl
 |fu+1=>by have i:=XC K fu;funext a b c d e f g h;rw[uH];simp only[i];kernel_rfl
theorem ahh:DU Y r=(fun a=>(tK 282 (pb 6 23) Y r) (.exit 0) (zp [4] [a])):=jK
theorem XD:ax aa gt Y r 282 #[a]=inside (DV Y r a):=by unfold DV;simp only[ahh,XC];kernel_rfl
def KE(Y:Nat)(r:RT)(a b:V):M V:=ai r 286 [a,b] fun c=>qu c (ii 0) fun d=>ag [d]
theorem XE:ax aa gt Y r 283 #[a,b]=inside (KE Y r a b):=jK
def KF(Y:Nat)(r:RT)(a:V):M V:=fT a (ii 1) (mr a (ii 20) fun c=>ag [c]) (ag [bF])
theorem XF:ax aa gt Y r 284 #[a]=inside (KF Y r a):=jK
def KH(Y:Nat)(r:RT)(a b c:V):M V:=dW 3 b fun d=>dW 3 c fun e=>ai r 287 [a,(AQ (AR 288) #[] #[d,e])] fun f=>dC f fun g=>ag [g]
theorem XG:ax aa gt Y r 285 #[a,b,c]=inside (KH Y r a b c):=jK
def uI(Y:Nat)(r:RT):Nat->((M V)×(V->M V))->V->V->V->V->V->M V|0,_,_,_,_,_,_=> .fail|fu+1,k,a,b,c,d,e=>aW e d (bQ a e fun g=>aP g fun h=>bx b h (k.2 e) (aq e (ii 1) fun g=>uI Y r fu k a b c d g)) (k.1)
def XH:List Nat:=[0,1,4,7,8]
def zT(Y:Nat)(r:RT):(M V)×(V->M V):=(ag [(ii (-1))],fun a=>ag [a])
def DW(Y:Nat)(r:RT)(a b:V):M V:=bA a fun c=>uI Y r Y (zT Y r) a b (ii 0) c (ii 0)
theorem XJ(K:KT):∀fu,uI Y r fu ((K (.exit 0) [],fun a=>K .ret (zp [4] [a])))=fun a b c d e
 =>aT (cQ 286 (pb 5 5) Y r) XH fu (zp XH [a,b,c,d,e]) K
 |0=>by funext a b c d e;kernel_rfl
 |fu+1=>by have f:=XJ K fu;funext a b c d e;rw[uI];simp only[f];kernel_rfl
theorem ahi:zT Y r=(((tK 286 (pb 4 5) Y r) (.exit 0) [],fun a=>(tK 286 (pb 4 5) Y r) .ret (zp [4] [a]))):=jK
theorem XK:ax aa gt Y r 286 #[a,b]=inside (DW Y r a b):=by unfold DW;simp only[ahi,XJ];kernel_rfl
def KI(Y:Nat)(r:RT)(a b:V):M V:=ai r 289 [a,b] fun c=>qu c (ii 0) fun d=>ag [d]
theorem XL:ax aa gt Y r 287 #[a,b]=inside (KI Y r a b):=jK
def KJ(Y:Nat)(r:RT)(a b c:V):M V:=aP b fun d=>aW a d (ag [bT]) (aP c fun f=>jh a f fun g=>ag [g])
theorem XM:ax aa gt Y r 288 #[a,b,c]=inside (KJ Y r a b c):=jK
def uJ(Y:Nat)(r:RT):Nat->((M V)×(V->M V))->V->V->V->V->V->M V|0,_,_,_,_,_,_=> .fail|fu+1,k,a,b,c,d,e=>aW e d (bQ a e fun g=>aP g fun h=>kI aa r b [h] fun i=>aC i (k.2 e) (aq e (ii 1) fun g=>uJ Y r fu k a b c d g)) (k.1)
def XN:List Nat:=[0,1,4,7,8]
def zU(Y:Nat)(r:RT):(M V)×(V->M V):=(ag [(ii (-1))],fun a=>ag [a])
def DX(Y:Nat)(r:RT)(a b:V):M V:=bA a fun c=>uJ Y r Y (zU Y r) a b (ii 0) c (ii 0)
theorem XO(K:KT):∀fu,uJ Y r fu ((K (.exit 0) [],fun a=>K .ret (zp [4] [a])))=fun a b
 c d e=>aT (cQ 289 (pb 5 5) Y r) XN fu (zp XN [a,b,c,d,e]) K
 |0=>by funext a b c d e;kernel_rfl
 |fu+1=>by have f:=XO K fu;funext a b c d e;rw[uJ];simp only[f];kernel_rfl
theorem ahj:zU Y r=(((tK 289 (pb 4 5) Y r) (.exit 0) [],fun a=>(tK 289 (pb 4 5) Y r) .ret (zp [4] [a]))):=jK
theorem XP:ax aa gt Y r 289 #[a,b]=inside (DX Y r a b):=by unfold DX;simp only[ahj,XO];kernel_rfl
end
end Go.Proofs.YtmjolmggelkjlaaGreat
