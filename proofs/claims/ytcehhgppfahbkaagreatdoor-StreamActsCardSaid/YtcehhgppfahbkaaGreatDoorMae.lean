import Derived.Test.YtcehhgppfahbkaaGreatDoorRows
import Derived.Test.YtcehhgppfahbkaaGreatDoorMad
open Go.Proofs.Tryz renaming prog→aa
open Go.Value renaming string→aZ, func→zy
open Go.Fn renaming func→HB
set_option linter.unusedVariables false
set_option linter.unusedSimpArgs false
namespace Go.Proofs.YtcehhgppfahbkaaGreatDoor
open Go.RowKit Ev
abbrev oG:Hint:=([],[],[])
noncomputable abbrev aA {a:Type} (n:Nat) (x:Value) (k:Value->M a):M a:=ba n x fun c=>aM c k
noncomputable abbrev aW {d:Type} (a b:Value) (x y:M d):M d:=cE a b fun c=>aK c x y
noncomputable abbrev ye {d:Type} (a b:Value) (x y:M d):M d:=mL a b fun c=>aK c x y
noncomputable abbrev fi {d:Type} (a b:Value) (x y:M d):M d:=jr a b fun c=>aK c x y
noncomputable abbrev hZ {d:Type} (a b:Value) (x y:M d):M d:=pY a b fun c=>aK c x y
noncomputable abbrev cT {d:Type} (a b:Value) (x y:M d):M d:=ej a b fun c=>aK c x y
noncomputable abbrev gQ {d:Type} (a b:Value) (x y:M d):M d:=hC a b fun c=>aK c x y
noncomputable abbrev iU {d:Type} (a b:Value) (x y:M d):M d:=p5 a b fun c=>aK c x y
noncomputable abbrev An {d:Type} (a b:Value) (x y:M d):M d:=zV a b fun c=>aK c x y
noncomputable abbrev Rz {d:Type} (a b:Value) (x y:M d):M d:=zW a b fun c=>aK c x y
noncomputable abbrev arJ {d:Type} (a b:Value) (x y:M d):M d:=zX a b fun c=>aK c x y
noncomputable abbrev arK {d:Type} (a b:Value) (x y:M d):M d:=Dq a b fun c=>aK c x y
noncomputable abbrev arL {d:Type} (a b:Value) (x y:M d):M d:=zU a b fun c=>aK c x y
def ZV:List Hint:=[oG,oG,oG,oG,oG,oG,([0,1,4,5,6,7,8,9,10,12,13,14,15,18,27,39,40,41,42,48,52,60,62,65,73,92,104,114,127],[4],[(0,[5,6,7,8])]),oG,oG,oG,([0,1,2],[0],[]),([0,1,2,6,7,8,9,10,12,15,16,24,37,38,39,40,50],[6,7],[(0,[10])]),([0,2],[2],[]),oG,oG,([0,1,4,5],[4,5],[]),([0,1,4,5,19],[4,5],[]),([0,1,4,5,6,7,8,9,10,11,18,21,22,23,33],[4,5],[(0,[6,8])]),([0,2,3,4,5,11,15,16],[2,3],[(0,[0,4])]),([0,1,2,6,7,8,9,17,25],[6],[]),([0,2,4],[2],[]),([0,2,10],[2],[]),([0,2],[2],[]),([0,2,3,6],[2],[(0,[3])]),([0,1,2,3,8,9,18],[8],[]),([0,1,2,3,6,7,8,10,11,15,22,34],[6,7],[]),([0,2,6],[2],[(0,[0])]),([0,2,4],[2],[]),oG,([0,2,8],[2],[]),oG,oG,oG,oG,oG,oG,oG,oG,oG,oG,oG,oG,oG,oG,oG,oG,oG,oG,([0,1,4,5],[4],[]),oG,oG,([0,2],[2],[]),([0,2,3,9],[2,3],[]),([0,1,4,5,6,7,9,23,28],[4,5],[]),([0,2,3,4,5,6,7,8,9,11,23,32,44],[2],[]),([0],[0],[]),([0,1,2,6,7,8,11,16,17,18],[6],[(1,[])]),([0,2,3,4,5,6,7,8,15,19],[2,3,4],[(0,[5])]),([0,2,3,5],[2],[]),([0,1],[],[]),([0,11],[],[(0,[])]),([0,2,3,4,8],[2],[(0,[3])]),([0,2,3,4,8],[2],[(0,[3])]),([0,1,4],[4],[]),([0,1,2,3,8,9,10,12,15,16,19,61],[8],[]),([0,1,2,3,4,6],[2],[]),([0,2,4],[2],[]),oG,oG,oG,oG,oG,oG,oG,oG,oG,oG,oG,oG,([0,2],[2],[]),([0,1,4,5,6,7,8],[4],[(0,[5])]),([0,2,3,5,6,7,8,9],[2],[(0,[3])]),([0],[0],[]),([0],[0],[]),([0,2,4],[2],[]),([0,1,4,5,7,22,44],[4],[]),([0,1,2,4,6,7,8,9,22],[6,7],[]),([0,2,4],[2],[]),([0,2,3,4,10],[2,3],[]),([0,1,4],[4],[]),([0,1,4,29],[],[]),([0,2,3,4,5,7,14],[2,3],[]),([0,2],[2],[]),([0,1,4,5,11,29,52],[4],[(0,[5])]),([0,2,3,6],[2,3],[]),([0,2,3,4,6,7,8],[2],[(0,[3])]),([0,1,4,5,6,7,8,9,10,11,18,24,25,26,37],[4,5],[(0,[8])]),([0,1,4,5,6,7,9,12,13,14,15,16,19,27],[4,5],[(0,[1,6,7])]),([0,1,4,5,6,7,8,11,12,14,23,35,36,37,38],[4,5],[(0,[0,6,8])]),([0,1,4,5,6,7,8,10,11,14,20,21,22,26,36,37,38,41],[4],[(1,[0,1,4,5,6,11,14,20,21,22]),(3,[])]),([0,1,2,6,7,8,9,11,12,14,15,17,25,35,36,37,38,54,55,56,57],[6],[(0,[0,1,2,6,7,8,9,17,25,35,36,37,38]),(2,[])]),([0,2,3,4,5,6,10],[2],[(0,[3])]),([0,1,4,5,6,7,8,9,12,17,26],[4,5],[(0,[6])]),([0,1,4,5,6,7,9,15,16,17,18,19,28,30],[4,5],[(0,[1,6,7])]),([0,2,3,4,5,6,7,8,9,10,12,13,20,26],[2],[(0,[3,4]),(2,[0,2,3,4,6,7,9])]),([0,1,4,5,6,7,9,10,11,22,23,24,25,38,39,40,41],[4],[(0,[0,1,4,5,6,7,22,23,24,25]),(2,[6])]),oG,oG,oG,oG,oG,oG,([0,1,4,5,6,7,8,10,11,12,13,30],[4],[(0,[4,5])]),([0,2,3,4,5,6,8,10,11,12,14,15,16,17,27,38],[2],[(0,[3]),(2,[0,2,4,5,6,10,11])]),([0,1,4,5,9],[4],[]),([0,1,2,3,4,5,6,11,12],[0],[(0,[0,1]),(2,[0,1,2,3,5])]),([0,2,3],[2],[]),([0,1,3,4,30,31,32],[],[(0,[])]),([0,2,4],[2],[]),([0,3],[],[]),([0,2,3,4,5,6,10,26,27,28],[2,3],[(0,[4,5])]),([0,1,4,5,7,26],[4],[(0,[0,5])]),([0,2],[2],[]),([0,2,5],[2],[]),([0,2,3,17],[],[]),([0,1,2,3,4,5,6,7,8,11],[2],[(0,[3])]),([0,2,3,6],[2,3],[]),([0,1,4,5,6,8,16],[4,5],[]),([0,2],[2],[]),([0,2,3,4,6,9],[2],[(0,[3])]),([0,1,4,5,18],[4,5],[]),([0,1,4,5,6,8,12,14,15,16,17],[4,5],[(0,[6])]),([0,2,3,4,7],[2,3],[]),([0,1,3,4,5,6,7,8,9,11,12,19,21,22,23,24,36,54],[4,5],[(0,[6])]),([0,2,3,5,6,7,20],[2],[(0,[0])]),([0,2,3,4,5,7,8,9],[2],[(0,[2,3])]),([0,1,2,6,8,9,12,27,28,29,30],[6],[(1,[])]),([0,1,2,4,5,8],[4],[]),([0,2,3,4,5,6,7,8,9,18,30,51,52,53,54,60],[2,3],[(1,[4]),(3,[0,2,3,4,5,6,9,18])]),([0,1,2,6,7,8,9,11,20],[6],[]),([0,1,4,5,9,17],[4],[(0,[])]),([0,2],[2],[]),([0,1,4,5,9,16],[4],[(0,[])]),([0,1,4],[4],[]),([0,2,3,5,8],[2],[]),([0,1,4,5,6,7,9,10,11,12,13,14,24,25,26,27,28,29,42,43,44,46,47,48,49,58],[4],[(0,[4,5]),(2,[0,1,4,5,6,7,24,25,26,27,28,29]),(4,[0,1,4,5,6,7,10,24]),(6,[0,1,4,5,6,7,10,12,24,25,26,27,28,29,42,43])]),([0,1,4,5,6,8,9,18,19,20,21],[4],[(0,[5])]),([0,2,3,4,6,7,16,17,18,19,22,23,29,36],[2],[(0,[3]),(2,[0,2,3,6,16,17,18])]),([0,2,3,4,5,6,7,12,15,16,17,18,24,26,27,28,29],[2],[(0,[3]),(2,[0,2,3,4,5]),(4,[0,2,3,4,5,6,12,15,16,17])]),oG,oG,([0,1,4],[4],[]),([0,1,2,6,7,8],[6],[]),([0,1,2,3,11],[2,3],[]),([0,1,5],[],[]),([0,6,33,42],[],[]),([0,2,4],[2],[]),([0,1,4,6],[4],[]),oG,([0,1,4,5],[4],[]),([0,1,4,5,7,8,9,16],[4],[(0,[])]),([0,1,4,5,6,7,8,9,10,11,18,27,40,41],[4,5],[(1,[4,9])]),([0,1,3,4,17],[4],[]),([0,2,3,4,5,6,11,12,13,14],[2],[(0,[4])]),([0,2],[2],[]),([0,1,4,6,13,14,15,16,21,28],[],[(0,[]),(2,[0,1,4,6,13,14,15,16,21]),(4,[0,1,4,13,14,15])]),([1,2],[],[]),([0,2,4],[2],[]),([0,1,4,5,14],[4,5],[]),([0,1,4,5,6,8,11,12,13,14,15,25],[4,5],[(0,[6])]),([0,1,2],[],[]),([0,2,3,4],[2],[]),([0,1,4,5,6,7,10],[4,5,6],[]),([0,1,4,5,6,7,8,9,11,14,15,16,18,19,20,21,27,36],[4],[(0,[6]),(2,[0,1,4,5,6,8,14,15])]),([0,1,4,5,6,7,8,9],[4],[(0,[5])]),([0,2,3,4,5,6,7,8,9,10,27],[2],[(0,[3])]),([0,1,4,5,6,7,8,9,10,11,24],[4],[(0,[5])]),([0,2,3,5,6,7,8,9,10,14,20,21,25],[2],[(0,[0,2,3,7,8,9,10]),(2,[])]),([0,1,4,5,6,7,8,13,22,34],[4],[(0,[0,1,4,5,6,7,13]),(2,[5])]),oG,([0,1,2,3,10],[2],[]),([0,1,2,6],[6],[]),([0,2,29],[],[]),([0],[],[]),([0,2,3,65,116],[],[]),([0,2,3,35],[],[]),([0,2,7,13,70],[],[]),oG,([0,1,4,5,6,8,14,17,18,19,20,29],[4,5],[(0,[6])]),([0,2,3,4,5,9,10,11],[2],[(0,[3])]),([0,1,4,5,6,7,8,9,10,11,12,18,19,20,29,30,31,32,42,43,44,48],[4],[(0,[0,1,4,5,6,18,19,20]),(2,[6]),(4,[0,1,4,5,6,8,10,18,19,20,29,30,31])]),([0,1,2,6,7,8,9,10,12,13,14,16,18,20,21,27,28,29,37,38,39,40,70,71,72,73],[6,7],[(0,[0,1,2,6,7,8,9,27,28,29]),(2,[0,1,2,6,7,8,9,27,28,29,37,38,39,40]),(4,[8,18])]),([0,2],[2],[]),([0,1,4],[4],[]),([0,1,3],[3],[]),([0,1,2,3,4],[0],[(0,[0,1])]),([0,1,4,5,12],[4],[(0,[0,5])]),([0,2],[2],[]),([0,2],[2],[]),([0,2],[2],[]),([0,1,2,6],[6],[]),([0,2],[2],[]),([0,1,4],[4],[]),([0,2,3,4,6,14,15,16,17,18],[2,3],[(0,[4])]),([0,1,4],[4],[]),([0,2,4,6,8,10],[2],[]),([0,1,4,5,7,8,9,10,11,16],[4],[(0,[5])]),([0,1,4,5,6,7,8,9,10,11,17,18,19],[4],[(0,[5]),(2,[0,1,4,5,8,9,10])]),([0,2,3,4,5,6,7,8,9,10,11,12,13,15,18,19,20,21,39,66,67,68,69],[2],[(0,[0,2,3,4,18,19,20,21]),(2,[7]),(4,[0,2,3,4,7,8,10,12,13,18,19,20,21])]),([0,1,2,6,8,9,10,11,12,22],[6],[(0,[])]),([0,2,3,5,6,7,8,9,13],[2],[(0,[3])]),oG,([0,1,2,6,7,8],[6],[]),([0,2,43],[],[]),([0,2,3,5,6,7,8,12],[2],[(0,[3])]),([0,1,4,5,6,7,8,9,11,12,13,14,26],[4],[(0,[5])]),([0,1,4,5,6,7,22,27,28,29],[4,5],[(0,[6])]),([0,2,3,4,5,6,7,20,24,25,26,27,41],[2,3],[(0,[0,2,3,4,20,24,25,26,27])]),([0,1,4,5,7,8,9,16],[4],[(0,[])]),([0,1,4,5,6,14],[4],[(0,[0,5])]),([0,2],[2],[]),([0,2],[2],[]),([0,1,2,4,5,6],[6],[]),([0,2,4],[2],[]),([0,2,3,4,5,6,7,8,9,18],[2],[(0,[3])]),([0,1,4,5,6,7,8,9,10,11,17],[4],[(0,[5])]),oG,oG,oG,oG,oG,oG,([0,1,4,9],[4],[]),([0,2,3,4,5,6,11,12,13,32],[2],[(0,[0,2,3,11,12,13]),(2,[0,5])]),([0,2,3,5,6,7,8,9],[2],[(0,[3])]),([0,2,3,4,5,9,10,11,12],[2],[(0,[3])]),([0,1,2,4],[4],[]),([0,1,2,3,4],[4],[]),oG,oG,oG,oG,oG,([0,1,2,3,4,12,13,14],[2],[(0,[1,3])]),([0,2,3,46],[2],[]),([0,1,2],[],[]),oG,oG,([0,1],[],[]),([0,1,2,5],[5],[]),([0,1,4,5,6,11,12,13,16,19],[4],[]),([0,1,2,6,7,8,9,13,30,35,54],[],[(0,[0,1,2,6,7,8,13]),(2,[]),(4,[0,1,2,6,7,8,13])]),([0,2],[2],[]),([0,1,2,3,8,9,14,34],[],[(0,[]),(2,[0,1,2,3,8])]),([0,1,2,3,4,10,11,12,13,14,15,16,17,18,19,20,21,22,23,24,28,33,50,58,80,85,103,110,140,151,171,185,199,213],[],[(0,[0,1,2,3,4,10,11,28,33]),(2,[]),(4,[0,1,2,3,4,14,15,28,80,85]),(6,[]),(8,[0,1,2,3,4,18,19,20])]),([0,1,2,3,4,10,11,20,23],[],[(0,[0,2,4,10])]),([0,1,2,3,10,13],[],[(0,[])])]
def gt(f:Nat):Hint:=ZV.getD f ([],[],[])
noncomputable abbrev eW:Nat->Nat->FuncId->Array Value->M Value:=ah aa gt
theorem aL:mO aa=true:=jK
abbrev ii(x:Int):Value:= .int .i64 x
abbrev i1(x:Int):Value:= .int .u8 x
abbrev i3(x:Int):Value:= .int .u32 x
abbrev i6(x:Int):Value:= .int .u64 x
abbrev bT:Value:= .bool true
abbrev bF:Value:= .bool false
abbrev nP:Value:= .pointer none
abbrev nS:Value:= .slice none 0 0
abbrev RT:=FuncId->Array Value->M Value
abbrev V:=Value
abbrev KT:=Ex->Fr->M Value
def pb:Nat->Nat->List Bool|0,_=>[]|l+1,n=>(Nat.beq (n %2) 1)::pb l (n/2)
def zp:List Nat->List Value->Fr|[],_=>[]|_,[]=>[]|a::l,v::m=>(a,v)::zp l m
noncomputable def cQ (f:Nat) (p:List Bool) (lf:Nat) (r:RT):Fr->KT->M Value:=fun s k=>oR aa r (gt f) lf (sU (Jg aa f) p) s k
noncomputable def tK (f:Nat) (p:List Bool) (lf:Nat) (r:RT):KT:=uZ aa r (gt f) lf (Jg aa f) p (P8 aa (afI aa f))
noncomputable def iK (f:Nat) (p q:List Bool) (s:List Nat) (a:Nat) (K:KT) (lf:Nat) (r:RT):KT:=uZ aa r (gt f) lf (sU (Jg aa f) p) q (P7 (fun x=>aP (cQ f p lf r) s a (x.ay s) K) K)
theorem aF{lf d:Nat}{f:FuncId}{a:Array Value}{b:RT->M Value}(s:∀r,aD aa gt lf r f a=b r)(h:KN.contains f=false):eW lf (d+1) f a=b (eW lf d):=by
 show(match KN.contains f with
  |true=>_
  |false=>aD aa gt lf (eW lf d) f a:M Value)=_
 rw[h];exact s _
theorem bz{a:Type}{W:Nat->Prop}{n0:Nat}{h:H}{n:Nat}{Q:a->H->Nat->Prop}{lf d:Nat}{f:FuncId}{vs:List Value}{v:Value}{e:Nat->Prop}(s:ae e n (eW lf d f ⟨vs⟩) h n fun c h' n'=>c=v∧h'=h∧n'=n)(i:n0<=n)(j:∀b,b<n->e b->n0<=b∨W b){k:Value->M a}(x:ae W n0 (k v) h n Q):ae W n0 (ak (eW lf d) f vs k) h n Q:=by refine aN aL s i j fun c h' n' _ _ g=> ?_;obtain⟨rfl,rfl,rfl⟩:=g;exact x
noncomputable section
variable {lf:Nat} {r:RT} {a b c d e f g h i j l m:V}
def z3:List Value:=[(ii 0)]
def z31:List Value:=[(ii 0),(ii 0)]
def lW:List Value:=[(aZ {data:=#[]}),(i3 0),(ii 0)]
def z51:List Value:=[(ii 0),(ii 0),(aZ {data:=#[]}),(i3 0)]
def eS:List Value:=[(aZ {data:=#[]}),(aZ {data:=#[]}),bF,bF]
def Mt:List Value:=[(ii 0),(ii 0),(aZ {data:=#[]})]
def z80:List Value:=[(aZ {data:=#[]}),(aZ {data:=#[]})]
def z93:List Value:=[nP,(i3 0),bF]
def JC:List Value:=[(aZ {data:=#[]}),(ii 0),(i3 0)]
def z109:List Value:=[(ii 0),(aZ {data:=#[]}),bF,nP,bF,nS,nP,(ii 0),nP,(aZ {data:=#[]}),bF,(ii 0)]
def yg:List Value:=[(i1 0),(ii 0)]
def z116:List Value:=[(aZ {data:=#[]}),(ii 0)]
def RA:List Value:=[nS,nP,(ii 0)]
def z127:List Value:=[nS,nP,(ii 0),(ii 0),nP]
def RC:List Value:=[nS,(i1 0),(ii 0)]
def RD:List Value:=[(aZ {data:=#[]}),nP,nS,nS,(ii 0)]
def RE:List Value:=(sQ (i3 0) 256)
def agf:List Value:=(sQ (i3 0) 257)
def RF:List Value:=[(i1 0),(ii 0)]
def JD:List Value:=(sQ bF 256)
def mP:List Value:=[nS,nS]
def p9:List Value:=(sQ (i3 0) 16)
def yh:List Value:=[nS,nS]
def z203:List Value:=[(ii 0),(ii 0),(ii 0)]
def RG:List Value:=(qX [(aZ {data:=#[]})] (qX [nS,nS,nS] (qX [(ii 0)] (qX [nS] (qX (sQ (ii 0) 9) [bF])))))
def RH:List Value:=[nS]
def JE:List Value:=(qX [nS,nS,nS] (sQ (ii 0) 43))
def DU:List Value:=[(ii 0),(ii 0),(ii 0),(ii 0),(ii 0),(ii 0)]
def s0:List Value:=[(ii 0),(ii 0),nS]
def RJ:List Value:=[nS,nS,nS,(ii 0)]
theorem JF:z3=[(ii 0)]:=rfl
theorem RK:z31=[(ii 0),(ii 0)]:=rfl
theorem RN:lW=[(aZ {data:=#[]}),(i3 0),(ii 0)]:=rfl
theorem RP:z51=[(ii 0),(ii 0),(aZ {data:=#[]}),(i3 0)]:=rfl
theorem RQ:eS=[(aZ {data:=#[]}),(aZ {data:=#[]}),bF,bF]:=rfl
theorem RS:Mt=[(ii 0),(ii 0),(aZ {data:=#[]})]:=rfl
theorem RU:z80=[(aZ {data:=#[]}),(aZ {data:=#[]})]:=rfl
theorem RV:z93=[nP,(i3 0),bF]:=rfl
theorem RW:JC=[(aZ {data:=#[]}),(ii 0),(i3 0)]:=rfl
theorem RX:z109=[(ii 0),(aZ {data:=#[]}),bF,nP,bF,nS,nP,(ii 0),nP,(aZ {data:=#[]}),bF,(ii 0)]:=rfl
theorem RY:yg=[(i1 0),(ii 0)]:=rfl
theorem R0:z116=[(aZ {data:=#[]}),(ii 0)]:=rfl
theorem R1:RA=[nS,nP,(ii 0)]:=rfl
theorem R2:z127=[nS,nP,(ii 0),(ii 0),nP]:=rfl
theorem R3:RC=[nS,(i1 0),(ii 0)]:=rfl
theorem R4:RD=[(aZ {data:=#[]}),nP,nS,nS,(ii 0)]:=rfl
theorem R5:RF=[(i1 0),(ii 0)]:=rfl
theorem qa:mP=[nS,nS]:=rfl
theorem R6:p9=[(i3 0),(i3 0),(i3 0),(i3 0),(i3 0),(i3 0),(i3 0),(i3 0),(i3 0),(i3 0),(i3 0),(i3 0),(i3 0),(i3 0),(i3 0),(i3 0)]:=rfl
theorem Ao:yh=[nS,nS]:=rfl
theorem R7:z203=[(ii 0),(ii 0),(ii 0)]:=rfl
theorem R9:RG=[(aZ {data:=#[]}),nS,nS,nS,(ii 0),nS,(ii 0),(ii 0),(ii 0),(ii 0),(ii 0),(ii 0),(ii 0),(ii 0),(ii 0),bF]:=rfl
theorem R':RH=[nS]:=rfl
theorem Ap:DU=[(ii 0),(ii 0),(ii 0),(ii 0),(ii 0),(ii 0)]:=rfl
theorem Sb:s0=[(ii 0),(ii 0),nS]:=rfl
theorem Sc:RJ=[nS,nS,nS,(ii 0)]:=rfl
def lg(lf:Nat)(r:RT):Nat->((V->V->V->V->M V)×(V->M V))->V->V->V->V->V->V->V->V->V->V->V->V->V->V->M V|0,_,_,_,_,_,_,_,_,_,_,_,_,_,_,_=> .fail|fu+1,k,a,b,c,d,e,f,g,h,i,j,l,m,n,o=>aW o n (ki 4 m o fun q=>bR 4 q fun s=>cU 51 z51 fun t=>b9 4 t s fun _=>aA 2 t fun s=>cS s fun u=>fi u (ii 30) (ak r 10 [] fun q=>k.2 q) (aA 0 t fun s=>cT s (ii 3) (ak r 20 [d] fun q=>ar g q fun s=>ak r 23 [f] fun g=>gQ s g (k.2 bF) (ar o (ii 1) fun g=>lg lf r fu k a b c d e f s h i j l m n g)) (aA 0 t fun s=>ej s (ii 0) fun q=>(fun w=>aK q (aA 2 t fun y=>aA 3 t fun A=>ak r 19 [d,y,A] fun B=>w B) (cT s (ii 1) (aA 2 t fun z=>aA 1 t fun B=>aA 3 t fun D=>ak r 24 [d,z,B,D] fun E=>w E) (ak r 21 [d] fun y=>w y))) fun w=>bR 4 t fun x=>ak r 25 [x,h,i] fun y=>bj y 0 fun z=>bj y 1 fun A=>gQ w z (k.2 bF) (cT z (ii 0) (aA 0 t fun C=>aW C (ii 2) (aA 0 t fun G=>pY G (ii 0) fun J=>(fun y=>aK J (aA 3 t fun C=>bV 40 1 C fun D=>bH 40 1 i D fun E=>ar f A fun B=>y B h E) (cT z (ii 0) (ar f A fun C=>ak r 26 [C] fun D=>y D bT i) (y f h i))) fun f i h=>ak r 27 [d] fun y=>cS f fun B=>iE B (ii 8) fun C=>cS g fun D=>bL C D fun E=>gQ y E (k.2 bF) (ar o (ii 1) fun y=>lg lf r fu k a b c d e f g i h j l m n y)) (ej z (ii 0) fun y=>(fun B=>aK y (ar f A fun C=>ak r 26 [C] fun D=>B D bT) (B f h)) fun f h=>ak r 27 [d] fun B=>cS f fun C=>iE C (ii 8) fun D=>cS g fun E=>bL D E fun G=>gQ B G (k.2 bF) (ar o (ii 1) fun B=>lg lf r fu k a b c d e f g h i j l m n B))) (ej z (ii 0) fun y=>(fun B=>aK y (ar f A fun C=>ak r 26 [C] fun D=>B D bT) (B f h)) fun f h=>ak r 27 [d] fun B=>cS f fun C=>iE C (ii 8) fun D=>cS g fun E=>bL D E fun G=>gQ B G (k.2 bF) (ar o (ii 1) fun B=>lg lf r fu k a b c d e f g h i j l m n B)))))) (k.1 d e f g)
def Sd:List Nat:=[0,1,4,5,6,7,8,9,10,18,27,39,40,41]
def s7(lf:Nat)(r:RT):(V->V->V->V->M V)×(V->M V):=(fun a b c d=>cT b (ii 0) (ak r 20 [a] fun f=>ar d f fun g=>ak r 23 [c] fun h=>cT g h (ak r 10 [] fun j=>aj [j]) (aj [bF])) (aj [bF]),fun a=>aj [a])
def JG(lf:Nat)(r:RT)(a b:V):M V:=aT b fun c=>jr c (ii 8) fun d=>aK d (ak r 10 [] fun c=>aj [c]) (ak r 18 [a] fun c=>bj c 0 fun e=>bj c 1 fun f=>ak r 12 [a] fun c=>ek c fun g=>aK g (cT f (ii 1) (iU e nP (ak r 10 [] fun i=>aj [i]) (aj [bF])) (aj [bF])) (ak r 22 [a] fun c=>aT b fun h=>lg lf r lf (s7 lf r) a b bF e f c (aZ {data:=#[]}) bF nS d g b h (ii 0)))
theorem Se(K:KT):∀fu,lg lf r fu ((fun a b c d=>K (.exit 0) (zp [5,6,7,8] [a,b,c,d]),fun
 a=>K .ret (zp [4] [a])))=fun a b c d e f g h i j l m n o=>aP (cQ 6 (pb 12 767) lf r) Sd fu (zp Sd [a,b,c,d,e,f,g,h,i,j,l,m,n,o]) K
 |0=>jK
 |fu+1=>by have k:=Se K fu;funext a b c d e f g h i j l m n o;rw[lg];simp only[k];kernel_rfl
theorem agh:s7 lf r=((fun a b c d=>(tK 6 (pb 11 767) lf r) (.exit 0) (zp [5,6,7,8] [a,b,c,
 d]),fun a=>(tK 6 (pb 11 767) lf r) .ret (zp [4] [a]))):=by kernel_rfl
theorem agi:aD aa gt lf r 6 #[a,b]=inside (JG lf r a b):=by unfold JG;simp only[agh,Se];kernel_rfl
def JH(lf:Nat)(r:RT):M V:=ak r 15 [(ii 9),(aZ {data:=#[]})] fun a=>bj a 0 fun b=>bj a 1 fun c=>cT c (ii 0) (cT b (aZ {data:=#[66,90,104,57,23,114,69,56,80,144,0,0,0,0]}) (ak r 29 [(ii 5)] fun e=>cT e (ii 12015) (ak r 29 [(ii 4)] fun g=>ej g (ii 0) fun h=>aj [h]) (aj [bF])) (aj [bF])) (aj [bF])
theorem Sf:aD aa gt lf r 10 #[]=inside (JH lf r):=jK
def DV(lf:Nat)(r:RT):Nat->((V->M V)×(V->V->M V))->V->V->V->V->V->V->V->V->V->V->V->V->V->M V|0,_,_,_,_,_,_,_,_,_,_,_,_,_,_=> .fail|fu+1,k,a,b,c,d,e,f,g,h,i,j,l,m,n=>aW n m (ki 3 l n fun p=>bR 3 p fun q=>cU 42 lW fun s=>b9 3 s q fun _=>aA 0 s fun q=>aA 1 s fun u=>ak r 19 [h,q,u] fun v=>gQ v (ii 0) (k.2 (aZ {data:=#[]}) v) (ar n (ii 1) fun q=>DV lf r fu k a b c d e f g h i j l m q)) (k.1 h)
def Sg:List Nat:=[0,1,2,6,7,8,9,10,12,24,37,38,39]
def Sh(lf:Nat)(r:RT):(V->M V)×(V->V->M V):=(fun a=>ak r 21 [a] fun b=>ak r 20 [a] fun b=>aj [b,(ii 0)],fun a b=>aj [a,b])
def JI(lf:Nat)(r:RT)(a b c:V):M V:=ak r 16 [a,b] fun d=>bj d 0 fun e=>bj d 1 fun f=>hC f (ii 0) fun d=>aK d (aj [(aZ {data:=#[]}),f]) (ak r 18 [a] fun g=>bj g 0 fun h=>bj g 1 fun i=>ak r 17 [c,e] fun g=>bj g 0 fun i=>bj g 1 fun j=>aT i fun g=>DV lf r lf (Sh lf r) a b c (aZ {data:=#[]}) (ii 0) e f h i d i g (ii 0))
theorem Si(K:KT):∀fu,DV lf r fu ((fun a=>K (.exit 0) (zp [10] [a]),fun a b=>K .ret (zp [6,7] [a,b])))=fun a
 b c d e f g h i j l m n=>aP (cQ 11 (pb 9 95) lf r) Sg fu (zp Sg [a,b,c,d,e,f,g,h,i,j,l,m,n]) K
 |0=>jK
 |fu+1=>by have k:=Si K fu;funext a b c d e f g h i j l m n;rw[DV];simp only[k];kernel_rfl
theorem agj:Sh lf r=((fun a=>(tK 11 (pb 8 95) lf r) (.exit 0) (zp [10] [a]),fun a b=>(tK 11 (pb 8 95) lf r) .ret (zp [6,7] [a,b]))):=jK
theorem agk:aD aa gt lf r 11 #[a,b,c]=inside (JI lf r a b c):=by unfold JI;simp only[agj,Si];kernel_rfl
def Sj(lf:Nat)(r:RT)(a:V):M V:=hZ a (ii 1) (mL a (ii 9) fun c=>aj [c]) (aj [bF])
theorem agl:aD aa gt lf r 12 #[a]=inside (Sj lf r a):=jK
def Sk(lf:Nat)(r:RT)(a b:V):M V:=ak r 11 [a,(ii 100000),b] fun c=>bj c 0 fun d=>bj c 1 fun e=>aj [d,e]
theorem agm:aD aa gt lf r 15 #[a,b]=inside (Sk lf r a b):=jK
def Sl(lf:Nat)(r:RT)(a b:V):M V:=aW a (ii 1) (aj [(ii 0),(ii 1)]) (fi a (ii 9) (aj [(ii 0),(ii 1)]) (aW b (ii 24) (aj [(ii 0),(ii 1)]) (fi b (ii 100000) (aj [(ii 0),(ii 1)]) (jq a b fun c=>bL c (ii 19) fun d=>aj [d,(ii 0)]))))
theorem agn:aD aa gt lf r 16 #[a,b]=inside (Sl lf r a b):=jK
def Aq(lf:Nat)(r:RT):Nat->(V->V->M V)->V->V->V->V->V->V->V->V->V->V->M V|0,_,_,_,_,_,_,_,_,_,_,_=> .fail|fu+1,k,a,b,c,d,e,f,g,h,i,j=>aW j i (gJ a j fun m=>ak r 53 [e,m] fun n=>bj n 0 fun o=>bj n 1 fun p=>cU 42 lW fun q=>b9 3 q o fun _=>aK p (bR 3 q fun m=>bV 42 3 m fun n=>bH 42 3 g n fun o=>ar j (ii 1) fun g=>Aq lf r fu k a b c d e f o h i g) (ar j (ii 1) fun m=>Aq lf r fu k a b c d e f g h i m)) (k e g)
def Sn:List Nat:=[0,1,4,5,6,7,8,18,21,22]
def So(lf:Nat)(r:RT):(V->V->M V):=fun a b=>ak r 54 [a] fun c=>bH 42 3 b c fun d=>aj [d,(ii 0)]
def JJ(lf:Nat)(r:RT)(a b:V):M V:=ak r 52 [b] fun c=>bj c 0 fun d=>bj c 1 fun e=>hC e (ii 0) fun c=>aK c (aj [nS,e]) (cS a fun f=>Aq lf r lf (So lf r) a b nS (ii 0) d e nS c f (ii 0))
theorem Sq(K:KT):∀fu,Aq lf r fu (fun a b=>K (.exit 0) (zp [6,8] [a,b]))=fun a b c d e f g h i j=>aP (cQ 17 (pb
 8 47) lf r) Sn fu (zp Sn [a,b,c,d,e,f,g,h,i,j]) K
 |0=>jK
 |fu+1=>by have k:=Sq K fu;funext a b c d e f g h i j;rw[Aq];simp only[k];kernel_rfl
theorem ago:So lf r=(fun a b=>(tK 17 (pb 7 47) lf r) (.exit 0) (zp [6,8] [a,b])):=jK
theorem agp:aD aa gt lf r 17 #[a,b]=inside (JJ lf r a b):=by unfold JJ;simp only[ago,Sq];kernel_rfl
def vk(lf:Nat)(r:RT):Nat->(V->V->M V)->V->V->V->V->V->V->M V|0,_,_,_,_,_,_,_=> .fail|fu+1,k,a,b,c,d,e,f=>aW f (ii 3) (au d fun h=>ba 0 h fun i=>(bx (aM i M.ret)).bind fun j=>gJ (aZ {data:=#[66,90,104]}) f fun l=>(bx (ey .u32 l M.ret)).bind fun m=>(bx (ak r 56 [j.1,m.1,(ii 8)] M.ret)).bind fun n=>lT ((!(fs j.2 m.2)&&true)&&true) (ar f (ii 1) fun h=>vk lf r fu k a b c d e h)) (k a d)
def Sr:List Nat:=[0,2,3,4,11,15]
def DW(lf:Nat)(r:RT):(V->V->M V):=fun a b=>au b fun c=>aA 0 c fun e=>ar (ii 48) a fun f=>ey .u32 f fun g=>ak r 56 [e,g,(ii 8)] fun h=>aj [b,(ii 0)]
def Ar(lf:Nat)(r:RT)(a:V):M V:=aW a (ii 1) (aj [nP,(ii 1)]) (jr a (ii 9) fun c=>aK c (aj [nP,(ii 1)]) (ak r 55 [] fun b=>dz z93 [(0,1,b)] fun d=>fz 93 d fun e=>vk lf r lf (DW lf r) a nP (ii 0) e c (ii 0)))
theorem Ss(K:KT):∀fu,vk lf r fu (fun a b=>K (.exit 0) (zp [0,4] [a,b]))=fun a b c d e f=>aP (cQ 18 (pb 7
 23) lf r) Sr fu (zp Sr [a,b,c,d,e,f]) K
 |0=>jK
 |fu+1=>by have g:=Ss K fu;funext a b c d e f;rw[vk];simp only[g];kernel_rfl
theorem agq:DW lf r=(fun a b=>(tK 18 (pb 6 23) lf r) (.exit 0) (zp [0,4] [a,b])):=jK
theorem JK:aD aa gt lf r 18 #[a]=inside (Ar lf r a):=by unfold Ar;simp only[agq,Ss];kernel_rfl
def As(lf:Nat)(r:RT)(a b c:V):M V:=iU a nP (aj [(ii 7)]) (au a fun e=>aA 2 e fun g=>aK g (aj [(ii 7)]) (ak r 57 [b] fun d=>bj d 0 fun e=>bj d 1 fun f=>bj d 2 fun h=>gQ h (ii 0) (aj [(ii 1)]) (ak r 24 [a,e,f,c] fun i=>aj [i])))
theorem DX:aD aa gt lf r 19 #[a,b,c]=inside (As lf r a b c):=jK
def JL(lf:Nat)(r:RT)(a:V):M V:=iU a nP (aj [(aZ {data:=#[]})]) (au a fun c=>aA 0 c fun e=>ak r 58 [e] fun f=>aj [f])
theorem Su:aD aa gt lf r 20 #[a]=inside (JL lf r a):=jK
def DY(lf:Nat)(r:RT)(a:V):M V:=iU a nP (aj [(ii 7)]) (au a fun c=>aA 2 c fun e=>aK e (aj [(ii 7)]) (ak r 59 [a,(i6 25779555029136)] fun b=>au a fun b=>aA 0 b fun d=>au a fun f=>aA 1 f fun h=>ak r 56 [d,h,(ii 32)] fun i=>au a fun b=>aA 0 b fun d=>ak r 60 [d] fun f=>au a fun b=>ba 2 b fun c=>bc c bT fun _=>aj [(ii 0)]))
theorem JM:aD aa gt lf r 21 #[a]=inside (DY lf r a):=jK
def Sv(lf:Nat)(r:RT)(a:V):M V:=ar a (ii 1) fun b=>gK (aZ {data:=#[48,49,50,51,52,53,54,55,56,57]}) (some a) (some b) fun c=>ar (aZ {data:=#[66,90,104]}) c fun d=>ak r 61 [d] fun e=>aj [e]
theorem agr:aD aa gt lf r 22 #[a]=inside (Sv lf r a):=jK
def vl(lf:Nat)(r:RT):Nat->(V->M V)->V->V->V->M V|0,_,_,_,_=> .fail|fu+1,k,a,b,c=>cS a fun d=>hZ d (ii 8) (gK a none (some (ii 8)) fun d=>ak r 62 [d] fun f=>ey .u8 f fun g=>bV 5 1 g fun h=>kZ h fun i=>ar c i fun j=>gK a (some (ii 8)) none fun c=>vl lf r fu k c b j) (k c)
def Sw:List Nat:=[0,2,3]
def DZ(lf:Nat)(r:RT):(V->M V):=fun a=>aj [a]
def JN(lf:Nat)(r:RT)(a:V):M V:=vl lf r lf (DZ lf r) a (aZ {data:=#[]}) (aZ {data:=#[]})
theorem Sx(K:KT):∀fu,vl lf r fu (fun a=>K (.exit 0) (zp [3] [a]))=fun a b c=>aP (cQ 23 (pb 5 3)
 lf r) Sw fu (zp Sw [a,b,c]) K
 |0=>jK
 |fu+1=>by have d:=Sx K fu;funext a b c;rw[vl];simp only[d];kernel_rfl
theorem ags:DZ lf r=(fun a=>(tK 23 (pb 4 3) lf r) (.exit 0) (zp [3] [a])):=jK
theorem agt:aD aa gt lf r 23 #[a]=inside (JN lf r a):=by unfold JN;simp only[ags,Sx];kernel_rfl
def Au(lf:Nat)(r:RT)(a b c d:V):M V:=iU a nP (aj [(ii 7)]) (au a fun f=>aA 2 f fun h=>aK h (aj [(ii 7)]) (cS b fun e=>fi e (ii 900000) (aj [(ii 1)]) (aW c (ii 0) (aj [(ii 1)]) (cS b fun i=>hZ c i (aj [(ii 1)]) (ak r 59 [a,(i6 54156738319193)] fun e=>au a fun e=>aA 1 e fun g=>ak r 63 [g,d] fun i=>au a fun l=>ba 1 l fun m=>bc m i fun _=>au a fun e=>aA 0 e fun g=>ak r 64 [g,b,c,d] fun i=>aj [i])))))
theorem D0:aD aa gt lf r 24 #[a,b,c,d]=inside (Au lf r a b c d):=jK
def Sz(lf:Nat)(r:RT)(a b c:V):M V:=fz 51 a fun d=>aK b (aj [(ii 7),(aZ {data:=#[]})]) (aA 0 d fun f=>cT f (ii 0) (aA 2 d fun h=>cT h (aZ {data:=#[]}) (aj [(ii 1),(aZ {data:=#[]})]) (aA 2 d fun h=>aA 3 d fun l=>ak r 48 [h,l] fun m=>ar (aZ {data:=#[48,48,49,49,48,48,48,49,48,49,48,48,48,48,48,49,48,49,48,49,49,48,48,49,48,48,49,48,48,49,49,48,48,49,48,49,48,48,49,49,48,49,48,49,49,48,48,49]}) m fun n=>aj [(ii 0),n])) (cT f (ii 1) (aA 1 d fun i=>aW i (ii 0) (aj [(ii 1),(aZ {data:=#[]})]) (aA 1 d fun m=>aA 2 d fun o=>cS o fun p=>hZ m p (aj [(ii 1),(aZ {data:=#[]})]) (aA 2 d fun i=>aA 1 d fun l=>aA 3 d fun n=>dz JC [(0,1,i),(1,1,l),(2,1,n)] fun o=>ak r 65 [o] fun p=>ar (aZ {data:=#[48,48,49,49,48,48,48,49,48,49,48,48,48,48,48,49,48,49,48,49,49,48,48,49,48,48,49,48,48,49,49,48,48,49,48,49,48,48,49,49,48,49,48,49,49,48,48,49]}) p fun s=>aj [(ii 0),s]))) (ak r 51 [c] fun h=>ak r 26 [h] fun i=>aj [(ii 0),i])))
theorem agu:aD aa gt lf r 25 #[a,b,c]=inside (Sz lf r a b c):=jK
def vm(lf:Nat)(r:RT):Nat->(V->M V)->V->V->M V|0,_,_,_=> .fail|fu+1,k,a,b=>cS a fun c=>mN c (ii 8) fun d=>gQ d (ii 0) (ar a (aZ {data:=#[48]}) fun c=>vm lf r fu k c b) (k a)
def SA:List Nat:=[0,2]
def D1(lf:Nat)(r:RT):(V->M V):=fun a=>aj [a]
def JO(lf:Nat)(r:RT)(a:V):M V:=vm lf r lf (D1 lf r) a (aZ {data:=#[]})
theorem SB(K:KT):∀fu,vm lf r fu (fun a=>K (.exit 0) (zp [0] [a]))=fun a b=>aP (cQ 26 (pb 4 1)
 lf r) SA fu (zp SA [a,b]) K
 |0=>jK
 |fu+1=>by have c:=SB K fu;funext a b;rw[vm];simp only[c];kernel_rfl
theorem agv:D1 lf r=(fun a=>(tK 26 (pb 3 1) lf r) (.exit 0) (zp [0] [a])):=jK
theorem agw:aD aa gt lf r 26 #[a]=inside (JO lf r a):=by unfold JO;simp only[agv,SB];kernel_rfl
def SC(lf:Nat)(r:RT)(a:V):M V:=iU a nP (aj [(ii 0)]) (au a fun c=>aA 0 c fun e=>ak r 66 [e] fun f=>aj [f])
theorem agx:aD aa gt lf r 27 #[a]=inside (SC lf r a):=jK
def SD(lf:Nat)(r:RT)(a:V):M V:=aW a (ii 5) (aj [(ii 0)]) (fi a (ii 900000) (aj [(ii 0)]) (jq (ii 3) a fun b=>ar (ii 12000) b fun d=>aj [d]))
theorem agy:aD aa gt lf r 29 #[a]=inside (SD lf r a):=jK
def SE(lf:Nat)(r:RT)(a b:V):M V:=ak r 79 [a] fun c=>cU 116 z116 fun d=>b9 2 d c fun _=>aA 0 d fun e=>aA 1 d fun g=>dz JC [(0,1,e),(1,1,g),(2,1,b)] fun h=>ak r 65 [h] fun i=>aj [i]
theorem agz:aD aa gt lf r 48 #[a,b]=inside (SE lf r a b):=jK
def SF(lf:Nat)(r:RT)(a:V):M V:=ak r 81 [a] fun b=>ak r 80 [b,(ii 32)] fun c=>ar (aZ {data:=#[48,48,48,49,48,49,49,49,48,49,49,49,48,48,49,48,48,49,48,48,48,49,48,49,48,48,49,49,49,48,48,48,48,49,48,49,48,48,48,48,49,48,48,49,48,48,48,48]}) c fun d=>aj [d]
theorem agA:aD aa gt lf r 51 #[a]=inside (SF lf r a):=jK
def SG(lf:Nat)(r:RT)(a:V):M V:=aW a (ii 5) (aj [nP,(ii 1)]) (fi a (ii 900000) (aj [nP,(ii 1)]) (ak r 82 [] fun b=>dz RA [(1,1,b)] fun d=>ak r 83 [] fun e=>dz z127 [(0,3,d),(3,1,a),(4,1,e)] fun f=>fz 127 f fun g=>aj [g,(ii 0)]))
theorem agB:aD aa gt lf r 52 #[a]=inside (SG lf r a):=jK
def SH(lf:Nat)(r:RT)(a b:V):M V:=cU 42 lW fun c=>iU a nP (dz lW [] fun e=>b9 3 c e fun _=>bR 3 c fun a=>aj [a,bF]) (au a fun e=>aA 4 e fun g=>ak r 84 [g] fun h=>cU 113 yg fun i=>b9 2 i h fun _=>au a fun e=>aA 4 e fun g=>ak r 85 [g,b] fun h=>cT h (aZ {data:=#[]}) (dz lW [] fun f=>b9 3 c f fun _=>bR 3 c fun a=>aj [a,bF]) (aA 0 i fun g=>ej g b fun j=>(fun f=>aK j (aA 1 i fun l=>ar l (ii 1) fun m=>ba 1 i fun n=>bc n m fun _=>f) (f)) (bR 2 i fun f=>cS h fun g=>ak r 86 [a,f,g] fun l=>bj l 0 fun m=>bj l 1 fun n=>b9 3 c m fun _=>bR 3 c fun a=>aj [a,n])))
theorem agC:aD aa gt lf r 53 #[a,b]=inside (SH lf r a b):=jK
def SI(lf:Nat)(r:RT)(a:V):M V:=iU a nP (aj [nS]) (au a fun c=>aA 4 c fun e=>ak r 84 [e] fun f=>cU 113 yg fun g=>b9 2 g f fun _=>au a fun c=>aA 4 c fun e=>ak r 87 [e] fun f=>hC f (aZ {data:=#[]}) fun c=>(fun d=>aK c (bR 2 g fun e=>cS f fun h=>ak r 86 [a,e,h] fun i=>bj i 0 fun j=>bj i 1 fun l=>cU 42 lW fun m=>b9 3 m j fun _=>aK l (bR 3 m fun e=>bV 42 3 e fun h=>bH 42 3 nS h fun i=>d i) (d nS)) (d nS)) fun d=>au a fun e=>ba 0 e fun h=>ak r 88 [h] fun i=>bj i 0 fun j=>bj i 1 fun l=>cU 42 lW fun m=>b9 3 m j fun _=>aK l (bR 3 m fun e=>bV 42 3 e fun h=>bH 42 3 d h fun i=>aj [i]) (aj [d]))
theorem agD:aD aa gt lf r 54 #[a]=inside (SI lf r a):=jK
def JP(lf:Nat)(r:RT):M V:=dz RC [] fun a=>fz 133 a fun b=>aj [b]
theorem SJ:aD aa gt lf r 55 #[]=inside (JP lf r):=jK
def vn(lf:Nat)(r:RT):Nat->(M V)->V->V->V->V->V->V->V->V->M V|0,_,_,_,_,_,_,_,_,_=> .fail|fu+1,k,a,b,c,d,e,f,g,h=>aW h g (bL c (ii 1) fun j=>bL j h fun l=>kX b l fun m=>Dp m (i3 1) fun n=>ey .u8 n fun o=>ak r 90 [a,o] fun p=>ar h (ii 1) fun j=>vn lf r fu k a b c d e f g j) (k)
def SK:List Nat:=[0,1,2,6,8,11,16,17]
def D2(lf:Nat)(r:RT):(M V):=aj [(ii 0)]
def D3(lf:Nat)(r:RT)(a b c:V):M V:=p5 a nP fun d=>aK d (aj [(ii 7)]) (ak r 89 [b,c] fun e=>ek e fun f=>aK f (aj [(ii 1)]) (vn lf r lf (D2 lf r) a b c (ii 0) d f c (ii 0)))
theorem SL(K:KT):∀fu,vn lf r fu (K (.exit 1) [])=fun a b c d e f g h=>aP (cQ 56 (pb 6 11) lf r)
 SK fu (zp SK [a,b,c,d,e,f,g,h]) K
 |0=>jK
 |fu+1=>by have i:=SL K fu;funext a b c d e f g h;rw[vn];simp only[i];kernel_rfl
theorem agE:D2 lf r=((tK 56 (pb 5 11) lf r) (.exit 1) []):=jK
theorem SM:aD aa gt lf r 56 #[a,b,c]=inside (D3 lf r a b c):=by unfold D3;simp only[agE,SL];kernel_rfl
def vo(lf:Nat)(r:RT):Nat->(V->M V)->V->V->V->V->V->V->V->M V|0,_,_,_,_,_,_,_,_=> .fail|fu+1,k,a,b,c,d,e,f,g=>ak r 92 [e] fun h=>ek h fun i=>aK i (ak r 93 [e,(ii 1099511627776)] fun h=>vo lf r fu k a b c d e f g) (k e)
def SN:List Nat:=[0,2,3,4,5,6,15]
def D4(lf:Nat)(r:RT):(V->M V):=fun a=>ak r 94 [a] fun b=>bj b 0 fun c=>bj b 1 fun d=>aj [c,d,(ii 0)]
def Av(lf:Nat)(r:RT)(a:V):M V:=ak r 91 [a] fun b=>bj b 0 fun c=>bj b 1 fun d=>hC d (ii 0) fun b=>aK b (aj [(aZ {data:=#[]}),(ii 0),d]) (vo lf r lf (D4 lf r) a (aZ {data:=#[]}) (ii 0) (ii 0) c d b)
theorem SO(K:KT):∀fu,vo lf r fu (fun a=>K (.exit 0) (zp [5] [a]))=fun a b c d e f g=>aP (cQ 57 (pb 6 7) lf r)
 SN fu (zp SN [a,b,c,d,e,f,g]) K
 |0=>jK
 |fu+1=>by have h:=SO K fu;funext a b c d e f g;rw[vo];simp only[h];kernel_rfl
theorem agF:D4 lf r=(fun a=>(tK 57 (pb 5 7) lf r) (.exit 0) (zp [5] [a])):=jK
theorem JQ:aD aa gt lf r 57 #[a]=inside (Av lf r a):=by unfold Av;simp only[agF,SO];kernel_rfl
def JR(lf:Nat)(r:RT)(a:V):M V:=iU a nP (aj [(aZ {data:=#[]})]) (au a fun c=>aA 0 c fun e=>kZ e fun f=>au a fun c=>ba 0 c fun d=>bc d nS fun _=>aj [f])
theorem SP:aD aa gt lf r 58 #[a]=inside (JR lf r a):=jK
def JS(lf:Nat)(r:RT)(a b:V):M V:=au a fun c=>aA 0 c fun e=>kX b (i6 24) fun f=>ey .u32 f fun g=>ak r 56 [e,g,(ii 24)] fun h=>au a fun c=>aA 0 c fun e=>Dp b (i6 16777215) fun f=>ey .u32 f fun g=>ak r 56 [e,g,(ii 24)] fun h=>aj []
theorem SQ:aD aa gt lf r 59 #[a,b]=inside (JS lf r a b):=jK
def vp(lf:Nat)(r:RT):Nat->(M V)->V->M V|0,_,_=> .fail|fu+1,k,a=>An a nP (au a fun c=>aA 2 c fun e=>mN e (ii 8) fun f=>gQ f (ii 0) (ak r 90 [a,(i1 0)] fun b=>vp lf r fu k a) (k)) (k)
def SU:List Nat:=[0]
def D5(lf:Nat)(r:RT):(M V):=aj []
def D6(lf:Nat)(r:RT)(a:V):M V:=vp lf r lf (D5 lf r) a
theorem SV(K:KT):∀fu,vp lf r fu (K (.exit 0) [])=fun a=>aP (cQ 60 (pb 2 0) lf r) SU fu (zp SU [a]) K
 |0=>jK
 |fu+1=>by have b:=SV K fu;funext a;rw[vp];simp only[b];kernel_rfl
theorem agG:D5 lf r=((tK 60 (pb 1 0) lf r) (.exit 0) []):=jK
theorem SX:aD aa gt lf r 60 #[a]=inside (D6 lf r a):=by unfold D6;simp only[agG,SV];kernel_rfl
def vq(lf:Nat)(r:RT):Nat->(V->M V)->V->V->V->V->M V|0,_,_,_,_,_=> .fail|fu+1,k,a,b,c,d=>cS a fun e=>aW d e (gJ a d fun e=>ey .u32 e fun g=>ak r 80 [g,(ii 8)] fun h=>ar c h fun i=>ar d (ii 1) fun c=>vq lf r fu k a b i c) (k c)
def SY:List Nat:=[0,2,3,4]
def D7(lf:Nat)(r:RT):(V->M V):=fun a=>aj [a]
def JT(lf:Nat)(r:RT)(a:V):M V:=vq lf r lf (D7 lf r) a (aZ {data:=#[]}) (aZ {data:=#[]}) (ii 0)
theorem SZ(K:KT):∀fu,vq lf r fu (fun a=>K (.exit 0) (zp [3] [a]))=fun a b c d=>aP (cQ 61 (pb 6 11)
 lf r) SY fu (zp SY [a,b,c,d]) K
 |0=>jK
 |fu+1=>by have e:=SZ K fu;funext a b c d;rw[vq];simp only[e];kernel_rfl
theorem agH:D7 lf r=(fun a=>(tK 61 (pb 5 11) lf r) (.exit 0) (zp [3] [a])):=jK
theorem agJ:aD aa gt lf r 61 #[a]=inside (JT lf r a):=by unfold JT;simp only[agH,SZ];kernel_rfl
def vr(lf:Nat)(r:RT):Nat->(V->M V)->V->V->V->V->M V|0,_,_,_,_,_=> .fail|fu+1,k,a,b,c,d=>cS a fun e=>aW d e (jq (i3 2) c fun e=>gJ a d fun g=>bL g (i1 48) fun h=>ey .u32 h fun i=>ar e i fun j=>ar d (ii 1) fun c=>vr lf r fu k a b j c) (k c)
def S0:List Nat:=[0,2,3,4]
def D8(lf:Nat)(r:RT):(V->M V):=fun a=>aj [a]
def JU(lf:Nat)(r:RT)(a:V):M V:=vr lf r lf (D8 lf r) a (i3 0) (i3 0) (ii 0)
theorem S1(K:KT):∀fu,vr lf r fu (fun a=>K (.exit 0) (zp [3] [a]))=fun a b c d=>aP (cQ 62 (pb 6
 11) lf r) S0 fu (zp S0 [a,b,c,d]) K
 |0=>jK
 |fu+1=>by have e:=S1 K fu;funext a b c d;rw[vr];simp only[e];kernel_rfl
theorem agK:D8 lf r=(fun a=>(tK 62 (pb 5 11) lf r) (.exit 0) (zp [3] [a])):=jK
theorem agL:aD aa gt lf r 62 #[a]=inside (JU lf r a):=by unfold JU;simp only[agK,S1];kernel_rfl
def JV(lf:Nat)(r:RT)(a b:V):M V:=mM a (i6 1) fun c=>kX a (i6 31) fun d=>qZ c d fun e=>qZ e b fun f=>aj [f]
theorem S2:aD aa gt lf r 63 #[a,b]=inside (JV lf r a b):=jK
def JW(lf:Nat)(r:RT)(a b c d:V):M V:=iU a nP (aj [(ii 7)]) (cT b (aZ {data:=#[]}) (aj [(ii 1)]) (cS b fun g=>fi g (ii 900000) (aj [(ii 1)]) (aW c (ii 0) (aj [(ii 1)]) (cS b fun j=>hZ c j (aj [(ii 1)]) (ak r 95 [b] fun f=>ak r 96 [b,f] fun g=>bj g 0 fun h=>bj g 1 fun i=>cS f fun g=>ak r 97 [h,g] fun i=>bj i 0 fun j=>bj i 1 fun m=>cS f fun g=>ar g (ii 2) fun i=>ak r 98 [j,i] fun m=>bj m 0 fun n=>bj m 1 fun o=>gQ o (ii 0) (aj [o]) (ak r 56 [a,d,(ii 32)] fun i=>ak r 56 [a,(i3 0),(ii 1)] fun i=>ey .u32 c fun i=>ak r 56 [a,i,(ii 24)] fun m=>ak r 99 [a,f] fun i=>cS f fun i=>ar i (ii 2) fun m=>ak r 100 [a,j,m] fun n=>aj [n]))))))
theorem S3:aD aa gt lf r 64 #[a,b,c,d]=inside (JW lf r a b c d):=jK
def S4(lf:Nat)(r:RT)(a:V):M V:=fz 104 a fun b=>aA 0 b fun d=>ak r 101 [d] fun e=>aA 0 b fun d=>ak r 102 [d,e] fun f=>bj f 0 fun g=>bj f 1 fun h=>cS e fun c=>ak r 103 [g,c] fun d=>bj d 0 fun f=>bj d 1 fun h=>ba 2 b fun c=>(bx (aM c M.ret)).bind fun d=>(bx (ak r 80 [d.1,(ii 32)] M.ret)).bind fun h=>ar h.1 (aZ {data:=#[48]}) fun i=>ba 1 b fun j=>(bx (aM j M.ret)).bind fun l=>(bx (ey .u32 l.1 M.ret)).bind fun m=>(bx (ak r 80 [m.1,(ii 24)] M.ret)).bind fun n=>ar i n.1 fun o=>(bx (ak r 104 [e] M.ret)).bind fun p=>ar o p.1 fun q=>cS e fun s=>ar s (ii 2) fun t=>(bx (ak r 105 [f,t] M.ret)).bind fun u=>ar q u.1 fun v=>lT ((!(fs d.2 m.2)&&true)&&((!(fs h.2 l.2)&&(!(fs h.2 m.2)&&true))&&true)) (aj [v])
theorem agM:aD aa gt lf r 65 #[a]=inside (S4 lf r a):=jK
def S5(lf:Nat)(r:RT)(a:V):M V:=iU a nP (aj [(ii 0)]) (au a fun c=>aA 0 c fun e=>aT e fun f=>aj [f])
theorem agN:aD aa gt lf r 66 #[a]=inside (S5 lf r a):=jK
def S6(lf:Nat)(r:RT)(a:V):M V:=cU 116 z116 fun b=>ak r 113 [a] fun c=>ak r 112 [a,c] fun d=>b9 2 b d fun _=>bR 2 b fun a=>aj [a]
theorem agO:aD aa gt lf r 79 #[a]=inside (S6 lf r a):=jK
def vt(lf:Nat)(r:RT):Nat->(V->M V)->V->V->V->V->V->V->M V|0,_,_,_,_,_,_,_=> .fail|fu+1,k,a,b,c,d,e,f=>aW f e (mN a (i3 2) fun h=>mN a (i3 2) fun i=>ar i (i3 1) fun j=>gK (aZ {data:=#[48,49]}) (some h) (some j) fun l=>ar l d fun m=>iE a (i3 2) fun d=>ar f (ii 1) fun a=>vt lf r fu k d b c m e a) (k d)
def S7:List Nat:=[0,1,4,5,6,7]
def D9(lf:Nat)(r:RT):(V->M V):=fun a=>aj [a]
def JX(lf:Nat)(r:RT)(a b:V):M V:=vt lf r lf (D9 lf r) a b (aZ {data:=#[]}) (aZ {data:=#[]}) b (ii 0)
theorem S8(K:KT):∀fu,vt lf r fu (fun a=>K (.exit 0) (zp [5] [a]))=fun a b c d e f=>aP (cQ 80 (pb
 6 11) lf r) S7 fu (zp S7 [a,b,c,d,e,f]) K
 |0=>jK
 |fu+1=>by have g:=S8 K fu;funext a b c d e f;rw[vt];simp only[g];kernel_rfl
theorem agP:D9 lf r=(fun a=>(tK 80 (pb 5 11) lf r) (.exit 0) (zp [5] [a])):=jK
theorem agQ:aD aa gt lf r 80 #[a,b]=inside (JX lf r a b):=by unfold JX;simp only[agP,S8];kernel_rfl
def vu(lf:Nat)(r:RT):Nat->(V->M V)->V->V->V->V->V->V->M V|0,_,_,_,_,_,_,_=> .fail|fu+1,k,a,b,c,d,e,f=>aW f e (aO d f fun h=>aM h fun i=>ak r 114 [c,i] fun h=>ar f (ii 1) fun c=>vu lf r fu k a b h d e c) (k c)
def S9:List Nat:=[0,2,3,6,7,8]
def D'(lf:Nat)(r:RT):(V->M V):=fun a=>aj [a]
def JY(lf:Nat)(r:RT)(a:V):M V:=aT a fun b=>vu lf r lf (D' lf r) a (i3 0) (i3 0) a b (ii 0)
theorem S'(K:KT):∀fu,vu lf r fu (fun a=>K (.exit 0) (zp [3] [a]))=fun a b c d e f=>aP (cQ 81
 (pb 6 11) lf r) S9 fu (zp S9 [a,b,c,d,e,f]) K
 |0=>jK
 |fu+1=>by have g:=S' K fu;funext a b c d e f;rw[vu];simp only[g];kernel_rfl
theorem agR:D' lf r=(fun a=>(tK 81 (pb 5 11) lf r) (.exit 0) (zp [3] [a])):=jK
theorem agS:aD aa gt lf r 81 #[a]=inside (JY lf r a):=by unfold JY;simp only[agR,S'];kernel_rfl
def Ta(lf:Nat)(r:RT):M V:=ak r 115 [] fun a=>dz agf [(0,256,a),(256,1,(i3 4294967295))] fun b=>fz 161 b fun c=>aj [c]
theorem agT:aD aa gt lf r 82 #[]=inside (Ta lf r):=jK
def Tc(lf:Nat)(r:RT):M V:=dz RF [] fun a=>fz 163 a fun b=>aj [b]
theorem agU:aD aa gt lf r 83 #[]=inside (Tc lf r):=jK
def Td(lf:Nat)(r:RT)(a:V):M V:=cU 113 yg fun b=>iU a nP (dz yg [] fun d=>b9 2 b d fun _=>bR 2 b fun a=>aj [a]) (au a fun d=>ba 0 d fun e=>bR 2 e fun f=>b9 2 b f fun _=>bR 2 b fun a=>aj [a])
theorem agV:aD aa gt lf r 84 #[a]=inside (Td lf r a):=jK
def Te(lf:Nat)(r:RT)(a b:V):M V:=iU a nP (aj [(aZ {data:=#[]})]) (au a fun d=>ba 0 d fun e=>aA 1 e fun g=>fi g (ii 0) (au a fun i=>ba 0 i fun j=>aA 0 j fun m=>hC m b fun n=>(fun d=>aK n (ak r 116 [a] fun e=>d e) (d (aZ {data:=#[]}))) fun d=>au a fun e=>ba 0 e fun f=>ba 0 f fun g=>bc g b fun _=>au a fun e=>ba 0 e fun f=>aA 1 f fun h=>ar h (ii 1) fun i=>au a fun j=>ba 0 j fun l=>ba 1 l fun m=>bc m i fun _=>au a fun e=>ba 0 e fun f=>aA 1 f fun h=>cT h (ii 255) (ak r 116 [a] fun e=>ar d e fun f=>aj [f]) (aj [d])) (au a fun d=>ba 0 d fun e=>ba 0 e fun f=>bc f b fun _=>au a fun d=>ba 0 d fun e=>aA 1 e fun g=>ar g (ii 1) fun h=>au a fun i=>ba 0 i fun j=>ba 1 j fun l=>bc l h fun _=>au a fun d=>ba 0 d fun e=>aA 1 e fun g=>cT g (ii 255) (ak r 116 [a] fun d=>ar (aZ {data:=#[]}) d fun e=>aj [e]) (aj [(aZ {data:=#[]})])))
theorem agW:aD aa gt lf r 85 #[a,b]=inside (Te lf r a b):=jK
def Tf(lf:Nat)(r:RT)(a b c:V):M V:=fz 113 b fun d=>cU 42 lW fun e=>cU 42 lW fun f=>au a fun g=>ba 0 g fun h=>aA 0 h fun j=>aT j fun l=>ar l c fun m=>au a fun n=>aA 3 n fun p=>jr m p fun q=>(fun g=>aK q (au a fun h=>ba 0 h fun i=>ak r 88 [i] fun j=>bj j 0 fun l=>bj j 1 fun m=>b9 3 f l fun _=>g m) (g bF)) fun g=>au a fun h=>ba 0 h fun i=>bR 2 d fun j=>ak r 117 [i,j] fun l=>bR 3 f fun h=>b9 3 e h fun _=>bR 3 e fun a=>aj [a,g]
theorem agX:aD aa gt lf r 86 #[a,b,c]=inside (Tf lf r a b c):=jK
def Tg(lf:Nat)(r:RT)(a:V):M V:=iU a nP (aj [(aZ {data:=#[]})]) (ak r 116 [a] fun c=>aj [c])
theorem agY:aD aa gt lf r 87 #[a]=inside (Tg lf r a):=jK
def Th(lf:Nat)(r:RT)(a:V):M V:=cU 42 lW fun b=>au a fun c=>aA 0 c fun e=>aT e fun f=>cT f (ii 0) (dz lW [] fun c=>b9 3 b c fun _=>bR 3 b fun a=>aj [a,bF]) (au a fun c=>ba 0 c fun d=>(bx (aM d M.ret)).bind fun e=>(bx (kZ e.1 M.ret)).bind fun f=>au a fun h=>ba 1 h fun i=>(bx (aM i M.ret)).bind fun j=>(bx (ak r 118 [j.1] M.ret)).bind fun l=>au a fun m=>ba 2 m fun n=>(bx (aM n M.ret)).bind fun o=>dz lW [(0,1,f.1),(1,1,l.1),(2,1,o.1)] fun p=>(bx (cU 42 lW M.ret)).bind fun q=>(bx (b9 3 q.1 p M.ret)).bind fun s=>lT ((!(fs e.2 l.2)&&true)&&((!(fs f.2 j.2)&&(!(fs f.2 l.2)&&(!(fs f.2 o.2)&&(!(fs f.2 q.2)&&true))))&&((!(fs l.2 o.2)&&(!(fs l.2 q.2)&&true))&&true))) (au a fun c=>ba 0 c fun d=>bc d nS fun _=>au a fun c=>ba 2 c fun d=>bc d (ii 0) fun _=>au a fun c=>aA 1 c fun e=>ak r 119 [e] fun f=>bR 3 q.1 fun c=>b9 3 b c fun _=>bR 3 b fun a=>aj [a,bT]))
theorem agZ:aD aa gt lf r 88 #[a]=inside (Th lf r a):=jK
def JZ(lf:Nat)(r:RT)(a b:V):M V:=hZ b (ii 0) (ye b (ii 32) (ey .u64 a fun e=>kX e b fun f=>ej f (i6 0) fun g=>aj [g]) (aj [bF])) (aj [bF])
theorem Ti:aD aa gt lf r 89 #[a,b]=inside (JZ lf r a b):=jK
def J0(lf:Nat)(r:RT)(a b:V):M V:=au a fun c=>aA 2 c fun e=>mN e (ii 8) fun f=>au a fun c=>aA 1 c fun e=>bL (ii 7) f fun g=>mM b g fun h=>zT e h fun i=>au a fun j=>ba 1 j fun l=>bc l i fun _=>au a fun c=>aA 2 c fun e=>ar e (ii 1) fun g=>au a fun h=>ba 2 h fun i=>bc i g fun _=>cT f (ii 7) (au a fun d=>aA 0 d fun g=>au a fun h=>aA 1 h fun j=>bV 5 1 j fun l=>bH 5 1 g l fun m=>au a fun n=>ba 0 n fun o=>bc o m fun _=>au a fun d=>ba 1 d fun e=>bc e (i1 0) fun _=>aj []) (aj [])
theorem Tj:aD aa gt lf r 90 #[a,b]=inside (J0 lf r a b):=jK
def Ea(lf:Nat)(r:RT)(a:V):M V:=cT a (aZ {data:=#[]}) (aj [nP,(ii 1)]) (ak r 120 [a] fun c=>bj c 0 fun d=>bj c 1 fun e=>gQ e (ii 0) (aj [nP,e]) (dz RD [(0,1,a),(1,1,d)] fun f=>fz 155 f fun g=>aj [g,(ii 0)]))
theorem J1:aD aa gt lf r 91 #[a]=inside (Ea lf r a):=jK
def J2(lf:Nat)(r:RT)(a:V):M V:=An a nP (au a fun c=>aA 3 c fun e=>aT e fun f=>au a fun g=>aA 0 g fun i=>cS i fun j=>ej f j fun l=>aj [l]) (aj [bF])
theorem Tl:aD aa gt lf r 92 #[a]=inside (J2 lf r a):=jK
def oW(lf:Nat)(r:RT):Nat->(V->M V)->V->V->V->V->V->V->M V|0,_,_,_,_,_,_,_=> .fail|fu+1,k,a,b,c,d,e,f=>au a fun g=>aA 1 g fun i=>ak r 122 [i] fun j=>aK j (aW d b (ak r 92 [a] fun m=>ek m fun n=>aK n (ak r 124 [a] fun g=>ar d (ii 1) fun g=>oW lf r fu k a b c g e f) (k d)) (k d)) (k d)
def Tn:List Nat:=[0,1,4,5,11,29]
def qb(lf:Nat)(r:RT):(V->M V):=fun a=>aj [a]
def Eb(lf:Nat)(r:RT)(a b:V):M V:=iU a nP (aj [(ii 0)]) (cE b (ii 1) fun d=>aK d (aj [(ii 0)]) (au a fun c=>aA 1 c fun f=>ak r 121 [f,b] fun g=>au a fun c=>aA 2 c fun f=>Rz f nS (au a fun i=>aA 1 i fun l=>ak r 122 [l] fun m=>aK m (au a fun c=>aA 1 c fun f=>ak r 123 [f] fun h=>au a fun i=>ba 2 i fun j=>bc j h fun _=>oW lf r lf (qb lf r) a b (ii 0) g d m) (oW lf r lf (qb lf r) a b (ii 0) g d m)) (oW lf r lf (qb lf r) a b (ii 0) g d bF)))
theorem To(K:KT):∀fu,oW lf r fu (fun a=>K (.exit 0) (zp [5] [a]))=fun a b c d e f=>aP (cQ 93 (pb 7
 15) lf r) Tn fu (zp Tn [a,b,c,d,e,f]) K
 |0=>jK
 |fu+1=>by have g:=To K fu;funext a b c d e f;rw[oW];simp only[g];kernel_rfl
theorem ag0:qb lf r=(fun a=>(tK 93 (pb 6 15) lf r) (.exit 0) (zp [5] [a])):=jK
theorem Tp:aD aa gt lf r 93 #[a,b]=inside (Eb lf r a b):=by unfold Eb;simp only[ag0,To];kernel_rfl
def J3(lf:Nat)(r:RT)(a:V):M V:=ak r 92 [a] fun b=>ek b fun c=>aK c (aj [(aZ {data:=#[]}),(ii 0)]) (au a fun b=>ba 3 b fun d=>(bx (aM d M.ret)).bind fun e=>(bx (kZ e.1 M.ret)).bind fun f=>au a fun g=>ba 4 g fun h=>(bx (aM h M.ret)).bind fun i=>lT ((!(fs f.2 i.2)&&true)&&true) (aj [f.1,i.1]))
theorem Tq:aD aa gt lf r 94 #[a]=inside (J3 lf r a):=jK
def vv(lf:Nat)(r:RT):Nat->(V->M V)->V->V->V->V->V->M V|0,_,_,_,_,_,_=> .fail|fu+1,k,a,b,c,d,e=>aW e d (gJ a e fun g=>gu 256 c g fun h=>bc h bT fun _=>ar e (ii 1) fun g=>vv lf r fu k a b c d g) (k c)
def Ts:List Nat:=[0,2,3,6,7]
def Ec(lf:Nat)(r:RT):(V->M V):=fun a=>bR 256 a fun b=>ak r 125 [b] fun c=>aj [c]
def Ed(lf:Nat)(r:RT)(a:V):M V:=cU 169 JD fun b=>cS a fun c=>vv lf r lf (Ec lf r) a (aZ {data:=#[]}) b c (ii 0)
theorem Tt(K:KT):∀fu,vv lf r fu (fun a=>K (.exit 0) (zp [3] [a]))=fun a b c d e=>aP (cQ 95 (pb 6 11) lf
 r) Ts fu (zp Ts [a,b,c,d,e]) K
 |0=>jK
 |fu+1=>by have f:=Tt K fu;funext a b c d e;rw[vv];simp only[f];kernel_rfl
theorem ag1:Ec lf r=(fun a=>(tK 95 (pb 5 11) lf r) (.exit 0) (zp [3] [a])):=jK
theorem Tu:aD aa gt lf r 95 #[a]=inside (Ed lf r a):=by unfold Ed;simp only[ag1,Tt];kernel_rfl
def vw(lf:Nat)(r:RT):Nat->((V->M V)×(V->V->M V))->V->V->V->V->V->V->V->V->V->V->M V|0,_,_,_,_,_,_,_,_,_,_,_=> .fail|fu+1,k,a,b,c,d,e,f,g,h,i,j=>aW j i (gJ a j fun m=>ak r 127 [e,m] fun n=>bj n 0 fun o=>bj n 1 fun p=>gQ p (ii 0) (k.2 nS p) (aO g j fun n=>bc n o fun _=>ar j (ii 1) fun n=>vw lf r fu k a b c d e f g h i n)) (k.1 g)
def Tv:List Nat:=[0,1,4,5,6,7,8,18,24,25]
def Ee(lf:Nat)(r:RT):(V->M V)×(V->V->M V):=(fun a=>aj [a,(ii 0)],fun a b=>aj [a,b])
def Ef(lf:Nat)(r:RT)(a b:V):M V:=ak r 126 [b] fun c=>bj c 0 fun d=>bj c 1 fun e=>hC e (ii 0) fun c=>aK c (aj [nS,e]) (cS a fun f=>gP 3 [(ii 0)] f f fun g=>aT g fun f=>vw lf r lf (Ee lf r) a b nS (ii 0) d e g c f (ii 0))
theorem Tw(K:KT):∀fu,vw lf r fu ((fun a=>K (.exit 0) (zp [8] [a]),fun a b=>K .ret (zp [4,5] [a,b])))=fun a b
 c d e f g h i j=>aP (cQ 96 (pb 8 47) lf r) Tv fu (zp Tv [a,b,c,d,e,f,g,h,i,j]) K
 |0=>jK
 |fu+1=>by have k:=Tw K fu;funext a b c d e f g h i j;rw[vw];simp only[k];kernel_rfl
theorem ag2:Ee lf r=((fun a=>(tK 96 (pb 7 47) lf r) (.exit 0) (zp [8] [a]),fun a b=>(tK 96 (pb 7 47) lf r) .ret (zp [4,5] [a,b]))):=jK
theorem Tx:aD aa gt lf r 96 #[a,b]=inside (Ef lf r a b):=by unfold Ef;simp only[ag2,Tw];kernel_rfl
def s9(lf:Nat)(r:RT):Nat->((V->V->V->M V)×(V->V->M V))->V->V->V->V->V->V->V->V->V->V->M V|0,_,_,_,_,_,_,_,_,_,_,_=> .fail|fu+1,k,a,b,c,d,e,f,g,h,i,j=>aW j i (aO h j fun m=>aM m fun n=>aW n (ii 0) (k.2 nS (ii 1)) (hZ n b (k.2 nS (ii 1)) (cT n (ii 0) (ar f (ii 1) fun p=>ar j (ii 1) fun f=>s9 lf r fu k a b c d e p g h i f) (ak r 129 [f] fun p=>bH 3 1 e p fun q=>ar n (ii 1) fun e=>bV 3 1 e fun p=>bH 3 1 q p fun s=>ar j (ii 1) fun e=>s9 lf r fu k a b c d s (ii 0) g h i e)))) (k.1 b e f)
def Ty:List Nat:=[0,1,4,5,6,7,12,13,14,15]
def Eg(lf:Nat)(r:RT):(V->V->V->M V)×(V->V->M V):=(fun a b c=>ak r 129 [c] fun d=>bH 3 1 b d fun e=>ar a (ii 1) fun b=>bV 3 1 b fun d=>bH 3 1 e d fun f=>aj [f,(ii 0)],fun a b=>aj [a,b])
def Eh(lf:Nat)(r:RT)(a b:V):M V:=ak r 128 [b] fun c=>ek c fun d=>aK d (aj [nS,(ii 1)]) (aT a fun c=>s9 lf r lf (Eg lf r) a b nS (ii 0) nS (ii 0) d a c (ii 0))
theorem Tz(K:KT):∀fu,s9 lf r fu ((fun a b c=>K (.exit 0) (zp [1,6,7] [a,b,c]),fun a b=>K .ret (zp [4,5]
 [a,b])))=fun a b c d e f g h i j=>aP (cQ 97 (pb 8 47) lf r) Ty fu (zp Ty [a,b,c,d,e,f,g,h,i,j]) K
 |0=>jK
 |fu+1=>by have k:=Tz K fu;funext a b c d e f g h i j;rw[s9];simp only[k];kernel_rfl
theorem ag3:Eg lf r=((fun a b c=>(tK 97 (pb 7 47) lf r) (.exit 0) (zp [1,6,7] [a,b,c]),fun a b=>(tK 97 (pb 7
 47) lf r) .ret (zp [4,5] [a,b]))):=by kernel_rfl
theorem TA:aD aa gt lf r 97 #[a,b]=inside (Eh lf r a b):=by unfold Eh;simp only[ag3,Tz];kernel_rfl
def vx(lf:Nat)(r:RT):Nat->(V->V->V->M V)->V->V->V->V->V->V->V->V->V->V->V->M V|0,_,_,_,_,_,_,_,_,_,_,_,_=> .fail|fu+1,k,a,b,c,d,e,f,g,h,i,j,l=>aW l j (aO i l fun n=>aM n fun o=>ak r 132 [o] fun n=>bj n 0 fun p=>bj n 1 fun q=>ar g p fun n=>ar l (ii 1) fun g=>vx lf r fu k a b c d e f n h i j g) (k a e g)
def TB:List Nat:=[0,1,4,5,6,7,8,23,35,36,37]
def J4(lf:Nat)(r:RT):(V->V->V->M V):=fun a b c=>bR 2 b fun d=>ak r 133 [a,d] fun e=>bj e 0 fun f=>bj e 1 fun g=>ar c f fun d=>aj [d,(ii 0)]
def Ei(lf:Nat)(r:RT)(a b:V):M V:=ak r 130 [a,b] fun c=>bj c 0 fun d=>bj c 1 fun e=>cU 178 mP fun f=>b9 2 f d fun _=>hC e (ii 0) fun c=>aK c (aj [(ii 0),e]) (aA 1 f fun g=>aA 0 f fun i=>aT i fun j=>ak r 131 [g,j] fun l=>bj l 0 fun m=>bj l 1 fun n=>aA 0 f fun g=>aT g fun h=>vx lf r lf (J4 lf r) a b (ii 0) (ii 0) f e m c g h (ii 0))
theorem TC(K:KT):∀fu,vx lf r fu (fun a b c=>K (.exit 0) (zp [0,6,8] [a,b,c]))=fun a b c d e f g h i j l=>aP
 (cQ 98 (pb 8 47) lf r) TB fu (zp TB [a,b,c,d,e,f,g,h,i,j,l]) K
 |0=>jK
 |fu+1=>by have k:=TC K fu;funext a b c d e f g h i j l;rw[vx];simp only[k];kernel_rfl
theorem ag4:J4 lf r=(fun a b c=>(tK 98 (pb 7 47) lf r) (.exit 0) (zp [0,6,8] [a,b,c])):=jK
theorem TD:aD aa gt lf r 98 #[a,b]=inside (Ei lf r a b):=by unfold Ei;simp only[ag4,TC];kernel_rfl
def rm(lf:Nat)(r:RT):Nat->(V->V->V->V->V->V->V->V->V->V->M V)->V->V->V->V->V->V->V->V->V->M V|0,_,_,_,_,_,_,_,_,_,_=> .fail|fu+1,k,a,b,c,d,e,f,g,h,i=>cE i (ii 16) fun j=>aK j (sS 16 h i fun l=>gQ l (i3 0) (bL (ii 15) i fun n=>mM (i3 1) n fun o=>zT e o fun p=>ar i (ii 1) fun e=>rm lf r fu k a b c d p f g h e) (ar i (ii 1) fun n=>rm lf r fu k a b c d e f g h n)) (k a b c d e f g h i j)
def TE:List Nat:=[0,1,4,5,6,11,14,20,21]
def rq(lf:Nat)(r:RT):Nat->(M V)->V->V->V->V->V->V->V->V->V->V->V->V->M V|0,_,_,_,_,_,_,_,_,_,_,_,_,_=> .fail|fu+1,k,a,b,c,d,e,f,g,h,i,j,l,m=>aW m (ii 16) (sS 16 l m fun o=>gQ o (i3 0) (ak r 56 [a,o,(ii 16)] fun q=>ar m (ii 1) fun q=>rq lf r fu k a b c d e f g h i j l q) (ar m (ii 1) fun q=>rq lf r fu k a b c d e f g h i j l q)) (k)
def TF:List Nat:=[0,1,4,5,6,11,14,20,21,22,36,37]
def Aw(lf:Nat)(r:RT):(M V):=aj [(ii 0)]
def yi(lf:Nat)(r:RT):(V->V->V->V->V->V->V->V->V->V->M V):=fun a b c d e f g h i j=>ak r 56 [a,e,(ii 16)] fun l=>bR 16 d fun l=>rq lf r lf (Aw lf r) a b c d e f g h i j l (ii 0)
def Ej(lf:Nat)(r:RT)(a b:V):M V:=p5 a nP fun c=>aK c (aj [(ii 7)]) (ak r 134 [b] fun d=>ek d fun e=>aK e (aj [(ii 1)]) (ak r 135 [b] fun d=>cU 184 p9 fun f=>b9 16 f d fun _=>bR 16 f fun d=>rm lf r lf (yi lf r) a b (ii 0) f (i3 0) c e d (ii 0)))
theorem TG(K:KT):∀fu,rm lf r fu (fun a b c d e f g h i j=>K (.exit 1) (zp [0,1,4,5,6,11,14,20,21,22] [a,b,
 c,d,e,f,g,h,i,j]))=fun a b c d e f g h i=>aP (cQ 99 (pb 8 47) lf r) TE fu (zp TE [a,b,c,d,e,f,g,h,i]) K
 |0=>jK
 |fu+1=>by have k:=TG K fu;funext a b c d e f g h i;rw[rm];simp only[k];kernel_rfl
theorem J5(K:KT):∀fu,rq lf r fu (K (.exit 3) [])=fun a b c d e f g h i j l m=>aP (cQ 99 (pb 10 191) lf r)
 TF fu (zp TF [a,b,c,d,e,f,g,h,i,j,l,m]) K
 |0=>jK
 |fu+1=>by have k:=J5 K fu;funext a b c d e f g h i j l m;rw[rq];simp only[k];kernel_rfl
theorem TH:Aw lf r=((tK 99 (pb 9 191) lf r) (.exit 3) []):=jK
theorem ag5:yi lf r=(fun a b c d e f g h i j=>(tK 99 (pb 7 47) lf r) (.exit 1) (zp [0,1,4,5,6,11,14,20,21,22] [a,b,c,d,e,f,g,h,i,j])):=by unfold yi;simp only[TH,J5];kernel_rfl
theorem TI:aD aa gt lf r 99 #[a,b]=inside (Ej lf r a b):=by unfold Ej;simp only[ag5,TH,TG,J5];kernel_rfl
def vz(lf:Nat)(r:RT):Nat->(V->V->V->V->V->V->V->V->V->V->V->V->V->M V)->V->V->V->V->V->V->V->V->V->V->V->V->M V|0,_,_,_,_,_,_,_,_,_,_,_,_,_=> .fail|fu+1,k,a,b,c,d,e,f,g,h,i,j,l,m=>cE m l fun n=>aK n (aO j m fun o=>aM o fun p=>ak r 137 [a,p] fun o=>ak r 138 [p] fun o=>bj o 0 fun q=>bj o 1 fun s=>bV 188 1 q fun o=>bH 188 1 g o fun s=>ar m (ii 1) fun g=>vz lf r fu k a b c d e f s h i j l g) (k a b c d e f g h i j l m n)
def TJ:List Nat:=[0,1,2,6,7,8,9,17,25,35,36,37]
def vA(lf:Nat)(r:RT):Nat->(M V)->V->V->V->V->V->V->V->V->V->V->V->V->V->V->V->V->M V|0,_,_,_,_,_,_,_,_,_,_,_,_,_,_,_,_,_=> .fail|fu+1,k,a,b,c,d,e,f,g,h,i,j,l,m,n,o,p,q=>aW q p (aO o q fun t=>aM t fun u=>aA 1 e fun v=>iE q (ii 50) fun w=>aO v w fun x=>aM x fun y=>aO g y fun z=>aM z fun A=>ak r 139 [A,a,u] fun B=>ar q (ii 1) fun t=>vA lf r fu k a b c d e f g h i j l m n o p t) (k)
def TK:List Nat:=[0,1,2,6,7,8,9,17,25,35,36,37,38,54,55,56]
def Ek(lf:Nat)(r:RT):(M V):=aj [(ii 0)]
def El(lf:Nat)(r:RT):(V->V->V->V->V->V->V->V->V->V->V->V->V->M V):=fun a b c d e f g h i j l m n=>aT b fun o=>vA lf r lf (Ek lf r) a b c d e f g h i j l m n b o (ii 0)
def Em(lf:Nat)(r:RT)(a b c:V):M V:=p5 a nP fun d=>aK d (aj [(ii 7)]) (ak r 130 [b,c] fun e=>bj e 0 fun f=>bj e 1 fun g=>cU 178 mP fun h=>b9 2 h f fun _=>hC g (ii 0) fun e=>aK e (aj [g]) (aA 1 h fun i=>aA 0 h fun l=>aT l fun m=>ak r 136 [a,i,m] fun n=>aA 0 h fun i=>aT i fun j=>vz lf r lf (El lf r) a b c (ii 0) h g nS d e i j (ii 0)))
theorem TL(K:KT):∀fu,vz lf r fu (fun a b c d e f g h i j l m n=>K (.exit 0) (zp [0,1,2,6,7,8,9,17,25,35,
 36,37,38] [a,b,c,d,e,f,g,h,i,j,l,m,n]))=fun a b c d e f g h i j l m=>aP (cQ 100 (pb 10 191) lf r) TJ fu (zp TJ [a,b,c,d,e,f,g,h,i,j,l,m]) K
 |0=>jK
 |fu+1=>by have k:=TL K fu;funext a b c d e f g h i j l m;rw[vz];simp only[k];kernel_rfl
theorem J6(K:KT):∀fu,vA lf r fu (K (.exit 2) [])=fun a b c d e f g h i j l m n o p q=>aP (cQ 100 (pb 11 383) lf
 r) TK fu (zp TK [a,b,c,d,e,f,g,h,i,j,l,m,n,o,p,q]) K
 |0=>jK
 |fu+1=>by have k:=J6 K fu;funext a b c d e f g h i j l m n o p q;rw[vA];simp only[k];kernel_rfl
theorem TM:Ek lf r=((tK 100 (pb 10 383) lf r) (.exit 2) []):=jK
theorem ag6:El lf r=(fun a b c d e f g h i j l m n=>(tK 100 (pb 9 191) lf r) (.exit 0) (zp [0,1,2,6,7,8,9,17,25,
 35,36,37,38] [a,b,c,d,e,f,g,h,i,j,l,m,n])):=by
 unfold El;simp only[TM,J6];kernel_rfl
theorem TN:aD aa gt lf r 100 #[a,b,c]=inside (Em lf r a b c):=by unfold Em;simp only[ag6,TM,TL,J6];kernel_rfl
def tc(lf:Nat)(r:RT):Nat->(V->M V)->V->V->V->V->M V|0,_,_,_,_,_=> .fail|fu+1,k,a,b,c,d=>aW d (ii 256) (ak r 140 [a,d] fun f=>aK f (ey .u8 d fun g=>bV 5 1 g fun h=>kZ h fun i=>ar c i fun j=>ar d (ii 1) fun c=>tc lf r fu k a b j c) (ar d (ii 1) fun g=>tc lf r fu k a b c g)) (k c)
def TO:List Nat:=[0,2,3,5]
def Eo(lf:Nat)(r:RT):(V->M V):=fun a=>aj [a]
def J7(lf:Nat)(r:RT)(a:V):M V:=tc lf r lf (Eo lf r) a (aZ {data:=#[]}) (aZ {data:=#[]}) (ii 0)
theorem TP(K:KT):∀fu,tc lf r fu (fun a=>K (.exit 0) (zp [3] [a]))=fun a b c d=>aP (cQ 101 (pb
 6 11) lf r) TO fu (zp TO [a,b,c,d]) K
 |0=>jK
 |fu+1=>by have e:=TP K fu;funext a b c d;rw[tc];simp only[e];kernel_rfl
theorem ag7:Eo lf r=(fun a=>(tK 101 (pb 5 11) lf r) (.exit 0) (zp [3] [a])):=jK
theorem ag8:aD aa gt lf r 101 #[a]=inside (J7 lf r a):=by unfold J7;simp only[ag7,TP];kernel_rfl
def vB(lf:Nat)(r:RT):Nat->((V->M V)×(V->V->M V))->V->V->V->V->V->V->V->V->M V|0,_,_,_,_,_,_,_,_,_=> .fail|fu+1,k,a,b,c,d,e,f,g,h=>cS a fun i=>aW g i (gJ a g fun i=>ak r 142 [f,i] fun l=>aW l (ii 0) (k.2 nS (ii 6)) (bV 3 1 l fun m=>bH 3 1 e m fun n=>ak r 143 [f,l] fun e=>ar g (ii 1) fun f=>vB lf r fu k a b c d n e f h)) (k.1 e)
def TQ:List Nat:=[0,1,4,5,6,7,8,12]
def Ep(lf:Nat)(r:RT):(V->M V)×(V->V->M V):=(fun a=>aj [a,(ii 0)],fun a b=>aj [a,b])
def J8(lf:Nat)(r:RT)(a b:V):M V:=ak r 141 [b] fun c=>ek c fun d=>aK d (aj [nS,(ii 1)]) (vB lf r lf (Ep lf r) a b nS (ii 0) nS b (ii 0) d)
theorem TR(K:KT):∀fu,vB lf r fu ((fun a=>K (.exit 0) (zp [6] [a]),fun a b=>K .ret (zp [4,5] [a,
 b])))=fun a b c d e f g h=>aP (cQ 102 (pb 8 47) lf r) TQ fu (zp TQ [a,b,c,d,e,f,g,h]) K
 |0=>jK
 |fu+1=>by have i:=TR K fu;funext a b c d e f g h;rw[vB];simp only[i];kernel_rfl
theorem ag9:Ep lf r=((fun a=>(tK 102 (pb 7 47) lf r) (.exit 0) (zp [6] [a]),fun a b=>(tK 102 (pb 7 47)
 lf r) .ret (zp [4,5] [a,b]))):=by kernel_rfl
theorem ag':aD aa gt lf r 102 #[a,b]=inside (J8 lf r a b):=by unfold J8;simp only[ag9,TR];kernel_rfl
def td(lf:Nat)(r:RT):Nat->((V->V->V->M V)×(V->V->M V))->V->V->V->V->V->V->V->V->V->V->M V|0,_,_,_,_,_,_,_,_,_,_,_=> .fail|fu+1,k,a,b,c,d,e,f,g,h,i,j=>aW j i (aO h j fun m=>aM m fun n=>aW n (ii 0) (k.2 nS (ii 1)) (hZ n b (k.2 nS (ii 1)) (cT n (ii 0) (ar f (ii 1) fun p=>ar j (ii 1) fun f=>td lf r fu k a b c d e p g h i f) (ak r 144 [f] fun p=>bH 3 1 e p fun q=>ar n (ii 1) fun e=>bV 3 1 e fun p=>bH 3 1 q p fun s=>ar j (ii 1) fun e=>td lf r fu k a b c d s (ii 0) g h i e)))) (k.1 b e f)
def TU:List Nat:=[0,1,4,5,6,7,15,16,17,18]
def Er(lf:Nat)(r:RT):(V->V->V->M V)×(V->V->M V):=(fun a b c=>ak r 144 [c] fun d=>bH 3 1 b d fun e=>ar a (ii 1) fun b=>bV 3 1 b fun d=>bH 3 1 e d fun f=>aj [f,(ii 0)],fun a b=>aj [a,b])
def J9(lf:Nat)(r:RT)(a b:V):M V:=aW b (ii 1) (aj [nS,(ii 1)]) (jr b (ii 256) fun d=>aK d (aj [nS,(ii 1)]) (aT a fun c=>td lf r lf (Er lf r) a b nS (ii 0) nS (ii 0) d a c (ii 0)))
theorem TV(K:KT):∀fu,td lf r fu ((fun a b c=>K (.exit 0) (zp [1,6,7] [a,b,c]),fun a b=>K .ret
 (zp [4,5] [a,b])))=fun a b c d e f g h i j=>aP (cQ 103 (pb 8 47) lf r) TU fu (zp TU [a,b,c,d,e,f,g,h,i,j]) K
 |0=>jK
 |fu+1=>by have k:=TV K fu;funext a b c d e f g h i j;rw[td];simp only[k];kernel_rfl
theorem ag_:Er lf r=((fun a b c=>(tK 103 (pb 7 47) lf r) (.exit 0) (zp [1,6,7] [a,b,c]),fun a b=>(tK 103 (pb 7 47) lf r) .ret (zp [4,5] [a,b]))):=by kernel_rfl
theorem aha:aD aa gt lf r 103 #[a,b]=inside (J9 lf r a b):=by unfold J9;simp only[ag_,TV];kernel_rfl
def te(lf:Nat)(r:RT):Nat->(V->V->V->V->V->V->V->M V)->V->V->V->V->V->V->V->V->V->V->M V|0,_,_,_,_,_,_,_,_,_,_,_=> .fail|fu+1,k,a,b,c,d,e,f,g,h,i,j=>aW j (ii 16) (jq (ii 16) e fun m=>ar m j fun n=>ak r 140 [a,n] fun o=>aK o (ar f (aZ {data:=#[49]}) fun m=>ar j (ii 1) fun f=>te lf r fu k a b c d e m bT h i f) (ar f (aZ {data:=#[48]}) fun m=>ar j (ii 1) fun f=>te lf r fu k a b c d e m g h i f)) (k a b c d f g h)
def TW:List Nat:=[0,2,3,4,5,6,7,9,10,12]
def Es(lf:Nat)(r:RT)(k:(V->V->M V))(i:V->V->V->V->V->M V):(V->V->V->V->V->V->V->M V):=fun a b c d e f g=>aK f (ar c (aZ {data:=#[49]}) fun h=>ar d e fun c=>ar g (ii 1) fun d=>i a b h c d) (ar c (aZ {data:=#[48]}) fun h=>ar g (ii 1) fun c=>i a b h d c)
def tf(lf:Nat)(r:RT):Nat->(V->V->M V)->V->V->V->V->V->M V|0,_,_,_,_,_,_=> .fail|fu+1,k,a,b,c,d,e=>cE e (ii 16) fun f=>aK f (te lf r lf (Es lf r k (tf lf r fu k)) a b c d e (aZ {data:=#[]}) bF e f (ii 0)) (k c d)
def Ax:List Nat:=[0,2,3,4,9]
abbrev TX(lf:Nat)(r:RT)(a:Nat)(k:(V->V->M V)):(V->V->V->V->V->V->V->M V):=Es lf r k (tf lf r a k)
def Ay(lf:Nat)(r:RT):(V->V->M V):=fun a b=>ar a b fun c=>aj [c]
def J'(lf:Nat)(r:RT)(a:V):M V:=tf lf r lf (Ay lf r) a (aZ {data:=#[]}) (aZ {data:=#[]}) (aZ {data:=#[]}) (ii 0)
theorem TY(K:KT):∀fu,te lf r fu (fun a b c d e f g=>K (.exit 2) (zp [0,2,3,4,6,7,9] [a,b,c,d,e,
 f,g]))=fun a b c d e f g h i j=>aP (cQ 104 (pb 18 47511) lf r) TW fu (zp TW [a,b,c,d,e,f,g,h,i,j]) K
 |0=>jK
 |fu+1=>by have k:=TY K fu;funext a b c d e f g h i j;rw[te];simp only[k];kernel_rfl
theorem ahb(K:KT)(h:Nat):Es lf r (fun a b=>K (.exit 0) (zp [3,4] [a,b])) (fun a b c d e=>aP (cQ
 104 (pb 7 23) lf r) Ax h (zp Ax [a,b,c,d,e]) K)=(fun a b c d e f g=>(iK 104 (pb 7 23) (pb 10 371) Ax h K lf
 r) (.exit 2) (zp [0,2,3,4,6,7,9] [a,b,c,d,e,f,g])):=by kernel_rfl
theorem TZ(K:KT):∀fu,tf lf r fu (fun a b=>K (.exit 0) (zp [3,4] [a,b]))=fun a b c d e=>aP (cQ 104
 (pb 7 23) lf r) Ax fu (zp Ax [a,b,c,d,e]) K
 |0=>jK
 |fu+1=>by have f:=TZ K fu;funext a b c d e;rw[tf];simp only[f,ahb,TY];kernel_rfl
theorem ahc:Ay lf r=(fun a b=>(tK 104 (pb 6 23) lf r) (.exit 0) (zp [3,4] [a,b])):=jK
theorem ahd:aD aa gt lf r 104 #[a]=inside (J' lf r a):=by unfold J';simp only[ahc,TZ];kernel_rfl
def vC(lf:Nat)(r:RT):Nat->(V->V->V->V->V->V->V->V->V->V->M V)->V->V->V->V->V->V->V->V->V->M V|0,_,_,_,_,_,_,_,_,_,_=> .fail|fu+1,k,a,b,c,d,e,f,g,h,i=>cE i h fun j=>aK j (aO g i fun l=>aM l fun m=>ak r 147 [m] fun l=>ar e l fun n=>ak r 148 [m] fun e=>bV 199 1 e fun l=>bH 199 1 f l fun o=>ar i (ii 1) fun e=>vC lf r fu k a b c d n o g h e) (k a b c d e f g h i j)
def T':List Nat:=[0,1,4,5,6,7,22,23,24]
def vD(lf:Nat)(r:RT):Nat->(V->M V)->V->V->V->V->V->V->V->V->V->V->V->V->V->M V|0,_,_,_,_,_,_,_,_,_,_,_,_,_,_=> .fail|fu+1,k,a,b,c,d,e,f,g,h,i,j,l,m,n=>aW n m (aO l n fun p=>aM p fun q=>aA 1 d fun s=>iE n (ii 50) fun t=>aO s t fun u=>aM u fun v=>aO f v fun w=>aM w fun x=>aO x q fun y=>aM y fun z=>ar e z fun A=>ar n (ii 1) fun e=>vD lf r fu k a b c d A f g h i j l m e) (k e)
def Ua:List Nat:=[0,1,4,5,6,7,22,23,24,25,38,39,40]
def Et(lf:Nat)(r:RT):(V->M V):=fun a=>aj [a]
def Eu(lf:Nat)(r:RT):(V->V->V->V->V->V->V->V->V->V->M V):=fun a b c d e f g h i j=>aT a fun l=>vD lf r lf (Et lf r) a b c d e f g h i j a l (ii 0)
def Ka(lf:Nat)(r:RT)(a b:V):M V:=ak r 145 [a,b] fun c=>cU 195 yh fun d=>b9 2 d c fun _=>aA 1 d fun e=>aA 0 d fun g=>aT g fun h=>ak r 146 [e,h] fun i=>aA 0 d fun e=>aT e fun f=>vC lf r lf (Eu lf r) a b (aZ {data:=#[]}) d i nS e f (ii 0)
theorem Ub(K:KT):∀fu,vC lf r fu (fun a b c d e f g h i j=>K (.exit 0) (zp [0,1,4,5,6,7,22,23,24,
 25] [a,b,c,d,e,f,g,h,i,j]))=fun a b c d e f g h i=>aP (cQ 105 (pb 8 47) lf r) T' fu (zp T' [a,b,c,d,e,f,g,h,i]) K
 |0=>jK
 |fu+1=>by have k:=Ub K fu;funext a b c d e f g h i;rw[vC];simp only[k];kernel_rfl
theorem Kb(K:KT):∀fu,vD lf r fu (fun a=>K (.exit 2) (zp [6] [a]))=fun a b c d e f g h i j l m n=>aP
 (cQ 105 (pb 9 95) lf r) Ua fu (zp Ua [a,b,c,d,e,f,g,h,i,j,l,m,n]) K
 |0=>jK
 |fu+1=>by have k:=Kb K fu;funext a b c d e f g h i j l m n;rw[vD];simp only[k];kernel_rfl
theorem Uc:Et lf r=(fun a=>(tK 105 (pb 8 95) lf r) (.exit 2) (zp [6] [a])):=jK
theorem ahe:Eu lf r=(fun a b c d e f g h i j=>(tK 105 (pb 7 47) lf r) (.exit 0) (zp [0,1,4,5,6,7,22,23,
 24,25] [a,b,c,d,e,f,g,h,i,j])):=by
 unfold Eu;simp only[Uc,Kb];kernel_rfl
theorem ahf:aD aa gt lf r 105 #[a,b]=inside (Ka lf r a b):=by unfold Ka;simp only[ahe,Uc,Ub,Kb];kernel_rfl
def th(lf:Nat)(r:RT):Nat->(V->V->M V)->V->V->V->V->V->V->V->M V|0,_,_,_,_,_,_,_,_=> .fail|fu+1,k,a,b,c,d,e,f,g=>aW g f (aO e g fun i=>aM i fun j=>ak r 151 [a,j] fun i=>aA 0 d fun m=>cS i fun n=>bL n (ii 1) fun o=>gK i (some o) none fun p=>ar m p fun q=>ba 0 d fun s=>bc s q fun _=>cT j (ii 0) (ba 1 d fun m=>bc m g fun _=>ar g (ii 1) fun m=>th lf r fu k a b c d e f m) (ar g (ii 1) fun m=>th lf r fu k a b c d e f m)) (k c d)
def Ud:List Nat:=[0,1,4,5,10,11,12]
def Ew(lf:Nat)(r:RT):(V->V->M V):=fun a b=>bR 2 b fun c=>b9 2 a c fun _=>bR 2 a fun b=>aj [b]
def Kc(lf:Nat)(r:RT)(a b:V):M V:=cU 116 z116 fun c=>dz z116 [] fun d=>cU 116 z116 fun e=>b9 2 e d fun _=>aT b fun d=>th lf r lf (Ew lf r) a b c e b d (ii 0)
theorem Ue(K:KT):∀fu,th lf r fu (fun a b=>K (.exit 0) (zp [4,5] [a,b]))=fun a b c d e f g=>aP (cQ
 112 (pb 6 11) lf r) Ud fu (zp Ud [a,b,c,d,e,f,g]) K
 |0=>jK
 |fu+1=>by have h:=Ue K fu;funext a b c d e f g;rw[th];simp only[h];kernel_rfl
theorem ahg:Ew lf r=(fun a b=>(tK 112 (pb 5 11) lf r) (.exit 0) (zp [4,5] [a,b])):=jK
theorem ahh:aD aa gt lf r 112 #[a,b]=inside (Kc lf r a b):=by unfold Kc;simp only[ahg,Ue];kernel_rfl
def ti(lf:Nat)(r:RT):Nat->(V->V->V->V->V->V->V->M V)->V->V->V->V->V->V->V->V->V->V->V->V->M V|0,_,_,_,_,_,_,_,_,_,_,_,_,_=> .fail|fu+1,k,a,b,c,d,e,f,g,h,i,j,l,m=>aW m l (aO j m fun o=>aM o fun p=>ek f fun o=>aK o (ak r 152 [a,d,p] fun q=>(fun o=>aK q (bV 3 1 d fun s=>bH 3 1 e s fun t=>o t bT) (o e f)) fun e f=>bV 3 1 p fun o=>bH 3 1 e o fun s=>ar m (ii 1) fun e=>ti lf r fu k a b c d s f g h i j l e) (bV 3 1 p fun o=>bH 3 1 e o fun q=>ar m (ii 1) fun e=>ti lf r fu k a b c d q f g h i j l e)) (k a b d e f g h)
def Uf:List Nat:=[0,2,3,4,5,6,10,11,12,14,15,16]
def Ey(lf:Nat)(r:RT)(k:(V->M V))(l:V->V->V->V->V->M V):(V->V->V->V->V->V->V->M V):=fun a b c d e f g=>ek e fun h=>aK h (bV 3 1 c fun i=>bH 3 1 d i fun j=>ar g (ii 1) fun d=>l a b j f d) (ar g (ii 1) fun i=>l a b d f i)
def tj(lf:Nat)(r:RT):Nat->(V->M V)->V->V->V->V->V->M V|0,_,_,_,_,_,_=> .fail|fu+1,k,a,b,c,d,e=>cE e d fun f=>aK f (aT c fun g=>ti lf r lf (Ey lf r k (tj lf r fu k)) a b c e nS bF d e f c g (ii 0)) (k c)
def Az:List Nat:=[0,2,3,10,11]
abbrev Ug(lf:Nat)(r:RT)(a:Nat)(k:(V->M V)):(V->V->V->V->V->V->V->M V):=Ey lf r k (tj lf r a k)
def AA(lf:Nat)(r:RT):(V->M V):=fun a=>aj [a]
def Kd(lf:Nat)(r:RT)(a:V):M V:=cS a fun b=>tj lf r lf (AA lf r) a nS nS b (ii 0)
theorem Uh(K:KT):∀fu,ti lf r fu (fun a b c d e f g=>K (.exit 2) (zp [0,2,4,5,6,10,11] [a,b,c,
 d,e,f,g]))=fun a b c d e f g h i j l m=>aP (cQ 113 (pb 17 23755) lf r) Uf fu (zp Uf [a,b,c,d,e,f,g,h,i,j,l,m]) K
 |0=>jK
 |fu+1=>by have k:=Uh K fu;funext a b c d e f g h i j l m;rw[ti];simp only[k];kernel_rfl
theorem ahi(K:KT)(h:Nat):Ey lf r (fun a=>K (.exit 0) (zp [3] [a])) (fun a b c d e=>aP (cQ 113
 (pb 6 11) lf r) Az h (zp Az [a,b,c,d,e]) K)=(fun a b c d e f g=>(iK 113 (pb 6 11) (pb 10 371) Az h K lf
 r) (.exit 2) (zp [0,2,4,5,6,10,11] [a,b,c,d,e,f,g])):=by kernel_rfl
theorem Ui(K:KT):∀fu,tj lf r fu (fun a=>K (.exit 0) (zp [3] [a]))=fun a b c d e=>aP (cQ 113 (pb
 6 11) lf r) Az fu (zp Az [a,b,c,d,e]) K
 |0=>jK
 |fu+1=>by have f:=Ui K fu;funext a b c d e;rw[tj];simp only[f,ahi,Uh];kernel_rfl
theorem ahj:AA lf r=(fun a=>(tK 113 (pb 5 11) lf r) (.exit 0) (zp [3] [a])):=jK
theorem ahk:aD aa gt lf r 113 #[a]=inside (Kd lf r a):=by unfold Kd;simp only[ahj,Ui];kernel_rfl
def Uj(lf:Nat)(r:RT)(a b:V):M V:=jq a (i3 2) fun c=>hZ a (i3 2147483648) (ar c (i3 1) fun e=>qZ e b fun c=>aj [c]) (qZ c b fun e=>aj [e])
theorem ahl:aD aa gt lf r 114 #[a,b]=inside (Uj lf r a b):=jK
def Ez(lf:Nat)(r:RT):Nat->(V->V->V->V->V->M V)->V->V->V->V->V->V->V->M V|0,_,_,_,_,_,_,_,_=> .fail|fu+1,k,a,b,c,d,e,f,g=>aW g (ii 8) (kX d (i6 31) fun i=>mM d (i6 1) fun j=>jq i (i3 79764919) fun l=>qZ j l fun m=>ar g (ii 1) fun d=>Ez lf r fu k a b c m e f d) (k a b c d e)
def Uk:List Nat:=[0,1,2,3,5,6,11]
def Ul(lf:Nat)(r:RT)(k:(V->V->M V))(g:V->V->V->M V):(V->V->V->V->V->M V):=fun a b c d e=>gu 256 b c fun f=>bc f d fun _=>ar e (ii 1) fun f=>g a b f
def EA(lf:Nat)(r:RT):Nat->(V->V->M V)->V->V->V->M V|0,_,_,_,_=> .fail|fu+1,k,a,b,c=>cE c (ii 256) fun d=>aK d (ey .u32 c fun e=>mM e (i6 24) fun f=>Ez lf r lf (Ul lf r k (EA lf r fu k)) a b c f c d (ii 0)) (k a b)
def AD:List Nat:=[0,1,5]
def Un(lf:Nat)(r:RT):(V->V->M V):=fun a b=>bR 256 b fun c=>b9 256 a c fun _=>bR 256 a fun b=>aj [b]
def Ke(lf:Nat)(r:RT):M V:=cU 158 RE fun a=>cU 158 RE fun b=>EA lf r lf (Un lf r) a b (ii 0)
theorem Uo(K:KT):∀fu,Ez lf r fu (fun a b c d e=>K (.exit 2) (zp [0,1,2,3,5] [a,b,c,d,e]))=fun a b c d e f g
 =>aP (cQ 115 (pb 16 11467) lf r) Uk fu (zp Uk [a,b,c,d,e,f,g]) K
 |0=>jK
 |fu+1=>by have h:=Uo K fu;funext a b c d e f g;rw[Ez];simp only[h];kernel_rfl
theorem ahm(K:KT)(f:Nat):Ul lf r (fun a b=>K (.exit 0) (zp [0,1] [a,b])) (fun a b c=>aP (cQ 115 (pb 6 11) lf
 r) AD f (zp AD [a,b,c]) K)=(fun a b c d e=>(iK 115 (pb 6 11) (pb 9 179) AD f K lf r) (.exit 2) (zp [0,1,2,3,5] [a,b,c,d,e])):=by kernel_rfl
theorem Up(K:KT):∀fu,EA lf r fu (fun a b=>K (.exit 0) (zp [0,1] [a,b]))=fun a b c=>aP (cQ 115 (pb 6 11) lf r)
 AD fu (zp AD [a,b,c]) K
 |0=>jK
 |fu+1=>by have d:=Up K fu;funext a b c;rw[EA];simp only[d,ahm,Uo];kernel_rfl
theorem ahn:Un lf r=(fun a b=>(tK 115 (pb 5 11) lf r) (.exit 0) (zp [0,1] [a,b])):=jK
theorem aho:aD aa gt lf r 115 #[]=inside (Ke lf r):=by unfold Ke;simp only[ahn,Up];kernel_rfl
def Uq(lf:Nat)(r:RT)(a:V):M V:=au a fun b=>ba 0 b fun c=>bR 2 c fun d=>ak r 153 [d] fun e=>bj e 0 fun f=>bj e 1 fun g=>dz yg [] fun b=>au a fun c=>ba 0 c fun d=>b9 2 d b fun _=>aj [f]
theorem ahp:aD aa gt lf r 116 #[a]=inside (Uq lf r a):=jK
def EB(lf:Nat)(r:RT):Nat->(M V)->V->V->V->V->V->V->M V|0,_,_,_,_,_,_,_=> .fail|fu+1,k,a,b,c,d,e,f=>aW f e (au a fun h=>aA 1 h fun j=>aA 0 c fun m=>ak r 154 [j,m] fun n=>ar f (ii 1) fun h=>EB lf r fu k a b c d e h) (k)
def Ur:List Nat:=[0,1,3,4,30,31]
def Ut(lf:Nat)(r:RT):(M V):=aj []
def Kf(lf:Nat)(r:RT)(a b:V):M V:=fz 113 b fun c=>bR 2 c fun d=>ak r 153 [d] fun e=>bj e 0 fun f=>bj e 1 fun g=>au a fun d=>aA 0 d fun g=>bH 5 1 g f fun h=>au a fun i=>ba 0 i fun j=>bc j h fun _=>au a fun d=>aA 2 d fun g=>aA 1 c fun i=>ar g i fun j=>au a fun l=>ba 2 l fun m=>bc m j fun _=>aA 1 c fun e=>EB lf r lf (Ut lf r) a b c f e (ii 0)
theorem Uu(K:KT):∀fu,EB lf r fu (K (.exit 0) [])=fun a b c d e f=>aP (cQ 117 (pb 7 31) lf r)
 Ur fu (zp Ur [a,b,c,d,e,f]) K
 |0=>jK
 |fu+1=>by have g:=Uu K fu;funext a b c d e f;rw[EB];simp only[g];kernel_rfl
theorem ahq:Ut lf r=((tK 117 (pb 6 31) lf r) (.exit 0) []):=jK
theorem ahr:aD aa gt lf r 117 #[a,b]=inside (Kf lf r a b):=by unfold Kf;simp only[ahq,Uu];kernel_rfl
def Uv(lf:Nat)(r:RT)(a:V):M V:=iU a nP (aj [(i3 0)]) (au a fun c=>aA 256 c fun e=>IC e fun f=>aj [f])
theorem ahs:aD aa gt lf r 118 #[a]=inside (Uv lf r a):=jK
def Uw(lf:Nat)(r:RT)(a:V):M V:=An a nP (au a fun c=>ba 256 c fun d=>bc d (i3 4294967295) fun _=>aj []) (aj [])
theorem aht:aD aa gt lf r 119 #[a]=inside (Uw lf r a):=jK
def vE(lf:Nat)(r:RT):Nat->(V->V->M V)->V->V->V->V->V->V->V->V->M V|0,_,_,_,_,_,_,_,_,_=> .fail|fu+1,k,a,b,c,d,e,f,g,h=>aW h g (au e fun j=>aA 1 j fun m=>aO m h fun n=>bc n h fun _=>ar h (ii 1) fun j=>vE lf r fu k a b c d e f g j) (k d e)
def Ux:List Nat:=[0,2,3,4,5,10,26,27]
def EC(lf:Nat)(r:RT):(V->V->M V):=fun a b=>dz z203 [(0,1,(ii 0)),(2,1,a)] fun c=>bV 203 3 c fun d=>au b fun e=>ba 5 e fun f=>bc f d fun _=>aj [b,(ii 0)]
def ED(lf:Nat)(r:RT)(a:V):M V:=cS a fun b=>jr b (ii 900000) fun c=>aK c (aj [nP,(ii 2)]) (gP 3 [(ii 0)] b b fun d=>gP 3 [(ii 0)] b b fun e=>gP 3 [(ii 0)] b b fun f=>cE b (ii 2) fun g=>dz RG [(0,1,a),(1,1,d),(2,1,e),(3,1,f),(15,1,g)] fun h=>fz 205 h fun i=>au i fun d=>aA 1 d fun f=>aT f fun g=>vE lf r lf (EC lf r) a nP (ii 0) b i c g (ii 0))
theorem Uy(K:KT):∀fu,vE lf r fu (fun a b=>K (.exit 0) (zp [4,5] [a,b]))=fun a b c d e f g h=>aP (cQ 120 (pb
 8 47) lf r) Ux fu (zp Ux [a,b,c,d,e,f,g,h]) K
 |0=>jK
 |fu+1=>by have i:=Uy K fu;funext a b c d e f g h;rw[vE];simp only[i];kernel_rfl
theorem ahu:EC lf r=(fun a b=>(tK 120 (pb 7 47) lf r) (.exit 0) (zp [4,5] [a,b])):=jK
theorem Uz:aD aa gt lf r 120 #[a]=inside (ED lf r a):=by unfold ED;simp only[ahu,Uy];kernel_rfl
def vF(lf:Nat)(r:RT):Nat->(V->V->M V)->V->V->V->V->V->M V|0,_,_,_,_,_,_=> .fail|fu+1,k,a,b,c,d,e=>au a fun f=>aA 15 f fun h=>ek h fun i=>aK i (au a fun j=>aA 14 j fun m=>bL m d fun n=>aW n b (ak r 155 [a] fun f=>vF lf r fu k a b c d e) (k a d)) (k a d)
def UA:List Nat:=[0,1,4,5,7]
def AE(lf:Nat)(r:RT):(V->V->M V):=fun a b=>au a fun c=>aA 14 c fun e=>bL e b fun f=>aj [f]
def EE(lf:Nat)(r:RT)(a b:V):M V:=p5 a nP fun c=>aK c (aj [(ii 0)]) (au a fun d=>aA 14 d fun f=>vF lf r lf (AE lf r) a b (ii 0) f c)
theorem UB(K:KT):∀fu,vF lf r fu (fun a b=>K (.exit 0) (zp [0,5] [a,b]))=fun a b c d e=>aP
 (cQ 121 (pb 6 7) lf r) UA fu (zp UA [a,b,c,d,e]) K
 |0=>jK
 |fu+1=>by have f:=UB K fu;funext a b c d e;rw[vF];simp only[f];kernel_rfl
theorem ahv:AE lf r=(fun a b=>(tK 121 (pb 5 7) lf r) (.exit 0) (zp [0,5] [a,b])):=jK
theorem UC:aD aa gt lf r 121 #[a,b]=inside (EE lf r a b):=by unfold EE;simp only[ahv,UB];kernel_rfl
def Kg(lf:Nat)(r:RT)(a:V):M V:=An a nP (au a fun c=>aA 15 c fun e=>aj [e]) (aj [bF])
theorem UD:aD aa gt lf r 122 #[a]=inside (Kg lf r a):=jK
def Kh(lf:Nat)(r:RT)(a:V):M V:=ak r 122 [a] fun b=>ek b fun c=>aK c (aj [nS]) (au a fun b=>aA 1 b fun e=>ak r 156 [e] fun f=>aj [f])
theorem UE:aD aa gt lf r 123 #[a]=inside (Kh lf r a):=jK
def Ki(lf:Nat)(r:RT)(a:V):M V:=au a fun b=>aA 3 b fun d=>aT d fun e=>au a fun b=>aA 2 b fun d=>aO d e fun f=>aM f fun g=>ej g (ii 0) fun b=>(fun c=>aK b (au a fun d=>ba 4 d fun f=>bc f e fun _=>c) (c)) (au a fun c=>ba 3 c fun d=>(bx (aM d M.ret)).bind fun f=>au a fun h=>ba 0 h fun i=>(bx (aM i M.ret)).bind fun j=>(bx (ak r 157 [j.1,g] M.ret)).bind fun l=>(bx (bV 5 1 l.1 M.ret)).bind fun m=>(bx (bH 5 1 f.1 m.1 M.ret)).bind fun n=>au a fun o=>ba 3 o fun p=>(bx (bc p n.1 M.ret)).bind fun q=>lT ((!(fs f.2 l.2)&&true)&&true) (aj []))
theorem UF:aD aa gt lf r 124 #[a]=inside (Ki lf r a):=jK
def ru(lf:Nat)(r:RT):Nat->(V->M V)->V->V->V->V->V->V->M V|0,_,_,_,_,_,_,_=> .fail|fu+1,k,a,b,c,d,e,f=>aW f (ii 256) (sS 256 e f fun h=>aK h (ey .u8 f fun i=>bV 5 1 i fun j=>bH 5 1 d j fun l=>ar f (ii 1) fun d=>ru lf r fu k a b c l e d) (ar f (ii 1) fun i=>ru lf r fu k a b c d e i)) (k d)
def UG:List Nat:=[0,1,2,3,6,7]
def AF(lf:Nat)(r:RT):(V->M V):=fun a=>kZ a fun b=>aj [b]
def EF(lf:Nat)(r:RT)(a:V):M V:=fz 169 a fun b=>bR 256 b fun c=>ru lf r lf (AF lf r) a b (aZ {data:=#[]}) nS c (ii 0)
theorem UH(K:KT):∀fu,ru lf r fu (fun a=>K (.exit 0) (zp [3] [a]))=fun a b c d e f=>aP (cQ 125 (pb 6 11) lf
 r) UG fu (zp UG [a,b,c,d,e,f]) K
 |0=>jK
 |fu+1=>by have g:=UH K fu;funext a b c d e f;rw[ru];simp only[g];kernel_rfl
theorem ahw:AF lf r=(fun a=>(tK 125 (pb 5 11) lf r) (.exit 0) (zp [3] [a])):=jK
theorem UI:aD aa gt lf r 125 #[a]=inside (EF lf r a):=by unfold EF;simp only[ahw,UH];kernel_rfl
def Kj(lf:Nat)(r:RT)(a:V):M V:=ak r 134 [a] fun b=>ek b fun c=>aK c (aj [nP,(ii 1)]) (xQ 5 a fun b=>dz RH [(0,1,b)] fun d=>fz 211 d fun e=>aj [e,(ii 0)])
theorem UJ:aD aa gt lf r 126 #[a]=inside (Kj lf r a):=jK
def Kk(lf:Nat)(r:RT)(a b:V):M V:=iU a nP (aj [(ii 0),(ii 7)]) (au a fun d=>aA 0 d fun f=>ak r 158 [f,b] fun g=>aW g (ii 0) (aj [(ii 0),(ii 6)]) (ak r 159 [a,g] fun e=>aj [g,(ii 0)]))
theorem UK:aD aa gt lf r 127 #[a,b]=inside (Kk lf r a b):=jK
def Kl(lf:Nat)(r:RT)(a:V):M V:=hZ a (ii 1) (mL a (ii 256) fun c=>aj [c]) (aj [bF])
theorem UL:aD aa gt lf r 128 #[a]=inside (Kl lf r a):=jK
def vG(lf:Nat)(r:RT):Nat->(V->M V)->V->V->V->M V|0,_,_,_,_=> .fail|fu+1,k,a,b,c=>fi a (ii 0) (mN a (ii 2) fun e=>ej e (ii 1) fun f=>(fun e=>aK f (e (ii 0)) (e (ii 1))) fun e=>bV 3 1 e fun g=>bH 3 1 c g fun h=>bL a e fun c=>bL c (ii 1) fun g=>iE g (ii 2) fun i=>vG lf r fu k i b h) (k c)
def UM:List Nat:=[0,2,3]
def EG(lf:Nat)(r:RT):(V->M V):=fun a=>aj [a]
def EH(lf:Nat)(r:RT)(a:V):M V:=vG lf r lf (EG lf r) a nS nS
theorem UN(K:KT):∀fu,vG lf r fu (fun a=>K (.exit 0) (zp [3] [a]))=fun a b c=>aP (cQ 129 (pb 5 3) lf r) UM fu (zp UM [a,b,c]) K
 |0=>jK
 |fu+1=>by have d:=UN K fu;funext a b c;rw[vG];simp only[d];kernel_rfl
theorem ahx:EG lf r=(fun a=>(tK 129 (pb 4 3) lf r) (.exit 0) (zp [3] [a])):=jK
theorem UO:aD aa gt lf r 129 #[a]=inside (EH lf r a):=by unfold EH;simp only[ahx,UN];kernel_rfl
def Km(lf:Nat)(r:RT)(a b:V):M V:=cU 178 mP fun c=>aT a fun d=>cT d (ii 0) (dz mP [] fun d=>b9 2 c d fun _=>bR 2 c fun a=>aj [a,(ii 1)]) (bL b (ii 1) fun f=>ak r 160 [a,f] fun g=>aT a fun h=>bL h (ii 1) fun i=>gQ g i (dz mP [] fun d=>b9 2 c d fun _=>bR 2 c fun a=>aj [a,(ii 1)]) (ak r 161 [a,b] fun d=>bj d 0 fun e=>bj d 1 fun f=>b9 2 c e fun _=>bR 2 c fun a=>aj [a,f]))
theorem UP:aD aa gt lf r 130 #[a,b]=inside (Km lf r a b):=jK
def vH(lf:Nat)(r:RT):Nat->(V->M V)->V->V->V->V->V->V->V->V->V->M V|0,_,_,_,_,_,_,_,_,_,_=> .fail|fu+1,k,a,b,c,d,e,f,g,h,i=>aW i h (aO g i fun l=>aM l fun m=>ar m (ii 1) fun l=>ar e l fun n=>ar i (ii 1) fun e=>vH lf r fu k a b c d n f g h e) (k e)
def UQ:List Nat:=[0,1,4,5,6,12,14,15,16]
def EI(lf:Nat)(r:RT):(V->M V):=fun a=>aj [a,(ii 0)]
def EJ(lf:Nat)(r:RT)(a b:V):M V:=ak r 162 [a,b] fun c=>ek c fun d=>aK d (aj [(ii 0),(ii 1)]) (ak r 163 [a] fun c=>aT c fun e=>vH lf r lf (EI lf r) a b (ii 0) (ii 0) (ii 18) d c e (ii 0))
theorem UR(K:KT):∀fu,vH lf r fu (fun a=>K (.exit 0) (zp [6] [a]))=fun a b c d e f g h i=>aP (cQ 131 (pb 7 23)
 lf r) UQ fu (zp UQ [a,b,c,d,e,f,g,h,i]) K
 |0=>jK
 |fu+1=>by have j:=UR K fu;funext a b c d e f g h i;rw[vH];simp only[j];kernel_rfl
theorem ahy:EI lf r=(fun a=>(tK 131 (pb 6 23) lf r) (.exit 0) (zp [6] [a])):=jK
theorem US:aD aa gt lf r 131 #[a,b]=inside (EJ lf r a b):=by unfold EJ;simp only[ahy,UR];kernel_rfl
def Kn(lf:Nat)(r:RT)(a:V):M V:=ak r 164 [a] fun b=>ek b fun c=>aK c (aj [(ii 0),(ii 1)]) (cU 3 z3 fun b=>bc b (ii 0) fun _=>ak r 165 [a,(zy (HB 166) #[] #[b])] fun d=>aM b fun d=>aj [d,(ii 0)])
theorem UT:aD aa gt lf r 132 #[a]=inside (Kn lf r a):=jK
def vI(lf:Nat)(r:RT):Nat->((V->M V)×(V->V->M V))->V->V->V->V->V->V->V->V->V->V->M V|0,_,_,_,_,_,_,_,_,_,_,_=> .fail|fu+1,k,a,b,c,d,e,f,g,h,i,j=>aW j i (aO h j fun m=>aM m fun n=>aW n (ii 0) (k.2 (ii 0) (ii 1)) (aA 0 c fun p=>aT p fun q=>hZ n q (k.2 (ii 0) (ii 1)) (ak r 168 [a,j] fun m=>bj m 0 fun o=>bj m 1 fun p=>aA 0 c fun p=>aO p n fun q=>aM q fun t=>ak r 169 [o,t] fun u=>bj u 0 fun v=>bj u 1 fun w=>gQ w (ii 0) (k.2 (ii 0) w) (ar f v fun p=>kY p (ii 1099511627776) fun q=>ar j (ii 1) fun f=>vI lf r fu k a b c d e q g h i f)))) (k.1 f)
def UU:List Nat:=[0,1,3,4,5,6,19,21,22,23]
def vJ(lf:Nat)(r:RT):(V->M V)×(V->V->M V):=(fun a=>aj [a,(ii 0)],fun a b=>aj [a,b])
def EK(lf:Nat)(r:RT)(a b:V):M V:=fz 178 b fun c=>ba 1 c fun d=>(bx (aM d M.ret)).bind fun e=>aT e.1 fun f=>aT a fun g=>(bx (ak r 167 [g] M.ret)).bind fun h=>hC f h.1 fun i=>lT ((!(fs e.2 h.2)&&true)&&true) (aK i (aj [(ii 0),(ii 1)]) (aA 1 c fun e=>aT e fun f=>vI lf r lf (vJ lf r) a b c (ii 0) (ii 0) (ii 0) i e f (ii 0)))
theorem UW(K:KT):∀fu,vI lf r fu ((fun a=>K (.exit 0) (zp [6] [a]),fun a b=>K .ret (zp [4,5] [a,b])))=fun a
 b c d e f g h i j=>aP (cQ 133 (pb 7 23) lf r) UU fu (zp UU [a,b,c,d,e,f,g,h,i,j]) K
 |0=>jK
 |fu+1=>by have k:=UW K fu;funext a b c d e f g h i j;rw[vI];simp only[k];kernel_rfl
theorem ahz:vJ lf r=((fun a=>(tK 133 (pb 6 23) lf r) (.exit 0) (zp [6] [a]),fun a b=>(tK 133 (pb 6 23) lf r) .ret (zp [4,5] [a,b]))):=jK
theorem UX:aD aa gt lf r 133 #[a,b]=inside (EK lf r a b):=by unfold EK;simp only[ahz,UW];kernel_rfl
def tn(lf:Nat)(r:RT):Nat->((V->M V)×(V->M V))->V->V->V->V->M V|0,_,_,_,_,_=> .fail|fu+1,k,a,b,c,d=>aW d c (fi d (ii 0) (gJ a d fun g=>bL d (ii 1) fun h=>gJ a h fun i=>ye g i (k.2 bF) (ar d (ii 1) fun f=>tn lf r fu k a b c f)) (ar d (ii 1) fun f=>tn lf r fu k a b c f)) (k.1 a)
def UY:List Nat:=[0,2,5,6]
def EL(lf:Nat)(r:RT):(V->M V)×(V->M V):=(fun a=>hC a (aZ {data:=#[]}) fun b=>aj [b],fun a=>aj [a])
def EM(lf:Nat)(r:RT)(a:V):M V:=cS a fun b=>tn lf r lf (EL lf r) a bF b (ii 0)
theorem UZ(K:KT):∀fu,tn lf r fu ((fun a=>K (.exit 0) (zp [0] [a]),fun a=>K .ret (zp [2] [a])))=fun a b c d=>aP
 (cQ 134 (pb 5 5) lf r) UY fu (zp UY [a,b,c,d]) K
 |0=>jK
 |fu+1=>by have e:=UZ K fu;funext a b c d;rw[tn];simp only[e];kernel_rfl
theorem ahA:EL lf r=((fun a=>(tK 134 (pb 4 5) lf r) (.exit 0) (zp [0] [a]),fun a=>(tK 134 (pb 4 5) lf r) .ret (zp [2] [a]))):=jK
theorem U0:aD aa gt lf r 134 #[a]=inside (EM lf r a):=by unfold EM;simp only[ahA,UZ];kernel_rfl
def vK(lf:Nat)(r:RT):Nat->(V->V->M V)->V->V->V->V->V->M V|0,_,_,_,_,_,_=> .fail|fu+1,k,a,b,c,d,e=>aW e d (gJ a e fun g=>iE g (i1 16) fun h=>gu 16 c h fun i=>aM i fun j=>mN g (i1 16) fun l=>bL (i1 15) l fun m=>mM (i3 1) m fun n=>zT j n fun o=>gu 16 c h fun p=>bc p o fun _=>ar e (ii 1) fun h=>vK lf r fu k a b c d h) (k b c)
def U1:List Nat:=[0,2,3,7,8]
def EN(lf:Nat)(r:RT):(V->V->M V):=fun a b=>bR 16 b fun c=>b9 16 a c fun _=>bR 16 a fun b=>aj [b]
def EO(lf:Nat)(r:RT)(a:V):M V:=cU 184 p9 fun b=>cU 184 p9 fun c=>cS a fun d=>vK lf r lf (EN lf r) a b c d (ii 0)
theorem U2(K:KT):∀fu,vK lf r fu (fun a b=>K (.exit 0) (zp [2,3] [a,b]))=fun a b c d e=>aP (cQ 135 (pb 6 11)
 lf r) U1 fu (zp U1 [a,b,c,d,e]) K
 |0=>jK
 |fu+1=>by have f:=U2 K fu;funext a b c d e;rw[vK];simp only[f];kernel_rfl
theorem ahC:EN lf r=(fun a b=>(tK 135 (pb 5 11) lf r) (.exit 0) (zp [2,3] [a,b])):=jK
theorem U3:aD aa gt lf r 135 #[a]=inside (EO lf r a):=by unfold EO;simp only[ahC,U2];kernel_rfl
def vL(lf:Nat)(r:RT):Nat->(M V)->V->V->V->V->V->V->V->V->V->M V|0,_,_,_,_,_,_,_,_,_,_=> .fail|fu+1,k,a,b,c,d,e,f,g,h,i=>aW i h (aO g i fun l=>aM l fun m=>ar m (ii 1) fun l=>mM (i3 1) l fun n=>bL n (i3 2) fun o=>ar m (ii 1) fun p=>ak r 56 [a,o,p] fun q=>ar i (ii 1) fun l=>vL lf r fu k a b c d e f g h l) (k)
def U4:List Nat:=[0,1,2,6,9,12,27,28,29]
def EP(lf:Nat)(r:RT):(M V):=aj [(ii 0)]
def ER(lf:Nat)(r:RT)(a b c:V):M V:=p5 a nP fun d=>aK d (aj [(ii 7)]) (ak r 162 [b,c] fun e=>ek e fun f=>aK f (aj [(ii 1)]) (ey .u32 c fun e=>ak r 56 [a,e,(ii 3)] fun g=>aT b fun e=>ey .u32 e fun g=>ak r 56 [a,g,(ii 15)] fun h=>ak r 163 [b] fun e=>aT e fun g=>vL lf r lf (EP lf r) a b c (ii 0) d f e g (ii 0)))
theorem U5(K:KT):∀fu,vL lf r fu (K (.exit 1) [])=fun a b c d e f g h i=>aP (cQ 136 (pb 8 47) lf r)
 U4 fu (zp U4 [a,b,c,d,e,f,g,h,i]) K
 |0=>jK
 |fu+1=>by have j:=U5 K fu;funext a b c d e f g h i;rw[vL];simp only[j];kernel_rfl
theorem ahD:EP lf r=((tK 136 (pb 7 47) lf r) (.exit 1) []):=jK
theorem U6:aD aa gt lf r 136 #[a,b,c]=inside (ER lf r a b c):=by unfold ER;simp only[ahD,U5];kernel_rfl
def Ko(lf:Nat)(r:RT)(a b:V):M V:=fz 90 a fun c=>aM c fun d=>iU d nP (aj [(ii 7)]) (ak r 164 [b] fun d=>ek d fun f=>aK f (aj [(ii 1)]) (ak r 165 [b,(zy (HB 170) #[] #[c])] fun d=>aj [(ii 0)]))
theorem U7:aD aa gt lf r 137 #[a,b]=inside (Ko lf r a b):=jK
def tp(lf:Nat)(r:RT):Nat->(V->V->V->V->V->V->V->V->M V)->V->V->V->V->V->V->V->V->V->V->V->V->M V|0,_,_,_,_,_,_,_,_,_,_,_,_,_=> .fail|fu+1,k,a,b,c,d,e,f,g,h,i,j,l,m=>aW m l (aO j m fun o=>aM o fun p=>cT p f (au d fun q=>aA 1 q fun t=>ey .u32 e fun u=>aO t m fun v=>bc v u fun _=>au d fun q=>aA 2 q fun t=>bV 3 1 m fun u=>bH 3 1 t u fun v=>au d fun w=>ba 2 w fun x=>bc x v fun _=>ar e (ii 1) fun q=>ar m (ii 1) fun e=>tp lf r fu k a b c d q f g h i j l e) (ar m (ii 1) fun q=>tp lf r fu k a b c d e f g h i j l q)) (k a b c d e f g h)
def U8:List Nat:=[0,2,3,4,5,6,9,18,30,51,52,53]
def ES(lf:Nat)(r:RT)(k:(V->M V))(j:V->V->V->V->V->V->V->V->M V):(V->V->V->V->V->V->V->V->M V):=fun a b c d e f g h=>ar f (ii 1) fun i=>j a b c d e i g h
def tq(lf:Nat)(r:RT):Nat->(V->M V)->V->V->V->V->V->V->V->V->M V|0,_,_,_,_,_,_,_,_,_=> .fail|fu+1,k,a,b,c,d,e,f,g,h=>mL f (ii 20) fun i=>aK i (jq e (ii 2) fun j=>au d fun e=>ba 3 e fun l=>gu 21 l f fun m=>bc m j fun _=>au d fun e=>aA 2 e fun m=>aT m fun n=>au d fun o=>ba 24 o fun p=>gu 22 p f fun q=>bc q n fun _=>aT a fun e=>tp lf r lf (ES lf r k (tq lf r fu k)) a b c d j f g h i a e (ii 0)) (k d)
def AG:List Nat:=[0,2,3,4,5,6,9,18]
abbrev U9(lf:Nat)(r:RT)(a:Nat)(k:(V->M V)):(V->V->V->V->V->V->V->V->M V):=ES lf r k (tq lf r a k)
def AH(lf:Nat)(r:RT):(V->M V):=fun a=>au a fun b=>aA 2 b fun d=>aT d fun e=>au a fun f=>ba 24 f fun g=>gu 22 g (ii 21) fun h=>bc h e fun _=>aj [a,(ii 0)]
def ET(lf:Nat)(r:RT)(a:V):M V:=aT a fun b=>aW b (ii 3) (aj [nP,(ii 1)]) (aT a fun d=>jr d (ii 258) fun e=>aK e (aj [nP,(ii 1)]) (ak r 171 [a] fun b=>ek b fun c=>aK c (aj [nP,(ii 22)]) ((bx (ak r 156 [a] M.ret)).bind fun b=>aT a fun d=>(bx (gP 40 [(i3 0)] d d M.ret)).bind fun f=>dz JE [(0,1,b.1),(1,1,f.1)] fun g=>(bx (fz 223 g M.ret)).bind fun h=>lT ((!(fs b.2 f.2)&&true)&&true) (tq lf r lf (AH lf r) a nP (ii 0) h.1 (ii 0) (ii 1) e c))))
theorem U'(K:KT):∀fu,tp lf r fu (fun a b c d e f g h=>K (.exit 3) (zp [0,2,3,4,5,6,9,18] [a,b,c,d,e,f,g,
 h]))=fun a b c d e f g h i j l m=>aP (cQ 138 (pb 17 31023) lf r) U8 fu (zp U8 [a,b,c,d,e,f,g,h,i,j,l,m]) K
 |0=>jK
 |fu+1=>by have k:=U' K fu;funext a b c d e f g h i j l m;rw[tp];simp only[k];kernel_rfl
theorem ahE(K:KT)(i:Nat):ES lf r (fun a=>K (.exit 1) (zp [4] [a])) (fun a b c d e f g h=>aP (cQ 138 (pb 8 47) lf
 r) AG i (zp AG [a,b,c,d,e,f,g,h]) K)=(fun a b c d e f g h=>(iK 138 (pb 8 47) (pb 8 121) AG i K lf r) (.exit 3) (zp [0,2,3,
 4,5,6,9,18] [a,b,c,d,e,f,g,h])):=by kernel_rfl
theorem Va(K:KT):∀fu,tq lf r fu (fun a=>K (.exit 1) (zp [4] [a]))=fun a b c d e f g h=>aP (cQ 138 (pb 8 47) lf
 r) AG fu (zp AG [a,b,c,d,e,f,g,h]) K
 |0=>jK
 |fu+1=>by have i:=Va K fu;funext a b c d e f g h;rw[tq];simp only[i,ahE,U'];kernel_rfl
theorem ahF:AH lf r=(fun a=>(tK 138 (pb 7 47) lf r) (.exit 1) (zp [4] [a])):=jK
theorem Vb:aD aa gt lf r 138 #[a]=inside (ET lf r a):=by unfold ET;simp only[ahF,Va];kernel_rfl
def Kp(lf:Nat)(r:RT)(a b c:V):M V:=iU b nP (aj [(ii 7)]) (ak r 172 [a,c] fun e=>bj e 0 fun f=>bj e 1 fun g=>bj e 2 fun h=>gQ h (ii 0) (aj [h]) (ak r 56 [b,f,g] fun i=>aj [i]))
theorem Vc:aD aa gt lf r 139 #[a,b,c]=inside (Kp lf r a b c):=jK
def vM(lf:Nat)(r:RT):Nat->((M V)×(V->M V))->V->V->V->V->M V|0,_,_,_,_,_=> .fail|fu+1,k,a,b,c,d=>cS a fun e=>aW d e (gJ a d fun e=>ey .i64 e fun g=>cT g b (k.2 bT) (ar d (ii 1) fun e=>vM lf r fu k a b c e)) (k.1)
def Vd:List Nat:=[0,1,4,5]
def AJ(lf:Nat)(r:RT):(M V)×(V->M V):=(aj [bF],fun a=>aj [a])
def Kq(lf:Nat)(r:RT)(a b:V):M V:=vM lf r lf (AJ lf r) a b bF (ii 0)
theorem Ve(K:KT):∀fu,vM lf r fu ((K (.exit 0) [],fun a=>K .ret (zp [4] [a])))=fun a b c d=>aP
 (cQ 140 (pb 5 5) lf r) Vd fu (zp Vd [a,b,c,d]) K
 |0=>jK
 |fu+1=>by have e:=Ve K fu;funext a b c d;rw[vM];simp only[e];kernel_rfl
theorem ahG:AJ lf r=(((tK 140 (pb 4 5) lf r) (.exit 0) [],fun a=>(tK 140 (pb 4 5) lf r) .ret (zp [4] [a]))):=jK
theorem ahH:aD aa gt lf r 140 #[a,b]=inside (Kq lf r a b):=by unfold Kq;simp only[ahG,Ve];kernel_rfl
def Vf(lf:Nat)(r:RT)(a:V):M V:=cS a fun b=>fi b (ii 0) (ak r 101 [a] fun d=>ej d a fun e=>aj [e]) (aj [bF])
theorem ahI:aD aa gt lf r 141 #[a]=inside (Vf lf r a):=jK
def qc(lf:Nat)(r:RT):Nat->((M V)×(V->M V))->V->V->V->V->M V|0,_,_,_,_,_=> .fail|fu+1,k,a,b,c,d=>cS a fun e=>aW d e (gJ a d fun e=>cT e b (k.2 d) (ar d (ii 1) fun e=>qc lf r fu k a b c e)) (k.1)
def Vg:List Nat:=[0,1,4,5]
def yj(lf:Nat)(r:RT):(M V)×(V->M V):=(aj [(ii (-1))],fun a=>aj [a])
def EU(lf:Nat)(r:RT)(a b:V):M V:=qc lf r lf (yj lf r) a b (ii 0) (ii 0)
theorem Vh(K:KT):∀fu,qc lf r fu ((K (.exit 0) [],fun a=>K .ret (zp [4] [a])))=fun a b c d=>aP
 (cQ 142 (pb 5 5) lf r) Vg fu (zp Vg [a,b,c,d]) K
 |0=>jK
 |fu+1=>by have e:=Vh K fu;funext a b c d;rw[qc];simp only[e];kernel_rfl
theorem ahJ:yj lf r=(((tK 142 (pb 4 5) lf r) (.exit 0) [],fun a=>(tK 142 (pb 4 5) lf r) .ret (zp [4] [a]))):=jK
theorem Vi:aD aa gt lf r 142 #[a,b]=inside (EU lf r a b):=by unfold EU;simp only[ahJ,Vh];kernel_rfl
def Kr(lf:Nat)(r:RT)(a b:V):M V:=ar b (ii 1) fun c=>gK a (some b) (some c) fun d=>gK a none (some b) fun e=>ar d e fun f=>ar b (ii 1) fun g=>gK a (some g) none fun h=>ar f h fun i=>aj [i]
theorem Vj:aD aa gt lf r 143 #[a,b]=inside (Kr lf r a b):=jK
def Ks(lf:Nat)(r:RT)(a:V):M V:=cT a (ii 0) (aj [nS]) (mN a (ii 2) fun c=>cT c (ii 1) (bV 3 1 (ii 0) fun c=>bH 3 1 nS c fun e=>bL a (ii 1) fun c=>iE c (ii 2) fun f=>ak r 144 [f] fun g=>bH 3 1 e g fun h=>aj [h]) (bV 3 1 (ii 1) fun c=>bH 3 1 nS c fun e=>bL a (ii 2) fun c=>iE c (ii 2) fun f=>ak r 144 [f] fun g=>bH 3 1 e g fun h=>aj [h]))
theorem Vk:aD aa gt lf r 144 #[a]=inside (Ks lf r a):=jK
def vN(lf:Nat)(r:RT):Nat->(V->V->V->V->V->V->V->V->V->V->V->V->M V)->V->V->V->V->V->V->V->V->V->V->V->M V|0,_,_,_,_,_,_,_,_,_,_,_,_=> .fail|fu+1,k,a,b,c,d,e,f,g,h,i,j,l=>cE l j fun m=>aK m (aO i l fun n=>aM n fun o=>aA 0 d fun p=>ak r 176 [o,p] fun q=>bV 3 1 q fun s=>bH 3 1 f s fun t=>ar l (ii 1) fun f=>vN lf r fu k a b c d e t g h i j f) (k a b c d e f g h i j l m)
def Vl:List Nat:=[0,1,4,5,6,7,24,25,26,27,28]
def tr(lf:Nat)(r:RT):Nat->(V->V->V->V->V->V->V->V->V->V->V->V->V->V->V->V->M V)->V->V->V->V->V->V->V->V->V->V->V->V->V->V->V->V->V->V->V->V->V->M V|0,_,_,_,_,_,_,_,_,_,_,_,_,_,_,_,_,_,_,_,_,_,_=> .fail|fu+1,k,a,b,c,d,e,f,g,h,i,j,l,m,n,o,p,q,s,t,u,v,w=>aW w v (aO u w fun y=>aM y fun z=>aO f w fun y=>aM y fun A=>cT A h (bH 3 1 i z fun y=>ar w (ii 1) fun i=>tr lf r fu k a b c d e f g h y j l m n o p q s t u v i) (ar w (ii 1) fun y=>tr lf r fu k a b c d e f g h i j l m n o p q s t u v y)) (k a b c d e f g i j l m n o p q s)
def Vm:List Nat:=[0,1,4,5,6,7,10,11,12,24,25,26,27,28,29,42,43,44,46,47,48]
def EV(lf:Nat)(r:RT)(k:(V->V->V->V->V->V->V->V->M V))(w:V->V->V->V->V->V->V->V->V->V->V->V->V->V->V->M V):(V->V->V->V->V->V->V->V->V->V->V->V->V->V->V->V->M V):=fun a b c d e f g h i j l m n o p q=>ak r 174 [h,b] fun s=>ak r 177 [s] fun t=>bV 141 1 t fun u=>bH 141 1 g u fun v=>ar q (ii 1) fun g=>w a b c d e f v i j l m n o p g
def tw(lf:Nat)(r:RT):Nat->(V->V->V->V->V->V->V->V->M V)->V->V->V->V->V->V->V->V->V->V->V->V->V->V->V->M V|0,_,_,_,_,_,_,_,_,_,_,_,_,_,_,_,_=> .fail|fu+1,k,a,b,c,d,e,f,g,h,i,j,l,m,n,o,p=>cE p o fun q=>aK q (aT e fun s=>tr lf r lf (EV lf r k (tw lf r fu k)) a b c d e f g p nS h i j l m n o p q e s (ii 0)) (k a b c d e f g h)
def AK:List Nat:=[0,1,4,5,6,7,10,24,25,26,27,28,29,42,43]
abbrev Vn(lf:Nat)(r:RT)(a:Nat)(k:(V->V->V->V->V->V->V->V->M V)):(V->V->V->V->V->V->V->V->V->V->V->V->V->V->V->V->M V):=EV lf r k (tw lf r a k)
def EW(lf:Nat)(r:RT)(k:(V->V->M V))(j:V->V->V->V->V->V->M V):(V->V->V->V->V->V->V->V->M V):=fun a b c d e f g h=>dz yh [(0,1,g),(1,1,f)] fun i=>b9 2 d i fun _=>ar h (ii 1) fun i=>j a b c d e i
def AL(lf:Nat)(r:RT)(k:(V->V->M V))(n:V->V->V->V->V->V->M V):(V->V->V->V->V->V->V->V->V->V->V->V->M V):=fun a b c d e f g h i j l m=>aA 0 d fun o=>aT o fun p=>tw lf r lf (EW lf r k n) a b c d e f nS g h i j l m p (ii 0)
def ry(lf:Nat)(r:RT):Nat->(V->V->M V)->V->V->V->V->V->V->M V|0,_,_,_,_,_,_,_=> .fail|fu+1,k,a,b,c,d,e,f=>cE f (ii 4) fun g=>aK g (aT e fun h=>vN lf r lf (AL lf r k (ry lf r fu k)) a b c d e nS f g e h (ii 0)) (k c d)
def tz:List Nat:=[0,1,4,5,6,24]
abbrev Vo(lf:Nat)(r:RT)(a:Nat)(k:(V->V->M V)):(V->V->V->V->V->V->V->V->V->V->V->V->M V):=AL lf r k (ry lf r a k)
abbrev Ku(lf:Nat)(r:RT)(a:Nat)(k:(V->V->M V)):(V->V->V->V->V->V->V->V->M V):=EW lf r k (ry lf r a k)
def vO(lf:Nat)(r:RT):(V->V->M V):=fun a b=>bR 2 b fun c=>b9 2 a c fun _=>bR 2 a fun b=>aj [b]
def Kv(lf:Nat)(r:RT)(a b:V):M V:=cU 195 yh fun c=>ak r 174 [a,b] fun d=>aT a fun e=>ak r 173 [d,e] fun f=>dz yh [(0,1,f)] fun g=>cU 195 yh fun h=>b9 2 h g fun _=>ak r 175 [a] fun d=>ry lf r lf (vO lf r) a b c h d (ii 0)
theorem Vp(K:KT):∀fu,vN lf r fu (fun a b c d e f g h i j l m=>K (.exit 2) (zp [0,1,4,5,6,7,24,25,26,
 27,28,29] [a,b,c,d,e,f,g,h,i,j,l,m]))=fun a b c d e f g h i j l=>aP (cQ 145 (pb 16 10647) lf r) Vl fu (zp Vl [a,b,c,d,e,f,g,h,i,j,l]) K
 |0=>jK
 |fu+1=>by have k:=Vp K fu;funext a b c d e f g h i j l;rw[vN];simp only[k];kernel_rfl
theorem Vq(K:KT):∀fu,tr lf r fu (fun a b c d e f g h i j l m n o p q=>K (.exit 6) (zp [0,1,4,5,6,7,10,
 12,24,25,26,27,28,29,42,43] [a,b,c,d,e,f,g,h,i,j,l,m,n,o,p,q]))=fun a b c d e f g h i j l m n o p q s t u v w=>aP (cQ 145 (pb 28
 46971287) lf r) Vm fu (zp Vm [a,b,c,d,e,f,g,h,i,j,l,m,n,o,p,q,s,t,u,v,w]) K
 |0=>jK
 |fu+1=>by have k:=Vq K fu;funext a b c d e f g h i j l m n o p q s t u v w;rw[tr];simp only[k];kernel_rfl
theorem ahK(K:KT)(k:Nat):EV lf r (fun a b c d e f g h=>K (.exit 4) (zp [0,1,4,5,6,7,10,24] [a,b,c,
 d,e,f,g,h])) (fun a b c d e f g h i j l m n o p=>aP (cQ 145 (pb 18 47511) lf r) AK k (zp AK [a,b,c,d,e,f,g,h,i,j,l,m,
 n,o,p]) K)=(fun a b c d e f g h i j l m n o p q=>(iK 145 (pb 18 47511) (pb 9 179) AK k K lf r) (.exit 6) (zp [0,1,4,5,6,7,10,12,24,25,
 26,27,28,29,42,43] [a,b,c,d,e,f,g,h,i,j,l,m,n,o,p,q])):=by kernel_rfl
theorem Kw(K:KT):∀fu,tw lf r fu (fun a b c d e f g h=>K (.exit 4) (zp [0,1,4,5,6,7,10,24] [a,b,c,d,
 e,f,g,h]))=fun a b c d e f g h i j l m n o p=>aP (cQ 145 (pb 18 47511) lf r) AK fu (zp AK [a,b,c,d,e,f,g,h,i,j,l,m,n,o,p]) K
 |0=>jK
 |fu+1=>by have k:=Kw K fu;funext a b c d e f g h i j l m n o p;rw[tw];simp only[k,ahK,Vq];kernel_rfl
theorem Vr(K:KT)(i:Nat):EW lf r (fun a b=>K (.exit 0) (zp [4,5] [a,b])) (fun a b c d e f=>aP (cQ 145
 (pb 7 23) lf r) tz i (zp tz [a,b,c,d,e,f]) K)=(fun a b c d e f g h=>(iK 145 (pb 7 23) (pb 10 371) tz i K lf r)
 (.exit 4) (zp [0,1,4,5,6,7,10,24] [a,b,c,d,e,f,g,h])):=by kernel_rfl
theorem ahL(K:KT)(k:Nat):AL lf r (fun a b=>K (.exit 0) (zp [4,5] [a,b])) (fun a b c d e f=>aP (cQ 145
 (pb 7 23) lf r) tz k (zp tz [a,b,c,d,e,f]) K)=(fun a b c d e f g h i j l m=>(iK 145 (pb 7 23) (pb 8 83) tz k K lf
 r) (.exit 2) (zp [0,1,4,5,6,7,24,25,26,27,28,29] [a,b,c,d,e,f,g,h,i,j,l,m])):=by
 unfold AL;simp only[Vr,Kw];kernel_rfl
theorem Vs(K:KT):∀fu,ry lf r fu (fun a b=>K (.exit 0) (zp [4,5] [a,b]))=fun a b c d e f=>aP (cQ 145
 (pb 7 23) lf r) tz fu (zp tz [a,b,c,d,e,f]) K
 |0=>jK
 |fu+1=>by have g:=Vs K fu;funext a b c d e f;rw[ry];simp only[g,ahL,Vr,Vp,Kw];kernel_rfl
theorem ahM:vO lf r=(fun a b=>(tK 145 (pb 6 23) lf r) (.exit 0) (zp [4,5] [a,b])):=jK
theorem ahO:aD aa gt lf r 145 #[a,b]=inside (Kv lf r a b):=by unfold Kv;simp only[ahM,Vs];kernel_rfl
def vP(lf:Nat)(r:RT):Nat->(V->M V)->V->V->V->V->V->V->V->V->M V|0,_,_,_,_,_,_,_,_,_=> .fail|fu+1,k,a,b,c,d,e,f,g,h=>aW h g (aO f h fun j=>aM j fun l=>gJ (aZ {data:=#[48,49,50,51,52,53]}) l fun j=>ak r 142 [e,j] fun m=>ak r 143 [e,m] fun j=>gK (aZ {data:=#[49,49,49,49,49,49]}) none (some m) fun e=>ar d e fun n=>ar n (aZ {data:=#[48]}) fun o=>ar h (ii 1) fun d=>vP lf r fu k a b c o j f g d) (k d)
def Vt:List Nat:=[0,1,4,5,6,18,19,20]
def EX(lf:Nat)(r:RT):(V->M V):=fun a=>aj [a]
def Kx(lf:Nat)(r:RT)(a b:V):M V:=ey .u32 b fun c=>ak r 80 [c,(ii 3)] fun d=>aT a fun e=>ey .u32 e fun f=>ak r 80 [f,(ii 15)] fun g=>ar d g fun h=>aT a fun c=>vP lf r lf (EX lf r) a b (aZ {data:=#[]}) h (aZ {data:=#[48,49,50,51,52,53]}) a c (ii 0)
theorem Vu(K:KT):∀fu,vP lf r fu (fun a=>K (.exit 0) (zp [5] [a]))=fun a b c d e f g h=>aP (cQ 146
 (pb 7 23) lf r) Vt fu (zp Vt [a,b,c,d,e,f,g,h]) K
 |0=>jK
 |fu+1=>by have i:=Vu K fu;funext a b c d e f g h;rw[vP];simp only[i];kernel_rfl
theorem ahP:EX lf r=(fun a=>(tK 146 (pb 6 23) lf r) (.exit 0) (zp [5] [a])):=jK
theorem ahQ:aD aa gt lf r 146 #[a,b]=inside (Kx lf r a b):=by unfold Kx;simp only[ahP,Vu];kernel_rfl
def tA(lf:Nat)(r:RT):Nat->(V->V->V->V->V->V->V->M V)->V->V->V->V->V->V->V->V->V->V->M V|0,_,_,_,_,_,_,_,_,_,_,_=> .fail|fu+1,k,a,b,c,d,e,f,g,h,i,j=>aW j (ii 40) (bL e d fun m=>cE j m fun n=>(fun m=>aK n (ar c (aZ {data:=#[49,48]}) fun o=>m o) (m c)) fun c=>bL d e fun m=>aW j m (ar c (aZ {data:=#[49,49]}) fun m=>ar j (ii 1) fun c=>tA lf r fu k a b m d e f g h i c) (ar j (ii 1) fun m=>tA lf r fu k a b c d e f g h i m)) (k a b c e f g h)
def Vv:List Nat:=[0,2,3,4,6,16,17,18,19,22]
def Ky(lf:Nat)(r:RT)(k:(V->M V))(i:V->V->V->V->V->V->V->M V):(V->V->V->V->V->V->V->M V):=fun a b c d e f g=>ar c (aZ {data:=#[48]}) fun h=>ar g (ii 1) fun c=>i a b h d e f c
def vQ(lf:Nat)(r:RT):Nat->(V->M V)->V->V->V->V->V->V->V->M V|0,_,_,_,_,_,_,_,_=> .fail|fu+1,k,a,b,c,d,e,f,g=>cE g f fun h=>aK h (aO e g fun i=>aM i fun j=>tA lf r lf (Ky lf r k (vQ lf r fu k)) a b c d j e f g h (ii 0)) (k c)
def AM:List Nat:=[0,2,3,4,16,17,18]
def EY(lf:Nat)(r:RT):(V->M V):=fun a=>aj [a]
def Kz(lf:Nat)(r:RT)(a:V):M V:=aO a (ii 0) fun b=>aM b fun c=>ey .u32 c fun d=>ak r 80 [d,(ii 5)] fun e=>aO a (ii 0) fun b=>aM b fun c=>aT a fun b=>vQ lf r lf (EY lf r) a (aZ {data:=#[]}) e c a b (ii 0)
theorem Vw(K:KT):∀fu,tA lf r fu (fun a b c d e f g=>K (.exit 2) (zp [0,2,3,6,16,17,18] [a,b,c,d,
 e,f,g]))=fun a b c d e f g h i j=>aP (cQ 147 (pb 16 10647) lf r) Vv fu (zp Vv [a,b,c,d,e,f,g,h,i,j]) K
 |0=>jK
 |fu+1=>by have k:=Vw K fu;funext a b c d e f g h i j;rw[tA];simp only[k];kernel_rfl
theorem ahR(K:KT)(h:Nat):Ky lf r (fun a=>K (.exit 0) (zp [3] [a])) (fun a b c d e f g=>aP (cQ 147
 (pb 7 23) lf r) AM h (zp AM [a,b,c,d,e,f,g]) K)=(fun a b c d e f g=>(iK 147 (pb 7 23) (pb 8 83) AM h K lf
 r) (.exit 2) (zp [0,2,3,6,16,17,18] [a,b,c,d,e,f,g])):=by kernel_rfl
theorem Vx(K:KT):∀fu,vQ lf r fu (fun a=>K (.exit 0) (zp [3] [a]))=fun a b c d e f g=>aP (cQ 147 (pb
 7 23) lf r) AM fu (zp AM [a,b,c,d,e,f,g]) K
 |0=>jK
 |fu+1=>by have h:=Vx K fu;funext a b c d e f g;rw[vQ];simp only[h,ahR,Vw];kernel_rfl
theorem ahS:EY lf r=(fun a=>(tK 147 (pb 6 23) lf r) (.exit 0) (zp [3] [a])):=jK
theorem ahT:aD aa gt lf r 147 #[a]=inside (Kz lf r a):=by unfold Kz;simp only[ahS,Vx];kernel_rfl
def vR(lf:Nat)(r:RT):Nat->(V->V->V->V->V->V->V->V->V->V->M V)->V->V->V->V->V->V->V->V->V->V->V->V->V->V->V->V->M V|0,_,_,_,_,_,_,_,_,_,_,_,_,_,_,_,_,_=> .fail|fu+1,k,a,b,c,d,e,f,g,h,i,j,l,m,n,o,p,q=>aW q p (ar d (aZ {data:=#[48]}) fun t=>ar q (ii 1) fun d=>vR lf r fu k a b c t e f g h i j l m n o p d) (k a b c d e f h i j l)
def Vy:List Nat:=[0,2,3,4,5,6,7,12,15,16,17,18,24,26,27,28]
def EZ(lf:Nat)(r:RT)(k:(V->V->V->V->V->M V))(m:V->V->V->V->V->V->V->V->V->M V):(V->V->V->V->V->V->V->V->V->V->M V):=fun a b c d e f g h i j=>aO c f fun l=>bc l d fun _=>ar j (ii 1) fun l=>m a b c d e g h i l
def qd(lf:Nat)(r:RT):Nat->(V->V->V->V->V->M V)->V->V->V->V->V->V->V->V->V->M V|0,_,_,_,_,_,_,_,_,_,_=> .fail|fu+1,k,a,b,c,d,e,f,g,h,i=>cE i h fun j=>aK j (aO g i fun l=>aM l fun m=>hC m e fun l=>aK l (ar i (ii 1) fun n=>qd lf r fu k a b c d e f g h n) (ej d (aZ {data:=#[]}) fun n=>aK n (vR lf r lf (EZ lf r k (qd lf r fu k)) a b c d e i m f g h i j l n e (ii 0)) (ak r 178 [d,e] fun o=>aO c i fun d=>bc d o fun _=>ar i (ii 1) fun d=>qd lf r fu k a b c o e f g h d))) (k a b c d e)
def AN:List Nat:=[0,2,3,4,5,12,15,16,17]
abbrev Vz(lf:Nat)(r:RT)(a:Nat)(k:(V->V->V->V->V->M V)):(V->V->V->V->V->V->V->V->V->V->M V):=EZ lf r k (qd lf r a k)
def E0(lf:Nat)(r:RT)(k:(V->M V))(g:V->V->V->V->V->M V):(V->V->V->V->V->M V):=fun a b c d e=>ar e (ii 1) fun f=>g a b c d f
def tB(lf:Nat)(r:RT):Nat->(V->M V)->V->V->V->V->V->M V|0,_,_,_,_,_,_=> .fail|fu+1,k,a,b,c,d,e=>mL e (ii 20) fun f=>aK f (aT a fun g=>qd lf r lf (E0 lf r k (tB lf r fu k)) a b c d e f a g (ii 0)) (k c)
def AO:List Nat:=[0,2,3,4,5]
abbrev KA(lf:Nat)(r:RT)(a:Nat)(k:(V->M V)):(V->V->V->V->V->M V):=E0 lf r k (tB lf r a k)
def yl(lf:Nat)(r:RT):(V->M V):=fun a=>aj [a]
def KB(lf:Nat)(r:RT)(a:V):M V:=aT a fun b=>gP 9 [(aZ {data:=#[]})] b b fun c=>tB lf r lf (yl lf r) a nS c (aZ {data:=#[]}) (ii 1)
theorem VA(K:KT):∀fu,vR lf r fu (fun a b c d e f g h i j=>K (.exit 4) (zp [0,2,3,4,5,6,12,15,16,
 17] [a,b,c,d,e,f,g,h,i,j]))=fun a b c d e f g h i j l m n o p q=>aP (cQ 148 (pb 25 5661847) lf r) Vy fu (zp Vy [a,b,
 c,d,e,f,g,h,i,j,l,m,n,o,p,q]) K
 |0=>jK
 |fu+1=>by have k:=VA K fu;funext a b c d e f g h i j l m n o p q;rw[vR];simp only[k];kernel_rfl
theorem ahU(K:KT)(k:Nat):EZ lf r (fun a b c d e=>K (.exit 2) (zp [0,2,3,4,5] [a,b,c,d,e])) (fun
 a b c d e f g h i=>aP (cQ 148 (pb 13 1175) lf r) AN k (zp AN [a,b,c,d,e,f,g,h,i]) K)=(fun a b c d e f g h i j=>(iK
 148 (pb 13 1175) (pb 11 691) AN k K lf r) (.exit 4) (zp [0,2,3,4,5,6,12,15,16,17] [a,b,c,d,e,f,g,h,i,j])):=by kernel_rfl
theorem VB(K:KT):∀fu,qd lf r fu (fun a b c d e=>K (.exit 2) (zp [0,2,3,4,5] [a,b,c,d,e]))=fun
 a b c d e f g h i=>aP (cQ 148 (pb 13 1175) lf r) AN fu (zp AN [a,b,c,d,e,f,g,h,i]) K
 |0=>jK
 |fu+1=>by have j:=VB K fu;funext a b c d e f g h i;rw[qd];simp only[j,ahU,VA];kernel_rfl
theorem ahV(K:KT)(f:Nat):E0 lf r (fun a=>K (.exit 0) (zp [3] [a])) (fun a b c d e=>aP (cQ 148 (pb
 7 23) lf r) AO f (zp AO [a,b,c,d,e]) K)=(fun a b c d e=>(iK 148 (pb 7 23) (pb 5 9) AO f K lf r) (.exit 2)
 (zp [0,2,3,4,5] [a,b,c,d,e])):=by kernel_rfl
theorem VC(K:KT):∀fu,tB lf r fu (fun a=>K (.exit 0) (zp [3] [a]))=fun a b c d e=>aP (cQ 148 (pb 7
 23) lf r) AO fu (zp AO [a,b,c,d,e]) K
 |0=>jK
 |fu+1=>by have f:=VC K fu;funext a b c d e;rw[tB];simp only[f,ahV,VB];kernel_rfl
theorem ahW:yl lf r=(fun a=>(tK 148 (pb 6 23) lf r) (.exit 0) (zp [3] [a])):=jK
theorem ahX:aD aa gt lf r 148 #[a]=inside (KB lf r a):=by unfold KB;simp only[ahW,VC];kernel_rfl
def VD(lf:Nat)(r:RT)(a b:V):M V:=gK a (some b) none fun c=>gK a none (some b) fun d=>ar c d fun e=>aj [e]
theorem ahY:aD aa gt lf r 151 #[a,b]=inside (VD lf r a b):=jK
def VE(lf:Nat)(r:RT)(a b c:V):M V:=ak r 151 [a,b] fun d=>ak r 151 [a,c] fun e=>aW d e (aj [bT]) (cT d e (cE b c fun h=>aj [h]) (aj [bF]))
theorem ahZ:aD aa gt lf r 152 #[a,b,c]=inside (VE lf r a b c):=jK
def VF(lf:Nat)(r:RT)(a:V):M V:=fz 113 a fun b=>aA 1 b fun d=>aW d (ii 1) (aj [(aZ {data:=#[]}),(ii 1)]) (aA 1 b fun g=>fi g (ii 255) (aj [(aZ {data:=#[]}),(ii 1)]) (bR 2 b fun c=>ak r 180 [c] fun d=>aj [d,(ii 0)]))
theorem ah0:aD aa gt lf r 153 #[a]=inside (VF lf r a):=jK
def VG(lf:Nat)(r:RT)(a b:V):M V:=An a nP (au a fun d=>ba 0 d fun e=>au a fun f=>aA 256 f fun h=>ak r 181 [e,h,b] fun i=>au a fun j=>ba 256 j fun l=>bc l i fun _=>aj []) (aj [])
theorem ah1:aD aa gt lf r 154 #[a,b]=inside (VG lf r a b):=jK
def KC(lf:Nat)(r:RT)(a:V):M V:=ak r 182 [a] fun b=>au a fun b=>ba 6 b fun c=>aA 2 c fun e=>fi e (ii 0) (au a fun g=>aA 9 g fun i=>au a fun j=>ba 6 j fun l=>aA 1 l fun n=>au a fun o=>ba 6 o fun p=>aA 0 p fun s=>bL n s fun t=>cE i t fun u=>(fun b=>aK u (ak r 183 [a] fun c=>b) (au a fun c=>ba 6 c fun d=>aA 2 d fun f=>fi f (ii 0) (ak r 184 [a] fun c=>b) (au a fun c=>aA 5 c fun e=>aT e fun f=>fi f (ii 0) (ak r 185 [a] fun c=>b) (ak r 186 [a] fun c=>b)))) (au a fun b=>aA 14 b fun d=>ar d (ii 1) fun e=>au a fun f=>ba 14 f fun g=>bc g e fun _=>aj [])) (au a fun b=>ba 6 b fun c=>aA 2 c fun e=>jr e (ii 0) fun f=>(fun b=>aK f (ak r 184 [a] fun c=>b) (au a fun c=>aA 5 c fun e=>aT e fun g=>fi g (ii 0) (ak r 185 [a] fun c=>b) (ak r 186 [a] fun c=>b))) (au a fun b=>aA 14 b fun d=>ar d (ii 1) fun e=>au a fun g=>ba 14 g fun h=>bc h e fun _=>aj []))
theorem VH:aD aa gt lf r 155 #[a]=inside (KC lf r a):=jK
def KD(lf:Nat)(r:RT)(a:V):M V:=Rz a nS (aj [nS]) (q8 3 [] 0 [] fun c=>bH 3 1 c a fun d=>aj [d])
theorem VI:aD aa gt lf r 156 #[a]=inside (KD lf r a):=jK
def KE(lf:Nat)(r:RT)(a b:V):M V:=cT b (ii 0) (cS a fun d=>bL d (ii 1) fun e=>gJ a e fun f=>aj [f]) (bL b (ii 1) fun d=>gJ a d fun e=>aj [e])
theorem VJ:aD aa gt lf r 157 #[a,b]=inside (KE lf r a b):=jK
def KF(lf:Nat)(r:RT)(a b:V):M V:=au a fun c=>aA 0 c fun e=>aO e b fun f=>aM f fun g=>au a fun c=>aA 0 c fun e=>ar b (ii 1) fun f=>lR 5 1 e (some (ii 1)) (some f) fun h=>au a fun i=>aA 0 i fun l=>lR 5 1 l none (some b) fun m=>Dx 1 h m fun n=>au a fun c=>aA 0 c fun e=>aO e (ii 0) fun f=>bc f g fun _=>aj [g]
theorem VK:aD aa gt lf r 159 #[a,b]=inside (KF lf r a b):=jK
def vS(lf:Nat)(r:RT):Nat->((M V)×(V->M V))->V->V->V->V->V->M V|0,_,_,_,_,_,_=> .fail|fu+1,k,a,b,c,d,e=>aW e d (aO a e fun g=>aM g fun h=>cT b h (k.2 e) (ar e (ii 1) fun g=>vS lf r fu k a b c d g)) (k.1)
def VL:List Nat:=[0,1,4,7,8]
def AP(lf:Nat)(r:RT):(M V)×(V->M V):=(aj [(ii (-1))],fun a=>aj [a])
def E1(lf:Nat)(r:RT)(a b:V):M V:=aT a fun c=>vS lf r lf (AP lf r) a b (ii 0) c (ii 0)
theorem VM(K:KT):∀fu,vS lf r fu ((K (.exit 0) [],fun a=>K .ret (zp [4] [a])))=fun a b c d e
 =>aP (cQ 160 (pb 5 5) lf r) VL fu (zp VL [a,b,c,d,e]) K
 |0=>jK
 |fu+1=>by have f:=VM K fu;funext a b c d e;rw[vS];simp only[f];kernel_rfl
theorem ah2:AP lf r=(((tK 160 (pb 4 5) lf r) (.exit 0) [],fun a=>(tK 160 (pb 4 5) lf r) .ret (zp [4] [a]))):=jK
theorem VN:aD aa gt lf r 160 #[a,b]=inside (E1 lf r a b):=by unfold E1;simp only[ah2,VM];kernel_rfl
def vT(lf:Nat)(r:RT):Nat->(V->V->M V)->V->V->V->V->V->V->V->V->V->V->V->M V|0,_,_,_,_,_,_,_,_,_,_,_,_=> .fail|fu+1,k,a,b,c,d,e,f,g,h,i,j,l=>aW l (ii 4) (aA 0 h fun o=>ak r 191 [g,o,b] fun p=>bj p 0 fun q=>bj p 1 fun s=>dz mP [(0,1,s),(1,1,q)] fun n=>b9 2 h n fun _=>ar l (ii 1) fun n=>vT lf r fu k a b c d e f g h i j n) (k c h)
def VO:List Nat:=[0,1,4,5,6,7,8,9,18,27,40]
def E2(lf:Nat)(r:RT):(V->V->M V):=fun a b=>bR 2 b fun c=>b9 2 a c fun _=>bR 2 a fun b=>aj [b,(ii 0)]
def AQ(lf:Nat)(r:RT)(a b:V):M V:=cU 178 mP fun c=>ak r 188 [a,b] fun d=>bj d 0 fun e=>bj d 1 fun f=>gQ f (ii 0) (dz mP [] fun d=>b9 2 c d fun _=>bR 2 c fun a=>aj [a,(ii 1)]) (aT a fun g=>ej g (ii 0) fun h=>aK h (dz mP [] fun d=>b9 2 c d fun _=>bR 2 c fun a=>aj [a,(ii 1)]) (aT a fun d=>ak r 167 [d] fun g=>jr g (ii 32767) fun i=>aK i (dz mP [] fun d=>b9 2 c d fun _=>bR 2 c fun a=>aj [a,(ii 2)]) (ak r 189 [a] fun d=>aT a fun g=>ak r 190 [e,g] fun j=>dz mP [(0,1,j)] fun l=>cU 178 mP fun m=>b9 2 m l fun _=>vT lf r lf (E2 lf r) a b c (ii 0) e f d m h i (ii 0))))
theorem VP(K:KT):∀fu,vT lf r fu (fun a b=>K (.exit 1) (zp [4,9] [a,b]))=fun a b c d e f g h i j l=>aP (cQ 161
 (pb 9 95) lf r) VO fu (zp VO [a,b,c,d,e,f,g,h,i,j,l]) K
 |0=>jK
 |fu+1=>by have k:=VP K fu;funext a b c d e f g h i j l;rw[vT];simp only[k];kernel_rfl
theorem ah3:E2 lf r=(fun a b=>(tK 161 (pb 8 95) lf r) (.exit 1) (zp [4,9] [a,b])):=jK
theorem KH:aD aa gt lf r 161 #[a,b]=inside (AQ lf r a b):=by unfold AQ;simp only[ah3,VP];kernel_rfl
def KI(lf:Nat)(r:RT)(a b:V):M V:=fz 3 b fun c=>aM c fun d=>ak r 192 [d] fun e=>ek e fun f=>aK f (aj [bF]) (aT a fun g=>cT g (ii 0) (aj [bF]) (aT a fun i=>fi i (ii 32767) (aj [bF]) (ak r 193 [a,(zy (HB 194) #[] #[c])] fun d=>ek d fun e=>aj [e])))
theorem VQ:aD aa gt lf r 162 #[a,b]=inside (KI lf r a b):=jK
def vU(lf:Nat)(r:RT):Nat->(V->M V)->V->V->V->V->V->V->V->M V|0,_,_,_,_,_,_,_,_=> .fail|fu+1,k,a,b,c,d,e,f,g=>aW g f (aO e g fun i=>aM i fun j=>ak r 196 [c,j] fun i=>aO d g fun l=>bc l i fun _=>ar g (ii 1) fun i=>vU lf r fu k a b c d e f i) (k d)
def VS:List Nat:=[0,2,3,4,11,12,13]
def E3(lf:Nat)(r:RT):(V->M V):=fun a=>aj [a]
def E4(lf:Nat)(r:RT)(a:V):M V:=ak r 195 [] fun b=>cU 237 DU fun c=>b9 6 c b fun _=>aT a fun b=>gP 3 [(ii 0)] b b fun d=>aT a fun b=>vU lf r lf (E3 lf r) a nS c d a b (ii 0)
theorem VT(K:KT):∀fu,vU lf r fu (fun a=>K (.exit 0) (zp [4] [a]))=fun a b c d e f g=>aP (cQ 163 (pb 7 23)
 lf r) VS fu (zp VS [a,b,c,d,e,f,g]) K
 |0=>jK
 |fu+1=>by have h:=VT K fu;funext a b c d e f g;rw[vU];simp only[h];kernel_rfl
theorem ah4:E3 lf r=(fun a=>(tK 163 (pb 6 23) lf r) (.exit 0) (zp [4] [a])):=jK
theorem VU:aD aa gt lf r 163 #[a]=inside (E4 lf r a):=by unfold E4;simp only[ah4,VT];kernel_rfl
def KJ(lf:Nat)(r:RT)(a:V):M V:=aT a fun b=>ak r 197 [b] fun c=>aK c (ak r 193 [a,(zy (.func 198) #[] #[])] fun d=>ek d fun e=>aj [e]) (aj [bF])
theorem VV:aD aa gt lf r 164 #[a]=inside (KJ lf r a):=jK
def vV(lf:Nat)(r:RT):Nat->(V->V->V->V->V->V->V->V->V->M V)->V->V->V->V->V->V->V->V->M V|0,_,_,_,_,_,_,_,_,_=> .fail|fu+1,k,a,b,c,d,e,f,g,h=>cE c d fun i=>aK i (gI aa r b [(ii 2),(ii 2)] fun j=>ar c (ii 1) fun j=>vV lf r fu k a b j d e f g h) (k a b c d e f g h i)
def VW:List Nat:=[0,1,4,6,13,14,15,16]
def vW(lf:Nat)(r:RT):Nat->(V->V->V->V->V->V->M V)->V->V->V->V->V->V->V->V->V->M V|0,_,_,_,_,_,_,_,_,_,_=> .fail|fu+1,k,a,b,c,d,e,f,g,h,i=>fi c d (gI aa r b [(ii 3),(ii 2)] fun l=>bL c (ii 1) fun l=>vW lf r fu k a b l d e f g h i) (k a b c e f g)
def VX:List Nat:=[0,1,4,6,13,14,15,16,21]
def KL(lf:Nat)(r:RT)(k:(M V))(h:V->V->V->V->V->V->M V):(V->V->V->V->V->V->M V):=fun a b c d e f=>gI aa r b [(ii 0),(ii 1)] fun g=>ar f (ii 1) fun g=>h a b c d e g
def E5(lf:Nat)(r:RT)(k:(M V))(j:V->V->V->V->V->V->M V):(V->V->V->V->V->V->V->V->V->M V):=fun a b c d e f g h i=>vW lf r lf (KL lf r k j) a b c d e f g h i
def vX(lf:Nat)(r:RT):Nat->(M V)->V->V->V->V->V->V->M V|0,_,_,_,_,_,_,_=> .fail|fu+1,k,a,b,c,d,e,f=>cE f e fun g=>aK g (aO d f fun h=>aM h fun i=>vV lf r lf (E5 lf r k (vX lf r fu k)) a b c i d e f g) (k)
def tC:List Nat:=[0,1,4,13,14,15]
def E6(lf:Nat)(r:RT):(M V):=aj []
def E7(lf:Nat)(r:RT)(a b:V):M V:=aO a (ii 0) fun c=>aM c fun d=>gI aa r b [d,(ii 5)] fun c=>aT a fun c=>vX lf r lf (E6 lf r) a b d a c (ii 0)
theorem VY(K:KT):∀fu,vV lf r fu (fun a b c d e f g h i=>K (.exit 2) (zp [0,1,4,6,13,14,15,16,21] [a,b,c,
 d,e,f,g,h,i]))=fun a b c d e f g h=>aP (cQ 165 (pb 13 615) lf r) VW fu (zp VW [a,b,c,d,e,f,g,h]) K
 |0=>jK
 |fu+1=>by have j:=VY K fu;funext a b c d e f g h;rw[vV];simp only[j];kernel_rfl
theorem KM(K:KT):∀fu,vW lf r fu (fun a b c d e f=>K (.exit 4) (zp [0,1,4,13,14,15] [a,b,c,d,e,f]))=fun
 a b c d e f g h i=>aP (cQ 165 (pb 14 1639) lf r) VX fu (zp VX [a,b,c,d,e,f,g,h,i]) K
 |0=>jK
 |fu+1=>by have j:=KM K fu;funext a b c d e f g h i;rw[vW];simp only[j];kernel_rfl
theorem VZ(K:KT)(g:Nat):KL lf r (K (.exit 0) []) (fun a b c d e f=>aP (cQ 165 (pb 5 7) lf r) tC
 g (zp tC [a,b,c,d,e,f]) K)=(fun a b c d e f=>(iK 165 (pb 5 7) (pb 8 51) tC g K lf r) (.exit 4) (zp [0,1,4,13,14,15] [a,b,c,d,e,f])):=by kernel_rfl
theorem ah5(K:KT)(j:Nat):E5 lf r (K (.exit 0) []) (fun a b c d e f=>aP (cQ 165 (pb 5 7) lf r) tC
 j (zp tC [a,b,c,d,e,f]) K)=(fun a b c d e f g h i=>(iK 165 (pb 5 7) (pb 7 19) tC j K lf r) (.exit 2) (zp [0,1,4,6,13,14,15,
 16,21] [a,b,c,d,e,f,g,h,i])):=by
 unfold E5;simp only[VZ,KM];kernel_rfl
theorem V0(K:KT):∀fu,vX lf r fu (K (.exit 0) [])=fun a b c d e f=>aP (cQ 165 (pb 5 7) lf r) tC fu (zp tC [a,b,c,d,e,f]) K
 |0=>jK
 |fu+1=>by have g:=V0 K fu;funext a b c d e f;rw[vX];simp only[g,ah5,VZ,VY,KM];kernel_rfl
theorem ah6:E6 lf r=((tK 165 (pb 4 7) lf r) (.exit 0) []):=jK
theorem V1:aD aa gt lf r 165 #[a,b]=inside (E7 lf r a b):=by unfold E7;simp only[ah6,V0];kernel_rfl
def KO(lf:Nat)(r:RT)(a b c:V):M V:=aM c fun d=>ar d b fun e=>bc c e fun _=>aj []
theorem V2:aD aa gt lf r 166 #[a,b,c]=inside (KO lf r a b c):=jK
def KP(lf:Nat)(r:RT)(a:V):M V:=ye a (ii 0) (aj [(ii 0)]) (bL a (ii 1) fun c=>iE c (ii 50) fun d=>ar d (ii 1) fun e=>aj [e])
theorem V4:aD aa gt lf r 167 #[a]=inside (KP lf r a):=jK
def KQ(lf:Nat)(r:RT)(a b:V):M V:=aW b (ii 0) (aj [nS,(ii 1)]) (aT a fun d=>ak r 167 [d] fun e=>hZ b e (aj [nS,(ii 1)]) (ak r 200 [a,b,(ii 50)] fun c=>aj [c,(ii 0)]))
theorem V5:aD aa gt lf r 168 #[a,b]=inside (KQ lf r a b):=jK
def vY(lf:Nat)(r:RT):Nat->((V->M V)×(V->V->M V))->V->V->V->V->V->V->V->V->V->M V|0,_,_,_,_,_,_,_,_,_,_=> .fail|fu+1,k,a,b,c,d,e,f,g,h,i=>aW i h (aO g i fun l=>aM l fun m=>aW m (ii 0) (k.2 (ii 0) (ii 1)) (aT b fun n=>hZ m n (k.2 (ii 0) (ii 1)) (aO b m fun l=>aM l fun n=>ak r 202 [e,n] fun p=>ar i (ii 1) fun e=>vY lf r fu k a b c d p f g h e))) (k.1 e)
def V6:List Nat:=[0,1,4,5,6,11,12,13,14]
def ym(lf:Nat)(r:RT):(V->M V)×(V->V->M V):=(fun a=>aj [a,(ii 0)],fun a b=>aj [a,b])
def E8(lf:Nat)(r:RT)(a b:V):M V:=ak r 201 [b] fun c=>ek c fun d=>aK d (aj [(ii 0),(ii 1)]) (aT a fun c=>vY lf r lf (ym lf r) a b (ii 0) (ii 0) (ii 0) d a c (ii 0))
theorem V7(K:KT):∀fu,vY lf r fu ((fun a=>K (.exit 0) (zp [6] [a]),fun a b=>K .ret (zp [4,5] [a,b])))=fun a b c
 d e f g h i=>aP (cQ 169 (pb 7 23) lf r) V6 fu (zp V6 [a,b,c,d,e,f,g,h,i]) K
 |0=>jK
 |fu+1=>by have j:=V7 K fu;funext a b c d e f g h i;rw[vY];simp only[j];kernel_rfl
theorem ah7:ym lf r=((fun a=>(tK 169 (pb 6 23) lf r) (.exit 0) (zp [6] [a]),fun a b=>(tK 169 (pb 6 23) lf r) .ret (zp [4,5] [a,b]))):=jK
theorem V8:aD aa gt lf r 169 #[a,b]=inside (E8 lf r a b):=by unfold E8;simp only[ah7,V7];kernel_rfl
def KR(lf:Nat)(r:RT)(a b c:V):M V:=aM c fun d=>ey .u32 a fun e=>ak r 56 [d,e,b] fun f=>aj []
theorem V9:aD aa gt lf r 170 #[a,b,c]=inside (KR lf r a b c):=jK
def KS(lf:Nat)(r:RT)(a:V):M V:=ak r 203 [a] fun b=>bj b 0 fun c=>bj b 1 fun d=>cT d (ii 0) (cT c (ii 1048576) (ak r 204 [a,(ii 0)] fun f=>ek f fun g=>aj [g]) (aj [bF])) (aj [bF])
theorem V':aD aa gt lf r 171 #[a]=inside (KS lf r a):=jK
def KU(lf:Nat)(r:RT)(a b:V):M V:=iU a nP (aj [(i3 0),(ii 0),(ii 7)]) (aW b (ii 0) (aj [(i3 0),(ii 0),(ii 1)]) (au a fun e=>aA 0 e fun g=>aT g fun h=>hZ b h (aj [(i3 0),(ii 0),(ii 1)]) (au a fun d=>aA 1 d fun f=>aO f b fun g=>aM g fun h=>au a fun j=>aA 0 j fun m=>aO m b fun n=>aM n fun o=>aj [h,o,(ii 0)])))
theorem Wa:aD aa gt lf r 172 #[a,b]=inside (KU lf r a b):=jK
def tD(lf:Nat)(r:RT):Nat->(V->V->V->V->V->V->V->V->M V)->V->V->V->V->V->V->V->V->V->V->V->V->V->V->M V|0,_,_,_,_,_,_,_,_,_,_,_,_,_,_,_=> .fail|fu+1,k,a,b,c,d,e,f,g,h,i,j,l,m,n,o=>aW o n (aO m o fun q=>aM q fun s=>bL b (ii 1) fun q=>jr h q fun t=>(fun q=>aK t (bL b (ii 1) fun u=>q u) (q h)) fun h=>jq h d fun q=>iE q b fun u=>ej u f fun v=>(fun q=>aK v (bV 3 1 (ii 0) fun u=>bH 3 1 g u fun w=>q w) (bV 3 1 (ii 15) fun u=>bH 3 1 g u fun w=>q w)) fun g=>ar h s fun q=>ar o (ii 1) fun h=>tD lf r fu k a b c d e f g q i j l m n h) (k a b c d e g i j)
def Wc:List Nat:=[0,1,4,5,6,7,8,9,14,15,16,18,19,20]
def E9(lf:Nat)(r:RT)(k:(V->M V))(l:V->V->V->V->V->V->V->M V):(V->V->V->V->V->V->V->V->M V):=fun a b c d e f g h=>bV 141 1 f fun i=>bH 141 1 e i fun j=>ar h (ii 1) fun e=>l a b c d j g e
def tE(lf:Nat)(r:RT):Nat->(V->M V)->V->V->V->V->V->V->V->M V|0,_,_,_,_,_,_,_,_=> .fail|fu+1,k,a,b,c,d,e,f,g=>cE g f fun h=>aK h (aT a fun i=>tD lf r lf (E9 lf r k (tE lf r fu k)) a b c d e g nS (ii 0) f g h a i (ii 0)) (k e)
def AR:List Nat:=[0,1,4,5,6,14,15]
abbrev KV(lf:Nat)(r:RT)(a:Nat)(k:(V->M V)):(V->V->V->V->V->V->V->V->M V):=E9 lf r k (tE lf r a k)
def yn(lf:Nat)(r:RT):(V->M V):=fun a=>aj [a]
def KW(lf:Nat)(r:RT)(a b:V):M V:=ak r 205 [b] fun c=>tE lf r lf (yn lf r) a b nS c nS c (ii 0)
theorem Wd(K:KT):∀fu,tD lf r fu (fun a b c d e f g h=>K (.exit 2) (zp [0,1,4,5,6,8,14,15] [a,b,
 c,d,e,f,g,h]))=fun a b c d e f g h i j l m n o=>aP (cQ 173 (pb 18 47511) lf r) Wc fu (zp Wc [a,b,c,d,e,f,g,h,i,j,l,m,n,o]) K
 |0=>jK
 |fu+1=>by have k:=Wd K fu;funext a b c d e f g h i j l m n o;rw[tD];simp only[k];kernel_rfl
theorem ah8(K:KT)(i:Nat):E9 lf r (fun a=>K (.exit 0) (zp [6] [a])) (fun a b c d e f g=>aP (cQ 173
 (pb 7 23) lf r) AR i (zp AR [a,b,c,d,e,f,g]) K)=(fun a b c d e f g h=>(iK 173 (pb 7 23) (pb 10 371) AR i
 K lf r) (.exit 2) (zp [0,1,4,5,6,8,14,15] [a,b,c,d,e,f,g,h])):=by kernel_rfl
theorem We(K:KT):∀fu,tE lf r fu (fun a=>K (.exit 0) (zp [6] [a]))=fun a b c d e f g=>aP (cQ 173
 (pb 7 23) lf r) AR fu (zp AR [a,b,c,d,e,f,g]) K
 |0=>jK
 |fu+1=>by have h:=We K fu;funext a b c d e f g;rw[tE];simp only[h,ah8,Wd];kernel_rfl
theorem ah9:yn lf r=(fun a=>(tK 173 (pb 6 23) lf r) (.exit 0) (zp [6] [a])):=jK
theorem ah':aD aa gt lf r 173 #[a,b]=inside (KW lf r a b):=by unfold KW;simp only[ah9,We];kernel_rfl
def vZ(lf:Nat)(r:RT):Nat->(V->M V)->V->V->V->V->V->V->M V|0,_,_,_,_,_,_,_=> .fail|fu+1,k,a,b,c,d,e,f=>aW f e (ak r 206 [a,f] fun h=>bV 3 1 h fun i=>bH 3 1 d i fun j=>ar f (ii 1) fun d=>vZ lf r fu k a b c j e d) (k d)
def Wf:List Nat:=[0,1,4,5,7,8]
def E'(lf:Nat)(r:RT):(V->M V):=fun a=>aj [a]
def KX(lf:Nat)(r:RT)(a b:V):M V:=vZ lf r lf (E' lf r) a b nS nS b (ii 0)
theorem Wg(K:KT):∀fu,vZ lf r fu (fun a=>K (.exit 0) (zp [5] [a]))=fun a b c d e f=>aP (cQ 174
 (pb 6 11) lf r) Wf fu (zp Wf [a,b,c,d,e,f]) K
 |0=>jK
 |fu+1=>by have g:=Wg K fu;funext a b c d e f;rw[vZ];simp only[g];kernel_rfl
theorem ah_:E' lf r=(fun a=>(tK 174 (pb 5 11) lf r) (.exit 0) (zp [5] [a])):=jK
theorem aia:aD aa gt lf r 174 #[a,b]=inside (KX lf r a b):=by unfold KX;simp only[ah_,Wg];kernel_rfl
def qe(lf:Nat)(r:RT):Nat->(V->M V)->V->V->V->V->V->V->V->M V|0,_,_,_,_,_,_,_,_=> .fail|fu+1,k,a,b,c,d,e,f,g=>aW g f (aO e g fun i=>aM i fun j=>bV 3 1 j fun i=>bH 3 1 d i fun l=>aT l fun d=>cT d (ii 50) (bV 141 1 l fun d=>bH 141 1 c d fun i=>ar g (ii 1) fun c=>qe lf r fu k a b i nS e f c) (ar g (ii 1) fun m=>aT a fun n=>cT m n (bV 141 1 l fun d=>bH 141 1 c d fun i=>ar g (ii 1) fun c=>qe lf r fu k a b i nS e f c) (ar g (ii 1) fun d=>qe lf r fu k a b c l e f d))) (k c)
def Wi:List Nat:=[0,2,3,4,7,8,9]
def AU(lf:Nat)(r:RT):(V->M V):=fun a=>aj [a]
def KY(lf:Nat)(r:RT)(a:V):M V:=aT a fun b=>qe lf r lf (AU lf r) a nS nS nS a b (ii 0)
theorem Wj(K:KT):∀fu,qe lf r fu (fun a=>K (.exit 0) (zp [3] [a]))=fun a b c d e f g=>aP (cQ 175
 (pb 7 23) lf r) Wi fu (zp Wi [a,b,c,d,e,f,g]) K
 |0=>jK
 |fu+1=>by have h:=Wj K fu;funext a b c d e f g;rw[qe];simp only[h];kernel_rfl
theorem aib:AU lf r=(fun a=>(tK 175 (pb 6 23) lf r) (.exit 0) (zp [3] [a])):=jK
theorem aic:aD aa gt lf r 175 #[a]=inside (KY lf r a):=by unfold KY;simp only[aib,Wj];kernel_rfl
def tF(lf:Nat)(r:RT):Nat->(V->M V)->V->V->V->V->V->V->V->M V|0,_,_,_,_,_,_,_,_=> .fail|fu+1,k,a,b,c,d,e,f,g=>aW g f (aO e g fun i=>aM i fun j=>(bx (ak r 207 [a,j] M.ret)).bind fun i=>aO b d fun l=>(bx (aM l M.ret)).bind fun m=>(bx (ak r 207 [a,m.1] M.ret)).bind fun n=>cE i.1 n.1 fun o=>lT ((!(fs i.2 m.2)&&true)&&true) (aK o (ar g (ii 1) fun d=>tF lf r fu k a b c g e f d) (ar g (ii 1) fun i=>tF lf r fu k a b c d e f i))) (k d)
def Wk:List Nat:=[0,1,4,5,8,9,10]
def Fa(lf:Nat)(r:RT):(V->M V):=fun a=>aj [a]
def KZ(lf:Nat)(r:RT)(a b:V):M V:=aT b fun c=>tF lf r lf (Fa lf r) a b (ii 0) (ii 0) b c (ii 0)
theorem Wl(K:KT):∀fu,tF lf r fu (fun a=>K (.exit 0) (zp [5] [a]))=fun a b c d e f g=>aP (cQ 176 (pb
 6 11) lf r) Wk fu (zp Wk [a,b,c,d,e,f,g]) K
 |0=>jK
 |fu+1=>by have h:=Wl K fu;funext a b c d e f g;rw[tF];simp only[h];kernel_rfl
theorem aid:Fa lf r=(fun a=>(tK 176 (pb 5 11) lf r) (.exit 0) (zp [5] [a])):=jK
theorem aie:aD aa gt lf r 176 #[a,b]=inside (KZ lf r a b):=by unfold KZ;simp only[aid,Wl];kernel_rfl
def rz(lf:Nat)(r:RT):Nat->(V->V->V->V->V->V->V->M V)->V->V->V->V->V->V->M V|0,_,_,_,_,_,_,_=> .fail|fu+1,k,a,b,c,d,e,f=>cE f e fun g=>aK g (aO d f fun h=>aM h fun i=>cT i (ii 0) (bV 3 1 (ii 1) fun i=>bH 3 1 c i fun j=>ar f (ii 1) fun c=>rz lf r fu k a b j d e c) (bV 3 1 i fun j=>bH 3 1 c j fun l=>ar f (ii 1) fun c=>rz lf r fu k a b l d e c)) (k a b c d e f g)
def Wm:List Nat:=[0,2,3,7,8,9]
def wc(lf:Nat)(r:RT):Nat->((M V)×(V->M V))->V->V->V->V->V->V->V->V->M V|0,_,_,_,_,_,_,_,_,_=> .fail|fu+1,k,a,b,c,d,e,f,g,h=>aW h (ii 100) (ak r 208 [c] fun j=>ak r 209 [j,(ii 1),(ii 20)] fun l=>aK l (k.2 j) (ak r 210 [c] fun m=>ar h (ii 1) fun c=>wc lf r fu k a b m d e f g c)) (k.1)
def Wn:List Nat:=[0,2,3,7,8,9,10,20]
def Fb(lf:Nat)(r:RT):(M V)×(V->M V):=(aj [nS],fun a=>aj [a])
def Fc(lf:Nat)(r:RT):(V->V->V->V->V->V->V->M V):=fun a b c d e f g=>wc lf r lf (Fb lf r) a b c d e f g (ii 0)
def K0(lf:Nat)(r:RT)(a:V):M V:=aT a fun b=>rz lf r lf (Fc lf r) a nS nS a b (ii 0)
theorem Wo(K:KT):∀fu,rz lf r fu (fun a b c d e f g=>K (.exit 0) (zp [0,2,3,7,8,9,10] [a,b,c,d,e,f,
 g]))=fun a b c d e f=>aP (cQ 177 (pb 6 11) lf r) Wm fu (zp Wm [a,b,c,d,e,f]) K
 |0=>jK
 |fu+1=>by have h:=Wo K fu;funext a b c d e f;rw[rz];simp only[h];kernel_rfl
theorem K1(K:KT):∀fu,wc lf r fu ((K (.exit 2) [],fun a=>K .ret (zp [2] [a])))=fun a b c d e f g h=>aP
 (cQ 177 (pb 7 23) lf r) Wn fu (zp Wn [a,b,c,d,e,f,g,h]) K
 |0=>jK
 |fu+1=>by have i:=K1 K fu;funext a b c d e f g h;rw[wc];simp only[i];kernel_rfl
theorem Wp:Fb lf r=(((tK 177 (pb 6 23) lf r) (.exit 2) [],fun a=>(tK 177 (pb 6 23) lf r) .ret (zp [2] [a]))):=jK
theorem aif:Fc lf r=(fun a b c d e f g=>(tK 177 (pb 5 11) lf r) (.exit 0) (zp [0,2,3,7,8,9,10] [a,b,c,d,e,f,g])):=by unfold Fc;simp only[Wp,K1];kernel_rfl
theorem aih:aD aa gt lf r 177 #[a]=inside (K0 lf r a):=by unfold K0;simp only[aif,Wp,Wo,K1];kernel_rfl
def tG(lf:Nat)(r:RT):Nat->(V->V->V->V->V->V->V->M V)->V->V->V->V->V->V->M V|0,_,_,_,_,_,_,_=> .fail|fu+1,k,a,b,c,d,e,f=>pY f (ii 0) fun g=>aK g (gJ a f fun h=>ej h (i1 49) fun i=>zU i e fun h=>(fun l=>aK h (ar (aZ {data:=#[49]}) d fun j=>l j) (ar (aZ {data:=#[48]}) d fun j=>l j)) fun d=>aK e (bL f (ii 1) fun e=>tG lf r fu k a b c d i e) (bL f (ii 1) fun e=>tG lf r fu k a b c d bF e)) (k a b c d e f g)
def Wq:List Nat:=[0,1,4,5,6,7]
def we(lf:Nat)(r:RT):Nat->(V->M V)->V->V->V->V->V->V->V->M V|0,_,_,_,_,_,_,_,_=> .fail|fu+1,k,a,b,c,d,e,f,g=>cS d fun h=>aW h b (ar d (aZ {data:=#[48]}) fun h=>we lf r fu k a b c h e f g) (k d)
def Wt:List Nat:=[0,1,4,5,6,7,13]
def Fe(lf:Nat)(r:RT):(V->M V):=fun a=>aj [a]
def AV(lf:Nat)(r:RT):(V->V->V->V->V->V->V->M V):=fun a b c d e f g=>we lf r lf (Fe lf r) a b c d e f g
def K4(lf:Nat)(r:RT)(a b:V):M V:=cS a fun c=>bL c (ii 1) fun d=>tG lf r lf (AV lf r) a b (aZ {data:=#[]}) (aZ {data:=#[]}) bT d
theorem Wu(K:KT):∀fu,tG lf r fu (fun a b c d e f g=>K (.exit 0) (zp [0,1,4,5,6,7,13] [a,b,c,d,e,
 f,g]))=fun a b c d e f=>aP (cQ 178 (pb 7 23) lf r) Wq fu (zp Wq [a,b,c,d,e,f]) K
 |0=>jK
 |fu+1=>by have h:=Wu K fu;funext a b c d e f;rw[tG];simp only[h];kernel_rfl
theorem K5(K:KT):∀fu,we lf r fu (fun a=>K (.exit 2) (zp [5] [a]))=fun a b c d e f g=>aP (cQ 178 (pb
 7 15) lf r) Wt fu (zp Wt [a,b,c,d,e,f,g]) K
 |0=>jK
 |fu+1=>by have h:=K5 K fu;funext a b c d e f g;rw[we];simp only[h];kernel_rfl
theorem Wv:Fe lf r=(fun a=>(tK 178 (pb 6 15) lf r) (.exit 2) (zp [5] [a])):=jK
theorem aii:AV lf r=(fun a b c d e f g=>(tK 178 (pb 6 23) lf r) (.exit 0) (zp [0,1,4,5,6,7,13] [a,b,c,d,e,f,g])):=by unfold AV;simp only[Wv,K5];kernel_rfl
theorem aij:aD aa gt lf r 178 #[a,b]=inside (K4 lf r a b):=by unfold K4;simp only[aii,Wv,Wu,K5];kernel_rfl
def Ww(lf:Nat)(r:RT)(a:V):M V:=fz 113 a fun b=>aA 0 b fun d=>bV 5 1 d fun e=>kZ e fun f=>aA 1 b fun d=>aW d (ii 4) (aA 1 b fun d=>ak r 211 [f,d] fun g=>aj [g]) ((bx (ak r 211 [f,(ii 4)] M.ret)).bind fun c=>ba 1 b fun d=>(bx (aM d M.ret)).bind fun g=>bL g.1 (ii 4) fun h=>(bx (ey .u8 h M.ret)).bind fun i=>(bx (bV 5 1 i.1 M.ret)).bind fun j=>(bx (kZ j.1 M.ret)).bind fun l=>ar c.1 l.1 fun m=>lT ((!(fs c.2 g.2)&&(!(fs c.2 i.2)&&(!(fs c.2 j.2)&&(!(fs c.2 l.2)&&true))))&&true) (aj [m]))
theorem aik:aD aa gt lf r 180 #[a]=inside (Ww lf r a):=jK
def Wx(lf:Nat)(r:RT)(a b c:V):M V:=mM b (i6 8) fun d=>kX b (i6 24) fun e=>ey .u8 e fun f=>qZ f c fun g=>au a fun h=>gu 256 h g fun i=>aM i fun j=>qZ d j fun l=>aj [l]
theorem ail:aD aa gt lf r 181 #[a,b,c]=inside (Wx lf r a b c):=jK
def K7(lf:Nat)(r:RT)(a:V):M V:=au a fun b=>aA 5 b fun d=>aT d fun e=>bL e (ii 1) fun f=>aW f (ii 0) (aj []) (au a fun c=>ba 6 c fun d=>aA 2 d fun g=>fi g (ii 0) (aj []) (au a fun i=>aA 5 i fun l=>ki 3 l f fun m=>aA 1 m fun o=>cT o (ii 0) (aj []) (au a fun b=>aA 5 b fun d=>ki 3 d f fun e=>bR 3 e fun g=>au a fun h=>ba 6 h fun i=>b9 3 i g fun _=>au a fun b=>aA 5 b fun d=>lR 203 3 d none (some f) fun e=>au a fun g=>ba 5 g fun h=>bc h e fun _=>au a fun b=>ba 9 b fun c=>bc c (ii 0) fun _=>au a fun b=>ba 10 b fun c=>bc c (ii 0) fun _=>au a fun b=>ba 6 b fun c=>aA 1 c fun e=>au a fun g=>ba 11 g fun h=>bc h e fun _=>aj [])))
theorem Wy:aD aa gt lf r 182 #[a]=inside (K7 lf r a):=jK
def K8(lf:Nat)(r:RT)(a:V):M V:=au a fun b=>aA 3 b fun d=>au a fun e=>aA 9 e fun g=>au a fun h=>aA 1 h fun j=>au a fun l=>ba 6 l fun m=>aA 0 m fun o=>au a fun p=>aA 9 p fun s=>ar o s fun t=>aO j t fun u=>aM u fun v=>aO d g fun w=>bc w v fun _=>au a fun b=>aA 9 b fun d=>ar d (ii 1) fun e=>au a fun f=>ba 9 f fun g=>bc g e fun _=>aj []
theorem Wz:aD aa gt lf r 183 #[a]=inside (K8 lf r a):=jK
def K9(lf:Nat)(r:RT)(a:V):M V:=au a fun b=>ba 6 b fun c=>bR 3 c fun d=>cU 203 z203 fun e=>b9 3 e d fun _=>aA 0 e fun c=>au a fun d=>aA 10 d fun g=>ar c g fun h=>au a fun i=>aA 11 i fun l=>ar h l fun m=>aA 1 e fun o=>bL m o fun p=>au a fun b=>aA 11 b fun d=>aA 2 e fun g=>cT d g (au a fun b=>aA 1 b fun d=>au a fun f=>aA 3 f fun h=>au a fun i=>aA 10 i fun l=>aO h l fun m=>aM m fun n=>aO d p fun o=>bc o n fun _=>au a fun b=>aA 10 b fun d=>ar d (ii 1) fun f=>au a fun g=>ba 10 g fun h=>bc h f fun _=>aA 2 e fun c=>bL c (ii 1) fun d=>cT p d (dz z203 [] fun b=>au a fun c=>ba 6 c fun d=>b9 3 d b fun _=>aj []) (aj [])) (au a fun i=>aA 10 i fun l=>au a fun m=>aA 9 m fun o=>aW l o (au a fun s=>aA 3 s fun u=>au a fun v=>aA 10 v fun x=>aO u x fun y=>aM y fun z=>au a fun A=>aA 1 A fun C=>au a fun D=>aA 11 D fun G=>aO C G fun J=>aM J fun L=>ak r 212 [a,z,L] fun N=>ek N fun O=>(fun b=>aK O (au a fun c=>aA 1 c fun f=>au a fun g=>aA 3 g fun i=>au a fun j=>aA 10 j fun m=>aO i m fun n=>aM n fun o=>aO f p fun q=>bc q o fun _=>au a fun c=>aA 10 c fun f=>ar f (ii 1) fun g=>au a fun h=>ba 10 h fun i=>bc i g fun _=>b) (au a fun c=>aA 1 c fun f=>au a fun g=>aA 1 g fun i=>au a fun j=>aA 11 j fun m=>aO i m fun n=>aM n fun o=>aO f p fun q=>bc q o fun _=>au a fun c=>aA 11 c fun f=>ar f (ii 1) fun g=>au a fun h=>ba 11 h fun i=>bc i g fun _=>b)) (aA 2 e fun c=>bL c (ii 1) fun d=>cT p d (dz z203 [] fun b=>au a fun c=>ba 6 c fun d=>b9 3 d b fun _=>aj []) (aj []))) (au a fun b=>aA 1 b fun d=>au a fun f=>aA 1 f fun h=>au a fun i=>aA 11 i fun l=>aO h l fun m=>aM m fun n=>aO d p fun o=>bc o n fun _=>au a fun b=>aA 11 b fun d=>ar d (ii 1) fun f=>au a fun g=>ba 11 g fun h=>bc h f fun _=>aA 2 e fun c=>bL c (ii 1) fun d=>cT p d (dz z203 [] fun b=>au a fun c=>ba 6 c fun d=>b9 3 d b fun _=>aj []) (aj [])))
theorem WA:aD aa gt lf r 184 #[a]=inside (K9 lf r a):=jK
def K'(lf:Nat)(r:RT)(a:V):M V:=au a fun b=>aA 5 b fun d=>au a fun e=>aA 5 e fun g=>aT g fun h=>bL h (ii 1) fun i=>ki 3 d i fun j=>bR 3 j fun l=>cU 203 z203 fun m=>b9 3 m l fun _=>au a fun b=>aA 5 b fun d=>au a fun e=>aA 5 e fun g=>aT g fun h=>bL h (ii 1) fun i=>lR 203 3 d none (some i) fun j=>au a fun l=>ba 5 l fun n=>bc n j fun _=>aA 2 m fun c=>aA 0 m fun e=>bL c e fun f=>aW f (ii 2) (aj []) (aA 0 m fun c=>aA 2 m fun e=>ar c e fun f=>iE f (ii 2) fun h=>au a fun b=>aA 5 b fun d=>aA 0 m fun f=>aA 2 m fun j=>dz z203 [(0,1,f),(1,1,h),(2,1,j)] fun l=>aA 2 m fun o=>dz z203 [(0,1,h),(2,1,o)] fun p=>aA 0 m fun s=>dz z203 [(0,1,s),(2,1,h)] fun t=>q8 203 (kq z203 3) 3 [(0,3,l),(3,3,p),(6,3,t)] fun u=>bH 203 3 d u fun v=>au a fun w=>ba 5 w fun x=>bc x v fun _=>aj [])
theorem WB:aD aa gt lf r 185 #[a]=inside (K' lf r a):=jK
def Lb(lf:Nat)(r:RT)(a:V):M V:=au a fun b=>aA 12 b fun d=>ej d (ii 0) fun b=>(fun c=>aK b (au a fun e=>ba 13 e fun f=>bc f (ii 0) fun _=>c) (au a fun e=>aA 1 e fun g=>aO g d fun h=>aM h fun i=>au a fun j=>aA 1 j fun m=>bL d (ii 1) fun n=>aO m n fun o=>aM o fun p=>ak r 212 [a,i,p] fun q=>aK q (au a fun e=>aA 13 e fun g=>ar g (ii 1) fun h=>au a fun i=>ba 13 i fun j=>bc j h fun _=>c) (c))) (au a fun c=>aA 3 c fun f=>au a fun g=>aA 1 g fun i=>aO i d fun j=>aM j fun l=>au a fun m=>aA 13 m fun o=>aO f l fun p=>bc p o fun _=>au a fun c=>aA 12 c fun f=>ar f (ii 1) fun g=>au a fun h=>ba 12 h fun i=>bc i g fun _=>au a fun c=>aA 12 c fun f=>au a fun g=>aA 1 g fun i=>aT i fun j=>cT f j (ak r 213 [a] fun c=>aj []) (aj []))
theorem WC:aD aa gt lf r 186 #[a]=inside (Lb lf r a):=jK
def wg(lf:Nat)(r:RT):Nat->((V->M V)×(V->V->M V))->V->V->V->V->V->V->V->V->V->M V|0,_,_,_,_,_,_,_,_,_,_=> .fail|fu+1,k,a,b,c,d,e,f,g,h,i=>aW i h (aO g i fun l=>aM l fun m=>aW m (ii 0) (k.2 nS (ii 1)) (hZ m b (k.2 nS (ii 1)) (aO e m fun l=>aM l fun o=>ar o (ii 1) fun p=>aO e m fun q=>bc q p fun _=>ar i (ii 1) fun l=>wg lf r fu k a b c d e f g h l))) (k.1 e)
def WD:List Nat:=[0,1,4,5,6,14,17,18,19]
def yo(lf:Nat)(r:RT):(V->M V)×(V->V->M V):=(fun a=>aj [a,(ii 0)],fun a b=>aj [a,b])
def AW(lf:Nat)(r:RT)(a b:V):M V:=aW b (ii 3) (aj [nS,(ii 1)]) (jr b (ii 258) fun d=>aK d (aj [nS,(ii 1)]) (gP 3 [(ii 0)] b b fun c=>aT a fun e=>wg lf r lf (yo lf r) a b nS (ii 0) c d a e (ii 0)))
theorem WE(K:KT):∀fu,wg lf r fu ((fun a=>K (.exit 0) (zp [6] [a]),fun a b=>K .ret (zp [4,5] [a,b])))=fun a
 b c d e f g h i=>aP (cQ 188 (pb 7 23) lf r) WD fu (zp WD [a,b,c,d,e,f,g,h,i]) K
 |0=>jK
 |fu+1=>by have j:=WE K fu;funext a b c d e f g h i;rw[wg];simp only[j];kernel_rfl
theorem aim:yo lf r=((fun a=>(tK 188 (pb 6 23) lf r) (.exit 0) (zp [6] [a]),fun a b=>(tK 188 (pb 6 23) lf r) .ret (zp [4,5] [a,b]))):=jK
theorem Ld:aD aa gt lf r 188 #[a,b]=inside (AW lf r a b):=by unfold AW;simp only[aim,WE];kernel_rfl
def wi(lf:Nat)(r:RT):Nat->(V->M V)->V->V->V->V->V->M V|0,_,_,_,_,_,_=> .fail|fu+1,k,a,b,c,d,e=>aW e d (ak r 168 [a,e] fun g=>bj g 0 fun h=>bj g 1 fun i=>bV 141 1 h fun g=>bH 141 1 c g fun i=>ar e (ii 1) fun c=>wi lf r fu k a b i d c) (k c)
def WG:List Nat:=[0,2,3,9,10]
def Ff(lf:Nat)(r:RT):(V->M V):=fun a=>aj [a]
def Fg(lf:Nat)(r:RT)(a:V):M V:=aT a fun b=>ak r 167 [b] fun c=>wi lf r lf (Ff lf r) a nS nS c (ii 0)
theorem WH(K:KT):∀fu,wi lf r fu (fun a=>K (.exit 0) (zp [3] [a]))=fun a b c d e=>aP (cQ 189 (pb 6
 11) lf r) WG fu (zp WG [a,b,c,d,e]) K
 |0=>jK
 |fu+1=>by have f:=WH K fu;funext a b c d e;rw[wi];simp only[f];kernel_rfl
theorem ain:Ff lf r=(fun a=>(tK 189 (pb 5 11) lf r) (.exit 0) (zp [3] [a])):=jK
theorem WI:aD aa gt lf r 189 #[a]=inside (Fg lf r a):=by unfold Fg;simp only[ain,WH];kernel_rfl
def wj(lf:Nat)(r:RT):Nat->(V->V->V->V->V->V->V->V->M V)->V->V->V->V->V->V->V->M V|0,_,_,_,_,_,_,_,_=> .fail|fu+1,k,a,b,c,d,e,f,g=>cE g f fun h=>aK h (aT a fun i=>gP 3 [(ii 0)] i i fun j=>aO e g fun l=>bc l j fun _=>ar g (ii 1) fun i=>wj lf r fu k a b c d e f i) (k a b c d e f g h)
def WJ:List Nat:=[0,1,4,5,6,18,19]
def tH(lf:Nat)(r:RT):Nat->(V->V->V->V->V->V->V->V->V->V->V->V->V->M V)->V->V->V->V->V->V->V->V->V->V->V->V->V->V->V->V->V->V->M V|0,_,_,_,_,_,_,_,_,_,_,_,_,_,_,_,_,_,_,_=> .fail|fu+1,k,a,b,c,d,e,f,g,h,i,j,l,m,n,o,p,q,s,t=>aW t s (gQ t i (aO e t fun w=>aM w fun x=>aO x g fun y=>bc y (ii 15) fun _=>ar t (ii 1) fun w=>tH lf r fu k a b c d e f g h i j l m n o p q s w) (ar t (ii 1) fun w=>tH lf r fu k a b c d e f g h i j l m n o p q s w)) (k a b c d e f h j l m n o p)
def WK:List Nat:=[0,1,4,5,6,8,9,10,11,18,19,20,29,30,31,32,42,43]
def Fh(lf:Nat)(r:RT)(k:(V->M V))(s:V->V->V->V->V->V->V->V->V->V->V->V->M V):(V->V->V->V->V->V->V->V->V->V->V->V->V->M V):=fun a b c d e f g h i j l m n=>ar f g fun o=>bL b (ii 1) fun p=>kY o p fun q=>ar n (ii 1) fun f=>s a b c d e q h i j l m f
def tI(lf:Nat)(r:RT):Nat->(V->M V)->V->V->V->V->V->V->V->V->V->V->V->V->M V|0,_,_,_,_,_,_,_,_,_,_,_,_,_=> .fail|fu+1,k,a,b,c,d,e,f,g,h,i,j,l,m=>cE m l fun n=>aK n (aO j m fun o=>aM o fun p=>jq f d fun o=>iE o b fun q=>aT e fun o=>tH lf r lf (Fh lf r k (tI lf r fu k)) a b c d e f m p q g h i j l m n o (ii 0)) (k e)
def AX:List Nat:=[0,1,4,5,6,8,18,19,20,29,30,31]
abbrev WL(lf:Nat)(r:RT)(a:Nat)(k:(V->M V)):(V->V->V->V->V->V->V->V->V->V->V->V->V->M V):=Fh lf r k (tI lf r a k)
def AY(lf:Nat)(r:RT):(V->M V):=fun a=>aj [a]
def AZ(lf:Nat)(r:RT):(V->V->V->V->V->V->V->V->M V):=fun a b c d e f g h=>aT a fun i=>tI lf r lf (AY lf r) a b c d e (ii 0) f g h a i (ii 0)
def Fi(lf:Nat)(r:RT)(a b:V):M V:=ak r 214 [b] fun c=>gP 141 [nS] c c fun d=>aT d fun e=>wj lf r lf (AZ lf r) a b nS c d e (ii 0)
theorem WM(K:KT):∀fu,wj lf r fu (fun a b c d e f g h=>K (.exit 0) (zp [0,1,4,5,6,18,19,20] [a,b,c,d,
 e,f,g,h]))=fun a b c d e f g=>aP (cQ 190 (pb 7 23) lf r) WJ fu (zp WJ [a,b,c,d,e,f,g]) K
 |0=>jK
 |fu+1=>by have i:=WM K fu;funext a b c d e f g;rw[wj];simp only[i];kernel_rfl
theorem WN(K:KT):∀fu,tH lf r fu (fun a b c d e f g h i j l m n=>K (.exit 4) (zp [0,1,4,5,6,8,10,18,19,
 20,29,30,31] [a,b,c,d,e,f,g,h,i,j,l,m,n]))=fun a b c d e f g h i j l m n o p q s t=>aP (cQ 190 (pb 19 91743) lf r) WK fu (zp
 WK [a,b,c,d,e,f,g,h,i,j,l,m,n,o,p,q,s,t]) K
 |0=>jK
 |fu+1=>by have k:=WN K fu;funext a b c d e f g h i j l m n o p q s t;rw[tH];simp only[k];kernel_rfl
theorem aio(K:KT)(k:Nat):Fh lf r (fun a=>K (.exit 2) (zp [6] [a])) (fun a b c d e f g h i j l m=>aP (cQ
 190 (pb 9 95) lf r) AX k (zp AX [a,b,c,d,e,f,g,h,i,j,l,m]) K)=(fun a b c d e f g h i j l m n=>(iK 190 (pb 9 95) (pb 9 179)
 AX k K lf r) (.exit 4) (zp [0,1,4,5,6,8,10,18,19,20,29,30,31] [a,b,c,d,e,f,g,h,i,j,l,m,n])):=by kernel_rfl
theorem Lg(K:KT):∀fu,tI lf r fu (fun a=>K (.exit 2) (zp [6] [a]))=fun a b c d e f g h i j l m=>aP (cQ 190
 (pb 9 95) lf r) AX fu (zp AX [a,b,c,d,e,f,g,h,i,j,l,m]) K
 |0=>jK
 |fu+1=>by have k:=Lg K fu;funext a b c d e f g h i j l m;rw[tI];simp only[k,aio,WN];kernel_rfl
theorem WO:AY lf r=(fun a=>(tK 190 (pb 8 95) lf r) (.exit 2) (zp [6] [a])):=jK
theorem aip:AZ lf r=(fun a b c d e f g h=>(tK 190 (pb 6 23) lf r) (.exit 0) (zp [0,1,4,5,6,18,19,20] [a,b,c,d,e,f,g,h])):=by unfold AZ;simp only[WO,Lg];kernel_rfl
theorem WQ:aD aa gt lf r 190 #[a,b]=inside (Fi lf r a b):=by unfold Fi;simp only[aip,WO,WM,Lg];kernel_rfl
def wk(lf:Nat)(r:RT):Nat->(V->V->V->V->V->V->V->V->V->V->M V)->V->V->V->V->V->V->V->V->V->M V|0,_,_,_,_,_,_,_,_,_,_=> .fail|fu+1,k,a,b,c,d,e,f,g,h,i=>cE i h fun j=>aK j (gP 3 [(ii 0)] c c fun l=>aO g i fun m=>bc m l fun _=>ar i (ii 1) fun l=>wk lf r fu k a b c d e f g h l) (k a b c d e f g h i j)
def WT:List Nat:=[0,1,2,6,7,8,9,27,28]
def wm(lf:Nat)(r:RT):Nat->(V->V->V->V->V->V->V->V->V->V->V->V->V->V->M V)->V->V->V->V->V->V->V->V->V->V->V->V->V->M V|0,_,_,_,_,_,_,_,_,_,_,_,_,_,_=> .fail|fu+1,k,a,b,c,d,e,f,g,h,i,j,l,m,n=>cE n m fun o=>aK o (aO l n fun p=>aM p fun q=>ak r 215 [q,b] fun p=>bV 3 1 p fun s=>bH 3 1 f s fun t=>ak r 188 [q,c] fun f=>bj f 0 fun s=>bj f 1 fun u=>aO g p fun f=>aM f fun u=>ak r 216 [u,s] fun v=>bj v 0 fun w=>bj v 1 fun x=>aO g p fun f=>bc f w fun _=>ar n (ii 1) fun f=>wm lf r fu k a b c d e t g h i j l m f) (k a b c d e f g h i j l m n o)
def WU:List Nat:=[0,1,2,6,7,8,9,27,28,29,37,38,39]
def wo(lf:Nat)(r:RT):Nat->(V->V->M V)->V->V->V->V->V->V->V->V->V->V->V->V->V->V->V->V->V->V->M V|0,_,_,_,_,_,_,_,_,_,_,_,_,_,_,_,_,_,_,_=> .fail|fu+1,k,a,b,c,d,e,f,g,h,i,j,l,m,n,o,p,q,s,t=>aW t s (aO q t fun v=>aM v fun w=>ak r 217 [w] fun v=>bj v 0 fun x=>bj v 1 fun y=>bV 141 1 x fun v=>bH 141 1 h v fun y=>ar t (ii 1) fun h=>wo lf r fu k a b c d e f g y i j l m n o p q s h) (k f h)
def WV:List Nat:=[0,1,2,6,7,8,9,18,27,28,29,37,38,39,40,70,71,72]
def Fj(lf:Nat)(r:RT):(V->V->M V):=fun a b=>aj [a,b]
def A0(lf:Nat)(r:RT):(V->V->V->V->V->V->V->V->V->V->V->V->V->V->M V):=fun a b c d e f g h i j l m n o=>aT g fun p=>wo lf r lf (Fj lf r) a b c d e f g nS h i j l m n o g p (ii 0)
def A1(lf:Nat)(r:RT):(V->V->V->V->V->V->V->V->V->V->M V):=fun a b c d e f g h i j=>aT a fun l=>wm lf r lf (A0 lf r) a b c d e f g h i j a l (ii 0)
def Fk(lf:Nat)(r:RT)(a b c:V):M V:=aT b fun d=>gP 141 [nS] d d fun e=>aT e fun d=>wk lf r lf (A1 lf r) a b c nS nS nS e d (ii 0)
theorem WW(K:KT):∀fu,wk lf r fu (fun a b c d e f g h i j=>K (.exit 0) (zp [0,1,2,6,7,8,9,27,28,29] [a,
 b,c,d,e,f,g,h,i,j]))=fun a b c d e f g h i=>aP (cQ 191 (pb 7 23) lf r) WT fu (zp WT [a,b,c,d,e,f,g,h,i]) K
 |0=>jK
 |fu+1=>by have k:=WW K fu;funext a b c d e f g h i;rw[wk];simp only[k];kernel_rfl
theorem Lh(K:KT):∀fu,wm lf r fu (fun a b c d e f g h i j l m n o=>K (.exit 2) (zp [0,1,2,6,7,8,9,27,28,
 29,37,38,39,40] [a,b,c,d,e,f,g,h,i,j,l,m,n,o]))=fun a b c d e f g h i j l m n=>aP (cQ 191 (pb 8 47) lf r) WU fu (zp
 WU [a,b,c,d,e,f,g,h,i,j,l,m,n]) K
 |0=>jK
 |fu+1=>by have k:=Lh K fu;funext a b c d e f g h i j l m n;rw[wm];simp only[k];kernel_rfl
theorem Li(K:KT):∀fu,wo lf r fu (fun a b=>K (.exit 4) (zp [8,18] [a,b]))=fun a b c d e f g h i j l m n o p q
 s t=>aP (cQ 191 (pb 10 191) lf r) WV fu (zp WV [a,b,c,d,e,f,g,h,i,j,l,m,n,o,p,q,s,t]) K
 |0=>jK
 |fu+1=>by have k:=Li K fu;funext a b c d e f g h i j l m n o p q s t;rw[wo];simp only[k];kernel_rfl
theorem WX:Fj lf r=(fun a b=>(tK 191 (pb 9 191) lf r) (.exit 4) (zp [8,18] [a,b])):=jK
theorem WY:A0 lf r=(fun a b c d e f g h i j l m n o=>(tK 191 (pb 7 47) lf r) (.exit 2) (zp [0,1,2,6,7,8,9,
 27,28,29,37,38,39,40] [a,b,c,d,e,f,g,h,i,j,l,m,n,o])):=by
 unfold A0;simp only[WX,Li];kernel_rfl
theorem aiq:A1 lf r=(fun a b c d e f g h i j=>(tK 191 (pb 6 23) lf r) (.exit 0) (zp [0,1,2,6,7,8,9,27,28,29] [a,b,c,d,e,f,g,h,i,j])):=by unfold A1;simp only[WY,Lh];kernel_rfl
theorem WZ:aD aa gt lf r 191 #[a,b,c]=inside (Fk lf r a b c):=by unfold Fk;simp only[aiq,WY,WX,WW,Lh,Li];kernel_rfl
def Lj(lf:Nat)(r:RT)(a:V):M V:=hZ a (ii 2) (mL a (ii 6) fun c=>aj [c]) (aj [bF])
theorem W0:aD aa gt lf r 192 #[a]=inside (Lj lf r a):=jK
def A2(lf:Nat)(r:RT)(a b:V):M V:=ak r 218 [a,b] fun c=>pY c (ii 0) fun d=>aj [d]
theorem Fl:aD aa gt lf r 193 #[a,b]=inside (A2 lf r a b):=jK
def Ll(lf:Nat)(r:RT)(a b:V):M V:=aW a (ii 0) (aj [bT]) (aM b fun d=>pY a d fun e=>aj [e])
theorem W1:aD aa gt lf r 194 #[a,b]=inside (Ll lf r a b):=jK
def yp(lf:Nat)(r:RT):Nat->(V->V->M V)->V->V->V->M V|0,_,_,_,_=> .fail|fu+1,k,a,b,c=>aW c (ii 6) (gu 6 b c fun e=>bc e c fun _=>ar c (ii 1) fun e=>yp lf r fu k a b e) (k a b)
def W2:List Nat:=[0,1,3]
def Fm(lf:Nat)(r:RT):(V->V->M V):=fun a b=>bR 6 b fun c=>b9 6 a c fun _=>bR 6 a fun b=>aj [b]
def Fo(lf:Nat)(r:RT):M V:=cU 237 DU fun a=>cU 237 DU fun b=>yp lf r lf (Fm lf r) a b (ii 0)
theorem W3(K:KT):∀fu,yp lf r fu (fun a b=>K (.exit 0) (zp [0,1] [a,b]))=fun a b c=>aP (cQ 195 (pb 6 11)
 lf r) W2 fu (zp W2 [a,b,c]) K
 |0=>jK
 |fu+1=>by have d:=W3 K fu;funext a b c;rw[yp];simp only[d];kernel_rfl
theorem air:Fm lf r=(fun a b=>(tK 195 (pb 5 11) lf r) (.exit 0) (zp [0,1] [a,b])):=jK
theorem W4:aD aa gt lf r 195 #[]=inside (Fo lf r):=by unfold Fo;simp only[air,W3];kernel_rfl
def wq(lf:Nat)(r:RT):Nat->(V->V->M V)->V->V->V->V->M V|0,_,_,_,_,_=> .fail|fu+1,k,a,b,c,d=>au a fun e=>gu 6 e d fun f=>aM f fun g=>gQ g b (ar d (ii 1) fun e=>wq lf r fu k a b c e) (k a d)
def W5:List Nat:=[0,1,4,5]
def Fp(lf:Nat)(r:RT):(V->V->M V):=fun a b=>ak r 219 [a,b] fun c=>aj [b]
def Fq(lf:Nat)(r:RT)(a b:V):M V:=wq lf r lf (Fp lf r) a b (ii 0) (ii 0)
theorem W6(K:KT):∀fu,wq lf r fu (fun a b=>K (.exit 0) (zp [0,5] [a,b]))=fun a b c d=>aP (cQ 196
 (pb 5 3) lf r) W5 fu (zp W5 [a,b,c,d]) K
 |0=>jK
 |fu+1=>by have e:=W6 K fu;funext a b c d;rw[wq];simp only[e];kernel_rfl
theorem ais:Fp lf r=(fun a b=>(tK 196 (pb 4 3) lf r) (.exit 0) (zp [0,5] [a,b])):=jK
theorem W7:aD aa gt lf r 196 #[a,b]=inside (Fq lf r a b):=by unfold Fq;simp only[ais,W6];kernel_rfl
def Lm(lf:Nat)(r:RT)(a:V):M V:=hZ a (ii 3) (mL a (ii 258) fun c=>aj [c]) (aj [bF])
theorem W8:aD aa gt lf r 197 #[a]=inside (Lm lf r a):=jK
def Ln(lf:Nat)(r:RT)(a:V):M V:=ak r 199 [a] fun b=>ek b fun c=>aj [c]
theorem W9:aD aa gt lf r 198 #[a]=inside (Ln lf r a):=jK
def Lq(lf:Nat)(r:RT)(a:V):M V:=hZ a (ii 1) (mL a (ii 20) fun c=>aj [c]) (aj [bF])
theorem Xa:aD aa gt lf r 199 #[a]=inside (Lq lf r a):=jK
def Lr(lf:Nat)(r:RT)(a b c:V):M V:=jq b c fun d=>aT a fun e=>ar b (ii 1) fun f=>jq f c fun g=>kY e g fun h=>lR 3 1 a (some d) (some h) fun i=>ak r 156 [i] fun j=>aj [j]
theorem Xb:aD aa gt lf r 200 #[a,b,c]=inside (Lr lf r a b c):=jK
def Ls(lf:Nat)(r:RT)(a:V):M V:=ak r 193 [a,(zy (.func 220) #[] #[])] fun b=>ek b fun c=>aj [c]
theorem Xc:aD aa gt lf r 201 #[a]=inside (Ls lf r a):=jK
def Lt(lf:Nat)(r:RT)(a b:V):M V:=ar a b fun c=>kY c (ii 1099511627776) fun d=>aj [d]
theorem Xd:aD aa gt lf r 202 #[a,b]=inside (Lt lf r a b):=jK
def wu(lf:Nat)(r:RT):Nat->(V->M V)->V->V->V->V->V->V->V->V->M V|0,_,_,_,_,_,_,_,_,_=> .fail|fu+1,k,a,b,c,d,e,f,g,h=>aW h g (aO f h fun j=>aM j fun l=>bL (ii 20) l fun j=>mM (ii 1) j fun m=>ar d m fun n=>ar h (ii 1) fun d=>wu lf r fu k a b c n e f g d) (k d)
def Xe:List Nat:=[0,2,3,4,14,15,16,17]
def Fs(lf:Nat)(r:RT):(V->M V):=fun a=>aj [a,(ii 0)]
def Ft(lf:Nat)(r:RT)(a:V):M V:=aT a fun b=>fi b (ii 258) (aj [(ii 0),(ii 1)]) (ak r 222 [a,(ii 0),(ii 20)] fun d=>ek d fun e=>aK e (aj [(ii 0),(ii 1)]) (aT a fun b=>wu lf r lf (Fs lf r) a (ii 0) (ii 0) (ii 0) e a b (ii 0)))
theorem Xf(K:KT):∀fu,wu lf r fu (fun a=>K (.exit 0) (zp [4] [a]))=fun a b c d e f g h=>aP (cQ 203 (pb 7 23)
 lf r) Xe fu (zp Xe [a,b,c,d,e,f,g,h]) K
 |0=>jK
 |fu+1=>by have i:=Xf K fu;funext a b c d e f g h;rw[wu];simp only[i];kernel_rfl
theorem ait:Fs lf r=(fun a=>(tK 203 (pb 6 23) lf r) (.exit 0) (zp [4] [a])):=jK
theorem Xg:aD aa gt lf r 203 #[a]=inside (Ft lf r a):=by unfold Ft;simp only[ait,Xf];kernel_rfl
def Lu(lf:Nat)(r:RT)(a b:V):M V:=ak r 160 [a,b] fun c=>pY c (ii 0) fun d=>aj [d]
theorem Xh:aD aa gt lf r 204 #[a,b]=inside (Lu lf r a b):=jK
def Xi(lf:Nat)(r:RT)(a:V):M V:=aW a (ii 200) (aj [(ii 2)]) (aW a (ii 600) (aj [(ii 3)]) (aW a (ii 1200) (aj [(ii 4)]) (aW a (ii 2400) (aj [(ii 5)]) (aj [(ii 6)]))))
theorem aiu:aD aa gt lf r 205 #[a]=inside (Xi lf r a):=jK
def tJ(lf:Nat)(r:RT):Nat->(V->M V)->V->V->V->V->V->V->V->M V|0,_,_,_,_,_,_,_,_=> .fail|fu+1,k,a,b,c,d,e,f,g=>aW g f (aO e g fun i=>aM i fun j=>cT b j (ar d (ii 1) fun l=>ar g (ii 1) fun d=>tJ lf r fu k a b c l e f d) (ar g (ii 1) fun l=>tJ lf r fu k a b c d e f l)) (k d)
def Xj:List Nat:=[0,1,4,5,8,9,10]
def Fu(lf:Nat)(r:RT):(V->M V):=fun a=>aj [a]
def Lv(lf:Nat)(r:RT)(a b:V):M V:=aT a fun c=>tJ lf r lf (Fu lf r) a b (ii 0) (ii 0) a c (ii 0)
theorem Xk(K:KT):∀fu,tJ lf r fu (fun a=>K (.exit 0) (zp [5] [a]))=fun a b c d e f g=>aP (cQ 206
 (pb 6 11) lf r) Xj fu (zp Xj [a,b,c,d,e,f,g]) K
 |0=>jK
 |fu+1=>by have h:=Xk K fu;funext a b c d e f g;rw[tJ];simp only[h];kernel_rfl
theorem aiv:Fu lf r=(fun a=>(tK 206 (pb 5 11) lf r) (.exit 0) (zp [5] [a])):=jK
theorem aiw:aD aa gt lf r 206 #[a,b]=inside (Lv lf r a b):=by unfold Lv;simp only[aiv,Xk];kernel_rfl
def wx(lf:Nat)(r:RT):Nat->(V->V->V->V->V->V->V->M V)->V->V->V->V->V->V->V->V->V->V->V->V->M V|0,_,_,_,_,_,_,_,_,_,_,_,_,_=> .fail|fu+1,k,a,b,c,d,e,f,g,h,i,j,l,m=>aW m l (ar d f fun o=>ak r 223 [o] fun p=>ar m (ii 1) fun d=>wx lf r fu k a b c p e f g h i j l d) (k a b c d g h i)
def Xl:List Nat:=[0,1,4,5,6,7,8,9,10,11,17,18]
def Fv(lf:Nat)(r:RT)(k:(V->M V))(i:V->V->V->V->V->V->V->M V):(V->V->V->V->V->V->V->M V):=fun a b c d e f g=>ar g (ii 1) fun h=>i a b c d e f h
def tL(lf:Nat)(r:RT):Nat->(V->M V)->V->V->V->V->V->V->V->M V|0,_,_,_,_,_,_,_,_=> .fail|fu+1,k,a,b,c,d,e,f,g=>cE g f fun h=>aK h (aO e g fun i=>aM i fun j=>ak r 206 [a,g] fun i=>wx lf r lf (Fv lf r k (tL lf r fu k)) a b c d g j e f g h i (ii 0)) (k d)
def A3:List Nat:=[0,1,4,5,8,9,10]
abbrev Xm(lf:Nat)(r:RT)(a:Nat)(k:(V->M V)):(V->V->V->V->V->V->V->M V):=Fv lf r k (tL lf r a k)
def A4(lf:Nat)(r:RT):(V->M V):=fun a=>aj [a]
def Lw(lf:Nat)(r:RT)(a b:V):M V:=aT b fun c=>tL lf r lf (A4 lf r) a b (ii 0) (ii 0) b c (ii 0)
theorem Xn(K:KT):∀fu,wx lf r fu (fun a b c d e f g=>K (.exit 2) (zp [0,1,4,5,8,9,10] [a,b,c,d,e,
 f,g]))=fun a b c d e f g h i j l m=>aP (cQ 207 (pb 14 3275) lf r) Xl fu (zp Xl [a,b,c,d,e,f,g,h,i,j,l,m]) K
 |0=>jK
 |fu+1=>by have k:=Xn K fu;funext a b c d e f g h i j l m;rw[wx];simp only[k];kernel_rfl
theorem aix(K:KT)(h:Nat):Fv lf r (fun a=>K (.exit 0) (zp [5] [a])) (fun a b c d e f g=>aP (cQ 207
 (pb 6 11) lf r) A3 h (zp A3 [a,b,c,d,e,f,g]) K)=(fun a b c d e f g=>(iK 207 (pb 6 11) (pb 7 51) A3 h K lf
 r) (.exit 2) (zp [0,1,4,5,8,9,10] [a,b,c,d,e,f,g])):=by kernel_rfl
theorem Xo(K:KT):∀fu,tL lf r fu (fun a=>K (.exit 0) (zp [5] [a]))=fun a b c d e f g=>aP (cQ 207 (pb
 6 11) lf r) A3 fu (zp A3 [a,b,c,d,e,f,g]) K
 |0=>jK
 |fu+1=>by have h:=Xo K fu;funext a b c d e f g;rw[tL];simp only[h,aix,Xn];kernel_rfl
theorem aiy:A4 lf r=(fun a=>(tK 207 (pb 5 11) lf r) (.exit 0) (zp [5] [a])):=jK
theorem aiz:aD aa gt lf r 207 #[a,b]=inside (Lw lf r a b):=by unfold Lw;simp only[aiy,Xo];kernel_rfl
def wy(lf:Nat)(r:RT):Nat->(V->V->V->V->V->V->V->V->M V)->V->V->V->V->V->V->V->M V|0,_,_,_,_,_,_,_,_=> .fail|fu+1,k,a,b,c,d,e,f,g=>cE g f fun h=>aK h (aO e g fun i=>aM i fun j=>bV 3 1 g fun i=>dz s0 [(0,1,j),(1,1,g),(2,1,i)] fun l=>bV 250 3 l fun m=>bH 250 3 d m fun n=>ar g (ii 1) fun d=>wy lf r fu k a b c n e f d) (k a b c d e f g h)
def Xp:List Nat:=[0,2,3,4,18,19,20]
def tM(lf:Nat)(r:RT):Nat->(V->V->V->V->V->V->V->V->V->V->V->V->V->M V)->V->V->V->V->V->V->V->V->V->V->V->V->V->V->V->V->V->V->V->M V|0,_,_,_,_,_,_,_,_,_,_,_,_,_,_,_,_,_,_,_,_=> .fail|fu+1,k,a,b,c,d,e,f,g,h,i,j,l,m,n,o,p,q,s,t,u=>aW u t (aO s u fun w=>aM w fun x=>aO e x fun w=>aM w fun y=>ar y (ii 1) fun z=>aO e x fun A=>bc A z fun _=>ar u (ii 1) fun w=>tM lf r fu k a b c d e f g h i j l m n o p q s t w) (k a b c d e f h j l m n o p)
def Xq:List Nat:=[0,2,3,4,7,8,9,10,11,12,13,18,19,20,21,39,66,67,68]
def Fw(lf:Nat)(r:RT)(k:(V->M V))(o:V->V->V->V->V->V->V->V->V->V->M V):(V->V->V->V->V->V->V->V->V->V->V->V->V->M V):=fun a b c d e f g h i j l m n=>aA 0 g fun p=>aA 0 h fun s=>ar p s fun t=>dz s0 [(0,1,t),(1,1,f),(2,1,i)] fun u=>bV 250 3 u fun v=>bH 250 3 d v fun w=>ar f (ii 1) fun d=>o a b c w e d j l m n
def rA(lf:Nat)(r:RT):Nat->(V->M V)->V->V->V->V->V->V->V->V->V->V->M V|0,_,_,_,_,_,_,_,_,_,_,_=> .fail|fu+1,k,a,b,c,d,e,f,g,h,i,j=>aT d fun l=>jr l (ii 1) fun m=>aK m (ak r 224 [d] fun l=>ki 3 d l fun n=>bR 3 n fun o=>cU 250 s0 fun p=>b9 3 p o fun _=>ak r 225 [d,l] fun n=>ak r 224 [n] fun d=>ki 3 n d fun o=>bR 3 o fun q=>cU 250 s0 fun s=>b9 3 s q fun _=>ak r 225 [n,d] fun o=>aA 2 p fun q=>bH 3 1 nS q fun t=>aA 2 s fun q=>bH 3 1 t q fun u=>aT u fun n=>tM lf r lf (Fw lf r k (rA lf r fu k)) a b c o e f l p d s u g h i j m u n (ii 0)) (k e)
def A5:List Nat:=[0,2,3,4,7,8,18,19,20,21]
abbrev Xr(lf:Nat)(r:RT)(a:Nat)(k:(V->M V)):(V->V->V->V->V->V->V->V->V->V->V->V->V->M V):=Fw lf r k (rA lf r a k)
def Fx(lf:Nat)(r:RT):(V->M V):=fun a=>aj [a]
def Fy(lf:Nat)(r:RT):(V->V->V->V->V->V->V->V->M V):=fun a b c d e f g h=>gP 3 [(ii 0)] c c fun i=>rA lf r lf (Fx lf r) a b c d i c e f g h
def Lx(lf:Nat)(r:RT)(a:V):M V:=aT a fun b=>aT a fun c=>wy lf r lf (Fy lf r) a nS b nS a c (ii 0)
theorem Xs(K:KT):∀fu,wy lf r fu (fun a b c d e f g h=>K (.exit 0) (zp [0,2,3,4,18,19,20,21] [a,
 b,c,d,e,f,g,h]))=fun a b c d e f g=>aP (cQ 208 (pb 7 23) lf r) Xp fu (zp Xp [a,b,c,d,e,f,g]) K
 |0=>jK
 |fu+1=>by have i:=Xs K fu;funext a b c d e f g;rw[wy];simp only[i];kernel_rfl
theorem Xt(K:KT):∀fu,tM lf r fu (fun a b c d e f g h i j l m n=>K (.exit 4) (zp [0,2,3,4,7,8,10,
 12,13,18,19,20,21] [a,b,c,d,e,f,g,h,i,j,l,m,n]))=fun a b c d e f g h i j l m n o p q s t u=>aP (cQ 208 (pb 24 3144255) lf r)
 Xq fu (zp Xq [a,b,c,d,e,f,g,h,i,j,l,m,n,o,p,q,s,t,u]) K
 |0=>jK
 |fu+1=>by have k:=Xt K fu;funext a b c d e f g h i j l m n o p q s t u;rw[tM];simp only[k];kernel_rfl
theorem aiA(K:KT)(k:Nat):Fw lf r (fun a=>K (.exit 2) (zp [7] [a])) (fun a b c d e f g h i j=>aP
 (cQ 208 (pb 9 63) lf r) A5 k (zp A5 [a,b,c,d,e,f,g,h,i,j]) K)=(fun a b c d e f g h i j l m n=>(iK 208 (pb 9 63) (pb
 14 6141) A5 k K lf r) (.exit 4) (zp [0,2,3,4,7,8,10,12,13,18,19,20,21] [a,b,c,d,e,f,g,h,i,j,l,m,n])):=by kernel_rfl
theorem Ly(K:KT):∀fu,rA lf r fu (fun a=>K (.exit 2) (zp [7] [a]))=fun a b c d e f g h i j=>aP
 (cQ 208 (pb 9 63) lf r) A5 fu (zp A5 [a,b,c,d,e,f,g,h,i,j]) K
 |0=>jK
 |fu+1=>by have k:=Ly K fu;funext a b c d e f g h i j;rw[rA];simp only[k,aiA,Xt];kernel_rfl
theorem Xu:Fx lf r=(fun a=>(tK 208 (pb 8 63) lf r) (.exit 2) (zp [7] [a])):=jK
theorem aiB:Fy lf r=(fun a b c d e f g h=>(tK 208 (pb 6 23) lf r) (.exit 0) (zp [0,2,3,4,18,19,20,21] [a,b,c,d,e,f,g,h])):=by unfold Fy;simp only[Xu,Ly];kernel_rfl
theorem aiC:aD aa gt lf r 208 #[a]=inside (Lx lf r a):=by unfold Lx;simp only[aiB,Xu,Xs,Ly];kernel_rfl
def wz(lf:Nat)(r:RT):Nat->((M V)×(V->M V))->V->V->V->V->V->V->V->M V|0,_,_,_,_,_,_,_,_=> .fail|fu+1,k,a,b,c,d,e,f,g=>aW g f (aO e g fun i=>aM i fun j=>aW j b (k.2 bF) (fi j c (k.2 bF) (ar g (ii 1) fun i=>wz lf r fu k a b c d e f i))) (k.1)
def Xv:List Nat:=[0,1,2,6,9,10,11]
def yq(lf:Nat)(r:RT):(M V)×(V->M V):=(aj [bT],fun a=>aj [a])
def Lz(lf:Nat)(r:RT)(a b c:V):M V:=aT a fun d=>wz lf r lf (yq lf r) a b c bF a d (ii 0)
theorem Xw(K:KT):∀fu,wz lf r fu ((K (.exit 0) [],fun a=>K .ret (zp [6] [a])))=fun a b c d e f g=>aP
 (cQ 209 (pb 5 5) lf r) Xv fu (zp Xv [a,b,c,d,e,f,g]) K
 |0=>jK
 |fu+1=>by have h:=Xw K fu;funext a b c d e f g;rw[wz];simp only[h];kernel_rfl
theorem aiD:yq lf r=(((tK 209 (pb 4 5) lf r) (.exit 0) [],fun a=>(tK 209 (pb 4 5) lf r) .ret (zp [6] [a]))):=jK
theorem aiE:aD aa gt lf r 209 #[a,b,c]=inside (Lz lf r a b c):=by unfold Lz;simp only[aiD,Xw];kernel_rfl
def tN(lf:Nat)(r:RT):Nat->(V->M V)->V->V->V->V->V->V->M V|0,_,_,_,_,_,_,_=> .fail|fu+1,k,a,b,c,d,e,f=>aW f e (aO d f fun h=>aM h fun i=>cE i (ii 0) fun h=>(fun l=>aK h (l (ii 0)) (l i)) fun i=>iE i (ii 2) fun j=>ar j (ii 1) fun l=>bV 3 1 l fun m=>bH 3 1 c m fun n=>ar f (ii 1) fun c=>tN lf r fu k a b n d e c) (k c)
def Xx:List Nat:=[0,2,3,6,7,8]
def A6(lf:Nat)(r:RT):(V->M V):=fun a=>aj [a]
def LA(lf:Nat)(r:RT)(a:V):M V:=aT a fun b=>tN lf r lf (A6 lf r) a nS nS a b (ii 0)
theorem Xy(K:KT):∀fu,tN lf r fu (fun a=>K (.exit 0) (zp [3] [a]))=fun a b c d e f=>aP (cQ 210
 (pb 6 11) lf r) Xx fu (zp Xx [a,b,c,d,e,f]) K
 |0=>jK
 |fu+1=>by have g:=Xy K fu;funext a b c d e f;rw[tN];simp only[g];kernel_rfl
theorem aiF:A6 lf r=(fun a=>(tK 210 (pb 5 11) lf r) (.exit 0) (zp [3] [a])):=jK
theorem aiG:aD aa gt lf r 210 #[a]=inside (LA lf r a):=by unfold LA;simp only[aiF,Xy];kernel_rfl
def LB(lf:Nat)(r:RT)(a b c:V):M V:=ak r 232 [a,b] fun d=>ak r 232 [a,c] fun e=>cU 31 z31 fun f=>cU 31 z31 fun g=>b9 2 f d fun _=>b9 2 g e fun _=>gu 2 f (ii 0) fun d=>aM d fun e=>gu 2 g (ii 0) fun h=>aM h fun i=>fi e i (aj [bT]) (gu 2 f (ii 0) fun l=>aM l fun m=>gu 2 g (ii 0) fun n=>aM n fun o=>cT m o (gu 2 f (ii 1) fun q=>aM q fun s=>gu 2 g (ii 1) fun t=>aM t fun u=>jr s u fun v=>aj [v]) (aj [bF]))
theorem Xz:aD aa gt lf r 212 #[a,b,c]=inside (LB lf r a b c):=jK
def LC(lf:Nat)(r:RT)(a:V):M V:=au a fun b=>aA 2 b fun d=>au a fun b=>aA 3 b fun e=>au a fun f=>ba 2 f fun g=>bc g e fun _=>au a fun b=>ba 3 b fun c=>bc c d fun _=>au a fun b=>ba 12 b fun c=>bc c (ii 0) fun _=>au a fun b=>aA 13 b fun e=>au a fun f=>aA 1 f fun h=>aT h fun i=>bL i (ii 1) fun j=>cT e j (au a fun b=>ba 15 b fun c=>bc c bT fun _=>aj []) (au a fun m=>aA 4 m fun o=>au a fun p=>aA 1 p fun s=>aT s fun t=>hZ o t (au a fun b=>ba 15 b fun c=>bc c bT fun _=>aj []) (au a fun b=>aA 4 b fun e=>jq (ii 2) e fun f=>sR (ii 1) f fun g=>au a fun h=>ba 4 h fun i=>bc i g fun _=>au a fun b=>aA 5 b fun e=>au a fun f=>aA 1 f fun h=>aT h fun i=>dz z203 [(0,1,(ii 0)),(2,1,i)] fun j=>bV 203 3 j fun l=>bH 203 3 e l fun m=>au a fun n=>ba 5 n fun o=>bc o m fun _=>aj []))
theorem XA:aD aa gt lf r 213 #[a]=inside (LC lf r a):=jK
def ar'(lf:Nat)(r:RT):Nat->(V->M V)->V->V->V->V->V->M V|0,_,_,_,_,_,_=> .fail|fu+1,k,a,b,c,d,e=>aW e (ii 4) (sS 4 d e fun g=>hZ a g (ar c (ii 1) fun i=>ar e (ii 1) fun c=>ar' lf r fu k a b i d c) (ar e (ii 1) fun i=>ar' lf r fu k a b c d i)) (k c)
def XB:List Nat:=[0,2,3,6,7]
def tO(lf:Nat)(r:RT):(V->M V):=fun a=>aj [a]
def Fz(lf:Nat)(r:RT)(a:V):M V:=bR 4 (Value.pointer (some ⟨1,0,none⟩)) fun b=>ar' lf r lf (tO lf r) a (ii 0) (ii 2) b (ii 0)
theorem XC(K:KT):∀fu,ar' lf r fu (fun a=>K (.exit 0) (zp [3] [a]))=fun a b c d e=>aP (cQ 214 (pb 6 11)
 lf r) XB fu (zp XB [a,b,c,d,e]) K
 |0=>jK
 |fu+1=>by have f:=XC K fu;funext a b c d e;rw[ar'];simp only[f];kernel_rfl
theorem aiH:tO lf r=(fun a=>(tK 214 (pb 5 11) lf r) (.exit 0) (zp [3] [a])):=jK
theorem XD:aD aa gt lf r 214 #[a]=inside (Fz lf r a):=by unfold Fz;simp only[aiH,XC];kernel_rfl
def tP(lf:Nat)(r:RT):Nat->(V->M V)->V->V->V->V->V->V->V->V->M V|0,_,_,_,_,_,_,_,_,_=> .fail|fu+1,k,a,b,c,d,e,f,g,h=>aW h g (aO f h fun j=>aM j fun l=>ak r 169 [a,l] fun j=>bj j 0 fun m=>bj j 1 fun n=>aW m e (ar h (ii 1) fun d=>tP lf r fu k a b c h m f g d) (ar h (ii 1) fun n=>tP lf r fu k a b c d e f g n)) (k d)
def XE:List Nat:=[0,1,4,5,6,11,12,13]
def FA(lf:Nat)(r:RT):(V->M V):=fun a=>aj [a]
def FB(lf:Nat)(r:RT)(a b:V):M V:=aT b fun c=>tP lf r lf (FA lf r) a b (ii 0) (ii 0) (ii 1099511627776) b c (ii 0)
theorem XF(K:KT):∀fu,tP lf r fu (fun a=>K (.exit 0) (zp [5] [a]))=fun a b c d e f g h=>aP (cQ 215 (pb 6 11)
 lf r) XE fu (zp XE [a,b,c,d,e,f,g,h]) K
 |0=>jK
 |fu+1=>by have i:=XF K fu;funext a b c d e f g h;rw[tP];simp only[i];kernel_rfl
theorem aiI:FA lf r=(fun a=>(tK 215 (pb 5 11) lf r) (.exit 0) (zp [5] [a])):=jK
theorem XG:aD aa gt lf r 215 #[a,b]=inside (FB lf r a b):=by unfold FB;simp only[aiI,XF];kernel_rfl
def wA(lf:Nat)(r:RT):Nat->(V->M V)->V->V->V->V->V->V->V->V->M V|0,_,_,_,_,_,_,_,_,_=> .fail|fu+1,k,a,b,c,d,e,f,g,h=>aW h g (aO a h fun j=>aM j fun l=>aO b h fun m=>aM m fun n=>ak r 202 [l,n] fun o=>aO e h fun p=>bc p o fun _=>ar h (ii 1) fun j=>wA lf r fu k a b c d e f g j) (k e)
def XH:List Nat:=[0,1,4,5,6,22,27,28]
def FC(lf:Nat)(r:RT):(V->M V):=fun a=>aj [a,(ii 0)]
def FD(lf:Nat)(r:RT)(a b:V):M V:=aT a fun c=>aT b fun d=>gQ c d (aj [nS,(ii 1)]) (ak r 201 [a] fun f=>ek f fun g=>aK g (aj [nS,(ii 1)]) (ak r 201 [b] fun h=>ek h fun i=>aK i (aj [nS,(ii 1)]) (aT a fun c=>gP 3 [(ii 0)] c c fun d=>aT d fun c=>wA lf r lf (FC lf r) a b nS (ii 0) d i c (ii 0))))
theorem XI(K:KT):∀fu,wA lf r fu (fun a=>K (.exit 0) (zp [6] [a]))=fun a b c d e f g h=>aP (cQ 216 (pb 7 23) lf r)
 XH fu (zp XH [a,b,c,d,e,f,g,h]) K
 |0=>jK
 |fu+1=>by have i:=XI K fu;funext a b c d e f g h;rw[wA];simp only[i];kernel_rfl
theorem aiJ:FC lf r=(fun a=>(tK 216 (pb 6 23) lf r) (.exit 0) (zp [6] [a])):=jK
theorem XJ:aD aa gt lf r 216 #[a,b]=inside (FD lf r a b):=by unfold FD;simp only[aiJ,XI];kernel_rfl
def wB(lf:Nat)(r:RT):Nat->(V->V->V->V->V->V->V->V->V->M V)->V->V->V->V->V->V->V->V->M V|0,_,_,_,_,_,_,_,_,_=> .fail|fu+1,k,a,b,c,d,e,f,g,h=>cE h g fun i=>aK i (aO f h fun j=>aM j fun l=>sR l (ii 1) fun j=>aO d h fun m=>bc m j fun _=>ar h (ii 1) fun j=>wB lf r fu k a b c d e f g j) (k a b c d e f g h i)
def XK:List Nat:=[0,2,3,4,20,24,25,26]
def wC(lf:Nat)(r:RT):Nat->(V->V->M V)->V->V->V->V->V->V->V->V->V->M V|0,_,_,_,_,_,_,_,_,_,_=> .fail|fu+1,k,a,b,c,d,e,f,g,h,i=>ak r 233 [d] fun j=>ak r 234 [j] fun l=>ye l (ii 20) (ak r 156 [j] fun l=>k l (ii 0)) (ak r 235 [d] fun l=>wC lf r fu k a b c l e f g h i)
def XL:List Nat:=[0,2,3,4,20,24,25,26,27]
def A7(lf:Nat)(r:RT):(V->V->M V):=fun a b=>aj [a,b]
def FE(lf:Nat)(r:RT):(V->V->V->V->V->V->V->V->V->M V):=fun a b c d e f g h i=>wC lf r lf (A7 lf r) a b c d e f g h i
def FF(lf:Nat)(r:RT)(a:V):M V:=aT a fun b=>aW b (ii 3) (aj [nS,(ii 1)]) (aT a fun d=>fi d (ii 258) (aj [nS,(ii 1)]) (ak r 222 [a,(ii 0),(ii 1099511627776)] fun f=>ek f fun g=>aK g (aj [nS,(ii 1)]) (aT a fun b=>gP 3 [(ii 0)] b b fun c=>aT a fun b=>wB lf r lf (FE lf r) a nS (ii 0) c g a b (ii 0))))
theorem XM(K:KT):∀fu,wB lf r fu (fun a b c d e f g h i=>K (.exit 0) (zp [0,2,3,4,20,24,25,26,27] [a,b,c,d,e,
 f,g,h,i]))=fun a b c d e f g h=>aP (cQ 217 (pb 7 23) lf r) XK fu (zp XK [a,b,c,d,e,f,g,h]) K
 |0=>jK
 |fu+1=>by have j:=XM K fu;funext a b c d e f g h;rw[wB];simp only[j];kernel_rfl
theorem LD(K:KT):∀fu,wC lf r fu (fun a b=>K .ret (zp [2,3] [a,b]))=fun a b c d e f g h i=>aP (cQ 217 (pb 6 15) lf
 r) XL fu (zp XL [a,b,c,d,e,f,g,h,i]) K
 |0=>jK
 |fu+1=>by have j:=LD K fu;funext a b c d e f g h i;rw[wC];simp only[j];kernel_rfl
theorem XN:A7 lf r=(fun a b=>(tK 217 (pb 5 15) lf r) .ret (zp [2,3] [a,b])):=jK
theorem aiK:FE lf r=(fun a b c d e f g h i=>(tK 217 (pb 6 23) lf r) (.exit 0) (zp [0,2,3,4,20,24,25,26,27] [a,b,c,d,e,f,g,h,i])):=by unfold FE;simp only[XN,LD];kernel_rfl
theorem XO:aD aa gt lf r 217 #[a]=inside (FF lf r a):=by unfold FF;simp only[aiK,XN,XM,LD];kernel_rfl
def mQ(lf:Nat)(r:RT):Nat->((M V)×(V->M V))->V->V->V->V->V->M V|0,_,_,_,_,_,_=> .fail|fu+1,k,a,b,c,d,e=>aW e d (aO a e fun g=>aM g fun h=>gI aa r b [h] fun i=>aK i (k.2 e) (ar e (ii 1) fun g=>mQ lf r fu k a b c d g)) (k.1)
def XP:List Nat:=[0,1,4,7,8]
def oX(lf:Nat)(r:RT):(M V)×(V->M V):=(aj [(ii (-1))],fun a=>aj [a])
def yu(lf:Nat)(r:RT)(a b:V):M V:=aT a fun c=>mQ lf r lf (oX lf r) a b (ii 0) c (ii 0)
theorem XQ(K:KT):∀fu,mQ lf r fu ((K (.exit 0) [],fun a=>K .ret (zp [4] [a])))=fun a b
 c d e=>aP (cQ 218 (pb 5 5) lf r) XP fu (zp XP [a,b,c,d,e]) K
 |0=>jK
 |fu+1=>by have f:=XQ K fu;funext a b c d e;rw[mQ];simp only[f];kernel_rfl
theorem aiL:oX lf r=(((tK 218 (pb 4 5) lf r) (.exit 0) [],fun a=>(tK 218 (pb 4 5) lf r) .ret (zp [4] [a]))):=jK
theorem FG:aD aa gt lf r 218 #[a,b]=inside (yu lf r a b):=by unfold yu;simp only[aiL,XQ];kernel_rfl
def wD(lf:Nat)(r:RT):Nat->(V->V->M V)->V->V->V->V->V->M V|0,_,_,_,_,_,_=> .fail|fu+1,k,a,b,c,d,e=>fi e (ii 0) (bL e (ii 1) fun g=>au a fun h=>gu 6 h g fun i=>aM i fun j=>au a fun l=>gu 6 l e fun m=>bc m j fun _=>bL e (ii 1) fun g=>wD lf r fu k a b c d g) (k a d)
def XR:List Nat:=[0,1,4,5,6]
def FH(lf:Nat)(r:RT):(V->V->M V):=fun a b=>au a fun c=>gu 6 c (ii 0) fun d=>bc d b fun _=>aj [b]
def FI(lf:Nat)(r:RT)(a b:V):M V:=au a fun c=>gu 6 c b fun d=>aM d fun e=>wD lf r lf (FH lf r) a b (ii 0) e b
theorem XS(K:KT):∀fu,wD lf r fu (fun a b=>K (.exit 0) (zp [0,5] [a,b]))=fun a b c d e=>aP (cQ
 219 (pb 6 11) lf r) XR fu (zp XR [a,b,c,d,e]) K
 |0=>jK
 |fu+1=>by have f:=XS K fu;funext a b c d e;rw[wD];simp only[f];kernel_rfl
theorem aiM:FH lf r=(fun a b=>(tK 219 (pb 5 11) lf r) (.exit 0) (zp [0,5] [a,b])):=jK
theorem XT:aD aa gt lf r 219 #[a,b]=inside (FI lf r a b):=by unfold FI;simp only[aiM,XS];kernel_rfl
def LF(lf:Nat)(r:RT)(a:V):M V:=ak r 221 [a] fun b=>ek b fun c=>aj [c]
theorem XU:aD aa gt lf r 220 #[a]=inside (LF lf r a):=jK
def LG(lf:Nat)(r:RT)(a:V):M V:=hZ a (ii 0) (mL a (ii 1099511627776) fun c=>aj [c]) (aj [bF])
theorem XV:aD aa gt lf r 221 #[a]=inside (LG lf r a):=jK
def LH(lf:Nat)(r:RT)(a b c:V):M V:=fz 3 b fun d=>fz 3 c fun e=>ak r 193 [a,(zy (HB 236) #[] #[d,e])] fun f=>ek f fun g=>aj [g]
theorem XW:aD aa gt lf r 222 #[a,b,c]=inside (LH lf r a b c):=jK
def XX(lf:Nat)(r:RT)(a:V):M V:=fi a (ii 1099511627776) (aj [(ii 1099511627776)]) (aj [a])
theorem aiN:aD aa gt lf r 223 #[a]=inside (XX lf r a):=jK
def tQ(lf:Nat)(r:RT):Nat->(V->M V)->V->V->V->V->V->V->M V|0,_,_,_,_,_,_,_=> .fail|fu+1,k,a,b,c,d,e,f=>aW f e (ki 3 d f fun h=>bR 3 h fun i=>cU 250 s0 fun j=>b9 3 j i fun _=>bR 3 j fun h=>ki 3 a c fun i=>bR 3 i fun l=>ak r 237 [h,l] fun m=>aK m (ar f (ii 1) fun c=>tQ lf r fu k a b f d e c) (ar f (ii 1) fun h=>tQ lf r fu k a b c d e h)) (k c)
def XY:List Nat:=[0,2,3,6,7,8]
def FJ(lf:Nat)(r:RT):(V->M V):=fun a=>aj [a]
def LI(lf:Nat)(r:RT)(a:V):M V:=aT a fun b=>tQ lf r lf (FJ lf r) a (ii 0) (ii 0) a b (ii 0)
theorem XZ(K:KT):∀fu,tQ lf r fu (fun a=>K (.exit 0) (zp [3] [a]))=fun a b c d e f=>aP (cQ 224 (pb
 6 11) lf r) XY fu (zp XY [a,b,c,d,e,f]) K
 |0=>jK
 |fu+1=>by have g:=XZ K fu;funext a b c d e f;rw[tQ];simp only[g];kernel_rfl
theorem aiO:FJ lf r=(fun a=>(tK 224 (pb 5 11) lf r) (.exit 0) (zp [3] [a])):=jK
theorem aiP:aD aa gt lf r 224 #[a]=inside (LI lf r a):=by unfold LI;simp only[aiO,XZ];kernel_rfl
def tR(lf:Nat)(r:RT):Nat->(V->M V)->V->V->V->V->V->V->V->M V|0,_,_,_,_,_,_,_,_=> .fail|fu+1,k,a,b,c,d,e,f,g=>aW g f (ki 3 e g fun i=>bR 3 i fun j=>cU 250 s0 fun l=>b9 3 l j fun _=>gQ g b (bR 3 l fun j=>bV 250 3 j fun m=>bH 250 3 d m fun n=>ar g (ii 1) fun d=>tR lf r fu k a b c n e f d) (ar g (ii 1) fun j=>tR lf r fu k a b c d e f j)) (k d)
def X0:List Nat:=[0,1,4,5,8,9,10]
def FK(lf:Nat)(r:RT):(V->M V):=fun a=>aj [a]
def LJ(lf:Nat)(r:RT)(a b:V):M V:=aT a fun c=>tR lf r lf (FK lf r) a b nS nS a c (ii 0)
theorem X1(K:KT):∀fu,tR lf r fu (fun a=>K (.exit 0) (zp [5] [a]))=fun a b c d e f g=>aP (cQ
 225 (pb 6 11) lf r) X0 fu (zp X0 [a,b,c,d,e,f,g]) K
 |0=>jK
 |fu+1=>by have h:=X1 K fu;funext a b c d e f g;rw[tR];simp only[h];kernel_rfl
theorem aiQ:FK lf r=(fun a=>(tK 225 (pb 5 11) lf r) (.exit 0) (zp [5] [a])):=jK
theorem aiR:aD aa gt lf r 225 #[a,b]=inside (LJ lf r a b):=by unfold LJ;simp only[aiQ,X1];kernel_rfl
def LK(lf:Nat)(r:RT)(a b:V):M V:=cU 31 z31 fun c=>au a fun d=>aA 4 d fun f=>cT f (ii 0) (au a fun d=>aA 0 d fun f=>gJ f b fun h=>ey .i64 h fun i=>dz z31 [(0,1,i),(1,1,(ii 0))] fun j=>b9 2 c j fun _=>bR 2 c fun a=>aj [a]) (au a fun d=>aA 2 d fun f=>aO f b fun h=>aM h fun i=>au a fun j=>aA 2 j fun m=>au a fun n=>aA 4 n fun p=>ar b p fun q=>au a fun s=>aA 0 s fun u=>cS u fun v=>mN q v fun w=>aO m w fun x=>aM x fun y=>dz z31 [(0,1,i),(1,1,y)] fun z=>b9 2 c z fun _=>bR 2 c fun a=>aj [a])
theorem X2:aD aa gt lf r 232 #[a,b]=inside (LK lf r a b):=jK
def wE(lf:Nat)(r:RT):Nat->(V->V->V->V->V->V->M V)->V->V->V->V->V->M V|0,_,_,_,_,_,_=> .fail|fu+1,k,a,b,c,d,e=>cE e d fun f=>aK f (ak r 244 [c] fun g=>ak r 244 [c] fun h=>ak r 245 [c,g,h] fun i=>ar e (ii 1) fun h=>wE lf r fu k a b c d h) (k a b c d e f)
def X3:List Nat:=[0,2,3,11,12]
def wF(lf:Nat)(r:RT):Nat->(V->V->M V)->V->V->V->V->V->V->V->V->M V|0,_,_,_,_,_,_,_,_,_=> .fail|fu+1,k,a,b,c,d,e,f,g,h=>hZ e (ii 0) (au c fun j=>aA 1 j fun m=>aO m e fun n=>aM n fun o=>aO d o fun p=>aM p fun q=>ar q (ii 1) fun s=>aO d e fun t=>bc t s fun _=>bL e (ii 1) fun j=>wF lf r fu k a b c d j f g h) (k a d)
def X4:List Nat:=[0,2,3,5,6,11,12,13]
def LL(lf:Nat)(r:RT):(V->V->M V):=fun a b=>aT a fun c=>lR 3 1 b none (some c) fun d=>aj [d]
def FL(lf:Nat)(r:RT):(V->V->V->V->V->V->M V):=fun a b c d e f=>au c fun g=>aA 0 g fun i=>aT i fun j=>gP 3 [(ii 0)] j j fun l=>aT l fun g=>bL g (ii 2) fun h=>wF lf r lf (LL lf r) a b c l h d e f
def FM(lf:Nat)(r:RT)(a:V):M V:=ak r 243 [a] fun b=>aT a fun c=>bL c (ii 1) fun d=>wE lf r lf (FL lf r) a nS b d (ii 0)
theorem X5(K:KT):∀fu,wE lf r fu (fun a b c d e f=>K (.exit 0) (zp [0,2,3,11,12,13] [a,b,c,d,e,f]))=fun
 a b c d e=>aP (cQ 233 (pb 6 11) lf r) X3 fu (zp X3 [a,b,c,d,e]) K
 |0=>jK
 |fu+1=>by have g:=X5 K fu;funext a b c d e;rw[wE];simp only[g];kernel_rfl
theorem LM(K:KT):∀fu,wF lf r fu (fun a b=>K (.exit 2) (zp [0,5] [a,b]))=fun a b c d e f g h=>aP (cQ 233
 (pb 8 47) lf r) X4 fu (zp X4 [a,b,c,d,e,f,g,h]) K
 |0=>jK
 |fu+1=>by have i:=LM K fu;funext a b c d e f g h;rw[wF];simp only[i];kernel_rfl
theorem X6:LL lf r=(fun a b=>(tK 233 (pb 7 47) lf r) (.exit 2) (zp [0,5] [a,b])):=jK
theorem aiS:FL lf r=(fun a b c d e f=>(tK 233 (pb 5 11) lf r) (.exit 0) (zp [0,2,3,11,12,13] [a,b,c,d,e,f])):=by unfold FL;simp only[X6,LM];kernel_rfl
theorem X7:aD aa gt lf r 233 #[a]=inside (FM lf r a):=by unfold FM;simp only[aiS,X6,X5,LM];kernel_rfl
def wG(lf:Nat)(r:RT):Nat->(V->M V)->V->V->V->V->V->V->M V|0,_,_,_,_,_,_,_=> .fail|fu+1,k,a,b,c,d,e,f=>aW f e (aO d f fun h=>aM h fun i=>sR c i fun h=>ar f (ii 1) fun c=>wG lf r fu k a b h d e c) (k c)
def X8:List Nat:=[0,2,3,6,7,8]
def FN(lf:Nat)(r:RT):(V->M V):=fun a=>aj [a]
def FO(lf:Nat)(r:RT)(a:V):M V:=aT a fun b=>wG lf r lf (FN lf r) a (ii 0) (ii 0) a b (ii 0)
theorem X9(K:KT):∀fu,wG lf r fu (fun a=>K (.exit 0) (zp [3] [a]))=fun a b c d e f=>aP (cQ 234 (pb 6 11)
 lf r) X8 fu (zp X8 [a,b,c,d,e,f]) K
 |0=>jK
 |fu+1=>by have g:=X9 K fu;funext a b c d e f;rw[wG];simp only[g];kernel_rfl
theorem aiT:FN lf r=(fun a=>(tK 234 (pb 5 11) lf r) (.exit 0) (zp [3] [a])):=jK
theorem X':aD aa gt lf r 234 #[a]=inside (FO lf r a):=by unfold FO;simp only[aiT,X9];kernel_rfl
def wH(lf:Nat)(r:RT):Nat->(V->M V)->V->V->V->V->V->V->M V|0,_,_,_,_,_,_,_=> .fail|fu+1,k,a,b,c,d,e,f=>aW f e (aO d f fun h=>aM h fun i=>sR i (ii 0) fun h=>iE h (ii 2) fun j=>ar j (ii 1) fun l=>aO c f fun m=>bc m l fun _=>ar f (ii 1) fun h=>wH lf r fu k a b c d e h) (k c)
def Ya:List Nat:=[0,2,3,9,10,11]
def FP(lf:Nat)(r:RT):(V->M V):=fun a=>aj [a]
def FQ(lf:Nat)(r:RT)(a:V):M V:=aT a fun b=>gP 3 [(ii 0)] b b fun c=>aT a fun b=>wH lf r lf (FP lf r) a nS c a b (ii 0)
theorem Yb(K:KT):∀fu,wH lf r fu (fun a=>K (.exit 0) (zp [3] [a]))=fun a b c d e f=>aP (cQ 235 (pb 6 11) lf
 r) Ya fu (zp Ya [a,b,c,d,e,f]) K
 |0=>jK
 |fu+1=>by have g:=Yb K fu;funext a b c d e f;rw[wH];simp only[g];kernel_rfl
theorem aiU:FP lf r=(fun a=>(tK 235 (pb 5 11) lf r) (.exit 0) (zp [3] [a])):=jK
theorem Yc:aD aa gt lf r 235 #[a]=inside (FQ lf r a):=by unfold FQ;simp only[aiU,Yb];kernel_rfl
def LN(lf:Nat)(r:RT)(a b c:V):M V:=aM b fun d=>aW a d (aj [bT]) (aM c fun f=>jr a f fun g=>aj [g])
theorem Yd:aD aa gt lf r 236 #[a,b,c]=inside (LN lf r a b c):=jK
def Ye(lf:Nat)(r:RT)(a b:V):M V:=fz 250 a fun c=>fz 250 b fun d=>aA 0 c fun f=>aA 0 d fun h=>aW f h (aj [bT]) (aA 0 c fun l=>aA 0 d fun n=>cT l n (aA 1 c fun q=>aA 1 d fun t=>cE q t fun u=>aj [u]) (aj [bF]))
theorem aiV:aD aa gt lf r 237 #[a,b]=inside (Ye lf r a b):=jK
def wI(lf:Nat)(r:RT):Nat->(V->V->M V)->V->V->V->V->V->V->M V|0,_,_,_,_,_,_,_=> .fail|fu+1,k,a,b,c,d,e,f=>aW f e (au d fun h=>aA 2 h fun j=>bV 3 1 f fun l=>bH 3 1 j l fun m=>au d fun n=>ba 2 n fun o=>bc o m fun _=>au d fun h=>aA 1 h fun j=>bV 3 1 (ii (-1)) fun l=>bH 3 1 j l fun m=>au d fun n=>ba 1 n fun o=>bc o m fun _=>ar f (ii 1) fun h=>wI lf r fu k a b c d e h) (k b d)
def Yf:List Nat:=[0,1,2,3,12,13]
def LO(lf:Nat)(r:RT):(V->V->M V):=fun a b=>au b fun c=>aA 2 c fun e=>ak r 248 [e,(zy (HB 249) #[] #[a])] fun f=>aj [b]
def FU(lf:Nat)(r:RT)(a:V):M V:=fz 141 a fun b=>(bx (aM b M.ret)).bind fun c=>(bx (ak r 156 [c.1] M.ret)).bind fun d=>(bx (aM b M.ret)).bind fun e=>aT e.1 fun f=>dz RJ [(0,1,d.1),(3,1,f)] fun g=>(bx (fz 276 g M.ret)).bind fun h=>lT ((!(fs d.2 e.2)&&true)&&true) (aM b fun c=>aT c fun d=>wI lf r lf (LO lf r) a b nP h.1 d (ii 0))
theorem Yg(K:KT):∀fu,wI lf r fu (fun a b=>K (.exit 0) (zp [1,3] [a,b]))=fun a b c d e f=>aP (cQ 243 (pb
 6 11) lf r) Yf fu (zp Yf [a,b,c,d,e,f]) K
 |0=>jK
 |fu+1=>by have g:=Yg K fu;funext a b c d e f;rw[wI];simp only[g];kernel_rfl
theorem aiW:LO lf r=(fun a b=>(tK 243 (pb 5 11) lf r) (.exit 0) (zp [1,3] [a,b])):=jK
theorem Yh:aD aa gt lf r 243 #[a]=inside (FU lf r a):=by unfold FU;simp only[aiW,Yg];kernel_rfl
def LP(lf:Nat)(r:RT)(a:V):M V:=au a fun b=>aA 3 b fun d=>au a fun e=>aA 0 e fun g=>aT g fun h=>cT d h (au a fun b=>aA 2 b fun d=>aO d (ii 0) fun e=>aM e fun f=>au a fun b=>aA 2 b fun d=>lR 3 1 d (some (ii 1)) none fun e=>au a fun g=>ba 2 g fun h=>bc h e fun _=>aj [f]) (au a fun j=>aA 2 j fun m=>aT m fun n=>fi n (ii 0) (au a fun p=>aA 0 p fun s=>au a fun t=>aA 2 t fun v=>aO v (ii 0) fun w=>aM w fun x=>aO s x fun y=>aM y fun z=>au a fun A=>aA 0 A fun C=>au a fun D=>aA 3 D fun G=>aO C G fun J=>aM J fun L=>ye z L (au a fun b=>aA 2 b fun d=>aO d (ii 0) fun e=>aM e fun f=>au a fun b=>aA 2 b fun d=>lR 3 1 d (some (ii 1)) none fun e=>au a fun g=>ba 2 g fun h=>bc h e fun _=>aj [f]) (au a fun b=>aA 3 b fun d=>ar d (ii 1) fun e=>au a fun f=>ba 3 f fun g=>bc g e fun _=>au a fun b=>aA 3 b fun d=>bL d (ii 1) fun e=>aj [e])) (au a fun b=>aA 3 b fun d=>ar d (ii 1) fun e=>au a fun f=>ba 3 f fun g=>bc g e fun _=>au a fun b=>aA 3 b fun d=>bL d (ii 1) fun e=>aj [e]))
theorem Yi:aD aa gt lf r 244 #[a]=inside (LP lf r a):=jK
def LQ(lf:Nat)(r:RT)(a b c:V):M V:=au a fun d=>aA 1 d fun f=>au a fun g=>aA 0 g fun i=>aT i fun j=>aO f b fun l=>bc l j fun _=>au a fun d=>aA 1 d fun f=>au a fun g=>aA 0 g fun i=>aT i fun j=>aO f c fun l=>bc l j fun _=>au a fun d=>aA 0 d fun f=>au a fun g=>aA 0 g fun i=>aO i b fun j=>aM j fun l=>au a fun m=>aA 0 m fun o=>aO o c fun p=>aM p fun q=>ar l q fun s=>bV 3 1 s fun t=>bH 3 1 f t fun u=>au a fun v=>ba 0 v fun w=>bc w u fun _=>au a fun d=>aA 1 d fun f=>bV 3 1 (ii (-1)) fun g=>bH 3 1 f g fun h=>au a fun i=>ba 1 i fun j=>bc j h fun _=>aj []
theorem Yj:aD aa gt lf r 245 #[a,b,c]=inside (LQ lf r a b c):=jK
def LR(lf:Nat)(r:RT)(a b:V):M V:=aT a fun c=>ak r 251 [a,c,b] fun d=>aj []
theorem Yk:aD aa gt lf r 248 #[a,b]=inside (LR lf r a b):=jK
def LS(lf:Nat)(r:RT)(a b c:V):M V:=aM c fun d=>aO d a fun e=>aM e fun f=>aM c fun g=>aO g b fun h=>aM h fun i=>ak r 250 [f,i] fun j=>aj [j]
theorem Yl:aD aa gt lf r 249 #[a,b,c]=inside (LS lf r a b c):=jK
def LU(lf:Nat)(r:RT)(a b:V):M V:=ak r 252 [a] fun c=>ak r 252 [b] fun d=>aK c (aK d (aj [(ii 0)]) (aj [(ii (-1))])) (aK d (aj [(ii 1)]) (aW a b (aj [(ii (-1))]) (fi a b (aj [(ii 1)]) (aj [(ii 0)]))))
theorem Ym:aD aa gt lf r 250 #[a,b]=inside (LU lf r a b):=jK
def wJ(lf:Nat)(r:RT):Nat->(V->V->V->V->V->V->V->M V)->V->V->V->V->V->V->M V|0,_,_,_,_,_,_,_=> .fail|fu+1,k,a,b,c,d,e,f=>mL f b fun g=>aK g (ak r 253 [a,e,f,c] fun h=>ar f d fun e=>wJ lf r fu k a b c d f e) (k a b c d e f g)
def Yn:List Nat:=[0,1,2,6,7,8]
def wK(lf:Nat)(r:RT):Nat->(V->V->V->V->V->V->V->M V)->V->V->V->V->V->V->V->V->M V|0,_,_,_,_,_,_,_,_,_=> .fail|fu+1,k,a,b,c,d,e,f,g,h=>ye f b (ar e d fun j=>ak r 254 [a,e,j,f,c] fun l=>jq (ii 2) d fun e=>ar f e fun j=>wK lf r fu k a b c d f j g h) (k a b c d e f g)
def Yo:List Nat:=[0,1,2,6,7,8,13,30]
def FV(lf:Nat)(r:RT)(k:(M V))(i:V->V->V->V->V->V->V->M V):(V->V->V->V->V->V->V->M V):=fun a b c d e f g=>ar e d fun h=>aW h b (ak r 254 [a,e,h,b,c] fun j=>jq d (ii 2) fun j=>i a b c j e f g) (jq d (ii 2) fun j=>i a b c j e f g)
def tS(lf:Nat)(r:RT):Nat->(M V)->V->V->V->V->V->V->V->M V|0,_,_,_,_,_,_,_,_=> .fail|fu+1,k,a,b,c,d,e,f,g=>cE d b fun h=>aK h (jq (ii 2) d fun i=>wK lf r lf (FV lf r k (tS lf r fu k)) a b c d (ii 0) i g h) (k)
def A8:List Nat:=[0,1,2,6,7,8,13]
abbrev aiX(lf:Nat)(r:RT)(a:Nat)(k:(M V)):(V->V->V->V->V->V->V->M V):=FV lf r k (tS lf r a k)
def FW(lf:Nat)(r:RT):(M V):=aj []
def A9(lf:Nat)(r:RT):(V->V->V->V->V->V->V->M V):=fun a b c d e f g=>ak r 253 [a,e,b,c] fun h=>tS lf r lf (FW lf r) a b c d e f g
def FX(lf:Nat)(r:RT)(a b c:V):M V:=wJ lf r lf (A9 lf r) a b c (ii 20) (ii 0) (ii 20)
theorem Yp(K:KT):∀fu,wJ lf r fu (fun a b c d e f g=>K (.exit 0) (zp [0,1,2,6,7,8,
 13] [a,b,c,d,e,f,g]))=fun a b c d e f=>aP (cQ 251 (pb 5 3) lf r) Yn fu (zp Yn [a,b,c,d,e,f]) K
 |0=>jK
 |fu+1=>by have h:=Yp K fu;funext a b c d e f;rw[wJ];simp only[h];kernel_rfl
theorem Yq(K:KT):∀fu,wK lf r fu (fun a b c d e f g=>K (.exit 4) (zp [0,1,2,6,7,8,
 13] [a,b,c,d,e,f,g]))=fun a b c d e f g h=>aP (cQ 251 (pb 12 335) lf r) Yo fu (zp Yo [a,b,c,d,e,f,g,h]) K
 |0=>jK
 |fu+1=>by have i:=Yq K fu;funext a b c d e f g h;rw[wK];simp only[i];kernel_rfl
theorem aiY(K:KT)(h:Nat):FV lf r (K (.exit 2) []) (fun a b c d e f g=>aP (cQ 251 (pb
 6 15) lf r) A8 h (zp A8 [a,b,c,d,e,f,g]) K)=(fun a b c d e f g=>(iK 251 (pb 6 15) (pb 5 5)
 A8 h K lf r) (.exit 4) (zp [0,1,2,6,7,8,13] [a,b,c,d,e,f,g])):=by kernel_rfl
theorem LV(K:KT):∀fu,tS lf r fu (K (.exit 2) [])=fun a b c d e f g=>aP (cQ 251 (pb
 6 15) lf r) A8 fu (zp A8 [a,b,c,d,e,f,g]) K
 |0=>jK
 |fu+1=>by have h:=LV K fu;funext a b c d e f g;rw[tS];simp only[h,aiY,Yq];kernel_rfl
theorem Yr:FW lf r=((tK 251 (pb 5 15) lf r) (.exit 2) []):=jK
theorem aiZ:A9 lf r=(fun a b c d e f g=>(tK 251 (pb 4 3) lf r) (.exit 0) (zp [0,1,2,6,7,8,13] [a,b,c,d,e,f,g])):=by unfold A9;simp only[Yr,LV];kernel_rfl
theorem Ys:aD aa gt lf r 251 #[a,b,c]=inside (FX lf r a b c):=by unfold FX;simp only[aiZ,Yr,Yp,LV];kernel_rfl
def LW(lf:Nat)(r:RT)(a:V):M V:=hC a a fun b=>aj [b]
theorem Yt:aD aa gt lf r 252 #[a]=inside (LW lf r a):=jK
def wL(lf:Nat)(r:RT):Nat->(V->V->V->V->V->M V)->V->V->V->V->V->V->V->M V|0,_,_,_,_,_,_,_,_=> .fail|fu+1,k,a,b,c,d,e,f,g=>fi f b (aO a f fun i=>aM i fun j=>bL f (ii 1) fun l=>aO a l fun m=>aM m fun n=>gI aa r d [j,n] fun o=>aW o (ii 0) (bL f (ii 1) fun h=>bL f (ii 1) fun i=>aO a i fun j=>aM j fun l=>aO a f fun m=>aM m fun n=>aO a f fun o=>bc o l fun _=>aO a h fun q=>bc q n fun _=>bL f (ii 1) fun h=>wL lf r fu k a b c d e h g) (k a b c d e)) (k a b c d e)
def Yu:List Nat:=[0,1,2,3,8,9,14]
def FY(lf:Nat)(r:RT)(k:(M V))(g:V->V->V->V->V->M V):(V->V->V->V->V->M V):=fun a b c d e=>ar e (ii 1) fun f=>g a b c d f
def qf(lf:Nat)(r:RT):Nat->(M V)->V->V->V->V->V->M V|0,_,_,_,_,_,_=> .fail|fu+1,k,a,b,c,d,e=>cE e c fun f=>aK f (wL lf r lf (FY lf r k (qf lf r fu k)) a b c d e e f) (k)
def Ba:List Nat:=[0,1,2,3,8]
abbrev ai0(lf:Nat)(r:RT)(a:Nat)(k:(M V)):(V->V->V->V->V->M V):=FY lf r k (qf lf r a k)
def Bb(lf:Nat)(r:RT):(M V):=aj []
def Bc(lf:Nat)(r:RT)(a b c d:V):M V:=ar b (ii 1) fun e=>qf lf r lf (Bb lf r) a b c d e
theorem Yv(K:KT):∀fu,wL lf r fu (fun a b c d e=>K (.exit 2) (zp [0,1,2,
 3,8] [a,b,c,d,e]))=fun a b c d e f g=>aP (cQ 253 (pb 9 73) lf r) Yu fu (zp Yu [a,b,c,d,e,f,g]) K
 |0=>jK
 |fu+1=>by have h:=Yv K fu;funext a b c d e f g;rw[wL];simp only[h];kernel_rfl
theorem ai1(K:KT)(f:Nat):FY lf r (K (.exit 0) []) (fun a b c d e=>aP
 (cQ 253 (pb 3 1) lf r) Ba f (zp Ba [a,b,c,d,e]) K)=(fun a b c d e=>(iK 253 (pb 3 1) (pb 5 9)
 Ba f K lf r) (.exit 2) (zp [0,1,2,3,8] [a,b,c,d,e])):=by kernel_rfl
theorem Yw(K:KT):∀fu,qf lf r fu (K (.exit 0) [])=fun a b c d e=>aP
 (cQ 253 (pb 3 1) lf r) Ba fu (zp Ba [a,b,c,d,e]) K
 |0=>jK
 |fu+1=>by have f:=Yw K fu;funext a b c d e;rw[qf];simp only[f,ai1,Yv];kernel_rfl
theorem ai2:Bb lf r=((tK 253 (pb 2 1) lf r) (.exit 0) []):=jK
theorem LX:aD aa gt lf r 253 #[a,b,c,d]=inside (Bc lf r a b c d):=by unfold Bc;simp only[ai2,Yw];kernel_rfl
def tT(lf:Nat)(r:RT):Nat->(V->V->V->V->V->V->V->V->V->M V)->V->V->V->V->V->V->V->V->M V|0,_,_,_,_,_,_,_,_,_=> .fail|fu+1,k,a,b,c,d,e,f,g,h=>cE f g fun i=>aK i (ar f g fun j=>ey .u64 j fun l=>kX l (i6 1) fun m=>ey .i64 m fun n=>aO a n fun j=>aM j fun l=>aO a b fun m=>aM m fun o=>gI aa r e [l,o] fun p=>aW p (ii 0) (ar n (ii 1) fun j=>tT lf r fu k a b c d e j g h) (tT lf r fu k a b c d e f n h)) (k a b c d e f g h i)
def Yx:List Nat:=[0,1,2,3,4,10,11,28]
def tU(lf:Nat)(r:RT):Nat->(V->V->V->V->V->V->V->V->V->V->M V)->V->V->V->V->V->V->V->V->V->M V|0,_,_,_,_,_,_,_,_,_,_=> .fail|fu+1,k,a,b,c,d,e,f,g,h,i=>cE f g fun j=>aK j (ar f g fun l=>ey .u64 l fun m=>kX m (i6 1) fun n=>ey .i64 n fun o=>aO a c fun l=>aM l fun m=>aO a o fun n=>aM n fun p=>gI aa r e [m,p] fun q=>cE q (ii 0) fun s=>ek s fun t=>aK t (ar o (ii 1) fun l=>tU lf r fu k a b c d e l g h i) (tU lf r fu k a b c d e f o h i)) (k a b c d e f g h i j)
def Yy:List Nat:=[0,1,2,3,4,14,15,28,80]
def tV(lf:Nat)(r:RT):Nat->(V->V->V->V->V->V->V->V->M V)->V->V->V->V->V->V->V->V->V->V->V->V->V->M V|0,_,_,_,_,_,_,_,_,_,_,_,_,_,_=> .fail|fu+1,k,a,b,c,d,e,f,g,h,i,j,l,m,n=>aW h i (ar h i fun p=>ey .u64 p fun q=>kX q (i6 1) fun s=>ey .i64 s fun t=>bL j t fun p=>aO a p fun q=>aM q fun s=>aO a t fun u=>aM u fun v=>gI aa r e [s,v] fun w=>cE w (ii 0) fun x=>ek x fun y=>aK y (ar t (ii 1) fun p=>tV lf r fu k a b c d e f g p i j l m n) (tV lf r fu k a b c d e f g h t j l m n)) (k a b c d e f g h)
def Yz:List Nat:=[0,1,2,3,4,18,19,20,21,22,28,80,140]
def wM(lf:Nat)(r:RT):Nat->(M V)->V->V->V->V->V->V->V->V->V->V->M V|0,_,_,_,_,_,_,_,_,_,_,_=> .fail|fu+1,k,a,b,c,d,e,f,g,h,i,j=>bL f (ii 1) fun l=>aW h l (ar h (ii 1) fun l=>ar h (ii 1) fun n=>aO a n fun o=>aM o fun p=>aO a h fun q=>aM q fun s=>aO a h fun t=>bc t p fun _=>aO a l fun u=>bc u s fun _=>ar h (ii 1) fun l=>wM lf r fu k a b c d e f g l i j) (k)
def YA:List Nat:=[0,1,2,3,4,10,11,13,28,33]
def wN(lf:Nat)(r:RT):Nat->(M V)->V->V->V->V->V->V->V->V->V->V->V->M V|0,_,_,_,_,_,_,_,_,_,_,_,_=> .fail|fu+1,k,a,b,c,d,e,f,g,h,i,j,l=>fi h f (bL h (ii 1) fun n=>bL h (ii 1) fun o=>aO a o fun p=>aM p fun q=>aO a h fun s=>aM s fun t=>aO a h fun u=>bc u q fun _=>aO a n fun v=>bc v t fun _=>bL h (ii 1) fun n=>wN lf r fu k a b c d e f g n i j l) (k)
def YB:List Nat:=[0,1,2,3,4,14,15,17,28,80,85]
def LY(lf:Nat)(r:RT):(M V):=aj []
def LZ(lf:Nat)(r:RT):(M V):=aj []
def Bd(lf:Nat)(r:RT):(V->V->V->V->V->V->V->V->M V):=fun a b c d e f g h=>bL g h fun i=>aW h c (cE c i fun l=>(fun m=>aK l (ak r 255 [a,h,c,i,e] fun j=>m) (m)) (aW b h (cE h f fun m=>(fun n=>aK m (ak r 254 [a,b,h,f,e] fun j=>n) (n)) (aW f i (aW i d (ak r 254 [a,f,i,d,e] fun j=>aj []) (aj [])) (aj []))) (aW f i (aW i d (ak r 254 [a,f,i,d,e] fun j=>aj []) (aj [])) (aj [])))) (aW b h (cE h f fun l=>(fun m=>aK l (ak r 254 [a,b,h,f,e] fun j=>m) (m)) (aW f i (aW i d (ak r 254 [a,f,i,d,e] fun j=>aj []) (aj [])) (aj []))) (aW f i (aW i d (ak r 254 [a,f,i,d,e] fun j=>aj []) (aj [])) (aj [])))
def Be(lf:Nat)(r:RT):(V->V->V->V->V->V->V->V->V->V->M V):=fun a b c d e f g h i j=>wN lf r lf (LY lf r) a b c d e f g c h i j
def Bf(lf:Nat)(r:RT):(V->V->V->V->V->V->V->V->V->M V):=fun a b c d e f g h i=>wM lf r lf (LZ lf r) a b c d e f g b h i
def yv(lf:Nat)(r:RT)(a b c d e:V):M V:=bL c b fun f=>ej f (ii 1) fun g=>aK g (tT lf r lf (Bf lf r) a b c d e c d g) (bL d c fun f=>ej f (ii 1) fun h=>aK h (tU lf r lf (Be lf r) a b c d e b c g h) (ar b d fun f=>ey .u64 f fun i=>kX i (i6 1) fun j=>ey .i64 j fun l=>ar l c fun f=>jr c l fun i=>(fun m=>aK i (bL f d fun j=>m j l) (m b c)) fun m j=>bL f (ii 1) fun n=>tV lf r lf (Bd lf r) a b c d e l f m j n g h i))
theorem YC(K:KT):∀fu,tT lf r fu (fun a b c d e f g h i=>K (.exit 0) (zp [0,1,2,3,
 4,10,11,28,33] [a,b,c,d,e,f,g,h,i]))=fun a b c d e f g h=>aP (cQ 254 (pb 8 26) lf r) Yx fu (zp Yx [a,b,c,d,e,f,g,h]) K
 |0=>jK
 |fu+1=>by have j:=YC K fu;funext a b c d e f g h;rw[tT];simp only[j];kernel_rfl
theorem YD(K:KT):∀fu,tU lf r fu (fun a b c d e f g h i j=>K (.exit 4) (zp [0,1,2,
 3,4,14,15,28,80,85] [a,b,c,d,e,f,g,h,i,j]))=fun a b c d e f g h i=>aP (cQ 254 (pb 9 53) lf r) Yy fu (zp
 Yy [a,b,c,d,e,f,g,h,i]) K
 |0=>jK
 |fu+1=>by have k:=YD K fu;funext a b c d e f g h i;rw[tU];simp only[k];kernel_rfl
theorem YE(K:KT):∀fu,tV lf r fu (fun a b c d e f g h=>K (.exit 8) (zp [0,1,2,3,
 4,18,19,20] [a,b,c,d,e,f,g,h]))=fun a b c d e f g h i j l m n=>aP (cQ 254 (pb 10 127) lf r) Yz fu (zp
 Yz [a,b,c,d,e,f,g,h,i,j,l,m,n]) K
 |0=>jK
 |fu+1=>by have k:=YE K fu;funext a b c d e f g h i j l m n;rw[tV];simp only[k];kernel_rfl
theorem L0(K:KT):∀fu,wM lf r fu (K (.exit 2) [])=fun a b c d e f g h i j=>aP
 (cQ 254 (pb 10 186) lf r) YA fu (zp YA [a,b,c,d,e,f,g,h,i,j]) K
 |0=>jK
 |fu+1=>by have k:=L0 K fu;funext a b c d e f g h i j;rw[wM];simp only[k];kernel_rfl
theorem Ma(K:KT):∀fu,wN lf r fu (K (.exit 6) [])=fun a b c d e f g h i j l=>aP
 (cQ 254 (pb 11 373) lf r) YB fu (zp YB [a,b,c,d,e,f,g,h,i,j,l]) K
 |0=>jK
 |fu+1=>by have k:=Ma K fu;funext a b c d e f g h i j l;rw[wN];simp only[k];kernel_rfl
theorem YF:LY lf r=((tK 254 (pb 10 373) lf r) (.exit 6) []):=jK
theorem YG:LZ lf r=((tK 254 (pb 9 186) lf r) (.exit 2) []):=jK
theorem ai3:Bd lf r=(fun a b c d e f g h=>(tK 254 (pb 9 127) lf r) (.exit 8) (zp [0,1,
 2,3,4,18,19,20] [a,b,c,d,e,f,g,h])):=by kernel_rfl
theorem ai4:Be lf r=(fun a b c d e f g h i j=>(tK 254 (pb 8 53) lf r) (.exit 4) (zp [0,
 1,2,3,4,14,15,28,80,85] [a,b,c,d,e,f,g,h,i,j])):=by
 unfold Be;simp only[YF,Ma];kernel_rfl
theorem ai5:Bf lf r=(fun a b c d e f g h i=>(tK 254 (pb 7 26) lf r) (.exit 0) (zp [0,1,
 2,3,4,10,11,28,33] [a,b,c,d,e,f,g,h,i])):=by
 unfold Bf;simp only[YG,L0];kernel_rfl
theorem FZ:aD aa gt lf r 254 #[a,b,c,d,e]=inside (yv lf r a b c d e):=by
 unfold yv
 simp only[ai5,ai4,ai3,YG,
  YF,YC,YD,YE,L0,Ma]
 kernel_rfl
def wO(lf:Nat)(r:RT):Nat->(V->V->V->V->M V)->V->V->V->V->V->V->V->M V|0,_,_,_,_,_,_,_,_=> .fail|fu+1,k,a,b,c,d,e,f,g=>gQ f g (fi f g (bL c f fun j=>ak r 256 [a,j,c,g,e] fun l=>bL f g fun j=>wO lf r fu k a b c d e j g) (bL c f fun j=>ar c g fun l=>bL l f fun m=>ak r 256 [a,j,m,f,e] fun n=>bL g f fun j=>wO lf r fu k a b c d e f j)) (k a c e f)
def YH:List Nat:=[0,1,2,3,4,10,11]
def Mb(lf:Nat)(r:RT):(V->V->V->V->M V):=fun a b c d=>bL b d fun e=>ak r 256 [a,e,b,d,c] fun f=>aj []
def F0(lf:Nat)(r:RT)(a b c d e:V):M V:=bL c b fun f=>bL d c fun g=>wO lf r lf (Mb lf r) a b c d e f g
theorem YI(K:KT):∀fu,wO lf r fu (fun a b c d=>K (.exit 0) (zp [0,2,4,10] [a,b,c,
 d]))=fun a b c d e f g=>aP (cQ 255 (pb 5 3) lf r) YH fu (zp YH [a,b,c,d,e,f,g]) K
 |0=>jK
 |fu+1=>by have h:=YI K fu;funext a b c d e f g;rw[wO];simp only[h];kernel_rfl
theorem ai6:Mb lf r=(fun a b c d=>(tK 255 (pb 4 3) lf r) (.exit 0) (zp [0,2,4,10] [a,b,c,d])):=jK
theorem YJ:aD aa gt lf r 255 #[a,b,c,d,e]=inside (F0 lf r a b c d e):=by unfold F0;simp only[ai6,YI];kernel_rfl
def wP(lf:Nat)(r:RT):Nat->(M V)->V->V->V->V->V->M V|0,_,_,_,_,_,_=> .fail|fu+1,k,a,b,c,d,e=>aW e d (ar b e fun g=>ar c e fun h=>ar c e fun i=>aO a i fun j=>aM j fun l=>ar b e fun m=>aO a m fun n=>aM n fun o=>aO a g fun p=>bc p l fun _=>aO a h fun q=>bc q o fun _=>ar e (ii 1) fun g=>wP lf r fu k a b c d g) (k)
def YK:List Nat:=[0,1,2,3,10]
def Mc(lf:Nat)(r:RT):(M V):=aj []
def F1(lf:Nat)(r:RT)(a b c d e:V):M V:=wP lf r lf (Mc lf r) a b c d (ii 0)
theorem YL(K:KT):∀fu,wP lf r fu (K (.exit 0) [])=fun a b c d e=>aP (cQ 256
 (pb 3 1) lf r) YK fu (zp YK [a,b,c,d,e]) K
 |0=>jK
 |fu+1=>by have f:=YL K fu;funext a b c d e;rw[wP];simp only[f];kernel_rfl
theorem ai7:Mc lf r=((tK 256 (pb 2 1) lf r) (.exit 0) []):=jK
theorem YM:aD aa gt lf r 256 #[a,b,c,d,e]=inside (F1 lf r a b c d e):=by unfold F1;simp only[ai7,YL];kernel_rfl
end
end Go.Proofs.YtcehhgppfahbkaaGreatDoor
