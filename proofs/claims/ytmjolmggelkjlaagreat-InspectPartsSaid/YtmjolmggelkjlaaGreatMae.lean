import Derived.Test.YtmjolmggelkjlaaGreatRows
import Derived.Test.YtmjolmggelkjlaaGreatMad
open Go.Proofs.Tryz renaming prog→ah
open Go.Value renaming string→aV, func→CU
open List renaming replicate→cr
open Go.Fn renaming func→CV
set_option linter.unusedVariables false
set_option linter.unusedSimpArgs false
namespace Go.Proofs.YtmjolmggelkjlaaGreat
open Go.RowKit Ev
def gtL:List Hint:=[([],[],[]),([],[],[]),([],[],[]),([0,1,4,5,6,7,8,9,20,30,55,56,57,58,59,69],[4],[(0,[])]),([0,2,3,4,5,7,8,9,
 10,13,20,21,22,23,51,53],[2],[(0,[3,4,5])]),([0,2,3,4,6,9,14,15,16,17,27,31,54,76],[2],[(0,[0,3,4])]),([0,1,2,3,6,7,8,9,10,11,
 12,14,34,54,55,56,57,69,73,78,83,85],[6],[(0,[1,2,3,7,8,9,10,11])]),([0,1,2,3,6,7,8,9,10,11,29],[6],[]),([0,1,2,3,6,7,8,9,
 10,11,12,14,15,16,34,57,67,68,69,70,71,72,95,144],[6],[(0,[1,3,7,9,11]),(2,[0,1,2,3,6,7,8,9,10,11,12,34,57,67])]),([0,1,2,3,
 6,7,8,9,10,11,12,13,24,29,30,31,55,56,86,109],[6],[(0,[0,1,2,3,6,7,8,24,29,30,31]),(2,[3,7,10,11,12,13])]),([0,1,2,3,6,7,8,
 9,10,11,12,13,14,30,35,36,37],[6],[(0,[3,7,8])]),([0,1,2,3,6,7,8,9,10,11,12,14,15,16,34,55,63,64,65,66,67,68,83,139,142],[6],
 [(0,[1,3,7,9,11]),(2,[0,1,2,3,6,7,8,9,10,11,12,34,55,63])]),([0,1,2,3,4,5],[0],[]),([0,1,4,5,6,7,8,9,10,17,30],[4,5],[]),
 ([0,2],[2],[]),([0,1,4,5,6,7,8,9,13,14,15,20,61],[4],[(0,[6])]),([0,1,4],[4],[]),([0,1,2],[2],[]),([0,2,3,4,6,7,8,9,10,11,12,
 21],[2,3],[(0,[4])]),([0,1,2,3,17,19,20,30,48],[2,3],[]),([0,1,2,4,17,18,19,20,24,28,39,58],[2],[(0,[1])]),([0,2,3,5,6,7,8,9,
 13,14,32,55],[2],[(0,[0,2,3])]),([0,2],[2],[]),([0,2],[2],[]),([0,1,2,6,7,8,10,18,19,20,21],[6],[(0,[7,8])]),([0,2,3,5,6,7,8,9],
 [2],[(0,[3])]),([0,1,4,5,6,7,8,9,10,15,16,17,23,45,64],[4],[(0,[4])]),([0,1,2],[2],[]),([0,1,2,3,4,5,6],[0],[]),([0,1,2,6,7,8,
 9,22],[6,7],[]),([0,1,2,4,5,6,9],[4],[(0,[2,4])]),([0,2],[2],[]),([0,2,4],[2],[]),([0,1,2,6],[6],[]),([0,1,2,3,5,6,7,8,9,10,
 11,13,50,57],[6],[]),([0,2,3,5,27],[2],[]),([0,2,4],[2],[]),([0,2,3,12],[2],[]),([0,2,4],[2],[]),([0,1,4,5,13,18,23,27],[4],[(0,
 [0,5])]),([0,1,4,5,19,42],[4],[]),([0,1,2,3,6,7,42,55],[6],[]),([0,1,2],[2],[]),([0,1,2,3,4,5,6],[0],[]),([0,1,4,5,6,7,15],[4,
 5],[]),([0,1,4,6],[4],[]),([0,2,4],[2],[]),([0,1,4,5,7,15,41],[4],[(0,[0,5])]),([0,2],[2],[]),([0,2,4],[2],[]),([0,2,4],[2],[]),
 ([0,2,4],[2],[]),([0,2,3,5,13],[2],[(0,[3])]),([0,1,4],[4],[]),([0,1,2,3,5,6,7,8,9,10,11,12,13,15,52,80,93,97],[6],[]),([0,2,
 4],[2],[]),([0,1,2,4,5,6,9],[4],[(0,[2,4])]),([0,2,4],[2],[]),([0,2,3,5,12],[2,3],[]),([0,2],[2],[]),([0,2,3,4,5,6,19,34,37,41,
 49],[2,3],[]),([0,2,3,4,8],[2],[(0,[3])]),([0,2],[2],[]),([0,2,3,4,8],[2],[(0,[3])]),([0,1,2,6,7,8,9,10,11,12,13,15,16,17,22,49,
 61,71,80],[6],[(0,[7])]),([],[],[]),([],[],[]),([0,1,4,6,7,8,9,10],[4],[(0,[0])]),([],[],[]),([0,1,4,6,7,8,9,10],[4],[(0,[0])]),
 ([0,2,3,4,5],[2],[(0,[3])]),([0,1,4],[4],[]),([0,2],[2],[]),([0,1,4,5,6,8,9,12,13,14,15,27,39,40,41,55],[4],[(0,[5,6]),(2,[0,1,
 4,5,6,12,13,14])]),([0,1,4,5],[4],[]),([0,1,2],[2],[]),([0,2],[2],[]),([0,2],[2],[]),([0,1,4,5,9],[4],[]),([0,2,3,4,5,7,8,15,
 35,47],[2],[(0,[])]),([0,1,4,5,6,7,8,9,10,11,15,16,17,23,36,41,51,59,68,72,83],[4],[(0,[4])]),([0,1,2,6],[6],[]),([0,2,10],[2],
 []),([0,1,4,5,6,12],[4],[]),([0,1,4],[4],[]),([0,2,4],[2],[]),([0,2,4],[2],[]),([0,2,4],[2],[]),([0,2,3,21,27],[],[]),([0,2,3,4,
 23,43,56,61,67],[2],[]),([0,1,4,6],[4],[]),([0,1,4],[4],[]),([0,1,4,5,6,12],[4],[]),([0,2],[2],[]),([0],[],[]),([0,23],[],[]),([0,
 1,4,5,19],[4,5],[]),([0,2],[2],[]),([0,2,4],[2],[]),([0,1,4,5,6,7,8,15,32],[4,5],[]),([0,2,3,4,5,17],[2],[]),([0],[],[]),([0,2,
 3,39],[],[]),([0,1,4,5,6,7,8],[4],[(0,[5])]),([0,1,4,5,6,7,8,9,11,13,16,20,27,52,56,82],[4],[]),([0,1,2,3,4,5,8,19,30,35],[2,
 3],[]),([],[],[]),([0,2,4],[2],[]),([0,2,3,4,7],[2],[(0,[3])]),([0,1,2,3,4,6,7,8,11,21],[2],[(0,[1,3])]),([0,2],[2],[]),([0,1,2,
 3,4,6],[2],[]),([0,2,3,4,8],[2],[(0,[3])]),([0,2,3,6],[2],[(0,[3])]),([0,2,6],[2],[(0,[0])]),([0,2,3,6],[2],[]),([0,2,3,4,5,6,18,
 30],[2,3],[]),([0,1],[],[]),([0,2],[2],[]),([0,2,3,5],[2],[]),([0,1,2,3],[2],[]),([0,2,4],[2],[]),([0,2],[2],[]),([0,1,4,5,9,10,
 15,20],[4,5],[]),([0,1,2,3,4,5,6,16,23,26],[2,3],[]),([0,1,2,4],[],[]),([0,2,4],[2],[]),([0,1,4],[4],[]),([0,2,3,4,5,6,9,11,
 12,17,22,24,25,32,47],[2],[(0,[2,3,4]),(2,[0,2,3,4,9,11])]),([0,1,2,6,7,8,9,10,11,12,17,31,46,65,70,86],[6],[]),([0,1,2,6,7,
 9,10,14,15,16,17,25],[6],[(0,[])]),([0,1,4,5,6,7,8,9,10,15,26,38,56,72],[4],[(0,[8])]),([0,1,2,6,7,8,9,11,12,26,30,31,32,33,
 41,44,48,49,50,57,68],[6,7],[(0,[8,9]),(2,[0,1,2,6,7,8,9,12,26,30,31,32])]),([0,1,4,5,6,7,9,12,14,15,16,17,27],[4,5],[(0,
 [6])]),([0,2,3,4,7,10,19,22,26,27,28],[2,3],[(0,[4]),(2,[0,2,3,4])]),([0,1,4,5,6,7,12,13,14],[4],[(0,[6])]),([],[],[]),([0,2,3,
 19],[2],[(0,[3])]),([0,1,4,5,6,7,8,10,11,12,13,30],[4],[(0,[4,5])]),([0,2,3,4,5,6,8,10,11,12,14,15,16,17,27,38],[2],[(0,[3]),(2,
 [0,2,4,5,6,10,11])]),([0,2,3,4,5,6,10],[2],[(0,[3])]),([0,1,4,5,6,7,8,9,12,17,26],[4,5],[(0,[6])]),([0,1,4,5,6,7,9,15,16,17,
 18,19,28,30],[4,5],[(0,[1,6,7])]),([0,2,3,4,5,6,7,8,9,10,12,13,20,26],[2],[(0,[3,4]),(2,[0,2,3,4,6,7,9])]),([0,1,4,5,6,7,9,
 10,11,22,23,24,25,38,39,40,41],[4],[(0,[0,1,4,5,6,7,22,23,24,25]),(2,[6])]),([0,1,4],[4],[]),([0,2,4],[2],[]),([0,1,4,5,7,24],
 [4],[(0,[0,5])]),([0,2,3,5],[2],[]),([0,1,4,5,6,12,15,19,35],[4,5],[]),([0,1,4,6,7,8],[],[(0,[])]),([0,2,3,10,17],[2],[]),([0,1,
 4,5,6,9,13],[4,5],[]),([0],[0],[]),([0],[0],[]),([0,1,4,5,6,12,16,29,37],[4],[]),([0,1,4,5,7,9,10,13,29,30,53],[4],[]),([0,1,4,
 5,6,22],[4,5],[]),([0,1,4,5,6,7,13,17],[4,5],[]),([0,1,4,5,6,7,15],[4,5],[]),([0,2,3,4,5,10],[2,3],[]),([0,2,3],[2],[]),([0,
 2,3,4,5,6,7,8,11,30,35,42,52],[2],[(0,[2,3,6,7])]),([0,1,2,6,7,8,10,11,12,21,36],[6],[(0,[6,7])]),([0,1,4,5,6,7,8,9,10,16],
 [4],[(0,[])]),([0,1,2,4,5,6,7,9,20,25,40,58,71],[4],[]),([0,2],[2],[]),([0,1,4],[4],[]),([0,2],[2],[]),([0,2,3,4,5,6,7,10,11,
 12,19],[2],[(0,[3]),(2,[0,2,3,6])]),([0,1,4],[4],[]),([0,1,2,6,7,8],[6],[]),([0,1,4,5,9,17],[4],[(0,[])]),([0,1,4,5,9,16],[4],
 [(0,[])]),([0,2,3,5,8],[2],[]),([0,1,4,5,6,7,9,10,11,12,13,14,24,25,26,27,28,29,42,43,44,46,47,48,49,58],[4],[(0,[4,5]),(2,[0,
 1,4,5,6,7,24,25,26,27,28,29]),(4,[0,1,4,5,6,7,10,24]),(6,[0,1,4,5,6,7,10,12,24,25,26,27,28,29,42,43])]),([0,1,4,5,6,8,9,18,
 19,20,21],[4],[(0,[5])]),([0,2,3,4,6,7,16,17,18,19,22,23,29,36],[2],[(0,[3]),(2,[0,2,3,6,16,17,18])]),([0,2,3,4,5,6,7,12,15,16,
 17,18,24,26,27,28,29],[2],[(0,[3]),(2,[0,2,3,4,5]),(4,[0,2,3,4,5,6,12,15,16,17])]),([0,2,3,4,6],[2],[(0,[0])]),([0,2,4],[2],[]),
 ([0,2,3,4,21,53,73,76],[],[]),([0,2],[2],[]),([],[],[]),([0,1,5],[],[]),([0,2,3,6],[2],[]),([0,2,4],[2],[]),([0,1,2,3,4,5,6,11,
 12],[0],[(0,[0,1]),(2,[0,1,2,3,5])]),([0,1,4,5,6,7,10,17,22,23,24],[4,5],[(1,[6])]),([0,2,3,9],[2,3],[]),([0,1,4,5,6,19,33],
 [4],[]),([0,2],[2],[]),([0,2,5],[2],[]),([0,11],[],[(0,[])]),([0,1,4,5,6,8,9,10,12,18,29,51],[4],[(0,[5])]),([0,1,2,5,6,7],[],
 [(0,[])]),([0,2,3,13],[2],[(0,[3])]),([0,1,4,5,6,7,10,21,26,30,35,46,52,62],[4],[(0,[4,6,7])]),([0,2],[2],[]),([0,1,4],[4],[]),
 ([0,1,2],[2],[]),([0,2,3,4,6,7,8,9,10,14],[2],[(0,[3])]),([0,1,4,5,6,7,8,9,11,14,15,16,18,19,20,21,27,36],[4],[(0,[6]),(2,[0,
 1,4,5,6,8,14,15])]),([0,1,4,5,6,7,8,9],[4],[(0,[5])]),([0,2,3,4,5,6,7,8,9,10,27],[2],[(0,[3])]),([0,1,4,5,6,7,8,9,10,11,24],
 [4],[(0,[5])]),([0,2,3,5,6,7,8,9,10,14,20,21,25],[2],[(0,[0,2,3,7,8,9,10]),(2,[])]),([0,1,4,5,6,7,8,13,22,34],[4],[(0,[0,1,4,
 5,6,7,13]),(2,[5])]),([0,2,4],[2],[]),([0,2,3,4,8,9,10],[],[(0,[])]),([],[],[]),([],[],[]),([],[],[]),([],[],[]),([0,1,2,6],[6],
 []),([0,1,4,5],[4],[]),([0,1,4,5,9,18,27,48],[4],[]),([0,1,2,6,8,9,10,11,12,22],[6],[(0,[])]),([0,2,3,5,6,7,8,9,10,14,15,16],
 [2],[(0,[3]),(2,[0,2,3,6,7,8,9])]),([0,2,4,6,8,10],[2],[]),([0,1,4,5,7,8,9,10,11,16],[4],[(0,[5])]),([0,1,4,5,6,7,8,9,10,11,
 17,18,19],[4],[(0,[5]),(2,[0,1,4,5,8,9,10])]),([0,2,3,4,5,6,7,8,9,10,11,12,13,15,18,19,20,21,39,66,67,68,69],[2],[(0,[0,2,3,
 4,18,19,20,21]),(2,[7]),(4,[0,2,3,4,7,8,10,12,13,18,19,20,21])]),([0,2,3,5,6,7,8,9,13],[2],[(0,[3])]),([],[],[]),([],[],[]),([],
 [],[]),([],[],[]),([0,1,4,5,7,9,13,42],[4],[]),([0,1,4,5,6,13],[4],[]),([0,2],[2],[]),([0,2,3,4,10],[2],[]),([0,1,4,5,6,24],
 [4],[]),([0,2,3,27],[2],[]),([0,2,4],[2],[]),([0,2,3,4,5,6,7,8,9,18],[2],[(0,[3])]),([0,1,4,5,6,7,8,9,10,11,17],[4],[(0,[5])]),
 ([],[],[]),([0,2,3,4,5,6,15],[2,3],[]),([0,1,4,5,7,9],[4],[]),([0,1,4,5,6,9],[4,5],[]),([0,1,4,5,6,7,8,9,22,34,43,64,68],[4,
 5],[]),([0,1,4,5,6,7,19],[4],[]),([0,2],[2],[]),([0,1,2,3,4],[4],[]),([0,2,3,4,5,6,8,9,10,12,13,20,23,24,25,26,35,38,39,40,
 41,54],[2,3],[(0,[6]),(2,[0,2,3,4,5,6,20,23,24,25])]),([0,1,4,5,8],[4],[]),([0,2,3,4,5,12],[2,3],[]),([0,1,4,5,16],[4,5],[]),
 ([0,2,3,6],[2,3],[]),([0,1,4,5],[4],[]),([0,1,4,5,6,7,8,20,40],[4,5],[]),([0,2],[2],[]),([0,1,4,5,6,17],[4,5],[]),([0,2,4],
 [2],[]),([0,1,4,5,6,7,8,9,26,38],[4,5],[]),([0,1,4,5,6,7,8,17,29,36,46,56],[4,5,6],[]),([0,2,3,4,5,6,13],[2],[(0,[3])]),([0,
 1,2,3,4,5,6,7,8,11],[2],[(0,[3])]),([0,2,3,6],[2,3],[]),([0],[0],[]),([0,2],[2],[]),([0,2,3,5,6,7,20],[2],[(0,[0])]),([0,1,4,5,
 6,7,8,14,24],[4,5],[]),([0,1,4,5,6,7,8,19,32,39],[4],[]),([0,1,4,5,6,7,18,29],[4],[]),([0,2],[2],[]),([0,2,3,4,5,6,7,8,9,18,
 30,51,52,53,54,60],[2,3],[(1,[4]),(3,[0,2,3,4,5,6,9,18])]),([0,2,4],[2],[]),([0,1,4,5,20],[4],[]),([0,2,4],[2],[]),([0,2],[2],
 []),([0,1,2,3,4],[0],[(0,[0,1])]),([0,1,4,5,6,7,8,9,10,12,21,51],[4,5],[(0,[])]),([0,1,4,5,6,7,11,12,13,21,24],[4],[(0,[0])]),
 ([0,1,4,5,6,7,8,15,29],[4],[]),([0,1,4,5,6,7,8,13,20,32,35,55],[4],[]),([0,2,3,4],[2],[]),([0,1,4,5,6,14],[4],[(0,[0,5])]),
 ([0,2],[2],[]),([0,2],[2],[]),([0,1,4,7],[4],[]),([0,2,3,4,6,14,15,16,17,18],[2,3],[(0,[4])]),([0,1,4],[4],[]),([0,2],[2],[]),([0,
 1,2,4,5,6],[6],[]),([0,1,4,5,7,8,9,16],[4],[(0,[])]),([0,1,4],[4],[]),([0,1,2,4],[4],[]),([0,1,4,5,7,8,9,16],[4],[(0,[])]),([],
 [],[]),([],[],[]),([],[],[]),([],[],[]),([],[],[]),([],[],[]),([],[],[]),([],[],[]),([],[],[]),([],[],[]),([],[],[]),([],[],[]),([],
 [],[]),([],[],[]),([],[],[]),([],[],[]),([],[],[]),([],[],[]),([],[],[]),([],[],[]),([],[],[]),([],[],[]),([],[],[])]
def gt(f:Nat):Hint:=gtL.getD f ([],[],[])
theorem aK:lW ah=true:=by kernel_rfl
abbrev ii(x:Int):Value:= .int .i64 x
abbrev i1(x:Int):Value:= .int .u8 x
abbrev i3(x:Int):Value:= .int .u32 x
abbrev i6(x:Int):Value:= .int .u64 x
abbrev bT:Value:= .bool true
abbrev bF:Value:= .bool false
abbrev nP:Value:= .pointer none
abbrev nS:Value:= .slice none 0 0
abbrev RT:=FuncId->Array Value->M Value
abbrev V:=Value
abbrev KT:=Ex->Fr->M Value
def pb:Nat->Nat->List Bool
 |0,_=>[]
 |l+1,n=>(Nat.beq (n %2) 1)::pb l (n/2)
def zp:List Nat->List Value->Fr
 |[],_=>[]
 |_,[]=>[]
 |a::l,v::m=>(a,v)::zp l m
noncomputable def cQ (f:Nat) (p:List Bool) (lf:Nat) (r:RT):Fr->KT->M Value:=fun s k=>jG ah r (gt f) lf (fJ (gW ah f) p) s k
noncomputable def tK (f:Nat) (p:List Bool) (lf:Nat) (r:RT):KT:=yZ ah r (gt f) lf (gW ah f) p (Hh ah (ME ah f))
noncomputable def iK (f:Nat) (p q:List Bool) (s:List Nat) (fu:Nat) (K:KT) (lf:Nat) (r:RT):KT:=yZ ah r (gt f) lf (fJ (gW ah f) p) q (TG (fun x=>bH (cQ f p lf r) s fu (x.aB s) K) K)
theorem aL{lf d:Nat}{f:FuncId}{a:Array Value}{b:RT->M Value}(s:∀r,aE ah gt lf r f a=b r)(h:KN.contains f=false):au ah gt lf (d+1) f a=b (au ah gt lf d):=by
 show(match KN.contains f with
  |true=>_
  |false=>aE ah gt lf (au ah gt lf d) f a:M Value)=_
 rw[h]
 exact s _
theorem bL{β:Type}{W:Nat->Prop}{n0:Nat}{h:H}{n:Nat}{Q:β->H->Nat->Prop}{lf d:Nat}{f:FuncId}{vs:List Value}{v:Value}{W':Nat->Prop}(s:ai W' n (au ah gt lf d f ⟨vs⟩) h n fun v' h' n'=>v'=v∧h'=h∧n'=n)(hn:n0<=n)(hW:∀b,b<n->W' b->n0<=b∨W b){k:Value->M β}(x:ai W n0 (k v) h n Q):ai W n0 (ay (au ah gt lf d) f vs k) h n Q:=by
 refine aU aK s hn hW fun v' h' n' _ _ hq=> ?_
 obtain⟨rfl,rfl,rfl⟩:=hq
 exact x
noncomputable section
def zh:List Value:=[(ii 0),(ii 0),(ii 0),(ii 0),(i3 0),(ii 0),(ii 0),(ii 0)]
def pE:List Value:=[(ii 0),(ii 0),(ii 0),(ii 0),(i3 0),(ii 0),(ii 0),(ii 0)]
def DQ:List Value:=[(ii 0),(ii 0),(ii 0),(ii 0),(ii 0)]
def z51:List Value:=[(aV {data:=#[]}),(ii 0)]
def z60:List Value:=[nP,(ii 0),(aV {data:=#[]}),bF]
def z67:List Value:=[(ii 0),(ii 0)]
def Va:List Value:=[nS]
def z85:List Value:=[nP,(ii 0),(aV {data:=#[]}),bF]
def z87:List Value:=[(ii 0),(ii 0)]
def Vb:List Value:=[(aV {data:=#[]}),nP,nP,nS,(ii 0),(i3 0)]
def z107:List Value:=[nP,nS]
def DR:List Value:=[(aV {data:=#[]}),(aV {data:=#[]})]
def my:List Value:=[(aV {data:=#[]}),(ii 0),(ii 0)]
def ag2:List Value:=[(ii 0),(ii 0),bF,nP,nP,nP,bF,nS,bF,(ii 0),(ii 0)]
def zi:List Value:=[(aV {data:=#[]}),(ii 0),(i3 0)]
def z139:List Value:=[(aV {data:=#[]}),(ii 0),(i3 0),nP,nP,nP]
def ag3:List Value:=[nP,(ii 0)]
def ag4:List Value:=[nP,(ii 0),(aV {data:=#[]}),bF]
def Vc:List Value:=[(ii 0),(ii 0),(ii 0),(ii 0),nP,(aV {data:=#[]}),(ii 0),(i3 0),(i3 0),bF,(ii 0)]
def z152:List Value:=[(aV {data:=#[]}),(ii 0),(ii 0)]
def z157:List Value:=[(aV {data:=#[]}),(ii 0),(i3 0)]
def z159:List Value:=[(aV {data:=#[]}),(ii 0),(i3 0),(ii 0),(ii 0),(ii 0)]
def z168:List Value:=[(i1 0),(ii 0)]
def z171:List Value:=[(aV {data:=#[]}),(ii 0)]
def Na:List Value:=(uT [(aV {data:=#[]})] (uT (yS (ii 0) 256) (uT [nS] (uT [(ii 0)] (uT [nS] [(ii 0)])))))
def rM:List Value:=[(aV {data:=#[]}),(ii 0),(ii 0)]
def u5:List Value:=[nS,(ii 0),(ii 0),(ii 0)]
def Vd:List Value:=[nP,(ii 0),bF,(i3 0),(ii 0),nS,bF,(ii 0)]
def z212:List Value:=[nP,nP,nP,(ii 0),(ii 0)]
def rN:List Value:=[nS,(ii 0),(ii 0),(ii 0),(ii 0)]
def z228:List Value:=[nS,(ii 0),(ii 0)]
def z233:List Value:=[(ii 0),(ii 0),(ii 0),nS,bF]
def mz:List Value:=[(ii 0),(ii 0),(ii 0),nS,bF,(ii 0),(ii 0),(ii 0)]
def ag5:List Value:=[nS,nS]
def Ve:List Value:=[(ii 0),nP,nS,nP,nS,(ii 0),bF,(ii 0)]
def ag6:List Value:=[(i1 0),(ii 0)]
def Nb:List Value:=(yS (i3 0) 256)
def Vf:List Value:=(yS (i3 0) 257)
def rO:List Value:=[nS,(ii 0),(ii 0)]
def Nc:List Value:=[(ii 0),(ii 0),(ii 0),(ii 0),(ii 0),(ii 0)]
def Nd:List Value:=[(ii 0),(ii 0),(ii 0),(ii 0),(ii 0),(ii 0),(ii 0),(ii 0),nS,bF]
def ag7:List Value:=[(ii 0),(ii 0),nS]
def Vg:List Value:=[nS]
def Vh:List Value:=(yS bF 256)
def Vi:List Value:=[(ii 0),(ii 0),(ii 0),(ii 0),(ii 0),bF]
def Vj:List Value:=[(ii 0),(ii 0),nS,bF]
def Nf:List Value:=(uT [nS,nS,nS] (yS (ii 0) 43))
theorem Vk:zh=[(ii 0),(ii 0),(ii 0),(ii 0),(i3 0),(ii 0),(ii 0),(ii 0)]:=rfl
theorem Vl:pE=[(ii 0),(ii 0),(ii 0),(ii 0),(i3 0),(ii 0),(ii 0),(ii 0)]:=rfl
theorem Vm:DQ=[(ii 0),(ii 0),(ii 0),(ii 0),(ii 0)]:=rfl
theorem Vn:z51=[(aV {data:=#[]}),(ii 0)]:=rfl
theorem Vo:z60=[nP,(ii 0),(aV {data:=#[]}),bF]:=rfl
theorem Vp:z67=[(ii 0),(ii 0)]:=rfl
theorem Ng:Va=[nS]:=rfl
theorem Vq:z85=[nP,(ii 0),(aV {data:=#[]}),bF]:=rfl
theorem Vr:z87=[(ii 0),(ii 0)]:=rfl
theorem Vs:Vb=[(aV {data:=#[]}),nP,nP,nS,(ii 0),(i3 0)]:=rfl
theorem Vt:z107=[nP,nS]:=rfl
theorem Vu:DR=[(aV {data:=#[]}),(aV {data:=#[]})]:=rfl
theorem Vv:my=[(aV {data:=#[]}),(ii 0),(ii 0)]:=rfl
theorem Vw:ag2=[(ii 0),(ii 0),bF,nP,nP,nP,bF,nS,bF,(ii 0),(ii 0)]:=rfl
theorem Vx:zi=[(aV {data:=#[]}),(ii 0),(i3 0)]:=rfl
theorem Vy:z139=[(aV {data:=#[]}),(ii 0),(i3 0),nP,nP,nP]:=rfl
theorem Vz:ag3=[nP,(ii 0)]:=rfl
theorem VA:ag4=[nP,(ii 0),(aV {data:=#[]}),bF]:=rfl
theorem VB:Vc=[(ii 0),(ii 0),(ii 0),(ii 0),nP,(aV {data:=#[]}),(ii 0),(i3 0),(i3 0),bF,(ii 0)]:=rfl
theorem VC:z152=[(aV {data:=#[]}),(ii 0),(ii 0)]:=rfl
theorem VD:z157=[(aV {data:=#[]}),(ii 0),(i3 0)]:=rfl
theorem VE:z159=[(aV {data:=#[]}),(ii 0),(i3 0),(ii 0),(ii 0),(ii 0)]:=rfl
theorem VF:z168=[(i1 0),(ii 0)]:=rfl
theorem VG:z171=[(aV {data:=#[]}),(ii 0)]:=rfl
theorem VH:rM=[(aV {data:=#[]}),(ii 0),(ii 0)]:=rfl
theorem Nh:u5=[nS,(ii 0),(ii 0),(ii 0)]:=rfl
theorem VI:Vd=[nP,(ii 0),bF,(i3 0),(ii 0),nS,bF,(ii 0)]:=rfl
theorem VJ:z212=[nP,nP,nP,(ii 0),(ii 0)]:=rfl
theorem DS:rN=[nS,(ii 0),(ii 0),(ii 0),(ii 0)]:=rfl
theorem BE:z228=[nS,(ii 0),(ii 0)]:=rfl
theorem VK:z233=[(ii 0),(ii 0),(ii 0),nS,bF]:=rfl
theorem VL:mz=[(ii 0),(ii 0),(ii 0),nS,bF,(ii 0),(ii 0),(ii 0)]:=rfl
theorem VM:ag5=[nS,nS]:=rfl
theorem VN:Ve=[(ii 0),nP,nS,nP,nS,(ii 0),bF,(ii 0)]:=rfl
theorem VO:ag6=[(i1 0),(ii 0)]:=rfl
theorem VP:Nb=cr 256 (i3 0):=Dz _ _
theorem Hz:rO=[nS,(ii 0),(ii 0)]:=rfl
theorem HA:Nc=[(ii 0),(ii 0),(ii 0),(ii 0),(ii 0),(ii 0)]:=rfl
theorem VQ:Nd=[(ii 0),(ii 0),(ii 0),(ii 0),(ii 0),(ii 0),(ii 0),(ii 0),nS,bF]:=rfl
theorem VS:ag7=[(ii 0),(ii 0),nS]:=rfl
theorem VT:Vg=[nS]:=rfl
theorem ag8:Vh=cr 256 bF:=Dz _ _
theorem VU:Vi=[(ii 0),(ii 0),(ii 0),(ii 0),(ii 0),bF]:=rfl
theorem VV:Vj=[(ii 0),(ii 0),nS,bF]:=rfl
def th(lf:Nat)(r:RT):Nat->((M V)×(V->M V))->V->V->V->V->V->V->V->V->V->V->V->V->M V
 |0,_,_,_,_,_,_,_,_,_,_,_,_,_=> .fail
 |fu+1,k,a,b,c,d,e,f,g,h,i,j,l,m=>bp m l fun n=>ak n (kG 8 j m fun o=>bx 8 o fun p=>di 33 zh fun q=>aX 8 q p fun _=>(aG (bx 8 q
  M.ret)).bind fun o=>(aG (ay r 17 [o.1] M.ret)).bind fun p=>kG 8 f m fun s=>(aG (bx 8 s M.ret)).bind fun t=>G0 [0,0,0,0,0,0,0,0] p.1 t.1 fun u
  =>fV ((!(cT p.2 t.2)&&true)&&true) (ak u (k.2 bF) (aA m (ii 1) fun o=>th lf r fu k a b c d e f g h i j l o))) (k.1)
def VW:List Nat:=[0,1,4,5,6,7,20,30,55,56,57,58]
def zj(lf:Nat)(r:RT):(M V)×(V->M V):=(ay r 12 [] fun a=>aj [a],fun a=>aj [a])
def Ni(lf:Nat)(r:RT)(a b:V):M V:=bP b fun c=>dJ c (ii 250) fun d=>ak d (ay r 12 [] fun c=>aj [c]) (dJ a (ii 1000) fun e
 =>ak e (nC a (ii 100000) fun f=>ak f (ay r 12 [] fun c=>aj [c]) (ay r 13 [a,b] fun c=>aP c 0 fun d=>aP c 1 fun e=>ay r 14 [a] fun c=>hX c fun
 g=>ak g (aW e (ii 1) fun c=>ak c (bO d fun h=>aW h (ii 0) fun i=>ak i (ay r 12 [] fun j=>aj [j]) (aj [bF])) (aj [bF])) (ay r 15 [a,b] fun c=>
 ay r 16 [a,b] fun h=>bz e h fun i=>ak i (aj [bF]) (bO d fun j=>bO c fun l=>bz j l fun m=>ak m (aj [bF]) (bO d fun h=>
 th lf r lf (zj lf r) a b bF d e c f g m d h (ii 0)))))) (ay r 13 [a,b] fun c=>aP c 0 fun d=>aP c 1 fun e=>
 ay r 14 [a] fun c=>hX c fun f=>ak f (aW e (ii 1) fun c=>ak c (bO d fun g=>aW g (ii 0) fun h=>ak h (ay r 12 [] fun i=>aj [i]) (aj [bF])) (aj
 [bF])) (ay r 15 [a,b] fun c=>ay r 16 [a,b] fun g=>bz e g fun h=>ak h (aj [bF]) (bO d fun i=>bO c fun j=>bz i j fun l=>ak l (aj [bF]) (bO d
 fun g=>th lf r lf (zj lf r) a b bF d e c bF f l d g (ii 0))))))
theorem VX{lf:Nat}{r:RT}(K:KT):∀fu,th lf r fu ((K (.exit 0) [],fun a=>K .ret (zp [4] [a])))=fun a b c
 d e f g h i j l m=>bH (cQ 3 (pb 10 191) lf r) VW fu (zp VW [a,b,c,d,e,f,g,h,i,j,l,m]) K
 |0=>by funext a b c d e f g h i j l m;kernel_rfl
 |fu+1=>by
  have ih:=VX (lf:=lf) (r:=r) K fu
  funext a b c d e f g h i j l m
  rw[th]
  simp only[ih]
  kernel_rfl
theorem ag9{lf:Nat}{r:RT}:zj lf r=(((tK 3 (pb 9 191) lf r) (.exit 0) [],fun a=>(tK 3 (pb 9 191) lf r) .ret (zp [4] [a]))):=by kernel_rfl
theorem ag'{lf:Nat}{r:RT}{a b:V}:aE ah gt lf r 3 #[a,b]=inside (Ni lf r a b):=by
 unfold Ni
 simp only[ag9,VX]
 kernel_rfl
def Nj(lf:Nat)(r:RT):M V:=ay r 24 [(ii 9),(ii 24),(aV {data:=#[]})] fun a=>ay r 13 [(ii 24),a] fun b=>aP b 0 fun c
 =>aP b 1 fun d=>ay r 18 [c] fun a=>aP a 0 fun b=>aP a 1 fun e=>ay r 21 [c] fun a=>di 43 DQ fun f=>aX 5 f a fun _=>aW d (ii 0) fun a=>ak a
 (aW e (ii 0) fun g=>ak g (aW b (aV {data:=#[98,101,103,105,110,32,57,32,48,32,51,50,10,101,110,100,32,48,48,48,48,48,48,48,
 48,32,51,50,32,49,49,50,10]}) fun h=>ak h (bx 5 f fun i=>bB DQ [(0,1,(ii 1)),(4,1,(ii 112))] fun j=>GZ [0,0,0,0,0] i j fun l=>G4 l bT
 bF fun m=>aj [m]) (aj [bF])) (aj [bF])) (aj [bF])
theorem VY{lf:Nat}{r:RT}:aE ah gt lf r 12 #[]=inside (Nj lf r):=by kernel_rfl
def zk(lf:Nat)(r:RT):Nat->(V->V->M V)->V->V->V->V->V->V->V->V->M V
 |0,_,_,_,_,_,_,_,_,_=> .fail
 |fu+1,k,a,b,c,d,e,f,g,h=>ay r 60 [g] fun i=>aP i 0 fun j=>aP i 1 fun l=>ak j (az g fun i=>aq 3 i fun m=>ar m fun n=>k n l) (zk lf r fu k a b c d e f g h)
def VZ:List Nat:=[0,1,4,5,6,7,8,17]
def HC(lf:Nat)(r:RT):(V->V->M V):=fun a b=>aj [a,b]
def DT(lf:Nat)(r:RT)(a b:V):M V:=ay r 58 [a] fun c=>aP c 0 fun d=>aP c 1 fun e=>bz e (ii 0) fun c=>ak c (aj [nS,e]) (ay r 59
 [b] fun f=>bB Vb [(0,1,b),(1,1,f),(2,1,d)] fun g=>iD 98 g fun h=>zk lf r lf (HC lf r) a b nS (ii 0) d e h c)
theorem V0{lf:Nat}{r:RT}(K:KT):∀fu,zk lf r fu (fun a b=>K .ret (zp [4,5] [a,b]))=fun a b c d e f g h=>bH (cQ 13 (pb
 6 15) lf r) VZ fu (zp VZ [a,b,c,d,e,f,g,h]) K
 |0=>by funext a b c d e f g h;kernel_rfl
 |fu+1=>by
  have ih:=V0 (lf:=lf) (r:=r) K fu
  funext a b c d e f g h
  rw[zk]
  simp only[ih]
  kernel_rfl
theorem ag_{lf:Nat}{r:RT}:HC lf r=(fun a b=>(tK 13 (pb 5 15) lf r) .ret (zp [4,5] [a,b])):=by kernel_rfl
theorem Nk{lf:Nat}{r:RT}{a b:V}:aE ah gt lf r 13 #[a,b]=inside (DT lf r a b):=by
 unfold DT
 simp only[ag_,V0]
 kernel_rfl
def V1(lf:Nat)(r:RT)(a:V):M V:=gV a (ii 24) fun b=>ak b (nC a (ii 100000) fun c=>aj [c]) (aj [bF])
theorem aha{lf:Nat}{r:RT}{a:V}:aE ah gt lf r 14 #[a]=inside (V1 lf r a):=by kernel_rfl
def zv(lf:Nat)(r:RT):Nat->((V->M V)×(V->M V))->V->V->V->V->V->V->V->V->M V
 |0,_,_,_,_,_,_,_,_,_=> .fail
 |fu+1,k,a,b,c,d,e,f,g,h=>bp h g fun i=>ak i (bU d (some f) none fun j=>ay r 62 [j] fun l=>hX l fun m=>ak m (k.2 e) (aA f (ii 24) fun j=>
  aA f (ii 32) fun l=>bU d (some j) (some l) fun n=>ay r 63 [n] fun o=>dY .i64 o fun p=>cW p (ii 48) fun q=>aA f (ii 32) fun j=>bB pE [(0,1,(ii
  1)),(1,1,q),(2,1,f),(3,1,j)] fun l=>cX 34 8 l fun n=>dj 34 8 e n fun o=>aA f (ii 32) fun e=>fo q a fun j=>ay r 64 [d,e,j] fun l=>dj 34 8
  o l fun e=>bO l fun j=>aW j (ii 0) fun n=>ak n (k.2 e) (bO l fun o=>cW o (ii 1) fun p=>kG 8 l p fun s=>aq 0 s fun t=>ar t fun u=>bz u (ii 3)
  fun v=>ak v (k.2 e) (bO l fun j=>cW j (ii 1) fun n=>kG 8 l n fun o=>aq 3 o fun p=>ar p fun s=>aA s (ii 7) fun t=>lT t (ii 8) fun u=>fo u (ii
  8) fun w=>aA h (ii 1) fun f=>zv lf r fu k a b c d e w g f)))) (k.1 e)
def V2:List Nat:=[0,1,4,5,6,7,13,14]
def zw(lf:Nat)(r:RT):(V->M V)×(V->M V):=(fun a=>aj [a],fun a=>aj [a])
def Nl(lf:Nat)(r:RT)(a b:V):M V:=ay r 61 [b] fun c=>bP b fun d=>zv lf r lf (zw lf r) a b nS c nS (ii 0) d (ii 0)
theorem V3{lf:Nat}{r:RT}(K:KT):∀fu,zv lf r fu ((fun a=>K (.exit 0) (zp [6] [a]),fun a=>K .ret (zp [4] [a])))=fun
 a b c d e f g h=>bH (cQ 15 (pb 8 47) lf r) V2 fu (zp V2 [a,b,c,d,e,f,g,h]) K
 |0=>by funext a b c d e f g h;kernel_rfl
 |fu+1=>by
  have ih:=V3 (lf:=lf) (r:=r) K fu
  funext a b c d e f g h
  rw[zv]
  simp only[ih]
  kernel_rfl
theorem ahb{lf:Nat}{r:RT}:zw lf r=((fun a=>(tK 15 (pb 7 47) lf r) (.exit 0) (zp [6] [a]),fun a=>(tK 15 (pb 7 47) lf r) .ret (zp [4] [a]))):=by kernel_rfl
theorem ahc{lf:Nat}{r:RT}{a b:V}:aE ah gt lf r 15 #[a,b]=inside (Nl lf r a b):=by
 unfold Nl
 simp only[ahb,V3]
 kernel_rfl
def V4(lf:Nat)(r:RT)(a b:V):M V:=ay r 26 [a,b] fun c=>G5 1 c fun d=>aj [d]
theorem ahd{lf:Nat}{r:RT}{a b:V}:aE ah gt lf r 16 #[a,b]=inside (V4 lf r a b):=by kernel_rfl
def V5(lf:Nat)(r:RT)(a:V):M V:=iD 33 a fun b=>di 34 pE fun c=>aq 0 b fun d=>ar d fun e=>aq 1 b fun f=>ar f fun g=>aq 2 b
 fun h=>ar h fun i=>aq 3 b fun j=>ar j fun l=>aq 4 b fun m=>ar m fun n=>aq 5 b fun o=>ar o fun p=>aq 6 b fun q=>ar q fun s=>aq 7 b fun t
 =>ar t fun u=>bB pE [(0,1,e),(1,1,g),(2,1,i),(3,1,l),(4,1,n),(5,1,p),(6,1,s),(7,1,u)] fun v=>aX 8 c v fun _=>bx 8 c fun a=>aj [a]
theorem ahe{lf:Nat}{r:RT}{a:V}:aE ah gt lf r 17 #[a]=inside (V5 lf r a):=by kernel_rfl
def V6(lf:Nat)(r:RT)(a:V):M V:=iD 33 a fun b=>aq 1 b fun c=>ar c fun d=>aq 2 b fun e=>ar e fun f=>aq 3 b fun g=>ar g fun h=>
 aq 5 b fun i=>ar i fun j=>aq 6 b fun l=>ar l fun m=>aq 7 b fun n=>ar n fun o=>DD d f h j m o fun p=>bp p (ii 0) fun q=>ak q (aj
 [(aV {data:=#[]}),(ii 1)]) (aq 0 b fun c=>ar c fun d=>aW d (ii 1) fun c=>ak c (aq 1 b fun e=>ar e fun f=>aq 2 b fun g=>ar g fun h=>
 aq 3 b fun i=>ar i fun j=>oE 3 (lD [(ii 0)] 3) 3 [(0,1,f),(1,1,h),(2,1,j)] fun l=>ay r 67 [(aV {data:=#[98,101,103,105,110]}),l]
 fun m=>aj [m,(ii 0)]) (aW d (ii 2) fun e=>ak e (aq 4 b fun f=>(aG (ar f M.ret)).bind fun g=>(aG (ay r 68 [g.1] M.ret)).bind fun h=>aA
 (aV {data:=#[98,108,111,99,107,32]}) h.1 fun i=>aq 5 b fun j=>(aG (ar j M.ret)).bind fun l=>aq 6 b fun m=>(aG (ar m M.ret)).bind
 fun n=>aq 7 b fun o=>(aG (ar o M.ret)).bind fun p=>aq 2 b fun s=>(aG (ar s M.ret)).bind fun t=>aq 3 b fun u=>(aG (ar u M.ret)).bind fun v=>
 (aG (oE 3 (lD [(ii 0)] 5) 5 [(0,1,l.1),(1,1,n.1),(2,1,p.1),(3,1,t.1),(4,1,v.1)] M.ret)).bind fun w=>(aG (ay r 67 [i,w.1] M.ret)).bind fun x
 =>fV ((!(cT h.2 l.2)&&(!(cT h.2 n.2)&&(!(cT h.2 p.2)&&(!(cT h.2 t.2)&&(!(cT h.2 v.2)&&(!(cT h.2 w.2)&&true))))))&&true) (aj
 [x.1,(ii 0)])) (aW d (ii 3) fun f=>ak f (aq 4 b fun g=>(aG (ar g M.ret)).bind fun h=>(aG (ay r 68 [h.1] M.ret)).bind fun i=>aA (aV {
 data:=#[101,110,100,32]}) i.1 fun j=>aq 2 b fun l=>(aG (ar l M.ret)).bind fun m=>aq 3 b fun n=>(aG (ar n M.ret)).bind fun o=>(aG (oE 3
 (lD [(ii 0)] 2) 2 [(0,1,m.1),(1,1,o.1)] M.ret)).bind fun p=>(aG (ay r 67 [j,p.1] M.ret)).bind fun s=>fV ((!(cT i.2 m.2)&&(!(cT i.2 o.2)&&
 (!(cT i.2 p.2)&&true)))&&true) (aj [s.1,(ii 0)])) (aj [(aV {data:=#[]}),(ii 1)]))))
theorem ahf{lf:Nat}{r:RT}{a:V}:aE ah gt lf r 19 #[a]=inside (V6 lf r a):=by kernel_rfl
def HD(lf:Nat)(r:RT):Nat->(V->V->V->M V)->V->V->V->V->V->V->M V
 |0,_,_,_,_,_,_,_=> .fail
 |fu+1,k,a,b,c,d,e,f=>bp f e fun g=>ak g (kG 8 d f fun h=>bx 8 h fun i=>di 33 zh fun j=>aX 8 j i fun _=>aq 0 j fun h=>ar h fun i=>aW
  i (ii 2) fun h=>(fun l=>ak h (aq 1 c fun m=>ar m fun n=>aA n (ii 1) fun o=>aq 1 c fun p=>aZ p o fun _=>aq 2 c fun m=>ar m fun n=>aq 6 j fun
  o=>ar o fun p=>ay r 71 [n,p] fun q=>aq 2 c fun s=>aZ s q fun _=>aq 3 c fun m=>ar m fun n=>aq 7 j fun o=>ar o fun p=>ay r 71 [n,p] fun q
  =>aq 3 c fun s=>aZ s q fun _=>l) (aW i (ii 3) fun m=>ak m (aq 0 c fun n=>ar n fun o=>aA o (ii 1) fun p=>aq 0 c fun q=>aZ q p fun _=>l) (l)))
  (aA f (ii 1) fun l=>HD lf r fu k a b c d e l)) (k a b c)
def V7:List Nat:=[0,2,3,6,7,8]
def V8(lf:Nat)(r:RT):(V->V->V->M V):=fun a b c=>bO a fun d=>dJ d (ii 0) fun e=>ak e (bO a fun f=>cW f (ii 1) fun g=>kG 8 a g fun h
 =>aq 3 h fun i=>ar i fun j=>kG 8 a (ii 0) fun l=>aq 2 l fun m=>ar m fun n=>dJ j n fun o=>ak o (bO a fun d=>cW d (ii 1) fun e=>kG 8 a e fun f
 =>aq 3 f fun g=>ar g fun h=>kG 8 a (ii 0) fun i=>aq 2 i fun j=>ar j fun l=>cW h l fun m=>aq 4 c fun n=>aZ n m fun _=>bx 5 c fun d=>aX 5 b
 d fun _=>bx 5 b fun a=>aj [a]) (bx 5 c fun d=>aX 5 b d fun _=>bx 5 b fun a=>aj [a])) (bx 5 c fun d=>aX 5 b d fun _=>bx 5 b fun a=>aj [a])
def Nn(lf:Nat)(r:RT)(a:V):M V:=di 43 DQ fun b=>di 43 DQ fun c=>bO a fun d=>HD lf r lf (V8 lf r) a b c a d (ii 0)
theorem V9{lf:Nat}{r:RT}(K:KT):∀fu,HD lf r fu (fun a b c=>K (.exit 0) (zp [0,2,3] [a,b,c]))=fun a b c d e f=>bH
 (cQ 21 (pb 6 11) lf r) V7 fu (zp V7 [a,b,c,d,e,f]) K
 |0=>by funext a b c d e f;kernel_rfl
 |fu+1=>by
  have ih:=V9 (lf:=lf) (r:=r) K fu
  funext a b c d e f
  rw[HD]
  simp only[ih]
  kernel_rfl
theorem ahg{lf:Nat}{r:RT}:V8 lf r=(fun a b c=>(tK 21 (pb 5 11) lf r) (.exit 0) (zp [0,2,3] [a,b,c])):=by kernel_rfl
theorem ahh{lf:Nat}{r:RT}{a:V}:aE ah gt lf r 21 #[a]=inside (Nn lf r a):=by
 unfold Nn
 simp only[ahg,V9]
 kernel_rfl
def HE(lf:Nat)(r:RT):Nat->(V->V->M V)->V->V->V->V->V->V->V->V->V->M V
 |0,_,_,_,_,_,_,_,_,_,_=> .fail
 |fu+1,k,a,b,c,d,e,f,g,h,i=>bp i h fun j=>ak j (kG 2 g i fun l=>bx 2 l fun m=>di 120 DR fun n=>aX 2 n m fun _=>aA e (aV {
  data:=#[48,48,49,49,48,48,48,49,48,49,48,48,48,48,48,49,48,49,48,49,49,48,48,49,48,48,49,48,48,49,49,48,48,49,48,49,48,48,49,
  49,48,49,48,49,49,48,48,49]}) fun l=>aq 0 n fun m=>(aG (ar m M.ret)).bind fun o=>(aG (bx 2 n M.ret)).bind fun p=>(aG (ay r 75 [p.1]
  M.ret)).bind fun q=>(aG (ay r 74 [o.1,q.1] M.ret)).bind fun s=>aA l s.1 fun t=>fV ((!(cT o.2 q.2)&&true)&&true) (bx 2 n fun e=>ay r 75 [e]
  fun l=>cX 31 1 l fun m=>dj 31 1 f m fun o=>aA i (ii 1) fun e=>HE lf r fu k a b c d t o g h e)) (k e f)
def V':List Nat:=[0,1,2,6,7,8,18,19,20]
def Wb(lf:Nat)(r:RT):(V->V->M V):=fun a b=>ay r 77 [b] fun c=>aA a c fun d=>ay r 76 [d] fun e=>aj [e]
def Np(lf:Nat)(r:RT)(a b c:V):M V:=ay r 72 [a] fun d=>fo a b fun e=>cW e (ii 19) fun f=>ay r 73 [c,f] fun g=>bO g fun h=>
 HE lf r lf (Wb lf r) a b c (aV {data:=#[]}) d nS g h (ii 0)
theorem Wc{lf:Nat}{r:RT}(K:KT):∀fu,HE lf r fu (fun a b=>K (.exit 0) (zp [7,8] [a,b]))=fun a b c d e f g h i=>bH
 (cQ 24 (pb 7 23) lf r) V' fu (zp V' [a,b,c,d,e,f,g,h,i]) K
 |0=>by funext a b c d e f g h i;kernel_rfl
 |fu+1=>by
  have ih:=Wc (lf:=lf) (r:=r) K fu
  funext a b c d e f g h i
  rw[HE]
  simp only[ih]
  kernel_rfl
theorem ahi{lf:Nat}{r:RT}:Wb lf r=(fun a b=>(tK 24 (pb 6 23) lf r) (.exit 0) (zp [7,8] [a,b])):=by kernel_rfl
theorem ahj{lf:Nat}{r:RT}{a b c:V}:aE ah gt lf r 24 #[a,b,c]=inside (Np lf r a b c):=by
 unfold Np
 simp only[ahi,Wc]
 kernel_rfl
def zx(lf:Nat)(r:RT):Nat->(V->M V)->V->V->V->V->V->V->M V
 |0,_,_,_,_,_,_,_=> .fail
 |fu+1,k,a,b,c,d,e,f=>bp f e fun g=>ak g (dO d f fun h=>ar h fun i=>ay r 78 [c,i] fun h=>aA f (ii 1) fun c=>zx lf r fu k a b h d e c) (k c)
def Wd:List Nat:=[0,2,3,6,7,8]
def HF(lf:Nat)(r:RT):(V->M V):=fun a=>aj [a]
def HG(lf:Nat)(r:RT)(a:V):M V:=bO a fun b=>zx lf r lf (HF lf r) a (i3 0) (i3 0) a b (ii 0)
theorem We{lf:Nat}{r:RT}(K:KT):∀fu,zx lf r fu (fun a=>K (.exit 0) (zp [3] [a]))=fun a b c d e f=>bH (cQ 25
 (pb 6 11) lf r) Wd fu (zp Wd [a,b,c,d,e,f]) K
 |0=>by funext a b c d e f;kernel_rfl
 |fu+1=>by
  have ih:=We (lf:=lf) (r:=r) K fu
  funext a b c d e f
  rw[zx]
  simp only[ih]
  kernel_rfl
theorem ahk{lf:Nat}{r:RT}:HF lf r=(fun a=>(tK 25 (pb 5 11) lf r) (.exit 0) (zp [3] [a])):=by kernel_rfl
theorem Wf{lf:Nat}{r:RT}{a:V}:aE ah gt lf r 25 #[a]=inside (HG lf r a):=by
 unfold HG
 simp only[ahk,We]
 kernel_rfl
def zy(lf:Nat)(r:RT):Nat->((V->M V)×(V->M V))->V->V->V->V->V->V->V->V->M V
 |0,_,_,_,_,_,_,_,_,_=> .fail
 |fu+1,k,a,b,c,d,e,f,g,h=>bp h g fun i=>ak i (bU d (some f) none fun j=>ay r 79 [j] fun l=>bz l (ii 0) fun j=>ak j (bB z51 [(1,1,l)] fun
  m=>aX 2 c m fun _=>k.2 c) (aA f (ii 24) fun m=>aA f (ii 32) fun n=>bU d (some m) (some n) fun o=>ay r 63 [o] fun p=>dY .i64 p fun q=>cW q (ii 48)
  fun s=>aA f (ii 32) fun m=>bU d (some m) none fun n=>fo s a fun o=>ay r 80 [n,o] fun p=>di 126 my fun q=>aX 3 q p fun _=>aq 2 q fun m=>ar m
  fun n=>bz n (ii 0) fun o=>ak o (aq 2 q fun m=>ar m fun n=>bB z51 [(1,1,n)] fun p=>aX 2 c p fun _=>k.2 c) (aq 0 q fun m=>ar m fun n=>aA e n
  fun p=>aA f (ii 32) fun e=>aq 1 q fun m=>ar m fun n=>aA e n fun t=>aA t (ii 7) fun u=>lT u (ii 8) fun v=>fo v (ii 8) fun w=>bP d fun e=>aW
  w e fun f=>ak f (bB z51 [(0,1,p)] fun e=>aX 2 c e fun _=>k.2 c) (aA h (ii 1) fun e=>zy lf r fu k a b c d p w g e)))) (k.1 c)
def Wg:List Nat:=[0,1,4,5,6,7,15,16]
def zA(lf:Nat)(r:RT):(V->M V)×(V->M V):=(fun a=>bB z51 [(1,1,(ii 24))] fun b=>aX 2 a b fun _=>bx 2 a fun b=>aj [b],fun a=>bx 2 a fun b=>aj [b])
def Nq(lf:Nat)(r:RT)(a b:V):M V:=di 51 z51 fun c=>ay r 61 [b] fun d=>bP b fun e=>aA e (ii 1) fun f=>zy lf r lf
 (zA lf r) a b c d (aV {data:=#[]}) (ii 0) f (ii 0)
theorem Wi{lf:Nat}{r:RT}(K:KT):∀fu,zy lf r fu ((fun a=>K (.exit 0) (zp [4] [a]),fun a=>K .ret (zp [4] [a])))=fun a
 b c d e f g h=>bH (cQ 26 (pb 8 47) lf r) Wg fu (zp Wg [a,b,c,d,e,f,g,h]) K
 |0=>by funext a b c d e f g h;kernel_rfl
 |fu+1=>by
  have ih:=Wi (lf:=lf) (r:=r) K fu
  funext a b c d e f g h
  rw[zy]
  simp only[ih]
  kernel_rfl
theorem ahl{lf:Nat}{r:RT}:zA lf r=((fun a=>(tK 26 (pb 7 47) lf r) (.exit 0) (zp [4] [a]),fun a=>(tK 26 (pb 7 47) lf r) .ret (zp [4] [a]))):=by kernel_rfl
theorem ahm{lf:Nat}{r:RT}{a b:V}:aE ah gt lf r 26 #[a,b]=inside (Nq lf r a b):=by
 unfold Nq
 simp only[ahl,Wi]
 kernel_rfl
def HH(lf:Nat)(r:RT)(a:V):M V:=ay r 96 [(ii 1),a] fun b=>aP b 0 fun c=>aP b 1 fun d=>bz d (ii 0) fun b=>ak b (aj [nP,d]) (bB
 Vc [(0,1,a)] fun c=>iD 150 c fun e=>aj [e,(ii 0)])
theorem Nr{lf:Nat}{r:RT}{a:V}:aE ah gt lf r 58 #[a]=inside (HH lf r a):=by kernel_rfl
def Ns(lf:Nat)(r:RT)(a:V):M V:=bB z152 [(0,1,a)] fun b=>iD 152 b fun c=>aj [c]
theorem Wj{lf:Nat}{r:RT}{a:V}:aE ah gt lf r 59 #[a]=inside (Ns lf r a):=by kernel_rfl
def Nt(lf:Nat)(r:RT)(a:V):M V:=az a fun b=>aq 2 b fun c=>ar c fun d=>ay r 97 [d] fun e=>ak e (az a fun f=>aq 1 f fun g
 =>ar g fun h=>ay r 98 [h] fun i=>aW i (ii 0) fun j=>ak j (aj [bT,(ii 0)]) (az a fun b=>aq 2 b fun c=>ar c fun d=>az a fun e=>aq 1 e fun f=>
 ar f fun g=>ay r 99 [d,g] fun h=>aP h 0 fun i=>aP h 1 fun l=>aW l (ii 3) fun b=>ak b (aj [bT,(ii 24)]) (bz l (ii 0) fun c=>ak c (aj [bT,l])
 (aW i (ii 1) fun d=>ak d (ay r 100 [a] fun e=>bz e (ii 0) fun f=>aj [f,e]) (aW i (ii 2) fun e=>ak e (ay r 101 [a] fun f=>aj [bF,(ii 0)]) (ay r
 102 [a] fun f=>aj [bF,(ii 0)])))))) (az a fun b=>aq 2 b fun c=>ar c fun d=>az a fun e=>aq 1 e fun f=>ar f fun g=>ay r 99 [d,g] fun h=>aP h
 0 fun i=>aP h 1 fun j=>aW j (ii 3) fun b=>ak b (aj [bT,(ii 24)]) (bz j (ii 0) fun c=>ak c (aj [bT,j]) (aW i (ii 1) fun d=>ak d (ay r 100 [a]
 fun e=>bz e (ii 0) fun f=>aj [f,e]) (aW i (ii 2) fun e=>ak e (ay r 101 [a] fun f=>aj [bF,(ii 0)]) (ay r 102 [a] fun f=>aj [bF,(ii 0)])))))
theorem Wk{lf:Nat}{r:RT}{a:V}:aE ah gt lf r 60 #[a]=inside (Nt lf r a):=by kernel_rfl
def zB(lf:Nat)(r:RT):Nat->(V->M V)->V->V->V->V->M V
 |0,_,_,_,_,_=> .fail
 |fu+1,k,a,b,c,d=>bP a fun e=>bp d e fun f=>ak f (da a d fun e=>dY .u32 e fun g=>ay r 103 [g,(ii 8)] fun h=>aA c h fun i=>aA d (ii 1) fun
  c=>zB lf r fu k a b i c) (k c)
def Wm:List Nat:=[0,2,3,4]
def HI(lf:Nat)(r:RT):(V->M V):=fun a=>aj [a]
def HJ(lf:Nat)(r:RT)(a:V):M V:=zB lf r lf (HI lf r) a (aV {data:=#[]}) (aV {data:=#[]}) (ii 0)
theorem Wn{lf:Nat}{r:RT}(K:KT):∀fu,zB lf r fu (fun a=>K (.exit 0) (zp [3] [a]))=fun a b c d=>bH (cQ 61 (pb 6 11)
 lf r) Wm fu (zp Wm [a,b,c,d]) K
 |0=>by funext a b c d;kernel_rfl
 |fu+1=>by
  have ih:=Wn (lf:=lf) (r:=r) K fu
  funext a b c d
  rw[zB]
  simp only[ih]
  kernel_rfl
theorem ahn{lf:Nat}{r:RT}:HI lf r=(fun a=>(tK 61 (pb 5 11) lf r) (.exit 0) (zp [3] [a])):=by kernel_rfl
theorem Wo{lf:Nat}{r:RT}{a:V}:aE ah gt lf r 61 #[a]=inside (HJ lf r a):=by
 unfold HJ
 simp only[ahn,Wn]
 kernel_rfl
def Wp(lf:Nat)(r:RT)(a:V):M V:=bP a fun b=>gV b (ii 32) fun c=>ak c ((aG (bU a none (some (ii 24)) M.ret)).bind fun d=>(aG
 (ay r 61 [(aV {data:=#[66,90,104]})] M.ret)).bind fun e=>aW d.1 e.1 fun f=>ak f ((aG (bU a (some (ii 24)) (some (ii 32)) M.ret)).bind fun g
 =>(aG (ay r 63 [g.1] M.ret)).bind fun h=>gV h.1 (i3 49) fun i=>ak i ((aG (bU a (some (ii 24)) (some (ii 32)) M.ret)).bind fun j=>(aG (ay r 63
 [j.1] M.ret)).bind fun l=>nC l.1 (i3 57) fun m=>fV ((!(cT d.2 e.2)&&true)&&true) (aj [m])) ((aG (M.ret undef)).bind fun j=>(aG (M.ret
 undef)).bind fun l=>fV ((!(cT d.2 e.2)&&true)&&true) (aj [bF]))) ((aG (M.ret undef)).bind fun g=>(aG (M.ret undef)).bind fun h=>(aG (M.ret
 undef)).bind fun i=>(aG (M.ret undef)).bind fun j=>fV ((!(cT d.2 e.2)&&true)&&true) (aj [bF]))) ((aG (M.ret undef)).bind fun d=>(aG (M.ret
 undef)).bind fun e=>(aG (M.ret undef)).bind fun f=>(aG (M.ret undef)).bind fun g=>(aG (M.ret undef)).bind fun h=>(aG (M.ret undef)).bind fun i=>
 fV ((!(cT d.2 e.2)&&true)&&true) (aj [bF]))
theorem aho{lf:Nat}{r:RT}{a:V}:aE ah gt lf r 62 #[a]=inside (Wp lf r a):=by kernel_rfl
def tm(lf:Nat)(r:RT):Nat->(V->M V)->V->V->V->V->M V
 |0,_,_,_,_,_=> .fail
 |fu+1,k,a,b,c,d=>bP a fun e=>bp d e fun f=>ak f (fo (i3 2) c fun e=>da a d fun g=>cW g (i1 48) fun h=>dY .u32 h fun i=>aA e i fun j=>
  aA d (ii 1) fun c=>tm lf r fu k a b j c) (k c)
def Wq:List Nat:=[0,2,3,4]
def BF(lf:Nat)(r:RT):(V->M V):=fun a=>aj [a]
def DU(lf:Nat)(r:RT)(a:V):M V:=tm lf r lf (BF lf r) a (i3 0) (i3 0) (ii 0)
theorem Ws{lf:Nat}{r:RT}(K:KT):∀fu,tm lf r fu (fun a=>K (.exit 0) (zp [3] [a]))=fun a b c d=>bH (cQ 63 (pb 6
 11) lf r) Wq fu (zp Wq [a,b,c,d]) K
 |0=>by funext a b c d;kernel_rfl
 |fu+1=>by
  have ih:=Ws (lf:=lf) (r:=r) K fu
  funext a b c d
  rw[tm]
  simp only[ih]
  kernel_rfl
theorem ahp{lf:Nat}{r:RT}:BF lf r=(fun a=>(tK 63 (pb 5 11) lf r) (.exit 0) (zp [3] [a])):=by kernel_rfl
theorem Nu{lf:Nat}{r:RT}{a:V}:aE ah gt lf r 63 #[a]=inside (DU lf r a):=by
 unfold DU
 simp only[ahp,Ws]
 kernel_rfl
def wK(lf:Nat)(r:RT):Nat->((V->M V)×(V->M V))->V->V->V->V->V->V->V->V->M V
 |0,_,_,_,_,_,_,_,_,_=> .fail
 |fu+1,k,a,b,c,d,e,f,g,h=>bp h g fun i=>ak i (bP a fun j=>cW j b fun l=>bp l (ii 48) fun m=>ak m (k.2 e) (aA b (ii 48) fun j=>bU a (some
  b) (some j) fun l=>aW l (aV {data:=#[48,48,48,49,48,49,49,49,48,49,49,49,48,48,49,48,48,49,48,48,48,49,48,49,48,48,49,49,
  49,48,48,48,48,49,48,49,48,48,48,48,49,48,48,49,48,48,48,48]}) fun j=>ak j (bP a fun n=>cW n b fun o=>gV o (ii 80) fun p=>ak p (aA b
  (ii 48) fun q=>aA b (ii 80) fun s=>bU a (some q) (some s) fun t=>ay r 63 [t] fun u=>ay r 25 [f] fun v=>aW u v fun w=>ak w (aA b (ii 80) fun j=>
  ay r 25 [f] fun n=>bB pE [(0,1,(ii 3)),(2,1,b),(3,1,j),(4,1,n)] fun o=>cX 34 8 o fun p=>dj 34 8 e p fun q=>k.2 q) (bz l (aV {data
  :=#[48,48,49,49,48,48,48,49,48,49,48,48,48,48,48,49,48,49,48,49,49,48,48,49,48,48,49,48,48,49,49,48,48,49,48,49,48,48,49,49,
  48,49,48,49,49,48,48,49]}) fun j=>ak j (k.2 e) (aA b (ii 48) fun n=>bU a (some n) none fun o=>ay r 104 [o,c] fun p=>di 159 z159 fun q=>aX 6 q
  p fun _=>aq 5 q fun n=>ar n fun o=>bz o (ii 0) fun p=>ak p (k.2 e) (aq 0 q fun n=>bx 3 n fun o=>ay r 105 [o] fun s=>aP s 0 fun t=>aP s 1 fun
  u=>bz u (ii 0) fun n=>ak n (k.2 e) (aA b (ii 48) fun o=>aq 3 q fun s=>ar s fun v=>aA o v fun x=>aq 0 q fun o=>aq 2 o fun s=>ar s fun v=>aq
  0 q fun y=>aq 1 y fun z=>ar z fun A=>aq 0 q fun B=>aq 0 B fun C=>ar C fun D=>bP D fun E=>bP t fun G=>bB pE [(0,1,(ii 2)),(2,1,b),(3,1,
  x),(4,1,v),(5,1,A),(6,1,E),(7,1,G)] fun J=>cX 34 8 J fun L=>dj 34 8 e L fun N=>aq 0 q fun e=>aq 2 e fun o=>ar o fun s=>cX 31 1 s fun v
  =>dj 31 1 f v fun y=>aA h (ii 1) fun b=>wK lf r fu k a x c d N y g b))))) (bz l (aV {data:=#[48,48,49,49,48,48,48,49,
  48,49,48,48,48,48,48,49,48,49,48,49,49,48,48,49,48,48,49,48,48,49,49,48,48,49,48,49,48,48,49,49,48,49,48,49,49,48,48,49]}) fun
  j=>ak j (k.2 e) (aA b (ii 48) fun n=>bU a (some n) none fun o=>ay r 104 [o,c] fun p=>di 159 z159 fun q=>aX 6 q p fun _=>aq 5 q fun n=>ar n fun
  o=>bz o (ii 0) fun p=>ak p (k.2 e) (aq 0 q fun n=>bx 3 n fun o=>ay r 105 [o] fun s=>aP s 0 fun t=>aP s 1 fun u=>bz u (ii 0) fun n=>ak n (k.2
  e) (aA b (ii 48) fun o=>aq 3 q fun s=>ar s fun v=>aA o v fun w=>aq 0 q fun o=>aq 2 o fun s=>ar s fun v=>aq 0 q fun x=>aq 1 x fun y=>ar y
  fun z=>aq 0 q fun A=>aq 0 A fun B=>ar B fun C=>bP C fun D=>bP t fun E=>bB pE [(0,1,(ii 2)),(2,1,b),(3,1,w),(4,1,v),(5,1,z),(6,1,
  D),(7,1,E)] fun G=>cX 34 8 G fun J=>dj 34 8 e J fun L=>aq 0 q fun e=>aq 2 e fun o=>ar o fun s=>cX 31 1 s fun v=>dj 31 1 f v fun x=>aA h (ii
  1) fun b=>wK lf r fu k a w c d L x g b))))) (bz l (aV {data:=#[48,48,49,49,48,48,48,49,48,49,48,48,48,48,48,49,48,
  49,48,49,49,48,48,49,48,48,49,48,48,49,49,48,48,49,48,49,48,48,49,49,48,49,48,49,49,48,48,49]}) fun j=>ak j (k.2 e) (aA b (ii 48)
  fun n=>bU a (some n) none fun o=>ay r 104 [o,c] fun p=>di 159 z159 fun q=>aX 6 q p fun _=>aq 5 q fun n=>ar n fun o=>bz o (ii 0) fun p=>ak p
  (k.2 e) (aq 0 q fun n=>bx 3 n fun o=>ay r 105 [o] fun s=>aP s 0 fun t=>aP s 1 fun u=>bz u (ii 0) fun n=>ak n (k.2 e) (aA b (ii 48) fun o=>aq 3
  q fun s=>ar s fun v=>aA o v fun w=>aq 0 q fun o=>aq 2 o fun s=>ar s fun v=>aq 0 q fun x=>aq 1 x fun y=>ar y fun z=>aq 0 q fun A=>aq 0 A
  fun B=>ar B fun C=>bP C fun D=>bP t fun E=>bB pE [(0,1,(ii 2)),(2,1,b),(3,1,w),(4,1,v),(5,1,z),(6,1,D),(7,1,E)] fun G=>cX 34 8 G
  fun J=>dj 34 8 e J fun L=>aq 0 q fun e=>aq 2 e fun o=>ar o fun s=>cX 31 1 s fun v=>dj 31 1 f v fun x=>aA h (ii 1) fun b=>wK lf r fu k a w c d L x g b)))))) (k.1 e)
def Wt:List Nat:=[0,1,2,6,7,8,15,16]
def BG(lf:Nat)(r:RT):(V->M V)×(V->M V):=(fun a=>aj [a],fun a=>aj [a])
def Nv(lf:Nat)(r:RT)(a b c:V):M V:=bP a fun d=>wK lf r lf (BG lf r) a b c nS nS nS d (ii 0)
theorem Wu{lf:Nat}{r:RT}(K:KT):∀fu,wK lf r fu ((fun a=>K (.exit 0) (zp [7] [a]),fun a=>K .ret (zp [6] [a])))=
 fun a b c d e f g h=>bH (cQ 64 (pb 7 23) lf r) Wt fu (zp Wt [a,b,c,d,e,f,g,h]) K
 |0=>by funext a b c d e f g h;kernel_rfl
 |fu+1=>by
  have ih:=Wu (lf:=lf) (r:=r) K fu
  funext a b c d e f g h
  rw[wK]
  simp only[ih]
  kernel_rfl
theorem ahq{lf:Nat}{r:RT}:BG lf r=((fun a=>(tK 64 (pb 6 23) lf r) (.exit 0) (zp [7] [a]),fun a=>(tK 64 (pb 6 23) lf r) .ret (zp [6] [a]))):=by kernel_rfl
theorem ahr{lf:Nat}{r:RT}{a b c:V}:aE ah gt lf r 64 #[a,b,c]=inside (Nv lf r a b c):=by
 unfold Nv
 simp only[ahq,Wu]
 kernel_rfl
def zC(lf:Nat)(r:RT):Nat->(V->M V)->V->V->V->V->V->V->M V
 |0,_,_,_,_,_,_,_=> .fail
 |fu+1,k,a,b,c,d,e,f=>bp f e fun g=>ak g (dO d f fun h=>ar h fun i=>ay r 107 [i] fun h=>aA (aV {data:=#[32]}) h fun j=>aA a j
  fun l=>aA f (ii 1) fun a=>zC lf r fu k l b c d e a) (k a)
def Wv:List Nat:=[0,1,4,7,8,9]
def HK(lf:Nat)(r:RT):(V->M V):=fun a=>aj [a]
def Nw(lf:Nat)(r:RT)(a b:V):M V:=bO b fun c=>zC lf r lf (HK lf r) a b (aV {data:=#[]}) b c (ii 0)
theorem Ww{lf:Nat}{r:RT}(K:KT):∀fu,zC lf r fu (fun a=>K (.exit 0) (zp [0] [a]))=fun a b c d e f=>bH (cQ 67 (pb 5 5)
 lf r) Wv fu (zp Wv [a,b,c,d,e,f]) K
 |0=>by funext a b c d e f;kernel_rfl
 |fu+1=>by
  have ih:=Ww (lf:=lf) (r:=r) K fu
  funext a b c d e f
  rw[zC]
  simp only[ih]
  kernel_rfl
theorem ahs{lf:Nat}{r:RT}:HK lf r=(fun a=>(tK 67 (pb 4 5) lf r) (.exit 0) (zp [0] [a])):=by kernel_rfl
theorem aht{lf:Nat}{r:RT}{a b:V}:aE ah gt lf r 67 #[a,b]=inside (Nw lf r a b):=by
 unfold Nw
 simp only[ahs,Ww]
 kernel_rfl
def Wx(lf:Nat)(r:RT)(a b:V):M V:=yV b (ii 0) fun c=>nD c (ii 1099511627776) fun d=>aA a d fun e=>nD e (ii 1099511627776) fun f=>aj [f]
theorem ahu{lf:Nat}{r:RT}{a b:V}:aE ah gt lf r 71 #[a,b]=inside (Wx lf r a b):=by kernel_rfl
def Wy(lf:Nat)(r:RT)(a:V):M V:=aA a (ii 1) fun b=>bU (aV {data:=#[48,49,50,51,52,53,54,55,56,57]}) (some a) (some
 b) fun c=>aA (aV {data:=#[66,90,104]}) c fun d=>ay r 61 [d] fun e=>aj [e]
theorem ahv{lf:Nat}{r:RT}{a:V}:aE ah gt lf r 72 #[a]=inside (Wy lf r a):=by kernel_rfl
def HL(lf:Nat)(r:RT):Nat->(V->V->V->V->V->V->V->V->M V)->V->V->V->V->V->V->V->V->V->V->V->V->V->V->M V
 |0,_,_,_,_,_,_,_,_,_,_,_,_,_,_,_=> .fail
 |fu+1,k,a,b,c,d,e,f,g,h,i,j,l,m,n,o=>bp o n fun p=>ak p (aq 1 e fun q=>ar q fun s=>aq 0 f fun t=>ar t fun u=>cX 5 1 u fun v=>lU
  v fun w=>aA s w fun x=>aq 1 e fun y=>aZ y x fun _=>aA o (ii 1) fun q=>HL lf r fu k a b c d e f g h i j l m n q) (k a b c d e h i j)
def Wz:List Nat:=[0,1,4,5,6,8,9,12,13,14,15,27,39,40]
def WA(lf:Nat)(r:RT)(k:(V->V->M V))(again:V->V->V->V->V->V->V->V->M V):(V->V->V->V->V->V->V->V->M V):=fun a b c d e f g h=>aA h (ii 1) fun i=>again a b c d e f g i
def HM(lf:Nat)(r:RT):Nat->(V->V->M V)->V->V->V->V->V->V->V->V->M V
 |0,_,_,_,_,_,_,_,_,_=> .fail
 |fu+1,k,a,b,c,d,e,f,g,h=>bp h g fun i=>ak i (kG 2 f h fun j=>bx 2 j fun l=>di 168 z168 fun m=>aX 2 m l fun _=>bx 2 m fun j=>ay r 109
  [j] fun l=>aq 0 e fun j=>ar j fun n=>bP n fun o=>bP l fun p=>aA o p fun q=>dJ q b fun s=>(fun n=>ak s (bx 2 e fun j=>cX 120 2 j fun o=>
  dj 120 2 d o fun p=>bB DR [] fun j=>aX 2 e j fun _=>n p) (n d)) fun d=>aq 0 e fun j=>ar j fun n=>aA n l fun o=>aq 0 e fun p=>aZ p o fun _=>
  aq 1 m fun j=>ar j fun n=>HL lf r lf (WA lf r k (HM lf r fu k)) a b c d e m l f g h i s n (ii 0)) (k d e)
def DV:List Nat:=[0,1,4,5,6,12,13,14]
def WC(lf:Nat)(r:RT):(V->V->M V):=fun a b=>aq 0 b fun c=>ar c fun d=>bP d fun e=>dJ e (ii 0) fun f=>ak f (bx 2 b fun c=>cX 120
 2 c fun d=>dj 120 2 a d fun e=>aj [e]) (aj [a])
def Ny(lf:Nat)(r:RT)(a b:V):M V:=bB DR [] fun c=>di 120 DR fun d=>aX 2 d c fun _=>ay r 108 [a] fun c=>bO c fun e=>
 HM lf r lf (WC lf r) a b nS nS d c e (ii 0)
theorem WD{lf:Nat}{r:RT}(K:KT):∀fu,HL lf r fu (fun a b c d e f g h=>K (.exit 2) (zp [0,1,4,5,6,12,13,14] [a,b,c,d,
 e,f,g,h]))=fun a b c d e f g h i j l m n o=>bH (cQ 73 (pb 18 63895) lf r) Wz fu (zp Wz [a,b,c,d,e,f,g,h,i,j,l,m,n,o]) K
 |0=>by funext a b c d e f g h i j l m n o;kernel_rfl
 |fu+1=>by
  have ih:=WD (lf:=lf) (r:=r) K fu
  funext a b c d e f g h i j l m n o
  rw[HL]
  simp only[ih]
  kernel_rfl
theorem ahw{lf:Nat}{r:RT}(K:KT)(fu:Nat):WA lf r (fun a b=>K (.exit 0) (zp [5,6] [a,b])) (fun a b c d e f g h=>bH (cQ
 73 (pb 7 23) lf r) DV fu (zp DV [a,b,c,d,e,f,g,h]) K)=(fun a b c d e f g h=>(iK 73 (pb 7 23) (pb 10 499) DV fu K
 lf r) (.exit 2) (zp [0,1,4,5,6,12,13,14] [a,b,c,d,e,f,g,h])):=by kernel_rfl
theorem WE{lf:Nat}{r:RT}(K:KT):∀fu,HM lf r fu (fun a b=>K (.exit 0) (zp [5,6] [a,b]))=fun a b c d e f g h=>bH (cQ
 73 (pb 7 23) lf r) DV fu (zp DV [a,b,c,d,e,f,g,h]) K
 |0=>by funext a b c d e f g h;kernel_rfl
 |fu+1=>by
  have ih:=WE (lf:=lf) (r:=r) K fu
  funext a b c d e f g h
  rw[HM]
  simp only[ih,ahw,WD]
  kernel_rfl
theorem ahx{lf:Nat}{r:RT}:WC lf r=(fun a b=>(tK 73 (pb 6 23) lf r) (.exit 0) (zp [5,6] [a,b])):=by kernel_rfl
theorem ahy{lf:Nat}{r:RT}{a b:V}:aE ah gt lf r 73 #[a,b]=inside (Ny lf r a b):=by
 unfold Ny
 simp only[ahx,WE]
 kernel_rfl
def WG(lf:Nat)(r:RT)(a:V):M V:=ay r 114 [a] fun b=>ay r 113 [b] fun c=>aj [c]
theorem ahz{lf:Nat}{r:RT}{a:V}:aE ah gt lf r 76 #[a]=inside (WG lf r a):=by kernel_rfl
def WH(lf:Nat)(r:RT)(a:V):M V:=ay r 25 [a] fun b=>ay r 103 [b,(ii 32)] fun c=>aA (aV {data:=#[48,48,48,49,48,49,
 49,49,48,49,49,49,48,48,49,48,48,49,48,48,48,49,48,49,48,48,49,49,49,48,48,48,48,49,48,49,48,48,48,48,49,48,48,49,48,48,48,48]}) c fun d=>aj [d]
theorem ahA{lf:Nat}{r:RT}{a:V}:aE ah gt lf r 77 #[a]=inside (WH lf r a):=by kernel_rfl
def Nz(lf:Nat)(r:RT)(a b:V):M V:=fo a (i3 2) fun c=>gV a (i3 2147483648) fun d=>ak d (aA c (i3 1) fun e=>rE e b fun c=>aj [c]) (rE c b fun e=>aj [e])
theorem WJ{lf:Nat}{r:RT}{a b:V}:aE ah gt lf r 78 #[a,b]=inside (Nz lf r a b):=by kernel_rfl
def pF(lf:Nat)(r:RT):Nat->((M V)×(V->M V))->V->V->V->V->M V
 |0,_,_,_,_,_=> .fail
 |fu+1,k,a,b,c,d=>bp d (ii 4) fun e=>ak e (bP a fun f=>fo (ii 8) d fun g=>aA g (ii 8) fun h=>bp f h fun i=>ak i (k.2 (ii 24)) (fo (ii 8) d
  fun f=>fo (ii 8) d fun g=>aA g (ii 8) fun h=>bU a (some f) (some h) fun j=>bp d (ii 3) fun f=>ak f (fo (ii 8) d fun g=>fo (ii 8) d fun h=>aA h
  (ii 8) fun l=>bU c (some g) (some l) fun m=>bz j m fun n=>ak n (k.2 (ii 20)) (aW d (ii 3) fun f=>ak f (ay r 63 [j] fun g=>bp g (i3 49) fun h=>ak h
  (k.2 (ii 20)) (ay r 63 [j] fun l=>dJ l (i3 57) fun m=>ak m (k.2 (ii 20)) (aA d (ii 1) fun f=>pF lf r fu k a b c f))) (aA d (ii 1) fun f
  =>pF lf r fu k a b c f))) (aW d (ii 3) fun f=>ak f (ay r 63 [j] fun g=>bp g (i3 49) fun h=>ak h (k.2 (ii 20)) (ay r 63 [j] fun l=>
  dJ l (i3 57) fun m=>ak m (k.2 (ii 20)) (aA d (ii 1) fun f=>pF lf r fu k a b c f))) (aA d (ii 1) fun f=>pF lf r fu k a b c f)))) (k.1)
def WK:List Nat:=[0,2,3,7]
def rP(lf:Nat)(r:RT):(M V)×(V->M V):=(aj [(ii 0)],fun a=>aj [a])
def NA(lf:Nat)(r:RT)(a:V):M V:=ay r 61 [(aV {data:=#[66,90,104]})] fun b=>pF lf r lf (rP lf r) a (ii 0) b (ii 0)
theorem WL{lf:Nat}{r:RT}(K:KT):∀fu,pF lf r fu ((K (.exit 0) [],fun a=>K .ret (zp [2] [a])))=fun a b c d=>bH
 (cQ 79 (pb 6 11) lf r) WK fu (zp WK [a,b,c,d]) K
 |0=>by funext a b c d;kernel_rfl
 |fu+1=>by
  have ih:=WL (lf:=lf) (r:=r) K fu
  funext a b c d
  rw[pF]
  simp only[ih]
  kernel_rfl
theorem ahB{lf:Nat}{r:RT}:rP lf r=(((tK 79 (pb 5 11) lf r) (.exit 0) [],fun a=>(tK 79 (pb 5 11) lf r) .ret (zp [2] [a]))):=by kernel_rfl
theorem ahC{lf:Nat}{r:RT}{a:V}:aE ah gt lf r 79 #[a]=inside (NA lf r a):=by
 unfold NA
 simp only[ahB,WL]
 kernel_rfl
def BH(lf:Nat)(r:RT):Nat->((V->M V)×(V->M V))->V->V->V->V->V->V->V->M V
 |0,_,_,_,_,_,_,_,_=> .fail
 |fu+1,k,a,b,c,d,e,f,g=>bp g f fun h=>ak h (bP a fun i=>aq 1 d fun j=>ar j fun l=>cW i l fun m=>bp m (ii 48) fun n=>ak n (bB my [(2,
  1,(ii 24))] fun i=>aX 3 c i fun _=>k.2 c) (aq 1 d fun i=>ar i fun j=>aq 1 d fun l=>ar l fun m=>aA m (ii 48) fun o=>bU a (some j) (some o) fun p
  =>aq 1 d fun i=>ar i fun j=>aA j (ii 48) fun l=>aW p (aV {data:=#[48,48,48,49,48,49,49,49,48,49,49,49,48,48,49,48,48,49,48,
  48,48,49,48,49,48,48,49,49,49,48,48,48,48,49,48,49,48,48,48,48,49,48,48,49,48,48,48,48]}) fun i=>ak i (bP a fun j=>cW j l fun m=>
  bp m (ii 32) fun o=>ak o (bB my [(2,1,(ii 24))] fun j=>aX 3 c j fun _=>k.2 c) (aA l (ii 32) fun j=>bU a (some l) (some j) fun m=>ay r 63 [m] fun
  q=>ay r 25 [e] fun s=>bz q s fun t=>ak t (bB my [(2,1,(ii 21))] fun j=>aX 3 c j fun _=>k.2 c) (aq 0 d fun j=>ar j fun m=>aA l (ii 32) fun q
  =>bB my [(0,1,m),(1,1,q)] fun s=>aX 3 c s fun _=>k.2 c))) (bz p (aV {data:=#[48,48,49,49,48,48,48,49,48,49,48,48,48,48,48,
  49,48,49,48,49,49,48,48,49,48,48,49,48,48,49,49,48,48,49,48,49,48,48,49,49,48,49,48,49,49,48,48,49]}) fun j=>ak j (bB my [(2,
  1,(ii 20))] fun m=>aX 3 c m fun _=>k.2 c) (bU a (some l) none fun m=>ay r 104 [m,b] fun o=>di 159 z159 fun q=>aX 6 q o fun _=>aq 5 q fun m=>ar
  m fun o=>aW o (ii 3) fun s=>ak s (bB my [(2,1,(ii 24))] fun m=>aX 3 c m fun _=>k.2 c) (aq 5 q fun m=>ar m fun o=>bz o (ii 0) fun t=>ak t
  (aq 5 q fun m=>ar m fun o=>bB my [(2,1,o)] fun u=>aX 3 c u fun _=>k.2 c) (aq 0 q fun m=>bx 3 m fun o=>ay r 105 [o] fun u=>aP u 0 fun v=>
  aP u 1 fun w=>bz w (ii 0) fun m=>ak m (bB my [(2,1,w)] fun o=>aX 3 c o fun _=>k.2 c) (aq 0 q fun o=>aq 2 o fun u=>ar u fun x=>cX 31 1 x fun
  y=>dj 31 1 e y fun z=>aq 0 d fun e=>ar e fun o=>aA o v fun u=>aq 3 q fun x=>ar x fun y=>aA l y fun A=>bB my [(0,1,u),(1,1,A)] fun B=>
  aX 3 d B fun _=>aA g (ii 1) fun e=>BH lf r fu k a b c d z f e))))))) (k.1 c)
def WM:List Nat:=[0,1,4,5,6,15,16]
def BI(lf:Nat)(r:RT):(V->M V)×(V->M V):=(fun a=>bB my [(2,1,(ii 24))] fun b=>aX 3 a b fun _=>bx 3 a fun b=>aj [b],fun a=>bx 3 a fun b=>aj [b])
def NC(lf:Nat)(r:RT)(a b:V):M V:=di 126 my fun c=>bB my [] fun d=>di 126 my fun e=>aX 3 e d fun _=>bP a fun d=>aA d (ii
 1) fun f=>BH lf r lf (BI lf r) a b c e nS f (ii 0)
theorem WN{lf:Nat}{r:RT}(K:KT):∀fu,BH lf r fu ((fun a=>K (.exit 0) (zp [4] [a]),fun a=>K .ret (zp [4] [a])))=fun a b
 c d e f g=>bH (cQ 80 (pb 7 23) lf r) WM fu (zp WM [a,b,c,d,e,f,g]) K
 |0=>by funext a b c d e f g;kernel_rfl
 |fu+1=>by
  have ih:=WN (lf:=lf) (r:=r) K fu
  funext a b c d e f g
  rw[BH]
  simp only[ih]
  kernel_rfl
theorem ahD{lf:Nat}{r:RT}:BI lf r=((fun a=>(tK 80 (pb 6 23) lf r) (.exit 0) (zp [4] [a]),fun a=>(tK 80 (pb 6 23) lf r) .ret (zp [4] [a]))):=by kernel_rfl
theorem ahE{lf:Nat}{r:RT}{a b:V}:aE ah gt lf r 80 #[a,b]=inside (NC lf r a b):=by
 unfold NC
 simp only[ahD,WN]
 kernel_rfl
def HN(lf:Nat)(r:RT)(a b:V):M V:=bp a (ii 1) fun c=>ak c (aj [(ii 0),(ii 1)]) (dJ a (ii 9) fun d=>ak d (aj [(ii 0),(ii 1)]) (bp b
 (ii 24) fun e=>ak e (aj [(ii 0),(ii 1)]) (dJ b (ii 100000) fun f=>ak f (aj [(ii 0),(ii 1)]) (fo a b fun c=>cW c (ii 19) fun d=>aj [d,(ii 0)]))))
theorem ND{lf:Nat}{r:RT}{a b:V}:aE ah gt lf r 96 #[a,b]=inside (HN lf r a b):=by kernel_rfl
def NF(lf:Nat)(r:RT)(a:V):M V:=pB a nP fun b=>ak b (az a fun c=>aq 9 c fun d=>ar d fun e=>ak e (az a fun f=>aq 1 f
 fun g=>ar g fun h=>aW h (ii 0) fun i=>ak i (az a fun j=>aq 2 j fun l=>ar l fun m=>aW m (ii 0) fun n=>ak n (az a fun o=>aq 10 o fun p=>ar p
 fun q=>aW q (ii 0) fun s=>aj [s]) (aj [bF])) (aj [bF])) (aj [bF])) (aj [bF])
theorem WO{lf:Nat}{r:RT}{a:V}:aE ah gt lf r 97 #[a]=inside (NF lf r a):=by kernel_rfl
def NG(lf:Nat)(r:RT)(a:V):M V:=fT a nP fun b=>ak b (aj [(ii 0)]) ((aG (ay r 122 [a] M.ret)).bind fun c=>az a fun d=>aq 2 d
 fun e=>(aG (ar e M.ret)).bind fun f=>cW c.1 f.1 fun g=>fV ((!(cT c.2 f.2)&&true)&&true) (aj [g]))
theorem WQ{lf:Nat}{r:RT}{a:V}:aE ah gt lf r 98 #[a]=inside (NG lf r a):=by kernel_rfl
def NH(lf:Nat)(r:RT)(a b:V):M V:=fT a nP fun c=>ak c (aj [(ii 0),(ii 7)]) (fT b nP fun d=>ak d (aj [(ii 0),(ii 7)]) (az a
 fun c=>aq 10 c fun e=>ar e fun f=>bz f (ii 0) fun g=>ak g (az a fun c=>aq 10 c fun e=>ar e fun f=>aj [(ii 0),f]) (ay r 123 [a,b] fun c=>aP
 c 0 fun e=>aP c 1 fun f=>bz f (ii 3) fun c=>ak c (az a fun h=>aq 10 h fun i=>aZ i f fun _=>aj [e,f]) (aj [e,f]))))
theorem WS{lf:Nat}{r:RT}{a b:V}:aE ah gt lf r 99 #[a,b]=inside (NH lf r a b):=by kernel_rfl
def WT(lf:Nat)(r:RT)(a:V):M V:=az a fun b=>aq 2 b fun c=>ar c fun d=>ay r 121 [d] fun e=>di 134 zi fun f=>aX 3 f e fun
 _=>bx 3 f fun b=>ay r 124 [b] fun c=>aP c 0 fun d=>aP c 1 fun e=>bz e (ii 0) fun b=>ak b (aj [e]) (aq 2 f fun c=>(aG (ar c M.ret)).bind fun
 g=>aq 1 f fun h=>(aG (ar h M.ret)).bind fun i=>aq 0 f fun j=>(aG (ar j M.ret)).bind fun l=>bP l.1 fun m=>bP d fun n=>bB zh [(0,1,(ii 2)),
 (4,1,g.1),(5,1,i.1),(6,1,m),(7,1,n)] fun o=>az a fun p=>aq 1 p fun q=>(aG (ar q M.ret)).bind fun s=>(aG (ay r 126 [s.1] M.ret)).bind fun t
 =>(aG (ay r 125 [a,o,t.1] M.ret)).bind fun u=>fV ((!(cT g.2 t.2)&&true)&&((!(cT i.2 t.2)&&true)&&((!(cT l.2 t.2)&&true)&&true)))
 (az a fun c=>aq 5 c fun g=>ar g fun h=>aq 2 f fun i=>ar i fun j=>ay r 127 [h,j] fun l=>az a fun m=>aq 5 m fun n=>aZ n l fun _=>aj [(ii 0)]))
theorem ahF{lf:Nat}{r:RT}{a:V}:aE ah gt lf r 100 #[a]=inside (WT lf r a):=by kernel_rfl
def NI(lf:Nat)(r:RT)(a:V):M V:=az a fun b=>aq 5 b fun c=>ar c fun d=>bB zh [(0,1,(ii 3)),(4,1,d)] fun e=>az a fun f=>
 aq 4 f fun g=>ar g fun h=>aA h (ii 48) fun i=>aA i (ii 32) fun j=>ay r 125 [a,e,j] fun l=>az a fun b=>aq 1 b fun c=>ar c fun d=>ay r 126 [d]
 fun e=>az a fun f=>aq 4 f fun g=>aZ g e fun _=>aj []
theorem WV{lf:Nat}{r:RT}{a:V}:aE ah gt lf r 101 #[a]=inside (NI lf r a):=by kernel_rfl
def NJ(lf:Nat)(r:RT)(a:V):M V:=az a fun b=>aq 3 b fun c=>ar c fun d=>bO d fun e=>aW e (ii 0) fun f=>ak f (az a fun b=>
 aq 1 b fun c=>(aG (ar c M.ret)).bind fun d=>(aG (ay r 126 [d.1] M.ret)).bind fun e=>az a fun f=>aq 4 f fun g=>(aG (ar g M.ret)).bind fun h=>
 aA h.1 (ii 32) fun i=>aW e.1 i fun j=>fV ((!(cT e.2 h.2)&&true)&&true) (ak j (az a fun b=>aq 0 b fun c=>ar c fun d=>az a fun e=>aq 4 e
 fun f=>ar f fun g=>lT g (ii 8) fun h=>aA h (ii 3) fun i=>da d i fun l=>cW l (i1 48) fun m=>dY .i64 m fun n=>bB zh [(0,1,(ii 1)),(1,1,n)] fun
 b=>az a fun c=>aq 1 c fun d=>ar d fun e=>ay r 126 [e] fun f=>ay r 125 [a,b,f] fun g=>az a fun b=>aq 5 b fun c=>aZ c (i3 0) fun _=>aj [])
 (aj []))) (az a fun g=>aq 3 g fun h=>ar h fun i=>az a fun j=>aq 3 j fun l=>ar l fun m=>bO m fun n=>cW n (ii 1) fun o=>kG 8 i o fun p=>aq
 0 p fun q=>ar q fun s=>aW s (ii 3) fun t=>ak t (az a fun b=>aq 1 b fun c=>(aG (ar c M.ret)).bind fun d=>(aG (ay r 126 [d.1] M.ret)).bind fun e
 =>az a fun f=>aq 4 f fun g=>(aG (ar g M.ret)).bind fun h=>aA h.1 (ii 32) fun i=>aW e.1 i fun j=>fV ((!(cT e.2 h.2)&&true)&&true) (ak j
 (az a fun b=>aq 0 b fun c=>ar c fun d=>az a fun e=>aq 4 e fun f=>ar f fun g=>lT g (ii 8) fun h=>aA h (ii 3) fun i=>da d i fun l=>cW l (i1
 48) fun m=>dY .i64 m fun n=>bB zh [(0,1,(ii 1)),(1,1,n)] fun b=>az a fun c=>aq 1 c fun d=>ar d fun e=>ay r 126 [e] fun f=>ay r 125 [a,b,f]
 fun g=>az a fun b=>aq 5 b fun c=>aZ c (i3 0) fun _=>aj []) (aj []))) ((aG (M.ret undef)).bind fun b=>(aG (M.ret undef)).bind fun c=>(aG
 (M.ret undef)).bind fun d=>fV ((!(cT c.2 d.2)&&true)&&true) (aj [])))
theorem WX{lf:Nat}{r:RT}{a:V}:aE ah gt lf r 102 #[a]=inside (NJ lf r a):=by kernel_rfl
def zD(lf:Nat)(r:RT):Nat->(V->M V)->V->V->V->V->V->V->M V
 |0,_,_,_,_,_,_,_=> .fail
 |fu+1,k,a,b,c,d,e,f=>bp f e fun g=>ak g (rF a (i3 2) fun h=>rF a (i3 2) fun i=>aA i (i3 1) fun j=>bU (aV {data:=#[48,49]})
  (some h) (some j) fun l=>aA l d fun m=>lT a (i3 2) fun d=>aA f (ii 1) fun a=>zD lf r fu k d b c m e a) (k d)
def WY:List Nat:=[0,1,4,5,6,7]
def HO(lf:Nat)(r:RT):(V->M V):=fun a=>aj [a]
def HP(lf:Nat)(r:RT)(a b:V):M V:=zD lf r lf (HO lf r) a b (aV {data:=#[]}) (aV {data:=#[]}) b (ii 0)
theorem WZ{lf:Nat}{r:RT}(K:KT):∀fu,zD lf r fu (fun a=>K (.exit 0) (zp [5] [a]))=fun a b c d e f=>bH (cQ 103 (pb
 6 11) lf r) WY fu (zp WY [a,b,c,d,e,f]) K
 |0=>by funext a b c d e f;kernel_rfl
 |fu+1=>by
  have ih:=WZ (lf:=lf) (r:=r) K fu
  funext a b c d e f
  rw[zD]
  simp only[ih]
  kernel_rfl
theorem ahG{lf:Nat}{r:RT}:HO lf r=(fun a=>(tK 103 (pb 5 11) lf r) (.exit 0) (zp [5] [a])):=by kernel_rfl
theorem W0{lf:Nat}{r:RT}{a b:V}:aE ah gt lf r 103 #[a,b]=inside (HP lf r a b):=by
 unfold HP
 simp only[ahG,WZ]
 kernel_rfl
def W2(lf:Nat)(r:RT)(a b:V):M V:=di 159 z159 fun c=>bP a fun d=>bp d (ii 57) fun e=>ak e (bB z159 [(5,1,(ii 3))] fun d=>aX 6 c
 d fun _=>bx 6 c fun a=>aj [a]) (da a (ii 32) fun d=>aW d (i1 49) fun f=>ak f (bB z159 [(5,1,(ii 25))] fun d=>aX 6 c d fun _=>bx 6 c fun a=>
 aj [a]) (bU a (some (ii 57)) none fun d=>ay r 128 [d] fun g=>di 185 rM fun h=>aX 3 h g fun _=>aq 2 h fun d=>ar d fun g=>bz g (ii 0) fun i=>ak
 i (aq 2 h fun d=>ar d fun g=>bB z159 [(5,1,g)] fun j=>aX 6 c j fun _=>bx 6 c fun a=>aj [a]) (aq 0 h fun d=>ar d fun g=>bP g fun j=>aq 1 h
 fun d=>ar d fun g=>aA (ii 57) g fun l=>bU a (some l) none fun d=>aA j (ii 2) fun g=>ay r 129 [d,g,(ii 8000)] fun m=>di 188 u5 fun n=>aX 4 n m
 fun _=>bU a (some l) none fun d=>aA j (ii 2) fun g=>ay r 131 [d,g] fun m=>ay r 130 [m,j,b] fun o=>bz o (ii 0) fun p=>ak p (bB z159 [(5,1,(ii
 25))] fun d=>aX 6 c d fun _=>bx 6 c fun a=>aj [a]) (aq 3 n fun d=>ar d fun g=>bz g (ii 0) fun m=>ak m (aq 3 n fun d=>ar d fun g=>bB z159
 [(5,1,g)] fun o=>aX 6 c o fun _=>bx 6 c fun a=>aj [a]) (aq 0 n fun d=>ar d fun g=>ay r 132 [g,j,b] fun o=>aP o 0 fun q=>aP o 1 fun s=>aq
 0 h fun d=>ar d fun g=>ay r 133 [q,g] fun o=>aP o 0 fun s=>aP o 1 fun t=>bU a (some (ii 33)) (some (ii 57)) fun d=>ay r 63 [d] fun g=>dY .i64 g
 fun o=>bP s fun d=>gV o d fun g=>ak g (bB z159 [(5,1,(ii 23))] fun d=>aX 6 c d fun _=>bx 6 c fun a=>aj [a]) ((aG (bU a none (some (ii 32))
 M.ret)).bind fun d=>(aG (ay r 63 [d.1] M.ret)).bind fun t=>bB z157 [(0,1,s),(1,1,o),(2,1,t.1)] fun u=>aq 1 n fun v=>(aG (ar v M.ret)).bind
 fun w=>aA l w.1 fun x=>aq 2 n fun y=>(aG (ar y M.ret)).bind fun z=>bP s fun A=>aA z.1 A fun B=>bB z159 [(0,3,u),(3,1,x),(4,1,B)] fun C=>
 (aG (aX 6 c C M.ret)).bind fun D=>fV ((!(cT t.2 w.2)&&(!(cT t.2 z.2)&&true))&&true) (bx 6 c fun a=>aj [a])))))))
theorem ahH{lf:Nat}{r:RT}{a b:V}:aE ah gt lf r 104 #[a,b]=inside (W2 lf r a b):=by kernel_rfl
def W3(lf:Nat)(r:RT)(a:V):M V:=iD 157 a fun b=>aq 0 b fun c=>ar c fun d=>aW d (aV {data:=#[]}) fun e=>ak e (aj
 [(aV {data:=#[]}),(ii 1)]) (aq 1 b fun c=>ar c fun d=>bp d (ii 0) fun f=>ak f (aj [(aV {data:=#[]}),(ii 23)]) (aq 1 b fun g
 =>ar g fun h=>aq 0 b fun i=>ar i fun j=>bP j fun l=>gV h l fun m=>ak m (aj [(aV {data:=#[]}),(ii 23)]) (aq 0 b fun c=>ar c fun d
 =>aq 1 b fun f=>ar f fun g=>ay r 135 [d,g] fun h=>ay r 134 [h] fun i=>aP i 0 fun j=>aP i 1 fun l=>bz l (ii 0) fun c=>ak c (aj [(aV
 {data:=#[]}),(ii 25)]) ((aG (ay r 112 [j] M.ret)).bind fun d=>aq 2 b fun f=>(aG (ar f M.ret)).bind fun g=>bz d.1 g.1 fun h=>fV ((!(cT d.2
 g.2)&&true)&&true) (ak h (aj [(aV {data:=#[]}),(ii 21)]) (aj [j,(ii 0)]))))))
theorem ahI{lf:Nat}{r:RT}{a:V}:aE ah gt lf r 105 #[a]=inside (W3 lf r a):=by kernel_rfl
def NK(lf:Nat)(r:RT)(a:V):M V:=bp a (ii 10) fun b=>ak b (yV a (ii 0) fun c=>aA (ii 48) c fun d=>dY .u8 d fun e=>cX 5 1 e fun f=>
 lU f fun g=>aj [g]) (lT a (ii 10) fun c=>(aG (ay r 107 [c] M.ret)).bind fun d=>rF a (ii 10) fun e=>aA (ii 48) e fun f=>(aG (dY .u8 f
 M.ret)).bind fun g=>(aG (cX 5 1 g.1 M.ret)).bind fun h=>(aG (lU h.1 M.ret)).bind fun i=>aA d.1 i.1 fun j=>fV ((!(cT d.2 g.2)&&(!(cT d.2
 h.2)&&(!(cT d.2 i.2)&&true)))&&true) (aj [j]))
theorem W4{lf:Nat}{r:RT}{a:V}:aE ah gt lf r 107 #[a]=inside (NK lf r a):=by kernel_rfl
def zE(lf:Nat)(r:RT):Nat->(V->M V)->V->V->V->V->M V
 |0,_,_,_,_,_=> .fail
 |fu+1,k,a,b,c,d=>bP a fun e=>bp d e fun f=>ak f (da a d fun e=>ay r 145 [c,e] fun g=>aA d (ii 1) fun c=>zE lf r fu k a b g c) (k c)
def W5:List Nat:=[0,2,3,4]
def HR(lf:Nat)(r:RT):(V->M V):=fun a=>cW (i3 4294967295) a fun b=>aj [b]
def HU(lf:Nat)(r:RT)(a:V):M V:=zE lf r lf (HR lf r) a (i3 0) (i3 4294967295) (ii 0)
theorem W6{lf:Nat}{r:RT}(K:KT):∀fu,zE lf r fu (fun a=>K (.exit 0) (zp [3] [a]))=fun a b c d=>bH (cQ 112 (pb 6 11) lf
 r) W5 fu (zp W5 [a,b,c,d]) K
 |0=>by funext a b c d;kernel_rfl
 |fu+1=>by
  have ih:=W6 (lf:=lf) (r:=r) K fu
  funext a b c d
  rw[zE]
  simp only[ih]
  kernel_rfl
theorem ahJ{lf:Nat}{r:RT}:HR lf r=(fun a=>(tK 112 (pb 5 11) lf r) (.exit 0) (zp [3] [a])):=by kernel_rfl
theorem W7{lf:Nat}{r:RT}{a:V}:aE ah gt lf r 112 #[a]=inside (HU lf r a):=by
 unfold HU
 simp only[ahJ,W6]
 kernel_rfl
def HV(lf:Nat)(r:RT):Nat->(V->M V)->V->V->V->M V
 |0,_,_,_,_=> .fail
 |fu+1,k,a,b,c=>bP a fun d=>gV d (ii 8) fun e=>ak e (bU a none (some (ii 8)) fun d=>ay r 63 [d] fun f=>dY .u8 f fun g=>cX 5 1 g fun h=>lU h
  fun i=>aA c i fun j=>bU a (some (ii 8)) none fun c=>HV lf r fu k c b j) (k c)
def W8:List Nat:=[0,2,3]
def W9(lf:Nat)(r:RT):(V->M V):=fun a=>aj [a]
def NL(lf:Nat)(r:RT)(a:V):M V:=HV lf r lf (W9 lf r) a (aV {data:=#[]}) (aV {data:=#[]})
theorem Xa{lf:Nat}{r:RT}(K:KT):∀fu,HV lf r fu (fun a=>K (.exit 0) (zp [3] [a]))=fun a b c=>bH (cQ 113 (pb 5 3)
 lf r) W8 fu (zp W8 [a,b,c]) K
 |0=>by funext a b c;kernel_rfl
 |fu+1=>by
  have ih:=Xa (lf:=lf) (r:=r) K fu
  funext a b c
  rw[HV]
  simp only[ih]
  kernel_rfl
theorem ahK{lf:Nat}{r:RT}:W9 lf r=(fun a=>(tK 113 (pb 4 3) lf r) (.exit 0) (zp [3] [a])):=by kernel_rfl
theorem ahL{lf:Nat}{r:RT}{a:V}:aE ah gt lf r 113 #[a]=inside (NL lf r a):=by
 unfold NL
 simp only[ahK,Xa]
 kernel_rfl
def HW(lf:Nat)(r:RT):Nat->(V->M V)->V->V->M V
 |0,_,_,_=> .fail
 |fu+1,k,a,b=>bP a fun c=>rF c (ii 8) fun d=>bz d (ii 0) fun e=>ak e (aA a (aV {data:=#[48]}) fun c=>HW lf r fu k c b) (k a)
def Xb:List Nat:=[0,2]
def Xc(lf:Nat)(r:RT):(V->M V):=fun a=>aj [a]
def NM(lf:Nat)(r:RT)(a:V):M V:=HW lf r lf (Xc lf r) a (aV {data:=#[]})
theorem Xd{lf:Nat}{r:RT}(K:KT):∀fu,HW lf r fu (fun a=>K (.exit 0) (zp [0] [a]))=fun a b=>bH (cQ 114 (pb 4 1)
 lf r) Xb fu (zp Xb [a,b]) K
 |0=>by funext a b;kernel_rfl
 |fu+1=>by
  have ih:=Xd (lf:=lf) (r:=r) K fu
  funext a b
  rw[HW]
  simp only[ih]
  kernel_rfl
theorem ahM{lf:Nat}{r:RT}:Xc lf r=(fun a=>(tK 114 (pb 3 1) lf r) (.exit 0) (zp [0] [a])):=by kernel_rfl
theorem ahN{lf:Nat}{r:RT}{a:V}:aE ah gt lf r 114 #[a]=inside (NM lf r a):=by
 unfold NM
 simp only[ahM,Xd]
 kernel_rfl
def Xe(lf:Nat)(r:RT)(a:V):M V:=pB a nP fun b=>ak b (az a fun c=>aq 260 c fun d=>ar d fun e=>az a fun f=>aq 0 f fun g=>
 ar g fun h=>bP h fun i=>fo (ii 3) i fun j=>aW e j fun l=>aj [l]) (aj [bF])
theorem ahO{lf:Nat}{r:RT}{a:V}:aE ah gt lf r 118 #[a]=inside (Xe lf r a):=by kernel_rfl
def Xf(lf:Nat)(r:RT)(a:V):M V:=di 134 zi fun b=>fT a nP fun c=>ak c (bB zi [] fun d=>aX 3 b d fun _=>bx 3 b fun a=>
 aj [a]) (az a fun d=>aq 5 d fun e=>bx 3 e fun f=>aX 3 b f fun _=>bx 3 b fun a=>aj [a])
theorem ahP{lf:Nat}{r:RT}{a:V}:aE ah gt lf r 121 #[a]=inside (Xf lf r a):=by kernel_rfl
def NN(lf:Nat)(r:RT)(a:V):M V:=az a fun b=>aq 1 b fun c=>ar c fun d=>az a fun e=>aq 0 e fun f=>ar f fun g=>bP g fun h=>
 aA d h fun i=>fo (ii 8) i fun j=>aj [j]
theorem Xg{lf:Nat}{r:RT}{a:V}:aE ah gt lf r 122 #[a]=inside (NN lf r a):=by kernel_rfl
def NO(lf:Nat)(r:RT)(a b:V):M V:=az a fun c=>aq 1 c fun d=>ar d fun e=>aW e (ii 0) fun c=>ak c (ay r 155 [a,b] fun d=>
 aj [(ii 0),d]) (aW e (ii 1) fun d=>ak d (ay r 156 [a,b] fun f=>aj [(ii 0),f]) (aW e (ii 2) fun f=>ak f (ay r 157 [a,b] fun g=>aP g 0 fun h=>
 aP g 1 fun i=>aj [h,i]) (ay r 158 [a,b] fun g=>aP g 0 fun h=>aP g 1 fun i=>aj [h,i])))
theorem Xh{lf:Nat}{r:RT}{a b:V}:aE ah gt lf r 123 #[a,b]=inside (NO lf r a b):=by kernel_rfl
def Xi(lf:Nat)(r:RT)(a:V):M V:=iD 134 a fun b=>aq 0 b fun c=>ar c fun d=>aq 1 b fun e=>ar e fun f=>ay r 159 [d,f] fun g=>aP g
 0 fun h=>aP g 1 fun i=>bz i (ii 0) fun c=>ak c (aj [(aV {data:=#[]}),i]) (ay r 160 [h] fun d=>aP d 0 fun e=>aP d 1 fun f=>bz f (ii
 0) fun d=>ak d (aj [(aV {data:=#[]}),(ii 25)]) ((aG (ay r 161 [e] M.ret)).bind fun g=>aq 2 b fun i=>(aG (ar i M.ret)).bind fun j=>
 bz g.1 j.1 fun l=>fV ((!(cT g.2 j.2)&&true)&&true) (ak l (aj [(aV {data:=#[]}),(ii 21)]) (aj [e,(ii 0)]))))
theorem ahQ{lf:Nat}{r:RT}{a:V}:aE ah gt lf r 124 #[a]=inside (Xi lf r a):=by kernel_rfl
def NP(lf:Nat)(r:RT)(a b c:V):M V:=iD 33 b fun d=>az a fun e=>aq 4 e fun f=>ar f fun g=>aq 2 d fun h=>aZ h g fun _=>aq
 3 d fun e=>aZ e c fun _=>az a fun e=>aq 3 e fun f=>ar f fun g=>bx 8 d fun h=>cX 33 8 h fun i=>dj 33 8 g i fun j=>az a fun l=>aq 3 l fun m=>
 aZ m j fun _=>az a fun e=>aq 4 e fun f=>aZ f c fun _=>aj []
theorem Xj{lf:Nat}{r:RT}{a b c:V}:aE ah gt lf r 125 #[a,b,c]=inside (NP lf r a b c):=by kernel_rfl
def NQ(lf:Nat)(r:RT)(a:V):M V:=fT a nP fun b=>ak b (aj [(ii 0)]) (az a fun c=>aq 2 c fun d=>ar d fun e=>aj [e])
theorem Xk{lf:Nat}{r:RT}{a:V}:aE ah gt lf r 126 #[a]=inside (NQ lf r a):=by kernel_rfl
def Xl(lf:Nat)(r:RT)(a b:V):M V:=pA a (i6 1) fun c=>tf a (i6 31) fun d=>rE c d fun e=>rE e b fun f=>aj [f]
theorem ahR{lf:Nat}{r:RT}{a b:V}:aE ah gt lf r 127 #[a,b]=inside (Xl lf r a b):=by kernel_rfl
def u6(lf:Nat)(r:RT):Nat->(V->V->V->V->V->V->M V)->V->V->V->V->V->V->V->V->V->V->V->M V
 |0,_,_,_,_,_,_,_,_,_,_,_,_=> .fail
 |fu+1,k,a,b,c,d,e,f,g,h,i,j,l=>bp l (ii 16) fun m=>ak m (aA c l fun n=>da a n fun o=>aW o (i1 49) fun p=>ak p (fo (ii 16) e fun n=>
  aA n l fun o=>dY .u8 o fun q=>cX 5 1 q fun s=>lU s fun t=>aA d t fun u=>aA l (ii 1) fun d=>u6 lf r fu k a b c u e f g h i j d) (aA
  l (ii 1) fun n=>u6 lf r fu k a b c d e f g h i j n)) (k a b c d f g)
def Xm:List Nat:=[0,2,3,4,5,9,11,12,17,22,24]
def NS(lf:Nat)(r:RT)(k:(V->V->V->M V)×(V->M V))(again:V->V->V->V->V->V->M V):(V->V->V->V->V->V->M V):=fun a b c d e f=>aA c (ii 16) fun g=>aA f (ii 1) fun c=>again a b g d e c
def wL(lf:Nat)(r:RT):Nat->((V->V->V->M V)×(V->M V))->V->V->V->V->V->V->M V
 |0,_,_,_,_,_,_,_=> .fail
 |fu+1,k,a,b,c,d,e,f=>bp f (ii 16) fun g=>ak g (da a f fun h=>bz h (i1 49) fun i=>ak i (aA f (ii 1) fun h=>wL lf r fu k a b c
  d e h) (bP a fun h=>aA c (ii 16) fun j=>bp h j fun l=>ak l (bB rM [(2,1,(ii 3))] fun h=>aX 3 b h fun _=>k.2 b) (u6 lf r lf
  (NS lf r k (wL lf r fu k)) a b c d f e f g i l (ii 0)))) (k.1 b c d)
def DW:List Nat:=[0,2,3,4,9,11]
def DX(lf:Nat)(r:RT):(V->V->V->M V)×(V->M V):=(fun a b c=>aW c (aV {data:=#[]}) fun d=>ak d (bB rM [(2,1,(ii 25))] fun
 e=>aX 3 a e fun _=>bx 3 a fun b=>aj [b]) (bB rM [(0,1,c),(1,1,b)] fun e=>aX 3 a e fun _=>bx 3 a fun b=>aj [b]),fun a=>bx 3 a fun b=>aj [b])
def NT(lf:Nat)(r:RT)(a:V):M V:=di 185 rM fun b=>bP a fun c=>bp c (ii 16) fun d=>ak d (bB rM [(2,1,(ii 3))] fun c=>aX 3 b
 c fun _=>bx 3 b fun a=>aj [a]) (wL lf r lf (DX lf r) a b (ii 16) (aV {data:=#[]}) d (ii 0))
theorem Xn{lf:Nat}{r:RT}(K:KT):∀fu,u6 lf r fu (fun a b c d e f=>K (.exit 2) (zp [0,2,3,4,9,11] [a,b,c,d,e,f]))
 =fun a b c d e f g h i j l=>bH (cQ 128 (pb 19 95023) lf r) Xm fu (zp Xm [a,b,c,d,e,f,g,h,i,j,l]) K
 |0=>by funext a b c d e f g h i j l;kernel_rfl
 |fu+1=>by
  have ih:=Xn (lf:=lf) (r:=r) K fu
  funext a b c d e f g h i j l
  rw[u6]
  simp only[ih]
  kernel_rfl
theorem ahS{lf:Nat}{r:RT}(K:KT)(fu:Nat):NS lf r ((fun a b c=>K (.exit 0) (zp [2,3,4] [a,b,c]),fun a=>K .ret (zp
 [2] [a]))) (fun a b c d e f=>bH (cQ 128 (pb 8 47) lf r) DW fu (zp DW [a,b,c,d,e,f]) K)=(fun a b c d e f=>(iK 128 (pb 8
 47) (pb 10 371) DW fu K lf r) (.exit 2) (zp [0,2,3,4,9,11] [a,b,c,d,e,f])):=by kernel_rfl
theorem Xo{lf:Nat}{r:RT}(K:KT):∀fu,wL lf r fu ((fun a b c=>K (.exit 0) (zp [2,3,4] [a,b,c]),fun a=>K .ret (zp [2]
 [a])))=fun a b c d e f=>bH (cQ 128 (pb 8 47) lf r) DW fu (zp DW [a,b,c,d,e,f]) K
 |0=>by funext a b c d e f;kernel_rfl
 |fu+1=>by
  have ih:=Xo (lf:=lf) (r:=r) K fu
  funext a b c d e f
  rw[wL]
  simp only[ih,ahS,Xn]
  kernel_rfl
theorem ahT{lf:Nat}{r:RT}:DX lf r=((fun a b c=>(tK 128 (pb 7 47) lf r) (.exit 0) (zp [2,3,4] [a,b,c]),fun a=>(tK 128
 (pb 7 47) lf r) .ret (zp [2] [a]))):=by kernel_rfl
theorem ahU{lf:Nat}{r:RT}{a:V}:aE ah gt lf r 128 #[a]=inside (NT lf r a):=by
 unfold NT
 simp only[ahT,Xo]
 kernel_rfl
def BJ(lf:Nat)(r:RT):Nat->(V->M V)->V->V->V->V->V->V->V->V->V->V->M V
 |0,_,_,_,_,_,_,_,_,_,_,_=> .fail
 |fu+1,k,a,b,c,d,e,f,g,h,i,j=>bO h fun l=>lT l (ii 50) fun m=>aq 0 e fun n=>ar n fun o=>bO o fun p=>gV m p fun q=>ak q (bB u5 [(3,
  1,(ii 25))] fun l=>aX 4 d l fun _=>k d) (aq 0 f fun l=>ar l fun m=>aq 0 e fun n=>ar n fun o=>bO h fun p=>lT p (ii 50) fun s=>dO o s fun t=>
  ar t fun u=>dO m u fun v=>ar v fun w=>bU a (some g) none fun l=>ay r 164 [w,l] fun m=>bp m (ii 0) fun l=>ak l (bB u5 [(3,1,(ii 3))] fun n=>
  aX 4 d n fun _=>k d) (bO h fun n=>aW n c fun o=>ak o (bB u5 [(3,1,(ii 2))] fun n=>aX 4 d n fun _=>k d) (dO w m fun n=>ar n fun p=>bP p fun
  s=>aA g s fun t=>cX 3 1 m fun g=>dj 3 1 h g fun n=>cW b (ii 1) fun g=>aW m g fun h=>ak h (aq 0 e fun g=>ar g fun p=>bO p fun s=>aq 1 e fun
  u=>ar u fun v=>fo v b fun x=>aA s x fun y=>bB u5 [(0,1,n),(1,1,t),(2,1,y)] fun z=>aX 4 d z fun _=>k d) (BJ lf r fu k a b c d e f t n i j))))
def Xp:List Nat:=[0,1,2,6,7,8,9,10,17,31]
def zF(lf:Nat)(r:RT):(V->M V):=fun a=>bx 4 a fun b=>aj [b]
def NU(lf:Nat)(r:RT)(a b c:V):M V:=di 188 u5 fun d=>ay r 162 [a] fun e=>di 224 rN fun f=>aX 5 f e fun _=>aq 4 f fun e=>ar
 e fun g=>bz g (ii 0) fun h=>ak h (aq 4 f fun e=>ar e fun g=>bB u5 [(3,1,g)] fun i=>aX 4 d i fun _=>bx 4 d fun a=>aj [a]) (aq 2 f fun e=>
 (aG (ar e M.ret)).bind fun g=>(aG (bU a (some g.1) none M.ret)).bind fun i=>aq 1 f fun j=>(aG (ar j M.ret)).bind fun l=>(aG (ay r 163 [i.1,
 l.1,b] M.ret)).bind fun m=>(aG (di 228 z228 M.ret)).bind fun n=>(aG (aX 3 n.1 m.1 M.ret)).bind fun o=>fV ((!(cT m.2 n.2)&&true)&&true) (aq 2
 n.1 fun e=>ar e fun g=>bz g (ii 0) fun i=>ak i (aq 2 n.1 fun e=>ar e fun g=>bB u5 [(3,1,g)] fun j=>aX 4 d j fun _=>bx 4 d fun a=>aj [a])
 (aq 2 f fun e=>ar e fun g=>aq 1 n.1 fun j=>ar j fun l=>aA g l fun m=>BJ lf r lf (zF lf r) a b c d f n.1 m nS h i)))
theorem Xq{lf:Nat}{r:RT}(K:KT):∀fu,BJ lf r fu (fun a=>K .ret (zp [6] [a]))=fun a b c d e f g h i j=>bH (cQ 129
 (pb 9 127) lf r) Xp fu (zp Xp [a,b,c,d,e,f,g,h,i,j]) K
 |0=>by funext a b c d e f g h i j;kernel_rfl
 |fu+1=>by
  have ih:=Xq (lf:=lf) (r:=r) K fu
  funext a b c d e f g h i j
  rw[BJ]
  simp only[ih]
  kernel_rfl
theorem ahV{lf:Nat}{r:RT}:zF lf r=(fun a=>(tK 129 (pb 8 127) lf r) .ret (zp [6] [a])):=by kernel_rfl
theorem ahW{lf:Nat}{r:RT}{a b c:V}:aE ah gt lf r 129 #[a,b,c]=inside (NU lf r a b c):=by
 unfold NU
 simp only[ahV,Xq]
 kernel_rfl
def zG(lf:Nat)(r:RT):Nat->((M V)×(V->M V))->V->V->V->V->V->V->V->V->M V
 |0,_,_,_,_,_,_,_,_,_=> .fail
 |fu+1,k,a,b,c,d,e,f,g,h=>bp h g fun i=>ak i (dO f h fun j=>ar j fun l=>bx 5 e fun j=>ay r 165 [j,l] fun m=>di 235 mz fun n=>aX 8 n
  m fun _=>aq 7 n fun j=>ar j fun m=>bz m (ii 0) fun o=>ak o (aq 7 n fun j=>ar j fun m=>k.2 m) (aq 0 n fun j=>bx 5 j fun m=>aX 5 e m fun _=>
  aA h (ii 1) fun j=>zG lf r fu k a b c d e f g j)) (k.1)
def Xr:List Nat:=[0,1,2,6,7,14,15,16]
def DY(lf:Nat)(r:RT):(M V)×(V->M V):=(aj [(ii 0)],fun a=>aj [a])
def NW(lf:Nat)(r:RT)(a b c:V):M V:=bB z233 [(0,1,b),(1,1,c)] fun d=>di 233 z233 fun e=>aX 5 e d fun _=>bO a fun d=>
 zG lf r lf (DY lf r) a b c (ii 0) e a d (ii 0)
theorem Xs{lf:Nat}{r:RT}(K:KT):∀fu,zG lf r fu ((K (.exit 0) [],fun a=>K .ret (zp [6] [a])))=fun a b c d e f g h=>
 bH (cQ 130 (pb 6 11) lf r) Xr fu (zp Xr [a,b,c,d,e,f,g,h]) K
 |0=>by funext a b c d e f g h;kernel_rfl
 |fu+1=>by
  have ih:=Xs (lf:=lf) (r:=r) K fu
  funext a b c d e f g h
  rw[zG]
  simp only[ih]
  kernel_rfl
theorem ahX{lf:Nat}{r:RT}:DY lf r=(((tK 130 (pb 5 11) lf r) (.exit 0) [],fun a=>(tK 130 (pb 5 11) lf r) .ret (zp [6] [a]))):=by kernel_rfl
theorem ahY{lf:Nat}{r:RT}{a b c:V}:aE ah gt lf r 130 #[a,b,c]=inside (NW lf r a b c):=by
 unfold NW
 simp only[ahX,Xs]
 kernel_rfl
def BK(lf:Nat)(r:RT):Nat->((V->M V)×(V->M V))->V->V->V->V->V->V->V->V->V->M V
 |0,_,_,_,_,_,_,_,_,_,_=> .fail
 |fu+1,k,a,b,c,d,e,f,g,h,i=>bO g fun j=>lT j (ii 50) fun l=>aq 0 d fun m=>ar m fun n=>bO n fun o=>bp l o fun p=>ak p (aq 0 e fun j=>
  ar j fun l=>aq 0 d fun m=>ar m fun n=>bO g fun o=>lT o (ii 50) fun q=>dO n q fun s=>ar s fun t=>dO l t fun u=>ar u fun v=>bU a (some f)
  none fun j=>ay r 164 [v,j] fun l=>bp l (ii 0) fun j=>ak j (k.2 g) (dO v l fun m=>ar m fun n=>bP n fun o=>aA f o fun q=>cX 3 1 l fun f=>dj 3
  1 g f fun m=>cW b (ii 1) fun f=>aW l f fun g=>ak g (k.2 m) (BK lf r fu k a b c d e q m h i))) (k.1 g)
def Xt:List Nat:=[0,1,4,5,6,7,8,15,26]
def BL(lf:Nat)(r:RT):(V->M V)×(V->M V):=(fun a=>aj [a],fun a=>aj [a])
def NX(lf:Nat)(r:RT)(a b:V):M V:=ay r 162 [a] fun c=>di 224 rN fun d=>aX 5 d c fun _=>aq 4 d fun c=>ar c fun e=>bz e (ii 0)
 fun f=>ak f (aj [nS]) (aq 2 d fun c=>(aG (ar c M.ret)).bind fun e=>(aG (bU a (some e.1) none M.ret)).bind fun g=>aq 1 d fun h=>(aG (ar h
 M.ret)).bind fun i=>(aG (ay r 163 [g.1,i.1,b] M.ret)).bind fun j=>(aG (di 228 z228 M.ret)).bind fun l=>(aG (aX 3 l.1 j.1 M.ret)).bind fun m=>fV
 ((!(cT j.2 l.2)&&true)&&true) (aq 2 l.1 fun c=>ar c fun e=>bz e (ii 0) fun g=>ak g (aj [nS]) (aq 2 d fun c=>ar c fun e=>aq 1 l.1 fun h=>
 ar h fun i=>aA e i fun j=>BK lf r lf (BL lf r) a b nS d l.1 j nS f g)))
theorem Xu{lf:Nat}{r:RT}(K:KT):∀fu,BK lf r fu ((fun a=>K (.exit 0) (zp [8] [a]),fun a=>K .ret (zp [4] [a])))=fun a
 b c d e f g h i=>bH (cQ 131 (pb 10 127) lf r) Xt fu (zp Xt [a,b,c,d,e,f,g,h,i]) K
 |0=>by funext a b c d e f g h i;kernel_rfl
 |fu+1=>by
  have ih:=Xu (lf:=lf) (r:=r) K fu
  funext a b c d e f g h i
  rw[BK]
  simp only[ih]
  kernel_rfl
theorem ahZ{lf:Nat}{r:RT}:BL lf r=((fun a=>(tK 131 (pb 9 127) lf r) (.exit 0) (zp [8] [a]),fun a=>(tK 131 (pb 9 127) lf r) .ret (zp [4] [a]))):=by kernel_rfl
theorem ah0{lf:Nat}{r:RT}{a b:V}:aE ah gt lf r 131 #[a,b]=inside (NX lf r a b):=by
 unfold NX
 simp only[ahZ,Xu]
 kernel_rfl
def zH(lf:Nat)(r:RT):Nat->(V->V->V->V->V->V->V->V->V->V->V->V->M V)->V->V->V->V->V->V->V->V->V->V->V->V->V->V->V->V->V->V->M V
 |0,_,_,_,_,_,_,_,_,_,_,_,_,_,_,_,_,_,_,_=> .fail
 |fu+1,k,a,b,c,d,e,f,g,h,i,j,l,m,n,o,p,q,s,t=>bp t s fun u=>ak u (cX 3 1 (ii 0) fun v=>dj 3 1 g v fun w=>aA t (ii 1) fun g=>
  zH lf r fu k a b c d e f w h i j l m n o p q s g) (k a b c d e f g i j l m n)
def Xv:List Nat:=[0,1,2,6,7,8,9,11,12,26,30,31,32,33,41,44,48,49]
def HX(lf:Nat)(r:RT)(k:(V->V->M V)×(V->V->M V))(again:V->V->V->V->V->V->V->V->V->V->V->M V):(V->V->V->V->V->V->V->V->V->V->V->V->M V):=fun a b c d e f g h i j
 l m=>aq 6 h fun n=>ar n fun o=>gV o (ii 0) fun p=>(fun n=>ak p (aq 6 h fun o=>ar o fun q=>cX 3 1 q fun s=>dj 3 1 g s fun t=>n t) (n g)) fun g
 =>aq 0 h fun n=>bx 5 n fun o=>aX 5 f o fun _=>aA m (ii 1) fun n=>again a b c d e f g i j l n
def u7(lf:Nat)(r:RT):Nat->((V->V->M V)×(V->V->M V))->V->V->V->V->V->V->V->V->V->V->V->M V
 |0,_,_,_,_,_,_,_,_,_,_,_,_=> .fail
 |fu+1,k,a,b,c,d,e,f,g,h,i,j,l=>bp l j fun m=>ak m (dO i l fun n=>ar n fun o=>bx 5 f fun n=>ay r 165 [n,o] fun p=>di 235 mz fun q
  =>aX 8 q p fun _=>aq 7 q fun n=>ar n fun p=>aW p (ii 7) fun s=>ak s (k.2 nS (ii 25)) (aq 7 q fun n=>ar n fun p=>bz p (ii 0) fun t=>ak t (aq 7
  q fun n=>ar n fun p=>k.2 nS p) (aq 5 q fun n=>ar n fun p=>zH lf r lf (HX lf r k (u7 lf r fu k)) a
  b c d e f g o q h i j l m s t p (ii 0)))) (k.1 f g)
def DZ:List Nat:=[0,1,2,6,7,8,9,26,30,31,32]
abbrev Xw(lf:Nat)(r:RT)(fu:Nat)(k:(V->V->M V)×(V->V->M V)):(V->V->V->V->V->V->V->V->V->V->V->V->M V):=HX lf r k (u7 lf r fu k)
def BM(lf:Nat)(r:RT):(V->V->M V)×(V->V->M V):=(fun a b=>aq 4 a fun c=>ar c fun d=>hX d fun e=>ak e (aj [nS,(ii 24)]) (aj [b,(ii 0)]),fun a b=>aj [a,b])
def NY(lf:Nat)(r:RT)(a b c:V):M V:=bp b (ii 1) fun d=>ak d (aj [nS,(ii 1)]) (dJ b (ii 256) fun e=>ak e (aj [nS,(ii 1)]) (bp
 c (ii 0) fun f=>ak f (aj [nS,(ii 1)]) (dJ c (ii 1099511627776) fun g=>ak g (aj [nS,(ii 1)]) (bB z233 [(0,1,b),(1,1,c)] fun d=>di 233 z233 fun e
 =>aX 5 e d fun _=>bO a fun d=>u7 lf r lf (BM lf r) a b c nS (ii 0) e nS g a d (ii 0)))))
theorem Xx{lf:Nat}{r:RT}(K:KT):∀fu,zH lf r fu (fun a b c d e f g h i j l m=>K (.exit 2) (zp [0,1,2,6,7,8,9,
 12,26,30,31,32] [a,b,c,d,e,f,g,h,i,j,l,m]))=fun a b c d e f g h i j l m n o p q s t=>bH (cQ 132 (pb 20 193327) lf r) Xv fu (zp
 Xv [a,b,c,d,e,f,g,h,i,j,l,m,n,o,p,q,s,t]) K
 |0=>by funext a b c d e f g h i j l m n o p q s t;kernel_rfl
 |fu+1=>by
  have ih:=Xx (lf:=lf) (r:=r) K fu
  funext a b c d e f g h i j l m n o p q s t
  rw[zH]
  simp only[ih]
  kernel_rfl
theorem ah1{lf:Nat}{r:RT}(K:KT)(fu:Nat):HX lf r ((fun a b=>K (.exit 0) (zp [8,9] [a,b]),fun a b=>K .ret (zp [6,
 7] [a,b]))) (fun a b c d e f g h i j l=>bH (cQ 132 (pb 8 47) lf r) DZ fu (zp DZ [a,b,c,d,e,f,g,h,i,j,l]) K)=(fun
 a b c d e f g h i j l m=>(iK 132 (pb 8 47) (pb 11 755) DZ fu K lf r) (.exit 2) (zp [0,1,2,6,7,8,9,12,26,30,31,32] [a,b,c,d,e,f,g,h,i,j,l,m])):=by kernel_rfl
theorem Xy{lf:Nat}{r:RT}(K:KT):∀fu,u7 lf r fu ((fun a b=>K (.exit 0) (zp [8,9] [a,b]),fun a b=>K .ret (zp [6,
 7] [a,b])))=fun a b c d e f g h i j l=>bH (cQ 132 (pb 8 47) lf r) DZ fu (zp DZ [a,b,c,d,e,f,g,h,i,j,l]) K
 |0=>by funext a b c d e f g h i j l;kernel_rfl
 |fu+1=>by
  have ih:=Xy (lf:=lf) (r:=r) K fu
  funext a b c d e f g h i j l
  rw[u7]
  simp only[ih,ah1,Xx]
  kernel_rfl
theorem ah2{lf:Nat}{r:RT}:BM lf r=((fun a b=>(tK 132 (pb 7 47) lf r) (.exit 0) (zp [8,9] [a,b]),fun a b=>(tK 132
 (pb 7 47) lf r) .ret (zp [6,7] [a,b]))):=by kernel_rfl
theorem ah3{lf:Nat}{r:RT}{a b c:V}:aE ah gt lf r 132 #[a,b,c]=inside (NY lf r a b c):=by
 unfold NY
 simp only[ah2,Xy]
 kernel_rfl
def zI(lf:Nat)(r:RT):Nat->((V->M V)×(V->V->M V))->V->V->V->V->V->V->V->V->V->V->M V
 |0,_,_,_,_,_,_,_,_,_,_,_=> .fail
 |fu+1,k,a,b,c,d,e,f,g,h,i,j=>bp j i fun l=>ak l (dO h j fun m=>ar m fun n=>bp n (ii 0) fun m=>ak m (k.2 (aV {data:=#[]})
  (ii 1)) (bP f fun o=>gV n o fun p=>ak p (k.2 (aV {data:=#[]}) (ii 1)) (aA n (ii 1) fun m=>bU f (some n) (some m) fun o=>aA e o fun q=>
  ay r 167 [f,n] fun e=>aA j (ii 1) fun f=>zI lf r fu k a b c d q e g h i f))) (k.1 e)
def Xz:List Nat:=[0,1,4,5,6,7,12,14,15,16]
def HY(lf:Nat)(r:RT):(V->M V)×(V->V->M V):=(fun a=>aj [a,(ii 0)],fun a b=>aj [a,b])
def NZ(lf:Nat)(r:RT)(a b:V):M V:=ay r 166 [b] fun c=>hX c fun d=>ak d (aj [(aV {data:=#[]}),(ii 1)]) (bO a fun c
 =>zI lf r lf (HY lf r) a b (aV {data:=#[]}) (ii 0) (aV {data:=#[]}) b d a c (ii 0))
theorem XA{lf:Nat}{r:RT}(K:KT):∀fu,zI lf r fu ((fun a=>K (.exit 0) (zp [6] [a]),fun a b=>K .ret (zp [4,5] [a,
 b])))=fun a b c d e f g h i j=>bH (cQ 133 (pb 8 47) lf r) Xz fu (zp Xz [a,b,c,d,e,f,g,h,i,j]) K
 |0=>by funext a b c d e f g h i j;kernel_rfl
 |fu+1=>by
  have ih:=XA (lf:=lf) (r:=r) K fu
  funext a b c d e f g h i j
  rw[zI]
  simp only[ih]
  kernel_rfl
theorem ah4{lf:Nat}{r:RT}:HY lf r=((fun a=>(tK 133 (pb 7 47) lf r) (.exit 0) (zp [6] [a]),fun a b=>(tK 133 (pb 7 47)
 lf r) .ret (zp [4,5] [a,b]))):=by kernel_rfl
theorem ah5{lf:Nat}{r:RT}{a b:V}:aE ah gt lf r 133 #[a,b]=inside (NZ lf r a b):=by
 unfold NZ
 simp only[ah4,XA]
 kernel_rfl
def zJ(lf:Nat)(r:RT):Nat->(V->V->V->V->M V)->V->V->V->V->V->V->V->V->V->V->M V
 |0,_,_,_,_,_,_,_,_,_,_,_=> .fail
 |fu+1,k,a,b,c,d,e,f,g,h,i,j=>bp j i fun l=>ak l (bU a none (some (ii 1)) fun m=>aA d m fun n=>aA j (ii 1) fun d=>zJ lf r fu k a b c n e f g h i d) (k a b c d)
def XB:List Nat:=[0,2,3,4,7,10,19,22,26,27]
def HZ(lf:Nat)(r:RT)(k:(V->M V)×(V->V->M V))(again:V->V->V->V->M V):(V->V->V->V->M V):=fun a b c d=>bU a (some (ii 5)) none fun e=>again e b c d
def tr(lf:Nat)(r:RT):Nat->((V->M V)×(V->V->M V))->V->V->V->V->M V
 |0,_,_,_,_,_=> .fail
 |fu+1,k,a,b,c,d=>bP a fun e=>dJ e (ii 0) fun f=>ak f (ay r 168 [a] fun e=>hX e fun g=>ak g (bU a none (some (ii 1)) fun e=>aA d e fun h=>
  bU a (some (ii 1)) none fun d=>tr lf r fu k d b c h) (bP a fun e=>aW e (ii 4) fun h=>ak h (k.2 (aV {data:=#[]}) (ii 24))
  (da a (ii 4) fun e=>dJ e (i1 251) fun i=>ak i (k.2 (aV {data:=#[]}) (ii 25)) (da a (ii 4) fun e=>dY .i64 e fun j=>aA (ii 4) j fun l=>
  zJ lf r lf (HZ lf r k (tr lf r fu k)) a b c d f g h i l (ii 0))))) (k.1 d)
def D0:List Nat:=[0,2,3,4]
abbrev XC(lf:Nat)(r:RT)(fu:Nat)(k:(V->M V)×(V->V->M V)):(V->V->V->V->M V):=HZ lf r k (tr lf r fu k)
def wM(lf:Nat)(r:RT):(V->M V)×(V->V->M V):=(fun a=>aj [a,(ii 0)],fun a b=>aj [a,b])
def N0(lf:Nat)(r:RT)(a:V):M V:=tr lf r lf (wM lf r) a (aV {data:=#[]}) (ii 0) (aV {data:=#[]})
theorem XD{lf:Nat}{r:RT}(K:KT):∀fu,zJ lf r fu (fun a b c d=>K (.exit 2) (zp [0,2,3,4] [a,b,c,d]))=fun a b c
 d e f g h i j=>bH (cQ 134 (pb 14 2979) lf r) XB fu (zp XB [a,b,c,d,e,f,g,h,i,j]) K
 |0=>by funext a b c d e f g h i j;kernel_rfl
 |fu+1=>by
  have ih:=XD (lf:=lf) (r:=r) K fu
  funext a b c d e f g h i j
  rw[zJ]
  simp only[ih]
  kernel_rfl
theorem ah6{lf:Nat}{r:RT}(K:KT)(fu:Nat):HZ lf r ((fun a=>K (.exit 0) (zp [4] [a]),fun a b=>K .ret (zp [2,3] [a,
 b]))) (fun a b c d=>bH (cQ 134 (pb 5 3) lf r) D0 fu (zp D0 [a,b,c,d]) K)=(fun a b c d=>(iK 134 (pb 5 3) (pb 8 93)
 D0 fu K lf r) (.exit 2) (zp [0,2,3,4] [a,b,c,d])):=by kernel_rfl
theorem XE{lf:Nat}{r:RT}(K:KT):∀fu,tr lf r fu ((fun a=>K (.exit 0) (zp [4] [a]),fun a b=>K .ret (zp [2,3] [a,
 b])))=fun a b c d=>bH (cQ 134 (pb 5 3) lf r) D0 fu (zp D0 [a,b,c,d]) K
 |0=>by funext a b c d;kernel_rfl
 |fu+1=>by
  have ih:=XE (lf:=lf) (r:=r) K fu
  funext a b c d
  rw[tr]
  simp only[ih,ah6,XD]
  kernel_rfl
theorem ah7{lf:Nat}{r:RT}:wM lf r=((fun a=>(tK 134 (pb 4 3) lf r) (.exit 0) (zp [4] [a]),fun a b=>(tK 134 (pb 4 3) lf
 r) .ret (zp [2,3] [a,b]))):=by kernel_rfl
theorem ah8{lf:Nat}{r:RT}{a:V}:aE ah gt lf r 134 #[a]=inside (N0 lf r a):=by
 unfold N0
 simp only[ah7,XE]
 kernel_rfl
def zK(lf:Nat)(r:RT):Nat->(V->M V)->V->V->V->V->V->V->V->V->M V
 |0,_,_,_,_,_,_,_,_,_=> .fail
 |fu+1,k,a,b,c,d,e,f,g,h=>bp h g fun i=>ak i (dO d f fun j=>ar j fun l=>aA l (ii 1) fun f=>bU a (some l) (some f) fun j=>aA e j fun m=>
  aA h (ii 1) fun e=>zK lf r fu k a b c d m l g e) (k e)
def XF:List Nat:=[0,1,4,5,6,7,12,13]
def H2(lf:Nat)(r:RT):(V->M V):=fun a=>aj [a]
def N1(lf:Nat)(r:RT)(a b:V):M V:=ay r 169 [a] fun c=>bP a fun d=>zK lf r lf (H2 lf r) a b (aV {
 data:=#[]}) c (aV {data:=#[]}) b d (ii 0)
theorem XG{lf:Nat}{r:RT}(K:KT):∀fu,zK lf r fu (fun a=>K (.exit 0) (zp [6] [a]))=fun a b c d e f g h=>bH (cQ 135 (pb 8
 47) lf r) XF fu (zp XF [a,b,c,d,e,f,g,h]) K
 |0=>by funext a b c d e f g h;kernel_rfl
 |fu+1=>by
  have ih:=XG (lf:=lf) (r:=r) K fu
  funext a b c d e f g h
  rw[zK]
  simp only[ih]
  kernel_rfl
theorem ah9{lf:Nat}{r:RT}:H2 lf r=(fun a=>(tK 135 (pb 7 47) lf r) (.exit 0) (zp [6] [a])):=by kernel_rfl
theorem ah'{lf:Nat}{r:RT}{a b:V}:aE ah gt lf r 135 #[a,b]=inside (N1 lf r a b):=by
 unfold N1
 simp only[ah9,XG]
 kernel_rfl
def wN(lf:Nat)(r:RT):Nat->(V->M V)->V->V->V->V->M V
 |0,_,_,_,_,_=> .fail
 |fu+1,k,a,b,c,d=>bp d (ii 256) fun e=>ak e (ay r 172 [a,d] fun f=>ak f (dY .u8 d fun g=>cX 5 1 g fun h=>lU h fun i=>aA c i fun j=>aA d
  (ii 1) fun c=>wN lf r fu k a b j c) (aA d (ii 1) fun g=>wN lf r fu k a b c g)) (k c)
def XH:List Nat:=[0,2,3,5]
def H3(lf:Nat)(r:RT):(V->M V):=fun a=>aj [a]
def N2(lf:Nat)(r:RT)(a:V):M V:=wN lf r lf (H3 lf r) a (aV {data:=#[]}) (aV {data:=#[]}) (ii 0)
theorem XI{lf:Nat}{r:RT}(K:KT):∀fu,wN lf r fu (fun a=>K (.exit 0) (zp [3] [a]))=fun a b c d=>bH (cQ 140 (pb
 6 11) lf r) XH fu (zp XH [a,b,c,d]) K
 |0=>by funext a b c d;kernel_rfl
 |fu+1=>by
  have ih:=XI (lf:=lf) (r:=r) K fu
  funext a b c d
  rw[wN]
  simp only[ih]
  kernel_rfl
theorem ah_{lf:Nat}{r:RT}:H3 lf r=(fun a=>(tK 140 (pb 5 11) lf r) (.exit 0) (zp [3] [a])):=by kernel_rfl
theorem aia{lf:Nat}{r:RT}{a:V}:aE ah gt lf r 140 #[a]=inside (N2 lf r a):=by
 unfold N2
 simp only[ah_,XI]
 kernel_rfl
def N3(lf:Nat)(r:RT)(a b:V):M V:=dY .u32 b fun c=>fo c (i3 16777216) fun d=>rE a d fun e=>ay r 179 [e] fun f=>aj [f]
theorem XJ{lf:Nat}{r:RT}{a b:V}:aE ah gt lf r 145 #[a,b]=inside (N3 lf r a b):=by kernel_rfl
def zL(lf:Nat)(r:RT):Nat->(V->V->M V)->V->V->V->V->V->M V
 |0,_,_,_,_,_,_=> .fail
 |fu+1,k,a,b,c,d,e=>ay r 118 [a] fun f=>hX f fun g=>ak g (az a fun h=>aq 260 h fun i=>ar i fun j=>cW j d fun l=>bp l b fun m=>ak m
  (ay r 181 [a] fun f=>zL lf r fu k a b c d e) (k a d)) (k a d)
def XK:List Nat:=[0,1,4,5,7]
def D1(lf:Nat)(r:RT):(V->V->M V):=fun a b=>az a fun c=>aq 260 c fun d=>ar d fun e=>cW e b fun f=>aj [f]
def N4(lf:Nat)(r:RT)(a b:V):M V:=fT a nP fun c=>ak c (aj [(ii 0)]) (az a fun d=>aq 260 d fun e=>ar e fun f=>
 zL lf r lf (D1 lf r) a b (ii 0) f c)
theorem XL{lf:Nat}{r:RT}(K:KT):∀fu,zL lf r fu (fun a b=>K (.exit 0) (zp [0,5] [a,b]))=fun a b c d e=>bH
 (cQ 147 (pb 6 7) lf r) XK fu (zp XK [a,b,c,d,e]) K
 |0=>by funext a b c d e;kernel_rfl
 |fu+1=>by
  have ih:=XL (lf:=lf) (r:=r) K fu
  funext a b c d e
  rw[zL]
  simp only[ih]
  kernel_rfl
theorem aib{lf:Nat}{r:RT}:D1 lf r=(fun a b=>(tK 147 (pb 5 7) lf r) (.exit 0) (zp [0,5] [a,b])):=by kernel_rfl
theorem aic{lf:Nat}{r:RT}{a b:V}:aE ah gt lf r 147 #[a,b]=inside (N4 lf r a b):=by
 unfold N4
 simp only[aib,XL]
 kernel_rfl
def XM(lf:Nat)(r:RT)(a:V):M V:=fT a nP fun b=>ak b (aj [(aV {data:=#[]})]) (az a fun c=>aq 259 c fun d=>ar d
 fun e=>lU e fun f=>az a fun c=>aq 259 c fun d=>aZ d nS fun _=>aj [f])
theorem aid{lf:Nat}{r:RT}{a:V}:aE ah gt lf r 148 #[a]=inside (XM lf r a):=by kernel_rfl
def zM(lf:Nat)(r:RT):Nat->(M V)->V->V->V->V->M V
 |0,_,_,_,_,_=> .fail
 |fu+1,k,a,b,c,d=>bp d c fun e=>ak e (da b d fun f=>ay r 184 [a,f] fun g=>aA d (ii 1) fun f=>zM lf r fu k a b c f) (k)
def XN:List Nat:=[0,1,6,7]
def H4(lf:Nat)(r:RT):(M V):=aj []
def N5(lf:Nat)(r:RT)(a b:V):M V:=bP b fun c=>zM lf r lf (H4 lf r) a b c (ii 0)
theorem XO{lf:Nat}{r:RT}(K:KT):∀fu,zM lf r fu (K (.exit 0) [])=fun a b c d=>bH (cQ 150 (pb 3 1) lf r) XN fu (zp XN [a,b,c,d]) K
 |0=>by funext a b c d;kernel_rfl
 |fu+1=>by
  have ih:=XO (lf:=lf) (r:=r) K fu
  funext a b c d
  rw[zM]
  simp only[ih]
  kernel_rfl
theorem aie{lf:Nat}{r:RT}:H4 lf r=((tK 150 (pb 2 1) lf r) (.exit 0) []):=by kernel_rfl
theorem aif{lf:Nat}{r:RT}{a b:V}:aE ah gt lf r 150 #[a,b]=inside (N5 lf r a b):=by
 unfold N5
 simp only[aie,XO]
 kernel_rfl
def XP(lf:Nat)(r:RT)(a b:V):M V:=aW a (aV {data:=#[]}) fun c=>ak c (aj [nP,(ii 1)]) (bP a fun d=>dJ d (ii 900000) fun e=>
 ak e (aj [nP,(ii 2)]) (bp b (ii 0) fun d=>ak d (aj [nP,(ii 23)]) (bP a fun f=>gV b f fun g=>ak g (aj [nP,(ii 23)]) (bP a fun d=>uW 3 [(ii 0)]
 d d fun f=>bB Na [(0,1,a),(257,1,f),(258,1,b)] fun h=>iD 176 h fun i=>aj [i,(ii 0)]))))
theorem aih{lf:Nat}{r:RT}{a b:V}:aE ah gt lf r 152 #[a,b]=inside (XP lf r a b):=by kernel_rfl
def XQ(lf:Nat)(r:RT):M V:=ay r 187 [] fun a=>bB Vf [(0,256,a),(256,1,(i3 4294967295))] fun b=>iD 260 b fun c=>aj [c]
theorem aii{lf:Nat}{r:RT}:aE ah gt lf r 154 #[]=inside (XQ lf r):=by kernel_rfl
def N6(lf:Nat)(r:RT)(a b:V):M V:=ay r 188 [b,(ii 8)] fun c=>aP c 0 fun d=>aP c 1 fun e=>bz e (ii 0) fun c=>ak c (aj
 [e]) (az a fun f=>aq 2 f fun g=>ar g fun h=>bp h (ii 3) fun i=>ak i (az a fun f=>aq 2 f fun g=>ar g fun h=>da (aV {data:=#[66,90,
 104]}) h fun j=>dY .u32 j fun l=>bz d l fun m=>ak m (aj [(ii 20)]) (az a fun f=>aq 2 f fun g=>ar g fun h=>aA h (ii 1) fun j=>az a fun l=>aq
 2 l fun n=>aZ n j fun _=>aj [(ii 0)])) (bp d (i3 49) fun f=>ak f (aj [(ii 20)]) (dJ d (i3 57) fun g=>ak g (aj [(ii 20)]) (cW d (i3 48) fun f=>dY
 .i64 f fun h=>az a fun j=>aq 3 j fun l=>aZ l h fun _=>az a fun f=>aq 2 f fun h=>aZ h (ii 0) fun _=>az a fun f=>aq 8 f fun h=>aZ h (i3 0) fun
 _=>az a fun f=>aq 1 f fun h=>aZ h (ii 1) fun _=>aj [(ii 0)]))))
theorem XR{lf:Nat}{r:RT}{a b:V}:aE ah gt lf r 155 #[a,b]=inside (N6 lf r a b):=by kernel_rfl
def H5(lf:Nat)(r:RT)(a b:V):M V:=ay r 98 [b] fun c=>bp c (ii 48) fun d=>ak d (aj [(ii 3)]) (ay r 188 [b,(ii 24)] fun c=>aP c 0 fun e=>aP c 1 fun f=>ay r 188 [b,(ii 24)] fun c=>aP c 0 fun f=>aP c 1 fun g=>dY .u64 e fun c=>pA c (i6 24) fun g=>dY .u64 f fun h=>DB g h fun i=>aW i (i6 54156738319193) fun c=>ak c (az a fun g=>aq 3 g fun h=>ar h fun j=>az a fun l=>aq 0 l fun m=>ar m fun n=>fo j n fun o=>ay r 189 [o] fun p=>aP p 0 fun q=>aP p 1 fun s=>az a fun g=>aq 4 g fun h=>aZ h q fun _=>az a fun g=>aq 1 g fun h=>aZ h (ii 2) fun _=>aj [s]) (aW i (i6 25779555029136) fun g=>ak g (az a fun h=>aq 1 h fun j=>aZ j (ii 3) fun _=>aj [(ii 0)]) (aj [(ii 20)])))
section
variable (lf:Nat) (r:RT) (a b c d e f i:V) (k:Ex->Fr->M V)
theorem aij(x y:Code)(s:Fr)(G:Hint):jG ah r G lf (.seq x y) s k=jG ah r G lf x s (DF (fun s1 k1=>jG ah r G lf y s1 k1) k):=rfl
theorem aik(kb:Fr->(Ex->Fr->M V)->M V)(s:Fr):DF kb k .normal s=kb s k:=rfl
theorem ail(kb:Fr->(Ex->Fr->M V)->M V)(s:Fr):DF kb k .ret s=k .ret s:=rfl
theorem aim(v:V):Hh ah (ME ah 156) .ret [(4,v)]=aj [v]:=by kernel_rfl
theorem ain:fJ (gW ah 156) []= .seq (fJ (gW ah 156) [false]) (fJ (gW ah 156) [true]):=by kernel_rfl
theorem aio:fJ (gW ah 156) [true]= .seq (fJ (gW ah 156) [true,false]) (fJ (gW ah 156) [true,true]):=by kernel_rfl
theorem aip:fJ (gW ah 156) [true,true]= .seq (fJ (gW ah 156) [true,true,false]) (fJ (gW ah 156) [true,true,true]):=by kernel_rfl
theorem aiq:fJ (gW ah 156) [true,true,true]= .seq (fJ (gW ah 156) [true,true,true,false]) (fJ (gW ah 156) [true,true,true,true]):=by kernel_rfl
theorem air:fJ (gW ah 156) [true,true,true,true]= .seq (fJ (gW ah 156) [true,true,true,true,false]) (fJ (gW ah 156) [true,true,true,true,true]):=by kernel_rfl
theorem ais:fJ (gW ah 156) [true,true,true,true,false]= .seq (fJ (gW ah 156) [true,true,true,true,false,false]) (fJ (gW ah 156) [true,true,true,true,false,true]):=by kernel_rfl
theorem ait:jG ah r (gt 156) lf (fJ (gW ah 156) [false]) [(0,a),(1,b)] k=k .normal [(0,a),(1,b),(4,ii 0)]:=by kernel_rfl
theorem aiu:jG ah r (gt 156) lf (fJ (gW ah 156) [true,false]) [(0,a),(1,b),(4,ii 0)] k=ay r 98 [b] fun c=>bp c (ii 48) fun d=>ak d (k .ret [(4,ii 3)]) (k .normal [(0,a),(1,b),(4,ii 0),(13,d)]):=by kernel_rfl
theorem aiv:jG ah r (gt 156) lf (fJ (gW ah 156) [true,true,false]) [(0,a),(1,b),(4,ii 0),(13,d)] k=ay r 188 [b,(ii 24)] fun c=>aP c 0 fun e=>aP c 1 fun f=>k .normal [(0,a),(1,b),(4,ii 0),(5,e),(13,d)]:=by kernel_rfl
theorem aiw:jG ah r (gt 156) lf (fJ (gW ah 156) [true,true,true,false]) [(0,a),(1,b),(4,ii 0),(5,e),(13,d)] k=ay r 188 [b,(ii 24)] fun c=>aP c 0 fun f=>aP c 1 fun g=>k .normal [(0,a),(1,b),(4,ii 0),(5,e),(7,f),(13,d)]:=by kernel_rfl
theorem aix:jG ah r (gt 156) lf (fJ (gW ah 156) [true,true,true,true,false,false]) [(0,a),(1,b),(4,ii 0),(5,e),(7,f),(13,d)] k=dY .u64 e fun c=>pA c (i6 24) fun g=>dY .u64 f fun h=>DB g h fun i=>k .normal [(0,a),(1,b),(4,ii 0),(5,e),(7,f),(13,d),(29,i)]:=by kernel_rfl
theorem aiy:jG ah r (gt 156) lf (fJ (gW ah 156) [true,true,true,true,false,true]) [(0,a),(1,b),(4,ii 0),(5,e),(7,f),(13,d),(29,i)] k=aW i (i6 54156738319193) fun c=>ak c (az a fun g=>aq 3 g fun h=>ar h fun j=>az a fun l=>aq 0 l fun m=>ar m fun n=>fo j n fun o=>ay r 189 [o] fun p=>aP p 0 fun q=>aP p 1 fun s=>az a fun g=>aq 4 g fun h=>aZ h q fun _=>az a fun g=>aq 1 g fun h=>aZ h (ii 2) fun _=>k .ret [(4,s)]) (aW i (i6 25779555029136) fun g=>ak g (az a fun h=>aq 1 h fun j=>aZ j (ii 3) fun _=>k .ret [(4,(ii 0))]) (k .normal [(0,a),(1,b),(4,ii 0),(5,e),(7,f),(13,d),(29,i),(30,c),(53,g)])):=by kernel_rfl
theorem aiz(c g:V):jG ah r (gt 156) lf (fJ (gW ah 156) [true,true,true,true,true]) [(0,a),(1,b),(4,ii 0),(5,e),(7,f),(13,d),(29,i),(30,c),(53,g)] k=k .ret [(4,ii 20)]:=by kernel_rfl
theorem aiA:aE ah gt lf r 156 #[a,b]=inside (jG ah r (gt 156) lf (fJ (gW ah 156) []) [(0,a),(1,b)] (Hh ah (ME ah 156))):=by kernel_rfl
end
theorem XS{lf:Nat}{r:RT}{a b:V}:aE ah gt lf r 156 #[a,b]=inside (H5 lf r a b):=by
 rw[aiA]
 unfold H5
 simp-implicitDefEqProofs only[ain,aio,aip,aiq,air,ais,aij,ait,aiu,aiv,aiw,aix,aiy,aiz,aik,ail,aim]
def XT(lf:Nat)(r:RT)(a b:V):M V:=az a fun c=>aq 4 c fun d=>ar d fun e=>ay r 190 [e,b] fun f=>bz f (ii 0) fun c=>ak c
 (aj [(ii 0),f]) (az a fun d=>aq 4 d fun e=>ar e fun g=>ay r 191 [g] fun h=>hX h fun i=>ak i (aj [(ii 0),f]) (az a fun c=>aq 4 c fun d=>ar
 d fun e=>ay r 192 [e] fun g=>az a fun h=>aq 5 h fun j=>aX 3 j g fun _=>az a fun c=>aq 4 c fun d=>aZ d nP fun _=>az a fun c=>aq 8 c fun d=>
 ar d fun e=>az a fun g=>aq 5 g fun h=>aq 2 h fun j=>ar j fun l=>ay r 127 [e,l] fun m=>az a fun n=>aq 8 n fun o=>aZ o m fun _=>az a fun c
 =>aq 1 c fun d=>aZ d (ii 1) fun _=>aj [(ii 1),(ii 0)]))
theorem aiB{lf:Nat}{r:RT}{a b:V}:aE ah gt lf r 157 #[a,b]=inside (XT lf r a b):=by kernel_rfl
def N7(lf:Nat)(r:RT)(a b:V):M V:=ay r 188 [b,(ii 32)] fun c=>aP c 0 fun d=>aP c 1 fun e=>bz e (ii 0) fun c=>ak c (aj [(ii
 0),e]) (az a fun f=>aq 8 f fun g=>ar g fun h=>bz d h fun i=>ak i (aj [(ii 0),(ii 21)]) (ay r 193 [b] fun f=>az a fun f=>aq 1 f fun g=>aZ g
 (ii 0) fun _=>az a fun f=>aq 9 f fun g=>aZ g bT fun _=>aj [(ii 2),(ii 0)]))
theorem XU{lf:Nat}{r:RT}{a b:V}:aE ah gt lf r 158 #[a,b]=inside (N7 lf r a b):=by kernel_rfl
def XV(lf:Nat)(r:RT)(a b:V):M V:=ay r 152 [a,b] fun c=>aP c 0 fun d=>aP c 1 fun e=>bz e (ii 0) fun c=>ak c (aj [(aV {data
 :=#[]}),e]) (bP a fun f=>fo (ii 3) f fun g=>ay r 147 [d,g] fun h=>ay r 148 [d] fun f=>aj [f,(ii 0)])
theorem aiC{lf:Nat}{r:RT}{a b:V}:aE ah gt lf r 159 #[a,b]=inside (XV lf r a b):=by kernel_rfl
def XW(lf:Nat)(r:RT)(a:V):M V:=di 73 Va fun b=>ay r 194 [a,(CU (CV 195) #[] #[b])] fun c=>bz c (ii 0) fun d=>ak d
 (aj [(aV {data:=#[]}),c]) (ar b fun e=>lU e fun f=>aj [f,(ii 0)])
theorem aiD{lf:Nat}{r:RT}{a:V}:aE ah gt lf r 160 #[a]=inside (XW lf r a):=by kernel_rfl
def XX(lf:Nat)(r:RT)(a:V):M V:=ay r 154 [] fun b=>ay r 150 [b,a] fun c=>ay r 186 [b] fun c=>aj [c]
theorem aiE{lf:Nat}{r:RT}{a:V}:aE ah gt lf r 161 #[a]=inside (XX lf r a):=by kernel_rfl
def BN(lf:Nat)(r:RT):Nat->((V->V->V->V->M V)×(V->M V))->V->V->V->V->V->V->V->V->V->M V
 |0,_,_,_,_,_,_,_,_,_,_=> .fail
 |fu+1,k,a,b,c,d,e,f,g,h,i=>bO f fun j=>bp j d fun l=>ak l (bU a (some g) none fun j=>ay r 196 [j] fun m=>gV m c fun j=>ak j (aA g c
  fun n=>bB rN [(3,1,n),(4,1,(ii 25))] fun o=>aX 5 b o fun _=>k.2 b) (aA g m fun n=>bP a fun o=>aW n o fun p=>ak p (bB rN [(4,1,(ii 3))]
  fun n=>aX 5 b n fun _=>k.2 b) (da e m fun n=>dY .i64 n fun o=>cW o (ii 48) fun q=>cX 3 1 q fun s=>dj 3 1 f s fun t=>ay r 167 [e,m] fun f=>aA
  g m fun e=>aA e (ii 1) fun n=>BN lf r fu k a b c d f t n h i))) (k.1 b c f g)
def XY:List Nat:=[0,2,3,4,5,6,7,11,30]
def BO(lf:Nat)(r:RT):(V->V->V->V->M V)×(V->M V):=(fun a b c d=>bB rN [(0,1,c),(1,1,b),(2,1,d),(3,1,d)] fun e=>aX 5 a e fun _
 =>bx 5 a fun b=>aj [b],fun a=>bx 5 a fun b=>aj [b])
def N8(lf:Nat)(r:RT)(a:V):M V:=di 224 rN fun b=>bP a fun c=>bp c (ii 18) fun d=>ak d (bB rN [(4,1,(ii 3))] fun c=>aX 5 b
 c fun _=>bx 5 b fun a=>aj [a]) (bU a none (some (ii 3)) fun c=>ay r 63 [c] fun e=>dY .i64 e fun f=>bU a (some (ii 3)) (some (ii 18)) fun c=>ay r 63
 [c] fun e=>dY .i64 e fun g=>bp f (ii 2) fun c=>ak c (bB rN [(3,1,(ii 18)),(4,1,(ii 25))] fun c=>aX 5 b c fun _=>bx 5 b fun a=>aj [a]) (dJ f
 (ii 6) fun e=>ak e (bB rN [(3,1,(ii 18)),(4,1,(ii 25))] fun c=>aX 5 b c fun _=>bx 5 b fun a=>aj [a]) (aW g (ii 0) fun h=>ak h (bB rN [(3,
 1,(ii 18)),(4,1,(ii 25))] fun c=>aX 5 b c fun _=>bx 5 b fun a=>aj [a]) (BN lf r lf (BO lf r) a b f g (aV {
 data:=#[48,49,50,51,52,53]}) nS (ii 18) d h))))
theorem XZ{lf:Nat}{r:RT}(K:KT):∀fu,BN lf r fu ((fun a b c d=>K (.exit 0) (zp [2,3,6,7] [a,b,c,d]),fun a=>K .ret
 (zp [2] [a])))=fun a b c d e f g h i=>bH (cQ 162 (pb 11 255) lf r) XY fu (zp XY [a,b,c,d,e,f,g,h,i]) K
 |0=>by funext a b c d e f g h i;kernel_rfl
 |fu+1=>by
  have ih:=XZ (lf:=lf) (r:=r) K fu
  funext a b c d e f g h i
  rw[BN]
  simp only[ih]
  kernel_rfl
theorem aiF{lf:Nat}{r:RT}:BO lf r=((fun a b c d=>(tK 162 (pb 10 255) lf r) (.exit 0) (zp [2,3,6,7] [a,b,c,d]),fun a
 =>(tK 162 (pb 10 255) lf r) .ret (zp [2] [a]))):=by kernel_rfl
theorem aiG{lf:Nat}{r:RT}{a:V}:aE ah gt lf r 162 #[a]=inside (N8 lf r a):=by
 unfold N8
 simp only[aiF,XZ]
 kernel_rfl
def zN(lf:Nat)(r:RT):Nat->((V->V->M V)×(V->M V))->V->V->V->V->V->V->V->M V
 |0,_,_,_,_,_,_,_,_=> .fail
 |fu+1,k,a,b,c,d,e,f,g=>bp g f fun h=>ak h (aq 1 e fun i=>ar i fun j=>bU a (some j) none fun l=>ay r 197 [l,c] fun m=>di 269 rO fun n
  =>aX 3 n m fun _=>aq 2 n fun i=>ar i fun j=>bz j (ii 0) fun l=>ak l (aq 0 e fun i=>ar i fun j=>aq 2 n fun m=>ar m fun o=>bB z228 [(0,1,
  j),(2,1,o)] fun p=>aX 3 d p fun _=>k.2 d) (aq 1 e fun i=>ar i fun j=>aq 1 n fun m=>ar m fun o=>aA j o fun p=>aq 1 e fun q=>aZ q p fun _=>
  aq 0 n fun i=>ar i fun j=>ay r 198 [j] fun m=>hX m fun o=>ak o (aq 0 e fun i=>ar i fun j=>bB z228 [(0,1,j),(2,1,(ii 22))] fun m=>aX 3 d m
  fun _=>k.2 d) (aq 0 e fun i=>(aG (ar i M.ret)).bind fun j=>aq 0 n fun m=>(aG (ar m M.ret)).bind fun p=>(aG (ay r 178 [p.1] M.ret)).bind fun q
  =>(aG (cX 230 1 q.1 M.ret)).bind fun s=>(aG (dj 230 1 j.1 s.1 M.ret)).bind fun t=>aq 0 e fun u=>(aG (aZ u t.1 M.ret)).bind fun v=>fV
  ((!(cT j.2 q.2)&&true)&&true) (aA g (ii 1) fun i=>zN lf r fu k a b c d e f i)))) (k.1 d e)
def X0:List Nat:=[0,1,2,6,7,10,11]
def zO(lf:Nat)(r:RT):(V->V->M V)×(V->M V):=(fun a b=>bx 3 b fun c=>aX 3 a c fun _=>bx 3 a fun b=>aj [b],fun a=>bx 3 a fun b=>aj [b])
def N9(lf:Nat)(r:RT)(a b c:V):M V:=di 228 z228 fun d=>bB z228 [] fun e=>di 228 z228 fun f=>aX 3 f e fun _=>
 zN lf r lf (zO lf r) a b c d f b (ii 0)
theorem X1{lf:Nat}{r:RT}(K:KT):∀fu,zN lf r fu ((fun a b=>K (.exit 0) (zp [6,7] [a,b]),fun a=>K .ret (zp
 [6] [a])))=fun a b c d e f g=>bH (cQ 163 (pb 6 11) lf r) X0 fu (zp X0 [a,b,c,d,e,f,g]) K
 |0=>by funext a b c d e f g;kernel_rfl
 |fu+1=>by
  have ih:=X1 (lf:=lf) (r:=r) K fu
  funext a b c d e f g
  rw[zN]
  simp only[ih]
  kernel_rfl
theorem aiH{lf:Nat}{r:RT}:zO lf r=((fun a b=>(tK 163 (pb 5 11) lf r) (.exit 0) (zp [6,7] [a,b]),fun a=>(tK
 163 (pb 5 11) lf r) .ret (zp [6] [a]))):=by kernel_rfl
theorem aiI{lf:Nat}{r:RT}{a b c:V}:aE ah gt lf r 163 #[a,b,c]=inside (N9 lf r a b c):=by
 unfold N9
 simp only[aiH,X1]
 kernel_rfl
def zP(lf:Nat)(r:RT):Nat->((M V)×(V->M V))->V->V->V->V->V->V->M V
 |0,_,_,_,_,_,_,_=> .fail
 |fu+1,k,a,b,c,d,e,f=>bp f e fun g=>ak g (dO d f fun h=>ar h fun i=>ay r 199 [b,i] fun h=>ak h (k.2 f) (aA f (ii 1) fun j=>zP lf r fu k a b c d e j)) (k.1)
def X2:List Nat:=[0,1,4,7,8,9]
def D2(lf:Nat)(r:RT):(M V)×(V->M V):=(aj [(ii (-1))],fun a=>aj [a])
def Oa(lf:Nat)(r:RT)(a b:V):M V:=bO a fun c=>zP lf r lf (D2 lf r) a b (ii 0) a c (ii 0)
theorem X3{lf:Nat}{r:RT}(K:KT):∀fu,zP lf r fu ((K (.exit 0) [],fun a=>K .ret (zp [4] [a])))=fun a b c d e f=>bH
 (cQ 164 (pb 5 5) lf r) X2 fu (zp X2 [a,b,c,d,e,f]) K
 |0=>by funext a b c d e f;kernel_rfl
 |fu+1=>by
  have ih:=X3 (lf:=lf) (r:=r) K fu
  funext a b c d e f
  rw[zP]
  simp only[ih]
  kernel_rfl
theorem aiJ{lf:Nat}{r:RT}:D2 lf r=(((tK 164 (pb 4 5) lf r) (.exit 0) [],fun a=>(tK 164 (pb 4 5) lf r) .ret (zp [4] [a]))):=by kernel_rfl
theorem aiK{lf:Nat}{r:RT}{a b:V}:aE ah gt lf r 164 #[a,b]=inside (Oa lf r a b):=by
 unfold Oa
 simp only[aiJ,X3]
 kernel_rfl
def X4(lf:Nat)(r:RT)(a b:V):M V:=iD 233 a fun c=>di 235 mz fun d=>aq 4 c fun e=>ar e fun f=>ak f (bx 5 c fun e=>bB
 mz [(0,5,e),(7,1,(ii 7))] fun g=>aX 8 d g fun _=>bx 8 d fun a=>aj [a]) (bp b (ii 0) fun e=>ak e (bx 5 c fun e=>bB mz [(0,5,e),(7,1,(ii
 25))] fun g=>aX 8 d g fun _=>bx 8 d fun a=>aj [a]) (aq 0 c fun g=>ar g fun h=>aA h (ii 1) fun i=>dJ b i fun j=>ak j (bx 5 c fun e=>bB mz
 [(0,5,e),(7,1,(ii 25))] fun g=>aX 8 d g fun _=>bx 8 d fun a=>aj [a]) (bx 5 c fun e=>di 233 z233 fun g=>aX 5 g e fun _=>bp b (ii 2) fun e=>
 ak e (aq 3 c fun h=>ar h fun i=>dj 3 1 nS i fun l=>cX 3 1 b fun h=>dj 3 1 l h fun i=>aq 3 g fun h=>aZ h i fun _=>(aG (bx 5 g M.ret)).bind fun
 h=>(aG (ay r 200 [h.1] M.ret)).bind fun l=>aq 1 c fun m=>(aG (ar m M.ret)).bind fun n=>dJ l.1 n.1 fun o=>fV ((!(cT l.2 n.2)&&true)&&true)
 (ak o (bx 5 c fun h=>bB mz [(0,5,h),(7,1,(ii 2))] fun l=>aX 8 d l fun _=>bx 8 d fun a=>aj [a]) (bx 5 g fun h=>bB mz [(0,5,h),(6,1,(ii
 (-1)))] fun l=>aX 8 d l fun _=>bx 8 d fun a=>aj [a]))) (aq 3 c fun h=>ar h fun i=>ay r 201 [i] fun l=>aq 2 c fun h=>ar h fun i=>aA i l fun m
 =>aq 2 g fun n=>aZ n m fun _=>aq 3 g fun h=>aZ h nS fun _=>aq 0 c fun h=>ar h fun i=>aA i (ii 1) fun m=>aW b m fun n=>ak n (aq 4 g fun h=>
 aZ h bT fun _=>bx 5 g fun h=>bB mz [(0,5,h),(5,1,l),(6,1,(ii (-1)))] fun i=>aX 8 d i fun _=>bx 8 d fun a=>aj [a]) (aq 2 g fun h=>ar h
 fun i=>aA i (ii 1) fun m=>aq 2 g fun o=>aZ o m fun _=>aq 2 g fun h=>ar h fun i=>aq 1 c fun m=>ar m fun o=>dJ i o fun p=>ak p (bx 5 c fun h
 =>bB mz [(0,5,h),(7,1,(ii 2))] fun i=>aX 8 d i fun _=>bx 8 d fun a=>aj [a]) (bx 5 g fun h=>cW b (ii 1) fun i=>bB mz [(0,5,h),(5,1,l),
 (6,1,i)] fun m=>aX 8 d m fun _=>bx 8 d fun a=>aj [a]))))))
theorem aiL{lf:Nat}{r:RT}{a b:V}:aE ah gt lf r 165 #[a,b]=inside (X4 lf r a b):=by kernel_rfl
def X5(lf:Nat)(r:RT)(a:V):M V:=bP a fun b=>dJ b (ii 0) fun c=>ak c (ay r 140 [a] fun d=>aW d a fun e=>aj [e]) (aj [bF])
theorem aiM{lf:Nat}{r:RT}{a:V}:aE ah gt lf r 166 #[a]=inside (X5 lf r a):=by kernel_rfl
def Ob(lf:Nat)(r:RT)(a b:V):M V:=aA b (ii 1) fun c=>bU a (some b) (some c) fun d=>bU a none (some b) fun e=>aA d e fun f=>aA b
 (ii 1) fun g=>bU a (some g) none fun h=>aA f h fun i=>aj [i]
theorem X6{lf:Nat}{r:RT}{a b:V}:aE ah gt lf r 167 #[a,b]=inside (Ob lf r a b):=by kernel_rfl
def X7(lf:Nat)(r:RT)(a:V):M V:=bP a fun b=>gV b (ii 4) fun c=>ak c (da a (ii 0) fun d=>da a (ii 1) fun e=>aW d e fun f=>ak f
 (da a (ii 1) fun g=>da a (ii 2) fun h=>aW g h fun i=>ak i (da a (ii 2) fun j=>da a (ii 3) fun l=>aW j l fun m=>aj [m]) (aj [bF])) (aj [bF])) (aj [bF])
theorem aiN{lf:Nat}{r:RT}{a:V}:aE ah gt lf r 168 #[a]=inside (X7 lf r a):=by kernel_rfl
def wO(lf:Nat)(r:RT):Nat->(V->V->V->V->M V)->V->V->V->V->V->V->V->V->M V
 |0,_,_,_,_,_,_,_,_,_=> .fail
 |fu+1,k,a,b,c,d,e,f,g,h=>bp h g fun i=>ak i (da a h fun j=>dY .i64 j fun l=>aW l d fun m=>ak m (cX 3 1 h fun j=>dj 3 1 c j fun l=>aA
  h (ii 1) fun c=>wO lf r fu k a b l d e f g c) (aA h (ii 1) fun j=>wO lf r fu k a b c d e f g j)) (k a b c e)
def X8:List Nat:=[0,2,3,4,6,7,10,11]
def H6(lf:Nat)(r:RT)(k:(V->M V))(again:V->V->V->V->M V):(V->V->V->V->M V):=fun a b c d=>aA d (ii 1) fun e=>again a b c e
def wP(lf:Nat)(r:RT):Nat->(V->M V)->V->V->V->V->M V
 |0,_,_,_,_,_=> .fail
 |fu+1,k,a,b,c,d=>bp d (ii 256) fun e=>ak e (bP a fun f=>wO lf r lf (H6 lf r k (wP lf r fu k)) a b c d d e f (ii 0)) (k c)
def D3:List Nat:=[0,2,3,6]
abbrev X9(lf:Nat)(r:RT)(fu:Nat)(k:(V->M V)):(V->V->V->V->M V):=H6 lf r k (wP lf r fu k)
def D4(lf:Nat)(r:RT):(V->M V):=fun a=>aj [a]
def Oc(lf:Nat)(r:RT)(a:V):M V:=wP lf r lf (D4 lf r) a nS nS (ii 0)
theorem X'{lf:Nat}{r:RT}(K:KT):∀fu,wO lf r fu (fun a b c d=>K (.exit 2) (zp [0,2,3,6] [a,b,c,d]))=fun a b c d
 e f g h=>bH (cQ 169 (pb 14 3275) lf r) X8 fu (zp X8 [a,b,c,d,e,f,g,h]) K
 |0=>by funext a b c d e f g h;kernel_rfl
 |fu+1=>by
  have ih:=X' (lf:=lf) (r:=r) K fu
  funext a b c d e f g h
  rw[wO]
  simp only[ih]
  kernel_rfl
theorem aiO{lf:Nat}{r:RT}(K:KT)(fu:Nat):H6 lf r (fun a=>K (.exit 0) (zp [3] [a])) (fun a b c d=>bH (cQ 169 (pb 6
 11) lf r) D3 fu (zp D3 [a,b,c,d]) K)=(fun a b c d=>(iK 169 (pb 6 11) (pb 7 51) D3 fu K lf r) (.exit 2) (zp
 [0,2,3,6] [a,b,c,d])):=by kernel_rfl
theorem Ya{lf:Nat}{r:RT}(K:KT):∀fu,wP lf r fu (fun a=>K (.exit 0) (zp [3] [a]))=fun a b c d=>bH (cQ 169 (pb 6
 11) lf r) D3 fu (zp D3 [a,b,c,d]) K
 |0=>by funext a b c d;kernel_rfl
 |fu+1=>by
  have ih:=Ya (lf:=lf) (r:=r) K fu
  funext a b c d
  rw[wP]
  simp only[ih,aiO,X']
  kernel_rfl
theorem aiP{lf:Nat}{r:RT}:D4 lf r=(fun a=>(tK 169 (pb 5 11) lf r) (.exit 0) (zp [3] [a])):=by kernel_rfl
theorem aiQ{lf:Nat}{r:RT}{a:V}:aE ah gt lf r 169 #[a]=inside (Oc lf r a):=by
 unfold Oc
 simp only[aiP,Ya]
 kernel_rfl
def zQ(lf:Nat)(r:RT):Nat->((M V)×(V->M V))->V->V->V->V->M V
 |0,_,_,_,_,_=> .fail
 |fu+1,k,a,b,c,d=>bP a fun e=>bp d e fun f=>ak f (da a d fun e=>dY .i64 e fun g=>aW g b fun h=>ak h (k.2 bT) (aA d (ii 1) fun e=>zQ lf r fu k a b c e)) (k.1)
def Yb:List Nat:=[0,1,4,5]
def D5(lf:Nat)(r:RT):(M V)×(V->M V):=(aj [bF],fun a=>aj [a])
def Od(lf:Nat)(r:RT)(a b:V):M V:=zQ lf r lf (D5 lf r) a b bF (ii 0)
theorem Yc{lf:Nat}{r:RT}(K:KT):∀fu,zQ lf r fu ((K (.exit 0) [],fun a=>K .ret (zp [4] [a])))=fun a b c d=>bH
 (cQ 172 (pb 5 5) lf r) Yb fu (zp Yb [a,b,c,d]) K
 |0=>by funext a b c d;kernel_rfl
 |fu+1=>by
  have ih:=Yc (lf:=lf) (r:=r) K fu
  funext a b c d
  rw[zQ]
  simp only[ih]
  kernel_rfl
theorem aiR{lf:Nat}{r:RT}:D5 lf r=(((tK 172 (pb 4 5) lf r) (.exit 0) [],fun a=>(tK 172 (pb 4 5) lf r) .ret (zp [4] [a]))):=by kernel_rfl
theorem aiS{lf:Nat}{r:RT}{a b:V}:aE ah gt lf r 172 #[a,b]=inside (Od lf r a b):=by
 unfold Od
 simp only[aiR,Yc]
 kernel_rfl
def zR(lf:Nat)(r:RT):Nat->(V->V->V->V->V->V->V->V->V->V->M V)->V->V->V->V->V->V->V->V->V->V->V->V->V->V->V->V->M V
 |0,_,_,_,_,_,_,_,_,_,_,_,_,_,_,_,_,_=> .fail
 |fu+1,k,a,b,c,d,e,f,g,h,i,j,l,m,n,o,p,q=>bp q p fun s=>ak s (aA d (aV {data:=#[48]}) fun t=>aA q (ii 1) fun d=>
  zR lf r fu k a b c t e f g h i j l m n o p d) (k a b c d e f h i j l)
def Yd:List Nat:=[0,2,3,4,5,6,7,12,15,16,17,18,24,26,27,28]
def H7(lf:Nat)(r:RT)(k:(V->V->V->V->V->M V))(again:V->V->V->V->V->V->V->V->V->M V):(V->V->V->V->V->V->V->V->V->V->M V):=fun a b c d e f g h i j=>dO c f fun
 l=>aZ l d fun _=>aA j (ii 1) fun l=>again a b c d e g h i l
def tu(lf:Nat)(r:RT):Nat->(V->V->V->V->V->M V)->V->V->V->V->V->V->V->V->V->M V
 |0,_,_,_,_,_,_,_,_,_,_=> .fail
 |fu+1,k,a,b,c,d,e,f,g,h,i=>bp i h fun j=>ak j (dO g i fun l=>ar l fun m=>bz m e fun l=>ak l (aA i (ii 1) fun n=>tu lf
  r fu k a b c d e f g h n) (aW d (aV {data:=#[]}) fun n=>ak n (zR lf r lf (H7 lf r k (tu lf r
  fu k)) a b c d e i m f g h i j l n e (ii 0)) (ay r 207 [d,e] fun o=>dO c i fun d=>aZ d o fun _=>aA i (ii 1) fun d=>tu lf r fu k a b c o e f g h d))) (k a b c d e)
def D6:List Nat:=[0,2,3,4,5,12,15,16,17]
abbrev Ye(lf:Nat)(r:RT)(fu:Nat)(k:(V->V->V->V->V->M V)):(V->V->V->V->V->V->V->V->V->V->M V):=H7 lf r k (tu lf r fu k)
def H8(lf:Nat)(r:RT)(k:(V->M V))(again:V->V->V->V->V->M V):(V->V->V->V->V->M V):=fun a b c d e=>aA e (ii 1) fun f=>again a b c d f
def wQ(lf:Nat)(r:RT):Nat->(V->M V)->V->V->V->V->V->M V
 |0,_,_,_,_,_,_=> .fail
 |fu+1,k,a,b,c,d,e=>nC e (ii 20) fun f=>ak f (bO a fun g=>tu lf r lf (H8 lf r k (wQ lf r fu k)) a b c d e f a g (ii 0)) (k c)
def D7:List Nat:=[0,2,3,4,5]
abbrev Oe(lf:Nat)(r:RT)(fu:Nat)(k:(V->M V)):(V->V->V->V->V->M V):=H8 lf r k (wQ lf r fu k)
def BP(lf:Nat)(r:RT):(V->M V):=fun a=>aj [a]
def Of(lf:Nat)(r:RT)(a:V):M V:=bO a fun b=>uW 9 [(aV {data:=#[]})] b b fun c=>wQ lf r lf
 (BP lf r) a nS c (aV {data:=#[]}) (ii 1)
theorem Yf{lf:Nat}{r:RT}(K:KT):∀fu,zR lf r fu (fun a b c d e f g h i j=>K (.exit 4) (zp [0,2,3,4,5,6,12,15,16,
 17] [a,b,c,d,e,f,g,h,i,j]))=fun a b c d e f g h i j l m n o p q=>bH (cQ 178 (pb 25 5661847) lf r) Yd fu (zp Yd [a,b,
 c,d,e,f,g,h,i,j,l,m,n,o,p,q]) K
 |0=>by funext a b c d e f g h i j l m n o p q;kernel_rfl
 |fu+1=>by
  have ih:=Yf (lf:=lf) (r:=r) K fu
  funext a b c d e f g h i j l m n o p q
  rw[zR]
  simp only[ih]
  kernel_rfl
theorem aiT{lf:Nat}{r:RT}(K:KT)(fu:Nat):H7 lf r (fun a b c d e=>K (.exit 2) (zp [0,2,3,4,5] [a,b,c,d,e])) (fun
 a b c d e f g h i=>bH (cQ 178 (pb 13 1175) lf r) D6 fu (zp D6 [a,b,c,d,e,f,g,h,i]) K)=(fun a b c d e f g h i j=>(iK
 178 (pb 13 1175) (pb 11 691) D6 fu K lf r) (.exit 4) (zp [0,2,3,4,5,6,12,15,16,17] [a,b,c,d,e,f,g,h,i,j])):=by kernel_rfl
theorem Yg{lf:Nat}{r:RT}(K:KT):∀fu,tu lf r fu (fun a b c d e=>K (.exit 2) (zp [0,2,3,4,5] [a,b,c,d,e]))=fun
 a b c d e f g h i=>bH (cQ 178 (pb 13 1175) lf r) D6 fu (zp D6 [a,b,c,d,e,f,g,h,i]) K
 |0=>by funext a b c d e f g h i;kernel_rfl
 |fu+1=>by
  have ih:=Yg (lf:=lf) (r:=r) K fu
  funext a b c d e f g h i
  rw[tu]
  simp only[ih,aiT,Yf]
  kernel_rfl
theorem aiU{lf:Nat}{r:RT}(K:KT)(fu:Nat):H8 lf r (fun a=>K (.exit 0) (zp [3] [a])) (fun a b c d e=>bH (cQ 178 (pb
 7 23) lf r) D7 fu (zp D7 [a,b,c,d,e]) K)=(fun a b c d e=>(iK 178 (pb 7 23) (pb 5 9) D7 fu K lf r) (.exit 2)
 (zp [0,2,3,4,5] [a,b,c,d,e])):=by kernel_rfl
theorem Yh{lf:Nat}{r:RT}(K:KT):∀fu,wQ lf r fu (fun a=>K (.exit 0) (zp [3] [a]))=fun a b c d e=>bH (cQ 178 (pb 7
 23) lf r) D7 fu (zp D7 [a,b,c,d,e]) K
 |0=>by funext a b c d e;kernel_rfl
 |fu+1=>by
  have ih:=Yh (lf:=lf) (r:=r) K fu
  funext a b c d e
  rw[wQ]
  simp only[ih,aiU,Yg]
  kernel_rfl
theorem aiV{lf:Nat}{r:RT}:BP lf r=(fun a=>(tK 178 (pb 6 23) lf r) (.exit 0) (zp [3] [a])):=by kernel_rfl
theorem aiW{lf:Nat}{r:RT}{a:V}:aE ah gt lf r 178 #[a]=inside (Of lf r a):=by
 unfold Of
 simp only[aiV,Yh]
 kernel_rfl
def wR(lf:Nat)(r:RT):Nat->(V->M V)->V->V->V->M V
 |0,_,_,_,_=> .fail
 |fu+1,k,a,b,c=>bp c (ii 8) fun d=>ak d (gV a (i3 2147483648) fun e=>ak e (cW a (i3 2147483648) fun f=>fo f (i3 2) fun g=>rE g (i3 79764919) fun
  h=>aA c (ii 1) fun a=>wR lf r fu k h b a) (fo a (i3 2) fun f=>aA c (ii 1) fun a=>wR lf r fu k f b a)) (k a)
def Yi:List Nat:=[0,2,3]
def H9(lf:Nat)(r:RT):(V->M V):=fun a=>aj [a]
def H'(lf:Nat)(r:RT)(a:V):M V:=wR lf r lf (H9 lf r) a (i3 0) (ii 0)
theorem Yj{lf:Nat}{r:RT}(K:KT):∀fu,wR lf r fu (fun a=>K (.exit 0) (zp [0] [a]))=fun a b c=>bH (cQ 179 (pb 5 5) lf
 r) Yi fu (zp Yi [a,b,c]) K
 |0=>by funext a b c;kernel_rfl
 |fu+1=>by
  have ih:=Yj (lf:=lf) (r:=r) K fu
  funext a b c
  rw[wR]
  simp only[ih]
  kernel_rfl
theorem aiX{lf:Nat}{r:RT}:H9 lf r=(fun a=>(tK 179 (pb 4 5) lf r) (.exit 0) (zp [0] [a])):=by kernel_rfl
theorem Yk{lf:Nat}{r:RT}{a:V}:aE ah gt lf r 179 #[a]=inside (H' lf r a):=by
 unfold H'
 simp only[aiX,Yj]
 kernel_rfl
def Yl(lf:Nat)(r:RT)(a:V):M V:=fT a nP fun b=>ak b (aj [nS]) (az a fun c=>aq 8 c fun d=>ar d fun e=>ay r 208 [e] fun f=>aj [f])
theorem aiY{lf:Nat}{r:RT}{a:V}:aE ah gt lf r 180 #[a]=inside (Yl lf r a):=by kernel_rfl
def Ym(lf:Nat)(r:RT)(a:V):M V:=az a fun b=>aq 0 b fun c=>ar c fun d=>bP d fun e=>az a fun b=>aq 260 b fun c=>ar c fun
 d=>rF d e fun f=>az a fun b=>aq 260 b fun c=>ar c fun d=>lT d e fun g=>aW g (ii 0) fun b=>(fun c=>ak b (az a fun d=>aq 0 d fun h=>ar h
 fun i=>da i f fun j=>az a fun l=>aq 1 l fun m=>iU 256 m j fun n=>ar n fun o=>aA o (ii 1) fun p=>az a fun q=>aq 1 q fun s=>iU 256 s j fun t
 =>aZ t p fun _=>cW e (ii 1) fun d=>aW f d fun h=>ak h (ay r 209 [a] fun d=>c) (c)) (aW g (ii 1) fun d=>ak d (az a fun h=>aq 0 h fun i=>ar i
 fun j=>da j f fun l=>az a fun h=>aq 257 h fun i=>ar i fun j=>az a fun m=>aq 1 m fun n=>iU 256 n l fun o=>ar o fun p=>dO j p fun q=>aZ q f
 fun _=>az a fun h=>aq 1 h fun i=>iU 256 i l fun j=>ar j fun m=>aA m (ii 1) fun n=>az a fun o=>aq 1 o fun p=>iU 256 p l fun q=>aZ q n fun _
 =>c) (az a fun h=>aq 257 h fun i=>ar i fun j=>az a fun l=>aq 258 l fun m=>ar m fun n=>dO j n fun o=>ar o fun p=>az a fun q=>aq 258 q fun s
 =>aZ s p fun _=>az a fun h=>aq 259 h fun i=>ar i fun j=>az a fun l=>aq 0 l fun m=>ar m fun n=>az a fun o=>aq 258 o fun p=>ar p fun q=>
 da n q fun s=>cX 5 1 s fun t=>dj 5 1 j t fun u=>az a fun v=>aq 259 v fun w=>aZ w u fun _=>c))) (az a fun c=>aq 260 c fun d=>ar d fun h=>aA
 h (ii 1) fun i=>az a fun j=>aq 260 j fun l=>aZ l i fun _=>aj [])
theorem aiZ{lf:Nat}{r:RT}{a:V}:aE ah gt lf r 181 #[a]=inside (Ym lf r a):=by kernel_rfl
def Yn(lf:Nat)(r:RT)(a b:V):M V:=pB a nP fun c=>ak c (az a fun d=>aq 0 d fun e=>az a fun f=>aq 256 f fun g=>ar g fun h=>ay r
 214 [e,h,b] fun i=>az a fun j=>aq 256 j fun l=>aZ l i fun _=>aj []) (aj [])
theorem ai0{lf:Nat}{r:RT}{a b:V}:aE ah gt lf r 184 #[a,b]=inside (Yn lf r a b):=by kernel_rfl
def Yo(lf:Nat)(r:RT)(a:V):M V:=fT a nP fun b=>ak b (aj [(i3 0)]) (az a fun c=>aq 256 c fun d=>ar d fun e=>G3 e fun f=>aj [f])
theorem ai1{lf:Nat}{r:RT}{a:V}:aE ah gt lf r 186 #[a]=inside (Yo lf r a):=by kernel_rfl
def zS(lf:Nat)(r:RT):Nat->(V->V->V->V->V->M V)->V->V->V->V->V->V->V->M V
 |0,_,_,_,_,_,_,_,_=> .fail
 |fu+1,k,a,b,c,d,e,f,g=>bp g (ii 8) fun h=>ak h (tf d (i6 31) fun i=>pA d (i6 1) fun j=>fo i (i3 79764919) fun l=>rE j l fun m=>aA g (ii
  1) fun d=>zS lf r fu k a b c m e f d) (k a b c d e)
def Yp:List Nat:=[0,1,2,3,5,6,11]
def Ia(lf:Nat)(r:RT)(k:(V->V->M V))(again:V->V->V->M V):(V->V->V->V->V->M V):=fun a b c d e=>iU 256 b c fun f=>aZ f d fun _=>aA e (ii 1) fun f=>again a b f
def wS(lf:Nat)(r:RT):Nat->(V->V->M V)->V->V->V->M V
 |0,_,_,_,_=> .fail
 |fu+1,k,a,b,c=>bp c (ii 256) fun d=>ak d (dY .u32 c fun e=>pA e (i6 24) fun f=>zS lf r lf (Ia lf r k (wS lf r fu k)) a b c f c d (ii 0)) (k a b)
def D8:List Nat:=[0,1,5]
abbrev Yq(lf:Nat)(r:RT)(fu:Nat)(k:(V->V->M V)):(V->V->V->V->V->M V):=Ia lf r k (wS lf r fu k)
def D9(lf:Nat)(r:RT):(V->V->M V):=fun a b=>bx 256 b fun c=>aX 256 a c fun _=>bx 256 a fun b=>aj [b]
def Og(lf:Nat)(r:RT):M V:=di 257 Nb fun a=>di 257 Nb fun b=>wS lf r lf (D9 lf r) a b (ii 0)
theorem Yr{lf:Nat}{r:RT}(K:KT):∀fu,zS lf r fu (fun a b c d e=>K (.exit 2) (zp [0,1,2,3,5] [a,b,c,d,e]))=fun a b c d e f g
 =>bH (cQ 187 (pb 16 11467) lf r) Yp fu (zp Yp [a,b,c,d,e,f,g]) K
 |0=>by funext a b c d e f g;kernel_rfl
 |fu+1=>by
  have ih:=Yr (lf:=lf) (r:=r) K fu
  funext a b c d e f g
  rw[zS]
  simp only[ih]
  kernel_rfl
theorem ai2{lf:Nat}{r:RT}(K:KT)(fu:Nat):Ia lf r (fun a b=>K (.exit 0) (zp [0,1] [a,b])) (fun a b c=>bH (cQ 187 (pb 6 11) lf
 r) D8 fu (zp D8 [a,b,c]) K)=(fun a b c d e=>(iK 187 (pb 6 11) (pb 9 179) D8 fu K lf r) (.exit 2) (zp [0,1,2,3,5] [a,b,c,d,e])):=by kernel_rfl
theorem Ys{lf:Nat}{r:RT}(K:KT):∀fu,wS lf r fu (fun a b=>K (.exit 0) (zp [0,1] [a,b]))=fun a b c=>bH (cQ 187 (pb 6 11) lf r)
 D8 fu (zp D8 [a,b,c]) K
 |0=>by funext a b c;kernel_rfl
 |fu+1=>by
  have ih:=Ys (lf:=lf) (r:=r) K fu
  funext a b c
  rw[wS]
  simp only[ih,ai2,Yr]
  kernel_rfl
theorem ai3{lf:Nat}{r:RT}:D9 lf r=(fun a b=>(tK 187 (pb 5 11) lf r) (.exit 0) (zp [0,1] [a,b])):=by kernel_rfl
theorem ai4{lf:Nat}{r:RT}:aE ah gt lf r 187 #[]=inside (Og lf r):=by
 unfold Og
 simp only[ai3,Ys]
 kernel_rfl
def zT(lf:Nat)(r:RT):Nat->(V->M V)->V->V->V->V->V->V->V->V->V->V->M V
 |0,_,_,_,_,_,_,_,_,_,_,_=> .fail
 |fu+1,k,a,b,c,d,e,f,g,h,i,j=>bp j i fun l=>ak l (pA e (i6 1) fun m=>az a fun n=>aq 2 n fun o=>ar o fun p=>ay r 215 [a,p] fun q=>DB
  m q fun s=>az a fun e=>aq 2 e fun m=>ar m fun n=>aA n (ii 1) fun o=>az a fun p=>aq 2 p fun q=>aZ q o fun _=>aA j (ii 1) fun e=>
  zT lf r fu k a b c d s f g h i e) (k e)
def Yt:List Nat:=[0,1,4,5,6,7,10,17,22,23]
def Ib(lf:Nat)(r:RT):(V->M V):=fun a=>aj [a,(ii 0)]
def Ic(lf:Nat)(r:RT)(a b:V):M V:=fT a nP fun c=>ak c (aj [(i3 0),(ii 7)]) (bp b (ii 0) fun d=>ak d (aj [(i3 0),(ii 1)]) (dJ b
 (ii 32) fun e=>ak e (aj [(i3 0),(ii 1)]) (ay r 98 [a] fun d=>bp d b fun f=>ak f (aj [(i3 0),(ii 3)]) (zT lf r lf (Ib
 lf r) a b (i3 0) (ii 0) (i3 0) c e f b (ii 0)))))
theorem Yu{lf:Nat}{r:RT}(K:KT):∀fu,zT lf r fu (fun a=>K (.exit 1) (zp [6] [a]))=fun a b c d e f g h i j=>bH (cQ
 188 (pb 7 23) lf r) Yt fu (zp Yt [a,b,c,d,e,f,g,h,i,j]) K
 |0=>by funext a b c d e f g h i j;kernel_rfl
 |fu+1=>by
  have ih:=Yu (lf:=lf) (r:=r) K fu
  funext a b c d e f g h i j
  rw[zT]
  simp only[ih]
  kernel_rfl
theorem ai5{lf:Nat}{r:RT}:Ib lf r=(fun a=>(tK 188 (pb 6 23) lf r) (.exit 1) (zp [6] [a])):=by kernel_rfl
theorem Yv{lf:Nat}{r:RT}{a b:V}:aE ah gt lf r 188 #[a,b]=inside (Ic lf r a b):=by
 unfold Ic
 simp only[ai5,Yu]
 kernel_rfl
def Yw(lf:Nat)(r:RT)(a:V):M V:=bp a (ii 5) fun b=>ak b (aj [nP,(ii 1)]) (dJ a (ii 900000) fun c=>ak c (aj [nP,(ii 1)]) (bB
 Vd [(1,1,a)] fun b=>iD 207 b fun d=>aj [d,(ii 0)]))
theorem ai6{lf:Nat}{r:RT}{a:V}:aE ah gt lf r 189 #[a]=inside (Yw lf r a):=by kernel_rfl
def Yx(lf:Nat)(r:RT)(a b:V):M V:=fT a nP fun c=>ak c (aj [(ii 7)]) (fT b nP fun d=>ak d (aj [(ii 7)]) (az a fun e=>aq 6 e
 fun f=>ar f fun g=>ak g (aj [(ii 7)]) (az a fun c=>aq 7 c fun d=>ar d fun e=>bz e (ii 0) fun f=>ak f (az a fun c=>aq 7 c fun d=>ar d fun e
 =>aj [e]) (ay r 216 [a,b] fun c=>bz c (ii 3) fun d=>ak d (az a fun e=>aq 7 e fun h=>aZ h c fun _=>aj [c]) (aj [c])))))
theorem ai7{lf:Nat}{r:RT}{a b:V}:aE ah gt lf r 190 #[a,b]=inside (Yx lf r a b):=by kernel_rfl
def Yy(lf:Nat)(r:RT)(a:V):M V:=pB a nP fun b=>ak b (az a fun c=>aq 6 c fun d=>ar d fun e=>aj [e]) (aj [bF])
theorem ai8{lf:Nat}{r:RT}{a:V}:aE ah gt lf r 191 #[a]=inside (Yy lf r a):=by kernel_rfl
def Yz(lf:Nat)(r:RT)(a:V):M V:=di 134 zi fun b=>ay r 191 [a] fun c=>hX c fun d=>ak d (bB zi [] fun c=>aX 3 b c fun _=>
 bx 3 b fun a=>aj [a]) (az a fun c=>aq 5 c fun e=>(aG (ar e M.ret)).bind fun f=>(aG (lU f.1 M.ret)).bind fun g=>az a fun h=>aq 4 h fun i=>
 (aG (ar i M.ret)).bind fun j=>az a fun l=>aq 3 l fun m=>(aG (ar m M.ret)).bind fun n=>bB zi [(0,1,g.1),(1,1,j.1),(2,1,n.1)] fun o=>
 (aG (aX 3 b o M.ret)).bind fun p=>fV ((!(cT g.2 j.2)&&(!(cT g.2 n.2)&&true))&&true) (bx 3 b fun a=>aj [a]))
theorem ai9{lf:Nat}{r:RT}{a:V}:aE ah gt lf r 192 #[a]=inside (Yz lf r a):=by kernel_rfl
def zU(lf:Nat)(r:RT):Nat->(M V)->V->M V
 |0,_,_=> .fail
 |fu+1,k,a=>pB a nP fun b=>ak b (az a fun c=>aq 2 c fun d=>ar d fun e=>rF e (ii 8) fun f=>bz f (ii 0) fun g=>ak g (az a fun b=>aq 2 b fun
  c=>ar c fun d=>aA d (ii 1) fun e=>az a fun f=>aq 2 f fun h=>aZ h e fun _=>zU lf r fu k a) (k)) (k)
def YA:List Nat:=[0]
def Ie(lf:Nat)(r:RT):(M V):=aj []
def Ig(lf:Nat)(r:RT)(a:V):M V:=zU lf r lf (Ie lf r) a
theorem YB{lf:Nat}{r:RT}(K:KT):∀fu,zU lf r fu (K (.exit 0) [])=fun a=>bH (cQ 193 (pb 2 0) lf r) YA fu (zp YA [a]) K
 |0=>by funext a;kernel_rfl
 |fu+1=>by
  have ih:=YB (lf:=lf) (r:=r) K fu
  funext a
  rw[zU]
  simp only[ih]
  kernel_rfl
theorem ai'{lf:Nat}{r:RT}:Ie lf r=((tK 193 (pb 1 0) lf r) (.exit 0) []):=by kernel_rfl
theorem YC{lf:Nat}{r:RT}{a:V}:aE ah gt lf r 193 #[a]=inside (Ig lf r a):=by
 unfold Ig
 simp only[ai',YB]
 kernel_rfl
def tz(lf:Nat)(r:RT):Nat->((V->M V)×(V->M V))->V->V->V->V->V->V->M V
 |0,_,_,_,_,_,_,_=> .fail
 |fu+1,k,a,b,c,d,e,f=>bp f e fun g=>ak g (aW d (ii 4) fun h=>(fun i=>ak h (da a f fun j=>dJ j (i1 251) fun l=>ak l (k.2 (ii 25)) (cW f (ii
  1) fun j=>da a j fun m=>da a f fun n=>dY .i64 n fun o=>kD ah r b [m,o] fun p=>aA f (ii 1) fun d=>tz lf r fu k a b c (ii 0) e d))
  (dJ d (ii 0) fun j=>ak j (da a f fun l=>cW f (ii 1) fun m=>da a m fun n=>aW l n fun o=>ak o (aA d (ii 1) fun j=>i j) (i (ii 1))) (i (ii 1)))) fun
  d=>da a f fun i=>kD ah r b [i,(ii 1)] fun j=>aA f (ii 1) fun i=>tz lf r fu k a b c d e i) (k.1 d)
def YD:List Nat:=[0,1,4,5,8,9]
def BQ(lf:Nat)(r:RT):(V->M V)×(V->M V):=(fun a=>aW a (ii 4) fun b=>ak b (aj [(ii 24)]) (aj [(ii 0)]),fun a=>aj [a])
def Oh(lf:Nat)(r:RT)(a b:V):M V:=bP a fun c=>tz lf r lf (BQ lf r) a b (ii 0) (ii 0) c (ii 0)
theorem YE{lf:Nat}{r:RT}(K:KT):∀fu,tz lf r fu ((fun a=>K (.exit 0) (zp [5] [a]),fun a=>K .ret (zp [4] [a])))=fun a b c d e f
 =>bH (cQ 194 (pb 6 11) lf r) YD fu (zp YD [a,b,c,d,e,f]) K
 |0=>by funext a b c d e f;kernel_rfl
 |fu+1=>by
  have ih:=YE (lf:=lf) (r:=r) K fu
  funext a b c d e f
  rw[tz]
  simp only[ih]
  kernel_rfl
theorem ai_{lf:Nat}{r:RT}:BQ lf r=((fun a=>(tK 194 (pb 5 11) lf r) (.exit 0) (zp [5] [a]),fun a=>(tK 194 (pb 5 11) lf r) .ret (zp [4] [a]))):=by kernel_rfl
theorem aja{lf:Nat}{r:RT}{a b:V}:aE ah gt lf r 194 #[a,b]=inside (Oh lf r a b):=by
 unfold Oh
 simp only[ai_,YE]
 kernel_rfl
def zV(lf:Nat)(r:RT):Nat->(M V)->V->V->V->V->V->M V
 |0,_,_,_,_,_,_=> .fail
 |fu+1,k,a,b,c,d,e=>bp e d fun f=>ak f (ar c fun g=>cX 5 1 a fun h=>dj 5 1 g h fun i=>aZ c i fun _=>aA e (ii 1) fun g=>zV lf r fu k a b c d g) (k)
def YF:List Nat:=[0,1,2,5,6]
def Ih(lf:Nat)(r:RT):(M V):=aj []
def Oi(lf:Nat)(r:RT)(a b c:V):M V:=zV lf r lf (Ih lf r) a b c b (ii 0)
theorem YG{lf:Nat}{r:RT}(K:KT):∀fu,zV lf r fu (K (.exit 0) [])=fun a b c d e=>bH (cQ 195 (pb 3 1) lf r) YF fu (zp YF [a,b,c,d,e]) K
 |0=>by funext a b c d e;kernel_rfl
 |fu+1=>by
  have ih:=YG (lf:=lf) (r:=r) K fu
  funext a b c d e
  rw[zV]
  simp only[ih]
  kernel_rfl
theorem ajb{lf:Nat}{r:RT}:Ih lf r=((tK 195 (pb 2 1) lf r) (.exit 0) []):=by kernel_rfl
theorem ajc{lf:Nat}{r:RT}{a b c:V}:aE ah gt lf r 195 #[a,b,c]=inside (Oi lf r a b c):=by
 unfold Oi
 simp only[ajb,YG]
 kernel_rfl
def zW(lf:Nat)(r:RT):Nat->(V->M V)->V->V->V->M V
 |0,_,_,_,_=> .fail
 |fu+1,k,a,b,c=>bP a fun d=>bp c d fun e=>ak e (da a c fun f=>aW f (i1 49) fun g=>ak g (aA c (ii 1) fun d=>zW lf r fu k a b d) (k c)) (k c)
def YH:List Nat:=[0,2,3]
def D'(lf:Nat)(r:RT):(V->M V):=fun a=>aj [a]
def Oj(lf:Nat)(r:RT)(a:V):M V:=zW lf r lf (D' lf r) a (ii 0) (ii 0)
theorem YI{lf:Nat}{r:RT}(K:KT):∀fu,zW lf r fu (fun a=>K (.exit 0) (zp [3] [a]))=fun a b c=>bH (cQ 196 (pb 5 3) lf
 r) YH fu (zp YH [a,b,c]) K
 |0=>by funext a b c;kernel_rfl
 |fu+1=>by
  have ih:=YI (lf:=lf) (r:=r) K fu
  funext a b c
  rw[zW]
  simp only[ih]
  kernel_rfl
theorem ajd{lf:Nat}{r:RT}:D' lf r=(fun a=>(tK 196 (pb 4 3) lf r) (.exit 0) (zp [3] [a])):=by kernel_rfl
theorem aje{lf:Nat}{r:RT}{a:V}:aE ah gt lf r 196 #[a]=inside (Oj lf r a):=by
 unfold Oj
 simp only[ajd,YI]
 kernel_rfl
def wT(lf:Nat)(r:RT):Nat->((V->V->V->M V)×(V->M V))->V->V->V->V->V->V->V->V->M V
 |0,_,_,_,_,_,_,_,_,_=> .fail
 |fu+1,k,a,b,c,d,e,f,g,h=>bO e fun i=>bp i b fun j=>ak j (bP a fun i=>aW f i fun l=>ak l (bB rO [(2,1,(ii 3))] fun i=>aX 3 c i fun _
  =>k.2 c) (da a f fun i=>aW i (i1 48) fun m=>ak m (cX 3 1 d fun i=>dj 3 1 e i fun n=>aA f (ii 1) fun e=>wT lf r fu k a b c d n e g h)
  (aA f (ii 1) fun i=>bP a fun n=>aW i n fun o=>ak o (bB rO [(2,1,(ii 3))] fun i=>aX 3 c i fun _=>k.2 c) (aA f (ii 1) fun i=>da a i fun n=>aW
  n (i1 48) fun p=>(fun i=>ak p (aA d (ii 1) fun n=>i n) (cW d (ii 1) fun n=>i n)) fun d=>bp d (ii 1) fun i=>ak i (bB rO [(2,1,(ii 22))] fun i=>
  aX 3 c i fun _=>k.2 c) (dJ d (ii 20) fun n=>ak n (bB rO [(2,1,(ii 22))] fun i=>aX 3 c i fun _=>k.2 c) (aA f (ii 2) fun i=>wT lf r fu k a b c d e i g h)))))) (k.1 c e f)
def YJ:List Nat:=[0,1,4,5,6,7,10,21]
def u9(lf:Nat)(r:RT):(V->V->V->M V)×(V->M V):=(fun a b c=>bB rO [(0,1,b),(1,1,c)] fun d=>aX 3 a d fun _=>bx 3 a fun b=>aj [b],fun a=>bx 3 a fun b=>aj [b])
def Ol(lf:Nat)(r:RT)(a b:V):M V:=di 269 rO fun c=>bP a fun d=>bp d (ii 5) fun e=>ak e (bB rO [(2,1,(ii 3))] fun d=>aX 3 c
 d fun _=>bx 3 c fun a=>aj [a]) (bU a none (some (ii 5)) fun d=>ay r 63 [d] fun f=>dY .i64 f fun g=>bp g (ii 1) fun d=>ak d (bB rO [(2,1,(ii
 22))] fun d=>aX 3 c d fun _=>bx 3 c fun a=>aj [a]) (dJ g (ii 20) fun f=>ak f (bB rO [(2,1,(ii 22))] fun d=>aX 3 c d fun _=>bx 3 c fun a=>
 aj [a]) (wT lf r lf (u9 lf r) a b c g nS (ii 5) e f)))
theorem YK{lf:Nat}{r:RT}(K:KT):∀fu,wT lf r fu ((fun a b c=>K (.exit 0) (zp [4,6,7] [a,b,c]),fun a=>K .ret (zp [4]
 [a])))=fun a b c d e f g h=>bH (cQ 197 (pb 9 63) lf r) YJ fu (zp YJ [a,b,c,d,e,f,g,h]) K
 |0=>by funext a b c d e f g h;kernel_rfl
 |fu+1=>by
  have ih:=YK (lf:=lf) (r:=r) K fu
  funext a b c d e f g h
  rw[wT]
  simp only[ih]
  kernel_rfl
theorem ajf{lf:Nat}{r:RT}:u9 lf r=((fun a b c=>(tK 197 (pb 8 63) lf r) (.exit 0) (zp [4,6,7] [a,b,c]),fun a=>(tK 197
 (pb 8 63) lf r) .ret (zp [4] [a]))):=by kernel_rfl
theorem ajg{lf:Nat}{r:RT}{a b:V}:aE ah gt lf r 197 #[a,b]=inside (Ol lf r a b):=by
 unfold Ol
 simp only[ajf,YK]
 kernel_rfl
def YL(lf:Nat)(r:RT)(a:V):M V:=ay r 217 [a,(ii 1),(ii 20)] fun b=>ak b (ay r 218 [a] fun c=>aW c (ii 1048576) fun d=>aj [d]) (aj [bF])
theorem ajh{lf:Nat}{r:RT}{a:V}:aE ah gt lf r 198 #[a]=inside (YL lf r a):=by kernel_rfl
def YM(lf:Nat)(r:RT)(a b:V):M V:=bP a fun c=>bP b fun d=>gV c d fun e=>ak e (bP b fun f=>bU a none (some f) fun g=>aW g b fun h=>aj [h]) (aj [bF])
theorem aji{lf:Nat}{r:RT}{a b:V}:aE ah gt lf r 199 #[a,b]=inside (YM lf r a b):=by kernel_rfl
def YN(lf:Nat)(r:RT)(a:V):M V:=iD 233 a fun b=>aq 2 b fun c=>(aG (ar c M.ret)).bind fun d=>aq 3 b fun e=>(aG (ar e
 M.ret)).bind fun f=>(aG (ay r 201 [f.1] M.ret)).bind fun g=>aA d.1 g.1 fun h=>fV ((!(cT d.2 g.2)&&true)&&true) (aj [h])
theorem ajj{lf:Nat}{r:RT}{a:V}:aE ah gt lf r 200 #[a]=inside (YN lf r a):=by kernel_rfl
def zX(lf:Nat)(r:RT):Nat->((V->M V)×(V->M V))->V->V->V->V->V->V->V->M V
 |0,_,_,_,_,_,_,_,_=> .fail
 |fu+1,k,a,b,c,d,e,f,g=>bp g f fun h=>ak h (dO e g fun i=>ar i fun j=>dJ d (ii 2199023255552) fun i=>ak i (k.2 (ii 2199023255552)) (aA c d
  fun l=>fo j d fun m=>aA l m fun n=>fo (ii 2) d fun c=>aA g (ii 1) fun d=>zX lf r fu k a b n c e f d)) (k.1 c)
def YO:List Nat:=[0,2,3,4,7,8,9]
def Ii(lf:Nat)(r:RT):(V->M V)×(V->M V):=(fun a=>aj [a],fun a=>aj [a])
def Om(lf:Nat)(r:RT)(a:V):M V:=bO a fun b=>zX lf r lf (Ii lf r) a (ii 0) (ii 0) (ii 1) a b (ii 0)
theorem YP{lf:Nat}{r:RT}(K:KT):∀fu,zX lf r fu ((fun a=>K (.exit 0) (zp [3] [a]),fun a=>K .ret (zp [2] [a])))=fun
 a b c d e f g=>bH (cQ 201 (pb 7 23) lf r) YO fu (zp YO [a,b,c,d,e,f,g]) K
 |0=>by funext a b c d e f g;kernel_rfl
 |fu+1=>by
  have ih:=YP (lf:=lf) (r:=r) K fu
  funext a b c d e f g
  rw[zX]
  simp only[ih]
  kernel_rfl
theorem ajk{lf:Nat}{r:RT}:Ii lf r=((fun a=>(tK 201 (pb 6 23) lf r) (.exit 0) (zp [3] [a]),fun a=>(tK 201 (pb 6 23) lf r) .ret (zp [2] [a]))):=by kernel_rfl
theorem ajl{lf:Nat}{r:RT}{a:V}:aE ah gt lf r 201 #[a]=inside (Om lf r a):=by
 unfold Om
 simp only[ajk,YP]
 kernel_rfl
def wU(lf:Nat)(r:RT):Nat->(V->V->V->V->V->V->V->M V)->V->V->V->V->V->V->M V
 |0,_,_,_,_,_,_,_=> .fail
 |fu+1,k,a,b,c,d,e,f=>gV f (ii 0) fun g=>ak g (da a f fun h=>aW h (i1 49) fun i=>GV i e fun h=>(fun l=>ak h (aA (aV {data:=
  #[49]}) d fun j=>l j) (aA (aV {data:=#[48]}) d fun j=>l j)) fun d=>ak e (cW f (ii 1) fun e=>wU lf r fu k a b c d i e) (cW
  f (ii 1) fun e=>wU lf r fu k a b c d bF e)) (k a b c d e f g)
def YQ:List Nat:=[0,1,4,5,6,7]
def zY(lf:Nat)(r:RT):Nat->(V->M V)->V->V->V->V->V->V->V->M V
 |0,_,_,_,_,_,_,_,_=> .fail
 |fu+1,k,a,b,c,d,e,f,g=>bP d fun h=>bp h b fun i=>ak i (aA d (aV {data:=#[48]}) fun h=>zY lf r fu k a b c h e f g) (k d)
def YR:List Nat:=[0,1,4,5,6,7,13]
def Ij(lf:Nat)(r:RT):(V->M V):=fun a=>aj [a]
def Ea(lf:Nat)(r:RT):(V->V->V->V->V->V->V->M V):=fun a b c d e f g=>zY lf r lf (Ij lf r) a b c d e f g
def On(lf:Nat)(r:RT)(a b:V):M V:=bP a fun c=>cW c (ii 1) fun d=>wU lf r lf (Ea lf r) a b
 (aV {data:=#[]}) (aV {data:=#[]}) bT d
theorem YS{lf:Nat}{r:RT}(K:KT):∀fu,wU lf r fu (fun a b c d e f g=>K (.exit 0) (zp [0,1,4,5,6,7,13] [a,b,c,d,e,
 f,g]))=fun a b c d e f=>bH (cQ 207 (pb 7 23) lf r) YQ fu (zp YQ [a,b,c,d,e,f]) K
 |0=>by funext a b c d e f;kernel_rfl
 |fu+1=>by
  have ih:=YS (lf:=lf) (r:=r) K fu
  funext a b c d e f
  rw[wU]
  simp only[ih]
  kernel_rfl
theorem Oo{lf:Nat}{r:RT}(K:KT):∀fu,zY lf r fu (fun a=>K (.exit 2) (zp [5] [a]))=fun a b c d e f g=>bH (cQ 207 (pb
 7 15) lf r) YR fu (zp YR [a,b,c,d,e,f,g]) K
 |0=>by funext a b c d e f g;kernel_rfl
 |fu+1=>by
  have ih:=Oo (lf:=lf) (r:=r) K fu
  funext a b c d e f g
  rw[zY]
  simp only[ih]
  kernel_rfl
theorem YT{lf:Nat}{r:RT}:Ij lf r=(fun a=>(tK 207 (pb 6 15) lf r) (.exit 2) (zp [5] [a])):=by kernel_rfl
theorem ajm{lf:Nat}{r:RT}:Ea lf r=(fun a b c d e f g=>(tK 207 (pb 6 23) lf r) (.exit 0) (zp [0,1,4,5,6,7,13] [a,b,c,d,e,f,g])):=by
 unfold Ea
 simp only[YT,Oo]
 kernel_rfl
theorem ajn{lf:Nat}{r:RT}{a b:V}:aE ah gt lf r 207 #[a,b]=inside (On lf r a b):=by
 unfold On
 simp only[ajm,YT,YS,Oo]
 kernel_rfl
def YU(lf:Nat)(r:RT)(a:V):M V:=DC a nS fun b=>ak b (aj [nS]) (oE 3 [] 0 [] fun c=>dj 3 1 c a fun d=>aj [d])
theorem ajo{lf:Nat}{r:RT}{a:V}:aE ah gt lf r 208 #[a]=inside (YU lf r a):=by kernel_rfl
def wV(lf:Nat)(r:RT):Nat->(M V)->V->V->V->V->M V
 |0,_,_,_,_,_=> .fail
 |fu+1,k,a,b,c,d=>bp d (ii 256) fun e=>ak e (Bs 256 c d fun f=>az a fun g=>aq 1 g fun h=>iU 256 h d fun i=>aZ i b fun _=>aA b f fun g=>
  aA d (ii 1) fun b=>wV lf r fu k a g c b) (k)
def YV:List Nat:=[0,2,8,9]
def Eb(lf:Nat)(r:RT):(M V):=aj []
def Oq(lf:Nat)(r:RT)(a:V):M V:=az a fun b=>aq 1 b fun c=>bx 256 c fun d=>wV lf r lf (Eb lf r) a (ii 0) d (ii 0)
theorem YW{lf:Nat}{r:RT}(K:KT):∀fu,wV lf r fu (K (.exit 0) [])=fun a b c d=>bH (cQ 209 (pb 4 3) lf r)
 YV fu (zp YV [a,b,c,d]) K
 |0=>by funext a b c d;kernel_rfl
 |fu+1=>by
  have ih:=YW (lf:=lf) (r:=r) K fu
  funext a b c d
  rw[wV]
  simp only[ih]
  kernel_rfl
theorem ajp{lf:Nat}{r:RT}:Eb lf r=((tK 209 (pb 3 3) lf r) (.exit 0) []):=by kernel_rfl
theorem ajq{lf:Nat}{r:RT}{a:V}:aE ah gt lf r 209 #[a]=inside (Oq lf r a):=by
 unfold Oq
 simp only[ajp,YW]
 kernel_rfl
def YX(lf:Nat)(r:RT)(a b c:V):M V:=pA b (i6 8) fun d=>tf b (i6 24) fun e=>dY .u8 e fun f=>rE f c fun g=>az a fun h=>iU 256 h g fun i
 =>ar i fun j=>rE d j fun l=>aj [l]
theorem ajr{lf:Nat}{r:RT}{a b c:V}:aE ah gt lf r 214 #[a,b,c]=inside (YX lf r a b c):=by kernel_rfl
def Ot(lf:Nat)(r:RT)(a b:V):M V:=az a fun c=>aq 0 c fun d=>ar d fun e=>lT b (ii 8) fun f=>az a fun g=>aq 1 g fun h=>ar h
 fun i=>cW f i fun j=>da e j fun l=>rF b (ii 8) fun c=>cW (ii 7) c fun d=>tf l d fun e=>DA e (i1 1) fun f=>dY .u32 f fun g=>aj [g]
theorem YY{lf:Nat}{r:RT}{a b:V}:aE ah gt lf r 215 #[a,b]=inside (Ot lf r a b):=by kernel_rfl
def YZ(lf:Nat)(r:RT)(a b:V):M V:=az a fun c=>aq 2 c fun d=>ar d fun e=>hX e fun f=>ak f (ay r 228 [a,b] fun c=>bz c (ii
 0) fun d=>ak d (aj [c]) (ay r 233 [a] fun e=>aj [e])) (az a fun c=>aq 0 c fun d=>ar d fun e=>fT e nP fun g=>ak g (ay r 229 [a,b] fun c=>bz
 c (ii 0) fun d=>ak d (aj [c]) (ay r 233 [a] fun e=>aj [e])) (az a fun c=>aq 0 c fun d=>ar d fun e=>ay r 230 [e] fun h=>ak h (az a fun c=>aq
 5 c fun d=>(aG (ar d M.ret)).bind fun e=>az a fun i=>aq 0 i fun j=>(aG (ar j M.ret)).bind fun l=>(aG (ay r 231 [l.1] M.ret)).bind fun m=>
 (aG (cX 5 1 m.1 M.ret)).bind fun n=>(aG (dj 5 1 e.1 n.1 M.ret)).bind fun o=>az a fun p=>aq 5 p fun q=>(aG (aZ q o.1 M.ret)).bind fun s=>fV
 ((!(cT e.2 m.2)&&true)&&true) (bz (ii 0) (ii 0) fun c=>ak c (aj [(ii 0)]) (ay r 233 [a] fun d=>aj [d]))) (ay r 232 [a,b] fun c=>bz c (ii 0) fun
 d=>ak d (aj [c]) (ay r 233 [a] fun e=>aj [e]))))
theorem ajs{lf:Nat}{r:RT}{a b:V}:aE ah gt lf r 216 #[a,b]=inside (YZ lf r a b):=by kernel_rfl
def zZ(lf:Nat)(r:RT):Nat->((M V)×(V->M V))->V->V->V->V->V->V->V->M V
 |0,_,_,_,_,_,_,_,_=> .fail
 |fu+1,k,a,b,c,d,e,f,g=>bp g f fun h=>ak h (dO e g fun i=>ar i fun j=>bp j b fun i=>ak i (k.2 bF) (dJ j c fun l=>ak l (k.2 bF) (aA g (ii
  1) fun i=>zZ lf r fu k a b c d e f i))) (k.1)
def Y0:List Nat:=[0,1,2,6,9,10,11]
def BR(lf:Nat)(r:RT):(M V)×(V->M V):=(aj [bT],fun a=>aj [a])
def Ou(lf:Nat)(r:RT)(a b c:V):M V:=bO a fun d=>zZ lf r lf (BR lf r) a b c bF a d (ii 0)
theorem Y1{lf:Nat}{r:RT}(K:KT):∀fu,zZ lf r fu ((K (.exit 0) [],fun a=>K .ret (zp [6] [a])))=fun a b c d e f g=>bH
 (cQ 217 (pb 5 5) lf r) Y0 fu (zp Y0 [a,b,c,d,e,f,g]) K
 |0=>by funext a b c d e f g;kernel_rfl
 |fu+1=>by
  have ih:=Y1 (lf:=lf) (r:=r) K fu
  funext a b c d e f g
  rw[zZ]
  simp only[ih]
  kernel_rfl
theorem ajt{lf:Nat}{r:RT}:BR lf r=(((tK 217 (pb 4 5) lf r) (.exit 0) [],fun a=>(tK 217 (pb 4 5) lf r) .ret (zp [6] [a]))):=by kernel_rfl
theorem aju{lf:Nat}{r:RT}{a b c:V}:aE ah gt lf r 217 #[a,b,c]=inside (Ou lf r a b c):=by
 unfold Ou
 simp only[ajt,Y1]
 kernel_rfl
def Aa(lf:Nat)(r:RT):Nat->(V->V->V->V->V->V->V->M V)->V->V->V->V->V->V->V->V->V->V->V->M V
 |0,_,_,_,_,_,_,_,_,_,_,_,_=> .fail
 |fu+1,k,a,b,c,d,e,f,g,h,i,j,l=>bp l j fun m=>ak m (fo (ii 2) e fun n=>aA l (ii 1) fun e=>Aa lf r fu k a b c d n f g h i j e) (k a b c e f g h)
def Y2:List Nat:=[0,2,3,5,6,7,8,9,10,14,15]
def Ik(lf:Nat)(r:RT)(k:(V->M V))(again:V->V->V->V->V->V->M V):(V->V->V->V->V->V->V->M V):=fun a b c d e f g=>aA c d fun h=>aA g (ii 1) fun c=>again a b h e f c
def wW(lf:Nat)(r:RT):Nat->(V->M V)->V->V->V->V->V->V->M V
 |0,_,_,_,_,_,_,_=> .fail
 |fu+1,k,a,b,c,d,e,f=>bp f e fun g=>ak g (dO d f fun h=>ar h fun i=>cW (ii 20) i fun h=>Aa lf r lf (Ik lf r
  k (wW lf r fu k)) a b c i (ii 1) d e f g h (ii 0)) (k c)
def Ec:List Nat:=[0,2,3,7,8,9]
abbrev ajv(lf:Nat)(r:RT)(fu:Nat)(k:(V->M V)):(V->V->V->V->V->V->V->M V):=Ik lf r k (wW lf r fu k)
def Il(lf:Nat)(r:RT):(V->M V):=fun a=>aj [a]
def Ov(lf:Nat)(r:RT)(a:V):M V:=bO a fun b=>wW lf r lf (Il lf r) a (ii 0) (ii 0) a b (ii 0)
theorem Y3{lf:Nat}{r:RT}(K:KT):∀fu,Aa lf r fu (fun a b c d e f g=>K (.exit 2) (zp [0,2,3,6,7,8,9] [a,b,c,d,
 e,f,g]))=fun a b c d e f g h i j l=>bH (cQ 218 (pb 16 11467) lf r) Y2 fu (zp Y2 [a,b,c,d,e,f,g,h,i,j,l]) K
 |0=>by funext a b c d e f g h i j l;kernel_rfl
 |fu+1=>by
  have ih:=Y3 (lf:=lf) (r:=r) K fu
  funext a b c d e f g h i j l
  rw[Aa]
  simp only[ih]
  kernel_rfl
theorem ajw{lf:Nat}{r:RT}(K:KT)(fu:Nat):Ik lf r (fun a=>K (.exit 0) (zp [3] [a])) (fun a b c d e f=>bH (cQ 218
 (pb 6 11) lf r) Ec fu (zp Ec [a,b,c,d,e,f]) K)=(fun a b c d e f g=>(iK 218 (pb 6 11) (pb 9 179) Ec fu K lf
 r) (.exit 2) (zp [0,2,3,6,7,8,9] [a,b,c,d,e,f,g])):=by kernel_rfl
theorem Y4{lf:Nat}{r:RT}(K:KT):∀fu,wW lf r fu (fun a=>K (.exit 0) (zp [3] [a]))=fun a b c d e f=>bH (cQ 218 (pb
 6 11) lf r) Ec fu (zp Ec [a,b,c,d,e,f]) K
 |0=>by funext a b c d e f;kernel_rfl
 |fu+1=>by
  have ih:=Y4 (lf:=lf) (r:=r) K fu
  funext a b c d e f
  rw[wW]
  simp only[ih,ajw,Y3]
  kernel_rfl
theorem ajx{lf:Nat}{r:RT}:Il lf r=(fun a=>(tK 218 (pb 5 11) lf r) (.exit 0) (zp [3] [a])):=by kernel_rfl
theorem ajy{lf:Nat}{r:RT}{a:V}:aE ah gt lf r 218 #[a]=inside (Ov lf r a):=by
 unfold Ov
 simp only[ajx,Y4]
 kernel_rfl
def Y5(lf:Nat)(r:RT)(a b:V):M V:=ay r 98 [b] fun c=>bp c (ii 57) fun d=>ak d (aj [(ii 3)]) (ay r 188 [b,(ii 32)] fun c=>aP c
 0 fun e=>aP c 1 fun f=>ay r 188 [b,(ii 1)] fun c=>aP c 0 fun f=>aP c 1 fun g=>ay r 188 [b,(ii 24)] fun c=>aP c 0 fun g=>aP c 1 fun h=>az a
 fun c=>aq 2 c fun h=>aZ h bT fun _=>az a fun c=>aq 3 c fun h=>aZ h e fun _=>dY .i64 g fun c=>az a fun h=>aq 4 h fun i=>aZ i c fun _=>aW f
 (i3 1) fun c=>ak c (aj [(ii 25)]) (aj [(ii 0)]))
theorem ajz{lf:Nat}{r:RT}{a b:V}:aE ah gt lf r 228 #[a,b]=inside (Y5 lf r a b):=by kernel_rfl
def Y6(lf:Nat)(r:RT)(a b:V):M V:=ay r 238 [b] fun c=>aP c 0 fun d=>aP c 1 fun e=>aW e (ii 0) fun c=>ak c (az a fun f=>
 aq 1 f fun g=>ar g fun h=>ay r 239 [d,h] fun i=>az a fun j=>aq 0 j fun l=>aZ l i fun _=>aj [e]) (aj [e])
theorem ajA{lf:Nat}{r:RT}{a b:V}:aE ah gt lf r 229 #[a,b]=inside (Y6 lf r a b):=by kernel_rfl
def Y7(lf:Nat)(r:RT)(a:V):M V:=pB a nP fun b=>ak b (az a fun c=>aq 3 c fun d=>ar d fun e=>dJ e (ii 0) fun f=>ak f (aj
 [bT]) (az a fun g=>aq 4 g fun h=>ar h fun i=>dJ i (ii 0) fun j=>aj [j])) (aj [bF])
theorem ajB{lf:Nat}{r:RT}{a:V}:aE ah gt lf r 230 #[a]=inside (Y7 lf r a):=by kernel_rfl
def Y8(lf:Nat)(r:RT)(a:V):M V:=az a fun b=>aq 3 b fun c=>ar c fun d=>dJ d (ii 0) fun e=>(fun b=>ak e (az a fun c=>aq 3 c
 fun d=>ar d fun f=>cW f (ii 1) fun g=>az a fun h=>aq 3 h fun i=>aZ i g fun _=>b (ii 0)) (az a fun c=>aq 4 c fun d=>ar d fun f=>az a fun c=>
 aq 4 c fun d=>aZ d (ii 0) fun _=>b f)) fun b=>az a fun c=>aq 2 c fun d=>ar d fun f=>ay r 240 [f,b] fun g=>aP g 0 fun h=>aP g 1 fun i=>aj [h]
theorem ajC{lf:Nat}{r:RT}{a:V}:aE ah gt lf r 231 #[a]=inside (Y8 lf r a):=by kernel_rfl
def Y9(lf:Nat)(r:RT)(a b:V):M V:=az a fun c=>aq 0 c fun d=>ar d fun e=>az e fun f=>aq 0 f fun g=>ar g fun h=>ay r 241
 [h,b] fun i=>aP i 0 fun j=>aP i 1 fun l=>bz l (ii 0) fun c=>ak c (aj [l]) (bp j (ii 0) fun d=>ak d (aj [l]) (az a fun c=>aq 0 c fun e=>ar e
 fun f=>ay r 242 [f,j] fun g=>aj [g]))
theorem ajD{lf:Nat}{r:RT}{a b:V}:aE ah gt lf r 232 #[a,b]=inside (Y9 lf r a b):=by kernel_rfl
def Ow(lf:Nat)(r:RT)(a:V):M V:=az a fun b=>aq 0 b fun c=>ar c fun d=>fT d nP fun e=>ak e (aj [(ii 0)]) (az a fun f=>aq 0
 f fun g=>ar g fun h=>az h fun i=>aq 0 i fun j=>ar j fun l=>ay r 243 [l] fun m=>hX m fun n=>ak n (aj [(ii 0)]) (az a fun o=>aq 0 o fun p=>
 ar p fun q=>ay r 230 [q] fun s=>ak s (aj [(ii 0)]) (az a fun b=>aq 4 b fun c=>ar c fun d=>az a fun e=>aq 5 e fun f=>ar f fun g=>bO g fun h
 =>gV d h fun i=>ak i (aj [(ii 23)]) (az a fun b=>aq 6 b fun c=>aZ c bT fun _=>aj [(ii 0)]))))
theorem Y'{lf:Nat}{r:RT}{a:V}:aE ah gt lf r 233 #[a]=inside (Ow lf r a):=by kernel_rfl
def Za(lf:Nat)(r:RT)(a:V):M V:=ay r 126 [a] fun b=>ay r 245 [a] fun c=>aP c 0 fun d=>aP c 1 fun e=>bz e (ii 0) fun c=>ak c (ay r
 246 [a,b] fun f=>aj [d,e]) (aj [d,e])
theorem ajE{lf:Nat}{r:RT}{a:V}:aE ah gt lf r 238 #[a]=inside (Za lf r a):=by kernel_rfl
def Zb(lf:Nat)(r:RT)(a b:V):M V:=bP a fun c=>aA c (ii 2) fun d=>ay r 247 [d] fun e=>aP e 0 fun f=>aP e 1 fun g=>bP a fun c=>ay
 r 248 [c,b] fun d=>aP d 0 fun e=>aP d 1 fun g=>ay r 249 [a] fun c=>aP c 0 fun d=>aP c 1 fun g=>bB z212 [(0,1,f),(1,1,e),(2,1,d)] fun c=>iD 212 c fun g=>aj [g]
theorem ajF{lf:Nat}{r:RT}{a b:V}:aE ah gt lf r 239 #[a,b]=inside (Zb lf r a b):=by kernel_rfl
def Zc(lf:Nat)(r:RT)(a b:V):M V:=fT a nP fun c=>ak c (aj [(i1 0),(ii 7)]) (bp b (ii 0) fun d=>ak d (aj [(i1 0),(ii 1)]) (az a fun
 e=>aq 0 e fun f=>ar f fun g=>bO g fun h=>gV b h fun i=>ak i (aj [(i1 0),(ii 1)]) (ay r 250 [a,b] fun d=>aj [d,(ii 0)])))
theorem ajG{lf:Nat}{r:RT}{a b:V}:aE ah gt lf r 240 #[a,b]=inside (Zc lf r a b):=by kernel_rfl
def Zd(lf:Nat)(r:RT)(a b:V):M V:=fT a nP fun c=>ak c (aj [(ii 0),(ii 7)]) (fT b nP fun d=>ak d (aj [(ii 0),(ii 7)]) (az a fun
 e=>aq 6 e fun f=>ar f fun g=>ak g (aj [(ii 0),(ii 7)]) (az a fun c=>aq 7 c fun d=>ar d fun e=>bz e (ii 0) fun f=>ak f (az a fun c=>aq 7 c
 fun d=>ar d fun e=>aj [(ii 0),e]) (az a fun c=>aq 1 c fun d=>ar d fun e=>ay r 252 [e] fun h=>hX h fun i=>(fun c=>ak i (c (CU
 (CV 253) #[a] #[])) (az a fun d=>aq 4 d fun e=>(aG (ar e M.ret)).bind fun h=>bO h.1 fun j=>az a fun l=>aq 1 l fun m=>(aG (ar m
 M.ret)).bind fun n=>(aG (ay r 254 [n.1] M.ret)).bind fun o=>bp j o.1 fun p=>fV ((!(cT h.2 o.2)&&true)&&true) (ak p (c (CU (CV
 255) #[a] #[])) (c (CU (CV 251) #[a] #[]))))) fun c=>kD ah r c [b] fun d=>aP d 0 fun e=>aP d 1 fun h=>aW h (ii 0) fun d=>ak d
 (aj [e,h]) (bz h (ii 3) fun j=>ak j (az a fun l=>aq 7 l fun m=>aZ m h fun _=>aj [(ii 0),h]) (aj [(ii 0),h]))))))
theorem ajH{lf:Nat}{r:RT}{a b:V}:aE ah gt lf r 241 #[a,b]=inside (Zd lf r a b):=by kernel_rfl
def Ze(lf:Nat)(r:RT)(a b:V):M V:=az a fun c=>aq 1 c fun d=>ar d fun e=>ay r 256 [e,b] fun f=>aP f 0 fun g=>aP f 1 fun h=>
 aP f 2 fun i=>bz i (ii 0) fun c=>ak c (aj [(ii 25)]) (az a fun d=>aq 3 d fun e=>aZ e g fun _=>yV h (ii 0) fun d=>az a fun e=>aq 4 e fun f=>aZ f d fun _=>aj [(ii 0)])
theorem ajI{lf:Nat}{r:RT}{a b:V}:aE ah gt lf r 242 #[a,b]=inside (Ze lf r a b):=by kernel_rfl
def Zf(lf:Nat)(r:RT)(a:V):M V:=pB a nP fun b=>ak b (az a fun c=>aq 6 c fun d=>ar d fun e=>aj [e]) (aj [bF])
theorem ajJ{lf:Nat}{r:RT}{a:V}:aE ah gt lf r 243 #[a]=inside (Zf lf r a):=by kernel_rfl
def Ab(lf:Nat)(r:RT):Nat->(V->V->V->V->V->V->V->V->V->V->M V)->V->V->V->V->V->V->V->V->V->V->V->V->V->V->V->V->V->V->M V
 |0,_,_,_,_,_,_,_,_,_,_,_,_,_,_,_,_,_,_,_=> .fail
 |fu+1,k,a,b,c,d,e,f,g,h,i,j,l,m,n,o,p,q,s,t=>bp t s fun u=>ak u (dO q t fun v=>ar v fun w=>fo (ii 16) g fun v=>aA v w fun x=>
  iU 256 f x fun y=>aZ y bT fun _=>aA t (ii 1) fun v=>Ab lf r fu k a b c d e f g h i j l m n o p q s v) (k a b c d e f j l m n)
def Zg:List Nat:=[0,2,3,4,5,6,8,9,10,20,23,24,25,26,35,38,39,40]
def Im(lf:Nat)(r:RT)(k:(V->M V)×(V->V->M V))(again:V->V->V->V->V->V->V->V->V->V->M V):(V->V->V->V->V->V->V->V->V->V->M V):=fun a b c d e f g h i j=>aA j (ii 1) fun l=>again a b c d e f g h i l
def wX(lf:Nat)(r:RT):Nat->((V->M V)×(V->V->M V))->V->V->V->V->V->V->V->V->V->V->M V
 |0,_,_,_,_,_,_,_,_,_,_,_=> .fail
 |fu+1,k,a,b,c,d,e,f,g,h,i,j=>bp j i fun l=>ak l (dO h j fun m=>ar m fun n=>ay r 188 [a,(ii 16)] fun m=>aP m 0 fun o=>aP m 1 fun p=>
  bz p (ii 0) fun m=>ak m (k.2 (aV {data:=#[]}) p) (ay r 257 [o] fun q=>bO q fun s=>Ab lf r lf (Im lf r k (wX
  lf r fu k)) a b c d e f n o p g h i j l m q s (ii 0))) (k.1 f)
def Ed:List Nat:=[0,2,3,4,5,6,20,23,24,25]
abbrev Zh(lf:Nat)(r:RT)(fu:Nat)(k:(V->M V)×(V->V->M V)):(V->V->V->V->V->V->V->V->V->V->M V):=Im lf r k (wX lf r fu k)
def BS(lf:Nat)(r:RT):(V->M V)×(V->V->M V):=(fun a=>bx 256 a fun b=>ay r 258 [b] fun c=>aW c (aV {data:=#[]}) fun b=>ak b
 (aj [(aV {data:=#[]}),(ii 25)]) (aj [c,(ii 0)]),fun a b=>aj [a,b])
def Ox(lf:Nat)(r:RT)(a:V):M V:=ay r 188 [a,(ii 16)] fun b=>aP b 0 fun c=>aP b 1 fun d=>bz d (ii 0) fun b=>ak b (aj [(aV {
 data:=#[]}),d]) (di 321 Vh fun e=>ay r 257 [c] fun f=>bO f fun g=>wX lf r lf (BS lf r) a (aV {data:=#[]}) (ii 0) c d e b f g (ii 0))
theorem Zi{lf:Nat}{r:RT}(K:KT):∀fu,Ab lf r fu (fun a b c d e f g h i j=>K (.exit 2) (zp [0,2,3,4,5,6,20,23,24,25] [a,b,c,
 d,e,f,g,h,i,j]))=fun a b c d e f g h i j l m n o p q s t=>bH (cQ 245 (pb 18 62255) lf r) Zg fu (zp Zg [a,b,c,d,e,f,g,h,i,j,l,m,n,o,p,q,s,t]) K
 |0=>by funext a b c d e f g h i j l m n o p q s t;kernel_rfl
 |fu+1=>by
  have ih:=Zi (lf:=lf) (r:=r) K fu
  funext a b c d e f g h i j l m n o p q s t
  rw[Ab]
  simp only[ih]
  kernel_rfl
theorem ajK{lf:Nat}{r:RT}(K:KT)(fu:Nat):Im lf r ((fun a=>K (.exit 0) (zp [6] [a]),fun a b=>K .ret (zp [2,3] [a,b]))) (fun a b c
 d e f g h i j=>bH (cQ 245 (pb 8 47) lf r) Ed fu (zp Ed [a,b,c,d,e,f,g,h,i,j]) K)=(fun a b c d e f g h i j=>(iK 245 (pb 8 47) (pb
 9 243) Ed fu K lf r) (.exit 2) (zp [0,2,3,4,5,6,20,23,24,25] [a,b,c,d,e,f,g,h,i,j])):=by kernel_rfl
theorem Zj{lf:Nat}{r:RT}(K:KT):∀fu,wX lf r fu ((fun a=>K (.exit 0) (zp [6] [a]),fun a b=>K .ret (zp [2,3] [a,b])))=fun a b c
 d e f g h i j=>bH (cQ 245 (pb 8 47) lf r) Ed fu (zp Ed [a,b,c,d,e,f,g,h,i,j]) K
 |0=>by funext a b c d e f g h i j;kernel_rfl
 |fu+1=>by
  have ih:=Zj (lf:=lf) (r:=r) K fu
  funext a b c d e f g h i j
  rw[wX]
  simp only[ih,ajK,Zi]
  kernel_rfl
theorem ajL{lf:Nat}{r:RT}:BS lf r=((fun a=>(tK 245 (pb 7 47) lf r) (.exit 0) (zp [6] [a]),fun a b=>(tK 245 (pb 7 47) lf r) .ret (zp [2,3] [a,b]))):=by kernel_rfl
theorem ajM{lf:Nat}{r:RT}{a:V}:aE ah gt lf r 245 #[a]=inside (Ox lf r a):=by
 unfold Ox
 simp only[ajL,Zj]
 kernel_rfl
def Oy(lf:Nat)(r:RT)(a b:V):M V:=fT a nP fun c=>ak c (aj [(ii 7)]) (az a fun d=>aq 1 d fun e=>ar e fun f=>fo (ii 8) f fun g
 =>bp b g fun h=>ak h (aj [(ii 1)]) (ay r 122 [a] fun i=>dJ b i fun j=>ak j (aj [(ii 1)]) (az a fun d=>aq 2 d fun e=>aZ e b fun _=>aj [(ii 0)])))
theorem Zk{lf:Nat}{r:RT}{a b:V}:aE ah gt lf r 246 #[a,b]=inside (Oy lf r a b):=by kernel_rfl
def Zl(lf:Nat)(r:RT)(a:V):M V:=ay r 259 [a] fun b=>aP b 0 fun c=>aP b 1 fun d=>bz d (ii 0) fun b=>ak b (aj [nP,d]) (ay r 260
 [] fun e=>bB Ve [(0,1,a),(1,1,e),(3,1,c)] fun f=>iD 252 f fun g=>aj [g,(ii 0)])
theorem ajN{lf:Nat}{r:RT}{a:V}:aE ah gt lf r 247 #[a]=inside (Zl lf r a):=by kernel_rfl
def Zm(lf:Nat)(r:RT)(a b:V):M V:=ay r 261 [a] fun c=>hX c fun d=>ak d (aj [nP,(ii 1)]) (bp b (ii 0) fun e=>ak e (aj [nP,(ii
 1)]) (dJ b (ii 1099511627776) fun f=>ak f (aj [nP,(ii 1)]) (bB Vi [(0,1,a),(1,1,b),(4,1,(ii 1))] fun c=>iD 328 c fun d=>aj [d,(ii 0)])))
theorem ajO{lf:Nat}{r:RT}{a b:V}:aE ah gt lf r 248 #[a,b]=inside (Zm lf r a b):=by kernel_rfl
def Zn(lf:Nat)(r:RT)(a:V):M V:=ay r 262 [a] fun b=>hX b fun c=>ak c (aj [nP,(ii 1)]) (Bv 5 a fun b=>bB Vg [(0,1,b)] fun d=>iD 317 d fun e=>aj [e,(ii 0)])
theorem ajP{lf:Nat}{r:RT}{a:V}:aE ah gt lf r 249 #[a]=inside (Zn lf r a):=by kernel_rfl
def Zo(lf:Nat)(r:RT)(a b:V):M V:=az a fun c=>aq 0 c fun d=>ar d fun e=>dO e b fun f=>ar f fun g=>az a fun c=>aq 0 c fun d
 =>ar d fun e=>aA b (ii 1) fun f=>Bt 5 1 e (some (ii 1)) (some f) fun h=>az a fun i=>aq 0 i fun j=>ar j fun l=>Bt 5 1 l none (some b) fun m=>G7 1
 h m fun n=>az a fun c=>aq 0 c fun d=>ar d fun e=>dO e (ii 0) fun f=>aZ f g fun _=>aj [g]
theorem ajQ{lf:Nat}{r:RT}{a b:V}:aE ah gt lf r 250 #[a,b]=inside (Zo lf r a b):=by kernel_rfl
def Zp(lf:Nat)(r:RT)(a b:V):M V:=az a fun c=>aq 5 c fun d=>ar d fun e=>lT e (ii 50) fun f=>az a fun c=>aq 2 c fun d=>ar
 d fun e=>bO e fun g=>gV f g fun h=>ak h (aj [(ii (-1)),(ii 25)]) (az a fun c=>aq 4 c fun d=>ar d fun e=>az a fun g=>aq 2 g fun i=>ar i fun
 j=>dO j f fun l=>ar l fun m=>dO e m fun n=>ar n fun o=>ay r 263 [o,b] fun p=>aP p 0 fun q=>aP p 1 fun s=>bz s (ii 0) fun c=>ak c (aj [(ii
 (-1)),s]) (az a fun d=>aq 5 d fun e=>ar e fun g=>aA g (ii 1) fun i=>az a fun j=>aq 5 j fun l=>aZ l i fun _=>az a fun d=>aq 0 d fun e=>ar e
 fun g=>cW g (ii 1) fun i=>aW q i fun j=>az a fun l=>aq 6 l fun m=>aZ m j fun _=>aj [q,(ii 0)]))
theorem ajR{lf:Nat}{r:RT}{a b:V}:aE ah gt lf r 251 #[a,b]=inside (Zp lf r a b):=by kernel_rfl
def Zq(lf:Nat)(r:RT)(a:V):M V:=pB a nP fun b=>ak b (az a fun c=>aq 1 c fun d=>ar d fun e=>dJ e (ii 0) fun f=>ak f (az a
 fun g=>aq 8 g fun h=>ar h fun i=>bO i fun j=>az a fun l=>aq 1 l fun m=>ar m fun n=>aW j n fun o=>aj [o]) (aj [bF])) (aj [bF])
theorem ajS{lf:Nat}{r:RT}{a:V}:aE ah gt lf r 252 #[a]=inside (Zq lf r a):=by kernel_rfl
def Zs(lf:Nat)(r:RT)(a b:V):M V:=az a fun c=>aq 1 c fun d=>ar d fun e=>ay r 264 [e,b] fun f=>az a fun c=>aq 1 c fun d=>
 ar d fun e=>ay r 252 [e] fun g=>ak g (az a fun c=>aq 1 c fun d=>ar d fun e=>ay r 180 [e] fun h=>az a fun i=>aq 2 i fun j=>aZ j h fun _=>aj [(ii (-1)),f]) (aj [(ii (-1)),f])
theorem ajT{lf:Nat}{r:RT}{a b:V}:aE ah gt lf r 253 #[a,b]=inside (Zs lf r a b):=by kernel_rfl
def Zt(lf:Nat)(r:RT)(a:V):M V:=fT a nP fun b=>ak b (aj [(ii 0)]) (az a fun c=>aq 0 c fun d=>ar d fun e=>aj [e])
theorem ajU{lf:Nat}{r:RT}{a:V}:aE ah gt lf r 254 #[a]=inside (Zt lf r a):=by kernel_rfl
def Zu(lf:Nat)(r:RT)(a b:V):M V:=az a fun c=>aq 3 c fun d=>ar d fun e=>ay r 265 [e,b] fun f=>bz f (ii 0) fun c=>ak c (aj
 [(ii (-1)),f]) (az a fun d=>aq 3 d fun e=>ar e fun g=>ay r 266 [g] fun h=>hX h fun i=>ak i (aj [(ii (-1)),f]) (az a fun c=>aq 3 c fun d=>ar
 d fun e=>ay r 268 [e] fun g=>ay r 267 [g] fun h=>aP h 0 fun j=>aP h 1 fun l=>bz l (ii 0) fun c=>ak c (aj [(ii (-1)),l]) (az a fun d=>aq 4 d
 fun e=>ar e fun g=>cX 329 1 j fun h=>dj 329 1 g h fun m=>az a fun n=>aq 4 n fun o=>aZ o m fun _=>az a fun d=>aq 0 d fun e=>ar e fun g=>ay
 r 259 [g] fun h=>aP h 0 fun m=>aP h 1 fun n=>az a fun d=>aq 3 d fun e=>aZ e m fun _=>aj [(ii (-1)),(ii 0)])))
theorem ajV{lf:Nat}{r:RT}{a b:V}:aE ah gt lf r 255 #[a,b]=inside (Zu lf r a b):=by kernel_rfl
def Zv(lf:Nat)(r:RT)(a b:V):M V:=fT a nP fun c=>ak c (aj [(ii 0),(ii 0),(ii 7)]) (az a fun d=>aq 5 d fun e=>ar e fun f=>ak
 f (aj [(ii 0),(ii 0),(ii 7)]) (bp b (ii 0) fun c=>ak c (aj [(ii 0),(ii 0),(ii 25)]) (az a fun d=>aq 0 d fun e=>ar e fun g=>aA g (ii 1) fun h=>
 dJ b h fun i=>ak i (aj [(ii 0),(ii 0),(ii 25)]) (nC b (ii 1) fun c=>ak c (ay r 269 [a,b] fun d=>bz d (ii 0) fun e=>ak e (aj [(ii 0),(ii 0),d])
 (aj [(ii 0),(ii (-1)),(ii 0)])) (cW b (ii 1) fun d=>az a fun e=>aq 0 e fun g=>ar g fun h=>aA h (ii 1) fun j=>aW b j fun l=>(fun e=>ak l (az a
 fun g=>aq 5 g fun h=>aZ h bT fun _=>e (ii (-1))) ((aG (ay r 270 [a] M.ret)).bind fun g=>az a fun h=>aq 1 h fun j=>(aG (ar j M.ret)).bind fun m
 =>aW g.1 m.1 fun n=>fV ((!(cT g.2 m.2)&&true)&&true) (ak n (aj [(ii 0),(ii 0),(ii 2)]) (az a fun g=>aq 2 g fun h=>ar h fun j=>aA j (ii 1)
 fun m=>az a fun o=>aq 2 o fun p=>aZ p m fun _=>e d)))) fun d=>az a fun e=>aq 3 e fun g=>ar g fun h=>az a fun e=>aq 2 e fun g=>ar g fun j
 =>aA j h fun m=>az a fun n=>aq 2 n fun o=>aZ o m fun _=>az a fun e=>aq 3 e fun g=>aZ g (ii 0) fun _=>az a fun e=>aq 4 e fun g=>aZ g (ii 1) fun _=>aj [h,d,(ii 0)])))))
theorem ajW{lf:Nat}{r:RT}{a b:V}:aE ah gt lf r 256 #[a,b]=inside (Zv lf r a b):=by kernel_rfl
def wY(lf:Nat)(r:RT):Nat->(V->M V)->V->V->V->V->M V
 |0,_,_,_,_,_=> .fail
 |fu+1,k,a,b,c,d=>bp d (ii 16) fun e=>ak e (cW (ii 15) d fun f=>tf a f fun g=>DA g (i3 1) fun h=>aW h (i3 1) fun i=>ak i (cX 3 1 d fun f=>
  dj 3 1 c f fun g=>aA d (ii 1) fun c=>wY lf r fu k a b g c) (aA d (ii 1) fun f=>wY lf r fu k a b c f)) (k c)
def Zw:List Nat:=[0,2,3,5]
def Io(lf:Nat)(r:RT):(V->M V):=fun a=>aj [a]
def Oz(lf:Nat)(r:RT)(a:V):M V:=wY lf r lf (Io lf r) a nS nS (ii 0)
theorem Zx{lf:Nat}{r:RT}(K:KT):∀fu,wY lf r fu (fun a=>K (.exit 0) (zp [3] [a]))=fun a b c d=>bH (cQ 257 (pb 6 11) lf r)
 Zw fu (zp Zw [a,b,c,d]) K
 |0=>by funext a b c d;kernel_rfl
 |fu+1=>by
  have ih:=Zx (lf:=lf) (r:=r) K fu
  funext a b c d
  rw[wY]
  simp only[ih]
  kernel_rfl
theorem ajX{lf:Nat}{r:RT}:Io lf r=(fun a=>(tK 257 (pb 5 11) lf r) (.exit 0) (zp [3] [a])):=by kernel_rfl
theorem ajY{lf:Nat}{r:RT}{a:V}:aE ah gt lf r 257 #[a]=inside (Oz lf r a):=by
 unfold Oz
 simp only[ajX,Zx]
 kernel_rfl
def vd(lf:Nat)(r:RT):Nat->(V->M V)->V->V->V->V->V->V->M V
 |0,_,_,_,_,_,_,_=> .fail
 |fu+1,k,a,b,c,d,e,f=>bp f (ii 256) fun g=>ak g (Bs 256 e f fun h=>ak h (dY .u8 f fun i=>cX 5 1 i fun j=>dj 5 1 d j fun l=>aA f (ii 1) fun
  d=>vd lf r fu k a b c l e d) (aA f (ii 1) fun i=>vd lf r fu k a b c d e i)) (k d)
def Zy:List Nat:=[0,1,2,3,6,7]
def Ee(lf:Nat)(r:RT):(V->M V):=fun a=>lU a fun b=>aj [b]
def OA(lf:Nat)(r:RT)(a:V):M V:=iD 321 a fun b=>bx 256 b fun c=>vd lf r lf (Ee lf r) a b (aV {data:=#[]}) nS c (ii 0)
theorem Zz{lf:Nat}{r:RT}(K:KT):∀fu,vd lf r fu (fun a=>K (.exit 0) (zp [3] [a]))=fun a b c d e f=>bH (cQ 258 (pb 6 11) lf
 r) Zy fu (zp Zy [a,b,c,d,e,f]) K
 |0=>by funext a b c d e f;kernel_rfl
 |fu+1=>by
  have ih:=Zz (lf:=lf) (r:=r) K fu
  funext a b c d e f
  rw[vd]
  simp only[ih]
  kernel_rfl
theorem ajZ{lf:Nat}{r:RT}:Ee lf r=(fun a=>(tK 258 (pb 5 11) lf r) (.exit 0) (zp [3] [a])):=by kernel_rfl
theorem aj0{lf:Nat}{r:RT}{a:V}:aE ah gt lf r 258 #[a]=inside (OA lf r a):=by
 unfold OA
 simp only[ajZ,Zz]
 kernel_rfl
def ZA(lf:Nat)(r:RT)(a:V):M V:=ay r 271 [a] fun b=>hX b fun c=>ak c (aj [nP,(ii 1)]) (bB Vj [(0,1,a)] fun b=>iD 333 b fun d=>aj [d,(ii 0)])
theorem aj1{lf:Nat}{r:RT}{a:V}:aE ah gt lf r 259 #[a]=inside (ZA lf r a):=by kernel_rfl
def ZB(lf:Nat)(r:RT):M V:=ay r 272 [] fun a=>bB Nd [(2,6,a)] fun b=>iD 282 b fun c=>aj [c]
theorem aj2{lf:Nat}{r:RT}:aE ah gt lf r 260 #[]=inside (ZB lf r):=by kernel_rfl
def ZC(lf:Nat)(r:RT)(a:V):M V:=gV a (ii 1) fun b=>ak b (nC a (ii 256) fun c=>aj [c]) (aj [bF])
theorem aj3{lf:Nat}{r:RT}{a:V}:aE ah gt lf r 261 #[a]=inside (ZC lf r a):=by kernel_rfl
def wZ(lf:Nat)(r:RT):Nat->((V->M V)×(V->M V))->V->V->V->V->M V
 |0,_,_,_,_,_=> .fail
 |fu+1,k,a,b,c,d=>bp d c fun e=>ak e (dJ d (ii 0) fun f=>ak f (da a d fun g=>cW d (ii 1) fun h=>da a h fun i=>nC g i fun j=>ak j (k.2 bF)
  (aA d (ii 1) fun f=>wZ lf r fu k a b c f)) (aA d (ii 1) fun f=>wZ lf r fu k a b c f)) (k.1 a)
def ZD:List Nat:=[0,2,5,6]
def Iq(lf:Nat)(r:RT):(V->M V)×(V->M V):=(fun a=>bz a (aV {data:=#[]}) fun b=>aj [b],fun a=>aj [a])
def OB(lf:Nat)(r:RT)(a:V):M V:=bP a fun b=>wZ lf r lf (Iq lf r) a bF b (ii 0)
theorem ZE{lf:Nat}{r:RT}(K:KT):∀fu,wZ lf r fu ((fun a=>K (.exit 0) (zp [0] [a]),fun a=>K .ret (zp [2] [a])))=fun a b c d=>bH
 (cQ 262 (pb 5 5) lf r) ZD fu (zp ZD [a,b,c,d]) K
 |0=>by funext a b c d;kernel_rfl
 |fu+1=>by
  have ih:=ZE (lf:=lf) (r:=r) K fu
  funext a b c d
  rw[wZ]
  simp only[ih]
  kernel_rfl
theorem aj4{lf:Nat}{r:RT}:Iq lf r=((fun a=>(tK 262 (pb 4 5) lf r) (.exit 0) (zp [0] [a]),fun a=>(tK 262 (pb 4 5) lf r) .ret (zp [2] [a]))):=by kernel_rfl
theorem aj5{lf:Nat}{r:RT}{a:V}:aE ah gt lf r 262 #[a]=inside (OB lf r a):=by
 unfold OB
 simp only[aj4,ZE]
 kernel_rfl
def ZF(lf:Nat)(r:RT)(a b:V):M V:=fT a nP fun c=>ak c (aj [(ii 0),(ii 7)]) (fT b nP fun d=>ak d (aj [(ii 0),(ii 7)]) (ay r 126
 [b] fun c=>ay r 273 [a,b] fun e=>aP e 0 fun f=>aP e 1 fun g=>bz g (ii 0) fun e=>ak e (ay r 246 [b,c] fun h=>aj [f,g]) (aj [f,g])))
theorem aj6{lf:Nat}{r:RT}{a b:V}:aE ah gt lf r 263 #[a,b]=inside (ZF lf r a b):=by kernel_rfl
def ZG(lf:Nat)(r:RT)(a b:V):M V:=fT a nP fun c=>ak c (aj [(ii 7)]) (fT b nP fun d=>ak d (aj [(ii 7)]) (ay r 252 [a] fun e=>
 ak e (aj [(ii 7)]) (az a fun c=>aq 9 c fun d=>ar d fun f=>ak f (aj [(ii 25)]) (ay r 126 [b] fun c=>az a fun d=>aq 1 d fun g=>ar g fun h=>aW
 h (ii 0) fun i=>(fun d=>ak i (d (CU (CV 275) #[a] #[])) (d (CU (CV 274) #[a] #[]))) fun d=>kD ah r d [b] fun g=>aW g
 (ii 3) fun h=>ak h (ay r 246 [b,c] fun j=>aj [g]) (aj [g])))))
theorem aj7{lf:Nat}{r:RT}{a b:V}:aE ah gt lf r 264 #[a,b]=inside (ZG lf r a b):=by kernel_rfl
def ZH(lf:Nat)(r:RT)(a b:V):M V:=fT a nP fun c=>ak c (aj [(ii 7)]) (fT b nP fun d=>ak d (aj [(ii 7)]) (ay r 266 [a] fun e=>
 ak e (aj [(ii 7)]) (az a fun c=>aq 3 c fun d=>ar d fun f=>ak f (aj [(ii 22)]) (ay r 126 [b] fun c=>ay r 276 [a,b] fun d=>aW d (ii 3) fun g=>
 ak g (ay r 246 [b,c] fun h=>aj [d]) (aj [d])))))
theorem aj8{lf:Nat}{r:RT}{a b:V}:aE ah gt lf r 265 #[a,b]=inside (ZH lf r a b):=by kernel_rfl
def ZI(lf:Nat)(r:RT)(a:V):M V:=pB a nP fun b=>ak b (az a fun c=>aq 2 c fun d=>ar d fun e=>bO e fun f=>az a fun g=>aq 0
 g fun h=>ar h fun i=>aW f i fun j=>aj [j]) (aj [bF])
theorem aj9{lf:Nat}{r:RT}{a:V}:aE ah gt lf r 266 #[a]=inside (ZI lf r a):=by kernel_rfl
def xc(lf:Nat)(r:RT):Nat->(V->V->V->V->V->V->V->V->M V)->V->V->V->V->V->V->V->V->V->V->V->V->M V
 |0,_,_,_,_,_,_,_,_,_,_,_,_,_=> .fail
 |fu+1,k,a,b,c,d,e,f,g,h,i,j,l,m=>bp m l fun n=>ak n (dO j m fun o=>ar o fun p=>aW p f fun o=>ak o (az d fun q=>aq 1 q fun s=>ar
  s fun t=>dY .u32 e fun u=>dO t m fun v=>aZ v u fun _=>az d fun q=>aq 2 q fun s=>ar s fun t=>cX 3 1 m fun u=>dj 3 1 t u fun v=>az d fun w=>
  aq 2 w fun x=>aZ x v fun _=>aA e (ii 1) fun q=>aA m (ii 1) fun e=>xc lf r fu k a b c d q f g h i j l e) (aA m (ii 1) fun q=>xc lf
  r fu k a b c d e f g h i j l q)) (k a b c d e f g h)
def ZJ:List Nat:=[0,2,3,4,5,6,9,18,30,51,52,53]
def Ir(lf:Nat)(r:RT)(k:(V->M V))(again:V->V->V->V->V->V->V->V->M V):(V->V->V->V->V->V->V->V->M V):=fun a b c d e f g h=>aA f (ii 1) fun i=>again a b c d e i g h
def xd(lf:Nat)(r:RT):Nat->(V->M V)->V->V->V->V->V->V->V->V->M V
 |0,_,_,_,_,_,_,_,_,_=> .fail
 |fu+1,k,a,b,c,d,e,f,g,h=>nC f (ii 20) fun i=>ak i (fo e (ii 2) fun j=>az d fun e=>aq 3 e fun l=>iU 21 l f fun m=>aZ m j fun _=>az d
  fun e=>aq 2 e fun l=>ar l fun m=>bO m fun n=>az d fun o=>aq 24 o fun p=>iU 22 p f fun q=>aZ q n fun _=>bO a fun e=>xc lf r lf
  (Ir lf r k (xd lf r fu k)) a b c d j f g h i a e (ii 0)) (k d)
def Ef:List Nat:=[0,2,3,4,5,6,9,18]
abbrev ZK(lf:Nat)(r:RT)(fu:Nat)(k:(V->M V)):(V->V->V->V->V->V->V->V->M V):=Ir lf r k (xd lf r fu k)
def Eg(lf:Nat)(r:RT):(V->M V):=fun a=>az a fun b=>aq 2 b fun c=>ar c fun d=>bO d fun e=>az a fun f=>aq 24 f fun g=>iU 22 g (ii
 21) fun h=>aZ h e fun _=>aj [a,(ii 0)]
def It(lf:Nat)(r:RT)(a:V):M V:=bO a fun b=>bp b (ii 3) fun c=>ak c (aj [nP,(ii 1)]) (bO a fun d=>dJ d (ii 258) fun e=>ak e (aj
 [nP,(ii 1)]) (ay r 277 [a] fun b=>hX b fun c=>ak c (aj [nP,(ii 22)]) ((aG (ay r 208 [a] M.ret)).bind fun b=>bO a fun d=>(aG (uW 31 [(i3 0)] d d
 M.ret)).bind fun f=>bB Nf [(0,1,b.1),(1,1,f.1)] fun g=>(aG (iD 338 g M.ret)).bind fun h=>fV ((!(cT b.2 f.2)&&true)&&true) (xd lf
 r lf (Eg lf r) a nP (ii 0) h.1 (ii 0) (ii 1) e c))))
theorem ZL{lf:Nat}{r:RT}(K:KT):∀fu,xc lf r fu (fun a b c d e f g h=>K (.exit 3) (zp [0,2,3,4,5,6,9,18] [a,b,c,d,e,f,g,
 h]))=fun a b c d e f g h i j l m=>bH (cQ 267 (pb 17 31023) lf r) ZJ fu (zp ZJ [a,b,c,d,e,f,g,h,i,j,l,m]) K
 |0=>by funext a b c d e f g h i j l m;kernel_rfl
 |fu+1=>by
  have ih:=ZL (lf:=lf) (r:=r) K fu
  funext a b c d e f g h i j l m
  rw[xc]
  simp only[ih]
  kernel_rfl
theorem aj'{lf:Nat}{r:RT}(K:KT)(fu:Nat):Ir lf r (fun a=>K (.exit 1) (zp [4] [a])) (fun a b c d e f g h=>bH (cQ 267 (pb 8 47) lf
 r) Ef fu (zp Ef [a,b,c,d,e,f,g,h]) K)=(fun a b c d e f g h=>(iK 267 (pb 8 47) (pb 8 121) Ef fu K lf r) (.exit 3) (zp [0,2,3,
 4,5,6,9,18] [a,b,c,d,e,f,g,h])):=by kernel_rfl
theorem ZM{lf:Nat}{r:RT}(K:KT):∀fu,xd lf r fu (fun a=>K (.exit 1) (zp [4] [a]))=fun a b c d e f g h=>bH (cQ 267 (pb 8 47) lf
 r) Ef fu (zp Ef [a,b,c,d,e,f,g,h]) K
 |0=>by funext a b c d e f g h;kernel_rfl
 |fu+1=>by
  have ih:=ZM (lf:=lf) (r:=r) K fu
  funext a b c d e f g h
  rw[xd]
  simp only[ih,aj',ZL]
  kernel_rfl
theorem aj_{lf:Nat}{r:RT}:Eg lf r=(fun a=>(tK 267 (pb 7 47) lf r) (.exit 1) (zp [4] [a])):=by kernel_rfl
theorem ZN{lf:Nat}{r:RT}{a:V}:aE ah gt lf r 267 #[a]=inside (It lf r a):=by
 unfold It
 simp only[aj_,ZM]
 kernel_rfl
def ZO(lf:Nat)(r:RT)(a:V):M V:=fT a nP fun b=>ak b (aj [nS]) (az a fun c=>aq 2 c fun d=>ar d fun e=>ay r 208 [e] fun f=>aj [f])
theorem aka{lf:Nat}{r:RT}{a:V}:aE ah gt lf r 268 #[a]=inside (ZO lf r a):=by kernel_rfl
def ZP(lf:Nat)(r:RT)(a b:V):M V:=az a fun c=>aq 4 c fun d=>ar d fun e=>pA e b fun f=>az a fun c=>aq 1 c fun d=>(aG
 (ar d M.ret)).bind fun e=>(aG (ay r 270 [a] M.ret)).bind fun g=>cW e.1 g.1 fun h=>dJ f h fun i=>fV ((!(cT e.2 g.2)&&true)&&true) (ak i (aj
 [(ii 2)]) (az a fun c=>aq 3 c fun d=>ar d fun e=>aA e f fun g=>az a fun h=>aq 3 h fun j=>aZ j g fun _=>az a fun c=>aq 4 c fun d=>ar d fun e
 =>fo e (ii 2) fun g=>az a fun h=>aq 4 h fun j=>aZ j g fun _=>aj [(ii 0)]))
theorem akb{lf:Nat}{r:RT}{a b:V}:aE ah gt lf r 269 #[a,b]=inside (ZP lf r a b):=by kernel_rfl
def ZQ(lf:Nat)(r:RT)(a:V):M V:=fT a nP fun b=>ak b (aj [(ii 0)]) (az a fun c=>aq 2 c fun d=>ar d fun e=>az a fun f=>aq
 3 f fun g=>ar g fun h=>aA e h fun i=>aj [i])
theorem akc{lf:Nat}{r:RT}{a:V}:aE ah gt lf r 270 #[a]=inside (ZQ lf r a):=by kernel_rfl
def ZR(lf:Nat)(r:RT)(a:V):M V:=gV a (ii 3) fun b=>ak b (nC a (ii 258) fun c=>aj [c]) (aj [bF])
theorem akd{lf:Nat}{r:RT}{a:V}:aE ah gt lf r 271 #[a]=inside (ZR lf r a):=by kernel_rfl
def BT(lf:Nat)(r:RT):Nat->(V->V->M V)->V->V->V->M V
 |0,_,_,_,_=> .fail
 |fu+1,k,a,b,c=>bp c (ii 6) fun d=>ak d (iU 6 b c fun e=>aZ e c fun _=>aA c (ii 1) fun e=>BT lf r fu k a b e) (k a b)
def ZS:List Nat:=[0,1,3]
def Iu(lf:Nat)(r:RT):(V->V->M V):=fun a b=>bx 6 b fun c=>aX 6 a c fun _=>bx 6 a fun b=>aj [b]
def OC(lf:Nat)(r:RT):M V:=di 280 Nc fun a=>di 280 Nc fun b=>BT lf r lf (Iu lf r) a b (ii 0)
theorem ZT{lf:Nat}{r:RT}(K:KT):∀fu,BT lf r fu (fun a b=>K (.exit 0) (zp [0,1] [a,b]))=fun a b c=>bH (cQ 272 (pb 6 11)
 lf r) ZS fu (zp ZS [a,b,c]) K
 |0=>by funext a b c;kernel_rfl
 |fu+1=>by
  have ih:=ZT (lf:=lf) (r:=r) K fu
  funext a b c
  rw[BT]
  simp only[ih]
  kernel_rfl
theorem ake{lf:Nat}{r:RT}:Iu lf r=(fun a b=>(tK 272 (pb 5 11) lf r) (.exit 0) (zp [0,1] [a,b])):=by kernel_rfl
theorem akf{lf:Nat}{r:RT}:aE ah gt lf r 272 #[]=inside (OC lf r):=by
 unfold OC
 simp only[ake,ZT]
 kernel_rfl
def BU(lf:Nat)(r:RT):Nat->((M V)×(V->V->M V))->V->V->V->V->V->V->M V
 |0,_,_,_,_,_,_,_=> .fail
 |fu+1,k,a,b,c,d,e,f=>nC f (ii 20) fun g=>ak g (ay r 188 [b,(ii 1)] fun h=>aP h 0 fun i=>aP h 1 fun j=>bz j (ii 0) fun h=>ak h (k.2 (ii 0)
  j) (fo (ii 2) e fun l=>dY .i64 i fun m=>aA l m fun n=>az a fun e=>aq 24 e fun l=>iU 22 l f fun m=>ar m fun o=>aA o n fun p=>az a fun q=>aq
  3 q fun s=>iU 21 s f fun t=>ar t fun u=>cW p u fun v=>aA f (ii 1) fun e=>az a fun l=>aq 24 l fun m=>iU 22 m e fun o=>ar o fun p=>bp v p fun
  q=>ak q (az a fun e=>aq 2 e fun l=>ar l fun m=>dO m v fun o=>ar o fun p=>k.2 p (ii 0)) (aA f (ii 1) fun e=>BU lf r fu k a b c d n e))) (k.1)
def ZU:List Nat:=[0,1,4,5,6,7]
def Eh(lf:Nat)(r:RT):(M V)×(V->V->M V):=(aj [(ii 0),(ii 22)],fun a b=>aj [a,b])
def OD(lf:Nat)(r:RT)(a b:V):M V:=BU lf r lf (Eh lf r) a b (ii 0) (ii 0) (ii 0) (ii 1)
theorem ZV{lf:Nat}{r:RT}(K:KT):∀fu,BU lf r fu ((K (.exit 0) [],fun a b=>K .ret (zp [4,5] [a,b])))=fun a b c d e f=>
 bH (cQ 273 (pb 6 11) lf r) ZU fu (zp ZU [a,b,c,d,e,f]) K
 |0=>by funext a b c d e f;kernel_rfl
 |fu+1=>by
  have ih:=ZV (lf:=lf) (r:=r) K fu
  funext a b c d e f
  rw[BU]
  simp only[ih]
  kernel_rfl
theorem akg{lf:Nat}{r:RT}:Eh lf r=(((tK 273 (pb 5 11) lf r) (.exit 0) [],fun a b=>(tK 273 (pb 5 11) lf r) .ret (zp [4,5] [a,b]))):=by kernel_rfl
theorem akh{lf:Nat}{r:RT}{a b:V}:aE ah gt lf r 273 #[a,b]=inside (OD lf r a b):=by
 unfold OD
 simp only[akg,ZV]
 kernel_rfl
def Ac(lf:Nat)(r:RT):Nat->((V->M V)×(V->M V))->V->V->V->V->V->M V
 |0,_,_,_,_,_,_=> .fail
 |fu+1,k,a,b,c,d,e=>bp e d fun f=>ak f (ay r 188 [b,(ii 1)] fun g=>aP g 0 fun h=>aP g 1 fun i=>bz i (ii 0) fun g=>ak g (k.2 i) (aW h (i3
  0) fun j=>ak j (az a fun l=>aq 8 l fun m=>(aG (ar m M.ret)).bind fun n=>az a fun o=>aq 2 o fun p=>(aG (ay r 278 [p,e] M.ret)).bind fun q=>
  (aG (cX 3 1 q.1 M.ret)).bind fun s=>(aG (dj 3 1 n.1 s.1 M.ret)).bind fun t=>az a fun u=>aq 8 u fun v=>(aG (aZ v t.1 M.ret)).bind fun w=>fV
  ((!(cT n.2 q.2)&&true)&&true) (k.2 (ii 0))) (aA e (ii 1) fun l=>Ac lf r fu k a b c d l))) (k.1 a)
def ZW:List Nat:=[0,1,4,11,12]
def BV(lf:Nat)(r:RT):(V->M V)×(V->M V):=(fun a=>ay r 279 [a] fun b=>aj [b],fun a=>aj [a])
def OE(lf:Nat)(r:RT)(a b:V):M V:=az a fun c=>aq 0 c fun d=>ar d fun e=>Ac lf r lf (BV lf r) a b (ii 0) e (ii 0)
theorem ZX{lf:Nat}{r:RT}(K:KT):∀fu,Ac lf r fu ((fun a=>K (.exit 0) (zp [0] [a]),fun a=>K .ret (zp [4] [a])))=
 fun a b c d e=>bH (cQ 274 (pb 5 5) lf r) ZW fu (zp ZW [a,b,c,d,e]) K
 |0=>by funext a b c d e;kernel_rfl
 |fu+1=>by
  have ih:=ZX (lf:=lf) (r:=r) K fu
  funext a b c d e
  rw[Ac]
  simp only[ih]
  kernel_rfl
theorem aki{lf:Nat}{r:RT}:BV lf r=((fun a=>(tK 274 (pb 4 5) lf r) (.exit 0) (zp [0] [a]),fun a=>(tK 274 (pb 4 5) lf r) .ret (zp [4] [a]))):=by kernel_rfl
theorem akj{lf:Nat}{r:RT}{a b:V}:aE ah gt lf r 274 #[a,b]=inside (OE lf r a b):=by
 unfold OE
 simp only[aki,ZX]
 kernel_rfl
def ZY(lf:Nat)(r:RT)(a b:V):M V:=ay r 188 [b,(ii 18)] fun c=>aP c 0 fun d=>aP c 1 fun e=>bz e (ii 0) fun c=>ak c (aj [e])
 (tf d (i6 15) fun f=>dY .i64 f fun g=>DA d (i3 32767) fun h=>dY .i64 h fun i=>ay r 280 [g] fun f=>hX f fun h=>ak h (ay r 279 [a] fun f=>aj [f])
 (aW i (ii 0) fun j=>ak j (ay r 279 [a] fun f=>aj [f]) (az a fun f=>aq 0 f fun h=>aZ h g fun _=>az a fun f=>aq 1 f fun h=>aZ h i fun _=>aj [(ii 0)])))
theorem akk{lf:Nat}{r:RT}{a b:V}:aE ah gt lf r 275 #[a,b]=inside (ZY lf r a b):=by kernel_rfl
def ZZ(lf:Nat)(r:RT)(a b:V):M V:=az a fun c=>aq 1 c fun d=>ar d fun e=>aW e (ii 0) fun f=>ak f (ay r 188 [b,(ii 5)] fun c=>
 aP c 0 fun d=>aP c 1 fun e=>bz e (ii 0) fun c=>ak c (aj [e]) (dY .i64 d fun g=>ay r 281 [a,g] fun h=>aj [h])) (ay r 188 [b,(ii 1)] fun c=>aP
 c 0 fun d=>aP c 1 fun e=>bz e (ii 0) fun c=>ak c (aj [e]) (aW d (i3 0) fun g=>ak g (az a fun h=>aq 2 h fun i=>ar i fun j=>az a fun l=>aq 1
 l fun m=>ar m fun n=>cX 3 1 n fun o=>dj 3 1 j o fun p=>az a fun q=>aq 2 q fun s=>aZ s p fun _=>aj [(ii 0)]) (ay r 188 [b,(ii 1)] fun h=>aP h
 0 fun i=>aP h 1 fun j=>bz j (ii 0) fun d=>ak d (aj [j]) (az a fun e=>aq 1 e fun h=>ar h fun l=>aA l (ii 1) fun m=>dY .i64 i fun n=>fo (ii 2)
 n fun o=>cW m o fun p=>ay r 281 [a,p] fun q=>aj [q]))))
theorem akl{lf:Nat}{r:RT}{a b:V}:aE ah gt lf r 276 #[a,b]=inside (ZZ lf r a b):=by kernel_rfl
def Z0(lf:Nat)(r:RT)(a:V):M V:=ay r 282 [a] fun b=>aP b 0 fun c=>aP b 1 fun d=>aW d (ii 0) fun b=>ak b (aW c (ii 1048576) fun e=>
 ak e (ay r 283 [a,(ii 0)] fun f=>hX f fun g=>aj [g]) (aj [bF])) (aj [bF])
theorem akm{lf:Nat}{r:RT}{a:V}:aE ah gt lf r 277 #[a]=inside (Z0 lf r a):=by kernel_rfl
def Ad(lf:Nat)(r:RT):Nat->(V->V->M V)->V->V->V->V->V->M V
 |0,_,_,_,_,_,_=> .fail
 |fu+1,k,a,b,c,d,e=>dJ e (ii 0) fun f=>ak f (cW e (ii 1) fun g=>az a fun h=>iU 6 h g fun i=>ar i fun j=>az a fun l=>iU 6 l e fun m=>aZ
  m j fun _=>cW e (ii 1) fun g=>Ad lf r fu k a b c d g) (k a d)
def Z1:List Nat:=[0,1,4,5,6]
def Iv(lf:Nat)(r:RT):(V->V->M V):=fun a b=>az a fun c=>iU 6 c (ii 0) fun d=>aZ d b fun _=>aj [b]
def OG(lf:Nat)(r:RT)(a b:V):M V:=az a fun c=>iU 6 c b fun d=>ar d fun e=>Ad lf r lf (Iv lf r) a b (ii 0) e b
theorem Z2{lf:Nat}{r:RT}(K:KT):∀fu,Ad lf r fu (fun a b=>K (.exit 0) (zp [0,5] [a,b]))=fun a b c d e=>bH (cQ
 278 (pb 6 11) lf r) Z1 fu (zp Z1 [a,b,c,d,e]) K
 |0=>by funext a b c d e;kernel_rfl
 |fu+1=>by
  have ih:=Z2 (lf:=lf) (r:=r) K fu
  funext a b c d e
  rw[Ad]
  simp only[ih]
  kernel_rfl
theorem akn{lf:Nat}{r:RT}:Iv lf r=(fun a b=>(tK 278 (pb 5 11) lf r) (.exit 0) (zp [0,5] [a,b])):=by kernel_rfl
theorem ako{lf:Nat}{r:RT}{a b:V}:aE ah gt lf r 278 #[a,b]=inside (OG lf r a b):=by
 unfold OG
 simp only[akn,Z2]
 kernel_rfl
def Z3(lf:Nat)(r:RT)(a:V):M V:=az a fun b=>aq 9 b fun c=>aZ c bT fun _=>aj [(ii 25)]
theorem akp{lf:Nat}{r:RT}{a:V}:aE ah gt lf r 279 #[a]=inside (Z3 lf r a):=by kernel_rfl
def Z4(lf:Nat)(r:RT)(a:V):M V:=gV a (ii 2) fun b=>ak b (nC a (ii 6) fun c=>aj [c]) (aj [bF])
theorem akq{lf:Nat}{r:RT}{a:V}:aE ah gt lf r 280 #[a]=inside (Z4 lf r a):=by kernel_rfl
def Z5(lf:Nat)(r:RT)(a b:V):M V:=ay r 284 [b] fun c=>hX c fun d=>ak d (az a fun c=>aq 3 c fun e=>aZ e bT fun _=>aj [(ii
 22)]) (az a fun c=>aq 1 c fun e=>aZ e b fun _=>aj [(ii 0)])
theorem akr{lf:Nat}{r:RT}{a b:V}:aE ah gt lf r 281 #[a,b]=inside (Z5 lf r a b):=by kernel_rfl
def Ae(lf:Nat)(r:RT):Nat->(V->M V)->V->V->V->V->V->V->V->V->M V
 |0,_,_,_,_,_,_,_,_,_=> .fail
 |fu+1,k,a,b,c,d,e,f,g,h=>bp h g fun i=>ak i (dO f h fun j=>ar j fun l=>cW (ii 20) l fun j=>pA (ii 1) j fun m=>aA d m fun n=>aA h (ii
  1) fun d=>Ae lf r fu k a b c n e f g d) (k d)
def Z6:List Nat:=[0,2,3,4,14,15,16,17]
def Iw(lf:Nat)(r:RT):(V->M V):=fun a=>aj [a,(ii 0)]
def OH(lf:Nat)(r:RT)(a:V):M V:=bO a fun b=>dJ b (ii 258) fun c=>ak c (aj [(ii 0),(ii 1)]) (ay r 285 [a,(ii 0),(ii 20)] fun d=>hX d
 fun e=>ak e (aj [(ii 0),(ii 1)]) (bO a fun b=>Ae lf r lf (Iw lf r) a (ii 0) (ii 0) (ii 0) e a b (ii 0)))
theorem Z7{lf:Nat}{r:RT}(K:KT):∀fu,Ae lf r fu (fun a=>K (.exit 0) (zp [4] [a]))=fun a b c d e f g h=>bH (cQ 282 (pb 7 23)
 lf r) Z6 fu (zp Z6 [a,b,c,d,e,f,g,h]) K
 |0=>by funext a b c d e f g h;kernel_rfl
 |fu+1=>by
  have ih:=Z7 (lf:=lf) (r:=r) K fu
  funext a b c d e f g h
  rw[Ae]
  simp only[ih]
  kernel_rfl
theorem aks{lf:Nat}{r:RT}:Iw lf r=(fun a=>(tK 282 (pb 6 23) lf r) (.exit 0) (zp [4] [a])):=by kernel_rfl
theorem akt{lf:Nat}{r:RT}{a:V}:aE ah gt lf r 282 #[a]=inside (OH lf r a):=by
 unfold OH
 simp only[aks,Z7]
 kernel_rfl
def Z8(lf:Nat)(r:RT)(a b:V):M V:=ay r 286 [a,b] fun c=>gV c (ii 0) fun d=>aj [d]
theorem aku{lf:Nat}{r:RT}{a b:V}:aE ah gt lf r 283 #[a,b]=inside (Z8 lf r a b):=by kernel_rfl
def Z9(lf:Nat)(r:RT)(a:V):M V:=gV a (ii 1) fun b=>ak b (nC a (ii 20) fun c=>aj [c]) (aj [bF])
theorem akv{lf:Nat}{r:RT}{a:V}:aE ah gt lf r 284 #[a]=inside (Z9 lf r a):=by kernel_rfl
def Z'(lf:Nat)(r:RT)(a b c:V):M V:=iD 3 b fun d=>iD 3 c fun e=>ay r 287 [a,(CU (CV 288) #[] #[d,e])] fun f=>hX f fun g=>aj [g]
theorem akw{lf:Nat}{r:RT}{a b c:V}:aE ah gt lf r 285 #[a,b,c]=inside (Z' lf r a b c):=by kernel_rfl
def Af(lf:Nat)(r:RT):Nat->((M V)×(V->M V))->V->V->V->V->V->M V
 |0,_,_,_,_,_,_=> .fail
 |fu+1,k,a,b,c,d,e=>bp e d fun f=>ak f (dO a e fun g=>ar g fun h=>aW b h fun i=>ak i (k.2 e) (aA e (ii 1) fun g=>Af lf r fu k a b c d g)) (k.1)
def aaa:List Nat:=[0,1,4,7,8]
def Ei(lf:Nat)(r:RT):(M V)×(V->M V):=(aj [(ii (-1))],fun a=>aj [a])
def OI(lf:Nat)(r:RT)(a b:V):M V:=bO a fun c=>Af lf r lf (Ei lf r) a b (ii 0) c (ii 0)
theorem aab{lf:Nat}{r:RT}(K:KT):∀fu,Af lf r fu ((K (.exit 0) [],fun a=>K .ret (zp [4] [a])))=fun a b c d e
 =>bH (cQ 286 (pb 5 5) lf r) aaa fu (zp aaa [a,b,c,d,e]) K
 |0=>by funext a b c d e;kernel_rfl
 |fu+1=>by
  have ih:=aab (lf:=lf) (r:=r) K fu
  funext a b c d e
  rw[Af]
  simp only[ih]
  kernel_rfl
theorem akx{lf:Nat}{r:RT}:Ei lf r=(((tK 286 (pb 4 5) lf r) (.exit 0) [],fun a=>(tK 286 (pb 4 5) lf r) .ret (zp [4] [a]))):=by kernel_rfl
theorem aky{lf:Nat}{r:RT}{a b:V}:aE ah gt lf r 286 #[a,b]=inside (OI lf r a b):=by
 unfold OI
 simp only[akx,aab]
 kernel_rfl
def aac(lf:Nat)(r:RT)(a b:V):M V:=ay r 289 [a,b] fun c=>gV c (ii 0) fun d=>aj [d]
theorem akz{lf:Nat}{r:RT}{a b:V}:aE ah gt lf r 287 #[a,b]=inside (aac lf r a b):=by kernel_rfl
def aad(lf:Nat)(r:RT)(a b c:V):M V:=ar b fun d=>bp a d fun e=>ak e (aj [bT]) (ar c fun f=>dJ a f fun g=>aj [g])
theorem akA{lf:Nat}{r:RT}{a b c:V}:aE ah gt lf r 288 #[a,b,c]=inside (aad lf r a b c):=by kernel_rfl
def Ag(lf:Nat)(r:RT):Nat->((M V)×(V->M V))->V->V->V->V->V->M V
 |0,_,_,_,_,_,_=> .fail
 |fu+1,k,a,b,c,d,e=>bp e d fun f=>ak f (dO a e fun g=>ar g fun h=>kD ah r b [h] fun i=>ak i (k.2 e) (aA e (ii 1) fun g=>
  Ag lf r fu k a b c d g)) (k.1)
def aae:List Nat:=[0,1,4,7,8]
def Ej(lf:Nat)(r:RT):(M V)×(V->M V):=(aj [(ii (-1))],fun a=>aj [a])
def OJ(lf:Nat)(r:RT)(a b:V):M V:=bO a fun c=>Ag lf r lf (Ej lf r) a b (ii 0) c (ii 0)
theorem aaf{lf:Nat}{r:RT}(K:KT):∀fu,Ag lf r fu ((K (.exit 0) [],fun a=>K .ret (zp [4] [a])))=fun a b
 c d e=>bH (cQ 289 (pb 5 5) lf r) aae fu (zp aae [a,b,c,d,e]) K
 |0=>by funext a b c d e;kernel_rfl
 |fu+1=>by
  have ih:=aaf (lf:=lf) (r:=r) K fu
  funext a b c d e
  rw[Ag]
  simp only[ih]
  kernel_rfl
theorem akB{lf:Nat}{r:RT}:Ej lf r=(((tK 289 (pb 4 5) lf r) (.exit 0) [],fun a=>(tK 289 (pb 4 5) lf r) .ret (zp [4] [a]))):=by kernel_rfl
theorem akC{lf:Nat}{r:RT}{a b:V}:aE ah gt lf r 289 #[a,b]=inside (OJ lf r a b):=by
 unfold OJ
 simp only[akB,aaf]
 kernel_rfl
end
end Go.Proofs.YtmjolmggelkjlaaGreat
