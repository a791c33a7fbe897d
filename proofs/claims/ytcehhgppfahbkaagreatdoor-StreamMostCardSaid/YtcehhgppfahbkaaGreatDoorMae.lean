import Derived.Test.YtcehhgppfahbkaaGreatDoorRows
import Derived.Test.YtcehhgppfahbkaaGreatDoorMad
import Derived.WideShapes
import Derived.WalkLawsBesides
open Go.Proofs.Tryz renaming prog→ad
open List renaming getD_eq_getElem?_getD→au, length_append→ay, length_cons→bL, length_nil→eF, map_append→gZ, map_cons→lE, length_set→oC, range'→pW, mem_map→De, map_nil→IU, map→IV, length_tail→IW
open Go.Value renaming string→bM, int→iz, func→vP
open Go.Fn renaming func→Df
open Int renaming add_sub_cancel→ahn
set_option linter.unusedVariables false
set_option linter.unusedSimpArgs false
namespace Go.Proofs.YtcehhgppfahbkaaGreatDoor
open Go.RowKit Ev
abbrev oG:Hint:=([],[],[])
noncomputable abbrev an {a:Type} (n:Nat) (x:Value) (k:Value->M a):M a:=aQ n x fun c=>aG c k
noncomputable abbrev bf {d:Type} (a b:Value) (x y:M d):M d:=da a b fun c=>aH c x y
noncomputable abbrev r7 {d:Type} (a b:Value) (x y:M d):M d:=lU a b fun c=>aH c x y
noncomputable abbrev ej {d:Type} (a b:Value) (x y:M d):M d:=j4 a b fun c=>aH c x y
noncomputable abbrev gR {d:Type} (a b:Value) (x y:M d):M d:=rT a b fun c=>aH c x y
noncomputable abbrev dR {d:Type} (a b:Value) (x y:M d):M d:=gu a b fun c=>aH c x y
noncomputable abbrev iO {d:Type} (a b:Value) (x y:M d):M d:=iJ a b fun c=>aH c x y
noncomputable abbrev gS {d:Type} (a b:Value) (x y:M d):M d:=nG a b fun c=>aH c x y
noncomputable abbrev wL {d:Type} (a b:Value) (x y:M d):M d:=wm a b fun c=>aH c x y
noncomputable abbrev MP {d:Type} (a b:Value) (x y:M d):M d:=wo a b fun c=>aH c x y
noncomputable abbrev ail {d:Type} (a b:Value) (x y:M d):M d:=wq a b fun c=>aH c x y
noncomputable abbrev aim {d:Type} (a b:Value) (x y:M d):M d:=zx a b fun c=>aH c x y
noncomputable abbrev ain {d:Type} (a b:Value) (x y:M d):M d:=zy a b fun c=>aH c x y
def ZG:List Hint:=[oG,oG,oG,oG,oG,oG,oG,([0,1,4,5,6,7,8,10,17,30],[4],[]),oG,oG,([0,1,2],[0],[]),([0,1,2,6,7,8,9,10,12,15,16,24,37,38,39,40,50],[6,7],[(0,[10])]),oG,oG,oG,([0,1,4,5],[4,5],[]),([0,1,4,5,19],[4,5],[]),([0,1,4,5,6,7,8,9,10,11,18,21,22,23,33],[4,5],[(0,[6,8])]),([0,2,3,4,5,11,15,16],[2,3],[(0,[0,4])]),([0,1,2,6,7,8,9,17,25],[6],[]),([0,2,4],[2],[]),([0,2,10],[2],[]),oG,oG,([0,1,2,3,8,9,18],[8],[]),oG,oG,([0,2,4],[2],[]),([0,2],[2],[]),([0,2,8],[2],[]),([0,2,3,4,8],[2],[(0,[3])]),oG,oG,oG,oG,oG,oG,oG,oG,oG,oG,oG,oG,oG,oG,oG,oG,oG,oG,oG,oG,oG,([0,2,3,9],[2,3],[]),([0,1,4,5,6,7,9,23,28],[4,5],[]),([0,2,3,4,5,6,7,8,9,11,23,32,44],[2],[]),([0],[0],[]),([0,1,2,6,7,8,11,16,17,18],[6],[(1,[])]),([0,2,3,4,5,6,7,8,15,19],[2,3,4],[(0,[5])]),([0,2,3,5],[2],[]),([0,1],[],[]),([0,11],[],[(0,[])]),oG,oG,([0,1,4],[4],[]),([0,1,2,3,8,9,10,12,15,16,19,61],[8],[]),oG,([0,2,4],[2],[]),([0,1,4],[4],[]),oG,oG,oG,oG,oG,oG,oG,oG,oG,oG,oG,oG,oG,oG,([0],[0],[]),([0],[0],[]),([0,2,4],[2],[]),([0,1,4,5,7,22,44],[4],[]),([0,1,2,4,6,7,8,9,22],[6,7],[]),([0,2,4],[2],[]),([0,2,3,4,10],[2,3],[]),([0,1,4],[4],[]),([0,1,4,29],[],[]),([0,2,3,4,5,7,14],[2,3],[]),([0,2],[2],[]),([0,1,4,5,11,29,52],[4],[(0,[5])]),([0,2,3,6],[2,3],[]),([0,2,3,4,6,7,8],[2],[(0,[3])]),([0,1,4,5,6,7,8,9,10,11,18,24,25,26,37],[4,5],[(0,[8])]),([0,1,4,5,6,7,9,12,13,14,15,16,19,27],[4,5],[(0,[1,6,7])]),([0,1,4,5,6,7,8,11,12,14,23,35,36,37,38],[4,5],[(0,[0,6,8])]),([0,1,4,5,6,7,8,10,11,14,20,21,22,26,36,37,38,41],[4],[(1,[0,1,4,5,6,11,14,20,21,22]),(3,[])]),([0,1,2,6,7,8,9,11,12,14,15,17,25,35,36,37,38,54,55,56,57],[6],[(0,[0,1,2,6,7,8,9,17,25,35,36,37,38]),(2,[])]),oG,oG,oG,oG,oG,([0,2,3,4,6],[2],[(0,[0])]),oG,oG,oG,oG,oG,oG,oG,oG,([0,1,2,3,4,5,6,11,12],[0],[(0,[0,1]),(2,[0,1,2,3,5])]),([0,2,3],[2],[]),([0,1,3,4,30,31,32],[],[(0,[])]),([0,2,4],[2],[]),([0,3],[],[]),([0,2,3,4,5,6,10,26,27,28],[2,3],[(0,[4,5])]),([0,1,4,5,7,26],[4],[(0,[0,5])]),([0,2],[2],[]),([0,2,5],[2],[]),([0,2,3,17],[],[]),([0,1,2,3,4,5,6,7,8,11],[2],[(0,[3])]),([0,2,3,6],[2,3],[]),([0,1,4,5,6,8,16],[4,5],[]),([0,2],[2],[]),([0,2,3,4,6,9],[2],[(0,[3])]),([0,1,4,5,18],[4,5],[]),([0,1,4,5,6,8,12,14,15,16,17],[4,5],[(0,[6])]),([0,2,3,4,7],[2,3],[]),([0,1,3,4,5,6,7,8,9,11,12,19,21,22,23,24,36,54],[4,5],[(0,[6])]),([0,2,3,5,6,7,20],[2],[(0,[0])]),([0,2,3,4,5,7,8,9],[2],[(0,[2,3])]),([0,1,2,6,8,9,12,27,28,29,30],[6],[(1,[])]),([0,1,2,4,5,8],[4],[]),([0,2,3,4,5,6,7,8,9,18,30,51,52,53,54,60],[2,3],[(1,[4]),(3,[0,2,3,4,5,6,9,18])]),([0,1,2,6,7,8,9,11,20],[6],[]),oG,oG,oG,oG,oG,oG,oG,oG,oG,oG,oG,oG,oG,([0,1,2,3,11],[2,3],[]),([0,1,5],[],[]),([0,6,33,42],[],[]),([0,2,4],[2],[]),([0,1,4,6],[4],[]),oG,([0,1,4,5],[4],[]),([0,1,4,5,7,8,9,16],[4],[(0,[])]),([0,1,4,5,6,7,8,9,10,11,18,27,40,41],[4,5],[(1,[4,9])]),([0,1,3,4,17],[4],[]),([0,2,3,4,5,6,11,12,13,14],[2],[(0,[4])]),([0,2],[2],[]),([0,1,4,6,13,14,15,16,21,28],[],[(0,[]),(2,[0,1,4,6,13,14,15,16,21]),(4,[0,1,4,13,14,15])]),([1,2],[],[]),([0,2,4],[2],[]),([0,1,4,5,14],[4,5],[]),([0,1,4,5,6,8,11,12,13,14,15,25],[4,5],[(0,[6])]),([0,1,2],[],[]),([0,2,3,4],[2],[]),([0,1,4,5,6,7,10],[4,5,6],[]),oG,oG,oG,oG,oG,oG,oG,([0,1,2,3,10],[2],[]),([0,1,2,6],[6],[]),([0,2,29],[],[]),([0],[],[]),([0,2,3,65,116],[],[]),([0,2,3,35],[],[]),([0,2,7,13,70],[],[]),oG,([0,1,4,5,6,8,14,17,18,19,20,29],[4,5],[(0,[6])]),([0,2,3,4,5,9,10,11],[2],[(0,[3])]),([0,1,4,5,6,7,8,9,10,11,12,18,19,20,29,30,31,32,42,43,44,48],[4],[(0,[0,1,4,5,6,18,19,20]),(2,[6]),(4,[0,1,4,5,6,8,10,18,19,20,29,30,31])]),([0,1,2,6,7,8,9,10,12,13,14,16,18,20,21,27,28,29,37,38,39,40,70,71,72,73],[6,7],[(0,[0,1,2,6,7,8,9,27,28,29]),(2,[0,1,2,6,7,8,9,27,28,29,37,38,39,40]),(4,[8,18])]),([0,2],[2],[]),([0,1,4],[4],[]),([0,1,3],[3],[]),([0,1,2,3,4],[0],[(0,[0,1])]),([0,1,4,5,12],[4],[(0,[0,5])]),([0,2],[2],[]),([0,2],[2],[]),([0,2],[2],[]),([0,1,2,6],[6],[]),([0,2],[2],[]),([0,1,4],[4],[]),([0,2,3,4,6,14,15,16,17,18],[2,3],[(0,[4])]),([0,1,4],[4],[]),oG,oG,oG,oG,oG,oG,oG,([0,1,2,6,7,8],[6],[]),([0,2,43],[],[]),([0,2,3,5,6,7,8,12],[2],[(0,[3])]),([0,1,4,5,6,7,8,9,11,12,13,14,26],[4],[(0,[5])]),([0,1,4,5,6,7,22,27,28,29],[4,5],[(0,[6])]),([0,2,3,4,5,6,7,20,24,25,26,27,41],[2,3],[(0,[0,2,3,4,20,24,25,26,27])]),([0,1,4,5,7,8,9,16],[4],[(0,[])]),([0,1,4,5,6,14],[4],[(0,[0,5])]),([0,2],[2],[]),([0,2],[2],[]),([0,1,2,4,5,6],[6],[]),oG,oG,oG,oG,oG,oG,oG,oG,oG,([0,1,4,9],[4],[]),([0,2,3,4,5,6,11,12,13,32],[2],[(0,[0,2,3,11,12,13]),(2,[0,5])]),([0,2,3,5,6,7,8,9],[2],[(0,[3])]),([0,2,3,4,5,9,10,11,12],[2],[(0,[3])]),([0,1,2,4],[4],[]),oG,oG,oG,oG,oG,oG,([0,1,2,3,4,12,13,14],[2],[(0,[1,3])]),([0,2,3,46],[2],[]),([0,1,2],[],[]),oG,oG,([0,1],[],[]),([0,1,2,5],[5],[]),([0,1,4,5,6,11,12,13,16,19],[4],[]),([0,1,2,6,7,8,9,13,30,35,54],[],[(0,[0,1,2,6,7,8,13]),(2,[]),(4,[0,1,2,6,7,8,13])]),([0,2],[2],[]),([0,1,2,3,8,9,14,34],[],[(0,[]),(2,[0,1,2,3,8])]),([0,1,2,3,4,10,11,12,13,14,15,16,17,18,19,20,21,22,23,24,28,33,50,58,80,85,103,110,140,151,171,185,199,213],[],[(0,[0,1,2,3,4,10,11,28,33]),(2,[]),(4,[0,1,2,3,4,14,15,28,80,85]),(6,[]),(8,[0,1,2,3,4,18,19,20])]),([0,1,2,3,4,10,11,20,23],[],[(0,[0,2,4,10])]),([0,1,2,3,10,13],[],[(0,[])])]
def gt(f:Nat):Hint:=ZG.getD f ([],[],[])
theorem aE:lW ad=true:=jK
abbrev ii(x:Int):Value:= .int .i64 x
abbrev i1(x:Int):Value:= .int .u8 x
abbrev i3(x:Int):Value:= .int .u32 x
abbrev i6(x:Int):Value:= .int .u64 x
abbrev bT:Value:= .bool true
abbrev bF:Value:= .bool false
abbrev nP:Value:= .pointer none
abbrev nS:Value:= .slice none 0 0
abbrev RT:=FuncId->Array Value->M Value
abbrev V:=Value
abbrev KT:=Ex->Fr->M Value
def pb:Nat->Nat->List Bool|0,_=>[]|l+1,n=>(Nat.beq (n %2) 1)::pb l (n/2)
def zp:List Nat->List Value->Fr|[],_=>[]|_,[]=>[]|a::l,v::m=>(a,v)::zp l m
noncomputable def cQ (f:Nat) (p:List Bool) (lf:Nat) (r:RT):Fr->KT->M Value:=fun s k=>mJ ad r (gt f) lf (qD (EJ ad f) p) s k
noncomputable def tK (f:Nat) (p:List Bool) (lf:Nat) (r:RT):KT:=rX ad r (gt f) lf (EJ ad f) p (J' ad (Yi ad f))
noncomputable def iK (f:Nat) (p q:List Bool) (s:List Nat) (a:Nat) (K:KT) (lf:Nat) (r:RT):KT:=rX ad r (gt f) lf (qD (EJ ad f) p) q (J9 (fun x=>bc (cQ f p lf r) s a (x.ar s) K) K)
theorem aF{lf d:Nat}{f:FuncId}{a:Array Value}{b:RT->M Value}(s:∀r,aw ad gt lf r f a=b r)(h:KN.contains f=false):ah ad gt lf (d+1) f a=b (ah ad gt lf d):=by
 show(match KN.contains f with
  |true=>_
  |false=>aw ad gt lf (ah ad gt lf d) f a:M Value)=_
 rw[h];exact s _
theorem bU{a:Type}{W:Nat->Prop}{n0:Nat}{h:H}{n:Nat}{Q:a->H->Nat->Prop}{lf d:Nat}{f:FuncId}{vs:List Value}{v:Value}{e:Nat->Prop}(s:aa e n (ah ad gt lf d f ⟨vs⟩) h n fun c h' n'=>c=v∧h'=h∧n'=n)(i:n0<=n)(j:∀b,b<n->e b->n0<=b∨W b){k:Value->M a}(x:aa W n0 (k v) h n Q):aa W n0 (aj (ah ad gt lf d) f vs k) h n Q:=by refine aJ aE s i j fun c h' n' _ _ g=> ?_;obtain⟨rfl,rfl,rfl⟩:=g;exact x
noncomputable section
variable {lf:Nat} {r:RT} {a b c d e f g h i j l m:V}
def z3:List Value:=[(ii 0)]
def z31:List Value:=[(ii 0),(ii 0)]
def j9:List Value:=[(bM {data:=#[]}),(i3 0),(ii 0)]
def z51:List Value:=[(ii 0),(ii 0),(bM {data:=#[]}),(i3 0)]
def ZH:List Value:=[(bM {data:=#[]}),(bM {data:=#[]}),bF,bF]
def ZI:List Value:=[(ii 0),(ii 0),(bM {data:=#[]})]
def ZJ:List Value:=[(bM {data:=#[]}),(bM {data:=#[]})]
def z93:List Value:=[nP,(i3 0),bF]
def ZK:List Value:=[(bM {data:=#[]}),(ii 0),(i3 0)]
def z109:List Value:=[(ii 0),(bM {data:=#[]}),bF,nP,bF,nS,nP,(ii 0),nP,(bM {data:=#[]}),bF,(ii 0)]
def uW:List Value:=[(i1 0),(ii 0)]
def z116:List Value:=[(bM {data:=#[]}),(ii 0)]
def MQ:List Value:=[nS,nP,(ii 0)]
def z127:List Value:=[nS,nP,(ii 0),(ii 0),nP]
def MR:List Value:=[nS,(i1 0),(ii 0)]
def MS:List Value:=[(bM {data:=#[]}),nP,nS,nS,(ii 0)]
def MT:List Value:=(qy (i3 0) 256)
def ZL:List Value:=(qy (i3 0) 257)
def MU:List Value:=[(i1 0),(ii 0)]
def Ft:List Value:=(qy bF 256)
def kX:List Value:=[nS,nS]
def nM:List Value:=(qy (i3 0) 16)
def ZM:List Value:=[nS,nS]
def z203:List Value:=[(ii 0),(ii 0),(ii 0)]
def MV:List Value:=(oW [(bM {data:=#[]})] (oW [nS,nS,nS] (oW [(ii 0)] (oW [nS] (oW (qy (ii 0) 9) [bF])))))
def MW:List Value:=[nS]
def Fu:List Value:=(oW [nS,nS,nS] (qy (ii 0) 43))
def Aj:List Value:=[(ii 0),(ii 0),(ii 0),(ii 0),(ii 0),(ii 0)]
def ZN:List Value:=[(ii 0),(ii 0),nS]
def MX:List Value:=[nS,nS,nS,(ii 0)]
theorem Fv:z3=[(ii 0)]:=rfl
theorem MY:z31=[(ii 0),(ii 0)]:=rfl
theorem MZ:j9=[(bM {data:=#[]}),(i3 0),(ii 0)]:=rfl
theorem M0:z51=[(ii 0),(ii 0),(bM {data:=#[]}),(i3 0)]:=rfl
theorem M1:ZH=[(bM {data:=#[]}),(bM {data:=#[]}),bF,bF]:=rfl
theorem M3:ZI=[(ii 0),(ii 0),(bM {data:=#[]})]:=rfl
theorem M4:ZJ=[(bM {data:=#[]}),(bM {data:=#[]})]:=rfl
theorem M5:z93=[nP,(i3 0),bF]:=rfl
theorem M6:ZK=[(bM {data:=#[]}),(ii 0),(i3 0)]:=rfl
theorem M7:z109=[(ii 0),(bM {data:=#[]}),bF,nP,bF,nS,nP,(ii 0),nP,(bM {data:=#[]}),bF,(ii 0)]:=rfl
theorem M8:uW=[(i1 0),(ii 0)]:=rfl
theorem M9:z116=[(bM {data:=#[]}),(ii 0)]:=rfl
theorem Na:MQ=[nS,nP,(ii 0)]:=rfl
theorem Nb:z127=[nS,nP,(ii 0),(ii 0),nP]:=rfl
theorem Nc:MR=[nS,(i1 0),(ii 0)]:=rfl
theorem Nd:MS=[(bM {data:=#[]}),nP,nS,nS,(ii 0)]:=rfl
theorem Nf:MU=[(i1 0),(ii 0)]:=rfl
theorem nN:kX=[nS,nS]:=rfl
theorem Ng:nM=[(i3 0),(i3 0),(i3 0),(i3 0),(i3 0),(i3 0),(i3 0),(i3 0),(i3 0),(i3 0),(i3 0),(i3 0),(i3 0),(i3 0),(i3 0),(i3 0)]:=rfl
theorem Nh:ZM=[nS,nS]:=rfl
theorem Ni:z203=[(ii 0),(ii 0),(ii 0)]:=rfl
theorem Nj:MV=[(bM {data:=#[]}),nS,nS,nS,(ii 0),nS,(ii 0),(ii 0),(ii 0),(ii 0),(ii 0),(ii 0),(ii 0),(ii 0),(ii 0),bF]:=rfl
theorem Nk:MW=[nS]:=rfl
theorem wM:Aj=[(ii 0),(ii 0),(ii 0),(ii 0),(ii 0),(ii 0)]:=rfl
theorem Nl:ZN=[(ii 0),(ii 0),nS]:=rfl
theorem Nn:MX=[nS,nS,nS,(ii 0)]:=rfl
def Np(lf:Nat)(r:RT)(a b:V):M V:=aj r 28 [a] fun c=>(fun d=>aH c (gq (ii 3) a fun e=>ax (ii 12000) e fun f=>d f) (d (ii 0))) fun d=>aj r 29 [a] fun e=>iO e d (ae [bF]) (eI b fun e=>ej e (ii 40) (aj r 10 [] fun e=>ae [e]) (eI b fun h=>ej h a (aj r 10 [] fun e=>ae [e]) (dR b (bM {data:=#[]}) (aj r 10 [] fun e=>ae [e]) (aj r 18 [(ii 1)] fun e=>aW e 0 fun g=>aW e 1 fun h=>aj r 20 [g] fun e=>aj r 30 [b] fun e=>aj r 19 [g,b,e] fun i=>dR h (ii 0) (dR i (ii 0) (ej a (ii 900000) (aj r 10 [] fun n=>ae [n]) (bf a (ii 5) (aj r 10 [] fun o=>ae [o]) (aj r 27 [g] fun o=>aj r 29 [a] fun p=>r7 o p (aj r 10 [] fun s=>ae [s]) (ae [bF])))) (ae [bF])) (ae [bF])))))
theorem ZO:aw ad gt lf r 7 #[a,b]=inside (Np lf r a b):=jK
def Fw(lf:Nat)(r:RT):M V:=aj r 15 [(ii 9),(bM {data:=#[]})] fun a=>aW a 0 fun b=>aW a 1 fun c=>dR c (ii 0) (dR b (bM {data:=#[66,90,104,57,23,114,69,56,80,144,0,0,0,0]}) (aj r 29 [(ii 5)] fun e=>dR e (ii 12015) (aj r 29 [(ii 4)] fun g=>gu g (ii 0) fun h=>ae [h]) (ae [bF])) (ae [bF])) (ae [bF])
theorem Nq:aw ad gt lf r 10 #[]=inside (Fw lf r):=jK
def Ak(lf:Nat)(r:RT):Nat->((V->M V)×(V->V->M V))->V->V->V->V->V->V->V->V->V->V->V->V->V->M V|0,_,_,_,_,_,_,_,_,_,_,_,_,_,_=> .fail|fu+1,k,a,b,c,d,e,f,g,h,i,j,l,m,n=>bf n m (qA 3 l n fun p=>bO 3 p fun q=>dF 42 j9 fun s=>bW 3 s q fun _=>an 0 s fun q=>an 1 s fun u=>aj r 19 [h,q,u] fun v=>iO v (ii 0) (k.2 (bM {data:=#[]}) v) (ax n (ii 1) fun q=>Ak lf r fu k a b c d e f g h i j l m q)) (k.1 h)
def Nr:List Nat:=[0,1,2,6,7,8,9,10,12,24,37,38,39]
def Ns(lf:Nat)(r:RT):(V->M V)×(V->V->M V):=(fun a=>aj r 21 [a] fun b=>aj r 20 [a] fun b=>ae [b,(ii 0)],fun a b=>ae [a,b])
def Fx(lf:Nat)(r:RT)(a b c:V):M V:=aj r 16 [a,b] fun d=>aW d 0 fun e=>aW d 1 fun f=>iJ f (ii 0) fun d=>aH d (ae [(bM {data:=#[]}),f]) (aj r 18 [a] fun g=>aW g 0 fun h=>aW g 1 fun i=>aj r 17 [c,e] fun g=>aW g 0 fun i=>aW g 1 fun j=>aY i fun g=>Ak lf r lf (Ns lf r) a b c (bM {data:=#[]}) (ii 0) e f h i d i g (ii 0))
theorem Nt(K:KT):∀fu,Ak lf r fu ((fun a=>K (.exit 0) (zp [10] [a]),fun a b=>K .ret (zp [6,7] [a,b])))=fun a
 b c d e f g h i j l m n=>bc (cQ 11 (pb 9 95) lf r) Nr fu (zp Nr [a,b,c,d,e,f,g,h,i,j,l,m,n]) K
 |0=>by funext a b c d e f g h i j l m n;kernel_rfl
 |fu+1=>by have k:=Nt K fu;funext a b c d e f g h i j l m n;rw[Ak];simp only[k];kernel_rfl
theorem ZP:Ns lf r=((fun a=>(tK 11 (pb 8 95) lf r) (.exit 0) (zp [10] [a]),fun a b=>(tK 11 (pb 8 95) lf r) .ret (zp [6,7] [a,b]))):=jK
theorem ZQ:aw ad gt lf r 11 #[a,b,c]=inside (Fx lf r a b c):=by unfold Fx;simp only[ZP,Nt];kernel_rfl
def Nu(lf:Nat)(r:RT)(a b:V):M V:=aj r 11 [a,(ii 100000),b] fun c=>aW c 0 fun d=>aW c 1 fun e=>ae [d,e]
theorem ZR:aw ad gt lf r 15 #[a,b]=inside (Nu lf r a b):=jK
def Nv(lf:Nat)(r:RT)(a b:V):M V:=bf a (ii 1) (ae [(ii 0),(ii 1)]) (ej a (ii 9) (ae [(ii 0),(ii 1)]) (bf b (ii 24) (ae [(ii 0),(ii 1)]) (ej b (ii 100000) (ae [(ii 0),(ii 1)]) (gq a b fun c=>bx c (ii 19) fun d=>ae [d,(ii 0)]))))
theorem ZS:aw ad gt lf r 16 #[a,b]=inside (Nv lf r a b):=jK
def wN(lf:Nat)(r:RT):Nat->(V->V->M V)->V->V->V->V->V->V->V->V->V->V->M V|0,_,_,_,_,_,_,_,_,_,_,_=> .fail|fu+1,k,a,b,c,d,e,f,g,h,i,j=>bf j i (jc a j fun m=>aj r 53 [e,m] fun n=>aW n 0 fun o=>aW n 1 fun p=>dF 42 j9 fun q=>bW 3 q o fun _=>aH p (bO 3 q fun m=>db 42 3 m fun n=>cN 42 3 g n fun o=>ax j (ii 1) fun g=>wN lf r fu k a b c d e f o h i g) (ax j (ii 1) fun m=>wN lf r fu k a b c d e f g h i m)) (k e g)
def Nw:List Nat:=[0,1,4,5,6,7,8,18,21,22]
def Ny(lf:Nat)(r:RT):(V->V->M V):=fun a b=>aj r 54 [a] fun c=>cN 42 3 b c fun d=>ae [d,(ii 0)]
def Fy(lf:Nat)(r:RT)(a b:V):M V:=aj r 52 [b] fun c=>aW c 0 fun d=>aW c 1 fun e=>iJ e (ii 0) fun c=>aH c (ae [nS,e]) (eI a fun f=>wN lf r lf (Ny lf r) a b nS (ii 0) d e nS c f (ii 0))
theorem Nz(K:KT):∀fu,wN lf r fu (fun a b=>K (.exit 0) (zp [6,8] [a,b]))=fun a b c d e f g h i j=>bc (cQ 17 (pb
 8 47) lf r) Nw fu (zp Nw [a,b,c,d,e,f,g,h,i,j]) K
 |0=>by funext a b c d e f g h i j;kernel_rfl
 |fu+1=>by have k:=Nz K fu;funext a b c d e f g h i j;rw[wN];simp only[k];kernel_rfl
theorem ZT:Ny lf r=(fun a b=>(tK 17 (pb 7 47) lf r) (.exit 0) (zp [6,8] [a,b])):=jK
theorem ZU:aw ad gt lf r 17 #[a,b]=inside (Fy lf r a b):=by unfold Fy;simp only[ZT,Nz];kernel_rfl
def r8(lf:Nat)(r:RT):Nat->(V->V->M V)->V->V->V->V->V->V->M V|0,_,_,_,_,_,_,_=> .fail|fu+1,k,a,b,c,d,e,f=>bf f (ii 3) (ai d fun h=>aQ 0 h fun i=>(bk (aG i M.ret)).bind fun j=>jc (bM {data:=#[66,90,104]}) f fun l=>(bk (ep .u32 l M.ret)).bind fun m=>(bk (aj r 56 [j.1,m.1,(ii 8)] M.ret)).bind fun n=>lV ((!(fo j.2 m.2)&&true)&&true) (ax f (ii 1) fun h=>r8 lf r fu k a b c d e h)) (k a d)
def NA:List Nat:=[0,2,3,4,11,15]
def Al(lf:Nat)(r:RT):(V->V->M V):=fun a b=>ai b fun c=>an 0 c fun e=>ax (ii 48) a fun f=>ep .u32 f fun g=>aj r 56 [e,g,(ii 8)] fun h=>ae [b,(ii 0)]
def Am(lf:Nat)(r:RT)(a:V):M V:=bf a (ii 1) (ae [nP,(ii 1)]) (j4 a (ii 9) fun c=>aH c (ae [nP,(ii 1)]) (aj r 55 [] fun b=>dh z93 [(0,1,b)] fun d=>fp 93 d fun e=>r8 lf r lf (Al lf r) a nP (ii 0) e c (ii 0)))
theorem NB(K:KT):∀fu,r8 lf r fu (fun a b=>K (.exit 0) (zp [0,4] [a,b]))=fun a b c d e f=>bc (cQ 18 (pb 7
 23) lf r) NA fu (zp NA [a,b,c,d,e,f]) K
 |0=>by funext a b c d e f;kernel_rfl
 |fu+1=>by have g:=NB K fu;funext a b c d e f;rw[r8];simp only[g];kernel_rfl
theorem ZV:Al lf r=(fun a b=>(tK 18 (pb 6 23) lf r) (.exit 0) (zp [0,4] [a,b])):=jK
theorem NC:aw ad gt lf r 18 #[a]=inside (Am lf r a):=by unfold Am;simp only[ZV,NB];kernel_rfl
def Fz(lf:Nat)(r:RT)(a b c:V):M V:=gS a nP (ae [(ii 7)]) (ai a fun e=>an 2 e fun g=>aH g (ae [(ii 7)]) (aj r 57 [b] fun d=>aW d 0 fun e=>aW d 1 fun f=>aW d 2 fun h=>iO h (ii 0) (ae [(ii 1)]) (aj r 24 [a,e,f,c] fun i=>ae [i])))
theorem ND:aw ad gt lf r 19 #[a,b,c]=inside (Fz lf r a b c):=jK
def FA(lf:Nat)(r:RT)(a:V):M V:=gS a nP (ae [(bM {data:=#[]})]) (ai a fun c=>an 0 c fun e=>aj r 58 [e] fun f=>ae [f])
theorem NF:aw ad gt lf r 20 #[a]=inside (FA lf r a):=jK
def NG(lf:Nat)(r:RT)(a:V):M V:=gS a nP (ae [(ii 7)]) (ai a fun c=>an 2 c fun e=>aH e (ae [(ii 7)]) (aj r 59 [a,(i6 25779555029136)] fun b=>ai a fun b=>an 0 b fun d=>ai a fun f=>an 1 f fun h=>aj r 56 [d,h,(ii 32)] fun i=>ai a fun b=>an 0 b fun d=>aj r 60 [d] fun f=>ai a fun b=>aQ 2 b fun c=>aK c bT fun _=>ae [(ii 0)]))
theorem ZW:aw ad gt lf r 21 #[a]=inside (NG lf r a):=jK
def FB(lf:Nat)(r:RT)(a b c d:V):M V:=gS a nP (ae [(ii 7)]) (ai a fun f=>an 2 f fun h=>aH h (ae [(ii 7)]) (eI b fun e=>ej e (ii 900000) (ae [(ii 1)]) (bf c (ii 0) (ae [(ii 1)]) (eI b fun i=>gR c i (ae [(ii 1)]) (aj r 59 [a,(i6 54156738319193)] fun e=>ai a fun e=>an 1 e fun g=>aj r 63 [g,d] fun i=>ai a fun l=>aQ 1 l fun m=>aK m i fun _=>ai a fun e=>an 0 e fun g=>aj r 64 [g,b,c,d] fun i=>ae [i])))))
theorem NH:aw ad gt lf r 24 #[a,b,c,d]=inside (FB lf r a b c d):=jK
def NI(lf:Nat)(r:RT)(a:V):M V:=gS a nP (ae [(ii 0)]) (ai a fun c=>an 0 c fun e=>aj r 66 [e] fun f=>ae [f])
theorem ZX:aw ad gt lf r 27 #[a]=inside (NI lf r a):=jK
def NJ(lf:Nat)(r:RT)(a:V):M V:=gR a (ii 5) (lU a (ii 900000) fun c=>ae [c]) (ae [bF])
theorem ZY:aw ad gt lf r 28 #[a]=inside (NJ lf r a):=jK
def FC(lf:Nat)(r:RT)(a:V):M V:=bf a (ii 5) (ae [(ii 0)]) (ej a (ii 900000) (ae [(ii 0)]) (gq (ii 3) a fun b=>ax (ii 12000) b fun d=>ae [d]))
theorem NK:aw ad gt lf r 29 #[a]=inside (FC lf r a):=jK
def r9(lf:Nat)(r:RT):Nat->(V->M V)->V->V->V->V->M V|0,_,_,_,_,_=> .fail|fu+1,k,a,b,c,d=>eI a fun e=>bf d e (jc a d fun e=>aj r 67 [c,e] fun g=>ax d (ii 1) fun c=>r9 lf r fu k a b g c) (k c)
def NL:List Nat:=[0,2,3,4]
def An(lf:Nat)(r:RT):(V->M V):=fun a=>bx (i3 4294967295) a fun b=>ae [b]
def FD(lf:Nat)(r:RT)(a:V):M V:=r9 lf r lf (An lf r) a (i3 0) (i3 4294967295) (ii 0)
theorem NM(K:KT):∀fu,r9 lf r fu (fun a=>K (.exit 0) (zp [3] [a]))=fun a b c d=>bc (cQ 30 (pb 6 11) lf
 r) NL fu (zp NL [a,b,c,d]) K
 |0=>by funext a b c d;kernel_rfl
 |fu+1=>by have e:=NM K fu;funext a b c d;rw[r9];simp only[e];kernel_rfl
theorem ZZ:An lf r=(fun a=>(tK 30 (pb 5 11) lf r) (.exit 0) (zp [3] [a])):=jK
theorem Z0:aw ad gt lf r 30 #[a]=inside (FD lf r a):=by unfold FD;simp only[ZZ,NM];kernel_rfl
def NN(lf:Nat)(r:RT)(a:V):M V:=bf a (ii 5) (ae [nP,(ii 1)]) (ej a (ii 900000) (ae [nP,(ii 1)]) (aj r 82 [] fun b=>dh MQ [(1,1,b)] fun d=>aj r 83 [] fun e=>dh z127 [(0,3,d),(3,1,a),(4,1,e)] fun f=>fp 127 f fun g=>ae [g,(ii 0)]))
theorem Z3:aw ad gt lf r 52 #[a]=inside (NN lf r a):=jK
def NO(lf:Nat)(r:RT)(a b:V):M V:=dF 42 j9 fun c=>gS a nP (dh j9 [] fun e=>bW 3 c e fun _=>bO 3 c fun a=>ae [a,bF]) (ai a fun e=>an 4 e fun g=>aj r 84 [g] fun h=>dF 113 uW fun i=>bW 2 i h fun _=>ai a fun e=>an 4 e fun g=>aj r 85 [g,b] fun h=>dR h (bM {data:=#[]}) (dh j9 [] fun f=>bW 3 c f fun _=>bO 3 c fun a=>ae [a,bF]) (an 0 i fun g=>gu g b fun j=>(fun f=>aH j (an 1 i fun l=>ax l (ii 1) fun m=>aQ 1 i fun n=>aK n m fun _=>f) (f)) (bO 2 i fun f=>eI h fun g=>aj r 86 [a,f,g] fun l=>aW l 0 fun m=>aW l 1 fun n=>bW 3 c m fun _=>bO 3 c fun a=>ae [a,n])))
theorem Z4:aw ad gt lf r 53 #[a,b]=inside (NO lf r a b):=jK
def NP(lf:Nat)(r:RT)(a:V):M V:=gS a nP (ae [nS]) (ai a fun c=>an 4 c fun e=>aj r 84 [e] fun f=>dF 113 uW fun g=>bW 2 g f fun _=>ai a fun c=>an 4 c fun e=>aj r 87 [e] fun f=>iJ f (bM {data:=#[]}) fun c=>(fun d=>aH c (bO 2 g fun e=>eI f fun h=>aj r 86 [a,e,h] fun i=>aW i 0 fun j=>aW i 1 fun l=>dF 42 j9 fun m=>bW 3 m j fun _=>aH l (bO 3 m fun e=>db 42 3 e fun h=>cN 42 3 nS h fun i=>d i) (d nS)) (d nS)) fun d=>ai a fun e=>aQ 0 e fun h=>aj r 88 [h] fun i=>aW i 0 fun j=>aW i 1 fun l=>dF 42 j9 fun m=>bW 3 m j fun _=>aH l (bO 3 m fun e=>db 42 3 e fun h=>cN 42 3 d h fun i=>ae [i]) (ae [d]))
theorem Z5:aw ad gt lf r 54 #[a]=inside (NP lf r a):=jK
def FE(lf:Nat)(r:RT):M V:=dh MR [] fun a=>fp 133 a fun b=>ae [b]
theorem NQ:aw ad gt lf r 55 #[]=inside (FE lf r):=jK
def r'(lf:Nat)(r:RT):Nat->(M V)->V->V->V->V->V->V->V->V->M V|0,_,_,_,_,_,_,_,_,_=> .fail|fu+1,k,a,b,c,d,e,f,g,h=>bf h g (bx c (ii 1) fun j=>bx j h fun l=>jy b l fun m=>zw m (i3 1) fun n=>ep .u8 n fun o=>aj r 90 [a,o] fun p=>ax h (ii 1) fun j=>r' lf r fu k a b c d e f g j) (k)
def NS:List Nat:=[0,1,2,6,8,11,16,17]
def Ao(lf:Nat)(r:RT):(M V):=ae [(ii 0)]
def Ap(lf:Nat)(r:RT)(a b c:V):M V:=nG a nP fun d=>aH d (ae [(ii 7)]) (aj r 89 [b,c] fun e=>dI e fun f=>aH f (ae [(ii 1)]) (r' lf r lf (Ao lf r) a b c (ii 0) d f c (ii 0)))
theorem NT(K:KT):∀fu,r' lf r fu (K (.exit 1) [])=fun a b c d e f g h=>bc (cQ 56 (pb 6 11) lf r)
 NS fu (zp NS [a,b,c,d,e,f,g,h]) K
 |0=>by funext a b c d e f g h;kernel_rfl
 |fu+1=>by have i:=NT K fu;funext a b c d e f g h;rw[r'];simp only[i];kernel_rfl
theorem Z6:Ao lf r=((tK 56 (pb 5 11) lf r) (.exit 1) []):=jK
theorem NU:aw ad gt lf r 56 #[a,b,c]=inside (Ap lf r a b c):=by unfold Ap;simp only[Z6,NT];kernel_rfl
def sa(lf:Nat)(r:RT):Nat->(V->M V)->V->V->V->V->V->V->V->M V|0,_,_,_,_,_,_,_,_=> .fail|fu+1,k,a,b,c,d,e,f,g=>aj r 92 [e] fun h=>dI h fun i=>aH i (aj r 93 [e,(ii 1099511627776)] fun h=>sa lf r fu k a b c d e f g) (k e)
def NW:List Nat:=[0,2,3,4,5,6,15]
def Aq(lf:Nat)(r:RT):(V->M V):=fun a=>aj r 94 [a] fun b=>aW b 0 fun c=>aW b 1 fun d=>ae [c,d,(ii 0)]
def Ar(lf:Nat)(r:RT)(a:V):M V:=aj r 91 [a] fun b=>aW b 0 fun c=>aW b 1 fun d=>iJ d (ii 0) fun b=>aH b (ae [(bM {data:=#[]}),(ii 0),d]) (sa lf r lf (Aq lf r) a (bM {data:=#[]}) (ii 0) (ii 0) c d b)
theorem NX(K:KT):∀fu,sa lf r fu (fun a=>K (.exit 0) (zp [5] [a]))=fun a b c d e f g=>bc (cQ 57 (pb 6 7) lf r)
 NW fu (zp NW [a,b,c,d,e,f,g]) K
 |0=>by funext a b c d e f g;kernel_rfl
 |fu+1=>by have h:=NX K fu;funext a b c d e f g;rw[sa];simp only[h];kernel_rfl
theorem Z7:Aq lf r=(fun a=>(tK 57 (pb 5 7) lf r) (.exit 0) (zp [5] [a])):=jK
theorem NY:aw ad gt lf r 57 #[a]=inside (Ar lf r a):=by unfold Ar;simp only[Z7,NX];kernel_rfl
def FF(lf:Nat)(r:RT)(a:V):M V:=gS a nP (ae [(bM {data:=#[]})]) (ai a fun c=>an 0 c fun e=>kQ e fun f=>ai a fun c=>aQ 0 c fun d=>aK d nS fun _=>ae [f])
theorem NZ:aw ad gt lf r 58 #[a]=inside (FF lf r a):=jK
def FG(lf:Nat)(r:RT)(a b:V):M V:=ai a fun c=>an 0 c fun e=>jy b (i6 24) fun f=>ep .u32 f fun g=>aj r 56 [e,g,(ii 24)] fun h=>ai a fun c=>an 0 c fun e=>zw b (i6 16777215) fun f=>ep .u32 f fun g=>aj r 56 [e,g,(ii 24)] fun h=>ae []
theorem N0:aw ad gt lf r 59 #[a,b]=inside (FG lf r a b):=jK
def As(lf:Nat)(r:RT):Nat->(M V)->V->M V|0,_,_=> .fail|fu+1,k,a=>wL a nP (ai a fun c=>an 2 c fun e=>oZ e (ii 8) fun f=>iO f (ii 0) (aj r 90 [a,(i1 0)] fun b=>As lf r fu k a) (k)) (k)
def N1:List Nat:=[0]
def N2(lf:Nat)(r:RT):(M V):=ae []
def FH(lf:Nat)(r:RT)(a:V):M V:=As lf r lf (N2 lf r) a
theorem N3(K:KT):∀fu,As lf r fu (K (.exit 0) [])=fun a=>bc (cQ 60 (pb 2 0) lf r) N1 fu (zp N1 [a]) K
 |0=>by funext a;kernel_rfl
 |fu+1=>by have b:=N3 K fu;funext a;rw[As];simp only[b];kernel_rfl
theorem Z8:N2 lf r=((tK 60 (pb 1 0) lf r) (.exit 0) []):=jK
theorem Z9:aw ad gt lf r 60 #[a]=inside (FH lf r a):=by unfold FH;simp only[Z8,N3];kernel_rfl
def FI(lf:Nat)(r:RT)(a b:V):M V:=kO a (i6 1) fun c=>jy a (i6 31) fun d=>oY c d fun e=>oY e b fun f=>ae [f]
theorem N4:aw ad gt lf r 63 #[a,b]=inside (FI lf r a b):=jK
def FJ(lf:Nat)(r:RT)(a b c d:V):M V:=gS a nP (ae [(ii 7)]) (dR b (bM {data:=#[]}) (ae [(ii 1)]) (eI b fun g=>ej g (ii 900000) (ae [(ii 1)]) (bf c (ii 0) (ae [(ii 1)]) (eI b fun j=>gR c j (ae [(ii 1)]) (aj r 95 [b] fun f=>aj r 96 [b,f] fun g=>aW g 0 fun h=>aW g 1 fun i=>eI f fun g=>aj r 97 [h,g] fun i=>aW i 0 fun j=>aW i 1 fun m=>eI f fun g=>ax g (ii 2) fun i=>aj r 98 [j,i] fun m=>aW m 0 fun n=>aW m 1 fun o=>iO o (ii 0) (ae [o]) (aj r 56 [a,d,(ii 32)] fun i=>aj r 56 [a,(i3 0),(ii 1)] fun i=>ep .u32 c fun i=>aj r 56 [a,i,(ii 24)] fun m=>aj r 99 [a,f] fun i=>eI f fun i=>ax i (ii 2) fun m=>aj r 100 [a,j,m] fun n=>ae [n]))))))
theorem N5:aw ad gt lf r 64 #[a,b,c,d]=inside (FJ lf r a b c d):=jK
def N6(lf:Nat)(r:RT)(a:V):M V:=gS a nP (ae [(ii 0)]) (ai a fun c=>an 0 c fun e=>aY e fun f=>ae [f])
theorem Z':aw ad gt lf r 66 #[a]=inside (N6 lf r a):=jK
def N7(lf:Nat)(r:RT)(a b:V):M V:=ep .u32 b fun c=>gq c (i3 16777216) fun d=>oY a d fun e=>aj r 106 [e] fun f=>ae [f]
theorem aaa:aw ad gt lf r 67 #[a,b]=inside (N7 lf r a b):=jK
def N8(lf:Nat)(r:RT):M V:=aj r 115 [] fun a=>dh ZL [(0,256,a),(256,1,(i3 4294967295))] fun b=>fp 161 b fun c=>ae [c]
theorem aab:aw ad gt lf r 82 #[]=inside (N8 lf r):=jK
def N9(lf:Nat)(r:RT):M V:=dh MU [] fun a=>fp 163 a fun b=>ae [b]
theorem aac:aw ad gt lf r 83 #[]=inside (N9 lf r):=jK
def N'(lf:Nat)(r:RT)(a:V):M V:=dF 113 uW fun b=>gS a nP (dh uW [] fun d=>bW 2 b d fun _=>bO 2 b fun a=>ae [a]) (ai a fun d=>aQ 0 d fun e=>bO 2 e fun f=>bW 2 b f fun _=>bO 2 b fun a=>ae [a])
theorem aad:aw ad gt lf r 84 #[a]=inside (N' lf r a):=jK
def Oa(lf:Nat)(r:RT)(a b:V):M V:=gS a nP (ae [(bM {data:=#[]})]) (ai a fun d=>aQ 0 d fun e=>an 1 e fun g=>ej g (ii 0) (ai a fun i=>aQ 0 i fun j=>an 0 j fun m=>iJ m b fun n=>(fun d=>aH n (aj r 116 [a] fun e=>d e) (d (bM {data:=#[]}))) fun d=>ai a fun e=>aQ 0 e fun f=>aQ 0 f fun g=>aK g b fun _=>ai a fun e=>aQ 0 e fun f=>an 1 f fun h=>ax h (ii 1) fun i=>ai a fun j=>aQ 0 j fun l=>aQ 1 l fun m=>aK m i fun _=>ai a fun e=>aQ 0 e fun f=>an 1 f fun h=>dR h (ii 255) (aj r 116 [a] fun e=>ax d e fun f=>ae [f]) (ae [d])) (ai a fun d=>aQ 0 d fun e=>aQ 0 e fun f=>aK f b fun _=>ai a fun d=>aQ 0 d fun e=>an 1 e fun g=>ax g (ii 1) fun h=>ai a fun i=>aQ 0 i fun j=>aQ 1 j fun l=>aK l h fun _=>ai a fun d=>aQ 0 d fun e=>an 1 e fun g=>dR g (ii 255) (aj r 116 [a] fun d=>ax (bM {data:=#[]}) d fun e=>ae [e]) (ae [(bM {data:=#[]})])))
theorem aae:aw ad gt lf r 85 #[a,b]=inside (Oa lf r a b):=jK
def Ob(lf:Nat)(r:RT)(a b c:V):M V:=fp 113 b fun d=>dF 42 j9 fun e=>dF 42 j9 fun f=>ai a fun g=>aQ 0 g fun h=>an 0 h fun j=>aY j fun l=>ax l c fun m=>ai a fun n=>an 3 n fun p=>j4 m p fun q=>(fun g=>aH q (ai a fun h=>aQ 0 h fun i=>aj r 88 [i] fun j=>aW j 0 fun l=>aW j 1 fun m=>bW 3 f l fun _=>g m) (g bF)) fun g=>ai a fun h=>aQ 0 h fun i=>bO 2 d fun j=>aj r 117 [i,j] fun l=>bO 3 f fun h=>bW 3 e h fun _=>bO 3 e fun a=>ae [a,g]
theorem aaf:aw ad gt lf r 86 #[a,b,c]=inside (Ob lf r a b c):=jK
def Oc(lf:Nat)(r:RT)(a:V):M V:=gS a nP (ae [(bM {data:=#[]})]) (aj r 116 [a] fun c=>ae [c])
theorem aag:aw ad gt lf r 87 #[a]=inside (Oc lf r a):=jK
def Od(lf:Nat)(r:RT)(a:V):M V:=dF 42 j9 fun b=>ai a fun c=>an 0 c fun e=>aY e fun f=>dR f (ii 0) (dh j9 [] fun c=>bW 3 b c fun _=>bO 3 b fun a=>ae [a,bF]) (ai a fun c=>aQ 0 c fun d=>(bk (aG d M.ret)).bind fun e=>(bk (kQ e.1 M.ret)).bind fun f=>ai a fun h=>aQ 1 h fun i=>(bk (aG i M.ret)).bind fun j=>(bk (aj r 118 [j.1] M.ret)).bind fun l=>ai a fun m=>aQ 2 m fun n=>(bk (aG n M.ret)).bind fun o=>dh j9 [(0,1,f.1),(1,1,l.1),(2,1,o.1)] fun p=>(bk (dF 42 j9 M.ret)).bind fun q=>(bk (bW 3 q.1 p M.ret)).bind fun s=>lV ((!(fo e.2 l.2)&&true)&&((!(fo f.2 j.2)&&(!(fo f.2 l.2)&&(!(fo f.2 o.2)&&(!(fo f.2 q.2)&&true))))&&((!(fo l.2 o.2)&&(!(fo l.2 q.2)&&true))&&true))) (ai a fun c=>aQ 0 c fun d=>aK d nS fun _=>ai a fun c=>aQ 2 c fun d=>aK d (ii 0) fun _=>ai a fun c=>an 1 c fun e=>aj r 119 [e] fun f=>bO 3 q.1 fun c=>bW 3 b c fun _=>bO 3 b fun a=>ae [a,bT]))
theorem aah:aw ad gt lf r 88 #[a]=inside (Od lf r a):=jK
def FK(lf:Nat)(r:RT)(a b:V):M V:=gR b (ii 0) (r7 b (ii 32) (ep .u64 a fun e=>jy e b fun f=>gu f (i6 0) fun g=>ae [g]) (ae [bF])) (ae [bF])
theorem Oe:aw ad gt lf r 89 #[a,b]=inside (FK lf r a b):=jK
def FL(lf:Nat)(r:RT)(a b:V):M V:=ai a fun c=>an 2 c fun e=>oZ e (ii 8) fun f=>ai a fun c=>an 1 c fun e=>bx (ii 7) f fun g=>kO b g fun h=>wk e h fun i=>ai a fun j=>aQ 1 j fun l=>aK l i fun _=>ai a fun c=>an 2 c fun e=>ax e (ii 1) fun g=>ai a fun h=>aQ 2 h fun i=>aK i g fun _=>dR f (ii 7) (ai a fun d=>an 0 d fun g=>ai a fun h=>an 1 h fun j=>db 5 1 j fun l=>cN 5 1 g l fun m=>ai a fun n=>aQ 0 n fun o=>aK o m fun _=>ai a fun d=>aQ 1 d fun e=>aK e (i1 0) fun _=>ae []) (ae [])
theorem Of:aw ad gt lf r 90 #[a,b]=inside (FL lf r a b):=jK
def FM(lf:Nat)(r:RT)(a:V):M V:=dR a (bM {data:=#[]}) (ae [nP,(ii 1)]) (aj r 120 [a] fun c=>aW c 0 fun d=>aW c 1 fun e=>iO e (ii 0) (ae [nP,e]) (dh MS [(0,1,a),(1,1,d)] fun f=>fp 155 f fun g=>ae [g,(ii 0)]))
theorem Og:aw ad gt lf r 91 #[a]=inside (FM lf r a):=jK
def FN(lf:Nat)(r:RT)(a:V):M V:=wL a nP (ai a fun c=>an 3 c fun e=>aY e fun f=>ai a fun g=>an 0 g fun i=>eI i fun j=>gu f j fun l=>ae [l]) (ae [bF])
theorem Oh:aw ad gt lf r 92 #[a]=inside (FN lf r a):=jK
def mP(lf:Nat)(r:RT):Nat->(V->M V)->V->V->V->V->V->V->M V|0,_,_,_,_,_,_,_=> .fail|fu+1,k,a,b,c,d,e,f=>ai a fun g=>an 1 g fun i=>aj r 122 [i] fun j=>aH j (bf d b (aj r 92 [a] fun m=>dI m fun n=>aH n (aj r 124 [a] fun g=>ax d (ii 1) fun g=>mP lf r fu k a b c g e f) (k d)) (k d)) (k d)
def Oi:List Nat:=[0,1,4,5,11,29]
def nO(lf:Nat)(r:RT):(V->M V):=fun a=>ae [a]
def Au(lf:Nat)(r:RT)(a b:V):M V:=gS a nP (ae [(ii 0)]) (da b (ii 1) fun d=>aH d (ae [(ii 0)]) (ai a fun c=>an 1 c fun f=>aj r 121 [f,b] fun g=>ai a fun c=>an 2 c fun f=>MP f nS (ai a fun i=>an 1 i fun l=>aj r 122 [l] fun m=>aH m (ai a fun c=>an 1 c fun f=>aj r 123 [f] fun h=>ai a fun i=>aQ 2 i fun j=>aK j h fun _=>mP lf r lf (nO lf r) a b (ii 0) g d m) (mP lf r lf (nO lf r) a b (ii 0) g d m)) (mP lf r lf (nO lf r) a b (ii 0) g d bF)))
theorem Oj(K:KT):∀fu,mP lf r fu (fun a=>K (.exit 0) (zp [5] [a]))=fun a b c d e f=>bc (cQ 93 (pb 7
 15) lf r) Oi fu (zp Oi [a,b,c,d,e,f]) K
 |0=>by funext a b c d e f;kernel_rfl
 |fu+1=>by have g:=Oj K fu;funext a b c d e f;rw[mP];simp only[g];kernel_rfl
theorem aai:nO lf r=(fun a=>(tK 93 (pb 6 15) lf r) (.exit 0) (zp [5] [a])):=jK
theorem Ol:aw ad gt lf r 93 #[a,b]=inside (Au lf r a b):=by unfold Au;simp only[aai,Oj];kernel_rfl
def FO(lf:Nat)(r:RT)(a:V):M V:=aj r 92 [a] fun b=>dI b fun c=>aH c (ae [(bM {data:=#[]}),(ii 0)]) (ai a fun b=>aQ 3 b fun d=>(bk (aG d M.ret)).bind fun e=>(bk (kQ e.1 M.ret)).bind fun f=>ai a fun g=>aQ 4 g fun h=>(bk (aG h M.ret)).bind fun i=>lV ((!(fo f.2 i.2)&&true)&&true) (ae [f.1,i.1]))
theorem Om:aw ad gt lf r 94 #[a]=inside (FO lf r a):=jK
def sb(lf:Nat)(r:RT):Nat->(V->M V)->V->V->V->V->V->M V|0,_,_,_,_,_,_=> .fail|fu+1,k,a,b,c,d,e=>bf e d (jc a e fun g=>eW 256 c g fun h=>aK h bT fun _=>ax e (ii 1) fun g=>sb lf r fu k a b c d g) (k c)
def On:List Nat:=[0,2,3,6,7]
def Av(lf:Nat)(r:RT):(V->M V):=fun a=>bO 256 a fun b=>aj r 125 [b] fun c=>ae [c]
def Aw(lf:Nat)(r:RT)(a:V):M V:=dF 169 Ft fun b=>eI a fun c=>sb lf r lf (Av lf r) a (bM {data:=#[]}) b c (ii 0)
theorem Oo(K:KT):∀fu,sb lf r fu (fun a=>K (.exit 0) (zp [3] [a]))=fun a b c d e=>bc (cQ 95 (pb 6 11) lf
 r) On fu (zp On [a,b,c,d,e]) K
 |0=>by funext a b c d e;kernel_rfl
 |fu+1=>by have f:=Oo K fu;funext a b c d e;rw[sb];simp only[f];kernel_rfl
theorem aaj:Av lf r=(fun a=>(tK 95 (pb 5 11) lf r) (.exit 0) (zp [3] [a])):=jK
theorem Oq:aw ad gt lf r 95 #[a]=inside (Aw lf r a):=by unfold Aw;simp only[aaj,Oo];kernel_rfl
def se(lf:Nat)(r:RT):Nat->((V->M V)×(V->V->M V))->V->V->V->V->V->V->V->V->V->V->M V|0,_,_,_,_,_,_,_,_,_,_,_=> .fail|fu+1,k,a,b,c,d,e,f,g,h,i,j=>bf j i (jc a j fun m=>aj r 127 [e,m] fun n=>aW n 0 fun o=>aW n 1 fun p=>iO p (ii 0) (k.2 nS p) (aM g j fun n=>aK n o fun _=>ax j (ii 1) fun n=>se lf r fu k a b c d e f g h i n)) (k.1 g)
def Ot:List Nat:=[0,1,4,5,6,7,8,18,24,25]
def Ax(lf:Nat)(r:RT):(V->M V)×(V->V->M V):=(fun a=>ae [a,(ii 0)],fun a b=>ae [a,b])
def Ay(lf:Nat)(r:RT)(a b:V):M V:=aj r 126 [b] fun c=>aW c 0 fun d=>aW c 1 fun e=>iJ e (ii 0) fun c=>aH c (ae [nS,e]) (eI a fun f=>fQ 3 [(ii 0)] f f fun g=>aY g fun f=>se lf r lf (Ax lf r) a b nS (ii 0) d e g c f (ii 0))
theorem Ou(K:KT):∀fu,se lf r fu ((fun a=>K (.exit 0) (zp [8] [a]),fun a b=>K .ret (zp [4,5] [a,b])))=fun a b
 c d e f g h i j=>bc (cQ 96 (pb 8 47) lf r) Ot fu (zp Ot [a,b,c,d,e,f,g,h,i,j]) K
 |0=>by funext a b c d e f g h i j;kernel_rfl
 |fu+1=>by have k:=Ou K fu;funext a b c d e f g h i j;rw[se];simp only[k];kernel_rfl
theorem aak:Ax lf r=((fun a=>(tK 96 (pb 7 47) lf r) (.exit 0) (zp [8] [a]),fun a b=>(tK 96 (pb 7 47) lf r) .ret (zp [4,5] [a,b]))):=jK
theorem Ov:aw ad gt lf r 96 #[a,b]=inside (Ay lf r a b):=by unfold Ay;simp only[aak,Ou];kernel_rfl
def qK(lf:Nat)(r:RT):Nat->((V->V->V->M V)×(V->V->M V))->V->V->V->V->V->V->V->V->V->V->M V|0,_,_,_,_,_,_,_,_,_,_,_=> .fail|fu+1,k,a,b,c,d,e,f,g,h,i,j=>bf j i (aM h j fun m=>aG m fun n=>bf n (ii 0) (k.2 nS (ii 1)) (gR n b (k.2 nS (ii 1)) (dR n (ii 0) (ax f (ii 1) fun p=>ax j (ii 1) fun f=>qK lf r fu k a b c d e p g h i f) (aj r 129 [f] fun p=>cN 3 1 e p fun q=>ax n (ii 1) fun e=>db 3 1 e fun p=>cN 3 1 q p fun s=>ax j (ii 1) fun e=>qK lf r fu k a b c d s (ii 0) g h i e)))) (k.1 b e f)
def Ow:List Nat:=[0,1,4,5,6,7,12,13,14,15]
def Az(lf:Nat)(r:RT):(V->V->V->M V)×(V->V->M V):=(fun a b c=>aj r 129 [c] fun d=>cN 3 1 b d fun e=>ax a (ii 1) fun b=>db 3 1 b fun d=>cN 3 1 e d fun f=>ae [f,(ii 0)],fun a b=>ae [a,b])
def AA(lf:Nat)(r:RT)(a b:V):M V:=aj r 128 [b] fun c=>dI c fun d=>aH d (ae [nS,(ii 1)]) (aY a fun c=>qK lf r lf (Az lf r) a b nS (ii 0) nS (ii 0) d a c (ii 0))
theorem Ox(K:KT):∀fu,qK lf r fu ((fun a b c=>K (.exit 0) (zp [1,6,7] [a,b,c]),fun a b=>K .ret (zp [4,5]
 [a,b])))=fun a b c d e f g h i j=>bc (cQ 97 (pb 8 47) lf r) Ow fu (zp Ow [a,b,c,d,e,f,g,h,i,j]) K
 |0=>by funext a b c d e f g h i j;kernel_rfl
 |fu+1=>by have k:=Ox K fu;funext a b c d e f g h i j;rw[qK];simp only[k];kernel_rfl
theorem aal:Az lf r=((fun a b c=>(tK 97 (pb 7 47) lf r) (.exit 0) (zp [1,6,7] [a,b,c]),fun a b=>(tK 97 (pb 7
 47) lf r) .ret (zp [4,5] [a,b]))):=by kernel_rfl
theorem Oy:aw ad gt lf r 97 #[a,b]=inside (AA lf r a b):=by unfold AA;simp only[aal,Ox];kernel_rfl
def si(lf:Nat)(r:RT):Nat->(V->V->V->M V)->V->V->V->V->V->V->V->V->V->V->V->M V|0,_,_,_,_,_,_,_,_,_,_,_,_=> .fail|fu+1,k,a,b,c,d,e,f,g,h,i,j,l=>bf l j (aM i l fun n=>aG n fun o=>aj r 132 [o] fun n=>aW n 0 fun p=>aW n 1 fun q=>ax g p fun n=>ax l (ii 1) fun g=>si lf r fu k a b c d e f n h i j g) (k a e g)
def Oz:List Nat:=[0,1,4,5,6,7,8,23,35,36,37]
def FP(lf:Nat)(r:RT):(V->V->V->M V):=fun a b c=>bO 2 b fun d=>aj r 133 [a,d] fun e=>aW e 0 fun f=>aW e 1 fun g=>ax c f fun d=>ae [d,(ii 0)]
def AD(lf:Nat)(r:RT)(a b:V):M V:=aj r 130 [a,b] fun c=>aW c 0 fun d=>aW c 1 fun e=>dF 178 kX fun f=>bW 2 f d fun _=>iJ e (ii 0) fun c=>aH c (ae [(ii 0),e]) (an 1 f fun g=>an 0 f fun i=>aY i fun j=>aj r 131 [g,j] fun l=>aW l 0 fun m=>aW l 1 fun n=>an 0 f fun g=>aY g fun h=>si lf r lf (FP lf r) a b (ii 0) (ii 0) f e m c g h (ii 0))
theorem OA(K:KT):∀fu,si lf r fu (fun a b c=>K (.exit 0) (zp [0,6,8] [a,b,c]))=fun a b c d e f g h i j l=>bc
 (cQ 98 (pb 8 47) lf r) Oz fu (zp Oz [a,b,c,d,e,f,g,h,i,j,l]) K
 |0=>by funext a b c d e f g h i j l;kernel_rfl
 |fu+1=>by have k:=OA K fu;funext a b c d e f g h i j l;rw[si];simp only[k];kernel_rfl
theorem aam:FP lf r=(fun a b c=>(tK 98 (pb 7 47) lf r) (.exit 0) (zp [0,6,8] [a,b,c])):=jK
theorem OB:aw ad gt lf r 98 #[a,b]=inside (AD lf r a b):=by unfold AD;simp only[aam,OA];kernel_rfl
def pA(lf:Nat)(r:RT):Nat->(V->V->V->V->V->V->V->V->V->V->M V)->V->V->V->V->V->V->V->V->V->M V|0,_,_,_,_,_,_,_,_,_,_=> .fail|fu+1,k,a,b,c,d,e,f,g,h,i=>da i (ii 16) fun j=>aH j (qB 16 h i fun l=>iO l (i3 0) (bx (ii 15) i fun n=>kO (i3 1) n fun o=>wk e o fun p=>ax i (ii 1) fun e=>pA lf r fu k a b c d p f g h e) (ax i (ii 1) fun n=>pA lf r fu k a b c d e f g h n)) (k a b c d e f g h i j)
def OC:List Nat:=[0,1,4,5,6,11,14,20,21]
def pB(lf:Nat)(r:RT):Nat->(M V)->V->V->V->V->V->V->V->V->V->V->V->V->M V|0,_,_,_,_,_,_,_,_,_,_,_,_,_=> .fail|fu+1,k,a,b,c,d,e,f,g,h,i,j,l,m=>bf m (ii 16) (qB 16 l m fun o=>iO o (i3 0) (aj r 56 [a,o,(ii 16)] fun q=>ax m (ii 1) fun q=>pB lf r fu k a b c d e f g h i j l q) (ax m (ii 1) fun q=>pB lf r fu k a b c d e f g h i j l q)) (k)
def OD:List Nat:=[0,1,4,5,6,11,14,20,21,22,36,37]
def wO(lf:Nat)(r:RT):(M V):=ae [(ii 0)]
def uX(lf:Nat)(r:RT):(V->V->V->V->V->V->V->V->V->V->M V):=fun a b c d e f g h i j=>aj r 56 [a,e,(ii 16)] fun l=>bO 16 d fun l=>pB lf r lf (wO lf r) a b c d e f g h i j l (ii 0)
def AE(lf:Nat)(r:RT)(a b:V):M V:=nG a nP fun c=>aH c (ae [(ii 7)]) (aj r 134 [b] fun d=>dI d fun e=>aH e (ae [(ii 1)]) (aj r 135 [b] fun d=>dF 184 nM fun f=>bW 16 f d fun _=>bO 16 f fun d=>pA lf r lf (uX lf r) a b (ii 0) f (i3 0) c e d (ii 0)))
theorem OE(K:KT):∀fu,pA lf r fu (fun a b c d e f g h i j=>K (.exit 1) (zp [0,1,4,5,6,11,14,20,21,22] [a,b,
 c,d,e,f,g,h,i,j]))=fun a b c d e f g h i=>bc (cQ 99 (pb 8 47) lf r) OC fu (zp OC [a,b,c,d,e,f,g,h,i]) K
 |0=>by funext a b c d e f g h i;kernel_rfl
 |fu+1=>by have k:=OE K fu;funext a b c d e f g h i;rw[pA];simp only[k];kernel_rfl
theorem FQ(K:KT):∀fu,pB lf r fu (K (.exit 3) [])=fun a b c d e f g h i j l m=>bc (cQ 99 (pb 10 191) lf r)
 OD fu (zp OD [a,b,c,d,e,f,g,h,i,j,l,m]) K
 |0=>by funext a b c d e f g h i j l m;kernel_rfl
 |fu+1=>by have k:=FQ K fu;funext a b c d e f g h i j l m;rw[pB];simp only[k];kernel_rfl
theorem OG:wO lf r=((tK 99 (pb 9 191) lf r) (.exit 3) []):=jK
theorem aan:uX lf r=(fun a b c d e f g h i j=>(tK 99 (pb 7 47) lf r) (.exit 1) (zp [0,1,4,5,6,11,14,20,21,22] [a,b,c,d,e,f,g,h,i,j])):=by unfold uX;simp only[OG,FQ];kernel_rfl
theorem OH:aw ad gt lf r 99 #[a,b]=inside (AE lf r a b):=by unfold AE;simp only[aan,OG,OE,FQ];kernel_rfl
def sq(lf:Nat)(r:RT):Nat->(V->V->V->V->V->V->V->V->V->V->V->V->V->M V)->V->V->V->V->V->V->V->V->V->V->V->V->M V|0,_,_,_,_,_,_,_,_,_,_,_,_,_=> .fail|fu+1,k,a,b,c,d,e,f,g,h,i,j,l,m=>da m l fun n=>aH n (aM j m fun o=>aG o fun p=>aj r 137 [a,p] fun o=>aj r 138 [p] fun o=>aW o 0 fun q=>aW o 1 fun s=>db 188 1 q fun o=>cN 188 1 g o fun s=>ax m (ii 1) fun g=>sq lf r fu k a b c d e f s h i j l g) (k a b c d e f g h i j l m n)
def OI:List Nat:=[0,1,2,6,7,8,9,17,25,35,36,37]
def su(lf:Nat)(r:RT):Nat->(M V)->V->V->V->V->V->V->V->V->V->V->V->V->V->V->V->V->M V|0,_,_,_,_,_,_,_,_,_,_,_,_,_,_,_,_,_=> .fail|fu+1,k,a,b,c,d,e,f,g,h,i,j,l,m,n,o,p,q=>bf q p (aM o q fun t=>aG t fun u=>an 1 e fun v=>mH q (ii 50) fun w=>aM v w fun x=>aG x fun y=>aM g y fun z=>aG z fun A=>aj r 139 [A,a,u] fun B=>ax q (ii 1) fun t=>su lf r fu k a b c d e f g h i j l m n o p t) (k)
def OJ:List Nat:=[0,1,2,6,7,8,9,17,25,35,36,37,38,54,55,56]
def AF(lf:Nat)(r:RT):(M V):=ae [(ii 0)]
def AG(lf:Nat)(r:RT):(V->V->V->V->V->V->V->V->V->V->V->V->V->M V):=fun a b c d e f g h i j l m n=>aY b fun o=>su lf r lf (AF lf r) a b c d e f g h i j l m n b o (ii 0)
def AH(lf:Nat)(r:RT)(a b c:V):M V:=nG a nP fun d=>aH d (ae [(ii 7)]) (aj r 130 [b,c] fun e=>aW e 0 fun f=>aW e 1 fun g=>dF 178 kX fun h=>bW 2 h f fun _=>iJ g (ii 0) fun e=>aH e (ae [g]) (an 1 h fun i=>an 0 h fun l=>aY l fun m=>aj r 136 [a,i,m] fun n=>an 0 h fun i=>aY i fun j=>sq lf r lf (AG lf r) a b c (ii 0) h g nS d e i j (ii 0)))
theorem OK(K:KT):∀fu,sq lf r fu (fun a b c d e f g h i j l m n=>K (.exit 0) (zp [0,1,2,6,7,8,9,17,25,35,
 36,37,38] [a,b,c,d,e,f,g,h,i,j,l,m,n]))=fun a b c d e f g h i j l m=>bc (cQ 100 (pb 10 191) lf r) OI fu (zp OI [a,b,c,d,e,f,g,h,i,j,l,m]) K
 |0=>by funext a b c d e f g h i j l m;kernel_rfl
 |fu+1=>by have k:=OK K fu;funext a b c d e f g h i j l m;rw[sq];simp only[k];kernel_rfl
theorem FU(K:KT):∀fu,su lf r fu (K (.exit 2) [])=fun a b c d e f g h i j l m n o p q=>bc (cQ 100 (pb 11 383) lf
 r) OJ fu (zp OJ [a,b,c,d,e,f,g,h,i,j,l,m,n,o,p,q]) K
 |0=>by funext a b c d e f g h i j l m n o p q;kernel_rfl
 |fu+1=>by have k:=FU K fu;funext a b c d e f g h i j l m n o p q;rw[su];simp only[k];kernel_rfl
theorem OL:AF lf r=((tK 100 (pb 10 383) lf r) (.exit 2) []):=jK
theorem aao:AG lf r=(fun a b c d e f g h i j l m n=>(tK 100 (pb 9 191) lf r) (.exit 0) (zp [0,1,2,6,7,8,9,17,25,
 35,36,37,38] [a,b,c,d,e,f,g,h,i,j,l,m,n])):=by
 unfold AG;simp only[OL,FU];kernel_rfl
theorem OM:aw ad gt lf r 100 #[a,b,c]=inside (AH lf r a b c):=by unfold AH;simp only[aao,OL,OK,FU];kernel_rfl
def qL(lf:Nat)(r:RT):Nat->(V->M V)->V->V->V->M V|0,_,_,_,_=> .fail|fu+1,k,a,b,c=>bf c (ii 8) (gR a (i3 2147483648) (bx a (i3 2147483648) fun f=>gq f (i3 2) fun g=>oY g (i3 79764919) fun h=>ax c (ii 1) fun a=>qL lf r fu k h b a) (gq a (i3 2) fun f=>ax c (ii 1) fun a=>qL lf r fu k f b a)) (k a)
def ON:List Nat:=[0,2,3]
def AJ(lf:Nat)(r:RT):(V->M V):=fun a=>ae [a]
def FV(lf:Nat)(r:RT)(a:V):M V:=qL lf r lf (AJ lf r) a (i3 0) (ii 0)
theorem OO(K:KT):∀fu,qL lf r fu (fun a=>K (.exit 0) (zp [0] [a]))=fun a b c=>bc (cQ 106 (pb 5 5) lf
 r) ON fu (zp ON [a,b,c]) K
 |0=>by funext a b c;kernel_rfl
 |fu+1=>by have d:=OO K fu;funext a b c;rw[qL];simp only[d];kernel_rfl
theorem aap:AJ lf r=(fun a=>(tK 106 (pb 4 5) lf r) (.exit 0) (zp [0] [a])):=jK
theorem aaq:aw ad gt lf r 106 #[a]=inside (FV lf r a):=by unfold FV;simp only[aap,OO];kernel_rfl
def AK(lf:Nat)(r:RT):Nat->(V->V->V->V->V->M V)->V->V->V->V->V->V->V->M V|0,_,_,_,_,_,_,_,_=> .fail|fu+1,k,a,b,c,d,e,f,g=>bf g (ii 8) (jy d (i6 31) fun i=>kO d (i6 1) fun j=>gq i (i3 79764919) fun l=>oY j l fun m=>ax g (ii 1) fun d=>AK lf r fu k a b c m e f d) (k a b c d e)
def OP:List Nat:=[0,1,2,3,5,6,11]
def OQ(lf:Nat)(r:RT)(k:(V->V->M V))(g:V->V->V->M V):(V->V->V->V->V->M V):=fun a b c d e=>eW 256 b c fun f=>aK f d fun _=>ax e (ii 1) fun f=>g a b f
def AL(lf:Nat)(r:RT):Nat->(V->V->M V)->V->V->V->M V|0,_,_,_,_=> .fail|fu+1,k,a,b,c=>da c (ii 256) fun d=>aH d (ep .u32 c fun e=>kO e (i6 24) fun f=>AK lf r lf (OQ lf r k (AL lf r fu k)) a b c f c d (ii 0)) (k a b)
def wP:List Nat:=[0,1,5]
def OR(lf:Nat)(r:RT):(V->V->M V):=fun a b=>bO 256 b fun c=>bW 256 a c fun _=>bO 256 a fun b=>ae [b]
def FW(lf:Nat)(r:RT):M V:=dF 158 MT fun a=>dF 158 MT fun b=>AL lf r lf (OR lf r) a b (ii 0)
theorem OS(K:KT):∀fu,AK lf r fu (fun a b c d e=>K (.exit 2) (zp [0,1,2,3,5] [a,b,c,d,e]))=fun a b c d e f g
 =>bc (cQ 115 (pb 16 11467) lf r) OP fu (zp OP [a,b,c,d,e,f,g]) K
 |0=>by funext a b c d e f g;kernel_rfl
 |fu+1=>by have h:=OS K fu;funext a b c d e f g;rw[AK];simp only[h];kernel_rfl
theorem aar(K:KT)(f:Nat):OQ lf r (fun a b=>K (.exit 0) (zp [0,1] [a,b])) (fun a b c=>bc (cQ 115 (pb 6 11) lf
 r) wP f (zp wP [a,b,c]) K)=(fun a b c d e=>(iK 115 (pb 6 11) (pb 9 179) wP f K lf r) (.exit 2) (zp [0,1,2,3,5] [a,b,c,d,e])):=by kernel_rfl
theorem OT(K:KT):∀fu,AL lf r fu (fun a b=>K (.exit 0) (zp [0,1] [a,b]))=fun a b c=>bc (cQ 115 (pb 6 11) lf r)
 wP fu (zp wP [a,b,c]) K
 |0=>by funext a b c;kernel_rfl
 |fu+1=>by have d:=OT K fu;funext a b c;rw[AL];simp only[d,aar,OS];kernel_rfl
theorem aas:OR lf r=(fun a b=>(tK 115 (pb 5 11) lf r) (.exit 0) (zp [0,1] [a,b])):=jK
theorem aat:aw ad gt lf r 115 #[]=inside (FW lf r):=by unfold FW;simp only[aas,OT];kernel_rfl
def OU(lf:Nat)(r:RT)(a:V):M V:=ai a fun b=>aQ 0 b fun c=>bO 2 c fun d=>aj r 153 [d] fun e=>aW e 0 fun f=>aW e 1 fun g=>dh uW [] fun b=>ai a fun c=>aQ 0 c fun d=>bW 2 d b fun _=>ae [f]
theorem aau:aw ad gt lf r 116 #[a]=inside (OU lf r a):=jK
def AM(lf:Nat)(r:RT):Nat->(M V)->V->V->V->V->V->V->M V|0,_,_,_,_,_,_,_=> .fail|fu+1,k,a,b,c,d,e,f=>bf f e (ai a fun h=>an 1 h fun j=>an 0 c fun m=>aj r 154 [j,m] fun n=>ax f (ii 1) fun h=>AM lf r fu k a b c d e h) (k)
def OV:List Nat:=[0,1,3,4,30,31]
def OW(lf:Nat)(r:RT):(M V):=ae []
def FX(lf:Nat)(r:RT)(a b:V):M V:=fp 113 b fun c=>bO 2 c fun d=>aj r 153 [d] fun e=>aW e 0 fun f=>aW e 1 fun g=>ai a fun d=>an 0 d fun g=>cN 5 1 g f fun h=>ai a fun i=>aQ 0 i fun j=>aK j h fun _=>ai a fun d=>an 2 d fun g=>an 1 c fun i=>ax g i fun j=>ai a fun l=>aQ 2 l fun m=>aK m j fun _=>an 1 c fun e=>AM lf r lf (OW lf r) a b c f e (ii 0)
theorem OX(K:KT):∀fu,AM lf r fu (K (.exit 0) [])=fun a b c d e f=>bc (cQ 117 (pb 7 31) lf r)
 OV fu (zp OV [a,b,c,d,e,f]) K
 |0=>by funext a b c d e f;kernel_rfl
 |fu+1=>by have g:=OX K fu;funext a b c d e f;rw[AM];simp only[g];kernel_rfl
theorem aav:OW lf r=((tK 117 (pb 6 31) lf r) (.exit 0) []):=jK
theorem aaw:aw ad gt lf r 117 #[a,b]=inside (FX lf r a b):=by unfold FX;simp only[aav,OX];kernel_rfl
def OY(lf:Nat)(r:RT)(a:V):M V:=gS a nP (ae [(i3 0)]) (ai a fun c=>an 256 c fun e=>D6 e fun f=>ae [f])
theorem aax:aw ad gt lf r 118 #[a]=inside (OY lf r a):=jK
def OZ(lf:Nat)(r:RT)(a:V):M V:=wL a nP (ai a fun c=>aQ 256 c fun d=>aK d (i3 4294967295) fun _=>ae []) (ae [])
theorem aay:aw ad gt lf r 119 #[a]=inside (OZ lf r a):=jK
def sx(lf:Nat)(r:RT):Nat->(V->V->M V)->V->V->V->V->V->V->V->V->M V|0,_,_,_,_,_,_,_,_,_=> .fail|fu+1,k,a,b,c,d,e,f,g,h=>bf h g (ai e fun j=>an 1 j fun m=>aM m h fun n=>aK n h fun _=>ax h (ii 1) fun j=>sx lf r fu k a b c d e f g j) (k d e)
def O0:List Nat:=[0,2,3,4,5,10,26,27]
def AN(lf:Nat)(r:RT):(V->V->M V):=fun a b=>dh z203 [(0,1,(ii 0)),(2,1,a)] fun c=>db 203 3 c fun d=>ai b fun e=>aQ 5 e fun f=>aK f d fun _=>ae [b,(ii 0)]
def AO(lf:Nat)(r:RT)(a:V):M V:=eI a fun b=>j4 b (ii 900000) fun c=>aH c (ae [nP,(ii 2)]) (fQ 3 [(ii 0)] b b fun d=>fQ 3 [(ii 0)] b b fun e=>fQ 3 [(ii 0)] b b fun f=>da b (ii 2) fun g=>dh MV [(0,1,a),(1,1,d),(2,1,e),(3,1,f),(15,1,g)] fun h=>fp 205 h fun i=>ai i fun d=>an 1 d fun f=>aY f fun g=>sx lf r lf (AN lf r) a nP (ii 0) b i c g (ii 0))
theorem O1(K:KT):∀fu,sx lf r fu (fun a b=>K (.exit 0) (zp [4,5] [a,b]))=fun a b c d e f g h=>bc (cQ 120 (pb
 8 47) lf r) O0 fu (zp O0 [a,b,c,d,e,f,g,h]) K
 |0=>by funext a b c d e f g h;kernel_rfl
 |fu+1=>by have i:=O1 K fu;funext a b c d e f g h;rw[sx];simp only[i];kernel_rfl
theorem aaz:AN lf r=(fun a b=>(tK 120 (pb 7 47) lf r) (.exit 0) (zp [4,5] [a,b])):=jK
theorem O2:aw ad gt lf r 120 #[a]=inside (AO lf r a):=by unfold AO;simp only[aaz,O1];kernel_rfl
def sC(lf:Nat)(r:RT):Nat->(V->V->M V)->V->V->V->V->V->M V|0,_,_,_,_,_,_=> .fail|fu+1,k,a,b,c,d,e=>ai a fun f=>an 15 f fun h=>dI h fun i=>aH i (ai a fun j=>an 14 j fun m=>bx m d fun n=>bf n b (aj r 155 [a] fun f=>sC lf r fu k a b c d e) (k a d)) (k a d)
def O3:List Nat:=[0,1,4,5,7]
def wQ(lf:Nat)(r:RT):(V->V->M V):=fun a b=>ai a fun c=>an 14 c fun e=>bx e b fun f=>ae [f]
def AP(lf:Nat)(r:RT)(a b:V):M V:=nG a nP fun c=>aH c (ae [(ii 0)]) (ai a fun d=>an 14 d fun f=>sC lf r lf (wQ lf r) a b (ii 0) f c)
theorem O4(K:KT):∀fu,sC lf r fu (fun a b=>K (.exit 0) (zp [0,5] [a,b]))=fun a b c d e=>bc
 (cQ 121 (pb 6 7) lf r) O3 fu (zp O3 [a,b,c,d,e]) K
 |0=>by funext a b c d e;kernel_rfl
 |fu+1=>by have f:=O4 K fu;funext a b c d e;rw[sC];simp only[f];kernel_rfl
theorem aaA:wQ lf r=(fun a b=>(tK 121 (pb 5 7) lf r) (.exit 0) (zp [0,5] [a,b])):=jK
theorem O5:aw ad gt lf r 121 #[a,b]=inside (AP lf r a b):=by unfold AP;simp only[aaA,O4];kernel_rfl
def FY(lf:Nat)(r:RT)(a:V):M V:=wL a nP (ai a fun c=>an 15 c fun e=>ae [e]) (ae [bF])
theorem O6:aw ad gt lf r 122 #[a]=inside (FY lf r a):=jK
def FZ(lf:Nat)(r:RT)(a:V):M V:=aj r 122 [a] fun b=>dI b fun c=>aH c (ae [nS]) (ai a fun b=>an 1 b fun e=>aj r 156 [e] fun f=>ae [f])
theorem O7:aw ad gt lf r 123 #[a]=inside (FZ lf r a):=jK
def F0(lf:Nat)(r:RT)(a:V):M V:=ai a fun b=>an 3 b fun d=>aY d fun e=>ai a fun b=>an 2 b fun d=>aM d e fun f=>aG f fun g=>gu g (ii 0) fun b=>(fun c=>aH b (ai a fun d=>aQ 4 d fun f=>aK f e fun _=>c) (c)) (ai a fun c=>aQ 3 c fun d=>(bk (aG d M.ret)).bind fun f=>ai a fun h=>aQ 0 h fun i=>(bk (aG i M.ret)).bind fun j=>(bk (aj r 157 [j.1,g] M.ret)).bind fun l=>(bk (db 5 1 l.1 M.ret)).bind fun m=>(bk (cN 5 1 f.1 m.1 M.ret)).bind fun n=>ai a fun o=>aQ 3 o fun p=>(bk (aK p n.1 M.ret)).bind fun q=>lV ((!(fo f.2 l.2)&&true)&&true) (ae []))
theorem O8:aw ad gt lf r 124 #[a]=inside (F0 lf r a):=jK
def pC(lf:Nat)(r:RT):Nat->(V->M V)->V->V->V->V->V->V->M V|0,_,_,_,_,_,_,_=> .fail|fu+1,k,a,b,c,d,e,f=>bf f (ii 256) (qB 256 e f fun h=>aH h (ep .u8 f fun i=>db 5 1 i fun j=>cN 5 1 d j fun l=>ax f (ii 1) fun d=>pC lf r fu k a b c l e d) (ax f (ii 1) fun i=>pC lf r fu k a b c d e i)) (k d)
def O9:List Nat:=[0,1,2,3,6,7]
def wR(lf:Nat)(r:RT):(V->M V):=fun a=>kQ a fun b=>ae [b]
def AQ(lf:Nat)(r:RT)(a:V):M V:=fp 169 a fun b=>bO 256 b fun c=>pC lf r lf (wR lf r) a b (bM {data:=#[]}) nS c (ii 0)
theorem O'(K:KT):∀fu,pC lf r fu (fun a=>K (.exit 0) (zp [3] [a]))=fun a b c d e f=>bc (cQ 125 (pb 6 11) lf
 r) O9 fu (zp O9 [a,b,c,d,e,f]) K
 |0=>by funext a b c d e f;kernel_rfl
 |fu+1=>by have g:=O' K fu;funext a b c d e f;rw[pC];simp only[g];kernel_rfl
theorem aaB:wR lf r=(fun a=>(tK 125 (pb 5 11) lf r) (.exit 0) (zp [3] [a])):=jK
theorem Pa:aw ad gt lf r 125 #[a]=inside (AQ lf r a):=by unfold AQ;simp only[aaB,O'];kernel_rfl
def F1(lf:Nat)(r:RT)(a:V):M V:=aj r 134 [a] fun b=>dI b fun c=>aH c (ae [nP,(ii 1)]) (uF 5 a fun b=>dh MW [(0,1,b)] fun d=>fp 211 d fun e=>ae [e,(ii 0)])
theorem Pb:aw ad gt lf r 126 #[a]=inside (F1 lf r a):=jK
def F2(lf:Nat)(r:RT)(a b:V):M V:=gS a nP (ae [(ii 0),(ii 7)]) (ai a fun d=>an 0 d fun f=>aj r 158 [f,b] fun g=>bf g (ii 0) (ae [(ii 0),(ii 6)]) (aj r 159 [a,g] fun e=>ae [g,(ii 0)]))
theorem Pc:aw ad gt lf r 127 #[a,b]=inside (F2 lf r a b):=jK
def F3(lf:Nat)(r:RT)(a:V):M V:=gR a (ii 1) (lU a (ii 256) fun c=>ae [c]) (ae [bF])
theorem Pd:aw ad gt lf r 128 #[a]=inside (F3 lf r a):=jK
def sE(lf:Nat)(r:RT):Nat->(V->M V)->V->V->V->M V|0,_,_,_,_=> .fail|fu+1,k,a,b,c=>ej a (ii 0) (oZ a (ii 2) fun e=>gu e (ii 1) fun f=>(fun e=>aH f (e (ii 0)) (e (ii 1))) fun e=>db 3 1 e fun g=>cN 3 1 c g fun h=>bx a e fun c=>bx c (ii 1) fun g=>mH g (ii 2) fun i=>sE lf r fu k i b h) (k c)
def Pe:List Nat:=[0,2,3]
def AR(lf:Nat)(r:RT):(V->M V):=fun a=>ae [a]
def AU(lf:Nat)(r:RT)(a:V):M V:=sE lf r lf (AR lf r) a nS nS
theorem Pf(K:KT):∀fu,sE lf r fu (fun a=>K (.exit 0) (zp [3] [a]))=fun a b c=>bc (cQ 129 (pb 5 3) lf r) Pe fu (zp Pe [a,b,c]) K
 |0=>by funext a b c;kernel_rfl
 |fu+1=>by have d:=Pf K fu;funext a b c;rw[sE];simp only[d];kernel_rfl
theorem aaC:AR lf r=(fun a=>(tK 129 (pb 4 3) lf r) (.exit 0) (zp [3] [a])):=jK
theorem Pg:aw ad gt lf r 129 #[a]=inside (AU lf r a):=by unfold AU;simp only[aaC,Pf];kernel_rfl
def F4(lf:Nat)(r:RT)(a b:V):M V:=dF 178 kX fun c=>aY a fun d=>dR d (ii 0) (dh kX [] fun d=>bW 2 c d fun _=>bO 2 c fun a=>ae [a,(ii 1)]) (bx b (ii 1) fun f=>aj r 160 [a,f] fun g=>aY a fun h=>bx h (ii 1) fun i=>iO g i (dh kX [] fun d=>bW 2 c d fun _=>bO 2 c fun a=>ae [a,(ii 1)]) (aj r 161 [a,b] fun d=>aW d 0 fun e=>aW d 1 fun f=>bW 2 c e fun _=>bO 2 c fun a=>ae [a,f]))
theorem Ph:aw ad gt lf r 130 #[a,b]=inside (F4 lf r a b):=jK
def sF(lf:Nat)(r:RT):Nat->(V->M V)->V->V->V->V->V->V->V->V->V->M V|0,_,_,_,_,_,_,_,_,_,_=> .fail|fu+1,k,a,b,c,d,e,f,g,h,i=>bf i h (aM g i fun l=>aG l fun m=>ax m (ii 1) fun l=>ax e l fun n=>ax i (ii 1) fun e=>sF lf r fu k a b c d n f g h e) (k e)
def Pj:List Nat:=[0,1,4,5,6,12,14,15,16]
def AV(lf:Nat)(r:RT):(V->M V):=fun a=>ae [a,(ii 0)]
def AW(lf:Nat)(r:RT)(a b:V):M V:=aj r 162 [a,b] fun c=>dI c fun d=>aH d (ae [(ii 0),(ii 1)]) (aj r 163 [a] fun c=>aY c fun e=>sF lf r lf (AV lf r) a b (ii 0) (ii 0) (ii 18) d c e (ii 0))
theorem Pn(K:KT):∀fu,sF lf r fu (fun a=>K (.exit 0) (zp [6] [a]))=fun a b c d e f g h i=>bc (cQ 131 (pb 7 23)
 lf r) Pj fu (zp Pj [a,b,c,d,e,f,g,h,i]) K
 |0=>by funext a b c d e f g h i;kernel_rfl
 |fu+1=>by have j:=Pn K fu;funext a b c d e f g h i;rw[sF];simp only[j];kernel_rfl
theorem aaD:AV lf r=(fun a=>(tK 131 (pb 6 23) lf r) (.exit 0) (zp [6] [a])):=jK
theorem Po:aw ad gt lf r 131 #[a,b]=inside (AW lf r a b):=by unfold AW;simp only[aaD,Pn];kernel_rfl
def F5(lf:Nat)(r:RT)(a:V):M V:=aj r 164 [a] fun b=>dI b fun c=>aH c (ae [(ii 0),(ii 1)]) (dF 3 z3 fun b=>aK b (ii 0) fun _=>aj r 165 [a,(vP (Df 166) #[] #[b])] fun d=>aG b fun d=>ae [d,(ii 0)])
theorem Pp:aw ad gt lf r 132 #[a]=inside (F5 lf r a):=jK
def sG(lf:Nat)(r:RT):Nat->((V->M V)×(V->V->M V))->V->V->V->V->V->V->V->V->V->V->M V|0,_,_,_,_,_,_,_,_,_,_,_=> .fail|fu+1,k,a,b,c,d,e,f,g,h,i,j=>bf j i (aM h j fun m=>aG m fun n=>bf n (ii 0) (k.2 (ii 0) (ii 1)) (an 0 c fun p=>aY p fun q=>gR n q (k.2 (ii 0) (ii 1)) (aj r 168 [a,j] fun m=>aW m 0 fun o=>aW m 1 fun p=>an 0 c fun p=>aM p n fun q=>aG q fun t=>aj r 169 [o,t] fun u=>aW u 0 fun v=>aW u 1 fun w=>iO w (ii 0) (k.2 (ii 0) w) (ax f v fun p=>jz p (ii 1099511627776) fun q=>ax j (ii 1) fun f=>sG lf r fu k a b c d e q g h i f)))) (k.1 f)
def Pq:List Nat:=[0,1,3,4,5,6,19,21,22,23]
def sH(lf:Nat)(r:RT):(V->M V)×(V->V->M V):=(fun a=>ae [a,(ii 0)],fun a b=>ae [a,b])
def AX(lf:Nat)(r:RT)(a b:V):M V:=fp 178 b fun c=>aQ 1 c fun d=>(bk (aG d M.ret)).bind fun e=>aY e.1 fun f=>aY a fun g=>(bk (aj r 167 [g] M.ret)).bind fun h=>iJ f h.1 fun i=>lV ((!(fo e.2 h.2)&&true)&&true) (aH i (ae [(ii 0),(ii 1)]) (an 1 c fun e=>aY e fun f=>sG lf r lf (sH lf r) a b c (ii 0) (ii 0) (ii 0) i e f (ii 0)))
theorem Ps(K:KT):∀fu,sG lf r fu ((fun a=>K (.exit 0) (zp [6] [a]),fun a b=>K .ret (zp [4,5] [a,b])))=fun a
 b c d e f g h i j=>bc (cQ 133 (pb 7 23) lf r) Pq fu (zp Pq [a,b,c,d,e,f,g,h,i,j]) K
 |0=>by funext a b c d e f g h i j;kernel_rfl
 |fu+1=>by have k:=Ps K fu;funext a b c d e f g h i j;rw[sG];simp only[k];kernel_rfl
theorem aaE:sH lf r=((fun a=>(tK 133 (pb 6 23) lf r) (.exit 0) (zp [6] [a]),fun a b=>(tK 133 (pb 6 23) lf r) .ret (zp [4,5] [a,b]))):=jK
theorem Pu:aw ad gt lf r 133 #[a,b]=inside (AX lf r a b):=by unfold AX;simp only[aaE,Ps];kernel_rfl
def qM(lf:Nat)(r:RT):Nat->((V->M V)×(V->M V))->V->V->V->V->M V|0,_,_,_,_,_=> .fail|fu+1,k,a,b,c,d=>bf d c (ej d (ii 0) (jc a d fun g=>bx d (ii 1) fun h=>jc a h fun i=>r7 g i (k.2 bF) (ax d (ii 1) fun f=>qM lf r fu k a b c f)) (ax d (ii 1) fun f=>qM lf r fu k a b c f)) (k.1 a)
def Pv:List Nat:=[0,2,5,6]
def AY(lf:Nat)(r:RT):(V->M V)×(V->M V):=(fun a=>iJ a (bM {data:=#[]}) fun b=>ae [b],fun a=>ae [a])
def AZ(lf:Nat)(r:RT)(a:V):M V:=eI a fun b=>qM lf r lf (AY lf r) a bF b (ii 0)
theorem Pw(K:KT):∀fu,qM lf r fu ((fun a=>K (.exit 0) (zp [0] [a]),fun a=>K .ret (zp [2] [a])))=fun a b c d=>bc
 (cQ 134 (pb 5 5) lf r) Pv fu (zp Pv [a,b,c,d]) K
 |0=>by funext a b c d;kernel_rfl
 |fu+1=>by have e:=Pw K fu;funext a b c d;rw[qM];simp only[e];kernel_rfl
theorem aaF:AY lf r=((fun a=>(tK 134 (pb 4 5) lf r) (.exit 0) (zp [0] [a]),fun a=>(tK 134 (pb 4 5) lf r) .ret (zp [2] [a]))):=jK
theorem Px:aw ad gt lf r 134 #[a]=inside (AZ lf r a):=by unfold AZ;simp only[aaF,Pw];kernel_rfl
def sI(lf:Nat)(r:RT):Nat->(V->V->M V)->V->V->V->V->V->M V|0,_,_,_,_,_,_=> .fail|fu+1,k,a,b,c,d,e=>bf e d (jc a e fun g=>mH g (i1 16) fun h=>eW 16 c h fun i=>aG i fun j=>oZ g (i1 16) fun l=>bx (i1 15) l fun m=>kO (i3 1) m fun n=>wk j n fun o=>eW 16 c h fun p=>aK p o fun _=>ax e (ii 1) fun h=>sI lf r fu k a b c d h) (k b c)
def Py:List Nat:=[0,2,3,7,8]
def A0(lf:Nat)(r:RT):(V->V->M V):=fun a b=>bO 16 b fun c=>bW 16 a c fun _=>bO 16 a fun b=>ae [b]
def A1(lf:Nat)(r:RT)(a:V):M V:=dF 184 nM fun b=>dF 184 nM fun c=>eI a fun d=>sI lf r lf (A0 lf r) a b c d (ii 0)
theorem Pz(K:KT):∀fu,sI lf r fu (fun a b=>K (.exit 0) (zp [2,3] [a,b]))=fun a b c d e=>bc (cQ 135 (pb 6 11)
 lf r) Py fu (zp Py [a,b,c,d,e]) K
 |0=>by funext a b c d e;kernel_rfl
 |fu+1=>by have f:=Pz K fu;funext a b c d e;rw[sI];simp only[f];kernel_rfl
theorem aaG:A0 lf r=(fun a b=>(tK 135 (pb 5 11) lf r) (.exit 0) (zp [2,3] [a,b])):=jK
theorem PA:aw ad gt lf r 135 #[a]=inside (A1 lf r a):=by unfold A1;simp only[aaG,Pz];kernel_rfl
def sJ(lf:Nat)(r:RT):Nat->(M V)->V->V->V->V->V->V->V->V->V->M V|0,_,_,_,_,_,_,_,_,_,_=> .fail|fu+1,k,a,b,c,d,e,f,g,h,i=>bf i h (aM g i fun l=>aG l fun m=>ax m (ii 1) fun l=>kO (i3 1) l fun n=>bx n (i3 2) fun o=>ax m (ii 1) fun p=>aj r 56 [a,o,p] fun q=>ax i (ii 1) fun l=>sJ lf r fu k a b c d e f g h l) (k)
def PB:List Nat:=[0,1,2,6,9,12,27,28,29]
def A2(lf:Nat)(r:RT):(M V):=ae [(ii 0)]
def A3(lf:Nat)(r:RT)(a b c:V):M V:=nG a nP fun d=>aH d (ae [(ii 7)]) (aj r 162 [b,c] fun e=>dI e fun f=>aH f (ae [(ii 1)]) (ep .u32 c fun e=>aj r 56 [a,e,(ii 3)] fun g=>aY b fun e=>ep .u32 e fun g=>aj r 56 [a,g,(ii 15)] fun h=>aj r 163 [b] fun e=>aY e fun g=>sJ lf r lf (A2 lf r) a b c (ii 0) d f e g (ii 0)))
theorem PC(K:KT):∀fu,sJ lf r fu (K (.exit 1) [])=fun a b c d e f g h i=>bc (cQ 136 (pb 8 47) lf r)
 PB fu (zp PB [a,b,c,d,e,f,g,h,i]) K
 |0=>by funext a b c d e f g h i;kernel_rfl
 |fu+1=>by have j:=PC K fu;funext a b c d e f g h i;rw[sJ];simp only[j];kernel_rfl
theorem aaH:A2 lf r=((tK 136 (pb 7 47) lf r) (.exit 1) []):=jK
theorem PD:aw ad gt lf r 136 #[a,b,c]=inside (A3 lf r a b c):=by unfold A3;simp only[aaH,PC];kernel_rfl
def F6(lf:Nat)(r:RT)(a b:V):M V:=fp 90 a fun c=>aG c fun d=>gS d nP (ae [(ii 7)]) (aj r 164 [b] fun d=>dI d fun f=>aH f (ae [(ii 1)]) (aj r 165 [b,(vP (Df 170) #[] #[c])] fun d=>ae [(ii 0)]))
theorem PE:aw ad gt lf r 137 #[a,b]=inside (F6 lf r a b):=jK
def qN(lf:Nat)(r:RT):Nat->(V->V->V->V->V->V->V->V->M V)->V->V->V->V->V->V->V->V->V->V->V->V->M V|0,_,_,_,_,_,_,_,_,_,_,_,_,_=> .fail|fu+1,k,a,b,c,d,e,f,g,h,i,j,l,m=>bf m l (aM j m fun o=>aG o fun p=>dR p f (ai d fun q=>an 1 q fun t=>ep .u32 e fun u=>aM t m fun v=>aK v u fun _=>ai d fun q=>an 2 q fun t=>db 3 1 m fun u=>cN 3 1 t u fun v=>ai d fun w=>aQ 2 w fun x=>aK x v fun _=>ax e (ii 1) fun q=>ax m (ii 1) fun e=>qN lf r fu k a b c d q f g h i j l e) (ax m (ii 1) fun q=>qN lf r fu k a b c d e f g h i j l q)) (k a b c d e f g h)
def PF:List Nat:=[0,2,3,4,5,6,9,18,30,51,52,53]
def A4(lf:Nat)(r:RT)(k:(V->M V))(j:V->V->V->V->V->V->V->V->M V):(V->V->V->V->V->V->V->V->M V):=fun a b c d e f g h=>ax f (ii 1) fun i=>j a b c d e i g h
def qO(lf:Nat)(r:RT):Nat->(V->M V)->V->V->V->V->V->V->V->V->M V|0,_,_,_,_,_,_,_,_,_=> .fail|fu+1,k,a,b,c,d,e,f,g,h=>lU f (ii 20) fun i=>aH i (gq e (ii 2) fun j=>ai d fun e=>aQ 3 e fun l=>eW 21 l f fun m=>aK m j fun _=>ai d fun e=>an 2 e fun m=>aY m fun n=>ai d fun o=>aQ 24 o fun p=>eW 22 p f fun q=>aK q n fun _=>aY a fun e=>qN lf r lf (A4 lf r k (qO lf r fu k)) a b c d j f g h i a e (ii 0)) (k d)
def wS:List Nat:=[0,2,3,4,5,6,9,18]
abbrev PG(lf:Nat)(r:RT)(a:Nat)(k:(V->M V)):(V->V->V->V->V->V->V->V->M V):=A4 lf r k (qO lf r a k)
def wT(lf:Nat)(r:RT):(V->M V):=fun a=>ai a fun b=>an 2 b fun d=>aY d fun e=>ai a fun f=>aQ 24 f fun g=>eW 22 g (ii 21) fun h=>aK h e fun _=>ae [a,(ii 0)]
def A5(lf:Nat)(r:RT)(a:V):M V:=aY a fun b=>bf b (ii 3) (ae [nP,(ii 1)]) (aY a fun d=>j4 d (ii 258) fun e=>aH e (ae [nP,(ii 1)]) (aj r 171 [a] fun b=>dI b fun c=>aH c (ae [nP,(ii 22)]) ((bk (aj r 156 [a] M.ret)).bind fun b=>aY a fun d=>(bk (fQ 40 [(i3 0)] d d M.ret)).bind fun f=>dh Fu [(0,1,b.1),(1,1,f.1)] fun g=>(bk (fp 223 g M.ret)).bind fun h=>lV ((!(fo b.2 f.2)&&true)&&true) (qO lf r lf (wT lf r) a nP (ii 0) h.1 (ii 0) (ii 1) e c))))
theorem PH(K:KT):∀fu,qN lf r fu (fun a b c d e f g h=>K (.exit 3) (zp [0,2,3,4,5,6,9,18] [a,b,c,d,e,f,g,
 h]))=fun a b c d e f g h i j l m=>bc (cQ 138 (pb 17 31023) lf r) PF fu (zp PF [a,b,c,d,e,f,g,h,i,j,l,m]) K
 |0=>by funext a b c d e f g h i j l m;kernel_rfl
 |fu+1=>by have k:=PH K fu;funext a b c d e f g h i j l m;rw[qN];simp only[k];kernel_rfl
theorem aaI(K:KT)(i:Nat):A4 lf r (fun a=>K (.exit 1) (zp [4] [a])) (fun a b c d e f g h=>bc (cQ 138 (pb 8 47) lf
 r) wS i (zp wS [a,b,c,d,e,f,g,h]) K)=(fun a b c d e f g h=>(iK 138 (pb 8 47) (pb 8 121) wS i K lf r) (.exit 3) (zp [0,2,3,
 4,5,6,9,18] [a,b,c,d,e,f,g,h])):=by kernel_rfl
theorem PI(K:KT):∀fu,qO lf r fu (fun a=>K (.exit 1) (zp [4] [a]))=fun a b c d e f g h=>bc (cQ 138 (pb 8 47) lf
 r) wS fu (zp wS [a,b,c,d,e,f,g,h]) K
 |0=>by funext a b c d e f g h;kernel_rfl
 |fu+1=>by have i:=PI K fu;funext a b c d e f g h;rw[qO];simp only[i,aaI,PH];kernel_rfl
theorem aaJ:wT lf r=(fun a=>(tK 138 (pb 7 47) lf r) (.exit 1) (zp [4] [a])):=jK
theorem PJ:aw ad gt lf r 138 #[a]=inside (A5 lf r a):=by unfold A5;simp only[aaJ,PI];kernel_rfl
def F7(lf:Nat)(r:RT)(a b c:V):M V:=gS b nP (ae [(ii 7)]) (aj r 172 [a,c] fun e=>aW e 0 fun f=>aW e 1 fun g=>aW e 2 fun h=>iO h (ii 0) (ae [h]) (aj r 56 [b,f,g] fun i=>ae [i]))
theorem PK:aw ad gt lf r 139 #[a,b,c]=inside (F7 lf r a b c):=jK
def PL(lf:Nat)(r:RT)(a:V):M V:=fp 113 a fun b=>an 1 b fun d=>bf d (ii 1) (ae [(bM {data:=#[]}),(ii 1)]) (an 1 b fun g=>ej g (ii 255) (ae [(bM {data:=#[]}),(ii 1)]) (bO 2 b fun c=>aj r 180 [c] fun d=>ae [d,(ii 0)]))
theorem aaK:aw ad gt lf r 153 #[a]=inside (PL lf r a):=jK
def PM(lf:Nat)(r:RT)(a b:V):M V:=wL a nP (ai a fun d=>aQ 0 d fun e=>ai a fun f=>an 256 f fun h=>aj r 181 [e,h,b] fun i=>ai a fun j=>aQ 256 j fun l=>aK l i fun _=>ae []) (ae [])
theorem aaL:aw ad gt lf r 154 #[a,b]=inside (PM lf r a b):=jK
def F8(lf:Nat)(r:RT)(a:V):M V:=aj r 182 [a] fun b=>ai a fun b=>aQ 6 b fun c=>an 2 c fun e=>ej e (ii 0) (ai a fun g=>an 9 g fun i=>ai a fun j=>aQ 6 j fun l=>an 1 l fun n=>ai a fun o=>aQ 6 o fun p=>an 0 p fun s=>bx n s fun t=>da i t fun u=>(fun b=>aH u (aj r 183 [a] fun c=>b) (ai a fun c=>aQ 6 c fun d=>an 2 d fun f=>ej f (ii 0) (aj r 184 [a] fun c=>b) (ai a fun c=>an 5 c fun e=>aY e fun f=>ej f (ii 0) (aj r 185 [a] fun c=>b) (aj r 186 [a] fun c=>b)))) (ai a fun b=>an 14 b fun d=>ax d (ii 1) fun e=>ai a fun f=>aQ 14 f fun g=>aK g e fun _=>ae [])) (ai a fun b=>aQ 6 b fun c=>an 2 c fun e=>j4 e (ii 0) fun f=>(fun b=>aH f (aj r 184 [a] fun c=>b) (ai a fun c=>an 5 c fun e=>aY e fun g=>ej g (ii 0) (aj r 185 [a] fun c=>b) (aj r 186 [a] fun c=>b))) (ai a fun b=>an 14 b fun d=>ax d (ii 1) fun e=>ai a fun g=>aQ 14 g fun h=>aK h e fun _=>ae []))
theorem PN:aw ad gt lf r 155 #[a]=inside (F8 lf r a):=jK
def F9(lf:Nat)(r:RT)(a:V):M V:=MP a nS (ae [nS]) (o6 3 [] 0 [] fun c=>cN 3 1 c a fun d=>ae [d])
theorem PO:aw ad gt lf r 156 #[a]=inside (F9 lf r a):=jK
def F'(lf:Nat)(r:RT)(a b:V):M V:=dR b (ii 0) (eI a fun d=>bx d (ii 1) fun e=>jc a e fun f=>ae [f]) (bx b (ii 1) fun d=>jc a d fun e=>ae [e])
theorem PQ:aw ad gt lf r 157 #[a,b]=inside (F' lf r a b):=jK
def Ga(lf:Nat)(r:RT)(a b:V):M V:=ai a fun c=>an 0 c fun e=>aM e b fun f=>aG f fun g=>ai a fun c=>an 0 c fun e=>ax b (ii 1) fun f=>j5 5 1 e (some (ii 1)) (some f) fun h=>ai a fun i=>an 0 i fun l=>j5 5 1 l none (some b) fun m=>zF 1 h m fun n=>ai a fun c=>an 0 c fun e=>aM e (ii 0) fun f=>aK f g fun _=>ae [g]
theorem PR:aw ad gt lf r 159 #[a,b]=inside (Ga lf r a b):=jK
def sK(lf:Nat)(r:RT):Nat->((M V)×(V->M V))->V->V->V->V->V->M V|0,_,_,_,_,_,_=> .fail|fu+1,k,a,b,c,d,e=>bf e d (aM a e fun g=>aG g fun h=>dR b h (k.2 e) (ax e (ii 1) fun g=>sK lf r fu k a b c d g)) (k.1)
def PT:List Nat:=[0,1,4,7,8]
def wU(lf:Nat)(r:RT):(M V)×(V->M V):=(ae [(ii (-1))],fun a=>ae [a])
def A6(lf:Nat)(r:RT)(a b:V):M V:=aY a fun c=>sK lf r lf (wU lf r) a b (ii 0) c (ii 0)
theorem PU(K:KT):∀fu,sK lf r fu ((K (.exit 0) [],fun a=>K .ret (zp [4] [a])))=fun a b c d e
 =>bc (cQ 160 (pb 5 5) lf r) PT fu (zp PT [a,b,c,d,e]) K
 |0=>by funext a b c d e;kernel_rfl
 |fu+1=>by have f:=PU K fu;funext a b c d e;rw[sK];simp only[f];kernel_rfl
theorem aaM:wU lf r=(((tK 160 (pb 4 5) lf r) (.exit 0) [],fun a=>(tK 160 (pb 4 5) lf r) .ret (zp [4] [a]))):=jK
theorem PV:aw ad gt lf r 160 #[a,b]=inside (A6 lf r a b):=by unfold A6;simp only[aaM,PU];kernel_rfl
def sL(lf:Nat)(r:RT):Nat->(V->V->M V)->V->V->V->V->V->V->V->V->V->V->V->M V|0,_,_,_,_,_,_,_,_,_,_,_,_=> .fail|fu+1,k,a,b,c,d,e,f,g,h,i,j,l=>bf l (ii 4) (an 0 h fun o=>aj r 191 [g,o,b] fun p=>aW p 0 fun q=>aW p 1 fun s=>dh kX [(0,1,s),(1,1,q)] fun n=>bW 2 h n fun _=>ax l (ii 1) fun n=>sL lf r fu k a b c d e f g h i j n) (k c h)
def PW:List Nat:=[0,1,4,5,6,7,8,9,18,27,40]
def A7(lf:Nat)(r:RT):(V->V->M V):=fun a b=>bO 2 b fun c=>bW 2 a c fun _=>bO 2 a fun b=>ae [b,(ii 0)]
def wV(lf:Nat)(r:RT)(a b:V):M V:=dF 178 kX fun c=>aj r 188 [a,b] fun d=>aW d 0 fun e=>aW d 1 fun f=>iO f (ii 0) (dh kX [] fun d=>bW 2 c d fun _=>bO 2 c fun a=>ae [a,(ii 1)]) (aY a fun g=>gu g (ii 0) fun h=>aH h (dh kX [] fun d=>bW 2 c d fun _=>bO 2 c fun a=>ae [a,(ii 1)]) (aY a fun d=>aj r 167 [d] fun g=>j4 g (ii 32767) fun i=>aH i (dh kX [] fun d=>bW 2 c d fun _=>bO 2 c fun a=>ae [a,(ii 2)]) (aj r 189 [a] fun d=>aY a fun g=>aj r 190 [e,g] fun j=>dh kX [(0,1,j)] fun l=>dF 178 kX fun m=>bW 2 m l fun _=>sL lf r lf (A7 lf r) a b c (ii 0) e f d m h i (ii 0))))
theorem PX(K:KT):∀fu,sL lf r fu (fun a b=>K (.exit 1) (zp [4,9] [a,b]))=fun a b c d e f g h i j l=>bc (cQ 161
 (pb 9 95) lf r) PW fu (zp PW [a,b,c,d,e,f,g,h,i,j,l]) K
 |0=>by funext a b c d e f g h i j l;kernel_rfl
 |fu+1=>by have k:=PX K fu;funext a b c d e f g h i j l;rw[sL];simp only[k];kernel_rfl
theorem aaN:A7 lf r=(fun a b=>(tK 161 (pb 8 95) lf r) (.exit 1) (zp [4,9] [a,b])):=jK
theorem Gb:aw ad gt lf r 161 #[a,b]=inside (wV lf r a b):=by unfold wV;simp only[aaN,PX];kernel_rfl
def Gc(lf:Nat)(r:RT)(a b:V):M V:=fp 3 b fun c=>aG c fun d=>aj r 192 [d] fun e=>dI e fun f=>aH f (ae [bF]) (aY a fun g=>dR g (ii 0) (ae [bF]) (aY a fun i=>ej i (ii 32767) (ae [bF]) (aj r 193 [a,(vP (Df 194) #[] #[c])] fun d=>dI d fun e=>ae [e])))
theorem PY:aw ad gt lf r 162 #[a,b]=inside (Gc lf r a b):=jK
def sM(lf:Nat)(r:RT):Nat->(V->M V)->V->V->V->V->V->V->V->M V|0,_,_,_,_,_,_,_,_=> .fail|fu+1,k,a,b,c,d,e,f,g=>bf g f (aM e g fun i=>aG i fun j=>aj r 196 [c,j] fun i=>aM d g fun l=>aK l i fun _=>ax g (ii 1) fun i=>sM lf r fu k a b c d e f i) (k d)
def PZ:List Nat:=[0,2,3,4,11,12,13]
def A8(lf:Nat)(r:RT):(V->M V):=fun a=>ae [a]
def A9(lf:Nat)(r:RT)(a:V):M V:=aj r 195 [] fun b=>dF 237 Aj fun c=>bW 6 c b fun _=>aY a fun b=>fQ 3 [(ii 0)] b b fun d=>aY a fun b=>sM lf r lf (A8 lf r) a nS c d a b (ii 0)
theorem P0(K:KT):∀fu,sM lf r fu (fun a=>K (.exit 0) (zp [4] [a]))=fun a b c d e f g=>bc (cQ 163 (pb 7 23)
 lf r) PZ fu (zp PZ [a,b,c,d,e,f,g]) K
 |0=>by funext a b c d e f g;kernel_rfl
 |fu+1=>by have h:=P0 K fu;funext a b c d e f g;rw[sM];simp only[h];kernel_rfl
theorem aaO:A8 lf r=(fun a=>(tK 163 (pb 6 23) lf r) (.exit 0) (zp [4] [a])):=jK
theorem P1:aw ad gt lf r 163 #[a]=inside (A9 lf r a):=by unfold A9;simp only[aaO,P0];kernel_rfl
def Ge(lf:Nat)(r:RT)(a:V):M V:=aY a fun b=>aj r 197 [b] fun c=>aH c (aj r 193 [a,(vP (.func 198) #[] #[])] fun d=>dI d fun e=>ae [e]) (ae [bF])
theorem P2:aw ad gt lf r 164 #[a]=inside (Ge lf r a):=jK
def sN(lf:Nat)(r:RT):Nat->(V->V->V->V->V->V->V->V->V->M V)->V->V->V->V->V->V->V->V->M V|0,_,_,_,_,_,_,_,_,_=> .fail|fu+1,k,a,b,c,d,e,f,g,h=>da c d fun i=>aH i (fm ad r b [(ii 2),(ii 2)] fun j=>ax c (ii 1) fun j=>sN lf r fu k a b j d e f g h) (k a b c d e f g h i)
def P3:List Nat:=[0,1,4,6,13,14,15,16]
def sO(lf:Nat)(r:RT):Nat->(V->V->V->V->V->V->M V)->V->V->V->V->V->V->V->V->V->M V|0,_,_,_,_,_,_,_,_,_,_=> .fail|fu+1,k,a,b,c,d,e,f,g,h,i=>ej c d (fm ad r b [(ii 3),(ii 2)] fun l=>bx c (ii 1) fun l=>sO lf r fu k a b l d e f g h i) (k a b c e f g)
def P4:List Nat:=[0,1,4,6,13,14,15,16,21]
def Gf(lf:Nat)(r:RT)(k:(M V))(h:V->V->V->V->V->V->M V):(V->V->V->V->V->V->M V):=fun a b c d e f=>fm ad r b [(ii 0),(ii 1)] fun g=>ax f (ii 1) fun g=>h a b c d e g
def Ba(lf:Nat)(r:RT)(k:(M V))(j:V->V->V->V->V->V->M V):(V->V->V->V->V->V->V->V->V->M V):=fun a b c d e f g h i=>sO lf r lf (Gf lf r k j) a b c d e f g h i
def sP(lf:Nat)(r:RT):Nat->(M V)->V->V->V->V->V->V->M V|0,_,_,_,_,_,_,_=> .fail|fu+1,k,a,b,c,d,e,f=>da f e fun g=>aH g (aM d f fun h=>aG h fun i=>sN lf r lf (Ba lf r k (sP lf r fu k)) a b c i d e f g) (k)
def qQ:List Nat:=[0,1,4,13,14,15]
def Bb(lf:Nat)(r:RT):(M V):=ae []
def Bc(lf:Nat)(r:RT)(a b:V):M V:=aM a (ii 0) fun c=>aG c fun d=>fm ad r b [d,(ii 5)] fun c=>aY a fun c=>sP lf r lf (Bb lf r) a b d a c (ii 0)
theorem P5(K:KT):∀fu,sN lf r fu (fun a b c d e f g h i=>K (.exit 2) (zp [0,1,4,6,13,14,15,16,21] [a,b,c,
 d,e,f,g,h,i]))=fun a b c d e f g h=>bc (cQ 165 (pb 13 615) lf r) P3 fu (zp P3 [a,b,c,d,e,f,g,h]) K
 |0=>by funext a b c d e f g h;kernel_rfl
 |fu+1=>by have j:=P5 K fu;funext a b c d e f g h;rw[sN];simp only[j];kernel_rfl
theorem Gg(K:KT):∀fu,sO lf r fu (fun a b c d e f=>K (.exit 4) (zp [0,1,4,13,14,15] [a,b,c,d,e,f]))=fun
 a b c d e f g h i=>bc (cQ 165 (pb 14 1639) lf r) P4 fu (zp P4 [a,b,c,d,e,f,g,h,i]) K
 |0=>by funext a b c d e f g h i;kernel_rfl
 |fu+1=>by have j:=Gg K fu;funext a b c d e f g h i;rw[sO];simp only[j];kernel_rfl
theorem P6(K:KT)(g:Nat):Gf lf r (K (.exit 0) []) (fun a b c d e f=>bc (cQ 165 (pb 5 7) lf r) qQ
 g (zp qQ [a,b,c,d,e,f]) K)=(fun a b c d e f=>(iK 165 (pb 5 7) (pb 8 51) qQ g K lf r) (.exit 4) (zp [0,1,4,13,14,15] [a,b,c,d,e,f])):=by kernel_rfl
theorem aaP(K:KT)(j:Nat):Ba lf r (K (.exit 0) []) (fun a b c d e f=>bc (cQ 165 (pb 5 7) lf r) qQ
 j (zp qQ [a,b,c,d,e,f]) K)=(fun a b c d e f g h i=>(iK 165 (pb 5 7) (pb 7 19) qQ j K lf r) (.exit 2) (zp [0,1,4,6,13,14,15,
 16,21] [a,b,c,d,e,f,g,h,i])):=by
 unfold Ba;simp only[P6,Gg];kernel_rfl
theorem P7(K:KT):∀fu,sP lf r fu (K (.exit 0) [])=fun a b c d e f=>bc (cQ 165 (pb 5 7) lf r) qQ fu (zp qQ [a,b,c,d,e,f]) K
 |0=>by funext a b c d e f;kernel_rfl
 |fu+1=>by have g:=P7 K fu;funext a b c d e f;rw[sP];simp only[g,aaP,P6,P5,Gg];kernel_rfl
theorem aaQ:Bb lf r=((tK 165 (pb 4 7) lf r) (.exit 0) []):=jK
theorem P8:aw ad gt lf r 165 #[a,b]=inside (Bc lf r a b):=by unfold Bc;simp only[aaQ,P7];kernel_rfl
def Gh(lf:Nat)(r:RT)(a b c:V):M V:=aG c fun d=>ax d b fun e=>aK c e fun _=>ae []
theorem P9:aw ad gt lf r 166 #[a,b,c]=inside (Gh lf r a b c):=jK
def Gi(lf:Nat)(r:RT)(a:V):M V:=r7 a (ii 0) (ae [(ii 0)]) (bx a (ii 1) fun c=>mH c (ii 50) fun d=>ax d (ii 1) fun e=>ae [e])
theorem P':aw ad gt lf r 167 #[a]=inside (Gi lf r a):=jK
def Gj(lf:Nat)(r:RT)(a b:V):M V:=bf b (ii 0) (ae [nS,(ii 1)]) (aY a fun d=>aj r 167 [d] fun e=>gR b e (ae [nS,(ii 1)]) (aj r 200 [a,b,(ii 50)] fun c=>ae [c,(ii 0)]))
theorem Qa:aw ad gt lf r 168 #[a,b]=inside (Gj lf r a b):=jK
def sQ(lf:Nat)(r:RT):Nat->((V->M V)×(V->V->M V))->V->V->V->V->V->V->V->V->V->M V|0,_,_,_,_,_,_,_,_,_,_=> .fail|fu+1,k,a,b,c,d,e,f,g,h,i=>bf i h (aM g i fun l=>aG l fun m=>bf m (ii 0) (k.2 (ii 0) (ii 1)) (aY b fun n=>gR m n (k.2 (ii 0) (ii 1)) (aM b m fun l=>aG l fun n=>aj r 202 [e,n] fun p=>ax i (ii 1) fun e=>sQ lf r fu k a b c d p f g h e))) (k.1 e)
def Qb:List Nat:=[0,1,4,5,6,11,12,13,14]
def uY(lf:Nat)(r:RT):(V->M V)×(V->V->M V):=(fun a=>ae [a,(ii 0)],fun a b=>ae [a,b])
def Bd(lf:Nat)(r:RT)(a b:V):M V:=aj r 201 [b] fun c=>dI c fun d=>aH d (ae [(ii 0),(ii 1)]) (aY a fun c=>sQ lf r lf (uY lf r) a b (ii 0) (ii 0) (ii 0) d a c (ii 0))
theorem Qc(K:KT):∀fu,sQ lf r fu ((fun a=>K (.exit 0) (zp [6] [a]),fun a b=>K .ret (zp [4,5] [a,b])))=fun a b c
 d e f g h i=>bc (cQ 169 (pb 7 23) lf r) Qb fu (zp Qb [a,b,c,d,e,f,g,h,i]) K
 |0=>by funext a b c d e f g h i;kernel_rfl
 |fu+1=>by have j:=Qc K fu;funext a b c d e f g h i;rw[sQ];simp only[j];kernel_rfl
theorem aaR:uY lf r=((fun a=>(tK 169 (pb 6 23) lf r) (.exit 0) (zp [6] [a]),fun a b=>(tK 169 (pb 6 23) lf r) .ret (zp [4,5] [a,b]))):=jK
theorem Qd:aw ad gt lf r 169 #[a,b]=inside (Bd lf r a b):=by unfold Bd;simp only[aaR,Qc];kernel_rfl
def Gk(lf:Nat)(r:RT)(a b c:V):M V:=aG c fun d=>ep .u32 a fun e=>aj r 56 [d,e,b] fun f=>ae []
theorem Qe:aw ad gt lf r 170 #[a,b,c]=inside (Gk lf r a b c):=jK
def Gm(lf:Nat)(r:RT)(a:V):M V:=aj r 203 [a] fun b=>aW b 0 fun c=>aW b 1 fun d=>dR d (ii 0) (dR c (ii 1048576) (aj r 204 [a,(ii 0)] fun f=>dI f fun g=>ae [g]) (ae [bF])) (ae [bF])
theorem Qf:aw ad gt lf r 171 #[a]=inside (Gm lf r a):=jK
def Gn(lf:Nat)(r:RT)(a b:V):M V:=gS a nP (ae [(i3 0),(ii 0),(ii 7)]) (bf b (ii 0) (ae [(i3 0),(ii 0),(ii 1)]) (ai a fun e=>an 0 e fun g=>aY g fun h=>gR b h (ae [(i3 0),(ii 0),(ii 1)]) (ai a fun d=>an 1 d fun f=>aM f b fun g=>aG g fun h=>ai a fun j=>an 0 j fun m=>aM m b fun n=>aG n fun o=>ae [h,o,(ii 0)])))
theorem Qg:aw ad gt lf r 172 #[a,b]=inside (Gn lf r a b):=jK
def Qh(lf:Nat)(r:RT)(a:V):M V:=fp 113 a fun b=>an 0 b fun d=>db 5 1 d fun e=>kQ e fun f=>an 1 b fun d=>bf d (ii 4) (an 1 b fun d=>aj r 211 [f,d] fun g=>ae [g]) ((bk (aj r 211 [f,(ii 4)] M.ret)).bind fun c=>aQ 1 b fun d=>(bk (aG d M.ret)).bind fun g=>bx g.1 (ii 4) fun h=>(bk (ep .u8 h M.ret)).bind fun i=>(bk (db 5 1 i.1 M.ret)).bind fun j=>(bk (kQ j.1 M.ret)).bind fun l=>ax c.1 l.1 fun m=>lV ((!(fo c.2 g.2)&&(!(fo c.2 i.2)&&(!(fo c.2 j.2)&&(!(fo c.2 l.2)&&true))))&&true) (ae [m]))
theorem aaS:aw ad gt lf r 180 #[a]=inside (Qh lf r a):=jK
def Qi(lf:Nat)(r:RT)(a b c:V):M V:=kO b (i6 8) fun d=>jy b (i6 24) fun e=>ep .u8 e fun f=>oY f c fun g=>ai a fun h=>eW 256 h g fun i=>aG i fun j=>oY d j fun l=>ae [l]
theorem aaT:aw ad gt lf r 181 #[a,b,c]=inside (Qi lf r a b c):=jK
def Gp(lf:Nat)(r:RT)(a:V):M V:=ai a fun b=>an 5 b fun d=>aY d fun e=>bx e (ii 1) fun f=>bf f (ii 0) (ae []) (ai a fun c=>aQ 6 c fun d=>an 2 d fun g=>ej g (ii 0) (ae []) (ai a fun i=>an 5 i fun l=>qA 3 l f fun m=>an 1 m fun o=>dR o (ii 0) (ae []) (ai a fun b=>an 5 b fun d=>qA 3 d f fun e=>bO 3 e fun g=>ai a fun h=>aQ 6 h fun i=>bW 3 i g fun _=>ai a fun b=>an 5 b fun d=>j5 203 3 d none (some f) fun e=>ai a fun g=>aQ 5 g fun h=>aK h e fun _=>ai a fun b=>aQ 9 b fun c=>aK c (ii 0) fun _=>ai a fun b=>aQ 10 b fun c=>aK c (ii 0) fun _=>ai a fun b=>aQ 6 b fun c=>an 1 c fun e=>ai a fun g=>aQ 11 g fun h=>aK h e fun _=>ae [])))
theorem Qj:aw ad gt lf r 182 #[a]=inside (Gp lf r a):=jK
def Gq(lf:Nat)(r:RT)(a:V):M V:=ai a fun b=>an 3 b fun d=>ai a fun e=>an 9 e fun g=>ai a fun h=>an 1 h fun j=>ai a fun l=>aQ 6 l fun m=>an 0 m fun o=>ai a fun p=>an 9 p fun s=>ax o s fun t=>aM j t fun u=>aG u fun v=>aM d g fun w=>aK w v fun _=>ai a fun b=>an 9 b fun d=>ax d (ii 1) fun e=>ai a fun f=>aQ 9 f fun g=>aK g e fun _=>ae []
theorem Qk:aw ad gt lf r 183 #[a]=inside (Gq lf r a):=jK
def Gr(lf:Nat)(r:RT)(a:V):M V:=ai a fun b=>aQ 6 b fun c=>bO 3 c fun d=>dF 203 z203 fun e=>bW 3 e d fun _=>an 0 e fun c=>ai a fun d=>an 10 d fun g=>ax c g fun h=>ai a fun i=>an 11 i fun l=>ax h l fun m=>an 1 e fun o=>bx m o fun p=>ai a fun b=>an 11 b fun d=>an 2 e fun g=>dR d g (ai a fun b=>an 1 b fun d=>ai a fun f=>an 3 f fun h=>ai a fun i=>an 10 i fun l=>aM h l fun m=>aG m fun n=>aM d p fun o=>aK o n fun _=>ai a fun b=>an 10 b fun d=>ax d (ii 1) fun f=>ai a fun g=>aQ 10 g fun h=>aK h f fun _=>an 2 e fun c=>bx c (ii 1) fun d=>dR p d (dh z203 [] fun b=>ai a fun c=>aQ 6 c fun d=>bW 3 d b fun _=>ae []) (ae [])) (ai a fun i=>an 10 i fun l=>ai a fun m=>an 9 m fun o=>bf l o (ai a fun s=>an 3 s fun u=>ai a fun v=>an 10 v fun x=>aM u x fun y=>aG y fun z=>ai a fun A=>an 1 A fun C=>ai a fun D=>an 11 D fun G=>aM C G fun J=>aG J fun L=>aj r 212 [a,z,L] fun N=>dI N fun O=>(fun b=>aH O (ai a fun c=>an 1 c fun f=>ai a fun g=>an 3 g fun i=>ai a fun j=>an 10 j fun m=>aM i m fun n=>aG n fun o=>aM f p fun q=>aK q o fun _=>ai a fun c=>an 10 c fun f=>ax f (ii 1) fun g=>ai a fun h=>aQ 10 h fun i=>aK i g fun _=>b) (ai a fun c=>an 1 c fun f=>ai a fun g=>an 1 g fun i=>ai a fun j=>an 11 j fun m=>aM i m fun n=>aG n fun o=>aM f p fun q=>aK q o fun _=>ai a fun c=>an 11 c fun f=>ax f (ii 1) fun g=>ai a fun h=>aQ 11 h fun i=>aK i g fun _=>b)) (an 2 e fun c=>bx c (ii 1) fun d=>dR p d (dh z203 [] fun b=>ai a fun c=>aQ 6 c fun d=>bW 3 d b fun _=>ae []) (ae []))) (ai a fun b=>an 1 b fun d=>ai a fun f=>an 1 f fun h=>ai a fun i=>an 11 i fun l=>aM h l fun m=>aG m fun n=>aM d p fun o=>aK o n fun _=>ai a fun b=>an 11 b fun d=>ax d (ii 1) fun f=>ai a fun g=>aQ 11 g fun h=>aK h f fun _=>an 2 e fun c=>bx c (ii 1) fun d=>dR p d (dh z203 [] fun b=>ai a fun c=>aQ 6 c fun d=>bW 3 d b fun _=>ae []) (ae [])))
theorem Ql:aw ad gt lf r 184 #[a]=inside (Gr lf r a):=jK
def Gs(lf:Nat)(r:RT)(a:V):M V:=ai a fun b=>an 5 b fun d=>ai a fun e=>an 5 e fun g=>aY g fun h=>bx h (ii 1) fun i=>qA 3 d i fun j=>bO 3 j fun l=>dF 203 z203 fun m=>bW 3 m l fun _=>ai a fun b=>an 5 b fun d=>ai a fun e=>an 5 e fun g=>aY g fun h=>bx h (ii 1) fun i=>j5 203 3 d none (some i) fun j=>ai a fun l=>aQ 5 l fun n=>aK n j fun _=>an 2 m fun c=>an 0 m fun e=>bx c e fun f=>bf f (ii 2) (ae []) (an 0 m fun c=>an 2 m fun e=>ax c e fun f=>mH f (ii 2) fun h=>ai a fun b=>an 5 b fun d=>an 0 m fun f=>an 2 m fun j=>dh z203 [(0,1,f),(1,1,h),(2,1,j)] fun l=>an 2 m fun o=>dh z203 [(0,1,h),(2,1,o)] fun p=>an 0 m fun s=>dh z203 [(0,1,s),(2,1,h)] fun t=>o6 203 (iL z203 3) 3 [(0,3,l),(3,3,p),(6,3,t)] fun u=>cN 203 3 d u fun v=>ai a fun w=>aQ 5 w fun x=>aK x v fun _=>ae [])
theorem Qm:aw ad gt lf r 185 #[a]=inside (Gs lf r a):=jK
def Gu(lf:Nat)(r:RT)(a:V):M V:=ai a fun b=>an 12 b fun d=>gu d (ii 0) fun b=>(fun c=>aH b (ai a fun e=>aQ 13 e fun f=>aK f (ii 0) fun _=>c) (ai a fun e=>an 1 e fun g=>aM g d fun h=>aG h fun i=>ai a fun j=>an 1 j fun m=>bx d (ii 1) fun n=>aM m n fun o=>aG o fun p=>aj r 212 [a,i,p] fun q=>aH q (ai a fun e=>an 13 e fun g=>ax g (ii 1) fun h=>ai a fun i=>aQ 13 i fun j=>aK j h fun _=>c) (c))) (ai a fun c=>an 3 c fun f=>ai a fun g=>an 1 g fun i=>aM i d fun j=>aG j fun l=>ai a fun m=>an 13 m fun o=>aM f l fun p=>aK p o fun _=>ai a fun c=>an 12 c fun f=>ax f (ii 1) fun g=>ai a fun h=>aQ 12 h fun i=>aK i g fun _=>ai a fun c=>an 12 c fun f=>ai a fun g=>an 1 g fun i=>aY i fun j=>dR f j (aj r 213 [a] fun c=>ae []) (ae []))
theorem Qn:aw ad gt lf r 186 #[a]=inside (Gu lf r a):=jK
def sR(lf:Nat)(r:RT):Nat->((V->M V)×(V->V->M V))->V->V->V->V->V->V->V->V->V->M V|0,_,_,_,_,_,_,_,_,_,_=> .fail|fu+1,k,a,b,c,d,e,f,g,h,i=>bf i h (aM g i fun l=>aG l fun m=>bf m (ii 0) (k.2 nS (ii 1)) (gR m b (k.2 nS (ii 1)) (aM e m fun l=>aG l fun o=>ax o (ii 1) fun p=>aM e m fun q=>aK q p fun _=>ax i (ii 1) fun l=>sR lf r fu k a b c d e f g h l))) (k.1 e)
def Qo:List Nat:=[0,1,4,5,6,14,17,18,19]
def uZ(lf:Nat)(r:RT):(V->M V)×(V->V->M V):=(fun a=>ae [a,(ii 0)],fun a b=>ae [a,b])
def wW(lf:Nat)(r:RT)(a b:V):M V:=bf b (ii 3) (ae [nS,(ii 1)]) (j4 b (ii 258) fun d=>aH d (ae [nS,(ii 1)]) (fQ 3 [(ii 0)] b b fun c=>aY a fun e=>sR lf r lf (uZ lf r) a b nS (ii 0) c d a e (ii 0)))
theorem Qp(K:KT):∀fu,sR lf r fu ((fun a=>K (.exit 0) (zp [6] [a]),fun a b=>K .ret (zp [4,5] [a,b])))=fun a
 b c d e f g h i=>bc (cQ 188 (pb 7 23) lf r) Qo fu (zp Qo [a,b,c,d,e,f,g,h,i]) K
 |0=>by funext a b c d e f g h i;kernel_rfl
 |fu+1=>by have j:=Qp K fu;funext a b c d e f g h i;rw[sR];simp only[j];kernel_rfl
theorem aaU:uZ lf r=((fun a=>(tK 188 (pb 6 23) lf r) (.exit 0) (zp [6] [a]),fun a b=>(tK 188 (pb 6 23) lf r) .ret (zp [4,5] [a,b]))):=jK
theorem Gv:aw ad gt lf r 188 #[a,b]=inside (wW lf r a b):=by unfold wW;simp only[aaU,Qp];kernel_rfl
def sS(lf:Nat)(r:RT):Nat->(V->M V)->V->V->V->V->V->M V|0,_,_,_,_,_,_=> .fail|fu+1,k,a,b,c,d,e=>bf e d (aj r 168 [a,e] fun g=>aW g 0 fun h=>aW g 1 fun i=>db 141 1 h fun g=>cN 141 1 c g fun i=>ax e (ii 1) fun c=>sS lf r fu k a b i d c) (k c)
def Qq:List Nat:=[0,2,3,9,10]
def Be(lf:Nat)(r:RT):(V->M V):=fun a=>ae [a]
def Bf(lf:Nat)(r:RT)(a:V):M V:=aY a fun b=>aj r 167 [b] fun c=>sS lf r lf (Be lf r) a nS nS c (ii 0)
theorem Qr(K:KT):∀fu,sS lf r fu (fun a=>K (.exit 0) (zp [3] [a]))=fun a b c d e=>bc (cQ 189 (pb 6
 11) lf r) Qq fu (zp Qq [a,b,c,d,e]) K
 |0=>by funext a b c d e;kernel_rfl
 |fu+1=>by have f:=Qr K fu;funext a b c d e;rw[sS];simp only[f];kernel_rfl
theorem aaV:Be lf r=(fun a=>(tK 189 (pb 5 11) lf r) (.exit 0) (zp [3] [a])):=jK
theorem Qs:aw ad gt lf r 189 #[a]=inside (Bf lf r a):=by unfold Bf;simp only[aaV,Qr];kernel_rfl
def sT(lf:Nat)(r:RT):Nat->(V->V->V->V->V->V->V->V->M V)->V->V->V->V->V->V->V->M V|0,_,_,_,_,_,_,_,_=> .fail|fu+1,k,a,b,c,d,e,f,g=>da g f fun h=>aH h (aY a fun i=>fQ 3 [(ii 0)] i i fun j=>aM e g fun l=>aK l j fun _=>ax g (ii 1) fun i=>sT lf r fu k a b c d e f i) (k a b c d e f g h)
def Qt:List Nat:=[0,1,4,5,6,18,19]
def qR(lf:Nat)(r:RT):Nat->(V->V->V->V->V->V->V->V->V->V->V->V->V->M V)->V->V->V->V->V->V->V->V->V->V->V->V->V->V->V->V->V->V->M V|0,_,_,_,_,_,_,_,_,_,_,_,_,_,_,_,_,_,_,_=> .fail|fu+1,k,a,b,c,d,e,f,g,h,i,j,l,m,n,o,p,q,s,t=>bf t s (iO t i (aM e t fun w=>aG w fun x=>aM x g fun y=>aK y (ii 15) fun _=>ax t (ii 1) fun w=>qR lf r fu k a b c d e f g h i j l m n o p q s w) (ax t (ii 1) fun w=>qR lf r fu k a b c d e f g h i j l m n o p q s w)) (k a b c d e f h j l m n o p)
def Qu:List Nat:=[0,1,4,5,6,8,9,10,11,18,19,20,29,30,31,32,42,43]
def Bg(lf:Nat)(r:RT)(k:(V->M V))(s:V->V->V->V->V->V->V->V->V->V->V->V->M V):(V->V->V->V->V->V->V->V->V->V->V->V->V->M V):=fun a b c d e f g h i j l m n=>ax f g fun o=>bx b (ii 1) fun p=>jz o p fun q=>ax n (ii 1) fun f=>s a b c d e q h i j l m f
def qS(lf:Nat)(r:RT):Nat->(V->M V)->V->V->V->V->V->V->V->V->V->V->V->V->M V|0,_,_,_,_,_,_,_,_,_,_,_,_,_=> .fail|fu+1,k,a,b,c,d,e,f,g,h,i,j,l,m=>da m l fun n=>aH n (aM j m fun o=>aG o fun p=>gq f d fun o=>mH o b fun q=>aY e fun o=>qR lf r lf (Bg lf r k (qS lf r fu k)) a b c d e f m p q g h i j l m n o (ii 0)) (k e)
def wX:List Nat:=[0,1,4,5,6,8,18,19,20,29,30,31]
abbrev Qv(lf:Nat)(r:RT)(a:Nat)(k:(V->M V)):(V->V->V->V->V->V->V->V->V->V->V->V->V->M V):=Bg lf r k (qS lf r a k)
def wY(lf:Nat)(r:RT):(V->M V):=fun a=>ae [a]
def wZ(lf:Nat)(r:RT):(V->V->V->V->V->V->V->V->M V):=fun a b c d e f g h=>aY a fun i=>qS lf r lf (wY lf r) a b c d e (ii 0) f g h a i (ii 0)
def Bh(lf:Nat)(r:RT)(a b:V):M V:=aj r 214 [b] fun c=>fQ 141 [nS] c c fun d=>aY d fun e=>sT lf r lf (wZ lf r) a b nS c d e (ii 0)
theorem Qw(K:KT):∀fu,sT lf r fu (fun a b c d e f g h=>K (.exit 0) (zp [0,1,4,5,6,18,19,20] [a,b,c,d,
 e,f,g,h]))=fun a b c d e f g=>bc (cQ 190 (pb 7 23) lf r) Qt fu (zp Qt [a,b,c,d,e,f,g]) K
 |0=>by funext a b c d e f g;kernel_rfl
 |fu+1=>by have i:=Qw K fu;funext a b c d e f g;rw[sT];simp only[i];kernel_rfl
theorem Qx(K:KT):∀fu,qR lf r fu (fun a b c d e f g h i j l m n=>K (.exit 4) (zp [0,1,4,5,6,8,10,18,19,
 20,29,30,31] [a,b,c,d,e,f,g,h,i,j,l,m,n]))=fun a b c d e f g h i j l m n o p q s t=>bc (cQ 190 (pb 19 91743) lf r) Qu fu (zp
 Qu [a,b,c,d,e,f,g,h,i,j,l,m,n,o,p,q,s,t]) K
 |0=>by funext a b c d e f g h i j l m n o p q s t;kernel_rfl
 |fu+1=>by have k:=Qx K fu;funext a b c d e f g h i j l m n o p q s t;rw[qR];simp only[k];kernel_rfl
theorem aaW(K:KT)(k:Nat):Bg lf r (fun a=>K (.exit 2) (zp [6] [a])) (fun a b c d e f g h i j l m=>bc (cQ
 190 (pb 9 95) lf r) wX k (zp wX [a,b,c,d,e,f,g,h,i,j,l,m]) K)=(fun a b c d e f g h i j l m n=>(iK 190 (pb 9 95) (pb 9 179)
 wX k K lf r) (.exit 4) (zp [0,1,4,5,6,8,10,18,19,20,29,30,31] [a,b,c,d,e,f,g,h,i,j,l,m,n])):=by kernel_rfl
theorem Gw(K:KT):∀fu,qS lf r fu (fun a=>K (.exit 2) (zp [6] [a]))=fun a b c d e f g h i j l m=>bc (cQ 190
 (pb 9 95) lf r) wX fu (zp wX [a,b,c,d,e,f,g,h,i,j,l,m]) K
 |0=>by funext a b c d e f g h i j l m;kernel_rfl
 |fu+1=>by have k:=Gw K fu;funext a b c d e f g h i j l m;rw[qS];simp only[k,aaW,Qx];kernel_rfl
theorem Qy:wY lf r=(fun a=>(tK 190 (pb 8 95) lf r) (.exit 2) (zp [6] [a])):=jK
theorem aaX:wZ lf r=(fun a b c d e f g h=>(tK 190 (pb 6 23) lf r) (.exit 0) (zp [0,1,4,5,6,18,19,20] [a,b,c,d,e,f,g,h])):=by unfold wZ;simp only[Qy,Gw];kernel_rfl
theorem Qz:aw ad gt lf r 190 #[a,b]=inside (Bh lf r a b):=by unfold Bh;simp only[aaX,Qy,Qw,Gw];kernel_rfl
def sU(lf:Nat)(r:RT):Nat->(V->V->V->V->V->V->V->V->V->V->M V)->V->V->V->V->V->V->V->V->V->M V|0,_,_,_,_,_,_,_,_,_,_=> .fail|fu+1,k,a,b,c,d,e,f,g,h,i=>da i h fun j=>aH j (fQ 3 [(ii 0)] c c fun l=>aM g i fun m=>aK m l fun _=>ax i (ii 1) fun l=>sU lf r fu k a b c d e f g h l) (k a b c d e f g h i j)
def QA:List Nat:=[0,1,2,6,7,8,9,27,28]
def sV(lf:Nat)(r:RT):Nat->(V->V->V->V->V->V->V->V->V->V->V->V->V->V->M V)->V->V->V->V->V->V->V->V->V->V->V->V->V->M V|0,_,_,_,_,_,_,_,_,_,_,_,_,_,_=> .fail|fu+1,k,a,b,c,d,e,f,g,h,i,j,l,m,n=>da n m fun o=>aH o (aM l n fun p=>aG p fun q=>aj r 215 [q,b] fun p=>db 3 1 p fun s=>cN 3 1 f s fun t=>aj r 188 [q,c] fun f=>aW f 0 fun s=>aW f 1 fun u=>aM g p fun f=>aG f fun u=>aj r 216 [u,s] fun v=>aW v 0 fun w=>aW v 1 fun x=>aM g p fun f=>aK f w fun _=>ax n (ii 1) fun f=>sV lf r fu k a b c d e t g h i j l m f) (k a b c d e f g h i j l m n o)
def QB:List Nat:=[0,1,2,6,7,8,9,27,28,29,37,38,39]
def sW(lf:Nat)(r:RT):Nat->(V->V->M V)->V->V->V->V->V->V->V->V->V->V->V->V->V->V->V->V->V->V->M V|0,_,_,_,_,_,_,_,_,_,_,_,_,_,_,_,_,_,_,_=> .fail|fu+1,k,a,b,c,d,e,f,g,h,i,j,l,m,n,o,p,q,s,t=>bf t s (aM q t fun v=>aG v fun w=>aj r 217 [w] fun v=>aW v 0 fun x=>aW v 1 fun y=>db 141 1 x fun v=>cN 141 1 h v fun y=>ax t (ii 1) fun h=>sW lf r fu k a b c d e f g y i j l m n o p q s h) (k f h)
def QC:List Nat:=[0,1,2,6,7,8,9,18,27,28,29,37,38,39,40,70,71,72]
def Bi(lf:Nat)(r:RT):(V->V->M V):=fun a b=>ae [a,b]
def xa(lf:Nat)(r:RT):(V->V->V->V->V->V->V->V->V->V->V->V->V->V->M V):=fun a b c d e f g h i j l m n o=>aY g fun p=>sW lf r lf (Bi lf r) a b c d e f g nS h i j l m n o g p (ii 0)
def xc(lf:Nat)(r:RT):(V->V->V->V->V->V->V->V->V->V->M V):=fun a b c d e f g h i j=>aY a fun l=>sV lf r lf (xa lf r) a b c d e f g h i j a l (ii 0)
def Bj(lf:Nat)(r:RT)(a b c:V):M V:=aY b fun d=>fQ 141 [nS] d d fun e=>aY e fun d=>sU lf r lf (xc lf r) a b c nS nS nS e d (ii 0)
theorem QD(K:KT):∀fu,sU lf r fu (fun a b c d e f g h i j=>K (.exit 0) (zp [0,1,2,6,7,8,9,27,28,29] [a,
 b,c,d,e,f,g,h,i,j]))=fun a b c d e f g h i=>bc (cQ 191 (pb 7 23) lf r) QA fu (zp QA [a,b,c,d,e,f,g,h,i]) K
 |0=>by funext a b c d e f g h i;kernel_rfl
 |fu+1=>by have k:=QD K fu;funext a b c d e f g h i;rw[sU];simp only[k];kernel_rfl
theorem Gx(K:KT):∀fu,sV lf r fu (fun a b c d e f g h i j l m n o=>K (.exit 2) (zp [0,1,2,6,7,8,9,27,28,
 29,37,38,39,40] [a,b,c,d,e,f,g,h,i,j,l,m,n,o]))=fun a b c d e f g h i j l m n=>bc (cQ 191 (pb 8 47) lf r) QB fu (zp
 QB [a,b,c,d,e,f,g,h,i,j,l,m,n]) K
 |0=>by funext a b c d e f g h i j l m n;kernel_rfl
 |fu+1=>by have k:=Gx K fu;funext a b c d e f g h i j l m n;rw[sV];simp only[k];kernel_rfl
theorem Gy(K:KT):∀fu,sW lf r fu (fun a b=>K (.exit 4) (zp [8,18] [a,b]))=fun a b c d e f g h i j l m n o p q
 s t=>bc (cQ 191 (pb 10 191) lf r) QC fu (zp QC [a,b,c,d,e,f,g,h,i,j,l,m,n,o,p,q,s,t]) K
 |0=>by funext a b c d e f g h i j l m n o p q s t;kernel_rfl
 |fu+1=>by have k:=Gy K fu;funext a b c d e f g h i j l m n o p q s t;rw[sW];simp only[k];kernel_rfl
theorem QE:Bi lf r=(fun a b=>(tK 191 (pb 9 191) lf r) (.exit 4) (zp [8,18] [a,b])):=jK
theorem QF:xa lf r=(fun a b c d e f g h i j l m n o=>(tK 191 (pb 7 47) lf r) (.exit 2) (zp [0,1,2,6,7,8,9,
 27,28,29,37,38,39,40] [a,b,c,d,e,f,g,h,i,j,l,m,n,o])):=by
 unfold xa;simp only[QE,Gy];kernel_rfl
theorem aaY:xc lf r=(fun a b c d e f g h i j=>(tK 191 (pb 6 23) lf r) (.exit 0) (zp [0,1,2,6,7,8,9,27,28,29] [a,b,c,d,e,f,g,h,i,j])):=by unfold xc;simp only[QF,Gx];kernel_rfl
theorem QG:aw ad gt lf r 191 #[a,b,c]=inside (Bj lf r a b c):=by unfold Bj;simp only[aaY,QF,QE,QD,Gx,Gy];kernel_rfl
def Gz(lf:Nat)(r:RT)(a:V):M V:=gR a (ii 2) (lU a (ii 6) fun c=>ae [c]) (ae [bF])
theorem QH:aw ad gt lf r 192 #[a]=inside (Gz lf r a):=jK
def xd(lf:Nat)(r:RT)(a b:V):M V:=aj r 218 [a,b] fun c=>rT c (ii 0) fun d=>ae [d]
theorem Bl:aw ad gt lf r 193 #[a,b]=inside (xd lf r a b):=jK
def GA(lf:Nat)(r:RT)(a b:V):M V:=bf a (ii 0) (ae [bT]) (aG b fun d=>rT a d fun e=>ae [e])
theorem QI:aw ad gt lf r 194 #[a,b]=inside (GA lf r a b):=jK
def va(lf:Nat)(r:RT):Nat->(V->V->M V)->V->V->V->M V|0,_,_,_,_=> .fail|fu+1,k,a,b,c=>bf c (ii 6) (eW 6 b c fun e=>aK e c fun _=>ax c (ii 1) fun e=>va lf r fu k a b e) (k a b)
def QJ:List Nat:=[0,1,3]
def Bn(lf:Nat)(r:RT):(V->V->M V):=fun a b=>bO 6 b fun c=>bW 6 a c fun _=>bO 6 a fun b=>ae [b]
def Bo(lf:Nat)(r:RT):M V:=dF 237 Aj fun a=>dF 237 Aj fun b=>va lf r lf (Bn lf r) a b (ii 0)
theorem QL(K:KT):∀fu,va lf r fu (fun a b=>K (.exit 0) (zp [0,1] [a,b]))=fun a b c=>bc (cQ 195 (pb 6 11)
 lf r) QJ fu (zp QJ [a,b,c]) K
 |0=>by funext a b c;kernel_rfl
 |fu+1=>by have d:=QL K fu;funext a b c;rw[va];simp only[d];kernel_rfl
theorem aaZ:Bn lf r=(fun a b=>(tK 195 (pb 5 11) lf r) (.exit 0) (zp [0,1] [a,b])):=jK
theorem QM:aw ad gt lf r 195 #[]=inside (Bo lf r):=by unfold Bo;simp only[aaZ,QL];kernel_rfl
def sX(lf:Nat)(r:RT):Nat->(V->V->M V)->V->V->V->V->M V|0,_,_,_,_,_=> .fail|fu+1,k,a,b,c,d=>ai a fun e=>eW 6 e d fun f=>aG f fun g=>iO g b (ax d (ii 1) fun e=>sX lf r fu k a b c e) (k a d)
def QN:List Nat:=[0,1,4,5]
def Bp(lf:Nat)(r:RT):(V->V->M V):=fun a b=>aj r 219 [a,b] fun c=>ae [b]
def Bq(lf:Nat)(r:RT)(a b:V):M V:=sX lf r lf (Bp lf r) a b (ii 0) (ii 0)
theorem QO(K:KT):∀fu,sX lf r fu (fun a b=>K (.exit 0) (zp [0,5] [a,b]))=fun a b c d=>bc (cQ 196
 (pb 5 3) lf r) QN fu (zp QN [a,b,c,d]) K
 |0=>by funext a b c d;kernel_rfl
 |fu+1=>by have e:=QO K fu;funext a b c d;rw[sX];simp only[e];kernel_rfl
theorem aa0:Bp lf r=(fun a b=>(tK 196 (pb 4 3) lf r) (.exit 0) (zp [0,5] [a,b])):=jK
theorem QP:aw ad gt lf r 196 #[a,b]=inside (Bq lf r a b):=by unfold Bq;simp only[aa0,QO];kernel_rfl
def GB(lf:Nat)(r:RT)(a:V):M V:=gR a (ii 3) (lU a (ii 258) fun c=>ae [c]) (ae [bF])
theorem QQ:aw ad gt lf r 197 #[a]=inside (GB lf r a):=jK
def GC(lf:Nat)(r:RT)(a:V):M V:=aj r 199 [a] fun b=>dI b fun c=>ae [c]
theorem QR:aw ad gt lf r 198 #[a]=inside (GC lf r a):=jK
def GD(lf:Nat)(r:RT)(a:V):M V:=gR a (ii 1) (lU a (ii 20) fun c=>ae [c]) (ae [bF])
theorem QS:aw ad gt lf r 199 #[a]=inside (GD lf r a):=jK
def GF(lf:Nat)(r:RT)(a b c:V):M V:=gq b c fun d=>aY a fun e=>ax b (ii 1) fun f=>gq f c fun g=>jz e g fun h=>j5 3 1 a (some d) (some h) fun i=>aj r 156 [i] fun j=>ae [j]
theorem QT:aw ad gt lf r 200 #[a,b,c]=inside (GF lf r a b c):=jK
def GG(lf:Nat)(r:RT)(a:V):M V:=aj r 193 [a,(vP (.func 220) #[] #[])] fun b=>dI b fun c=>ae [c]
theorem QU:aw ad gt lf r 201 #[a]=inside (GG lf r a):=jK
def GH(lf:Nat)(r:RT)(a b:V):M V:=ax a b fun c=>jz c (ii 1099511627776) fun d=>ae [d]
theorem QW:aw ad gt lf r 202 #[a,b]=inside (GH lf r a b):=jK
def sY(lf:Nat)(r:RT):Nat->(V->M V)->V->V->V->V->V->V->V->V->M V|0,_,_,_,_,_,_,_,_,_=> .fail|fu+1,k,a,b,c,d,e,f,g,h=>bf h g (aM f h fun j=>aG j fun l=>bx (ii 20) l fun j=>kO (ii 1) j fun m=>ax d m fun n=>ax h (ii 1) fun d=>sY lf r fu k a b c n e f g d) (k d)
def QX:List Nat:=[0,2,3,4,14,15,16,17]
def Br(lf:Nat)(r:RT):(V->M V):=fun a=>ae [a,(ii 0)]
def Bs(lf:Nat)(r:RT)(a:V):M V:=aY a fun b=>ej b (ii 258) (ae [(ii 0),(ii 1)]) (aj r 222 [a,(ii 0),(ii 20)] fun d=>dI d fun e=>aH e (ae [(ii 0),(ii 1)]) (aY a fun b=>sY lf r lf (Br lf r) a (ii 0) (ii 0) (ii 0) e a b (ii 0)))
theorem QY(K:KT):∀fu,sY lf r fu (fun a=>K (.exit 0) (zp [4] [a]))=fun a b c d e f g h=>bc (cQ 203 (pb 7 23)
 lf r) QX fu (zp QX [a,b,c,d,e,f,g,h]) K
 |0=>by funext a b c d e f g h;kernel_rfl
 |fu+1=>by have i:=QY K fu;funext a b c d e f g h;rw[sY];simp only[i];kernel_rfl
theorem aa1:Br lf r=(fun a=>(tK 203 (pb 6 23) lf r) (.exit 0) (zp [4] [a])):=jK
theorem QZ:aw ad gt lf r 203 #[a]=inside (Bs lf r a):=by unfold Bs;simp only[aa1,QY];kernel_rfl
def GI(lf:Nat)(r:RT)(a b:V):M V:=aj r 160 [a,b] fun c=>rT c (ii 0) fun d=>ae [d]
theorem Q3:aw ad gt lf r 204 #[a,b]=inside (GI lf r a b):=jK
def GJ(lf:Nat)(r:RT)(a b c:V):M V:=aj r 232 [a,b] fun d=>aj r 232 [a,c] fun e=>dF 31 z31 fun f=>dF 31 z31 fun g=>bW 2 f d fun _=>bW 2 g e fun _=>eW 2 f (ii 0) fun d=>aG d fun e=>eW 2 g (ii 0) fun h=>aG h fun i=>ej e i (ae [bT]) (eW 2 f (ii 0) fun l=>aG l fun m=>eW 2 g (ii 0) fun n=>aG n fun o=>dR m o (eW 2 f (ii 1) fun q=>aG q fun s=>eW 2 g (ii 1) fun t=>aG t fun u=>j4 s u fun v=>ae [v]) (ae [bF]))
theorem Q4:aw ad gt lf r 212 #[a,b,c]=inside (GJ lf r a b c):=jK
def GK(lf:Nat)(r:RT)(a:V):M V:=ai a fun b=>an 2 b fun d=>ai a fun b=>an 3 b fun e=>ai a fun f=>aQ 2 f fun g=>aK g e fun _=>ai a fun b=>aQ 3 b fun c=>aK c d fun _=>ai a fun b=>aQ 12 b fun c=>aK c (ii 0) fun _=>ai a fun b=>an 13 b fun e=>ai a fun f=>an 1 f fun h=>aY h fun i=>bx i (ii 1) fun j=>dR e j (ai a fun b=>aQ 15 b fun c=>aK c bT fun _=>ae []) (ai a fun m=>an 4 m fun o=>ai a fun p=>an 1 p fun s=>aY s fun t=>gR o t (ai a fun b=>aQ 15 b fun c=>aK c bT fun _=>ae []) (ai a fun b=>an 4 b fun e=>gq (ii 2) e fun f=>qz (ii 1) f fun g=>ai a fun h=>aQ 4 h fun i=>aK i g fun _=>ai a fun b=>an 5 b fun e=>ai a fun f=>an 1 f fun h=>aY h fun i=>dh z203 [(0,1,(ii 0)),(2,1,i)] fun j=>db 203 3 j fun l=>cN 203 3 e l fun m=>ai a fun n=>aQ 5 n fun o=>aK o m fun _=>ae []))
theorem Q5:aw ad gt lf r 213 #[a]=inside (GK lf r a):=jK
def dS(lf:Nat)(r:RT):Nat->(V->M V)->V->V->V->V->V->M V|0,_,_,_,_,_,_=> .fail|fu+1,k,a,b,c,d,e=>bf e (ii 4) (qB 4 d e fun g=>gR a g (ax c (ii 1) fun i=>ax e (ii 1) fun c=>dS lf r fu k a b i d c) (ax e (ii 1) fun i=>dS lf r fu k a b c d i)) (k c)
def Q6:List Nat:=[0,2,3,6,7]
def qT(lf:Nat)(r:RT):(V->M V):=fun a=>ae [a]
def Bt(lf:Nat)(r:RT)(a:V):M V:=bO 4 (Value.pointer (some ⟨1,0,none⟩)) fun b=>dS lf r lf (qT lf r) a (ii 0) (ii 2) b (ii 0)
theorem Q7(K:KT):∀fu,dS lf r fu (fun a=>K (.exit 0) (zp [3] [a]))=fun a b c d e=>bc (cQ 214 (pb 6 11)
 lf r) Q6 fu (zp Q6 [a,b,c,d,e]) K
 |0=>by funext a b c d e;kernel_rfl
 |fu+1=>by have f:=Q7 K fu;funext a b c d e;rw[dS];simp only[f];kernel_rfl
theorem aa2:qT lf r=(fun a=>(tK 214 (pb 5 11) lf r) (.exit 0) (zp [3] [a])):=jK
theorem Q8:aw ad gt lf r 214 #[a]=inside (Bt lf r a):=by unfold Bt;simp only[aa2,Q7];kernel_rfl
def qU(lf:Nat)(r:RT):Nat->(V->M V)->V->V->V->V->V->V->V->V->M V|0,_,_,_,_,_,_,_,_,_=> .fail|fu+1,k,a,b,c,d,e,f,g,h=>bf h g (aM f h fun j=>aG j fun l=>aj r 169 [a,l] fun j=>aW j 0 fun m=>aW j 1 fun n=>bf m e (ax h (ii 1) fun d=>qU lf r fu k a b c h m f g d) (ax h (ii 1) fun n=>qU lf r fu k a b c d e f g n)) (k d)
def Q9:List Nat:=[0,1,4,5,6,11,12,13]
def Bu(lf:Nat)(r:RT):(V->M V):=fun a=>ae [a]
def Bv(lf:Nat)(r:RT)(a b:V):M V:=aY b fun c=>qU lf r lf (Bu lf r) a b (ii 0) (ii 0) (ii 1099511627776) b c (ii 0)
theorem Ra(K:KT):∀fu,qU lf r fu (fun a=>K (.exit 0) (zp [5] [a]))=fun a b c d e f g h=>bc (cQ 215 (pb 6 11)
 lf r) Q9 fu (zp Q9 [a,b,c,d,e,f,g,h]) K
 |0=>by funext a b c d e f g h;kernel_rfl
 |fu+1=>by have i:=Ra K fu;funext a b c d e f g h;rw[qU];simp only[i];kernel_rfl
theorem aa3:Bu lf r=(fun a=>(tK 215 (pb 5 11) lf r) (.exit 0) (zp [5] [a])):=jK
theorem Rb:aw ad gt lf r 215 #[a,b]=inside (Bv lf r a b):=by unfold Bv;simp only[aa3,Ra];kernel_rfl
def s0(lf:Nat)(r:RT):Nat->(V->M V)->V->V->V->V->V->V->V->V->M V|0,_,_,_,_,_,_,_,_,_=> .fail|fu+1,k,a,b,c,d,e,f,g,h=>bf h g (aM a h fun j=>aG j fun l=>aM b h fun m=>aG m fun n=>aj r 202 [l,n] fun o=>aM e h fun p=>aK p o fun _=>ax h (ii 1) fun j=>s0 lf r fu k a b c d e f g j) (k e)
def Rc:List Nat:=[0,1,4,5,6,22,27,28]
def Bw(lf:Nat)(r:RT):(V->M V):=fun a=>ae [a,(ii 0)]
def Bx(lf:Nat)(r:RT)(a b:V):M V:=aY a fun c=>aY b fun d=>iO c d (ae [nS,(ii 1)]) (aj r 201 [a] fun f=>dI f fun g=>aH g (ae [nS,(ii 1)]) (aj r 201 [b] fun h=>dI h fun i=>aH i (ae [nS,(ii 1)]) (aY a fun c=>fQ 3 [(ii 0)] c c fun d=>aY d fun c=>s0 lf r lf (Bw lf r) a b nS (ii 0) d i c (ii 0))))
theorem Rd(K:KT):∀fu,s0 lf r fu (fun a=>K (.exit 0) (zp [6] [a]))=fun a b c d e f g h=>bc (cQ 216 (pb 7 23) lf r)
 Rc fu (zp Rc [a,b,c,d,e,f,g,h]) K
 |0=>by funext a b c d e f g h;kernel_rfl
 |fu+1=>by have i:=Rd K fu;funext a b c d e f g h;rw[s0];simp only[i];kernel_rfl
theorem aa4:Bw lf r=(fun a=>(tK 216 (pb 6 23) lf r) (.exit 0) (zp [6] [a])):=jK
theorem Re:aw ad gt lf r 216 #[a,b]=inside (Bx lf r a b):=by unfold Bx;simp only[aa4,Rd];kernel_rfl
def s7(lf:Nat)(r:RT):Nat->(V->V->V->V->V->V->V->V->V->M V)->V->V->V->V->V->V->V->V->M V|0,_,_,_,_,_,_,_,_,_=> .fail|fu+1,k,a,b,c,d,e,f,g,h=>da h g fun i=>aH i (aM f h fun j=>aG j fun l=>qz l (ii 1) fun j=>aM d h fun m=>aK m j fun _=>ax h (ii 1) fun j=>s7 lf r fu k a b c d e f g j) (k a b c d e f g h i)
def Rf:List Nat:=[0,2,3,4,20,24,25,26]
def s8(lf:Nat)(r:RT):Nat->(V->V->M V)->V->V->V->V->V->V->V->V->V->M V|0,_,_,_,_,_,_,_,_,_,_=> .fail|fu+1,k,a,b,c,d,e,f,g,h,i=>aj r 233 [d] fun j=>aj r 234 [j] fun l=>r7 l (ii 20) (aj r 156 [j] fun l=>k l (ii 0)) (aj r 235 [d] fun l=>s8 lf r fu k a b c l e f g h i)
def Rg:List Nat:=[0,2,3,4,20,24,25,26,27]
def xe(lf:Nat)(r:RT):(V->V->M V):=fun a b=>ae [a,b]
def Bz(lf:Nat)(r:RT):(V->V->V->V->V->V->V->V->V->M V):=fun a b c d e f g h i=>s8 lf r lf (xe lf r) a b c d e f g h i
def BA(lf:Nat)(r:RT)(a:V):M V:=aY a fun b=>bf b (ii 3) (ae [nS,(ii 1)]) (aY a fun d=>ej d (ii 258) (ae [nS,(ii 1)]) (aj r 222 [a,(ii 0),(ii 1099511627776)] fun f=>dI f fun g=>aH g (ae [nS,(ii 1)]) (aY a fun b=>fQ 3 [(ii 0)] b b fun c=>aY a fun b=>s7 lf r lf (Bz lf r) a nS (ii 0) c g a b (ii 0))))
theorem Rh(K:KT):∀fu,s7 lf r fu (fun a b c d e f g h i=>K (.exit 0) (zp [0,2,3,4,20,24,25,26,27] [a,b,c,d,e,
 f,g,h,i]))=fun a b c d e f g h=>bc (cQ 217 (pb 7 23) lf r) Rf fu (zp Rf [a,b,c,d,e,f,g,h]) K
 |0=>by funext a b c d e f g h;kernel_rfl
 |fu+1=>by have j:=Rh K fu;funext a b c d e f g h;rw[s7];simp only[j];kernel_rfl
theorem GL(K:KT):∀fu,s8 lf r fu (fun a b=>K .ret (zp [2,3] [a,b]))=fun a b c d e f g h i=>bc (cQ 217 (pb 6 15) lf
 r) Rg fu (zp Rg [a,b,c,d,e,f,g,h,i]) K
 |0=>by funext a b c d e f g h i;kernel_rfl
 |fu+1=>by have j:=GL K fu;funext a b c d e f g h i;rw[s8];simp only[j];kernel_rfl
theorem Ri:xe lf r=(fun a b=>(tK 217 (pb 5 15) lf r) .ret (zp [2,3] [a,b])):=jK
theorem aa5:Bz lf r=(fun a b c d e f g h i=>(tK 217 (pb 6 23) lf r) (.exit 0) (zp [0,2,3,4,20,24,25,26,27] [a,b,c,d,e,f,g,h,i])):=by unfold Bz;simp only[Ri,GL];kernel_rfl
theorem Rj:aw ad gt lf r 217 #[a]=inside (BA lf r a):=by unfold BA;simp only[aa5,Ri,Rh,GL];kernel_rfl
def kY(lf:Nat)(r:RT):Nat->((M V)×(V->M V))->V->V->V->V->V->M V|0,_,_,_,_,_,_=> .fail|fu+1,k,a,b,c,d,e=>bf e d (aM a e fun g=>aG g fun h=>fm ad r b [h] fun i=>aH i (k.2 e) (ax e (ii 1) fun g=>kY lf r fu k a b c d g)) (k.1)
def Rl:List Nat:=[0,1,4,7,8]
def mQ(lf:Nat)(r:RT):(M V)×(V->M V):=(ae [(ii (-1))],fun a=>ae [a])
def vd(lf:Nat)(r:RT)(a b:V):M V:=aY a fun c=>kY lf r lf (mQ lf r) a b (ii 0) c (ii 0)
theorem Rm(K:KT):∀fu,kY lf r fu ((K (.exit 0) [],fun a=>K .ret (zp [4] [a])))=fun a b
 c d e=>bc (cQ 218 (pb 5 5) lf r) Rl fu (zp Rl [a,b,c,d,e]) K
 |0=>by funext a b c d e;kernel_rfl
 |fu+1=>by have f:=Rm K fu;funext a b c d e;rw[kY];simp only[f];kernel_rfl
theorem aa6:mQ lf r=(((tK 218 (pb 4 5) lf r) (.exit 0) [],fun a=>(tK 218 (pb 4 5) lf r) .ret (zp [4] [a]))):=jK
theorem BB:aw ad gt lf r 218 #[a,b]=inside (vd lf r a b):=by unfold vd;simp only[aa6,Rm];kernel_rfl
def s9(lf:Nat)(r:RT):Nat->(V->V->M V)->V->V->V->V->V->M V|0,_,_,_,_,_,_=> .fail|fu+1,k,a,b,c,d,e=>ej e (ii 0) (bx e (ii 1) fun g=>ai a fun h=>eW 6 h g fun i=>aG i fun j=>ai a fun l=>eW 6 l e fun m=>aK m j fun _=>bx e (ii 1) fun g=>s9 lf r fu k a b c d g) (k a d)
def Rn:List Nat:=[0,1,4,5,6]
def BC(lf:Nat)(r:RT):(V->V->M V):=fun a b=>ai a fun c=>eW 6 c (ii 0) fun d=>aK d b fun _=>ae [b]
def BD(lf:Nat)(r:RT)(a b:V):M V:=ai a fun c=>eW 6 c b fun d=>aG d fun e=>s9 lf r lf (BC lf r) a b (ii 0) e b
theorem Ro(K:KT):∀fu,s9 lf r fu (fun a b=>K (.exit 0) (zp [0,5] [a,b]))=fun a b c d e=>bc (cQ
 219 (pb 6 11) lf r) Rn fu (zp Rn [a,b,c,d,e]) K
 |0=>by funext a b c d e;kernel_rfl
 |fu+1=>by have f:=Ro K fu;funext a b c d e;rw[s9];simp only[f];kernel_rfl
theorem aa7:BC lf r=(fun a b=>(tK 219 (pb 5 11) lf r) (.exit 0) (zp [0,5] [a,b])):=jK
theorem Rp:aw ad gt lf r 219 #[a,b]=inside (BD lf r a b):=by unfold BD;simp only[aa7,Ro];kernel_rfl
def GM(lf:Nat)(r:RT)(a:V):M V:=aj r 221 [a] fun b=>dI b fun c=>ae [c]
theorem Rq:aw ad gt lf r 220 #[a]=inside (GM lf r a):=jK
def GO(lf:Nat)(r:RT)(a:V):M V:=gR a (ii 0) (lU a (ii 1099511627776) fun c=>ae [c]) (ae [bF])
theorem Rr:aw ad gt lf r 221 #[a]=inside (GO lf r a):=jK
def GP(lf:Nat)(r:RT)(a b c:V):M V:=fp 3 b fun d=>fp 3 c fun e=>aj r 193 [a,(vP (Df 236) #[] #[d,e])] fun f=>dI f fun g=>ae [g]
theorem Rt:aw ad gt lf r 222 #[a,b,c]=inside (GP lf r a b c):=jK
def GQ(lf:Nat)(r:RT)(a b:V):M V:=dF 31 z31 fun c=>ai a fun d=>an 4 d fun f=>dR f (ii 0) (ai a fun d=>an 0 d fun f=>jc f b fun h=>ep .i64 h fun i=>dh z31 [(0,1,i),(1,1,(ii 0))] fun j=>bW 2 c j fun _=>bO 2 c fun a=>ae [a]) (ai a fun d=>an 2 d fun f=>aM f b fun h=>aG h fun i=>ai a fun j=>an 2 j fun m=>ai a fun n=>an 4 n fun p=>ax b p fun q=>ai a fun s=>an 0 s fun u=>eI u fun v=>oZ q v fun w=>aM m w fun x=>aG x fun y=>dh z31 [(0,1,i),(1,1,y)] fun z=>bW 2 c z fun _=>bO 2 c fun a=>ae [a])
theorem Ru:aw ad gt lf r 232 #[a,b]=inside (GQ lf r a b):=jK
def ta(lf:Nat)(r:RT):Nat->(V->V->V->V->V->V->M V)->V->V->V->V->V->M V|0,_,_,_,_,_,_=> .fail|fu+1,k,a,b,c,d,e=>da e d fun f=>aH f (aj r 244 [c] fun g=>aj r 244 [c] fun h=>aj r 245 [c,g,h] fun i=>ax e (ii 1) fun h=>ta lf r fu k a b c d h) (k a b c d e f)
def Rv:List Nat:=[0,2,3,11,12]
def tc(lf:Nat)(r:RT):Nat->(V->V->M V)->V->V->V->V->V->V->V->V->M V|0,_,_,_,_,_,_,_,_,_=> .fail|fu+1,k,a,b,c,d,e,f,g,h=>gR e (ii 0) (ai c fun j=>an 1 j fun m=>aM m e fun n=>aG n fun o=>aM d o fun p=>aG p fun q=>ax q (ii 1) fun s=>aM d e fun t=>aK t s fun _=>bx e (ii 1) fun j=>tc lf r fu k a b c d j f g h) (k a d)
def Rx:List Nat:=[0,2,3,5,6,11,12,13]
def GR(lf:Nat)(r:RT):(V->V->M V):=fun a b=>aY a fun c=>j5 3 1 b none (some c) fun d=>ae [d]
def BE(lf:Nat)(r:RT):(V->V->V->V->V->V->M V):=fun a b c d e f=>ai c fun g=>an 0 g fun i=>aY i fun j=>fQ 3 [(ii 0)] j j fun l=>aY l fun g=>bx g (ii 2) fun h=>tc lf r lf (GR lf r) a b c l h d e f
def BF(lf:Nat)(r:RT)(a:V):M V:=aj r 243 [a] fun b=>aY a fun c=>bx c (ii 1) fun d=>ta lf r lf (BE lf r) a nS b d (ii 0)
theorem Ry(K:KT):∀fu,ta lf r fu (fun a b c d e f=>K (.exit 0) (zp [0,2,3,11,12,13] [a,b,c,d,e,f]))=fun
 a b c d e=>bc (cQ 233 (pb 6 11) lf r) Rv fu (zp Rv [a,b,c,d,e]) K
 |0=>by funext a b c d e;kernel_rfl
 |fu+1=>by have g:=Ry K fu;funext a b c d e;rw[ta];simp only[g];kernel_rfl
theorem GS(K:KT):∀fu,tc lf r fu (fun a b=>K (.exit 2) (zp [0,5] [a,b]))=fun a b c d e f g h=>bc (cQ 233
 (pb 8 47) lf r) Rx fu (zp Rx [a,b,c,d,e,f,g,h]) K
 |0=>by funext a b c d e f g h;kernel_rfl
 |fu+1=>by have i:=GS K fu;funext a b c d e f g h;rw[tc];simp only[i];kernel_rfl
theorem Rz:GR lf r=(fun a b=>(tK 233 (pb 7 47) lf r) (.exit 2) (zp [0,5] [a,b])):=jK
theorem aa8:BE lf r=(fun a b c d e f=>(tK 233 (pb 5 11) lf r) (.exit 0) (zp [0,2,3,11,12,13] [a,b,c,d,e,f])):=by unfold BE;simp only[Rz,GS];kernel_rfl
theorem RA:aw ad gt lf r 233 #[a]=inside (BF lf r a):=by unfold BF;simp only[aa8,Rz,Ry,GS];kernel_rfl
def td(lf:Nat)(r:RT):Nat->(V->M V)->V->V->V->V->V->V->M V|0,_,_,_,_,_,_,_=> .fail|fu+1,k,a,b,c,d,e,f=>bf f e (aM d f fun h=>aG h fun i=>qz c i fun h=>ax f (ii 1) fun c=>td lf r fu k a b h d e c) (k c)
def RC:List Nat:=[0,2,3,6,7,8]
def BG(lf:Nat)(r:RT):(V->M V):=fun a=>ae [a]
def BH(lf:Nat)(r:RT)(a:V):M V:=aY a fun b=>td lf r lf (BG lf r) a (ii 0) (ii 0) a b (ii 0)
theorem RD(K:KT):∀fu,td lf r fu (fun a=>K (.exit 0) (zp [3] [a]))=fun a b c d e f=>bc (cQ 234 (pb 6 11)
 lf r) RC fu (zp RC [a,b,c,d,e,f]) K
 |0=>by funext a b c d e f;kernel_rfl
 |fu+1=>by have g:=RD K fu;funext a b c d e f;rw[td];simp only[g];kernel_rfl
theorem aa9:BG lf r=(fun a=>(tK 234 (pb 5 11) lf r) (.exit 0) (zp [3] [a])):=jK
theorem RE:aw ad gt lf r 234 #[a]=inside (BH lf r a):=by unfold BH;simp only[aa9,RD];kernel_rfl
def te(lf:Nat)(r:RT):Nat->(V->M V)->V->V->V->V->V->V->M V|0,_,_,_,_,_,_,_=> .fail|fu+1,k,a,b,c,d,e,f=>bf f e (aM d f fun h=>aG h fun i=>qz i (ii 0) fun h=>mH h (ii 2) fun j=>ax j (ii 1) fun l=>aM c f fun m=>aK m l fun _=>ax f (ii 1) fun h=>te lf r fu k a b c d e h) (k c)
def RF:List Nat:=[0,2,3,9,10,11]
def BI(lf:Nat)(r:RT):(V->M V):=fun a=>ae [a]
def BJ(lf:Nat)(r:RT)(a:V):M V:=aY a fun b=>fQ 3 [(ii 0)] b b fun c=>aY a fun b=>te lf r lf (BI lf r) a nS c a b (ii 0)
theorem RG(K:KT):∀fu,te lf r fu (fun a=>K (.exit 0) (zp [3] [a]))=fun a b c d e f=>bc (cQ 235 (pb 6 11) lf
 r) RF fu (zp RF [a,b,c,d,e,f]) K
 |0=>by funext a b c d e f;kernel_rfl
 |fu+1=>by have g:=RG K fu;funext a b c d e f;rw[te];simp only[g];kernel_rfl
theorem aa':BI lf r=(fun a=>(tK 235 (pb 5 11) lf r) (.exit 0) (zp [3] [a])):=jK
theorem RH:aw ad gt lf r 235 #[a]=inside (BJ lf r a):=by unfold BJ;simp only[aa',RG];kernel_rfl
def GU(lf:Nat)(r:RT)(a b c:V):M V:=aG b fun d=>bf a d (ae [bT]) (aG c fun f=>j4 a f fun g=>ae [g])
theorem RJ:aw ad gt lf r 236 #[a,b,c]=inside (GU lf r a b c):=jK
def tf(lf:Nat)(r:RT):Nat->(V->V->M V)->V->V->V->V->V->V->M V|0,_,_,_,_,_,_,_=> .fail|fu+1,k,a,b,c,d,e,f=>bf f e (ai d fun h=>an 2 h fun j=>db 3 1 f fun l=>cN 3 1 j l fun m=>ai d fun n=>aQ 2 n fun o=>aK o m fun _=>ai d fun h=>an 1 h fun j=>db 3 1 (ii (-1)) fun l=>cN 3 1 j l fun m=>ai d fun n=>aQ 1 n fun o=>aK o m fun _=>ax f (ii 1) fun h=>tf lf r fu k a b c d e h) (k b d)
def RK:List Nat:=[0,1,2,3,12,13]
def GV(lf:Nat)(r:RT):(V->V->M V):=fun a b=>ai b fun c=>an 2 c fun e=>aj r 248 [e,(vP (Df 249) #[] #[a])] fun f=>ae [b]
def BK(lf:Nat)(r:RT)(a:V):M V:=fp 141 a fun b=>(bk (aG b M.ret)).bind fun c=>(bk (aj r 156 [c.1] M.ret)).bind fun d=>(bk (aG b M.ret)).bind fun e=>aY e.1 fun f=>dh MX [(0,1,d.1),(3,1,f)] fun g=>(bk (fp 276 g M.ret)).bind fun h=>lV ((!(fo d.2 e.2)&&true)&&true) (aG b fun c=>aY c fun d=>tf lf r lf (GV lf r) a b nP h.1 d (ii 0))
theorem RM(K:KT):∀fu,tf lf r fu (fun a b=>K (.exit 0) (zp [1,3] [a,b]))=fun a b c d e f=>bc (cQ 243 (pb
 6 11) lf r) RK fu (zp RK [a,b,c,d,e,f]) K
 |0=>by funext a b c d e f;kernel_rfl
 |fu+1=>by have g:=RM K fu;funext a b c d e f;rw[tf];simp only[g];kernel_rfl
theorem aa_:GV lf r=(fun a b=>(tK 243 (pb 5 11) lf r) (.exit 0) (zp [1,3] [a,b])):=jK
theorem RN:aw ad gt lf r 243 #[a]=inside (BK lf r a):=by unfold BK;simp only[aa_,RM];kernel_rfl
def GW(lf:Nat)(r:RT)(a:V):M V:=ai a fun b=>an 3 b fun d=>ai a fun e=>an 0 e fun g=>aY g fun h=>dR d h (ai a fun b=>an 2 b fun d=>aM d (ii 0) fun e=>aG e fun f=>ai a fun b=>an 2 b fun d=>j5 3 1 d (some (ii 1)) none fun e=>ai a fun g=>aQ 2 g fun h=>aK h e fun _=>ae [f]) (ai a fun j=>an 2 j fun m=>aY m fun n=>ej n (ii 0) (ai a fun p=>an 0 p fun s=>ai a fun t=>an 2 t fun v=>aM v (ii 0) fun w=>aG w fun x=>aM s x fun y=>aG y fun z=>ai a fun A=>an 0 A fun C=>ai a fun D=>an 3 D fun G=>aM C G fun J=>aG J fun L=>r7 z L (ai a fun b=>an 2 b fun d=>aM d (ii 0) fun e=>aG e fun f=>ai a fun b=>an 2 b fun d=>j5 3 1 d (some (ii 1)) none fun e=>ai a fun g=>aQ 2 g fun h=>aK h e fun _=>ae [f]) (ai a fun b=>an 3 b fun d=>ax d (ii 1) fun e=>ai a fun f=>aQ 3 f fun g=>aK g e fun _=>ai a fun b=>an 3 b fun d=>bx d (ii 1) fun e=>ae [e])) (ai a fun b=>an 3 b fun d=>ax d (ii 1) fun e=>ai a fun f=>aQ 3 f fun g=>aK g e fun _=>ai a fun b=>an 3 b fun d=>bx d (ii 1) fun e=>ae [e]))
theorem RO:aw ad gt lf r 244 #[a]=inside (GW lf r a):=jK
def GX(lf:Nat)(r:RT)(a b c:V):M V:=ai a fun d=>an 1 d fun f=>ai a fun g=>an 0 g fun i=>aY i fun j=>aM f b fun l=>aK l j fun _=>ai a fun d=>an 1 d fun f=>ai a fun g=>an 0 g fun i=>aY i fun j=>aM f c fun l=>aK l j fun _=>ai a fun d=>an 0 d fun f=>ai a fun g=>an 0 g fun i=>aM i b fun j=>aG j fun l=>ai a fun m=>an 0 m fun o=>aM o c fun p=>aG p fun q=>ax l q fun s=>db 3 1 s fun t=>cN 3 1 f t fun u=>ai a fun v=>aQ 0 v fun w=>aK w u fun _=>ai a fun d=>an 1 d fun f=>db 3 1 (ii (-1)) fun g=>cN 3 1 f g fun h=>ai a fun i=>aQ 1 i fun j=>aK j h fun _=>ae []
theorem RP:aw ad gt lf r 245 #[a,b,c]=inside (GX lf r a b c):=jK
def GY(lf:Nat)(r:RT)(a b:V):M V:=aY a fun c=>aj r 251 [a,c,b] fun d=>ae []
theorem RQ:aw ad gt lf r 248 #[a,b]=inside (GY lf r a b):=jK
def GZ(lf:Nat)(r:RT)(a b c:V):M V:=aG c fun d=>aM d a fun e=>aG e fun f=>aG c fun g=>aM g b fun h=>aG h fun i=>aj r 250 [f,i] fun j=>ae [j]
theorem RS:aw ad gt lf r 249 #[a,b,c]=inside (GZ lf r a b c):=jK
def G0(lf:Nat)(r:RT)(a b:V):M V:=aj r 252 [a] fun c=>aj r 252 [b] fun d=>aH c (aH d (ae [(ii 0)]) (ae [(ii (-1))])) (aH d (ae [(ii 1)]) (bf a b (ae [(ii (-1))]) (ej a b (ae [(ii 1)]) (ae [(ii 0)]))))
theorem RU:aw ad gt lf r 250 #[a,b]=inside (G0 lf r a b):=jK
def th(lf:Nat)(r:RT):Nat->(V->V->V->V->V->V->V->M V)->V->V->V->V->V->V->M V|0,_,_,_,_,_,_,_=> .fail|fu+1,k,a,b,c,d,e,f=>lU f b fun g=>aH g (aj r 253 [a,e,f,c] fun h=>ax f d fun e=>th lf r fu k a b c d f e) (k a b c d e f g)
def RV:List Nat:=[0,1,2,6,7,8]
def ti(lf:Nat)(r:RT):Nat->(V->V->V->V->V->V->V->M V)->V->V->V->V->V->V->V->V->M V|0,_,_,_,_,_,_,_,_,_=> .fail|fu+1,k,a,b,c,d,e,f,g,h=>r7 f b (ax e d fun j=>aj r 254 [a,e,j,f,c] fun l=>gq (ii 2) d fun e=>ax f e fun j=>ti lf r fu k a b c d f j g h) (k a b c d e f g)
def RW:List Nat:=[0,1,2,6,7,8,13,30]
def BL(lf:Nat)(r:RT)(k:(M V))(i:V->V->V->V->V->V->V->M V):(V->V->V->V->V->V->V->M V):=fun a b c d e f g=>ax e d fun h=>bf h b (aj r 254 [a,e,h,b,c] fun j=>gq d (ii 2) fun j=>i a b c j e f g) (gq d (ii 2) fun j=>i a b c j e f g)
def qV(lf:Nat)(r:RT):Nat->(M V)->V->V->V->V->V->V->V->M V|0,_,_,_,_,_,_,_,_=> .fail|fu+1,k,a,b,c,d,e,f,g=>da d b fun h=>aH h (gq (ii 2) d fun i=>ti lf r lf (BL lf r k (qV lf r fu k)) a b c d (ii 0) i g h) (k)
def xf:List Nat:=[0,1,2,6,7,8,13]
abbrev aba(lf:Nat)(r:RT)(a:Nat)(k:(M V)):(V->V->V->V->V->V->V->M V):=BL lf r k (qV lf r a k)
def BM(lf:Nat)(r:RT):(M V):=ae []
def xg(lf:Nat)(r:RT):(V->V->V->V->V->V->V->M V):=fun a b c d e f g=>aj r 253 [a,e,b,c] fun h=>qV lf r lf (BM lf r) a b c d e f g
def BN(lf:Nat)(r:RT)(a b c:V):M V:=th lf r lf (xg lf r) a b c (ii 20) (ii 0) (ii 20)
theorem RX(K:KT):∀fu,th lf r fu (fun a b c d e f g=>K (.exit 0) (zp [0,1,2,6,7,8,
 13] [a,b,c,d,e,f,g]))=fun a b c d e f=>bc (cQ 251 (pb 5 3) lf r) RV fu (zp RV [a,b,c,d,e,f]) K
 |0=>by funext a b c d e f;kernel_rfl
 |fu+1=>by have h:=RX K fu;funext a b c d e f;rw[th];simp only[h];kernel_rfl
theorem RY(K:KT):∀fu,ti lf r fu (fun a b c d e f g=>K (.exit 4) (zp [0,1,2,6,7,8,
 13] [a,b,c,d,e,f,g]))=fun a b c d e f g h=>bc (cQ 251 (pb 12 335) lf r) RW fu (zp RW [a,b,c,d,e,f,g,h]) K
 |0=>by funext a b c d e f g h;kernel_rfl
 |fu+1=>by have i:=RY K fu;funext a b c d e f g h;rw[ti];simp only[i];kernel_rfl
theorem abb(K:KT)(h:Nat):BL lf r (K (.exit 2) []) (fun a b c d e f g=>bc (cQ 251 (pb
 6 15) lf r) xf h (zp xf [a,b,c,d,e,f,g]) K)=(fun a b c d e f g=>(iK 251 (pb 6 15) (pb 5 5)
 xf h K lf r) (.exit 4) (zp [0,1,2,6,7,8,13] [a,b,c,d,e,f,g])):=by kernel_rfl
theorem G1(K:KT):∀fu,qV lf r fu (K (.exit 2) [])=fun a b c d e f g=>bc (cQ 251 (pb
 6 15) lf r) xf fu (zp xf [a,b,c,d,e,f,g]) K
 |0=>by funext a b c d e f g;kernel_rfl
 |fu+1=>by have h:=G1 K fu;funext a b c d e f g;rw[qV];simp only[h,abb,RY];kernel_rfl
theorem R0:BM lf r=((tK 251 (pb 5 15) lf r) (.exit 2) []):=jK
theorem abc:xg lf r=(fun a b c d e f g=>(tK 251 (pb 4 3) lf r) (.exit 0) (zp [0,1,2,6,7,8,13] [a,b,c,d,e,f,g])):=by unfold xg;simp only[R0,G1];kernel_rfl
theorem R1:aw ad gt lf r 251 #[a,b,c]=inside (BN lf r a b c):=by unfold BN;simp only[abc,R0,RX,G1];kernel_rfl
def G2(lf:Nat)(r:RT)(a:V):M V:=iJ a a fun b=>ae [b]
theorem R2:aw ad gt lf r 252 #[a]=inside (G2 lf r a):=jK
def tj(lf:Nat)(r:RT):Nat->(V->V->V->V->V->M V)->V->V->V->V->V->V->V->M V|0,_,_,_,_,_,_,_,_=> .fail|fu+1,k,a,b,c,d,e,f,g=>ej f b (aM a f fun i=>aG i fun j=>bx f (ii 1) fun l=>aM a l fun m=>aG m fun n=>fm ad r d [j,n] fun o=>bf o (ii 0) (bx f (ii 1) fun h=>bx f (ii 1) fun i=>aM a i fun j=>aG j fun l=>aM a f fun m=>aG m fun n=>aM a f fun o=>aK o l fun _=>aM a h fun q=>aK q n fun _=>bx f (ii 1) fun h=>tj lf r fu k a b c d e h g) (k a b c d e)) (k a b c d e)
def R3:List Nat:=[0,1,2,3,8,9,14]
def BO(lf:Nat)(r:RT)(k:(M V))(g:V->V->V->V->V->M V):(V->V->V->V->V->M V):=fun a b c d e=>ax e (ii 1) fun f=>g a b c d f
def nQ(lf:Nat)(r:RT):Nat->(M V)->V->V->V->V->V->M V|0,_,_,_,_,_,_=> .fail|fu+1,k,a,b,c,d,e=>da e c fun f=>aH f (tj lf r lf (BO lf r k (nQ lf r fu k)) a b c d e e f) (k)
def xh:List Nat:=[0,1,2,3,8]
abbrev abd(lf:Nat)(r:RT)(a:Nat)(k:(M V)):(V->V->V->V->V->M V):=BO lf r k (nQ lf r a k)
def xi(lf:Nat)(r:RT):(M V):=ae []
def xj(lf:Nat)(r:RT)(a b c d:V):M V:=ax b (ii 1) fun e=>nQ lf r lf (xi lf r) a b c d e
theorem R4(K:KT):∀fu,tj lf r fu (fun a b c d e=>K (.exit 2) (zp [0,1,2,
 3,8] [a,b,c,d,e]))=fun a b c d e f g=>bc (cQ 253 (pb 9 73) lf r) R3 fu (zp R3 [a,b,c,d,e,f,g]) K
 |0=>by funext a b c d e f g;kernel_rfl
 |fu+1=>by have h:=R4 K fu;funext a b c d e f g;rw[tj];simp only[h];kernel_rfl
theorem abe(K:KT)(f:Nat):BO lf r (K (.exit 0) []) (fun a b c d e=>bc
 (cQ 253 (pb 3 1) lf r) xh f (zp xh [a,b,c,d,e]) K)=(fun a b c d e=>(iK 253 (pb 3 1) (pb 5 9)
 xh f K lf r) (.exit 2) (zp [0,1,2,3,8] [a,b,c,d,e])):=by kernel_rfl
theorem R5(K:KT):∀fu,nQ lf r fu (K (.exit 0) [])=fun a b c d e=>bc
 (cQ 253 (pb 3 1) lf r) xh fu (zp xh [a,b,c,d,e]) K
 |0=>by funext a b c d e;kernel_rfl
 |fu+1=>by have f:=R5 K fu;funext a b c d e;rw[nQ];simp only[f,abe,R4];kernel_rfl
theorem abf:xi lf r=((tK 253 (pb 2 1) lf r) (.exit 0) []):=jK
theorem G3:aw ad gt lf r 253 #[a,b,c,d]=inside (xj lf r a b c d):=by unfold xj;simp only[abf,R5];kernel_rfl
def qW(lf:Nat)(r:RT):Nat->(V->V->V->V->V->V->V->V->V->M V)->V->V->V->V->V->V->V->V->M V|0,_,_,_,_,_,_,_,_,_=> .fail|fu+1,k,a,b,c,d,e,f,g,h=>da f g fun i=>aH i (ax f g fun j=>ep .u64 j fun l=>jy l (i6 1) fun m=>ep .i64 m fun n=>aM a n fun j=>aG j fun l=>aM a b fun m=>aG m fun o=>fm ad r e [l,o] fun p=>bf p (ii 0) (ax n (ii 1) fun j=>qW lf r fu k a b c d e j g h) (qW lf r fu k a b c d e f n h)) (k a b c d e f g h i)
def R6:List Nat:=[0,1,2,3,4,10,11,28]
def qX(lf:Nat)(r:RT):Nat->(V->V->V->V->V->V->V->V->V->V->M V)->V->V->V->V->V->V->V->V->V->M V|0,_,_,_,_,_,_,_,_,_,_=> .fail|fu+1,k,a,b,c,d,e,f,g,h,i=>da f g fun j=>aH j (ax f g fun l=>ep .u64 l fun m=>jy m (i6 1) fun n=>ep .i64 n fun o=>aM a c fun l=>aG l fun m=>aM a o fun n=>aG n fun p=>fm ad r e [m,p] fun q=>da q (ii 0) fun s=>dI s fun t=>aH t (ax o (ii 1) fun l=>qX lf r fu k a b c d e l g h i) (qX lf r fu k a b c d e f o h i)) (k a b c d e f g h i j)
def R7:List Nat:=[0,1,2,3,4,14,15,28,80]
def qY(lf:Nat)(r:RT):Nat->(V->V->V->V->V->V->V->V->M V)->V->V->V->V->V->V->V->V->V->V->V->V->V->M V|0,_,_,_,_,_,_,_,_,_,_,_,_,_,_=> .fail|fu+1,k,a,b,c,d,e,f,g,h,i,j,l,m,n=>bf h i (ax h i fun p=>ep .u64 p fun q=>jy q (i6 1) fun s=>ep .i64 s fun t=>bx j t fun p=>aM a p fun q=>aG q fun s=>aM a t fun u=>aG u fun v=>fm ad r e [s,v] fun w=>da w (ii 0) fun x=>dI x fun y=>aH y (ax t (ii 1) fun p=>qY lf r fu k a b c d e f g p i j l m n) (qY lf r fu k a b c d e f g h t j l m n)) (k a b c d e f g h)
def R8:List Nat:=[0,1,2,3,4,18,19,20,21,22,28,80,140]
def tk(lf:Nat)(r:RT):Nat->(M V)->V->V->V->V->V->V->V->V->V->V->M V|0,_,_,_,_,_,_,_,_,_,_,_=> .fail|fu+1,k,a,b,c,d,e,f,g,h,i,j=>bx f (ii 1) fun l=>bf h l (ax h (ii 1) fun l=>ax h (ii 1) fun n=>aM a n fun o=>aG o fun p=>aM a h fun q=>aG q fun s=>aM a h fun t=>aK t p fun _=>aM a l fun u=>aK u s fun _=>ax h (ii 1) fun l=>tk lf r fu k a b c d e f g l i j) (k)
def R9:List Nat:=[0,1,2,3,4,10,11,13,28,33]
def tn(lf:Nat)(r:RT):Nat->(M V)->V->V->V->V->V->V->V->V->V->V->V->M V|0,_,_,_,_,_,_,_,_,_,_,_,_=> .fail|fu+1,k,a,b,c,d,e,f,g,h,i,j,l=>ej h f (bx h (ii 1) fun n=>bx h (ii 1) fun o=>aM a o fun p=>aG p fun q=>aM a h fun s=>aG s fun t=>aM a h fun u=>aK u q fun _=>aM a n fun v=>aK v t fun _=>bx h (ii 1) fun n=>tn lf r fu k a b c d e f g n i j l) (k)
def R':List Nat:=[0,1,2,3,4,14,15,17,28,80,85]
def G4(lf:Nat)(r:RT):(M V):=ae []
def G5(lf:Nat)(r:RT):(M V):=ae []
def xl(lf:Nat)(r:RT):(V->V->V->V->V->V->V->V->M V):=fun a b c d e f g h=>bx g h fun i=>bf h c (da c i fun l=>(fun m=>aH l (aj r 255 [a,h,c,i,e] fun j=>m) (m)) (bf b h (da h f fun m=>(fun n=>aH m (aj r 254 [a,b,h,f,e] fun j=>n) (n)) (bf f i (bf i d (aj r 254 [a,f,i,d,e] fun j=>ae []) (ae [])) (ae []))) (bf f i (bf i d (aj r 254 [a,f,i,d,e] fun j=>ae []) (ae [])) (ae [])))) (bf b h (da h f fun l=>(fun m=>aH l (aj r 254 [a,b,h,f,e] fun j=>m) (m)) (bf f i (bf i d (aj r 254 [a,f,i,d,e] fun j=>ae []) (ae [])) (ae []))) (bf f i (bf i d (aj r 254 [a,f,i,d,e] fun j=>ae []) (ae [])) (ae [])))
def xm(lf:Nat)(r:RT):(V->V->V->V->V->V->V->V->V->V->M V):=fun a b c d e f g h i j=>tn lf r lf (G4 lf r) a b c d e f g c h i j
def xo(lf:Nat)(r:RT):(V->V->V->V->V->V->V->V->V->M V):=fun a b c d e f g h i=>tk lf r lf (G5 lf r) a b c d e f g b h i
def ve(lf:Nat)(r:RT)(a b c d e:V):M V:=bx c b fun f=>gu f (ii 1) fun g=>aH g (qW lf r lf (xo lf r) a b c d e c d g) (bx d c fun f=>gu f (ii 1) fun h=>aH h (qX lf r lf (xm lf r) a b c d e b c g h) (ax b d fun f=>ep .u64 f fun i=>jy i (i6 1) fun j=>ep .i64 j fun l=>ax l c fun f=>j4 c l fun i=>(fun m=>aH i (bx f d fun j=>m j l) (m b c)) fun m j=>bx f (ii 1) fun n=>qY lf r lf (xl lf r) a b c d e l f m j n g h i))
theorem Sa(K:KT):∀fu,qW lf r fu (fun a b c d e f g h i=>K (.exit 0) (zp [0,1,2,3,
 4,10,11,28,33] [a,b,c,d,e,f,g,h,i]))=fun a b c d e f g h=>bc (cQ 254 (pb 8 26) lf r) R6 fu (zp R6 [a,b,c,d,e,f,g,h]) K
 |0=>by funext a b c d e f g h;kernel_rfl
 |fu+1=>by have j:=Sa K fu;funext a b c d e f g h;rw[qW];simp only[j];kernel_rfl
theorem Sb(K:KT):∀fu,qX lf r fu (fun a b c d e f g h i j=>K (.exit 4) (zp [0,1,2,
 3,4,14,15,28,80,85] [a,b,c,d,e,f,g,h,i,j]))=fun a b c d e f g h i=>bc (cQ 254 (pb 9 53) lf r) R7 fu (zp
 R7 [a,b,c,d,e,f,g,h,i]) K
 |0=>by funext a b c d e f g h i;kernel_rfl
 |fu+1=>by have k:=Sb K fu;funext a b c d e f g h i;rw[qX];simp only[k];kernel_rfl
theorem Sc(K:KT):∀fu,qY lf r fu (fun a b c d e f g h=>K (.exit 8) (zp [0,1,2,3,
 4,18,19,20] [a,b,c,d,e,f,g,h]))=fun a b c d e f g h i j l m n=>bc (cQ 254 (pb 10 127) lf r) R8 fu (zp
 R8 [a,b,c,d,e,f,g,h,i,j,l,m,n]) K
 |0=>by funext a b c d e f g h i j l m n;kernel_rfl
 |fu+1=>by have k:=Sc K fu;funext a b c d e f g h i j l m n;rw[qY];simp only[k];kernel_rfl
theorem G6(K:KT):∀fu,tk lf r fu (K (.exit 2) [])=fun a b c d e f g h i j=>bc
 (cQ 254 (pb 10 186) lf r) R9 fu (zp R9 [a,b,c,d,e,f,g,h,i,j]) K
 |0=>by funext a b c d e f g h i j;kernel_rfl
 |fu+1=>by have k:=G6 K fu;funext a b c d e f g h i j;rw[tk];simp only[k];kernel_rfl
theorem G7(K:KT):∀fu,tn lf r fu (K (.exit 6) [])=fun a b c d e f g h i j l=>bc
 (cQ 254 (pb 11 373) lf r) R' fu (zp R' [a,b,c,d,e,f,g,h,i,j,l]) K
 |0=>by funext a b c d e f g h i j l;kernel_rfl
 |fu+1=>by have k:=G7 K fu;funext a b c d e f g h i j l;rw[tn];simp only[k];kernel_rfl
theorem Sd:G4 lf r=((tK 254 (pb 10 373) lf r) (.exit 6) []):=jK
theorem Se:G5 lf r=((tK 254 (pb 9 186) lf r) (.exit 2) []):=jK
theorem abg:xl lf r=(fun a b c d e f g h=>(tK 254 (pb 9 127) lf r) (.exit 8) (zp [0,1,
 2,3,4,18,19,20] [a,b,c,d,e,f,g,h])):=by kernel_rfl
theorem abh:xm lf r=(fun a b c d e f g h i j=>(tK 254 (pb 8 53) lf r) (.exit 4) (zp [0,
 1,2,3,4,14,15,28,80,85] [a,b,c,d,e,f,g,h,i,j])):=by
 unfold xm;simp only[Sd,G7];kernel_rfl
theorem abj:xo lf r=(fun a b c d e f g h i=>(tK 254 (pb 7 26) lf r) (.exit 0) (zp [0,1,
 2,3,4,10,11,28,33] [a,b,c,d,e,f,g,h,i])):=by
 unfold xo;simp only[Se,G6];kernel_rfl
theorem BP:aw ad gt lf r 254 #[a,b,c,d,e]=inside (ve lf r a b c d e):=by
 unfold ve
 simp only[abj,abh,abg,Se,
  Sd,Sa,Sb,Sc,G6,G7]
 kernel_rfl
def tp(lf:Nat)(r:RT):Nat->(V->V->V->V->M V)->V->V->V->V->V->V->V->M V|0,_,_,_,_,_,_,_,_=> .fail|fu+1,k,a,b,c,d,e,f,g=>iO f g (ej f g (bx c f fun j=>aj r 256 [a,j,c,g,e] fun l=>bx f g fun j=>tp lf r fu k a b c d e j g) (bx c f fun j=>ax c g fun l=>bx l f fun m=>aj r 256 [a,j,m,f,e] fun n=>bx g f fun j=>tp lf r fu k a b c d e f j)) (k a c e f)
def Sf:List Nat:=[0,1,2,3,4,10,11]
def G8(lf:Nat)(r:RT):(V->V->V->V->M V):=fun a b c d=>bx b d fun e=>aj r 256 [a,e,b,d,c] fun f=>ae []
def BQ(lf:Nat)(r:RT)(a b c d e:V):M V:=bx c b fun f=>bx d c fun g=>tp lf r lf (G8 lf r) a b c d e f g
theorem Sg(K:KT):∀fu,tp lf r fu (fun a b c d=>K (.exit 0) (zp [0,2,4,10] [a,b,c,
 d]))=fun a b c d e f g=>bc (cQ 255 (pb 5 3) lf r) Sf fu (zp Sf [a,b,c,d,e,f,g]) K
 |0=>by funext a b c d e f g;kernel_rfl
 |fu+1=>by have h:=Sg K fu;funext a b c d e f g;rw[tp];simp only[h];kernel_rfl
theorem abk:G8 lf r=(fun a b c d=>(tK 255 (pb 4 3) lf r) (.exit 0) (zp [0,2,4,10] [a,b,c,d])):=jK
theorem Sh:aw ad gt lf r 255 #[a,b,c,d,e]=inside (BQ lf r a b c d e):=by unfold BQ;simp only[abk,Sg];kernel_rfl
def tq(lf:Nat)(r:RT):Nat->(M V)->V->V->V->V->V->M V|0,_,_,_,_,_,_=> .fail|fu+1,k,a,b,c,d,e=>bf e d (ax b e fun g=>ax c e fun h=>ax c e fun i=>aM a i fun j=>aG j fun l=>ax b e fun m=>aM a m fun n=>aG n fun o=>aM a g fun p=>aK p l fun _=>aM a h fun q=>aK q o fun _=>ax e (ii 1) fun g=>tq lf r fu k a b c d g) (k)
def Si:List Nat:=[0,1,2,3,10]
def G9(lf:Nat)(r:RT):(M V):=ae []
def BR(lf:Nat)(r:RT)(a b c d e:V):M V:=tq lf r lf (G9 lf r) a b c d (ii 0)
theorem Sj(K:KT):∀fu,tq lf r fu (K (.exit 0) [])=fun a b c d e=>bc (cQ 256
 (pb 3 1) lf r) Si fu (zp Si [a,b,c,d,e]) K
 |0=>by funext a b c d e;kernel_rfl
 |fu+1=>by have f:=Sj K fu;funext a b c d e;rw[tq];simp only[f];kernel_rfl
theorem abl:G9 lf r=((tK 256 (pb 2 1) lf r) (.exit 0) []):=jK
theorem Sk:aw ad gt lf r 256 #[a,b,c,d,e]=inside (BR lf r a b c d e):=by unfold BR;simp only[abl,Sj];kernel_rfl
end
end Go.Proofs.YtcehhgppfahbkaaGreatDoor
namespace Go.Proofs.YtcehhgppfahbkaaGreatDoor.Hu
structure HT where
 weight:List Int
 bK:List Int
 leaves:List Nat
 aZ:Nat
def bj(t:HT)(i:Nat):Int:=t.weight.getD i 0
def fK(t:HT):Bool:=t.aZ==t.weight.length||(decide (0<t.leaves.length)&&decide (bj t (t.leaves.getD 0 0)<=bj t t.aZ))
def leastOf(t:HT):Nat:=if fK t then t.leaves.getD 0 0 else t.aZ
def taken(t:HT):HT:=if fK t then{t with leaves:=t.leaves.tail}else{t with aZ:=t.aZ+1}
def gT(t:HT)(a b:Nat):HT:={t with weight:=t.weight++[bj t a+bj t b],bK:=((t.bK.set a t.weight.length).set b t.weight.length)++[-1]}
def pD(t:HT):HT:=gT (taken (taken t)) (leastOf t) (leastOf (taken t))
def cT:Nat->HT->HT
 |0,t=>t
 |k+1,t=>cT k (pD t)
theorem vh:∀(k:Nat) (t:HT),cT (k+1) t=pD (cT k t)
 |0,_=>rfl
 |k+1,t=>by show cT (k+1) (pD t)=_;rw[vh k (pD t)];rfl
theorem BT(l r:List Int)(i:Nat)(h:i<l.length):(l++r).getD i 0=l.getD i 0:=by rw[au,List.getElem?_append_left h,au]
theorem pE(l:List Int)(i j:Nat)(v:Int):(l.set i v).getD j 0=if i=j∧i<l.length then v else l.getD j 0:=by
 simp only[au,List.getElem?_set];by_cases h:i=j
 ·subst h;by_cases a:i<l.length
  ·simp[a]
  ·simp[a,List.getElem?_eq_none (show l.length<=i by omega)]
 ·simp[h]
def bu:List Int->Int
 |[]=>0
 |x::a=>x+bu a
theorem nR:∀a b:List Int,bu (a++b)=bu a+bu b
 |[],b=>by simp[bu]
 |x::a,b=>by simp only[List.cons_append,bu,nR a b];omega
theorem vi:∀(l:List Int),(∀x∈l,0<=x)->0<=bu l∧∀x∈l,x<=bu l
 |[],_=>⟨Int.le_refl _,fun x h=>by simp at h⟩
 |y::l,h=>by
  have b:=vi l (fun x a=>h x (by simp[a]));have c:=h y jS;refine⟨by simp only[bu];omega,fun x a=> ?_⟩;simp only[bu];rcases List.mem_cons.1 a with e|e
  ·subst e;omega
  ·have:=b.2 x e;omega
def pF(n k:Nat)(P:List Nat)(t:HT):List Nat:=P++t.leaves++pW t.aZ (n+k-t.aZ)
structure fV (n k:Nat) (P:List Nat) (S:Int) (t:HT):Prop where
 wl:t.weight.length=n+k
 il:t.bK.length=n+k
 leaf:∀i∈t.leaves,i<n
 pl:∀i∈P,i<n+k
 jl:n<=t.aZ
 jh:t.aZ<=n+k
 left:t.leaves.length+(n+k-t.aZ)+k+P.length=n
 pos:∀i,i<n+k->0<=bj t i∧bj t i<=S
 sum:bu ((pF n k P t).map (bj t))=S
 bK:∀i,i<n+k->i∉t.leaves->i<t.aZ->i∉P->(i:Int)<t.bK.getD i 0∧t.bK.getD i 0<((n+k:Nat):Int)
theorem G'{n k:Nat}{P:List Nat}{S:Int}{t:HT}(h:fV n k P S t)(c:1<=t.leaves.length+(n+k-t.aZ))(a:fK t=true):∃r,t.leaves=leastOf t::r∧taken t={t with leaves:=r}∧leastOf t<n:=by
 have b:t.leaves≠[]:=by intro e;unfold fK at a;rw[e]at a;simp at a;have:=h.wl;rw[e]at c;simp at c;omega
 obtain⟨i,r,e⟩:=List.exists_cons_of_ne_nil b;have d:leastOf t=i:=by unfold leastOf;rw[if_pos a,e];rfl
 refine⟨r,by rw[d];exact e,by unfold taken;rw[if_pos a,e];rfl, ?_⟩;rw[d];exact h.leaf i (by rw[e];simp)
theorem Sl{n k:Nat}{P:List Nat}{S:Int}{t:HT}(h:fV n k P S t)(a:fK t=false):leastOf t=t.aZ∧t.aZ<n+k∧taken t={t with aZ:=t.aZ+1}:=by refine⟨by unfold leastOf;rw[a];rfl, ?_,by unfold taken;rw[a];rfl⟩;unfold fK at a;rw[Bool.or_eq_false_iff,beq_eq_false_iff_ne]at a;have:=h.wl;have:=h.jh;omega
theorem fV.take{n k:Nat}{P:List Nat}{S:Int}{t:HT}(h:fV n k P S t)(u:1<=t.leaves.length+(n+k-t.aZ)):fV n k (P++[leastOf t]) S (taken t)∧leastOf t<n+k:=by
 cases q:fK t with
 |true=>
  obtain⟨r,f,l,s⟩:=G' h u q;generalize leastOf t=a at*;rw[l];have b:=h.left;rw[f]at b;simp only[bL]at b;refine⟨⟨h.wl,h.il,fun i c=>h.leaf i (by rw[f];simp[c]),fun i c=> ?_,h.jl,h.jh,by simp only[ay,bL,eF];omega,h.pos, ?_,fun i c h2 j g=> ?_⟩,jO⟩
  ·rcases List.mem_append.1 c with h2|h2
   ·exact h.pl i h2
   ·simp at h2;omega
  ·have:=h.sum;unfold pF at this⊢;rw[f]at this;simp only[gZ,lE,IU,nR,bu]at this⊢;show bu (P.map (bj t))+_+_+_=S;have o:bj {t with leaves:=r}=bj t:=rfl;rw[o];omega
  ·refine h.bK i c (fun p=> ?_) j (fun m=>g (by simp[m]));rw[f]at p;rcases List.mem_cons.1 p with e|e
   ·exact g (by simp[e])
   ·exact h2 e
 |false=>
  obtain⟨f,l,s⟩:=Sl h q;rw[s,f];have b:=h.left;refine⟨⟨h.wl,h.il,h.leaf,fun i c=> ?_,Nat.le_succ_of_le h.jl,l,by simp only[ay,bL,eF];omega,h.pos, ?_,fun i c h2 j g=> ?_⟩,l⟩
  ·rcases List.mem_append.1 c with h2|h2
   ·exact h.pl i h2
   ·simp at h2;omega
  ·have:=h.sum;unfold pF at this⊢;obtain⟨d,hd⟩:∃d,n+k-t.aZ=d+1:=⟨n+k-t.aZ-1,jO⟩;rw[hd,List.range'_succ]at this;show bu (IV _ (P++[t.aZ]++t.leaves++pW (t.aZ+1) (n+k-(t.aZ+1))))=S;rw[show n+k-(t.aZ+1)=d by omega];simp only[gZ,lE,IU,nR,bu]at this⊢;have o:bj {t with aZ:=t.aZ+1}=bj t:=rfl;rw[o];omega
  ·have j:i<t.aZ+1:=j;refine h.bK i c h2 ?_ (fun m=>g (by simp[m]));have:i≠t.aZ:=fun e=>g (by simp[e]);omega
theorem fV.join{n k a b:Nat}{S:Int}{t:HT}(h:fV n k [a,b] S t):fV n (k+1) [] S (gT t a b):=by
 have D:=h.pl a jS;have B:=h.pl b jS;have m:=h.left;have z:=h.jh;have s:=h.jl;have d:=h.sum;simp only[bL,eF]at m;have p:∀i,i<n+k->bj (gT t a b) i=bj t i:=fun i c=>BT _ _ _ (by rw[h.wl];exact c)
 have f:bj (gT t a b) (n+k)=bj t a+bj t b:=by unfold bj gT;rw[au,List.getElem?_append_right (by rw[h.wl];exact Nat.le_refl _),h.wl,Nat.sub_self];rfl
 have g:∀l:List Nat,(∀i∈l,i<n+k)->l.map (bj (gT t a b))=l.map (bj t):=fun l y=>List.map_congr_left fun i c=>p i (y i c);have r:∀i∈pW t.aZ (n+k-t.aZ),i<n+k:=fun i c=>by rw[List.mem_range'_1]at c;omega
 have j:∀i∈pF n k [a,b] t,i<n+k:=by
  intro i c;unfold pF at c;rcases List.mem_append.1 c with h2|h2
  ·rcases List.mem_append.1 h2 with h3|h3
   ·exact h.pl i h3
   ·have:=h.leaf i h3;omega
  ·exact r i h2
 have q:=vi ((pF n k [a,b] t).map (bj t)) (fun x o=>by
  rw[De]at o;obtain⟨i,c,rfl⟩:=o
  exact(h.pos i (j i c)).1)
 rw[d]at q
 have C:bj t a+bj t b<=S:=by
  have h2:=vi ((t.leaves++pW t.aZ (n+k-t.aZ)).map (bj t)) (fun x o=>by
   rw[De]at o;obtain⟨i,c,rfl⟩:=o;refine(h.pos i ?_).1;rcases List.mem_append.1 c with h3|h3
   ·have:=h.leaf i h3;omega
   ·exact r i h3)
  have h3:=d;unfold pF at h3;simp only[gZ,lE,IU,nR,bu]at h3 h2;omega
 refine⟨by simp[gT,h.wl];omega,by simp[gT,h.il];omega,h.leaf,fun i c=>by simp at c,s,by show t.aZ<=_;omega,by show t.leaves.length+(n+(k+1)-t.aZ)+(k+1)+0=n;omega,fun i c=> ?_, ?_,fun i c h2 h3 _=> ?_⟩
 ·by_cases e:i<n+k
  ·rw[p i e];exact h.pos i e
  ·obtain rfl:i=n+k:=jO;rw[f];have:=(h.pos a D).1;have:=(h.pos b B).1;omega
 ·unfold pF at d⊢;show bu (IV _ ([]++t.leaves++pW t.aZ (n+(k+1)-t.aZ)))=S;rw[show n+(k+1)-t.aZ=(n+k-t.aZ)+1 by omega,List.range'_concat];simp only[List.nil_append,gZ,lE,IU,nR,bu]at d⊢;rw[g t.leaves (fun i c=>by have:=h.leaf i c;omega),g _ r];rw[show t.aZ+1*(n+k-t.aZ)=n+k by omega,f];omega
 ·have h3:i<t.aZ:=h3;have A:=h.il
  have E:(gT t a b).bK.getD i 0=if i=a∨i=b then((n+k:Nat):Int)else t.bK.getD i 0:=by
   unfold gT;rw[BT _ _ _ (by simp;omega),pE,oC,pE,h.wl];by_cases u:b=i
   ·subst u;rw[if_pos ⟨rfl,jO⟩,if_pos (.inr rfl)]
   ·rw[if_neg (fun e=>u e.1)];by_cases v:a=i
    ·subst v;rw[if_pos ⟨rfl,jO⟩,if_pos (.inl rfl)]
    ·rw[if_neg (fun e=>v e.1),if_neg (fun e=>by rcases e with e|e;exact v e.symm;exact u e.symm)]
  rw[E];split
  ·omega
  ·rename_i w;have:=h.bK i jO h2 h3 (fun e=>by simp at e;exact w e);omega
end Go.Proofs.YtcehhgppfahbkaaGreatDoor.Hu
namespace Go.Proofs.YtcehhgppfahbkaaGreatDoor
open Go.RowKit Ev Hu
theorem BU{x:Nat}(h:x<9223372036854775807):IntKind.i64.wrap ((x:Int)+1)=((x+1:Nat):Int):=by rw[aO jO jO];rfl
theorem Sn{x:Nat}(h:x<9223372036854775807):IntKind.i64.wrap (((x+1:Nat):Int)-1)=((x:Nat):Int):=by rw[aO jO jO];omega
theorem RZ:type_of%(aI @MN (aI @MO (aI @aO (aI @BU (aI @Sn (aI @Fv (aI @MY (aI @MZ (aI @M0 (aI @M1 (aI @M3 (aI @M4 (aI @M5 (aI @M6 (aI @M7 (aI @M8 (aI @M9 (aI @Na (aI @Nb (aI @Nc (aI @Nd (aI @Nf (aI @nN (aI @Ng (aI @Nh (aI @Ni (aI @Nj (aI @Nk (aI @wM (aI @Nl (@Nn))))))))))))))))))))))))))))))):=aI @MN (aI @MO (aI @aO (aI @BU (aI @Sn (aI @Fv (aI @MY (aI @MZ (aI @M0 (aI @M1 (aI @M3 (aI @M4 (aI @M5 (aI @M6 (aI @M7 (aI @M8 (aI @M9 (aI @Na (aI @Nb (aI @Nc (aI @Nd (aI @Nf (aI @nN (aI @Ng (aI @Nh (aI @Ni (aI @Nj (aI @Nk (aI @wM (aI @Nl (@Nn))))))))))))))))))))))))))))))
theorem jA{F p q:Prop}(f:F)(x:q)(e:F->p=q:=by intro f;conv=>lhs;(try simp(disch:=first|omega|assumption) only[Nat.reduceAdd,Nat.reduceLT,RZ,f])):p:=(e f).mpr x
theorem jB{p q:Prop}(x:q)(e:p=q:=by conv=>lhs;(try simp(disch:=first|omega|assumption) only[Nat.reduceAdd,Nat.reduceLT,RZ])):p:=e.mpr x
theorem jC{F p:Prop}(f:F)(e:F->p:=by intro f;(try simp(disch:=first|omega|assumption) only[Nat.reduceAdd,Nat.reduceLT,RZ,f])):p:=e f
theorem jE{p:Prop}(e:p:=by(try simp(disch:=first|omega|assumption) only[Nat.reduceAdd,Nat.reduceLT,RZ])):p:=e
abbrev jP(b o:Nat):Value:= .pointer (some ⟨b,o,none⟩)
abbrev jI(n:Int):Value:= .int .i64 n
def ints(xs:List Int):List Value:=xs.map (iz .i64)
def bP(xs:List Nat):List Value:=xs.map fun(x:Nat)=>iz .i64 x
theorem jH(xs:List Int):(ints xs).length=xs.length:=by unfold ints;simp
theorem ints_at{xs:List Int}{i:Nat}(h:i<xs.length):(ints xs)[i]? =some (.int .i64 (xs.getD i 0)):=by unfold ints;simp[h]
structure kZ (h:H) (n g:Nat) (t:HT) (bw bi bl off cl:Nat) (cs:List Value):Prop where
 hg:h.get g=some ⟨276,true,[.slice (some ⟨bw,0,none⟩) t.weight.length (aL+t.weight.length),.slice (some ⟨bi,0,none⟩) t.bK.length (aL+t.bK.length),.slice (some ⟨bl,off,none⟩) t.leaves.length cl,.int .i64 (t.aZ:Nat)]⟩
 hw:h.get bw=some ⟨3,true,ints t.weight⟩
 hi:h.get bi=some ⟨3,true,ints t.bK⟩
 hl:h.get bl=some ⟨3,true,cs⟩
 hlen:off+t.leaves.length<=cs.length
 hcs:(cs.drop off).take t.leaves.length=bP t.leaves
 hcl:t.leaves.length<=cl
 d:g≠bw∧g≠bi∧g≠bl∧bw≠bi∧bw≠bl∧bi≠bl∧g<n∧bw<n∧bi<n∧bl<n
theorem So{cs:List Value}{off:Nat}{l:List Nat}(a:(cs.drop off).take l.length=bP l){i:Nat}(b:i<l.length):cs[off+i]? =some (.int .i64 (l.getD i 0:Nat)):=by have h:=congrArg (fun z=>z[i]?) a;simp only[List.getElem?_take,b,if_true,List.getElem?_drop]at h;rw[h];unfold bP;simp[b]
theorem kZ.leaf {h:H} {n g:Nat} {t:HT} {l o m off k:Nat} {cs:List Value} (s:kZ h n g t l o m off k cs) (c:fK t=true) (v:0<t.leaves.length) {a:Nat} (b:a=off+1∨t.leaves.length=1∧a=off) {x:H}
 (q:x=h.set g (some ⟨276,true,[.slice (some ⟨l,0,none⟩) t.weight.length (aL+t.weight.length),.slice (some ⟨o,0,none⟩) t.bK.length (aL+t.bK.length),.slice (some ⟨m,a,none⟩) (t.leaves.length-1) (k-1),.int .i64 (t.aZ:Nat)]⟩)):kZ x n g (taken t) l o m a (k-1) cs:=by
 obtain⟨u,f,j,i,p,d,r,hd⟩:=s;subst q;have e:taken t={t with leaves:=t.leaves.tail}:=by unfold taken;rw[if_pos c]
 rw[e];refine⟨?_, ?_, ?_, ?_, ?_, ?_, ?_,hd⟩
 ·rw[get_eq];simp
 ·rw[ak _ _ jO];exact f
 ·rw[ak _ _ jO];exact j
 ·rw[ak _ _ jO];exact i
 ·simp only[IW];omega
 ·simp only[IW];rcases b with b|⟨b,_⟩
  ·subst b;have:=congrArg List.tail d;unfold bP at this⊢;rw[<-List.map_tail]at this;rw[<-this,<-List.drop_one,List.drop_take,List.drop_drop]
  ·have:t.leaves.tail=[]:=by rw[<-List.length_eq_zero_iff,IW];omega
   rw[this,b];simp[bP]
 ·simp only[IW];omega
theorem kZ.aZ {h:H} {n g:Nat} {t:HT} {l o m off k:Nat} {cs:List Value} (q:kZ h n g t l o m off k cs) (b:fK t=false) {x:H}
 (p:x=h.set g (some ⟨276,true,[.slice (some ⟨l,0,none⟩) t.weight.length (aL+t.weight.length),.slice (some ⟨o,0,none⟩) t.bK.length (aL+t.bK.length),.slice (some ⟨m,off,none⟩) t.leaves.length k,.int .i64 ((t.aZ+1:Nat):Int)]⟩)):kZ x n g (taken t) l o m off k cs:=by
 obtain⟨r,f,j,i,a,c,d,hd⟩:=q;subst p;have e:taken t={t with aZ:=t.aZ+1}:=by unfold taken;rw[b];rfl
 rw[e];refine⟨?_, ?_, ?_, ?_,a,c,d,hd⟩
 ·rw[get_eq]
 ·rw[ak _ _ jO];exact f
 ·rw[ak _ _ jO];exact j
 ·rw[ak _ _ jO];exact i
theorem Sq(lf d g n:Nat)(h:H)(t:HT)(N P O off A:Nat)(cs:List Value)(J:kZ h n g t N P O off A cs)(U:t.aZ<=100000)(T:t.leaves.length<=100000)(Y:t.weight.length<=100000)(B:fK t=true->0<t.leaves.length)(w:0<t.leaves.length->t.leaves.getD 0 0<t.weight.length)(F:t.aZ<=t.weight.length):
 aa (fun b=>b=g) n (ah ad gt lf (d+1) 244 #[.pointer (some ⟨g,0,none⟩)]) h n fun v h' n'=>v= .int .i64 (leastOf t:Nat)∧n'=n∧∃s E,kZ h' n g (taken t) N P O s E cs:=by
 have m:=J;obtain⟨r,j,k,c,G,x,X,hd⟩:=J;rw[aF (fun _=>RO) rfl];refine aa.aD ?_;unfold GW;have W:=hd.2.2.2.2.2.2.1;have Q:=hd.2.2.2.2.2.2.2.1;have R:=hd.2.2.2.2.2.2.2.2.2;have K:fK t=true->leastOf t=t.leaves.getD 0 0:=fun e=>by unfold leastOf;rw[if_pos e]
 have L:fK t=false->leastOf t=t.aZ:=fun e=>by unfold leastOf;rw[e];rfl
 have I:0<t.leaves.length->0<A:=fun _=>by omega
 by_cases z:t.aZ=t.weight.length
 ·have a:fK t=true:=by unfold fK;simp[z]
  have p:=B a;have i:cs[off]? =some (.int .i64 (t.leaves.getD 0 0:Nat)):=So x p;have y:(((t.aZ:Nat):Int)==((t.weight.length:Nat):Int))=true:=by rw[z];simp
  try simp(disch:=first|omega|assumption) only[Nat.reduceAdd,Nat.reduceLT,RZ,r,j,k,c,y,i]
  refine uP trivial (n0:=n) (l:=1) (hh:=t.leaves.length) c rfl jO off t.leaves.length A _ _ (pe _ 1 0) (wB _) jO jO jO _ trivial ?_;try simp(disch:=first|omega|assumption) only[Nat.reduceAdd,Nat.reduceLT,RZ,r]
  exact⟨by rw[K a],_,_,m.leaf a p (by split;exact .inr ⟨jO,rfl⟩;exact .inl rfl) rfl⟩
 ·have y:(((t.aZ:Nat):Int)==((t.weight.length:Nat):Int))=false:=by rw[beq_eq_false_iff_ne];omega
  have D:t.aZ<t.weight.length:=jO;have q:(ints t.weight)[t.aZ]? =some (.int .i64 (bj t t.aZ)):=ints_at D;by_cases p:0<t.leaves.length
  ·have i:cs[off]? =some (.int .i64 (t.leaves.getD 0 0:Nat)):=So x p;have C:=w p;have u:(ints t.weight)[t.leaves.getD 0 0]? =some (.int .i64 (bj t (t.leaves.getD 0 0))):=ints_at C;have o:(0:Int)<(t.leaves.length:Int):=jO;have a:fK t=decide (bj t (t.leaves.getD 0 0)<=bj t t.aZ):=by unfold fK;simp[z,p]
   by_cases f:bj t (t.leaves.getD 0 0)<=bj t t.aZ
   ·rw[decide_eq_true f]at a;try simp(disch:=first|omega|assumption) only[Nat.reduceAdd,Nat.reduceLT,RZ,r,j,k,c,y,i,u,q,o,f]
    refine uP trivial (n0:=n) (l:=1) (hh:=t.leaves.length) c rfl jO off t.leaves.length A _ _ (pe _ 1 0) (wB _) jO jO jO _ trivial ?_;try simp(disch:=first|omega|assumption) only[Nat.reduceAdd,Nat.reduceLT,RZ,r]
    exact⟨by rw[K a],_,_,m.leaf a p (by split;exact .inr ⟨jO,rfl⟩;exact .inl rfl) rfl⟩
   ·rw[decide_eq_false f]at a;try simp(disch:=first|omega|assumption) only[Nat.reduceAdd,Nat.reduceLT,RZ,r,j,k,c,y,i,u,q,o,f]
    exact⟨by rw[L a,ahn],_,_,m.aZ a rfl⟩
  ·have o:¬(0:Int)<(t.leaves.length:Int):=jO;have a:fK t=false:=by unfold fK;simp[z,p]
   try simp(disch:=first|omega|assumption) only[Nat.reduceAdd,Nat.reduceLT,RZ,r,j,k,c,y,q,o]
   exact⟨by rw[L a,ahn],_,_,m.aZ a rfl⟩
theorem ints_set(xs:List Int)(i:Nat)(v:Int):(ints xs).set i (.int .i64 v)=ints (xs.set i v):=by unfold ints;rw[List.map_set]
theorem Sr(xs:List Int)(v:Int):ints xs++[.int .i64 v]=ints (xs++[v]):=by unfold ints;simp
set_option maxHeartbeats 1000000 in
theorem abm(lf d g n a b:Nat)(h:H)(t:HT)(z B A off y:Nat)(cs:List Value)(w:kZ h n g t z B A off y cs)(J:t.weight.length<=100000)(K:t.bK.length=t.weight.length)(u:a<t.weight.length)(s:b<t.weight.length)(r:∀x∈t.weight,0<=x∧x<=1152921504606846976):
 aa (fun x=>x=g∨x=z∨x=B) n (ah ad gt lf (d+1) 245 #[.pointer (some ⟨g,0,none⟩),.int .i64 (a:Nat),.int .i64 (b:Nat)]) h n fun v h' n'=>v= .tuple #[]∧n<=n'∧∃k l,kZ h' n' g (gT t a b) k l A off y cs∧n<=k∧n<=l:=by
 have F:=w;obtain⟨m,c,e,q,j,o,p,hd⟩:=w;rw[aF (fun _=>RP) rfl];refine aa.aD ?_;unfold GX;have E:=hd.2.2.2.2.2.2.1;have C:=hd.2.2.2.2.2.2.2.1;have D:=hd.2.2.2.2.2.2.2.2.1;have i:(ints t.weight)[a]? =some (.int .i64 (bj t a)):=ints_at u;have f:(ints t.weight)[b]? =some (.int .i64 (bj t b)):=ints_at s;have I:0<=bj t a∧bj t a<=1152921504606846976:=r _ (by unfold bj;simp[u]);have G:0<=bj t b∧bj t b<=1152921504606846976:=r _ (by unfold bj;simp[s]);try simp(disch:=first|omega|assumption) only[Nat.reduceAdd,Nat.reduceLT,RZ,m,c,e,ints_set,jH,oC,i,f]
 refine⟨jO,jO, ?_⟩;refine zU trivial (l4 _ _) (by rw[ak _ _ jO,ak _ _ jO];exact c) jO (jH _) jO jO (.inr (.inr (.inl rfl))) _ ?_;try simp(disch:=first|omega|assumption) only[Nat.reduceAdd,Nat.reduceLT,RZ,m,c,e,ints_set,jH,oC,i,f]
 refine zU trivial (cs:=ints ((t.bK.set a (t.weight.length:Nat)).set b (t.weight.length:Nat))) (l4 _ _) (by try simp(disch:=first|omega|assumption) only[Nat.reduceAdd,Nat.reduceLT,RZ]) jO (by simp[jH]) jO jO (.inr (.inr (.inr rfl))) _ ?_;try simp(disch:=first|omega|assumption) only[Nat.reduceAdd,Nat.reduceLT,RZ,m,c,e]
 refine⟨jO,n+1,n+2+1, ?_,jO,jO⟩;refine⟨?_, ?_, ?_, ?_,j,o,p,jO⟩
 ·try simp(disch:=first|omega|assumption) only[Nat.reduceAdd,Nat.reduceLT,RZ]
  simp[gT]
 ·try simp(disch:=first|omega|assumption) only[Nat.reduceAdd,Nat.reduceLT,RZ]
  rw[Sr];rfl
 ·try simp(disch:=first|omega|assumption) only[Nat.reduceAdd,Nat.reduceLT,RZ]
  rw[Sr];rfl
 ·try simp(disch:=first|omega|assumption) only[Nat.reduceAdd,Nat.reduceLT,RZ,q]
end Go.Proofs.YtcehhgppfahbkaaGreatDoor
