import Derived.Test.YtdagfcflbphoiaaGreatDoorRows
import Derived.Test.YtdagfcflbphoiaaGreatDoorMac
import Derived.WideShapes
import Derived.WalkLawsBesides
open Int renaming natCast_nonneg→aa, add_sub_cancel→ahP
open Nat renaming reduceLT→ae, reduceAdd→ag, le_refl→ak, add_mul→kF, sub_self→nT, mul_le_mul_right→AD, one_mul→AG
open Go.Proofs.Tryz renaming prog→ai
open List renaming getD_eq_getElem?_getD→aC, length_append→aM, getElem?_eq_getElem→aR, length_cons→cu, append_assoc→cE, length_take→dW, length_drop→eP, length_nil→iz, take_append_drop→jm, take_of_length_le→kH, getElem?_append_left→me, map_append→mR, getElem?_append_right→nO, mem_of_mem_take→qh, range'→rq, length_set→rz, map_cons→Ay, drop_drop→AN, mem_map→E', map_nil→Ls, map→Lt, length_tail→Lu, pairwise_cons→Lv, pairwise_append→Xg, mem_of_mem_drop→Xh, take_append_of_le_length→ahI
open Go.Value renaming int→iy, func→o4, string→W0
open Go.Fn renaming func→ry
open List.Perm renaming refl→Fa
open Option renaming getD_some→ag5
set_option linter.unusedVariables false
set_option linter.unusedSimpArgs false
namespace Go.Proofs.YtdagfcflbphoiaaGreatDoor
open Go.RowKit Ev
def gtL:List Hint:=[([],[],[]),([],[],[]),([],[],[]),([0,1,2,5,6,7,8,9,10,11,12,13,35,56],[6],[]),([0,1,2,5,6,7,8,9,10,11,12,13,
 31,51],[6],[]),([0,1,2,6,7,8,9,10,11,12,14,28,69],[6],[]),([0,1,2,6,7,8,9,10,11,12,14,15,16,17,19,37,56,60,61,62,64,116,148,
 151,157,158,167,168],[6],[(0,[])]),([0,1,4,5,11,12,13,14],[4],[(0,[0,5])]),([0,1,2,3,4,5,6,7],[0],[]),([0],[0],[]),([0,1,2,6,7,8,
 11,16,17,18],[6],[(1,[])]),([0,1,2,6,7,8,9,11,12,14,15,17,25,35,36,37,38,54,55,56,57],[6],[(0,[0,1,2,6,7,8,9,17,25,35,36,37,
 38]),(2,[])]),([0,1,4,5,6,7,8,11,12,14,23,35,36,37,38],[4,5],[(0,[0,6,8])]),([0,1,4,5,6,20,21,22,23,24,37],[4],[(0,[])]),([0,2,
 4],[2],[]),([0,1,4,5,6,7,9,10,11,22,23,24,25,38,39,40,41],[4],[(0,[0,1,4,5,6,7,22,23,24,25]),(2,[6])]),([0,11],[],[(0,[])]),([0,
 2,3,5],[2],[]),([0,2],[2],[]),([0,1,4,5,6,7,8],[4],[(0,[5])]),([0,2],[2],[]),([0,1,4,5,8],[4],[]),([0,1,2,6,7,8,9,10,11,13,24,
 35],[6,7],[]),([0,2],[2],[]),([0,2,4],[2],[]),([0,1,2,6,7,8,9,10,11,12,17,31,46,65,70,86],[6],[]),([0,2,3,4,8],[2],[(0,[3])]),
 ([0,1,4,5,10,12,13,14,24],[4],[(0,[])]),([0,2,3,4,5,12],[2,3],[]),([0,2],[2],[]),([0,1,4,5,6,7,8,9,22,34,43,64,68],[4,5],[]),
 ([0,2,4],[2],[]),([0,2,4],[2],[]),([0,1,4,6],[4],[]),([0,1,4],[4],[]),([0,1,4,29],[],[]),([0,1,4,5,18],[4,5],[]),([0,1,2,6,8,9,
 12,27,28,29,30],[6],[(1,[])]),([0,1,2,4,5,8],[4],[]),([0,2,3,4,5,6,7,8,9,18,30,51,52,53,54,60],[2,3],[(1,[4]),(3,[0,2,3,4,5,
 6,9,18])]),([0,1,2,6,7,8,9,11,20],[6],[]),([0,1,4,5,6,8,12,14,15,16,17],[4,5],[(0,[6])]),([0,2,3,4,7],[2,3],[]),([0,1,3,4,5,
 6,7,8,9,11,12,19,21,22,23,24,36,54],[4,5],[(0,[6])]),([0,1,4,6,7,8,9,10,19],[4],[(0,[])]),([0,1,4,5,6,7,9,10,11,12,13,14,24,
 25,26,27,28,29,42,43,44,46,47,48,49,58],[4],[(0,[4,5]),(2,[0,1,4,5,6,7,24,25,26,27,28,29]),(4,[0,1,4,5,6,7,10,24]),(6,[0,1,4,
 5,6,7,10,12,24,25,26,27,28,29,42,43])]),([0,1,4,5,6,8,9,18,19,20,21],[4],[(0,[5])]),([0,2,3,4,6,7,16,17,18,19,22,23,29,36],
 [2],[(0,[3]),(2,[0,2,3,6,16,17,18])]),([0,2,3,4,5,6,7,12,15,16,17,18,24,26,27,28,29],[2],[(0,[3]),(2,[0,2,3,4,5]),(4,[0,2,3,4,
 5,6,12,15,16,17])]),([0,2,3,6],[2],[(0,[3])]),([0,2,6],[2],[(0,[0])]),([0,2],[2],[]),([0,1,2,6,7,8,9,10,15,22,26,29],[6,7],[(0,
 [8])]),([0,2,3,4,5,6,7,8,11,30,35,42,52],[2],[(0,[2,3,6,7])]),([0,1,2,6,7,8,10,11,12,21,36],[6],[(0,[6,7])]),([0,1,4,5,6,7,8,
 9,10,16],[4],[(0,[])]),([0,2,3,6],[2,3],[]),([0],[0],[]),([0,1,4,5,6,7,8,20,40],[4,5],[]),([0,2],[2],[]),([0,1,4,5,6,17],[4,5],
 []),([0,2,4],[2],[]),([0,1,4,5,6,7,8,9,26,38],[4,5],[]),([0,2,4],[2],[]),([0,1,4,5,7,8,9,16],[4],[(0,[])]),([0,1,4,5,6,7,8,9,
 10,11,18,27,40,41],[4,5],[(1,[4,9])]),([0,1,3,4,17],[4],[]),([0,2,3,4,5,6,11,12,13,14],[2],[(0,[4])]),([0,2],[2],[]),([0,1,4,6,
 13,14,15,16,21,28],[],[(0,[]),(2,[0,1,4,6,13,14,15,16,21]),(4,[0,1,4,13,14,15])]),([0,1,2],[],[]),([0,2,3,4],[2],[]),([0,2,4],
 [2],[]),([0,1,4,5,6,7,10],[4,5,6],[]),([1,2],[],[]),([0,2,4],[2],[]),([0,1,4,5,14],[4,5],[]),([0,1,4,5,6,8,11,12,13,14,15,25],
 [4,5],[(0,[6])]),([0,1,4,5,6,7,8,9,11,14,15,16,18,19,20,21,27,36],[4],[(0,[6]),(2,[0,1,4,5,6,8,14,15])]),([0,1,4,5,6,7,8,9],
 [4],[(0,[5])]),([0,2,3,4,5,6,7,8,9,10,27],[2],[(0,[3])]),([0,1,4,5,6,7,8,9,10,11,24],[4],[(0,[5])]),([0,2,3,5,6,7,8,9,10,14,
 20,21,25],[2],[(0,[0,2,3,7,8,9,10]),(2,[])]),([0,1,4,5,9,16],[4],[(0,[])]),([0,1,4],[4],[]),([0,1,4,5,6,7,8,13,22,34],[4],[(0,
 [0,1,4,5,6,7,13]),(2,[5])]),([0,2,3,4,8],[2],[(0,[3])]),([0,2,3,13],[2],[(0,[3])]),([0,1,4,5,6,7,10,21,26,30,35,46,52,62],[4],
 [(0,[4,6,7])]),([0,2],[2],[]),([0,1,4],[4],[]),([0,2],[2],[]),([0,1,2,3,4],[0],[(0,[0,1])]),([0,1,4,5,6,7,8,14,24],[4,5],[]),([0,
 1,4,5,6,7,8,19,32,39],[4],[]),([0,1,4,5,6,7,18,29],[4],[]),([0,2],[2],[]),([0,2,4],[2],[]),([0,1,4,5,6,8,14,17,18,19,20,29],
 [4,5],[(0,[6])]),([0,2,3,4,5,9,10,11],[2],[(0,[3])]),([0,1,4,5,6,7,8,9,10,11,12,18,19,20,29,30,31,32,42,43,44,48],[4],[(0,[0,1,
 4,5,6,18,19,20]),(2,[6]),(4,[0,1,4,5,6,8,10,18,19,20,29,30,31])]),([0,1,2,6,7,8,9,10,12,13,14,16,18,20,21,27,28,29,37,38,39,
 40,70,71,72,73],[6,7],[(0,[0,1,2,6,7,8,9,27,28,29]),(2,[0,1,2,6,7,8,9,27,28,29,37,38,39,40]),(4,[8,18])]),([0,2],[2],[]),([0,
 1,4],[4],[]),([0,1,3],[3],[]),([0,1,4,5,12],[4],[(0,[0,5])]),([0,2],[2],[]),([0,2],[2],[]),([0,2,3,4,6,14,15,16,17,18],[2,3],[(0,
 [4])]),([0,1,4],[4],[]),([0,1,2,6],[6],[]),([0,2],[2],[]),([0,1,4],[4],[]),([0,2,4,6,8,10],[2],[]),([0,1,4,5,7,8,9,10,11,16],
 [4],[(0,[5])]),([0,1,4,5,6,7,8,9,10,11,17,18,19],[4],[(0,[5]),(2,[0,1,4,5,8,9,10])]),([0,2,3,4,5,6,7,8,9,10,11,12,13,15,18,
 19,20,21,39,66,67,68,69],[2],[(0,[0,2,3,4,18,19,20,21]),(2,[7]),(4,[0,2,3,4,7,8,10,12,13,18,19,20,21])]),([0,1,2,6,8,9,10,11,
 12,22],[6],[(0,[])]),([0,2,3,5,6,7,8,9,13],[2],[(0,[3])]),([0,2,3,5,6,7,8,9,10,14,15,16],[2],[(0,[3]),(2,[0,2,3,6,7,8,9])]),
 ([0,1,4,5,6,7,8,9,10,12,21,51],[4,5],[(0,[])]),([0,1,4,5,6,7,11,12,13,21,24],[4],[(0,[0])]),([0,1,4,5,6,7,8,15,29],[4],[]),
 ([0,1,4,5,6,7,8,13,20,32,35,55],[4],[]),([0,2,3,5,6,7,8,12],[2],[(0,[3])]),([0,1,4,5,6,7,8,9,11,12,13,14,26],[4],[(0,[5])]),
 ([0,1,4,5,6,7,22,27,28,29],[4,5],[(0,[6])]),([0,2,3,4,5,6,7,20,24,25,26,27,41],[2,3],[(0,[0,2,3,4,20,24,25,26,27])]),([0,1,4,
 5,7,8,9,16],[4],[(0,[])]),([0,1,4,5,6,14],[4],[(0,[0,5])]),([0,1,2,4,5,6],[6],[]),([0,2],[2],[]),([0,2],[2],[]),([0,2,4],[2],[]),
 ([0,2,3,4,5,6,7,8,9,18],[2],[(0,[3])]),([0,1,4,5,6,7,8,9,10,11,17],[4],[(0,[5])]),([0,1,4,5,6,7,10,17,22,23,24],[4,5],[(1,
 [6])]),([0,2],[2],[]),([0,1,4,7],[4],[]),([0,2,3,4,5,6,11,12,13,32],[2],[(0,[0,2,3,11,12,13]),(2,[0,5])]),([0,2,3,5,6,7,8,9],
 [2],[(0,[3])]),([0,2,3,4,5,9,10,11,12],[2],[(0,[3])]),([0,1,2,4],[4],[]),([0,1,2,3,4],[4],[]),([0,2,4],[2],[]),([0,1,4,5],[4],
 []),([0,1,2,3,4,12,13,14],[2],[(0,[1,3])]),([0,2,3,46],[2],[]),([0,1,2],[],[]),([0,1],[],[]),([0,1,2,5],[5],[]),([0,1,4,5,6,11,
 12,13,16,19],[4],[]),([0,1,2,6,7,8,9,13,30,35,54],[],[(0,[0,1,2,6,7,8,13]),(2,[]),(4,[0,1,2,6,7,8,13])]),([0,2],[2],[]),([0,1,
 2,3,8,9,14,34],[],[(0,[]),(2,[0,1,2,3,8])]),([0,1,2,3,4,10,11,12,13,14,15,16,17,18,19,20,21,22,23,24,28,33,50,58,80,85,103,
 110,140,151,171,185,199,213],[],[(0,[0,1,2,3,4,10,11,28,33]),(2,[]),(4,[0,1,2,3,4,14,15,28,80,85]),(6,[]),(8,[0,1,2,3,4,18,19,
 20])]),([0,1,2,3,4,10,11,20,23],[],[(0,[0,2,4,10])]),([0,1,2,3,10,13],[],[(0,[])]),([],[],[]),([],[],[]),([],[],[]),([],[],[]),
 ([],[],[]),([],[],[]),([],[],[]),([],[],[]),([],[],[]),([],[],[]),([],[],[]),([],[],[]),([],[],[]),([],[],[]),([],[],[]),([],[],[]),
 ([],[],[]),([],[],[]),([],[],[]),([],[],[]),([],[],[]),([],[],[]),([],[],[])]
def gt(f:Nat):Hint:=gtL.getD f ([],[],[])
theorem aF:mw ai=true:=by kernel_rfl
abbrev ii(x:Int):Value:= .int .i64 x
abbrev i1(x:Int):Value:= .int .u8 x
abbrev i3(x:Int):Value:= .int .u32 x
abbrev i6(x:Int):Value:= .int .u64 x
abbrev bT:Value:= .bool true
abbrev bF:Value:= .bool false
abbrev nP:Value:= .pointer none
abbrev nS:Value:= .slice none 0 0
abbrev RT:=FuncId->Array Value->M Value
abbrev V:=Value
abbrev KT:=Ex->Fr->M Value
def pb:Nat->Nat->List Bool
 |0,_=>[]
 |l+1,n=>(Nat.beq (n %2) 1)::pb l (n/2)
def zp:List Nat->List Value->Fr
 |[],_=>[]
 |_,[]=>[]
 |a::l,v::m=>(a,v)::zp l m
noncomputable def cQ (f:Nat) (p:List Bool) (lf:Nat) (r:RT):Fr->KT->M Value:=fun s k=>oD ai r (gt f) lf (sx (G9 ai f) p) s k
noncomputable def tK (f:Nat) (p:List Bool) (lf:Nat) (r:RT):KT:=uj ai r (gt f) lf (G9 ai f) p (Nl ai (aau ai f))
noncomputable def iK (f:Nat) (p q:List Bool) (s:List Nat) (fu:Nat) (K:KT) (lf:Nat) (r:RT):KT:=uj ai r (gt f) lf (sx (G9 ai f) p) q (Nk (fun x=>bK (cQ f p lf r) s fu (x.ax s) K) K)
theorem aD{lf d:Nat}{f:FuncId}{a:Array Value}{b:RT->M Value}(s:∀r,aE ai gt lf r f a=b r)(h:KN.contains f=false):aq ai gt lf (d+1) f a=b (aq ai gt lf d):=by
 show(match KN.contains f with
  |true=>_
  |false=>aE ai gt lf (aq ai gt lf d) f a:M Value)=_
 rw[h]
 exact s _
theorem bV{β:Type}{W:Nat->Prop}{n0:Nat}{h:H}{n:Nat}{Q:β->H->Nat->Prop}{lf d:Nat}{f:FuncId}{vs:List Value}{v:Value}{W':Nat->Prop}(s:ah W' n (aq ai gt lf d f ⟨vs⟩) h n fun v' h' n'=>v'=v∧h'=h∧n'=n)(hn:n0<=n)(hW:∀b,b<n->W' b->n0<=b∨W b){k:Value->M β}(x:ah W n0 (k v) h n Q):ah W n0 (au (aq ai gt lf d) f vs k) h n Q:=by
 refine aI aF s hn hW fun v' h' n' _ _ hq=> ?_
 obtain⟨rfl,rfl,rfl⟩:=hq
 exact x
noncomputable section
def z3:List Value:=[(ii 0)]
def z49:List Value:=[nS,(ii 0),(ii 0),(ii 0)]
def OU:List Value:=[nS,(i1 0),(ii 0)]
def my:List Value:=[nS,nS]
def z78:List Value:=[nS,nS]
def OV:List Value:=[(W0 {data:=#[]}),(ii 0),(ii 0)]
def z88:List Value:=[nS,(ii 0),(ii 0),(ii 0),(ii 0)]
def z91:List Value:=[nS,(ii 0),(ii 0)]
def OW:List Value:=[(ii 0),nP,nS,nP,nS,(ii 0),bF,(ii 0)]
def Hz:List Value:=(BO [nS,nS,nS] (ZA (ii 0) 43))
def aba:List Value:=[nS,(ii 0),(ii 0)]
def OX:List Value:=[(ii 0),(ii 0),nS,bF]
def Cx:List Value:=[(ii 0),(ii 0),(ii 0),(ii 0),(ii 0),(ii 0)]
def HA:List Value:=[(ii 0),(ii 0),(ii 0),(ii 0),(ii 0),(ii 0),(ii 0),(ii 0),nS,bF]
def abb:List Value:=[(ii 0),(ii 0),nS]
def OY:List Value:=[nS,nS,nS,(ii 0)]
theorem OZ:z3=[(ii 0)]:=rfl
theorem O0:z49=[nS,(ii 0),(ii 0),(ii 0)]:=rfl
theorem O1:OU=[nS,(i1 0),(ii 0)]:=rfl
theorem sE:my=[nS,nS]:=rfl
theorem O2:z78=[nS,nS]:=rfl
theorem O3:OV=[(W0 {data:=#[]}),(ii 0),(ii 0)]:=rfl
theorem O4:z88=[nS,(ii 0),(ii 0),(ii 0),(ii 0)]:=rfl
theorem O5:z91=[nS,(ii 0),(ii 0)]:=rfl
theorem O6:OW=[(ii 0),nP,nS,nP,nS,(ii 0),bF,(ii 0)]:=rfl
theorem O7:aba=[nS,(ii 0),(ii 0)]:=rfl
theorem O8:OX=[(ii 0),(ii 0),nS,bF]:=rfl
theorem yQ:Cx=[(ii 0),(ii 0),(ii 0),(ii 0),(ii 0),(ii 0)]:=rfl
theorem O9:HA=[(ii 0),(ii 0),(ii 0),(ii 0),(ii 0),(ii 0),(ii 0),(ii 0),nS,bF]:=rfl
theorem Pa:abb=[(ii 0),(ii 0),nS]:=rfl
theorem Pb:OY=[nS,nS,nS,(ii 0)]:=rfl
def Pc(lf:Nat)(r:RT)(a b c:V):M V:=aW a fun d=>gF d (ii 700) fun e=>an e (au r 8 [] fun d=>aj [d]) (wz c fun f=>gF f (ii
 100) fun g=>an g (au r 8 [] fun d=>aj [d]) (au r 13 [a,b] fun h=>et h fun i=>an i (au r 8 [] fun d=>aj [d]) (au r 9 [] fun d=>au r 11 [d,a,
 b] fun e=>au r 14 [d] fun f=>au r 16 [d] fun g=>au r 17 [d] fun g=>aN g c fun h=>au r 20 [h] fun j=>aW a fun g=>au r 22 [j,b,g] fun h=>aY h 0
 fun l=>aY h 1 fun m=>dh e (ii 0) fun g=>an g (aj [bF]) (dh m (ii 0) fun h=>an h (aj [bF]) (au r 27 [a,l] fun n=>et n fun o=>an o (aj [bF])
 (au r 24 [j] fun p=>dh p f fun q=>an q (aj [bF]) (au r 21 [j,(ii 0)] fun g=>aW a fun g=>cH g (ii 1) fun h=>au r 22 [j,b,h] fun n=>aY n 0 fun o
 =>aY n 1 fun p=>dg p (ii 2) fun g=>an g (au r 24 [j] fun h=>dg h (ii 0) fun n=>an n (au r 8 [] fun o=>aj [o]) (aj [bF])) (aj [bF]))))))))
theorem abc{lf:Nat}{r:RT}{a b c:V}:aE ai gt lf r 5 #[a,b,c]=inside (Pc lf r a b c):=by kernel_rfl
def HB(lf:Nat)(r:RT):M V:=au r 9 [] fun a=>qJ 3 (jd [(ii 0)] 2) 2 [(0,1,(ii 0)),(1,1,(ii 2))] fun b=>au r 11 [a,b,(ii 3)] fun c
 =>qJ 3 (jd [(ii 0)] 2) 2 [(0,1,(ii 0)),(1,1,(ii 2))] fun b=>au r 12 [b,(ii 3)] fun d=>aY d 0 fun e=>aY d 1 fun f=>au r 14 [a] fun b=>au r 16
 [a] fun d=>au r 17 [a] fun d=>au r 20 [d] fun g=>au r 22 [g,(ii 3),(ii 2)] fun h=>aY h 0 fun i=>aY h 1 fun j=>dg c (ii 0) fun d=>an d (dg f (ii
 0) fun g=>an g (dg j (ii 0) fun h=>an h (dg e b fun l=>an l (qJ 3 (jd [(ii 0)] 2) 2 [(0,1,(ii 0)),(1,1,(ii 2))] fun m=>au r 27 [i,m] fun n=>
 aj [n]) (aj [bF])) (aj [bF])) (aj [bF])) (aj [bF])
theorem Pd{lf:Nat}{r:RT}:aE ai gt lf r 8 #[]=inside (HB lf r):=by kernel_rfl
def HC(lf:Nat)(r:RT):M V:=jc OU [] fun a=>kp 63 a fun b=>aj [b]
theorem Pe{lf:Nat}{r:RT}:aE ai gt lf r 9 #[]=inside (HC lf r):=by kernel_rfl
def ur(lf:Nat)(r:RT):Nat->(M V)->V->V->V->V->V->V->V->V->M V
 |0,_,_,_,_,_,_,_,_,_=> .fail
 |fu+1,k,a,b,c,d,e,f,g,h=>aO h g fun i=>an i (cH c (ii 1) fun j=>cH j h fun l=>ny b l fun m=>yB m (i3 1) fun n=>gG .u8 n fun o=>au r
  35 [a,o] fun p=>aN h (ii 1) fun j=>ur lf r fu k a b c d e f g j) (k)
def Pf:List Nat:=[0,1,2,6,8,11,16,17]
def Cy(lf:Nat)(r:RT):(M V):=aj [(ii 0)]
def Cz(lf:Nat)(r:RT)(a b c:V):M V:=fz a nP fun d=>an d (aj [(ii 7)]) (au r 34 [b,c] fun e=>et e fun f=>an f (aj [(ii 1)])
 (ur lf r lf (Cy lf r) a b c (ii 0) d f c (ii 0)))
theorem Pg{lf:Nat}{r:RT}(K:KT):∀fu,ur lf r fu (K (.exit 1) [])=fun a b c d e f g h=>bK (cQ 10 (pb 6 11) lf r)
 Pf fu (zp Pf [a,b,c,d,e,f,g,h]) K
 |0=>by funext a b c d e f g h;kernel_rfl
 |fu+1=>by
  have ih:=Pg (lf:=lf) (r:=r) K fu
  funext a b c d e f g h
  rw[ur]
  simp only[ih]
  kernel_rfl
theorem abd{lf:Nat}{r:RT}:Cy lf r=((tK 10 (pb 5 11) lf r) (.exit 1) []):=by kernel_rfl
theorem Ph{lf:Nat}{r:RT}{a b c:V}:aE ai gt lf r 10 #[a,b,c]=inside (Cz lf r a b c):=by
 unfold Cz
 simp only[abd,Pg]
 kernel_rfl
def uv(lf:Nat)(r:RT):Nat->(V->V->V->V->V->V->V->V->V->V->V->V->V->M V)->V->V->V->V->V->V->V->V->V->V->V->V->M V
 |0,_,_,_,_,_,_,_,_,_,_,_,_,_=> .fail
 |fu+1,k,a,b,c,d,e,f,g,h,i,j,l,m=>aO m l fun n=>an n (aT j m fun o=>av o fun p=>au r 38 [a,p] fun o=>au r 39 [p] fun o=>aY o 0 fun q
  =>aY o 1 fun s=>fI 72 1 q fun o=>fB 72 1 g o fun s=>aN m (ii 1) fun g=>uv lf r fu k a b c d e f s h i j l g) (k a b c d e f g h i j l m n)
def Pj:List Nat:=[0,1,2,6,7,8,9,17,25,35,36,37]
def uw(lf:Nat)(r:RT):Nat->(M V)->V->V->V->V->V->V->V->V->V->V->V->V->V->V->V->V->M V
 |0,_,_,_,_,_,_,_,_,_,_,_,_,_,_,_,_,_=> .fail
 |fu+1,k,a,b,c,d,e,f,g,h,i,j,l,m,n,o,p,q=>aO q p fun s=>an s (aT o q fun t=>av t fun u=>ay 1 e fun t=>av t fun v=>pH q (ii 50)
  fun w=>aT v w fun x=>av x fun y=>aT g y fun z=>av z fun A=>au r 40 [A,a,u] fun B=>aN q (ii 1) fun t=>uw lf r fu k a b c d e f g h i j l m n o p t) (k)
def Pl:List Nat:=[0,1,2,6,7,8,9,17,25,35,36,37,38,54,55,56]
def CA(lf:Nat)(r:RT):(M V):=aj [(ii 0)]
def CB(lf:Nat)(r:RT):(V->V->V->V->V->V->V->V->V->V->V->V->V->M V):=fun a b c d e f g h i j l m n=>aW b fun o=>uw lf r lf (CA lf r) a b c d e f g h i j l m n b o (ii 0)
def CC(lf:Nat)(r:RT)(a b c:V):M V:=fz a nP fun d=>an d (aj [(ii 7)]) (au r 36 [b,c] fun e=>aY e 0 fun f=>aY e 1 fun g=>oB 67 my
 fun h=>iH 2 h f fun _=>dh g (ii 0) fun e=>an e (aj [g]) (ay 1 h fun f=>av f fun i=>ay 0 h fun j=>av j fun l=>aW l fun m=>au r 37 [a,i,m]
 fun n=>ay 0 h fun f=>av f fun i=>aW i fun j=>uv lf r lf (CB lf r) a b c (ii 0) h g nS d e i j (ii 0)))
theorem Pm{lf:Nat}{r:RT}(K:KT):∀fu,uv lf r fu (fun a b c d e f g h i j l m n=>K (.exit 0) (zp [0,1,2,6,7,8,9,17,25,35,
 36,37,38] [a,b,c,d,e,f,g,h,i,j,l,m,n]))=fun a b c d e f g h i j l m=>bK (cQ 11 (pb 10 191) lf r) Pj fu (zp Pj [a,b,c,d,e,f,g,h,i,j,l,m]) K
 |0=>by funext a b c d e f g h i j l m;kernel_rfl
 |fu+1=>by
  have ih:=Pm (lf:=lf) (r:=r) K fu
  funext a b c d e f g h i j l m
  rw[uv]
  simp only[ih]
  kernel_rfl
theorem HD{lf:Nat}{r:RT}(K:KT):∀fu,uw lf r fu (K (.exit 2) [])=fun a b c d e f g h i j l m n o p q=>bK (cQ 11 (pb 11 383) lf
 r) Pl fu (zp Pl [a,b,c,d,e,f,g,h,i,j,l,m,n,o,p,q]) K
 |0=>by funext a b c d e f g h i j l m n o p q;kernel_rfl
 |fu+1=>by
  have ih:=HD (lf:=lf) (r:=r) K fu
  funext a b c d e f g h i j l m n o p q
  rw[uw]
  simp only[ih]
  kernel_rfl
theorem Pn{lf:Nat}{r:RT}:CA lf r=((tK 11 (pb 10 383) lf r) (.exit 2) []):=by kernel_rfl
theorem abe{lf:Nat}{r:RT}:CB lf r=(fun a b c d e f g h i j l m n=>(tK 11 (pb 9 191) lf r) (.exit 0) (zp [0,1,2,6,7,8,9,17,25,
 35,36,37,38] [a,b,c,d,e,f,g,h,i,j,l,m,n])):=by
 unfold CB
 simp only[Pn,HD]
 kernel_rfl
theorem Po{lf:Nat}{r:RT}{a b c:V}:aE ai gt lf r 11 #[a,b,c]=inside (CC lf r a b c):=by
 unfold CC
 simp only[abe,Pn,Pm,HD]
 kernel_rfl
def CD(lf:Nat)(r:RT):Nat->(V->V->V->M V)->V->V->V->V->V->V->V->V->V->V->V->M V
 |0,_,_,_,_,_,_,_,_,_,_,_,_=> .fail
 |fu+1,k,a,b,c,d,e,f,g,h,i,j,l=>aO l j fun m=>an m (aT i l fun n=>av n fun o=>au r 42 [o] fun n=>aY n 0 fun p=>aY n 1 fun q=>aN g p
  fun n=>aN l (ii 1) fun g=>CD lf r fu k a b c d e f n h i j g) (k a e g)
def Pp:List Nat:=[0,1,4,5,6,7,8,23,35,36,37]
def Pq(lf:Nat)(r:RT):(V->V->V->M V):=fun a b c=>jb 2 b fun d=>au r 43 [a,d] fun e=>aY e 0 fun f=>aY e 1 fun g=>aN c f fun d=>aj [d,(ii 0)]
def HE(lf:Nat)(r:RT)(a b:V):M V:=au r 36 [a,b] fun c=>aY c 0 fun d=>aY c 1 fun e=>oB 67 my fun f=>iH 2 f d fun _=>dh e (ii 0) fun
 c=>an c (aj [(ii 0),e]) (ay 1 f fun d=>av d fun g=>ay 0 f fun h=>av h fun i=>aW i fun j=>au r 41 [g,j] fun l=>aY l 0 fun m=>aY l 1 fun n
 =>ay 0 f fun d=>av d fun g=>aW g fun h=>CD lf r lf (Pq lf r) a b (ii 0) (ii 0) f e m c g h (ii 0))
theorem Pr{lf:Nat}{r:RT}(K:KT):∀fu,CD lf r fu (fun a b c=>K (.exit 0) (zp [0,6,8] [a,b,c]))=fun a b c d e f g h i j l=>bK
 (cQ 12 (pb 8 47) lf r) Pp fu (zp Pp [a,b,c,d,e,f,g,h,i,j,l]) K
 |0=>by funext a b c d e f g h i j l;kernel_rfl
 |fu+1=>by
  have ih:=Pr (lf:=lf) (r:=r) K fu
  funext a b c d e f g h i j l
  rw[CD]
  simp only[ih]
  kernel_rfl
theorem abf{lf:Nat}{r:RT}:Pq lf r=(fun a b c=>(tK 12 (pb 7 47) lf r) (.exit 0) (zp [0,6,8] [a,b,c])):=by kernel_rfl
theorem abg{lf:Nat}{r:RT}{a b:V}:aE ai gt lf r 12 #[a,b]=inside (HE lf r a b):=by
 unfold HE
 simp only[abf,Pr]
 kernel_rfl
def ux(lf:Nat)(r:RT):Nat->((M V)×(V->M V))->V->V->V->V->V->V->V->M V
 |0,_,_,_,_,_,_,_,_=> .fail
 |fu+1,k,a,b,c,d,e,f,g=>aO g f fun h=>an h (aT e g fun i=>av i fun j=>cH b (ii 1) fun i=>dg j i fun l=>aW a fun m=>cH m (ii 1) fun n=>
  dg g n fun o=>BR l o fun p=>an p (k.2 bF) (aN g (ii 1) fun i=>ux lf r fu k a b c d e f i)) (k.1)
def Ps:List Nat:=[0,1,4,20,21,22,23]
def wQ(lf:Nat)(r:RT):(M V)×(V->M V):=(aj [bT],fun a=>aj [a])
def HF(lf:Nat)(r:RT)(a b:V):M V:=aW a fun c=>dg c (ii 0) fun d=>an d (aj [bF]) (au r 23 [b] fun e=>et e fun f=>an f (aj
 [bF]) (au r 44 [a,b] fun g=>et g fun h=>an h (aj [bF]) (aW a fun c=>ux lf r lf (wQ lf r) a b bF h a c (ii 0))))
theorem Pt{lf:Nat}{r:RT}(K:KT):∀fu,ux lf r fu ((K (.exit 0) [],fun a=>K .ret (zp [4] [a])))=fun a b c d e f g=>bK
 (cQ 13 (pb 6 11) lf r) Ps fu (zp Ps [a,b,c,d,e,f,g]) K
 |0=>by funext a b c d e f g;kernel_rfl
 |fu+1=>by
  have ih:=Pt (lf:=lf) (r:=r) K fu
  funext a b c d e f g
  rw[ux]
  simp only[ih]
  kernel_rfl
theorem abh{lf:Nat}{r:RT}:wQ lf r=(((tK 13 (pb 5 11) lf r) (.exit 0) [],fun a=>(tK 13 (pb 5 11) lf r) .ret (zp [4] [a]))):=by kernel_rfl
theorem abi{lf:Nat}{r:RT}{a b:V}:aE ai gt lf r 13 #[a,b]=inside (HF lf r a b):=by
 unfold HF
 simp only[abh,Pt]
 kernel_rfl
def HG(lf:Nat)(r:RT)(a:V):M V:=fz a nP fun b=>an b (aj [(ii 0)]) (az a fun c=>ay 2 c fun d=>av d fun e=>aj [e])
theorem Pu{lf:Nat}{r:RT}{a:V}:aE ai gt lf r 14 #[a]=inside (HG lf r a):=by kernel_rfl
def uy(lf:Nat)(r:RT):Nat->(M V)->V->M V
 |0,_,_=> .fail
 |fu+1,k,a=>ue a nP fun b=>an b (az a fun c=>ay 2 c fun d=>av d fun e=>ud e (ii 8) fun f=>dh f (ii 0) fun g=>an g (au r 35 [a,(i1 0)] fun b
  =>uy lf r fu k a) (k)) (k)
def Pv:List Nat:=[0]
def CE(lf:Nat)(r:RT):(M V):=aj []
def CF(lf:Nat)(r:RT)(a:V):M V:=uy lf r lf (CE lf r) a
theorem Pw{lf:Nat}{r:RT}(K:KT):∀fu,uy lf r fu (K (.exit 0) [])=fun a=>bK (cQ 16 (pb 2 0) lf r) Pv fu (zp Pv [a]) K
 |0=>by funext a;kernel_rfl
 |fu+1=>by
  have ih:=Pw (lf:=lf) (r:=r) K fu
  funext a
  rw[uy]
  simp only[ih]
  kernel_rfl
theorem abj{lf:Nat}{r:RT}:CE lf r=((tK 16 (pb 1 0) lf r) (.exit 0) []):=by kernel_rfl
theorem Px{lf:Nat}{r:RT}{a:V}:aE ai gt lf r 16 #[a]=inside (CF lf r a):=by
 unfold CF
 simp only[abj,Pw]
 kernel_rfl
def HH(lf:Nat)(r:RT)(a:V):M V:=fz a nP fun b=>an b (aj [(W0 {data:=#[]})]) (az a fun c=>ay 0 c fun d=>av d fun e
 =>wA e fun f=>az a fun c=>ay 0 c fun d=>bE d nS fun _=>aj [f])
theorem Py{lf:Nat}{r:RT}{a:V}:aE ai gt lf r 17 #[a]=inside (HH lf r a):=by kernel_rfl
def HI(lf:Nat)(r:RT)(a:V):M V:=jc OV [(0,1,a)] fun b=>kp 85 b fun c=>aj [c]
theorem Pz{lf:Nat}{r:RT}{a:V}:aE ai gt lf r 20 #[a]=inside (HI lf r a):=by kernel_rfl
def HJ(lf:Nat)(r:RT)(a b:V):M V:=fz a nP fun c=>an c (aj [(ii 7)]) (az a fun d=>ay 1 d fun e=>av e fun f=>kU (ii 8) f fun g
 =>aO b g fun h=>an h (aj [(ii 1)]) (au r 51 [a] fun i=>gF b i fun j=>an j (aj [(ii 1)]) (az a fun d=>ay 2 d fun e=>bE e b fun _=>aj [(ii 0)])))
theorem PA{lf:Nat}{r:RT}{a b:V}:aE ai gt lf r 21 #[a,b]=inside (HJ lf r a b):=by kernel_rfl
def HK(lf:Nat)(r:RT)(a b c:V):M V:=fz a nP fun d=>an d (aj [nS,(ii 7)]) (au r 28 [b] fun e=>aY e 0 fun f=>aY e 1 fun g=>dh g (ii
 0) fun e=>an e (aj [nS,(ii 1)]) (aO c (ii 0) fun h=>an h (aj [nS,(ii 1)]) (au r 24 [a] fun e=>au r 52 [f,a,c] fun i=>aY i 0 fun j=>aY i 1 fun
 l=>dh l (ii 0) fun g=>an g (au r 21 [a,e] fun i=>aj [j,l]) (aj [j,l]))))
theorem PB{lf:Nat}{r:RT}{a b c:V}:aE ai gt lf r 22 #[a,b,c]=inside (HK lf r a b c):=by kernel_rfl
def PC(lf:Nat)(r:RT)(a:V):M V:=ig a (ii 3) fun b=>an b (ko a (ii 258) fun c=>aj [c]) (aj [bF])
theorem abk{lf:Nat}{r:RT}{a:V}:aE ai gt lf r 23 #[a]=inside (PC lf r a):=by kernel_rfl
def HL(lf:Nat)(r:RT)(a:V):M V:=fz a nP fun b=>an b (aj [(ii 0)]) (az a fun c=>ay 2 c fun d=>av d fun e=>aj [e])
theorem PD{lf:Nat}{r:RT}{a:V}:aE ai gt lf r 24 #[a]=inside (HL lf r a):=by kernel_rfl
def uz(lf:Nat)(r:RT):Nat->((M V)×(V->M V))->V->V->V->V->V->V->M V
 |0,_,_,_,_,_,_,_=> .fail
 |fu+1,k,a,b,c,d,e,f=>aO f e fun g=>an g (aT a f fun h=>av h fun i=>aT b f fun j=>av j fun l=>dh i l fun m=>an m (k.2 bF) (aN f (ii 1)
  fun h=>uz lf r fu k a b c d e h)) (k.1)
def PE:List Nat:=[0,1,4,10,12,13]
def yR(lf:Nat)(r:RT):(M V)×(V->M V):=(aj [bT],fun a=>aj [a])
def CG(lf:Nat)(r:RT)(a b:V):M V:=aW a fun c=>aW b fun d=>dh c d fun e=>an e (aj [bF]) (aW a fun c=>uz lf r lf
 (yR lf r) a b bF e c (ii 0))
theorem PF{lf:Nat}{r:RT}(K:KT):∀fu,uz lf r fu ((K (.exit 0) [],fun a=>K .ret (zp [4] [a])))=fun a b c d e f=>bK
 (cQ 27 (pb 6 11) lf r) PE fu (zp PE [a,b,c,d,e,f]) K
 |0=>by funext a b c d e f;kernel_rfl
 |fu+1=>by
  have ih:=PF (lf:=lf) (r:=r) K fu
  funext a b c d e f
  rw[uz]
  simp only[ih]
  kernel_rfl
theorem abl{lf:Nat}{r:RT}:yR lf r=(((tK 27 (pb 5 11) lf r) (.exit 0) [],fun a=>(tK 27 (pb 5 11) lf r) .ret (zp [4] [a]))):=by kernel_rfl
theorem PG{lf:Nat}{r:RT}{a b:V}:aE ai gt lf r 27 #[a,b]=inside (CG lf r a b):=by
 unfold CG
 simp only[abl,PF]
 kernel_rfl
def HM(lf:Nat)(r:RT)(a:V):M V:=au r 56 [a] fun b=>aY b 0 fun c=>aY b 1 fun d=>dh d (ii 0) fun b=>an b (aj [nP,d]) (au r 57 []
 fun e=>jc OW [(0,1,a),(1,1,e),(3,1,c)] fun f=>kp 100 f fun g=>aj [g,(ii 0)])
theorem PH{lf:Nat}{r:RT}{a:V}:aE ai gt lf r 28 #[a]=inside (HM lf r a):=by kernel_rfl
def HN(lf:Nat)(r:RT)(a b:V):M V:=fz a nP fun c=>an c (aj [(ii 0),(ii 7)]) (fz b nP fun d=>an d (aj [(ii 0),(ii 7)]) (az a fun
 e=>ay 6 e fun f=>av f fun g=>an g (aj [(ii 0),(ii 7)]) (az a fun c=>ay 7 c fun d=>av d fun e=>dh e (ii 0) fun f=>an f (az a fun c=>ay 7 c
 fun d=>av d fun e=>aj [(ii 0),e]) (az a fun c=>ay 1 c fun d=>av d fun e=>au r 59 [e] fun h=>et h fun i=>(fun c=>an i (c (o4
 (ry 60) #[a] #[])) (az a fun d=>ay 4 d fun e=>(cz (av e M.ret)).bind fun h=>aW h.1 fun j=>az a fun l=>ay 1 l fun m=>(cz (av m
 M.ret)).bind fun n=>(cz (au r 61 [n.1] M.ret)).bind fun o=>aO j o.1 fun p=>sw ((!(mv h.2 o.2)&&true)&&true) (an p (c (o4 (ry 62)
 #[a] #[])) (c (o4 (ry 58) #[a] #[]))))) fun c=>eM ai r c [b] fun d=>aY d 0 fun e=>aY d 1 fun h=>dg h (ii 0) fun d=>an d (aj
 [e,h]) (dh h (ii 3) fun j=>an j (az a fun l=>ay 7 l fun m=>bE m h fun _=>aj [(ii 0),h]) (aj [(ii 0),h]))))))
theorem PI{lf:Nat}{r:RT}{a b:V}:aE ai gt lf r 30 #[a,b]=inside (HN lf r a b):=by kernel_rfl
def HO(lf:Nat)(r:RT)(a b:V):M V:=ig b (ii 0) fun c=>an c (ko b (ii 32) fun d=>an d (gG .u64 a fun e=>ny e b fun f=>dg f (i6 0) fun g=>aj [g]) (aj [bF])) (aj [bF])
theorem PJ{lf:Nat}{r:RT}{a b:V}:aE ai gt lf r 34 #[a,b]=inside (HO lf r a b):=by kernel_rfl
def HP(lf:Nat)(r:RT)(a b:V):M V:=az a fun c=>ay 2 c fun d=>av d fun e=>ud e (ii 8) fun f=>az a fun c=>ay 1 c fun d=>av d
 fun e=>cH (ii 7) f fun g=>se b g fun h=>BQ e h fun i=>az a fun j=>ay 1 j fun l=>bE l i fun _=>az a fun c=>ay 2 c fun d=>av d fun e=>aN e
 (ii 1) fun g=>az a fun h=>ay 2 h fun i=>bE i g fun _=>dg f (ii 7) fun c=>an c (az a fun d=>ay 0 d fun e=>av e fun g=>az a fun h=>ay 1 h fun
 i=>av i fun j=>fI 5 1 j fun l=>fB 5 1 g l fun m=>az a fun n=>ay 0 n fun o=>bE o m fun _=>az a fun d=>ay 1 d fun e=>bE e (i1 0) fun _=>aj []) (aj [])
theorem PK{lf:Nat}{r:RT}{a b:V}:aE ai gt lf r 35 #[a,b]=inside (HP lf r a b):=by kernel_rfl
def HQ(lf:Nat)(r:RT)(a b:V):M V:=oB 67 my fun c=>aW a fun d=>dg d (ii 0) fun e=>an e (jc my [] fun d=>iH 2 c d fun _=>jb 2 c
 fun a=>aj [a,(ii 1)]) (cH b (ii 1) fun f=>au r 64 [a,f] fun g=>aW a fun h=>cH h (ii 1) fun i=>dh g i fun j=>an j (jc my [] fun d=>iH 2 c d
 fun _=>jb 2 c fun a=>aj [a,(ii 1)]) (au r 65 [a,b] fun d=>aY d 0 fun e=>aY d 1 fun f=>iH 2 c e fun _=>jb 2 c fun a=>aj [a,f]))
theorem PL{lf:Nat}{r:RT}{a b:V}:aE ai gt lf r 36 #[a,b]=inside (HQ lf r a b):=by kernel_rfl
def uA(lf:Nat)(r:RT):Nat->(M V)->V->V->V->V->V->V->V->V->V->M V
 |0,_,_,_,_,_,_,_,_,_,_=> .fail
 |fu+1,k,a,b,c,d,e,f,g,h,i=>aO i h fun j=>an j (aT g i fun l=>av l fun m=>aN m (ii 1) fun l=>se (i3 1) l fun n=>cH n (i3 2) fun o=>aN
  m (ii 1) fun p=>au r 10 [a,o,p] fun q=>aN i (ii 1) fun l=>uA lf r fu k a b c d e f g h l) (k)
def PM:List Nat:=[0,1,2,6,9,12,27,28,29]
def CH(lf:Nat)(r:RT):(M V):=aj [(ii 0)]
def CI(lf:Nat)(r:RT)(a b c:V):M V:=fz a nP fun d=>an d (aj [(ii 7)]) (au r 66 [b,c] fun e=>et e fun f=>an f (aj [(ii 1)]) (gG
 .u32 c fun e=>au r 10 [a,e,(ii 3)] fun g=>aW b fun e=>gG .u32 e fun g=>au r 10 [a,g,(ii 15)] fun h=>au r 67 [b] fun e=>aW e fun g=>
 uA lf r lf (CH lf r) a b c (ii 0) d f e g (ii 0)))
theorem PN{lf:Nat}{r:RT}(K:KT):∀fu,uA lf r fu (K (.exit 1) [])=fun a b c d e f g h i=>bK (cQ 37 (pb 8 47) lf r)
 PM fu (zp PM [a,b,c,d,e,f,g,h,i]) K
 |0=>by funext a b c d e f g h i;kernel_rfl
 |fu+1=>by
  have ih:=PN (lf:=lf) (r:=r) K fu
  funext a b c d e f g h i
  rw[uA]
  simp only[ih]
  kernel_rfl
theorem abm{lf:Nat}{r:RT}:CH lf r=((tK 37 (pb 7 47) lf r) (.exit 1) []):=by kernel_rfl
theorem PO{lf:Nat}{r:RT}{a b c:V}:aE ai gt lf r 37 #[a,b,c]=inside (CI lf r a b c):=by
 unfold CI
 simp only[abm,PN]
 kernel_rfl
def HR(lf:Nat)(r:RT)(a b:V):M V:=kp 27 a fun c=>av c fun d=>fz d nP fun e=>an e (aj [(ii 7)]) (au r 68 [b] fun d=>et d fun f=>
 an f (aj [(ii 1)]) (au r 69 [b,(o4 (ry 70) #[] #[c])] fun d=>aj [(ii 0)]))
theorem PQ{lf:Nat}{r:RT}{a b:V}:aE ai gt lf r 38 #[a,b]=inside (HR lf r a b):=by kernel_rfl
def sF(lf:Nat)(r:RT):Nat->(V->V->V->V->V->V->V->V->M V)->V->V->V->V->V->V->V->V->V->V->V->V->M V
 |0,_,_,_,_,_,_,_,_,_,_,_,_,_=> .fail
 |fu+1,k,a,b,c,d,e,f,g,h,i,j,l,m=>aO m l fun n=>an n (aT j m fun o=>av o fun p=>dg p f fun o=>an o (az d fun q=>ay 1 q fun s=>av
  s fun t=>gG .u32 e fun u=>aT t m fun v=>bE v u fun _=>az d fun q=>ay 2 q fun s=>av s fun t=>fI 3 1 m fun u=>fB 3 1 t u fun v=>az d fun w=>
  ay 2 w fun x=>bE x v fun _=>aN e (ii 1) fun q=>aN m (ii 1) fun e=>sF lf r fu k a b c d q f g h i j l e) (aN m (ii 1) fun q=>sF lf
  r fu k a b c d e f g h i j l q)) (k a b c d e f g h)
def PR:List Nat:=[0,2,3,4,5,6,9,18,30,51,52,53]
def CJ(lf:Nat)(r:RT)(k:(V->M V))(again:V->V->V->V->V->V->V->V->M V):(V->V->V->V->V->V->V->V->M V):=fun a b c d e f g h=>aN f (ii 1) fun i=>again a b c d e i g h
def sG(lf:Nat)(r:RT):Nat->(V->M V)->V->V->V->V->V->V->V->V->M V
 |0,_,_,_,_,_,_,_,_,_=> .fail
 |fu+1,k,a,b,c,d,e,f,g,h=>ko f (ii 20) fun i=>an i (kU e (ii 2) fun j=>az d fun e=>ay 3 e fun l=>jO 21 l f fun m=>bE m j fun _=>az d
  fun e=>ay 2 e fun l=>av l fun m=>aW m fun n=>az d fun o=>ay 24 o fun p=>jO 22 p f fun q=>bE q n fun _=>aW a fun e=>sF lf r lf
  (CJ lf r k (sG lf r fu k)) a b c d j f g h i a e (ii 0)) (k d)
def yS:List Nat:=[0,2,3,4,5,6,9,18]
abbrev PS(lf:Nat)(r:RT)(fu:Nat)(k:(V->M V)):(V->V->V->V->V->V->V->V->M V):=CJ lf r k (sG lf r fu k)
def yT(lf:Nat)(r:RT):(V->M V):=fun a=>az a fun b=>ay 2 b fun c=>av c fun d=>aW d fun e=>az a fun f=>ay 24 f fun g=>jO 22 g (ii
 21) fun h=>bE h e fun _=>aj [a,(ii 0)]
def yU(lf:Nat)(r:RT)(a:V):M V:=aW a fun b=>aO b (ii 3) fun c=>an c (aj [nP,(ii 1)]) (aW a fun d=>gF d (ii 258) fun e=>an e (aj
 [nP,(ii 1)]) (au r 71 [a] fun b=>et b fun c=>an c (aj [nP,(ii 22)]) ((cz (au r 72 [a] M.ret)).bind fun b=>aW a fun d=>(cz (jP 23 [(i3 0)] d d
 M.ret)).bind fun f=>jc Hz [(0,1,b.1),(1,1,f.1)] fun g=>(cz (kp 111 g M.ret)).bind fun h=>sw ((!(mv b.2 f.2)&&true)&&true) (sG lf
 r lf (yT lf r) a nP (ii 0) h.1 (ii 0) (ii 1) e c))))
theorem PT{lf:Nat}{r:RT}(K:KT):∀fu,sF lf r fu (fun a b c d e f g h=>K (.exit 3) (zp [0,2,3,4,5,6,9,18] [a,b,c,d,e,f,g,
 h]))=fun a b c d e f g h i j l m=>bK (cQ 39 (pb 17 31023) lf r) PR fu (zp PR [a,b,c,d,e,f,g,h,i,j,l,m]) K
 |0=>by funext a b c d e f g h i j l m;kernel_rfl
 |fu+1=>by
  have ih:=PT (lf:=lf) (r:=r) K fu
  funext a b c d e f g h i j l m
  rw[sF]
  simp only[ih]
  kernel_rfl
theorem abn{lf:Nat}{r:RT}(K:KT)(fu:Nat):CJ lf r (fun a=>K (.exit 1) (zp [4] [a])) (fun a b c d e f g h=>bK (cQ 39 (pb 8 47) lf
 r) yS fu (zp yS [a,b,c,d,e,f,g,h]) K)=(fun a b c d e f g h=>(iK 39 (pb 8 47) (pb 8 121) yS fu K lf r) (.exit 3) (zp [0,2,3,
 4,5,6,9,18] [a,b,c,d,e,f,g,h])):=by kernel_rfl
theorem PU{lf:Nat}{r:RT}(K:KT):∀fu,sG lf r fu (fun a=>K (.exit 1) (zp [4] [a]))=fun a b c d e f g h=>bK (cQ 39 (pb 8 47) lf
 r) yS fu (zp yS [a,b,c,d,e,f,g,h]) K
 |0=>by funext a b c d e f g h;kernel_rfl
 |fu+1=>by
  have ih:=PU (lf:=lf) (r:=r) K fu
  funext a b c d e f g h
  rw[sG]
  simp only[ih,abn,PT]
  kernel_rfl
theorem abo{lf:Nat}{r:RT}:yT lf r=(fun a=>(tK 39 (pb 7 47) lf r) (.exit 1) (zp [4] [a])):=by kernel_rfl
theorem HS{lf:Nat}{r:RT}{a:V}:aE ai gt lf r 39 #[a]=inside (yU lf r a):=by
 unfold yU
 simp only[abo,PU]
 kernel_rfl
def HU(lf:Nat)(r:RT)(a b c:V):M V:=fz b nP fun d=>an d (aj [(ii 7)]) (au r 73 [a,c] fun e=>aY e 0 fun f=>aY e 1 fun g=>aY e 2
 fun h=>dh h (ii 0) fun e=>an e (aj [h]) (au r 10 [b,f,g] fun i=>aj [i]))
theorem PV{lf:Nat}{r:RT}{a b c:V}:aE ai gt lf r 40 #[a,b,c]=inside (HU lf r a b c):=by kernel_rfl
def CK(lf:Nat)(r:RT):Nat->(V->M V)->V->V->V->V->V->V->V->V->V->M V
 |0,_,_,_,_,_,_,_,_,_,_=> .fail
 |fu+1,k,a,b,c,d,e,f,g,h,i=>aO i h fun j=>an j (aT g i fun l=>av l fun m=>aN m (ii 1) fun l=>aN e l fun n=>aN i (ii 1) fun e=>CK lf r fu k a b c d n f g h e) (k e)
def PW:List Nat:=[0,1,4,5,6,12,14,15,16]
def PX(lf:Nat)(r:RT):(V->M V):=fun a=>aj [a,(ii 0)]
def HV(lf:Nat)(r:RT)(a b:V):M V:=au r 66 [a,b] fun c=>et c fun d=>an d (aj [(ii 0),(ii 1)]) (au r 67 [a] fun c=>aW c fun e=>
 CK lf r lf (PX lf r) a b (ii 0) (ii 0) (ii 18) d c e (ii 0))
theorem PY{lf:Nat}{r:RT}(K:KT):∀fu,CK lf r fu (fun a=>K (.exit 0) (zp [6] [a]))=fun a b c d e f g h i=>bK (cQ 41 (pb 7 23)
 lf r) PW fu (zp PW [a,b,c,d,e,f,g,h,i]) K
 |0=>by funext a b c d e f g h i;kernel_rfl
 |fu+1=>by
  have ih:=PY (lf:=lf) (r:=r) K fu
  funext a b c d e f g h i
  rw[CK]
  simp only[ih]
  kernel_rfl
theorem abp{lf:Nat}{r:RT}:PX lf r=(fun a=>(tK 41 (pb 6 23) lf r) (.exit 0) (zp [6] [a])):=by kernel_rfl
theorem abq{lf:Nat}{r:RT}{a b:V}:aE ai gt lf r 41 #[a,b]=inside (HV lf r a b):=by
 unfold HV
 simp only[abp,PY]
 kernel_rfl
def PZ(lf:Nat)(r:RT)(a:V):M V:=au r 68 [a] fun b=>et b fun c=>an c (aj [(ii 0),(ii 1)]) (oB 3 z3 fun b=>bE b (ii 0) fun _=>au r
 69 [a,(o4 (ry 74) #[] #[b])] fun d=>av b fun d=>aj [d,(ii 0)])
theorem abr{lf:Nat}{r:RT}{a:V}:aE ai gt lf r 42 #[a]=inside (PZ lf r a):=by kernel_rfl
def CL(lf:Nat)(r:RT):Nat->((V->M V)×(V->V->M V))->V->V->V->V->V->V->V->V->V->V->M V
 |0,_,_,_,_,_,_,_,_,_,_,_=> .fail
 |fu+1,k,a,b,c,d,e,f,g,h,i,j=>aO j i fun l=>an l (aT h j fun m=>av m fun n=>aO n (ii 0) fun m=>an m (k.2 (ii 0) (ii 1)) (ay 0 c fun o=>
  av o fun p=>aW p fun q=>ig n q fun s=>an s (k.2 (ii 0) (ii 1)) (au r 76 [a,j] fun m=>aY m 0 fun o=>aY m 1 fun p=>ay 0 c fun m=>av m fun p=>
  aT p n fun q=>av q fun t=>au r 77 [o,t] fun u=>aY u 0 fun v=>aY u 1 fun w=>dh w (ii 0) fun m=>an m (k.2 (ii 0) w) (aN f v fun p=>sq p (ii
  1099511627776) fun q=>aN j (ii 1) fun f=>CL lf r fu k a b c d e q g h i f)))) (k.1 f)
def P0:List Nat:=[0,1,3,4,5,6,19,21,22,23]
def P2(lf:Nat)(r:RT):(V->M V)×(V->V->M V):=(fun a=>aj [a,(ii 0)],fun a b=>aj [a,b])
def HW(lf:Nat)(r:RT)(a b:V):M V:=kp 67 b fun c=>ay 1 c fun d=>(cz (av d M.ret)).bind fun e=>aW e.1 fun f=>aW a fun g=>(cz
 (au r 75 [g] M.ret)).bind fun h=>dh f h.1 fun i=>sw ((!(mv e.2 h.2)&&true)&&true) (an i (aj [(ii 0),(ii 1)]) (ay 1 c fun d=>av d fun e=>aW e
 fun f=>CL lf r lf (P2 lf r) a b c (ii 0) (ii 0) (ii 0) i e f (ii 0)))
theorem P3{lf:Nat}{r:RT}(K:KT):∀fu,CL lf r fu ((fun a=>K (.exit 0) (zp [6] [a]),fun a b=>K .ret (zp [4,5] [a,b])))=fun a
 b c d e f g h i j=>bK (cQ 43 (pb 7 23) lf r) P0 fu (zp P0 [a,b,c,d,e,f,g,h,i,j]) K
 |0=>by funext a b c d e f g h i j;kernel_rfl
 |fu+1=>by
  have ih:=P3 (lf:=lf) (r:=r) K fu
  funext a b c d e f g h i j
  rw[CL]
  simp only[ih]
  kernel_rfl
theorem abt{lf:Nat}{r:RT}:P2 lf r=((fun a=>(tK 43 (pb 6 23) lf r) (.exit 0) (zp [6] [a]),fun a b=>(tK 43 (pb 6 23) lf r) .ret (zp [4,5] [a,b]))):=by kernel_rfl
theorem abu{lf:Nat}{r:RT}{a b:V}:aE ai gt lf r 43 #[a,b]=inside (HW lf r a b):=by
 unfold HW
 simp only[abt,P3]
 kernel_rfl
def uB(lf:Nat)(r:RT):Nat->((M V)×(V->M V))->V->V->V->V->V->V->M V
 |0,_,_,_,_,_,_,_=> .fail
 |fu+1,k,a,b,c,d,e,f=>aO f e fun g=>an g (aT d f fun h=>av h fun i=>aO i (ii 0) fun h=>an h (k.2 bF) (ig i b fun j=>an j (k.2 bF) (aN f
  (ii 1) fun h=>uB lf r fu k a b c d e h))) (k.1)
def P4:List Nat:=[0,1,4,7,8,9]
def wR(lf:Nat)(r:RT):(M V)×(V->M V):=(aj [bT],fun a=>aj [a])
def HX(lf:Nat)(r:RT)(a b:V):M V:=aW a fun c=>uB lf r lf (wR lf r) a b bF a c (ii 0)
theorem P5{lf:Nat}{r:RT}(K:KT):∀fu,uB lf r fu ((K (.exit 0) [],fun a=>K .ret (zp [4] [a])))=fun a b c d e f=>bK (cQ
 44 (pb 5 5) lf r) P4 fu (zp P4 [a,b,c,d,e,f]) K
 |0=>by funext a b c d e f;kernel_rfl
 |fu+1=>by
  have ih:=P5 (lf:=lf) (r:=r) K fu
  funext a b c d e f
  rw[uB]
  simp only[ih]
  kernel_rfl
theorem abv{lf:Nat}{r:RT}:wR lf r=(((tK 44 (pb 4 5) lf r) (.exit 0) [],fun a=>(tK 44 (pb 4 5) lf r) .ret (zp [4] [a]))):=by kernel_rfl
theorem abw{lf:Nat}{r:RT}{a b:V}:aE ai gt lf r 44 #[a,b]=inside (HX lf r a b):=by
 unfold HX
 simp only[abv,P5]
 kernel_rfl
def HY(lf:Nat)(r:RT)(a:V):M V:=az a fun b=>ay 1 b fun c=>av c fun d=>az a fun e=>ay 0 e fun f=>av f fun g=>wz g fun h=>
 aN d h fun i=>kU (ii 8) i fun j=>aj [j]
theorem P6{lf:Nat}{r:RT}{a:V}:aE ai gt lf r 51 #[a]=inside (HY lf r a):=by kernel_rfl
def uC(lf:Nat)(r:RT):Nat->((V->M V)×(V->V->M V))->V->V->V->V->V->V->M V
 |0,_,_,_,_,_,_,_=> .fail
 |fu+1,k,a,b,c,d,e,f=>az a fun g=>ay 6 g fun h=>av h fun i=>et i fun j=>an j (au r 30 [a,b] fun g=>aY g 0 fun h=>aY g 1 fun i=>dh i
  (ii 0) fun g=>an g (k.2 nS i) (dg h (ii (-1)) fun l=>an l (uC lf r fu k a b c d e f) (aW f fun m=>dg m c fun n=>an n (k.2 nS (ii 2))
  (fI 3 1 h fun m=>fB 3 1 f m fun o=>uC lf r fu k a b c d e o)))) (k.1 f)
def P7:List Nat:=[0,1,2,6,7,8]
def uD(lf:Nat)(r:RT):(V->M V)×(V->V->M V):=(fun a=>aj [a,(ii 0)],fun a b=>aj [a,b])
def HZ(lf:Nat)(r:RT)(a b c:V):M V:=uC lf r lf (uD lf r) a b c nS (ii 0) nS
theorem P8{lf:Nat}{r:RT}(K:KT):∀fu,uC lf r fu ((fun a=>K (.exit 0) (zp [8] [a]),fun a b=>K .ret (zp [6,7] [a,
 b])))=fun a b c d e f=>bK (cQ 52 (pb 5 3) lf r) P7 fu (zp P7 [a,b,c,d,e,f]) K
 |0=>by funext a b c d e f;kernel_rfl
 |fu+1=>by
  have ih:=P8 (lf:=lf) (r:=r) K fu
  funext a b c d e f
  rw[uC]
  simp only[ih]
  kernel_rfl
theorem abx{lf:Nat}{r:RT}:uD lf r=((fun a=>(tK 52 (pb 4 3) lf r) (.exit 0) (zp [8] [a]),fun a b=>(tK 52 (pb 4 3) lf r)
 .ret (zp [6,7] [a,b]))):=by kernel_rfl
theorem P9{lf:Nat}{r:RT}{a b c:V}:aE ai gt lf r 52 #[a,b,c]=inside (HZ lf r a b c):=by
 unfold HZ
 simp only[abx,P8]
 kernel_rfl
def H2(lf:Nat)(r:RT)(a:V):M V:=au r 91 [a] fun b=>et b fun c=>an c (aj [nP,(ii 1)]) (jc OX [(0,1,a)] fun b=>kp 130 b fun d=>aj [d,(ii 0)])
theorem P'{lf:Nat}{r:RT}{a:V}:aE ai gt lf r 56 #[a]=inside (H2 lf r a):=by kernel_rfl
def H3(lf:Nat)(r:RT):M V:=au r 92 [] fun a=>jc HA [(2,6,a)] fun b=>kp 135 b fun c=>aj [c]
theorem Qa{lf:Nat}{r:RT}:aE ai gt lf r 57 #[]=inside (H3 lf r):=by kernel_rfl
def H4(lf:Nat)(r:RT)(a b:V):M V:=az a fun c=>ay 5 c fun d=>av d fun e=>pH e (ii 50) fun f=>az a fun c=>ay 2 c fun d=>av
 d fun e=>aW e fun g=>ig f g fun h=>an h (aj [(ii (-1)),(ii 25)]) (az a fun c=>ay 4 c fun d=>av d fun e=>az a fun g=>ay 2 g fun i=>av i fun
 j=>aT j f fun l=>av l fun m=>aT e m fun n=>av n fun o=>au r 93 [o,b] fun p=>aY p 0 fun q=>aY p 1 fun s=>dh s (ii 0) fun c=>an c (aj [(ii
 (-1)),s]) (az a fun d=>ay 5 d fun e=>av e fun g=>aN g (ii 1) fun i=>az a fun j=>ay 5 j fun l=>bE l i fun _=>az a fun d=>ay 0 d fun e=>av e
 fun g=>cH g (ii 1) fun i=>dg q i fun j=>az a fun l=>ay 6 l fun m=>bE m j fun _=>aj [q,(ii 0)]))
theorem Qb{lf:Nat}{r:RT}{a b:V}:aE ai gt lf r 58 #[a,b]=inside (H4 lf r a b):=by kernel_rfl
def H5(lf:Nat)(r:RT)(a:V):M V:=ue a nP fun b=>an b (az a fun c=>ay 1 c fun d=>av d fun e=>gF e (ii 0) fun f=>an f (az a
 fun g=>ay 8 g fun h=>av h fun i=>aW i fun j=>az a fun l=>ay 1 l fun m=>av m fun n=>dg j n fun o=>aj [o]) (aj [bF])) (aj [bF])
theorem Qc{lf:Nat}{r:RT}{a:V}:aE ai gt lf r 59 #[a]=inside (H5 lf r a):=by kernel_rfl
def H6(lf:Nat)(r:RT)(a b:V):M V:=az a fun c=>ay 1 c fun d=>av d fun e=>au r 94 [e,b] fun f=>az a fun c=>ay 1 c fun d=>av
 d fun e=>au r 59 [e] fun g=>an g (az a fun c=>ay 1 c fun d=>av d fun e=>au r 63 [e] fun h=>az a fun i=>ay 2 i fun j=>bE j h fun _=>aj [(ii (-1)),f]) (aj [(ii (-1)),f])
theorem Qd{lf:Nat}{r:RT}{a b:V}:aE ai gt lf r 60 #[a,b]=inside (H6 lf r a b):=by kernel_rfl
def H7(lf:Nat)(r:RT)(a:V):M V:=fz a nP fun b=>an b (aj [(ii 0)]) (az a fun c=>ay 0 c fun d=>av d fun e=>aj [e])
theorem Qe{lf:Nat}{r:RT}{a:V}:aE ai gt lf r 61 #[a]=inside (H7 lf r a):=by kernel_rfl
def H8(lf:Nat)(r:RT)(a b:V):M V:=az a fun c=>ay 3 c fun d=>av d fun e=>au r 95 [e,b] fun f=>dh f (ii 0) fun c=>an c (aj
 [(ii (-1)),f]) (az a fun d=>ay 3 d fun e=>av e fun g=>au r 96 [g] fun h=>et h fun i=>an i (aj [(ii (-1)),f]) (az a fun c=>ay 3 c fun d=>av d
 fun e=>au r 97 [e] fun g=>au r 39 [g] fun h=>aY h 0 fun j=>aY h 1 fun l=>dh l (ii 0) fun c=>an c (aj [(ii (-1)),l]) (az a fun d=>ay 4 d fun e
 =>av e fun g=>fI 72 1 j fun h=>fB 72 1 g h fun m=>az a fun n=>ay 4 n fun o=>bE o m fun _=>az a fun d=>ay 0 d fun e=>av e fun g=>au r 56
 [g] fun h=>aY h 0 fun m=>aY h 1 fun n=>az a fun d=>ay 3 d fun e=>bE e m fun _=>aj [(ii (-1)),(ii 0)])))
theorem Qf{lf:Nat}{r:RT}{a b:V}:aE ai gt lf r 62 #[a,b]=inside (H8 lf r a b):=by kernel_rfl
def H9(lf:Nat)(r:RT)(a:V):M V:=fz a nP fun b=>an b (aj [nS]) (az a fun c=>ay 8 c fun d=>av d fun e=>au r 72 [e] fun f=>aj [f])
theorem Qg{lf:Nat}{r:RT}{a:V}:aE ai gt lf r 63 #[a]=inside (H9 lf r a):=by kernel_rfl
def uE(lf:Nat)(r:RT):Nat->((M V)×(V->M V))->V->V->V->V->V->M V
 |0,_,_,_,_,_,_=> .fail
 |fu+1,k,a,b,c,d,e=>aO e d fun f=>an f (aT a e fun g=>av g fun h=>dg b h fun i=>an i (k.2 e) (aN e (ii 1) fun g=>uE lf r fu k a b c d g)) (k.1)
def Qh:List Nat:=[0,1,4,7,8]
def yV(lf:Nat)(r:RT):(M V)×(V->M V):=(aj [(ii (-1))],fun a=>aj [a])
def CM(lf:Nat)(r:RT)(a b:V):M V:=aW a fun c=>uE lf r lf (yV lf r) a b (ii 0) c (ii 0)
theorem Qi{lf:Nat}{r:RT}(K:KT):∀fu,uE lf r fu ((K (.exit 0) [],fun a=>K .ret (zp [4] [a])))=fun a b c d e
 =>bK (cQ 64 (pb 5 5) lf r) Qh fu (zp Qh [a,b,c,d,e]) K
 |0=>by funext a b c d e;kernel_rfl
 |fu+1=>by
  have ih:=Qi (lf:=lf) (r:=r) K fu
  funext a b c d e
  rw[uE]
  simp only[ih]
  kernel_rfl
theorem aby{lf:Nat}{r:RT}:yV lf r=(((tK 64 (pb 4 5) lf r) (.exit 0) [],fun a=>(tK 64 (pb 4 5) lf r) .ret (zp [4] [a]))):=by kernel_rfl
theorem Qj{lf:Nat}{r:RT}{a b:V}:aE ai gt lf r 64 #[a,b]=inside (CM lf r a b):=by
 unfold CM
 simp only[aby,Qi]
 kernel_rfl
def uF(lf:Nat)(r:RT):Nat->(V->V->M V)->V->V->V->V->V->V->V->V->V->V->V->M V
 |0,_,_,_,_,_,_,_,_,_,_,_,_=> .fail
 |fu+1,k,a,b,c,d,e,f,g,h,i,j,l=>aO l (ii 4) fun m=>an m (ay 0 h fun n=>av n fun o=>au r 101 [g,o,b] fun p=>aY p 0 fun q=>aY p 1 fun
  s=>jc my [(0,1,s),(1,1,q)] fun n=>iH 2 h n fun _=>aN l (ii 1) fun n=>uF lf r fu k a b c d e f g h i j n) (k c h)
def Qk:List Nat:=[0,1,4,5,6,7,8,9,18,27,40]
def CN(lf:Nat)(r:RT):(V->V->M V):=fun a b=>jb 2 b fun c=>iH 2 a c fun _=>jb 2 a fun b=>aj [b,(ii 0)]
def yW(lf:Nat)(r:RT)(a b:V):M V:=oB 67 my fun c=>au r 98 [a,b] fun d=>aY d 0 fun e=>aY d 1 fun f=>dh f (ii 0) fun d=>an d (jc
 my [] fun d=>iH 2 c d fun _=>jb 2 c fun a=>aj [a,(ii 1)]) (aW a fun g=>dg g (ii 0) fun h=>an h (jc my [] fun d=>iH 2 c d fun _=>jb 2 c fun a
 =>aj [a,(ii 1)]) (aW a fun d=>au r 75 [d] fun g=>gF g (ii 32767) fun i=>an i (jc my [] fun d=>iH 2 c d fun _=>jb 2 c fun a=>aj [a,(ii 2)])
 (au r 99 [a] fun d=>aW a fun g=>au r 100 [e,g] fun j=>jc my [(0,1,j)] fun l=>oB 67 my fun m=>iH 2 m l fun _=>uF lf r lf
 (CN lf r) a b c (ii 0) e f d m h i (ii 0))))
theorem Ql{lf:Nat}{r:RT}(K:KT):∀fu,uF lf r fu (fun a b=>K (.exit 1) (zp [4,9] [a,b]))=fun a b c d e f g h i j l=>bK (cQ 65
 (pb 9 95) lf r) Qk fu (zp Qk [a,b,c,d,e,f,g,h,i,j,l]) K
 |0=>by funext a b c d e f g h i j l;kernel_rfl
 |fu+1=>by
  have ih:=Ql (lf:=lf) (r:=r) K fu
  funext a b c d e f g h i j l
  rw[uF]
  simp only[ih]
  kernel_rfl
theorem abz{lf:Nat}{r:RT}:CN lf r=(fun a b=>(tK 65 (pb 8 95) lf r) (.exit 1) (zp [4,9] [a,b])):=by kernel_rfl
theorem H'{lf:Nat}{r:RT}{a b:V}:aE ai gt lf r 65 #[a,b]=inside (yW lf r a b):=by
 unfold yW
 simp only[abz,Ql]
 kernel_rfl
def Ia(lf:Nat)(r:RT)(a b:V):M V:=kp 3 b fun c=>av c fun d=>au r 102 [d] fun e=>et e fun f=>an f (aj [bF]) (aW a fun g=>dg g (ii
 0) fun h=>an h (aj [bF]) (aW a fun i=>gF i (ii 32767) fun j=>an j (aj [bF]) (au r 103 [a,(o4 (ry 104) #[] #[c])] fun d=>et d fun e=>aj [e])))
theorem Qm{lf:Nat}{r:RT}{a b:V}:aE ai gt lf r 66 #[a,b]=inside (Ia lf r a b):=by kernel_rfl
def uG(lf:Nat)(r:RT):Nat->(V->M V)->V->V->V->V->V->V->V->M V
 |0,_,_,_,_,_,_,_,_=> .fail
 |fu+1,k,a,b,c,d,e,f,g=>aO g f fun h=>an h (aT e g fun i=>av i fun j=>au r 105 [c,j] fun i=>aT d g fun l=>bE l i fun _=>aN g (ii 1)
  fun i=>uG lf r fu k a b c d e f i) (k d)
def Qn:List Nat:=[0,2,3,4,11,12,13]
def CO(lf:Nat)(r:RT):(V->M V):=fun a=>aj [a]
def CP(lf:Nat)(r:RT)(a:V):M V:=au r 92 [] fun b=>oB 132 Cx fun c=>iH 6 c b fun _=>aW a fun b=>jP 3 [(ii 0)] b b fun d=>aW a
 fun b=>uG lf r lf (CO lf r) a nS c d a b (ii 0)
theorem Qo{lf:Nat}{r:RT}(K:KT):∀fu,uG lf r fu (fun a=>K (.exit 0) (zp [4] [a]))=fun a b c d e f g=>bK (cQ 67 (pb 7 23)
 lf r) Qn fu (zp Qn [a,b,c,d,e,f,g]) K
 |0=>by funext a b c d e f g;kernel_rfl
 |fu+1=>by
  have ih:=Qo (lf:=lf) (r:=r) K fu
  funext a b c d e f g
  rw[uG]
  simp only[ih]
  kernel_rfl
theorem abA{lf:Nat}{r:RT}:CO lf r=(fun a=>(tK 67 (pb 6 23) lf r) (.exit 0) (zp [4] [a])):=by kernel_rfl
theorem Qp{lf:Nat}{r:RT}{a:V}:aE ai gt lf r 67 #[a]=inside (CP lf r a):=by
 unfold CP
 simp only[abA,Qo]
 kernel_rfl
def Ib(lf:Nat)(r:RT)(a:V):M V:=aW a fun b=>au r 91 [b] fun c=>an c (au r 103 [a,(o4 (.func 106) #[] #[])] fun d=>et d fun e=>aj [e]) (aj [bF])
theorem Qq{lf:Nat}{r:RT}{a:V}:aE ai gt lf r 68 #[a]=inside (Ib lf r a):=by kernel_rfl
def uH(lf:Nat)(r:RT):Nat->(V->V->V->V->V->V->V->V->V->M V)->V->V->V->V->V->V->V->V->M V
 |0,_,_,_,_,_,_,_,_,_=> .fail
 |fu+1,k,a,b,c,d,e,f,g,h=>aO c d fun i=>an i (eM ai r b [(ii 2),(ii 2)] fun j=>aN c (ii 1) fun j=>uH lf r fu k a b j d e f g h) (k a b c d e f g h i)
def Qr:List Nat:=[0,1,4,6,13,14,15,16]
def uI(lf:Nat)(r:RT):Nat->(V->V->V->V->V->V->M V)->V->V->V->V->V->V->V->V->V->M V
 |0,_,_,_,_,_,_,_,_,_,_=> .fail
 |fu+1,k,a,b,c,d,e,f,g,h,i=>gF c d fun j=>an j (eM ai r b [(ii 3),(ii 2)] fun l=>cH c (ii 1) fun l=>uI lf r fu k a b l d e f g h i) (k a b c e f g)
def Qs:List Nat:=[0,1,4,6,13,14,15,16,21]
def Ic(lf:Nat)(r:RT)(k:(M V))(again:V->V->V->V->V->V->M V):(V->V->V->V->V->V->M V):=fun a b c d e f=>eM ai r b [(ii 0),(ii 1)] fun g=>aN f (ii 1) fun g=>again a b c d e g
def CQ(lf:Nat)(r:RT)(k:(M V))(again:V->V->V->V->V->V->M V):(V->V->V->V->V->V->V->V->V->M V):=fun a b c d e f g h i=>uI lf r lf (Ic lf r k again) a b c d e f g h i
def uJ(lf:Nat)(r:RT):Nat->(M V)->V->V->V->V->V->V->M V
 |0,_,_,_,_,_,_,_=> .fail
 |fu+1,k,a,b,c,d,e,f=>aO f e fun g=>an g (aT d f fun h=>av h fun i=>uH lf r lf (CQ lf r k (uJ lf r fu k)) a b c i d e f g) (k)
def sH:List Nat:=[0,1,4,13,14,15]
def CR(lf:Nat)(r:RT):(M V):=aj []
def CS(lf:Nat)(r:RT)(a b:V):M V:=aT a (ii 0) fun c=>av c fun d=>eM ai r b [d,(ii 5)] fun c=>aW a fun c=>uJ lf r
 lf (CR lf r) a b d a c (ii 0)
theorem Qt{lf:Nat}{r:RT}(K:KT):∀fu,uH lf r fu (fun a b c d e f g h i=>K (.exit 2) (zp [0,1,4,6,13,14,15,16,21] [a,b,c,
 d,e,f,g,h,i]))=fun a b c d e f g h=>bK (cQ 69 (pb 13 615) lf r) Qr fu (zp Qr [a,b,c,d,e,f,g,h]) K
 |0=>by funext a b c d e f g h;kernel_rfl
 |fu+1=>by
  have ih:=Qt (lf:=lf) (r:=r) K fu
  funext a b c d e f g h
  rw[uH]
  simp only[ih]
  kernel_rfl
theorem Ie{lf:Nat}{r:RT}(K:KT):∀fu,uI lf r fu (fun a b c d e f=>K (.exit 4) (zp [0,1,4,13,14,15] [a,b,c,d,e,f]))=fun
 a b c d e f g h i=>bK (cQ 69 (pb 14 1639) lf r) Qs fu (zp Qs [a,b,c,d,e,f,g,h,i]) K
 |0=>by funext a b c d e f g h i;kernel_rfl
 |fu+1=>by
  have ih:=Ie (lf:=lf) (r:=r) K fu
  funext a b c d e f g h i
  rw[uI]
  simp only[ih]
  kernel_rfl
theorem Qu{lf:Nat}{r:RT}(K:KT)(fu:Nat):Ic lf r (K (.exit 0) []) (fun a b c d e f=>bK (cQ 69 (pb 5 7) lf r) sH fu
 (zp sH [a,b,c,d,e,f]) K)=(fun a b c d e f=>(iK 69 (pb 5 7) (pb 8 51) sH fu K lf r) (.exit 4) (zp [0,1,4,13,14,15] [a,b,c,d,e,f])):=by kernel_rfl
theorem abB{lf:Nat}{r:RT}(K:KT)(fu:Nat):CQ lf r (K (.exit 0) []) (fun a b c d e f=>bK (cQ 69 (pb 5 7) lf r) sH fu
 (zp sH [a,b,c,d,e,f]) K)=(fun a b c d e f g h i=>(iK 69 (pb 5 7) (pb 7 19) sH fu K lf r) (.exit 2) (zp [0,1,4,6,13,14,15,16,21] [a,b,c,d,e,f,g,h,i])):=by
 unfold CQ
 simp only[Qu,Ie]
 kernel_rfl
theorem Qv{lf:Nat}{r:RT}(K:KT):∀fu,uJ lf r fu (K (.exit 0) [])=fun a b c d e f=>bK (cQ 69 (pb 5 7) lf r) sH fu (zp sH [a,b,c,d,e,f]) K
 |0=>by funext a b c d e f;kernel_rfl
 |fu+1=>by
  have ih:=Qv (lf:=lf) (r:=r) K fu
  funext a b c d e f
  rw[uJ]
  simp only[ih,abB,Qu,Qt,Ie]
  kernel_rfl
theorem abC{lf:Nat}{r:RT}:CR lf r=((tK 69 (pb 4 7) lf r) (.exit 0) []):=by kernel_rfl
theorem Qw{lf:Nat}{r:RT}{a b:V}:aE ai gt lf r 69 #[a,b]=inside (CS lf r a b):=by
 unfold CS
 simp only[abC,Qv]
 kernel_rfl
def Ig(lf:Nat)(r:RT)(a b c:V):M V:=av c fun d=>gG .u32 a fun e=>au r 10 [d,e,b] fun f=>aj []
theorem Qx{lf:Nat}{r:RT}{a b c:V}:aE ai gt lf r 70 #[a,b,c]=inside (Ig lf r a b c):=by kernel_rfl
def Ih(lf:Nat)(r:RT)(a:V):M V:=au r 108 [a] fun b=>aY b 0 fun c=>aY b 1 fun d=>dg d (ii 0) fun b=>an b (dg c (ii 1048576) fun e=>
 an e (au r 109 [a,(ii 0)] fun f=>et f fun g=>aj [g]) (aj [bF])) (aj [bF])
theorem Qy{lf:Nat}{r:RT}{a:V}:aE ai gt lf r 71 #[a]=inside (Ih lf r a):=by kernel_rfl
def Ii(lf:Nat)(r:RT)(a:V):M V:=yC a nS fun b=>an b (aj [nS]) (qJ 3 [] 0 [] fun c=>fB 3 1 c a fun d=>aj [d])
theorem Qz{lf:Nat}{r:RT}{a:V}:aE ai gt lf r 72 #[a]=inside (Ii lf r a):=by kernel_rfl
def Ij(lf:Nat)(r:RT)(a b:V):M V:=fz a nP fun c=>an c (aj [(i3 0),(ii 0),(ii 7)]) (aO b (ii 0) fun d=>an d (aj [(i3 0),(ii 0),
 (ii 1)]) (az a fun e=>ay 0 e fun f=>av f fun g=>aW g fun h=>ig b h fun i=>an i (aj [(i3 0),(ii 0),(ii 1)]) (az a fun d=>ay 1 d fun e=>av e
 fun f=>aT f b fun g=>av g fun h=>az a fun j=>ay 0 j fun l=>av l fun m=>aT m b fun n=>av n fun o=>aj [h,o,(ii 0)])))
theorem QA{lf:Nat}{r:RT}{a b:V}:aE ai gt lf r 73 #[a,b]=inside (Ij lf r a b):=by kernel_rfl
def QB(lf:Nat)(r:RT)(a b c:V):M V:=av c fun d=>aN d b fun e=>bE c e fun _=>aj []
theorem abD{lf:Nat}{r:RT}{a b c:V}:aE ai gt lf r 74 #[a,b,c]=inside (QB lf r a b c):=by kernel_rfl
def Ik(lf:Nat)(r:RT)(a:V):M V:=ko a (ii 0) fun b=>an b (aj [(ii 0)]) (cH a (ii 1) fun c=>pH c (ii 50) fun d=>aN d (ii 1) fun e=>aj [e])
theorem QC{lf:Nat}{r:RT}{a:V}:aE ai gt lf r 75 #[a]=inside (Ik lf r a):=by kernel_rfl
def Il(lf:Nat)(r:RT)(a b:V):M V:=aO b (ii 0) fun c=>an c (aj [nS,(ii 1)]) (aW a fun d=>au r 75 [d] fun e=>ig b e fun f=>an f
 (aj [nS,(ii 1)]) (au r 110 [a,b,(ii 50)] fun c=>aj [c,(ii 0)]))
theorem QD{lf:Nat}{r:RT}{a b:V}:aE ai gt lf r 76 #[a,b]=inside (Il lf r a b):=by kernel_rfl
def uK(lf:Nat)(r:RT):Nat->((V->M V)×(V->V->M V))->V->V->V->V->V->V->V->V->V->M V
 |0,_,_,_,_,_,_,_,_,_,_=> .fail
 |fu+1,k,a,b,c,d,e,f,g,h,i=>aO i h fun j=>an j (aT g i fun l=>av l fun m=>aO m (ii 0) fun l=>an l (k.2 (ii 0) (ii 1)) (aW b fun n=>ig m
  n fun o=>an o (k.2 (ii 0) (ii 1)) (aT b m fun l=>av l fun n=>au r 112 [e,n] fun p=>aN i (ii 1) fun e=>uK lf r fu k a b c d p f g h e))) (k.1 e)
def QE:List Nat:=[0,1,4,5,6,11,12,13,14]
def wS(lf:Nat)(r:RT):(V->M V)×(V->V->M V):=(fun a=>aj [a,(ii 0)],fun a b=>aj [a,b])
def CT(lf:Nat)(r:RT)(a b:V):M V:=au r 111 [b] fun c=>et c fun d=>an d (aj [(ii 0),(ii 1)]) (aW a fun c=>uK lf r lf
 (wS lf r) a b (ii 0) (ii 0) (ii 0) d a c (ii 0))
theorem QF{lf:Nat}{r:RT}(K:KT):∀fu,uK lf r fu ((fun a=>K (.exit 0) (zp [6] [a]),fun a b=>K .ret (zp [4,5] [a,b])))=fun a b c
 d e f g h i=>bK (cQ 77 (pb 7 23) lf r) QE fu (zp QE [a,b,c,d,e,f,g,h,i]) K
 |0=>by funext a b c d e f g h i;kernel_rfl
 |fu+1=>by
  have ih:=QF (lf:=lf) (r:=r) K fu
  funext a b c d e f g h i
  rw[uK]
  simp only[ih]
  kernel_rfl
theorem abE{lf:Nat}{r:RT}:wS lf r=((fun a=>(tK 77 (pb 6 23) lf r) (.exit 0) (zp [6] [a]),fun a b=>(tK 77 (pb 6 23) lf r) .ret (zp [4,5] [a,b]))):=by kernel_rfl
theorem QG{lf:Nat}{r:RT}{a b:V}:aE ai gt lf r 77 #[a,b]=inside (CT lf r a b):=by
 unfold CT
 simp only[abE,QF]
 kernel_rfl
def CU(lf:Nat)(r:RT)(a:V):M V:=ig a (ii 3) fun b=>an b (ko a (ii 258) fun c=>aj [c]) (aj [bF])
theorem Im{lf:Nat}{r:RT}{a:V}:aE ai gt lf r 91 #[a]=inside (CU lf r a):=by kernel_rfl
def wT(lf:Nat)(r:RT):Nat->(V->V->M V)->V->V->V->M V
 |0,_,_,_,_=> .fail
 |fu+1,k,a,b,c=>aO c (ii 6) fun d=>an d (jO 6 b c fun e=>bE e c fun _=>aN c (ii 1) fun e=>wT lf r fu k a b e) (k a b)
def QH:List Nat:=[0,1,3]
def CV(lf:Nat)(r:RT):(V->V->M V):=fun a b=>jb 6 b fun c=>iH 6 a c fun _=>jb 6 a fun b=>aj [b]
def CW(lf:Nat)(r:RT):M V:=oB 132 Cx fun a=>oB 132 Cx fun b=>wT lf r lf (CV lf r) a b (ii 0)
theorem QI{lf:Nat}{r:RT}(K:KT):∀fu,wT lf r fu (fun a b=>K (.exit 0) (zp [0,1] [a,b]))=fun a b c=>bK (cQ 92 (pb 6 11) lf
 r) QH fu (zp QH [a,b,c]) K
 |0=>by funext a b c;kernel_rfl
 |fu+1=>by
  have ih:=QI (lf:=lf) (r:=r) K fu
  funext a b c
  rw[wT]
  simp only[ih]
  kernel_rfl
theorem abF{lf:Nat}{r:RT}:CV lf r=(fun a b=>(tK 92 (pb 5 11) lf r) (.exit 0) (zp [0,1] [a,b])):=by kernel_rfl
theorem QJ{lf:Nat}{r:RT}:aE ai gt lf r 92 #[]=inside (CW lf r):=by
 unfold CW
 simp only[abF,QI]
 kernel_rfl
def Io(lf:Nat)(r:RT)(a b:V):M V:=fz a nP fun c=>an c (aj [(ii 0),(ii 7)]) (fz b nP fun d=>an d (aj [(ii 0),(ii 7)]) (au r 24
 [b] fun c=>au r 120 [a,b] fun e=>aY e 0 fun f=>aY e 1 fun g=>dh g (ii 0) fun e=>an e (au r 21 [b,c] fun h=>aj [f,g]) (aj [f,g])))
theorem QL{lf:Nat}{r:RT}{a b:V}:aE ai gt lf r 93 #[a,b]=inside (Io lf r a b):=by kernel_rfl
def Ip(lf:Nat)(r:RT)(a b:V):M V:=fz a nP fun c=>an c (aj [(ii 7)]) (fz b nP fun d=>an d (aj [(ii 7)]) (au r 59 [a] fun e=>
 an e (aj [(ii 7)]) (az a fun c=>ay 9 c fun d=>av d fun f=>an f (aj [(ii 25)]) (au r 24 [b] fun c=>az a fun d=>ay 1 d fun g=>av g fun h=>dg
 h (ii 0) fun i=>(fun d=>an i (d (o4 (ry 122) #[a] #[])) (d (o4 (ry 121) #[a] #[]))) fun d=>eM ai r d [b] fun g=>dg g
 (ii 3) fun h=>an h (au r 21 [b,c] fun j=>aj [g]) (aj [g])))))
theorem QM{lf:Nat}{r:RT}{a b:V}:aE ai gt lf r 94 #[a,b]=inside (Ip lf r a b):=by kernel_rfl
def Iq(lf:Nat)(r:RT)(a b:V):M V:=fz a nP fun c=>an c (aj [(ii 7)]) (fz b nP fun d=>an d (aj [(ii 7)]) (au r 96 [a] fun e=>
 an e (aj [(ii 7)]) (az a fun c=>ay 3 c fun d=>av d fun f=>an f (aj [(ii 22)]) (au r 24 [b] fun c=>au r 123 [a,b] fun d=>dg d (ii 3) fun g=>an
 g (au r 21 [b,c] fun h=>aj [d]) (aj [d])))))
theorem QN{lf:Nat}{r:RT}{a b:V}:aE ai gt lf r 95 #[a,b]=inside (Iq lf r a b):=by kernel_rfl
def Ir(lf:Nat)(r:RT)(a:V):M V:=ue a nP fun b=>an b (az a fun c=>ay 2 c fun d=>av d fun e=>aW e fun f=>az a fun g=>ay 0
 g fun h=>av h fun i=>dg f i fun j=>aj [j]) (aj [bF])
theorem QO{lf:Nat}{r:RT}{a:V}:aE ai gt lf r 96 #[a]=inside (Ir lf r a):=by kernel_rfl
def Is(lf:Nat)(r:RT)(a:V):M V:=fz a nP fun b=>an b (aj [nS]) (az a fun c=>ay 2 c fun d=>av d fun e=>au r 72 [e] fun f=>aj [f])
theorem QP{lf:Nat}{r:RT}{a:V}:aE ai gt lf r 97 #[a]=inside (Is lf r a):=by kernel_rfl
def uL(lf:Nat)(r:RT):Nat->((V->M V)×(V->V->M V))->V->V->V->V->V->V->V->V->V->M V
 |0,_,_,_,_,_,_,_,_,_,_=> .fail
 |fu+1,k,a,b,c,d,e,f,g,h,i=>aO i h fun j=>an j (aT g i fun l=>av l fun m=>aO m (ii 0) fun l=>an l (k.2 nS (ii 1)) (ig m b fun n=>an n
  (k.2 nS (ii 1)) (aT e m fun l=>av l fun o=>aN o (ii 1) fun p=>aT e m fun q=>bE q p fun _=>aN i (ii 1) fun l=>uL lf r fu k a b c d e f g h l))) (k.1 e)
def QR:List Nat:=[0,1,4,5,6,14,17,18,19]
def wU(lf:Nat)(r:RT):(V->M V)×(V->V->M V):=(fun a=>aj [a,(ii 0)],fun a b=>aj [a,b])
def yX(lf:Nat)(r:RT)(a b:V):M V:=aO b (ii 3) fun c=>an c (aj [nS,(ii 1)]) (gF b (ii 258) fun d=>an d (aj [nS,(ii 1)]) (jP 3 [(ii
 0)] b b fun c=>aW a fun e=>uL lf r lf (wU lf r) a b nS (ii 0) c d a e (ii 0)))
theorem QS{lf:Nat}{r:RT}(K:KT):∀fu,uL lf r fu ((fun a=>K (.exit 0) (zp [6] [a]),fun a b=>K .ret (zp [4,5] [a,b])))=fun a
 b c d e f g h i=>bK (cQ 98 (pb 7 23) lf r) QR fu (zp QR [a,b,c,d,e,f,g,h,i]) K
 |0=>by funext a b c d e f g h i;kernel_rfl
 |fu+1=>by
  have ih:=QS (lf:=lf) (r:=r) K fu
  funext a b c d e f g h i
  rw[uL]
  simp only[ih]
  kernel_rfl
theorem abG{lf:Nat}{r:RT}:wU lf r=((fun a=>(tK 98 (pb 6 23) lf r) (.exit 0) (zp [6] [a]),fun a b=>(tK 98 (pb 6 23) lf r) .ret (zp [4,5] [a,b]))):=by kernel_rfl
theorem It{lf:Nat}{r:RT}{a b:V}:aE ai gt lf r 98 #[a,b]=inside (yX lf r a b):=by
 unfold yX
 simp only[abG,QS]
 kernel_rfl
def uM(lf:Nat)(r:RT):Nat->(V->M V)->V->V->V->V->V->M V
 |0,_,_,_,_,_,_=> .fail
 |fu+1,k,a,b,c,d,e=>aO e d fun f=>an f (au r 76 [a,e] fun g=>aY g 0 fun h=>aY g 1 fun i=>fI 22 1 h fun g=>fB 22 1 c g fun i=>aN e (ii 1)
  fun c=>uM lf r fu k a b i d c) (k c)
def QT:List Nat:=[0,2,3,9,10]
def CX(lf:Nat)(r:RT):(V->M V):=fun a=>aj [a]
def CY(lf:Nat)(r:RT)(a:V):M V:=aW a fun b=>au r 75 [b] fun c=>uM lf r lf (CX lf r) a nS nS c (ii 0)
theorem QU{lf:Nat}{r:RT}(K:KT):∀fu,uM lf r fu (fun a=>K (.exit 0) (zp [3] [a]))=fun a b c d e=>bK (cQ 99 (pb 6
 11) lf r) QT fu (zp QT [a,b,c,d,e]) K
 |0=>by funext a b c d e;kernel_rfl
 |fu+1=>by
  have ih:=QU (lf:=lf) (r:=r) K fu
  funext a b c d e
  rw[uM]
  simp only[ih]
  kernel_rfl
theorem abH{lf:Nat}{r:RT}:CX lf r=(fun a=>(tK 99 (pb 5 11) lf r) (.exit 0) (zp [3] [a])):=by kernel_rfl
theorem QW{lf:Nat}{r:RT}{a:V}:aE ai gt lf r 99 #[a]=inside (CY lf r a):=by
 unfold CY
 simp only[abH,QU]
 kernel_rfl
def uN(lf:Nat)(r:RT):Nat->(V->V->V->V->V->V->V->V->M V)->V->V->V->V->V->V->V->M V
 |0,_,_,_,_,_,_,_,_=> .fail
 |fu+1,k,a,b,c,d,e,f,g=>aO g f fun h=>an h (aW a fun i=>jP 3 [(ii 0)] i i fun j=>aT e g fun l=>bE l j fun _=>aN g (ii 1) fun i=>
  uN lf r fu k a b c d e f i) (k a b c d e f g h)
def QX:List Nat:=[0,1,4,5,6,18,19]
def sI(lf:Nat)(r:RT):Nat->(V->V->V->V->V->V->V->V->V->V->V->V->V->M V)->V->V->V->V->V->V->V->V->V->V->V->V->V->V->V->V->V->V->M V
 |0,_,_,_,_,_,_,_,_,_,_,_,_,_,_,_,_,_,_,_=> .fail
 |fu+1,k,a,b,c,d,e,f,g,h,i,j,l,m,n,o,p,q,s,t=>aO t s fun u=>an u (dh t i fun v=>an v (aT e t fun w=>av w fun x=>aT x g fun y=>
  bE y (ii 15) fun _=>aN t (ii 1) fun w=>sI lf r fu k a b c d e f g h i j l m n o p q s w) (aN t (ii 1) fun w=>sI lf r fu k a b c d
  e f g h i j l m n o p q s w)) (k a b c d e f h j l m n o p)
def QY:List Nat:=[0,1,4,5,6,8,9,10,11,18,19,20,29,30,31,32,42,43]
def CZ(lf:Nat)(r:RT)(k:(V->M V))(again:V->V->V->V->V->V->V->V->V->V->V->V->M V):(V->V->V->V->V->V->V->V->V->V->V->V->V->M V):=fun a b c d e f g h i j l m n=>aN f
 g fun o=>cH b (ii 1) fun p=>sq o p fun q=>aN n (ii 1) fun f=>again a b c d e q h i j l m f
def sJ(lf:Nat)(r:RT):Nat->(V->M V)->V->V->V->V->V->V->V->V->V->V->V->V->M V
 |0,_,_,_,_,_,_,_,_,_,_,_,_,_=> .fail
 |fu+1,k,a,b,c,d,e,f,g,h,i,j,l,m=>aO m l fun n=>an n (aT j m fun o=>av o fun p=>kU f d fun o=>pH o b fun q=>aW e fun o=>
  sI lf r lf (CZ lf r k (sJ lf r fu k)) a b c d e f m p q g h i j l m n o (ii 0)) (k e)
def yY:List Nat:=[0,1,4,5,6,8,18,19,20,29,30,31]
abbrev QZ(lf:Nat)(r:RT)(fu:Nat)(k:(V->M V)):(V->V->V->V->V->V->V->V->V->V->V->V->V->M V):=CZ lf r k (sJ lf r fu k)
def yZ(lf:Nat)(r:RT):(V->M V):=fun a=>aj [a]
def y0(lf:Nat)(r:RT):(V->V->V->V->V->V->V->V->M V):=fun a b c d e f g h=>aW a fun i=>sJ lf r lf (yZ lf r) a b c d e (ii 0) f g h a i (ii 0)
def C0(lf:Nat)(r:RT)(a b:V):M V:=au r 124 [b] fun c=>jP 22 [nS] c c fun d=>aW d fun e=>uN lf r lf (y0 lf r) a b nS c d e (ii 0)
theorem Q3{lf:Nat}{r:RT}(K:KT):∀fu,uN lf r fu (fun a b c d e f g h=>K (.exit 0) (zp [0,1,4,5,6,18,19,20] [a,b,c,d,
 e,f,g,h]))=fun a b c d e f g=>bK (cQ 100 (pb 7 23) lf r) QX fu (zp QX [a,b,c,d,e,f,g]) K
 |0=>by funext a b c d e f g;kernel_rfl
 |fu+1=>by
  have ih:=Q3 (lf:=lf) (r:=r) K fu
  funext a b c d e f g
  rw[uN]
  simp only[ih]
  kernel_rfl
theorem Q4{lf:Nat}{r:RT}(K:KT):∀fu,sI lf r fu (fun a b c d e f g h i j l m n=>K (.exit 4) (zp [0,1,4,5,6,8,10,18,19,
 20,29,30,31] [a,b,c,d,e,f,g,h,i,j,l,m,n]))=fun a b c d e f g h i j l m n o p q s t=>bK (cQ 100 (pb 19 91743) lf r) QY fu (zp
 QY [a,b,c,d,e,f,g,h,i,j,l,m,n,o,p,q,s,t]) K
 |0=>by funext a b c d e f g h i j l m n o p q s t;kernel_rfl
 |fu+1=>by
  have ih:=Q4 (lf:=lf) (r:=r) K fu
  funext a b c d e f g h i j l m n o p q s t
  rw[sI]
  simp only[ih]
  kernel_rfl
theorem abI{lf:Nat}{r:RT}(K:KT)(fu:Nat):CZ lf r (fun a=>K (.exit 2) (zp [6] [a])) (fun a b c d e f g h i j l m=>bK (cQ
 100 (pb 9 95) lf r) yY fu (zp yY [a,b,c,d,e,f,g,h,i,j,l,m]) K)=(fun a b c d e f g h i j l m n=>(iK 100 (pb 9 95) (pb 9 179)
 yY fu K lf r) (.exit 4) (zp [0,1,4,5,6,8,10,18,19,20,29,30,31] [a,b,c,d,e,f,g,h,i,j,l,m,n])):=by kernel_rfl
theorem Iu{lf:Nat}{r:RT}(K:KT):∀fu,sJ lf r fu (fun a=>K (.exit 2) (zp [6] [a]))=fun a b c d e f g h i j l m=>bK (cQ 100
 (pb 9 95) lf r) yY fu (zp yY [a,b,c,d,e,f,g,h,i,j,l,m]) K
 |0=>by funext a b c d e f g h i j l m;kernel_rfl
 |fu+1=>by
  have ih:=Iu (lf:=lf) (r:=r) K fu
  funext a b c d e f g h i j l m
  rw[sJ]
  simp only[ih,abI,Q4]
  kernel_rfl
theorem Q5{lf:Nat}{r:RT}:yZ lf r=(fun a=>(tK 100 (pb 8 95) lf r) (.exit 2) (zp [6] [a])):=by kernel_rfl
theorem abJ{lf:Nat}{r:RT}:y0 lf r=(fun a b c d e f g h=>(tK 100 (pb 6 23) lf r) (.exit 0) (zp [0,1,4,5,6,18,19,20] [a,b,c,d,e,f,g,h])):=by
 unfold y0
 simp only[Q5,Iu]
 kernel_rfl
theorem Q6{lf:Nat}{r:RT}{a b:V}:aE ai gt lf r 100 #[a,b]=inside (C0 lf r a b):=by
 unfold C0
 simp only[abJ,Q5,Q3,Iu]
 kernel_rfl
def uO(lf:Nat)(r:RT):Nat->(V->V->V->V->V->V->V->V->V->V->M V)->V->V->V->V->V->V->V->V->V->M V
 |0,_,_,_,_,_,_,_,_,_,_=> .fail
 |fu+1,k,a,b,c,d,e,f,g,h,i=>aO i h fun j=>an j (jP 3 [(ii 0)] c c fun l=>aT g i fun m=>bE m l fun _=>aN i (ii 1) fun l=>uO
  lf r fu k a b c d e f g h l) (k a b c d e f g h i j)
def Q7:List Nat:=[0,1,2,6,7,8,9,27,28]
def uP(lf:Nat)(r:RT):Nat->(V->V->V->V->V->V->V->V->V->V->V->V->V->V->M V)->V->V->V->V->V->V->V->V->V->V->V->V->V->M V
 |0,_,_,_,_,_,_,_,_,_,_,_,_,_,_=> .fail
 |fu+1,k,a,b,c,d,e,f,g,h,i,j,l,m,n=>aO n m fun o=>an o (aT l n fun p=>av p fun q=>au r 125 [q,b] fun p=>fI 3 1 p fun s=>fB 3 1 f s
  fun t=>au r 98 [q,c] fun f=>aY f 0 fun s=>aY f 1 fun u=>aT g p fun f=>av f fun u=>au r 126 [u,s] fun v=>aY v 0 fun w=>aY v 1 fun x=>aT g
  p fun f=>bE f w fun _=>aN n (ii 1) fun f=>uP lf r fu k a b c d e t g h i j l m f) (k a b c d e f g h i j l m n o)
def Q8:List Nat:=[0,1,2,6,7,8,9,27,28,29,37,38,39]
def uQ(lf:Nat)(r:RT):Nat->(V->V->M V)->V->V->V->V->V->V->V->V->V->V->V->V->V->V->V->V->V->V->M V
 |0,_,_,_,_,_,_,_,_,_,_,_,_,_,_,_,_,_,_,_=> .fail
 |fu+1,k,a,b,c,d,e,f,g,h,i,j,l,m,n,o,p,q,s,t=>aO t s fun u=>an u (aT q t fun v=>av v fun w=>au r 127 [w] fun v=>aY v 0 fun x=>
  aY v 1 fun y=>fI 22 1 x fun v=>fB 22 1 h v fun y=>aN t (ii 1) fun h=>uQ lf r fu k a b c d e f g y i j l m n o p q s h) (k f h)
def Q9:List Nat:=[0,1,2,6,7,8,9,18,27,28,29,37,38,39,40,70,71,72]
def C1(lf:Nat)(r:RT):(V->V->M V):=fun a b=>aj [a,b]
def y4(lf:Nat)(r:RT):(V->V->V->V->V->V->V->V->V->V->V->V->V->V->M V):=fun a b c d e f g h i j l m n o=>aW g fun p=>uQ lf r lf
 (C1 lf r) a b c d e f g nS h i j l m n o g p (ii 0)
def y5(lf:Nat)(r:RT):(V->V->V->V->V->V->V->V->V->V->M V):=fun a b c d e f g h i j=>aW a fun l=>uP lf r lf (y4 lf r) a b c d e f g h i j a l (ii 0)
def C4(lf:Nat)(r:RT)(a b c:V):M V:=aW b fun d=>jP 22 [nS] d d fun e=>aW e fun d=>uO lf r lf (y5 lf r) a b c nS nS nS e d (ii 0)
theorem Ra{lf:Nat}{r:RT}(K:KT):∀fu,uO lf r fu (fun a b c d e f g h i j=>K (.exit 0) (zp [0,1,2,6,7,8,9,27,28,29] [a,
 b,c,d,e,f,g,h,i,j]))=fun a b c d e f g h i=>bK (cQ 101 (pb 7 23) lf r) Q7 fu (zp Q7 [a,b,c,d,e,f,g,h,i]) K
 |0=>by funext a b c d e f g h i;kernel_rfl
 |fu+1=>by
  have ih:=Ra (lf:=lf) (r:=r) K fu
  funext a b c d e f g h i
  rw[uO]
  simp only[ih]
  kernel_rfl
theorem Iv{lf:Nat}{r:RT}(K:KT):∀fu,uP lf r fu (fun a b c d e f g h i j l m n o=>K (.exit 2) (zp [0,1,2,6,7,8,9,27,28,
 29,37,38,39,40] [a,b,c,d,e,f,g,h,i,j,l,m,n,o]))=fun a b c d e f g h i j l m n=>bK (cQ 101 (pb 8 47) lf r) Q8 fu (zp
 Q8 [a,b,c,d,e,f,g,h,i,j,l,m,n]) K
 |0=>by funext a b c d e f g h i j l m n;kernel_rfl
 |fu+1=>by
  have ih:=Iv (lf:=lf) (r:=r) K fu
  funext a b c d e f g h i j l m n
  rw[uP]
  simp only[ih]
  kernel_rfl
theorem Iw{lf:Nat}{r:RT}(K:KT):∀fu,uQ lf r fu (fun a b=>K (.exit 4) (zp [8,18] [a,b]))=fun a b c d e f g h i j l m n o p q
 s t=>bK (cQ 101 (pb 10 191) lf r) Q9 fu (zp Q9 [a,b,c,d,e,f,g,h,i,j,l,m,n,o,p,q,s,t]) K
 |0=>by funext a b c d e f g h i j l m n o p q s t;kernel_rfl
 |fu+1=>by
  have ih:=Iw (lf:=lf) (r:=r) K fu
  funext a b c d e f g h i j l m n o p q s t
  rw[uQ]
  simp only[ih]
  kernel_rfl
theorem Rb{lf:Nat}{r:RT}:C1 lf r=(fun a b=>(tK 101 (pb 9 191) lf r) (.exit 4) (zp [8,18] [a,b])):=by kernel_rfl
theorem Rc{lf:Nat}{r:RT}:y4 lf r=(fun a b c d e f g h i j l m n o=>(tK 101 (pb 7 47) lf r) (.exit 2) (zp [0,1,2,6,7,8,9,
 27,28,29,37,38,39,40] [a,b,c,d,e,f,g,h,i,j,l,m,n,o])):=by
 unfold y4
 simp only[Rb,Iw]
 kernel_rfl
theorem abK{lf:Nat}{r:RT}:y5 lf r=(fun a b c d e f g h i j=>(tK 101 (pb 6 23) lf r) (.exit 0) (zp [0,1,2,6,7,8,9,27,28,29] [a,b,c,d,e,f,g,h,i,j])):=by
 unfold y5
 simp only[Rc,Iv]
 kernel_rfl
theorem Rd{lf:Nat}{r:RT}{a b c:V}:aE ai gt lf r 101 #[a,b,c]=inside (C4 lf r a b c):=by
 unfold C4
 simp only[abK,Rc,Rb,Ra,Iv,Iw]
 kernel_rfl
def Ix(lf:Nat)(r:RT)(a:V):M V:=ig a (ii 2) fun b=>an b (ko a (ii 6) fun c=>aj [c]) (aj [bF])
theorem Re{lf:Nat}{r:RT}{a:V}:aE ai gt lf r 102 #[a]=inside (Ix lf r a):=by kernel_rfl
def y6(lf:Nat)(r:RT)(a b:V):M V:=au r 128 [a,b] fun c=>ig c (ii 0) fun d=>aj [d]
theorem C5{lf:Nat}{r:RT}{a b:V}:aE ai gt lf r 103 #[a,b]=inside (y6 lf r a b):=by kernel_rfl
def Iy(lf:Nat)(r:RT)(a b:V):M V:=aO a (ii 0) fun c=>an c (aj [bT]) (av b fun d=>ig a d fun e=>aj [e])
theorem Rf{lf:Nat}{r:RT}{a b:V}:aE ai gt lf r 104 #[a,b]=inside (Iy lf r a b):=by kernel_rfl
def uR(lf:Nat)(r:RT):Nat->(V->V->M V)->V->V->V->V->M V
 |0,_,_,_,_,_=> .fail
 |fu+1,k,a,b,c,d=>az a fun e=>jO 6 e d fun f=>av f fun g=>dh g b fun h=>an h (aN d (ii 1) fun e=>uR lf r fu k a b c e) (k a d)
def Rg:List Nat:=[0,1,4,5]
def C6(lf:Nat)(r:RT):(V->V->M V):=fun a b=>au r 129 [a,b] fun c=>aj [b]
def C7(lf:Nat)(r:RT)(a b:V):M V:=uR lf r lf (C6 lf r) a b (ii 0) (ii 0)
theorem Rh{lf:Nat}{r:RT}(K:KT):∀fu,uR lf r fu (fun a b=>K (.exit 0) (zp [0,5] [a,b]))=fun a b c d=>bK (cQ 105
 (pb 5 3) lf r) Rg fu (zp Rg [a,b,c,d]) K
 |0=>by funext a b c d;kernel_rfl
 |fu+1=>by
  have ih:=Rh (lf:=lf) (r:=r) K fu
  funext a b c d
  rw[uR]
  simp only[ih]
  kernel_rfl
theorem abL{lf:Nat}{r:RT}:C6 lf r=(fun a b=>(tK 105 (pb 4 3) lf r) (.exit 0) (zp [0,5] [a,b])):=by kernel_rfl
theorem Ri{lf:Nat}{r:RT}{a b:V}:aE ai gt lf r 105 #[a,b]=inside (C7 lf r a b):=by
 unfold C7
 simp only[abL,Rh]
 kernel_rfl
def Iz(lf:Nat)(r:RT)(a:V):M V:=au r 107 [a] fun b=>et b fun c=>aj [c]
theorem Rj{lf:Nat}{r:RT}{a:V}:aE ai gt lf r 106 #[a]=inside (Iz lf r a):=by kernel_rfl
def C8(lf:Nat)(r:RT)(a:V):M V:=ig a (ii 1) fun b=>an b (ko a (ii 20) fun c=>aj [c]) (aj [bF])
theorem IA{lf:Nat}{r:RT}{a:V}:aE ai gt lf r 107 #[a]=inside (C8 lf r a):=by kernel_rfl
def uS(lf:Nat)(r:RT):Nat->(V->M V)->V->V->V->V->V->V->V->V->M V
 |0,_,_,_,_,_,_,_,_,_=> .fail
 |fu+1,k,a,b,c,d,e,f,g,h=>aO h g fun i=>an i (aT f h fun j=>av j fun l=>cH (ii 20) l fun j=>se (ii 1) j fun m=>aN d m fun n=>aN h (ii
  1) fun d=>uS lf r fu k a b c n e f g d) (k d)
def Rk:List Nat:=[0,2,3,4,14,15,16,17]
def C9(lf:Nat)(r:RT):(V->M V):=fun a=>aj [a,(ii 0)]
def Da(lf:Nat)(r:RT)(a:V):M V:=aW a fun b=>gF b (ii 258) fun c=>an c (aj [(ii 0),(ii 1)]) (au r 130 [a,(ii 0),(ii 20)] fun d=>et d
 fun e=>an e (aj [(ii 0),(ii 1)]) (aW a fun b=>uS lf r lf (C9 lf r) a (ii 0) (ii 0) (ii 0) e a b (ii 0)))
theorem Rl{lf:Nat}{r:RT}(K:KT):∀fu,uS lf r fu (fun a=>K (.exit 0) (zp [4] [a]))=fun a b c d e f g h=>bK (cQ 108 (pb 7 23)
 lf r) Rk fu (zp Rk [a,b,c,d,e,f,g,h]) K
 |0=>by funext a b c d e f g h;kernel_rfl
 |fu+1=>by
  have ih:=Rl (lf:=lf) (r:=r) K fu
  funext a b c d e f g h
  rw[uS]
  simp only[ih]
  kernel_rfl
theorem abM{lf:Nat}{r:RT}:C9 lf r=(fun a=>(tK 108 (pb 6 23) lf r) (.exit 0) (zp [4] [a])):=by kernel_rfl
theorem Rm{lf:Nat}{r:RT}{a:V}:aE ai gt lf r 108 #[a]=inside (Da lf r a):=by
 unfold Da
 simp only[abM,Rl]
 kernel_rfl
def IB(lf:Nat)(r:RT)(a b:V):M V:=au r 64 [a,b] fun c=>ig c (ii 0) fun d=>aj [d]
theorem Rn{lf:Nat}{r:RT}{a b:V}:aE ai gt lf r 109 #[a,b]=inside (IB lf r a b):=by kernel_rfl
def IC(lf:Nat)(r:RT)(a b c:V):M V:=kU b c fun d=>aW a fun e=>aN b (ii 1) fun f=>kU f c fun g=>sq e g fun h=>qK 3 1 a (some d)
 (some h) fun i=>au r 72 [i] fun j=>aj [j]
theorem Ro{lf:Nat}{r:RT}{a b c:V}:aE ai gt lf r 110 #[a,b,c]=inside (IC lf r a b c):=by kernel_rfl
def ID(lf:Nat)(r:RT)(a:V):M V:=au r 103 [a,(o4 (.func 131) #[] #[])] fun b=>et b fun c=>aj [c]
theorem Rp{lf:Nat}{r:RT}{a:V}:aE ai gt lf r 111 #[a]=inside (ID lf r a):=by kernel_rfl
def IE(lf:Nat)(r:RT)(a b:V):M V:=aN a b fun c=>sq c (ii 1099511627776) fun d=>aj [d]
theorem Rq{lf:Nat}{r:RT}{a b:V}:aE ai gt lf r 112 #[a,b]=inside (IE lf r a b):=by kernel_rfl
def wV(lf:Nat)(r:RT):Nat->((M V)×(V->V->M V))->V->V->V->V->V->V->M V
 |0,_,_,_,_,_,_,_=> .fail
 |fu+1,k,a,b,c,d,e,f=>ko f (ii 20) fun g=>an g (au r 136 [b,(ii 1)] fun h=>aY h 0 fun i=>aY h 1 fun j=>dh j (ii 0) fun h=>an h (k.2 (ii 0)
  j) (kU (ii 2) e fun l=>gG .i64 i fun m=>aN l m fun n=>az a fun e=>ay 24 e fun l=>jO 22 l f fun m=>av m fun o=>aN o n fun p=>az a fun q=>ay
  3 q fun s=>jO 21 s f fun t=>av t fun u=>cH p u fun v=>aN f (ii 1) fun e=>az a fun l=>ay 24 l fun m=>jO 22 m e fun o=>av o fun p=>aO v p fun
  q=>an q (az a fun e=>ay 2 e fun l=>av l fun m=>aT m v fun o=>av o fun p=>k.2 p (ii 0)) (aN f (ii 1) fun e=>wV lf r fu k a b c d n e))) (k.1)
def Rr:List Nat:=[0,1,4,5,6,7]
def y7(lf:Nat)(r:RT):(M V)×(V->V->M V):=(aj [(ii 0),(ii 22)],fun a b=>aj [a,b])
def Db(lf:Nat)(r:RT)(a b:V):M V:=wV lf r lf (y7 lf r) a b (ii 0) (ii 0) (ii 0) (ii 1)
theorem Rt{lf:Nat}{r:RT}(K:KT):∀fu,wV lf r fu ((K (.exit 0) [],fun a b=>K .ret (zp [4,5] [a,b])))=fun a b c d e f=>
 bK (cQ 120 (pb 6 11) lf r) Rr fu (zp Rr [a,b,c,d,e,f]) K
 |0=>by funext a b c d e f;kernel_rfl
 |fu+1=>by
  have ih:=Rt (lf:=lf) (r:=r) K fu
  funext a b c d e f
  rw[wV]
  simp only[ih]
  kernel_rfl
theorem abN{lf:Nat}{r:RT}:y7 lf r=(((tK 120 (pb 5 11) lf r) (.exit 0) [],fun a b=>(tK 120 (pb 5 11) lf r) .ret (zp [4,5] [a,b]))):=by kernel_rfl
theorem Ru{lf:Nat}{r:RT}{a b:V}:aE ai gt lf r 120 #[a,b]=inside (Db lf r a b):=by
 unfold Db
 simp only[abN,Rt]
 kernel_rfl
def uT(lf:Nat)(r:RT):Nat->((V->M V)×(V->M V))->V->V->V->V->V->M V
 |0,_,_,_,_,_,_=> .fail
 |fu+1,k,a,b,c,d,e=>aO e d fun f=>an f (au r 136 [b,(ii 1)] fun g=>aY g 0 fun h=>aY g 1 fun i=>dh i (ii 0) fun g=>an g (k.2 i) (dg h (i3
  0) fun j=>an j (az a fun l=>ay 8 l fun m=>(cz (av m M.ret)).bind fun n=>az a fun o=>ay 2 o fun p=>(cz (au r 129 [p,e] M.ret)).bind fun q=>
  (cz (fI 3 1 q.1 M.ret)).bind fun s=>(cz (fB 3 1 n.1 s.1 M.ret)).bind fun t=>az a fun u=>ay 8 u fun v=>(cz (bE v t.1 M.ret)).bind fun w=>sw
  ((!(mv n.2 q.2)&&true)&&true) (k.2 (ii 0))) (aN e (ii 1) fun l=>uT lf r fu k a b c d l))) (k.1 a)
def Rv:List Nat:=[0,1,4,11,12]
def wW(lf:Nat)(r:RT):(V->M V)×(V->M V):=(fun a=>au r 137 [a] fun b=>aj [b],fun a=>aj [a])
def Dc(lf:Nat)(r:RT)(a b:V):M V:=az a fun c=>ay 0 c fun d=>av d fun e=>uT lf r lf (wW lf r) a b (ii 0) e (ii 0)
theorem Rw{lf:Nat}{r:RT}(K:KT):∀fu,uT lf r fu ((fun a=>K (.exit 0) (zp [0] [a]),fun a=>K .ret (zp [4] [a])))=
 fun a b c d e=>bK (cQ 121 (pb 5 5) lf r) Rv fu (zp Rv [a,b,c,d,e]) K
 |0=>by funext a b c d e;kernel_rfl
 |fu+1=>by
  have ih:=Rw (lf:=lf) (r:=r) K fu
  funext a b c d e
  rw[uT]
  simp only[ih]
  kernel_rfl
theorem abO{lf:Nat}{r:RT}:wW lf r=((fun a=>(tK 121 (pb 4 5) lf r) (.exit 0) (zp [0] [a]),fun a=>(tK 121 (pb 4 5) lf r) .ret (zp [4] [a]))):=by kernel_rfl
theorem Rx{lf:Nat}{r:RT}{a b:V}:aE ai gt lf r 121 #[a,b]=inside (Dc lf r a b):=by
 unfold Dc
 simp only[abO,Rw]
 kernel_rfl
def IF(lf:Nat)(r:RT)(a b:V):M V:=au r 136 [b,(ii 18)] fun c=>aY c 0 fun d=>aY c 1 fun e=>dh e (ii 0) fun c=>an c (aj [e])
 (ny d (i6 15) fun f=>gG .i64 f fun g=>yB d (i3 32767) fun h=>gG .i64 h fun i=>au r 102 [g] fun f=>et f fun h=>an h (au r 137 [a] fun f=>aj [f])
 (dg i (ii 0) fun j=>an j (au r 137 [a] fun f=>aj [f]) (az a fun f=>ay 0 f fun h=>bE h g fun _=>az a fun f=>ay 1 f fun h=>bE h i fun _=>aj [(ii 0)])))
theorem Ry{lf:Nat}{r:RT}{a b:V}:aE ai gt lf r 122 #[a,b]=inside (IF lf r a b):=by kernel_rfl
def IG(lf:Nat)(r:RT)(a b:V):M V:=az a fun c=>ay 1 c fun d=>av d fun e=>dg e (ii 0) fun f=>an f (au r 136 [b,(ii 5)] fun c=>
 aY c 0 fun d=>aY c 1 fun e=>dh e (ii 0) fun c=>an c (aj [e]) (gG .i64 d fun g=>au r 138 [a,g] fun h=>aj [h])) (au r 136 [b,(ii 1)] fun c=>aY
 c 0 fun d=>aY c 1 fun e=>dh e (ii 0) fun c=>an c (aj [e]) (dg d (i3 0) fun g=>an g (az a fun h=>ay 2 h fun i=>av i fun j=>az a fun l=>ay 1
 l fun m=>av m fun n=>fI 3 1 n fun o=>fB 3 1 j o fun p=>az a fun q=>ay 2 q fun s=>bE s p fun _=>aj [(ii 0)]) (au r 136 [b,(ii 1)] fun h=>aY h
 0 fun i=>aY h 1 fun j=>dh j (ii 0) fun d=>an d (aj [j]) (az a fun e=>ay 1 e fun h=>av h fun l=>aN l (ii 1) fun m=>gG .i64 i fun n=>kU (ii 2)
 n fun o=>cH m o fun p=>au r 138 [a,p] fun q=>aj [q]))))
theorem Rz{lf:Nat}{r:RT}{a b:V}:aE ai gt lf r 123 #[a,b]=inside (IG lf r a b):=by kernel_rfl
def eS(lf:Nat)(r:RT):Nat->(V->M V)->V->V->V->V->V->M V
 |0,_,_,_,_,_,_=> .fail
 |fu+1,k,a,b,c,d,e=>aO e (ii 4) fun f=>an f (yE 4 d e fun g=>ig a g fun h=>an h (aN c (ii 1) fun i=>aN e (ii 1) fun c=>eS lf
  r fu k a b i d c) (aN e (ii 1) fun i=>eS lf r fu k a b c d i)) (k c)
def RA:List Nat:=[0,2,3,6,7]
def sK(lf:Nat)(r:RT):(V->M V):=fun a=>aj [a]
def Dd(lf:Nat)(r:RT)(a:V):M V:=jb 4 (Value.pointer (some ⟨0,0,none⟩)) fun b=>eS lf r lf (sK lf r) a (ii 0) (ii 2) b (ii 0)
theorem RC{lf:Nat}{r:RT}(K:KT):∀fu,eS lf r fu (fun a=>K (.exit 0) (zp [3] [a]))=fun a b c d e=>bK (cQ 124 (pb 6 11)
 lf r) RA fu (zp RA [a,b,c,d,e]) K
 |0=>by funext a b c d e;kernel_rfl
 |fu+1=>by
  have ih:=RC (lf:=lf) (r:=r) K fu
  funext a b c d e
  rw[eS]
  simp only[ih]
  kernel_rfl
theorem abP{lf:Nat}{r:RT}:sK lf r=(fun a=>(tK 124 (pb 5 11) lf r) (.exit 0) (zp [3] [a])):=by kernel_rfl
theorem RD{lf:Nat}{r:RT}{a:V}:aE ai gt lf r 124 #[a]=inside (Dd lf r a):=by
 unfold Dd
 simp only[abP,RC]
 kernel_rfl
def sL(lf:Nat)(r:RT):Nat->(V->M V)->V->V->V->V->V->V->V->V->M V
 |0,_,_,_,_,_,_,_,_,_=> .fail
 |fu+1,k,a,b,c,d,e,f,g,h=>aO h g fun i=>an i (aT f h fun j=>av j fun l=>au r 77 [a,l] fun j=>aY j 0 fun m=>aY j 1 fun n=>aO m e fun j
  =>an j (aN h (ii 1) fun d=>sL lf r fu k a b c h m f g d) (aN h (ii 1) fun n=>sL lf r fu k a b c d e f g n)) (k d)
def RE:List Nat:=[0,1,4,5,6,11,12,13]
def De(lf:Nat)(r:RT):(V->M V):=fun a=>aj [a]
def Df(lf:Nat)(r:RT)(a b:V):M V:=aW b fun c=>sL lf r lf (De lf r) a b (ii 0) (ii 0) (ii 1099511627776) b c (ii 0)
theorem RF{lf:Nat}{r:RT}(K:KT):∀fu,sL lf r fu (fun a=>K (.exit 0) (zp [5] [a]))=fun a b c d e f g h=>bK (cQ 125 (pb 6 11)
 lf r) RE fu (zp RE [a,b,c,d,e,f,g,h]) K
 |0=>by funext a b c d e f g h;kernel_rfl
 |fu+1=>by
  have ih:=RF (lf:=lf) (r:=r) K fu
  funext a b c d e f g h
  rw[sL]
  simp only[ih]
  kernel_rfl
theorem abQ{lf:Nat}{r:RT}:De lf r=(fun a=>(tK 125 (pb 5 11) lf r) (.exit 0) (zp [5] [a])):=by kernel_rfl
theorem RG{lf:Nat}{r:RT}{a b:V}:aE ai gt lf r 125 #[a,b]=inside (Df lf r a b):=by
 unfold Df
 simp only[abQ,RF]
 kernel_rfl
def uU(lf:Nat)(r:RT):Nat->(V->M V)->V->V->V->V->V->V->V->V->M V
 |0,_,_,_,_,_,_,_,_,_=> .fail
 |fu+1,k,a,b,c,d,e,f,g,h=>aO h g fun i=>an i (aT a h fun j=>av j fun l=>aT b h fun m=>av m fun n=>au r 112 [l,n] fun o=>aT e h fun p
  =>bE p o fun _=>aN h (ii 1) fun j=>uU lf r fu k a b c d e f g j) (k e)
def RH:List Nat:=[0,1,4,5,6,22,27,28]
def Dg(lf:Nat)(r:RT):(V->M V):=fun a=>aj [a,(ii 0)]
def Dh(lf:Nat)(r:RT)(a b:V):M V:=aW a fun c=>aW b fun d=>dh c d fun e=>an e (aj [nS,(ii 1)]) (au r 111 [a] fun f=>et f fun g=>an
 g (aj [nS,(ii 1)]) (au r 111 [b] fun h=>et h fun i=>an i (aj [nS,(ii 1)]) (aW a fun c=>jP 3 [(ii 0)] c c fun d=>aW d fun c=>uU lf r lf
 (Dg lf r) a b nS (ii 0) d i c (ii 0))))
theorem RJ{lf:Nat}{r:RT}(K:KT):∀fu,uU lf r fu (fun a=>K (.exit 0) (zp [6] [a]))=fun a b c d e f g h=>bK (cQ 126 (pb 7 23) lf r)
 RH fu (zp RH [a,b,c,d,e,f,g,h]) K
 |0=>by funext a b c d e f g h;kernel_rfl
 |fu+1=>by
  have ih:=RJ (lf:=lf) (r:=r) K fu
  funext a b c d e f g h
  rw[uU]
  simp only[ih]
  kernel_rfl
theorem abR{lf:Nat}{r:RT}:Dg lf r=(fun a=>(tK 126 (pb 6 23) lf r) (.exit 0) (zp [6] [a])):=by kernel_rfl
theorem RK{lf:Nat}{r:RT}{a b:V}:aE ai gt lf r 126 #[a,b]=inside (Dh lf r a b):=by
 unfold Dh
 simp only[abR,RJ]
 kernel_rfl
def uV(lf:Nat)(r:RT):Nat->(V->V->V->V->V->V->V->V->V->M V)->V->V->V->V->V->V->V->V->M V
 |0,_,_,_,_,_,_,_,_,_=> .fail
 |fu+1,k,a,b,c,d,e,f,g,h=>aO h g fun i=>an i (aT f h fun j=>av j fun l=>uf l (ii 1) fun j=>aT d h fun m=>bE m j fun _=>aN h (ii 1) fun
  j=>uV lf r fu k a b c d e f g j) (k a b c d e f g h i)
def RL:List Nat:=[0,2,3,4,20,24,25,26]
def uW(lf:Nat)(r:RT):Nat->(V->V->M V)->V->V->V->V->V->V->V->V->V->M V
 |0,_,_,_,_,_,_,_,_,_,_=> .fail
 |fu+1,k,a,b,c,d,e,f,g,h,i=>au r 139 [d] fun j=>au r 140 [j] fun l=>ko l (ii 20) fun m=>an m (au r 72 [j] fun l=>k l (ii 0)) (au r 141 [d]
  fun l=>uW lf r fu k a b c l e f g h i)
def RM:List Nat:=[0,2,3,4,20,24,25,26,27]
def y8(lf:Nat)(r:RT):(V->V->M V):=fun a b=>aj [a,b]
def Di(lf:Nat)(r:RT):(V->V->V->V->V->V->V->V->V->M V):=fun a b c d e f g h i=>uW lf r lf (y8 lf r) a b c d e f g h i
def Dj(lf:Nat)(r:RT)(a:V):M V:=aW a fun b=>aO b (ii 3) fun c=>an c (aj [nS,(ii 1)]) (aW a fun d=>gF d (ii 258) fun e=>an e (aj
 [nS,(ii 1)]) (au r 130 [a,(ii 0),(ii 1099511627776)] fun f=>et f fun g=>an g (aj [nS,(ii 1)]) (aW a fun b=>jP 3 [(ii 0)] b b fun c=>aW a fun b=>
 uV lf r lf (Di lf r) a nS (ii 0) c g a b (ii 0))))
theorem RN{lf:Nat}{r:RT}(K:KT):∀fu,uV lf r fu (fun a b c d e f g h i=>K (.exit 0) (zp [0,2,3,4,20,24,25,26,27] [a,b,c,d,e,
 f,g,h,i]))=fun a b c d e f g h=>bK (cQ 127 (pb 7 23) lf r) RL fu (zp RL [a,b,c,d,e,f,g,h]) K
 |0=>by funext a b c d e f g h;kernel_rfl
 |fu+1=>by
  have ih:=RN (lf:=lf) (r:=r) K fu
  funext a b c d e f g h
  rw[uV]
  simp only[ih]
  kernel_rfl
theorem IH{lf:Nat}{r:RT}(K:KT):∀fu,uW lf r fu (fun a b=>K .ret (zp [2,3] [a,b]))=fun a b c d e f g h i=>bK (cQ 127 (pb 6 15) lf
 r) RM fu (zp RM [a,b,c,d,e,f,g,h,i]) K
 |0=>by funext a b c d e f g h i;kernel_rfl
 |fu+1=>by
  have ih:=IH (lf:=lf) (r:=r) K fu
  funext a b c d e f g h i
  rw[uW]
  simp only[ih]
  kernel_rfl
theorem RP{lf:Nat}{r:RT}:y8 lf r=(fun a b=>(tK 127 (pb 5 15) lf r) .ret (zp [2,3] [a,b])):=by kernel_rfl
theorem abS{lf:Nat}{r:RT}:Di lf r=(fun a b c d e f g h i=>(tK 127 (pb 6 23) lf r) (.exit 0) (zp [0,2,3,4,20,24,25,26,27] [a,b,c,d,e,f,g,h,i])):=by
 unfold Di
 simp only[RP,IH]
 kernel_rfl
theorem RQ{lf:Nat}{r:RT}{a:V}:aE ai gt lf r 127 #[a]=inside (Dj lf r a):=by
 unfold Dj
 simp only[abS,RP,RN,IH]
 kernel_rfl
def mz(lf:Nat)(r:RT):Nat->((M V)×(V->M V))->V->V->V->V->V->M V
 |0,_,_,_,_,_,_=> .fail
 |fu+1,k,a,b,c,d,e=>aO e d fun f=>an f (aT a e fun g=>av g fun h=>eM ai r b [h] fun i=>an i (k.2 e) (aN e (ii 1) fun g=>
  mz lf r fu k a b c d g)) (k.1)
def RS:List Nat:=[0,1,4,7,8]
def oH(lf:Nat)(r:RT):(M V)×(V->M V):=(aj [(ii (-1))],fun a=>aj [a])
def wX(lf:Nat)(r:RT)(a b:V):M V:=aW a fun c=>mz lf r lf (oH lf r) a b (ii 0) c (ii 0)
theorem RU{lf:Nat}{r:RT}(K:KT):∀fu,mz lf r fu ((K (.exit 0) [],fun a=>K .ret (zp [4] [a])))=fun a b
 c d e=>bK (cQ 128 (pb 5 5) lf r) RS fu (zp RS [a,b,c,d,e]) K
 |0=>by funext a b c d e;kernel_rfl
 |fu+1=>by
  have ih:=RU (lf:=lf) (r:=r) K fu
  funext a b c d e
  rw[mz]
  simp only[ih]
  kernel_rfl
theorem abT{lf:Nat}{r:RT}:oH lf r=(((tK 128 (pb 4 5) lf r) (.exit 0) [],fun a=>(tK 128 (pb 4 5) lf r) .ret (zp [4] [a]))):=by kernel_rfl
theorem Dk{lf:Nat}{r:RT}{a b:V}:aE ai gt lf r 128 #[a,b]=inside (wX lf r a b):=by
 unfold wX
 simp only[abT,RU]
 kernel_rfl
def uX(lf:Nat)(r:RT):Nat->(V->V->M V)->V->V->V->V->V->M V
 |0,_,_,_,_,_,_=> .fail
 |fu+1,k,a,b,c,d,e=>gF e (ii 0) fun f=>an f (cH e (ii 1) fun g=>az a fun h=>jO 6 h g fun i=>av i fun j=>az a fun l=>jO 6 l e fun m=>bE
  m j fun _=>cH e (ii 1) fun g=>uX lf r fu k a b c d g) (k a d)
def RV:List Nat:=[0,1,4,5,6]
def Dl(lf:Nat)(r:RT):(V->V->M V):=fun a b=>az a fun c=>jO 6 c (ii 0) fun d=>bE d b fun _=>aj [b]
def Dm(lf:Nat)(r:RT)(a b:V):M V:=az a fun c=>jO 6 c b fun d=>av d fun e=>uX lf r lf (Dl lf r) a b (ii 0) e b
theorem RW{lf:Nat}{r:RT}(K:KT):∀fu,uX lf r fu (fun a b=>K (.exit 0) (zp [0,5] [a,b]))=fun a b c d e=>bK (cQ
 129 (pb 6 11) lf r) RV fu (zp RV [a,b,c,d,e]) K
 |0=>by funext a b c d e;kernel_rfl
 |fu+1=>by
  have ih:=RW (lf:=lf) (r:=r) K fu
  funext a b c d e
  rw[uX]
  simp only[ih]
  kernel_rfl
theorem abU{lf:Nat}{r:RT}:Dl lf r=(fun a b=>(tK 129 (pb 5 11) lf r) (.exit 0) (zp [0,5] [a,b])):=by kernel_rfl
theorem RX{lf:Nat}{r:RT}{a b:V}:aE ai gt lf r 129 #[a,b]=inside (Dm lf r a b):=by
 unfold Dm
 simp only[abU,RW]
 kernel_rfl
def II(lf:Nat)(r:RT)(a b c:V):M V:=kp 3 b fun d=>kp 3 c fun e=>au r 103 [a,(o4 (ry 142) #[] #[d,e])] fun f=>et f fun g=>aj [g]
theorem RY{lf:Nat}{r:RT}{a b c:V}:aE ai gt lf r 130 #[a,b,c]=inside (II lf r a b c):=by kernel_rfl
def IJ(lf:Nat)(r:RT)(a:V):M V:=au r 132 [a] fun b=>et b fun c=>aj [c]
theorem R0{lf:Nat}{r:RT}{a:V}:aE ai gt lf r 131 #[a]=inside (IJ lf r a):=by kernel_rfl
def IK(lf:Nat)(r:RT)(a:V):M V:=ig a (ii 0) fun b=>an b (ko a (ii 1099511627776) fun c=>aj [c]) (aj [bF])
theorem R1{lf:Nat}{r:RT}{a:V}:aE ai gt lf r 132 #[a]=inside (IK lf r a):=by kernel_rfl
def uY(lf:Nat)(r:RT):Nat->(V->M V)->V->V->V->V->V->V->V->V->V->V->M V
 |0,_,_,_,_,_,_,_,_,_,_,_=> .fail
 |fu+1,k,a,b,c,d,e,f,g,h,i,j=>aO j i fun l=>an l (se e (i6 1) fun m=>az a fun n=>ay 2 n fun o=>av o fun p=>au r 145 [a,p] fun q=>BQ
  m q fun s=>az a fun e=>ay 2 e fun m=>av m fun n=>aN n (ii 1) fun o=>az a fun p=>ay 2 p fun q=>bE q o fun _=>aN j (ii 1) fun e=>
  uY lf r fu k a b c d s f g h i e) (k e)
def R2:List Nat:=[0,1,4,5,6,7,10,17,22,23]
def Dp(lf:Nat)(r:RT):(V->M V):=fun a=>aj [a,(ii 0)]
def Dq(lf:Nat)(r:RT)(a b:V):M V:=fz a nP fun c=>an c (aj [(i3 0),(ii 7)]) (aO b (ii 0) fun d=>an d (aj [(i3 0),(ii 1)]) (gF b
 (ii 32) fun e=>an e (aj [(i3 0),(ii 1)]) (au r 144 [a] fun d=>aO d b fun f=>an f (aj [(i3 0),(ii 3)]) (uY lf r lf (Dp
 lf r) a b (i3 0) (ii 0) (i3 0) c e f b (ii 0)))))
theorem R3{lf:Nat}{r:RT}(K:KT):∀fu,uY lf r fu (fun a=>K (.exit 1) (zp [6] [a]))=fun a b c d e f g h i j=>bK (cQ
 136 (pb 7 23) lf r) R2 fu (zp R2 [a,b,c,d,e,f,g,h,i,j]) K
 |0=>by funext a b c d e f g h i j;kernel_rfl
 |fu+1=>by
  have ih:=R3 (lf:=lf) (r:=r) K fu
  funext a b c d e f g h i j
  rw[uY]
  simp only[ih]
  kernel_rfl
theorem abV{lf:Nat}{r:RT}:Dp lf r=(fun a=>(tK 136 (pb 6 23) lf r) (.exit 1) (zp [6] [a])):=by kernel_rfl
theorem R4{lf:Nat}{r:RT}{a b:V}:aE ai gt lf r 136 #[a,b]=inside (Dq lf r a b):=by
 unfold Dq
 simp only[abV,R3]
 kernel_rfl
def IL(lf:Nat)(r:RT)(a:V):M V:=az a fun b=>ay 9 b fun c=>bE c bT fun _=>aj [(ii 25)]
theorem R5{lf:Nat}{r:RT}{a:V}:aE ai gt lf r 137 #[a]=inside (IL lf r a):=by kernel_rfl
def IM(lf:Nat)(r:RT)(a b:V):M V:=au r 107 [b] fun c=>et c fun d=>an d (az a fun c=>ay 3 c fun e=>bE e bT fun _=>aj [(ii
 22)]) (az a fun c=>ay 1 c fun e=>bE e b fun _=>aj [(ii 0)])
theorem R6{lf:Nat}{r:RT}{a b:V}:aE ai gt lf r 138 #[a,b]=inside (IM lf r a b):=by kernel_rfl
def uZ(lf:Nat)(r:RT):Nat->(V->V->V->V->V->V->M V)->V->V->V->V->V->M V
 |0,_,_,_,_,_,_=> .fail
 |fu+1,k,a,b,c,d,e=>aO e d fun f=>an f (au r 147 [c] fun g=>au r 147 [c] fun h=>au r 148 [c,g,h] fun i=>aN e (ii 1) fun h=>uZ lf r fu k a b c d h) (k a b c d e f)
def R7:List Nat:=[0,2,3,11,12]
def u0(lf:Nat)(r:RT):Nat->(V->V->M V)->V->V->V->V->V->V->V->V->M V
 |0,_,_,_,_,_,_,_,_,_=> .fail
 |fu+1,k,a,b,c,d,e,f,g,h=>ig e (ii 0) fun i=>an i (az c fun j=>ay 1 j fun l=>av l fun m=>aT m e fun n=>av n fun o=>aT d o fun p=>av
  p fun q=>aN q (ii 1) fun s=>aT d e fun t=>bE t s fun _=>cH e (ii 1) fun j=>u0 lf r fu k a b c d j f g h) (k a d)
def R8:List Nat:=[0,2,3,5,6,11,12,13]
def IP(lf:Nat)(r:RT):(V->V->M V):=fun a b=>aW a fun c=>qK 3 1 b none (some c) fun d=>aj [d]
def Dr(lf:Nat)(r:RT):(V->V->V->V->V->V->M V):=fun a b c d e f=>az c fun g=>ay 0 g fun h=>av h fun i=>aW i fun j=>jP 3 [(ii 0)] j j fun l
 =>aW l fun g=>cH g (ii 2) fun h=>u0 lf r lf (IP lf r) a b c l h d e f
def Dt(lf:Nat)(r:RT)(a:V):M V:=au r 146 [a] fun b=>aW a fun c=>cH c (ii 1) fun d=>uZ lf r lf (Dr lf r) a nS b d (ii 0)
theorem R9{lf:Nat}{r:RT}(K:KT):∀fu,uZ lf r fu (fun a b c d e f=>K (.exit 0) (zp [0,2,3,11,12,13] [a,b,c,d,e,f]))=fun
 a b c d e=>bK (cQ 139 (pb 6 11) lf r) R7 fu (zp R7 [a,b,c,d,e]) K
 |0=>by funext a b c d e;kernel_rfl
 |fu+1=>by
  have ih:=R9 (lf:=lf) (r:=r) K fu
  funext a b c d e
  rw[uZ]
  simp only[ih]
  kernel_rfl
theorem IQ{lf:Nat}{r:RT}(K:KT):∀fu,u0 lf r fu (fun a b=>K (.exit 2) (zp [0,5] [a,b]))=fun a b c d e f g h=>bK (cQ 139
 (pb 8 47) lf r) R8 fu (zp R8 [a,b,c,d,e,f,g,h]) K
 |0=>by funext a b c d e f g h;kernel_rfl
 |fu+1=>by
  have ih:=IQ (lf:=lf) (r:=r) K fu
  funext a b c d e f g h
  rw[u0]
  simp only[ih]
  kernel_rfl
theorem R'{lf:Nat}{r:RT}:IP lf r=(fun a b=>(tK 139 (pb 7 47) lf r) (.exit 2) (zp [0,5] [a,b])):=by kernel_rfl
theorem abW{lf:Nat}{r:RT}:Dr lf r=(fun a b c d e f=>(tK 139 (pb 5 11) lf r) (.exit 0) (zp [0,2,3,11,12,13] [a,b,c,d,e,f])):=by
 unfold Dr
 simp only[R',IQ]
 kernel_rfl
theorem Sa{lf:Nat}{r:RT}{a:V}:aE ai gt lf r 139 #[a]=inside (Dt lf r a):=by
 unfold Dt
 simp only[abW,R',R9,IQ]
 kernel_rfl
def u4(lf:Nat)(r:RT):Nat->(V->M V)->V->V->V->V->V->V->M V
 |0,_,_,_,_,_,_,_=> .fail
 |fu+1,k,a,b,c,d,e,f=>aO f e fun g=>an g (aT d f fun h=>av h fun i=>uf c i fun h=>aN f (ii 1) fun c=>u4 lf r fu k a b h d e c) (k c)
def Sb:List Nat:=[0,2,3,6,7,8]
def Du(lf:Nat)(r:RT):(V->M V):=fun a=>aj [a]
def Dv(lf:Nat)(r:RT)(a:V):M V:=aW a fun b=>u4 lf r lf (Du lf r) a (ii 0) (ii 0) a b (ii 0)
theorem Sc{lf:Nat}{r:RT}(K:KT):∀fu,u4 lf r fu (fun a=>K (.exit 0) (zp [3] [a]))=fun a b c d e f=>bK (cQ 140 (pb 6 11)
 lf r) Sb fu (zp Sb [a,b,c,d,e,f]) K
 |0=>by funext a b c d e f;kernel_rfl
 |fu+1=>by
  have ih:=Sc (lf:=lf) (r:=r) K fu
  funext a b c d e f
  rw[u4]
  simp only[ih]
  kernel_rfl
theorem abX{lf:Nat}{r:RT}:Du lf r=(fun a=>(tK 140 (pb 5 11) lf r) (.exit 0) (zp [3] [a])):=by kernel_rfl
theorem Sd{lf:Nat}{r:RT}{a:V}:aE ai gt lf r 140 #[a]=inside (Dv lf r a):=by
 unfold Dv
 simp only[abX,Sc]
 kernel_rfl
def u5(lf:Nat)(r:RT):Nat->(V->M V)->V->V->V->V->V->V->M V
 |0,_,_,_,_,_,_,_=> .fail
 |fu+1,k,a,b,c,d,e,f=>aO f e fun g=>an g (aT d f fun h=>av h fun i=>uf i (ii 0) fun h=>pH h (ii 2) fun j=>aN j (ii 1) fun l=>aT c f fun
  m=>bE m l fun _=>aN f (ii 1) fun h=>u5 lf r fu k a b c d e h) (k c)
def Se:List Nat:=[0,2,3,9,10,11]
def Dw(lf:Nat)(r:RT):(V->M V):=fun a=>aj [a]
def Dx(lf:Nat)(r:RT)(a:V):M V:=aW a fun b=>jP 3 [(ii 0)] b b fun c=>aW a fun b=>u5 lf r lf (Dw lf r) a nS c a b (ii 0)
theorem Sf{lf:Nat}{r:RT}(K:KT):∀fu,u5 lf r fu (fun a=>K (.exit 0) (zp [3] [a]))=fun a b c d e f=>bK (cQ 141 (pb 6 11) lf
 r) Se fu (zp Se [a,b,c,d,e,f]) K
 |0=>by funext a b c d e f;kernel_rfl
 |fu+1=>by
  have ih:=Sf (lf:=lf) (r:=r) K fu
  funext a b c d e f
  rw[u5]
  simp only[ih]
  kernel_rfl
theorem abY{lf:Nat}{r:RT}:Dw lf r=(fun a=>(tK 141 (pb 5 11) lf r) (.exit 0) (zp [3] [a])):=by kernel_rfl
theorem Sg{lf:Nat}{r:RT}{a:V}:aE ai gt lf r 141 #[a]=inside (Dx lf r a):=by
 unfold Dx
 simp only[abY,Sf]
 kernel_rfl
def IU(lf:Nat)(r:RT)(a b c:V):M V:=av b fun d=>aO a d fun e=>an e (aj [bT]) (av c fun f=>gF a f fun g=>aj [g])
theorem Sh{lf:Nat}{r:RT}{a b c:V}:aE ai gt lf r 142 #[a,b,c]=inside (IU lf r a b c):=by kernel_rfl
def IV(lf:Nat)(r:RT)(a:V):M V:=fz a nP fun b=>an b (aj [(ii 0)]) ((cz (au r 51 [a] M.ret)).bind fun c=>az a fun d=>ay 2 d
 fun e=>(cz (av e M.ret)).bind fun f=>cH c.1 f.1 fun g=>sw ((!(mv c.2 f.2)&&true)&&true) (aj [g]))
theorem Si{lf:Nat}{r:RT}{a:V}:aE ai gt lf r 144 #[a]=inside (IV lf r a):=by kernel_rfl
def IW(lf:Nat)(r:RT)(a b:V):M V:=az a fun c=>ay 0 c fun d=>av d fun e=>pH b (ii 8) fun f=>az a fun g=>ay 1 g fun h=>av h
 fun i=>cH f i fun j=>yD e j fun l=>ud b (ii 8) fun c=>cH (ii 7) c fun d=>ny l d fun e=>yB e (i1 1) fun f=>gG .u32 f fun g=>aj [g]
theorem Sj{lf:Nat}{r:RT}{a b:V}:aE ai gt lf r 145 #[a,b]=inside (IW lf r a b):=by kernel_rfl
def u6(lf:Nat)(r:RT):Nat->(V->V->M V)->V->V->V->V->V->V->M V
 |0,_,_,_,_,_,_,_=> .fail
 |fu+1,k,a,b,c,d,e,f=>aO f e fun g=>an g (az d fun h=>ay 2 h fun i=>av i fun j=>fI 3 1 f fun l=>fB 3 1 j l fun m=>az d fun n=>ay 2 n
  fun o=>bE o m fun _=>az d fun h=>ay 1 h fun i=>av i fun j=>fI 3 1 (ii (-1)) fun l=>fB 3 1 j l fun m=>az d fun n=>ay 1 n fun o=>bE o m fun _
  =>aN f (ii 1) fun h=>u6 lf r fu k a b c d e h) (k b d)
def Sk:List Nat:=[0,1,2,3,12,13]
def IX(lf:Nat)(r:RT):(V->V->M V):=fun a b=>az b fun c=>ay 2 c fun d=>av d fun e=>au r 149 [e,(o4 (ry 150) #[] #[a])] fun f=>aj [b]
def Dy(lf:Nat)(r:RT)(a:V):M V:=kp 22 a fun b=>(cz (av b M.ret)).bind fun c=>(cz (au r 72 [c.1] M.ret)).bind fun d=>(cz (av b
 M.ret)).bind fun e=>aW e.1 fun f=>jc OY [(0,1,d.1),(3,1,f)] fun g=>(cz (kp 164 g M.ret)).bind fun h=>sw ((!(mv d.2 e.2)&&true)&&true)
 (av b fun c=>aW c fun d=>u6 lf r lf (IX lf r) a b nP h.1 d (ii 0))
theorem Sl{lf:Nat}{r:RT}(K:KT):∀fu,u6 lf r fu (fun a b=>K (.exit 0) (zp [1,3] [a,b]))=fun a b c d e f=>bK (cQ 146 (pb
 6 11) lf r) Sk fu (zp Sk [a,b,c,d,e,f]) K
 |0=>by funext a b c d e f;kernel_rfl
 |fu+1=>by
  have ih:=Sl (lf:=lf) (r:=r) K fu
  funext a b c d e f
  rw[u6]
  simp only[ih]
  kernel_rfl
theorem abZ{lf:Nat}{r:RT}:IX lf r=(fun a b=>(tK 146 (pb 5 11) lf r) (.exit 0) (zp [1,3] [a,b])):=by kernel_rfl
theorem Sm{lf:Nat}{r:RT}{a:V}:aE ai gt lf r 146 #[a]=inside (Dy lf r a):=by
 unfold Dy
 simp only[abZ,Sl]
 kernel_rfl
def IY(lf:Nat)(r:RT)(a:V):M V:=az a fun b=>ay 3 b fun c=>av c fun d=>az a fun e=>ay 0 e fun f=>av f fun g=>aW g fun h=>
 dg d h fun i=>an i (az a fun b=>ay 2 b fun c=>av c fun d=>aT d (ii 0) fun e=>av e fun f=>az a fun b=>ay 2 b fun c=>av c fun d=>qK 3 1 d
 (some (ii 1)) none fun e=>az a fun g=>ay 2 g fun h=>bE h e fun _=>aj [f]) (az a fun j=>ay 2 j fun l=>av l fun m=>aW m fun n=>gF n (ii 0) fun
 o=>an o (az a fun p=>ay 0 p fun q=>av q fun s=>az a fun t=>ay 2 t fun u=>av u fun v=>aT v (ii 0) fun w=>av w fun x=>aT s x fun y=>av y
 fun z=>az a fun A=>ay 0 A fun B=>av B fun C=>az a fun D=>ay 3 D fun E=>av E fun G=>aT C G fun J=>av J fun L=>ko z L fun N=>an N (az a
 fun b=>ay 2 b fun c=>av c fun d=>aT d (ii 0) fun e=>av e fun f=>az a fun b=>ay 2 b fun c=>av c fun d=>qK 3 1 d (some (ii 1)) none fun e=>az
 a fun g=>ay 2 g fun h=>bE h e fun _=>aj [f]) (az a fun b=>ay 3 b fun c=>av c fun d=>aN d (ii 1) fun e=>az a fun f=>ay 3 f fun g=>bE g e
 fun _=>az a fun b=>ay 3 b fun c=>av c fun d=>cH d (ii 1) fun e=>aj [e])) (az a fun b=>ay 3 b fun c=>av c fun d=>aN d (ii 1) fun e=>az a
 fun f=>ay 3 f fun g=>bE g e fun _=>az a fun b=>ay 3 b fun c=>av c fun d=>cH d (ii 1) fun e=>aj [e]))
theorem Sn{lf:Nat}{r:RT}{a:V}:aE ai gt lf r 147 #[a]=inside (IY lf r a):=by kernel_rfl
def IZ(lf:Nat)(r:RT)(a b c:V):M V:=az a fun d=>ay 1 d fun e=>av e fun f=>az a fun g=>ay 0 g fun h=>av h fun i=>aW i fun j
 =>aT f b fun l=>bE l j fun _=>az a fun d=>ay 1 d fun e=>av e fun f=>az a fun g=>ay 0 g fun h=>av h fun i=>aW i fun j=>aT f c fun l=>bE
 l j fun _=>az a fun d=>ay 0 d fun e=>av e fun f=>az a fun g=>ay 0 g fun h=>av h fun i=>aT i b fun j=>av j fun l=>az a fun m=>ay 0 m fun n
 =>av n fun o=>aT o c fun p=>av p fun q=>aN l q fun s=>fI 3 1 s fun t=>fB 3 1 f t fun u=>az a fun v=>ay 0 v fun w=>bE w u fun _=>az a fun d
 =>ay 1 d fun e=>av e fun f=>fI 3 1 (ii (-1)) fun g=>fB 3 1 f g fun h=>az a fun i=>ay 1 i fun j=>bE j h fun _=>aj []
theorem So{lf:Nat}{r:RT}{a b c:V}:aE ai gt lf r 148 #[a,b,c]=inside (IZ lf r a b c):=by kernel_rfl
def I0(lf:Nat)(r:RT)(a b:V):M V:=aW a fun c=>au r 152 [a,c,b] fun d=>aj []
theorem Sp{lf:Nat}{r:RT}{a b:V}:aE ai gt lf r 149 #[a,b]=inside (I0 lf r a b):=by kernel_rfl
def I1(lf:Nat)(r:RT)(a b c:V):M V:=av c fun d=>aT d a fun e=>av e fun f=>av c fun g=>aT g b fun h=>av h fun i=>au r 151 [f,i] fun j=>aj [j]
theorem Sq{lf:Nat}{r:RT}{a b c:V}:aE ai gt lf r 150 #[a,b,c]=inside (I1 lf r a b c):=by kernel_rfl
def I2(lf:Nat)(r:RT)(a b:V):M V:=au r 153 [a] fun c=>au r 153 [b] fun d=>an c (an d (aj [(ii 0)]) (aj [(ii (-1))])) (an d (aj
 [(ii 1)]) (aO a b fun e=>an e (aj [(ii (-1))]) (gF a b fun f=>an f (aj [(ii 1)]) (aj [(ii 0)]))))
theorem Sr{lf:Nat}{r:RT}{a b:V}:aE ai gt lf r 151 #[a,b]=inside (I2 lf r a b):=by kernel_rfl
def u7(lf:Nat)(r:RT):Nat->(V->V->V->V->V->V->V->M V)->V->V->V->V->V->V->M V
 |0,_,_,_,_,_,_,_=> .fail
 |fu+1,k,a,b,c,d,e,f=>ko f b fun g=>an g (au r 154 [a,e,f,c] fun h=>aN f d fun e=>u7 lf r fu k a b c d f e) (k a b c d e f g)
def Ss:List Nat:=[0,1,2,6,7,8]
def u9(lf:Nat)(r:RT):Nat->(V->V->V->V->V->V->V->M V)->V->V->V->V->V->V->V->V->M V
 |0,_,_,_,_,_,_,_,_,_=> .fail
 |fu+1,k,a,b,c,d,e,f,g,h=>ko f b fun i=>an i (aN e d fun j=>au r 155 [a,e,j,f,c] fun l=>kU (ii 2) d fun e=>aN f e fun j=>
  u9 lf r fu k a b c d f j g h) (k a b c d e f g)
def Su:List Nat:=[0,1,2,6,7,8,13,30]
def Dz(lf:Nat)(r:RT)(k:(M V))(again:V->V->V->V->V->V->V->M V):(V->V->V->V->V->V->V->M V):=fun a b c d e f g=>aN e d fun h=>aO h b fun i
 =>an i (au r 155 [a,e,h,b,c] fun j=>kU d (ii 2) fun j=>again a b c j e f g) (kU d (ii 2) fun j=>again a b c j e f g)
def sM(lf:Nat)(r:RT):Nat->(M V)->V->V->V->V->V->V->V->M V
 |0,_,_,_,_,_,_,_,_=> .fail
 |fu+1,k,a,b,c,d,e,f,g=>aO d b fun h=>an h (kU (ii 2) d fun i=>u9 lf r lf (Dz lf r k
  (sM lf r fu k)) a b c d (ii 0) i g h) (k)
def y9:List Nat:=[0,1,2,6,7,8,13]
abbrev ab0(lf:Nat)(r:RT)(fu:Nat)(k:(M V)):(V->V->V->V->V->V->V->M V):=Dz lf r k (sM lf r fu k)
def DA(lf:Nat)(r:RT):(M V):=aj []
def zb(lf:Nat)(r:RT):(V->V->V->V->V->V->V->M V):=fun a b c d e f g=>au r 154 [a,e,b,c] fun h=>sM lf r lf
 (DA lf r) a b c d e f g
def DB(lf:Nat)(r:RT)(a b c:V):M V:=u7 lf r lf (zb lf r) a b c (ii 20) (ii 0) (ii 20)
theorem Sv{lf:Nat}{r:RT}(K:KT):∀fu,u7 lf r fu (fun a b c d e f g=>K (.exit 0) (zp [0,1,2,6,7,8,
 13] [a,b,c,d,e,f,g]))=fun a b c d e f=>bK (cQ 152 (pb 5 3) lf r) Ss fu (zp Ss [a,b,c,d,e,f]) K
 |0=>by funext a b c d e f;kernel_rfl
 |fu+1=>by
  have ih:=Sv (lf:=lf) (r:=r) K fu
  funext a b c d e f
  rw[u7]
  simp only[ih]
  kernel_rfl
theorem Sw{lf:Nat}{r:RT}(K:KT):∀fu,u9 lf r fu (fun a b c d e f g=>K (.exit 4) (zp [0,1,2,6,7,8,
 13] [a,b,c,d,e,f,g]))=fun a b c d e f g h=>bK (cQ 152 (pb 12 335) lf r) Su fu (zp Su [a,b,c,d,e,f,g,h]) K
 |0=>by funext a b c d e f g h;kernel_rfl
 |fu+1=>by
  have ih:=Sw (lf:=lf) (r:=r) K fu
  funext a b c d e f g h
  rw[u9]
  simp only[ih]
  kernel_rfl
theorem ab1{lf:Nat}{r:RT}(K:KT)(fu:Nat):Dz lf r (K (.exit 2) []) (fun a b c d e f g=>bK (cQ 152 (pb
 6 15) lf r) y9 fu (zp y9 [a,b,c,d,e,f,g]) K)=(fun a b c d e f g=>(iK 152 (pb 6 15) (pb 5 5)
 y9 fu K lf r) (.exit 4) (zp [0,1,2,6,7,8,13] [a,b,c,d,e,f,g])):=by kernel_rfl
theorem I3{lf:Nat}{r:RT}(K:KT):∀fu,sM lf r fu (K (.exit 2) [])=fun a b c d e f g=>bK (cQ 152 (pb
 6 15) lf r) y9 fu (zp y9 [a,b,c,d,e,f,g]) K
 |0=>by funext a b c d e f g;kernel_rfl
 |fu+1=>by
  have ih:=I3 (lf:=lf) (r:=r) K fu
  funext a b c d e f g
  rw[sM]
  simp only[ih,ab1,Sw]
  kernel_rfl
theorem Sx{lf:Nat}{r:RT}:DA lf r=((tK 152 (pb 5 15) lf r) (.exit 2) []):=by kernel_rfl
theorem ab2{lf:Nat}{r:RT}:zb lf r=(fun a b c d e f g=>(tK 152 (pb 4 3) lf r) (.exit 0) (zp [0,1,2,6,7,8,13] [a,b,c,d,e,f,g])):=by
 unfold zb
 simp only[Sx,I3]
 kernel_rfl
theorem Sy{lf:Nat}{r:RT}{a b c:V}:aE ai gt lf r 152 #[a,b,c]=inside (DB lf r a b c):=by
 unfold DB
 simp only[ab2,Sx,Sv,I3]
 kernel_rfl
def I4(lf:Nat)(r:RT)(a:V):M V:=dh a a fun b=>aj [b]
theorem Sz{lf:Nat}{r:RT}{a:V}:aE ai gt lf r 153 #[a]=inside (I4 lf r a):=by kernel_rfl
def vd(lf:Nat)(r:RT):Nat->(V->V->V->V->V->M V)->V->V->V->V->V->V->V->M V
 |0,_,_,_,_,_,_,_,_=> .fail
 |fu+1,k,a,b,c,d,e,f,g=>gF f b fun h=>an h (aT a f fun i=>av i fun j=>cH f (ii 1) fun l=>aT a l fun m=>av m fun n=>eM ai r d
  [j,n] fun o=>aO o (ii 0) fun p=>an p (cH f (ii 1) fun h=>cH f (ii 1) fun i=>aT a i fun j=>av j fun l=>aT a f fun m=>av m fun n=>aT a f fun o
  =>bE o l fun _=>aT a h fun q=>bE q n fun _=>cH f (ii 1) fun h=>vd lf r fu k a b c d e h g) (k a b c d e)) (k a b c d e)
def SA:List Nat:=[0,1,2,3,8,9,14]
def DC(lf:Nat)(r:RT)(k:(M V))(again:V->V->V->V->V->M V):(V->V->V->V->V->M V):=fun a b c d e=>aN e (ii 1) fun f=>again a b c d f
def pM(lf:Nat)(r:RT):Nat->(M V)->V->V->V->V->V->M V
 |0,_,_,_,_,_,_=> .fail
 |fu+1,k,a,b,c,d,e=>aO e c fun f=>an f (vd lf r lf (DC lf r k
  (pM lf r fu k)) a b c d e e f) (k)
def zc:List Nat:=[0,1,2,3,8]
abbrev ab3(lf:Nat)(r:RT)(fu:Nat)(k:(M V)):(V->V->V->V->V->M V):=DC lf r k (pM lf r fu k)
def zd(lf:Nat)(r:RT):(M V):=aj []
def ze(lf:Nat)(r:RT)(a b c d:V):M V:=aN b (ii 1) fun e=>pM lf r lf (zd lf r) a b c d e
theorem SB{lf:Nat}{r:RT}(K:KT):∀fu,vd lf r fu (fun a b c d e=>K (.exit 2) (zp [0,1,2,
 3,8] [a,b,c,d,e]))=fun a b c d e f g=>bK (cQ 154 (pb 9 73) lf r) SA fu (zp SA [a,b,c,d,e,f,g]) K
 |0=>by funext a b c d e f g;kernel_rfl
 |fu+1=>by
  have ih:=SB (lf:=lf) (r:=r) K fu
  funext a b c d e f g
  rw[vd]
  simp only[ih]
  kernel_rfl
theorem ab4{lf:Nat}{r:RT}(K:KT)(fu:Nat):DC lf r (K (.exit 0) []) (fun a b c d e=>bK
 (cQ 154 (pb 3 1) lf r) zc fu (zp zc [a,b,c,d,e]) K)=(fun a b c d e=>(iK 154 (pb 3 1) (pb 5 9)
 zc fu K lf r) (.exit 2) (zp [0,1,2,3,8] [a,b,c,d,e])):=by kernel_rfl
theorem SC{lf:Nat}{r:RT}(K:KT):∀fu,pM lf r fu (K (.exit 0) [])=fun a b c d e=>bK
 (cQ 154 (pb 3 1) lf r) zc fu (zp zc [a,b,c,d,e]) K
 |0=>by funext a b c d e;kernel_rfl
 |fu+1=>by
  have ih:=SC (lf:=lf) (r:=r) K fu
  funext a b c d e
  rw[pM]
  simp only[ih,ab4,SB]
  kernel_rfl
theorem ab5{lf:Nat}{r:RT}:zd lf r=((tK 154 (pb 2 1) lf r) (.exit 0) []):=by kernel_rfl
theorem I5{lf:Nat}{r:RT}{a b c d:V}:aE ai gt lf r 154 #[a,b,c,d]=inside (ze lf r a b c d):=by
 unfold ze
 simp only[ab5,SC]
 kernel_rfl
def sN(lf:Nat)(r:RT):Nat->(V->V->V->V->V->V->V->V->V->M V)->V->V->V->V->V->V->V->V->M V
 |0,_,_,_,_,_,_,_,_,_=> .fail
 |fu+1,k,a,b,c,d,e,f,g,h=>aO f g fun i=>an i (aN f g fun j=>gG .u64 j fun l=>ny l (i6 1) fun m=>gG .i64 m fun n=>aT a n fun j=>av j
  fun l=>aT a b fun m=>av m fun o=>eM ai r e [l,o] fun p=>aO p (ii 0) fun q=>an q (aN n (ii 1) fun j=>sN lf r fu
  k a b c d e j g h) (sN lf r fu k a b c d e f n h)) (k a b c d e f g h i)
def SD:List Nat:=[0,1,2,3,4,10,11,28]
def sO(lf:Nat)(r:RT):Nat->(V->V->V->V->V->V->V->V->V->V->M V)->V->V->V->V->V->V->V->V->V->M V
 |0,_,_,_,_,_,_,_,_,_,_=> .fail
 |fu+1,k,a,b,c,d,e,f,g,h,i=>aO f g fun j=>an j (aN f g fun l=>gG .u64 l fun m=>ny m (i6 1) fun n=>gG .i64 n fun o=>aT a c fun l=>av l
  fun m=>aT a o fun n=>av n fun p=>eM ai r e [m,p] fun q=>aO q (ii 0) fun s=>et s fun t=>an t (aN o (ii 1) fun l=>
  sO lf r fu k a b c d e l g h i) (sO lf r fu k a b c d e f o h i)) (k a b c d e f g h i j)
def SE:List Nat:=[0,1,2,3,4,14,15,28,80]
def sP(lf:Nat)(r:RT):Nat->(V->V->V->V->V->V->V->V->M V)->V->V->V->V->V->V->V->V->V->V->V->V->V->M V
 |0,_,_,_,_,_,_,_,_,_,_,_,_,_,_=> .fail
 |fu+1,k,a,b,c,d,e,f,g,h,i,j,l,m,n=>aO h i fun o=>an o (aN h i fun p=>gG .u64 p fun q=>ny q (i6 1) fun s=>gG .i64 s fun t=>cH j t
  fun p=>aT a p fun q=>av q fun s=>aT a t fun u=>av u fun v=>eM ai r e [s,v] fun w=>aO w (ii 0) fun x=>et x fun y=>an y (aN t (ii 1)
  fun p=>sP lf r fu k a b c d e f g p i j l m n) (sP lf r fu k a b c d e f g h t j l m n)) (k a b c d e f g h)
def SF:List Nat:=[0,1,2,3,4,18,19,20,21,22,28,80,140]
def ve(lf:Nat)(r:RT):Nat->(M V)->V->V->V->V->V->V->V->V->V->V->M V
 |0,_,_,_,_,_,_,_,_,_,_,_=> .fail
 |fu+1,k,a,b,c,d,e,f,g,h,i,j=>cH f (ii 1) fun l=>aO h l fun m=>an m (aN h (ii 1) fun l=>aN h (ii 1) fun n=>aT a n fun o=>av o fun p=>
  aT a h fun q=>av q fun s=>aT a h fun t=>bE t p fun _=>aT a l fun u=>bE u s fun _=>aN h (ii 1) fun l=>ve lf r fu k a b c d e f g l i j) (k)
def SG:List Nat:=[0,1,2,3,4,10,11,13,28,33]
def vh(lf:Nat)(r:RT):Nat->(M V)->V->V->V->V->V->V->V->V->V->V->V->M V
 |0,_,_,_,_,_,_,_,_,_,_,_,_=> .fail
 |fu+1,k,a,b,c,d,e,f,g,h,i,j,l=>gF h f fun m=>an m (cH h (ii 1) fun n=>cH h (ii 1) fun o=>aT a o fun p=>av p fun q=>aT a h fun s=>
  av s fun t=>aT a h fun u=>bE u q fun _=>aT a n fun v=>bE v t fun _=>cH h (ii 1) fun n=>vh lf r fu k a b c d e f g n i j l) (k)
def SH:List Nat:=[0,1,2,3,4,14,15,17,28,80,85]
def I6(lf:Nat)(r:RT):(M V):=aj []
def I7(lf:Nat)(r:RT):(M V):=aj []
def zf(lf:Nat)(r:RT):(V->V->V->V->V->V->V->V->M V):=fun a b c d e f g h=>cH g h fun i=>aO h c fun j=>an j (aO c i fun l=>(fun m
 =>an l (au r 156 [a,h,c,i,e] fun j=>m) (m)) (aO b h fun j=>an j (aO h f fun m=>(fun n=>an m (au r 155 [a,b,h,f,e] fun j=>n) (n)) (aO f i fun
 j=>an j (aO i d fun n=>an n (au r 155 [a,f,i,d,e] fun j=>aj []) (aj [])) (aj []))) (aO f i fun j=>an j (aO i d fun m=>an m (au r 155 [a,
 f,i,d,e] fun j=>aj []) (aj [])) (aj [])))) (aO b h fun j=>an j (aO h f fun l=>(fun m=>an l (au r 155 [a,b,h,f,e] fun j=>m) (m)) (aO f i
 fun j=>an j (aO i d fun m=>an m (au r 155 [a,f,i,d,e] fun j=>aj []) (aj [])) (aj []))) (aO f i fun j=>an j (aO i d fun l=>an l (au r 155
 [a,f,i,d,e] fun j=>aj []) (aj [])) (aj [])))
def zg(lf:Nat)(r:RT):(V->V->V->V->V->V->V->V->V->V->M V):=fun a b c d e f g h i j=>vh lf r lf
 (I6 lf r) a b c d e f g c h i j
def zh(lf:Nat)(r:RT):(V->V->V->V->V->V->V->V->V->M V):=fun a b c d e f g h i=>ve lf r lf (I7 lf r) a b c d e f g b h i
def wY(lf:Nat)(r:RT)(a b c d e:V):M V:=cH c b fun f=>dg f (ii 1) fun g=>an g (sN lf r lf
 (zh lf r) a b c d e c d g) (cH d c fun f=>dg f (ii 1) fun h=>an h (sO lf r lf
 (zg lf r) a b c d e b c g h) (aN b d fun f=>gG .u64 f fun i=>ny i (i6 1) fun j=>gG .i64 j fun l=>aN l c fun f=>gF c l fun i
 =>(fun m=>an i (cH f d fun j=>m j l) (m b c)) fun m j=>cH f (ii 1) fun n=>sP lf r lf (zf lf r) a b c d e l f m j n g h i))
theorem SI{lf:Nat}{r:RT}(K:KT):∀fu,sN lf r fu (fun a b c d e f g h i=>K (.exit 0) (zp [0,1,2,3,
 4,10,11,28,33] [a,b,c,d,e,f,g,h,i]))=fun a b c d e f g h=>bK (cQ 155 (pb 8 26) lf r) SD fu (zp SD [a,b,c,d,e,f,g,h]) K
 |0=>by funext a b c d e f g h;kernel_rfl
 |fu+1=>by
  have ih:=SI (lf:=lf) (r:=r) K fu
  funext a b c d e f g h
  rw[sN]
  simp only[ih]
  kernel_rfl
theorem SJ{lf:Nat}{r:RT}(K:KT):∀fu,sO lf r fu (fun a b c d e f g h i j=>K (.exit 4) (zp [0,1,2,
 3,4,14,15,28,80,85] [a,b,c,d,e,f,g,h,i,j]))=fun a b c d e f g h i=>bK (cQ 155 (pb 9 53) lf r) SE fu (zp
 SE [a,b,c,d,e,f,g,h,i]) K
 |0=>by funext a b c d e f g h i;kernel_rfl
 |fu+1=>by
  have ih:=SJ (lf:=lf) (r:=r) K fu
  funext a b c d e f g h i
  rw[sO]
  simp only[ih]
  kernel_rfl
theorem SK{lf:Nat}{r:RT}(K:KT):∀fu,sP lf r fu (fun a b c d e f g h=>K (.exit 8) (zp [0,1,2,3,
 4,18,19,20] [a,b,c,d,e,f,g,h]))=fun a b c d e f g h i j l m n=>bK (cQ 155 (pb 10 127) lf r) SF fu (zp
 SF [a,b,c,d,e,f,g,h,i,j,l,m,n]) K
 |0=>by funext a b c d e f g h i j l m n;kernel_rfl
 |fu+1=>by
  have ih:=SK (lf:=lf) (r:=r) K fu
  funext a b c d e f g h i j l m n
  rw[sP]
  simp only[ih]
  kernel_rfl
theorem I8{lf:Nat}{r:RT}(K:KT):∀fu,ve lf r fu (K (.exit 2) [])=fun a b c d e f g h i j=>bK
 (cQ 155 (pb 10 186) lf r) SG fu (zp SG [a,b,c,d,e,f,g,h,i,j]) K
 |0=>by funext a b c d e f g h i j;kernel_rfl
 |fu+1=>by
  have ih:=I8 (lf:=lf) (r:=r) K fu
  funext a b c d e f g h i j
  rw[ve]
  simp only[ih]
  kernel_rfl
theorem I9{lf:Nat}{r:RT}(K:KT):∀fu,vh lf r fu (K (.exit 6) [])=fun a b c d e f g h i j l=>bK
 (cQ 155 (pb 11 373) lf r) SH fu (zp SH [a,b,c,d,e,f,g,h,i,j,l]) K
 |0=>by funext a b c d e f g h i j l;kernel_rfl
 |fu+1=>by
  have ih:=I9 (lf:=lf) (r:=r) K fu
  funext a b c d e f g h i j l
  rw[vh]
  simp only[ih]
  kernel_rfl
theorem SL{lf:Nat}{r:RT}:I6 lf r=((tK 155 (pb 10 373) lf r) (.exit 6) []):=by kernel_rfl
theorem SM{lf:Nat}{r:RT}:I7 lf r=((tK 155 (pb 9 186) lf r) (.exit 2) []):=by kernel_rfl
theorem ab6{lf:Nat}{r:RT}:zf lf r=(fun a b c d e f g h=>(tK 155 (pb 9 127) lf r) (.exit 8) (zp [0,1,
 2,3,4,18,19,20] [a,b,c,d,e,f,g,h])):=by kernel_rfl
theorem ab7{lf:Nat}{r:RT}:zg lf r=(fun a b c d e f g h i j=>(tK 155 (pb 8 53) lf r) (.exit 4) (zp [0,
 1,2,3,4,14,15,28,80,85] [a,b,c,d,e,f,g,h,i,j])):=by
 unfold zg
 simp only[SL,I9]
 kernel_rfl
theorem ab8{lf:Nat}{r:RT}:zh lf r=(fun a b c d e f g h i=>(tK 155 (pb 7 26) lf r) (.exit 0) (zp [0,1,
 2,3,4,10,11,28,33] [a,b,c,d,e,f,g,h,i])):=by
 unfold zh
 simp only[SM,I8]
 kernel_rfl
theorem DD{lf:Nat}{r:RT}{a b c d e:V}:aE ai gt lf r 155 #[a,b,c,d,e]=inside (wY lf r a b c d e):=by
 unfold wY
 simp only[ab8,ab7,ab6,SM,
  SL,SI,SJ,SK,I8,I9]
 kernel_rfl
def vi(lf:Nat)(r:RT):Nat->(V->V->V->V->M V)->V->V->V->V->V->V->V->M V
 |0,_,_,_,_,_,_,_,_=> .fail
 |fu+1,k,a,b,c,d,e,f,g=>dh f g fun h=>an h (gF f g fun i=>an i (cH c f fun j=>au r 157 [a,j,c,g,e] fun l=>cH f g fun j=>
  vi lf r fu k a b c d e j g) (cH c f fun j=>aN c g fun l=>cH l f fun m=>au r 157 [a,j,m,f,e] fun n=>cH g f fun j=>
  vi lf r fu k a b c d e f j)) (k a c e f)
def SN:List Nat:=[0,1,2,3,4,10,11]
def I'(lf:Nat)(r:RT):(V->V->V->V->M V):=fun a b c d=>cH b d fun e=>au r 157 [a,e,b,d,c] fun f=>aj []
def DE(lf:Nat)(r:RT)(a b c d e:V):M V:=cH c b fun f=>cH d c fun g=>vi lf r lf (I' lf r) a b c d e f g
theorem SO{lf:Nat}{r:RT}(K:KT):∀fu,vi lf r fu (fun a b c d=>K (.exit 0) (zp [0,2,4,10] [a,b,c,
 d]))=fun a b c d e f g=>bK (cQ 156 (pb 5 3) lf r) SN fu (zp SN [a,b,c,d,e,f,g]) K
 |0=>by funext a b c d e f g;kernel_rfl
 |fu+1=>by
  have ih:=SO (lf:=lf) (r:=r) K fu
  funext a b c d e f g
  rw[vi]
  simp only[ih]
  kernel_rfl
theorem ab9{lf:Nat}{r:RT}:I' lf r=(fun a b c d=>(tK 156 (pb 4 3) lf r) (.exit 0) (zp [0,2,4,10] [a,b,c,d])):=by kernel_rfl
theorem SP{lf:Nat}{r:RT}{a b c d e:V}:aE ai gt lf r 156 #[a,b,c,d,e]=inside (DE lf r a b c d e):=by
 unfold DE
 simp only[ab9,SO]
 kernel_rfl
def vj(lf:Nat)(r:RT):Nat->(M V)->V->V->V->V->V->M V
 |0,_,_,_,_,_,_=> .fail
 |fu+1,k,a,b,c,d,e=>aO e d fun f=>an f (aN b e fun g=>aN c e fun h=>aN c e fun i=>aT a i fun j=>av j fun l=>aN b e fun m=>aT a m fun n
  =>av n fun o=>aT a g fun p=>bE p l fun _=>aT a h fun q=>bE q o fun _=>aN e (ii 1) fun g=>vj lf r fu k a b c d g) (k)
def SQ:List Nat:=[0,1,2,3,10]
def Ja(lf:Nat)(r:RT):(M V):=aj []
def DF(lf:Nat)(r:RT)(a b c d e:V):M V:=vj lf r lf (Ja lf r) a b c d (ii 0)
theorem SS{lf:Nat}{r:RT}(K:KT):∀fu,vj lf r fu (K (.exit 0) [])=fun a b c d e=>bK (cQ 157
 (pb 3 1) lf r) SQ fu (zp SQ [a,b,c,d,e]) K
 |0=>by funext a b c d e;kernel_rfl
 |fu+1=>by
  have ih:=SS (lf:=lf) (r:=r) K fu
  funext a b c d e
  rw[vj]
  simp only[ih]
  kernel_rfl
theorem ab'{lf:Nat}{r:RT}:Ja lf r=((tK 157 (pb 2 1) lf r) (.exit 0) []):=by kernel_rfl
theorem SU{lf:Nat}{r:RT}{a b c d e:V}:aE ai gt lf r 157 #[a,b,c,d,e]=inside (DF lf r a b c d e):=by
 unfold DF
 simp only[ab',SS]
 kernel_rfl
end
end Go.Proofs.YtdagfcflbphoiaaGreatDoor
namespace Go.Proofs.YtdagfcflbphoiaaGreatDoor
end Go.Proofs.YtdagfcflbphoiaaGreatDoor
namespace Go.Proofs.YtdagfcflbphoiaaGreatDoor.Hu
structure HT where
 weight:List Int
 bj:List Int
 leaves:List Nat
 aS:Nat
def bg(t:HT)(i:Nat):Int:=t.weight.getD i 0
def gN(t:HT):Bool:=t.aS==t.weight.length||(decide (0<t.leaves.length)&&decide (bg t (t.leaves.getD 0 0)<=bg t t.aS))
def cO(t:HT):Nat:=if gN t then t.leaves.getD 0 0 else t.aS
def taken(t:HT):HT:=if gN t then{t with leaves:=t.leaves.tail}else{t with aS:=t.aS+1}
def je(t:HT)(a b:Nat):HT:={t with weight:=t.weight++[bg t a+bg t b],bj:=((t.bj.set a t.weight.length).set b t.weight.length)++[-1]}
def qS(t:HT):HT:=je (taken (taken t)) (cO t) (cO (taken t))
def dm:Nat->HT->HT
 |0,t=>t
 |k+1,t=>dm k (qS t)
theorem wZ:∀(k:Nat) (t:HT),dm (k+1) t=qS (dm k t)
 |0,_=>rfl
 |k+1,t=>by
  show dm (k+1) (qS t)=_
  rw[wZ k (qS t)]
  rfl
theorem DG(l r:List Int)(i:Nat)(h:i<l.length):(l++r).getD i 0=l.getD i 0:=by
 rw[aC,me h,aC]
theorem qT(l:List Int)(i j:Nat)(v:Int):(l.set i v).getD j 0=if i=j∧i<l.length then v else l.getD j 0:=by
 simp only[aC,List.getElem?_set]
 by_cases h:i=j
 ·subst h
  by_cases h2:i<l.length
  ·simp[h2]
  ·simp[h2,List.getElem?_eq_none (show l.length<=i by omega)]
 ·simp[h]
def bO:List Int->Int
 |[]=>0
 |x::xs=>x+bO xs
theorem qU:∀a b:List Int,bO (a++b)=bO a+bO b
 |[],b=>by simp[bO]
 |x::a,b=>by simp only[List.cons_append,bO,qU a b];omega
theorem xc:∀(l:List Int),(∀x∈l,0<=x)->0<=bO l∧∀x∈l,x<=bO l
 |[],_=>⟨Int.le_refl _,fun x h=>by simp at h⟩
 |y::l,h=>by
  have ih:=xc l (fun x hx=>h x (by simp[hx]))
  have hy:=h y (by simp)
  refine⟨by simp only[bO];omega,fun x hx=> ?_⟩
  simp only[bO]
  rcases List.mem_cons.1 hx with e|e
  ·subst e;omega
  ·have:=ih.2 x e;omega
def qV(n k:Nat)(P:List Nat)(t:HT):List Nat:=P++t.leaves++rq t.aS (n+k-t.aS)
structure ik (n k:Nat) (P:List Nat) (S:Int) (t:HT):Prop where
 wl:t.weight.length=n+k
 il:t.bj.length=n+k
 leaf:∀i∈t.leaves,i<n
 pl:∀i∈P,i<n+k
 jl:n<=t.aS
 jh:t.aS<=n+k
 left:t.leaves.length+(n+k-t.aS)+k+P.length=n
 pos:∀i,i<n+k->0<=bg t i∧bg t i<=S
 sum:bO ((qV n k P t).map (bg t))=S
 bj:∀i,i<n+k->i∉t.leaves->i<t.aS->i∉P->(i:Int)<t.bj.getD i 0∧t.bj.getD i 0<((n+k:Nat):Int)
theorem Jb{n k:Nat}{P:List Nat}{S:Int}{t:HT}(h:ik n k P S t)(h1:1<=t.leaves.length+(n+k-t.aS))(hl:gN t=true):∃r,t.leaves=cO t::r∧taken t={t with leaves:=r}∧cO t<n:=by
 have cd:t.leaves≠[]:=by
  intro e
  unfold gN at hl
  rw[e]at hl
  simp at hl
  have:=h.wl
  rw[e]at h1
  simp at h1
  omega
 obtain⟨i,r,e⟩:=List.exists_cons_of_ne_nil cd
 have e2:cO t=i:=by unfold cO;rw[if_pos hl,e];rfl
 refine⟨r,by rw[e2];exact e,by unfold taken;rw[if_pos hl,e];rfl, ?_⟩
 rw[e2]
 exact h.leaf i (by rw[e];simp)
theorem SV{n k:Nat}{P:List Nat}{S:Int}{t:HT}(h:ik n k P S t)(hl:gN t=false):cO t=t.aS∧t.aS<n+k∧taken t={t with aS:=t.aS+1}:=by
 refine⟨by unfold cO;rw[hl];rfl, ?_,by unfold taken;rw[hl];rfl⟩
 unfold gN at hl
 rw[Bool.or_eq_false_iff,beq_eq_false_iff_ne]at hl
 have:=h.wl
 have:=h.jh
 omega
theorem ik.take{n k:Nat}{P:List Nat}{S:Int}{t:HT}(h:ik n k P S t)(h1:1<=t.leaves.length+(n+k-t.aS)):ik n k (P++[cO t]) S (taken t)∧cO t<n+k:=by
 cases hl:gN t with
 |true=>
  obtain⟨r,e1,e2,e3⟩:=Jb h h1 hl
  generalize cO t=a at*
  rw[e2]
  have qW:=h.left
  rw[e1]at qW
  simp only[cu]at qW
  refine⟨⟨h.wl,h.il,fun i hi=>h.leaf i (by rw[e1];simp[hi]),fun i hi=> ?_,h.jl,h.jh,by simp only[aM,cu,iz];omega,h.pos, ?_,fun i hi h2 h3 h4=> ?_⟩,by omega⟩
  ·rcases List.mem_append.1 hi with h2|h2
   ·exact h.pl i h2
   ·simp at h2;omega
  ·have:=h.sum
   unfold qV at this⊢
   rw[e1]at this
   simp only[mR,Ay,Ls,qU,bO]at this⊢
   show bO (P.map (bg t))+_+_+_=S
   have e9:bg {t with leaves:=r}=bg t:=rfl
   rw[e9]
   omega
  ·refine h.bj i hi (fun hm=> ?_) h3 (fun hp=>h4 (by simp[hp]))
   rw[e1]at hm
   rcases List.mem_cons.1 hm with e|e
   ·exact h4 (by simp[e])
   ·exact h2 e
 |false=>
  obtain⟨e1,e2,e3⟩:=SV h hl
  rw[e3,e1]
  have qW:=h.left
  refine⟨⟨h.wl,h.il,h.leaf,fun i hi=> ?_,Nat.le_succ_of_le h.jl,e2,by simp only[aM,cu,iz];omega,h.pos, ?_,fun i hi h2 h3 h4=> ?_⟩,e2⟩
  ·rcases List.mem_append.1 hi with h2|h2
   ·exact h.pl i h2
   ·simp at h2;omega
  ·have:=h.sum
   unfold qV at this⊢
   obtain⟨d,hd⟩:∃d,n+k-t.aS=d+1:=⟨n+k-t.aS-1,by omega⟩
   rw[hd,List.range'_succ]at this
   show bO (Lt _ (P++[t.aS]++t.leaves++rq (t.aS+1) (n+k-(t.aS+1))))=S
   rw[show n+k-(t.aS+1)=d by omega]
   simp only[mR,Ay,Ls,qU,bO]at this⊢
   have e9:bg {t with aS:=t.aS+1}=bg t:=rfl
   rw[e9]
   omega
  ·have h3:i<t.aS+1:=h3
   refine h.bj i hi h2 ?_ (fun hp=>h4 (by simp[hp]))
   have:i≠t.aS:=fun e=>h4 (by simp[e])
   omega
theorem ik.join{n k a b:Nat}{S:Int}{t:HT}(h:ik n k [a,b] S t):ik n (k+1) [] S (je t a b):=by
 have ha:=h.pl a (by simp)
 have hb:=h.pl b (by simp)
 have qW:=h.left
 have hjh:=h.jh
 have eQ:=h.jl
 have xd:=h.sum
 simp only[cu,iz]at qW
 have bf:∀i,i<n+k->bg (je t a b) i=bg t i:=fun i hi=>DG _ _ _ (by rw[h.wl];exact hi)
 have SW:bg (je t a b) (n+k)=bg t a+bg t b:=by
  unfold bg je
  rw[aC,nO (by rw[h.wl];exact ak _),h.wl,nT]
  rfl
 have SX:∀l:List Nat,(∀i∈l,i<n+k)->l.map (bg (je t a b))=l.map (bg t):=fun l hl=>List.map_congr_left fun i hi=>bf i (hl i hi)
 have hr:∀i∈rq t.aS (n+k-t.aS),i<n+k:=fun i hi=>by rw[List.mem_range'_1]at hi;omega
 have ab_:∀i∈qV n k [a,b] t,i<n+k:=by
  intro i hi
  unfold qV at hi
  rcases List.mem_append.1 hi with h2|h2
  ·rcases List.mem_append.1 h2 with h3|h3
   ·exact h.pl i h3
   ·have:=h.leaf i h3;omega
  ·exact hr i h2
 have fO:=xc ((qV n k [a,b] t).map (bg t)) (fun x hx=>by
  rw[E']at hx
  obtain⟨i,hi,rfl⟩:=hx
  exact(h.pos i (ab_ i hi)).1)
 rw[xd]at fO
 have hab:bg t a+bg t b<=S:=by
  have h2:=xc ((t.leaves++rq t.aS (n+k-t.aS)).map (bg t)) (fun x hx=>by
   rw[E']at hx
   obtain⟨i,hi,rfl⟩:=hx
   refine(h.pos i ?_).1
   rcases List.mem_append.1 hi with h3|h3
   ·have:=h.leaf i h3;omega
   ·exact hr i h3)
  have h3:=xd
  unfold qV at h3
  simp only[mR,Ay,Ls,qU,bO]at h3 h2
  omega
 refine⟨by simp[je,h.wl];omega,by simp[je,h.il];omega,h.leaf,fun i hi=>by simp at hi,eQ,by show t.aS<=_;omega,by show t.leaves.length+(n+(k+1)-t.aS)+(k+1)+0=n;omega,fun i hi=> ?_, ?_,fun i hi h2 h3 _=> ?_⟩
 ·by_cases e:i<n+k
  ·rw[bf i e];exact h.pos i e
  ·obtain rfl:i=n+k:=by omega
   rw[SW]
   have:=(h.pos a ha).1
   have:=(h.pos b hb).1
   omega
 ·unfold qV at xd⊢
  show bO (Lt _ ([]++t.leaves++rq t.aS (n+(k+1)-t.aS)))=S
  rw[show n+(k+1)-t.aS=(n+k-t.aS)+1 by omega,List.range'_concat]
  simp only[List.nil_append,mR,Ay,Ls,qU,bO]at xd⊢
  rw[SX t.leaves (fun i hi=>by have:=h.leaf i hi;omega),SX _ hr]
  rw[show t.aS+1*(n+k-t.aS)=n+k by omega,SW]
  omega
 ·have h3:i<t.aS:=h3
  have eG:=h.il
  have e1:(je t a b).bj.getD i 0=if i=a∨i=b then((n+k:Nat):Int)else t.bj.getD i 0:=by
   unfold je
   rw[DG _ _ _ (by simp;omega),qT,rz,qT,h.wl]
   by_cases eb:b=i
   ·subst eb;rw[if_pos ⟨rfl,by omega⟩,if_pos (.inr rfl)]
   ·rw[if_neg (fun e=>eb e.1)]
    by_cases ea:a=i
    ·subst ea;rw[if_pos ⟨rfl,by omega⟩,if_pos (.inl rfl)]
    ·rw[if_neg (fun e=>ea e.1),if_neg (fun e=>by rcases e with e|e;exact ea e.symm;exact eb e.symm)]
  rw[e1]
  split
  ·omega
  ·rename_i hn
   have:=h.bj i (by omega) h2 h3 (fun e=>by simp at e;exact hn e)
   omega
end Go.Proofs.YtdagfcflbphoiaaGreatDoor.Hu
namespace Go.Proofs.YtdagfcflbphoiaaGreatDoor
open Go.RowKit Ev Hu
theorem Jc{x:Nat}(h:x<9223372036854775807):IntKind.i64.wrap ((x:Int)+1)=((x+1:Nat):Int):=by rw[aV (by omega) (by omega)];rfl
theorem SY{x:Nat}(h:x<9223372036854775807):IntKind.i64.wrap (((x+1:Nat):Int)-1)=((x:Nat):Int):=by rw[aV (by omega) (by omega)];omega
theorem RZ:type_of%(And.intro @OS (And.intro @OT (And.intro @aV (And.intro @Jc (And.intro @SY (And.intro @OZ (And.intro @O0 (And.intro @O1 (And.intro @sE (And.intro @O2 (And.intro @O3 (And.intro @O4 (And.intro @O5 (And.intro @O6 (And.intro @O7 (And.intro @O8 (And.intro @yQ (And.intro @O9 (And.intro @Pa (@Pb)))))))))))))))))))):=And.intro @OS (And.intro @OT (And.intro @aV (And.intro @Jc (And.intro @SY (And.intro @OZ (And.intro @O0 (And.intro @O1 (And.intro @sE (And.intro @O2 (And.intro @O3 (And.intro @O4 (And.intro @O5 (And.intro @O6 (And.intro @O7 (And.intro @O8 (And.intro @yQ (And.intro @O9 (And.intro @Pa (@Pb)))))))))))))))))))
def ints(xs:List Int):List Value:=xs.map (iy .i64)
def cj(xs:List Nat):List Value:=xs.map fun(x:Nat)=>iy .i64 x
theorem kX(xs:List Int):(ints xs).length=xs.length:=by unfold ints;simp
theorem ints_at{xs:List Int}{i:Nat}(h:i<xs.length):(ints xs)[i]? =some (.int .i64 (xs.getD i 0)):=by
 unfold ints;simp[h]
structure mC (h:H) (n g:Nat) (t:HT) (bw bi bl off cl:Nat) (cs:List Value):Prop where
 hg:h.get g=some ⟨164,true,[.slice (some ⟨bw,0,none⟩) t.weight.length (ba+t.weight.length),.slice (some ⟨bi,0,none⟩) t.bj.length (ba+t.bj.length),.slice (some ⟨bl,off,none⟩) t.leaves.length cl,.int .i64 (t.aS:Nat)]⟩
 hw:h.get bw=some ⟨3,true,ints t.weight⟩
 hi:h.get bi=some ⟨3,true,ints t.bj⟩
 hl:h.get bl=some ⟨3,true,cs⟩
 hlen:off+t.leaves.length<=cs.length
 eJ:(cs.drop off).take t.leaves.length=cj t.leaves
 fU:t.leaves.length<=cl
 d:g≠bw∧g≠bi∧g≠bl∧bw≠bi∧bw≠bl∧bi≠bl∧g<n∧bw<n∧bi<n∧bl<n
theorem SZ{cs:List Value}{off:Nat}{l:List Nat}(eJ:(cs.drop off).take l.length=cj l){i:Nat}(hi:i<l.length):cs[off+i]? =some (.int .i64 (l.getD i 0:Nat)):=by
 have h:=congrArg (fun z=>z[i]?) eJ
 simp only[List.getElem?_take,hi,if_true,List.getElem?_drop]at h
 rw[h]
 unfold cj
 simp[hi]
theorem mC.leaf {h:H} {n g:Nat} {t:HT} {bw bi bl off cl:Nat} {cs:List Value} (hT:mC h n g t bw bi bl off cl cs) (eG:gN t=true) (h0:0<t.leaves.length) {lO:Nat} (ho:lO=off+1∨t.leaves.length=1∧lO=off) {x:H}
 (hx:x=h.set g (some ⟨164,true,[.slice (some ⟨bw,0,none⟩) t.weight.length (ba+t.weight.length),.slice (some ⟨bi,0,none⟩) t.bj.length (ba+t.bj.length),.slice (some ⟨bl,lO,none⟩) (t.leaves.length-1) (cl-1),.int .i64 (t.aS:Nat)]⟩)):mC x n g (taken t) bw bi bl lO (cl-1) cs:=by
 obtain⟨hg,lW,iU,eL,hlen,eJ,fU,hd⟩:=hT
 subst hx
 have e:taken t={t with leaves:=t.leaves.tail}:=by unfold taken;rw[if_pos eG]
 rw[e]
 refine⟨?_, ?_, ?_, ?_, ?_, ?_, ?_,hd⟩
 ·rw[get_eq];simp
 ·rw[aA _ _ (by omega)];exact lW
 ·rw[aA _ _ (by omega)];exact iU
 ·rw[aA _ _ (by omega)];exact eL
 ·simp only[Lu];omega
 ·simp only[Lu]
  rcases ho with ho|⟨ho,_⟩
  ·subst ho
   have:=congrArg List.tail eJ
   unfold cj at this⊢
   rw[<-List.map_tail]at this
   rw[<-this,<-List.drop_one,List.drop_take,AN]
  ·have:t.leaves.tail=[]:=by rw[<-List.length_eq_zero_iff,Lu];omega
   rw[this,ho]
   simp[cj]
 ·simp only[Lu];omega
theorem mC.aS {h:H} {n g:Nat} {t:HT} {bw bi bl off cl:Nat} {cs:List Value} (hT:mC h n g t bw bi bl off cl cs) (eG:gN t=false) {x:H}
 (hx:x=h.set g (some ⟨164,true,[.slice (some ⟨bw,0,none⟩) t.weight.length (ba+t.weight.length),.slice (some ⟨bi,0,none⟩) t.bj.length (ba+t.bj.length),.slice (some ⟨bl,off,none⟩) t.leaves.length cl,.int .i64 ((t.aS+1:Nat):Int)]⟩)):mC x n g (taken t) bw bi bl off cl cs:=by
 obtain⟨hg,lW,iU,eL,hlen,eJ,fU,hd⟩:=hT
 subst hx
 have e:taken t={t with aS:=t.aS+1}:=by unfold taken;rw[eG];rfl
 rw[e]
 refine⟨?_, ?_, ?_, ?_,hlen,eJ,fU,hd⟩
 ·rw[get_eq]
 ·rw[aA _ _ (by omega)];exact lW
 ·rw[aA _ _ (by omega)];exact iU
 ·rw[aA _ _ (by omega)];exact eL
theorem S0(lf d g n:Nat)(h:H)(t:HT)(bw bi bl off cl:Nat)(cs:List Value)(hT:mC h n g t bw bi bl off cl cs)(eQ:t.aS<=100000)(pN:t.leaves.length<=100000)(hw:t.weight.length<=100000)(b9:gN t=true->0<t.leaves.length)(ye:0<t.leaves.length->t.leaves.getD 0 0<t.weight.length)(aiA:t.aS<=t.weight.length):
 ah (fun b=>b=g) n (aq ai gt lf (d+1) 147 #[.pointer (some ⟨g,0,none⟩)]) h n fun v h' n'=>v= .int .i64 (cO t:Nat)∧n'=n∧∃lO S1,mC h' n g (taken t) bw bi bl lO S1 cs:=by
 have pO:=hT
 obtain⟨hg,lW,iU,eL,hlen,eJ,fU,hd⟩:=hT
 rw[aD (fun _=>Sn) rfl]
 refine ah.aB ?_
 unfold IY
 have lV:=hd.2.2.2.2.2.2.1
 have Jd:=hd.2.2.2.2.2.2.2.1
 have kY:=hd.2.2.2.2.2.2.2.2.2
 have hL:gN t=true->cO t=t.leaves.getD 0 0:=fun e=>by unfold cO;rw[if_pos e]
 have hJ:gN t=false->cO t=t.aS:=fun e=>by unfold cO;rw[e];rfl
 have aiB:0<t.leaves.length->0<cl:=fun _=>by omega
 by_cases hj:t.aS=t.weight.length
 ·have eG:gN t=true:=by unfold gN;simp[hj]
  have h0:=b9 eG
  have wP:cs[off]? =some (.int .i64 (t.leaves.getD 0 0:Nat)):=SZ eJ h0
  have e1:(((t.aS:Nat):Int)==((t.weight.length:Nat):Int))=true:=by rw[hj];simp
  try simp(disch:=first|omega|assumption|exact aa _) only[ag,ae,RZ,hg,lW,iU,eL,e1,wP]
  refine Cr trivial (n0:=n) (l:=1) (hh:=t.leaves.length) eL rfl (by omega) off t.leaves.length cl _ _ (yK _ 1 0) (Hr _) (by omega) (by omega) (by omega) _ trivial ?_
  try simp(disch:=first|omega|assumption|exact aa _) only[ag,ae,RZ,hg]
  exact⟨by rw[hL eG],_,_,pO.leaf eG h0 (by split;exact .inr ⟨by omega,rfl⟩;exact .inl rfl) rfl⟩
 ·have e1:(((t.aS:Nat):Int)==((t.weight.length:Nat):Int))=false:=by rw[beq_eq_false_iff_ne];omega
  have hjw:t.aS<t.weight.length:=by omega
  have rP:(ints t.weight)[t.aS]? =some (.int .i64 (bg t t.aS)):=ints_at hjw
  by_cases h0:0<t.leaves.length
  ·have wP:cs[off]? =some (.int .i64 (t.leaves.getD 0 0:Nat)):=SZ eJ h0
   have qQ:=ye h0
   have S2:(ints t.weight)[t.leaves.getD 0 0]? =some (.int .i64 (bg t (t.leaves.getD 0 0))):=ints_at qQ
   have qz:(0:Int)<(t.leaves.length:Int):=by omega
   have eG:gN t=decide (bg t (t.leaves.getD 0 0)<=bg t t.aS):=by unfold gN;simp[hj,h0]
   by_cases hle:bg t (t.leaves.getD 0 0)<=bg t t.aS
   ·rw[decide_eq_true hle]at eG
    try simp(disch:=first|omega|assumption|exact aa _) only[ag,ae,RZ,hg,lW,iU,eL,e1,wP,S2,rP,qz,hle]
    refine Cr trivial (n0:=n) (l:=1) (hh:=t.leaves.length) eL rfl (by omega) off t.leaves.length cl _ _ (yK _ 1 0) (Hr _) (by omega) (by omega) (by omega) _ trivial ?_
    try simp(disch:=first|omega|assumption|exact aa _) only[ag,ae,RZ,hg]
    exact⟨by rw[hL eG],_,_,pO.leaf eG h0 (by split;exact .inr ⟨by omega,rfl⟩;exact .inl rfl) rfl⟩
   ·rw[decide_eq_false hle]at eG
    try simp(disch:=first|omega|assumption|exact aa _) only[ag,ae,RZ,hg,lW,iU,eL,e1,wP,S2,rP,qz,hle]
    exact⟨by rw[hJ eG,ahP],_,_,pO.aS eG rfl⟩
  ·have qz:¬(0:Int)<(t.leaves.length:Int):=by omega
   have eG:gN t=false:=by unfold gN;simp[hj,h0]
   try simp(disch:=first|omega|assumption|exact aa _) only[ag,ae,RZ,hg,lW,iU,eL,e1,rP,qz]
   exact⟨by rw[hJ eG,ahP],_,_,pO.aS eG rfl⟩
theorem ints_set(xs:List Int)(i:Nat)(v:Int):(ints xs).set i (.int .i64 v)=ints (xs.set i v):=by unfold ints;rw[List.map_set]
theorem S3(xs:List Int)(v:Int):ints xs++[.int .i64 v]=ints (xs++[v]):=by unfold ints;simp
set_option maxHeartbeats 1000000 in
theorem aca(lf d g n a b:Nat)(h:H)(t:HT)(bw bi bl off cl:Nat)(cs:List Value)(hT:mC h n g t bw bi bl off cl cs)(hw:t.weight.length<=100000)(hi:t.bj.length=t.weight.length)(ha:a<t.weight.length)(hb:b<t.weight.length)(hs:∀x∈t.weight,0<=x∧x<=1152921504606846976):
 ah (fun x=>x=g∨x=bw∨x=bi) n (aq ai gt lf (d+1) 148 #[.pointer (some ⟨g,0,none⟩),.int .i64 (a:Nat),.int .i64 (b:Nat)]) h n fun v h' n'=>v= .tuple #[]∧n<=n'∧∃zi xe,mC h' n' g (je t a b) zi xe bl off cl cs∧n<=zi∧n<=xe:=by
 have pO:=hT
 obtain⟨hg,lW,iU,eL,hlen,eJ,fU,hd⟩:=hT
 rw[aD (fun _=>So) rfl]
 refine ah.aB ?_
 unfold IZ
 have lV:=hd.2.2.2.2.2.2.1
 have Jd:=hd.2.2.2.2.2.2.2.1
 have bW:=hd.2.2.2.2.2.2.2.2.1
 have S4:(ints t.weight)[a]? =some (.int .i64 (bg t a)):=ints_at ha
 have S5:(ints t.weight)[b]? =some (.int .i64 (bg t b)):=ints_at hb
 have sa:0<=bg t a∧bg t a<=1152921504606846976:=hs _ (by unfold bg;simp[ha])
 have sb:0<=bg t b∧bg t b<=1152921504606846976:=hs _ (by unfold bg;simp[hb])
 try simp(disch:=first|omega|assumption|exact aa _) only[ag,ae,RZ,hg,lW,iU,ints_set,kX,rz,S4,S5]
 refine⟨by omega,by omega, ?_⟩
 refine Cq trivial (oF _ _) (by rw[aA _ _ (by omega),aA _ _ (by omega)];exact lW) (by omega) (kX _) (by omega) (by omega) (.inr (.inr (.inl rfl))) _ ?_
 try simp(disch:=first|omega|assumption|exact aa _) only[ag,ae,RZ,hg,lW,iU,ints_set,kX,rz,S4,S5]
 refine Cq trivial (cs:=ints ((t.bj.set a (t.weight.length:Nat)).set b (t.weight.length:Nat))) (oF _ _) (by try simp(disch:=first|omega|assumption|exact aa _) only[ag,ae,RZ]) (by omega) (by simp[kX]) (by omega) (by omega) (.inr (.inr (.inr rfl))) _ ?_
 try simp(disch:=first|omega|assumption|exact aa _) only[ag,ae,RZ,hg,lW,iU]
 refine⟨by omega,n+1,n+2+1, ?_,by omega,by omega⟩
 refine⟨?_, ?_, ?_, ?_,hlen,eJ,fU,by omega⟩
 ·try simp(disch:=first|omega|assumption|exact aa _) only[ag,ae,RZ]
  simp[je]
 ·try simp(disch:=first|omega|assumption|exact aa _) only[ag,ae,RZ]
  rw[S3];rfl
 ·try simp(disch:=first|omega|assumption|exact aa _) only[ag,ae,RZ]
  rw[S3];rfl
 ·try simp(disch:=first|omega|assumption|exact aa _) only[ag,ae,RZ,eL]
end Go.Proofs.YtdagfcflbphoiaaGreatDoor
namespace Go.Proofs.YtdagfcflbphoiaaGreatDoor
open Go.RowKit Hu
def zj(x y:Int):Int:=if x<y then-1 else if y<x then 1 else 0
def RI(k:Nat->Int)(a b:Nat):Prop:=k a<k b∨k a=k b∧a<b
theorem acb{k:Nat->Int}{L R:List Nat}{x:Nat}(h:(L++R).Pairwise (RI k))(h1:∀r∈R,k x<k r)(h2:∀l∈L,k l<=k x)(h3:∀l∈L,k l=k x->l<x):(L++x::R).Pairwise (RI k):=by
 rw[Xg]at h⊢
 refine⟨h.1, ?_,fun a ha b hb=> ?_⟩
 ·rw[Lv]
  exact⟨fun r hr=> .inl (h1 r hr),h.2.1⟩
 ·rcases List.mem_cons.1 hb with e|e
  ·subst e
   have:=h2 a ha
   by_cases he:k a=k b
   ·exact .inr ⟨he,h3 a ha he⟩
   ·exact .inl (by omega)
  ·exact h.2.2 a ha b e
def aP(ws:List Int)(i:Nat):Int:=ws.getD i 0
theorem acd(pre:List Nat)(v:Nat)(post:List Nat):(pre++v::post).getD pre.length 0=v:=by
 simp[aC]
theorem DH(x y:Int):decide (zj x y<0)=decide (x<y):=by
 unfold zj
 by_cases h:x<y
 ·simp[h]
 ·by_cases h2:y<x
  ·simp[h,h2]
  ·simp[h,h2]
theorem pP(pre:List Nat)(v:Nat)(post:List Nat)(j:Nat)(hj:j=pre.length):(pre++v::post).getD j 0=v:=by subst hj;exact acd _ _ _
theorem sQ(pre:List Nat)(v u:Nat)(post:List Nat)(j:Nat)(hj:j=pre.length):(pre++v::post).set j u=pre++u::post:=by
 subst hj
 rw[List.set_append_right (h:=ak _),nT];rfl
theorem RI.trans'{k:Nat->Int}{a b c:Nat}(h1:RI k a b)(h2:RI k b c):RI k a c:=by
 unfold RI at*
 omega
theorem Je{k:Nat->Int}{x y:Nat}(gO:x<y)(h:¬k y<k x):RI k x y:=by
 unfold RI
 omega
theorem zk{k:Nat->Int}{L:List Nat}(h:L.Pairwise (RI k)){i j:Nat}(hH:i<=j)(hj:j<L.length):L.getD i 0=L.getD j 0∨RI k (L.getD i 0) (L.getD j 0):=by
 rcases Nat.lt_or_eq_of_le hH with bf|rfl
 ·right
  have:=List.pairwise_iff_getElem.1 h i j (by omega) hj bf
  rw[aC,aC,aR (by omega),aR hj]
  exact this
 ·left;rfl
theorem Jf{k:Nat->Int}{L:List Nat}(h:L.Pairwise (RI k)){i j c:Nat}(hH:i<=j)(hj:j<L.length)(hc:RI k (L.getD j 0) c):RI k (L.getD i 0) c:=by
 rcases zk h hH hj with e|e
 ·rw[e];exact hc
 ·exact e.trans' hc
theorem Jg{k:Nat->Int}{L:List Nat}(h:L.Pairwise (RI k)){i j c:Nat}(hH:i<=j)(hj:j<L.length)(hc:RI k c (L.getD i 0)):RI k c (L.getD j 0):=by
 rcases zk h hH hj with e|e
 ·rw[<-e];exact hc
 ·exact hc.trans' e
theorem Jh{L:List Nat}{n:Nat}{u:Nat}(h:u∈L.take n):∃i,i<n∧i<L.length∧L.getD i 0=u:=by
 obtain⟨i,hi,e⟩:=List.mem_iff_getElem.1 h
 rw[dW]at hi
 refine⟨i,by omega,by omega, ?_⟩
 rw[List.getElem_take]at e
 rw[aC,aR (by omega)]
 exact e
theorem zm{L:List Nat}{n:Nat}{u:Nat}(h:u∈L.drop n):∃i,n<=i∧i<L.length∧L.getD i 0=u:=by
 obtain⟨i,hi,e⟩:=List.mem_iff_getElem.1 h
 rw[eP]at hi
 refine⟨n+i,by omega,by omega, ?_⟩
 rw[List.getElem_drop]at e
 rw[aC,aR (by omega)]
 exact e
theorem ace{k:Nat->Int}{L R:List Nat}{x:Nat}(h:(L++R).Pairwise (RI k))(h1:∀r∈R,RI k x r)(h2:∀l∈L,RI k l x):(L++x::R).Pairwise (RI k):=by
 rw[Xg]at h⊢
 refine⟨h.1, ?_,fun a ha b hb=> ?_⟩
 ·rw[Lv]
  exact⟨h1,h.2.1⟩
 ·rcases List.mem_cons.1 hb with e|e
  ·subst e;exact h2 a ha
  ·exact h.2.2 a ha b e
theorem S6{k:Nat->Int}{Y:List Nat}{x p:Nat}(hy:Y.Pairwise (RI k))(hp:p<=Y.length)(h1:p=0∨RI k (Y.getD (p-1) 0) x)(h2:p=Y.length∨RI k x (Y.getD p 0)):(Y.take p++x::Y.drop p).Pairwise (RI k):=by
 refine ace (by rw[jm];exact hy) (fun r hr=> ?_) (fun l hl=> ?_)
 ·obtain⟨i,hi,hl,rfl⟩:=zm hr
  rcases h2 with h|h
  ·omega
  ·exact Jg hy hi hl h
 ·obtain⟨i,hi,hl,rfl⟩:=Jh hl
  rcases h1 with h|h
  ·omega
  ·exact Jf hy (by omega) (by omega) h
theorem acf{k:Nat->Int}{X Y:List Nat}(hx:X.Pairwise (RI k))(hy:Y.Pairwise (RI k))(h s:Nat)(hs:s<=X.length)(hh:s<=h)(he:h-s<=Y.length)(c1:s=0∨h-s=Y.length∨RI k (X.getD (s-1) 0) (Y.getD (h-s) 0))(c2:s=X.length∨s=h∨RI k (Y.getD (h-1-s) 0) (X.getD s 0)):∀u∈X.take s++Y.take (h-s),∀v∈X.drop s++Y.drop (h-s),RI k u v:=by
 intro u hu v hv
 rcases List.mem_append.1 hu with hu|hu
 ·obtain⟨i,hi,eG,rfl⟩:=Jh hu
  rcases List.mem_append.1 hv with hv|hv
  ·obtain⟨j,hj,eQ,rfl⟩:=zm hv
   rcases zk hx (i:=i) (j:=j) (by omega) eQ with e|e
   ·exfalso
    have:=List.pairwise_iff_getElem.1 hx i j (by omega) eQ (by omega)
    rw[aC,aC,aR (by omega),aR eQ]at e
    unfold RI at this
    simp only[ag5]at e
    rw[e]at this
    omega
   ·exact e
  ·obtain⟨j,hj,eQ,rfl⟩:=zm hv
   rcases c1 with h1|h1|h1
   ·omega
   ·omega
   ·exact Jf hx (j:=s-1) (by omega) (by omega) (Jg hy hj eQ h1)
 ·obtain⟨i,hi,eG,rfl⟩:=Jh hu
  rcases List.mem_append.1 hv with hv|hv
  ·obtain⟨j,hj,eQ,rfl⟩:=zm hv
   rcases c2 with h1|h1|h1
   ·omega
   ·omega
   ·exact Jf hy (j:=h-1-s) (by omega) (by omega) (Jg hx hj eQ h1)
  ·obtain⟨j,hj,eQ,rfl⟩:=zm hv
   rcases zk hy (i:=i) (j:=j) (by omega) eQ with e|e
   ·exfalso
    have:=List.pairwise_iff_getElem.1 hy i j (by omega) eQ (by omega)
    rw[aC,aC,aR (by omega),aR eQ]at e
    unfold RI at this
    simp only[ag5]at e
    rw[e]at this
    omega
   ·exact e
theorem acg{k:Nat->Int}{Z1 Z2 X Y:List Nat}{h s:Nat}(p1:Z1.Perm (X.take s++Y.take (h-s)))(p2:Z2.Perm (X.drop s++Y.drop (h-s)))(s1:Z1.Pairwise (RI k))(s2:Z2.Pairwise (RI k))(hc:∀u∈X.take s++Y.take (h-s),∀v∈X.drop s++Y.drop (h-s),RI k u v):(Z1++Z2).Perm (X++Y)∧(Z1++Z2).Pairwise (RI k):=by
 refine⟨(p1.append p2).trans ?_,Xg.2 ⟨s1,s2,fun a ha b hb=>hc a (p1.mem_iff.1 ha) b (p2.mem_iff.1 hb)⟩⟩
 have e1:X.take s++Y.take (h-s)++(X.drop s++Y.drop (h-s))=X.take s++(Y.take (h-s)++X.drop s)++Y.drop (h-s):=by simp
 have e2:X++Y=X.take s++(X.drop s++Y.take (h-s))++Y.drop (h-s):=by
  have a1:=jm s X
  have a2:=jm (h-s) Y
  calc X++Y=(X.take s++X.drop s)++(Y.take (h-s)++Y.drop (h-s)):=by rw[a1,a2]
   _=_:=by simp only[cE]
 rw[e1,e2]
 exact((List.perm_append_comm).append_left _).append_right _
theorem DI(P X Q:List Nat)(i j:Nat)(hj:j=P.length+i)(hi:i<X.length):(P++X++Q).getD j 0=X.getD i 0:=by
 subst hj
 rw[aC,aC,cE,nO (by omega),Nat.add_sub_cancel_left,me hi]
def BS(k:Nat->Int)(c:Nat)(D:List Nat):Prop:=∀i,((D.drop (i*c)).take c).Pairwise (RI k)∧∀x∈D.take (i*c),∀y∈D.drop (i*c),x<y
theorem BS.nil(k:Nat->Int)(c:Nat):BS k c []:=fun i=>⟨by simp,fun x hx=>by simp at hx⟩
theorem BS.drop{k:Nat->Int}{c:Nat}{D:List Nat}(h:BS k c D)(m:Nat):BS k c (D.drop (m*c)):=by
 intro i
 have h1:=h (m+i)
 rw[kF]at h1
 rw[AN]
 refine⟨h1.1,fun x hx y hy=>h1.2 x ?_ y hy⟩
 rw[List.take_drop]at hx
 exact Xh hx
theorem BS.first{k:Nat->Int}{c:Nat}{D:List Nat}(h:BS k c D):(D.take c).Pairwise (RI k):=by
 have:=(h 0).1
 rw[Nat.zero_mul,List.drop_zero]at this
 exact this
theorem BS.S7{k:Nat->Int}{c:Nat}{D:List Nat}(h:BS k c D):∀x∈D.take c,∀y∈D.drop c,x<y:=by
 have:=(h 1).2
 rw[AG]at this
 exact this
theorem BS.snoc{k:Nat->Int}{c t:Nat}{U Z:List Nat}(h:BS k c U)(hl:U.length=t*c)(hz:Z.length<=c)(hs:Z.Pairwise (RI k))(hc:∀x∈U,∀z∈Z,x<z):BS k c (U++Z):=by
 intro i
 rcases Nat.lt_trichotomy i t with bf|heq|hgt
 ·have hi:i*c+c<=U.length:=by
   rw[hl]
   have:=AD c (show i+1<=t by omega)
   rw[kF]at this
   omega
  have h1:=h i
  rw[List.drop_append_of_le_length (by omega),ahI (by rw[eP];omega),ahI (by omega)]
  refine⟨h1.1,fun x hx y hy=> ?_⟩
  rcases List.mem_append.1 hy with hy|hy
  ·exact h1.2 x hx y hy
  ·exact hc x (qh hx) y hy
 ·subst heq
  rw[<-hl,List.drop_left,List.take_left,kH hz]
  exact⟨hs,hc⟩
 ·have hi:(U++Z).length<=i*c:=by
   rw[aM,hl]
   have:=AD c (show t+1<=i by omega)
   rw[kF]at this
   omega
  rw[List.drop_of_length_le hi]
  exact⟨by simp,fun x hx y hy=>by simp at hy⟩
theorem BS.all{k:Nat->Int}{c:Nat}{D:List Nat}(h:BS k c D)(hl:D.length<=c):D.Pairwise (RI k):=by
 have:=h.first
 rwa[kH hl]at this
def pQ(k:Nat->Int)(xs:List Nat)(t:Nat)(U V:List Nat):Prop:=U.length=t*20∧BS k 20 U∧V.Pairwise (fun a b=>a<b)∧(∀x∈U,∀y∈V,x<y)∧(U++V).Perm xs
theorem pQ.start(k:Nat->Int){xs:List Nat}(h:xs.Pairwise (fun a b=>a<b)):pQ k xs 0 [] xs:=⟨by simp,BS.nil k 20,h,fun x hx=>by simp at hx,Fa _⟩
theorem S8{U V Z:List Nat}{n:Nat}(p:Z.Perm (V.take n)):(U++Z++V.drop n).Perm (U++V):=by
 have h:=((p.append_left U).append_right (V.drop n))
 rw[cE U (V.take n),jm]at h
 exact h
theorem pQ.next{k:Nat->Int}{xs U V Z:List Nat}{t:Nat}(h:pQ k xs t U V)(hV:20<=V.length)(p:Z.Perm (V.take 20))(s:Z.Pairwise (RI k)):pQ k xs (t+1) (U++Z) (V.drop 20):=by
 obtain⟨h1,h2,h3,h4,h5⟩:=h
 have hz:Z.length=20:=by rw[p.length_eq,dW];omega
 have hm:∀z∈Z,z∈V.take 20:=fun z hz=>p.mem_iff.1 hz
 have nB:(V.take 20++V.drop 20).Pairwise (fun a b=>a<b):=by rw[jm];exact h3
 rw[Xg]at nB
 refine⟨by rw[aM,h1,hz,kF],h2.snoc h1 (by omega) s fun x hx z hz=>h4 x hx z (qh (hm z hz)),nB.2.1,fun x hx y hy=> ?_,(S8 p).trans h5⟩
 rcases List.mem_append.1 hx with hx|hx
 ·exact h4 x hx y (Xh hy)
 ·exact nB.2.2 x (hm x hx) y hy
theorem pQ.last{k:Nat->Int}{xs U V Z:List Nat}{t:Nat}(h:pQ k xs t U V)(hV:V.length<20)(p:Z.Perm V)(s:Z.Pairwise (RI k)):BS k 20 (U++Z)∧(U++Z).Perm xs:=by
 obtain⟨h1,h2,h3,h4,h5⟩:=h
 exact⟨h2.snoc h1 (by rw[p.length_eq];omega) s fun x hx z hz=>h4 x hx z (p.mem_iff.1 hz),(p.append_left U).trans h5⟩
def nC(k:Nat->Int)(xs:List Nat)(C t:Nat)(U V:List Nat):Prop:=U.length=t*(2*C)∧BS k (2*C) U∧BS k C V∧(∀x∈U,∀y∈V,x<y)∧(U++V).Perm xs
theorem nC.start{k:Nat->Int}{xs D:List Nat}{C:Nat}(h:BS k C D)(p:D.Perm xs):nC k xs C 0 [] D:=⟨by simp,BS.nil k _,h,fun x hx=>by simp at hx,p⟩
theorem S9(V:List Nat)(C:Nat):V.take C++(V.drop C).take C=V.take (2*C):=by
 rw[Nat.two_mul,List.take_add]
theorem nC.next{k:Nat->Int}{xs U V Z:List Nat}{C t:Nat}(h:nC k xs C t U V)(hV:2*C<=V.length)(p:Z.Perm (V.take C++(V.drop C).take C))(s:Z.Pairwise (RI k)):nC k xs C (t+1) (U++Z) (V.drop (2*C)):=by
 obtain⟨h1,h2,h3,h4,h5⟩:=h
 rw[S9]at p
 have hz:Z.length=2*C:=by rw[p.length_eq,dW];omega
 have hm:∀z∈Z,z∈V.take (2*C):=fun z hz=>p.mem_iff.1 hz
 refine⟨by rw[aM,h1,hz,kF,AG],h2.snoc h1 (by omega) s fun x hx z hz=>h4 x hx z (qh (hm z hz)),h3.drop 2,fun x hx y hy=> ?_,(S8 p).trans h5⟩
 rcases List.mem_append.1 hx with hx|hx
 ·exact h4 x hx y (Xh hy)
 ·exact(h3 2).2 x (hm x hx) y hy
theorem nC.last{k:Nat->Int}{xs U V Z:List Nat}{C t:Nat}(h:nC k xs C t U V)(hV:V.length<2*C)(p:Z.Perm (V.take C++V.drop C))(s:Z.Pairwise (RI k)):BS k (2*C) (U++Z)∧(U++Z).Perm xs:=by
 obtain⟨h1,h2,h3,h4,h5⟩:=h
 rw[jm]at p
 exact⟨h2.snoc h1 (by rw[p.length_eq];omega) s fun x hx z hz=>h4 x hx z (p.mem_iff.1 hz),(p.append_left U).trans h5⟩
theorem nC.none{k:Nat->Int}{xs U V:List Nat}{C t:Nat}(h:nC k xs C t U V)(hV:V.length<=C):BS k (2*C) (U++V)∧(U++V).Perm xs:=by
 obtain⟨h1,h2,h3,h4,h5⟩:=h
 exact⟨h2.snoc h1 (by omega) (h3.all hV) fun x hx z hz=>h4 x hx z hz,h5⟩
end Go.Proofs.YtdagfcflbphoiaaGreatDoor
