import Derived.Test.YtmjolmggelkjlaaGreatMag
import Derived.Test.YtmjolmggelkjlaaGreatMaf
open Go.Proofs.Tryz renaming prog→aa
open Nat renaming le_refl→ah, zero_le→aO, le_succ→eL, lt_of_lt_of_le→fK, le_trans→gV, min_eq_left→ic, add_zero→iO, mod_lt→jF, mod_eq_of_lt→lh, add_assoc→vo, mul_comm→xI, mul_le_mul→AM, add_comm→FC, lt_of_le_of_lt→aba, div_le_self→aou, le_succ_of_le→aoI
open Go.Value renaming string→aM, int→eJ, slice→j3, agg→mM
open List renaming getD_eq_getElem?_getD→bz, getElem?_eq_getElem→bB, length_drop→bE, length_append→bG, replicate→bU, append_nil→bV, length_cons→cP, length_take→cT, getElem_mem→dO, append_assoc→ey, length_map→fS, range→gL, length_nil→iP, getElem?_map→jd, take_length→jf, drop_drop→jm, drop_zero→jz, length_replicate→j4, map_congr_left→oN, getElem?_eq_none→oP, length→pZ, map_append→qa, getElem?_cons_succ→vm, set_cons_succ→vt, length_filter_le→xK, all_eq_true→AK, take_append_drop→AP, countP_le_length→AS, mem_of_mem_take→Fq, range_succ→FK, filter_append→MJ, ext_getElem?→aaM, map_set→aoy, map_replicate→aoz, mem_of_mem_drop→aoC, pairwise_lt_range→aoE, getElem?_set→aoF, map_const'→aoM
open BitVec renaming ofInt→cb, ofInt_natCast→vq, toNat_ofNat→vr
open Bool renaming not_false→cf, and_self→dJ, not_true→eK
open Int renaming toNat_natCast→cV, lt_irrefl→eT, natCast_mul→aoL
open Option.some renaming injEq→dH, inj→vn
open UInt8 renaming ofNat→gU, toNat_ofNat'→abe
open Go.IntKind renaming u32→jG, bits→Fy, i64→aoH, wrap_u32'→aoJ, u64→aoK
open Prod.mk renaming injEq→lr
open Go.IntWalk renaming u64_in→MP
open List.Pairwise renaming filter→abg, nil→apk
set_option linter.unusedVariables false
set_option linter.unusedSimpArgs false
namespace Go.Proofs.YtmjolmggelkjlaaGreat
open Go.RowKit Ev Cn
def ik(l:List Bool):List Nat:=(gL 16).filter fun i=>l.getD i false
def hO:List Nat->List Bool->List Nat->Nat->St (List Nat)
 |[],_,a,u=> .ok a u
 |i::c,b,a,u=>if b.length<16 then .short else hO c (b.drop 16) (a++(ik (b.take 16)).map fun k=>16*i+k) (u+16)
def Lk:St (List Nat)->St (List Nat)
 | .ok [] _=> .bad 25
 |x=>x
def fA(bs:List Bool):St (List Nat):=if bs.length<16 then .short else Lk (hO (ik (bs.take 16)) (bs.drop 16) [] 16)
theorem Ll{l:List Bool}{i:Nat}(h:i∈ik l):i<16:=List.mem_range.1 (List.mem_filter.1 h).1
theorem YT(l:List Bool):(ik l).Pairwise (·<·):=abg _ aoE
structure Sy (s:List Nat):Prop where
 inc:s.Pairwise (·<·)
 lt:∀x∈s,x<256
theorem Sy.len{s:List Nat}(h:Sy s):s.length<=256:=by have:=(List.nodup_iff_pairwise_ne.2 (h.inc.imp fun q=>Nat.ne_of_lt q)).length_le_of_subset (l₂:=gL 256) fun x a=>List.mem_range.2 (h.lt x a);simpa using this
structure UI (ms acc:List Nat):Prop where
 pw:ms.Pairwise (·<·)
 lt:∀i∈ms,i<16
 ab:∀i∈ms,∀x∈acc,x<16*i
 sy:Sy acc
theorem UI.next{i:Nat}{f acc:List Nat}(k:UI (i::f) acc)(l:List Bool):UI f (acc++(ik l).map fun k=>16*i+k):=by
 have c:=List.pairwise_cons.1 k.pw;have g:=k.lt i jS
 have a:∀x∈(ik l).map (fun k=>16*i+k),16*i<=x∧x<16*i+16:=fun x m=>by obtain⟨k,n,rfl⟩:=List.mem_map.1 m;have:=Ll n;omega
 refine⟨c.2,fun j e=>k.lt j (by simp[e]),fun j e x d=> ?_,⟨?_,fun x b=> ?_⟩⟩
 ·have:=c.1 j e;rcases List.mem_append.1 d with q|q
  ·have:=k.ab i jS x q;omega
  ·have:=(a x q).2;omega
 ·rw[List.pairwise_append];refine⟨k.sy.inc,List.pairwise_map.2 ((YT _).imp fun q=>by omega),fun x b y h=> ?_⟩;have:=k.ab i jS x b;have:=(a y h).1;omega
 ·rcases List.mem_append.1 b with q|q
  ·exact k.sy.lt x q
  ·have:=(a x q).2;omega
theorem UI.zero(l:List Bool):UI (ik l) []:=⟨YT _,fun i b=>Ll b,fun i _ x a=>absurd a jS,⟨apk,fun x a=>absurd a jS⟩⟩
theorem YU:∀(a:List Nat) (bs:List Bool) (acc:List Nat) (u:Nat) (s:List Nat) (w:Nat),UI a acc->hO a bs acc u= .ok s w->Sy s∧w=u+16*a.length∧16*a.length<=bs.length
 |[],bs,acc,u,s,w,k,h=>by simp only[hO,St.ok.injEq]at h;obtain⟨rfl,rfl⟩:=h;exact⟨k.sy,jS,jS⟩
 |i::a,bs,acc,u,s,w,k,h=>by
  unfold hO at h;split at h
  ·cases h
  ·next hl=>obtain⟨c,d,b⟩:=YU a _ _ _ _ _ (k.next _) h;rw[bE]at b;simp only[cP];exact⟨c,jO,jO⟩
theorem uS{bs:List Bool}{s:List Nat}{u:Nat}(h:fA bs= .ok s u):Sy s∧s≠[]∧0<u∧u<=bs.length:=by
 unfold fA at h;split at h
 ·cases h
 ·next hl=>
  cases e:hO (ik (bs.take 16)) (bs.drop 16) [] 16 with
  |short=>rw[e]at h;cases h
  |bad x=>rw[e]at h;cases h
  |ok a w=>
   rw[e]at h;obtain⟨c,d,b⟩:=YU _ _ _ _ _ _ (UI.zero _) e;cases a with
   |nil=>cases h
   |cons x a=>simp only[Lk,St.ok.injEq]at h;obtain⟨rfl,rfl⟩:=h;rw[bE]at b;exact⟨c,jS,jO,jO⟩
theorem EC{bs:List Bool}{e:Int}(h:fA bs= .bad e):e=25:=by
 have f:∀(b:List Nat) (bs:List Bool) (a:List Nat) (u:Nat) (e:Int),hO b bs a u≠ .bad e:=by
  intro b
  induction b with
  |nil=>intro bs a u e h;cases h
  |cons i b g=>
   intro bs a u e h;unfold hO at h;split at h
   ·cases h
   ·exact g _ _ _ _ h
 unfold fA at h;split at h
 ·cases h
 ·cases c:hO (ik (bs.take 16)) (bs.drop 16) [] 16 with
  |short=>rw[c]at h;cases h
  |bad x=>exact absurd c (f _ _ _ _ _)
  |ok d w=>
   rw[c]at h;cases d with
   |nil=>cases h;rfl
   |cons x d=>cases h
structure Zr where
 n:Nat
 most:Nat
 told:Nat
 aR:Nat
 weight:Nat
 done:Bool
def eG(n most:Nat):Zr:=⟨n,most,0,0,1,false⟩
structure Zr.Ok (z:Zr):Prop where
 lo:1<=z.n
 hi:z.n<=256
 most:z.most<=1099511627776
 all:z.told+z.aR<=z.most
 w1:1<=z.weight
 w2:z.weight<=z.aR+1
 nd:z.done=false
theorem ED{n most:Nat}(h1:1<=n)(h2:n<=256)(a:most<=1099511627776):(eG n most).Ok:=⟨h1,h2,a,aO _,ah _,ah _,rfl⟩
def c6(z:Zr)(c:Nat):Option (Zr×Nat×Nat):=
 if z.n+1<c then none
 else if c<=1 then(if z.most<z.told+z.aR+z.weight*2^c then none else some ({z with aR:=z.aR+z.weight*2^c,weight:=2*z.weight},0,0))
 else if c=z.n+1 then some ({z with told:=z.told+z.aR,aR:=0,weight:=1,done:=true},z.aR,0)
 else if z.told+z.aR=z.most then none
 else some ({z with told:=z.told+1+z.aR,aR:=0,weight:=1},z.aR,c-1)
theorem EE{z a:Zr}{c n p:Nat}(k:z.Ok)(h:c6 z c=some (a,n,p)):(a.done=false->a.Ok)∧a.n=z.n∧a.most=z.most∧p<z.n∧(a.done=decide (c=z.n+1))∧n<=z.most∧a.told+a.aR<=z.most:=by
 have b:=k.lo;have all:=k.all;have f:=k.w1;have d:=k.w2;unfold c6 at h;split at h
 ·cases h
 ·next h0=>
  split at h
  ·next h1=>
   split at h
   ·cases h
   ·next h2=>
    simp only[dH,lr]at h;obtain⟨rfl,rfl,rfl⟩:=h;have g:z.weight<=z.weight*2^c:=Nat.le_mul_of_pos_right _ (Nat.pow_pos jD);refine⟨fun _=>⟨b,k.hi,k.most, ?_, ?_, ?_,k.nd⟩,rfl,rfl,jO, ?_,aO _, ?_⟩
    ·show z.told+(z.aR+z.weight*2^c)<=z.most;omega
    ·show 1<=2*z.weight;omega
    ·show 2*z.weight<=z.aR+z.weight*2^c+1;omega
    ·show z.done=_;rw[k.nd,decide_eq_false];omega
    ·show z.told+(z.aR+z.weight*2^c)<=z.most;omega
  ·next h1=>
   split at h
   ·next h2=>simp only[dH,lr]at h;obtain⟨rfl,rfl,rfl⟩:=h;exact⟨fun e=>(nomatch e),rfl,rfl,jO,(decide_eq_true h2).symm,jO,by show z.told+z.aR+0<=_;omega⟩
   ·next h2=>
    split at h
    ·cases h
    ·next h3=>
     simp only[dH,lr]at h;obtain⟨rfl,rfl,rfl⟩:=h;refine⟨fun _=>⟨b,k.hi,k.most, ?_,ah _,ah _,k.nd⟩,rfl,rfl,jO, ?_,jO, ?_⟩
     ·show z.told+1+z.aR+0<=z.most;omega
     ·show z.done=_;rw[k.nd,decide_eq_false h2]
     ·show z.told+1+z.aR+0<=z.most;omega
def cr:List Nat->List Nat->List Nat×List Nat
 |ord,[]=>([],ord)
 |ord,p::l=>(ord.getD p 0::(cr (db 0 ord p) l).1,(cr (db 0 ord p) l).2)
theorem Lm:∀(l k a:List Nat),cr a (l++k)=((cr a l).1++(cr (cr a l).2 k).1,(cr (cr a l).2 k).2)
 |[],k,a=>rfl
 |p::l,k,a=>by show(a.getD p 0::(cr (db 0 a p) (l++k)).1,(cr (db 0 a p) (l++k)).2)=_;rw[Lm l k];rfl
theorem EF:∀(l a:List Nat),(cr a l).1.length=l.length
 |[],_=>rfl
 |p::l,a=>by show((cr (db 0 a p) l).1.length)+1=l.length+1;rw[EF l]
theorem Ai{a:List Nat}{i:Nat}(h:i<a.length):(db 0 a i).length=a.length:=by unfold db;simp;omega
theorem YV{a:List Nat}{i x:Nat}(h:i<a.length)(hx:x∈db 0 a i):x∈a:=by
 unfold db at hx;rcases List.mem_cons.1 hx with rfl|hx
 ·rw[bz,bB h];exact dO _
 ·rcases List.mem_append.1 hx with q|q
  ·exact Fq q
  ·exact aoC q
theorem Ln{c c':Cd}{bs:List Bool}{sym:Int}{u:Nat}(k:hM c)(h:ed c bs= .ok (sym,c') u)(j:0<=sym):sym.toNat<c.size∧c'.done=decide (sym.toNat+1=c.size):=by
 unfold ed at h;split at h
 ·cases e:c8 c.pk bs with
  |short=>rw[e]at h;cases h
  |bad x=>rw[e]at h;cases h
  |ok s w=>rw[e]at h;simp only[St.ok.injEq,lr]at h;omega
 ·next hf=>
  split at h
  ·cases e:stepT c bs with
   |short=>rw[e]at h;cases h
   |bad x=>rw[e]at h;cases h
   |ok g w=>rw[e]at h;simp only[St.ok.injEq,lr]at h;omega
  ·next ht=>
   cases e:iV c bs with
   |short=>rw[e]at h;cases h
   |bad x=>rw[e]at h;cases h
   |ok d w=>
    obtain⟨s,g⟩:=d;rw[e]at h;simp only[St.ok.injEq,lr]at h;obtain⟨⟨rfl,rfl⟩,rfl⟩:=h;rw[cV];unfold iV at e;split at e
    ·cases e
    ·next hb=>
     split at e
     ·cases e
     ·next s' f=>
      simp only[St.ok.injEq,lr]at e;obtain⟨⟨rfl,rfl⟩,_⟩:=e;obtain⟨i,_,_⟩:=pF f;have fin:c.pk.fin=true:=by simpa using hf
      have a:c.aZ.getD (c.took.getD (c.count/50) 0) []∈c.aZ:=by
       have b:c.took.getD (c.count/50) 0<c.aZ.length:=by refine Eo k fin ht _ ?_;rw[bz,bB jO];exact dO _
       rw[bz,bB b];exact dO _
      have:=(k.wh _ a).2;exact⟨jO,rfl⟩
structure Rw where
 cd:Cd
 z:Zr
 ord:List Nat
 due:Nat
 place:Nat
def Rw.waits(r:Rw):Bool:=decide (0<r.due)||decide (0<r.place)
def m6(s:List Nat)(room:Nat):Rw:=⟨m4 (s.length+2),eG s.length room,s,0,0⟩
structure Bk where
 head:Bool
 sum:Nat
 bK:Nat
 row:Option Rw
 last:List Nat
 done:Bool
def jj:Bk:=⟨false,0,0,none,[],false⟩
def fB(b:Bk)(r:Rw)(u:Nat):St Bk:=if(r.cd.done&& !r.waits)=true then(if b.last.length<=b.bK then .bad 23 else .ok {b with done:=true} u)else .ok b u
def bR(r:Rw):Nat×Rw:=if 0<r.due then(r.ord.getD 0 0,{r with ord:=db 0 r.ord 0,due:=r.due-1})else(r.ord.getD r.place 0,{r with ord:=db 0 r.ord r.place,place:=0})
def iG(r:Rw)(bs:List Bool):St Rw:=match ed r.cd bs with
 | .short=> .short
 | .bad e=> .bad e
 | .ok (sym,cd) u=>if sym<0 then .ok {r with cd:=cd} u else match c6 r.z sym.toNat with
   |none=> .bad 25
   |some (z,n,p)=> .ok {r with cd:=cd,z:=z,due:=n,place:=p} u
def dp(room:Nat)(b:Bk)(bs:List Bool):St Bk:=
 if b.head=false then(if bs.length<57 then .short else if bs.getD 32 false=true then .bad 25 else .ok {b with head:=true,sum:=num (bs.take 32) 0,bK:=num ((bs.drop 33).take 24) 0} 57)
 else match b.row with
  |none=>match fA bs with
   | .short=> .short
   | .bad e=> .bad e
   | .ok s u=> .ok {b with row:=some (m6 s room)} u
  |some r=>if r.waits=true then fB {b with last:=b.last++[(bR r).1],row:=some (bR r).2} (bR r).2 0
   else match iG r bs with
    | .short=> .short
    | .bad e=> .bad e
    | .ok a u=>fB {b with row:=some a} a u
theorem aja{l:List Bool}{i:Nat}(h:i<l.length):num l 0/2^(l.length-1-i)%2=bn (l.getD i false):=by have e:=wL (l:=l) rfl;have:=xU l.length (num l 0) i h;rw[<-e]at this;rw[bz,this];exact(KP _).symm
def pM(l:List Bool)(i:Nat):List Nat:=(gL i).filter fun i=>l.getD i false
theorem YW(l:List Bool)(i:Nat):pM l (i+1)=pM l i++(if l.getD i false=true then [i]else []):=by
 unfold pM;rw[FK,MJ];cases h:l.getD i false
 ·rw[if_neg jD,List.filter_cons_of_neg (by rw[h];decide)];rfl
 ·rw[if_pos rfl,List.filter_cons_of_pos (by rw[h])];rfl
theorem ajb(l:List Bool)(i:Nat):(pM l i).length<=i:=by unfold pM;exact gV (xK _ _) jS
section
variable {Y d n:Nat} {h:H}
theorem YX(l:List Bool)(u:l.length=16)(A:100<=Y):af (fun _=>False) n (aj aa gt Y (d+1) 257 #[.int .u32 (num l 0:Int)]) h n fun v h' n'=>Own h' n n' 3 v (aV .i64 (iN (ik l))):=by
 rw[aB (fun _=>WN) rfl];refine af.aA ?_;unfold DJ
 refine dL 16 (fun g i (c:Value)=>r9 Y (aj aa gt Y d) g (DI Y (aj aa gt Y d)) (.int .u32 (num l 0:Int)) (.slice none 0 0) c (jI (i:Int)))
  (fun i c h' n'=>n<=n'∧Own h' n n' 3 c (aV .i64 (iN (pM l i)))) ?_ ?_ Y 0 (.slice none 0 0) h n (aO _) jO ⟨ah _,Own.nil _ _ _ _⟩
 ·rintro g c h' n' ⟨s,o⟩;rw[r9];refine jA @eT ?_
  (try unfold DI);(try dsimp only)
  refine jB ?_;exact o
 ·rintro g i c h' n' I ⟨s,o⟩ next;have x:(i:Int)<16:=jO;have p:IntKind.i64.wrap (15-(i:Int))=((15-i:Nat):Int):=by rw[aH jO jO];omega
  have q:(0:Int)<=((15-i:Nat):Int):=jO;have f:=fdiv_pow (num l 0) (15-i) (jG).bits (by simp[Fy];omega);rw[cV]at f;have y:=ig l;rw[u]at y;have b:=ahE (a:=num l 0/2^(15-i)) (aba (aou _ _) jO);have r:=aja (l:=l) (i:=i) jO;rw[u,show 16-1-i=15-i by omega]at r;rw[r]at b;have m:IntKind.i64.wrap ((i:Int)+1)=((i+1:Nat):Int):=by rw[aH jO jO];rfl
  have k:(i:Int)+1=((i+1:Nat):Int):=rfl;have t:(aV .i64 (iN (pM l i))).length=(pM l i).length:=by rw[eu,fi]
  have z:=ajb l i;have G:(0:Int)<=((num l 0/2^(15-i):Nat):Int):=Int.natCast_nonneg _;rw[r9];cases e:l.getD i false with
  |true=>
   rw[e]at b;have j:(((bn true:Nat):Int)==1)=true:=rfl;refine jA (aI @x (aI @p (aI @q (aI @f (aI @b @j))))) ?_;refine rL trivial (ke _ _) o jO (ah _) _ fun B C E=> ?_;refine jA (aI @m @k) ?_;refine next _ B (n'+2) ⟨jO, ?_⟩;have D:aV .i64 (iN (pM l (i+1)))=aV .i64 (iN (pM l i))++[jI (i:Int)]:=by rw[YW,e,if_pos rfl,pI,mY];rfl
   rw[D];exact Own.mk' C jO jO (by rw[bG];rfl)
  |false=>rw[e]at b;have j:(((bn false:Nat):Int)==1)=false:=rfl;refine jA (aI @x (aI @p (aI @q (aI @f (aI @b (aI @j (aI @m @k))))))) ?_;refine next c h' n' ⟨s, ?_⟩;rw[YW,e,if_neg jD,bV];exact o
def iq(acc:List Nat):List Value:=(gL 256).map fun x=>Value.bool (decide (x∈acc))
theorem qI(acc:List Nat):(iq acc).length=256:=by unfold iq;simp
theorem EG{acc:List Nat}{i:Nat}(h:i<256):(iq acc)[i]? =some (.bool (decide (i∈acc))):=by unfold iq;rw[jd,List.getElem?_range h];rfl
theorem ajc{acc:List Nat}{x:Nat}(h:x<256):(iq acc).set x (.bool true)=iq (acc++[x]):=by
 apply aaM;intro i;by_cases a:i<256
 ·rw[EG a,aoF];by_cases e:x=i
  ·subst e;rw[if_pos rfl,if_pos (by rw[qI];exact h)];simp
  ·rw[if_neg e,EG a]
   have:decide (i∈acc++[x])=decide (i∈acc):=by simp only[List.mem_append,List.mem_singleton,decide_eq_decide];exact⟨fun q=>q.resolve_right fun b=>e b.symm,.inl⟩
   rw[this]
 ·rw[oP (by rw[List.length_set,qI];omega),oP (by rw[qI];omega)]
def oj(acc:List Nat)(i:Nat):List Nat:=(gL i).filter fun x=>decide (x∈acc)
theorem YY(acc:List Nat)(i:Nat):oj acc (i+1)=oj acc i++(if i∈acc then [i]else []):=by unfold oj;rw[FK,MJ];by_cases h:i∈acc<;>simp[h]
theorem ajd(acc:List Nat)(i:Nat):(oj acc i).length<=i:=by unfold oj;exact gV (xK _ _) jS
theorem Lo:∀{a b:List Nat},a.Pairwise (·<·)->b.Pairwise (·<·)->(∀x,x∈a↔x∈b)->a=b
 |[],[],_,_,_=>rfl
 |[],y::b,_,_,h=>absurd ((h y).2 jS) jS
 |x::a,[],_,_,h=>absurd ((h x).1 jS) jS
 |x::a,y::b,g,f,h=>by
  obtain⟨d,j⟩:=List.pairwise_cons.1 g;obtain⟨c,i⟩:=List.pairwise_cons.1 f
  have e:x=y:=by
   rcases List.mem_cons.1 ((h x).1 jS)with q|q
   ·exact q
   ·have k:=c x q;rcases List.mem_cons.1 ((h y).2 jS)with q2|q2
    ·exact q2.symm
    ·have:=d y q2;omega
  subst e;rw[Lo j i fun z=>⟨fun q=> ?_,fun q=> ?_⟩]
  ·rcases List.mem_cons.1 ((h z).1 (by simp[q]))with q2|q2
   ·have:=d z q;omega
   ·exact q2
  ·rcases List.mem_cons.1 ((h z).2 (by simp[q]))with q2|q2
   ·have:=c z q;omega
   ·exact q2
theorem aje{acc:List Nat}(k:Sy acc):oj acc 256=acc:=by refine Lo (abg _ aoE) k.inc fun x=> ?_;unfold oj;rw[List.mem_filter];exact⟨fun q=>of_decide_eq_true q.2,fun q=>⟨List.mem_range.2 (k.lt x q),decide_eq_true q⟩⟩
theorem ajf{acc:List Nat}(k:Sy acc)(s:300<=Y):af (fun _=>False) n (aj aa gt Y (d+1) 258 #[.agg (iq acc).toArray]) h n fun v h' n'=>v= .string ⟨(bS acc).toArray⟩:=by
 rw[aB (fun _=>WV) rfl];refine af.aA ?_;unfold DK;refine gD trivial _ _ ?_;have x:=get_eq h n (some ⟨321,true,(mM (iq acc).toArray).cells.toList⟩);refine gE trivial trivial n 0 _ x jO (by show 0+256<=(iq acc).length;rw[qI];omega) ?_
 have z:(((mM (iq acc).toArray).cells.toList.drop 0).take 256)=iq acc:=by show((iq acc).drop 0).take 256=_;rw[jz,<-qI acc,jf]
 show af _ n (qE Y (aj aa gt Y d) Y (zL Y (aj aa gt Y d)) _ _ _ _ (.agg (((mM (iq acc).toArray).cells.toList.drop 0).take 256).toArray) _) _ _ _;rw[z]
 refine dL 256 (fun f i (c:Value)=>qE Y (aj aa gt Y d) f (zL Y (aj aa gt Y d)) (.agg (iq acc).toArray) (jP n 0) (.string ⟨#[]⟩) c (.agg (iq acc).toArray) (jI (i:Int)))
  (fun i c h' n'=>n<=n'∧Own h' n n' 5 c (b8 (oj acc i))) ?_ ?_ Y 0 (.slice none 0 0) _ (n+1) (aO _) jO ⟨jO,Own.nil _ _ _ _⟩
 ·rintro f c h' n' ⟨l,o⟩;rw[qE];have e:¬(((256:Nat):Int)<256):=jD;refine jA @e ?_
  (try unfold zL);(try dsimp only)
  refine XX o _ ?_;refine jB ?_;rw[aje k]
 ·rintro f i c h' n' p ⟨l,o⟩ next;have e:(i:Int)<256:=jO;have q:IntKind.u8.wrap (i:Int)=(i:Int):=w8 p;have j:IntKind.i64.wrap ((i:Int)+1)=((i+1:Nat):Int):=by rw[aH jO jO];rfl
  have g:(i:Int)+1=((i+1:Nat):Int):=rfl;have b:=EG (acc:=acc) p;have m:=gO (oj acc i);have r:=ajd acc i;rw[qE];by_cases a:i∈acc
  ·rw[decide_eq_true a]at b;refine jA (aI @e (aI @b @q)) ?_;refine rL trivial (ke _ _) o jO (ah _) _ fun t u A=> ?_;refine jA (aI @j @g) ?_;refine next _ t (n'+2) ⟨jO, ?_⟩;have y:b8 (oj acc (i+1))=b8 (oj acc i)++[.int .u8 (i:Int)]:=by rw[YY,if_pos a,D2];rfl
   rw[y];exact Own.mk' u jO jO (by rw[bG];rfl)
  ·rw[decide_eq_false a]at b;refine jA (aI @e (aI @b (aI @j @g))) ?_;refine next c h' n' ⟨l, ?_⟩;rw[YY,if_neg a,bV];exact o
end
def Aj(z:Zr):AB:=⟨328,true,[jI (z.n:Int),jI (z.most:Int),jI (z.told:Int),jI (z.aR:Int),jI (z.weight:Int),.bool z.done]⟩
structure oq (h:H) (n y:Nat) (z:Zr):Prop where
 get:h.get y=some (Aj z)
 lt:y<n
theorem oq.au{h h':H}{n n' y:Nat}{z:Zr}(x:oq h n y z)(a:n<=n')(b:h'.get y=h.get y):oq h' n' y z:=⟨b.trans x.get,fK x.lt a⟩
section
variable {Y d n y:Nat} {h:H} {z:Zr}
theorem ajg(k:Int):af (fun _=>False) n (aj aa gt Y (d+1) 261 #[jI k]) h n fun a h' n'=>a= .bool (decide (1<=k)&&decide (k<=256))∧h'=h∧n'=n:=by
 rw[aB (fun _=>W0) rfl];refine af.aA ?_;unfold Ko;by_cases c:1<=k
 ·exact jC @c
 ·exact jC @c
theorem ajh{k most:Nat}(h1:1<=k)(h2:k<=256)(c:most<=1099511627776):af (fun _=>False) n (aj aa gt Y (d+2) 248 #[jI (k:Int),jI (most:Int)]) h n fun v h' n'=>v= .tuple #[jP n 0,jI 0]∧n'=n+1∧oq h' n' n (eG k most):=by rw[aB (fun _=>WA) rfl];refine af.aA ?_;unfold Kd;refine bq (ajg (k:Int)) (ah _) (fun _ _ h=>h.elim) ?_;rw[decide_eq_true (show(1:Int)<=(k:Int) by omega),decide_eq_true (show(k:Int)<=256 by omega)];have b:¬((most:Int)<0):=jO;have a:¬((1099511627776:Int)<(most:Int)):=jO;refine jA (aI @dJ (aI @eK (aI @b @a))) ?_;refine gD trivial _ _ ?_;refine jB ?_;exact⟨get_eq _ _ _,jO⟩
theorem YZ(x:oq h n y z)(k:z.Ok):af (fun _=>False) n (aj aa gt Y (d+1) 270 #[jP y 0]) h n fun v h' n'=>v=jI ((z.told+z.aR:Nat):Int)∧h'=h∧n'=n:=by
 have g:=x.get;have b:=x.lt;unfold Aj at g;have:=k.all;have:=k.most;have a:IntKind.i64.wrap ((z.told:Int)+(z.aR:Int))=((z.told+z.aR:Nat):Int):=by rw[aH jO jO];rfl
 rw[aB (fun _=>Xg) rfl];refine af.aA ?_;unfold Kw;exact jC (aI @g @a)
theorem aji(x:oq h n y z)(k:z.Ok){c:Nat}(N:c<=1):af (fun b=>b=y) n (aj aa gt Y (d+2) 269 #[jP y 0,jI (c:Int)]) h n fun v h' n'=>n'=n∧
 if z.most<z.told+z.aR+z.weight*2^c then v=jI 2∧h'=h else v=jI 0∧oq h' n' y {z with aR:=z.aR+z.weight*2^c,weight:=2*z.weight}:=by
 have g:=x.get;have o:=x.lt;unfold Aj at g;have K:=k.all;have J:=k.most;have L:=k.w2
 have B:2^c<=2:=by have:c=0∨c=1:=jO;rcases this with rfl|rfl<;>decide
 have s:z.weight*2^c<=z.weight*2:=Nat.mul_le_mul_left _ B;obtain⟨q,p⟩:∃q,z.weight*2^c=q:=⟨_,rfl⟩;rw[p]at s⊢;have A:(0:Int)<=(c:Int):=jO
 have j:IntKind.i64.wrap ((z.weight:Int)*2^(min ((c:Int)).toNat (aoH).bits))=(q:Int):=by
  have e:min ((c:Int)).toNat (aoH).bits=c:=by rw[cV];exact ic (by simp[Fy];omega)
  have E:(z.weight:Int)*2^c=((z.weight*2^c:Nat):Int):=by push_cast;rfl
  rw[e,E,p,aH jO jO]
 rw[cV]at j;have i:IntKind.i64.wrap ((z.most:Int)-((z.told+z.aR:Nat):Int))=((z.most-(z.told+z.aR):Nat):Int):=by rw[aH jO jO];omega
 rw[aB (fun _=>Xf) rfl];refine af.aA ?_;unfold Kv;refine jA (aI @g (aI @A @j)) ?_;refine gF trivial y 1 _ g o (ah _) rfl fun Q m=> ?_;refine jB ?_;refine lV aF (YZ (Y:=Y) (d:=d) x k) (ah _) fun G O I P C D a l=> ?_;obtain⟨rfl,rfl,rfl⟩:=a;by_cases r:z.most<z.told+z.aR+q
 ·have f:((z.most-(z.told+z.aR):Nat):Int)<(q:Int):=jO;try simp(disch:=first|omega|assumption) only[Nat.reduceAdd,Nat.reduceLT,RZ,i,f,m.cy l,cf,dJ,dG]
  rw[if_pos r];all_goals (first|trivial|rfl|exact⟨rfl,rfl,rfl⟩|exact⟨rfl,rfl⟩)
 ·have f:¬((z.most-(z.told+z.aR):Nat):Int)<(q:Int):=jO;have u:IntKind.i64.wrap ((z.aR:Int)+(q:Int))=((z.aR+q:Nat):Int):=by rw[aH jO jO];rfl
  have t:IntKind.i64.wrap ((z.weight:Int)*2)=((2*z.weight:Nat):Int):=by rw[aH jO jO];omega
  try simp(disch:=first|omega|assumption) only[Nat.reduceAdd,Nat.reduceLT,RZ,i,f,m.cy l,cf,dJ,dG,g,u,t]
  rw[if_neg r];exact⟨get_eq _ _ _,o⟩
theorem ajj(x:oq h n y z)(k:z.Ok)(c:Nat)(hc:c<=1000):af (fun b=>b=y) n (aj aa gt Y (d+3) 256 #[jP y 0,jI (c:Int)]) h n fun v h' n'=>n'=n∧
 match c6 z c with
 |none=>∃e:Int,v= .tuple #[.int .i64 0,.int .i64 0,.int .i64 e]∧e≠0∧h'=h
 |some (N,m,p)=>∃q:Int,v= .tuple #[.int .i64 (m:Int),.int .i64 q,.int .i64 0]∧(q=(p:Int)∨q=-1∧p=0)∧oq h' n' y N:=by
 have g:=x.get;have B:=x.lt;unfold Aj at g;have ka:=k.all;have km:=k.most;have kh:=k.hi;rw[k.nd]at g;have u:¬((c:Int)<0):=jO;have o:IntKind.i64.wrap ((z.n:Int)+1)=((z.n+1:Nat):Int):=by rw[aH jO jO];rfl
 have L:((0:Int) !=0)=false:=rfl;have K:((2:Int) !=0)=true:=rfl;rw[aB (fun _=>WK) rfl];refine af.aA ?_;unfold Kl c6;by_cases t:z.n+1<c
 ·have f:((z.n+1:Nat):Int)<(c:Int):=jO;refine jA (aI @g (aI @u (aI @o @f))) ?_;rw[if_pos t]
  first|exact⟨25,rfl,jD⟩|exact⟨rfl,25,rfl,jD,rfl⟩|exact⟨25,rfl,jD,rfl⟩
 have f:¬((z.n+1:Nat):Int)<(c:Int):=jO;by_cases s:c<=1
 ·have i:(c:Int)<=1:=jO;refine jA (aI @g (aI @u (aI @o (aI @f @i)))) ?_;rw[if_neg t,if_pos s];refine aN aF (aji (Y:=Y) (d:=d) x k s) (ah _) (fun b _ T=> .inr T) fun Z h1 n1 R W a=> ?_;obtain⟨rfl,a⟩:=a;by_cases r:z.most<z.told+z.aR+z.weight*2^c
  ·rw[if_pos r]at a;obtain⟨rfl,rfl⟩:=a;rw[if_pos r];refine jA @K ?_
   first|exact⟨2,rfl,jD⟩|exact⟨rfl,2,rfl,jD,rfl⟩|exact⟨2,rfl,jD,rfl⟩
  ·rw[if_neg r]at a;obtain⟨rfl,O⟩:=a;rw[if_neg r];refine jA @L ?_;exact⟨-1,rfl,(by first|exact .inr ⟨rfl,rfl⟩|exact .inr rfl),O⟩
 have i:¬(c:Int)<=1:=jO;have E:IntKind.i64.wrap ((c:Int)-1)=((c-1:Nat):Int):=by rw[aH jO jO];omega
 by_cases D:c=z.n+1
 ·have l:((c:Int)==((z.n+1:Nat):Int))=true:=by rw[D];exact beq_iff_eq.2 rfl
  have A:IntKind.i64.wrap ((z.told:Int)+(z.aR:Int))=((z.told+z.aR:Nat):Int):=by rw[aH jO jO];rfl
  refine jA (aI @g (aI @u (aI @o (aI @f (aI @i (aI @E (aI @l @A))))))) ?_;rw[if_neg t,if_neg s,if_pos D];exact⟨-1,rfl,(by first|exact .inr ⟨rfl,rfl⟩|exact .inr rfl),get_eq _ _ _,B⟩
 ·have l:((c:Int)==((z.n+1:Nat):Int))=false:=beq_eq_false_iff_ne.2 jO;refine jA (aI @g (aI @u (aI @o (aI @f (aI @i (aI @E @l)))))) ?_;rw[if_neg t,if_neg s,if_neg D];refine lV aF (YZ (Y:=Y) (d:=d+1) x k) (ah _) fun X h2 n2 T2 Q U C G=> ?_;obtain⟨rfl,rfl,rfl⟩:=C;refine jB ?_;refine gF trivial y 1 _ g B (ah _) rfl fun T1 I=> ?_;by_cases J:z.told+z.aR=z.most
  ·have j:(((z.told+z.aR:Nat):Int)==(z.most:Int))=true:=beq_iff_eq.2 jO;try simp(disch:=first|omega|assumption) only[Nat.reduceAdd,Nat.reduceLT,RZ,j,G.cy I,cf,dJ,dG]
   rw[if_pos J]
   first|exact⟨2,rfl,jD⟩|exact⟨rfl,2,rfl,jD,rfl⟩|exact⟨2,rfl,jD,rfl⟩
  ·have j:(((z.told+z.aR:Nat):Int)==(z.most:Int))=false:=beq_eq_false_iff_ne.2 jO;have A:IntKind.i64.wrap ((z.told:Int)+1)=((z.told+1:Nat):Int):=by rw[aH jO jO];rfl
   have P:IntKind.i64.wrap (((z.told+1:Nat):Int)+(z.aR:Int))=((z.told+1+z.aR:Nat):Int):=by rw[aH jO jO];rfl
   try simp(disch:=first|omega|assumption) only[Nat.reduceAdd,Nat.reduceLT,RZ,j,G.cy I,cf,dJ,dG,g,A,P]
   rw[if_neg J];refine⟨((c-1:Nat):Int),rfl,.inl rfl, ?_,B⟩;rw[get_eq];unfold Aj;rw[k.nd];rfl
end
section
variable {β:Type} {W:Nat->Prop} {n0:Nat} {h:H} {n:Nat} {Q:β->H->Nat->Prop}
theorem ajk {b off a f d r j:Nat} {e:TypeId} {cs:List Value} (o:h.get b=some ⟨e,true,cs⟩) (p:b<n) (h1:cs.all one=true) (C:d<=f) (h2:0<d) (E:off+d<=cs.length) (D:a+d<=cs.length) (A:n0<=b∨W b) (k:Value->M β)
 (x:∀h',h'.get b=some ⟨e,true,cs.take off++(cs.drop a).take d++cs.drop (off+d)⟩->(∀c,c≠b->h'.get c=h.get c)->af W n0 (k (jI (d:Int))) h' n Q):af W n0 (BN 1 (.slice (some ⟨b,off,none⟩) f r) (.slice (some ⟨b,a,none⟩) d j) k) h n Q:=by
 obtain⟨s,K,J⟩:=rK o p d a D;have i:((cs.drop a).take d).length=d:=by simp;omega
 have l:((cs.drop a).take d).all one=true:=by rw[AK]at h1⊢;exact fun v B=>h1 v (aoC (Fq B))
 obtain⟨h',L,f1,f2,f3,f4⟩:=Hv _ b off e cs h n o p (by rw[i];exact E) l;rw[i]at f2;refine jQ (m:=tD 1 _ _) ?_;have u:Nat.min d f=d:=ic C
 have I:tD 1 (.slice (some ⟨b,off,none⟩) f r) (.slice (some ⟨b,a,none⟩) d j) h n=some ⟨jI (d:Int),h',n,s++(L++[])⟩:=by
  show(if 0<Nat.min d f then(rG 1 (Nat.min d f) (.slice (some ⟨b,a,none⟩) d j)).bind (fun t=>(nJ b off t).bind fun _=>M.ret (jI (Nat.min d f)))else M.ret (jI 0)) h n=_;rw[u,if_pos h2]
  have G:rG 1 d (.slice (some ⟨b,a,none⟩) d j) h n=some ⟨(cs.drop a).take d,h,n,s⟩:=by rw[qp];show cR b a (d*1) h n=_;rw[Nat.mul_one];exact K
  exact bW G (by rw[yg];exact bW f1 rfl)
 refine af.step (jL I) (ah _) (fun y z g=> ?_) (x h' f2 f3);have:=(List.mem_filter.1 z).1;rw[bV]at this;rcases List.mem_append.1 this with q|q
 ·rw[J y q]at g;cases g
 ·rw[f4 y q];exact A
theorem ajl{c g f d:Nat}{a b:Option Addr}(h2:g=0)(k:Value->M β)(x:af W n0 (k (jI 0)) h n Q):af W n0 (BN 1 (.slice a c f) (.slice b g d) k) h n Q:=by
 subst h2
 have e:tD 1 (.slice a c f) (.slice b 0 d)=M.ret (jI 0):=by
  have i:¬0<Nat.min 0 c:=by have:Nat.min 0 c=0:=Nat.zero_min c;omega
  simp only[tD,iz,i,if_false]
 show af W n0 (eA (tD 1 (.slice a c f) (.slice b 0 d)) k) h n Q;rw[e,lT,adT];exact x
theorem ajm{e:TypeId}(l:List UInt8)(a:l.length<=1099511627776)(k:Value->M β)(x:af W n0 (k (.slice (some ⟨n,0,none⟩) l.length (bo+l.length))) (h.set n (some ⟨e,true,l.map fun b=>eJ .u8 (b.toNat:Int)⟩)) (n+1) Q):af W n0 (vR e (.string ⟨l.toArray⟩) k) h n Q:=by
 have c:vR e (.string ⟨l.toArray⟩) k=eA ((jM e (l.map fun(b:UInt8)=>eJ .u8 (b.toNat:Int))).bind fun id=>M.ret (j3 (some ⟨id,0,none⟩) l.length (bo+l.length))) k:=by
  show(match Nat.ble (jt l) 1099511627776 with
   |true=>eA ((jM e (l.map fun(b:UInt8)=>eJ .u8 (.ofNat b.toNat))).bind fun id=>M.ret (j3 (some ⟨id,0,none⟩) (jt l) (bo+jt l))) k
   |false=> .fail)=_
  rw[pe,Nat.ble_eq_true_of_le a];rfl
 rw[c];exact jQ (tJ (pr _ _ (fun id=>j3 (some ⟨id,0,none⟩) l.length (bo+l.length)) _ _) (eL n) x)
end
structure m7 (h:H) (n l:Nat) (v:Value) (ord:List Nat):Prop where
 get:h.get l=some ⟨317,true,[v]⟩
 lt:l<n
 own:Own h 0 n 5 v (b8 ord)
theorem m7.au{h h':H}{n n' l:Nat}{v:Value}{a:List Nat}(x:m7 h n l v a)(d:n<=n')(e:h'.get l=h.get l)(c:∀b,aK v b->h'.get b=h.get b):m7 h' n' l v a:=⟨e.trans x.get,fK x.lt d,x.own.au d c⟩
theorem ajn{a:List Nat}{i:Nat}(h:i<a.length):(b8 a)[i]? =some (.int .u8 ((a.getD i 0:Nat):Int)):=by unfold b8;rw[jd,bB h,bz,bB h];rfl
theorem EH(a:List Nat):(b8 a).all one=true:=by rw[AK];intro v b;obtain⟨x,_,rfl⟩:=List.mem_map.1 b;rfl
theorem ajo{a:List Nat}{i:Nat}(h:i<a.length):((b8 a).take 1++((b8 a).drop 0).take i++(b8 a).drop (1+i)).set 0 (.int .u8 ((a.getD i 0:Nat):Int))=b8 (db 0 a i):=by
 obtain⟨x,o,rfl⟩:∃x o,a=x::o:=by
  cases a with
  |nil=>simp at h
  |cons x o=>exact⟨x,o,rfl⟩
 unfold db b8;simp only[FC 1 i,List.map_cons,qa,List.map_take,List.map_drop,jz];rfl
section
variable {Y d n l:Nat} {h:H} {v:Value} {ord:List Nat}
theorem ajp(x:m7 h n l v ord){i:Nat}(y:i<ord.length)(z:ord.length<=1000):af (fun b=>aK v b) n (aj aa gt Y (d+1) 250 #[jP l 0,jI (i:Int)]) h n fun r h' n'=>r= .int .u8 ((ord.getD i 0:Nat):Int)∧n'=n∧m7 h' n' l v (db 0 ord i):=by
 have g:=x.get;have G:=x.lt
 obtain⟨o,rfl,j,_,p⟩:∃o,v= .slice (some ⟨o,0,none⟩) ord.length (bo+ord.length)∧h.get o=some ⟨5,true,b8 ord⟩∧0<=o∧o<n:=by
  rcases x.own with ⟨_,e⟩|⟨o,A,a,J,I⟩
  ·have:ord.length=0:=by rw[<-gO ord,e];rfl
   omega
  ·rw[gO]at A;exact⟨o,A,a,J,I⟩
 have k:l≠o:=lY g j (by decide:(317:Nat)≠5);have m:aK (.slice (some ⟨o,0,none⟩) ord.length (bo+ord.length)) o:=⟨_,_,_,rfl⟩;have s:=gO ord;have L:=ajn y;have C:IntKind.i64.wrap ((i:Int)+1)=((i+1:Nat):Int):=by rw[aH jO jO];rfl
 have cap:bo=1152921504606846976:=rfl;rw[aB (fun _=>WD) rfl];refine af.aA ?_;unfold Kf;have ii:(i:Int)<((ord.length:Nat):Int):=jO;have E:(0:Int)<((ord.length:Nat):Int):=jO;refine jA (aI @g (aI @j (aI @L (aI @ii @C)))) ?_;refine Cc trivial j rfl p 0 ord.length (bo+ord.length) (some (jI 1)) (some (jI ((i+1:Nat):Int))) (l:=1) (hh:=i+1) (tM .i64 1 0) (tM .i64 (i+1) _) jO jO jO _ trivial ?_;refine jA @g ?_;refine Cc trivial j rfl p 0 ord.length (bo+ord.length) none (some (jI (i:Int))) (l:=0) (hh:=i) (yB 0) (tM .i64 i _) jO jO jO _ trivial ?_;rw[if_neg jO,if_neg jO]
 have fin:∀a,a.get o=some ⟨5,true,(b8 ord).take 1++((b8 ord).drop 0).take i++(b8 ord).drop (1+i)⟩->(∀c,c≠o->a.get c=h.get c)->
  af (fun b=>aK (.slice (some ⟨o,0,none⟩) ord.length (bo+ord.length)) b) n (ak (jP l 0) fun c=>ay 0 c fun d=>aP d fun e=>bQ e (jI 0) fun f=>aJ f (.int .u8 ((ord.getD i 0:Nat):Int)) fun _=>ag [.int .u8 ((ord.getD i 0:Nat):Int)]) a n fun r h' n'=>r= .int .u8 ((ord.getD i 0:Nat):Int)∧n'=n∧m7 h' n' l (.slice (some ⟨o,0,none⟩) ord.length (bo+ord.length)) (db 0 ord i):=fun a q t=>by
  have B:=(t l k).trans g;have u:0<((b8 ord).take 1++((b8 ord).drop 0).take i++(b8 ord).drop (1+i)).length:=by simp[s];omega
  refine jA (aI @B (aI @E (aI @q (aI @m @u)))) ?_;refine⟨(aw _ _ k).trans B,G, ?_⟩;have D:=Ai y;refine .inr ⟨o,by rw[gO,D], ?_,aO _,p⟩;rw[get_eq,ajo y]
 by_cases K:i=0
 ·refine ajl jO _ ?_;refine fin h ?_ fun _ _=>rfl;rw[j];subst K;congr 2;rw[List.take_zero,bV,iO,AP]
 ·refine ajk j p (EH _) jO jO (by rw[s];omega) (by rw[s];omega) (.inr m) _ fun a q t=> ?_;rw[Nat.sub_zero]at q;exact fin a q t
theorem ajq(x:m7 h n l v ord){i:Nat}(t:i<ord.length)(f:ord.length<=1000):af (fun b=>aK v b) n (aj aa gt Y (d+2) 240 #[jP l 0,jI (i:Int)]) h n fun q h' n'=>q= .tuple #[.int .u8 ((ord.getD i 0:Nat):Int),jI 0]∧n'=n∧m7 h' n' l v (db 0 ord i):=by
 have g:=x.get;have D:=x.lt
 obtain⟨a,c,r⟩:∃a c,v= .slice a ord.length c:=by
  rcases x.own with ⟨j,e⟩|⟨o,j,_⟩
  ·have:ord.length=0:=by rw[<-gO ord,e];rfl
   omega
  ·rw[gO]at j;exact⟨_,_,j⟩
 have m:=g;rw[r]at m;have A:¬((i:Int)<0):=jO;have z:¬(((ord.length:Nat):Int)<=(i:Int)):=jO;rw[aB (fun _=>Wn) rfl];refine af.aA ?_;unfold J8;refine jA (aI @m (aI @A @z)) ?_;refine aN aF (ajp (Y:=Y) (d:=d) x t f) (ah _) (fun b _ u=> .inr u) fun B j C s y k=> ?_;obtain⟨rfl,rfl,p⟩:=k;refine jB ?_;exact p
theorem ajr{s:List Nat}(k:Sy s)(z:s≠[])(x:300<=Y):af (fun _=>False) n (aj aa gt Y (d+1) 262 #[.string ⟨(bS s).toArray⟩]) h n fun u h' n'=>u= .bool true∧h'=h∧n'=n:=by
 have E:=k.len;have m:(bS s).length=s.length:=by unfold bS;simp
 rw[aB (fun _=>W4) rfl];refine af.aA ?_;unfold DM;refine jB ?_;rw[m]
 refine dL s.length (fun g i (q:Unit)=>sb Y (aj aa gt Y d) g (DL Y (aj aa gt Y d)) (.string ⟨(bS s).toArray⟩) (.bool false) (jI ((s.length:Nat):Int)) (jI (i:Int)))
  (fun i q h' n'=>h'=h∧n'=n) ?_ ?_ Y 0 () h n (aO _) jO ⟨rfl,rfl⟩
 ·rintro g q h' n' ⟨rfl,rfl⟩;rw[sb];refine jA @eT ?_
  (try unfold DL);(try dsimp only)
  have e:decide ((bS s)=([]:List UInt8))=false:=decide_eq_false fun e=>z (by
   rw[e]at m
   exact List.length_eq_zero_iff.1 m.symm)
  exact jC @e
 ·rintro g i q h' n' b ⟨rfl,rfl⟩ next;have r:(i:Int)<((s.length:Nat):Int):=jO;have p:IntKind.i64.wrap ((i:Int)+1)=((i+1:Nat):Int):=by rw[aH jO jO];rfl
  have o:(i:Int)+1=((i+1:Nat):Int):=rfl;rw[sb];by_cases y:i=0
  ·have l:¬((0:Int)<(i:Int)):=jO;refine jA (aI @r (aI @l (aI @p @o))) ?_;exact next () _ _ ⟨rfl,rfl⟩
  ·have l:(0:Int)<(i:Int):=jO;have t:IntKind.i64.wrap ((i:Int)-1)=((i-1:Nat):Int):=by rw[aH jO jO];omega
   have D:(0:Int)<=((i-1:Nat):Int):=jO;have C:((i-1:Nat):Int)<(((bS s).length:Nat):Int):=jO;have B:(i:Int)<(((bS s).length:Nat):Int):=jO
   have at_:∀j,j<s.length->(((bS s).getD j 0).toNat:Int)=((s.getD j 0:Nat):Int)∧s.getD j 0<256:=fun j a=>by
    have f:s.getD j 0=s[j]:=by rw[bz,bB a];rfl
    have c:=k.lt s[j] (dO a);rw[f];unfold bS;rw[bz,jd,bB a];show((gU s[j]).toNat:Int)=_∧_;rw[abe,lh jO];exact⟨rfl,c⟩
   have i1:=(at_ i b).1;have v:=(at_ (i-1) jO).1
   have lt:s.getD (i-1) 0<s.getD i 0:=by
    have f:s.getD i 0=s[i]:=by rw[bz,bB b];rfl
    have c:s.getD (i-1) 0=s[i-1]:=by rw[bz,bB jO];rfl
    rw[f,c];exact List.pairwise_iff_getElem.1 k.inc (i-1) i jO b jO
   have A:¬(((s.getD i 0:Nat):Int)<=((s.getD (i-1) 0:Nat):Int)):=jO;refine jA (aI @r (aI @l (aI @t (aI @D (aI @C (aI @B (aI @i1 (aI @v (aI @A (aI @p @o)))))))))) ?_;exact next () _ _ ⟨rfl,rfl⟩
theorem ajs{s:List Nat}(k:Sy s)(g:s≠[])(a:300<=Y):af (fun _=>False) n (aj aa gt Y (d+2) 249 #[.string ⟨(bS s).toArray⟩]) h n fun c h' n'=>c= .tuple #[jP (n+1) 0,jI 0]∧n'=n+2∧∃o,m7 h' n' (n+1) o s∧∀b,aK o b->b=n:=by
 have j:=k.len;have i:(bS s).length=s.length:=by unfold bS;simp
 rw[aB (fun _=>WC) rfl];refine af.aA ?_;unfold Ke;refine bq (ajr (d:=d) k g a) (ah _) (fun _ _ h=>h.elim) ?_;refine jA @eK ?_;refine ajm _ jO _ ?_;refine jB ?_;refine gD trivial _ _ ?_;refine jB ?_;refine⟨_,⟨get_eq _ _ _,jO, ?_⟩,fun b f=>f.inj⟩;refine .inr ⟨n,by rw[i,gO], ?_,aO _,jO⟩;rw[aw _ _ jO,get_eq];congr 2;unfold bS b8;rw[List.map_map];refine oN fun x e=> ?_;have:=k.lt x e;show eJ .u8 ((gU x).toNat:Int)=_;rw[abe,lh jO]
end
section
variable {β:Type} {W:Nat->Prop} {n0:Nat} {h:H} {n:Nat} {Q:β->H->Nat->Prop}
theorem ajt{lo:Nat}{e:TypeId}{v:Value}{ws:List Nat}(o:Own h lo n e v (b8 ws)):∃L,hC v M.ret h n=some ⟨.string ⟨(bS ws).toArray⟩,h,n,L⟩∧∀x∈L,x.wr=false∧aK v x.b:=by
 rcases o with ⟨rfl,m⟩|⟨b,rfl,f,_,g⟩
 ·have:ws=[]:=by
   cases ws with
   |nil=>rfl
   |cons x l=>simp[b8]at m
  subst this;exact⟨[],rfl,jS⟩
 ·obtain⟨L,k,a⟩:=D6 f g (b8 ws).length 0 (by show 0+(b8 ws).length<=(b8 ws).length;omega);have j:((b8 ws).drop 0).take (b8 ws).length=b8 ws:=by rw[jz,jf]
  have i:((gZ b 0 (b8 ws).length).bind fun c=>match j8 c with
   |some l=>M.ret (aM ⟨⟨l⟩⟩)
   |none=> .fail) h n=some ⟨.string ⟨(bS ws).toArray⟩,h,n,L++[]⟩:=by
   rw[mq];refine bW k ?_
   show(match j8 (((b8 ws).drop 0).take (b8 ws).length)with
    |some l=>M.ret (aM ⟨⟨l⟩⟩)
    |none=>M.fail) h n=_
   rw[j,D3];rfl
  refine⟨_,mW i,fun x d=> ?_⟩;have:=(List.mem_filter.1 d).1;rw[bV]at this;exact⟨(a x this).1,_,_,_,by rw[(a x this).2]⟩
theorem aju{lo m:Nat}{e:TypeId}{v:Value}{ws:List Nat}(o:Own h lo m e v (b8 ws))(d:m<=n)(k:Value×Tk->M β)(y:∀T,RB T m->af W n0 (k (.string ⟨(bS ws).toArray⟩,T)) h n Q):af W n0 ((az (hC v M.ret)).bind k) h n Q:=by obtain⟨L,f,b⟩:=ajt (o.au d fun _ _=>rfl);exact lG f (ah _) (fun x a c=>by rw[(b x a).1]at c;cases c) (y _ ⟨fun x a=>(b x a).1,fun x a=>(o.lt (b x a).2).2,d⟩)
end
structure Bm where
 b:Nat
 lv:Value
 x:Nat
 z:Nat
 m:Cm
 y:Nat
 l:Nat
 ov:Value
def qJ(r:Rw)(m:Bm):AB:=⟨212,true,[jP m.z 0,jP m.y 0,jP m.l 0,jI (r.due:Int),jI (r.place:Int)]⟩
structure gS (h:H) (n:Nat) (L:Nat->Nat) (p:Nat) (r:Rw) (m:Bm):Prop where
 get:h.get m.x=some (qJ r m)
 lt:m.x<n
 lx:L m.x=4
 cd:cI h n m.z p r.cd m.m
 lc:∀c,(m.m.F m.z c∨aK m.m.tv c∨∃w∈m.m.iv,w.1<=c∧c<w.2.1)->L c=5
 zr:oq h n m.y r.z
 ly:L m.y=6
 li:m7 h n m.l m.ov r.ord
 ll:L m.l=7
 lo:∀c,aK m.ov c->L c=8
theorem gS.au{h h':H}{n n':Nat}{L L':Nat->Nat}{p:Nat}{r:Rw}{m:Bm}(x:gS h n L p r m)(d:n<=n')(b:∀c,c<n->L' c=L c)(a:∀c,c<n->4<=L c->L c<=8->h'.get c=h.get c):gS h' n' L' p r m:=by
 have cn:∀c,(m.m.F m.z c∨aK m.m.tv c∨∃w∈m.m.iv,w.1<=c∧c<w.2.1)->c<n:=fun c hc=>by
  rcases hc with hc|hc|⟨w,g,_,hc⟩
  ·exact x.cd.tA hc
  ·exact x.cd.took.lt hc
  ·have:=(x.cd.iv g).2.1;omega
 have e:∀c,aK m.ov c->c<n:=fun c hc=>(x.li.own.lt hc).2
 exact⟨(a _ x.lt (by rw[x.lx];omega) (by rw[x.lx];omega)).trans x.get,fK x.lt d,(b _ x.lt).trans x.lx,
  x.cd.au d fun c hc f=>a c hc (by rw[x.lc c f];omega) (by rw[x.lc c f];omega),
  fun c hc=>(b c (cn c hc)).trans (x.lc c hc),
  x.zr.au d (a _ x.zr.lt (by rw[x.ly];omega) (by rw[x.ly];omega)),(b _ x.zr.lt).trans x.ly,
  x.li.au d (a _ x.li.lt (by rw[x.ll];omega) (by rw[x.ll];omega)) fun c hc=>a c (e c hc) (by rw[x.lo c hc];omega) (by rw[x.lo c hc];omega),
  (b _ x.li.lt).trans x.ll,fun c hc=>(b c (e c hc)).trans (x.lo c hc)⟩
def uT(o:Option Rw)(x:Nat):Value:=match o with
 |none=> .pointer none
 |some _=> .pointer (some ⟨x,0,none⟩)
def iW(room:Nat)(k:Bk)(m:Bm)(a:Int):AB:=⟨207,true,[uT k.row m.x,jI (room:Int),.bool k.head,.int .u32 (k.sum:Int),jI (k.bK:Int),m.lv,.bool k.done,jI a]⟩
structure eH (h:H) (n:Nat) (L:Nat->Nat) (p room:Nat) (k:Bk) (m:Bm) (dM:Int):Prop where
 get:h.get m.b=some (iW room k m dM)
 lt:m.b<n
 lb:L m.b=2
 last:Own h 0 n 5 m.lv (b8 k.last)
 ll:∀c,aK m.lv c->L c=3
 row:∀r,k.row=some r->gS h n L p r m
theorem eH.au{h h':H}{n n':Nat}{L L':Nat->Nat}{p room:Nat}{k:Bk}{m:Bm}{a:Int}(x:eH h n L p room k m a)(d:n<=n')(f:∀c,c<n->L' c=L c)(e:∀c,c<n->2<=L c->L c<=8->h'.get c=h.get c):eH h' n' L' p room k m a:=
 ⟨(e _ x.lt (by rw[x.lb];omega) (by rw[x.lb];omega)).trans x.get,fK x.lt d,(f _ x.lt).trans x.lb,
   x.last.au d fun c b=>e c (x.last.lt b).2 (by rw[x.ll c b];omega) (by rw[x.ll c b];omega),fun c b=>(f c (x.last.lt b).2).trans (x.ll c b),
   fun r g=>(x.row r g).au d f fun c b j i=>e c b jO i⟩
theorem eH.put{h h':H}{n:Nat}{L:Nat->Nat}{p room:Nat}{k:Bk}{m:Bm}{b:Int}(x:eH h n L p room k m b){d:Bk}{a:Int}(j:h'.get m.b=some (iW room d m a))(i:∀c,c≠m.b->h'.get c=h.get c)(h1:d.last=k.last)(h2:d.row=k.row):eH h' n L p room d m a:=by have ne:∀{c},L c≠2->h'.get c=h.get c:=fun f=>i _ fun e=>f (by rw[e];exact x.lb);exact⟨j,x.lt,x.lb,by rw[h1];exact x.last.au (ah _) fun c f=>ne (by rw[x.ll c f];decide),x.ll,fun r g=>(x.row r (by rw[<-h2];exact g)).au (ah _) (fun _ _=>rfl) fun c _ l _=>ne jO⟩
def WB(L:Nat->Nat):Nat->Prop:=fun c=>1<=L c∧L c<=8
theorem aY.apart{h h':H}{n n' p:Nat}{S:List UInt8}{D A:Nat}{L:Nat->Nat}(x:aY h n p S D A)(a:L p=1)(b:n<=n')(d:∀c,c<n->L c=1->h'.get c=h.get c):aY h' n' p S D A:=x.au b (d p x.lt a)
section
variable {Y d n p room:Nat} {h:H} {S:List UInt8} {D A:Nat} {L:Nat->Nat} {k:Bk} {m:Bm} {dM:Int}
theorem ajv(e:5<=room)(g:room<=900000):af (fun _=>False) n (aj aa gt Y (d+1) 189 #[jI (room:Int)]) h n fun v h' n'=>v= .tuple #[jP n 0,jI 0]∧n'=n+1∧∀(L:Nat->Nat) (m:Bm) (p:Nat),L n=2->m.b=n->m.lv= .slice none 0 0->eH h' n' L p room jj m 0:=by rw[aB (fun _=>UZ) rfl];refine af.aA ?_;unfold Jy;have k:¬((room:Int)<5):=jO;have j:¬((900000:Int)<(room:Int)):=jO;refine jA (aI @k @j) ?_;refine gD trivial _ _ ?_;refine jB ?_;intro L m p i b a;refine⟨by rw[b,get_eq];unfold iW;rw[a];rfl,by rw[b];omega,by rw[b];exact i,by rw[a];exact Own.nil _ _ _ _,fun c f=> ?_,fun r e=>(nomatch e)⟩;rw[a]at f;exact f.not_nil.elim
theorem Y0(y:eH h n L p room k m dM):af (fun _=>False) n (aj aa gt Y (d+1) 191 #[jP m.b 0]) h n fun v h' n'=>v= .bool k.done∧h'=h∧n'=n:=by have g:=y.get;have a:=y.lt;unfold iW at g;rw[aB (fun _=>U1) rfl];refine af.aA ?_;unfold JA;exact jC @g
theorem ajw(y:eH h n L p room k m dM)(hd:k.done=true):af (fun _=>False) n (aj aa gt Y (d+2) 192 #[jP m.b 0]) h n fun v h' n'=>v= .agg #[.string ⟨(bS k.last).toArray⟩,jI (k.bK:Int),.int .u32 (k.sum:Int)]:=by
 have g:=y.get;have s:=y.lt;unfold iW at g;rw[aB (fun _=>U2) rfl];refine af.aA ?_;unfold JB;refine dX rfl _ ?_;have b:=y.au (eL n) (L':=L) (h':=h.set n (some ⟨134,true,[.string ⟨#[]⟩,jI 0,.int .u32 0]⟩)) (fun _ _=>rfl) fun c r _ _=>aw _ _ jO;have e:=b.get;unfold iW at e;refine bq (Y0 (Y:=Y) (d:=d) b) jO (fun _ _ h=>h.elim) ?_;rw[hd];refine jA @eK ?_;have a:=b.lt;refine gF trivial m.b 5 _ e a (ah _) rfl fun A o=> ?_;refine jB ?_;refine aju b.last (ah _) _ fun z f=> ?_;refine jB ?_;refine gF trivial m.b 4 _ e a (ah _) rfl fun x j=> ?_;refine jB ?_;refine gF trivial m.b 3 _ e a (ah _) rfl fun u i=> ?_;refine jB ?_;refine Ei (fun _ _=>rfl) ?_;refine cA (sz:=3) trivial (vs:=[.string ⟨(bS k.last).toArray⟩,jI (k.bK:Int),.int .u32 (k.sum:Int)]) rfl rfl rfl (get_eq _ _ _) jO (.inl jO) _ fun t l q=> ?_;try simp(disch:=first|omega|assumption) only[Nat.reduceAdd,Nat.reduceLT,RZ,f.cy j,f.cy i,cf,dJ,dG]
 exact eD trivial trivial l rfl jO rfl
theorem ot{L:Nat->Nat}{c i:Nat}(h:L c=i)(h1:1<=i)(h2:i<=8):WB L c:=by unfold WB;omega
def Ak(L:Nat->Nat)(p:Nat)(S:List UInt8)(D A room:Nat)(k:Bk)(m:Bm)(bs:List Bool)(v:Value)(h':H)(n':Nat):Prop:=
 if bs.length<57 then v=jI 3∧aY h' n' p S D A∧eH h' n' L p room k m 0
 else v=jI (if bs.getD 32 false=true then 25 else 0)∧aY h' n' p S D (A+57)∧eH h' n' L p room {k with head:=true,sum:=num (bs.take 32) 0,bK:=num ((bs.drop 33).take 24) 0} m 0
theorem ajx(x:aY h n p S D A)(y:eH h n L p room k m 0)(C:L p=1)(r:40<=Y):af (WB L) n (aj aa gt Y (d+4) 228 #[jP m.b 0,jP p 0]) h n (Ak L p S D A room k m (ar S D A)):=by
 obtain⟨a,l⟩:∃a,ar S D A=a:=⟨_,rfl⟩;have E:m.b≠p:=fun e=>by have:=y.lb;rw[e,C]at this;cases this
 rw[aB (fun _=>V8) rfl,l];refine af.aA ?_;unfold JY;refine bq (Ed (d:=d+1) x) (ah _) (fun _ _ h=>h.elim) ?_;rw[l];by_cases N:a.length<57
 ·have t:((a.length:Nat):Int)<57:=jO;refine jA @t ?_;unfold Ak;rw[if_pos N];exact⟨rfl,x,y⟩
 have t:¬((a.length:Nat):Int)<57:=jO;refine jA @t ?_;have wp:∀b,b<n->b=p->n<=b∨WB L b:=fun b _ X=> .inr (X▸ot C jD jD);refine aN aF (lJ (Y:=Y) (d:=d) x 32 jD r) (ah _) wp fun v1 h1 n1 u2 J j=> ?_;obtain⟨rfl,j⟩:=j;rw[l]at j;rcases j with ⟨q,_⟩|⟨_,rfl,Q⟩
 ·omega
 have U:ar S D (A+32)=a.drop 32:=by rw[<-od x.lo,l]
 refine jB ?_;refine aN aF (lJ (Y:=Y) (d:=d) Q 1 jD r) (ah _) wp fun v2 h2 n2 u1 I i=> ?_;obtain⟨rfl,i⟩:=i;rw[U,bE]at i;rcases i with ⟨q,_⟩|⟨_,rfl,x2⟩
 ·omega
 have r2:ar S D (A+32+1)=a.drop 33:=by rw[<-od Q.lo,U,jm]
 refine jB ?_;refine aN aF (lJ (Y:=Y) (d:=d) x2 24 jD r) (ah _) wp fun v3 Z B u0 G f=> ?_;obtain⟨rfl,f⟩:=f;rw[r2,bE]at f;rcases f with ⟨q,_⟩|⟨_,rfl,x3⟩
 ·omega
 have z:eH Z B L p room k m 0:=y.au (ah _) (fun _ _=>rfl) fun c s h4 _=>by
  have ne:c≠p:=fun e=>by rw[e,C]at h4;omega
  rw[G c s ne,I c s ne,J c s ne]
 have g:=z.get;have X:=z.lt;unfold iW at g;have nl:=ig (((a.drop 33)).take 24);rw[cT,bE,ic jO]at nl;have T:IntKind.i64.wrap ((num ((a.drop 33).take 24) 0:Nat):Int)=((num ((a.drop 33).take 24) 0:Nat):Int):=aH jO jO;have R:WB L m.b:=ot y.lb jD jD
 have O:num ((a.drop 32).take 1) 0=bn (a.getD 32 false):=by have u:32<a.length:=jO;rw[List.drop_eq_getElem_cons u,bz,bB u];show 2*0+bn a[32]=bn a[32];omega
 have P:∀v:H,v.get m.b=some (iW room {k with head:=true,sum:=num (a.take 32) 0,bK:=num ((a.drop 33).take 24) 0} m 0)->(∀c,c≠m.b->v.get c=Z.get c)->aY v B p S D (A+57)∧eH v B L p room {k with head:=true,sum:=num (a.take 32) 0,bK:=num ((a.drop 33).take 24) 0} m 0:=fun v hB W=>⟨x3.au (ah _) (W p (Ne.symm E)),z.put hB W rfl rfl⟩;rw[O];cases o:a.getD 32 false with
 |true=>have K:(((bn true:Nat):Int)==1)=true:=rfl;refine jA (aI @g (aI @T (aI @R @K))) ?_;unfold Ak;rw[if_neg N,o];exact⟨rfl,P _ (get_eq _ _ _) fun c s=>by simp only[aw _ _ s]⟩
 |false=>have K:(((bn false:Nat):Int)==1)=false:=rfl;refine jA (aI @g (aI @T (aI @R @K))) ?_;unfold Ak;rw[if_neg N,o];exact⟨rfl,P _ (get_eq _ _ _) fun c s=>by simp only[aw _ _ s]⟩
end
section
variable {Y d n p:Nat} {h:H} {S:List UInt8} {D A:Nat}
def Y1(p:Nat)(S:List UInt8)(D A:Nat)(r:St (List Nat))(a:Value)(h':H)(n':Nat):Prop:=match r with
 | .short=>a= .tuple #[.string ⟨#[]⟩,.int .i64 3]∧∃B,8*D<=B∧aY h' n' p S D B
 | .bad e=>a= .tuple #[.string ⟨#[]⟩,.int .i64 e]∧e=25∧∃B,aY h' n' p S D B
 | .ok s u=>a= .tuple #[.string ⟨(bS s).toArray⟩,.int .i64 0]∧aY h' n' p S D (A+u)
theorem ajy:iq []=bU 256 (.bool false):=by
 apply aaM;intro i;by_cases a:i<256
 ·rw[EG a,List.getElem?_replicate,if_pos a];rfl
 ·rw[oP (by rw[qI];omega),oP (by rw[j4];omega)]
theorem ajz{s:List Nat}:(bS s=([]:List UInt8))↔s=[]:=by unfold bS;simp
theorem ajA{q lo:Nat}{sv g9:Value}{w:Int}{r:List Nat}{bs:List Bool}(u7:ar S D A=bs)(u9:8*D<=A)(w0:r.length<=16)(u6:300<=Y)(v9:p<n)(u2:n<=q)(v8:q<lo):∀(J:List Nat) (i v u:Nat) (h':H) (n':Nat) (acc:List Nat),
 r.drop i=J->i<=r.length->J.length<v->lo<=n'->aY h' n' p S D (A+u)->h'.get q=some ⟨321,true,iq acc⟩->Own h' lo n' 3 sv (aV .i64 (iN r))->UI J acc->
 af (fun c=>c=p) n (r7 Y (aj aa gt Y (d+3)) v (wG Y (aj aa gt Y (d+3))) (jP p 0) (.string ⟨#[]⟩) (jI 0) (.int .u32 w) (jI 0) (jP q 0) g9 sv (jI (r.length:Int)) (jI (i:Int))) h' n' (Y1 p S D A (Lk (hO J (bs.drop u) acc u))):=by
 intro J
 induction J with
 |nil=>
  intro i v u h' n' acc hd hi hf u3 x g o k;obtain⟨v,rfl⟩:∃f,v=f+1:=⟨v-1,jO⟩
  have:i=r.length:=by have:=congrArg pZ hd;rw[bE]at this;simp only[iP]at this;omega
  subst this;have u1:q<n':=jO;rw[r7];refine jA @eT ?_
  (try unfold wG);(try dsimp only)
  refine gE trivial trivial q 0 _ g u1 (by show 0+256<=(iq acc).length;rw[qI];omega) ?_;have e0:((iq acc).drop 0).take 256=iq acc:=by rw[jz,<-qI acc,jf]
  show af _ n (ai _ _ [.agg (((iq acc).drop 0).take 256).toArray] _) _ _ _;rw[e0];refine aN aF (ajf (Y:=Y) (d:=d+2) k.sy u6) jO (fun _ _ h=>h.elim) fun v1 G n1 u0 C t=> ?_;subst t;have R:=x.au u0 (C p x.lt id);unfold hO;by_cases ha:acc=[]
  ·subst ha;have:decide (bS []=([]:List UInt8))=true:=rfl;refine jA @this ?_;exact⟨rfl,rfl,_,R⟩
  ·have:decide (bS acc=([]:List UInt8))=false:=decide_eq_false fun e=>ha (ajz.1 e);refine jA @this ?_
   obtain⟨a,acc,rfl⟩:∃a b,acc=a::b:=by
    cases acc with
    |nil=>exact absurd rfl ha
    |cons a b=>exact⟨a,b,rfl⟩
   exact⟨rfl,R⟩
 |cons m J ih=>
  intro i v u h' n' acc hd hi hf u3 x g o k;obtain⟨v,rfl⟩:∃f,v=f+1:=⟨v-1,jO⟩
  have N:i<r.length:=by have:=congrArg pZ hd;rw[bE]at this;simp only[cP]at this;omega
  have u4:r[i]=m:=by have:=congrArg (·[0]?) hd;simp only[List.getElem?_drop,iO,List.getElem?_cons_zero]at this;rw[bB N]at this;exact vn this
  have ml:(aV .i64 (iN r)).length=r.length:=by rw[eu,fi]
  obtain⟨E,rfl,gb,x4,x3⟩:∃E,sv= .slice (some ⟨E,0,none⟩) r.length (bo+r.length)∧h'.get E=some ⟨3,true,aV .i64 (iN r)⟩∧lo<=E∧E<n':=by
   rcases o with ⟨_,e⟩|⟨E,G,O,B,h4⟩
   ·rw[e]at ml;simp only[iP]at ml;omega
   ·rw[ml]at G;exact⟨E,G,O,B,h4⟩
  have v7:=k.lt m jS
  have a1:(aV .i64 (iN r))[i]? =some (jI (m:Int)):=by rw[Cf (by rw[fi];exact N),pG,bz,bB N,u4];rfl
  have e1:(i:Int)<((r.length:Nat):Int):=jO;rw[r7];refine jA (aI @e1 (aI @gb @a1)) ?_;refine aN aF (lJ (Y:=Y) (d:=d) x 16 jD jO) jO (fun b _ z=> .inr z) fun v1 G n1 u0 C t=> ?_;obtain⟨rfl,t⟩:=t;have rr:ar S D (A+u)=bs.drop u:=by rw[<-od u9,u7]
  rw[rr]at t;unfold hO;rcases t with ⟨q1,rfl,rfl⟩|⟨q1,rfl,R⟩
  ·have z3:((3:Int) !=0)=true:=rfl;refine jA (aI @bJ (aI @ext1 @z3)) ?_
   (try unfold wG);(try dsimp only)
   refine jB ?_;rw[if_pos q1];have:=x.lo;exact⟨rfl,_,this,x⟩
  ·have z0:((0:Int) !=0)=false:=rfl;refine jA (aI @bJ (aI @ext1 @z0)) ?_;rw[if_neg jO];have tl:((bs.drop u).take 16).length=16:=by rw[cT];omega
   have X:q≠p:=jO;have g1:=(C q jO X).trans g;have o1:Own G lo n1 3 (.slice (some ⟨E,0,none⟩) r.length (bo+r.length)) (aV .i64 (iN r)):=o.au (ah _) fun b z=>C b (o.lt z).2 (by have:=(o.lt z).1;omega);refine aN aF (YX (Y:=Y) (d:=d+2) ((bs.drop u).take 16) tl jO) jO (fun _ _ h=>h.elim) fun v2 O n2 Z P o2=> ?_;have g2:=(P q jO id).trans g1;have x2:=R.au Z (P p R.lt id);have T:=o1.au Z fun b z=>P b (o1.lt z).2 id;obtain⟨s,L⟩:∃s,ik ((bs.drop u).take 16)=s:=⟨_,rfl⟩;have kn:=k.next ((bs.drop u).take 16);rw[L]at o2 kn⊢;have U:∀x∈s,x<16:=fun x hx=>Ll (l:=(bs.drop u).take 16) (by rw[L];exact hx)
   have v6:s.length<=16:=by rw[<-L];exact gV (xK _ _) jS
   have K:(aV .i64 (iN s)).length=s.length:=by rw[eu,fi]
   obtain⟨s2,s3,s4⟩:∃a c,v2= .slice a s.length c:=by obtain⟨a,c,e⟩:=o2.row.len;rw[fi]at e;exact⟨a,c,e⟩
   rw[s4];refine jB ?_;rw[<-s4]
   refine dL s.length (fun f2 j (_:Unit)=>uE Y (aj aa gt Y (d+3)) f2 (Wu Y (aj aa gt Y (d+3)) v (wG Y (aj aa gt Y (d+3)))) (jP p 0) (.string ⟨#[]⟩) (jI 0) (.int .u32 w) (jI 0) (jP q 0) (jI (m:Int)) (.int .u32 ((num ((bs.drop u).take 16) 0:Nat):Int)) (jI 0) g9 (.slice (some ⟨E,0,none⟩) r.length (bo+r.length)) (jI (r.length:Int)) (jI (i:Int)) (.bool true) (.bool false) v2 (jI (s.length:Int)) (jI (j:Int)))
    (fun j _ B Q=>Q=n2∧B.get q=some ⟨321,true,iq (acc++(s.take j).map fun k=>16*m+k)⟩∧∀b,b≠q->B.get b=O.get b) ?_ ?_ Y 0 () O n2 (aO _) jO ⟨rfl,by simpa using g2,fun _ _=>rfl⟩
   ·rintro f2 _ B Q ⟨rfl,g3,W⟩;rw[uE];refine jA @eT ?_
    (try unfold Wu);(try unfold DG);(try dsimp only)
    have w1:IntKind.i64.wrap ((i:Int)+1)=((i+1:Nat):Int):=by rw[aH jO jO];rfl
    have w2:(i:Int)+1=((i+1:Nat):Int):=rfl;refine jA (aI @w1 @w2) ?_;rw[jf]at g3;have:=ih (i+1) v (u+16) B Q (acc++s.map fun k=>16*m+k) (by rw[<-List.tail_drop,hd];rfl) jO (by simp only[cP]at hf;omega) jO (by rw[<-vo];exact x2.au (ah _) (W p (Ne.symm X))) g3 (T.au (ah _) fun b z=>W b (by have:=(T.lt z).1;omega)) kn;rw[jm];exact this
   ·rintro f2 j _ B Q hj ⟨rfl,g3,W⟩ next
    obtain⟨I,ob,v3,x1,w9⟩:∃I,v2= .slice (some ⟨I,0,none⟩) s.length (bo+s.length)∧O.get I=some ⟨3,true,aV .i64 (iN s)⟩∧n1<=I∧I<Q:=by
     rcases o2 with ⟨_,e⟩|⟨I,G,O,B,h4⟩
     ·rw[e]at K;simp only[iP]at K;omega
     ·rw[K]at G;exact⟨I,G,O,B,h4⟩
    have v0:=(W I jO).trans v3;obtain⟨y,hy⟩:∃y,s[j]=y:=⟨_,rfl⟩;have v5:y<16:=U y (by rw[<-hy];exact dO _)
    have a2:(aV .i64 (iN s))[j]? =some (jI (y:Int)):=by rw[Cf (by rw[fi];exact hj),pG,bz,bB hj,hy];rfl
    have e2:(j:Int)<((s.length:Nat):Int):=jO;have w3:IntKind.i64.wrap (16*(m:Int))=((16*m:Nat):Int):=by rw[aH jO jO];rfl
    have w4:IntKind.i64.wrap (((16*m:Nat):Int)+(y:Int))=((16*m+y:Nat):Int):=by rw[aH jO jO];rfl
    have w5:((16*m+y:Nat):Int)<256:=jO;have w6:IntKind.i64.wrap ((j:Int)+1)=((j+1:Nat):Int):=by rw[aH jO jO];rfl
    have w7:(j:Int)+1=((j+1:Nat):Int):=rfl;have v4:q<Q:=jO;rw[uE,ob];have u5:16*m+y<(iq (acc++(s.take j).map fun k=>16*m+k)).length:=by rw[qI];omega
    refine jA (aI @e2 (aI @v0 (aI @a2 (aI @w3 (aI @w4 (aI @w5 (aI @g3 (aI @u5 (aI @u2 (aI @w6 @w7)))))))))) ?_;rw[<-ob];refine next () _ _ ⟨rfl, ?_,fun b z=>(aw _ _ z).trans (W b z)⟩;rw[get_eq,ajc jO];congr 3;rw[List.take_succ_eq_append_getElem hj,qa,hy,ey];rfl
theorem ajB(x:aY h n p S D A)(m:300<=Y):af (fun c=>c=p) n (aj aa gt Y (d+4) 245 #[jP p 0]) h n (Y1 p S D A (fA (ar S D A))):=by
 obtain⟨i,g⟩:∃i,ar S D A=i:=⟨_,rfl⟩;have k:=x.lt;rw[aB (fun _=>Wx) rfl,g];refine af.aA ?_;unfold DH;refine aN aF (lJ (Y:=Y) (d:=d) x 16 jD jO) (ah _) (fun b _ I=> .inr I) fun L J s l K f=> ?_;obtain⟨rfl,f⟩:=f;rw[g]at f;unfold fA;rcases f with ⟨q1,rfl,rfl⟩|⟨q1,rfl,B⟩
 ·have v:((3:Int) !=0)=true:=rfl;refine jA (aI @bJ (aI @ext1 @v)) ?_;rw[if_pos q1]
  first|exact⟨rfl,_,x.lo,x⟩|exact⟨_,x.lo,x⟩
 ·have y:((0:Int) !=0)=false:=rfl;refine jA (aI @bJ (aI @ext1 @y)) ?_;rw[if_neg jO];refine dX ad9 _ ?_;have E:(i.take 16).length=16:=by rw[cT];omega
  refine aN aF (YX (Y:=Y) (d:=d+2) (i.take 16) E jO) jO (fun _ _ h=>h.elim) fun C t r G j q=> ?_;have u:=(j s jO id).trans (get_eq J s (some ⟨321,true,bU 256 (.bool false)⟩));rw[<-ajy]at u;have z:aY t r p S D (A+16):=B.au jO ((j p jO id).trans (aw _ _ jO))
  obtain⟨O,N,o⟩:∃a c,C= .slice a (ik (i.take 16)).length c:=by obtain⟨a,c,e⟩:=q.row.len;rw[fi]at e;exact⟨a,c,e⟩
  rw[o];refine jB ?_;rw[<-o];exact ajA g x.lo (gV (xK _ _) jS) m k l (Nat.lt_succ_self _) (ik (i.take 16)) 0 Y 16 t r [] jz (aO _) (aba (gV (xK _ _) jS) (show 16<Y by omega)) jO z u q (UI.zero _)
end
theorem gS.put{h h':H}{n:Nat}{L:Nat->Nat}{p:Nat}{r a:Rw}{m:Bm}(x:gS h n L p r m)(g:h'.get m.x=some (qJ a m))(e:∀c,c<n->L c=5->h'.get c=h.get c)(h1:a.cd=r.cd)(b:oq h' n m.y a.z)(d:m7 h' n m.l m.ov a.ord):gS h' n L p a m:=
 ⟨g,x.lt,x.lx,by rw[h1];exact x.cd.au (ah _) fun c f i=>e c f (x.lc c i),x.lc,b,x.ly,d,x.ll,x.lo⟩
def Bm.Fl(m:Bm):Prop:=m.m.pw=false∧m.m.dw=false
section
variable {Y d n p room:Nat} {h:H} {S:List UInt8} {D A:Nat} {L:Nat->Nat} {k:Bk} {m:Bm} {r:Rw}
def ajC(p:Nat)(S:List UInt8)(D A:Nat)(r:St (List Nat))(a:Value)(h':H)(n':Nat):Prop:=match r with
 | .short=>a= .tuple #[.string ⟨#[]⟩,.int .i64 3]∧aY h' n' p S D A
 | .bad e=>a= .tuple #[.string ⟨#[]⟩,.int .i64 e]∧e=25∧aY h' n' p S D A
 | .ok s u=>a= .tuple #[.string ⟨(bS s).toArray⟩,.int .i64 0]∧aY h' n' p S D (A+u)
theorem ajD(x:aY h n p S D A)(r:300<=Y):af (fun c=>c=p) n (aj aa gt Y (d+5) 238 #[jP p 0]) h n (ajC p S D A (fA (ar S D A))):=by
 rw[aB (fun _=>Wk) rfl];refine af.aA ?_;unfold J6;refine bq (Ec (d:=d+3) x) (ah _) (fun _ _ h=>h.elim) ?_;refine aN aF (ajB (Y:=Y) (d:=d) x r) (ah _) (fun b _ t=> .inr t) fun O E z o L a=> ?_
 have f:∀{B:Nat} (e:Int) (K:Prop),aY E z p S D B->K->af (fun c=>c=p) n (ai (aj aa gt Y (d+4)) 246 [jP p 0,jI (A:Int)] fun _=>ag [.string ⟨#[]⟩,jI e]) E z fun j v k=>K∧j= .tuple #[.string ⟨#[]⟩,jI e]∧aY v k p S D A:=fun{B} e K g C=>by
  refine aN aF (Ee (Y:=Y) (d:=d+2) g A x.lo x.hi) o (fun b _ t=> .inr t) fun N Q P I J m=> ?_;obtain⟨rfl,rfl,y⟩:=m;refine jB ?_
  first|exact⟨C,y⟩|exact⟨C,rfl,y⟩
 cases l:fA (ar S D A)with
 |short=>rw[l]at a;obtain⟨rfl,B,_,g⟩:=a;have i:((3:Int) !=0)=true:=rfl;refine jA (aI @bJ (aI @ext1 @i)) ?_;refine af.mono (f 3 True g trivial) fun j v k _ q=> ?_;exact⟨q.2.1,q.2.2⟩
 |bad e=>rw[l]at a;obtain⟨rfl,rfl,B,g⟩:=a;have i:((25:Int) !=0)=true:=rfl;refine jA (aI @bJ (aI @ext1 @i)) ?_;refine af.mono (f 25 True g trivial) fun j v k _ q=> ?_;exact⟨q.2.1,rfl,q.2.2⟩
 |ok s u=>rw[l]at a;obtain⟨rfl,g⟩:=a;have G:((0:Int) !=0)=false:=rfl;refine jA (aI @bJ (aI @ext1 @G)) ?_;exact⟨rfl,g⟩
def ou(L:Nat->Nat)(n:Nat):Nat->Nat:=fun c=>if c<n then L c else if c<n+5 then 5 else if c=n+5 then 6 else if c=n+6 then 8 else if c=n+7 then 7 else 4
theorem ajE{s:List Nat}(t:Sy s)(y:s≠[])(hr:room<=900000)(l:300<=Y)(p:Nat)(hp:p<n):af (fun _=>False) n (aj aa gt Y (d+4) 239 #[.string ⟨(bS s).toArray⟩,jI (room:Int)]) h n fun v h' n'=>v=jP (n+8) 0∧n'=n+9∧
 ∃ov,∀(L:Nat->Nat) (b:Nat) (lv:Value),gS h' n' (ou L n) p (m6 s room) ⟨b,lv,n+8,n+4,Af n,n+5,n+7,ov⟩:=by
 have N:=t.len
 have o:1<=s.length:=by
  cases s with
  |nil=>exact absurd rfl y
  |cons x s=>simp
 have T:(bS s).length=s.length:=by unfold bS;simp
 rw[aB (fun _=>Wm) rfl];refine af.aA ?_;unfold J7;have C:IntKind.i64.wrap (((s.length:Nat):Int)+2)=((s.length+2:Nat):Int):=by rw[aH jO jO];rfl
 have A:((s.length:Nat):Int)+2=((s.length+2:Nat):Int):=rfl;refine jA (aI @T (aI @C @A)) ?_;refine aN aF (aiG (Y:=Y) (d:=d) (size:=s.length+2) jO jO jO p) (ah _) (fun _ _ h=>h.elim) fun X P n1 K Q j=> ?_;obtain⟨rfl,rfl,R⟩:=j;refine jA (aI @bJ @ext1) ?_;refine aN aF (ajh (Y:=Y) (d:=d+1) (k:=s.length) (most:=room) o N jO) jO (fun _ _ h=>h.elim) fun W O n2 J r i=> ?_;obtain⟨rfl,rfl,z⟩:=i;refine jA (aI @bJ @ext1) ?_;refine aN aF (ajs (Y:=Y) (d:=d+1) t y l) jO (fun _ _ h=>h.elim) fun U e Z I q g=> ?_;obtain⟨rfl,rfl,ov,D,a⟩:=g;refine jA (aI @bJ @ext1) ?_;refine gD trivial _ _ ?_;refine jB ?_;refine⟨ov,fun L b lv=> ?_⟩;have f:∀(B:Option AB) c,c<n+8->(e.set (n+8) B).get c=e.get c:=fun B c hc=>aw _ _ jO;have u:∀(B:Option AB) c,c<n+6->(e.set (n+8) B).get c=O.get c:=fun B c hc=>(f B c jO).trans (q c hc id);have E:∀(B:Option AB) c,c<n+5->(e.set (n+8) B).get c=P.get c:=fun B c hc=>(u B c jO).trans (r c hc id);refine⟨get_eq _ _ _,by show n+8<_;omega,by show ou L n (n+8)=4;unfold ou;rw[if_neg jO,if_neg jO,if_neg jO,if_neg jO,if_neg jO],R.au jO fun c hc _=>E _ c hc,fun c hc=> ?_,z.au jO (u _ _ (by show n+5<_;omega)),by show ou L n (n+5)=6;unfold ou;rw[if_neg jO,if_neg jO,if_pos rfl],D.au jO (f _ _ (by show n+5+1+1<_;omega)) fun c hc=>f _ c (by rw[a c hc];omega),by show ou L n (n+7)=7;unfold ou;rw[if_neg jO,if_neg jO,if_neg jO,if_neg jO,if_pos rfl],fun c hc=> ?_⟩
 ·have m:n<=c∧c<n+5:=by
   rcases hc with hc|hc|⟨w,G,_⟩
   ·refine⟨aiF hc, ?_⟩;rcases hc with hc|hc|hc|hc|hc|hc
    ·have:c=n+4:=hc;omega
    ·have:c=n+3:=hc;omega
    ·have:c=n:=hc;omega
    ·exact absurd hc oh
    ·exact absurd hc oh
    ·exact absurd hc oh
   ·exact absurd hc oh
   ·exact absurd G (by show w∉[];simp)
  unfold ou;rw[if_neg jO,if_pos m.2]
 ·have:=a c hc;unfold ou;rw[if_neg jO,if_neg jO,if_neg jO,if_pos jO]
def Cd.Bd(c:Cd):Prop:=c.pk.count<32768∧c.pk.Ok∧c.aZ.length<=6∧c.size<=258
def Bk.Bd(room:Nat)(k:Bk):Prop:=k.last.length<=room+1∧∀r,k.row=some r->r.cd.Bd
def Lp(L:Nat->Nat)(n p:Nat)(S:List UInt8)(D room A:Nat)(k:Bk)(m:Bm)(r:St Bk)(f:Value)(h':H)(n':Nat):Prop:=match r with
 | .short=>f= .int .i64 3∧aY h' n' p S D A∧eH h' n' L p room k m 0
 | .bad e=>f= .int .i64 e∧(∃B,aY h' n' p S D B)∧∃b d a,(∀c,c<n->b c=L c)∧a.b=m.b∧eH h' n' b p room d a 0∧d.Bd room
 | .ok d u=>f= .int .i64 0∧aY h' n' p S D (A+u)∧∃b a,(∀c,c<n->b c=L c)∧a.b=m.b∧eH h' n' b p room d a 0∧a.Fl
def Lq(room:Nat)(k:Bk)(bs:List Bool):St Bk:=match fA bs with
 | .short=> .short
 | .bad e=> .bad e
 | .ok s u=> .ok {k with row:=some (m6 s room)} u
theorem ajF(x:aY h n p S D A)(y:eH h n L p room k m 0)(bd:k.Bd room)(I:L p=1)(hr:room<=900000)(v:300<=Y):af (WB L) n (aj aa gt Y (d+6) 229 #[jP m.b 0,jP p 0]) h n (Lp L n p S D room A k m (Lq room k (ar S D A))):=by
 obtain⟨Q,z⟩:∃Q,ar S D A=Q:=⟨_,rfl⟩;have N:m.b≠p:=fun e=>by have:=y.lb;rw[e,I]at this;cases this
 rw[aB (fun _=>V9) rfl,z];refine af.aA ?_;unfold JZ Lq;have R:=ajD (Y:=Y) (d:=d) x v;rw[z]at R;refine aN aF R (ah _) (fun b _ C=> .inr (C▸ot I jD jD)) fun v1 h1 i t P f=> ?_;have l:eH h1 i L p room k m 0:=y.au t (fun _ _=>rfl) fun c a T _=>P c a fun e=>by rw[e,I]at T;omega
 cases j:fA Q with
 |short=>rw[j]at f;obtain⟨rfl,o⟩:=f;have G:((3:Int)==0)=false:=rfl;refine jA (aI @bJ (aI @ext1 @G)) ?_;exact⟨rfl,o,l⟩
 |bad e=>rw[j]at f;obtain⟨rfl,rfl,o⟩:=f;have G:((25:Int)==0)=false:=rfl;refine jA (aI @bJ (aI @ext1 @G)) ?_;exact⟨rfl,⟨_,o⟩,L,k,m,fun _ _=>rfl,rfl,l,bd⟩
 |ok s u=>
  rw[j]at f;obtain⟨rfl,o⟩:=f;obtain⟨ks,h0,_⟩:=uS j;have W:((0:Int)==0)=true:=rfl;have g:=l.get;have C:=l.lt;unfold iW at g;refine jA (aI @bJ (aI @ext1 (aI @W @g))) ?_;refine aN aF (ajE (Y:=Y) (d:=d+1) ks h0 hr v p o.lt) t (fun _ _ h=>h.elim) fun v2 U n2 r q K=> ?_;obtain⟨rfl,rfl,ov,ra⟩:=K;have g2:=(q m.b C id).trans g;have O:m.b<i+9:=jO;have X:WB L m.b:=ot y.lb jD jD;refine jA (aI @g2 @X) ?_;have E:∀c,c<i->ou L i c=L c:=fun c a=>if_pos a;have Z:=ra L m.b m.lv;have ne:∀c,c≠m.b->∀B:Option AB,(U.set m.b B).get c=U.get c:=fun c a B=>aw _ _ a;refine⟨rfl,(o.au r (q p o.lt id)).au (ah _) (aw _ _ (Ne.symm N)),ou L i,⟨m.b,m.lv,i+8,i+4,Af i,i+5,i+7,ov⟩,fun c a=>E c jO,rfl,⟨?_,O,(E _ C).trans y.lb, ?_,fun c a=>(E c (l.last.lt a).2).trans (y.ll c a),fun r' J=> ?_⟩,rfl,rfl⟩
  ·rw[get_eq];rfl
  ·refine(l.last.au r fun c a=>q c (l.last.lt a).2 id).au (ah _) fun c a=>ne c (fun e=> ?_) _;have:=y.ll c a;rw[e,y.lb]at this;cases this
  ·cases J;refine Z.au (ah _) (fun _ _=>rfl) fun c a h3 T=>ne c (fun e=> ?_) _;rw[e,E _ C,y.lb]at h3;omega
end
theorem ajG{s a:Pk}{bs:List Bool}{u:Nat}(h:c8 s bs= .ok a u)(b:s.count<32768):a.count<32768:=by
 unfold c8 at h;split at h
 ·split at h
  ·cases h
  ·split at h
   ·cases h;exact jF _ jD
   ·cases h
 ·split at h
  ·cases h
  ·cases h
  ·cases h;exact b
theorem Cd.Bd.same{c c':Cd}(b:c.Bd)(h1:c'.pk=c.pk)(h2:c'.aZ=c.aZ)(a:c'.size=c.size):c'.Bd:=by unfold Cd.Bd;rw[h1,h2,a];exact b
theorem EI{c c':Cd}{bs:List Bool}{sym:Int}{u:Nat}(k:hM c)(b:c.Bd)(h:ed c bs= .ok (sym,c') u):c'.Bd:=by
 have g:=h
 have of:c'.done=false->c'.pk.count<32768->c'.Bd:=fun i f=>by have d:=(wV k g).1 i;have:=d.cl;have:=d.gm;exact⟨f,d.pk,jO,d.hi⟩
 unfold ed at h;split at h
 ·cases e:c8 c.pk bs with
  |short=>rw[e]at h;cases h
  |bad x=>rw[e]at h;cases h
  |ok s v=>rw[e]at h;cases h;refine of (by unfold kW;exact k.dn) ?_;show s.count<32768;exact ajG e b.1
 ·split at h
  ·cases e:stepT c bs with
   |short=>rw[e]at h;cases h
   |bad x=>rw[e]at h;cases h
   |ok j v=>
    rw[e]at h;cases h
    have same:c'.pk=c.pk∧c'.done=c.done:=by
     unfold stepT at e;split at e
     ·cases e
     ·cases e
     ·split at e
      ·split at e
       ·cases e;exact⟨rfl,rfl⟩
       ·cases e
      ·cases e;exact⟨rfl,rfl⟩
    exact of (by rw[same.2];exact k.dn) (by rw[same.1];exact b.1)
  ·cases e:iV c bs with
   |short=>rw[e]at h;cases h
   |bad x=>rw[e]at h;cases h
   |ok a v=>
    obtain⟨s,j⟩:=a;rw[e]at h;cases h;unfold iV at e;split at e
    ·cases e
    ·split at e
     ·cases e
     ·cases e;exact b.same rfl rfl rfl
structure Al (room A:Nat) (r:Rw):Prop where
 cd:r.cd.done=false->hM r.cd
 sz:r.cd.size=r.ord.length+2
 zn:r.z.n=r.ord.length
 zm:r.z.most=room
 zo:r.cd.done=false->r.z.Ok
 pl:r.place<r.ord.length
 ol:r.ord.length<=256
 c9:r.cd.count<=A
 bd:r.cd.Bd
def Bm.uU(m:Bm)(c:Cm):Bm:={m with m:=c}
section
variable {Y d n p room:Nat} {h:H} {S:List UInt8} {D A:Nat} {L:Nat->Nat} {k:Bk} {m:Bm} {r:Rw}
theorem Y2(y:gS h n L p r m):af (fun _=>False) n (aj aa gt Y (d+1) 230 #[jP m.x 0]) h n fun v h' n'=>v= .bool r.waits∧h'=h∧n'=n:=by
 have g:=y.get;have f:=y.lt;unfold qJ at g;rw[aB (fun _=>V') rfl];refine af.aA ?_;unfold J0 Rw.waits;by_cases c:0<r.due
 ·have a:(0:Int)<(r.due:Int):=jO;have e:decide (0<r.due)=true:=decide_eq_true c;refine jA (aI @g (aI @a @e)) ?_;rw[Bool.true_or]
 ·have a:¬(0:Int)<(r.due:Int):=jO;have e:decide (0<r.due)=false:=decide_eq_false c
  have b:decide ((0:Int)<(r.place:Int))=decide (0<r.place):=by
   by_cases q:0<r.place
   ·rw[decide_eq_true q,decide_eq_true (show(0:Int)<(r.place:Int) by omega)]
   ·rw[decide_eq_false q,decide_eq_false (show¬(0:Int)<(r.place:Int) by omega)]
  refine jA (aI @g (aI @a (aI @e @b))) ?_
  first|rw[Bool.false_or]|skip
theorem ajH(y:gS h n L p r m)(ol:r.ord.length<=256)(Q:r.place<r.ord.length)(due:r.due<=1000000):af (fun c=>c=m.x∨aK m.ov c) n (aj aa gt Y (d+3) 231 #[jP m.x 0]) h n fun v h' n'=>v= .int .u8 (((bR r).1:Nat):Int)∧n'=n∧gS h' n' L p (bR r).2 m:=by
 have g:=y.get;have T:=y.lt;unfold qJ at g;have O:m.x≠m.l:=fun e=>by have:=y.lx;rw[e,y.ll]at this;cases this
 have E:¬aK m.ov m.x:=fun e=>by have:=y.lo _ e;rw[y.lx]at this;cases this
 have N:(m.x=m.x∨aK m.ov m.x):= .inl rfl;rw[aB (fun _=>Wa) rfl];refine af.aA ?_;unfold J1 bR
 have fin:∀(j:Rw) (i:Nat) (iv:Value) (k:H),iv=jI (i:Int)->i<r.ord.length->j.cd=r.cd->j.z=r.z->j.ord=r.ord->k.get m.x=some (qJ j m)->(∀c,c≠m.x->k.get c=h.get c)->
  af (fun c=>c=m.x∨aK m.ov c) n (ai (aj aa gt Y (d+2)) 240 [jP m.l 0,iv] fun g=>aU g 0 fun h=>aU g 1 fun i=>ag [h]) k n fun v h' n'=>v= .int .u8 ((r.ord.getD i 0:Nat):Int)∧n'=n∧gS h' n' L p {j with ord:=db 0 r.ord i} m:=by
  intro j i iv k C W e1 e2 e3 g1 A;subst C;have x:m7 k n m.l m.ov r.ord:=y.li.au (ah _) (A _ (Ne.symm O)) fun c f=>A c fun e=>E (e▸f);refine aN aF (ajq (Y:=Y) (d:=d) x W jO) (ah _) (fun b _ X=> .inr (.inr X)) fun v2 h2 R U l B=> ?_;obtain⟨rfl,rfl,u⟩:=B;refine jA (aI @bJ @ext1) ?_;have I:∀c,c<R->c≠m.x->¬aK m.ov c->h2.get c=h.get c:=fun c f h3 Z=>(l c f Z).trans (A c h3);exact y.put ((l m.x T E).trans g1) (fun c f s=>I c f (fun e=>by rw[e,y.lx]at s;cases s) fun e=>by rw[y.lo c e]at s;cases s) e1 (by rw[show({j with ord:=db 0 r.ord i}:Rw).z=r.z from e2];exact y.zr.au (ah _) (I _ y.zr.lt (fun e=>by have:=y.ly;rw[e,y.lx]at this;cases this) fun e=>by have:=y.lo _ e;rw[y.ly]at this;cases this)) u
 by_cases c:0<r.due
 ·have D:(0:Int)<(r.due:Int):=jO;have P:IntKind.i64.wrap ((r.due:Int)-1)=((r.due-1:Nat):Int):=by rw[aH jO jO];omega
  rw[if_pos c];refine jA (aI @g (aI @D (aI @P @N))) ?_;refine fin {r with due:=r.due-1} 0 _ _ rfl jO rfl rfl rfl (get_eq _ _ _) fun c f=>aw _ _ f
 ·have D:¬(0:Int)<(r.due:Int):=jO;rw[if_neg c];refine jA (aI @g (aI @D @N)) ?_;refine fin {r with place:=0} r.place _ _ rfl Q rfl rfl rfl (get_eq _ _ _) fun c f=>aw _ _ f
def EJ(L:Nat->Nat)(p:Nat)(r:Rw)(m:Bm)(c:Nat)(v:Value)(h':H)(n':Nat):Prop:=match c6 r.z c with
 |none=>v= .int .i64 25∧gS h' n' L p r m
 |some (a,q,b)=>v= .int .i64 0∧gS h' n' L p {r with z:=a,due:=q,place:=b} m
theorem ajI(y:gS h n L p r m)(B:r.z.Ok)(c:Nat)(j:c<=1000):af (fun c=>c=m.x∨c=m.y) n (aj aa gt Y (d+4) 242 #[jP m.x 0,jI (c:Int)]) h n (EJ L p r m c):=by
 have g:=y.get;have C:=y.lt;unfold qJ at g;have u:m.x≠m.y:=fun e=>by have:=y.lx;rw[e,y.ly]at this;cases this
 rw[aB (fun _=>Wp) rfl];refine af.aA ?_;unfold J';refine jA @g ?_;refine aN aF (ajj (Y:=Y) (d:=d) y.zr B c j) (ah _) (fun b _ E=> .inr (.inr E)) fun N P O D i f=> ?_;obtain⟨rfl,f⟩:=f;cases l:c6 r.z c with
 |none=>
  rw[l]at f;obtain⟨e,rfl,s,rfl⟩:=f;have I:(e !=0)=true:=by rw[bne_iff_ne];exact s
  have Q:∀a b c:Value,[a,b,c][2]? =some c:=fun _ _ _=>rfl;refine jA (aI @bJ (aI @ext1 @I)) ?_;unfold EJ;rw[l];exact⟨rfl,y⟩
 |some t=>
  obtain⟨K,q,z⟩:=t;rw[l]at f;obtain⟨e,rfl,s,v⟩:=f;have G:=(i m.x C u).trans g;have x:((0:Int) !=0)=false:=rfl;have J:(m.x=m.x∨m.x=m.y):= .inl rfl
  have A:(if e<0 then(0:Int)else e)=(z:Int):=by
   rcases s with rfl|⟨rfl,rfl⟩
   ·exact if_neg jO
   ·rfl
  refine jA (aI @bJ (aI @ext1 (aI @x (aI @G (aI @J @A))))) ?_;unfold EJ;rw[l];refine⟨rfl,y.put (by rw[get_eq];rfl) (fun c j o=> ?_) rfl (v.au (ah _) ?_) (y.li.au (ah _) ?_ fun c j=> ?_)⟩
  ·have k:c≠m.x:=fun e=>by rw[e,y.lx]at o;cases o
   simp only[aw _ _ k];exact i c j fun e=>by rw[e,y.ly]at o;cases o
  ·simp only[aw _ _ (Ne.symm u)]
  ·have k:m.l≠m.x:=fun e=>by have:=y.ll;rw[e,y.lx]at this;cases this
   simp only[aw _ _ k];exact i _ y.li.lt fun e=>by have:=y.ll;rw[e,y.ly]at this;cases this
  ·have k:c≠m.x:=fun e=>by have:=y.lo c j;rw[e,y.lx]at this;cases this
   simp only[aw _ _ k];exact i c (y.li.own.lt j).2 fun e=>by have:=y.lo c j;rw[e,y.ly]at this;cases this
end
structure uV (room A:Nat) (k:Bk):Prop where
 nd:k.done=false
 hd:k.head=false->k.row=none
 row:∀r,k.row=some r->Al room A r∧(r.cd.done=true->r.waits=true)∧r.due<=room
 ll:k.last.length<=room
 sm:k.sum<4294967296
theorem ajJ{r a:Rw}{bs:List Bool}{u:Nat}(k:hM r.cd)(b:r.cd.Bd)(h:iG r bs= .ok a u):a.cd.Bd:=by
 unfold iG at h;cases e:ed r.cd bs with
 |short=>rw[e]at h;cases h
 |bad x=>rw[e]at h;cases h
 |ok c w=>
  obtain⟨sym,d⟩:=c;rw[e]at h;dsimp only at h;have:=EI k b e;split at h
  ·cases h;exact this
  ·split at h
   ·cases h
   ·cases h;exact this
section
variable {Y d n p room:Nat} {h:H} {S:List UInt8} {D A:Nat} {L:Nat->Nat} {k:Bk} {m:Bm} {r:Rw}
def ajK(L:Nat->Nat)(n p:Nat)(S:List UInt8)(D A:Nat)(r:Rw)(m:Bm)(q:St Rw)(v:Value)(h':H)(n':Nat):Prop:=match q with
 | .short=>v= .int .i64 3∧aY h' n' p S D A∧gS h' n' L p r m
 | .bad e=>v= .int .i64 e∧(e=22∨e=25)∧(∃B,aY h' n' p S D B)∧∃a d c,(∀b,b<n->a b=L b)∧gS h' n' a p d (m.uU c)∧d.cd.Bd
 | .ok d u=>v= .int .i64 0∧aY h' n' p S D (A+u)∧∃a c,(∀b,b<n->a b=L b)∧gS h' n' a p d (m.uU c)∧(m.uU c).Fl
theorem ajL{B:AB}(hB:h.get m.b=some B)(R:B.cells[0]? =some (jP m.x 0))(u3:m.b<n)(lb:L m.b=2)(x:aY h n p S D A)(y:gS h n L p r m)(fl:m.Fl)(J:L p=1)(K:Al room A r)(nd:r.cd.done=false)(hA:A<=1000000000000000)(u2:3000000<=Y):
 af (fun c=>c=p∨4<=L c∧L c<=8) n (aj aa gt Y (d+10) 232 #[jP m.b 0,jP p 0]) h n (ajK L n p S D A r m (iG r (ar S D A))):=by
 obtain⟨bs,Q⟩:∃bs,ar S D A=bs:=⟨_,rfl⟩;have g:=y.get;have hx:=y.lt;unfold qJ at g;have N:=K.cd nd;have ap:pK p m.z m.m:=⟨fun e=>(by have:=y.lc p (.inl e);rw[J]at this;cases this),fun e=>(by have:=y.lc p (.inr (.inl e));rw[J]at this;cases this)⟩;rw[aB (fun _=>Wb) rfl,Q];refine af.aA ?_;unfold J2;refine jA (aI @hB (aI @R @g)) ?_
 refine aN aF (aiD (Y:=Y) (d:=d) x y.cd ap fl.1 fl.2 N (by have:=K.c9;omega) u2) (ah _) (fun b _ hb=> .inr (by
  rcases hb with hb|hb
  ·exact .inl hb
  ·exact .inr (by rw[y.lc b (.inl hb)];decide))) fun v1 G W l u6 f=> ?_
 unfold K' at f;rw[Q]at f
 have o:∀c,c<n->c≠p->L c≠5->G.get c=h.get c:=fun c hc v h3=>u6 c hc (by
  rintro(e|e)
  ·exact v e
  ·exact h3 (y.lc c (.inl e)))
 have s:∀{c i},L c=i->i≠1->c≠p:=fun G v e=>v (by rw[<-G,e,J])
 have mk:∀(I:Cd) (j:Cm),cI G W m.z p I j->(∀b,j.F m.z b->m.m.F m.z b∨n<=b)->(∀b,aK j.tv b->aK m.m.tv b∨n<=b)->(∀y∈j.iv,y∈m.m.iv∨n<=y.1)->
  ∃z,(∀b,b<n->z b=L b)∧gS G W z p {r with cd:=I} (m.uU j):=by
  intro I j C e1 e2 e3;refine⟨fun c=>if c<n then L c else 5,fun b hb=>if_pos hb, ?_⟩;have X:∀{c i},c<n->L c=i->(if c<n then L c else 5)=i:=fun G v=>by rw[if_pos G,v]
  refine⟨(o _ hx (s y.lx jD) (by rw[y.lx];decide)).trans y.get,by show m.x<_;omega,X hx y.lx,C,fun c hc=> ?_,y.zr.au l (o _ y.zr.lt (s y.ly jD) (by rw[y.ly];decide)),X y.zr.lt y.ly,
   y.li.au l (o _ y.li.lt (s y.ll jD) (by rw[y.ll];decide)) fun c hc=>o c (y.li.own.lt hc).2 (s (y.lo c hc) jD) (by rw[y.lo c hc];decide),X y.li.lt y.ll,fun c hc=>X (y.li.own.lt hc).2 (y.lo c hc)⟩
  show(if c<n then L c else 5)=5;by_cases P:c<n
  ·rw[if_pos P];rcases hc with hc|hc|⟨w,hw,v,h3⟩
   ·rcases e1 c hc with q|q
    ·exact y.lc c (.inl q)
    ·omega
   ·rcases e2 c hc with q|q
    ·exact y.lc c (.inr (.inl q))
    ·omega
   ·rcases e3 w hw with q|q
    ·exact y.lc c (.inr (.inr ⟨w,q,v,h3⟩))
    ·omega
  ·rw[if_neg P]
 unfold iG;cases e:ed r.cd bs with
 |short=>
  rw[e]at f;obtain⟨rfl,E,C⟩:=f;have z3:((3:Int) !=0)=true:=rfl;refine jA (aI @bJ (aI @ext1 @z3)) ?_
  refine⟨rfl,E,⟨(o _ hx (s y.lx jD) (by rw[y.lx];decide)).trans y.get,jO,y.lx,C,y.lc,y.zr.au l (o _ y.zr.lt (s y.ly jD) (by rw[y.ly];decide)),y.ly,
   y.li.au l (o _ y.li.lt (s y.ll jD) (by rw[y.ll];decide)) fun c hc=>o c (y.li.own.lt hc).2 (s (y.lo c hc) jD) (by rw[y.lo c hc];decide),y.ll,y.lo⟩⟩
 |bad e0=>
  rw[e]at f;obtain⟨rfl,E,I,j,C,_,_,f1,_,f2,f3,b1,b2,b3⟩:=f;have he:=Ep e;have z1:(e0 !=0)=true:=by rw[bne_iff_ne];omega
  refine jA (aI @bJ (aI @ext1 @z1)) ?_;obtain⟨z,T,Z⟩:=mk I j C f1 (fun b hb=> .inl (f2▸hb)) fun y hy=> .inl (f3▸hy);exact⟨rfl,he,E,z,_,j,T,Z,K.bd.same b1 b2 b3⟩
 |ok sc u=>
  obtain⟨sym,I⟩:=sc;rw[e]at f;obtain⟨rfl,E,j,C,fp,fd,f1,_,f2,f3⟩:=f;have z0:((0:Int) !=0)=false:=rfl;obtain⟨z,T,Z⟩:=mk I j C f1 f2 f3;by_cases hs:sym<0
  ·refine jA (aI @bJ (aI @ext1 (aI @z0 @hs))) ?_;exact⟨rfl,E,z,j,T,Z,fp,fd⟩
  ·have O:sym.toNat<=1000:=by
    rcases xb N e with ⟨_,q,_⟩|⟨_,q,_⟩|⟨q1,q2,q3,q4,q5,q6,q7⟩
    ·omega
    ·omega
    ·have:=Ln N e jO;have:=N.hi;omega
   obtain⟨c,rfl⟩:∃c:Nat,sym=(c:Int):=⟨sym.toNat,jO⟩;rw[cV]at O;have u4:=(o m.b u3 (s lb jD) (by rw[lb];decide)).trans hB;have v3:m.b<W:=jO;refine jA (aI @bJ (aI @ext1 (aI @z0 (aI @hs (aI @u4 @R))))) ?_
   have W1:∀b,b<W->(b=m.x∨b=m.y)->n<=b∨b=p∨4<=L b∧L b<=8:=fun b _ hb=>by
    rcases hb with rfl|rfl
    ·exact .inr (.inr (by rw[y.lx];decide))
    ·exact .inr (.inr (by rw[y.ly];decide))
   refine aN aF (ajI (Y:=Y) (d:=d+5) Z (K.zo nd) c O) l W1 fun v2 v n2 u1 u5 k=> ?_
   have x2:aY v n2 p S D (A+u):=E.au u1 (u5 p E.lt (by
    rintro(e|e)
    ·have:L m.x=1:=by rw[<-J];exact congrArg L e.symm
     rw[y.lx]at this;cases this
    ·have:L m.y=1:=by rw[<-J];exact congrArg L e.symm
     rw[y.ly]at this;cases this))
   unfold EJ at k;refine jB ?_
   change match c6 r.z c with
    |none=>v2=_∧_
    |some (z',q,pl)=>v2=_∧_ at k
   cases hp:c6 r.z c with
   |none=>rw[hp]at k;obtain⟨rfl,y2⟩:=k;exact⟨rfl,.inr rfl,⟨_,x2⟩,z,_,j,T,y2,EI N K.bd e⟩
   |some t=>obtain⟨z',q,pl⟩:=t;rw[hp]at k;obtain⟨rfl,y2⟩:=k;exact⟨rfl,x2,z,j,T,y2,fp,fd⟩
end
section
variable {Y d n p room:Nat} {h:H} {S:List UInt8} {D A:Nat} {L:Nat->Nat} {k:Bk} {m:Bm} {r:Rw}
def ajM(h:H)(n:Nat)(L:Nat->Nat)(p room:Nat)(m:Bm)(k:Bk)(q:St Bk)(v:Value)(h':H)(n':Nat):Prop:=n'=n∧(∀c,c≠m.b->h'.get c=h.get c)∧match q with
 | .short=>False
 | .bad e=>v= .int .i64 e∧eH h' n' L p room k m 0
 | .ok a _=>v= .int .i64 0∧eH h' n' L p room a m 0
theorem ajN(y:eH h n L p room k m 0)(a:k.row=none):af (WB L) n (aj aa gt Y (d+2) 233 #[jP m.b 0]) h n fun v h' n'=>v=jI 0∧h'=h∧n'=n:=by have g:=y.get;have b:=y.lt;unfold iW at g;rw[a]at g;unfold uT at g;rw[aB (fun _=>J3) rfl];refine af.aA ?_;unfold DF;exact jC @g
theorem ajO(y:eH h n L p room k m 0)(i:k.row=some r)(u:Nat):af (WB L) n (aj aa gt Y (d+2) 233 #[jP m.b 0]) h n (ajM h n L p room m k (fB k r u)):=by
 have g:=y.get;have D:=y.lt;have e:=y.row r i;unfold iW at g;rw[i]at g;unfold uT at g;have t:=e.get;have B:=e.lt;unfold qJ at t;have v:WB L m.b:=ot y.lb jD jD;have s:(b8 k.last).length=k.last.length:=gO _
 obtain⟨A,z,b⟩:∃a c,m.lv= .slice a k.last.length c:=by
  rcases y.last with ⟨f,x⟩|⟨o,f,_⟩
  ·have:k.last.length=0:=by rw[<-s,x];rfl
   rw[this];exact⟨_,_,f⟩
  ·rw[s]at f;exact⟨_,_,f⟩
 rw[aB (fun _=>J3) rfl];refine af.aA ?_;unfold DF;refine jA (aI @g @t) ?_;refine bq (aiE (Y:=Y) (d:=d) e.cd) (ah _) (fun _ _ h=>h.elim) ?_;unfold fB;cases hd:r.cd.done with
 |false=>refine jA @cf ?_;exact⟨rfl,fun _ _=>rfl,rfl,y⟩
 |true=>
  refine jA (aI @eK @g) ?_;refine bq (Y2 (Y:=Y) (d:=d) e) (ah _) (fun _ _ h=>h.elim) ?_;cases C:r.waits with
  |true=>refine jB ?_;exact⟨rfl,fun _ _=>rfl,rfl,y⟩
  |false=>
   have l:=g;rw[b]at l;by_cases c:k.last.length<=k.bK
   ·have q:((k.last.length:Nat):Int)<=(k.bK:Int):=jO;refine jA (aI @l (aI @q @c)) ?_;exact⟨rfl,fun _ _=>rfl,rfl,y⟩
   ·have q:¬((k.last.length:Nat):Int)<=(k.bK:Int):=jO;refine jA (aI @l (aI @q (aI @c @v))) ?_;refine⟨rfl,fun c j=>aw _ _ j,rfl,y.put ?_ (fun c j=>aw _ _ j) rfl rfl⟩;rw[get_eq];unfold iW;rw[b,i];rfl
theorem eH.Lr(y:eH h n L p room k m 0)(j:k.row=some r){h1:H}{d:Nat}{L':Nat->Nat}{e:Rw}{c:Cm}(o:n<=d)(g:∀b,b<n->L' b=L b)(f:∀c,c<n->(L c=2∨L c=3)->h1.get c=h.get c)(i:gS h1 d L' p e (m.uU c)):eH h1 d L' p room {k with row:=some e} (m.uU c) 0:=by
 refine⟨(f _ y.lt (.inl y.lb)).trans ?_,by have:=y.lt;show m.b<d;omega,(g _ y.lt).trans y.lb,y.last.au o fun c a=>f c (y.last.lt a).2 (.inr (y.ll c a)),fun c a=>(g c (y.last.lt a).2).trans (y.ll c a),fun q l=> ?_⟩
 ·rw[y.get];unfold iW;rw[j];rfl
 ·cases l;exact i
theorem Lt{n0:Nat}{o:Nat->Nat}{k0:Bk}{m0:Bm}(bd:k.Bd room)(x:aY h n p S D A)(y:eH h n L p room k m 0)(E:k.row=some r)(O:m.Fl)(z:L p=1)(G:n0<=n)(l:∀c,c<n0->L c=o c)(f:m.b=m0.b){q u:Nat}(J:A=q+u):
 af (WB o) n0 (ai (aj aa gt Y (d+2)) 233 [jP m0.b 0] fun e=>ag [e]) h n (Lp o n0 p S D room q k0 m0 (fB k r u)):=by
 have j:p≠m.b:=fun e=>by have:=y.lb;rw[<-e,z]at this;cases this
 rw[<-f];refine aN aF (ajO (Y:=Y) (d:=d) y E u) G (fun b f t=> ?_) fun P K v i N a=> ?_
 ·by_cases I:b<n0
  ·refine .inr ?_;unfold WB at t⊢;rw[<-l b I];exact t
  ·exact .inl jO
 ·refine jB ?_;obtain⟨rfl,B,a⟩:=a;have s:aY K v p S D (q+u):=J▸x.au i (B p j);cases e:fB k r u with
  |short=>rw[e]at a;exact a.elim
  |bad R=>rw[e]at a;obtain⟨rfl,g⟩:=a;exact⟨rfl,⟨_,s⟩,L,k,m,l,f,g,bd⟩
  |ok Q w=>
   rw[e]at a;obtain⟨rfl,g⟩:=a
   have C:w=u:=by
    unfold fB at e;split at e
    ·split at e
     ·cases e
     ·cases e;rfl
    ·cases e;rfl
   subst C;exact⟨rfl,s,L,m,l,f,g,O⟩
theorem gS.lv(x:gS h n L p r m)(v:Value):gS h n L p r {m with lv:=v}:=⟨x.get,x.lt,x.lx,x.cd,x.lc,x.zr,x.ly,x.li,x.ll,x.lo⟩
theorem ajP(a:k.row=some r):({k with row:=some r}:Bk)=k:=by cases k;cases a;rfl
theorem ajQ(x:aY h n p S D A)(y:eH h n L p room k m 0)(fl:m.Fl)(o:L p=1)(U:uV room A k)(hA:A<=1000000000000000)(u2:room<=900000)(u7:3000000<=Y):
 af (WB L) n (aj aa gt Y (d+11) 216 #[jP m.b 0,jP p 0]) h n (Lp L n p S D room A k m (dp room k (ar S D A))):=by
 obtain⟨P,C⟩:∃P,ar S D A=P:=⟨_,rfl⟩;have g:=y.get;have E:=y.lt;have u9:m.b≠p:=fun e=>by have:=y.lb;rw[e,o]at this;cases this
 unfold iW at g;rw[aB (fun _=>VH) rfl,C];refine af.aA ?_;unfold JQ dp;have Z:((0:Int) !=0)=false:=rfl;have z3:((3:Int) !=0)=true:=rfl;have WW:∀b,b<n->WB L b->n<=b∨WB L b:=fun _ _ E=> .inr E;have bd:k.Bd room:=⟨aoI U.ll,fun r l=>(U.row r l).1.bd⟩;cases W:k.head with
 |false=>
  rw[W]at g;refine jA (aI @g @cf) ?_;refine aN aF (ajx (Y:=Y) (d:=d+6) x y o jO) (ah _) WW fun v1 J n1 f N a=> ?_;rw[C]at a;unfold Ak at a;by_cases c:P.length<57
  ·rw[if_pos c]at a;obtain⟨rfl,i,v⟩:=a;refine jA (aI @z3 @c) ?_;exact⟨rfl,i,v⟩
  ·rw[if_neg c]at a;obtain⟨rfl,i,v⟩:=a;cases v5:P.getD 32 false with
   |true=>have u0:((25:Int) !=0)=true:=rfl;refine jA (aI @u0 @c) ?_;exact⟨rfl,⟨_,i⟩,L,_,m,fun _ _=>rfl,rfl,v,⟨bd.1,fun r l=>bd.2 r l⟩⟩
   |false=>
    have rn:=U.hd W;have X:(if(false:Bool)=true then(25:Int)else 0)=0:=rfl;refine jA (aI @Z (aI @c @X)) ?_;refine aN aF (ajN (Y:=Y) (d:=d+8) v rn) f (fun b t h2=> ?_) fun v2 h2 n2 v8 w0 u6=> ?_
    ·by_cases j:b<n
     ·exact .inr h2
     ·exact .inl jO
    ·obtain⟨rfl,rfl,rfl⟩:=u6;refine jB ?_;exact⟨rfl,i,L,m,fun _ _=>rfl,rfl,v,fl⟩
 |true=>
  rw[W]at g;cases l:k.row with
  |none=>
   rw[l]at g;unfold uT at g;refine jA (aI @g @eK) ?_;refine aN aF (ajF (Y:=Y) (d:=d+4) x y bd o u2 jO) (ah _) WW fun v1 J n1 f N a=> ?_;rw[C]at a;unfold Lq at a;cases e:fA P with
   |short=>rw[e]at a;obtain⟨rfl,i,v⟩:=a;refine jA @z3 ?_;exact⟨rfl,i,v⟩
   |bad X=>
    rw[e]at a;obtain⟨rfl,i,h3⟩:=a;have:=EC e;have z1:(X !=0)=true:=by rw[bne_iff_ne];omega
    refine jA @z1 ?_;exact⟨rfl,i,h3⟩
   |ok s u=>rw[e]at a;obtain⟨rfl,i,L',m',G,a2,v,f1⟩:=a;refine jA @Z ?_;have:=Lt (Y:=Y) (d:=d+8) (k0:=k) (k:={k with row:=some (m6 s room)}) ⟨bd.1,fun r l=>by cases l;exact⟨by show(0:Nat)<32768;decide,sB,aO _,by have:=(uS e).1.len;show s.length+2<=258;omega⟩⟩ i v rfl f1 ((G p x.lt).trans o) f G a2 rfl;have e2:∀b:Bk,fB b (m6 s room) u= .ok b u:=fun _=>rfl;rw[e2,W]at this;exact this
  |some r=>
   rw[l]at g;unfold uT at g;have I:=y.row r l;obtain⟨O,rd,v4⟩:=U.row r l;refine jA (aI @g @eK) ?_;refine bq (Y2 (Y:=Y) (d:=d+9) I) (ah _) (fun _ _ h=>h.elim) ?_;cases hw:r.waits with
   |true=>
    refine jB ?_;refine uM trivial m.b 5 _ g E rfl fun T1 t1 t2 t3=> ?_;refine jB ?_;refine gF trivial m.b 0 _ g E (ah _) rfl fun T2 _=> ?_;refine jB ?_;refine D4 aF (ajH (Y:=Y) (d:=d+7) I O.ol O.pl jO) (ah _) (fun b t h2=> .inr ?_) fun v3 h3 z T3 v7 K u5 tn tl tw=> ?_
    ·rcases h2 with rfl|h2
     ·exact ot I.lx jD jD
     ·exact ot (I.lo b h2) jD jD
    ·obtain⟨rfl,rfl,Q⟩:=u5
     have nx:∀c,L c=2∨L c=3∨L c=1->¬(c=m.x∨aK m.ov c):=fun c j h2=>by
      rcases h2 with rfl|h2
      ·rw[I.lx]at j;omega
      ·rw[I.lo c h2]at j;omega
     have g3:=(K m.b E (nx _ (.inl y.lb))).trans g;have u1:Own h3 0 z 5 m.lv (b8 k.last):=y.last.au (ah _) fun c j=>K c (y.last.lt j).2 (nx _ (.inr (.inl (y.ll c j))));have x3:=x.au (ah _) (K p x.lt (nx _ (.inr (.inr o))));have v9:(b8 k.last).length=k.last.length:=gO _;have v6:=U.ll;refine jB ?_;refine K3 trivial (ke _ _) u1 jO (fun b t=> .inr (ot (y.ll b t) jD jD)) _ fun w T4 T5 h5 g5 k5=> ?_;refine jB ?_;refine K2 (fun _ _=>rfl) ?_;have cl:=zV (W':=fun c=>c=m.x∨aK m.ov c) t1 t2 t3 tn tl tw E (nx _ (.inl y.lb));have n5:¬aK m.lv m.b:=fun e=>by have:=y.ll _ e;rw[y.lb]at this;cases this
     have g6:=(k5 m.b E n5).trans g3;have v0:m.b<z+2:=jO;have wb:WB L m.b:=ot y.lb jD jD;refine jA (aI @g6 (aI @wb (aI @cl (aI @Z (aI @cf (aI @dJ @dG)))))) ?_;obtain⟨q,hq⟩:∃q,bR r=q:=⟨_,rfl⟩;rw[hq]at Q g5⊢;have R:∀(B:Option AB) c,c<z->¬aK m.lv c->c≠m.b->(h5.set m.b B).get c=h3.get c:=fun B c J h2 h3=>(aw _ _ h3).trans (k5 c J h2)
     refine Lt (bd:=⟨by show(k.last++[q.1]).length<=room+1;rw[bG];simp only[cP,iP];omega,fun r2 h2=>by
      cases h2;have u4:q.2.cd=r.cd:=by rw[<-hq];unfold bR;split<;>rfl
      rw[u4]
      exact O.bd⟩) (Y:=Y) (d:=d+8) (k0:=k) (m0:=m) (k:={k with head:=true,last:=k.last++[q.1],row:=some q.2}) (r:=q.2) (L:=fun c=>if c<z then L c else 3) (m:={m with lv:= .slice (some ⟨z+1,0,none⟩) ((b8 k.last).length+1) (bo+((b8 k.last).length+1))}) (A:=A) (u:=0) ?_ ⟨?_,v0, ?_, ?_, ?_, ?_⟩ rfl fl ?_ jO (fun c j=>if_pos j) rfl rfl
     ·exact x3.au jO (R _ p x.lt (fun e=>by have:=y.ll _ e;rw[o]at this;cases this) (Ne.symm u9))
     ·rw[get_eq];rfl
     ·show(if m.b<z then L m.b else 3)=2;rw[if_pos E];exact y.lb
     ·refine .inr ⟨z+1,by rw[gO,gO,bG];rfl, ?_,aO _,jO⟩;rw[aw _ _ jO,g5,D2];rfl
     ·intro c j;have:=j.inj;show(if c<z then L c else 3)=3;rw[if_neg jO]
     ·intro r' u3;cases u3;refine gS.lv (m:=m) ?_ _;exact Q.au jO (fun c j=>if_pos j) fun c j J h2=>R _ c j (fun e=>by have:=y.ll _ e;omega) fun e=>by rw[e,y.lb]at J;omega
     ·show(if p<z then L p else 3)=1;rw[if_pos x.lt];exact o
   |false=>
    have nd:r.cd.done=false:=by
     cases q:r.cd.done with
     |false=>rfl
     |true=>rw[rd q]at hw;cases hw
    refine jB ?_;refine aN aF (ajL (Y:=Y) (d:=d) y.get (by unfold iW;rw[l];rfl) E y.lb x I fl o O nd hA u7) (ah _) (fun b _ t=> .inr ?_) fun v1 J n1 f N a=> ?_
    ·rcases t with rfl|h2
     ·exact ot o jD jD
     ·unfold WB;omega
    ·rw[C]at a
     have kk:∀c,c<n->(L c=2∨L c=3)->J.get c=h.get c:=fun c j h2=>N c j (by
      rintro(rfl|h3)
      ·rw[o]at h2;omega
      ·omega)
     cases e:iG r P with
     |short=>rw[e]at a;obtain⟨rfl,i,T⟩:=a;refine jA @z3 ?_;have:=y.Lr (c:=m.m) l f (fun _ _=>rfl) kk T;rw[ajP l]at this;exact⟨rfl,i,this⟩
     |bad X=>
      rw[e]at a;obtain⟨rfl,he,i,L',r',c,G,T,rb⟩:=a;have z1:(X !=0)=true:=by rw[bne_iff_ne];omega
      refine jA @z1 ?_;exact⟨rfl,i,L',{k with row:=some r'},m.uU c,G,rfl,y.Lr l f G kk T,⟨bd.1,fun r2 h2=>by cases h2;exact rb⟩⟩
     |ok r' u=>rw[e]at a;obtain⟨rfl,i,L',c,G,T,f1⟩:=a;refine jA @Z ?_;have:=Lt (k:={k with row:=some r'}) (bd:=⟨bd.1,fun r2 h2=>by cases h2;exact ajJ (O.cd nd) O.bd e⟩) (Y:=Y) (d:=d+8) (k0:=k) (m0:=m) i (y.Lr l f G kk T) rfl f1 ((G p x.lt).trans o) f G rfl rfl;rw[W]at this;exact this
end
end Go.Proofs.YtmjolmggelkjlaaGreat
namespace Go.Proofs.YtmjolmggelkjlaaGreat
open Go
theorem wO{x k:Nat}:IntKind.u32.wrap ((x:Int)*2^k)=((x*2^k %4294967296:Nat):Int):=by
 have a:(x:Int)*2^k=((x*2^k:Nat):Int):=by push_cast;rfl
 rw[a,aoJ];rfl
theorem ajR{x y:Nat}:IntKind.u32.wrap ((x:Int)*(y:Int))=((x*y %4294967296:Nat):Int):=by
 have a:(x:Int)*(y:Int)=((x*y:Nat):Int):=by push_cast;rfl
 rw[a,aoJ];rfl
theorem Y3{a:Nat}(h:a<4294967296):(cb 32 (a:Int)).toNat=a:=by rw[vq,vr];exact lh jO
theorem Am{a b:Nat}(d:a<4294967296)(c:b<4294967296):a^^^b<4294967296:=Nat.xor_lt_two_pow (n:=32) d c
theorem sC{a b:Nat}(d:a<4294967296)(c:b<4294967296):IntKind.u32.wrap ((cb IntKind.u32.bits (a:Int)^^^cb IntKind.u32.bits (b:Int)).toNat:Int)=((a^^^b:Nat):Int):=by show IntKind.u32.wrap ((cb 32 (a:Int)^^^cb 32 (b:Int)).toNat:Int)=_;rw[BitVec.toNat_xor,Y3 d,Y3 c];exact fU (Am d c)
def jv(x:Nat):Nat:=(x*2^1 %4294967296)^^^(x/2^31*79764919 %4294967296)
theorem ajS(x:Nat):jv x<4294967296:=Am (jF _ jD) (jF _ jD)
def jk:Nat->Nat->Nat
 |0,x=>x
 |i+1,x=>jv (jk i x)
theorem An:∀(i x:Nat),x<4294967296->jk i x<4294967296
 |0,_,h=>h
 |i+1,_,_=>ajS _
def sE(b:Nat):Nat:=jk 8 (b*2^24 %4294967296)
theorem Y4(b:Nat):sE b<4294967296:=An _ _ (jF _ jD)
end Go.Proofs.YtmjolmggelkjlaaGreat
namespace Go.Proofs.YtmjolmggelkjlaaGreat
open Go.RowKit Ev Cn
structure Gt where
 last:List Nat
 bK:Nat
 sum:Nat
def fC(t b:Nat):Nat:=((t*2^1 %4294967296)^^^(t/2^31))^^^b
structure Us where
 due:Nat
 at_:Nat
 level:Nat
 bf:Option Bk
 aS:Gt
 total:Nat
 ended:Bool
def Ao:Us:=⟨0,0,0,none,⟨[],0,0⟩,0,false⟩
def jU:List Nat:=[66,90,104]
def jV:Nat:=54156738319193
def kv:Nat:=25779555029136
def pN(u:Us)(bs:List Bool):St Us:=if bs.length<8 then .short
 else if u.at_<3 then(if num (bs.take 8) 0=jU.getD u.at_ 0 then .ok {u with at_:=u.at_+1} 8 else .bad 20)
 else if num (bs.take 8) 0<49∨57<num (bs.take 8) 0 then .bad 20 else .ok {u with level:=num (bs.take 8) 0-48,at_:=0,total:=0,due:=1} 8
def qK(u:Us)(bs:List Bool):St Us:=if bs.length<48 then .short
 else if num (bs.take 48) 0=jV then .ok {u with bf:=some jj,due:=2} 48 else if num (bs.take 48) 0=kv then .ok {u with due:=3} 48 else .bad 20
def pO(Z:Nat)(u:Us)(bs:List Bool):St (Nat×Us):=match u.bf with
 |none=> .bad 7
 |some b=>match dp (u.level*Z) b bs with
  | .short=> .short
  | .bad e=> .bad e
  | .ok a w=>if a.done=true then .ok (1,{u with aS:=⟨a.last,a.bK,a.sum⟩,bf:=none,total:=fC u.total a.sum,due:=1}) w else .ok (0,{u with bf:=some a}) w
def dq(A:Nat):Nat:=(8-A %8)%8
def qL(u:Us)(A:Nat)(bs:List Bool):St Us:=if bs.length<32 then .short else if num (bs.take 32) 0=u.total then .ok {u with due:=0,ended:=true} (32+dq (A+32))else .bad 21
def sF{b:Type}(w:Nat):St b->St (Nat×b)
 | .short=> .short
 | .bad e=> .bad e
 | .ok a u=> .ok (w,a) u
def dc(Z:Nat)(u:Us)(A:Nat)(bs:List Bool):St (Nat×Us):=
 if u.due=0 then sF 0 (pN u bs)else if u.due=1 then sF 0 (qK u bs)else if u.due=2 then pO Z u bs else sF 2 (qL u A bs)
structure Um where
 a:Nat
 bm:Bm
def uW(o:Option Bk)(b:Nat):Value:=match o with
 |none=> .pointer none
 |some _=> .pointer (some ⟨b,0,none⟩)
def iX(Z:Nat)(u:Us)(m:Um)(a:Int):AB:=⟨150,true,[jI (Z:Int),jI (u.due:Int),jI (u.at_:Int),jI (u.level:Int),uW u.bf m.bm.b,.string ⟨(bS u.aS.last).toArray⟩,jI (u.aS.bK:Int),.int .u32 (u.aS.sum:Int),.int .u32 (u.total:Int),.bool u.ended,jI a]⟩
structure eh (h:H) (n:Nat) (L:Nat->Nat) (p Z:Nat) (u:Us) (m:Um) (dM:Int):Prop where
 get:h.get m.a=some (iX Z u m dM)
 lt:m.a<n
 la:L m.a=9
 bf:∀b,u.bf=some b->∃w,eH h n L p (u.level*Z) b m.bm w∧(dM=0->w=0)
theorem eh.au{h h':H}{n n':Nat}{L L':Nat->Nat}{p Z:Nat}{u:Us}{m:Um}{a:Int}(x:eh h n L p Z u m a)(d:n<=n')(f:∀c,c<n->L' c=L c)(e:∀c,c<n->2<=L c->L c<=9->h'.get c=h.get c):eh h' n' L' p Z u m a:=
 ⟨(e _ x.lt (by rw[x.la];omega) (by rw[x.la];omega)).trans x.get,fK x.lt d,(f _ x.lt).trans x.la,fun b i=>by
   obtain⟨w,l,k⟩:=x.bf b i
   exact⟨w,l.au d f fun c g j o=>e c g j jO,k⟩⟩
theorem eh.put{h h':H}{n:Nat}{L:Nat->Nat}{p Z:Nat}{u f:Us}{m:Um}{d a:Int}(x:eh h n L p Z u m d)(j:h'.get m.a=some (iX Z f m a))(g:∀c,c≠m.a->h'.get c=h.get c)(h1:∀b,f.bf=some b->u.bf=some b∧f.level=u.level)(h2:a=0->d=0):eh h' n L p Z f m a:=
 ⟨j,x.lt,x.la,fun b i=>by
   obtain⟨q1,q2⟩:=h1 b i;obtain⟨w,o,l⟩:=x.bf b q1;rw[q2]
   exact⟨w,o.au (ah _) (fun _ _=>rfl) fun c _ q k=>g c fun e=>by rw[e,x.la]at k;omega,fun e=>l (h2 e)⟩⟩
def WU(L:Nat->Nat):Nat->Prop:=fun c=>1<=L c∧L c<=9
theorem sG{L:Nat->Nat}{c i:Nat}(h:L c=i)(h1:1<=i)(h2:i<=9):WU L c:=by unfold WU;omega
structure m9 (Z A:Nat) (u:Us):Prop where
 at_:u.at_<=3
 due:u.due<=3
 lv:u.due≠0->1<=u.level∧u.level<=9
 pP:u.level<=9
 b2:u.due=2->∃b,u.bf=some b∧uV (u.level*Z) A b
 b0:u.due≠2->u.bf=none
 tot:u.total<4294967296
 u1:24<=Z
 u2:Z<=100000
theorem uV.bd{room A:Nat}{k:Bk}(x:uV room A k):k.Bd room:=⟨aoI x.ll,fun r a=>(x.row r a).1.bd⟩
theorem m9.bd{Z A:Nat}{u:Us}(x:m9 Z A u):∀b,u.bf=some b->b.Bd (u.level*Z):=fun b a=>by
 by_cases d:u.due=2
 ·obtain⟨f,c,e⟩:=x.b2 d;rw[a]at c;cases c;exact e.bd
 ·rw[x.b0 d]at a;cases a
section
variable {Y d n p Z:Nat} {h:H} {S:List UInt8} {D A:Nat} {L:Nat->Nat} {u:Us} {m:Um} {dM:Int}
theorem ajT(lv a:Nat):af (fun _=>False) n (aj aa gt Y (d+1) 96 #[jI (lv:Int),jI (a:Int)]) h n fun v h' n'=>v=(if(1<=lv∧lv<=9)∧24<=a∧a<=100000 then .tuple #[jI ((lv*a:Nat)-19:Int),jI 0]else .tuple #[jI 0,jI 1])∧h'=h∧n'=n:=by
 rw[aB (fun _=>RW) rfl];refine af.aA ?_;unfold Ik;by_cases b:(lv:Int)<1
 ·have e:¬((1<=lv∧lv<=9)∧24<=a∧a<=100000):=jO;exact jC (aI @b @e)
 by_cases c:(9:Int)<(lv:Int)
 ·have e:¬((1<=lv∧lv<=9)∧24<=a∧a<=100000):=jO;exact jC (aI @b (aI @c @e))
 by_cases f:(a:Int)<24
 ·have e:¬((1<=lv∧lv<=9)∧24<=a∧a<=100000):=jO;exact jC (aI @b (aI @c (aI @f @e)))
 by_cases g:(100000:Int)<(a:Int)
 ·have e:¬((1<=lv∧lv<=9)∧24<=a∧a<=100000):=jO;exact jC (aI @b (aI @c (aI @f (aI @g @e))))
 have e:(1<=lv∧lv<=9)∧24<=a∧a<=100000:=jO;have k:lv*a<=9*100000:=AM jO jO
 have j:IntKind.i64.wrap ((lv:Int)*(a:Int))=((lv*a:Nat):Int):=by rw[show(lv:Int)*(a:Int)=((lv*a:Nat):Int) by push_cast;rfl,aH jO jO]
 have i:IntKind.i64.wrap (((lv*a:Nat):Int)-19)=((lv*a:Nat):Int)-19:=aH jO jO;exact jC (aI @b (aI @c (aI @f (aI @g (aI @e (aI @j @i))))))
theorem ajU(h1:24<=Z)(h2:Z<=100000):af (fun _=>False) n (aj aa gt Y (d+2) 58 #[jI (Z:Int)]) h n fun v h' n'=>v= .tuple #[jP n 0,jI 0]∧n'=n+1∧∀(L:Nat->Nat) (m:Um) (p:Nat),L n=9->m.a=n->eh h' n' L p Z Ao m 0:=by rw[aB (fun _=>Rg) rfl];refine af.aA ?_;unfold HZ;have e:(1<=1∧1<=9)∧24<=Z∧Z<=100000:=jO;have c:=ajT (Y:=Y) (d:=d) (n:=n) (h:=h) 1 Z;rw[if_pos e]at c;refine bq c (ah _) (fun _ _ h=>h.elim) ?_;have f:((0:Int) !=0)=false:=rfl;refine jA (aI @bJ (aI @ext1 @f)) ?_;refine gD trivial _ _ ?_;refine jB ?_;intro L m p i a;exact⟨by rw[a,get_eq];rfl,by rw[a];omega,by rw[a];exact i,fun b g=>(nomatch g)⟩
theorem ajV(y:eh h n L p Z u m dM):af (fun _=>False) n (aj aa gt Y (d+1) 97 #[jP m.a 0]) h n fun v h' n'=>v= .bool (u.ended&&decide (u.due=0)&&decide (u.at_=0)&&decide (dM=0))∧h'=h∧n'=n:=by
 have g:=y.get;have i:=y.lt;unfold iX at g
 have q1:(((u.due:Nat):Int)==0)=decide (u.due=0):=by
  by_cases c:u.due=0
  ·rw[decide_eq_true c,c];rfl
  ·rw[decide_eq_false c];exact beq_eq_false_iff_ne.2 jO
 have q2:(((u.at_:Nat):Int)==0)=decide (u.at_=0):=by
  by_cases c:u.at_=0
  ·rw[decide_eq_true c,c];rfl
  ·rw[decide_eq_false c];exact beq_eq_false_iff_ne.2 jO
 have f:(dM==0)=decide (dM=0):=by
  by_cases c:dM=0
  ·rw[decide_eq_true c,c];rfl
  ·rw[decide_eq_false c];exact beq_eq_false_iff_ne.2 c
 rw[aB (fun _=>RX) rfl];refine af.aA ?_;unfold Il;cases e:u.ended
 ·rw[e]at g;exact jC @g
 ·rw[e]at g;cases b:decide (u.due=0)
  ·rw[b]at q1;exact jC (aI @g @q1)
  ·rw[b]at q1;cases a:decide (u.at_=0)
   ·rw[a]at q2;exact jC (aI @g (aI @q1 @q2))
   ·rw[a]at q2;exact jC (aI @g (aI @q1 (aI @q2 @f)))
theorem ajW(a b:Nat)(q:a<4294967296)(p:b<4294967296):af (fun _=>False) n (aj aa gt Y (d+1) 127 #[.int .u32 (a:Int),.int .u32 (b:Int)]) h n fun v h' n'=>v= .int .u32 ((fC a b:Nat):Int)∧h'=h∧n'=n:=by
 rw[aB (fun _=>Sz) rfl];refine af.aA ?_;unfold IH fC;have g:(0:Int)<=1:=jD;have c:(0:Int)<=31:=jD;have o:min ((1:Int)).toNat (jG).bits=1:=jD;have m:min ((31:Int)).toNat (jG).bits=31:=jD;have l:IntKind.u32.wrap ((a:Int)*2^(min ((1:Int)).toNat (jG).bits))=((a*2^1 %4294967296:Nat):Int):=by rw[o];exact _root_.Go.Proofs.YtmjolmggelkjlaaGreat.wO
 have k:((a:Int)).fdiv (2^(min ((31:Int)).toNat (jG).bits))=((a/2^31:Nat):Int):=fdiv_pow a 31 (jG).bits jD;have f:a*2^1 %4294967296<4294967296:=jF _ jD;have e:a/2^31<4294967296:=aba (aou _ _) q;have j:=sC f e;have i:=sC (Am f e) p;exact jC (aI @g (aI @c (aI @l (aI @k (aI @j @i)))))
end
theorem ajX{bs:List Bool}(h:48<=bs.length):num (bs.take 48) 0=num (bs.take 24) 0*2^24+num ((bs.drop 24).take 24) 0:=by
 have e:bs.take 48=bs.take 24++(bs.drop 24).take 24:=by rw[<-AP 24 (bs.take 48),List.take_take,List.drop_take];rfl
 rw[e,uN,qF ((bs.drop 24).take 24),cT,bE,ic jO]
theorem ajY{a b:Nat}(g:a<2^24)(c:b<2^24):IntKind.u64.wrap ((cb IntKind.u64.bits ((a*2^24:Nat):Int)|||cb IntKind.u64.bits (b:Int)).toNat:Int)=((a*2^24+b:Nat):Int):=by
 have f:(cb 64 ((a*2^24:Nat):Int)).toNat=a*2^24:=by rw[vq,vr];exact lh jO
 have e:(cb 64 (b:Int)).toNat=b:=by rw[vq,vr];exact lh jO
 show IntKind.u64.wrap ((cb 64 ((a*2^24:Nat):Int)|||cb 64 (b:Int)).toNat:Int)=_;rw[BitVec.toNat_or,f,e]
 have d:a*2^24|||b=a*2^24+b:=by have:=Nat.two_pow_add_eq_or_of_lt (i:=24) (b:=b) c a;rw[xI];exact this.symm
 rw[d];exact MP _ jO
section
variable {Y d n p Z room:Nat} {h:H} {S:List UInt8} {D A:Nat} {L:Nat->Nat} {u:Us} {m:Um} {k:Bk} {bm:Bm}
def ajZ(L:Nat->Nat)(n p:Nat)(S:List UInt8)(D room A:Nat)(k:Bk)(m:Bm)(r:St Bk)(f:Value)(h':H)(n':Nat):Prop:=match r with
 | .short=>f= .int .i64 3∧aY h' n' p S D A∧eH h' n' L p room k m 0
 | .bad e=>f= .int .i64 e∧(∃B,aY h' n' p S D B)∧∃b d a,(∀c,c<n->b c=L c)∧a.b=m.b∧eH h' n' b p room d a e∧d.Bd room
 | .ok d u=>f= .int .i64 0∧aY h' n' p S D (A+u)∧∃b a,(∀c,c<n->b c=L c)∧a.b=m.b∧eH h' n' b p room d a 0∧a.Fl
theorem Y5{room:Nat}{b:Bk}{bs:List Bool}{e:Int}(h:dp room b bs= .bad e):e=22∨e=23∨e=25:=by
 have c:∀{b:Bk} {r:Rw} {u:Nat},fB b r u= .bad e->e=23:=fun{b r u} h=>by
  unfold fB at h;split at h
  ·split at h
   ·cases h;rfl
   ·cases h
  ·cases h
 unfold dp at h;split at h
 ·split at h
  ·cases h
  ·split at h
   ·cases h;exact .inr (.inr rfl)
   ·cases h
 ·split at h
  ·split at h
   ·cases h
   ·next q=>cases h;exact .inr (.inr (EC q))
   ·cases h
  ·next r _=>
   split at h
   ·exact .inr (.inl (c h))
   ·cases a:iG r bs with
    |short=>rw[a]at h;cases h
    |bad x=>
     rw[a]at h;cases h;unfold iG at a;split at a
     ·cases a
     ·next q=>cases a;have:=Ep q;omega
     ·split at a
      ·cases a
      ·split at a
       ·cases a;exact .inr (.inr rfl)
       ·cases a
    |ok d u=>rw[a]at h;exact .inr (.inl (c h))
theorem aj0(x:aY h n p S D A)(y:eH h n L p room k bm 0)(U:bm.Fl)(C:L p=1)(E:uV room A k)(R:A<=1000000000000000)(r:room<=900000)(s:3000000<=Y):
 af (WB L) n (aj aa gt Y (d+12) 190 #[jP bm.b 0,jP p 0]) h n (ajZ L n p S D room A k bm (dp room k (ar S D A))):=by
 have g:=y.get;have I:=y.lt;have o:bm.b≠p:=fun e=>by have:=y.lb;rw[e,C]at this;cases this
 unfold iW at g;rw[E.nd]at g;rw[aB (fun _=>U0) rfl];refine af.aA ?_;unfold Jz;have N:((0:Int) !=0)=false:=rfl;have J:((3:Int) !=3)=false:=rfl;have q:((0:Int) !=3)=true:=rfl;refine jA (aI @g @N) ?_;refine aN aF (ajQ (Y:=Y) (d:=d) x y U C E R r s) (ah _) (fun _ _ I=> .inr I) fun X h1 O P T a=> ?_;have z:WB L bm.b:=ot y.lb jD jD;have Q:bm.b<O:=jO;cases e:dp room k (ar S D A)with
 |short=>rw[e]at a;obtain⟨rfl,l,i⟩:=a;refine jA @J ?_;exact⟨rfl,l,i⟩
 |bad W=>
  rw[e]at a;obtain⟨rfl,⟨B,l⟩,v,G,m,u,b,i,bd⟩:=a;have Z:=Y5 e;have K:(W !=3)=true:=by rw[bne_iff_ne];omega
  have j:=i.get;unfold iW at j;rw[b]at j;refine jA (aI @K (aI @j @z)) ?_;have f:p≠m.b:=by rw[b];exact Ne.symm o
  exact⟨rfl,⟨B,l.au (ah _) (by rw[<-b];exact aw _ _ f)⟩,v,G,m,u,b,i.put (by rw[b,get_eq];unfold iW;rfl) (fun c t=>by rw[<-b];exact aw _ _ t) rfl rfl,bd⟩
 |ok G w=>
  rw[e]at a;obtain⟨rfl,l,v,m,u,b,i,f1⟩:=a;have j:=i.get;unfold iW at j;rw[b]at j;refine jA (aI @q (aI @j @z)) ?_;have f:p≠m.b:=by rw[b];exact Ne.symm o
  exact⟨rfl,l.au (ah _) (by rw[<-b];exact aw _ _ f),v,m,u,b,i.put (by rw[b,get_eq];unfold iW;rfl) (fun c t=>by rw[<-b];exact aw _ _ t) rfl rfl,f1⟩
def Lu(L:Nat->Nat)(n p:Nat)(S:List UInt8)(D A Z:Nat)(u:Us)(m:Um)(r:St Us)(a:Value)(h':H)(n':Nat):Prop:=match r with
 | .short=>a= .int .i64 3∧aY h' n' p S D A∧eh h' n' L p Z u m 0
 | .bad e=>a= .int .i64 e∧e=20∧(∃B,aY h' n' p S D B)∧eh h' n' L p Z u m 0
 | .ok f w=>a= .int .i64 0∧aY h' n' p S D (A+w)∧∃d b,(∀c,c<n->d c=L c)∧b.a=m.a∧eh h' n' d p Z f b 0∧b.bm.Fl
theorem aj1(x:aY h n p S D A)(y:eh h n L p Z u m 0)(T:m.bm.Fl)(J:L p=1)(R:m9 Z A u)(h0:u.due=0)(N:40<=Y):af (WU L) n (aj aa gt Y (d+4) 155 #[jP m.a 0,jP p 0]) h n (Lu L n p S D A Z u m (pN u (ar S D A))):=by
 obtain⟨C,t⟩:∃C,ar S D A=C:=⟨_,rfl⟩;have v:m.a≠p:=fun e=>by have:=y.la;rw[e,J]at this;cases this
 have u1:=R.at_;rw[aB (fun _=>TH) rfl,t];refine af.aA ?_;unfold Jc pN;refine aN aF (lJ (Y:=Y) (d:=d) x 8 jD N) (ah _) (fun b _ k=> .inr (k▸sG J jD jD)) fun v1 h1 n1 u0 O i=> ?_;obtain⟨rfl,i⟩:=i;rw[t]at i;have r:((0:Int) !=0)=false:=rfl;have z3:((3:Int) !=0)=true:=rfl;rcases i with ⟨q1,rfl,rfl⟩|⟨q1,rfl,s⟩
 ·refine jA (aI @bJ (aI @ext1 (aI @z3 @q1))) ?_;exact⟨rfl,x,y⟩
 have B:¬C.length<8:=jO;have l:eh h1 n1 L p Z u m 0:=y.au (ah _) (fun _ _=>rfl) fun c j h4 _=>O c j fun e=>by rw[e,J]at h4;omega
 have g:=l.get;have ha:=l.lt;unfold iX at g;have Q:WU L m.a:=sG y.la jD jD;obtain⟨c,j⟩:∃c,num (C.take 8) 0=c:=⟨_,rfl⟩
 have cl:c<256:=by have:=ig (C.take 8);rw[cT,ic q1,j]at this;exact this
 rw[j];by_cases z:u.at_<3
 ·have a:(u.at_:Int)<3:=jO
  have K:(([66,90,104]:List UInt8).getD u.at_ 0).toNat=jU.getD u.at_ 0:=by have:u.at_=0∨u.at_=1∨u.at_=2:=jO;rcases this with e|e|e<;>rw[e]<;>rfl
  have ll:jU.getD u.at_ 0<256:=by rw[<-K];exact(([66,90,104]:List UInt8).getD u.at_ 0).toNat_lt
  have E:=fU (x:=jU.getD u.at_ 0) jO;have I:IntKind.i64.wrap ((u.at_:Int)+1)=((u.at_+1:Nat):Int):=by rw[aH jO jO];rfl
  have w3:(u.at_:Int)+1=((u.at_+1:Nat):Int):=rfl;have X:(0:Int)<=(u.at_:Int):=jO;have W:(u.at_:Int)<((([66,90,104]:List UInt8).length:Nat):Int):=by show(u.at_:Int)<3;omega
  by_cases q:c=jU.getD u.at_ 0
  ·have G:((c:Int) !=((jU.getD u.at_ 0:Nat):Int))=false:=by rw[q];exact bne_self_eq_false _
   refine jA (aI @bJ (aI @ext1 (aI @r (aI @g (aI @a (aI @X (aI @W (aI @K (aI @E (aI @G (aI @I (aI @w3 (aI @Q (aI @B (aI @z @q))))))))))))))) ?_;refine⟨rfl,s.au (ah _) (aw _ _ (Ne.symm v)),L,m,fun _ _=>rfl,rfl,l.put (by rw[get_eq];unfold iX;rfl) (fun c j=>aw _ _ j) (fun b k=>⟨k,rfl⟩) (fun _=>rfl),T⟩
  ·have G:((c:Int) !=((jU.getD u.at_ 0:Nat):Int))=true:=by rw[bne_iff_ne];omega
   refine jA (aI @bJ (aI @ext1 (aI @r (aI @g (aI @a (aI @X (aI @W (aI @K (aI @E (aI @G (aI @B (aI @z @q)))))))))))) ?_;exact⟨rfl,rfl,⟨_,s⟩,l⟩
 ·have a:¬(u.at_:Int)<3:=jO;by_cases q:c<49
  ·have f:(c:Int)<49:=jO;refine jA (aI @bJ (aI @ext1 (aI @r (aI @g (aI @a (aI @f (aI @B (aI @z @q)))))))) ?_;exact⟨rfl,rfl,⟨_,s⟩,l⟩
  by_cases U:57<c
  ·have f:¬(c:Int)<49:=jO;have o:(57:Int)<(c:Int):=jO;refine jA (aI @bJ (aI @ext1 (aI @r (aI @g (aI @a (aI @f (aI @o (aI @B (aI @z (aI @q @U)))))))))) ?_;exact⟨rfl,rfl,⟨_,s⟩,l⟩
  ·have f:¬(c:Int)<49:=jO;have o:¬(57:Int)<(c:Int):=jO;have E:IntKind.u32.wrap ((c:Int)-48)=((c-48:Nat):Int):=by rw[show(c:Int)-48=((c-48:Nat):Int) by omega];exact fU jO
   have I:IntKind.i64.wrap ((c-48:Nat):Int)=((c-48:Nat):Int):=aH jO jO;have u2:¬(c<49∨57<c):=jO;have P:=R.b0 jO;refine jA (aI @bJ (aI @ext1 (aI @r (aI @g (aI @a (aI @f (aI @o (aI @E (aI @I (aI @Q (aI @B (aI @z (aI @q @U))))))))))))) ?_;refine⟨rfl,s.au (ah _) ?_,L,m,fun _ _=>rfl,rfl,l.put (by rw[get_eq];unfold iX;rfl) (fun c j=> ?_) (fun b k=> ?_) (fun _=>rfl),T⟩
   ·simp only[aw _ _ (Ne.symm v)]
   ·simp only[aw _ _ j]
   ·have k:u.bf=some b:=k;rw[P]at k;cases k
end
theorem aj2{A:Nat}:dq A<8:=by unfold dq;omega
section
variable {Y d n p Z room:Nat} {h:H} {S:List UInt8} {D A:Nat} {L:Nat->Nat} {u:Us} {m:Um} {k:Bk} {bm:Bm}
theorem aj3(u:40<=Y):∀{A:Nat} {h:H},aY h n p S D A->af (fun c=>c=p) n (aj aa gt Y (d+1) 193 #[jP p 0]) h n fun _ h' n'=>n'=n∧aY h' n' p S D (A+dq A):=by
 intro A h x;rw[aB (fun _=>U5) rfl];refine af.aA ?_;unfold Dj
 have i:∀(j a A:Nat) (h:H),dq A=j->j<a->aY h n p S D A->af (fun c=>c=p) n (uy Y (aj aa gt Y d) a (Di Y (aj aa gt Y d)) (jP p 0)) h n fun _ h' n'=>n'=n∧aY h' n' p S D (A+dq A):=by
  intro j
  induction j with
  |zero=>
   intro a A h b v x;obtain⟨a,rfl⟩:∃f,a=f+1:=⟨a-1,jO⟩;have g:=x.get;have m:=x.lt;unfold mC at g;have l:((A:Int)).tmod 8=((A %8:Nat):Int):=rfl
   have z:((A %8:Nat):Int) !=0↔False:=by unfold dq at b;simp;omega
   have k:(((A %8:Nat):Int) !=0)=false:=by unfold dq at b;rw[bne_eq_false_iff_eq];omega
   rw[uy];refine jA (aI @g (aI @l @k)) ?_
   (try unfold Di);(try dsimp only)
   refine(kS _).2 ⟨rfl, ?_⟩;rw[b];exact x
  |succ j t=>
   intro a A h b v x;obtain⟨a,rfl⟩:∃f,a=f+1:=⟨a-1,jO⟩;have g:=x.get;have m:=x.lt;have s:=x.sm;have y:=x.hi;unfold mC at g;have l:((A:Int)).tmod 8=((A %8:Nat):Int):=rfl
   have k:(((A %8:Nat):Int) !=0)=true:=by unfold dq at b;rw[bne_iff_ne];omega
   have r:IntKind.i64.wrap ((A:Int)+1)=((A+1:Nat):Int):=by rw[aH jO jO];rfl
   have q:(A:Int)+1=((A+1:Nat):Int):=rfl;have e:dq (A+1)=j:=by unfold dq at b⊢;omega
   rw[uy];refine jA (aI @g (aI @l (aI @k (aI @r @q)))) ?_;have o:aY (h.set p (some (mC S D (A+1)))) n p S D (A+1):=⟨get_eq _ _ _,m,by have:=x.lo;omega,by unfold dq at b;omega,s⟩;have:=t a (A+1) _ e jO o;rw[show A+dq A=A+1+dq (A+1) by rw[b,e];omega];exact this
 exact i _ Y A h rfl (by have:=@aj2 A;omega) x
theorem aj4(x:aY h n p S D A)(y:eh h n L p Z u m 0)(fl:m.bm.Fl)(lp:L p=1)(Q:m9 Z A u)(v8:u.due=1)(z:40<=Y):af (WU L) n (aj aa gt Y (d+4) 156 #[jP m.a 0,jP p 0]) h n (Lu L n p S D A Z u m (qK u (ar S D A))):=by
 obtain⟨bs,j⟩:∃bs,ar S D A=bs:=⟨_,rfl⟩;have C:m.a≠p:=fun e=>by have:=y.la;rw[e,lp]at this;cases this
 rw[aB (fun _=>TI) rfl,j];refine af.aA ?_;unfold CW qK;refine bq (Ed (d:=d+1) x) (ah _) (fun _ _ h=>h.elim) ?_;rw[j];by_cases c1:bs.length<48
 ·have s:((bs.length:Nat):Int)<48:=jO;refine jA (aI @s @c1) ?_;exact⟨rfl,x,y⟩
 have s:¬((bs.length:Nat):Int)<48:=jO;refine jA (aI @s @c1) ?_;have wp:∀b,b<n->b=p->n<=b∨WU L b:=fun b _ B=> .inr (B▸sG lp jD jD);refine aN aF (lJ (Y:=Y) (d:=d) x 24 jD z) (ah _) wp fun v1 h1 n1 v7 u9 f=> ?_;obtain⟨rfl,f⟩:=f;rw[j]at f;rcases f with ⟨q,_⟩|⟨_,rfl,x1⟩
 ·omega
 have r1:ar S D (A+24)=bs.drop 24:=by rw[<-od x.lo,j]
 refine jB ?_;refine aN aF (lJ (Y:=Y) (d:=d) x1 24 jD z) (ah _) wp fun v2 h2 t v6 u7 a=> ?_;obtain⟨rfl,a⟩:=a;rw[r1,bE]at a;rcases a with ⟨q,_⟩|⟨_,rfl,N⟩
 ·omega
 have K:eh h2 t L p Z u m 0:=y.au (ah _) (fun _ _=>rfl) fun c r h4 _=>by
  have ne:c≠p:=fun e=>by rw[e,lp]at h4;omega
  rw[u7 c r ne,u9 c r ne]
 have g:=K.get;have ha:=K.lt;unfold iX at g;have wu:WU L m.a:=sG y.la jD jD;obtain⟨i,o⟩:∃v,num (bs.take 24) 0=v:=⟨_,rfl⟩;obtain⟨P,l⟩:∃v,num ((bs.drop 24).take 24) 0=v:=⟨_,rfl⟩
 have u5:i<2^24:=by have:=ig (bs.take 24);rw[cT,ic jO,o]at this;exact this
 have u0:P<2^24:=by have:=ig ((bs.drop 24).take 24);rw[cT,bE,ic jO,l]at this;exact this
 have G:=ajX (bs:=bs) jO;rw[o,l]at G;rw[o,l,G];have k:(0:Int)<=24:=jD;have X:IntKind.u64.wrap (i:Int)=(i:Int):=MP _ jO;have W:IntKind.u64.wrap (P:Int)=(P:Int):=MP _ jO
 have U:IntKind.u64.wrap ((i:Int)*2^(min ((24:Int)).toNat (aoK).bits))=((i*2^24:Nat):Int):=by rw[show min ((24:Int)).toNat (aoK).bits=24 by decide,show(i:Int)*2^24=((i*2^24:Nat):Int)from(aoL i (2^24)).symm];exact MP _ jO
 have O:=ajY u5 u0;obtain⟨v,hv⟩:∃v,i*2^24+P=v:=⟨_,rfl⟩;rw[hv]at O⊢;by_cases I:v=jV
 ·have J:(((v:Nat):Int)==54156738319193)=true:=by rw[I];rfl
  have lv:=Q.lv jO;have u2:=Q.u1;have u1:=Q.u2;have rm:u.level*Z<=9*100000:=AM lv.2 u1;have v5:1*24<=u.level*Z:=AM lv.1 u2
  have w5:IntKind.i64.wrap ((u.level:Int)*(Z:Int))=((u.level*Z:Nat):Int):=by rw[<-aoL,aH jO jO]
  refine jA (aI @k (aI @X (aI @W (aI @U (aI @O (aI @J (aI @g (aI @w5 @I)))))))) ?_;refine aN aF (ajv (Y:=Y) (d:=d+2) (room:=u.level*Z) jO jO) (ah _) (fun _ _ h=>h.elim) fun v3 h3 n3 u4 E u3=> ?_;obtain⟨rfl,rfl,v4⟩:=u3;have g3:=(E m.a ha id).trans g;have u6:m.a<t+1:=jO;refine jA (aI @bJ (aI @ext1 (aI @g3 @wu))) ?_;refine⟨rfl,(N.au u4 (E p N.lt id)).au (ah _) ?_,fun c=>if c<t then L c else 2,⟨m.a,⟨t,.slice none 0 0,0,0,Af 0,0,0,.slice none 0 0⟩⟩,fun c r=>if_pos r,rfl,⟨?_,u6, ?_,fun b B=> ?_⟩,rfl,rfl⟩
  ·simp only[aw _ _ (Ne.symm C)]
  ·rw[get_eq];rfl
  ·show(if m.a<t then L m.a else 2)=9;rw[if_pos ha];exact y.la
  ·cases B;refine⟨0,(v4 (fun c=>if c<t then L c else 2) _ p (if_neg (Nat.lt_irrefl _)) rfl rfl).au (ah _) (fun _ _=>rfl) fun c r h4 h5=> ?_,fun _=>rfl⟩
   have ne:c≠m.a:=fun e=>by rw[e,if_pos ha,y.la]at h5;omega
   simp only[aw _ _ ne]
 ·have J:(((v:Nat):Int)==54156738319193)=false:=beq_eq_false_iff_ne.2 fun e=>I (by unfold jV;omega);have b0:=Q.b0 jO;by_cases R:v=kv
  ·have T:(((v:Nat):Int)==25779555029136)=true:=by rw[R];rfl
   refine jA (aI @k (aI @X (aI @W (aI @U (aI @O (aI @J (aI @T (aI @g (aI @wu (aI @I @R)))))))))) ?_;have v0:¬kv=jV:=jD;rw[if_neg v0];refine⟨rfl,N.au (ah _) (aw _ _ (Ne.symm C)),L,m,fun _ _=>rfl,rfl,K.put (by rw[get_eq];unfold iX;rfl) (fun c r=>aw _ _ r) (fun b B=>⟨B,rfl⟩) (fun _=>rfl),fl⟩
  ·have T:(((v:Nat):Int)==25779555029136)=false:=beq_eq_false_iff_ne.2 fun e=>R (by unfold kv;omega);refine jA (aI @k (aI @X (aI @W (aI @U (aI @O (aI @J (aI @T (aI @I @R)))))))) ?_;exact⟨rfl,rfl,⟨_,N⟩,K⟩
end
theorem aj5{room:Nat}{b b':Bk}{bs:List Bool}{u:Nat}(a:b.sum<4294967296)(h:dp room b bs= .ok b' u):b'.sum<4294967296:=by
 have d:∀{b b':Bk} {r:Rw} {u w:Nat},fB b r u= .ok b' w->b'.sum=b.sum:=fun{b b' r u w} h=>by
  unfold fB at h;split at h
  ·split at h
   ·cases h
   ·cases h;rfl
  ·cases h;rfl
 unfold dp at h;split at h
 ·split at h
  ·cases h
  ·split at h
   ·cases h
   ·next h1 _=>cases h;have:=ig (bs.take 32);rw[cT,ic jO]at this;exact this
 ·split at h
  ·split at h
   ·cases h
   ·cases h
   ·cases h;exact a
  ·next r _=>
   split at h
   ·rw[d h];exact a
   ·cases c:iG r bs with
    |short=>rw[c]at h;cases h
    |bad x=>rw[c]at h;cases h
    |ok e u=>rw[c]at h;rw[d h];exact a
structure Y6 (h:H) (n:Nat) (L:Nat->Nat) (p Z:Nat) (u:Us) (m:Um):Prop where
 get:h.get m.a=some (iX Z u m 0)
 lt:m.a<n
 la:L m.a=9
 bf:∀b,u.bf=some b->∃w,eH h n L p (u.level*Z) b m.bm w
theorem eh.w{h:H}{n:Nat}{L:Nat->Nat}{p Z:Nat}{u:Us}{m:Um}(x:eh h n L p Z u m 0):Y6 h n L p Z u m:=⟨x.get,x.lt,x.la,fun b a=>by obtain⟨w,c,_⟩:=x.bf b a;exact⟨w,c⟩⟩
def xe(L:Nat->Nat)(n p:Nat)(S:List UInt8)(D A Z:Nat)(u:Us)(m:Um)(r:St (Nat×Us))(g:Value)(h':H)(n':Nat):Prop:=match r with
 | .short=>g= .tuple #[.int .i64 0,.int .i64 3]∧aY h' n' p S D A∧eh h' n' L p Z u m 0
 | .bad e=>g= .tuple #[.int .i64 0,.int .i64 e]∧(20<=e∧e<=25)∧(∃B,aY h' n' p S D B)∧∃f a d,(∀c,c<n->f c=L c)∧d.a=m.a∧Y6 h' n' f p Z a d∧a.level<=9∧∀b,a.bf=some b->b.Bd (a.level*Z)
 | .ok (h,a) w=>g= .tuple #[.int .i64 (h:Int),.int .i64 0]∧aY h' n' p S D (A+w)∧∃f d,(∀c,c<n->f c=L c)∧d.a=m.a∧eh h' n' f p Z a d 0∧d.bm.Fl
section
variable {Y d n p Z room:Nat} {h:H} {S:List UInt8} {D A:Nat} {L:Nat->Nat} {u:Us} {m:Um} {k:Bk} {bm:Bm}
theorem aj6(x:aY h n p S D A)(y:eh h n L p Z u m 0)(fl:m.bm.Fl)(r:L p=1)(I:m9 Z A u)(X:u.due=3)(i:40<=Y):af (WU L) n (aj aa gt Y (d+4) 158 #[jP m.a 0,jP p 0]) h n (xe L n p S D A Z u m (sF 2 (qL u A (ar S D A)))):=by
 obtain⟨f,k⟩:∃f,ar S D A=f:=⟨_,rfl⟩;have l:m.a≠p:=fun e=>by have:=y.la;rw[e,r]at this;cases this
 rw[aB (fun _=>TK) rfl,k];refine af.aA ?_;unfold Je qL;have wp:∀b,b<n->b=p->n<=b∨WU L b:=fun b _ v=> .inr (v▸sG r jD jD);refine aN aF (lJ (Y:=Y) (d:=d) x 32 jD i) (ah _) wp fun v1 h1 R U B a=> ?_;obtain⟨rfl,a⟩:=a;rw[k]at a;have E:((0:Int) !=0)=false:=rfl;have K:((3:Int) !=0)=true:=rfl;rcases a with ⟨q1,rfl,rfl⟩|⟨q1,rfl,G⟩
 ·refine jA (aI @bJ (aI @ext1 (aI @K @q1))) ?_;exact⟨rfl,x,y⟩
 have J:¬f.length<32:=jO;have q:eh h1 R L p Z u m 0:=y.au (ah _) (fun _ _=>rfl) fun c j z _=>B c j fun e=>by rw[e,r]at z;omega
 have g:=q.get;have W:=q.lt;unfold iX at g;have P:WU L m.a:=sG y.la jD jD;by_cases C:num (f.take 32) 0=u.total
 ·have s:(((num (f.take 32) 0:Nat):Int) !=(u.total:Int))=false:=by rw[C];exact bne_self_eq_false _
  refine jA (aI @bJ (aI @ext1 (aI @E (aI @s (aI @g (aI @J @C)))))) ?_;refine aN aF (aj3 (Y:=Y) (d:=d+2) i G) (ah _) wp fun v2 h2 Q T o t=> ?_;obtain⟨rfl,O⟩:=t;have g2:=(o m.a W l).trans g;refine jA (aI @g2 @P) ?_;have N:eh h2 Q L p Z u m 0:=q.au (ah _) (fun _ _=>rfl) fun c j z _=>o c j fun e=>by rw[e,r]at z;omega
  refine⟨rfl, ?_,L,m,fun _ _=>rfl,rfl,N.put (by rw[get_eq];unfold iX;rfl) (fun c j=> ?_) (fun b v=>⟨v,rfl⟩) (fun _=>rfl),fl⟩
  ·rw[<-vo];exact O.au (ah _) (by simp only[aw _ _ (Ne.symm l)])
  ·simp only[aw _ _ j]
 ·have s:(((num (f.take 32) 0:Nat):Int) !=(u.total:Int))=true:=by rw[bne_iff_ne];omega
  refine jA (aI @bJ (aI @ext1 (aI @E (aI @s (aI @g (aI @J @C)))))) ?_;exact⟨rfl,jD,⟨_,G⟩,L,u,m,fun _ _=>rfl,rfl,q.w,I.pP,I.bd⟩
theorem aj7(x:aY h n p S D A)(y:eh h n L p Z u m 0)(fl:m.bm.Fl)(P:L p=1)(r:m9 Z A u)(X:u.due=2)(hA:A<=1000000000000000)(U:3000000<=Y):af (WU L) n (aj aa gt Y (d+13) 157 #[jP m.a 0,jP p 0]) h n (xe L n p S D A Z u m (pO Z u (ar S D A))):=by
 obtain⟨bs,B⟩:∃bs,ar S D A=bs:=⟨_,rfl⟩;have E:m.a≠p:=fun e=>by have:=y.la;rw[e,P]at this;cases this
 obtain⟨b,C,kb⟩:=r.b2 X;obtain⟨w,yb,hw⟩:=y.bf b C;obtain rfl:=hw rfl;have g:=y.get;have W:=y.lt;unfold iX at g;rw[C]at g;unfold uW at g;have lv:=r.lv jO;have u2:=r.u1;have Q:=r.u2;have rm:u.level*Z<=9*100000:=AM lv.2 Q;have O:WU L m.a:=sG y.la jD jD;rw[aB (fun _=>TJ) rfl,B];refine af.aA ?_;unfold Jd pO;rw[C];have z0:((0:Int) !=0)=false:=rfl;have z3:((3:Int) !=0)=true:=rfl;refine jA @g ?_;have J:=aj0 (Y:=Y) (d:=d) x yb fl P kb hA jO U;rw[B]at J;refine aN aF J (ah _) (fun c _ K=> .inr (by unfold WB at K;unfold WU;omega)) fun v1 h1 n1 z u0 f=> ?_;have k:h1.get m.a=_:=(u0 m.a W (fun K=>by unfold WB at K;rw[y.la]at K;omega)).trans g;have j:m.a<n1:=jO;cases e:dp (u.level*Z) b bs with
 |short=>
  rw[e]at f;obtain⟨rfl,o,l⟩:=f;refine jA @z3 ?_;refine⟨rfl,o,⟨?_,j,y.la,fun N a=> ?_⟩⟩
  ·rw[k];unfold iX uW;rw[C]
  ·rw[C]at a;cases a;exact⟨0,l,fun _=>rfl⟩
 |bad e0=>
  rw[e]at f;obtain⟨rfl,o,s,i,t,q,a2,l,bd⟩:=f;have he:=Y5 e;have z1:(e0 !=0)=true:=by rw[bne_iff_ne];omega
  refine jA @z1 ?_;refine⟨rfl,jO,o,s,{u with bf:=some i},⟨m.a,t⟩,q,rfl,⟨?_,j,(q m.a W).trans y.la,fun N a=> ?_⟩,r.pP,fun N a=> ?_⟩
  ·rw[k];unfold iX uW;rw[a2]
  ·cases a;exact⟨e0,l⟩
  ·cases a;exact bd
 |ok i w=>
  rw[e]at f;obtain⟨rfl,o,s,t,q,a2,l,f1⟩:=f;have u3:=k;rw[<-a2]at k;have u1:s p=1:=(q p x.lt).trans P;have v:s m.a=9:=(q m.a W).trans y.la;refine jA (aI @z0 @k) ?_;refine bq (Y0 (Y:=Y) (d:=d+11) l) z (fun _ _ h=>h.elim) ?_;cases hd:i.done with
  |false=>
   refine jA @cf ?_;refine⟨rfl,o,s,⟨m.a,t⟩,q,rfl,⟨?_,j,v,fun N a=> ?_⟩,f1⟩
   ·rw[k];unfold iX uW;rfl
   ·cases a;exact⟨0,l,fun _=>rfl⟩
  |true=>
   refine jA (aI @eK @k) ?_;refine aN aF (ajw (Y:=Y) (d:=d+10) l hd) z (fun _ _ h=>h.elim) fun v2 h2 n2 T I R=> ?_;subst R;have g2:=(I m.a j id).trans k;have G:m.a<n2:=jO;have ks:=aj5 kb.sm e;refine jB ?_;refine nT trivial (vs:=[.string ⟨(bS i.last).toArray⟩,jI (i.bK:Int),.int .u32 (i.sum:Int)]) rfl rfl rfl g2 G (show 8<=11 by decide) (.inr O) _ fun h3 g3 k3=> ?_;have g4:h3.get m.a=some ⟨150,true,[jI (Z:Int),jI (u.due:Int),jI (u.at_:Int),jI (u.level:Int),jP t.b 0,.string ⟨(bS i.last).toArray⟩,jI (i.bK:Int),.int .u32 (i.sum:Int),.int .u32 (u.total:Int),.bool u.ended,jI 0]⟩:=g3;refine jA (aI @g4 @O) ?_;refine bq (ajW (Y:=Y) (d:=d+11) u.total i.sum r.tot ks) jO (fun _ _ h=>h.elim) ?_;refine jA (aI @g4 @O) ?_;refine⟨rfl, ?_,s,⟨m.a,t⟩,q,rfl,⟨?_,G,v,fun N a=>(nomatch a)⟩,f1⟩
   ·refine o.au T ?_;simp only[aw _ _ (Ne.symm E)];rw[k3 p (Ne.symm E)];exact I p o.lt id
   ·rw[get_eq];rfl
end
def US3(L:Nat->Nat)(n p:Nat)(S:List UInt8)(D A Z:Nat)(u:Us)(m:Um)(r:St (Nat×Us))(g:Value)(h':H)(n':Nat):Prop:=match r with
 | .short=>g= .tuple #[.int .i64 0,.int .i64 3]∧aY h' n' p S D A∧eh h' n' L p Z u m 0
 | .bad e=>g= .tuple #[.int .i64 0,.int .i64 e]∧(20<=e∧e<=25)∧(∃B,aY h' n' p S D B)∧∃f a d,(∀c,c<n->f c=L c)∧d.a=m.a∧eh h' n' f p Z a d e∧a.level<=9∧∀b,a.bf=some b->b.Bd (a.level*Z)
 | .ok (h,a) w=>g= .tuple #[.int .i64 (h:Int),.int .i64 0]∧aY h' n' p S D (A+w)∧∃f d,(∀c,c<n->f c=L c)∧d.a=m.a∧eh h' n' f p Z a d 0∧d.bm.Fl
section
variable {Y d n p Z room:Nat} {h:H} {S:List UInt8} {D A:Nat} {L:Nat->Nat} {u:Us} {m:Um}
theorem aj8(x:aY h n p S D A)(y:eh h n L p Z u m 0)(J:m.bm.Fl)(I:L p=1)(r:m9 Z A u)(T:A<=1000000000000000)(O:3000000<=Y):af (WU L) n (aj aa gt Y (d+14) 123 #[jP m.a 0,jP p 0]) h n (xe L n p S D A Z u m (dc Z u A (ar S D A))):=by
 have g:=y.get;have ha:=y.lt;unfold iX at g;have kd:=r.due;rw[aB (fun _=>Sw) rfl];refine af.aA ?_;unfold IF dc;have N:∀b,b<n->WU L b->n<=b∨WU L b:=fun _ _ R=> .inr R
 have one:∀(q:St Us) (c:Value) (l:H) (f:Nat),n<=f->Lu L n p S D A Z u m q c l f->af (WU L) n (ag [jI 0,c]) l f (xe L n p S D A Z u m (sF 0 q)):=by
  intro q c l f Q o;refine(kS _).2 ?_;cases q with
  |short=>obtain⟨rfl,B,z⟩:=o;exact⟨rfl,B,z⟩
  |bad e=>obtain⟨rfl,rfl,B,z⟩:=o;exact⟨rfl,jD,B,L,u,m,fun _ _=>rfl,rfl,z.w,r.pP,r.bd⟩
  |ok u' w=>obtain⟨rfl,B,X,P,W,U,z,f1⟩:=o;exact⟨rfl,B,X,P,W,U,z,f1⟩
 have C:∀(q:St (Nat×Us)) (c:Value) (l:H) (f:Nat),n<=f->xe L n p S D A Z u m q c l f->af (WU L) n (aU c 0 fun h=>aU c 1 fun i=>ag [h,i]) l f (xe L n p S D A Z u m q):=by
  intro q c l f Q o
  have e:∃a b,c= .tuple #[a,b]:=by
   cases q with
   |short=>exact⟨_,_,o.1⟩
   |bad e=>exact⟨_,_,o.1⟩
   |ok t w=>obtain⟨a,b⟩:=t;exact⟨_,_,o.1⟩
  obtain⟨a,b,rfl⟩:=e;refine jA (aI @bJ @ext1) ?_;exact o
 by_cases v:u.due=0
 ·have E:(((u.due:Nat):Int)==0)=true:=by rw[v];rfl
  refine jA (aI @g (aI @E @v)) ?_;refine aN aF (aj1 (Y:=Y) (d:=d+9) x y J I r v jO) (ah _) N fun c l f k s j=> ?_;exact one _ c l f k j
 have E:(((u.due:Nat):Int)==0)=false:=beq_eq_false_iff_ne.2 jO;by_cases G:u.due=1
 ·have q1:(((u.due:Nat):Int)==1)=true:=by rw[G];rfl
  refine jA (aI @g (aI @E (aI @q1 (aI @v @G)))) ?_;refine aN aF (aj4 (Y:=Y) (d:=d+9) x y J I r G jO) (ah _) N fun c l f k s j=> ?_;exact one _ c l f k j
 have q1:(((u.due:Nat):Int)==1)=false:=beq_eq_false_iff_ne.2 jO;by_cases K:u.due=2
 ·have q2:(((u.due:Nat):Int)==2)=true:=by rw[K];rfl
  refine jA (aI @g (aI @E (aI @q1 (aI @q2 (aI @v (aI @G @K)))))) ?_;refine aN aF (aj7 (Y:=Y) (d:=d) x y J I r K T O) (ah _) N fun c l f k s j=> ?_;exact C _ c l f k j
 ·have q2:(((u.due:Nat):Int)==2)=false:=beq_eq_false_iff_ne.2 jO;refine jA (aI @g (aI @E (aI @q1 (aI @q2 (aI @v (aI @G @K)))))) ?_;refine aN aF (aj6 (Y:=Y) (d:=d+9) x y J I r jO jO) (ah _) N fun c l f k s j=> ?_;exact C _ c l f k j
theorem aj9(x:aY h n p S D A)(y:eh h n L p Z u m 0)(fl:m.bm.Fl)(G:L p=1)(Q:m9 Z A u)(W:A<=1000000000000000)(s:3000000<=Y):af (WU L) n (aj aa gt Y (d+15) 99 #[jP m.a 0,jP p 0]) h n (US3 L n p S D A Z u m (dc Z u A (ar S D A))):=by
 have g:=y.get;have ha:=y.lt;unfold iX at g;have o:p≠m.a:=fun e=>by have:=y.la;rw[<-e,G]at this;cases this
 rw[aB (fun _=>R0) rfl];refine af.aA ?_;unfold Io;have N:((0:Int) !=0)=false:=rfl;have J:((3:Int) !=3)=false:=rfl;have q:((0:Int) !=3)=true:=rfl;refine jA (aI @g @N) ?_;refine aN aF (aj8 (Y:=Y) (d:=d) x y fl G Q W s) (ah _) (fun _ _ l=> .inr l) fun v1 h1 P R X a=> ?_;have C:WU L m.a:=sG y.la jD jD;have U:m.a<P:=jO;cases e:dc Z u A (ar S D A)with
 |short=>rw[e]at a;obtain⟨rfl,k,f⟩:=a;refine jA (aI @bJ (aI @ext1 @J)) ?_;exact⟨rfl,k,f⟩
 |bad e0=>
  rw[e]at a;obtain⟨rfl,T,⟨B,k⟩,z,E,r,v,i,f,bd⟩:=a;have K:(e0 !=3)=true:=by rw[bne_iff_ne];omega
  have j:=f.get;unfold iX at j;rw[i]at j;refine jA (aI @bJ (aI @ext1 (aI @K (aI @j @C)))) ?_;refine⟨rfl,T,⟨B,k.au (ah _) (aw _ _ o)⟩,z,E,r,v,i,⟨by rw[i,get_eq];rfl,f.lt,f.la,fun b l=> ?_⟩,bd⟩;obtain⟨w,O⟩:=f.bf b l;refine⟨w,O.au (ah _) (fun _ _=>rfl) fun c I h3 h4=>aw _ _ fun ec=> ?_,fun e=>by omega⟩;have:=f.la;rw[i,<-ec]at this;omega
 |ok t w=>obtain⟨wh,E⟩:=t;rw[e]at a;obtain⟨rfl,k,z,r,v,i,f,f1⟩:=a;have j:=f.get;unfold iX at j;rw[i]at j;refine jA (aI @bJ (aI @ext1 (aI @q (aI @j @C)))) ?_;exact⟨rfl,k.au (ah _) (aw _ _ o),z,r,v,i,f.put (by rw[i,get_eq];rfl) (fun c I=>aw _ _ (by rw[<-i];exact I)) (fun b l=>⟨l,rfl⟩) (fun _=>rfl),f1⟩
theorem aj'(y:eh h n L p Z u m 0):af (fun _=>False) n (aj aa gt Y (d+1) 121 #[jP m.a 0]) h n fun v h' n'=>v= .agg #[.string ⟨(bS u.aS.last).toArray⟩,jI (u.aS.bK:Int),.int .u32 (u.aS.sum:Int)]:=by have g:=y.get;have f:=y.lt;unfold iX at g;rw[aB (fun _=>Su) rfl];refine af.aA ?_;unfold ID;refine dX rfl _ ?_;have c:=(aw h (some ⟨134,true,[.string ⟨#[]⟩,jI 0,.int .u32 0]⟩) (show m.a≠n by omega)).trans g;have a:m.a<n+1:=jO;refine jB ?_;refine gE trivial trivial m.a 5 _ c a (show 8<=11 by decide) ?_;refine cA (sz:=3) trivial (vs:=[.string ⟨(bS u.aS.last).toArray⟩,jI (u.aS.bK:Int),.int .u32 (u.aS.sum:Int)]) rfl rfl rfl (get_eq _ _ _) jO (.inl (ah _)) _ fun i b e=> ?_;exact eD trivial trivial b rfl jO rfl
end
def By(l:List Nat):Prop:=∀x∈l,x<256
theorem By.at{l:List Nat}(k:By l){i:Nat}(h:i<l.length):l.getD i 0<256:=by rw[bz,bB h];exact k _ (dO _)
theorem lZ(l:List Nat):(bS l).length=l.length:=by unfold bS;simp
theorem EK{l:List Nat}(k:By l){i:Nat}(h:i<l.length):((bS l).getD i 0).toNat=l.getD i 0:=by have:=k.at h;unfold bS;rw[bz,jd,bB h,bz,bB h]at*;show(gU l[i]).toNat=l[i];rw[abe];exact lh this
def kX(l:List Nat):List Nat:=gh l 256
def ow(l:List Nat)(i:Nat):Nat:=bh l (l.getD i 0)+fh l (l.getD i 0) i
theorem Ap(l:List Nat):∀n,bh l n=l.countP fun x=>decide (x<n)
 |0=>by show 0=_;rw[List.countP_eq_zero.2];intro x _;simp
 |n+1=>by
  show bh l n+cn l n=_;rw[Ap l n];unfold cn
  induction l with
  |nil=>rfl
  |cons x l c=>
   simp only[List.countP_cons]
   have:(if decide (x<n)=true then 1 else 0)+(if(x==n)=true then 1 else 0)=if decide (x<n+1)=true then 1 else 0:=by
    simp only[decide_eq_true_eq,beq_iff_eq];by_cases a:x<n
    ·rw[if_pos a,if_neg jO,if_pos jO]
    ·rw[if_neg a];by_cases b:x=n
     ·rw[if_pos b,if_pos jO]
     ·rw[if_neg b,if_neg jO]
   omega
theorem xf{l:List Nat}(k:By l):(kX l).length=l.length:=by unfold kX;rw[lW,Ap,List.countP_eq_length];exact fun x a=>decide_eq_true (k x a)
theorem Y7{l:List Nat}(k:By l){i:Nat}(h:i<l.length):(kX l)[ow l i]? =some i:=by obtain⟨s,b,d,a,c⟩:=D' (D7 h) (m:=256) (k.at h);have:s=i:=X3 d h a (by rw[a,c]);rw[this]at b;exact b
theorem Y8{l:List Nat}(k:By l){i:Nat}(h:i<l.length):ow l i<l.length:=by rw[<-xf k];exact(List.getElem?_eq_some_iff.1 (Y7 k h)).1
theorem Y9(l:List Nat):∀(m q:Nat),q<bh l m->∃n r,n<m∧r<cn l n∧q=bh l n+r
 |0,q,h=>absurd h (Nat.not_lt_zero q)
 |m+1,q,h=>by
  by_cases c:q<bh l m
  ·obtain⟨n,r,b,a⟩:=Y9 l m q c;exact⟨n,r,jO,a⟩
  ·have h:q<bh l m+cn l m:=h;exact⟨m,q-bh l m,jO,jO,jO⟩
theorem Lv{l:List Nat}{q i:Nat}(h:(kX l)[q]? =some i):i<l.length∧q=ow l i:=by
 have c:q<bh l 256:=by have:=(List.getElem?_eq_some_iff.1 h).1;unfold kX at this;rwa[lW]at this
 obtain⟨n,r,e,d,a⟩:=Y9 l 256 q c;obtain⟨s,b,j,g,f⟩:=D' d (m:=256) e;rw[<-a]at b;unfold kX at h;rw[b]at h;cases h;refine⟨j, ?_⟩;unfold ow;rw[g,f,a]
theorem aj_{l:List Nat}{q:Nat}(h:q<(kX l).length):(kX l).getD q 0<l.length:=by rw[bz,bB h];exact(Lv (bB h)).1
def gp(l:List Nat)(s:Nat):Nat->Nat:=fun b=>if s<l.length then fh l b s else if s<=2*l.length then bh l b+fh l b (s-l.length)else bh l b+cn l b
def jW(l:List Nat)(s:Nat):List Nat:=(kX l).map fun i=>if i<s-l.length then i else 0
def ir(l:List Nat)(a:Nat):Nat->Nat
 |0=>a
 |j+1=>(kX l).getD (ir l a j) 0
def gq(l:List Nat)(a:Nat)(j:Nat):List Nat:=(gL j).map fun i=>l.getD (ir l a (i+1)) 0
theorem aka(l:List Nat)(a j:Nat):gq l a (j+1)=gq l a j++[l.getD (ir l a (j+1)) 0]:=by unfold gq;rw[FK,qa];rfl
theorem uX{l:List Nat}(k:By l){a:Nat}(h:a<l.length):∀j,ir l a j<l.length
 |0=>h
 |j+1=>aj_ (by rw[xf k];exact uX k h j)
theorem Y'{l:List Nat}(k:By l)(s:Nat):(jW l s).length=l.length:=by unfold jW;rw[fS,xf k]
theorem akb{l:List Nat}(k:By l){i:Nat}(h:i<l.length):(jW l (l.length+i)).set (ow l i) i=jW l (l.length+i+1):=by
 apply aaM;intro q;unfold jW;rw[aoF];by_cases e:ow l i=q
 ·subst e;rw[if_pos rfl,if_pos (by rw[fS,xf k];exact Y8 k h),jd,Y7 k h];show some i=some (if i<l.length+i+1-l.length then i else 0);rw[if_pos jO]
 ·rw[if_neg e,jd,jd];cases a:(kX l)[q]? with
  |none=>rfl
  |some j=>
   obtain⟨g,d⟩:=Lv a;have b:j≠i:=fun f=>e (by rw[d,f]);show some (if j<l.length+i-l.length then j else 0)=some (if j<l.length+i+1-l.length then j else 0);by_cases c:j<i
   ·rw[if_pos jO,if_pos jO]
   ·rw[if_neg jO,if_neg jO]
theorem Lw{l:List Nat}{s:Nat}(h:2*l.length<=s):jW l s=kX l:=by unfold jW;rw[oN (g:=id),List.map_id];intro i b;obtain⟨q,a,e⟩:=List.getElem_of_mem b;have:=(Lv (l:=l) (q:=q) (i:=i) (by rw[bB a,e])).1;exact if_pos jO
theorem Lx{l:List Nat}(k:By l){s:Nat}(h:s<=l.length):jW l s=bU l.length 0:=by unfold jW;rw[oN (g:=fun _=>0) fun i _=>if_neg jO,aoM,xf k]
theorem KZ{l:List Nat}{s:Nat}(h:s+1<l.length):lX (gp l s) (l.getD s 0) (gp l s (l.getD s 0)+1)=gp l (s+1):=by
 have a:∀b,gp l s b=fh l b s:=fun b=>if_pos jO;have c:∀b,gp l (s+1) b=fh l b (s+1):=fun b=>if_pos h;funext b;unfold lX;rw[a,a,c,sk jO];by_cases e:b=l.getD s 0
 ·rw[if_pos e,e,if_pos rfl]
 ·rw[if_neg e,if_neg (Ne.symm e),iO]
theorem akc{l:List Nat}{s:Nat}(h:s+1=l.length):lX (gp l s) (l.getD s 0) (gp l s (l.getD s 0)+1)=cn l:=by
 have a:∀b,gp l s b=fh l b s:=fun b=>if_pos jO;funext b;unfold lX;have:=sk (ln:=l) (i:=s) jO b;rw[h,uO]at this;rw[a,a,this];by_cases e:b=l.getD s 0
 ·rw[if_pos e,e,if_pos rfl]
 ·rw[if_neg e,if_neg (Ne.symm e),iO]
theorem nxN{l:List Nat}(h:0<l.length):gp l l.length=bh l:=by funext b;unfold gp;rw[if_neg jO,if_pos jO,Nat.sub_self];rfl
theorem EL{l:List Nat}{i:Nat}(h:i<=l.length)(a:0<l.length)(b:Nat):gp l (l.length+i) b=bh l b+fh l b i:=by unfold gp;rw[if_neg jO,if_pos jO,show l.length+i-l.length=i by omega]
theorem nx1{l:List Nat}{i:Nat}(h:i<l.length):gp l (l.length+i) (l.getD i 0)=ow l i∧lX (gp l (l.length+i)) (l.getD i 0) (gp l (l.length+i) (l.getD i 0)+1)=gp l (l.length+i+1):=by
 refine⟨EL jO jO _, ?_⟩;funext b;unfold lX;rw[EL jO jO,EL jO jO,show l.length+i+1=l.length+(i+1) by omega,EL jO jO,sk h];by_cases e:b=l.getD i 0
 ·rw[if_pos e,e,if_pos rfl];omega
 ·rw[if_neg e,if_neg (Ne.symm e),iO]
theorem Za{l:List Nat}{s:Nat}(h:2*l.length<=s)(a:0<l.length)(b:Nat):gp l s b=bh l b+cn l b:=by
 unfold gp;rw[if_neg jO];by_cases c:s<=2*l.length
 ·rw[if_pos c,show s-l.length=l.length by omega,uO]
 ·rw[if_neg c]
theorem nx2{l:List Nat}{s:Nat}(h:2*l.length<=s)(a:0<l.length):gp l s=gp l (s+1):=by funext b;rw[Za h a,Za jO a]
theorem nxZ(l:List Nat)(h:0<l.length):gp l 0=fun _=>0:=by funext b;unfold gp;rw[if_pos h];rfl
def cS(a:Value)(f:Nat->Nat)(lv c ov b:Value):List Value:=a::(jT f 256++[lv,c,ov,b])
section
variable {sv lv av ov st w:Value} {f:Nat->Nat}
theorem oA:(cS sv f lv av ov st).length=261:=by unfold cS;rw[cP,bG,kt];rfl
theorem xj:(cS sv f lv av ov st)[0]? =some sv:=rfl
theorem LA{j:Nat}(h:j<256):(cS sv f lv av ov st)[1+j]? =some (jI (f j:Int)):=by unfold cS;rw[FC,vm,List.getElem?_append_left (by rw[kt];exact h),Ef h]
theorem EM{i:Nat}:(cS sv f lv av ov st)[257+i]? =[lv,av,ov,st][i]? :=by unfold cS;rw[show 257+i=256+i+1 by omega,vm,List.getElem?_append_right (by rw[kt];omega),kt,show 256+i-256=i by omega]
theorem Zb:(cS sv f lv av ov st)[257]? =some lv:=EM (i:=0)
theorem akd:(cS sv f lv av ov st)[258]? =some av:=EM (i:=1)
theorem LB:(cS sv f lv av ov st)[259]? =some ov:=EM (i:=2)
theorem oB:(cS sv f lv av ov st)[260]? =some st:=EM (i:=3)
theorem EN{j v:Nat}(h:j<256):(cS sv f lv av ov st).set (1+j) (jI (v:Int))=cS sv (lX f j v) lv av ov st:=by unfold cS;rw[FC,vt,List.set_append_left _ _ (by rw[kt];exact h),KW]
theorem EO{i:Nat}{w:Value}:(cS sv f lv av ov st).set (257+i) w=sv::(jT f 256++[lv,av,ov,st].set i w):=by unfold cS;rw[show 257+i=256+i+1 by omega,vt,List.set_append_right _ _ (by rw[kt];omega),kt,show 256+i-256=i by omega]
theorem Zc:(cS sv f lv av ov st).set 258 w=cS sv f lv w ov st:=EO (i:=1)
theorem Zd:(cS sv f lv av ov st).set 259 w=cS sv f lv av w st:=EO (i:=2)
theorem EP:(cS sv f lv av ov st).set 260 w=cS sv f lv av ov w:=EO (i:=3)
theorem ake:((cS sv f lv av ov st).drop 1).take 256=jT f 256:=by unfold cS;rw[List.drop_succ_cons,jz,List.take_append_of_le_length (by rw[kt];exact ah _)];exact List.take_of_length_le (by rw[kt];exact ah _)
end
structure gT (h:H) (n a:Nat) (l:List Nat) (cG s lb:Nat) (ov:Value) (out:List Nat):Prop where
 get:h.get a=some ⟨176,true,cS (.string ⟨(bS l).toArray⟩) (gp l s) (.slice (some ⟨lb,0,none⟩) l.length l.length) (jI ((ir l cG (s-2*l.length):Nat):Int)) ov (jI (s:Int))⟩
 lt:a<n
 xm:h.get lb=some ⟨3,true,aV .i64 (iN (jW l s))⟩
 sH:lb<n
 own:Own h 0 n 5 ov (b8 out)
structure l5 (l:List Nat) (cG:Nat):Prop where
 iH:By l
 pos:0<l.length
 len:l.length<=900000
 cG:cG<l.length
def iI(l:List Nat)(a s:Nat):List Nat:=if 2*l.length<=s then [l.getD (ir l a (s+1-2*l.length)) 0]else []
section
variable {Y d n a lb cG s:Nat} {h:H} {l out:List Nat} {ov:Value}
theorem gT.ne(x:gT h n a l cG s lb ov out):a≠lb:=lY x.get x.xm (by decide:(176:Nat)≠3)
theorem gT.uY(x:gT h n a l cG s lb ov out){b:Nat}(e:aK ov b):b≠a∧b≠lb:=by obtain⟨B,d,c⟩:=x.own.elem e;exact⟨lY d x.get (by rw[c];exact(by decide:(5:Nat)≠176)),lY d x.xm (by rw[c];exact(by decide:(5:Nat)≠3))⟩
theorem gT.au(x:gT h n a l cG s lb ov out){h':H}{n':Nat}(c:n<=n')(h1:h'.get a=h.get a)(h2:h'.get lb=h.get lb)(d:∀b,aK ov b->h'.get b=h.get b):gT h' n' a l cG s lb ov out:=
 ⟨h1.trans x.get,fK x.lt c,h2.trans x.xm,fK x.sH c,x.own.au c d⟩
def II(a lb:Nat)(ov:Value):Nat->Prop:=fun b=>b=a∨b=lb∨aK ov b
theorem Aq(x:gT h n a l cG s lb ov out)(ok:l5 l cG)(i:s<=3*l.length):af (fun _=>False) n (aj aa gt Y (d+1) 118 #[jP a 0]) h n fun v h' n'=>v= .bool (decide (s=3*l.length))∧h'=h∧n'=n:=by
 have g:=x.get;have k:=x.lt;have j:=ok.len;have f:=lZ l;have b:IntKind.i64.wrap (3*((l.length:Nat):Int))=((3*l.length:Nat):Int):=by rw[aH jO jO];rfl
 have e:(((s:Nat):Int)==((3*l.length:Nat):Int))=decide (s=3*l.length):=by
  by_cases c:s=3*l.length
  ·rw[decide_eq_true c,c];exact beq_iff_eq.2 rfl
  ·rw[decide_eq_false c];exact beq_eq_false_iff_ne.2 jO
 rw[aB (fun _=>Sq) rfl];refine af.aA ?_;unfold IA;exact jC (aI @g (aI @xj (aI @oB (aI @f (aI @b @e)))))
theorem akf{cs:Value}{lv m e k:Value}(g:h.get a=some ⟨176,true,cS cs (cn l) lv m e k⟩)(G:a<n)(ok:l5 l cG)(D:300<=Y):af (fun b=>b=a) n (aj aa gt Y (d+1) 209 #[jP a 0]) h n fun _ h' n'=>n'=n∧h'.get a=some ⟨176,true,cS cs (bh l) lv m e k⟩∧∀b,b≠a->h'.get b=h.get b:=by
 have K:=ok.len;have r:∀i,bh l i<=l.length:=fun i=>by rw[Ap];exact AS
 have s:∀i,cn l i<=l.length:=fun i=>by unfold cn;exact AS
 rw[aB (fun _=>VE) rfl];refine af.aA ?_;unfold Dv;refine jB ?_;refine gE trivial trivial a 1 _ g G (by rw[oA];decide) ?_;show af _ n (rZ Y (aj aa gt Y d) Y (zD Y (aj aa gt Y d)) _ _ (.agg (((cS cs (cn l) lv m e k).drop 1).take 256).toArray) _) _ _ _;rw[ake]
 refine dL 256 (fun u i (q:Unit)=>rZ Y (aj aa gt Y d) u (zD Y (aj aa gt Y d)) (jP a 0) (jI ((bh l i:Nat):Int)) (.agg (jT (cn l) 256).toArray) (jI (i:Int)))
  (fun i q h' n'=>n'=n∧h'.get a=some ⟨176,true,cS cs (fun j=>if j<i then bh l j else cn l j) lv m e k⟩∧∀b,b≠a->h'.get b=h.get b) ?_ ?_ Y 0 () h n (aO _) jO ⟨rfl,g,fun _ _=>rfl⟩
 ·rintro u q h' n' ⟨rfl,t,o⟩;have v:¬(((256:Nat):Int)<256):=jD;rw[rZ];refine jA @v ?_
  (try unfold zD);(try dsimp only)
  refine(kS _).2 ⟨rfl, ?_,o⟩
  have J:jT (fun j=>if j<256 then bh l j else cn l j) 256=jT (bh l) 256:=by unfold jT;refine oN fun j E=> ?_;have:=List.mem_range.1 E;show jI ((if j<256 then bh l j else cn l j:Nat):Int)=_;rw[if_pos this]
  have I:cS cs (fun j=>if j<256 then bh l j else cn l j) lv m e k=cS cs (bh l) lv m e k:=by unfold cS;rw[J]
  rw[t,I]
 ·rintro u i q h' n' x ⟨rfl,t,o⟩ next;have v:(i:Int)<256:=jO;have at_:=Ef (f:=cn l) x;have L:=r i;have N:=s i
  have C:IntKind.i64.wrap (((bh l i:Nat):Int)+((cn l i:Nat):Int))=((bh l (i+1):Nat):Int):=by have:bh l (i+1)=bh l i+cn l i:=rfl;rw[aH jO jO,this,Int.natCast_add]
  have B:IntKind.i64.wrap ((i:Int)+1)=((i+1:Nat):Int):=by rw[aH jO jO];rfl
  have A:(i:Int)+1=((i+1:Nat):Int):=rfl;have p:1+i<(cS cs (fun j=>if j<i then bh l j else cn l j) lv m e k).length:=by rw[oA];omega
  rw[rZ];refine jA (aI @v (aI @at_ (aI @t (aI @p (aI @C (aI @B @A)))))) ?_;refine next () _ _ ⟨rfl, ?_,fun b y=>(aw _ _ y).trans (o b y)⟩;rw[get_eq,EN x];congr 3;funext j;unfold lX;by_cases c:j=i
  ·rw[if_pos c,if_pos jO,c]
  ·rw[if_neg c];show(if j<i then bh l j else cn l j)=_;by_cases z:j<i
   ·rw[if_pos z,if_pos jO]
   ·rw[if_neg z,if_neg jO]
set_option maxHeartbeats 1000000 in
theorem akg(x:gT h n a l cG s lb ov out)(ok:l5 l cG)(hs:s<3*l.length)(ho:out.length<=1000000000)(u9:300<=Y):af (II a lb ov) n (aj aa gt Y (d+2) 181 #[jP a 0]) h n fun _ h' n'=>∃U,gT h' n' a l cG (s+1) lb U (out++iI l cG s)∧∀b,aK U b->aK ov b∨n<=b:=by
 have g:=x.get;have ha:=x.lt;have gl:=x.xm;have G:=x.sH;have u:=x.ne;have hl:=ok.len;have hp:=ok.pos;have bl:=lZ l;have T:II a lb ov a:= .inl rfl;have Wl:II a lb ov lb:= .inr (.inl rfl);have nz:¬(((l.length:Nat):Int)=0):=jO;have ws:IntKind.i64.wrap ((s:Int)+1)=((s+1:Nat):Int):=by rw[aH jO jO];rfl
 have C:(s:Int)+1=((s+1:Nat):Int):=rfl;obtain⟨i,hi⟩:∃i,s %l.length=i:=⟨_,rfl⟩;obtain⟨q,hq⟩:∃q,s/l.length=q:=⟨_,rfl⟩;have y:i<l.length:=by rw[<-hi];exact jF _ hp
 have v7:q<3:=by rw[<-hq,Nat.div_lt_iff_lt_mul hp];omega
 have v5:s=q*l.length+i:=by rw[<-hi,<-hq,xI];exact(Nat.div_add_mod s l.length).symm
 have e1:((s:Int)).tmod ((l.length:Nat):Int)=(i:Int):=by rw[<-hi];rfl
 have e2:((s:Int)).tdiv ((l.length:Nat):Int)=(q:Int):=by rw[<-hq];rfl
 have w1:IntKind.i64.wrap (q:Int)=(q:Int):=aH jO jO;rw[aB (fun _=>UL) rfl];refine af.aA ?_;unfold Jt
 have fin:∀(O:H) (r:Nat) (f:Nat->Nat) (lv p D:Value) (Q:Value->H->Nat->Prop),n<=r->O.get a=some ⟨176,true,cS (.string ⟨(bS l).toArray⟩) f lv p D (jI (s:Int))⟩->
  (∀R v,R.get a=some ⟨176,true,cS (.string ⟨(bS l).toArray⟩) f lv p D (jI ((s+1:Nat):Int))⟩->(∀b,b≠a->R.get b=O.get b)->Q v R r)->
  af (II a lb ov) n (aP (jP a 260) fun h=>aq h (ii 1) fun i=>aJ (jP a 260) i fun _=>ag []) O r Q:=by
  intro O r f lv p D Q hn g1 hQ;have v8:a<r:=jO;have u6:260<(cS (.string ⟨(bS l).toArray⟩) f lv p D (jI (s:Int))).length:=by rw[oA];decide
  refine jA (aI @g1 (aI @oB (aI @ws (aI @C (aI @T (aI @u6 @EP)))))) ?_;exact hQ _ _ (get_eq _ _ _) fun b N=>aw _ _ N
 have v0:∀i,bh l i<=l.length:=fun i=>by rw[Ap];exact AS
 have v2:∀i,cn l i<=l.length:=fun i=>by unfold cn;exact AS
 have u4:∀b,gp l s b<=2*l.length:=fun b=>by
  have O:=v0 b;have R:=v2 b;have h3:=fun j=>KR l b j;unfold gp;split
  ·have:=h3 s;omega
  ·split
   ·have:=h3 (s-l.length);omega
   ·omega
 obtain⟨b,N⟩:∃b,l.getD i 0=b:=⟨_,rfl⟩;have m:b<256:=by rw[<-N];exact ok.iH.at y
 have ba:=EK ok.iH y;rw[N]at ba;have i0:(0:Int)<=(i:Int):=jO;have i1:(i:Int)<(((bS l).length:Nat):Int):=jO;have b0:(0:Int)<=(b:Int):=jO;have b1:(b:Int)<256:=jO;have nb:=u4 b;have wn:IntKind.i64.wrap (((gp l s b:Nat):Int)+1)=((gp l s b+1:Nat):Int):=by rw[aH jO jO];rfl
 have z:∀{J:Value} {f:Nat->Nat} {lv p ov K:Value},1+b<(cS J f lv p ov K).length:=by intros;rw[oA];omega
 have A:∀{J:Value} {f:Nat->Nat} {lv p ov K:Value},260<(cS J f lv p ov K).length:=by intros;rw[oA];decide
 have u1:q=0∨q=1∨q=2:=jO;rcases u1 with rfl|rfl|rfl
 ·have P:(((0:Nat):Int)==0)=true:=rfl;have o:i=s:=jO;have I:iI l cG s=[]:=if_neg jO;have B:s-2*l.length=0∧s+1-2*l.length=0:=jO;have kk:jW l s=jW l (s+1):=by rw[Lx ok.iH jO,Lx ok.iH jO]
  by_cases hN:i+1=l.length
  ·have eN:(((i:Nat):Int)==((l.length:Nat):Int)-1)=true:=beq_iff_eq.2 jO;try simp(disch:=first|omega|assumption) only[Nat.reduceAdd,Nat.reduceLT,RZ,g,xj,oB,bl,nz,e1,e2,w1,P,ba,i0,i1,b0,b1,LA m,z,wn,EN m,T,eN]
   have W:=akc (l:=l) (s:=s) jO;rw[<-o,N,o]at W;rw[W];refine aN aF (akf (Y:=Y) (d:=d) (get_eq _ _ _) ha ok u9) (ah _) (fun c _ k=> .inr (.inl k)) fun v1 O r u5 v9 u3=> ?_;obtain⟨rfl,g1,k1⟩:=u3;refine fin O r _ _ _ _ _ u5 g1 fun R v g2 k2=>⟨ov, ?_,fun c k=> .inl k⟩;have un:∀c,c≠a->R.get c=h.get c:=fun c k=>(k2 c k).trans ((k1 c k).trans (aw _ _ k));rw[I,bV];refine⟨?_,ha, ?_,G,x.own.au (ah _) fun c k=>un c (x.uY k).1⟩
   ·rw[g2,show s+1=l.length by omega,nxN hp,show l.length-2*l.length=0 by omega,show s-2*l.length=0 by omega]
   ·rw[un lb (Ne.symm u),gl,kk]
  ·have eN:(((i:Nat):Int)==((l.length:Nat):Int)-1)=false:=beq_eq_false_iff_ne.2 jO;try simp(disch:=first|omega|assumption) only[Nat.reduceAdd,Nat.reduceLT,RZ,g,xj,oB,bl,nz,e1,e2,w1,P,ba,i0,i1,b0,b1,LA m,z,wn,EN m,T,eN,A,ws,C,EP]
   have W:=KZ (l:=l) (s:=s) jO;rw[<-o,N,o]at W;rw[W];refine⟨ov, ?_,fun c k=> .inl k⟩;rw[I,bV];refine⟨?_,ha, ?_,G,x.own.au (ah _) fun c k=> ?_⟩
   ·rw[get_eq,B.1,B.2]
   ·simp only[aw _ _ (Ne.symm u)];rw[gl,kk]
   ·simp only[aw _ _ (x.uY k).1]
 ·have P:(((1:Nat):Int)==0)=false:=rfl;have q1:(((1:Nat):Int)==1)=true:=rfl;have o:s=l.length+i:=jO;have I:iI l cG s=[]:=if_neg jO;have B:s-2*l.length=0∧s+1-2*l.length=0:=jO;obtain⟨r,n2⟩:=nx1 y;rw[<-o,N]at r n2;have pl:=Y8 ok.iH y;have p0:(0:Int)<=((ow l i:Nat):Int):=jO;have p1:((ow l i:Nat):Int)<((l.length:Nat):Int):=jO;have L:=Y' ok.iH s;have u7:ow l i<(aV .i64 (iN (jW l s))).length:=by rw[eu,fi,L];exact pl
  rw[r]at wn n2;try simp(disch:=first|omega|assumption) only[Nat.reduceAdd,Nat.reduceLT,RZ,g,xj,Zb,oB,bl,nz,e1,e2,w1,P,q1,ba,i0,i1,b0,b1,LA m,z,r,p0,p1,u7,gl,Wl,wn,EN m,T,A,ws,C,EP]
  rw[n2];refine⟨ov, ?_,fun c k=> .inl k⟩;rw[I,bV];refine⟨?_,ha, ?_,G,x.own.au (ah _) fun c k=> ?_⟩
  ·rw[get_eq,B.1,B.2]
  ·simp only[aw _ _ (Ne.symm u),get_eq]
   have e3:(aV .i64 (iN (jW l s))).set (ow l i) (jI (i:Int))=aV .i64 (iN (jW l (s+1))):=by have:=akb ok.iH y;rw[<-o]at this;rw[<-this];unfold aV iN;rw[<-aoy,<-aoy]
   rw[e3]
  ·simp only[aw _ _ (x.uY k).1,aw _ _ (x.uY k).2]
 ·have P:(((2:Nat):Int)==0)=false:=rfl;have q1:(((2:Nat):Int)==1)=false:=rfl;have E:2*l.length<=s:=jO;have al:=uX ok.iH ok.cG (s-2*l.length);have u2:=uX ok.iH ok.cG (s+1-2*l.length);have ae:ir l cG (s+1-2*l.length)=(kX l).getD (ir l cG (s-2*l.length)) 0:=by rw[show s+1-2*l.length=(s-2*l.length)+1 by omega];rfl
  have kk:jW l s=jW l (s+1):=by rw[Lw E,Lw jO]
  have I:iI l cG s=[l.getD (ir l cG (s+1-2*l.length)) 0]:=if_pos E;have a0:(0:Int)<=((ir l cG (s-2*l.length):Nat):Int):=jO;have a1:((ir l cG (s-2*l.length):Nat):Int)<((l.length:Nat):Int):=jO;have L:=Y' ok.iH s
  have lc:(aV .i64 (iN (jW l s)))[ir l cG (s-2*l.length)]? =some (jI ((ir l cG (s+1-2*l.length):Nat):Int)):=by rw[Cf (by rw[fi,L];exact al),pG,Lw E,<-ae]
  obtain⟨t,ht⟩:∃t,ir l cG (s+1-2*l.length)=t:=⟨_,rfl⟩;rw[ht]at lc u2 I ae;have Z:∀{J:Value} {f:Nat->Nat} {lv p ov K:Value},258<(cS J f lv p ov K).length:=by intros;rw[oA];decide
  have X:∀{J:Value} {f:Nat->Nat} {lv p ov K:Value},259<(cS J f lv p ov K).length:=by intros;rw[oA];decide
  have t0:(0:Int)<=(t:Int):=jO;have t1:(t:Int)<(((bS l).length:Nat):Int):=jO;have ta:=EK ok.iH u2;refine jA (aI @g (aI @xj (aI @Zb (aI @akd (aI @oB (aI @bl (aI @nz (aI @e1 (aI @e2 (aI @w1 (aI @P (aI @q1 (aI @a0 (aI @a1 (aI @gl (aI @lc (aI @Z (aI @Zc (aI @T (aI @LB (aI @t0 (aI @t1 @ta)))))))))))))))))))))) ?_;have v6:=gO out;refine si trivial (ke _ _) (x.own.au (ah _) fun c k=>aw _ _ (x.uY k).1) jO (fun c k=> .inr (.inr (.inr k))) _ fun h3 g3 k3=> ?_;have v3:h3.get a=_:=(k3 a ha fun e=>(x.uY e).1 rfl).trans (get_eq _ _ _);have u0:a<n+2:=jO;refine jA (aI @v3 (aI @u0 (aI @X (aI @Zd (aI @T (aI @oB (aI @A (aI @ws (aI @C @EP))))))))) ?_;refine⟨.slice (some ⟨n+1,0,none⟩) ((b8 out).length+1) (bo+((b8 out).length+1)),⟨?_,u0, ?_,jO, ?_⟩,fun c k=> .inr (by have:=k.inj;omega)⟩
  ·rw[get_eq,ht,nx2 E hp]
  ·simp only[aw _ _ (Ne.symm u)];rw[k3 lb G (fun e=>(x.uY e).2 rfl),aw _ _ (Ne.symm u),gl,kk]
  ·refine .inr ⟨n+1, ?_, ?_,aO _,jO⟩
   ·rw[gO,gO,bG,I];rfl
   ·have na:n+1≠a:=jO;simp only[aw _ _ na];rw[g3,I,D2];rfl
end
theorem ivz:Hx=cS (.string ⟨#[]⟩) (fun _=>0) (.slice none 0 0) (jI 0) (.slice none 0 0) (jI 0):=by
 unfold Hx cS;simp only[BR,yh]
 have:jT (fun _=>0) 256=bU 256 (jI 0):=by unfold jT;rw[aoM,List.length_range];rfl
 rw[this];rfl
theorem akh{c lv b ov a w:Value}{f:Nat->Nat}:(cS c f lv b ov a).set 0 w=cS w f lv b ov a:=rfl
theorem aki{a lv c ov b w:Value}{f:Nat->Nat}:(cS a f lv c ov b).set 257 w=cS a f w c ov b:=EO (i:=0)
def pQ(l:List Nat)(a s:Nat):Nat->List Nat
 |0=>[]
 |k+1=>pQ l a s k++iI l a (s+k)
theorem Ze(l:List Nat)(a s:Nat):∀k,(pQ l a s k).length<=k
 |0=>ah _
 |k+1=>by
  have:=Ze l a s k;have b:(iI l a (s+k)).length<=1:=by unfold iI;split<;>simp
  show(pQ l a s k++iI l a (s+k)).length<=_;rw[bG];omega
section
variable {Y d n a lb cG s:Nat} {h:H} {l out:List Nat} {ov:Value}
theorem akj(ok:l5 l cG):af (fun _=>False) n (aj aa gt Y (d+1) 152 #[.string ⟨(bS l).toArray⟩,jI (cG:Int)]) h n fun v h' n'=>v= .tuple #[jP (n+1) 0,jI 0]∧n'=n+2∧gT h' n' (n+1) l cG 0 n (.slice none 0 0) []:=by
 have t:=ok.len;have m:=ok.pos;have s:=ok.cG;have k:=lZ l;rw[aB (fun _=>TE) rfl];refine af.aA ?_;unfold I'
 have o:decide (bS l=([]:List UInt8))=false:=decide_eq_false fun e=>by rw[e]at k;simp only[iP]at k;omega
 have r:¬((900000:Int)<((l.length:Nat):Int)):=jO;have q:¬((cG:Int)<0):=jO;have p:¬(((l.length:Nat):Int)<=(cG:Int)):=jO;refine jA (aI @o (aI @k (aI @r (aI @q @p)))) ?_;refine Ev.run_make trivial l.length l.length _ (ah _) jO ?_;have j:∀{a:Value} {f:Nat->Nat} {lv i ov b:Value},0<(cS a f lv i ov b).length:=by intros;rw[oA];decide
 have g:∀{a:Value} {f:Nat->Nat} {lv i ov b:Value},257<(cS a f lv i ov b).length:=by intros;rw[oA];decide
 have c:∀{a:Value} {f:Nat->Nat} {lv i ov b:Value},258<(cS a f lv i ov b).length:=by intros;rw[oA];decide
 rw[ivz];refine jA (aI @j (aI @g (aI @c (aI @akh (aI @aki @Zc))))) ?_;refine gD trivial _ _ ?_;refine jB ?_;refine⟨?_,jO, ?_,jO,Own.nil _ _ _ _⟩
 ·have e:ir l cG (0-2*l.length)=cG:=by rw[Nat.zero_sub];rfl
  rw[get_eq,nxZ l m,e];rfl
 ·rw[aw _ _ jO,get_eq,Lx ok.iH (aO _)];unfold aV iN;rw[aoz,aoz];rfl
theorem akk(x:gT h n a l cG s lb ov out):af (fun b=>b=a) n (aj aa gt Y (d+1) 148 #[jP a 0]) h n fun v h' n'=>v= .string ⟨(bS out).toArray⟩∧n'=n∧gT h' n' a l cG s lb (.slice none 0 0) []∧∀b,b≠a->h'.get b=h.get b:=by
 have g:=x.get;have k:=x.lt;rw[aB (fun _=>Ty) rfl];refine af.aA ?_;unfold I7;have c:∀{e:Value} {f:Nat->Nat} {lv m ov i:Value},259<(cS e f lv m ov i).length:=by intros;rw[oA];decide
 refine jA (aI @g @LB) ?_;refine XX x.own _ ?_;refine jA (aI @g (aI @c @Zd)) ?_;refine⟨⟨get_eq _ _ _,k,(aw _ _ (Ne.symm x.ne)).trans x.xm,x.sH,Own.nil _ _ _ _⟩,fun b j=>aw _ _ j⟩
theorem akl(x:gT h n a l cG s lb ov out)(ok:l5 l cG)(W:s<=3*l.length)(B:Nat)(hB:B<=1000000000)(X:out.length<=100000000)(L:3000000<=Y):af (II a lb ov) n (aj aa gt Y (d+3) 147 #[jP a 0,jI (B:Int)]) h n fun v h' n'=>v=jI ((min B (3*l.length-s):Nat):Int)∧∃e,gT h' n' a l cG (s+min B (3*l.length-s)) lb e (out++pQ l cG s (min B (3*l.length-s)))∧∀b,aK e b->aK ov b∨n<=b:=by
 have g:=x.get;have ha:=x.lt;have Z:=ok.len;rw[aB (fun _=>Tx) rfl];refine af.aA ?_;unfold CT;refine jA (aI @g @oB) ?_;obtain⟨N,Q⟩:∃N,min B (3*l.length-s)=N:=⟨_,rfl⟩;rw[Q]
 have z:∀(r j i:Nat) (h':H) (n':Nat) (e:Value),N=j+r->r<i->n<=n'->gT h' n' a l cG (s+j) lb e (out++pQ l cG s j)->(∀b,aK e b->aK ov b∨n<=b)->
  af (II a lb ov) n (ui Y (aj aa gt Y (d+2)) i (yU Y (aj aa gt Y (d+2))) (jP a 0) (jI (B:Int)) (jI 0) (jI (s:Int)) (.bool false)) h' n' fun v h' n'=>v=jI (N:Int)∧∃e,gT h' n' a l cG (s+N) lb e (out++pQ l cG s N)∧∀b,aK e b->aK ov b∨n<=b:=by
  intro r
  induction r with
  |zero=>
   intro j i h' n' e O P p k m;obtain⟨i,rfl⟩:∃f,i=f+1:=⟨i-1,jO⟩;obtain rfl:N=j:=jO;have u:=k.get;have D:=k.lt;have o:IntKind.i64.wrap (((s+N:Nat):Int)-(s:Int))=(N:Int):=by rw[aH jO jO];omega
   have fin:af (II a lb ov) n (yU Y (aj aa gt Y (d+2)) (jP a 0) (jI (s:Int))) h' n' fun v h' n'=>v=jI (N:Int)∧∃e,gT h' n' a l cG (s+N) lb e (out++pQ l cG s N)∧∀b,aK e b->aK ov b∨n<=b:=by unfold yU;refine jA (aI @u (aI @oB @o)) ?_;exact⟨e,k,m⟩
   rw[ui];refine bq (Aq (Y:=Y) (d:=d+1) k ok jO) p (fun _ _ h=>h.elim) ?_;by_cases c:s+N=3*l.length
   ·rw[decide_eq_true c];refine jA @eK ?_;exact fin
   ·rw[decide_eq_false c];have E:¬((N:Int)<(B:Int)):=jO;refine jA (aI @cf (aI @u (aI @oB (aI @o @E)))) ?_;exact fin
  |succ r J=>
   intro j i h' n' e O P p k m;obtain⟨i,rfl⟩:∃f,i=f+1:=⟨i-1,jO⟩;have u:=k.get;have D:=k.lt;have o:IntKind.i64.wrap (((s+j:Nat):Int)-(s:Int))=(j:Int):=by rw[aH jO jO];omega
   have c:¬s+j=3*l.length:=jO;have E:(j:Int)<(B:Int):=jO;rw[ui];refine bq (Aq (Y:=Y) (d:=d+1) k ok jO) p (fun _ _ h=>h.elim) ?_;rw[decide_eq_false c];refine jA (aI @cf (aI @u (aI @oB (aI @o @E)))) ?_;have U:=Ze l cG s j;refine aN aF (akg (Y:=Y) (d:=d) k ok jO (by rw[bG];omega) jO) p (fun b t h2=> ?_) fun T h2 I K R A=> ?_
   ·rcases h2 with rfl|rfl|h2
    ·exact .inr (.inl rfl)
    ·exact .inr (.inr (.inl rfl))
    ·rcases m b h2 with q|q
     ·exact .inr (.inr (.inr q))
     ·exact .inl q
   ·obtain⟨y,G,C⟩:=A;refine J (j+1) i h2 I y jO jO jO ?_ fun b t=> ?_
    ·rw[ey]at G;exact G
    ·rcases C b t with q|q
     ·exact m b q
     ·exact .inr jO
 exact z N 0 Y h n ov jO jO (ah _) (by simpa[pQ]using x) fun b t=> .inl t
end
def cX:Nat->Nat->List Nat->Except Int (List Nat)
 |run,_,[]=>if run=4 then .error 24 else .ok []
 |run,a,x::l=>if run=4 then(if 251<x then .error 25 else match cX 0 x l with
   | .ok t=> .ok (bU x a++t)
   | .error e=> .error e)
  else match cX (if 0<run∧x=a then run+1 else 1) x l with
   | .ok t=> .ok (x::t)
   | .error e=> .error e
theorem Ar:∀{l:List Nat} {run a:Nat} {t:List Nat},cX run a l= .ok t->t.length<=251*l.length
 |[],run,a,t,h=>by
  unfold cX at h;split at h
  ·cases h
  ·cases h;simp
 |x::l,run,a,t,h=>by
  unfold cX at h;split at h
  ·split at h
   ·cases h
   ·split at h
    ·next t' e=>cases h;have:=Ar e;simp only[bG,j4,cP];omega
    ·cases h
  ·split at h
   ·next t' e=>cases h;have:=Ar e;simp only[cP];omega
   ·cases h
theorem LC(run a x:Nat)(l:List Nat):cX run a (x::l)=if run=4 then(if 251<x then .error 25 else match cX 0 x l with
 | .ok t=> .ok (bU x a++t)
 | .error e=> .error e)
 else match cX (if 0<run∧x=a then run+1 else 1) x l with
  | .ok t=> .ok (x::t)
  | .error e=> .error e:=rfl
section
variable {Y d n lo q:Nat} {h:H} {out:List Nat}
end
end Go.Proofs.YtmjolmggelkjlaaGreat
