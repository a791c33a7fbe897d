import Derived.Test.YtcehhgppfahbkaaGreatDoorMad
import Derived.Test.YtcehhgppfahbkaaGreatDoorMae
import Derived.Test.YtcehhgppfahbkaaGreatDoorMac
open Go.Proofs.Tryz renaming prog→ad
open Nat renaming le_refl→ag, zero_le→cL, lt_of_lt_of_le→dC, lt_succ_self→dL, add_mul→ff, zero_add→fD, one_mul→ow, sub_self→oA, mul_le_mul_right→vJ, zero_lt_succ→agN
open List renaming getD_eq_getElem?_getD→au, length_append→ay, getElem?_eq_getElem→aC, range→aV, replicate→bI, length_cons→bL, append_nil→bV, append_assoc→b9, getElem_mem→cu, drop_zero→dj, length_take→ed, length_nil→eF, length_drop→fO, take_of_length_le→fZ, map_append→gZ, take_append_drop→iC, take_succ_eq_append_getElem→jV, length_range→kC, mem_of_mem_take→lG, getElem?_append_right→ou, pairwise_append→oB, length_set→oC, length_replicate→oD, nil_append→p7, pairwise_cons→qa, length→qb, eq_nil_of_length_eq_zero→uc, mem_of_mem_drop→ue, mem_append_right→yj, mem_append_left→Im, take_sublist→VL, drop_eq_getElem_cons→agQ, take_append_of_le_length→ag9, map_set→aho, perm_append_singleton→ahq, perm_middle→aht, drop_sublist→ahu
open Int renaming lt_irrefl→cb
open Bool renaming not_true→fY, not_false→iD
open List.Perm renaming refl→ud
open Decidable renaming byContradiction→yw
open Option renaming getD_some→Il
open List.cons renaming inj→ID
open List.Pairwise renaming nil→IP
open ByteArray renaming size→agW
set_option linter.unusedVariables false
set_option linter.unusedSimpArgs false
namespace Go.Proofs.YtcehhgppfahbkaaGreatDoor
open Go.RowKit Ev Sp
def nV(l:List Nat):List Value:=l.map fun(x:Nat)=>jI (x:Int)
theorem vj(l:List Nat):(nV l).length=l.length:=List.length_map _
theorem qZ{l:List Nat}{i:Nat}(h:i<l.length):(nV l)[i]? =some (jI ((l.getD i 0:Nat):Int)):=by unfold nV;rw[List.getElem?_map,aC h,au,aC h];rfl
theorem ke(l:List Nat)(i x:Nat):(nV l).set i (jI (x:Int))=nV (l.set i x):=by unfold nV;rw[aho]
abbrev bA(l:List UInt8):ByteArray:=⟨l.toArray⟩
theorem eu(l:List UInt8):(bA l).size=l.length:=by simp[agW]
structure Sm where
 p:Nat
 o:Nat
 c:Nat
 a:Nat
 k:Nat
 cp:Nat
def pV(p:Nat×Nat×Nat):List Value:=[jI (p.1:Int),jI (p.2.1:Int),jI (p.2.2:Int)]
def gC(l:List (Nat×Nat×Nat)):List (List Value):=l.reverse.map pV
theorem xp(l:List (Nat×Nat×Nat)):(gC l).length=l.length:=by unfold gC;simp
theorem Ha(p:Nat×Nat×Nat)(l:List (Nat×Nat×Nat)):gC (p::l)=gC l++[pV p]:=by unfold gC;simp
theorem Ss(p:Nat×Nat×Nat)(l:List (Nat×Nat×Nat)):(gC (p::l)).getD l.length []=pV p:=by rw[Ha,au,ou (by rw[xp];exact ag _),xp,oA];rfl
def cV(l:List UInt8)(x:SS)(m:Sm):AB:=⟨205,true,[.string ⟨l.toArray⟩,.slice (some ⟨m.o,0,none⟩) l.length l.length,.slice (some ⟨m.c,0,none⟩) l.length l.length,.slice (some ⟨m.a,0,none⟩) l.length l.length,jI (x.reach:Int),.slice (some ⟨m.k,0,none⟩) x.aU.length m.cp,jI (x.lo:Int),jI (x.mid:Int),jI (x.hi:Int),jI (x.laid:Int),jI (x.one:Int),jI (x.two:Int),jI (x.aP:Int),jI (x.last:Int),jI (x.steps:Int),.bool x.done]⟩
structure cP (h:H) (n:Nat) (L:Nat->Nat) (l:List UInt8) (x:SS) (m:Sm):Prop where
 get:h.get m.p=some (cV l x m)
 lp:m.p<n
 lo:m.o<n
 lc:m.c<n
 la:m.a<n
 o:h.get m.o=some ⟨3,true,nV x.ord⟩
 c:h.get m.c=some ⟨3,true,nV x.cls⟩
 a:h.get m.a=some ⟨3,true,nV x.bg⟩
 ca:m.c≠m.a
 k:iM h n 203 3 m.k m.cp (gC x.aU)
 kc:x.done=false->aL<=m.cp∨m.cp=1∧x.aU=[(0,0,l.length)]
 Lp:L m.p=21
 Lo:L m.o=22
 Lc:L m.c=23
 La:L m.a=23
 Lk:L m.k=24
def WS(L:Nat->Nat):Nat->Prop:=fun c=>21<=L c∧L c<=24
theorem l8{L:Nat->Nat}{c i:Nat}(h:L c=i)(a:21<=i)(h2:i<=24):WS L c:=by unfold WS;omega
theorem cX{L:Nat->Nat}{a b i j:Nat}(d:L a=i)(c:L b=j)(h:i≠j):a≠b:=fun e=>h (by rw[<-d,<-c,e])
theorem cP.ar{h h':H}{n n':Nat}{L L':Nat->Nat}{l:List UInt8}{x:SS}{m:Sm}(y:cP h n L l x m)(b:n<=n')(d:∀c,c<n->L' c=L c)(e:∀c,c<n->21<=L c->L c<=24->h'.get c=h.get c):cP h' n' L' l x m:=by
 have a:∀{c i},c<n->L c=i->21<=i->i<=24->h'.get c=h.get c:=fun f g k j=>e _ f jO jO
 exact⟨(a y.lp y.Lp jD jD).trans y.get,dC y.lp b,dC y.lo b,dC y.lc b,dC y.la b,
  (a y.lo y.Lo jD jD).trans y.o,(a y.lc y.Lc jD jD).trans y.c,(a y.la y.La jD jD).trans y.a,y.ca,
  y.k.ar b (a y.k.lt y.Lk jD jD),y.kc,(d _ y.lp).trans y.Lp,(d _ y.lo).trans y.Lo,(d _ y.lc).trans y.Lc,(d _ y.la).trans y.La,(d _ y.k.lt).trans y.Lk⟩
theorem abn(a b:Nat):((a:Nat):Int).tmod ((b:Nat):Int)=((a %b:Nat):Int):=(Int.ofNat_tmod a b).symm
section
variable {lf d n:Nat} {h:H} {L:Nat->Nat} {l:List UInt8} {x:SS} {m:Sm}
theorem Su(y:cP h n L l x m){a:Nat}(K:a<l.length)(P:x.cls.length=l.length)(I:x.reach<=2*l.length)(N:l.length<=900000):aa (fun _=>False) n (ah ad gt lf (d+1) 232 #[jP m.p 0,jI (a:Int)]) h n fun s _ _=>s= .agg #[jI ((eK (bA l) x.reach x.cls a).1:Int),jI ((eK (bA l) x.reach x.cls a).2:Int)]:=by
 rw[aF (fun _=>Ru) rfl];refine aa.aD ?_;unfold GQ;refine fR rfl _ ?_;have J:=y.lp;have v:m.p≠n:=jO;have w:m.c≠n:=by have:=y.lc;omega
 have E:m.p<n+1:=jO;have G:m.c<n+1:=by have:=y.lc;omega
 have g:=(ak h (some ⟨31,true,z31⟩) v).trans y.get;have o:=(ak h (some ⟨31,true,z31⟩) w).trans y.c;have c:=get_eq h n (some ⟨31,true,z31⟩);unfold cV at g;have C:=eu l;generalize h.set n (some ⟨31,true,z31⟩)=O at g o c⊢;unfold eK;by_cases j:x.reach=0
 ·have f:(((x.reach:Nat):Int)==0)=true:=by rw[j];rfl
  have k:((a:Nat):Int)<((l.length:Nat):Int):=jO;have u:=(l.getD a 0).toNat_lt;have b:IntKind.i64.wrap (((l.getD a 0).toNat:Nat):Int)=(((l.getD a 0).toNat:Nat):Int):=aO jO jO;rw[if_pos j];try simp(disch:=first|omega|assumption) only[Nat.reduceAdd,Nat.reduceLT,RZ,g,f,k,b]
  refine j7 (sz:=2) trivial (vs:=[jI (((l.getD a 0).toNat:Nat):Int),jI 0]) rfl rfl rfl c jO (.inl jO) _ fun B e A=> ?_;exact LW trivial trivial e rfl jO rfl
 ·have f:(((x.reach:Nat):Int)==0)=false:=beq_eq_false_iff_ne.2 jO;have k:((a:Nat):Int)<((l.length:Nat):Int):=jO;have b:IntKind.i64.wrap (((a:Nat):Int)+((x.reach:Nat):Int))=((a+x.reach:Nat):Int):=by rw[aO jO jO];rfl
  have t:=abn (a+x.reach) l.length;have z:¬((l.length:Nat):Int)=0:=jO;have F:(a+x.reach)%l.length<l.length:=Nat.mod_lt _ jO;have D:(((a+x.reach)%l.length:Nat):Int)<((l.length:Nat):Int):=jO;have r:=qZ (l:=x.cls) (i:=a) jO;have p:=qZ (l:=x.cls) (i:=(a+x.reach)%l.length) jO;rw[if_neg j,C];generalize (a+x.reach)%l.length=q at*;try simp(disch:=first|omega|assumption) only[Nat.reduceAdd,Nat.reduceLT,RZ,g,o,f,k,b,t,z,D,r,p,ne_eq,not_false_eq_true]
  refine j7 (sz:=2) trivial (vs:=[jI ((x.cls.getD a 0:Nat):Int),jI ((x.cls.getD q 0:Nat):Int)]) rfl rfl rfl c jO (.inl jO) _ fun B e A=> ?_;exact LW trivial trivial e rfl jO rfl
theorem Sv(y:cP h n L l x m){a b:Nat}(Q:a<l.length)(P:b<l.length)(C:x.cls.length=l.length)(A:x.reach<=2*l.length)(B:l.length<=900000):aa (fun _=>False) n (ah ad gt lf (d+2) 212 #[jP m.p 0,jI (a:Int),jI (b:Int)]) h n fun F _ _=>F= .bool (pj (bA l) x a b):=by
 rw[aF (fun _=>Q4) rfl];refine aa.aD ?_;unfold GJ;refine aJ aE (Su (lf:=lf) (d:=d) y Q C A B) (ag _) (fun _ _ h=>h.elim) fun Y R I r u q=> ?_;subst q;have E:cP R I L l x m:=y.ar r (fun _ _=>rfl) fun c O _ _=>u c O id;refine aJ aE (Su (lf:=lf) (d:=d) E P C A B) jO (fun _ _ h=>h.elim) fun X h2 g N U p=> ?_;subst p;unfold pj fG;generalize (eK (bA l) x.reach x.cls a).1=f;generalize (eK (bA l) x.reach x.cls a).2=k;generalize (eK (bA l) x.reach x.cls b).1=e;generalize (eK (bA l) x.reach x.cls b).2=j;refine fR rfl _ ?_;refine fR rfl _ ?_;refine j7 (sz:=2) trivial (vs:=[jI (f:Int),jI (k:Int)]) rfl rfl rfl ((ak _ _ jO).trans (get_eq _ g _)) jO (.inl jO) _ fun h3 T K=> ?_;refine j7 (sz:=2) trivial (vs:=[jI (e:Int),jI (j:Int)]) rfl rfl rfl ((K (g+1) jO).trans (get_eq _ _ _)) jO (.inl jO) _ fun Z t J=> ?_;have s:=(J g jO).trans T;have q1:g<g+1+1:=jO;have q2:g+1<g+1+1:=jO;have i1:(0:Int)<2:=jD;have o:(1:Int)<2:=jD;have G:(1:Int).toNat=1:=rfl;by_cases D:e<f
 ·have i:((e:Nat):Int)<((f:Nat):Int):=jO;rw[decide_eq_true D];try simp(disch:=first|omega|assumption) only[Nat.reduceAdd,Nat.reduceLT,RZ,s,t,i,i1,o]
  all_goals (first|trivial|rfl|exact⟨rfl,rfl,rfl⟩|exact⟨rfl,rfl⟩)
 ·have i:¬((e:Nat):Int)<((f:Nat):Int):=jO;rw[decide_eq_false D];by_cases z:f=e
  ·have w:(((f:Nat):Int)==((e:Nat):Int))=true:=by rw[z];exact beq_iff_eq.2 rfl
   have v:(f==e)=true:=by rw[z];exact beq_iff_eq.2 rfl
   have W:decide (((j:Nat):Int)<((k:Nat):Int))=decide (j<k):=by
    by_cases c:j<k
    ·rw[decide_eq_true c,decide_eq_true jO]
    ·rw[decide_eq_false c,decide_eq_false jO]
   rw[v];try simp(disch:=first|omega|assumption) only[Nat.reduceAdd,Nat.reduceLT,RZ,s,t,i,w,W,i1,o,G]
   all_goals (first|trivial|rfl|exact⟨rfl,rfl,rfl⟩|exact⟨rfl,rfl⟩)
  ·have w:(((f:Nat):Int)==((e:Nat):Int))=false:=beq_eq_false_iff_ne.2 jO;have v:(f==e)=false:=beq_eq_false_iff_ne.2 z;rw[v];try simp(disch:=first|omega|assumption) only[Nat.reduceAdd,Nat.reduceLT,RZ,s,t,i,w,i1,o]
   all_goals (first|trivial|rfl|exact⟨rfl,rfl,rfl⟩|exact⟨rfl,rfl⟩)
end
theorem abo(a b:List (Nat×Nat×Nat)):gC (a++b)=gC b++gC a:=by unfold gC;simp
section
variable {lf d n:Nat} {h:H} {L:Nat->Nat} {l:List UInt8} {x:SS} {m:Sm}
theorem cP.ld(y:cP h n L l x m){h':H}{x':SS}(d:h'.get m.p=some (cV l x' m))(e:h'.get m.o=some ⟨3,true,nV x'.ord⟩)(g:h'.get m.c=some ⟨3,true,nV x'.cls⟩)(i:h'.get m.a=some ⟨3,true,nV x'.bg⟩)(f:h'.get m.k=h.get m.k){us:List (Nat×Nat×Nat)}(c:x.aU=us++x'.aU)(b:x'.done=false->aL<=m.cp∨m.cp=1∧x'.aU=[(0,0,l.length)]){n':Nat}(a:n<=n'):cP h' n' L l x' m:=by refine⟨d,dC y.lp a,dC y.lo a,dC y.lc a,dC y.la a,e,g,i,y.ca, ?_,b,y.Lp,y.Lo,y.Lc,y.La,y.Lk⟩;have k:=y.k;rw[c,abo]at k;exact(k.cut rfl).ar a f
theorem cP.put(y:cP h n L l x m){h':H}{x':SS}(f:h'.get m.p=some (cV l x' m))(a:∀c,c<n->c≠m.p->h'.get c=h.get c)(j:x'.ord=x.ord)(i:x'.cls=x.cls)(g:x'.bg=x.bg){us:List (Nat×Nat×Nat)}(d:x.aU=us++x'.aU)(b:x'.done=false->aL<=m.cp∨m.cp=1∧x'.aU=[(0,0,l.length)]){n':Nat}(e:n<=n'):cP h' n' L l x' m:=
 y.ld f ((a _ y.lo (cX y.Lo y.Lp jD)).trans (by rw[j];exact y.o)) ((a _ y.lc (cX y.Lc y.Lp jD)).trans (by rw[i];exact y.c)) ((a _ y.la (cX y.La y.Lp jD)).trans (by rw[g];exact y.a)) (a _ y.k.lt (cX y.Lk y.Lp jD)) d b e
theorem abp(y:cP h n L l x m)(E:x.aU.length<=1000000000000)(K:x.done=false):aa (WS L) n (ah ad gt lf (d+1) 182 #[jP m.p 0]) h n fun _ h' n'=>n'=n∧cP h' n L l (bR x) m:=by
 have g:=y.get;have D:=y.lp;have wp:WS L m.p:=l8 y.Lp jD jD;unfold cV at g;rw[aF (fun _=>Qj) rfl];refine aa.aD ?_;unfold Gp;cases a:x.aU with
 |nil=>
  rw[a]at g;have b:IntKind.i64.wrap (((0:Nat):Int)-1)=-1:=rfl;have s:(-1:Int)<0:=jD;have e:bR x=x:=by unfold bR;rw[a]
  rw[e];try simp(disch:=first|omega|assumption) only[Nat.reduceAdd,Nat.reduceLT,RZ,g,b,s]
  exact y
 |cons p r=>
  rw[a,bL]at g E;have b:IntKind.i64.wrap (((r.length+1:Nat):Int)-1)=((r.length:Nat):Int):=by rw[aO jO jO];omega
  have s:¬((r.length:Nat):Int)<0:=jO;by_cases O:0<x.hi
  ·have u:(0:Int)<((x.hi:Nat):Int):=jO
   have e:bR x=x:=by unfold bR;rw[a];dsimp only;rw[if_neg jO]
   rw[e];try simp(disch:=first|omega|assumption) only[Nat.reduceAdd,Nat.reduceLT,RZ,g,b,s,u]
   exact y
  have u:¬(0:Int)<((x.hi:Nat):Int):=jO;have C:(gC x.aU).length=r.length+1:=by rw[xp,a];rfl
  obtain⟨I,z,k⟩:=y.k.cell (i:=r.length) (j:=1) jO jD;have f:(gC x.aU).getD r.length []=pV p:=by rw[a];exact Ss p r
  rw[f,fD]at k;have k:I[r.length*3+1]? =some (jI (p.2.1:Int)):=k;have J:=y.k.lt;have i1:((r.length:Nat):Int)<((r.length+1:Nat):Int):=jO;by_cases w:p.2.1=0
  ·have v:(((p.2.1:Nat):Int)==0)=true:=by rw[w];rfl
   have e:bR x=x:=by unfold bR;rw[a];dsimp only;rw[if_neg jO]
   rw[e];try simp(disch:=first|omega|assumption) only[Nat.reduceAdd,Nat.reduceLT,RZ,g,b,s,u,i1,z,k,v]
   exact y
  have v:(((p.2.1:Nat):Int)==0)=false:=beq_eq_false_iff_ne.2 jO
  have G:bR x={x with lo:=p.1,mid:=p.2.1,hi:=p.2.2,aU:=r,laid:=0,one:=0,two:=p.2.1}:=by unfold bR;rw[a];dsimp only;rw[if_pos ⟨jO,w⟩]
  try simp(disch:=first|omega|assumption) only[Nat.reduceAdd,Nat.reduceLT,RZ,g,b,s,u,i1,z,k,v]
  refine LY y.k (i:=r.length) jO _ ?_;rw[f];try simp(disch:=first|omega|assumption) only[Nat.reduceAdd,Nat.reduceLT,RZ,g]
  refine qG trivial (vs:=pV p) rfl rfl rfl g D (show 6+3<=16 by decide) (.inr wp) _ fun F t A=> ?_;have t:F.get m.p=some ⟨205,true,[.string ⟨l.toArray⟩,.slice (some ⟨m.o,0,none⟩) l.length l.length,.slice (some ⟨m.c,0,none⟩) l.length l.length,.slice (some ⟨m.a,0,none⟩) l.length l.length,jI (x.reach:Int),.slice (some ⟨m.k,0,none⟩) (r.length+1) m.cp,jI (p.1:Int),jI (p.2.1:Int),jI (p.2.2:Int),jI (x.laid:Int),jI (x.one:Int),jI (x.two:Int),jI (x.aP:Int),jI (x.last:Int),jI (x.steps:Int),.bool x.done]⟩:=t;have B:=y.k.ar (ag n) (A m.k (cX y.Lk y.Lp jD));try simp(disch:=first|omega|assumption) only[Nat.reduceAdd,Nat.reduceLT,RZ,t]
  refine LZ B (N:=(r.length+1)) C (m:=r.length) jO _ ?_;try simp(disch:=first|omega|assumption) only[Nat.reduceAdd,Nat.reduceLT,RZ,t,wp,or_true,true_and]
  rw[G];refine y.put (x':={x with lo:=p.1,mid:=p.2.1,hi:=p.2.2,aU:=r,laid:=0,one:=0,two:=p.2.1}) (us:=[p]) ?_ (fun c _ o=>by rw[ak _ _ o,ak _ _ o,ak _ _ o,ak _ _ o];exact A c o) rfl rfl rfl a (fun hd=> ?_) (ag n)
  ·rw[get_eq];rfl
  ·rcases y.kc hd with q|⟨_,q⟩
   ·exact .inl q
   ·rw[a]at q;cases q;exact absurd rfl w
theorem abq(y:cP h n L l x m)(z:x.lo+x.laid<l.length)(h2:x.laid<l.length)(t:x.ord.length=l.length)(A:x.bg.length=l.length)(w:l.length<=900000):aa (WS L) n (ah ad gt lf (d+1) 183 #[jP m.p 0]) h n fun _ h' n'=>n'=n∧cP h' n L l (kR x) m:=by
 have g:=y.get;have v:=y.lp;have lo:=y.lo;have u:=y.la;have a:=y.o;have s:=y.a;have wp:WS L m.p:=l8 y.Lp jD jD;have c:WS L m.a:=l8 y.La jD jD;have p:m.o≠m.a:=cX y.Lo y.La jD;have o:m.o≠m.p:=cX y.Lo y.Lp jD;have b:m.a≠m.p:=cX y.La y.Lp jD;have k:m.p≠m.a:=Ne.symm b;unfold cV at g;rw[aF (fun _=>Qk) rfl];refine aa.aD ?_;unfold Gq;have f:IntKind.i64.wrap (((x.lo:Nat):Int)+((x.laid:Nat):Int))=((x.lo+x.laid:Nat):Int):=by rw[aO jO jO];rfl
 have e:IntKind.i64.wrap (((x.laid:Nat):Int)+1)=((x.laid+1:Nat):Int):=by rw[aO jO jO];rfl
 have i1:((x.lo+x.laid:Nat):Int)<((l.length:Nat):Int):=jO;have r:((x.laid:Nat):Int)<((l.length:Nat):Int):=jO;have j:=qZ (l:=x.ord) (i:=x.lo+x.laid) jO;have q:x.laid<(nV x.bg).length:=by rw[vj];omega
 try simp(disch:=first|omega|assumption) only[Nat.reduceAdd,Nat.reduceLT,RZ,g,a,s,f,e,i1,r,j,q,c,wp,k,ke,or_true,true_and,ne_eq,not_false_eq_true]
 refine y.ld (x':=kR x) (us:=[]) ?_ ?_ ?_ ?_ ?_ rfl y.kc (ag n)
 ·rw[get_eq];rfl
 ·rw[ak _ _ o,ak _ _ p];exact a
 ·rw[ak _ _ (cX y.Lc y.Lp jD),ak _ _ y.ca];exact y.c
 ·rw[ak _ _ b,get_eq];rfl
 ·rw[ak _ _ (cX y.Lk y.Lp jD),ak _ _ (cX y.Lk y.La jD)]
end
section
variable {lf d n:Nat} {h:H} {L:Nat->Nat} {l:List UInt8} {x:SS} {m:Sm}
theorem abr{W:Nat->Prop}{n0:Nat}(y:cP h n L l x m){e pt:Nat}(ge:h.get e=some ⟨203,true,[jI (x.lo:Int),jI (x.mid:Int),jI (x.hi:Int)]⟩)(s:e<n)(r:1<=x.hi)(t:x.hi<=900000)(wp:W m.p)(q:pt<=10000000)(i:x.done=false->aL<=m.cp∨m.cp=1∧x.aU=[(0,0,l.length)]):aa W n0 (aG (jP e 2) fun c=>bx c (ii 1) fun d=>gu (jI (pt:Int)) d fun f=>aH f (bW 3 (jP m.p 6) (.agg #[ii 0,ii 0,ii 0]) fun _=>ae []) (ae [])) h n fun _ h' n'=>n'=n∧cP h' n L l (fI x (pt+1==x.hi)) m:=by
 have g:=y.get;have j:=y.lp;unfold cV at g;have b:IntKind.i64.wrap (((x.hi:Nat):Int)-1)=((x.hi-1:Nat):Int):=by rw[aO jO jO];omega
 by_cases c:pt+1=x.hi
 ·have z:(((pt:Nat):Int)==((x.hi-1:Nat):Int))=true:=beq_iff_eq.2 jO;have a:(pt+1==x.hi)=true:=beq_iff_eq.2 c;rw[a];try simp(disch:=first|omega|assumption) only[Nat.reduceAdd,Nat.reduceLT,RZ,ge,b,z]
  refine qG trivial (vs:=pV (0,0,0)) rfl rfl rfl g j (show 6+3<=16 by decide) (.inr wp) _ fun u o p=> ?_;try simp(disch:=first|omega|assumption) only[Nat.reduceAdd,Nat.reduceLT,RZ]
  exact y.put (x':=fI x true) (us:=[]) (o.trans rfl) (fun c _ k=>p c k) rfl rfl rfl rfl i (ag n)
 ·have z:(((pt:Nat):Int)==((x.hi-1:Nat):Int))=false:=beq_eq_false_iff_ne.2 jO;have a:(pt+1==x.hi)=false:=beq_eq_false_iff_ne.2 c;rw[a];try simp(disch:=first|omega|assumption) only[Nat.reduceAdd,Nat.reduceLT,RZ,ge,b,z]
  exact y
set_option maxHeartbeats 1000000 in
theorem abt(y:cP h n L l x m)(mo:Mq l.length x)(u5:x.laid=x.mid-x.lo)(ol:x.ord.length=l.length)(cl:x.cls.length=l.length)(al:x.bg.length=l.length)(P:∀i,i<l.length->x.ord.getD i 0<l.length)(hr:x.reach<=2*l.length)(hN:l.length<=900000):aa (WS L) n (ah ad gt lf (d+3) 184 #[jP m.p 0]) h n fun _ h' n'=>cP h' n' L l (Sp.dO (bA l) x) m:=by
 obtain⟨m1,m2,m3,m4,m5,m6,m7,m8,m9,R⟩:=mo;have g:=y.get;have Y:=y.lp;have wp:WS L m.p:=l8 y.Lp jD jD;have C:WS L m.o:=l8 y.Lo jD jD;have w:m.o≠m.p:=cX y.Lo y.Lp jD;have E:m.p≠m.o:=Ne.symm w;have co:m.c≠m.o:=cX y.Lc y.Lo jD;have cp:m.c≠m.p:=cX y.Lc y.Lp jD;have ao:m.a≠m.o:=cX y.La y.Lo jD;have ap:m.a≠m.p:=cX y.La y.Lp jD;have ko:m.k≠m.o:=cX y.Lk y.Lo jD;have kp:m.k≠m.p:=cX y.Lk y.Lp jD;unfold cV at g;rw[aF (fun _=>Ql) rfl];refine aa.aD ?_;unfold Gr;try simp(disch:=first|omega|assumption) only[Nat.reduceAdd,Nat.reduceLT,RZ]
 refine mK m.p 6 _ g Y (show 6+3<=16 by decide) ?_;try simp(disch:=first|omega|assumption) only[Nat.reduceAdd,Nat.reduceLT,RZ]
 refine fR rfl _ ?_;refine j7 (sz:=3) trivial (vs:=pV (x.lo,x.mid,x.hi)) rfl rfl rfl (get_eq _ _ _) jO (.inl jO) _ fun Z g2 k2=> ?_;have ge:Z.get n=some ⟨203,true,[jI (x.lo:Int),jI (x.mid:Int),jI (x.hi:Int)]⟩:=g2;have b:cP Z (n+1) L l x m:=y.ar jO (fun _ _=>rfl) fun c k _ _=>(k2 c jO).trans (ak _ _ jO);clear g2 k2;have g:=b.get;have Y:=b.lp;have lo:=b.lo;have la:=b.la;have u:=b.o;have r:=b.a;have np:m.p≠n:=by have:=y.lp;omega
 have no:m.o≠n:=by have:=y.lo;omega
 have pn:=Ne.symm np;have on:=Ne.symm no;have z:n<n+1:=dL n;unfold cV at g;obtain⟨pt,A⟩:∃pt,fH x=pt:=⟨_,rfl⟩;have u4:x.lo+x.one+x.two-x.mid=pt:=A;have tl:pt<l.length:=jO;have w1:IntKind.i64.wrap (((x.lo:Nat):Int)+((x.one:Nat):Int))=((x.lo+x.one:Nat):Int):=by rw[aO jO jO];rfl
 have w2:IntKind.i64.wrap (((x.lo+x.one:Nat):Int)+((x.two:Nat):Int))=((x.lo+x.one+x.two:Nat):Int):=by rw[aO jO jO];rfl
 have w3:IntKind.i64.wrap (((x.lo+x.one+x.two:Nat):Int)-((x.mid:Nat):Int))=((pt:Nat):Int):=by rw[aO jO jO];omega
 have w4:IntKind.i64.wrap (((x.one:Nat):Int)+1)=((x.one+1:Nat):Int):=by rw[aO jO jO];rfl
 have w5:IntKind.i64.wrap (((x.two:Nat):Int)+1)=((x.two+1:Nat):Int):=by rw[aO jO jO];rfl
 have G:((pt:Nat):Int)<((l.length:Nat):Int):=jO;have F:pt<(nV x.ord).length:=by rw[vj];omega
 try simp(disch:=first|omega|assumption) only[Nat.reduceAdd,Nat.reduceLT,RZ,g,ge,z,w1,w2,w3]
 obtain⟨T,hT⟩:∃T:M Value,T=(aG (jP n 2) fun c=>bx c (ii 1) fun d=>gu (jI (pt:Int)) d fun f=>aH f (bW 3 (jP m.p 6) (.agg #[ii 0,ii 0,ii 0]) fun _=>ae []) (ae [])):=⟨_,rfl⟩;rw[<-hT]
 have j:∀(h':H) (n':Nat) (a:SS),n+1<=n'->h'.get m.p=some (cV l a m)->h'.get m.o=some ⟨3,true,nV a.ord⟩->(∀c,c<n+1->c≠m.p->c≠m.o->h'.get c=Z.get c)->a.cls=x.cls->a.bg=x.bg->a.aU=x.aU->a.lo=x.lo->a.mid=x.mid->a.hi=x.hi->a.done=x.done->aa (WS L) n T h' n' fun _ u0 Q=>cP u0 Q L l (fI a (pt+1==a.hi)) m:=by intro h' n' a hn gp u1 I e1 e2 e3 e4 e5 e6 e7;have y1:cP h' n' L l a m:=b.ld (x':=a) (us:=[]) gp u1 ((I _ b.lc cp co).trans (by rw[e1];exact b.c)) ((I _ la ap ao).trans (by rw[e2];exact r)) (I _ b.k.lt kp ko) (by rw[e3];rfl) (fun q=>by rw[e3];exact b.kc (e7▸q)) hn;rw[hT];refine(abr (W:=WS L) (n0:=n) y1 (e:=n) (pt:=pt) (by rw[I n z pn on,e4,e5,e6];exact ge) jO (by rw[e6];omega) (by rw[e6];omega) wp jO y1.kc).mono fun v8 h8 n8 _ q=> ?_;rw[q.1];exact q.2
 unfold Sp.dO;rw[A];by_cases c1:x.two=x.hi
 ·have B:(((x.two:Nat):Int)==((x.hi:Nat):Int))=true:=by rw[c1];exact beq_iff_eq.2 rfl
  have o:gQ (bA l) x=true:=by unfold gQ;rw[show(x.two==x.hi)=true from beq_iff_eq.2 c1];rfl
  have i1:((x.one:Nat):Int)<((l.length:Nat):Int):=jO;have D:=qZ (l:=x.bg) (i:=x.one) jO;rw[if_pos o];try simp(disch:=first|omega|assumption) only[Nat.reduceAdd,Nat.reduceLT,RZ,g,ge,u,r,z,w4,B,G,i1,D,F,C,wp,E,ke,or_true,true_and,ne_eq,not_false_eq_true]
  refine j _ _ _ (ag _) ?_ ?_ ?_ rfl rfl rfl rfl rfl rfl rfl
  ·rw[get_eq];rfl
  ·rw[ak _ _ w,get_eq]
  ·intro c k q1 q2;rw[ak _ _ q1,ak _ _ q2]
 have B:(((x.two:Nat):Int)==((x.hi:Nat):Int))=false:=beq_eq_false_iff_ne.2 jO;have v:(x.two==x.hi)=false:=beq_eq_false_iff_ne.2 c1;have U:((x.two:Nat):Int)<((l.length:Nat):Int):=jO;have O:=qZ (l:=x.ord) (i:=x.two) jO;by_cases J:x.one<x.laid
 ·have N:((x.one:Nat):Int)<((x.laid:Nat):Int):=jO;have i1:((x.one:Nat):Int)<((l.length:Nat):Int):=jO;have D:=qZ (l:=x.bg) (i:=x.one) jO;try simp(disch:=first|omega|assumption) only[Nat.reduceAdd,Nat.reduceLT,RZ,g,ge,u,r,z,B,N,i1,U,D,O]
  refine aJ aE (Sv (lf:=lf) (d:=d) b (R x.one J) (P x.two jO) cl hr hN) jO (fun _ _ h=>h.elim) fun v3 h3 n3 p s X=> ?_;subst X;have t:cP h3 n3 L l x m:=b.ar p (fun _ _=>rfl) fun c k _ _=>s c k id;have g:=t.get;have Y:=t.lp;have lo:=t.lo;have la:=t.la;have u:=t.o;have r:=t.a;unfold cV at g;cases ab:pj (bA l) x (x.bg.getD x.one 0) (x.ord.getD x.two 0)with
  |false=>
   have o:gQ (bA l) x=true:=by unfold gQ;rw[ab,decide_eq_true J];simp
   rw[if_pos o];try simp(disch:=first|omega|assumption) only[Nat.reduceAdd,Nat.reduceLT,RZ,g,u,r,w4,G,i1,D,F,C,wp,E,ke,or_true,true_and,ne_eq,not_false_eq_true,iD]
   refine j _ _ _ p ?_ ?_ ?_ rfl rfl rfl rfl rfl rfl rfl
   ·rw[get_eq];rfl
   ·rw[ak _ _ w,get_eq]
   ·intro c k q1 q2;rw[ak _ _ q1,ak _ _ q2];exact s c k id
  |true=>
   have o:¬gQ (bA l) x=true:=by unfold gQ;rw[ab,decide_eq_true J,v];simp
   rw[if_neg o];try simp(disch:=first|omega|assumption) only[Nat.reduceAdd,Nat.reduceLT,RZ,g,u,r,w5,G,U,O,F,C,wp,E,ke,or_true,true_and,ne_eq,not_false_eq_true,fY]
   refine j _ _ _ p ?_ ?_ ?_ rfl rfl rfl rfl rfl rfl rfl
   ·rw[get_eq];rfl
   ·rw[ak _ _ w,get_eq]
   ·intro c k q1 q2;rw[ak _ _ q1,ak _ _ q2];exact s c k id
 ·have N:¬((x.one:Nat):Int)<((x.laid:Nat):Int):=jO
  have o:¬gQ (bA l) x=true:=by unfold gQ;rw[decide_eq_false J,v];simp
  rw[if_neg o];try simp(disch:=first|omega|assumption) only[Nat.reduceAdd,Nat.reduceLT,RZ,g,ge,u,r,z,w5,B,N,G,U,O,F,C,wp,E,ke,or_true,true_and,ne_eq,not_false_eq_true]
  refine j _ _ _ (ag _) ?_ ?_ ?_ rfl rfl rfl rfl rfl rfl rfl
  ·rw[get_eq];rfl
  ·rw[ak _ _ w,get_eq]
  ·intro c k q1 q2;rw[ak _ _ q1,ak _ _ q2]
end
def gU(L:Nat->Nat)(n:Nat)(l:List UInt8)(x':SS)(m:Sm)(h':H)(n':Nat):Prop:=∃b a,(∀c,c<n->b c=L c)∧a.p=m.p∧cP h' n' b l x' a
section
variable {lf d n:Nat} {h:H} {L:Nat->Nat} {l:List UInt8} {x:SS} {m:Sm}
theorem cP.stack(y:cP h n L l x m){h':H}{n' k cp:Nat}{x':SS}{m':Sm}(i:m'={m with k:=k,cp:=cp}∨m'={m with c:=m.a,a:=m.c,k:=k,cp:=cp})(j:h'.get m.p=some (cV l x' m'))(o:h'.get m.o=some ⟨3,true,nV x'.ord⟩)(p:h'.get m'.c=some ⟨3,true,nV x'.cls⟩)(q:h'.get m'.a=some ⟨3,true,nV x'.bg⟩)(f:iM h' n' 203 3 k cp (gC x'.aU))(e:aL<=cp)(s:n<=k)(d:n<=n'):gU L n l x' m h' n':=by
 have b:∀c,c<n->(if c<n then L c else 24)=L c:=fun c r=>if_pos r;refine⟨fun c=>if c<n then L c else 24,m',b, ?_, ?_⟩
 ·rcases i with rfl|rfl<;>rfl
 ·have g:(if k<n then L k else 24)=24:=if_neg jO;rcases i with rfl|rfl
  ·exact⟨j,dC y.lp d,dC y.lo d,dC y.lc d,dC y.la d,o,p,q,y.ca,f,fun _=> .inl e,(b _ y.lp).trans y.Lp,(b _ y.lo).trans y.Lo,(b _ y.lc).trans y.Lc,(b _ y.la).trans y.La,g⟩
  ·exact⟨j,dC y.lp d,dC y.lo d,dC y.la d,dC y.lc d,o,p,q,Ne.symm y.ca,f,fun _=> .inl e,(b _ y.lp).trans y.Lp,(b _ y.lo).trans y.Lo,(b _ y.la).trans y.La,(b _ y.lc).trans y.Lc,g⟩
theorem cP.post(y:cP h n L l x m){h':H}{n':Nat}{x':SS}(z:cP h' n' L l x' m):gU L n l x' m h' n':=⟨L,m,fun _ _=>rfl,rfl,z⟩
theorem abu(y:cP h n L l x m){p:Nat×Nat×Nat}{r:List (Nat×Nat×Nat)}(a:x.aU=p::r)(p1:p.1<=p.2.2)(p2:p.2.2<=l.length)(h2:2<=l.length)(hd:x.done=false)(hl:x.aU.length<=1000000000000)(hN:l.length<=900000):aa (WS L) n (ah ad gt lf (d+1) 185 #[jP m.p 0]) h n fun _ h' n'=>gU L n l (j8 x) m h' n':=by
 have g:=y.get;have hp:=y.lp;have wp:WS L m.p:=l8 y.Lp jD jD;have W:WS L m.k:=l8 y.Lk jD jD;have J:m.k≠m.p:=cX y.Lk y.Lp jD;unfold cV at g;rw[a,bL]at g hl;rw[aF (fun _=>Qm) rfl];refine aa.aD ?_;unfold Gs;have F:IntKind.i64.wrap (((r.length+1:Nat):Int)-1)=((r.length:Nat):Int):=by rw[aO jO jO];omega
 have kN:(gC x.aU).length=r.length+1:=by rw[xp,a];rfl
 have u:(gC x.aU).getD r.length []=pV p:=by rw[a];exact Ss p r
 have i1:((r.length:Nat):Int)<((r.length+1:Nat):Int):=jO;try simp(disch:=first|omega|assumption) only[Nat.reduceAdd,Nat.reduceLT,RZ,g,F,i1]
 refine LY y.k (i:=r.length) jO _ ?_;rw[u];refine fR rfl _ ?_;refine j7 (sz:=3) trivial (vs:=pV p) rfl rfl rfl (get_eq _ _ _) jO (.inl jO) _ fun b U P=> ?_;have ge:b.get n=some ⟨203,true,[jI (p.1:Int),jI (p.2.1:Int),jI (p.2.2:Int)]⟩:=U;have e:cP b (n+1) L l x m:=y.ar jO (fun _ _=>rfl) fun c j _ _=>(P c jO).trans (ak _ _ jO);clear U P;have g:=e.get;have hp:=e.lp;have A:m.p≠n:=by have:=y.lp;omega
 have G:=Ne.symm A;have I:n<n+1:=dL n;unfold cV at g;rw[a,bL]at g;try simp(disch:=first|omega|assumption) only[Nat.reduceAdd,Nat.reduceLT,RZ,g,F]
 refine LZ e.k kN (m:=r.length) jO _ ?_;have E:IntKind.i64.wrap (((p.2.2:Nat):Int)-((p.1:Nat):Int))=((p.2.2-p.1:Nat):Int):=by rw[aO jO jO];omega
 have s:aL<=m.cp∨m.cp=1∧p=(0,0,l.length)∧r=[]:=by
  rcases y.kc hd with q|⟨q1,q2⟩
  ·exact .inl q
  ·rw[a]at q2;exact .inr ⟨q1,(ID q2).1,(ID q2).2⟩
 by_cases c:p.2.2-p.1<2
 ·have z:((p.2.2-p.1:Nat):Int)<2:=jO
  have D:j8 x={x with aU:=r}:=by unfold j8;rw[a];dsimp only;rw[if_pos c]
  rw[D];try simp(disch:=first|omega|assumption) only[Nat.reduceAdd,Nat.reduceLT,RZ,g,ge,E,z,I,wp,A,G,or_true,true_and,ne_eq,not_false_eq_true]
  refine y.post (e.put (x':={x with aU:=r}) (us:=[p]) ?_ (fun c _ j=>by rw[ak _ _ j]) rfl rfl rfl a (fun _=> .inl ?_) (ag _))
  ·rw[get_eq];rfl
  ·rcases s with q|⟨_,q,_⟩
   ·exact q
   ·rw[q]at c;dsimp only at c;omega
 ·have z:¬((p.2.2-p.1:Nat):Int)<2:=jO;obtain⟨mid,f⟩:∃mid,(p.1+p.2.2)/2=mid:=⟨_,rfl⟩;have Y:IntKind.i64.wrap (((p.1:Nat):Int)+((p.2.2:Nat):Int))=((p.1+p.2.2:Nat):Int):=by rw[aO jO jO];rfl
  have X:IntKind.i64.wrap (((p.1+p.2.2:Nat):Int).tdiv 2)=((mid:Nat):Int):=by rw[show(2:Int)=((2:Nat):Int)from rfl,<-Int.ofNat_tdiv,f,aO jO jO]
  have D:j8 x={x with aU:=(p.1,0,mid)::(mid,0,p.2.2)::(p.1,mid,p.2.2)::r}:=by unfold j8;rw[a];dsimp only;rw[if_neg c,f]
  rw[D];try simp(disch:=first|omega|assumption) only[Nat.reduceAdd,Nat.reduceLT,RZ,g,ge,E,Y,X,z,I,wp,A,G,or_true,true_and,ne_eq,not_false_eq_true]
  refine Y1 (cs:=[pV (p.1,mid,p.2.2),pV (mid,0,p.2.2),pV (p.1,0,mid)].flatten) rfl _ ?_
  have C:∀o:H,o.get m.p=some (cV l {x with aU:=r} m)->(∀c,c≠m.p->o.get c=b.get c)->aa (WS L) n (cN 203 3 (.slice (some ⟨m.k,0,none⟩) r.length m.cp) (.slice (some ⟨n+1,0,none⟩) 3 3) fun v=>aK (jP m.p 5) v fun _=>ae []) (o.set (n+1) (some ⟨203,true,[pV (p.1,mid,p.2.2),pV (mid,0,p.2.2),pV (p.1,0,mid)].flatten⟩)) (n+1+1) fun _ h' n'=>gU L n l {x with aU:=(p.1,0,mid)::(mid,0,p.2.2)::(p.1,mid,p.2.2)::r} m h' n':=fun o g3 O=>by
   have lk:=y.k.lt;have Z:=(e.k.cut (us:=gC r) (vs:=[pV p]) (by rw[a,Ha])).ar (h':=o.set (n+1) (some ⟨203,true,[pV (p.1,mid,p.2.2),pV (mid,0,p.2.2),pV (p.1,0,mid)].flatten⟩)) (n':=n+1+1) jO (by rw[ak _ _ jO];exact O _ J);have e3:gC ((p.1,0,mid)::(mid,0,p.2.2)::(p.1,mid,p.2.2)::r)=gC r++[pV (p.1,mid,p.2.2),pV (mid,0,p.2.2),pV (p.1,0,mid)]:=by simp only[Ha,b9,List.cons_append,p7]
   refine L0 Z (N:=r.length) (M':=3) (us:=[pV (p.1,mid,p.2.2),pV (mid,0,p.2.2),pV (p.1,0,mid)]) (xp r) rfl (by intro t Q;simp only[List.mem_cons,List.not_mem_nil,or_false]at Q;rcases Q with rfl|rfl|rfl<;>rfl) (agN _) rfl (get_eq _ _ _) jO jO (by
    rcases s with q|⟨q,_,_⟩
    ·exact .inl q
    ·exact .inr jO) (.inr W) _ fun R w K=> ?_
   have T:R.get m.p=some (cV l {x with aU:=r} m):=(K _ jO (Ne.symm J)).trans ((ak _ _ jO).trans g3);unfold cV at T;have u0:m.p<n+1+1+1:=jO;try simp(disch:=first|omega|assumption) only[Nat.reduceAdd,Nat.reduceLT,RZ,T,wp,or_true,true_and]
   have B:∀c,c<n->c≠m.p->c≠m.k->(R.set m.p (some (cV l {x with aU:=(p.1,0,mid)::(mid,0,p.2.2)::(p.1,mid,p.2.2)::r} {m with k:=n+1+1,cp:=aL+(r.length+3)}))).get c=b.get c:=fun c j q1 q2=>by rw[ak _ _ q1,K _ jO q2,ak _ _ jO,O _ q1]
   exact y.stack (m':={m with k:=n+1+1,cp:=aL+(r.length+3)}) (.inl rfl) (get_eq _ _ _) ((B _ y.lo (cX y.Lo y.Lp jD) (cX y.Lo y.Lk jD)).trans e.o) ((B _ y.lc (cX y.Lc y.Lp jD) (cX y.Lc y.Lk jD)).trans e.c) ((B _ y.la (cX y.La y.Lp jD) (cX y.La y.Lk jD)).trans e.a) (by rw[e3];exact w.ar (ag _) (ak _ _ jO)) jO jO jO
  exact C _ (get_eq _ _ _) fun c j=>ak _ _ j
end
section
variable {lf d n:Nat} {h:H} {L:Nat->Nat} {l:List UInt8} {x:SS} {m:Sm}
theorem abv(y:cP h n L l x m)(f:x.aU=[])(U:x.ord.length=l.length)(h2:2<=l.length)(hN:l.length<=900000)(hl:x.last<=l.length)(hr:x.reach<=2*l.length)(hd:x.done=false):aa (WS L) n (ah ad gt lf (d+1) 213 #[jP m.p 0]) h n fun _ h' n'=>gU L n l (fT x) m h' n':=by
 have g:=y.get;have Y:=y.lp;have wp:WS L m.p:=l8 y.Lp jD jD;have R:WS L m.k:=l8 y.Lk jD jD;have u:m.k≠m.p:=cX y.Lk y.Lp jD;have F:m.o≠m.p:=cX y.Lo y.Lp jD;have cp:m.c≠m.p:=cX y.Lc y.Lp jD;have P:m.a≠m.p:=cX y.La y.Lp jD
 have A:aL<=m.cp:=by
  rcases y.kc hd with q|⟨_,q⟩
  ·exact q
  ·rw[f]at q;cases q
 unfold cV at g;rw[f,eF]at g;rw[aF (fun _=>Q5) rfl];refine aa.aD ?_;unfold GK;have r:IntKind.i64.wrap (((l.length:Nat):Int)-1)=((l.length-1:Nat):Int):=by rw[aO jO jO];omega
 have O:∀h':H,x.last+1=x.ord.length∨x.ord.length<=x.reach->h'.get m.p=some (cV l (fT x) {m with c:=m.a,a:=m.c})->(∀c,c≠m.p->h'.get c=h.get c)->gU L n l (fT x) m h' n:=fun h' c K o=>by
  have e:fT x={x with cls:=x.bg,bg:=x.cls,aP:=0,done:=true}:=by unfold fT;rw[if_pos c]
  rw[e]at K⊢;exact⟨L,{m with c:=m.a,a:=m.c},fun _ _=>rfl,rfl,⟨K,Y,y.lo,y.la,y.lc,(o _ F).trans y.o,(o _ P).trans y.a,(o _ cp).trans y.c,Ne.symm y.ca,y.k.ar (ag n) (o _ u),fun q=>(by cases q),y.Lp,y.Lo,y.La,y.Lc,y.Lk⟩⟩
 by_cases D:x.last+1=x.ord.length
 ·have j:(((x.last:Nat):Int)==((l.length-1:Nat):Int))=true:=beq_iff_eq.2 jO;try simp(disch:=first|omega|assumption) only[Nat.reduceAdd,Nat.reduceLT,RZ,g,r,j,wp,or_true,true_and]
  refine O _ (.inl D) ?_ (fun c b=>by rw[ak _ _ b,ak _ _ b,ak _ _ b,ak _ _ b]);rw[get_eq];unfold fT;rw[if_pos (.inl D)];unfold cV;dsimp only;rw[f];rfl
 have j:(((x.last:Nat):Int)==((l.length-1:Nat):Int))=false:=beq_eq_false_iff_ne.2 jO;by_cases C:x.ord.length<=x.reach
 ·have p:((l.length:Nat):Int)<=((x.reach:Nat):Int):=jO;try simp(disch:=first|omega|assumption) only[Nat.reduceAdd,Nat.reduceLT,RZ,g,r,j,p,wp,or_true,true_and]
  refine O _ (.inr C) ?_ (fun c b=>by rw[ak _ _ b,ak _ _ b,ak _ _ b,ak _ _ b]);rw[get_eq];unfold fT;rw[if_pos (.inr C)];unfold cV;dsimp only;rw[f];rfl
 have p:¬((l.length:Nat):Int)<=((x.reach:Nat):Int):=jO;have T:IntKind.i64.wrap (2*((x.reach:Nat):Int))=((2*x.reach:Nat):Int):=by rw[aO jO jO];rfl
 have Q:(if(1:Int)<((2*x.reach:Nat):Int)then((2*x.reach:Nat):Int)else 1)=((max 1 (2*x.reach):Nat):Int):=by split<;>omega
 have e:fT x={x with cls:=x.bg,bg:=x.cls,aP:=0,reach:=max 1 (2*x.reach),aU:=[(0,0,l.length)]}:=by unfold fT;rw[if_neg (fun q=>q.elim D C),f,U]
 rw[e];try simp(disch:=first|omega|assumption) only[Nat.reduceAdd,Nat.reduceLT,RZ,g,r,T,Q,j,p,wp,or_true,true_and]
 refine Ma (vs:=pV (0,0,l.length)) rfl _ ?_
 have z:∀i:H,i.get m.p=some (cV l {x with cls:=x.bg,bg:=x.cls,aP:=0,reach:=max 1 (2*x.reach)} {m with c:=m.a,a:=m.c})->(∀c,c≠m.p->i.get c=h.get c)->aa (WS L) n (cN 203 3 (.slice (some ⟨m.k,0,none⟩) 0 m.cp) (.slice (some ⟨n,0,none⟩) 1 1) fun v=>aK (jP m.p 5) v fun _=>ae []) (i.set n (some ⟨203,true,pV (0,0,l.length)⟩)) (n+1) fun _ h' n'=>gU L n l {x with cls:=x.bg,bg:=x.cls,aP:=0,reach:=max 1 (2*x.reach),aU:=[(0,0,l.length)]} m h' n':=fun i g3 I=>by
  have lk:=y.k.lt;have E:=y.k.ar (h':=i.set n (some ⟨203,true,pV (0,0,l.length)⟩)) (n':=n+1) jO (by rw[ak _ _ jO];exact I _ u);rw[f]at E;refine L0 E (N:=0) (M':=1) (us:=[pV (0,0,l.length)]) rfl rfl (by intro t W;rw[List.mem_singleton.1 W];rfl) (agN _) rfl ((get_eq _ _ _).trans rfl) jO jO (.inl A) (.inr R) _ fun Z s G=> ?_;have J:=(G m.p jO (Ne.symm u)).trans ((ak _ _ jO).trans g3);unfold cV at J;have X:m.p<n+1+1:=jO;try simp(disch:=first|omega|assumption) only[Nat.reduceAdd,Nat.reduceLT,RZ,J,wp,or_true,true_and]
  have w:∀(B:AB) c,c<n->c≠m.p->c≠m.k->(Z.set m.p (some B)).get c=h.get c:=fun B c b q1 q2=>by rw[ak _ _ q1,G _ jO q2,ak _ _ jO,I _ q1]
  refine y.stack (k:=n+1) (cp:=aL+(0+1)) (m':={m with c:=m.a,a:=m.c,k:=n+1,cp:=aL+(0+1)}) (.inr rfl) (get_eq _ _ _) ((w _ _ y.lo F (cX y.Lo y.Lk jD)).trans y.o) ((w _ _ y.la P (cX y.La y.Lk jD)).trans y.a) ((w _ _ y.lc cp (cX y.Lc y.Lk jD)).trans y.c) (s.ar (ag _) (ak _ _ jO)) jO jO jO
 refine z _ ((get_eq _ _ _).trans ?_) fun c b=>by rw[ak _ _ b,ak _ _ b,ak _ _ b,ak _ _ b]
 unfold cV;dsimp only;rw[f];rfl
set_option maxHeartbeats 1000000 in
theorem abw(y:cP h n L l x m)(hs:x.aU=[])(ol:x.ord.length=l.length)(cl:x.cls.length=l.length)(al:x.bg.length=l.length)(E:∀i,i<l.length->x.ord.getD i 0<l.length)(h2:2<=l.length)(hN:l.length<=900000)(hr:x.reach<=2*l.length)(hd:x.done=false)(rn:x.aP<l.length)(v0:kS (bA l) x<=x.aP)(u9:x.last<=l.length):aa (WS L) n (ah ad gt lf (d+3) 186 #[jP m.p 0]) h n fun _ h' n'=>gU L n l (fA (bA l) x) m h' n':=by
 have g:=y.get;have hp:=y.lp;have lo:=y.lo;have la:=y.la;have wp:WS L m.p:=l8 y.Lp jD jD;have A:WS L m.a:=l8 y.La jD jD;have t:m.o≠m.p:=cX y.Lo y.Lp jD;have u:m.o≠m.a:=cX y.Lo y.La jD;have k:m.a≠m.p:=cX y.La y.Lp jD;have C:m.p≠m.a:=Ne.symm k;have cp:m.c≠m.p:=cX y.Lc y.Lp jD;have kp:m.k≠m.p:=cX y.Lk y.Lp jD;have ka:m.k≠m.a:=cX y.Lk y.La jD;have r:=y.o;unfold cV at g;rw[aF (fun _=>Qn) rfl];refine aa.aD ?_;unfold Gu;have i1:((x.aP:Nat):Int)<((l.length:Nat):Int):=jO;have s:=qZ (l:=x.ord) (i:=x.aP) jO;have R:=E x.aP rn;have i3:((x.ord.getD x.aP 0:Nat):Int)<((l.length:Nat):Int):=jO;have B:IntKind.i64.wrap (((x.aP:Nat):Int)+1)=((x.aP+1:Nat):Int):=by rw[aO jO jO];rfl
 have j:x.ord.getD x.aP 0<(nV x.bg).length:=by rw[vj];omega
 have D:∀(Z:H) (K:Nat),n<=K->cP Z K L l x m->∀h':H,h'.get m.p=some (cV l (bo (bA l) x) m)->h'.get m.a=some ⟨3,true,nV (bo (bA l) x).bg⟩->(∀c,c≠m.p->c≠m.a->h'.get c=Z.get c)->cP h' K L l (bo (bA l) x) m:=fun Z K u7 J h' gp p U=>J.ld (x':=bo (bA l) x) (us:=[]) gp ((U _ t u).trans J.o) ((U _ cp y.ca).trans J.c) p (U _ kp ka) rfl (fun q=>J.kc q) (ag _)
 have v:∀(h':H) (n':Nat),n<=n'->cP h' n' L l (bo (bA l) x) m->x.aP+1=l.length->aa (WS L) n (aj (ah ad gt lf (d+2)) 213 [jP m.p 0] fun c=>ae []) h' n' fun _ u0 T=>gU L n l (fA (bA l) x) m u0 T:=by
  intro h' n' Y y2 c
  have er:fA (bA l) x=fT (bo (bA l) x):=by unfold fA;exact if_pos (show x.aP+1=x.ord.length by omega)
  refine aJ aE (abv (lf:=lf) (d:=d+1) y2 hs ol h2 hN (by show kS (bA l) x<=_;omega) hr hd) Y (fun b _ hb=> .inr hb) fun v8 h8 n8 u6 v1 W=> ?_;try simp(disch:=first|omega|assumption) only[Nat.reduceAdd,Nat.reduceLT,RZ]
  rw[er];obtain⟨L',m',e1,e2,e3⟩:=W;exact⟨L',m',fun c hc=>e1 c jO,e2,e3⟩
 have w:x.aP+1≠l.length->fA (bA l) x=bo (bA l) x:=fun c=>by unfold fA;exact if_neg (show¬x.aP+1=x.ord.length by omega)
 have Q:∀c:x.aP+1=l.length,(((x.aP+1:Nat):Int)==((l.length:Nat):Int))=true:=fun c=>beq_iff_eq.2 jO;have P:∀c:x.aP+1≠l.length,(((x.aP+1:Nat):Int)==((l.length:Nat):Int))=false:=fun c=>beq_eq_false_iff_ne.2 jO;by_cases N:x.aP=0
 ·have I:(((x.aP:Nat):Int)==0)=true:=by rw[N];rfl
  have f:kS (bA l) x=0:=by unfold kS;rw[if_pos N]
  have p:=y.a;by_cases c:x.aP+1=l.length
  ·have z:=Q c;try simp(disch:=first|omega|assumption) only[Nat.reduceAdd,Nat.reduceLT,RZ,g,r,p,I,z,i1,s,i3,B,j,A,wp,C,t,u,k,ke,or_true,true_and,ne_eq,not_false_eq_true]
   refine v _ _ (ag n) (D h n (ag n) y _ ?_ ?_ fun c q1 q2=>by rw[ak _ _ q1,ak _ _ q2,ak _ _ q1]) c
   ·rw[get_eq];unfold bo cV;dsimp only;rw[f];try rfl
   ·rw[ak _ _ k,get_eq];unfold bo;dsimp only;rw[f,<-ke];rfl
  ·have z:=P c;rw[w c];try simp(disch:=first|omega|assumption) only[Nat.reduceAdd,Nat.reduceLT,RZ,g,r,p,I,z,i1,s,i3,B,j,A,wp,C,t,u,k,ke,or_true,true_and,ne_eq,not_false_eq_true]
   refine y.post (D h n (ag n) y _ ?_ ?_ fun c q1 q2=>by rw[ak _ _ q1,ak _ _ q2,ak _ _ q1])
   ·rw[get_eq];unfold bo cV;dsimp only;rw[f];try rfl
   ·rw[ak _ _ k,get_eq];unfold bo;dsimp only;rw[f,<-ke];rfl
 have I:(((x.aP:Nat):Int)==0)=false:=beq_eq_false_iff_ne.2 jO;have w1:IntKind.i64.wrap (((x.aP:Nat):Int)-1)=((x.aP-1:Nat):Int):=by rw[aO jO jO];omega
 have v2:=qZ (l:=x.ord) (i:=x.aP-1) jO;have i2:((x.aP-1:Nat):Int)<((l.length:Nat):Int):=jO;have w5:IntKind.i64.wrap (((x.last:Nat):Int)+1)=((x.last+1:Nat):Int):=by rw[aO jO jO];rfl
 try simp(disch:=first|omega|assumption) only[Nat.reduceAdd,Nat.reduceLT,RZ,g,r,I,w1,i1,i2,s,v2]
 refine aJ aE (Sv (lf:=lf) (d:=d) y R (E (x.aP-1) jO) cl hr hN) (ag n) (fun _ _ h=>h.elim) fun v3 G F e u1 X=> ?_;subst X;have o:cP G F L l x m:=y.ar e (fun _ _=>rfl) fun c hc _ _=>u1 c hc id;have g:=o.get;have hp:=o.lp;have lo:=o.lo;have la:=o.la;have r:=o.o;have p:=o.a;unfold cV at g;cases ab:pj (bA l) x (x.ord.getD x.aP 0) (x.ord.getD (x.aP-1) 0)with
 |true=>
  have f:kS (bA l) x=x.last+1:=by unfold kS;rw[if_neg N,if_pos ab]
  by_cases c:x.aP+1=l.length
  ·have z:=Q c;try simp(disch:=first|omega|assumption) only[Nat.reduceAdd,Nat.reduceLT,RZ,g,r,p,z,i1,s,i3,B,w5,j,A,wp,C,t,u,k,ke,or_true,true_and,ne_eq,not_false_eq_true]
   refine v _ _ e (D G F e o _ ?_ ?_ fun c q1 q2=>by rw[ak _ _ q1,ak _ _ q2,ak _ _ q1]) c
   ·rw[get_eq];unfold bo cV;dsimp only;rw[f];try rfl
   ·rw[ak _ _ k,get_eq];unfold bo;dsimp only;rw[f]
  ·have z:=P c;rw[w c];try simp(disch:=first|omega|assumption) only[Nat.reduceAdd,Nat.reduceLT,RZ,g,r,p,z,i1,s,i3,B,w5,j,A,wp,C,t,u,k,ke,or_true,true_and,ne_eq,not_false_eq_true]
   refine⟨L,m,fun _ _=>rfl,rfl,D G F e o _ ?_ ?_ fun c q1 q2=>by rw[ak _ _ q1,ak _ _ q2,ak _ _ q1]⟩
   ·rw[get_eq];unfold bo cV;dsimp only;rw[f];try rfl
   ·rw[ak _ _ k,get_eq];unfold bo;dsimp only;rw[f]
 |false=>
  have f:kS (bA l) x=x.last:=by unfold kS;rw[if_neg N,if_neg (by rw[ab];decide)]
  by_cases c:x.aP+1=l.length
  ·have z:=Q c;try simp(disch:=first|omega|assumption) only[Nat.reduceAdd,Nat.reduceLT,RZ,g,r,p,z,i1,s,i3,B,j,A,wp,C,t,u,k,ke,or_true,true_and,ne_eq,not_false_eq_true]
   refine v _ _ e (D G F e o _ ?_ ?_ fun c q1 q2=>by rw[ak _ _ q1,ak _ _ q2]) c
   ·rw[get_eq];unfold bo cV;dsimp only;rw[f];try rfl
   ·rw[ak _ _ k,get_eq];unfold bo;dsimp only;rw[f]
  ·have z:=P c;rw[w c];try simp(disch:=first|omega|assumption) only[Nat.reduceAdd,Nat.reduceLT,RZ,g,r,p,z,i1,s,i3,B,j,A,wp,C,t,u,k,ke,or_true,true_and,ne_eq,not_false_eq_true]
   refine⟨L,m,fun _ _=>rfl,rfl,D G F e o _ ?_ ?_ fun c q1 q2=>by rw[ak _ _ q1,ak _ _ q2]⟩
   ·rw[get_eq];unfold bo cV;dsimp only;rw[f];try rfl
   ·rw[ak _ _ k,get_eq];unfold bo;dsimp only;rw[f]
end
theorem abx(s:ByteArray)(x:SS):(kT s x).steps=x.steps:=by
 unfold kT kR Sp.dO fI j8 fA fT bo
 repeat' split
 all_goals rfl
theorem aby(x:SS):(bR x).steps=x.steps:=by
 unfold bR
 repeat' split
 all_goals rfl
structure Sw (l:List UInt8) (x:SS):Prop where
 ok:∃mm,Ok l.length mm x
 aU:x.aU.length<=10000000000
 stp:x.steps<=10000000000
theorem abz{l:List UInt8}(k:l.length<=900000){j:Nat}(c:j<dQ (bA l)):Sw l (eh (bA l) j):=by
 have b:=eu l;have f:=Ok.start (bA l).size 20 (Fq _ jO);obtain⟨a,r,_⟩:=wK (bA l) jO
 have q:¬(bA l).size<2:=by
  intro d;have:dQ (bA l)=0:=by unfold dQ;rw[if_pos d]
  omega
 obtain⟨m,q1,q2⟩:=Fp (bA l) _ f j (fun i h=>a i jO);have e:=q2 (a j c);have g:=MJ (bA l).size 20 jO (Fq _ jO);have p:(bA l).size*((4+3*20)*(20+2))<=900000*((4+3*20)*(20+2)):=vJ _ jO;have o:=ZD q1;have n:=Ai (bA l) j;rw[b]at q1;exact⟨⟨m,q1⟩,jO,jO⟩
theorem gU.trans{L L':Nat->Nat}{n b n2:Nat}{l:List UInt8}{a:SS}{m m':Sm}{h2:H}(o:n<=b)(g:∀c,c<n->L' c=L c)(e:m'.p=m.p)(q:gU L' b l a m' h2 n2):gU L n l a m h2 n2:=by obtain⟨k,d,j,i,h⟩:=q;exact⟨k,d,fun c f=>(j c jO).trans (g c f),i.trans e,h⟩
section
variable {lf d n:Nat} {h:H} {L:Nat->Nat} {l:List UInt8} {x:SS} {m:Sm}
theorem abA(y:cP h n L l x m)(so:Sw l x)(hd:x.done=false)(h2:2<=l.length)(C:l.length<=900000):aa (WS L) n (ah ad gt lf (d+4) 155 #[jP m.p 0]) h n fun _ h' n'=>gU L n l (di (bA l) x) m h' n':=by
 obtain⟨⟨mm,ok⟩,G,ss⟩:=so;rw[aF (fun _=>PN) rfl];refine aa.aD ?_;unfold F8;obtain⟨T,Q⟩:∃T:M Value,T=(ai (jP m.p 0) fun b=>aQ 14 b fun c=>aG c fun d=>ax d (ii 1) fun e=>ai (jP m.p 0) fun f=>aQ 14 f fun g=>aK g e fun _=>ae []):=⟨_,rfl⟩;rw[<-Q];have w1:IntKind.i64.wrap (((x.steps:Nat):Int)+1)=((x.steps+1:Nat):Int):=by rw[aO jO jO];rfl
 have k:∀(x':SS) (h':H) (n':Nat),n<=n'->x'.steps=x.steps->gU L n l x' m h' n'->aa (WS L) n T h' n' fun _ U J=>gU L n l {x' with steps:=x.steps+1} m U J:=by
  rintro x' h' n' u2 N ⟨L',Z,e1,w,A⟩;have g:=A.get;have hp:=A.lp;unfold cV at g;rw[N,w]at g;rw[w]at hp;have wp:WS L m.p:=l8 y.Lp jD jD;rw[Q];try simp(disch:=first|omega|assumption) only[Nat.reduceAdd,Nat.reduceLT,RZ,g,w1,wp,or_true,true_and]
  refine⟨L',Z,e1,w, ?_⟩;have:=A.put (h':=h'.set m.p (some (cV l {x' with steps:=x.steps+1} Z))) (x':={x' with steps:=x.steps+1}) (us:=[]) (by rw[w];exact get_eq _ _ _) (fun c _ hc=>ak _ _ (by rw[w]at hc;exact hc)) rfl rfl rfl rfl A.kc (ag n');exact this
 clear Q;refine aJ aE (abp (lf:=lf) (d:=d+2) y jO hd) (ag n) (fun b _ P=> .inr P) fun v1 h1 u u1 u3 O=> ?_;obtain⟨rfl,s⟩:=O;have a:=ok.join;have D:(bR x).done=false:=by rw[Ff];exact hd
 have X:=aby x
 have kj:(bR x).aU.length<=10000000000:=by
  unfold bR;split
  ·exact G
  ·rename_i p r q;split
   ·rw[q,bL]at G;show r.length<=_;omega
   ·exact G
 have es:di (bA l) x={kT (bA l) (bR x)with steps:=x.steps+1}:=rfl;have i:=abx (bA l) (bR x);rw[X]at i;have jt:=fun p r (q:(bR x).aU=p::r) h0=>join_top q h0 ok;rw[es];generalize bR x=z at s a D X kj i jt⊢;have g:=s.get;have hp:=s.lp;unfold cV at g;unfold kT at i⊢;have B:∀b,b<u->WS L b->u<=b∨WS L b:=fun b _ P=> .inr P;by_cases c1:0<z.hi
 ·have v:(0:Int)<((z.hi:Nat):Int):=jO;have K:=a.merge.resolve_left jO;obtain⟨m1,m2,m3,m4,m5,m6,m7,m8,m9,u0⟩:=K;have K:=a.merge.resolve_left jO;have W:IntKind.i64.wrap (((z.mid:Nat):Int)-((z.lo:Nat):Int))=((z.mid-z.lo:Nat):Int):=by rw[aO jO jO];omega
  rw[if_pos c1]at i⊢;by_cases c2:z.laid<z.mid-z.lo
  ·have E:((z.laid:Nat):Int)<((z.mid-z.lo:Nat):Int):=jO;rw[if_pos c2]at i⊢;try simp(disch:=first|omega|assumption) only[Nat.reduceAdd,Nat.reduceLT,RZ,g,v,W,E]
   refine aJ aE (abq (lf:=lf) (d:=d+2) s jO jO a.ol a.al C) (ag u) B fun F R I o t j=> ?_;obtain⟨rfl,y8⟩:=j;exact k _ _ _ (ag _) i (s.post y8)
  ·have E:¬((z.laid:Nat):Int)<((z.mid-z.lo:Nat):Int):=jO;rw[if_neg c2]at i⊢;try simp(disch:=first|omega|assumption) only[Nat.reduceAdd,Nat.reduceLT,RZ,g,v,W,E]
   refine aJ aE (abt (lf:=lf) (d:=d) s K jO a.ol a.cl a.al a.ord (by have:=a.kU;omega) C) (ag u) B fun F R I o t j=> ?_;exact k _ _ _ o i ⟨L,m,fun _ _=>rfl,rfl,j⟩
 ·have v:¬(0:Int)<((z.hi:Nat):Int):=jO;have h0:z.hi=0:=jO;rw[if_neg c1]at i⊢;cases q:z.aU with
  |nil=>
   rw[q]at i g;have rn:=a.aP D;have la:=a.last;have lS:=Mr (bA l) a;try simp(disch:=first|omega|assumption) only[Nat.reduceAdd,Nat.reduceLT,RZ,g,v,cb]
   refine aJ aE (abw (lf:=lf) (d:=d) s q a.ol a.cl a.al a.ord h2 C a.kU D rn lS la) (ag u) B fun F R I o t j=> ?_;exact k _ _ _ o i j
  |cons p r=>
   rw[q]at i g;rw[bL]at g;have Y:=a.aU p (by rw[q];simp);have z3:(0:Int)<((r.length+1:Nat):Int):=jO;try simp(disch:=first|omega|assumption) only[Nat.reduceAdd,Nat.reduceLT,RZ,g,v,z3]
   refine aJ aE (abu (lf:=lf) (d:=d+2) s q Y.1 Y.2.1 h2 D jO C) (ag u) B fun F R I o t j=> ?_;exact k _ _ _ o i j
def BV(l:List UInt8)(j:Nat)(a:Int):Nat:=min a.toNat (dQ (bA l)-j)
theorem abB{j:Nat}(y:cP h n L l (eh (bA l) j) m)(R:j<=dQ (bA l))(p:l.length<=900000)(a:Int)(I:a<=2000000000000)(F:dQ (bA l)<lf):aa (WS L) n (ah ad gt lf (d+5) 121 #[jP m.p 0,jI a]) h n fun C h' n'=>C=jI (BV l j a:Int)∧gU L n l (eh (bA l) (j+BV l j a)) m h' n':=by
 have g:=y.get;have s:=y.lp;have Q:=ZE (bA l) (by rw[eu];exact p);unfold cV at g;rw[Ai]at g;rw[aF (fun _=>O5) rfl];refine aa.aD ?_;unfold AP;try simp(disch:=first|omega|assumption) only[Nat.reduceAdd,Nat.reduceLT,RZ,g]
 obtain⟨G,hG⟩:∃G,BV l j a=G:=⟨_,rfl⟩;have J:G=min a.toNat (dQ (bA l)-j):=hG.symm;rw[hG];refine dP G (fun x i (_:Unit)=>sC lf (ah ad gt lf (d+4)) x (wQ lf (ah ad gt lf (d+4))) (jP m.p 0) (jI a) (jI 0) (jI (j:Int)) (.bool false)) (fun i _ h' n'=>n<=n'∧gU L n l (eh (bA l) (j+i)) m h' n') ?_ ?_ lf 0 () h n (cL _) jO ⟨ag n,⟨L,m,fun _ _=>rfl,rfl,y⟩⟩
 ·rintro x _ h' n' ⟨q1,z,t,r,f,e⟩;have g:=e.get;have s:=e.lp;unfold cV at g;rw[Ai,f]at g;rw[f]at s;have k:IntKind.i64.wrap (((j+G:Nat):Int)-((j:Nat):Int))=((G:Nat):Int):=by rw[aO jO jO];omega
  rw[sC];cases hd:(eh (bA l) (j+G)).done with
  |true=>
   rw[hd]at g;try simp(disch:=first|omega|assumption) only[Nat.reduceAdd,Nat.reduceLT,RZ,g,fY]
   unfold wQ;try simp(disch:=first|omega|assumption) only[Nat.reduceAdd,Nat.reduceLT,RZ,g,k]
   exact⟨z,t,r,f,e⟩
  |false=>
   rw[hd]at g
   have c:¬((G:Nat):Int)<a:=by intro c;have:j+G=dQ (bA l):=jO;rw[this,Fs (bA l) (by rw[eu];exact p)]at hd;cases hd
   try simp(disch:=first|omega|assumption) only[Nat.reduceAdd,Nat.reduceLT,RZ,g,iD,k,c]
   unfold wQ;try simp(disch:=first|omega|assumption) only[Nat.reduceAdd,Nat.reduceLT,RZ,g,k]
   exact⟨z,t,r,f,e⟩
 ·rintro x i _ h' n' T ⟨q1,z,t,r,f,e⟩ next;have g:=e.get;have s:=e.lp;have o:j+i<dQ (bA l):=jO;have B:=ML (bA l) (by rw[eu];exact p) (j+i) o
  have N:2<=l.length:=by
   refine yw fun q=> ?_;have:dQ (bA l)=0:=by unfold dQ;rw[if_pos (by rw[eu];omega)]
   omega
  have A:=abA (lf:=lf) (d:=d) e (abz p o) B N p;unfold cV at g;rw[Ai,B,f]at g;rw[f]at s A;have k:IntKind.i64.wrap (((j+i:Nat):Int)-((j:Nat):Int))=((i:Nat):Int):=by rw[aO jO jO];omega
  have c:((i:Nat):Int)<a:=jO;rw[sC];try simp(disch:=first|omega|assumption) only[Nat.reduceAdd,Nat.reduceLT,RZ,g,iD,k,c]
  refine aJ aE A q1 (fun b I u=> ?_) fun P K D E O v=> ?_
  ·by_cases w:b<n
   ·refine .inr ?_;unfold WS at u⊢;rw[r b w]at u;exact u
   ·exact .inl jO
  ·refine next () K D ⟨jO, ?_⟩;rw[<-Nat.add_assoc,Fo];exact gU.trans q1 r f v
end
end Go.Proofs.YtcehhgppfahbkaaGreatDoor
namespace Go.Proofs.YtcehhgppfahbkaaGreatDoor
open Go.RowKit Hu
def xq(x y:Int):Int:=if x<y then-1 else if y<x then 1 else 0
def RI(k:Nat->Int)(a b:Nat):Prop:=k a<k b∨k a=k b∧a<b
theorem abC{k:Nat->Int}{L R:List Nat}{x:Nat}(h:(L++R).Pairwise (RI k))(j:∀r∈R,k x<k r)(h2:∀l∈L,k l<=k x)(i:∀l∈L,k l=k x->l<x):(L++x::R).Pairwise (RI k):=by
 rw[oB]at h⊢;refine⟨h.1, ?_,fun a c b g=> ?_⟩
 ·rw[qa];exact⟨fun r f=> .inl (j r f),h.2.1⟩
 ·rcases List.mem_cons.1 g with e|e
  ·subst e;have:=h2 a c;by_cases d:k a=k b
   ·exact .inr ⟨d,i a c d⟩
   ·exact .inl jO
  ·exact h.2.2 a c b e
def aS(ws:List Int)(i:Nat):Int:=ws.getD i 0
theorem abD(pre:List Nat)(v:Nat)(post:List Nat):(pre++v::post).getD pre.length 0=v:=by simp[au]
theorem BW(x y:Int):decide (xq x y<0)=decide (x<y):=by
 unfold xq;by_cases h:x<y
 ·simp[h]
 ·by_cases a:y<x
  ·simp[h,a]
  ·simp[h,a]
theorem nT(pre:List Nat)(v:Nat)(post:List Nat)(j:Nat)(a:j=pre.length):(pre++v::post).getD j 0=v:=by subst a;exact abD _ _ _
theorem q7(pre:List Nat)(v u:Nat)(post:List Nat)(j:Nat)(a:j=pre.length):(pre++v::post).set j u=pre++u::post:=by subst a;rw[List.set_append_right (h:=ag _),oA];rfl
theorem RI.trans'{k:Nat->Int}{a b c:Nat}(d:RI k a b)(h2:RI k b c):RI k a c:=by unfold RI at*;omega
theorem Hb{k:Nat->Int}{x y:Nat}(a:x<y)(h:¬k y<k x):RI k x y:=by unfold RI;omega
theorem xr{k:Nat->Int}{L:List Nat}(h:L.Pairwise (RI k)){i j:Nat}(b:i<=j)(c:j<L.length):L.getD i 0=L.getD j 0∨RI k (L.getD i 0) (L.getD j 0):=by
 rcases Nat.lt_or_eq_of_le b with a|rfl
 ·right;have:=List.pairwise_iff_getElem.1 h i j jO c a;rw[au,au,aC jO,aC c];exact this
 ·left;rfl
theorem Hc{k:Nat->Int}{L:List Nat}(h:L.Pairwise (RI k)){i j c:Nat}(a:i<=j)(d:j<L.length)(b:RI k (L.getD j 0) c):RI k (L.getD i 0) c:=by
 rcases xr h a d with e|e
 ·rw[e];exact b
 ·exact e.trans' b
theorem Hd{k:Nat->Int}{L:List Nat}(h:L.Pairwise (RI k)){i j c:Nat}(a:i<=j)(d:j<L.length)(b:RI k c (L.getD i 0)):RI k c (L.getD j 0):=by
 rcases xr h a d with e|e
 ·rw[<-e];exact b
 ·exact b.trans' e
theorem He{L:List Nat}{n:Nat}{u:Nat}(h:u∈L.take n):∃i,i<n∧i<L.length∧L.getD i 0=u:=by obtain⟨i,a,e⟩:=List.mem_iff_getElem.1 h;rw[ed]at a;refine⟨i,jO,jO, ?_⟩;rw[List.getElem_take]at e;rw[au,aC jO];exact e
theorem xt{L:List Nat}{n:Nat}{u:Nat}(h:u∈L.drop n):∃i,n<=i∧i<L.length∧L.getD i 0=u:=by obtain⟨i,a,e⟩:=List.mem_iff_getElem.1 h;rw[fO]at a;refine⟨n+i,jO,jO, ?_⟩;rw[List.getElem_drop]at e;rw[au,aC jO];exact e
theorem abE{k:Nat->Int}{L R:List Nat}{x:Nat}(h:(L++R).Pairwise (RI k))(f:∀r∈R,RI k x r)(h2:∀l∈L,RI k l x):(L++x::R).Pairwise (RI k):=by
 rw[oB]at h⊢;refine⟨h.1, ?_,fun a c b d=> ?_⟩
 ·rw[qa];exact⟨f,h.2.1⟩
 ·rcases List.mem_cons.1 d with e|e
  ·subst e;exact h2 a c
  ·exact h.2.2 a c b e
theorem Sx{k:Nat->Int}{Y:List Nat}{x p:Nat}(b:Y.Pairwise (RI k))(f:p<=Y.length)(e:p=0∨RI k (Y.getD (p-1) 0) x)(h2:p=Y.length∨RI k x (Y.getD p 0)):(Y.take p++x::Y.drop p).Pairwise (RI k):=by
 refine abE (by rw[iC];exact b) (fun r d=> ?_) (fun l a=> ?_)
 ·obtain⟨i,c,a,rfl⟩:=xt d;rcases h2 with h|h
  ·omega
  ·exact Hd b c a h
 ·obtain⟨i,c,a,rfl⟩:=He a;rcases e with h|h
  ·omega
  ·exact Hc b jO jO h
theorem abF{k:Nat->Int}{X Y:List Nat}(d:X.Pairwise (RI k))(c:Y.Pairwise (RI k))(h s:Nat)(n:s<=X.length)(hh:s<=h)(o:h-s<=Y.length)(m:s=0∨h-s=Y.length∨RI k (X.getD (s-1) 0) (Y.getD (h-s) 0))(l:s=X.length∨s=h∨RI k (Y.getD (h-1-s) 0) (X.getD s 0)):∀u∈X.take s++Y.take (h-s),∀v∈X.drop s++Y.drop (h-s),RI k u v:=by
 intro u hu v hv;rcases List.mem_append.1 hu with hu|hu
 ·obtain⟨i,g,f,rfl⟩:=He hu;rcases List.mem_append.1 hv with hv|hv
  ·obtain⟨j,b,a,rfl⟩:=xt hv;rcases xr d (i:=i) (j:=j) jO a with e|e
   ·exfalso;have:=List.pairwise_iff_getElem.1 d i j jO a jO;rw[au,au,aC jO,aC a]at e;unfold RI at this;simp only[Il]at e;rw[e]at this;omega
   ·exact e
  ·obtain⟨j,b,a,rfl⟩:=xt hv;rcases m with h1|h1|h1
   ·omega
   ·omega
   ·exact Hc d (j:=s-1) jO jO (Hd c b a h1)
 ·obtain⟨i,g,f,rfl⟩:=He hu;rcases List.mem_append.1 hv with hv|hv
  ·obtain⟨j,b,a,rfl⟩:=xt hv;rcases l with h1|h1|h1
   ·omega
   ·omega
   ·exact Hc c (j:=h-1-s) jO jO (Hd d b a h1)
  ·obtain⟨j,b,a,rfl⟩:=xt hv;rcases xr c (i:=i) (j:=j) jO a with e|e
   ·exfalso;have:=List.pairwise_iff_getElem.1 c i j jO a jO;rw[au,au,aC jO,aC a]at e;unfold RI at this;simp only[Il]at e;rw[e]at this;omega
   ·exact e
theorem abG{k:Nat->Int}{Z1 Z2 X Y:List Nat}{h s:Nat}(d:Z1.Perm (X.take s++Y.take (h-s)))(c:Z2.Perm (X.drop s++Y.drop (h-s)))(f:Z1.Pairwise (RI k))(e:Z2.Pairwise (RI k))(g:∀u∈X.take s++Y.take (h-s),∀v∈X.drop s++Y.drop (h-s),RI k u v):(Z1++Z2).Perm (X++Y)∧(Z1++Z2).Pairwise (RI k):=by
 refine⟨(d.append c).trans ?_,oB.2 ⟨f,e,fun a j b i=>g a (d.mem_iff.1 j) b (c.mem_iff.1 i)⟩⟩;have m:X.take s++Y.take (h-s)++(X.drop s++Y.drop (h-s))=X.take s++(Y.take (h-s)++X.drop s)++Y.drop (h-s):=jS
 have l:X++Y=X.take s++(X.drop s++Y.take (h-s))++Y.drop (h-s):=by
  have o:=iC s X;have n:=iC (h-s) Y
  calc X++Y=(X.take s++X.drop s)++(Y.take (h-s)++Y.drop (h-s)):=by rw[o,n]
   _=_:=by simp only[b9]
 rw[m,l];exact((List.perm_append_comm).append_left _).append_right _
theorem qJ(P X Q:List Nat)(i j:Nat)(a:j=P.length+i)(b:i<X.length):(P++X++Q).getD j 0=X.getD i 0:=by subst a;rw[au,au,b9,ou jO,Nat.add_sub_cancel_left,List.getElem?_append_left b]
def BS(k:Nat->Int)(c:Nat)(D:List Nat):Prop:=∀i,((D.drop (i*c)).take c).Pairwise (RI k)∧∀x∈D.take (i*c),∀y∈D.drop (i*c),x<y
theorem BS.nil(k:Nat->Int)(c:Nat):BS k c []:=fun i=>⟨jS,fun x a=>by simp at a⟩
theorem BS.drop{k:Nat->Int}{c:Nat}{D:List Nat}(h:BS k c D)(m:Nat):BS k c (D.drop (m*c)):=by intro i;have a:=h (m+i);rw[ff]at a;rw[List.drop_drop];refine⟨a.1,fun x b y d=>a.2 x ?_ y d⟩;rw[List.take_drop]at b;exact ue b
theorem BS.first{k:Nat->Int}{c:Nat}{D:List Nat}(h:BS k c D):(D.take c).Pairwise (RI k):=by have:=(h 0).1;rw[Nat.zero_mul,dj]at this;exact this
theorem BS.Sz{k:Nat->Int}{c:Nat}{D:List Nat}(h:BS k c D):∀x∈D.take c,∀y∈D.drop c,x<y:=by have:=(h 1).2;rw[ow]at this;exact this
theorem BS.snoc{k:Nat->Int}{c t:Nat}{U Z:List Nat}(h:BS k c U)(b:U.length=t*c)(g:Z.length<=c)(j:Z.Pairwise (RI k))(e:∀x∈U,∀z∈Z,x<z):BS k c (U++Z):=by
 intro i;rcases Nat.lt_trichotomy i t with l|heq|hgt
 ·have d:i*c+c<=U.length:=by rw[b];have:=vJ c (show i+1<=t by omega);rw[ff]at this;omega
  have f:=h i;rw[List.drop_append_of_le_length jO,ag9 (by rw[fO];omega),ag9 jO];refine⟨f.1,fun x a y hy=> ?_⟩;rcases List.mem_append.1 hy with hy|hy
  ·exact f.2 x a y hy
  ·exact e x (lG a) y hy
 ·subst heq;rw[<-b,List.drop_left,List.take_left,fZ g];exact⟨j,e⟩
 ·have d:(U++Z).length<=i*c:=by rw[ay,b];have:=vJ c (show t+1<=i by omega);rw[ff]at this;omega
  rw[List.drop_of_length_le d];exact⟨jS,fun x a y hy=>by simp at hy⟩
theorem BS.all{k:Nat->Int}{c:Nat}{D:List Nat}(h:BS k c D)(a:D.length<=c):D.Pairwise (RI k):=by have:=h.first;rwa[fZ a]at this
def nU(k:Nat->Int)(xs:List Nat)(t:Nat)(U V:List Nat):Prop:=U.length=t*20∧BS k 20 U∧V.Pairwise (fun a b=>a<b)∧(∀x∈U,∀y∈V,x<y)∧(U++V).Perm xs
theorem nU.start(k:Nat->Int){xs:List Nat}(h:xs.Pairwise (fun a b=>a<b)):nU k xs 0 [] xs:=⟨jS,BS.nil k 20,h,fun x c=>by simp at c,ud _⟩
theorem SA{U V Z:List Nat}{n:Nat}(p:Z.Perm (V.take n)):(U++Z++V.drop n).Perm (U++V):=by have h:=((p.append_left U).append_right (V.drop n));rw[b9 U (V.take n),iC]at h;exact h
theorem nU.next{k:Nat->Int}{xs U V Z:List Nat}{t:Nat}(h:nU k xs t U V)(n:20<=V.length)(p:Z.Perm (V.take 20))(s:Z.Pairwise (RI k)):nU k xs (t+1) (U++Z) (V.drop 20):=by
 obtain⟨i,m,l,g,j⟩:=h;have d:Z.length=20:=by rw[p.length_eq,ed];omega
 have f:∀z∈Z,z∈V.take 20:=fun z d=>p.mem_iff.1 d;have c:(V.take 20++V.drop 20).Pairwise (fun a b=>a<b):=by rw[iC];exact l
 rw[oB]at c;refine⟨by rw[ay,i,d,ff],m.snoc i jO s fun x hx z d=>g x hx z (lG (f z d)),c.2.1,fun x hx y e=> ?_,(SA p).trans j⟩;rcases List.mem_append.1 hx with hx|hx
 ·exact g x hx y (ue e)
 ·exact c.2.2 x (f x hx) y e
theorem nU.last{k:Nat->Int}{xs U V Z:List Nat}{t:Nat}(h:nU k xs t U V)(g:V.length<20)(p:Z.Perm V)(s:Z.Pairwise (RI k)):BS k 20 (U++Z)∧(U++Z).Perm xs:=by obtain⟨f,e,i,d,c⟩:=h;exact⟨e.snoc f (by rw[p.length_eq];omega) s fun x b z a=>d x b z (p.mem_iff.1 a),(p.append_left U).trans c⟩
def l9(k:Nat->Int)(xs:List Nat)(C t:Nat)(U V:List Nat):Prop:=U.length=t*(2*C)∧BS k (2*C) U∧BS k C V∧(∀x∈U,∀y∈V,x<y)∧(U++V).Perm xs
theorem l9.start{k:Nat->Int}{xs D:List Nat}{C:Nat}(h:BS k C D)(p:D.Perm xs):l9 k xs C 0 [] D:=⟨jS,BS.nil k _,h,fun x a=>by simp at a,p⟩
theorem SB(V:List Nat)(C:Nat):V.take C++(V.drop C).take C=V.take (2*C):=by rw[Nat.two_mul,List.take_add]
theorem l9.next{k:Nat->Int}{xs U V Z:List Nat}{C t:Nat}(h:l9 k xs C t U V)(j:2*C<=V.length)(p:Z.Perm (V.take C++(V.drop C).take C))(s:Z.Pairwise (RI k)):l9 k xs C (t+1) (U++Z) (V.drop (2*C)):=by
 obtain⟨f,i,e,d,g⟩:=h;rw[SB]at p;have a:Z.length=2*C:=by rw[p.length_eq,ed];omega
 have c:∀z∈Z,z∈V.take (2*C):=fun z a=>p.mem_iff.1 a;refine⟨by rw[ay,f,a,ff,ow],i.snoc f jO s fun x hx z a=>d x hx z (lG (c z a)),e.drop 2,fun x hx y b=> ?_,(SA p).trans g⟩;rcases List.mem_append.1 hx with hx|hx
 ·exact d x hx y (ue b)
 ·exact(e 2).2 x (c x hx) y b
theorem l9.last{k:Nat->Int}{xs U V Z:List Nat}{C t:Nat}(h:l9 k xs C t U V)(g:V.length<2*C)(p:Z.Perm (V.take C++V.drop C))(s:Z.Pairwise (RI k)):BS k (2*C) (U++Z)∧(U++Z).Perm xs:=by obtain⟨f,e,i,d,c⟩:=h;rw[iC]at p;exact⟨e.snoc f (by rw[p.length_eq];omega) s fun x b z a=>d x b z (p.mem_iff.1 a),(p.append_left U).trans c⟩
theorem l9.none{k:Nat->Int}{xs U V:List Nat}{C t:Nat}(h:l9 k xs C t U V)(c:V.length<=C):BS k (2*C) (U++V)∧(U++V).Perm xs:=by obtain⟨i,g,f,e,d⟩:=h;exact⟨g.snoc i jO (f.all c) fun x b z a=>e x b z a,d⟩
end Go.Proofs.YtcehhgppfahbkaaGreatDoor
namespace Go.Proofs.YtcehhgppfahbkaaGreatDoor
open Go.RowKit Ev Hu
theorem abH{d:Type}{rec:FuncId->Array Value->M Value}(g:FuncId)(e:kG ad g=true)(c:Value)(a b:Value)(k:Value->M d):fm ad rec (.func (.func g) #[] #[c]) [a,b] k=aj rec g [a,b,c] k:=by unfold fm;show aN (some _) _=_;rw[rZ];simp only[e];exact(j3 _ _).symm
theorem BX{d:Type}{rec:FuncId->Array Value->M Value}(c:Value)(a b:Value)(k:Value->M d):fm ad rec (.func (.func 249) #[] #[c]) [a,b] k=aj rec 249 [a,b,c] k:=abH _ (by kernel_rfl) c a b k
theorem SC(lf d:Nat)(h:H)(n:Nat)(x:Int):aa (fun _=>False) n (ah ad gt lf (d+1) 252 #[jI x]) h n fun v h' n'=>v= .bool false∧h'=h∧n'=n:=by rw[aF (fun _=>R2) rfl];refine aa.aD ?_;unfold G2;have e:(x !=x)=false:=jS;try simp(disch:=first|omega|assumption) only[Nat.reduceAdd,Nat.reduceLT,RZ,e]
theorem abI(lf d:Nat)(h:H)(n:Nat)(x y:Int):aa (fun _=>False) n (ah ad gt lf (d+2) 250 #[jI x,jI y]) h n fun v h' n'=>v=jI (xq x y)∧h'=h∧n'=n:=by
 rw[aF (fun _=>RU) rfl];refine aa.aD ?_;unfold G0;refine bU (SC _ _ _ _ _) (ag _) (fun _ _ h=>h.elim) ?_;refine bU (SC _ _ _ _ _) (ag _) (fun _ _ h=>h.elim) ?_;unfold xq;try simp(disch:=first|omega|assumption) only[Nat.reduceAdd,Nat.reduceLT,RZ]
 by_cases a:x<y
 ·simp[a]
 ·by_cases b:y<x
  ·simp[a,b]
  ·simp[a,b]
structure iq (h:H) (n g pw:Nat) (ws:List Int):Prop where
 ex:∃wb off cap e1 o1 e2 o2 cs,h.get pw=some ⟨e1,o1,[.slice (some ⟨wb,off,none⟩) ws.length cap]⟩∧h.get wb=some ⟨e2,o2,cs⟩∧wb<n∧wb≠g∧∀i,i<ws.length->cs[off+i]? =some (jI (ws.getD i 0))
 pn:pw<n
 pg:pw≠g
theorem iq.keeps{h h':H}{n g pw:Nat}{ws:List Int}(e:iq h n g pw ws)(k:∀b,b≠g->h'.get b=h.get b):iq h' n g pw ws:=by obtain⟨⟨c,a,cap,s,j,r,i,t,q,p,o,f,m⟩,l,d⟩:=e;exact⟨⟨c,a,cap,s,j,r,i,t,by rw[k pw d];exact q,by rw[k c f];exact p,o,f,m⟩,l,d⟩
theorem BZ(lf d a b:Nat)(h:H)(n g pw:Nat)(ws:List Int)(k:iq h n g pw ws)(j:a<ws.length)(i:b<ws.length):aa (fun _=>False) n (ah ad gt lf (d+3) 249 #[jI (a:Nat),jI (b:Nat),jP pw 0]) h n fun v h' n'=>v=jI (xq (aS ws a) (aS ws b))∧h'=h∧n'=n:=by
 obtain⟨⟨q,c,cap,z,s,y,r,f,m,l,x,w,e⟩,u,t⟩:=k;have p:f[c+a]? =some (jI (aS ws a)):=e a j;have o:f[c+b]? =some (jI (aS ws b)):=e b i;rw[aF (fun _=>RS) rfl];refine aa.aD ?_;unfold GZ;try simp(disch:=first|omega|assumption) only[Nat.reduceAdd,Nat.reduceLT,RZ,m,l,p,o]
 refine bU (abI _ _ _ _ _ _) (ag _) (fun _ _ h=>h.elim) ?_;try simp(disch:=first|omega|assumption) only[Nat.reduceAdd,Nat.reduceLT,RZ]
theorem kf{xs:List Nat}{i:Nat}(h:i<xs.length):(bP xs)[i]? =some (jI (xs.getD i 0:Nat)):=by unfold bP;simp[h]
theorem pG(xs:List Nat):(bP xs).length=xs.length:=by unfold bP;simp
theorem B1(xs:List Nat)(i v:Nat):(bP xs).set i (jI (v:Nat))=bP (xs.set i v):=by unfold bP;rw[aho]
def At(h a:H)(g:Nat)(xs:List Nat):Prop:=a.get g=some ⟨3,true,bP xs⟩∧∀b,b≠g->a.get b=h.get b
theorem At.set{h c:H}{g:Nat}{xs ys:List Nat}(a:At h c g xs){e:TypeId}{o:Bool}(i:e=3)(f:o=true):At h (c.set g (some ⟨e,o,bP ys⟩)) g ys:=by subst i f;exact⟨get_eq _ _ _,fun b d=>by rw[ak _ _ d];exact a.2 b d⟩
set_option maxHeartbeats 1000000 in
theorem abJ (lf d g n cap pw:Nat) (ws:List Int) (h:H) (pre post Y:List Nat) (x:Nat) (D:List Nat) (N:Nat) (B:(pre++(D++x::Y)++post).length=N) (T:N<=1000000) (U:iq h n g pw ws) (hg:g<n) (O:x<ws.length) (X:∀z∈D,z<ws.length) {W:Nat->Prop} {n0:Nat} (q:n0<=n) (A:n0<=g∨W g) {Q:Value->H->Nat->Prop} (k:V->V->V->V->V->M V) (u x8 p:Value)
 (C:∀L R hr,L++R=D->(∀r∈R,aS ws x<aS ws r)->(L=[]∨¬aS ws x<aS ws (L.getD (L.length-1) 0))->At h hr g (pre++(L++x::R++Y)++post)->aa W n0 (k (.slice (some ⟨g,0,none⟩) N cap) (jI (pre.length:Nat)) u (.func (.func 249) #[] #[jP pw 0]) x8) hr n Q):
 ∀(m:Nat) (L R:List Nat) (c:Nat) (hr:H),L.length=m->m<c->L++R=D->(∀r∈R,aS ws x<aS ws r)->At h hr g (pre++(L++x::R++Y)++post)->
  aa W n0 (tj lf (ah ad gt lf (d+3)) c k (.slice (some ⟨g,0,none⟩) N cap) (jI (pre.length:Nat)) u (.func (.func 249) #[] #[jP pw 0]) x8 (jI ((pre.length+m:Nat):Int)) p) hr n Q:=by
 intro m
 induction m with
 |zero=>
  intro L R c hr j s b o l;obtain⟨c,rfl⟩:∃f,c=f+1:=⟨c-1,jO⟩;have:L=[]:=List.length_eq_zero_iff.1 j;subst this;rw[tj];try simp(disch:=first|omega|assumption) only[Nat.reduceAdd,Nat.reduceLT,RZ,cb]
  exact C [] R hr b o (.inl rfl) l
 |succ m J=>
  intro L R c hr j s b o l;obtain⟨c,rfl⟩:∃f,c=f+1:=⟨c-1,jO⟩;obtain⟨a,y,rfl⟩:∃a y,L=a++[y]:=⟨L.dropLast,L.getLast (by intro e;rw[e]at j;simp at j),(List.dropLast_concat_getLast _).symm⟩;have t:a.length=m:=by simp at j;exact j
  have w:pre.length+(m+1)<N:=by rw[<-B,<-b];simp;omega
  have e1:((pre.length:Nat):Int)<((pre.length+(m+1):Nat):Int):=jO;have e2:pre++(a++[y]++x::R++Y)++post=(pre++a)++y::(x::R++Y++post):=jS;have G:pre++(a++[y]++x::R++Y)++post=(pre++a++[y])++x::(R++Y++post):=jS;have P:(pre++(a++[y]++x::R++Y)++post).length=N:=by rw[<-B,<-b];simp;omega
  have F:(bP (pre++(a++[y]++x::R++Y)++post))[pre.length+(m+1)]? =some (jI (x:Nat)):=by rw[kf jO,G,nT _ _ _ _ (by simp;omega)]
  have E:(bP (pre++(a++[y]++x::R++Y)++post))[pre.length+m]? =some (jI (y:Nat)):=by rw[kf jO,e2,nT _ _ _ _ (by simp;omega)]
  have K:y<ws.length:=X y (by rw[<-b];simp);have v:IntKind.i64.wrap (((pre.length+(m+1):Nat):Int)-1)=((pre.length+m:Nat):Int):=by rw[aO jO jO];omega
  have I:=l.1
  have hC:((pre++(a++[y]++x::R++Y)++post).set (pre.length+(m+1)) y).set (pre.length+m) x=pre++(a++x::(y::R)++Y)++post:=by rw[G,q7 _ _ _ _ _ (by simp;omega)];have:pre++a++[y]++y::(R++Y++post)=(pre++a)++y::(y::(R++Y++post)):=jS;rw[this,q7 _ _ _ _ _ (by simp;omega)];simp
  rw[tj];try simp(disch:=first|omega|assumption) only[Nat.reduceAdd,Nat.reduceLT,RZ,e1,I,F,E,v,BX]
  refine bU (BZ lf d x y hr n g pw ws (U.keeps l.2) O K) q (fun _ _ h=>h.elim) ?_;have Z:=BW (aS ws x) (aS ws y);try simp(disch:=first|omega|assumption) only[Nat.reduceAdd,Nat.reduceLT,RZ,Z]
  by_cases i:aS ws x<aS ws y
  ·try simp(disch:=first|omega|assumption) only[Nat.reduceAdd,Nat.reduceLT,RZ,i,I,F,E,v,pG,B1,oC,hC]
   refine⟨jO,A,jO,A, ?_⟩
   exact J a (y::R) c _ t jO (by rw[<-b];simp) (fun r hr=>by
    rcases List.mem_cons.1 hr with rfl|hr
    ·exact i
    ·exact o r hr) ((l.set rfl rfl).set rfl rfl)
  ·try simp(disch:=first|omega|assumption) only[Nat.reduceAdd,Nat.reduceLT,RZ,i]
   exact C (a++[y]) R hr b o (.inr (by simpa using i)) l
theorem abK (lf d g n cap pw:Nat) (ws:List Int) (h:H) (pre post c:List Nat) (N:Nat) (u1:2000000<=lf) (T:(pre++c++post).length=N) (J:N<=1000000) (hE:iq h n g pw ws) (hg:g<n) (A:∀z∈c,z<ws.length) (F:c.Pairwise (fun a b=>aS ws a=aS ws b->a<b)) {W:Nat->Prop} {n0:Nat} (I:n0<=n) (hW:n0<=g∨W g) {Q:Value->H->Nat->Prop} (k:M V)
 (hK:∀D r,D.Perm c->D.Pairwise (RI (aS ws))->At h r g (pre++D++post)->aa W n0 k r n Q):
 ∀(Y D w:List Nat) (o:Nat) (r:H),Y.length<o->c=w++Y->D.Perm w->D.Pairwise (RI (aS ws))->At h r g (pre++(D++Y)++post)->
  aa W n0 (nQ lf (ah ad gt lf (d+3)) o k (.slice (some ⟨g,0,none⟩) N cap) (jI (pre.length:Nat)) (jI ((pre.length+c.length:Nat):Int)) (.func (.func 249) #[] #[jP pw 0]) (jI ((pre.length+D.length:Nat):Int))) r n Q:=by
 intro Y
 induction Y with
 |nil=>
  intro D w o r v p u s C;obtain⟨o,rfl⟩:∃f,o=f+1:=⟨o-1,by simp at v;omega⟩;rw[bV]at p C;subst p;rw[u.length_eq];rw[nQ];try simp(disch:=first|omega|assumption) only[Nat.reduceAdd,Nat.reduceLT,RZ,cb]
  exact hK D r u s C
 |cons x Y X=>
  intro D w o r v p u s C;obtain⟨o,rfl⟩:∃f,o=f+1:=⟨o-1,jO⟩;have u2:=u.length_eq;have u0:c.length=D.length+1+Y.length:=by rw[p];simp;omega
  have u3:pre.length+c.length+post.length=N:=by rw[<-T];simp;omega
  have e1:((pre.length+D.length:Nat):Int)<((pre.length+c.length:Nat):Int):=jO;have Z:x<ws.length:=A x (by rw[p];simp);have hD:∀z∈D,z<ws.length:=fun z E=>A z (by rw[p];simp[u.mem_iff.1 E])
  have K:∀z∈D,aS ws z=aS ws x->z<x:=by intro z E;have U:=F;rw[p,oB]at U;exact U.2.2 z (u.mem_iff.1 E) x jS
  rw[nQ];try simp(disch:=first|omega|assumption) only[Nat.reduceAdd,Nat.reduceLT,RZ,e1]
  refine abJ lf d g n cap pw ws h pre post Y x D N (by rw[<-T,p];simp;omega) J hE hg Z hD I hW _ _ _ _ (fun L R G m hR B O=> ?_) D.length D [] lf r rfl jO jS jS (by simpa using C)
  (try unfold abd);(try unfold BO);(try dsimp only)
  try simp(disch:=first|omega|assumption) only[Nat.reduceAdd,Nat.reduceLT,RZ]
  have t:(L++x::R).length=D.length+1:=by rw[<-m];simp;omega
  have e3:((pre.length+D.length+1:Nat):Int)=((pre.length+(L++x::R).length:Nat):Int):=by rw[t];omega
  have e4:((pre.length+D.length:Nat):Int)+1=((pre.length+(L++x::R).length:Nat):Int):=by rw[t];omega
  first|rw[e3]|rw[e4]
  refine X (L++x::R) (w++[x]) o G (by simp at v;omega) (by rw[p];simp) ?_ ?_ O
  ·refine(List.perm_middle.trans ?_:(L++x::R).Perm (w++[x]));rw[m];exact(u.cons x).trans (ahq x w).symm
  ·refine abC (by rw[m];exact s) hR (fun l y=> ?_) (fun l y=>K l (by rw[<-m];simp[y]));rcases B with h|h2
   ·rw[h]at y;simp at y
   ·have h4:(L++R).Pairwise (RI (aS ws)):=by rw[m];exact s
    obtain⟨i,P,e⟩:=List.mem_iff_getElem.1 y;rcases xr (oB.1 h4).1 (i:=i) (j:=L.length-1) jO jO with q|q
    ·have:l=L.getD (L.length-1) 0:=by rw[<-q,<-e];simp[P]
     rw[this];omega
    ·have:L.getD i 0=l:=by rw[<-e];simp[P]
     rw[this]at q;unfold RI at q;omega
theorem abL(lf d g n cap pw:Nat)(ws:List Int)(h:H)(pre c post:List Nat)(N:Nat)(j:2000000<=lf)(m:(pre++c++post).length=N)(l:N<=1000000)(A:1<=c.length)(w:iq h n g pw ws)(t:g<n)(hh:h.get g=some ⟨3,true,bP (pre++c++post)⟩)(k:∀z∈c,z<ws.length)(i:c.Pairwise (fun a b=>a<b))(a b:Int)(u:a=(pre.length:Nat))(o:b=((pre.length+c.length:Nat):Int)):
 aa (fun x=>x=g) n (ah ad gt lf (d+4) 253 #[.slice (some ⟨g,0,none⟩) N cap,jI a,jI b,.func (.func 249) #[] #[jP pw 0]]) h n fun v h' n'=>n'=n∧∃D,D.Perm c∧D.Pairwise (RI (aS ws))∧At h h' g (pre++D++post):=by
 subst u o;rw[aF (fun _=>G3) rfl];refine aa.aD ?_;unfold xj;have r:pre.length<=N:=by rw[<-m];simp
 try simp(disch:=first|omega|assumption) only[Nat.reduceAdd,Nat.reduceLT,RZ]
 obtain⟨e,f,rfl⟩:∃e f,c=e::f:=by
  cases c with
  |nil=>simp at A
  |cons e f=>exact⟨e,f,rfl⟩
 rw[show((pre.length:Nat):Int)+1=((pre.length+[e].length:Nat):Int) by simp];refine abK (W:=fun x=>x=g) lf d g n cap pw ws h pre post (e::f) N j m l w t k (i.imp (S:=fun a b=>aS ws a=aS ws b->a<b) fun{_ _} q _=>q) (ag _) (.inr rfl) _ (fun D B s p y=> ?_) f [e] [e] lf h (by simp at m;omega) rfl (ud _) (List.pairwise_singleton _ _) ⟨by simpa using hh,fun b o=>rfl⟩
 (try unfold xi);(try dsimp only)
 try simp(disch:=first|omega|assumption) only[Nat.reduceAdd,Nat.reduceLT,RZ]
 exact⟨D,s,p,y⟩
theorem At.trans{h e h2:H}{g:Nat}{xs ys:List Nat}(a:At h e g xs)(b:At e h2 g ys):At h h2 g ys:=⟨b.1,fun c d=>(b.2 c d).trans (a.2 c d)⟩
theorem swA (lf d g n cap:Nat) (h:H) (P Z Q:List Nat) (U V:List Nat) (N:Nat) (F:(P++U++Z++V++Q).length=N) (E:N<=1000000) (T:g<n) {W:Nat->Prop} {n0:Nat} (s:n0<=g∨W g) {R:Value->H->Nat->Prop} (k:(M Value))
 (G:∀j,At h j g (P++V++Z++U++Q)->aa W n0 (k) j n R):
 ∀(c b a e:List Nat) (i:Nat) (j:H),c.length<i->c.length=b.length->a.length=e.length->a++c=U->e++b=V->At h j g (P++e++c++Z++a++b++Q)->
  aa W n0 (tq lf (ah ad gt lf d) i k (.slice (some ⟨g,0,none⟩) N cap) (jI (P.length:Nat)) (jI ((P.length+U.length+Z.length:Nat):Int)) (jI (U.length:Nat)) (jI (a.length:Nat))) j n R:=by
 intro c
 induction c with
 |nil=>
  intro b a e i j l q t o m p;obtain⟨i,rfl⟩:∃f,i=f+1:=⟨i-1,by simp at l;omega⟩;have:b=[]:=List.length_eq_zero_iff.1 q.symm;subst this;rw[bV]at o m;subst o m;rw[tq];try simp(disch:=first|omega|assumption) only[Nat.reduceAdd,Nat.reduceLT,RZ,cb]
  exact G j (by simpa using p)
 |cons u c D=>
  intro b a e i j l q t o m p;obtain⟨i,rfl⟩:∃f,i=f+1:=⟨i-1,jO⟩
  obtain⟨v,b,rfl⟩:∃v V3,b=v::V3:=by
   cases b with
   |nil=>simp at q
   |cons x Y=>exact⟨x,Y,rfl⟩
  have C:=congrArg qb o;have B:=congrArg qb m;simp only[ay,bL]at C B q F l;have L:((a.length:Nat):Int)<((U.length:Nat):Int):=jO;have r:P++e++u::c++Z++a++v::b++Q=(P++e)++u::(c++Z++a++v::b++Q):=jS;have A:P++e++u::c++Z++a++v::b++Q=(P++e++u::c++Z++a)++v::(b++Q):=jS;have z:(P++e)++v::(c++Z++a++v::b++Q)=(P++e++v::c++Z++a)++v::(b++Q):=jS;have O:(P++e++u::c++Z++a++v::b++Q).length=N:=by simp only[ay,bL];omega
  have y:IntKind.i64.wrap (((P.length:Nat):Int)+((a.length:Nat):Int))=((P.length+a.length:Nat):Int):=by rw[aO jO jO];omega
  have w:IntKind.i64.wrap (((P.length+U.length+Z.length:Nat):Int)+((a.length:Nat):Int))=((P.length+U.length+Z.length+a.length:Nat):Int):=by rw[aO jO jO];omega
  have J:(bP (P++e++u::c++Z++a++v::b++Q))[P.length+a.length]? =some (jI (u:Nat)):=by rw[kf jO,r,nT _ _ _ _ (by simp;omega)]
  have I:(bP (P++e++u::c++Z++a++v::b++Q))[P.length+U.length+Z.length+a.length]? =some (jI (v:Nat)):=by rw[kf jO,A,nT _ _ _ _ (by simp;omega)]
  have hC:((P++e++u::c++Z++a++v::b++Q).set (P.length+a.length) v).set (P.length+U.length+Z.length+a.length) u=P++(e++[v])++c++Z++(a++[u])++b++Q:=by rw[r,q7 _ _ _ _ _ (by simp;omega),z,q7 _ _ _ _ _ (by simp;omega)];simp
  have K:=p.1;rw[tq];try simp(disch:=first|omega|assumption) only[Nat.reduceAdd,Nat.reduceLT,RZ,L,K,J,I,y,w,pG,B1,oC,hC]
  refine⟨jO,s,jO,s, ?_⟩;have:=D b (a++[u]) (e++[v]) i _ jO jO (by simp[t]) (by rw[<-o];simp) (by rw[<-m];simp) ((p.set (ys:=(P++e++u::c++Z++a++v::b++Q).set (P.length+a.length) v) rfl rfl).set (ys:=P++(e++[v])++c++Z++(a++[u])++b++Q) rfl rfl);rw[show(a++[u]).length=a.length+1 by simp]at this;exact this
theorem Hf(lf d g n cap:Nat)(h:H)(P U Z V Q:List Nat)(N:Nat)(f:Value)(a b c:Int)(l:2000000<=lf)(k:(P++U++Z++V++Q).length=N)(i:N<=1000000)(e:U.length=V.length)(m:g<n)(p:a=(P.length:Nat))(j:b=((P.length+U.length+Z.length:Nat):Int))(o:c=(U.length:Nat))(hh:h.get g=some ⟨3,true,bP (P++U++Z++V++Q)⟩):
 aa (fun x=>x=g) n (ah ad gt lf (d+1) 256 #[.slice (some ⟨g,0,none⟩) N cap,jI a,jI b,jI c,f]) h n fun v h' n'=>n'=n∧At h h' g (P++V++Z++U++Q):=by
 subst p j o;rw[aF (fun _=>Sk) rfl];refine aa.aD ?_;unfold BR;have s:U.length<=N:=by rw[<-k];simp;omega
 refine swA (W:=fun x=>x=g) lf d g n cap h P Z Q U V N k i m (.inr rfl) _ (fun r q=> ?_) U V [] [] lf h jO e rfl rfl rfl ⟨by simpa using hh,fun b j=>rfl⟩
 (try unfold G9);(try dsimp only)
 try simp(disch:=first|omega|assumption) only[Nat.reduceAdd,Nat.reduceLT,RZ]
 exact q
theorem roA (lf d g n cap:Nat) (h:H) (f:Value) (T:List Nat) (N i:Nat) (L x3:Value) (s:2000000<=lf) (hT:T.length=N) (w:N<=1000000) (J:g<n) {W:Nat->Prop} {n0:Nat} (r:n0<=n) (K:n0<=g∨W g) {R:Value->H->Nat->Prop} (k:(Value->Value->Value->Value->M Value))
 (hK:∀c (I:Nat) P U V Q,I=U.length->U.length=V.length->P.length+I=i->P++V++U++Q=T->At h c g (P++U++V++Q)->aa W n0 (k (.slice (some ⟨g,0,none⟩) N cap) (jI (i:Nat)) f (jI (I:Nat))) c n R):
 ∀(m:Nat) (P U V Q:List Nat) (e:Nat) (c:H),U.length+V.length<=m->m<e->1<=U.length->1<=V.length->P.length+U.length=i->P++V++U++Q=T->At h c g (P++U++V++Q)->
  aa W n0 (tp lf (ah ad gt lf (d+1)) e k (.slice (some ⟨g,0,none⟩) N cap) L (jI (i:Nat)) x3 f (jI (U.length:Nat)) (jI (V.length:Nat))) c n R:=by
 intro m
 induction m with
 |zero=>intro P U V Q e c z _ h2;omega
 |succ m G=>
  intro P U V Q e c hm u0 hU hV hP y x;obtain⟨e,rfl⟩:∃f,e=f+1:=⟨e-1,jO⟩;have F:=congrArg qb y;simp only[ay]at F;rw[hT]at F;rw[tp];by_cases j:U.length=V.length
  ·have A:(((U.length:Nat):Int) !=((V.length:Nat):Int))=false:=by rw[j];simp
   try simp(disch:=first|omega|assumption) only[Nat.reduceAdd,Nat.reduceLT,RZ,A]
   try rw[<-j]
   exact hK c _ P U V Q rfl j hP y x
  ·have A:(((U.length:Nat):Int) !=((V.length:Nat):Int))=true:=by simp;omega
   by_cases Z:V.length<U.length
   ·have E:((V.length:Nat):Int)<((U.length:Nat):Int):=jO;have p:IntKind.i64.wrap (((U.length:Nat):Int)-((V.length:Nat):Int))=((U.length-V.length:Nat):Int):=by rw[aO jO jO];omega
    have B:IntKind.i64.wrap (((i:Nat):Int)-((U.length:Nat):Int))=((P.length:Nat):Int):=by rw[aO jO jO];omega
    try simp(disch:=first|omega|assumption) only[Nat.reduceAdd,Nat.reduceLT,RZ,A,E,p,B]
    have a:(U.take V.length).length=V.length:=by rw[ed];omega
    have q:P++U++V++Q=P++U.take V.length++U.drop V.length++V++Q:=by rw[b9 P (U.take _),iC]
    refine aJ aE (Hf lf d g n cap c P (U.take V.length) (U.drop V.length) V Q N f _ _ _ s (by rw[<-q];simp;omega) w a J rfl (by rw[a,fO];omega) (by rw[a]) (by rw[<-q];exact x.1)) r (fun b _ D=>D▸K) fun v z Y _ _ C=> ?_;obtain⟨rfl,o⟩:=C;try simp(disch:=first|omega|assumption) only[Nat.reduceAdd,Nat.reduceLT,RZ,p]
    have l:=x.trans o;have:=G (P++V) (U.drop V.length) (U.take V.length) Q e z (by rw[a,fO];omega) jO (by rw[fO];omega) jO (by rw[ay,fO];omega) (by rw[<-y];simp) l;rw[a,fO]at this;exact this
   ·have E:¬((V.length:Nat):Int)<((U.length:Nat):Int):=jO;have p:IntKind.i64.wrap (((V.length:Nat):Int)-((U.length:Nat):Int))=((V.length-U.length:Nat):Int):=by rw[aO jO jO];omega
    have B:IntKind.i64.wrap (((i:Nat):Int)-((U.length:Nat):Int))=((P.length:Nat):Int):=by rw[aO jO jO];omega
    have X:IntKind.i64.wrap (((i:Nat):Int)+((V.length:Nat):Int))=((i+V.length:Nat):Int):=by rw[aO jO jO];omega
    have O:IntKind.i64.wrap (((i+V.length:Nat):Int)-((U.length:Nat):Int))=((P.length+V.length:Nat):Int):=by rw[aO jO jO];omega
    try simp(disch:=first|omega|assumption) only[Nat.reduceAdd,Nat.reduceLT,RZ,A,E,p,B,X,O]
    have u:(V.drop (V.length-U.length)).length=U.length:=by rw[fO];omega
    have t:(V.take (V.length-U.length)).length=V.length-U.length:=by rw[ed];omega
    have q:P++U++V++Q=P++U++V.take (V.length-U.length)++V.drop (V.length-U.length)++Q:=by rw[b9 (P++U) (V.take _),iC]
    refine aJ aE (Hf lf d g n cap c P U (V.take (V.length-U.length)) (V.drop (V.length-U.length)) Q N f _ _ _ s (by rw[<-q];simp;omega) w u.symm J rfl (by rw[t];omega) rfl (by rw[<-q];exact x.1)) r (fun b _ D=>D▸K) fun v z Y _ _ C=> ?_;obtain⟨rfl,o⟩:=C;try simp(disch:=first|omega|assumption) only[Nat.reduceAdd,Nat.reduceLT,RZ,p]
    have l:=x.trans o;have:=G P (V.drop (V.length-U.length)) (V.take (V.length-U.length)) (U++Q) e z jO jO jO jO jO (by rw[<-y];rw[<-b9,b9 P,iC]) (by rw[<-b9];exact l);rw[u,t]at this;exact this
theorem abM(lf d g n cap:Nat)(h:H)(P X Y Q:List Nat)(N:Nat)(f:Value)(a m b:Int)(B:3000000<=lf)(k:(P++X++Y++Q).length=N)(c:N<=1000000)(E:1<=X.length)(D:1<=Y.length)(l:g<n)(C:a=(P.length:Nat))(A:m=((P.length+X.length:Nat):Int))(i:b=((P.length+X.length+Y.length:Nat):Int))(hh:h.get g=some ⟨3,true,bP (P++X++Y++Q)⟩):
 aa (fun x=>x=g) n (ah ad gt lf (d+2) 255 #[.slice (some ⟨g,0,none⟩) N cap,jI a,jI m,jI b,f]) h n fun v h' n'=>n'=n∧At h h' g (P++Y++X++Q):=by
 subst C A i;rw[aF (fun _=>Sh) rfl];refine aa.aD ?_;unfold BQ;have w:=k;simp only[ay]at w;have t:IntKind.i64.wrap (((P.length+X.length:Nat):Int)-((P.length:Nat):Int))=((X.length:Nat):Int):=by rw[aO jO jO];omega
 have s:IntKind.i64.wrap (((P.length+X.length+Y.length:Nat):Int)-((P.length+X.length:Nat):Int))=((Y.length:Nat):Int):=by rw[aO jO jO];omega
 try simp(disch:=first|omega|assumption) only[Nat.reduceAdd,Nat.reduceLT,RZ,t,s]
 refine roA (W:=fun x=>x=g) lf d g n cap h f (P++Y++X++Q) N (P.length+X.length) _ _ jO (by rw[<-k];simp;omega) c l (ag _) (.inr rfl) _ (fun y I q U V Q1 F j J o p=> ?_) _ P X Y Q lf h (ag _) jO E D rfl rfl ⟨hh,fun b i=>rfl⟩
 (try unfold G8);(try dsimp only)
 have u:=congrArg qb o;simp only[ay]at u;have r:IntKind.i64.wrap (((P.length+X.length:Nat):Int)-((I:Nat):Int))=((q.length:Nat):Int):=by rw[aO jO jO];omega
 try simp(disch:=first|omega|assumption) only[Nat.reduceAdd,Nat.reduceLT,RZ,r]
 refine aJ aE (Hf lf d g n cap y q U [] V Q1 N f _ _ _ jO (by rw[<-k];simp;omega) c j l rfl (by simp;omega) (by rw[F]) (by rw[bV];exact p.1)) (ag _) (fun b _ i=> .inr i) fun v K G _ _ z=> ?_;obtain⟨rfl,e⟩:=z;try simp(disch:=first|omega|assumption) only[Nat.reduceAdd,Nat.reduceLT,RZ]
 rw[bV,o]at e;exact p.trans e
theorem wrap_u64{x:Int}(a:0<=x)(b:x<=9223372036854775807):IntKind.u64.wrap x=x:=by unfold IntKind.wrap;have:(2:Int)^IntKind.u64.bits=18446744073709551616:=jD;simp only[show IntKind.u64.signed=false from rfl,Bool.false_eq_true,false_and,if_false,this];exact Int.emod_eq_of_lt a jO
theorem vk(x:Int):x.fdiv (2^min 1 IntKind.u64.bits)=x/2:=by rw[show min 1 IntKind.u64.bits=1 from rfl,Int.pow_succ,Int.pow_zero,Int.one_mul,Int.fdiv_eq_ediv_of_nonneg _ jO]
theorem xu(x:Int):x.fdiv (2^min (Int.toNat 1) IntKind.u64.bits)=x/2:=vk x
theorem abN (lf d g n cap pw:Nat) (ws:List Int) (h:H) (P Y Q:List Nat) (x:Nat) (N:Nat) (L:(P++x::Y++Q).length=N) (K:N<=1000000) (O:iq h n g pw ws) (hg:g<n) (hh:h.get g=some ⟨3,true,bP (P++x::Y++Q)⟩) (D:x<ws.length) (J:∀z∈Y,z<ws.length) {W:Nat->Prop} {n0:Nat} (s:n0<=n) {R:Value->H->Nat->Prop} (k:(Value->Value->Value->Value->Value->Value->Value->Value->Value->M Value)) (u x3 b:Value)
 (w:∀p o,p<=Y.length->(p=0∨aS ws (Y.getD (p-1) 0)<aS ws x)->(p=Y.length∨¬aS ws (Y.getD p 0)<aS ws x)->aa W n0 (k (.slice (some ⟨g,0,none⟩) N cap) (jI (P.length:Nat)) u x3 (.func (.func 249) #[] #[jP pw 0]) (jI ((P.length+1+p:Nat):Int)) (jI ((P.length+1+p:Nat):Int)) b o) h n R):
 ∀(m p q a:Nat),q-p<=m->m<a->p<=q->q<=Y.length->(p=0∨aS ws (Y.getD (p-1) 0)<aS ws x)->(q=Y.length∨¬aS ws (Y.getD q 0)<aS ws x)->
  aa W n0 (qW lf (ah ad gt lf (d+3)) a k (.slice (some ⟨g,0,none⟩) N cap) (jI (P.length:Nat)) u x3 (.func (.func 249) #[] #[jP pw 0]) (jI ((P.length+1+p:Nat):Int)) (jI ((P.length+1+q:Nat):Int)) b) h n R:=by
 have B:=L;simp only[ay,bL]at B;intro m
 induction m with
 |zero=>
  intro p q a E t r e l j;obtain⟨a,rfl⟩:∃f,a=f+1:=⟨a-1,jO⟩;obtain rfl:p=q:=jO;rw[qW];try simp(disch:=first|omega|assumption) only[Nat.reduceAdd,Nat.reduceLT,RZ,cb]
  exact w p _ e l j
 |succ m v=>
  intro p q a E t r e l j;obtain⟨a,rfl⟩:∃f,a=f+1:=⟨a-1,jO⟩;rw[qW];by_cases F:p<q
  ·obtain⟨c,hc⟩:∃c,(P.length+1+p+(P.length+1+q))/2=P.length+1+c:=⟨(p+q)/2,jO⟩;have I:p<=c:=jO;have G:c<q:=jO;have e1:((P.length+1+p:Nat):Int)<((P.length+1+q:Nat):Int):=jO;have Z:(((P.length+1+p:Nat):Int)+((P.length+1+q:Nat):Int))/2=((P.length+1+c:Nat):Int):=jO;have C:Y.getD c 0<ws.length:=J _ (by rw[au,aC jO];exact cu _)
   have U:(bP (P++x::Y++Q))[P.length+1+c]? =some (jI (Y.getD c 0:Nat)):=by rw[kf jO,show P++x::Y++Q=(P++[x])++Y++Q by simp,qJ _ _ _ c _ jS jO]
   have T:(bP (P++x::Y++Q))[P.length]? =some (jI (x:Nat)):=by rw[kf jO,show P++x::Y++Q=P++x::(Y++Q) by simp,nT _ _ _ _ rfl]
   try simp(disch:=first|omega|assumption) only[Nat.reduceAdd,Nat.reduceLT,RZ,e1,wrap_u64,vk,xu,Z,hh,U,T,BX]
   refine bU (BZ lf d _ x h n g pw ws O C D) s (fun _ _ h=>h.elim) ?_;have X:=BW (aS ws (Y.getD c 0)) (aS ws x);try simp(disch:=first|omega|assumption) only[Nat.reduceAdd,Nat.reduceLT,RZ,X]
   by_cases i:aS ws (Y.getD c 0)<aS ws x
   ·have A:IntKind.i64.wrap (((P.length+1+c:Nat):Int)+1)=((P.length+1+(c+1):Nat):Int):=by rw[aO jO jO];omega
    try simp(disch:=first|omega|assumption) only[Nat.reduceAdd,Nat.reduceLT,RZ,i,A]
    have y:((P.length+1+c:Nat):Int)+1=((P.length+1+(c+1):Nat):Int):=jO;try rw[y]
    exact v (c+1) q a jO jO jO e (.inr (by simpa using i)) j
   ·try simp(disch:=first|omega|assumption) only[Nat.reduceAdd,Nat.reduceLT,RZ,i]
    exact v p c a jO jO jO jO l (.inr i)
  ·obtain rfl:p=q:=jO;try simp(disch:=first|omega|assumption) only[Nat.reduceAdd,Nat.reduceLT,RZ,cb]
   exact w p _ e l j
theorem abO (lf d g n cap:Nat) (h:H) (P Y Q:List Nat) (x p:Nat) (N:Nat) (I:(P++x::Y++Q).length=N) (G:N<=1000000) (U:p<=Y.length) (Z:g<n) {W:Nat->Prop} {n0:Nat} (r:n0<=g∨W g) {R:Value->H->Nat->Prop} (k:(M Value)) (v u x3 x4 x11 j i:Value)
 (s:∀b,At h b g (P++(Y.take p++x::Y.drop p)++Q)->aa W n0 (k) b n R):
 ∀(m t a:Nat) (b:H),p-t<=m->m<a->t<=p->At h b g (P++(Y.take t++x::Y.drop t)++Q)->
  aa W n0 (tk lf (ah ad gt lf d) a k (.slice (some ⟨g,0,none⟩) N cap) v u x3 x4 (jI ((P.length+1+p:Nat):Int)) x11 (jI ((P.length+t:Nat):Int)) j i) b n R:=by
 have A:=I;simp only[ay,bL]at A;have l:IntKind.i64.wrap (((P.length+1+p:Nat):Int)-1)=((P.length+p:Nat):Int):=by rw[aO jO jO];omega
 intro m
 induction m with
 |zero=>
  intro t a b E o D c;obtain⟨a,rfl⟩:∃f,a=f+1:=⟨a-1,jO⟩;obtain rfl:t=p:=jO;rw[tk];try simp(disch:=first|omega|assumption) only[Nat.reduceAdd,Nat.reduceLT,RZ,cb,l]
  exact s b c
 |succ m B=>
  intro t a b E o D c;obtain⟨a,rfl⟩:∃f,a=f+1:=⟨a-1,jO⟩;rw[tk];by_cases F:t<p
  ·have L:((P.length+t:Nat):Int)<((P.length+p:Nat):Int):=jO;have w:IntKind.i64.wrap (((P.length+t:Nat):Int)+1)=((P.length+(t+1):Nat):Int):=by rw[aO jO jO];omega
   have hd:Y.drop t=Y.getD t 0::Y.drop (t+1):=by rw[agQ jO,au,aC jO];rfl
   have e:Y.take (t+1)=Y.take t++[Y.getD t 0]:=by rw[jV jO,au,aC jO];rfl
   obtain⟨y,C⟩:∃y,Y.getD t 0=y:=⟨_,rfl⟩;rw[C]at hd e;have lt:(Y.take t).length=t:=by rw[ed];omega
   have T:(Y.drop (t+1)).length=Y.length-(t+1):=fO;rw[hd]at c;have q:P++(Y.take t++x::y::Y.drop (t+1))++Q=(P++Y.take t)++x::(y::(Y.drop (t+1)++Q)):=jS;have z:P++(Y.take t++x::y::Y.drop (t+1))++Q=(P++Y.take t++[x])++y::(Y.drop (t+1)++Q):=jS;have X:(P++(Y.take t++x::y::Y.drop (t+1))++Q).length=N:=by simp;omega
   have K:(bP (P++(Y.take t++x::y::Y.drop (t+1))++Q))[P.length+t]? =some (jI (x:Nat)):=by rw[kf jO,q,nT _ _ _ _ (by simp;omega)]
   have J:(bP (P++(Y.take t++x::y::Y.drop (t+1))++Q))[P.length+(t+1)]? =some (jI (y:Nat)):=by rw[kf jO,z,nT _ _ _ _ (by simp;omega)]
   have hC:((P++(Y.take t++x::y::Y.drop (t+1))++Q).set (P.length+t) y).set (P.length+(t+1)) x=P++(Y.take (t+1)++x::Y.drop (t+1))++Q:=by rw[q,q7 _ _ _ _ _ (by simp;omega),show P++Y.take t++y::y::(Y.drop (t+1)++Q)=(P++Y.take t++[y])++y::(Y.drop (t+1)++Q) by simp,q7 _ _ _ _ _ (by simp;omega),e];simp
   have O:=c.1;try simp(disch:=first|omega|assumption) only[Nat.reduceAdd,Nat.reduceLT,RZ,L,l,w,O,K,J,pG,B1,oC,hC]
   refine⟨jO,r,jO,r, ?_⟩;exact B (t+1) a _ jO jO jO ((c.set (ys:=(P++(Y.take t++x::y::Y.drop (t+1))++Q).set (P.length+t) y) rfl rfl).set rfl rfl)
  ·obtain rfl:t=p:=jO;try simp(disch:=first|omega|assumption) only[Nat.reduceAdd,Nat.reduceLT,RZ,cb,l]
   exact s b c
theorem abP (lf d g n cap pw:Nat) (ws:List Int) (h:H) (P X Q:List Nat) (y:Nat) (N:Nat) (O:(P++X++y::Q).length=N) (L:N<=1000000) (T:iq h n g pw ws) (hg:g<n) (hh:h.get g=some ⟨3,true,bP (P++X++y::Q)⟩) (D:y<ws.length) (K:∀z∈X,z<ws.length) {W:Nat->Prop} {n0:Nat} (t:n0<=n) {R:Value->H->Nat->Prop} (k:(Value->Value->Value->Value->Value->Value->Value->Value->Value->Value->M Value)) (v x3 e b:Value)
 (x:∀p r,p<=X.length->(p=0∨¬aS ws y<aS ws (X.getD (p-1) 0))->(p=X.length∨aS ws y<aS ws (X.getD p 0))->aa W n0 (k (.slice (some ⟨g,0,none⟩) N cap) v (jI ((P.length+X.length:Nat):Int)) x3 (.func (.func 249) #[] #[jP pw 0]) (jI ((P.length+p:Nat):Int)) (jI ((P.length+p:Nat):Int)) e b r) h n R):
 ∀(m p q a:Nat),q-p<=m->m<a->p<=q->q<=X.length->(p=0∨¬aS ws y<aS ws (X.getD (p-1) 0))->(q=X.length∨aS ws y<aS ws (X.getD q 0))->
  aa W n0 (qX lf (ah ad gt lf (d+3)) a k (.slice (some ⟨g,0,none⟩) N cap) v (jI ((P.length+X.length:Nat):Int)) x3 (.func (.func 249) #[] #[jP pw 0]) (jI ((P.length+p:Nat):Int)) (jI ((P.length+q:Nat):Int)) e b) h n R:=by
 have C:=O;simp only[ay,bL]at C;intro m
 induction m with
 |zero=>
  intro p q a F u s i o l;obtain⟨a,rfl⟩:∃f,a=f+1:=⟨a-1,jO⟩;obtain rfl:p=q:=jO;rw[qX];try simp(disch:=first|omega|assumption) only[Nat.reduceAdd,Nat.reduceLT,RZ,cb]
  exact x p _ i o l
 |succ m w=>
  intro p q a F u s i o l;obtain⟨a,rfl⟩:∃f,a=f+1:=⟨a-1,jO⟩;rw[qX];by_cases G:p<q
  ·obtain⟨c,hc⟩:∃c,(P.length+p+(P.length+q))/2=P.length+c:=⟨(p+q)/2,jO⟩;have J:p<=c:=jO;have I:c<q:=jO;have e1:((P.length+p:Nat):Int)<((P.length+q:Nat):Int):=jO;have e2:(((P.length+p:Nat):Int)+((P.length+q:Nat):Int))/2=((P.length+c:Nat):Int):=jO;have E:X.getD c 0<ws.length:=K _ (by rw[au,aC jO];exact cu _)
   have Y:(bP (P++X++y::Q))[P.length+c]? =some (jI (X.getD c 0:Nat)):=by rw[kf jO,qJ _ _ _ c _ rfl jO]
   have U:(bP (P++X++y::Q))[P.length+X.length]? =some (jI (y:Nat)):=by rw[kf jO,nT _ _ _ _ jS]
   try simp(disch:=first|omega|assumption) only[Nat.reduceAdd,Nat.reduceLT,RZ,e1,wrap_u64,vk,xu,e2,hh,Y,U,BX]
   refine bU (BZ lf d y _ h n g pw ws T D E) t (fun _ _ h=>h.elim) ?_;have Z:=BW (aS ws y) (aS ws (X.getD c 0));try simp(disch:=first|omega|assumption) only[Nat.reduceAdd,Nat.reduceLT,RZ,Z]
   by_cases j:aS ws y<aS ws (X.getD c 0)
   ·try simp(disch:=first|omega|assumption) only[Nat.reduceAdd,Nat.reduceLT,RZ,j,decide_true,fY]
    exact w p c a jO jO jO jO o (.inr j)
   ·have B:IntKind.i64.wrap (((P.length+c:Nat):Int)+1)=((P.length+(c+1):Nat):Int):=by rw[aO jO jO];omega
    have A:((P.length+c:Nat):Int)+1=((P.length+(c+1):Nat):Int):=jO;try simp(disch:=first|omega|assumption) only[Nat.reduceAdd,Nat.reduceLT,RZ,j,decide_false,iD,B]
    try rw[A]
    exact w (c+1) q a jO jO jO i (.inr (by simpa using j)) l
  ·obtain rfl:p=q:=jO;try simp(disch:=first|omega|assumption) only[Nat.reduceAdd,Nat.reduceLT,RZ,cb]
   exact x p _ i o l
theorem abQ (lf d g n cap:Nat) (h:H) (P X Q:List Nat) (y p:Nat) (N:Nat) (I:(P++X++y::Q).length=N) (G:N<=1000000) (Y:p<=X.length) (hg:g<n) {W:Nat->Prop} {n0:Nat} (u:n0<=g∨W g) {R:Value->H->Nat->Prop} (k:(M Value)) (w v x3 x4 o l j i:Value)
 (J:∀b,At h b g (P++(X.take p++y::X.drop p)++Q)->aa W n0 (k) b n R):
 ∀(m t a:Nat) (b:H),t-p=m->m<a->p<=t->t<=X.length->At h b g (P++(X.take t++y::X.drop t)++Q)->
  aa W n0 (tn lf (ah ad gt lf d) a k (.slice (some ⟨g,0,none⟩) N cap) w v x3 x4 (jI ((P.length+p:Nat):Int)) o (jI ((P.length+t:Nat):Int)) l j i) b n R:=by
 have B:=I;simp only[ay,bL]at B;intro m
 induction m with
 |zero=>
  intro t a b F r E q e;obtain⟨a,rfl⟩:∃f,a=f+1:=⟨a-1,jO⟩;obtain rfl:t=p:=jO;rw[tn];try simp(disch:=first|omega|assumption) only[Nat.reduceAdd,Nat.reduceLT,RZ,cb]
  exact J b e
 |succ m C=>
  intro t a b F r E q e;obtain⟨a,rfl⟩:∃f,a=f+1:=⟨a-1,jO⟩;obtain⟨t,rfl⟩:∃f,t=f+1:=⟨t-1,jO⟩;rw[tn];have O:((P.length+p:Nat):Int)<((P.length+(t+1):Nat):Int):=jO;have z:IntKind.i64.wrap (((P.length+(t+1):Nat):Int)-1)=((P.length+t:Nat):Int):=by rw[aO jO jO];omega
  have hd:X.drop t=X.getD t 0::X.drop (t+1):=by rw[agQ jO,au,aC jO];rfl
  have c:X.take (t+1)=X.take t++[X.getD t 0]:=by rw[jV jO,au,aC jO];rfl
  obtain⟨x,D⟩:∃y,X.getD t 0=y:=⟨_,rfl⟩;rw[D]at hd c;have lt:(X.take t).length=t:=by rw[ed];omega
  have U:(X.drop (t+1)).length=X.length-(t+1):=fO;rw[c]at e;have A:P++(X.take t++[x]++y::X.drop (t+1))++Q=(P++X.take t)++x::(y::(X.drop (t+1)++Q)):=jS;have s:P++(X.take t++[x]++y::X.drop (t+1))++Q=(P++X.take t++[x])++y::(X.drop (t+1)++Q):=jS;have Z:(P++(X.take t++[x]++y::X.drop (t+1))++Q).length=N:=by simp;omega
  have L:(bP (P++(X.take t++[x]++y::X.drop (t+1))++Q))[P.length+t]? =some (jI (x:Nat)):=by rw[kf jO,A,nT _ _ _ _ (by simp;omega)]
  have K:(bP (P++(X.take t++[x]++y::X.drop (t+1))++Q))[P.length+(t+1)]? =some (jI (y:Nat)):=by rw[kf jO,s,nT _ _ _ _ (by simp;omega)]
  have hC:((P++(X.take t++[x]++y::X.drop (t+1))++Q).set (P.length+(t+1)) x).set (P.length+t) y=P++(X.take t++y::X.drop t)++Q:=by rw[s,q7 _ _ _ _ _ (by simp;omega),show P++X.take t++[x]++x::(X.drop (t+1)++Q)=(P++X.take t)++x::(x::(X.drop (t+1)++Q)) by simp,q7 _ _ _ _ _ (by simp;omega),hd];simp
  have T:=e.1;try simp(disch:=first|omega|assumption) only[Nat.reduceAdd,Nat.reduceLT,RZ,O,z,T,L,K,pG,B1,oC,hC]
  refine⟨jO,u,jO,u, ?_⟩;exact C t a _ jO jO jO jO ((e.set (ys:=(P++(X.take t++[x]++y::X.drop (t+1))++Q).set (P.length+(t+1)) x) rfl rfl).set rfl rfl)
def lg(h:H)(g n:Nat)(ws:List Int)(P a Q:List Nat)(h':H)(n':Nat):Prop:=n'=n∧∃Z,Z.Perm a∧Z.Pairwise (RI (aS ws))∧At h h' g (P++Z++Q)
def FT(pw:Nat):Value:= .func (.func 249) #[] #[jP pw 0]
theorem abR(lf d g n cap pw:Nat)(ws:List Int)(h:H)(P Y Q:List Nat)(x:Nat)(N:Nat)(a m b:Int)(A:3000000<=lf)(k:(P++x::Y++Q).length=N)(f:N<=1000000)(B:a=(P.length:Nat))(w:m=((P.length+1:Nat):Int))(q:b=((P.length+1+Y.length:Nat):Int))(C:iq h n g pw ws)(o:g<n)(hh:h.get g=some ⟨3,true,bP (P++x::Y++Q)⟩)(e:∀z∈x::Y,z<ws.length)(v:Y.Pairwise (RI (aS ws)))(i:∀y∈Y,x<y):
 aa (fun z=>z=g) n (ah ad gt lf (d+4) 254 #[.slice (some ⟨g,0,none⟩) N cap,jI a,jI m,jI b,FT pw]) h n fun _ h' n'=>lg h g n ws P (x::Y) Q h' n':=by
 subst B w q;have t:=k;simp only[ay,bL]at t;rw[aF (fun _=>BP) rfl];refine aa.aD ?_;unfold ve FT;have s:IntKind.i64.wrap (((P.length+1:Nat):Int)-((P.length:Nat):Int))=1:=by rw[aO jO jO];omega
 try simp(disch:=first|omega|assumption) only[Nat.reduceAdd,Nat.reduceLT,RZ,s,beq_self_eq_true]
 have:=abN (W:=fun z=>z=g) lf d g n cap pw ws h P Y Q x N k f C o hh (e x jS) (fun z u=>e z (by simp[u])) (ag n) (R:=fun _ h' n'=>lg h g n ws P (x::Y) Q h' n') (xo lf (ah ad gt lf (d+3))) (jI ((P.length+1:Nat):Int)) (jI ((P.length+1+Y.length:Nat):Int)) (.bool true) (fun p r l h1 h2=>by
  (try unfold xo);(try dsimp only)
  refine abO (W:=fun z=>z=g) lf (d+3) g n cap h P Y Q x p N k f l o (.inr rfl) _ _ _ _ _ _ _ _ (fun E D=> ?_) p 0 lf h jO jO (cL _) ⟨by simpa using hh,fun b q=>rfl⟩
  (try unfold G5);(try unfold c);(try dsimp only)
  try simp(disch:=first|omega|assumption) only[Nat.reduceAdd,Nat.reduceLT,RZ]
  refine⟨rfl,_, ?_, ?_,D⟩
  ·have:=aht (a:=x) (l₁:=Y.take p) (l₂:=Y.drop p);rw[iC]at this;exact this
  ·refine Sx v l ?_ ?_
   ·rcases h1 with h1|h1
    ·exact .inl h1
    ·exact .inr (.inl h1)
   ·rcases h2 with h2|h2
    ·exact .inl h2
    ·by_cases j:p=Y.length
     ·exact .inl j
     ·exact .inr (Hb (i _ (by rw[au,aC jO];exact cu _)) h2)) Y.length 0 Y.length lf jO jO jO jO (.inl rfl) (.inl rfl)
 exact this
theorem abT(lf d g n cap pw:Nat)(ws:List Int)(h:H)(P X Q:List Nat)(y:Nat)(N:Nat)(a m b:Int)(D:3000000<=lf)(r:(P++X++y::Q).length=N)(f:N<=1000000)(F:2<=X.length)(E:a=(P.length:Nat))(C:m=((P.length+X.length:Nat):Int))(t:b=((P.length+X.length+1:Nat):Int))(G:iq h n g pw ws)(s:g<n)(hh:h.get g=some ⟨3,true,bP (P++X++y::Q)⟩)(j:y<ws.length)(q:∀z∈X,z<ws.length)(B:X.Pairwise (RI (aS ws)))(k:∀x∈X,x<y):
 aa (fun z=>z=g) n (ah ad gt lf (d+4) 254 #[.slice (some ⟨g,0,none⟩) N cap,jI a,jI m,jI b,FT pw]) h n fun _ h' n'=>lg h g n ws P (X++[y]) Q h' n':=by
 subst E C t;have A:=r;simp only[ay,bL]at A;rw[aF (fun _=>BP) rfl];refine aa.aD ?_;unfold ve FT;have w:(IntKind.i64.wrap (((P.length+X.length:Nat):Int)-((P.length:Nat):Int))==1)=false:=by rw[aO jO jO,beq_eq_false_iff_ne];omega
 have i:((((P.length+X.length:Nat):Int)-((P.length:Nat):Int))==1)=false:=by rw[beq_eq_false_iff_ne];omega
 have v:IntKind.i64.wrap (((P.length+X.length+1:Nat):Int)-((P.length+X.length:Nat):Int))=1:=by rw[aO jO jO];omega
 try simp(disch:=first|omega|assumption) only[Nat.reduceAdd,Nat.reduceLT,RZ,w,i,v,beq_self_eq_true]
 have:=abP (W:=fun z=>z=g) lf d g n cap pw ws h P X Q y N r f G s hh j q (ag n) (R:=fun _ h' n'=>lg h g n ws P (X++[y]) Q h' n') (xm lf (ah ad gt lf (d+3))) (jI ((P.length:Nat):Int)) (jI ((P.length+X.length+1:Nat):Int)) (.bool false) (.bool true) (fun p u o h1 h2=>by
  (try unfold xm);(try unfold e);(try dsimp only)
  refine abQ (W:=fun z=>z=g) lf (d+3) g n cap h P X Q y p N r f o s (.inr rfl) _ _ _ _ _ _ _ _ _ (fun J I=> ?_) (X.length-p) X.length lf h rfl jO o (ag _) ⟨by simpa using hh,fun b t=>rfl⟩
  (try unfold G4);(try unfold c);(try dsimp only)
  try simp(disch:=first|omega|assumption) only[Nat.reduceAdd,Nat.reduceLT,RZ]
  refine⟨rfl,_, ?_, ?_,I⟩
  ·have:=aht (a:=y) (l₁:=X.take p) (l₂:=X.drop p);rw[iC]at this;exact this.trans (ahq y X).symm
  ·refine Sx B o ?_ ?_
   ·rcases h1 with h1|h1
    ·exact .inl h1
    ·by_cases l:p=0
     ·exact .inl l
     ·exact .inr (Hb (k _ (by rw[au,aC jO];exact cu _)) h1)
   ·rcases h2 with h2|h2
    ·exact .inl h2
    ·exact .inr (.inl h2)) X.length 0 X.length lf jO jO jO jO (.inl rfl) (.inl rfl)
 exact this
theorem abU (lf d g n cap pw:Nat) (ws:List Int) (h:H) (P X Y Q:List Nat) (a:Nat) (N:Nat) (hN:(P++X++Y++Q).length=N) (u5:N<=1000000) (hE:iq h n g pw ws) (hg:g<n) (hh:h.get g=some ⟨3,true,bP (P++X++Y++Q)⟩) (hX:∀z∈X,z<ws.length) (hY:∀z∈Y,z<ws.length) (B:∀x∈X,∀y∈Y,x<y) (u2:a<=X.length+Y.length) {W:Nat->Prop} {n0:Nat} (E:n0<=n) {R:Value->H->Nat->Prop} (k:(Value->Value->Value->Value->Value->Value->Value->Value->M Value)) (I G x3 o l w v p:Value) (A:Int) (u0:A=((P.length+a+P.length+X.length:Nat):Int)-1)
 (O:∀s,s<=X.length->s<=a->a-s<=Y.length->(s=0∨a-s=Y.length∨RI (aS ws) (X.getD (s-1) 0) (Y.getD (a-s) 0))->(s=X.length∨s=a∨RI (aS ws) (Y.getD (a-1-s) 0) (X.getD s 0))->aa W n0 (k (.slice (some ⟨g,0,none⟩) N cap) I G x3 (FT pw) o l (jI ((P.length+s:Nat):Int))) h n R):
 ∀(m s r b:Nat),r-s<=m->m<b->s<=r->r<=X.length->r<=a->a-s<=Y.length->(s=0∨a-s=Y.length∨RI (aS ws) (X.getD (s-1) 0) (Y.getD (a-s) 0))->(r=X.length∨r=a∨RI (aS ws) (Y.getD (a-1-r) 0) (X.getD r 0))->
  aa W n0 (qY lf (ah ad gt lf (d+3)) b k (.slice (some ⟨g,0,none⟩) N cap) I G x3 (FT pw) o l (jI ((P.length+s:Nat):Int)) (jI ((P.length+r:Nat):Int)) (jI A) w v p) h n R:=by
 have lN:=hN;simp only[ay]at lN;intro m
 induction m with
 |zero=>
  intro s r b D F C j i e u t;obtain⟨b,rfl⟩:∃f,b=f+1:=⟨b-1,jO⟩;obtain rfl:s=r:=jO;rw[qY];try simp(disch:=first|omega|assumption) only[Nat.reduceAdd,Nat.reduceLT,RZ,cb]
  exact O s j i e u t
 |succ m J=>
  intro s r b D F C j i e u t;obtain⟨b,rfl⟩:∃f,b=f+1:=⟨b-1,jO⟩;rw[qY];by_cases u1:s<r
  ·obtain⟨c,hc⟩:∃c,(P.length+s+(P.length+r))/2=P.length+c:=⟨(s+r)/2,jO⟩;have u4:s<=c:=jO;have u3:c<r:=jO;have e1:((P.length+s:Nat):Int)<((P.length+r:Nat):Int):=jO;have e2:(((P.length+s:Nat):Int)+((P.length+r:Nat):Int))/2=((P.length+c:Nat):Int):=jO;have L:X.getD c 0∈X:=by rw[au,aC jO];exact cu _
   have K:Y.getD (a-1-c) 0∈Y:=by rw[au,aC jO];exact cu _
   have Z:IntKind.i64.wrap (A-((P.length+c:Nat):Int))=((P.length+X.length+(a-1-c):Nat):Int):=by rw[aO jO jO];omega
   have g1:(bP (P++X++Y++Q))[P.length+c]? =some (jI (X.getD c 0:Nat)):=by rw[kf (by simp;omega),show P++X++Y++Q=P++X++(Y++Q) by simp,qJ _ _ _ c _ rfl jO]
   have g2:(bP (P++X++Y++Q))[P.length+X.length+(a-1-c)]? =some (jI (Y.getD (a-1-c) 0:Nat)):=by rw[kf (by simp;omega),qJ (P++X) Y Q (a-1-c) _ jS jO]
   unfold FT at*;try simp(disch:=first|omega|assumption) only[Nat.reduceAdd,Nat.reduceLT,RZ,e1,wrap_u64,vk,xu,e2,Z,hh,g1,g2,BX]
   refine bU (BZ lf d _ _ h n g pw ws hE (hY _ K) (hX _ L)) E (fun _ _ h=>h.elim) ?_;have e4:=BW (aS ws (Y.getD (a-1-c) 0)) (aS ws (X.getD c 0));try simp(disch:=first|omega|assumption) only[Nat.reduceAdd,Nat.reduceLT,RZ,e4]
   by_cases q:aS ws (Y.getD (a-1-c) 0)<aS ws (X.getD c 0)
   ·try simp(disch:=first|omega|assumption) only[Nat.reduceAdd,Nat.reduceLT,RZ,q,decide_true,fY]
    exact J s c b jO jO jO jO jO e u (.inr (.inr (.inl q)))
   ·have U:IntKind.i64.wrap (((P.length+c:Nat):Int)+1)=((P.length+(c+1):Nat):Int):=by rw[aO jO jO];omega
    have T:((P.length+c:Nat):Int)+1=((P.length+(c+1):Nat):Int):=jO;try simp(disch:=first|omega|assumption) only[Nat.reduceAdd,Nat.reduceLT,RZ,q,decide_false,iD,U]
    try rw[T]
    refine J (c+1) r b jO jO jO j i jO (.inr (.inr ?_)) t;rw[show c+1-1=c by omega,show a-(c+1)=a-1-c by omega];exact Hb (B _ L _ K) q
  ·obtain rfl:s=r:=jO;try simp(disch:=first|omega|assumption) only[Nat.reduceAdd,Nat.reduceLT,RZ,cb]
   exact O s j i e u t
def SD(lf g cap pw N:Nat)(ws:List Int)(l:Nat):Prop:=
 ∀(d n:Nat) (h:H) (P X Y Q:List Nat) (a m b:Int),X.length+Y.length<=l->(P++X++Y++Q).length=N->a=(P.length:Nat)->m=((P.length+X.length:Nat):Int)->b=((P.length+X.length+Y.length:Nat):Int)->1<=X.length->1<=Y.length->iq h n g pw ws->g<n->h.get g=some ⟨3,true,bP (P++X++Y++Q)⟩->(∀z∈X++Y,z<ws.length)->X.Pairwise (RI (aS ws))->Y.Pairwise (RI (aS ws))->(∀x∈X,∀y∈Y,x<y)->
  aa (fun z=>z=g) n (ah ad gt lf (d+l+4) 254 #[.slice (some ⟨g,0,none⟩) N cap,jI a,jI m,jI b,FT pw]) h n fun _ e c=>lg h g n ws P (X++Y) Q e c
theorem lg.run{h b:H}{g n:Nat}{ws:List Int}{P Z Q:List Nat}{c:H->Nat->Prop}(e:∀h',(∃a,a.Perm Z∧a.Pairwise (RI (aS ws))∧At b h' g (P++a++Q))->c h' n){h':H}{n':Nat}(q:lg b g n ws P Z Q h' n'):c h' n':=by obtain⟨rfl,q⟩:=q;exact e _ q
set_option maxHeartbeats 1000000 in
theorem abV(lf g cap pw N:Nat)(ws:List Int)(x4:3000000<=lf)(v6:N<=1000000)(l:Nat)(ih:SD lf g cap pw N ws l)(d n:Nat)(h:H)(P X Y Q:List Nat)(hl:X.length+Y.length<=l+1)(hN:(P++X++Y++Q).length=N)(y7:2<=X.length)(y6:2<=Y.length)(hE:iq h n g pw ws)(hg:g<n)(hh:h.get g=some ⟨3,true,bP (P++X++Y++Q)⟩)(J:∀z∈X++Y,z<ws.length)(hx:X.Pairwise (RI (aS ws)))(U:Y.Pairwise (RI (aS ws)))(u0:∀x∈X,∀y∈Y,x<y):
 aa (fun z=>z=g) n (ah ad gt lf (d+l+4+1) 254 #[.slice (some ⟨g,0,none⟩) N cap,jI (P.length:Nat),jI ((P.length+X.length:Nat):Int),jI ((P.length+X.length+Y.length:Nat):Int),FT pw]) h n fun _ h' n'=>lg h g n ws P (X++Y) Q h' n':=by
 have lN:=hN;simp only[ay]at lN;rw[aF (fun _=>BP) rfl];refine aa.aD ?_;unfold ve;obtain⟨c,y5⟩:∃c,(P.length+(P.length+X.length+Y.length))/2=P.length+c:=⟨(X.length+Y.length)/2,jO⟩;have y4:1<=c:=jO;have y3:c<X.length+Y.length:=jO;have w1:(((P.length+X.length:Nat):Int)-((P.length:Nat):Int)==1)=false:=by rw[beq_eq_false_iff_ne];omega
 have w2:(((P.length+X.length+Y.length:Nat):Int)-((P.length+X.length:Nat):Int)==1)=false:=by rw[beq_eq_false_iff_ne];omega
 have w3:(((P.length:Nat):Int)+((P.length+X.length+Y.length:Nat):Int))/2=((P.length+c:Nat):Int):=jO;have w4:IntKind.i64.wrap (((P.length+c:Nat):Int)+((P.length+X.length:Nat):Int))=((P.length+c+P.length+X.length:Nat):Int):=by rw[aO jO jO];omega
 have v7:∀s,s<=X.length->s<=c->c-s<=Y.length->(s=0∨c-s=Y.length∨RI (aS ws) (X.getD (s-1) 0) (Y.getD (c-s) 0))->(s=X.length∨s=c∨RI (aS ws) (Y.getD (c-1-s) 0) (X.getD s 0))->
  aa (fun z=>z=g) n (xl lf (ah ad gt lf (d+l+4)) (.slice (some ⟨g,0,none⟩) N cap) (jI (P.length:Nat)) (jI ((P.length+X.length:Nat):Int)) (jI ((P.length+X.length+Y.length:Nat):Int)) (FT pw) (jI ((P.length+c:Nat):Int)) (jI ((P.length+c+P.length+X.length:Nat):Int)) (jI ((P.length+s:Nat):Int))) h n fun _ h' n'=>lg h g n ws P (X++Y) Q h' n':=by
  intro s x3 x1 x2 h1 h2;have hc:=abF hx U c s x3 x1 x2 h1 h2;obtain⟨p,L⟩:∃p,X.take s=p:=⟨_,rfl⟩;obtain⟨f,u⟩:∃f,X.drop s=f:=⟨_,rfl⟩;obtain⟨o,K⟩:∃o,Y.take (c-s)=o:=⟨_,rfl⟩;obtain⟨i,t⟩:∃i,Y.drop (c-s)=i:=⟨_,rfl⟩;have sj:=fun Z1 Z2 p1 T s1 O=>abG (Z1:=Z1) (Z2:=Z2) (X:=X) (Y:=Y) (h:=c) (s:=s) (k:=aS ws) p1 T s1 O hc;have eX:p++f=X:=by rw[<-L,<-u];exact iC _ _
  have eY:o++i=Y:=by rw[<-K,<-t];exact iC _ _
  have y2:p.length=s:=by rw[<-L,ed];omega
  have y0:o.length=c-s:=by rw[<-K,ed];omega
  have y1:f.length=X.length-s:=by rw[<-u,fO]
  have x9:i.length=Y.length-(c-s):=by rw[<-t,fO]
  have v0:p.Pairwise (RI (aS ws)):=by rw[<-L];exact hx.sublist (VL _ _)
  have u9:f.Pairwise (RI (aS ws)):=by rw[<-u];exact hx.sublist (ahu _ _)
  have u7:o.Pairwise (RI (aS ws)):=by rw[<-K];exact U.sublist (VL _ _)
  have u6:i.Pairwise (RI (aS ws)):=by rw[<-t];exact U.sublist (ahu _ _)
  simp only[L,u,K,t]at sj;have v5:∀z∈p,z∈X:=fun z r=>by rw[<-eX];simp[r]
  have v4:∀z∈f,z∈X:=fun z r=>by rw[<-eX];simp[r]
  have v3:∀z∈o,z∈Y:=fun z r=>by rw[<-eY];simp[r]
  have v2:∀z∈i,z∈Y:=fun z r=>by rw[<-eY];simp[r]
  (try unfold xl);(try unfold e);(try dsimp only)
  have w5:IntKind.i64.wrap (((P.length+c+P.length+X.length:Nat):Int)-((P.length+s:Nat):Int))=((P.length+X.length+(c-s):Nat):Int):=by rw[aO jO jO];omega
  have t3:∀A Z,Z.Perm (p++o)->Z.Pairwise (RI (aS ws))->At h A g (P++Z++(f++i)++Q)->aa (fun z=>z=g) n (
   da (jI ((P.length+c:Nat):Int)) (jI ((P.length+X.length+(c-s):Nat):Int)) fun m=>
   aH m (
    da (jI ((P.length+X.length+(c-s):Nat):Int)) (jI ((P.length+X.length+Y.length:Nat):Int)) fun j=>
    aH j (
     aj (ah ad gt lf (d+l+4)) 254 [.slice (some ⟨g,0,none⟩) N cap,jI ((P.length+c:Nat):Int),jI ((P.length+X.length+(c-s):Nat):Int),jI ((P.length+X.length+Y.length:Nat):Int),FT pw] fun B=>
     ae []) (
     ae [])) (
    ae [])) A n fun _ h' n'=>lg h g n ws P (X++Y) Q h' n':=by
   intro A Z pZ sZ I;have lZ:=pZ.length_eq;simp only[ay]at lZ
   have done:∀h' Z2,Z2.Perm (f++i)->Z2.Pairwise (RI (aS ws))->At h h' g (P++Z++Z2++Q)->lg h g n ws P (X++Y) Q h' n:=fun h' Z2 T O F=>by obtain⟨q1,q2⟩:=sj Z Z2 pZ T sZ O;exact⟨rfl,Z++Z2,q1,q2,by rw[<-b9];exact F⟩
   by_cases c1:f=[]∨i=[]
   ·
    have u1:(f++i).Pairwise (RI (aS ws)):=by
     rcases c1 with c1|c1
     ·rw[c1];exact u6
     ·rw[c1,bV];exact u9
    have D:=done A _ (ud _) u1 I;by_cases w:((P.length+c:Nat):Int)<((P.length+X.length+(c-s):Nat):Int)
    ·by_cases G:((P.length+X.length+(c-s):Nat):Int)<((P.length+X.length+Y.length:Nat):Int)
     ·exfalso;rcases c1 with c1|c1<;>(have q:=congrArg qb c1;simp only[eF]at q;omega)
     ·try simp(disch:=first|omega|assumption) only[Nat.reduceAdd,Nat.reduceLT,RZ,w,G]
      exact D
    ·try simp(disch:=first|omega|assumption) only[Nat.reduceAdd,Nat.reduceLT,RZ,w]
     exact D
   ·have E:1<=f.length:=by cases f with|nil=>exact absurd (.inl rfl) c1|cons a l=>simp
    have C:1<=i.length:=by cases i with|nil=>exact absurd (.inr rfl) c1|cons a l=>simp
    have w:((P.length+c:Nat):Int)<((P.length+X.length+(c-s):Nat):Int):=jO;have G:((P.length+X.length+(c-s):Nat):Int)<((P.length+X.length+Y.length:Nat):Int):=jO;try simp(disch:=first|omega|assumption) only[Nat.reduceAdd,Nat.reduceLT,RZ,w,G]
    have u2:A.get g=some ⟨3,true,bP (P++Z++f++i++Q)⟩:=by rw[I.1];simp
    refine aJ aE (ih d n A (P++Z) f i Q _ _ _ jO (by simp;omega) (by simp;omega) (by simp;omega) (by simp;omega) E C (hE.keeps I.2) hg u2 (fun z r=>J z (by rcases List.mem_append.1 r with q|q;exact Im _ (v4 z q);exact yj _ (v2 z q))) u9 u6 (fun x hx y U=>u0 x (v4 x hx) y (v2 y U))) (ag n) (fun b _ hb=> .inr hb) fun v h1 n1 _ _ hq=> ?_;try simp(disch:=first|omega|assumption) only[Nat.reduceAdd,Nat.reduceLT,RZ]
    obtain⟨rfl,Z2,T,O,F⟩:=hq;exact done h1 Z2 T O (I.trans F)
  have t2:∀A,At h A g (P++(p++o)++(f++i)++Q)->aa (fun z=>z=g) n (
   da (jI (P.length:Nat)) (jI ((P.length+s:Nat):Int)) fun u4=>
   aH u4 (
    da (jI ((P.length+s:Nat):Int)) (jI ((P.length+c:Nat):Int)) fun u3=>
    aH u3 (
     aj (ah ad gt lf (d+l+4)) 254 [.slice (some ⟨g,0,none⟩) N cap,jI (P.length:Nat),jI ((P.length+s:Nat):Int),jI ((P.length+c:Nat):Int),FT pw] fun x8=>
     da (jI ((P.length+c:Nat):Int)) (jI ((P.length+X.length+(c-s):Nat):Int)) fun m=>
     aH m (
      da (jI ((P.length+X.length+(c-s):Nat):Int)) (jI ((P.length+X.length+Y.length:Nat):Int)) fun j=>
      aH j (
       aj (ah ad gt lf (d+l+4)) 254 [.slice (some ⟨g,0,none⟩) N cap,jI ((P.length+c:Nat):Int),jI ((P.length+X.length+(c-s):Nat):Int),jI ((P.length+X.length+Y.length:Nat):Int),FT pw] fun B=>
       ae []) (
       ae [])) (
      ae [])) (
     da (jI ((P.length+c:Nat):Int)) (jI ((P.length+X.length+(c-s):Nat):Int)) fun m=>
     aH m (
      da (jI ((P.length+X.length+(c-s):Nat):Int)) (jI ((P.length+X.length+Y.length:Nat):Int)) fun j=>
      aH j (
       aj (ah ad gt lf (d+l+4)) 254 [.slice (some ⟨g,0,none⟩) N cap,jI ((P.length+c:Nat):Int),jI ((P.length+X.length+(c-s):Nat):Int),jI ((P.length+X.length+Y.length:Nat):Int),FT pw] fun B=>
       ae []) (
       ae [])) (
      ae []))) (
    da (jI ((P.length+c:Nat):Int)) (jI ((P.length+X.length+(c-s):Nat):Int)) fun m=>
    aH m (
     da (jI ((P.length+X.length+(c-s):Nat):Int)) (jI ((P.length+X.length+Y.length:Nat):Int)) fun j=>
     aH j (
      aj (ah ad gt lf (d+l+4)) 254 [.slice (some ⟨g,0,none⟩) N cap,jI ((P.length+c:Nat):Int),jI ((P.length+X.length+(c-s):Nat):Int),jI ((P.length+X.length+Y.length:Nat):Int),FT pw] fun B=>
      ae []) (
      ae [])) (
     ae []))) A n fun _ h' n'=>lg h g n ws P (X++Y) Q h' n':=by
   intro A I;by_cases c1:p=[]∨o=[]
   ·have u1:(p++o).Pairwise (RI (aS ws)):=by
     rcases c1 with c1|c1
     ·rw[c1];exact u7
     ·rw[c1,bV];exact v0
    have D:=t3 A _ (ud _) u1 I;by_cases w:((P.length:Nat):Int)<((P.length+s:Nat):Int)
    ·by_cases G:((P.length+s:Nat):Int)<((P.length+c:Nat):Int)
     ·exfalso;rcases c1 with c1|c1<;>(have q:=congrArg qb c1;simp only[eF]at q;omega)
     ·simp only[pc,decide_eq_true w,decide_eq_false G,uK,uL];simpa only[pc]using D
    ·simp only[pc,decide_eq_false w,uL];simpa only[pc]using D
   ·have E:1<=p.length:=by cases p with|nil=>exact absurd (.inl rfl) c1|cons a l=>simp
    have C:1<=o.length:=by cases o with|nil=>exact absurd (.inr rfl) c1|cons a l=>simp
    have w:((P.length:Nat):Int)<((P.length+s:Nat):Int):=jO;have G:((P.length+s:Nat):Int)<((P.length+c:Nat):Int):=jO;simp only[pc,decide_eq_true w,decide_eq_true G,uK];have u2:A.get g=some ⟨3,true,bP (P++p++o++(f++i++Q))⟩:=by rw[I.1];simp
    refine aJ aE (ih d n A P p o (f++i++Q) _ _ _ jO (by simp;omega) rfl jO jO E C (hE.keeps I.2) hg u2 (fun z r=>J z (by rcases List.mem_append.1 r with q|q;exact Im _ (v5 z q);exact yj _ (v3 z q))) v0 u7 (fun x hx y U=>u0 x (v5 x hx) y (v3 y U))) (ag n) (fun b _ hb=> .inr hb) fun v h1 n1 _ _ hq=> ?_;obtain⟨rfl,Z2,T,O,F⟩:=hq;simpa only[pc]using t3 h1 Z2 T O (by have:=I.trans F;rwa[show P++Z2++(f++i)++Q=P++Z2++(f++i++Q) by simp])
  simp only[pc,ES,w5]at t2⊢;by_cases c1:f=[]∨o=[]
  ·have x6:At h h g (P++(p++o)++(f++i)++Q):=by refine⟨?_,fun b hb=>rfl⟩;rw[hh,<-eX,<-eY];rcases c1 with c1|c1<;>(rw[c1];simp)
   have D:=t2 h x6;by_cases w:((P.length+s:Nat):Int)<((P.length+X.length:Nat):Int)
   ·by_cases G:((P.length+X.length:Nat):Int)<((P.length+X.length+(c-s):Nat):Int)
    ·exfalso;rcases c1 with c1|c1<;>(have q:=congrArg qb c1;simp only[eF]at q;omega)
    ·simp only[decide_eq_true w,decide_eq_false G,uK,uL];exact D
   ·simp only[decide_eq_false w,uL];exact D
  ·have E:1<=f.length:=by cases f with|nil=>exact absurd (.inl rfl) c1|cons a l=>simp
   have C:1<=o.length:=by cases o with|nil=>exact absurd (.inr rfl) c1|cons a l=>simp
   have w:((P.length+s:Nat):Int)<((P.length+X.length:Nat):Int):=jO;have G:((P.length+X.length:Nat):Int)<((P.length+X.length+(c-s):Nat):Int):=jO;simp only[decide_eq_true w,decide_eq_true G,uK];have x5:h.get g=some ⟨3,true,bP (P++p++f++o++(i++Q))⟩:=by rw[hh,<-eX,<-eY];simp
   refine aJ aE (abM lf (d+l+2) g n cap h (P++p) f o (i++Q) N _ _ _ _ x4 (by simp;omega) v6 E C hg (by simp;omega) (by simp;omega) (by simp;omega) x5) (ag n) (fun b _ hb=> .inr hb) fun v h1 n1 _ _ hq=> ?_;obtain⟨rfl,I⟩:=hq;exact t2 h1 (by rwa[show P++(p++o)++(f++i)++Q=P++p++o++f++(i++Q) by simp])
 have run:=abU (W:=fun z=>z=g) lf (d+l+1) g n cap pw ws h P X Y Q c N hN v6 hE hg hh (fun z r=>J z (by simp[r])) (fun z r=>J z (by simp[r])) u0 jO (ag n) (R:=fun _ h' n'=>lg h g n ws P (X++Y) Q h' n') (xl lf (ah ad gt lf (d+l+4))) (jI (P.length:Nat)) (jI ((P.length+X.length:Nat):Int)) (jI ((P.length+X.length+Y.length:Nat):Int)) (jI ((P.length+c:Nat):Int)) (jI ((P.length+c+P.length+X.length:Nat):Int)) (.bool false) (.bool false);by_cases c0:c<X.length
 ·have c1:((P.length+c:Nat):Int)<((P.length+X.length:Nat):Int):=jO;have w6:IntKind.i64.wrap (((P.length+c+P.length+X.length:Nat):Int)-((P.length+X.length+Y.length:Nat):Int))=((P.length+(c-Y.length):Nat):Int):=by rw[aO jO jO];omega
  try simp(disch:=first|omega|assumption) only[Nat.reduceAdd,Nat.reduceLT,RZ,w1,w2,w3,w4,wrap_u64,vk,xu,c1,w6]
  exact run (.bool true) _ rfl (fun s a1 a2 a3 a4 a5=>v7 s a1 a2 a3 a4 a5) (X.length+Y.length) (c-Y.length) c lf jO jO jO jO jO jO jO jO
 ·have c1:¬((P.length+c:Nat):Int)<((P.length+X.length:Nat):Int):=jO;try simp(disch:=first|omega|assumption) only[Nat.reduceAdd,Nat.reduceLT,RZ,w1,w2,w3,w4,wrap_u64,vk,xu,c1]
  exact run (.bool false) _ rfl (fun s a1 a2 a3 a4 a5=>v7 s a1 a2 a3 a4 a5) (X.length+Y.length) 0 X.length lf jO jO jO jO jO jO jO jO
theorem SE(lf g cap pw N:Nat)(ws:List Int)(i:3000000<=lf)(j:N<=1000000):∀l,SD lf g cap pw N ws l:=by
 intro l
 induction l with
 |zero=>intro d n h P X Y Q a m b A s r p q D C;omega
 |succ l B=>
  intro d n h P X Y Q a m b A s r p q D C w v u c o k f;by_cases F:X.length=1
  ·obtain⟨x,rfl⟩:=List.length_eq_one_iff.1 F;have e:P++[x]++Y++Q=P++x::Y++Q:=jS;exact abR lf (d+l+1) g n cap pw ws h P Y Q x N a m b i (by rw[<-e];exact s) j r p q w v (by rw[<-e];exact u) (fun z t=>c z (by simpa using t)) k (fun y k=>f x jS y k)
  ·by_cases E:Y.length=1
   ·obtain⟨y,rfl⟩:=List.length_eq_one_iff.1 E;have e:P++X++[y]++Q=P++X++y::Q:=jS;exact abT lf (d+l+1) g n cap pw ws h P X Q y N a m b i (by rw[<-e];exact s) j jO r p q w v (by rw[<-e];exact u) (c y jS) (fun z t=>c z (by simp[t])) o (fun x o=>f x o y jS)
   ·subst r p q;exact abV lf g cap pw N ws i j l B d n h P X Y Q A s jO jO w v u c o k f
section
variable (lf g cap pw N:Nat) (ws:List Int) (bB:3000000<=lf) (tr:N<=1000000) (d n:Nat) (h:H) (xs:List Nat) (hN:xs.length=N) (hE:iq h n g pw ws) (hg:g<n) (xw:∀z∈xs,z<ws.length)
variable {W:Nat->Prop} {n0:Nat} (xx:n0<=n) (hW:n0<=g∨W g) {R:Value->H->Nat->Prop}
theorem SF(pre c post:List Nat)(a b:Int)(i:(pre++c++post).length=N)(o:a=(pre.length:Nat))(l:b=((pre.length+c.length:Nat):Int))(e:∀z∈c,z<ws.length)(k:c.Pairwise (fun a b=>a<b))(hh:h.get g=some ⟨3,true,bP (pre++c++post)⟩)(bB:3000000<=lf)(tr:N<=1000000)(hE:iq h n g pw ws)(hg:g<n):
 aa (fun x=>x=g) n (ah ad gt lf (d+4) 253 #[.slice (some ⟨g,0,none⟩) N cap,jI a,jI b,FT pw]) h n fun v h' n'=>n'=n∧∃D,D.Perm c∧D.Pairwise (RI (aS ws))∧At h h' g (pre++D++post):=by
 by_cases r:1<=c.length
 ·exact abL lf d g n cap pw ws h pre c post N jO i tr r hE hg hh e k a b o l
 ·have s:c=[]:=uc jO;subst s;subst o l;have p:pre.length<=N:=by rw[<-i];simp
  rw[aF (fun _=>G3) rfl];refine aa.aD ?_;unfold xj FT
  have m:∀j,0<j->aa (fun x=>x=g) n (nQ lf (ah ad gt lf (d+3)) j (xi lf (ah ad gt lf (d+3))) (.slice (some ⟨g,0,none⟩) N cap) (jI (pre.length:Nat)) (jI (pre.length:Nat)) (.func (.func 249) #[] #[jP pw 0]) (jI ((pre.length:Nat)+1:Int))) h n fun v h' n'=>n'=n∧∃D,D.Perm []∧D.Pairwise (RI (aS ws))∧At h h' g (pre++D++post):=by
   intro j q;obtain⟨f,rfl⟩:∃f,j=f+1:=⟨j-1,jO⟩;have t:¬((pre.length:Nat):Int)+1<((pre.length:Nat):Int):=jO;rw[nQ];try simp(disch:=first|omega|assumption) only[Nat.reduceAdd,Nat.reduceLT,RZ,t]
   (try unfold xi);(try dsimp only)
   try simp(disch:=first|omega|assumption) only[Nat.reduceAdd,Nat.reduceLT,RZ]
   exact⟨[],ud _,IP,hh,fun b l=>rfl⟩
  try simp(disch:=first|omega|assumption) only[Nat.reduceAdd,Nat.reduceLT,RZ]
  exact m lf jO
include bB tr hN hE hg xw xx hW
theorem abW(k:Value->Value->Value->Value->Value->Value->Value->M Value)(A:∀e t U V (a:Int) q,V.length<20->nU (aS ws) xs t U V->a=((U.length+20:Nat):Int)->At h e g (U++V)->aa W n0 (k (.slice (some ⟨g,0,none⟩) N cap) (jI (N:Nat)) (FT pw) (jI 20) (jI (U.length:Nat)) (jI a) q) e n R):
 ∀(m:Nat) (U V:List Nat) (t c:Nat) (e:H) (a:Int),V.length<=m->m<c->nU (aS ws) xs t U V->a=((U.length+20:Nat):Int)->At h e g (U++V)->
  aa W n0 (th lf (ah ad gt lf (d+4)) c k (.slice (some ⟨g,0,none⟩) N cap) (jI (N:Nat)) (FT pw) (jI 20) (jI (U.length:Nat)) (jI a)) e n R:=by
 intro m
 induction m with
 |zero=>
  intro U V t c e a J w i o j;obtain⟨c,rfl⟩:∃f,c=f+1:=⟨c-1,jO⟩;have r:=i.2.2.2.2.length_eq;simp only[ay]at r;rw[th];have l:¬a<=((N:Nat):Int):=jO;try simp(disch:=first|omega|assumption) only[Nat.reduceAdd,Nat.reduceLT,RZ,l]
  exact A e t U V a _ jO i o j
 |succ m E=>
  intro U V t c e a J w i o j;obtain⟨c,rfl⟩:∃f,c=f+1:=⟨c-1,jO⟩;have r:=i.2.2.2.2.length_eq;simp only[ay]at r;rw[th];by_cases y:20<=V.length
  ·have l:a<=((N:Nat):Int):=jO;try simp(disch:=first|omega|assumption) only[Nat.reduceAdd,Nat.reduceLT,RZ,l]
   have B:U++V.take 20++V.drop 20=U++V:=by rw[b9,iC]
   have u:(V.take 20).length=20:=by rw[ed];omega
   refine aJ aE (SF lf g cap pw N ws d n e U (V.take 20) (V.drop 20) _ _ (by rw[B,ay];omega) rfl (by rw[u];exact o) (fun z F=>xw z (i.2.2.2.2.mem_iff.1 (yj _ (lG F)))) (i.2.2.1.sublist (VL _ _)) (by rw[B];exact j.1) bB tr (hE.keeps j.2) hg) xx (fun b _ I=>I▸hW) fun v K O _ _ G=> ?_;obtain⟨rfl,D,p,s,x⟩:=G;have C:IntKind.i64.wrap (a+20)=a+20:=aO jO jO;try simp(disch:=first|omega|assumption) only[Nat.reduceAdd,Nat.reduceLT,RZ,C]
   have P:=p.length_eq;have L:a=(((U++D).length:Nat):Int):=by rw[ay];omega
   rw[L];exact E (U++D) (V.drop 20) (t+1) c K _ (by rw[fO];omega) jO (i.next y p s) jO (j.trans x)
  ·have l:¬a<=((N:Nat):Int):=jO;try simp(disch:=first|omega|assumption) only[Nat.reduceAdd,Nat.reduceLT,RZ,l]
   exact A e t U V a _ jO i o j
theorem abX (C:Nat) (u1:20<=C) (u0:C<=2000000) (x13 r:Value) (k:Value->Value->Value->Value->Value->Value->Value->M Value)
 (F:∀e t U V (a:Int),V.length<2*C->l9 (aS ws) xs C t U V->At h e g (U++V)->aa W n0 (k (.slice (some ⟨g,0,none⟩) N cap) (jI (N:Nat)) (FT pw) (jI (C:Nat)) (jI (U.length:Nat)) (jI a) x13) e n R):
 ∀(m:Nat) (U V:List Nat) (t c:Nat) (e:H) (a:Int),V.length<=m->m<c->l9 (aS ws) xs C t U V->a=((U.length+2*C:Nat):Int)->At h e g (U++V)->
  aa W n0 (ti lf (ah ad gt lf (d+N+4)) c k (.slice (some ⟨g,0,none⟩) N cap) (jI (N:Nat)) (FT pw) (jI (C:Nat)) (jI (U.length:Nat)) (jI a) x13 r) e n R:=by
 intro m
 induction m with
 |zero=>
  intro U V t c e a hV w i Y j;obtain⟨c,rfl⟩:∃f,c=f+1:=⟨c-1,jO⟩;have u:=i.2.2.2.2.length_eq;simp only[ay]at u;rw[ti];have o:¬a<=((N:Nat):Int):=jO;try simp(disch:=first|omega|assumption) only[Nat.reduceAdd,Nat.reduceLT,RZ,o]
  exact F e t U V a jO i j
 |succ m L=>
  intro U V t c e a hV w i Y j;obtain⟨c,rfl⟩:∃f,c=f+1:=⟨c-1,jO⟩;have u:=i.2.2.2.2.length_eq;simp only[ay]at u;rw[ti];by_cases B:2*C<=V.length
  ·have o:a<=((N:Nat):Int):=jO;have I:IntKind.i64.wrap (((U.length:Nat):Int)+((C:Nat):Int))=((U.length+C:Nat):Int):=by rw[aO jO jO];omega
   have E:IntKind.i64.wrap (2*((C:Nat):Int))=((2*C:Nat):Int):=by rw[aO jO jO];omega
   have D:IntKind.i64.wrap (a+((2*C:Nat):Int))=a+((2*C:Nat):Int):=aO jO jO;try simp(disch:=first|omega|assumption) only[Nat.reduceAdd,Nat.reduceLT,RZ,o,I,E,D]
   have G:U++V.take C++(V.drop C).take C++V.drop (2*C)=U++V:=by rw[b9 U,SB,b9,iC]
   have lC:(V.take C).length=C:=by rw[ed];omega
   have lY:((V.drop C).take C).length=C:=by rw[ed,fO];omega
   have l:∀z∈V.take C++(V.drop C).take C,z<ws.length:=fun z O=>xw z (i.2.2.2.2.mem_iff.1 (yj _ (by
    rcases List.mem_append.1 O with q|q
    ·exact lG q
    ·exact ue (lG q))))
   have J:((V.drop C).take C).Pairwise (RI (aS ws)):=by have:=(i.2.2.1 1).1;rwa[ow]at this
   refine aJ aE (SE lf g cap pw N ws bB tr N d n e U (V.take C) ((V.drop C).take C) (V.drop (2*C)) _ _ _ jO (by rw[G,ay];omega) rfl jO jO jO jO (hE.keeps j.2) hg (by rw[G];exact j.1) l i.2.2.1.first J (fun x Q y P=>i.2.2.1.Sz x Q y (lG P))) xx (fun b _ X=>X▸hW) fun v h1 n1 _ _ T=> ?_;obtain⟨rfl,Z,p,s,A⟩:=T;try simp(disch:=first|omega|assumption) only[Nat.reduceAdd,Nat.reduceLT,RZ,E,D]
   have K:=p.length_eq;rw[ay]at K;have e2:a=(((U++Z).length:Nat):Int):=by rw[ay];omega
   rw[e2];exact L (U++Z) (V.drop (2*C)) (t+1) c h1 _ (by rw[fO];omega) jO (i.next B p s) jO (j.trans A)
  ·have o:¬a<=((N:Nat):Int):=jO;try simp(disch:=first|omega|assumption) only[Nat.reduceAdd,Nat.reduceLT,RZ,o]
   exact F e t U V a jO i j
theorem abY(x13:Value)(k:M Value)(K:∀c D,D.Perm xs->D.Pairwise (RI (aS ws))->At h c g D->aa W n0 (k) c n R):
 ∀(m C a:Nat) (D:List Nat) (c:H) (B x8:Value),N-C<=m->m<a->20<=C->C<=2000000->BS (aS ws) C D->D.Perm xs->At h c g D->
  aa W n0 (qV lf (ah ad gt lf (d+N+4)) a k (.slice (some ⟨g,0,none⟩) N cap) (jI (N:Nat)) (FT pw) (jI (C:Nat)) B x8 x13) c n R:=by
 intro m
 induction m with
 |zero=>
  intro C a D c B x8 hm F A L u i w;obtain⟨a,rfl⟩:∃f,a=f+1:=⟨a-1,jO⟩;rw[qV];have r:¬((C:Nat):Int)<((N:Nat):Int):=jO;try simp(disch:=first|omega|assumption) only[Nat.reduceAdd,Nat.reduceLT,RZ,r]
  exact K c D i (u.all (by rw[i.length_eq,hN];omega)) w
 |succ m J=>
  intro C a D c B x8 hm F A L u i w;obtain⟨a,rfl⟩:∃f,a=f+1:=⟨a-1,jO⟩;rw[qV];by_cases u0:C<N
  ·have r:((C:Nat):Int)<((N:Nat):Int):=jO;have P:IntKind.i64.wrap (2*((C:Nat):Int))=((2*C:Nat):Int):=by rw[aO jO jO];omega
   have E:IntKind.i64.wrap (((C:Nat):Int)*2)=((2*C:Nat):Int):=by rw[aO jO jO];omega
   have lD:=i.length_eq;try simp(disch:=first|omega|assumption) only[Nat.reduceAdd,Nat.reduceLT,RZ,r,P]
   refine abX lf g cap pw N ws bB tr d n h xs hN hE hg xw xx hW C A L _ _ _ (fun l t U V a8 hV j e=> ?_) D.length [] D 0 lf c _ (ag _) jO (l9.start u i) jS w
   (try unfold aba);(try unfold BL);(try dsimp only)
   have T:=j.2.2.2.2.length_eq;simp only[ay]at T;have I:IntKind.i64.wrap (((U.length:Nat):Int)+((C:Nat):Int))=((U.length+C:Nat):Int):=by rw[aO jO jO];omega
   by_cases hM:C<V.length
   ·have G:((U.length+C:Nat):Int)<((N:Nat):Int):=jO;try simp(disch:=first|omega|assumption) only[Nat.reduceAdd,Nat.reduceLT,RZ,I,G,E]
    have O:U++V.take C++V.drop C++[]=U++V:=by rw[bV,b9,iC]
    have lC:(V.take C).length=C:=by rw[ed];omega
    have lY:(V.drop C).length=V.length-C:=fO;have o:∀z∈V.take C++V.drop C,z<ws.length:=fun z X=>xw z (j.2.2.2.2.mem_iff.1 (yj _ (by rwa[iC]at X)))
    have Q:(V.drop C).Pairwise (RI (aS ws)):=by have:=(j.2.2.1 1).1;rw[ow,fZ jO]at this;exact this
    refine aJ aE (SE lf g cap pw N ws bB tr N d n l U (V.take C) (V.drop C) [] _ _ _ jO (by rw[O,ay];omega) rfl jO jO jO jO (hE.keeps e.2) hg (by rw[O];exact e.1) o j.2.2.1.first Q (fun x hx y Y=>j.2.2.1.Sz x hx y Y)) xx (fun b _ hb=>hb▸hW) fun v A n1 _ _ hq=> ?_;obtain⟨rfl,Z,p,s,q⟩:=hq;try simp(disch:=first|omega|assumption) only[Nat.reduceAdd,Nat.reduceLT,RZ,E]
    rw[bV]at q;obtain⟨q1,q2⟩:=j.last hV p s;exact J (2*C) a (U++Z) A _ _ jO jO jO jO q1 q2 (e.trans q)
   ·have G:¬((U.length+C:Nat):Int)<((N:Nat):Int):=jO;try simp(disch:=first|omega|assumption) only[Nat.reduceAdd,Nat.reduceLT,RZ,I,G,E]
    obtain⟨q1,q2⟩:=j.none jO;exact J (2*C) a (U++V) l _ _ jO jO jO jO q1 q2 e
  ·have r:¬((C:Nat):Int)<((N:Nat):Int):=jO;try simp(disch:=first|omega|assumption) only[Nat.reduceAdd,Nat.reduceLT,RZ,r]
   exact K c D i (u.all (by rw[i.length_eq,hN];omega)) w
end
theorem abZ(lf g cap pw N:Nat)(ws:List Int)(e:3000000<=lf)(i:N<=1000000)(d n:Nat)(h:H)(xs:List Nat)(C:xs.length=N)(y:iq h n g pw ws)(w:g<n)(f:∀z∈xs,z<ws.length)(r:xs.Pairwise (fun a b=>a<b))(hh:h.get g=some ⟨3,true,bP xs⟩):
 aa (fun x=>x=g) n (ah ad gt lf (d+N+6) 248 #[.slice (some ⟨g,0,none⟩) N cap,FT pw]) h n fun v h' n'=>n'=n∧∃D,D.Perm xs∧D.Pairwise (RI (aS ws))∧At h h' g D:=by
 rw[aF (fun _=>RQ) rfl];refine aa.aD ?_;unfold GY;try simp(disch:=first|omega|assumption) only[Nat.reduceAdd,Nat.reduceLT,RZ]
 have k:aa (fun x=>x=g) n (ah ad gt lf (d+N+5) 251 #[.slice (some ⟨g,0,none⟩) N cap,jI (N:Nat),FT pw]) h n fun v h' n'=>n'=n∧∃D,D.Perm xs∧D.Pairwise (RI (aS ws))∧At h h' g D:=by
  rw[aF (fun _=>R1) rfl];refine aa.aD ?_;unfold BN
  have:=abW (W:=fun x=>x=g) (R:=fun v h' n'=>n'=n∧∃D,D.Perm xs∧D.Pairwise (RI (aS ws))∧At h h' g D) lf g cap pw N ws e i (d+N) n h xs C y w f (ag n) (.inr rfl) (xg lf (ah ad gt lf (d+N+4))) (fun L t U V P q T o O B=>by
   (try unfold xg);(try dsimp only)
   have I:=o.2.2.2.2.length_eq;simp only[ay]at I;refine aJ aE (SF lf g cap pw N ws (d+N) n L U V [] _ _ (by rw[bV,ay];omega) rfl jO (fun z J=>f z (o.2.2.2.2.mem_iff.1 (yj _ J))) o.2.2.1 (by rw[bV];exact B.1) e i (y.keeps B.2) w) (ag n) (fun b _ m=> .inr m) fun v E j _ _ u=> ?_;obtain⟨rfl,D,p,s,l⟩:=u;rw[bV]at l;obtain⟨q1,q2⟩:=o.last jO p s
   have:=abY (W:=fun x=>x=g) (n0:=j) (R:=fun v h' n'=>n'=j∧∃D,D.Perm xs∧D.Pairwise (RI (aS ws))∧At h h' g D) lf g cap pw N ws e i d j h xs C y w f (ag j) (.inr rfl) q (BM lf (ah ad gt lf (d+N+4))) (fun K Q G F A=>by
    (try unfold BM);(try unfold c);(try dsimp only)
    try simp(disch:=first|omega|assumption) only[Nat.reduceAdd,Nat.reduceLT,RZ]
    exact⟨Q,G,F,A⟩) N 20 lf (U++D) E (jI (U.length:Nat)) (jI P) jO jO jO jO q1 q2 (B.trans l)
   exact this) N [] xs 0 lf h 20 jO jO (nU.start _ r) jS ⟨by simpa using hh,fun b m=>rfl⟩
  exact this
 refine aJ aE k (ag n) (fun b _ m=> .inr m) fun v E j _ _ u=> ?_;try simp(disch:=first|omega|assumption) only[Nat.reduceAdd,Nat.reduceLT,RZ]
 exact u
theorem vl(lf d n:Nat)(h:H)(v:Value)(xs:List Int)(t:Row h n 3 .i64 v xs)(u:0<xs.length)(x:xs.length<=1000000):
 aa (fun _=>False) n (ah ad gt lf (d+1) 156 #[v]) h n fun g h' n'=>(0<xs.length->Own h' n n' 3 g (aR .i64 xs))∧Row h' n' 3 .i64 g xs∧∀b,aq g b->n<=b:=by
 rw[aF (fun _=>PO) rfl];refine aa.aD ?_;unfold F9;rcases t with ⟨a,c,rfl,_,rfl⟩|⟨b,e,cap,o,w,rfl,r,f,i,p,y⟩
 ·exact absurd u jS
 ·refine jB ?_;refine YA trivial _ ?_;have j:(h.set n (some ⟨3,true,[]⟩)).get b=some ⟨3,o,w⟩:=by rw[ak _ _ jO];exact r
  by_cases k:xs.length=0
  ·have m:xs=[]:=List.length_eq_zero_iff.1 k;subst m;refine Lw (news:=[]) trivial rfl _ _ _ _ ?_;refine jB ?_;refine⟨fun q=>absurd q jS,.inr ⟨n,0,0,true,[],rfl,get_eq _ _ _,jO,jS,by simp[aR],jS⟩,fun b f=>by rw[f.inj];exact ag n⟩
  ·have s:Src (h.set n (some ⟨3,true,[]⟩)) (n+1) (.slice (some ⟨b,e,none⟩) xs.length cap) (aR .i64 xs):=⟨b,e,cap,_,by rw[cO],j,jO,by rw[cO];exact i,by rw[cO];exact p⟩;refine Yy trivial s (by rw[cO];omega) (E3 _ _) (get_eq _ _ _) rfl (dL n) 0 0 jS rfl (by rw[cO];omega) (by unfold aL;omega) (by rw[cO];omega) _ ?_;refine jB ?_;have l:Own ((h.set n (some ⟨3,true,[]⟩)).set (n+1) (some ⟨3,true,[]++aR .i64 xs⟩)) n (n+1+1) 3 (.slice (some ⟨n+1,0,none⟩) (aR .i64 xs).length (aL+(aR .i64 xs).length)) (aR .i64 xs):= .inr ⟨n+1,rfl,by rw[get_eq];rfl,jO,jO⟩;exact⟨fun _=>l,l.row,fun b f=>by rw[f.inj];omega⟩
structure SG (h1 hr:H) (n1 nr g:Nat) (wv lv iv:Value) (N i:Nat):Prop where
 hg:hr.get g=some ⟨276,true,[wv,iv,lv,jI (N:Nat)]⟩
 ar:∀b,b<n1->b≠g->hr.get b=h1.get b
 ol:Own hr n1 nr 3 lv (bP (aV i))
 oi:Own hr n1 nr 3 iv (ints (bI i (-1)))
 dis:∀b,aq lv b->¬aq iv b
 le:n1<=nr
theorem trA (lf d:Nat) (G:H) (v g:Nat) (s:Value) (N:Nat) (K D J:Value) (hg:g<v) (hN:N<=1000000) {W:Nat->Prop} {n0:Nat} (P:n0<=g) {R:Value->H->Nat->Prop} (k:(Value->Value->M Value))
 (E:∀l c lv e,SG G l v c g s lv e N N->aa W n0 (k D (jP g 0)) l c R):
 ∀(m i j:Nat) (l:H) (c:Nat) (lv e:Value),N-i<=m->m<j->i<=N->SG G l v c g s lv e N i->
  aa W n0 (tf lf (ah ad gt lf d) j k K D J (jP g 0) (jI (N:Nat)) (jI (i:Nat))) l c R:=by
 intro m
 induction m with
 |zero=>
  intro i j l c lv e Q C X w;obtain⟨j,rfl⟩:∃f,j=f+1:=⟨j-1,jO⟩;obtain rfl:i=N:=jO;rw[tf];try simp(disch:=first|omega|assumption) only[Nat.reduceAdd,Nat.reduceLT,RZ,cb]
  exact E l c lv e w
 |succ m O=>
  intro i j l c lv e Q C X w;obtain⟨j,rfl⟩:∃f,j=f+1:=⟨j-1,jO⟩;rw[tf];by_cases T:i<N
  ·have e1:((i:Nat):Int)<((N:Nat):Int):=jO;obtain⟨I,x,n,h,u,U⟩:=w;have Y:g<c:=jO;try simp(disch:=first|omega|assumption) only[Nat.reduceAdd,Nat.reduceLT,RZ,e1,I]
   refine nJ trivial (l4 _ _) n (by rw[pG];simp;omega) jO _ (fun F B p=> ?_);have y:∀b,aq lv b->b≠g:=fun b a=>by have:=(n.lt a).1;omega
   have c2:F.get g=some ⟨276,true,[s,e,lv,jI (N:Nat)]⟩:=by rw[p g jO (fun a=>y g a rfl)];exact I
   try simp(disch:=first|omega|assumption) only[Nat.reduceAdd,Nat.reduceLT,RZ,c2]
   refine⟨.inl jO, ?_⟩
   have t:Own (F.set g (some ⟨276,true,[s,e,.slice (some ⟨c+1,0,none⟩) ((bP (aV i)).length+1) (aL+((bP (aV i)).length+1)),jI (N:Nat)]⟩)) v (c+2) 3 e (ints (bI i (-1))):=h.ar jO fun b a=>by have:=h.lt a;rw[ak _ _ jO];exact p b jO (fun q=>u b q a)
   refine nJ trivial (l4 _ _) t (by rw[jH];simp;omega) jO _ (fun Z A o=> ?_);have z:∀b,aq e b->b≠g:=fun b a=>by have:=(h.lt a).1;omega
   have c3:Z.get g=some ⟨276,true,[s,e,.slice (some ⟨c+1,0,none⟩) ((bP (aV i)).length+1) (aL+((bP (aV i)).length+1)),jI (N:Nat)]⟩:=by rw[o g jO (fun a=>z g a rfl),get_eq]
   try simp(disch:=first|omega|assumption) only[Nat.reduceAdd,Nat.reduceLT,RZ,c3]
   refine⟨.inl jO, ?_⟩;have L:((i:Nat):Int)+1=((i+1:Nat):Int):=jO;rw[L];refine O (i+1) j _ _ _ _ jO jO jO ⟨by rw[get_eq],fun b a r=> ?_, ?_, ?_,fun b a q=> ?_,jO⟩
   ·rw[ak _ _ r,o b jO (fun q=>by have:=(h.lt q).1;omega),ak _ _ r,p b jO (fun q=>by have:=(n.lt q).1;omega)];exact x b a r
   ·have:bP (aV (i+1))=bP (aV i)++[jI (i:Nat)]:=by unfold bP;rw[List.range_succ,gZ];rfl
    rw[this];refine Own.mk' ?_ jO jO jS;rw[ak _ _ jO,o _ jO (fun q=>by have:=(h.lt q).2;omega),ak _ _ jO];exact B
   ·have:ints (bI (i+1) (-1))=ints (bI i (-1))++[jI (-1)]:=by unfold ints;rw[List.replicate_succ',gZ];rfl
    rw[this];refine Own.mk' ?_ jO jO jS;rw[ak _ _ jO];exact A
   ·rw[a.inj]at q;have:=q.inj;omega
  ·obtain rfl:i=N:=jO;try simp(disch:=first|omega|assumption) only[Nat.reduceAdd,Nat.reduceLT,RZ,cb]
   exact E l c lv e w
def Start(ws:List Int)(D:List Nat):HT:={weight:=ws,bK:=bI ws.length (-1),leaves:=D,aZ:=ws.length}
set_option maxHeartbeats 1000000 in
theorem ab0(lf d n:Nat)(h:H)(v:Value)(ws:List Int)(hR:Row h n 3 .i64 v ws)(h1:1<=ws.length)(Q:ws.length<=1000000)(O:3000000<=lf):
 aa (fun _=>False) n (ah ad gt lf (d+ws.length+7) 243 #[v]) h n fun v' h' n'=>∃g i l f cl D,v'=jP g 0∧D.Perm (aV ws.length)∧D.Pairwise (RI (aS ws))∧kZ h' n' g (Start ws D) i l f 0 cl (bP D)∧n<=g∧n<=i∧n<=l∧n<=f:=by
 have Y:=hR;obtain⟨b,j,cap,o,cs,rfl,hg,U,u4,ht,T,W⟩:=hR.some jO;rw[aF (fun _=>RN) rfl];refine aa.aD ?_;unfold BK;refine lX trivial _ _ ?_;obtain⟨x,u⟩:∃x,h.set n (some ⟨141,true,(Value.slice (some ⟨b,j,none⟩) ws.length cap).cells.toList⟩)=x:=⟨_,rfl⟩;have p2:x.get n=some ⟨141,true,[.slice (some ⟨b,j,none⟩) ws.length cap]⟩:=by rw[<-u,get_eq];rfl
 have k2:∀c,c<n->x.get c=h.get c:=fun c T=>by rw[<-u,ak _ _ jO]
 rw[u];have X:Row x (n+1) 3 .i64 (.slice (some ⟨b,j,none⟩) ws.length cap) ws:=Y.ar jO k2;refine E1 trivial n 0 _ p2 jO rfl ?_;refine E2 aE (vl lf (d+ws.length+5) (n+1) x _ ws X jO Q) jO (fun _ _ h=>h.elim) fun v3 F k L u3 C G v0 Z=> ?_;obtain⟨G,_,_⟩:=G;have m:=G jO
 obtain⟨i,rfl⟩:∃i,v3= .slice (some ⟨i,0,none⟩) ws.length (aL+ws.length):=by
  rcases m with ⟨_,q⟩|⟨i,q,_⟩
  ·have:=congrArg qb q;rw[cO]at this;simp only[eF]at this;omega
  ·rw[cO]at q;exact⟨i,q⟩
 have u9:=m.lt ⟨_,_,_,rfl⟩
 have u0:F.get i=some ⟨3,true,ints ws⟩:=by
  rcases m with ⟨q,_⟩|⟨c,q,r,_⟩
  ·cases q
  ·injection q with q;injection q with q;injection q with q;rw[q];exact r
 have p3:F.get n=some ⟨141,true,[.slice (some ⟨b,j,none⟩) ws.length cap]⟩:=by rw[C n jO (fun q=>q)];exact p2
 refine E1 trivial n 0 _ p3 jO rfl ?_;try simp(disch:=first|omega|assumption) only[Nat.reduceAdd,Nat.reduceLT,RZ]
 refine LB trivial _ _ ?_
 have R:fo ⟨n+1,k,L⟩ ⟨k,k,[⟨false,n,some 0⟩]⟩=false:=(D3 _ _).trans<|YC (fun e he=>by
  cases hw:e.wr with
  |false=>rfl
  |true=>exact(Z e he hw).elim) (by show n<n+1;omega)
 simp only[R,iD,Bool.and_self,pf];obtain⟨w,t⟩:∃w,F.set k (some ⟨276,true,(Value.agg #[.slice (some ⟨i,0,none⟩) ws.length (aL+ws.length),.slice none 0 0,.slice none 0 0,jI (ws.length:Nat)]).cells.toList⟩)=w:=⟨_,rfl⟩;rw[t];have g4:w.get k=some ⟨276,true,[.slice (some ⟨i,0,none⟩) ws.length (aL+ws.length),.slice none 0 0,.slice none 0 0,jI (ws.length:Nat)]⟩:=by rw[<-t,get_eq];rfl
 have I:∀c,c<k->w.get c=F.get c:=fun c T=>by rw[<-t,ak _ _ jO]
 have p4:w.get n=some ⟨141,true,[.slice (some ⟨b,j,none⟩) ws.length cap]⟩:=by rw[I n jO];exact p3
 try simp(disch:=first|omega|assumption) only[Nat.reduceAdd,Nat.reduceLT,RZ,p4]
 refine trA lf (d+ws.length+6) w (k+1) k (.slice (some ⟨i,0,none⟩) ws.length (aL+ws.length)) ws.length _ _ _ jO Q jO _ (fun p y lv iv hT=> ?_) ws.length 0 lf w (k+1) (.slice none 0 0) (.slice none 0 0) jO jO (cL _) ⟨g4,fun b _ _=>rfl,Own.nil _ _ _ _,Own.nil _ _ _ _,fun b U=>U.not_nil.elim,ag _⟩
 (try unfold GV);(try dsimp only)
 obtain⟨c0,s,K,N,A,u2⟩:=hT
 obtain⟨f,rfl,gl,u5,P⟩:∃f,lv= .slice (some ⟨f,0,none⟩) ws.length (aL+ws.length)∧p.get f=some ⟨3,true,bP (aV ws.length)⟩∧k+1<=f∧f<y:=by
  rcases K with ⟨_,q⟩|⟨f,q,r,a,c⟩
  ·have:=congrArg qb q;rw[pG,kC]at this;simp only[eF]at this;omega
  ·rw[pG,kC]at q;exact⟨f,q,r,a,c⟩
 obtain⟨l,rfl,gi,u7,u6⟩:∃l,iv= .slice (some ⟨l,0,none⟩) ws.length (aL+ws.length)∧p.get l=some ⟨3,true,ints (bI ws.length (-1))⟩∧k+1<=l∧l<y:=by
  rcases N with ⟨_,q⟩|⟨f,q,r,a,c⟩
  ·have:=congrArg qb q;rw[jH,oD]at this;simp only[eF]at this;omega
  ·rw[jH,oD]at q;exact⟨f,q,r,a,c⟩
 have B:f≠l:=fun e=>A f ⟨_,_,_,rfl⟩ ⟨0,_,_,by rw[e]⟩;have v1:k<y:=jO;try simp(disch:=first|omega|assumption) only[Nat.reduceAdd,Nat.reduceLT,RZ,c0]
 have pr:p.get n=some ⟨141,true,[.slice (some ⟨b,j,none⟩) ws.length cap]⟩:=by rw[s n jO jO];exact p4
 have br:p.get b=some ⟨3,o,cs⟩:=by rw[s b jO jO,I b jO,C b jO (fun q=>q),k2 b U];exact hg
 have wr:p.get i=some ⟨3,true,ints ws⟩:=by rw[s i jO jO,I i jO];exact u0
 have u1:iq p y f n ws:=⟨⟨b,j,cap,_,_,_,_,cs,pr,br,jO,jO,W⟩,jO,jO⟩;refine aJ aE (abZ lf f (aL+ws.length) n ws.length ws O Q d y p (aV ws.length) jS u1 P (fun z hz=>List.mem_range.1 hz) List.pairwise_lt_range gl) jO (fun c _ T=> .inl jO) fun v5 h5 n5 _ _ r=> ?_;obtain⟨rfl,D,J,hs,E⟩:=r;try simp(disch:=first|omega|assumption) only[Nat.reduceAdd,Nat.reduceLT,RZ]
 refine⟨k,i,l,f,aL+ws.length,D,rfl,J,hs,⟨?_, ?_, ?_,E.1, ?_, ?_, ?_,jO⟩,jO,jO,jO,jO⟩
 ·rw[E.2 k jO,c0];have:=J.length_eq;simp at this;simp[Start,this]
 ·rw[E.2 i jO];exact wr
 ·rw[E.2 l (fun e=>B e.symm)];exact gi
 ·rw[pG];exact Nat.le_of_eq (fD _)
 ·rw[dj];show(bP D).take D.length=bP D;rw[fZ (by rw[pG];exact ag _)]
 ·have:=J.length_eq;simp at this;show D.length<=_;omega
end Go.Proofs.YtcehhgppfahbkaaGreatDoor
namespace Go.Proofs.YtcehhgppfahbkaaGreatDoor
end Go.Proofs.YtcehhgppfahbkaaGreatDoor
namespace Go.Proofs.YtcehhgppfahbkaaGreatDoor
open Go.RowKit Ev Hu
def ir(a:List Int):Nat->List Int->List Int
 |0,out=>out
 |i+1,out=>ir a i (out.set i (out.getD (a.getD i 0).toNat 0+1))
def fa(ws:List Int)(D:List Nat):HT:=cT (ws.length-1) (Start ws D)
def mb(ws:List Int)(D:List Nat):List Int:=(ir (fa ws D).bK (2*ws.length-2) (bI (2*ws.length-1) 0)).take ws.length
theorem B4(a:List Int):∀(i:Nat) (out:List Int),(ir a i out).length=out.length
 |0,out=>rfl
 |i+1,out=>by unfold ir;rw[B4 a i];simp
theorem xy(ws:List Int)(D:List Nat)(h:1<=ws.length):(mb ws D).length=ws.length:=by unfold mb;rw[ed,B4,oD];omega
theorem SH{ws:List Int}{D:List Nat}{S:Int}(j:D.Perm (aV ws.length))(o:∀x∈ws,0<=x)(p:bu ws=S):fV ws.length 0 [] S (Start ws D):=by
 have c:=j.length_eq;rw[kC]at c;have f:∀i∈D,i<ws.length:=fun i g=>List.mem_range.1 (j.mem_iff.1 g);have e:=vi ws o;rw[p]at e
 have d:∀{a b:List Int},a.Perm b->bu a=bu b:=by
  intro a b h
  induction h with
  |nil=>rfl
  |cons x _ q=>simp only[bu,q]
  |swap x y l=>simp only[bu];omega
  |trans _ _ m k=>exact m.trans k
 refine⟨rfl,by simp[Start],f,fun i g=>by simp at g,ag _,ag _,by simp[Start,c],fun i g=> ?_, ?_,fun i g n=> ?_⟩
 ·have:ws.getD i 0∈ws:=by rw[au,aC jO];exact cu _
  exact⟨o _ this,e.2 _ this⟩
 ·unfold pF;simp only[Start,Nat.add_zero,oA,List.range'_zero,bV,p7];rw[d (j.map _),<-p];congr 1;apply List.ext_getElem
  ·simp
  ·intro i r n;simp[bj,n]
 ·exact absurd (j.mem_iff.2 (List.mem_range.2 jO)) n
theorem step_ok{n k:Nat}{S:Int}{t:HT}(h:fV n k [] S t)(g:k+2<=n):fV n k [Hu.leastOf t] S (taken t)∧Hu.leastOf t<n+k∧fV n k [Hu.leastOf t,Hu.leastOf (taken t)] S (taken (taken t))∧Hu.leastOf (taken t)<n+k∧fV n (k+1) [] S (pD t)∧(pD t).aZ<=n+k:=by have d:=h.left;simp only[eF]at d;obtain⟨c,f⟩:=h.take jO;have a:=c.left;simp only[p7,bL,eF]at a;obtain⟨b,e⟩:=c.take jO;exact⟨c,f,b,e,b.join,b.jh⟩
theorem SI{n k:Nat}{P:List Nat}{S:Int}{t:HT}(h:fV n k P S t)(b:1<=t.leaves.length+(n+k-t.aZ)):(fK t=true->0<t.leaves.length)∧(0<t.leaves.length->t.leaves.getD 0 0<t.weight.length)∧t.aZ<=t.weight.length:=by
 refine⟨fun a=> ?_,fun c=> ?_,by rw[h.wl];exact h.jh⟩
 ·obtain⟨r,e,_⟩:=G' h b a;rw[e];simp
 ·have:=h.leaf (t.leaves.getD 0 0) (by rw[au,aC c];exact cu _);rw[h.wl];omega
set_option maxHeartbeats 2000000 in
theorem dpA (lf d n:Nat) (N:Nat) (S:Int) (s:HT) (g:Nat) (Y X:Value) (u6:2<=N) (u5:N<=1000) (hS:S<=1152921504606846976) {W:Nat->Prop} {n0:Nat} {R:Value->H->Nat->Prop} (k:(Value->Value->Value->Value->Value->Value->M Value)) (lo:Nat) (u2:n0<=lo) (hg:lo<=g)
 (hK:∀p b j o l off u cs D,n<=b->kZ p b g (cT (N-1) s) j o l off u cs->fV N (N-1) [] S (cT (N-1) s)->(cT (N-1) s).aZ<N+(N-1)->aa W n0 (k Y X (jP g 0) (jI ((N-1:Nat):Int)) (jI ((N-1:Nat):Int)) D) p b R):
 ∀(m a h:Nat) (p:H) (b j o l off u:Nat) (cs:List Value),N-1-a=m->m<h->a<=N-1->n<=b->lo<=b->lo<=j->lo<=o->kZ p b g (cT a s) j o l off u cs->fV N a [] S (cT a s)->(a=0∨(cT a s).aZ<N+a)->
  aa W n0 (ta lf (ah ad gt lf (d+1)) h k Y X (jP g 0) (jI ((N-1:Nat):Int)) (jI (a:Nat))) p b R:=by
 intro m
 induction m with
 |zero=>
  intro a h p b j o l off u cs hm K J Z I G F C q hj;obtain⟨h,rfl⟩:∃f,h=f+1:=⟨h-1,jO⟩;obtain rfl:a=N-1:=jO;rw[ta];try simp(disch:=first|omega|assumption) only[Nat.reduceAdd,Nat.reduceLT,RZ,cb]
  exact hK p b j o l off u cs _ Z C q jO
 |succ m ih=>
  intro a h p b j o l off u cs hm K J Z I G F C q hj;obtain⟨h,rfl⟩:∃f,h=f+1:=⟨h-1,jO⟩;rw[ta];have e1:((a:Nat):Int)<((N-1:Nat):Int):=jO;obtain⟨t,B⟩:∃t,cT a s=t:=⟨_,rfl⟩;rw[B]at C q hj;obtain⟨v,s2,A,s4,s5,s6⟩:=step_ok q jO;have q1:=SI q (by have:=q.left;simp only[eF]at this;omega);have q2:=SI v (by have:=v.left;simp only[bL,eF]at this;omega);have wl:=q.wl;have hl:=q.left;have u0:=v.wl;have l1:=v.left;have E:=A.wl;have l2:=A.left;simp only[bL,eF]at l1 l2;have e2:((a:Nat):Int)+1=((a+1:Nat):Int):=jO;try simp(disch:=first|omega|assumption) only[Nat.reduceAdd,Nat.reduceLT,RZ,e1]
  refine aJ aE (Sq lf d g b p t j o l off u cs C (by have:=q.jh;omega) jO jO q1.1 q1.2.1 q1.2.2) jO (fun c _ hc=> .inl jO) fun v1 h1 n1 _ _ y=> ?_;obtain⟨rfl,rfl,w,Q,P⟩:=y;refine aJ aE (Sq lf d g n1 h1 (taken t) j o l w Q cs P (by have:=v.jh;omega) jO jO q2.1 q2.2.1 q2.2.2) jO (fun c _ hc=> .inl jO) fun v2 h2 n2 _ _ y=> ?_;obtain⟨rfl,rfl,r,z,O⟩:=y;refine aJ aE (abm lf d g n2 (Hu.leastOf t) (Hu.leastOf (taken t)) h2 (taken (taken t)) j o l r z cs O jO (by rw[E,A.il]) jO jO (fun x hx=> ?_)) jO (fun c _ hc=> .inl jO) fun v3 h3 n3 _ _ y=> ?_
  ·obtain⟨i,hi,e⟩:=List.mem_iff_getElem.1 hx;have:=A.pos i jO;have e3:bj (taken (taken t)) i=x:=by unfold bj;rw[au,aC hi,<-e];rfl
   rw[e3]at this;omega
  obtain⟨rfl,u1,T,U,L,u4,u3⟩:=y;try simp(disch:=first|omega|assumption) only[Nat.reduceAdd,Nat.reduceLT,RZ]
  rw[e2];refine ih (a+1) h h3 n3 T U l r z cs jO jO jO jO jO jO jO ?_ ?_ ?_
  ·rw[vh,B];exact L
  ·rw[vh,B];exact s5
  ·rw[vh,B];exact .inr jO
def ab1(T i:Nat)(out:List Int):Prop:=out.length=T∧∀j,j<T->0<=out.getD j 0∧out.getD j 0<=((T-j:Nat):Int)
theorem dpB (lf d n:Nat) (N T:Nat) (t:HT) (g r ci e D:Nat) (F lv G:Value) (A E x11 x12 x13:Value) (X:1<=T) (U:T<=100000) (il:t.bK.length=T) (P:e<n) (O:g<n) (B:r<n) (Q:e≠g∧e≠r) (v:∀i,i<T-1->(i:Int)<t.bK.getD i 0∧t.bK.getD i 0<(T:Int)) {W:Nat->Prop} {n0:Nat} (u:n0<=e) {R:Value->H->Nat->Prop} (k:(Value->Value->M Value)) (l:List Int)
 (Y:∀c,c.get e=some ⟨3,true,ints l⟩->aa W n0 (k A (.slice (some ⟨e,0,none⟩) T D)) c n R):
 ∀(i b:Nat) (c:H) (out:List Int),i<b->i<=T-1->c.get g=some ⟨276,true,[F,.slice (some ⟨r,0,none⟩) T ci,lv,G]⟩->c.get r=some ⟨3,true,ints t.bK⟩->c.get e=some ⟨3,true,ints out⟩->ab1 T i out->ir t.bK i out=l->
  aa W n0 (tc lf (ah ad gt lf d) b k A E (jP g 0) (.slice (some ⟨e,0,none⟩) T D) (jI ((i:Int)-1)) x11 x12 x13) c n R:=by
 intro i
 induction i with
 |zero=>
  intro b c out x L w o s q a;obtain⟨b,rfl⟩:∃f,b=f+1:=⟨b-1,jO⟩;rw[tc];have z:¬(0:Int)<=((0:Nat):Int)-1:=jO;try simp(disch:=first|omega|assumption) only[Nat.reduceAdd,Nat.reduceLT,RZ,z]
  unfold ir at a;subst a;exact Y c s
 |succ i I=>
  intro b c out x L w o s q a;obtain⟨b,rfl⟩:∃f,b=f+1:=⟨b-1,jO⟩;obtain⟨q1,q2⟩:=v i jO;obtain⟨J,C⟩:∃J:Nat,t.bK.getD i 0=(J:Nat):=⟨(t.bK.getD i 0).toNat,jO⟩;have g1:(ints t.bK)[i]? =some (jI ((J:Nat):Int)):=by rw[ints_at jO,C]
  have y:J<T:=jO;have Z:i<J:=jO;have g2:(ints out)[J]? =some (jI (out.getD J 0)):=ints_at (by rw[q.1];omega);have oJ:=q.2 J y;have e0:(((i+1:Nat):Int)-1)=((i:Nat):Int):=jO;have z:(0:Int)<=((i:Nat):Int):=jO;have p:out.length=T:=q.1
  have m:ir t.bK i (out.set i (out.getD J 0+1))=l:=by rw[<-a];show _=ir t.bK i (out.set i (out.getD (t.bK.getD i 0).toNat 0+1));rw[C];rfl
  rw[tc,e0];try simp(disch:=first|omega|assumption) only[Nat.reduceAdd,Nat.reduceLT,RZ,z,w,o,s,g1,g2,ints_set,jH,p]
  refine⟨jO,.inl u, ?_⟩;refine I b _ (out.set i (out.getD J 0+1)) jO jO (by rw[ak _ _ jO];exact w) (by rw[ak _ _ jO];exact o) (get_eq _ _ _) ?_ m
  ·refine⟨by rw[oC];exact p,fun j K=> ?_⟩;rw[pE];have:=q.2 j K;split
   ·rename_i h;obtain⟨rfl,_⟩:=h;omega
   ·exact this
set_option maxHeartbeats 2000000 in
theorem ab2(lf d n:Nat)(h:H)(v:Value)(ws:List Int)(O:Row h n 3 .i64 v ws)(h2:2<=ws.length)(hl:ws.length<=1000)(w:3000000<=lf)(X:∀x∈ws,0<=x)(hS:bu ws<=1152921504606846976):
 aa (fun _=>False) n (ah ad gt lf (d+ws.length+8) 233 #[v]) h n fun F h' n'=>∃D,D.Perm (aV ws.length)∧D.Pairwise (RI (aS ws))∧Row h' n' 3 .i64 F (mb ws D)∧∀b,aq F b->n<=b:=by
 rw[aF (fun _=>RA) rfl];refine aa.aD ?_;unfold BF;refine aJ aE (ab0 lf d n h v ws O jO jO w) (ag n) (fun _ _ h=>h.elim) fun v1 h1 G u1 u5 hq=> ?_;obtain⟨g,bw,bi,bl,cl,D,rfl,J,Y,hT,B,u,A,u2⟩:=hq;obtain⟨a,c,rfl⟩:=O.len;have T:IntKind.i64.wrap (((ws.length:Nat):Int)-1)=((ws.length-1:Nat):Int):=by rw[aO jO jO];omega
 try simp(disch:=first|omega|assumption) only[Nat.reduceAdd,Nat.reduceLT,RZ,T]
 refine dpA lf (d+ws.length+6) G ws.length (bu ws) (Start ws D) g _ _ h2 hl hS _ n (ag n) B (fun hr t u7 E u9 U u6 cs P u0 r s y=> ?_) (ws.length-1) 0 lf h1 G bw bi bl 0 cl (bP D) jO jO jO (ag _) jO u A hT (SH J X rfl) (.inl rfl)
 (try unfold BE);(try dsimp only)
 have m:cT (ws.length-1) (Start ws D)=fa ws D:=rfl;rw[m]at r s y;obtain⟨k,L,q,N,_,_,_,C⟩:=r;have u4:g<t:=C.2.2.2.2.2.2.1;have Q:(fa ws D).weight.length=2*ws.length-1:=by rw[s.wl];omega
 have I:(fa ws D).bK.length=2*ws.length-1:=by rw[s.il];omega
 have e:=s.left;simp only[eF]at e;have p:(fa ws D).leaves=[]:=uc jO;have u3:(fa ws D).aZ=2*ws.length-2:=by rw[p]at e;simp only[eF]at e;omega
 have z:∀i,i<2*ws.length-1-1->(i:Int)<(fa ws D).bK.getD i 0∧(fa ws D).bK.getD i 0<((2*ws.length-1:Nat):Int):=fun i hi=>by have:=s.bK i jO (by rw[p];simp) jO jS;omega
 rw[Q,I]at k;try simp(disch:=first|omega|assumption) only[Nat.reduceAdd,Nat.reduceLT,RZ,k]
 refine Ev.run_make trivial (2*ws.length-1) (2*ws.length-1) _ (ag _) jO ?_;have R:IntKind.i64.wrap (((2*ws.length-1:Nat):Int)-2)=((2*ws.length-2:Nat):Int)-1:=by rw[aO jO jO];omega
 try simp(disch:=first|omega|assumption) only[Nat.reduceAdd,Nat.reduceLT,RZ,R]
 have W:bI (2*ws.length-1) (jI 0)=ints (bI (2*ws.length-1) 0):=by unfold ints;rw[List.map_replicate]
 refine dpB lf (d+ws.length+7) (t+1) ws.length (2*ws.length-1) (fa ws D) g E (aL+(2*ws.length-1)) t (2*ws.length-1) _ _ _ _ _ _ _ _ jO jO I jO jO jO jO z jO _ (ir (fa ws D).bK (2*ws.length-2) (bI (2*ws.length-1) 0)) (fun Z K=> ?_) (2*ws.length-2) lf _ (bI (2*ws.length-1) 0) jO jO (by rw[ak _ _ jO];exact k) (by rw[ak _ _ jO];exact q) (by rw[get_eq,W]) ⟨jS,fun j y=>by rw[au,aC (by simpa using y),List.getElem_replicate];simp⟩ rfl
 (try unfold GR);(try unfold f);(try dsimp only)
 try simp(disch:=first|omega|assumption) only[Nat.reduceAdd,Nat.reduceLT,RZ]
 have o:(ir (fa ws D).bK (2*ws.length-2) (bI (2*ws.length-1) 0)).length=2*ws.length-1:=by rw[B4,oD]
 refine uP trivial (l:=0) (hh:=ws.length) K rfl jO 0 (2*ws.length-1) (2*ws.length-1) _ _ (wB _) (pe _ ws.length _) jO jO jO _ trivial ?_;try simp(disch:=first|omega|assumption) only[Nat.reduceAdd,Nat.reduceLT,RZ]
 refine⟨D,J,Y,.inr ⟨t,0,2*ws.length-1,true,_, ?_,K,jO, ?_, ?_, ?_⟩,fun b hb=> ?_⟩
 ·rw[xy _ _ jO];simp
 ·rw[xy _ _ jO,jH,o];omega
 ·rw[xy _ _ jO,dj];unfold mb ints aR;rw[List.map_take]
 ·rw[xy _ _ jO];omega
 ·rw[hb.inj];omega
end Go.Proofs.YtcehhgppfahbkaaGreatDoor
