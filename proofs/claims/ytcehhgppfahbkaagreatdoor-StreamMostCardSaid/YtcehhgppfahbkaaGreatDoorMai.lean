import Derived.Test.YtcehhgppfahbkaaGreatDoorMah
import Derived.Test.YtcehhgppfahbkaaGreatDoorMag
import Derived.Test.YtcehhgppfahbkaaGreatDoorMae
import Derived.Test.YtcehhgppfahbkaaGreatDoorMad
open Go.Proofs.Tryz renaming prog→ad
open Nat renaming le_refl→ag, le_succ→cI, zero_le→cL, lt_succ_self→dL, zero_add→fD, add_assoc→gH, add_zero→iA, not_lt_zero→jr, mod_eq_of_lt→kB, pow_le_pow_right→kD, mod_lt→lH, sub_self→oA, min_eq_left→p9, lt_or_ge→ym, zero_mul→It, xor_assoc→IY, xor_zero→IZ, xor_lt_two_pow→VQ, xor_mod_two_pow→VY, shiftLeft_eq→VZ, xor_div_two_pow→V0, div_eq_of_lt→ahX, max_eq_left→ahY, div_add_mod→ah2, xor_comm→ah3, zero_mod→ah4, mul_div_cancel→ah5, mul_mod_left→ah6, pow_one→ah7, lt_of_succ_lt_succ→ah'
open List renaming getD_eq_getElem?_getD→au, length_append→ay, getElem?_eq_getElem→aC, range→aV, replicate→bI, length_cons→bL, append_nil→bV, append_assoc→b9, getElem_mem→cu, drop_zero→dj, length_take→ed, length_map→eR, mem_cons_of_mem→eU, take_length→fi, getElem?_map→fw, length_drop→fO, take_of_length_le→fZ, map_append→gZ, getElem?_eq_none→jq, take_succ_eq_append_getElem→jV, mem_cons_self→jW, all_eq_true→kz, length_range→kC, map_cons→lE, map_map→mq, map_congr_left→ni, getElem?_append_right→ou, length_replicate→oD, getElem?_append_left→pX, nil_append→p7, drop_length→qc, drop→qd, take_zero→ru, length_singleton→tW, getElem?_range→ua, range_succ→uf, set_append_right→C8, flatten_cons→Db, pairwise_singleton→IQ, map→IV, replicate_succ→VO, map_id→VP, flatMap_cons→VS, ext_getElem?→agd, foldl_append→ahd, take_append_getElem→ahZ, replicate_zero→ah0, mem_range→ah1, lt_irrefl→ah9
open Bool renaming and_eq_true→bE, not_true→fY, not_false→iD, and_self→C6, false_ne_true→Iz
open Int renaming lt_irrefl→cb, toNat_natCast→fg, toNat_of_nonneg→jU, toNat→vQ
open BitVec renaming ofInt→cR
open UInt8 renaming ofNat→dZ, toNat_ofNat'→Dh, toNat_ofNat_of_lt'→aia
open Go.Value renaming slice→fN, agg→tZ, bool→V1, tuple→ahO
open Option.some renaming inj→rm
open Decidable renaming byContradiction→yw
open Go.Lib renaming indexByte→Ij, bytesOf→Vl
open List.Pairwise renaming nil→IP, filter→aiD
open List.Perm renaming eq_of_pairwise→ahe
open Go.IntKind renaming wrap_u32→ah8
set_option linter.unusedVariables false
set_option linter.unusedSimpArgs false
namespace Go.Proofs.YtcehhgppfahbkaaGreatDoor
open Go.RowKit Ev Cn
def pM(k:Nat):List Bool:=(bI k [true,false]).flatten
def pN(k:Nat):List Bool:=(bI k [true,true]).flatten
def rf:Nat->List Nat->List Bool
 |_,[]=>[]
 |now,n::l=>pM (n-now)++(pN (now-n)++(false::rf n l))
def iT(ln:List Nat):List Bool:=bQ (ln.getD 0 0) 5++rf (ln.getD 0 0) ln
theorem aew(k:Nat):pM (k+1)=[true,false]++pM k:=by unfold pM;rw[VO,Db]
theorem aex(k:Nat):pN (k+1)=[true,true]++pN k:=by unfold pN;rw[VO,Db]
theorem CD(k:Nat):(pM k).length=2*k:=by unfold pM;simp;omega
theorem HZ(k:Nat):(pN k).length=2*k:=by unfold pN;simp;omega
theorem H2:∀(ln:List Nat) (a:Nat),a<=20->(∀x∈ln,x<=20)->(rf a ln).length<=41*ln.length
 |[],_,_,_=>by simp[rf]
 |n::l,a,h,b=>by have:=H2 l n (b n jS) fun x c=>b x (by simp[c]);have:=b n jS;unfold rf;simp only[ay,bL,CD,HZ];omega
def CE(r:FuncId->Array Value->M Value)(c:Value)(W:Nat->Prop)(n0:Nat)(St:List Bool->H->Nat->Prop):Prop:=
 ∀(Q:Value->H->Nat->Prop) (l:List Bool) (h:H) (n v k:Nat) (K:Value->M Value),St l h n->l.length<=10000000->v<2^k->k<=15->(∀b a,St (l++bQ v k) b a->aa W n0 (K (.tuple #[])) b a Q)->aa W n0 (fm ad r c [jI (v:Int),jI (k:Int)] K) h n Q
section
variable {lf:Nat} {r:FuncId->Array Value->M Value} {fv:Value} {W:Nat->Prop} {n0:Nat} {St:List Bool->H->Nat->Prop} (sk:CE r fv W n0 St) {Q:Value->H->Nat->Prop}
include sk
theorem aey(a e f g x:Value)(N:Nat)(A:N<=20)(K:Value->Value->Value->Value->Value->Value->Value->Value->Value->M Value):∀(m b d:Nat) (l:List Bool) (h:H) (n:Nat),N-b<=m->m<d->b<=20->St l h n->l.length+2*m<=10000000->
 (∀h' n',St (l++pM (N-b)) h' n'->aa W n0 (K a fv (jI ((max b N:Nat):Int)) (jI (N:Int)) e f g x (.bool false)) h' n' Q)->aa W n0 (sN lf r d K a fv (jI (b:Int)) (jI (N:Int)) e f g x) h n Q:=by
 intro m
 induction m with
 |zero=>
  intro b d l h n v y u j w k;obtain⟨d,rfl⟩:∃f,d=f+1:=⟨d-1,jO⟩;rw[sN];have c:¬((b:Int)<(N:Int)):=jO;have:=k h n (by rw[show N-b=0 by omega];simpa[pM]using j);rw[ahY jO]at this;try simp(disch:=first|omega|assumption) only[Nat.reduceAdd,Nat.reduceLT,RZ,c]
  exact this
 |succ m t=>
  intro b d l h n v y u j w k;obtain⟨d,rfl⟩:∃f,d=f+1:=⟨d-1,jO⟩;rw[sN];by_cases c:b<N
  ·have p:(b:Int)<(N:Int):=jO;have q:((b:Int)+1)=((b+1:Nat):Int):=rfl;try simp(disch:=first|omega|assumption) only[Nat.reduceAdd,Nat.reduceLT,RZ,p]
   refine sk Q l h n 2 2 _ j jO jD jO fun z s o=> ?_;try simp(disch:=first|omega|assumption) only[Nat.reduceAdd,Nat.reduceLT,RZ]
   rw[q];refine t (b+1) d _ z s jO jO jO o (by rw[ay,dM];omega) fun h' n' i=> ?_;rw[b9,show bQ 2 2=[true,false]from rfl,<-aew,show N-(b+1)+1=N-b by omega]at i;have:=k h' n' i;rwa[show max (b+1) N=max b N by omega]
  ·have p:¬((b:Int)<(N:Int)):=jO;have:=k h n (by rw[show N-b=0 by omega];simpa[pM]using j);rw[ahY jO]at this;try simp(disch:=first|omega|assumption) only[Nat.reduceAdd,Nat.reduceLT,RZ,p]
   exact this
theorem aez(a e f g x y:Value)(N:Nat)(K:Value->Value->Value->Value->Value->Value->M Value):∀(m b d:Nat) (l:List Bool) (h:H) (n:Nat),b-N<=m->m<d->b<=20->St l h n->l.length+2*m<=10000000->
 (∀h' n',St (l++pN (b-N)) h' n'->aa W n0 (K a fv (jI ((min b N:Nat):Int)) e f g) h' n' Q)->aa W n0 (sO lf r d K a fv (jI (b:Int)) (jI (N:Int)) e f g x y) h n Q:=by
 intro m
 induction m with
 |zero=>
  intro b d l h n v z u j w k;obtain⟨d,rfl⟩:∃f,d=f+1:=⟨d-1,jO⟩;rw[sO];have c:¬((N:Int)<(b:Int)):=jO;have:=k h n (by rw[show b-N=0 by omega];simpa[pN]using j);rw[p9 jO]at this;try simp(disch:=first|omega|assumption) only[Nat.reduceAdd,Nat.reduceLT,RZ,c]
  exact this
 |succ m t=>
  intro b d l h n v z u j w k;obtain⟨d,rfl⟩:∃f,d=f+1:=⟨d-1,jO⟩;rw[sO];by_cases c:N<b
  ·have p:(N:Int)<(b:Int):=jO;have q:((b:Int)-1)=((b-1:Nat):Int):=jO;try simp(disch:=first|omega|assumption) only[Nat.reduceAdd,Nat.reduceLT,RZ,p]
   refine sk Q l h n 3 2 _ j jO jD jO fun A s o=> ?_;try simp(disch:=first|omega|assumption) only[Nat.reduceAdd,Nat.reduceLT,RZ]
   rw[q];refine t (b-1) d _ A s jO jO jO o (by rw[ay,dM];omega) fun h' n' i=> ?_;rw[b9,show bQ 3 2=[true,true]from rfl,<-aex,show b-1-N+1=b-N by omega]at i;have:=k h' n' i;rwa[show min (b-1) N=min b N by omega]
  ·have p:¬((N:Int)<(b:Int)):=jO;have:=k h n (by rw[show b-N=0 by omega];simpa[pN]using j);rw[p9 jO]at this;try simp(disch:=first|omega|assumption) only[Nat.reduceAdd,Nat.reduceLT,RZ,p]
   exact this
theorem aeA{b off cap:Nat}{ln:List Nat}(j:∀l h n,St l h n->Row h n 3 .i64 (.slice (some ⟨b,off,none⟩) ln.length cap) (iN ln))(w:∀x∈ln,x<=20)(J:ln.length<=1000)(K:3000<=lf):∀(m i a c:Nat) (l:List Bool) (h:H) (n:Nat),ln.length-i=m->m<c->i<=ln.length->a<=20->St l h n->l.length+41*m<=9000000->
 (∀h' n',St (l++rf a (ln.drop i)) h' n'->Q (.tuple #[]) h' n')->aa W n0 (sP lf r c (Bb lf r) (.slice (some ⟨b,off,none⟩) ln.length cap) fv (jI (a:Int)) (.slice (some ⟨b,off,none⟩) ln.length cap) (jI (ln.length:Int)) (jI (i:Int))) h n Q:=by
 intro m
 induction m with
 |zero=>
  intro i a c l h n I P N z p L v;obtain⟨c,rfl⟩:∃f,c=f+1:=⟨c-1,jO⟩;obtain rfl:i=ln.length:=jO;rw[sP];try simp(disch:=first|omega|assumption) only[Nat.reduceAdd,Nat.reduceLT,RZ,cb]
  rw[Bb];try simp(disch:=first|omega|assumption) only[Nat.reduceAdd,Nat.reduceLT,RZ]
  refine v h n ?_;rw[qc];simpa[rf]using p
 |succ m F=>
  intro i a c l h n I P N z p L v;obtain⟨c,rfl⟩:∃f,c=f+1:=⟨c-1,jO⟩;obtain⟨Y,e,k,o,cs,G,O,Z,_,_,_,u⟩:=(j l h n p).some (by rw[bC];omega);have g:fN (some ⟨b,off,none⟩) ln.length cap= .slice (some ⟨Y,e,none⟩) (iN ln).length k:=G;rw[bC]at g;cases g;have X:((i:Nat):Int)<((ln.length:Nat):Int):=jO;have A:=u i (by rw[bC];omega);rw[ki]at A;have y:ln.getD i 0<=20:=w _ (by rw[au,aC jO];exact cu _);have B:((i:Nat):Int)+1=((i+1:Nat):Int):=rfl;rw[sP];try simp(disch:=first|omega|assumption) only[Nat.reduceAdd,Nat.reduceLT,RZ,X,O,A]
  refine aey sk _ _ _ _ _ (ln.getD i 0) y _ 20 a lf l h n jO jO z p jO fun U E t=> ?_;unfold Ba
  (try dsimp only)
  refine aez sk _ _ _ _ _ _ (ln.getD i 0) _ 20 (max a (ln.getD i 0)) lf _ U E jO jO jO t (by rw[ay,CD];omega) fun T D s=> ?_;unfold Gf
  (try dsimp only)
  refine sk Q _ T D 0 1 _ s (by simp only[ay,CD,HZ];omega) jD jO fun R C q=> ?_;try simp(disch:=first|omega|assumption) only[Nat.reduceAdd,Nat.reduceLT,RZ]
  rw[B,show min (max a (ln.getD i 0)) (ln.getD i 0)=ln.getD i 0 by omega];refine F (i+1) (ln.getD i 0) c _ R C jO jO jO y q (by simp only[ay,CD,HZ,dM];omega) fun h' n' d=>v h' n' ?_;rw[lh 0 (show i<ln.length by omega)];unfold rf;rw[show max a (ln.getD i 0)-ln.getD i 0=a-ln.getD i 0 by omega,show bQ 0 1=[false]from rfl]at d;simpa[b9]using d
end
theorem H3{a:Type}{rec:FuncId->Array Value->M Value}{F:FuncId}(b:kG ad F=true)(cs vs:List Value)(k:Value->M a):fm ad rec (.func (.func F) #[] cs.toArray) vs k=aj rec F (vs++cs) k:=by unfold fm;show aN (some _) _=_;rw[rZ];simp only[b];exact(j3 _ _).symm
section
variable {lf d n:Nat} {h:H}
theorem aeB{F:FuncId}(G:kG ad F=true)(cs:List Value)(p:Int->Bool){v:Value}{xs:List Int}(s:Row h n 3 .i64 v xs)(I:∀x∈xs,aa (fun _=>False) n (ah ad gt lf d F ⟨jI x::cs⟩) h n fun g h' n'=>g= .bool (p x)∧h'=h∧n'=n)(O:xs.length<=1000000)(A:3000000<=lf):
 aa (fun _=>False) n (ah ad gt lf (d+1) 218 #[v,.func (.func F) #[] cs.toArray]) h n fun g h' n'=>(∃z,g=jI z∧decide (0<=z)=xs.any p)∧h'=h∧n'=n:=by
 rw[aF (fun _=>BB) rfl];refine aa.aD ?_;unfold vd;have r:=s;obtain⟨a,c,rfl⟩:=s.len
 have k:∀(m i e:Nat),xs.length-i=m->m<e->i<=xs.length->aa (fun _=>False) n (kY lf (ah ad gt lf d) e (mQ lf (ah ad gt lf d)) (.slice a xs.length c) (.func (.func F) #[] cs.toArray) (jI 0) (jI (xs.length:Int)) (jI (i:Int))) h n fun g h' n'=>(∃z,g=jI z∧decide (0<=z)=(xs.drop i).any p)∧h'=h∧n'=n:=by
  intro m
  induction m with
  |zero=>
   intro i e y D B;obtain⟨e,rfl⟩:∃f,e=f+1:=⟨e-1,jO⟩;obtain rfl:i=xs.length:=jO;rw[kY];try simp(disch:=first|omega|assumption) only[Nat.reduceAdd,Nat.reduceLT,RZ,cb]
   (try unfold mQ);(try dsimp only)
   try simp(disch:=first|omega|assumption) only[Nat.reduceAdd,Nat.reduceLT,RZ]
   exact⟨-1,rfl,jS⟩
  |succ m u=>
   intro i e y D B;obtain⟨e,rfl⟩:∃f,e=f+1:=⟨e-1,jO⟩;obtain⟨b,j,cap,o,L,w,C,E,_,_,_,q⟩:=r.some jO;have l:fN a xs.length c= .slice (some ⟨b,j,none⟩) xs.length cap:=w;cases l;have J:((i:Nat):Int)<((xs.length:Nat):Int):=jO;have K:=q i jO;have t:((i:Nat):Int)+1=((i+1:Nat):Int):=rfl;rw[kY];try simp(disch:=first|omega|assumption) only[Nat.reduceAdd,Nat.reduceLT,RZ,J,C,K]
   rw[H3 G];refine bU (I (xs.getD i 0) (by rw[au,aC jO];exact cu _)) (ag _) (fun _ _ h=>h.elim) ?_;rw[lh 0 (show i<xs.length by omega),List.any_cons];cases N:p (xs.getD i 0)with
   |true=>
    try simp(disch:=first|omega|assumption) only[Nat.reduceAdd,Nat.reduceLT,RZ]
    (try unfold mQ);(try dsimp only)
    try simp(disch:=first|omega|assumption) only[Nat.reduceAdd,Nat.reduceLT,RZ]
    exact⟨(i:Int),rfl,jS⟩
   |false=>
    try simp(disch:=first|omega|assumption) only[Nat.reduceAdd,Nat.reduceLT,RZ]
    rw[t,Bool.false_or];exact u (i+1) e jO jO jO
 try simp(disch:=first|omega|assumption) only[Nat.reduceAdd,Nat.reduceLT,RZ]
 exact k xs.length 0 lf jO jO jO
theorem Up{F:FuncId}(g:kG ad F=true)(cs:List Value)(p:Int->Bool){v:Value}{xs:List Int}(i:Row h n 3 .i64 v xs)(j:∀x∈xs,aa (fun _=>False) n (ah ad gt lf d F ⟨jI x::cs⟩) h n fun a h' n'=>a= .bool (p x)∧h'=h∧n'=n)(f:xs.length<=1000000)(b:3000000<=lf):
 aa (fun _=>False) n (ah ad gt lf (d+2) 193 #[v,.func (.func F) #[] cs.toArray]) h n fun a h' n'=>a= .bool (xs.any p)∧h'=h∧n'=n:=by
 rw[aF (fun _=>Bl) rfl];refine aa.aD ?_;unfold xd;refine aJ aE (aeB g cs p i j f b) (ag _) (fun _ _ h=>h.elim) fun a h' n' _ _ e=> ?_;obtain⟨⟨r,rfl,c⟩,rfl,rfl⟩:=e;try simp(disch:=first|omega|assumption) only[Nat.reduceAdd,Nat.reduceLT,RZ]
 rw[c]
theorem aeC(x:Int)(c:1<=x)(h2:x<=20):aa (fun _=>False) n (ah ad gt lf (d+2) 198 #[jI x]) h n fun a h' n'=>a= .bool false∧h'=h∧n'=n:=by
 rw[aF (fun _=>QR) rfl];refine aa.aD ?_;unfold GC
 have b:aa (fun _=>False) n (ah ad gt lf (d+1) 199 #[jI x]) h n fun a h' n'=>a= .bool true∧h'=h∧n'=n:=by
  rw[aF (fun _=>QS) rfl];refine aa.aD ?_;unfold GD;try simp(disch:=first|omega|assumption) only[Nat.reduceAdd,Nat.reduceLT,RZ,c,h2]
  all_goals (first|trivial|rfl|exact⟨rfl,rfl,rfl⟩|exact⟨rfl,rfl⟩)
 refine bU b (ag _) (fun _ _ h=>h.elim) ?_;try simp(disch:=first|omega|assumption) only[Nat.reduceAdd,Nat.reduceLT,RZ,fY]
 all_goals (first|trivial|rfl|exact⟨rfl,rfl,rfl⟩|exact⟨rfl,rfl⟩)
theorem Uq{v:Value}{ln:List Nat}(k:Row h n 3 .i64 v (iN ln))(t:3<=ln.length)(s:ln.length<=258)(lo:∀x∈ln,1<=x)(p:∀x∈ln,x<=20)(i:3000000<=lf):aa (fun _=>False) n (ah ad gt lf (d+5) 164 #[v]) h n fun f h' n'=>f= .bool true∧h'=h∧n'=n:=by
 rw[aF (fun _=>P2) rfl];refine aa.aD ?_;unfold Ge;have j:=k;obtain⟨a,c,rfl⟩:=k.len;have o:=bC ln
 have m:aa (fun _=>False) n (ah ad gt lf (d+4) 197 #[jI ((iN ln).length:Int)]) h n fun f h' n'=>f= .bool true∧h'=h∧n'=n:=by
  rw[aF (fun _=>QQ) rfl];refine aa.aD ?_;unfold GB;have r:(3:Int)<=((iN ln).length:Int):=jO;have q:((iN ln).length:Int)<=258:=jO;try simp(disch:=first|omega|assumption) only[Nat.reduceAdd,Nat.reduceLT,RZ,r,q]
  all_goals (first|trivial|rfl|exact⟨rfl,rfl,rfl⟩|exact⟨rfl,rfl⟩)
 try simp(disch:=first|omega|assumption) only[Nat.reduceAdd,Nat.reduceLT,RZ]
 refine bU m (ag _) (fun _ _ h=>h.elim) ?_;try simp(disch:=first|omega|assumption) only[Nat.reduceAdd,Nat.reduceLT,RZ]
 have l:=Up (lf:=lf) (d:=d+2) (F:=198) (by kernel_rfl) [] (fun _=>false) j (fun x b=>aeC (lf:=lf) (d:=d) x (by
  unfold iN at b;obtain⟨y,g,rfl⟩:=List.mem_map.1 b;have:=lo y g;omega) (by
  unfold iN at b;obtain⟨y,g,rfl⟩:=List.mem_map.1 b;have:=p y g;omega)) jO i
 refine bU l (ag _) (fun _ _ h=>h.elim) ?_;have e:((iN ln).any fun _=>false)=false:=jS;rw[e];try simp(disch:=first|omega|assumption) only[Nat.reduceAdd,Nat.reduceLT,RZ,iD]
 all_goals (first|trivial|rfl|exact⟨rfl,rfl,rfl⟩|exact⟨rfl,rfl⟩)
theorem Ur{m:Value}{W:Nat->Prop}{n0:Nat}{St:List Bool->H->Nat->Prop}(j:CE (ah ad gt lf d) m W n0 St){v:Value}{ln:List Nat}(a:∀l h n,St l h n->Row h n 3 .i64 v (iN ln))(C:1<=ln.length)(A:ln.length<=258)(k:∀x∈ln,x<=20)(t:3000000<=lf)(l:List Bool)(i:St l h n)(s:l.length<=8000000):
 aa W n0 (ah ad gt lf (d+1) 165 #[v,m]) h n fun p h' n'=>p= .tuple #[]∧St (l++iT ln) h' n':=by
 rw[aF (fun _=>P8) rfl];refine aa.aD ?_;unfold Bc;obtain⟨b,q,cap,o,z,rfl,u,B,_,_,_,f⟩:=(a l h n i).some (by rw[bC];omega);have g:=f 0 (by rw[bC];omega);rw[ki]at g;rw[bC]at a⊢;rw[iA]at g;have y:ln.getD 0 0<=20:=k _ (by rw[au,aC jO];exact cu _);have i1:(0:Int)<((ln.length:Nat):Int):=jO;try simp(disch:=first|omega|assumption) only[Nat.reduceAdd,Nat.reduceLT,RZ,i1,u,g]
 refine j _ l h n (ln.getD 0 0) 5 _ i jO jO jO fun w r e=> ?_;try simp(disch:=first|omega|assumption) only[Nat.reduceAdd,Nat.reduceLT,RZ]
 refine aeA j a k jO jO ln.length 0 (ln.getD 0 0) lf _ w r jO jO jO y e (by rw[ay,dM];omega) fun h' n' c=>⟨rfl, ?_⟩;rw[b9,dj]at c;exact c
end
section
variable {lf d lo n w K:Nat} {h:H} {sv:Value} {l:List Bool}
theorem aeD(x:b8 K h lo n w sv l){c0 v k:Nat}{e:TypeId}(y:h.get c0=some ⟨e,true,[jP w 0]⟩)(C:c0<n)(t:k<=15)(p:v<2^k)(s:l.length<=1000000000)(f:33<=lf):
 aa (fun c=>c=w∨aq sv c) n (ah ad gt lf (d+3) 170 #[jI (v:Int),jI (k:Int),jP c0 0]) h n fun m h' n'=>m= .tuple #[]∧∃a,b8 K h' lo n' w a (l++bQ v k)∧∀c,c<n->aq a c->aq sv c:=by
 rw[aF (fun _=>Qe) rfl];refine aa.aD ?_;unfold Gk;have o:2^k<=2^15:=kD jD t;have j:=kg (x:=v) jO;try simp(disch:=first|omega|assumption) only[Nat.reduceAdd,Nat.reduceLT,RZ,y,j]
 refine aJ aE (ky (lf:=lf) (d:=d) x jO p s f) (ag _) (fun b _ u=> .inr u) fun A D B r z q=> ?_;obtain⟨rfl,a,i,g⟩:=q;try simp(disch:=first|omega|assumption) only[Nat.reduceAdd,Nat.reduceLT,RZ]
 exact⟨a,i,g⟩
def StW(K lo w c0 m1:Nat)(e:TypeId)(sv v:Value)(ln:List Nat)(l:List Bool)(h:H)(n:Nat):Prop:=
 m1<=n∧(∃a,b8 K h lo n w a l∧∀c,c<m1->aq a c->aq sv c)∧Row h n 3 .i64 v (iN ln)∧h.get c0=some ⟨e,true,[jP w 0]⟩
theorem aeE{c0 m1 n0:Nat}{e:TypeId}{v:Value}{ln:List Nat}(P:w<m1)(I:c0<m1)(p:c0≠w)(r:¬aq sv c0)(F:∀b,aq v b->b<m1∧b≠w∧¬aq sv b)(U:n0<=m1)(o:33<=lf):
 CE (ah ad gt lf (d+3)) (.func (.func 170) #[] #[jP c0 0]) (fun c=>c=w∨aq sv c) n0 (StW K lo w c0 m1 e sv v ln):=by
 intro Q l h n x k K B T E G J;obtain⟨R,⟨O,j,a⟩,f,z⟩:=B;rw[H3 (by kernel_rfl) [jP c0 0]];refine aJ aE (aeD (lf:=lf) (d:=d) j z jO G E jO o) jO (fun b y hq=> ?_) fun N L D m g hq=> ?_
 ·rcases hq with rfl|hq
  ·exact .inr (.inl rfl)
  ·by_cases u:b<m1
   ·exact .inr (.inr (a b u hq))
   ·exact .inl jO
 ·obtain⟨rfl,i,A,t⟩:=hq;refine J L D ⟨jO,⟨i,A,fun c s q=>a c s (t c jO q)⟩,f.fz m fun b y=> ?_, ?_⟩
  ·obtain⟨q1,q2,C⟩:=F b y
   exact g b jO fun q=>by
    rcases q with q|q
    ·exact q2 q
    ·exact C (a b q1 q)
  ·rw[g c0 jO fun q=>by
    rcases q with q|q
    ·exact p q
    ·exact r (a c0 I q)]
   exact z
theorem aeF(x:b8 K h lo n w sv l){v:Value}{ln:List Nat}(z:Row h n 3 .i64 v (iN ln))(hd:∀b,aq v b->b≠w∧¬aq sv b)(P:3<=ln.length)(j:ln.length<=258)(I:∀x∈ln,1<=x)(y:∀x∈ln,x<=20)(O:l.length<=8000000)(k:3000000<=lf):
 aa (fun c=>c=w∨aq sv c) n (ah ad gt lf (d+6) 137 #[jP w 0,v]) h n fun C h' n'=>C=jI 0∧∃i,b8 K h' lo n' w i (l++iT ln)∧∀c,c<n->aq i c->aq sv c:=by
 rw[aF (fun _=>PE) rfl];refine aa.aD ?_;unfold F6;have lt:=x.2.lt;have g:∀b,aq sv b->b<n:=fun b f=>(x.2.own|>.lt f).2;have p:=z;obtain⟨a,c,rfl⟩:=z.len;refine lX trivial _ _ ?_;have s:∀b,b<n->(h.set n (some ⟨90,true,(jP w 0).cells.toList⟩)).get b=h.get b:=fun b f=>ak _ _ jO;obtain⟨r,m⟩:∃r,h.set n (some ⟨90,true,(jP w 0).cells.toList⟩)=r:=⟨_,rfl⟩;have A:r.get n=some ⟨90,true,[jP w 0]⟩:=by rw[<-m,get_eq];rfl
 rw[m]at s⊢;have o:=p.ar (cI n) s;try simp(disch:=first|omega|assumption) only[Nat.reduceAdd,Nat.reduceLT,RZ,A]
 refine bU (Uq (lf:=lf) (d:=d) o P j I y k) jO (fun _ _ h=>h.elim) ?_;try simp(disch:=first|omega|assumption) only[Nat.reduceAdd,Nat.reduceLT,RZ,fY]
 have B:b8 K r lo (n+1) w sv l:=x.ar (cI n) fun b f _=>s b f;have F:=aeE (K:=K) (lf:=lf) (d:=d+1) (lo:=lo) (w:=w) (sv:=sv) (c0:=n) (m1:=n+1) (n0:=n+1) (e:=90) (v:= .slice a (iN ln).length c) (ln:=ln) jO jO jO (fun q=>by have:=g n q;omega) (fun b f=>⟨by have:=p.lt f;omega,hd b f⟩) jO jO;have E:=Ur (lf:=lf) (d:=d+4) (h:=r) (n:=n+1) F (v:= .slice a (iN ln).length c) (ln:=ln) (fun l h n D=>D.2.2.1) jO j y k l ⟨ag _,⟨sv,B,fun c _ q=>q⟩,o,A⟩ O;refine aJ aE E jO (fun b _ f=> .inr f) fun R W T N Q J=> ?_;obtain⟨rfl,L,⟨G,u,t⟩,_⟩:=J;try simp(disch:=first|omega|assumption) only[Nat.reduceAdd,Nat.reduceLT,RZ]
 exact⟨G,u,fun c U q=>t c jO q⟩
def StB(c0 m1:Nat)(v:Value)(ln:List Nat)(l:List Bool)(h:H)(n:Nat):Prop:=
 m1<=n∧Row h n 3 .i64 v (iN ln)∧h.get c0=some ⟨3,true,[jI (l.length:Int)]⟩
theorem aeG{c0:Nat}{t v k:Nat}(e:h.get c0=some ⟨3,true,[jI (t:Int)]⟩)(i:c0<n)(f:t<=1000000000)(g:k<=15):
 aa (fun c=>c=c0) n (ah ad gt lf (d+1) 166 #[jI (v:Int),jI (k:Int),jP c0 0]) h n fun b h' n'=>b= .tuple #[]∧n'=n∧h'.get c0=some ⟨3,true,[jI ((t+k:Nat):Int)]⟩:=by
 rw[aF (fun _=>P9) rfl];refine aa.aD ?_;unfold Gh;have a:(t:Int)+(k:Int)=((t+k:Nat):Int):=rfl;try simp(disch:=first|omega|assumption) only[Nat.reduceAdd,Nat.reduceLT,RZ,e,a]
theorem aeH{c0 m1 n0:Nat}{v:Value}{ln:List Nat}(A:c0<m1)(j:∀b,aq v b->b≠c0)(B:n0<=m1){W:Nat->Prop}(q:n0<=c0∨W c0):
 CE (ah ad gt lf (d+1)) (.func (.func 166) #[] #[jP c0 0]) W n0 (StB c0 m1 v ln):=by
 intro Q l h n x k K g z y p r;obtain⟨o,a,t⟩:=g;rw[H3 (by kernel_rfl) [jP c0 0]];refine aJ aE (aeG (lf:=lf) (d:=d) (v:=x) t jO jO p) jO (fun b e c=>c▸q) fun w s i m f c=> ?_;obtain⟨rfl,rfl,u⟩:=c;refine r s i ⟨o,a.fz (ag _) fun b e=>f b (a.lt e) (j b e), ?_⟩;rw[ay,dM];exact u
theorem aeI{v:Value}{ln:List Nat}(m:Row h n 3 .i64 v (iN ln))(D:3<=ln.length)(f:ln.length<=258)(y:∀x∈ln,1<=x)(o:∀x∈ln,x<=20)(g:3000000<=lf):
 aa (fun _=>False) n (ah ad gt lf (d+6) 132 #[v]) h n fun q h' n'=>q= .tuple #[jI ((iT ln).length:Int),jI 0]:=by
 rw[aF (fun _=>Pp) rfl];refine aa.aD ?_;unfold F5;refine bU (Uq (lf:=lf) (d:=d) m D f y o g) jO (fun _ _ h=>h.elim) ?_;try simp(disch:=first|omega|assumption) only[Nat.reduceAdd,Nat.reduceLT,RZ,fY]
 have i:=m;obtain⟨a,c,rfl⟩:=m.len;refine fR Fv _ ?_;try simp(disch:=first|omega|assumption) only[Nat.reduceAdd,Nat.reduceLT,RZ,get_eq]
 refine⟨.inl (ag _), ?_⟩;obtain⟨j,e⟩:∃j,(h.set n (some ⟨3,true,[jI 0]⟩)).set n (some ⟨3,true,[jI 0]⟩)=j:=⟨_,rfl⟩;have E:j.get n=some ⟨3,true,[jI 0]⟩:=by rw[<-e,get_eq]
 have z:∀b,b<n->j.get b=h.get b:=fun b k=>by rw[<-e,ak _ _ jO,ak _ _ jO]
 rw[e];have t:=aeH (lf:=lf) (d:=d+3) (c0:=n) (m1:=n+1) (n0:=n+1) (v:= .slice a (iN ln).length c) (ln:=ln) (W:=fun b=>b=n) jO (fun b k=>by have:=i.lt k;omega) jO (.inr rfl);have s:=Ur (lf:=lf) (d:=d+4) (h:=j) (n:=n+1) t (v:= .slice a (iN ln).length c) (ln:=ln) (fun l h n r=>r.2.1) jO f o g [] ⟨ag _,i.ar (cI n) z,E⟩ jS;refine aJ aE s jO (fun b _ k=> .inl jO) fun G I u C F A=> ?_;obtain⟨rfl,B,_,p⟩:=A;rw[p7]at p;have w:n<u:=jO;try simp(disch:=first|omega|assumption) only[Nat.reduceAdd,Nat.reduceLT,RZ,p]
end
def fs(p:Nat):List Nat->Nat
 |[]=>0
 |a::l=>if a=p then 0 else fs p l+1
theorem CF{p:Nat}:∀{o:List Nat},p∈o->fs p o<o.length
 |a::l,h=>by
  unfold fs;by_cases e:a=p
  ·rw[if_pos e];simp
  ·rw[if_neg e]
   have:p∈l:=by
    rcases List.mem_cons.1 h with q|q
    ·exact absurd q.symm e
    ·exact q
   have:=CF this;simp;omega
theorem Ut{p:Nat}:∀{o:List Nat},p∈o->o.getD (fs p o) 0=p
 |a::l,h=>by
  unfold fs;by_cases e:a=p
  ·rw[if_pos e];exact e
  ·rw[if_neg e]
   have:p∈l:=by
    rcases List.mem_cons.1 h with q|q
    ·exact absurd q.symm e
    ·exact q
   have:=Ut this;simpa using this
theorem Uu{p:Nat}:∀{o:List Nat} {j:Nat},j<fs p o->o.getD j 0≠p
 |[],j,h=>by simp[fs]at h
 |a::l,j,h=>by
  unfold fs at h;by_cases e:a=p
  ·rw[if_pos e]at h;omega
  ·rw[if_neg e]at h;cases j with
   |zero=>simpa using e
   |succ j=>have:=Uu (p:=p) (o:=l) (j:=j) jO;simpa using this
def eP:List Nat->List Nat->List Nat
 |_,[]=>[]
 |o,p::a=>fs p o::eP (dv 0 o (fs p o)) a
theorem tL:∀(ps o:List Nat),(eP o ps).length=ps.length
 |[],_=>rfl
 |p::ps,o=>by unfold eP;rw[bL,tL ps,bL]
def tM(o:List Nat):Prop:=o.length=6∧∀p,p<6->p∈o
theorem vv:tM eM:=⟨rfl,jD⟩
theorem tM.dv{o:List Nat}(h:tM o){i:Nat}(j:i<6):tM (dv 0 o i):=by refine⟨ac5 h.1 j,fun p g=> ?_⟩;have:=h.2 p g;obtain⟨a,b,c,d,e,f,rfl⟩:=tC h.1;rcases i with _|_|_|_|_|_|i;all_goals first|omega|(simp[Go.Proofs.YtcehhgppfahbkaaGreatDoor.dv]at this⊢;omega)
theorem vw:∀(ps o:List Nat),tM o->(∀p∈ps,p<6)->∀x∈eP o ps,x<6
 |[],_,_,_,x,hx=>by simp[eP]at hx
 |p::ps,o,h,b,x,hx=>by
  have a:=CF (h.2 p (b p jS));rw[h.1]at a;unfold eP at hx;rcases List.mem_cons.1 hx with rfl|hx
  ·exact a
  ·exact vw ps _ (h.dv a) (fun q c=>b q (by simp[c])) x hx
section
variable {lf d n q:Nat} {h:H} {e:TypeId} {O:List Nat}
theorem aeJ(j:O.length=6)(g:h.get q=some ⟨e,true,aR .i64 (iN O)⟩)(m:q<n){i:Nat}(f:i<6)(a:100<=lf):aa (fun b=>b=q) n (ah ad gt lf (d+1) 219 #[jP q 0,jI (i:Int)]) h n fun v h' n'=>n'=n∧h'.get q=some ⟨e,true,aR .i64 (iN (dv 0 O i))⟩:=by
 have t:=acV (lf:=lf) (d:=d) (h:=h) (n:=n) (q:=q) (e:=e) (A:=[]) (O:=aR .i64 (iN O)) (Z:=[]) (i:=i) (by rw[cO,bC,j]) (fun v c=>by
  unfold aR at c;obtain⟨x,_,rfl⟩:=List.mem_map.1 c
  rfl) (by simpa using g) m f a
 refine(t.run (n0:=n) (W:=fun b=>b=q) fun x l=> .inr l.1).mono ?_;rintro v h' n' _ ⟨_,rfl,k,_⟩;refine⟨rfl, ?_⟩;rw[ac6 O j f]at k;simpa using k
theorem aeK(t:tM O)(g:h.get q=some ⟨e,true,aR .i64 (iN O)⟩)(A:q<n){p:Nat}(B:p<6)(r:100<=lf):aa (fun b=>b=q) n (ah ad gt lf (d+2) 196 #[jP q 0,jI (p:Int)]) h n fun v h' n'=>v=jI (fs p O:Int)∧n'=n∧h'.get q=some ⟨e,true,aR .i64 (iN (dv 0 O (fs p O)))⟩:=by
 rw[aF (fun _=>QP) rfl];refine aa.aD ?_;unfold Bq;have j:=t.2 p B;have x:=CF j;have K:=t.1
 have k:∀(m i a:Nat),fs p O-i=m->m<a->i<=fs p O->aa (fun b=>b=q) n (sX lf (ah ad gt lf (d+1)) a (Bp lf (ah ad gt lf (d+1))) (jP q 0) (jI (p:Int)) (jI 0) (jI (i:Int))) h n fun v h' n'=>v=jI (fs p O:Int)∧n'=n∧h'.get q=some ⟨e,true,aR .i64 (iN (dv 0 O (fs p O)))⟩:=by
  intro m
  induction m with
  |zero=>
   intro i a C E D;obtain⟨a,rfl⟩:∃f,a=f+1:=⟨a-1,jO⟩;obtain rfl:i=fs p O:=jO
   have w:(aR .i64 (iN O))[fs p O]? =some (jI (p:Int)):=by unfold aR iN;rw[fw,fw,aC x];have:=Ut j;rw[au,aC x]at this;simp only[Option.getD_some]at this;simp only[Option.map_some,this]
   have u:((p:Int) !=(p:Int))=false:=jS;have c:((fs p O:Nat):Int)<6:=jO;have L:(0:Int)<=((fs p O:Nat):Int):=jO;have l:((fs p O:Nat):Int).toNat=fs p O:=rfl;rw[sX];try simp(disch:=first|omega|assumption) only[Nat.reduceAdd,Nat.reduceLT,RZ,g,c,l,w,u,fD]
   (try unfold Bp);(try dsimp only)
   refine aJ aE (aeJ (lf:=lf) (d:=d) t.1 g A jO r) (ag _) (fun b _ F=> .inr F) fun I N J _ _ o=> ?_;obtain⟨rfl,G⟩:=o;try simp(disch:=first|omega|assumption) only[Nat.reduceAdd,Nat.reduceLT,RZ]
   exact G
  |succ m z=>
   intro i a C E D;obtain⟨a,rfl⟩:∃f,a=f+1:=⟨a-1,jO⟩;have s:i<fs p O:=jO
   have w:(aR .i64 (iN O))[i]? =some (jI (O.getD i 0:Int)):=by unfold aR iN;rw[fw,fw,au,aC jO];rfl
   have u:(((O.getD i 0:Nat):Int) !=(p:Int))=true:=by rw[bne_iff_ne];have:=Uu s;omega
   have c:((i:Nat):Int)<6:=jO;have l:((i:Nat):Int).toNat=i:=rfl;have y:((i:Nat):Int)+1=((i+1:Nat):Int):=rfl;rw[sX];try simp(disch:=first|omega|assumption) only[Nat.reduceAdd,Nat.reduceLT,RZ,g,c,l,w,u,fD]
   rw[y];exact z (i+1) a jO jO jO
 exact k (fs p O) 0 lf jO jO jO
end
theorem aeL{a:List Nat}{i N:Nat}(b:i<a.length)(c:i<N):(a.take i++bI (N-i) 0).set i (a.getD i 0)=a.take (i+1)++bI (N-(i+1)) 0:=by rw[C8 _ _ (by rw[ed];omega),ed,show i-min i a.length=0 by omega,show N-i=(N-(i+1))+1 by omega,VO,List.set_cons_zero,au,aC b,<-ahZ b,b9];rfl
section
variable {lf d n:Nat} {h:H}
theorem Uv{v:Value}{ps:List Nat}(T:Row h n 3 .i64 v (iN ps))(hl:ps.length<=40000)(h6:∀p∈ps,p<6)(u3:3000000<=lf):aa (fun _=>False) n (ah ad gt lf (d+3) 163 #[v]) h n fun r h' n'=>Row h' n' 3 .i64 r (iN (eP eM ps))∧∀b,aq r b->n<=b:=by
 rw[aF (fun _=>P1) rfl];refine aa.aD ?_;unfold A9;have j:=bC ps;have z:=T;obtain⟨a,c,rfl⟩:=T.len;refine aJ aE (ac4 (lf:=lf) (d:=d+1) (n:=n) (h:=h) jO) (ag _) (fun _ _ h=>h.elim) fun v1 h1 n1 u2 P F=> ?_;obtain⟨rfl,rfl⟩:=F;refine fR wM _ ?_;refine j7 (sz:=6) trivial (vs:=[jI 0,jI 1,jI 2,jI 3,jI 4,jI 5]) rfl rfl rfl (get_eq _ _ _) jO (.inl jO) _ fun h2 g2 k2=> ?_;try simp(disch:=first|omega|assumption) only[Nat.reduceAdd,Nat.reduceLT,RZ]
 refine Ev.run_make trivial (iN ps).length (iN ps).length _ (ag _) jO ?_;try simp(disch:=first|omega|assumption) only[Nat.reduceAdd,Nat.reduceLT,RZ]
 obtain⟨q,g⟩:∃q,h2.set (n+2+1) (some ⟨3,true,bI (iN ps).length (jI 0)⟩)=q:=⟨_,rfl⟩;have g3:q.get (n+2)=some ⟨237,true,aR .i64 (iN eM)⟩:=by rw[<-g,ak _ _ jO];exact g2
 have Z:q.get (n+2+1)=some ⟨3,true,aR .i64 (iN ((eP eM ps).take 0++bI (ps.length-0) 0))⟩:=by rw[<-g,get_eq];unfold aR iN;simp
 have k3:∀b,b<n->q.get b=h.get b:=fun b k=>by rw[<-g,ak _ _ jO,k2 b jO,ak _ _ jO];exact P b k id
 rw[g,j];rw[j]at z;have s:=tL ps eM
 have D:∀(m i e:Nat) (O:List Nat) (l:H),ps.length-i=m->m<e->i<=ps.length->tM O->eP O (ps.drop i)=(eP eM ps).drop i->l.get (n+2)=some ⟨237,true,aR .i64 (iN O)⟩->l.get (n+2+1)=some ⟨3,true,aR .i64 (iN ((eP eM ps).take i++bI (ps.length-i) 0))⟩->(∀b,b<n->l.get b=h.get b)->
  aa (fun _=>False) n (sM lf (ah ad gt lf (d+2)) e (A8 lf (ah ad gt lf (d+2))) (.slice a ps.length c) nS (jP (n+2) 0) (.slice (some ⟨n+2+1,0,none⟩) ps.length ps.length) (.slice a ps.length c) (jI (ps.length:Int)) (jI (i:Int))) l (n+2+1+1) fun r h' n'=>Row h' n' 3 .i64 r (iN (eP eM ps))∧∀b,aq r b->n<=b:=by
  intro m
  induction m with
  |zero=>
   intro i e O l hm hf hi y J R B K;obtain⟨e,rfl⟩:∃f,e=f+1:=⟨e-1,jO⟩;obtain rfl:i=ps.length:=jO;rw[sM];try simp(disch:=first|omega|assumption) only[Nat.reduceAdd,Nat.reduceLT,RZ,cb]
   (try unfold A8);(try dsimp only)
   try simp(disch:=first|omega|assumption) only[Nat.reduceAdd,Nat.reduceLT,RZ]
   rw[oA,ah0,bV,fZ jO]at B;refine⟨.inr ⟨n+2+1,0,ps.length,true,_,by rw[bC,s],B,jO,by rw[cO];omega,by rw[dj,fZ (by rw[cO];omega)],by rw[bC,s];omega⟩,fun b k=>by rw[k.inj];omega⟩
  |succ m ih=>
   intro i e O l hm hf hi y J R B K;obtain⟨e,rfl⟩:∃f,e=f+1:=⟨e-1,jO⟩;obtain⟨b,C,cap,o,ks,hv,L,u4,_,_,_,N⟩:=((z.ar (n':=n+2+1+1) jO K)).some jO;have w:fN a ps.length c= .slice (some ⟨b,C,none⟩) (iN ps).length cap:=hv;rw[j]at w;cases w;have U:((i:Nat):Int)<((ps.length:Nat):Int):=jO;have W:=N i jO;rw[ki]at W;have X:((i:Nat):Int)+1=((i+1:Nat):Int):=rfl;have Q:ps.getD i 0<6:=h6 _ (by rw[au,aC jO];exact cu _);rw[sM];try simp(disch:=first|omega|assumption) only[Nat.reduceAdd,Nat.reduceLT,RZ,U,L,W]
   refine aJ aE (aeK (lf:=lf) (d:=d) y R jO Q jO) jO (fun b _ k=> .inl jO) fun v5 h5 n5 u1 A E=> ?_;obtain⟨rfl,rfl,g5⟩:=E;have Y:=(A (n+2+1) jO jO).trans B;have u:i<(aR .i64 (iN ((eP eM ps).take i++bI (ps.length-i) 0))).length:=by rw[cO,bC,ay,ed,oD];omega
   have u0:n+2+1<n+2+1+1:=jO;have it:((i:Nat):Int).toNat=i:=rfl;try simp(disch:=first|omega|assumption) only[Nat.reduceAdd,Nat.reduceLT,RZ,U,it,Y,fD]
   refine⟨by simpa using u,.inl jO, ?_⟩;rw[X];have dp:ps.drop i=ps.getD i 0::ps.drop (i+1):=lh 0 jO;rw[dp,eP,lh 0 (show i<(eP eM ps).length by omega)]at J;injection J with I G;have t:=CF (y.2 _ Q);rw[y.1]at t;refine ih (i+1) e _ _ jO jO jO (y.dv t) G (by rw[ak _ _ jO];exact g5) ?_ (fun b k=>by rw[ak _ _ jO,A b jO jO];exact K b k);rw[get_eq,Tn];rw[I];unfold iN;rw[show((IV (fun(x:Nat)=>(x:Int)) ((eP eM ps).take i++bI (ps.length-i) 0)).set i (((eP eM ps).getD i 0:Nat):Int))=IV (fun(x:Nat)=>(x:Int)) (((eP eM ps).take i++bI (ps.length-i) 0).set i ((eP eM ps).getD i 0))from List.map_set.symm,aeL jO jO]
 exact D ps.length 0 lf eM q jO jO jO vv rfl g3 Z k3
end
def lz:List Nat->List Bool
 |[]=>[]
 |x::l=>bI x true++(false::lz l)
theorem Uw(x:Nat)(l:List Nat):lz (x::l)=bI x true++(false::lz l):=rfl
def mZ(t:Nat)(ps:List Nat):List Bool:=bQ t 3++(bQ ps.length 15++lz (eP eM ps))
theorem CG:∀{l:List Nat},(∀x∈l,x<6)->(lz l).length<=6*l.length
 |[],_=>by simp[lz]
 |x::l,h=>by have:=CG fun y a=>h y (eU x a);have:=h x jS;unfold lz;simp only[ay,oD,bL];omega
theorem aeM{x:Nat}(h:x<6):IntKind.u32.wrap (1*2^(min (x+1) (IntKind.u32).bits))=((2^(x+1):Nat):Int):=by rcases x with _|_|_|_|_|_|x<;>first|rfl|omega
theorem aeN{x:Nat}(h:x<6):IntKind.u32.wrap (((2^(x+1):Nat):Int)-2)=((2^(x+1)-2:Nat):Int):=by rcases x with _|_|_|_|_|_|x<;>first|rfl|omega
theorem aeO{x:Nat}(h:x<6):bQ (2^(x+1)-2) (x+1)=bI x true++[false]:=by rcases x with _|_|_|_|_|_|x<;>first|rfl|omega
section
variable {lf d n:Nat} {h:H}
theorem aeP{c0 t:Nat}{x:Int}(a:∃e,h.get c0=some ⟨e,true,[jI (t:Int)]⟩)(g:c0<n)(i:0<=x)(h2:x<t):aa (fun _=>False) n (ah ad gt lf (d+1) 194 #[jI x,jP c0 0]) h n fun b h' n'=>b= .bool false∧h'=h∧n'=n:=by
 obtain⟨e,a⟩:=a;rw[aF (fun _=>QI) rfl];refine aa.aD ?_;unfold GA;have f:¬(x<0):=jO;have c:¬((t:Int)<=x):=jO;try simp(disch:=first|omega|assumption) only[Nat.reduceAdd,Nat.reduceLT,RZ,a,f,c]
 all_goals (first|trivial|rfl|exact⟨rfl,rfl,rfl⟩|exact⟨rfl,rfl⟩)
theorem Ux{v:Value}{ps:List Nat}{t:Nat}(m:Row h n 3 .i64 v (iN ps))(D:2<=t)(C:t<=6)(I:0<ps.length)(E:ps.length<=32767)(w:∀p∈ps,p<t)(i:3000000<=lf):aa (fun _=>False) n (ah ad gt lf (d+4) 162 #[v,jI (t:Int)]) h n fun q _ _=>q= .bool true:=by
 rw[aF (fun _=>PY) rfl];refine aa.aD ?_;unfold Gc;have z:=bC ps;have k:=m;obtain⟨a,c,rfl⟩:=m.len;refine lX trivial _ _ ?_;obtain⟨g,f⟩:∃g,h.set n (some ⟨3,true,(jI (t:Int)).cells.toList⟩)=g:=⟨_,rfl⟩;have o:g.get n=some ⟨3,true,[jI (t:Int)]⟩:=by rw[<-f,get_eq];rfl
 have s:∀b,b<n->g.get b=h.get b:=fun b G=>by rw[<-f];exact ak _ _ jO
 rw[f];have j:=k.ar (cI n) s;try simp(disch:=first|omega|assumption) only[Nat.reduceAdd,Nat.reduceLT,RZ,o]
 refine bU (ac3 (lf:=lf) (d:=d+2) (t:Int)) jO (fun _ _ h=>h.elim) ?_;rw[decide_eq_true (show(2:Int)<=(t:Int) by omega),decide_eq_true (show(t:Int)<=6 by omega)];have B:(((iN ps).length:Int)==0)=false:=by rw[beq_eq_false_iff_ne];omega
 have A:¬((32767:Int)<((iN ps).length:Int)):=jO;try simp(disch:=first|omega|assumption) only[Nat.reduceAdd,Nat.reduceLT,RZ,C6,fY,B,A]
 have r:=Up (lf:=lf) (d:=d+1) (F:=194) (by kernel_rfl) [jP n 0] (fun _=>false) j (fun x l=>by
  unfold iN at l;obtain⟨y,u,rfl⟩:=List.mem_map.1 l;have:=w y u
  exact aeP (lf:=lf) (d:=d) ⟨_,o⟩ (dL n) jO jO) jO i
 refine bU r jO (fun _ _ h=>h.elim) ?_;have e:((iN ps).any fun _=>false)=false:=jS;rw[e];try simp(disch:=first|omega|assumption) only[Nat.reduceAdd,Nat.reduceLT,RZ,iD]
section
variable {b off cap:Nat} {pl:List Nat} (h6:∀x∈pl,x<6) (hl:pl.length<=40000)
include h6 hl
theorem aeQ{q p x3 x4 x6:Value}(D:Row h n 3 .i64 (.slice (some ⟨b,off,none⟩) pl.length cap) (iN pl)){n0:Nat}:∀(m i a t:Nat),pl.length-i=m->m<a->i<=pl.length->t<=18+6*i->aa (fun _=>False) n0 (sF lf (ah ad gt lf d) a (AV lf (ah ad gt lf d)) q p x3 x4 (jI (t:Int)) x6 (.slice (some ⟨b,off,none⟩) pl.length cap) (jI (pl.length:Int)) (jI (i:Int))) h n fun k h' n'=>k= .tuple #[jI ((t+(lz (pl.drop i)).length:Nat):Int),jI 0]:=by
 intro m
 induction m with
 |zero=>
  intro i a t y B z x;obtain⟨a,rfl⟩:∃f,a=f+1:=⟨a-1,jO⟩;obtain rfl:i=pl.length:=jO;rw[sF];try simp(disch:=first|omega|assumption) only[Nat.reduceAdd,Nat.reduceLT,RZ,cb]
  (try unfold AV);(try dsimp only)
  try simp(disch:=first|omega|assumption) only[Nat.reduceAdd,Nat.reduceLT,RZ]
  rw[qc];rfl
 |succ m v=>
  intro i a t y B z x;obtain⟨a,rfl⟩:∃f,a=f+1:=⟨a-1,jO⟩;obtain⟨F,c,g,o,G,w,A,C,_,_,_,j⟩:=D.some (by rw[bC];omega);have e:fN (some ⟨b,off,none⟩) pl.length cap= .slice (some ⟨F,c,none⟩) (iN pl).length g:=w;rw[bC]at e;cases e;have E:((i:Nat):Int)<((pl.length:Nat):Int):=jO;have l:=j i (by rw[bC];omega);rw[ki]at l;have x6:pl.getD i 0<6:=h6 _ (by rw[au,aC jO];exact cu _);have u:((i:Nat):Int)+1=((i+1:Nat):Int):=rfl;have s:((pl.getD i 0:Nat):Int)+1=((pl.getD i 0+1:Nat):Int):=rfl;have r:(t:Int)+((pl.getD i 0+1:Nat):Int)=((t+(pl.getD i 0+1):Nat):Int):=rfl;rw[sF];try simp(disch:=first|omega|assumption) only[Nat.reduceAdd,Nat.reduceLT,RZ,E,A,l,u,s,r]
  refine(v (i+1) a (t+(pl.getD i 0+1)) jO jO jO jO).mono ?_;rintro k h' n' _ rfl;rw[lh 0 (show i<pl.length by omega),Uw,ay,oD,bL,show t+(pl.getD i 0+1)+(lz (pl.drop (i+1))).length=t+(pl.getD i 0+((lz (pl.drop (i+1))).length+1)) by omega]
theorem aeR(u1:3000000<=lf){lo w m1 n0 K:Nat}{si0:Value}{W:Nat->Prop}(hw:W w)(u0:w<m1)(hW:∀c,aq si0 c->n0<=c∨W c)(h0:n0<=m1)(hv:∀c,aq (.slice (some ⟨b,off,none⟩) pl.length cap) c->c<m1∧c≠w∧¬aq si0 c){y x3 x4 Q x6:Value}:∀(m i a:Nat) (l:List Bool) (h:H) (n:Nat) (g:Value),pl.length-i=m->m<a->i<=pl.length->m1<=n->b8 K h lo n w g l->(∀c,c<m1->aq g c->aq si0 c)->Row h n 3 .i64 (.slice (some ⟨b,off,none⟩) pl.length cap) (iN pl)->l.length+6*m<=9000000->
 aa W n0 (sJ lf (ah ad gt lf (d+2)) a (A2 lf (ah ad gt lf (d+2))) (jP w 0) y x3 x4 Q x6 (.slice (some ⟨b,off,none⟩) pl.length cap) (jI (pl.length:Int)) (jI (i:Int))) h n fun O h' n'=>O=jI 0∧m1<=n'∧∃e,b8 K h' lo n' w e (l++lz (pl.drop i))∧∀c,c<m1->aq e c->aq si0 c:=by
 intro m
 induction m with
 |zero=>
  intro i a l h n g hm hf hi s x r J D;obtain⟨a,rfl⟩:∃f,a=f+1:=⟨a-1,jO⟩;obtain rfl:i=pl.length:=jO;rw[sJ];try simp(disch:=first|omega|assumption) only[Nat.reduceAdd,Nat.reduceLT,RZ,cb]
  (try unfold A2);(try dsimp only)
  try simp(disch:=first|omega|assumption) only[Nat.reduceAdd,Nat.reduceLT,RZ]
  refine⟨s,g, ?_,r⟩;rw[qc];simpa[lz]using x
 |succ m ih=>
  intro i a l h n g hm hf hi s x r J D;obtain⟨a,rfl⟩:∃f,a=f+1:=⟨a-1,jO⟩;obtain⟨b',j,t,o,ks,A,hg,u2,_,_,_,I⟩:=J.some (by rw[bC];omega);have p:fN (some ⟨b,off,none⟩) pl.length cap= .slice (some ⟨b',j,none⟩) (iN pl).length t:=A;rw[bC]at p;cases p;have e1:((i:Nat):Int)<((pl.length:Nat):Int):=jO;have P:=I i (by rw[bC];omega);rw[ki]at P;have x6:pl.getD i 0<6:=h6 _ (by rw[au,aC jO];exact cu _);have X:((i:Nat):Int)+1=((i+1:Nat):Int):=rfl;have U:((pl.getD i 0:Nat):Int)+1=((pl.getD i 0+1:Nat):Int):=rfl;have T:=aeM x6;have R:=aeN x6;rw[sJ];try simp(disch:=first|omega|assumption) only[Nat.reduceAdd,Nat.reduceLT,RZ,Int.reduceBEq,Int.reduceBNe,Int.reduceLT,Int.reduceLE,Int.reduceEq,Int.reduceNe,Int.reduceAdd,Int.reduceSub,Int.reduceMul,Int.reduceNeg,e1,hg,P,U,T,R]
  have px:2^(pl.getD i 0+1)<=2^6:=kD jD jO;have p0:0<2^(pl.getD i 0+1):=Nat.pow_pos jD;refine aJ aE (ky (lf:=lf) (d:=d) x (k:=pl.getD i 0+1) (v:=2^(pl.getD i 0+1)-2) jO jO jO jO) jO (fun c u hq=> ?_) fun v1 h1 Z C L B=> ?_
  ·rcases hq with rfl|hq
   ·exact .inr hw
   ·by_cases E:c<m1
    ·exact hW c (r c E hq)
    ·exact .inl jO
  ·obtain⟨rfl,e,N,G⟩:=B;rw[aeO x6]at N;try simp(disch:=first|omega|assumption) only[Nat.reduceAdd,Nat.reduceLT,RZ]
   rw[X];refine(ih (i+1) a _ h1 Z e jO jO jO jO N (fun c u q=>r c u (G c jO q)) (J.fz C fun c u=> ?_) (by rw[ay,ay,oD,tW];omega)).mono ?_
   ·obtain⟨q1,q2,Y⟩:=hv c u
    exact L c jO fun q=>by
     rcases q with q|q
     ·exact q2 q
     ·exact Y (r c q1 q)
   ·rintro O h' n' _ ⟨rfl,q1,z,y,F⟩;refine⟨rfl,q1,z, ?_,F⟩;rw[lh 0 (show i<pl.length by omega),Uw];simpa[b9]using y
end
end
section
variable {lf d n:Nat} {h:H}
theorem CH(t:Nat)(ps:List Nat):(mZ t ps).length=18+(lz (eP eM ps)).length:=by unfold mZ;rw[ay,ay,dM,dM];omega
theorem aeS{v:Value}{ps:List Nat}{t:Nat}(l:Row h n 3 .i64 v (iN ps))(q:2<=t)(m:t<=6)(x:0<ps.length)(w:ps.length<=32767)(g:∀p∈ps,p<t)(c:3000000<=lf):aa (fun _=>False) n (ah ad gt lf (d+5) 131 #[v,jI (t:Int)]) h n fun k _ _=>k= .tuple #[jI ((mZ t ps).length:Int),jI 0]:=by
 rw[aF (fun _=>Po) rfl];refine aa.aD ?_;unfold AW;refine vm (Ux (lf:=lf) (d:=d) l q m x w g c) (ag _) fun F B i j=> ?_;try simp(disch:=first|omega|assumption) only[Nat.reduceAdd,Nat.reduceLT,RZ,fY]
 refine aJ aE (Uv (lf:=lf) (d:=d+1) (l.ar i j) jO (fun p f=>by have:=g p f;omega) c) jO (fun _ _ h=>h.elim) fun z E A u y e=> ?_;obtain⟨a,_⟩:=e;have r:=tL ps eM;obtain⟨b,s,cap,o,D,rfl,_⟩:=a.some (by rw[bC];omega);rw[bC]at a⊢;try simp(disch:=first|omega|assumption) only[Nat.reduceAdd,Nat.reduceLT,RZ]
 refine(aeQ (lf:=lf) (d:=d+4) (vw ps eM vv fun p f=>by have:=g p f;omega) jO a (eP eM ps).length 0 lf 18 jO jO jO jO).mono ?_;rintro k G C _ rfl;rw[dj,CH]
theorem aeT{lo w K:Nat}{sv:Value}{l:List Bool}(x:b8 K h lo n w sv l){v:Value}{ps:List Nat}{t:Nat}(T:Row h n 3 .i64 v (iN ps))(hd:∀b,aq v b->b≠w∧¬aq sv b)(t2:2<=t)(t6:t<=6)(h0:0<ps.length)(hl:ps.length<=32767)(G:∀p∈ps,p<t)(u3:l.length<=5000000)(m:3000000<=lf):
 aa (fun c=>c=w∨aq sv c) n (ah ad gt lf (d+5) 136 #[jP w 0,v,jI (t:Int)]) h n fun v' h' n'=>v'=jI 0∧∃s,b8 K h' lo n' w s (l++mZ t ps)∧∀c,c<n->aq s c->aq sv c:=by
 rw[aF (fun _=>PD) rfl];refine aa.aD ?_;unfold A3;have hw:=x.2.lt;try simp(disch:=first|omega|assumption) only[Nat.reduceAdd,Nat.reduceLT,RZ]
 refine vm (Ux (lf:=lf) (d:=d) T t2 t6 h0 hl G m) (ag _) fun h1 n1 j A=> ?_;have w1:=kg (x:=t) jO;have w2:=kg (x:=ps.length) jO;have N:=bC ps;have R:=T;obtain⟨a,c,rfl⟩:=T.len;try simp(disch:=first|omega|assumption) only[Nat.reduceAdd,Nat.reduceLT,RZ,fY,w1]
 have x1:=x.ar j fun b e _=>A b e;have r:=R.ar j A;refine aJ aE (ky (lf:=lf) (d:=d+2) x1 (k:=3) (v:=t) jO jO jO jO) j (fun b _ e=> .inr e) fun v2 h2 n2 L Y F=> ?_;obtain⟨rfl,s2,x2,g⟩:=F
 have z:=r.fz L fun b e=>Y b (r.lt e) fun q=>by
  obtain⟨q1,q2⟩:=hd b e;rcases q with q|q
  ·exact q1 q
  ·exact q2 q
 rw[N]at*;try simp(disch:=first|omega|assumption) only[Nat.reduceAdd,Nat.reduceLT,RZ,w2]
 have C:∀b,aq (.slice a ps.length c) b->¬aq s2 b:=fun b e q=>(hd b e).2 (g b (r.lt e) q);refine aJ aE (ky (lf:=lf) (d:=d+2) x2 (k:=15) (v:=ps.length) jO jO (by rw[ay,dM];omega) jO) jO (fun b e hq=> ?_) fun v3 h3 n3 J X E=> ?_
 ·rcases hq with rfl|hq
  ·exact .inr (.inl rfl)
  ·by_cases P:b<n
   ·exact .inr (.inr (g b jO hq))
   ·exact .inl jO
 obtain⟨rfl,B,x3,y⟩:=E
 have Q:=z.fz J fun b e=>X b (z.lt e) fun q=>by
  rcases q with q|q
  ·exact(hd b e).1 q
  ·exact C b e q
 try simp(disch:=first|omega|assumption) only[Nat.reduceAdd,Nat.reduceLT,RZ]
 refine aJ aE (Uv (lf:=lf) (d:=d+1) Q jO (fun p hq=>by have:=G p hq;omega) m) jO (fun _ _ h=>h.elim) fun v4 h4 n4 I U D=> ?_;obtain⟨f,i⟩:=D;have u0:=tL ps eM;obtain⟨b4,u1,cap,o,ks,rfl,_⟩:=f.some (by rw[bC];omega);rw[bC]at f i⊢;try simp(disch:=first|omega|assumption) only[Nat.reduceAdd,Nat.reduceLT,RZ]
 have x4:=x3.ar I fun b e _=>U b e id;have u:∀b,aq B b->b<n3:=fun b e=>((x3.2.own).lt e).2
 have up:∀b,aq B b->n<=b∨(b=w∨aq sv b):=fun b e=>by
  by_cases P:b<n
  ·exact .inr (.inr (g b jO (y b jO e)))
  ·exact .inl jO
 refine(aeR (lf:=lf) (d:=d+2) (vw ps eM vv fun p hq=>by have:=G p hq;omega) jO m (lo:=lo) (w:=w) (m1:=n4) (n0:=n) (si0:=B) (W:=fun c=>c=w∨aq sv c) (.inl rfl) jO up jO (fun b e=>⟨f.lt e,by have:=i b e;omega,fun q=>by have:=i b e;have:=u b q;omega⟩) (eP eM ps).length 0 lf _ h4 n4 B jO jO jO (ag _) x4 (fun c _ q=>q) f (by rw[ay,ay,dM,dM];omega)).mono ?_;rintro v' h' n' _ ⟨rfl,u2,s5,Z,O⟩;refine⟨rfl,s5, ?_,fun c hc q=> ?_⟩
 ·rw[dj,b9,b9]at Z;exact Z
 ·exact g c jO (y c jO (O c jO q))
end
def tN(ln:List Nat)(i:Nat):List Bool:=bQ (fB ln i) (ln.getD i 0)
section
variable {lf d n clo chi c:Nat} {h:H} {ln:List Nat}
theorem aeU(y:nX h clo chi c ln)(P:chi<=n){i:Nat}(w:i<ln.length):aa (fun _=>False) n (ah ad gt lf (d+1) 172 #[jP c 0,jI (i:Int)]) h n fun p h' n'=>p= .tuple #[.int .u32 (fB ln i:Int),jI (ln.getD i 0:Int),jI 0]∧h'=h∧n'=n:=by
 obtain⟨I,cv,E,g,v,_,x,_,_,_⟩:=y.ex;have lt:=y.lt;have j:(mT ln).length=ln.length:=by unfold mT;simp
 obtain⟨U,G,R,D,N,rfl,A,K,_,_,_,r⟩:=v.some (by rw[bC];omega);obtain⟨T,F,Q,C,L,rfl,z,J,_,_,_,q⟩:=x.some (by rw[j];omega);have l:=r i (by rw[bC];omega);have k:=q i (by rw[j];omega);rw[ki]at l
 have B:(mT ln).getD i 0=(fB ln i:Int):=by unfold mT;rw[au,fw,ua w];rfl
 rw[B]at k;have o:∀a b e f g,(dW a b e f g)[0]? =some a:=fun _ _ _ _ _=>rfl;have m:∀a b e f g,(dW a b e f g)[1]? =some b:=fun _ _ _ _ _=>rfl;have t:¬((i:Int)<0):=jO;have O:=bC ln;have s:¬(((iN ln).length:Int)<=(i:Int)):=jO;have i1:(i:Int)<((iN ln).length:Int):=jO;have u:(i:Int)<((mT ln).length:Int):=jO;rw[aF (fun _=>Qg) rfl];refine aa.aD ?_;unfold Gn;try simp(disch:=first|omega|assumption) only[Nat.reduceAdd,Nat.reduceLT,RZ,g,o,m,t,s,i1,u,A,z,l,k]
 all_goals (first|trivial|rfl|exact⟨rfl,rfl,rfl⟩|exact⟨rfl,rfl⟩)
theorem aeV{lo w K:Nat}{sv:Value}{l:List Bool}(x:b8 K h lo n w sv l)(y:nX h clo chi c ln)(A:chi<=n)(m:Wh ln){i:Nat}(g:i<ln.length)(B:l.length<=100000000)(f:33<=lf):aa (fun c=>c=w∨aq sv c) n (ah ad gt lf (d+3) 139 #[jP c 0,jP w 0,jI (i:Int)]) h n fun s h' n'=>s=jI 0∧∃e,b8 K h' lo n' w e (l++tN ln i)∧∀c,c<n->aq e c->aq sv c:=by
 rw[aF (fun _=>PK) rfl];refine aa.aD ?_;unfold F7;try simp(disch:=first|omega|assumption) only[Nat.reduceAdd,Nat.reduceLT,RZ]
 refine bU (aeU (lf:=lf) (d:=d+1) y A g) (ag _) (fun _ _ h=>h.elim) ?_;have q:∀(a b c:Value) (k:Value->M Value),aW (.tuple #[a,b,c]) 0 k=k a:=fun _ _ _ _=>rfl;have p:∀(a b c:Value) (k:Value->M Value),aW (.tuple #[a,b,c]) 1 k=k b:=fun _ _ _ _=>rfl;have o:∀(a b c:Value) (k:Value->M Value),aW (.tuple #[a,b,c]) 2 k=k c:=fun _ _ _ _=>rfl;have z:((0:Int) !=0)=false:=rfl;try simp(disch:=first|omega|assumption) only[Nat.reduceAdd,Nat.reduceLT,RZ,q,p,o,z]
 refine aJ aE (ky (lf:=lf) (d:=d) x (k:=ln.getD i 0) (v:=fB ln i) (by have:=(m.at g).2;omega) (m.SQ g) jO f) (ag _) (fun b _ C=> .inr C) fun E G F u D t=> ?_;obtain⟨rfl,e,r,j⟩:=t;try simp(disch:=first|omega|assumption) only[Nat.reduceAdd,Nat.reduceLT,RZ]
 exact⟨e,r,j⟩
end
section
variable {lf d n:Nat} {h:H}
end
section
variable {lf d n:Nat} {h:H}
end
def nb(xs:List Int)(z:Int):Prop:=0<xs.length∧(3<=z∧z<=258)∧dA z xs=true∧∀i,i<xs.length->(xs.getD i 0=z-1↔i+1=xs.length)
section
variable {lf d n:Nat} {h:H} (bB:3000000<=lf)
include bB
end
end Go.Proofs.YtcehhgppfahbkaaGreatDoor
namespace Go.Proofs.YtcehhgppfahbkaaGreatDoor
open Go.RowKit Ev Tb Cn
section
variable {lf d n:Nat} {h:H} (bB:3000000<=lf)
include bB
theorem Uy(v:Value)(xs:List Int)(z:Int)(g:Gd h n)(hR:Row h n 3 .i64 v xs)(X:xs.length<=1000000)(hd:600<=d):aa (fun _=>False) n (ah ad gt lf (d+1) 130 #[v,jI z]) h n fun v' h' n'=>
 (nb xs z∧∃x y,v'= .tuple #[.agg #[x,y],jI 0]∧RR h' n' 141 3 x (bH xs z.toNat 4)∧Row h' n' 3 .i64 y (jn (iR xs) (bH xs z.toNat 3)))∨(¬nb xs z∧v'= .tuple #[.agg #[.slice none 0 0,.slice none 0 0],jI 1]):=by
 obtain⟨d,rfl⟩:∃k,d=k+1:=⟨d-1,jO⟩;rw[aF (fun _=>Ph) rfl];refine aa.aD ?_;unfold F4;have u0:=hR;obtain⟨a,c,rfl⟩:=hR.len;refine fR nN _ ?_;obtain⟨E,w⟩:∃E,h.set n (some ⟨178,true,[.slice none 0 0,.slice none 0 0]⟩)=E:=⟨_,rfl⟩;have ka:∀b,b<n->E.get b=h.get b:=fun b hb=>by rw[<-w];exact ak _ _ jO
 have P:E.get n=some ⟨178,true,[.slice none 0 0,.slice none 0 0]⟩:=by rw[<-w,get_eq]
 rw[w];have A:=u0.ar (cI n) ka
 have l:∀(x y:Value) (e:Int) (o:H) (F:Nat) (Q:Value->H->Nat->Prop),n<F->o.get n=some ⟨178,true,[.slice none 0 0,.slice none 0 0]⟩->one x=true->one y=true->(∀h',(∀b,b≠n->h'.get b=o.get b)->Q (.tuple #[.agg #[x,y],jI e]) h' F)->
  aa (fun _=>False) n (bW 2 (jP n 0) (.agg #[x,y]) fun _=>bO 2 (jP n 0) fun b=>ae [b,jI e]) o F Q:=by
  intro x y e o F Q hn hg o1 o2 hQ;refine j7 (sz:=2) trivial (vs:=[x,y]) rfl rfl (by simp[o1,o2]) hg hn (.inl (ag _)) _ fun h5 Z k5=> ?_;refine zZ trivial trivial (sz:=2) _ _ _ Z jO jS ?_;rw[uJ];exact hQ h5 k5
 by_cases h0:xs.length=0
 ·have e:((xs.length:Int)==0)=true:=by rw[h0];rfl
  try simp(disch:=first|omega|assumption) only[Nat.reduceAdd,Nat.reduceLT,RZ,e]
  exact l _ _ 1 E (n+1) _ (dL n) P rfl rfl fun h' _=> .inr ⟨fun m=>by have:=m.1;omega,rfl⟩
 have e:((xs.length:Int)==0)=false:=by rw[beq_eq_false_iff_ne];omega
 obtain⟨L,G⟩:∃L,IntKind.i64.wrap (z-1)=L:=⟨_,rfl⟩;try simp(disch:=first|omega|assumption) only[Nat.reduceAdd,Nat.reduceLT,RZ,e,G]
 refine aJ aE (Tg lf d (n+1) E bB _ xs L A X) jO (fun _ _ h=>h.elim) fun v1 o F _ _ hq=> ?_;obtain⟨⟨r,rfl,hr⟩,rfl,rfl⟩:=hq;have u1:Gd o (n+1):=g.ar (cI n) ka;have mem:∀i,i<xs.length->xs.getD i 0∈xs:=fun i N=>by rw[au,aC N];exact cu _
 have R:3<=z∧z<=258->L=z-1:=fun q=>by rw[<-G];exact aO jO jO
 by_cases I:r=(xs.length:Int)-1
 ·have f:(r !=(xs.length:Int)-1)=false:=by rw[I];simp
  try simp(disch:=first|omega|assumption) only[Nat.reduceAdd,Nat.reduceLT,RZ,f]
  by_cases D:(3<=z∧z<=258)∧dA z xs=true
  ·have hm:nb xs z:=by
    refine⟨jO,D.1,D.2,fun j hj=> ?_⟩;rcases hr with ⟨q,_⟩|⟨i,N,U,p,u⟩
    ·omega
    ·rw[R D.1]at p u;refine⟨fun q=> ?_,fun q=> ?_⟩
     ·by_cases Y:j<i
      ·exact absurd q (u j Y)
      ·omega
     ·rw[show j=i by omega];exact p
   obtain⟨s,rfl⟩:∃s:Nat,z=(s:Int):=⟨z.toNat,jO⟩;refine aJ aE (aei lf (d+1) (n+1) o bB _ xs s u1 A jO X jO jO D.2 hd) jO (fun _ _ h=>h.elim) fun v2 J T W C t=> ?_;obtain⟨x,y,rfl,p,hy⟩:=t;have K:J.get n=some ⟨178,true,[.slice none 0 0,.slice none 0 0]⟩:=(C n (dL n) id).trans P;try simp(disch:=first|omega|assumption) only[Nat.reduceAdd,Nat.reduceLT,RZ,dq,ext1]
   refine l x y 0 J T _ jO K (by obtain⟨_,_,rfl⟩:=p.len;rfl) (by obtain⟨_,_,rfl⟩:=hy.len;rfl) fun h' k'=> .inl ⟨hm,x,y,rfl, ?_, ?_⟩
   ·refine p.qI (ag _) fun b B _ hB he=>LS K k' hB fun q=> ?_;rcases he with he|he
    ·exact absurd (show(141:Nat)=178 from he.symm.trans q) jD
    ·exact absurd (show(3:Nat)=178 from he.symm.trans q) jD
   ·refine hy.qI (ag _) fun b B _ hB he=>LS K k' hB fun q=> ?_;exact absurd (show(3:Nat)=178 from he.symm.trans q) jD
  ·have no:z<3∨258<z∨xs=[]∨dA z xs=false:=by
    cases hb:dA z xs with
    |false=>exact .inr (.inr (.inr rfl))
    |true=>have:¬(3<=z∧z<=258):=fun q=>D ⟨q,hb⟩;omega
   refine aJ aE (aej lf (d+1) (n+1) o bB _ xs z A X no hd) jO (fun _ _ h=>h.elim) fun v2 J T W C t=> ?_;subst t;have K:J.get n=some ⟨178,true,[.slice none 0 0,.slice none 0 0]⟩:=(C n (dL n) id).trans P;try simp(disch:=first|omega|assumption) only[Nat.reduceAdd,Nat.reduceLT,RZ,dq,ext1]
   exact l _ _ 1 J T _ jO K rfl rfl fun h' _=> .inr ⟨fun m=>D ⟨m.2.1,m.2.2.1⟩,rfl⟩
 ·have f:(r !=(xs.length:Int)-1)=true:=by rw[bne_iff_ne];exact I
  try simp(disch:=first|omega|assumption) only[Nat.reduceAdd,Nat.reduceLT,RZ,f]
  refine l _ _ 1 o (n+1) _ (dL n) P rfl rfl fun h' _=> .inr ⟨fun m=> ?_,rfl⟩;rcases hr with ⟨_,q⟩|⟨i,N,U,p,u⟩
  ·refine q _ (mem (xs.length-1) jO) ?_;rw[R m.2.1];exact(m.2.2.2 (xs.length-1) jO).2 jO
  ·rw[R m.2.1]at p;have:=(m.2.2.2 i N).1 p;omega
end
def bD(r:List Int):List Nat:=r.map vQ
theorem Uz{r:List Int}(h:∀x∈r,0<=x):iN (bD r)=r:=by unfold iN bD;rw[mq];refine(ni fun x a=> ?_).trans (VP r);have:=h x a;show((x.toNat:Nat):Int)=id x;rw[jU this];rfl
structure GoodR (s:Nat) (r:List Int):Prop where
 eq:iN (bD r)=r
 len:(bD r).length=s
 lo:∀x∈bD r,1<=x
 hi:∀x∈bD r,x<=20
 sh:gD (iN (bD r))=1048576
 wh:Wh (bD r)
theorem aeW{r:List Int}{s:Nat}(f:r.length=s)(g:dk 1 20 r=true)(c:gD r=1048576):GoodR s r:=by
 have h:=iu.1 g;have e:=Uz (r:=r) fun x a=>by have:=h x a;omega
 have b:∀x∈bD r,1<=x∧x<=20:=fun x a=>by unfold bD at a;obtain⟨y,d,rfl⟩:=List.mem_map.1 a;have:=h y d;omega
 refine⟨e,by unfold bD;rw[eR];exact f,fun x a=>(b x a).1,fun x a=>(b x a).2,by rw[e];exact c,acw b (by rw[e];exact c)⟩
theorem aeX{xs:List Int}{s:Nat}(e:xs.length<=1000000)(a:dA s xs=true)(j:3<=s)(d:s<=258)(k:Nat):∀r∈bH xs s (k+1),GoodR s r:=fun r b=>by
 have i:=HW e a;unfold bH pL at b;obtain⟨p,_,rfl⟩:=List.mem_map.1 b;have h:(ra (iR xs) (bH xs s k) s p).length=s:=by unfold ra;exact jk _ _
 have:=Uo (c:=ra (iR xs) (bH xs s k) s p) jO jO (CB (iR xs) (bH xs s k) s p i (fun g f=>f) (ag _));exact aeW (by rw[this.1,h]) this.2.1 this.2.2
def pO(h:H)(n m1:Nat)(e f:Value)(cs:List Value)(rows:List (List Nat)):Prop:=
 cs.length=rows.length∧∀j,j<rows.length->∃a d c,cs[j]? =some (jP c 0)∧m1<=a∧d<=n∧nX h a d c (rows.getD j [])∧∀b,a<=b->b<d->¬aq e b∧¬aq f b
theorem pO.ar{h h':H}{n n' m1:Nat}{k a l d:Value}{cs:List Value}{rows:List (List Nat)}(x:pO h n m1 k l cs rows)(w:n<=n')(r:∀b,m1<=b->b<n->¬aq k b->¬aq l b->h'.get b=h.get b)(p:∀b,b<n->aq a b->aq k b)(t:∀b,b<n->aq d b->aq l b):pO h' n' m1 a d cs rows:=by refine⟨x.1,fun j s=> ?_⟩;obtain⟨m,o,c,e,v,y,u,i⟩:=x.2 j s;exact⟨m,o,c,e,v,jO,u.ar fun b g f=>r b jO jO (i b g f).1 (i b g f).2,fun b g f=>⟨fun q=>(i b g f).1 (p b jO q),fun q=>(i b g f).2 (t b jO q)⟩⟩
theorem pO.push{h:H}{n m1:Nat}{f g:Value}{cs:List Value}{rows:List (List Nat)}(x:pO h n m1 f g cs rows){clo chi c:Nat}{ln:List Nat}(m:m1<=clo)(h2:chi<=n)(k:nX h clo chi c ln)(l:∀b,clo<=b->b<chi->¬aq f b∧¬aq g b):pO h n m1 f g (cs++[jP c 0]) (rows++[ln]):=by
 refine⟨by rw[ay,ay,x.1];rfl,fun j i=> ?_⟩;rw[ay,tW]at i;by_cases q:j<rows.length
 ·obtain⟨a,b,d,e,r⟩:=x.2 j q;refine⟨a,b,d,by rw[pX (by rw[x.1];exact q)];exact e, ?_⟩;rw[au,pX q,<-au];exact r
 ·obtain rfl:j=rows.length:=jO;refine⟨clo,chi,c, ?_,m,h2, ?_,l⟩
  ·rw[<-x.1];simp
  ·rw[au];simpa using k
theorem UA{l:List Nat}(h:0<l.length)(a:∀x∈l,x<=20):l.getD 0 0<=20:=a _ (by rw[au,aC h];exact cu _)
section
variable {lf d lo w m1 n0 Kt:Nat} {si0:Value} {W:Nat->Prop} {FR:H->Prop} {tb tO tP:Nat} {T:List (List Int)} {s:Nat}
set_option maxHeartbeats 1000000 in
theorem aeY (N:3000000<=lf) (hw:W w) (v8:w<m1) (hW:∀c,aq si0 c->n0<=c∨W c) (h0:n0<=m1)
 (fr:∀h h':H,FR h->(∀b,b<m1->b≠w->¬aq si0 b->h'.get b=h.get b)->FR h')
 (u1:∀h n,m1<=n->FR h->RR h n 141 3 (.slice (some ⟨tb,tO,none⟩) T.length tP) T)
 (hT:∀r∈T,GoodR s r) (h3:3<=s) (v5:s<=258) (w0:T.length<=6) {x2 x3 x4 x5 x6 x8 x9:Value} {K:Value->Value->Value->Value->Value->Value->Value->Value->Value->Value->Value->Value->Value->M Value} {Q:Value->H->Nat->Prop}:
 ∀(m i u:Nat) (l:List Bool) (h:H) (n:Nat) (C y:Value) (cs:List Value),T.length-i=m->m<u->i<=T.length->m1<=n->b8 Kt h lo n w C l->(∀c,c<m1->aq C c->aq si0 c)->FR h->Own h m1 n 188 y cs->(∀b,aq y b->¬aq C b)->pO h n m1 C y cs ((T.take i).map bD)->l.length+11000*m<=7000000->
 (∀h' n' j k cs',m1<=n'->b8 Kt h' lo n' w j (l++((T.drop i).map bD).flatMap iT)->(∀c,c<m1->aq j c->aq si0 c)->FR h'->Own h' m1 n' 188 k cs'->(∀b,aq k b->¬aq j b)->pO h' n' m1 j k cs' (T.map bD)->aa W n0 (K (jP w 0) x2 x3 x4 x5 x6 k x8 x9 (.slice (some ⟨tb,tO,none⟩) T.length tP) (jI (T.length:Int)) (jI (T.length:Int)) (.bool false)) h' n' Q)->
 aa W n0 (sq lf (ah ad gt lf (d+7)) u K (jP w 0) x2 x3 x4 x5 x6 y x8 x9 (.slice (some ⟨tb,tO,none⟩) T.length tP) (jI (T.length:Int)) (jI (i:Int))) h n Q:=by
 intro m
 induction m with
 |zero=>
  intro i u l h n C y cs hm hf hi hn x J Y U v O hl X;obtain⟨u,rfl⟩:∃f,u=f+1:=⟨u-1,jO⟩;obtain rfl:i=T.length:=jO;rw[sq];try simp(disch:=first|omega|assumption) only[Nat.reduceAdd,Nat.reduceLT,RZ,cb]
  rw[fi]at O;rw[qc]at X;exact X h n C y cs hn (by simpa using x) J Y U v O
 |succ m ih=>
  intro i u l h n C y cs hm hf hi hn x J Y U v O hl X;obtain⟨u,rfl⟩:∃f,u=f+1:=⟨u-1,jO⟩;have e1:((i:Nat):Int)<((T.length:Nat):Int):=jO;obtain⟨b,v7,cap,o,ks,hv,hg,a,u9⟩:=(u1 h n hn Y).at jO;cases hv;obtain⟨rv,u0,g⟩:=u9 i jO;have L:T.getD i []∈T:=by rw[au,aC jO];exact cu _
  have p:=hT _ L;rw[<-p.eq]at g;have v6:=x.2.lt;have gw:=x.2.get;have so:=x.2.own
  have apart:∀b,aq rv b->b≠w∧¬aq C b:=fun b a=>by
   obtain⟨B,q1,q2⟩:=g.elem a;refine⟨fun e=> ?_,fun q=> ?_⟩
   ·subst e;rw[gw]at q1;cases q1;exact absurd (show(133:Nat)=3 from q2) jD
   ·obtain⟨B',q3,q4⟩:=so.elem q;rw[q1]at q3;cases q3;rw[q2]at q4;exact absurd (show(3:Nat)=5 from q4) jD
  rw[sq];try simp(disch:=first|omega|assumption) only[Nat.reduceAdd,Nat.reduceLT,RZ,e1,hg,u0]
  refine aJ aE (aeF (lf:=lf) (d:=d+1) x g apart (by rw[p.len];omega) (by rw[p.len];omega) p.lo p.hi jO N) jO (fun c hc hq=> ?_) fun v2 h2 n2 u6 A u3=> ?_
  ·rcases hq with rfl|hq
   ·exact .inr hw
   ·by_cases u7:c<m1
    ·exact hW c (J c u7 hq)
    ·exact .inl jO
  obtain⟨rfl,s2,I,G⟩:=u3
  have E:=g.fz u6 fun b a=>A b (g.lt a) fun q=>by
   rcases q with q|q
   ·exact(apart b a).1 q
   ·exact(apart b a).2 q
  try simp(disch:=first|omega|assumption) only[Nat.reduceAdd,Nat.reduceLT,RZ]
  refine aJ aE (acN lf d n2 h2 N rv (bD (T.getD i [])) E (by rw[p.len];omega) (by rw[p.len];omega) p.wh p.sh) jO (fun _ _ h=>h.elim) fun v3 v1 Z v9 z u2=> ?_;obtain⟨c,rfl,F⟩:=u2;try simp(disch:=first|omega|assumption) only[Nat.reduceAdd,Nat.reduceLT,RZ,dq,ext1]
  have t:∀b,aq y b->m1<=b∧b<n:=fun b a=>U.lt a
  have v0:Own v1 m1 Z 188 y cs:=U.ar jO fun b a=>by
   have:=t b a
   rw[z b jO id,A b jO fun q=>by
    rcases q with q|q
    ·omega
    ·exact v b a q]
  have w2:cs.length<=6:=by rw[O.1,eR,ed];omega
  refine E7 trivial (Yv _) v0 jO (fun b a=> .inl (by have:=t b a;omega)) _ fun h4 g4 R=> ?_;try simp(disch:=first|omega|assumption) only[Nat.reduceAdd,Nat.reduceLT,RZ]
  have w1:((i:Nat):Int)+1=((i+1:Nat):Int):=rfl;rw[w1];have D:∀b,aq s2 b->b<n2:=fun b a=>((I.2.own).lt a).2
  have dl:(iT (bD (T.getD i []))).length<=11000:=by unfold iT;rw[ay,dM];have v4:=UA (l:=bD (T.getD i [])) (by rw[p.len];omega) p.hi;have:=H2 (bD (T.getD i [])) _ v4 p.hi;rw[p.len]at this;omega
  refine ih (i+1) u _ h4 (Z+2) s2 _ _ jO jO jO jO (I.ar jO fun b a hq=> ?_) (fun c hc q=>J c hc (G c jO q)) ?_ (Own.mk' g4 jO jO jS) (fun b a q=> ?_) ?_ (by rw[ay];omega) ?_
  ·rw[R b jO fun q=>by
    rcases hq with rfl|hq
    ·have:=t _ q;omega
    ·have:=t b q
     exact v b q (G b jO hq),z b jO id]
  ·refine fr h h4 Y fun b a u5 u4=> ?_
   rw[R b jO (fun q=>by have:=t b q;omega),z b jO id,A b jO fun q=>by
    rcases q with q|q
    ·exact u5 q
    ·exact u4 (J b a q)]
  ·rw[a.inj]at q;have:=D _ q;omega
  ·rw[show T.take (i+1)=T.take i++[T.getD i []] by rw[au,aC jO];exact(ahZ jO).symm,gZ];refine pO.push (c:=c) (clo:=n2) (chi:=Z) ?_ jO jO (F.ar fun b b1 P=>R b P fun q=>by have:=t b q;omega) fun b b1 P=>⟨fun q=>by have:=D b q;omega,fun q=>by rw[q.inj]at P;omega⟩;refine O.ar jO (fun b b0 b1 P b3=> ?_) (fun b a q=>G b a q) (fun b a q=>by rw[q.inj]at a;omega)
   rw[R b jO b3,z b jO id,A b jO fun q=>by
    rcases q with q|q
    ·omega
    ·exact P q]
  ·intro h' n' j k cs' a1 a2 a3 a4 a5 a6 a7;refine X h' n' j k cs' a1 ?_ a3 a4 a5 a6 a7;rw[lh [] (show i<T.length by omega),lE,VS,<-b9];exact a2
end
def iU(rows:List (List Nat))(ps:List Nat):Nat->List Nat->List Bool
 |_,[]=>[]
 |i,x::l=>tN (rows.getD (ps.getD (i/50) 0) []) x++iU rows ps (i+1) l
theorem ya(rows:List (List Nat))(ps:List Nat)(i x:Nat)(l:List Nat):iU rows ps i (x::l)=tN (rows.getD (ps.getD (i/50) 0) []) x++iU rows ps (i+1) l:=rfl
theorem yc{l:List Nat}{i:Nat}(h:i<l.length):l.getD i 0∈l:=by rw[au,aC h];exact cu _
section
variable {lf d lo w m1 n0 z gb gcap K:Nat} {si0 xv pv tv:Value} {W:Nat->Prop} {FR:H->Prop} {rows:List (List Nat)} {ps xn:List Nat} {cs:List Value} {e gt':TypeId}
set_option maxHeartbeats 1000000 in
theorem aeZ (u4:3000000<=lf) (hw:W w) (u2:w<m1) (hW:∀c,aq si0 c->n0<=c∨W c) (h0:n0<=m1)
 (fr:∀h h':H,FR h->(∀b,b<m1->b≠w->¬aq si0 b->h'.get b=h.get b)->FR h')
 (hx:∀h n,m1<=n->FR h->Row h n 3 .i64 xv (iN xn)) (hp:∀h n,m1<=n->FR h->Row h n 3 .i64 pv (iN ps))
 (hz:z<m1) (D:∀h,FR h->h.get z=some ⟨e,true,[tv,pv]⟩) (u6:gb<m1) (L:∀h,FR h->h.get gb=some ⟨gt',true,cs⟩)
 (P:∀h,FR h->∀j,j<rows.length->∃clo chi c,cs[j]? =some (jP c 0)∧chi<=m1∧nX h clo chi c (rows.getD j [])) (u7:cs.length=rows.length)
 (u:∀r∈rows,Wh r) (F:∀p∈ps,p<rows.length) (G:∀i,i<xn.length->i/50<ps.length) (C:∀x∈xn,∀r∈rows,x<r.length) (u1:xn.length<=100000) {x3 x4 x6 x8 x9 x10 x11 x12 x13:Value}:
 ∀(m i g:Nat) (l:List Bool) (h:H) (n:Nat) (s:Value),xn.length-i=m->m<g->i<=xn.length->m1<=n->b8 K h lo n w s l->(∀c,c<m1->aq s c->aq si0 c)->FR h->l.length+20*m<=9000000->
 aa W n0 (su lf (ah ad gt lf (d+3)) g (AF lf (ah ad gt lf (d+3))) (jP w 0) xv x3 x4 (jP z 0) x6 (.slice (some ⟨gb,0,none⟩) rows.length gcap) x8 x9 x10 x11 x12 x13 xv (jI (xn.length:Int)) (jI (i:Int))) h n fun X h' n'=>X=jI 0∧m1<=n'∧∃o,b8 K h' lo n' w o (l++iU rows ps i (xn.drop i))∧∀c,c<m1->aq o c->aq si0 c:=by
 intro m
 induction m with
 |zero=>
  intro i g l h n s hm hf hi y x v k hl;obtain⟨g,rfl⟩:∃f,g=f+1:=⟨g-1,jO⟩;obtain rfl:i=xn.length:=jO;rw[su];try simp(disch:=first|omega|assumption) only[Nat.reduceAdd,Nat.reduceLT,RZ,cb]
  (try unfold AF);(try unfold a);(try dsimp only)
  try simp(disch:=first|omega|assumption) only[Nat.reduceAdd,Nat.reduceLT,RZ]
  refine⟨y,s, ?_,v⟩;rw[qc];simpa[iU]using x
 |succ m ih=>
  intro i g l h n s hm hf hi y x v k hl;obtain⟨g,rfl⟩:∃f,g=f+1:=⟨g-1,jO⟩;have il:=bC xn;have pl:=bC ps;have hq:=G i jO;obtain⟨b1,o1,c1,w1,k1,rfl,g1,l1,_,_,_,t1⟩:=(hx h n y k).some jO;obtain⟨b2,Z,c2,w2,k2,rfl,g2,l2,_,_,_,t2⟩:=(hp h n y k).some jO;have a1:=t1 i jO;have a2:=t2 (i/50) jO;rw[ki]at a1 a2;have Y:=F _ (yc hq);have gz:=D h k;have gg:=L h k;obtain⟨clo,chi,c,ec,u9,N⟩:=P h k _ Y;have B:rows.getD (ps.getD (i/50) 0) []∈rows:=by rw[au,aC Y];exact cu _
  have e1:((i:Nat):Int)<((xn.length:Nat):Int):=jO;have U:((i:Nat):Int)<(((iN xn).length:Nat):Int):=jO;have q1:((i:Nat):Int).tdiv 50=((i/50:Nat):Int):=rfl;have q2:((i/50:Nat):Int)<(((iN ps).length:Nat):Int):=jO;have q3:((ps.getD (i/50) 0:Nat):Int)<((rows.length:Nat):Int):=jO;have q4:IntKind.i64.wrap ((i/50:Nat):Int)=((i/50:Nat):Int):=aO jO jO;have ww:((i:Nat):Int)+1=((i+1:Nat):Int):=rfl;have u0:z<n:=jO;have u5:gb<n:=jO;have t:xn.getD i 0<(rows.getD (ps.getD (i/50) 0) []).length:=C _ (yc jO) _ B;have z1:([tv,fN (some ⟨b2,Z,none⟩) (iN ps).length c2]:List Value)[1]? =some (.slice (some ⟨b2,Z,none⟩) (iN ps).length c2):=rfl;rw[su];try simp(disch:=first|omega|assumption) only[Nat.reduceAdd,Nat.reduceLT,RZ,e1,U,g1,a1,gz,z1,q1,q4,q2,g2,a2,q3,gg,ec,fD]
  refine aJ aE (aeV (lf:=lf) (d:=d) x N jO (u _ B) t jO jO) jO (fun c hc hq=> ?_) fun v2 h2 n2 u3 T E=> ?_
  ·rcases hq with rfl|hq
   ·exact .inr hw
   ·by_cases O:c<m1
    ·exact hW c (v c O hq)
    ·exact .inl jO
  obtain⟨rfl,s2,x2,R⟩:=E;try simp(disch:=first|omega|assumption) only[Nat.reduceAdd,Nat.reduceLT,RZ]
  rw[ww]
  have cl:(tN (rows.getD (ps.getD (i/50) 0) []) (xn.getD i 0)).length<=20:=by unfold tN;rw[dM];exact((u _ B).at t).2
  refine(ih (i+1) g _ h2 n2 s2 jO jO jO jO x2 (fun c hc q=>v c hc (R c jO q)) (fr h h2 k fun b hb J I=>T b jO fun q=> ?_) (by rw[ay];omega)).mono ?_
  ·rcases q with q|q
   ·exact J q
   ·exact I (v b hb q)
  ·rintro X h' n' _ ⟨rfl,q1,A,x3,Q⟩;refine⟨rfl,q1,A, ?_,Q⟩;rw[lh 0 (show i<xn.length by omega),ya,<-b9];exact x3
end
noncomputable def rowsOf (xs:List Int) (z:Int):List (List Nat):=(bH xs z.toNat 4).map bD
noncomputable def cK (xs:List Int) (z:Int):List Nat:=jm (iR xs) (bH xs z.toNat 3)
noncomputable def tQ (xs:List Int) (z:Int):List Bool:=mZ (rowsOf xs z).length (cK xs z)++((rowsOf xs z).flatMap iT++iU (rowsOf xs z) (cK xs z) 0 (bD xs))
structure ae0 (xs:List Int) (z:Int):Prop where
 rl:(rowsOf xs z).length=jQ (xs.length:Int)
 r2:2<=(rowsOf xs z).length
 r6:(rowsOf xs z).length<=6
 p0:0<(cK xs z).length
 pl:(cK xs z).length=cY xs.length
 pm:∀p∈cK xs z,p<(rowsOf xs z).length
 oh:∀r∈bH xs z.toNat 4,GoodR z.toNat r
 wh:∀r∈rowsOf xs z,Wh r
 ie:iN (bD xs)=xs
 sy:∀x∈bD xs,∀r∈rowsOf xs z,x<r.length
 at_:∀i,i<(bD xs).length->i/50<(cK xs z).length
theorem vx{xs:List Int}{z:Int}(m:nb xs z)(o:xs.length<=1000000):ae0 xs z:=by
 obtain⟨A,v,a,_⟩:=m;have c:dA (z.toNat:Int) xs=true:=by rw[jU jO];exact a
 have h:=aeX o c (s:=z.toNat) jO jO 3;have t:=HO (xs.length:Int);have k:(rowsOf xs z).length=jQ (xs.length:Int):=by unfold rowsOf;rw[eR,xY]
 have l:iN (bD xs)=xs:=Uz fun x d=>(vt.1 a x d).1;have u:(bD xs).length=xs.length:=by unfold bD;rw[eR]
 have e:(cK xs z).length=cY xs.length:=by unfold cK;rw[xW,TM]
 refine⟨k,jO,jO,by rw[e];unfold cY;omega,e,fun p j=> ?_,h,fun r b=> ?_,l,fun x d r b=> ?_,fun i w=>by rw[e];unfold cY;omega⟩
 ·unfold cK jm at j;obtain⟨g,_,rfl⟩:=List.mem_map.1 j;have:=TP g (T:=bH xs z.toNat 3) (by rw[xY];omega);rw[xY]at this;omega
 ·unfold rowsOf at b;obtain⟨q,f,rfl⟩:=List.mem_map.1 b;exact(h q f).wh
 ·unfold rowsOf at b;obtain⟨q,f,rfl⟩:=List.mem_map.1 b;rw[(h q f).len];unfold bD at d;obtain⟨y,n,rfl⟩:=List.mem_map.1 d;have:=vt.1 a y n;omega
theorem ph:∀{rows:List (List Nat)},(∀r∈rows,(iT r).length<=11000)->(rows.flatMap iT).length<=11000*rows.length
 |[],_=>by simp
 |r::a,h=>by have d:=h r jS;have c:=ph (rows:=a) fun q b=>h q (by simp[b]);rw[VS,ay,bL];omega
theorem CI{ln:List Nat}(a:∀x∈ln,x<=20)(b:0<ln.length)(c:ln.length<=258):(iT ln).length<=11000:=by unfold iT;rw[ay,dM];have:=H2 ln _ (UA b a) a;omega
section
variable {lf d lo n w K:Nat} {h:H} {sv:Value} {l:List Bool}
theorem b8.apart(x:b8 K h lo n w sv l){b:Nat}{B:AB}(a:h.get b=some B)(f:B.elem≠133)(h2:B.elem≠5):b≠w∧¬aq sv b:=by
 refine⟨fun e=> ?_,fun q=> ?_⟩
 ·subst e;rw[x.2.get]at a;cases a;exact f rfl
 ·obtain⟨g,c,d⟩:=(x.2.own).elem q;rw[a]at c;cases c;exact h2 d
set_option maxHeartbeats 400000 in
theorem ae1(E:3000000<=lf)(g:Gd h n)(x:b8 K h lo n w sv l)(x7:1<lo){v:Value}{xs:List Int}(hR:Row h n 3 .i64 v xs)(hl:xs.length<=1000)(x0:l.length<=5000000)(z:Int)(hd:600<=d):
 aa (fun c=>c=w∨aq sv c) n (ah ad gt lf (d+8) 100 #[jP w 0,v,jI z]) h n fun v' h' n'=>(nb xs z∧v'=jI 0∧∃Y,b8 K h' lo n' w Y (l++tQ xs z)∧∀c,c<n->aq Y c->aq sv c)∨(¬nb xs z∧v'=jI 1∧b8 K h' lo n' w sv l):=by
 rw[aF (fun _=>OM) rfl];refine aa.aD ?_;unfold AH;have u9:=hR;obtain⟨a,c,rfl⟩:=hR.len;have w6:=x.2.lt;try simp(disch:=first|omega|assumption) only[Nat.reduceAdd,Nat.reduceLT,RZ]
 refine aJ aE (Uy (lf:=lf) (d:=d+6) E _ xs z g u9 jO jO) (ag _) (fun _ _ h=>h.elim) fun v1 h1 i u6 v2 v8=> ?_;have x1:=x.ar u6 fun b f _=>v2 b f id;have w3:=u9.ar u6 fun b f=>v2 b f id;rcases v8 with ⟨L,cx,cy,rfl,u4,u2⟩|⟨L,rfl⟩
 rotate_left
 ·have z1:((1:Int) !=0)=true:=rfl;try simp(disch:=first|omega|assumption) only[Nat.reduceAdd,Nat.reduceLT,RZ,dq,ext1]
  refine fR nN _ ?_;refine j7 (sz:=2) trivial (vs:=[.slice none 0 0,.slice none 0 0]) rfl rfl rfl (get_eq _ _ _) jO (.inl jO) _ fun h2 g2 k2=> ?_;try simp(disch:=first|omega|assumption) only[Nat.reduceAdd,Nat.reduceLT,RZ,z1]
  refine .inr ⟨L,x1.ar jO fun b f _=> ?_⟩;rw[k2 b jO,ak _ _ jO]
 have ok:=vx L jO;have zz:((0:Int) !=0)=false:=rfl;have o1:one cx=true:=by obtain⟨_,_,rfl⟩:=u4.len;rfl
 have o2:one cy=true:=by obtain⟨_,_,rfl⟩:=u2.len;rfl
 try simp(disch:=first|omega|assumption) only[Nat.reduceAdd,Nat.reduceLT,RZ,dq,ext1]
 refine fR nN _ ?_;refine j7 (sz:=2) trivial (vs:=[cx,cy]) rfl rfl (by simp[o1,o2]) (get_eq _ _ _) jO (.inl jO) _ fun h2 g2 k2=> ?_;have D:∀b,b<i->h2.get b=h1.get b:=fun b f=>by rw[k2 b jO,ak _ _ jO]
 have x2:=x1.ar (cI i) fun b f _=>D b f;have w2:=w3.ar (cI i) D;have u3:=u4.ar (cI i) D;have v5:=u2.ar (cI i) D;have X:(bH xs z.toNat 4).length=(rowsOf xs z).length:=by unfold rowsOf;rw[eR]
 have u:Row h2 (i+1) 3 .i64 cy (iN (cK xs z)):=v5;have r2:=ok.r2;obtain⟨tb,m,o,w7,w9,rfl,tg,_,_⟩:=u3.at jO;have u1:i<i+1:=jO;try simp(disch:=first|omega|assumption) only[Nat.reduceAdd,Nat.reduceLT,RZ,zz,g2]
 rw[X]
 refine aJ aE (aeT (lf:=lf) (d:=d+2) x2 u (fun b f=>by
  obtain⟨B,q1,q2⟩:=u.elem f
  exact x2.apart q1 (by rw[q2];decide) (by rw[q2];decide)) ok.r2 ok.r6 ok.p0 (by rw[ok.pl];unfold cY;omega) ok.pm jO E) jO (fun b f hq=> ?_) fun v3 R N u5 O v7=> ?_
 ·rcases hq with rfl|hq
  ·exact .inr (.inl rfl)
  ·exact .inr (.inr hq)
 obtain⟨rfl,s3,x3,F⟩:=v7;have G:∀b,aq sv b->b<n:=fun b f=>((x.2.own).lt f).2
 have g3:R.get i=some ⟨178,true,[.slice (some ⟨tb,m,none⟩) (rowsOf xs z).length o,cy]⟩:=by
  rw[O i u1 fun q=>by
   rcases q with q|q
   ·omega
   ·have:=G i q;omega,g2,X]
 have v6:RR R N 141 3 (.slice (some ⟨tb,m,none⟩) (bH xs z.toNat 4).length o) (bH xs z.toNat 4):=u3.qI u5 fun b B f hB he=>O b f fun q=>by
  obtain⟨q1,q2⟩:=x2.apart hB (by rcases he with he|he<;>(rw[he];decide)) (by rcases he with he|he<;>(rw[he];decide));rcases q with q|q
  ·exact q1 q
  ·exact q2 q
 have J:∀{v:Value} {Q:List Int},Row h2 (i+1) 3 .i64 v Q->Row R N 3 .i64 v Q:=fun r=>r.fz u5 fun b f=>O b (r.lt f) fun q=>by
  obtain⟨B,e1,U⟩:=r.elem f;obtain⟨q1,q2⟩:=x2.apart e1 (by rw[U];decide) (by rw[U];decide);rcases q with q|q
  ·exact q1 q
  ·exact q2 q
 have w1:=J w2;have v4:=J u;have I:¬aq s3 i:=fun q=>by have:=G _ (F i u1 q);omega
 have u0:i<N:=jO
 have p6:(mZ (rowsOf xs z).length (cK xs z)).length<=300000:=by rw[CH];have:=CG (l:=eP eM (cK xs z)) (vw _ _ vv fun p hp=>by have:=ok.pm p hp;have:=ok.r6;omega);rw[tL,ok.pl]at this;unfold cY at this;omega
 try simp(disch:=first|omega|assumption) only[Nat.reduceAdd,Nat.reduceLT,RZ,g3]
 rw[<-X];refine aeY (lf:=lf) (d:=d) (lo:=lo) (w:=w) (m1:=N) (n0:=n) (si0:=s3) (W:=fun c=>c=w∨aq sv c) (FR:=fun h'=>∀b,b<N->b≠w->¬aq s3 b->h'.get b=R.get b) (T:=bH xs z.toNat 4) (s:=z.toNat) E (.inl rfl) jO (fun c hc=> ?_) jO (fun h h' k hk b f A y=>(hk b f A y).trans (k b f A y)) (fun h' n' t k=>v6.qI t fun b B f hB he=> ?_) ok.oh (by have:=L.2.1;omega) (by have:=L.2.1;omega) (by rw[X];exact ok.r6) (bH xs z.toNat 4).length 0 lf _ R N s3 _ [] jO (by have:=ok.r6;omega) jO (ag _) x3 (fun c _ q=>q) (fun b _ _ _=>rfl) (Own.nil _ _ _ _) (fun b f=>f.not_nil.elim) ⟨rfl,fun j hj=>absurd hj jS⟩ ?_ ?_
 ·by_cases v9:c<n
  ·exact .inr (.inr (F c jO hc))
  ·exact .inl jO
 ·obtain⟨q1,q2⟩:=x3.apart hB (by rcases he with he|he<;>(rw[he];decide)) (by rcases he with he|he<;>(rw[he];decide));exact k b f q1 q2
 ·rw[ay];have:=ok.r6;omega
 intro h4 Z s4 g4 P a1 a2 a3 a4 a5 a6 a7;have ll:(bD xs).length=xs.length:=by unfold bD;rw[eR]
 (try unfold AG);(try dsimp only)
 try simp(disch:=first|omega|assumption) only[Nat.reduceAdd,Nat.reduceLT,RZ]
 have C:P.length=(rowsOf xs z).length:=a7.1;rcases a5 with ⟨_,e0⟩|⟨gb,rfl,gg,y0,v0⟩
 ·rw[e0]at C;simp at C;omega
 have u7:∀h' n',Z<=n'->(∀b,b<Z->b≠w->¬aq s4 b->h'.get b=h4.get b)->∀{v:Value} {Q:List Int},Row R N 3 .i64 v Q->Row h' n' 3 .i64 v Q:=fun h' n' t k v Q r=>r.fz jO fun b f=>by obtain⟨B,e1,U⟩:=r.elem f;obtain⟨q1,q2⟩:=x3.apart e1 (by rw[U];decide) (by rw[U];decide);have lb:=r.lt f;rw[k b jO q1 fun q=>q2 (a3 b lb q),a4 b lb q1 q2]
 have wb:=aeZ (lf:=lf) (d:=d+4) (lo:=lo) (w:=w) (m1:=Z) (n0:=n) (z:=i) (gb:=gb) (gcap:=aL+P.length) (si0:=s4) (xv:= .slice a xs.length c) (pv:=cy) (tv:= .slice (some ⟨tb,m,none⟩) (rowsOf xs z).length o) (W:=fun c=>c=w∨aq sv c) (FR:=fun h'=>∀b,b<Z->b≠w->¬aq s4 b->h'.get b=h4.get b) (rows:=rowsOf xs z) (ps:=cK xs z) (xn:=bD xs) (cs:=P) (e:=178) (gt':=188) E (.inl rfl) jO (fun c hc=>by
  by_cases v9:c<n
  ·exact .inr (.inr (F c jO (a3 c jO hc)))
  ·exact .inl jO) jO (fun h h' k hk b f A y=>(hk b f A y).trans (k b f A y)) (fun h' n' t k=>by rw[ok.ie];exact u7 h' n' t k w1) (fun h' n' t k=>u7 h' n' t k v4) jO (fun h' k=>by rw[k i jO jO (fun q=>I (a3 i u0 q)),a4 i u0 jO I];exact g3) v0 (fun h' k=>by rw[k gb v0 jO (a6 gb ⟨_,_,_,rfl⟩)];exact gg) (fun h' k j hj=>by
  obtain⟨w4,w5,c,e1,U,e3,e4,e5⟩:=a7.2 j hj
  exact⟨w4,w5,c,e1,e3,e4.ar fun b b1 b2=>k b jO jO (e5 b b1 b2).1⟩) C ok.wh ok.pm ok.at_ ok.sy (by rw[ll];omega) (x3:=jI z) (x4:=ii 0) (x6:=jI 0) (x8:= .bool false) (x9:= .bool false) (x10:= .slice (some ⟨tb,m,none⟩) (bH xs z.toNat 4).length o) (x11:=jI ((bH xs z.toNat 4).length:Int)) (x12:=jI ((bH xs z.toNat 4).length:Int)) (x13:= .bool false) (bD xs).length 0 lf _ h4 Z s4 jO jO jO (ag _) a2 (fun c _ q=>q) (fun b _ _ _=>rfl) ?_
 ·rw[ll,show d+4+3=d+7 from rfl,show((0:Nat):Int)=0 from rfl]at wb;rw[<-C]at wb;refine wb.mono ?_;rintro v' h' n' _ ⟨rfl,q1,s5,x5,w0⟩;refine .inl ⟨L,rfl,s5, ?_,fun c hc q=>F c jO (a3 c jO (w0 c jO q))⟩;rw[dj,dj,b9,b9,C]at x5;exact x5
 ·have fl:=ph (rows:=((bH xs z.toNat 4).drop 0).map bD) fun r hr=>by rw[dj]at hr;obtain⟨q,hq,rfl⟩:=List.mem_map.1 hr;have gr:=ok.oh q hq;exact CI gr.hi (by rw[gr.len];have:=L.2.1;omega) (by rw[gr.len];have:=L.2.1;omega)
  rw[eR,dj,X]at fl;have:=ok.r6;rw[ay,ay,dj,ll];omega
end
end Go.Proofs.YtcehhgppfahbkaaGreatDoor
namespace Go.Proofs.YtcehhgppfahbkaaGreatDoor
open Go.RowKit Ev Tb
def pP(L:List (List Int))(K:List Int)(i:Nat):List Int:=L.getD (K.getD i 0).toNat []
def fS(xs:List Int)(L:List (List Int))(K:List Int)(i:Nat):Bool:=decide (0<=K.getD i 0)&&(decide (K.getD i 0<(L.length:Int))&&(dA ((pP L K i).length:Int) (eO xs i)&&dk 0 1099511627776 (pP L K i)))
def vz(xs:List Int)(L:List (List Int))(K:List Int)(i:Nat):Int:=jM (eO xs i) (pP L K i)
def nd(xs:List Int)(L:List (List Int))(K:List Int)(i:Nat):Int:=bu ((aV i).map (vz xs L K))
def pQ(xs:List Int)(L:List (List Int))(K:List Int)(i:Nat):Bool:=(aV i).all (fS xs L K)
theorem UB(xs:List Int)(L:List (List Int))(K:List Int)(i:Nat):pQ xs L K (i+1)=(pQ xs L K i&&fS xs L K i):=by unfold pQ;rw[uf,List.all_append];simp
theorem ae2{xs:List Int}{L:List (List Int)}{K:List Int}{i m:Nat}(h:i<m)(a:fS xs L K i=false):pQ xs L K m=false:=List.all_eq_false.2 ⟨i,ah1.2 h,by rw[a];exact Iz⟩
theorem H4(xs:List Int)(L:List (List Int))(K:List Int)(i:Nat):nd xs L K (i+1)=nd xs L K i+vz xs L K i:=by unfold nd;rw[uf,gZ,nR];simp[bu]
theorem UC{xs:List Int}{L:List (List Int)}{K:List Int}:∀{i:Nat},pQ xs L K i=true->0<=nd xs L K i∧nd xs L K i<=i*1099511627776
 |0,_=>by simp[nd,bu]
 |i+1,h=>by rw[UB,bE]at h;have c:=UC h.1;have a:=h.2;unfold fS at a;simp only[bE]at a;have e:=HI (l:=eO xs i) (ls:=pP L K i) fun y b=>(iu.1 a.2.2.2 y b).1;have d:=HJ (eO xs i) (pP L K i);rw[H4];unfold vz;simp only[Int.natCast_add,Int.add_mul,Int.natCast_one,Int.one_mul];omega
def tR(xs:List Int)(L:List (List Int))(K:List Int):Bool:=decide (K.length=cY xs.length)&&pQ xs L K K.length
section
variable (lf d n:Nat) (h:H) (bB:3000000<=lf)
include bB
set_option maxHeartbeats 1000000 in
theorem ae3(v u:Value)(xs:List Int)(L:List (List Int))(K:List Int)(hR:Row h n 3 .i64 v xs)(hu:tJ h n u L K)(hl:xs.length<=100000)(hL:L.length<=100000∧∀l∈L,l.length<=100000)(hK:K.length<=100000):
 aa (fun _=>False) n (ah ad gt lf (d+9) 133 #[v,u]) h n fun v' h' n'=>v'=if tR xs L K=true then .tuple #[jI (gF (nd xs L K K.length)),jI 0]else .tuple #[jI 0,jI 1]:=by
 obtain⟨r,G⟩:∃r:Value,(if tR xs L K=true then ahO #[jI (gF (nd xs L K K.length)),jI 0]else .tuple #[jI 0,jI 1])=r:=⟨_,rfl⟩;rw[G];rw[aF (fun _=>Pu) rfl];refine aa.aD ?_;unfold AX;have u6:=hR;obtain⟨a,c,rfl⟩:=hR.len;obtain⟨a2,c2,P,O,rfl,hx,X⟩:=hu.agg;refine lX trivial _ _ ?_;obtain⟨z,t⟩:∃z,h.set n (some ⟨178,true,(tZ #[.slice a2 L.length c2,.slice P K.length O]).cells.toList⟩)=z:=⟨_,rfl⟩;have J:z.get n=some ⟨178,true,[.slice a2 L.length c2,.slice P K.length O]⟩:=by rw[<-t,get_eq];rfl
 have hk:∀b,b<n->z.get b=h.get b:=fun b C=>by rw[<-t,ak _ _ jO]
 rw[t];have u5:=u6.ar (cI n) hk;have Y:=hx.ar (cI n) hk;have W:=X.ar (cI n) hk;have g:n<n+1:=dL n;have c1:∀p q:Value,[p,q][1]? =some q:=fun _ _=>rfl;try simp(disch:=first|omega|assumption) only[Nat.reduceAdd,Nat.reduceLT,RZ]
 refine uQ trivial _ _ _ J g (ag _) (c1 _ _) fun T1 t1=> ?_;try simp(disch:=first|omega|assumption) only[Nat.reduceAdd,Nat.reduceLT,RZ]
 refine E9 aE (Cs lf (d+7) _ z xs.length jO) jO fun v3 h3 n3 T3 v8 w0 u2 t3=> ?_;obtain⟨j,s,B⟩:=u2;have j:v3=jI (cY xs.length:Int):=j;have s:h3=z:=s;subst j s B;have A:=t1.gf t3;by_cases eq:K.length=cY xs.length
 rotate_left
 ·have R:(((K.length:Nat):Int) !=((cY xs.length:Nat):Int))=true:=bne_iff_ne.2 jO;try simp(disch:=first|omega|assumption) only[Nat.reduceAdd,Nat.reduceLT,RZ,R,A,iD,pf,C6]
  rw[<-G,if_neg];unfold tR;rw[decide_eq_false eq];simp
 have R:(((K.length:Nat):Int) !=((cY xs.length:Nat):Int))=false:=by rw[eq];simp
 have wD:tR xs L K=pQ xs L K K.length:=by unfold tR;rw[decide_eq_true eq,Bool.true_and]
 try simp(disch:=first|omega|assumption) only[Nat.reduceAdd,Nat.reduceLT,RZ,R,A,iD,pf,C6,J]
 refine dP K.length (fun fu i (q:Int)=>sG lf (ah ad gt lf (d+8)) fu (sH lf (ah ad gt lf (d+8))) (.slice a xs.length c) (.agg #[.slice a2 L.length c2,.slice P K.length O]) (jP n 0) (jI 0) (jI 0) (jI q) (.bool false) (.slice P K.length O) (jI (K.length:Nat)) (jI (i:Nat)))
  (fun i q h' n'=>n+1<=n'∧(∀b,b<n+1->h'.get b=h3.get b)∧q=gF (nd xs L K i)∧pQ xs L K i=true) ?_ ?_ lf 0 0 _ _ (cL _) jO ⟨ag _,fun _ _=>rfl,rfl,rfl⟩
 ·rintro fu q h' n' ⟨hn,e,rfl,I⟩;rw[sG];try simp(disch:=first|omega|assumption) only[Nat.reduceAdd,Nat.reduceLT,RZ,cb]
  (try unfold sH);(try dsimp only)
  try simp(disch:=first|omega|assumption) only[Nat.reduceAdd,Nat.reduceLT,RZ]
  rw[<-G,wD,if_pos I]
 ·rintro fu i q h' n' hi ⟨hn,e,rfl,I⟩ next;obtain⟨b,v2,cap,o,cs,hv,hg,C,_,_,_,u4⟩:=(W.ar hn e).some jO;cases hv;have e1:((i:Nat):Int)<((K.length:Nat):Int):=jO;have N:=u4 i hi;have E:=(e n g).trans J;have v6:n<n':=jO;have x:fS xs L K i=false->(ahO #[jI 0,jI 1])=r:=fun C=>by rw[<-G,wD,if_neg (by rw[ae2 hi C];exact Iz)]
  rw[sG];by_cases Q:K.getD i 0<0
  ·try simp(disch:=first|omega|assumption) only[Nat.reduceAdd,Nat.reduceLT,RZ,e1,hg,N,Q]
   (try unfold sH);(try dsimp only)
   try simp(disch:=first|omega|assumption) only[Nat.reduceAdd,Nat.reduceLT,RZ]
   exact x (by unfold fS;rw[decide_eq_false (Int.not_le.2 Q)];rfl)
  by_cases p2:((L.length:Nat):Int)<=K.getD i 0
  ·try simp(disch:=first|omega|assumption) only[Nat.reduceAdd,Nat.reduceLT,RZ,e1,hg,N,Q,E,p2]
   (try unfold sH);(try dsimp only)
   try simp(disch:=first|omega|assumption) only[Nat.reduceAdd,Nat.reduceLT,RZ]
   exact x (by unfold fS;rw[decide_eq_false (Int.not_lt.2 p2),Bool.false_and,Bool.and_false])
  obtain⟨k,m⟩:∃k:Nat,K.getD i 0=(k:Int):=⟨(K.getD i 0).toNat,jO⟩;have e3:(k:Int)<((L.length:Nat):Int):=jO;have e4:¬((L.length:Nat):Int)<=(k:Int):=jO;have e5:¬((k:Int)<0):=jO;have T:pP L K i=L.getD k []:=by unfold pP;rw[m,fg]
  have lm:L.getD k []∈L:=by rw[au,aC jO];exact cu jO
  rw[m]at N;try simp(disch:=first|omega|assumption) only[Nat.reduceAdd,Nat.reduceLT,RZ,e1,hg,N,e5,E,e4]
  refine aJ aE (TZ lf (d+5) n' h' _ xs (u5.ar hn e) jO i jO) jO (fun _ _ h=>h.elim) fun v4 h4 F v7 u9 u1=> ?_;obtain⟨w,rfl,hw⟩:=u1;have U:∀b,b<n+1->h4.get b=h3.get b:=fun b C=>(u9 b jO id).trans (e b C);have u7:=(U n g).trans J;obtain⟨b2,v0,v1,o2,w1,Z,u3,v9,D⟩:=(Y.ar (show n+1<=F by omega) U).at jO;cases Z;obtain⟨q,hq,u0⟩:=D k jO;have v5:n<F:=jO;try simp(disch:=first|omega|assumption) only[Nat.reduceAdd,Nat.reduceLT,RZ,dq,ext1,u7,e3,u3,hq]
  refine bU (TY lf (d+2) F h4 bB w q _ _ hw u0 (by rw[xO];omega) (by have:=hL.2 _ lm;omega)) jO (fun _ _ h=>h.elim) ?_;have z0:((0:Int) !=0)=false:=rfl;have z1:((1:Int) !=0)=true:=rfl;by_cases ok:dk 0 1099511627776 (L.getD k [])=true∧dA ((L.getD k []).length:Int) (eO xs i)=true
  ·rw[if_pos ok];have f:fS xs L K i=true:=by unfold fS;rw[T,ok.1,ok.2,m,decide_eq_true (show(0:Int)<=(k:Int) by omega),decide_eq_true e3];rfl
   have ca:vz xs L K i=jM (eO xs i) (L.getD k []):=by unfold vz;rw[T]
   have b1:=HI (l:=eO xs i) (ls:=L.getD k []) fun y X=>(iu.1 ok.1 y X).1;have b2:=HJ (eO xs i) (L.getD k []);have b3:=TI (nd xs L K i);have b4:=TJ (UC I).1;try simp(disch:=first|omega|assumption) only[Nat.reduceAdd,Nat.reduceLT,RZ,dq,ext1,z0]
   refine next _ h4 F ⟨jO,U, ?_,by rw[UB,I,f];rfl⟩;rw[H4,ca,<-TH b1];rfl
  ·rw[if_neg ok]
   have f:fS xs L K i=false:=by
    unfold fS;rw[T];cases q1:dk 0 1099511627776 (L.getD k [])with
    |false=>simp
    |true=>
     cases q2:dA ((L.getD k []).length:Int) (eO xs i)with
     |false=>simp
     |true=>exact absurd ⟨q1,q2⟩ ok
   try simp(disch:=first|omega|assumption) only[Nat.reduceAdd,Nat.reduceLT,RZ,dq,ext1,z1]
   (try unfold sH);(try dsimp only)
   try simp(disch:=first|omega|assumption) only[Nat.reduceAdd,Nat.reduceLT,RZ]
   exact x f
end
end Go.Proofs.YtcehhgppfahbkaaGreatDoor
namespace Go.Proofs.YtcehhgppfahbkaaGreatDoor
open Go.RowKit Ev Tb Cn
section
variable {lf d n:Nat} {tb tO tP:Nat} {T:List (List Int)} {s:Nat}
theorem ae4(u:3000000<=lf)(Y:∀r∈T,GoodR s r)(h3:3<=s)(C:s<=258)(X:T.length<=6){n0 m1:Nat}(h0:n0<=m1){x:H}(l:RR x m1 141 3 (.slice (some ⟨tb,tO,none⟩) T.length tP) T){A D x3 x4 z x6 x8:Value}{K:Value->Value->Value->M Value}{Q:Value->H->Nat->Prop}:
 ∀(m i a t:Nat) (h:H) (n:Nat),T.length-i=m->m<a->i<=T.length->m1<=n->(∀b,b<m1->h.get b=x.get b)->t+11000*m<=9000000->
 (∀h' n',m1<=n'->(∀b,b<m1->h'.get b=x.get b)->aa (fun _=>False) n0 (K A z (jI ((t+(((T.drop i).map bD).flatMap iT).length:Nat):Int))) h' n' Q)->
 aa (fun _=>False) n0 (si lf (ah ad gt lf (d+6)) a K A D x3 x4 z x6 (jI (t:Int)) x8 (.slice (some ⟨tb,tO,none⟩) T.length tP) (jI (T.length:Int)) (jI (i:Int))) h n Q:=by
 intro m
 induction m with
 |zero=>
  intro i a t h n P W R q j N w;obtain⟨a,rfl⟩:∃f,a=f+1:=⟨a-1,jO⟩;obtain rfl:i=T.length:=jO;rw[si];try simp(disch:=first|omega|assumption) only[Nat.reduceAdd,Nat.reduceLT,RZ,cb]
  have:=w h n q j;rw[qc]at this;simpa using this
 |succ m J=>
  intro i a t h n P W R q j N w;obtain⟨a,rfl⟩:∃f,a=f+1:=⟨a-1,jO⟩;have e1:((i:Nat):Int)<((T.length:Nat):Int):=jO;obtain⟨b,G,cap,o,ks,L,U,B,v⟩:=(l.ar q j).at jO;cases L;obtain⟨rv,k,c⟩:=v i jO;have g:T.getD i []∈T:=by rw[au,aC jO];exact cu _
  have e:=Y _ g;rw[<-e.eq]at c;have dl:=CI e.hi (by rw[e.len];omega) (by rw[e.len];omega);have F:((i:Nat):Int)+1=((i+1:Nat):Int):=rfl;have E:(t:Int)+((iT (bD (T.getD i []))).length:Int)=((t+(iT (bD (T.getD i []))).length:Nat):Int):=rfl;rw[si];try simp(disch:=first|omega|assumption) only[Nat.reduceAdd,Nat.reduceLT,RZ,e1,U,k]
  refine aJ aE (aeI (lf:=lf) (d:=d) c (by rw[e.len];omega) (by rw[e.len];omega) e.lo e.hi u) jO (fun _ _ h=>h.elim) fun v2 Z I O y p=> ?_;subst p;try simp(disch:=first|omega|assumption) only[Nat.reduceAdd,Nat.reduceLT,RZ,dq,ext1,E]
  rw[F];refine J (i+1) a _ Z I jO jO jO jO (fun b B=>(y b jO id).trans (j b B)) jO fun h' n' a1 a2=> ?_;have:=w h' n' a1 a2;rwa[lh [] (show i<T.length by omega),lE,VS,ay,<-gH]at this
end
theorem UD(rows:List (List Nat))(ps:List Nat):∀(a b:List Nat) (i:Nat),iU rows ps i (a++b)=iU rows ps i a++iU rows ps (i+a.length) b
 |[],b,i=>rfl
 |x::a,b,i=>by rw[List.cons_append,ya,ya,UD rows ps a b (i+1),b9,bL,show i+1+a.length=i+(a.length+1) by omega]
theorem UE{rows:List (List Nat)}{ps:List Nat}{g:Nat}{r:List Int}(e:iN (bD r)=r)(a:rows.getD (ps.getD g 0) []=bD r):∀(l:List Int) (i:Nat),(∀j,j<l.length->(i+j)/50=g)->((iU rows ps i (bD l)).length:Int)=mY l r
 |[],i,_=>rfl
 |x::l,i,h=>by
  have b:=h 0 jS;rw[iA]at b;have c:=UE e a l (i+1) fun j m=>by have:=h (j+1) (by simp;omega);rwa[show i+1+j=i+(j+1) by omega]
  have d:bD (x::l)=x.toNat::bD l:=rfl
  have f:Tb.look r x=((bD r).getD x.toNat 0:Int):=by unfold Tb.look;rw[<-ki,e]
  have k:mY (x::l) r=Tb.look r x+mY l r:=rfl;rw[d,ya,b,a,ay,k,f,<-c];unfold tN;rw[dM];rfl
theorem ae5{xs:List Int}{z:Int}{p:Nat}(h:p<(bH xs z.toNat 4).length):(rowsOf xs z).getD p []=bD ((bH xs z.toNat 4).getD p []):=by unfold rowsOf;generalize bH xs z.toNat 4=T at h;rw[au,fw,au,aC h];rfl
theorem UF{T:List (List Int)}{p:Nat}(h:p<T.length):T.getD p []∈T:=by rw[au,aC h];exact cu _
section
variable {xs:List Int} {z:Int} (m:nb xs z) (hl:xs.length<=1000)
include m hl
theorem UG{i:Nat}(b:i<cY xs.length):pP (bH xs z.toNat 4) (iN (cK xs z)) i=(bH xs z.toNat 4).getD ((cK xs z).getD i 0) []∧(cK xs z).getD i 0<(bH xs z.toNat 4).length:=by
 have ok:=vx m jO;have a:(bH xs z.toNat 4).length=(rowsOf xs z).length:=by unfold rowsOf;rw[eR]
 refine⟨by unfold pP;rw[ki];rfl, ?_⟩;rw[a];exact ok.pm _ (yc (by rw[ok.pl];exact b))
theorem ae6:tR xs (bH xs z.toNat 4) (iN (cK xs z))=true:=by
 have ok:=vx m jO;have c:(iN (cK xs z)).length=cY xs.length:=by rw[bC,ok.pl]
 unfold tR pQ;rw[bE,decide_eq_true_eq,kz];refine⟨c,fun i d=> ?_⟩;rw[ah1,c]at d;obtain⟨h,g⟩:=UG m hl d;have b:=ok.oh _ (UF g)
 have e:((bH xs z.toNat 4).getD ((cK xs z).getD i 0) []).length=z.toNat:=by have:=b.len;unfold bD at this;rwa[eR]at this
 unfold fS;rw[h,ki,e];simp only[bE,decide_eq_true_eq];have j:=m.2.1;refine⟨jO,jO, ?_, ?_⟩
 ·rw[jU jO];exact vt.2 fun x a=>vt.1 m.2.2.1 x (TN a)
 ·refine iu.2 fun x a=> ?_;rw[<-b.eq]at a;unfold iN at a;obtain⟨y,f,rfl⟩:=List.mem_map.1 a;have:=b.hi y f;omega
theorem UH:∀g,g<=cY xs.length->((iU (rowsOf xs z) (cK xs z) 0 (bD (xs.take (50*g)))).length:Int)=nd xs (bH xs z.toNat 4) (iN (cK xs z)) g
 |0,_=>rfl
 |g+1,r=>by
  have ok:=vx m jO;have o:=UH g jO;have q:50*g<xs.length:=by unfold cY at r;omega
  obtain⟨s,f⟩:=UG m hl (i:=g) jO;have d:=ok.oh _ (UF f)
  have h:xs.take (50*(g+1))=xs.take (50*g)++eO xs g:=by unfold eO;rw[show 50*(g+1)=50*g+50 by omega,List.take_add]
  have k:bD (xs.take (50*g)++eO xs g)=bD (xs.take (50*g))++bD (eO xs g):=gZ;have a:(bD (xs.take (50*g))).length=50*g:=by unfold bD;rw[eR,ed];omega
  have v:=xO xs g;have e:=UE (rows:=rowsOf xs z) (ps:=cK xs z) (g:=g) d.eq (ae5 f) (eO xs g) (50*g) fun j u=>by omega
  rw[h,k,UD,ay,a,fD,H4,<-o];unfold vz jM;rw[s,<-e]
  have b:(iU (rowsOf xs z) (cK xs z) (50*g) (bD (eO xs g))).length<=1099511627776:=by
   have c:∀x,Tb.look ((bH xs z.toNat 4).getD ((cK xs z).getD g 0) []) x<=20:=fun x=>by
    unfold Tb.look;rw[<-d.eq,ki];by_cases p:x.toNat<(bD ((bH xs z.toNat 4).getD ((cK xs z).getD g 0) [])).length
    ·have:=d.hi _ (yc p);omega
    ·rw[au,jq jO];decide
   have t:∀l:List Int,mY l ((bH xs z.toNat 4).getD ((cK xs z).getD g 0) [])<=20*(l.length:Int):=fun l=>by
    induction l with
    |nil=>exact Int.le_refl _
    |cons x l n=>have:=c x;rw[show mY (x::l) ((bH xs z.toNat 4).getD ((cK xs z).getD g 0) [])=Tb.look ((bH xs z.toNat 4).getD ((cK xs z).getD g 0) []) x+mY l ((bH xs z.toNat 4).getD ((cK xs z).getD g 0) [])from rfl,bL];omega
   have:=t (eO xs g);rw[<-e]at this;omega
  rw[HF jO];omega
end
theorem H5{rows:List (List Nat)}{ps:List Nat}(h:∀r∈rows,∀y∈r,y<=20):∀(l:List Nat) (i:Nat),(iU rows ps i l).length<=20*l.length
 |[],_=>by simp[iU]
 |x::l,i=>by
  have d:=H5 h l (i+1) (ps:=ps)
  have b:(rows.getD (ps.getD (i/50) 0) []).getD x 0<=20:=by
   by_cases c:ps.getD (i/50) 0<rows.length
   ·by_cases a:x<(rows.getD (ps.getD (i/50) 0) []).length
    ·refine h (rows.getD (ps.getD (i/50) 0) []) ?_ _ (yc a);rw[au (l:=rows),aC c];exact cu _
    ·rw[au,jq jO];exact cL _
   ·rw[show rows.getD (ps.getD (i/50) 0) []=[] by rw[au,jq jO];rfl];exact cL _
  rw[ya,ay,bL];unfold tN;rw[dM];omega
section
variable {lf d n:Nat} {h:H}
set_option maxHeartbeats 400000 in
theorem ae7(i:3000000<=lf)(g:Gd h n){v:Value}{xs:List Int}(hR:Row h n 3 .i64 v xs)(hl:xs.length<=1000)(z:Int)(hd:600<=d):
 aa (fun _=>False) n (ah ad gt lf (d+10) 98 #[v,jI z]) h n fun v' _ _=>(nb xs z∧v'= .tuple #[jI ((tQ xs z).length:Int),jI 0])∨(¬nb xs z∧v'= .tuple #[jI 0,jI 1]):=by
 rw[aF (fun _=>OB) rfl];refine aa.aD ?_;unfold AD;have E:=hR;obtain⟨a,c,rfl⟩:=hR.len;refine aJ aE (Uy (lf:=lf) (d:=d+8) i _ xs z g E jO jO) (ag _) (fun _ _ h=>h.elim) fun v1 h1 e X u3 U=> ?_;have u1:=E.ar X fun b K=>u3 b K id;rcases U with ⟨f,cx,F,rfl,C,x⟩|⟨f,rfl⟩
 rotate_left
 ·have z1:((1:Int) !=0)=true:=rfl;try simp(disch:=first|omega|assumption) only[Nat.reduceAdd,Nat.reduceLT,RZ,dq,ext1]
  refine fR nN _ ?_;refine j7 (sz:=2) trivial (vs:=[.slice none 0 0,.slice none 0 0]) rfl rfl rfl (get_eq _ _ _) jO (.inl jO) _ fun L g2 k2=> ?_;try simp(disch:=first|omega|assumption) only[Nat.reduceAdd,Nat.reduceLT,RZ,z1]
  exact .inr f
 have ok:=vx f jO;have zz:((0:Int) !=0)=false:=rfl;have o1:one cx=true:=by obtain⟨_,_,rfl⟩:=C.len;rfl
 have o2:one F=true:=by obtain⟨_,_,rfl⟩:=x.len;rfl
 try simp(disch:=first|omega|assumption) only[Nat.reduceAdd,Nat.reduceLT,RZ,dq,ext1]
 refine fR nN _ ?_;refine j7 (sz:=2) trivial (vs:=[cx,F]) rfl rfl (by simp[o1,o2]) (get_eq _ _ _) jO (.inl jO) _ fun L g2 k2=> ?_;have o:∀b,b<e->L.get b=h1.get b:=fun b K=>by rw[k2 b jO,ak _ _ jO]
 have u0:=u1.ar (cI e) o;have B:=C.ar (cI e) o;have w:Row L (e+1) 3 .i64 F (iN (cK xs z)):=x.ar (cI e) o;have m:(bH xs z.toNat 4).length=(rowsOf xs z).length:=by unfold rowsOf;rw[eR]
 have r2:=ok.r2;obtain⟨tb,j,k,u4,u5,rfl,tg,_,_⟩:=B.at jO;have P:e<e+1:=jO;try simp(disch:=first|omega|assumption) only[Nat.reduceAdd,Nat.reduceLT,RZ,zz,g2]
 rw[m];refine aJ aE (aeS (lf:=lf) (d:=d+4) w ok.r2 ok.r6 ok.p0 (by rw[ok.pl];unfold cY;omega) ok.pm i) jO (fun _ _ h=>h.elim) fun v3 h3 N u u2 R=> ?_;subst R;have I:∀b,b<e+1->h3.get b=L.get b:=fun b K=>u2 b K id;have g3:h3.get e=some ⟨178,true,[.slice (some ⟨tb,j,none⟩) (rowsOf xs z).length k,F]⟩:=by rw[I e P,g2,m]
 have O:e<N:=jO;have A:=B.ar u I;have Z:=u0.ar u I;have Q:=w.ar u I
 have p6:(mZ (rowsOf xs z).length (cK xs z)).length<=300000:=by rw[CH];have:=CG (l:=eP eM (cK xs z)) (vw _ _ vv fun p hp=>by have:=ok.pm p hp;have:=ok.r6;omega);rw[tL,ok.pl]at this;unfold cY at this;omega
 try simp(disch:=first|omega|assumption) only[Nat.reduceAdd,Nat.reduceLT,RZ,dq,ext1,g3]
 rw[<-m];rw[<-m]at g3 p6;refine ae4 (lf:=lf) (d:=d+3) (T:=bH xs z.toNat 4) (s:=z.toNat) i ok.oh (by have:=f.2.1;omega) (by have:=f.2.1;omega) (by rw[m];exact ok.r6) (n0:=n) (m1:=N) jO A (bH xs z.toNat 4).length 0 lf _ h3 N jO (by have:=ok.r6;omega) jO (ag _) (fun _ _=>rfl) (by have:=ok.r6;omega) fun h4 n4 t G=> ?_
 (try unfold FP);(try dsimp only)
 refine zY trivial trivial (sz:=2) e 0 _ ((G e O).trans g3) jO jS ?_;have ch:tJ h4 n4 (.agg #[.slice (some ⟨tb,j,none⟩) (bH xs z.toNat 4).length k,F]) (bH xs z.toNat 4) (iN (cK xs z)):=⟨_,_,rfl,A.ar t G,Q.ar t G⟩;refine aJ aE (ae3 lf d n4 h4 i _ _ xs (bH xs z.toNat 4) (iN (cK xs z)) (Z.ar t G) ch jO ⟨by have:=ok.r6;omega,fun l Y=>by have:=(ok.oh l Y).len;unfold bD at this;rw[eR]at this;have:=f.2.1;omega⟩ (by rw[bC,ok.pl];unfold cY;omega)) jO (fun _ _ h=>h.elim) fun v5 h5 n5 u6 u7 D=> ?_;rw[if_pos (ae6 f hl)]at D;subst D;have sc:=UH f hl (cY xs.length) (ag _);rw[show xs.take (50*cY xs.length)=xs from fZ (by unfold cY;omega)]at sc;have kl:(iN (cK xs z)).length=cY xs.length:=by rw[bC,ok.pl]
 have sm:=H5 (rows:=rowsOf xs z) (ps:=cK xs z) (fun r J y hy=>by
  unfold rowsOf at J;obtain⟨q,W,rfl⟩:=List.mem_map.1 J
  exact(ok.oh q W).hi y hy) (bD xs) 0
 have ll:(bD xs).length=xs.length:=by unfold bD;rw[eR]
 rw[kl,<-sc,HF jO]
 have al:(tQ xs z).length=(mZ (bH xs z.toNat 4).length (cK xs z)).length+(((bH xs z.toNat 4).map bD).flatMap iT).length+(iU (rowsOf xs z) (cK xs z) 0 (bD xs)).length:=by unfold tQ;rw[ay,ay,<-m,<-gH];rfl
 rw[al,dj];have w9:(((mZ (bH xs z.toNat 4).length (cK xs z)).length+(((bH xs z.toNat 4).map bD).flatMap iT).length:Nat):Int)+((iU (rowsOf xs z) (cK xs z) 0 (bD xs)).length:Int)=(((mZ (bH xs z.toNat 4).length (cK xs z)).length+(((bH xs z.toNat 4).map bD).flatMap iT).length+(iU (rowsOf xs z) (cK xs z) 0 (bD xs)).length:Nat):Int):=rfl
 have fl:=ph (rows:=(bH xs z.toNat 4).map bD) fun r J=>by obtain⟨q,W,rfl⟩:=List.mem_map.1 J;have gr:=ok.oh q W;exact CI gr.hi (by rw[gr.len];have:=f.2.1;omega) (by rw[gr.len];have:=f.2.1;omega)
 rw[eR,m]at fl;have r6:=ok.r6;try simp(disch:=first|omega|assumption) only[Nat.reduceAdd,Nat.reduceLT,RZ,dq,ext1,w9]
 exact .inl f
end
section
variable {lf d:Nat} {tb tO tP:Nat} {T:List (List Int)} {s:Nat}
end
section
variable {lf d n z lo:Nat} {h:H} {xv pv tv gv:Value} {rows:List (List Nat)} {ps xn:List Nat} {e:TypeId}
end
section
variable {lf d n:Nat} {h:H}
end
end Go.Proofs.YtcehhgppfahbkaaGreatDoor
namespace Go.Proofs.YtcehhgppfahbkaaGreatDoor
open Go.RowKit Ev Cn
section
variable {lf d n:Nat} {h:H}
end
end Go.Proofs.YtcehhgppfahbkaaGreatDoor
namespace Go.Proofs.YtcehhgppfahbkaaGreatDoor
open Go.RowKit Ev Tb Cn
end Go.Proofs.YtcehhgppfahbkaaGreatDoor
namespace Go.Proofs.YtcehhgppfahbkaaGreatDoor
open Go.RowKit Ev Cn Ip
theorem ae8{t b:Nat}(a:t<4294967296)(h2:b<4294967296):lr t b<4294967296:=by unfold lr;have e:(4294967296:Nat)=2^32:=rfl;rw[e]at*;refine VQ (VQ (lH _ jD) ?_) h2;exact Nat.lt_of_le_of_lt (Nat.div_le_self _ _) a
section
variable {S:List UInt8} {Z:Nat} {s s':Is}
end
section
variable {S:List UInt8} {Z room:Nat}
end
section
variable {S:List UInt8} {Z:Nat}
end
section
variable {S:List UInt8} {Z:Nat}
end
section
variable {lf d n:Nat} {h:H}
end
theorem ae9(l:List Nat)(c:∀x∈l,x<256)(a:IntKind)(i:Nat)(b:i<l.length)(k:Value->M Value):jc (iy l) (.int a (i:Int)) k=k (.int .u8 ((l.getD i 0:Nat):Int)):=by have:=EY k (l.map dZ) a (i:Int) jO (by rw[eR];omega);unfold iy;rw[this,fg];congr 3;rw[au,fw,au,aC b];have:=c l[i] (cu _);show(dZ l[i]).toNat=l[i];rw[Dh];omega
theorem pR(l:List Nat)(k:Value->M Value):eI (iy l) k=k (jI (l.length:Int)):=by have:=EV k (l.map dZ);unfold iy;rw[this,eR]
section
variable {lf d n:Nat} {h:H}
end
theorem UI:∀(ps s:List Nat),(∀p∈ps,p<s.length)->(fL s ps).2.length=s.length
 |[],s,_=>rfl
 |p::ps,s,h=>by have b:=h p jW;have e:=xH b;show(fL (dv 0 s p) ps).2.length=_;rw[UI ps _ fun q a=>by rw[e];exact h q (eU _ a),e]
section
variable {lf d n:Nat} {h:H}
end
def je(B:List Bool)(i:Nat):List Nat:=(List.range' i (16-i)).filter fun j=>B.getD j false
section
variable {lf d:Nat}
end
section
variable {lf d n:Nat} {h:H}
end
section
variable {lf d n:Nat} {h:H}
end
section
variable {lf d n:Nat} {h:H}
end
section
variable {lf d n:Nat} {h:H}
end
section
variable {lf d n:Nat} {h:H}
end
end Go.Proofs.YtcehhgppfahbkaaGreatDoor
namespace Go.Proofs.YtcehhgppfahbkaaGreatDoor
open Go.RowKit Ev Tb Cn
def dX(l:List Nat):List Nat:=(aV 256).filter fun b=>decide (b∈l)
theorem UJ(l:List Nat):Sy (dX l):=⟨aiD _ List.pairwise_lt_range,fun _ a=>ah1.1 (List.mem_filter.1 a).1⟩
theorem H6{l:List Nat}(h:By l){x:Nat}(a:x∈l):x∈dX l:=List.mem_filter.2 ⟨ah1.2 (h x a),decide_eq_true a⟩
theorem UK{l:List Nat}(h:By l)(b:l≠[]):dX l≠[]:=by
 cases l with
 |nil=>exact absurd rfl b
 |cons a l=>exact fun q=>by have:=H6 h (jW (a:=a) (l:=l));rw[q]at this;cases this
def jo(l:List Nat):List Nat:=lu (dX l).length 0 (en (dX l) l)
theorem tS:∀(f m:Nat),(ew f m).length<=m
 |0,_=>cL _
 |f+1,m=>by
  unfold ew;split
  ·exact cL _
  ·split
   ·have:=tS f ((m-1)/2);rw[bL];omega
   ·have:=tS f ((m-2)/2);rw[bL];omega
theorem CJ:∀(f m:Nat),∀x∈ew f m,x<=1
 |0,_,x,h=>by cases h
 |f+1,m,x,h=>by
  unfold ew at h;split at h
  ·cases h
  ·split at h
   ·rcases List.mem_cons.1 h with q|q
    ·omega
    ·exact CJ f _ x q
   ·rcases List.mem_cons.1 h with q|q
    ·omega
    ·exact CJ f _ x q
theorem CK(n:Nat):∀(l:List Nat) (q:Nat),(lu n q l).length<=q+l.length+1
 |[],q=>by unfold lu;have:=tS q q;rw[ay];show _+1<=q+0+1;omega
 |p::l,q=>by
  unfold lu;rw[bL];split
  ·have:=CK n l (q+1);omega
  ·have b:=tS q q;have a:=CK n l 0;rw[ay,bL];omega
theorem H7{n:Nat}(b:1<=n):∀(l:List Nat) (q:Nat),(∀p∈l,p<n)->∃t,lu n q l=t++[n+1]∧∀x∈t,x<=n
 |[],q,_=>⟨ew q q,rfl,fun x a=>by have:=CJ q q x a;omega⟩
 |p::l,q,h=>by
  have c:∀x∈l,x<n:=fun x a=>h x (eU _ a);unfold lu;split
  ·exact H7 b l (q+1) c
  ·obtain⟨t,e,d⟩:=H7 b l 0 c;have f:=h p jW;refine⟨ew q q++(p+1)::t,by rw[e,b9];rfl,fun x a=> ?_⟩;rcases List.mem_append.1 a with w|w
   ·have:=CJ q q x w;omega
   ·rcases List.mem_cons.1 w with w|w
    ·omega
    ·exact d x w
theorem UL{l:List Nat}(g:By l)(s:l≠[]):nb (iN (jo l)) (((dX l).length+2:Nat):Int):=by
 have k:1<=(dX l).length:=by
  have:=UK g s;cases e:dX l with
  |nil=>exact absurd e this
  |cons a r=>rw[bL];omega
 have f:=(UJ l).len;obtain⟨t,e,n⟩:=H7 k (en (dX l) l) 0 fun p o=>Ch l _ (fun x d=>H6 g d) p o;have e:jo l=t++[(dX l).length+1]:=e;have m:(iN (jo l)).length=t.length+1:=by rw[e];unfold iN;simp
 have j:∀i,i<t.length->(iN (jo l)).getD i 0<=((dX l).length:Int)∧0<=(iN (jo l)).getD i 0:=fun i b=>by rw[e];unfold iN;rw[au,fw,pX b,aC b];have:=n _ (cu b);show((t[i]:Nat):Int)<=_∧0<=((t[i]:Nat):Int);omega
 have h:(iN (jo l)).getD t.length 0=((dX l).length:Int)+1:=by rw[e];unfold iN;rw[au,fw,ou (ag _),oA];rfl
 refine⟨jO,jO, ?_,fun i b=> ?_⟩
 ·unfold dA;rw[kz];intro x d;obtain⟨i,b,rfl⟩:=List.getElem_of_mem d;have u:(iN (jo l)).getD i 0=(iN (jo l))[i]:=by rw[au,aC b];rfl
  rw[<-u];rcases ym i t.length with c|c
  ·have:=j i c;simp only[bE,decide_eq_true_eq];omega
  ·obtain rfl:i=t.length:=jO;rw[h];simp only[bE,decide_eq_true_eq];omega
 ·rw[m]at b⊢;rcases ym i t.length with c|c
  ·have:=j i c;constructor
   ·intro q;omega
   ·intro q;omega
  ·obtain rfl:i=t.length:=jO;rw[h];constructor
   ·intro _;rfl
   ·intro _;omega
noncomputable def pS (last:List Nat) (b a:Nat):List Bool:=bQ a 32++([false]++(bQ b 24++(Cl (dX last)++tQ (iN (jo last)) (((dX last).length+2:Nat):Int))))
end Go.Proofs.YtcehhgppfahbkaaGreatDoor
namespace Go.Proofs.YtcehhgppfahbkaaGreatDoor
open Go.RowKit Ev Cn Ip
section
variable {lf d n:Nat} {h:H}
end
section
variable {lf d n:Nat} {h:H}
end
section
variable {lf d n:Nat} {h:H}
end
section
variable {HB:List (List Nat)} {mf:List Nat} {size:Nat}
end
section
variable {size:Nat} {bs:List Bool}
end
section
variable {lf d n:Nat} {h:H}
end
section
variable {lf d n:Nat} {h:H}
end
theorem ae'{a b m:Nat}(c:a/m=b/m)(h2:a %m=b %m):a=b:=by rw[<-ah2 a m,<-ah2 b m,c,h2]
theorem ae_(p q r s:Nat):(p^^^q)^^^(r^^^s)=(p^^^r)^^^(q^^^s):=by rw[IY,IY,<-IY q r s,ah3 q r,IY]
theorem afa{a b:Nat}(f:a<4294967296)(e:b<4294967296):ji (a^^^b)=ji a^^^ji b:=by
 unfold ji
 have d:(a^^^b)*2^1 %4294967296=(a*2^1 %4294967296)^^^(b*2^1 %4294967296):=by have:(4294967296:Nat)=2^32:=rfl;rw[this,<-VY];congr 1;rw[<-VZ,<-VZ,<-VZ,Nat.shiftLeft_xor_distrib]
 have c:(a^^^b)/2^31=(a/2^31)^^^(b/2^31):=V0;rw[d,c,ae_];congr 1;have c1:a/2^31=0∨a/2^31=1:=jO;have c2:b/2^31=0∨b/2^31=1:=jO;rcases c1 with c1|c1<;>rcases c2 with c2|c2<;>rw[c1,c2]<;>rfl
theorem UM{a b:Nat}(d:a<4294967296)(c:b<4294967296):∀k,iQ k (a^^^b)=iQ k a^^^iQ k b
 |0=>rfl
 |k+1=>by show ji (iQ k (a^^^b))=ji (iQ k a)^^^ji (iQ k b);rw[UM d c k,afa (Cf k a d) (Cf k b c)]
theorem UN{x:Nat}(h:x<16777216):∀k,k<=8->iQ k x=x*2^k
 |0,_=>(Nat.mul_one x).symm
 |k+1,e=>by
  show ji (iQ k x)=_;rw[UN h k jO];have p:2^k<=2^7:=kD jD jO;have d:(2:Nat)^7=128:=rfl
  have l:x*2^k<2147483648:=by have:x*2^k<=x*128:=Nat.mul_le_mul_left _ jO;omega
  have a:(2:Nat)^31=2147483648:=rfl;have c:(2:Nat)^1=2:=rfl;have b:(2:Nat)^(k+1)=2^k*2:=Nat.pow_succ 2 k;unfold ji;rw[c,a,b,ahX l,It,ah4,IZ,<-Nat.mul_assoc];exact kB jO
theorem afb{s b:Nat}(g:s<4294967296)(f:b<256):iQ 8 (s^^^b*16777216)=tD s b:=by
 have a:(2:Nat)^24=16777216:=rfl;have h:(s/16777216)^^^b<256:=VQ (n:=8) (by have:(2:Nat)^8=256:=rfl;omega) f
 have e:s^^^b*16777216=(((s/16777216)^^^b)*16777216)^^^(s %16777216):=by
  refine ae' (m:=2^24) ?_ ?_
  ·rw[V0,V0,a,ah5 _ jD,ah5 _ jD,ahX (lH s (by decide:0<16777216)),IZ]
  ·rw[VY,VY,a,ah6,ah6,IZ,Nat.zero_xor,Nat.mod_mod]
 have d:s %16777216<16777216:=lH _ jD;rw[e,UM jO jO,UN d 8 (ag _)];unfold tD HC;rw[a,kB (by omega:((s/16777216)^^^b)*16777216<4294967296),ah3];congr 1;have c:(2:Nat)^8=256:=rfl;rw[c];omega
theorem afc{x:Nat}(h:x<4294967296)(h2:2147483648<=x):ji x=((x-2147483648)*2 %4294967296)^^^79764919:=by
 unfold ji;have e:x/2^31=1:=by have:(2:Nat)^31=2147483648:=rfl;omega
 have b:x*2^1 %4294967296=(x-2147483648)*2 %4294967296:=by rw[ah7];omega
 have a:1*79764919 %4294967296=79764919:=rfl;rw[e,b,a]
theorem afd{x:Nat}(h2:x<2147483648):ji x=x*2:=by
 unfold ji;have e:x/2^31=0:=by have:(2:Nat)^31=2147483648:=rfl;omega
 rw[e,It,ah4,IZ,ah7];omega
section
variable {lf d n:Nat} {h:H}
theorem afe{x:Nat}(p:x<4294967296)(q:100<=lf):aa (fun _=>False) n (ah ad gt lf (d+1) 106 #[.int .u32 (x:Int)]) h n fun o h' n'=>o= .int .u32 ((iQ 8 x:Nat):Int)∧h'=h∧n'=n:=by
 rw[aF (fun _=>aaq) rfl];refine aa.aD ?_;unfold FV;refine dP 8 (fun g i (_:Unit)=>qL lf (ah ad gt lf d) g (AJ lf (ah ad gt lf d)) (.int .u32 ((iQ i x:Nat):Int)) (.int .u32 0) (jI (i:Nat))) (fun i _ h' n'=>h'=h∧n'=n) ?_ ?_ lf 0 () h n (cL _) jO ⟨rfl,rfl⟩
 ·rintro g _ h' n' ⟨rfl,rfl⟩;have t:¬(((8:Nat):Int)<8):=jD;rw[qL];refine jA @t ?_
  (try unfold AJ);(try dsimp only)
  exact jE
 ·rintro g i _ h' n' v ⟨rfl,rfl⟩ next;have k:((i:Nat):Int)<8:=jO;have u:((i:Nat):Int)+1=((i+1:Nat):Int):=rfl;have j:=Cf i x p;have c:=next () h' n' ⟨rfl,rfl⟩;have r:iQ (i+1) x=ji (iQ i x):=rfl;rw[r]at c;generalize iQ i x=y at j c⊢;rw[qL];by_cases s:2147483648<=y
  ·have e:(2147483648:Int)<=((y:Nat):Int):=jO;rw[afc j s]at c
   have m:IntKind.u32.wrap (((y:Nat):Int)-2147483648)=((y-2147483648:Nat):Int):=by rw[show((y:Nat):Int)-2147483648=((y-2147483648:Nat):Int) by omega];exact kg jO
   have f:IntKind.u32.wrap (((y-2147483648:Nat):Int)*2)=(((y-2147483648)*2 %4294967296:Nat):Int):=by rw[ah8];omega
   have l:IntKind.u32.wrap ((cR IntKind.u32.bits (((y-2147483648)*2 %4294967296:Nat):Int)^^^cR IntKind.u32.bits (79764919:Int)).toNat:Int)=((((y-2147483648)*2 %4294967296)^^^79764919:Nat):Int):=Ce (a:=(y-2147483648)*2 %4294967296) (b:=79764919) jO jD;refine jA (aI @k (aI @e (aI @m (aI @f @l)))) ?_;exact c
  ·have e:¬(2147483648:Int)<=((y:Nat):Int):=jO;rw[afd jO]at c
   have f:IntKind.u32.wrap (((y:Nat):Int)*2)=((y*2:Nat):Int):=by rw[ah8];omega
   refine jA (aI @k (aI @e @f)) ?_;exact c
theorem aff{s b:Nat}(c:s<4294967296)(l:b<256)(e:100<=lf):aa (fun _=>False) n (ah ad gt lf (d+2) 67 #[.int .u32 (s:Int),.int .u8 (b:Int)]) h n fun k h' n'=>k= .int .u32 ((tD s b:Nat):Int)∧h'=h∧n'=n:=by
 rw[aF (fun _=>aaa) rfl];refine aa.aD ?_;unfold N7;have j:IntKind.u32.wrap ((b:Nat):Int)=((b:Nat):Int):=kg jO
 have i:IntKind.u32.wrap (((b:Nat):Int)*16777216)=((b*16777216:Nat):Int):=by rw[show((b:Nat):Int)*16777216=((b*16777216:Nat):Int) by omega];exact kg jO
 have g:=Ce (a:=s) (b:=b*16777216) c jO;have f:=afe (lf:=lf) (d:=d) (n:=n) (h:=h) (x:=s^^^b*16777216) (xJ c jO) e;rw[afb c l]at f;refine jA (aI @j (aI @i @g)) ?_;refine bU f (ag _) (fun _ _ h=>h.elim) ?_;exact jE
theorem afg(l:List Nat)(j:∀x∈l,x<256)(r:l.length<lf)(c:100<=lf)(m:l.length<=1000000000):aa (fun _=>False) n (ah ad gt lf (d+3) 30 #[iy l]) h n fun k h' n'=>k= .int .u32 ((pK l:Nat):Int)∧h'=h∧n'=n:=by
 rw[aF (fun _=>Z0) rfl];refine aa.aD ?_;unfold FD;refine dP l.length (fun e i (_:Unit)=>r9 lf (ah ad gt lf (d+2)) e (An lf (ah ad gt lf (d+2))) (iy l) (.int .u32 0) (.int .u32 ((od (l.take i):Nat):Int)) (jI (i:Nat))) (fun i _ h' n'=>h'=h∧n'=n) ?_ ?_ lf 0 () h n (cL _) jO ⟨rfl,rfl⟩
 ·rintro e _ h' n' ⟨rfl,rfl⟩;have g:=TC l;rw[r9,fi,pR]
  have b:IntKind.u32.wrap (4294967295-((od l:Nat):Int))=((pK l:Nat):Int):=by unfold pK;rw[show(4294967295-((od l:Nat):Int))=((4294967295-od l:Nat):Int) by omega];exact kg jO
  refine jA @cb ?_
  (try unfold An);(try dsimp only)
  exact jC @b
 ·rintro e i _ h' n' a ⟨rfl,rfl⟩ next;have q:((i:Nat):Int)<((l.length:Nat):Int):=jO;have b:((i:Nat):Int)+1=((i+1:Nat):Int):=rfl;have p:l.getD i 0=l[i]:=by rw[au,aC a];rfl
  have Hj:=fun(K:Value->M Value)=>ae9 l j .i64 i a K;rw[p]at Hj;have f:=next () h' n' ⟨rfl,rfl⟩
  have o:od (l.take (i+1))=tD (od (l.take i)) l[i]:=by unfold od;rw[jV a,ahd];rfl
  rw[o]at f;have g:=TC (l.take i);rw[r9,pR];refine jA @q ?_;rw[Hj];refine bU (aff (lf:=lf) (d:=d) g (j _ (cu a)) c) (ag _) (fun _ _ h=>h.elim) ?_;refine jB ?_;rw[b];exact f
end
section
variable {lf d n:Nat} {h:H}
end
end Go.Proofs.YtcehhgppfahbkaaGreatDoor
namespace Go.Proofs.YtcehhgppfahbkaaGreatDoor.Ev
open Go Go.RowKit
section
variable {β:Type} {W:Nat->Prop} {n0:Nat} {h:H} {n:Nat} {Q:β->H->Nat->Prop} {e:TypeId} {sz:Nat}
end
end Go.Proofs.YtcehhgppfahbkaaGreatDoor.Ev
namespace Go.Proofs.YtcehhgppfahbkaaGreatDoor
open Go.RowKit Ev Cn Ip
section
variable {lf d n:Nat} {h:H}
end
section
variable {lf d n0:Nat} {S:List UInt8} {room:Nat}
end
section
variable {S:List UInt8} {room:Nat}
end
end Go.Proofs.YtcehhgppfahbkaaGreatDoor
namespace Go.Proofs.YtcehhgppfahbkaaGreatDoor
open Go.RowKit Ev Tb Cn
section
variable {S:List UInt8} {room:Nat}
end
def oj(lv:Nat):List Bool:=bQ 66 8++(bQ 90 8++(bQ 104 8++bQ (48+lv) 8))
theorem afh(lv:Nat):(oj lv).length=32:=by unfold oj;simp only[ay,dM]
section
variable {lf d n:Nat} {h:H}
end
end Go.Proofs.YtcehhgppfahbkaaGreatDoor
namespace Go.Proofs.YtcehhgppfahbkaaGreatDoor
open Go.RowKit Ev Tb Cn Ip
section
variable {lf d n:Nat} {h:H}
end
section
variable {lf d n:Nat} {h:H}
def vA(S:List UInt8)(k:Nat):List UInt8:=S.drop k++S.take k
end
def bN(l:List UInt8):List Nat:=l.map fun b=>b.toNat
theorem CL(l:List UInt8):(bN l).length=l.length:=eR _
theorem afi(S:List UInt8)(k:Nat):bN (vA S k)=eo (bN S) k:=by unfold bN vA eo;rw[gZ,List.map_drop,List.map_take]
def iV(s:List Nat)(i k:Nat):Bool:=decide (eo s i<eo s k)||(decide (eo s i=eo s k)&&decide (i<k))
theorem rh{s:List Nat}{i k:Nat}:iV s i k=true↔eo s i<eo s k∨eo s i=eo s k∧i<k:=by unfold iV;rw[Bool.or_eq_true,bE,decide_eq_true_iff,decide_eq_true_iff,decide_eq_true_iff]
theorem afj{s:List Nat}{i k:Nat}(h:iV s i k=true):eo s i<=eo s k:=by
 rcases rh.1 h with h|h
 ·exact List.le_of_lt h
 ·rw[h.1];exact List.le_refl _
theorem afk{s:List Nat}{i k:Nat}(h:iV s i k=true)(h2:iV s k i=true):i=k:=by
 rcases rh.1 h with h|h
 ·rcases rh.1 h2 with h2|h2
  ·exact absurd h2 (List.lt_asymm h)
  ·rw[h2.1]at h;exact absurd h (ah9 _)
 ·rcases rh.1 h2 with h2|h2
  ·rw[h.1]at h2;exact absurd h2 (ah9 _)
  ·omega
theorem UO{s:List Nat}{i k:Nat}(h:i≠k):iV s i k=true∨iV s k i=true:=by
 rw[rh,rh];by_cases e:eo s i=eo s k
 ·rcases Nat.lt_or_gt_of_ne h with q|q
  ·exact .inl (.inr ⟨e,q⟩)
  ·exact .inr (.inr ⟨e.symm,q⟩)
 ·by_cases l:eo s i<eo s k
  ·exact .inl (.inl l)
  ·refine .inr (.inl ?_);refine yw fun a=>e ?_;exact List.le_antisymm (List.not_lt.1 a) (List.not_lt.1 l)
theorem UP{s:List Nat}{i k m:Nat}(h:iV s i k=true)(h2:iV s k m=true):iV s i m=true:=by
 rw[rh]at h h2⊢;rcases h with h|h
 ·rcases h2 with h2|h2
  ·exact .inl (List.lt_trans h h2)
  ·exact .inl (h2.1▸h)
 ·rcases h2 with h2|h2
  ·exact .inl (h.1▸h2)
  ·exact .inr ⟨h.1.trans h2.1,jO⟩
def vB(p:Nat->Nat->Bool)(i:Nat):List Nat->List Nat
 |[]=>[i]
 |k::l=>if p i k=true then i::k::l else k::vB p i l
def vC(p:Nat->Nat->Bool):Nat->List Nat
 |0=>[]
 |i+1=>vB p i (vC p i)
theorem H8(p:Nat->Nat->Bool)(i:Nat):∀l,(vB p i l).Perm (i::l)
 |[]=> .refl _
 |k::l=>by
  unfold vB;split
  ·exact .refl _
  ·exact((H8 p i l).cons k).trans (.swap _ _ _)
theorem tT(p:Nat->Nat->Bool):∀n,(vC p n).Perm (aV n)
 |0=> .refl _
 |n+1=>by rw[uf];exact(H8 p n _).trans (((tT p n).cons n).trans (List.perm_append_comm (l₁:=[n])))
theorem UQ{p:Nat->Nat->Bool}{i:Nat}(e:∀a b c,p a b=true->p b c=true->p a c=true)(d:∀a b,a≠b->p a b=true∨p b a=true):∀l:List Nat,i∉l->l.Pairwise (fun a b=>p a b=true)->(vB p i l).Pairwise fun a b=>p a b=true
 |[],_,_=>IQ _ _
 |k::l,f,h=>by
  have⟨g,j⟩:=List.pairwise_cons.1 h;unfold vB;split
  ·rename_i c
   exact List.pairwise_cons.2 ⟨fun x hx=>by
    rcases List.mem_cons.1 hx with rfl|hx
    ·exact c
    ·exact e _ _ _ c (g x hx),h⟩
  ·rename_i c;refine List.pairwise_cons.2 ⟨fun x hx=> ?_,UQ e d l (fun q=>f (eU _ q)) j⟩;rcases List.mem_cons.1 ((H8 p i l).mem_iff.1 hx)with rfl|hx
   ·exact(d x k fun q=>f (q▸jW)).resolve_left c
   ·exact g x hx
theorem H9{p:Nat->Nat->Bool}(e:∀a b c,p a b=true->p b c=true->p a c=true)(d:∀a b,a≠b->p a b=true∨p b a=true):∀n,(vC p n).Pairwise fun a b=>p a b=true
 |0=> .nil
 |n+1=>UQ e d _ (fun q=>by have:=ah1.1 ((tT p n).mem_iff.1 q);omega) (H9 e d n)
theorem UR(s:List Nat):xM s (vC (iV s) s.length):=⟨tT _ _,(H9 (p:=iV s) (fun _ _ _=>UP) (fun _ _=>UO) _).imp afj⟩
theorem US{s a:List Nat}(b:a.Perm (aV s.length))(h:a.Pairwise fun i k=>iV s i k=true):a=vC (iV s) s.length:=
 ahe (fun _ _ _ _ d c=>afk d c) h (H9 (p:=iV s) (fun _ _ _=>UP) (fun _ _=>UO) _) (b.trans (tT _ _).symm)
section
variable {lf d n:Nat} {h:H}
end
theorem afl{t:List Nat}(h:By t):bN (bS t)=t:=by
 unfold bN bS;rw[mq]
 conv=>rhs;rw[<-VP t]
 refine ni fun x a=> ?_;show(dZ x).toNat=x;rw[Dh,kB (h x a)]
def eD(t:List Nat):List Nat:=vC (iV t) t.length
theorem UT(t:List Nat){x:Nat}:x∈eD t↔x<t.length:=by unfold eD;rw[(tT _ _).mem_iff,ah1]
theorem UU(t:List Nat):(eD t).length=t.length:=by unfold eD;rw[(tT _ _).length_eq,kC]
theorem UW{t:List Nat}(h:t≠[]):eN 0 (eD t)<t.length∧(eD t)[eN 0 (eD t)]? =some 0:=by have c:0∈eD t:=(UT t).2 (List.length_pos_iff.2 h);obtain⟨a,b⟩:=xL c;rw[aC a];rw[au,aC a]at b;exact⟨by rw[<-UU t];exact a,congrArg some b⟩
section
variable {lf d n:Nat} {h:H}
end
end Go.Proofs.YtcehhgppfahbkaaGreatDoor
namespace Go.Proofs.YtcehhgppfahbkaaGreatDoor
open Go.RowKit Ev Sp Cn Ip
theorem UX:∀(j:Nat) (u v:List Nat),j<u.length->j<v.length->(∀i,i<j->u.getD i 0=v.getD i 0)->u.getD j 0<v.getD j 0->u<v
 |_,[],_,h,_,_,_=>absurd h (jr _)
 |_,_::_,[],_,h,_,_=>absurd h (jr _)
 |0,x::b,y::a,_,_,_,h=>List.cons_lt_cons_iff.2 (.inl h)
 |j+1,x::b,y::a,e,d,c,h=>by have f:x=y:=c 0 jO;exact List.cons_lt_cons_iff.2 (.inr ⟨f,UX j b a (ah' e) (ah' d) (fun i g=>c (i+1) jO) h⟩)
theorem vD{l:List UInt8}{a j:Nat}(d:a<l.length)(c:j<l.length):(eo (bN l) a).getD j 0=(Pl.ez (bA l) (a+j)).toNat:=by
 rw[<-afi];have e:=Pl.uS l a j d c;unfold bN;rw[au,fw];have b:j<(vA l a).length:=by show j<(Pl.mM l a).length;rw[Pl.nL];exact c
 rw[aC b];show((vA l a)[j]).toNat=_
 have f:(vA l a)[j]=(Pl.mM l a).getD j 0:=by rw[au];show _=((vA l a)[j]?).getD 0;rw[aC b];rfl
 rw[f,e];unfold Pl.ez;rw[eu]
theorem afm{l:List UInt8}{a b:Nat}(f:a<l.length)(e:b<l.length)(h:RL (bA l) (bA l).size a b):iV (bN l) a b=true:=by
 have p:(eo (bN l) a).length=l.length:=by rw[Cj,CL]
 have o:(eo (bN l) b).length=l.length:=by rw[Cj,CL]
 rw[rh];rcases h with ⟨j,d,g,m⟩|⟨d,g⟩
 ·rw[eu]at d;refine .inl (UX j _ _ jO jO (fun i c=> ?_) ?_)
  ·rw[vD f jO,vD e jO,g i c]
  ·rw[vD f d,vD e d];exact UInt8.lt_iff_toNat_lt.1 m
 ·refine .inr ⟨agd fun i=> ?_,g⟩;by_cases c:i<l.length
  ·have k:=vD f c;have n:=vD e c;rw[d i (by rw[eu];exact c),<-n]at k;rw[au,au,aC jO,aC jO]at k;rw[aC jO,aC jO];exact congrArg some k
  ·rw[jq jO,jq jO]
theorem afn{l:List UInt8}(g:l.length<=900000):fb l=eD (bN l):=by
 unfold fb eD eh;by_cases h:l.length<2
 ·have e:dQ (bA l)=0:=by unfold dQ;rw[if_pos (by rw[eu];exact h)]
  rw[e];refine US ?_ ?_
  ·show(aV (bA l).size).Perm _;rw[eu,CL]
  ·show(aV (bA l).size).Pairwise _;rw[eu];obtain h|h:l.length=0∨l.length=1:=jO
   ·rw[h];exact IP
   ·rw[h];exact IQ _ _
 ·have W:=whole (bA l) (by rw[eu];omega) (by rw[eu];omega);have c:=W.perm;refine US (by rw[CL,<-eu l];exact c) (W.sorted.imp_of_mem fun{a b} f d r=>afm ?_ ?_ r)
  ·have:=ah1.1 (c.mem_iff.1 f);rw[eu]at this;exact this
  ·have:=ah1.1 (c.mem_iff.1 d);rw[eu]at this;exact this
theorem afo{t:List Nat}{i:Nat}(a:i<t.length):vr (eo t i)=t.getD (if i=0 then t.length-1 else i-1) 0:=by
 unfold vr;rw[List.getLastD_eq_getLast?,List.getLast?_eq_getElem?,Cj];unfold eo;by_cases c:i=0
 ·subst c;rw[if_pos rfl,dj,ru,bV,au]
 ·rw[if_neg c,ou (by rw[fO];omega),fO,List.getElem?_take,if_pos jO,au,show t.length-1-(t.length-i)=i-1 by omega]
theorem afp(l:List UInt8):bS (bN l)=l:=by
 unfold bS bN;rw[mq]
 conv=>rhs;rw[<-VP l]
 refine ni fun x _=> ?_;show dZ x.toNat=x;exact UInt8.ofNat_toNat
theorem afq{t:List Nat}(b:By t){i:Nat}(a:i<t.length):vn (bS t) i=vr (eo t i):=by rw[afo a];unfold vn;rw[oc];exact Cg b (by split<;>omega)
theorem UY{l:List UInt8}{p:Nat}(b:(fb l)[p]? =some 0)(e:(fb l).Nodup):∀k,k<=(fb l).length->mU l k=if p<k then p else 0
 |0,_=>rfl
 |k+1,h=>by
  have f:=UY b e k jO;have a:(fb l)[k]? =some ((fb l).getD k 0):=by rw[au,aC (show k<(fb l).length from h)];rfl
  show(if(fb l).getD k 0=0 then k else mU l k)=_;by_cases c:(fb l).getD k 0=0
  ·rw[c]at a;have:k=p:=(List.getElem?_inj h e).1 (a.trans b.symm);rw[if_pos c,if_pos jO,this]
  ·have:k≠p:=fun q=>by rw[q,b]at a;rw[q]at c;exact c (rm a).symm
   rw[if_neg c,f];by_cases d:p<k
   ·rw[if_pos d,if_pos jO]
   ·rw[if_neg d,if_neg jO]
theorem afr{t:List Nat}(b:By t)(f:t≠[])(i:t.length<=900000):me (bS t) (bS t).length=mg t (eD t)∧mU (bS t) (bS t).length=eN 0 (eD t):=by
 have j:(bS t).length=t.length:=oc t;have a:=afn (l:=bS t) jO;rw[afl b]at a;have g:=UU t;obtain⟨h,c⟩:=UW f;constructor
 ·unfold me mg;rw[a,fZ jO];exact ni fun x e=>afq b ((UT t).1 e)
 ·have d:(eD t).Nodup:=(tT _ _).nodup_iff.2 List.nodup_range;rw[UY (p:=eN 0 (eD t)) (by rw[a];exact c) (by rw[a];exact d) _ (by rw[a];omega),if_pos jO]
theorem UZ{t:List Nat}(a:By t):By (mg t (eD t)):=adq (UR t) a
theorem CM(t:List Nat):(mg t (eD t)).length=t.length:=ado (UR t)
section
variable {lf d n:Nat} {h:H}
theorem afs{t:List Nat}(e:By t)(b:t≠[])(j:t.length<=900)(a:3000000<=lf):aa (fun _=>False) n (ah ad gt lf (d+7) 57 #[iy t]) h n fun c h' n'=>c= .tuple #[iy (mg t (eD t)),jI (eN 0 (eD t):Int),jI 0]:=by have k:(bS t).length=t.length:=oc t;have i:1<=t.length:=List.length_pos_iff.2 b;obtain⟨g,f⟩:=afr e b jO;have:=adn (lf:=lf) (d:=d) (n:=n) (h:=h) (l:=bS t) jO jO a;rw[g,f]at this;exact this
end
end Go.Proofs.YtcehhgppfahbkaaGreatDoor
namespace Go.Proofs.YtcehhgppfahbkaaGreatDoor
open Go.RowKit Ev Cn Ip
def eQ(l:List Nat):List Value:=(aV 256).map fun b=>V1 (decide (b∈l))
theorem vE(l:List Nat):(eQ l).length=256:=by unfold eQ;rw[eR,kC]
theorem CN(l:List Nat){i:Nat}(h:i<256):(eQ l)[i]? =some (.bool (decide (i∈l))):=by unfold eQ;rw[fw,ua h];rfl
theorem aft:eQ []=bI 256 (.bool false):=by
 unfold eQ
 have:(fun b:Nat=>V1 (decide (b∈([]:List Nat))))=fun _=>V1 false:=by funext b;rw[decide_eq_false jS]
 rw[this,List.map_const',kC]
theorem afu(l:List Nat){x:Nat}(a:x<256):(eQ l).set x (.bool true)=eQ (l++[x]):=by
 refine agd fun i=> ?_;rw[List.getElem?_set];by_cases c:x=i
 ·subst c;rw[if_pos rfl,if_pos (by rw[vE];exact a),CN _ a,decide_eq_true jS]
 ·rw[if_neg c];by_cases b:i<256
  ·rw[CN _ b,CN _ b]
   have:(i∈l++[x])=(i∈l):=by rw[List.mem_append,List.mem_singleton,eq_iff_iff];exact⟨fun h=>h.resolve_right fun q=>c q.symm,.inl⟩
   simp only[this]
  ·rw[jq (by rw[vE];omega),jq (by rw[vE];omega)]
section
variable {lf d n:Nat} {h:H}
theorem afv(l:List Nat)(u:300<=lf):aa (fun _=>False) n (ah ad gt lf (d+1) 125 #[.agg (eQ l).toArray]) h n fun s h' n'=>s= .string ⟨(bS (dX l)).toArray⟩:=by
 rw[aF (fun _=>Pa) rfl];refine aa.aD ?_;unfold AQ;refine lX trivial _ _ ?_;have p:(h.set n (some ⟨169,true,(tZ (eQ l).toArray).cells.toList⟩)).get n=some ⟨169,true,eQ l⟩:=(get_eq _ _ _).trans rfl;generalize h.set n (some ⟨169,true,(tZ (eQ l).toArray).cells.toList⟩)=x at p⊢;have t:=vE l;refine mK n 0 _ p (dL n) (by show 0+256<=(eQ l).length;omega) ?_;have A:tZ ((qd 0 (eQ l)).take 256).toArray= .agg (eQ l).toArray:=by rw[dj,<-t,fi]
 show aa _ _ (pC lf (ah ad gt lf d) lf (wR lf (ah ad gt lf d)) (.agg (eQ l).toArray) (jP n 0) (.string ⟨#[]⟩) nS (.agg ((qd 0 (eQ l)).take 256).toArray) (ii 0)) _ _ _;rw[A];refine dP 256 (fun j i (o:Value)=>pC lf (ah ad gt lf d) j (wR lf (ah ad gt lf d)) (.agg (eQ l).toArray) (jP n 0) (.string ⟨#[]⟩) o (.agg (eQ l).toArray) (jI (i:Nat))) (fun i o h' n'=>n<=n'∧Own h' n n' 5 o (bJ ((aV i).filter fun b=>decide (b∈l)))) ?_ ?_ lf 0 nS x (n+1) (cL _) jO ⟨cI n,Own.nil _ _ _ _⟩
 ·rintro j o h' n' ⟨q1,q2⟩;have z:¬((256:Nat):Int)<256:=jD;rw[pC];try simp(disch:=first|omega|assumption) only[Nat.reduceAdd,Nat.reduceLT,RZ,z]
  unfold wR;refine LL q2 _ ?_;try simp(disch:=first|omega|assumption) only[Nat.reduceAdd,Nat.reduceLT,RZ]
  try rfl
 ·rintro j i o h' n' v ⟨q1,q2⟩ next;have q:((i:Nat):Int)<256:=jO;have k:((i:Nat):Int)+1=((i+1:Nat):Int):=rfl;have f:=CN l v;have next:∀o' m g,n<=g->_->_:=fun o' m g a b=>next o' m g ⟨a,b⟩;rw[uf,List.filter_append]at next;have C:(bJ ((aV i).filter fun b=>decide (b∈l))).length<=256:=by rw[gy];have:=List.length_filter_le (fun b=>decide (b∈l)) (aV i);rw[kC]at this;omega
  rw[pC];by_cases c:i∈l
  ·have e:[i].filter (fun b=>decide (b∈l))=[i]:=by simp[c]
   have r:IntKind.u8.wrap ((i:Nat):Int)=((i:Nat):Int):=IntWalk.u8_in _ jO;rw[decide_eq_true c]at f;rw[e]at next;try simp(disch:=first|omega|assumption) only[Nat.reduceAdd,Nat.reduceLT,RZ,q,f,r,fg]
   refine nJ trivial (l4 _ _) q2 jO (ag n) _ fun w y B=> ?_;try simp(disch:=first|omega|assumption) only[Nat.reduceAdd,Nat.reduceLT,RZ]
   rw[k];refine next _ w _ jO ?_;rw[E5];exact Own.mk' y jO jO (by rw[ay];rfl)
  ·have e:[i].filter (fun b=>decide (b∈l))=[]:=by simp[c]
   rw[decide_eq_false c]at f;rw[e,bV]at next;try simp(disch:=first|omega|assumption) only[Nat.reduceAdd,Nat.reduceLT,RZ,q,f,fg]
   rw[k];exact next o h' n' q1 q2
theorem afw{t:List Nat}(l:∀x∈t,x<256)(I:t.length<=1000000)(A:3000000<=lf):aa (fun _=>False) n (ah ad gt lf (d+2) 95 #[.string ⟨(bS t).toArray⟩]) h n fun s h' n'=>s= .string ⟨(bS (dX t)).toArray⟩:=by
 rw[aF (fun _=>Oq) rfl];refine aa.aD ?_;unfold Aw;refine fR rfl _ ?_;try simp(disch:=first|omega|assumption) only[Nat.reduceAdd,Nat.reduceLT,RZ,oc]
 have m:(h.set n (some ⟨169,true,Ft⟩)).get n=some ⟨169,true,eQ []⟩:=by rw[get_eq,aft];exact congrArg (fun z=>some (⟨169,true,z⟩:AB)) (JS _ _)
 generalize h.set n (some ⟨169,true,Ft⟩)=B at m⊢;refine dP t.length (fun j i (_:Unit)=>sb lf (ah ad gt lf (d+1)) j (Av lf (ah ad gt lf (d+1))) (.string ⟨(bS t).toArray⟩) (.string ⟨#[]⟩) (jP n 0) (jI (t.length:Int)) (jI (i:Nat))) (fun i _ h' n'=>n'=n+1∧h'.get n=some ⟨169,true,eQ (t.take i)⟩) ?_ ?_ lf 0 () B (n+1) (cL _) jO ⟨rfl,m⟩
 ·rintro j _ h' n' ⟨rfl,q1⟩;rw[fi]at q1;have u:=vE t;have D:tZ ((qd 0 (eQ t)).take 256).toArray= .agg (eQ t).toArray:=by rw[dj,<-u,fi]
  rw[sb];try simp(disch:=first|omega|assumption) only[Nat.reduceAdd,Nat.reduceLT,RZ,cb]
  unfold Av;refine mK n 0 _ q1 (dL n) (by show 0+256<=(eQ t).length;omega) ?_;show aa _ _ (aj (ah ad gt lf (d+1)) 125 [.agg ((qd 0 (eQ t)).take 256).toArray] fun c=>ae [c]) _ _ _;rw[D];refine aJ aE (afv (lf:=lf) (d:=d) t jO) jO (fun _ _ h=>h.elim) fun F g G y C f=> ?_;subst f;try simp(disch:=first|omega|assumption) only[Nat.reduceAdd,Nat.reduceLT,RZ]
 ·rintro j i _ h' n' b ⟨rfl,q1⟩ next;have o:((i:Nat):Int)<((t.length:Nat):Int):=jO;have k:((i:Nat):Int)<(((bS t).length:Nat):Int):=by rw[oc];exact o
  have r:((i:Nat):Int)+1=((i+1:Nat):Int):=rfl
  have v:t.take (i+1)=t.take i++[t.getD i 0]:=by rw[jV b,au,aC b];rfl
  have e:t.getD i 0<256:=l _ (by rw[au,aC b];exact cu _);have p:((bS t).getD i 0).toNat=t.getD i 0:=Cg l b;have next:∀g,_->_:=fun g a=>next () g (n+1) ⟨rfl,a⟩;rw[v]at next;generalize t.getD i 0=x at e p next;have E:((x:Nat):Int)<256:=jO;have w:n<n+1:=dL n;have q:x<(eQ (t.take i)).length:=by rw[vE];exact e
  rw[sb];try simp(disch:=first|omega|assumption) only[Nat.reduceAdd,Nat.reduceLT,RZ,o,k,p,E,q1,w,q,ag,true_or,true_and,fg]
  rw[r];exact next _ ((get_eq _ _ _).trans (by rw[afu _ e]))
end
theorem U0:∀(a b c:List Nat),(∀x∈a,x∈c)->en c (a++b)=en c a++en (fL c (en c a)).2 b
 |[],b,c,_=>rfl
 |x::a,b,c,h=>by obtain⟨q,_⟩:=xL (h x jW);show eN x c::en _ (a++b)=_;rw[U0 a b _ fun y d=>HD q (h y (eU _ d))];rfl
theorem U1:∀(ps a:List Nat),(∀p∈ps,p<a.length)->∀x∈a,x∈(fL a ps).2
 |[],a,_,x,b=>b
 |p::ps,a,h,x,b=>by have c:=h p jW;show x∈(fL (dv 0 a p) ps).2;exact U1 ps _ (fun q d=>by rw[xH c];exact h q (eU _ d)) x (HD c b)
theorem U2:∀(ps a:List Nat),(∀p∈ps,p<a.length)->(∀x∈a,x<256)->∀x∈(fL a ps).2,x<256
 |[],a,_,h,x,b=>h x b
 |p::ps,a,h,f,x,b=>by have c:=h p jW;refine U2 ps (dv 0 a p) (fun q e=>by rw[xH c];exact h q (eU _ e)) (fun y d=>f y ?_) x b;exact ac8 c d
section
variable {lf d n:Nat} {h:H}
end
theorem afx(l:List Nat):Vl (iN l)=bS l:=by unfold Vl iN bS;rw[mq];refine ni fun x _=> ?_;show dZ (vQ ((x:Nat):Int))=_;rw[fg]
theorem U3{x:Nat}(a:x<256):∀{l:List Nat},(∀y∈l,y<256)->x∈l->Ij (bS l) (dZ x)=(eN x l:Int)
 |[],_,h=>by cases h
 |y::l,b,h=>by
  have g:=b y (jW ..);show(if(dZ y==dZ x)=true then(0:Int)else if(Ij (bS l) (dZ x)==-1)=true then-1 else Ij (bS l) (dZ x)+1)=_;unfold eN;by_cases c:y=x
  ·have e:(dZ y==dZ x)=true:=by rw[c];exact beq_self_eq_true _
   rw[if_pos e,if_pos c];rfl
  ·have e:¬(dZ y==dZ x)=true:=fun q=>c (by
    have q:=congrArg UInt8.toNat (eq_of_beq q);have k:(dZ y).toNat=y:=aia g;have j:(dZ x).toNat=x:=aia a;rw[k,j]at q
    exact q)
   have i:x∈l:=(List.mem_cons.1 h).resolve_left fun q=>c q.symm;have d:=U3 a (fun z f=>b z (eU y f)) i
   rw[if_neg e,if_neg c,d,if_neg (by
    intro q;have q:=eq_of_beq q
    omega)]
   rfl
theorem U4:∀l:List Nat,ql (bJ l)=some (iN l)
 |[]=>rfl
 |x::l=>by show(match ql (bJ l)with|some r=>some ((x:Int)::r)|none=>none)=_;rw[U4 l];rfl
section
variable {lf d n:Nat} {h:H}
theorem afy{b c:Nat}{o:Bool}{a:List Nat}(l:h.get b=some ⟨5,o,bJ a⟩)(m:b<n)(f:∀y∈a,y<256){x:Nat}(g:x∈a):aa (fun _=>False) n (ah ad gt lf (d+1) 158 #[.slice (some ⟨b,0,none⟩) a.length c,.int .u8 (x:Int)]) h n fun j h' n'=>j=jI (eN x a:Int)∧h'=h∧n'=n:=by
 have e:ah ad gt lf (d+1) 158 #[.slice (some ⟨b,0,none⟩) a.length c,.int .u8 (x:Int)]=vU b 0 a.length (x:Int):=jK;have k:=gy a;obtain⟨L,r,q⟩:=nI l m a.length 0 (by show 0+_<=(bJ a).length;omega);have p:((bJ a).drop 0).take a.length=bJ a:=by rw[dj,<-k,fi]
 rw[e];unfold vU;refine aa.step r (ag n) (fun x g i=>by rw[q x g]at i;cases i) ?_;show aa _ _ (Dk _ (ql (((bJ a).drop 0).take a.length))) _ _ _;rw[p,U4];show aa _ _ (M.ret (jI (Ij (Vl (iN a)) (vQ ((x:Nat):Int)).toUInt8))) _ _ _;rw[afx,fg,qE];exact⟨congrArg _ (U3 (f x g) f g),rfl,rfl⟩
theorem afz{l:Nat}{v:Value}{a:List Nat}(x:nZ h n l v a)(m:∀y∈a,y<256){c:Nat}(i:c∈a)(f:a.length<=1000):aa (fun b=>aq v b) n (ah ad gt lf (d+2) 127 #[jP l 0,.int .u8 (c:Int)]) h n fun s h' n'=>s= .tuple #[jI (eN c a:Int),jI 0]∧n'=n∧nZ h' n' l v (dv 0 a (eN c a)):=by
 have g:=x.get;have L:=x.lt;obtain⟨t,I⟩:=xL i;have o:=gy a;rw[aF (fun _=>Pc) rfl];refine aa.aD ?_;unfold F2;try simp(disch:=first|omega|assumption) only[Nat.reduceAdd,Nat.reduceLT,RZ,g]
 rcases x.own with ⟨_,e⟩|⟨b,q,E,_,D⟩
 ·have:=congrArg List.length e;rw[o]at this;simp at this;rw[this]at i;cases i
 ·rw[o]at q;have p:=afy (lf:=lf) (d:=d) (c:=aL+a.length) E D m i;rw[<-q]at p;refine aJ aE p (ag n) (fun _ _ h=>h.elim) fun G P K A C k=> ?_;obtain⟨rfl,rfl,rfl⟩:=k;have z:¬((eN c a:Nat):Int)<0:=jO;try simp(disch:=first|omega|assumption) only[Nat.reduceAdd,Nat.reduceLT,RZ,z]
  refine aJ aE (ade (lf:=lf) (d:=d) x t f) (ag _) (fun b N u=> .inr u) fun F O J w B j=> ?_;obtain⟨rfl,rfl,r⟩:=j;try simp(disch:=first|omega|assumption) only[Nat.reduceAdd,Nat.reduceLT,RZ]
  exact r
end
theorem afA(A:List Nat)(m x:Nat):(aR .i64 (iN (A++bI (m+1) 0))).set A.length (jI (x:Int))=aR .i64 (iN ((A++[x])++bI m 0)):=by
 have e:∀l:List Nat,aR .i64 (iN l)=l.map fun y:Nat=>jI (y:Int):=fun l=>by unfold aR iN;rw[mq];rfl
 rw[e,e,gZ,C8 _ _ (by rw[eR];exact ag _),eR,oA,b9,gZ];rfl
section
variable {lf d n:Nat} {h:H}
theorem afB{s:List Nat}(k:Sy s)(Z:s≠[])(t:List Nat)(u:∀x∈t,x∈s)(hl:t.length<=1000000)(Y:3000000<=lf):aa (fun _=>False) n (ah ad gt lf (d+3) 96 #[.string ⟨(bS t).toArray⟩,.string ⟨(bS s).toArray⟩]) h n fun N h' n'=>∃o,N= .tuple #[o,jI 0]∧Row h' n' 3 .i64 o (iN (en s t))∧∀b,aq o b->n<=b:=by
 have sl:=k.len;have Q:By t:=fun x f=>k.lt x (u x f);rw[aF (fun _=>Ov) rfl];refine aa.aD ?_;unfold Ay;refine aJ aE (adf (lf:=lf) (d:=d) k Z jO) (ag _) (fun _ _ h=>h.elim) fun v1 h1 n1 X u0 w=> ?_;obtain⟨rfl,rfl,T,K,c⟩:=w;try simp(disch:=first|omega|assumption) only[Nat.reduceAdd,Nat.reduceLT,RZ,dq,ext1,oc]
 refine Ev.run_make trivial (e:=3) (z:=jI 0) t.length t.length _ (ag _) jO ?_;try simp(disch:=first|omega|assumption) only[Nat.reduceAdd,Nat.reduceLT,RZ]
 have mt:∀i,∀x∈t.take i,x∈s:=fun i x f=>u x (List.mem_of_mem_take f);refine dP t.length (fun A i (_:Unit)=>se lf (ah ad gt lf (d+2)) A (Ax lf (ah ad gt lf (d+2))) (.string ⟨(bS t).toArray⟩) (.string ⟨(bS s).toArray⟩) nS (jI 0) (jP (n+1) 0) (jI 0) (.slice (some ⟨n+2,0,none⟩) t.length t.length) (.bool false) (jI (t.length:Int)) (jI (i:Nat))) (fun i _ h' n'=>n'=n+2+1∧nZ h' n' (n+1) T (fL s (en s (t.take i))).2∧h'.get (n+2)=some ⟨3,true,aR .i64 (iN (en s (t.take i)++bI (t.length-i) 0))⟩) ?_ ?_ lf 0 () _ _ (cL _) jO ⟨rfl,K.ar jO (ak _ _ jO) fun b g=>ak _ _ (by rw[c b g];omega), ?_⟩
 ·rintro A _ h' n' ⟨rfl,q1,q2⟩;rw[fi,oA,ah0,bV]at q2;have j:=vq t s;rw[se];try simp(disch:=first|omega|assumption) only[Nat.reduceAdd,Nat.reduceLT,RZ,cb]
  unfold Ax;try simp(disch:=first|omega|assumption) only[Nat.reduceAdd,Nat.reduceLT,RZ]
  refine⟨_,rfl,.inr ⟨n+2,0,t.length,true,_, ?_,q2,jO, ?_, ?_, ?_⟩,fun b g=>by rw[g.inj];omega⟩
  ·rw[bC,j]
  ·rw[cO,bC];omega
  ·rw[dj,<-cO .i64 (iN (en s t)),fi]
  ·rw[bC,j];exact ag _
 ·rintro A i _ h' n' l ⟨rfl,q1,q2⟩ next;have D:((i:Nat):Int)<((t.length:Nat):Int):=jO;have C:((i:Nat):Int)<(((bS t).length:Nat):Int):=by rw[oc];exact D
  have L:((i:Nat):Int)+1=((i+1:Nat):Int):=rfl
  have P:t.take (i+1)=t.take i++[t.getD i 0]:=by rw[jV l,au,aC l];rfl
  have f:t.getD i 0∈s:=u _ (by rw[au,aC l];exact cu _);have lt:=Ch (t.take i) s (mt i);have j:=vq (t.take i) s;have ol:=UI (en s (t.take i)) s lt;have p:=U2 (en s (t.take i)) s lt k.lt;have oa:=U1 (en s (t.take i)) s lt _ f
  have F:en s (t.take (i+1))=en s (t.take i)++[eN (t.getD i 0) (fL s (en s (t.take i))).2]:=by rw[P,U0 _ _ _ (mt i)];rfl
  have m:(fL s (en s (t.take (i+1)))).2=dv 0 (fL s (en s (t.take i))).2 (eN (t.getD i 0) (fL s (en s (t.take i))).2):=by rw[F,Ty];rfl
  have next:∀y,_->_->_:=fun y a b=>next () y (n+2+1) ⟨rfl,a,b⟩;rw[m,F]at next;rw[ed]at j;have bt:((bS t).getD i 0).toNat=t.getD i 0:=Cg Q l;generalize en s (t.take i)=E at q1 q2 next lt j ol p oa;generalize (fL s E).2=O at q1 next ol p oa;rw[se];try simp(disch:=first|omega|assumption) only[Nat.reduceAdd,Nat.reduceLT,RZ,D,C,bt,fg]
  generalize t.getD i 0=x at f next oa;refine aJ aE (afz (lf:=lf) (d:=d) q1 p oa jO) jO (fun b g r=> .inl (by rw[c b r];exact ag n)) fun v2 y G W B v=> ?_;obtain⟨rfl,rfl,J⟩:=v;have R:=(B (n+2) jO (fun r=>by have:=c _ r;omega)).trans q2;have u1:(aR .i64 (iN (E++bI (t.length-i) 0))).length=t.length:=by rw[cO,bC,ay,oD];omega
  have q:n+2<n+2+1:=dL _;have U:i<(aR .i64 (iN (E++bI (t.length-i) 0))).length:=jO;have ei:E.length=i:=jO;have G:n<=n+2:=jO;have er:t.length-i=(t.length-(i+1))+1:=jO;have I:=afA E (t.length-(i+1)) (eN x O);rw[ei,<-er]at I;try simp(disch:=first|omega|assumption) only[Nat.reduceAdd,Nat.reduceLT,RZ,dq,ext1,D,R,U,q,G,true_or,true_and]
  rw[L];refine next _ (J.ar (ag _) (ak _ _ jO) fun b g=>ak _ _ (by rw[c b g];omega)) ((get_eq _ _ _).trans ?_);rw[I]
 ·have e0:en s (t.take 0)=[]:=by rw[ru];cases s<;>rfl
  refine(get_eq _ _ _).trans ?_;rw[e0,p7,Nat.sub_zero];unfold aR iN;rw[mq,List.map_replicate];rfl
end
def ft(l:List Nat):List Nat×Nat:=l.foldl (fun s p=>if p=0 then(s.1,s.2+1)else(s.1++(ew s.2 s.2++[p+1]),0)) ([],0)
theorem U5(n:Nat):∀(l:List Nat) (s:List Nat×Nat),s.1++lu n s.2 l=(l.foldl (fun s p=>if p=0 then(s.1,s.2+1)else(s.1++(ew s.2 s.2++[p+1]),0)) s).1++(ew (l.foldl (fun s p=>if p=0 then(s.1,s.2+1)else(s.1++(ew s.2 s.2++[p+1]),0)) s).2 (l.foldl (fun s p=>if p=0 then(s.1,s.2+1)else(s.1++(ew s.2 s.2++[p+1]),0)) s).2++[n+1])
 |[],s=>rfl
 |p::l,s=>by
  rw[List.foldl_cons,<-U5 n l];show s.1++(if p=0 then lu n (s.2+1) l else ew s.2 s.2++(p+1)::lu n 0 l)=_;by_cases c:p=0
  ·rw[if_pos c,if_pos c]
  ·rw[if_neg c,if_neg c];simp
theorem U6{l:List Nat}{i:Nat}(h:i<l.length):ft (l.take (i+1))=if l.getD i 0=0 then((ft (l.take i)).1,(ft (l.take i)).2+1)else((ft (l.take i)).1++(ew (ft (l.take i)).2 (ft (l.take i)).2++[l.getD i 0+1]),0):=by unfold ft;rw[jV h,ahd,au,aC h];rfl
theorem H'(l:List Nat):∀i,i<=l.length->(ft (l.take i)).1.length+(ft (l.take i)).2<=i
 |0,_=>ag _
 |i+1,h=>by
  have:=H' l i jO;rw[U6 h];split
  ·dsimp only;omega
  ·have:=tS (ft (l.take i)).2 (ft (l.take i)).2;rw[ay,ay,tW];omega
section
variable {lf d n:Nat} {h:H}
end
end Go.Proofs.YtcehhgppfahbkaaGreatDoor
