import Derived.Test.YtdagfcflbphoiaaGreatDoorMaf
import Derived.Laws.BitsAllLaws
import Derived.IntWalk
import Derived.WalkKit
open Int renaming natCast_nonneg→aa, lt_irrefl→bH, reduceBEq→cd, reduceBNe→cj, reduceLT→cr, reduceLE→ct, reduceEq→cz, reduceNe→cA, reduceAdd→cB, reduceSub→cC, reduceMul→cD, reduceNeg→cE, toNat_natCast→mG, mul_le_mul_of_nonneg_right→aaP, le_refl→aa7, one_mul→aa8, add_mul→abc, pow_succ→amw, mul_assoc→amG, mul_comm→amH, pow_nonneg→amI, pow_add→amL, tdiv_eq_ediv_of_nonneg→amM, natCast_add→amQ
open Nat renaming reduceLT→ae, reduceAdd→ah, le_refl→av, ble→bx, le_succ→cX, zero_le→dx, lt_succ_self→fp, zero_add→iO, add_mul→lj, ble_eq_true_of_le→lR, add_zero→mH, sub_self→nE, pow_succ→oH, lt_of_lt_of_le→qJ, pow_le_pow_right→sw, mul_comm→uF, mul_one→xL, min_eq_left→xM, not_lt_zero→zQ, lt_irrefl→zS, le_trans→Cj, mul_assoc→Hw, mod_eq_of_lt→Ot, mul_zero→OD, pow_add→aba, two_pow_pos→abb, mul_lt_mul_of_pos_right→amA, pow_zero→amE, mod_two_eq_zero_or_one→amP
open Go.Proofs.Tryz renaming prog→ai
open List renaming getD_eq_getElem?_getD→aF, getElem?_eq_getElem→aM, length_append→aY, replicate→bI, range→bL, append_assoc→cI, length_take→cJ, getElem_mem→cN, append_nil→dr, length_map→dE, length_cons→dI, drop_zero→eJ, map_append→eK, take_of_length_le→hH, take_succ_eq_append_getElem→jI, length_replicate→jJ, getElem?_map→j4, take_length→j7, length_drop→kG, length_nil→kH, map_cons→mF, ext_getElem→mI, mem_of_mem_take→nC, mem_cons_of_mem→oK, getElem_map→oM, getElem?_append_left→pO, range_succ→pQ, getElem?_eq_none→qI, take_zero→qL, map_congr_left→r8, range'→r9, length_set→su, getElem?_append_right→uC, mem_cons_self→uE, getElem_range→zR, set_cons_succ→Cr, drop_eq_getElem_cons→Ho, getElem?_range→Hs, map_replicate→Hv, replicate_succ→Hx, countP_cons→Hy, map_set→Oz, pairwise_cons→OB, map_drop→OE, set_append_right→aa6, map_take→aa', getElem_set→aa_, filter_cons→amd, cons_append→amh, countP_append→amC, countP_nil→amD, nodup_cons→amF, getElem?_replicate→amK, set_append_left→amN, countP_le_length→amO
open Go.Value renaming string→ef, int→gZ, slice→jH
open BitVec renaming ofInt→gF
open Bool renaming not_true→gM, not_false→iP
open UInt8 renaming ofNat→nB
open Option.some renaming inj→xK
open Option renaming getD_some→zH, some→zP
open Go.Lit renaming int→Cv
open Go.IntKind renaming u8→amB
open Decidable renaming byContradiction→amJ
open List.Sublist renaming countP_le→anQ
open List.cons renaming injEq→anR
set_option linter.unusedVariables false
set_option linter.unusedSimpArgs false
namespace Go.Proofs.YtdagfcflbphoiaaGreatDoor.Ev
open Go Go.RowKit
theorem ed {β σ:Type} {W:Nat->Prop} {n0:Nat} {Q:β->H->Nat->Prop} (N:Nat) (lp:Nat->Nat->σ->M β) (I:Nat->σ->H->Nat->Prop)
 (last:∀fu s h n,I N s h n->aj W n0 (lp (fu+1) N s) h n Q)
 (step:∀fu i s h n,i<N->I i s h n->(∀s' h' n',I (i+1) s' h' n'->aj W n0 (lp fu (i+1) s') h' n' Q)->aj W n0 (lp (fu+1) i s) h n Q):
 ∀(fu i:Nat) (s:σ) (h:H) (n:Nat),i<=N->N-i<fu->I i s h n->aj W n0 (lp fu i s) h n Q:=by
 have key:∀(m fu i:Nat) (s:σ) (h:H) (n:Nat),N-i=m->i<=N->N-i<fu->I i s h n->aj W n0 (lp fu i s) h n Q:=by
  intro m
  induction m with
  |zero=>
   intro fu i s h n hm hi hf x
   obtain⟨fu,rfl⟩:∃f,fu=f+1:=⟨fu-1,by omega⟩
   obtain rfl:i=N:=by omega
   exact last fu s h n x
  |succ m ih=>
   intro fu i s h n hm hi hf x
   obtain⟨fu,rfl⟩:∃f,fu=f+1:=⟨fu-1,by omega⟩
   exact step fu i s h n (by omega) x fun s' h' n' y=>ih fu (i+1) s' h' n' (by omega) (by omega) (by omega) y
 exact fun fu i s h n=>key _ fu i s h n rfl
def jA(h:H)(n:Nat)(e:TypeId)(v:Value)(cs:List Value):Prop:=
 (∃a c,v= .slice a 0 c∧(∀b o,a≠some ⟨b,o,none⟩)∧cs=[])∨∃b off cap o ks,v= .slice (some ⟨b,off,none⟩) cs.length cap∧h.get b=some ⟨e,o,ks⟩∧b<n∧off+cs.length<=ks.length∧(ks.drop off).take cs.length=cs∧cs.length<=cap
section
variable {h h':H} {n n' lo hi:Nat} {e e' es ei:TypeId} {v v':Value} {cs cs':List Value} {eA:List (List Int)}
theorem jA.aB(r:jA h n e v cs)(hn:n<=n')(hk:∀b,aD v b->h'.get b=h.get b):jA h' n' e v cs:=by
 rcases r with q|⟨b,off,cap,o,ks,hv,hg,hb,r⟩
 ·exact .inl q
 ·exact .inr ⟨b,off,cap,o,ks,hv,(hk b ⟨_,_,_,hv⟩).trans hg,by omega,r⟩
theorem jA.len(r:jA h n e v cs):∃a c,v= .slice a cs.length c:=by
 rcases r with ⟨a,c,rfl,_,rfl⟩|⟨b,off,cap,o,ks,rfl,_⟩
 ·exact⟨a,c,rfl⟩
 ·exact⟨_,cap,rfl⟩
theorem jA.some(r:jA h n e v cs)(h0:0<cs.length):∃b off cap o ks,v= .slice (some ⟨b,off,none⟩) cs.length cap∧h.get b=some ⟨e,o,ks⟩∧b<n∧∀i,i<cs.length->ks[off+i]? =some (cs.getD i undef):=by
 rcases r with ⟨a,c,_,_,rfl⟩|⟨b,off,cap,o,ks,hv,hg,hb,hl,ht,hc⟩
 ·simp at h0
 ·refine⟨b,off,cap,o,ks,hv,hg,hb,fun i hi=> ?_⟩
  have:=congrArg (fun z=>z[i]?) ht
  simp only[List.getElem?_take,hi,if_true,List.getElem?_drop]at this
  rw[this,aF,aM hi]
  rfl
theorem jA.lt(r:jA h n e v cs){b:Nat}(hb:aD v b):b<n:=by
 rcases r with ⟨a,c,rfl,bE,_⟩|⟨c,off,cap,o,ks,rfl,hg,ko,_⟩
 ·obtain⟨o,l,k,q⟩:=hb
  cases q
  exact absurd rfl (bE b o)
 ·rw[hb.inj];exact ko
theorem Own.ahG(o:Own h lo n e v cs):jA h n e v cs:=by
 rcases o with ⟨rfl,rfl⟩|⟨b,rfl,hg,_,hb⟩
 ·exact .inl ⟨none,0,rfl,fun _ _ q=>(nomatch q),rfl⟩
 ·exact .inr ⟨b,0,bc+cs.length,true,_,rfl,hg,hb,by omega,by rw[eJ,j7],by omega⟩
theorem Own.elem(o:Own h lo n e v cs){b:Nat}(hb:aD v b):∃B,h.get b=zP B∧B.elem=e:=by
 rcases o with ⟨rfl,_⟩|⟨c,rfl,hc,_⟩
 ·exact hb.not_nil.elim
 ·rw[hb.inj];exact⟨_,hc,rfl⟩
theorem Row.elem{k:IntKind}{xs:List Int}(r:Row h n e k v xs){b:Nat}(hb:aD v b):∃B,h.get b=zP B∧B.elem=e:=by
 rcases r with ⟨a,c,rfl,bE,_⟩|⟨c,off,cap,o,ks,rfl,hg,_⟩
 ·obtain⟨o,l,k,q⟩:=hb
  cases q
  exact absurd rfl (bE b o)
 ·rw[hb.inj];exact⟨_,hg,rfl⟩
theorem Own.apart(o:Own h lo n e v cs){l5:Nat}(o':Own h l5 n e' v' cs')(bE:e≠e'){b:Nat}(hb:aD v b):¬aD v' b:=fun bO=>by
 obtain⟨B,h1,h2⟩:=o.elem hb
 obtain⟨B',h3,h4⟩:=o'.elem bO
 rw[h1]at h3;cases h3
 exact bE (h2.symm.trans h4)
theorem Row.apart{k:IntKind}{xs:List Int}(o:Row h n e k v xs){l5:Nat}(o':Own h l5 n e' v' cs')(bE:e≠e'){b:Nat}(hb:aD v b):¬aD v' b:=fun bO=>by
 obtain⟨B,h1,h2⟩:=o.elem hb
 obtain⟨B',h3,h4⟩:=o'.elem bO
 rw[h1]at h3;cases h3
 exact bE (h2.symm.trans h4)
def RR(h:H)(n:Nat)(es ei:TypeId)(v:Value)(eA:List (List Int)):Prop:=∃cs,jA h n es v cs∧cs.length=eA.length∧∀i,i<eA.length->Row h n ei .i64 (cs.getD i undef) (eA.getD i [])
theorem RR.len(r:RR h n es ei v eA):∃a c,v= .slice a eA.length c:=by
 obtain⟨cs,r,hl,_⟩:=r
 rw[<-hl];exact r.len
theorem RR.aB(r:RR h n es ei v eA)(hn:n<=n')(hk:∀b,b<n->h'.get b=h.get b):RR h' n' es ei v eA:=by
 obtain⟨cs,r,hl,hr⟩:=r
 exact⟨cs,r.aB hn fun b hb=>hk b (r.lt hb),hl,fun i hi=>(hr i hi).aB hn hk⟩
theorem RR.at(r:RR h n es ei v eA)(h0:0<eA.length):∃b off cap o ks,v= .slice (some ⟨b,off,none⟩) eA.length cap∧h.get b=some ⟨es,o,ks⟩∧b<n∧∀i,i<eA.length->∃x,ks[off+i]? =some x∧Row h n ei .i64 x (eA.getD i []):=by
 obtain⟨cs,r,hl,hr⟩:=r
 obtain⟨b,off,cap,o,ks,hv,hg,hb,ha⟩:=r.some (by omega)
 exact⟨b,off,cap,o,ks,by rw[hv,hl],hg,hb,fun i hi=>⟨_,ha i (by omega),hr i hi⟩⟩
def fz(h:H)(lo hi n:Nat)(es ei:TypeId)(v:Value)(eA:List (List Int)):Prop:=∃cs,Own h lo n es v cs∧cs.length=eA.length∧∀i,i<eA.length->Row h n ei .i64 (cs.getD i undef) (eA.getD i [])∧∀b,aD (cs.getD i undef) b->b<hi
theorem fz.nil(h:H)(lo hi n:Nat)(es ei:TypeId):fz h lo hi n es ei (.slice none 0 0) []:=⟨[],Own.nil _ _ _ _,rfl,fun i hi=>absurd hi (by simp)⟩
theorem fz.rr(o:fz h lo hi n es ei v eA):RR h n es ei v eA:=by
 obtain⟨cs,o,hl,hr⟩:=o
 exact⟨cs,o.ahG,hl,fun i hi=>(hr i hi).1⟩
theorem fz.lt(o:fz h lo hi n es ei v eA){b:Nat}(hb:aD v b):lo<=b∧b<n:=by
 obtain⟨cs,o,_⟩:=o
 exact o.lt hb
theorem fz.elem(o:fz h lo hi n es ei v eA){b:Nat}(hb:aD v b):∃B,h.get b=zP B∧B.elem=es:=by
 obtain⟨cs,o,_⟩:=o
 exact o.elem hb
theorem fz.aB(o:fz h lo hi n es ei v eA)(hn:n<=n')(hk:∀b,b<n->(b<hi∨aD v b)->h'.get b=h.get b):fz h' lo hi n' es ei v eA:=by
 obtain⟨cs,o,hl,hr⟩:=o
 exact⟨cs,o.aB hn fun b hb=>hk b (o.lt hb).2 (.inr hb),hl,fun i hi=>⟨(hr i hi).1.fI hn fun b hb=>hk b ((hr i hi).1.lt hb) (.inl ((hr i hi).2 b hb)),(hr i hi).2⟩⟩
theorem fz.up(o:fz h lo hi n es ei v eA){p9:Nat}(hh:hi<=p9):fz h lo p9 n es ei v eA:=by
 obtain⟨cs,o,hl,hr⟩:=o
 exact⟨cs,o,hl,fun i hi=>⟨(hr i hi).1,fun b hb=>qJ ((hr i hi).2 b hb) hh⟩⟩
theorem XV{α:Type}(d:α)(l:List α)(x:α)(i:Nat):(l++[x]).getD i d=if i<l.length then l.getD i d else if i=l.length then x else d:=by
 rw[aF,aF]
 split
 ·rename_i h;rw[pO h]
 ·rename_i h
  split
  ·rename_i h2;subst h2;simp
  ·rw[qI (by simp;omega)];rfl
theorem Bw {β:Type} {W:Nat->Prop} {n0:Nat} {Q:β->H->Nat->Prop} {T:Prop} (c:T) (bE:ei≠es) (o:fz h lo hi n es ei v eA) {x:Value} {xs:List Int} (r:Row h n ei .i64 x xs) (hh:hi<=n) (hm:eA.length+1<=1099511627776) (mc:n0<=lo) (ml:lo<=n) (k:Value->M β)
 (y:∀v' h',fz h' lo n (n+2) es ei v' (eA++[xs])->(∀b,b<n->¬aD v b->h'.get b=h.get b)->(∀b,aD v' b->n<=b)->aj W n0 (k v') h' (n+2) Q):aj W n0 (cZ es 1 x fun w=>cO es 1 v w k) h n Q:=by
 obtain⟨cs,o,hl,hr⟩:=o
 have hx:one x=true:=by obtain⟨a,c,rfl⟩:=r.len;rfl
 refine m4 c hx o (by omega) mc k fun h' hg hk=> ?_
 have XW:∀{u:Value} {us:List Int},Row h n ei .i64 u us->Row h' (n+2) ei .i64 u us:=fun q=>q.fI (by omega) fun b hb=>hk b (q.lt hb) (q.apart o bE hb)
 refine y _ h' ⟨cs++[x],.inr ⟨n+1,by simp,hg,by omega,by omega⟩,by simp[hl],fun i hi=> ?_⟩ hk fun b hb=>by rw[hb.inj];omega
 rw[XV,XV]
 by_cases c1:i<eA.length
 ·rw[if_pos (by omega),if_pos c1]
  exact⟨XW (hr i c1).1,fun b hb=>by have:=(hr i c1).2 b hb;omega⟩
 ·have:i=eA.length:=by simp at hi;omega
  subst this
  rw[if_neg (by omega),if_pos (by omega),if_neg (by omega),if_pos rfl]
  exact⟨XW r,fun b hb=>r.lt hb⟩
end
section
variable {h h':H} {n n':Nat} {e es ei:TypeId} {v:Value} {cs:List Value} {eA:List (List Int)}
theorem jA.elem(r:jA h n e v cs){b:Nat}(hb:aD v b):∃B,h.get b=zP B∧B.elem=e:=by
 rcases r with ⟨a,c,rfl,bE,_⟩|⟨c,off,cap,o,ks,rfl,hg,_⟩
 ·obtain⟨o,l,k,q⟩:=hb
  cases q
  exact absurd rfl (bE b o)
 ·rw[hb.inj];exact⟨_,hg,rfl⟩
theorem Row.nh{k:IntKind}{xs:List Int}(r:Row h n e k v xs)(hn:n<=n')(hk:∀b B,b<n->h.get b=zP B->B.elem=e->h'.get b=h.get b):Row h' n' e k v xs:=
 r.fI hn fun b hb=>by
  obtain⟨B,h1,h2⟩:=r.elem hb
  exact hk b B (r.lt hb) h1 h2
theorem jA.nh(r:jA h n e v cs)(hn:n<=n')(hk:∀b B,b<n->h.get b=zP B->B.elem=e->h'.get b=h.get b):jA h' n' e v cs:=
 r.aB hn fun b hb=>by
  obtain⟨B,h1,h2⟩:=r.elem hb
  exact hk b B (r.lt hb) h1 h2
theorem RR.nh(r:RR h n es ei v eA)(hn:n<=n')(hk:∀b B,b<n->h.get b=zP B->(B.elem=es∨B.elem=ei)->h'.get b=h.get b):RR h' n' es ei v eA:=by
 obtain⟨cs,r,hl,hr⟩:=r
 exact⟨cs,r.nh hn fun b B hb hB he=>hk b B hb hB (.inl he),hl,fun i hi=>(hr i hi).nh hn fun b B hb hB he=>hk b B hb hB (.inr he)⟩
theorem y5{p:Nat}{C:AB}(hp:h.get p=some C)(hk:∀b,b≠p->h'.get b=h.get b){b:Nat}{B:AB}(hb:h.get b=some B)(he:B.elem≠C.elem):h'.get b=h.get b:=hk b fun q=>by
 subst q
 rw[hp]at hb;cases hb
 exact he rfl
end
section
variable {P:Program} {h:H} {n f:Nat} {t e:TypeId} {v:Value}
theorem ahH(hu:P.underlying t=some (.slice e))(Mm:jy P 8 e=some [e])(x:eF P h n (f+1) t v):∃cs,jA h n e v cs∧cs.length<=maxLen∧∀c∈cs,eF P h n f e c:=by
 unfold eF at x
 rw[hu]at x
 rcases x with ⟨a,rfl,bE⟩|⟨b,len,ts,cs,rfl,ht,h0,hg,hb,hl,hm,gR⟩
 ·exact⟨[],.inl ⟨a,0,rfl,bE,rfl⟩,dx _,fun c hc=>by cases hc⟩
 ·rw[Mm]at ht
  cases ht
  have hl:cs.length=len:=by simpa using hl
  refine⟨cs,.inr ⟨b,0,bc+len,false,cs,by rw[hl],hg,hb,by omega,by rw[eJ,j7],by omega⟩,by omega,fun c hc=> ?_⟩
  obtain⟨i,hi,rfl⟩:=List.mem_iff_getElem.1 hc
  have q:=gR i (by omega)
  have e1:(cs.drop (i*[e].length)).take [e].length=[cs[i]]:=by
   simp only[dI,kH,iO,xL]
   rw[Ho hi,List.take_succ_cons,qL]
  rw[e1]at q
  exact q.1
theorem jA.row{k:IntKind}{xs:List Int}(r:jA h n e v (aJ k xs)):Row h n e k v xs:=by
 rcases r with ⟨a,c,rfl,bE,hx⟩|⟨b,off,cap,o,ks,hv,hg,hb,hl,ht,hc⟩
 ·exact .inl ⟨a,c,rfl,bE,by unfold aJ at hx;simpa using hx⟩
 ·rw[cT]at hv hl ht hc
  exact .inr ⟨b,off,cap,o,ks,hv,hg,hb,hl,ht,hc⟩
theorem XX{α β:Type}{R:α->β->Prop}(da:α)(d:β):∀{l:List α},(∀a∈l,∃b,R a b)->∃m:List β,m.length=l.length∧∀i,i<l.length->R (l.getD i da) (m.getD i d)
 |[],_=>⟨[],rfl,fun i hi=>absurd hi (zQ i)⟩
 |a::l,hl=>by
  obtain⟨b,hb⟩:=hl a uE
  obtain⟨m,h1,h2⟩:=XX da d (l:=l) fun x hx=>hl x (oK _ hx)
  refine⟨b::m,by simp[h1],fun i hi=> ?_⟩
  cases i with
  |zero=>exact hb
  |succ i=>exact h2 i (by simpa using hi)
theorem ahI{k:IntKind}(hu:P.underlying t=some (.slice e))(Mm:jy P 8 e=some [e])(he:P.underlying e=some (.int k))(x:eF P h n (f+2) t v):∃xs,Row h n e k v xs∧xs.length<=maxLen∧∀y∈xs,(Cv k y).wf=true:=by
 obtain⟨cs,r,hm,hc⟩:=ahH hu Mm x
 obtain⟨xs,hl,hx⟩:=XX (R:=fun c (y:Int)=>c= .int k y∧(Cv k y).wf=true) undef 0 fun c q=>F7 he (hc c q)
 have e1:cs=aJ k xs:=by
  apply mI
  ·rw[cT,hl]
  ·intro i h1 h2
   have:=(hx i h1).1
   rw[aF,aM h1]at this
   have h3:=JR (k:=k) (xs:=xs) (i:=i) (by omega)
   rw[aM h2]at h3
   rw[xK h3]
   exact this
 rw[e1]at r
 refine⟨xs,r.row,by omega,fun y hy=> ?_⟩
 obtain⟨i,hi,rfl⟩:=List.mem_iff_getElem.1 hy
 have:=(hx i (by omega)).2
 rw[aF,aM hi]at this
 exact this
end
section
variable {β:Type} {W:Nat->Prop} {n0:Nat} {h:H} {n m:Nat} {Q:β->H->Nat->Prop} {P:Program}
theorem Mn{T:Prop}(_:T)(b off:Nat)(v:Value)(k:Value->M β){e:TypeId}{cs:List Value}(hg:h.get b=some ⟨e,true,cs⟩)(hb:b<n)(ho:off<cs.length)(h1:one v=true)(hw:n0<=b∨W b)(x:aj W n0 (k undef) (h.set b (some ⟨e,true,cs.set off v⟩)) n Q):aj W n0 (bG (.pointer (some ⟨b,off,none⟩)) v k) h n Q:=
 (yB b off v k hb h1).2 (by rw[hg];exact⟨rfl,ho,hw,x⟩)
theorem ahJ{e:TypeId}{z:Value}(l:Nat)(k:Value×Tk->M β){kd oh:IntKind}(hm:l<=1099511627776)(x:aj W n0 (k (.slice (some ⟨n,0,none⟩) l l,⟨n,n+1,[]⟩)) (h.set n (some ⟨e,true,bI l z⟩)) (n+1) Q):aj W n0 ((aV (jx e [z] (.int kd l) (.int oh l) M.ret)).bind k) h n Q:=by
 have e1:jx e [z] (.int kd l) (.int oh l) M.ret=eO ((kv e (ju [z] l)).bind fun id=>M.ret (jH (some ⟨id,0,none⟩) l l)) M.ret:=by
  show(match bx l l with
   |true=>match bx l 1099511627776 with
    |true=>eO ((kv e (ju [z] l)).bind fun id=>M.ret (jH (some ⟨id,0,none⟩) l l)) M.ret
    |false=> .fail
   |false=> .fail)=_
  rw[lR (av l),lR hm]
 rw[e1,JP]
 exact D5 (D6 (tn _ _ (fun id=>jH (some ⟨id,0,none⟩) l l) _ _)) (cX n) (by simp) x
theorem ahK (hd:mZ P=true) {gt:Nat->Hint} {lf d:Nat} {f:FuncId} {vs:List Value} {Q':Value->H->Nat->Prop} (s:aj (fun _=>False) n (au P gt lf d f ⟨vs⟩) h n Q') (hn:n0<=n) {k:Value×Tk->M β}
 (x:∀v h1 n1 T,n<=n1->(∀b,b<n->h1.get b=h.get b)->Q' v h1 n1->aj W n0 (k (v,T)) h1 n1 Q):aj W n0 ((aV (az (au P gt lf d) f vs M.ret)).bind k) h n Q:=
 Ml hd s hn fun v h1 n1 T a b c _=>x v h1 n1 T a b c
end
end Go.Proofs.YtdagfcflbphoiaaGreatDoor.Ev
namespace Go.Proofs.YtdagfcflbphoiaaGreatDoor
open Go
def bn(b:Bool):Nat:=if b then 1 else 0
theorem xe(b:Bool):bn b<2:=by cases b<;>decide
def num:List Bool->Nat->Nat
 |[],a=>a
 |b::l,a=>num l (2*a+bn b)
theorem Bx:∀(l m:List Bool) (a:Nat),num (l++m) a=num m (num l a)
 |[],_,_=>rfl
 |b::l,m,a=>Bx l m _
theorem XZ:∀(l:List Bool) (a k:Nat),a<2^k->num l a<2^(k+l.length)
 |[],a,k,h=>h
 |b::l,a,k,h=>by
  have:=xe b
  have:=XZ l (2*a+bn b) (k+1) (by rw[oH];omega)
  rw[dI,show k+(l.length+1)=k+1+l.length by omega]
  exact this
theorem y6(l:List Bool):num l 0<2^l.length:=by
 have:=XZ l 0 0 (by decide)
 rwa[iO]at this
def bY:Nat->Nat->List Bool
 |_,0=>[]
 |v,n+1=>bY (v/2) n++[decide (v %2=1)]
theorem dL:∀(n v:Nat),(bY v n).length=n
 |0,_=>rfl
 |n+1,v=>by simp[bY,dL n]
theorem X0(v:Nat):bn (decide (v %2=1))=v %2:=by
 unfold bn
 by_cases h:v %2=1<;>simp[h]<;>omega
theorem Mo:∀(n v:Nat),num (bY v n) 0=v %2^n
 |0,v=>by simp[bY,num,Nat.mod_one]
 |n+1,v=>by
  show num (bY (v/2) n++[decide (v %2=1)]) 0=_
  rw[Bx,Mo n]
  show 2*(v/2 %2^n)+bn _=_
  rw[X0,oH,uF (2^n) 2,Nat.mod_mul]
  omega
def kZ(s:List Nat×List Bool)(b:Bool):List Nat×List Bool:=if s.2.length=7 then(s.1++[num (s.2++[b]) 0],[])else(s.1,s.2++[b])
def gU(s:List Nat×List Bool)(l:List Bool):List Nat×List Bool:=l.foldl kZ s
theorem Bz(s:List Nat×List Bool)(l m:List Bool):gU s (l++m)=gU (gU s l) m:=by unfold gU;rw[List.foldl_append]
theorem ahL(s:List Nat×List Bool)(b:Bool):(kZ s b).1.length<=s.1.length+1:=by
 unfold kZ
 split<;>simp
theorem Mq:∀(l:List Bool) (s:List Nat×List Bool),(gU s l).1.length<=s.1.length+l.length
 |[],s=>av _
 |b::l,s=>by
  have h1:=ahL s b
  have h2:=Mq l (kZ s b)
  show(gU (kZ s b) l).1.length<=_
  rw[dI]
  omega
theorem X3:∀(l:List Bool) (ws:List Nat) (r:List Bool),r.length+l.length<8->gU (ws,r) l=(ws,r++l)
 |[],ws,r,_=>by simp[gU]
 |b::l,ws,r,h=>by
  simp only[dI]at h
  show gU (kZ (ws,r) b) l=_
  have:kZ (ws,r) b=(ws,r++[b]):=by unfold kZ;rw[if_neg (by simp;omega)]
  rw[this,X3 l ws (r++[b]) (by simp;omega)]
  simp
theorem ahM(ws:List Nat)(l:List Bool)(h:l.length=8):gU (ws,[]) l=(ws++[num l 0],[]):=by
 have bE:l≠[]:=by intro e;rw[e]at h;simp at h
 obtain⟨a,b,rfl⟩:∃a b,l=a++[b]:=⟨l.dropLast,l.getLast bE,(List.dropLast_concat_getLast bE).symm⟩
 have h7:a.length=7:=by simpa using h
 rw[Bz,X3 a ws [] (by rw[h7];decide)]
 show kZ (ws,[]++a) b=_
 unfold kZ
 rw[if_pos (by simpa using h7)]
 rfl
def pz(r:List Bool):Nat:=num r 0*2^(8-r.length)
theorem ahN{r:List Bool}(h:r.length<=8):pz r<256:=by
 have h1:=y6 r
 have h2:2^r.length*2^(8-r.length)=256:=by rw[<-aba,show r.length+(8-r.length)=8 by omega]
 unfold pz
 calc num r 0*2^(8-r.length)<2^r.length*2^(8-r.length):=amA h1 (abb _)
  _=256:=h2
theorem ahO{r:List Bool}(h:r.length<8)(b:Bool):pz r|||(bn b*2^(7-r.length))=pz (r++[b]):=by
 have hb:bn b*2^(7-r.length)<2^(8-r.length):=by
  rw[show 8-r.length=7-r.length+1 by omega,oH,uF _ 2]
  have:=abb (7-r.length)
  exact amA (xe b) this
 unfold pz
 rw[uF (num r 0),<-Nat.two_pow_add_eq_or_of_lt hb,Bx]
 show _=(2*num r 0+bn b)*2^(8-(r++[b]).length)
 rw[aY,List.length_singleton,show 8-r.length=7-r.length+1 by omega,show 8-(r.length+1)=7-r.length by omega,oH,lj]
 congr 1
 rw[uF (2^(7-r.length)) 2,Hw,Hw,uF (2^(7-r.length))]
theorem or8{a b:Nat}(ha:a<256)(hb:b<256):IntKind.u8.wrap ((gF IntKind.u8.bits (a:Int)|||gF IntKind.u8.bits (b:Int)).toNat:Int)=((a|||b:Nat):Int):=u8_or_nat a b ha hb
theorem w8{x:Nat}(h:x<256):IntKind.u8.wrap (x:Int)=(x:Int):=IntWalk.u8_in _ (by omega)
theorem mw{x:Nat}(h:x<4294967296):IntKind.u32.wrap (x:Int)=(x:Int):=IntWalk.u32_in _ (by omega)
theorem ahP{b k:Nat}(hb:b<2)(hk:k<=7):IntKind.u8.wrap ((b:Int)*2^(min ((k:Int)).toNat (amB).bits))=((b*2^k:Nat):Int):=by
 have e:min ((k:Int)).toNat (amB).bits=k:=by rw[mG];exact xM (Cj hk (by decide))
 rw[e]
 have hp:2^k<=2^7:=sw (by decide) hk
 have:b*2^k<256:=by
  have:b*2^k<=1*2^7:=Nat.mul_le_mul (by omega) hp
  omega
 have e2:(b:Int)*2^k=((b*2^k:Nat):Int):=by push_cast;rfl
 rw[e2]
 exact w8 this
theorem fdiv_pow(v k:Nat)(kd:Nat)(h:k<=kd):((v:Int)).fdiv (2^(min ((k:Int)).toNat kd))=((v/2^k:Nat):Int):=by
 have e:min ((k:Int)).toNat kd=k:=by rw[mG];exact xM h
 rw[e]
 have e2:((2:Int)^k)=((2^k:Nat):Int):=by push_cast;rfl
 rw[e2,Int.fdiv_eq_ediv_of_nonneg _ (aa _)]
 rfl
theorem ahQ{a:Nat}(ha:a<4294967296):IntKind.u32.wrap ((gF IntKind.u32.bits (a:Int)&&&gF IntKind.u32.bits (1:Int)).toNat:Int)=((a %2:Nat):Int):=by
 have h1:(gF 32 (a:Int)).toNat=a:=by rw[BitVec.ofInt_natCast,BitVec.toNat_ofNat];exact Ot (by omega)
 show IntKind.u32.wrap ((gF 32 (a:Int)&&&gF 32 (1:Int)).toNat:Int)=_
 rw[BitVec.toNat_and,h1]
 have h2:(gF 32 (1:Int)).toNat=1:=by decide
 rw[h2,Nat.and_one_is_mod]
 exact mw (by omega)
end Go.Proofs.YtdagfcflbphoiaaGreatDoor
namespace Go.Proofs.YtdagfcflbphoiaaGreatDoor.Cn
open Go
theorem y8:∀(l:List Bool) (a:Nat),num l a=a*2^l.length+num l 0
 |[],a=>by simp[num]
 |b::l,a=>by
  show num l (2*a+bn b)=_
  have h0:num (b::l) 0=num l (bn b):=by show num l (2*0+bn b)=_;rw[OD,iO]
  rw[y8 l (2*a+bn b),h0,y8 l (bn b),dI,oH,lj,uF 2 a,Hw,uF 2]
  omega
theorem ahR(l:List Bool)(b:Bool):num (l++[b]) 0=2*num l 0+bn b:=by rw[Bx];rfl
theorem X4(k:Nat):num (bI k false) 0=0:=by
 induction k with
 |zero=>rfl
 |succ k ih=>rw[Hx];exact ih
theorem ahS(l:List Bool)(k:Nat):num (l++bI k false) 0=num l 0*2^k:=by
 rw[Bx,y8,X4,jJ,mH]
theorem ahT{a b:Bool}(h:bn a=bn b):a=b:=by cases a<;>cases b<;>simp[bn]at h<;>rfl
theorem X5:∀{l m:List Bool},l.length=m.length->num l 0=num m 0->l=m
 |[],[],_,_=>rfl
 |[],_::_,h,_=>by simp at h
 |_::_,[],h,_=>by simp at h
 |a::l,b::m,h,e=>by
  have hl:l.length=m.length:=by simpa using h
  have e:num l (bn a)=num m (bn b):=by
   have h1:num (a::l) 0=num l (bn a):=by show num l (2*0+bn a)=_;rw[OD,iO]
   have h2:num (b::m) 0=num m (bn b):=by show num m (2*0+bn b)=_;rw[OD,iO]
   rw[<-h1,<-h2];exact e
  rw[y8 l,y8 m,hl]at e
  have l1:=y6 l
  have l2:=y6 m
  rw[hl]at l1
  have ab:bn a=bn b:=by
   have ha:=xe a
   have hb:=xe b
   rcases Nat.lt_trichotomy (bn a) (bn b)with q|q|q
   ·have h1:bn a=0:=by omega
    have h2:bn b=1:=by omega
    rw[h1,h2]at e;omega
   ·exact q
   ·have h1:bn b=0:=by omega
    have h2:bn a=1:=by omega
    rw[h1,h2]at e;omega
  rw[ab]at e
  rw[ahT ab,X5 hl (by omega)]
theorem Mr{l:List Bool}{v:Nat}(h:num l 0=v):l=bY v l.length:=by
 refine X5 (dL _ _).symm ?_
 rw[Mo,<-h,Ot (y6 l)]
theorem X6{n v:Nat}(h:v<2^n):num (bY v n) 0=v:=by rw[Mo,Ot h]
def cn(ln:List Nat)(n:Nat):Nat:=ln.countP fun x=>x==n
def jX(ln:List Nat)(n i:Nat):Nat:=cn (ln.take i) n
theorem Ms{ln:List Nat}{i:Nat}(h:i<ln.length)(n:Nat):jX ln n (i+1)=jX ln n i+(if ln.getD i 0=n then 1 else 0):=by
 unfold jX cn
 rw[jI h,amC,aF,aM h]
 simp only[Hy,amD,zH,beq_iff_eq,iO]
theorem BA(ln:List Nat)(n:Nat):jX ln n ln.length=cn ln n:=by unfold jX;rw[j7]
theorem X7(ln:List Nat)(n i:Nat):jX ln n i<=cn ln n:=by
 unfold jX cn
 exact anQ (List.take_sublist _ _)
theorem ahU{ln:List Nat}{i:Nat}(h:i<ln.length):jX ln (ln.getD i 0) i<cn ln (ln.getD i 0):=by
 have h1:=Ms h (ln.getD i 0)
 rw[if_pos rfl]at h1
 have:=X7 ln (ln.getD i 0) (i+1)
 omega
def dQ(ln:List Nat):Nat->Nat
 |0=>0
 |n+1=>2*(dQ ln n+cn ln n)
def cP(ln:List Nat):Nat->Nat
 |0=>0
 |n+1=>cP ln n+cn ln n
def ff(ln:List Nat)(i:Nat):Nat:=dQ ln (ln.getD i 0)+jX ln (ln.getD i 0) i
def jB(ln:List Nat):Nat->Nat
 |0=>0
 |n+1=>jB ln n+cn ln n*2^(20-n)
theorem X8(ln:List Nat):∀{n:Nat},n<=20->dQ ln n*2^(20-n)=jB ln n
 |0,_=>by simp[dQ,jB]
 |n+1,h=>by
  have ih:=X8 ln (n:=n) (by omega)
  have e:20-n=20-(n+1)+1:=by omega
  unfold dQ jB
  rw[<-ih,e,oH]
  simp only[uF 2,lj,Hw]
theorem X9(ln:List Nat):∀{n m:Nat},n<=m->jB ln n<=jB ln m
 |n,0,h=>by have:n=0:=by omega
            subst this;exact av _
 |n,m+1,h=>by
  by_cases e:n=m+1
  ·subst e;exact av _
  ·have:=X9 ln (n:=n) (m:=m) (by omega)
   show jB ln n<=jB ln m+cn ln m*2^(20-m)
   omega
structure Wh (ln:List Nat):Prop where
 lo:∀x∈ln,1<=x∧x<=20
 kr:jB ln 21=1048576
section
variable {ln:List Nat} (w:Wh ln)
include w
theorem Wh.at{i:Nat}(h:i<ln.length):1<=ln.getD i 0∧ln.getD i 0<=20:=by
 rw[aF,aM h]
 exact w.lo _ (cN h)
theorem Wh.cap{n:Nat}(h:n<=20):dQ ln n+cn ln n<=2^n:=by
 have h1:=X8 ln h
 have h2:=X9 ln (show n+1<=21 by omega)
 rw[w.kr]at h2
 have h3:jB ln (n+1)=jB ln n+cn ln n*2^(20-n):=rfl
 rw[h3,<-h1,<-lj]at h2
 have h4:2^n*2^(20-n)=1048576:=by rw[<-aba,show n+(20-n)=20 by omega]
 rw[<-h4]at h2
 exact Nat.le_of_mul_le_mul_right h2 (abb _)
theorem Wh.Mu{i:Nat}(h:i<ln.length):ff ln i<2^ln.getD i 0:=by
 have h1:=w.cap (w.at h).2
 have h2:=ahU h
 unfold ff
 omega
end
def Mt(ln:List Nat)(bs:List Bool)(i:Nat):Prop:=i<ln.length∧ln.getD i 0<=bs.length∧num (bs.take (ln.getD i 0)) 0=ff ln i
def gB(ln:List Nat)(n i:Nat):List Nat:=(bL i).filter fun s=>ln.getD s 0==n
theorem F'(ln:List Nat)(n i:Nat):gB ln n (i+1)=gB ln n i++(if ln.getD i 0=n then [i]else []):=by
 unfold gB
 rw[pQ,List.filter_append]
 congr 1
 by_cases h:ln.getD i 0=n
 ·rw[if_pos h,amd,if_pos (by rw[h];simp)];rfl
 ·rw[if_neg h,amd,if_neg (by simpa using h)];rfl
theorem BB{ln:List Nat}(n:Nat):∀{i:Nat},i<=ln.length->(gB ln n i).length=jX ln n i
 |0,_=>by simp[gB,jX,cn]
 |i+1,h=>by
  rw[F',aY,BB n (i:=i) (by omega),Ms (by omega)]
  split<;>rfl
theorem X'{ln:List Nat}{n:Nat}:∀{i r s:Nat},i<=ln.length->(gB ln n i)[r]? =some s->s<i∧ln.getD s 0=n∧jX ln n s=r
 |0,r,s,_,h=>by simp[gB]at h
 |i+1,r,s,hi,h=>by
  rw[F']at h
  by_cases q:r<(gB ln n i).length
  ·rw[pO q]at h
   obtain⟨a,b,c⟩:=X' (i:=i) (by omega) h
   exact⟨by omega,b,c⟩
  ·rw[uC (by omega)]at h
   have hl:=BB (ln:=ln) n (i:=i) (by omega)
   split at h
   ·rename_i e
    have hr:r-(gB ln n i).length=0:=by
     cases q2:r-(gB ln n i).length with
     |zero=>rfl
     |succ k=>rw[q2]at h;simp at h
    rw[hr]at h
    simp at h
    subst h
    exact⟨by omega,e,by omega⟩
   ·simp at h
def jY(ln:List Nat):Nat->List Nat
 |0=>[]
 |n+1=>jY ln n++gB ln n ln.length
theorem rR(ln:List Nat):∀n,(jY ln n).length=cP ln n
 |0=>rfl
 |n+1=>by
  unfold jY cP
  rw[aY,rR ln n,BB n (av _),BA]
theorem Ya{ln:List Nat}{n r:Nat}(hr:r<cn ln n):∀{m:Nat},n<m->∃s,(jY ln m)[cP ln n+r]? =some s∧s<ln.length∧ln.getD s 0=n∧jX ln n s=r
 |0,h=>absurd h (zQ n)
 |m+1,h=>by
  unfold jY
  by_cases e:n=m
  ·subst e
   have hl:=BB (ln:=ln) n (av _)
   rw[BA]at hl
   have:((jY ln n++gB ln n ln.length)[cP ln n+r]?)=some ((gB ln n ln.length)[r]'(by omega)):=by
    rw[uC (by rw[rR];omega),rR,show cP ln n+r-cP ln n=r by omega,aM]
   obtain⟨a,b,c⟩:=X' (ln:=ln) (n:=n) (i:=ln.length) (r:=r) (s:=(gB ln n ln.length)[r]'(by omega)) (av _) (aM _)
   exact⟨_,this,a,b,c⟩
  ·obtain⟨s,h1,h2⟩:=Ya hr (m:=m) (by omega)
   refine⟨s, ?_,h2⟩
   rw[pO ((List.getElem?_eq_some_iff.1 h1).1)]
   exact h1
theorem Yb{ln:List Nat}:∀{n m:Nat},n<=m->cP ln n<=cP ln m
 |n,0,h=>by have:n=0:=by omega
            subst this;exact av _
 |n,m+1,h=>by
  by_cases e:n=m+1
  ·subst e;exact av _
  ·have:=Yb (ln:=ln) (n:=n) (m:=m) (by omega)
   show cP ln n<=cP ln m+cn ln m
   omega
theorem Ga{ln:List Nat}{bs:List Bool}{n:Nat}(hn:n<=bs.length)(h1:dQ ln n<=num (bs.take n) 0)(h2:num (bs.take n) 0<dQ ln n+cn ln n):∃s,(jY ln 21)[cP ln n+(num (bs.take n) 0-dQ ln n)]? =some s∧(n<=20->Mt ln bs s∧ln.getD s 0=n)∨20<n:=by
 by_cases py:20<n
 ·exact⟨0,.inr py⟩
 ·obtain⟨s,a,b,c,d⟩:=Ya (ln:=ln) (n:=n) (r:=num (bs.take n) 0-dQ ln n) (by omega) (m:=21) (by omega)
  refine⟨s,.inl ⟨a,fun _=>⟨⟨b,by omega, ?_⟩,c⟩⟩⟩
  unfold ff
  rw[c,d]
  omega
def fQ(ln:List Nat)(n i:Nat):Nat:=dQ ln n+jX ln n i
theorem Yc(ln:List Nat)(n:Nat):fQ ln (n+1) 0=2*fQ ln n ln.length:=by
 unfold fQ
 rw[BA]
 show 2*(dQ ln n+cn ln n)+jX ln (n+1) 0=_
 simp[jX,cn]
theorem Gb{ln:List Nat}{n i:Nat}(h:i<ln.length):fQ ln n (i+1)=fQ ln n i+(if ln.getD i 0=n then 1 else 0):=by
 unfold fQ
 rw[Ms h]
 omega
theorem Gc{ln:List Nat}{n i:Nat}(h:ln.getD i 0=n):fQ ln n i=ff ln i:=by unfold fQ ff;rw[h]
def gW:List Bool->List Bool×Bool
 |[]=>([],true)
 |b::l=>((xor b (gW l).2)::(gW l).1,b&&(gW l).2)
theorem y9:∀l:List Bool,(gW l).1.length=l.length
 |[]=>rfl
 |b::l=>by simp[gW,y9 l]
theorem Yd:∀l:List Bool,num (gW l).1 0+bn (gW l).2*2^l.length=num l 0+1
 |[]=>rfl
 |b::l=>by
  have ih:=Yd l
  have h1:∀(c:Bool) (m:List Bool),num (c::m) 0=bn c*2^m.length+num m 0:=fun c m=>by
   show num m (2*0+bn c)=_
   rw[OD,iO,y8]
  simp only[gW,h1,y9,dI,oH]
  cases b<;>cases hc:(gW l).2<;>simp[bn,hc]at ih⊢<;>omega
theorem ahV{c m:Nat}(h:c+1<2^m):(gW (bY c m)).1=bY (c+1) m:=by
 have h1:=Yd (bY c m)
 rw[X6 (by omega),dL]at h1
 have h2:num (gW (bY c m)).1 0=c+1:=by
  cases hc:(gW (bY c m)).2 with
  |false=>rw[hc]at h1;simpa[bn]using h1
  |true=>rw[hc]at h1;simp[bn]at h1;omega
 have:=Mr h2
 rw[y9,dL]at this
 exact this
theorem ahW{v m k:Nat}(h:v<2^m):bY v m++bI k false=bY (v*2^k) (m+k):=by
 have:=Mr (l:=bY v m++bI k false) (v:=v*2^k) (by rw[ahS,X6 h])
 rw[aY,dL,jJ]at this
 exact this
def lF(ln:List Nat)(n i:Nat)(code:List Bool):Prop:=(code=[]∧fQ ln n i=0)∨∃c m,1<=m∧m<=n∧code=bY c m∧c<2^m∧(c+1)*2^(n-m)=fQ ln n i
theorem lF.skip{ln:List Nat}{n i:Nat}{code:List Bool}(h:lF ln n i code)(hi:i<ln.length)(hn:ln.getD i 0≠n):lF ln n (i+1) code:=by
 have e:fQ ln n (i+1)=fQ ln n i:=by rw[Gb hi,if_neg hn,mH]
 unfold lF
 rw[e]
 exact h
theorem lF.row{ln:List Nat}{n:Nat}{code:List Bool}(h:lF ln n ln.length code):lF ln (n+1) 0 code:=by
 rcases h with ⟨a,b⟩|⟨c,m,h1,h2,h3,h4,h5⟩
 ·exact .inl ⟨a,by rw[Yc,b]⟩
 ·refine .inr ⟨c,m,h1,by omega,h3,h4, ?_⟩
  rw[Yc,<-h5,show n+1-m=n-m+1 by omega,oH]
  rw[<-Hw,uF 2]
theorem lF.Ga{ln:List Nat}(w:Wh ln){n i:Nat}{code:List Bool}(h:lF ln n i code)(hi:i<ln.length)(hn:ln.getD i 0=n):(if code=[]then bI n false else(gW code).1++bI (n-code.length) false)=bY (ff ln i) n∧lF ln n (i+1) (bY (ff ln i) n):=by
 have hc:=w.Mu hi
 have ha:=w.at hi
 rw[hn]at hc ha
 have e:fQ ln n (i+1)=ff ln i+1:=by rw[Gb hi,if_pos hn,Gc hn]
 refine⟨?_,.inr ⟨ff ln i,n,ha.1,av n,rfl,hc,by rw[e,nE,amE,xL]⟩⟩
 rcases h with ⟨a,b⟩|⟨c,m,h1,h2,h3,h4,h5⟩
 ·rw[if_pos a]
  rw[Gc hn]at b
  have:=Mr (X4 n)
  rw[jJ]at this
  rw[b];exact this
 ·rw[Gc hn]at h5
  have bE:code≠[]:=by
   intro q
   have:=congrArg List.length (q.symm.trans h3)
   rw[dL]at this
   simp at this;omega
  have bf:c+1<2^m:=by
   have h6:2^m*2^(n-m)=2^n:=by rw[<-aba,show m+(n-m)=n by omega]
   rw[<-h5,<-h6]at hc
   exact Nat.lt_of_mul_lt_mul_right hc
  rw[if_neg bE,h3,ahV bf,dL,ahW bf,h5,show m+(n-m)=n by omega]
theorem Mv{ln:List Nat}(w:Wh ln):cn ln 0=0:=by
 unfold cn
 rw[List.countP_eq_zero]
 intro x hx
 have:=(w.lo x hx).1
 simp;omega
theorem ahX{ln:List Nat}(w:Wh ln):dQ ln 1=0:=by
 show 2*(0+cn ln 0)=0
 rw[Mv w]
theorem ahY{ln:List Nat}(w:Wh ln):cP ln 1=0:=by
 show 0+cn ln 0=0
 rw[Mv w]
theorem lF.zero{ln:List Nat}(w:Wh ln):lF ln 1 0 []:= .inl ⟨rfl,by
 unfold fQ
 rw[ahX w]
 simp[jX,cn]⟩
theorem Ig:∀(n v r:Nat) (h:r<n),(bY v n)[r]? =some (decide (v/2^(n-1-r)%2=1))
 |0,_,_,h=>absurd h (zQ _)
 |n+1,v,r,h=>by
  show(bY (v/2) n++[decide (v %2=1)])[r]? =_
  by_cases e:r<n
  ·rw[pO (by rw[dL];exact e),Ig n (v/2) r e,Nat.div_div_eq_div_mul,<-Nat.pow_succ',show(n-1-r).succ=n+1-1-r by omega]
  ·have:r=n:=by omega
   subst this
   rw[uC (by rw[dL];exact av _),dL,nE,show r+1-1-r=0 by omega,amE,Nat.div_one]
   rfl
end Go.Proofs.YtdagfcflbphoiaaGreatDoor.Cn
namespace Go.Proofs.YtdagfcflbphoiaaGreatDoor
open Go.RowKit Ev Cn
section
variable {lf d n p:Nat} {h:H} {S:List UInt8} {D A:Nat}
end
end Go.Proofs.YtdagfcflbphoiaaGreatDoor
namespace Go.Proofs.YtdagfcflbphoiaaGreatDoor
open Hu
def wt(n k:Nat)(t:HT):List Nat:=t.leaves++r9 t.bb (n+k-t.bb)
structure BC (n k:Nat) (last:Int) (t:HT):Prop where
 ls:t.leaves.Pairwise (RI (bt t))
 js:∀i j,n<=i->i<=j->j<n+k->bt t i<=bt t j
 mx:∀i,n<=i->i<n+k->bt t i<=2*last
 lo:∀x∈wt n k t,last<=bt t x
 l0:0<=last
theorem xf(t:HT):bt (taken t)=bt t:=by
 unfold taken
 split<;>rfl
theorem Ye{n k:Nat}{P:List Nat}{S last:Int}{t:HT}(h:iA n k P S t)(s:BC n k last t)(h1:1<=t.leaves.length+(n+k-t.bb)):
 (wt n k t).Perm (Hu.cV t::wt n k (taken t))∧(∀x∈wt n k (taken t),RI (bt t) (Hu.cV t) x)∧BC n k (bt t (Hu.cV t)) (taken t)∧last<=bt t (Hu.cV t):=by
 have key:(wt n k t).Perm (Hu.cV t::wt n k (taken t))∧(∀x∈wt n k (taken t),RI (bt t) (Hu.cV t) x)∧(taken t).leaves.Pairwise (RI (bt t)):=by
  cases hl:gT t with
  |true=>
   obtain⟨r,e1,e2,e3⟩:=LO h h1 hl
   have pA:=s.ls
   generalize Hu.cV t=a at*
   rw[e1,OB]at pA
   rw[e2]
   refine⟨by unfold wt;rw[e1];exact .refl _,fun x hx=> ?_,pA.2⟩
   unfold wt at hx
   rcases List.mem_append.1 hx with h2|h2
   ·exact pA.1 x h2
   ·have h2:=List.mem_range'_1.1 h2
    have h2:t.bb<=x∧x<t.bb+(n+k-t.bb):=h2
    have eM:=h.jl
    unfold gT at hl
    rw[Bool.or_eq_true,beq_iff_eq,Bool.and_eq_true,decide_eq_true_iff,decide_eq_true_iff]at hl
    rcases hl with hl|⟨_,hl⟩
    ·have:=h.wl;omega
    ·have e4:t.leaves.getD 0 0=a:=by rw[e1];rfl
     rw[e4]at hl
     have:=s.js t.bb x eM h2.1 (by omega)
     unfold RI
     omega
  |false=>
   obtain⟨e1,e2,e3⟩:=W3 h hl
   rw[e3,e1]
   have eM:=h.jl
   refine⟨?_,fun x hx=> ?_,s.ls⟩
   ·unfold wt
    obtain⟨d,hd⟩:∃d,n+k-t.bb=d+1:=⟨n+k-t.bb-1,by omega⟩
    rw[hd,List.range'_succ]
    show(t.leaves++t.bb::r9 (t.bb+1) d).Perm (t.bb::(t.leaves++r9 (t.bb+1) (n+k-(t.bb+1))))
    rw[show n+k-(t.bb+1)=d by omega]
    exact List.perm_middle
   ·unfold wt at hx
    rcases List.mem_append.1 hx with h2|h2
    ·have h2:x∈t.leaves:=h2
     have h0:0<t.leaves.length:=List.length_pos_of_mem h2
     unfold gT at hl
     rw[Bool.or_eq_false_iff,Bool.and_eq_false_iff]at hl
     have bf:¬bt t (t.leaves.getD 0 0)<=bt t t.bb:=by
      rcases hl.2 with q|q
      ·simp only[h0,decide_true]at q;cases q
      ·exact of_decide_eq_false q
     obtain⟨y,r,e⟩:=List.exists_cons_of_length_pos h0
     have pA:=s.ls
     rw[e]at h2 pA bf
     rw[OB]at pA
     have bf:¬bt t y<=bt t t.bb:=bf
     rcases List.mem_cons.1 h2 with q|q
     ·subst q;unfold RI;omega
     ·have:=pA.1 x q
      unfold RI at this⊢
      omega
    ·have h2:=List.mem_range'_1.1 h2
     have h2:t.bb+1<=x∧x<t.bb+1+(n+k-(t.bb+1)):=h2
     have:=s.js t.bb x eM (by omega) (by omega)
     unfold RI
     omega
 obtain⟨k1,k2,k3⟩:=key
 have mc:last<=bt t (Hu.cV t):=s.lo _ (k1.mem_iff.2 (by simp))
 refine⟨k1,k2,⟨by rw[xf];exact k3,by rw[xf];exact s.js,fun i h2 h3=>by rw[xf];have:=s.mx i h2 h3;omega,fun x hx=> ?_,by have:=s.l0;omega⟩,mc⟩
 rw[xf]
 have:=k2 x hx
 unfold RI at this
 omega
theorem ahZ{n k:Nat}{P:List Nat}{S:Int}{t:HT}(h:iA n k P S t)(a b:Nat):(∀i,i<n+k->bt (jz t a b) i=bt t i)∧bt (jz t a b) (n+k)=bt t a+bt t b:=by
 refine⟨fun i hi=>FO _ _ _ (by rw[h.wl];exact hi), ?_⟩
 unfold bt jz
 rw[aF,uC (by rw[h.wl];exact av _),h.wl,nE]
 rfl
theorem Yf{n k:Nat}{P:List Nat}{S:Int}{t:HT}(h:iA n k P S t):∀x∈wt n k t,x<n+k:=fun x hx=>by
 unfold wt at hx
 rcases List.mem_append.1 hx with h2|h2
 ·have:=h.leaf x h2;omega
 ·have:=List.mem_range'_1.1 h2;have:=h.jh;omega
structure Step (n k:Nat) (a b:Nat) (r:List Nat) (t t':HT):Prop where
 perm:(wt n k t).Perm (a::b::r)
 next:(wt n (k+1) t').Perm ((n+k)::r)
 old:∀i,i<n+k->bt t' i=bt t i
 new:bt t' (n+k)=bt t a+bt t b
 mA:∀x∈b::r,RI (bt t) a x
 mB:∀x∈r,RI (bt t) b x
 ia:t'.bz.getD a 0=((n+k:Nat):Int)
 ib:t'.bz.getD b 0=((n+k:Nat):Int)
 io:∀i,i<n+k->i∉wt n k t->t'.bz.getD i 0=t.bz.getD i 0
theorem Yg{n k:Nat}{S last:Int}{t:HT}(h:iA n k [] S t)(s:BC n k last t)(hk:k+2<=n):∃Ge,BC n (k+1) Ge (rK t)∧Step n k (Hu.cV t) (Hu.cV (taken t)) (wt n k (taken (taken t))) t (rK t):=by
 obtain⟨h1,a1,h2,a2,h3,_⟩:=Mg h hk
 have hl:=h.left
 have mn:=h1.left
 simp only[dI,kH]at hl mn
 obtain⟨p1,m1,s1,q1⟩:=Ye h s (by omega)
 obtain⟨p2,m2,s2,q2⟩:=Ye h1 s1 (by omega)
 rw[xf]at m2 s2 q2
 have w2:bt (taken (taken t))=bt t:=by rw[xf,xf]
 unfold rK at h3⊢
 generalize Hu.cV t=a at*
 generalize Hu.cV (taken t)=b at*
 obtain⟨jo,jn⟩:=ahZ h2 a b
 rw[w2]at jo jn
 have hjh:=h2.jh
 have eM:=h2.jl
 have nx:wt n (k+1) (jz (taken (taken t)) a b)=wt n k (taken (taken t))++[n+k]:=by
  unfold wt
  show(taken (taken t)).leaves++r9 (taken (taken t)).bb (n+(k+1)-(taken (taken t)).bb)=_
  rw[show n+(k+1)-(taken (taken t)).bb=(n+k-(taken (taken t)).bb)+1 by omega,List.range'_concat,<-cI]
  rw[show(taken (taken t)).bb+1*(n+k-(taken (taken t)).bb)=n+k by omega]
 have nT:b∈wt n k (taken t):=p2.mem_iff.2 (by simp)
 have og:=fun i hi=>(h.pos i hi).1
 have pa:=og a a1
 have qa:=s.l0
 refine⟨bt t b,⟨?_,fun i j hi ij hj=> ?_,fun i hi hj=> ?_,fun x hx=> ?_,by omega⟩,⟨p1.trans (p2.cons a),by rw[nx];exact List.perm_append_singleton _ _,jo,jn,fun x hx=>m1 x (p2.mem_iff.2 hx),m2, ?_, ?_,fun i hi hn=> ?_⟩⟩
 ·have hp:=s2.ls
  rw[w2]at hp
  refine hp.imp_of_mem (S:=RI (bt (jz (taken (taken t)) a b))) fun{x y} hx hy hr=> ?_
  have:=h2.leaf x hx
  have:=h2.leaf y hy
  unfold RI at hr⊢
  rw[jo x (by omega),jo y (by omega)]
  exact hr
 ·by_cases e:j<n+k
  ·rw[jo i (by omega),jo j e]
   exact s.js i j hi ij e
  ·obtain rfl:j=n+k:=by omega
   by_cases e2:i<n+k
   ·rw[jo i e2,jn]
    have:=s.mx i hi e2
    omega
   ·obtain rfl:i=n+k:=by omega
    omega
 ·by_cases e:i<n+k
  ·rw[jo i e]
   have:=s.mx i hi e
   omega
  ·obtain rfl:i=n+k:=by omega
   rw[jn]
   omega
 ·rw[nx]at hx
  rcases List.mem_append.1 hx with q|q
  ·rw[jo x (Yf h2 x q)]
   have:=m2 x q
   unfold RI at this
   omega
  ·obtain rfl:x=n+k:=by simpa using q
   rw[jn]
   omega
 all_goals
  have e1:∀i,i<n+k->(jz (taken (taken t)) a b).bz.getD i 0=if i=b then((n+k:Nat):Int)else if i=a then((n+k:Nat):Int)else t.bz.getD i 0:=fun i hi=>by
   have il:(taken (taken t)).bz.length=n+k:=h2.il
   have ti:(taken (taken t)).bz=t.bz:=by unfold taken;split<;>split<;>rfl
   unfold jz
   simp only
   rw[FO _ _ _ (by simp[il];exact hi),qo,qo,h2.wl,ti]
   rw[ti]at il
   simp only[su,il]
   by_cases eb:i=b
   ·subst eb;simp[hi]
   ·by_cases ea:i=a
    ·subst ea;simp[hi,eb,Ne.symm eb]
    ·simp[ea,eb,Ne.symm ea,Ne.symm eb]
 ·rw[e1 a a1];split<;>simp
 ·rw[e1 b a2,if_pos rfl]
 ·have hb:b∈wt n k t:=p1.mem_iff.2 (by simp[nT])
  have ha:a∈wt n k t:=p1.mem_iff.2 (by simp)
  rw[e1 i hi,if_neg (fun e=>hn (by rw[e];exact hb)),if_neg (fun e=>hn (by rw[e];exact ha))]
theorem Yh{ws:List Int}{D:List Nat}(hN:2<=ws.length)(hp:D.Perm (bL ws.length))(hs:D.Pairwise (RI (aZ ws)))(hw:∀x∈ws,0<=x):∀k,k+1<=ws.length->iA ws.length k [] (bp ws) (dG k (Start ws D))∧∃last,BC ws.length k last (dG k (Start ws D)):=by
 intro k
 induction k with
 |zero=>
  intro _
  have h0:=XC hp hw rfl
  refine⟨h0,0,hs,fun i j h1 h2 h3=>by omega,fun i h1 h2=>by omega,fun x hx=>(h0.pos x (Yf h0 x hx)).1,aa7 _⟩
 |succ k ih=>
  intro hk
  obtain⟨h,last,s⟩:=ih (by omega)
  rw[yQ]
  obtain⟨Ge,s',_⟩:=Yg h s hk
  exact⟨(Mg h hk).2.2.2.2.1,Ge,s'⟩
theorem ah0{ws:List Int}{D:List Nat}(hN:2<=ws.length)(hp:D.Perm (bL ws.length))(hs:D.Pairwise (RI (aZ ws)))(hw:∀x∈ws,0<=x)(k:Nat)(hk:k+2<=ws.length):
 Step ws.length k (Hu.cV (dG k (Start ws D))) (Hu.cV (taken (dG k (Start ws D)))) (wt ws.length k (taken (taken (dG k (Start ws D))))) (dG k (Start ws D)) (dG (k+1) (Start ws D)):=by
 obtain⟨h,last,s⟩:=Yh hN hp hs hw k (by omega)
 obtain⟨Ge,_,r⟩:=Yg h s hk
 rw[yQ]
 exact r
structure dm (N:Nat) (w:Nat->Int) (I:Nat->Nat) (A B:Nat->Nat) (X R:Nat->List Nat):Prop where
 two:2<=N
 x0:(X 0).Perm (bL N)
 st:∀k,k+2<=N->(X k).Perm (A k::B k::R k)
 nx:∀k,k+2<=N->(X (k+1)).Perm ((N+k)::R k)
 wn:∀k,k+2<=N->w (N+k)=w (A k)+w (B k)
 ia:∀k,k+2<=N->I (A k)=N+k
 ib:∀k,k+2<=N->I (B k)=N+k
 mA:∀k,k+2<=N->∀x∈B k::R k,RI w (A k) x
 mB:∀k,k+2<=N->∀x∈R k,RI w (B k) x
 mono:∀i j,N<=i->i<=j->j<=2*N-2->w i<=w j
 pos:∀i,i<=2*N-2->0<=w i
section
variable {N:Nat} {X R:Nat->List Nat} {A B:Nat->Nat}
theorem Mw(x0:(X 0).Perm (bL N))(st:∀k,k+2<=N->(X k).Perm (A k::B k::R k))(nx:∀k,k+2<=N->(X (k+1)).Perm ((N+k)::R k)):∀k,k+1<=N->(∀x∈X k,x<N+k)∧(X k).Nodup∧(X k).length=N-k:=by
 intro k
 induction k with
 |zero=>
  intro _
  exact⟨fun x hx=>by have:=List.mem_range.1 (x0.mem_iff.1 hx);omega,x0.nodup_iff.2 List.nodup_range,by rw[x0.length_eq,List.length_range];omega⟩
 |succ k ih=>
  intro hk
  obtain⟨h1,h2,h3⟩:=ih (by omega)
  have p:=st k hk
  have q:=nx k hk
  have hr:∀x∈R k,x∈X k:=fun x hx=>p.mem_iff.2 (by simp[hx])
  have kg:=p.nodup_iff.1 h2
  refine⟨fun x hx=> ?_,q.nodup_iff.2 (amF.2 ⟨fun hm=> ?_,(amF.1 (amF.1 kg).2).2⟩), ?_⟩
  ·rcases List.mem_cons.1 (q.mem_iff.1 hx)with e|e
   ·omega
   ·have:=h1 x (hr x e);omega
  ·have:=h1 _ (hr _ hm);omega
  ·have l1:=p.length_eq
   have l2:=q.length_eq
   simp only[dI]at l1 l2
   omega
end
theorem ah1{ws:List Int}{D:List Nat}(hN:2<=ws.length)(hp:D.Perm (bL ws.length))(hs:D.Pairwise (RI (aZ ws)))(hw:∀x∈ws,0<=x):∃A B X R,dm ws.length (bt (fX ws D)) (fun i=>((fX ws D).bz.getD i 0).toNat) A B X R∧∀i,i<ws.length->bt (fX ws D) i=ws.getD i 0:=by
 have all:=Yh hN hp hs hw
 have jC:=ah0 hN hp hs hw
 have Yi:∀d k,k+d+1=ws.length->∀i,i<ws.length+k->bt (fX ws D) i=bt (dG k (Start ws D)) i:=by
  intro d
  induction d with
  |zero=>
   intro k hk i hi
   unfold fX
   rw[show ws.length-1=k by omega]
  |succ d ih=>
   intro k hk i hi
   rw[ih (k+1) (by omega) i (by omega)]
   exact(jC k (by omega)).old i hi
 have x0:(wt ws.length 0 (dG 0 (Start ws D))).Perm (bL ws.length):=by
  show(D++r9 ws.length (ws.length+0-ws.length)).Perm _
  rw[mH,nE,List.range'_zero,dr]
  exact hp
 have xl:=Mw (X:=fun k=>wt ws.length k (dG k (Start ws D))) (R:=fun k=>wt ws.length k (taken (taken (dG k (Start ws D))))) (A:=fun k=>Hu.cV (dG k (Start ws D))) (B:=fun k=>Hu.cV (taken (dG k (Start ws D)))) x0 (fun k hk=>(jC k hk).perm) (fun k hk=>(jC k hk).next)
 have Yj:∀d k,k+d+1=ws.length->∀i,i<ws.length+k->i∉wt ws.length k (dG k (Start ws D))->(fX ws D).bz.getD i 0=(dG k (Start ws D)).bz.getD i 0:=by
  intro d
  induction d with
  |zero=>
   intro k hk i hi _
   unfold fX
   rw[show ws.length-1=k by omega]
  |succ d ih=>
   intro k hk i hi hn
   have s:=jC k (by omega)
   rw[ih (k+1) (by omega) i (by omega) (fun hm=> ?_)]
   ·exact s.io i hi hn
   ·rcases List.mem_cons.1 (s.next.mem_iff.1 hm)with e|e
    ·omega
    ·exact hn (s.perm.mem_iff.2 (by simp[e]))
 have BD:∀k,k+2<=ws.length->Hu.cV (dG k (Start ws D))<ws.length+k∧Hu.cV (taken (dG k (Start ws D)))<ws.length+k∧Hu.cV (dG k (Start ws D))∉wt ws.length (k+1) (dG (k+1) (Start ws D))∧Hu.cV (taken (dG k (Start ws D)))∉wt ws.length (k+1) (dG (k+1) (Start ws D)):=by
  intro k hk
  have s:=jC k hk
  obtain⟨l1,l2,_⟩:=xl k (by omega)
  have la:=l1 (Hu.cV (dG k (Start ws D))) (s.perm.mem_iff.2 (by simp))
  have lb:=l1 (Hu.cV (taken (dG k (Start ws D)))) (s.perm.mem_iff.2 (by simp))
  have kg:=s.perm.nodup_iff.1 l2
  rw[amF,amF]at kg
  refine⟨la,lb,fun hm=> ?_,fun hm=> ?_⟩
  ·rcases List.mem_cons.1 (s.next.mem_iff.1 hm)with e|e
   ·omega
   ·exact kg.1 (by simp[e])
  ·rcases List.mem_cons.1 (s.next.mem_iff.1 hm)with e|e
   ·omega
   ·exact kg.2.1 e
 have wk:∀k,k+2<=ws.length->∀i,i<ws.length+k->bt (fX ws D) i=bt (dG k (Start ws D)) i:=fun k hk=>Yi (ws.length-1-k) k (by omega)
 refine⟨fun k=>Hu.cV (dG k (Start ws D)),fun k=>Hu.cV (taken (dG k (Start ws D))),fun k=>wt ws.length k (dG k (Start ws D)),fun k=>wt ws.length k (taken (taken (dG k (Start ws D)))),⟨hN,x0,fun k hk=>(jC k hk).perm,fun k hk=>(jC k hk).next,fun k hk=> ?_,fun k hk=> ?_,fun k hk=> ?_,fun k hk x hx=> ?_,fun k hk x hx=> ?_,fun i j h1 h2 h3=> ?_,fun i hi=> ?_⟩,fun i hi=> ?_⟩
 ·obtain⟨la,lb,_⟩:=BD k hk
  rw[Yi (ws.length-1-(k+1)) (k+1) (by omega) _ (by omega),(jC k hk).new,wk k hk _ la,wk k hk _ lb]
 ·obtain⟨la,lb,na,nb⟩:=BD k hk
  show((fX ws D).bz.getD _ 0).toNat=_
  rw[Yj (ws.length-1-(k+1)) (k+1) (by omega) _ (by omega) na,(jC k hk).ia]
  omega
 ·obtain⟨la,lb,na,nb⟩:=BD k hk
  show((fX ws D).bz.getD _ 0).toNat=_
  rw[Yj (ws.length-1-(k+1)) (k+1) (by omega) _ (by omega) nb,(jC k hk).ib]
  omega
 ·obtain⟨la,lb,na,nb⟩:=BD k hk
  have:=(jC k hk).mA x hx
  have bN:=(xl k (by omega)).1 x ((jC k hk).perm.mem_iff.2 (oK _ hx))
  unfold RI at this⊢
  rw[wk k hk _ la,wk k hk _ bN]
  exact this
 ·obtain⟨la,lb,na,nb⟩:=BD k hk
  have:=(jC k hk).mB x hx
  have bN:=(xl k (by omega)).1 x ((jC k hk).perm.mem_iff.2 (oK _ (oK _ hx)))
  unfold RI at this⊢
  rw[wk k hk _ lb,wk k hk _ bN]
  exact this
 ·obtain⟨h,last,s⟩:=all (ws.length-1) (by omega)
  exact s.js i j h1 h2 (by omega)
 ·obtain⟨h,last,s⟩:=all (ws.length-1) (by omega)
  exact(h.pos i (by omega)).1
 ·rw[wk 0 (by omega) i (by omega)]
  rfl
theorem Gf{a b:List Int}(h:a.Perm b):bp a=bp b:=by
 induction h with
 |nil=>rfl
 |cons x _ ih=>simp only[bp,ih]
 |swap x y l=>simp only[bp];omega
 |trans _ _ Mf yD=>exact Mf.trans yD
section
variable {N:Nat} {w:Nat->Int} {I A B:Nat->Nat} {X R:Nat->List Nat}
theorem dm.lt(m:dm N w I A B X R){k:Nat}(hk:k+1<=N){x:Nat}(hx:x∈X k):x<N+k:=(Mw m.x0 m.st m.nx k hk).1 x hx
theorem dm.len(m:dm N w I A B X R){k:Nat}(hk:k+1<=N):(X k).length=N-k:=(Mw m.x0 m.st m.nx k hk).2.2
theorem dm.last(m:dm N w I A B X R):X (N-1)=[2*N-2]:=by
 have hN:=m.two
 have hl:=m.len (k:=N-1) (by omega)
 have hx:2*N-2∈X (N-1):=by
  have:=m.nx (N-2) (by omega)
  rw[show N-2+1=N-1 by omega]at this
  exact this.mem_iff.2 (by rw[show N+(N-2)=2*N-2 by omega];simp)
 obtain⟨y,hy⟩:=List.length_eq_one_iff.1 (show(X (N-1)).length=1 by omega)
 rw[hy]at hx⊢
 rw[List.mem_singleton.1 hx]
theorem dm.aX(m:dm N w I A B X R){k:Nat}(hk:k+2<=N):A k∈X k∧B k∈X k∧(∀x∈R k,x∈X k)∧(∀x∈R k,x∈X (k+1))∧N+k∈X (k+1):=by
 have p:=m.st k hk
 have q:=m.nx k hk
 exact⟨p.mem_iff.2 (by simp),p.mem_iff.2 (by simp),fun x hx=>p.mem_iff.2 (by simp[hx]),fun x hx=>q.mem_iff.2 (by simp[hx]),q.mem_iff.2 (by simp)⟩
theorem dm.Yk(m:dm N w I A B X R):∀k,k+1<=N->∀p,p<N+k->p∈X k∨I p<N+k:=by
 intro k
 induction k with
 |zero=>intro _ p hp;exact .inl (m.x0.mem_iff.2 (List.mem_range.2 (by omega)))
 |succ k ih=>
  intro hk p hp
  obtain⟨h1,h2,h3,h4,h5⟩:=m.aX hk
  by_cases e:p=N+k
  ·exact .inl (by rw[e];exact h5)
  ·rcases ih (by omega) p (by omega)with q|q
   ·rcases List.mem_cons.1 ((m.st k hk).mem_iff.1 q)with r|r
    ·right;rw[r,m.ia k hk];omega
    ·rcases List.mem_cons.1 r with r|r
     ·right;rw[r,m.ib k hk];omega
     ·exact .inl (h4 p r)
   ·right;omega
theorem dm.ge(m:dm N w I A B X R):∀d k,k+d+1=N->∀x∈X k,x=2*N-2∨N+k<=I x:=by
 intro d
 induction d with
 |zero=>
  intro k hk x hx
  have:=m.last
  rw[show N-1=k by omega]at this
  rw[this]at hx
  exact .inl (List.mem_singleton.1 hx)
 |succ d ih=>
  intro k hk x hx
  have bq:k+2<=N:=by omega
  rcases List.mem_cons.1 ((m.st k bq).mem_iff.1 hx)with r|r
  ·right;rw[r,m.ia k bq];exact av _
  ·rcases List.mem_cons.1 r with r|r
   ·right;rw[r,m.ib k bq];exact av _
   ·rcases ih (k+1) (by omega) x ((m.aX bq).2.2.2.1 x r)with q|q
    ·exact .inl q
    ·right;omega
theorem dm.Mx(m:dm N w I A B X R){k:Nat}(hk:k+1<=N){x:Nat}(hx:x∈X k)(hr:x≠2*N-2):N+k<=I x:=(m.ge (N-1-k) k (by omega) x hx).resolve_left hr
theorem dm.up(m:dm N w I A B X R){i:Nat}(hi:i<2*N-2):i<I i∧I i<=2*N-2∧N<=I i:=by
 have hN:=m.two
 have h1:I i<=2*N-2:=by
  rcases m.Yk (N-1) (by omega) i (by omega)with q|q
  ·rw[m.last]at q
   have:=List.mem_singleton.1 q
   omega
  ·omega
 by_cases hl:i<N
 ·have:=m.Mx (k:=0) (by omega) (m.x0.mem_iff.2 (List.mem_range.2 hl)) (by omega)
  omega
 ·have:=m.Mx (k:=i-N+1) (by omega) (x:=i) (by have:=(m.aX (k:=i-N) (by omega)).2.2.2.2;rwa[show N+(i-N)=i by omega]at this) (by omega)
  omega
theorem dm.inv(m:dm N w I A B X R){q k:Nat}(hk:k+2<=N)(hq:q<2*N-2)(h:I q=N+k):q∈X k∧(q=A k∨q=B k):=by
 have hu:=(m.up hq).1
 have h1:q∈X k:=by
  rcases m.Yk k (by omega) q (by omega)with r|r
  ·exact r
  ·omega
 refine⟨h1, ?_⟩
 rcases List.mem_cons.1 ((m.st k hk).mem_iff.1 h1)with r|r
 ·exact .inl r
 ·rcases List.mem_cons.1 r with r|r
  ·exact .inr r
  ·have:=m.Mx (k:=k+1) (by omega) ((m.aX hk).2.2.2.1 q r) (by omega)
   omega
theorem dm.Yl(m:dm N w I A B X R){dep:Nat->Nat}(d0:dep (2*N-2)=0)(d1:∀i,i<2*N-2->dep i=dep (I i)+1):∀f i,2*N-2-i<=f->i<=2*N-2->dep i<=2*N-2-i:=by
 intro f
 induction f with
 |zero=>intro i h1 h2;obtain rfl:i=2*N-2:=by omega
        rw[d0];omega
 |succ f ih=>
  intro i h1 h2
  by_cases e:i=2*N-2
  ·rw[e,d0];omega
  ·have u:=m.up (show i<2*N-2 by omega)
   have:=ih (I i) (by omega) (by omega)
   rw[d1 i (by omega)]
   omega
theorem dm.keeps(m:dm N w I A B X R)(f:Nat->Int)(hf:∀k,k+2<=N->f (A k)+f (B k)=f (N+k)):∀k,k+1<=N->bp ((X k).map f)=f (2*N-2):=by
 have hN:=m.two
 have:∀d k,k+d+1=N->bp ((X k).map f)=f (2*N-2):=by
  intro d
  induction d with
  |zero=>
   intro k hk
   have:=m.last
   rw[show N-1=k by omega]at this
   rw[this]
   simp[bp]
  |succ d ih=>
   intro k hk
   have bq:k+2<=N:=by omega
   have h1:=ih (k+1) (by omega)
   rw[Gf ((m.nx k bq).map f)]at h1
   rw[Gf ((m.st k bq).map f)]
   simp only[mF,bp]at h1⊢
   have:=hf k bq
   omega
 exact fun k hk=>this (N-1-k) k (by omega)
theorem dm.BE(m:dm N w I A B X R){k:Nat}(hk:k+2<=N):A k<2*N-2∧B k<2*N-2:=by
 have h:=m.aX hk
 have:=m.lt (by omega) h.1
 have:=m.lt (by omega) h.2.1
 omega
theorem dm.Ym(m:dm N w I A B X R){dep:Nat->Nat}(d1:∀i,i<2*N-2->dep i=dep (I i)+1){k:Nat}(hk:k+2<=N):dep (A k)=dep (N+k)+1∧dep (B k)=dep (N+k)+1:=by
 have h:=m.BE hk
 rw[d1 _ h.1,d1 _ h.2,m.ia k hk,m.ib k hk]
 exact⟨rfl,rfl⟩
theorem dm.ah2(m:dm N w I A B X R){dep:Nat->Nat}(d0:dep (2*N-2)=0)(d1:∀i,i<2*N-2->dep i=dep (I i)+1)(M:Nat)(hM:2*N<=M):bp ((bL N).map fun i=>(2:Int)^(M-dep i))=2^M:=by
 have hN:=m.two
 have h:=m.keeps (fun i=>(2:Int)^(M-dep i)) (fun k hk=>by
  obtain⟨e1,e2⟩:=m.Ym d1 hk
  have hb:=m.Yl d0 d1 (2*N) (N+k) (by omega) (by omega)
  show(2:Int)^(M-dep (A k))+2^(M-dep (B k))=2^(M-dep (N+k))
  rw[e1,e2,show M-dep (N+k)=(M-(dep (N+k)+1))+1 by omega,amw]
  omega) 0 (by omega)
 rw[Gf (m.x0.map _),d0]at h
 exact h
theorem dm.root(m:dm N w I A B X R):bp ((bL N).map w)=w (2*N-2):=by
 have hN:=m.two
 have h:=m.keeps w (fun k hk=>(m.wn k hk).symm) 0 (by omega)
 rw[Gf (m.x0.map _)]at h
 exact h
theorem dm.ah3(m:dm N w I A B X R){c:Int}(h0:0<=c):∀d k,(∀x∈X k,c<=w x)->k+d+1<=N->∀x∈X (k+d),c<=w x:=by
 intro d
 induction d with
 |zero=>intro k h _;exact h
 |succ d ih=>
  intro k h hk x hx
  have p:=ih k h (by omega)
  have bq:(k+d)+2<=N:=by omega
  have a:=m.aX bq
  rcases List.mem_cons.1 ((m.nx (k+d) bq).mem_iff.1 hx)with e|e
  ·rw[e,m.wn _ bq]
   have:=p _ a.1
   have:=p _ a.2.1
   omega
  ·exact p x (a.2.2.1 x e)
theorem dm.ah4(m:dm N w I A B X R){x:Nat}(hx:x<2*N-2)(bN:I x<2*N-2):w x<=w (I x)∧2*w x<=w (I (I x)):=by
 have u:=m.up hx
 have u2:=m.up bN
 obtain⟨k,hk⟩:∃k,I x=N+k:=⟨I x-N,by omega⟩
 obtain⟨j,hj⟩:∃j,I (I x)=N+j:=⟨I (I x)-N,by omega⟩
 have bq:k+2<=N:=by omega
 have gQ:j+2<=N:=by omega
 have a:=m.aX bq
 have hB:w x<=w (B k)∧w x<=w (N+k):=by
  have:=(m.inv bq hx hk).2
  have hAB:=m.mA k bq (B k) (by simp)
  have:=m.wn k bq
  have:=m.pos (A k) (by have:=m.BE bq;omega)
  have:=m.pos (B k) (by have:=m.BE bq;omega)
  unfold RI at hAB
  rcases (m.inv bq hx hk).2 with e|e<;>rw[e]<;>omega
 refine⟨by rw[hk];exact hB.2, ?_⟩
 have ab:=m.ah3 (m.pos x (by omega)) (j-(k+1)) (k+1) (fun y hy=>by
  rcases List.mem_cons.1 ((m.nx k bq).mem_iff.1 hy)with e|e
  ·rw[e];exact hB.2
  ·have:=m.mB k bq y e
   unfold RI at this
   omega) (by omega)
 rw[show k+1+(j-(k+1))=j by omega]at ab
 have b:=m.aX gQ
 rw[hj,m.wn j gQ]
 have:=ab _ b.1
 have:=ab _ b.2.1
 omega
theorem dm.deep(m:dm N w I A B X R){dep:Nat->Nat}(d0:dep (2*N-2)=0)(d1:∀i,i<2*N-2->dep i=dep (I i)+1):∀f x,2*N-2-x<=f->x<=2*N-2->w x*2^(dep x/2)<=w (2*N-2):=by
 intro f
 induction f with
 |zero=>
  intro x h1 h2
  obtain rfl:x=2*N-2:=by omega
  rw[d0]
  simp
 |succ f ih=>
  intro x h1 h2
  by_cases e:x=2*N-2
  ·rw[e,d0];simp
  have u:=m.up (show x<2*N-2 by omega)
  by_cases e2:I x=2*N-2
  ·rw[d1 x (by omega),e2,d0]
   obtain⟨k,hk⟩:∃k,I x=N+k:=⟨I x-N,by omega⟩
   have bq:k+2<=N:=by omega
   have h3:=(m.inv bq (by omega) hk).2
   have h4:=m.wn k bq
   rw[<-hk,e2]at h4
   have:=m.pos (A k) (by have:=m.BE bq;omega)
   have:=m.pos (B k) (by have:=m.BE bq;omega)
   simp
   rcases h3 with r|r<;>rw[r]<;>omega
  ·have u2:=m.up (show I x<2*N-2 by omega)
   have t:=(m.ah4 (show x<2*N-2 by omega) (by omega)).2
   rw[d1 x (by omega),d1 (I x) (by omega)]
   have:=ih (I (I x)) (by omega) (by omega)
   rw[show(dep (I (I x))+1+1)/2=dep (I (I x))/2+1 by omega,amw,<-amG,amH (w x) _,amG]
   refine Int.le_trans ?_ this
   rw[amH]
   exact aaP (by omega) (amI (by omega))
end
theorem dm.short{N:Nat}{w:Nat->Int}{I A B:Nat->Nat}{X R:Nat->List Nat}(m:dm N w I A B X R){dep:Nat->Nat}(d0:dep (2*N-2)=0)(d1:∀i,i<2*N-2->dep i=dep (I i)+1){x:Nat}(hx:x<N)(h1:1<=w x)(hs:w (2*N-2)<1024):dep x<=19:=by
 have hN:=m.two
 have h:=m.deep d0 d1 (2*N) x (by omega) (by omega)
 apply amJ
 intro hc
 have h2:(2:Int)^10<=2^(dep x/2):=by
  have:(2:Nat)^10<=2^(dep x/2):=sw (by omega) (by omega)
  exact_mod_cast this
 have h3:(2:Int)^(dep x/2)<=w x*2^(dep x/2):=by
  have:(1:Int)*2^(dep x/2)<=w x*2^(dep x/2):=aaP h1 (amI (by omega))
  omega
 omega
theorem Gg(bz:List Int):∀(i:Nat) (out:List Int) (j:Nat),i<=j->(jV bz i out).getD j 0=out.getD j 0
 |0,out,j,_=>rfl
 |i+1,out,j,h=>by
  unfold jV
  rw[Gg bz i _ j (by omega),qo,if_neg (by omega)]
theorem Yn(bz:List Int)(T:Nat):∀(i:Nat) (out:List Int),out.length=T->i<=T->(∀j,j<i->j<(bz.getD j 0).toNat∧(bz.getD j 0).toNat<T)->∀j,j<i->(jV bz i out).getD j 0=(jV bz i out).getD (bz.getD j 0).toNat 0+1
 |0,out,_,_,_,j,hj=>by omega
 |i+1,out,hl,hi,bP,j,hj=>by
  have h0:=bP i (by omega)
  unfold jV
  by_cases e:j=i
  ·subst e
   rw[Gg bz j _ j (by omega),Gg bz j _ _ (by omega),qo,qo,if_pos ⟨rfl,by omega⟩,if_neg (by omega)]
  ·exact Yn bz T i _ (by rw[su];exact hl) (by omega) (fun j hj=>bP j (by omega)) j (by omega)
theorem Yo(bz:List Int):∀(i:Nat) (out:List Int),(∀j,0<=out.getD j 0)->∀j,0<=(jV bz i out).getD j 0
 |0,out,h,j=>h j
 |i+1,out,h,j=>by
  unfold jV
  refine Yo bz i _ (fun j=> ?_) j
  rw[qo]
  have:=h j
  have:=h (bz.getD i 0).toNat
  split<;>omega
structure ni (ws:List Int) (D:List Nat) (w:Nat->Int) (I A B:Nat->Nat) (X R:Nat->List Nat) (dep:Nat->Nat):Prop where
 m:dm ws.length w I A B X R
 d0:dep (2*ws.length-2)=0
 d1:∀i,i<2*ws.length-2->dep i=dep (I i)+1
 ww:∀i,i<ws.length->w i=ws.getD i 0
 eq:mr ws D=(bL ws.length).map fun i=>(dep i:Int)
theorem ah5{ws:List Int}{D:List Nat}(hN:2<=ws.length)(hp:D.Perm (bL ws.length))(hs:D.Pairwise (RI (aZ ws)))(hw:∀x∈ws,0<=x):∃w I A B X R dep,ni ws D w I A B X R dep:=by
 obtain⟨A,B,X,R,m,ww⟩:=ah1 hN hp hs hw
 obtain⟨out,uT⟩:∃out,jV (fX ws D).bz (2*ws.length-2) (bI (2*ws.length-1) 0)=out:=⟨_,rfl⟩
 have og:∀j,0<=out.getD j 0:=by
  rw[<-uT]
  refine Yo _ _ _ fun j=> ?_
  rw[aF,amK]
  split<;>simp
 have hlen:out.length=2*ws.length-1:=by rw[<-uT,F5,jJ]
 refine⟨_,_,A,B,X,R,fun i=>(out.getD i 0).toNat,m, ?_,fun i hi=> ?_,ww, ?_⟩
 ·rw[<-uT,Gg _ _ _ _ (av _),aF,amK]
  split<;>rfl
 ·have h1:=Yn (fX ws D).bz (2*ws.length-1) (2*ws.length-2) (bI (2*ws.length-1) 0) (by rw[jJ]) (by omega) (fun j hj=>by
   have:=m.up hj
   omega) i hi
  rw[uT]at h1
  have:=og ((fX ws D).bz.getD i 0).toNat
  show(out.getD i 0).toNat=(out.getD ((fX ws D).bz.getD i 0).toNat 0).toNat+1
  rw[h1]
  omega
 ·unfold mr
  rw[uT]
  apply mI
  ·simp[hlen];omega
  ·intro i h1 h2
   have h3:i<ws.length:=by simpa using h2
   have:=og i
   rw[aF,aM (by omega)]at this
   simp only[List.getElem_take,oM,zR]
   rw[aF,aM (by omega)]
   simp only[zH]at this⊢
   omega
theorem Yp{k:Nat->Int}:∀{a b:List Nat},a.Perm b->a.Pairwise (RI k)->b.Pairwise (RI k)->a=b
 |[],b,h,_,_=>(List.nil_perm.1 h).symm
 |x::a,[],h,_,_=>by simp at h
 |x::a,y::b,h,h1,h2=>by
  have eg:=OB.1 h1
  have lu:=OB.1 h2
  have e:x=y:=by
   have m1:x∈y::b:=h.mem_iff.1 (by simp)
   have m2:y∈x::a:=h.mem_iff.2 (by simp)
   rcases List.mem_cons.1 m1 with e|e
   ·exact e
   ·rcases List.mem_cons.1 m2 with e2|e2
    ·exact e2.symm
    ·have r1:=lu.1 x e
     have r2:=eg.1 y e2
     unfold RI at r1 r2
     omega
  subst e
  rw[Yp h.cons_inv eg.2 lu.2]
def jZ(ws:List Int)(D:List Nat):Prop:=D.Perm (bL ws.length)∧D.Pairwise (RI (aZ ws))
theorem jZ.one{ws:List Int}{D E:List Nat}(h:jZ ws D)(k:jZ ws E):D=E:=Yp (h.1.trans k.1.symm) h.2 k.2
open Classical in
noncomputable def oy (ws:List Int):List Nat:=if h:∃D,jZ ws D then h.choose else []
theorem jZ.eq{ws:List Int}{D:List Nat}(h:jZ ws D):oy ws=D:=by
 unfold oy
 have hx:∃D,jZ ws D:=⟨D,h⟩
 rw[dif_pos hx]
 exact hx.choose_spec.one h
noncomputable def iD (ws:List Int):List Int:=mr ws (oy ws)
theorem jZ.dep{ws:List Int}{D:List Nat}(h:jZ ws D):mr ws D=iD ws:=by unfold iD;rw[h.eq]
theorem ah6{f:Nat->Int}{n i:Nat}(h:i<n):((bL n).map f).getD i 0=f i:=by
 rw[aF,j4,Hs h]
 rfl
section
variable {ws:List Int} {D:List Nat} {w:Nat->Int} {I A B:Nat->Nat} {X R:Nat->List Nat} {dep:Nat->Nat}
theorem ni.at_(d:ni ws D w I A B X R dep){i:Nat}(h:i<ws.length):(mr ws D).getD i 0=dep i:=by
 rw[d.eq,ah6 h]
theorem ni.Yq(d:ni ws D w I A B X R dep){i:Nat}(h:i<ws.length):1<=dep i:=by
 have:=d.m.two
 rw[d.d1 i (by omega)]
 omega
theorem ni.le(d:ni ws D w I A B X R dep){i:Nat}(h:i<ws.length):dep i<ws.length:=by
 have hN:=d.m.two
 have u:=d.m.up (show i<2*ws.length-2 by omega)
 have:=d.m.Yl d.d0 d.d1 (2*ws.length) (I i) (by omega) (by omega)
 rw[d.d1 i (by omega)]
 omega
theorem ni.mem(d:ni ws D w I A B X R dep){P:Int->Prop}:(∀x∈mr ws D,P x)↔∀i,i<ws.length->P (dep i):=by
 rw[d.eq]
 simp
end
def lG(x:Int):Int:=2^(20-x).toNat
def iY(xs:List Int):Int:=bp (xs.map lG)
theorem ni.share{ws:List Int}{D:List Nat}{w:Nat->Int}{I A B:Nat->Nat}{X R:Nat->List Nat}{dep:Nat->Nat}(d:ni ws D w I A B X R dep)(h:∀x∈mr ws D,x<=20):iY (mr ws D)=1048576:=by
 have h:=d.mem.1 h
 have hN:=d.m.two
 obtain⟨M,hM⟩:∃M,M=2*ws.length+20:=⟨_,rfl⟩
 have hk:=d.m.ah2 d.d0 d.d1 M (by omega)
 have e:∀l:List Nat,(∀i∈l,i<ws.length)->bp (l.map fun i=>(2:Int)^(M-dep i))=2^(M-20)*bp (l.map fun i=>lG (dep i)):=by
  intro l
  induction l with
  |nil=>intro _;simp[bp]
  |cons x l ih=>
   intro hl
   have hx:=h x (hl x (by simp))
   simp only[mF,bp]
   rw[ih (fun i hi=>hl i (by simp[hi])),Int.mul_add]
   congr 1
   unfold lG
   rw[<-amL]
   congr 1
   omega
 rw[e _ (fun i hi=>List.mem_range.1 hi)]at hk
 unfold iY
 rw[d.eq,List.map_map]
 have bq:(2:Int)^M=2^(M-20)*1048576:=by
  rw[show(1048576:Int)=2^20 by rfl,<-amL]
  congr 1
  omega
 rw[bq]at hk
 exact Int.eq_of_mul_eq_mul_left (Int.ne_of_gt (Int.pow_pos (by omega))) hk
end Go.Proofs.YtdagfcflbphoiaaGreatDoor
namespace Go.Proofs.YtdagfcflbphoiaaGreatDoor
open Go.RowKit Ev Hu
theorem My(c:Int):∀l:List Int,(∀x∈l,x<=c)->bp l<=l.length*c
 |[],_=>by simp[bp]
 |x::l,h=>by
  have ih:=My c l (fun y hy=>h y (by simp[hy]))
  have:=h x (by simp)
  simp only[bp,dI]
  rw[show((l.length+1:Nat):Int)*c=l.length*c+c by rw[show((l.length+1:Nat):Int)=(l.length:Int)+1 by omega,abc,aa8]]
  omega
theorem Yr{ws:List Int}(hl:ws.length<=258)(hw:∀x∈ws,x<=2199023255552):bp ws<=1152921504606846976:=by
 have h:=My 2199023255552 ws hw
 have:(ws.length:Int)*2199023255552<=258*2199023255552:=aaP (by omega) (by omega)
 omega
structure Ws (ws:List Int):Prop where
 l2:2<=ws.length
 l3:ws.length<=258
 lo:∀x∈ws,0<=x
 hi:∀x∈ws,x<=2199023255552
theorem BF{ws:List Int}(h:1<=ws.length):(iD ws).length=ws.length:=yZ _ _ h
theorem Ys(lf d n:Nat)(h:H)(v:Value)(ws:List Int)(hR:Row h n 3 .i64 v ws)(hW:Ws ws)(aA:3000000<=lf)(hd:300<=d):
 aj (fun _=>False) n (au ai gt lf d 139 #[v]) h n fun v' h' n'=>jZ ws (oy ws)∧Row h' n' 3 .i64 v' (iD ws)∧∀b,aD v' b->n<=b:=by
 obtain⟨e,rfl⟩:∃e,d=e+ws.length+8:=⟨d-ws.length-8,by have:=hW.l3;omega⟩
 have uc:=hW.l3
 refine(ahr lf e n h v ws hR hW.l2 (by omega) aA hW.lo (Yr hW.l3 hW.hi)).mono ?_
 rintro v' h' n' _ ⟨D,hp,hs,hr,hb⟩
 have so:jZ ws D:=⟨hp,hs⟩
 rw[so.dep]at hr
 exact⟨by rw[so.eq];exact so,hr,hb⟩
theorem Ws.Gh{ws:List Int}(hW:Ws ws)(so:jZ ws (oy ws)):∃w I A B X R dep,ni ws (oy ws) w I A B X R dep:=ah5 hW.l2 so.1 so.2 hW.lo
def qv(x:Int):Int:=(if x<0 then 0 else x).tdiv 2+1
def gC(xs:List Int):List Int:=xs.map qv
theorem Yt(x:Int)(h:x<=9223372036854775807):1<=qv x∧qv x<=4611686018427387904∧(0<=x->qv x=x/2+1):=by
 unfold qv
 have:(if x<0 then 0 else x).tdiv 2=(if x<0 then 0 else x)/2:=amM (by split<;>omega)
 rw[this]
 split<;>omega
theorem Yu(x:Int)(h:x<=9223372036854775807):IntKind.i64.wrap ((if x<0 then 0 else x).tdiv 2)=(if x<0 then 0 else x).tdiv 2∧IntKind.i64.wrap ((if x<0 then 0 else x).tdiv 2+1)=qv x:=by
 have:=Yt x h
 unfold qv at this⊢
 exact⟨bB (by omega) (by omega),bB (by omega) (by omega)⟩
theorem nj(xs:List Int):(gC xs).length=xs.length:=by unfold gC;simp
theorem Yv{xs:List Int}{i:Nat}(h:i<xs.length):(gC xs).getD i 0=qv (xs.getD i 0):=by
 unfold gC
 rw[aF,j4,aM h,aF,aM h]
 rfl
def part(L:List Int)(i:Nat):List Int:=L.take i++bI (L.length-i) 0
theorem Mz(L:List Int){i:Nat}(h:i<=L.length):(part L i).length=L.length:=by unfold part;simp;omega
theorem MA{L:List Int}{i:Nat}(h:i<L.length):(part L i).set i (L.getD i 0)=part L (i+1):=by
 unfold part
 rw[aa6 _ _ (by simp;omega),cJ,xM (by omega),nE]
 obtain⟨e,he⟩:∃e,L.length-i=e+1:=⟨L.length-i-1,by omega⟩
 rw[he,Hx,List.set_cons_zero,show L.length-(i+1)=e by omega,jI h,cI]
 rw[aF,aM h]
 rfl
theorem MB(L:List Int):part L L.length=L:=by unfold part;simp
theorem MC(L:List Int):part L 0=bI L.length 0:=by unfold part;simp
theorem hvL(lf d n:Nat)(h:H)(v:Value)(xs:List Int)(hR:Row h n 3 .i64 v xs)(hl:xs.length<=1000000)(hx:∀x∈xs,x<=9223372036854775807)(x2:Value)(c:Nat)(hc:xs.length<=c){W:Nat->Prop}{n0:Nat}(dF:n0<=n):
 ∀(m i fu:Nat) (h1:H),xs.length-i=m->m<fu->i<=xs.length->(∀b,b<n->h1.get b=h.get b)->h1.get n=some ⟨3,true,ints (part (gC xs) i)⟩->
  aj W n0 (wS lf (au ai gt lf d) fu (FE lf (au ai gt lf d)) v x2 (.slice (some ⟨n,0,none⟩) xs.length c) v (.int .i64 (xs.length:Nat)) (.int .i64 (i:Nat))) h1 (n+1) (fun v' h' n'=>Row h' n' 3 .i64 v' (gC xs)∧∀b,aD v' b->n<=b):=by
 intro m
 induction m with
 |zero=>
  intro i fu h1 hm bM hi hk lH
  obtain⟨fu,rfl⟩:∃f,fu=f+1:=⟨fu-1,by omega⟩
  obtain rfl:i=xs.length:=by omega
  rw[wS]
  try simp(disch:=first|omega|assumption|exact aa _) only[ah,ae,RZ,bH]
  (try unfold FE);(try dsimp only)
  try simp(disch:=first|omega|assumption|exact aa _) only[ah,ae,RZ]
  rw[<-nj xs,MB]at lH
  refine⟨.inr ⟨n,0,c,true,_,by rw[nj],lH,fp n,by rw[jT];omega, ?_,by rw[nj];exact hc⟩,fun b hb=>by rw[hb.inj];exact av n⟩
  rw[eJ,hH (by rw[jT];exact av _)]
  rfl
 |succ m ih=>
  intro i fu h1 hm bM hi hk lH
  obtain⟨fu,rfl⟩:∃f,fu=f+1:=⟨fu-1,by omega⟩
  have dH:Row h1 (n+1) 3 .i64 v xs:=hR.aB (cX n) hk
  have bf:=fun b hb=>hR.lt (b:=b) hb
  obtain⟨b,off,cap,o,cs,rfl,hg,hb,_,_,_,bk⟩:=dH.some (by omega)
  have ko:b<n:=bf b ⟨_,_,_,rfl⟩
  have e1:((i:Nat):Int)<((xs.length:Nat):Int):=by omega
  have c1:=bk i (by omega)
  have w1:((i:Nat):Int)+1=((i+1:Nat):Int):=by omega
  have jS:=hx (xs.getD i 0) (by rw[aF,aM (by omega)];exact cN _)
  obtain⟨wa,wb⟩:=Yu _ jS
  have pl:(part (gC xs) i).length=xs.length:=by rw[Mz _ (by rw[nj];omega),nj]
  have ps:(part (gC xs) i).set i (qv (xs.getD i 0))=part (gC xs) (i+1):=by rw[<-Yv (by omega),MA (by rw[nj];omega)]
  rw[wS]
  try simp(disch:=first|omega|assumption|exact aa _) only[ah,ae,RZ,e1,hg,c1,wa,wb,lH,ints_set,jT,pl,ps]
  refine⟨by omega,.inl dF, ?_⟩
  rw[w1]
  exact ih (i+1) fu _ (by omega) (by omega) (by omega) (fun b hb=>by rw[aK _ _ (by omega)];exact hk b hb) (get_eq _ _ _)
theorem ah7(lf d n:Nat)(h:H)(v:Value)(xs:List Int)(hR:Row h n 3 .i64 v xs)(hl:xs.length<=1000000)(hx:∀x∈xs,x<=9223372036854775807)(aA:3000000<=lf):
 aj (fun _=>False) n (au ai gt lf (d+1) 141 #[v]) h n fun v' h' n'=>Row h' n' 3 .i64 v' (gC xs)∧∀b,aD v' b->n<=b:=by
 rw[aQ (fun _=>Wl) rfl]
 refine aj.aP ?_
 unfold FF
 have bg:=hR
 obtain⟨a,c,rfl⟩:=hR.len
 try simp(disch:=first|omega|assumption|exact aa _) only[ah,ae,RZ]
 refine Ev.run_make trivial xs.length xs.length _ (av _) (by omega) ?_
 try simp(disch:=first|omega|assumption|exact aa _) only[ah,ae,RZ]
 refine hvL lf d n h _ xs bg hl hx _ xs.length (av _) (av n) xs.length 0 lf _ (by omega) (by omega) (by omega) (fun b hb=>aK _ _ (by omega)) ?_
 rw[get_eq,MC,nj]
 unfold ints
 rw[Hv]
theorem ah8{x:Int}(h0:0<=x)(h1:x<=20):1<=lG x∧lG x<=1048576:=by
 unfold lG
 have h1:(2:Nat)^(20-x).toNat<=2^20:=sw (by omega) (by omega)
 have h2:1<=(2:Nat)^(20-x).toNat:=Nat.one_le_two_pow
 have e:((2:Int)^(20-x).toNat)=(((2:Nat)^(20-x).toNat:Nat):Int):=by simp
 rw[e]
 omega
end Go.Proofs.YtdagfcflbphoiaaGreatDoor
namespace Go.Proofs.YtdagfcflbphoiaaGreatDoor
open Hu
end Go.Proofs.YtdagfcflbphoiaaGreatDoor
namespace Go.Proofs.YtdagfcflbphoiaaGreatDoor
open Go.RowKit Ev Hu
theorem fk(a b:Value):sB (.tuple #[a,b]) 0=some a:=rfl
theorem ext1(a b:Value):sB (.tuple #[a,b]) 1=some b:=rfl
theorem Gi{xs:List Int}{i:Nat}(h:i<xs.length):xs.getD i 0∈xs:=by
 rw[aF,aM h]
 exact cN _
end Go.Proofs.YtdagfcflbphoiaaGreatDoor
namespace Go.Proofs.YtdagfcflbphoiaaGreatDoor
open Go.RowKit Ev Cn
def iN(ln:List Nat):List Int:=ln.map fun(x:Nat)=>(x:Int)
theorem db(ln:List Nat):(iN ln).length=ln.length:=by unfold iN;simp
theorem kz{ln:List Nat}{i:Nat}:(iN ln).getD i 0=(ln.getD i 0:Int):=by
 unfold iN
 rw[aF,j4,aF]
 cases ln[i]? <;>rfl
theorem Yw(x:Nat)(ln:List Nat):∀m,jB (x::ln) m=jB ln m+(if x<m then 2^(20-x)else 0)
 |0=>by simp[jB]
 |m+1=>by
  show jB (x::ln) m+cn (x::ln) m*2^(20-m)=jB ln m+cn ln m*2^(20-m)+_
  rw[Yw x ln m]
  have e:cn (x::ln) m=cn ln m+(if x=m then 1 else 0):=by unfold cn;rw[Hy];simp
  rw[e,lj]
  by_cases h:x=m
  ·subst h
   rw[if_pos rfl,if_neg (zS x),if_pos (fp x)]
   omega
  ·rw[if_neg h]
   by_cases h2:x<m
   ·rw[if_pos h2,if_pos (by omega)];omega
   ·rw[if_neg h2,if_neg (by omega)];omega
theorem Yx:∀{ln:List Nat},(∀x∈ln,x<=20)->iY (iN ln)=(jB ln 21:Int)
 |[],_=>by
  have:∀m,jB [] m=0:=by
   intro m
   induction m with
   |zero=>rfl
   |succ m ih=>show jB [] m+cn [] m*_=0;rw[ih];simp[cn]
  rw[this]
  rfl
 |x::ln,h=>by
  have ih:=Yx (ln:=ln) fun y hy=>h y (oK _ hy)
  have hx:=h x uE
  rw[Yw,if_pos (show x<21 by omega)]
  show lG (x:Int)+iY (iN ln)=_
  rw[ih]
  unfold lG
  rw[show(20-(x:Int)).toNat=20-x by omega]
  have:((2:Int)^(20-x))=((2^(20-x):Nat):Int):=by push_cast;rfl
  rw[this]
  omega
theorem ah9{ln:List Nat}(h:∀x∈ln,1<=x∧x<=20)(hs:iY (iN ln)=1048576):Wh ln:=⟨h,by
 have:=Yx (ln:=ln) fun x hx=>(h x hx).2
 omega⟩
section
variable (lf d n:Nat) (h:H) (aA:3000000<=lf)
include aA
theorem ah'(v:Value)(xs:List Int)(hR:Row h n 3 .i64 v xs)(hl:xs.length<=258)(hm:dD 0 20 xs=true):
 aj (fun _=>False) n (au ai gt lf (d+5) 108 #[v]) h n fun v' h' n'=>v'= .tuple #[.int .i64 (iY xs),.int .i64 0]:=by
 have dz:=iX.1 hm
 rw[aQ (fun _=>U7) rfl]
 refine aj.aP ?_
 unfold Fc
 have bg:=hR
 obtain⟨a,c,rfl⟩:=hR.len
 have e1:¬((258:Int)<((xs.length:Nat):Int)):=by omega
 try simp(disch:=first|omega|assumption|exact aa _) only[ah,ae,RZ,e1]
 refine y3 (XK lf d n h _ xs bg 0 20 (by omega) aA) (av _) fun h1 n1 bQ cM=> ?_
 rw[hm]
 have dH:=bg.aB bQ cM
 try simp(disch:=first|omega|assumption|exact aa _) only[ah,ae,RZ,gM]
 refine ed xs.length (fun fu i (q:Int)=>wH lf (au ai gt lf (d+4)) fu (Fb lf (au ai gt lf (d+4))) (.slice a xs.length c) (.int .i64 0) (.int .i64 0) (.int .i64 q) (.bool false) (.slice a xs.length c) (.int .i64 (xs.length:Nat)) (.int .i64 (i:Nat))) (fun i q h' n'=>(h'=h1∧n'=n1)∧0<=q∧q<=i*1048576∧q+iY (xs.drop i)=iY xs) ?_ ?_ lf 0 0 h1 n1 (dx _) (by omega) ⟨⟨rfl,rfl⟩,by omega,by omega,by rw[eJ];omega⟩
 ·rintro fu q h' n' ⟨⟨rfl,rfl⟩,q0,q1,q2⟩
  rw[wH]
  try simp(disch:=first|omega|assumption|exact aa _) only[ah,ae,RZ,bH]
  (try unfold Fb);(try dsimp only)
  try simp(disch:=first|omega|assumption|exact aa _) only[ah,ae,RZ]
  rw[List.drop_length]at q2
  have:iY []=0:=rfl
  rw[<-q2,this,Int.add_zero]
 ·rintro fu i q h' n' hi ⟨⟨rfl,rfl⟩,q0,q1,q2⟩ next
  obtain⟨b,off,cap,o,cs,hv,hg,hb,_,_,_,bk⟩:=dH.some (by omega)
  cases hv
  have e2:((i:Nat):Int)<((xs.length:Nat):Int):=by omega
  have c1:=bk i hi
  have jS:=dz (xs.getD i 0) (by rw[aF,aM hi];exact cN _)
  obtain⟨b1,b2⟩:=ah8 jS.1 jS.2
  have w2:IntKind.i64.wrap (20-xs.getD i 0)=(((20-xs.getD i 0).toNat:Nat):Int):=by rw[bB (by omega) (by omega)];omega
  have w3:IntKind.i64.wrap (1*2^(min (((20-xs.getD i 0).toNat:Nat):Int).toNat IntKind.i64.bits))=lG (xs.getD i 0):=by
   rw[mG,xM (Cj (show(20-xs.getD i 0).toNat<=20 by omega) (by decide)),aa8]
   exact bB (by unfold lG at b1;omega) (by unfold lG at b2;omega)
  have MD:IntKind.i64.wrap (1*2^(min (20-xs.getD i 0).toNat IntKind.i64.bits))=lG (xs.getD i 0):=by
   rw[mG]at w3
   exact w3
  have w4:IntKind.i64.wrap (q+lG (xs.getD i 0))=q+lG (xs.getD i 0):=bB (by omega) (by omega)
  have w5:(0:Int)<=(((20-xs.getD i 0).toNat:Nat):Int):=by omega
  have dn:iY (xs.drop i)=lG (xs.getD i 0)+iY (xs.drop (i+1)):=by rw[jW 0 hi];rfl
  rw[wH]
  try simp(disch:=first|omega|assumption|exact aa _) only[ah,ae,RZ,e2,hg,c1,w2,w5,w3,MD,w4]
  refine next _ _ _ ⟨⟨rfl,rfl⟩,by omega,by omega,by omega⟩
theorem Yy(v:Value)(xs:List Int)(z:Int)(hR:Row h n 3 .i64 v xs)(hl:xs.length<=1000000):
 aj (fun _=>False) n (au ai gt lf (d+1) 64 #[v,.int .i64 z]) h n fun v' h' n'=>(∃r:Int,v'= .int .i64 r∧((r=-1∧∀x∈xs,x≠z)∨∃i,i<xs.length∧r=(i:Int)∧xs.getD i 0=z∧∀j,j<i->xs.getD j 0≠z))∧h'=h∧n'=n:=by
 rw[aQ (fun _=>TF) rfl]
 refine aj.aP ?_
 unfold EK
 have bg:=hR
 obtain⟨a,c,rfl⟩:=hR.len
 try simp(disch:=first|omega|assumption|exact aa _) only[ah,ae,RZ]
 refine ed xs.length (fun fu i (_:Unit)=>wc lf (au ai gt lf d) fu (AV lf (au ai gt lf d)) (.slice a xs.length c) (.int .i64 z) (.int .i64 0) (.int .i64 (xs.length:Nat)) (.int .i64 (i:Nat))) (fun i _ h' n'=>(h'=h∧n'=n)∧∀j,j<i->xs.getD j 0≠z) ?_ ?_ lf 0 () h n (dx _) (by omega) ⟨⟨rfl,rfl⟩,fun j hj=>absurd hj (zQ j)⟩
 ·rintro fu _ h' n' ⟨⟨rfl,rfl⟩,ha⟩
  rw[wc]
  try simp(disch:=first|omega|assumption|exact aa _) only[ah,ae,RZ,bH]
  (try unfold AV);(try dsimp only)
  try simp(disch:=first|omega|assumption|exact aa _) only[ah,ae,RZ]
  refine⟨-1,rfl,.inl ⟨rfl,fun x hx=> ?_⟩⟩
  obtain⟨j,hj,rfl⟩:=List.mem_iff_getElem.1 hx
  have:=ha j hj
  rw[aF,aM hj]at this
  exact this
 ·rintro fu i _ h' n' hi ⟨⟨rfl,rfl⟩,ha⟩ next
  obtain⟨b,off,cap,o,cs,hv,hg,hb,_,_,_,bk⟩:=bg.some (by omega)
  cases hv
  have e2:((i:Nat):Int)<((xs.length:Nat):Int):=by omega
  have c1:=bk i hi
  rw[wc]
  by_cases q:z=xs.getD i 0
  ·have e3:(z==xs.getD i 0)=true:=by rw[<-q];simp
   try simp(disch:=first|omega|assumption|exact aa _) only[ah,ae,RZ,e2,hg,c1,e3]
   (try unfold AV);(try dsimp only)
   try simp(disch:=first|omega|assumption|exact aa _) only[ah,ae,RZ]
   exact⟨_,rfl,.inr ⟨i,hi,rfl,q.symm,ha⟩⟩
  ·have e3:(z==xs.getD i 0)=false:=beq_eq_false_iff_ne.2 q
   try simp(disch:=first|omega|assumption|exact aa _) only[ah,ae,RZ,e2,hg,c1,e3]
   refine next () _ _ ⟨⟨rfl,rfl⟩,fun j hj=> ?_⟩
   by_cases e:j=i
   ·subst e;exact fun r=>q r.symm
   ·exact ha j (by omega)
set_option maxRecDepth 8000 in
theorem ah_(v:Value)(xs:List Int)(hR:Row h n 3 .i64 v xs)(hl:xs.length<=258)(hm:dD 1 20 xs=true):
 aj (fun _=>False) n (au ai gt lf (d+6) 71 #[v]) h n fun v' h' n'=>v'= .bool (decide (iY xs=1048576)):=by
 have dz:=iX.1 hm
 rw[aQ (fun _=>TV) rfl]
 refine aj.aP ?_
 unfold KC
 refine bh aW (ah' lf d n h aA v xs hR hl (iX.2 fun x hx=>by have:=dz x hx;omega)) (av _) (fun _ _ h=>h.elim) fun v1 h1 n1 bQ cM hq=> ?_
 subst hq
 have z0:((0:Int)==0)=true:=rfl
 by_cases q:iY xs=1048576
 ·have e:(iY xs==1048576)=true:=by rw[q];exact beq_self_eq_true _
  rw[decide_eq_true q]
  have s2:aj (fun _=>False) n1 (au ai gt lf (d+5) 109 #[v,.int .i64 0]) h1 n1 fun v' h' n'=>v'= .bool false:=by
   rw[aQ (fun _=>U8) rfl]
   refine aj.aP ?_
   unfold K9
   refine bh aW (Yy lf (d+3) n1 h1 aA v xs 0 (hR.aB bQ fun b hb=>cM b hb id) (by omega)) (av _) (fun _ _ h=>h.elim) fun v2 h2 n2 ey eR iE=> ?_
   obtain⟨⟨r,rfl,hr⟩,_,_⟩:=iE
   rcases hr with ⟨rfl,_⟩|⟨i,hi,_,hz,_⟩
   ·try simp(disch:=first|omega|assumption|exact aa _) only[ah,ae,RZ,cd,cj,cr,ct,cz,cA,cB,cC,cD,cE]
    all_goals (first|rfl|exact⟨rfl,rfl,rfl⟩|exact⟨rfl,rfl⟩)
   ·have:=dz (xs.getD i 0) (by rw[aF,aM hi];exact cN _)
    omega
  try simp(disch:=first|omega|assumption|exact aa _) only[ah,ae,RZ,fk,ext1,z0,e]
  refine y3 s2 (by omega) fun h3 n3 fy dU=> ?_
  try simp(disch:=first|omega|assumption|exact aa _) only[ah,ae,RZ,iP]
 ·have e:(iY xs==1048576)=false:=beq_eq_false_iff_ne.2 q
  rw[decide_eq_false q]
  try simp(disch:=first|omega|assumption|exact aa _) only[ah,ae,RZ,fk,ext1,z0,e]
end
def xg(f:Nat->Nat)(N:Nat):List Value:=(bL N).map fun j=>gZ .i64 (f j:Int)
theorem BG(f:Nat->Nat)(N:Nat):(xg f N).length=N:=by unfold xg;simp
def zb(f:Nat->Nat)(j v:Nat):Nat->Nat:=fun i=>if i=j then v else f i
theorem Yz{f:Nat->Nat}{N j v:Nat}:(xg f N).set j (.int .i64 (v:Int))=xg (zb f j v) N:=by
 apply mI
 ·simp[BG]
 ·intro i h1 h2
  rw[aa_]
  simp only[xg,oM,zR,zb]
  by_cases e:j=i
  ·subst e;simp
  ·rw[if_neg e,if_neg (fun q=>e q.symm)]
def fg(lv cv ov:Value)(f g:Nat->Nat):List Value:=lv::cv::ov::(xg f 21++xg g 22)
theorem aia{lv cv ov:Value}{f g:Nat->Nat}{j v:Nat}(h:j<21):(fg lv cv ov f g).set (3+j) (.int .i64 (v:Int))=fg lv cv ov (zb f j v) g:=by
 unfold fg
 rw[show 3+j=j+1+1+1 by omega,Cr,Cr,Cr,amN _ _ (by rw[BG];exact h),Yz]
theorem YA{lv cv ov:Value}{f g:Nat->Nat}{j v:Nat}:(fg lv cv ov f g).set (24+j) (.int .i64 (v:Int))=fg lv cv ov f (zb g j v):=by
 unfold fg
 rw[show 24+j=21+j+1+1+1 by omega,Cr,Cr,Cr,aa6 _ _ (by rw[BG];omega),BG,show 21+j-21=j by omega,Yz]
theorem ME(lv cv ov:Value)(f g:Nat->Nat):(fg lv cv ov f g).length=46:=by unfold fg;simp[BG]
def dq(f:Nat->Nat)(n:Nat):Nat->Nat:=fun j=>if j<=n then f j else 0
theorem MF(f:Nat->Nat)(n:Nat):zb (dq f n) (n+1) (f (n+1))=dq f (n+1):=by
 funext j
 unfold zb dq
 by_cases e:j=n+1
 ·subst e;simp
 ·rw[if_neg e]
  by_cases e2:j<=n
  ·rw[if_pos e2,if_pos (by omega)]
  ·rw[if_neg e2,if_neg (by omega)]
theorem YB{f:Nat->Nat}(h:f 0=0):dq f 0=fun _=>0:=by
 funext j
 unfold dq
 by_cases e:j<=0
 ·have:j=0:=by omega
  subst this
  rw[if_pos e,h]
 ·rw[if_neg e]
def iZ(ln:List Nat)(n s:Nat):List Int:=(bL ln.length).map fun t=>if ln.getD t 0<n∨(ln.getD t 0=n∧t<s)then(ff ln t:Int)else 0
theorem Gj(ln:List Nat)(n s:Nat):(iZ ln n s).length=ln.length:=by unfold iZ;simp
theorem aib(ln:List Nat)(n:Nat):iZ ln n ln.length=iZ ln (n+1) 0:=by
 unfold iZ
 apply r8
 intro t ht
 have:=List.mem_range.1 ht
 by_cases e:ln.getD t 0<n∨(ln.getD t 0=n∧t<ln.length)
 ·rw[if_pos e,if_pos (by omega)]
 ·rw[if_neg e,if_neg (by omega)]
theorem aic{ln:List Nat}{n s:Nat}(h:ln.getD s 0≠n):iZ ln n (s+1)=iZ ln n s:=by
 unfold iZ
 apply r8
 intro t ht
 by_cases e:ln.getD t 0<n∨(ln.getD t 0=n∧t<s)
 ·rw[if_pos e,if_pos (by omega)]
 ·rw[if_neg e,if_neg]
  rintro(q|⟨q1,q2⟩)
  ·exact e (.inl q)
  ·by_cases e2:t=s
   ·subst e2;exact h q1
   ·exact e (.inr ⟨q1,by omega⟩)
theorem aid{ln:List Nat}{n s:Nat}(hs:s<ln.length)(h:ln.getD s 0=n):(iZ ln n s).set s (ff ln s:Int)=iZ ln n (s+1):=by
 apply mI
 ·simp[Gj]
 ·intro t h1 h2
  rw[aa_]
  simp only[iZ,oM,zR]
  by_cases e:s=t
  ·subst e;rw[if_pos rfl,if_pos (.inr ⟨h,fp s⟩)]
  ·rw[if_neg e]
   by_cases q:ln.getD t 0<n∨(ln.getD t 0=n∧t<s)
   ·rw[if_pos q,if_pos (by omega)]
   ·rw[if_neg q,if_neg (by omega)]
theorem aie{ln:List Nat}(w:Wh ln):iZ ln 1 0=bI ln.length 0:=by
 apply mI
 ·simp[Gj]
 ·intro t h1 h2
  rw[Gj]at h1
  have:=w.at h1
  simp only[iZ,oM,zR,List.getElem_replicate]
  rw[if_neg (by omega)]
def pB(ln:List Nat):List Int:=(bL ln.length).map fun t=>(ff ln t:Int)
theorem aif{ln:List Nat}(w:Wh ln):iZ ln 21 0=pB ln:=by
 unfold iZ pB
 apply r8
 intro t ht
 have:=w.at (List.mem_range.1 ht)
 rw[if_pos (by omega)]
theorem YC:∀(ln:List Nat) (m:Nat),cP ln m<=ln.length
 |[],m=>by
  have:∀m,cP [] m=0:=by
   intro m
   induction m with
   |zero=>rfl
   |succ m ih=>show cP [] m+cn [] m=0;rw[ih];simp[cn]
  rw[this]
  exact av 0
 |x::ln,m=>by
  have key:∀m,cP (x::ln) m=cP ln m+(if x<m then 1 else 0):=by
   intro m
   induction m with
   |zero=>rfl
   |succ m ih=>
    show cP (x::ln) m+cn (x::ln) m=cP ln m+cn ln m+_
    have e:cn (x::ln) m=cn ln m+(if x=m then 1 else 0):=by unfold cn;rw[Hy];simp
    rw[ih,e]
    by_cases h:x=m
    ·subst h
     rw[if_neg (zS x),if_pos rfl,if_pos (fp x)]
     omega
    ·rw[if_neg h]
     by_cases h2:x<m
     ·rw[if_pos h2,if_pos (by omega)];omega
     ·rw[if_neg h2,if_neg (by omega)];omega
  have:=YC ln m
  rw[key,dI]
  split<;>omega
theorem aih(ln:List Nat):(jY ln 21).length<=ln.length:=by rw[rR];exact YC ln 21
structure qw (h:H) (lo hi c:Nat) (ln:List Nat):Prop where
 ge:lo<=c
 lt:c<hi
 ex:∃lv cv ov,h.get c=some ⟨111,true,fg lv cv ov (dq (dQ ln) 20) (dq (cP ln) 21)⟩∧Row h hi 3 .i64 lv (iN ln)∧(∀b,aD lv b->lo<=b)∧Row h hi 23 .u32 cv (pB ln)∧(∀b,aD cv b->lo<=b)∧Row h hi 3 .i64 ov (iN (jY ln 21))∧(∀b,aD ov b->lo<=b)
theorem qw.aB{h h':H}{lo hi c:Nat}{ln:List Nat}(x:qw h lo hi c ln)(hk:∀b,lo<=b->b<hi->h'.get b=h.get b):qw h' lo hi c ln:=by
 obtain⟨l1,l2,lv,cv,ov,g,a1,a2,b1,b2,c1,c2⟩:=x
 exact⟨l1,l2,lv,cv,ov,(hk c l1 l2).trans g,a1.fI (av _) fun b hb=>hk b (a2 b hb) (a1.lt hb),a2,b1.fI (av _) fun b hb=>hk b (b2 b hb) (b1.lt hb),b2,c1.fI (av _) fun b hb=>hk b (c2 b hb) (c1.lt hb),c2⟩
theorem aii(a b:List Nat):iN (a++b)=iN a++iN b:=by unfold iN;rw[eK]
theorem aij(k:IntKind)(a b:List Int):aJ k (a++b)=aJ k a++aJ k b:=by unfold aJ;rw[eK]
theorem YD(k:IntKind)(l:List Int)(i:Nat)(x:Int):(aJ k l).set i (.int k x)=aJ k (l.set i x):=by unfold aJ;rw[Oz]
theorem aik(a1:Option Addr)(n1 c1:Nat)(a2:Option Addr)(n2 c2:Nat):(if 0<J1.length then fx (J1.set 0 (.slice a1 n1 c1)) [(1,1,.slice a2 n2 c2)]else none)=some (fg (.slice a1 n1 c1) (.slice a2 n2 c2) (.slice none 0 0) (fun _=>0) (fun _=>0)):=by kernel_rfl
section
variable (lf d n:Nat) (h:H) (aA:3000000<=lf)
include aA
set_option maxHeartbeats 2000000 in
theorem ail(v:Value)(ln:List Nat)(hR:Row h n 3 .i64 v (iN ln))(h3:3<=ln.length)(hl:ln.length<=258)(w:Wh ln)(hs:iY (iN ln)=1048576):
 aj (fun _=>False) n (au ai gt lf (d+7) 39 #[v]) h n fun v' h' n'=>∃c,v'= .tuple #[.pointer (some ⟨c,0,none⟩),.int .i64 0]∧qw h' n n' c ln:=by
 have iB:=db ln
 rw[aQ (fun _=>SQ) rfl]
 refine aj.aP ?_
 unfold Ey
 have bg:=hR
 obtain⟨a,c,rfl⟩:=hR.len
 have e1:¬((((iN ln).length:Nat):Int)<3):=by omega
 have e2:¬((258:Int)<(((iN ln).length:Nat):Int)):=by omega
 have hm:dD 1 20 (iN ln)=true:=iX.2 fun x hx=>by
  unfold iN at hx
  obtain⟨y,hy,rfl⟩:=List.mem_map.1 hx
  have:=w.lo y hy
  omega
 try simp(disch:=first|omega|assumption|exact aa _) only[ah,ae,RZ,e1,e2]
 refine y3 (b:=true) ((ah_ lf d n h aA _ _ bg (by omega) hm).mono fun v' _ _ _ e=>by rw[e,decide_eq_true hs]) (av _) fun h1 n1 bQ cM=> ?_
 have dH:=bg.aB bQ cM
 try simp(disch:=first|omega|assumption|exact aa _) only[ah,ae,RZ,gM]
 refine Ml aW (Br lf (d+5) n1 h1 _ _ dH (by omega) (by omega)) bQ fun v2 h2 n2 T1 ey eR iE t1=> ?_
 obtain⟨_,fG,fF⟩:=iE
 have MG:=fG
 obtain⟨al,cl,rfl⟩:=fG.len
 rw[iB]at MG fF⊢
 try simp(disch:=first|omega|assumption|exact aa _) only[ah,ae,RZ]
 refine ahJ ln.length _ (by omega) ?_
 have t2:RB ⟨n2,n2+1,[]⟩ n1:=⟨fun e he=>(nomatch he),fun e he=>(nomatch he),ey⟩
 dsimp only
 rw[aik,vz]
 refine Rs trivial _ _ ?_
 try simp(disch:=first|omega|assumption|exact aa _) only[ah,ae,RZ,t1.iQ t2,iP,Bool.and_self,tw]
 obtain⟨hb,Gk⟩:∃hb,(h2.set n2 (some ⟨23,true,bI ln.length (.int .u32 0)⟩)).set (n2+1) (some ⟨111,true,fg (.slice al ln.length cl) (.slice (some ⟨n2,0,none⟩) ln.length ln.length) (.slice none 0 0) (fun _=>0) (fun _=>0)⟩)=hb:=⟨_,rfl⟩
 have gc:hb.get (n2+1)=some ⟨111,true,fg (.slice al ln.length cl) (.slice (some ⟨n2,0,none⟩) ln.length ln.length) (.slice none 0 0) (dq (dQ ln) 0) (dq (cP ln) 0)⟩:=by
  rw[YB (f:=dQ ln) rfl,YB (f:=cP ln) rfl,<-Gk,get_eq]
 have gv:hb.get n2=some ⟨23,true,aJ .u32 (iZ ln 1 0)⟩:=by
  rw[<-Gk,aK _ _ (by omega),get_eq,aie w]
  unfold aJ
  rw[Hv]
 have kb:∀b,b<n2->hb.get b=h2.get b:=fun b bO=>by rw[<-Gk,aK _ _ (by omega),aK _ _ (by omega)]
 rw[Gk]
 have aim:jY ln 1=[]:=by
  apply List.eq_nil_of_length_eq_zero
  rw[rR,ahY w]
 have nx0:fQ ln 0 ln.length=0:=by
  unfold fQ
  rw[BA,Mv w]
  rfl
 have iC:∀{h':H} {n':Nat},n2<=n'->(∀b,b<n2->h'.get b=h2.get b)->Row h' n' 3 .i64 (.slice a ln.length c) (iN ln):=fun{h'} {n'} gX eu=>by
  have:=dH.aB (show n1<=n' by omega) fun b bO=>(eu b (by omega)).trans (eR b bO)
  rw[iB]at this
  exact this
 refine ed 20 (fun fu i (q:Nat)=>tB lf (au ai gt lf (d+6)) fu (AM lf (au ai gt lf (d+6))) (.slice a ln.length c) (.pointer none) (.int .i64 0) (.pointer (some ⟨n2+1,0,none⟩)) (.int .i64 (q:Int)) (.int .i64 ((i+1:Nat):Int)) (.bool false) (.bool false))
  (fun i q h' n'=>n2+2<=n'∧(∀b,b<n2->h'.get b=h2.get b)∧q=fQ ln i ln.length∧h'.get n2=some ⟨23,true,aJ .u32 (iZ ln (i+1) 0)⟩∧∃ov,h'.get (n2+1)=some ⟨111,true,fg (.slice al ln.length cl) (.slice (some ⟨n2,0,none⟩) ln.length ln.length) ov (dq (dQ ln) i) (dq (cP ln) i)⟩∧Own h' (n2+2) n' 3 ov (aJ .i64 (iN (jY ln (i+1))))) ?_ ?_ lf 0 0 _ _ (dx _) (by omega) ⟨av _,kb,nx0.symm,gv,_,gc,by rw[aim];exact Own.nil _ _ _ _⟩
 ·rintro fu q h' n' ⟨gX,eu,rfl,rC,ov,rS,hO⟩
  have e3:¬(((20+1:Nat):Int)<=20):=by omega
  have c2:(fg (.slice al ln.length cl) (.slice (some ⟨n2,0,none⟩) ln.length ln.length) ov (dq (dQ ln) 20) (dq (cP ln) 20))[2]? =some ov:=rfl
  have hOr:=hO.row
  obtain⟨ao,co,kj⟩:=hOr.len
  have MH:(iN (jY ln 21)).length=cP ln 21:=by rw[db,rR]
  rw[MH]at kj
  have cg:=YA (lv:= .slice al ln.length cl) (cv:= .slice (some ⟨n2,0,none⟩) ln.length ln.length) (ov:=ov) (f:=dq (dQ ln) 20) (g:=dq (cP ln) 20) (j:=21) (v:=cP ln 21)
  rw[MF]at cg
  have gJ:n2+1<n':=by omega
  have YE:24+21<(fg (.slice al ln.length cl) (.slice (some ⟨n2,0,none⟩) ln.length ln.length) ov (dq (dQ ln) 20) (dq (cP ln) 20)).length:=by rw[ME];omega
  rw[tB]
  try simp(disch:=first|omega|assumption|exact aa _) only[ah,ae,RZ,e3]
  (try unfold AM);(try dsimp only)
  rw[kj]at rS c2 cg YE hOr
  have e21:((21:Int)).toNat=21:=rfl
  try simp(disch:=first|omega|assumption|exact aa _) only[ah,ae,RZ,cd,cj,cr,ct,cz,cA,cB,cC,cD,cE,rS,c2,e21]
  refine⟨by simpa using YE,.inl (by omega), ?_⟩
  have fin:∀h9,h9.get (n2+1)=some ⟨111,true,fg (.slice al ln.length cl) (.slice (some ⟨n2,0,none⟩) ln.length ln.length) (.slice ao (cP ln 21) co) (dq (dQ ln) 20) (dq (cP ln) 21)⟩->(∀b,b≠n2+1->h9.get b=h'.get b)->qw h9 n n' (n2+1) ln:=by
   intro h9 hg9 MI
   have oe:∀b,aD (.slice ao (cP ln 21) co) b->b≠n2+1:=fun b bO e=>by
    rw[kj]at hO
    have:=(hO.lt bO).1
    omega
   refine⟨by omega,by omega,_,_,_,hg9, ?_,fun b bO=>by have:=fF b bO;omega, ?_,fun b bO=>by rw[bO.inj];omega,hOr.fI (av _) fun b bO=>MI b (oe b bO),fun b bO=>by rw[kj]at hO;have:=(hO.lt bO).1;omega⟩
   ·exact MG.fI (by omega) fun b bO=>by
     have:=MG.lt bO
     rw[MI b (by omega),eu b this]
   ·have e:h9.get n2=some ⟨23,true,aJ .u32 (pB ln)⟩:=by rw[MI n2 (by omega),rC,aif w]
    have Gm:(pB ln).length=ln.length:=by unfold pB;simp
    exact .inr ⟨n2,0,ln.length,true,_,by rw[Gm],e,by omega,by rw[cT];omega,by rw[eJ,hH (by rw[cT];omega)],by omega⟩
  refine⟨n2+1,rfl,fin _ (by rw[get_eq];congr 2) fun b bO=>aK _ _ bO⟩
 ·rintro fu i q h' n' hi ⟨gX,eu,rfl,rC,ov,rS,hO⟩ next
  have e3:(((i+1:Nat):Int)<=20):=by omega
  have c2:∀f g,(fg (.slice al ln.length cl) (.slice (some ⟨n2,0,none⟩) ln.length ln.length) ov f g)[2]? =some ov:=fun _ _=>rfl
  have ann:=w.cap (n:=i+1) (by omega)
  have p20:2^(i+1)<=2^20:=sw (by decide) (by omega)
  have fe:dQ ln (i+1)=2*fQ ln i ln.length:=by unfold fQ;rw[BA];rfl
  have w1:IntKind.i64.wrap (((fQ ln i ln.length:Nat):Int)*2)=((dQ ln (i+1):Nat):Int):=by rw[bB (by omega) (by omega)];omega
  have hOr:=hO.row
  obtain⟨ao,co,kj⟩:=hOr.len
  have MH:(iN (jY ln (i+1))).length=cP ln (i+1):=by rw[db,rR]
  rw[MH]at kj
  have sf:=aia (lv:= .slice al ln.length cl) (cv:= .slice (some ⟨n2,0,none⟩) ln.length ln.length) (ov:=ov) (f:=dq (dQ ln) i) (g:=dq (cP ln) i) (j:=i+1) (v:=dQ ln (i+1)) (by omega)
  rw[MF]at sf
  have sg:=YA (lv:= .slice al ln.length cl) (cv:= .slice (some ⟨n2,0,none⟩) ln.length ln.length) (ov:=ov) (f:=dq (dQ ln) (i+1)) (g:=dq (cP ln) i) (j:=i+1) (v:=cP ln (i+1))
  rw[MF]at sg
  have gJ:n2+1<n':=by omega
  have i1:((i+1:Nat):Int)<21:=by omega
  have i2:((i+1:Nat):Int)<22:=by omega
  have i0:(0:Int)<=((i+1:Nat):Int):=by omega
  have it:((i+1:Nat):Int).toNat=i+1:=rfl
  have lc:∀f g,(fg (.slice al ln.length cl) (.slice (some ⟨n2,0,none⟩) ln.length ln.length) ov f g).length=46:=fun f g=>ME _ _ _ _ _
  rw[tB]
  rw[kj]at rS c2 sf sg lc
  try simp(disch:=first|omega|assumption|exact aa _) only[ah,ae,RZ,e3,w1,i0,i1,i2,it,rS,sf,lc,true_or,or_true]
  refine⟨by omega,.inl (by omega), ?_⟩
  try simp(disch:=first|omega|assumption|exact aa _) only[ah,ae,RZ,get_eq,c2,sg,lc]
  refine⟨by omega,.inl (by omega), ?_⟩
  obtain⟨hA,MJ⟩:∃hA,((h'.set (n2+1) (some ⟨111,true,fg (.slice al ln.length cl) (.slice (some ⟨n2,0,none⟩) ln.length ln.length) (.slice ao (cP ln (i+1)) co) (dq (dQ ln) (i+1)) (dq (cP ln) i)⟩)).set (n2+1) (some ⟨111,true,fg (.slice al ln.length cl) (.slice (some ⟨n2,0,none⟩) ln.length ln.length) (.slice ao (cP ln (i+1)) co) (dq (dQ ln) (i+1)) (dq (cP ln) (i+1))⟩))=hA:=⟨_,rfl⟩
  have gA:hA.get (n2+1)=some ⟨111,true,fg (.slice al ln.length cl) (.slice (some ⟨n2,0,none⟩) ln.length ln.length) (.slice ao (cP ln (i+1)) co) (dq (dQ ln) (i+1)) (dq (cP ln) (i+1))⟩:=by rw[<-MJ,get_eq]
  have kA:∀b,b≠n2+1->hA.get b=h'.get b:=fun b bO=>by rw[<-MJ,aK _ _ bO,aK _ _ bO]
  rw[MJ]
  have nxs:fQ ln (i+1) 0=dQ ln (i+1):=by unfold fQ;simp[jX,cn]
  rw[kj]at hO
  refine ed ln.length (fun f2 s (q:Nat)=>tA lf (au ai gt lf (d+6)) f2 (SN lf (au ai gt lf (d+6)) fu (AM lf (au ai gt lf (d+6)))) (.slice a ln.length c) (.pointer none) (.int .i64 0) (.pointer (some ⟨n2+1,0,none⟩)) (.int .i64 (q:Int)) (.int .i64 ((i+1:Nat):Int)) (.bool false) (.bool false) (.bool true) (.slice a ln.length c) (.int .i64 (ln.length:Int)) (.int .i64 (s:Int)))
   (fun s q h5 n5=>n'<=n5∧(∀b,b<n2->h5.get b=h2.get b)∧q=fQ ln (i+1) s∧h5.get n2=some ⟨23,true,aJ .u32 (iZ ln (i+1) s)⟩∧∃ov,h5.get (n2+1)=some ⟨111,true,fg (.slice al ln.length cl) (.slice (some ⟨n2,0,none⟩) ln.length ln.length) ov (dq (dQ ln) (i+1)) (dq (cP ln) (i+1))⟩∧Own h5 (n2+2) n5 3 ov (aJ .i64 (iN (jY ln (i+1)++gB ln (i+1) s)))) ?_ ?_ lf 0 (dQ ln (i+1)) _ _ (dx _) (by omega) ⟨av _,fun b bO=>by rw[kA b (by omega)];exact eu b bO,nxs.symm,by rw[kA n2 (by omega)];exact rC,_,gA, ?_⟩
  rotate_left 2
  ·have:gB ln (i+1) 0=[]:=rfl
   rw[this,dr]
   exact hO.aB (av _) fun b bO=>kA b fun e=>by have:=(hO.lt bO).1;omega
  ·rintro f2 q h5 n5 ⟨ud,ue,rfl,Gn,qx,BH,BI⟩
   have w3:IntKind.i64.wrap (((i+1:Nat):Int)+1)=((i+1+1:Nat):Int):=by rw[bB (by omega) (by omega)];rfl
   have MD:((i+1:Nat):Int)+1=((i+1+1:Nat):Int):=rfl
   rw[tA]
   try simp(disch:=first|omega|assumption|exact aa _) only[ah,ae,RZ,bH]
   (try unfold SN);(try unfold Ew);(try dsimp only)
   try simp(disch:=first|omega|assumption|exact aa _) only[ah,ae,RZ,w3,MD]
   refine next (fQ ln (i+1) ln.length) h5 n5 ⟨by omega,ue,rfl, ?_,qx,BH,BI⟩
   rw[<-aib]
   exact Gn
  ·rintro f2 s q h5 n5 dK ⟨ud,ue,rfl,Gn,qx,BH,BI⟩ lI
   obtain⟨b,off,cap,o,ks,hv,jb,hbx,_,_,_,bk⟩:=(iC (show n2<=n5 by omega) ue).some (by omega)
   have bX:jH a ln.length c= .slice (some ⟨b,off,none⟩) (iN ln).length cap:=hv
   rw[iB]at bX
   cases bX
   have e5:((s:Nat):Int)<((ln.length:Nat):Int):=by omega
   have c5:=bk s (by omega)
   rw[kz]at c5
   have lt5:n2+1<n5:=by omega
   have ano:n2<n5:=by omega
   rw[tA]
   by_cases m:ln.getD s 0=i+1
   ·have qS:(((ln.getD s 0:Nat):Int)==((i+1:Nat):Int))=true:=by rw[m];simp
    have Gp:fQ ln (i+1) s=ff ln s:=Gc m
    have ain:=w.Mu dK
    rw[m]at ain
    have w4:IntKind.u32.wrap ((ff ln s:Nat):Int)=((ff ln s:Nat):Int):=mw (by omega)
    have cv1:(fg (.slice al ln.length cl) (.slice (some ⟨n2,0,none⟩) ln.length ln.length) qx (dq (dQ ln) (i+1)) (dq (cP ln) (i+1)))[1]? =some (.slice (some ⟨n2,0,none⟩) ln.length ln.length):=rfl
    have cv2:(fg (.slice al ln.length cl) (.slice (some ⟨n2,0,none⟩) ln.length ln.length) qx (dq (dQ ln) (i+1)) (dq (cP ln) (i+1)))[2]? =some qx:=rfl
    have cv3:∀x,(fg (.slice al ln.length cl) (.slice (some ⟨n2,0,none⟩) ln.length ln.length) qx (dq (dQ ln) (i+1)) (dq (cP ln) (i+1))).set 2 x=fg (.slice al ln.length cl) (.slice (some ⟨n2,0,none⟩) ln.length ln.length) x (dq (dQ ln) (i+1)) (dq (cP ln) (i+1)):=fun _=>rfl
    have w5:IntKind.i64.wrap (((ff ln s:Nat):Int)+1)=((ff ln s+1:Nat):Int):=by rw[bB (by omega) (by omega)];rfl
    have w5':((ff ln s:Nat):Int)+1=((ff ln s+1:Nat):Int):=rfl
    have w6:((s:Nat):Int)+1=((s+1:Nat):Int):=rfl
    have ch:=aid dK m
    rw[Gp]
    try simp(disch:=first|omega|assumption|exact aa _) only[ah,ae,RZ,e5,jb,c5,qS,BH,cv1,w4,Gn,YD,ch,cT,Gj]
    refine⟨dK,.inl (by omega), ?_⟩
    have YF:(h5.set n2 (some ⟨23,true,aJ .u32 (iZ ln (i+1) (s+1))⟩)).get (n2+1)=some ⟨111,true,fg (.slice al ln.length cl) (.slice (some ⟨n2,0,none⟩) ln.length ln.length) qx (dq (dQ ln) (i+1)) (dq (cP ln) (i+1))⟩:=by rw[aK _ _ (by omega)];exact BH
    try simp(disch:=first|omega|assumption|exact aa _) only[ah,ae,RZ,YF,cv2]
    have xh:Own (h5.set n2 (some ⟨23,true,aJ .u32 (iZ ln (i+1) (s+1))⟩)) (n2+2) n5 3 qx (aJ .i64 (iN (jY ln (i+1)++gB ln (i+1) s))):=BI.aB (av _) fun b bO=>aK _ _ (by have:=(BI.lt bO).1;omega)
    have anp:(aJ .i64 (iN (jY ln (i+1)++gB ln (i+1) s))).length<=1000:=by
     rw[cT,db,aY,rR,BB _ (by omega)]
     have h1:=Yb (ln:=ln) (show i+1<=21 by omega)
     have lu:cP ln 21<=ln.length:=by
      have:=rR ln 21
      rw[<-this]
      exact aih ln
     have kX:=X7 ln (i+1) s
     have h4':cn ln (i+1)<=ln.length:=amO
     omega
    refine m4 trivial (ky _ _) xh (by omega) (by omega) _ fun h7 g7 k7=> ?_
    have g7c:h7.get (n2+1)=some ⟨111,true,fg (.slice al ln.length cl) (.slice (some ⟨n2,0,none⟩) ln.length ln.length) qx (dq (dQ ln) (i+1)) (dq (cP ln) (i+1))⟩:=by rw[k7 (n2+1) (by omega) fun q=>by have:=(xh.lt q).1;omega];exact YF
    have lt7:n2+1<n5+2:=by omega
    try simp(disch:=first|omega|assumption|exact aa _) only[ah,ae,RZ,g7c,cv3,ME]
    refine⟨.inl (by omega), ?_⟩
    rw[w5',w6]
    have sn:gB ln (i+1) (s+1)=gB ln (i+1) s++[s]:=by rw[F',if_pos m]
    have on:aJ .i64 (iN (jY ln (i+1)++gB ln (i+1) (s+1)))=aJ .i64 (iN (jY ln (i+1)++gB ln (i+1) s))++[.int .i64 (s:Int)]:=by
     rw[sn,<-cI,aii,aij]
     rfl
    refine lI (ff ln s+1) _ _ ⟨by omega,fun b bO=> ?_,by rw[Gb dK,if_pos m,Gp], ?_,_,get_eq _ _ _, ?_⟩
    ·rw[aK _ _ (by omega),k7 b (by omega) (fun q=>by have:=(xh.lt q).1;omega),aK _ _ (by omega)]
     exact ue b bO
    ·rw[aK _ _ (by omega),k7 n2 (by omega) (fun q=>by have:=(xh.lt q).1;omega),get_eq]
    ·rw[on]
     refine Or.inr ⟨n5+1,by simp,by rw[aK _ _ (by omega)];exact g7,by omega,by omega⟩
   ·have qS:(((ln.getD s 0:Nat):Int)==((i+1:Nat):Int))=false:=beq_eq_false_iff_ne.2 fun e=>m (by omega)
    have w6:((s:Nat):Int)+1=((s+1:Nat):Int):=rfl
    have sn:gB ln (i+1) (s+1)=gB ln (i+1) s:=by rw[F',if_neg m,dr]
    try simp(disch:=first|omega|assumption|exact aa _) only[ah,ae,RZ,e5,jb,c5,qS]
    refine lI (fQ ln (i+1) s) h5 n5 ⟨ud,ue,by rw[Gb dK,if_neg m];rfl,by rw[aic m];exact Gn,qx,BH,by rw[sn];exact BI⟩
end
section
variable {lf d n p c lo hi:Nat} {h:H} {S:List UInt8} {D A:Nat} {ln:List Nat}
end
inductive St (α:Type)
 |short
 |bad (e:Int)
 |ok (a:α) (used:Nat)
def dB(size now:Nat)(lv:Value)(BJ:Bool):AB:=⟨130,true,[.int .i64 (size:Int),.int .i64 (now:Int),lv,.bool BJ]⟩
section
variable {lf d n p q lo size now:Nat} {h:H} {S:List UInt8} {D A:Nat} {lv:Value} {lens:List Nat} {BJ:Bool}
end
def gK{α:Type}(E:En->Prop)(m:M α)(h:H)(n:Nat)(Q:α->H->Nat->Prop):Prop:=
 ∃a h1 n1 L,m h n=some ⟨a,h1,n1,L⟩∧n<=n1∧(∀e∈L,e.wr=true->E e)∧Q a h1 n1
section
variable {α β:Type} {E:En->Prop} {m:M α} {k:α->M β} {h h1:H} {n n1:Nat} {a:α} {L:List En} {Q:β->H->Nat->Prop}
theorem gK.step(e:m h n=some ⟨a,h1,n1,L⟩)(hn:n<=n1)(hw:∀e∈L,e.wr=true->E e)(x:gK E (k a) h1 n1 Q):gK E (m.bind k) h n Q:=by
 obtain⟨b,h2,n2,L2,e1,e2,e3,e4⟩:=x
 refine⟨b,h2,n2,L++L2,bZ e e1,by omega,fun x hx=> ?_,e4⟩
 rcases List.mem_append.1 hx with q|q
 ·exact hw x q
 ·exact e3 x q
theorem gK.aP{Q':α->H->Nat->Prop}(x:gK E m h n Q'):gK E (inside m) h n Q':=by
 obtain⟨a,h1,n1,L,e1,e2,e3,e4⟩:=x
 exact⟨a,h1,n1,_,kq e1,e2,fun e he=>e3 e (List.mem_filter.1 he).1,e4⟩
theorem gK.run{Q':α->H->Nat->Prop}{W:Nat->Prop}{n0:Nat}(x:gK E m h n Q')(hE:∀e,E e->n0<=e.b∨W e.b):aj W n0 m h n Q':=by
 obtain⟨a,h1,n1,L,e1,e2,e3,e4⟩:=x
 exact⟨a,h1,n1,L,e1,e2,fun e he hw=>hE e (e3 e he hw),e4⟩
theorem aio{QV:Value->H->Nat->Prop}(v:Value)(x:QV v h n):gK E (ak [v]) h n QV:=
 ⟨v,h,n,[],rfl,av _,fun e he=>(nomatch he),x⟩
end
section
variable {β:Type} {E:En->Prop} {h h1:H} {n n1:Nat} {Q:β->H->Nat->Prop} {P:Program}
theorem gK.ins{m:M Value}{v:Value}{L:List En}{k:Value->M β}(e:m h n=some ⟨v,h1,n1,L⟩)(hn:n<=n1)(hw:∀e∈L,e.wr=true->E e)(x:gK E (k v) h1 n1 Q):gK E (eO m k) h n Q:=by
 rw[pc]
 exact gK.step (kq e) hn (fun x hx zZ=>hw x (List.mem_filter.1 hx).1 zZ) x
theorem YG{T:Prop}(_:T)(b off:Nat)(k:Value->M β){B:AB}(hg:h.get b=some B)(hb:b<n){v:Value}(hv:B.cells[off]? =some v)(x:gK E (k v) h n Q):gK E (ay (.pointer (some ⟨b,off,none⟩)) k) h n Q:=by
 have e:yl b off h n=some ⟨v,h,n,[⟨false,b,some off⟩]⟩:=by
  rw[Dp]
  unfold rd
  simp only[hb,hg,hv,if_true]
 exact gK.ins e (av _) (by simp) x
theorem YH{T:Prop}(_:T)(b off:Nat)(v:Value)(k:Value->M β){e:TypeId}{cs:List Value}(hg:h.get b=some ⟨e,true,cs⟩)(hb:b<n)(ho:off<cs.length)(h1:one v=true)(hw:E ⟨true,b,some off⟩)(x:gK E (k undef) (h.set b (some ⟨e,true,cs.set off v⟩)) n Q):
 gK E (bG (.pointer (some ⟨b,off,none⟩)) v k) h n Q:=by
 have mQ:wr b off v h n=some ⟨(),h.set b (some ⟨e,true,cs.set off v⟩),n,[⟨false,b,some off⟩,⟨true,b,some off⟩]⟩:=by
  unfold wr
  simp[hb,hg,ho,h1]
 have e2:((vk b off v).bind fun _=>M.ret undef) h n=some ⟨undef,h.set b (some ⟨e,true,cs.set off v⟩),n,[⟨false,b,some off⟩,⟨true,b,some off⟩]⟩:=by
  rw[Dq]
  have:=bZ (f:=fun _=>M.ret undef) mQ (L2:=[]) (b:=undef) (h2:=h.set b (some ⟨e,true,cs.set off v⟩)) (n2:=n) rfl
  simpa using this
 show gK E (match one v with
  |true=>eO ((vk b off v).bind fun _=>M.ret undef) k
  |false=> .fail) h n Q
 rw[h1]
 refine gK.ins e2 (av _) (fun y hy dS=> ?_) x
 simp at hy
 rcases hy with rfl|rfl
 ·cases dS
 ·exact hw
end
section
variable {β:Type} {W:Nat->Prop} {n0:Nat} {h:H} {n:Nat} {Q:β->H->Nat->Prop} {P:Program}
end
def iF{α:Type}(d:α)(O:List α)(i:Nat):List α:=O.getD i d::(O.take i++O.drop (i+1))
def uf(O:List Value)(i j:Nat):List Value:=O.take (j+1)++((O.drop j).take (i-j)++O.drop (i+1))
theorem xi{α:Type}{O:List α}(h:O.length=6):∃a b c d e f,O=[a,b,c,d,e,f]:=by
 match O,h with
 |[a,b,c,d,e,f],_=>exact⟨a,b,c,d,e,f,rfl⟩
theorem aip{O:List Value}(h:O.length=6){i:Nat}(hi:i<6):uf O i i=O:=by
 obtain⟨a,b,c,d,e,f,rfl⟩:=xi h
 rcases i with _|_|_|_|_|_|i<;>first|rfl|omega
theorem aiq{O:List Value}(h:O.length=6){i j:Nat}(hi:i<6)(hj:j<i):(uf O i (j+1)).set (j+1) (O.getD j undef)=uf O i j:=by
 obtain⟨a,b,c,d,e,f,rfl⟩:=xi h
 rcases i with _|_|_|_|_|_|i<;>rcases j with _|_|_|_|_|j<;>first|rfl|omega
theorem air{O:List Value}(h:O.length=6){i j:Nat}(hi:i<6)(hj:j<i):(uf O i (j+1)).getD j undef=O.getD j undef:=by
 obtain⟨a,b,c,d,e,f,rfl⟩:=xi h
 rcases i with _|_|_|_|_|_|i<;>rcases j with _|_|_|_|_|j<;>first|rfl|omega
theorem ais{O:List Value}(h:O.length=6){i:Nat}(hi:i<6):(uf O i 0).set 0 (O.getD i undef)=iF undef O i:=by
 obtain⟨a,b,c,d,e,f,rfl⟩:=xi h
 rcases i with _|_|_|_|_|_|i<;>first|rfl|omega
theorem YI{O:List Value}(h:O.length=6){i j:Nat}(hi:i<6)(hj:j<=i):(uf O i j).length=6:=by
 obtain⟨a,b,c,d,e,f,rfl⟩:=xi h
 rcases i with _|_|_|_|_|_|i<;>rcases j with _|_|_|_|_|_|j<;>first|rfl|omega
theorem YJ{O:List Value}{j:Nat}(h:j<O.length):O.getD j undef∈O:=by
 rw[aF,aM h]
 exact cN h
theorem YK{A O Z:List Value}{j:Nat}(h:j<O.length):(A++(O++Z))[A.length+j]? =some (O.getD j undef):=by
 rw[uC (by omega),show A.length+j-A.length=j by omega,pO h,aF,aM h]
 rfl
theorem YL{A O Z:List Value}{j:Nat}(h:j<O.length)(v:Value):(A++(O++Z)).set (A.length+j) v=A++(O.set j v++Z):=by
 rw[aa6 _ _ (by omega),show A.length+j-A.length=j by omega,amN _ _ h]
section
variable {lf d n q:Nat} {h:H} {e:TypeId} {A O Z:List Value} {i:Nat}
def YM(q off:Nat):En->Prop:=fun x=>x.b=q∧∃j,x.k=some j∧off<=j∧j<off+6
theorem ait(hO:O.length=6)(h1:∀v∈O,one v=true)(g:h.get q=some ⟨e,true,A++(O++Z)⟩)(hq:q<n)(hi:i<6)(aA:100<=lf):
 gK (YM q A.length) (au ai gt lf (d+1) 129 #[.pointer (some ⟨q,A.length,none⟩),.int .i64 (i:Int)]) h n fun v h' n'=>v=O.getD i undef∧n'=n∧h'.get q=some ⟨e,true,A++(iF undef O i++Z)⟩∧∀b,b≠q->h'.get b=h.get b:=by
 rw[aQ (fun _=>VT) rfl]
 refine gK.aP ?_
 unfold Fw
 have ia:∀(j:Nat),j<6->∀(k:Value->M Value),gx 6 (.pointer (some ⟨q,A.length,none⟩)) (.int .i64 (j:Int)) k=k (.pointer (some ⟨q,A.length+j,none⟩)):=fun j hj k=>by
  rw[JN _ 6 q A.length .i64 (j:Int) (by omega) (by omega),mG]
 have hl:i<O.length:=by omega
 have key:∀(j fu:Nat) (h':H),j<=i->j<fu->h'.get q=some ⟨e,true,A++(uf O i j++Z)⟩->(∀b,b≠q->h'.get b=h.get b)->
  gK (YM q A.length) (wO lf (au ai gt lf d) fu (Fv lf (au ai gt lf d)) (.pointer (some ⟨q,A.length,none⟩)) (.int .i64 (i:Int)) (.int .i64 0) (O.getD i undef) (.int .i64 (j:Int))) h' n fun v h' n'=>v=O.getD i undef∧n'=n∧h'.get q=some ⟨e,true,A++(iF undef O i++Z)⟩∧∀b,b≠q->h'.get b=h.get b:=by
  intro j
  induction j with
  |zero=>
   intro fu h' hj hf g' k'
   obtain⟨fu,rfl⟩:∃f,fu=f+1:=⟨fu-1,by omega⟩
   rw[wO]
   have c0:decide ((0:Int)<((0:Nat):Int))=false:=decide_eq_false (by omega)
   try simp(disch:=first|omega|assumption|exact aa _) only[ah,ae,RZ,c0]
   (try unfold Fv);(try dsimp only)
   have i0:=ia 0 (by omega)
   simp only[mH]at i0
   try simp(disch:=first|omega|assumption|exact aa _) only[ah,ae,RZ,i0]
   have nV:=YI (j:=0) hO hi (dx _)
   refine YH trivial q A.length _ _ g' hq (by simp[nV];omega) (h1 _ (YJ hl)) ⟨rfl,_,rfl,by simp,by simp⟩ ?_
   refine aio _ ⟨rfl,rfl, ?_,fun b hb=> ?_⟩
   ·rw[get_eq]
    have:=YL (A:=A) (Z:=Z) (O:=uf O i 0) (j:=0) (by omega) (O.getD i undef)
    rw[mH]at this
    rw[this,ais hO hi]
   ·rw[aK _ _ hb];exact k' b hb
  |succ j ih=>
   intro fu h' hj hf g' k'
   obtain⟨fu,rfl⟩:∃f,fu=f+1:=⟨fu-1,by omega⟩
   rw[wO]
   have c0:decide ((0:Int)<((j+1:Nat):Int))=true:=decide_eq_true (by omega)
   have w1:IntKind.i64.wrap (((j+1:Nat):Int)-1)=(j:Int):=by rw[bB (by omega) (by omega)];omega
   try simp(disch:=first|omega|assumption|exact aa _) only[ah,ae,RZ,c0,w1,ia j (by omega)]
   have nV:=YI (j:=j+1) hO hi hj
   refine YG trivial q (A.length+j) _ g' hq (YK (by omega)) ?_
   rw[air hO hi (by omega)]
   try simp(disch:=first|omega|assumption|exact aa _) only[ah,ae,RZ,ia (j+1) (by omega)]
   refine YH trivial q (A.length+(j+1)) _ _ g' hq (by simp[nV];omega) (h1 _ (YJ (by omega))) ⟨rfl,_,rfl,by simp,by simp;omega⟩ ?_
   try simp(disch:=first|omega|assumption|exact aa _) only[ah,ae,RZ,c0,w1]
   refine ih fu _ (by omega) (by omega) ?_ fun b hb=> ?_
   ·rw[get_eq,YL (by omega),aiq hO hi (by omega)]
   ·rw[aK _ _ hb];exact k' b hb
 try simp(disch:=first|omega|assumption|exact aa _) only[ah,ae,RZ,ia i hi]
 refine YG trivial q (A.length+i) _ g hq (YK hl) ?_
 exact key i lf h (av _) (by omega) (by rw[aip hO hi];exact g) fun _ _=>rfl
end
structure Pk where
 t:Nat
 count:Nat
 ord:List Nat
 anq:List Nat
section
variable {lf d n p q lo:Nat} {h:H} {S:List UInt8} {D A:Nat} {pv:Value} {s:Pk} {BJ:Bool}
theorem aiu(z:Int):aj (fun _=>False) n (au ai gt lf (d+1) 102 #[.int .i64 z]) h n fun v' h' n'=>v'= .bool (decide (2<=z)&&decide (z<=6))∧h'=h∧n'=n:=by
 rw[aQ (fun _=>UW) rfl]
 refine aj.aP ?_
 unfold K2
 by_cases c:2<=z
 ·try simp(disch:=first|omega|assumption|exact aa _) only[ah,ae,RZ,c]
 ·try simp(disch:=first|omega|assumption|exact aa _) only[ah,ae,RZ,c]
end
section
variable {lf d n p q lo:Nat} {h:H} {S:List UInt8} {D A:Nat} {pv:Value} {s:Pk} {BJ:Bool}
def eS:List Nat:=[0,1,2,3,4,5]
theorem aiv(aA:100<=lf):aj (fun _=>False) n (au ai gt lf (d+1) 92 #[]) h n fun v' h' n'=>v'= .agg #[.int .i64 0,.int .i64 1,.int .i64 2,.int .i64 3,.int .i64 4,.int .i64 5]∧n'=n+2:=by
 rw[aQ (fun _=>Uw) rfl]
 refine aj.aP ?_
 unfold E2
 refine kU AK _ ?_
 refine kU AK _ ?_
 obtain⟨fu,bM⟩:∃f,lf=f+7:=⟨lf-7,by omega⟩
 have key:aj (fun _=>False) n (yL lf (au ai gt lf d) (fu+7) (E1 lf (au ai gt lf d)) (.pointer (some ⟨n,0,none⟩)) (.pointer (some ⟨n+1,0,none⟩)) (.int .i64 0)) ((h.set n (some ⟨132,true,[.int .i64 0,.int .i64 0,.int .i64 0,.int .i64 0,.int .i64 0,.int .i64 0]⟩)).set (n+1) (some ⟨132,true,[.int .i64 0,.int .i64 0,.int .i64 0,.int .i64 0,.int .i64 0,.int .i64 0]⟩)) (n+2) fun v' h' n'=>v'= .agg #[.int .i64 0,.int .i64 1,.int .i64 2,.int .i64 3,.int .i64 4,.int .i64 5]∧n'=n+2:=by
  iterate 7
   rw[yL]
   try simp(disch:=first|omega|assumption|exact aa _) only[ah,ae,RZ,cd,cj,cr,ct,cz,cA,cB,cC,cD,cE,Int.reduceToNat,Nat.le_add_right,ae]
  (try unfold E1);(try dsimp only)
  refine Bu trivial trivial (sz:=6) (n+1) 0 _ (get_eq _ _ _) (by omega) (by simp) ?_
  refine qj (sz:=6) trivial (e:=132) (cs:=[.int .i64 0,.int .i64 0,.int .i64 0,.int .i64 0,.int .i64 0,.int .i64 0]) (vs:=[.int .i64 0,.int .i64 1,.int .i64 2,.int .i64 3,.int .i64 4,.int .i64 5]) rfl rfl rfl ?_ (by omega) (av _) (.inl (av _)) _ fun h2 hg k2=> ?_
  ·try simp(disch:=first|omega|assumption|exact aa _) only[ah,ae,RZ,cd,cj,cr,ct,cz,cA,cB,cC,cD,cE]
  refine Bv trivial trivial (sz:=6) _ _ _ hg (by omega) (by simp) ?_
  try simp(disch:=first|omega|assumption|exact aa _) only[ah,ae,RZ,cd,cj,cr,ct,cz,cA,cB,cC,cD,cE]
  all_goals (first|rfl|exact⟨rfl,rfl,rfl⟩|exact⟨rfl,rfl⟩)
 rw[<-bM]at key
 exact key
theorem aiw{α:Type}{dv:α}{O:List α}(hO:O.length=6){i:Nat}(hi:i<6):(iF dv O i).length=6:=by
 unfold iF
 simp
 omega
theorem aix(O:List Nat)(hO:O.length=6){i:Nat}(hi:i<6):iF undef (aJ .i64 (iN O)) i=aJ .i64 (iN (iF 0 O i)):=by
 obtain⟨a,b,c,d,e,f,rfl⟩:=xi hO
 rcases i with _|_|_|_|_|_|i<;>first|rfl|omega
end
structure Cd where
 size:Nat
 pk:Pk
 now:Nat
 lens:List Nat
 anr:List (List Nat)
 ans:List Nat
 count:Nat
 done:Bool
 BJ:Int
structure Cm where
 q:Nat
 pv:Value
 tv:Value
 r:Nat
 lv:Value
 cv:Value
 pw:Bool
 dw:Bool
 iv:List (Nat×Nat×Nat)
section
variable {h:H} {n z p:Nat} {c:Cd} {m:Cm}
end
section
variable {lf d n z p:Nat} {h:H} {S:List UInt8} {D A:Nat} {c:Cd} {m:Cm}
end
section
variable {lf d n z p:Nat} {h:H} {S:List UInt8} {D A:Nat} {c:Cd} {m:Cm}
end
section
variable {lf d n z p:Nat} {h:H} {S:List UInt8} {D A:Nat} {c:Cd} {m:Cm}
end
theorem aiy{j:Nat}(h:j<6):eS.getD j 0=j:=by
 rcases j with _|_|_|_|_|_|j<;>first|rfl|omega
section
variable {lf d n z p:Nat} {h:H} {S:List UInt8} {D A:Nat} {c:Cd} {m:Cm}
end
section
variable {lf d n z p:Nat} {h:H} {S:List UInt8} {D A:Nat} {c:Cd} {m:Cm}
end
def ch(b:Bool):UInt8:=if b=true then 49 else 48
def gY(l:List Bool):List UInt8:=l.map ch
def tx(l:List Bool):Value:= .string ⟨(gY l).toArray⟩
theorem xj(l:List Bool):(gY l).length=l.length:=by unfold gY;simp
theorem aiz(a b:List Bool):gY (a++b)=gY a++gY b:=by unfold gY;simp
theorem YN(l:List Bool)(k:Nat):(gY l).take k=gY (l.take k):=by unfold gY;rw[aa']
theorem YO(l:List Bool)(k:Nat):(gY l).drop k=gY (l.drop k):=by unfold gY;rw[OE]
theorem aiA{l:List Bool}{i:Nat}(h:i<l.length):(gY l).getD i 0=ch l[i]:=by
 unfold gY
 rw[aF,j4,aM h]
 rfl
theorem aiB{a b:Bool}(h:ch a=ch b):a=b:=by
 cases a<;>cases b<;>first|rfl|exact absurd h (by decide)
theorem YP:∀{a b:List Bool},gY a=gY b->a=b
 |[],[],_=>rfl
 |[],b::m,h=>by simp[gY]at h
 |a::l,[],h=>by simp[gY]at h
 |a::l,b::m,h=>by
  unfold gY at h
  simp only[mF,anR]at h
  rw[aiB h.1,YP (a:=l) (b:=m) h.2]
theorem aiC(b:Bool):((ch b).toNat:Int)=48+(bn b:Int):=by cases b<;>rfl
theorem YQ:ef {data:=#[]}=tx []:=rfl
theorem rT:ef {data:=#[48]}=tx [false]:=rfl
theorem Gq:ef {data:=#[49]}=tx [true]:=rfl
theorem aiD:ef {data:=#[48,49]}=tx [false,true]:=rfl
theorem YR(l:List Bool):one (tx l)=true:=rfl
theorem qy(l:List Bool)(k:Value->M Value):lA (tx l) k=k (.int .i64 (l.length:Int)):=by
 unfold tx
 rw[DQ,xj]
theorem lJ(a b:List Bool)(h:a.length+b.length<=1000000000)(k:Value->M Value):aC (tx a) (tx b) k=k (tx (a++b)):=by
 unfold tx
 rw[yz _ _ _ (by rw[xj,xj];omega),aiz]
theorem YS(a b:List Bool)(k:Value->M Value):bJ (tx a) (tx b) k=k (.bool (decide (a=b))):=by
 unfold tx
 rw[JK]
 by_cases e:a=b
 ·rw[decide_eq_true e,decide_eq_true (by rw[e])]
 ·rw[decide_eq_false e,decide_eq_false fun q=>e (YP q)]
theorem YT(l:List Bool)(k:IntKind)(i:Int)(h0:0<=i)(h1:i<l.length)(q:Value->M Value):pf (tx l) (.int k i) q=q (.int .u8 (48+(bn (l.getD i.toNat false):Int))):=by
 unfold tx
 rw[DR _ _ _ _ h0 (by rw[xj];exact h1),aiA (by omega),aiC,aF,aM (by omega)]
 rfl
theorem YU(l:List Bool)(kd:IntKind)(j:Int)(k:Value->M Value)(h0:0<=j)(h1:j<=l.length):kx (tx l) none (some (.int kd j)) k=k (tx (l.take j.toNat)):=by
 unfold tx
 rw[DT _ _ _ _ h0 (by rw[xj];exact h1),YN]
theorem aiE(l:List Bool)(kd:IntKind)(j:Int)(k:Value->M Value)(h0:0<=j)(h1:j<=l.length):kx (tx l) (some (.int kd j)) none k=k (tx (l.drop j.toNat)):=by
 unfold tx
 rw[DU _ _ _ _ h0 (by rw[xj];exact h1),YO]
theorem aiF(l:List Bool)(kd oh:IntKind)(i j:Int)(k:Value->M Value)(h0:0<=i)(h1:i<=j)(h2:j<=l.length):kx (tx l) (some (.int kd i)) (some (.int oh j)) k=k (tx ((l.drop i.toNat).take (j.toNat-i.toNat))):=by
 unfold tx
 rw[DV _ _ _ _ _ _ h0 h1 (by rw[xj];exact h2),YO,YN]
section
variable {lf d n:Nat} {h:H}
theorem Gr(v k:Nat)(hv:v<4294967296)(hk:k<=64)(aA:100<=lf):aj (fun _=>False) n (au ai gt lf (d+1) 19 #[.int .u32 (v:Int),.int .i64 (k:Int)]) h n fun v' h' n'=>v'=tx (bY v k)∧h'=h∧n'=n:=by
 rw[aQ (fun _=>aeP) rfl]
 refine aj.aP ?_
 unfold Kc
 refine ed k (fun fu i (s:Nat×List Bool)=>vN lf (au ai gt lf d) fu (Er lf (au ai gt lf d)) (.int .u32 (s.1:Int)) (.int .i64 (k:Int)) (.string {data:=#[]}) (tx s.2) (.int .i64 (k:Int)) (.int .i64 (i:Nat))) (fun i s h' n'=>(h'=h∧n'=n)∧s.1<4294967296∧s.2.length=i∧bY v k=bY s.1 (k-i)++s.2) ?_ ?_ lf 0 (v,[]) h n (dx _) (by omega) ⟨⟨rfl,rfl⟩,hv,rfl,by simp⟩
 ·rintro fu ⟨w,t⟩ h' n' ⟨⟨rfl,rfl⟩,_,_,e⟩
  rw[vN]
  try simp(disch:=first|omega|assumption|exact aa _) only[ah,ae,RZ,bH]
  (try unfold Er);(try dsimp only)
  try simp(disch:=first|omega|assumption|exact aa _) only[ah,ae,RZ]
  rw[e,nE]
  rfl
 ·rintro fu i ⟨w,t⟩ h' n' hi ⟨⟨rfl,rfl⟩,hw,ht,e⟩ next
  rw[vN]
  have hw:w<4294967296:=hw
  have ht:t.length=i:=ht
  have c1:((i:Nat):Int)<((k:Nat):Int):=by omega
  have e1:((w:Nat):Int).tmod 2=((w %2:Nat):Int):=rfl
  have e2:((w:Nat):Int).tdiv 2=((w/2:Nat):Int):=rfl
  have w1:IntKind.u32.wrap ((w %2:Nat):Int)=((w %2:Nat):Int):=mw (by omega)
  have w2:IntKind.u32.wrap ((w/2:Nat):Int)=((w/2:Nat):Int):=mw (by omega)
  have w3:IntKind.u32.wrap (((w %2:Nat):Int)+1)=((w %2+1:Nat):Int):=(mw (x:=w %2+1) (by omega))
  have l1:((([48,49]:List UInt8).drop (w %2)).take (w %2+1-w %2))=[ch (decide (w %2=1))]:=by
   rcases amP w with q|q<;>rw[q]<;>rfl
  have l2:(([48,49]:List UInt8).length)=2:=rfl
  have l3:([ch (decide (w %2=1))]++gY t).length=t.length+1:=by simp[gY]
  have l1:((([false,true]:List Bool).drop (w %2)).take (w %2+1-w %2))=[decide (w %2=1)]:=by
   rcases amP w with q|q<;>rw[q]<;>rfl
  have l4:[decide (w %2=1)].length+t.length<=1000000000:=by simp;omega
  have s1:=fun(kk:Value->M Value)=>aiF [false,true] .u32 .u32 ((w %2:Nat):Int) ((w %2+1:Nat):Int) kk (by omega) (by omega) (by show _<=(2:Int);omega)
  try simp(disch:=first|omega|assumption|exact aa _) only[ah,ae,RZ,c1,e1,e2,w1,w2,w3,aiD,s1,l1,lJ _ _ l4]
  refine next (w/2,decide (w %2=1)::t) _ _ ⟨⟨rfl,rfl⟩,by show w/2<_;omega,by show t.length+1=_;omega, ?_⟩
  rw[e]
  obtain⟨r,hr⟩:∃r,k-i=r+1:=⟨k-i-1,by omega⟩
  rw[hr,show k-(i+1)=r by omega]
  show(bY (w/2) r++[decide (w %2=1)])++t=bY (w/2) r++(decide (w %2=1)::t)
  simp
theorem aiG(l:List Bool)(hl:l.length<=31)(aA:100<=lf):aj (fun _=>False) n (au ai gt lf (d+1) 86 #[tx l]) h n fun v' h' n'=>v'= .int .u32 (num l 0:Int)∧h'=h∧n'=n:=by
 rw[aQ (fun _=>afT) rfl]
 refine aj.aP ?_
 unfold KW
 refine ed l.length (fun fu i (_:Unit)=>wz lf (au ai gt lf d) fu (E0 lf (au ai gt lf d)) (tx l) (.int .u32 0) (.int .u32 (num (l.take i) 0:Int)) (.int .i64 (i:Nat))) (fun i _ h' n'=>h'=h∧n'=n) ?_ ?_ lf 0 () h n (dx _) (by omega) ⟨rfl,rfl⟩
 ·rintro fu _ h' n' ⟨rfl,rfl⟩
  rw[wz]
  try simp(disch:=first|omega|assumption|exact aa _) only[ah,ae,RZ,qy,bH]
  (try unfold E0);(try dsimp only)
  try simp(disch:=first|omega|assumption|exact aa _) only[ah,ae,RZ]
  rw[j7]
 ·rintro fu i _ h' n' hi ⟨rfl,rfl⟩ next
  rw[wz]
  have c1:((i:Nat):Int)<((l.length:Nat):Int):=by omega
  obtain⟨b,hb⟩:∃b,l.getD i false=b:=⟨_,rfl⟩
  have bl:=xe b
  have nl:=y6 (l.take i)
  have n2:num (l.take i) 0<2147483648:=qJ nl (by
   have:2^(l.take i).length<=2^31:=sw (by decide) (by rw[cJ];omega)
   exact this)
  have w0:IntKind.u8.wrap (48+(bn b:Int)-48)=(bn b:Int):=by
   rw[show(48+(bn b:Int)-48)=(bn b:Int) by omega];exact w8 (by omega)
  have w1:IntKind.u32.wrap ((bn b:Nat):Int)=(bn b:Int):=mw (by omega)
  have w2:IntKind.u32.wrap (2*((num (l.take i) 0:Nat):Int))=((2*num (l.take i) 0:Nat):Int):=by
   rw[show(2*((num (l.take i) 0:Nat):Int))=((2*num (l.take i) 0:Nat):Int) by omega];exact mw (by omega)
  have w3:IntKind.u32.wrap (((2*num (l.take i) 0:Nat):Int)+(bn b:Int))=((2*num (l.take i) 0+bn b:Nat):Int):=by
   rw[show(((2*num (l.take i) 0:Nat):Int)+(bn b:Int))=((2*num (l.take i) 0+bn b:Nat):Int) by omega];exact mw (by omega)
  try simp(disch:=first|omega|assumption|exact aa _) only[ah,ae,RZ,qy,YT,c1,hb,w0,w1,w2,w3]
  have e:num (l.take (i+1)) 0=2*num (l.take i) 0+bn b:=by
   rw[jI hi,ahR]
   have:l[i]=b:=by rw[<-hb,aF,aM hi];rfl
   rw[this]
  have:=next () h' n' ⟨rfl,rfl⟩
  rw[e]at this
  exact this
end
section
variable {β:Type} {W:Nat->Prop} {n0:Nat} {h:H} {n:Nat} {Q:β->H->Nat->Prop}
theorem xm {T:Prop} (_:T) {sz:Nat} {b:Nat} {e:TypeId} {cs vs:List Value} (hl:vs.length=sz) (hc:cs.length=sz) (h1:vs.all one=true) (g:h.get b=some ⟨e,true,cs⟩) (hb:b<n) (hw:n0<=b∨W b) (k:Value->M β)
 (x:∀h',h'.get b=some ⟨e,true,vs⟩->(∀c,c≠b->h'.get c=h.get c)->aj W n0 (k undef) h' n Q):aj W n0 (fb sz (.pointer (some ⟨b,0,none⟩)) (.agg vs.toArray) k) h n Q:=by
 refine qj trivial (vs:=vs) rfl hl h1 g hb (by omega) hw k fun h' g' k'=>x h' ?_ k'
 rw[g',qL,List.nil_append,List.drop_eq_nil_of_le (by omega),dr]
end
def oT(o:List Nat):Value:= .string ⟨(o.map fun x=>nB (48+x)).toArray⟩
theorem YV:ef {data:=#[48,49,50,51,52,53]}=oT eS:=rfl
theorem MK(o:List Nat)(h6:∀x∈o,x<6)(i:Nat)(h1:i<o.length)(k:Value->M Value):pf (oT o) (.int .i64 (i:Int)) k=k (.int .u8 ((48+o.getD i 0:Nat):Int)):=by
 unfold oT
 rw[DR _ _ _ _ (by omega) (by rw[dE];omega),mG,aF,j4,aM h1,aF,aM h1]
 have:=h6 _ (cN h1)
 show k (gZ .u8 ((nB (48+o[i])).toNat:Int))=k (gZ .u8 ((48+o[i]:Nat):Int))
 rw[UInt8.toNat_ofNat',Ot (by omega)]
section
variable {lf d n:Nat} {h:H}
theorem aiH(o:List Nat)(i:Nat)(hi:i<o.length)(hl:o.length<=100):aj (fun _=>False) n (au ai gt lf (d+1) 84 #[oT o,.int .i64 (i:Int)]) h n fun v' h' n'=>v'=oT (iF 0 o i)∧h'=h∧n'=n:=by
 rw[aQ (fun _=>afP) rfl]
 refine aj.aP ?_
 unfold Um
 obtain⟨l,fN⟩:∃l,(o.map fun x=>nB (48+x))=l:=⟨_,rfl⟩
 have iB:l.length=o.length:=by rw[<-fN,dE]
 have e1:(i:Int)+1=((i+1:Nat):Int):=by omega
 have w1:IntKind.i64.wrap ((i:Int)+1)=((i+1:Nat):Int):=by rw[bB (by omega) (by omega)];omega
 have s1:=fun(k:Value->M Value)=>DV k l .i64 .i64 (i:Int) ((i+1:Nat):Int) (by omega) (by omega) (by omega)
 have s2:=fun(k:Value->M Value)=>DT k l .i64 (i:Int) (by omega) (by omega)
 have s3:=fun(k:Value->M Value)=>DU k l .i64 ((i+1:Nat):Int) (by omega) (by omega)
 have l1:((l.drop i).take (i+1-i)).length=1:=by rw[cJ,kG];omega
 have l2:(l.take i).length=i:=by rw[cJ];omega
 have l3:(l.drop (i+1)).length<=o.length:=by rw[kG];omega
 have b1:=fun(k:Value->M Value)=>yz k ((l.drop i).take (i+1-i)) (l.take i) (by omega)
 have b2:=fun(k:Value->M Value)=>yz k ((l.drop i).take (i+1-i)++l.take i) (l.drop (i+1)) (by rw[aY];omega)
 unfold oT
 rw[fN]
 try simp(disch:=first|omega|assumption|exact aa _) only[ah,ae,RZ,w1,s1,s2,s3,b1,b2]
 unfold iF
 have e2:(l.drop i).take (i+1-i)=[nB (48+o.getD i 0)]:=by
  rw[show i+1-i=1 by omega,<-fN,<-OE,Ho hi,aF,aM hi]
  rfl
 rw[e2,<-fN]
 simp[aa',OE]
end
section
variable {lf d n:Nat} {h:H}
end
end Go.Proofs.YtdagfcflbphoiaaGreatDoor
namespace Go.Proofs.YtdagfcflbphoiaaGreatDoor.Tb
def gD(x:Int):Int:=if 1099511627776<x then 1099511627776 else x
theorem ML{a y:Int}(hy:0<=y):gD (gD a+y)=gD (a+y):=by
 unfold gD
 repeat' split
 all_goals omega
theorem MM(x:Int):gD x<=1099511627776:=by unfold gD;split<;>omega
theorem MN{x:Int}(h:0<=x):0<=gD x:=by unfold gD;split<;>omega
theorem MO{x:Int}(h:x<=1099511627776):gD x=x:=by unfold gD;rw[if_neg (by omega)]
def bp:List Int->Int
 |[]=>0
 |x::l=>x+bp l
theorem ot:∀a b:List Int,bp (a++b)=bp a+bp b
 |[],b=>by simp[bp]
 |x::a,b=>by simp only[amh,bp,ot a b];omega
theorem Gs:∀{l:List Int},(∀x∈l,0<=x)->0<=bp l
 |[],_=>aa7 0
 |x::l,h=>by
  have:=Gs (l:=l) fun y hy=>h y (oK _ hy)
  have:=h x uE
  simp only[bp];omega
theorem yR(B:Int):∀{l:List Int},(∀x∈l,x<=B)->bp l<=l.length*B
 |[],_=>by simp[bp]
 |x::l,h=>by
  have:=yR B (l:=l) fun y hy=>h y (oK _ hy)
  have:=h x uE
  simp only[bp,dI,amQ,abc]
  omega
theorem aiI{l:List Int}{i:Nat}(h:i<l.length):bp (l.take (i+1))=bp (l.take i)+l.getD i 0:=by
 rw[jI h,ot,aF,aM h]
 simp[bp]
def look(ls:List Int)(x:Int):Int:=ls.getD x.toNat 0
def nk(l ls:List Int):Int:=bp (l.map (look ls))
def gE(l ls:List Int):Int:=gD (nk l ls)
theorem MP{ls:List Int}(h:∀x∈ls,0<=x)(x:Int):0<=look ls x:=by
 unfold look
 rw[aF]
 by_cases hx:x.toNat<ls.length
 ·rw[aM hx];exact h _ (cN hx)
 ·rw[qI (by omega)];exact aa7 0
theorem aiJ{l ls:List Int}(h:∀x∈ls,0<=x):0<=nk l ls:=Gs fun x hx=>by
 obtain⟨y,_,rfl⟩:=List.mem_map.1 hx
 exact MP h y
theorem MQ{l ls:List Int}(h:∀x∈ls,0<=x):0<=gE l ls:=MN (aiJ h)
theorem Gt(l ls:List Int):gE l ls<=1099511627776:=MM _
theorem aiK{l ls:List Int}{i:Nat}(h:i<l.length):nk (l.take (i+1)) ls=nk (l.take i) ls+look ls (l.getD i 0):=by
 unfold nk
 rw[jI h,eK,ot,aF,aM h]
 simp[bp]
theorem aiL{l ls:List Int}(hp:∀x∈ls,0<=x){i:Nat}(h:i<l.length):gD (gE (l.take i) ls+look ls (l.getD i 0))=gE (l.take (i+1)) ls:=by
 unfold gE
 rw[ML (MP hp _),aiK h]
def eG(l:List Int)(v:Nat):Nat:=l.countP fun x=>x==(v:Int)
def cU(l:List Int)(size:Nat):List Int:=(bL size).map fun v=>(eG l v:Int)
theorem jc(l:List Int)(size:Nat):(cU l size).length=size:=by unfold cU;simp
theorem MR{l:List Int}{size v:Nat}(h:v<size):(cU l size).getD v 0=(eG l v:Int):=by
 unfold cU
 rw[aF,j4,Hs h]
 rfl
theorem zc(l:List Int)(v:Nat):eG l v<=l.length:=amO
theorem YW(a b:List Int)(v:Nat):eG (a++b) v=eG a v+eG b v:=amC
theorem YX{l:List Int}{i:Nat}(h:i<l.length)(v:Nat):eG (l.take (i+1)) v=eG (l.take i) v+(if l.getD i 0=(v:Int)then 1 else 0):=by
 rw[jI h,YW,aF,aM h]
 unfold eG
 simp only[Hy,amD,zH,beq_iff_eq,iO]
theorem Gu{l:List Int}{size:Nat}{x:Int}(h:x∈cU l size):0<=x∧x<=l.length:=by
 unfold cU at h
 obtain⟨v,_,rfl⟩:=List.mem_map.1 h
 have:=zc l v
 omega
theorem YY(size:Nat):cU [] size=bI size 0:=by
 apply mI
 ·simp[jc]
 ·intro i h1 h2
  simp[cU,eG]
theorem aiM{l:List Int}{size i v:Nat}(h:i<l.length)(hv:l.getD i 0=(v:Int))(hs:v<size):(cU (l.take i) size).set v ((eG (l.take i) v:Int)+1)=cU (l.take (i+1)) size:=by
 apply mI
 ·simp[jc]
 ·intro j h1 h2
  have e:∀(m:List Int) (h:j<(cU m size).length),(cU m size)[j]=(eG m j:Int):=fun m h=>by simp[cU]
  rw[aa_,e,e,YX h,hv]
  by_cases c:v=j
  ·subst c;simp
  ·rw[if_neg c,if_neg (by omega)];simp
theorem YZ(f:Nat->Int)(x:Nat):∀n:Nat,bp ((bL n).map fun v=>if x=v then f v else 0)=if x<n then f x else 0
 |0=>by simp[bp]
 |n+1=>by
  rw[pQ,eK,ot,YZ f x n]
  simp only[mF,List.map_nil,bp]
  by_cases h:x=n
  ·subst h;rw[if_neg (by omega),if_pos rfl,if_pos (by omega)];omega
  ·rw[if_neg h]
   by_cases h2:x<n
   ·rw[if_pos h2,if_pos (by omega)];omega
   ·rw[if_neg h2,if_neg (by omega)];omega
theorem sum_add(f g:Nat->Int):∀l:List Nat,bp (l.map fun v=>f v+g v)=bp (l.map f)+bp (l.map g)
 |[]=>rfl
 |x::l=>by simp only[mF,bp,sum_add f g l];omega
theorem Y0{ls:List Int}:∀{l:List Int},(∀x∈l,0<=x∧x<ls.length)->bp ((bL ls.length).map fun v=>(eG l v:Int)*ls.getD v 0)=nk l ls
 |[],_=>by
  have:∀m:List Nat,bp (m.map fun v=>(eG [] v:Int)*ls.getD v 0)=0:=by
   intro m
   induction m with
   |nil=>rfl
   |cons a m ih=>simp only[mF,bp,ih];simp[eG]
  rw[this]
  rfl
 |x::l,h=>by
  have hx:=h x uE
  have ih:=Y0 (l:=l) fun y hy=>h y (oK _ hy)
  have e:(fun v:Nat=>(eG (x::l) v:Int)*ls.getD v 0)=fun v=>(eG l v:Int)*ls.getD v 0+(if x.toNat=v then ls.getD v 0 else 0):=by
   funext v
   unfold eG
   rw[Hy]
   by_cases c:x.toNat=v
   ·have:(x==(v:Int))=true:=by rw[beq_iff_eq];omega
    rw[if_pos c,this,if_pos rfl]
    simp only[amQ,abc,Int.natCast_one,aa8]
   ·have:(x==(v:Int))=false:=by rw[beq_eq_false_iff_ne];omega
    rw[if_neg c,this]
    simp
  rw[e,sum_add,ih,YZ (fun v=>ls.getD v 0),if_pos (by omega)]
  unfold nk
  simp only[mF,bp,look]
  omega
def qz(l ls:List Int)(i:Nat):Int:=bp ((bL i).map fun v=>(eG l v:Int)*ls.getD v 0)
theorem aiN(l ls:List Int)(i:Nat):qz l ls (i+1)=qz l ls i+(eG l i:Int)*ls.getD i 0:=by
 unfold qz
 rw[pQ,eK,ot]
 simp[bp]
theorem Y3{ls:List Int}(h:∀x∈ls,0<=x)(i:Nat):0<=ls.getD i 0:=by
 have:=MP h (i:Int)
 simpa[look]using this
def cW(n:Nat):Nat:=(n+49)/50
def eB(l:List Int)(i:Nat):List Int:=(l.drop (50*i)).take 50
def iG(l:List Int):List (List Int):=(bL (cW l.length)).map (eB l)
theorem MS(l:List Int):(iG l).length=cW l.length:=by unfold iG;simp
theorem Y4{l:List Int}{i:Nat}{x:Int}(h:x∈eB l i):x∈l:=List.mem_of_mem_drop (nC h)
theorem BK(l:List Int)(i:Nat):(eB l i).length=min 50 (l.length-50*i):=by unfold eB;simp
theorem Y5{l:List Int}{i:Nat}(h:i<cW l.length):0<(eB l i).length:=by rw[BK];unfold cW at h;omega
theorem aiO{l g:List Int}(h:g∈iG l):(∀x∈g,x∈l)∧0<g.length∧g.length<=50:=by
 unfold iG at h
 obtain⟨i,hi,rfl⟩:=List.mem_map.1 h
 have:=Y5 (List.mem_range.1 hi)
 exact⟨fun x hx=>Y4 hx,this,by rw[BK];omega⟩
def my(g:List Int):List (List Int)->Nat->Nat->Int->Nat
 |[],_,b,_=>b
 |t::T,p,b,m=>if gE g t<m then my g T (p+1) p (gE g t)else my g T (p+1) b m
def jD(g:List Int)(T:List (List Int)):Nat:=my g T 0 0 1099511627776
theorem aiP(g t:List Int)(T:List (List Int)):jD g (t::T)=my g T 1 0 (gE g t):=by
 unfold jD
 simp only[my]
 have:=Gt g t
 split
 ·rfl
 ·rw[show(1099511627776:Int)=gE g t by omega]
theorem MT(g:List Int)(N:Nat):∀(T:List (List Int)) (p b:Nat) (m:Int),p+T.length<=N->b<N->my g T p b m<N
 |[],_,_,_,_,hb=>hb
 |t::T,p,b,m,h,hb=>by
  simp only[dI]at h
  simp only[my]
  split
  ·exact MT g N T (p+1) p _ (by omega) (by omega)
  ·exact MT g N T (p+1) b _ (by omega) hb
theorem Y6(g:List Int){T:List (List Int)}(h:0<T.length):jD g T<T.length:=MT g T.length T 0 0 _ (by omega) h
def fA(gs T:List (List Int)):List Nat:=gs.map fun g=>jD g T
def jd(p:Nat):List (List Int)->List Nat->List Int
 |g::gs,q::qs=>(if q=p then g else [])++jd p gs qs
 |_,_=>[]
theorem MU(p:Nat):∀(gs:List (List Int)) (qs:List Nat) (g:List Int) (q:Nat),gs.length=qs.length->jd p (gs++[g]) (qs++[q])=jd p gs qs++(if q=p then g else [])
 |[],[],g,q,_=>by simp[jd]
 |[],_::_,_,_,h=>by simp at h
 |_::_,[],_,_,h=>by simp at h
 |a::gs,b::qs,g,q,h=>by
  simp only[amh,jd,cI]
  rw[MU p gs qs g q (by simpa using h)]
theorem BL(p:Nat):∀(gs:List (List Int)) (qs:List Nat),(∀g∈gs,g.length<=50)->(jd p gs qs).length<=50*gs.length
 |[],_,_=>by simp[jd]
 |_::_,[],_=>by simp[jd]
 |a::gs,b::qs,h=>by
  have:=BL p gs qs fun g hg=>h g (oK _ hg)
  have:=h a uE
  simp only[jd,aY,dI]
  split<;>simp<;>omega
def pC(gs T:List (List Int))(size p:Nat):List Int:=cU (jd p gs (fA gs T)) size
def np(a b:List Int):List Int:=(bL a.length).map fun i=>gD (a.getD i 0+b.getD i 0)
theorem aiQ(a b:List Int)(size:Nat)(h:a.length+b.length<=1099511627776):np (cU a size) (cU b size)=cU (a++b) size:=by
 apply mI
 ·simp[np,jc]
 ·intro i h1 h2
  have hs:i<size:=by rw[jc]at h2;exact h2
  have:(np (cU a size) (cU b size))[i]=gD ((cU a size).getD i 0+(cU b size).getD i 0):=by simp[np]
  rw[this,MR hs,MR hs,show(cU (a++b) size)[i]=((eG (a++b) i:Nat):Int) by simp[cU],YW]
  have h3:=zc a i
  have h4:=zc b i
  rw[MO (by omega)]
  omega
def j1(n:Int):Nat:=if n<200 then 2 else if n<600 then 3 else if n<1200 then 4 else if n<2400 then 5 else 6
theorem BM(n:Int):2<=j1 n∧j1 n<=6:=by unfold j1;repeat' split
                                      all_goals omega
def eD(counts:List Int)(n:Int)(v:Nat):Int:=if n-1<bp (counts.take v)then n-1 else bp (counts.take v)
theorem Y7{counts:List Int}(h0:∀x∈counts,0<=x){n:Int}{v:Nat}(h:v<counts.length):(if n-1<eD counts n v+counts.getD v 0 then n-1 else eD counts n v+counts.getD v 0)=eD counts n (v+1):=by
 have:=Y3 h0 v
 unfold eD
 rw[aiI h]
 repeat' split
 all_goals omega
theorem MV{counts:List Int}(h0:∀x∈counts,0<=x){n:Int}(hn:1<=n)(v:Nat):0<=eD counts n v∧eD counts n v<=n-1:=by
 have:=Gs (l:=counts.take v) fun x hx=>h0 x (nC hx)
 unfold eD
 split<;>omega
def fB(counts:List Int)(n:Int)(v:Nat):Nat:=(eD counts n v*(j1 n:Int)/n).toNat
theorem Y8{counts:List Int}(h0:∀x∈counts,0<=x){n:Int}(hn:1<=n)(v:Nat):(eD counts n v*(j1 n:Int)).tdiv n=(fB counts n v:Int):=by
 have h1:=(MV h0 hn v).1
 have h2:0<=eD counts n v*(j1 n:Int):=Int.mul_nonneg h1 (by omega)
 rw[amM h2]
 unfold fB
 have:=Int.ediv_nonneg h2 (show 0<=n by omega)
 omega
def lg(counts:List Int)(n:Int)(p:Nat):List Int:=(bL counts.length).map fun v=>if fB counts n v=p then 0 else 15
def lK(counts:List Int)(n:Int):List (List Int):=(bL (j1 n)).map (lg counts n)
theorem MW(counts:List Int)(n:Int):(lK counts n).length=j1 n:=by unfold lK;simp
theorem zd(counts:List Int)(n:Int)(p:Nat):(lg counts n p).length=counts.length:=by unfold lg;simp
theorem aiR{counts:List Int}{n:Int}{p:Nat}{x:Int}(h:x∈lg counts n p):0<=x∧x<=15:=by
 unfold lg at h
 obtain⟨v,_,rfl⟩:=List.mem_map.1 h
 split<;>omega
end Go.Proofs.YtdagfcflbphoiaaGreatDoor.Tb
namespace Go.Proofs.YtdagfcflbphoiaaGreatDoor
open Go.RowKit Ev Tb
theorem Y9{α:Type}(d:α)(p:α->Bool){xs:List α}{i:Nat}(h:i<xs.length):(xs.take (i+1)).all p=((xs.take i).all p&&p (xs.getD i d)):=by
 rw[jI h,List.all_append,aF,aM h]
 simp
theorem MX{α:Type}(d:α)(p:α->Bool){xs:List α}{i:Nat}(h:i<xs.length)(hp:p (xs.getD i d)=false):xs.all p=false:=by
 rw[aF,aM h]at hp
 exact List.all_eq_false.2 ⟨_,cN h,by simpa using hp⟩
def dM(k:Int)(xs:List Int):Bool:=xs.all fun x=>decide (0<=x)&&decide (x<k)
theorem xo{k:Int}{xs:List Int}:dM k xs=true↔∀x∈xs,0<=x∧x<k:=by unfold dM;simp
theorem ze{xs:List Int}{i:Nat}(h:i<xs.length):xs.getD i 0∈xs:=by
 rw[aF,aM h]
 exact cN h
theorem MY{k:Int}{xs:List Int}{i:Nat}(h:i<xs.length)(h1:xs.getD i 0<0):dM k xs=false:=
 MX 0 _ h (by show(decide (0<=xs.getD i 0)&&decide (xs.getD i 0<k))=false;rw[decide_eq_false (Int.not_le.2 h1)];rfl)
theorem MZ{k:Int}{xs:List Int}{i:Nat}(h:i<xs.length)(h1:k<=xs.getD i 0):dM k xs=false:=
 MX 0 _ h (by show(decide (0<=xs.getD i 0)&&decide (xs.getD i 0<k))=false;rw[decide_eq_false (Int.not_lt.2 h1),Bool.and_false])
theorem M0{k x:Int}{xs:List Int}{i:Nat}(h:i<xs.length)(ha:dM k (xs.take i)=true)(hx:xs.getD i 0=x)(h0:0<=x)(h1:x<k):dM k (xs.take (i+1))=true:=by
 unfold dM at ha⊢
 rw[Y9 0 _ h,ha,hx,decide_eq_true h0,decide_eq_true h1]
 rfl
theorem BN{i N:Nat}(h:i<N)(hN:N<=9223372036854775807):IntKind.i64.wrap ((i:Int)+1)=((i+1:Nat):Int):=by rw[bB (by omega) (by omega)];rfl
section
variable (lf d n:Nat) (h:H)
theorem aiS(x:Int):aj (fun _=>False) n (au ai gt lf (d+1) 132 #[.int .i64 x]) h n fun v' h' n'=>v'= .bool (decide (0<=x)&&decide (x<=1099511627776))∧h'=h∧n'=n:=by
 rw[aQ (fun _=>VW) rfl]
 refine aj.aP ?_
 unfold Lr
 by_cases c:0<=x
 ·try simp(disch:=first|omega|assumption|exact aa _) only[ah,ae,RZ,c]
 ·try simp(disch:=first|omega|assumption|exact aa _) only[ah,ae,RZ,c]
theorem aiT(x:Int):aj (fun _=>False) n (au ai gt lf (d+2) 131 #[.int .i64 x]) h n fun v' h' n'=>v'= .bool (!(decide (0<=x)&&decide (x<=1099511627776)))∧h'=h∧n'=n:=by
 rw[aQ (fun _=>VV) rfl]
 refine aj.aP ?_
 unfold Lq
 refine bV (aiS lf d n h x) (av _) (fun _ _ h=>h.elim) ?_
 try simp(disch:=first|omega|assumption|exact aa _) only[ah,ae,RZ]
theorem aiU{β:Type}{rec:FuncId->Array Value->M Value}(a:Value)(k:Value->M β):fO ai rec (.func (.func 131) #[] #[]) [a] k=az rec 131 [a] k:=by
 unfold fO
 show aS (some _) _=_
 rw[vz]
 simp only[show mL ai 131=true by kernel_rfl]
 exact(pc _ _).symm
variable (aA:3000000<=lf)
include aA
theorem M1(v:Value)(xs:List Int)(hR:Row h n 3 .i64 v xs)(hl:xs.length<=1000000):
 aj (fun _=>False) n (au ai gt lf (d+5) 111 #[v]) h n fun v' h' n'=>v'= .bool (dD 0 1099511627776 xs)∧h'=h∧n'=n:=by
 have s1:aj (fun _=>False) n (au ai gt lf (d+3) 128 #[v,.func (.func 131) #[] #[]]) h n fun v' h' n'=>(∃r:Int,v'= .int .i64 r∧decide (0<=r)= !dD 0 1099511627776 xs)∧h'=h∧n'=n:=by
  rw[aQ (fun _=>Fu) rfl]
  refine aj.aP ?_
  unfold yO
  have bg:=hR
  obtain⟨a,c,rfl⟩:=hR.len
  try simp(disch:=first|omega|assumption|exact aa _) only[ah,ae,RZ]
  refine ed xs.length (fun fu i (_:Unit)=>m7 lf (au ai gt lf (d+2)) fu (pq lf (au ai gt lf (d+2))) (.slice a xs.length c) (.func (.func 131) #[] #[]) _ (.int .i64 (xs.length:Nat)) (.int .i64 (i:Nat))) (fun i _ h' n'=>(h'=h∧n'=n)∧dD 0 1099511627776 (xs.take i)=true) ?_ ?_ lf 0 () h n (dx _) (by omega) ⟨⟨rfl,rfl⟩,rfl⟩
  ·rintro fu _ h' n' ⟨⟨rfl,rfl⟩,ha⟩
   rw[m7]
   try simp(disch:=first|omega|assumption|exact aa _) only[ah,ae,RZ,bH]
   (try unfold pq);(try dsimp only)
   try simp(disch:=first|omega|assumption|exact aa _) only[ah,ae,RZ]
   rw[j7]at ha
   exact⟨-1,rfl,by rw[ha];rfl⟩
  ·rintro fu i _ h' n' hi ⟨⟨rfl,rfl⟩,ha⟩ next
   obtain⟨b,off,cap,o,cs,hv,hg,hb,_,_,_,bk⟩:=bg.some (by omega)
   cases hv
   have e1:((i:Nat):Int)<((xs.length:Nat):Int):=by omega
   have c1:=bk i hi
   have w1:=BN hi (by omega)
   rw[m7]
   try simp(disch:=first|omega|assumption|exact aa _) only[ah,ae,RZ,e1,hg,c1,aiU]
   refine bV (aiT lf d n' h' (xs.getD i 0)) (av _) (fun _ _ h=>h.elim) ?_
   cases h1:(decide (0<=xs.getD i 0)&&decide (xs.getD i 0<=1099511627776))with
   |true=>
    try simp(disch:=first|omega|assumption|exact aa _) only[ah,ae,RZ,gM,w1]
    exact next () _ _ ⟨⟨rfl,rfl⟩,by unfold dD at ha⊢;rw[Y9 0 _ hi,ha,h1];rfl⟩
   |false=>
    try simp(disch:=first|omega|assumption|exact aa _) only[ah,ae,RZ,iP]
    (try unfold pq);(try dsimp only)
    try simp(disch:=first|omega|assumption|exact aa _) only[ah,ae,RZ]
    have:dD 0 1099511627776 xs=false:=MX 0 _ hi h1
    exact⟨(i:Nat),rfl,by rw[this];simp⟩
 have s2:aj (fun _=>False) n (au ai gt lf (d+4) 103 #[v,.func (.func 131) #[] #[]]) h n fun v' h' n'=>v'= .bool (!dD 0 1099511627776 xs)∧h'=h∧n'=n:=by
  rw[aQ (fun _=>E9) rfl]
  refine aj.aP ?_
  unfold A6
  refine bh aW s1 (av _) (fun _ _ h=>h.elim) fun v' h' n' _ _ hq=> ?_
  obtain⟨⟨r,rfl,hr⟩,rfl,rfl⟩:=hq
  try simp(disch:=first|omega|assumption|exact aa _) only[ah,ae,RZ]
  rw[hr]
 rw[aQ (fun _=>U') rfl]
 refine aj.aP ?_
 unfold La
 refine bV s2 (av _) (fun _ _ h=>h.elim) ?_
 rw[Az,Bool.not_not]
 try simp(disch:=first|omega|assumption|exact aa _) only[ah,ae,RZ]
omit aA in
theorem Y'(a b:Int)(h0:0<=a+b)(h1:a+b<=9223372036854775807):aj (fun _=>False) n (au ai gt lf (d+1) 112 #[.int .i64 a,.int .i64 b]) h n fun v' h' n'=>v'= .int .i64 (gD (a+b))∧h'=h∧n'=n:=by
 rw[aQ (fun _=>Va) rfl]
 refine aj.aP ?_
 unfold Lb
 have w:IntKind.i64.wrap (a+b)=a+b:=bB (by omega) (by omega)
 try simp(disch:=first|omega|assumption|exact aa _) only[ah,ae,RZ,w]
 all_goals (first|rfl|exact⟨rfl,rfl,rfl⟩|exact⟨rfl,rfl⟩)
theorem Za(v u:Value)(xs ls:List Int)(hR:Row h n 3 .i64 v xs)(hL:Row h n 3 .i64 u ls)(hl:xs.length<=1000000)(fN:ls.length<=1000000):
 aj (fun _=>False) n (au ai gt lf (d+6) 77 #[v,u]) h n fun v' h' n'=>v'=(if dD 0 1099511627776 ls=true∧dM ls.length xs=true then .tuple #[.int .i64 (gE xs ls),.int .i64 0]else .tuple #[.int .i64 0,.int .i64 1])∧h'=h∧n'=n:=by
 obtain⟨r,hr⟩:∃r:Value,(if dD 0 1099511627776 ls=true∧dM ls.length xs=true then Value.tuple #[.int .i64 (gE xs ls),.int .i64 0]else .tuple #[.int .i64 0,.int .i64 1])=r:=⟨_,rfl⟩
 rw[hr]
 rw[aQ (fun _=>T6) rfl]
 refine aj.aP ?_
 unfold ES
 refine bV (M1 lf d n h aA u ls hL fN) (av _) (fun _ _ h=>h.elim) ?_
 cases hm:dD 0 1099511627776 ls with
 |false=>
  rw[if_neg (by rw[hm];simp)]at hr
  try simp(disch:=first|omega|assumption|exact aa _) only[ah,ae,RZ,iP]
  rw[<-hr]
 |true=>
  have dz:=iX.1 hm
  have bg:=hR
  have zf:=hL
  obtain⟨a,c,rfl⟩:=hR.len
  obtain⟨a2,c2,rfl⟩:=hL.len
  try simp(disch:=first|omega|assumption|exact aa _) only[ah,ae,RZ,gM]
  refine ed xs.length (fun fu i (a:Int)=>wo lf (au ai gt lf (d+5)) fu (yJ lf (au ai gt lf (d+5))) _ _ (.int .i64 0) (.int .i64 0) (.int .i64 a) (.bool false) _ (.int .i64 (xs.length:Nat)) (.int .i64 (i:Nat))) (fun i a h' n'=>(h'=h∧n'=n)∧a=gE (xs.take i) ls∧dM ls.length (xs.take i)=true) ?_ ?_ lf 0 0 h n (dx _) (by omega) ⟨⟨rfl,rfl⟩,rfl,rfl⟩
  ·rintro fu q h' n' ⟨⟨rfl,rfl⟩,rfl,ha⟩
   rw[wo]
   try simp(disch:=first|omega|assumption|exact aa _) only[ah,ae,RZ,bH]
   (try unfold yJ);(try dsimp only)
   try simp(disch:=first|omega|assumption|exact aa _) only[ah,ae,RZ]
   rw[j7]at ha⊢
   rw[<-hr,if_pos ⟨hm,ha⟩]
  ·rintro fu i q h' n' hi ⟨⟨rfl,rfl⟩,rfl,ha⟩ next
   obtain⟨b,off,cap,o,cs,hv,hg,hb,_,_,_,bk⟩:=bg.some (by omega)
   cases hv
   have e1:((i:Nat):Int)<((xs.length:Nat):Int):=by omega
   have c1:=bk i hi
   have w1:=BN hi (by omega)
   rw[wo]
   by_cases h1:xs.getD i 0<0
   ·have hb:dM ls.length xs=false:=MY hi h1
    try simp(disch:=first|omega|assumption|exact aa _) only[ah,ae,RZ,e1,hg,c1,h1]
    (try unfold yJ);(try dsimp only)
    try simp(disch:=first|omega|assumption|exact aa _) only[ah,ae,RZ]
    rw[<-hr,if_neg (by rw[hb];simp)]
   ·by_cases h2:((ls.length:Nat):Int)<=xs.getD i 0
    ·have hb:dM ls.length xs=false:=MZ hi h2
     try simp(disch:=first|omega|assumption|exact aa _) only[ah,ae,RZ,e1,hg,c1,h1,h2]
     (try unfold yJ);(try dsimp only)
     try simp(disch:=first|omega|assumption|exact aa _) only[ah,ae,RZ]
     rw[<-hr,if_neg (by rw[hb];simp)]
    ·obtain⟨b2,y0,M3,o2,qU,iq,dy,ig,_,_,_,xp⟩:=zf.some (by omega)
     cases iq
     obtain⟨x,hx⟩:∃x:Nat,xs.getD i 0=(x:Int):=⟨(xs.getD i 0).toNat,by omega⟩
     have c2:=xp x (by omega)
     have hy:=dz (ls.getD x 0) (ze (by omega))
     have e3:(x:Int)<((ls.length:Nat):Int):=by omega
     have e4:¬((ls.length:Nat):Int)<=(x:Int):=by omega
     have e5:¬((x:Int)<0):=by omega
     have k1:=MQ (l:=xs.take i) fun y hy=>(dz y hy).1
     have k2:=Gt (xs.take i) ls
     have k3:=aiL (l:=xs) (fun y hy=>(dz y hy).1) hi
     rw[hx]at c1 k3
     have k4:Tb.look ls (x:Int)=ls.getD x 0:=by unfold Tb.look;rw[mG]
     try simp(disch:=first|omega|assumption|exact aa _) only[ah,ae,RZ,e1,hg,c1,e4,e5,e3,dy,c2]
     refine bV (Y' lf (d+4) n' h' _ _ (by omega) (by omega)) (av _) (fun _ _ h=>h.elim) ?_
     try simp(disch:=first|omega|assumption|exact aa _) only[ah,ae,RZ,w1]
     exact next _ _ _ ⟨⟨rfl,rfl⟩,by rw[<-k4,k3],M0 hi ha hx (by omega) e3⟩
end
theorem M4(k:IntKind)(l:List Int)(i:Nat)(x:Int):(aJ k l).set i (.int k x)=aJ k (l.set i x):=by unfold aJ;rw[Oz]
theorem Gv(k:IntKind)(n:Nat)(x:Int):bI n (gZ k x)=aJ k (bI n x):=by unfold aJ;rw[Hv]
theorem Row.BO{h:H}{n b:Nat}{e:TypeId}{o:Bool}{xs:List Int}{m:Nat}(hg:h.get b=some ⟨e,o,aJ .i64 xs⟩)(hb:b<n)(hm:xs.length=m):Row h n e .i64 (.slice (some ⟨b,0,none⟩) m m) xs:=by
 subst hm
 exact .inr ⟨b,0,xs.length,o,_,rfl,hg,hb,by rw[cT];omega,by rw[eJ,hH (by rw[cT];omega)],av _⟩
theorem aiV {β:Type} {W:Nat->Prop} {n0:Nat} {h:H} {n:Nat} {Q:β->H->Nat->Prop} {v:Value} {xs:List Int} (hR:Row h n 3 .i64 v xs) {l hh:Nat} (h1:l<hh) (h2:hh<=xs.length) {kd oh:IntKind} (k:Value->M β)
 (y:∀v',Row h n 3 .i64 v' ((xs.drop l).take (hh-l))->aj W n0 (k v') h n Q):aj W n0 (rA 3 1 v (some (.int kd (l:Int))) (some (.int oh (hh:Int))) k) h n Q:=by
 rcases hR with ⟨a,c,rfl,_,rfl⟩|⟨b,off,cap,o,cs,rfl,hg,hb,hle,ht,hc⟩
 ·simp at h2;omega
 ·refine D4 trivial hg rfl hb off xs.length cap _ _ (AE _ _ _) (AE _ _ _) (by omega) h2 hc _ trivial ?_
  rw[if_neg (by omega)]
  have hlen:((xs.drop l).take (hh-l)).length=hh-l:=by simp;omega
  refine y _ (.inr ⟨b,off+l,cap-l,o,cs,by rw[hlen],hg,hb,by rw[hlen];omega, ?_,by rw[hlen];omega⟩)
  rw[hlen]
  have:(cs.drop (off+l)).take (hh-l)=(((cs.drop off).take xs.length).drop l).take (hh-l):=by
   rw[List.drop_take,List.take_take,List.drop_drop,xM (by omega)]
  rw[this,ht]
  unfold aJ
  rw[aa',OE]
section
variable (lf d n:Nat) (h:H) (aA:3000000<=lf)
theorem aiW(v:Value)(z:Int)(hz:z<3∨258<z):aj (fun _=>False) n (au ai gt lf (d+1) 98 #[v,.int .i64 z]) h n fun v' h' n'=>v'= .tuple #[.slice none 0 0,.int .i64 1]∧h'=h∧n'=n:=by
 rw[aQ (fun _=>KY) rfl]
 refine aj.aP ?_
 unfold A0
 by_cases c:z<3
 ·try simp(disch:=first|omega|assumption|exact aa _) only[ah,ae,RZ,c]
 ·have c2:258<z:=by omega
  try simp(disch:=first|omega|assumption|exact aa _) only[ah,ae,RZ,c,c2]
include aA
theorem M5(v:Value)(xs:List Int)(hR:Row h n 3 .i64 v xs)(hl:xs.length<=1000000)(s:Nat)(h3:3<=s)(fC:s<=258):
 aj (fun _=>False) n (au ai gt lf (d+1) 98 #[v,.int .i64 (s:Int)]) h n fun v' h' n'=>(dM s xs=true∧∃u,v'= .tuple #[u,.int .i64 0]∧Row h' n' 3 .i64 u (cU xs s))∨(dM s xs=false∧v'= .tuple #[.slice none 0 0,.int .i64 1]):=by
 rw[aQ (fun _=>KY) rfl]
 refine aj.aP ?_
 unfold A0
 have bg:=hR
 obtain⟨a,c,rfl⟩:=hR.len
 have e1:¬((s:Int)<3):=by omega
 have e2:¬((258:Int)<(s:Int)):=by omega
 try simp(disch:=first|omega|assumption|exact aa _) only[ah,ae,RZ,e1,e2]
 refine Ev.run_make trivial s s _ (av _) (by omega) ?_
 try simp(disch:=first|omega|assumption|exact aa _) only[ah,ae,RZ]
 refine ed xs.length (fun fu i (_:Unit)=>wA lf (au ai gt lf d) fu (yM lf (au ai gt lf d)) _ _ (.slice none 0 0) (.int .i64 0) (.slice (some ⟨n,0,none⟩) s s) (.bool false) _ (.int .i64 (xs.length:Nat)) (.int .i64 (i:Nat)))
  (fun i _ h' n'=>n'=n+1∧(∀b,b<n->h'.get b=h.get b)∧h'.get n=some ⟨3,true,aJ .i64 (cU (xs.take i) s)⟩∧dM s (xs.take i)=true) ?_ ?_ lf 0 () _ _ (dx _) (by omega) ⟨rfl,fun b hb=>aK _ _ (by omega),by rw[get_eq,qL,YY,Gv],rfl⟩
 ·rintro fu _ h' n' ⟨rfl,hk,hg,ha⟩
  rw[wA]
  try simp(disch:=first|omega|assumption|exact aa _) only[ah,ae,RZ,bH]
  (try unfold yM);(try dsimp only)
  try simp(disch:=first|omega|assumption|exact aa _) only[ah,ae,RZ]
  rw[j7]at ha hg
  exact .inl ⟨ha,_,rfl,Row.BO hg (by omega) (jc _ _)⟩
 ·rintro fu i _ h' n' hi ⟨rfl,hk,kV,ha⟩ next
  have dH:=bg.aB (cX n) hk
  obtain⟨b,off,cap,o,cs,hv,hg,hb,_,_,_,bk⟩:=dH.some (by omega)
  cases hv
  have e3:((i:Nat):Int)<((xs.length:Nat):Int):=by omega
  have c1:=bk i hi
  have w1:=BN hi (by omega)
  rw[wA]
  by_cases h1:xs.getD i 0<0
  ·have hb:dM s xs=false:=MY hi h1
   try simp(disch:=first|omega|assumption|exact aa _) only[ah,ae,RZ,e3,hg,c1,h1]
   (try unfold yM);(try dsimp only)
   try simp(disch:=first|omega|assumption|exact aa _) only[ah,ae,RZ]
   first|exact .inr hb|exact .inr ⟨hb,rfl⟩
  ·by_cases h2:(s:Int)<=xs.getD i 0
   ·have hb:dM s xs=false:=MZ hi h2
    try simp(disch:=first|omega|assumption|exact aa _) only[ah,ae,RZ,e3,hg,c1,h1,h2]
    (try unfold yM);(try dsimp only)
    try simp(disch:=first|omega|assumption|exact aa _) only[ah,ae,RZ]
    first|exact .inr hb|exact .inr ⟨hb,rfl⟩
   ·obtain⟨x,hx⟩:∃x:Nat,xs.getD i 0=(x:Int):=⟨(xs.getD i 0).toNat,by omega⟩
    have e4:¬(s:Int)<=(x:Int):=by omega
    have e5:¬((x:Int)<0):=by omega
    have e6:(x:Int)<(s:Int):=by omega
    have c2:(aJ .i64 (cU (xs.take i) s))[x]? =some (.int .i64 (eG (xs.take i) x:Int)):=by
     rw[JR (by rw[jc];omega),MR (by omega)]
    have c3:=aiM hi hx (show x<s by omega)
    have c4:=zc (xs.take i) x
    have c5:(xs.take i).length<=1000000:=by rw[cJ];omega
    have c6:IntKind.i64.wrap ((eG (xs.take i) x:Int)+1)=(eG (xs.take i) x:Int)+1:=bB (by omega) (by omega)
    rw[hx]at c1
    try simp(disch:=first|omega|assumption|exact aa _) only[ah,ae,RZ,e3,hg,c1,e4,e5,e6,kV,c2,c6,M4,c3,cT,jc]
    refine⟨by omega,.inl (by omega), ?_⟩
    rw[show((i:Nat):Int)+1=((i+1:Nat):Int) by omega]
    refine next () _ _ ⟨rfl,fun b hb=>by rw[aK _ _ (by omega)];exact hk b hb,get_eq _ _ _,M0 hi ha hx (by omega) e6⟩
omit aA in
theorem Gw(x:Nat)(hx:x<=9223372036854775807):aj (fun _=>False) n (au ai gt lf (d+1) 75 #[.int .i64 (x:Int)]) h n fun v' h' n'=>v'= .int .i64 (cW x:Int)∧h'=h∧n'=n:=by
 rw[aQ (fun _=>TZ) rfl]
 refine aj.aP ?_
 unfold KH
 by_cases c:x=0
 ·subst c
  have e1:((0:Nat):Int)<=0:=by omega
  try simp(disch:=first|omega|assumption|exact aa _) only[ah,ae,RZ,e1]
  all_goals (first|rfl|exact⟨rfl,rfl,rfl⟩|exact⟨rfl,rfl⟩)
 ·have e1:¬((x:Int)<=0):=by omega
  have e2:IntKind.i64.wrap ((x:Int)-1)=((x-1:Nat):Int):=by rw[bB (by omega) (by omega)];omega
  have e3:((x-1:Nat):Int).tdiv 50=(((x-1)/50:Nat):Int):=rfl
  have e4:IntKind.i64.wrap (((x-1)/50:Nat):Int)=(((x-1)/50:Nat):Int):=bB (by omega) (by omega)
  have e5:IntKind.i64.wrap ((((x-1)/50:Nat):Int)+1)=(cW x:Int):=by rw[bB (by omega) (by omega)];unfold cW;omega
  try simp(disch:=first|omega|assumption|exact aa _) only[ah,ae,RZ,e1,e2,e3,e4,e5]
omit aA in
theorem Zb(v:Value)(xs:List Int)(hR:Row h n 3 .i64 v xs)(hl:xs.length<=1000000)(i:Nat)(hi:i<cW xs.length):
 aj (fun _=>False) n (au ai gt lf (d+3) 76 #[v,.int .i64 (i:Int)]) h n fun v' h' n'=>∃u,v'= .tuple #[u,.int .i64 0]∧Row h' n' 3 .i64 u (eB xs i):=by
 rw[aQ (fun _=>T0) rfl]
 refine aj.aP ?_
 unfold KI
 have bg:=hR
 obtain⟨a,c,rfl⟩:=hR.len
 have e1:¬((i:Int)<0):=by omega
 try simp(disch:=first|omega|assumption|exact aa _) only[ah,ae,RZ,e1]
 refine bV (Gw lf (d+1) n h xs.length (by omega)) (av _) (fun _ _ h=>h.elim) ?_
 have e2:¬((cW xs.length:Int)<=(i:Int)):=by omega
 try simp(disch:=first|omega|assumption|exact aa _) only[ah,ae,RZ,e2]
 have hp:=Y5 hi
 unfold cW at hi
 have s1:aj (fun _=>False) n (au ai gt lf (d+2) 110 #[.slice a xs.length c,.int .i64 (i:Int),.int .i64 50]) h n fun v' h' n'=>Row h' n' 3 .i64 v' (eB xs i):=by
  rw[aQ (fun _=>U9) rfl]
  refine aj.aP ?_
  unfold K'
  have f1:IntKind.i64.wrap ((i:Int)*50)=((50*i:Nat):Int):=by rw[bB (by omega) (by omega)];omega
  have f2:IntKind.i64.wrap ((i:Int)+1)=((i+1:Nat):Int):=BN (N:=1000000) (by omega) (by omega)
  have f3:IntKind.i64.wrap (((i+1:Nat):Int)*50)=((50*i+50:Nat):Int):=by rw[bB (by omega) (by omega)];omega
  have f4:(if((50*i+50:Nat):Int)<((xs.length:Nat):Int)then((50*i+50:Nat):Int)else((xs.length:Nat):Int))=((min xs.length (50*i+50):Nat):Int):=by split<;>omega
  try simp(disch:=first|omega|assumption|exact aa _) only[ah,ae,RZ,f1,f2,f3,f4]
  refine aiV bg (by omega) (by omega) _ fun v' hr=> ?_
  have hg:(xs.drop (50*i)).take (min xs.length (50*i+50)-50*i)=eB xs i:=by
   unfold eB
   by_cases q:xs.length<=50*i+50
   ·rw[hH (by simp;omega),hH (by simp;omega)]
   ·congr 1;omega
  rw[hg]at hr
  refine bh aW (Br lf d n h v' _ hr hp (by rw[BK];omega)) (av _) (fun _ _ h=>h.elim) fun v1 h1 n1 bQ cM hq=> ?_
  try simp(disch:=first|omega|assumption|exact aa _) only[ah,ae,RZ]
  exact hq.2.1
 refine bh aW s1 (av _) (fun _ _ h=>h.elim) fun v1 h1 n1 bQ cM hq=> ?_
 try simp(disch:=first|omega|assumption|exact aa _) only[ah,ae,RZ]
 exact⟨_,rfl,hq⟩
theorem aiX(v u:Value)(xs ys:List Int)(hR:Row h n 3 .i64 v xs)(hL:Row h n 3 .i64 u ys)(hl:xs.length<=1000000)(kW:xs.length=ys.length)(hx:dD 0 1099511627776 xs=true)(hy:dD 0 1099511627776 ys=true):
 aj (fun _=>False) n (au ai gt lf (d+6) 126 #[v,u]) h n fun v' h' n'=>∃z,v'= .tuple #[z,.int .i64 0]∧Row h' n' 3 .i64 z (np xs ys)∧∀b,aD z b->n<=b:=by
 rw[aQ (fun _=>VI) rfl]
 refine aj.aP ?_
 unfold Fq
 have bg:=hR
 have zf:=hL
 obtain⟨a,c,rfl⟩:=hR.len
 obtain⟨a2,c2,rfl⟩:=hL.len
 have e1:(((xs.length:Nat):Int) !=((ys.length:Nat):Int))=false:=by rw[kW];simp
 try simp(disch:=first|omega|assumption|exact aa _) only[ah,ae,RZ,e1]
 refine bV (M1 lf d n h aA _ xs bg hl) (av _) (fun _ _ h=>h.elim) ?_
 rw[hx]
 try simp(disch:=first|omega|assumption|exact aa _) only[ah,ae,RZ,gM]
 refine bV (M1 lf d n h aA _ ys zf (by omega)) (av _) (fun _ _ h=>h.elim) ?_
 rw[hy]
 try simp(disch:=first|omega|assumption|exact aa _) only[ah,ae,RZ,gM]
 refine Ev.run_make trivial xs.length xs.length _ (av _) (by omega) ?_
 try simp(disch:=first|omega|assumption|exact aa _) only[ah,ae,RZ]
 have Gx:(np xs ys).length=xs.length:=by unfold np;simp
 have ada:∀i,i<xs.length->(np xs ys).getD i 0=gD (xs.getD i 0+ys.getD i 0):=fun i hi=>by
  unfold np
  rw[aF,j4,Hs hi]
  rfl
 have lL:=iX.1 hx
 have hy':=iX.1 hy
 refine ed xs.length (fun fu i (_:Unit)=>wL lf (au ai gt lf (d+5)) fu (Fp lf (au ai gt lf (d+5))) _ _ (.slice none 0 0) (.int .i64 0) (.slice (some ⟨n,0,none⟩) xs.length xs.length) (.bool false) (.int .i64 (xs.length:Nat)) (.int .i64 (i:Nat)))
  (fun i _ h' n'=>n'=n+1∧(∀b,b<n->h'.get b=h.get b)∧h'.get n=some ⟨3,true,aJ .i64 (part (np xs ys) i)⟩) ?_ ?_ lf 0 () _ _ (dx _) (by omega) ⟨rfl,fun b hb=>aK _ _ (by omega),by rw[get_eq,MC,Gx,Gv]⟩
 ·rintro fu _ h' n' ⟨rfl,hk,hg⟩
  rw[wL]
  try simp(disch:=first|omega|assumption|exact aa _) only[ah,ae,RZ,bH]
  (try unfold Fp);(try dsimp only)
  try simp(disch:=first|omega|assumption|exact aa _) only[ah,ae,RZ]
  rw[<-Gx,MB]at hg
  exact⟨_,rfl,Row.BO hg (by omega) Gx,fun b hb=>by rw[hb.inj];exact av n⟩
 ·rintro fu i _ h' n' hi ⟨rfl,hk,kV⟩ next
  obtain⟨b,off,cap,o,cs,hv,hg,hb,_,_,_,bk⟩:=(bg.aB (cX n) hk).some (by omega)
  cases hv
  obtain⟨b2,y0,M3,o2,qU,iq,dy,ig,_,_,_,xp⟩:=(zf.aB (cX n) hk).some (by omega)
  cases iq
  have e3:((i:Nat):Int)<((xs.length:Nat):Int):=by omega
  have e4:((i:Nat):Int)<((ys.length:Nat):Int):=by omega
  have c1:=bk i hi
  have c2:=xp i (by omega)
  have w1:=BN hi (by omega)
  have b1:=lL _ (ze hi)
  have b2:=hy' _ (ze (show i<ys.length by omega))
  have pl:(part (np xs ys) i).length=xs.length:=by rw[Mz _ (by omega),Gx]
  have ps:(part (np xs ys) i).set i (gD (xs.getD i 0+ys.getD i 0))=part (np xs ys) (i+1):=by rw[<-ada i hi,MA (by omega)]
  rw[wL]
  try simp(disch:=first|omega|assumption|exact aa _) only[ah,ae,RZ,e3,e4,hg,c1,dy,c2]
  refine bV (Y' lf (d+4) _ h' _ _ (by omega) (by omega)) (by omega) (fun _ _ h=>h.elim) ?_
  try simp(disch:=first|omega|assumption|exact aa _) only[ah,ae,RZ,e3,kV,M4,cT,pl,ps]
  refine⟨by omega,.inl (by omega), ?_⟩
  rw[show((i:Nat):Int)+1=((i+1:Nat):Int) by omega]
  exact next () _ _ ⟨rfl,fun b hb=>by rw[aK _ _ (by omega)];exact hk b hb,get_eq _ _ _⟩
end
end Go.Proofs.YtdagfcflbphoiaaGreatDoor
