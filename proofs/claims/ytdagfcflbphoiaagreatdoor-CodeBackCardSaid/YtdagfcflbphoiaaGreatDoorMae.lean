import Derived.Test.YtdagfcflbphoiaaGreatDoorMad
import Derived.Test.YtdagfcflbphoiaaGreatDoorMac
import Derived.Laws.BitsAllLaws
import Derived.IntWalk
open Int renaming natCast_nonneg→aa, lt_irrefl→c9, toNat_natCast→o0, fdiv_eq_ediv_of_nonneg→ahC
open Nat renaming reduceLT→ae, reduceAdd→ag, le_refl→ak, ble→bh, zero_le→cb, zero_add→gU, add_mul→kF, ble_eq_true_of_le→lF, lt_of_lt_of_le→mL, add_zero→mN, min_eq_left→nR, sub_self→nT, pow_succ→oY, not_lt_zero→rB, mul_one→vJ, mul_comm→vM, mul_le_mul_right→AD, one_mul→AG, mod_eq_of_lt→AH, mul_assoc→Fc, mul_zero→Lz, two_pow_pos→Xi, lt_trichotomy→ahQ, pow_add→ahY, mul_lt_mul_of_pos_right→ahZ, two_pow_add_eq_or_of_lt→ah0, and_one_is_mod→ah2, pow_one→ah6, pow_zero→ah'
open Go.Proofs.Tryz renaming prog→ai
open List renaming getD_eq_getElem?_getD→aC, length_append→aM, getElem?_eq_getElem→aR, replicate→cq, length_cons→cu, append_assoc→cE, range→cN, append_nil→dF, length_take→dW, getElem_mem→ep, length_drop→eP, drop_zero→gT, length_nil→iz, take_append_drop→jm, take_of_length_le→kH, getElem?_append_left→me, take_succ_eq_append_getElem→mQ, map_append→mR, length_replicate→mS, getElem?_append_right→nO, take_length→nQ, ext_getElem→nU, mem_of_mem_take→qh, length_set→rz, length→rA, nil_append→vK, eq_nil_of_length_eq_zero→vL, drop_length→xS, mem_append_right→Aw, take_sublist→Fb, drop_eq_getElem_cons→Lo, length_range→Xf, mem_append_left→ag8, getElem?_drop→ahn, filter_cons→ahx, dropLast_concat_getLast→ahR, perm_append_singleton→ahS, perm_middle→ahV, drop_sublist→ahW, range_succ→ahX, take_take→ah3, find?_some→ah8, mem_of_find?_eq_some→ah9
open Bool renaming and_eq_true→bZ, not_true→gu, not_false→gZ, and_self→mO
open BitVec renaming ofInt→di, ofInt_natCast→Lm, toNat_ofNat→Ln, toNat_and→ahB
open Go.Value renaming int→iy, slice→jF
open UInt8 renaming ofNat→nM
open Option.some renaming inj→vI
open Option renaming some→xT
open Go.Lit renaming int→AL
open Go.IntKind renaming u32→AO, u8→ah1
open List.Perm renaming refl→Fa
open List.cons renaming inj→W6, injEq→ajb
open List.Sublist renaming countP_le→ah5
open List.Pairwise renaming nil→aja
set_option linter.unusedVariables false
set_option linter.unusedSimpArgs false
namespace Go.Proofs.YtdagfcflbphoiaaGreatDoor
open Go.RowKit Ev Hu
theorem ach{β:Type}{rec:FuncId->Array Value->M Value}(g:FuncId)(hb:j1 ai g=true)(c:Value)(a b:Value)(k:Value->M β):eM ai rec (.func (.func g) #[] #[c]) [a,b] k=au rec g [a,b,c] k:=by
 unfold eM
 show aG (some _) _=_
 rw[pJ]
 simp only[hb]
 exact(ki _ _).symm
theorem DJ{β:Type}{rec:FuncId->Array Value->M Value}(c:Value)(a b:Value)(k:Value->M β):eM ai rec (.func (.func 150) #[] #[c]) [a,b] k=au rec 150 [a,b,c] k:=ach _ (by kernel_rfl) c a b k
theorem S'(lf d:Nat)(h:H)(n:Nat)(x:Int):ah (fun _=>False) n (aq ai gt lf (d+1) 153 #[.int .i64 x]) h n fun v h' n'=>v= .bool false∧h'=h∧n'=n:=by
 rw[aD (fun _=>Sz) rfl]
 refine ah.aB ?_
 unfold I4
 have e:(x !=x)=false:=by simp
 try simp(disch:=first|omega|assumption|exact aa _) only[ag,ae,RZ,e]
theorem aci(lf d:Nat)(h:H)(n:Nat)(x y:Int):ah (fun _=>False) n (aq ai gt lf (d+2) 151 #[.int .i64 x,.int .i64 y]) h n fun v h' n'=>v= .int .i64 (zj x y)∧h'=h∧n'=n:=by
 rw[aD (fun _=>Sr) rfl]
 refine ah.aB ?_
 unfold I2
 refine bV (S' _ _ _ _ _) (ak _) (fun _ _ h=>h.elim) ?_
 refine bV (S' _ _ _ _ _) (ak _) (fun _ _ h=>h.elim) ?_
 unfold zj
 try simp(disch:=first|omega|assumption|exact aa _) only[ag,ae,RZ]
 by_cases h1:x<y
 ·simp[h1]
 ·by_cases h2:y<x
  ·simp[h1,h2]
  ·simp[h1,h2]
structure jy (h:H) (n g pw:Nat) (ws:List Int):Prop where
 ex:∃wb off cap e1 o1 e2 o2 cs,h.get pw=some ⟨e1,o1,[.slice (some ⟨wb,off,none⟩) ws.length cap]⟩∧h.get wb=some ⟨e2,o2,cs⟩∧wb<n∧wb≠g∧∀i,i<ws.length->cs[off+i]? =some (.int .i64 (ws.getD i 0))
 pn:pw<n
 pg:pw≠g
theorem jy.keeps{h h':H}{n g pw:Nat}{ws:List Int}(e:jy h n g pw ws)(k:∀b,b≠g->h'.get b=h.get b):jy h' n g pw ws:=by
 obtain⟨⟨wb,off,cap,e1,o1,e2,o2,cs,h1,h2,h3,h4,h5⟩,h6,h7⟩:=e
 exact⟨⟨wb,off,cap,e1,o1,e2,o2,cs,by rw[k pw h7];exact h1,by rw[k wb h4];exact h2,h3,h4,h5⟩,h6,h7⟩
theorem DK(lf d a b:Nat)(h:H)(n g pw:Nat)(ws:List Int)(hE:jy h n g pw ws)(ha:a<ws.length)(hb:b<ws.length):ah (fun _=>False) n (aq ai gt lf (d+3) 150 #[.int .i64 (a:Nat),.int .i64 (b:Nat),.pointer (some ⟨pw,0,none⟩)]) h n fun v h' n'=>v= .int .i64 (zj (aP ws a) (aP ws b))∧h'=h∧n'=n:=by
 obtain⟨⟨wb,off,cap,e1,o1,e2,o2,cs,h1,h2,h3,h4,h5⟩,h6,h7⟩:=hE
 have c1:cs[off+a]? =some (.int .i64 (aP ws a)):=h5 a ha
 have c2:cs[off+b]? =some (.int .i64 (aP ws b)):=h5 b hb
 rw[aD (fun _=>Sq) rfl]
 refine ah.aB ?_
 unfold I1
 try simp(disch:=first|omega|assumption|exact aa _) only[ag,ae,RZ,h1,h2,c1,c2]
 refine bV (aci _ _ _ _ _ _) (ak _) (fun _ _ h=>h.elim) ?_
 try simp(disch:=first|omega|assumption|exact aa _) only[ag,ae,RZ]
theorem lX{xs:List Nat}{i:Nat}(h:i<xs.length):(cj xs)[i]? =some (.int .i64 (xs.getD i 0:Nat)):=by unfold cj;simp[h]
theorem qX(xs:List Nat):(cj xs).length=xs.length:=by unfold cj;simp
theorem DL(xs:List Nat)(i v:Nat):(cj xs).set i (.int .i64 (v:Nat))=cj (xs.set i v):=by unfold cj;rw[List.map_set]
def At(h hr:H)(g:Nat)(xs:List Nat):Prop:=hr.get g=some ⟨3,true,cj xs⟩∧∀b,b≠g->hr.get b=h.get b
theorem At.set{h hr:H}{g:Nat}{xs ys:List Nat}(a:At h hr g xs){e:TypeId}{o:Bool}(he:e=3)(ho:o=true):At h (hr.set g (some ⟨e,o,cj ys⟩)) g ys:=by
 subst he ho
 exact⟨get_eq _ _ _,fun b hb=>by rw[aA _ _ hb];exact a.2 b hb⟩
set_option maxHeartbeats 1000000 in
theorem acj (lf d g n cap pw:Nat) (ws:List Int) (h:H) (pre post Y:List Nat) (x:Nat) (D:List Nat) (N:Nat) (hN:(pre++(D++x::Y)++post).length=N) (c8:N<=1000000) (hE:jy h n g pw ws) (hg:g<n) (hx:x<ws.length) (hD:∀z∈D,z<ws.length) {W:Nat->Prop} {n0:Nat} (eE:n0<=n) (hW:n0<=g∨W g) {Q:Value->H->Nat->Prop} (k:V->V->V->V->V->M V) (x2 x8 Ji:Value)
 (hK:∀L R hr,L++R=D->(∀r∈R,aP ws x<aP ws r)->(L=[]∨¬aP ws x<aP ws (L.getD (L.length-1) 0))->At h hr g (pre++(L++x::R++Y)++post)->ah W n0 (k (.slice (some ⟨g,0,none⟩) N cap) (.int .i64 (pre.length:Nat)) x2 (.func (.func 150) #[] #[.pointer (some ⟨pw,0,none⟩)]) x8) hr n Q):
 ∀(m:Nat) (L R:List Nat) (fu:Nat) (hr:H),L.length=m->m<fu->L++R=D->(∀r∈R,aP ws x<aP ws r)->At h hr g (pre++(L++x::R++Y)++post)->
  ah W n0 (vd lf (aq ai gt lf (d+3)) fu k (.slice (some ⟨g,0,none⟩) N cap) (.int .i64 (pre.length:Nat)) x2 (.func (.func 150) #[] #[.pointer (some ⟨pw,0,none⟩)]) x8 (.int .i64 ((pre.length+m:Nat):Int)) Ji) hr n Q:=by
 intro m
 induction m with
 |zero=>
  intro L R fu hr hL cC mD hR hA
  obtain⟨fu,rfl⟩:∃f,fu=f+1:=⟨fu-1,by omega⟩
  have:L=[]:=List.length_eq_zero_iff.1 hL
  subst this
  rw[vd]
  try simp(disch:=first|omega|assumption|exact aa _) only[ag,ae,RZ,c9]
  exact hK [] R hr mD hR (.inl rfl) hA
 |succ m ih=>
  intro L R fu hr hL cC mD hR hA
  obtain⟨fu,rfl⟩:∃f,fu=f+1:=⟨fu-1,by omega⟩
  obtain⟨L',y,rfl⟩:∃L' y,L=L'++[y]:=⟨L.dropLast,L.getLast (by intro e;rw[e]at hL;simp at hL),(ahR _).symm⟩
  have hL':L'.length=m:=by simp at hL;exact hL
  have hlen:pre.length+(m+1)<N:=by rw[<-hN,<-mD];simp;omega
  have e1:((pre.length:Nat):Int)<((pre.length+(m+1):Nat):Int):=by omega
  have e2:pre++(L'++[y]++x::R++Y)++post=(pre++L')++y::(x::R++Y++post):=by simp
  have e3:pre++(L'++[y]++x::R++Y)++post=(pre++L'++[y])++x::(R++Y++post):=by simp
  have hlx:(pre++(L'++[y]++x::R++Y)++post).length=N:=by rw[<-hN,<-mD];simp;omega
  have g1:(cj (pre++(L'++[y]++x::R++Y)++post))[pre.length+(m+1)]? =some (.int .i64 (x:Nat)):=by
   rw[lX (by omega),e3,pP _ _ _ _ (by simp;omega)]
  have g2:(cj (pre++(L'++[y]++x::R++Y)++post))[pre.length+m]? =some (.int .i64 (y:Nat)):=by
   rw[lX (by omega),e2,pP _ _ _ _ (by simp;omega)]
  have hy:y<ws.length:=hD y (by rw[<-mD];simp)
  have w1:IntKind.i64.wrap (((pre.length+(m+1):Nat):Int)-1)=((pre.length+m:Nat):Int):=by rw[aV (by omega) (by omega)];omega
  have c0:=hA.1
  have j5:((pre++(L'++[y]++x::R++Y)++post).set (pre.length+(m+1)) y).set (pre.length+m) x=pre++(L'++x::(y::R)++Y)++post:=by
   rw[e3,sQ _ _ _ _ _ (by simp;omega)]
   have:pre++L'++[y]++y::(R++Y++post)=(pre++L')++y::(y::(R++Y++post)):=by simp
   rw[this,sQ _ _ _ _ _ (by simp;omega)]
   simp
  rw[vd]
  try simp(disch:=first|omega|assumption|exact aa _) only[ag,ae,RZ,e1,c0,g1,g2,w1,DJ]
  refine bV (DK lf d x y hr n g pw ws (hE.keeps hA.2) hx hy) eE (fun _ _ h=>h.elim) ?_
  have e4:=DH (aP ws x) (aP ws y)
  try simp(disch:=first|omega|assumption|exact aa _) only[ag,ae,RZ,e4]
  by_cases bf:aP ws x<aP ws y
  ·try simp(disch:=first|omega|assumption|exact aa _) only[ag,ae,RZ,bf,c0,g1,g2,w1,qX,DL,rz,j5]
   refine⟨by omega,hW,by omega,hW, ?_⟩
   exact ih L' (y::R) fu _ hL' (by omega) (by rw[<-mD];simp) (fun r hr=>by
    rcases List.mem_cons.1 hr with rfl|hr
    ·exact bf
    ·exact hR r hr) ((hA.set rfl rfl).set rfl rfl)
  ·try simp(disch:=first|omega|assumption|exact aa _) only[ag,ae,RZ,bf]
   exact hK (L'++[y]) R hr mD hR (.inr (by simpa using bf)) hA
theorem ack (lf d g n cap pw:Nat) (ws:List Int) (h:H) (pre post fo:List Nat) (N:Nat) (aw:2000000<=lf) (hN:(pre++fo++post).length=N) (c8:N<=1000000) (hE:jy h n g pw ws) (hg:g<n) (bW:∀z∈fo,z<ws.length) (cS:fo.Pairwise (fun a b=>aP ws a=aP ws b->a<b)) {W:Nat->Prop} {n0:Nat} (eE:n0<=n) (hW:n0<=g∨W g) {Q:Value->H->Nat->Prop} (k:M V)
 (hK:∀D hr,D.Perm fo->D.Pairwise (RI (aP ws))->At h hr g (pre++D++post)->ah W n0 k hr n Q):
 ∀(Y D D0:List Nat) (fu:Nat) (hr:H),Y.length<fu->fo=D0++Y->D.Perm D0->D.Pairwise (RI (aP ws))->At h hr g (pre++(D++Y)++post)->
  ah W n0 (pM lf (aq ai gt lf (d+3)) fu k (.slice (some ⟨g,0,none⟩) N cap) (.int .i64 (pre.length:Nat)) (.int .i64 ((pre.length+fo.length:Nat):Int)) (.func (.func 150) #[] #[.pointer (some ⟨pw,0,none⟩)]) (.int .i64 ((pre.length+D.length:Nat):Int))) hr n Q:=by
 intro Y
 induction Y with
 |nil=>
  intro D D0 fu hr cC hs hp jz hA
  obtain⟨fu,rfl⟩:∃f,fu=f+1:=⟨fu-1,by simp at cC;omega⟩
  rw[dF]at hs hA
  subst hs
  rw[hp.length_eq]
  rw[pM]
  try simp(disch:=first|omega|assumption|exact aa _) only[ag,ae,RZ,c9]
  exact hK D hr hp jz hA
 |cons x Y ih=>
  intro D D0 fu hr cC hs hp jz hA
  obtain⟨fu,rfl⟩:∃f,fu=f+1:=⟨fu-1,by omega⟩
  have oh:=hp.length_eq
  have fO:fo.length=D.length+1+Y.length:=by rw[hs];simp;omega
  have hNs:pre.length+fo.length+post.length=N:=by rw[<-hN];simp;omega
  have e1:((pre.length+D.length:Nat):Int)<((pre.length+fo.length:Nat):Int):=by omega
  have hx:x<ws.length:=bW x (by rw[hs];simp)
  have hD:∀z∈D,z<ws.length:=fun z hz=>bW z (by rw[hs];simp[hp.mem_iff.1 hz])
  have hDx:∀z∈D,aP ws z=aP ws x->z<x:=by
   intro z hz
   have h3:=cS
   rw[hs,List.pairwise_append]at h3
   exact h3.2.2 z (hp.mem_iff.1 hz) x (by simp)
  rw[pM]
  try simp(disch:=first|omega|assumption|exact aa _) only[ag,ae,RZ,e1]
  refine acj lf d g n cap pw ws h pre post Y x D N (by rw[<-hN,hs];simp;omega) c8 hE hg hx hD eE hW _ _ _ _ (fun L R jK mD hR zn jA=> ?_) D.length D [] lf hr rfl (by omega) (by simp) (by simp) (by simpa using hA)
  (try unfold ab3);(try unfold DC);(try dsimp only)
  try simp(disch:=first|omega|assumption|exact aa _) only[ag,ae,RZ]
  have hlen:(L++x::R).length=D.length+1:=by rw[<-mD];simp;omega
  have e3:((pre.length+D.length+1:Nat):Int)=((pre.length+(L++x::R).length:Nat):Int):=by rw[hlen];omega
  have e4:((pre.length+D.length:Nat):Int)+1=((pre.length+(L++x::R).length:Nat):Int):=by rw[hlen];omega
  first|rw[e3]|rw[e4]
  refine ih (L++x::R) (D0++[x]) fu jK (by simp at cC;omega) (by rw[hs];simp) ?_ ?_ jA
  ·refine(List.perm_middle.trans ?_:(L++x::R).Perm (D0++[x]))
   rw[mD]
   exact(hp.cons x).trans (ahS x D0).symm
  ·refine acb (by rw[mD];exact jz) hR (fun l hl=> ?_) (fun l hl=>hDx l (by rw[<-mD];simp[hl]))
   rcases zn with h|h2
   ·rw[h]at hl;simp at hl
   ·have h4:(L++R).Pairwise (RI (aP ws)):=by rw[mD];exact jz
    obtain⟨i,hi,e⟩:=List.mem_iff_getElem.1 hl
    rcases zk (List.pairwise_append.1 h4).1 (i:=i) (j:=L.length-1) (by omega) (by omega)with q|q
    ·have:l=L.getD (L.length-1) 0:=by rw[<-q,<-e];simp[hi]
     rw[this];omega
    ·have:L.getD i 0=l:=by rw[<-e];simp[hi]
     rw[this]at q
     unfold RI at q
     omega
theorem acm(lf d g n cap pw:Nat)(ws:List Int)(h:H)(pre fo post:List Nat)(N:Nat)(aw:2000000<=lf)(hN:(pre++fo++post).length=N)(c8:N<=1000000)(h1:1<=fo.length)(hE:jy h n g pw ws)(hg:g<n)(hh:h.get g=some ⟨3,true,cj (pre++fo++post)⟩)(bW:∀z∈fo,z<ws.length)(cS:fo.Pairwise (fun a b=>a<b))(a b:Int)(ha:a=(pre.length:Nat))(hb:b=((pre.length+fo.length:Nat):Int)):
 ah (fun x=>x=g) n (aq ai gt lf (d+4) 154 #[.slice (some ⟨g,0,none⟩) N cap,.int .i64 a,.int .i64 b,.func (.func 150) #[] #[.pointer (some ⟨pw,0,none⟩)]]) h n fun v h' n'=>n'=n∧∃D,D.Perm fo∧D.Pairwise (RI (aP ws))∧At h h' g (pre++D++post):=by
 subst ha hb
 rw[aD (fun _=>I5) rfl]
 refine ah.aB ?_
 unfold ze
 have dN:pre.length<=N:=by rw[<-hN];simp
 try simp(disch:=first|omega|assumption|exact aa _) only[ag,ae,RZ]
 obtain⟨s0,s1,rfl⟩:∃s0 s1,fo=s0::s1:=by
  cases fo with
  |nil=>simp at h1
  |cons s0 s1=>exact⟨s0,s1,rfl⟩
 rw[show((pre.length:Nat):Int)+1=((pre.length+[s0].length:Nat):Int) by simp]
 refine ack (W:=fun x=>x=g) lf d g n cap pw ws h pre post (s0::s1) N aw hN c8 hE hg bW (cS.imp (S:=fun a b=>aP ws a=aP ws b->a<b) fun{_ _} q _=>q) (ak _) (.inr rfl) _ (fun D hr hp hs hA=> ?_) s1 [s0] [s0] lf h (by simp at hN;omega) rfl (Fa _) (List.pairwise_singleton _ _) ⟨by simpa using hh,fun b hb=>rfl⟩
 (try unfold zd);(try dsimp only)
 try simp(disch:=first|omega|assumption|exact aa _) only[ag,ae,RZ]
 exact⟨D,hp,hs,hA⟩
theorem At.trans{h h1 h2:H}{g:Nat}{xs ys:List Nat}(a:At h h1 g xs)(b:At h1 h2 g ys):At h h2 g ys:=⟨b.1,fun c hc=>(b.2 c hc).trans (a.2 c hc)⟩
theorem swA (lf d g n cap:Nat) (h:H) (P Z Q:List Nat) (U V:List Nat) (N:Nat) (hN:(P++U++Z++V++Q).length=N) (c8:N<=1000000) (hg:g<n) {W:Nat->Prop} {n0:Nat} (hW:n0<=g∨W g) {R:Value->H->Nat->Prop} (k:(M Value))
 (hK:∀hr,At h hr g (P++V++Z++U++Q)->ah W n0 (k) hr n R):
 ∀(U2 V2 U1 V1:List Nat) (fu:Nat) (hr:H),U2.length<fu->U2.length=V2.length->U1.length=V1.length->U1++U2=U->V1++V2=V->At h hr g (P++V1++U2++Z++U1++V2++Q)->
  ah W n0 (vj lf (aq ai gt lf d) fu k (.slice (some ⟨g,0,none⟩) N cap) (.int .i64 (P.length:Nat)) (.int .i64 ((P.length+U.length+Z.length:Nat):Int)) (.int .i64 (U.length:Nat)) (.int .i64 (U1.length:Nat))) hr n R:=by
 intro U2
 induction U2 with
 |nil=>
  intro V2 U1 V1 fu hr cC h1 h2 e1 e2 hA
  obtain⟨fu,rfl⟩:∃f,fu=f+1:=⟨fu-1,by simp at cC;omega⟩
  have:V2=[]:=List.length_eq_zero_iff.1 h1.symm
  subst this
  rw[dF]at e1 e2
  subst e1 e2
  rw[vj]
  try simp(disch:=first|omega|assumption|exact aa _) only[ag,ae,RZ,c9]
  exact hK hr (by simpa using hA)
 |cons u U2 ih=>
  intro V2 U1 V1 fu hr cC h1 h2 e1 e2 hA
  obtain⟨fu,rfl⟩:∃f,fu=f+1:=⟨fu-1,by omega⟩
  obtain⟨v,V2,rfl⟩:∃v V3,V2=v::V3:=by
   cases V2 with
   |nil=>simp at h1
   |cons x Y=>exact⟨x,Y,rfl⟩
  have l1:=congrArg rA e1
  have l2:=congrArg rA e2
  simp only[aM,cu]at l1 l2 h1 hN cC
  have b1:((U1.length:Nat):Int)<((U.length:Nat):Int):=by omega
  have s1:P++V1++u::U2++Z++U1++v::V2++Q=(P++V1)++u::(U2++Z++U1++v::V2++Q):=by simp
  have s2:P++V1++u::U2++Z++U1++v::V2++Q=(P++V1++u::U2++Z++U1)++v::(V2++Q):=by simp
  have s3:(P++V1)++v::(U2++Z++U1++v::V2++Q)=(P++V1++v::U2++Z++U1)++v::(V2++Q):=by simp
  have hl:(P++V1++u::U2++Z++U1++v::V2++Q).length=N:=by simp only[aM,cu];omega
  have w1:IntKind.i64.wrap (((P.length:Nat):Int)+((U1.length:Nat):Int))=((P.length+U1.length:Nat):Int):=by rw[aV (by omega) (by omega)];omega
  have w2:IntKind.i64.wrap (((P.length+U.length+Z.length:Nat):Int)+((U1.length:Nat):Int))=((P.length+U.length+Z.length+U1.length:Nat):Int):=by rw[aV (by omega) (by omega)];omega
  have g1:(cj (P++V1++u::U2++Z++U1++v::V2++Q))[P.length+U1.length]? =some (.int .i64 (u:Nat)):=by
   rw[lX (by omega),s1,pP _ _ _ _ (by simp;omega)]
  have g2:(cj (P++V1++u::U2++Z++U1++v::V2++Q))[P.length+U.length+Z.length+U1.length]? =some (.int .i64 (v:Nat)):=by
   rw[lX (by omega),s2,pP _ _ _ _ (by simp;omega)]
  have j5:((P++V1++u::U2++Z++U1++v::V2++Q).set (P.length+U1.length) v).set (P.length+U.length+Z.length+U1.length) u=P++(V1++[v])++U2++Z++(U1++[u])++V2++Q:=by
   rw[s1,sQ _ _ _ _ _ (by simp;omega),s3,sQ _ _ _ _ _ (by simp;omega)]
   simp
  have c0:=hA.1
  rw[vj]
  try simp(disch:=first|omega|assumption|exact aa _) only[ag,ae,RZ,b1,c0,g1,g2,w1,w2,qX,DL,rz,j5]
  refine⟨by omega,hW,by omega,hW, ?_⟩
  have:=ih V2 (U1++[u]) (V1++[v]) fu _ (by omega) (by omega) (by simp[h2]) (by rw[<-e1];simp) (by rw[<-e2];simp) ((hA.set (ys:=(P++V1++u::U2++Z++U1++v::V2++Q).set (P.length+U1.length) v) rfl rfl).set (ys:=P++(V1++[v])++U2++Z++(U1++[u])++V2++Q) rfl rfl)
  rw[show(U1++[u]).length=U1.length+1 by simp]at this
  exact this
theorem Jj(lf d g n cap:Nat)(h:H)(P U Z V Q:List Nat)(N:Nat)(f:Value)(a b c:Int)(aw:2000000<=lf)(hN:(P++U++Z++V++Q).length=N)(c8:N<=1000000)(Jk:U.length=V.length)(hg:g<n)(ha:a=(P.length:Nat))(hb:b=((P.length+U.length+Z.length:Nat):Int))(hc:c=(U.length:Nat))(hh:h.get g=some ⟨3,true,cj (P++U++Z++V++Q)⟩):
 ah (fun x=>x=g) n (aq ai gt lf (d+1) 157 #[.slice (some ⟨g,0,none⟩) N cap,.int .i64 a,.int .i64 b,.int .i64 c,f]) h n fun v h' n'=>n'=n∧At h h' g (P++V++Z++U++Q):=by
 subst ha hb hc
 rw[aD (fun _=>SU) rfl]
 refine ah.aB ?_
 unfold DF
 have hl:U.length<=N:=by rw[<-hN];simp;omega
 refine swA (W:=fun x=>x=g) lf d g n cap h P Z Q U V N hN c8 hg (.inr rfl) _ (fun hr hA=> ?_) U V [] [] lf h (by omega) Jk rfl rfl rfl ⟨by simpa using hh,fun b hb=>rfl⟩
 (try unfold Ja);(try dsimp only)
 try simp(disch:=first|omega|assumption|exact aa _) only[ag,ae,RZ]
 exact hA
theorem roA (lf d g n cap:Nat) (h:H) (f:Value) (T:List Nat) (N Mi:Nat) (x1 x3:Value) (aw:2000000<=lf) (hT:T.length=N) (c8:N<=1000000) (hg:g<n) {W:Nat->Prop} {n0:Nat} (eE:n0<=n) (hW:n0<=g∨W g) {R:Value->H->Nat->Prop} (k:(Value->Value->Value->Value->M Value))
 (hK:∀hr (I:Nat) P U V Q,I=U.length->U.length=V.length->P.length+I=Mi->P++V++U++Q=T->At h hr g (P++U++V++Q)->ah W n0 (k (.slice (some ⟨g,0,none⟩) N cap) (.int .i64 (Mi:Nat)) f (.int .i64 (I:Nat))) hr n R):
 ∀(m:Nat) (P U V Q:List Nat) (fu:Nat) (hr:H),U.length+V.length<=m->m<fu->1<=U.length->1<=V.length->P.length+U.length=Mi->P++V++U++Q=T->At h hr g (P++U++V++Q)->
  ah W n0 (vi lf (aq ai gt lf (d+1)) fu k (.slice (some ⟨g,0,none⟩) N cap) x1 (.int .i64 (Mi:Nat)) x3 f (.int .i64 (U.length:Nat)) (.int .i64 (V.length:Nat))) hr n R:=by
 intro m
 induction m with
 |zero=>intro P U V Q fu hr h1 _ h2;omega
 |succ m ih=>
  intro P U V Q fu hr hm cC hU hV hP hE hA
  obtain⟨fu,rfl⟩:∃f,fu=f+1:=⟨fu-1,by omega⟩
  have lT:=congrArg rA hE
  simp only[aM]at lT
  rw[hT]at lT
  rw[vi]
  by_cases heq:U.length=V.length
  ·have e1:(((U.length:Nat):Int) !=((V.length:Nat):Int))=false:=by rw[heq];simp
   try simp(disch:=first|omega|assumption|exact aa _) only[ag,ae,RZ,e1]
   try rw[<-heq]
   exact hK hr _ P U V Q rfl heq hP hE hA
  ·have e1:(((U.length:Nat):Int) !=((V.length:Nat):Int))=true:=by simp;omega
   by_cases hgt:V.length<U.length
   ·have e2:((V.length:Nat):Int)<((U.length:Nat):Int):=by omega
    have w1:IntKind.i64.wrap (((U.length:Nat):Int)-((V.length:Nat):Int))=((U.length-V.length:Nat):Int):=by rw[aV (by omega) (by omega)];omega
    have w2:IntKind.i64.wrap (((Mi:Nat):Int)-((U.length:Nat):Int))=((P.length:Nat):Int):=by rw[aV (by omega) (by omega)];omega
    try simp(disch:=first|omega|assumption|exact aa _) only[ag,ae,RZ,e1,e2,w1,w2]
    have zo:(U.take V.length).length=V.length:=by rw[dW];omega
    have hs:P++U++V++Q=P++U.take V.length++U.drop V.length++V++Q:=by rw[cE P (U.take _),jm]
    refine aI aF (Jj lf d g n cap hr P (U.take V.length) (U.drop V.length) V Q N f _ _ _ aw (by rw[<-hs];simp;omega) c8 zo hg rfl (by rw[zo,eP];omega) (by rw[zo]) (by rw[<-hs];exact hA.1)) eE (fun b _ hb=>hb▸hW) fun v h1 n1 _ _ hq=> ?_
    obtain⟨rfl,kt⟩:=hq
    try simp(disch:=first|omega|assumption|exact aa _) only[ag,ae,RZ,w1]
    have jA:=hA.trans kt
    have:=ih (P++V) (U.drop V.length) (U.take V.length) Q fu h1 (by rw[zo,eP];omega) (by omega) (by rw[eP];omega) (by omega) (by rw[aM,eP];omega) (by rw[<-hE];simp) jA
    rw[zo,eP]at this
    exact this
   ·have e2:¬((V.length:Nat):Int)<((U.length:Nat):Int):=by omega
    have w1:IntKind.i64.wrap (((V.length:Nat):Int)-((U.length:Nat):Int))=((V.length-U.length:Nat):Int):=by rw[aV (by omega) (by omega)];omega
    have w2:IntKind.i64.wrap (((Mi:Nat):Int)-((U.length:Nat):Int))=((P.length:Nat):Int):=by rw[aV (by omega) (by omega)];omega
    have w3:IntKind.i64.wrap (((Mi:Nat):Int)+((V.length:Nat):Int))=((Mi+V.length:Nat):Int):=by rw[aV (by omega) (by omega)];omega
    have w4:IntKind.i64.wrap (((Mi+V.length:Nat):Int)-((U.length:Nat):Int))=((P.length+V.length:Nat):Int):=by rw[aV (by omega) (by omega)];omega
    try simp(disch:=first|omega|assumption|exact aa _) only[ag,ae,RZ,e1,e2,w1,w2,w3,w4]
    have Ta:(V.drop (V.length-U.length)).length=U.length:=by rw[eP];omega
    have Tc:(V.take (V.length-U.length)).length=V.length-U.length:=by rw[dW];omega
    have hs:P++U++V++Q=P++U++V.take (V.length-U.length)++V.drop (V.length-U.length)++Q:=by
     rw[cE (P++U) (V.take _),jm]
    refine aI aF (Jj lf d g n cap hr P U (V.take (V.length-U.length)) (V.drop (V.length-U.length)) Q N f _ _ _ aw (by rw[<-hs];simp;omega) c8 Ta.symm hg rfl (by rw[Tc];omega) rfl (by rw[<-hs];exact hA.1)) eE (fun b _ hb=>hb▸hW) fun v h1 n1 _ _ hq=> ?_
    obtain⟨rfl,kt⟩:=hq
    try simp(disch:=first|omega|assumption|exact aa _) only[ag,ae,RZ,w1]
    have jA:=hA.trans kt
    have:=ih P (V.drop (V.length-U.length)) (V.take (V.length-U.length)) (U++Q) fu h1 (by omega) (by omega) (by omega) (by omega) (by omega) (by rw[<-hE];rw[<-cE,cE P,jm]) (by rw[<-cE];exact jA)
    rw[Ta,Tc]at this
    exact this
theorem acn(lf d g n cap:Nat)(h:H)(P X Y Q:List Nat)(N:Nat)(f:Value)(a m b:Int)(aw:3000000<=lf)(hN:(P++X++Y++Q).length=N)(c8:N<=1000000)(hX:1<=X.length)(hY:1<=Y.length)(hg:g<n)(ha:a=(P.length:Nat))(hm:m=((P.length+X.length:Nat):Int))(hb:b=((P.length+X.length+Y.length:Nat):Int))(hh:h.get g=some ⟨3,true,cj (P++X++Y++Q)⟩):
 ah (fun x=>x=g) n (aq ai gt lf (d+2) 156 #[.slice (some ⟨g,0,none⟩) N cap,.int .i64 a,.int .i64 m,.int .i64 b,f]) h n fun v h' n'=>n'=n∧At h h' g (P++Y++X++Q):=by
 subst ha hm hb
 rw[aD (fun _=>SP) rfl]
 refine ah.aB ?_
 unfold DE
 have lN:=hN
 simp only[aM]at lN
 have w1:IntKind.i64.wrap (((P.length+X.length:Nat):Int)-((P.length:Nat):Int))=((X.length:Nat):Int):=by rw[aV (by omega) (by omega)];omega
 have w2:IntKind.i64.wrap (((P.length+X.length+Y.length:Nat):Int)-((P.length+X.length:Nat):Int))=((Y.length:Nat):Int):=by rw[aV (by omega) (by omega)];omega
 try simp(disch:=first|omega|assumption|exact aa _) only[ag,ae,RZ,w1,w2]
 refine roA (W:=fun x=>x=g) lf d g n cap h f (P++Y++X++Q) N (P.length+X.length) _ _ (by omega) (by rw[<-hN];simp;omega) c8 hg (ak _) (.inr rfl) _ (fun hr I P1 U V Q1 hI Jk hP hE hA=> ?_) _ P X Y Q lf h (ak _) (by omega) hX hY rfl rfl ⟨hh,fun b hb=>rfl⟩
 (try unfold I');(try dsimp only)
 have lT:=congrArg rA hE
 simp only[aM]at lT
 have w3:IntKind.i64.wrap (((P.length+X.length:Nat):Int)-((I:Nat):Int))=((P1.length:Nat):Int):=by rw[aV (by omega) (by omega)];omega
 try simp(disch:=first|omega|assumption|exact aa _) only[ag,ae,RZ,w3]
 refine aI aF (Jj lf d g n cap hr P1 U [] V Q1 N f _ _ _ (by omega) (by rw[<-hN];simp;omega) c8 Jk hg rfl (by simp;omega) (by rw[hI]) (by rw[dF];exact hA.1)) (ak _) (fun b _ hb=> .inr hb) fun v h1 n1 _ _ hq=> ?_
 obtain⟨rfl,kt⟩:=hq
 try simp(disch:=first|omega|assumption|exact aa _) only[ag,ae,RZ]
 rw[dF,hE]at kt
 exact hA.trans kt
theorem wrap_u64{x:Int}(h0:0<=x)(h1:x<=9223372036854775807):IntKind.u64.wrap x=x:=by
 unfold IntKind.wrap
 have:(2:Int)^IntKind.u64.bits=18446744073709551616:=by decide
 simp only[show IntKind.u64.signed=false from rfl,Bool.false_eq_true,false_and,if_false,this]
 exact Int.emod_eq_of_lt h0 (by omega)
theorem xf(x:Int):x.fdiv (2^min 1 IntKind.u64.bits)=x/2:=by
 rw[show min 1 IntKind.u64.bits=1 from rfl,Int.pow_succ,Int.pow_zero,Int.one_mul,ahC _ (by omega)]
theorem zs(x:Int):x.fdiv (2^min (Int.toNat 1) IntKind.u64.bits)=x/2:=xf x
theorem aco (lf d g n cap pw:Nat) (ws:List Int) (h:H) (P Y Q:List Nat) (x:Nat) (N:Nat) (hN:(P++x::Y++Q).length=N) (c8:N<=1000000) (hE:jy h n g pw ws) (hg:g<n) (hh:h.get g=some ⟨3,true,cj (P++x::Y++Q)⟩) (hx:x<ws.length) (hY:∀z∈Y,z<ws.length) {W:Nat->Prop} {n0:Nat} (eE:n0<=n) {R:Value->H->Nat->Prop} (k:(Value->Value->Value->Value->Value->Value->Value->Value->Value->M Value)) (x2 x3 oI:Value)
 (hK:∀p Td,p<=Y.length->(p=0∨aP ws (Y.getD (p-1) 0)<aP ws x)->(p=Y.length∨¬aP ws (Y.getD p 0)<aP ws x)->ah W n0 (k (.slice (some ⟨g,0,none⟩) N cap) (.int .i64 (P.length:Nat)) x2 x3 (.func (.func 150) #[] #[.pointer (some ⟨pw,0,none⟩)]) (.int .i64 ((P.length+1+p:Nat):Int)) (.int .i64 ((P.length+1+p:Nat):Int)) oI Td) h n R):
 ∀(m p q fu:Nat),q-p<=m->m<fu->p<=q->q<=Y.length->(p=0∨aP ws (Y.getD (p-1) 0)<aP ws x)->(q=Y.length∨¬aP ws (Y.getD q 0)<aP ws x)->
  ah W n0 (sN lf (aq ai gt lf (d+3)) fu k (.slice (some ⟨g,0,none⟩) N cap) (.int .i64 (P.length:Nat)) x2 x3 (.func (.func 150) #[] #[.pointer (some ⟨pw,0,none⟩)]) (.int .i64 ((P.length+1+p:Nat):Int)) (.int .i64 ((P.length+1+q:Nat):Int)) oI) h n R:=by
 have lN:=hN
 simp only[aM,cu]at lN
 intro m
 induction m with
 |zero=>
  intro p q fu hm cC dO hq h1 h2
  obtain⟨fu,rfl⟩:∃f,fu=f+1:=⟨fu-1,by omega⟩
  obtain rfl:p=q:=by omega
  rw[sN]
  try simp(disch:=first|omega|assumption|exact aa _) only[ag,ae,RZ,c9]
  exact hK p _ hq h1 h2
 |succ m ih=>
  intro p q fu hm cC dO hq h1 h2
  obtain⟨fu,rfl⟩:∃f,fu=f+1:=⟨fu-1,by omega⟩
  rw[sN]
  by_cases bf:p<q
  ·obtain⟨c,hc⟩:∃c,(P.length+1+p+(P.length+1+q))/2=P.length+1+c:=⟨(p+q)/2,by omega⟩
   have tO:p<=c:=by omega
   have Te:c<q:=by omega
   have e1:((P.length+1+p:Nat):Int)<((P.length+1+q:Nat):Int):=by omega
   have e2:(((P.length+1+p:Nat):Int)+((P.length+1+q:Nat):Int))/2=((P.length+1+c:Nat):Int):=by omega
   have hy:Y.getD c 0<ws.length:=hY _ (by rw[aC,aR (by omega)];exact ep _)
   have g1:(cj (P++x::Y++Q))[P.length+1+c]? =some (.int .i64 (Y.getD c 0:Nat)):=by
    rw[lX (by omega),show P++x::Y++Q=(P++[x])++Y++Q by simp,DI _ _ _ c _ (by simp) (by omega)]
   have g2:(cj (P++x::Y++Q))[P.length]? =some (.int .i64 (x:Nat)):=by
    rw[lX (by omega),show P++x::Y++Q=P++x::(Y++Q) by simp,pP _ _ _ _ rfl]
   try simp(disch:=first|omega|assumption|exact aa _) only[ag,ae,RZ,e1,wrap_u64,xf,zs,e2,hh,g1,g2,DJ]
   refine bV (DK lf d _ x h n g pw ws hE hy hx) eE (fun _ _ h=>h.elim) ?_
   have e4:=DH (aP ws (Y.getD c 0)) (aP ws x)
   try simp(disch:=first|omega|assumption|exact aa _) only[ag,ae,RZ,e4]
   by_cases hk:aP ws (Y.getD c 0)<aP ws x
   ·have w1:IntKind.i64.wrap (((P.length+1+c:Nat):Int)+1)=((P.length+1+(c+1):Nat):Int):=by rw[aV (by omega) (by omega)];omega
    try simp(disch:=first|omega|assumption|exact aa _) only[ag,ae,RZ,hk,w1]
    have w2:((P.length+1+c:Nat):Int)+1=((P.length+1+(c+1):Nat):Int):=by omega
    try rw[w2]
    exact ih (c+1) q fu (by omega) (by omega) (by omega) hq (.inr (by simpa using hk)) h2
   ·try simp(disch:=first|omega|assumption|exact aa _) only[ag,ae,RZ,hk]
    exact ih p c fu (by omega) (by omega) (by omega) (by omega) h1 (.inr hk)
  ·obtain rfl:p=q:=by omega
   try simp(disch:=first|omega|assumption|exact aa _) only[ag,ae,RZ,c9]
   exact hK p _ hq h1 h2
theorem acp (lf d g n cap:Nat) (h:H) (P Y Q:List Nat) (x p:Nat) (N:Nat) (hN:(P++x::Y++Q).length=N) (c8:N<=1000000) (hp:p<=Y.length) (hg:g<n) {W:Nat->Prop} {n0:Nat} (hW:n0<=g∨W g) {R:Value->H->Nat->Prop} (k:(M Value)) (x1 x2 x3 x4 x11 oI x33:Value)
 (hK:∀hr,At h hr g (P++(Y.take p++x::Y.drop p)++Q)->ah W n0 (k) hr n R):
 ∀(m t fu:Nat) (hr:H),p-t<=m->m<fu->t<=p->At h hr g (P++(Y.take t++x::Y.drop t)++Q)->
  ah W n0 (ve lf (aq ai gt lf d) fu k (.slice (some ⟨g,0,none⟩) N cap) x1 x2 x3 x4 (.int .i64 ((P.length+1+p:Nat):Int)) x11 (.int .i64 ((P.length+t:Nat):Int)) oI x33) hr n R:=by
 have lN:=hN
 simp only[aM,cu]at lN
 have w1:IntKind.i64.wrap (((P.length+1+p:Nat):Int)-1)=((P.length+p:Nat):Int):=by rw[aV (by omega) (by omega)];omega
 intro m
 induction m with
 |zero=>
  intro t fu hr hm cC ht hA
  obtain⟨fu,rfl⟩:∃f,fu=f+1:=⟨fu-1,by omega⟩
  obtain rfl:t=p:=by omega
  rw[ve]
  try simp(disch:=first|omega|assumption|exact aa _) only[ag,ae,RZ,c9,w1]
  exact hK hr hA
 |succ m ih=>
  intro t fu hr hm cC ht hA
  obtain⟨fu,rfl⟩:∃f,fu=f+1:=⟨fu-1,by omega⟩
  rw[ve]
  by_cases bf:t<p
  ·have e1:((P.length+t:Nat):Int)<((P.length+p:Nat):Int):=by omega
   have w2:IntKind.i64.wrap (((P.length+t:Nat):Int)+1)=((P.length+(t+1):Nat):Int):=by rw[aV (by omega) (by omega)];omega
   have hd:Y.drop t=Y.getD t 0::Y.drop (t+1):=by rw[Lo (by omega),aC,aR (by omega)];rfl
   have jr:Y.take (t+1)=Y.take t++[Y.getD t 0]:=by rw[mQ (by omega),aC,aR (by omega)];rfl
   obtain⟨y,hy⟩:∃y,Y.getD t 0=y:=⟨_,rfl⟩
   rw[hy]at hd jr
   have lt:(Y.take t).length=t:=by rw[dW];omega
   have ld:(Y.drop (t+1)).length=Y.length-(t+1):=eP
   rw[hd]at hA
   have s1:P++(Y.take t++x::y::Y.drop (t+1))++Q=(P++Y.take t)++x::(y::(Y.drop (t+1)++Q)):=by simp
   have s2:P++(Y.take t++x::y::Y.drop (t+1))++Q=(P++Y.take t++[x])++y::(Y.drop (t+1)++Q):=by simp
   have hl:(P++(Y.take t++x::y::Y.drop (t+1))++Q).length=N:=by simp;omega
   have g1:(cj (P++(Y.take t++x::y::Y.drop (t+1))++Q))[P.length+t]? =some (.int .i64 (x:Nat)):=by
    rw[lX (by omega),s1,pP _ _ _ _ (by simp;omega)]
   have g2:(cj (P++(Y.take t++x::y::Y.drop (t+1))++Q))[P.length+(t+1)]? =some (.int .i64 (y:Nat)):=by
    rw[lX (by omega),s2,pP _ _ _ _ (by simp;omega)]
   have j5:((P++(Y.take t++x::y::Y.drop (t+1))++Q).set (P.length+t) y).set (P.length+(t+1)) x=P++(Y.take (t+1)++x::Y.drop (t+1))++Q:=by
    rw[s1,sQ _ _ _ _ _ (by simp;omega),show P++Y.take t++y::y::(Y.drop (t+1)++Q)=(P++Y.take t++[y])++y::(Y.drop (t+1)++Q) by simp,sQ _ _ _ _ _ (by simp;omega),jr]
    simp
   have c0:=hA.1
   try simp(disch:=first|omega|assumption|exact aa _) only[ag,ae,RZ,e1,w1,w2,c0,g1,g2,qX,DL,rz,j5]
   refine⟨by omega,hW,by omega,hW, ?_⟩
   exact ih (t+1) fu _ (by omega) (by omega) (by omega) ((hA.set (ys:=(P++(Y.take t++x::y::Y.drop (t+1))++Q).set (P.length+t) y) rfl rfl).set rfl rfl)
  ·obtain rfl:t=p:=by omega
   try simp(disch:=first|omega|assumption|exact aa _) only[ag,ae,RZ,c9,w1]
   exact hK hr hA
theorem acq (lf d g n cap pw:Nat) (ws:List Int) (h:H) (P X Q:List Nat) (y:Nat) (N:Nat) (hN:(P++X++y::Q).length=N) (c8:N<=1000000) (hE:jy h n g pw ws) (hg:g<n) (hh:h.get g=some ⟨3,true,cj (P++X++y::Q)⟩) (hy:y<ws.length) (hX:∀z∈X,z<ws.length) {W:Nat->Prop} {n0:Nat} (eE:n0<=n) {R:Value->H->Nat->Prop} (k:(Value->Value->Value->Value->Value->Value->Value->Value->Value->Value->M Value)) (x1 x3 oI xg:Value)
 (hK:∀p Tf,p<=X.length->(p=0∨¬aP ws y<aP ws (X.getD (p-1) 0))->(p=X.length∨aP ws y<aP ws (X.getD p 0))->ah W n0 (k (.slice (some ⟨g,0,none⟩) N cap) x1 (.int .i64 ((P.length+X.length:Nat):Int)) x3 (.func (.func 150) #[] #[.pointer (some ⟨pw,0,none⟩)]) (.int .i64 ((P.length+p:Nat):Int)) (.int .i64 ((P.length+p:Nat):Int)) oI xg Tf) h n R):
 ∀(m p q fu:Nat),q-p<=m->m<fu->p<=q->q<=X.length->(p=0∨¬aP ws y<aP ws (X.getD (p-1) 0))->(q=X.length∨aP ws y<aP ws (X.getD q 0))->
  ah W n0 (sO lf (aq ai gt lf (d+3)) fu k (.slice (some ⟨g,0,none⟩) N cap) x1 (.int .i64 ((P.length+X.length:Nat):Int)) x3 (.func (.func 150) #[] #[.pointer (some ⟨pw,0,none⟩)]) (.int .i64 ((P.length+p:Nat):Int)) (.int .i64 ((P.length+q:Nat):Int)) oI xg) h n R:=by
 have lN:=hN
 simp only[aM,cu]at lN
 intro m
 induction m with
 |zero=>
  intro p q fu hm cC dO hq h1 h2
  obtain⟨fu,rfl⟩:∃f,fu=f+1:=⟨fu-1,by omega⟩
  obtain rfl:p=q:=by omega
  rw[sO]
  try simp(disch:=first|omega|assumption|exact aa _) only[ag,ae,RZ,c9]
  exact hK p _ hq h1 h2
 |succ m ih=>
  intro p q fu hm cC dO hq h1 h2
  obtain⟨fu,rfl⟩:∃f,fu=f+1:=⟨fu-1,by omega⟩
  rw[sO]
  by_cases bf:p<q
  ·obtain⟨c,hc⟩:∃c,(P.length+p+(P.length+q))/2=P.length+c:=⟨(p+q)/2,by omega⟩
   have tO:p<=c:=by omega
   have Te:c<q:=by omega
   have e1:((P.length+p:Nat):Int)<((P.length+q:Nat):Int):=by omega
   have e2:(((P.length+p:Nat):Int)+((P.length+q:Nat):Int))/2=((P.length+c:Nat):Int):=by omega
   have hx:X.getD c 0<ws.length:=hX _ (by rw[aC,aR (by omega)];exact ep _)
   have g1:(cj (P++X++y::Q))[P.length+c]? =some (.int .i64 (X.getD c 0:Nat)):=by
    rw[lX (by omega),DI _ _ _ c _ rfl (by omega)]
   have g2:(cj (P++X++y::Q))[P.length+X.length]? =some (.int .i64 (y:Nat)):=by
    rw[lX (by omega),pP _ _ _ _ (by simp)]
   try simp(disch:=first|omega|assumption|exact aa _) only[ag,ae,RZ,e1,wrap_u64,xf,zs,e2,hh,g1,g2,DJ]
   refine bV (DK lf d y _ h n g pw ws hE hy hx) eE (fun _ _ h=>h.elim) ?_
   have e4:=DH (aP ws y) (aP ws (X.getD c 0))
   try simp(disch:=first|omega|assumption|exact aa _) only[ag,ae,RZ,e4]
   by_cases hk:aP ws y<aP ws (X.getD c 0)
   ·try simp(disch:=first|omega|assumption|exact aa _) only[ag,ae,RZ,hk,decide_true,gu]
    exact ih p c fu (by omega) (by omega) (by omega) (by omega) h1 (.inr hk)
   ·have w1:IntKind.i64.wrap (((P.length+c:Nat):Int)+1)=((P.length+(c+1):Nat):Int):=by rw[aV (by omega) (by omega)];omega
    have w2:((P.length+c:Nat):Int)+1=((P.length+(c+1):Nat):Int):=by omega
    try simp(disch:=first|omega|assumption|exact aa _) only[ag,ae,RZ,hk,decide_false,gZ,w1]
    try rw[w2]
    exact ih (c+1) q fu (by omega) (by omega) (by omega) hq (.inr (by simpa using hk)) h2
  ·obtain rfl:p=q:=by omega
   try simp(disch:=first|omega|assumption|exact aa _) only[ag,ae,RZ,c9]
   exact hK p _ hq h1 h2
theorem acr (lf d g n cap:Nat) (h:H) (P X Q:List Nat) (y p:Nat) (N:Nat) (hN:(P++X++y::Q).length=N) (c8:N<=1000000) (hp:p<=X.length) (hg:g<n) {W:Nat->Prop} {n0:Nat} (hW:n0<=g∨W g) {R:Value->H->Nat->Prop} (k:(M Value)) (x1 x2 x3 x4 x15 oI xg x85:Value)
 (hK:∀hr,At h hr g (P++(X.take p++y::X.drop p)++Q)->ah W n0 (k) hr n R):
 ∀(m t fu:Nat) (hr:H),t-p=m->m<fu->p<=t->t<=X.length->At h hr g (P++(X.take t++y::X.drop t)++Q)->
  ah W n0 (vh lf (aq ai gt lf d) fu k (.slice (some ⟨g,0,none⟩) N cap) x1 x2 x3 x4 (.int .i64 ((P.length+p:Nat):Int)) x15 (.int .i64 ((P.length+t:Nat):Int)) oI xg x85) hr n R:=by
 have lN:=hN
 simp only[aM,cu]at lN
 intro m
 induction m with
 |zero=>
  intro t fu hr hm cC ht xh hA
  obtain⟨fu,rfl⟩:∃f,fu=f+1:=⟨fu-1,by omega⟩
  obtain rfl:t=p:=by omega
  rw[vh]
  try simp(disch:=first|omega|assumption|exact aa _) only[ag,ae,RZ,c9]
  exact hK hr hA
 |succ m ih=>
  intro t fu hr hm cC ht xh hA
  obtain⟨fu,rfl⟩:∃f,fu=f+1:=⟨fu-1,by omega⟩
  obtain⟨t,rfl⟩:∃f,t=f+1:=⟨t-1,by omega⟩
  rw[vh]
  have e1:((P.length+p:Nat):Int)<((P.length+(t+1):Nat):Int):=by omega
  have w2:IntKind.i64.wrap (((P.length+(t+1):Nat):Int)-1)=((P.length+t:Nat):Int):=by rw[aV (by omega) (by omega)];omega
  have hd:X.drop t=X.getD t 0::X.drop (t+1):=by rw[Lo (by omega),aC,aR (by omega)];rfl
  have jr:X.take (t+1)=X.take t++[X.getD t 0]:=by rw[mQ (by omega),aC,aR (by omega)];rfl
  obtain⟨x,hx⟩:∃y,X.getD t 0=y:=⟨_,rfl⟩
  rw[hx]at hd jr
  have lt:(X.take t).length=t:=by rw[dW];omega
  have ld:(X.drop (t+1)).length=X.length-(t+1):=eP
  rw[jr]at hA
  have s1:P++(X.take t++[x]++y::X.drop (t+1))++Q=(P++X.take t)++x::(y::(X.drop (t+1)++Q)):=by simp
  have s2:P++(X.take t++[x]++y::X.drop (t+1))++Q=(P++X.take t++[x])++y::(X.drop (t+1)++Q):=by simp
  have hl:(P++(X.take t++[x]++y::X.drop (t+1))++Q).length=N:=by simp;omega
  have g1:(cj (P++(X.take t++[x]++y::X.drop (t+1))++Q))[P.length+t]? =some (.int .i64 (x:Nat)):=by
   rw[lX (by omega),s1,pP _ _ _ _ (by simp;omega)]
  have g2:(cj (P++(X.take t++[x]++y::X.drop (t+1))++Q))[P.length+(t+1)]? =some (.int .i64 (y:Nat)):=by
   rw[lX (by omega),s2,pP _ _ _ _ (by simp;omega)]
  have j5:((P++(X.take t++[x]++y::X.drop (t+1))++Q).set (P.length+(t+1)) x).set (P.length+t) y=P++(X.take t++y::X.drop t)++Q:=by
   rw[s2,sQ _ _ _ _ _ (by simp;omega),show P++X.take t++[x]++x::(X.drop (t+1)++Q)=(P++X.take t)++x::(x::(X.drop (t+1)++Q)) by simp,sQ _ _ _ _ _ (by simp;omega),hd]
   simp
  have c0:=hA.1
  try simp(disch:=first|omega|assumption|exact aa _) only[ag,ae,RZ,e1,w2,c0,g1,g2,qX,DL,rz,j5]
  refine⟨by omega,hW,by omega,hW, ?_⟩
  exact ih t fu _ (by omega) (by omega) (by omega) (by omega) ((hA.set (ys:=(P++(X.take t++[x]++y::X.drop (t+1))++Q).set (P.length+(t+1)) x) rfl rfl).set rfl rfl)
def mE(h:H)(g n:Nat)(ws:List Int)(P XY Q:List Nat)(h':H)(n':Nat):Prop:=n'=n∧∃Z,Z.Perm XY∧Z.Pairwise (RI (aP ws))∧At h h' g (P++Z++Q)
def FT(pw:Nat):Value:= .func (.func 150) #[] #[.pointer (some ⟨pw,0,none⟩)]
theorem acs(lf d g n cap pw:Nat)(ws:List Int)(h:H)(P Y Q:List Nat)(x:Nat)(N:Nat)(a m b:Int)(aw:3000000<=lf)(hN:(P++x::Y++Q).length=N)(c8:N<=1000000)(ha:a=(P.length:Nat))(hm:m=((P.length+1:Nat):Int))(hb:b=((P.length+1+Y.length:Nat):Int))(hE:jy h n g pw ws)(hg:g<n)(hh:h.get g=some ⟨3,true,cj (P++x::Y++Q)⟩)(bW:∀z∈x::Y,z<ws.length)(hy:Y.Pairwise (RI (aP ws)))(gO:∀y∈Y,x<y):
 ah (fun z=>z=g) n (aq ai gt lf (d+4) 155 #[.slice (some ⟨g,0,none⟩) N cap,.int .i64 a,.int .i64 m,.int .i64 b,FT pw]) h n fun _ h' n'=>mE h g n ws P (x::Y) Q h' n':=by
 subst ha hm hb
 have lN:=hN
 simp only[aM,cu]at lN
 rw[aD (fun _=>DD) rfl]
 refine ah.aB ?_
 unfold wY FT
 have w1:IntKind.i64.wrap (((P.length+1:Nat):Int)-((P.length:Nat):Int))=1:=by rw[aV (by omega) (by omega)];omega
 try simp(disch:=first|omega|assumption|exact aa _) only[ag,ae,RZ,w1,beq_self_eq_true]
 have:=aco (W:=fun z=>z=g) lf d g n cap pw ws h P Y Q x N hN c8 hE hg hh (bW x (by simp)) (fun z hz=>bW z (by simp[hz])) (ak n) (R:=fun _ h' n'=>mE h g n ws P (x::Y) Q h' n') (zh lf (aq ai gt lf (d+3))) (.int .i64 ((P.length+1:Nat):Int)) (.int .i64 ((P.length+1+Y.length:Nat):Int)) (.bool true) (fun p Td hp h1 h2=>by
  (try unfold zh);(try dsimp only)
  refine acp (W:=fun z=>z=g) lf (d+3) g n cap h P Y Q x p N hN c8 hp hg (.inr rfl) _ _ _ _ _ _ _ _ (fun hr hA=> ?_) p 0 lf h (by omega) (by omega) (cb _) ⟨by simpa using hh,fun b hb=>rfl⟩
  (try unfold I7);(try unfold aiC);(try dsimp only)
  try simp(disch:=first|omega|assumption|exact aa _) only[ag,ae,RZ]
  refine⟨rfl,_, ?_, ?_,hA⟩
  ·have:=ahV (a:=x) (l₁:=Y.take p) (l₂:=Y.drop p)
   rw[jm]at this
   exact this
  ·refine S6 hy hp ?_ ?_
   ·rcases h1 with h1|h1
    ·exact .inl h1
    ·exact .inr (.inl h1)
   ·rcases h2 with h2|h2
    ·exact .inl h2
    ·by_cases dN:p=Y.length
     ·exact .inl dN
     ·exact .inr (Je (gO _ (by rw[aC,aR (by omega)];exact ep _)) h2)) Y.length 0 Y.length lf (by omega) (by omega) (by omega) (by omega) (.inl rfl) (.inl rfl)
 exact this
theorem acu(lf d g n cap pw:Nat)(ws:List Int)(h:H)(P X Q:List Nat)(y:Nat)(N:Nat)(a m b:Int)(aw:3000000<=lf)(hN:(P++X++y::Q).length=N)(c8:N<=1000000)(hX2:2<=X.length)(ha:a=(P.length:Nat))(hm:m=((P.length+X.length:Nat):Int))(hb:b=((P.length+X.length+1:Nat):Int))(hE:jy h n g pw ws)(hg:g<n)(hh:h.get g=some ⟨3,true,cj (P++X++y::Q)⟩)(FD:y<ws.length)(bW:∀z∈X,z<ws.length)(hx:X.Pairwise (RI (aP ws)))(gO:∀x∈X,x<y):
 ah (fun z=>z=g) n (aq ai gt lf (d+4) 155 #[.slice (some ⟨g,0,none⟩) N cap,.int .i64 a,.int .i64 m,.int .i64 b,FT pw]) h n fun _ h' n'=>mE h g n ws P (X++[y]) Q h' n':=by
 subst ha hm hb
 have lN:=hN
 simp only[aM,cu]at lN
 rw[aD (fun _=>DD) rfl]
 refine ah.aB ?_
 unfold wY FT
 have w1:(IntKind.i64.wrap (((P.length+X.length:Nat):Int)-((P.length:Nat):Int))==1)=false:=by rw[aV (by omega) (by omega),beq_eq_false_iff_ne];omega
 have w1':((((P.length+X.length:Nat):Int)-((P.length:Nat):Int))==1)=false:=by rw[beq_eq_false_iff_ne];omega
 have w2:IntKind.i64.wrap (((P.length+X.length+1:Nat):Int)-((P.length+X.length:Nat):Int))=1:=by rw[aV (by omega) (by omega)];omega
 try simp(disch:=first|omega|assumption|exact aa _) only[ag,ae,RZ,w1,w1',w2,beq_self_eq_true]
 have:=acq (W:=fun z=>z=g) lf d g n cap pw ws h P X Q y N hN c8 hE hg hh FD bW (ak n) (R:=fun _ h' n'=>mE h g n ws P (X++[y]) Q h' n') (zg lf (aq ai gt lf (d+3))) (.int .i64 ((P.length:Nat):Int)) (.int .i64 ((P.length+X.length+1:Nat):Int)) (.bool false) (.bool true) (fun p Tf hp h1 h2=>by
  (try unfold zg);(try unfold aiD);(try dsimp only)
  refine acr (W:=fun z=>z=g) lf (d+3) g n cap h P X Q y p N hN c8 hp hg (.inr rfl) _ _ _ _ _ _ _ _ _ (fun hr hA=> ?_) (X.length-p) X.length lf h rfl (by omega) hp (ak _) ⟨by simpa using hh,fun b hb=>rfl⟩
  (try unfold I6);(try unfold aiE);(try dsimp only)
  try simp(disch:=first|omega|assumption|exact aa _) only[ag,ae,RZ]
  refine⟨rfl,_, ?_, ?_,hA⟩
  ·have:=ahV (a:=y) (l₁:=X.take p) (l₂:=X.drop p)
   rw[jm]at this
   exact this.trans (ahS y X).symm
  ·refine S6 hx hp ?_ ?_
   ·rcases h1 with h1|h1
    ·exact .inl h1
    ·by_cases FL:p=0
     ·exact .inl FL
     ·exact .inr (Je (gO _ (by rw[aC,aR (by omega)];exact ep _)) h1)
   ·rcases h2 with h2|h2
    ·exact .inl h2
    ·exact .inr (.inl h2)) X.length 0 X.length lf (by omega) (by omega) (by omega) (by omega) (.inl rfl) (.inl rfl)
 exact this
theorem acv (lf d g n cap pw:Nat) (ws:List Int) (h:H) (P X Y Q:List Nat) (hm:Nat) (N:Nat) (hN:(P++X++Y++Q).length=N) (c8:N<=1000000) (hE:jy h n g pw ws) (hg:g<n) (hh:h.get g=some ⟨3,true,cj (P++X++Y++Q)⟩) (hX:∀z∈X,z<ws.length) (hY:∀z∈Y,z<ws.length) (gO:∀x∈X,∀y∈Y,x<y) (vk:hm<=X.length+Y.length) {W:Nat->Prop} {n0:Nat} (eE:n0<=n) {R:Value->H->Nat->Prop} (k:(Value->Value->Value->Value->Value->Value->Value->Value->M Value)) (x1 x2 x3 Tg Th oI xg acw:Value) (pp:Int) (rV:pp=((P.length+hm+P.length+X.length:Nat):Int)-1)
 (hK:∀s,s<=X.length->s<=hm->hm-s<=Y.length->(s=0∨hm-s=Y.length∨RI (aP ws) (X.getD (s-1) 0) (Y.getD (hm-s) 0))->(s=X.length∨s=hm∨RI (aP ws) (Y.getD (hm-1-s) 0) (X.getD s 0))->ah W n0 (k (.slice (some ⟨g,0,none⟩) N cap) x1 x2 x3 (FT pw) Tg Th (.int .i64 ((P.length+s:Nat):Int))) h n R):
 ∀(m s r fu:Nat),r-s<=m->m<fu->s<=r->r<=X.length->r<=hm->hm-s<=Y.length->(s=0∨hm-s=Y.length∨RI (aP ws) (X.getD (s-1) 0) (Y.getD (hm-s) 0))->(r=X.length∨r=hm∨RI (aP ws) (Y.getD (hm-1-r) 0) (X.getD r 0))->
  ah W n0 (sP lf (aq ai gt lf (d+3)) fu k (.slice (some ⟨g,0,none⟩) N cap) x1 x2 x3 (FT pw) Tg Th (.int .i64 ((P.length+s:Nat):Int)) (.int .i64 ((P.length+r:Nat):Int)) (.int .i64 pp) oI xg acw) h n R:=by
 have lN:=hN
 simp only[aM]at lN
 intro m
 induction m with
 |zero=>
  intro s r fu hrs cC hsr DM DN xi h1 h2
  obtain⟨fu,rfl⟩:∃f,fu=f+1:=⟨fu-1,by omega⟩
  obtain rfl:s=r:=by omega
  rw[sP]
  try simp(disch:=first|omega|assumption|exact aa _) only[ag,ae,RZ,c9]
  exact hK s DM DN xi h1 h2
 |succ m ih=>
  intro s r fu hrs cC hsr DM DN xi h1 h2
  obtain⟨fu,rfl⟩:∃f,fu=f+1:=⟨fu-1,by omega⟩
  rw[sP]
  by_cases bf:s<r
  ·obtain⟨c,hc⟩:∃c,(P.length+s+(P.length+r))/2=P.length+c:=⟨(s+r)/2,by omega⟩
   have tO:s<=c:=by omega
   have Te:c<r:=by omega
   have e1:((P.length+s:Nat):Int)<((P.length+r:Nat):Int):=by omega
   have e2:(((P.length+s:Nat):Int)+((P.length+r:Nat):Int))/2=((P.length+c:Nat):Int):=by omega
   have hx:X.getD c 0∈X:=by rw[aC,aR (by omega)];exact ep _
   have hy:Y.getD (hm-1-c) 0∈Y:=by rw[aC,aR (by omega)];exact ep _
   have w0:IntKind.i64.wrap (pp-((P.length+c:Nat):Int))=((P.length+X.length+(hm-1-c):Nat):Int):=by rw[aV (by omega) (by omega)];omega
   have g1:(cj (P++X++Y++Q))[P.length+c]? =some (.int .i64 (X.getD c 0:Nat)):=by
    rw[lX (by simp;omega),show P++X++Y++Q=P++X++(Y++Q) by simp,DI _ _ _ c _ rfl (by omega)]
   have g2:(cj (P++X++Y++Q))[P.length+X.length+(hm-1-c)]? =some (.int .i64 (Y.getD (hm-1-c) 0:Nat)):=by
    rw[lX (by simp;omega),DI (P++X) Y Q (hm-1-c) _ (by simp) (by omega)]
   unfold FT at*
   try simp(disch:=first|omega|assumption|exact aa _) only[ag,ae,RZ,e1,wrap_u64,xf,zs,e2,w0,hh,g1,g2,DJ]
   refine bV (DK lf d _ _ h n g pw ws hE (hY _ hy) (hX _ hx)) eE (fun _ _ h=>h.elim) ?_
   have e4:=DH (aP ws (Y.getD (hm-1-c) 0)) (aP ws (X.getD c 0))
   try simp(disch:=first|omega|assumption|exact aa _) only[ag,ae,RZ,e4]
   by_cases hk:aP ws (Y.getD (hm-1-c) 0)<aP ws (X.getD c 0)
   ·try simp(disch:=first|omega|assumption|exact aa _) only[ag,ae,RZ,hk,decide_true,gu]
    exact ih s c fu (by omega) (by omega) (by omega) (by omega) (by omega) xi h1 (.inr (.inr (.inl hk)))
   ·have w1:IntKind.i64.wrap (((P.length+c:Nat):Int)+1)=((P.length+(c+1):Nat):Int):=by rw[aV (by omega) (by omega)];omega
    have w2:((P.length+c:Nat):Int)+1=((P.length+(c+1):Nat):Int):=by omega
    try simp(disch:=first|omega|assumption|exact aa _) only[ag,ae,RZ,hk,decide_false,gZ,w1]
    try rw[w2]
    refine ih (c+1) r fu (by omega) (by omega) (by omega) DM DN (by omega) (.inr (.inr ?_)) h2
    rw[show c+1-1=c by omega,show hm-(c+1)=hm-1-c by omega]
    exact Je (gO _ hx _ hy) hk
  ·obtain rfl:s=r:=by omega
   try simp(disch:=first|omega|assumption|exact aa _) only[ag,ae,RZ,c9]
   exact hK s DM DN xi h1 h2
def Ti(lf g cap pw N:Nat)(ws:List Int)(l:Nat):Prop:=
 ∀(d n:Nat) (h:H) (P X Y Q:List Nat) (a m b:Int),X.length+Y.length<=l->(P++X++Y++Q).length=N->a=(P.length:Nat)->m=((P.length+X.length:Nat):Int)->b=((P.length+X.length+Y.length:Nat):Int)->1<=X.length->1<=Y.length->jy h n g pw ws->g<n->h.get g=some ⟨3,true,cj (P++X++Y++Q)⟩->(∀z∈X++Y,z<ws.length)->X.Pairwise (RI (aP ws))->Y.Pairwise (RI (aP ws))->(∀x∈X,∀y∈Y,x<y)->
  ah (fun z=>z=g) n (aq ai gt lf (d+l+4) 155 #[.slice (some ⟨g,0,none⟩) N cap,.int .i64 a,.int .i64 m,.int .i64 b,FT pw]) h n fun _ h' n'=>mE h g n ws P (X++Y) Q h' n'
theorem mE.run{h hr:H}{g n:Nat}{ws:List Int}{P Z Q:List Nat}{QQ:H->Nat->Prop}(e:∀h',(∃Z',Z'.Perm Z∧Z'.Pairwise (RI (aP ws))∧At hr h' g (P++Z'++Q))->QQ h' n){h':H}{n':Nat}(q:mE hr g n ws P Z Q h' n'):QQ h' n':=by
 obtain⟨rfl,q⟩:=q
 exact e _ q
set_option maxHeartbeats 1000000 in
theorem acx(lf g cap pw N:Nat)(ws:List Int)(aw:3000000<=lf)(c8:N<=1000000)(l:Nat)(ih:Ti lf g cap pw N ws l)(d n:Nat)(h:H)(P X Y Q:List Nat)(hl:X.length+Y.length<=l+1)(hN:(P++X++Y++Q).length=N)(hX2:2<=X.length)(hY2:2<=Y.length)(hE:jy h n g pw ws)(hg:g<n)(hh:h.get g=some ⟨3,true,cj (P++X++Y++Q)⟩)(bW:∀z∈X++Y,z<ws.length)(hx:X.Pairwise (RI (aP ws)))(hy:Y.Pairwise (RI (aP ws)))(gO:∀x∈X,∀y∈Y,x<y):
 ah (fun z=>z=g) n (aq ai gt lf (d+l+4+1) 155 #[.slice (some ⟨g,0,none⟩) N cap,.int .i64 (P.length:Nat),.int .i64 ((P.length+X.length:Nat):Int),.int .i64 ((P.length+X.length+Y.length:Nat):Int),FT pw]) h n fun _ h' n'=>mE h g n ws P (X++Y) Q h' n':=by
 have lN:=hN
 simp only[aM]at lN
 rw[aD (fun _=>DD) rfl]
 refine ah.aB ?_
 unfold wY
 obtain⟨hm,hhm⟩:∃hm,(P.length+(P.length+X.length+Y.length))/2=P.length+hm:=⟨(X.length+Y.length)/2,by omega⟩
 have hm1:1<=hm:=by omega
 have gB:hm<X.length+Y.length:=by omega
 have w1:(((P.length+X.length:Nat):Int)-((P.length:Nat):Int)==1)=false:=by rw[beq_eq_false_iff_ne];omega
 have w2:(((P.length+X.length+Y.length:Nat):Int)-((P.length+X.length:Nat):Int)==1)=false:=by rw[beq_eq_false_iff_ne];omega
 have w3:(((P.length:Nat):Int)+((P.length+X.length+Y.length:Nat):Int))/2=((P.length+hm:Nat):Int):=by omega
 have w4:IntKind.i64.wrap (((P.length+hm:Nat):Int)+((P.length+X.length:Nat):Int))=((P.length+hm+P.length+X.length:Nat):Int):=by rw[aV (by omega) (by omega)];omega
 have fin:∀s,s<=X.length->s<=hm->hm-s<=Y.length->(s=0∨hm-s=Y.length∨RI (aP ws) (X.getD (s-1) 0) (Y.getD (hm-s) 0))->(s=X.length∨s=hm∨RI (aP ws) (Y.getD (hm-1-s) 0) (X.getD s 0))->
  ah (fun z=>z=g) n (zf lf (aq ai gt lf (d+l+4)) (.slice (some ⟨g,0,none⟩) N cap) (.int .i64 (P.length:Nat)) (.int .i64 ((P.length+X.length:Nat):Int)) (.int .i64 ((P.length+X.length+Y.length:Nat):Int)) (FT pw) (.int .i64 ((P.length+hm:Nat):Int)) (.int .i64 ((P.length+hm+P.length+X.length:Nat):Int)) (.int .i64 ((P.length+s:Nat):Int))) h n fun _ h' n'=>mE h g n ws P (X++Y) Q h' n':=by
  intro s hsX hsh xi h1 h2
  have hc:=acf hx hy hm s hsX hsh xi h1 h2
  obtain⟨X1,DO⟩:∃X1,X.take s=X1:=⟨_,rfl⟩
  obtain⟨X2,DP⟩:∃X2,X.drop s=X2:=⟨_,rfl⟩
  obtain⟨Y1,DQ⟩:∃Y1,Y.take (hm-s)=Y1:=⟨_,rfl⟩
  obtain⟨Y2,DR⟩:∃Y2,Y.drop (hm-s)=Y2:=⟨_,rfl⟩
  have sj:=fun Z1 Z2 p1 p2 s1 s2=>acg (Z1:=Z1) (Z2:=Z2) (X:=X) (Y:=Y) (h:=hm) (s:=s) (k:=aP ws) p1 p2 s1 s2 hc
  have eX:X1++X2=X:=by rw[<-DO,<-DP];exact jm _ _
  have eY:Y1++Y2=Y:=by rw[<-DQ,<-DR];exact jm _ _
  have lX1:X1.length=s:=by rw[<-DO,dW];omega
  have lY1:Y1.length=hm-s:=by rw[<-DQ,dW];omega
  have lX2:X2.length=X.length-s:=by rw[<-DP,eP]
  have lY2:Y2.length=Y.length-(hm-s):=by rw[<-DR,eP]
  have Tj:X1.Pairwise (RI (aP ws)):=by rw[<-DO];exact hx.sublist (Fb _ _)
  have Tl:X2.Pairwise (RI (aP ws)):=by rw[<-DP];exact hx.sublist (ahW _ _)
  have Tm:Y1.Pairwise (RI (aP ws)):=by rw[<-DQ];exact hy.sublist (Fb _ _)
  have Tn:Y2.Pairwise (RI (aP ws)):=by rw[<-DR];exact hy.sublist (ahW _ _)
  simp only[DO,DP,DQ,DR]at sj
  have To:∀z∈X1,z∈X:=fun z hz=>by rw[<-eX];simp[hz]
  have Tp:∀z∈X2,z∈X:=fun z hz=>by rw[<-eX];simp[hz]
  have Tq:∀z∈Y1,z∈Y:=fun z hz=>by rw[<-eY];simp[hz]
  have Ts:∀z∈Y2,z∈Y:=fun z hz=>by rw[<-eY];simp[hz]
  (try unfold zf);(try unfold aiF);(try dsimp only)
  have w5:IntKind.i64.wrap (((P.length+hm+P.length+X.length:Nat):Int)-((P.length+s:Nat):Int))=((P.length+X.length+(hm-s):Nat):Int):=by rw[aV (by omega) (by omega)];omega
  have t3:∀hr Z,Z.Perm (X1++Y1)->Z.Pairwise (RI (aP ws))->At h hr g (P++Z++(X2++Y2)++Q)->ah (fun z=>z=g) n (
   aO (.int .i64 ((P.length+hm:Nat):Int)) (.int .i64 ((P.length+X.length+(hm-s):Nat):Int)) fun vl=>
   an vl (
    aO (.int .i64 ((P.length+X.length+(hm-s):Nat):Int)) (.int .i64 ((P.length+X.length+Y.length:Nat):Int)) fun vm=>
    an vm (
     au (aq ai gt lf (d+l+4)) 155 [.slice (some ⟨g,0,none⟩) N cap,.int .i64 ((P.length+hm:Nat):Int),.int .i64 ((P.length+X.length+(hm-s):Nat):Int),.int .i64 ((P.length+X.length+Y.length:Nat):Int),FT pw] fun Jl=>
     aj []) (
     aj [])) (
    aj [])) hr n fun _ h' n'=>mE h g n ws P (X++Y) Q h' n':=by
   intro hr Z pZ sZ hA
   have lZ:=pZ.length_eq
   simp only[aM]at lZ
   have done:∀h' Z2,Z2.Perm (X2++Y2)->Z2.Pairwise (RI (aP ws))->At h h' g (P++Z++Z2++Q)->mE h g n ws P (X++Y) Q h' n:=fun h' Z2 p2 s2 jA=>by
    obtain⟨q1,q2⟩:=sj Z Z2 pZ p2 sZ s2
    exact⟨rfl,Z++Z2,q1,q2,by rw[<-cE];exact jA⟩
   by_cases c1:X2=[]∨Y2=[]
   ·
    have fx:(X2++Y2).Pairwise (RI (aP ws)):=by
     rcases c1 with c1|c1
     ·rw[c1];exact Tn
     ·rw[c1,dF];exact Tl
    have D:=done hr _ (Fa _) fx hA
    by_cases c2:((P.length+hm:Nat):Int)<((P.length+X.length+(hm-s):Nat):Int)
    ·by_cases c3:((P.length+X.length+(hm-s):Nat):Int)<((P.length+X.length+Y.length:Nat):Int)
     ·exfalso
      rcases c1 with c1|c1<;>(have q:=congrArg rA c1;simp only[iz]at q;omega)
     ·try simp(disch:=first|omega|assumption|exact aa _) only[ag,ae,RZ,c2,c3]
      exact D
    ·try simp(disch:=first|omega|assumption|exact aa _) only[ag,ae,RZ,c2]
     exact D
   ·have cA:1<=X2.length:=by cases X2 with|nil=>exact absurd (.inl rfl) c1|cons a l=>simp
    have kP:1<=Y2.length:=by cases Y2 with|nil=>exact absurd (.inr rfl) c1|cons a l=>simp
    have c2:((P.length+hm:Nat):Int)<((P.length+X.length+(hm-s):Nat):Int):=by omega
    have c3:((P.length+X.length+(hm-s):Nat):Int)<((P.length+X.length+Y.length:Nat):Int):=by omega
    try simp(disch:=first|omega|assumption|exact aa _) only[ag,ae,RZ,c2,c3]
    have Jm:hr.get g=some ⟨3,true,cj (P++Z++X2++Y2++Q)⟩:=by rw[hA.1];simp
    refine aI aF (ih d n hr (P++Z) X2 Y2 Q _ _ _ (by omega) (by simp;omega) (by simp;omega) (by simp;omega) (by simp;omega) cA kP (hE.keeps hA.2) hg Jm (fun z hz=>bW z (by rcases List.mem_append.1 hz with q|q;exact ag8 _ (Tp z q);exact Aw _ (Ts z q))) Tl Tn (fun x hx y hy=>gO x (Tp x hx) y (Ts y hy))) (ak n) (fun b _ hb=> .inr hb) fun v h1 n1 _ _ hq=> ?_
    try simp(disch:=first|omega|assumption|exact aa _) only[ag,ae,RZ]
    obtain⟨rfl,Z2,p2,s2,jA⟩:=hq
    exact done h1 Z2 p2 s2 (hA.trans jA)
  have t2:∀hr,At h hr g (P++(X1++Y1)++(X2++Y2)++Q)->ah (fun z=>z=g) n (
   aO (.int .i64 (P.length:Nat)) (.int .i64 ((P.length+s:Nat):Int)) fun acy=>
   an acy (
    aO (.int .i64 ((P.length+s:Nat):Int)) (.int .i64 ((P.length+hm:Nat):Int)) fun acz=>
    an acz (
     au (aq ai gt lf (d+l+4)) 155 [.slice (some ⟨g,0,none⟩) N cap,.int .i64 (P.length:Nat),.int .i64 ((P.length+s:Nat):Int),.int .i64 ((P.length+hm:Nat):Int),FT pw] fun aiG=>
     aO (.int .i64 ((P.length+hm:Nat):Int)) (.int .i64 ((P.length+X.length+(hm-s):Nat):Int)) fun vl=>
     an vl (
      aO (.int .i64 ((P.length+X.length+(hm-s):Nat):Int)) (.int .i64 ((P.length+X.length+Y.length:Nat):Int)) fun vm=>
      an vm (
       au (aq ai gt lf (d+l+4)) 155 [.slice (some ⟨g,0,none⟩) N cap,.int .i64 ((P.length+hm:Nat):Int),.int .i64 ((P.length+X.length+(hm-s):Nat):Int),.int .i64 ((P.length+X.length+Y.length:Nat):Int),FT pw] fun Jl=>
       aj []) (
       aj [])) (
      aj [])) (
     aO (.int .i64 ((P.length+hm:Nat):Int)) (.int .i64 ((P.length+X.length+(hm-s):Nat):Int)) fun vl=>
     an vl (
      aO (.int .i64 ((P.length+X.length+(hm-s):Nat):Int)) (.int .i64 ((P.length+X.length+Y.length:Nat):Int)) fun vm=>
      an vm (
       au (aq ai gt lf (d+l+4)) 155 [.slice (some ⟨g,0,none⟩) N cap,.int .i64 ((P.length+hm:Nat):Int),.int .i64 ((P.length+X.length+(hm-s):Nat):Int),.int .i64 ((P.length+X.length+Y.length:Nat):Int),FT pw] fun Jl=>
       aj []) (
       aj [])) (
      aj []))) (
    aO (.int .i64 ((P.length+hm:Nat):Int)) (.int .i64 ((P.length+X.length+(hm-s):Nat):Int)) fun vl=>
    an vl (
     aO (.int .i64 ((P.length+X.length+(hm-s):Nat):Int)) (.int .i64 ((P.length+X.length+Y.length:Nat):Int)) fun vm=>
     an vm (
      au (aq ai gt lf (d+l+4)) 155 [.slice (some ⟨g,0,none⟩) N cap,.int .i64 ((P.length+hm:Nat):Int),.int .i64 ((P.length+X.length+(hm-s):Nat):Int),.int .i64 ((P.length+X.length+Y.length:Nat):Int),FT pw] fun Jl=>
      aj []) (
      aj [])) (
     aj []))) hr n fun _ h' n'=>mE h g n ws P (X++Y) Q h' n':=by
   intro hr hA
   by_cases c1:X1=[]∨Y1=[]
   ·have fx:(X1++Y1).Pairwise (RI (aP ws)):=by
     rcases c1 with c1|c1
     ·rw[c1];exact Tm
     ·rw[c1,dF];exact Tj
    have D:=t3 hr _ (Fa _) fx hA
    by_cases c2:((P.length:Nat):Int)<((P.length+s:Nat):Int)
    ·by_cases c3:((P.length+s:Nat):Int)<((P.length+hm:Nat):Int)
     ·exfalso
      rcases c1 with c1|c1<;>(have q:=congrArg rA c1;simp only[iz]at q;omega)
     ·simp only[qO,decide_eq_true c2,decide_eq_false c3,wI,wJ]
      simpa only[qO]using D
    ·simp only[qO,decide_eq_false c2,wJ]
     simpa only[qO]using D
   ·have cA:1<=X1.length:=by cases X1 with|nil=>exact absurd (.inl rfl) c1|cons a l=>simp
    have kP:1<=Y1.length:=by cases Y1 with|nil=>exact absurd (.inr rfl) c1|cons a l=>simp
    have c2:((P.length:Nat):Int)<((P.length+s:Nat):Int):=by omega
    have c3:((P.length+s:Nat):Int)<((P.length+hm:Nat):Int):=by omega
    simp only[qO,decide_eq_true c2,decide_eq_true c3,wI]
    have Jm:hr.get g=some ⟨3,true,cj (P++X1++Y1++(X2++Y2++Q))⟩:=by rw[hA.1];simp
    refine aI aF (ih d n hr P X1 Y1 (X2++Y2++Q) _ _ _ (by omega) (by simp;omega) rfl (by omega) (by omega) cA kP (hE.keeps hA.2) hg Jm (fun z hz=>bW z (by rcases List.mem_append.1 hz with q|q;exact ag8 _ (To z q);exact Aw _ (Tq z q))) Tj Tm (fun x hx y hy=>gO x (To x hx) y (Tq y hy))) (ak n) (fun b _ hb=> .inr hb) fun v h1 n1 _ _ hq=> ?_
    obtain⟨rfl,Z2,p2,s2,jA⟩:=hq
    simpa only[qO]using t3 h1 Z2 p2 s2 (by have:=hA.trans jA;rwa[show P++Z2++(X2++Y2)++Q=P++Z2++(X2++Y2++Q) by simp])
  simp only[qO,Hj,w5]at t2⊢
  by_cases c1:X2=[]∨Y1=[]
  ·have DS:At h h g (P++(X1++Y1)++(X2++Y2)++Q):=by
    refine⟨?_,fun b hb=>rfl⟩
    rw[hh,<-eX,<-eY]
    rcases c1 with c1|c1<;>(rw[c1];simp)
   have D:=t2 h DS
   by_cases c2:((P.length+s:Nat):Int)<((P.length+X.length:Nat):Int)
   ·by_cases c3:((P.length+X.length:Nat):Int)<((P.length+X.length+(hm-s):Nat):Int)
    ·exfalso
     rcases c1 with c1|c1<;>(have q:=congrArg rA c1;simp only[iz]at q;omega)
    ·simp only[decide_eq_true c2,decide_eq_false c3,wI,wJ]
     exact D
   ·simp only[decide_eq_false c2,wJ]
    exact D
  ·have cA:1<=X2.length:=by cases X2 with|nil=>exact absurd (.inl rfl) c1|cons a l=>simp
   have kP:1<=Y1.length:=by cases Y1 with|nil=>exact absurd (.inr rfl) c1|cons a l=>simp
   have c2:((P.length+s:Nat):Int)<((P.length+X.length:Nat):Int):=by omega
   have c3:((P.length+X.length:Nat):Int)<((P.length+X.length+(hm-s):Nat):Int):=by omega
   simp only[decide_eq_true c2,decide_eq_true c3,wI]
   have lL:h.get g=some ⟨3,true,cj (P++X1++X2++Y1++(Y2++Q))⟩:=by rw[hh,<-eX,<-eY];simp
   refine aI aF (acn lf (d+l+2) g n cap h (P++X1) X2 Y1 (Y2++Q) N _ _ _ _ aw (by simp;omega) c8 cA kP hg (by simp;omega) (by simp;omega) (by simp;omega) lL) (ak n) (fun b _ hb=> .inr hb) fun v h1 n1 _ _ hq=> ?_
   obtain⟨rfl,hA⟩:=hq
   exact t2 h1 (by rwa[show P++(X1++Y1)++(X2++Y2)++Q=P++X1++Y1++X2++(Y2++Q) by simp])
 have run:=acv (W:=fun z=>z=g) lf (d+l+1) g n cap pw ws h P X Y Q hm N hN c8 hE hg hh (fun z hz=>bW z (by simp[hz])) (fun z hz=>bW z (by simp[hz])) gO (by omega) (ak n) (R:=fun _ h' n'=>mE h g n ws P (X++Y) Q h' n') (zf lf (aq ai gt lf (d+l+4))) (.int .i64 (P.length:Nat)) (.int .i64 ((P.length+X.length:Nat):Int)) (.int .i64 ((P.length+X.length+Y.length:Nat):Int)) (.int .i64 ((P.length+hm:Nat):Int)) (.int .i64 ((P.length+hm+P.length+X.length:Nat):Int)) (.bool false) (.bool false)
 by_cases c0:hm<X.length
 ·have c1:((P.length+hm:Nat):Int)<((P.length+X.length:Nat):Int):=by omega
  have w6:IntKind.i64.wrap (((P.length+hm+P.length+X.length:Nat):Int)-((P.length+X.length+Y.length:Nat):Int))=((P.length+(hm-Y.length):Nat):Int):=by rw[aV (by omega) (by omega)];omega
  try simp(disch:=first|omega|assumption|exact aa _) only[ag,ae,RZ,w1,w2,w3,w4,wrap_u64,xf,zs,c1,w6]
  exact run (.bool true) _ rfl (fun s a1 a2 a3 a4 a5=>fin s a1 a2 a3 a4 a5) (X.length+Y.length) (hm-Y.length) hm lf (by omega) (by omega) (by omega) (by omega) (by omega) (by omega) (by omega) (by omega)
 ·have c1:¬((P.length+hm:Nat):Int)<((P.length+X.length:Nat):Int):=by omega
  try simp(disch:=first|omega|assumption|exact aa _) only[ag,ae,RZ,w1,w2,w3,w4,wrap_u64,xf,zs,c1]
  exact run (.bool false) _ rfl (fun s a1 a2 a3 a4 a5=>fin s a1 a2 a3 a4 a5) (X.length+Y.length) 0 X.length lf (by omega) (by omega) (by omega) (by omega) (by omega) (by omega) (by omega) (by omega)
theorem Tt(lf g cap pw N:Nat)(ws:List Int)(aw:3000000<=lf)(c8:N<=1000000):∀l,Ti lf g cap pw N ws l:=by
 intro l
 induction l with
 |zero=>intro d n h P X Y Q a m b hl hN ha hm hb hX hY;omega
 |succ l ih=>
  intro d n h P X Y Q a m b hl hN ha hm hb hX hY hE hg hh bW hx hy gO
  by_cases h1:X.length=1
  ·obtain⟨x,rfl⟩:=List.length_eq_one_iff.1 h1
   have e:P++[x]++Y++Q=P++x::Y++Q:=by simp
   exact acs lf (d+l+1) g n cap pw ws h P Y Q x N a m b aw (by rw[<-e];exact hN) c8 ha hm hb hE hg (by rw[<-e];exact hh) (fun z hz=>bW z (by simpa using hz)) hy (fun y hy=>gO x (by simp) y hy)
  ·by_cases h2:Y.length=1
   ·obtain⟨y,rfl⟩:=List.length_eq_one_iff.1 h2
    have e:P++X++[y]++Q=P++X++y::Q:=by simp
    exact acu lf (d+l+1) g n cap pw ws h P X Q y N a m b aw (by rw[<-e];exact hN) c8 (by omega) ha hm hb hE hg (by rw[<-e];exact hh) (bW y (by simp)) (fun z hz=>bW z (by simp[hz])) hx (fun x hx=>gO x hx y (by simp))
   ·subst ha hm hb
    exact acx lf g cap pw N ws aw c8 l ih d n h P X Y Q hl hN (by omega) (by omega) hE hg hh bW hx hy gO
section
variable (lf g cap pw N:Nat) (ws:List Int) (aw:3000000<=lf) (c8:N<=1000000) (d n:Nat) (h:H) (xs:List Nat) (hN:xs.length=N) (hE:jy h n g pw ws) (hg:g<n) (bW:∀z∈xs,z<ws.length)
variable {W:Nat->Prop} {n0:Nat} (eE:n0<=n) (hW:n0<=g∨W g) {R:Value->H->Nat->Prop}
theorem Tu(pre fo post:List Nat)(a b:Int)(Tv:(pre++fo++post).length=N)(ha:a=(pre.length:Nat))(hb:b=((pre.length+fo.length:Nat):Int))(DT:∀z∈fo,z<ws.length)(cS:fo.Pairwise (fun a b=>a<b))(hh:h.get g=some ⟨3,true,cj (pre++fo++post)⟩)(aw:3000000<=lf)(c8:N<=1000000)(hE:jy h n g pw ws)(hg:g<n):
 ah (fun x=>x=g) n (aq ai gt lf (d+4) 154 #[.slice (some ⟨g,0,none⟩) N cap,.int .i64 a,.int .i64 b,FT pw]) h n fun v h' n'=>n'=n∧∃D,D.Perm fo∧D.Pairwise (RI (aP ws))∧At h h' g (pre++D++post):=by
 by_cases h1:1<=fo.length
 ·exact acm lf d g n cap pw ws h pre fo post N (by omega) Tv c8 h1 hE hg hh DT cS a b ha hb
 ·have h0:fo=[]:=vL (by omega)
  subst h0
  subst ha hb
  have dN:pre.length<=N:=by rw[<-Tv];simp
  rw[aD (fun _=>I5) rfl]
  refine ah.aB ?_
  unfold ze FT
  have aux:∀fu,0<fu->ah (fun x=>x=g) n (pM lf (aq ai gt lf (d+3)) fu (zd lf (aq ai gt lf (d+3))) (.slice (some ⟨g,0,none⟩) N cap) (.int .i64 (pre.length:Nat)) (.int .i64 (pre.length:Nat)) (.func (.func 150) #[] #[.pointer (some ⟨pw,0,none⟩)]) (.int .i64 ((pre.length:Nat)+1:Int))) h n fun v h' n'=>n'=n∧∃D,D.Perm []∧D.Pairwise (RI (aP ws))∧At h h' g (pre++D++post):=by
   intro fu cC
   obtain⟨f,rfl⟩:∃f,fu=f+1:=⟨fu-1,by omega⟩
   have e2:¬((pre.length:Nat):Int)+1<((pre.length:Nat):Int):=by omega
   rw[pM]
   try simp(disch:=first|omega|assumption|exact aa _) only[ag,ae,RZ,e2]
   (try unfold zd);(try dsimp only)
   try simp(disch:=first|omega|assumption|exact aa _) only[ag,ae,RZ]
   exact⟨[],Fa _,aja,hh,fun b hb=>rfl⟩
  try simp(disch:=first|omega|assumption|exact aa _) only[ag,ae,RZ]
  exact aux lf (by omega)
include aw c8 hN hE hg bW eE hW
theorem stA(k:Value->Value->Value->Value->Value->Value->Value->M Value)(hK:∀hr t U V (a8:Int) xj,V.length<20->pQ (aP ws) xs t U V->a8=((U.length+20:Nat):Int)->At h hr g (U++V)->ah W n0 (k (.slice (some ⟨g,0,none⟩) N cap) (.int .i64 (N:Nat)) (FT pw) (.int .i64 20) (.int .i64 (U.length:Nat)) (.int .i64 a8) xj) hr n R):
 ∀(m:Nat) (U V:List Nat) (t fu:Nat) (hr:H) (a8:Int),V.length<=m->m<fu->pQ (aP ws) xs t U V->a8=((U.length+20:Nat):Int)->At h hr g (U++V)->
  ah W n0 (u7 lf (aq ai gt lf (d+4)) fu k (.slice (some ⟨g,0,none⟩) N cap) (.int .i64 (N:Nat)) (FT pw) (.int .i64 20) (.int .i64 (U.length:Nat)) (.int .i64 a8)) hr n R:=by
 intro m
 induction m with
 |zero=>
  intro U V t fu hr a8 hV cC hS ha hA
  obtain⟨fu,rfl⟩:∃f,fu=f+1:=⟨fu-1,by omega⟩
  have lU:=hS.2.2.2.2.length_eq
  simp only[aM]at lU
  rw[u7]
  have e1:¬a8<=((N:Nat):Int):=by omega
  try simp(disch:=first|omega|assumption|exact aa _) only[ag,ae,RZ,e1]
  exact hK hr t U V a8 _ (by omega) hS ha hA
 |succ m ih=>
  intro U V t fu hr a8 hV cC hS ha hA
  obtain⟨fu,rfl⟩:∃f,fu=f+1:=⟨fu-1,by omega⟩
  have lU:=hS.2.2.2.2.length_eq
  simp only[aM]at lU
  rw[u7]
  by_cases pR:20<=V.length
  ·have e1:a8<=((N:Nat):Int):=by omega
   try simp(disch:=first|omega|assumption|exact aa _) only[ag,ae,RZ,e1]
   have eV:U++V.take 20++V.drop 20=U++V:=by rw[cE,jm]
   have l20:(V.take 20).length=20:=by rw[dW];omega
   refine aI aF (Tu lf g cap pw N ws d n hr U (V.take 20) (V.drop 20) _ _ (by rw[eV,aM];omega) rfl (by rw[l20];exact ha) (fun z hz=>bW z (hS.2.2.2.2.mem_iff.1 (Aw _ (qh hz)))) (hS.2.2.1.sublist (Fb _ _)) (by rw[eV];exact hA.1) aw c8 (hE.keeps hA.2) hg) eE (fun b _ hb=>hb▸hW) fun v h1 n1 _ _ hq=> ?_
   obtain⟨rfl,D,p,s,kt⟩:=hq
   have w1:IntKind.i64.wrap (a8+20)=a8+20:=aV (by omega) (by omega)
   try simp(disch:=first|omega|assumption|exact aa _) only[ag,ae,RZ,w1]
   have lD:=p.length_eq
   have e2:a8=(((U++D).length:Nat):Int):=by rw[aM];omega
   rw[e2]
   exact ih (U++D) (V.drop 20) (t+1) fu h1 _ (by rw[eP];omega) (by omega) (hS.next pR p s) (by omega) (hA.trans kt)
  ·have e1:¬a8<=((N:Nat):Int):=by omega
   try simp(disch:=first|omega|assumption|exact aa _) only[ag,ae,RZ,e1]
   exact hK hr t U V a8 _ (by omega) hS ha hA
theorem stC (C:Nat) (hC1:20<=C) (hC2:C<=2000000) (x13 x30:Value) (k:Value->Value->Value->Value->Value->Value->Value->M Value)
 (hK:∀hr t U V (a8:Int),V.length<2*C->nC (aP ws) xs C t U V->At h hr g (U++V)->ah W n0 (k (.slice (some ⟨g,0,none⟩) N cap) (.int .i64 (N:Nat)) (FT pw) (.int .i64 (C:Nat)) (.int .i64 (U.length:Nat)) (.int .i64 a8) x13) hr n R):
 ∀(m:Nat) (U V:List Nat) (t fu:Nat) (hr:H) (a8:Int),V.length<=m->m<fu->nC (aP ws) xs C t U V->a8=((U.length+2*C:Nat):Int)->At h hr g (U++V)->
  ah W n0 (u9 lf (aq ai gt lf (d+N+4)) fu k (.slice (some ⟨g,0,none⟩) N cap) (.int .i64 (N:Nat)) (FT pw) (.int .i64 (C:Nat)) (.int .i64 (U.length:Nat)) (.int .i64 a8) x13 x30) hr n R:=by
 intro m
 induction m with
 |zero=>
  intro U V t fu hr a8 hV cC hS ha hA
  obtain⟨fu,rfl⟩:∃f,fu=f+1:=⟨fu-1,by omega⟩
  have lU:=hS.2.2.2.2.length_eq
  simp only[aM]at lU
  rw[u9]
  have e1:¬a8<=((N:Nat):Int):=by omega
  try simp(disch:=first|omega|assumption|exact aa _) only[ag,ae,RZ,e1]
  exact hK hr t U V a8 (by omega) hS hA
 |succ m ih=>
  intro U V t fu hr a8 hV cC hS ha hA
  obtain⟨fu,rfl⟩:∃f,fu=f+1:=⟨fu-1,by omega⟩
  have lU:=hS.2.2.2.2.length_eq
  simp only[aM]at lU
  rw[u9]
  by_cases h2C:2*C<=V.length
  ·have e1:a8<=((N:Nat):Int):=by omega
   have w1:IntKind.i64.wrap (((U.length:Nat):Int)+((C:Nat):Int))=((U.length+C:Nat):Int):=by rw[aV (by omega) (by omega)];omega
   have w2:IntKind.i64.wrap (2*((C:Nat):Int))=((2*C:Nat):Int):=by rw[aV (by omega) (by omega)];omega
   have w3:IntKind.i64.wrap (a8+((2*C:Nat):Int))=a8+((2*C:Nat):Int):=aV (by omega) (by omega)
   try simp(disch:=first|omega|assumption|exact aa _) only[ag,ae,RZ,e1,w1,w2,w3]
   have eV:U++V.take C++(V.drop C).take C++V.drop (2*C)=U++V:=by rw[cE U,S9,cE,jm]
   have lC:(V.take C).length=C:=by rw[dW];omega
   have lY:((V.drop C).take C).length=C:=by rw[dW,eP];omega
   have jQ:∀z∈V.take C++(V.drop C).take C,z<ws.length:=fun z hz=>bW z (hS.2.2.2.2.mem_iff.1 (Aw _ (by
    rcases List.mem_append.1 hz with q|q
    ·exact qh q
    ·exact List.mem_of_mem_drop (qh q))))
   have pY:((V.drop C).take C).Pairwise (RI (aP ws)):=by have:=(hS.2.2.1 1).1;rwa[AG]at this
   refine aI aF (Tt lf g cap pw N ws aw c8 N d n hr U (V.take C) ((V.drop C).take C) (V.drop (2*C)) _ _ _ (by omega) (by rw[eV,aM];omega) rfl (by omega) (by omega) (by omega) (by omega) (hE.keeps hA.2) hg (by rw[eV];exact hA.1) jQ hS.2.2.1.first pY (fun x hx y hy=>hS.2.2.1.S7 x hx y (qh hy))) eE (fun b _ hb=>hb▸hW) fun v h1 n1 _ _ hq=> ?_
   obtain⟨rfl,Z,p,s,kt⟩:=hq
   try simp(disch:=first|omega|assumption|exact aa _) only[ag,ae,RZ,w2,w3]
   have lZ:=p.length_eq
   rw[aM]at lZ
   have e2:a8=(((U++Z).length:Nat):Int):=by rw[aM];omega
   rw[e2]
   exact ih (U++Z) (V.drop (2*C)) (t+1) fu h1 _ (by rw[eP];omega) (by omega) (hS.next h2C p s) (by omega) (hA.trans kt)
  ·have e1:¬a8<=((N:Nat):Int):=by omega
   try simp(disch:=first|omega|assumption|exact aa _) only[ag,ae,RZ,e1]
   exact hK hr t U V a8 (by omega) hS hA
theorem stB(x13:Value)(k:M Value)(hK:∀hr D,D.Perm xs->D.Pairwise (RI (aP ws))->At h hr g D->ah W n0 (k) hr n R):
 ∀(m C fu:Nat) (D:List Nat) (hr:H) (x7 x8:Value),N-C<=m->m<fu->20<=C->C<=2000000->BS (aP ws) C D->D.Perm xs->At h hr g D->
  ah W n0 (sM lf (aq ai gt lf (d+N+4)) fu k (.slice (some ⟨g,0,none⟩) N cap) (.int .i64 (N:Nat)) (FT pw) (.int .i64 (C:Nat)) x7 x8 x13) hr n R:=by
 intro m
 induction m with
 |zero=>
  intro C fu D hr x7 x8 hm cC h1 h2 hB hp hA
  obtain⟨fu,rfl⟩:∃f,fu=f+1:=⟨fu-1,by omega⟩
  rw[sM]
  have e1:¬((C:Nat):Int)<((N:Nat):Int):=by omega
  try simp(disch:=first|omega|assumption|exact aa _) only[ag,ae,RZ,e1]
  exact hK hr D hp (hB.all (by rw[hp.length_eq,hN];omega)) hA
 |succ m ih=>
  intro C fu D hr x7 x8 hm cC h1 h2 hB hp hA
  obtain⟨fu,rfl⟩:∃f,fu=f+1:=⟨fu-1,by omega⟩
  rw[sM]
  by_cases bf:C<N
  ·have e1:((C:Nat):Int)<((N:Nat):Int):=by omega
   have w2:IntKind.i64.wrap (2*((C:Nat):Int))=((2*C:Nat):Int):=by rw[aV (by omega) (by omega)];omega
   have w3:IntKind.i64.wrap (((C:Nat):Int)*2)=((2*C:Nat):Int):=by rw[aV (by omega) (by omega)];omega
   have lD:=hp.length_eq
   try simp(disch:=first|omega|assumption|exact aa _) only[ag,ae,RZ,e1,w2]
   refine stC lf g cap pw N ws aw c8 d n h xs hN hE hg bW eE hW C h1 h2 _ _ _ (fun jK t U V a8 hV hS jA=> ?_) D.length [] D 0 lf hr _ (ak _) (by omega) (nC.start hB hp) (by simp) hA
   (try unfold ab0);(try unfold Dz);(try dsimp only)
   have lU:=hS.2.2.2.2.length_eq
   simp only[aM]at lU
   have w1:IntKind.i64.wrap (((U.length:Nat):Int)+((C:Nat):Int))=((U.length+C:Nat):Int):=by rw[aV (by omega) (by omega)];omega
   by_cases hM:C<V.length
   ·have e2:((U.length+C:Nat):Int)<((N:Nat):Int):=by omega
    try simp(disch:=first|omega|assumption|exact aa _) only[ag,ae,RZ,w1,e2,w3]
    have eV:U++V.take C++V.drop C++[]=U++V:=by rw[dF,cE,jm]
    have lC:(V.take C).length=C:=by rw[dW];omega
    have lY:(V.drop C).length=V.length-C:=eP
    have jQ:∀z∈V.take C++V.drop C,z<ws.length:=fun z hz=>bW z (hS.2.2.2.2.mem_iff.1 (Aw _ (by rwa[jm]at hz)))
    have pY:(V.drop C).Pairwise (RI (aP ws)):=by
     have:=(hS.2.2.1 1).1
     rw[AG,kH (by omega)]at this
     exact this
    refine aI aF (Tt lf g cap pw N ws aw c8 N d n jK U (V.take C) (V.drop C) [] _ _ _ (by omega) (by rw[eV,aM];omega) rfl (by omega) (by omega) (by omega) (by omega) (hE.keeps jA.2) hg (by rw[eV];exact jA.1) jQ hS.2.2.1.first pY (fun x hx y hy=>hS.2.2.1.S7 x hx y hy)) eE (fun b _ hb=>hb▸hW) fun v h1 n1 _ _ hq=> ?_
    obtain⟨rfl,Z,p,s,kt⟩:=hq
    try simp(disch:=first|omega|assumption|exact aa _) only[ag,ae,RZ,w3]
    rw[dF]at kt
    obtain⟨q1,q2⟩:=hS.last hV p s
    exact ih (2*C) fu (U++Z) h1 _ _ (by omega) (by omega) (by omega) (by omega) q1 q2 (jA.trans kt)
   ·have e2:¬((U.length+C:Nat):Int)<((N:Nat):Int):=by omega
    try simp(disch:=first|omega|assumption|exact aa _) only[ag,ae,RZ,w1,e2,w3]
    obtain⟨q1,q2⟩:=hS.none (by omega)
    exact ih (2*C) fu (U++V) jK _ _ (by omega) (by omega) (by omega) (by omega) q1 q2 jA
  ·have e1:¬((C:Nat):Int)<((N:Nat):Int):=by omega
   try simp(disch:=first|omega|assumption|exact aa _) only[ag,ae,RZ,e1]
   exact hK hr D hp (hB.all (by rw[hp.length_eq,hN];omega)) hA
end
theorem acA(lf g cap pw N:Nat)(ws:List Int)(aw:3000000<=lf)(c8:N<=1000000)(d n:Nat)(h:H)(xs:List Nat)(hN:xs.length=N)(hE:jy h n g pw ws)(hg:g<n)(bW:∀z∈xs,z<ws.length)(cS:xs.Pairwise (fun a b=>a<b))(hh:h.get g=some ⟨3,true,cj xs⟩):
 ah (fun x=>x=g) n (aq ai gt lf (d+N+6) 149 #[.slice (some ⟨g,0,none⟩) N cap,FT pw]) h n fun v h' n'=>n'=n∧∃D,D.Perm xs∧D.Pairwise (RI (aP ws))∧At h h' g D:=by
 rw[aD (fun _=>Sp) rfl]
 refine ah.aB ?_
 unfold I0
 try simp(disch:=first|omega|assumption|exact aa _) only[ag,ae,RZ]
 have main:ah (fun x=>x=g) n (aq ai gt lf (d+N+5) 152 #[.slice (some ⟨g,0,none⟩) N cap,.int .i64 (N:Nat),FT pw]) h n fun v h' n'=>n'=n∧∃D,D.Perm xs∧D.Pairwise (RI (aP ws))∧At h h' g D:=by
  rw[aD (fun _=>Sy) rfl]
  refine ah.aB ?_
  unfold DB
  have:=stA (W:=fun x=>x=g) (R:=fun v h' n'=>n'=n∧∃D,D.Perm xs∧D.Pairwise (RI (aP ws))∧At h h' g D) lf g cap pw N ws aw c8 (d+N) n h xs hN hE hg bW (ak n) (.inr rfl) (zb lf (aq ai gt lf (d+N+4))) (fun hr t U V a8 xj hV hS ha8 hA=>by
   (try unfold zb);(try dsimp only)
   have lU:=hS.2.2.2.2.length_eq
   simp only[aM]at lU
   refine aI aF (Tu lf g cap pw N ws (d+N) n hr U V [] _ _ (by rw[dF,aM];omega) rfl (by omega) (fun z hz=>bW z (hS.2.2.2.2.mem_iff.1 (Aw _ hz))) hS.2.2.1 (by rw[dF];exact hA.1) aw c8 (hE.keeps hA.2) hg) (ak n) (fun b _ hb=> .inr hb) fun v h1 n1 _ _ hq=> ?_
   obtain⟨rfl,D,p,s,kt⟩:=hq
   rw[dF]at kt
   obtain⟨q1,q2⟩:=hS.last (by omega) p s
   have:=stB (W:=fun x=>x=g) (n0:=n1) (R:=fun v h' n'=>n'=n1∧∃D,D.Perm xs∧D.Pairwise (RI (aP ws))∧At h h' g D) lf g cap pw N ws aw c8 d n1 h xs hN hE hg bW (ak n1) (.inr rfl) xj (DA lf (aq ai gt lf (d+N+4))) (fun jK D2 p2 s2 jA=>by
    (try unfold DA);(try unfold aiH);(try dsimp only)
    try simp(disch:=first|omega|assumption|exact aa _) only[ag,ae,RZ]
    exact⟨D2,p2,s2,jA⟩) N 20 lf (U++D) h1 (.int .i64 (U.length:Nat)) (.int .i64 a8) (by omega) (by omega) (by omega) (by omega) q1 q2 (hA.trans kt)
   exact this) N [] xs 0 lf h 20 (by omega) (by omega) (pQ.start _ cS) (by simp) ⟨by simpa using hh,fun b hb=>rfl⟩
  exact this
 refine aI aF main (ak n) (fun b _ hb=> .inr hb) fun v h1 n1 _ _ hq=> ?_
 try simp(disch:=first|omega|assumption|exact aa _) only[ag,ae,RZ]
 exact hq
theorem vn(lf d n:Nat)(h:H)(v:Value)(xs:List Int)(hR:Row h n 3 .i64 v xs)(h0:0<xs.length)(hl:xs.length<=1000000):
 ah (fun _=>False) n (aq ai gt lf (d+1) 72 #[v]) h n fun v' h' n'=>(0<xs.length->Own h' n n' 3 v' (aL .i64 xs))∧Row h' n' 3 .i64 v' xs∧∀b,ar v' b->n<=b:=by
 rw[aD (fun _=>Qz) rfl]
 refine ah.aB ?_
 unfold Ii
 rcases hR with ⟨a,c,rfl,_,rfl⟩|⟨b,off,cap,o,cs,rfl,hg,hb,hle,ht,hc⟩
 ·exact absurd h0 (by simp)
 ·try simp(disch:=first|omega|assumption|exact aa _) only[ag,ae,RZ]
  refine aaP trivial _ ?_
  have fM:(h.set n (some ⟨3,true,[]⟩)).get b=some ⟨3,o,cs⟩:=by rw[aA _ _ (by omega)];exact hg
  by_cases tM:xs.length=0
  ·have hx:xs=[]:=List.length_eq_zero_iff.1 tM
   subst hx
   refine aaL (news:=[]) trivial rfl _ _ _ _ ?_
   try simp(disch:=first|omega|assumption|exact aa _) only[ag,ae,RZ]
   refine⟨fun q=>absurd q (by simp),.inr ⟨n,0,0,true,[],rfl,get_eq _ _ _,by omega,by simp,by simp[aL],by simp⟩,fun b hb=>by rw[hb.inj];exact ak n⟩
  ·have s:Src (h.set n (some ⟨3,true,[]⟩)) (n+1) (.slice (some ⟨b,off,none⟩) xs.length cap) (aL .i64 xs):=⟨b,off,cap,_,by rw[eF],fM,by omega,by rw[eF];exact hle,by rw[eF];exact ht⟩
   refine aaO trivial s (by rw[eF];omega) (aaS _ _) (get_eq _ _ _) rfl (Nat.lt_succ_self n) 0 0 (by simp) rfl (by rw[eF];omega) (by unfold ba;omega) (by rw[eF];omega) _ ?_
   try simp(disch:=first|omega|assumption|exact aa _) only[ag,ae,RZ]
   have ho:Own ((h.set n (some ⟨3,true,[]⟩)).set (n+1) (some ⟨3,true,[]++aL .i64 xs⟩)) n (n+1+1) 3 (.slice (some ⟨n+1,0,none⟩) (aL .i64 xs).length (ba+(aL .i64 xs).length)) (aL .i64 xs):= .inr ⟨n+1,rfl,by rw[get_eq];rfl,by omega,by omega⟩
   exact⟨fun _=>ho,ho.row,fun b hb=>by rw[hb.inj];omega⟩
structure Tw (h1 hr:H) (n1 nr g:Nat) (wv lv iv:Value) (N i:Nat):Prop where
 hg:hr.get g=some ⟨164,true,[wv,iv,lv,.int .i64 (N:Nat)]⟩
 ax:∀b,b<n1->b≠g->hr.get b=h1.get b
 ol:Own hr n1 nr 3 lv (cj (cN i))
 oi:Own hr n1 nr 3 iv (ints (cq i (-1)))
 dis:∀b,ar lv b->¬ar iv b
 le:n1<=nr
theorem trA (lf d:Nat) (h1:H) (n1 g:Nat) (wv:Value) (N:Nat) (x0 x1 x2:Value) (hg:g<n1) (hN:N<=1000000) {W:Nat->Prop} {n0:Nat} (eE:n0<=g) {R:Value->H->Nat->Prop} (k:(Value->Value->M Value))
 (hK:∀hr nr lv iv,Tw h1 hr n1 nr g wv lv iv N N->ah W n0 (k x1 (.pointer (some ⟨g,0,none⟩))) hr nr R):
 ∀(m i fu:Nat) (hr:H) (nr:Nat) (lv iv:Value),N-i<=m->m<fu->i<=N->Tw h1 hr n1 nr g wv lv iv N i->
  ah W n0 (u6 lf (aq ai gt lf d) fu k x0 x1 x2 (.pointer (some ⟨g,0,none⟩)) (.int .i64 (N:Nat)) (.int .i64 (i:Nat))) hr nr R:=by
 intro m
 induction m with
 |zero=>
  intro i fu hr nr lv iv hm cC hi hT
  obtain⟨fu,rfl⟩:∃f,fu=f+1:=⟨fu-1,by omega⟩
  obtain rfl:i=N:=by omega
  rw[u6]
  try simp(disch:=first|omega|assumption|exact aa _) only[ag,ae,RZ,c9]
  exact hK hr nr lv iv hT
 |succ m ih=>
  intro i fu hr nr lv iv hm cC hi hT
  obtain⟨fu,rfl⟩:∃f,fu=f+1:=⟨fu-1,by omega⟩
  rw[u6]
  by_cases bf:i<N
  ·have e1:((i:Nat):Int)<((N:Nat):Int):=by omega
   obtain⟨c0,zu,iY,qt,Jn,hle⟩:=hT
   have Tx:g<nr:=by omega
   try simp(disch:=first|omega|assumption|exact aa _) only[ag,ae,RZ,e1,c0]
   refine yN trivial (oF _ _) iY (by rw[qX];simp;omega) (by omega) _ (fun h2 fG b8=> ?_)
   have Jo:∀b,ar lv b->b≠g:=fun b hb=>by have:=(iY.lt hb).1;omega
   have c2:h2.get g=some ⟨164,true,[wv,iv,lv,.int .i64 (N:Nat)]⟩:=by rw[b8 g (by omega) (fun hb=>Jo g hb rfl)];exact c0
   try simp(disch:=first|omega|assumption|exact aa _) only[ag,ae,RZ,c2]
   refine⟨.inl (by omega), ?_⟩
   have acB:Own (h2.set g (some ⟨164,true,[wv,iv,.slice (some ⟨nr+1,0,none⟩) ((cj (cN i)).length+1) (ba+((cj (cN i)).length+1)),.int .i64 (N:Nat)]⟩)) n1 (nr+2) 3 iv (ints (cq i (-1))):=qt.ax (by omega) fun b hb=>by
    have:=qt.lt hb
    rw[aA _ _ (by omega)]
    exact b8 b (by omega) (fun q=>Jn b q hb)
   refine yN trivial (oF _ _) acB (by rw[kX];simp;omega) (by omega) _ (fun h3 DU yc=> ?_)
   have hgi:∀b,ar iv b->b≠g:=fun b hb=>by have:=(qt.lt hb).1;omega
   have c3:h3.get g=some ⟨164,true,[wv,iv,.slice (some ⟨nr+1,0,none⟩) ((cj (cN i)).length+1) (ba+((cj (cN i)).length+1)),.int .i64 (N:Nat)]⟩:=by
    rw[yc g (by omega) (fun hb=>hgi g hb rfl),get_eq]
   try simp(disch:=first|omega|assumption|exact aa _) only[ag,ae,RZ,c3]
   refine⟨.inl (by omega), ?_⟩
   have w1:((i:Nat):Int)+1=((i+1:Nat):Int):=by omega
   rw[w1]
   refine ih (i+1) fu _ _ _ _ (by omega) (by omega) (by omega) ⟨by rw[get_eq],fun b hb Jp=> ?_, ?_, ?_,fun b hb q=> ?_,by omega⟩
   ·rw[aA _ _ Jp,yc b (by omega) (fun q=>by have:=(qt.lt q).1;omega),aA _ _ Jp,b8 b (by omega) (fun q=>by have:=(iY.lt q).1;omega)]
    exact zu b hb Jp
   ·have:cj (cN (i+1))=cj (cN i)++[.int .i64 (i:Nat)]:=by unfold cj;rw[ahX,mR];rfl
    rw[this]
    refine Own.mk' ?_ (by omega) (by omega) (by simp)
    rw[aA _ _ (by omega),yc _ (by omega) (fun q=>by have:=(qt.lt q).2;omega),aA _ _ (by omega)]
    exact fG
   ·have:ints (cq (i+1) (-1))=ints (cq i (-1))++[.int .i64 (-1)]:=by unfold ints;rw[List.replicate_succ',mR];rfl
    rw[this]
    refine Own.mk' ?_ (by omega) (by omega) (by simp)
    rw[aA _ _ (by omega)]
    exact DU
   ·rw[hb.inj]at q
    have:=q.inj
    omega
  ·obtain rfl:i=N:=by omega
   try simp(disch:=first|omega|assumption|exact aa _) only[ag,ae,RZ,c9]
   exact hK hr nr lv iv hT
def Start(ws:List Int)(D:List Nat):HT:={weight:=ws,bj:=cq ws.length (-1),leaves:=D,aS:=ws.length}
set_option maxHeartbeats 1000000 in
theorem acC(lf d n:Nat)(h:H)(v:Value)(ws:List Int)(hR:Row h n 3 .i64 v ws)(h1:1<=ws.length)(hl:ws.length<=1000000)(aw:3000000<=lf):
 ah (fun _=>False) n (aq ai gt lf (d+ws.length+7) 146 #[v]) h n fun v' h' n'=>∃g bw bi bl cl D,v'= .pointer (some ⟨g,0,none⟩)∧D.Perm (cN ws.length)∧D.Pairwise (RI (aP ws))∧mC h' n' g (Start ws D) bw bi bl 0 cl (cj D)∧n<=g∧n<=bw∧n<=bi∧n<=bl:=by
 have bL:=hR
 obtain⟨b,off,cap,o,cs,rfl,hg,hb,hle,ht,hc,cI⟩:=hR.some (by omega)
 rw[aD (fun _=>Sm) rfl]
 refine ah.aB ?_
 unfold Dy
 refine pL trivial _ _ ?_
 obtain⟨h2,sR⟩:∃h2,h.set n (some ⟨22,true,(jF (some ⟨b,off,none⟩) ws.length cap).cells.toList⟩)=h2:=⟨_,rfl⟩
 have p2:h2.get n=some ⟨22,true,[.slice (some ⟨b,off,none⟩) ws.length cap]⟩:=by rw[<-sR,get_eq];rfl
 have k2:∀c,c<n->h2.get c=h.get c:=fun c hc=>by rw[<-sR,aA _ _ (by omega)]
 rw[sR]
 have kZ:Row h2 (n+1) 3 .i64 (.slice (some ⟨b,off,none⟩) ws.length cap) ws:=bL.ax (by omega) k2
 refine Cs trivial n 0 _ p2 (by omega) rfl ?_
 refine Ht aF (vn lf (d+ws.length+5) (n+1) h2 _ ws kZ (by omega) hl) (by omega) (fun _ _ h=>h.elim) fun v3 h3 n3 L fp dA q3 Cp hL2=> ?_
 obtain⟨q3,_,_⟩:=q3
 have Jq:=q3 (by omega)
 obtain⟨bw,rfl⟩:∃bw,v3= .slice (some ⟨bw,0,none⟩) ws.length (ba+ws.length):=by
  rcases Jq with ⟨_,q⟩|⟨bw,q,_⟩
  ·have:=congrArg rA q
   rw[eF]at this;simp only[iz]at this;omega
  ·rw[eF]at q
   exact⟨bw,q⟩
 have lW:=Jq.lt ⟨_,_,_,rfl⟩
 have gbw:h3.get bw=some ⟨3,true,ints ws⟩:=by
  rcases Jq with ⟨q,_⟩|⟨c,q,hq,_⟩
  ·cases q
  ·injection q with q;injection q with q;injection q with q
   rw[q];exact hq
 have p3:h3.get n=some ⟨22,true,[.slice (some ⟨b,off,none⟩) ws.length cap]⟩:=by rw[dA n (by omega) (fun q=>q)];exact p2
 refine Cs trivial n 0 _ p3 (by omega) rfl ?_
 try simp(disch:=first|omega|assumption|exact aa _) only[ag,ae,RZ]
 refine OJ trivial _ _ ?_
 have fU:mv ⟨n+1,n3,L⟩ ⟨n3,n3,[⟨false,n,some 0⟩]⟩=false:=(yA _ _).trans<|aaR (fun e he=>by
  cases hw:e.wr with
  |false=>rfl
  |true=>exact(hL2 e he hw).elim) (by show n<n+1;omega)
 simp only[fU,gZ,mO,sC]
 obtain⟨h4,Jr⟩:∃h4,h3.set n3 (some ⟨164,true,(Value.agg #[.slice (some ⟨bw,0,none⟩) ws.length (ba+ws.length),.slice none 0 0,.slice none 0 0,.int .i64 (ws.length:Nat)]).cells.toList⟩)=h4:=⟨_,rfl⟩
 rw[Jr]
 have g4:h4.get n3=some ⟨164,true,[.slice (some ⟨bw,0,none⟩) ws.length (ba+ws.length),.slice none 0 0,.slice none 0 0,.int .i64 (ws.length:Nat)]⟩:=by rw[<-Jr,get_eq];rfl
 have k4:∀c,c<n3->h4.get c=h3.get c:=fun c hc=>by rw[<-Jr,aA _ _ (by omega)]
 have p4:h4.get n=some ⟨22,true,[.slice (some ⟨b,off,none⟩) ws.length cap]⟩:=by rw[k4 n (by omega)];exact p3
 try simp(disch:=first|omega|assumption|exact aa _) only[ag,ae,RZ,p4]
 refine trA lf (d+ws.length+6) h4 (n3+1) n3 (.slice (some ⟨bw,0,none⟩) ws.length (ba+ws.length)) ws.length _ _ _ (by omega) hl (by omega) _ (fun hr nr lv iv hT=> ?_) ws.length 0 lf h4 (n3+1) (.slice none 0 0) (.slice none 0 0) (by omega) (by omega) (cb _) ⟨g4,fun b _ _=>rfl,Own.nil _ _ _ _,Own.nil _ _ _ _,fun b hb=>hb.not_nil.elim,ak _⟩
 (try unfold IX);(try dsimp only)
 obtain⟨c0,zu,iY,qt,Jn,Xp⟩:=hT
 obtain⟨bl,rfl,gl,qQ,nh⟩:∃bl,lv= .slice (some ⟨bl,0,none⟩) ws.length (ba+ws.length)∧hr.get bl=some ⟨3,true,cj (cN ws.length)⟩∧n3+1<=bl∧bl<nr:=by
  rcases iY with ⟨_,q⟩|⟨bl,q,hq,a,c⟩
  ·have:=congrArg rA q
   rw[qX,Xf]at this;simp only[iz]at this;omega
  ·rw[qX,Xf]at q
   exact⟨bl,q,hq,a,c⟩
 obtain⟨bi,rfl,gi,hi1,gL⟩:∃bi,iv= .slice (some ⟨bi,0,none⟩) ws.length (ba+ws.length)∧hr.get bi=some ⟨3,true,ints (cq ws.length (-1))⟩∧n3+1<=bi∧bi<nr:=by
  rcases qt with ⟨_,q⟩|⟨bl,q,hq,a,c⟩
  ·have:=congrArg rA q
   rw[kX,mS]at this;simp only[iz]at this;omega
  ·rw[kX,mS]at q
   exact⟨bl,q,hq,a,c⟩
 have acD:bl≠bi:=fun e=>Jn bl ⟨_,_,_,rfl⟩ ⟨0,_,_,by rw[e]⟩
 have gnr:n3<nr:=by omega
 try simp(disch:=first|omega|assumption|exact aa _) only[ag,ae,RZ,c0]
 have pr:hr.get n=some ⟨22,true,[.slice (some ⟨b,off,none⟩) ws.length cap]⟩:=by rw[zu n (by omega) (by omega)];exact p4
 have br:hr.get b=some ⟨3,o,cs⟩:=by rw[zu b (by omega) (by omega),k4 b (by omega),dA b (by omega) (fun q=>q),k2 b hb];exact hg
 have wr:hr.get bw=some ⟨3,true,ints ws⟩:=by rw[zu bw (by omega) (by omega),k4 bw (by omega)];exact gbw
 have env:jy hr nr bl n ws:=⟨⟨b,off,cap,_,_,_,_,cs,pr,br,by omega,by omega,cI⟩,by omega,by omega⟩
 refine aI aF (acA lf bl (ba+ws.length) n ws.length ws aw hl d nr hr (cN ws.length) (by simp) env nh (fun z hz=>List.mem_range.1 hz) List.pairwise_lt_range gl) (by omega) (fun c _ hc=> .inl (by omega)) fun v5 h5 n5 _ _ hq=> ?_
 obtain⟨rfl,D,hp,hs,hA⟩:=hq
 try simp(disch:=first|omega|assumption|exact aa _) only[ag,ae,RZ]
 refine⟨n3,bw,bi,bl,ba+ws.length,D,rfl,hp,hs,⟨?_, ?_, ?_,hA.1, ?_, ?_, ?_,by omega⟩,by omega,by omega,by omega,by omega⟩
 ·rw[hA.2 n3 (by omega),c0]
  have:=hp.length_eq
  simp at this
  simp[Start,this]
 ·rw[hA.2 bw (by omega)];exact wr
 ·rw[hA.2 bi (fun e=>acD e.symm)];exact gi
 ·rw[qX];exact Nat.le_of_eq (gU _)
 ·rw[gT]
  show(cj D).take D.length=cj D
  rw[kH (by rw[qX];exact ak _)]
 ·have:=hp.length_eq
  simp at this
  show D.length<=_
  omega
def jB(bj:List Int):Nat->List Int->List Int
 |0,out=>out
 |i+1,out=>jB bj i (out.set i (out.getD (bj.getD i 0).toNat 0+1))
def fW(ws:List Int)(D:List Nat):HT:=dm (ws.length-1) (Start ws D)
def nD(ws:List Int)(D:List Nat):List Int:=(jB (fW ws D).bj (2*ws.length-2) (cq (2*ws.length-1) 0)).take ws.length
theorem DV(bj:List Int):∀(i:Nat) (out:List Int),(jB bj i out).length=out.length
 |0,out=>rfl
 |i+1,out=>by unfold jB;rw[DV bj i];simp
theorem zv(ws:List Int)(D:List Nat)(h:1<=ws.length):(nD ws D).length=ws.length:=by
 unfold nD
 rw[dW,DV,mS]
 omega
theorem Ty{ws:List Int}{D:List Nat}{S:Int}(hp:D.Perm (cN ws.length))(hw:∀x∈ws,0<=x)(hS:bO ws=S):ik ws.length 0 [] S (Start ws D):=by
 have hlen:=hp.length_eq
 rw[Xf]at hlen
 have jQ:∀i∈D,i<ws.length:=fun i hi=>List.mem_range.1 (hp.mem_iff.1 hi)
 have sle:=xc ws hw
 rw[hS]at sle
 have acE:∀{a b:List Int},a.Perm b->bO a=bO b:=by
  intro a b h
  induction h with
  |nil=>rfl
  |cons x _ ih=>simp only[bO,ih]
  |swap x y l=>simp only[bO];omega
  |trans _ _ Js yP=>exact Js.trans yP
 refine⟨rfl,by simp[Start],jQ,fun i hi=>by simp at hi,ak _,ak _,by simp[Start,hlen],fun i hi=> ?_, ?_,fun i hi h2=> ?_⟩
 ·have:ws.getD i 0∈ws:=by rw[aC,aR (by omega)];exact ep _
  exact⟨hw _ this,sle.2 _ this⟩
 ·unfold qV
  simp only[Start,mN,nT,List.range'_zero,dF,vK]
  rw[acE (hp.map _),<-hS]
  congr 1
  apply nU
  ·simp
  ·intro i h1 h2
   simp[bg,h2]
 ·exact absurd (hp.mem_iff.2 (List.mem_range.2 (by omega))) h2
theorem Jt{n k:Nat}{S:Int}{t:HT}(h:ik n k [] S t)(hk:k+2<=n):ik n k [Hu.cO t] S (taken t)∧Hu.cO t<n+k∧ik n k [Hu.cO t,Hu.cO (taken t)] S (taken (taken t))∧Hu.cO (taken t)<n+k∧ik n (k+1) [] S (qS t)∧(qS t).aS<=n+k:=by
 have hl:=h.left
 simp only[iz]at hl
 obtain⟨h1,a1⟩:=h.take (by omega)
 have qQ:=h1.left
 simp only[vK,cu,iz]at qQ
 obtain⟨h2,a2⟩:=h1.take (by omega)
 exact⟨h1,a1,h2,a2,h2.join,h2.jh⟩
theorem Tz{n k:Nat}{P:List Nat}{S:Int}{t:HT}(h:ik n k P S t)(h1:1<=t.leaves.length+(n+k-t.aS)):(gN t=true->0<t.leaves.length)∧(0<t.leaves.length->t.leaves.getD 0 0<t.weight.length)∧t.aS<=t.weight.length:=by
 refine⟨fun hl=> ?_,fun h0=> ?_,by rw[h.wl];exact h.jh⟩
 ·obtain⟨r,e,_⟩:=Jb h h1 hl
  rw[e];simp
 ·have:=h.leaf (t.leaves.getD 0 0) (by rw[aC,aR h0];exact ep _)
  rw[h.wl];omega
set_option maxHeartbeats 2000000 in
theorem dpA (lf d n:Nat) (N:Nat) (S:Int) (t0:HT) (g:Nat) (x0 x2:Value) (hN2:2<=N) (c8:N<=1000) (hS:S<=1152921504606846976) {W:Nat->Prop} {n0:Nat} {R:Value->H->Nat->Prop} (k:(Value->Value->Value->Value->Value->Value->M Value)) (lo:Nat) (j8:n0<=lo) (hg:lo<=g)
 (hK:∀hr nr bw bi bl off cl cs xj,n<=nr->mC hr nr g (dm (N-1) t0) bw bi bl off cl cs->ik N (N-1) [] S (dm (N-1) t0)->(dm (N-1) t0).aS<N+(N-1)->ah W n0 (k x0 x2 (.pointer (some ⟨g,0,none⟩)) (.int .i64 ((N-1:Nat):Int)) (.int .i64 ((N-1:Nat):Int)) xj) hr nr R):
 ∀(m kk fu:Nat) (hr:H) (nr bw bi bl off cl:Nat) (cs:List Value),N-1-kk=m->m<fu->kk<=N-1->n<=nr->lo<=nr->lo<=bw->lo<=bi->mC hr nr g (dm kk t0) bw bi bl off cl cs->ik N kk [] S (dm kk t0)->(kk=0∨(dm kk t0).aS<N+kk)->
  ah W n0 (uZ lf (aq ai gt lf (d+1)) fu k x0 x2 (.pointer (some ⟨g,0,none⟩)) (.int .i64 ((N-1:Nat):Int)) (.int .i64 (kk:Nat))) hr nr R:=by
 intro m
 induction m with
 |zero=>
  intro kk fu hr nr bw bi bl off cl cs hm cC Fm hn qQ nh xm hT hO hj
  obtain⟨fu,rfl⟩:∃f,fu=f+1:=⟨fu-1,by omega⟩
  obtain rfl:kk=N-1:=by omega
  rw[uZ]
  try simp(disch:=first|omega|assumption|exact aa _) only[ag,ae,RZ,c9]
  exact hK hr nr bw bi bl off cl cs _ hn hT hO (by omega)
 |succ m ih=>
  intro kk fu hr nr bw bi bl off cl cs hm cC Fm hn qQ nh xm hT hO hj
  obtain⟨fu,rfl⟩:∃f,fu=f+1:=⟨fu-1,by omega⟩
  rw[uZ]
  have e1:((kk:Nat):Int)<((N-1:Nat):Int):=by omega
  obtain⟨t,ht⟩:∃t,dm kk t0=t:=⟨_,rfl⟩
  rw[ht]at hT hO hj
  obtain⟨s1,s2,s3,s4,s5,s6⟩:=Jt hO (by omega)
  have q1:=Tz hO (by have:=hO.left;simp only[iz]at this;omega)
  have q2:=Tz s1 (by have:=s1.left;simp only[cu,iz]at this;omega)
  have wl:=hO.wl
  have hl:=hO.left
  have wl1:=s1.wl
  have l1:=s1.left
  have wl2:=s3.wl
  have l2:=s3.left
  simp only[cu,iz]at l1 l2
  have e2:((kk:Nat):Int)+1=((kk+1:Nat):Int):=by omega
  try simp(disch:=first|omega|assumption|exact aa _) only[ag,ae,RZ,e1]
  refine aI aF (S0 lf d g nr hr t bw bi bl off cl cs hT (by have:=hO.jh;omega) (by omega) (by omega) q1.1 q1.2.1 q1.2.2) (by omega) (fun c _ hc=> .inl (by omega)) fun v1 h1 n1 _ _ hq=> ?_
  obtain⟨rfl,rfl,acF,cl1,DW⟩:=hq
  refine aI aF (S0 lf d g n1 h1 (taken t) bw bi bl acF cl1 cs DW (by have:=s1.jh;omega) (by omega) (by omega) q2.1 q2.2.1 q2.2.2) (by omega) (fun c _ hc=> .inl (by omega)) fun v2 h2 n2 _ _ hq=> ?_
  obtain⟨rfl,rfl,zw,TA,Ju⟩:=hq
  refine aI aF (aca lf d g n2 (Hu.cO t) (Hu.cO (taken t)) h2 (taken (taken t)) bw bi bl zw TA cs Ju (by omega) (by rw[wl2,s3.il]) (by omega) (by omega) (fun x hx=> ?_)) (by omega) (fun c _ hc=> .inl (by omega)) fun v3 h3 n3 _ _ hq=> ?_
  ·obtain⟨i,hi,e⟩:=List.mem_iff_getElem.1 hx
   have:=s3.pos i (by omega)
   have e3:bg (taken (taken t)) i=x:=by unfold bg;rw[aC,aR hi,<-e];rfl
   rw[e3]at this
   omega
  obtain⟨rfl,fp,zi,xe,hT3,nY,cW⟩:=hq
  try simp(disch:=first|omega|assumption|exact aa _) only[ag,ae,RZ]
  rw[e2]
  refine ih (kk+1) fu h3 n3 zi xe bl zw TA cs (by omega) (by omega) (by omega) (by omega) (by omega) (by omega) (by omega) ?_ ?_ ?_
  ·rw[wZ,ht];exact hT3
  ·rw[wZ,ht];exact s5
  ·rw[wZ,ht];exact .inr (by omega)
def acG(T i:Nat)(out:List Int):Prop:=out.length=T∧∀j,j<T->0<=out.getD j 0∧out.getD j 0<=((T-j:Nat):Int)
theorem dpB (lf d n:Nat) (N T:Nat) (t:HT) (g bi ci bo co:Nat) (wv lv jv:Value) (x0 x2 x11 x12 x13:Value) (DW:1<=T) (hTb:T<=100000) (il:t.bj.length=T) (A4:bo<n) (lV:g<n) (DT:bi<n) (pz:bo≠g∧bo≠bi) (bW:∀i,i<T-1->(i:Int)<t.bj.getD i 0∧t.bj.getD i 0<(T:Int)) {W:Nat->Prop} {n0:Nat} (eE:n0<=bo) {R:Value->H->Nat->Prop} (k:(Value->Value->M Value)) (res:List Int)
 (hK:∀hr,hr.get bo=some ⟨3,true,ints res⟩->ah W n0 (k x0 (.slice (some ⟨bo,0,none⟩) T co)) hr n R):
 ∀(i fu:Nat) (hr:H) (out:List Int),i<fu->i<=T-1->hr.get g=some ⟨164,true,[wv,.slice (some ⟨bi,0,none⟩) T ci,lv,jv]⟩->hr.get bi=some ⟨3,true,ints t.bj⟩->hr.get bo=some ⟨3,true,ints out⟩->acG T i out->jB t.bj i out=res->
  ah W n0 (u0 lf (aq ai gt lf d) fu k x0 x2 (.pointer (some ⟨g,0,none⟩)) (.slice (some ⟨bo,0,none⟩) T co) (.int .i64 ((i:Int)-1)) x11 x12 x13) hr n R:=by
 intro i
 induction i with
 |zero=>
  intro fu hr out cC hi hg iU ho hD rX
  obtain⟨fu,rfl⟩:∃f,fu=f+1:=⟨fu-1,by omega⟩
  rw[u0]
  have e1:¬(0:Int)<=((0:Nat):Int)-1:=by omega
  try simp(disch:=first|omega|assumption|exact aa _) only[ag,ae,RZ,e1]
  unfold jB at rX
  subst rX
  exact hK hr ho
 |succ i ih=>
  intro fu hr out cC hi hg iU ho hD rX
  obtain⟨fu,rfl⟩:∃f,fu=f+1:=⟨fu-1,by omega⟩
  obtain⟨q1,q2⟩:=bW i (by omega)
  obtain⟨J,hJ⟩:∃J:Nat,t.bj.getD i 0=(J:Nat):=⟨(t.bj.getD i 0).toNat,by omega⟩
  have g1:(ints t.bj)[i]? =some (.int .i64 ((J:Nat):Int)):=by rw[ints_at (by omega),hJ]
  have hJT:J<T:=by omega
  have hJi:i<J:=by omega
  have g2:(ints out)[J]? =some (.int .i64 (out.getD J 0)):=ints_at (by rw[hD.1];omega)
  have oJ:=hD.2 J hJT
  have e0:(((i+1:Nat):Int)-1)=((i:Nat):Int):=by omega
  have e1:(0:Int)<=((i:Nat):Int):=by omega
  have iY:out.length=T:=hD.1
  have acH:jB t.bj i (out.set i (out.getD J 0+1))=res:=by
   rw[<-rX]
   show _=jB t.bj i (out.set i (out.getD (t.bj.getD i 0).toNat 0+1))
   rw[hJ]
   rfl
  rw[u0,e0]
  try simp(disch:=first|omega|assumption|exact aa _) only[ag,ae,RZ,e1,hg,iU,ho,g1,g2,ints_set,kX,iY]
  refine⟨by omega,.inl eE, ?_⟩
  refine ih fu _ (out.set i (out.getD J 0+1)) (by omega) (by omega) (by rw[aA _ _ (by omega)];exact hg) (by rw[aA _ _ (by omega)];exact iU) (get_eq _ _ _) ?_ acH
  ·refine⟨by rw[rz];exact iY,fun j hj=> ?_⟩
   rw[qT]
   have:=hD.2 j hj
   split
   ·rename_i h
    obtain⟨rfl,_⟩:=h
    omega
   ·exact this
set_option maxHeartbeats 2000000 in
theorem acI(lf d n:Nat)(h:H)(v:Value)(ws:List Int)(hR:Row h n 3 .i64 v ws)(h2:2<=ws.length)(hl:ws.length<=1000)(aw:3000000<=lf)(hw:∀x∈ws,0<=x)(hS:bO ws<=1152921504606846976):
 ah (fun _=>False) n (aq ai gt lf (d+ws.length+8) 139 #[v]) h n fun v' h' n'=>∃D,D.Perm (cN ws.length)∧D.Pairwise (RI (aP ws))∧Row h' n' 3 .i64 v' (nD ws D)∧∀b,ar v' b->n<=b:=by
 rw[aD (fun _=>Sa) rfl]
 refine ah.aB ?_
 unfold Dt
 refine aI aF (acC lf d n h v ws hR (by omega) (by omega) aw) (ak n) (fun _ _ h=>h.elim) fun v1 h1 n1 bb bJ hq=> ?_
 obtain⟨g,bw,bi,bl,cl,D,rfl,hp,hs,hT,hg0,hw0,Fk,oh⟩:=hq
 obtain⟨a,c,rfl⟩:=hR.len
 have w1:IntKind.i64.wrap (((ws.length:Nat):Int)-1)=((ws.length-1:Nat):Int):=by rw[aV (by omega) (by omega)];omega
 try simp(disch:=first|omega|assumption|exact aa _) only[ag,ae,RZ,w1]
 refine dpA lf (d+ws.length+6) n1 ws.length (bO ws) (Start ws D) g _ _ h2 hl hS _ n (ak n) hg0 (fun hr nr zi xe bl' off S1 cs xj LV TB hO hj=> ?_) (ws.length-1) 0 lf h1 n1 bw bi bl 0 cl (cj D) (by omega) (by omega) (by omega) (ak _) (by omega) hw0 Fk hT (Ty hp hw rfl) (.inl rfl)
 (try unfold Dr);(try dsimp only)
 have acJ:dm (ws.length-1) (Start ws D)=fW ws D:=rfl
 rw[acJ]at TB hO hj
 obtain⟨fM,aiI,acK,aiJ,_,_,_,kN⟩:=TB
 have lV:g<nr:=kN.2.2.2.2.2.2.1
 have wl:(fW ws D).weight.length=2*ws.length-1:=by rw[hO.wl];omega
 have il:(fW ws D).bj.length=2*ws.length-1:=by rw[hO.il];omega
 have qW:=hO.left
 simp only[iz]at qW
 have l4:(fW ws D).leaves=[]:=vL (by omega)
 have iC:(fW ws D).aS=2*ws.length-2:=by rw[l4]at qW;simp only[iz]at qW;omega
 have bW:∀i,i<2*ws.length-1-1->(i:Int)<(fW ws D).bj.getD i 0∧(fW ws D).bj.getD i 0<((2*ws.length-1:Nat):Int):=fun i hi=>by
  have:=hO.bj i (by omega) (by rw[l4];simp) (by omega) (by simp)
  omega
 rw[wl,il]at fM
 try simp(disch:=first|omega|assumption|exact aa _) only[ag,ae,RZ,fM]
 refine Ev.run_make trivial (2*ws.length-1) (2*ws.length-1) _ (ak _) (by omega) ?_
 have w2:IntKind.i64.wrap (((2*ws.length-1:Nat):Int)-2)=((2*ws.length-2:Nat):Int)-1:=by rw[aV (by omega) (by omega)];omega
 try simp(disch:=first|omega|assumption|exact aa _) only[ag,ae,RZ,w2]
 have hz:cq (2*ws.length-1) (iy .i64 0)=ints (cq (2*ws.length-1) 0):=by unfold ints;rw[List.map_replicate]
 refine dpB lf (d+ws.length+7) (nr+1) ws.length (2*ws.length-1) (fW ws D) g xe (ba+(2*ws.length-1)) nr (2*ws.length-1) _ _ _ _ _ _ _ _ (by omega) (by omega) il (by omega) (by omega) (by omega) (by omega) bW (by omega) _ (jB (fW ws D).bj (2*ws.length-2) (cq (2*ws.length-1) 0)) (fun jK ho=> ?_) (2*ws.length-2) lf _ (cq (2*ws.length-1) 0) (by omega) (by omega) (by rw[aA _ _ (by omega)];exact fM) (by rw[aA _ _ (by omega)];exact acK) (by rw[get_eq,hz]) ⟨by simp,fun j hj=>by rw[aC,aR (by simpa using hj),List.getElem_replicate];simp⟩ rfl
 (try unfold IP);(try unfold aiK);(try dsimp only)
 try simp(disch:=first|omega|assumption|exact aa _) only[ag,ae,RZ]
 have acL:(jB (fW ws D).bj (2*ws.length-2) (cq (2*ws.length-1) 0)).length=2*ws.length-1:=by rw[DV,mS]
 refine Cr trivial (l:=0) (hh:=ws.length) ho rfl (by omega) 0 (2*ws.length-1) (2*ws.length-1) _ _ (Hr _) (yK _ ws.length _) (by omega) (by omega) (by omega) _ trivial ?_
 try simp(disch:=first|omega|assumption|exact aa _) only[ag,ae,RZ]
 refine⟨D,hp,hs,.inr ⟨nr,0,2*ws.length-1,true,_, ?_,ho,by omega, ?_, ?_, ?_⟩,fun b hb=> ?_⟩
 ·rw[zv _ _ (by omega)]
  simp
 ·rw[zv _ _ (by omega),kX,acL];omega
 ·rw[zv _ _ (by omega),gT]
  unfold nD ints aL
  rw[List.map_take]
 ·rw[zv _ _ (by omega)];omega
 ·rw[hb.inj];omega
def eg(lo hi:Int)(xs:List Int):Bool:=xs.all fun x=>decide (lo<=x)&&decide (x<=hi)
theorem k8{lo hi:Int}{xs:List Int}:eg lo hi xs=true↔∀x∈xs,lo<=x∧x<=hi:=by unfold eg;simp
theorem mF{α:Type}(d:α){xs:List α}{i:Nat}(h:i<xs.length):xs.drop i=xs.getD i d::xs.drop (i+1):=by
 rw[Lo h,aC,aR h]
 rfl
theorem acM{lo hi:Int}{xs:List Int}{i:Nat}(h:i<xs.length):eg lo hi (xs.drop i)=(decide (lo<=xs.getD i 0)&&decide (xs.getD i 0<=hi)&&eg lo hi (xs.drop (i+1))):=by
 rw[mF 0 h]
 unfold eg
 simp
theorem acN{β:Type}{rec:FuncId->Array Value->M Value}(p q a:Value)(k:Value->M β):eM ai rec (.func (.func 142) #[] #[p,q]) [a] k=au rec 142 [a,p,q] k:=by
 unfold eM
 show aG (some _) _=_
 rw[pJ]
 simp only[show j1 ai 142=true by kernel_rfl]
 exact(ki _ _).symm
theorem acO(lf d n:Nat)(h:H)(x lo hi:Int)(p q:Nat)(hp:p<n)(hq:q<n){e1 e2:TypeId}{o1 o2:Bool}(gp:h.get p=some ⟨e1,o1,[.int .i64 lo]⟩)(gq:h.get q=some ⟨e2,o2,[.int .i64 hi]⟩):
 ah (fun _=>False) n (aq ai gt lf (d+1) 142 #[.int .i64 x,.pointer (some ⟨p,0,none⟩),.pointer (some ⟨q,0,none⟩)]) h n fun v' h' n'=>v'= .bool (!(decide (lo<=x)&&decide (x<=hi)))∧h'=h∧n'=n:=by
 rw[aD (fun _=>Sh) rfl]
 refine ah.aB ?_
 unfold IU
 have c0:∀z:Value,[z][0]? =some z:=fun _=>rfl
 by_cases h1:x<lo
 ·try simp(disch:=first|omega|assumption|exact aa _) only[ag,ae,RZ,gp,gq,c0,h1]
  rw[decide_eq_false (Int.not_le.2 h1)]
  simp
 ·try simp(disch:=first|omega|assumption|exact aa _) only[ag,ae,RZ,gp,gq,c0,h1]
  by_cases h2:hi<x
  ·simp[h2,Int.not_le.2 h2]
  ·simp[h2,Int.not_lt.1 h1,Int.not_lt.1 h2]
theorem ixL(lf d n:Nat)(h:H)(v:Value)(xs:List Int)(hR:Row h n 3 .i64 v xs)(hl:xs.length<=1000000000)(lo hi:Int)(p q:Nat)(hp:p<n)(hq:q<n){e1 e2:TypeId}{o1 o2:Bool}(gp:h.get p=some ⟨e1,o1,[.int .i64 lo]⟩)(gq:h.get q=some ⟨e2,o2,[.int .i64 hi]⟩)(x4:Value){W:Nat->Prop}{n0:Nat}(eE:n0<=n):
 ∀(m i fu:Nat),xs.length-i=m->m<fu->i<=xs.length->
  ah W n0 (mz lf (aq ai gt lf (d+1)) fu (oH lf (aq ai gt lf (d+1))) v (.func (.func 142) #[] #[.pointer (some ⟨p,0,none⟩),.pointer (some ⟨q,0,none⟩)]) x4 (.int .i64 (xs.length:Nat)) (.int .i64 (i:Nat))) h n (fun v' h' n'=>(∃r:Int,v'= .int .i64 r∧decide (0<=r)= !eg lo hi (xs.drop i))∧h'=h∧n'=n):=by
 intro m
 induction m with
 |zero=>
  intro i fu hm cC yG
  obtain⟨fu,rfl⟩:∃f,fu=f+1:=⟨fu-1,by omega⟩
  obtain rfl:i=xs.length:=by omega
  rw[mz]
  try simp(disch:=first|omega|assumption|exact aa _) only[ag,ae,RZ,c9]
  (try unfold oH);(try dsimp only)
  try simp(disch:=first|omega|assumption|exact aa _) only[ag,ae,RZ]
  exact⟨-1,rfl,by simp[eg]⟩
 |succ m ih=>
  intro i fu hm cC yG
  obtain⟨fu,rfl⟩:∃f,fu=f+1:=⟨fu-1,by omega⟩
  obtain⟨b,off,cap,o,cs,rfl,hg,hb,_,_,_,cI⟩:=hR.some (by omega)
  have e1:((i:Nat):Int)<((xs.length:Nat):Int):=by omega
  have c1:=cI i (by omega)
  have w1:((i:Nat):Int)+1=((i+1:Nat):Int):=by omega
  rw[mz]
  try simp(disch:=first|omega|assumption|exact aa _) only[ag,ae,RZ,e1,hg,c1,acN]
  refine bV (acO lf d n h (xs.getD i 0) lo _ p q hp hq gp gq) eE (fun _ _ h=>h.elim) ?_
  rw[acM (by omega)]
  by_cases h1:(decide (lo<=xs.getD i 0)&&decide (xs.getD i 0<=hi))=true
  ·rw[h1]
   try simp(disch:=first|omega|assumption|exact aa _) only[ag,ae,RZ]
   rw[w1]
   exact ih (i+1) fu (by omega) (by omega) (by omega)
  ·rw[Bool.eq_false_iff.2 h1]
   try simp(disch:=first|omega|assumption|exact aa _) only[ag,ae,RZ]
   (try unfold oH);(try dsimp only)
   try simp(disch:=first|omega|assumption|exact aa _) only[ag,ae,RZ]
   exact⟨(i:Nat),rfl,by simp⟩
theorem TC(lf d n:Nat)(h:H)(v:Value)(xs:List Int)(hR:Row h n 3 .i64 v xs)(lo hi:Int)(hl:xs.length<=1000000)(aw:3000000<=lf):
 ah (fun _=>False) n (aq ai gt lf (d+4) 130 #[v,.int .i64 lo,.int .i64 hi]) h n fun v' h' n'=>v'= .bool (eg lo hi xs):=by
 rw[aD (fun _=>RY) rfl]
 refine ah.aB ?_
 unfold II
 refine pL trivial _ _ ?_
 refine pL trivial _ _ ?_
 obtain⟨h2,sR⟩:∃h2,(h.set n (some ⟨3,true,(iy .i64 lo).cells.toList⟩)).set (n+1) (some ⟨3,true,(iy .i64 hi).cells.toList⟩)=h2:=⟨_,rfl⟩
 have g1:h2.get n=some ⟨3,true,[.int .i64 lo]⟩:=by rw[<-sR,aA _ _ (by omega),get_eq];rfl
 have g2:h2.get (n+1)=some ⟨3,true,[.int .i64 hi]⟩:=by rw[<-sR,get_eq];rfl
 have hk:∀b,b<n->h2.get b=h.get b:=fun b hb=>by rw[<-sR,aA _ _ (by omega),aA _ _ (by omega)]
 rw[sR]
 have kZ:Row h2 (n+2) 3 .i64 v xs:=hR.ax (by omega) hk
 obtain⟨a,c,rfl⟩:=hR.len
 have s1:ah (fun _=>False) (n+2) (aq ai gt lf (d+2) 128 #[.slice a xs.length c,.func (.func 142) #[] #[.pointer (some ⟨n,0,none⟩),.pointer (some ⟨n+1,0,none⟩)]]) h2 (n+2) fun v' h' n'=>(∃r:Int,v'= .int .i64 r∧decide (0<=r)= !eg lo hi xs)∧h'=h2∧n'=n+2:=by
  rw[aD (fun _=>Dk) rfl]
  refine ah.aB ?_
  unfold wX
  try simp(disch:=first|omega|assumption|exact aa _) only[ag,ae,RZ]
  exact ixL lf d (n+2) h2 _ xs kZ (by omega) lo hi n (n+1) (by omega) (by omega) g1 g2 _ (ak _) xs.length 0 lf (by omega) (by omega) (by omega)
 have s2:ah (fun _=>False) (n+2) (aq ai gt lf (d+3) 103 #[.slice a xs.length c,.func (.func 142) #[] #[.pointer (some ⟨n,0,none⟩),.pointer (some ⟨n+1,0,none⟩)]]) h2 (n+2) fun v' h' n'=>v'= .bool (!eg lo hi xs)∧h'=h2∧n'=n+2:=by
  rw[aD (fun _=>C5) rfl]
  refine ah.aB ?_
  unfold y6
  refine aI aF s1 (ak _) (fun _ _ h=>h.elim) fun v' h' n' _ _ hq=> ?_
  obtain⟨⟨r,rfl,hr⟩,rfl,rfl⟩:=hq
  try simp(disch:=first|omega|assumption|exact aa _) only[ag,ae,RZ]
  rw[hr]
 refine bV s2 (by omega) (fun _ _ h=>h.elim) ?_
 rw[yH,Bool.not_not]
 try simp(disch:=first|omega|assumption|exact aa _) only[ag,ae,RZ]
theorem xo {β:Type} {W:Nat->Prop} {n0:Nat} {h:H} {n:Nat} {Q:β->H->Nat->Prop} {lf d:Nat} {f:FuncId} {args:List Value} {b:Bool} (s:ah (fun _=>False) n (aq ai gt lf d f ⟨args⟩) h n fun v' _ _=>v'= .bool b) (hn:n0<=n) {k:Value->M β}
 (x:∀h1 n1,n<=n1->(∀c,c<n->h1.get c=h.get c)->ah W n0 (k (.bool b)) h1 n1 Q):ah W n0 (au (aq ai gt lf d) f args k) h n Q:=by
 refine aI aF s hn (fun _ _ h=>h.elim) fun v1 h1 n1 bb fr hq=> ?_
 subst hq
 exact x h1 n1 bb fun c hc=>fr c hc id
theorem acP(lf d n:Nat)(h:H)(v v2:Value)(xs ys:List Int)(hR:Row h n 3 .i64 v xs)(kZ:Row h n 3 .i64 v2 ys)(gO:xs.length=ys.length)(x4 x10:Value){W:Nat->Prop}{n0:Nat}(hl:xs.length<=1000000):
 ∀(m i fu:Nat),xs.length-i=m->m<fu->i<=xs.length->
  ah W n0 (uz lf (aq ai gt lf d) fu (yR lf (aq ai gt lf d)) v v2 x4 x10 (.int .i64 (xs.length:Nat)) (.int .i64 (i:Nat))) h n (fun v' h' n'=>v'= .bool (decide (xs.drop i=ys.drop i))∧h'=h∧n'=n):=by
 intro m
 induction m with
 |zero=>
  intro i fu hm cC hi
  obtain⟨fu,rfl⟩:∃f,fu=f+1:=⟨fu-1,by omega⟩
  obtain rfl:i=xs.length:=by omega
  rw[uz]
  try simp(disch:=first|omega|assumption|exact aa _) only[ag,ae,RZ,c9]
  (try unfold yR);(try dsimp only)
  try simp(disch:=first|omega|assumption|exact aa _) only[ag,ae,RZ]
  rw[xS,gO,xS]
  exact rfl
 |succ m ih=>
  intro i fu hm cC hi
  obtain⟨fu,rfl⟩:∃f,fu=f+1:=⟨fu-1,by omega⟩
  obtain⟨b,off,cap,o,cs,rfl,hg,hb,_,_,_,cI⟩:=hR.some (by omega)
  obtain⟨b2,zw,TD,o2,rM,rfl,fG,cW,_,_,_,zx⟩:=kZ.some (by omega)
  have e1:((i:Nat):Int)<((xs.length:Nat):Int):=by omega
  have e2:((i:Nat):Int)<((ys.length:Nat):Int):=by omega
  have c1:=cI i (by omega)
  have c2:=zx i (by omega)
  have w1:((i:Nat):Int)+1=((i+1:Nat):Int):=by omega
  rw[uz,mF 0 (show i<xs.length by omega),mF 0 (show i<ys.length by omega)]
  by_cases h1:xs.getD i 0=ys.getD i 0
  ·have n1:(xs.getD i 0 !=ys.getD i 0)=false:=by rw[h1];simp
   try simp(disch:=first|omega|assumption|exact aa _) only[ag,ae,RZ,e1,e2,hg,fG,c1,c2,n1]
   rw[w1,h1]
   have:=ih (i+1) fu (by omega) (by omega) (by omega)
   simp only[ajb,true_and]
   exact this
  ·have n1:(xs.getD i 0 !=ys.getD i 0)=true:=bne_iff_ne.2 h1
   try simp(disch:=first|omega|assumption|exact aa _) only[ag,ae,RZ,e1,e2,hg,fG,c1,c2,n1]
   (try unfold yR);(try dsimp only)
   try simp(disch:=first|omega|assumption|exact aa _) only[ag,ae,RZ]
   rw[decide_eq_false (fun q=>h1 (W6 q).1)]
theorem acQ(lf d n:Nat)(h:H)(v v2:Value)(xs ys:List Int)(hR:Row h n 3 .i64 v xs)(kZ:Row h n 3 .i64 v2 ys)(hl:xs.length<=1000000)(aw:3000000<=lf):
 ah (fun _=>False) n (aq ai gt lf (d+1) 27 #[v,v2]) h n fun v' h' n'=>v'= .bool (decide (xs=ys))∧h'=h∧n'=n:=by
 rw[aD (fun _=>PG) rfl]
 refine ah.aB ?_
 unfold CG
 have bL:=hR
 have acR:=kZ
 obtain⟨a,c,rfl⟩:=hR.len
 obtain⟨a2,c2,rfl⟩:=kZ.len
 by_cases gO:xs.length=ys.length
 ·have n1:(((xs.length:Nat):Int) !=((ys.length:Nat):Int))=false:=by rw[gO];simp
  try simp(disch:=first|omega|assumption|exact aa _) only[ag,ae,RZ,n1]
  exact acP lf d n h _ _ xs ys bL acR gO _ _ hl xs.length 0 lf (by omega) (by omega) (by omega)
 ·have n1:(((xs.length:Nat):Int) !=((ys.length:Nat):Int))=true:=by simp;omega
  try simp(disch:=first|omega|assumption|exact aa _) only[ag,ae,RZ,n1]
  rw[decide_eq_false (fun q=>gO (by rw[q]))]
def nE:List Int->Int->Int
 |[],a=>a
 |x::l,a=>nE l (if a<x then x else a)
theorem Jv(B:Int):∀(l:List Int) (a:Int),nE l a<=B↔(a<=B∧∀x∈l,x<=B)
 |[],a=>by simp[nE]
 |x::l,a=>by
  unfold nE
  rw[Jv B l]
  simp only[List.mem_cons,forall_eq_or_imp]
  by_cases h:a<x
  ·rw[if_pos h];constructor
   ·rintro⟨p,q⟩;exact⟨by omega,p,q⟩
   ·rintro⟨p,q,r⟩;exact⟨q,r⟩
  ·rw[if_neg h];constructor
   ·rintro⟨p,q⟩;exact⟨p,by omega,q⟩
   ·rintro⟨p,q,r⟩;exact⟨p,r⟩
theorem acS(lf d n:Nat)(h:H)(v:Value)(xs:List Int)(hR:Row h n 3 .i64 v xs)(hl:xs.length<=1000000)(x2:Value){W:Nat->Prop}{n0:Nat}:
 ∀(m i fu:Nat) (a:Int),xs.length-i=m->m<fu->i<=xs.length->
  ah W n0 (u4 lf (aq ai gt lf d) fu (Du lf (aq ai gt lf d)) v x2 (.int .i64 a) v (.int .i64 (xs.length:Nat)) (.int .i64 (i:Nat))) h n (fun v' h' n'=>v'= .int .i64 (nE (xs.drop i) a)∧h'=h∧n'=n):=by
 intro m
 induction m with
 |zero=>
  intro i fu a hm cC hi
  obtain⟨fu,rfl⟩:∃f,fu=f+1:=⟨fu-1,by omega⟩
  obtain rfl:i=xs.length:=by omega
  rw[u4]
  try simp(disch:=first|omega|assumption|exact aa _) only[ag,ae,RZ,c9]
  (try unfold Du);(try dsimp only)
  rw[xS]
  try simp(disch:=first|omega|assumption|exact aa _) only[ag,ae,RZ]
  simp[nE]
 |succ m ih=>
  intro i fu a hm cC hi
  obtain⟨fu,rfl⟩:∃f,fu=f+1:=⟨fu-1,by omega⟩
  obtain⟨b,off,cap,o,cs,rfl,hg,hb,_,_,_,cI⟩:=hR.some (by omega)
  have e1:((i:Nat):Int)<((xs.length:Nat):Int):=by omega
  have c1:=cI i (by omega)
  have w1:((i:Nat):Int)+1=((i+1:Nat):Int):=by omega
  rw[u4,mF 0 (show i<xs.length by omega)]
  try simp(disch:=first|omega|assumption|exact aa _) only[ag,ae,RZ,e1,hg,c1]
  rw[w1]
  exact ih (i+1) fu _ (by omega) (by omega) (by omega)
theorem TE(lf d n:Nat)(h:H)(v:Value)(xs:List Int)(hR:Row h n 3 .i64 v xs)(hl:xs.length<=1000000)(aw:3000000<=lf):
 ah (fun _=>False) n (aq ai gt lf (d+1) 140 #[v]) h n fun v' h' n'=>v'= .int .i64 (nE xs 0)∧h'=h∧n'=n:=by
 rw[aD (fun _=>Sd) rfl]
 refine ah.aB ?_
 unfold Dv
 have bL:=hR
 obtain⟨a,c,rfl⟩:=hR.len
 try simp(disch:=first|omega|assumption|exact aa _) only[ag,ae,RZ]
 exact acS lf d n h _ xs bL hl _ xs.length 0 lf 0 (by omega) (by omega) (by omega)
end Go.Proofs.YtdagfcflbphoiaaGreatDoor
namespace Go.Proofs.YtdagfcflbphoiaaGreatDoor.Ev
open Go Go.RowKit
section
variable {P:Program} {h:H} {n f:Nat} {t:TypeId} {v:Value}
theorem TF{k:IntKind}(hu:P.underlying t=some (.int k))(x:eH P h n (f+1) t v):∃i,v= .int k i∧(AL k i).wf=true:=by
 unfold eH at x
 rw[hu]at x
 exact x
theorem acT(hu:P.underlying t=some .string)(x:eH P h n (f+1) t v):∃l:List UInt8,v= .string ⟨l.toArray⟩∧l.length<=maxLen:=by
 unfold eH at x
 rw[hu]at x
 obtain⟨s,hv,hs⟩:=x
 exact⟨s.data.toList,by rw[hv],by rw[<-B5,<-ZT];exact hs⟩
theorem Jw(hc:jx P 8 t=some [t])(hg:oG P t=false)(x:nA P h n t v):eH P h n 8 t v:=by
 obtain⟨ts,fy,q⟩:=x
 rw[hc]at fy
 cases fy
 rcases q with ⟨h1,_⟩|⟨_,h2⟩
 ·rw[hg]at h1;cases h1
 ·exact h2.1
theorem acU{α β:Type}{R:α->β->Prop}{a a' pq:α}{l:List β}(x:ef R [a,a',pq] l):∃b b' DX,l=[b,b',DX]∧R a b∧R a' b'∧R pq DX:=by
 match l,x with
 |[b,b',DX],x=>exact⟨b,b',DX,rfl,x.1,x.2.1,x.2.2.1⟩
theorem TG{i:Int}(h:(AL .i64 i).wf=true):-9223372036854775808<=i∧i<=9223372036854775807:=by
 have e1:IntKind.i64.min=-9223372036854775808:=by decide
 have e2:IntKind.i64.max=9223372036854775807:=by decide
 simp only[Lit.wf,e1,e2,bZ,decide_eq_true_eq]at h
 exact h
end
theorem Jx{β:Type}{W:Nat->Prop}{n0:Nat}{h:H}{n:Nat}{Q:β->H->Nat->Prop}{T T':Prop}(_:T)(_:T'){sz:Nat}(b off:Nat)(k:Value->M β){B:AB}(hg:h.get b=some B)(hb:b<n)(hl:off+sz<=B.cells.length)(x:ah W n0 (k (.agg ((B.cells.drop off).take sz).toArray)) h n Q):ah W n0 (jb sz (.pointer (some ⟨b,off,none⟩)) k) h n Q:=OL b off k hg hb hl x
section
variable {P:Program} {w:World} {f:Nat} {t:TypeId} {v:Value}
end
section
variable {β:Type} {W:Nat->Prop} {n0:Nat} {h:H} {n:Nat} {Q:β->H->Nat->Prop} {P:Program}
theorem DY{T T':Prop}(_:T)(_:T'){sz:Nat}(b off:Nat)(k:Value->M β){B:AB}(hg:h.get b=some B)(hb:b<n)(hl:off+sz<=B.cells.length)(x:ah W n0 (k (.agg ((B.cells.drop off).take sz).toArray)) h n Q):ah W n0 (jb sz (.pointer (some ⟨b,off,none⟩)) k) h n Q:=OL b off k hg hb hl x
theorem TH{a b:Tk}(h1:∀e∈a.log,e.wr=false)(h2:∀e∈b.log,e.wr=false)(h3:∀e∈a.log,e.b<b.n)(h4:∀e∈b.log,e.b<a.n):a.g8 b=false:=by
 unfold Tk.g8
 simp only[Bool.or_eq_false_iff,List.any_eq_false,bZ,decide_eq_true_eq,not_and]
 refine⟨⟨⟨fun x hx hw=> ?_,fun x hx hw=> ?_⟩,fun x hx hle=> ?_⟩,fun x hx hle=> ?_⟩
 ·rw[h1 x hx]at hw;cases hw
 ·rw[h2 x hx]at hw;cases hw
 ·have:=h3 x hx;omega
 ·have:=h4 x hx;omega
structure RO (t:Tk) (n:Nat):Prop where
 wr:∀e∈t.log,e.wr=false
 lt:∀e∈t.log,e.b<n
 n:t.n=n
theorem RO.g8{a b:Tk}{m:Nat}(x:RO a m)(y:RO b m):mv a b=false:=(yA a b).trans<|TH x.wr y.wr (fun e he=>by rw[y.n];exact x.lt e he) (fun e he=>by rw[x.n];exact y.lt e he)
theorem Jy{T:Prop}(c:T)(b off:Nat)(k:Value×Tk->M β){B:AB}(hg:h.get b=some B)(hb:b<n){v:Value}(hv:B.cells[off]? =some v)(x:∀T,RO T n->ah W n0 (k (v,T)) h n Q):ah W n0 ((cz (av (.pointer (some ⟨b,off,none⟩)) M.ret)).bind k) h n Q:=
 Cs c b off k hg hb hv (x _ ⟨by simp,by simpa using hb,rfl⟩)
theorem TI{lf d:Nat}{gt:Nat->Hint}(hd:mw P=true){f:FuncId}{vs:List Value}{v:Value}(s:ah (fun _=>False) n (aq P gt lf d f ⟨vs⟩) h n fun v' h' n'=>v'=v∧h'=h∧n'=n)(hn:n0<=n){k:Value×Tk->M β}(x:∀T,RO T n->ah W n0 (k (v,T)) h n Q):ah W n0 ((cz (au (aq P gt lf d) f vs M.ret)).bind k) h n Q:=by
 refine Ht hd s hn (fun _ _ h=>h.elim) fun v' h' n' L _ _ hq hL hw=> ?_
 obtain⟨rfl,rfl,rfl⟩:=hq
 refine x _ ⟨fun e he=> ?_,hL,rfl⟩
 cases hq:e.wr with
 |false=>rfl
 |true=>exact(hw e he hq).elim
end
def l5(ws:List Nat):List Value:=ws.map fun(x:Nat)=>iy .u8 (x:Int)
theorem xp(ws:List Nat):(l5 ws).length=ws.length:=by unfold l5;simp
theorem acV(a b:List Nat):l5 (a++b)=l5 a++l5 b:=by unfold l5;simp
def bS(ws:List Nat):List UInt8:=ws.map nM
theorem TJ:∀ws:List Nat,nv (l5 ws)=some (bS ws)
 |[]=>rfl
 |x::ws=>by
  show(match nv (l5 ws)with
   |some l=>some (nM ((x:Int)).toNat::l)
   |none=>none)=_
  rw[TJ ws]
  rfl
section
variable {β:Type} {W:Nat->Prop} {n0:Nat} {h:H} {n:Nat} {Q:β->H->Nat->Prop} {P:Program}
theorem acW{b off cp:Nat}{B:AB}{ws:List Nat}(hg:h.get b=some B)(hb:b<n)(hl:off+ws.length<=B.cells.length)(hc:(B.cells.drop off).take ws.length=l5 ws)(k:Value->M β)(y:ah W n0 (k (.string ⟨(bS ws).toArray⟩)) h n Q):ah W n0 (wA (.slice (some ⟨b,off,none⟩) ws.length cp) k) h n Q:=by
 obtain⟨L,e1,e2⟩:=wM (n:=n) hg hb ws.length off hl
 rw[hc]at e1
 refine lS ?_
 have e:((iZ b off ws.length).bind fun vs=>match nv vs with
  |some l=>M.ret (Value.string ⟨⟨l⟩⟩)
  |none=> .fail) h n=some ⟨.string ⟨(bS ws).toArray⟩,h,n,L++[]⟩:=by
  rw[r9]
  refine cD e1 ?_
  rw[TJ]
  rfl
 obtain⟨L',e3,e4⟩:=Cj (W:=W) (n0:=n0) e (by simpa using e2)
 exact ah.step e3 (ak _) e4 y
theorem acX{lo:Nat}{e:TypeId}{v:Value}{ws:List Nat}(o:Own h lo n e v (l5 ws))(k:Value->M β)(y:ah W n0 (k (.string ⟨(bS ws).toArray⟩)) h n Q):ah W n0 (wA v k) h n Q:=by
 rcases o with ⟨rfl,hw⟩|⟨b,rfl,hg,_,hb⟩
 ·have:ws=[]:=by unfold l5 at hw;simpa using hw
  subst this
  exact y
 ·rw[xp]
  exact acW (B:=⟨e,true,l5 ws⟩) hg hb (by simp[xp]) (by rw[gT,<-xp ws,nQ]) k y
theorem xq {T:Prop} (c:T) {e:TypeId} {x:Value} (hx:one x=true) {lo:Nat} {v:Value} {cs:List Value} (o:Own h lo n e v cs) (hm:cs.length+1<=1099511627776) (hw:∀b,ar v b->n0<=b∨W b) (k:Value->M β)
 (y:∀h',h'.get (n+1)=some ⟨e,true,cs++[x]⟩->(∀b,b<n->¬ar v b->h'.get b=h.get b)->ah W n0 (k (.slice (some ⟨n+1,0,none⟩) (cs.length+1) (ba+(cs.length+1)))) h' (n+2) Q):ah W n0 (fI e 1 x fun w=>fB e 1 v w k) h n Q:=by
 rcases o with ⟨rfl,rfl⟩|⟨b,rfl,hb,h1,h2⟩
 ·exact OI c hx k (y _ (get_eq _ _ _) fun b hb _=>by rw[aA _ _ (by omega),aA _ _ (by omega)])
 ·refine Cq c hx hb h2 rfl hm (by omega) (hw b ⟨_,_,_,rfl⟩) k (y _ (get_eq _ _ _) fun c hc hn=> ?_)
  have:c≠b:=fun e=>hn ⟨0,_,_,by rw[e]⟩
  rw[aA _ _ (by omega),aA _ _ this,aA _ _ (by omega)]
end
def rc(f:Nat->Value)(z:Value)(N i:Nat):List Value:=(cN N).map fun j=>if j<i then f j else z
theorem Jz(f:Nat->Value)(z:Value)(N i:Nat):(rc f z N i).length=N:=by unfold rc;simp
theorem TK(f:Nat->Value)(z:Value)(N:Nat):rc f z N 0=cq N z:=by
 unfold rc
 apply nU
 ·simp
 ·intro i h1 h2;simp
theorem TL(f:Nat->Value)(z:Value)(N:Nat):rc f z N N=(cN N).map f:=by
 unfold rc
 apply List.map_congr_left
 intro j hj
 rw[if_pos (List.mem_range.1 hj)]
theorem TM{f:Nat->Value}{z:Value}{N i j:Nat}(h:j<(rc f z N i).length):(rc f z N i)[j]=if j<i then f j else z:=by simp[rc]
theorem TN{f:Nat->Value}{z:Value}{N i:Nat}(h:i<N):(rc f z N i).set i (f i)=rc f z N (i+1):=by
 apply nU
 ·simp[Jz]
 ·intro j h1 h2
  rw[List.getElem_set,TM,TM]
  by_cases e:i=j
  ·subst e;simp
  ·rw[if_neg e]
   by_cases e2:j<i
   ·rw[if_pos e2,if_pos (by omega)]
   ·rw[if_neg e2,if_neg (by omega)]
section
variable {β:Type} {W:Nat->Prop} {n0:Nat} {h:H} {n:Nat} {Q:β->H->Nat->Prop} {P:Program}
end
structure RB (t:Tk) (m:Nat):Prop where
 wr:∀e∈t.log,e.wr=false
 lt:∀e∈t.log,e.b<m
 le:m<=t.n
theorem RB.g8{a b:Tk}{m:Nat}(x:RB a m)(y:RB b m):mv a b=false:=(yA a b).trans<|TH x.wr y.wr (fun e he=>mL (x.lt e he) y.le) (fun e he=>mL (y.lt e he) x.le)
section
variable {β:Type} {W:Nat->Prop} {n0:Nat} {h:H} {n m:Nat} {Q:β->H->Nat->Prop} {P:Program}
theorem acY (hd:mw P=true) {gt:Nat->Hint} {lf d:Nat} {f:FuncId} {vs:List Value} {Q':Value->H->Nat->Prop} (s:ah (fun _=>False) n (aq P gt lf d f ⟨vs⟩) h n Q') (hn:n0<=n) {k:Value×Tk->M β}
 (x:∀v h1 n1 T,n<=n1->(∀b,b<n->h1.get b=h.get b)->Q' v h1 n1->RB T n->ah W n0 (k (v,T)) h1 n1 Q):ah W n0 ((cz (au (aq P gt lf d) f vs M.ret)).bind k) h n Q:=by
 refine Ht hd s hn (fun _ _ h=>h.elim) fun v h1 n1 L bb fr hq hL hw=>x v h1 n1 _ bb (fun b hb=>fr b hb id) hq ⟨fun e he=> ?_,hL,ak _⟩
 cases hq:e.wr with
 |false=>rfl
 |true=>exact(hw e he hq).elim
theorem acZ{T:Prop}(ha:T)(b off:Nat)(k:Value×Tk->M β){B:AB}(hg:h.get b=some B)(hb:b<n){v:Value}(hv:B.cells[off]? =some v)(x:∀T,T.n=n->T.n1=n->T.log=[⟨false,b,some off⟩]->ah W n0 (k (v,T)) h n Q):ah W n0 ((cz (av (.pointer (some ⟨b,off,none⟩)) M.ret)).bind k) h n Q:=
 Cs ha b off k hg hb hv (x _ rfl rfl rfl)
end
theorem iq {β σ:Type} {W:Nat->Prop} {n0:Nat} {Q:β->H->Nat->Prop} (N:Nat) (lp:Nat->Nat->σ->M β) (I:Nat->σ->H->Nat->Prop)
 (last:∀fu s h n,I N s h n->ah W n0 (lp (fu+1) N s) h n Q)
 (step:∀fu i s h n,i<N->I i s h n->(∀s' h' n',I (i+1) s' h' n'->ah W n0 (lp fu (i+1) s') h' n' Q)->ah W n0 (lp (fu+1) i s) h n Q):
 ∀(fu i:Nat) (s:σ) (h:H) (n:Nat),i<=N->N-i<fu->I i s h n->ah W n0 (lp fu i s) h n Q:=by
 have key:∀(m fu i:Nat) (s:σ) (h:H) (n:Nat),N-i=m->i<=N->N-i<fu->I i s h n->ah W n0 (lp fu i s) h n Q:=by
  intro m
  induction m with
  |zero=>
   intro fu i s h n hm hi hf x
   obtain⟨fu,rfl⟩:∃f,fu=f+1:=⟨fu-1,by omega⟩
   obtain rfl:i=N:=by omega
   exact last fu s h n x
  |succ m ih=>
   intro fu i s h n hm hi hf x
   obtain⟨fu,rfl⟩:∃f,fu=f+1:=⟨fu-1,by omega⟩
   exact step fu i s h n (by omega) x fun s' h' n' y=>ih fu (i+1) s' h' n' (by omega) (by omega) (by omega) y
 exact fun fu i s h n=>key _ fu i s h n rfl
def jf(h:H)(n:Nat)(e:TypeId)(v:Value)(cs:List Value):Prop:=
 (∃a c,v= .slice a 0 c∧(∀b o,a≠some ⟨b,o,none⟩)∧cs=[])∨∃b off cap o ks,v= .slice (some ⟨b,off,none⟩) cs.length cap∧h.get b=some ⟨e,o,ks⟩∧b<n∧off+cs.length<=ks.length∧(ks.drop off).take cs.length=cs∧cs.length<=cap
section
variable {h h':H} {n n' lo hi:Nat} {e e' es ei:TypeId} {v v':Value} {cs cs':List Value} {eI:List (List Int)}
theorem jf.ax(r:jf h n e v cs)(hn:n<=n')(hk:∀b,ar v b->h'.get b=h.get b):jf h' n' e v cs:=by
 rcases r with q|⟨b,off,cap,o,ks,hv,hg,hb,r⟩
 ·exact .inl q
 ·exact .inr ⟨b,off,cap,o,ks,hv,(hk b ⟨_,_,_,hv⟩).trans hg,by omega,r⟩
theorem jf.len(r:jf h n e v cs):∃a c,v= .slice a cs.length c:=by
 rcases r with ⟨a,c,rfl,_,rfl⟩|⟨b,off,cap,o,ks,rfl,_⟩
 ·exact⟨a,c,rfl⟩
 ·exact⟨_,cap,rfl⟩
theorem jf.some(r:jf h n e v cs)(h0:0<cs.length):∃b off cap o ks,v= .slice (some ⟨b,off,none⟩) cs.length cap∧h.get b=some ⟨e,o,ks⟩∧b<n∧∀i,i<cs.length->ks[off+i]? =some (cs.getD i undef):=by
 rcases r with ⟨a,c,_,_,rfl⟩|⟨b,off,cap,o,ks,hv,hg,hb,hl,ht,hc⟩
 ·simp at h0
 ·refine⟨b,off,cap,o,ks,hv,hg,hb,fun i hi=> ?_⟩
  have:=congrArg (fun z=>z[i]?) ht
  simp only[List.getElem?_take,hi,if_true,ahn]at this
  rw[this,aC,aR hi]
  rfl
theorem jf.lt(r:jf h n e v cs){b:Nat}(hb:ar v b):b<n:=by
 rcases r with ⟨a,c,rfl,cd,_⟩|⟨c,off,cap,o,ks,rfl,hg,pz,_⟩
 ·obtain⟨o,l,k,q⟩:=hb
  cases q
  exact absurd rfl (cd b o)
 ·rw[hb.inj];exact pz
theorem Own.ac0(o:Own h lo n e v cs):jf h n e v cs:=by
 rcases o with ⟨rfl,rfl⟩|⟨b,rfl,hg,_,hb⟩
 ·exact .inl ⟨none,0,rfl,fun _ _ q=>(nomatch q),rfl⟩
 ·exact .inr ⟨b,0,ba+cs.length,true,_,rfl,hg,hb,by omega,by rw[gT,nQ],by omega⟩
theorem Own.elem(o:Own h lo n e v cs){b:Nat}(hb:ar v b):∃B,h.get b=xT B∧B.elem=e:=by
 rcases o with ⟨rfl,_⟩|⟨c,rfl,hc,_⟩
 ·exact hb.not_nil.elim
 ·rw[hb.inj];exact⟨_,hc,rfl⟩
theorem Row.elem{k:IntKind}{xs:List Int}(r:Row h n e k v xs){b:Nat}(hb:ar v b):∃B,h.get b=xT B∧B.elem=e:=by
 rcases r with ⟨a,c,rfl,cd,_⟩|⟨c,off,cap,o,ks,rfl,hg,_⟩
 ·obtain⟨o,l,k,q⟩:=hb
  cases q
  exact absurd rfl (cd b o)
 ·rw[hb.inj];exact⟨_,hg,rfl⟩
theorem Own.apart(o:Own h lo n e v cs){oa:Nat}(o':Own h oa n e' v' cs')(cd:e≠e'){b:Nat}(hb:ar v b):¬ar v' b:=fun bM=>by
 obtain⟨B,h1,h2⟩:=o.elem hb
 obtain⟨B',h3,h4⟩:=o'.elem bM
 rw[h1]at h3;cases h3
 exact cd (h2.symm.trans h4)
theorem Row.apart{k:IntKind}{xs:List Int}(o:Row h n e k v xs){oa:Nat}(o':Own h oa n e' v' cs')(cd:e≠e'){b:Nat}(hb:ar v b):¬ar v' b:=fun bM=>by
 obtain⟨B,h1,h2⟩:=o.elem hb
 obtain⟨B',h3,h4⟩:=o'.elem bM
 rw[h1]at h3;cases h3
 exact cd (h2.symm.trans h4)
def RR(h:H)(n:Nat)(es ei:TypeId)(v:Value)(eI:List (List Int)):Prop:=∃cs,jf h n es v cs∧cs.length=eI.length∧∀i,i<eI.length->Row h n ei .i64 (cs.getD i undef) (eI.getD i [])
theorem RR.len(r:RR h n es ei v eI):∃a c,v= .slice a eI.length c:=by
 obtain⟨cs,r,hl,_⟩:=r
 rw[<-hl];exact r.len
theorem RR.ax(r:RR h n es ei v eI)(hn:n<=n')(hk:∀b,b<n->h'.get b=h.get b):RR h' n' es ei v eI:=by
 obtain⟨cs,r,hl,hr⟩:=r
 exact⟨cs,r.ax hn fun b hb=>hk b (r.lt hb),hl,fun i hi=>(hr i hi).ax hn hk⟩
theorem RR.at(r:RR h n es ei v eI)(h0:0<eI.length):∃b off cap o ks,v= .slice (some ⟨b,off,none⟩) eI.length cap∧h.get b=some ⟨es,o,ks⟩∧b<n∧∀i,i<eI.length->∃x,ks[off+i]? =some x∧Row h n ei .i64 x (eI.getD i []):=by
 obtain⟨cs,r,hl,hr⟩:=r
 obtain⟨b,off,cap,o,ks,hv,hg,hb,ha⟩:=r.some (by omega)
 exact⟨b,off,cap,o,ks,by rw[hv,hl],hg,hb,fun i hi=>⟨_,ha i (by omega),hr i hi⟩⟩
def iJ(h:H)(lo hi n:Nat)(es ei:TypeId)(v:Value)(eI:List (List Int)):Prop:=∃cs,Own h lo n es v cs∧cs.length=eI.length∧∀i,i<eI.length->Row h n ei .i64 (cs.getD i undef) (eI.getD i [])∧∀b,ar (cs.getD i undef) b->b<hi
theorem iJ.nil(h:H)(lo hi n:Nat)(es ei:TypeId):iJ h lo hi n es ei (.slice none 0 0) []:=⟨[],Own.nil _ _ _ _,rfl,fun i hi=>absurd hi (by simp)⟩
theorem iJ.rr(o:iJ h lo hi n es ei v eI):RR h n es ei v eI:=by
 obtain⟨cs,o,hl,hr⟩:=o
 exact⟨cs,o.ac0,hl,fun i hi=>(hr i hi).1⟩
theorem iJ.lt(o:iJ h lo hi n es ei v eI){b:Nat}(hb:ar v b):lo<=b∧b<n:=by
 obtain⟨cs,o,_⟩:=o
 exact o.lt hb
theorem iJ.elem(o:iJ h lo hi n es ei v eI){b:Nat}(hb:ar v b):∃B,h.get b=xT B∧B.elem=es:=by
 obtain⟨cs,o,_⟩:=o
 exact o.elem hb
theorem iJ.ax(o:iJ h lo hi n es ei v eI)(hn:n<=n')(hk:∀b,b<n->(b<hi∨ar v b)->h'.get b=h.get b):iJ h' lo hi n' es ei v eI:=by
 obtain⟨cs,o,hl,hr⟩:=o
 exact⟨cs,o.ax hn fun b hb=>hk b (o.lt hb).2 (.inr hb),hl,fun i hi=>⟨(hr i hi).1.fC hn fun b hb=>hk b ((hr i hi).1.lt hb) (.inl ((hr i hi).2 b hb)),(hr i hi).2⟩⟩
theorem iJ.up(o:iJ h lo hi n es ei v eI){m9:Nat}(hh:hi<=m9):iJ h lo m9 n es ei v eI:=by
 obtain⟨cs,o,hl,hr⟩:=o
 exact⟨cs,o,hl,fun i hi=>⟨(hr i hi).1,fun b hb=>mL ((hr i hi).2 b hb) hh⟩⟩
theorem DZ{α:Type}(d:α)(l:List α)(x:α)(i:Nat):(l++[x]).getD i d=if i<l.length then l.getD i d else if i=l.length then x else d:=by
 rw[aC,aC]
 split
 ·rename_i h;rw[me h]
 ·rename_i h
  split
  ·rename_i h2;subst h2;simp
  ·rw[List.getElem?_eq_none (by simp;omega)];rfl
theorem TO {β:Type} {W:Nat->Prop} {n0:Nat} {Q:β->H->Nat->Prop} {T:Prop} (c:T) (cd:ei≠es) (o:iJ h lo hi n es ei v eI) {x:Value} {xs:List Int} (r:Row h n ei .i64 x xs) (hh:hi<=n) (hm:eI.length+1<=1099511627776) (j8:n0<=lo) (kY:lo<=n) (k:Value->M β)
 (y:∀v' h',iJ h' lo n (n+2) es ei v' (eI++[xs])->(∀b,b<n->¬ar v b->h'.get b=h.get b)->(∀b,ar v' b->n<=b)->ah W n0 (k v') h' (n+2) Q):ah W n0 (fI es 1 x fun w=>fB es 1 v w k) h n Q:=by
 obtain⟨cs,o,hl,hr⟩:=o
 have hx:one x=true:=by obtain⟨a,c,rfl⟩:=r.len;rfl
 refine yN c hx o (by omega) j8 k fun h' hg hk=> ?_
 have TP:∀{u:Value} {us:List Int},Row h n ei .i64 u us->Row h' (n+2) ei .i64 u us:=fun q=>q.fC (by omega) fun b hb=>hk b (q.lt hb) (q.apart o cd hb)
 refine y _ h' ⟨cs++[x],.inr ⟨n+1,by simp,hg,by omega,by omega⟩,by simp[hl],fun i hi=> ?_⟩ hk fun b hb=>by rw[hb.inj];omega
 rw[DZ,DZ]
 by_cases c1:i<eI.length
 ·rw[if_pos (by omega),if_pos c1]
  exact⟨TP (hr i c1).1,fun b hb=>by have:=(hr i c1).2 b hb;omega⟩
 ·have:i=eI.length:=by simp at hi;omega
  subst this
  rw[if_neg (by omega),if_pos (by omega),if_neg (by omega),if_pos rfl]
  exact⟨TP r,fun b hb=>r.lt hb⟩
end
section
variable {h h':H} {n n':Nat} {e es ei:TypeId} {v:Value} {cs:List Value} {eI:List (List Int)}
theorem jf.elem(r:jf h n e v cs){b:Nat}(hb:ar v b):∃B,h.get b=xT B∧B.elem=e:=by
 rcases r with ⟨a,c,rfl,cd,_⟩|⟨c,off,cap,o,ks,rfl,hg,_⟩
 ·obtain⟨o,l,k,q⟩:=hb
  cases q
  exact absurd rfl (cd b o)
 ·rw[hb.inj];exact⟨_,hg,rfl⟩
theorem Row.sS{k:IntKind}{xs:List Int}(r:Row h n e k v xs)(hn:n<=n')(hk:∀b B,b<n->h.get b=xT B->B.elem=e->h'.get b=h.get b):Row h' n' e k v xs:=
 r.fC hn fun b hb=>by
  obtain⟨B,h1,h2⟩:=r.elem hb
  exact hk b B (r.lt hb) h1 h2
theorem jf.sS(r:jf h n e v cs)(hn:n<=n')(hk:∀b B,b<n->h.get b=xT B->B.elem=e->h'.get b=h.get b):jf h' n' e v cs:=
 r.ax hn fun b hb=>by
  obtain⟨B,h1,h2⟩:=r.elem hb
  exact hk b B (r.lt hb) h1 h2
theorem RR.sS(r:RR h n es ei v eI)(hn:n<=n')(hk:∀b B,b<n->h.get b=xT B->(B.elem=es∨B.elem=ei)->h'.get b=h.get b):RR h' n' es ei v eI:=by
 obtain⟨cs,r,hl,hr⟩:=r
 exact⟨cs,r.sS hn fun b B hb hB he=>hk b B hb hB (.inl he),hl,fun i hi=>(hr i hi).sS hn fun b B hb hB he=>hk b B hb hB (.inr he)⟩
theorem TQ{p:Nat}{C:AB}(hp:h.get p=some C)(hk:∀b,b≠p->h'.get b=h.get b){b:Nat}{B:AB}(hb:h.get b=some B)(he:B.elem≠C.elem):h'.get b=h.get b:=hk b fun q=>by
 subst q
 rw[hp]at hb;cases hb
 exact he rfl
end
section
variable {P:Program} {h:H} {n f:Nat} {t e:TypeId} {v:Value}
theorem ac1(hu:P.underlying t=some (.slice e))(JA:jx P 8 e=some [e])(x:eH P h n (f+1) t v):∃cs,jf h n e v cs∧cs.length<=maxLen∧∀c∈cs,eH P h n f e c:=by
 unfold eH at x
 rw[hu]at x
 rcases x with ⟨a,rfl,cd⟩|⟨b,len,ts,cs,rfl,ht,h0,hg,hb,hl,hm,gM⟩
 ·exact⟨[],.inl ⟨a,0,rfl,cd,rfl⟩,cb _,fun c hc=>by cases hc⟩
 ·rw[JA]at ht
  cases ht
  have hl:cs.length=len:=by simpa using hl
  refine⟨cs,.inr ⟨b,0,ba+len,false,cs,by rw[hl],hg,hb,by omega,by rw[gT,nQ],by omega⟩,by omega,fun c hc=> ?_⟩
  obtain⟨i,hi,rfl⟩:=List.mem_iff_getElem.1 hc
  have q:=gM i (by omega)
  have e1:(cs.drop (i*[e].length)).take [e].length=[cs[i]]:=by
   simp only[cu,iz,gU,vJ]
   rw[Lo hi,List.take_succ_cons,List.take_zero]
  rw[e1]at q
  exact q.1
theorem jf.row{k:IntKind}{xs:List Int}(r:jf h n e v (aL k xs)):Row h n e k v xs:=by
 rcases r with ⟨a,c,rfl,cd,hx⟩|⟨b,off,cap,o,ks,hv,hg,hb,hl,ht,hc⟩
 ·exact .inl ⟨a,c,rfl,cd,by unfold aL at hx;simpa using hx⟩
 ·rw[eF]at hv hl ht hc
  exact .inr ⟨b,off,cap,o,ks,hv,hg,hb,hl,ht,hc⟩
theorem TR{α β:Type}{R:α->β->Prop}(da:α)(d:β):∀{l:List α},(∀a∈l,∃b,R a b)->∃m:List β,m.length=l.length∧∀i,i<l.length->R (l.getD i da) (m.getD i d)
 |[],_=>⟨[],rfl,fun i hi=>absurd hi (rB i)⟩
 |a::l,hl=>by
  obtain⟨b,hb⟩:=hl a List.mem_cons_self
  obtain⟨m,h1,h2⟩:=TR da d (l:=l) fun x hx=>hl x (List.mem_cons_of_mem _ hx)
  refine⟨b::m,by simp[h1],fun i hi=> ?_⟩
  cases i with
  |zero=>exact hb
  |succ i=>exact h2 i (by simpa using hi)
theorem ac2{k:IntKind}(hu:P.underlying t=some (.slice e))(JA:jx P 8 e=some [e])(he:P.underlying e=some (.int k))(x:eH P h n (f+2) t v):∃xs,Row h n e k v xs∧xs.length<=maxLen∧∀y∈xs,(AL k y).wf=true:=by
 obtain⟨cs,r,hm,hc⟩:=ac1 hu JA x
 obtain⟨xs,hl,hx⟩:=TR (R:=fun c (y:Int)=>c= .int k y∧(AL k y).wf=true) undef 0 fun c q=>TF he (hc c q)
 have e1:cs=aL k xs:=by
  apply nU
  ·rw[eF,hl]
  ·intro i h1 h2
   have:=(hx i h1).1
   rw[aC,aR h1]at this
   have h3:=Hv (k:=k) (xs:=xs) (i:=i) (by omega)
   rw[aR h2]at h3
   rw[vI h3]
   exact this
 rw[e1]at r
 refine⟨xs,r.row,by omega,fun y hy=> ?_⟩
 obtain⟨i,hi,rfl⟩:=List.mem_iff_getElem.1 hy
 have:=(hx i (by omega)).2
 rw[aC,aR hi]at this
 exact this
end
section
variable {β:Type} {W:Nat->Prop} {n0:Nat} {h:H} {n m:Nat} {Q:β->H->Nat->Prop} {P:Program}
theorem ac3{T:Prop}(_:T)(b off:Nat)(v:Value)(k:Value->M β){e:TypeId}{cs:List Value}(hg:h.get b=some ⟨e,true,cs⟩)(hb:b<n)(ho:off<cs.length)(h1:one v=true)(hw:n0<=b∨W b)(x:ah W n0 (k undef) (h.set b (some ⟨e,true,cs.set off v⟩)) n Q):ah W n0 (bE (.pointer (some ⟨b,off,none⟩)) v k) h n Q:=
 (wL b off v k hb h1).2 (by rw[hg];exact⟨rfl,ho,hw,x⟩)
theorem ac4{e:TypeId}{z:Value}(l:Nat)(k:Value×Tk->M β){kd pK:IntKind}(hm:l<=1099511627776)(x:ah W n0 (k (.slice (some ⟨n,0,none⟩) l l,⟨n,n+1,[]⟩)) (h.set n (some ⟨e,true,cq l z⟩)) (n+1) Q):ah W n0 ((cz (jP e [z] (.int kd l) (.int pK l) M.ret)).bind k) h n Q:=by
 have e1:jP e [z] (.int kd l) (.int pK l) M.ret=eN ((kg e (jd [z] l)).bind fun id=>M.ret (jF (some ⟨id,0,none⟩) l l)) M.ret:=by
  show(match bh l l with
   |true=>match bh l 1099511627776 with
    |true=>eN ((kg e (jd [z] l)).bind fun id=>M.ret (jF (some ⟨id,0,none⟩) l l)) M.ret
    |false=> .fail
   |false=> .fail)=_
  rw[lF (ak l),lF hm]
 rw[e1,Hp]
 exact yL (yM (um _ _ (fun id=>jF (some ⟨id,0,none⟩) l l) _ _)) (Nat.le_succ n) (by simp) x
end
end Go.Proofs.YtdagfcflbphoiaaGreatDoor.Ev
namespace Go.Proofs.YtdagfcflbphoiaaGreatDoor
open Go
def bn(b:Bool):Nat:=if b then 1 else 0
theorem qY(b:Bool):bn b<2:=by cases b<;>decide
def num:List Bool->Nat->Nat
 |[],a=>a
 |b::l,a=>num l (2*a+bn b)
theorem xr:∀(l m:List Bool) (a:Nat),num (l++m) a=num m (num l a)
 |[],_,_=>rfl
 |b::l,m,a=>xr l m _
theorem TS:∀(l:List Bool) (a k:Nat),a<2^k->num l a<2^(k+l.length)
 |[],a,k,h=>h
 |b::l,a,k,h=>by
  have:=qY b
  have:=TS l (2*a+bn b) (k+1) (by rw[oY];omega)
  rw[cu,show k+(l.length+1)=k+1+l.length by omega]
  exact this
theorem oK(l:List Bool):num l 0<2^l.length:=by
 have:=TS l 0 0 (by decide)
 rwa[gU]at this
def cL:Nat->Nat->List Bool
 |_,0=>[]
 |v,n+1=>cL (v/2) n++[decide (v %2=1)]
theorem dP:∀(n v:Nat),(cL v n).length=n
 |0,_=>rfl
 |n+1,v=>by simp[cL,dP n]
theorem JB(v:Nat):bn (decide (v %2=1))=v %2:=by
 unfold bn
 by_cases h:v %2=1<;>simp[h]<;>omega
theorem JC:∀(n v:Nat),num (cL v n) 0=v %2^n
 |0,v=>by simp[cL,num,Nat.mod_one]
 |n+1,v=>by
  show num (cL (v/2) n++[decide (v %2=1)]) 0=_
  rw[xr,JC n]
  show 2*(v/2 %2^n)+bn _=_
  rw[JB,oY,vM (2^n) 2,Nat.mod_mul]
  omega
def ku(s:List Nat×List Bool)(b:Bool):List Nat×List Bool:=if s.2.length=7 then(s.1++[num (s.2++[b]) 0],[])else(s.1,s.2++[b])
def gH(s:List Nat×List Bool)(l:List Bool):List Nat×List Bool:=l.foldl ku s
theorem zy(s:List Nat×List Bool)(l m:List Bool):gH s (l++m)=gH (gH s l) m:=by unfold gH;rw[List.foldl_append]
theorem ac5(s:List Nat×List Bool)(b:Bool):(ku s b).1.length<=s.1.length+1:=by
 unfold ku
 split<;>simp
theorem JD:∀(l:List Bool) (s:List Nat×List Bool),(gH s l).1.length<=s.1.length+l.length
 |[],s=>ak _
 |b::l,s=>by
  have h1:=ac5 s b
  have h2:=JD l (ku s b)
  show(gH (ku s b) l).1.length<=_
  rw[cu]
  omega
theorem TT:∀(l:List Bool) (ws:List Nat) (r:List Bool),r.length+l.length<8->gH (ws,r) l=(ws,r++l)
 |[],ws,r,_=>by simp[gH]
 |b::l,ws,r,h=>by
  simp only[cu]at h
  show gH (ku (ws,r) b) l=_
  have:ku (ws,r) b=(ws,r++[b]):=by unfold ku;rw[if_neg (by simp;omega)]
  rw[this,TT l ws (r++[b]) (by simp;omega)]
  simp
theorem ac6(ws:List Nat)(l:List Bool)(h:l.length=8):gH (ws,[]) l=(ws++[num l 0],[]):=by
 have cd:l≠[]:=by intro e;rw[e]at h;simp at h
 obtain⟨a,b,rfl⟩:∃a b,l=a++[b]:=⟨l.dropLast,l.getLast cd,(ahR cd).symm⟩
 have h7:a.length=7:=by simpa using h
 rw[zy,TT a ws [] (by rw[h7];decide)]
 show ku (ws,[]++a) b=_
 unfold ku
 rw[if_pos (by simpa using h7)]
 rfl
def oL(r:List Bool):Nat:=num r 0*2^(8-r.length)
theorem ac7{r:List Bool}(h:r.length<=8):oL r<256:=by
 have h1:=oK r
 have h2:2^r.length*2^(8-r.length)=256:=by rw[<-ahY,show r.length+(8-r.length)=8 by omega]
 unfold oL
 calc num r 0*2^(8-r.length)<2^r.length*2^(8-r.length):=ahZ h1 (Xi _)
  _=256:=h2
theorem ac8{r:List Bool}(h:r.length<8)(b:Bool):oL r|||(bn b*2^(7-r.length))=oL (r++[b]):=by
 have hb:bn b*2^(7-r.length)<2^(8-r.length):=by
  rw[show 8-r.length=7-r.length+1 by omega,oY,vM _ 2]
  have:=Xi (7-r.length)
  exact ahZ (qY b) this
 unfold oL
 rw[vM (num r 0),<-ah0 hb,xr]
 show _=(2*num r 0+bn b)*2^(8-(r++[b]).length)
 rw[aM,List.length_singleton,show 8-r.length=7-r.length+1 by omega,show 8-(r.length+1)=7-r.length by omega,oY,kF]
 congr 1
 rw[vM (2^(7-r.length)) 2,Fc,Fc,vM (2^(7-r.length))]
theorem or8{a b:Nat}(ha:a<256)(hb:b<256):IntKind.u8.wrap ((di IntKind.u8.bits (a:Int)|||di IntKind.u8.bits (b:Int)).toNat:Int)=((a|||b:Nat):Int):=u8_or_nat a b ha hb
theorem w8{x:Nat}(h:x<256):IntKind.u8.wrap (x:Int)=(x:Int):=IntWalk.u8_in _ (by omega)
theorem qZ{x:Nat}(h:x<4294967296):IntKind.u32.wrap (x:Int)=(x:Int):=IntWalk.u32_in _ (by omega)
theorem ac9{b k:Nat}(hb:b<2)(hk:k<=7):IntKind.u8.wrap ((b:Int)*2^(min ((k:Int)).toNat (ah1).bits))=((b*2^k:Nat):Int):=by
 have e:min ((k:Int)).toNat (ah1).bits=k:=by rw[o0];exact nR (Nat.le_trans hk (by decide))
 rw[e]
 have hp:2^k<=2^7:=Nat.pow_le_pow_right (by decide) hk
 have:b*2^k<256:=by
  have:b*2^k<=1*2^7:=Nat.mul_le_mul (by omega) hp
  omega
 have e2:(b:Int)*2^k=((b*2^k:Nat):Int):=by push_cast;rfl
 rw[e2]
 exact w8 this
theorem fdiv_pow(v k:Nat)(kd:Nat)(h:k<=kd):((v:Int)).fdiv (2^(min ((k:Int)).toNat kd))=((v/2^k:Nat):Int):=by
 have e:min ((k:Int)).toNat kd=k:=by rw[o0];exact nR h
 rw[e]
 have e2:((2:Int)^k)=((2^k:Nat):Int):=by push_cast;rfl
 rw[e2,ahC _ (aa _)]
 rfl
theorem ac'{a:Nat}(ha:a<4294967296):IntKind.u32.wrap ((di IntKind.u32.bits (a:Int)&&&di IntKind.u32.bits (1:Int)).toNat:Int)=((a %2:Nat):Int):=by
 have h1:(di 32 (a:Int)).toNat=a:=by rw[Lm,Ln];exact AH (by omega)
 show IntKind.u32.wrap ((di 32 (a:Int)&&&di 32 (1:Int)).toNat:Int)=_
 rw[ahB,h1]
 have h2:(di 32 (1:Int)).toNat=1:=by decide
 rw[h2,ah2]
 exact qZ (by omega)
end Go.Proofs.YtdagfcflbphoiaaGreatDoor
namespace Go.Proofs.YtdagfcflbphoiaaGreatDoor.Cn
open Go
theorem xt:∀(l:List Bool) (a:Nat),num l a=a*2^l.length+num l 0
 |[],a=>by simp[num]
 |b::l,a=>by
  show num l (2*a+bn b)=_
  have h0:num (b::l) 0=num l (bn b):=by show num l (2*0+bn b)=_;rw[Lz,gU]
  rw[xt l (2*a+bn b),h0,xt l (bn b),cu,oY,kF,vM 2 a,Fc,vM 2]
  omega
theorem JE(l:List Bool)(b:Bool):num (l++[b]) 0=2*num l 0+bn b:=by rw[xr];rfl
theorem ac_{a b:Bool}(h:bn a=bn b):a=b:=by cases a<;>cases b<;>simp[bn]at h<;>rfl
theorem TU:∀{l m:List Bool},l.length=m.length->num l 0=num m 0->l=m
 |[],[],_,_=>rfl
 |[],_::_,h,_=>by simp at h
 |_::_,[],h,_=>by simp at h
 |a::l,b::m,h,e=>by
  have hl:l.length=m.length:=by simpa using h
  have e:num l (bn a)=num m (bn b):=by
   have h1:num (a::l) 0=num l (bn a):=by show num l (2*0+bn a)=_;rw[Lz,gU]
   have h2:num (b::m) 0=num m (bn b):=by show num m (2*0+bn b)=_;rw[Lz,gU]
   rw[<-h1,<-h2];exact e
  rw[xt l,xt m,hl]at e
  have l1:=oK l
  have l2:=oK m
  rw[hl]at l1
  have ab:bn a=bn b:=by
   have ha:=qY a
   have hb:=qY b
   rcases ahQ (bn a) (bn b)with q|q|q
   ·have h1:bn a=0:=by omega
    have h2:bn b=1:=by omega
    rw[h1,h2]at e;omega
   ·exact q
   ·have h1:bn b=0:=by omega
    have h2:bn a=1:=by omega
    rw[h1,h2]at e;omega
  rw[ab]at e
  rw[ac_ ab,TU hl (by omega)]
theorem adb{l:List Bool}{v:Nat}(h:num l 0=v):l=cL v l.length:=by
 refine TU (dP _ _).symm ?_
 rw[JC,<-h,AH (oK l)]
theorem JF{n v:Nat}(h:v<2^n):num (cL v n) 0=v:=by rw[JC,AH h]
theorem TV{l:List Bool}{n m:Nat}(h:n<=m)(hm:m<=l.length):num (l.take n) 0*2^(m-n)<=num (l.take m) 0∧num (l.take m) 0<(num (l.take n) 0+1)*2^(m-n):=by
 have e:l.take m=l.take n++(l.drop n).take (m-n):=by
  rw[<-jm n (l.take m),ah3,nR h,List.drop_take]
 have hl:((l.drop n).take (m-n)).length=m-n:=by simp;omega
 have h3:=oK ((l.drop n).take (m-n))
 rw[hl]at h3
 rw[e,xr,xt ((l.drop n).take (m-n)) (num (l.take n) 0),hl]
 constructor
 ·omega
 ·rw[kF];omega
def cn(ln:List Nat)(n:Nat):Nat:=ln.countP fun x=>x==n
def iL(ln:List Nat)(n i:Nat):Nat:=cn (ln.take i) n
theorem zA{ln:List Nat}{i:Nat}(h:i<ln.length)(n:Nat):iL ln n (i+1)=iL ln n i+(if ln.getD i 0=n then 1 else 0):=by
 unfold iL cn
 rw[mQ h,List.countP_append,aC,aR h]
 simp only[List.countP_cons,List.countP_nil,Option.getD_some,beq_iff_eq,gU]
theorem D1(ln:List Nat)(n:Nat):iL ln n ln.length=cn ln n:=by unfold iL;rw[nQ]
theorem TW{ln:List Nat}{n i j:Nat}(h:i<=j):iL ln n i<=iL ln n j:=by
 unfold iL cn
 have:ln.take i=(ln.take j).take i:=by rw[ah3,nR h]
 rw[this]
 exact ah5 (Fb _ _)
theorem TX(ln:List Nat)(n i:Nat):iL ln n i<=cn ln n:=by
 unfold iL cn
 exact ah5 (Fb _ _)
theorem JG{ln:List Nat}{i:Nat}(h:i<ln.length):iL ln (ln.getD i 0) i<cn ln (ln.getD i 0):=by
 have h1:=zA h (ln.getD i 0)
 rw[if_pos rfl]at h1
 have:=TX ln (ln.getD i 0) (i+1)
 omega
def bQ(ln:List Nat):Nat->Nat
 |0=>0
 |n+1=>2*(bQ ln n+cn ln n)
def bC(ln:List Nat):Nat->Nat
 |0=>0
 |n+1=>bC ln n+cn ln n
def eT(ln:List Nat)(i:Nat):Nat:=bQ ln (ln.getD i 0)+iL ln (ln.getD i 0) i
def ir(ln:List Nat):Nat->Nat
 |0=>0
 |n+1=>ir ln n+cn ln n*2^(20-n)
theorem JH(ln:List Nat):∀{n:Nat},n<=20->bQ ln n*2^(20-n)=ir ln n
 |0,_=>by simp[bQ,ir]
 |n+1,h=>by
  have ih:=JH ln (n:=n) (by omega)
  have e:20-n=20-(n+1)+1:=by omega
  unfold bQ ir
  rw[<-ih,e,oY]
  simp only[vM 2,kF,Fc]
theorem TY(ln:List Nat):∀{n m:Nat},n<=m->ir ln n<=ir ln m
 |n,0,h=>by have:n=0:=by omega
            subst this;exact ak _
 |n,m+1,h=>by
  by_cases e:n=m+1
  ·subst e;exact ak _
  ·have:=TY ln (n:=n) (m:=m) (by omega)
   show ir ln n<=ir ln m+cn ln m*2^(20-m)
   omega
structure Wh (ln:List Nat):Prop where
 lo:∀x∈ln,1<=x∧x<=20
 kr:ir ln 21=1048576
section
variable {ln:List Nat} (w:Wh ln)
include w
theorem Wh.at{i:Nat}(h:i<ln.length):1<=ln.getD i 0∧ln.getD i 0<=20:=by
 rw[aC,aR h]
 exact w.lo _ (ep h)
theorem Wh.cap{n:Nat}(h:n<=20):bQ ln n+cn ln n<=2^n:=by
 have h1:=JH ln h
 have h2:=TY ln (show n+1<=21 by omega)
 rw[w.kr]at h2
 have h3:ir ln (n+1)=ir ln n+cn ln n*2^(20-n):=rfl
 rw[h3,<-h1,<-kF]at h2
 have h4:2^n*2^(20-n)=1048576:=by rw[<-ahY,show n+(20-n)=20 by omega]
 rw[<-h4]at h2
 exact Nat.le_of_mul_le_mul_right h2 (Xi _)
theorem Wh.full:bQ ln 20+cn ln 20=1048576:=by
 have h1:=JH ln (ak 20)
 have h3:ir ln 21=ir ln 20+cn ln 20*2^(20-20):=rfl
 rw[w.kr,<-h1]at h3
 simpa using h3.symm
theorem Wh.JI{i:Nat}(h:i<ln.length):eT ln i<2^ln.getD i 0:=by
 have h1:=w.cap (w.at h).2
 have h2:=JG h
 unfold eT
 omega
end
theorem JJ(ln:List Nat){n:Nat}:∀{m:Nat},n<m->(bQ ln n+cn ln n)*2^(m-n)<=bQ ln m
 |0,h=>absurd h (rB n)
 |m+1,h=>by
  by_cases e:n=m
  ·subst e
   rw[show n+1-n=1 by omega,ah6]
   show _<=2*(bQ ln n+cn ln n)
   omega
  ·have ih:=JJ ln (n:=n) (m:=m) (by omega)
   rw[show m+1-n=m-n+1 by omega,oY,<-Fc]
   show _<=2*(bQ ln m+cn ln m)
   omega
def Mt(ln:List Nat)(bs:List Bool)(i:Nat):Prop:=i<ln.length∧ln.getD i 0<=bs.length∧num (bs.take (ln.getD i 0)) 0=eT ln i
theorem ade{ln:List Nat}{i j:Nat}(hi:i<ln.length)(hj:j<ln.length)(hl:ln.getD i 0=ln.getD j 0)(hr:iL ln (ln.getD i 0) i=iL ln (ln.getD i 0) j):i=j:=by
 rcases ahQ i j with q|q|q
 ·have h1:=zA hi (ln.getD i 0)
  rw[if_pos rfl]at h1
  have:=TW (ln:=ln) (n:=ln.getD i 0) (show i+1<=j by omega)
  omega
 ·exact q
 ·have h1:=zA hj (ln.getD i 0)
  rw[if_pos hl.symm]at h1
  have:=TW (ln:=ln) (n:=ln.getD i 0) (show j+1<=i by omega)
  omega
theorem Mt.TZ{ln:List Nat}{bs:List Bool}{i j:Nat}(a:Mt ln bs i)(b:Mt ln bs j):¬ln.getD i 0<ln.getD j 0:=by
 intro h
 obtain⟨hi,_,ei⟩:=a
 obtain⟨hj,lj,ej⟩:=b
 have h1:=(TV (Nat.le_of_lt h) lj).2
 have h2:=JG hi
 have h3:=JJ ln h
 rw[ei,ej]at h1
 have h4:(eT ln i+1)*2^(ln.getD j 0-ln.getD i 0)<=(bQ ln (ln.getD i 0)+cn ln (ln.getD i 0))*2^(ln.getD j 0-ln.getD i 0):=AD _ (by unfold eT;omega)
 have h5:bQ ln (ln.getD j 0)<=eT ln j:=by unfold eT;omega
 omega
theorem Mt.uniq{ln:List Nat}{bs:List Bool}{i j:Nat}(a:Mt ln bs i)(b:Mt ln bs j):i=j:=by
 have h1:=a.TZ b
 have h2:=b.TZ a
 have hl:ln.getD i 0=ln.getD j 0:=by omega
 refine ade a.1 b.1 hl ?_
 have e1:=a.2.2
 have e2:=b.2.2
 unfold eT at e1 e2
 rw[<-hl]at e2
 omega
def l7(ln:List Nat)(bs:List Bool):Option Nat:=(cN ln.length).find? fun i=>decide (ln.getD i 0<=bs.length)&&decide (num (bs.take (ln.getD i 0)) 0=eT ln i)
theorem T0{ln:List Nat}{bs:List Bool}{i:Nat}(m:Mt ln bs i):l7 ln bs=some i:=by
 unfold l7
 cases h:(cN ln.length).find? fun i=>decide (ln.getD i 0<=bs.length)&&decide (num (bs.take (ln.getD i 0)) 0=eT ln i)with
 |none=>
  have:=List.find?_eq_none.1 h i (List.mem_range.2 m.1)
  simp only[m.2.1,m.2.2,decide_true,mO,not_true_eq_false]at this
 |some j=>
  have h1:=ah8 h
  have h2:=ah9 h
  simp only[bZ,decide_eq_true_eq]at h1
  rw[m.uniq ⟨List.mem_range.1 h2,h1⟩]
theorem JK{ln:List Nat}{bs:List Bool}{i:Nat}(h:l7 ln bs=some i):Mt ln bs i:=by
 unfold l7 at h
 have h1:=ah8 h
 have h2:=ah9 h
 simp only[bZ,decide_eq_true_eq]at h1
 exact⟨List.mem_range.1 h2,h1⟩
theorem adf{ln:List Nat}{bs:List Bool}(h:∀i,¬Mt ln bs i):l7 ln bs=none:=by
 cases e:l7 ln bs with
 |none=>rfl
 |some i=>exact absurd (JK e) (h i)
def oM(ln:List Nat)(bs:List Bool)(n:Nat):Prop:=bQ ln n+cn ln n<=num (bs.take n) 0
theorem oM.no{ln:List Nat}{bs:List Bool}{n:Nat}(p:oM ln bs n)(hn:n<=bs.length){i:Nat}(hi:ln.getD i 0<=n):¬Mt ln bs i:=by
 rintro⟨h1,h2,h3⟩
 have h4:=(TV hi hn).2
 rw[h3]at h4
 have h5:=JG h1
 have h6:eT ln i+1<=bQ ln (ln.getD i 0)+cn ln (ln.getD i 0):=by unfold eT;omega
 by_cases e:ln.getD i 0=n
 ·unfold oM at p
  rw[e,nT,ah',vJ]at h4
  rw[e]at h6
  omega
 ·have h7:=JJ ln (show ln.getD i 0<n by omega)
  have h8:(eT ln i+1)*2^(n-ln.getD i 0)<=(bQ ln (ln.getD i 0)+cn ln (ln.getD i 0))*2^(n-ln.getD i 0):=AD _ h6
  unfold oM at p
  omega
theorem oM.next{ln:List Nat}{bs:List Bool}{n:Nat}(p:oM ln bs n)(hn:n<bs.length):bQ ln (n+1)<=num (bs.take (n+1)) 0:=by
 have e:bs.take (n+1)=bs.take n++[bs[n]]:=mQ hn
 rw[e,JE]
 unfold oM at p
 show 2*(bQ ln n+cn ln n)<=_
 omega
def gD(ln:List Nat)(n i:Nat):List Nat:=(cN i).filter fun s=>ln.getD s 0==n
theorem D3(ln:List Nat)(n i:Nat):gD ln n (i+1)=gD ln n i++(if ln.getD i 0=n then [i]else []):=by
 unfold gD
 rw[ahX,List.filter_append]
 congr 1
 by_cases h:ln.getD i 0=n
 ·rw[if_pos h,ahx,if_pos (by rw[h];simp)];rfl
 ·rw[if_neg h,ahx,if_neg (by simpa using h)];rfl
theorem zB{ln:List Nat}(n:Nat):∀{i:Nat},i<=ln.length->(gD ln n i).length=iL ln n i
 |0,_=>by simp[gD,iL,cn]
 |i+1,h=>by
  rw[D3,aM,zB n (i:=i) (by omega),zA (by omega)]
  split<;>rfl
theorem T5{ln:List Nat}{n:Nat}:∀{i r s:Nat},i<=ln.length->(gD ln n i)[r]? =some s->s<i∧ln.getD s 0=n∧iL ln n s=r
 |0,r,s,_,h=>by simp[gD]at h
 |i+1,r,s,hi,h=>by
  rw[D3]at h
  by_cases q:r<(gD ln n i).length
  ·rw[me q]at h
   obtain⟨a,b,c⟩:=T5 (i:=i) (by omega) h
   exact⟨by omega,b,c⟩
  ·rw[nO (by omega)]at h
   have hl:=zB (ln:=ln) n (i:=i) (by omega)
   split at h
   ·rename_i e
    have hr:r-(gD ln n i).length=0:=by
     cases q2:r-(gD ln n i).length with
     |zero=>rfl
     |succ k=>rw[q2]at h;simp at h
    rw[hr]at h
    simp at h
    subst h
    exact⟨by omega,e,by omega⟩
   ·simp at h
def iu(ln:List Nat):Nat->List Nat
 |0=>[]
 |n+1=>iu ln n++gD ln n ln.length
theorem oN(ln:List Nat):∀n,(iu ln n).length=bC ln n
 |0=>rfl
 |n+1=>by
  unfold iu bC
  rw[aM,oN ln n,zB n (ak _),D1]
theorem T6{ln:List Nat}{n r:Nat}(hr:r<cn ln n):∀{m:Nat},n<m->∃s,(iu ln m)[bC ln n+r]? =some s∧s<ln.length∧ln.getD s 0=n∧iL ln n s=r
 |0,h=>absurd h (rB n)
 |m+1,h=>by
  unfold iu
  by_cases e:n=m
  ·subst e
   have hl:=zB (ln:=ln) n (ak _)
   rw[D1]at hl
   have:((iu ln n++gD ln n ln.length)[bC ln n+r]?)=some ((gD ln n ln.length)[r]'(by omega)):=by
    rw[nO (by rw[oN];omega),oN,show bC ln n+r-bC ln n=r by omega,aR]
   obtain⟨a,b,c⟩:=T5 (ln:=ln) (n:=n) (i:=ln.length) (r:=r) (s:=(gD ln n ln.length)[r]'(by omega)) (ak _) (aR _)
   exact⟨_,this,a,b,c⟩
  ·obtain⟨s,h1,h2⟩:=T6 hr (m:=m) (by omega)
   refine⟨s, ?_,h2⟩
   rw[me ((List.getElem?_eq_some_iff.1 h1).1)]
   exact h1
theorem T7{ln:List Nat}:∀{n m:Nat},n<=m->bC ln n<=bC ln m
 |n,0,h=>by have:n=0:=by omega
            subst this;exact ak _
 |n,m+1,h=>by
  by_cases e:n=m+1
  ·subst e;exact ak _
  ·have:=T7 (ln:=ln) (n:=n) (m:=m) (by omega)
   show bC ln n<=bC ln m+cn ln m
   omega
theorem hit{ln:List Nat}{bs:List Bool}{n:Nat}(hn:n<=bs.length)(h1:bQ ln n<=num (bs.take n) 0)(h2:num (bs.take n) 0<bQ ln n+cn ln n):∃s,(iu ln 21)[bC ln n+(num (bs.take n) 0-bQ ln n)]? =some s∧(n<=20->Mt ln bs s∧ln.getD s 0=n)∨20<n:=by
 by_cases pR:20<n
 ·exact⟨0,.inr pR⟩
 ·obtain⟨s,a,b,c,d⟩:=T6 (ln:=ln) (n:=n) (r:=num (bs.take n) 0-bQ ln n) (by omega) (m:=21) (by omega)
  refine⟨s,.inl ⟨a,fun _=>⟨⟨b,by omega, ?_⟩,c⟩⟩⟩
  unfold eT
  rw[c,d]
  omega
def jR(ln:List Nat)(n i:Nat):Nat:=bQ ln n+iL ln n i
theorem T8{ln:List Nat}{n i:Nat}(h:i<ln.length):jR ln n (i+1)=jR ln n i+(if ln.getD i 0=n then 1 else 0):=by
 unfold jR
 rw[zA h]
 omega
theorem adg{ln:List Nat}{n i:Nat}(h:ln.getD i 0=n):jR ln n i=eT ln i:=by unfold jR eT;rw[h]
theorem JL{ln:List Nat}(w:Wh ln):cn ln 0=0:=by
 unfold cn
 rw[List.countP_eq_zero]
 intro x hx
 have:=(w.lo x hx).1
 simp;omega
theorem adh{ln:List Nat}(w:Wh ln):bC ln 1=0:=by
 show 0+cn ln 0=0
 rw[JL w]
def jS(s:List UInt8):List Bool:=s.flatMap fun b=>cL b.toNat 8
theorem JM:∀s:List UInt8,(jS s).length=8*s.length
 |[]=>rfl
 |b::s=>by
  show(cL b.toNat 8++jS s).length=_
  rw[aM,dP,JM s,cu]
  omega
theorem adi(a b:List UInt8):jS (a++b)=jS a++jS b:=by unfold jS;rw[List.flatMap_append]
theorem A8:∀(n v r:Nat) (h:r<n),(cL v n)[r]? =some (decide (v/2^(n-1-r)%2=1))
 |0,_,_,h=>absurd h (rB _)
 |n+1,v,r,h=>by
  show(cL (v/2) n++[decide (v %2=1)])[r]? =_
  by_cases e:r<n
  ·rw[me (by rw[dP];exact e),A8 n (v/2) r e,Nat.div_div_eq_div_mul,<-Nat.pow_succ',show(n-1-r).succ=n+1-1-r by omega]
  ·have:r=n:=by omega
   subst this
   rw[nO (by rw[dP];exact ak _),dP,nT,show r+1-1-r=0 by omega,ah',Nat.div_one]
   rfl
theorem T9:∀(s:List UInt8) (q r:Nat) (hq:q<s.length) (hr:r<8),(jS s)[8*q+r]? =some (decide (s[q].toNat/2^(7-r)%2=1))
 |[],q,r,hq,_=>by simp at hq
 |b::s,0,r,_,hr=>by
  show(cL b.toNat 8++jS s)[8*0+r]? =_
  rw[me (by rw[dP];omega),Lz,gU,A8 8 _ r hr]
  rfl
 |b::s,q+1,r,hq,hr=>by
  have ih:=T9 s q r (by simpa using hq) hr
  show(cL b.toNat 8++jS s)[8*(q+1)+r]? =_
  rw[nO (by rw[dP];omega),dP,show 8*(q+1)+r-8=8*q+r by omega,ih]
  rfl
def bR(S:List UInt8)(D A:Nat):List Bool:=(jS S).drop (A-8*D)
theorem Ua(S:List UInt8)(D A:Nat):(bR S D A).length=8*S.length-(A-8*D):=by unfold bR;rw[eP,JM]
theorem zC{S:List UInt8}{D A k:Nat}(h:8*D<=A):(bR S D A).drop k=bR S D (A+k):=by
 unfold bR
 rw[List.drop_drop]
 congr 1
 omega
theorem take_one{l:List Bool}{k:Nat}{b:Bool}(h:(l.drop k)[0]? =some b):l.take (k+1)=l.take k++[b]:=by
 rw[ahn,mN]at h
 obtain⟨hk,e⟩:=List.getElem?_eq_some_iff.1 h
 rw[mQ hk,e]
theorem adj{a:Nat}(ha:a<256):IntKind.u8.wrap ((di IntKind.u8.bits (a:Int)&&&di IntKind.u8.bits (1:Int)).toNat:Int)=((a %2:Nat):Int):=by
 have h1:(di 8 (a:Int)).toNat=a:=by rw[Lm,Ln];exact AH (by omega)
 show IntKind.u8.wrap ((di 8 (a:Int)&&&di 8 (1:Int)).toNat:Int)=_
 rw[ahB,h1]
 have h2:(di 8 (1:Int)).toNat=1:=by decide
 rw[h2,ah2]
 exact w8 (by omega)
theorem adk{a:Nat}(b:Bool)(ha:2*a+1<4294967296):IntKind.u32.wrap ((di IntKind.u32.bits ((2*a:Nat):Int)|||di IntKind.u32.bits (bn b:Int)).toNat:Int)=((2*a+bn b:Nat):Int):=by
 have hb:=qY b
 have h1:(di 32 ((2*a:Nat):Int)).toNat=2*a:=by rw[Lm,Ln];exact AH (by omega)
 have h2:(di 32 (bn b:Int)).toNat=bn b:=by rw[Lm,Ln];exact AH (by omega)
 show IntKind.u32.wrap ((di 32 ((2*a:Nat):Int)|||di 32 (bn b:Int)).toNat:Int)=_
 rw[BitVec.toNat_or,h1,h2]
 have h3:2*a|||bn b=2*a+bn b:=by
  have:=ah0 (i:=1) (b:=bn b) (by omega) a
  rw[ah6]at this
  exact this.symm
 rw[h3]
 exact qZ (by omega)
theorem adm{a:Nat}(ha:2*a<4294967296):IntKind.u32.wrap ((a:Int)*2^(min ((1:Int)).toNat (AO).bits))=((2*a:Nat):Int):=by
 have e:min ((1:Int)).toNat (AO).bits=1:=by decide
 rw[e]
 have:(a:Int)*2^1=((2*a:Nat):Int):=by omega
 rw[this]
 exact qZ ha
end Go.Proofs.YtdagfcflbphoiaaGreatDoor.Cn
