import Derived.Test.YtcehhgppfahbkaaGreatDoorMai
import Derived.Test.YtcehhgppfahbkaaGreatDoorMag
import Derived.Test.YtcehhgppfahbkaaGreatDoorMaf
import Derived.Test.YtcehhgppfahbkaaGreatDoorMah
import Derived.Lib.Strings
import Derived.WideShapes
import Derived.WalkLawsBesides
open Nat renaming le_refl→ai, zero_le→bU, beq→bZ, le_succ→cH, lt_succ_self→dK, zero_add→fy, add_mul→fW, add_assoc→iA, add_zero→gX, sub_self→j8, pow_succ→lH, mod_eq_of_lt→lJ, mul_comm→mz, min_eq_left→r8, le_trans→rY, mod_lt→ux, beq_refl→uy, add_comm→xt, eq_zero_or_pos→zu, lt_or_ge→Cl, add_sub_cancel→ON, add_left_comm→OP, xor_lt_two_pow→aq5
open List renaming getD_eq_getElem?_getD→aC, length_append→aG, getElem?_eq_getElem→aJ, range→aY, replicate→bD, append_assoc→bW, getElem_mem→cb, length_cons→ct, append_nil→cz, length_map→cu, length_take→cB, drop_zero→dx, map_append→dU, take_length→eh, length_drop→fp, take_succ_eq_append_getElem→fq, getElem?_map→fo, take_of_length_le→fG, length_nil→fH, mem_cons_of_mem→fF, map_cons→je, getElem?_eq_none→jM, mem_of_mem_take→j4, mem_cons_self→j6, length_range→j7, range_succ→mv, all_eq_true→mu, drop_length→my, length_singleton→nC, mem_cons→nF, flatMap_cons→pG, getElem?_append_left→nB, getElem?_append_right→oC, mem_append→qB, pairwise_append→qD, eq_nil_of_length_eq_zero→qE, pairwise_cons→r9, drop_eq_getElem_cons→uv, map_drop→xx, map_take→zC, foldl_cons→Cj, map_nil→Cv, mem_range→Cy, mem_singleton→CA, sum_cons→HK, mem_append_left→Oc, getElem?_take→Oh, getElem?_drop→Oi, pairwise_singleton→adr, filter_append→aqS, flatMap_nil→OL, length_filter_le→OM, pairwise_iff_getElem→OO, foldl_append→adt, drop_eq_nil_of_le→aqp, flatten_append→aqx, pairwise_lt_range→aqM, take_take→aq9, lt_irrefl→aru
open Go.Value renaming string→aZ, slice→fZ
open Int renaming lt_irrefl→bE, toNat_natCast→eg, toNat_of_nonneg→kS, ofNat_tdiv→HJ
open Bool renaming and_eq_true→cD, or_eq_true→mr, false_eq_true→nD, true_and→oA, false_or→Co, eq_iff_iff→apO, eq_false_iff→ary, and_eq_true_iff→adC, noConfusion→arw
open UInt8 renaming ofNat→dT, toNat_ofNat'→Cx, lt_irrefl→CB, lt_iff_toNat_lt→HI
open Prod renaming ext_iff→qF
open Option.some renaming inj→r3
open List.Perm renaming refl→uz, eq_of_pairwise→arv
open Decidable renaming byContradiction→zF
open Go.Op renaming bytesLess→Cq
open List.Pairwise renaming nil→OG, filter→art, imp→ar3
open List.cons renaming injEq→aq3
open Go.IntKind renaming wrap_u32→ars
set_option linter.unusedVariables false
set_option linter.unusedSimpArgs false
namespace Go.Proofs.YtcehhgppfahbkaaGreatDoor
open Go.RowKit Ev Tb Cn
section
variable {lf d n:Nat} {tb qs qt:Nat} {T:List (List Int)} {s:Nat}
theorem amZ(u:3000000<=lf)(X:∀r∈T,GoodR s r)(h3:3<=s)(C:s<=258)(W:T.length<=6){n0 m1:Nat}(h0:n0<=m1){x:H}(l:RR x m1 141 3 (.slice (some ⟨tb,qs,none⟩) T.length qt) T){A x2 x3 x4 z x6 x8:Value}{K:Value->Value->Value->M Value}{Q:Value->H->Nat->Prop}:
 ∀(m i a t:Nat) (h:H) (n:Nat),T.length-i=m->m<a->i<=T.length->m1<=n->(∀b,b<m1->h.get b=x.get b)->t+11000*m<=9000000->
 (∀h' n',m1<=n'->(∀b,b<m1->h'.get b=x.get b)->ae (fun _=>False) n0 (K A z (jI ((t+(((T.drop i).map bG).flatMap iJ).length:Nat):Int))) h' n' Q)->
 ae (fun _=>False) n0 (vx lf (eW lf (d+6)) a K A x2 x3 x4 z x6 (jI (t:Int)) x8 (.slice (some ⟨tb,qs,none⟩) T.length qt) (jI (T.length:Int)) (jI (i:Int))) h n Q:=by
 intro m
 induction m with
 |zero=>intro i a t h n O U P q j L w;obtain⟨a,rfl⟩:∃f,a=f+1:=⟨a-1,jO⟩;obtain rfl:i=T.length:=jO;rw[vx];refine jA @bE ?_;have:=w h n q j;rw[my]at this;simpa using this
 |succ m I=>
  intro i a t h n O U P q j L w;obtain⟨a,rfl⟩:∃f,a=f+1:=⟨a-1,jO⟩;have Z:(i:Int)<((T.length:Nat):Int):=jO;obtain⟨b,F,cap,o,ks,J,R,B,v⟩:=(l.ay q j).at jO;cases J;obtain⟨rv,k,c⟩:=v i jO;have g:T.getD i []∈T:=by rw[aC,aJ jO];exact cb _
  have e:=X _ g;rw[<-e.eq]at c;have dl:=xi e.hi (by rw[e.len];omega) (by rw[e.len];omega);have E:(i:Int)+1=((i+1:Nat):Int):=rfl;have D:(t:Int)+((iJ (bG (T.getD i []))).length:Int)=((t+(iJ (bG (T.getD i []))).length:Nat):Int):=rfl;rw[vx];refine jA (aI @Z (aI @R @k)) ?_;refine aN aL (amx (lf:=lf) (d:=d) c (by rw[e.len];omega) (by rw[e.len];omega) e.lo e.hi u) jO (fun _ _ h=>h.elim) fun v2 Y G N y p=> ?_;subst p;refine jA (aI @dF (aI @ext1 @D)) ?_;rw[E];refine I (i+1) a _ Y G jO jO jO jO (fun b B=>(y b jO id).trans (j b B)) jO fun h' n' a1 a2=> ?_;have:=w h' n' a1 a2;rwa[jY [] (show i<T.length by omega),je,pG,aG,<-iA]at this
end
theorem abu(rows:List (List Nat))(ps:List Nat):∀(a b:List Nat) (i:Nat),jF rows ps i (a++b)=jF rows ps i a++jF rows ps (i+a.length) b
 |[],b,i=>rfl
 |x::a,b,i=>by rw[List.cons_append,yX,yX,abu rows ps a b (i+1),bW,ct,show i+1+a.length=i+(a.length+1) by omega]
theorem abv{rows:List (List Nat)}{ps:List Nat}{g:Nat}{r:List Int}(e:iN (bG r)=r)(a:rows.getD (ps.getD g 0) []=bG r):∀(l:List Int) (i:Nat),(∀j,j<l.length->(i+j)/50=g)->((jF rows ps i (bG l)).length:Int)=mY l r
 |[],i,_=>rfl
 |x::l,i,h=>by
  have b:=h 0 jS;rw[gX]at b;have c:=abv e a l (i+1) fun j m=>by have:=h (j+1) (by simp;omega);rwa[show i+1+j=i+(j+1) by omega]
  have d:bG (x::l)=x.toNat::bG l:=rfl
  have f:Tb.look r x=((bG r).getD x.toNat 0:Int):=by unfold Tb.look;rw[<-iq,e]
  have k:mY (x::l) r=Tb.look r x+mY l r:=rfl;rw[d,yX,b,a,aG,k,f,<-c];unfold om;rw[cA];rfl
theorem am0{xs:List Int}{z:Int}{p:Nat}(h:p<(bO xs z.toNat 4).length):(rowsOf xs z).getD p []=bG ((bO xs z.toNat 4).getD p []):=by unfold rowsOf;generalize bO xs z.toNat 4=T at h;rw[aC,fo,aC,aJ h];rfl
theorem Nk{T:List (List Int)}{p:Nat}(h:p<T.length):T.getD p []∈T:=by rw[aC,aJ h];exact cb _
section
variable {xs:List Int} {z:Int} (m:nk xs z) (hl:xs.length<=1000)
include m hl
theorem abw{i:Nat}(c:i<dq xs.length):rM (bO xs z.toNat 4) (iN (cM xs z)) i=(bO xs z.toNat 4).getD ((cM xs z).getD i 0) []∧(cM xs z).getD i 0<(bO xs z.toNat 4).length:=by
 have a:=uj m jO;have b:(bO xs z.toNat 4).length=(rowsOf xs z).length:=by unfold rowsOf;rw[cu]
 refine⟨by unfold rM;rw[iq];rfl, ?_⟩;rw[b];exact a.pm _ (xh (by rw[a.pl];exact c))
theorem am1:xj xs (bO xs z.toNat 4) (iN (cM xs z))=true:=by
 have c:=uj m jO;have d:(iN (cM xs z)).length=dq xs.length:=by rw[bB,c.pl]
 unfold xj rN;rw[cD,decide_eq_true_eq,mu];refine⟨d,fun i e=> ?_⟩;rw[Cy,d]at e;obtain⟨j,h⟩:=abw m hl e;have b:=c.me _ (Nk h)
 have f:((bO xs z.toNat 4).getD ((cM xs z).getD i 0) []).length=z.toNat:=by have:=b.len;unfold bG at this;rwa[cu]at this
 unfold iL;rw[j,iq,f];simp only[cD,decide_eq_true_eq];have k:=m.2.1;refine⟨jO,jO, ?_, ?_⟩
 ·rw[kS jO];exact xd.2 fun x a=>xd.1 m.2.2.1 x (aat a)
 ·refine iG.2 fun x a=> ?_;rw[<-b.eq]at a;unfold iN at a;obtain⟨y,g,rfl⟩:=List.mem_map.1 a;have:=b.hi y g;omega
theorem abx:∀g,g<=dq xs.length->((jF (rowsOf xs z) (cM xs z) 0 (bG (xs.take (50*g)))).length:Int)=ph xs (bO xs z.toNat 4) (iN (cM xs z)) g
 |0,_=>rfl
 |g+1,s=>by
  have n:=uj m jO;have p:=abx g jO;have r:50*g<xs.length:=by unfold dq at s;omega
  obtain⟨t,f⟩:=abw m hl (i:=g) jO;have d:=n.me _ (Nk f)
  have h:xs.take (50*(g+1))=xs.take (50*g)++eN xs g:=by unfold eN;rw[show 50*(g+1)=50*g+50 by omega,List.take_add]
  have k:bG (xs.take (50*g)++eN xs g)=bG (xs.take (50*g))++bG (eN xs g):=dU;have a:(bG (xs.take (50*g))).length=50*g:=by unfold bG;rw[cu,cB];omega
  have w:=BF xs g;have e:=abv (rows:=rowsOf xs z) (ps:=cM xs z) (g:=g) d.eq (am0 f) (eN xs g) (50*g) fun j v=>by omega
  rw[h,k,abu,aG,a,fy,Nj,<-p];unfold yY gN;rw[t,<-e]
  have b:(jF (rowsOf xs z) (cM xs z) (50*g) (bG (eN xs g))).length<=1099511627776:=by
   have c:∀x,Tb.look ((bO xs z.toNat 4).getD ((cM xs z).getD g 0) []) x<=20:=fun x=>by
    unfold Tb.look;rw[<-d.eq,iq];by_cases q:x.toNat<(bG ((bO xs z.toNat 4).getD ((cM xs z).getD g 0) [])).length
    ·have:=d.hi _ (xh q);omega
    ·rw[aC,jM jO];decide
   have u:∀l:List Int,mY l ((bO xs z.toNat 4).getD ((cM xs z).getD g 0) [])<=20*(l.length:Int):=fun l=>by
    induction l with
    |nil=>exact Int.le_refl _
    |cons x l o=>have:=c x;rw[show mY (x::l) ((bO xs z.toNat 4).getD ((cM xs z).getD g 0) [])=Tb.look ((bO xs z.toNat 4).getD ((cM xs z).getD g 0) []) x+mY l ((bO xs z.toNat 4).getD ((cM xs z).getD g 0) [])from rfl,ct];omega
   have:=u (eN xs g);rw[<-e]at this;omega
  rw[MO jO];omega
end
theorem GQ{rows:List (List Nat)}{ps:List Nat}(h:∀r∈rows,∀y∈r,y<=20):∀(l:List Nat) (i:Nat),(jF rows ps i l).length<=20*l.length
 |[],_=>by simp[jF]
 |x::l,i=>by
  have d:=GQ h l (i+1) (ps:=ps)
  have b:(rows.getD (ps.getD (i/50) 0) []).getD x 0<=20:=by
   by_cases c:ps.getD (i/50) 0<rows.length
   ·by_cases a:x<(rows.getD (ps.getD (i/50) 0) []).length
    ·refine h (rows.getD (ps.getD (i/50) 0) []) ?_ _ (xh a);rw[aC (l:=rows),aJ c];exact cb _
    ·rw[aC,jM jO];exact bU _
   ·rw[show rows.getD (ps.getD (i/50) 0) []=[] by rw[aC,jM jO];rfl];exact bU _
  rw[yX,aG,ct];unfold om;rw[cA];omega
section
variable {lf d n:Nat} {h:H}
set_option maxHeartbeats 400000 in
theorem am2(j:3000000<=lf)(g:Gd h n){v:Value}{xs:List Int}(hR:Row h n 3 .i64 v xs)(hl:xs.length<=1000)(z:Int)(hd:600<=d):
 ae (fun _=>False) n (eW lf (d+10) 98 #[v,jI z]) h n fun v' _ _=>(nk xs z∧v'= .tuple #[jI ((pf xs z).length:Int),jI 0])∨(¬nk xs z∧v'= .tuple #[jI 0,jI 1]):=by
 rw[aF (fun _=>TD) rfl];refine ae.aE ?_;unfold Ei;have F:=hR;obtain⟨a,c,rfl⟩:=hR.len;refine aN aL (abo (lf:=lf) (d:=d+8) j _ xs z g F jO jO) (ai _) (fun _ _ h=>h.elim) fun v1 h1 f Y u4 W=> ?_;have u2:=F.ay Y fun b L=>u4 b L id;rcases W with ⟨i,cx,G,rfl,D,A⟩|⟨i,rfl⟩
 rotate_left
 ·have z1:((1:Int) !=0)=true:=rfl;refine jA (aI @dF @ext1) ?_;refine fh qa _ ?_;refine iZ (sz:=2) trivial (vs:=[.slice none 0 0,.slice none 0 0]) rfl rfl rfl (get_eq _ _ _) jO (.inl jO) _ fun N g2 k2=> ?_;refine jA @z1 ?_;exact .inr i
 have e:=uj i jO;have zz:((0:Int) !=0)=false:=rfl;have o1:one cx=true:=by obtain⟨_,_,rfl⟩:=D.len;rfl
 have o2:one G=true:=by obtain⟨_,_,rfl⟩:=A.len;rfl
 refine jA (aI @dF @ext1) ?_;refine fh qa _ ?_;refine iZ (sz:=2) trivial (vs:=[cx,G]) rfl rfl (by simp[o1,o2]) (get_eq _ _ _) jO (.inl jO) _ fun N g2 k2=> ?_;have t:∀b,b<f->N.get b=h1.get b:=fun b L=>by rw[k2 b jO,aB _ _ jO]
 have u1:=u2.ay (cH f) t;have C:=D.ay (cH f) t;have x:Row N (f+1) 3 .i64 G (iN (cM xs z)):=A.ay (cH f) t;have o:(bO xs z.toNat 4).length=(rowsOf xs z).length:=by unfold rowsOf;rw[cu]
 have r2:=e.r2;obtain⟨tb,k,m,u5,u6,rfl,tg,_,_⟩:=C.at jO;have Q:f<f+1:=jO;refine jA (aI @zz @g2) ?_;rw[o];refine aN aL (amH (lf:=lf) (d:=d+4) x e.r2 e.r6 e.p0 (by rw[e.pl];unfold dq;omega) e.pm j) jO (fun _ _ h=>h.elim) fun v3 h3 O w u3 U=> ?_;subst U;have J:∀b,b<f+1->h3.get b=N.get b:=fun b L=>u3 b L id;have g3:h3.get f=some ⟨178,true,[.slice (some ⟨tb,k,none⟩) (rowsOf xs z).length m,G]⟩:=by rw[J f Q,g2,o]
 have P:f<O:=jO;have B:=C.ay w J;have u0:=u1.ay w J;have R:=x.ay w J
 have p6:(kP (rowsOf xs z).length (cM xs z)).length<=300000:=by rw[yW];have:=yV (l:=fb eM (cM xs z)) (ui _ _ rK fun p hp=>by have:=e.pm p hp;have:=e.r6;omega);rw[rI,e.pl]at this;unfold dq at this;omega
 refine jA (aI @dF (aI @ext1 @g3)) ?_;rw[<-o];rw[<-o]at g3 p6;refine amZ (lf:=lf) (d:=d+3) (T:=bO xs z.toNat 4) (s:=z.toNat) j e.me (by have:=i.2.1;omega) (by have:=i.2.1;omega) (by rw[o];exact e.r6) (n0:=n) (m1:=O) jO B (bO xs z.toNat 4).length 0 lf _ h3 O jO (by have:=e.r6;omega) jO (ai _) (fun _ _=>rfl) (by have:=e.r6;omega) fun h4 n4 u I=> ?_
 (try unfold J4);(try dsimp only)
 refine Bp trivial trivial (sz:=2) f 0 _ ((I f P).trans g3) jO jS ?_;have ch:xf h4 n4 (.agg #[.slice (some ⟨tb,k,none⟩) (bO xs z.toNat 4).length m,G]) (bO xs z.toNat 4) (iN (cM xs z)):=⟨_,_,rfl,B.ay u I,R.ay u I⟩;refine aN aL (amY lf d n4 h4 j _ _ xs (bO xs z.toNat 4) (iN (cM xs z)) (u0.ay u I) ch jO ⟨by have:=e.r6;omega,fun l Z=>by have:=(e.me l Z).len;unfold bG at this;rw[cu]at this;have:=i.2.1;omega⟩ (by rw[bB,e.pl];unfold dq;omega)) jO (fun _ _ h=>h.elim) fun v5 h5 n5 u7 u9 E=> ?_;rw[if_pos (am1 i hl)]at E;subst E;have sc:=abx i hl (dq xs.length) (ai _);rw[show xs.take (50*dq xs.length)=xs from fG (by unfold dq;omega)]at sc;have kl:(iN (cM xs z)).length=dq xs.length:=by rw[bB,e.pl]
 have sm:=GQ (rows:=rowsOf xs z) (ps:=cM xs z) (fun r K y hy=>by
  unfold rowsOf at K;obtain⟨q,X,rfl⟩:=List.mem_map.1 K
  exact(e.me q X).hi y hy) (bG xs) 0
 have ll:(bG xs).length=xs.length:=by unfold bG;rw[cu]
 rw[kl,<-sc,MO jO]
 have al:(pf xs z).length=(kP (bO xs z.toNat 4).length (cM xs z)).length+(((bO xs z.toNat 4).map bG).flatMap iJ).length+(jF (rowsOf xs z) (cM xs z) 0 (bG xs)).length:=by unfold pf;rw[aG,aG,<-o,<-iA];rfl
 rw[al,dx];have w9:(((kP (bO xs z.toNat 4).length (cM xs z)).length+(((bO xs z.toNat 4).map bG).flatMap iJ).length:Nat):Int)+((jF (rowsOf xs z) (cM xs z) 0 (bG xs)).length:Int)=(((kP (bO xs z.toNat 4).length (cM xs z)).length+(((bO xs z.toNat 4).map bG).flatMap iJ).length+(jF (rowsOf xs z) (cM xs z) 0 (bG xs)).length:Nat):Int):=rfl
 have fl:=o0 (rows:=(bO xs z.toNat 4).map bG) fun r K=>by obtain⟨q,X,rfl⟩:=List.mem_map.1 K;have gr:=e.me q X;exact xi gr.hi (by rw[gr.len];have:=i.2.1;omega) (by rw[gr.len];have:=i.2.1;omega)
 rw[cu,o]at fl;have r6:=e.r6;refine jA (aI @dF (aI @ext1 @w9)) ?_;exact .inl i
end
section
variable {lf d:Nat} {tb qs qt:Nat} {T:List (List Int)} {s:Nat}
set_option maxHeartbeats 400000 in
theorem am3(x:3000000<=lf)(hT:∀r∈T,GoodR s r)(h3:3<=s)(u0:s<=258)(u3:T.length<=6){n0 m1:Nat}(h0:n0<=m1){W:H}(I:RR W m1 141 3 (.slice (some ⟨tb,qs,none⟩) T.length qt) T){Z x2 x3 x4:Value}{K:Value->Value->Value->Value->Value->Value->Value->Value->Value->Value->M Value}{Q:Value->H->Nat->Prop}:
 ∀(m i c:Nat) (t:List Bool) (h:H) (n:Nat) (gv:Value),T.length-i=m->m<c->i<=T.length->m1<=n->(∀b,b<m1->h.get b=W.get b)->TT h m1 n gv ((T.take i).map bG)->t.length+11000*m<=9000000->
 (∀h' n' g,m1<=n'->(∀b,b<m1->h'.get b=W.get b)->TT h' m1 n' g (T.map bG)->ae (fun _=>False) n0 (K Z x2 x3 x4 (tx (t++((T.drop i).map bG).flatMap iJ)) g (.slice (some ⟨tb,qs,none⟩) T.length qt) (jI (T.length:Int)) (jI (T.length:Int)) (.bool false)) h' n' Q)->
 ae (fun _=>False) n0 (vC lf (eW lf (d+2)) c K Z x2 x3 x4 (tx t) gv (.slice (some ⟨tb,qs,none⟩) T.length qt) (jI (T.length:Int)) (jI (i:Int))) h n Q:=by
 intro m
 induction m with
 |zero=>intro i c t h n gv hm hf hi L z A ht U;obtain⟨c,rfl⟩:∃f,c=f+1:=⟨c-1,jO⟩;obtain rfl:i=T.length:=jO;rw[vC];refine jA @bE ?_;rw[eh]at A;have:=U h n gv L z A;rw[my]at this;simpa using this
 |succ m ih=>
  intro i c t h n gv hm hf hi L z A ht U;obtain⟨c,rfl⟩:∃f,c=f+1:=⟨c-1,jO⟩;have X:(i:Int)<((T.length:Nat):Int):=jO;obtain⟨b,u1,cap,o,ks,hv,O,v,R⟩:=(I.ay L z).at jO;cases hv;obtain⟨rv,G,a⟩:=R i jO;have e:=hT _ (Nk (T:=T) (p:=i) jO);rw[<-e.eq]at a;have dl:=xi e.hi (by rw[e.len];omega) (by rw[e.len];omega);have w1:(i:Int)+1=((i+1:Nat):Int):=rfl;have a1:=fun(k:Value->M Value)=>fL t (iJ (bG (T.getD i []))) jO k;rw[vC];refine jA (aI @X (aI @O @G)) ?_;refine bz (amM (lf:=lf) (d:=d) a (by rw[e.len];omega) (by rw[e.len];omega) e.hi x) jO (fun _ _ h=>h.elim) ?_;refine jA @a1 ?_;have w:(bG (T.getD i [])).length<=258:=by rw[e.len];omega
  have l0:0<(bG (T.getD i [])).length:=by rw[e.len];omega
  have P:=akN (lf:=lf) (d:=d) a e.wh w l0 (rY jD x);refine aN aL P jO (fun _ _ h=>h.elim) fun v2 h2 n2 u2 l J=> ?_;obtain⟨rfl,rfl,g2,_⟩:=J;obtain⟨cs,u,Y,y⟩:=A;have E:Own h2 m1 (n+1) 199 gv cs:=u.ay jO fun b v=>l b (u.lt v).2 id;have tk:(T.take i).length=i:=by rw[cB];omega
  rw[cu,tk]at Y y;refine F' trivial (afV _ _ _) E jO (fun b v=> .inl (by have:=(u.lt v).1;omega)) _ fun h4 g4 F=> ?_;refine jB ?_;rw[w1];refine ih (i+1) c _ h4 (n+1+2) _ jO jO jO jO (fun b v=> ?_) ?_ (by rw[aG];omega) fun h' n' g q1 q2 q3=> ?_
  ·rw[F b jO fun q=>by have:=(u.lt q).1;omega,l b jO id];exact z b v
  ·have C:T.take (i+1)=T.take i++[T.getD i []]:=by rw[aC,aJ jO];exact(List.take_append_getElem jO).symm
   have D:((T.take i).map bG).length=i:=by rw[cu,tk]
   rw[C,dU];refine⟨_,Own.mk' g4 jO jO jS,by rw[aG,aG,Y,D];rfl,fun j hj=> ?_⟩;rw[aG,D]at hj;by_cases N:j<i
   ·obtain⟨b,X,e2,e3,e4⟩:=y j N;refine⟨b, ?_, ?_,e3,jO⟩
    ·rw[aC,nB jO,<-aC,X,aC,aC,nB jO]
    ·rw[F b jO (fun q=>by
      obtain⟨B,q1,q2⟩:=u.elem q;rw[e2]at q1;cases q1
      exact absurd (show(9:Nat)=199 from q2) jD),l b jO id,e2]
     rw[aC,aC,nB jO]
   ·obtain rfl:j=i:=by simp at hj;omega
    have gi:(((T.take j).map bG)++[bG (T.getD j [])]).getD j []=bG (T.getD j []):=by rw[aC,oC jO,D,j8];rfl
    refine⟨n, ?_, ?_,jO,jO⟩
    ·rw[je,Cv,gi,aC,oC jO,Y,j8];rfl
    ·rw[je,Cv,gi,F n jO (fun q=>by have:=(u.lt q).2;omega)];exact g2
  ·have:=U h' n' g q1 q2 q3;rwa[jY [] (show i<T.length by omega),je,pG,<-bW]at this
end
section
variable {lf d n z lo:Nat} {h:H} {xv pv tv gv:Value} {rows:List (List Nat)} {ps xn:List Nat} {e:TypeId}
set_option maxHeartbeats 400000 in
theorem am4(Z:Row h n 3 .i64 xv (iN xn))(hp:Row h n 3 .i64 pv (iN ps))(s:h.get z=some ⟨e,true,[tv,pv]⟩)(hz:z<n)(hT:TT h lo n gv rows)(o:∀r∈rows,Wh r)(u:∀p∈ps,p<rows.length)(v:∀i,i<xn.length->i/50<ps.length)(q:∀x∈xn,∀r∈rows,x<r.length)(Y:xn.length<=100000){x2 x3 x7 x8 x9 x10:Value}{n0:Nat}:
 ∀(m i c:Nat) (t:List Bool),xn.length-i=m->m<c->i<=xn.length->t.length+20*m<=100000000->
 ae (fun _=>False) n0 (vD lf (eW lf d) c (Et lf (eW lf d)) xv x2 x3 (jP z 0) (tx t) gv x7 x8 x9 x10 xv (jI (xn.length:Int)) (jI (i:Int))) h n fun O h' n'=>O=tx (t++jF rows ps i (xn.drop i))∧h'=h∧n'=n:=by
 intro m
 induction m with
 |zero=>
  intro i c t hm hf hi ht;obtain⟨c,rfl⟩:∃f,c=f+1:=⟨c-1,jO⟩;obtain rfl:i=xn.length:=jO;rw[vD];refine jA @bE ?_
  (try unfold Et);(try unfold a);(try dsimp only)
  refine jB ?_;rw[my];simp[jF]
 |succ m X=>
  intro i c t hm hf hi ht;obtain⟨c,rfl⟩:∃f,c=f+1:=⟨c-1,jO⟩;have il:=bB xn;have pl:=bB ps;have hq:=v i jO;obtain⟨b1,o1,c1,w1,k1,rfl,g1,l1,_,_,_,Q⟩:=Z.some jO;obtain⟨I,E,G,w2,k2,rfl,g2,l2,_,_,_,P⟩:=hp.some jO;have K:=Q i jO;have J:=P (i/50) jO;rw[iq]at K J;have j:=u _ (xh hq);have D:rows.getD (ps.getD (i/50) 0) []∈rows:=by rw[aC,aJ j];exact cb _
  have g:xn.getD i 0<(rows.getD (ps.getD (i/50) 0) []).length:=q _ (xh jO) _ D;obtain⟨B,W,C,w⟩:=hT;obtain⟨b,ec,gc,_,bn⟩:=w _ j;rcases W with ⟨_,e0⟩|⟨gb,rfl,gg,_,u0⟩
  ·rw[e0]at C;simp at C;omega
  have y:B[ps.getD (i/50) 0]? =some (.slice (some ⟨b,0,none⟩) (rows.getD (ps.getD (i/50) 0) []).length (rows.getD (ps.getD (i/50) 0) []).length):=by rw[<-ec,aC (l:=B),aJ (by rw[C];exact j)];rfl
  have et:(yK (rows.getD (ps.getD (i/50) 0) []))[xn.getD i 0]? =some (tx (om (rows.getD (ps.getD (i/50) 0) []) (xn.getD i 0))):=by unfold yK;rw[fo,List.getElem?_range g];rfl
  have e1:(i:Int)<((xn.length:Nat):Int):=jO;have A:(i:Int)<(((iN xn).length:Nat):Int):=jO;have q1:(i:Int).tdiv 50=((i/50:Nat):Int):=rfl;have q2:((i/50:Nat):Int)<(((iN ps).length:Nat):Int):=jO;have U:((ps.getD (i/50) 0:Nat):Int)<((B.length:Nat):Int):=jO;have T:IntKind.i64.wrap ((i/50:Nat):Int)=((i/50:Nat):Int):=aV jO jO;have R:((xn.getD i 0:Nat):Int)<(((rows.getD (ps.getD (i/50) 0) []).length:Nat):Int):=jO;have N:(i:Int)+1=((i+1:Nat):Int):=rfl;have L:([tv,fZ (some ⟨I,E,none⟩) (iN ps).length G]:List Value)[1]? =some (.slice (some ⟨I,E,none⟩) (iN ps).length G):=rfl
  have F:(om (rows.getD (ps.getD (i/50) 0) []) (xn.getD i 0)).length<=20:=by unfold om;rw[cA];exact((o _ D).at g).2
  have ad:=fun(k:Value->M Value)=>fL t (om (rows.getD (ps.getD (i/50) 0) []) (xn.getD i 0)) jO k;rw[vD];refine jA (aI @e1 (aI @A (aI @g1 (aI @K (aI @s (aI @L (aI @q1 (aI @T (aI @q2 (aI @g2 (aI @J (aI @U (aI @gg (aI @y (aI @R (aI @gc (aI @et (aI @ad @fy)))))))))))))))))) ?_;rw[N];have:=X (i+1) c (t++om (rows.getD (ps.getD (i/50) 0) []) (xn.getD i 0)) jO jO jO (by rw[aG];omega);rw[jY 0 (show i<xn.length by omega),yX,<-bW];exact this
end
section
variable {lf d n:Nat} {h:H}
set_option maxHeartbeats 400000 in
theorem am5(m:3000000<=lf){v:Value}{xs:List Int}(hR:Row h n 3 .i64 v xs)(hl:xs.length<=1000){z:Int}(B:nk xs z)(hd:600<=d):
 ae (fun _=>False) n (eW lf (d+5) 105 #[v,jI z]) h n fun R _ _=>R=tx (pf xs z):=by
 have f:=uj B jO;have hz:=B.2.1;rw[aF (fun _=>ahf) rfl];refine ae.aE ?_;unfold Ka;have A:=hR;obtain⟨a,c,rfl⟩:=hR.len;have W:=ama lf (d+4) n h m _ xs z.toNat A B.1 jO jO jO (by rw[kS jO];exact B.2.2.1) jO;rw[kS jO]at W;refine aN aL W (ai _) (fun _ _ h=>h.elim) fun v1 h1 g I Q F=> ?_;obtain⟨cx,C,rfl,x,u⟩:=F;have L:=A.ay I fun b hb=>Q b hb id;have o1:one cx=true:=by obtain⟨_,_,rfl⟩:=x.len;rfl
 have o2:one C=true:=by obtain⟨_,_,rfl⟩:=u.len;rfl
 refine fh Ao _ ?_;refine iZ (sz:=2) trivial (vs:=[cx,C]) rfl rfl (by simp[o1,o2]) (get_eq _ _ _) jO (.inl jO) _ fun N P k2=> ?_;have k:∀b,b<g->N.get b=h1.get b:=fun b hb=>by rw[k2 b jO,aB _ _ jO]
 have K:=L.ay (cH g) k;have w:=x.ay (cH g) k;have t:Row N (g+1) 3 .i64 C (iN (cM xs z)):=u.ay (cH g) k;have o:(bO xs z.toNat 4).length=(rowsOf xs z).length:=by unfold rowsOf;rw[cu]
 have r2:=f.r2;have r6:=f.r6;obtain⟨U,i,j,u0,u1,rfl,tg,_,_⟩:=w.at jO;have D:g<g+1:=jO;refine jA @P ?_;rw[o];refine bz (amQ (lf:=lf) (d:=d+2) t f.r6 f.p0 (by rw[f.pl];unfold dq;omega) (fun p G=>by have:=f.pm p G;omega) m) jO (fun _ _ h=>h.elim) ?_
 have p6:(kP (rowsOf xs z).length (cM xs z)).length<=300000:=by rw[yW];have:=yV (l:=fb eM (cM xs z)) (ui _ _ rK fun p G=>by have:=f.pm p G;omega);rw[rI,f.pl]at this;unfold dq at this;omega
 refine jA @P ?_;rw[<-o];rw[<-o]at p6;refine am3 (lf:=lf) (d:=d+2) (T:=bO xs z.toNat 4) (s:=z.toNat) m f.me jO jO jO (n0:=n) (m1:=g+1) jO w (bO xs z.toNat 4).length 0 lf _ N (g+1) _ jO jO jO (ai _) (fun _ _=>rfl) (TT.nil _ _ _) jO fun h4 n4 gv y E J=> ?_
 (try unfold Eu);(try dsimp only)
 have Y:(bG xs).length=xs.length:=by unfold bG;rw[cu]
 refine jB ?_
 have fl:=o0 (rows:=((bO xs z.toNat 4).drop 0).map bG) fun r Z=>by rw[dx]at Z;obtain⟨q,hq,rfl⟩:=List.mem_map.1 Z;have O:=f.me q hq;exact xi O.hi (by rw[O.len];omega) (by rw[O.len];omega)
 rw[cu,dx,o]at fl;have X:=am4 (lf:=lf) (d:=d+4) (n:=n4) (z:=g) (lo:=g+1) (h:=h4) (xv:= .slice a xs.length c) (pv:=C) (tv:= .slice (some ⟨U,i,none⟩) (bO xs z.toNat 4).length j) (gv:=gv) (rows:=rowsOf xs z) (ps:=cM xs z) (xn:=bG xs) (e:=195) (by rw[f.ie];exact K.ay y E) (t.ay y E) ((E g D).trans P) jO J f.wh f.pm f.at_ f.sy (by rw[Y];omega) (x2:=jI z) (x3:= .string ⟨#[]⟩) (x7:= .slice (some ⟨U,i,none⟩) (bO xs z.toNat 4).length j) (x8:=jI ((bO xs z.toNat 4).length:Int)) (x9:=jI ((bO xs z.toNat 4).length:Int)) (x10:= .bool false) (n0:=n) (bG xs).length 0 lf (kP (bO xs z.toNat 4).length (cM xs z)++((bO xs z.toNat 4).map bG).flatMap iJ) jO jO jO (by rw[aG];omega);rw[Y,show((0:Nat):Int)=0 from rfl]at X;rw[dx];refine X.mono ?_;rintro R h' n' _ ⟨rfl,_,_⟩;rw[dx,bW,o];rfl
end
end Go.Proofs.YtcehhgppfahbkaaGreatDoor
namespace Go.Proofs.YtcehhgppfahbkaaGreatDoor
open Go.RowKit Ev Cn
section
variable {lf d n:Nat} {h:H}
end
end Go.Proofs.YtcehhgppfahbkaaGreatDoor
namespace Go.Proofs.YtcehhgppfahbkaaGreatDoor
open Go.RowKit Ev Tb Cn
end Go.Proofs.YtcehhgppfahbkaaGreatDoor
namespace Go.Proofs.YtcehhgppfahbkaaGreatDoor
open Go.RowKit Ev Cn Ip
theorem Nl{t b:Nat}(a:t<4294967296)(h2:b<4294967296):fa t b<4294967296:=by unfold fa;have e:(4294967296:Nat)=2^32:=rfl;rw[e]at*;refine aq5 (aq5 (ux _ jD) ?_) h2;exact Nat.lt_of_le_of_lt (Nat.div_le_self _ _) a
section
variable {S:List UInt8} {Z:Nat} {s s':Is}
end
section
variable {S:List UInt8} {Z room:Nat}
end
section
variable {S:List UInt8} {Z:Nat}
end
section
variable {S:List UInt8} {Z:Nat}
end
end Go.Proofs.YtcehhgppfahbkaaGreatDoor
namespace Go.Proofs.YtcehhgppfahbkaaGreatDoor
open Go.RowKit Ev Ip
theorem am6(a b:List Nat):bS (a++b)=bS a++bS b:=by unfold bS;rw[dU]
theorem yZ(a b:List Nat)(h:a.length+b.length<=9223372036854775807)(K:Value->M Value):ar (bp a) (bp b) K=K (bp (a++b)):=by have:=rh (k:=K) (bS a) (bS b) (by unfold bS;simpa using h);rw[<-am6]at this;exact this
end Go.Proofs.YtcehhgppfahbkaaGreatDoor
namespace Go.Proofs.YtcehhgppfahbkaaGreatDoor
open Go.RowKit Ev Cn Ip
theorem am7{m:Nat}(h:m %2=0):m^^^1=m+1:=by
 have d:(m^^^1)/2=m/2:=by rw[Nat.xor_div_two];simp
 have c:(m^^^1)%2=1:=by have:=Nat.xor_mod_two_pow (a:=m) (b:=1) (n:=1);rw[Nat.pow_one,h]at this;exact this
 omega
theorem am8(l:List Nat)(a:IntKind)(j:Nat)(k:Value->M Value)(b:j<=l.length):gK (bp l) none (some (.int a (j:Int))) k=k (bp (l.take j)):=by have:=xX (k:=k) (l.map dT) a (j:Int) jO (by rw[cu];omega);unfold bp;rw[this,eg,zC]
theorem aby(l:List Nat)(a:IntKind)(j:Nat)(k:Value->M Value)(b:j<=l.length):gK (bp l) (some (.int a (j:Int))) none k=k (bp (l.drop j)):=by have:=xY (k:=k) (l.map dT) a (j:Int) jO (by rw[cu];omega);unfold bp;rw[this,eg,xx]
theorem am9(l:List Nat)(b a:IntKind)(j:Nat)(k:Value->M Value)(c:j<l.length):gK (bp l) (some (.int b (j:Int))) (some (.int a ((j+1:Nat):Int))) k=k (bp [l.getD j 0]):=by have:=xZ (k:=k) (l.map dT) b a (j:Int) ((j+1:Nat):Int) jO jO (by rw[cu];omega);unfold bp;rw[this,eg,eg,<-xx,<-zC];congr 4;rw[uv c,show j+1-j=1 by omega,List.take_succ_cons,List.take_zero,aC,aJ c];rfl
section
variable {lf d n:Nat} {h:H}
theorem am'{a b:Nat}(q:a<4294967296)(j:b<4294967296):ae (fun _=>False) n (eW lf (d+1) 114 #[.int .u32 (a:Int),.int .u32 (b:Int)]) h n fun l h' n'=>l= .int .u32 ((fa a b:Nat):Int)∧h'=h∧n'=n:=by
 rw[aF (fun _=>ahl) rfl];refine ae.aE ?_;unfold Uj fa
 have g:IntKind.u32.wrap ((a:Int)*2)=((a*2^1 %4294967296:Nat):Int):=by rw[ars];omega
 have i:a*2^1 %4294967296<4294967296:=ux _ jD;have ev:a*2^1 %4294967296 %2=0:=jO;generalize p:a*2^1 %4294967296=m at g i ev⊢;by_cases c:(2147483648:Int)<=(a:Int)
 ·have e:a/2^31=1:=by have:(2:Nat)^31=2147483648:=rfl;rw[this];omega
  rw[e,am7 ev];have k:IntKind.u32.wrap ((m:Int)+1)=((m+1:Nat):Int):=by rw[ars];omega
  have o:m+1<4294967296:=jO;have f:=Gr o j;exact jC (aI @g (aI @c (aI @k @f)))
 ·have e:a/2^31=0:=by have:(2:Nat)^31=2147483648:=rfl;rw[this];omega
  rw[e,Nat.xor_zero];have f:=Gr i j;exact jC (aI @g (aI @c @f))
theorem am_(l:List Nat){i:Nat}(j:i<l.length)(o:l.length<=256):ae (fun _=>False) n (eW lf (d+1) 143 #[bp l,jI (i:Int)]) h n fun c h' n'=>c=bp (dN 0 l i)∧h'=h∧n'=n:=by
 rw[aF (fun _=>Vj) rfl];refine ae.aE ?_;unfold Kr;have b:(i:Int)+1=((i+1:Nat):Int):=rfl;have a:IntKind.i64.wrap (((i+1:Nat):Int))=((i+1:Nat):Int):=aV jO jO;have g:=fun(K:Value->M Value)=>am9 l .i64 .i64 i K j;have f:=fun(K:Value->M Value)=>am8 l .i64 i K jO;have e:=fun(K:Value->M Value)=>aby l .i64 (i+1) K jO;have m:=fun(K:Value->M Value)=>yZ [l.getD i 0] (l.take i) (by simp;omega) K;have k:=fun(K:Value->M Value)=>yZ ([l.getD i 0]++l.take i) (l.drop (i+1)) (by simp;omega) K;refine jA (aI @b @a) ?_;rw[g,f,m];refine jA (aI @b @a) ?_;rw[e,k];refine jB ?_
 first|exact⟨rfl,rfl,rfl⟩|rfl
end
theorem GR(l:List Nat)(c:∀x∈l,x<256)(a:IntKind)(i:Nat)(b:i<l.length)(k:Value->M Value):gJ (bp l) (.int a (i:Int)) k=k (.int .u8 ((l.getD i 0:Nat):Int)):=by have:=Af k (l.map dT) a (i:Int) jO (by rw[cu];omega);unfold bp;rw[this,eg];congr 3;rw[aC,fo,aC,aJ b];have:=c l[i] (cb _);show(dT l[i]).toNat=l[i];rw[Cx];omega
theorem gT(l:List Nat)(k:Value->M Value):cS (bp l) k=k (jI (l.length:Int)):=by have:=Ad k (l.map dT);unfold bp;rw[this,cu]
section
variable {lf d n:Nat} {h:H}
theorem ana{v:Value}(ts:List Nat)(b:∀x∈ts,x<4294967296)(L:ts.length<=100000)(q:Row h n 40 .u32 v (iN ts))(C:ts.length<lf):ae (fun _=>False) n (eW lf (d+2) 81 #[v]) h n fun u h' n'=>u= .int .u32 ((ts.foldl fa 0:Nat):Int)∧h'=h∧n'=n:=by
 rw[aF (fun _=>agS) rfl];refine ae.aE ?_;unfold JY;have p:(iN ts).length=ts.length:=by unfold iN;rw[cu]
 have z:∀K:Value->M Value,aT v K=K (jI (ts.length:Int)):=fun K=>by obtain⟨a,c,e⟩:=q.len;rw[e,p];rfl
 have F:∀i,(ts.take i).foldl fa 0<4294967296:=fun i=>by
  have:∀(l:List Nat) (t:Nat),t<4294967296->(∀x∈l,x<4294967296)->l.foldl fa t<4294967296:=by
   intro l
   induction l with
   |nil=>intro t h _;exact h
   |cons x l A=>intro t h f;exact A _ (Nl h (f x j6)) fun y B=>f y (fF _ B)
  exact this _ 0 jD fun x f=>b x (j4 f)
 refine jA @z ?_;refine cG ts.length (fun m i (_:Unit)=>vu lf (eW lf (d+1)) m (D' lf (eW lf (d+1))) v (.int .u32 0) (.int .u32 (((ts.take i).foldl fa 0:Nat):Int)) v (jI (ts.length:Int)) (jI (i:Nat))) (fun i _ h' n'=>h'=h∧n'=n) ?_ ?_ lf 0 () h n (bU _) jO ⟨rfl,rfl⟩
 ·rintro m _ h' n' ⟨rfl,rfl⟩;rw[vu];refine jA @bE ?_
  (try unfold D');(try dsimp only)
  refine jB ?_;rw[eh]
 ·rintro m i _ h' n' j ⟨rfl,rfl⟩ next;have r:(i:Int)<((ts.length:Nat):Int):=jO;obtain⟨I,g,cap,o,J,ev,D,E,_,_,_,k⟩:=q.some jO;have s:=k i jO
  have G:(iN ts).getD i 0=((ts[i]:Nat):Int):=by unfold iN;rw[aC,fo,aJ j];rfl
  rw[G]at s;rw[p]at ev
  have w:∀K:Value->M Value,aO v (jI (i:Int)) K=K (jP I (g+i)):=fun K=>by rw[ev];exact jC @r
  rw[vu];refine jA (aI @r (aI @w (aI @D @s))) ?_;refine bz (am' (lf:=lf) (d:=d) (F i) (b _ (cb j))) (ai _) (fun _ _ h=>h.elim) ?_;refine jB ?_;have:=next () h' n' ⟨rfl,rfl⟩;rw[fq j,adt]at this;exact this
theorem abz(l:List Nat)(j:∀x∈l,x<256)(b:Nat)(s:l.length<=100000000)(o:l.length<lf):ae (fun _=>False) n (eW lf (d+1) 140 #[bp l,jI (b:Int)]) h n fun m h' n'=>m= .bool (decide (b∈l))∧h'=h∧n'=n:=by
 rw[aF (fun _=>ahH) rfl];refine ae.aE ?_;unfold Kq;refine cG l.length (fun f i (_:Unit)=>vM lf (eW lf d) f (AJ lf (eW lf d)) (bp l) (jI (b:Int)) bF (jI (i:Nat))) (fun i _ h' n'=>b∉l.take i∧h'=h∧n'=n) ?_ ?_ lf 0 () h n (bU _) jO ⟨jS,rfl,rfl⟩
 ·rintro f _ h' n' ⟨a,rfl,rfl⟩;rw[eh]at a;rw[vM,gT];refine jA @bE ?_
  (try unfold AJ);(try dsimp only)
  refine jB ?_;rw[decide_eq_false a]
 ·rintro f i _ h' n' e ⟨a,rfl,rfl⟩ next;have r:(i:Int)<((l.length:Nat):Int):=jO;have yH:=fun(K:Value->M Value)=>GR l j .i64 i e K;have p:l.getD i 0=l[i]:=by rw[aC,aJ e];rfl
  have k:=j l[i] (cb _);have g:IntKind.i64.wrap ((l[i]:Nat):Int)=((l[i]:Nat):Int):=aV jO jO;rw[vM,gT];refine jA @r ?_;rw[yH,p];by_cases c:l[i]=b
  ·have z:(((l[i]:Nat):Int)==(b:Int))=true:=by rw[c];exact beq_iff_eq.2 rfl
   refine jA (aI @g @z) ?_
   (try unfold AJ);(try dsimp only)
   refine jB ?_;rw[decide_eq_true (by rw[<-c];exact cb _)]
  ·have z:(((l[i]:Nat):Int)==(b:Int))=false:=beq_eq_false_iff_ne.2 jO;refine jA (aI @g @z) ?_;refine next () h' n' ⟨fun q=> ?_,rfl,rfl⟩;rw[fq e]at q;rcases qB.1 q with q|q
   ·exact a q
   ·exact c (CA.1 q).symm
theorem abA(l:List Nat)(r:∀x∈l,x<256)(q:l.length<=100000000)(g:l.length<lf)(m:300<=lf):ae (fun _=>False) n (eW lf (d+2) 101 #[bp l]) h n fun p _ _=>p=bp ((aY 256).filter fun b=>decide (b∈l)):=by
 rw[aF (fun _=>ag8) rfl];refine ae.aE ?_;unfold J7;refine cG 256 (fun k i (_:Unit)=>tc lf (eW lf (d+1)) k (Eo lf (eW lf (d+1))) (bp l) (bp []) (bp ((aY i).filter fun b=>decide (b∈l))) (jI (i:Nat))) (fun i _ j a=>n<=a) ?_ ?_ lf 0 () h n (bU _) jO (ai _)
 ·rintro k _ j a f;have t:¬(((256:Nat):Int)<256):=jD;rw[tc];refine jA @t ?_
  (try unfold Eo);(try dsimp only)
  exact jE
 ·rintro k i _ j a w f next;have s:(i:Int)<256:=jO;have v:(i:Int)+1=((i+1:Nat):Int):=rfl
  have e:(aY (i+1)).filter (fun b=>decide (b∈l))=(aY i).filter (fun b=>decide (b∈l))++(if i∈l then [i]else []):=by
   rw[mv,aqS];congr 1;by_cases c:i∈l
   ·rw[if_pos c,List.filter_cons_of_pos (by simpa using c)];rfl
   ·rw[if_neg c,List.filter_cons_of_neg (by simpa using c)];rfl
  have y:((aY i).filter fun b=>decide (b∈l)).length<=i:=by have:=OM (fun b=>decide (b∈l)) (aY i);rw[j7]at this;exact this
  rw[tc];refine jA @s ?_;refine bz (abz (lf:=lf) (d:=d) l r i q g) f (fun _ _ h=>h.elim) ?_;by_cases c:i∈l
  ·rw[if_pos c]at e;rw[decide_eq_true c];have o:IntKind.u8.wrap (i:Int)=(i:Int):=IntWalk.u8_in _ jO;refine jA @o ?_;refine Ai trivial (eI _ _) _ ?_;refine Ml (ws:=[i]) (get_eq _ _ _) (dK _) jS rfl _ ?_;have u:=fun(K:Value->M Value)=>yZ ((aY i).filter fun b=>decide (b∈l)) [i] (by simp;omega) K;show ae (fun _=>False) n (ar (bp ((aY i).filter fun b=>decide (b∈l))) (bp [i]) _) _ _ _;rw[u,<-e];refine jB ?_;exact next () _ _ jO
  ·rw[if_neg c,cz]at e;rw[decide_eq_false c];have:=next () j a f;rw[e]at this;refine jB ?_;exact this
end
theorem anb{s:List Nat}(h:Sy s):((aY 256).filter fun b=>decide (b∈s))=s:=
 aad (art _ aqM) h.inc fun x=>by rw[List.mem_filter,Cy];exact⟨fun q=>by simpa using q.2,fun q=>⟨h.lt x q,by simpa using q⟩⟩
theorem Nn:∀(ps s:List Nat),(∀p∈ps,p<s.length)->(fk s ps).2.length=s.length
 |[],s,_=>rfl
 |p::ps,s,h=>by have b:=h p j6;have e:=BB b;show(fk (dN 0 s p) ps).2.length=_;rw[Nn ps _ fun q a=>by rw[e];exact h q (fF _ a),e]
section
variable {lf d n:Nat} {h:H}
theorem anc{s:List Nat}(a:Sy s)(g:s≠[])(c:300<=lf):ae (fun _=>False) n (eW lf (d+3) 141 #[bp s]) h n fun e _ _=>e= .bool true:=by have m:=a.len;have l:1<=s.length:=List.length_pos_iff.2 g;have j:(0:Int)<((s.length:Nat):Int):=jO;rw[aF (fun _=>ahI) rfl];refine ae.aE ?_;unfold Vf;rw[gT];refine jA @j ?_;refine aN aL (abA (lf:=lf) (d:=d) s a.lt jO jO c) (ai _) (fun _ _ h=>h.elim) fun k p o f i b=> ?_;subst b;rw[anb a];unfold bp;exact jE
end
def kQ(B:List Bool)(i:Nat):List Nat:=(List.range' i (16-i)).filter fun j=>B.getD j false
section
variable {lf d:Nat}
end
section
variable {lf d n:Nat} {h:H}
end
section
variable {lf d n:Nat} {h:H}
end
section
variable {lf d n:Nat} {h:H}
end
section
variable {lf d n:Nat} {h:H}
end
section
variable {lf d n:Nat} {h:H}
end
end Go.Proofs.YtcehhgppfahbkaaGreatDoor
namespace Go.Proofs.YtcehhgppfahbkaaGreatDoor
open Go.RowKit Ev Tb Cn
def dI(l:List Nat):List Nat:=(aY 256).filter fun b=>decide (b∈l)
theorem Np(l:List Nat):Sy (dI l):=⟨art _ aqM,fun _ a=>Cy.1 (List.mem_filter.1 a).1⟩
theorem GS{l:List Nat}(h:By l){x:Nat}(a:x∈l):x∈dI l:=List.mem_filter.2 ⟨Cy.2 (h x a),decide_eq_true a⟩
theorem Nq{l:List Nat}(h:By l)(b:l≠[]):dI l≠[]:=by
 cases l with
 |nil=>exact absurd rfl b
 |cons a l=>exact fun q=>by have:=GS h (j6 (a:=a) (l:=l));rw[q]at this;cases this
def jc(l:List Nat):List Nat:=lr (dI l).length 0 (dH (dI l) l)
theorem pj:∀(f m:Nat),(ee f m).length<=m
 |0,_=>bU _
 |f+1,m=>by
  unfold ee;split
  ·exact bU _
  ·split
   ·have:=pj f ((m-1)/2);rw[ct];omega
   ·have:=pj f ((m-2)/2);rw[ct];omega
theorem GU:∀(f m:Nat),∀x∈ee f m,x<=1
 |0,_,x,h=>by cases h
 |f+1,m,x,h=>by
  unfold ee at h;split at h
  ·cases h
  ·split at h
   ·rcases nF.1 h with q|q
    ·omega
    ·exact GU f _ x q
   ·rcases nF.1 h with q|q
    ·omega
    ·exact GU f _ x q
theorem BT(n:Nat):∀(l:List Nat) (q:Nat),(lr n q l).length<=q+l.length+1
 |[],q=>by unfold lr;have:=pj q q;rw[aG];show _+1<=q+0+1;omega
 |p::l,q=>by
  unfold lr;rw[ct];split
  ·have:=BT n l (q+1);omega
  ·have b:=pj q q;have a:=BT n l 0;rw[aG,ct];omega
theorem Nr{n:Nat}(b:1<=n):∀(l:List Nat) (q:Nat),(∀p∈l,p<n)->∃t,lr n q l=t++[n+1]∧∀x∈t,x<=n
 |[],q,_=>⟨ee q q,rfl,fun x a=>by have:=GU q q x a;omega⟩
 |p::l,q,h=>by
  have c:∀x∈l,x<n:=fun x a=>h x (fF _ a);unfold lr;split
  ·exact Nr b l (q+1) c
  ·obtain⟨t,e,d⟩:=Nr b l 0 c;have f:=h p j6;refine⟨ee q q++(p+1)::t,by rw[e,bW];rfl,fun x a=> ?_⟩;rcases qB.1 a with w|w
   ·have:=GU q q x w;omega
   ·rcases nF.1 w with w|w
    ·omega
    ·exact d x w
theorem Ns{l:List Nat}(g:By l)(s:l≠[]):nk (iN (jc l)) (((dI l).length+2:Nat):Int):=by
 have k:1<=(dI l).length:=by
  have:=Nq g s;cases e:dI l with
  |nil=>exact absurd e this
  |cons a r=>rw[ct];omega
 have f:=(Np l).len;obtain⟨t,e,n⟩:=Nr k (dH (dI l) l) 0 fun p o=>yN l _ (fun x d=>GS g d) p o;have e:jc l=t++[(dI l).length+1]:=e;have m:(iN (jc l)).length=t.length+1:=by rw[e];unfold iN;simp
 have j:∀i,i<t.length->(iN (jc l)).getD i 0<=((dI l).length:Int)∧0<=(iN (jc l)).getD i 0:=fun i b=>by rw[e];unfold iN;rw[aC,fo,nB b,aJ b];have:=n _ (cb b);show((t[i]:Nat):Int)<=_∧0<=((t[i]:Nat):Int);omega
 have h:(iN (jc l)).getD t.length 0=((dI l).length:Int)+1:=by rw[e];unfold iN;rw[aC,fo,oC (ai _),j8];rfl
 refine⟨jO,jO, ?_,fun i b=> ?_⟩
 ·unfold ef;rw[mu];intro x d;obtain⟨i,b,rfl⟩:=List.getElem_of_mem d;have u:(iN (jc l)).getD i 0=(iN (jc l))[i]:=by rw[aC,aJ b];rfl
  rw[<-u];rcases Cl i t.length with c|c
  ·have:=j i c;simp only[cD,decide_eq_true_eq];omega
  ·obtain rfl:i=t.length:=jO;rw[h];simp only[cD,decide_eq_true_eq];omega
 ·rw[m]at b⊢;rcases Cl i t.length with c|c
  ·have:=j i c;constructor
   ·intro q;omega
   ·intro q;omega
  ·obtain rfl:i=t.length:=jO;rw[h];constructor
   ·intro _;rfl
   ·intro _;omega
noncomputable def lz (last:List Nat) (frm a:Nat):List Bool:=bh a 32++([false]++(bh frm 24++(xc (dI last)++pf (iN (jc last)) (((dI last).length+2:Nat):Int))))
end Go.Proofs.YtcehhgppfahbkaaGreatDoor
namespace Go.Proofs.YtcehhgppfahbkaaGreatDoor
open Go.RowKit Ev Cn Ip
section
variable {lf d n:Nat} {h:H}
end
section
variable {lf d n:Nat} {h:H}
end
section
variable {lf d n:Nat} {h:H}
end
section
variable {MF:List (List Nat)} {oc:List Nat} {size:Nat}
end
section
variable {size:Nat} {bs:List Bool}
end
section
variable {lf d n:Nat} {h:H}
end
section
variable {lf d n:Nat} {h:H}
end
section
variable {lf d n:Nat} {h:H}
end
section
variable {lf d n:Nat} {h:H}
end
end Go.Proofs.YtcehhgppfahbkaaGreatDoor
namespace Go.Proofs.YtcehhgppfahbkaaGreatDoor.Ev
open Go Go.RowKit
section
variable {β:Type} {W:Nat->Prop} {n0:Nat} {h:H} {n:Nat} {Q:β->H->Nat->Prop} {e:TypeId} {sz:Nat}
end
end Go.Proofs.YtcehhgppfahbkaaGreatDoor.Ev
namespace Go.Proofs.YtcehhgppfahbkaaGreatDoor
open Go.RowKit Ev Cn Ip
section
variable {lf d n:Nat} {h:H}
end
theorem ane:aZ {data:=#[48,48,48,49,48,49,49,49,48,49,49,49,48,48,49,48,48,49,48,48,48,49,48,49,48,48,49,49,49,48,48,48,48,49,48,49,48,48,48,48,49,48,48,49,48,48,48,48]}=tx (bh BC 48):=jK
theorem abB:aZ {data:=#[48,48,49,49,48,48,48,49,48,49,48,48,48,48,48,49,48,49,48,49,49,48,48,49,48,48,49,48,48,49,49,48,48,49,48,49,48,48,49,49,48,49,48,49,49,48,48,49]}=tx (bh og 48):=jK
section
variable {lf d n0:Nat} {S:List UInt8} {room:Nat}
end
section
variable {S:List UInt8} {room:Nat}
end
end Go.Proofs.YtcehhgppfahbkaaGreatDoor
namespace Go.Proofs.YtcehhgppfahbkaaGreatDoor
open Go.RowKit Ev Tb Cn
def xl(t:Nat):List Bool:=bh BC 48++bh t 32
section
variable {S:List UInt8} {room:Nat}
end
def rO(lv:Nat):List Bool:=bh 66 8++(bh 90 8++(bh 104 8++bh (48+lv) 8))
theorem anf(lv:Nat):(rO lv).length=32:=by unfold rO;simp only[aG,cA]
section
variable {lf d n:Nat} {h:H}
theorem ang{v:Value}(ts:List Nat)(a:∀x∈ts,x<4294967296)(k:ts.length<=100000)(m:Row h n 40 .u32 v (iN ts))(c:ts.length<lf)(b:100<=lf):ae (fun _=>False) n (eW lf (d+3) 51 #[v]) h n fun f h' n'=>f=tx (xl (ts.foldl fa 0))∧h'=h∧n'=n:=by
 rw[aF (fun _=>agA) rfl];refine ae.aE ?_;unfold SF
 have o:ts.foldl fa 0<4294967296:=by
  have:∀(l:List Nat) (t:Nat),t<4294967296->(∀x∈l,x<4294967296)->l.foldl fa t<4294967296:=by
   intro l
   induction l with
   |nil=>intro t h _;exact h
   |cons x l i=>intro t h e;exact i _ (Nl h (e x j6)) fun y j=>e y (fF _ j)
  exact this _ 0 jD a
 refine jB ?_;refine bz (ana (lf:=lf) (d:=d) ts a k m c) (ai _) (fun _ _ h=>h.elim) ?_;refine bz (wX (lf:=lf) (d:=d+1) (ts.foldl fa 0) 32 o jO b) (ai _) (fun _ _ h=>h.elim) ?_;rw[ane];have g:(bh BC 48).length+(bh (ts.foldl fa 0) 32).length<=1000000000:=by rw[cA,cA];omega
 try simp(disch:=first|omega|assumption) only[Nat.reduceAdd,Nat.reduceLT,RZ,fL _ _ g]
 rfl
theorem anh:aZ {data:=#[48,49,50,51,52,53,54,55,56,57]}= .string ⟨([48,49,50,51,52,53,54,55,56,57]:List UInt8).toArray⟩:=rfl
theorem ani(lv:Nat)(o:1<=lv)(m:lv<=9)(a:100<=lf):ae (fun _=>False) n (eW lf (d+3) 22 #[jI (lv:Int)]) h n fun f h' n'=>f=tx (rO lv)∧h'=h∧n'=n:=by
 rw[aF (fun _=>agr) rfl];refine ae.aE ?_;unfold Sv;have e:IntKind.i64.wrap ((lv:Int)+1)=((lv+1:Nat):Int):=by rw[aV jO jO];omega
 have l:((([48,49,50,51,52,53,54,55,56,57]:List UInt8).drop lv).take (lv+1-lv))=[dT (48+lv)]:=by have:lv=1∨lv=2∨lv=3∨lv=4∨lv=5∨lv=6∨lv=7∨lv=8∨lv=9:=jO;rcases this with q|q|q|q|q|q|q|q|q<;>rw[q]<;>rfl
 have c:=fun(b:Value->M Value)=>xZ (k:=b) [48,49,50,51,52,53,54,55,56,57] .i64 .i64 (lv:Int) ((lv+1:Nat):Int) jO jO (by show _<=(10:Int);omega);have g:=fun(b:Value->M Value)=>rh (k:=b) [66,90,104] [dT (48+lv)] jS;simp only[eg,l]at c;have j:aZ {data:=#[66,90,104]}= .string ⟨([66,90,104]:List UInt8).toArray⟩:=rfl;refine jA (aI @e (aI @c (aI @anh (aI @j @g)))) ?_;refine bz (akD (lf:=lf) (d:=d) (S:=[66,90,104]++[dT (48+lv)]) jS (by simp;omega) a) (ai _) (fun _ _ h=>h.elim) ?_
 have i:nZ ([66,90,104]++[dT (48+lv)])=rO lv:=by have:lv=1∨lv=2∨lv=3∨lv=4∨lv=5∨lv=6∨lv=7∨lv=8∨lv=9:=jO;rcases this with q|q|q|q|q|q|q|q|q<;>rw[q]<;>rfl
 exact jC @i
end
end Go.Proofs.YtcehhgppfahbkaaGreatDoor
namespace Go.Proofs.YtcehhgppfahbkaaGreatDoor
open Go.RowKit Ev Tb Cn Ip
section
variable {lf d n:Nat} {h:H}
end
section
variable {lf d n:Nat} {h:H}
def ky(S:List UInt8)(k:Nat):List UInt8:=S.drop k++S.take k
theorem Nt(S:List UInt8)(k:Nat)(i:k<=S.length)(g:S.length<=1000000000):ae (fun _=>False) n (eW lf (d+1) 151 #[.string ⟨S.toArray⟩,jI (k:Int)]) h n fun e h' n'=>e= .string ⟨(ky S k).toArray⟩∧h'=h∧n'=n:=by rw[aF (fun _=>ahY) rfl];refine ae.aE ?_;unfold VD;have c:=fun(a:Value->M Value)=>xY (k:=a) S .i64 (k:Int) jO jO;have b:=fun(a:Value->M Value)=>xX (k:=a) S .i64 (k:Int) jO jO;simp only[eg]at c b;have f:=fun(a:Value->M Value)=>rh (k:=a) (S.drop k) (S.take k) (by simp;omega);refine jA (aI @c (aI @b @f)) ?_;rfl
end
def bN(l:List UInt8):List Nat:=l.map fun b=>b.toNat
theorem GV(l:List UInt8):(bN l).length=l.length:=cu _
theorem abC:∀{a b:List UInt8},bN a=bN b->a=b
 |[],[],_=>rfl
 |[],_::_,h=>by simp[bN]at h
 |_::_,[],h=>by simp[bN]at h
 |x::a,y::b,h=>by have h:x.toNat::bN a=y.toNat::bN b:=h;rw[aq3]at h;rw[UInt8.toNat_inj.1 h.1,abC h.2]
theorem abD:∀a b:List UInt8,Cq a b=decide (bN a<bN b)
 |a,[]=>by have:¬bN a<bN []:=List.not_lt_nil _;rw[decide_eq_false this];cases a<;>rfl
 |[],y::b=>by have:bN []<bN (y::b):=List.nil_lt_cons _ _;rw[decide_eq_true this];rfl
 |x::a,y::b=>by show(decide (x<y)||(x==y&&Cq a b))=decide (x.toNat::bN a<y.toNat::bN b);rw[abD a b,apO,mr,cD,decide_eq_true_iff,decide_eq_true_iff,decide_eq_true_iff,beq_iff_eq,List.cons_lt_cons_iff,HI,<-UInt8.toNat_inj]
theorem BU(S:List UInt8)(k:Nat):bN (ky S k)=dO (bN S) k:=by unfold bN ky dO;rw[dU,xx,zC]
def iM(s:List Nat)(i k:Nat):Bool:=decide (dO s i<dO s k)||(decide (dO s i=dO s k)&&decide (i<k))
theorem uk{s:List Nat}{i k:Nat}:iM s i k=true↔dO s i<dO s k∨dO s i=dO s k∧i<k:=by unfold iM;rw[mr,cD,decide_eq_true_iff,decide_eq_true_iff,decide_eq_true_iff]
theorem anj{s:List Nat}{i k:Nat}(h:iM s i k=true):dO s i<=dO s k:=by
 rcases uk.1 h with h|h
 ·exact List.le_of_lt h
 ·rw[h.1];exact List.le_refl _
theorem ank{s:List Nat}{i k:Nat}(h:iM s i k=true)(h2:iM s k i=true):i=k:=by
 rcases uk.1 h with h|h
 ·rcases uk.1 h2 with h2|h2
  ·exact absurd h2 (List.lt_asymm h)
  ·rw[h2.1]at h;exact absurd h (aru _)
 ·rcases uk.1 h2 with h2|h2
  ·rw[h.1]at h2;exact absurd h2 (aru _)
  ·omega
theorem abE{s:List Nat}{i k:Nat}(h:i≠k):iM s i k=true∨iM s k i=true:=by
 rw[uk,uk];by_cases e:dO s i=dO s k
 ·rcases Nat.lt_or_gt_of_ne h with q|q
  ·exact .inl (.inr ⟨e,q⟩)
  ·exact .inr (.inr ⟨e.symm,q⟩)
 ·by_cases l:dO s i<dO s k
  ·exact .inl (.inl l)
  ·refine .inr (.inl ?_);refine zF fun a=>e ?_;exact List.le_antisymm (List.not_lt.1 a) (List.not_lt.1 l)
theorem abF{s:List Nat}{i k m:Nat}(h:iM s i k=true)(h2:iM s k m=true):iM s i m=true:=by
 rw[uk]at h h2⊢;rcases h with h|h
 ·rcases h2 with h2|h2
  ·exact .inl (List.lt_trans h h2)
  ·exact .inl (h2.1▸h)
 ·rcases h2 with h2|h2
  ·exact .inl (h.1▸h2)
  ·exact .inr ⟨h.1.trans h2.1,jO⟩
def nm(p:Nat->Nat->Bool)(i:Nat):List Nat->List Nat
 |[]=>[i]
 |k::l=>if p i k=true then i::k::l else k::nm p i l
def oq(p:Nat->Nat->Bool):Nat->List Nat
 |0=>[]
 |i+1=>nm p i (oq p i)
theorem Nu(p:Nat->Nat->Bool)(i:Nat):∀l,(nm p i l).Perm (i::l)
 |[]=> .refl _
 |k::l=>by
  unfold nm;split
  ·exact .refl _
  ·exact((Nu p i l).cons k).trans (.swap _ _ _)
theorem qu(p:Nat->Nat->Bool):∀n,(oq p n).Perm (aY n)
 |0=> .refl _
 |n+1=>by rw[mv];exact(Nu p n _).trans (((qu p n).cons n).trans (List.perm_append_comm (l₁:=[n])))
theorem abG{p:Nat->Nat->Bool}{i:Nat}(e:∀a b c,p a b=true->p b c=true->p a c=true)(d:∀a b,a≠b->p a b=true∨p b a=true):∀l:List Nat,i∉l->l.Pairwise (fun a b=>p a b=true)->(nm p i l).Pairwise fun a b=>p a b=true
 |[],_,_=>adr _ _
 |k::l,f,h=>by
  have⟨g,j⟩:=r9.1 h;unfold nm;split
  ·rename_i c
   exact r9.2 ⟨fun x hx=>by
    rcases nF.1 hx with rfl|hx
    ·exact c
    ·exact e _ _ _ c (g x hx),h⟩
  ·rename_i c;refine r9.2 ⟨fun x hx=> ?_,abG e d l (fun q=>f (fF _ q)) j⟩;rcases nF.1 ((Nu p i l).mem_iff.1 hx)with rfl|hx
   ·exact(d x k fun q=>f (q▸j6)).resolve_left c
   ·exact g x hx
theorem Nv{p:Nat->Nat->Bool}(e:∀a b c,p a b=true->p b c=true->p a c=true)(d:∀a b,a≠b->p a b=true∨p b a=true):∀n,(oq p n).Pairwise fun a b=>p a b=true
 |0=> .nil
 |n+1=>abG e d _ (fun q=>by have:=Cy.1 ((qu p n).mem_iff.1 q);omega) (Nv e d n)
theorem Nw(s:List Nat):yL s (oq (iM s) s.length):=⟨qu _ _,(Nv (p:=iM s) (fun _ _ _=>abF) (fun _ _=>abE) _).imp anj⟩
theorem abH{s a:List Nat}(b:a.Perm (aY s.length))(h:a.Pairwise fun i k=>iM s i k=true):a=oq (iM s) s.length:=
 arv (fun _ _ _ _ d c=>ank d c) h (Nv (p:=iM s) (fun _ _ _=>abF) (fun _ _=>abE) _) (b.trans (qu _ _).symm)
section
variable {lf d n:Nat} {h:H}
theorem anl(S:List UInt8)(i k:Nat)(l:i<=S.length)(j:k<=S.length)(b:S.length<=1000000000):ae (fun _=>False) n (eW lf (d+2) 152 #[.string ⟨S.toArray⟩,jI (i:Int),jI (k:Int)]) h n fun g h' n'=>g= .bool (iM (bN S) i k)∧h'=h∧n'=n:=by
 rw[aF (fun _=>ahZ) rfl];refine ae.aE ?_;unfold VE;refine bz (Nt (lf:=lf) (d:=d) S i l b) (ai _) (fun _ _ h=>h.elim) ?_;refine bz (Nt (lf:=lf) (d:=d) S k j b) (ai _) (fun _ _ h=>h.elim) ?_;have e:=abD (ky S i) (ky S k);rw[BU,BU]at e;have f:(ky S i=ky S k)↔dO (bN S) i=dO (bN S) k:=by rw[<-BU,<-BU];exact⟨fun q=>by rw[q],abC⟩
 have z3:decide ((i:Int)<(k:Int))=decide (i<k):=by
  by_cases c:i<k
  ·rw[decide_eq_true c,decide_eq_true jO]
  ·rw[decide_eq_false c,decide_eq_false jO]
 unfold iM;by_cases c:dO (bN S) i<dO (bN S) k
 ·rw[decide_eq_true c]at e⊢;refine jA @e ?_;all_goals (first|trivial|rfl|exact⟨rfl,rfl,rfl⟩|exact⟨rfl,rfl⟩)
 ·rw[decide_eq_false c]at e⊢;by_cases a:dO (bN S) i=dO (bN S) k
  ·have z:decide (ky S i=ky S k)=true:=decide_eq_true (f.2 a);rw[decide_eq_true a];refine jA (aI @e (aI @z @z3)) ?_;all_goals (first|trivial|rfl|exact⟨rfl,rfl,rfl⟩|exact⟨rfl,rfl⟩)
  ·have z:decide (ky S i=ky S k)=false:=decide_eq_false fun q=>a (f.1 q);rw[decide_eq_false a];refine jA (aI @e @z) ?_;all_goals (first|trivial|rfl|exact⟨rfl,rfl,rfl⟩|exact⟨rfl,rfl⟩)
theorem anm(S:List UInt8)(hl:S.length<=100000)(u1:100010<=lf):ae (fun _=>False) n (eW lf (d+3) 113 #[.string ⟨S.toArray⟩]) h n fun G h' n'=>Own h' n n' 3 G (aH .i64 (iN (oq (iM (bN S)) S.length))):=by
 rw[aF (fun _=>ahk) rfl];refine ae.aE ?_;unfold Kd;refine jB ?_;obtain⟨P,hP⟩:∃P,iM (bN S)=P:=⟨_,rfl⟩;have sl:∀i,(oq P i).length=i:=fun i=>by rw[(qu _ i).length_eq,j7]
 rw[hP];refine cG S.length (fun R i (o:Value)=>tj lf (eW lf (d+2)) R (AA lf (eW lf (d+2))) (.string ⟨S.toArray⟩) nS o (jI ((S.length:Nat):Int)) (jI (i:Nat))) (fun i o h' n'=>n<=n'∧Own h' n n' 3 o (aH .i64 (iN (oq P i)))) ?_ ?_ lf 0 nS h n (bU _) jO ⟨ai _,Own.nil _ _ _ _⟩
 ·rintro R o h' n' ⟨q1,q2⟩;rw[tj];refine jA @bE ?_;unfold AA;rw[zZ];exact q2
 ·rintro R i o h' m hi ⟨q1,q2⟩ next;have c1:(i:Int)<((S.length:Nat):Int):=jO;have w1:(i:Int)+1=((i+1:Nat):Int):=rfl;have next:∀o' w t,m<=t->Own w n t 3 o' (aH .i64 (iN (nm P i (oq P i))))->_:=fun o' w t q3 q4=>next o' w t ⟨rY q1 q3,q4⟩;have li:=sl i;have mem:∀x∈oq P i,x<i:=fun x hx=>Cy.1 ((qu _ _).mem_iff.1 hx);generalize oq P i=l at q2 next li mem;have il:(iN l).length=i:=by unfold iN;rw[cu];exact li
  have hR:=q2.row;rw[tj]
  have kl:∀K:Value->M Value,aT o K=K (jI (i:Int)):=fun K=>by obtain⟨a,c,e⟩:=hR.len;rw[e,il];rfl
  refine jA (aI @c1 @kl) ?_
  refine cG i (fun F j (s:Value×Bool)=>ti lf (eW lf (d+2)) F (Ug lf (eW lf (d+2)) R (AA lf (eW lf (d+2)))) (.string ⟨S.toArray⟩) nS o (jI (i:Nat)) s.1 (.bool s.2) (jI ((S.length:Nat):Int)) (jI (i:Nat)) (.bool true) o (jI (i:Nat)) (jI (j:Nat)))
   (fun j s w t=>m<=t∧(∀b,b<m->w.get b=h'.get b)∧∃k,Own w m t 3 s.1 (aH .i64 (iN k))∧k.length<=2*j+2∧k++(if s.2=true then l.drop j else nm P i (l.drop j))=nm P i l) ?_ ?_ lf 0 (nS,false) h' m (bU _) jO ⟨ai _,fun _ _=>rfl,[],Own.nil _ _ _ _,bU _,by rw[if_neg jD,dx];rfl⟩
  ·rintro F ⟨v,U⟩ w t ⟨D,W,k,z,p4,r⟩;have dl:l.drop i=[]:=aqp jO;rw[dl]at r;rw[ti];refine jA @bE ?_
   (try unfold Ug);(try unfold Ey);(try dsimp only)
   cases U with
   |true=>rw[if_pos rfl,cz]at r;refine jB ?_;rw[w1];exact next _ _ _ D (by rw[<-r];exact z.low q1)
   |false=>rw[if_neg (show¬false=true from arw)]at r;refine jB ?_;refine fJ trivial (eI _ _) z (by rw[cj];unfold iN;rw[cu];omega) q1 _ fun u E A=> ?_;refine jB ?_;rw[w1];refine next _ _ _ jO ?_;rw[<-r];show Own _ _ _ _ _ (aH .i64 (iN (k++[i])));rw[ku,kv];exact Own.mk' (b:=t+1) E jO jO (by simp[aH,iN])
  ·rintro F j ⟨v,U⟩ w t hj ⟨D,W,k,z,p4,r⟩ p;have c2:(j:Int)<(i:Int):=jO;have T:(j:Int)+1=((j+1:Nat):Int):=rfl;obtain⟨bb,X,cap,oo,ks,ev,hg,u2,_,_,_,u0⟩:=(hR.ay D W).some jO;have a1:=u0 j jO;rw[iq]at a1;rw[il]at ev;have Y:j<l.length:=jO
   have dl:l.drop j=l.getD j 0::l.drop (j+1):=by rw[uv Y,aC,aJ Y];rfl
   have hx:l.getD j 0<i:=mem _ (by rw[aC,aJ Y];exact cb _);rw[dl]at r
   have kx:∀K:Value->M Value,aO o (jI (j:Int)) K=K (jP bb (X+j)):=fun K=>by rw[ev];exact jC @c2
   have p:∀G C Q J f,t<=J->(∀b,b<m->Q.get b=w.get b)->Own Q m J 3 G (aH .i64 (iN f))->f.length<=2*j+4->f++(if C=true then l.drop (j+1)else nm P i (l.drop (j+1)))=nm P i l->_:=fun G C Q J f x1 x2 x3 x4 x5=>p (G,C) Q J ⟨rY D x1,fun b B=>(x2 b B).trans (W b B),f,x3,x4,x5⟩;obtain⟨x,Z⟩:∃x,l.getD j 0=x:=⟨_,rfl⟩;rw[Z]at r hx a1;have al:(aH .i64 (iN k)).length=k.length:=by simp[aH,iN]
   have L:∀{u:H} {b:Nat} {f:List Nat} {y:Nat},u.get b=some ⟨3,true,aH .i64 (iN f)++[jI (y:Int)]⟩->m<=b->∀{n8},b<n8->Own u m n8 3 (.slice (some ⟨b,0,none⟩) ((aH .i64 (iN f)).length+1) (aU+((aH .i64 (iN f)).length+1))) (aH .i64 (iN (f++[y]))):=by intro u b f y g hm n8 B;rw[ku,kv];exact Own.mk' g hm B (by simp[aH,iN])
   have N:∀{u:H} {v8:Value} {f:List Nat} {n8:Nat} {O:H},Own u m n8 3 v8 (aH .i64 (iN f))->(∀b,b<n8->¬az v8 b->O.get b=u.get b)->m<=n8->∀b,b<m->O.get b=u.get b:=fun I A hm b B=>A b jO fun q=>by have:=(I.lt q).1;omega
   rw[ti];refine jA (aI @c2 (aI @kx (aI @hg @a1))) ?_;cases U with
   |true=>rw[if_pos rfl]at r;refine jB ?_;refine fJ trivial (eI _ _) z (by rw[al];omega) q1 _ fun u E A=> ?_;refine jB ?_;rw[T];exact p _ true u _ (k++[x]) jO (N z A D) (L E jO jO) (by rw[aG];simp;omega) (by rw[if_pos rfl,bW];exact r)
   |false=>
    rw[if_neg (show¬false=true from arw)]at r;have ra:=anl (lf:=lf) (d:=d) (n:=t) (h:=w) S i x jO jO jO;rw[hP]at ra;refine jB ?_;refine bz ra jO (fun _ _ h=>h.elim) ?_;rw[show nm P i (x::l.drop (j+1))=if P i x=true then i::x::l.drop (j+1)else x::nm P i (l.drop (j+1))from rfl]at r;cases hp:P i x with
    |true=>
     rw[if_pos hp]at r;refine jB ?_;refine fJ trivial (eI _ _) z (by rw[al];omega) q1 _ fun u E A=> ?_;have I:=L E jO (n8:=t+2) jO;have l8:(aH .i64 (iN (k++[i]))).length=k.length+1:=by simp[aH,iN]
     refine jB ?_;refine fJ trivial (eI _ _) I (by rw[l8];omega) q1 _ fun O g9 k9=> ?_;refine jB ?_;rw[T];exact p _ true O _ (k++[i]++[x]) jO (fun b B=>(N I k9 jO b B).trans (N z A D b B)) (L g9 jO jO) (by simp;omega) (by rw[if_pos rfl,<-r];simp)
    |false=>rw[if_neg (by rw[hp];decide)]at r;refine jB ?_;refine fJ trivial (eI _ _) z (by rw[al];omega) q1 _ fun u E A=> ?_;refine jB ?_;rw[T];exact p _ false u _ (k++[x]) jO (N z A D) (L E jO jO) (by rw[aG];simp;omega) (by rw[if_neg jD,bW];exact r)
end
theorem abI{t:List Nat}(h:By t):bN (bS t)=t:=by
 unfold bN bS;rw[List.map_map]
 conv=>rhs;rw[<-List.map_id t]
 refine List.map_congr_left fun x a=> ?_;show(dT x).toNat=x;rw[Cx,lJ (h x a)]
theorem ann(t:List Nat)(k:Nat):ky (bS t) k=bS (dO t k):=by unfold ky dO bS;rw[dU,xx,zC]
theorem ano{w:List Nat}{m:Nat}(h:w.length=m+1):w.drop m=[qo w]:=by
 have a:w≠[]:=fun q=>by rw[q]at h;simp at h
 unfold qo;rw[List.getLastD_eq_getLast?,List.getLast?_eq_some_getLast a,uv (show m<w.length by omega),aqp jO];show _=[w.getLast a];rw[List.getLast_eq_getElem a];simp only[h,ON]
def cX(t:List Nat):List Nat:=oq (iM t) t.length
theorem Ny(t:List Nat){x:Nat}:x∈cX t↔x<t.length:=by unfold cX;rw[(qu _ _).mem_iff,Cy]
theorem GW(t:List Nat):(cX t).length=t.length:=by unfold cX;rw[(qu _ _).length_eq,j7]
theorem GX{t:List Nat}(h:t≠[]):cV 0 (cX t)<t.length∧(cX t)[cV 0 (cX t)]? =some 0:=by have c:0∈cX t:=(Ny t).2 (List.length_pos_iff.2 h);obtain⟨a,b⟩:=wZ c;rw[aJ a];rw[aC,aJ a]at b;exact⟨by rw[<-GW t];exact a,congrArg some b⟩
section
variable {lf d n:Nat} {h:H}
theorem anp(t:List Nat)(k:Nat)(c:k<=t.length)(b:t.length<=1000000000):ae (fun _=>False) n (eW lf (d+1) 151 #[bp t,jI (k:Int)]) h n fun a h' n'=>a=bp (dO t k)∧h'=h∧n'=n:=by have e:(bS t).length=t.length:=cu _;have:=Nt (lf:=lf) (d:=d) (n:=n) (h:=h) (bS t) k jO jO;rw[ann]at this;exact this
def BV(a:Nat)(h:H)(l:List Nat)(o:Nat):Prop:=h.get a=some ⟨116,true,[bp l,jI (o:Int)]⟩
theorem anq{v:Value}(t:List Nat)(hl:t.length<=100000)(f:List Nat)(hs:∀x∈f,x<t.length)(O:Row h n 3 .i64 v (iN f))(u1:f.length<=100000)(u0:100010<=lf){o:Nat}(ho:o<f.length)(hz:∀i,i<f.length->(f.getD i 0=0↔i=o)):ae (fun _=>False) n (eW lf (d+2) 112 #[bp t,v]) h n fun U _ _=>U= .agg #[bp (fw t f),jI (o:Int)]:=by
 have I:(iN f).length=f.length:=by unfold iN;rw[cu]
 rw[aF (fun _=>ahh) rfl];refine ae.aE ?_;unfold Kc;refine fh rfl _ ?_;refine jB ?_;refine fh rfl _ ?_;refine iZ (sz:=2) trivial (vs:=[.string ⟨#[]⟩,jI 0]) rfl rfl rfl (get_eq _ _ _) jO (.inl jO) _ fun u P C=> ?_;have gA:BV n u [] 0:=(C n jO).trans (by rw[aB _ _ jO,get_eq];rfl);have gB:BV (n+1) u [] 0:=P;have k0:∀b,b<n->u.get b=h.get b:=fun b p=>(C b jO).trans (by rw[aB _ _ jO,aB _ _ jO]);clear P C
 have kl:∀K:Value->M Value,aT v K=K (jI (f.length:Int)):=fun K=>by obtain⟨a,c,e⟩:=O.len;rw[e,I];rfl
 refine jA @kl ?_
 refine cG f.length (fun E i (_:Unit)=>th lf (eW lf (d+1)) E (Ew lf (eW lf (d+1))) (bp t) v (jP n 0) (jP (n+1) 0) v (jI (f.length:Int)) (jI (i:Nat)))
  (fun i _ g A=>A=n+2∧BV n g [] 0∧BV (n+1) g (fw t (f.take i)) (if o<i then o else 0)∧∀b,b<n->g.get b=h.get b) ?_ ?_ lf 0 () u (n+2) (bU _) jO ⟨rfl,gA,by rw[if_neg jO];exact gB,k0⟩
 ·rintro E _ g A ⟨rfl,q1,q2,r⟩;rw[if_pos ho,eh]at q2;rw[th];refine jA @bE ?_;unfold Ew;refine lV (n+1) 0 _ q2 jO (ai 2) ?_;refine iZ (sz:=2) trivial (vs:=[bp (fw t f),jI (o:Int)]) rfl rfl rfl q1 jO (.inl jO) _ fun h8 g8 k8=> ?_;exact Gn trivial trivial g8 rfl jO rfl
 ·rintro E i _ g A s ⟨rfl,q1,q2,r⟩ next;have R:(i:Int)<((f.length:Nat):Int):=jO;have G:(i:Int)+1=((i+1:Nat):Int):=rfl;obtain⟨bb,y,cap,oo,ks,ev,hg,u2,_,_,_,D⟩:=(O.ay (by omega:n<=n+2) r).some jO;have F:=D i jO;rw[iq]at F;rw[I]at ev
  have Z:∀K:Value->M Value,aO v (jI (i:Int)) K=K (jP bb (y+i)):=fun K=>by rw[ev];exact jC @R
  have hx:=hs (f.getD i 0) (by rw[aC,aJ s];exact cb _);have j:=hz i s
  have W:fw t (f.take (i+1))=fw t (f.take i)++[qo (dO t (f.getD i 0))]:=by unfold fw;rw[fq s,dU,aC,aJ s];rfl
  have tl:(fw t (f.take i)).length<=100000:=by unfold fw;rw[cu,cB];omega
  rw[W]at next;generalize fw t (f.take i)=l at q2 next tl;generalize f.getD i 0=x at F hx j next;have X:=BE t x;have dl:=ano (w:=dO t x) (m:=t.length-1) jO;have T:IntKind.i64.wrap (((t.length:Nat):Int)-1)=((t.length-1:Nat):Int):=by rw[aV jO jO];omega
  have L:=fun(K:Value->M Value)=>aby (dO t x) .i64 (t.length-1) K jO;rw[dl]at L;have ad:=fun(K:Value->M Value)=>yZ l [qo (dO t x)] (by simp;omega) K;have Y:∀K:Value->M Value,cS (bp (dO t x)) K=K (jI (t.length:Int)):=fun K=>by rw[gT,X]
  unfold BV at q2;rw[th];refine jA (aI @R (aI @Z (aI @hg @F))) ?_;refine bz (anp (lf:=lf) (d:=d) t x jO jO) jO (fun _ _ h=>h.elim) ?_;have J:n<=n+1:=cH n;refine jA (aI @q2 (aI @Y (aI @T (aI @L @ad)))) ?_;refine Br trivial (n+1) 0 _ _ q2 jO (show 0<2 by decide) rfl (.inl J) ?_;have k:∀(g:H) (B:AB) (b:Nat),b<n+1->(g.set (n+1) (some B)).get b=g.get b:=fun g B b p=>aB _ _ jO;by_cases c:x=0
  ·have z:((x:Int)==0)=true:=by rw[c];rfl
   have N:=j.1 c;refine jA (aI @z (aI @J (aI @true_or @true_and))) ?_;rw[G];refine next () _ _ ⟨rfl, ?_, ?_,fun b p=> ?_⟩
   ·exact(k _ _ n jO).trans ((k _ _ n jO).trans q1)
   ·rw[<-N,if_pos (dK i)];exact get_eq _ _ _
   ·exact(k _ _ b jO).trans ((k _ _ b jO).trans (r b p))
  ·have z:((x:Int)==0)=false:=beq_eq_false_iff_ne.2 jO;have N:i≠o:=fun q=>c (j.2 q)
   have e5:(if o<i+1 then o else 0)=(if o<i then o else 0):=by
    by_cases Q:o<i
    ·rw[if_pos Q,if_pos jO]
    ·rw[if_neg Q,if_neg jO]
   rw[e5]at next;refine jA @z ?_;rw[G];refine next () _ _ ⟨rfl,(k _ _ n jO).trans q1,get_eq _ _ _,fun b p=>(k _ _ b jO).trans (r b p)⟩
theorem anr(t:List Nat)(y:By t)(A:t≠[])(w:t.length<=100000)(b:100010<=lf):ae (fun _=>False) n (eW lf (d+4) 79 #[bp t]) h n fun l _ _=>l= .agg #[bp (fw t (cX t)),jI (cV 0 (cX t):Int)]:=by
 have E:(bS t).length=t.length:=cu _;rw[aF (fun _=>agO) rfl];refine ae.aE ?_;unfold S6;refine fh rfl _ ?_;refine aN aL (anm (lf:=lf) (d:=d) (n:=n+1) (bS t) jO b) jO (fun _ _ h=>h.elim) fun G z r v g a=> ?_;rw[abI y,E]at a;have D:=(g n jO id).trans (get_eq _ _ _);obtain⟨m,j⟩:=GX A;have p:(cX t).Nodup:=(qu _ _).nodup_iff.2 List.nodup_range;refine aN aL (anq (lf:=lf) (d:=d+1) (n:=r) (h:=z) t w (cX t) (fun x s=>(Ny t).1 s) a.row (by rw[GW];omega) b (o:=cV 0 (cX t)) (by rw[GW];exact m) fun i k=> ?_) jO (fun _ _ h=>h.elim) fun F L I u f e=> ?_
 ·have c:(cX t)[i]? =some ((cX t).getD i 0):=by rw[aC,aJ k];rfl
  constructor
  ·intro q;rw[q]at c;exact(List.getElem?_inj k p).1 (c.trans j.symm)
  ·rintro rfl;rw[j]at c;exact(r3 c).symm
 subst e;have C:=(f n jO id).trans D;refine iZ (sz:=2) trivial (vs:=[bp (fw t (cX t)),jI (cV 0 (cX t):Int)]) rfl rfl rfl C jO (.inl jO) _ fun K B J=> ?_;exact Gn trivial trivial B rfl jO rfl
end
section
variable {lf d n:Nat} {h:H}
end
section
variable {lf d n:Nat} {h:H}
end
end Go.Proofs.YtcehhgppfahbkaaGreatDoor
namespace Go.Proofs.YtcehhgppfahbkaaGreatDoor.Ev
open Go Go.RowKit
section
variable {β:Type} {W:Nat->Prop} {n0:Nat} {h:H} {n:Nat} {Q:β->H->Nat->Prop} {e:TypeId} {sz lo:Nat} {v:Value} {ts:List (List Value)}
end
end Go.Proofs.YtcehhgppfahbkaaGreatDoor.Ev
namespace Go.Proofs.YtcehhgppfahbkaaGreatDoor
open Go.RowKit Ev Tb Cn Ip
section
variable {lf d n:Nat} {h:H}
end
end Go.Proofs.YtcehhgppfahbkaaGreatDoor
namespace Go.Proofs.YtcehhgppfahbkaaGreatDoor
open Go.RowKit Ev Cn Ip
theorem abJ{x:Nat}:∀{l:List Nat} {i:Nat},i<cV x l->l.getD i 0≠x
 |[],i,h=>by simp[cV]at h
 |y::l,i,h=>by
  unfold cV at h;by_cases c:y=x
  ·rw[if_pos c]at h;omega
  ·rw[if_neg c]at h;cases i with
   |zero=>exact c
   |succ i=>exact abJ (l:=l) jO
theorem Nz:∀(a b c:List Nat),(∀x∈a,x∈c)->dH c (a++b)=dH c a++dH (fk c (dH c a)).2 b
 |[],b,c,_=>rfl
 |x::a,b,c,h=>by obtain⟨q,_⟩:=wZ (h x j6);show cV x c::dH _ (a++b)=_;rw[Nz a b _ fun y d=>MI q (h y (fF _ d))];rfl
theorem NA:∀(ps a:List Nat),(∀p∈ps,p<a.length)->∀x∈a,x∈(fk a ps).2
 |[],a,_,x,b=>b
 |p::ps,a,h,x,b=>by have c:=h p j6;show x∈(fk (dN 0 a p) ps).2;exact NA ps _ (fun q d=>by rw[BB c];exact h q (fF _ d)) x (MI c b)
theorem NB:∀(ps a:List Nat),(∀p∈ps,p<a.length)->(∀x∈a,x<256)->∀x∈(fk a ps).2,x<256
 |[],a,_,h,x,b=>h x b
 |p::ps,a,h,f,x,b=>by have c:=h p j6;refine NB ps (dN 0 a p) (fun q e=>by rw[BB c];exact h q (fF _ e)) (fun y d=>f y ?_) x b;exact akO c d
section
variable {lf d n:Nat} {h:H}
theorem ans(a:List Nat)(l:∀x∈a,x<256)(z:a.length<=256){x:Nat}(s:x∈a)(u:300<=lf):ae (fun _=>False) n (eW lf (d+1) 142 #[bp a,.int .u8 (x:Int)]) h n fun j h' n'=>j=jI (cV x a:Int)∧h'=h∧n'=n:=by
 rw[aF (fun _=>Vi) rfl];refine ae.aE ?_;unfold EU;obtain⟨p,q⟩:=wZ s
 have k:∀(m i b:Nat),cV x a-i=m->m<b->i<=cV x a->ae (fun _=>False) n (qc lf (eW lf d) b (yj lf (eW lf d)) (bp a) (.int .u8 (x:Int)) (jI 0) (jI (i:Int))) h n fun j h' n'=>j=jI (cV x a:Int)∧h'=h∧n'=n:=by
  intro m
  induction m with
  |zero=>
   intro i b t w v;obtain⟨b,rfl⟩:∃f,b=f+1:=⟨b-1,jO⟩;obtain rfl:i=cV x a:=jO;have c:((cV x a:Nat):Int)<((a.length:Nat):Int):=jO;have g:=fun(K:Value->M Value)=>GR a l .i64 (cV x a) p K;rw[q]at g;have e:((x:Int)==(x:Int))=true:=jS;rw[qc];refine jA (aI @gT (aI @c (aI @g @e))) ?_
   (try unfold yj);(try dsimp only)
   exact jE;all_goals (first|trivial|rfl|exact⟨rfl,rfl,rfl⟩|exact⟨rfl,rfl⟩)
  |succ m r=>
   intro i b t w v;obtain⟨b,rfl⟩:∃f,b=f+1:=⟨b-1,jO⟩;have c:(i:Int)<((a.length:Nat):Int):=jO;have g:=fun(K:Value->M Value)=>GR a l .i64 i jO K;have y:=abJ (show i<cV x a by omega);have e:(((a.getD i 0:Nat):Int)==(x:Int))=false:=by rw[beq_eq_false_iff_ne];omega
   have o:(i:Int)+1=((i+1:Nat):Int):=rfl;rw[qc];refine jA (aI @gT (aI @c (aI @g @e))) ?_;rw[o];exact r (i+1) b jO jO jO
 exact k (cV x a) 0 lf jO jO jO
theorem ant{s:List Nat}(e:Sy s)(L:s≠[])(t:List Nat)(l:∀x∈t,x∈s)(Z:t.length<=1000000)(G:3000000<=lf):ae (fun _=>False) n (eW lf (d+4) 102 #[bp t,bp s]) h n fun B h' n'=>∃o,B= .tuple #[o,jI 0]∧Own h' n n' 3 o (aH .i64 (iN (dH s t))):=by
 have W:=e.len;have D:By t:=fun x c=>e.lt x (l x c);rw[aF (fun _=>ag') rfl];refine ae.aE ?_;unfold J8;refine aN aL (anc (lf:=lf) (d:=d) e L jO) (ai _) (fun _ _ h=>h.elim) fun U J F q P m=> ?_;subst m;refine jB ?_;have mt:∀i,∀x∈t.take i,x∈s:=fun i x c=>l x (j4 c);refine cG t.length (fun r i (o:Value)=>vB lf (eW lf (d+3)) r (Ep lf (eW lf (d+3))) (bp t) (bp s) nS (jI 0) o (bp (fk s (dH s (t.take i))).2) (jI (i:Nat)) (.bool false)) (fun i o h' n'=>n<=n'∧Own h' n n' 3 o (aH .i64 (iN (dH s (t.take i))))) ?_ ?_ lf 0 nS J F (bU _) jO ⟨q,Own.nil _ _ _ _⟩
 ·rintro r o h' n' ⟨q1,q2⟩;rw[eh]at q2;rw[vB];refine jA (aI @gT @bE) ?_;unfold Ep;refine jB ?_;exact⟨o,rfl,q2⟩
 ·rintro r i o h' n' f ⟨q1,q2⟩ next;have R:(i:Int)<((t.length:Nat):Int):=jO;have A:(i:Int)+1=((i+1:Nat):Int):=rfl
  have C:t.take (i+1)=t.take i++[t.getD i 0]:=by rw[fq f,aC,aJ f];rfl
  have c:t.getD i 0∈s:=l _ (by rw[aC,aJ f];exact cb _);have lt:=yN (t.take i) s (mt i);have z:=rF (t.take i) s;have ol:=Nn (dH s (t.take i)) s lt;have j:=NB (dH s (t.take i)) s lt e.lt;have oa:=NA (dH s (t.take i)) s lt _ c
  have u:dH s (t.take (i+1))=dH s (t.take i)++[cV (t.getD i 0) (fk s (dH s (t.take i))).2]:=by rw[C,Nz _ _ _ (mt i)];rfl
  have g:(fk s (dH s (t.take (i+1)))).2=dN 0 (fk s (dH s (t.take i))).2 (cV (t.getD i 0) (fk s (dH s (t.take i))).2):=by rw[u,MH];rfl
  have next:∀o' y k,n<=k->_->_:=fun o' y k a b=>next o' y k ⟨a,b⟩;rw[g,u]at next;rw[cB]at z;have w:=fun(K:Value->M Value)=>GR t D .i64 i f K;generalize dH s (t.take i)=E at q2 next lt z ol j oa;generalize (fk s E).2=O at next ol j oa⊢;generalize t.getD i 0=x at w c next oa;obtain⟨v,X⟩:=wZ oa;rw[vB];refine jA (aI @gT (aI @R @w)) ?_;refine bz (ans (lf:=lf) (d:=d+2) O j jO oa jO) jO (fun _ _ h=>h.elim) ?_;generalize cV x O=p at v next⊢;have Q:¬(p:Int)<0:=jO;refine jA @Q ?_;have T:(aH .i64 (iN E)).length=E.length:=by simp[aH,iN]
  refine fJ trivial (eI _ _) q2 (by rw[T];omega) (ai n) _ fun I N Y=> ?_;refine jB ?_;refine bz (am_ (lf:=lf) (d:=d+2) O (i:=p) v jO) jO (fun _ _ h=>h.elim) ?_;refine jB ?_;rw[A];refine next _ I _ jO ?_;rw[ku,kv];exact Own.mk' (b:=n'+1) N jO jO (by simp[aH,iN])
end
def eo(l:List Nat):List Nat×Nat:=l.foldl (fun s p=>if p=0 then(s.1,s.2+1)else(s.1++(ee s.2 s.2++[p+1]),0)) ([],0)
theorem NC(n:Nat):∀(l:List Nat) (s:List Nat×Nat),s.1++lr n s.2 l=(l.foldl (fun s p=>if p=0 then(s.1,s.2+1)else(s.1++(ee s.2 s.2++[p+1]),0)) s).1++(ee (l.foldl (fun s p=>if p=0 then(s.1,s.2+1)else(s.1++(ee s.2 s.2++[p+1]),0)) s).2 (l.foldl (fun s p=>if p=0 then(s.1,s.2+1)else(s.1++(ee s.2 s.2++[p+1]),0)) s).2++[n+1])
 |[],s=>rfl
 |p::l,s=>by
  rw[Cj,<-NC n l];show s.1++(if p=0 then lr n (s.2+1) l else ee s.2 s.2++(p+1)::lr n 0 l)=_;by_cases c:p=0
  ·rw[if_pos c,if_pos c]
  ·rw[if_neg c,if_neg c];simp
theorem ND{l:List Nat}{i:Nat}(h:i<l.length):eo (l.take (i+1))=if l.getD i 0=0 then((eo (l.take i)).1,(eo (l.take i)).2+1)else((eo (l.take i)).1++(ee (eo (l.take i)).2 (eo (l.take i)).2++[l.getD i 0+1]),0):=by unfold eo;rw[fq h,adt,aC,aJ h];rfl
theorem BW(l:List Nat):∀i,i<=l.length->(eo (l.take i)).1.length+(eo (l.take i)).2<=i
 |0,_=>ai _
 |i+1,h=>by
  have:=BW l i jO;rw[ND h];split
  ·dsimp only;omega
  ·have:=pj (eo (l.take i)).2 (eo (l.take i)).2;rw[aG,aG,nC];omega
section
variable {lf d n:Nat} {h:H}
theorem GY:∀(f m F d n:Nat) (h:H),m<2^f->m<=F->m<=1000000000->ae (fun _=>False) n (eW lf (d+f+1) 144 #[jI (m:Int)]) h n fun x h' n'=>Own h' n n' 3 x (aH .i64 (iN (ee F m)))
 |f,0,F,d,n,h,_,_,_=>by
  rw[aF (fun _=>Vk) rfl];refine ae.aE ?_;unfold Ks;have e:(((0:Nat):Int)==0)=true:=rfl;have C:ee F 0=[]:=by cases F<;>rfl
  refine jA @e ?_;rw[C];exact Own.nil _ _ _ _
 |0,m+1,F,d,n,h,u,_,_=>by simp at u
 |f+1,m+1,F,d,n,h,u,G,E=>by
  obtain⟨F,rfl⟩:∃g,F=g+1:=⟨F-1,jO⟩;have D:2^(f+1)=2^f*2:=lH ..;have e:(((m+1:Nat):Int)==0)=false:=beq_eq_false_iff_ne.2 jO;have t:((m+1:Nat):Int).tmod 2=(((m+1)%2:Nat):Int):=by rw[show(2:Int)=((2:Nat):Int)from rfl,<-Int.ofNat_tmod]
  rw[aF (fun _=>Vk) rfl];refine ae.aE ?_;unfold Ks;by_cases c:(m+1)%2=1
  ·have s:((((m+1)%2:Nat):Int)==1)=true:=by rw[c];rfl
   have l:IntKind.i64.wrap (((m+1:Nat):Int)-1)=(m:Int):=by rw[aV jO jO];omega
   have q1:IntKind.i64.wrap ((m:Int).tdiv 2)=((m/2:Nat):Int):=by rw[show(2:Int)=((2:Nat):Int)from rfl,<-HJ,aV jO jO]
   have o:ee (F+1) (m+1)=[0]++ee F (m/2):=by show(if m+1=0 then []else if(m+1)%2=1 then 0::ee F ((m+1-1)/2)else _)=_;rw[if_neg jO,if_pos c,ON];rfl
   refine jA (aI @e (aI @t @s)) ?_;refine DO trivial (eI _ _) _ ?_;have k:Own ((h.set n (some ⟨3,true,[jI 0]⟩)).set (n+1) (some ⟨3,true,[jI 0]⟩)) n (n+2) 3 (.slice (some ⟨n+1,0,none⟩) 1 (aU+1)) [jI 0]:=Own.mk' (get_eq _ _ _) jO jO rfl;have q2:IntKind.i64.wrap ((((m+1:Nat):Int)-1).tdiv 2)=((m/2:Nat):Int):=by rw[show((m+1:Nat):Int)-1=(m:Int) by omega];exact q1
   refine jA (aI @l (aI @q1 @q2)) ?_;refine aN aL (show ae (fun _=>False) (n+2) (eW lf (d+(f+1)) 144 #[jI ((m/2:Nat):Int)]) _ _ _ from GY f (m/2) F d (n+2) _ jO jO jO) jO (fun _ _ h=>h.elim) fun w B z i j a=> ?_;refine rj trivial (k.ay i fun b r=>j b (k.lt r).2 id) a.row (by have:=pj F (m/2);rw[bB];simp;omega) (ai n) jO _ fun v A y q p _ _=> ?_;refine jB ?_;rw[o,ku,kv];exact p
  ·have s:((((m+1)%2:Nat):Int)==1)=false:=beq_eq_false_iff_ne.2 jO;have l:IntKind.i64.wrap (((m+1:Nat):Int)-2)=((m-1:Nat):Int):=by rw[aV jO jO];omega
   have q1:IntKind.i64.wrap (((m-1:Nat):Int).tdiv 2)=(((m-1)/2:Nat):Int):=by rw[show(2:Int)=((2:Nat):Int)from rfl,<-HJ,aV jO jO]
   have o:ee (F+1) (m+1)=[1]++ee F ((m-1)/2):=by show(if m+1=0 then []else if(m+1)%2=1 then 0::ee F ((m+1-1)/2)else 1::ee F ((m+1-2)/2))=_;rw[if_neg jO,if_neg c,show m+1-2=m-1 by omega];rfl
   refine jA (aI @e (aI @t @s)) ?_;refine DO trivial (eI _ _) _ ?_;have k:Own ((h.set n (some ⟨3,true,[jI 1]⟩)).set (n+1) (some ⟨3,true,[jI 1]⟩)) n (n+2) 3 (.slice (some ⟨n+1,0,none⟩) 1 (aU+1)) [jI 1]:=Own.mk' (get_eq _ _ _) jO jO rfl;have q2:IntKind.i64.wrap ((((m+1:Nat):Int)-2).tdiv 2)=(((m-1)/2:Nat):Int):=by rw[show((m+1:Nat):Int)-2=((m-1:Nat):Int) by omega];exact q1
   refine jA (aI @l (aI @q1 @q2)) ?_;refine aN aL (show ae (fun _=>False) (n+2) (eW lf (d+(f+1)) 144 #[jI (((m-1)/2:Nat):Int)]) _ _ _ from GY f ((m-1)/2) F d (n+2) _ jO jO jO) jO (fun _ _ h=>h.elim) fun w B z i j a=> ?_;refine rj trivial (k.ay i fun b r=>j b (k.lt r).2 id) a.row (by have:=pj F ((m-1)/2);rw[bB];simp;omega) (ai n) jO _ fun v A y q p _ _=> ?_;refine jB ?_;rw[o,ku,kv];exact p
theorem anu{v:Value}{f:Nat}(h1:1<=f)(h2:f<=256)(l:List Nat)(hp:∀p∈l,p<f)(hl:l.length<=1000000)(T:Row h n 3 .i64 v (iN l))(u0:3000000<=lf):ae (fun _=>False) n (eW lf (d+24) 103 #[v,jI (f:Int)]) h n fun Z h' n'=>∃o,Z= .tuple #[o,jI 0]∧Own h' n n' 3 o (aH .i64 (iN (lr f 0 l))):=by
 have Q:(iN l).length=l.length:=bB l;rw[aF (fun _=>aha) rfl];refine ae.aE ?_;unfold J9;have c1:¬(f:Int)<1:=jO;have c2:¬(256:Int)<(f:Int):=jO
 have kl:∀K:Value->M Value,aT v K=K (jI (l.length:Int)):=fun K=>by obtain⟨a,c,e⟩:=T.len;rw[e,Q];rfl
 refine jA (aI @c1 (aI @c2 @kl)) ?_;refine cG l.length (fun L i (o:Value)=>td lf (eW lf (d+23)) L (Er lf (eW lf (d+23))) v (jI (f:Int)) nS (jI 0) o (jI ((eo (l.take i)).2:Int)) (.bool false) v (jI (l.length:Int)) (jI (i:Nat))) (fun i o h' n'=>n<=n'∧(∀b,b<n->h'.get b=h.get b)∧Own h' n n' 3 o (aH .i64 (iN (eo (l.take i)).1))) ?_ ?_ lf 0 nS h n (bU _) jO ⟨ai _,fun _ _=>rfl,Own.nil _ _ _ _⟩
 ·rintro L o h' n' ⟨q1,q2,g⟩;have s:=BW l l.length (ai _);rw[eh]at g s⊢;have N:=NC f l ([],0);have N:lr f 0 l=(eo l).1++(ee (eo l).2 (eo l).2++[f+1]):=N;rw[N];have y:IntKind.i64.wrap ((f:Int)+1)=((f+1:Nat):Int):=by rw[aV jO jO];rfl
  have D:=pj (eo l).2 (eo l).2;generalize (eo l).1=A at g s⊢;generalize (eo l).2=B at s D⊢;rw[td];refine jA @bE ?_;unfold Er;refine jB ?_;refine aN aL (GY (lf:=lf) 20 B B (d+2) n' h' (by have:(2:Nat)^20=1048576:=rfl;omega) (ai _) jO) q1 (fun _ _ h=>h.elim) fun Y h8 n8 m j k=> ?_;refine rj trivial (g.ay m fun b u=>j b (g.lt u).2 id) k.row (by rw[cj,bB,bB];omega) (ai n) jO _ fun X h9 F I z _ _=> ?_;refine jA @y ?_;refine fJ trivial (eI _ _) z (by rw[aG,cj,cj,bB,bB];omega) (ai n) _ fun w r t=> ?_;refine jB ?_;refine⟨_,rfl, ?_⟩;rw[ku,ku,kv,kv,<-bW];exact Own.mk' (b:=F+1) r jO jO (by simp[aH,iN];omega)
 ·rintro L i o h' n' R ⟨q1,q2,g⟩ next;have U:(i:Int)<((l.length:Nat):Int):=jO;have y:(i:Int)+1=((i+1:Nat):Int):=rfl;obtain⟨bb,E,cap,oo,ks,ev,hg,u1,_,_,_,J⟩:=(T.ay q1 q2).some jO;have P:=J i jO;rw[iq]at P;rw[Q]at ev
  have kx:∀K:Value->M Value,aO v (jI (i:Int)) K=K (jP bb (E+i)):=fun K=>by rw[ev];exact jC @U
  have s:=BW l i jO;have W:=ND R;have hx:=hp (l.getD i 0) (by rw[aC,aJ R];exact cb _);have D:=pj (eo (l.take i)).2 (eo (l.take i)).2;have next:∀o' h2 G,n<=G->_->_->_:=fun o' h2 G a b c=>next o' h2 G ⟨a,b,c⟩;rw[W]at next;generalize l.getD i 0=x at P hx next;generalize (eo (l.take i)).1=A at g s next⊢;generalize (eo (l.take i)).2=B at s D next⊢;have c3:¬(x:Int)<0:=jO;have c4:¬(f:Int)<=(x:Int):=jO;rw[td];refine jA (aI @U (aI @kx (aI @hg (aI @P (aI @c3 @c4))))) ?_;by_cases c:x=0
  ·have O:((x:Int)==0)=true:=by rw[c];rfl
   have C:IntKind.i64.wrap ((B:Int)+1)=((B+1:Nat):Int):=by rw[aV jO jO];rfl
   rw[if_pos c]at next;refine jA (aI @O @C) ?_;rw[y];exact next o h' n' q1 q2 g
  ·have O:((x:Int)==0)=false:=beq_eq_false_iff_ne.2 jO;have C:IntKind.i64.wrap ((x:Int)+1)=((x+1:Nat):Int):=by rw[aV jO jO];rfl
   rw[if_neg c]at next;refine jA @O ?_;refine aN aL (GY (lf:=lf) 20 B B (d+2) n' h' (by have:(2:Nat)^20=1048576:=rfl;omega) (ai _) jO) q1 (fun _ _ h=>h.elim) fun Y h8 n8 m j k=> ?_;refine rj trivial (g.ay m fun b u=>j b (g.lt u).2 id) k.row (by rw[cj,bB,bB];omega) (ai n) jO _ fun X h9 F I z _ k9=> ?_;refine jA @C ?_;refine fJ trivial (eI _ _) z (by rw[aG,cj,cj,bB,bB];omega) (ai n) _ fun w r t=> ?_;refine jB ?_;rw[y];refine next _ w _ jO (fun b u=> ?_) ?_
   ·rw[t b jO (fun q=>by have:=(z.lt q).1;omega),k9 b jO (fun q=>by have:=(g.lt q).1;omega),j b jO id];exact q2 b u
   ·rw[<-bW,ku,ku,kv,kv];exact Own.mk' (b:=F+1) r jO jO (by simp[aH,iN];omega)
end
theorem anv(s:List Nat)(i:Nat){k:Nat}(h:k<16):(iu s i).take (k+1)=(iu s i).take k++[decide (16*i+k∈s)]:=by rw[fq (by rw[ub];exact h)];unfold iu;rw[List.getElem_map,List.getElem_range]
def um(s:List Nat)(i:Nat):List Bool:=(aY i).map (fM s)
def qv(s:List Nat)(i:Nat):List Bool:=((aY i).filter (fM s)).flatMap (iu s)
theorem anw(s:List Nat)(i:Nat):um s (i+1)=um s i++[fM s i]:=by unfold um;rw[mv,dU];rfl
theorem GZ(s:List Nat)(i:Nat):qv s (i+1)=qv s i++(if fM s i=true then iu s i else []):=by
 unfold qv;rw[mv,aqS,List.flatMap_append,List.filter_cons,List.filter_nil];by_cases c:fM s i=true
 ·rw[if_pos c,if_pos c,pG,OL,cz]
 ·rw[if_neg c,if_neg c,OL]
theorem G0(s:List Nat):∀i,(qv s i).length<=16*i
 |0=>ai _
 |i+1=>by
  have:=G0 s i;have r:=ub s i;rw[GZ,aG];split
  ·omega
  ·rw[fH];omega
section
variable {lf d n:Nat} {h:H}
theorem anx(s:List Nat)(E:∀x∈s,x<256)(L:s.length<=256)(C:300<=lf):ae (fun _=>False) n (eW lf (d+2) 104 #[bp s]) h n fun u h' n'=>u=tx (xc s)∧h'=h∧n'=n:=by
 rw[aF (fun _=>ahd) rfl];refine ae.aE ?_;unfold J';have r:∀i,(um s i).length=i:=fun i=>by unfold um;simp
 refine cG 16 (fun o i (_:Unit)=>tf lf (eW lf (d+1)) o (Ay lf (eW lf (d+1))) (bp s) (aZ {data:=#[]}) (tx (um s i)) (tx (qv s i)) (jI (i:Nat))) (fun i _ h' n'=>h'=h∧n'=n) ?_ ?_ lf 0 () h n (bU _) jO ⟨rfl,rfl⟩
 ·rintro o _ h' n' ⟨rfl,rfl⟩;have q:¬(((16:Nat):Int)<16):=jD;have z:=G0 s 16;have p:=r 16;rw[tf];refine jA @q ?_
  (try unfold Ay);(try dsimp only)
  rw[fL _ _ jO];refine jB ?_;all_goals (first|trivial|rfl|exact⟨rfl,rfl,rfl⟩|exact⟨rfl,rfl⟩)
 ·rintro o i _ h' n' N ⟨rfl,rfl⟩ next;have G:(i:Int)<16:=jO;have p:(i:Int)+1=((i+1:Nat):Int):=rfl;rw[tf];refine jA @G ?_;refine cG 16 (fun f k (_:Unit)=>te lf (eW lf (d+1)) f (TX lf (eW lf (d+1)) o (Ay lf (eW lf (d+1)))) (bp s) (aZ {data:=#[]}) (tx (um s i)) (tx (qv s i)) (jI (i:Nat)) (tx ((iu s i).take k)) (.bool (((iu s i).take k).any id)) (jI (i:Nat)) (.bool true) (jI (k:Nat))) (fun k _ l j=>l=h'∧j=n') ?_ ?_ lf 0 () h' n' (bU _) jO ⟨rfl,rfl⟩
  ·rintro f _ l j ⟨rfl,rfl⟩;have q:¬(((16:Nat):Int)<16):=jD;have z:=G0 s i;have J:=r i;have y:=ub s i;have a:=next () l j ⟨rfl,rfl⟩;rw[anw,GZ]at a;have m:=fun(b:Bool) (K:Value->M Value)=>fL (um s i) [b] (by simp;omega) K;have I:=fun(K:Value->M Value)=>fL (qv s i) (iu s i) jO K;have v:(iu s i).take 16=iu s i:=fG jO;rw[te,v];refine jA @q ?_
   (try unfold TX);(try unfold Es);(try dsimp only)
   cases g:fM s i with
   |true=>rw[g,if_pos rfl]at a;unfold fM at g;rw[g];refine jA (aI @yJ (aI @m @I)) ?_;rw[p];exact a
   |false=>rw[g,if_neg jD,cz]at a;unfold fM at g;rw[g];refine jA (aI @od @m) ?_;rw[p];exact a
  ·rintro f k _ l j D ⟨rfl,rfl⟩ e;have F:(k:Int)<16:=jO;have t:(k:Int)+1=((k+1:Nat):Int):=rfl;have a:=e () l j ⟨rfl,rfl⟩;rw[anv s i D]at a;have y:=ub s i;have w:((iu s i).take k).length<=16:=by rw[cB];omega
   rw[List.any_append]at a;generalize (iu s i).take k=R at a w⊢;have m:=fun(b:Bool) (K:Value->M Value)=>fL R [b] (by simp;omega) K;have B:IntKind.i64.wrap (16*(i:Int))=((16*i:Nat):Int):=by rw[aV jO jO];rfl
   have A:IntKind.i64.wrap (((16*i:Nat):Int)+(k:Int))=((16*i+k:Nat):Int):=by rw[aV jO jO];rfl
   rw[te];refine jA (aI @F (aI @B @A)) ?_;refine bz (abz (lf:=lf) (d:=d) s E (16*i+k) jO jO) (ai _) (fun _ _ h=>h.elim) ?_;by_cases c:16*i+k∈s
   ·rw[decide_eq_true c]at a⊢;refine jA (aI @yJ @m) ?_;rw[t];simpa using a
   ·rw[decide_eq_false c]at a⊢;refine jA (aI @od @m) ?_;rw[t];simpa using a
end
end Go.Proofs.YtcehhgppfahbkaaGreatDoor
namespace Go.Proofs.YtcehhgppfahbkaaGreatDoor
open Go.RowKit Ev Tb Cn
theorem anz{xs:List Int}{z:Int}(e:nk xs z)(n:xs.length<=1000):(pf xs z).length<=400000:=by
 have a:=uj e jO;have i:=a.r6;have m:=e.2.1;have k:(bG xs).length=xs.length:=by unfold bG;rw[cu]
 have j:(kP (rowsOf xs z).length (cM xs z)).length<=300:=by rw[yW];have:=yV (l:=fb eM (cM xs z)) (ui _ _ rK fun p g=>by have:=a.pm p g;omega);rw[rI,a.pl]at this;unfold dq at this;omega
 have o:=o0 (rows:=rowsOf xs z) fun r b=>by unfold rowsOf at b;obtain⟨q,c,rfl⟩:=List.mem_map.1 b;have d:=a.me q c;exact xi d.hi (by rw[d.len];omega) (by rw[d.len];omega)
 have h:=GQ (rows:=rowsOf xs z) (ps:=cM xs z) (fun r b y f=>by
  unfold rowsOf at b;obtain⟨q,c,rfl⟩:=List.mem_map.1 b
  exact(a.me q c).hi y f) (bG xs) 0
 unfold pf;rw[aG,aG];omega
section
variable {lf d n:Nat} {h:H}
end
end Go.Proofs.YtcehhgppfahbkaaGreatDoor
namespace Go.Proofs.YtcehhgppfahbkaaGreatDoor
open Go.RowKit Ev Tb Cn Ip
section
variable {lf d n:Nat} {h:H}
theorem abK{last:List Nat}(l:By last)(G:last≠[])(hl:last.length<=900){frm a:Nat}(hf:frm<16777216)(hs:a<4294967296)(hd:600<=d)(c:3000000<=lf):ae (fun _=>False) n (eW lf (d+25) 65 #[.agg #[bp last,jI (frm:Int),.int .u32 (a:Int)]]) h n fun v' _ _=>v'=tx (lz last frm a):=by
 have b:=Np last;have mem:∀x∈last,x∈dI last:=fun x hx=>GS l hx;have A:=Nq l G;have sl:=b.len;have s1:1<=(dI last).length:=List.length_pos_iff.2 A;have g:=Ns l G;have Q:=BT (dI last).length (dH (dI last) last) 0;rw[rF]at Q;have f:(iN (jc last)).length<=1000:=by rw[bB];unfold jc;omega
 have al:=anz g f;rw[aF (fun _=>agM) rfl];refine ae.aE ?_;unfold S4;refine kK trivial _ _ ?_;obtain⟨t,e⟩:∃t,h.set n (some ⟨104,true,(Value.agg #[bp last,jI (frm:Int),.int .u32 (a:Int)]).cells.toList⟩)=t:=⟨_,rfl⟩;have L:t.get n=some ⟨104,true,[bp last,jI (frm:Int),.int .u32 (a:Int)]⟩:=by rw[<-e,get_eq];rfl
 rw[e];clear e;refine jA @L ?_;refine aN aL (abA (lf:=lf) (d:=d+22) last l jO jO jO) (cH n) (fun _ _ h=>h.elim) fun W h3 n3 v0 w s=> ?_;obtain rfl:W=bp (dI last):=s;have J:=(w n jO id).trans L;refine jA @J ?_;refine aN aL (ant (lf:=lf) (d:=d+20) b A last mem jO c) jO (fun _ _ h=>h.elim) fun v4 h4 n4 u9 v r=> ?_;obtain⟨o4,rfl,R⟩:=r;have g4:=(v n jO id).trans J;refine jA (aI @dF (aI @ext1 @gT)) ?_;refine aN aL (anu (lf:=lf) (d:=d) s1 sl (dH (dI last) last) (yN _ _ mem) (by rw[rF];omega) R.row c) jO (fun _ _ h=>h.elim) fun v5 h5 C u7 u q=> ?_;obtain⟨o5,rfl,o⟩:=q;have o:Own h5 n4 C 3 o5 (aH .i64 (iN (jc last))):=o;have I:=(u n jO id).trans g4;refine jA (aI @dF @ext1) ?_;refine tY (m:=C) trivial n 2 _ I jO (ai _) rfl fun T6 t6=> ?_;refine jB ?_;refine wR aL (wX (lf:=lf) (d:=d+23) a 32 hs jO jO) jO fun v7 h7 B T7 u6 v6 p z=> ?_;obtain⟨rfl,rfl,rfl⟩:=p;have a1:=fun(K:Value->M Value)=>fL (bh a 32) [false] (by rw[cA];simp) K;refine jA (aI @od @a1) ?_;refine tY (m:=B) trivial n 1 _ I jO (ai _) rfl fun T8 t8=> ?_;have U:IntKind.u32.wrap (frm:Int)=(frm:Int):=iH jO;refine jA @U ?_;refine Zd (m:=B) _ _ (ai _) fun T9 y=> ?_;refine jB ?_;refine wR aL (wX (lf:=lf) (d:=d+23) frm 24 jO jO jO) jO fun Z v3 u5 w0 F P k u2=> ?_;obtain⟨rfl,rfl,rfl⟩:=k;have a2:=fun(K:Value->M Value)=>fL (bh a 32++[false]) (bh frm 24) (by rw[aG,cA,cA];simp) K;refine jA @a2 ?_;have yb:=MK (dI last);have yf:((aY 16).filter (fM (dI last))).length<=16:=rY (OM _ _) (by rw[j7];exact ai _);refine wR aL (anx (lf:=lf) (d:=d+22) (dI last) b.lt jO jO) jO fun Y v2 u4 v9 E O j u1=> ?_;obtain⟨rfl,rfl,rfl⟩:=j;have a3:=fun(K:Value->M Value)=>fL (bh a 32++[false]++bh frm 24) (xc (dI last)) (by simp only[aG,cA,nC];omega) K;have T:IntKind.i64.wrap ((((dI last).length:Nat):Int)+2)=(((dI last).length+2:Nat):Int):=by rw[aV jO jO];rfl
 refine jA (aI @a3 (aI @gT @T)) ?_;refine wR aL (am5 (lf:=lf) (d:=d+19) c o.row f g jO) jO fun X v1 u3 v8 D N i u0=> ?_;subst i;have a4:=fun(K:Value->M Value)=>fL (bh a 32++[false]++bh frm 24++xc (dI last)) (pf (iN (jc last)) (((dI last).length+2:Nat):Int)) (by simp only[aG,cA,nC];omega) K;try simp(disch:=first|omega|assumption) only[Nat.reduceAdd,Nat.reduceLT,RZ,a4,t6.gq y,z.gq t8,z.gq y,Bool.not_false,Bool.and_self,oU]
 unfold lz;simp only[bW]
end
section
variable {lf d n:Nat} {h:H}
theorem anA{t:List Nat}(k:By t)(g:t≠[])(E:t.length<=900){s:Nat}(m:s<4294967296)(hd:600<=d)(f:3000000<=lf):ae (fun _=>False) n (eW lf (d+26) 48 #[bp t,.int .u32 (s:Int)]) h n fun l _ _=>l=tx (lz (fw t (cX t)) (cV 0 (cX t)) s):=by have i:yL t (cX t):=Nw t;have j:(fw t (cX t)).length=t.length:=aai i;have C:1<=t.length:=List.length_pos_iff.2 g;obtain⟨z,y⟩:=GX g;rw[aF (fun _=>agz) rfl];refine ae.aE ?_;unfold SE;refine aN aL (anr (lf:=lf) (d:=d+21) t k g jO jO) (ai _) (fun _ _ h=>h.elim) fun x I a e u c=> ?_;subst c;refine fh rfl _ ?_;refine iZ (sz:=2) trivial (vs:=[bp (fw t (cX t)),jI (cV 0 (cX t):Int)]) rfl rfl rfl (get_eq _ _ _) (dK a) (.inl e) _ fun G p D=> ?_;have B:a<a+1:=dK a;have v:eU [aZ {data:=#[]},ii 0,i3 0] [(0,1,bp (fw t (cX t))),(1,1,jI (cV 0 (cX t):Int)),(2,1,Value.int .u32 (s:Int))]=some [bp (fw t (cX t)),jI (cV 0 (cX t):Int),.int .u32 (s:Int)]:=rfl;refine jA @p ?_;rw[v];refine jB ?_;refine aN aL (abK (lf:=lf) (d:=d) (last:=fw t (cX t)) (aaj i k) (fun q=>by rw[q]at j;simp at j;omega) jO (frm:=cV 0 (cX t)) jO m hd f) jO (fun _ _ h=>h.elim) fun w F A o r b=> ?_;subst b;exact jE
end
end Go.Proofs.YtcehhgppfahbkaaGreatDoor
namespace Go.Proofs.YtcehhgppfahbkaaGreatDoor.Ev
open Go Go.RowKit
section
variable {β:Type} {W:Nat->Prop} {n0:Nat} {h:H} {n:Nat} {Q:β->H->Nat->Prop} {e:TypeId} {sz:Nat}
structure kz (h:H) (n:Nat) (e:TypeId) (sz b cp:Nat) (ts:List (List Value)):Prop where
 get:∃cs,h.get b=some ⟨e,true,cs⟩∧ts.length*sz<=cs.length∧cs.take (ts.length*sz)=ts.flatten
 lt:b<n
 ln:∀t∈ts,t.length=sz
 cp:ts.length<=cp
variable {b cp:Nat} {ts:List (List Value)}
theorem kz.ay{h':H}{n':Nat}(x:kz h n e sz b cp ts)(a:n<=n')(c:h'.get b=h.get b):kz h' n' e sz b cp ts:=⟨by rw[c];exact x.get,Nat.lt_of_lt_of_le x.lt a,x.ln,x.cp⟩
theorem kz.cut(x:kz h n e sz b cp ts){us vs:List (List Value)}(a:ts=us++vs):kz h n e sz b cp us:=by subst a;obtain⟨i,g,f,d⟩:=x.get;have c:us.flatten.length=us.length*sz:=o0 fun t a=>x.ln t (Oc _ a);rw[aG,fW]at f;refine⟨⟨i,g,jO, ?_⟩,x.lt,fun t a=>x.ln t (Oc _ a),by have:=x.cp;rw[aG]at this;omega⟩;have:=congrArg (List.take (us.length*sz)) d;rw[aq9,aG,fW,r8 jO,aqx,<-c,List.take_left]at this;rw[<-c];exact this
theorem kz.at(x:kz h n e sz b cp ts){i:Nat}(a:i<ts.length):∃cs,h.get b=some ⟨e,true,cs⟩∧0+i*sz+sz<=cs.length∧(cs.drop (0+i*sz)).take sz=ts.getD i []:=by
 obtain⟨cs,g,d,c⟩:=x.get;have q:i*sz+sz<=ts.length*sz:=by rw[<-Nat.succ_mul];exact Nat.mul_le_mul_right sz a
 refine⟨cs,g,jO, ?_⟩;have:=aak x.ln a;rw[<-c,List.drop_take,aq9,r8 jO]at this;rw[fy];exact this
theorem kz.cell(x:kz h n e sz b cp ts){i j:Nat}(c:i<ts.length)(a:j<sz):∃cs,h.get b=some ⟨e,true,cs⟩∧cs[0+i*sz+j]? =(ts.getD i [])[j]? :=by obtain⟨cs,g,_,d⟩:=x.at c;refine⟨cs,g, ?_⟩;rw[<-d,Oh,if_pos a,Oi]
theorem abL(x:kz h n e sz b cp ts){i:Nat}(d:i<ts.length)(K:Value->M β)(y:ae W n0 (K (.agg (ts.getD i []).toArray)) h n Q):ae W n0 (bR sz (jP b (i*sz)) K) h n Q:=by obtain⟨f,g,c,a⟩:=x.at d;rw[fy]at c a;refine lV b _ K g x.lt c ?_;show ae W n0 (K (.agg ((f.drop (i*sz)).take sz).toArray)) h n Q;rw[a];exact y
theorem abM(x:kz h n e sz b cp ts){N m:Nat}(c:ts.length=N)(k:m<=N){a:IntKind}(K:Value->M β)(y:ae W n0 (K (.slice (some ⟨b,0,none⟩) m cp)) h n Q):ae W n0 (lR e sz (.slice (some ⟨b,0,none⟩) N cp) none (some (.int a (m:Int))) K) h n Q:=by
 subst c;obtain⟨o,g,_,_⟩:=x.get;have l:=x.cp;refine hH ?_
 have i:((xO b).bind fun j=>match bZ j e with
  |true=>M.lift (q9 sz (some ⟨b,0,none⟩) ts.length cp none (some (.int a (m:Int))))
  |false=> .fail) h n=some ⟨.slice (some ⟨b,0,none⟩) m cp,h,n,[⟨false,b,some 1099511627776⟩]++[]⟩:=by
  rw[qW];refine bY (ve g x.lt) ?_;rw[uy];simp only;unfold q9;simp only[ri,Aj];have:(decide (0<=m)&&decide (m<=cp)&&decide (cp<=cp)&&(decide (cp<aU)||(none:Option Value).isNone&&decide (m<=ts.length)))=true:=by simp;omega
  simp only[this,if_true,Nat.zero_mul,gX,ite_self,Nat.sub_zero];rfl
 obtain⟨p,f,d⟩:=Ah (W:=W) (n0:=n0) i jS;exact ae.step f (ai _) d y
theorem abN (x:kz h n e sz b cp ts) {us:List (List Value)} {c cap N M':Nat} {o:Bool} (O:ts.length=N) (P:us.length=M') (j:∀t∈us,t.length=sz) (X:0<us.length) (l:us.flatten.all one=true) (J:h.get c=some ⟨e,o,us.flatten⟩) (z:c<n) (D:N+M'<=1099511627776) (w:aU<=cp∨cp<N+M') (G:n0<=b∨W b) (K:Value->M β)
 (y:∀h',kz h' (n+1) e sz n (aU+(N+M')) (ts++us)->(∀q,q<n->q≠b->h'.get q=h.get q)->ae W n0 (K (.slice (some ⟨n,0,none⟩) (N+M') (aU+(N+M')))) h' (n+1) Q):ae W n0 (bH e sz (.slice (some ⟨b,0,none⟩) N cp) (.slice (some ⟨c,0,none⟩) M' cap) K) h n Q:=by
 subst O;subst P;obtain⟨U,g,Y,T⟩:=x.get;have bn:=x.lt;have A:=o0 j;obtain⟨L,s,C⟩:=nU (n:=n) J z (us.length*sz) 0 (by show 0+us.length*sz<=us.flatten.length;omega)
 have s:ji sz us.length (.slice (some ⟨c,0,none⟩) us.length cap) h n=some ⟨us.flatten,h,n,L⟩:=by unfold ji;show cW c 0 (us.length*sz) _ _=_;rw[s,dx,fG (by show us.flatten.length<=_;omega)]
 have m:(decide (us.flatten.length=us.length*sz)&&us.flatten.all one)=true:=by rw[l,decide_eq_true A];rfl
 obtain⟨F,u,B⟩:=nU (n:=n) g bn (ts.length*sz) 0 (by show 0+ts.length*sz<=U.length;omega);rw[dx,T]at u
 have r:∀p:H,p.get b=h.get b∨p.get b=none->(∀q,q≠b->p.get q=h.get q)->kz (p.set n (some ⟨e,true,ts.flatten++us.flatten⟩)) (n+1) e sz n (aU+(ts.length+us.length)) (ts++us):=fun p _ _=>by
  have lt:ts.flatten.length=ts.length*sz:=o0 x.ln;refine⟨⟨_,get_eq _ _ _, ?_, ?_⟩,dK n,fun t I=> ?_,by rw[aG];omega⟩
  ·rw[aG,aG,lt,A,fW];exact ai _
  ·rw[aqx,fG];rw[aG,aG,lt,A,fW];exact ai _
  ·rcases qB.1 I with q|q
   ·exact x.ln t q
   ·exact j t q
 refine hH ?_;by_cases R:aU<=cp
 ·have f:∃i,kt e sz (.slice (some ⟨b,0,none⟩) ts.length cp) (.slice (some ⟨c,0,none⟩) us.length cap) h n=some ⟨.slice (some ⟨n,0,none⟩) (ts.length+us.length) (aU+(ts.length+us.length)),(h.set b none).set n (some ⟨e,true,ts.flatten++us.flatten⟩),n+1,i⟩∧∀y∈i,y.wr=true->y.b=b:=by
   refine⟨[⟨false,b,some 1099511627776⟩]++(L++(F++([⟨false,b,none⟩,⟨true,b,none⟩]++([]++[])))), ?_, ?_⟩
   ·unfold kt uW;rw[pW,kI,qW,zQ,nT];simp only[gd];rw[if_neg jO,if_pos D];refine bY (ve g bn) ?_;simp only[if_true];refine bY s ?_;rw[if_pos m,if_neg jO];refine bY u (bY (Jv g rfl bn) ?_);exact bY (sW _ _ _ _) rfl
   ·intro y hy a;simp only[cz,qB,nF,List.not_mem_nil,or_false]at hy;rcases hy with rfl|hy|hy|rfl|rfl
    ·cases a
    ·rw[C y hy]at a;cases a
    ·rw[B y hy]at a;cases a
    ·cases a
    ·rfl
  obtain⟨i,f,d⟩:=f;refine ae.step (iS f) jO (fun y hy a=> ?_) (y _ (r _ (.inr (get_eq _ _ _)) fun q v=>aB _ _ v) fun q v k=>by rw[aB _ _ jO,aB _ _ k]);rw[d y (List.mem_filter.1 hy).1 a];exact G
 ·have E:cp<ts.length+us.length:=w.resolve_left R
  have f:∃i,kt e sz (.slice (some ⟨b,0,none⟩) ts.length cp) (.slice (some ⟨c,0,none⟩) us.length cap) h n=some ⟨.slice (some ⟨n,0,none⟩) (ts.length+us.length) (aU+(ts.length+us.length)),h.set n (some ⟨e,true,ts.flatten++us.flatten⟩),n+1,i⟩∧∀y∈i,y.wr=false:=by
   refine⟨[⟨false,b,some 1099511627776⟩]++(L++(F++([]++[]))), ?_, ?_⟩
   ·unfold kt uW;rw[pW,kI,qW,zQ,nT];simp only[gd];rw[if_neg jO,if_pos D];refine bY (ve g bn) ?_;simp only[if_true];refine bY s ?_;rw[if_pos m,if_pos jO,if_neg jO];refine bY u ?_;exact bY (sW _ _ _ _) rfl
   ·intro y hy;simp only[cz,qB,CA]at hy;rcases hy with rfl|hy|hy
    ·rfl
    ·exact C y hy
    ·exact B y hy
  obtain⟨i,f,d⟩:=f;refine ae.step (iS f) jO (fun y hy a=> ?_) (y _ (r _ (.inl rfl) fun _ _=>rfl) fun q v k=>by rw[aB _ _ jO]);rw[d y (List.mem_filter.1 hy).1]at a;cases a
theorem anB{z cs:List Value}{len:Nat}{ps:List (Nat×Nat×Value)}(a:eU z ps=some cs)(K:Value->M β)(y:ae W n0 (K (.slice (some ⟨n,0,none⟩) len len)) (h.set n (some ⟨e,true,cs⟩)) (n+1) Q):ae W n0 (q8 e z len ps K) h n Q:=by unfold q8;rw[a];exact hH (p7 (oS _ _ (fun id=>fZ (some ⟨id,0,none⟩) len len) _ _) (cH n) y)
theorem abO{vs:List Value}(a:vs.length=sz)(K:Value->M β)(y:ae W n0 (K (.slice (some ⟨n,0,none⟩) 1 1)) (h.set n (some ⟨e,true,vs⟩)) (n+1) Q):ae W n0 (bV e sz (.agg vs.toArray) K) h n Q:=by unfold bV;rw[show bZ (eT (dE (.agg vs.toArray))) sz=true by rw[kW,show dE (.agg vs.toArray)=vs from rfl,a,uy]];exact hH (p7 (oS _ _ (fun id=>fZ (some ⟨id,0,none⟩) 1 1) _ _) (cH n) y)
end
end Go.Proofs.YtcehhgppfahbkaaGreatDoor.Ev
namespace Go.Proofs.YtcehhgppfahbkaaGreatDoor.Pl
def j2(s:ByteArray)(i:Int):Bool:=decide (0<=i∧i<s.size)
theorem anC{s:ByteArray}{i:Int}(h:j2 s i=true):0<=i∧i<s.size:=by simpa[j2]using h
theorem zb{s:ByteArray}{i:Int}(h:0<=i)(h2:i<s.size):j2 s i=true:=by simp[j2,h,h2]
def po(l:List UInt8)(i:Nat):List UInt8:=l.drop i++l.take i
def cmpL:List UInt8->List UInt8->Int
 |x::b,y::a=>if x<y then-1 else if y<x then 1 else cmpL b a
 |_,_=>0
theorem qw(l:List UInt8)(i:Nat):(po l i).length=l.length:=by simp[po];omega
theorem zc(l:List UInt8)(i k:Nat)(b:i<l.length)(a:k<l.length):(po l i).getD k 0=l.getD ((i+k)%l.length) 0:=by
 unfold po;simp only[aC];by_cases h:i+k<l.length
 ·rw[lJ h];rw[nB (by simp;omega)];simp[Oi]
 ·have e:(i+k)%l.length=i+k-l.length:=by rw[Nat.mod_eq_sub_mod jO,lJ jO]
  rw[e,oC (by simp;omega)];simp only[fp,Oh];rw[if_pos jO,show k-(l.length-i)=i+k-l.length by omega]
def j3(s:ByteArray)(i k:Int):Int:=cmpL (po s.data.toList i.toNat) (po s.data.toList k.toNat)
def jG(s:ByteArray)(i k:Int):Bool:=j2 s i&&j2 s k&&(decide (j3 s i k<0)||j3 s i k==0&&decide (i<k))
def iL(s:ByteArray)(xs:List Int)(j:Nat):Bool:=j2 s (xs.getD j 0)&&(j==0||jG s (xs.getD (j-1) 0) (xs.getD j 0))
def BX(s:ByteArray)(xs:List Int):Bool:=(aY xs.length).all (iL s xs)&&xs.length==s.size
theorem anD(s:ByteArray)(xs:List Int)(h:∀j,j<xs.length->iL s xs j=true):BX s xs=(xs.length==s.size):=by
 unfold BX
 have:(aY xs.length).all (iL s xs)=true:=by rw[mu];intro j a;exact h j (by simpa using a)
 rw[this,oA]
theorem abP:∀(a b:List UInt8),a.length=b.length->(cmpL a b=0↔a=b)
 |[],[],_=>by simp[cmpL]
 |x::f,y::e,h=>by
  have g:=abP f e (by simpa using h);simp only[cmpL];by_cases c:x<y
  ·have:¬x=y:=by rintro rfl;exact CB _ c
   simp[c,this]
  ·by_cases d:y<x
   ·have:¬x=y:=by rintro rfl;exact CB _ d
    simp[c,d,this]
   ·have:x=y:=UInt8.le_antisymm (UInt8.not_lt.1 d) (UInt8.not_lt.1 c);subst this;simp[g]
 |[],y::e,h=>by simp at h
 |x::f,[],h=>by simp at h
theorem abQ(s:ByteArray):s.data.toList.length=s.size:=by rw[Array.length_toList];rfl
def ot(s:ByteArray)(i:Int)(a:List Int×Bool)(k:Int):List Int×Bool:=
 if !a.2&&jG s i k then(a.1++[i]++[k],true)else(a.1++[k],a.2)
def pq(s:ByteArray)(i:Int)(l:List Int)(j:Nat):List Int×Bool:=(l.take j).foldl (ot s i) ([],false)
def BZ(s:ByteArray)(i:Int)(l:List Int):List Int:=if(pq s i l l.length).2 then(pq s i l l.length).1 else(pq s i l l.length).1++[i]
def jH(s:ByteArray):Nat->List Int
 |0=>[]
 |i+1=>BZ s i (jH s i)
theorem anE(s:ByteArray)(i:Int)(l:List Int)(j:Nat)(h:j<l.length):pq s i l (j+1)=ot s i (pq s i l j) (l.getD j 0):=by unfold pq;rw[fq h,adt,aC,aJ h];rfl
theorem abR(s:ByteArray)(i:Int)(l:List Int):∀j,j<=l.length->(pq s i l j).1.length=j+(if(pq s i l j).2 then 1 else 0)
 |0,_=>by simp[pq]
 |j+1,h=>by have a:=abR s i l j jO;rw[anE s i l j jO];unfold ot;cases c:(pq s i l j).2<;>cases b:jG s i (l.getD j 0)<;>simp_all
theorem anF(s:ByteArray)(i:Int)(l:List Int):(BZ s i l).length=l.length+1:=by have:=abR s i l l.length (ai _);unfold BZ;split<;>simp_all
theorem B1(s:ByteArray):∀i,(jH s i).length=i
 |0=>rfl
 |i+1=>by rw[jH,anF,B1 s i]
theorem abT:∀a:List UInt8,cmpL a a=0
 |[]=>rfl
 |x::b=>by simp[cmpL,CB,abT b]
theorem abU:∀a b:List UInt8,cmpL b a=-cmpL a b
 |[],[]=>rfl
 |[],_::_=>rfl
 |_::_,[]=>rfl
 |x::f,y::e=>by
  have g:=abU f e;simp only[cmpL,HI];by_cases c:x.toNat<y.toNat
  ·have:¬y.toNat<x.toNat:=jO;simp[c,this]
  ·by_cases d:y.toNat<x.toNat
   ·simp[c,d]
   ·simp[c,d,g]
theorem abV:∀a b c:List UInt8,a.length=b.length->b.length=c.length->cmpL a b<=0->cmpL b c<=0->cmpL a c<=0∧(cmpL a c=0->cmpL a b=0∧cmpL b c=0)
 |[],[],[],_,_,_,_=>by simp[cmpL]
 |x::m,y::l,z::k,h,o,i,f=>by
  have n:=abV m l k (by simpa using h) (by simpa using o);simp only[cmpL,HI]at*;by_cases g:x.toNat<y.toNat
  ·by_cases d:y.toNat<z.toNat
   ·have:x.toNat<z.toNat:=jO;simp[g,d,this]
   ·by_cases e:z.toNat<y.toNat
    ·simp[d,e]at f
    ·have:x.toNat<z.toNat:=jO;simp[this]
  ·by_cases j:y.toNat<x.toNat
   ·simp[g,j]at i
   ·by_cases d:y.toNat<z.toNat
    ·have:x.toNat<z.toNat:=jO;simp[this]
    ·by_cases e:z.toNat<y.toNat
     ·simp[d,e]at f
     ·have q:¬x.toNat<z.toNat:=jO;have p:¬z.toNat<x.toNat:=jO;simp only[g,j,d,e,q,p,if_false]at*;exact n i f
 |[],_::_,_,h,_,_,_=>by simp at h
 |_::_,[],_,h,_,_,_=>by simp at h
 |_,[],_::_,_,h,_,_=>by simp at h
 |_,_::_,[],_,h,_,_=>by simp at h
theorem anG(s:ByteArray)(i:Int):j3 s i i=0:=abT _
theorem abW(s:ByteArray)(i k:Int):j3 s k i=-j3 s i k:=abU _ _
theorem anH(s:ByteArray)(i k m:Int):j3 s i k<=0->j3 s k m<=0->j3 s i m<=0∧(j3 s i m=0->j3 s i k=0∧j3 s k m=0):=
 abV _ _ _ (by simp[qw]) (by simp[qw])
theorem zd(s:ByteArray)(i k:Int):jG s i k=true↔j2 s i=true∧j2 s k=true∧(j3 s i k<0∨j3 s i k=0∧i<k):=by unfold jG;simp[and_assoc]
theorem anI(s:ByteArray)(i k:Int)(h:jG s i k=true):jG s k i=false:=by rw[ary];intro a;rw[zd]at*;have:=abW s i k;omega
theorem anJ(s:ByteArray)(i k:Int)(b:j2 s i=true)(a:j2 s k=true)(c:i≠k):jG s i k=true∨jG s k i=true:=by
 rw[zd,zd];have:=abW s i k;by_cases h:j3 s i k<0
 ·exact .inl ⟨b,a,.inl h⟩
 ·by_cases e:j3 s i k=0
  ·by_cases d:i<k
   ·exact .inl ⟨b,a,.inr ⟨e,d⟩⟩
   ·exact .inr ⟨a,b,.inr ⟨jO,jO⟩⟩
  ·exact .inr ⟨a,b,.inl jO⟩
theorem anK(s:ByteArray)(i:Int):jG s i i=false:=by rw[ary];intro a;rw[zd,anG]at a;omega
theorem abX(s:ByteArray)(i k m:Int)(h:jG s i k=true)(h2:jG s k m=true):jG s i m=true:=by
 rw[zd]at*;obtain⟨c,f,e⟩:=h;obtain⟨d,b,b3⟩:=h2;have t:=anH s i k m jO jO;refine⟨c,b, ?_⟩;by_cases a:j3 s i m=0
 ·have:=t.2 a;exact .inr ⟨a,jO⟩
 ·exact .inl jO
def fO(s:ByteArray)(m:Nat):UInt8:=s.data.toList.getD (m %s.size) 0
theorem anL(s:ByteArray)(i k:Nat)(j:i<s.size)(g:k<s.size):po s.data.toList i=po s.data.toList k↔∀m,m<s.size->fO s (i+m)=fO s (k+m):=by
 have c:=abQ s;constructor
 ·intro h m f;have a:=zc s.data.toList i m jO jO;have b:=zc s.data.toList k m jO jO;rw[c]at a b;unfold fO;rw[<-a,<-b,h]
 ·intro h;apply List.ext_getElem (by simp[qw]);intro m a b;rw[qw]at a;have e:=zc s.data.toList i m jO jO;have d:=zc s.data.toList k m jO jO;rw[c]at e d;have:=h m jO;unfold fO at this;rw[<-e,<-d]at this;rw[aC,aC,aJ (by rw[qw];omega),aJ (by rw[qw];omega)]at this;simpa using this
def ou(s:ByteArray)(i:Int):List Int->List Int
 |[]=>[i]
 |k::a=>if jG s i k then i::k::a else k::ou s i a
theorem abY(s:ByteArray)(i:Int):∀(l a:List Int),l.foldl (ot s i) (a,true)=(a++l,true)
 |[],a=>by simp
 |k::b,a=>by rw[Cj,show ot s i (a,true) k=(a++[k],true)from rfl,abY s i b];simp
theorem abZ(s:ByteArray)(i:Int):∀(l a:List Int),(if(l.foldl (ot s i) (a,false)).2 then(l.foldl (ot s i) (a,false)).1 else(l.foldl (ot s i) (a,false)).1++[i])=a++ou s i l
 |[],a=>by simp[ou]
 |k::b,a=>by
  rw[Cj];cases h:jG s i k with
  |true=>rw[show ot s i (a,false) k=(a++[i]++[k],true) by simp[ot,h],abY];simp[ou,h]
  |false=>rw[show ot s i (a,false) k=(a++[k],false) by simp[ot,h],abZ s i b];simp[ou,h]
theorem ab0(s:ByteArray)(i:Int)(l:List Int):BZ s i l=ou s i l:=by have:=abZ s i l [];unfold BZ pq;rw[eh];simpa using this
theorem NF(s:ByteArray)(i x:Int):∀l,x∈ou s i l↔x=i∨x∈l
 |[]=>by simp[ou]
 |k::a=>by
  simp only[ou];split
  ·simp
  ·simp only[nF,NF s i x a];exact⟨fun h=>by rcases h with h|h|h<;>simp[h],fun h=>by rcases h with h|h|h<;>simp[h]⟩
theorem B4(s:ByteArray)(x:Int):∀i:Nat,x∈jH s i↔0<=x∧x<i
 |0=>by
  constructor
  ·intro h;simp[jH]at h
  ·intro h;omega
 |i+1=>by rw[jH,ab0,NF,B4 s x i];omega
def ow(s:ByteArray)(a b:Int):Prop:=jG s a b=true
theorem ab1(s:ByteArray)(i:Int)(f:j2 s i=true):∀l:List Int,(∀x∈l,j2 s x=true∧x≠i)->l.Pairwise (ow s)->(ou s i l).Pairwise (ow s)
 |[],_,_=>by simp[ou]
 |k::g,h,a=>by
  rw[r9]at a;simp only[ou];split
  ·rename_i b;rw[r9,r9];refine⟨fun x hx=> ?_,a⟩;cases nF.1 hx with
   |inl e=>subst e;exact b
   |inr e=>exact abX s i k x b (a.1 x e)
  ·rename_i b;have d:=h k jS
   have c:jG s k i=true:=by
    rcases anJ s i k f d.1 (fun e=>d.2 e.symm)with e|e
    ·exact absurd e b
    ·exact e
   rw[r9];refine⟨fun x hx=> ?_,ab1 s i f g (fun x hx=>h x (by simp[hx])) a.2⟩;rw[NF]at hx;rcases hx with rfl|hx
   ·exact c
   ·exact a.1 x hx
theorem ab2(s:ByteArray):∀i:Nat,i<=s.size->(jH s i).Pairwise (ow s)
 |0,_=>by simp[jH]
 |i+1,h=>by rw[jH,ab0];refine ab1 s i (zb jO jO) _ (fun x a=> ?_) (ab2 s i jO);rw[B4]at a;exact⟨zb a.1 jO,jO⟩
theorem NG(s:ByteArray){l:List Int}(h:l.Pairwise (ow s)):l.Nodup:=by refine ar3 ?_ h;intro a b c e;subst e;have:=anK s a;rw[c]at this;cases this
theorem anM(s:ByteArray)(xs:List Int)(h:∀j,j<xs.length->iL s xs j=true):xs.Pairwise (ow s):=by
 rw[OO]
 have step:∀j,j+1<xs.length->jG s (xs.getD j 0) (xs.getD (j+1) 0)=true:=by intro j b;have:=h (j+1) b;unfold iL at this;simpa using (adC.1 this).2
 have c:∀d i,i+d+1<xs.length->jG s (xs.getD i 0) (xs.getD (i+d+1) 0)=true:=by
  intro d
  induction d with
  |zero=>intro i a;exact step i a
  |succ d e=>intro i a;exact abX s _ _ _ (e i jO) (step (i+d+1) jO)
 intro i j a b f;have:=c (j-i-1) i jO;rw[show i+(j-i-1)+1=j by omega,aC,aC,aJ a,aJ b]at this;exact this
theorem ab3(s:ByteArray)(xs:List Int)(h:xs.Pairwise (ow s))(b:∀x∈xs,j2 s x=true):∀j,j<xs.length->iL s xs j=true:=by
 intro j a;rw[OO]at h;unfold iL;rw[adC];constructor
 ·rw[aC,aJ a];exact b _ (cb a)
 ·by_cases c:j=0
  ·subst c;rfl
  ·have:=h (j-1) j jO a jO;rw[aC,aC,aJ a,aJ (show j-1<xs.length by omega)];rw[Bool.or_eq_true_iff];right;exact this
theorem sorted_perm(s:ByteArray)(xs:List Int)(h:xs.Pairwise (ow s))(f:∀x∈xs,j2 s x=true)(k:xs.length=s.size):∀a,a∈xs↔a∈jH s s.size:=by
 have g:=NG s h;have b:∀x∈xs,x∈jH s s.size:=fun x c=>by rw[B4];exact anC (f x c)
 intro a;refine⟨b a,fun i=> ?_⟩;refine zF fun d=> ?_;have j:(a::xs).Nodup:=List.nodup_cons.2 ⟨d,g⟩
 have:=j.length_le_of_subset (l₂:=jH s s.size) (fun x c=>by
  cases nF.1 c with
  |inl e=>subst e;exact i
  |inr e=>exact b x e)
 rw[B1]at this;simp at this;omega
theorem anN(s:ByteArray)(xs:List Int):BX s xs=(xs==jH s s.size):=by
 have d:=ab2 s s.size (ai _);have m:∀x∈jH s s.size,j2 s x=true:=fun x g=>by rw[B4]at g;exact zb g.1 g.2
 rw[apO];constructor
 ·intro h;unfold BX at h;rw[adC,mu,beq_iff_eq]at h;have i:∀j,j<xs.length->iL s xs j=true:=fun j f=>h.1 j (by simpa using f);have c:=anM s xs i
  have o:∀x∈xs,j2 s x=true:=by intro x g;obtain⟨j,f,rfl⟩:=List.mem_iff_getElem.1 g;have:=(adC.1 (i j f)).1;rwa[aC,aJ f]at this
  have k:=sorted_perm s xs c o h.2;have e:=(List.perm_ext_iff_of_nodup (NG s c) (NG s d)).2 k;rw[beq_iff_eq];refine arv (le:=ow s) (fun a b _ _ n l=> ?_) c d e;have:=anI s a b n;unfold ow at l;rw[l]at this;cases this
 ·intro h;rw[beq_iff_eq]at h;subst h;unfold BX;rw[adC,mu,beq_iff_eq,B1];exact⟨fun j f=>ab3 s _ d m j (by rw[B1];simpa using f),rfl⟩
end Go.Proofs.YtcehhgppfahbkaaGreatDoor.Pl
namespace Go.Proofs.YtcehhgppfahbkaaGreatDoor
open Go.RowKit
structure SS where
 ord:List Nat
 cls:List Nat
 bJ:List Nat
 reach:Nat
 bq:List (Nat×Nat×Nat)
 lo:Nat
 mid:Nat
 hi:Nat
 laid:Nat
 one:Nat
 two:Nat
 bg:Nat
 last:Nat
 steps:Nat
 done:Bool
namespace Sp
def iw(k l:Nat×Nat):Bool:=decide (l.1<k.1)||(k.1==l.1&&decide (l.2<k.2))
def fS(s:ByteArray)(b:Nat)(c:List Nat)(a:Nat):Nat×Nat:=if b=0 then((s.data.toList.getD a 0).toNat,0)else(c.getD a 0,c.getD ((a+b)%s.size) 0)
def rP(s:ByteArray)(x:SS)(a b:Nat):Bool:=iw (fS s x.reach x.cls a) (fS s x.reach x.cls b)
def cL(x:SS):SS:=match x.bq with
 |[]=>x
 |p::r=>if x.hi=0∧p.2.1≠0 then{x with lo:=p.1,mid:=p.2.1,hi:=p.2.2,bq:=r,laid:=0,one:=0,two:=p.2.1}else x
def nn(x:SS):SS:={x with bJ:=x.bJ.set x.laid (x.ord.getD (x.lo+x.laid) 0),laid:=x.laid+1}
def jJ(s:ByteArray)(x:SS):Bool:=x.two==x.hi||(decide (x.one<x.laid)&& !(rP s x (x.bJ.getD x.one 0) (x.ord.getD x.two 0)))
def ix(x:SS):Nat:=x.lo+x.one+x.two-x.mid
def iy(x:SS)(e:Bool):SS:=if e then{x with lo:=0,mid:=0,hi:=0}else x
def aq7(s:ByteArray)(x:SS):SS:=
 iy (if jJ s x then{x with ord:=x.ord.set (ix x) (x.bJ.getD x.one 0),one:=x.one+1}else{x with ord:=x.ord.set (ix x) (x.ord.getD x.two 0),two:=x.two+1}) (ix x+1==x.hi)
def mf(x:SS):SS:=match x.bq with
 |[]=>x
 |p::r=>if p.2.2-p.1<2 then{x with bq:=r}else{x with bq:=(p.1,0,(p.1+p.2.2)/2)::((p.1+p.2.2)/2,0,p.2.2)::(p.1,(p.1+p.2.2)/2,p.2.2)::r}
def nq(s:ByteArray)(x:SS):Nat:=if x.bg=0 then 0 else if rP s x (x.ord.getD x.bg 0) (x.ord.getD (x.bg-1) 0)then x.last+1 else x.last
def iO(x:SS):SS:=if x.last+1=x.ord.length∨x.ord.length<=x.reach then{x with cls:=x.bJ,bJ:=x.cls,bg:=0,done:=true}
 else{x with cls:=x.bJ,bJ:=x.cls,bg:=0,reach:=max 1 (2*x.reach),bq:=(0,0,x.ord.length)::x.bq}
def bQ(s:ByteArray)(x:SS):SS:={x with last:=nq s x,bJ:=x.bJ.set (x.ord.getD x.bg 0) (nq s x),bg:=x.bg+1}
def gU(s:ByteArray)(x:SS):SS:=if(bQ s x).bg=x.ord.length then iO (bQ s x)else bQ s x
def nu(s:ByteArray)(x:SS):SS:=if 0<x.hi then(if x.laid<x.mid-x.lo then nn x else aq7 s x)else match x.bq with|[]=>gU s x|_=>mf x
def ed(s:ByteArray)(x:SS):SS:={nu s (cL x)with steps:=x.steps+1}
def fD(n:Nat):SS:=⟨aY n,bD n 0,bD n 0,0,[(0,0,n)],0,0,0,0,0,0,0,0,0,decide (n<2)⟩
def cY(s:ByteArray):Nat->SS->SS
 |0,x=>x
 |k+1,x=>cY s k (ed s x)
def dr(m:Nat):Nat:=if h:m<2 then 1 else 1+dr (m/2)+dr (m-m/2)+m/2+m
termination_by m
theorem B5{m:Nat}(h:m<2):dr m=1:=by rw[dr];simp[h]
theorem G3{m:Nat}(h:2<=m):dr m=1+dr (m/2)+dr (m-m/2)+m/2+m:=by rw[dr];simp[show¬m<2 by omega]
theorem anO(m:Nat):1<=dr m:=by
 by_cases h:m<2
 ·rw[B5 h];omega
 ·rw[G3 jO];omega
theorem NH:∀b m,1<=m->m<=2^b->dr m<=(3+3*b)*m
 |0,m,c,a=>by
  have:m=1:=by simp at a;omega
  subst this;rw[B5 jO];omega
 |b+1,m,c,a=>by
  by_cases h:m<2
  ·rw[B5 h];have:0<(3+3*(b+1))*m:=Nat.mul_pos jO jO;omega
  ·rw[G3 jO];rw[lH]at a;have g:=NH b (m/2) jO jO;have f:=NH b (m-m/2) jO jO;have e:(3+3*b)*(m/2)+(3+3*b)*(m-m/2)=(3+3*b)*m:=by rw[<-Nat.mul_add];congr 1;omega
   have d:(3+3*(b+1))*m=(3+3*b)*m+3*m:=by rw[<-fW];congr 1
   omega
def rQ(p:Nat×Nat×Nat):Nat:=if p.2.1=0 then dr (p.2.2-p.1)else(p.2.1-p.1)+(p.2.2-p.1)
def kQ(x:SS):Nat:=if x.hi=0 then 0 else(x.mid-x.lo-x.laid)+(x.hi-x.lo-(x.one+(x.two-x.mid)))
def gC(n:Nat)(x:SS):Nat:=(x.bq.map rQ).sum+kQ x+(n-x.bg)
def NI(n:Nat)(p:Nat×Nat×Nat):Prop:=p.1<=p.2.2∧p.2.2<=n∧(p.2.1=0∨p.1<p.2.1∧p.2.1<p.2.2)
structure ab4 (n:Nat) (x:SS):Prop where
 lm:x.lo<x.mid
 mh:x.mid<x.hi
 hn:x.hi<=n
 laid:x.laid<=x.mid-x.lo
 one:x.one<=x.laid
 arM:x.mid<=x.two
 arN:x.two<=x.hi
 fresh:x.laid<x.mid-x.lo->x.one=0∧x.two=x.mid
 more:x.lo+x.one+x.two-x.mid<x.hi
 bJ:∀i,i<x.laid->x.bJ.getD i 0<n
structure Ok (n m:Nat) (x:SS):Prop where
 ol:x.ord.length=n
 cl:x.cls.length=n
 al:x.bJ.length=n
 ord:∀i,i<n->x.ord.getD i 0<n
 reach:x.reach=0∧1<=m∧n<=2^(m-1)∨1<=x.reach∧n<=x.reach*2^m
 nv:x.reach<=2*n
 bq:∀p,p∈x.bq->NI n p
 merge:x.hi=0∨ab4 n x
 bg:x.done=false->x.bg<n
 rR:0<x.bg->x.bq=[]∧x.hi=0
 last:x.last<=n
 rS:x.bg=0∨x.last<x.bg
theorem NJ{l:List Nat}{i j v:Nat}:(l.set i v).getD j 0=if i=j∧i<l.length then v else l.getD j 0:=by
 simp only[aC,List.getElem?_set];by_cases h:i=j
 ·subst h;by_cases a:i<l.length
  ·simp[a]
  ·simp[a,jM (Nat.le_of_not_lt a)]
 ·simp[h]
theorem Ok.join{n m:Nat}{x:SS}(h:Ok n m x):Ok n m (cL x):=by
 unfold cL;split
 ·exact h
 ·rename_i p r a;split
  ·rename_i f;obtain⟨i,g⟩:=f;have e:=h.bq p (by rw[a];simp);obtain⟨q1,q2,c⟩:=e;have c:=c.resolve_left g
   have b:x.bg=0:=by
    rcases zu x.bg with h2|h2
    ·exact h2
    ·rw[(h.rR h2).1]at a;cases a
   refine⟨h.ol,h.cl,h.al,h.ord,h.reach,h.nv,fun q d=>h.bq q (by rw[a];exact fF _ d),.inr ⟨?_, ?_, ?_, ?_, ?_, ?_, ?_, ?_, ?_, ?_⟩,h.bg,fun h2=> ?_,h.last,.inl b⟩<;>simp only at*<;>try omega
   exact fun _=>⟨trivial,trivial⟩
  ·exact h
theorem Ok.lay{n m:Nat}{x:SS}(h:Ok n m x)(u:0<x.hi)(r:x.laid<x.mid-x.lo):Ok n m (nn x):=by
 have o:=h.merge.resolve_left jO;obtain⟨j,g,f,t,s,e,d,c,b,a⟩:=o;have:=c r;refine⟨h.ol,h.cl,by simpa[nn]using h.al,h.ord,h.reach,h.nv,h.bq,.inr ⟨j,g,f, ?_, ?_,e,d, ?_,b, ?_⟩,h.bg,h.rR,h.last,h.rS⟩
 ·simp only[nn];omega
 ·simp only[nn];omega
 ·intro _;exact this
 ·intro i p;simp only[nn,NJ];have k:=h.ol;have q:=h.al;split
  ·exact h.ord _ jO
  ·rename_i l;exact a i (by simp only[nn]at p;omega)
theorem Ok.put{n m:Nat}{x:SS}(s:ByteArray)(h:Ok n m x)(z:0<x.hi)(y:¬x.laid<x.mid-x.lo):Ok n m (aq7 s x):=by
 have t:=h.merge.resolve_left jO;obtain⟨o,l,k,j,r,q,p,v,u,e⟩:=t
 have w:x.bg=0:=by
  rcases zu x.bg with h2|h2
  ·exact h2
  ·have:=(h.rR h2).2;omega
 have c:=h.ol;unfold aq7;by_cases d:jJ s x=true
 ·rw[if_pos d]
  have f:x.one<x.laid:=by
   unfold jJ at d;rw[mr,cD,decide_eq_true_iff]at d;rcases d with h2|h2
   ·have:x.two=x.hi:=by simpa using h2
    omega
   ·exact h2.1
  have a:∀i,i<n->(x.ord.set (ix x) (x.bJ.getD x.one 0)).getD i 0<n:=by
   intro i g;rw[NJ];split
   ·exact e _ f
   ·exact h.ord i g
  unfold iy;by_cases b:(ix x+1==x.hi)=true
  ·rw[if_pos b];exact⟨by simpa using c,h.cl,h.al,a,h.reach,h.nv,h.bq,.inl rfl,h.bg,fun h2=>⟨(h.rR h2).1,rfl⟩,h.last,h.rS⟩
  ·rw[if_neg b];have b:¬ix x+1=x.hi:=by simpa using b
   unfold ix at b;refine⟨by simpa using c,h.cl,h.al,a,h.reach,h.nv,h.bq,.inr ⟨o,l,k,j, ?_,q,p, ?_, ?_,e⟩,h.bg,h.rR,h.last,h.rS⟩
   ·simp only;omega
   ·simp only;omega
   ·simp only;omega
 ·rw[if_neg d]
  have f:x.two<x.hi:=by unfold jJ at d;rw[mr]at d;have h2:¬x.two=x.hi:=fun h2=>d (.inl (by simpa using h2));omega
  have a:∀i,i<n->(x.ord.set (ix x) (x.ord.getD x.two 0)).getD i 0<n:=by
   intro i g;rw[NJ];split
   ·exact h.ord _ jO
   ·exact h.ord i g
  unfold iy;by_cases b:(ix x+1==x.hi)=true
  ·rw[if_pos b];exact⟨by simpa using c,h.cl,h.al,a,h.reach,h.nv,h.bq,.inl rfl,h.bg,fun h2=>⟨(h.rR h2).1,rfl⟩,h.last,h.rS⟩
  ·rw[if_neg b];have b:¬ix x+1=x.hi:=by simpa using b
   unfold ix at b;refine⟨by simpa using c,h.cl,h.al,a,h.reach,h.nv,h.bq,.inr ⟨o,l,k,j,r, ?_, ?_, ?_, ?_,e⟩,h.bg,h.rR,h.last,h.rS⟩
   ·simp only;omega
   ·simp only;omega
   ·simp only;omega
   ·simp only;omega
theorem Ok.anP{n m:Nat}{x:SS}(h:Ok n m x)(c:x.hi=0):Ok n m (mf x):=by
 unfold mf;split
 ·exact h
 ·rename_i p r b
  have f:x.bg=0:=by
   rcases zu x.bg with h2|h2
   ·exact h2
   ·have:=(h.rR h2).1;rw[b]at this;cases this
  have d:=h.bq p (by rw[b];simp);have a:∀q,q∈r->NI n q:=fun q hq=>h.bq q (by rw[b];exact fF _ hq);obtain⟨q1,q2,e⟩:=d;split
  ·exact⟨h.ol,h.cl,h.al,h.ord,h.reach,h.nv,a,.inl c,h.bg,fun h2=>by simp only at h2;omega,h.last,h.rS⟩
  ·refine⟨h.ol,h.cl,h.al,h.ord,h.reach,h.nv,fun q hq=> ?_,.inl c,h.bg,fun h2=>by simp only at h2;omega,h.last,h.rS⟩;simp only[nF]at hq;rcases hq with rfl|rfl|rfl|hq
   ·exact⟨by simp only;omega,by simp only;omega,.inl rfl⟩
   ·exact⟨by simp only;omega,by simp only;omega,.inl rfl⟩
   ·exact⟨by simp only;omega,by simp only;omega,.inr (by simp only;omega)⟩
   ·exact a q hq
theorem ab5{n m:Nat}{x:SS}(s:ByteArray)(h:Ok n m x):nq s x<=x.bg:=by
 unfold nq;have:=h.rS;split
 ·omega
 ·split<;>omega
theorem Ok.ab6{n m:Nat}{x:SS}(s:ByteArray)(h:Ok n m x)(c:x.hi=0)(f:x.bq=[])(hd:x.done=false):
 Ok n (if x.bg+1=n∧(gU s x).done=false then m-1 else m) (gU s x)∧(x.bg+1=n->(gU s x).done=false->1<=m):=by
 have r:=ab5 s h;have i:=h.bg hd;have j:=h.ol;unfold gU;by_cases b:(bQ s x).bg=x.ord.length
 ·rw[if_pos b];have a:x.bg+1=n:=by simp only[bQ]at b;omega
  unfold iO;by_cases d:(bQ s x).last+1=(bQ s x).ord.length∨(bQ s x).ord.length<=(bQ s x).reach
  ·rw[if_pos d];refine⟨?_,fun _ h2=>by simp at h2⟩;rw[if_neg jS];exact⟨h.ol,by simpa[bQ]using h.al,h.cl,h.ord,h.reach,h.nv,h.bq,.inl c,fun h2=>(by cases h2),fun h2=>by simp only at h2;omega,by simp only[bQ];omega,.inl rfl⟩
  ·rw[if_neg d];have o:x.reach<n:=by simp only[bQ]at d;omega
   have l:1<=m:=by
    rcases h.reach with h2|h2
    ·exact h2.2.1
    ·rcases zu m with h3|h3
     ·subst h3;simp at h2;omega
     ·exact h3
   refine⟨?_,fun _ _=>l⟩;rw[if_pos ⟨a,by simpa[bQ]using hd⟩];refine⟨h.ol,by simpa[bQ]using h.al,h.cl,h.ord, ?_, ?_, ?_,.inl c,fun _=>by simp only;omega,fun h2=>by simp only at h2;omega,by simp only[bQ];omega,.inl rfl⟩
   ·right;simp only[bQ];refine⟨jO, ?_⟩;rcases h.reach with h2|h2
    ·rw[h2.1];simpa using h2.2.2
    ·have e:max 1 (2*x.reach)=2*x.reach:=jO;rw[e]
     have p:2*x.reach*2^(m-1)=x.reach*2^m:=by obtain⟨k,rfl⟩:∃k,m=k+1:=⟨m-1,jO⟩;rw[lH,ON,mz 2 x.reach,Nat.mul_assoc,mz 2]
     rw[p];exact h2.2
   ·simp only[bQ];omega
   ·intro q g;simp only[bQ,f,CA]at g;subst g;exact⟨jS,by simp only;omega,.inl rfl⟩
 ·rw[if_neg b];have a:x.bg+1≠n:=by simp only[bQ]at b;omega
  rw[if_neg jO];refine⟨?_,fun h2=>absurd h2 a⟩;exact⟨h.ol,h.cl,by simpa[bQ]using h.al,h.ord,h.reach,h.nv,h.bq,.inl c,fun _=>by simp only[bQ];omega,fun _=>⟨f,c⟩,by simp only[bQ];omega,.inr (by simp only[bQ];omega)⟩
theorem anQ{n m:Nat}{x:SS}(h:Ok n m x):gC n (cL x)=gC n x:=by
 unfold cL;split
 ·rfl
 ·rename_i p r b;split
  ·rename_i a;have c:=(h.bq p (by rw[b];simp)).2.2.resolve_left a.2;unfold gC kQ;rw[b];simp only[je,HK,a.1,if_true,rQ,if_neg a.2];rw[if_neg jO];omega
  ·rfl
theorem anR{n m:Nat}{x:SS}(h:Ok n m x)(b:0<x.hi)(a:x.laid<x.mid-x.lo):gC n (nn x)+1=gC n x:=by unfold gC kQ nn;simp only;rw[if_neg jO,if_neg jO];omega
theorem anS{n m:Nat}{x:SS}(s:ByteArray)(h:Ok n m x)(C:0<x.hi)(B:¬x.laid<x.mid-x.lo):gC n (aq7 s x)+1=gC n x:=by
 obtain⟨A,z,w,v,u,t,r,q,p,f⟩:=h.merge.resolve_left jO
 have o:kQ x=x.hi-x.lo-(x.one+(x.two-x.mid)):=by unfold kQ;rw[if_neg jO];omega
 have b:∀y:SS,y.bq=x.bq->y.bg=x.bg->y.lo=x.lo->y.mid=x.mid->y.hi=x.hi->y.laid=x.laid->(y.one=x.one+1∧y.two=x.two∨y.one=x.one∧y.two=x.two+1)->gC n (iy y (ix x+1==x.hi))+1=gC n x:=by
  intro y e d l k j i D;unfold gC;rw[o];have g:ix x=x.lo+x.one+x.two-x.mid:=rfl;by_cases c:ix x+1=x.hi
  ·have a:(ix x+1==x.hi)=true:=by simpa using c
   have:kQ (iy y true)=0:=by simp[kQ,iy]
   rw[a,this];simp only[iy,if_true,e,d];omega
  ·have a:(ix x+1==x.hi)=false:=by simpa using c
   rw[a]
   have:kQ (iy y false)=x.hi-x.lo-(y.one+(y.two-x.mid)):=by unfold kQ;simp only[iy,nD,if_false];rw[if_neg jO,l,k,j,i];omega
   rw[this];simp only[iy,nD,if_false,e,d];omega
 unfold aq7;split
 ·exact b _ rfl rfl rfl rfl rfl rfl (.inl ⟨rfl,rfl⟩)
 ·exact b _ rfl rfl rfl rfl rfl rfl (.inr ⟨rfl,rfl⟩)
theorem anT{n m:Nat}{x:SS}(h:Ok n m x)(d:x.hi=0){p:Nat×Nat×Nat}{r:List (Nat×Nat×Nat)}(a:x.bq=p::r)(b:p.2.1=0):gC n (mf x)+1=gC n x:=by
 unfold mf;rw[a];simp only;split
 ·rename_i c;unfold gC kQ;rw[a];simp only[je,HK,d,if_true,rQ,b];rw[B5 c];omega
 ·rename_i c;have e:=h.bq p (by rw[a];simp);have q1:=e.1;unfold gC kQ;rw[a];simp only[je,HK,d,if_true,rQ,b];rw[G3 (m:=p.2.2-p.1) jO,if_neg jO];have g:(p.1+p.2.2)/2-p.1=(p.2.2-p.1)/2:=jO;have f:p.2.2-(p.1+p.2.2)/2=p.2.2-p.1-(p.2.2-p.1)/2:=jO;rw[g,f];omega
def total(n m:Nat)(x:SS):Nat:=gC n x+m*(dr n+n)
theorem anU{n m:Nat}{x:SS}(s:ByteArray)(h:Ok n m x)(c:x.hi=0)(b:x.bq=[])(hd:x.done=false)(a:(gU s x).done=false):
 total n (if x.bg+1=n∧(gU s x).done=false then m-1 else m) (gU s x)+1=total n m x:=by
 have f:=(h.ab6 s c b hd).2;have i:=h.bg hd;have d:=h.ol;have l:gC n x=n-x.bg:=by unfold gC kQ;rw[b,if_pos c];simp
 unfold total;rw[l];by_cases g:x.bg+1=n
 ·have f:=f g a;rw[if_pos ⟨g,a⟩];obtain⟨k,rfl⟩:∃k,m=k+1:=⟨m-1,jO⟩
  have e:gC n (gU s x)=dr n+n:=by
   unfold gU at a⊢;rw[if_pos (by simp only[bQ];omega)]at a⊢;unfold iO at a⊢;split at a
   ·cases a
   ·rename_i j;rw[if_neg j];unfold gC kQ;simp[bQ,b,c,rQ,d]
  rw[e,ON,fW,Nat.one_mul];omega
 ·rw[if_neg jO]
  have e:gC n (gU s x)=n-(x.bg+1):=by unfold gU;rw[if_neg (by simp only[bQ];omega)];unfold gC kQ;simp[bQ,b,c]
  rw[e];omega
theorem Ok.of_steps{n m:Nat}{x:SS}(h:Ok n m x)(k:Nat):Ok n m {x with steps:=k}:=⟨h.ol,h.cl,h.al,h.ord,h.reach,h.nv,h.bq,(h.merge.imp id fun⟨a,b,c,d,e,f,g,i,j,l⟩=>⟨a,b,c,d,e,f,g,i,j,l⟩),h.bg,h.rR,h.last,h.rS⟩
theorem join_top{x:SS}{p:Nat×Nat×Nat}{r:List (Nat×Nat×Nat)}(a:(cL x).bq=p::r)(c:(cL x).hi=0){n m:Nat}(h:Ok n m x):p.2.1=0:=by
 unfold cL at a c;split at a
 ·rename_i b;rw[b]at a;cases a
 ·rename_i q f b;split at a
  ·rename_i d;rw[b]at c;simp only[if_pos d]at c;have:=(h.bq q (by rw[b];simp)).2.2.resolve_left d.2;omega
  ·rename_i d;rw[b]at c;simp only[if_neg d]at c;rw[b]at a;cases a;exact zF fun e=>d ⟨c,e⟩
theorem NK(x:SS):(cL x).done=x.done:=by
 unfold cL;split
 ·rfl
 ·split<;>rfl
theorem Ok.step{n m:Nat}{x:SS}(s:ByteArray)(h:Ok n m x)(hd:x.done=false):
 ∃m',Ok n m' (ed s x)∧((ed s x).done=false->total n m' (ed s x)+1=total n m x):=by
 have c:=h.join;have l:=anQ h;have f:(cL x).done=false:=by rw[NK];exact hd
 unfold ed;have j:∀(m':Nat) (y:SS) (k:Nat),total n m' {y with steps:=k}=total n m' y:=fun m' y k=>rfl
 have b:∀m' y,Ok n m' y->(y.done=false->total n m' y+1=total n m (cL x))->∃m',Ok n m' {y with steps:=x.steps+1}∧(({y with steps:=x.steps+1}:SS).done=false->total n m' {y with steps:=x.steps+1}+1=total n m x):=fun m' y d i=>⟨m',d.of_steps _,fun g=>by rw[j,i g];unfold total;rw[l]⟩
 unfold nu;by_cases a:0<(cL x).hi
 ·rw[if_pos a];by_cases d:(cL x).laid<(cL x).mid-(cL x).lo
  ·rw[if_pos d];exact b m _ (c.lay a d) fun _=>by unfold total;rw[<-anR c a d];omega
  ·rw[if_neg d];exact b m _ (c.put s a d) fun _=>by unfold total;rw[<-anS s c a d];omega
 ·rw[if_neg a];have a:(cL x).hi=0:=jO;split
  ·rename_i e;exact b _ _ (c.ab6 s a e f).1 fun g=>anU s c a e f g
  ·rename_i e
   obtain⟨p,r,e⟩:∃p r,(cL x).bq=p::r:=by
    cases i:(cL x).bq with
    |nil=>exact absurd i e
    |cons p r=>exact⟨p,r,rfl⟩
   exact b m _ (c.anP a) fun _=>by unfold total;rw[<-anT c a e (join_top e a h)];omega
end Sp
end Go.Proofs.YtcehhgppfahbkaaGreatDoor
namespace Go.Proofs.YtcehhgppfahbkaaGreatDoor
open Go.RowKit
namespace Sp
theorem py(k l:Nat×Nat):iw k l=true↔l.1<k.1∨l.1=k.1∧l.2<k.2:=by unfold iw;rw[mr,cD,decide_eq_true_iff,decide_eq_true_iff,beq_iff_eq];constructor<;>intro h<;>omega
theorem NL(k l:Nat×Nat):iw k l=false↔iw l k=true∨k=l:=by rw[ary,ne_eq,py,py,qF];omega
def Rk(k:Nat->Nat×Nat)(a b:Nat):Prop:=iw (k b) (k a)=true∨k a=k b∧a<b
theorem ny(s:ByteArray):∀a b x,cY s (a+b) x=cY s b (cY s a x)
 |0,b,x=>by rw[fy];rfl
 |a+1,b,x=>by rw[Nat.add_right_comm];exact ny s a b (ed s x)
theorem NM{x:SS}(h:0<x.hi):cL x=x:=by
 unfold cL;split
 ·rfl
 ·rw[if_neg jO]
theorem anV(s:ByteArray)(x:SS)(h:0<(cL x).hi)(a:(cL x).steps=x.steps):ed s x=ed s (cL x):=by unfold ed;rw[NM h,a]
theorem anW(s:ByteArray)(c:Nat)(x:SS)(h:0<(cL x).hi)(a:(cL x).steps=x.steps):cY s (c+1) x=cY s (c+1) (cL x):=by show cY s c (ed s x)=cY s c (ed s (cL x));rw[anV s x h a]
theorem tX(pre:List Nat)(v:Nat)(post:List Nat):(pre++v::post).getD pre.length 0=v:=by simp[aC]
theorem G4(pre:List Nat)(v u:Nat)(post:List Nat):(pre++v::post).set pre.length u=pre++u::post:=by rw[List.set_append_right (h:=ai _),j8];rfl
theorem ab7(s:ByteArray):∀(A D E:List Nat) (x:SS) (pre B post:List Nat),x.ord=pre++(D++A)++B++post->x.lo=pre.length->x.mid=x.lo+D.length+A.length->0<x.hi->x.bJ=D++E->x.laid=D.length->A.length<=E.length->
 cY s A.length x={x with bJ:=D++A++E.drop A.length,laid:=D.length+A.length,steps:=x.steps+A.length}
 |[],D,E,x,pre,B,post,_,_,_,_,d,b,_=>by simp only[cY,fH,cz,dx,gX];rw[<-d,<-b]
 |a::A,D,[],x,pre,B,post,_,_,_,_,_,_,g=>by simp at g
 |a::A,D,e::E,x,pre,B,post,i,h,k,f,d,b,g=>by
  simp only[ct]at*
  have c:ed s x={x with bJ:=(D++[a])++E,laid:=x.laid+1,steps:=x.steps+1}:=by
   have j:x.ord.getD (x.lo+x.laid) 0=a:=by rw[i,h,b,show pre++(D++a::A)++B++post=(pre++D)++a::(A++B++post) by simp,<-aG];exact tX _ _ _
   unfold ed;rw[NM f];unfold nu;rw[if_pos f,if_pos jO];unfold nn;rw[j,d,b,G4];simp
  show cY s A.length (ed s x)=_;rw[c];rw[ab7 s A (D++[a]) E {x with bJ:=(D++[a])++E,laid:=x.laid+1,steps:=x.steps+1} pre B post (by simp[i]) h (by simp only[aG,ct,fH];omega) f rfl (by simp[b]) jO];simp[iA,xt,OP]
theorem NN(s:ByteArray)(k:Nat->Nat×Nat):∀(c:Nat) (x:SS) (pre P J B post D A E:List Nat),A.length+B.length=c->0<c->(∀a,k a=fS s x.reach x.cls a)->
 x.ord=pre++P++J++B++post->x.bJ=D++A++E->J.length=A.length->x.lo=pre.length->x.hi=x.lo+P.length+J.length+B.length->x.two+B.length=x.hi->x.one=D.length->x.laid=D.length+A.length->x.mid=x.lo+x.laid->x.mid<=x.two->P.length=x.one+(x.two-x.mid)->0<x.laid->
 (P++A).Pairwise (Rk k)->(P++B).Pairwise (Rk k)->(∀a∈A,∀b∈B,k a=k b->a<b)->
 ∃Q one two,Q.Perm (A++B)∧(P++Q).Pairwise (Rk k)∧cY s c x={x with ord:=pre++P++Q++post,lo:=0,mid:=0,hi:=0,one:=one,two:=two,steps:=x.steps+c}
 |0,_,_,_,_,_,_,_,_,_,_,h0,_,_,_,_,_,_,_,_,_,_,_,_,_,_,_,_=>absurd h0 (Nat.lt_irrefl 0)
 |c+1,x,pre,P,J,B,post,D,A,E,hc,_,W,Y,h2,X,h4,F,R,h7,O,h9,u1,u5,U,w,r,cr=>by
  have y:ix x=(pre++P).length:=by unfold ix;rw[aG];omega
  have K:0<x.hi:=jO
  have l:ed s x={aq7 s x with steps:=x.steps+1}:=by unfold ed;rw[NM K];unfold nu;rw[if_pos K,if_neg jO]
  have ga:∀a g,A=a::g->x.bJ.getD x.one 0=a:=by intro a g e;rw[h2,h7,e,show D++a::g++E=D++a::(g++E) by simp];exact tX _ _ _
  have gb:∀b f,B=b::f->x.ord.getD x.two 0=b:=by
   intro b f e;have:x.two=(pre++P++J).length:=by simp only[aG];omega
   rw[Y,e,this,show pre++P++J++b::f++post=(pre++P++J)++b::(f++post) by simp];exact tX _ _ _
  have z:(ix x+1==x.hi)=decide (c=0):=by rw[y,apO,beq_iff_eq,decide_eq_true_iff,aG];omega
  have first:∀a g,A=a::g->jJ s x=true->(∀b∈B,Rk k a b)->∃Q one two,Q.Perm (A++B)∧(P++Q).Pairwise (Rk k)∧cY s (c+1) x={x with ord:=pre++P++Q++post,lo:=0,mid:=0,hi:=0,one:=one,two:=two,steps:=x.steps+(c+1)}:=by
   intro a g eA ht C
   obtain⟨j,d,eJ⟩:∃j d,J=j::d:=by
    cases J with
    |nil=>rw[eA]at X;simp at X
    |cons j d=>exact⟨j,d,rfl⟩
   subst eA eJ;simp only[ct]at*
   have iD:x.ord.set (ix x) a=pre++(P++[a])++d++B++post:=by rw[y,Y,show pre++P++j::d++B++post=(pre++P)++j::(d++B++post) by simp,G4];simp
   have m:aq7 s x=iy {x with ord:=pre++(P++[a])++d++B++post,one:=x.one+1} (decide (c=0)):=by unfold aq7;rw[if_pos ht,ga a g rfl,iD,z]
   have t:((P++[a])++g).Pairwise (Rk k):=by simpa using w
   have o:((P++[a])++B).Pairwise (Rk k):=by
    rw[qD]at w r⊢;refine⟨?_,r.2.1,fun p hp b hb=> ?_⟩
    ·rw[qD];exact⟨r.1,jS,fun p hp q I=>w.2.2 p hp q (by simp at I;simp[I])⟩
    ·rw[qB]at hp;rcases hp with hp|hp
     ·exact r.2.2 p hp b hb
     ·simp at hp;subst hp;exact C b hb
   show∃Q one two,_∧_∧cY s c (ed s x)=_;rw[l,m];cases c with
   |zero=>have e1:g=[]:=qE jO;have e2:B=[]:=qE jO;subst e1 e2;have e3:d=[]:=qE (by simpa using X);subst e3;refine⟨[a],x.one+1,x.two,jS,by simpa using t, ?_⟩;simp[cY,iy]
   |succ c=>rw[show decide (c+1=0)=false by simp];obtain⟨Q,one,two,q1,q2,Z⟩:=NN s k (c+1) {x with ord:=pre++(P++[a])++d++B++post,one:=x.one+1,steps:=x.steps+1} pre (P++[a]) d B post (D++[a]) g E jO jO W rfl (by simp[h2]) jO h4 (by simp only[aG,ct,fH];omega) R (by simp[h7]) (by simp only[aG,ct,fH];omega) h9 u1 (by simp only[aG,ct,fH];omega) U t o (fun u hu=>cr u (fF _ hu));refine⟨a::Q,one,two,by simpa using q1.cons a,by simpa using q2, ?_⟩;show cY s (c+1) _=_;rw[show({iy {x with ord:=pre++(P++[a])++d++B++post,one:=x.one+1} false with steps:=x.steps+1}:SS)={x with ord:=pre++(P++[a])++d++B++post,one:=x.one+1,steps:=x.steps+1}from rfl,Z];simp[iA,xt,OP]
  have h:∀b f,B=b::f->jJ s x=false->(∀a∈A,Rk k b a)->∃Q one two,Q.Perm (A++B)∧(P++Q).Pairwise (Rk k)∧cY s (c+1) x={x with ord:=pre++P++Q++post,lo:=0,mid:=0,hi:=0,one:=one,two:=two,steps:=x.steps+(c+1)}:=by
   intro b f eB ht C;subst eB;simp only[ct]at*
   obtain⟨d,eJ,u0⟩:∃d,x.ord.set (ix x) b=pre++(P++[b])++d++f++post∧d.length=J.length:=by
    cases J with
    |nil=>exact⟨[],by rw[y,Y,show pre++P++[]++b::f++post=(pre++P)++b::(f++post) by simp,G4];simp,rfl⟩
    |cons j d=>exact⟨d++[b],by rw[y,Y,show pre++P++j::d++b::f++post=(pre++P)++j::(d++b::f++post) by simp,G4];simp,jS⟩
   have m:aq7 s x=iy {x with ord:=pre++(P++[b])++d++f++post,two:=x.two+1} (decide (c=0)):=by unfold aq7;rw[if_neg (by simp[ht]),gb b f rfl,eJ,z]
   have o:((P++[b])++f).Pairwise (Rk k):=by simpa using r
   have t:((P++[b])++A).Pairwise (Rk k):=by
    rw[qD]at w r⊢;refine⟨?_,w.2.1,fun p hp a ha=> ?_⟩
    ·rw[qD];exact⟨w.1,jS,fun p hp q I=>r.2.2 p hp q (by simp at I;simp[I])⟩
    ·rw[qB]at hp;rcases hp with hp|hp
     ·exact w.2.2 p hp a ha
     ·simp at hp;subst hp;exact C a ha
   show∃Q one two,_∧_∧cY s c (ed s x)=_;rw[l,m];cases c with
   |zero=>have e1:A=[]:=qE jO;have e2:f=[]:=qE jO;subst e1 e2;have e3:d=[]:=qE (by rw[u0];simpa using X);subst e3;refine⟨[b],x.one,x.two+1,jS,by simpa using o, ?_⟩;simp[cY,iy]
   |succ c=>rw[show decide (c+1=0)=false by simp];obtain⟨Q,one,two,q1,q2,Z⟩:=NN s k (c+1) {x with ord:=pre++(P++[b])++d++f++post,two:=x.two+1,steps:=x.steps+1} pre (P++[b]) d f post D A E jO jO W rfl h2 jO h4 (by simp only[aG,ct,fH];omega) (by simp only;omega) h7 O h9 (by simp only;omega) (by simp only[aG,ct,fH];omega) U t o (fun u hu v hv=>cr u hu v (fF _ hv));refine⟨b::Q,one,two,((q1.cons b).trans List.perm_middle.symm),by simpa using q2, ?_⟩;show cY s (c+1) _=_;rw[show({iy {x with ord:=pre++(P++[b])++d++f++post,two:=x.two+1} false with steps:=x.steps+1}:SS)={x with ord:=pre++(P++[b])++d++f++post,two:=x.two+1,steps:=x.steps+1}from rfl,Z];simp[iA,xt,OP]
  cases n:B with
  |nil=>
   cases i:A with
   |nil=>rw[i,n]at hc;simp at hc
   |cons a g=>
    rw[<-i,<-n];refine first a g i ?_ (by rw[n];simp)
    unfold jJ;rw[show(x.two==x.hi)=true by rw[n]at R;simpa using R];rfl
  |cons b f=>
   have T:(x.two==x.hi)=false:=by rw[n]at R;simp at R⊢;omega
   rw[<-n];cases i:A with
   |nil=>rw[<-i];refine h b f n ?_ (by rw[i];simp);unfold jJ;rw[T,Co];rw[show decide (x.one<x.laid)=false by rw[i]at O;simp at O⊢;omega];rfl
   |cons a g=>
    rw[<-i];have N:rP s x (x.bJ.getD x.one 0) (x.ord.getD x.two 0)=iw (k a) (k b):=by unfold rP;rw[ga a g i,gb b f n,W,W]
    have G:jJ s x= !iw (k a) (k b):=by unfold jJ;rw[T,Co,show decide (x.one<x.laid)=true by rw[i]at O;simp at O⊢;omega,oA,N]
    rw[qD]at w r;have sB:=r.2.1;have sA:=w.2.1;rw[n,r9]at sB;rw[i,r9]at sA;cases hg:iw (k a) (k b)with
    |false=>
     refine first a g i (by rw[G,hg];rfl) fun v hv=> ?_
     have hx:=cr a (by rw[i];simp) v hv;rw[n,nF]at hv;rcases hv with rfl|hv
     ·rw[NL]at hg;rcases hg with hg|hg
      ·exact .inl hg
      ·exact .inr ⟨hg,hx hg⟩
     ·rw[NL,py,qF]at hg;have F:=sB.1 v hv;unfold Rk at F⊢;rw[py,qF]at F⊢;by_cases L:k a=k v
      ·rw[qF]at L;exact .inr ⟨L,hx (Prod.ext L.1 L.2)⟩
      ·rw[qF]at L;left;omega
    |true=>
     refine h b f n (by rw[G,hg];rfl) fun v hv=> ?_;rw[i,nF]at hv;rcases hv with rfl|hv
     ·exact .inl hg
     ·have F:=sA.1 v hv;unfold Rk at F⊢;rw[py]at hg;rw[py,qF]at F⊢;left;omega
theorem anX{R:Nat->Nat->Prop}{a d b c:List Nat}(h:(a++b).Pairwise R)(i:d.Perm a)(g:c.Perm b):∀u∈d,∀v∈c,R u v:=by rw[qD]at h;exact fun u f v e=>h.2.2 u (i.mem_iff.1 f) v (g.mem_iff.1 e)
theorem NO(s:ByteArray)(k:Nat->Nat×Nat):∀(f m:Nat),m<=f->∀(x:SS) (pre d post:List Nat) (c:List (Nat×Nat×Nat)),d.length=m->(∀a,k a=fS s x.reach x.cls a)->x.ord=pre++d++post->x.bJ.length=x.ord.length->x.bq=(pre.length,0,pre.length+m)::c->x.hi=0->
 d.Pairwise (fun a b=>k a=k b->a<b)->
 ∃h i lo mid laid one two,h.Perm d∧h.Pairwise (Rk k)∧i.length=x.bJ.length∧cY s (dr m) x={x with ord:=pre++h++post,bJ:=i,bq:=c,lo:=lo,mid:=mid,hi:=0,laid:=laid,one:=one,two:=two,steps:=x.steps+dr m}
 |f,m,T,x,pre,d,post,c,P,R,D,I,C,h4,j=>by
  have hj:cL x=x:=by unfold cL;rw[C];simp
  by_cases hm:m<2
  ·rw[B5 hm];refine⟨d,x.bJ,x.lo,x.mid,x.laid,x.one,x.two,uz _, ?_,rfl, ?_⟩
   ·match d,P with
    |[],_=>exact OG
    |[a],_=>exact adr _ _
    |a::b::r,P=>simp at P;omega
   ·show cY s 0 (ed s x)=_;show ed s x=_;unfold ed;rw[hj];unfold nu;rw[if_neg jO,C];simp only;unfold mf;rw[C];simp only;rw[if_pos jO,<-D,<-h4]
  ·match f,T with
   |0,T=>omega
   |f+1,T=>
    have u1:1<=m/2:=jO;rw[G3 jO];obtain⟨A,B,hA,hB,z⟩:∃A B,A.length=m/2∧B.length=m-m/2∧d=A++B:=⟨d.take (m/2),d.drop (m/2),by rw[cB];omega,by rw[fp];omega,(List.take_append_drop _ _).symm⟩;subst z;have w:=j;rw[qD]at j
    have O:ed s x={x with bq:=(pre.length,0,pre.length+m/2)::((pre++A).length,0,(pre++A).length+(m-m/2))::(pre.length,pre.length+m/2,pre.length+m)::c,steps:=x.steps+1}:=by unfold ed;rw[hj];unfold nu;rw[if_neg jO,C];simp only;unfold mf;rw[C];simp only;rw[if_neg jO,show(pre.length+(pre.length+m))/2=pre.length+m/2 by omega,aG,hA,show pre.length+m/2+(m-m/2)=pre.length+m by omega]
    rw[show 1+dr (m/2)+dr (m-m/2)+m/2+m=1+(dr (m/2)+(dr (m-m/2)+(m/2+m))) by omega,ny];show∃h i lo mid laid one two,_∧_∧_∧cY s _ (ed s x)=_;rw[O,ny];obtain⟨g,E,L,v,n,u,q,F,a2,a3,a4⟩:=NO s k f (m/2) jO {x with bq:=(pre.length,0,pre.length+m/2)::((pre++A).length,0,(pre++A).length+(m-m/2))::(pre.length,pre.length+m/2,pre.length+m)::c,steps:=x.steps+1} pre A (B++post) _ hA R (by simp[D]) I rfl h4 j.1;rw[a4,ny]
    obtain⟨G,e,u0,Z,N,Y,X,U,b2,b3,b4⟩:=NO s k f (m-m/2) jO {x with ord:=pre++g++(B++post),bJ:=E,bq:=((pre++A).length,0,(pre++A).length+(m-m/2))::(pre.length,pre.length+m/2,pre.length+m)::c,lo:=L,mid:=v,hi:=0,laid:=n,one:=u,two:=q,steps:=x.steps+1+dr (m/2)} (pre++g) B post ((pre.length,pre.length+m/2,pre.length+m)::c) hB R jS (by
     have:=F.length_eq
     simp only[aG]at*;rw[a3,I,D];simp only[aG];omega) (by simp only[aG,F.length_eq]) rfl j.2.1
    simp only[bW]at b4⊢;rw[b4];have lA:=F.length_eq;have lB:=U.length_eq
    have l:e.length=(pre++(g++G++post)).length:=by rw[b3];simp only[a3,I,D,aG];omega
    rw[show m/2+m=(m/2-1)+1+m by omega,ny]
    have o:∀(y:SS),y.hi=0->y.bq=(pre.length,pre.length+m/2,pre.length+m)::c->cL y={y with lo:=pre.length,mid:=pre.length+m/2,hi:=pre.length+m,bq:=c,laid:=0,one:=0,two:=pre.length+m/2}:=by intro y e1 e2;unfold cL;rw[e2];simp only;rw[if_pos ⟨e1,jO⟩]
    rw[anW s (m/2-1) _ (by rw[o _ rfl rfl];simp only;omega) (by rw[o _ rfl rfl])];rw[o _ rfl rfl];rw[show m/2-1+1=g.length by omega];rw[ab7 s g [] e {x with ord:=pre++(g++(G++post)),bJ:=e,bq:=c,lo:=pre.length,mid:=pre.length+m/2,hi:=pre.length+m,laid:=0,one:=0,two:=pre.length+m/2,steps:=x.steps+1+dr (m/2)+dr (m-m/2)} pre G post jS rfl (by simp only[fH];omega) (by simp only;omega) rfl rfl (by rw[l];simp only[aG];omega)];obtain⟨Q,t,p,c1,c2,c3⟩:=NN s k m {x with ord:=pre++(g++(G++post)),bJ:=[]++g++e.drop g.length,bq:=c,lo:=pre.length,mid:=pre.length+m/2,hi:=pre.length+m,laid:=[].length+g.length,one:=0,two:=pre.length+m/2,steps:=x.steps+1+dr (m/2)+dr (m-m/2)+g.length} pre [] g G post [] g (e.drop g.length) jO jO R jS rfl rfl rfl (by simp only[fH];omega) (by simp only;omega) rfl jS (by simp only[fH];omega) (by simp only;omega) jS (by simp only[fH];omega) (by simpa using a2) (by simpa using b2) (anX w F U);rw[c3];refine⟨Q,g++e.drop g.length,0,0,g.length,t,p,c1.trans (F.append U),by simpa using c2, ?_, ?_⟩
    ·rw[aG,fp,l,I,D];simp only[aG];omega
    ·rw[show x.steps+1+dr (m/2)+dr (m-m/2)+g.length+m=x.steps+(1+(dr (m/2)+(dr (m-m/2)+(g.length+m)))) by omega];simp
end Sp
end Go.Proofs.YtcehhgppfahbkaaGreatDoor
