import Derived.Test.YtdagfcflbphoiaaGreatDoorMai
import Derived.Test.YtdagfcflbphoiaaGreatDoorMag
import Derived.Test.YtdagfcflbphoiaaGreatDoorMah
open Int renaming natCast_nonneg→aa, lt_irrefl→bH, reduceBEq→cd, reduceBNe→cj, reduceLT→cr, reduceLE→ct, reduceEq→cz, reduceNe→cA, reduceAdd→cB, reduceSub→cC, reduceMul→cD, reduceNeg→cE, toNat_of_nonneg→j6, toNat_natCast→mG, toNat→Cy
open Nat renaming reduceLT→ae, reduceAdd→ah, le_refl→av, le_succ→cX, zero_le→dx, zero_add→iO, sub_self→nE, add_assoc→Hj
open Go.Proofs.Tryz renaming prog→ai, underlying23→am2
open List renaming getD_eq_getElem?_getD→aF, getElem?_eq_getElem→aM, length_append→aY, replicate→bI, range→bL, append_assoc→cI, length_take→cJ, getElem_mem→cN, length_map→dE, length_cons→dI, drop_zero→eJ, map_append→eK, length_replicate→jJ, getElem?_map→j4, map_cons→mF, drop_length→oL, getElem?_append_left→pO, range_succ→pQ, getElem?_eq_none→qI, map_congr_left→r8, getElem?_append_right→uC, flatMap_cons→uG, map_nil→Cw, mem_range→OG, replicate_succ'→amo
open Bool renaming and_eq_true→cb, not_true→gM, not_false→iP, and_self→zN, false_ne_true→Ol, xor_false→OH, xor_true→OI
open Go.Value renaming agg→Hp, tuple→amR
open Go.IntWalk renaming u64_in→amX
set_option linter.unusedVariables false
set_option linter.unusedSimpArgs false
namespace Go.Proofs.YtdagfcflbphoiaaGreatDoor
open Go.RowKit Ev Tb Cn
noncomputable def rowsOf (xs:List Int) (z:Int):List (List Nat):=(bA xs z.toNat 4).map bu
noncomputable def cR (xs:List Int) (z:Int):List Nat:=fA (iG xs) (bA xs z.toNat 3)
noncomputable def oD (xs:List Int) (z:Int):List Bool:=lP (rowsOf xs z).length (cR xs z)++((rowsOf xs z).flatMap iI++jG (rowsOf xs z) (cR xs z) 0 (bu xs))
structure ak8 (xs:List Int) (z:Int):Prop where
 rl:(rowsOf xs z).length=j1 (xs.length:Int)
 r2:2<=(rowsOf xs z).length
 r6:(rowsOf xs z).length<=6
 p0:0<(cR xs z).length
 pl:(cR xs z).length=cW xs.length
 pm:∀p∈cR xs z,p<(rowsOf xs z).length
 oE:∀r∈bA xs z.toNat 4,GoodR z.toNat r
 wh:∀r∈rowsOf xs z,Wh r
 ie:iN (bu xs)=xs
 sy:∀x∈bu xs,∀r∈rowsOf xs z,x<r.length
 at_:∀i,i<(bu xs).length->i/50<(cR xs z).length
theorem xG{xs:List Int}{z:Int}(m:iJ xs z)(hl:xs.length<=1000000):ak8 xs z:=by
 obtain⟨h0,hz,bP,_⟩:=m
 have F4:dM (z.toNat:Int) xs=true:=by rw[j6 (by omega)];exact bP
 have gd:=ak5 hl F4 (s:=z.toNat) (by omega) (by omega) 3
 have n2:=BM (xs.length:Int)
 have rl:(rowsOf xs z).length=j1 (xs.length:Int):=by unfold rowsOf;rw[dE,zn]
 have ie:iN (bu xs)=xs:=aaq fun x hx=>(xo.1 bP x hx).1
 have ll:(bu xs).length=xs.length:=by unfold bu;rw[dE]
 have pl:(cR xs z).length=cW xs.length:=by unfold cR;rw[um,MS]
 refine⟨rl,by omega,by omega,by rw[pl];unfold cW;omega,pl,fun p hp=> ?_,gd,fun r hr=> ?_,ie,fun x hx r hr=> ?_,fun i hi=>by rw[pl];unfold cW;omega⟩
 ·unfold cR fA at hp
  obtain⟨g,_,rfl⟩:=List.mem_map.1 hp
  have:=Y6 g (T:=bA xs z.toNat 3) (by rw[zn];omega)
  rw[zn]at this
  omega
 ·unfold rowsOf at hr
  obtain⟨q,hq,rfl⟩:=List.mem_map.1 hr
  exact(gd q hq).wh
 ·unfold rowsOf at hr
  obtain⟨q,hq,rfl⟩:=List.mem_map.1 hr
  rw[(gd q hq).len]
  unfold bu at hx
  obtain⟨y,hy,rfl⟩:=List.mem_map.1 hx
  have:=xo.1 bP y hy
  omega
theorem Cg:∀{rows:List (List Nat)},(∀r∈rows,(iI r).length<=11000)->(rows.flatMap iI).length<=11000*rows.length
 |[],_=>by simp
 |r::rs,h=>by
  have h1:=h r (by simp)
  have h2:=Cg (rows:=rs) fun q hq=>h q (by simp[hq])
  rw[uG,aY,dI]
  omega
theorem zD{ln:List Nat}(hi:∀x∈ln,x<=20)(h0:0<ln.length)(hl:ln.length<=258):(iI ln).length<=11000:=by
 unfold iI
 rw[aY,dL]
 have:=NG ln _ (aar h0 hi) hi
 omega
section
variable {lf d lo n w:Nat} {h:H} {sv:Value} {l:List Bool}
theorem dV.apart(x:dV h lo n w sv l){b:Nat}{B:AB}(hb:h.get b=some B)(h1:B.elem≠63)(h2:B.elem≠5):b≠w∧¬aD sv b:=by
 refine⟨fun e=> ?_,fun q=> ?_⟩
 ·subst e
  rw[ep.get x]at hb
  cases hb
  exact h1 rfl
 ·obtain⟨B',q3,q4⟩:=(ep.own x).elem q
  rw[hb]at q3;cases q3
  exact h2 q4
set_option maxHeartbeats 400000 in
theorem ak9(aA:3000000<=lf)(g:Gd h n)(x:dV h lo n w sv l)(ND:0<lo){v:Value}{xs:List Int}(hR:Row h n 3 .i64 v xs)(hl:xs.length<=1000)(iB:l.length<=1000)(z:Int)(hd:600<=d):
 aj (fun c=>c=w∨aD sv c) n (au ai gt lf (d+8) 11 #[.pointer (some ⟨w,0,none⟩),v,.int .i64 z]) h n fun v' h' n'=>
  (iJ xs z∧v'= .int .i64 0∧∃dg,dV h' lo n' w dg (l++oD xs z)∧∀c,c<n->aD dg c->aD sv c)∨(¬iJ xs z∧v'= .int .i64 1∧dV h' lo n' w sv l):=by
 rw[aQ (fun _=>Sc) rfl]
 refine aj.aP ?_
 unfold Ej
 have bg:=hR
 obtain⟨a,c,rfl⟩:=hR.len
 have wlt:=ep.lt x
 try simp(disch:=first|omega|assumption|exact aa _) only[ah,ae,RZ]
 refine bh aW (aap (lf:=lf) (d:=d+6) aA _ xs z g bg (by omega) (by omega)) (av _) (fun _ _ h=>h.elim) fun v1 h1 n1 bQ cM nA=> ?_
 have x1:=x.aB bQ fun b hb _=>cM b hb id
 have dH:=bg.aB bQ fun b hb=>cM b hb id
 rcases nA with ⟨hm,cx,cy,rfl,fU,mC⟩|⟨hm,rfl⟩
 rotate_left
 ·have z1:((1:Int) !=0)=true:=rfl
  try simp(disch:=first|omega|assumption|exact aa _) only[ah,ae,RZ,fk,ext1]
  refine kU qk _ ?_
  refine xm (sz:=2) trivial (vs:=[.slice none 0 0,.slice none 0 0]) rfl rfl rfl (get_eq _ _ _) (by omega) (.inl (by omega)) _ fun h2 g2 k2=> ?_
  try simp(disch:=first|omega|assumption|exact aa _) only[ah,ae,RZ,z1]
  refine .inr ⟨hm,x1.aB (by omega) fun b hb _=> ?_⟩
  rw[k2 b (by omega),aK _ _ (by omega)]
 have ok:=xG hm (by omega)
 have zz:((0:Int) !=0)=false:=rfl
 have o1:one cx=true:=by obtain⟨_,_,rfl⟩:=fU.len;rfl
 have o2:one cy=true:=by obtain⟨_,_,rfl⟩:=mC.len;rfl
 try simp(disch:=first|omega|assumption|exact aa _) only[ah,ae,RZ,fk,ext1]
 refine kU qk _ ?_
 refine xm (sz:=2) trivial (vs:=[cx,cy]) rfl rfl (by simp[o1,o2]) (get_eq _ _ _) (by omega) (.inl (by omega)) _ fun h2 g2 k2=> ?_
 have oF:∀b,b<n1->h2.get b=h1.get b:=fun b hb=>by rw[k2 b (by omega),aK _ _ (by omega)]
 have x2:=x1.aB (cX n1) fun b hb _=>oF b hb
 have iC:=dH.aB (cX n1) oF
 have bN:=fU.aB (cX n1) oF
 have dS:=mC.aB (cX n1) oF
 have tl:(bA xs z.toNat 4).length=(rowsOf xs z).length:=by unfold rowsOf;rw[dE]
 have NW:Row h2 (n1+1) 3 .i64 cy (iN (cR xs z)):=dS
 have r2:=ok.r2
 obtain⟨tb,iL,iM,to,DK,rfl,tg,_,_⟩:=bN.at (by omega)
 have gJ:n1<n1+1:=by omega
 try simp(disch:=first|omega|assumption|exact aa _) only[ah,ae,RZ,zz,g2]
 rw[tl]
 refine bh aW (akU (lf:=lf) (d:=d+2) x2 NW (fun b hb=>by
  obtain⟨B,q1,q2⟩:=NW.elem hb
  exact x2.apart q1 (by rw[q2];decide) (by rw[q2];decide)) ok.r2 ok.r6 ok.p0 (by rw[ok.pl];unfold cW;omega) ok.pm (by omega) aA) (by omega) (fun b hb hq=> ?_) fun v3 h3 n3 fy dU ny=> ?_
 ·rcases hq with rfl|hq
  ·exact .inr (.inl rfl)
  ·exact .inr (.inr hq)
 obtain⟨rfl,s3,x3,pH⟩:=ny
 have G6:∀b,aD sv b->b<n:=fun b hb=>((ep.own x).lt hb).2
 have g3:h3.get n1=some ⟨67,true,[.slice (some ⟨tb,iL,none⟩) (rowsOf xs z).length iM,cy]⟩:=by
  rw[dU n1 gJ fun q=>by
   rcases q with q|q
   ·omega
   ·have:=G6 n1 q;omega,g2,tl]
 have mW:RR h3 n3 22 3 (.slice (some ⟨tb,iL,none⟩) (bA xs z.toNat 4).length iM) (bA xs z.toNat 4):=bN.nh fy fun b B hb hB he=>dU b hb fun q=>by
  obtain⟨q1,q2⟩:=x2.apart hB (by rcases he with he|he<;>(rw[he];decide)) (by rcases he with he|he<;>(rw[he];decide))
  rcases q with q|q
  ·exact q1 q
  ·exact q2 q
 have aat:∀{v:Value} {ys:List Int},Row h2 (n1+1) 3 .i64 v ys->Row h3 n3 3 .i64 v ys:=fun r=>r.fI fy fun b hb=>dU b (r.lt hb) fun q=>by
  obtain⟨B,e1,e2⟩:=r.elem hb
  obtain⟨q1,q2⟩:=x2.apart e1 (by rw[e2];decide) (by rw[e2];decide)
  rcases q with q|q
  ·exact q1 q
  ·exact q2 q
 have uv:=aat iC
 have NX:=aat NW
 have aau:¬aD s3 n1:=fun q=>by have:=G6 _ (pH n1 gJ q);omega
 have zr:n1<n3:=by omega
 have p6:(lP (rowsOf xs z).length (cR xs z)).length<=300000:=by
  rw[Cb]
  have:=Ca (l:=fh eS (cR xs z)) (xD _ _ uy fun p hp=>by have:=ok.pm p hp;have:=ok.r6;omega)
  rw[ux,ok.pl]at this
  unfold cW at this
  omega
 try simp(disch:=first|omega|assumption|exact aa _) only[ah,ae,RZ,g3]
 rw[<-tl]
 refine ak6 (lf:=lf) (d:=d) (lo:=lo) (w:=w) (m1:=n3) (n0:=n) (si0:=s3) (W:=fun c=>c=w∨aD sv c) (FR:=fun h'=>∀b,b<n3->b≠w->¬aD s3 b->h'.get b=h3.get b) (T:=bA xs z.toNat 4) (s:=z.toNat) aA (.inl rfl) (by omega) (fun c hc=> ?_) (by omega) (fun h h' hF hk b hb bE mT=>(hk b hb bE mT).trans (hF b hb bE mT)) (fun h' n' gX hF=>mW.nh gX fun b B hb hB he=> ?_) ok.oE (by have:=hm.2.1;omega) (by have:=hm.2.1;omega) (by rw[tl];exact ok.r6) (bA xs z.toNat 4).length 0 lf _ h3 n3 s3 _ [] (by omega) (by have:=ok.r6;omega) (by omega) (av _) x3 (fun c _ q=>q) (fun b _ _ _=>rfl) (Own.nil _ _ _ _) (fun b hb=>hb.not_nil.elim) ⟨rfl,fun j hj=>absurd hj (by simp)⟩ ?_ ?_
 ·by_cases rW:c<n
  ·exact .inr (.inr (pH c (by omega) hc))
  ·exact .inl (by omega)
 ·obtain⟨q1,q2⟩:=x3.apart hB (by rcases he with he|he<;>(rw[he];decide)) (by rcases he with he|he<;>(rw[he];decide))
  exact hF b hb q1 q2
 ·rw[aY]
  have:=ok.r6
  omega
 intro h4 n4 s4 g4 NY a1 a2 a3 a4 a5 a6 a7
 have ll:(bu xs).length=xs.length:=by unfold bu;rw[dE]
 (try unfold Ei);(try dsimp only)
 try simp(disch:=first|omega|assumption|exact aa _) only[ah,ae,RZ]
 have zB:NY.length=(rowsOf xs z).length:=a7.1
 rcases a5 with ⟨_,e0⟩|⟨gb,rfl,gg,gb1,gb2⟩
 ·rw[e0]at zB
  simp at zB
  omega
 have hRF:∀h' n',n4<=n'->(∀b,b<n4->b≠w->¬aD s4 b->h'.get b=h4.get b)->∀{v:Value} {ys:List Int},Row h3 n3 3 .i64 v ys->Row h' n' 3 .i64 v ys:=fun h' n' gX hF v ys r=>r.fI (by omega) fun b hb=>by
  obtain⟨B,e1,e2⟩:=r.elem hb
  obtain⟨q1,q2⟩:=x3.apart e1 (by rw[e2];decide) (by rw[e2];decide)
  have lb:=r.lt hb
  rw[hF b (by omega) q1 fun q=>q2 (a3 b lb q),a4 b lb q1 q2]
 have wb:=ak7 (lf:=lf) (d:=d+4) (lo:=lo) (w:=w) (m1:=n4) (n0:=n) (z:=n1) (gb:=gb) (gcap:=bc+NY.length) (si0:=s4) (xv:= .slice a xs.length c) (pv:=cy) (tv:= .slice (some ⟨tb,iL,none⟩) (rowsOf xs z).length iM) (W:=fun c=>c=w∨aD sv c) (FR:=fun h'=>∀b,b<n4->b≠w->¬aD s4 b->h'.get b=h4.get b) (rows:=rowsOf xs z) (ps:=cR xs z) (xn:=bu xs) (cs:=NY) (e:=67) (gt':=72) aA (.inl rfl) (by omega) (fun c hc=>by
  by_cases rW:c<n
  ·exact .inr (.inr (pH c (by omega) (a3 c (by omega) hc)))
  ·exact .inl (by omega)) (by omega) (fun h h' hF hk b hb bE mT=>(hk b hb bE mT).trans (hF b hb bE mT)) (fun h' n' gX hF=>by rw[ok.ie];exact hRF h' n' gX hF uv) (fun h' n' gX hF=>hRF h' n' gX hF NX) (by omega) (fun h' hF=>by rw[hF n1 (by omega) (by omega) (fun q=>aau (a3 n1 zr q)),a4 n1 zr (by omega) aau];exact g3) gb2 (fun h' hF=>by rw[hF gb gb2 (by omega) (a6 gb ⟨_,_,_,rfl⟩)];exact gg) (fun h' hF j hj=>by
  obtain⟨clo,chi,c,e1,e2,e3,e4,e5⟩:=a7.2 j hj
  exact⟨clo,chi,c,e1,e3,e4.aB fun b b1 b2=>hF b (by omega) (by omega) (e5 b b1 b2).1⟩) zB ok.wh ok.pm ok.at_ ok.sy (by rw[ll];omega) (x3:= .int .i64 z) (x4:=ii 0) (x6:= .int .i64 0) (x8:= .bool false) (x9:= .bool false) (x10:= .slice (some ⟨tb,iL,none⟩) (bA xs z.toNat 4).length iM) (x11:= .int .i64 ((bA xs z.toNat 4).length:Int)) (x12:= .int .i64 ((bA xs z.toNat 4).length:Int)) (x13:= .bool false) (bu xs).length 0 lf _ h4 n4 s4 (by omega) (by omega) (by omega) (av _) a2 (fun c _ q=>q) (fun b _ _ _=>rfl) ?_
 ·rw[ll,show d+4+3=d+7 from rfl,show((0:Nat):Int)=0 from rfl]at wb
  rw[<-zB]at wb
  refine wb.mono ?_
  rintro v' h' n' _ ⟨rfl,q1,s5,x5,G9⟩
  refine .inl ⟨hm,rfl,s5, ?_,fun c hc q=>pH c (by omega) (a3 c (by omega) (G9 c (by omega) q))⟩
  rw[eJ,eJ,cI,cI,zB]at x5
  exact x5
 ·have fl:=Cg (rows:=((bA xs z.toNat 4).drop 0).map bu) fun r hr=>by
   rw[eJ]at hr
   obtain⟨q,hq,rfl⟩:=List.mem_map.1 hr
   have gr:=ok.oE q hq
   exact zD gr.hi (by rw[gr.len];have:=hm.2.1;omega) (by rw[gr.len];have:=hm.2.1;omega)
  rw[dE,eJ,tl]at fl
  have:=ok.r6
  rw[aY,aY,eJ,ll]
  omega
end
end Go.Proofs.YtdagfcflbphoiaaGreatDoor
namespace Go.Proofs.YtdagfcflbphoiaaGreatDoor
open Go.RowKit Ev Tb
def rZ(L:List (List Int))(K:List Int)(i:Nat):List Int:=L.getD (K.getD i 0).toNat []
def oG(xs:List Int)(L:List (List Int))(K:List Int)(i:Nat):Bool:=decide (0<=K.getD i 0)&&(decide (K.getD i 0<(L.length:Int))&&(dM ((rZ L K i).length:Int) (eB xs i)&&dD 0 1099511627776 (rZ L K i)))
def zE(xs:List Int)(L:List (List Int))(K:List Int)(i:Nat):Int:=gE (eB xs i) (rZ L K i)
def pK(xs:List Int)(L:List (List Int))(K:List Int)(i:Nat):Int:=bp ((bL i).map (zE xs L K))
def r4(xs:List Int)(L:List (List Int))(K:List Int)(i:Nat):Bool:=(bL i).all (oG xs L K)
theorem aav(xs:List Int)(L:List (List Int))(K:List Int)(i:Nat):r4 xs L K (i+1)=(r4 xs L K i&&oG xs L K i):=by
 unfold r4
 rw[pQ,List.all_append]
 simp
theorem ak'{xs:List Int}{L:List (List Int)}{K:List Int}{i m:Nat}(h:i<m)(hb:oG xs L K i=false):r4 xs L K m=false:=List.all_eq_false.2 ⟨i,OG.2 h,by rw[hb];exact Ol⟩
theorem NZ(xs:List Int)(L:List (List Int))(K:List Int)(i:Nat):pK xs L K (i+1)=pK xs L K i+zE xs L K i:=by
 unfold pK
 rw[pQ,eK,ot]
 simp[bp]
theorem aaw{xs:List Int}{L:List (List Int)}{K:List Int}:∀{i:Nat},r4 xs L K i=true->0<=pK xs L K i∧pK xs L K i<=i*1099511627776
 |0,_=>by simp[pK,bp]
 |i+1,h=>by
  rw[aav,cb]at h
  have ih:=aaw h.1
  have hc:=h.2
  unfold oG at hc
  simp only[cb]at hc
  have h1:=MQ (l:=eB xs i) (ls:=rZ L K i) fun y hy=>(iX.1 hc.2.2.2 y hy).1
  have h2:=Gt (eB xs i) (rZ L K i)
  rw[NZ]
  unfold zE
  simp only[Int.natCast_add,Int.add_mul,Int.natCast_one,Int.one_mul]
  omega
def xH(xs:List Int)(L:List (List Int))(K:List Int):Bool:=decide (K.length=cW xs.length)&&r4 xs L K K.length
section
variable (lf d n:Nat) (h:H) (aA:3000000<=lf)
include aA
set_option maxHeartbeats 1000000 in
theorem ak_(v u:Value)(xs:List Int)(L:List (List Int))(K:List Int)(hR:Row h n 3 .i64 v xs)(hu:xz h n u L K)(hl:xs.length<=100000)(hL:L.length<=100000∧∀l∈L,l.length<=100000)(hK:K.length<=100000):
 aj (fun _=>False) n (au ai gt lf (d+9) 43 #[v,u]) h n fun v' h' n'=>v'=if xH xs L K=true then .tuple #[.int .i64 (gD (pK xs L K K.length)),.int .i64 0]else .tuple #[.int .i64 0,.int .i64 1]:=by
 obtain⟨r,hr⟩:∃r:Value,(if xH xs L K=true then amR #[.int .i64 (gD (pK xs L K K.length)),.int .i64 0]else .tuple #[.int .i64 0,.int .i64 1])=r:=⟨_,rfl⟩
 rw[hr]
 rw[aQ (fun _=>S0) rfl]
 refine aj.aP ?_
 unfold EB
 have bg:=hR
 obtain⟨a,c,rfl⟩:=hR.len
 obtain⟨a2,c2,a3,c3,rfl,hx,hy⟩:=hu.agg
 refine qi trivial _ _ ?_
 obtain⟨h2,gy⟩:∃h2,h.set n (some ⟨67,true,(Hp #[.slice a2 L.length c2,.slice a3 K.length c3]).cells.toList⟩)=h2:=⟨_,rfl⟩
 have g1:h2.get n=some ⟨67,true,[.slice a2 L.length c2,.slice a3 K.length c3]⟩:=by rw[<-gy,get_eq];rfl
 have hk:∀b,b<n->h2.get b=h.get b:=fun b hb=>by rw[<-gy,aK _ _ (by omega)]
 rw[gy]
 have iC:=bg.aB (cX n) hk
 have bN:=hx.aB (cX n) hk
 have dS:=hy.aB (cX n) hk
 have gJ:n<n+1:=Nat.lt_succ_self n
 have c1:∀p q:Value,[p,q][1]? =some q:=fun _ _=>rfl
 try simp(disch:=first|omega|assumption|exact aa _) only[ah,ae,RZ]
 refine ahF trivial _ _ _ g1 gJ (av _) (c1 _ _) fun T1 t1=> ?_
 try simp(disch:=first|omega|assumption|exact aa _) only[ah,ae,RZ]
 refine Ml aW (Gw lf (d+7) _ h2 xs.length (by omega)) (by omega) fun v3 h3 n3 T3 fy dU ny t3=> ?_
 obtain⟨N0,uz,ala⟩:=ny
 have N0:v3= .int .i64 (cW xs.length:Int):=N0
 have uz:h3=h2:=uz
 subst N0 uz ala
 have x13:=t1.iQ t3
 by_cases eq:K.length=cW xs.length
 rotate_left
 ·have nn:(((K.length:Nat):Int) !=((cW xs.length:Nat):Int))=true:=bne_iff_ne.2 (by omega)
  try simp(disch:=first|omega|assumption|exact aa _) only[ah,ae,RZ,nn,x13,iP,tw,zN]
  rw[<-hr,if_neg]
  unfold xH
  rw[decide_eq_false eq]
  simp
 have nn:(((K.length:Nat):Int) !=((cW xs.length:Nat):Int))=false:=by rw[eq];simp
 have AH:xH xs L K=r4 xs L K K.length:=by unfold xH;rw[decide_eq_true eq,Bool.true_and]
 try simp(disch:=first|omega|assumption|exact aa _) only[ah,ae,RZ,nn,x13,iP,tw,zN,g1]
 refine ed K.length (fun fu i (q:Int)=>vQ lf (au ai gt lf (d+8)) fu (vR lf (au ai gt lf (d+8))) (.slice a xs.length c) (.agg #[.slice a2 L.length c2,.slice a3 K.length c3]) (.pointer (some ⟨n,0,none⟩)) (.int .i64 0) (.int .i64 0) (.int .i64 q) (.bool false) (.slice a3 K.length c3) (.int .i64 (K.length:Nat)) (.int .i64 (i:Nat)))
  (fun i q h' n'=>n+1<=n'∧(∀b,b<n+1->h'.get b=h3.get b)∧q=gD (pK xs L K i)∧r4 xs L K i=true) ?_ ?_ lf 0 0 _ _ (dx _) (by omega) ⟨av _,fun _ _=>rfl,rfl,rfl⟩
 ·rintro fu q h' n' ⟨hn,eu,rfl,ha⟩
  rw[vQ]
  try simp(disch:=first|omega|assumption|exact aa _) only[ah,ae,RZ,bH]
  (try unfold vR);(try dsimp only)
  try simp(disch:=first|omega|assumption|exact aa _) only[ah,ae,RZ]
  rw[<-hr,AH,if_pos ha]
 ·rintro fu i q h' n' hi ⟨hn,eu,rfl,ha⟩ next
  obtain⟨b,off,cap,o,cs,hv,hg,hb,_,_,_,bk⟩:=(dS.aB hn eu).some (by omega)
  cases hv
  have e1:((i:Nat):Int)<((K.length:Nat):Int):=by omega
  have cx:=bk i hi
  have g1':=(eu n gJ).trans g1
  have pD:n<n':=by omega
  have bad:oG xs L K i=false->(amR #[.int .i64 0,.int .i64 1])=r:=fun hb=>by rw[<-hr,AH,if_neg (by rw[ak' hi hb];exact Ol)]
  rw[vQ]
  by_cases p1:K.getD i 0<0
  ·try simp(disch:=first|omega|assumption|exact aa _) only[ah,ae,RZ,e1,hg,cx,p1]
   (try unfold vR);(try dsimp only)
   try simp(disch:=first|omega|assumption|exact aa _) only[ah,ae,RZ]
   exact bad (by unfold oG;rw[decide_eq_false (Int.not_le.2 p1)];rfl)
  by_cases p2:((L.length:Nat):Int)<=K.getD i 0
  ·try simp(disch:=first|omega|assumption|exact aa _) only[ah,ae,RZ,e1,hg,cx,p1,g1',p2]
   (try unfold vR);(try dsimp only)
   try simp(disch:=first|omega|assumption|exact aa _) only[ah,ae,RZ]
   exact bad (by unfold oG;rw[decide_eq_false (Int.not_lt.2 p2),Bool.false_and,Bool.and_false])
  obtain⟨k,qR⟩:∃k:Nat,K.getD i 0=(k:Int):=⟨(K.getD i 0).toNat,by omega⟩
  have e3:(k:Int)<((L.length:Nat):Int):=by omega
  have e4:¬((L.length:Nat):Int)<=(k:Int):=by omega
  have e5:¬((k:Int)<0):=by omega
  have la:rZ L K i=L.getD k []:=by unfold rZ;rw[qR,mG]
  have lm:L.getD k []∈L:=by rw[aF,aM (by omega)];exact cN (by omega)
  rw[qR]at cx
  try simp(disch:=first|omega|assumption|exact aa _) only[ah,ae,RZ,e1,hg,cx,e5,g1',e4]
  refine bh aW (Zb lf (d+5) n' h' _ xs (iC.aB hn eu) (by omega) i (by omega)) (by omega) (fun _ _ h=>h.elim) fun v4 h4 n4 jF kC xy=> ?_
  obtain⟨w,rfl,hw⟩:=xy
  have k4:∀b,b<n+1->h4.get b=h3.get b:=fun b hb=>(kC b (by omega) id).trans (eu b hb)
  have g14:=(k4 n gJ).trans g1
  obtain⟨b2,y0,M3,o2,qU,iq,dy,ig,xp⟩:=(bN.aB (show n+1<=n4 by omega) k4).at (by omega)
  cases iq
  obtain⟨q,hq,B8⟩:=xp k (by omega)
  have lt4:n<n4:=by omega
  try simp(disch:=first|omega|assumption|exact aa _) only[ah,ae,RZ,fk,ext1,g14,e3,dy,hq]
  refine bV (Za lf (d+2) n4 h4 aA w q _ _ hw B8 (by rw[BK];omega) (by have:=hL.2 _ lm;omega)) (by omega) (fun _ _ h=>h.elim) ?_
  have z0:((0:Int) !=0)=false:=rfl
  have z1:((1:Int) !=0)=true:=rfl
  by_cases ok:dD 0 1099511627776 (L.getD k [])=true∧dM ((L.getD k []).length:Int) (eB xs i)=true
  ·rw[if_pos ok]
   have N1:oG xs L K i=true:=by unfold oG;rw[la,ok.1,ok.2,qR,decide_eq_true (show(0:Int)<=(k:Int) by omega),decide_eq_true e3];rfl
   have ca:zE xs L K i=gE (eB xs i) (L.getD k []):=by unfold zE;rw[la]
   have b1:=MQ (l:=eB xs i) (ls:=L.getD k []) fun y hy=>(iX.1 ok.1 y hy).1
   have b2:=Gt (eB xs i) (L.getD k [])
   have b3:=MM (pK xs L K i)
   have b4:=MN (aaw ha).1
   try simp(disch:=first|omega|assumption|exact aa _) only[ah,ae,RZ,fk,ext1,z0]
   refine next _ h4 n4 ⟨by omega,k4, ?_,by rw[aav,ha,N1];rfl⟩
   rw[NZ,ca,<-ML b1]
   rfl
  ·rw[if_neg ok]
   have N1:oG xs L K i=false:=by
    unfold oG
    rw[la]
    cases q1:dD 0 1099511627776 (L.getD k [])with
    |false=>simp
    |true=>
     cases q2:dM ((L.getD k []).length:Int) (eB xs i)with
     |false=>simp
     |true=>exact absurd ⟨q1,q2⟩ ok
   try simp(disch:=first|omega|assumption|exact aa _) only[ah,ae,RZ,fk,ext1,z1]
   (try unfold vR);(try dsimp only)
   try simp(disch:=first|omega|assumption|exact aa _) only[ah,ae,RZ]
   exact bad N1
end
end Go.Proofs.YtdagfcflbphoiaaGreatDoor
namespace Go.Proofs.YtdagfcflbphoiaaGreatDoor
open Go.RowKit Ev Tb Cn
section
variable {lf d n:Nat} {tb iL iM:Nat} {T:List (List Int)} {s:Nat}
theorem alb(aA:3000000<=lf)(hT:∀r∈T,GoodR s r)(h3:3<=s)(fC:s<=258)(zg:T.length<=6){n0 m1:Nat}(h0:n0<=m1){h1:H}(Cc:RR h1 m1 22 3 (.slice (some ⟨tb,iL,none⟩) T.length iM) T){x1 x2 x3 x4 x5 x6 x8:Value}{K:Value->Value->Value->M Value}{Q:Value->H->Nat->Prop}:
 ∀(m i fu t:Nat) (h:H) (n:Nat),T.length-i=m->m<fu->i<=T.length->m1<=n->(∀b,b<m1->h.get b=h1.get b)->t+11000*m<=9000000->
 (∀h' n',m1<=n'->(∀b,b<m1->h'.get b=h1.get b)->aj (fun _=>False) n0 (K x1 x5 (.int .i64 ((t+(((T.drop i).map bu).flatMap iI).length:Nat):Int))) h' n' Q)->
 aj (fun _=>False) n0 (vI lf (au ai gt lf (d+6)) fu K x1 x2 x3 x4 x5 x6 (.int .i64 (t:Int)) x8 (.slice (some ⟨tb,iL,none⟩) T.length iM) (.int .i64 (T.length:Int)) (.int .i64 (i:Int))) h n Q:=by
 intro m
 induction m with
 |zero=>
  intro i fu t h n hm hf hi hn hk ht hK
  obtain⟨fu,rfl⟩:∃f,fu=f+1:=⟨fu-1,by omega⟩
  obtain rfl:i=T.length:=by omega
  rw[vI]
  try simp(disch:=first|omega|assumption|exact aa _) only[ah,ae,RZ,bH]
  have:=hK h n hn hk
  rw[oL]at this
  simpa using this
 |succ m ih=>
  intro i fu t h n hm hf hi hn hk ht hK
  obtain⟨fu,rfl⟩:∃f,fu=f+1:=⟨fu-1,by omega⟩
  have e1:((i:Nat):Int)<((T.length:Nat):Int):=by omega
  obtain⟨b,off,cap,o,ks,hv,hg,hb,bk⟩:=(Cc.aB hn hk).at (by omega)
  cases hv
  obtain⟨rv,Ce,eo⟩:=bk i (by omega)
  have rP:T.getD i []∈T:=by rw[aF,aM (by omega)];exact cN _
  have gr:=hT _ rP
  rw[<-gr.eq]at eo
  have dl:=zD gr.hi (by rw[gr.len];omega) (by rw[gr.len];omega)
  have w1:((i:Nat):Int)+1=((i+1:Nat):Int):=rfl
  have w2:(t:Int)+((iI (bu (T.getD i []))).length:Int)=((t+(iI (bu (T.getD i []))).length:Nat):Int):=rfl
  rw[vI]
  try simp(disch:=first|omega|assumption|exact aa _) only[ah,ae,RZ,e1,hg,Ce]
  refine bh aW (akI (lf:=lf) (d:=d) eo (by rw[gr.len];omega) (by rw[gr.len];omega) gr.lo gr.hi aA) (by omega) (fun _ _ h=>h.elim) fun v2 h2 n2 ey eR iE=> ?_
  subst iE
  try simp(disch:=first|omega|assumption|exact aa _) only[ah,ae,RZ,fk,ext1,w2]
  rw[w1]
  refine ih (i+1) fu _ h2 n2 (by omega) (by omega) (by omega) (by omega) (fun b hb=>(eR b (by omega) id).trans (hk b hb)) (by omega) fun h' n' a1 a2=> ?_
  have:=hK h' n' a1 a2
  rwa[jW [] (show i<T.length by omega),mF,uG,aY,<-Hj]at this
end
theorem aax(rows:List (List Nat))(ps:List Nat):∀(a b:List Nat) (i:Nat),jG rows ps i (a++b)=jG rows ps i a++jG rows ps (i+a.length) b
 |[],b,i=>rfl
 |x::a,b,i=>by
  rw[List.cons_append,zC,zC,aax rows ps a b (i+1),cI,dI,show i+1+a.length=i+(a.length+1) by omega]
theorem aay{rows:List (List Nat)}{ps:List Nat}{g:Nat}{r:List Int}(e:iN (bu r)=r)(hr:rows.getD (ps.getD g 0) []=bu r):∀(l:List Int) (i:Nat),(∀j,j<l.length->(i+j)/50=g)->((jG rows ps i (bu l)).length:Int)=nk l r
 |[],i,_=>rfl
 |x::l,i,h=>by
  have h0:=h 0 (by simp)
  rw[Nat.add_zero]at h0
  have ih:=aay e hr l (i+1) fun j hj=>by have:=h (j+1) (by simp;omega);rwa[show i+1+j=i+(j+1) by omega]
  have ex:bu (x::l)=x.toNat::bu l:=rfl
  have el:Tb.look r x=((bu r).getD x.toNat 0:Int):=by
   unfold Tb.look
   rw[<-kz,e]
  have ec:nk (x::l) r=Tb.look r x+nk l r:=rfl
  rw[ex,zC,h0,hr,aY,ec,el,<-ih]
  unfold oC
  rw[dL]
  rfl
theorem alc{xs:List Int}{z:Int}{p:Nat}(h:p<(bA xs z.toNat 4).length):(rowsOf xs z).getD p []=bu ((bA xs z.toNat 4).getD p []):=by
 unfold rowsOf
 generalize bA xs z.toNat 4=T at h
 rw[aF,j4,aF,aM h]
 rfl
theorem N2{T:List (List Int)}{p:Nat}(h:p<T.length):T.getD p []∈T:=by
 rw[aF,aM h]
 exact cN _
section
variable {xs:List Int} {z:Int} (m:iJ xs z) (hl:xs.length<=1000)
include m hl
theorem aaz{i:Nat}(hi:i<cW xs.length):rZ (bA xs z.toNat 4) (iN (cR xs z)) i=(bA xs z.toNat 4).getD ((cR xs z).getD i 0) []∧(cR xs z).getD i 0<(bA xs z.toNat 4).length:=by
 have ok:=xG m (by omega)
 have tl:(bA xs z.toNat 4).length=(rowsOf xs z).length:=by unfold rowsOf;rw[dE]
 refine⟨by unfold rZ;rw[kz];rfl, ?_⟩
 rw[tl]
 exact ok.pm _ (xF (by rw[ok.pl];exact hi))
theorem ald:xH xs (bA xs z.toNat 4) (iN (cR xs z))=true:=by
 have ok:=xG m (by omega)
 have kl:(iN (cR xs z)).length=cW xs.length:=by rw[db,ok.pl]
 unfold xH r4
 rw[cb,decide_eq_true_eq,List.all_eq_true]
 refine⟨kl,fun i hi=> ?_⟩
 rw[OG,kl]at hi
 obtain⟨e1,e2⟩:=aaz m hl hi
 have gr:=ok.oE _ (N2 e2)
 have rl:((bA xs z.toNat 4).getD ((cR xs z).getD i 0) []).length=z.toNat:=by
  have:=gr.len
  unfold bu at this
  rwa[dE]at this
 unfold oG
 rw[e1,kz,rl]
 simp only[cb,decide_eq_true_eq]
 have hz:=m.2.1
 refine⟨by omega,by omega, ?_, ?_⟩
 ·rw[j6 (by omega)]
  exact xo.2 fun x hx=>xo.1 m.2.2.1 x (Y4 hx)
 ·refine iX.2 fun x hx=> ?_
  rw[<-gr.eq]at hx
  unfold iN at hx
  obtain⟨y,hy,rfl⟩:=List.mem_map.1 hx
  have:=gr.hi y hy
  omega
theorem aaA:∀g,g<=cW xs.length->((jG (rowsOf xs z) (cR xs z) 0 (bu (xs.take (50*g)))).length:Int)=pK xs (bA xs z.toNat 4) (iN (cR xs z)) g
 |0,_=>rfl
 |g+1,hg=>by
  have ok:=xG m (by omega)
  have ih:=aaA g (by omega)
  have fj:50*g<xs.length:=by unfold cW at hg;omega
  obtain⟨e1,e2⟩:=aaz m hl (i:=g) (by omega)
  have gr:=ok.oE _ (N2 e2)
  have tk:xs.take (50*(g+1))=xs.take (50*g)++eB xs g:=by
   unfold eB
   rw[show 50*(g+1)=50*g+50 by omega,List.take_add]
  have ra:bu (xs.take (50*g)++eB xs g)=bu (xs.take (50*g))++bu (eB xs g):=eK
  have alf:(bu (xs.take (50*g))).length=50*g:=by unfold bu;rw[dE,cJ];omega
  have gl:=BK xs g
  have sl:=aay (rows:=rowsOf xs z) (ps:=cR xs z) (g:=g) gr.eq (alc e2) (eB xs g) (50*g) fun j hj=>by omega
  rw[tk,ra,aax,aY,alf,iO,NZ,<-ih]
  unfold zE gE
  rw[e1,<-sl]
  have small:(jG (rowsOf xs z) (cR xs z) (50*g) (bu (eB xs g))).length<=1099511627776:=by
   have py:∀x,Tb.look ((bA xs z.toNat 4).getD ((cR xs z).getD g 0) []) x<=20:=fun x=>by
    unfold Tb.look
    rw[<-gr.eq,kz]
    by_cases hx:x.toNat<(bu ((bA xs z.toNat 4).getD ((cR xs z).getD g 0) [])).length
    ·have:=gr.hi _ (xF hx)
     omega
    ·rw[aF,qI (by omega)]
     decide
   have cs:∀l:List Int,nk l ((bA xs z.toNat 4).getD ((cR xs z).getD g 0) [])<=20*(l.length:Int):=fun l=>by
    induction l with
    |nil=>exact Int.le_refl _
    |cons x l yD=>
     have:=py x
     rw[show nk (x::l) ((bA xs z.toNat 4).getD ((cR xs z).getD g 0) [])=Tb.look ((bA xs z.toNat 4).getD ((cR xs z).getD g 0) []) x+nk l ((bA xs z.toNat 4).getD ((cR xs z).getD g 0) [])from rfl,dI]
     omega
   have:=cs (eB xs g)
   rw[<-sl]at this
   omega
  rw[MO (by omega)]
  omega
end
theorem N3{rows:List (List Nat)}{ps:List Nat}(h:∀r∈rows,∀y∈r,y<=20):∀(l:List Nat) (i:Nat),(jG rows ps i l).length<=20*l.length
 |[],_=>by simp[jG]
 |x::l,i=>by
  have ih:=N3 h l (i+1) (ps:=ps)
  have b:(rows.getD (ps.getD (i/50) 0) []).getD x 0<=20:=by
   by_cases hp:ps.getD (i/50) 0<rows.length
   ·by_cases hx:x<(rows.getD (ps.getD (i/50) 0) []).length
    ·refine h (rows.getD (ps.getD (i/50) 0) []) ?_ _ (xF hx)
     rw[aF (l:=rows),aM hp]
     exact cN _
    ·rw[aF,qI (by omega)]
     exact dx _
   ·rw[show rows.getD (ps.getD (i/50) 0) []=[] by rw[aF,qI (by omega)];rfl]
    exact dx _
  rw[zC,aY,dI]
  unfold oC
  rw[dL]
  omega
section
variable {lf d n:Nat} {h:H}
set_option maxHeartbeats 400000 in
theorem alg(aA:3000000<=lf)(g:Gd h n){v:Value}{xs:List Int}(hR:Row h n 3 .i64 v xs)(hl:xs.length<=1000)(z:Int)(hd:600<=d):
 aj (fun _=>False) n (au ai gt lf (d+10) 12 #[v,.int .i64 z]) h n fun v' _ _=>(iJ xs z∧v'= .tuple #[.int .i64 ((oD xs z).length:Int),.int .i64 0])∨(¬iJ xs z∧v'= .tuple #[.int .i64 0,.int .i64 1]):=by
 rw[aQ (fun _=>Sf) rfl]
 refine aj.aP ?_
 unfold Ek
 have bg:=hR
 obtain⟨a,c,rfl⟩:=hR.len
 refine bh aW (aap (lf:=lf) (d:=d+8) aA _ xs z g bg (by omega) (by omega)) (av _) (fun _ _ h=>h.elim) fun v1 h1 n1 bQ cM nA=> ?_
 have dH:=bg.aB bQ fun b hb=>cM b hb id
 rcases nA with ⟨hm,cx,cy,rfl,fU,mC⟩|⟨hm,rfl⟩
 rotate_left
 ·have z1:((1:Int) !=0)=true:=rfl
  try simp(disch:=first|omega|assumption|exact aa _) only[ah,ae,RZ,fk,ext1]
  refine kU qk _ ?_
  refine xm (sz:=2) trivial (vs:=[.slice none 0 0,.slice none 0 0]) rfl rfl rfl (get_eq _ _ _) (by omega) (.inl (by omega)) _ fun h2 g2 k2=> ?_
  try simp(disch:=first|omega|assumption|exact aa _) only[ah,ae,RZ,z1]
  exact .inr hm
 have ok:=xG hm (by omega)
 have zz:((0:Int) !=0)=false:=rfl
 have o1:one cx=true:=by obtain⟨_,_,rfl⟩:=fU.len;rfl
 have o2:one cy=true:=by obtain⟨_,_,rfl⟩:=mC.len;rfl
 try simp(disch:=first|omega|assumption|exact aa _) only[ah,ae,RZ,fk,ext1]
 refine kU qk _ ?_
 refine xm (sz:=2) trivial (vs:=[cx,cy]) rfl rfl (by simp[o1,o2]) (get_eq _ _ _) (by omega) (.inl (by omega)) _ fun h2 g2 k2=> ?_
 have oF:∀b,b<n1->h2.get b=h1.get b:=fun b hb=>by rw[k2 b (by omega),aK _ _ (by omega)]
 have iC:=dH.aB (cX n1) oF
 have bN:=fU.aB (cX n1) oF
 have dS:Row h2 (n1+1) 3 .i64 cy (iN (cR xs z)):=mC.aB (cX n1) oF
 have tl:(bA xs z.toNat 4).length=(rowsOf xs z).length:=by unfold rowsOf;rw[dE]
 have r2:=ok.r2
 obtain⟨tb,iL,iM,to,DK,rfl,tg,_,_⟩:=bN.at (by omega)
 have gJ:n1<n1+1:=by omega
 try simp(disch:=first|omega|assumption|exact aa _) only[ah,ae,RZ,zz,g2]
 rw[tl]
 refine bh aW (akT (lf:=lf) (d:=d+4) dS ok.r2 ok.r6 ok.p0 (by rw[ok.pl];unfold cW;omega) ok.pm aA) (by omega) (fun _ _ h=>h.elim) fun v3 h3 n3 fy dU ny=> ?_
 subst ny
 have k3:∀b,b<n1+1->h3.get b=h2.get b:=fun b hb=>dU b hb id
 have g3:h3.get n1=some ⟨67,true,[.slice (some ⟨tb,iL,none⟩) (rowsOf xs z).length iM,cy]⟩:=by rw[k3 n1 gJ,g2,tl]
 have zr:n1<n3:=by omega
 have mW:=bN.aB fy k3
 have uv:=iC.aB fy k3
 have NX:=dS.aB fy k3
 have p6:(lP (rowsOf xs z).length (cR xs z)).length<=300000:=by
  rw[Cb]
  have:=Ca (l:=fh eS (cR xs z)) (xD _ _ uy fun p hp=>by have:=ok.pm p hp;have:=ok.r6;omega)
  rw[ux,ok.pl]at this
  unfold cW at this
  omega
 try simp(disch:=first|omega|assumption|exact aa _) only[ah,ae,RZ,fk,ext1,g3]
 rw[<-tl]
 rw[<-tl]at g3 p6
 refine alb (lf:=lf) (d:=d+3) (T:=bA xs z.toNat 4) (s:=z.toNat) aA ok.oE (by have:=hm.2.1;omega) (by have:=hm.2.1;omega) (by rw[tl];exact ok.r6) (n0:=n) (m1:=n3) (by omega) mW (bA xs z.toNat 4).length 0 lf _ h3 n3 (by omega) (by have:=ok.r6;omega) (by omega) (av _) (fun _ _=>rfl) (by have:=ok.r6;omega) fun h4 n4 jF k4=> ?_
 (try unfold J7);(try dsimp only)
 refine Bu trivial trivial (sz:=2) n1 0 _ ((k4 n1 zr).trans g3) (by omega) (by simp) ?_
 have ch:xz h4 n4 (.agg #[.slice (some ⟨tb,iL,none⟩) (bA xs z.toNat 4).length iM,cy]) (bA xs z.toNat 4) (iN (cR xs z)):=⟨_,_,rfl,mW.aB jF k4,NX.aB jF k4⟩
 refine bh aW (ak_ lf d n4 h4 aA _ _ xs (bA xs z.toNat 4) (iN (cR xs z)) (uv.aB jF k4) ch (by omega) ⟨by have:=ok.r6;omega,fun l Ai=>by have:=(ok.oE l Ai).len;unfold bu at this;rw[dE]at this;have:=hm.2.1;omega⟩ (by rw[db,ok.pl];unfold cW;omega)) (by omega) (fun _ _ h=>h.elim) fun v5 h5 n5 ud uo uq=> ?_
 rw[if_pos (ald hm hl)]at uq
 subst uq
 have sc:=aaA hm hl (cW xs.length) (av _)
 rw[show xs.take (50*cW xs.length)=xs from List.take_of_length_le (by unfold cW;omega)]at sc
 have kl:(iN (cR xs z)).length=cW xs.length:=by rw[db,ok.pl]
 have sm:=N3 (rows:=rowsOf xs z) (ps:=cR xs z) (fun r hr y hy=>by
  unfold rowsOf at hr
  obtain⟨q,hq,rfl⟩:=List.mem_map.1 hr
  exact(ok.oE q hq).hi y hy) (bu xs) 0
 have ll:(bu xs).length=xs.length:=by unfold bu;rw[dE]
 rw[kl,<-sc,MO (by omega)]
 have al:(oD xs z).length=(lP (bA xs z.toNat 4).length (cR xs z)).length+(((bA xs z.toNat 4).map bu).flatMap iI).length+(jG (rowsOf xs z) (cR xs z) 0 (bu xs)).length:=by
  unfold oD
  rw[aY,aY,<-tl,<-Hj]
  rfl
 rw[al,eJ]
 have w9:(((lP (bA xs z.toNat 4).length (cR xs z)).length+(((bA xs z.toNat 4).map bu).flatMap iI).length:Nat):Int)+((jG (rowsOf xs z) (cR xs z) 0 (bu xs)).length:Int)=(((lP (bA xs z.toNat 4).length (cR xs z)).length+(((bA xs z.toNat 4).map bu).flatMap iI).length+(jG (rowsOf xs z) (cR xs z) 0 (bu xs)).length:Nat):Int):=rfl
 have fl:=Cg (rows:=(bA xs z.toNat 4).map bu) fun r hr=>by
  obtain⟨q,hq,rfl⟩:=List.mem_map.1 hr
  have gr:=ok.oE q hq
  exact zD gr.hi (by rw[gr.len];have:=hm.2.1;omega) (by rw[gr.len];have:=hm.2.1;omega)
 rw[dE,tl]at fl
 have r6:=ok.r6
 try simp(disch:=first|omega|assumption|exact aa _) only[ah,ae,RZ,fk,ext1,w9]
 exact .inl hm
end
end Go.Proofs.YtdagfcflbphoiaaGreatDoor
namespace Go.Proofs.YtdagfcflbphoiaaGreatDoor
open Go.RowKit Ev Cn
section
variable {lf d n:Nat} {h:H}
end
theorem Ha(a b:Bool):dX ai .neq 4 (.bool a) (.bool b)=some (.bool (xor a b)):=by cases a<;>cases b<;>kernel_rfl
section
variable {lf d n:Nat} {h:H}
theorem alh(l:List Bool)(k:Nat)(hk:k<=20)(hl:l.length<=k)(aA:100<=lf):aj (fun _=>False) n (au ai gt lf (d+1) 85 #[tx l,.int .i64 (k:Int)]) h n fun v' h' n'=>v'=tx ((gW l).1++bI (k-l.length) false)∧h'=h∧n'=n:=by
 rw[aQ (fun _=>afR) rfl]
 refine aj.aP ?_
 unfold KU
 have pad:∀(y7 rO:Value) (c:Bool) (r fu:Nat) (t:List Bool),t=(gW l).1++bI (k-l.length-r) false->r<=k-l.length->r<fu->aj (fun _=>False) n (wy lf (au ai gt lf d) fu (EZ lf (au ai gt lf d)) (tx l) (.int .i64 (k:Int)) (.string {data:=#[]}) (tx t) (.bool c) y7 rO) h n fun v' h' n'=>v'=tx ((gW l).1++bI (k-l.length) false)∧h'=h∧n'=n:=by
  intro y7 rO c r
  induction r with
  |zero=>
   intro fu t ht hr hf
   obtain⟨fu,rfl⟩:∃f,fu=f+1:=⟨fu-1,by omega⟩
   have Bq:t.length=k:=by rw[ht,aY,y9,jJ];omega
   have c1:¬(((t.length:Nat):Int)<(k:Int)):=by omega
   rw[wy]
   try simp(disch:=first|omega|assumption|exact aa _) only[ah,ae,RZ,qy,c1]
   (try unfold EZ);(try unfold anE);(try dsimp only)
   try simp(disch:=first|omega|assumption|exact aa _) only[ah,ae,RZ]
   rw[ht]
   rfl
  |succ r ih=>
   intro fu t ht hr hf
   obtain⟨fu,rfl⟩:∃f,fu=f+1:=⟨fu-1,by omega⟩
   have Bq:t.length=k-(r+1):=by rw[ht,aY,y9,jJ];omega
   have c1:((t.length:Nat):Int)<(k:Int):=by omega
   have a1:=lJ t [false] (by rw[Bq];show _+1<=_;omega)
   rw[wy]
   try simp(disch:=first|omega|assumption|exact aa _) only[ah,ae,RZ,qy,c1,rT,a1]
   refine ih fu (t++[false]) ?_ (by omega) (by omega)
   rw[ht,cI,<-amo,show k-l.length-(r+1)+1=k-l.length-r by omega]
 have key:∀(j:Nat) (fu:Nat),j<=l.length->j<fu->aj (fun _=>False) n (tM lf (au ai gt lf d) fu (AZ lf (au ai gt lf d)) (tx l) (.int .i64 (k:Int)) (.string {data:=#[]}) (tx (gW (l.drop j)).1) (.bool (gW (l.drop j)).2) (.int .i64 ((j:Int)-1))) h n fun v' h' n'=>v'=tx ((gW l).1++bI (k-l.length) false)∧h'=h∧n'=n:=by
  intro j
  induction j with
  |zero=>
   intro fu hj hf
   obtain⟨fu,rfl⟩:∃f,fu=f+1:=⟨fu-1,by omega⟩
   rw[tM]
   have c1:decide ((0:Int)<=((0:Nat):Int)-1)=false:=decide_eq_false (by omega)
   try simp(disch:=first|omega|assumption|exact aa _) only[ah,ae,RZ,c1]
   (try unfold AZ);(try dsimp only)
   refine pad _ _ _ (k-l.length) lf _ ?_ (av _) (by omega)
   rw[nE,eJ]
   simp
  |succ j ih=>
   intro fu hj hf
   obtain⟨fu,rfl⟩:∃f,fu=f+1:=⟨fu-1,by omega⟩
   have hi:j<l.length:=by omega
   have gN:l.drop j=l[j]::l.drop (j+1):=List.drop_eq_getElem_cons hi
   have kQ:l.getD j false=l[j]:=by rw[aF,aM hi];rfl
   have ix:=YT l .i64 (j:Int) (by omega) (by omega)
   rw[mG,kQ]at ix
   have:=ih fu (by omega) (by omega)
   rw[gN]at this
   rw[tM,show(((j+1:Nat):Int)-1)=(j:Int) by omega]
   obtain⟨b,hb⟩:∃b,l[j]=b:=⟨_,rfl⟩
   obtain⟨c,hc⟩:∃c,(gW (l.drop (j+1))).2=c:=⟨_,rfl⟩
   obtain⟨t,ht⟩:∃t,(gW (l.drop (j+1))).1=t:=⟨_,rfl⟩
   have Bq:t.length<=20:=by rw[<-ht,y9,List.length_drop];omega
   rw[hb]at this ix
   simp only[gW]at this
   rw[hc,ht]at this
   rw[hc,ht]
   have c1:(0:Int)<=(j:Int):=by omega
   have a0:=lJ [false] t (by show 1+_<=_;omega)
   have a1:=lJ [true] t (by show 1+_<=_;omega)
   have k0:(48+((bn false:Nat):Int)==49)=false:=rfl
   have k1:(48+((bn true:Nat):Int)==49)=true:=rfl
   cases b<;>cases c
   ·try simp(disch:=first|omega|assumption|exact aa _) only[ah,ae,RZ,c1,ix,k0,k1,rT,Gq,a0,a1,Ha,OH,OI,gM,iP]
    exact this
   ·try simp(disch:=first|omega|assumption|exact aa _) only[ah,ae,RZ,c1,ix,k0,k1,rT,Gq,a0,a1,Ha,OH,OI,gM,iP]
    exact this
   ·try simp(disch:=first|omega|assumption|exact aa _) only[ah,ae,RZ,c1,ix,k0,k1,rT,Gq,a0,a1,Ha,OH,OI,gM,iP]
    exact this
   ·try simp(disch:=first|omega|assumption|exact aa _) only[ah,ae,RZ,c1,ix,k0,k1,rT,Gq,a0,a1,Ha,OH,OI,gM,iP]
    exact this
 have:=key l.length lf (av _) (by omega)
 rw[oL]at this
 try simp(disch:=first|omega|assumption|exact aa _) only[ah,ae,RZ,qy]
 exact this
end
def uA(ln:List Nat)(n i j:Nat):Value:=if ln.getD j 0<n∨(ln.getD j 0=n∧j<i)then tx (bY (ff ln j) (ln.getD j 0))else tx []
def ck(ln:List Nat)(n i:Nat):List Value:=(bL ln.length).map (uA ln n i)
theorem Hb(ln:List Nat)(n i:Nat):(ck ln n i).length=ln.length:=by unfold ck;simp
theorem aaB{ln:List Nat}{n i j:Nat}(h:j<(ck ln n i).length):(ck ln n i)[j]=uA ln n i j:=by
 have:=List.getElem_map (uA ln n i) (l:=bL ln.length) (h:=h)
 rw[List.getElem_range]at this
 exact this
theorem ali{ln:List Nat}{n i:Nat}(h:ln.getD i 0≠n):ck ln n (i+1)=ck ln n i:=by
 unfold ck
 apply r8
 intro j _
 unfold uA
 by_cases e:j=i
 ·subst e
  by_cases h2:ln.getD j 0<n
  ·rw[if_pos (.inl h2),if_pos (.inl h2)]
  ·rw[if_neg (by rintro(q|⟨q,_⟩);exact h2 q;exact h q),if_neg (by rintro(q|⟨q,_⟩);exact h2 q;exact h q)]
 ·by_cases h2:ln.getD j 0<n∨(ln.getD j 0=n∧j<i)
  ·rw[if_pos h2,if_pos (by omega)]
  ·rw[if_neg h2,if_neg (by omega)]
theorem alj{ln:List Nat}{n i:Nat}(hi:i<ln.length)(h:ln.getD i 0=n):(ck ln n i).set i (tx (bY (ff ln i) n))=ck ln n (i+1):=by
 apply List.ext_getElem
 ·rw[List.length_set,Hb,Hb]
 ·intro j h1 h2
  rw[Hb]at h2
  rw[List.getElem_set,aaB,aaB]
  unfold uA
  by_cases e:i=j
  ·subst e
   rw[if_pos rfl,if_pos (.inr ⟨h,by omega⟩),h]
  ·rw[if_neg e]
   by_cases h3:ln.getD j 0<n∨(ln.getD j 0=n∧j<i)
   ·rw[if_pos h3,if_pos (by omega)]
   ·rw[if_neg h3,if_neg (by omega)]
theorem alk(ln:List Nat)(n:Nat):ck ln n ln.length=ck ln (n+1) 0:=by
 unfold ck
 apply r8
 intro j hj
 rw[OG]at hj
 unfold uA
 by_cases h2:ln.getD j 0<n+1∨(ln.getD j 0=n+1∧j<0)
 ·rw[if_pos h2,if_pos (by omega)]
 ·rw[if_neg h2,if_neg (by omega)]
theorem alm{ln:List Nat}(w:Wh ln):ck ln 1 0=bI ln.length (tx []):=by
 unfold ck
 rw[List.eq_replicate_iff]
 refine⟨by simp,fun x hx=> ?_⟩
 obtain⟨j,hj,rfl⟩:=List.mem_map.1 hx
 rw[OG]at hj
 unfold uA
 have:=(w.at hj).1
 rw[if_neg (by omega)]
def zF(ln:List Nat):List Value:=(bL ln.length).map fun j=>tx (bY (ff ln j) (ln.getD j 0))
theorem aln{ln:List Nat}(w:Wh ln):ck ln 21 0=zF ln:=by
 unfold ck zF
 apply r8
 intro j hj
 rw[OG]at hj
 unfold uA
 have:=(w.at hj).2
 rw[if_pos (by omega)]
section
variable {lf d n:Nat} {h:H}
theorem alo{v:Value}{ln:List Nat}(hR:Row h n 3 .i64 v (iN ln))(w:Wh ln)(hl:ln.length<=258)(qa:0<ln.length)(aA:3000<=lf):aj (fun _=>False) n (au ai gt lf (d+2) 48 #[v]) h n fun v' h' n'=>v'= .slice (some ⟨n,0,none⟩) ln.length ln.length∧n'=n+1∧h'.get n=some ⟨9,true,zF ln⟩∧∀b,b<n->h'.get b=h.get b:=by
 have bR:=db ln
 obtain⟨b0,off,cap,o,ks,rfl,Mh,hb0,_,_,_,hv0⟩:=hR.some (by omega)
 rw[aQ (fun _=>afg) rfl]
 refine aj.aP ?_
 unfold Ks
 try simp(disch:=first|omega|assumption|exact aa _) only[ah,ae,RZ]
 rw[bR]
 refine Ev.run_make trivial ln.length ln.length _ (av _) (by omega) ?_
 refine ed 20 (fun fu i (s:List Bool)=>tG lf (au ai gt lf (d+1)) fu (yI lf (au ai gt lf (d+1))) (.slice (some ⟨b0,off,none⟩) ln.length cap) (.slice none 0 0) (.slice (some ⟨n,0,none⟩) ln.length ln.length) (tx s) (.int .i64 ((i+1:Nat):Int))) (fun i s h' n'=>n'=n+1∧h'.get n=some ⟨9,true,ck ln (i+1) 0⟩∧(∀b,b<n->h'.get b=h.get b)∧lF ln (i+1) 0 s∧s.length<=i) ?_ ?_ lf 0 [] _ (n+1) (dx _) (by omega) ⟨rfl,by rw[get_eq,alm w];rfl,fun b hb=>aK _ _ (by omega),lF.zero w,dx _⟩
 ·rintro fu s h' n' ⟨rfl,g,k,_⟩
  rw[tG]
  have c1:¬(((20+1:Nat):Int)<=20):=by omega
  try simp(disch:=first|omega|assumption|exact aa _) only[ah,ae,RZ,c1]
  (try unfold yI);(try dsimp only)
  try simp(disch:=first|omega|assumption|exact aa _) only[ah,ae,RZ]
  exact⟨by rw[g,aln w],k⟩
 ·rintro fu i s h' n' hi ⟨rfl,g,k,lc,sl⟩ next
  rw[tG]
  have c1:((i+1:Nat):Int)<=20:=by omega
  try simp(disch:=first|omega|assumption|exact aa _) only[ah,ae,RZ,c1]
  refine ed ln.length (fun Hc j (s:List Bool)=>ql lf (au ai gt lf (d+1)) Hc (Kr lf (au ai gt lf (d+1)) fu (yI lf (au ai gt lf (d+1)))) (.slice (some ⟨b0,off,none⟩) ln.length cap) (.slice none 0 0) (.slice (some ⟨n,0,none⟩) ln.length ln.length) (tx s) (.int .i64 ((i+1:Nat):Int)) (.bool true) (.slice (some ⟨b0,off,none⟩) ln.length cap) (.int .i64 (ln.length:Int)) (.int .i64 (j:Nat))) (fun j s h' n'=>n'=n+1∧h'.get n=some ⟨9,true,ck ln (i+1) j⟩∧(∀b,b<n->h'.get b=h.get b)∧lF ln (i+1) j s∧s.length<=i+1) ?_ ?_ lf 0 s h' (n+1) (dx _) (by omega) ⟨rfl,g,k,lc,by omega⟩
  ·rintro Hc s2 h2 n2 ⟨rfl,g2,k2,Hd,He⟩
   rw[ql]
   try simp(disch:=first|omega|assumption|exact aa _) only[ah,ae,RZ,bH]
   (try unfold Kr);(try unfold EH);(try dsimp only)
   try simp(disch:=first|omega|assumption|exact aa _) only[ah,ae,RZ]
   rw[alk]at g2
   have:=next s2 h2 (n+1) ⟨rfl,g2,k2,Hd.row,He⟩
   first|exact this|(rw[show(((i+1:Nat):Int)+1)=((i+1+1:Nat):Int) by omega];exact this)
  ·rintro Hc j s2 h2 n2 hj ⟨rfl,g2,k2,Hd,He⟩ lI
   rw[ql]
   have c2:((j:Nat):Int)<((ln.length:Nat):Int):=by omega
   have hv:=hv0 j (by omega)
   rw[kz]at hv
   have g0:h2.get b0=_:=(k2 b0 hb0).trans Mh
   have nT:b0<n+1:=by omega
   by_cases hn:ln.getD j 0=i+1
   ·obtain⟨Hf,aaC⟩:=Hd.Ga w hj hn
    have e1:((((ln.getD j 0:Nat):Int)) !=((i+1:Nat):Int))=false:=by rw[hn];simp
    have jj:=alj hj hn
    have fG:j<(ck ln (i+1) j).length:=by rw[Hb];exact hj
    by_cases hs:s2=[]
    ·subst hs
     rw[if_pos rfl]at Hf
     have e2:decide (([]:List Bool)=[])=true:=rfl
     try simp(disch:=first|omega|assumption|exact aa _) only[ah,ae,RZ,c2,g0,hv,e1,YQ,YS,e2]
     refine ed (i+1) (fun N4 r (_:Unit)=>vX lf (au ai gt lf (d+1)) N4 (Th lf (au ai gt lf (d+1)) Hc (Kr lf (au ai gt lf (d+1)) fu (yI lf (au ai gt lf (d+1))))) (.slice (some ⟨b0,off,none⟩) ln.length cap) (.slice none 0 0) (.slice (some ⟨n,0,none⟩) ln.length ln.length) (tx (bI r false)) (.int .i64 ((i+1:Nat):Int)) (.int .i64 (j:Nat)) (.int .i64 ((ln.getD j 0:Nat):Int)) (.bool true) (.slice (some ⟨b0,off,none⟩) ln.length cap) (.int .i64 (ln.length:Int)) (.int .i64 (j:Nat)) (.bool true) (.bool false) (.bool true) (.int .i64 ((i+1:Nat):Int)) (.int .i64 (r:Nat))) (fun r _ h' n'=>n'=n+1∧h'=h2) ?_ ?_ lf 0 () h2 (n+1) (dx _) (by omega) ⟨rfl,rfl⟩
     ·rintro N4 _ h3 n3 ⟨rfl,rfl⟩
      rw[vX]
      try simp(disch:=first|omega|assumption|exact aa _) only[ah,ae,RZ,bH]
      (try unfold Th);(try unfold EG);(try dsimp only)
      rw[Hf]
      try simp(disch:=first|omega|assumption|exact aa _) only[ah,ae,RZ,c2]
      refine Mn trivial n j _ _ g2 (by omega) fG (YR _) (.inl (av _)) ?_
      try simp(disch:=first|omega|assumption|exact aa _) only[ah,ae,RZ]
      rw[jj]
      exact lI (bY (ff ln j) (i+1)) _ (n+1) ⟨rfl,get_eq _ _ _,fun b hb=>by rw[aK _ _ (by omega)];exact k2 b hb,aaC,by rw[dL];exact av _⟩
     ·rintro N4 r _ h3 n3 hr ⟨rfl,rfl⟩ NC
      rw[vX]
      have c3:((r:Nat):Int)<((i+1:Nat):Int):=by omega
      have a1:=lJ (bI r false) [false] (by rw[jJ];show _+1<=_;omega)
      rw[<-amo]at a1
      try simp(disch:=first|omega|assumption|exact aa _) only[ah,ae,RZ,c3,rT,a1]
      exact NC () h3 (n+1) ⟨rfl,rfl⟩
    ·have e2:decide (s2=[])=false:=decide_eq_false hs
     rw[if_neg hs]at Hf
     try simp(disch:=first|omega|assumption|exact aa _) only[ah,ae,RZ,c2,g0,hv,e1,YQ,YS,e2]
     refine bV (alh (lf:=lf) (d:=d) s2 (i+1) (by omega) He (by omega)) (by omega) (fun _ _ h=>h.elim) ?_
     rw[Hf]
     try simp(disch:=first|omega|assumption|exact aa _) only[ah,ae,RZ]
     refine Mn trivial n j _ _ g2 (by omega) fG (YR _) (.inl (av _)) ?_
     try simp(disch:=first|omega|assumption|exact aa _) only[ah,ae,RZ]
     rw[jj]
     exact lI (bY (ff ln j) (i+1)) _ (n+1) ⟨rfl,get_eq _ _ _,fun b hb=>by rw[aK _ _ (by omega)];exact k2 b hb,aaC,by rw[dL];exact av _⟩
   ·have e1:((((ln.getD j 0:Nat):Int)) !=((i+1:Nat):Int))=true:=by rw[bne_iff_ne];omega
    try simp(disch:=first|omega|assumption|exact aa _) only[ah,ae,RZ,c2,g0,hv,e1]
    rw[<-ali hn]at g2
    exact lI s2 h2 (n+1) ⟨rfl,g2,k2,Hd.skip hj hn,He⟩
end
section
variable {lf d n:Nat} {h:H}
end
def TT(h:H)(lo n:Nat)(v:Value)(pL:List (List Nat)):Prop:=∃cs,Own h lo n 82 v cs∧cs.length=pL.length∧∀i,i<pL.length->∃b,cs.getD i undef= .slice (some ⟨b,0,none⟩) (pL.getD i []).length (pL.getD i []).length∧h.get b=some ⟨9,true,zF (pL.getD i [])⟩∧lo<=b∧b<n
theorem TT.nil(h:H)(lo n:Nat):TT h lo n (.slice none 0 0) []:=⟨[],Own.nil _ _ _ _,rfl,fun i hi=>absurd hi (Nat.not_lt_zero i)⟩
theorem TT.aB{h h':H}{lo n n':Nat}{v:Value}{pL:List (List Nat)}(x:TT h lo n v pL)(hn:n<=n')(hk:∀b,lo<=b->b<n->h'.get b=h.get b):TT h' lo n' v pL:=by
 obtain⟨cs,o,hl,ht⟩:=x
 refine⟨cs,o.aB hn fun b hb=>hk b (o.lt hb).1 (o.lt hb).2,hl,fun i hi=> ?_⟩
 obtain⟨b,e,g,h1,h2⟩:=ht i hi
 exact⟨b,e,(hk b h1 h2).trans g,h1,by omega⟩
theorem TT.len{h:H}{lo n:Nat}{v:Value}{pL:List (List Nat)}(x:TT h lo n v pL):∃a c,v= .slice a pL.length c:=by
 obtain⟨cs,o,hl,ht⟩:=x
 rcases o with ⟨e1,e2⟩|⟨b,e1,_⟩
 ·subst e2
  exact⟨none,0,by rw[e1,<-hl];rfl⟩
 ·exact⟨_,_,by rw[e1,hl]⟩
section
variable {lf d n:Nat} {h:H}
end
end Go.Proofs.YtdagfcflbphoiaaGreatDoor
namespace Go.Proofs.YtdagfcflbphoiaaGreatDoor
open Go.RowKit Ev Tb Cn
section
variable {lf d:Nat} {tb iL iM:Nat} {T:List (List Int)} {s:Nat}
set_option maxHeartbeats 400000 in
theorem alp(aA:3000000<=lf)(hT:∀r∈T,GoodR s r)(h3:3<=s)(fC:s<=258)(zg:T.length<=6){n0 m1:Nat}(h0:n0<=m1){h1:H}(Cc:RR h1 m1 22 3 (.slice (some ⟨tb,iL,none⟩) T.length iM) T){x1 x2 x3 x4:Value}{K:Value->Value->Value->Value->Value->Value->Value->Value->Value->Value->M Value}{Q:Value->H->Nat->Prop}:
 ∀(m i fu:Nat) (t:List Bool) (h:H) (n:Nat) (gv:Value),T.length-i=m->m<fu->i<=T.length->m1<=n->(∀b,b<m1->h.get b=h1.get b)->TT h m1 n gv ((T.take i).map bu)->t.length+11000*m<=9000000->
 (∀h' n' mE,m1<=n'->(∀b,b<m1->h'.get b=h1.get b)->TT h' m1 n' mE (T.map bu)->aj (fun _=>False) n0 (K x1 x2 x3 x4 (tx (t++((T.drop i).map bu).flatMap iI)) mE (.slice (some ⟨tb,iL,none⟩) T.length iM) (.int .i64 (T.length:Int)) (.int .i64 (T.length:Int)) (.bool false)) h' n' Q)->
 aj (fun _=>False) n0 (vK lf (au ai gt lf (d+2)) fu K x1 x2 x3 x4 (tx t) gv (.slice (some ⟨tb,iL,none⟩) T.length iM) (.int .i64 (T.length:Int)) (.int .i64 (i:Int))) h n Q:=by
 intro m
 induction m with
 |zero=>
  intro i fu t h n gv hm hf hi hn hk hg ht hK
  obtain⟨fu,rfl⟩:∃f,fu=f+1:=⟨fu-1,by omega⟩
  obtain rfl:i=T.length:=by omega
  rw[vK]
  try simp(disch:=first|omega|assumption|exact aa _) only[ah,ae,RZ,bH]
  rw[List.take_length]at hg
  have:=hK h n gv hn hk hg
  rw[oL]at this
  simpa using this
 |succ m ih=>
  intro i fu t h n gv hm hf hi hn hk hg ht hK
  obtain⟨fu,rfl⟩:∃f,fu=f+1:=⟨fu-1,by omega⟩
  have e1:((i:Nat):Int)<((T.length:Nat):Int):=by omega
  obtain⟨b,off,cap,o,ks,hv,jb,hb,bk⟩:=(Cc.aB hn hk).at (by omega)
  cases hv
  obtain⟨rv,Ce,eo⟩:=bk i (by omega)
  have gr:=hT _ (N2 (T:=T) (p:=i) (by omega))
  rw[<-gr.eq]at eo
  have dl:=zD gr.hi (by rw[gr.len];omega) (by rw[gr.len];omega)
  have w1:((i:Nat):Int)+1=((i+1:Nat):Int):=rfl
  have a1:=fun(k:Value->M Value)=>lJ t (iI (bu (T.getD i []))) (by omega) k
  rw[vK]
  try simp(disch:=first|omega|assumption|exact aa _) only[ah,ae,RZ,e1,jb,Ce]
  refine bV (akZ (lf:=lf) (d:=d) eo (by rw[gr.len];omega) (by rw[gr.len];omega) gr.hi aA) (by omega) (fun _ _ h=>h.elim) ?_
  try simp(disch:=first|omega|assumption|exact aa _) only[ah,ae,RZ,a1]
  have alq:(bu (T.getD i [])).length<=258:=by rw[gr.len];omega
  have l0:0<(bu (T.getD i [])).length:=by rw[gr.len];omega
  have NT:=alo (lf:=lf) (d:=d) eo gr.wh alq l0 (Nat.le_trans (by decide) aA)
  refine bh aW NT (by omega) (fun _ _ h=>h.elim) fun v2 h2 n2 ey eR iE=> ?_
  obtain⟨rfl,rfl,g2,_⟩:=iE
  obtain⟨cs,ow,cl,eh⟩:=hg
  have ow2:Own h2 m1 (n+1) 82 gv cs:=ow.aB (by omega) fun b hb=>eR b (ow.lt hb).2 id
  have tk:(T.take i).length=i:=by rw[cJ];omega
  rw[dE,tk]at cl eh
  refine Mj trivial (ad_ _ _ _) ow2 (by omega) (fun b hb=> .inl (by have:=(ow.lt hb).1;omega)) _ fun h4 g4 k4=> ?_
  try simp(disch:=first|omega|assumption|exact aa _) only[ah,ae,RZ]
  rw[w1]
  refine ih (i+1) fu _ h4 (n+1+2) _ (by omega) (by omega) (by omega) (by omega) (fun b hb=> ?_) ?_ (by rw[aY];omega) fun h' n' mE q1 q2 q3=> ?_
  ·rw[k4 b (by omega) fun q=>by have:=(ow.lt q).1;omega,eR b (by omega) id]
   exact hk b hb
  ·have tk2:T.take (i+1)=T.take i++[T.getD i []]:=by rw[aF,aM (by omega)];exact(List.take_append_getElem (by omega)).symm
   have rl:((T.take i).map bu).length=i:=by rw[dE,tk]
   rw[tk2,eK]
   refine⟨_,Own.mk' g4 (by omega) (by omega) (by simp),by rw[aY,aY,cl,rl];rfl,fun j hj=> ?_⟩
   rw[aY,rl]at hj
   by_cases xE:j<i
   ·obtain⟨b,e1,e2,e3,e4⟩:=eh j xE
    refine⟨b, ?_, ?_,e3,by omega⟩
    ·rw[aF,pO (by omega),<-aF,e1,aF,aF,pO (by omega)]
    ·rw[k4 b (by omega) (fun q=>by
      obtain⟨B,q1,q2⟩:=ow.elem q
      rw[e2]at q1
      cases q1
      exact absurd (show(9:Nat)=82 from q2) (by decide)),eR b (by omega) id,e2]
     rw[aF,aF,pO (by omega)]
   ·obtain rfl:j=i:=by simp at hj;omega
    have gi:(((T.take j).map bu)++[bu (T.getD j [])]).getD j []=bu (T.getD j []):=by
     rw[aF,uC (by omega),rl,nE]
     rfl
    refine⟨n, ?_, ?_,by omega,by omega⟩
    ·rw[mF,Cw,gi,aF,uC (by omega),cl,nE]
     rfl
    ·rw[mF,Cw,gi,k4 n (by omega) (fun q=>by have:=(ow.lt q).2;omega)]
     exact g2
  ·have:=hK h' n' mE q1 q2 q3
   rwa[jW [] (show i<T.length by omega),mF,uG,<-cI]at this
end
section
variable {lf d n z lo:Nat} {h:H} {xv pv tv gv:Value} {rows:List (List Nat)} {ps xn:List Nat} {e:TypeId}
set_option maxHeartbeats 400000 in
theorem alr(hx:Row h n 3 .i64 xv (iN xn))(hp:Row h n 3 .i64 pv (iN ps))(eE:h.get z=some ⟨e,true,[tv,pv]⟩)(hz:z<n)(hT:TT h lo n gv rows)(G':∀r∈rows,Wh r)(NQ:∀p∈ps,p<rows.length)(iT:∀i,i<xn.length->i/50<ps.length)(NS:∀x∈xn,∀r∈rows,x<r.length)(G0:xn.length<=100000){x2 x3 x7 x8 x9 x10:Value}{n0:Nat}:
 ∀(m i fu:Nat) (t:List Bool),xn.length-i=m->m<fu->i<=xn.length->t.length+20*m<=100000000->
 aj (fun _=>False) n0 (vL lf (au ai gt lf d) fu (El lf (au ai gt lf d)) xv x2 x3 (.pointer (some ⟨z,0,none⟩)) (tx t) gv x7 x8 x9 x10 xv (.int .i64 (xn.length:Int)) (.int .i64 (i:Int))) h n fun v' h' n'=>v'=tx (t++jG rows ps i (xn.drop i))∧h'=h∧n'=n:=by
 intro m
 induction m with
 |zero=>
  intro i fu t hm hf hi ht
  obtain⟨fu,rfl⟩:∃f,fu=f+1:=⟨fu-1,by omega⟩
  obtain rfl:i=xn.length:=by omega
  rw[vL]
  try simp(disch:=first|omega|assumption|exact aa _) only[ah,ae,RZ,bH]
  (try unfold El);(try unfold anF);(try dsimp only)
  try simp(disch:=first|omega|assumption|exact aa _) only[ah,ae,RZ]
  rw[oL]
  simp[jG]
 |succ m ih=>
  intro i fu t hm hf hi ht
  obtain⟨fu,rfl⟩:∃f,fu=f+1:=⟨fu-1,by omega⟩
  have il:=db xn
  have pl:=db ps
  have hq:=iT i (by omega)
  obtain⟨b1,o1,c1,w1,k1,rfl,g1,l1,_,_,_,t1⟩:=hx.some (by omega)
  obtain⟨b2,o2,c2,w2,k2,rfl,g2,l2,_,_,_,t2⟩:=hp.some (by omega)
  have a1:=t1 i (by omega)
  have a2:=t2 (i/50) (by omega)
  rw[kz]at a1 a2
  have pm:=NQ _ (xF hq)
  have rm:rows.getD (ps.getD (i/50) 0) []∈rows:=by rw[aF,aM pm];exact cN _
  have Cf:xn.getD i 0<(rows.getD (ps.getD (i/50) 0) []).length:=NS _ (xF (by omega)) _ rm
  obtain⟨cs,ow,cl,eh⟩:=hT
  obtain⟨b,ec,gc,_,bn⟩:=eh _ pm
  rcases ow with ⟨_,e0⟩|⟨gb,rfl,gg,_,gbn⟩
  ·rw[e0]at cl
   simp at cl
   omega
  have ecs:cs[ps.getD (i/50) 0]? =some (.slice (some ⟨b,0,none⟩) (rows.getD (ps.getD (i/50) 0) []).length (rows.getD (ps.getD (i/50) 0) []).length):=by
   rw[<-ec,aF (l:=cs),aM (by rw[cl];exact pm)]
   rfl
  have et:(zF (rows.getD (ps.getD (i/50) 0) []))[xn.getD i 0]? =some (tx (oC (rows.getD (ps.getD (i/50) 0) []) (xn.getD i 0))):=by
   unfold zF
   rw[j4,List.getElem?_range Cf]
   rfl
  have e1:((i:Nat):Int)<((xn.length:Nat):Int):=by omega
  have NU:((i:Nat):Int)<(((iN xn).length:Nat):Int):=by omega
  have q1:((i:Nat):Int).tdiv 50=((i/50:Nat):Int):=rfl
  have q2:((i/50:Nat):Int)<(((iN ps).length:Nat):Int):=by omega
  have q3:((ps.getD (i/50) 0:Nat):Int)<((cs.length:Nat):Int):=by omega
  have q4:IntKind.i64.wrap ((i/50:Nat):Int)=((i/50:Nat):Int):=bB (by omega) (by omega)
  have q5:((xn.getD i 0:Nat):Int)<(((rows.getD (ps.getD (i/50) 0) []).length:Nat):Int):=by omega
  have ww:((i:Nat):Int)+1=((i+1:Nat):Int):=rfl
  have z1:([tv,Value.slice (some ⟨b2,o2,none⟩) (iN ps).length c2]:List Value)[1]? =some (.slice (some ⟨b2,o2,none⟩) (iN ps).length c2):=rfl
  have anG:(oC (rows.getD (ps.getD (i/50) 0) []) (xn.getD i 0)).length<=20:=by
   unfold oC
   rw[dL]
   exact((G' _ rm).at Cf).2
  have ad:=fun(k:Value->M Value)=>lJ t (oC (rows.getD (ps.getD (i/50) 0) []) (xn.getD i 0)) (by omega) k
  rw[vL]
  try simp(disch:=first|omega|assumption|exact aa _) only[ah,ae,RZ,e1,NU,g1,a1,eE,z1,q1,q4,q2,g2,a2,q3,gg,ecs,q5,gc,et,ad,iO]
  rw[ww]
  have:=ih (i+1) fu (t++oC (rows.getD (ps.getD (i/50) 0) []) (xn.getD i 0)) (by omega) (by omega) (by omega) (by rw[aY];omega)
  rw[jW 0 (show i<xn.length by omega),zC,<-cI]
  exact this
end
section
variable {lf d n:Nat} {h:H}
set_option maxHeartbeats 400000 in
theorem als(aA:3000000<=lf){v:Value}{xs:List Int}(hR:Row h n 3 .i64 v xs)(hl:xs.length<=1000){z:Int}(hm:iJ xs z)(hd:600<=d):
 aj (fun _=>False) n (au ai gt lf (d+5) 15 #[v,.int .i64 z]) h n fun v' _ _=>v'=tx (oD xs z):=by
 have ok:=xG hm (by omega)
 have hz:=hm.2.1
 rw[aQ (fun _=>aeL) rfl]
 refine aj.aP ?_
 unfold J'
 have bg:=hR
 obtain⟨a,c,rfl⟩:=hR.len
 have rt:=aj7 lf (d+4) n h aA _ xs z.toNat bg hm.1 (by omega) (by omega) (by omega) (by rw[j6 (by omega)];exact hm.2.2.1) (by omega)
 rw[j6 (by omega)]at rt
 refine bh aW rt (av _) (fun _ _ h=>h.elim) fun v1 h1 n1 bQ cM nA=> ?_
 obtain⟨cx,cy,rfl,fU,mC⟩:=nA
 have dH:=bg.aB bQ fun b hb=>cM b hb id
 have o1:one cx=true:=by obtain⟨_,_,rfl⟩:=fU.len;rfl
 have o2:one cy=true:=by obtain⟨_,_,rfl⟩:=mC.len;rfl
 refine kU AJ _ ?_
 refine xm (sz:=2) trivial (vs:=[cx,cy]) rfl rfl (by simp[o1,o2]) (get_eq _ _ _) (by omega) (.inl (by omega)) _ fun h2 g2 k2=> ?_
 have oF:∀b,b<n1->h2.get b=h1.get b:=fun b hb=>by rw[k2 b (by omega),aK _ _ (by omega)]
 have iC:=dH.aB (cX n1) oF
 have bN:=fU.aB (cX n1) oF
 have dS:Row h2 (n1+1) 3 .i64 cy (iN (cR xs z)):=mC.aB (cX n1) oF
 have tl:(bA xs z.toNat 4).length=(rowsOf xs z).length:=by unfold rowsOf;rw[dE]
 have r2:=ok.r2
 have r6:=ok.r6
 obtain⟨tb,iL,iM,to,DK,rfl,tg,_,_⟩:=bN.at (by omega)
 have gJ:n1<n1+1:=by omega
 try simp(disch:=first|omega|assumption|exact aa _) only[ah,ae,RZ,g2]
 rw[tl]
 refine bV (ak3 (lf:=lf) (d:=d+2) dS ok.r6 ok.p0 (by rw[ok.pl];unfold cW;omega) (fun p hp=>by have:=ok.pm p hp;omega) aA) (by omega) (fun _ _ h=>h.elim) ?_
 have p6:(lP (rowsOf xs z).length (cR xs z)).length<=300000:=by
  rw[Cb]
  have:=Ca (l:=fh eS (cR xs z)) (xD _ _ uy fun p hp=>by have:=ok.pm p hp;omega)
  rw[ux,ok.pl]at this
  unfold cW at this
  omega
 try simp(disch:=first|omega|assumption|exact aa _) only[ah,ae,RZ,g2]
 rw[<-tl]
 rw[<-tl]at p6
 refine alp (lf:=lf) (d:=d+2) (T:=bA xs z.toNat 4) (s:=z.toNat) aA ok.oE (by omega) (by omega) (by omega) (n0:=n) (m1:=n1+1) (by omega) bN (bA xs z.toNat 4).length 0 lf _ h2 (n1+1) _ (by omega) (by omega) (by omega) (av _) (fun _ _=>rfl) (TT.nil _ _ _) (by omega) fun h4 n4 gv jF k4 hT4=> ?_
 (try unfold Em);(try dsimp only)
 have ll:(bu xs).length=xs.length:=by unfold bu;rw[dE]
 try simp(disch:=first|omega|assumption|exact aa _) only[ah,ae,RZ]
 have fl:=Cg (rows:=((bA xs z.toNat 4).drop 0).map bu) fun r hr=>by
  rw[eJ]at hr
  obtain⟨q,hq,rfl⟩:=List.mem_map.1 hr
  have gr:=ok.oE q hq
  exact zD gr.hi (by rw[gr.len];omega) (by rw[gr.len];omega)
 rw[dE,eJ,tl]at fl
 have rb:=alr (lf:=lf) (d:=d+4) (n:=n4) (z:=n1) (lo:=n1+1) (h:=h4) (xv:= .slice a xs.length c) (pv:=cy) (tv:= .slice (some ⟨tb,iL,none⟩) (bA xs z.toNat 4).length iM) (gv:=gv) (rows:=rowsOf xs z) (ps:=cR xs z) (xn:=bu xs) (e:=78) (by rw[ok.ie];exact iC.aB jF k4) (dS.aB jF k4) ((k4 n1 gJ).trans g2) (by omega) hT4 ok.wh ok.pm ok.at_ ok.sy (by rw[ll];omega) (x2:= .int .i64 z) (x3:= .string ⟨#[]⟩) (x7:= .slice (some ⟨tb,iL,none⟩) (bA xs z.toNat 4).length iM) (x8:= .int .i64 ((bA xs z.toNat 4).length:Int)) (x9:= .int .i64 ((bA xs z.toNat 4).length:Int)) (x10:= .bool false) (n0:=n) (bu xs).length 0 lf (lP (bA xs z.toNat 4).length (cR xs z)++((bA xs z.toNat 4).map bu).flatMap iI) (by omega) (by omega) (by omega) (by rw[aY];omega)
 rw[ll,show((0:Nat):Int)=0 from rfl]at rb
 rw[eJ]
 refine rb.mono ?_
 rintro v' h' n' _ ⟨rfl,_,_⟩
 rw[eJ,cI,tl]
 rfl
end
end Go.Proofs.YtdagfcflbphoiaaGreatDoor
namespace Go.Proofs.YtdagfcflbphoiaaGreatDoor
open Go.RowKit Ev Cn
section
variable {lf d n:Nat} {h:H}
theorem alu(aA:100<=lf){v k:Nat}(hv:v<4294967296)(hk:k<=32):aj (fun _=>False) n (au ai gt lf (d+1) 7 #[.int .u32 (v:Int),.int .i64 (k:Int)]) h n fun v' h' n'=>v'= .bool (decide (v<2^k))∧h'=h∧n'=n:=by
 rw[aQ (fun _=>aeE) rfl]
 refine aj.aP ?_
 unfold J3
 have c1:¬((k:Int)<0):=by omega
 have c2:¬((32:Int)<(k:Int)):=by omega
 have key:∀(x3 x5:Value) (m i fu:Nat),k-i=m->m<fu->i<=k->aj (fun _=>False) n (vE lf (au ai gt lf d) fu (Ee lf (au ai gt lf d)) (.int .u32 (v:Int)) (.int .i64 (k:Int)) x3 (.int .u64 ((2^i:Nat):Int)) x5 (.int .i64 (k:Int)) (.int .i64 (i:Int))) h n fun v' h' n'=>v'= .bool (decide (v<2^k))∧h'=h∧n'=n:=by
  intro x3 x5 m
  induction m with
  |zero=>
   intro i fu hm hf hi
   obtain⟨fu,rfl⟩:∃f,fu=f+1:=⟨fu-1,by omega⟩
   obtain rfl:i=k:=by omega
   rw[vE]
   try simp(disch:=first|omega|assumption|exact aa _) only[ah,ae,RZ,bH]
   (try unfold Ee);(try dsimp only)
   have w1:IntKind.u64.wrap (v:Int)=(v:Int):=amX _ (by omega)
   generalize (2:Nat)^i=p
   have e:decide ((v:Int)<(p:Int))=decide (v<p):=by simp
   try simp(disch:=first|omega|assumption|exact aa _) only[ah,ae,RZ,w1,e]
   all_goals (first|rfl|exact⟨rfl,rfl,rfl⟩|exact⟨rfl,rfl⟩)
  |succ m ih=>
   intro i fu hm hf hi
   obtain⟨fu,rfl⟩:∃f,fu=f+1:=⟨fu-1,by omega⟩
   have c:((i:Nat):Int)<((k:Nat):Int):=by omega
   have hp:(2:Nat)^(i+1)<=2^32:=Nat.pow_le_pow_right (by decide) (by omega)
   have gG:(2:Nat)^(i+1)=2*2^i:=by rw[Nat.pow_succ];omega
   have w1:IntKind.u64.wrap (2*((2^i:Nat):Int))=((2^(i+1):Nat):Int):=by
    rw[gG]
    rw[gG]at hp
    generalize (2:Nat)^i=q at hp
    exact amX _ (by omega)
   have w2:((i:Nat):Int)+1=((i+1:Nat):Int):=rfl
   rw[vE]
   try simp(disch:=first|omega|assumption|exact aa _) only[ah,ae,RZ,c,w1]
   rw[w2]
   exact ih (i+1) fu (by omega) (by omega) (by omega)
 try simp(disch:=first|omega|assumption|exact aa _) only[ah,ae,RZ,c1,c2]
 exact key _ _ k 0 lf (by omega) (by omega) (by omega)
end
end Go.Proofs.YtdagfcflbphoiaaGreatDoor
namespace Go.Proofs.YtdagfcflbphoiaaGreatDoor
open Go.RowKit Ev Tb Cn
theorem alv{a:Tk}{b k n2:Nat}{W':Nat->Prop}(ha:∀e∈a.log,e.b<n2)(hw:∀e∈a.log,e.wr=true->W' e.b)(hb:b<a.n)(hW:¬W' b):fH a ⟨n2,n2,[⟨false,b,some k⟩]⟩=false:=by
 rw[Aq]
 unfold Tk.iQ
 simp only[Bool.or_eq_false_iff,List.any_eq_false,cb,decide_eq_true_eq,not_and,List.mem_singleton]
 refine⟨⟨⟨fun x hx bN=> ?_,fun x hx bN=> ?_⟩,fun x hx hle=> ?_⟩,fun x hx hle=> ?_⟩
 ·simp only[List.any_cons,List.any_nil,Bool.or_false,Bool.not_eq_true]
  unfold En.meets
  have:x.b≠b:=fun e=>hW (e▸hw x hx bN)
  simp[this]
 ·subst hx;cases bN
 ·have:=ha x hx
  omega
 ·subst hx
  simp only at hle⊢
  omega
theorem alw{xs:List Int}{z:Int}(hm:iJ xs z)(hl:xs.length<=1000):(oD xs z).length<=400000:=by
 have ok:=xG hm (by omega)
 have r6:=ok.r6
 have hz:=hm.2.1
 have ll:(bu xs).length=xs.length:=by unfold bu;rw[dE]
 have p6:(lP (rowsOf xs z).length (cR xs z)).length<=300:=by
  rw[Cb]
  have:=Ca (l:=fh eS (cR xs z)) (xD _ _ uy fun p hp=>by have:=ok.pm p hp;omega)
  rw[ux,ok.pl]at this
  unfold cW at this
  omega
 have fl:=Cg (rows:=rowsOf xs z) fun r hr=>by
  unfold rowsOf at hr
  obtain⟨q,hq,rfl⟩:=List.mem_map.1 hr
  have gr:=ok.oE q hq
  exact zD gr.hi (by rw[gr.len];omega) (by rw[gr.len];omega)
 have sm:=N3 (rows:=rowsOf xs z) (ps:=cR xs z) (fun r hr y hy=>by
  unfold rowsOf at hr
  obtain⟨q,hq,rfl⟩:=List.mem_map.1 hr
  exact(ok.oE q hq).hi y hy) (bu xs) 0
 unfold oD
 rw[aY,aY]
 omega
section
variable {lf d n:Nat} {h:H}
set_option maxHeartbeats 1000000 in
theorem alx(g0:Gd h n){v:Value}{xs:List Int}(hR:Row h n 3 .i64 v xs)(G0:xs.length<=9223372036854775807)(size:Int)(q0 q1:Nat)(h0:q0<4294967296)(h1:q1<4294967296)(aA:3000000<=lf)(hd:600<=d):
 aj (fun _=>False) n (au ai gt lf (d+11) 3 #[v,.int .i64 size,.agg #[.int .u32 (q0:Int),.int .u32 (q1:Int)]]) h n fun v' _ _=>v'= .bool true:=by
 rw[aQ (fun _=>aeC) rfl]
 refine aj.aP ?_
 unfold R0
 have bg:=hR
 obtain⟨a,c,rfl⟩:=hR.len
 refine qi trivial _ _ ?_
 obtain⟨h2,gy⟩:∃h2,h.set n (some ⟨24,true,(Hp #[.int .u32 (q0:Int),.int .u32 (q1:Int)]).cells.toList⟩)=h2:=⟨_,rfl⟩
 have g2:h2.get n=some ⟨24,true,[.int .u32 (q0:Int),.int .u32 (q1:Int)]⟩:=by rw[<-gy,get_eq];rfl
 have k2:∀b,b<n->h2.get b=h.get b:=fun b hb=>by rw[<-gy];exact aK _ _ (by omega)
 rw[gy]
 have iC:=bg.aB (cX n) k2
 have r5:Gd h2 (n+1):=g0.aB (cX n) k2
 have gJ:n<n+1:=by omega
 have e1:((q1:Nat):Int).tmod 9=((q1 %9:Nat):Int):=rfl
 have e2:IntKind.i64.wrap ((q1 %9:Nat):Int)=((q1 %9:Nat):Int):=bB (by omega) (by omega)
 have z0:([.int .u32 (q0:Int),.int .u32 (q1:Int)]:List Value)[Cy 0]? =some (.int .u32 (q0:Int)):=rfl
 have z1:([.int .u32 (q0:Int),.int .u32 (q1:Int)]:List Value)[Cy 1]? =some (.int .u32 (q1:Int)):=rfl
 by_cases hl:xs.length<=260
 rotate_left
 ·have c1:(260:Int)<(xs.length:Int):=by omega
  try simp(disch:=first|omega|assumption|exact aa _) only[ah,ae,RZ,cd,cj,cr,ct,cz,cA,cB,cC,cD,cE,g2,e1,e2,c1,z1]
  exact GC (by omega) r5
 have c1:¬((260:Int)<(xs.length:Int)):=by omega
 by_cases hs:40<size∧size<=258
 ·try simp(disch:=first|omega|assumption|exact aa _) only[ah,ae,RZ,cd,cj,cr,ct,cz,cA,cB,cC,cD,cE,g2,e1,e2,c1,z1,hs.1,hs.2]
  exact GC (by omega) r5
 have c5:40<size->¬(size<=258):=fun q=>by omega
 by_cases c3:(40:Int)<size
 all_goals (
  try simp(disch:=first|omega|assumption|exact aa _) only[ah,ae,RZ,cd,cj,cr,ct,cz,cA,cB,cC,cD,cE,g2,e1,e2,c1,z1,z0,c3,c5]
  refine bV (alu (lf:=lf) (d:=d+9) (by omega) h0 (k:=q1 %9) (by omega)) (by omega) (fun _ _ h=>h.elim) ?_
  by_cases cf:q0<2^(q1 %9)
  rotate_left
  ·rw[decide_eq_false cf]
   try simp(disch:=first|omega|assumption|exact aa _) only[ah,ae,RZ,iP]
   exact GC (by omega) r5
  rw[decide_eq_true cf]
  try simp(disch:=first|omega|assumption|exact aa _) only[ah,ae,RZ,gM]
  refine bh aW (akr (lf:=lf) (d:=d+9)) (by omega) (fun _ _ h=>h.elim) fun v3 h3 n3 fy dU ny=> ?_
  obtain⟨rfl,rfl,x3⟩:=ny
  have g3:h3.get n=some ⟨24,true,[.int .u32 (q0:Int),.int .u32 (q1:Int)]⟩:=(dU n gJ id).trans g2
  have zr:n<n+1+1:=by omega
  have uv:=iC.aB fy fun b hb=>dU b hb id
  have gd3:=r5.aB fy fun b hb=>dU b hb id
  try simp(disch:=first|omega|assumption|exact aa _) only[ah,ae,RZ,cd,cj,cr,ct,cz,cA,cB,cC,cD,cE,g3,z0]
  refine bh aW (zv (lf:=lf) (d:=d+8) x3 (k:=q1 %9) (v:=q0) (by omega) cf (by simp) (by omega)) (by omega) (fun b _ hb=> .inl (by rcases hb with rfl|hb;omega;exact hb.not_nil.elim)) fun v4 h4 n4 jF kC xy=> ?_
  obtain⟨rfl,s4,x4,hc4⟩:=xy
  rw[List.nil_append]at x4
  have k4:∀b,b<n+1->h4.get b=h3.get b:=fun b hb=>kC b (by omega) fun q=>by
   rcases q with q|q
   ·omega
   ·exact q.not_nil
  have a4:∀b,b<n+1->h4.get b=h2.get b:=fun b hb=>(k4 b hb).trans (dU b hb id)
  have hR4:=iC.aB (n':=n4) (by omega) a4
  have gd4:=r5.aB (n':=n4) (by omega) a4
  have aaD:∀b,aD s4 b->n+1<=b:=fun b hb=>((ep.own x4).lt hb).1
  try simp(disch:=first|omega|assumption|exact aa _) only[ah,ae,RZ]
  refine bh aW (ak9 (lf:=lf) (d:=d+2) aA gd4 x4 (by have:=r5.2;omega) hR4 (by omega) (by rw[dL];omega) size (by omega)) (by omega) (fun b _ hb=> .inl (by rcases hb with rfl|hb;omega;have:=aaD b hb;omega)) fun v5 h5 n5 ud uo uq=> ?_
  have a5:∀b,b<n+1->h5.get b=h2.get b:=fun b hb=>(uo b (by omega) fun q=>by
   rcases q with q|q
   ·omega
   ·have:=aaD b q;omega).trans (a4 b hb)
  have hR5:=iC.aB (n':=n5) (by omega) a5
  have gd5:=r5.aB (n':=n5) (by omega) a5
  have g5:=(a5 n gJ).trans g2
  refine bh aW (alg (lf:=lf) (d:=d) aA gd5 hR5 (by omega) size hd) (by omega) (fun _ _ h=>h.elim) fun v6 h6 n6 GV N5 hq6=> ?_
  have a6:∀b,b<n+1->h6.get b=h2.get b:=fun b hb=>(N5 b (by omega) id).trans (a5 b hb)
  have N6:=iC.aB (n':=n6) (by omega) a6
  have gd6:=r5.aB (n':=n6) (by omega) a6
  have g6:=(a6 n gJ).trans g2
  rcases uq with ⟨hm,rfl,s5,x5,G9⟩|⟨hm,rfl,x5⟩
  ·rcases hq6 with ⟨_,rfl⟩|⟨dz,_⟩
   rotate_left
   ·exact absurd hm dz
   try simp(disch:=first|omega|assumption|exact aa _) only[ah,ae,RZ,fk,ext1]
   refine bh aW (aao (lf:=lf) (d:=d+8) aA _ xs size N6 (by omega)) (by omega) (fun _ _ h=>h.elim) fun v7 h7 n7 zk fr7 N7=> ?_
   obtain⟨⟨rfl,_⟩|⟨_,dz⟩,rfl,rfl⟩:=N7
   rotate_left
   ·exact absurd hm dz
   try simp(disch:=first|omega|assumption|exact aa _) only[ah,ae,RZ,gM]
   have al:=alw hm (by omega)
   refine bh aW (als (lf:=lf) (d:=d+5) aA N6 (by omega) hm (by omega)) (by omega) (fun _ _ h=>h.elim) fun v8 h8 n8 BZ fr8 hq8=> ?_
   subst hq8
   have x8:dV h8 (n+1) n8 (n+1) s5 (bY q0 (q1 %9)++oD xs size):=(x5.aB GV fun b hb _=>N5 b hb id).aB BZ fun b hb _=>fr8 b hb id
   have a8:∀b,b<n+1->h8.get b=h2.get b:=fun b hb=>(fr8 b (by omega) id).trans (a6 b hb)
   have aaE:∀b,aD s5 b->n+1<=b:=fun b hb=>((ep.own x8).lt hb).1
   refine bh aW (akp (lf:=lf) (d:=d+8) x8 (by rw[aY,dL];omega) (by omega)) (by omega) (fun b _ hb=> .inl (by rcases hb with rfl|hb;omega;have:=aaE b hb;omega)) fun v9 h9 n9 Z9 G3 hq9=> ?_
   obtain⟨rfl,s9,x9,hc9⟩:=hq9
   have a9:∀b,b<n+1->h9.get b=h2.get b:=fun b hb=>(G3 b (by omega) fun q=>by
    rcases q with q|q
    ·omega
    ·have:=aaE b q;omega).trans (a8 b hb)
   have z4:((0:Int)==0)=true:=rfl
   have z6:(((oD xs size).length:Int)==((oD xs size).length:Int))=true:=by simp
   try simp(disch:=first|omega|assumption|exact aa _) only[ah,ae,RZ,z4,qy,z6]
   refine D7 aW (aks (lf:=lf) (d:=d+9) x9) (by omega) (fun b _ hb=> .inl (by omega)) fun v10 qF pE L ZI G4 aly tu Mc=> ?_
   obtain⟨rfl,rfl⟩:=aly
   have a10:∀b,b<n+1->qF.get b=h2.get b:=fun b hb=>(G4 b (by omega) (by omega)).trans (a9 b hb)
   have g10:=(a10 n gJ).trans g2
   have aaF:n<pE:=by omega
   have clf:fH ⟨pE,pE,L⟩ ⟨pE,pE,[⟨false,n,some 0⟩]⟩=false:=alv (W':=fun c=>c=n+1) tu Mc aaF (by omega)
   try simp(disch:=first|omega|assumption|exact aa _) only[ah,ae,RZ,cd,cj,cr,ct,cz,cA,cB,cC,cD,cE]
   refine AF trivial n 0 _ g10 aaF rfl ?_
   try simp(disch:=first|omega|assumption|exact aa _) only[ah,ae,RZ,cd,cj,cr,ct,cz,cA,cB,cC,cD,cE]
   refine F9 aW (Gr (lf:=lf) (d:=d+9) q0 (q1 %9) h0 (by omega) (by omega)) (by omega) fun T1 t1=> ?_
   have ad:=fun(k:Value->M Value)=>lJ (bY q0 (q1 %9)) (oD xs size) (by rw[dL];omega) k
   try simp(disch:=first|omega|assumption|exact aa _) only[ah,ae,RZ,ad]
   refine ahK aW (akx (lf:=lf) (d:=d+7) (l:=bY q0 (q1 %9)++oD xs size) (by rw[aY,dL];omega) (by omega)) (by omega) fun v12 h12 n12 T12 anH alz alA=> ?_
   subst alA
   have alB:=r5.aB (n':=n12) (by omega) fun b hb=>(alz b (by omega)).trans (a10 b hb)
   try simp(disch:=first|omega|assumption|exact aa _) only[ah,ae,RZ,decide_true]
   refine F9 aW (Zp lf (d+9) _ _ alB) (by omega) fun T13 t13=> ?_
   try simp(disch:=first|omega|assumption|exact aa _) only[ah,ae,RZ,clf,iP,zN,tw]
  ·rcases hq6 with ⟨dz,_⟩|⟨_,rfl⟩
   ·exact absurd dz hm
   try simp(disch:=first|omega|assumption|exact aa _) only[ah,ae,RZ,fk,ext1]
   refine bh aW (aao (lf:=lf) (d:=d+8) aA _ xs size N6 (by omega)) (by omega) (fun _ _ h=>h.elim) fun v7 h7 n7 zk fr7 N7=> ?_
   obtain⟨⟨_,dz⟩|⟨rfl,_⟩,rfl,rfl⟩:=N7
   ·exact absurd dz hm
   have x6:=x5.aB GV fun b hb _=>N5 b hb id
   have z3:((1:Int)==1)=true:=rfl
   have z4:((0:Int)==0)=true:=rfl
   try simp(disch:=first|omega|assumption|exact aa _) only[ah,ae,RZ,iP,z3,z4]
   refine bV (akq (lf:=lf) (d:=d+9) x6) (by omega) (fun _ _ h=>h.elim) ?_
   rw[dL]
   have z5:(((q1 %9:Nat):Int)==((q1 %9:Nat):Int))=true:=by simp
   try simp(disch:=first|omega|assumption|exact aa _) only[ah,ae,RZ,z5]
   exact GC (by omega) gd6)
end
end Go.Proofs.YtdagfcflbphoiaaGreatDoor
namespace Go.Proofs.YtdagfcflbphoiaaGreatDoor
open Go.RowKit Ev Cn
section
variable {β:Type} {W:Nat->Prop} {n0:Nat} {h:H} {n m:Nat} {Q:β->H->Nat->Prop}
end
section
variable {lf d n:Nat} {h:H}
end
section
variable {lf d n:Nat} {h:H}
end
def St.add{α:Type}(a:Nat):St α->St α
 | .short=> .short
 | .bad e=> .bad e
 | .ok x u=> .ok x (a+u)
section
variable {lf d n:Nat} {h:H}
end
theorem alC:jy ai 8 24=some [23,23]:=by kernel_rfl
theorem alD:om ai 24=true:=by kernel_rfl
theorem aaG{i:Int}(h:(Lit.int .u32 i).wf=true):0<=i∧i<4294967296:=by
 have e1:IntKind.u32.min=0:=by decide
 have e2:IntKind.u32.max=4294967295:=by decide
 simp only[Lit.wf,e1,e2,cb,decide_eq_true_eq]at h
 omega
set_option maxRecDepth 20000 in
theorem alE{h:H}{n:Nat}{v:Value}(x:m5 ai h n 24 v):∃a b:Nat,v= .agg #[.int .u32 (a:Int),.int .u32 (b:Int)]∧a<4294967296∧b<4294967296:=by
 obtain⟨cs,rfl,q⟩:=ahz alC alD x
 obtain⟨a,b,rfl,q1,q2⟩:=ahA q
 obtain⟨i,rfl,w1⟩:=F7 (f:=7) am2 q1
 obtain⟨j,rfl,w2⟩:=F7 (f:=7) am2 q2
 have r1:=aaG w1
 have r2:=aaG w2
 exact⟨i.toNat,j.toNat,by rw[j6 r1.1,j6 r2.1],by omega,by omega⟩
theorem alF{w:World}(hw:Ev.rf w){vs:List Value}(ha:dT (rG ai w) [22,3,24] vs):Calls ai 3 vs.toArray w fun e w'=>e= .returned (.bool true)∧Below w.heap.size w w':=
 akc (lf:=3000000) (d:=711) hw ha fun n h fm g q=>by
  obtain⟨a,b,c,rfl,h1,h2,h3⟩:=Ev.ahB q
  obtain⟨xs,hR,hl,_⟩:=akg h1
  obtain⟨z,rfl,hz⟩:=akh h2
  obtain⟨x,y,rfl,hx,hy⟩:=alE h3
  exact alx (lf:=3000000) (d:=700) g hR hl z x y hx hy (by decide) (by decide)
end Go.Proofs.YtdagfcflbphoiaaGreatDoor
