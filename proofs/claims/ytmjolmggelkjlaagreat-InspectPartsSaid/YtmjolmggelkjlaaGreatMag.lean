import Derived.Test.YtmjolmggelkjlaaGreatMaf
open Nat renaming reduceLT→aa, reduceAdd→af, le_refl→an, zero_le→aR, zero_add→fB, le_succ→iP, min_eq_left→kR, lt_of_lt_of_le→mb, mod_eq_of_lt→me, not_lt_zero→mJ, sub_self→uq, le_add_right→Rp, lt_of_le_of_ne→RN, mod_two_eq_zero_or_one→arW
open Go.Proofs.Tryz renaming prog→ah
open Go.Value renaming string→aV, int→dG, pointer→lN
open List renaming getD_eq_getElem?_getD→bC, getElem?_eq_getElem→bD, length_append→bX, length_drop→b9, replicate→cr, append_nil→cu, length_cons→dp, length_take→dr, length_map→dL, getElem_mem→eu, length_nil→gM, range→iL, drop_zero→jr, getElem?_map→jC, length_replicate→kg, take_length→mh, drop_drop→ng, take_succ_eq_append_getElem→qa, getElem?_append_right→qR, getElem?_append_left→uk, map_congr_left→vE, drop_eq_getElem_cons→vI, mem_singleton→vJ, drop_length→FM, map_drop→Ku, map_take→RP, mem_range→ads, replicate_succ'→arz, map_eq_nil_iff→arV
open Bool renaming and_eq_true→cj, not_false→cP, and_self→fR, not_true→jP, xor_false→RQ, xor_true→RR
open BitVec renaming ofInt→cC
open Int renaming toNat_natCast→cL, lt_irrefl→fg, reduceBEq→gm, reduceBNe→gu, reduceLT→gy, reduceLE→gz, reduceEq→gB, reduceNe→gC, reduceAdd→gD, reduceSub→gE, reduceMul→gF, reduceNeg→gG
open UInt8 renaming ofNat→jq
open Go.IntKind renaming u32→lO
open Prod.mk renaming injEq→nh
open List.cons renaming injEq→as3
set_option linter.unusedVariables false
set_option linter.unusedSimpArgs false
namespace Go.Proofs.YtmjolmggelkjlaaGreat
open Go.RowKit Ev Cn
section
variable {lf d n p q lo:Nat} {h:H} {S:List UInt8} {D A:Nat} {pv:Value} {s:Pk} {bV:Bool}
def tJ:List Nat:=[0,1,2,3,4,5]
theorem alN(aC:100<=lf):ai (fun _=>False) n (au ah gt lf (d+1) 272 #[]) h n fun v' h' n'=>v'= .agg #[.int .i64 0,.int .i64 1,.int .i64 2,.int .i64 3,.int .i64 4,.int .i64 5]∧n'=n+2:=by
 rw[aL (fun _=>akf) rfl]
 refine ai.aH ?_
 unfold OC
 refine fq HA _ ?_
 refine fq HA _ ?_
 obtain⟨fu,gU⟩:∃f,lf=f+7:=⟨lf-7,by omega⟩
 have key:ai (fun _=>False) n (BT lf (au ah gt lf d) (fu+7) (Iu lf (au ah gt lf d)) (.pointer (some ⟨n,0,none⟩)) (.pointer (some ⟨n+1,0,none⟩)) (.int .i64 0)) ((h.set n (some ⟨280,true,[.int .i64 0,.int .i64 0,.int .i64 0,.int .i64 0,.int .i64 0,.int .i64 0]⟩)).set (n+1) (some ⟨280,true,[.int .i64 0,.int .i64 0,.int .i64 0,.int .i64 0,.int .i64 0,.int .i64 0]⟩)) (n+2) fun v' h' n'=>v'= .agg #[.int .i64 0,.int .i64 1,.int .i64 2,.int .i64 3,.int .i64 4,.int .i64 5]∧n'=n+2:=by
  iterate 7
   rw[BT]
   try simp(disch:=first|omega|assumption) only[af,aa,RZ,gm,gu,gy,gz,gB,gC,gD,gE,gF,gG,Int.reduceToNat,Rp,aa]
  (try unfold Iu);(try dsimp only)
  refine aan trivial trivial (sz:=6) (n+1) 0 _ (get_eq _ _ _) (by omega) (by simp) ?_
  refine qA (sz:=6) trivial (e:=280) (cs:=[.int .i64 0,.int .i64 0,.int .i64 0,.int .i64 0,.int .i64 0,.int .i64 0]) (vs:=[.int .i64 0,.int .i64 1,.int .i64 2,.int .i64 3,.int .i64 4,.int .i64 5]) rfl rfl rfl ?_ (by omega) (an _) (.inl (an _)) _ fun h2 hg k2=> ?_
  ·try simp(disch:=first|omega|assumption) only[af,aa,RZ,gm,gu,gy,gz,gB,gC,gD,gE,gF,gG]
  refine jy trivial trivial (sz:=6) _ _ _ hg (by omega) (by simp) ?_
  try simp(disch:=first|omega|assumption) only[af,aa,RZ,gm,gu,gy,gz,gB,gC,gD,gE,gF,gG]
  all_goals (first|trivial|rfl|exact⟨rfl,rfl,rfl⟩|exact⟨rfl,rfl⟩)
 rw[<-gU]at key
 exact key
theorem alO(aC:100<=lf):ai (fun _=>False) n (au ah gt lf (d+2) 260 #[]) h n fun v h' n'=>v= .pointer (some ⟨n+2,0,none⟩)∧n'=n+3∧jb h' (n+2) n' (n+2) ⟨0,0,tJ,[]⟩ (.slice none 0 0) false:=by
 rw[aL (fun _=>aj2) rfl]
 refine ai.aH ?_
 unfold ZB
 refine aU aK (alN (d:=d) aC) (an _) (fun _ _ h=>h.elim) fun v1 h1 n1 aM aY aw=> ?_
 obtain⟨rfl,rfl⟩:=aw
 rw[alJ]
 refine jH trivial _ _ ?_
 try simp(disch:=first|omega|assumption) only[af,aa,RZ]
 exact⟨get_eq _ _ _,an _,by omega,Own.nil _ _ _ _,rfl,aR _,(by decide:0<32768)⟩
theorem alP{β:Type}{rec:FuncId->Array Value->M Value}(r a:Value)(k:Value->M β):kD ah rec (.func (.func 275) #[r] #[]) [a] k=ay rec 275 [r,a] k:=by
 unfold kD
 show bh (some _) _=_
 rw[wG]
 simp only[show oX ah 275=true by kernel_rfl]
 exact(nB _ _).symm
theorem alQ{β:Type}{rec:FuncId->Array Value->M Value}(r a:Value)(k:Value->M β):kD ah rec (.func (.func 274) #[r] #[]) [a] k=ay rec 274 [r,a] k:=by
 unfold kD
 show bh (some _) _=_
 rw[wG]
 simp only[show oX ah 274=true by kernel_rfl]
 exact(nB _ _).symm
def xq(h:H)(n p:Nat)(S:List UInt8)(D A lo q:Nat)(s:Pk)(pv:Value)(v':Value)(h':H)(n':Nat):Prop:=
 match fx s (ax S D A)with
 | .short=>v'= .int .i64 3∧bf h' n' p S D A∧jb h' lo n' q s pv false
 | .bad e=>v'= .int .i64 e∧(∃B,bf h' n' p S D B)∧jb h' lo n' q s pv true
 | .ok s' u=>v'= .int .i64 0∧bf h' n' p S D (A+u)∧∃iG,jb h' lo n' q s' iG false∧∀b,aN iG b->aN pv b∨n<=b
def EA(h:H)(n p:Nat)(S:List UInt8)(D A lo q:Nat)(s:Pk)(pv:Value)(v':Value)(h':H)(n':Nat):Prop:=
 (v'= .int .i64 3∧fx s (ax S D A)= .short∧(∃B,bf h' n' p S D B)∧jb h' lo n' q s pv false)∨(v'≠ .int .i64 3∧fx s (ax S D A)≠ .short∧xq h n p S D A lo q s pv v' h' n')
theorem alR(v:Nat):((v:Int)).fdiv (2^(min ((15:Int)).toNat (lO).bits))=((v/32768:Nat):Int):=by
 have:(min ((15:Int)).toNat (lO).bits)=15:=by decide
 rw[this,Int.fdiv_eq_ediv_of_nonneg _ (by decide)]
 omega
theorem alS(v:Nat)(hv:v<262144):IntKind.u32.wrap ((cC IntKind.u32.bits (v:Int)&&&cC IntKind.u32.bits (32767:Int)).toNat:Int)=((v %32768:Nat):Int):=by
 have h1:(cC 32 (v:Int)).toNat=v:=by rw[BitVec.ofInt_natCast,BitVec.toNat_ofNat];exact me (by omega)
 show IntKind.u32.wrap ((cC 32 (v:Int)&&&cC 32 (32767:Int)).toNat:Int)=_
 rw[BitVec.toNat_and,h1]
 have h2:(cC 32 (32767:Int)).toNat=2^15-1:=by decide
 rw[h2,Nat.and_two_pow_sub_one_eq_mod]
 exact fW (by omega)
theorem alT(x:bf h n p S D A)(y:jb h lo n q s pv false)(fi:p≠q)(dX:¬aN pv p)(h0:s.count=0)(aC:100<=lf):
 ai (fun b=>b=p∨b=q) n (au ah gt lf (d+4) 275 #[.pointer (some ⟨q,0,none⟩),.pointer (some ⟨p,0,none⟩)]) h n (EA h n p S D A lo q s pv):=by
 obtain⟨bs,bR⟩:∃bs,ax S D A=bs:=⟨_,rfl⟩
 have hq:=y.lt
 unfold EA xq
 rw[bR,aL (fun _=>akk) rfl]
 refine ai.aH ?_
 unfold ZY
 have z1:((3:Int) !=0)=true:=rfl
 have z0:((0:Int) !=0)=false:=rfl
 have dk:∀{h1:H},(∀b,b<n->¬b=p->h1.get b=h.get b)->jb h1 lo n q s pv false:=fun fr=>y.aB (an _) fun b hb cF=>fr b hb (by
  rcases cF with rfl|cF
  ·exact fun e=>fi e.symm
  ·exact fun e=>dX (e▸cF))
 refine aU aK (nK (lf:=lf) (d:=d) x 18 (by omega) (by omega)) (an _) (fun b _ hb=> .inr (.inl hb)) fun v1 h1 n1 aM aY aw=> ?_
 obtain⟨rfl,aw⟩:=aw
 rw[bR]at aw
 rcases aw with ⟨sh,rfl,rfl⟩|⟨lg,rfl,x1⟩
 ·try simp(disch:=first|omega|assumption) only[af,aa,RZ,bG,ext1,z1]
  exact .inl ⟨by unfold fx;rw[if_pos h0,if_pos sh],⟨_,x⟩,y⟩
 ·have nl:=jI (bs.take 18)
  rw[dr,kR lg]at nl
  obtain⟨v,hv⟩:∃v,num (bs.take 18) 0=v:=⟨_,rfl⟩
  rw[hv]at nl
  have w1:=alR v
  have w2:=alS v nl
  have w3:IntKind.i64.wrap ((v/32768:Nat):Int)=((v/32768:Nat):Int):=aJ (by omega) (by omega)
  have w4:IntKind.i64.wrap ((v %32768:Nat):Int)=((v %32768:Nat):Int):=aJ (by omega) (by omega)
  have y1:=dk (h1:=h1) fun c hc ky=>aY c hc ky
  rw[hv]
  try simp(disch:=first|omega|assumption) only[af,aa,RZ,bG,ext1,z0,w1,w2,w3,w4]
  refine bL (alK _) (an _) (fun _ _ h=>h.elim) ?_
  have dT:fx s bs=if(2<=v/32768∧v/32768<=6)∧v %32768≠0 then .ok ⟨v/32768,v %32768,s.ord,s.bJ⟩ 18 else .bad 25:=by
   unfold fx;rw[if_pos h0,if_neg (by omega),hv]
  by_cases c1:2<=v/32768∧v/32768<=6
  ·rw[decide_eq_true (show(2:Int)<=((v/32768:Nat):Int) by omega),decide_eq_true (show((v/32768:Nat):Int)<=6 by omega)]
   by_cases c2:v %32768=0
   ·have e2:((((v %32768:Nat):Int))==0)=true:=by rw[c2];rfl
    try simp(disch:=first|omega|assumption) only[af,aa,RZ,fR,jP,e2]
    refine aU aK (Pc (lf:=lf) (d:=d+2) y1) (an _) (fun b _ hb=> .inr (.inr hb)) fun v2 h2 n2 cJ cf bu=> ?_
    obtain⟨rfl,rfl,k2,y2⟩:=bu
    try simp(disch:=first|omega|assumption) only[af,aa,RZ]
    rw[dT,if_neg (by rintro⟨_,q⟩;exact q c2)]
    exact .inr ⟨by simp,by simp,rfl,⟨_,x1.aB (an _) (k2 p fi)⟩,y2⟩
   ·have e2:((((v %32768:Nat):Int))==0)=false:=beq_eq_false_iff_ne.2 (by omega)
    obtain⟨a,b,c,dd,e,f,he,g⟩:=y1.cells
    try simp(disch:=first|omega|assumption) only[af,aa,RZ,fR,jP,e2,g]
    rw[dT,if_pos ⟨c1,c2⟩]
    refine .inr ⟨by simp,by simp,x1.aB (an _) ?_,pv,⟨?_,y.ge,hq,y1.own.aB (an _) fun b hb=> ?_,y.jc,c1.2,by show v %32768<32768;omega⟩,fun c hc=> .inl hc⟩
    ·rw[aD _ _ fi,aD _ _ fi]
    ·rw[get_eq];unfold Ez;simp only[he];rfl
    ·rw[aD _ _ (y1.ne hb),aD _ _ (y1.ne hb)]
  ·have:(decide ((2:Int)<=((v/32768:Nat):Int))&&decide (((v/32768:Nat):Int)<=6))=false:=by
    cases e:(decide ((2:Int)<=((v/32768:Nat):Int))&&decide (((v/32768:Nat):Int)<=6))with
    |false=>rfl
    |true=>rw[cj,decide_eq_true_eq,decide_eq_true_eq]at e;exact absurd (by omega) c1
   rw[this]
   try simp(disch:=first|omega|assumption) only[af,aa,RZ,cP]
   refine aU aK (Pc (lf:=lf) (d:=d+2) y1) (an _) (fun b _ hb=> .inr (.inr hb)) fun v2 h2 n2 cJ cf bu=> ?_
   obtain⟨rfl,rfl,k2,y2⟩:=bu
   try simp(disch:=first|omega|assumption) only[af,aa,RZ]
   rw[dT,if_neg (by rintro⟨q,_⟩;exact c1 q)]
   exact .inr ⟨by simp,by simp,rfl,⟨_,x1.aB (an _) (k2 p fi)⟩,y2⟩
theorem Cb{α:Type}{dv:α}{O:List α}(hO:O.length=6){i:Nat}(hi:i<6):(dP dv O i).length=6:=by
 unfold dP
 simp
 omega
theorem alU(O:List Nat)(hO:O.length=6){i:Nat}(hi:i<6):dP undef (aS .i64 (iN O)) i=aS .i64 (iN (dP 0 O i)):=by
 obtain⟨a,b,c,d,e,f,rfl⟩:=vi hO
 rcases i with _|_|_|_|_|_|i<;>first|rfl|omega
theorem alV(O:List Nat)(hO:O.length=6){i:Nat}(hi:i<6):(aS .i64 (iN O)).getD i undef= .int .i64 (O.getD i 0:Int):=by
 obtain⟨a,b,c,d,e,f,rfl⟩:=vi hO
 rcases i with _|_|_|_|_|_|i<;>first|rfl|omega
theorem alW(x:bf h n p S D A)(y:jb h lo n q s pv false)(fi:p≠q)(dX:¬aN pv p)(h0:s.count≠0)(hl:s.bJ.length<=100000)(jj:lo<=n)(aC:100<=lf):
 ai (fun b=>b=p∨b=q∨aN pv b) n (au ah gt lf (d+4) 274 #[.pointer (some ⟨q,0,none⟩),.pointer (some ⟨p,0,none⟩)]) h n (EA h n p S D A lo q s pv):=by
 obtain⟨bs,bR⟩:∃bs,ax S D A=bs:=⟨_,rfl⟩
 have hq:=y.lt
 obtain⟨a,b,c,dd,e,f,he,g⟩:=y.cells
 have dT:fx s bs=match jL s.t 0 bs with
  | .short=> .short
  | .bad e=> .bad e
  | .ok o u=> .ok ⟨s.t,s.count,dP 0 s.ord o,s.bJ++[s.ord.getD o 0]⟩ u:=by unfold fx;rw[if_neg h0];try(cases jL s.t 0 bs<;>rfl)
 unfold EA xq
 rw[bR,aL (fun _=>akj) rfl]
 refine ai.aH ?_
 unfold OE
 have z1:((3:Int) !=0)=true:=rfl
 have z0:((0:Int) !=0)=false:=rfl
 try simp(disch:=first|omega|assumption) only[af,aa,RZ,g]
 have dk:∀{h1:H} {n1:Nat},n1=n->(∀b,b<n->b≠p->h1.get b=h.get b)->jb h1 lo n1 q s pv false:=by
  rintro h1 _ rfl fr
  exact y.aB (an _) fun b hb cF=>fr b hb (by
   rcases cF with rfl|cF
   ·exact fun e=>fi e.symm
   ·exact fun e=>dX (e▸cF))
 refine eD s.t (fun fu i (_:Unit)=>Ac lf (au ah gt lf (d+3)) fu (BV lf (au ah gt lf (d+3))) (.pointer (some ⟨q,0,none⟩)) (.pointer (some ⟨p,0,none⟩)) (.int .i64 0) (.int .i64 (s.t:Nat)) (.int .i64 (i:Nat))) (fun i _ h' n'=>(n'=n∧(∀b,b<n->b≠p->h'.get b=h.get b))∧bf h' n' p S D (A+i)∧jL s.t 0 bs=jL (s.t-i) i (bs.drop i)) ?_ ?_ lf 0 () h n (aR _) (by have:=y.Ca;omega) ⟨⟨rfl,fun _ _ _=>rfl⟩,x,rfl⟩
 ·rintro fu _ h' n' ⟨⟨rfl,fr⟩,x1,vj⟩
  rw[Ac]
  try simp(disch:=first|omega|assumption) only[af,aa,RZ,fg]
  (try unfold BV);(try dsimp only)
  have y1:=dk rfl fr
  refine aU aK (Pc (lf:=lf) (d:=d+2) y1) (an _) (fun b _ hb=> .inr (.inr (.inl hb))) fun v2 h2 n2 cJ cf bu=> ?_
  obtain⟨rfl,rfl,k2,y2⟩:=bu
  try simp(disch:=first|omega|assumption) only[af,aa,RZ]
  rw[uq]at vj
  rw[dT,vj]
  exact .inr ⟨by simp,by simp[jL],rfl,⟨_,x1.aB (an _) (k2 p fi)⟩,y2⟩
 ·rintro fu i _ h' n' hi ⟨⟨rfl,fr⟩,x1,vj⟩ next
  rw[Ac]
  have y1:=dk rfl fr
  have c1:((i:Nat):Int)<((s.t:Nat):Int):=by omega
  have Ca:=y.Ca
  have M8:ax S D (A+i)=bs.drop i:=by rw[<-rR x.lo,bR]
  obtain⟨r,hr⟩:∃r,s.t-i=r+1:=⟨s.t-i-1,by omega⟩
  rw[hr]at vj
  try simp(disch:=first|omega|assumption) only[af,aa,RZ,c1]
  refine aU aK (nK (lf:=lf) (d:=d) x1 1 (by omega) (by omega)) (an _) (fun b _ hb=> .inr (.inl hb)) fun v1 h1 n1 aM aY aw=> ?_
  obtain⟨rfl,aw⟩:=aw
  rw[M8]at aw
  rcases aw with ⟨sh,rfl,rfl⟩|⟨lg,rfl,x2⟩
  ·try simp(disch:=first|omega|assumption) only[af,aa,RZ,bG,ext1,z1]
   (try unfold BV);(try dsimp only)
   try simp(disch:=first|omega|assumption) only[af,aa,RZ]
   have:bs.drop i=[]:=List.eq_nil_of_length_eq_zero (by omega)
   rw[this]at vj
   exact .inl ⟨by rw[dT,vj];rfl,⟨_,x1⟩,y1⟩
  ·obtain⟨b,nL,ym⟩:∃b nL,bs.drop i=b::nL:=by
    cases e:bs.drop i with
    |nil=>rw[e]at lg;simp at lg
    |cons b nL=>exact⟨b,nL,rfl⟩
   rw[ym]at vj
   have nb:num ((bs.drop i).take 1) 0=bn b:=by rw[ym];show 2*0+bn b=_;omega
   rw[nb]
   have cf:∀c,c<n1->c≠p->h1.get c=h.get c:=fun c hc hp=>(aY c hc hp).trans (fr c hc hp)
   cases b with
   |true=>
    have ez:(((bn true:Nat):Int)==0)=false:=rfl
    try simp(disch:=first|omega|assumption) only[af,aa,RZ,bG,ext1,z0,ez]
    refine next () _ _ ⟨⟨rfl,cf⟩,x2, ?_⟩
    rw[vj,show s.t-(i+1)=r by omega]
    rw[<-ng,ym]
    rfl
   |false=>
    have ez:(((bn false:Nat):Int)==0)=true:=rfl
    have y2:=dk rfl cf
    obtain⟨a2,b2,c2,d2,e2,f2,nA,g2⟩:=y2.cells
    have EB:i<6:=by omega
    try simp(disch:=first|omega|assumption) only[af,aa,RZ,bG,ext1,z0,ez]
    refine aap trivial q 8 _ g2 hq rfl fun T1 t1 t2 t3=> ?_
    try simp(disch:=first|omega|assumption) only[af,aa,RZ]
    have tou:iZ (Pb q 2) (au ah gt lf (d+3) 278 #[.pointer (some ⟨q,2,none⟩),.int .i64 (i:Int)]) h1 n1 _:=alI (lf:=lf) (d:=d+2) (e:=282) (A:=[.int .i64 (s.t:Int),.int .i64 (s.count:Int)]) (O:=aS .i64 (iN s.ord)) (Z:=[pv,.bool false]) (by rw[eJ,gK];exact y.jc) (fun v hv=>by
     obtain⟨x,_,rfl⟩:=List.mem_map.1 hv
     exact mV _ _) y2.get hq EB aC
    refine alC aK tou (fun e he=>he.1) (an _) (.inr (.inr (.inl rfl))) fun v3 h3 n3 T2 fw dK bQ u1 u2 u3=> ?_
    obtain⟨rfl,rfl,g3,k3⟩:=bQ
    have cl:=alD t1 t2 t3 u1 u2 u3 hq (fun e he=>by
     obtain⟨_,j,h7,h8,h9⟩:=he
     exact⟨j,h7,by omega⟩)
    rw[alV s.ord y.jc EB]
    have o3:Own h3 lo _ 3 pv (aS .i64 (iN s.bJ)):=y2.own.aB (an _) fun b hb=>k3 b (y2.ne hb)
    rw[alU s.ord y.jc EB]at g3
    obtain⟨a4,b4,c4,d4,e4,f4,he4⟩:=vi (Cb (dv:=0) y.jc EB)
    rw[he4]at g3
    have g3:h3.get q=some ⟨282,true,[.int .i64 (s.t:Int),.int .i64 (s.count:Int),.int .i64 (a4:Int),.int .i64 (b4:Int),.int .i64 (c4:Int),.int .i64 (d4:Int),.int .i64 (e4:Int),.int .i64 (f4:Int),pv,.bool false]⟩:=g3
    refine Pa trivial (mV _ _) o3 (by rw[eJ,gK];omega) (fun c hc=> .inr (.inr (.inr hc))) _ fun w T3 T4 h4 g4 k4=> ?_
    have g5:h4.get q=_:=(k4 q hq fun r=>y2.ne r rfl).trans g3
    have xr:q<n3+2:=by omega
    try simp(disch:=first|omega|assumption) only[af,aa,RZ]
    refine O' (fun _ _=>rfl) ?_
    try simp(disch:=first|omega|assumption) only[af,aa,RZ,g5,cl,cP,fR,eh]
    (try unfold BV);(try dsimp only)
    try simp(disch:=first|omega|assumption) only[af,aa,RZ]
    have alX:fx s bs= .ok ⟨s.t,s.count,dP 0 s.ord i,s.bJ++[s.ord.getD i 0]⟩ (i+1):=by rw[dT,vj];rfl
    have on:aS .i64 (iN (s.bJ++[s.ord.getD i 0]))=aS .i64 (iN s.bJ)++[.int .i64 ((s.ord.getD i 0:Nat):Int)]:=by
     rw[rT,pI];rfl
    refine .inr ⟨by simp, ?_⟩
    rw[alX]
    refine⟨by simp,x2.aB (by omega) ?_,.slice (some ⟨n3+1,0,none⟩) ((aS .i64 (iN s.bJ)).length+1) (bq+((aS .i64 (iN s.bJ)).length+1)),⟨?_,y.ge,xr, ?_,Cb (dv:=0) y.jc EB,y.Ca,y.tI⟩,fun c hc=> .inr (by rw[hc.inj];omega)⟩
    ·rw[aD _ _ fi,k4 p x2.lt dX,k3 p fi]
    ·rw[get_eq];unfold Ez;simp only[he4];rfl
    ·rw[on]
     exact .inr ⟨n3+1,by simp,by rw[aD _ _ (by omega)];exact g4,by omega,by omega⟩
theorem alY(x:bf h n p S D A)(y:jb h lo n q s pv false)(fi:p≠q)(dX:¬aN pv p)(hd:s.count=0∨s.bJ.length<s.count)(jj:lo<=n)(aC:100<=lf):
 ai (fun b=>b=p∨b=q∨aN pv b) n (au ah gt lf (d+5) 264 #[.pointer (some ⟨q,0,none⟩),.pointer (some ⟨p,0,none⟩)]) h n (xq h n p S D A lo q s pv):=by
 have hq:=y.lt
 obtain⟨a,b,c,dd,e,f,he,g⟩:=y.cells
 have Pd:=y.tI
 rw[aL (fun _=>aj7) rfl]
 refine ai.aH ?_
 unfold ZG
 have alZ:(decide (0<s.count)&&decide (s.bJ.length=s.count))=false:=by
  cases e:(decide (0<s.count)&&decide (s.bJ.length=s.count))with
  |false=>rfl
  |true=>rw[cj,decide_eq_true_eq,decide_eq_true_eq]at e;omega
 have tail:∀(v1:Value) (h1:H) (n1:Nat),n<=n1->EA h n p S D A lo q s pv v1 h1 n1->
  ai (fun b=>b=p∨b=q∨aN pv b) n (aW v1 (ii 3) fun al0=>
       ak al0 (
        ay (au ah gt lf (d+4)) 246 [.pointer (some ⟨p,0,none⟩),.int .i64 (A:Int)] fun asN=>
        aj [v1]) (
        aj [v1])) h1 n1 (xq h n p S D A lo q s pv):=by
  intro v1 h1 n1 aM aw
  rcases aw with ⟨rfl,dT,⟨B,x1⟩,y1⟩|⟨hv,dT,hp⟩
  ·have e3:((3:Int)==3)=true:=rfl
   try simp(disch:=first|omega|assumption) only[af,aa,RZ,e3]
   refine aU aK (IP (lf:=lf) (d:=d+2) x1 A x.lo x.hi) (by omega) (fun b _ hb=> .inr (.inl hb)) fun v2 h2 n2 cJ cf bu=> ?_
   obtain⟨_,rfl,x2⟩:=bu
   try simp(disch:=first|omega|assumption) only[af,aa,RZ]
   unfold xq
   rw[dT]
   exact⟨rfl,x2,y1.aB (an _) fun b hb cF=>cf b hb (by
    rcases cF with rfl|cF
    ·exact fun e=>fi e.symm
    ·exact fun e=>dX (e▸cF))⟩
  ·obtain⟨e,rfl⟩:∃e:Int,v1= .int .i64 e:=by
    unfold xq at hp
    split at hp
    ·exact⟨_,hp.1⟩
    ·exact⟨_,hp.1⟩
    ·exact⟨_,hp.1⟩
   have e3:(e==3)=false:=beq_eq_false_iff_ne.2 fun q=>hv (by rw[q])
   try simp(disch:=first|omega|assumption) only[af,aa,RZ,e3]
   exact hp
 try simp(disch:=first|omega|assumption) only[af,aa,RZ]
 refine bL (I1 (lf:=lf) (d:=d+3) y) (an _) (fun _ _ h=>h.elim) ?_
 rw[alZ]
 try simp(disch:=first|omega|assumption) only[af,aa,RZ,g]
 refine bL (xj (lf:=lf) (d:=d+3) x) (an _) (fun _ _ h=>h.elim) ?_
 by_cases h0:s.count=0
 ·have e0:((s.count:Int)==0)=true:=by rw[h0];rfl
  try simp(disch:=first|omega|assumption) only[af,aa,RZ,g,e0,alP]
  exact aU aK (alT (lf:=lf) (d:=d) x y fi dX h0 aC) (an _) (fun b _ hb=>hb.elim (fun hb=> .inr (.inl hb)) fun hb=> .inr (.inr (.inl hb))) fun v1 h1 n1 aM aY aw=>tail v1 h1 n1 aM aw
 ·have e0:((s.count:Int)==0)=false:=beq_eq_false_iff_ne.2 (by omega)
  try simp(disch:=first|omega|assumption) only[af,aa,RZ,g,e0,alQ]
  exact aU aK (alW (lf:=lf) (d:=d) x y fi dX h0 (by omega) jj aC) (an _) (fun b _ hb=> .inr hb) fun v1 h1 n1 aM aY aw=>tail v1 h1 n1 aM aw
end
def Pk.fin(s:Pk):Bool:=decide (0<s.count)&&decide (s.bJ.length=s.count)
structure Pk.Ok (s:Pk):Prop where
 new:s.count=0->s.bJ=[]∧s.ord=tJ
 ord:∀j,j<s.t->s.ord.getD j 0<s.t
 bJ:∀x∈s.bJ,x<s.t
 len:s.count≠0->s.bJ.length<=s.count
 two:s.count≠0->2<=s.t
structure Cd where
 size:Nat
 pk:Pk
 now:Nat
 lens:List Nat
 aT:List (List Nat)
 took:List Nat
 count:Nat
 done:Bool
 bV:Int
structure Cm where
 q:Nat
 pv:Value
 tv:Value
 r:Nat
 lv:Value
 cv:Value
 pw:Bool
 dw:Bool
 iv:List (Nat×Nat×Nat)
def Cm.F(m:Cm)(z b:Nat):Prop:=b=z∨b=m.q∨b=m.r∨aN m.pv b∨aN m.lv b∨aN m.cv b
def qC(c:Cd)(m:Cm):AB:=⟨252,true,[.int .i64 (c.size:Int),.pointer (some ⟨m.q,0,none⟩),m.tv,.pointer (some ⟨m.r,0,none⟩),m.cv,.int .i64 (c.count:Int),.bool c.done,.int .i64 c.bV]⟩
structure cY (h:H) (n z p:Nat) (c:Cd) (m:Cm):Prop where
 get:h.get z=some (qC c m)
 lt:z<n
 pk:jb h 0 n m.q c.pk m.pv m.pw
 de:iY h 0 n m.r c.size c.now m.lv c.lens m.dw
 took:Row h n 3 .i64 m.tv (iN c.took)
 rW:∀b,aN m.tv b->¬aN m.pv b∧¬aN m.lv b
 qD:∀b,aN m.pv b->¬aN m.lv b
 cs:Own h 0 n 329 m.cv (m.iv.map fun x=> .pointer (some ⟨x.2.2,0,none⟩))
 mY:m.iv.length=c.aT.length
 code:∀i,i<c.aT.length->∃x,m.iv[i]? =some x∧tF h x.1 x.2.1 x.2.2 (c.aT.getD i [])∧p<x.1∧x.2.1<=n∧∀b,x.1<=b->b<x.2.1->¬m.F z b
theorem oK{h:H}{a b:Nat}{A B:AB}(ha:h.get a=some A)(hb:h.get b=some B)(he:A.elem≠B.elem):a≠b:=fun e=>by
 subst e
 rw[ha]at hb
 cases hb
 exact he rfl
section
variable {h:H} {n z p:Nat} {c:Cd} {m:Cm}
theorem cY.zq(x:cY h n z p c m):z≠m.q:=oK x.get x.pk.get (by decide:(252:Nat)≠282)
theorem cY.zr(x:cY h n z p c m):z≠m.r:=oK x.get x.de.get (by decide:(252:Nat)≠333)
theorem cY.qr(x:cY h n z p c m):m.q≠m.r:=oK x.pk.get x.de.get (by decide:(282:Nat)≠333)
theorem cY.int(x:cY h n z p c m){b:Nat}{B:AB}(hb:h.get b=some B)(he:B.elem=3):b≠z∧b≠m.q∧b≠m.r∧¬aN m.cv b:=by
 refine⟨oK hb x.get (by rw[he];exact(by decide:(3:Nat)≠252)),oK hb x.pk.get (by rw[he];exact(by decide:(3:Nat)≠282)),oK hb x.de.get (by rw[he];exact(by decide:(3:Nat)≠333)),fun hc=> ?_⟩
 obtain⟨C,h1,h2⟩:=x.cs.elem hc
 exact oK hb h1 (by rw[he,h2];exact(by decide:(3:Nat)≠329)) rfl
theorem cY.tv(x:cY h n z p c m){b:Nat}(hb:aN m.tv b):b≠z∧b≠m.q∧b≠m.r∧¬aN m.cv b∧¬aN m.pv b∧¬aN m.lv b:=by
 obtain⟨B,h1,h2⟩:=x.took.elem hb
 obtain⟨a,b,c,d⟩:=x.int h1 h2
 exact⟨a,b,c,d,x.rW _ hb⟩
theorem cY.pv(x:cY h n z p c m){b:Nat}(hb:aN m.pv b):b≠z∧b≠m.q∧b≠m.r∧¬aN m.cv b:=by
 obtain⟨B,h1,h2⟩:=x.pk.own.elem hb
 exact x.int h1 h2
theorem cY.lv(x:cY h n z p c m){b:Nat}(hb:aN m.lv b):b≠z∧b≠m.q∧b≠m.r∧¬aN m.cv b:=by
 obtain⟨B,h1,h2⟩:=x.de.own.elem hb
 exact x.int h1 h2
theorem cY.cv(x:cY h n z p c m){b:Nat}(hb:aN m.cv b):b≠z∧b≠m.q∧b≠m.r:=by
 obtain⟨C,h1,h2⟩:=x.cs.elem hb
 exact⟨oK h1 x.get (by rw[h2];exact(by decide:(329:Nat)≠252)),oK h1 x.pk.get (by rw[h2];exact(by decide:(329:Nat)≠282)),oK h1 x.de.get (by rw[h2];exact(by decide:(329:Nat)≠333))⟩
theorem cY.yT(x:cY h n z p c m){b:Nat}(hb:m.F z b):b<n:=by
 rcases hb with rfl|rfl|rfl|hb|hb|hb
 ·exact x.lt
 ·exact x.pk.lt
 ·exact x.de.lt
 ·exact(x.pk.own.lt hb).2
 ·exact(x.de.own.lt hb).2
 ·exact(x.cs.lt hb).2
theorem cY.aB(x:cY h n z p c m){h':H}{n':Nat}(hn:n<=n')(hk:∀b,b<n->(m.F z b∨aN m.tv b∨∃y∈m.iv,y.1<=b∧b<y.2.1)->h'.get b=h.get b):cY h' n' z p c m where
 get:=(hk z x.lt (.inl (.inl rfl))).trans x.get
 lt:=mb x.lt hn
 pk:=x.pk.aB hn fun b hb h2=>hk b hb (.inl (h2.elim (fun e=> .inr (.inl e)) fun e=> .inr (.inr (.inr (.inl e)))))
 de:=x.de.aB hn fun b hb h2=>hk b hb (.inl (h2.elim (fun e=> .inr (.inr (.inl e))) fun e=> .inr (.inr (.inr (.inr (.inl e))))))
 took:=x.took.mW hn fun b hb=>hk b (x.took.lt hb) (.inr (.inl hb))
 rW:=x.rW
 qD:=x.qD
 cs:=x.cs.aB hn fun b hb=>hk b (x.cs.lt hb).2 (.inl (.inr (.inr (.inr (.inr (.inr hb))))))
 mY:=x.mY
 code:=fun i hi=>by
  obtain⟨y,e,k,h1,h2,h3⟩:=x.code i hi
  exact⟨y,e,k.aB fun b h4 h5=>hk b (by omega) (.inr (.inr ⟨y,List.mem_of_getElem? e,h4,h5⟩)),h1,by omega,h3⟩
theorem cY.iv(x:cY h n z p c m){y:Nat×Nat×Nat}(hy:y∈m.iv):p<y.1∧y.2.1<=n∧∀b,y.1<=b->b<y.2.1->¬m.F z b:=by
 obtain⟨i,hi,e⟩:=List.getElem_of_mem hy
 obtain⟨y',e',_,h1,h2,h3⟩:=x.code i (by rw[<-x.mY];exact hi)
 rw[bD hi,e]at e'
 cases e'
 exact⟨h1,h2,h3⟩
end
theorem cY.I2{h:H}{n z p:Nat}{c:Cd}{m:Cm}(x:cY h n z p c m)(c':Cd)(xu:Value)(e1:c'.size=c.size)(e2:c'.pk=c.pk)(e3:c'.now=c.now)(e4:c'.lens=c.lens)(e5:c'.aT=c.aT)(r:Row h n 3 .i64 xu (iN c'.took))(t:∀b,aN xu b->¬aN m.pv b∧¬aN m.lv b){B:Option AB}(hB:B=some (qC c' {m with tv:=xu})):cY (h.set z B) n z p c' {m with tv:=xu} where
 get:=by rw[get_eq,hB]
 lt:=x.lt
 pk:=by
  rw[e2]
  exact x.pk.aB (an _) fun b hb h2=>aD _ _ (by
   rcases h2 with rfl|h2
   ·exact Ne.symm x.zq
   ·exact(x.pv h2).1)
 de:=by
  rw[e1,e3,e4]
  exact x.de.aB (an _) fun b hb h2=>aD _ _ (by
   rcases h2 with rfl|h2
   ·exact Ne.symm x.zr
   ·exact(x.lv h2).1)
 took:=r.mW (an _) fun b hb=>aD _ _ (by
  obtain⟨B,h1,h2⟩:=r.elem hb
  exact(x.int h1 h2).1)
 rW:=t
 qD:=x.qD
 cs:=x.cs.aB (an _) fun b hb=>aD _ _ (x.cv hb).1
 mY:=by rw[e5];exact x.mY
 code:=by
  rw[e5]
  intro i hi
  obtain⟨w,e,k,h2,h3,h4⟩:=x.code i hi
  exact⟨w,e,k.aB fun b h5 h6=>aD _ _ fun e=>h4 b h5 h6 (.inl e),h2,h3,h4⟩
structure tL (p z:Nat) (m:Cm):Prop where
 f:¬m.F z p
 t:¬aN m.tv p
section
variable {lf d n z p:Nat} {h:H} {S:List UInt8} {D A:Nat} {c:Cd} {m:Cm}
def nN(c:Cd)(s:Pk):Cd:={c with pk:=s,took:=if s.fin=true then s.bJ else c.took}
theorem al1(x:bf h n p S D A)(y:cY h n z p c m)(ap:tL p z m)(rX:m.pw=false)(cG:c.pk.Ok)(hf:c.pk.fin=false)(aC:100<=lf):
 ai (fun b=>b=p∨m.F z b) n (au ah gt lf (d+6) 253 #[.pointer (some ⟨z,0,none⟩),.pointer (some ⟨p,0,none⟩)]) h n fun v' h' n'=>
  match fx c.pk (ax S D A)with
  | .short=>v'= .tuple #[.int .i64 (-1),.int .i64 3]∧bf h' n' p S D A∧cY h' n' z p c m
  | .bad e=>v'= .tuple #[.int .i64 (-1),.int .i64 e]∧(∃B,bf h' n' p S D B)∧cY h' n' z p c {m with pw:=true}
  | .ok s u=>v'= .tuple #[.int .i64 (-1),.int .i64 0]∧bf h' n' p S D (A+u)∧∃iG xu,cY h' n' z p (nN c s) {m with pv:=iG,tv:=xu}∧(∀b,aN iG b->aN m.pv b∨n<=b)∧∀b,aN xu b->aN m.tv b∨n<=b:=by
 obtain⟨bs,bR⟩:∃bs,ax S D A=bs:=⟨_,rfl⟩
 have g:=y.get
 have hz:=y.lt
 unfold qC at g
 have ypk:=y.pk
 rw[rX]at ypk
 have fi:p≠m.q:=fun e=>ap.f (.inr (.inl e))
 have dX:¬aN m.pv p:=fun e=>ap.f (.inr (.inr (.inr (.inl e))))
 have pL:p≠z:=fun e=>ap.f (.inl e)
 have hd:c.pk.count=0∨c.pk.bJ.length<c.pk.count:=by
  by_cases h0:c.pk.count=0
  ·exact .inl h0
  ·refine .inr (RN (cG.len h0) fun e=> ?_)
   unfold Pk.fin at hf
   rw[e,decide_eq_true rfl,decide_eq_true (show 0<c.pk.count by omega)]at hf
   cases hf
 rw[aL (fun _=>ajT) rfl,bR]
 refine ai.aH ?_
 unfold Zs
 try simp(disch:=first|omega|assumption) only[af,aa,RZ,g]
 refine aU aK (alY (lf:=lf) (d:=d) x ypk fi dX hd (aR _) aC) (an _) (fun b _ hb=> .inr (by
  rcases hb with hb|hb|hb
  ·exact .inl hb
  ·exact .inr (.inr (.inl hb))
  ·exact .inr (.inr (.inr (.inr (.inl hb)))))) fun v1 h1 n1 aM aY aw=> ?_
 have xv:m.F z z:= .inl rfl
 have un:∀b,b<n->b≠p->b≠m.q->¬aN m.pv b->h1.get b=h.get b:=fun b hb h2 h3 h4=>aY b hb (by
  rintro(e|e|e)
  ·exact h2 e
  ·exact h3 e
  ·exact h4 e)
 have nz:∀{b:Nat},¬m.F z b->b≠m.q∧¬aN m.pv b:=fun hb=>⟨fun e=>hb (.inr (.inl e)),fun e=>hb (.inr (.inr (.inr (.inl e))))⟩
 have g1:h1.get z=_:=(un z hz (Ne.symm pL) y.zq fun e=>(y.pv e).1 rfl).trans g
 have tM:z<n1:=by omega
 have mk:∀(s:Pk) (iG:Value) (pw:Bool),jb h1 0 n1 m.q s iG pw->(∀b,aN iG b->aN m.pv b∨n<=b)->cY h1 n1 z p {c with pk:=s} {m with pv:=iG,pw:=pw}:=fun s iG pw hp jZ=>
  {get:=g1
   lt:=tM
   pk:=hp
   de:=y.de.aB aM fun b hb h2=>by
    rcases h2 with rfl|h2
    ·exact un _ hb (fun e=>ap.f (.inr (.inr (.inl e.symm)))) (Ne.symm y.qr) fun e=>(y.pv e).2.2.1 rfl
    ·exact un b hb (fun e=>ap.f (.inr (.inr (.inr (.inr (.inl (e▸h2))))))) (y.lv h2).2.1 fun e=>y.qD b e h2
   took:=y.took.mW aM fun b hb=>un b (y.took.lt hb) (fun e=>ap.t (e▸hb)) (y.tv hb).2.1 (y.tv hb).2.2.2.2.1
   rW:=fun b hb=>⟨fun e=>(jZ b e).elim (y.tv hb).2.2.2.2.1 fun e=>by have:=y.took.lt hb;omega,(y.tv hb).2.2.2.2.2⟩
   qD:=fun b hb=>(jZ b hb).elim (y.qD b) fun e h2=>by have:=(y.de.own.lt h2).2;omega
   cs:=y.cs.aB aM fun b hb=>un b (y.cs.lt hb).2 (fun e=>ap.f (.inr (.inr (.inr (.inr (.inr (e▸hb))))))) (y.cv hb).2.1 fun e=>(y.pv e).2.2.2 hb
   mY:=y.mY
   code:=fun i hi=>by
    obtain⟨w,e,k,h2,h3,h4⟩:=y.code i hi
    refine⟨w,e,k.aB fun b h5 h6=>un b (by omega) (by omega) (nz (h4 b h5 h6)).1 (nz (h4 b h5 h6)).2,h2,by omega,fun b h5 h6 h7=> ?_⟩
    rcases h7 with h7|h7|h7|h7|h7|h7
    ·exact h4 b h5 h6 (.inl h7)
    ·exact h4 b h5 h6 (.inr (.inl h7))
    ·exact h4 b h5 h6 (.inr (.inr (.inl h7)))
    ·rcases jZ b h7 with h8|h8
     ·exact h4 b h5 h6 (.inr (.inr (.inr (.inl h8))))
     ·omega
    ·exact h4 b h5 h6 (.inr (.inr (.inr (.inr (.inl h7)))))
    ·exact h4 b h5 h6 (.inr (.inr (.inr (.inr (.inr h7)))))}
 have Pe:∀{s:Pk} {iG:Value} {pw:Bool},jb h1 0 n1 m.q s iG pw->s.fin=false->ai (fun _=>False) n1 (au ah gt lf (d+5) 252 #[.pointer (some ⟨m.q,0,none⟩)]) h1 n1 fun v' h' n'=>v'= .bool false∧h'=h1∧n'=n1:=fun{s iG pw} hp hf=>by
  have:=I1 (lf:=lf) (d:=d+4) hp
  rw[show(decide (0<s.count)&&decide (s.bJ.length=s.count))=false from hf]at this
  exact this
 unfold xq at aw
 rw[bR]at aw
 split at aw
 ·next e=>
  obtain⟨rfl,x1,y1⟩:=aw
  try simp(disch:=first|omega|assumption) only[af,aa,RZ,g1]
  refine bL (Pe y1 hf) aM (fun _ _ h=>h.elim) ?_
  try simp(disch:=first|omega|assumption) only[af,aa,RZ]
  try rw[e]
  have:=mk c.pk m.pv false y1 fun b hb=> .inl hb
  rw[<-rX]at this
  exact⟨x1,this⟩
 ·next e0 e=>
  obtain⟨rfl,x1,y1⟩:=aw
  try simp(disch:=first|omega|assumption) only[af,aa,RZ,g1]
  refine bL (Pe y1 hf) aM (fun _ _ h=>h.elim) ?_
  try simp(disch:=first|omega|assumption) only[af,aa,RZ]
  try rw[e]
  first|exact⟨rfl,x1,mk c.pk m.pv true y1 fun b hb=> .inl hb⟩|exact⟨x1,mk c.pk m.pv true y1 fun b hb=> .inl hb⟩
 ·next s u e=>
  obtain⟨rfl,x1,iG,y1,jZ⟩:=aw
  try simp(disch:=first|omega|assumption) only[af,aa,RZ,g1]
  try rw[e]
  by_cases Am:s.fin=true
  ·have dn:=I1 (lf:=lf) (d:=d+4) y1
   rw[show(decide (0<s.count)&&decide (s.bJ.length=s.count))=true from Am]at dn
   refine bL dn aM (fun _ _ h=>h.elim) ?_
   have aaY:=Am
   unfold Pk.fin at aaY
   rw[cj,decide_eq_true_eq,decide_eq_true_eq]at aaY
   have Pd:=y1.tI
   try simp(disch:=first|omega|assumption) only[af,aa,RZ,g1]
   refine aU aK (alM (lf:=lf) (d:=d+3) y1 (by omega) (by omega)) aM (fun _ _ h=>h.elim) fun v2 h2 n2 cJ cf bu=> ?_
   have y2:=(mk s iG false y1 jZ).aB cJ fun b hb _=>cf b hb id
   have g2:=y2.get
   unfold qC at g2
   have ju:=y2.lt
   obtain⟨r2,f2⟩:=bu
   obtain⟨a2,c2,rfl⟩:=r2.len
   try simp(disch:=first|omega|assumption) only[af,aa,RZ,g2,xv,true_or,or_true]
   refine⟨(x1.aB cJ (cf p x1.lt id)).aB (an _) (aD _ _ pL),iG,_, ?_,jZ,fun b hb=> .inr (by have:=f2 b hb;omega)⟩
   unfold nN
   rw[if_pos Am]
   have:=y2.I2 {c with pk:=s,took:=s.bJ} (.slice a2 (iN s.bJ).length c2) rfl rfl rfl rfl rfl r2 (fun b hb=>⟨fun e=>by have:=(y1.own.lt e).2;have:=f2 b hb;omega,fun e=>by have:=(y.de.own.lt e).2;have:=f2 b hb;omega⟩) rfl
   rw[<-rX]at this
   exact this
  ·have Am:s.fin=false:=by simpa using Am
   refine bL (Pe y1 Am) aM (fun _ _ h=>h.elim) ?_
   try simp(disch:=first|omega|assumption) only[af,aa,RZ]
   have:=mk s iG false y1 jZ
   refine⟨x1,iG,m.tv, ?_,jZ,fun b hb=> .inl hb⟩
   unfold nN
   rw[Am,rX]
   exact this
end
structure Cc (size now:Nat) (lens:List Nat):Prop where
 now:now<=20
 len:lens.length<=size
 all:∀x∈lens,1<=x∧x<=20
theorem I3{size now:Nat}{lens:List Nat}(k:Cc size now lens)(hl:lens.length<size){bs:List Bool}{m:Nat}{l:List Nat}{u:Nat}(h:eU now lens bs= .ok (m,l) u):Cc size m l:=by
 have turn:∀(z:Int) (w:Nat),mC z lens w= .ok (m,l) u->Cc size m l:=by
  intro z w hz
  unfold mC at hz
  split at hz
  ·next hc=>
   simp only[St.ok.injEq,nh]at hz
   obtain⟨⟨rfl,rfl⟩,_⟩:=hz
   exact⟨by omega,k.len,k.all⟩
  ·cases hz
 unfold eU at h
 split at h
 ·split at h
  ·cases h
  ·exact turn _ _ h
 ·next h0=>
  split at h
  ·cases h
  ·simp only[St.ok.injEq,nh]at h
   obtain⟨⟨rfl,rfl⟩,_⟩:=h
   refine⟨k.now,by simp;omega,fun x hx=> ?_⟩
   rcases List.mem_append.1 hx with h1|h1
   ·exact k.all x h1
   ·simp only[vJ]at h1
    subst h1
    have:=k.now
    omega
  ·cases h
  ·exact turn _ _ h
theorem Pf{now:Nat}{lens:List Nat}{bs:List Bool}{e:Int}(h:eU now lens bs= .bad e):e=22:=by
 have turn:∀(z:Int) (w:Nat),mC z lens w= .bad e->e=22:=by
  intro z w hz
  unfold mC at hz
  split at hz
  ·cases hz
  ·cases hz;rfl
 unfold eU at h
 split at h
 ·split at h
  ·cases h
  ·exact turn _ _ h
 ·split at h
  ·cases h
  ·cases h
  ·cases h
  ·exact turn _ _ h
theorem iY.low{h:H}{lo n q size now:Nat}{lv:Value}{lens:List Nat}{bV:Bool}(x:iY h lo n q size now lv lens bV):iY h 0 n q size now lv lens bV:=⟨x.get,aR _,x.lt,x.own.low (aR _)⟩
def stepT(c:Cd)(bs:List Bool):St Cd:=
 match eU c.now c.lens bs with
 | .short=> .short
 | .bad e=> .bad e
 | .ok (m,l) u=>if l.length=c.size then(if eT (iN l)=1048576 then .ok {c with now:=0,lens:=[],aT:=c.aT++[l]} u else .bad 22)else .ok {c with now:=m,lens:=l} u
section
variable {lf d n z p:Nat} {h:H} {S:List UInt8} {D A:Nat} {c:Cd} {m:Cm}
theorem al3(x:bf h n p S D A)(y:cY h n z p c m)(ap:tL p z m)(Ce:m.dw=false)(cG:Cc c.size c.now c.lens)(hl:c.lens.length<c.size)(h3s:3<=c.size)(rV:c.size<=258)(gN:c.aT.length<=100)(aC:3000000<=lf):
 ai (fun b=>b=p∨m.F z b) n (au ah gt lf (d+8) 255 #[.pointer (some ⟨z,0,none⟩),.pointer (some ⟨p,0,none⟩)]) h n fun v' h' n'=>
  match stepT c (ax S D A)with
  | .short=>v'= .tuple #[.int .i64 (-1),.int .i64 3]∧bf h' n' p S D A∧cY h' n' z p c m
  | .bad e=>v'= .tuple #[.int .i64 (-1),.int .i64 e]∧(∃B,bf h' n' p S D B)∧∃c' m',cY h' n' z p c' m'∧c'={c with now:=c'.now,lens:=c'.lens}∧m'={m with lv:=m'.lv,dw:=m'.dw}∧(∀b,m'.F z b->m.F z b∨n<=b)∧tL p z m'
  | .ok c' u=>v'= .tuple #[.int .i64 (-1),.int .i64 0]∧bf h' n' p S D (A+u)∧∃m',cY h' n' z p c' m'∧m'.pw=m.pw∧m'.dw=false∧m'.tv=m.tv∧(∀b,m'.F z b->m.F z b∨n<=b)∧tL p z m'∧∀y∈m'.iv,y∈m.iv∨n<=y.1:=by
 obtain⟨bs,bR⟩:∃bs,ax S D A=bs:=⟨_,rfl⟩
 have g:=y.get
 have hz:=y.lt
 unfold qC at g
 have yde:=y.de
 rw[Ce]at yde
 have fi:p≠m.r:=fun e=>ap.f (.inr (.inr (.inl e)))
 have dX:¬aN m.lv p:=fun e=>ap.f (.inr (.inr (.inr (.inr (.inl e)))))
 have pL:p≠z:=fun e=>ap.f (.inl e)
 have Al:=x.lt
 have z0:((0:Int) !=0)=false:=rfl
 have z3:((3:Int) !=0)=true:=rfl
 rw[aL (fun _=>ajV) rfl,bR]
 refine ai.aH ?_
 unfold Zu stepT
 try simp(disch:=first|omega|assumption) only[af,aa,RZ,g]
 refine aU aK (alA (lf:=lf) (d:=d+2) x yde fi dX cG.now hl rV (aR _) (by omega)) (an _) (fun b _ hb=> .inr (by
  rcases hb with hb|hb|hb
  ·exact .inl hb
  ·exact .inr (.inr (.inr (.inl hb)))
  ·exact .inr (.inr (.inr (.inr (.inr (.inl hb))))))) fun v1 h1 n1 aM aY aw=> ?_
 have un:∀b,b<n->b≠p->b≠m.r->¬aN m.lv b->h1.get b=h.get b:=fun b hb h2 h3 h4=>aY b hb (by
  rintro(e|e|e)
  ·exact h2 e
  ·exact h3 e
  ·exact h4 e)
 have nz:∀{b:Nat},¬m.F z b->b≠m.r∧¬aN m.lv b:=fun hb=>⟨fun e=>hb (.inr (.inr (.inl e))),fun e=>hb (.inr (.inr (.inr (.inr (.inl e)))))⟩
 have g1:h1.get z=_:=(un z hz (Ne.symm pL) y.zr fun e=>(y.lv e).1 rfl).trans g
 have tM:z<n1:=by omega
 have mk:∀(Cf:Nat) (l':List Nat) (jK:Value) (dw:Bool),iY h1 0 n1 m.r c.size Cf jK l' dw->(∀b,aN jK b->aN m.lv b∨n<=b)->cY h1 n1 z p {c with now:=Cf,lens:=l'} {m with lv:=jK,dw:=dw}:=fun Cf l' jK dw hp kJ=>
  {get:=g1
   lt:=tM
   pk:=y.pk.aB aM fun b hb h2=>by
    rcases h2 with rfl|h2
    ·exact un _ hb (fun e=>ap.f (.inr (.inl e.symm))) y.qr fun e=>(y.lv e).2.1 rfl
    ·exact un b hb (fun e=>ap.f (.inr (.inr (.inr (.inl (e▸h2)))))) (y.pv h2).2.2.1 (y.qD b h2)
   de:=hp
   took:=y.took.mW aM fun b hb=>un b (y.took.lt hb) (fun e=>ap.t (e▸hb)) (y.tv hb).2.2.1 (y.tv hb).2.2.2.2.2
   rW:=fun b hb=>⟨(y.tv hb).2.2.2.2.1,fun e=>(kJ b e).elim (y.tv hb).2.2.2.2.2 fun e=>by have:=y.took.lt hb;omega⟩
   qD:=fun b hb h2=>(kJ b h2).elim (y.qD b hb) fun e=>by have:=(y.pk.own.lt hb).2;omega
   cs:=y.cs.aB aM fun b hb=>un b (y.cs.lt hb).2 (fun e=>ap.f (.inr (.inr (.inr (.inr (.inr (e▸hb))))))) (y.cv hb).2.2 fun e=>(y.lv e).2.2.2 hb
   mY:=y.mY
   code:=fun i hi=>by
    obtain⟨w,e,k,h2,h3,h4⟩:=y.code i hi
    refine⟨w,e,k.aB fun b h5 h6=>un b (by omega) (by omega) (nz (h4 b h5 h6)).1 (nz (h4 b h5 h6)).2,h2,by omega,fun b h5 h6 h7=> ?_⟩
    rcases h7 with h7|h7|h7|h7|h7|h7
    ·exact h4 b h5 h6 (.inl h7)
    ·exact h4 b h5 h6 (.inr (.inl h7))
    ·exact h4 b h5 h6 (.inr (.inr (.inl h7)))
    ·exact h4 b h5 h6 (.inr (.inr (.inr (.inl h7))))
    ·rcases kJ b h7 with h8|h8
     ·exact h4 b h5 h6 (.inr (.inr (.inr (.inr (.inl h8)))))
     ·omega
    ·exact h4 b h5 h6 (.inr (.inr (.inr (.inr (.inr h7)))))}
 have fm:∀(jK:Value) (dw:Bool),(∀b,aN jK b->aN m.lv b∨n<=b)->(∀b,({m with lv:=jK,dw:=dw}:Cm).F z b->m.F z b∨n<=b)∧tL p z {m with lv:=jK,dw:=dw}:=by
  intro jK dw kJ
  have k:∀b,({m with lv:=jK,dw:=dw}:Cm).F z b->m.F z b∨n<=b:=by
   intro b h7
   rcases h7 with h7|h7|h7|h7|h7|h7
   ·exact .inl (.inl h7)
   ·exact .inl (.inr (.inl h7))
   ·exact .inl (.inr (.inr (.inl h7)))
   ·exact .inl (.inr (.inr (.inr (.inl h7))))
   ·exact(kJ b h7).imp (fun h8=> .inr (.inr (.inr (.inr (.inl h8))))) id
   ·exact .inl (.inr (.inr (.inr (.inr (.inr h7)))))
  exact⟨k,⟨fun e=>(k p e).elim ap.f fun e=>by omega,ap.t⟩⟩
 unfold B9 at aw
 rw[bR]at aw
 split at aw
 ·next e=>
  obtain⟨rfl,x1,y1⟩:=aw
  try simp(disch:=first|omega|assumption) only[af,aa,RZ,z3]
  try rw[e]
  have:=mk c.now c.lens m.lv false y1 fun b hb=> .inl hb
  rw[<-Ce]at this
  exact⟨x1,this⟩
 ·next e0 e=>
  obtain⟨rfl,x1,y1⟩:=aw
  have he0:(e0 !=0)=true:=by
   rw[Pf e];rfl
  try simp(disch:=first|omega|assumption) only[af,aa,RZ,he0]
  try rw[e]
  exact⟨rfl,x1,_,_,mk c.now c.lens m.lv true y1 (fun b hb=> .inl hb),rfl,rfl,fm m.lv true fun b hb=> .inl hb⟩
 ·next Cf l' u e=>
  obtain⟨rfl,x1,jK,y1,kJ⟩:=aw
  have ok1:=I3 cG hl e
  try simp(disch:=first|omega|assumption) only[af,aa,RZ,z0,g1]
  refine bL (aaP (lf:=lf) (d:=d+6) y1) aM (fun _ _ h=>h.elim) ?_
  try rw[e]
  by_cases EC:l'.length=c.size
  ·rw[decide_eq_true EC]
   try simp(disch:=first|omega|assumption) only[af,aa,RZ,jP,g1]
   refine aU aK (alw (lf:=lf) (d:=d+5) y1 (by omega) (by omega)) aM (fun _ _ h=>h.elim) fun v2 h2 n2 cJ cf r2=> ?_
   have y2:=(mk Cf l' jK false y1 kJ).aB cJ fun b hb _=>cf b hb id
   have x2:=x1.aB cJ (cf p x1.lt id)
   have ey:=gK l'
   by_cases hs:eT (iN l')=1048576
   ·refine aU aK (alk lf d n2 h2 aC v2 l' r2 (by omega) (by omega) (B6 ok1.all hs) hs) (by omega) (fun _ _ h=>h.elim) fun v3 h3 n3 fw dK bQ=> ?_
    obtain⟨c3,rfl,k3⟩:=bQ
    have y3:=y2.aB fw fun b hb _=>dK b hb id
    have x3:=x2.aB fw (dK p x2.lt id)
    have g3:=y3.get
    unfold qC at g3
    have hz3:=y3.lt
    try simp(disch:=first|omega|assumption) only[af,aa,RZ,bG,ext1,z0,g3]
    refine ve trivial (agA _) y3.cs (by have h9:m.iv.length=c.aT.length:=y3.mY;show(m.iv.map _).length+1<=_;rw[dL];omega) (fun b hb=> .inr (.inr (.inr (.inr (.inr (.inr (.inr hb))))))) _ fun h4 g4 k4=> ?_
    have g5:h4.get z=_:=(k4 z hz3 fun e=>(y3.cv e).1 rfl).trans g3
    have hz5:z<n3+2:=by omega
    have xv:m.F z z:= .inl rfl
    try simp(disch:=first|omega|assumption) only[af,aa,RZ,g5,xv,true_or,or_true]
    refine aU aK (aaO (lf:=lf) (d:=d+5) h3s rV) (by omega) (fun _ _ h=>h.elim) fun v6 h6 n6 An mD hY=> ?_
    obtain⟨rfl,rfl,de6⟩:=hY
    have g6:h6.get z=_:=(mD z hz5 id).trans (get_eq _ _ _)
    have hz6:z<n3+2+1:=by omega
    try simp(disch:=first|omega|assumption) only[af,aa,RZ,bG,ext1,g6,xv,true_or,or_true]
    rw[if_pos EC,if_pos hs]
    have un:∀(B:Option AB) b,b<n3->b≠z->¬aN m.cv b->(h6.set z B).get b=h3.get b:=fun B b hb h7 h8=>by
     rw[aD _ _ h7,mD b (by omega) id,aD _ _ h7,k4 b hb h8]
    have asO:∀{b:Nat},aN m.cv b->b<n3:=fun hb=>(y3.cs.lt hb).2
    have ED:m.iv.length=c.aT.length:=y3.mY
    have key:∀B:AB,B=qC {c with now:=0,lens:=[],aT:=c.aT++[l']} {m with r:=n3+2,lv:= .slice none 0 0,cv:= .slice (some ⟨n3+1,0,none⟩) ((m.iv.map fun x=>lN (some ⟨x.2.2,0,none⟩)).length+1) (bq+((m.iv.map fun x=>lN (some ⟨x.2.2,0,none⟩)).length+1)),dw:=false,iv:=m.iv++[(n2,n3,c3)]}->
     cY (h6.set z (some B)) (n3+2+1) z p {c with now:=0,lens:=[],aT:=c.aT++[l']} {m with r:=n3+2,lv:= .slice none 0 0,cv:= .slice (some ⟨n3+1,0,none⟩) ((m.iv.map fun x=>lN (some ⟨x.2.2,0,none⟩)).length+1) (bq+((m.iv.map fun x=>lN (some ⟨x.2.2,0,none⟩)).length+1)),dw:=false,iv:=m.iv++[(n2,n3,c3)]}:=fun B hB=>
     {get:=by rw[get_eq,hB]
      lt:=by omega
      pk:=y3.pk.aB (by omega) fun b hb h7=>by
       rcases h7 with rfl|h7
       ·exact un _ _ hb (Ne.symm y3.zq) fun e=>(y3.cv e).2.1 rfl
       ·exact un _ b hb (y3.pv h7).1 (y3.pv h7).2.2.2
      de:=(de6.low).aB (an _) fun b hb h7=>aD _ _ (by
       rcases h7 with rfl|h7
       ·omega
       ·obtain⟨_,_,_,h7⟩:=h7;cases h7)
      took:=y3.took.mW (by omega) fun b hb=>un _ b (y3.took.lt hb) (y3.tv hb).1 (y3.tv hb).2.2.2.1
      rW:=fun b hb=>⟨(y3.tv hb).2.2.2.2.1,fun e=>by obtain⟨_,_,_,e⟩:=e;cases e⟩
      qD:=fun b hb e=>by obtain⟨_,_,_,e⟩:=e;cases e
      cs:=by
       refine .inr ⟨n3+1, ?_, ?_,by omega,by omega⟩
       ·simp
       ·rw[aD _ _ (by omega),mD _ (by omega) id,aD _ _ (by omega),g4,List.map_append]
        rfl
      mY:=by simp[ED]
      code:=fun i hi=>by
       have hi:i<c.aT.length+1:=by simpa using hi
       by_cases gT:i<c.aT.length
       ·obtain⟨w,e,k,h7,h8,h9⟩:=y3.code i gT
        refine⟨w,by rw[uk (by omega)];exact e, ?_,h7,by omega,fun b oL pM dW=> ?_⟩
        ·have:(c.aT++[l']).getD i []=c.aT.getD i []:=by rw[IF,if_pos gT]
         show tF _ _ _ _ ((c.aT++[l']).getD i [])
         rw[this]
         exact k.aB fun b oL pM=>un _ b (by omega) (fun e=>h9 b oL pM (.inl e)) fun e=>h9 b oL pM (.inr (.inr (.inr (.inr (.inr e)))))
        ·rcases dW with dW|dW|dW|dW|dW|dW
         ·exact h9 b oL pM (.inl dW)
         ·exact h9 b oL pM (.inr (.inl dW))
         ·have:b=n3+2:=dW
          omega
         ·exact h9 b oL pM (.inr (.inr (.inr (.inl dW))))
         ·obtain⟨_,_,_,e⟩:=dW;cases e
         ·have:=dW.inj
          omega
       ·have Ln:i=c.aT.length:=by omega
        subst Ln
        refine⟨(n2,n3,c3),by rw[<-ED,qR (an _),uq];rfl, ?_,x2.lt,by show n3<=_;omega,fun b oL pM dW=> ?_⟩
        ·have:(c.aT++[l']).getD c.aT.length []=l':=by rw[IF,if_neg (by omega),if_pos rfl]
         show tF _ _ _ _ ((c.aT++[l']).getD c.aT.length [])
         rw[this]
         refine k3.aB fun b oL pM=>un _ b pM (fun e=>by have:=y2.lt;omega) fun e=> ?_
         have:=(y2.cs.lt e).2
         omega
        ·have oL:n2<=b:=oL
         have pM:b<n3:=pM
         rcases dW with dW|dW|dW|dW|dW|dW
         ·have:=y2.lt
          omega
         ·have dW:b=m.q:=dW
          have:=y2.pk.lt
          have h13:m.q<n2:=this
          omega
         ·have:b=n3+2:=dW
          omega
         ·have:=(y2.pk.own.lt dW).2
          omega
         ·obtain⟨_,_,_,e⟩:=dW;cases e
         ·have:=dW.inj
          omega}
    have fk:∀b,({m with r:=n3+2,lv:= .slice none 0 0,cv:= .slice (some ⟨n3+1,0,none⟩) ((m.iv.map fun x=>lN (some ⟨x.2.2,0,none⟩)).length+1) (bq+((m.iv.map fun x=>lN (some ⟨x.2.2,0,none⟩)).length+1)),dw:=false,iv:=m.iv++[(n2,n3,c3)]}:Cm).F z b->m.F z b∨n<=b:=by
     intro b dW
     rcases dW with dW|dW|dW|dW|dW|dW
     ·exact .inl (.inl dW)
     ·exact .inl (.inr (.inl dW))
     ·have:b=n3+2:=dW
      exact .inr (by omega)
     ·exact .inl (.inr (.inr (.inr (.inl dW))))
     ·obtain⟨_,_,_,e⟩:=dW;cases e
     ·have:=dW.inj
      exact .inr (by omega)
    refine⟨(x3.aB (by omega) ((mD p (by have:=x3.lt;omega) id).trans ((aD _ _ pL).trans (k4 p x3.lt fun e=>ap.f (.inr (.inr (.inr (.inr (.inr e)))))))):bf h6 _ p S D (A+u)).aB (an _) (aD _ _ pL),_,key _ rfl,rfl,rfl,rfl,fk,⟨fun e=>(fk p e).elim ap.f fun e=>by omega,ap.t⟩,fun y hy=>by
     rcases List.mem_append.1 hy with hy|hy
     ·exact .inl hy
     ·simp only[vJ]at hy
      subst hy
      exact .inr (by show n<=n2;omega)⟩
   ·refine aU aK (alj lf d n2 h2 aC v2 (iN l') r2 (by omega) (by omega) (BW.2 fun x hx=>by
     obtain⟨w,hw,rfl⟩:=List.mem_map.1 hx
     have:=ok1.all w hw
     omega) hs) (by omega) (fun _ _ h=>h.elim) fun v3 h3 n3 fw dK bQ=> ?_
    subst bQ
    have z22:((22:Int) !=0)=true:=rfl
    try simp(disch:=first|omega|assumption) only[af,aa,RZ,bG,ext1,z22]
    rw[if_pos EC,if_neg hs]
    exact⟨rfl,⟨_,x2.aB fw (dK p x2.lt id)⟩,_,_,y2.aB fw fun b hb _=>dK b hb id,rfl,rfl,fm jK false kJ⟩
  ·rw[decide_eq_false EC]
   try simp(disch:=first|omega|assumption) only[af,aa,RZ,cP]
   rw[if_neg EC]
   exact⟨x1,_,mk Cf l' jK false y1 kJ,rfl,rfl,rfl,(fm jK false kJ).1,(fm jK false kJ).2,fun y hy=> .inl hy⟩
end
def pN(c:Cd)(bs:List Bool):St (Nat×Cd):=
 if c.took.length<=c.count/50 then .bad 25 else
 match iX (c.aT.getD (c.took.getD (c.count/50) 0) []) bs with
 |none=> .short
 |some s=> .ok (s,{c with count:=c.count+1,done:=decide (s+1=c.size)}) ((c.aT.getD (c.took.getD (c.count/50) 0) []).getD s 0)
section
variable {lf d n z p:Nat} {h:H} {S:List UInt8} {D A:Nat} {c:Cd} {m:Cm}
theorem al4(x:bf h n p S D A)(y:cY h n z p c m)(ap:tL p z m)(ht:∀v∈c.took,v<c.aT.length)(hw:∀l∈c.aT,Wh l∧l.length=c.size)(rV:c.size<=258)(hc:c.count<=1000000000000000)(aC:100<=lf):
 ai (fun b=>b=p∨m.F z b) n (au ah gt lf (d+6) 251 #[.pointer (some ⟨z,0,none⟩),.pointer (some ⟨p,0,none⟩)]) h n fun v' h' n'=>
  match pN c (ax S D A)with
  | .short=>v'= .tuple #[.int .i64 (-1),.int .i64 3]∧bf h' n' p S D A∧cY h' n' z p c m
  | .bad e=>v'= .tuple #[.int .i64 (-1),.int .i64 e]∧bf h' n' p S D A∧cY h' n' z p c m
  | .ok (s,c') u=>v'= .tuple #[.int .i64 (s:Int),.int .i64 0]∧bf h' n' p S D (A+u)∧cY h' n' z p c' m:=by
 have g:=y.get
 have hz:=y.lt
 unfold qC at g
 have pL:p≠z:=fun e=>ap.f (.inl e)
 have Al:=x.lt
 have z0:((0:Int) !=0)=false:=rfl
 have z3:((3:Int) !=0)=true:=rfl
 have xw:((c.count:Nat):Int).tdiv 50=((c.count/50:Nat):Int):=rfl
 have lt:=gK c.took
 rw[aL (fun _=>ajR) rfl]
 refine ai.aH ?_
 unfold Zp pN
 by_cases hb:c.took.length<=c.count/50
 ·rw[if_pos hb]
  obtain⟨a,cc,tN⟩:=y.took.len
  rw[tN]at g
  have c1:((((iN c.took).length:Nat)):Int)<=((c.count/50:Nat):Int):=by omega
  try simp(disch:=first|omega|assumption) only[af,aa,RZ,g,xw,c1]
  exact⟨x,y⟩
 ·rw[if_neg hb]
  obtain⟨b,off,cap,o,ks,tN,hg,lR,hv⟩:=y.took.some (by omega)
  have c1:¬((((iN c.took).length:Nat)):Int)<=((c.count/50:Nat):Int):=by omega
  rw[tN]at g
  obtain⟨gR,rY⟩:∃t,c.took.getD (c.count/50) 0=t:=⟨_,rfl⟩
  have EE:ks[off+c.count/50]? =some (.int .i64 (gR:Int)):=by
   rw[hv.2.2.2 _ (by omega),tE,rY]
  have oM:gR<c.aT.length:=by
   refine ht gR ?_
   rw[<-rY,bC,bD (by omega)]
   exact eu _
  obtain⟨w,hwi,kc,rX,hwn,hwf⟩:=y.code gR oM
  have ED:=y.mY
  obtain⟨bc,I4,rU,Ld⟩:∃bc,m.cv= .slice (some ⟨bc,0,none⟩) m.iv.length (bq+m.iv.length)∧h.get bc=some ⟨329,true,m.iv.map fun x=> .pointer (some ⟨x.2.2,0,none⟩)⟩∧bc<n:=by
   rcases y.cs with ⟨_,e⟩|⟨bc,h1,h2,_,h4⟩
   ·have:m.iv.length=0:=by rw[arV]at e;rw[e];rfl
    omega
   ·rw[dL]at h1
    exact⟨bc,h1,h2,h4⟩
  rw[I4]at g
  have nI:(m.iv.map fun x=>lN (some ⟨x.2.2,0,none⟩))[gR]? =some (.pointer (some ⟨w.2.2,0,none⟩)):=by
   rw[jC,hwi]
   rfl
  have yO:(gR:Int)<((m.iv.length:Nat):Int):=by omega
  have pO:c.aT.getD gR []∈c.aT:=by
   rw[bC,bD oM]
   exact eu _
  have hwh:=hw _ pO
  rw[rY]
  obtain⟨ln,ey⟩:∃l,c.aT.getD gR []=l:=⟨_,rfl⟩
  rw[ey]at kc hwh⊢
  try simp(disch:=first|omega|assumption) only[af,aa,RZ,g,xw,c1,hg,EE,rU,nI]
  refine aU aK (als (lf:=lf) (d:=d) x kc hwh.1 hwn rX (by omega) aC) (an _) (fun b _ hb=> .inr (.inl hb)) fun v1 h1 n1 aM aY aw=> ?_
  obtain⟨rfl,aw⟩:=aw
  have y1:cY h1 n1 z p c m:=y.aB (an _) fun b hb h7=>aY b hb (by
   rcases h7 with h7|h7|⟨y',h7,h8,h9⟩
   ·exact fun e=>ap.f (e▸h7)
   ·exact fun e=>ap.t (e▸h7)
   ·have:=(y.iv h7).1
    omega)
  have g1:=y1.get
  unfold qC at g1
  have tM:=y1.lt
  have xv:m.F z z:= .inl rfl
  rcases aw with ⟨e,rfl,x1⟩|⟨s,e,rfl,x1⟩
  ·try simp(disch:=first|omega|assumption) only[af,aa,RZ,bG,ext1,z3]
   rw[e]
   exact⟨x1,y1⟩
  ·have w1:IntKind.i64.wrap ((c.count:Int)+1)=((c.count+1:Nat):Int):=by rw[aJ (by omega) (by omega)];omega
   have w2:IntKind.i64.wrap ((c.size:Int)-1)=(c.size:Int)-1:=aJ (by omega) (by omega)
   have e2:(((s:Nat):Int)==(c.size:Int)-1)=decide (s+1=c.size):=by
    by_cases q:s+1=c.size
    ·rw[decide_eq_true q];exact beq_iff_eq.2 (by omega)
    ·rw[decide_eq_false q];exact beq_eq_false_iff_ne.2 (by omega)
   try simp(disch:=first|omega|assumption) only[af,aa,RZ,bG,ext1,z0,g1,xv,w1,w2,e2]
   rw[e]
   have y2:=y1.I2 {c with count:=c.count+1} m.tv rfl rfl rfl rfl rfl y1.took y1.rW rfl
   have y3:=y2.I2 {c with count:=c.count+1,done:=decide (s+1=c.size)} m.tv rfl rfl rfl rfl rfl y2.took y2.rW rfl
   exact⟨rfl,(x1.aB (an _) (aD _ _ pL)).aB (an _) (aD _ _ pL),y3⟩
end
theorem EF:∀{r o:Nat} {bs:List Bool} {o' u:Nat},jL r o bs= .ok o' u->o<=o'∧o'<o+r
 |0,_,_,_,_,h=>by simp[jL]at h
 |_+1,_,[],_,_,h=>by simp[jL]at h
 |r+1,o,false::_,_,_,h=>by
  simp only[jL,St.ok.injEq]at h
  omega
 |r+1,o,true::bs,_,_,h=>by
  have:=EF (r:=r) (o:=o+1) (bs:=bs) h
  omega
theorem aaZ:∀{r o:Nat} {bs:List Bool} {e:Int},jL r o bs= .bad e->e=25
 |0,_,_,_,h=>by
  simp only[jL,St.bad.injEq]at h
  exact h.symm
 |_+1,_,[],_,h=>by simp[jL]at h
 |r+1,o,false::_,_,h=>by simp[jL]at h
 |r+1,o,true::bs,_,h=>aaZ (r:=r) (o:=o+1) (bs:=bs) h
theorem al5{α:Type}(d:α){O:List α}{i:Nat}(hi:i<O.length)(j:Nat):(dP d O i).getD j d=if j=0 then O.getD i d else if j<=i then O.getD (j-1) d else O.getD j d:=by
 unfold dP
 cases j with
 |zero=>rfl
 |succ j=>
  rw[if_neg (by omega)]
  show(O.take i++O.drop (i+1)).getD j d=_
  simp only[bC,Nat.add_sub_cancel]
  by_cases h:j+1<=i
  ·rw[if_pos h,uk (by rw[dr];omega),List.getElem?_take,if_pos (by omega)]
  ·rw[if_neg h,qR (by rw[dr];omega),dr,List.getElem?_drop,show i+1+(j-min i O.length)=j+1 by omega]
theorem aa0{j:Nat}(h:j<6):tJ.getD j 0=j:=by
 rcases j with _|_|_|_|_|_|j<;>first|rfl|omega
theorem aa1{s:Pk}{bs:List Bool}{e:Int}(h:fx s bs= .bad e):e=25:=by
 unfold fx at h
 split at h
 ·split at h
  ·cases h
  ·split at h
   ·cases h
   ·cases h;rfl
 ·split at h
  ·cases h
  ·next e' h1=>
   cases h
   exact aaZ h1
  ·cases h
theorem Pg{s s':Pk}{bs:List Bool}{u:Nat}(k:s.Ok)(h6:s.t<=6)(hl:s.ord.length=6)(hf:s.fin=false)(h:fx s bs= .ok s' u):s'.Ok∧0<u∧u<=bs.length:=by
 unfold fx at h
 split at h
 ·next h0=>
  split at h
  ·cases h
  ·split at h
   ·next hb hc=>
    simp only[St.ok.injEq]at h
    obtain⟨rfl,rfl⟩:=h
    obtain⟨h1,h2⟩:=k.new h0
    refine⟨⟨fun e=>absurd e hc.2,fun j hj=> ?_,fun x hx=> ?_,fun _=> ?_,fun _=>hc.1.1⟩,by omega,by omega⟩
    ·show s.ord.getD j 0<_
     rw[h2,aa0 (by have:j<num (bs.take 18) 0/32768:=hj;omega)]
     exact hj
    ·have hx:x∈s.bJ:=hx
     rw[h1]at hx;cases hx
    ·show s.bJ.length<=_
     rw[h1];exact aR _
   ·cases h
 ·next h0=>
  split at h
  ·cases h
  ·cases h
  ·next o u' h1=>
   simp only[St.ok.injEq]at h
   obtain⟨rfl,rfl⟩:=h
   have ho:=(EF h1).2
   have bM:s.bJ.length<s.count:=by
    have:=k.len h0
    refine RN this fun e=> ?_
    unfold Pk.fin at hf
    rw[e,decide_eq_true rfl,decide_eq_true (show 0<s.count by omega)]at hf
    cases hf
   have hu:∀{r o:Nat} {bs:List Bool} {o' u:Nat},jL r o bs= .ok o' u->u=o'+1∧u<=o+bs.length:=by
    intro r
    induction r with
    |zero=>intro o bs o' u h;simp[jL]at h
    |succ r ih=>
     intro o bs o' u h
     cases bs with
     |nil=>simp[jL]at h
     |cons b bs=>
      cases b with
      |false=>
       simp only[jL,St.ok.injEq]at h
       simp only[dp]
       omega
      |true=>
       have:=ih (o:=o+1) (bs:=bs) h
       simp only[dp]
       omega
   have:=hu h1
   refine⟨⟨fun e=>absurd e h0,fun j hj=> ?_,fun x hx=> ?_,fun _=> ?_,fun e=>k.two e⟩,by omega,by omega⟩
   ·show(dP 0 s.ord o).getD j 0<s.t
    have hj:j<s.t:=hj
    rw[al5 0 (by omega)]
    split
    ·exact k.ord o (by omega)
    ·split
     ·exact k.ord _ (by omega)
     ·exact k.ord j hj
   ·rcases List.mem_append.1 hx with hx|hx
    ·exact k.bJ x hx
    ·simp only[vJ]at hx
     rw[hx]
     exact k.ord o (by omega)
   ·show(s.bJ++[_]).length<=s.count
    simp
    omega
structure lH (c:Cd):Prop where
 pk:c.pk.Ok
 jc:c.pk.t<=6
 ol:c.pk.ord.length=6
 nt:c.pk.fin=false->c.aT=[]∧c.took=[]
 tk:c.pk.fin=true->c.took=c.pk.bJ
 cl:c.aT.length<=c.pk.t
 ln:Cc c.size c.now c.lens
 ll:c.lens.length<c.size
 wh:∀l∈c.aT,Wh l∧l.length=c.size
 lo:3<=c.size
 hi:c.size<=258
 wr:c.bV=0
 dn:c.done=false
def iH(c:Cd)(bs:List Bool):St (Int×Cd):=
 if c.pk.fin=false then match fx c.pk bs with
  | .short=> .short
  | .bad e=> .bad e
  | .ok s u=> .ok (-1,nN c s) u
 else if c.aT.length<c.pk.t then match stepT c bs with
  | .short=> .short
  | .bad e=> .bad e
  | .ok c' u=> .ok (-1,c') u
 else match pN c bs with
  | .short=> .short
  | .bad e=> .bad e
  | .ok (s,c') u=> .ok ((s:Int),c') u
theorem I5{now:Nat}{lens:List Nat}{bs:List Bool}{m:Nat}{l:List Nat}{u:Nat}(h:eU now lens bs= .ok (m,l) u):0<u∧u<=bs.length:=by
 have turn:∀(z:Int) (w:Nat),mC z lens w= .ok (m,l) u->u=w:=by
  intro z w hz
  unfold mC at hz
  split at hz
  ·simp only[St.ok.injEq]at hz
   exact hz.2.symm
  ·cases hz
 unfold eU at h
 split at h
 ·split at h
  ·cases h
  ·have:=turn _ _ h
   omega
 ·split at h
  ·cases h
  ·simp only[St.ok.injEq]at h
   simp only[dp]
   omega
  ·cases h
  ·have:=turn _ _ h
   simp only[dp]
   omega
theorem Ph{c c':Cd}{bs:List Bool}{u:Nat}(k:lH c)(ht:c.aT.length<c.pk.t)(fin:c.pk.fin=true)(h:stepT c bs= .ok c' u):lH c'∧c'.count=c.count∧0<u∧u<=bs.length:=by
 unfold stepT at h
 split at h
 ·cases h
 ·cases h
 ·next m l u' h1=>
  have ok:=I3 k.ln k.ll h1
  have us:=I5 h1
  split at h
  ·next hl=>
   split at h
   ·next hs=>
    simp only[St.ok.injEq]at h
    obtain⟨rfl,rfl⟩:=h
    refine⟨⟨k.pk,k.jc,k.ol,fun e=>absurd fin (by rw[show c.pk.fin=false from e];decide),k.tk,by simp;omega,⟨aR _,aR _,fun x hx=>absurd hx (by simp)⟩,by have:=k.lo;show 0<c.size;omega,fun w hw=> ?_,k.lo,k.hi,k.wr,k.dn⟩,rfl,us.1,us.2⟩
    rcases List.mem_append.1 hw with hw|hw
    ·exact k.wh w hw
    ·simp only[vJ]at hw
     subst hw
     exact⟨B6 ok.all hs,hl⟩
   ·cases h
  ·next hl=>
   simp only[St.ok.injEq]at h
   obtain⟨rfl,rfl⟩:=h
   exact⟨⟨k.pk,k.jc,k.ol,k.nt,k.tk,k.cl,ok,RN ok.len hl,k.wh,k.lo,k.hi,k.wr,k.dn⟩,rfl,us.1,us.2⟩
theorem I6{c:Cd}(k:lH c)(fin:c.pk.fin=true)(ht:¬c.aT.length<c.pk.t):∀v∈c.took,v<c.aT.length:=fun v hv=>by
 rw[k.tk fin]at hv
 have:=k.pk.bJ v hv
 omega
theorem I7{c c':Cd}{bs:List Bool}{sym:Int}{u:Nat}(k:lH c)(h:iH c bs= .ok (sym,c') u):(c'.done=false->lH c')∧c'.count<=c.count+1∧0<u∧u<=bs.length:=by
 unfold iH at h
 split at h
 ·next hf=>
  split at h
  ·cases h
  ·cases h
  ·next s u' h1=>
   simp only[St.ok.injEq,nh]at h
   obtain⟨⟨rfl,rfl⟩,rfl⟩:=h
   obtain⟨h2,h3,h4⟩:=Pg k.pk k.jc k.ol hf h1
   obtain⟨n1,n2⟩:=k.nt hf
   refine⟨fun _=>⟨h2, ?_, ?_,fun e=>⟨n1, ?_⟩,fun e=> ?_, ?_,k.ln,k.ll,k.wh,k.lo,k.hi,k.wr,k.dn⟩,iP _,h3,h4⟩
   ·show s.t<=6
    unfold fx at h1
    split at h1
    ·split at h1
     ·cases h1
     ·split at h1
      ·next hc=>
       simp only[St.ok.injEq]at h1
       obtain⟨rfl,_⟩:=h1
       exact hc.1.2
      ·cases h1
    ·split at h1
     ·cases h1
     ·cases h1
     ·simp only[St.ok.injEq]at h1
      obtain⟨rfl,_⟩:=h1
      exact k.jc
   ·show s.ord.length=6
    unfold fx at h1
    split at h1
    ·split at h1
     ·cases h1
     ·split at h1
      ·simp only[St.ok.injEq]at h1
       obtain⟨rfl,_⟩:=h1
       exact k.ol
      ·cases h1
    ·split at h1
     ·cases h1
     ·cases h1
     ·next o u2 h5=>
      simp only[St.ok.injEq]at h1
      obtain⟨rfl,_⟩:=h1
      have:=(EF h5).2
      have:=k.jc
      exact Cb (dv:=0) k.ol (by omega)
   ·have e:s.fin=false:=e
    show(if s.fin=true then s.bJ else c.took)=[]
    rw[e];exact n2
   ·have e:s.fin=true:=e
    show(if s.fin=true then s.bJ else c.took)=s.bJ
    rw[if_pos e]
   ·show c.aT.length<=s.t
    rw[n1];exact aR _
 ·next hf=>
  have fin:c.pk.fin=true:=by simpa using hf
  split at h
  ·next ht=>
   split at h
   ·cases h
   ·cases h
   ·next c2 u2 h1=>
    simp only[St.ok.injEq,nh]at h
    obtain⟨⟨rfl,rfl⟩,rfl⟩:=h
    obtain⟨h2,h3,h4⟩:=Ph k ht fin h1
    exact⟨fun _=>h2,by omega,h4⟩
  ·next ht=>
   split at h
   ·cases h
   ·cases h
   ·next s c2 u2 h1=>
    simp only[St.ok.injEq,nh]at h
    obtain⟨⟨rfl,rfl⟩,rfl⟩:=h
    unfold pN at h1
    split at h1
    ·cases h1
    ·next hb=>
     split at h1
     ·cases h1
     ·next s' h3=>
      simp only[St.ok.injEq,nh]at h1
      obtain⟨⟨rfl,rfl⟩,rfl⟩:=h1
      obtain⟨m1,m2,m3⟩:=vh h3
      have pO:c.aT.getD (c.took.getD (c.count/50) 0) []∈c.aT:=by
       have oM:c.took.getD (c.count/50) 0<c.aT.length:=by
        refine I6 k fin ht _ ?_
        rw[bC,bD (by omega)]
        exact eu _
       rw[bC,bD oM]
       exact eu _
      have:=((k.wh _ pO).1.at m1).1
      exact⟨fun hd=>⟨k.pk,k.jc,k.ol,k.nt,k.tk,k.cl,k.ln,k.ll,k.wh,k.lo,k.hi,k.wr,hd⟩,an _,by omega,m2⟩
theorem I8{c:Cd}{bs:List Bool}{e:Int}(h:iH c bs= .bad e):e=22∨e=25:=by
 unfold iH at h
 split at h
 ·split at h
  ·cases h
  ·next h1=>cases h;exact .inr (aa1 h1)
  ·cases h
 ·split at h
  ·split at h
   ·cases h
   ·next h1=>
    cases h
    unfold stepT at h1
    split at h1
    ·cases h1
    ·next h2=>cases h1;exact .inl (Pf h2)
    ·split at h1
     ·split at h1
      ·cases h1
      ·cases h1;exact .inl rfl
     ·cases h1
   ·cases h
  ·split at h
   ·cases h
   ·next h1=>
    cases h
    unfold pN at h1
    split at h1
    ·cases h1;exact .inr rfl
    ·split at h1
     ·cases h1
     ·cases h1
   ·cases h
theorem Pj{β:Type}{rec:FuncId->Array Value->M Value}{f:FuncId}(hf:oX ah f=true)(r a:Value)(k:Value->M β):kD ah rec (.func (.func f) #[r] #[]) [a] k=ay rec f [r,a] k:=by
 unfold kD
 show bh (some _) _=_
 rw[wG]
 simp only[hf]
 exact(nB _ _).symm
section
variable {lf d n z p:Nat} {h:H} {S:List UInt8} {D A:Nat} {c:Cd} {m:Cm}
def Pl(h:H)(n p:Nat)(S:List UInt8)(D A z:Nat)(c:Cd)(m:Cm)(v':Value)(h':H)(n':Nat):Prop:=
 match iH c (ax S D A)with
 | .short=>v'= .tuple #[.int .i64 0,.int .i64 3]∧bf h' n' p S D A∧cY h' n' z p c m
 | .bad e=>v'= .tuple #[.int .i64 0,.int .i64 e]∧(∃B,bf h' n' p S D B)∧∃c' m',cY h' n' z p c' m'∧c'.bV=e∧c'.done=false∧(∀b,m'.F z b->m.F z b∨n<=b)∧tL p z m'∧m'.tv=m.tv∧m'.iv=m.iv∧c'.pk=c.pk∧c'.aT=c.aT∧c'.size=c.size
 | .ok (sym,c') u=>v'= .tuple #[.int .i64 sym,.int .i64 0]∧bf h' n' p S D (A+u)∧∃m',cY h' n' z p c' m'∧m'.pw=false∧m'.dw=false∧(∀b,m'.F z b->m.F z b∨n<=b)∧tL p z m'∧(∀b,aN m'.tv b->aN m.tv b∨n<=b)∧∀y∈m'.iv,y∈m.iv∨n<=y.1
theorem al6(x:bf h n p S D A)(y:cY h n z p c m)(ap:tL p z m)(rX:m.pw=false)(Ce:m.dw=false)(k:lH c)(hc:c.count<=1000000000000000)(aC:3000000<=lf):
 ai (fun b=>b=p∨m.F z b) n (au ah gt lf (d+9) 241 #[.pointer (some ⟨z,0,none⟩),.pointer (some ⟨p,0,none⟩)]) h n (Pl h n p S D A z c m):=by
 obtain⟨bs,bR⟩:∃bs,ax S D A=bs:=⟨_,rfl⟩
 have g:=y.get
 have hz:=y.lt
 unfold qC at g
 rw[k.wr,k.dn]at g
 have pL:p≠z:=fun e=>ap.f (.inl e)
 have z0:((0:Int) !=0)=false:=rfl
 have xv:m.F z z:= .inl rfl
 have dn:=I1 (lf:=lf) (d:=d+7) y.pk
 rw[show(decide (0<c.pk.count)&&decide (c.pk.bJ.length=c.pk.count))=c.pk.fin from rfl]at dn
 rw[aL (fun _=>ajH) rfl]
 refine ai.aH ?_
 unfold Zd
 have cm1:=fun{β:Type} {rec:FuncId->Array Value->M Value} (r a:Value) (k:Value->M β)=>Pj (rec:=rec) (f:=253) (by kernel_rfl) r a k
 have Pm:=fun{β:Type} {rec:FuncId->Array Value->M Value} (r a:Value) (k:Value->M β)=>Pj (rec:=rec) (f:=255) (by kernel_rfl) r a k
 have cm3:=fun{β:Type} {rec:FuncId->Array Value->M Value} (r a:Value) (k:Value->M β)=>Pj (rec:=rec) (f:=251) (by kernel_rfl) r a k
 have tok:∀(sym:Int) (h1:H) (n1:Nat) (Q:Value->H->Nat->Prop),Q (.tuple #[.int .i64 sym,.int .i64 0]) h1 n1->
  ai (fun b=>b=p∨m.F z b) n (aP (.tuple #[.int .i64 sym,.int .i64 0]) 0 fun d=>aP (.tuple #[.int .i64 sym,.int .i64 0]) 1 fun h=>aW h (ii 0) fun e=>ak e (aj [d,h]) (bz h (ii 3) fun j=>ak j (az (.pointer (some ⟨z,0,none⟩)) fun l=>aq 7 l fun m=>aZ m h fun _=>aj [(ii 0),h]) (aj [(ii 0),h]))) h1 n1 Q:=by
  intro sym h1 n1 Q hQ
  have e0:((0:Int)==0)=true:=rfl
  try simp(disch:=first|omega|assumption) only[af,aa,RZ,bG,ext1,e0]
  exact hQ
 have Pn:∀(sym:Int) (h1:H) (n1:Nat) (Q:Value->H->Nat->Prop),Q (.tuple #[.int .i64 0,.int .i64 3]) h1 n1->
  ai (fun b=>b=p∨m.F z b) n (aP (.tuple #[.int .i64 sym,.int .i64 3]) 0 fun d=>aP (.tuple #[.int .i64 sym,.int .i64 3]) 1 fun h=>aW h (ii 0) fun e=>ak e (aj [d,h]) (bz h (ii 3) fun j=>ak j (az (.pointer (some ⟨z,0,none⟩)) fun l=>aq 7 l fun m=>aZ m h fun _=>aj [(ii 0),h]) (aj [(ii 0),h]))) h1 n1 Q:=by
  intro sym h1 n1 Q hQ
  have e0:((3:Int)==0)=false:=rfl
  have e3:((3:Int) !=3)=false:=rfl
  try simp(disch:=first|omega|assumption) only[af,aa,RZ,bG,ext1,e0,e3]
  exact hQ
 have Po:∀(sym e:Int) (h1:H) (n1:Nat) (c1:Cd) (m1:Cm) (Q:Value->H->Nat->Prop),e=22∨e=25->cY h1 n1 z p c1 m1->
  (∀h2,(∀b,b≠z->h2.get b=h1.get b)->cY h2 n1 z p {c1 with bV:=e} m1->Q (.tuple #[.int .i64 0,.int .i64 e]) h2 n1)->
  ai (fun b=>b=p∨m.F z b) n (aP (.tuple #[.int .i64 sym,.int .i64 e]) 0 fun d=>aP (.tuple #[.int .i64 sym,.int .i64 e]) 1 fun h=>aW h (ii 0) fun e=>ak e (aj [d,h]) (bz h (ii 3) fun j=>ak j (az (.pointer (some ⟨z,0,none⟩)) fun l=>aq 7 l fun m=>aZ m h fun _=>aj [(ii 0),h]) (aj [(ii 0),h]))) h1 n1 Q:=by
  intro sym e h1 n1 c1 m1 Q he y1 hQ
  have e0:(e==0)=false:=beq_eq_false_iff_ne.2 (by omega)
  have e3:(e !=3)=true:=by rw[bne_iff_ne];omega
  have g1:=y1.get
  unfold qC at g1
  have tM:=y1.lt
  try simp(disch:=first|omega|assumption) only[af,aa,RZ,bG,ext1,e0,e3,g1,xv]
  exact hQ _ (fun b hb=>aD _ _ hb) (y1.I2 {c1 with bV:=e} m1.tv rfl rfl rfl rfl rfl y1.took y1.rW rfl)
 have ff:∀b,m.F z b->m.F z b∨n<=b:=fun b hb=> .inl hb
 try simp(disch:=first|omega|assumption) only[af,aa,RZ,g,z0]
 refine bL dn (an _) (fun _ _ h=>h.elim) ?_
 have qE:=@I8 c bs
 unfold Pl
 rw[bR]
 by_cases hf:c.pk.fin=false
 ·rw[hf]
  unfold iH at qE⊢
  rw[if_pos hf]at qE⊢
  try simp(disch:=first|omega|assumption) only[af,aa,RZ,cP,cm1]
  refine aU aK (al1 (lf:=lf) (d:=d+2) x y ap rX k.pk hf (by omega)) (an _) (fun b _ hb=> .inr hb) fun v1 h1 n1 aM aY aw=> ?_
  rw[bR]at aw
  cases e:fx c.pk bs with
  |short=>
   rw[e]at aw
   obtain⟨rfl,x1,y1⟩:=aw
   exact Pn _ h1 n1 _ ⟨rfl,x1,y1⟩
  |bad e0=>
   rw[e]at aw qE
   obtain⟨rfl,⟨B,x1⟩,y1⟩:=aw
   exact Po _ _ h1 n1 _ _ _ (qE rfl) y1 fun h2 k2 y2=>⟨rfl,⟨B,x1.aB (an _) (k2 p pL)⟩,_,_,y2,rfl,k.dn,ff,⟨ap.f,ap.t⟩,rfl,rfl,rfl,rfl,rfl⟩
  |ok s u=>
   rw[e]at aw
   obtain⟨rfl,x1,iG,xu,y1,jZ,tN⟩:=aw
   refine tok _ h1 n1 _ ⟨rfl,x1,_,y1,rX,Ce, ?_, ?_,tN,fun y hy=> .inl hy⟩
   ·intro b h7
    rcases h7 with h7|h7|h7|h7|h7|h7
    ·exact .inl (.inl h7)
    ·exact .inl (.inr (.inl h7))
    ·exact .inl (.inr (.inr (.inl h7)))
    ·exact(jZ b h7).imp (fun h8=> .inr (.inr (.inr (.inl h8)))) id
    ·exact .inl (.inr (.inr (.inr (.inr (.inl h7)))))
    ·exact .inl (.inr (.inr (.inr (.inr (.inr h7)))))
   ·have Al:=x.lt
    refine⟨fun h7=> ?_,fun h7=>(tN p h7).elim ap.t fun h8=>by omega⟩
    rcases h7 with h7|h7|h7|h7|h7|h7
    ·exact ap.f (.inl h7)
    ·exact ap.f (.inr (.inl h7))
    ·exact ap.f (.inr (.inr (.inl h7)))
    ·exact(jZ p h7).elim (fun h8=>ap.f (.inr (.inr (.inr (.inl h8))))) fun h8=>by omega
    ·exact ap.f (.inr (.inr (.inr (.inr (.inl h7)))))
    ·exact ap.f (.inr (.inr (.inr (.inr (.inr h7)))))
 ·have fin:c.pk.fin=true:=by simpa using hf
  rw[fin]
  have hq:=y.pk.lt
  have fI:∃a cc,m.cv= .slice a c.aT.length cc:=by
   rcases y.cs with ⟨e1,e2⟩|⟨b,e1,_⟩
   ·have:m.iv=[]:=by rw[arV]at e2;exact e2
    have h9:=y.mY
    rw[this]at h9
    exact⟨none,0,by rw[e1,<-h9];rfl⟩
   ·rw[dL,y.mY]at e1
    exact⟨_,_,e1⟩
  obtain⟨ca,cc,I4⟩:=fI
  rw[I4]at g
  unfold iH at qE⊢
  rw[if_neg hf]at qE⊢
  try simp(disch:=first|omega|assumption) only[af,aa,RZ,jP,g]
  refine xe trivial _ _ _ g hz rfl fun T1 t1=> ?_
  try simp(disch:=first|omega|assumption) only[af,aa,RZ]
  refine xe trivial _ _ _ g hz rfl fun T2 t2=> ?_
  try simp(disch:=first|omega|assumption) only[af,aa,RZ]
  refine xf aK (alL (lf:=lf) (d:=d+7) y.pk) (an _) fun T3 t3=> ?_
  by_cases ht:c.aT.length<c.pk.t
  ·have c1:((c.aT.length:Nat):Int)<((c.pk.t:Nat):Int):=by omega
   rw[if_pos ht]at qE⊢
   try simp(disch:=first|omega|assumption) only[af,aa,RZ,c1,t1.cA t3,cP,fR,eh,Pm]
   refine aU aK (al3 (lf:=lf) (d:=d) x y ap Ce k.ln k.ll k.lo k.hi (by have:=k.jc;omega) aC) (an _) (fun b _ hb=> .inr hb) fun v1 h1 n1 aM aY aw=> ?_
   rw[bR]at aw
   cases e:stepT c bs with
   |short=>
    rw[e]at aw
    obtain⟨rfl,x1,y1⟩:=aw
    exact Pn _ h1 n1 _ ⟨rfl,x1,y1⟩
   |bad e0=>
    rw[e]at aw qE
    obtain⟨rfl,⟨B,x1⟩,c',m',y1,Ba,fO,fm,am⟩:=aw
    exact Po _ _ h1 n1 _ _ _ (qE rfl) y1 fun h2 k2 y2=>⟨rfl,⟨B,x1.aB (an _) (k2 p pL)⟩,_,_,y2,rfl,by rw[Ba];exact k.dn,fm,am,by rw[fO],by rw[fO],by rw[Ba],by rw[Ba],by rw[Ba]⟩
   |ok c' u=>
    rw[e]at aw
    obtain⟨rfl,x1,m',y1,e1,e2,e3,fm,am,iv⟩:=aw
    exact tok _ h1 n1 _ ⟨rfl,x1,m',y1,e1.trans rX,e2,fm,am,fun b hb=> .inl (by rw[e3]at hb;exact hb),iv⟩
  ·have c1:¬((c.aT.length:Nat):Int)<((c.pk.t:Nat):Int):=by omega
   rw[if_neg ht]at qE⊢
   try simp(disch:=first|omega|assumption) only[af,aa,RZ,c1,t1.cA t3,cP,fR,eh,cm3]
   refine aU aK (al4 (lf:=lf) (d:=d+2) x y ap (I6 k fin ht) k.wh k.hi hc (by omega)) (an _) (fun b _ hb=> .inr hb) fun v1 h1 n1 aM aY aw=> ?_
   rw[bR]at aw
   cases e:pN c bs with
   |short=>
    rw[e]at aw
    obtain⟨rfl,x1,y1⟩:=aw
    exact Pn _ h1 n1 _ ⟨rfl,x1,y1⟩
   |bad e0=>
    rw[e]at aw qE
    obtain⟨rfl,x1,y1⟩:=aw
    exact Po _ _ h1 n1 _ _ _ (qE rfl) y1 fun h2 k2 y2=>⟨rfl,⟨_,x1.aB (an _) (k2 p pL)⟩,_,_,y2,rfl,k.dn,ff,ap,rfl,rfl,rfl,rfl,rfl⟩
   |ok cs u=>
    obtain⟨s,c'⟩:=cs
    rw[e]at aw
    obtain⟨rfl,x1,y1⟩:=aw
    exact tok _ h1 n1 _ ⟨rfl,x1,m,y1,rX,Ce,ff,ap,fun b hb=> .inl hb,fun y hy=> .inl hy⟩
theorem al7(y:cY h n z p c m):ai (fun _=>False) n (au ah gt lf (d+1) 243 #[.pointer (some ⟨z,0,none⟩)]) h n fun v' h' n'=>v'= .bool c.done∧h'=h∧n'=n:=by
 have g:=y.get
 have hz:=y.lt
 unfold qC at g
 rw[aL (fun _=>ajJ) rfl]
 refine ai.aH ?_
 unfold Zf
 try simp(disch:=first|omega|assumption) only[af,aa,RZ,g]
def qF(size:Nat):Cd:=⟨size,⟨0,0,tJ,[]⟩,0,[],[],[],0,false,0⟩
end
inductive Rs
 |err (e:Int)
 |ok (out:List Int) (a:Nat)
theorem I9{size:Nat}(h3:3<=size)(rV:size<=258):lH (qF size):=⟨⟨fun _=>⟨rfl,rfl⟩,fun j hj=>absurd hj (mJ j),fun x hx=>absurd hx (by simp[qF]),fun e=>absurd rfl e,fun e=>absurd rfl e⟩,aR _,rfl,fun _=>⟨rfl,rfl⟩,fun e=>absurd (show false=true from e) (by decide),aR _,⟨aR _,aR _,fun x hx=>absurd hx (by simp[qF])⟩,(by show 0<size;omega),fun l hl=>absurd hl (by simp[qF]),h3,rV,rfl,rfl⟩
def EG(n:Nat):Cm:=⟨n+3,.slice none 0 0,.slice none 0 0,n,.slice none 0 0,.slice none 0 0,false,false,[]⟩
theorem rZ{b:Nat}:¬aN (.slice none 0 0) b:=fun⟨_,_,_,e⟩=>by cases e
theorem al8{n b:Nat}(h:(EG n).F (n+4) b):n<=b:=by
 rcases h with h|h|h|h|h|h
 ·omega
 ·have:b=n+3:=h
  omega
 ·have:b=n:=h
  omega
 ·exact absurd h rZ
 ·exact absurd h rZ
 ·exact absurd h rZ
section
variable {lf d n z p:Nat} {h:H} {S:List UInt8} {D A:Nat} {c:Cd} {m:Cm}
theorem al9{size:Nat}(h3:3<=size)(rV:size<=258)(aC:100<=lf)(p:Nat):ai (fun _=>False) n (au ah gt lf (d+3) 247 #[.int .i64 (size:Int)]) h n fun v h' n'=>v= .tuple #[.pointer (some ⟨n+4,0,none⟩),.int .i64 0]∧n'=n+5∧cY h' n' (n+4) p (qF size) (EG n):=by
 rw[aL (fun _=>ajN) rfl]
 refine ai.aH ?_
 unfold Zl
 have z0:((0:Int) !=0)=false:=rfl
 refine aU aK (aaO (lf:=lf) (d:=d) h3 rV) (an _) (fun _ _ h=>h.elim) fun v1 h1 n1 aM aY aw=> ?_
 obtain⟨rfl,rfl,de⟩:=aw
 try simp(disch:=first|omega|assumption) only[af,aa,RZ,bG,ext1,z0]
 refine aU aK (alO (lf:=lf) (d:=d) aC) (by omega) (fun _ _ h=>h.elim) fun v2 h2 n2 cJ cf bu=> ?_
 obtain⟨rfl,rfl,pk⟩:=bu
 try simp(disch:=first|omega|assumption) only[af,aa,RZ]
 refine jH trivial _ _ ?_
 try simp(disch:=first|omega|assumption) only[af,aa,RZ]
 have un:∀(B:Option AB) b,b<n+1->(h2.set (n+1+3) B).get b=h1.get b:=fun B b hb=>by rw[aD _ _ (by omega),cf b hb id]
 exact
  {get:=get_eq _ _ _
   lt:=by omega
   pk:=⟨(aD _ _ (by show n+3≠_;omega)).trans pk.get,aR _,by show n+3<_;omega,Own.nil _ _ _ _,rfl,aR _,(by decide:0<32768)⟩
   de:=⟨(un _ n (by omega)).trans de.get,aR _,by show n<_;omega,Own.nil _ _ _ _⟩
   took:=(Own.nil _ 0 _ _:Own _ 0 _ _ _ (aS .i64 (iN []))).row
   rW:=fun b hb=>absurd hb rZ
   qD:=fun b hb=>absurd hb rZ
   cs:=Own.nil _ _ _ _
   mY:=rfl
   code:=fun i hi=>absurd hi (mJ i)}
end
def ch(b:Bool):UInt8:=if b=true then 49 else 48
def jM(l:List Bool):List UInt8:=l.map ch
def tx(l:List Bool):Value:= .string ⟨(jM l).toArray⟩
theorem Ao(l:List Bool):(jM l).length=l.length:=by unfold jM;simp
theorem al'(a b:List Bool):jM (a++b)=jM a++jM b:=by unfold jM;simp
theorem aa2(l:List Bool)(k:Nat):(jM l).take k=jM (l.take k):=by unfold jM;rw[RP]
theorem aa3(l:List Bool)(k:Nat):(jM l).drop k=jM (l.drop k):=by unfold jM;rw[Ku]
theorem al_{l:List Bool}{i:Nat}(h:i<l.length):(jM l).getD i 0=ch l[i]:=by
 unfold jM
 rw[bC,jC,bD h]
 rfl
theorem ama{a b:Bool}(h:ch a=ch b):a=b:=by
 cases a<;>cases b<;>first|rfl|exact absurd h (by decide)
theorem Pp:∀{a b:List Bool},jM a=jM b->a=b
 |[],[],_=>rfl
 |[],b::m,h=>by simp[jM]at h
 |a::l,[],h=>by simp[jM]at h
 |a::l,b::m,h=>by
  unfold jM at h
  simp only[List.map_cons,as3]at h
  rw[ama h.1,Pp (a:=l) (b:=m) h.2]
theorem amb(b:Bool):((ch b).toNat:Int)=48+(bn b:Int):=by cases b<;>rfl
theorem aa4:aV {data:=#[]}=tx []:=rfl
theorem Cg:aV {data:=#[48]}=tx [false]:=rfl
theorem I':aV {data:=#[49]}=tx [true]:=rfl
theorem amc:aV {data:=#[48,49]}=tx [false,true]:=rfl
theorem aa5(l:List Bool):one (tx l)=true:=rfl
theorem cS(l:List Bool)(k:Value->M Value):bP (tx l) k=k (.int .i64 (l.length:Int)):=by
 unfold tx
 rw[y8,Ao]
theorem Ch(a b:List Bool)(h:a.length+b.length<=1000000000)(k:Value->M Value):aA (tx a) (tx b) k=k (tx (a++b)):=by
 unfold tx
 rw[y6 _ _ _ (by rw[Ao,Ao];omega),al']
theorem tO(a b:List Bool)(k:Value->M Value):aW (tx a) (tx b) k=k (.bool (decide (a=b))):=by
 unfold tx
 rw[Hm]
 by_cases e:a=b
 ·rw[decide_eq_true e,decide_eq_true (by rw[e])]
 ·rw[decide_eq_false e,decide_eq_false fun q=>e (Pp q)]
theorem tP(l:List Bool)(k:IntKind)(i:Int)(h0:0<=i)(h1:i<l.length)(q:Value->M Value):da (tx l) (.int k i) q=q (.int .u8 (48+(bn (l.getD i.toNat false):Int))):=by
 unfold tx
 rw[BC _ _ _ _ h0 (by rw[Ao];exact h1),al_ (by omega),amb,bC,bD (by omega)]
 rfl
theorem EH(l:List Bool)(kd:IntKind)(j:Int)(k:Value->M Value)(h0:0<=j)(h1:j<=l.length):bU (tx l) none (some (.int kd j)) k=k (tx (l.take j.toNat)):=by
 unfold tx
 rw[DJ _ _ _ _ h0 (by rw[Ao];exact h1),aa2]
theorem pP(l:List Bool)(kd:IntKind)(j:Int)(k:Value->M Value)(h0:0<=j)(h1:j<=l.length):bU (tx l) (some (.int kd j)) none k=k (tx (l.drop j.toNat)):=by
 unfold tx
 rw[DK _ _ _ _ h0 (by rw[Ao];exact h1),aa3]
theorem qG(l:List Bool)(kd pC:IntKind)(i j:Int)(k:Value->M Value)(h0:0<=i)(h1:i<=j)(h2:j<=l.length):bU (tx l) (some (.int kd i)) (some (.int pC j)) k=k (tx ((l.drop i.toNat).take (j.toNat-i.toNat))):=by
 unfold tx
 rw[DL _ _ _ _ _ _ h0 h1 (by rw[Ao];exact h2),aa3,aa2]
section
variable {lf d n:Nat} {h:H}
theorem amd(v k:Nat)(hv:v<4294967296)(hk:k<=64)(aC:100<=lf):ai (fun _=>False) n (au ah gt lf (d+1) 103 #[.int .u32 (v:Int),.int .i64 (k:Int)]) h n fun v' h' n'=>v'=tx (b8 v k)∧h'=h∧n'=n:=by
 rw[aL (fun _=>W0) rfl]
 refine ai.aH ?_
 unfold HP
 refine eD k (fun fu i (s:Nat×List Bool)=>zD lf (au ah gt lf d) fu (HO lf (au ah gt lf d)) (.int .u32 (s.1:Int)) (.int .i64 (k:Int)) (.string {data:=#[]}) (tx s.2) (.int .i64 (k:Int)) (.int .i64 (i:Nat))) (fun i s h' n'=>(h'=h∧n'=n)∧s.1<4294967296∧s.2.length=i∧b8 v k=b8 s.1 (k-i)++s.2) ?_ ?_ lf 0 (v,[]) h n (aR _) (by omega) ⟨⟨rfl,rfl⟩,hv,rfl,by simp⟩
 ·rintro fu ⟨w,t⟩ h' n' ⟨⟨rfl,rfl⟩,_,_,e⟩
  rw[zD]
  try simp(disch:=first|omega|assumption) only[af,aa,RZ,fg]
  (try unfold HO);(try dsimp only)
  try simp(disch:=first|omega|assumption) only[af,aa,RZ]
  rw[e,uq]
  rfl
 ·rintro fu i ⟨w,t⟩ h' n' hi ⟨⟨rfl,rfl⟩,hw,ht,e⟩ next
  rw[zD]
  have hw:w<4294967296:=hw
  have ht:t.length=i:=ht
  have c1:((i:Nat):Int)<((k:Nat):Int):=by omega
  have e1:((w:Nat):Int).tmod 2=((w %2:Nat):Int):=rfl
  have e2:((w:Nat):Int).tdiv 2=((w/2:Nat):Int):=rfl
  have w1:IntKind.u32.wrap ((w %2:Nat):Int)=((w %2:Nat):Int):=fW (by omega)
  have w2:IntKind.u32.wrap ((w/2:Nat):Int)=((w/2:Nat):Int):=fW (by omega)
  have w3:IntKind.u32.wrap (((w %2:Nat):Int)+1)=((w %2+1:Nat):Int):=(fW (x:=w %2+1) (by omega))
  have l1:((([48,49]:List UInt8).drop (w %2)).take (w %2+1-w %2))=[ch (decide (w %2=1))]:=by
   rcases arW w with q|q<;>rw[q]<;>rfl
  have l2:(([48,49]:List UInt8).length)=2:=rfl
  have l3:([ch (decide (w %2=1))]++jM t).length=t.length+1:=by simp[jM]
  have l1:((([false,true]:List Bool).drop (w %2)).take (w %2+1-w %2))=[decide (w %2=1)]:=by
   rcases arW w with q|q<;>rw[q]<;>rfl
  have l4:[decide (w %2=1)].length+t.length<=1000000000:=by simp;omega
  have s1:=fun(kk:Value->M Value)=>qG [false,true] .u32 .u32 ((w %2:Nat):Int) ((w %2+1:Nat):Int) kk (by omega) (by omega) (by show _<=(2:Int);omega)
  try simp(disch:=first|omega|assumption) only[af,aa,RZ,c1,e1,e2,w1,w2,w3,amc,s1,l1,Ch _ _ l4]
  refine next (w/2,decide (w %2=1)::t) _ _ ⟨⟨rfl,rfl⟩,by show w/2<_;omega,by show t.length+1=_;omega, ?_⟩
  rw[e]
  obtain⟨r,hr⟩:∃r,k-i=r+1:=⟨k-i-1,by omega⟩
  rw[hr,show k-(i+1)=r by omega]
  show(b8 (w/2) r++[decide (w %2=1)])++t=b8 (w/2) r++(decide (w %2=1)::t)
  simp
theorem Ja{S:List UInt8}(hs:S.length<=100000)(aC:S.length<lf)(mP:100<=lf):ai (fun _=>False) n (au ah gt lf (d+2) 61 #[.string ⟨S.toArray⟩]) h n fun v' h' n'=>v'=tx (dm S)∧h'=h∧n'=n:=by
 rw[aL (fun _=>Wo) rfl]
 refine ai.aH ?_
 unfold HJ
 refine eD S.length (fun fu i (_:Unit)=>zB lf (au ah gt lf (d+1)) fu (HI lf (au ah gt lf (d+1))) (.string ⟨S.toArray⟩) (.string {data:=#[]}) (tx (dm (S.take i))) (.int .i64 (i:Nat))) (fun i _ h' n'=>h'=h∧n'=n) ?_ ?_ lf 0 () h n (aR _) (by omega) ⟨rfl,rfl⟩
 ·rintro fu _ h' n' ⟨rfl,rfl⟩
  rw[zB]
  try simp(disch:=first|omega|assumption) only[af,aa,RZ,fg]
  (try unfold HI);(try dsimp only)
  try simp(disch:=first|omega|assumption) only[af,aa,RZ]
  rw[mh]
 ·rintro fu i _ h' n' hi ⟨rfl,rfl⟩ next
  rw[zB]
  have c1:((i:Nat):Int)<((S.length:Nat):Int):=by omega
  obtain⟨b,hb⟩:∃b,S.getD i 0=b:=⟨_,rfl⟩
  have cF:=b.toNat_lt
  have w1:IntKind.u32.wrap ((b.toNat:Nat):Int)=((b.toNat:Nat):Int):=fW (by omega)
  try simp(disch:=first|omega|assumption) only[af,aa,RZ,c1,hb,w1]
  refine bL (amd (lf:=lf) (d:=d) b.toNat 8 (by omega) (by omega) mP) (an _) (fun _ _ h=>h.elim) ?_
  have l1:(dm (S.take i)).length+(b8 b.toNat 8).length<=1000000000:=by
   rw[Ak,iW,dr];omega
  try simp(disch:=first|omega|assumption) only[af,aa,RZ,Ch _ _ l1]
  have e:dm (S.take (i+1))=dm (S.take i)++b8 b.toNat 8:=by
   rw[qa hi,ak1]
   have:S[i]=b:=by rw[<-hb,bC,bD hi];rfl
   rw[this]
   show _++(b8 b.toNat 8++[])=_
   rw[cu]
  have:=next () h' n' ⟨rfl,rfl⟩
  rw[e]at this
  exact this
theorem Pq(l:List Bool)(hl:l.length<=31)(aC:100<=lf):ai (fun _=>False) n (au ah gt lf (d+1) 63 #[tx l]) h n fun v' h' n'=>v'= .int .u32 (num l 0:Int)∧h'=h∧n'=n:=by
 rw[aL (fun _=>Nu) rfl]
 refine ai.aH ?_
 unfold DU
 refine eD l.length (fun fu i (_:Unit)=>tm lf (au ah gt lf d) fu (BF lf (au ah gt lf d)) (tx l) (.int .u32 0) (.int .u32 (num (l.take i) 0:Int)) (.int .i64 (i:Nat))) (fun i _ h' n'=>h'=h∧n'=n) ?_ ?_ lf 0 () h n (aR _) (by omega) ⟨rfl,rfl⟩
 ·rintro fu _ h' n' ⟨rfl,rfl⟩
  rw[tm]
  try simp(disch:=first|omega|assumption) only[af,aa,RZ,cS,fg]
  (try unfold BF);(try dsimp only)
  try simp(disch:=first|omega|assumption) only[af,aa,RZ]
  rw[mh]
 ·rintro fu i _ h' n' hi ⟨rfl,rfl⟩ next
  rw[tm]
  have c1:((i:Nat):Int)<((l.length:Nat):Int):=by omega
  obtain⟨b,hb⟩:∃b,l.getD i false=b:=⟨_,rfl⟩
  have bl:=xh b
  have nl:=jI (l.take i)
  have n2:num (l.take i) 0<2147483648:=mb nl (by
   have:2^(l.take i).length<=2^31:=Nat.pow_le_pow_right (by decide) (by rw[dr];omega)
   exact this)
  have w0:IntKind.u8.wrap (48+(bn b:Int)-48)=(bn b:Int):=by
   rw[show(48+(bn b:Int)-48)=(bn b:Int) by omega];exact w8 (by omega)
  have w1:IntKind.u32.wrap ((bn b:Nat):Int)=(bn b:Int):=fW (by omega)
  have w2:IntKind.u32.wrap (2*((num (l.take i) 0:Nat):Int))=((2*num (l.take i) 0:Nat):Int):=by
   rw[show(2*((num (l.take i) 0:Nat):Int))=((2*num (l.take i) 0:Nat):Int) by omega];exact fW (by omega)
  have w3:IntKind.u32.wrap (((2*num (l.take i) 0:Nat):Int)+(bn b:Int))=((2*num (l.take i) 0+bn b:Nat):Int):=by
   rw[show(((2*num (l.take i) 0:Nat):Int)+(bn b:Int))=((2*num (l.take i) 0+bn b:Nat):Int) by omega];exact fW (by omega)
  try simp(disch:=first|omega|assumption) only[af,aa,RZ,cS,tP,c1,hb,w0,w1,w2,w3]
  have e:num (l.take (i+1)) 0=2*num (l.take i) 0+bn b:=by
   rw[qa hi,Ek]
   have:l[i]=b:=by rw[<-hb,bC,bD hi];rfl
   rw[this]
  have:=next () h' n' ⟨rfl,rfl⟩
  rw[e]at this
  exact this
def jd:List Bool->Nat
 |true::l=>jd l+1
 |_=>0
theorem aa6:∀l:List Bool,jd l<=l.length
 |[]=>an _
 |false::l=>aR _
 |true::l=>by have:=aa6 l;show jd l+1<=l.length+1;omega
theorem ame(l:List Bool)(hl:l.length<lf)(hs:l.length<=1000000000):ai (fun _=>False) n (au ah gt lf (d+1) 196 #[tx l]) h n fun v' h' n'=>v'= .int .i64 (jd l:Int)∧h'=h∧n'=n:=by
 rw[aL (fun _=>aje) rfl]
 refine ai.aH ?_
 unfold Oj
 have key:∀(r:Nat) (i fu:Nat),l.length-i=r->r<fu->i<=l.length->jd l=i+jd (l.drop i)->ai (fun _=>False) n (zW lf (au ah gt lf d) fu (D' lf (au ah gt lf d)) (tx l) (.int .i64 0) (.int .i64 (i:Nat))) h n fun v' h' n'=>v'= .int .i64 (jd l:Int)∧h'=h∧n'=n:=by
  intro r
  induction r with
  |zero=>
   intro i fu hr hf hi e
   obtain⟨fu,rfl⟩:∃f,fu=f+1:=⟨fu-1,by omega⟩
   obtain rfl:i=l.length:=by omega
   rw[zW]
   try simp(disch:=first|omega|assumption) only[af,aa,RZ,cS,fg]
   (try unfold D');(try dsimp only)
   try simp(disch:=first|omega|assumption) only[af,aa,RZ]
   rw[e,FM]
   rfl
  |succ r ih=>
   intro i fu hr hf hi e
   obtain⟨fu,rfl⟩:∃f,fu=f+1:=⟨fu-1,by omega⟩
   have gT:i<l.length:=by omega
   have c1:((i:Nat):Int)<((l.length:Nat):Int):=by omega
   have gH:l.drop i=l[i]::l.drop (i+1):=vI gT
   have jV:l.getD i false=l[i]:=by rw[bC,bD gT];rfl
   rw[zW]
   cases hb:l[i]with
   |true=>
    have e1:(48+((bn true:Nat):Int)==49)=true:=rfl
    try simp(disch:=first|omega|assumption) only[af,aa,RZ,cS,tP,c1,jV,hb,e1]
    exact ih (i+1) fu (by omega) (by omega) (by omega) (by rw[e,gH,hb];show i+(jd _+1)=_;omega)
   |false=>
    have e1:(48+((bn false:Nat):Int)==49)=false:=rfl
    try simp(disch:=first|omega|assumption) only[af,aa,RZ,cS,tP,c1,jV,hb,e1]
    (try unfold D');(try dsimp only)
    try simp(disch:=first|omega|assumption) only[af,aa,RZ]
    rw[e,gH,hb]
    rfl
 exact key l.length 0 lf (by omega) hl (aR _) (by rw[fB];rfl)
end
section
variable {β:Type} {W:Nat->Prop} {n0:Nat} {h:H} {n:Nat} {Q:β->H->Nat->Prop}
theorem db {T:Prop} (_:T) {sz:Nat} {b:Nat} {e:TypeId} {cs vs:List Value} (hl:vs.length=sz) (hc:cs.length=sz) (h1:vs.all one=true) (g:h.get b=some ⟨e,true,cs⟩) (hb:b<n) (hw:n0<=b∨W b) (k:Value->M β)
 (x:∀h',h'.get b=some ⟨e,true,vs⟩->(∀c,c≠b->h'.get c=h.get c)->ai W n0 (k undef) h' n Q):ai W n0 (aX sz (.pointer (some ⟨b,0,none⟩)) (.agg vs.toArray) k) h n Q:=by
 refine qA trivial (vs:=vs) rfl hl h1 g hb (by omega) hw k fun h' g' k'=>x h' ?_ k'
 rw[g',List.take_zero,List.nil_append,List.drop_eq_nil_of_le (by omega),cu]
end
theorem fQ{W:Nat->Prop}{n0:Nat}{h:H}{n:Nat}{Q:Value->H->Nat->Prop}{T T':Prop}(_:T)(_:T'){sz:Nat}{b:Nat}{e:TypeId}{vs:List Value}(g:h.get b=some ⟨e,true,vs⟩)(hl:vs.length=sz)(hb:b<n)(x:Q (.agg vs.toArray) h n):ai W n0 (bx sz (.pointer (some ⟨b,0,none⟩)) fun v=>aj [v]) h n Q:=by
 refine M6 b 0 _ g hb (by show 0+sz<=vs.length;omega) ?_
 rw[lX]
 have:((vs.drop 0).take sz)=vs:=by rw[jr,<-hl,mh]
 show Q (.agg ((vs.drop 0).take sz).toArray) h n
 rw[this]
 exact x
def oT(o:List Nat):Value:= .string ⟨(o.map fun x=>jq (48+x)).toArray⟩
theorem oT0:aV {data:=#[48,49,50,51,52,53]}=oT tJ:=rfl
theorem amf(o:List Nat)(h6:∀x∈o,x<6)(i:Nat)(h1:i<o.length)(k:Value->M Value):da (oT o) (.int .i64 (i:Int)) k=k (.int .u8 ((48+o.getD i 0:Nat):Int)):=by
 unfold oT
 rw[BC _ _ _ _ (by omega) (by rw[dL];omega),cL,bC,jC,bD h1,bC,bD h1]
 have:=h6 _ (eu h1)
 show k (dG .u8 ((jq (48+o[i])).toNat:Int))=k (dG .u8 ((48+o[i]:Nat):Int))
 rw[UInt8.toNat_ofNat',me (by omega)]
section
variable {lf d n:Nat} {h:H}
theorem amg(o:List Nat)(i:Nat)(hi:i<o.length)(hl:o.length<=100):ai (fun _=>False) n (au ah gt lf (d+1) 167 #[oT o,.int .i64 (i:Int)]) h n fun v' h' n'=>v'=oT (dP 0 o i)∧h'=h∧n'=n:=by
 rw[aL (fun _=>X6) rfl]
 refine ai.aH ?_
 unfold Ob
 obtain⟨l,mP⟩:∃l,(o.map fun x=>jq (48+x))=l:=⟨_,rfl⟩
 have xn:l.length=o.length:=by rw[<-mP,dL]
 have e1:(i:Int)+1=((i+1:Nat):Int):=by omega
 have w1:IntKind.i64.wrap ((i:Int)+1)=((i+1:Nat):Int):=by rw[aJ (by omega) (by omega)];omega
 have s1:=fun(k:Value->M Value)=>DL k l .i64 .i64 (i:Int) ((i+1:Nat):Int) (by omega) (by omega) (by omega)
 have s2:=fun(k:Value->M Value)=>DJ k l .i64 (i:Int) (by omega) (by omega)
 have s3:=fun(k:Value->M Value)=>DK k l .i64 ((i+1:Nat):Int) (by omega) (by omega)
 have l1:((l.drop i).take (i+1-i)).length=1:=by rw[dr,b9];omega
 have l2:(l.take i).length=i:=by rw[dr];omega
 have l3:(l.drop (i+1)).length<=o.length:=by rw[b9];omega
 have b1:=fun(k:Value->M Value)=>y6 k ((l.drop i).take (i+1-i)) (l.take i) (by omega)
 have b2:=fun(k:Value->M Value)=>y6 k ((l.drop i).take (i+1-i)++l.take i) (l.drop (i+1)) (by rw[bX];omega)
 unfold oT
 rw[mP]
 try simp(disch:=first|omega|assumption) only[af,aa,RZ,w1,s1,s2,s3,b1,b2]
 unfold dP
 have e2:(l.drop i).take (i+1-i)=[jq (48+o.getD i 0)]:=by
  rw[show i+1-i=1 by omega,<-mP,<-Ku,vI hi,bC,bD hi]
  rfl
 rw[e2,<-mP]
 simp[RP,Ku]
end
theorem Pr:∀(r o:Nat) (bs:List Bool),jL r o bs=if r<=jd bs then .bad 25 else if jd bs=bs.length then .short else .ok (o+jd bs) (o+jd bs+1)
 |0,o,bs=>by rw[if_pos (aR _)];simp[jL]
 |r+1,o,[]=>by
  rw[if_neg (by show¬r+1<=0;omega),if_pos (show jd []=([]:List Bool).length from rfl)];rfl
 |r+1,o,false::bs=>by
  rw[if_neg (by show¬r+1<=0;omega),if_neg (by show¬0=bs.length+1;omega)];rfl
 |r+1,o,true::bs=>by
  show jL r (o+1) bs=_
  rw[Pr r (o+1) bs]
  show _=if r+1<=jd bs+1 then _ else if jd bs+1=bs.length+1 then _ else _
  by_cases h:r<=jd bs
  ·rw[if_pos h,if_pos (by omega)]
  ·rw[if_neg h,if_neg (show¬r+1<=jd bs+1 by omega)]
   by_cases h2:jd bs=bs.length
   ·rw[if_pos h2,if_pos (show jd bs+1=bs.length+1 by omega)]
   ·rw[if_neg h2,if_neg (show¬jd bs+1=bs.length+1 by omega)]
    show St.ok _ _=St.ok (o+(jd bs+1)) (o+(jd bs+1)+1)
    rw[show o+1+jd bs=o+(jd bs+1) by omega]
def ek:Nat->Pk->List Bool->Nat->St Pk
 |0,_,_,_=> .short
 |N+1,s,bs,a=>if s.fin=true then .ok s a else match fx s bs with
  | .short=> .short
  | .bad e=> .bad e
  | .ok s' u=>ek N s' (bs.drop u) (a+u)
def hZ:Pk:=⟨0,0,tJ,[]⟩
def Ps(n:Nat)(r:St Pk)(v':Value)(h':H)(n':Nat):Prop:=∃(pv:Value) (t a u e:Int),v'= .agg #[pv,.int .i64 t,.int .i64 a,.int .i64 u,.int .i64 e]∧
 match r with
 | .short=>e=3∧pv= .slice none 0 0
 | .bad e0=>e0=25∧e=25∧pv= .slice none 0 0
 | .ok s a0=>e=0∧t=s.t∧a=(a0:Int)∧Own h' n n' 3 pv (aS .i64 (iN s.bJ))
section
variable {lf d n:Nat} {h:H}
theorem amh{l:List Bool}(hl:l.length<=1000000)(aC:3000000<=lf):∀(N fu:Nat) (h':H) (n':Nat) (s:Pk) (pv:Value) (a:Nat),n+1<=n'->h'.get n=some ⟨224,true,[.slice none 0 0,.int .i64 0,.int .i64 0,.int .i64 0,.int .i64 0]⟩->(l.drop a).length<N->N<=fu->a<=l.length->s.t<=6->s.Ok->s.ord.length=6->(∀x∈s.ord,x<6)->s.count≠0->s.count<32768->Own h' (n+1) n' 3 pv (aS .i64 (iN s.bJ))->
 ai (fun _=>False) n (BN lf (au ah gt lf (d+1)) fu (BO lf (au ah gt lf (d+1))) (tx l) (.pointer (some ⟨n,0,none⟩)) (.int .i64 (s.t:Int)) (.int .i64 (s.count:Int)) (oT s.ord) pv (.int .i64 (a:Int)) (.bool false) (.bool false)) h' n' (Ps n (ek N s (l.drop a) a)):=by
 intro N
 induction N with
 |zero=>intro fu h' n' s pv a _ _ hN;omega
 |succ N ih=>
  intro fu h' n' s pv a lG g hN gU zf h6 ok ho6 ho hc ky og
  obtain⟨fu,rfl⟩:∃f,fu=f+1:=⟨fu-1,by omega⟩
  obtain⟨ga,gc,rfl⟩:=og.row.len
  have qB:=gK s.bJ
  have hle:=ok.len hc
  rw[BN]
  unfold ek
  by_cases hf:s.bJ.length=s.count
  ·have fin:s.fin=true:=by unfold Pk.fin;rw[decide_eq_true hf,decide_eq_true (show 0<s.count by omega)];rfl
   have c1:¬((((iN s.bJ).length:Nat):Int)<((s.count:Nat):Int)):=by omega
   try simp(disch:=first|omega|assumption) only[af,aa,RZ,c1]
   (try unfold BO);(try dsimp only)
   rw[fin,if_pos rfl]
   try simp(disch:=first|omega|assumption) only[af,aa,RZ]
   refine db (sz:=5) trivial (vs:=[.slice ga (iN s.bJ).length gc,.int .i64 (s.t:Int),.int .i64 (a:Int),.int .i64 (a:Int),.int .i64 0]) rfl rfl rfl g (by omega) (.inl (an _)) _ fun h1 g1 k1=> ?_
   refine fQ trivial trivial g1 rfl (by omega) ?_
   exact⟨_,_,_,_,_,rfl,rfl,rfl,rfl,(og.aB (an _) fun b hb=>k1 b (by have:=(og.lt hb).1;omega)).low (by omega)⟩
  ·have fin:s.fin=false:=by unfold Pk.fin;rw[decide_eq_false hf,Bool.and_false]
   have c1:((((iN s.bJ).length:Nat):Int)<((s.count:Nat):Int)):=by omega
   have s1:=fun(k:Value->M Value)=>pP l .i64 (a:Int) k (by omega) (by omega)
   rw[cL]at s1
   try simp(disch:=first|omega|assumption) only[af,aa,RZ,c1,s1]
   refine bL (ame (lf:=lf) (d:=d) (l.drop a) (by rw[b9];omega) (by rw[b9];omega)) (by omega) (fun _ _ h=>h.elim) ?_
   obtain⟨o,Be⟩:∃o,jd (l.drop a)=o:=⟨_,rfl⟩
   have lu:=aa6 (l.drop a)
   have oG:(l.drop a).length=l.length-a:=b9
   rw[Be]at lu⊢
   rw[fin,if_neg (by decide)]
   unfold fx
   rw[if_neg hc,Pr,Be,fB]
   by_cases ct:s.t<=o
   ·have c2:((s.t:Nat):Int)<=(o:Int):=by omega
    try simp(disch:=first|omega|assumption) only[af,aa,RZ,c2]
    rw[if_pos ct]
    refine db (sz:=5) trivial (vs:=[.slice none 0 0,.int .i64 0,.int .i64 0,.int .i64 ((a:Int)+(s.t:Int)),.int .i64 25]) rfl rfl rfl g (by omega) (.inl (an _)) _ fun h1 g1 k1=> ?_
    (try unfold BO);(try dsimp only)
    refine fQ trivial trivial g1 rfl (by omega) ?_
    exact⟨_,_,_,_,_,rfl,rfl,rfl,rfl⟩
   ·have c2:¬((s.t:Nat):Int)<=(o:Int):=by omega
    rw[if_neg ct]
    by_cases ce:o=(l.drop a).length
    ·have c3:((a:Int)+(o:Int)==((l.length:Nat):Int))=true:=beq_iff_eq.2 (by omega)
     try simp(disch:=first|omega|assumption) only[af,aa,RZ,c2,cS,c3]
     rw[if_pos ce]
     refine db (sz:=5) trivial (vs:=[.slice none 0 0,.int .i64 0,.int .i64 0,.int .i64 0,.int .i64 3]) rfl rfl rfl g (by omega) (.inl (an _)) _ fun h1 g1 k1=> ?_
     (try unfold BO);(try dsimp only)
     refine fQ trivial trivial g1 rfl (by omega) ?_
     exact⟨_,_,_,_,_,rfl,rfl,rfl⟩
    ·have c3:((a:Int)+(o:Int)==((l.length:Nat):Int))=false:=beq_eq_false_iff_ne.2 (by omega)
     rw[if_neg ce]
     have Pu:o<s.ord.length:=by omega
     have ix:=amf s.ord ho o Pu
     obtain⟨v,hv⟩:∃v,s.ord.getD o 0=v:=⟨_,rfl⟩
     have hv6:v<6:=by
      rw[<-hv,bC,bD Pu]
      exact ho _ (eu _)
     rw[hv]at ix
     have w1:IntKind.i64.wrap ((48+v:Nat):Int)=((48+v:Nat):Int):=aJ (by omega) (by omega)
     have w2:IntKind.i64.wrap (((48+v:Nat):Int)-48)=(v:Int):=by rw[aJ (by omega) (by omega)];omega
     try simp(disch:=first|omega|assumption) only[af,aa,RZ,c2,cS,c3,ix,w1,w2]
     refine ve trivial (mV _ _) og (by rw[eJ];omega) (fun b hb=> .inl (by have:=(og.lt hb).1;omega)) _ fun h2 g2 k2=> ?_
     refine bL (amg (lf:=lf) (d:=d) s.ord o Pu (by omega)) (by omega) (fun _ _ h=>h.elim) ?_
     have st:fx s (l.drop a)= .ok ⟨s.t,s.count,dP 0 s.ord o,s.bJ++[s.ord.getD o 0]⟩ (o+1):=by
      unfold fx
      rw[if_neg hc,Pr,Be,fB,if_neg ct,if_neg ce]
     have ok2:=(Pg ok h6 ho6 fin st).1
     rw[show(a:Int)+(o:Int)+1=((a+(o+1):Nat):Int) by omega,ng]
     refine ih fu h2 (n'+2) ⟨s.t,s.count,dP 0 s.ord o,s.bJ++[s.ord.getD o 0]⟩ _ (a+(o+1)) (by omega) ((k2 n (by omega) fun hb=>by have:=(og.lt hb).1;omega).trans g) (by rw[b9];omega) (by omega) (by omega) h6 ok2 (Cb (dv:=0) ho6 (by omega)) (fun x hx=> ?_) hc ky ?_
     ·have hx:x∈dP 0 s.ord o:=hx
      unfold dP at hx
      rcases List.mem_cons.1 hx with rfl|hx
      ·rw[hv];exact hv6
      ·rcases List.mem_append.1 hx with hx|hx
       ·exact ho x (List.mem_of_mem_take hx)
       ·exact ho x (List.mem_of_mem_drop hx)
     ·have on:aS .i64 (iN (s.bJ++[s.ord.getD o 0]))=aS .i64 (iN s.bJ)++[.int .i64 ((v:Nat):Int)]:=by
       rw[rT,pI,hv];rfl
      show Own h2 (n+1) (n'+2) _ _ (aS .i64 (iN (s.bJ++[s.ord.getD o 0])))
      rw[on]
      exact .inr ⟨n'+1,by simp,g2,by omega,by omega⟩
theorem aa7(l:List Bool)(hl:l.length<=1000000)(aC:3000000<=lf):ai (fun _=>False) n (au ah gt lf (d+2) 162 #[tx l]) h n (Ps n (ek (l.length+1) hZ l 0)):=by
 rw[aL (fun _=>aiG) rfl]
 refine ai.aH ?_
 unfold N8
 refine fq DS _ ?_
 have gb:=fun(h:H) (cs:List Value)=>get_eq h n (some ⟨224,true,cs⟩)
 have f0:hZ.fin=false:=rfl
 by_cases h18:l.length<18
 ·have c1:((l.length:Nat):Int)<18:=by omega
  try simp(disch:=first|omega|assumption) only[af,aa,RZ,cS,c1]
  refine db (sz:=5) trivial (vs:=[.slice none 0 0,.int .i64 0,.int .i64 0,.int .i64 0,.int .i64 3]) rfl rfl rfl (gb _ _) (by omega) (.inl (an _)) _ fun h1 g1 k1=> ?_
  refine fQ trivial trivial g1 rfl (by omega) ?_
  have:ek (l.length+1) hZ l 0= .short:=by
   unfold ek
   rw[f0,if_neg (by decide)]
   unfold fx
   rw[if_pos (show hZ.count=0 from rfl),if_pos h18]
  rw[this]
  exact⟨_,_,_,_,_,rfl,rfl,rfl⟩
 ·have c1:¬((l.length:Nat):Int)<18:=by omega
  obtain⟨t,ht⟩:∃t,num (l.take 18) 0/32768=t:=⟨_,rfl⟩
  obtain⟨q,hq⟩:∃q,num (l.take 18) 0 %32768=q:=⟨_,rfl⟩
  have hv:=jI (l.take 18)
  rw[dr,kR (by omega)]at hv
  have aM:num (l.take 3) 0=t∧num ((l.drop 3).take 15) 0=q:=by
   have e1:l.take 18=l.take 3++(l.drop 3).take 15:=by
    rw[<-List.take_append_drop 3 (l.take 18),List.take_take,List.drop_take]
    rfl
   have e2:=vg ((l.drop 3).take 15) (num (l.take 3) 0)
   have e3:num (l.take 18) 0=num (l.take 3) 0*2^15+num ((l.drop 3).take 15) 0:=by
    rw[e1,Ai,e2,dr,b9,kR (by omega)]
   have e4:=jI ((l.drop 3).take 15)
   rw[dr,b9,kR (by omega)]at e4
   omega
  have tl:t<8:=by omega
  have ql:q<32768:=by omega
  have w1:IntKind.i64.wrap ((t:Nat):Int)=(t:Int):=aJ (by omega) (by omega)
  have w2:IntKind.i64.wrap ((q:Nat):Int)=(q:Int):=aJ (by omega) (by omega)
  have s1:=fun(k:Value->M Value)=>EH l .i64 (3:Int) k (by omega) (by omega)
  have s2:=fun(k:Value->M Value)=>qG l .i64 .i64 (3:Int) (18:Int) k (by omega) (by omega) (by omega)
  have i1:(3:Int).toNat=3:=rfl
  have i2:(18:Int).toNat-(3:Int).toNat=15:=rfl
  rw[i1]at s1
  rw[i2,i1]at s2
  have EI:fx hZ l=if(2<=t∧t<=6)∧q≠0 then .ok ⟨t,q,tJ,[]⟩ 18 else .bad 25:=by
   unfold fx
   rw[if_pos (show hZ.count=0 from rfl),if_neg h18,ht,hq]
   rfl
  have rp:ek (l.length+1) hZ l 0=if(2<=t∧t<=6)∧q≠0 then ek l.length ⟨t,q,tJ,[]⟩ (l.drop 18) 18 else .bad 25:=by
   show(if hZ.fin=true then _ else _)=_
   rw[f0,if_neg (by decide),EI]
   by_cases c:(2<=t∧t<=6)∧q≠0
   ·rw[if_pos c,if_pos c]
   ·rw[if_neg c,if_neg c]
  try simp(disch:=first|omega|assumption) only[af,aa,RZ,cS,c1,s1]
  refine bL (Pq (lf:=lf) (d:=d) (l.take 3) (by rw[dr];omega) (by omega)) (by omega) (fun _ _ h=>h.elim) ?_
  rw[aM.1]
  try simp(disch:=first|omega|assumption) only[af,aa,RZ,s2,w1]
  refine bL (Pq (lf:=lf) (d:=d) ((l.drop 3).take 15) (by rw[dr];omega) (by omega)) (by omega) (fun _ _ h=>h.elim) ?_
  rw[aM.2]
  have bad:∀(u:Int),¬((2<=t∧t<=6)∧q≠0)->ai (fun _=>False) n (aX 5 (.pointer (some ⟨n,0,none⟩)) (.agg #[.slice none 0 0,.int .i64 0,.int .i64 0,.int .i64 u,.int .i64 25]) fun _=>bx 5 (.pointer (some ⟨n,0,none⟩)) fun v=>aj [v]) (h.set n (some ⟨224,true,[.slice none 0 0,.int .i64 0,.int .i64 0,.int .i64 0,.int .i64 0]⟩)) (n+1) (Ps n (ek (l.length+1) hZ l 0)):=by
   intro u hc
   refine db (sz:=5) trivial (vs:=[.slice none 0 0,.int .i64 0,.int .i64 0,.int .i64 u,.int .i64 25]) rfl rfl rfl (gb _ _) (by omega) (.inl (an _)) _ fun h1 g1 k1=> ?_
   refine fQ trivial trivial g1 rfl (by omega) ?_
   rw[rp,if_neg hc]
   exact⟨_,_,_,_,_,rfl,rfl,rfl,rfl⟩
  by_cases ct:2<=t
  ·have d1:¬((t:Int)<2):=by omega
   by_cases Pv:t<=6
   ·have d2:¬((6:Int)<(t:Int)):=by omega
    by_cases cq:q=0
    ·have d3:((q:Int)==0)=true:=by rw[cq];rfl
     try simp(disch:=first|omega|assumption) only[af,aa,RZ,w2,d1,d2,d3]
     exact bad 18 fun c=>c.2 cq
    ·have d3:((q:Int)==0)=false:=beq_eq_false_iff_ne.2 (by omega)
     try simp(disch:=first|omega|assumption) only[af,aa,RZ,w2,d1,d2,d3,oT0]
     rw[rp,if_pos ⟨⟨ct,Pv⟩,cq⟩]
     refine amh hl aC l.length lf _ (n+1) ⟨t,q,tJ,[]⟩ (.slice none 0 0) 18 (an _) (gb _ _) (by rw[b9];omega) (by omega) (by omega) Pv ⟨fun e=>absurd e cq,fun j hj=> ?_,fun x hx=>absurd hx (by simp),fun _=>aR _,fun _=>ct⟩ rfl (fun x hx=> ?_) cq ql (Own.nil _ _ _ _)
     ·rw[aa0 (by have:j<t:=hj;omega)];exact hj
     ·exact(by decide:∀x∈tJ,x<6) x hx
   ·have d2:(6:Int)<(t:Int):=by omega
    try simp(disch:=first|omega|assumption) only[af,aa,RZ,w2,d1,d2]
    exact bad 18 fun c=>Pv c.1.2
  ·have d1:(t:Int)<2:=by omega
   try simp(disch:=first|omega|assumption) only[af,aa,RZ,w2,d1]
   exact bad 18 fun c=>ct c.1.1
end
def fF:Nat->Nat->Nat->List Nat->List Bool->Nat->St (List Nat)
 |0,_,_,_,_,_=> .short
 |N+1,size,now,lens,bs,a=>if lens.length=size then .ok lens a else match eU now lens bs with
  | .short=> .short
  | .bad e=> .bad e
  | .ok (m,l) u=>fF N size m l (bs.drop u) (a+u)
def xx(n:Nat)(r:St (List Nat))(v':Value)(h':H)(n':Nat):Prop:=∃(lv:Value) (u e:Int),v'= .agg #[lv,.int .i64 u,.int .i64 e]∧
 match r with
 | .short=>e=3∧lv= .slice none 0 0
 | .bad e0=>e0=22∧e=22∧lv= .slice none 0 0
 | .ok ln a0=>e=0∧u=(a0:Int)∧Own h' n n' 3 lv (aS .i64 (iN ln))
section
variable {lf d n:Nat} {h:H}
theorem ami{l:List Bool}(hl:l.length<=1000000)(aC:3000000<=lf){size:Nat}(dS:size<=258):∀(N fu:Nat) (h':H) (n':Nat) (now:Nat) (lens:List Nat) (lv:Value) (a:Nat),n+1<=n'->h'.get n=some ⟨269,true,[.slice none 0 0,.int .i64 0,.int .i64 0]⟩->(l.drop a).length<N->N<=fu->a<=l.length->1<=now->now<=20->lens.length<=size->Own h' (n+1) n' 3 lv (aS .i64 (iN lens))->
 ai (fun _=>False) n (wT lf (au ah gt lf (d+1)) fu (u9 lf (au ah gt lf (d+1))) (tx l) (.int .i64 (size:Int)) (.pointer (some ⟨n,0,none⟩)) (.int .i64 (now:Int)) lv (.int .i64 (a:Int)) (.bool false) (.bool false)) h' n' (xx n (fF N size now lens (l.drop a) a)):=by
 intro N
 induction N with
 |zero=>intro fu h' n' now lens lv a _ _ hN;omega
 |succ N ih=>
  intro fu h' n' now lens lv a lG g hN gU zf h1 OY hle og
  obtain⟨fu,rfl⟩:∃f,fu=f+1:=⟨fu-1,by omega⟩
  obtain⟨ga,gc,rfl⟩:=og.row.len
  have qB:=gK lens
  have oG:(l.drop a).length=l.length-a:=b9
  have h0:now≠0:=by omega
  rw[wT]
  unfold fF
  by_cases hf:lens.length=size
  ·have c1:¬((((iN lens).length:Nat):Int)<((size:Nat):Int)):=by omega
   try simp(disch:=first|omega|assumption) only[af,aa,RZ,c1]
   (try unfold u9);(try dsimp only)
   rw[if_pos hf]
   try simp(disch:=first|omega|assumption) only[af,aa,RZ]
   refine db (sz:=3) trivial (vs:=[.slice ga (iN lens).length gc,.int .i64 (a:Int),.int .i64 0]) rfl rfl rfl g (by omega) (.inl (an _)) _ fun h1 g1 k1=> ?_
   refine fQ trivial trivial g1 rfl (by omega) ?_
   exact⟨_,_,_,rfl,rfl,rfl,(og.aB (an _) fun b hb=>k1 b (by have:=(og.lt hb).1;omega)).low (by omega)⟩
  ·have c1:((((iN lens).length:Nat):Int)<((size:Nat):Int)):=by omega
   rw[if_neg hf]
   have sh:∀(k:Value->M Value),(∀h1:H,h1.get n=some ⟨269,true,[.slice none 0 0,.int .i64 0,.int .i64 3]⟩->ai (fun _=>False) n (k undef) h1 n' (xx n .short))->ai (fun _=>False) n (aX 3 (.pointer (some ⟨n,0,none⟩)) (.agg #[.slice none 0 0,.int .i64 0,.int .i64 3]) k) h' n' (xx n .short):=fun k hk=>
    db (sz:=3) trivial (vs:=[.slice none 0 0,.int .i64 0,.int .i64 3]) rfl rfl rfl g (by omega) (.inl (an _)) _ fun h1 g1 k1=>hk h1 g1
   by_cases ha:a=l.length
   ·have c2:((a:Int)==((l.length:Nat):Int))=true:=beq_iff_eq.2 (by omega)
    try simp(disch:=first|omega|assumption) only[af,aa,RZ,c1,cS,c2]
    have e:eU now lens (l.drop a)= .short:=by
     unfold eU
     rw[if_neg h0,ha,FM]
    rw[e]
    refine sh _ fun h1 g1=> ?_
    (try unfold u9);(try dsimp only)
    exact fQ trivial trivial g1 rfl (by omega) ⟨_,_,_,rfl,rfl,rfl⟩
   ·have c2:((a:Int)==((l.length:Nat):Int))=false:=beq_eq_false_iff_ne.2 (by omega)
    have hi:a<l.length:=by omega
    have gH:l.drop a=l[a]::l.drop (a+1):=vI hi
    have jV:l.getD a false=l[a]:=by rw[bC,bD hi];rfl
    have ix:=tP l .i64 (a:Int) (by omega) (by omega)
    rw[cL,jV]at ix
    cases hb:l[a]with
    |false=>
     rw[hb]at ix gH
     have c3:(48+((bn false:Nat):Int)==48)=true:=rfl
     try simp(disch:=first|omega|assumption) only[af,aa,RZ,c1,cS,c2,ix,c3]
     refine ve trivial (mV _ _) og (by rw[eJ];omega) (fun b hb=> .inl (by have:=(og.lt hb).1;omega)) _ fun h2 g2 k2=> ?_
     have e:eU now lens (l.drop a)= .ok (now,lens++[now]) 1:=by
      unfold eU
      rw[if_neg h0,gH]
     rw[e]
     try simp(disch:=first|omega|assumption) only[af,aa,RZ]
     have:=ih fu h2 (n'+2) now (lens++[now]) (.slice (some ⟨n'+1,0,none⟩) ((aS .i64 (iN lens)).length+1) (bq+((aS .i64 (iN lens)).length+1))) (a+1) (by omega) ((k2 n (by omega) fun hb=>by have:=(og.lt hb).1;omega).trans g) (by rw[b9];omega) (by omega) (by omega) h1 OY (by rw[bX];simp only[dp,gM];omega) (by
      rw[rT,pI]
      exact .inr ⟨n'+1,by simp[eJ,iN],g2,by omega,by omega⟩)
     rw[<-ng]at this
     exact this
    |true=>
     rw[hb]at ix gH
     have c3:(48+((bn true:Nat):Int)==48)=false:=rfl
     by_cases Jb:a+1=l.length
     ·have c4:((a:Int)+1==((l.length:Nat):Int))=true:=beq_iff_eq.2 (by omega)
      try simp(disch:=first|omega|assumption) only[af,aa,RZ,c1,cS,c2,ix,c3,c4]
      have e:eU now lens (l.drop a)= .short:=by
       unfold eU
       rw[if_neg h0,gH,Jb,FM]
      rw[e]
      refine sh _ fun h1 g1=> ?_
      (try unfold u9);(try dsimp only)
      exact fQ trivial trivial g1 rfl (by omega) ⟨_,_,_,rfl,rfl,rfl⟩
     ·have c4:(((a+1:Nat):Int)==((l.length:Nat):Int))=false:=beq_eq_false_iff_ne.2 (by omega)
      have gT:a+1<l.length:=by omega
      have aa8:l.drop (a+1)=l[a+1]::l.drop (a+1+1):=vI gT
      have amj:l.getD (a+1) false=l[a+1]:=by rw[bC,bD gT];rfl
      have Ci:=tP l .i64 ((a+1:Nat):Int) (by omega) (by omega)
      rw[cL,amj]at Ci
      have w1:(a:Int)+1=((a+1:Nat):Int):=by omega
      obtain⟨b2,cF⟩:∃b2,l[a+1]=b2:=⟨_,rfl⟩
      rw[cF]at Ci aa8
      have e:eU now lens (l.drop a)=mC ((now:Int)+1-2*(bn b2:Int)) lens 2:=by
       unfold eU
       rw[if_neg h0,gH,aa8]
      rw[e]
      have aa9:∀(m:Int) (y58:Bool),m=(now:Int)+1-2*(bn b2:Int)->(1<=m∧m<=20)->ai (fun _=>False) n (wT lf (au ah gt lf (d+1)) fu (u9 lf (au ah gt lf (d+1))) (tx l) (.int .i64 (size:Int)) (.pointer (some ⟨n,0,none⟩)) (.int .i64 m) (.slice ga (iN lens).length gc) (.int .i64 ((a:Int)+2)) (.bool false) (.bool false)) h' n' (xx n (match mC ((now:Int)+1-2*(bn b2:Int)) lens 2 with
       | .short=> .short
       | .bad e=> .bad e
       | .ok (m,l2) u=>fF N size m l2 ((l.drop a).drop u) (a+u))):=by
       intro m _ hm hr
       unfold mC
       rw[<-hm,if_pos hr]
       have:=ih fu h' n' m.toNat lens (.slice ga (iN lens).length gc) (a+2) lG g (by rw[b9];omega) (by omega) (by omega) (by omega) (by omega) hle og
       rw[<-ng,Int.toNat_of_nonneg (by omega)]at this
       exact this
      have bV:∀(k:Value->M Value),¬(1<=(now:Int)+1-2*(bn b2:Int)∧(now:Int)+1-2*(bn b2:Int)<=20)->(∀h1:H,h1.get n=some ⟨269,true,[.slice none 0 0,.int .i64 0,.int .i64 22]⟩->ai (fun _=>False) n (k undef) h1 n' (xx n (.bad 22)))->ai (fun _=>False) n (aX 3 (.pointer (some ⟨n,0,none⟩)) (.agg #[.slice none 0 0,.int .i64 0,.int .i64 22]) k) h' n' (xx n (match mC ((now:Int)+1-2*(bn b2:Int)) lens 2 with
       | .short=> .short
       | .bad e=> .bad e
       | .ok (m,l2) u=>fF N size m l2 ((l.drop a).drop u) (a+u))):=fun k hw hk=>by
         unfold mC
         rw[if_neg hw]
         exact db (sz:=3) trivial (vs:=[.slice none 0 0,.int .i64 0,.int .i64 22]) rfl rfl rfl g (by omega) (.inl (an _)) _ fun h1 g1 k1=>hk h1 g1
      cases b2 with
      |false=>
       have c5:(48+((bn false:Nat):Int)==48)=true:=rfl
       have b0:(2:Int)*((bn false:Nat):Int)=0:=rfl
       have d1:¬((now:Int)+1<1):=by omega
       by_cases d2:(20:Int)<(now:Int)+1
       ·try simp(disch:=first|omega|assumption) only[af,aa,RZ,c1,cS,c2,ix,c3,c4,w1,Ci,c5,d1,d2]
        refine bV _ (by omega) fun h1 g1=> ?_
        (try unfold u9);(try dsimp only)
        exact fQ trivial trivial g1 rfl (by omega) ⟨_,_,_,rfl,rfl,rfl,rfl⟩
       ·try simp(disch:=first|omega|assumption) only[af,aa,RZ,c1,cS,c2,ix,c3,c4,w1,Ci,c5,d1,d2]
        exact aa9 ((now:Int)+1) false (by omega) (by omega)
      |true=>
       have c5:(48+((bn true:Nat):Int)==48)=false:=rfl
       have b0:(2:Int)*((bn true:Nat):Int)=2:=rfl
       have d2:¬((20:Int)<(now:Int)-1):=by omega
       by_cases d1:(now:Int)-1<1
       ·try simp(disch:=first|omega|assumption) only[af,aa,RZ,c1,cS,c2,ix,c3,c4,w1,Ci,c5,d1,d2]
        refine bV _ (by omega) fun h1 g1=> ?_
        (try unfold u9);(try dsimp only)
        exact fQ trivial trivial g1 rfl (by omega) ⟨_,_,_,rfl,rfl,rfl,rfl⟩
       ·try simp(disch:=first|omega|assumption) only[af,aa,RZ,c1,cS,c2,ix,c3,c4,w1,Ci,c5,d1,d2]
        exact aa9 ((now:Int)-1) false (by omega) (by omega)
theorem amk(l:List Bool)(hl:l.length<=1000000)(aC:3000000<=lf){size:Nat}(nu:1<=size)(dS:size<=258):ai (fun _=>False) n (au ah gt lf (d+2) 197 #[tx l,.int .i64 (size:Int)]) h n (xx n (fF (l.length+1) size 0 [] l 0)):=by
 rw[aL (fun _=>ajg) rfl]
 refine ai.aH ?_
 unfold Ol
 refine fq Hz _ ?_
 have gb:=fun(h:H) (cs:List Value)=>get_eq h n (some ⟨269,true,cs⟩)
 have aml:¬([]:List Nat).length=size:=by show¬0=size;omega
 have rp:fF (l.length+1) size 0 [] l 0=match eU 0 [] l with
  | .short=> .short
  | .bad e=> .bad e
  | .ok (m,l2) u=>fF l.length size m l2 (l.drop u) (0+u):=by
  show(if([]:List Nat).length=size then _ else _)=_
  rw[if_neg aml]
 have EI:eU 0 [] l=if l.length<5 then .short else mC (num (l.take 5) 0:Int) [] 5:=by unfold eU;rw[if_pos rfl]
 by_cases h5:l.length<5
 ·have c1:((l.length:Nat):Int)<5:=by omega
  try simp(disch:=first|omega|assumption) only[af,aa,RZ,cS,c1]
  rw[rp,EI,if_pos h5]
  refine db (sz:=3) trivial (vs:=[.slice none 0 0,.int .i64 0,.int .i64 3]) rfl rfl rfl (gb _ _) (by omega) (.inl (an _)) _ fun h1 g1 k1=> ?_
  exact fQ trivial trivial g1 rfl (by omega) ⟨_,_,_,rfl,rfl,rfl⟩
 ·have c1:¬((l.length:Nat):Int)<5:=by omega
  have s1:=fun(k:Value->M Value)=>EH l .i64 (5:Int) k (by omega) (by omega)
  have i1:(5:Int).toNat=5:=rfl
  rw[i1]at s1
  have nl:=jI (l.take 5)
  rw[dr,kR (by omega)]at nl
  try simp(disch:=first|omega|assumption) only[af,aa,RZ,cS,c1,s1]
  refine bL (Pq (lf:=lf) (d:=d) (l.take 5) (by rw[dr];omega) (by omega)) (by omega) (fun _ _ h=>h.elim) ?_
  obtain⟨v,hv⟩:∃v,num (l.take 5) 0=v:=⟨_,rfl⟩
  rw[hv]at nl EI⊢
  have w1:IntKind.i64.wrap ((v:Nat):Int)=(v:Int):=aJ (by omega) (by omega)
  rw[rp,EI,if_neg h5]
  unfold mC
  rw[cL]
  simp only[fB]
  have bV:¬(1<=(v:Int)∧(v:Int)<=20)->ai (fun _=>False) n (aX 3 (.pointer (some ⟨n,0,none⟩)) (.agg #[.slice none 0 0,.int .i64 0,.int .i64 22]) fun _=>bx 3 (.pointer (some ⟨n,0,none⟩)) fun v=>aj [v]) (h.set n (some ⟨269,true,[.slice none 0 0,.int .i64 0,.int .i64 0]⟩)) (n+1) (xx n (match (if 1<=(v:Int)∧(v:Int)<=20 then St.ok (v,([]:List Nat)) 5 else .bad 22:St (Nat×List Nat))with
   | .short=> .short
   | .bad e=> .bad e
   | .ok (m,l2) u=>fF l.length size m l2 (l.drop u) u)):=by
   intro hw
   rw[if_neg hw]
   refine db (sz:=3) trivial (vs:=[.slice none 0 0,.int .i64 0,.int .i64 22]) rfl rfl rfl (gb _ _) (by omega) (.inl (an _)) _ fun h1 g1 k1=> ?_
   exact fQ trivial trivial g1 rfl (by omega) ⟨_,_,_,rfl,rfl,rfl,rfl⟩
  by_cases d1:(v:Int)<1
  ·try simp(disch:=first|omega|assumption) only[af,aa,RZ,w1,d1]
   exact bV (by omega)
  ·by_cases d2:(20:Int)<(v:Int)
   ·try simp(disch:=first|omega|assumption) only[af,aa,RZ,w1,d1,d2]
    exact bV (by omega)
   ·try simp(disch:=first|omega|assumption) only[af,aa,RZ,w1,d1,d2]
    rw[if_pos (by omega)]
    exact ami hl aC dS l.length lf _ (n+1) v [] (.slice none 0 0) 5 (an _) (gb _ _) (by rw[b9];omega) (by omega) (by omega) (by omega) (by omega) (aR _) (Own.nil _ _ _ _)
end
theorem Jc(a b:Bool):eS ah .neq 4 (.bool a) (.bool b)=some (.bool (xor a b)):=by cases a<;>cases b<;>kernel_rfl
section
variable {lf d n:Nat} {h:H}
theorem amm(l:List Bool)(k:Nat)(hk:k<=20)(hl:l.length<=k)(aC:100<=lf):ai (fun _=>False) n (au ah gt lf (d+1) 207 #[tx l,.int .i64 (k:Int)]) h n fun v' h' n'=>v'=tx ((jJ l).1++cr (k-l.length) false)∧h'=h∧n'=n:=by
 rw[aL (fun _=>ajn) rfl]
 refine ai.aH ?_
 unfold On
 have pad:∀(y7 y13:Value) (c:Bool) (r fu:Nat) (t:List Bool),t=(jJ l).1++cr (k-l.length-r) false->r<=k-l.length->r<fu->ai (fun _=>False) n (zY lf (au ah gt lf d) fu (Ij lf (au ah gt lf d)) (tx l) (.int .i64 (k:Int)) (.string {data:=#[]}) (tx t) (.bool c) y7 y13) h n fun v' h' n'=>v'=tx ((jJ l).1++cr (k-l.length) false)∧h'=h∧n'=n:=by
  intro y7 y13 c r
  induction r with
  |zero=>
   intro fu t ht hr hf
   obtain⟨fu,rfl⟩:∃f,fu=f+1:=⟨fu-1,by omega⟩
   have oM:t.length=k:=by rw[ht,bX,B4,kg];omega
   have c1:¬(((t.length:Nat):Int)<(k:Int)):=by omega
   rw[zY]
   try simp(disch:=first|omega|assumption) only[af,aa,RZ,cS,c1]
   (try unfold Ij);(try unfold asP);(try dsimp only)
   try simp(disch:=first|omega|assumption) only[af,aa,RZ]
   rw[ht]
   rfl
  |succ r ih=>
   intro fu t ht hr hf
   obtain⟨fu,rfl⟩:∃f,fu=f+1:=⟨fu-1,by omega⟩
   have oM:t.length=k-(r+1):=by rw[ht,bX,B4,kg];omega
   have c1:((t.length:Nat):Int)<(k:Int):=by omega
   have a1:=Ch t [false] (by rw[oM];show _+1<=_;omega)
   rw[zY]
   try simp(disch:=first|omega|assumption) only[af,aa,RZ,cS,c1,Cg,a1]
   refine ih fu (t++[false]) ?_ (by omega) (by omega)
   rw[ht,List.append_assoc,<-arz,show k-l.length-(r+1)+1=k-l.length-r by omega]
 have key:∀(j:Nat) (fu:Nat),j<=l.length->j<fu->ai (fun _=>False) n (wU lf (au ah gt lf d) fu (Ea lf (au ah gt lf d)) (tx l) (.int .i64 (k:Int)) (.string {data:=#[]}) (tx (jJ (l.drop j)).1) (.bool (jJ (l.drop j)).2) (.int .i64 ((j:Int)-1))) h n fun v' h' n'=>v'=tx ((jJ l).1++cr (k-l.length) false)∧h'=h∧n'=n:=by
  intro j
  induction j with
  |zero=>
   intro fu hj hf
   obtain⟨fu,rfl⟩:∃f,fu=f+1:=⟨fu-1,by omega⟩
   rw[wU]
   have c1:decide ((0:Int)<=((0:Nat):Int)-1)=false:=decide_eq_false (by omega)
   try simp(disch:=first|omega|assumption) only[af,aa,RZ,c1]
   (try unfold Ea);(try dsimp only)
   refine pad _ _ _ (k-l.length) lf _ ?_ (an _) (by omega)
   rw[uq,jr]
   simp
  |succ j ih=>
   intro fu hj hf
   obtain⟨fu,rfl⟩:∃f,fu=f+1:=⟨fu-1,by omega⟩
   have hi:j<l.length:=by omega
   have gH:l.drop j=l[j]::l.drop (j+1):=vI hi
   have jV:l.getD j false=l[j]:=by rw[bC,bD hi];rfl
   have ix:=tP l .i64 (j:Int) (by omega) (by omega)
   rw[cL,jV]at ix
   have:=ih fu (by omega) (by omega)
   rw[gH]at this
   rw[wU,show(((j+1:Nat):Int)-1)=(j:Int) by omega]
   obtain⟨b,hb⟩:∃b,l[j]=b:=⟨_,rfl⟩
   obtain⟨c,hc⟩:∃c,(jJ (l.drop (j+1))).2=c:=⟨_,rfl⟩
   obtain⟨t,ht⟩:∃t,(jJ (l.drop (j+1))).1=t:=⟨_,rfl⟩
   have oM:t.length<=20:=by rw[<-ht,B4,b9];omega
   rw[hb]at this ix
   simp only[jJ]at this
   rw[hc,ht]at this
   rw[hc,ht]
   have c1:(0:Int)<=(j:Int):=by omega
   have a0:=Ch [false] t (by show 1+_<=_;omega)
   have a1:=Ch [true] t (by show 1+_<=_;omega)
   have k0:(48+((bn false:Nat):Int)==49)=false:=rfl
   have k1:(48+((bn true:Nat):Int)==49)=true:=rfl
   cases b<;>cases c
   ·try simp(disch:=first|omega|assumption) only[af,aa,RZ,c1,ix,k0,k1,Cg,I',a0,a1,Jc,RQ,RR,jP,cP]
    exact this
   ·try simp(disch:=first|omega|assumption) only[af,aa,RZ,c1,ix,k0,k1,Cg,I',a0,a1,Jc,RQ,RR,jP,cP]
    exact this
   ·try simp(disch:=first|omega|assumption) only[af,aa,RZ,c1,ix,k0,k1,Cg,I',a0,a1,Jc,RQ,RR,jP,cP]
    exact this
   ·try simp(disch:=first|omega|assumption) only[af,aa,RZ,c1,ix,k0,k1,Cg,I',a0,a1,Jc,RQ,RR,jP,cP]
    exact this
 have:=key l.length lf (an _) (by omega)
 rw[FM]at this
 try simp(disch:=first|omega|assumption) only[af,aa,RZ,cS]
 exact this
end
def xz(ln:List Nat)(n i j:Nat):Value:=if ln.getD j 0<n∨(ln.getD j 0=n∧j<i)then tx (b8 (dV ln j) (ln.getD j 0))else tx []
def ck(ln:List Nat)(n i:Nat):List Value:=(iL ln.length).map (xz ln n i)
theorem Jd(ln:List Nat)(n i:Nat):(ck ln n i).length=ln.length:=by unfold ck;simp
theorem aa'{ln:List Nat}{n i j:Nat}(h:j<(ck ln n i).length):(ck ln n i)[j]=xz ln n i j:=by
 have:=List.getElem_map (xz ln n i) (l:=iL ln.length) (h:=h)
 rw[List.getElem_range]at this
 exact this
theorem amn{ln:List Nat}{n i:Nat}(h:ln.getD i 0≠n):ck ln n (i+1)=ck ln n i:=by
 unfold ck
 apply vE
 intro j _
 unfold xz
 by_cases e:j=i
 ·subst e
  by_cases h2:ln.getD j 0<n
  ·rw[if_pos (.inl h2),if_pos (.inl h2)]
  ·rw[if_neg (by rintro(q|⟨q,_⟩);exact h2 q;exact h q),if_neg (by rintro(q|⟨q,_⟩);exact h2 q;exact h q)]
 ·by_cases h2:ln.getD j 0<n∨(ln.getD j 0=n∧j<i)
  ·rw[if_pos h2,if_pos (by omega)]
  ·rw[if_neg h2,if_neg (by omega)]
theorem amo{ln:List Nat}{n i:Nat}(hi:i<ln.length)(h:ln.getD i 0=n):(ck ln n i).set i (tx (b8 (dV ln i) n))=ck ln n (i+1):=by
 apply List.ext_getElem
 ·rw[List.length_set,Jd,Jd]
 ·intro j h1 h2
  rw[Jd]at h2
  rw[List.getElem_set,aa',aa']
  unfold xz
  by_cases e:i=j
  ·subst e
   rw[if_pos rfl,if_pos (.inr ⟨h,by omega⟩),h]
  ·rw[if_neg e]
   by_cases h3:ln.getD j 0<n∨(ln.getD j 0=n∧j<i)
   ·rw[if_pos h3,if_pos (by omega)]
   ·rw[if_neg h3,if_neg (by omega)]
theorem amp(ln:List Nat)(n:Nat):ck ln n ln.length=ck ln (n+1) 0:=by
 unfold ck
 apply vE
 intro j hj
 rw[ads]at hj
 unfold xz
 by_cases h2:ln.getD j 0<n+1∨(ln.getD j 0=n+1∧j<0)
 ·rw[if_pos h2,if_pos (by omega)]
 ·rw[if_neg h2,if_neg (by omega)]
theorem amq{ln:List Nat}(w:Wh ln):ck ln 1 0=cr ln.length (tx []):=by
 unfold ck
 rw[List.eq_replicate_iff]
 refine⟨by simp,fun x hx=> ?_⟩
 obtain⟨j,hj,rfl⟩:=List.mem_map.1 hx
 rw[ads]at hj
 unfold xz
 have:=(w.at hj).1
 rw[if_neg (by omega)]
def Ap(ln:List Nat):List Value:=(iL ln.length).map fun j=>tx (b8 (dV ln j) (ln.getD j 0))
theorem amr{ln:List Nat}(w:Wh ln):ck ln 21 0=Ap ln:=by
 unfold ck Ap
 apply vE
 intro j hj
 rw[ads]at hj
 unfold xz
 have:=(w.at hj).2
 rw[if_pos (by omega)]
section
variable {lf d n:Nat} {h:H}
theorem ams{v:Value}{ln:List Nat}(hR:Row h n 3 .i64 v (iN ln))(w:Wh ln)(hl:ln.length<=258)(uK:0<ln.length)(aC:3000<=lf):ai (fun _=>False) n (au ah gt lf (d+2) 178 #[v]) h n fun v' h' n'=>v'= .slice (some ⟨n,0,none⟩) ln.length ln.length∧n'=n+1∧h'.get n=some ⟨9,true,Ap ln⟩∧∀b,b<n->h'.get b=h.get b:=by
 have qB:=gK ln
 obtain⟨b0,off,cap,o,ks,rfl,hg0,hb0,_,_,_,hv0⟩:=hR.some (by omega)
 rw[aL (fun _=>aiW) rfl]
 refine ai.aH ?_
 unfold Of
 try simp(disch:=first|omega|assumption) only[af,aa,RZ]
 rw[qB]
 refine Ev.run_make trivial ln.length ln.length _ (an _) (by omega) ?_
 refine eD 20 (fun fu i (s:List Bool)=>wQ lf (au ah gt lf (d+1)) fu (BP lf (au ah gt lf (d+1))) (.slice (some ⟨b0,off,none⟩) ln.length cap) (.slice none 0 0) (.slice (some ⟨n,0,none⟩) ln.length ln.length) (tx s) (.int .i64 ((i+1:Nat):Int))) (fun i s h' n'=>n'=n+1∧h'.get n=some ⟨9,true,ck ln (i+1) 0⟩∧(∀b,b<n->h'.get b=h.get b)∧nJ ln (i+1) 0 s∧s.length<=i) ?_ ?_ lf 0 [] _ (n+1) (aR _) (by omega) ⟨rfl,by rw[get_eq,amq w];rfl,fun b hb=>aD _ _ (by omega),nJ.zero w,aR _⟩
 ·rintro fu s h' n' ⟨rfl,g,k,_⟩
  rw[wQ]
  have c1:¬(((20+1:Nat):Int)<=20):=by omega
  try simp(disch:=first|omega|assumption) only[af,aa,RZ,c1]
  (try unfold BP);(try dsimp only)
  try simp(disch:=first|omega|assumption) only[af,aa,RZ]
  exact⟨by rw[g,amr w],k⟩
 ·rintro fu i s h' n' hi ⟨rfl,g,k,lc,sl⟩ next
  rw[wQ]
  have c1:((i+1:Nat):Int)<=20:=by omega
  try simp(disch:=first|omega|assumption) only[af,aa,RZ,c1]
  refine eD ln.length (fun mZ j (s:List Bool)=>tu lf (au ah gt lf (d+1)) mZ (Oe lf (au ah gt lf (d+1)) fu (BP lf (au ah gt lf (d+1)))) (.slice (some ⟨b0,off,none⟩) ln.length cap) (.slice none 0 0) (.slice (some ⟨n,0,none⟩) ln.length ln.length) (tx s) (.int .i64 ((i+1:Nat):Int)) (.bool true) (.slice (some ⟨b0,off,none⟩) ln.length cap) (.int .i64 (ln.length:Int)) (.int .i64 (j:Nat))) (fun j s h' n'=>n'=n+1∧h'.get n=some ⟨9,true,ck ln (i+1) j⟩∧(∀b,b<n->h'.get b=h.get b)∧nJ ln (i+1) j s∧s.length<=i+1) ?_ ?_ lf 0 s h' (n+1) (aR _) (by omega) ⟨rfl,g,k,lc,by omega⟩
  ·rintro mZ s2 h2 n2 ⟨rfl,g2,k2,Je,Jf⟩
   rw[tu]
   try simp(disch:=first|omega|assumption) only[af,aa,RZ,fg]
   (try unfold Oe);(try unfold H8);(try dsimp only)
   try simp(disch:=first|omega|assumption) only[af,aa,RZ]
   rw[amp]at g2
   have:=next s2 h2 (n+1) ⟨rfl,g2,k2,Je.row,Jf⟩
   first|exact this|(rw[show(((i+1:Nat):Int)+1)=((i+1+1:Nat):Int) by omega];exact this)
  ·rintro mZ j s2 h2 n2 hj ⟨rfl,g2,k2,Je,Jf⟩ pK
   rw[tu]
   have c2:((j:Nat):Int)<((ln.length:Nat):Int):=by omega
   have hv:=hv0 j (by omega)
   rw[tE]at hv
   have g0:h2.get b0=_:=(k2 b0 hb0).trans hg0
   have iS:b0<n+1:=by omega
   by_cases hn:ln.getD j 0=i+1
   ·obtain⟨Jg,aa_⟩:=Je.tB w hj hn
    have e1:((((ln.getD j 0:Nat):Int)) !=((i+1:Nat):Int))=false:=by rw[hn];simp
    have qZ:=amo hj hn
    have gN:j<(ck ln (i+1) j).length:=by rw[Jd];exact hj
    by_cases hs:s2=[]
    ·subst hs
     rw[if_pos rfl]at Jg
     have e2:decide (([]:List Bool)=[])=true:=rfl
     try simp(disch:=first|omega|assumption) only[af,aa,RZ,c2,g0,hv,e1,aa4,tO,e2]
     refine eD (i+1) (fun Pw r (_:Unit)=>zR lf (au ah gt lf (d+1)) Pw (Ye lf (au ah gt lf (d+1)) mZ (Oe lf (au ah gt lf (d+1)) fu (BP lf (au ah gt lf (d+1))))) (.slice (some ⟨b0,off,none⟩) ln.length cap) (.slice none 0 0) (.slice (some ⟨n,0,none⟩) ln.length ln.length) (tx (cr r false)) (.int .i64 ((i+1:Nat):Int)) (.int .i64 (j:Nat)) (.int .i64 ((ln.getD j 0:Nat):Int)) (.bool true) (.slice (some ⟨b0,off,none⟩) ln.length cap) (.int .i64 (ln.length:Int)) (.int .i64 (j:Nat)) (.bool true) (.bool false) (.bool true) (.int .i64 ((i+1:Nat):Int)) (.int .i64 (r:Nat))) (fun r _ h' n'=>n'=n+1∧h'=h2) ?_ ?_ lf 0 () h2 (n+1) (aR _) (by omega) ⟨rfl,rfl⟩
     ·rintro Pw _ h3 n3 ⟨rfl,rfl⟩
      rw[zR]
      try simp(disch:=first|omega|assumption) only[af,aa,RZ,fg]
      (try unfold Ye);(try unfold H7);(try dsimp only)
      rw[Jg]
      try simp(disch:=first|omega|assumption) only[af,aa,RZ,c2]
      refine aaq trivial n j _ _ g2 (by omega) gN (aa5 _) (.inl (an _)) ?_
      try simp(disch:=first|omega|assumption) only[af,aa,RZ]
      rw[qZ]
      exact pK (b8 (dV ln j) (i+1)) _ (n+1) ⟨rfl,get_eq _ _ _,fun b hb=>by rw[aD _ _ (by omega)];exact k2 b hb,aa_,by rw[iW];exact an _⟩
     ·rintro Pw r _ h3 n3 hr ⟨rfl,rfl⟩ amt
      rw[zR]
      have c3:((r:Nat):Int)<((i+1:Nat):Int):=by omega
      have a1:=Ch (cr r false) [false] (by rw[kg];show _+1<=_;omega)
      rw[<-arz]at a1
      try simp(disch:=first|omega|assumption) only[af,aa,RZ,c3,Cg,a1]
      exact amt () h3 (n+1) ⟨rfl,rfl⟩
    ·have e2:decide (s2=[])=false:=decide_eq_false hs
     rw[if_neg hs]at Jg
     try simp(disch:=first|omega|assumption) only[af,aa,RZ,c2,g0,hv,e1,aa4,tO,e2]
     refine bL (amm (lf:=lf) (d:=d) s2 (i+1) (by omega) Jf (by omega)) (by omega) (fun _ _ h=>h.elim) ?_
     rw[Jg]
     try simp(disch:=first|omega|assumption) only[af,aa,RZ]
     refine aaq trivial n j _ _ g2 (by omega) gN (aa5 _) (.inl (an _)) ?_
     try simp(disch:=first|omega|assumption) only[af,aa,RZ]
     rw[qZ]
     exact pK (b8 (dV ln j) (i+1)) _ (n+1) ⟨rfl,get_eq _ _ _,fun b hb=>by rw[aD _ _ (by omega)];exact k2 b hb,aa_,by rw[iW];exact an _⟩
   ·have e1:((((ln.getD j 0:Nat):Int)) !=((i+1:Nat):Int))=true:=by rw[bne_iff_ne];omega
    try simp(disch:=first|omega|assumption) only[af,aa,RZ,c2,g0,hv,e1]
    rw[<-amn hn]at g2
    exact pK s2 h2 (n+1) ⟨rfl,g2,k2,Je.skip hj hn,Jf⟩
end
section
variable {lf d n:Nat} {h:H}
theorem amu(a b:List Bool)(hb:b.length<=1000000000):ai (fun _=>False) n (au ah gt lf (d+1) 199 #[tx a,tx b]) h n fun v' h' n'=>v'= .bool (decide (b.length<=a.length∧a.take b.length=b))∧h'=h∧n'=n:=by
 rw[aL (fun _=>aji) rfl]
 refine ai.aH ?_
 unfold YM
 by_cases c:b.length<=a.length
 ·have c1:((b.length:Nat):Int)<=((a.length:Nat):Int):=by omega
  have s1:=fun(k:Value->M Value)=>EH a .i64 ((b.length:Nat):Int) k (by omega) (by omega)
  rw[cL]at s1
  try simp(disch:=first|omega|assumption) only[af,aa,RZ,cS,c1,s1,tO]
  by_cases e:a.take b.length=b
  ·rw[decide_eq_true e,decide_eq_true ⟨c,e⟩]
  ·rw[decide_eq_false e,decide_eq_false fun q=>e q.2]
 ·have c1:¬((b.length:Nat):Int)<=((a.length:Nat):Int):=by omega
  try simp(disch:=first|omega|assumption) only[af,aa,RZ,cS,c1]
  rw[decide_eq_false fun q=>c q.1]
theorem aba{ln:List Nat}(w:Wh ln){bs:List Bool}{i:Nat}(hi:i<ln.length):Mt ln bs i↔((b8 (dV ln i) (ln.getD i 0)).length<=bs.length∧bs.take (b8 (dV ln i) (ln.getD i 0)).length=b8 (dV ln i) (ln.getD i 0)):=by
 rw[iW]
 constructor
 ·rintro⟨_,h2,h3⟩
  refine⟨h2, ?_⟩
  have:=BX h3
  rw[dr,kR h2]at this
  exact this
 ·rintro⟨h2,h3⟩
  exact⟨hi,h2,by rw[h3,El (w.OW hi)]⟩
theorem Px{ln:List Nat}{i:Nat}(hi:i<ln.length):(Ap ln)[i]? =some (tx (b8 (dV ln i) (ln.getD i 0))):=by
 unfold Ap
 rw[jC,List.getElem?_range hi]
 rfl
def Cj(o:Option Nat):Int:=match o with
 |none=>-1
 |some s=>(s:Int)
theorem abb{b:Nat}{o:Bool}{ln:List Nat}(w:Wh ln)(bs:List Bool)(g:h.get b=some ⟨9,o,Ap ln⟩)(hb:b<n)(hl:ln.length<=258)(aC:1000<=lf):ai (fun _=>False) n (au ah gt lf (d+2) 164 #[.slice (some ⟨b,0,none⟩) ln.length ln.length,tx bs]) h n fun v' h' n'=>v'= .int .i64 (Cj (iX ln bs))∧h'=h∧n'=n:=by
 rw[aL (fun _=>aiK) rfl]
 refine ai.aH ?_
 unfold Oa
 try simp(disch:=first|omega|assumption) only[af,aa,RZ]
 refine eD ln.length (fun fu i (_:Unit)=>zP lf (au ah gt lf (d+1)) fu (D2 lf (au ah gt lf (d+1))) (.slice (some ⟨b,0,none⟩) ln.length ln.length) (tx bs) (.int .i64 0) (.slice (some ⟨b,0,none⟩) ln.length ln.length) (.int .i64 (ln.length:Int)) (.int .i64 (i:Nat))) (fun i _ h' n'=>(h'=h∧n'=n)∧∀j,j<i->¬Mt ln bs j) ?_ ?_ lf 0 () h n (aR _) (by omega) ⟨⟨rfl,rfl⟩,fun j hj=>absurd hj (mJ j)⟩
 ·rintro fu _ h' n' ⟨⟨rfl,rfl⟩,hn⟩
  rw[zP]
  try simp(disch:=first|omega|assumption) only[af,aa,RZ,fg]
  (try unfold D2);(try dsimp only)
  try simp(disch:=first|omega|assumption) only[af,aa,RZ]
  rw[aaz fun i m=>hn i m.1 m]
  rfl
 ·rintro fu i _ h' n' hi ⟨⟨rfl,rfl⟩,hn⟩ next
  rw[zP]
  have c1:((i:Nat):Int)<((ln.length:Nat):Int):=by omega
  have ht:=Px hi
  try simp(disch:=first|omega|assumption) only[af,aa,RZ,c1,g,ht]
  have hle:=(w.at hi).2
  refine bL (amu (lf:=lf) (d:=d) bs (b8 (dV ln i) (ln.getD i 0)) (by rw[iW];omega)) (an _) (fun _ _ h=>h.elim) ?_
  by_cases m:Mt ln bs i
  ·rw[decide_eq_true ((aba w hi).1 m)]
   try simp(disch:=first|omega|assumption) only[af,aa,RZ]
   (try unfold D2);(try dsimp only)
   try simp(disch:=first|omega|assumption) only[af,aa,RZ]
   rw[aay m]
   rfl
  ·rw[decide_eq_false fun q=>m ((aba w hi).2 q)]
   try simp(disch:=first|omega|assumption) only[af,aa,RZ]
   exact next () h' n' ⟨⟨rfl,rfl⟩,fun j hj=>by
    rcases Nat.lt_succ_iff_lt_or_eq.1 hj with q|q
    ·exact hn j q
    ·exact q▸m⟩
end
theorem EJ{size:Nat}:∀(N now:Nat) (lens:List Nat) (bs:List Bool) (a:Nat) (ln:List Nat) (a':Nat),Cc size now lens->fF N size now lens bs a= .ok ln a'->ln.length=size∧(∀x∈ln,1<=x∧x<=20)∧a<=a'∧a'<=a+bs.length
 |0,_,_,_,_,_,_,_,h=>by simp[fF]at h
 |N+1,now,lens,bs,a,ln,a',k,h=>by
  unfold fF at h
  split at h
  ·next e=>
   simp only[St.ok.injEq]at h
   obtain⟨rfl,rfl⟩:=h
   exact⟨e,k.all,an _,Rp _ _⟩
  ·next e=>
   split at h
   ·cases h
   ·cases h
   ·next m l u h1=>
    have k2:=I3 k (RN k.len e) h1
    have us:=I5 h1
    have:=EJ N m l (bs.drop u) (a+u) ln a' k2 h
    rw[b9]at this
    exact⟨this.1,this.2.1,by omega,by omega⟩
theorem abc{size:Nat}:∀(N now:Nat) (lens:List Nat) (bs:List Bool) (a:Nat) (e:Int),fF N size now lens bs a= .bad e->e=22
 |0,_,_,_,_,_,h=>by simp[fF]at h
 |N+1,now,lens,bs,a,e,h=>by
  unfold fF at h
  split at h
  ·cases h
  ·split at h
   ·cases h
   ·next h1=>cases h;exact Pf h1
   ·next m l u h1=>exact abc N m l (bs.drop u) (a+u) e h
def eZ:Nat->Nat->List Bool->Nat->List (List Nat)->St (List (List Nat))
 |0,_,_,a,acc=> .ok acc a
 |t+1,size,bs,a,acc=>match fF (bs.length+1) size 0 [] bs 0 with
  | .short=> .short
  | .bad e=> .bad e
  | .ok ln u=>if eT (iN ln)=1048576 then eZ t size (bs.drop u) (a+u) (acc++[ln])else .bad 22
def TT(h:H)(lo n:Nat)(v:Value)(lns:List (List Nat)):Prop:=∃cs,Own h lo n 230 v cs∧cs.length=lns.length∧∀i,i<lns.length->∃b,cs.getD i undef= .slice (some ⟨b,0,none⟩) (lns.getD i []).length (lns.getD i []).length∧h.get b=some ⟨9,true,Ap (lns.getD i [])⟩∧lo<=b∧b<n
theorem TT.nil(h:H)(lo n:Nat):TT h lo n (.slice none 0 0) []:=⟨[],Own.nil _ _ _ _,rfl,fun i hi=>absurd hi (mJ i)⟩
theorem TT.aB{h h':H}{lo n n':Nat}{v:Value}{lns:List (List Nat)}(x:TT h lo n v lns)(hn:n<=n')(hk:∀b,lo<=b->b<n->h'.get b=h.get b):TT h' lo n' v lns:=by
 obtain⟨cs,o,hl,ht⟩:=x
 refine⟨cs,o.aB hn fun b hb=>hk b (o.lt hb).1 (o.lt hb).2,hl,fun i hi=> ?_⟩
 obtain⟨b,e,g,h1,h2⟩:=ht i hi
 exact⟨b,e,(hk b h1 h2).trans g,h1,by omega⟩
theorem TT.len{h:H}{lo n:Nat}{v:Value}{lns:List (List Nat)}(x:TT h lo n v lns):∃a c,v= .slice a lns.length c:=by
 obtain⟨cs,o,hl,ht⟩:=x
 rcases o with ⟨e1,e2⟩|⟨b,e1,_⟩
 ·subst e2
  exact⟨none,0,by rw[e1,<-hl];rfl⟩
 ·exact⟨_,_,by rw[e1,hl]⟩
def P14(n:Nat)(r:St (List (List Nat)))(v':Value)(h':H)(n':Nat):Prop:=∃(tv:Value) (u e:Int),v'= .agg #[tv,.int .i64 u,.int .i64 e]∧(∃a l c,tv= .slice a l c)∧
 match r with
 | .short=>e=3
 | .bad e0=>e0=22∧e=22
 | .ok lns a0=>e=0∧u=(a0:Int)∧TT h' n n' tv lns
section
variable {lf d n:Nat} {h:H}
theorem amv{v:Value}{ln:List Nat}(hR:Row h n 3 .i64 v (iN ln))(ha:∀x∈ln,1<=x∧x<=20)(hl:ln.length<=258)(aC:3000000<=lf):ai (fun _=>False) n (au ah gt lf (d+2) 198 #[v]) h n fun v' h' n'=>v'= .bool (decide (eT (iN ln)=1048576))∧h'=h∧n'=n:=by
 rw[aL (fun _=>ajh) rfl]
 refine ai.aH ?_
 unfold YL
 have xn:=gK ln
 have ku:∀x∈iN ln,1<=x∧x<=20:=fun x hx=>by
  obtain⟨w,hw,rfl⟩:=List.mem_map.1 hx
  have:=ha w hw
  omega
 refine bL (akH lf d n h v (iN ln) hR 1 20 (by omega) aC) (an _) (fun _ _ h=>h.elim) ?_
 rw[BW.2 ku]
 try simp(disch:=first|omega|assumption) only[af,aa,RZ]
 refine bL (ak7 lf d n h v (iN ln) hR (by omega) (fun x hx=>by have:=ku x hx;omega) aC) (an _) (fun _ _ h=>h.elim) ?_
 have e:(eT (iN ln)==1048576)=decide (eT (iN ln)=1048576):=by
  by_cases q:eT (iN ln)=1048576
  ·rw[decide_eq_true q,q];rfl
  ·rw[decide_eq_false q];exact beq_eq_false_iff_ne.2 q
 try simp(disch:=first|omega|assumption) only[af,aa,RZ,e]
theorem amw{l:List Bool}(hl:l.length<=1000000)(aC:3000000<=lf){size T:Nat}(tQ:3<=size)(dS:size<=258)(hT:T<=6):∀(t fu i:Nat) (h':H) (n':Nat) (tv:Value) (lns:List (List Nat)) (a:Nat),i+t=T->n+2<=n'->h'.get n=some ⟨228,true,[.slice none 0 0,.int .i64 0,.int .i64 0]⟩->h'.get (n+1)=some ⟨228,true,[tv,.int .i64 (a:Int),.int .i64 0]⟩->t<fu->a<=l.length->lns.length=i->TT h' (n+2) n' tv lns->
 ai (fun _=>False) n (zN lf (au ah gt lf (d+3)) fu (zO lf (au ah gt lf (d+3))) (tx l) (.int .i64 (T:Int)) (.int .i64 (size:Int)) (.pointer (some ⟨n,0,none⟩)) (.pointer (some ⟨n+1,0,none⟩)) (.int .i64 (T:Int)) (.int .i64 (i:Int))) h' n' (P14 n (eZ t size (l.drop a) a lns)):=by
 intro t
 induction t with
 |zero=>
  intro fu i h' n' tv lns a hi lG g g2 hf zf hli tt
  obtain⟨fu,rfl⟩:∃f,fu=f+1:=⟨fu-1,by omega⟩
  obtain rfl:i=T:=by omega
  obtain⟨ta,tc,rfl⟩:=tt.len
  rw[zN]
  try simp(disch:=first|omega|assumption) only[af,aa,RZ,fg]
  (try unfold zO);(try dsimp only)
  refine aan trivial trivial (n+1) 0 _ g2 (by omega) (by simp) ?_
  refine db (sz:=3) trivial (vs:=[.slice ta lns.length tc,.int .i64 (a:Int),.int .i64 0]) rfl rfl rfl g (by omega) (.inl (an _)) _ fun h1 g1 k1=> ?_
  refine fQ trivial trivial g1 rfl (by omega) ?_
  exact⟨_,_,_,rfl,⟨_,_,_,rfl⟩,rfl,rfl,by
   obtain⟨cs,o,h1,h2⟩:=tt.aB (an _) fun b hb cF=>k1 b (by omega)
   exact⟨cs,o.low (by omega),h1,fun i hi=>by obtain⟨b,e,g,h3,h4⟩:=h2 i hi;exact⟨b,e,g,by omega,h4⟩⟩⟩
 |succ t ih=>
  intro fu i h' n' tv lns a hi lG g g2 hf zf hli tt
  obtain⟨fu,rfl⟩:∃f,fu=f+1:=⟨fu-1,by omega⟩
  obtain⟨ta,tc,rfl⟩:=tt.len
  rw[zN]
  unfold eZ
  have c1:((i:Nat):Int)<((T:Nat):Int):=by omega
  have s1:=fun(k:Value->M Value)=>pP l .i64 (a:Int) k (by omega) (by omega)
  rw[cL]at s1
  have aM:n+1<n':=by omega
  have oG:(l.drop a).length=l.length-a:=b9
  try simp(disch:=first|omega|assumption) only[af,aa,RZ,c1,g2,s1]
  refine aU aK (amk (lf:=lf) (d:=d+1) (l.drop a) (by omega) aC (size:=size) (by omega) dS) (by omega) (fun _ _ h=>h.elim) fun v1 h1 n1 Py aY aw=> ?_
  obtain⟨lv,u,e,rfl,aw⟩:=aw
  have kJ:∃x y z,lv= .slice x y z:=by
   cases hr:fF ((l.drop a).length+1) size 0 [] (l.drop a) 0 with
   |short=>rw[hr]at aw;exact⟨_,_,_,aw.2⟩
   |bad e0=>rw[hr]at aw;exact⟨_,_,_,aw.2.2⟩
   |ok ln a0=>rw[hr]at aw;obtain⟨x,y,z⟩:=aw.2.2.row.len;exact⟨_,_,_,z⟩
  obtain⟨lx,ly,lz,rfl⟩:=kJ
  refine fq Hz _ ?_
  refine db (sz:=3) trivial (vs:=[.slice lx ly lz,.int .i64 u,.int .i64 e]) rfl rfl rfl (get_eq _ _ _) (by omega) (.inl (by omega)) _ fun h2 g3 k3=> ?_
  have un:∀b,b<n'->h2.get b=h'.get b:=fun b hb=>by rw[k3 b (by omega),aD _ _ (by omega),aY b hb id]
  have gr:=(un n (by omega)).trans g
  have g4:=(un (n+1) (by omega)).trans g2
  have tt2:TT h2 (n+2) (n1+1) (.slice ta lns.length tc) lns:=tt.aB (by omega) fun b _ hb=>un b hb
  have cJ:n1<n1+1:=by omega
  have fw:n+1<n1+1:=by omega
  cases hr:fF ((l.drop a).length+1) size 0 [] (l.drop a) 0 with
  |short=>
   rw[hr]at aw
   obtain⟨rfl,_⟩:=aw
   have z3:((3:Int) !=0)=true:=rfl
   try simp(disch:=first|omega|assumption) only[af,aa,RZ,g3,g4,z3]
   refine db (sz:=3) trivial (vs:=[.slice ta lns.length tc,.int .i64 0,.int .i64 3]) rfl rfl rfl gr (by omega) (.inl (an _)) _ fun h5 g5 k5=> ?_
   (try unfold zO);(try dsimp only)
   exact fQ trivial trivial g5 rfl (by omega) ⟨_,_,_,rfl,⟨_,_,_,rfl⟩,rfl⟩
  |bad e0=>
   rw[hr]at aw
   obtain⟨rfl,rfl,_⟩:=aw
   have z3:((22:Int) !=0)=true:=rfl
   try simp(disch:=first|omega|assumption) only[af,aa,RZ,g3,g4,z3]
   refine db (sz:=3) trivial (vs:=[.slice ta lns.length tc,.int .i64 0,.int .i64 22]) rfl rfl rfl gr (by omega) (.inl (an _)) _ fun h5 g5 k5=> ?_
   (try unfold zO);(try dsimp only)
   exact fQ trivial trivial g5 rfl (by omega) ⟨_,_,_,rfl,⟨_,_,_,rfl⟩,rfl,rfl⟩
  |ok ln a0=>
   rw[hr]at aw
   obtain⟨rfl,rfl,ol⟩:=aw
   have cG:=EJ _ _ _ _ _ _ _ ⟨aR _,aR _,fun x hx=>absurd hx (by simp)⟩ hr
   have z0:((0:Int) !=0)=false:=rfl
   have w1:IntKind.i64.wrap ((a:Int)+((a0:Nat):Int))=((a+a0:Nat):Int):=by rw[aJ (by omega) (by omega)];omega
   have il:n<=n+1:=by omega
   try simp(disch:=first|omega|assumption) only[af,aa,RZ,g3,g4,z0,w1,il,true_or,or_true]
   obtain⟨h5,hh⟩:∃h5:H,h5=h2.set (n+1) (some ⟨228,true,[.slice ta lns.length tc,.int .i64 ((a+a0:Nat):Int),.int .i64 0]⟩):=⟨_,rfl⟩
   rw[<-hh]
   have g6:h5.get (n+1)=some ⟨228,true,[.slice ta lns.length tc,.int .i64 ((a+a0:Nat):Int),.int .i64 0]⟩:=by rw[hh,get_eq]
   have Jh:∀b,b≠n+1->h5.get b=h2.get b:=fun b hb=>by rw[hh,aD _ _ hb]
   have g7:=(Jh n1 (by omega)).trans g3
   have gr5:=(Jh n (by omega)).trans gr
   have o5:Own h5 n' n1 3 (.slice lx ly lz) (aS .i64 (iN ln)):=ol.aB (an _) fun b hb=>by
    have:=ol.lt hb
    rw[Jh b (by omega),k3 b (by omega),aD _ _ (by omega)]
   have r5:Row h5 (n1+1) 3 .i64 (.slice lx ly lz) (iN ln):=(o5.aB (iP n1) fun _ _=>rfl).row
   have tt5:TT h5 (n+2) (n1+1) (.slice ta lns.length tc) lns:=tt2.aB (an _) fun b hb _=>Jh b (by omega)
   refine bL (amv (lf:=lf) (d:=d+1) r5 cG.2.1 (by omega) aC) (by omega) (fun _ _ h=>h.elim) ?_
   by_cases hs:eT (iN ln)=1048576
   ·rw[decide_eq_true hs]
    have e:(if eT (iN ln)=1048576 then eZ t size ((l.drop a).drop a0) (a+a0) (lns++[ln])else .bad 22)=eZ t size ((l.drop a).drop a0) (a+a0) (lns++[ln]):=if_pos hs
    try simp(disch:=first|omega|assumption) only[af,aa,RZ,jP]
    refine gZ trivial (n+1) 0 _ g6 (show n+1<n1+1 by omega) (an _) rfl fun T1 t1=> ?_
    try simp(disch:=first|omega|assumption) only[af,aa,RZ]
    refine gZ trivial n1 0 _ g7 (show n1<n1+1 by omega) (an _) rfl fun T2 t2=> ?_
    try simp(disch:=first|omega|assumption) only[af,aa,RZ]
    have w:=B6 cG.2.1 hs
    refine tA aK (ams (lf:=lf) (d:=d+1) r5 w (by omega) (by omega) (by omega)) (by omega) fun v6 h6 n6 T3 An mD hY t3=> ?_
    obtain⟨rfl,rfl,gc6,_⟩:=hY
    obtain⟨cs,oc,gN,fI⟩:=tt5
    have Pz:Own h6 (n+2) (n1+1+1) 230 (.slice ta lns.length tc) cs:=oc.aB (by omega) fun b hb=>mD b (oc.lt hb).2
    refine Pa trivial (agz _ _ _) Pz (by omega) (fun b hb=> .inl (by have:=(Pz.lt hb).1;omega)) _ fun w4 T4 T5 h8 g8 k8=> ?_
    have nb:∀b,b<n+2->¬aN (.slice ta lns.length tc) b:=fun b hb q=>by have:=(Pz.lt q).1;omega
    have g9:=((k8 (n+1) (by omega) (nb _ (by omega))).trans (mD (n+1) (by omega))).trans g6
    have gr9:=((k8 n (by omega) (nb _ (by omega))).trans (mD n (by omega))).trans gr5
    have hn9:n+1<n1+1+1+2:=by omega
    try simp(disch:=first|omega|assumption) only[af,aa,RZ]
    refine O' (fun _ _=>rfl) ?_
    try simp(disch:=first|omega|assumption) only[af,aa,RZ,g9,il,true_or,or_true,t1.cA t3,cP,fR,eh]
    have:=ih fu (i+1) (h8.set (n+1) (some ⟨228,true,[.slice (some ⟨n1+1+1+1,0,none⟩) (cs.length+1) (bq+(cs.length+1)),.int .i64 ((a+a0:Nat):Int),.int .i64 0]⟩)) (n1+1+1+2) (.slice (some ⟨n1+1+1+1,0,none⟩) (cs.length+1) (bq+(cs.length+1))) (lns++[ln]) (a+a0) (by omega) (by omega) ((aD _ _ (by omega)).trans gr9) (get_eq _ _ _) (by omega) (by omega) (by rw[bX];simp only[dp,gM];omega) (by
     refine⟨cs++[.slice (some ⟨n1+1,0,none⟩) ln.length ln.length],.inr ⟨n1+1+1+1,by simp,by rw[aD _ _ (by omega)];exact g8,by omega,by omega⟩,by simp[gN],fun j hj=> ?_⟩
     rw[bX]at hj
     simp only[dp,gM]at hj
     rw[IF,IF,gN]
     by_cases o8:j<lns.length
     ·rw[if_pos o8,if_pos o8]
      obtain⟨b,e1,e2,e3,e4⟩:=fI j o8
      refine⟨b,e1, ?_,e3,by omega⟩
      have nib:¬aN (.slice ta lns.length tc) b:=fun q=>by
       obtain⟨B,q1,q2⟩:=oc.elem q
       rw[e2]at q1
       cases q1
       exact absurd (show(9:Nat)=230 from q2) (by decide)
      rw[aD _ _ (by omega),k8 b (by omega) nib,mD b e4]
      exact e2
     ·rw[if_neg o8,if_neg o8,if_pos (by omega),if_pos (by omega)]
      refine⟨n1+1,rfl, ?_,by omega,by omega⟩
      rw[aD _ _ (by omega),k8 (n1+1) (by omega) fun q=>by have:=(oc.lt q).2;omega]
      exact gc6)
    rw[<-ng]at this
    first|(rw[e];exact this)|(rw[if_pos hs];exact this)
   ·rw[decide_eq_false hs]
    have tG:n+1<n1+1:=by omega
    try simp(disch:=first|omega|assumption) only[af,aa,RZ,cP,g6]
    rw[if_neg hs]
    refine db (sz:=3) trivial (vs:=[.slice ta lns.length tc,.int .i64 0,.int .i64 22]) rfl rfl rfl gr5 (by omega) (.inl (an _)) _ fun h8 g8 k8=> ?_
    (try unfold zO);(try dsimp only)
    exact fQ trivial trivial g8 rfl (by omega) ⟨_,_,_,rfl,⟨_,_,_,rfl⟩,rfl,rfl⟩
theorem abd(l:List Bool)(hl:l.length<=1000000)(aC:3000000<=lf){size T:Nat}(tQ:3<=size)(dS:size<=258)(hT:T<=6):ai (fun _=>False) n (au ah gt lf (d+4) 163 #[tx l,.int .i64 (T:Int),.int .i64 (size:Int)]) h n (P14 n (eZ T size l 0 [])):=by
 rw[aL (fun _=>aiI) rfl]
 refine ai.aH ?_
 unfold N9
 refine fq BE _ ?_
 try simp(disch:=first|omega|assumption) only[af,aa,RZ]
 refine fq BE _ ?_
 refine db (sz:=3) trivial (vs:=[.slice none 0 0,.int .i64 0,.int .i64 0]) rfl rfl rfl (get_eq _ _ _) (by omega) (.inl (by omega)) _ fun h1 g1 k1=> ?_
 have:=amw (n:=n) (d:=d) hl aC tQ dS hT T lf 0 h1 (n+1+1) (.slice none 0 0) [] 0 (by omega) (by omega) (by rw[k1 n (by omega),aD _ _ (by omega),get_eq]) g1 (by omega) (aR _) rfl (TT.nil _ _ _)
 rw[jr]at this
 exact this
end
def xA:Nat->List (List Nat)->List Nat->Nat->List Bool->Int->List Int->Nat->Rs
 |0,_,_,_,_,_,_,_=> .err 3
 |N+1,aT,took,size,bs,most,out,a=>if took.length<=out.length/50 then .err 25 else
  match iX (aT.getD (took.getD (out.length/50) 0) []) bs with
  |none=> .err 3
  |some s=>if(out.length:Int)=most then .err 2 else
   if s+1=size then .ok (out++[(s:Int)]) (a+(aT.getD (took.getD (out.length/50) 0) []).getD s 0)
   else xA N aT took size (bs.drop ((aT.getD (took.getD (out.length/50) 0) []).getD s 0)) most (out++[(s:Int)]) (a+(aT.getD (took.getD (out.length/50) 0) []).getD s 0)
def vk(size:Nat)(bs:List Bool)(most:Int):Rs:=
 match ek (bs.length+1) hZ bs 0 with
 | .short=> .err 3
 | .bad e=> .err e
 | .ok s a=>match eZ s.t size (bs.drop a) 0 []with
   | .short=> .err 3
   | .bad e=> .err e
   | .ok lns u=>xA (bs.length+1) lns s.bJ size (bs.drop (a+u)) most [] (a+u)
def Cl(n:Nat)(r:Rs)(held:Int)(v':Value)(h':H)(n':Nat):Prop:=∃(ov:Value) (u hd e:Int),v'= .agg #[ov,.int .i64 u,.int .i64 hd,.int .i64 e]∧
 match r with
 | .err e0=>e=e0∧ov= .slice none 0 0∧u=0
 | .ok out a=>e=0∧u=(a:Int)∧Own h' n n' 3 ov (aS .i64 out)∧hd=held
section
variable {β:Type} {W:Nat->Prop} {n0:Nat} {h:H} {n m:Nat} {Q:β->H->Nat->Prop}
theorem abe{t:TypeId}{z cs:List Value}(hz:z=cs)(k:Value×Tk->M β)(hm:m<=n)(x:∀T,RB T m->ai W n0 (k (.pointer (some ⟨n,0,none⟩),T)) (h.set n (some ⟨t,true,cs⟩)) (n+1) Q):ai W n0 ((aG (di t z M.ret)).bind k) h n Q:=by
 subst hz
 exact oH (qz (pD _ _ (fun id=>lN (some ⟨id,0,none⟩)) _ _)) (iP n) (by simp) (x _ ⟨by simp,by simp,hm⟩)
end
section
variable {lf d n:Nat} {h:H}
theorem amx {l:List Bool} (hl:l.length<=1000000) (aC:3000000<=lf) {size T:Nat} (tQ:3<=size) (dS:size<=258) {lns:List (List Nat)} {took:List Nat} (most:Int) (hw:∀ln∈lns,Wh ln∧ln.length=size) (rI:∀v∈took,v<lns.length) (hT:lns.length=T) (hT6:T<=6) (oM:took.length<=40000)
 {q1 q2 lo:Nat} {pv tv:Value} {x1 x2 x3 y1 y2:Int} (hq:n+1<=lo) (aw:q1<lo∧n<q1) (bu:q2<lo∧n<q2):
 ∀(N fu:Nat) (h':H) (n':Nat) (ov:Value) (out:List Int) (a:Nat),lo<=n'->h'.get n=some ⟨188,true,[.slice none 0 0,.int .i64 0,.int .i64 0,.int .i64 0]⟩->h'.get q1=some ⟨224,true,[pv,.int .i64 (T:Int),.int .i64 x2,.int .i64 x3,.int .i64 0]⟩->h'.get q2=some ⟨228,true,[tv,.int .i64 y1,.int .i64 0]⟩->Row h' lo 3 .i64 pv (iN took)->TT h' 0 lo tv lns->
  (l.drop a).length<N->N<=fu->a<=l.length->out.length+(l.drop a).length<=1000000->Own h' lo n' 3 ov (aS .i64 out)->
  ai (fun _=>False) n (BJ lf (au ah gt lf (d+4)) fu (zF lf (au ah gt lf (d+4))) (tx l) (.int .i64 (size:Int)) (.int .i64 most) (.pointer (some ⟨n,0,none⟩)) (.pointer (some ⟨q1,0,none⟩)) (.pointer (some ⟨q2,0,none⟩)) (.int .i64 (a:Int)) ov (.bool false) (.bool false)) h' n' (Cl n (xA N lns took size (l.drop a) most out a) ((took.length+T*size:Nat):Int)):=by
 intro N
 induction N with
 |zero=>intro fu h' n' ov out a _ _ _ _ _ _ hN;omega
 |succ N ih=>
  intro fu h' n' ov out a lG g g1 g2 rp tt hN gU zf lu og
  obtain⟨fu,rfl⟩:∃f,fu=f+1:=⟨fu-1,by omega⟩
  obtain⟨oa,oc,rfl⟩:=og.row.len
  have qB:=gK took
  have oG:(l.drop a).length=l.length-a:=b9
  have amy:q1<n':=by omega
  have amz:q2<n':=by omega
  have xw:((out.length:Nat):Int).tdiv 50=((out.length/50:Nat):Int):=rfl
  have EK:IntKind.i64.wrap ((out.length/50:Nat):Int)=((out.length/50:Nat):Int):=aJ (by omega) (by omega)
  have err:∀(e:Int) (k:Value->M Value),(∀h1:H,h1.get n=some ⟨188,true,[.slice none 0 0,.int .i64 0,.int .i64 0,.int .i64 e]⟩->ai (fun _=>False) n (k undef) h1 n' (Cl n (.err e) ((took.length+T*size:Nat):Int)))->ai (fun _=>False) n (aX 4 (.pointer (some ⟨n,0,none⟩)) (.agg #[.slice none 0 0,.int .i64 0,.int .i64 0,.int .i64 e]) k) h' n' (Cl n (.err e) ((took.length+T*size:Nat):Int)):=fun e k hk=>
   db (sz:=4) trivial (vs:=[.slice none 0 0,.int .i64 0,.int .i64 0,.int .i64 e]) rfl rfl rfl g (by omega) (.inl (an _)) _ fun h1 g1 k1=>hk h1 g1
  rw[BJ]
  unfold xA
  by_cases hb:took.length<=out.length/50
  ·obtain⟨pa,pc,rfl⟩:=rp.len
   have c1:(((iN took).length:Nat):Int)<=((out.length/50:Nat):Int):=by omega
   try simp(disch:=first|omega|assumption) only[af,aa,RZ,g1,xw,EK,c1]
   rw[if_pos hb]
   refine err 25 _ fun h1 g1=> ?_
   (try unfold zF);(try dsimp only)
   exact fQ trivial trivial g1 rfl (by omega) ⟨_,_,_,_,rfl,rfl,rfl,rfl⟩
  ·rw[if_neg hb]
   obtain⟨b,off,cap,o,ks,rfl,hg,lR,hv⟩:=rp.some (by omega)
   have c1:¬(((iN took).length:Nat):Int)<=((out.length/50:Nat):Int):=by omega
   obtain⟨gR,rY⟩:∃t,took.getD (out.length/50) 0=t:=⟨_,rfl⟩
   have EE:ks[off+out.length/50]? =some (.int .i64 (gR:Int)):=by
    rw[hv.2.2.2 _ (by omega),tE,rY]
   have amA:b<n':=by omega
   have EL:gR<lns.length:=by
    refine rI gR ?_
    rw[<-rY,bC,bD (by omega)]
    exact eu _
   obtain⟨cs,EM,gN,fI⟩:=tt
   obtain⟨bt,e1,Aq,_,hbt⟩:=fI gR EL
   obtain⟨PA,tN,PB,_,amB⟩:∃b,tv= .slice (some ⟨b,0,none⟩) cs.length (bq+cs.length)∧h'.get b=some ⟨230,true,cs⟩∧0<=b∧b<lo:=by
    rcases EM with ⟨_,e⟩|⟨b,p1,p2,p3,p4⟩
    ·rw[e]at gN
     have:lns.length=0:=gN.symm
     omega
    ·exact⟨b,p1,p2,p3,p4⟩
   subst tN
   have nI:cs[gR]? =some (.slice (some ⟨bt,0,none⟩) (lns.getD gR []).length (lns.getD gR []).length):=by
    rw[<-e1,bC,bD (by omega)]
    rfl
   have pO:lns.getD gR []∈lns:=by
    rw[bC,bD EL]
    exact eu _
   obtain⟨ln,ey⟩:∃l,lns.getD gR []=l:=⟨_,rfl⟩
   rw[rY,ey]
   rw[ey]at nI Aq pO
   obtain⟨EN,lsz⟩:=hw ln pO
   have yO:(gR:Int)<((cs.length:Nat):Int):=by omega
   have amC:PA<n':=by omega
   have s1:=fun(k:Value->M Value)=>pP l .i64 (a:Int) k (by omega) (by omega)
   rw[cL]at s1
   try simp(disch:=first|omega|assumption) only[af,aa,RZ,g1,g2,xw,EK,c1,hg,EE,PB,nI,s1]
   refine bL (abb (lf:=lf) (d:=d+2) EN (l.drop a) Aq (by omega) (by omega) (by omega)) (by omega) (fun _ _ h=>h.elim) ?_
   cases rU:iX ln (l.drop a)with
   |none=>
    have c2:decide (Cj (none:Option Nat)<0)=true:=rfl
    try simp(disch:=first|omega|assumption) only[af,aa,RZ,c2]
    refine err 3 _ fun h1 g1=> ?_
    (try unfold zF);(try dsimp only)
    exact fQ trivial trivial g1 rfl (by omega) ⟨_,_,_,_,rfl,rfl,rfl,rfl⟩
   |some s=>
    obtain⟨m1,m2,m3⟩:=vh rU
    have c2:decide (Cj (some s)<0)=false:=decide_eq_false (by show¬((s:Int)<0);omega)
    by_cases hm:(out.length:Int)=most
    ·have c3:(((out.length:Nat):Int)==most)=true:=beq_iff_eq.2 hm
     try simp(disch:=first|omega|assumption) only[af,aa,RZ,c2,c3]
     rw[if_pos hm]
     refine err 2 _ fun h1 g1=> ?_
     (try unfold zF);(try dsimp only)
     exact fQ trivial trivial g1 rfl (by omega) ⟨_,_,_,_,rfl,rfl,rfl,rfl⟩
    ·have c3:(((out.length:Nat):Int)==most)=false:=beq_eq_false_iff_ne.2 hm
     have gi:Cj (some s)=(s:Int):=rfl
     have EO:=Px m1
     have iR:((s:Nat):Int)<((ln.length:Nat):Int):=by omega
     have amD:bt<n':=by omega
     obtain⟨u,hu⟩:∃u,ln.getD s 0=u:=⟨_,rfl⟩
     have PC:=(EN.at m1)
     rw[hu]at PC m2 EO
     have nr:(b8 (dV ln s) u).length=u:=iW _ _
     have c4:decide (((s:Nat):Int)<0)=false:=decide_eq_false (by omega)
     have e2:(((s:Nat):Int)==(size:Int)-1)=decide (s+1=size):=by
      by_cases q:s+1=size
      ·rw[decide_eq_true q];exact beq_iff_eq.2 (by omega)
      ·rw[decide_eq_false q];exact beq_eq_false_iff_ne.2 (by omega)
     try simp(disch:=first|omega|assumption) only[af,aa,RZ,c4,c3,gi,Aq,EO,cS,nr,e2]
     rw[if_neg hm,hu]
     refine ve trivial (mV _ _) og (by rw[eJ];omega) (fun b hb=> .inl (by have:=(og.lt hb).1;omega)) _ fun h2 g3 k3=> ?_
     have un:∀b,b<lo->h2.get b=h'.get b:=fun b hb=>k3 b (by omega) fun q=>by have:=(og.lt q).1;omega
     have g13:=(un q1 (by omega)).trans g1
     have g23:=(un q2 (by omega)).trans g2
     have EP:=(un n (by omega)).trans g
     have on:aS .i64 (out++[(s:Int)])=aS .i64 out++[.int .i64 ((s:Nat):Int)]:=by rw[pI];rfl
     have oo:Own h2 lo (n'+2) 3 (.slice (some ⟨n'+1,0,none⟩) ((aS .i64 out).length+1) (bq+((aS .i64 out).length+1))) (aS .i64 (out++[(s:Int)])):=by
      rw[on]
      exact .inr ⟨n'+1,by simp,g3,by omega,by omega⟩
     by_cases vl:s+1=size
     ·have hT7:T*size<=6*258:=Nat.mul_le_mul hT6 dS
      have w1:IntKind.i64.wrap ((T:Int)*(size:Int))=((T*size:Nat):Int):=by
       rw[show(T:Int)*(size:Int)=((T*size:Nat):Int) by push_cast;rfl,aJ (by omega) (by omega)]
      have w2:IntKind.i64.wrap ((((iN took).length:Nat):Int)+((T*size:Nat):Int))=((took.length+T*size:Nat):Int):=by rw[aJ (by omega) (by omega)];omega
      have asQ:q1<n'+2:=by omega
      rw[decide_eq_true vl]
      try simp(disch:=first|omega|assumption) only[af,aa,RZ,g13,w1,w2]
      refine db (sz:=4) trivial (vs:=[.slice (some ⟨n'+1,0,none⟩) ((aS .i64 out).length+1) (bq+((aS .i64 out).length+1)),.int .i64 ((a:Int)+(u:Int)),.int .i64 ((took.length+T*size:Nat):Int),.int .i64 0]) rfl rfl rfl EP (by omega) (.inl (an _)) _ fun h5 g5 k5=> ?_
      (try unfold zF);(try dsimp only)
      refine fQ trivial trivial g5 rfl (by omega) ?_
      rw[if_pos vl]
      exact⟨_,_,_,_,rfl,rfl,by omega,(oo.aB (an _) fun b hb=>k5 b (by have:=(oo.lt hb).1;omega)).low (by omega),rfl⟩
     ·rw[decide_eq_false vl]
      try simp(disch:=first|omega|assumption) only[af,aa,RZ]
      rw[if_neg vl]
      have:=ih fu h2 (n'+2) _ (out++[(s:Int)]) (a+u) (by omega) EP g13 g23 (rp.mW (an _) fun c hc=>un c (rp.lt hc)) (TT.aB ⟨cs,EM,gN,fI⟩ (an _) fun b _ hb=>un b hb) (by rw[b9];omega) (by omega) (by omega) (by rw[bX,b9];simp only[dp,gM];omega) oo
      rw[<-ng]at this
      first|exact this|(rw[show(a:Int)+(u:Int)=((a+u:Nat):Int) by omega];exact this)
theorem Ar{size:Nat}:∀(t:Nat) (bs:List Bool) (a:Nat) (acc lns:List (List Nat)) (a':Nat),(∀ln∈acc,Wh ln∧ln.length=size)->eZ t size bs a acc= .ok lns a'->(∀ln∈lns,Wh ln∧ln.length=size)∧lns.length=acc.length+t∧a<=a'∧a'<=a+bs.length
 |0,bs,a,acc,lns,a',k,h=>by
  simp only[eZ,St.ok.injEq]at h
  obtain⟨rfl,rfl⟩:=h
  exact⟨k,rfl,an _,Rp _ _⟩
 |t+1,bs,a,acc,lns,a',k,h=>by
  unfold eZ at h
  split at h
  ·cases h
  ·cases h
  ·next ln u h1=>
   have ok:=EJ _ _ _ _ _ _ _ ⟨aR _,aR _,fun x hx=>absurd hx (by simp)⟩ h1
   split at h
   ·next hs=>
    have:=Ar t (bs.drop u) (a+u) (acc++[ln]) lns a' (fun l hl=>by
     rcases List.mem_append.1 hl with hl|hl
     ·exact k l hl
     ·simp only[vJ]at hl
      subst hl
      exact⟨B6 ok.2.1 hs,ok.1⟩) h
    rw[bX,b9]at this
    simp only[dp,gM]at this
    exact⟨this.1,by omega,by omega,by omega⟩
   ·cases h
theorem abf{size:Nat}:∀(t:Nat) (bs:List Bool) (a:Nat) (acc:List (List Nat)) (e:Int),eZ t size bs a acc= .bad e->e=22
 |0,bs,a,acc,e,h=>by simp[eZ]at h
 |t+1,bs,a,acc,e,h=>by
  unfold eZ at h
  split at h
  ·cases h
  ·next h1=>cases h;exact abc _ _ _ _ _ _ h1
  ·split at h
   ·exact abf t _ _ _ e h
   ·cases h;rfl
theorem xB:∀(N:Nat) (s:Pk) (bs:List Bool) (a:Nat) (s':Pk) (a':Nat),s.Ok->s.t<=6->s.ord.length=6->s.count<32768->ek N s bs a= .ok s' a'->s'.Ok∧s'.t<=6∧s'.fin=true∧s'.count<32768∧a<=a'∧a'<=a+bs.length
 |0,s,bs,a,s',a',_,_,_,_,h=>by simp[ek]at h
 |N+1,s,bs,a,s',a',ok,h6,ho,hc,h=>by
  unfold ek at h
  split at h
  ·next hf=>
   simp only[St.ok.injEq]at h
   obtain⟨rfl,rfl⟩:=h
   exact⟨ok,h6,hf,hc,an _,Rp _ _⟩
  ·next hf=>
   have hf:s.fin=false:=by simpa using hf
   split at h
   ·cases h
   ·cases h
   ·next s1 u h1=>
    obtain⟨k1,k2,k3⟩:=Pg ok h6 ho hf h1
    have kk:s1.t<=6∧s1.ord.length=6∧s1.count<32768:=by
     unfold fx at h1
     split at h1
     ·split at h1
      ·cases h1
      ·split at h1
       ·next wv=>
        simp only[St.ok.injEq]at h1
        obtain⟨rfl,_⟩:=h1
        exact⟨wv.1.2,ho,Nat.mod_lt _ (by decide)⟩
       ·cases h1
     ·split at h1
      ·cases h1
      ·cases h1
      ·next o u2 h5=>
       simp only[St.ok.injEq]at h1
       obtain⟨rfl,_⟩:=h1
       have:=(EF h5).2
       exact⟨h6,Cb (dv:=0) ho (by omega),hc⟩
    have:=xB N s1 (bs.drop u) (a+u) s' a' k1 kk.1 kk.2.1 kk.2.2 h
    rw[b9]at this
    obtain⟨q1,q2,q3,q4,q5,q6⟩:=this
    exact⟨q1,q2,q3,q4,by omega,by omega⟩
theorem Co:hZ.Ok:=⟨fun _=>⟨rfl,rfl⟩,fun j hj=>absurd hj (mJ j),fun x hx=>absurd hx (by simp[hZ]),fun e=>absurd rfl e,fun e=>absurd rfl e⟩
end
end Go.Proofs.YtmjolmggelkjlaaGreat
