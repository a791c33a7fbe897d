import Derived.Test.YtdagfcflbphoiaaGreatDoorMad
import Derived.Test.YtdagfcflbphoiaaGreatDoorMae
open Int renaming natCast_nonneg→aa, reduceBEq→bk, reduceBNe→bm, reduceLT→bp, reduceLE→bq, reduceEq→bt, reduceNe→bu, reduceAdd→bx, reduceSub→bz, reduceMul→bA, reduceNeg→bB, lt_irrefl→c9, toNat_natCast→o0, mul_le_mul_of_nonneg_right→WT, pow_succ→ahT, one_mul→ahU, mul_assoc→aia, mul_comm→aib, pow_nonneg→aic, pow_add→aie
open Nat renaming reduceLT→ae, reduceAdd→ag, le_refl→ak, zero_le→cb, lt_succ_self→gX, lt_of_lt_of_le→mL, add_zero→mN, min_eq_left→nR, sub_self→nT, pow_le_pow_right→rC, le_trans→xM, lt_irrefl→LB
open Go.Proofs.Tryz renaming prog→ai
open List renaming getD_eq_getElem?_getD→aC, getElem?_eq_getElem→aR, replicate→cq, length_cons→cu, append_assoc→cE, range→cN, append_nil→dF, length_take→dW, getElem_mem→ep, drop_zero→gT, take_of_length_le→kH, getElem?_map→lE, mem_cons_of_mem→lG, getElem?_append_left→me, take_succ_eq_append_getElem→mQ, map_append→mR, length_replicate→mS, getElem?_append_right→nO, ext_getElem→nU, range'→rq, length_set→rz, eq_nil_of_length_eq_zero→vL, getElem?_cons_succ→Ax, map_cons→Ay, set_cons_succ→AF, getElem?_range→AM, getElem_map→AP, map_congr_left→EY, pairwise_cons→Lv, map_replicate→Lx, getElem_set→Ly, getElem_range→LA, set_append_right→Xe, countP_cons→ah4, nodup_cons→ah_, getElem?_replicate→aid, set_append_left→aih
open Bool renaming and_eq_true→bZ, not_true→gu, not_false→gZ, and_self→mO, or_eq_false_iff→vH
open BitVec renaming ofInt→di
open Go.Value renaming int→iy, slice→jF
open Go.IntKind renaming u32→AO
open Decidable renaming byContradiction→ajc
set_option linter.unusedVariables false
set_option linter.unusedSimpArgs false
namespace Go.Proofs.YtdagfcflbphoiaaGreatDoor
open Go.RowKit Ev Cn
def vo(S:List UInt8)(D A:Nat):AB:=⟨85,true,[.string ⟨S.toArray⟩,.int .i64 (D:Int),.int .i64 (A:Int)]⟩
structure bP (h:H) (n p:Nat) (S:List UInt8) (D A:Nat):Prop where
 get:h.get p=some (vo S D A)
 lt:p<n
 lo:8*D<=A
 hi:A<=8*(D+S.length)
 sm:D+S.length<=1000000000000
theorem bP.ax{h h':H}{n n' p:Nat}{S:List UInt8}{D A:Nat}(x:bP h n p S D A)(hn:n<=n')(hk:h'.get p=h.get p):bP h' n' p S D A:=⟨hk.trans x.get,mL x.lt hn,x.lo,x.hi,x.sm⟩
theorem bP.len{h:H}{n p:Nat}{S:List UInt8}{D A:Nat}(x:bP h n p S D A):(bR S D A).length=8*(D+S.length)-A:=by
 rw[Ua]
 have:=x.lo
 have:=x.hi
 omega
section
variable {lf d n p:Nat} {h:H} {S:List UInt8} {D A:Nat}
theorem adn(hs:S.length<=1000000000000):ah (fun _=>False) n (aq ai gt lf (d+1) 20 #[.string ⟨S.toArray⟩]) h n fun v h' n'=>v= .pointer (some ⟨n,0,none⟩)∧n'=n+1∧bP h' n' n S 0 0:=by
 rw[aD (fun _=>Pz) rfl]
 refine ah.aB ?_
 unfold HI
 try simp(disch:=first|omega|assumption|exact aa _) only[ag,ae,RZ,bk,bm,bp,bq,bt,bu,bx,bz,bA,bB]
 refine pL trivial _ _ ?_
 try simp(disch:=first|omega|assumption|exact aa _) only[ag,ae,RZ,bk,bm,bp,bq,bt,bu,bx,bz,bA,bB]
 exact⟨get_eq _ _ _,by omega,by omega,by omega,by omega⟩
theorem Ub(x:bP h n p S D A):ah (fun _=>False) n (aq ai gt lf (d+1) 51 #[.pointer (some ⟨p,0,none⟩)]) h n fun v h' n'=>v= .int .i64 ((8*(D+S.length):Nat):Int)∧h'=h∧n'=n:=by
 have g:=x.get
 have hp:=x.lt
 have hm:=x.sm
 unfold vo at g
 rw[aD (fun _=>P6) rfl]
 refine ah.aB ?_
 unfold HY
 have w1:IntKind.i64.wrap ((D:Int)+(S.length:Int))=((D+S.length:Nat):Int):=by rw[aV (by omega) (by omega)];omega
 have w2:IntKind.i64.wrap (8*((D+S.length:Nat):Int))=((8*(D+S.length):Nat):Int):=by rw[aV (by omega) (by omega)];omega
 try simp(disch:=first|omega|assumption|exact aa _) only[ag,ae,RZ,bk,bm,bp,bq,bt,bu,bx,bz,bA,bB,g,w1,w2]
theorem xu(x:bP h n p S D A):ah (fun _=>False) n (aq ai gt lf (d+1) 24 #[.pointer (some ⟨p,0,none⟩)]) h n fun v h' n'=>v= .int .i64 (A:Int)∧h'=h∧n'=n:=by
 have g:=x.get
 have hp:=x.lt
 unfold vo at g
 rw[aD (fun _=>PD) rfl]
 refine ah.aB ?_
 unfold HL
 try simp(disch:=first|omega|assumption|exact aa _) only[ag,ae,RZ,bk,bm,bp,bq,bt,bu,bx,bz,bA,bB,g]
theorem ado(x:bP h n p S D A):ah (fun _=>False) n (aq ai gt lf (d+2) 144 #[.pointer (some ⟨p,0,none⟩)]) h n fun v h' n'=>v= .int .i64 (((bR S D A).length:Nat):Int)∧h'=h∧n'=n:=by
 have g:=x.get
 have hp:=x.lt
 have hm:=x.sm
 have hl:=x.len
 have hi:=x.hi
 unfold vo at g
 rw[aD (fun _=>Si) rfl]
 refine ah.aB ?_
 unfold IV
 have w1:IntKind.i64.wrap (((8*(D+S.length):Nat):Int)-(A:Int))=(((bR S D A).length:Nat):Int):=by rw[aV (by omega) (by omega)];omega
 have c2:∀a b c:Value,[a,b,c][2]? =some c:=fun _ _ _=>rfl
 try simp(disch:=first|omega|assumption|exact aa _) only[ag,ae,RZ,bk,bm,bp,bq,bt,bu,bx,bz,bA,bB]
 refine TI aF (Ub x) (ak _) fun T1 t1=> ?_
 try simp(disch:=first|omega|assumption|exact aa _) only[ag,ae,RZ,bk,bm,bp,bq,bt,bu,bx,bz,bA,bB]
 refine Jy trivial _ _ _ g hp (c2 _ _ _) fun T2 t2=> ?_
 try simp(disch:=first|omega|assumption|exact aa _) only[ag,ae,RZ,bk,bm,bp,bq,bt,bu,bx,bz,bA,bB,w1,t1.g8 t2,gZ,mO,sC]
theorem zD(x:bP h n p S D A)(B:Nat)(h1:8*D<=B)(h2:B<=8*(D+S.length)):ah (fun c=>c=p) n (aq ai gt lf (d+2) 21 #[.pointer (some ⟨p,0,none⟩),.int .i64 (B:Int)]) h n fun v h' n'=>v= .int .i64 0∧n'=n∧bP h' n p S D B:=by
 have g:=x.get
 have hp:=x.lt
 have hm:=x.sm
 unfold vo at g
 rw[aD (fun _=>PA) rfl]
 refine ah.aB ?_
 unfold HJ
 have w1:IntKind.i64.wrap (8*(D:Int))=((8*D:Nat):Int):=by rw[aV (by omega) (by omega)];omega
 have e1:¬((B:Int)<((8*D:Nat):Int)):=by omega
 have e2:¬(((8*(D+S.length):Nat):Int)<(B:Int)):=by omega
 try simp(disch:=first|omega|assumption|exact aa _) only[ag,ae,RZ,bk,bm,bp,bq,bt,bu,bx,bz,bA,bB,g,w1,e1]
 refine bV (Ub x) (ak _) (fun _ _ h=>h.elim) ?_
 try simp(disch:=first|omega|assumption|exact aa _) only[ag,ae,RZ,bk,bm,bp,bq,bt,bu,bx,bz,bA,bB,e2,g]
 exact⟨get_eq _ _ _,hp,h1,h2,hm⟩
theorem adp(x:bP h n p S D A)(hA:A<8*(D+S.length)):∃b,(bR S D A)[0]? =some b∧ah (fun _=>False) n (aq ai gt lf (d+1) 145 #[.pointer (some ⟨p,0,none⟩),.int .i64 (A:Int)]) h n fun v h' n'=>v= .int .u32 (bn b:Int)∧h'=h∧n'=n:=by
 have g:=x.get
 have hp:=x.lt
 have hm:=x.sm
 have lo:=x.lo
 unfold vo at g
 have hq:A/8-D<S.length:=by omega
 have hr:A %8<8:=Nat.mod_lt _ (by decide)
 refine⟨decide (S[A/8-D].toNat/2^(7-A %8)%2=1), ?_, ?_⟩
 ·have:=T9 S (A/8-D) (A %8) hq hr
  unfold bR
  rw[List.getElem?_drop,mN,show A-8*D=8*(A/8-D)+A %8 by omega]
  exact this
 rw[aD (fun _=>Sj) rfl]
 refine ah.aB ?_
 unfold IW
 have w1:((A:Int)).tdiv 8=((A/8:Nat):Int):=rfl
 have w2:IntKind.i64.wrap ((A/8:Nat):Int)=((A/8:Nat):Int):=aV (by omega) (by omega)
 have w3:IntKind.i64.wrap (((A/8:Nat):Int)-(D:Int))=((A/8-D:Nat):Int):=by rw[aV (by omega) (by omega)];omega
 have w4:((A:Int)).tmod 8=((A %8:Nat):Int):=rfl
 have w5:IntKind.i64.wrap (7-((A %8:Nat):Int))=((7-A %8:Nat):Int):=by rw[aV (by omega) (by omega)];omega
 have w6:(0:Int)<=((7-A %8:Nat):Int):=by omega
 have sb:S.getD (A/8-D) 0=S[A/8-D]:=by rw[aC,aR hq];rfl
 have adq:S[A/8-D].toNat<256:=S[A/8-D].toNat_lt
 have w7:=fdiv_pow S[A/8-D].toNat (7-A %8) (IntKind.u8).bits (by simp[IntKind.bits];omega)
 rw[o0]at w7
 have w8':=adj (a:=S[A/8-D].toNat/2^(7-A %8)) (Nat.lt_of_le_of_lt (Nat.div_le_self _ _) adq)
 have w9:IntKind.u32.wrap ((S[A/8-D].toNat/2^(7-A %8)%2:Nat):Int)=(bn (decide (S[A/8-D].toNat/2^(7-A %8)%2=1)):Int):=by rw[JB];exact qZ (by omega)
 have i1:(0:Int)<=((A/8-D:Nat):Int):=by omega
 have i2:((A/8-D:Nat):Int)<(S.length:Int):=by omega
 try simp(disch:=first|omega|assumption|exact aa _) only[ag,ae,RZ,bk,bm,bp,bq,bt,bu,bx,bz,bA,bB,g,w1,w2,w3,w4,w5,w6,i1,i2,sb,w7,w8',w9]
theorem xw(x:bP h n p S D A)(k:Nat)(hk:k<=32)(aw:40<=lf):ah (fun c=>c=p) n (aq ai gt lf (d+3) 136 #[.pointer (some ⟨p,0,none⟩),.int .i64 (k:Int)]) h n fun v h' n'=>n'=n∧
 (((bR S D A).length<k∧v= .tuple #[.int .u32 0,.int .i64 3]∧h'=h)∨(k<=(bR S D A).length∧v= .tuple #[.int .u32 (num ((bR S D A).take k) 0:Int),.int .i64 0]∧bP h' n p S D (A+k))):=by
 have g:=x.get
 have hp:=x.lt
 have hm:=x.sm
 have hl:=x.len
 have hi:=x.hi
 have lo:=x.lo
 rw[aD (fun _=>R4) rfl]
 refine ah.aB ?_
 unfold Dq
 have e1:¬((k:Int)<0):=by omega
 have e2:¬((32:Int)<(k:Int)):=by omega
 try simp(disch:=first|omega|assumption|exact aa _) only[ag,ae,RZ,bk,bm,bp,bq,bt,bu,bx,bz,bA,bB,e1,e2]
 refine bV (ado x) (ak _) (fun _ _ h=>h.elim) ?_
 by_cases short:(bR S D A).length<k
 ·have e3:(((bR S D A).length:Nat):Int)<(k:Int):=by omega
  try simp(disch:=first|omega|assumption|exact aa _) only[ag,ae,RZ,bk,bm,bp,bq,bt,bu,bx,bz,bA,bB,e3]
  first|exact .inl short|exact .inl ⟨short,rfl,rfl⟩
 have e3:¬(((bR S D A).length:Nat):Int)<(k:Int):=by omega
 try simp(disch:=first|omega|assumption|exact aa _) only[ag,ae,RZ,bk,bm,bp,bq,bt,bu,bx,bz,bA,bB,e3]
 refine iq k (fun fu i (q:Nat)=>uY lf (aq ai gt lf (d+2)) fu (Dp lf (aq ai gt lf (d+2))) (.pointer (some ⟨p,0,none⟩)) (.int .i64 (k:Int)) (.int .u32 0) (.int .i64 0) (.int .u32 (q:Int)) (.bool false) (.bool false) (.bool false) (.int .i64 (k:Int)) (.int .i64 (i:Int)))
  (fun i q h' n'=>n'=n∧q=num ((bR S D A).take i) 0∧bP h' n p S D (A+i)) ?_ ?_ lf 0 0 h n (cb _) (by omega) ⟨rfl,rfl,x⟩
 ·rintro fu q h' n' ⟨rfl,rfl,x'⟩
  rw[uY]
  try simp(disch:=first|omega|assumption|exact aa _) only[ag,ae,RZ,bk,bm,bp,bq,bt,bu,bx,bz,bA,bB,c9]
  (try unfold Dp);(try dsimp only)
  try simp(disch:=first|omega|assumption|exact aa _) only[ag,ae,RZ,bk,bm,bp,bq,bt,bu,bx,bz,bA,bB]
  exact .inr ⟨by omega,x'⟩
 ·rintro fu i q h' n' m9 ⟨rfl,rfl,x'⟩ next
  have e4:(i:Int)<(k:Int):=by omega
  have g':=x'.get
  unfold vo at g'
  obtain⟨b,hb,iD⟩:=adp (lf:=lf) (d:=d+1) x' (by omega)
  have ql:=oK ((bR S D A).take i)
  rw[dW,nR (by omega)]at ql
  have q31:2^i<=2^31:=rC (by decide) (by omega)
  have w1:=adm (a:=num ((bR S D A).take i) 0) (by omega)
  have w2:=adk (a:=num ((bR S D A).take i) 0) b (by omega)
  rw[<-zC (k:=i) lo]at hb
  have tk:=take_one hb
  have w3:IntKind.i64.wrap (((A+i:Nat):Int)+1)=((A+(i+1):Nat):Int):=by rw[aV (by omega) (by omega)];omega
  have w4:((A+i:Nat):Int)+1=((A+(i+1):Nat):Int):=by omega
  rw[uY]
  try simp(disch:=first|omega|assumption|exact aa _) only[ag,ae,RZ,bk,bm,bp,bq,bt,bu,bx,bz,bA,bB,e4,w1,g']
  refine bV iD (ak _) (fun _ _ h=>h.elim) ?_
  try simp(disch:=first|omega|assumption|exact aa _) only[ag,ae,RZ,bk,bm,bp,bq,bt,bu,bx,bz,bA,bB,w2,g',w3,w4,true_or,or_true]
  refine next (2*num ((bR S D A).take i) 0+bn b) _ _ ⟨rfl,by rw[tk,JE],get_eq _ _ _,hp,by omega,by omega,hm⟩
end
end Go.Proofs.YtdagfcflbphoiaaGreatDoor
namespace Go.Proofs.YtdagfcflbphoiaaGreatDoor
open Hu
def wt(n k:Nat)(t:HT):List Nat:=t.leaves++rq t.aS (n+k-t.aS)
structure zE (n k:Nat) (last:Int) (t:HT):Prop where
 ls:t.leaves.Pairwise (RI (bg t))
 js:∀i j,n<=i->i<=j->j<n+k->bg t i<=bg t j
 mx:∀i,n<=i->i<n+k->bg t i<=2*last
 lo:∀x∈wt n k t,last<=bg t x
 l0:0<=last
theorem vq(t:HT):bg (taken t)=bg t:=by
 unfold taken
 split<;>rfl
theorem Uc{n k:Nat}{P:List Nat}{S last:Int}{t:HT}(h:ik n k P S t)(s:zE n k last t)(h1:1<=t.leaves.length+(n+k-t.aS)):
 (wt n k t).Perm (Hu.cO t::wt n k (taken t))∧(∀x∈wt n k (taken t),RI (bg t) (Hu.cO t) x)∧zE n k (bg t (Hu.cO t)) (taken t)∧last<=bg t (Hu.cO t):=by
 have key:(wt n k t).Perm (Hu.cO t::wt n k (taken t))∧(∀x∈wt n k (taken t),RI (bg t) (Hu.cO t) x)∧(taken t).leaves.Pairwise (RI (bg t)):=by
  cases hl:gN t with
  |true=>
   obtain⟨r,e1,e2,e3⟩:=Jb h h1 hl
   have vr:=s.ls
   generalize Hu.cO t=a at*
   rw[e1,Lv]at vr
   rw[e2]
   refine⟨by unfold wt;rw[e1];exact .refl _,fun x hx=> ?_,vr.2⟩
   unfold wt at hx
   rcases List.mem_append.1 hx with h2|h2
   ·exact vr.1 x h2
   ·have h2:=List.mem_range'_1.1 h2
    have h2:t.aS<=x∧x<t.aS+(n+k-t.aS):=h2
    have eQ:=h.jl
    unfold gN at hl
    rw[Bool.or_eq_true,beq_iff_eq,bZ,decide_eq_true_iff,decide_eq_true_iff]at hl
    rcases hl with hl|⟨_,hl⟩
    ·have:=h.wl;omega
    ·have e4:t.leaves.getD 0 0=a:=by rw[e1];rfl
     rw[e4]at hl
     have:=s.js t.aS x eQ h2.1 (by omega)
     unfold RI
     omega
  |false=>
   obtain⟨e1,e2,e3⟩:=SV h hl
   rw[e3,e1]
   have eQ:=h.jl
   refine⟨?_,fun x hx=> ?_,s.ls⟩
   ·unfold wt
    obtain⟨d,hd⟩:∃d,n+k-t.aS=d+1:=⟨n+k-t.aS-1,by omega⟩
    rw[hd,List.range'_succ]
    show(t.leaves++t.aS::rq (t.aS+1) d).Perm (t.aS::(t.leaves++rq (t.aS+1) (n+k-(t.aS+1))))
    rw[show n+k-(t.aS+1)=d by omega]
    exact List.perm_middle
   ·unfold wt at hx
    rcases List.mem_append.1 hx with h2|h2
    ·have h2:x∈t.leaves:=h2
     have h0:0<t.leaves.length:=List.length_pos_of_mem h2
     unfold gN at hl
     rw[vH,Bool.and_eq_false_iff]at hl
     have bf:¬bg t (t.leaves.getD 0 0)<=bg t t.aS:=by
      rcases hl.2 with q|q
      ·simp only[h0,decide_true]at q;cases q
      ·exact of_decide_eq_false q
     obtain⟨y,r,e⟩:=List.exists_cons_of_length_pos h0
     have vr:=s.ls
     rw[e]at h2 vr bf
     rw[Lv]at vr
     have bf:¬bg t y<=bg t t.aS:=bf
     rcases List.mem_cons.1 h2 with q|q
     ·subst q;unfold RI;omega
     ·have:=vr.1 x q
      unfold RI at this⊢
      omega
    ·have h2:=List.mem_range'_1.1 h2
     have h2:t.aS+1<=x∧x<t.aS+1+(n+k-(t.aS+1)):=h2
     have:=s.js t.aS x eQ (by omega) (by omega)
     unfold RI
     omega
 obtain⟨k1,k2,k3⟩:=key
 have j8:last<=bg t (Hu.cO t):=s.lo _ (k1.mem_iff.2 (by simp))
 refine⟨k1,k2,⟨by rw[vq];exact k3,by rw[vq];exact s.js,fun i h2 h3=>by rw[vq];have:=s.mx i h2 h3;omega,fun x hx=> ?_,by have:=s.l0;omega⟩,j8⟩
 rw[vq]
 have:=k2 x hx
 unfold RI at this
 omega
theorem adr{n k:Nat}{P:List Nat}{S:Int}{t:HT}(h:ik n k P S t)(a b:Nat):(∀i,i<n+k->bg (je t a b) i=bg t i)∧bg (je t a b) (n+k)=bg t a+bg t b:=by
 refine⟨fun i hi=>DG _ _ _ (by rw[h.wl];exact hi), ?_⟩
 unfold bg je
 rw[aC,nO (by rw[h.wl];exact ak _),h.wl,nT]
 rfl
theorem Ud{n k:Nat}{P:List Nat}{S:Int}{t:HT}(h:ik n k P S t):∀x∈wt n k t,x<n+k:=fun x hx=>by
 unfold wt at hx
 rcases List.mem_append.1 hx with h2|h2
 ·have:=h.leaf x h2;omega
 ·have:=List.mem_range'_1.1 h2;have:=h.jh;omega
structure Step (n k:Nat) (a b:Nat) (r:List Nat) (t t':HT):Prop where
 perm:(wt n k t).Perm (a::b::r)
 next:(wt n (k+1) t').Perm ((n+k)::r)
 old:∀i,i<n+k->bg t' i=bg t i
 new:bg t' (n+k)=bg t a+bg t b
 mA:∀x∈b::r,RI (bg t) a x
 mB:∀x∈r,RI (bg t) b x
 ia:t'.bj.getD a 0=((n+k:Nat):Int)
 ib:t'.bj.getD b 0=((n+k:Nat):Int)
 io:∀i,i<n+k->i∉wt n k t->t'.bj.getD i 0=t.bj.getD i 0
theorem Ue{n k:Nat}{S last:Int}{t:HT}(h:ik n k [] S t)(s:zE n k last t)(hk:k+2<=n):∃D4,zE n (k+1) D4 (qS t)∧Step n k (Hu.cO t) (Hu.cO (taken t)) (wt n k (taken (taken t))) t (qS t):=by
 obtain⟨h1,a1,h2,a2,h3,_⟩:=Jt h hk
 have hl:=h.left
 have qQ:=h1.left
 simp only[cu,List.length_nil]at hl qQ
 obtain⟨p1,m1,s1,q1⟩:=Uc h s (by omega)
 obtain⟨p2,m2,s2,q2⟩:=Uc h1 s1 (by omega)
 rw[vq]at m2 s2 q2
 have w2:bg (taken (taken t))=bg t:=by rw[vq,vq]
 unfold qS at h3⊢
 generalize Hu.cO t=a at*
 generalize Hu.cO (taken t)=b at*
 obtain⟨jo,jn⟩:=adr h2 a b
 rw[w2]at jo jn
 have hjh:=h2.jh
 have eQ:=h2.jl
 have nx:wt n (k+1) (je (taken (taken t)) a b)=wt n k (taken (taken t))++[n+k]:=by
  unfold wt
  show(taken (taken t)).leaves++rq (taken (taken t)).aS (n+(k+1)-(taken (taken t)).aS)=_
  rw[show n+(k+1)-(taken (taken t)).aS=(n+k-(taken (taken t)).aS)+1 by omega,List.range'_concat,<-cE]
  rw[show(taken (taken t)).aS+1*(n+k-(taken (taken t)).aS)=n+k by omega]
 have nY:b∈wt n k (taken t):=p2.mem_iff.2 (by simp)
 have pI:=fun i hi=>(h.pos i hi).1
 have pa:=pI a a1
 have oh:=s.l0
 refine⟨bg t b,⟨?_,fun i j hi hH hj=> ?_,fun i hi hj=> ?_,fun x hx=> ?_,by omega⟩,⟨p1.trans (p2.cons a),by rw[nx];exact List.perm_append_singleton _ _,jo,jn,fun x hx=>m1 x (p2.mem_iff.2 hx),m2, ?_, ?_,fun i hi hn=> ?_⟩⟩
 ·have hp:=s2.ls
  rw[w2]at hp
  refine hp.imp_of_mem (S:=RI (bg (je (taken (taken t)) a b))) fun{x y} hx hy hr=> ?_
  have:=h2.leaf x hx
  have:=h2.leaf y hy
  unfold RI at hr⊢
  rw[jo x (by omega),jo y (by omega)]
  exact hr
 ·by_cases e:j<n+k
  ·rw[jo i (by omega),jo j e]
   exact s.js i j hi hH e
  ·obtain rfl:j=n+k:=by omega
   by_cases e2:i<n+k
   ·rw[jo i e2,jn]
    have:=s.mx i hi e2
    omega
   ·obtain rfl:i=n+k:=by omega
    omega
 ·by_cases e:i<n+k
  ·rw[jo i e]
   have:=s.mx i hi e
   omega
  ·obtain rfl:i=n+k:=by omega
   rw[jn]
   omega
 ·rw[nx]at hx
  rcases List.mem_append.1 hx with q|q
  ·rw[jo x (Ud h2 x q)]
   have:=m2 x q
   unfold RI at this
   omega
  ·obtain rfl:x=n+k:=by simpa using q
   rw[jn]
   omega
 all_goals
  have e1:∀i,i<n+k->(je (taken (taken t)) a b).bj.getD i 0=if i=b then((n+k:Nat):Int)else if i=a then((n+k:Nat):Int)else t.bj.getD i 0:=fun i hi=>by
   have il:(taken (taken t)).bj.length=n+k:=h2.il
   have ti:(taken (taken t)).bj=t.bj:=by unfold taken;split<;>split<;>rfl
   unfold je
   simp only
   rw[DG _ _ _ (by simp[il];exact hi),qT,qT,h2.wl,ti]
   rw[ti]at il
   simp only[rz,il]
   by_cases eb:i=b
   ·subst eb;simp[hi]
   ·by_cases ea:i=a
    ·subst ea;simp[hi,eb,Ne.symm eb]
    ·simp[ea,eb,Ne.symm ea,Ne.symm eb]
 ·rw[e1 a a1];split<;>simp
 ·rw[e1 b a2,if_pos rfl]
 ·have hb:b∈wt n k t:=p1.mem_iff.2 (by simp[nY])
  have ha:a∈wt n k t:=p1.mem_iff.2 (by simp)
  rw[e1 i hi,if_neg (fun e=>hn (by rw[e];exact hb)),if_neg (fun e=>hn (by rw[e];exact ha))]
theorem Uf{ws:List Int}{D:List Nat}(hN:2<=ws.length)(hp:D.Perm (cN ws.length))(hs:D.Pairwise (RI (aP ws)))(hw:∀x∈ws,0<=x):∀k,k+1<=ws.length->ik ws.length k [] (bO ws) (dm k (Start ws D))∧∃last,zE ws.length k last (dm k (Start ws D)):=by
 intro k
 induction k with
 |zero=>
  intro _
  have h0:=Ty hp hw rfl
  refine⟨h0,0,hs,fun i j h1 h2 h3=>by omega,fun i h1 h2=>by omega,fun x hx=>(h0.pos x (Ud h0 x hx)).1,Int.le_refl _⟩
 |succ k ih=>
  intro hk
  obtain⟨h,last,s⟩:=ih (by omega)
  rw[wZ]
  obtain⟨D4,s',_⟩:=Ue h s hk
  exact⟨(Jt h hk).2.2.2.2.1,D4,s'⟩
theorem ads{ws:List Int}{D:List Nat}(hN:2<=ws.length)(hp:D.Perm (cN ws.length))(hs:D.Pairwise (RI (aP ws)))(hw:∀x∈ws,0<=x)(k:Nat)(hk:k+2<=ws.length):
 Step ws.length k (Hu.cO (dm k (Start ws D))) (Hu.cO (taken (dm k (Start ws D)))) (wt ws.length k (taken (taken (dm k (Start ws D))))) (dm k (Start ws D)) (dm (k+1) (Start ws D)):=by
 obtain⟨h,last,s⟩:=Uf hN hp hs hw k (by omega)
 obtain⟨D4,_,r⟩:=Ue h s hk
 rw[wZ]
 exact r
structure dC (N:Nat) (w:Nat->Int) (I:Nat->Nat) (A B:Nat->Nat) (X R:Nat->List Nat):Prop where
 two:2<=N
 x0:(X 0).Perm (cN N)
 st:∀k,k+2<=N->(X k).Perm (A k::B k::R k)
 nx:∀k,k+2<=N->(X (k+1)).Perm ((N+k)::R k)
 wn:∀k,k+2<=N->w (N+k)=w (A k)+w (B k)
 ia:∀k,k+2<=N->I (A k)=N+k
 ib:∀k,k+2<=N->I (B k)=N+k
 mA:∀k,k+2<=N->∀x∈B k::R k,RI w (A k) x
 mB:∀k,k+2<=N->∀x∈R k,RI w (B k) x
 mono:∀i j,N<=i->i<=j->j<=2*N-2->w i<=w j
 pos:∀i,i<=2*N-2->0<=w i
section
variable {N:Nat} {X R:Nat->List Nat} {A B:Nat->Nat}
theorem JN(x0:(X 0).Perm (cN N))(st:∀k,k+2<=N->(X k).Perm (A k::B k::R k))(nx:∀k,k+2<=N->(X (k+1)).Perm ((N+k)::R k)):∀k,k+1<=N->(∀x∈X k,x<N+k)∧(X k).Nodup∧(X k).length=N-k:=by
 intro k
 induction k with
 |zero=>
  intro _
  exact⟨fun x hx=>by have:=List.mem_range.1 (x0.mem_iff.1 hx);omega,x0.nodup_iff.2 List.nodup_range,by rw[x0.length_eq,List.length_range];omega⟩
 |succ k ih=>
  intro hk
  obtain⟨h1,h2,h3⟩:=ih (by omega)
  have p:=st k hk
  have q:=nx k hk
  have hr:∀x∈R k,x∈X k:=fun x hx=>p.mem_iff.2 (by simp[hx])
  have pj:=p.nodup_iff.1 h2
  refine⟨fun x hx=> ?_,q.nodup_iff.2 (ah_.2 ⟨fun hm=> ?_,(ah_.1 (ah_.1 pj).2).2⟩), ?_⟩
  ·rcases List.mem_cons.1 (q.mem_iff.1 hx)with e|e
   ·omega
   ·have:=h1 x (hr x e);omega
  ·have:=h1 _ (hr _ hm);omega
  ·have l1:=p.length_eq
   have l2:=q.length_eq
   simp only[cu]at l1 l2
   omega
end
theorem adt{ws:List Int}{D:List Nat}(hN:2<=ws.length)(hp:D.Perm (cN ws.length))(hs:D.Pairwise (RI (aP ws)))(hw:∀x∈ws,0<=x):∃A B X R,dC ws.length (bg (fW ws D)) (fun i=>((fW ws D).bj.getD i 0).toNat) A B X R∧∀i,i<ws.length->bg (fW ws D) i=ws.getD i 0:=by
 have all:=Uf hN hp hs hw
 have jg:=ads hN hp hs hw
 have Ug:∀d k,k+d+1=ws.length->∀i,i<ws.length+k->bg (fW ws D) i=bg (dm k (Start ws D)) i:=by
  intro d
  induction d with
  |zero=>
   intro k hk i hi
   unfold fW
   rw[show ws.length-1=k by omega]
  |succ d ih=>
   intro k hk i hi
   rw[ih (k+1) (by omega) i (by omega)]
   exact(jg k (by omega)).old i hi
 have x0:(wt ws.length 0 (dm 0 (Start ws D))).Perm (cN ws.length):=by
  show(D++rq ws.length (ws.length+0-ws.length)).Perm _
  rw[mN,nT,List.range'_zero,dF]
  exact hp
 have xl:=JN (X:=fun k=>wt ws.length k (dm k (Start ws D))) (R:=fun k=>wt ws.length k (taken (taken (dm k (Start ws D))))) (A:=fun k=>Hu.cO (dm k (Start ws D))) (B:=fun k=>Hu.cO (taken (dm k (Start ws D)))) x0 (fun k hk=>(jg k hk).perm) (fun k hk=>(jg k hk).next)
 have Uh:∀d k,k+d+1=ws.length->∀i,i<ws.length+k->i∉wt ws.length k (dm k (Start ws D))->(fW ws D).bj.getD i 0=(dm k (Start ws D)).bj.getD i 0:=by
  intro d
  induction d with
  |zero=>
   intro k hk i hi _
   unfold fW
   rw[show ws.length-1=k by omega]
  |succ d ih=>
   intro k hk i hi hn
   have s:=jg k (by omega)
   rw[ih (k+1) (by omega) i (by omega) (fun hm=> ?_)]
   ·exact s.io i hi hn
   ·rcases List.mem_cons.1 (s.next.mem_iff.1 hm)with e|e
    ·omega
    ·exact hn (s.perm.mem_iff.2 (by simp[e]))
 have zF:∀k,k+2<=ws.length->Hu.cO (dm k (Start ws D))<ws.length+k∧Hu.cO (taken (dm k (Start ws D)))<ws.length+k∧Hu.cO (dm k (Start ws D))∉wt ws.length (k+1) (dm (k+1) (Start ws D))∧Hu.cO (taken (dm k (Start ws D)))∉wt ws.length (k+1) (dm (k+1) (Start ws D)):=by
  intro k hk
  have s:=jg k hk
  obtain⟨l1,l2,_⟩:=xl k (by omega)
  have la:=l1 (Hu.cO (dm k (Start ws D))) (s.perm.mem_iff.2 (by simp))
  have lb:=l1 (Hu.cO (taken (dm k (Start ws D)))) (s.perm.mem_iff.2 (by simp))
  have pj:=s.perm.nodup_iff.1 l2
  rw[ah_,ah_]at pj
  refine⟨la,lb,fun hm=> ?_,fun hm=> ?_⟩
  ·rcases List.mem_cons.1 (s.next.mem_iff.1 hm)with e|e
   ·omega
   ·exact pj.1 (by simp[e])
  ·rcases List.mem_cons.1 (s.next.mem_iff.1 hm)with e|e
   ·omega
   ·exact pj.2.1 e
 have wk:∀k,k+2<=ws.length->∀i,i<ws.length+k->bg (fW ws D) i=bg (dm k (Start ws D)) i:=fun k hk=>Ug (ws.length-1-k) k (by omega)
 refine⟨fun k=>Hu.cO (dm k (Start ws D)),fun k=>Hu.cO (taken (dm k (Start ws D))),fun k=>wt ws.length k (dm k (Start ws D)),fun k=>wt ws.length k (taken (taken (dm k (Start ws D)))),⟨hN,x0,fun k hk=>(jg k hk).perm,fun k hk=>(jg k hk).next,fun k hk=> ?_,fun k hk=> ?_,fun k hk=> ?_,fun k hk x hx=> ?_,fun k hk x hx=> ?_,fun i j h1 h2 h3=> ?_,fun i hi=> ?_⟩,fun i hi=> ?_⟩
 ·obtain⟨la,lb,_⟩:=zF k hk
  rw[Ug (ws.length-1-(k+1)) (k+1) (by omega) _ (by omega),(jg k hk).new,wk k hk _ la,wk k hk _ lb]
 ·obtain⟨la,lb,na,nb⟩:=zF k hk
  show((fW ws D).bj.getD _ 0).toNat=_
  rw[Uh (ws.length-1-(k+1)) (k+1) (by omega) _ (by omega) na,(jg k hk).ia]
  omega
 ·obtain⟨la,lb,na,nb⟩:=zF k hk
  show((fW ws D).bj.getD _ 0).toNat=_
  rw[Uh (ws.length-1-(k+1)) (k+1) (by omega) _ (by omega) nb,(jg k hk).ib]
  omega
 ·obtain⟨la,lb,na,nb⟩:=zF k hk
  have:=(jg k hk).mA x hx
  have cA:=(xl k (by omega)).1 x ((jg k hk).perm.mem_iff.2 (lG _ hx))
  unfold RI at this⊢
  rw[wk k hk _ la,wk k hk _ cA]
  exact this
 ·obtain⟨la,lb,na,nb⟩:=zF k hk
  have:=(jg k hk).mB x hx
  have cA:=(xl k (by omega)).1 x ((jg k hk).perm.mem_iff.2 (lG _ (lG _ hx)))
  unfold RI at this⊢
  rw[wk k hk _ lb,wk k hk _ cA]
  exact this
 ·obtain⟨h,last,s⟩:=all (ws.length-1) (by omega)
  exact s.js i j h1 h2 (by omega)
 ·obtain⟨h,last,s⟩:=all (ws.length-1) (by omega)
  exact(h.pos i (by omega)).1
 ·rw[wk 0 (by omega) i (by omega)]
  rfl
theorem D5{a b:List Int}(h:a.Perm b):bO a=bO b:=by
 induction h with
 |nil=>rfl
 |cons x _ ih=>simp only[bO,ih]
 |swap x y l=>simp only[bO];omega
 |trans _ _ Js yP=>exact Js.trans yP
section
variable {N:Nat} {w:Nat->Int} {I A B:Nat->Nat} {X R:Nat->List Nat}
theorem dC.lt(m:dC N w I A B X R){k:Nat}(hk:k+1<=N){x:Nat}(hx:x∈X k):x<N+k:=(JN m.x0 m.st m.nx k hk).1 x hx
theorem dC.len(m:dC N w I A B X R){k:Nat}(hk:k+1<=N):(X k).length=N-k:=(JN m.x0 m.st m.nx k hk).2.2
theorem dC.last(m:dC N w I A B X R):X (N-1)=[2*N-2]:=by
 have hN:=m.two
 have hl:=m.len (k:=N-1) (by omega)
 have hx:2*N-2∈X (N-1):=by
  have:=m.nx (N-2) (by omega)
  rw[show N-2+1=N-1 by omega]at this
  exact this.mem_iff.2 (by rw[show N+(N-2)=2*N-2 by omega];simp)
 obtain⟨y,hy⟩:=List.length_eq_one_iff.1 (show(X (N-1)).length=1 by omega)
 rw[hy]at hx⊢
 rw[List.mem_singleton.1 hx]
theorem dC.aX(m:dC N w I A B X R){k:Nat}(hk:k+2<=N):A k∈X k∧B k∈X k∧(∀x∈R k,x∈X k)∧(∀x∈R k,x∈X (k+1))∧N+k∈X (k+1):=by
 have p:=m.st k hk
 have q:=m.nx k hk
 exact⟨p.mem_iff.2 (by simp),p.mem_iff.2 (by simp),fun x hx=>p.mem_iff.2 (by simp[hx]),fun x hx=>q.mem_iff.2 (by simp[hx]),q.mem_iff.2 (by simp)⟩
theorem dC.Ui(m:dC N w I A B X R):∀k,k+1<=N->∀p,p<N+k->p∈X k∨I p<N+k:=by
 intro k
 induction k with
 |zero=>intro _ p hp;exact .inl (m.x0.mem_iff.2 (List.mem_range.2 (by omega)))
 |succ k ih=>
  intro hk p hp
  obtain⟨h1,h2,h3,h4,h5⟩:=m.aX hk
  by_cases e:p=N+k
  ·exact .inl (by rw[e];exact h5)
  ·rcases ih (by omega) p (by omega)with q|q
   ·rcases List.mem_cons.1 ((m.st k hk).mem_iff.1 q)with r|r
    ·right;rw[r,m.ia k hk];omega
    ·rcases List.mem_cons.1 r with r|r
     ·right;rw[r,m.ib k hk];omega
     ·exact .inl (h4 p r)
   ·right;omega
theorem dC.ge(m:dC N w I A B X R):∀d k,k+d+1=N->∀x∈X k,x=2*N-2∨N+k<=I x:=by
 intro d
 induction d with
 |zero=>
  intro k hk x hx
  have:=m.last
  rw[show N-1=k by omega]at this
  rw[this]at hx
  exact .inl (List.mem_singleton.1 hx)
 |succ d ih=>
  intro k hk x hx
  have b8:k+2<=N:=by omega
  rcases List.mem_cons.1 ((m.st k b8).mem_iff.1 hx)with r|r
  ·right;rw[r,m.ia k b8];exact ak _
  ·rcases List.mem_cons.1 r with r|r
   ·right;rw[r,m.ib k b8];exact ak _
   ·rcases ih (k+1) (by omega) x ((m.aX b8).2.2.2.1 x r)with q|q
    ·exact .inl q
    ·right;omega
theorem dC.JO(m:dC N w I A B X R){k:Nat}(hk:k+1<=N){x:Nat}(hx:x∈X k)(hr:x≠2*N-2):N+k<=I x:=(m.ge (N-1-k) k (by omega) x hx).resolve_left hr
theorem dC.up(m:dC N w I A B X R){i:Nat}(hi:i<2*N-2):i<I i∧I i<=2*N-2∧N<=I i:=by
 have hN:=m.two
 have h1:I i<=2*N-2:=by
  rcases m.Ui (N-1) (by omega) i (by omega)with q|q
  ·rw[m.last]at q
   have:=List.mem_singleton.1 q
   omega
  ·omega
 by_cases hl:i<N
 ·have:=m.JO (k:=0) (by omega) (m.x0.mem_iff.2 (List.mem_range.2 hl)) (by omega)
  omega
 ·have:=m.JO (k:=i-N+1) (by omega) (x:=i) (by have:=(m.aX (k:=i-N) (by omega)).2.2.2.2;rwa[show N+(i-N)=i by omega]at this) (by omega)
  omega
theorem dC.inv(m:dC N w I A B X R){q k:Nat}(hk:k+2<=N)(hq:q<2*N-2)(h:I q=N+k):q∈X k∧(q=A k∨q=B k):=by
 have hu:=(m.up hq).1
 have h1:q∈X k:=by
  rcases m.Ui k (by omega) q (by omega)with r|r
  ·exact r
  ·omega
 refine⟨h1, ?_⟩
 rcases List.mem_cons.1 ((m.st k hk).mem_iff.1 h1)with r|r
 ·exact .inl r
 ·rcases List.mem_cons.1 r with r|r
  ·exact .inr r
  ·have:=m.JO (k:=k+1) (by omega) ((m.aX hk).2.2.2.1 q r) (by omega)
   omega
theorem dC.Uj(m:dC N w I A B X R){dep:Nat->Nat}(d0:dep (2*N-2)=0)(d1:∀i,i<2*N-2->dep i=dep (I i)+1):∀f i,2*N-2-i<=f->i<=2*N-2->dep i<=2*N-2-i:=by
 intro f
 induction f with
 |zero=>intro i h1 h2;obtain rfl:i=2*N-2:=by omega
        rw[d0];omega
 |succ f ih=>
  intro i h1 h2
  by_cases e:i=2*N-2
  ·rw[e,d0];omega
  ·have u:=m.up (show i<2*N-2 by omega)
   have:=ih (I i) (by omega) (by omega)
   rw[d1 i (by omega)]
   omega
theorem dC.keeps(m:dC N w I A B X R)(f:Nat->Int)(hf:∀k,k+2<=N->f (A k)+f (B k)=f (N+k)):∀k,k+1<=N->bO ((X k).map f)=f (2*N-2):=by
 have hN:=m.two
 have:∀d k,k+d+1=N->bO ((X k).map f)=f (2*N-2):=by
  intro d
  induction d with
  |zero=>
   intro k hk
   have:=m.last
   rw[show N-1=k by omega]at this
   rw[this]
   simp[bO]
  |succ d ih=>
   intro k hk
   have b8:k+2<=N:=by omega
   have h1:=ih (k+1) (by omega)
   rw[D5 ((m.nx k b8).map f)]at h1
   rw[D5 ((m.st k b8).map f)]
   simp only[Ay,bO]at h1⊢
   have:=hf k b8
   omega
 exact fun k hk=>this (N-1-k) k (by omega)
theorem dC.zG(m:dC N w I A B X R){k:Nat}(hk:k+2<=N):A k<2*N-2∧B k<2*N-2:=by
 have h:=m.aX hk
 have:=m.lt (by omega) h.1
 have:=m.lt (by omega) h.2.1
 omega
theorem dC.adu(m:dC N w I A B X R){dep:Nat->Nat}(d1:∀i,i<2*N-2->dep i=dep (I i)+1){k:Nat}(hk:k+2<=N):dep (A k)=dep (N+k)+1∧dep (B k)=dep (N+k)+1:=by
 have h:=m.zG hk
 rw[d1 _ h.1,d1 _ h.2,m.ia k hk,m.ib k hk]
 exact⟨rfl,rfl⟩
theorem dC.adv(m:dC N w I A B X R){dep:Nat->Nat}(d0:dep (2*N-2)=0)(d1:∀i,i<2*N-2->dep i=dep (I i)+1)(M:Nat)(hM:2*N<=M):bO ((cN N).map fun i=>(2:Int)^(M-dep i))=2^M:=by
 have hN:=m.two
 have h:=m.keeps (fun i=>(2:Int)^(M-dep i)) (fun k hk=>by
  obtain⟨e1,e2⟩:=m.adu d1 hk
  have hb:=m.Uj d0 d1 (2*N) (N+k) (by omega) (by omega)
  show(2:Int)^(M-dep (A k))+2^(M-dep (B k))=2^(M-dep (N+k))
  rw[e1,e2,show M-dep (N+k)=(M-(dep (N+k)+1))+1 by omega,ahT]
  omega) 0 (by omega)
 rw[D5 (m.x0.map _),d0]at h
 exact h
theorem dC.root(m:dC N w I A B X R):bO ((cN N).map w)=w (2*N-2):=by
 have hN:=m.two
 have h:=m.keeps w (fun k hk=>(m.wn k hk).symm) 0 (by omega)
 rw[D5 (m.x0.map _)]at h
 exact h
theorem dC.adw(m:dC N w I A B X R){c:Int}(h0:0<=c):∀d k,(∀x∈X k,c<=w x)->k+d+1<=N->∀x∈X (k+d),c<=w x:=by
 intro d
 induction d with
 |zero=>intro k h _;exact h
 |succ d ih=>
  intro k h hk x hx
  have p:=ih k h (by omega)
  have b8:(k+d)+2<=N:=by omega
  have a:=m.aX b8
  rcases List.mem_cons.1 ((m.nx (k+d) b8).mem_iff.1 hx)with e|e
  ·rw[e,m.wn _ b8]
   have:=p _ a.1
   have:=p _ a.2.1
   omega
  ·exact p x (a.2.2.1 x e)
theorem dC.adx(m:dC N w I A B X R){x:Nat}(hx:x<2*N-2)(cA:I x<2*N-2):w x<=w (I x)∧2*w x<=w (I (I x)):=by
 have u:=m.up hx
 have u2:=m.up cA
 obtain⟨k,hk⟩:∃k,I x=N+k:=⟨I x-N,by omega⟩
 obtain⟨j,hj⟩:∃j,I (I x)=N+j:=⟨I (I x)-N,by omega⟩
 have b8:k+2<=N:=by omega
 have iV:j+2<=N:=by omega
 have a:=m.aX b8
 have hB:w x<=w (B k)∧w x<=w (N+k):=by
  have:=(m.inv b8 hx hk).2
  have hAB:=m.mA k b8 (B k) (by simp)
  have:=m.wn k b8
  have:=m.pos (A k) (by have:=m.zG b8;omega)
  have:=m.pos (B k) (by have:=m.zG b8;omega)
  unfold RI at hAB
  rcases (m.inv b8 hx hk).2 with e|e<;>rw[e]<;>omega
 refine⟨by rw[hk];exact hB.2, ?_⟩
 have ab:=m.adw (m.pos x (by omega)) (j-(k+1)) (k+1) (fun y hy=>by
  rcases List.mem_cons.1 ((m.nx k b8).mem_iff.1 hy)with e|e
  ·rw[e];exact hB.2
  ·have:=m.mB k b8 y e
   unfold RI at this
   omega) (by omega)
 rw[show k+1+(j-(k+1))=j by omega]at ab
 have b:=m.aX iV
 rw[hj,m.wn j iV]
 have:=ab _ b.1
 have:=ab _ b.2.1
 omega
theorem dC.deep(m:dC N w I A B X R){dep:Nat->Nat}(d0:dep (2*N-2)=0)(d1:∀i,i<2*N-2->dep i=dep (I i)+1):∀f x,2*N-2-x<=f->x<=2*N-2->w x*2^(dep x/2)<=w (2*N-2):=by
 intro f
 induction f with
 |zero=>
  intro x h1 h2
  obtain rfl:x=2*N-2:=by omega
  rw[d0]
  simp
 |succ f ih=>
  intro x h1 h2
  by_cases e:x=2*N-2
  ·rw[e,d0];simp
  have u:=m.up (show x<2*N-2 by omega)
  by_cases e2:I x=2*N-2
  ·rw[d1 x (by omega),e2,d0]
   obtain⟨k,hk⟩:∃k,I x=N+k:=⟨I x-N,by omega⟩
   have b8:k+2<=N:=by omega
   have h3:=(m.inv b8 (by omega) hk).2
   have h4:=m.wn k b8
   rw[<-hk,e2]at h4
   have:=m.pos (A k) (by have:=m.zG b8;omega)
   have:=m.pos (B k) (by have:=m.zG b8;omega)
   simp
   rcases h3 with r|r<;>rw[r]<;>omega
  ·have u2:=m.up (show I x<2*N-2 by omega)
   have t:=(m.adx (show x<2*N-2 by omega) (by omega)).2
   rw[d1 x (by omega),d1 (I x) (by omega)]
   have:=ih (I (I x)) (by omega) (by omega)
   rw[show(dep (I (I x))+1+1)/2=dep (I (I x))/2+1 by omega,ahT,<-aia,aib (w x) _,aia]
   refine Int.le_trans ?_ this
   rw[aib]
   exact WT (by omega) (aic (by omega))
end
theorem dC.short{N:Nat}{w:Nat->Int}{I A B:Nat->Nat}{X R:Nat->List Nat}(m:dC N w I A B X R){dep:Nat->Nat}(d0:dep (2*N-2)=0)(d1:∀i,i<2*N-2->dep i=dep (I i)+1){x:Nat}(hx:x<N)(h1:1<=w x)(hs:w (2*N-2)<1024):dep x<=19:=by
 have hN:=m.two
 have h:=m.deep d0 d1 (2*N) x (by omega) (by omega)
 apply ajc
 intro hc
 have h2:(2:Int)^10<=2^(dep x/2):=by
  have:(2:Nat)^10<=2^(dep x/2):=rC (by omega) (by omega)
  exact_mod_cast this
 have h3:(2:Int)^(dep x/2)<=w x*2^(dep x/2):=by
  have:(1:Int)*2^(dep x/2)<=w x*2^(dep x/2):=WT h1 (aic (by omega))
  omega
 omega
theorem D6(bj:List Int):∀(i:Nat) (out:List Int) (j:Nat),i<=j->(jB bj i out).getD j 0=out.getD j 0
 |0,out,j,_=>rfl
 |i+1,out,j,h=>by
  unfold jB
  rw[D6 bj i _ j (by omega),qT,if_neg (by omega)]
theorem Uk(bj:List Int)(T:Nat):∀(i:Nat) (out:List Int),out.length=T->i<=T->(∀j,j<i->j<(bj.getD j 0).toNat∧(bj.getD j 0).toNat<T)->∀j,j<i->(jB bj i out).getD j 0=(jB bj i out).getD (bj.getD j 0).toNat 0+1
 |0,out,_,_,_,j,hj=>by omega
 |i+1,out,hl,hi,bW,j,hj=>by
  have h0:=bW i (by omega)
  unfold jB
  by_cases e:j=i
  ·subst e
   rw[D6 bj j _ j (by omega),D6 bj j _ _ (by omega),qT,qT,if_pos ⟨rfl,by omega⟩,if_neg (by omega)]
  ·exact Uk bj T i _ (by rw[rz];exact hl) (by omega) (fun j hj=>bW j (by omega)) j (by omega)
theorem Ul(bj:List Int):∀(i:Nat) (out:List Int),(∀j,0<=out.getD j 0)->∀j,0<=(jB bj i out).getD j 0
 |0,out,h,j=>h j
 |i+1,out,h,j=>by
  unfold jB
  refine Ul bj i _ (fun j=> ?_) j
  rw[qT]
  have:=h j
  have:=h (bj.getD i 0).toNat
  split<;>omega
structure nF (ws:List Int) (D:List Nat) (w:Nat->Int) (I A B:Nat->Nat) (X R:Nat->List Nat) (dep:Nat->Nat):Prop where
 m:dC ws.length w I A B X R
 d0:dep (2*ws.length-2)=0
 d1:∀i,i<2*ws.length-2->dep i=dep (I i)+1
 ww:∀i,i<ws.length->w i=ws.getD i 0
 eq:nD ws D=(cN ws.length).map fun i=>(dep i:Int)
theorem ady{ws:List Int}{D:List Nat}(hN:2<=ws.length)(hp:D.Perm (cN ws.length))(hs:D.Pairwise (RI (aP ws)))(hw:∀x∈ws,0<=x):∃w I A B X R dep,nF ws D w I A B X R dep:=by
 obtain⟨A,B,X,R,m,ww⟩:=adt hN hp hs hw
 obtain⟨out,tH⟩:∃out,jB (fW ws D).bj (2*ws.length-2) (cq (2*ws.length-1) 0)=out:=⟨_,rfl⟩
 have pI:∀j,0<=out.getD j 0:=by
  rw[<-tH]
  refine Ul _ _ _ fun j=> ?_
  rw[aC,aid]
  split<;>simp
 have hlen:out.length=2*ws.length-1:=by rw[<-tH,DV,mS]
 refine⟨_,_,A,B,X,R,fun i=>(out.getD i 0).toNat,m, ?_,fun i hi=> ?_,ww, ?_⟩
 ·rw[<-tH,D6 _ _ _ _ (ak _),aC,aid]
  split<;>rfl
 ·have h1:=Uk (fW ws D).bj (2*ws.length-1) (2*ws.length-2) (cq (2*ws.length-1) 0) (by rw[mS]) (by omega) (fun j hj=>by
   have:=m.up hj
   omega) i hi
  rw[tH]at h1
  have:=pI ((fW ws D).bj.getD i 0).toNat
  show(out.getD i 0).toNat=(out.getD ((fW ws D).bj.getD i 0).toNat 0).toNat+1
  rw[h1]
  omega
 ·unfold nD
  rw[tH]
  apply nU
  ·simp[hlen];omega
  ·intro i h1 h2
   have h3:i<ws.length:=by simpa using h2
   have:=pI i
   rw[aC,aR (by omega)]at this
   simp only[List.getElem_take,AP,LA]
   rw[aC,aR (by omega)]
   simp only[Option.getD_some]at this⊢
   omega
theorem Um{k:Nat->Int}:∀{a b:List Nat},a.Perm b->a.Pairwise (RI k)->b.Pairwise (RI k)->a=b
 |[],b,h,_,_=>(List.nil_perm.1 h).symm
 |x::a,[],h,_,_=>by simp at h
 |x::a,y::b,h,h1,h2=>by
  have dX:=Lv.1 h1
  have kK:=Lv.1 h2
  have e:x=y:=by
   have m1:x∈y::b:=h.mem_iff.1 (by simp)
   have m2:y∈x::a:=h.mem_iff.2 (by simp)
   rcases List.mem_cons.1 m1 with e|e
   ·exact e
   ·rcases List.mem_cons.1 m2 with e2|e2
    ·exact e2.symm
    ·have r1:=kK.1 x e
     have r2:=dX.1 y e2
     unfold RI at r1 r2
     omega
  subst e
  rw[Um h.cons_inv dX.2 kK.2]
def kv(ws:List Int)(D:List Nat):Prop:=D.Perm (cN ws.length)∧D.Pairwise (RI (aP ws))
theorem kv.one{ws:List Int}{D E:List Nat}(h:kv ws D)(k:kv ws E):D=E:=Um (h.1.trans k.1.symm) h.2 k.2
open Classical in
noncomputable def pS (ws:List Int):List Nat:=if h:∃D,kv ws D then h.choose else []
theorem kv.eq{ws:List Int}{D:List Nat}(h:kv ws D):pS ws=D:=by
 unfold pS
 have hx:∃D,kv ws D:=⟨D,h⟩
 rw[dif_pos hx]
 exact hx.choose_spec.one h
noncomputable def l8 (ws:List Int):List Int:=nD ws (pS ws)
theorem kv.dep{ws:List Int}{D:List Nat}(h:kv ws D):nD ws D=l8 ws:=by unfold l8;rw[h.eq]
theorem adz{f:Nat->Int}{n i:Nat}(h:i<n):((cN n).map f).getD i 0=f i:=by
 rw[aC,lE,AM h]
 rfl
section
variable {ws:List Int} {D:List Nat} {w:Nat->Int} {I A B:Nat->Nat} {X R:Nat->List Nat} {dep:Nat->Nat}
theorem nF.at_(d:nF ws D w I A B X R dep){i:Nat}(h:i<ws.length):(nD ws D).getD i 0=dep i:=by
 rw[d.eq,adz h]
theorem nF.ge1(d:nF ws D w I A B X R dep){i:Nat}(h:i<ws.length):1<=dep i:=by
 have:=d.m.two
 rw[d.d1 i (by omega)]
 omega
theorem nF.le(d:nF ws D w I A B X R dep){i:Nat}(h:i<ws.length):dep i<ws.length:=by
 have hN:=d.m.two
 have u:=d.m.up (show i<2*ws.length-2 by omega)
 have:=d.m.Uj d.d0 d.d1 (2*ws.length) (I i) (by omega) (by omega)
 rw[d.d1 i (by omega)]
 omega
theorem nF.mem(d:nF ws D w I A B X R dep){P:Int->Prop}:(∀x∈nD ws D,P x)↔∀i,i<ws.length->P (dep i):=by
 rw[d.eq]
 simp
end
def k9(x:Int):Int:=2^(20-x).toNat
def dS(xs:List Int):Int:=bO (xs.map k9)
theorem nF.share{ws:List Int}{D:List Nat}{w:Nat->Int}{I A B:Nat->Nat}{X R:Nat->List Nat}{dep:Nat->Nat}(d:nF ws D w I A B X R dep)(h:∀x∈nD ws D,x<=20):dS (nD ws D)=1048576:=by
 have h:=d.mem.1 h
 have hN:=d.m.two
 obtain⟨M,hM⟩:∃M,M=2*ws.length+20:=⟨_,rfl⟩
 have hk:=d.m.adv d.d0 d.d1 M (by omega)
 have e:∀l:List Nat,(∀i∈l,i<ws.length)->bO (l.map fun i=>(2:Int)^(M-dep i))=2^(M-20)*bO (l.map fun i=>k9 (dep i)):=by
  intro l
  induction l with
  |nil=>intro _;simp[bO]
  |cons x l ih=>
   intro hl
   have hx:=h x (hl x (by simp))
   simp only[Ay,bO]
   rw[ih (fun i hi=>hl i (by simp[hi])),Int.mul_add]
   congr 1
   unfold k9
   rw[<-aie]
   congr 1
   omega
 rw[e _ (fun i hi=>List.mem_range.1 hi)]at hk
 unfold dS
 rw[d.eq,List.map_map]
 have b8:(2:Int)^M=2^(M-20)*1048576:=by
  rw[show(1048576:Int)=2^20 by rfl,<-aie]
  congr 1
  omega
 rw[b8]at hk
 exact Int.eq_of_mul_eq_mul_left (Int.ne_of_gt (Int.pow_pos (by omega))) hk
end Go.Proofs.YtdagfcflbphoiaaGreatDoor
namespace Go.Proofs.YtdagfcflbphoiaaGreatDoor
open Go.RowKit Ev Hu
theorem JP(c:Int):∀l:List Int,(∀x∈l,x<=c)->bO l<=l.length*c
 |[],_=>by simp[bO]
 |x::l,h=>by
  have ih:=JP c l (fun y hy=>h y (by simp[hy]))
  have:=h x (by simp)
  simp only[bO,cu]
  rw[show((l.length+1:Nat):Int)*c=l.length*c+c by rw[show((l.length+1:Nat):Int)=(l.length:Int)+1 by omega,Int.add_mul,ahU]]
  omega
theorem adA{ws:List Int}(hl:ws.length<=258)(hw:∀x∈ws,x<=2199023255552):bO ws<=1152921504606846976:=by
 have h:=JP 2199023255552 ws hw
 have:(ws.length:Int)*2199023255552<=258*2199023255552:=WT (by omega) (by omega)
 omega
structure Ws (ws:List Int):Prop where
 l2:2<=ws.length
 l3:ws.length<=258
 lo:∀x∈ws,0<=x
 hi:∀x∈ws,x<=2199023255552
theorem JQ{ws:List Int}(h:1<=ws.length):(l8 ws).length=ws.length:=zv _ _ h
theorem Un(lf d n:Nat)(h:H)(v:Value)(ws:List Int)(hR:Row h n 3 .i64 v ws)(hW:Ws ws)(aw:3000000<=lf)(hd:300<=d):
 ah (fun _=>False) n (aq ai gt lf d 139 #[v]) h n fun v' h' n'=>kv ws (pS ws)∧Row h' n' 3 .i64 v' (l8 ws)∧∀b,ar v' b->n<=b:=by
 obtain⟨e,rfl⟩:∃e,d=e+ws.length+8:=⟨d-ws.length-8,by have:=hW.l3;omega⟩
 have xm:=hW.l3
 refine(acI lf e n h v ws hR hW.l2 (by omega) aw hW.lo (adA hW.l3 hW.hi)).mono ?_
 rintro v' h' n' _ ⟨D,hp,hs,hr,hb⟩
 have so:kv ws D:=⟨hp,hs⟩
 rw[so.dep]at hr
 exact⟨by rw[so.eq];exact so,hr,hb⟩
theorem Ws.Uo{ws:List Int}(hW:Ws ws)(so:kv ws (pS ws)):∃w I A B X R dep,nF ws (pS ws) w I A B X R dep:=ady hW.l2 so.1 so.2 hW.lo
def q7(x:Int):Int:=(if x<0 then 0 else x).tdiv 2+1
def lh(xs:List Int):List Int:=xs.map q7
theorem Up(x:Int)(h:x<=9223372036854775807):1<=q7 x∧q7 x<=4611686018427387904∧(0<=x->q7 x=x/2+1):=by
 unfold q7
 have:(if x<0 then 0 else x).tdiv 2=(if x<0 then 0 else x)/2:=Int.tdiv_eq_ediv_of_nonneg (by split<;>omega)
 rw[this]
 split<;>omega
theorem adB(x:Int)(h:x<=9223372036854775807):IntKind.i64.wrap ((if x<0 then 0 else x).tdiv 2)=(if x<0 then 0 else x).tdiv 2∧IntKind.i64.wrap ((if x<0 then 0 else x).tdiv 2+1)=q7 x:=by
 have:=Up x h
 unfold q7 at this⊢
 exact⟨aV (by omega) (by omega),aV (by omega) (by omega)⟩
theorem pT(xs:List Int):(lh xs).length=xs.length:=by unfold lh;simp
theorem adC{xs:List Int}{i:Nat}(h:i<xs.length):(lh xs).getD i 0=q7 (xs.getD i 0):=by
 unfold lh
 rw[aC,lE,aR h,aC,aR h]
 rfl
def part(L:List Int)(i:Nat):List Int:=L.take i++cq (L.length-i) 0
theorem JR(L:List Int){i:Nat}(h:i<=L.length):(part L i).length=L.length:=by unfold part;simp;omega
theorem JS{L:List Int}{i:Nat}(h:i<L.length):(part L i).set i (L.getD i 0)=part L (i+1):=by
 unfold part
 rw[Xe _ _ (by simp;omega),dW,nR (by omega),nT]
 obtain⟨e,he⟩:∃e,L.length-i=e+1:=⟨L.length-i-1,by omega⟩
 rw[he,List.replicate_succ,List.set_cons_zero,show L.length-(i+1)=e by omega,mQ h,cE]
 rw[aC,aR h]
 rfl
theorem JT(L:List Int):part L L.length=L:=by unfold part;simp
theorem JU(L:List Int):part L 0=cq L.length 0:=by unfold part;simp
theorem hvL(lf d n:Nat)(h:H)(v:Value)(xs:List Int)(hR:Row h n 3 .i64 v xs)(hl:xs.length<=1000000)(hx:∀x∈xs,x<=9223372036854775807)(x2:Value)(c:Nat)(hc:xs.length<=c){W:Nat->Prop}{n0:Nat}(eE:n0<=n):
 ∀(m i fu:Nat) (h1:H),xs.length-i=m->m<fu->i<=xs.length->(∀b,b<n->h1.get b=h.get b)->h1.get n=some ⟨3,true,ints (part (lh xs) i)⟩->
  ah W n0 (u5 lf (aq ai gt lf d) fu (Dw lf (aq ai gt lf d)) v x2 (.slice (some ⟨n,0,none⟩) xs.length c) v (.int .i64 (xs.length:Nat)) (.int .i64 (i:Nat))) h1 (n+1) (fun v' h' n'=>Row h' n' 3 .i64 v' (lh xs)∧∀b,ar v' b->n<=b):=by
 intro m
 induction m with
 |zero=>
  intro i fu h1 hm cC hi hk nG
  obtain⟨fu,rfl⟩:∃f,fu=f+1:=⟨fu-1,by omega⟩
  obtain rfl:i=xs.length:=by omega
  rw[u5]
  try simp(disch:=first|omega|assumption|exact aa _) only[ag,ae,RZ,c9]
  (try unfold Dw);(try dsimp only)
  try simp(disch:=first|omega|assumption|exact aa _) only[ag,ae,RZ]
  rw[<-pT xs,JT]at nG
  refine⟨.inr ⟨n,0,c,true,_,by rw[pT],nG,gX n,by rw[kX];omega, ?_,by rw[pT];exact hc⟩,fun b hb=>by rw[hb.inj];exact ak n⟩
  rw[gT,kH (by rw[kX];exact ak _)]
  rfl
 |succ m ih=>
  intro i fu h1 hm cC hi hk nG
  obtain⟨fu,rfl⟩:∃f,fu=f+1:=⟨fu-1,by omega⟩
  have fJ:Row h1 (n+1) 3 .i64 v xs:=hR.ax (Nat.le_succ n) hk
  have bf:=fun b hb=>hR.lt (b:=b) hb
  obtain⟨b,off,cap,o,cs,rfl,hg,hb,_,_,_,cI⟩:=fJ.some (by omega)
  have pz:b<n:=bf b ⟨_,_,_,rfl⟩
  have e1:((i:Nat):Int)<((xs.length:Nat):Int):=by omega
  have c1:=cI i (by omega)
  have w1:((i:Nat):Int)+1=((i+1:Nat):Int):=by omega
  have kW:=hx (xs.getD i 0) (by rw[aC,aR (by omega)];exact ep _)
  obtain⟨wa,wb⟩:=adB _ kW
  have pl:(part (lh xs) i).length=xs.length:=by rw[JR _ (by rw[pT];omega),pT]
  have ps:(part (lh xs) i).set i (q7 (xs.getD i 0))=part (lh xs) (i+1):=by rw[<-adC (by omega),JS (by rw[pT];omega)]
  rw[u5]
  try simp(disch:=first|omega|assumption|exact aa _) only[ag,ae,RZ,e1,hg,c1,wa,wb,nG,ints_set,kX,pl,ps]
  refine⟨by omega,.inl eE, ?_⟩
  rw[w1]
  exact ih (i+1) fu _ (by omega) (by omega) (by omega) (fun b hb=>by rw[aA _ _ (by omega)];exact hk b hb) (get_eq _ _ _)
theorem adD(lf d n:Nat)(h:H)(v:Value)(xs:List Int)(hR:Row h n 3 .i64 v xs)(hl:xs.length<=1000000)(hx:∀x∈xs,x<=9223372036854775807)(aw:3000000<=lf):
 ah (fun _=>False) n (aq ai gt lf (d+1) 141 #[v]) h n fun v' h' n'=>Row h' n' 3 .i64 v' (lh xs)∧∀b,ar v' b->n<=b:=by
 rw[aD (fun _=>Sg) rfl]
 refine ah.aB ?_
 unfold Dx
 have bL:=hR
 obtain⟨a,c,rfl⟩:=hR.len
 try simp(disch:=first|omega|assumption|exact aa _) only[ag,ae,RZ]
 refine Ev.run_make trivial xs.length xs.length _ (ak _) (by omega) ?_
 try simp(disch:=first|omega|assumption|exact aa _) only[ag,ae,RZ]
 refine hvL lf d n h _ xs bL hl hx _ xs.length (ak _) (ak n) xs.length 0 lf _ (by omega) (by omega) (by omega) (fun b hb=>aA _ _ (by omega)) ?_
 rw[get_eq,JU,pT]
 unfold ints
 rw[Lx]
theorem adE{x:Int}(h0:0<=x)(h1:x<=20):1<=k9 x∧k9 x<=1048576:=by
 unfold k9
 have h1:(2:Nat)^(20-x).toNat<=2^20:=rC (by omega) (by omega)
 have h2:1<=(2:Nat)^(20-x).toNat:=Nat.one_le_two_pow
 have e:((2:Int)^(20-x).toNat)=(((2:Nat)^(20-x).toNat:Nat):Int):=by simp
 rw[e]
 omega
end Go.Proofs.YtdagfcflbphoiaaGreatDoor
namespace Go.Proofs.YtdagfcflbphoiaaGreatDoor
open Hu
end Go.Proofs.YtdagfcflbphoiaaGreatDoor
namespace Go.Proofs.YtdagfcflbphoiaaGreatDoor
open Go.RowKit Ev Hu
theorem cw(a b:Value):rF (.tuple #[a,b]) 0=some a:=rfl
theorem ext1(a b:Value):rF (.tuple #[a,b]) 1=some b:=rfl
theorem Uq{xs:List Int}{i:Nat}(h:i<xs.length):xs.getD i 0∈xs:=by
 rw[aC,aR h]
 exact ep _
end Go.Proofs.YtdagfcflbphoiaaGreatDoor
namespace Go.Proofs.YtdagfcflbphoiaaGreatDoor
open Go.RowKit Ev Cn
def iN(ln:List Nat):List Int:=ln.map fun(x:Nat)=>(x:Int)
theorem dD(ln:List Nat):(iN ln).length=ln.length:=by unfold iN;simp
theorem pU{ln:List Nat}{i:Nat}:(iN ln).getD i 0=(ln.getD i 0:Int):=by
 unfold iN
 rw[aC,lE,aC]
 cases ln[i]? <;>rfl
theorem Ur(x:Nat)(ln:List Nat):∀m,ir (x::ln) m=ir ln m+(if x<m then 2^(20-x)else 0)
 |0=>by simp[ir]
 |m+1=>by
  show ir (x::ln) m+cn (x::ln) m*2^(20-m)=ir ln m+cn ln m*2^(20-m)+_
  rw[Ur x ln m]
  have e:cn (x::ln) m=cn ln m+(if x=m then 1 else 0):=by unfold cn;rw[ah4];simp
  rw[e,Nat.add_mul]
  by_cases h:x=m
  ·subst h
   rw[if_pos rfl,if_neg (LB x),if_pos (gX x)]
   omega
  ·rw[if_neg h]
   by_cases h2:x<m
   ·rw[if_pos h2,if_pos (by omega)];omega
   ·rw[if_neg h2,if_neg (by omega)];omega
theorem Us:∀{ln:List Nat},(∀x∈ln,x<=20)->dS (iN ln)=(ir ln 21:Int)
 |[],_=>by
  have:∀m,ir [] m=0:=by
   intro m
   induction m with
   |zero=>rfl
   |succ m ih=>show ir [] m+cn [] m*_=0;rw[ih];simp[cn]
  rw[this]
  rfl
 |x::ln,h=>by
  have ih:=Us (ln:=ln) fun y hy=>h y (lG _ hy)
  have hx:=h x List.mem_cons_self
  rw[Ur,if_pos (show x<21 by omega)]
  show k9 (x:Int)+dS (iN ln)=_
  rw[ih]
  unfold k9
  rw[show(20-(x:Int)).toNat=20-x by omega]
  have:((2:Int)^(20-x))=((2^(20-x):Nat):Int):=by push_cast;rfl
  rw[this]
  omega
theorem xx{ln:List Nat}(h:∀x∈ln,1<=x∧x<=20)(hs:dS (iN ln)=1048576):Wh ln:=⟨h,by
 have:=Us (ln:=ln) fun x hx=>(h x hx).2
 omega⟩
section
variable (lf d n:Nat) (h:H) (aw:3000000<=lf)
include aw
theorem adF(v:Value)(xs:List Int)(hR:Row h n 3 .i64 v xs)(hl:xs.length<=258)(hm:eg 0 20 xs=true):
 ah (fun _=>False) n (aq ai gt lf (d+5) 108 #[v]) h n fun v' h' n'=>v'= .tuple #[.int .i64 (dS xs),.int .i64 0]:=by
 have dM:=k8.1 hm
 rw[aD (fun _=>Rm) rfl]
 refine ah.aB ?_
 unfold Da
 have bL:=hR
 obtain⟨a,c,rfl⟩:=hR.len
 have e1:¬((258:Int)<((xs.length:Nat):Int)):=by omega
 try simp(disch:=first|omega|assumption|exact aa _) only[ag,ae,RZ,e1]
 refine xo (TC lf d n h _ xs bL 0 20 (by omega) aw) (ak _) fun h1 n1 bb bJ=> ?_
 rw[hm]
 have fJ:=bL.ax bb bJ
 try simp(disch:=first|omega|assumption|exact aa _) only[ag,ae,RZ,gu]
 refine iq xs.length (fun fu i (q:Int)=>uS lf (aq ai gt lf (d+4)) fu (C9 lf (aq ai gt lf (d+4))) (.slice a xs.length c) (.int .i64 0) (.int .i64 0) (.int .i64 q) (.bool false) (.slice a xs.length c) (.int .i64 (xs.length:Nat)) (.int .i64 (i:Nat))) (fun i q h' n'=>(h'=h1∧n'=n1)∧0<=q∧q<=i*1048576∧q+dS (xs.drop i)=dS xs) ?_ ?_ lf 0 0 h1 n1 (cb _) (by omega) ⟨⟨rfl,rfl⟩,by omega,by omega,by rw[gT];omega⟩
 ·rintro fu q h' n' ⟨⟨rfl,rfl⟩,q0,q1,q2⟩
  rw[uS]
  try simp(disch:=first|omega|assumption|exact aa _) only[ag,ae,RZ,c9]
  (try unfold C9);(try dsimp only)
  try simp(disch:=first|omega|assumption|exact aa _) only[ag,ae,RZ]
  rw[List.drop_length]at q2
  have:dS []=0:=rfl
  rw[<-q2,this,Int.add_zero]
 ·rintro fu i q h' n' hi ⟨⟨rfl,rfl⟩,q0,q1,q2⟩ next
  obtain⟨b,off,cap,o,cs,hv,hg,hb,_,_,_,cI⟩:=fJ.some (by omega)
  cases hv
  have e2:((i:Nat):Int)<((xs.length:Nat):Int):=by omega
  have c1:=cI i hi
  have kW:=dM (xs.getD i 0) (by rw[aC,aR hi];exact ep _)
  obtain⟨b1,b2⟩:=adE kW.1 kW.2
  have w2:IntKind.i64.wrap (20-xs.getD i 0)=(((20-xs.getD i 0).toNat:Nat):Int):=by rw[aV (by omega) (by omega)];omega
  have w3:IntKind.i64.wrap (1*2^(min (((20-xs.getD i 0).toNat:Nat):Int).toNat IntKind.i64.bits))=k9 (xs.getD i 0):=by
   rw[o0,nR (xM (show(20-xs.getD i 0).toNat<=20 by omega) (by decide)),ahU]
   exact aV (by unfold k9 at b1;omega) (by unfold k9 at b2;omega)
  have JV:IntKind.i64.wrap (1*2^(min (20-xs.getD i 0).toNat IntKind.i64.bits))=k9 (xs.getD i 0):=by
   rw[o0]at w3
   exact w3
  have w4:IntKind.i64.wrap (q+k9 (xs.getD i 0))=q+k9 (xs.getD i 0):=aV (by omega) (by omega)
  have w5:(0:Int)<=(((20-xs.getD i 0).toNat:Nat):Int):=by omega
  have dn:dS (xs.drop i)=k9 (xs.getD i 0)+dS (xs.drop (i+1)):=by rw[mF 0 hi];rfl
  rw[uS]
  try simp(disch:=first|omega|assumption|exact aa _) only[ag,ae,RZ,e2,hg,c1,w2,w5,w3,JV,w4]
  refine next _ _ _ ⟨⟨rfl,rfl⟩,by omega,by omega,by omega⟩
theorem Ut(v:Value)(xs:List Int)(z:Int)(hR:Row h n 3 .i64 v xs)(hl:xs.length<=1000000):
 ah (fun _=>False) n (aq ai gt lf (d+1) 64 #[v,.int .i64 z]) h n fun v' h' n'=>(∃r:Int,v'= .int .i64 r∧((r=-1∧∀x∈xs,x≠z)∨∃i,i<xs.length∧r=(i:Int)∧xs.getD i 0=z∧∀j,j<i->xs.getD j 0≠z))∧h'=h∧n'=n:=by
 rw[aD (fun _=>Qj) rfl]
 refine ah.aB ?_
 unfold CM
 have bL:=hR
 obtain⟨a,c,rfl⟩:=hR.len
 try simp(disch:=first|omega|assumption|exact aa _) only[ag,ae,RZ]
 refine iq xs.length (fun fu i (_:Unit)=>uE lf (aq ai gt lf d) fu (yV lf (aq ai gt lf d)) (.slice a xs.length c) (.int .i64 z) (.int .i64 0) (.int .i64 (xs.length:Nat)) (.int .i64 (i:Nat))) (fun i _ h' n'=>(h'=h∧n'=n)∧∀j,j<i->xs.getD j 0≠z) ?_ ?_ lf 0 () h n (cb _) (by omega) ⟨⟨rfl,rfl⟩,fun j hj=>absurd hj (Nat.not_lt_zero j)⟩
 ·rintro fu _ h' n' ⟨⟨rfl,rfl⟩,ha⟩
  rw[uE]
  try simp(disch:=first|omega|assumption|exact aa _) only[ag,ae,RZ,c9]
  (try unfold yV);(try dsimp only)
  try simp(disch:=first|omega|assumption|exact aa _) only[ag,ae,RZ]
  refine⟨-1,rfl,.inl ⟨rfl,fun x hx=> ?_⟩⟩
  obtain⟨j,hj,rfl⟩:=List.mem_iff_getElem.1 hx
  have:=ha j hj
  rw[aC,aR hj]at this
  exact this
 ·rintro fu i _ h' n' hi ⟨⟨rfl,rfl⟩,ha⟩ next
  obtain⟨b,off,cap,o,cs,hv,hg,hb,_,_,_,cI⟩:=bL.some (by omega)
  cases hv
  have e2:((i:Nat):Int)<((xs.length:Nat):Int):=by omega
  have c1:=cI i hi
  rw[uE]
  by_cases q:z=xs.getD i 0
  ·have e3:(z==xs.getD i 0)=true:=by rw[<-q];simp
   try simp(disch:=first|omega|assumption|exact aa _) only[ag,ae,RZ,e2,hg,c1,e3]
   (try unfold yV);(try dsimp only)
   try simp(disch:=first|omega|assumption|exact aa _) only[ag,ae,RZ]
   exact⟨_,rfl,.inr ⟨i,hi,rfl,q.symm,ha⟩⟩
  ·have e3:(z==xs.getD i 0)=false:=beq_eq_false_iff_ne.2 q
   try simp(disch:=first|omega|assumption|exact aa _) only[ag,ae,RZ,e2,hg,c1,e3]
   refine next () _ _ ⟨⟨rfl,rfl⟩,fun j hj=> ?_⟩
   by_cases e:j=i
   ·subst e;exact fun r=>q r.symm
   ·exact ha j (by omega)
set_option maxRecDepth 8000 in
theorem Uu(v:Value)(xs:List Int)(hR:Row h n 3 .i64 v xs)(hl:xs.length<=258)(hm:eg 1 20 xs=true):
 ah (fun _=>False) n (aq ai gt lf (d+6) 71 #[v]) h n fun v' h' n'=>v'= .bool (decide (dS xs=1048576)):=by
 have dM:=k8.1 hm
 rw[aD (fun _=>Qy) rfl]
 refine ah.aB ?_
 unfold Ih
 refine aI aF (adF lf d n h aw v xs hR hl (k8.2 fun x hx=>by have:=dM x hx;omega)) (ak _) (fun _ _ h=>h.elim) fun v1 h1 n1 bb bJ hq=> ?_
 subst hq
 have z0:((0:Int)==0)=true:=rfl
 by_cases q:dS xs=1048576
 ·have e:(dS xs==1048576)=true:=by rw[q];exact beq_self_eq_true _
  rw[decide_eq_true q]
  have s2:ah (fun _=>False) n1 (aq ai gt lf (d+5) 109 #[v,.int .i64 0]) h1 n1 fun v' h' n'=>v'= .bool false:=by
   rw[aD (fun _=>Rn) rfl]
   refine ah.aB ?_
   unfold IB
   refine aI aF (Ut lf (d+3) n1 h1 aw v xs 0 (hR.ax bb fun b hb=>bJ b hb id) (by omega)) (ak _) (fun _ _ h=>h.elim) fun v2 h2 n2 dZ dq dx=> ?_
   obtain⟨⟨r,rfl,hr⟩,_,_⟩:=dx
   rcases hr with ⟨rfl,_⟩|⟨i,hi,_,hz,_⟩
   ·try simp(disch:=first|omega|assumption|exact aa _) only[ag,ae,RZ,bk,bm,bp,bq,bt,bu,bx,bz,bA,bB]
    all_goals (first|rfl|exact⟨rfl,rfl,rfl⟩|exact⟨rfl,rfl⟩)
   ·have:=dM (xs.getD i 0) (by rw[aC,aR hi];exact ep _)
    omega
  try simp(disch:=first|omega|assumption|exact aa _) only[ag,ae,RZ,cw,ext1,z0,e]
  refine xo s2 (by omega) fun h3 n3 fp dA=> ?_
  try simp(disch:=first|omega|assumption|exact aa _) only[ag,ae,RZ,gZ]
 ·have e:(dS xs==1048576)=false:=beq_eq_false_iff_ne.2 q
  rw[decide_eq_false q]
  try simp(disch:=first|omega|assumption|exact aa _) only[ag,ae,RZ,cw,ext1,z0,e]
end
def q8(f:Nat->Nat)(N:Nat):List Value:=(cN N).map fun j=>iy .i64 (f j:Int)
theorem sT(f:Nat->Nat)(N:Nat):(q8 f N).length=N:=by unfold q8;simp
theorem Uv{f:Nat->Nat}{N j:Nat}(h:j<N):(q8 f N)[j]? =some (.int .i64 (f j:Int)):=by unfold q8;rw[lE,AM h];rfl
def xy(f:Nat->Nat)(j v:Nat):Nat->Nat:=fun i=>if i=j then v else f i
theorem Uw{f:Nat->Nat}{N j v:Nat}:(q8 f N).set j (.int .i64 (v:Int))=q8 (xy f j v) N:=by
 apply nU
 ·simp[sT]
 ·intro i h1 h2
  rw[Ly]
  simp only[q8,AP,LA,xy]
  by_cases e:j=i
  ·subst e;simp
  ·rw[if_neg e,if_neg (fun q=>e q.symm)]
def dI(lv cv ov:Value)(f g:Nat->Nat):List Value:=lv::cv::ov::(q8 f 21++q8 g 22)
theorem adG{lv cv ov:Value}{f g:Nat->Nat}{j:Nat}(h:j<21):(dI lv cv ov f g)[3+j]? =some (.int .i64 (f j:Int)):=by
 unfold dI
 rw[show 3+j=j+1+1+1 by omega,Ax,Ax,Ax,me (by rw[sT];exact h),Uv h]
theorem Ux{lv cv ov:Value}{f g:Nat->Nat}{j:Nat}(h:j<22):(dI lv cv ov f g)[24+j]? =some (.int .i64 (g j:Int)):=by
 unfold dI
 rw[show 24+j=21+j+1+1+1 by omega,Ax,Ax,Ax,nO (by rw[sT];omega),sT,show 21+j-21=j by omega,Uv h]
theorem adH{lv cv ov:Value}{f g:Nat->Nat}{j v:Nat}(h:j<21):(dI lv cv ov f g).set (3+j) (.int .i64 (v:Int))=dI lv cv ov (xy f j v) g:=by
 unfold dI
 rw[show 3+j=j+1+1+1 by omega,AF,AF,AF,aih _ _ (by rw[sT];exact h),Uw]
theorem Uy{lv cv ov:Value}{f g:Nat->Nat}{j v:Nat}:(dI lv cv ov f g).set (24+j) (.int .i64 (v:Int))=dI lv cv ov f (xy g j v):=by
 unfold dI
 rw[show 24+j=21+j+1+1+1 by omega,AF,AF,AF,Xe _ _ (by rw[sT];omega),sT,show 21+j-21=j by omega,Uw]
theorem JW(lv cv ov:Value)(f g:Nat->Nat):(dI lv cv ov f g).length=46:=by unfold dI;simp[sT]
def ck(f:Nat->Nat)(n:Nat):Nat->Nat:=fun j=>if j<=n then f j else 0
theorem JX(f:Nat->Nat)(n:Nat):xy (ck f n) (n+1) (f (n+1))=ck f (n+1):=by
 funext j
 unfold xy ck
 by_cases e:j=n+1
 ·subst e;simp
 ·rw[if_neg e]
  by_cases e2:j<=n
  ·rw[if_pos e2,if_pos (by omega)]
  ·rw[if_neg e2,if_neg (by omega)]
theorem Uz{f:Nat->Nat}(h:f 0=0):ck f 0=fun _=>0:=by
 funext j
 unfold ck
 by_cases e:j<=0
 ·have:j=0:=by omega
  subst this
  rw[if_pos e,h]
 ·rw[if_neg e]
def iM(ln:List Nat)(n s:Nat):List Int:=(cN ln.length).map fun t=>if ln.getD t 0<n∨(ln.getD t 0=n∧t<s)then(eT ln t:Int)else 0
theorem D7(ln:List Nat)(n s:Nat):(iM ln n s).length=ln.length:=by unfold iM;simp
theorem adI(ln:List Nat)(n:Nat):iM ln n ln.length=iM ln (n+1) 0:=by
 unfold iM
 apply EY
 intro t ht
 have:=List.mem_range.1 ht
 by_cases e:ln.getD t 0<n∨(ln.getD t 0=n∧t<ln.length)
 ·rw[if_pos e,if_pos (by omega)]
 ·rw[if_neg e,if_neg (by omega)]
theorem adJ{ln:List Nat}{n s:Nat}(h:ln.getD s 0≠n):iM ln n (s+1)=iM ln n s:=by
 unfold iM
 apply EY
 intro t ht
 by_cases e:ln.getD t 0<n∨(ln.getD t 0=n∧t<s)
 ·rw[if_pos e,if_pos (by omega)]
 ·rw[if_neg e,if_neg]
  rintro(q|⟨q1,q2⟩)
  ·exact e (.inl q)
  ·by_cases e2:t=s
   ·subst e2;exact h q1
   ·exact e (.inr ⟨q1,by omega⟩)
theorem adK{ln:List Nat}{n s:Nat}(hs:s<ln.length)(h:ln.getD s 0=n):(iM ln n s).set s (eT ln s:Int)=iM ln n (s+1):=by
 apply nU
 ·simp[D7]
 ·intro t h1 h2
  rw[Ly]
  simp only[iM,AP,LA]
  by_cases e:s=t
  ·subst e;rw[if_pos rfl,if_pos (.inr ⟨h,gX s⟩)]
  ·rw[if_neg e]
   by_cases q:ln.getD t 0<n∨(ln.getD t 0=n∧t<s)
   ·rw[if_pos q,if_pos (by omega)]
   ·rw[if_neg q,if_neg (by omega)]
theorem adL{ln:List Nat}(w:Wh ln):iM ln 1 0=cq ln.length 0:=by
 apply nU
 ·simp[D7]
 ·intro t h1 h2
  rw[D7]at h1
  have:=w.at h1
  simp only[iM,AP,LA,List.getElem_replicate]
  rw[if_neg (by omega)]
def oO(ln:List Nat):List Int:=(cN ln.length).map fun t=>(eT ln t:Int)
theorem adM{ln:List Nat}(w:Wh ln):iM ln 21 0=oO ln:=by
 unfold iM oO
 apply EY
 intro t ht
 have:=w.at (List.mem_range.1 ht)
 rw[if_pos (by omega)]
theorem D8:∀(ln:List Nat) (m:Nat),bC ln m<=ln.length
 |[],m=>by
  have:∀m,bC [] m=0:=by
   intro m
   induction m with
   |zero=>rfl
   |succ m ih=>show bC [] m+cn [] m=0;rw[ih];simp[cn]
  rw[this]
  exact ak 0
 |x::ln,m=>by
  have key:∀m,bC (x::ln) m=bC ln m+(if x<m then 1 else 0):=by
   intro m
   induction m with
   |zero=>rfl
   |succ m ih=>
    show bC (x::ln) m+cn (x::ln) m=bC ln m+cn ln m+_
    have e:cn (x::ln) m=cn ln m+(if x=m then 1 else 0):=by unfold cn;rw[ah4];simp
    rw[ih,e]
    by_cases h:x=m
    ·subst h
     rw[if_neg (LB x),if_pos rfl,if_pos (gX x)]
     omega
    ·rw[if_neg h]
     by_cases h2:x<m
     ·rw[if_pos h2,if_pos (by omega)];omega
     ·rw[if_neg h2,if_neg (by omega)];omega
  have:=D8 ln m
  rw[key,cu]
  split<;>omega
theorem adN(ln:List Nat):(iu ln 21).length<=ln.length:=by rw[oN];exact D8 ln 21
structure lk (h:H) (lo hi c:Nat) (ln:List Nat):Prop where
 ge:lo<=c
 lt:c<hi
 ex:∃lv cv ov,h.get c=some ⟨111,true,dI lv cv ov (ck (bQ ln) 20) (ck (bC ln) 21)⟩∧Row h hi 3 .i64 lv (iN ln)∧(∀b,ar lv b->lo<=b)∧Row h hi 23 .u32 cv (oO ln)∧(∀b,ar cv b->lo<=b)∧Row h hi 3 .i64 ov (iN (iu ln 21))∧(∀b,ar ov b->lo<=b)
theorem lk.ax{h h':H}{lo hi c:Nat}{ln:List Nat}(x:lk h lo hi c ln)(hk:∀b,lo<=b->b<hi->h'.get b=h.get b):lk h' lo hi c ln:=by
 obtain⟨l1,l2,lv,cv,ov,g,a1,a2,b1,b2,c1,c2⟩:=x
 exact⟨l1,l2,lv,cv,ov,(hk c l1 l2).trans g,a1.fC (ak _) fun b hb=>hk b (a2 b hb) (a1.lt hb),a2,b1.fC (ak _) fun b hb=>hk b (b2 b hb) (b1.lt hb),b2,c1.fC (ak _) fun b hb=>hk b (c2 b hb) (c1.lt hb),c2⟩
theorem JY(a b:List Nat):iN (a++b)=iN a++iN b:=by unfold iN;rw[mR]
theorem D9(k:IntKind)(a b:List Int):aL k (a++b)=aL k a++aL k b:=by unfold aL;rw[mR]
theorem UA(k:IntKind)(l:List Int)(i:Nat)(x:Int):(aL k l).set i (.int k x)=aL k (l.set i x):=by unfold aL;rw[List.map_set]
theorem adO(a1:Option Addr)(n1 c1:Nat)(a2:Option Addr)(n2 c2:Nat):(if 0<Hz.length then fA (Hz.set 0 (.slice a1 n1 c1)) [(1,1,.slice a2 n2 c2)]else none)=some (dI (.slice a1 n1 c1) (.slice a2 n2 c2) (.slice none 0 0) (fun _=>0) (fun _=>0)):=by kernel_rfl
section
variable (lf d n:Nat) (h:H) (aw:3000000<=lf)
include aw
theorem adP(v:Value)(xs:List Int)(hR:Row h n 3 .i64 v xs)(h3:3<=xs.length)(hl:xs.length<=258)(hm:eg 1 20 xs=true)(hs:dS xs≠1048576):
 ah (fun _=>False) n (aq ai gt lf (d+7) 39 #[v]) h n fun v' h' n'=>v'= .tuple #[.pointer none,.int .i64 22]:=by
 rw[aD (fun _=>HS) rfl]
 refine ah.aB ?_
 unfold yU
 have bL:=hR
 obtain⟨a,c,rfl⟩:=hR.len
 have e1:¬(((xs.length:Nat):Int)<3):=by omega
 have e2:¬((258:Int)<((xs.length:Nat):Int)):=by omega
 try simp(disch:=first|omega|assumption|exact aa _) only[ag,ae,RZ,e1,e2]
 refine xo (b:=false) ((Uu lf d n h aw _ xs bL hl hm).mono fun v' _ _ _ e=>by rw[e,decide_eq_false hs]) (ak _) fun h1 n1 bb bJ=> ?_
 try simp(disch:=first|omega|assumption|exact aa _) only[ag,ae,RZ,gZ]
set_option maxHeartbeats 2000000 in
theorem UB(v:Value)(ln:List Nat)(hR:Row h n 3 .i64 v (iN ln))(h3:3<=ln.length)(hl:ln.length<=258)(w:Wh ln)(hs:dS (iN ln)=1048576):
 ah (fun _=>False) n (aq ai gt lf (d+7) 39 #[v]) h n fun v' h' n'=>∃c,v'= .tuple #[.pointer (some ⟨c,0,none⟩),.int .i64 0]∧lk h' n n' c ln:=by
 have pN:=dD ln
 rw[aD (fun _=>HS) rfl]
 refine ah.aB ?_
 unfold yU
 have bL:=hR
 obtain⟨a,c,rfl⟩:=hR.len
 have e1:¬((((iN ln).length:Nat):Int)<3):=by omega
 have e2:¬((258:Int)<(((iN ln).length:Nat):Int)):=by omega
 have hm:eg 1 20 (iN ln)=true:=k8.2 fun x hx=>by
  unfold iN at hx
  obtain⟨y,hy,rfl⟩:=List.mem_map.1 hx
  have:=w.lo y hy
  omega
 try simp(disch:=first|omega|assumption|exact aa _) only[ag,ae,RZ,e1,e2]
 refine xo (b:=true) ((Uu lf d n h aw _ _ bL (by omega) hm).mono fun v' _ _ _ e=>by rw[e,decide_eq_true hs]) (ak _) fun h1 n1 bb bJ=> ?_
 have fJ:=bL.ax bb bJ
 try simp(disch:=first|omega|assumption|exact aa _) only[ag,ae,RZ,gu]
 refine acY aF (vn lf (d+5) n1 h1 _ _ fJ (by omega) (by omega)) bb fun v2 h2 n2 T1 dZ dq dx t1=> ?_
 obtain⟨_,fU,fF⟩:=dx
 have JZ:=fU
 obtain⟨al,cl,rfl⟩:=fU.len
 rw[pN]at JZ fF⊢
 try simp(disch:=first|omega|assumption|exact aa _) only[ag,ae,RZ]
 refine ac4 ln.length _ (by omega) ?_
 have t2:RB ⟨n2,n2+1,[]⟩ n1:=⟨fun e he=>(nomatch he),fun e he=>(nomatch he),dZ⟩
 dsimp only
 rw[adO,pJ]
 refine OJ trivial _ _ ?_
 try simp(disch:=first|omega|assumption|exact aa _) only[ag,ae,RZ,t1.g8 t2,gZ,mO,sC]
 obtain⟨hb,D'⟩:∃hb,(h2.set n2 (some ⟨23,true,cq ln.length (.int .u32 0)⟩)).set (n2+1) (some ⟨111,true,dI (.slice al ln.length cl) (.slice (some ⟨n2,0,none⟩) ln.length ln.length) (.slice none 0 0) (fun _=>0) (fun _=>0)⟩)=hb:=⟨_,rfl⟩
 have gc:hb.get (n2+1)=some ⟨111,true,dI (.slice al ln.length cl) (.slice (some ⟨n2,0,none⟩) ln.length ln.length) (.slice none 0 0) (ck (bQ ln) 0) (ck (bC ln) 0)⟩:=by
  rw[Uz (f:=bQ ln) rfl,Uz (f:=bC ln) rfl,<-D',get_eq]
 have gv:hb.get n2=some ⟨23,true,aL .u32 (iM ln 1 0)⟩:=by
  rw[<-D',aA _ _ (by omega),get_eq,adL w]
  unfold aL
  rw[Lx]
 have kb:∀b,b<n2->hb.get b=h2.get b:=fun b bM=>by rw[<-D',aA _ _ (by omega),aA _ _ (by omega)]
 rw[D']
 have adQ:iu ln 1=[]:=by
  apply vL
  rw[oN,adh w]
 have nx0:jR ln 0 ln.length=0:=by
  unfold jR
  rw[D1,JL w]
  rfl
 have kZ:∀{h':H} {n':Nat},n2<=n'->(∀b,b<n2->h'.get b=h2.get b)->Row h' n' 3 .i64 (.slice a ln.length c) (iN ln):=fun{h'} {n'} l9 kM=>by
  have:=fJ.ax (show n1<=n' by omega) fun b bM=>(kM b (by omega)).trans (dq b bM)
  rw[pN]at this
  exact this
 refine iq 20 (fun fu i (q:Nat)=>sG lf (aq ai gt lf (d+6)) fu (yT lf (aq ai gt lf (d+6))) (.slice a ln.length c) (.pointer none) (.int .i64 0) (.pointer (some ⟨n2+1,0,none⟩)) (.int .i64 (q:Int)) (.int .i64 ((i+1:Nat):Int)) (.bool false) (.bool false))
  (fun i q h' n'=>n2+2<=n'∧(∀b,b<n2->h'.get b=h2.get b)∧q=jR ln i ln.length∧h'.get n2=some ⟨23,true,aL .u32 (iM ln (i+1) 0)⟩∧∃ov,h'.get (n2+1)=some ⟨111,true,dI (.slice al ln.length cl) (.slice (some ⟨n2,0,none⟩) ln.length ln.length) ov (ck (bQ ln) i) (ck (bC ln) i)⟩∧Own h' (n2+2) n' 3 ov (aL .i64 (iN (iu ln (i+1))))) ?_ ?_ lf 0 0 _ _ (cb _) (by omega) ⟨ak _,kb,nx0.symm,gv,_,gc,by rw[adQ];exact Own.nil _ _ _ _⟩
 ·rintro fu q h' n' ⟨l9,kM,rfl,oE,ov,oP,hO⟩
  have e3:¬(((20+1:Nat):Int)<=20):=by omega
  have c2:(dI (.slice al ln.length cl) (.slice (some ⟨n2,0,none⟩) ln.length ln.length) ov (ck (bQ ln) 20) (ck (bC ln) 20))[2]? =some ov:=rfl
  have hOr:=hO.row
  obtain⟨ao,co,iG⟩:=hOr.len
  have J0:(iN (iu ln 21)).length=bC ln 21:=by rw[dD,oN]
  rw[J0]at iG
  have cg:=Uy (lv:= .slice al ln.length cl) (cv:= .slice (some ⟨n2,0,none⟩) ln.length ln.length) (ov:=ov) (f:=ck (bQ ln) 20) (g:=ck (bC ln) 20) (j:=21) (v:=bC ln 21)
  rw[JX]at cg
  have pV:n2+1<n':=by omega
  have UC:24+21<(dI (.slice al ln.length cl) (.slice (some ⟨n2,0,none⟩) ln.length ln.length) ov (ck (bQ ln) 20) (ck (bC ln) 20)).length:=by rw[JW];omega
  rw[sG]
  try simp(disch:=first|omega|assumption|exact aa _) only[ag,ae,RZ,e3]
  (try unfold yT);(try dsimp only)
  rw[iG]at oP c2 cg UC hOr
  have e21:((21:Int)).toNat=21:=rfl
  try simp(disch:=first|omega|assumption|exact aa _) only[ag,ae,RZ,bk,bm,bp,bq,bt,bu,bx,bz,bA,bB,oP,c2,e21]
  refine⟨by simpa using UC,.inl (by omega), ?_⟩
  have fin:∀h9,h9.get (n2+1)=some ⟨111,true,dI (.slice al ln.length cl) (.slice (some ⟨n2,0,none⟩) ln.length ln.length) (.slice ao (bC ln 21) co) (ck (bQ ln) 20) (ck (bC ln) 21)⟩->(∀b,b≠n2+1->h9.get b=h'.get b)->lk h9 n n' (n2+1) ln:=by
   intro h9 hg9 J1
   have oe:∀b,ar (.slice ao (bC ln 21) co) b->b≠n2+1:=fun b bM e=>by
    rw[iG]at hO
    have:=(hO.lt bM).1
    omega
   refine⟨by omega,by omega,_,_,_,hg9, ?_,fun b bM=>by have:=fF b bM;omega, ?_,fun b bM=>by rw[bM.inj];omega,hOr.fC (ak _) fun b bM=>J1 b (oe b bM),fun b bM=>by rw[iG]at hO;have:=(hO.lt bM).1;omega⟩
   ·exact JZ.fC (by omega) fun b bM=>by
     have:=JZ.lt bM
     rw[J1 b (by omega),kM b this]
   ·have e:h9.get n2=some ⟨23,true,aL .u32 (oO ln)⟩:=by rw[J1 n2 (by omega),oE,adM w]
    have Ea:(oO ln).length=ln.length:=by unfold oO;simp
    exact .inr ⟨n2,0,ln.length,true,_,by rw[Ea],e,by omega,by rw[eF];omega,by rw[gT,kH (by rw[eF];omega)],by omega⟩
  refine⟨n2+1,rfl,fin _ (by rw[get_eq];congr 2) fun b bM=>aA _ _ bM⟩
 ·rintro fu i q h' n' hi ⟨l9,kM,rfl,oE,ov,oP,hO⟩ next
  have e3:(((i+1:Nat):Int)<=20):=by omega
  have c2:∀f g,(dI (.slice al ln.length cl) (.slice (some ⟨n2,0,none⟩) ln.length ln.length) ov f g)[2]? =some ov:=fun _ _=>rfl
  have adR:=w.cap (n:=i+1) (by omega)
  have p20:2^(i+1)<=2^20:=rC (by decide) (by omega)
  have fe:bQ ln (i+1)=2*jR ln i ln.length:=by unfold jR;rw[D1];rfl
  have w1:IntKind.i64.wrap (((jR ln i ln.length:Nat):Int)*2)=((bQ ln (i+1):Nat):Int):=by rw[aV (by omega) (by omega)];omega
  have hOr:=hO.row
  obtain⟨ao,co,iG⟩:=hOr.len
  have J0:(iN (iu ln (i+1))).length=bC ln (i+1):=by rw[dD,oN]
  rw[J0]at iG
  have sf:=adH (lv:= .slice al ln.length cl) (cv:= .slice (some ⟨n2,0,none⟩) ln.length ln.length) (ov:=ov) (f:=ck (bQ ln) i) (g:=ck (bC ln) i) (j:=i+1) (v:=bQ ln (i+1)) (by omega)
  rw[JX]at sf
  have sg:=Uy (lv:= .slice al ln.length cl) (cv:= .slice (some ⟨n2,0,none⟩) ln.length ln.length) (ov:=ov) (f:=ck (bQ ln) (i+1)) (g:=ck (bC ln) i) (j:=i+1) (v:=bC ln (i+1))
  rw[JX]at sg
  have pV:n2+1<n':=by omega
  have i1:((i+1:Nat):Int)<21:=by omega
  have i2:((i+1:Nat):Int)<22:=by omega
  have i0:(0:Int)<=((i+1:Nat):Int):=by omega
  have it:((i+1:Nat):Int).toNat=i+1:=rfl
  have lc:∀f g,(dI (.slice al ln.length cl) (.slice (some ⟨n2,0,none⟩) ln.length ln.length) ov f g).length=46:=fun f g=>JW _ _ _ _ _
  rw[sG]
  rw[iG]at oP c2 sf sg lc
  try simp(disch:=first|omega|assumption|exact aa _) only[ag,ae,RZ,e3,w1,i0,i1,i2,it,oP,sf,lc,true_or,or_true]
  refine⟨by omega,.inl (by omega), ?_⟩
  try simp(disch:=first|omega|assumption|exact aa _) only[ag,ae,RZ,get_eq,c2,sg,lc]
  refine⟨by omega,.inl (by omega), ?_⟩
  obtain⟨hA,J2⟩:∃hA,((h'.set (n2+1) (some ⟨111,true,dI (.slice al ln.length cl) (.slice (some ⟨n2,0,none⟩) ln.length ln.length) (.slice ao (bC ln (i+1)) co) (ck (bQ ln) (i+1)) (ck (bC ln) i)⟩)).set (n2+1) (some ⟨111,true,dI (.slice al ln.length cl) (.slice (some ⟨n2,0,none⟩) ln.length ln.length) (.slice ao (bC ln (i+1)) co) (ck (bQ ln) (i+1)) (ck (bC ln) (i+1))⟩))=hA:=⟨_,rfl⟩
  have gA:hA.get (n2+1)=some ⟨111,true,dI (.slice al ln.length cl) (.slice (some ⟨n2,0,none⟩) ln.length ln.length) (.slice ao (bC ln (i+1)) co) (ck (bQ ln) (i+1)) (ck (bC ln) (i+1))⟩:=by rw[<-J2,get_eq]
  have kA:∀b,b≠n2+1->hA.get b=h'.get b:=fun b bM=>by rw[<-J2,aA _ _ bM,aA _ _ bM]
  rw[J2]
  have nxs:jR ln (i+1) 0=bQ ln (i+1):=by unfold jR;simp[iL,cn]
  rw[iG]at hO
  refine iq ln.length (fun f2 s (q:Nat)=>sF lf (aq ai gt lf (d+6)) f2 (PS lf (aq ai gt lf (d+6)) fu (yT lf (aq ai gt lf (d+6)))) (.slice a ln.length c) (.pointer none) (.int .i64 0) (.pointer (some ⟨n2+1,0,none⟩)) (.int .i64 (q:Int)) (.int .i64 ((i+1:Nat):Int)) (.bool false) (.bool false) (.bool true) (.slice a ln.length c) (.int .i64 (ln.length:Int)) (.int .i64 (s:Int)))
   (fun s q h5 n5=>n'<=n5∧(∀b,b<n2->h5.get b=h2.get b)∧q=jR ln (i+1) s∧h5.get n2=some ⟨23,true,aL .u32 (iM ln (i+1) s)⟩∧∃ov,h5.get (n2+1)=some ⟨111,true,dI (.slice al ln.length cl) (.slice (some ⟨n2,0,none⟩) ln.length ln.length) ov (ck (bQ ln) (i+1)) (ck (bC ln) (i+1))⟩∧Own h5 (n2+2) n5 3 ov (aL .i64 (iN (iu ln (i+1)++gD ln (i+1) s)))) ?_ ?_ lf 0 (bQ ln (i+1)) _ _ (cb _) (by omega) ⟨ak _,fun b bM=>by rw[kA b (by omega)];exact kM b bM,nxs.symm,by rw[kA n2 (by omega)];exact oE,_,gA, ?_⟩
  rotate_left 2
  ·have:gD ln (i+1) 0=[]:=rfl
   rw[this,dF]
   exact hO.ax (ak _) fun b bM=>kA b fun e=>by have:=(hO.lt bM).1;omega
  ·rintro f2 q h5 n5 ⟨zH,zI,rfl,Eb,pW,zJ,zK⟩
   have w3:IntKind.i64.wrap (((i+1:Nat):Int)+1)=((i+1+1:Nat):Int):=by rw[aV (by omega) (by omega)];rfl
   have JV:((i+1:Nat):Int)+1=((i+1+1:Nat):Int):=rfl
   rw[sF]
   try simp(disch:=first|omega|assumption|exact aa _) only[ag,ae,RZ,c9]
   (try unfold PS);(try unfold CJ);(try dsimp only)
   try simp(disch:=first|omega|assumption|exact aa _) only[ag,ae,RZ,w3,JV]
   refine next (jR ln (i+1) ln.length) h5 n5 ⟨by omega,zI,rfl, ?_,pW,zJ,zK⟩
   rw[<-adI]
   exact Eb
  ·rintro f2 s q h5 n5 dz ⟨zH,zI,rfl,Eb,pW,zJ,zK⟩ zL
   obtain⟨b,off,cap,o,ks,hv,pX,hbx,_,_,_,cI⟩:=(kZ (show n2<=n5 by omega) zI).some (by omega)
   have ct:jF a ln.length c= .slice (some ⟨b,off,none⟩) (iN ln).length cap:=hv
   rw[pN]at ct
   cases ct
   have e5:((s:Nat):Int)<((ln.length:Nat):Int):=by omega
   have c5:=cI s (by omega)
   rw[pU]at c5
   have lt5:n2+1<n5:=by omega
   have aiL:n2<n5:=by omega
   rw[sF]
   by_cases m:ln.getD s 0=i+1
   ·have qo:(((ln.getD s 0:Nat):Int)==((i+1:Nat):Int))=true:=by rw[m];simp
    have Ec:jR ln (i+1) s=eT ln s:=adg m
    have adS:=w.JI dz
    rw[m]at adS
    have w4:IntKind.u32.wrap ((eT ln s:Nat):Int)=((eT ln s:Nat):Int):=qZ (by omega)
    have cv1:(dI (.slice al ln.length cl) (.slice (some ⟨n2,0,none⟩) ln.length ln.length) pW (ck (bQ ln) (i+1)) (ck (bC ln) (i+1)))[1]? =some (.slice (some ⟨n2,0,none⟩) ln.length ln.length):=rfl
    have cv2:(dI (.slice al ln.length cl) (.slice (some ⟨n2,0,none⟩) ln.length ln.length) pW (ck (bQ ln) (i+1)) (ck (bC ln) (i+1)))[2]? =some pW:=rfl
    have cv3:∀x,(dI (.slice al ln.length cl) (.slice (some ⟨n2,0,none⟩) ln.length ln.length) pW (ck (bQ ln) (i+1)) (ck (bC ln) (i+1))).set 2 x=dI (.slice al ln.length cl) (.slice (some ⟨n2,0,none⟩) ln.length ln.length) x (ck (bQ ln) (i+1)) (ck (bC ln) (i+1)):=fun _=>rfl
    have w5:IntKind.i64.wrap (((eT ln s:Nat):Int)+1)=((eT ln s+1:Nat):Int):=by rw[aV (by omega) (by omega)];rfl
    have w5':((eT ln s:Nat):Int)+1=((eT ln s+1:Nat):Int):=rfl
    have w6:((s:Nat):Int)+1=((s+1:Nat):Int):=rfl
    have ch:=adK dz m
    rw[Ec]
    try simp(disch:=first|omega|assumption|exact aa _) only[ag,ae,RZ,e5,pX,c5,qo,zJ,cv1,w4,Eb,UA,ch,eF,D7]
    refine⟨dz,.inl (by omega), ?_⟩
    have UD:(h5.set n2 (some ⟨23,true,aL .u32 (iM ln (i+1) (s+1))⟩)).get (n2+1)=some ⟨111,true,dI (.slice al ln.length cl) (.slice (some ⟨n2,0,none⟩) ln.length ln.length) pW (ck (bQ ln) (i+1)) (ck (bC ln) (i+1))⟩:=by rw[aA _ _ (by omega)];exact zJ
    try simp(disch:=first|omega|assumption|exact aa _) only[ag,ae,RZ,UD,cv2]
    have Ed:Own (h5.set n2 (some ⟨23,true,aL .u32 (iM ln (i+1) (s+1))⟩)) (n2+2) n5 3 pW (aL .i64 (iN (iu ln (i+1)++gD ln (i+1) s))):=zK.ax (ak _) fun b bM=>aA _ _ (by have:=(zK.lt bM).1;omega)
    have aiM:(aL .i64 (iN (iu ln (i+1)++gD ln (i+1) s))).length<=1000:=by
     rw[eF,dD,List.length_append,oN,zB _ (by omega)]
     have h1:=T7 (ln:=ln) (show i+1<=21 by omega)
     have kK:bC ln 21<=ln.length:=by
      have:=oN ln 21
      rw[<-this]
      exact adN ln
     have nB:=TX ln (i+1) s
     have h4':cn ln (i+1)<=ln.length:=List.countP_le_length
     omega
    refine yN trivial (oF _ _) Ed (by omega) (by omega) _ fun h7 g7 k7=> ?_
    have g7c:h7.get (n2+1)=some ⟨111,true,dI (.slice al ln.length cl) (.slice (some ⟨n2,0,none⟩) ln.length ln.length) pW (ck (bQ ln) (i+1)) (ck (bC ln) (i+1))⟩:=by rw[k7 (n2+1) (by omega) fun q=>by have:=(Ed.lt q).1;omega];exact UD
    have lt7:n2+1<n5+2:=by omega
    try simp(disch:=first|omega|assumption|exact aa _) only[ag,ae,RZ,g7c,cv3,JW]
    refine⟨.inl (by omega), ?_⟩
    rw[w5',w6]
    have sn:gD ln (i+1) (s+1)=gD ln (i+1) s++[s]:=by rw[D3,if_pos m]
    have on:aL .i64 (iN (iu ln (i+1)++gD ln (i+1) (s+1)))=aL .i64 (iN (iu ln (i+1)++gD ln (i+1) s))++[.int .i64 (s:Int)]:=by
     rw[sn,<-cE,JY,D9]
     rfl
    refine zL (eT ln s+1) _ _ ⟨by omega,fun b bM=> ?_,by rw[T8 dz,if_pos m,Ec], ?_,_,get_eq _ _ _, ?_⟩
    ·rw[aA _ _ (by omega),k7 b (by omega) (fun q=>by have:=(Ed.lt q).1;omega),aA _ _ (by omega)]
     exact zI b bM
    ·rw[aA _ _ (by omega),k7 n2 (by omega) (fun q=>by have:=(Ed.lt q).1;omega),get_eq]
    ·rw[on]
     refine Or.inr ⟨n5+1,by simp,by rw[aA _ _ (by omega)];exact g7,by omega,by omega⟩
   ·have qo:(((ln.getD s 0:Nat):Int)==((i+1:Nat):Int))=false:=beq_eq_false_iff_ne.2 fun e=>m (by omega)
    have w6:((s:Nat):Int)+1=((s+1:Nat):Int):=rfl
    have sn:gD ln (i+1) (s+1)=gD ln (i+1) s:=by rw[D3,if_neg m,dF]
    try simp(disch:=first|omega|assumption|exact aa _) only[ag,ae,RZ,e5,pX,c5,qo]
    refine zL (jR ln (i+1) s) h5 n5 ⟨zH,zI,by rw[T8 dz,if_neg m];rfl,by rw[adJ m];exact Eb,pW,zJ,by rw[sn];exact zK⟩
end
theorem J3{f:Nat->Nat}{n j:Nat}(h:j<=n):ck f n j=f j:=by unfold ck;rw[if_pos h]
section
variable {lf d n p c lo hi:Nat} {h:H} {S:List UInt8} {D A:Nat} {ln:List Nat}
theorem adT(x:bP h n p S D A)(k:lk h lo hi c ln)(w:Wh ln)(hh:hi<=n)(hp:p<lo)(hl:ln.length<=258)(aw:100<=lf):ah (fun b=>b=p) n (aq ai gt lf (d+4) 120 #[.pointer (some ⟨c,0,none⟩),.pointer (some ⟨p,0,none⟩)]) h n fun v h' n'=>n'=n∧
 ((l7 ln (bR S D A)=none∧v= .tuple #[.int .i64 0,.int .i64 3]∧∃B,bP h' n p S D B)∨∃s,l7 ln (bR S D A)=some s∧v= .tuple #[.int .i64 (s:Int),.int .i64 0]∧bP h' n p S D (A+ln.getD s 0)):=by
 have x0:=x
 have k0:=k
 obtain⟨kge,klt,lv,cv,ov,g,a1,a2,b1,b2,o1,o2⟩:=k
 rw[aD (fun _=>Ru) rfl]
 refine ah.aB ?_
 unfold Db
 obtain⟨bs,dH⟩:∃bs,bR S D A=bs:=⟨_,rfl⟩
 have adU:=x.len
 have xlo:=x.lo
 rw[dH]at adU⊢
 have cp:c≠p:=by omega
 refine iq 20 (fun fu i (q:Nat)=>wV lf (aq ai gt lf (d+3)) fu (y7 lf (aq ai gt lf (d+3))) (.pointer (some ⟨c,0,none⟩)) (.pointer (some ⟨p,0,none⟩)) (.int .i64 0) (.int .i64 0) (.int .i64 (q:Int)) (.int .i64 ((i+1:Nat):Int)))
  (fun i q h' n'=>n'=n∧(∀b,b≠p->b<n->h'.get b=h.get b)∧i<=bs.length∧q=num (bs.take i) 0∧bP h' n p S D (A+i)∧oM ln bs i) ?_ ?_ lf 0 0 _ _ (cb _) (by omega) ⟨rfl,fun _ _ _=>rfl,cb _,rfl,x,by unfold oM;rw[JL w];exact cb _⟩
 ·rintro fu q h' n' ⟨rfl,hk,hb,rfl,x',zM⟩
  have h1:=w.full
  have h2:=oK (bs.take 20)
  unfold oM at zM
  rw[h1]at zM
  rw[dW,nR hb]at h2
  omega
 ·rintro fu i q h' n' m9 ⟨rfl,hk,hb,rfl,x',zM⟩ next
  have e1:((i+1:Nat):Int)<=20:=by omega
  have e11:((1:Nat):Int)=1:=rfl
  have adV:bR S D (A+i)=bs.drop i:=by rw[<-zC xlo,dH]
  rw[wV]
  try simp(disch:=first|omega|assumption|exact aa _) only[ag,ae,RZ,e1]
  refine aI aF (xw (lf:=lf) (d:=d) x' 1 (by omega) (by omega)) (ak _) (fun b _ bM=> .inr bM) fun v1 h1 n1 bb bJ hq=> ?_
  obtain⟨rfl,hq⟩:=hq
  rw[adV]at hq
  rcases hq with ⟨sh,rfl,rfl⟩|⟨lg,rfl,x1⟩
  ·have z1:((3:Int) !=0)=true:=rfl
   try simp(disch:=first|omega|assumption|exact aa _) only[ag,ae,RZ,cw,ext1,z1]
   (try unfold y7);(try dsimp only)
   try simp(disch:=first|omega|assumption|exact aa _) only[ag,ae,RZ]
   have bl:bs.length=i:=by simp at sh;omega
   refine .inl ⟨adf fun s m=> ?_,_,x'⟩
   have:=zM.no (by omega) (i:=s) (by have:=m.2.1;omega)
   exact this m
  ·have gL:i<bs.length:=by simp at lg;omega
   have z0:((0:Int) !=0)=false:=rfl
   have t1:(bs.drop i).take 1=[bs[i]]:=by rw[List.drop_eq_getElem_cons gL,List.take_succ_cons,List.take_zero]
   have tk:bs.take (i+1)=bs.take i++[bs[i]]:=mQ gL
   have nb:num [bs[i]] 0=bn bs[i]:=by show 2*0+bn bs[i]=_;omega
   have nn:num (bs.take (i+1)) 0=2*num (bs.take i) 0+bn bs[i]:=by rw[tk,JE]
   have bl:=qY bs[i]
   have pw:=oK (bs.take (i+1))
   rw[dW,nR (by omega)]at pw
   have p20:2^(i+1)<=2^20:=rC (by decide) (by omega)
   have fle:=zM.next gL
   have frl:bC ln (i+1)<=258:=xM (D8 ln _) hl
   have aiN:bC ln (i+1+1)<=258:=xM (D8 ln _) hl
   have adR:=w.cap (n:=i+1) (by omega)
   rw[t1,nb]
   have nG:h1.get c=some ⟨111,true,dI lv cv ov (ck (bQ ln) 20) (ck (bC ln) 21)⟩:=by rw[bJ c (by omega) cp,hk c cp (by omega)];exact g
   have c1:(dI lv cv ov (ck (bQ ln) 20) (ck (bC ln) 21))[3+(i+1)]? =some (.int .i64 (bQ ln (i+1):Int)):=by rw[adG (by omega),J3 (by omega)]
   have c2:(dI lv cv ov (ck (bQ ln) 20) (ck (bC ln) 21))[24+(i+1)]? =some (.int .i64 (bC ln (i+1):Int)):=by rw[Ux (by omega),J3 (by omega)]
   have c3:(dI lv cv ov (ck (bQ ln) 20) (ck (bC ln) 21))[24+(i+1+1)]? =some (.int .i64 (bC ln (i+1+1):Int)):=by rw[Ux (by omega),J3 (by omega)]
   have c4:(dI lv cv ov (ck (bQ ln) 20) (ck (bC ln) 21))[2]? =some ov:=rfl
   have w1:IntKind.i64.wrap (2*((num (bs.take i) 0:Nat):Int))=((2*num (bs.take i) 0:Nat):Int):=by rw[aV (by omega) (by omega)];omega
   have w2:IntKind.i64.wrap ((bn bs[i]:Nat):Int)=((bn bs[i]:Nat):Int):=aV (by omega) (by omega)
   have w3:IntKind.i64.wrap (((2*num (bs.take i) 0:Nat):Int)+((bn bs[i]:Nat):Int))=((num (bs.take (i+1)) 0:Nat):Int):=by rw[aV (by omega) (by omega)];omega
   have w4:IntKind.i64.wrap (((bC ln (i+1):Nat):Int)+((num (bs.take (i+1)) 0:Nat):Int))=((bC ln (i+1)+num (bs.take (i+1)) 0:Nat):Int):=by rw[aV (by omega) (by omega)];omega
   have w5:IntKind.i64.wrap (((bC ln (i+1)+num (bs.take (i+1)) 0:Nat):Int)-((bQ ln (i+1):Nat):Int))=((bC ln (i+1)+(num (bs.take (i+1)) 0-bQ ln (i+1)):Nat):Int):=by rw[aV (by omega) (by omega)];omega
   have w6:IntKind.i64.wrap (((i+1:Nat):Int)+1)=((i+1+1:Nat):Int):=by rw[aV (by omega) (by omega)];rfl
   have UE:((i+1:Nat):Int)+1=((i+1+1:Nat):Int):=rfl
   have i0:(0:Int)<=((i+1:Nat):Int):=by omega
   have i1:((i+1:Nat):Int)<21:=by omega
   have i2:((i+1:Nat):Int)<22:=by omega
   have i3:(0:Int)<=((i+1+1:Nat):Int):=by omega
   have i4:((i+1+1:Nat):Int)<22:=by omega
   have it:((i+1:Nat):Int).toNat=i+1:=rfl
   have UF:((i+1+1:Nat):Int).toNat=i+1+1:=rfl
   have cn':c<n1:=by omega
   have fs:bC ln (i+1+1)=bC ln (i+1)+cn ln (i+1):=rfl
   by_cases found:num (bs.take (i+1)) 0<bQ ln (i+1)+cn ln (i+1)
   ·have e5:((bC ln (i+1)+(num (bs.take (i+1)) 0-bQ ln (i+1)):Nat):Int)<((bC ln (i+1+1):Nat):Int):=by omega
    obtain⟨s,hs⟩:=hit (ln:=ln) (bs:=bs) (n:=i+1) (by omega) fle found
    rcases hs with ⟨A7,fx⟩|hs
    rotate_left
    ·omega
    obtain⟨mt,fO⟩:=fx (by omega)
    have o1':Row h1 n1 3 .i64 ov (iN (iu ln 21)):=(o1.fC (n':=n1) hh fun b bM=>by
     have h1:=o1.lt bM
     have h2:=o2 b bM
     rw[bJ b (by omega) (by omega)];exact hk b (by omega) (by omega))
    have ol:(iN (iu ln 21)).length=bC ln 21:=by rw[dD,oN]
    have rl:bC ln (i+1)+(num (bs.take (i+1)) 0-bQ ln (i+1))<bC ln 21:=by
     have:=(List.getElem?_eq_some_iff.1 A7).1
     rw[oN]at this
     exact this
    obtain⟨b,off,cap,o,ks,iG,hgo,A4,_,_,_,cI⟩:=o1'.some (by omega)
    have co:=cI _ (by rw[ol];exact rl)
    have cs:(iN (iu ln 21)).getD (bC ln (i+1)+(num (bs.take (i+1)) 0-bQ ln (i+1))) 0=(s:Int):=by
     rw[pU,aC,A7]
     rfl
    rw[cs]at co
    rw[ol]at iG
    subst iG
    have e6:(0:Int)<=((bC ln (i+1)+(num (bs.take (i+1)) 0-bQ ln (i+1)):Nat):Int):=by omega
    have e7:((bC ln (i+1)+(num (bs.take (i+1)) 0-bQ ln (i+1)):Nat):Int)<((bC ln 21:Nat):Int):=by omega
    try simp(disch:=first|omega|assumption|exact aa _) only[ag,ae,RZ,cw,ext1,z0,w1,w2,w3,nG,i0,i1,i2,i3,i4,it,UF,c1,c2,c3,c4,w4,w5,w6,UE,e5,e6,e7,hgo,co]
    (try unfold y7);(try dsimp only)
    try simp(disch:=first|omega|assumption|exact aa _) only[ag,ae,RZ]
    refine .inr ⟨s,T0 mt,rfl, ?_⟩
    rw[fO]
    exact x1
   ·have e5:¬((bC ln (i+1)+(num (bs.take (i+1)) 0-bQ ln (i+1)):Nat):Int)<((bC ln (i+1+1):Nat):Int):=by omega
    try simp(disch:=first|omega|assumption|exact aa _) only[ag,ae,RZ,cw,ext1,z0,w1,w2,w3,nG,i0,i1,i2,i3,i4,it,UF,c1,c2,c3,w4,w5,w6,UE,e5]
    refine next _ _ _ ⟨rfl,fun b nY cW=>by rw[bJ b cW nY];exact hk b nY cW,by omega,rfl,x1, ?_⟩
    unfold oM
    omega
theorem adW(x:bP h n p S D A)(k:lk h lo hi c ln)(w:Wh ln)(hh:hi<=n)(hp:p<lo)(hl:ln.length<=258)(aw:100<=lf):ah (fun b=>b=p) n (aq ai gt lf (d+5) 93 #[.pointer (some ⟨c,0,none⟩),.pointer (some ⟨p,0,none⟩)]) h n fun v h' n'=>n'=n∧
 ((l7 ln (bR S D A)=none∧v= .tuple #[.int .i64 0,.int .i64 3]∧bP h' n p S D A)∨∃s,l7 ln (bR S D A)=some s∧v= .tuple #[.int .i64 (s:Int),.int .i64 0]∧bP h' n p S D (A+ln.getD s 0)):=by
 rw[aD (fun _=>QL) rfl]
 refine ah.aB ?_
 unfold Io
 try simp(disch:=first|omega|assumption|exact aa _) only[ag,ae,RZ]
 refine bV (xu x) (ak _) (fun _ _ h=>h.elim) ?_
 refine aI aF (adT (d:=d) x k w hh hp hl aw) (ak _) (fun b _ bM=> .inr bM) fun v1 h1 n1 bb bJ hq=> ?_
 obtain⟨rfl,hq⟩:=hq
 rcases hq with ⟨q1,rfl,B,x1⟩|⟨s,q1,rfl,x1⟩
 ·have z1:((3:Int) !=0)=true:=rfl
  try simp(disch:=first|omega|assumption|exact aa _) only[ag,ae,RZ,cw,ext1,z1]
  refine aI aF (zD (lf:=lf) (d:=d+2) x1 A x.lo x.hi) (ak _) (fun b _ bM=> .inr bM) fun v2 h2 n2 dZ dq dx=> ?_
  obtain⟨_,rfl,x2⟩:=dx
  try simp(disch:=first|omega|assumption|exact aa _) only[ag,ae,RZ]
  exact .inl ⟨q1,x2⟩
 ·have z0:((0:Int) !=0)=false:=rfl
  try simp(disch:=first|omega|assumption|exact aa _) only[ag,ae,RZ,cw,ext1,z0]
  exact .inr ⟨s,q1,rfl,x1⟩
end
inductive St (α:Type)
 |short
 |bad (e:Int)
 |ok (a:α) (used:Nat)
def lq(m:Int)(lens:List Nat)(used:Nat):St (Nat×List Nat):=if 1<=m∧m<=20 then .ok (m.toNat,lens) used else .bad 22
def eh(now:Nat)(lens:List Nat)(bs:List Bool):St (Nat×List Nat):=
 if now=0 then(if bs.length<5 then .short else lq (num (bs.take 5) 0:Int) lens 5)
 else match bs with
  |[]=> .short
  |false::_=> .ok (now,lens++[now]) 1
  |[true]=> .short
  |true::b::_=>lq ((now:Int)+1-2*(bn b:Int)) lens 2
def dB(size now:Nat)(lv:Value)(dE:Bool):AB:=⟨130,true,[.int .i64 (size:Int),.int .i64 (now:Int),lv,.bool dE]⟩
structure fX (h:H) (lo n q size now:Nat) (lv:Value) (lens:List Nat) (dE:Bool):Prop where
 get:h.get q=some (dB size now lv dE)
 ge:lo<=q
 lt:q<n
 own:Own h lo n 3 lv (aL .i64 (iN lens))
theorem fX.ne{h:H}{lo n q size now:Nat}{lv:Value}{lens:List Nat}{dE:Bool}(x:fX h lo n q size now lv lens dE){b:Nat}(hb:ar lv b):b≠q:=fun e=>by
 obtain⟨B,h1,h2⟩:=x.own.elem hb
 rw[e,x.get]at h1
 cases h1
 exact absurd (show(130:Nat)=3 from h2) (by decide)
theorem fX.ax{h h':H}{lo n n' q size now:Nat}{lv:Value}{lens:List Nat}{dE:Bool}(x:fX h lo n q size now lv lens dE)(hn:n<=n')(hk:∀b,b<n->(b=q∨ar lv b)->h'.get b=h.get b):fX h' lo n' q size now lv lens dE:=
 ⟨(hk q x.lt (.inl rfl)).trans x.get,x.ge,mL x.lt hn,x.own.ax hn fun b hb=>hk b (x.own.lt hb).2 (.inr hb)⟩
section
variable {lf d n p q lo size now:Nat} {h:H} {S:List UInt8} {D A:Nat} {lv:Value} {lens:List Nat} {dE:Bool}
theorem adX(z:Int):ah (fun _=>False) n (aq ai gt lf (d+1) 91 #[.int .i64 z]) h n fun v' h' n'=>v'= .bool (decide (3<=z)&&decide (z<=258))∧h'=h∧n'=n:=by
 rw[aD (fun _=>Im) rfl]
 refine ah.aB ?_
 unfold CU
 by_cases c:3<=z
 ·try simp(disch:=first|omega|assumption|exact aa _) only[ag,ae,RZ,c]
 ·try simp(disch:=first|omega|assumption|exact aa _) only[ag,ae,RZ,c]
theorem adY(z:Int):ah (fun _=>False) n (aq ai gt lf (d+1) 107 #[.int .i64 z]) h n fun v' h' n'=>v'= .bool (decide (1<=z)&&decide (z<=20))∧h'=h∧n'=n:=by
 rw[aD (fun _=>IA) rfl]
 refine ah.aB ?_
 unfold C8
 by_cases c:1<=z
 ·try simp(disch:=first|omega|assumption|exact aa _) only[ag,ae,RZ,c]
 ·try simp(disch:=first|omega|assumption|exact aa _) only[ag,ae,RZ,c]
theorem UG(h3:3<=size)(ek:size<=258):ah (fun _=>False) n (aq ai gt lf (d+2) 56 #[.int .i64 (size:Int)]) h n fun v h' n'=>v= .tuple #[.pointer (some ⟨n,0,none⟩),.int .i64 0]∧n'=n+1∧fX h' n n' n size 0 (.slice none 0 0) [] false:=by
 rw[aD (fun _=>P') rfl]
 refine ah.aB ?_
 unfold H2
 refine bV (adX (size:Int)) (ak _) (fun _ _ h=>h.elim) ?_
 rw[decide_eq_true (show(3:Int)<=(size:Int) by omega),decide_eq_true (show(size:Int)<=258 by omega)]
 try simp(disch:=first|omega|assumption|exact aa _) only[ag,ae,RZ,mO,gu]
 refine pL trivial _ _ ?_
 try simp(disch:=first|omega|assumption|exact aa _) only[ag,ae,RZ]
 exact⟨get_eq _ _ _,ak _,by omega,Own.nil _ _ _ _⟩
theorem UH(x:fX h lo n q size now lv lens dE):ah (fun _=>False) n (aq ai gt lf (d+1) 96 #[.pointer (some ⟨q,0,none⟩)]) h n fun v' h' n'=>v'= .bool (decide (lens.length=size))∧h'=h∧n'=n:=by
 have g:=x.get
 have hq:=x.lt
 unfold dB at g
 have hr:=x.own.row
 obtain⟨a,c,rfl⟩:=hr.len
 rw[aD (fun _=>QO) rfl]
 refine ah.aB ?_
 unfold Ir
 have e:((((iN lens).length:Nat):Int)==(size:Int))=decide (lens.length=size):=by
  rw[dD]
  by_cases e:lens.length=size
  ·rw[decide_eq_true e,e];simp
  ·rw[decide_eq_false e];exact beq_eq_false_iff_ne.2 fun q=>e (by omega)
 try simp(disch:=first|omega|assumption|exact aa _) only[ag,ae,RZ,bk,bm,bp,bq,bt,bu,bx,bz,bA,bB,g,e]
theorem adZ(x:fX h lo n q size now lv lens dE)(h0:0<lens.length)(hl:lens.length<=1000):ah (fun _=>False) n (aq ai gt lf (d+2) 97 #[.pointer (some ⟨q,0,none⟩)]) h n fun v' h' n'=>Row h' n' 3 .i64 v' (iN lens):=by
 have g:=x.get
 have hq:=x.lt
 unfold dB at g
 rw[aD (fun _=>QP) rfl]
 refine ah.aB ?_
 unfold Is
 try simp(disch:=first|omega|assumption|exact aa _) only[ag,ae,RZ,bk,bm,bp,bq,bt,bu,bx,bz,bA,bB,g]
 refine aI aF (vn lf d n h lv (iN lens) x.own.row (by rw[dD];exact h0) (by rw[dD];omega)) (ak _) (fun _ _ h=>h.elim) fun v1 h1 n1 bb bJ hq=> ?_
 try simp(disch:=first|omega|assumption|exact aa _) only[ag,ae,RZ]
 exact hq.2.1
theorem ad0(x:fX h lo n q size now lv lens dE)(m:Int):ah (fun b=>b=q) n (aq ai gt lf (d+2) 138 #[.pointer (some ⟨q,0,none⟩),.int .i64 m]) h n fun v' h' n'=>n'=n∧(∀b,b≠q->h'.get b=h.get b)∧((¬(1<=m∧m<=20)∧v'= .int .i64 22∧h'.get q=some (dB size now lv true))∨((1<=m∧m<=20)∧v'= .int .i64 0∧h'.get q=some (dB size m.toNat lv dE))):=by
 have g:=x.get
 have hq:=x.lt
 unfold dB at g
 rw[aD (fun _=>R6) rfl]
 refine ah.aB ?_
 unfold IM
 refine bV (adY m) (ak _) (fun _ _ h=>h.elim) ?_
 by_cases c:1<=m∧m<=20
 ·rw[decide_eq_true c.1,decide_eq_true c.2]
  try simp(disch:=first|omega|assumption|exact aa _) only[ag,ae,RZ,bk,bm,bp,bq,bt,bu,bx,bz,bA,bB,mO,gu,g,true_or,or_true]
  exact⟨fun b hb=>aA _ _ hb,.inr ⟨c,by unfold dB;rw[Int.toNat_of_nonneg (by omega)]⟩⟩
 ·have:(decide (1<=m)&&decide (m<=20))=false:=by
   cases e:(decide (1<=m)&&decide (m<=20))with
   |false=>rfl
   |true=>rw[bZ,decide_eq_true_eq,decide_eq_true_eq]at e;exact absurd e c
  rw[this]
  try simp(disch:=first|omega|assumption|exact aa _) only[ag,ae,RZ,bk,bm,bp,bq,bt,bu,bx,bz,bA,bB,gZ,g,true_or,or_true]
  exact⟨fun b hb=>aA _ _ hb,.inl ⟨c,rfl⟩⟩
def xz(h:H)(n p:Nat)(S:List UInt8)(D A lo q size now:Nat)(lv:Value)(lens:List Nat)(v':Value)(h':H)(n':Nat):Prop:=
 match eh now lens (bR S D A)with
 | .short=>v'= .int .i64 3∧bP h' n' p S D A∧fX h' lo n' q size now lv lens false
 | .bad e=>v'= .int .i64 e∧(∃B,bP h' n' p S D B)∧fX h' lo n' q size now lv lens true
 | .ok (m,l) u=>v'= .int .i64 0∧bP h' n' p S D (A+u)∧∃gP,fX h' lo n' q size m gP l false∧∀b,ar gP b->ar lv b∨n<=b
theorem ad1(x:bP h n p S D A)(y:fX h lo n q size now lv lens false)(dO:p≠q)(dN:¬ar lv p)(UI:now<=20)(hl:lens.length<=1000)(j8:lo<=n)(aw:100<=lf):
 ah (fun b=>b=p∨b=q∨ar lv b) n (aq ai gt lf (d+4) 123 #[.pointer (some ⟨q,0,none⟩),.pointer (some ⟨p,0,none⟩)]) h n fun v' h' n'=>(v'= .int .i64 3∧eh now lens (bR S D A)= .short∧(∃B,bP h' n' p S D B)∧fX h' lo n' q size now lv lens false)∨(v'≠ .int .i64 3∧eh now lens (bR S D A)≠ .short∧xz h n p S D A lo q size now lv lens v' h' n'):=by
 have g:=y.get
 have hq:=y.lt
 unfold dB at g
 obtain⟨bs,dH⟩:∃bs,bR S D A=bs:=⟨_,rfl⟩
 rw[aD (fun _=>Rz) rfl]
 refine ah.aB ?_
 unfold IG xz
 have z1:((3:Int) !=0)=true:=rfl
 have z0:((0:Int) !=0)=false:=rfl
 have e1:((1:Nat):Int)=1:=rfl
 have dk:∀{h1:H},(∀b,b<n->¬b=p->h1.get b=h.get b)->fX h1 lo n q size now lv lens false:=fun fr=>y.ax (ak _) fun b hb cW=>fr b hb (by
  rcases cW with rfl|cW
  ·exact fun e=>dO e.symm
  ·exact fun e=>dN (e▸cW))
 have told:∀(h1:H) (n1:Nat) (m:Int) (u:Nat),n1=n->(∀b,b<n->¬b=p->h1.get b=h.get b)->bP h1 n1 p S D (A+u)->eh now lens bs=lq m lens u->
  ah (fun b=>b=p∨b=q∨ar lv b) n (au (aq ai gt lf (d+3)) 138 [.pointer (some ⟨q,0,none⟩),.int .i64 m] fun v=>aj [v]) h1 n1 fun v' h' n'=>(v'= .int .i64 3∧eh now lens bs= .short∧(∃B,bP h' n' p S D B)∧fX h' lo n' q size now lv lens false)∨(v'≠ .int .i64 3∧eh now lens bs≠ .short∧match eh now lens bs with
   | .short=>v'= .int .i64 3∧bP h' n' p S D A∧fX h' lo n' q size now lv lens false
   | .bad e=>v'= .int .i64 e∧(∃B,bP h' n' p S D B)∧fX h' lo n' q size now lv lens true
   | .ok (m,l) u=>v'= .int .i64 0∧bP h' n' p S D (A+u)∧∃gP,fX h' lo n' q size m gP l false∧∀b,ar gP b->ar lv b∨n<=b):=by
  rintro h1 n1 m u rfl fr x1 cS
  have y1:=dk fr
  refine aI aF (ad0 (d:=d+1) y1 m) (ak _) (fun b _ hb=> .inr (.inr (.inl hb))) fun v2 h2 n2 dZ dq dx=> ?_
  obtain⟨rfl,k2,dx⟩:=dx
  have x2:=x1.ax (ak _) (k2 p dO)
  have o2:Own h2 lo _ 3 lv (aL .i64 (iN lens)):=y1.own.ax (ak _) fun b hb=>k2 b (y1.ne hb)
  try simp(disch:=first|omega|assumption|exact aa _) only[ag,ae,RZ]
  refine .inr ?_
  rw[cS]
  unfold lq
  rcases dx with ⟨c,rfl,g2⟩|⟨c,rfl,g2⟩
  ·rw[if_neg c]
   exact⟨by simp,by simp,rfl,⟨_,x2⟩,g2,y.ge,hq,o2⟩
  ·rw[if_pos c]
   exact⟨by simp,by simp,rfl,x2,lv,⟨g2,y.ge,hq,o2⟩,fun b hb=> .inl hb⟩
 by_cases hz:now=0
 ·have e0:((now:Int)==0)=true:=by rw[hz];rfl
  rw[dH]
  try simp(disch:=first|omega|assumption|exact aa _) only[ag,ae,RZ,bk,bm,bp,bq,bt,bu,bx,bz,bA,bB,g,e0]
  refine aI aF (xw (lf:=lf) (d:=d) x 5 (by omega) (by omega)) (ak _) (fun b _ hb=> .inr (.inl hb)) fun v1 h1 n1 bb bJ aU=> ?_
  obtain⟨rfl,aU⟩:=aU
  rw[dH]at aU
  rcases aU with ⟨sh,rfl,rfl⟩|⟨lg,rfl,x1⟩
  ·try simp(disch:=first|omega|assumption|exact aa _) only[ag,ae,RZ,cw,ext1,z1]
   refine .inl ⟨by unfold eh;rw[if_pos hz,if_pos sh],⟨_,x⟩,y⟩
  ·have nl:=oK (bs.take 5)
   rw[dW,nR lg]at nl
   have w1:IntKind.i64.wrap ((num (bs.take 5) 0:Nat):Int)=((num (bs.take 5) 0:Nat):Int):=aV (by omega) (by omega)
   try simp(disch:=first|omega|assumption|exact aa _) only[ag,ae,RZ,cw,ext1,z0,w1]
   exact told h1 n1 _ 5 rfl (fun b hb cW=>bJ b hb cW) x1 (by unfold eh;rw[if_pos hz,if_neg (by omega)])
 ·have e0:((now:Int)==0)=false:=beq_eq_false_iff_ne.2 (by omega)
  rw[dH]
  try simp(disch:=first|omega|assumption|exact aa _) only[ag,ae,RZ,bk,bm,bp,bq,bt,bu,bx,bz,bA,bB,g,e0]
  refine aI aF (xw (lf:=lf) (d:=d) x 1 (by omega) (by omega)) (ak _) (fun b _ hb=> .inr (.inl hb)) fun v1 h1 n1 bb bJ aU=> ?_
  obtain⟨rfl,aU⟩:=aU
  rw[dH]at aU
  rcases aU with ⟨sh,rfl,rfl⟩|⟨lg,rfl,x1⟩
  ·try simp(disch:=first|omega|assumption|exact aa _) only[ag,ae,RZ,cw,ext1,z1]
   have:bs=[]:=vL (by omega)
   refine .inl ⟨by unfold eh;rw[if_neg hz,this],⟨_,x⟩,y⟩
  ·obtain⟨b,lr,tz⟩:∃b lr,bs=b::lr:=by
    cases bs with
    |nil=>simp at lg
    |cons b lr=>exact⟨b,lr,rfl⟩
   subst tz
   have nb:num ((b::lr).take 1) 0=bn b:=by show 2*0+bn b=_;omega
   have y1:=dk (h1:=h1) fun c hc fh=>bJ c hc fh
   have g1:=y1.get
   unfold dB at g1
   rw[nb]
   cases b with
   |false=>
    have ez:(((bn false:Nat):Int)==0)=true:=rfl
    have cv:∀z:Value,[iy .i64 (size:Int),.int .i64 (now:Int),lv,.bool false].set 2 z=[iy .i64 (size:Int),.int .i64 (now:Int),z,.bool false]:=fun _=>rfl
    try simp(disch:=first|omega|assumption|exact aa _) only[ag,ae,RZ,cw,ext1,z0,ez,g1]
    refine xq trivial (oF _ _) y1.own (by rw[eF,dD];omega) (fun c hc=> .inr (.inr (.inr hc))) _ fun h2 g2 k2=> ?_
    have g3:h2.get q=some ⟨130,true,[.int .i64 (size:Int),.int .i64 (now:Int),lv,.bool false]⟩:=by rw[k2 q (by omega) fun r=>y1.ne r rfl];exact g1
    have dx:q<n1+2:=by omega
    have Ee:=x1.lt
    try simp(disch:=first|omega|assumption|exact aa _) only[ag,ae,RZ,g3,cv]
    have on:aL .i64 (iN (lens++[now]))=aL .i64 (iN lens)++[.int .i64 (now:Int)]:=by
     rw[JY,D9];rfl
    refine .inr ⟨by simp, ?_⟩
    have es:eh now lens (false::lr)= .ok (now,lens++[now]) 1:=by unfold eh;rw[if_neg hz]
    rw[es]
    refine⟨by simp,x1.ax (by omega) ?_,_,⟨get_eq _ _ _,y.ge,dx, ?_⟩,fun c hc=> .inr (by rw[hc.inj];omega)⟩
    ·rw[aA _ _ dO,k2 p Ee dN]
    ·rw[on]
     exact .inr ⟨n1+1,by simp,by rw[aA _ _ (by omega)];exact g2,by omega,by omega⟩
   |true=>
    have ez:(((bn true:Nat):Int)==0)=false:=rfl
    try simp(disch:=first|omega|assumption|exact aa _) only[ag,ae,RZ,cw,ext1,z0,ez]
    have ad2:bR S D (A+1)=lr:=by rw[<-zC x.lo,dH];rfl
    refine aI aF (xw (lf:=lf) (d:=d) x1 1 (by omega) (by omega)) (ak _) (fun b _ hb=> .inr (.inl hb)) fun v3 h3 n3 fp dA gQ=> ?_
    obtain⟨rfl,gQ⟩:=gQ
    rw[ad2]at gQ
    rcases gQ with ⟨sh,rfl,rfl⟩|⟨lg3,rfl,x3⟩
    ·try simp(disch:=first|omega|assumption|exact aa _) only[ag,ae,RZ,cw,ext1,z1]
     have:lr=[]:=vL (by omega)
     refine .inl ⟨by unfold eh;rw[if_neg hz,this],⟨_,x1⟩,y1⟩
    ·obtain⟨b2,zN,cW⟩:∃b zN,lr=b::zN:=by
      cases lr with
      |nil=>simp at lg3
      |cons b zN=>exact⟨b,zN,rfl⟩
     subst cW
     have nb2:num ((b2::zN).take 1) 0=bn b2:=by show 2*0+bn b2=_;omega
     rw[nb2]
     have y3:=dk (h1:=h3) fun c hc fh=>(dA c hc fh).trans (bJ c hc fh)
     have g3:=y3.get
     unfold dB at g3
     have bl:=qY b2
     have w1:IntKind.i64.wrap ((now:Int)+1)=(now:Int)+1:=aV (by omega) (by omega)
     have w2:IntKind.i64.wrap ((bn b2:Nat):Int)=((bn b2:Nat):Int):=aV (by omega) (by omega)
     have w3:IntKind.i64.wrap (2*((bn b2:Nat):Int))=2*((bn b2:Nat):Int):=aV (by omega) (by omega)
     have w4:IntKind.i64.wrap ((now:Int)+1-2*((bn b2:Nat):Int))=(now:Int)+1-2*((bn b2:Nat):Int):=aV (by omega) (by omega)
     try simp(disch:=first|omega|assumption|exact aa _) only[ag,ae,RZ,cw,ext1,z0,g3,w1,w2,w3,w4]
     exact told h3 n3 _ 2 rfl (fun c hc fh=>(dA c hc fh).trans (bJ c hc fh)) x3 (by unfold eh;rw[if_neg hz])
theorem ad3(x:bP h n p S D A)(y:fX h lo n q size now lv lens false)(dO:p≠q)(dN:¬ar lv p)(UI:now<=20)(hl:lens.length<size)(hs:size<=258)(j8:lo<=n)(aw:100<=lf):
 ah (fun b=>b=p∨b=q∨ar lv b) n (aq ai gt lf (d+5) 95 #[.pointer (some ⟨q,0,none⟩),.pointer (some ⟨p,0,none⟩)]) h n (xz h n p S D A lo q size now lv lens):=by
 have g:=y.get
 have hq:=y.lt
 unfold dB at g
 rw[aD (fun _=>QN) rfl]
 refine ah.aB ?_
 unfold Iq
 try simp(disch:=first|omega|assumption|exact aa _) only[ag,ae,RZ]
 refine bV (UH (lf:=lf) (d:=d+3) y) (ak _) (fun _ _ h=>h.elim) ?_
 rw[decide_eq_false (show¬lens.length=size by omega)]
 try simp(disch:=first|omega|assumption|exact aa _) only[ag,ae,RZ,g]
 refine bV (xu (lf:=lf) (d:=d+3) x) (ak _) (fun _ _ h=>h.elim) ?_
 refine aI aF (ad1 (lf:=lf) (d:=d) x y dO dN UI (by omega) j8 aw) (ak _) (fun b _ hb=> .inr hb) fun v1 h1 n1 bb bJ aU=> ?_
 rcases aU with ⟨rfl,cS,⟨B,x1⟩,y1⟩|⟨hv,cS,hp⟩
 ·have e3:((3:Int)==3)=true:=rfl
  try simp(disch:=first|omega|assumption|exact aa _) only[ag,ae,RZ,e3]
  refine aI aF (zD (lf:=lf) (d:=d+2) x1 A x.lo x.hi) (by omega) (fun b _ hb=> .inr (.inl hb)) fun v2 h2 n2 dZ dq dx=> ?_
  obtain⟨_,rfl,x2⟩:=dx
  try simp(disch:=first|omega|assumption|exact aa _) only[ag,ae,RZ]
  unfold xz
  rw[cS]
  exact⟨rfl,x2,y1.ax (ak _) fun b hb cW=>dq b hb (by
   rcases cW with rfl|cW
   ·exact fun e=>dO e.symm
   ·exact fun e=>dN (e▸cW))⟩
 ·obtain⟨e,rfl⟩:∃e:Int,v1= .int .i64 e:=by
   unfold xz at hp
   split at hp
   ·exact⟨_,hp.1⟩
   ·exact⟨_,hp.1⟩
   ·exact⟨_,hp.1⟩
  have e3:(e==3)=false:=beq_eq_false_iff_ne.2 fun q=>hv (by rw[q])
  try simp(disch:=first|omega|assumption|exact aa _) only[ag,ae,RZ,e3]
  exact hp
end
def fY{α:Type}(E:En->Prop)(m:M α)(h:H)(n:Nat)(Q:α->H->Nat->Prop):Prop:=
 ∃a h1 n1 L,m h n=some ⟨a,h1,n1,L⟩∧n<=n1∧(∀e∈L,e.wr=true->E e)∧Q a h1 n1
section
variable {α β:Type} {E:En->Prop} {m:M α} {k:α->M β} {h h1:H} {n n1:Nat} {a:α} {L:List En} {Q:β->H->Nat->Prop}
theorem fY.step(e:m h n=some ⟨a,h1,n1,L⟩)(hn:n<=n1)(hw:∀e∈L,e.wr=true->E e)(x:fY E (k a) h1 n1 Q):fY E (m.bind k) h n Q:=by
 obtain⟨b,h2,n2,L2,e1,e2,e3,e4⟩:=x
 refine⟨b,h2,n2,L++L2,cD e e1,by omega,fun x hx=> ?_,e4⟩
 rcases List.mem_append.1 hx with q|q
 ·exact hw x q
 ·exact e3 x q
theorem fY.aB{Q':α->H->Nat->Prop}(x:fY E m h n Q'):fY E (inside m) h n Q':=by
 obtain⟨a,h1,n1,L,e1,e2,e3,e4⟩:=x
 exact⟨a,h1,n1,_,kR e1,e2,fun e he=>e3 e (List.mem_filter.1 he).1,e4⟩
theorem fY.run{Q':α->H->Nat->Prop}{W:Nat->Prop}{n0:Nat}(x:fY E m h n Q')(hE:∀e,E e->n0<=e.b∨W e.b):ah W n0 m h n Q':=by
 obtain⟨a,h1,n1,L,e1,e2,e3,e4⟩:=x
 exact⟨a,h1,n1,L,e1,e2,fun e he hw=>hE e (e3 e he hw),e4⟩
theorem ad4{QV:Value->H->Nat->Prop}(v:Value)(x:QV v h n):fY E (aj [v]) h n QV:=
 ⟨v,h,n,[],rfl,ak _,fun e he=>(nomatch he),x⟩
end
section
variable {β:Type} {E:En->Prop} {h h1:H} {n n1:Nat} {Q:β->H->Nat->Prop} {P:Program}
theorem fY.ins{m:M Value}{v:Value}{L:List En}{k:Value->M β}(e:m h n=some ⟨v,h1,n1,L⟩)(hn:n<=n1)(hw:∀e∈L,e.wr=true->E e)(x:fY E (k v) h1 n1 Q):fY E (eN m k) h n Q:=by
 rw[ki]
 exact fY.step (kR e) hn (fun x hx ya=>hw x (List.mem_filter.1 hx).1 ya) x
theorem UJ{T:Prop}(_:T)(b off:Nat)(k:Value->M β){B:AB}(hg:h.get b=some B)(hb:b<n){v:Value}(hv:B.cells[off]? =some v)(x:fY E (k v) h n Q):fY E (av (.pointer (some ⟨b,off,none⟩)) k) h n Q:=by
 have e:wu b off h n=some ⟨v,h,n,[⟨false,b,some off⟩]⟩:=by
  rw[BJ]
  unfold rd
  simp only[hb,hg,hv,if_true]
 exact fY.ins e (ak _) (by simp) x
theorem UK{T:Prop}(_:T)(b off:Nat)(v:Value)(k:Value->M β){e:TypeId}{cs:List Value}(hg:h.get b=some ⟨e,true,cs⟩)(hb:b<n)(ho:off<cs.length)(h1:one v=true)(hw:E ⟨true,b,some off⟩)(x:fY E (k undef) (h.set b (some ⟨e,true,cs.set off v⟩)) n Q):
 fY E (bE (.pointer (some ⟨b,off,none⟩)) v k) h n Q:=by
 have j6:wr b off v h n=some ⟨(),h.set b (some ⟨e,true,cs.set off v⟩),n,[⟨false,b,some off⟩,⟨true,b,some off⟩]⟩:=by
  unfold wr
  simp[hb,hg,ho,h1]
 have e2:((tZ b off v).bind fun _=>M.ret undef) h n=some ⟨undef,h.set b (some ⟨e,true,cs.set off v⟩),n,[⟨false,b,some off⟩,⟨true,b,some off⟩]⟩:=by
  rw[BK]
  have:=cD (f:=fun _=>M.ret undef) j6 (L2:=[]) (b:=undef) (h2:=h.set b (some ⟨e,true,cs.set off v⟩)) (n2:=n) rfl
  simpa using this
 show fY E (match one v with
  |true=>eN ((tZ b off v).bind fun _=>M.ret undef) k
  |false=> .fail) h n Q
 rw[h1]
 refine fY.ins e2 (ak _) (fun y hy kP=> ?_) x
 simp at hy
 rcases hy with rfl|rfl
 ·cases kP
 ·exact hw
end
section
variable {β:Type} {W:Nat->Prop} {n0:Nat} {h:H} {n:Nat} {Q:β->H->Nat->Prop} {P:Program}
theorem ad5 (hd:mw P=true) {gt:Nat->Hint} {lf d:Nat} {f:FuncId} {vs:List Value} {E:En->Prop} {Q':Value->H->Nat->Prop} {q:Nat} (s:fY E (aq P gt lf d f ⟨vs⟩) h n Q') (hE:∀e,E e->e.b=q) (hn:n0<=n) (hW:n0<=q∨W q) {k:Value×Tk->M β}
 (x:∀v h1 n1 T,n<=n1->(∀b,b<n->b≠q->h1.get b=h.get b)->Q' v h1 n1->T.n=n->(∀e∈T.log,e.b<n)->(∀e∈T.log,e.wr=true->E e)->ah W n0 (k (v,T)) h1 n1 Q):ah W n0 ((cz (au (aq P gt lf d) f vs M.ret)).bind k) h n Q:=by
 obtain⟨v,h1,n1,L,e1,e2,e3,e4⟩:=s
 obtain⟨f0,e0⟩:=Ch hd d f ⟨vs⟩ h n v h1 n1 L e1
 have A:=Loc.cM P KN f0 f ⟨vs⟩ h n v h1 n1 L (e0 f0 (ak _))
 have bf:∀e∈L.filter (fun e=> !(decide (n<=e.b)&&decide (e.b<n1))),e.b<n:=fun e he=>by
  obtain⟨h1,h2⟩:=List.mem_filter.1 he
  have:=A.lt e h1
  simp at h2
  omega
 have j6:∀e∈L.filter (fun e=> !(decide (n<=e.b)&&decide (e.b<n1))),e.wr=true->E e:=fun e he hw=>e3 e (List.mem_filter.1 he).1 hw
 exact yL (yM e1) e2 (fun e he hw=>by rw[hE e (j6 e he hw)];exact hW) (x v h1 n1 _ e2 (fun b hb hq=>Hs hd e1 (W':=fun b=>b=q) (fun e he hw=> .inr (hE e (e3 e he hw))) b hb hq) e4 rfl bf j6)
theorem ad6{a b:Tk}{p off:Nat}{E:En->Prop}(h1:a.n=n)(h2:a.n1=n)(h3:a.log=[⟨false,p,some off⟩])(h4:b.n=n)(h5:∀e∈b.log,e.b<n)(h6:∀e∈b.log,e.wr=true->E e)(hp:p<n)(hE:∀e,E e->∃j,e.k=some j∧j≠off):mv a b=false:=by
 rw[yA]
 unfold Tk.g8
 simp only[vH,List.any_eq_false,bZ,decide_eq_true_eq,not_and,h3,List.mem_singleton]
 refine⟨⟨⟨fun x hx hw=> ?_,fun x hx hw=> ?_⟩,fun x hx hle=> ?_⟩,fun x hx hle=> ?_⟩
 ·subst hx;cases hw
 ·simp only[List.any_cons,List.any_nil,Bool.or_false,Bool.not_eq_true]
  unfold En.meets
  obtain⟨j,h7,h8⟩:=hE x (h6 x hx hw)
  simp[h7,h8]
 ·subst hx
  simp only at hle⊢
  omega
 ·have:=h5 x hx
  omega
theorem ad7{A:M Value}{B:M β}{k:Value×Tk->M β}(hB:B=A.bind fun v=>k (v,⟨0,0,[]⟩))(hk:∀v T,k (v,T)=k (v,⟨0,0,[]⟩))(x:ah W n0 B h n Q):ah W n0 ((cz A).bind k) h n Q:=by
 subst hB
 obtain⟨b,h2,n2,L,e1,e2,e3,e4⟩:=x
 obtain⟨a,h3,n3,L3,L4,eA,eK,rfl⟩:=Ev.bind_some e1
 exact⟨b,h2,n2,_,cD (yr eA) (by rw[hk];exact eK),e2,e3,e4⟩
theorem UL{m:M Value}(f:Value->M β):eN m f=(eN m M.ret).bind f:=by
 rw[ki,ki]
 funext h n
 unfold M.bind M.ret
 cases inside m h n with
 |none=>rfl
 |some r=>simp
theorem ad8{a v:Value}{k:Value×Tk->M β}(hk:∀v T,k (v,T)=k (v,⟨0,0,[]⟩))(x:ah W n0 (bE a v fun v=>k (v,⟨0,0,[]⟩)) h n Q):ah W n0 ((cz (bE a v M.ret)).bind k) h n Q:=by
 refine ad7 ?_ hk x
 unfold bE
 split
 ·split
  ·exact UL _
  ·rfl
 ·rfl
theorem ad9 {T:Prop} (c:T) {e:TypeId} {x:Value} (hx:one x=true) {lo:Nat} {v:Value} {cs:List Value} (o:Own h lo n e v cs) (hm:cs.length+1<=1099511627776) (hw:∀b,ar v b->n0<=b∨W b) (K:Value×Tk->Value×Tk->M β)
 (y:∀w T1 T2 h',h'.get (n+1)=some ⟨e,true,cs++[x]⟩->(∀b,b<n->¬ar v b->h'.get b=h.get b)->ah W n0 (K (w,T1) (.slice (some ⟨n+1,0,none⟩) (cs.length+1) (ba+(cs.length+1)),T2)) h' (n+2) Q):
 ah W n0 ((cz (fI e 1 x M.ret)).bind fun a=>(cz (fB e 1 v a.1 M.ret)).bind fun b=>K a b) h n Q:=by
 obtain⟨a,h2,n2,L,e1,e2,e3,e4⟩:=xq (Q:=fun v' h' n'=>v'=jF (some ⟨n+1,0,none⟩) (cs.length+1) (ba+(cs.length+1))∧n'=n+2∧h'.get (n+1)=some ⟨e,true,cs++[x]⟩∧∀b,b<n->¬ar v b->h'.get b=h.get b) c hx o hm hw M.ret fun h' g k=>(wG _).2 ⟨rfl,rfl,g,k⟩
 have e0:fI e 1 x (fun w=>fB e 1 v w M.ret)=(fI e 1 x M.ret).bind fun w=>fB e 1 v w M.ret:=by
  unfold fI
  split
  ·exact UL _
  ·rfl
 rw[e0]at e1
 obtain⟨w,h3,n3,L3,L4,eB,eA,rfl⟩:=Ev.bind_some e1
 obtain⟨rfl,rfl,g,k⟩:=e4
 obtain⟨b,h5,n5,L7,f1,f2,f3,f4⟩:=y w ⟨n,n3,L3⟩ ⟨n3,n+2,L4⟩ _ g k
 refine⟨b,h5,n5,_,cD (yr eB) (cD (yr eA) f1),by omega,fun r hr=> ?_,f4⟩
 simp only[List.mem_append]at hr e3
 rcases hr with hr|hr|hr
 ·exact e3 r (.inl hr)
 ·exact e3 r (.inr hr)
 ·exact f3 r hr
end
def dQ{α:Type}(d:α)(O:List α)(i:Nat):List α:=O.getD i d::(O.take i++O.drop (i+1))
def sU(O:List Value)(i j:Nat):List Value:=O.take (j+1)++((O.drop j).take (i-j)++O.drop (i+1))
theorem p7{α:Type}{O:List α}(h:O.length=6):∃a b c d e f,O=[a,b,c,d,e,f]:=by
 match O,h with
 |[a,b,c,d,e,f],_=>exact⟨a,b,c,d,e,f,rfl⟩
theorem ad'{O:List Value}(h:O.length=6){i:Nat}(hi:i<6):sU O i i=O:=by
 obtain⟨a,b,c,d,e,f,rfl⟩:=p7 h
 rcases i with _|_|_|_|_|_|i<;>first|rfl|omega
theorem ad_{O:List Value}(h:O.length=6){i j:Nat}(hi:i<6)(hj:j<i):(sU O i (j+1)).set (j+1) (O.getD j undef)=sU O i j:=by
 obtain⟨a,b,c,d,e,f,rfl⟩:=p7 h
 rcases i with _|_|_|_|_|_|i<;>rcases j with _|_|_|_|_|j<;>first|rfl|omega
theorem aea{O:List Value}(h:O.length=6){i j:Nat}(hi:i<6)(hj:j<i):(sU O i (j+1)).getD j undef=O.getD j undef:=by
 obtain⟨a,b,c,d,e,f,rfl⟩:=p7 h
 rcases i with _|_|_|_|_|_|i<;>rcases j with _|_|_|_|_|j<;>first|rfl|omega
theorem aeb{O:List Value}(h:O.length=6){i:Nat}(hi:i<6):(sU O i 0).set 0 (O.getD i undef)=dQ undef O i:=by
 obtain⟨a,b,c,d,e,f,rfl⟩:=p7 h
 rcases i with _|_|_|_|_|_|i<;>first|rfl|omega
theorem UM{O:List Value}(h:O.length=6){i j:Nat}(hi:i<6)(hj:j<=i):(sU O i j).length=6:=by
 obtain⟨a,b,c,d,e,f,rfl⟩:=p7 h
 rcases i with _|_|_|_|_|_|i<;>rcases j with _|_|_|_|_|_|j<;>first|rfl|omega
theorem UN{O:List Value}{j:Nat}(h:j<O.length):O.getD j undef∈O:=by
 rw[aC,aR h]
 exact ep h
theorem UO{A O Z:List Value}{j:Nat}(h:j<O.length):(A++(O++Z))[A.length+j]? =some (O.getD j undef):=by
 rw[nO (by omega),show A.length+j-A.length=j by omega,me h,aC,aR h]
 rfl
theorem UP{A O Z:List Value}{j:Nat}(h:j<O.length)(v:Value):(A++(O++Z)).set (A.length+j) v=A++(O.set j v++Z):=by
 rw[Xe _ _ (by omega),show A.length+j-A.length=j by omega,aih _ _ h]
section
variable {lf d n q:Nat} {h:H} {e:TypeId} {A O Z:List Value} {i:Nat}
def J4(q off:Nat):En->Prop:=fun x=>x.b=q∧∃j,x.k=some j∧off<=j∧j<off+6
theorem UQ(hO:O.length=6)(h1:∀v∈O,one v=true)(g:h.get q=some ⟨e,true,A++(O++Z)⟩)(hq:q<n)(hi:i<6)(aw:100<=lf):
 fY (J4 q A.length) (aq ai gt lf (d+1) 129 #[.pointer (some ⟨q,A.length,none⟩),.int .i64 (i:Int)]) h n fun v h' n'=>v=O.getD i undef∧n'=n∧h'.get q=some ⟨e,true,A++(dQ undef O i++Z)⟩∧∀b,b≠q->h'.get b=h.get b:=by
 rw[aD (fun _=>RX) rfl]
 refine fY.aB ?_
 unfold Dm
 have ia:∀(j:Nat),j<6->∀(k:Value->M Value),jO 6 (.pointer (some ⟨q,A.length,none⟩)) (.int .i64 (j:Int)) k=k (.pointer (some ⟨q,A.length+j,none⟩)):=fun j hj k=>by
  rw[Hn _ 6 q A.length .i64 (j:Int) (by omega) (by omega),o0]
 have hl:i<O.length:=by omega
 have key:∀(j fu:Nat) (h':H),j<=i->j<fu->h'.get q=some ⟨e,true,A++(sU O i j++Z)⟩->(∀b,b≠q->h'.get b=h.get b)->
  fY (J4 q A.length) (uX lf (aq ai gt lf d) fu (Dl lf (aq ai gt lf d)) (.pointer (some ⟨q,A.length,none⟩)) (.int .i64 (i:Int)) (.int .i64 0) (O.getD i undef) (.int .i64 (j:Int))) h' n fun v h' n'=>v=O.getD i undef∧n'=n∧h'.get q=some ⟨e,true,A++(dQ undef O i++Z)⟩∧∀b,b≠q->h'.get b=h.get b:=by
  intro j
  induction j with
  |zero=>
   intro fu h' hj hf g' k'
   obtain⟨fu,rfl⟩:∃f,fu=f+1:=⟨fu-1,by omega⟩
   rw[uX]
   have c0:decide ((0:Int)<((0:Nat):Int))=false:=decide_eq_false (by omega)
   try simp(disch:=first|omega|assumption|exact aa _) only[ag,ae,RZ,c0]
   (try unfold Dl);(try dsimp only)
   have i0:=ia 0 (by omega)
   simp only[mN]at i0
   try simp(disch:=first|omega|assumption|exact aa _) only[ag,ae,RZ,i0]
   have py:=UM (j:=0) hO hi (cb _)
   refine UK trivial q A.length _ _ g' hq (by simp[py];omega) (h1 _ (UN hl)) ⟨rfl,_,rfl,by simp,by simp⟩ ?_
   refine ad4 _ ⟨rfl,rfl, ?_,fun b hb=> ?_⟩
   ·rw[get_eq]
    have:=UP (A:=A) (Z:=Z) (O:=sU O i 0) (j:=0) (by omega) (O.getD i undef)
    rw[mN]at this
    rw[this,aeb hO hi]
   ·rw[aA _ _ hb];exact k' b hb
  |succ j ih=>
   intro fu h' hj hf g' k'
   obtain⟨fu,rfl⟩:∃f,fu=f+1:=⟨fu-1,by omega⟩
   rw[uX]
   have c0:decide ((0:Int)<((j+1:Nat):Int))=true:=decide_eq_true (by omega)
   have w1:IntKind.i64.wrap (((j+1:Nat):Int)-1)=(j:Int):=by rw[aV (by omega) (by omega)];omega
   try simp(disch:=first|omega|assumption|exact aa _) only[ag,ae,RZ,c0,w1,ia j (by omega)]
   have py:=UM (j:=j+1) hO hi hj
   refine UJ trivial q (A.length+j) _ g' hq (UO (by omega)) ?_
   rw[aea hO hi (by omega)]
   try simp(disch:=first|omega|assumption|exact aa _) only[ag,ae,RZ,ia (j+1) (by omega)]
   refine UK trivial q (A.length+(j+1)) _ _ g' hq (by simp[py];omega) (h1 _ (UN (by omega))) ⟨rfl,_,rfl,by simp,by simp;omega⟩ ?_
   try simp(disch:=first|omega|assumption|exact aa _) only[ag,ae,RZ,c0,w1]
   refine ih fu _ (by omega) (by omega) ?_ fun b hb=> ?_
   ·rw[get_eq,UP (by omega),ad_ hO hi (by omega)]
   ·rw[aA _ _ hb];exact k' b hb
 try simp(disch:=first|omega|assumption|exact aa _) only[ag,ae,RZ,ia i hi]
 refine UJ trivial q (A.length+i) _ g hq (UO hl) ?_
 exact key i lf h (ak _) (by omega) (by rw[ad' hO hi];exact g) fun _ _=>rfl
end
def gR:Nat->Nat->List Bool->St Nat
 |0,_,_=> .bad 25
 |_+1,_,[]=> .short
 |_+1,o,false::_=> .ok o (o+1)
 |r+1,o,true::bs=>gR r (o+1) bs
structure Pk where
 t:Nat
 count:Nat
 ord:List Nat
 bX:List Nat
def eU(s:Pk)(bs:List Bool):St Pk:=
 if s.count=0 then(if bs.length<18 then .short else if(2<=num (bs.take 18) 0/32768∧num (bs.take 18) 0/32768<=6)∧num (bs.take 18) 0 %32768≠0 then .ok ⟨num (bs.take 18) 0/32768,num (bs.take 18) 0 %32768,s.ord,s.bX⟩ 18 else .bad 25)
 else match gR s.t 0 bs with
  | .short=> .short
  | .bad e=> .bad e
  | .ok o u=> .ok ⟨s.t,s.count,dQ 0 s.ord o,s.bX++[s.ord.getD o 0]⟩ u
def zO(s:Pk)(pv:Value)(dE:Bool):AB:=⟨135,true,[.int .i64 (s.t:Int),.int .i64 (s.count:Int)]++(aL .i64 (iN s.ord)++[pv,.bool dE])⟩
structure fZ (h:H) (lo n q:Nat) (s:Pk) (pv:Value) (dE:Bool):Prop where
 get:h.get q=some (zO s pv dE)
 ge:lo<=q
 lt:q<n
 own:Own h lo n 3 pv (aL .i64 (iN s.bX))
 fq:s.ord.length=6
 xA:s.t<=6
 cnt:s.count<32768
theorem fZ.ne{h:H}{lo n q:Nat}{s:Pk}{pv:Value}{dE:Bool}(x:fZ h lo n q s pv dE){b:Nat}(hb:ar pv b):b≠q:=fun e=>by
 obtain⟨B,h1,h2⟩:=x.own.elem hb
 rw[e,x.get]at h1
 cases h1
 exact absurd (show(135:Nat)=3 from h2) (by decide)
theorem fZ.ax{h h':H}{lo n n' q:Nat}{s:Pk}{pv:Value}{dE:Bool}(x:fZ h lo n q s pv dE)(hn:n<=n')(hk:∀b,b<n->(b=q∨ar pv b)->h'.get b=h.get b):fZ h' lo n' q s pv dE:=
 ⟨(hk q x.lt (.inl rfl)).trans x.get,x.ge,mL x.lt hn,x.own.ax hn fun b hb=>hk b (x.own.lt hb).2 (.inr hb),x.fq,x.xA,x.cnt⟩
theorem fZ.cells{h:H}{lo n q:Nat}{s:Pk}{pv:Value}{dE:Bool}(x:fZ h lo n q s pv dE):∃a b c d e f:Nat,s.ord=[a,b,c,d,e,f]∧h.get q=some ⟨135,true,[.int .i64 (s.t:Int),.int .i64 (s.count:Int),.int .i64 (a:Int),.int .i64 (b:Int),.int .i64 (c:Int),.int .i64 (d:Int),.int .i64 (e:Int),.int .i64 (f:Int),pv,.bool dE]⟩:=by
 obtain⟨a,b,c,d,e,f,he⟩:=p7 x.fq
 refine⟨a,b,c,d,e,f,he, ?_⟩
 rw[x.get]
 unfold zO
 rw[he]
 rfl
theorem aec(a b c d e f:Value){β:Type}(k:Value->M β):jc HA [(2,6,.agg #[a,b,c,d,e,f])] k=k (.agg #[.int .i64 0,.int .i64 0,a,b,c,d,e,f,.slice none 0 0,.bool false]):=by kernel_rfl
section
variable {lf d n p q lo:Nat} {h:H} {S:List UInt8} {D A:Nat} {pv:Value} {s:Pk} {dE:Bool}
theorem UR(z:Int):ah (fun _=>False) n (aq ai gt lf (d+1) 102 #[.int .i64 z]) h n fun v' h' n'=>v'= .bool (decide (2<=z)&&decide (z<=6))∧h'=h∧n'=n:=by
 rw[aD (fun _=>Re) rfl]
 refine ah.aB ?_
 unfold Ix
 by_cases c:2<=z
 ·try simp(disch:=first|omega|assumption|exact aa _) only[ag,ae,RZ,c]
 ·try simp(disch:=first|omega|assumption|exact aa _) only[ag,ae,RZ,c]
theorem Ef(x:fZ h lo n q s pv dE):ah (fun _=>False) n (aq ai gt lf (d+1) 59 #[.pointer (some ⟨q,0,none⟩)]) h n fun v' h' n'=>v'= .bool (decide (0<s.count)&&decide (s.bX.length=s.count))∧h'=h∧n'=n:=by
 obtain⟨a,b,c,dd,e,f,he,g⟩:=x.cells
 have hq:=x.lt
 have hr:=x.own.row
 obtain⟨a1,c1,rfl⟩:=hr.len
 rw[aD (fun _=>Qc) rfl]
 refine ah.aB ?_
 unfold H5
 have e:((((iN s.bX).length:Nat):Int)==(s.count:Int))=decide (s.bX.length=s.count):=by
  rw[dD]
  by_cases e:s.bX.length=s.count
  ·rw[decide_eq_true e,e];simp
  ·rw[decide_eq_false e];exact beq_eq_false_iff_ne.2 fun q=>e (by omega)
 by_cases c0:0<s.count
 ·have e0:decide ((0:Int)<(s.count:Int))=true:=decide_eq_true (by omega)
  rw[decide_eq_true c0]
  try simp(disch:=first|omega|assumption|exact aa _) only[ag,ae,RZ,bk,bm,bp,bq,bt,bu,bx,bz,bA,bB,g,e,e0,Bool.true_and]
 ·have e0:decide ((0:Int)<(s.count:Int))=false:=decide_eq_false (by omega)
  rw[decide_eq_false c0]
  try simp(disch:=first|omega|assumption|exact aa _) only[ag,ae,RZ,bk,bm,bp,bq,bt,bu,bx,bz,bA,bB,g,e,e0,Bool.false_and]
theorem aed(x:fZ h lo n q s pv dE):ah (fun _=>False) n (aq ai gt lf (d+1) 61 #[.pointer (some ⟨q,0,none⟩)]) h n fun v' h' n'=>v'= .int .i64 (s.t:Int)∧h'=h∧n'=n:=by
 obtain⟨a,b,c,dd,e,f,he,g⟩:=x.cells
 have hq:=x.lt
 rw[aD (fun _=>Qe) rfl]
 refine ah.aB ?_
 unfold H7
 try simp(disch:=first|omega|assumption|exact aa _) only[ag,ae,RZ,bk,bm,bp,bq,bt,bu,bx,bz,bA,bB,g]
theorem aee(x:fZ h lo n q s pv dE)(h0:0<s.bX.length)(hl:s.bX.length<=100000):ah (fun _=>False) n (aq ai gt lf (d+2) 63 #[.pointer (some ⟨q,0,none⟩)]) h n fun v' h' n'=>Row h' n' 3 .i64 v' (iN s.bX)∧∀b,ar v' b->n<=b:=by
 obtain⟨a,b,c,dd,e,f,he,g⟩:=x.cells
 have hq:=x.lt
 rw[aD (fun _=>Qg) rfl]
 refine ah.aB ?_
 unfold H9
 try simp(disch:=first|omega|assumption|exact aa _) only[ag,ae,RZ,bk,bm,bp,bq,bt,bu,bx,bz,bA,bB,g]
 refine aI aF (vn lf d n h pv (iN s.bX) x.own.row (by rw[dD];exact h0) (by rw[dD];omega)) (ak _) (fun _ _ h=>h.elim) fun v1 h1 n1 bb bJ hq=> ?_
 try simp(disch:=first|omega|assumption|exact aa _) only[ag,ae,RZ]
 exact hq.2
theorem J5(x:fZ h lo n q s pv dE):ah (fun b=>b=q) n (aq ai gt lf (d+1) 137 #[.pointer (some ⟨q,0,none⟩)]) h n fun v' h' n'=>v'= .int .i64 25∧n'=n∧(∀b,b≠q->h'.get b=h.get b)∧fZ h' lo n q s pv true:=by
 obtain⟨a,b,c,dd,e,f,he,g⟩:=x.cells
 have hq:=x.lt
 rw[aD (fun _=>R5) rfl]
 refine ah.aB ?_
 unfold IL
 try simp(disch:=first|omega|assumption|exact aa _) only[ag,ae,RZ,bk,bm,bp,bq,bt,bu,bx,bz,bA,bB,g,true_or,or_true]
 refine⟨fun b hb=>aA _ _ hb,⟨by rw[get_eq];unfold zO;rw[he];rfl,x.ge,hq,x.own.ax (ak _) fun b hb=>aA _ _ (x.ne hb),x.fq,x.xA,x.cnt⟩⟩
end
section
variable {lf d n p q lo:Nat} {h:H} {S:List UInt8} {D A:Nat} {pv:Value} {s:Pk} {dE:Bool}
def en:List Nat:=[0,1,2,3,4,5]
theorem US(aw:100<=lf):ah (fun _=>False) n (aq ai gt lf (d+1) 92 #[]) h n fun v' h' n'=>v'= .agg #[.int .i64 0,.int .i64 1,.int .i64 2,.int .i64 3,.int .i64 4,.int .i64 5]∧n'=n+2:=by
 rw[aD (fun _=>QJ) rfl]
 refine ah.aB ?_
 unfold CW
 refine qP yQ _ ?_
 refine qP yQ _ ?_
 obtain⟨fu,cC⟩:∃f,lf=f+7:=⟨lf-7,by omega⟩
 have key:ah (fun _=>False) n (wT lf (aq ai gt lf d) (fu+7) (CV lf (aq ai gt lf d)) (.pointer (some ⟨n,0,none⟩)) (.pointer (some ⟨n+1,0,none⟩)) (.int .i64 0)) ((h.set n (some ⟨132,true,[.int .i64 0,.int .i64 0,.int .i64 0,.int .i64 0,.int .i64 0,.int .i64 0]⟩)).set (n+1) (some ⟨132,true,[.int .i64 0,.int .i64 0,.int .i64 0,.int .i64 0,.int .i64 0,.int .i64 0]⟩)) (n+2) fun v' h' n'=>v'= .agg #[.int .i64 0,.int .i64 1,.int .i64 2,.int .i64 3,.int .i64 4,.int .i64 5]∧n'=n+2:=by
  iterate 7
   rw[wT]
   try simp(disch:=first|omega|assumption|exact aa _) only[ag,ae,RZ,bk,bm,bp,bq,bt,bu,bx,bz,bA,bB,Int.reduceToNat,Nat.le_add_right,ae]
  (try unfold CV);(try dsimp only)
  refine Jx trivial trivial (sz:=6) (n+1) 0 _ (get_eq _ _ _) (by omega) (by simp) ?_
  refine wN (sz:=6) trivial (e:=132) (cs:=[.int .i64 0,.int .i64 0,.int .i64 0,.int .i64 0,.int .i64 0,.int .i64 0]) (vs:=[.int .i64 0,.int .i64 1,.int .i64 2,.int .i64 3,.int .i64 4,.int .i64 5]) rfl rfl rfl ?_ (by omega) (ak _) (.inl (ak _)) _ fun h2 hg k2=> ?_
  ·try simp(disch:=first|omega|assumption|exact aa _) only[ag,ae,RZ,bk,bm,bp,bq,bt,bu,bx,bz,bA,bB]
  refine DY trivial trivial (sz:=6) _ _ _ hg (by omega) (by simp) ?_
  try simp(disch:=first|omega|assumption|exact aa _) only[ag,ae,RZ,bk,bm,bp,bq,bt,bu,bx,bz,bA,bB]
  all_goals (first|rfl|exact⟨rfl,rfl,rfl⟩|exact⟨rfl,rfl⟩)
 rw[<-cC]at key
 exact key
theorem aef(aw:100<=lf):ah (fun _=>False) n (aq ai gt lf (d+2) 57 #[]) h n fun v h' n'=>v= .pointer (some ⟨n+2,0,none⟩)∧n'=n+3∧fZ h' (n+2) n' (n+2) ⟨0,0,en,[]⟩ (.slice none 0 0) false:=by
 rw[aD (fun _=>Qa) rfl]
 refine ah.aB ?_
 unfold H3
 refine aI aF (US (d:=d) aw) (ak _) (fun _ _ h=>h.elim) fun v1 h1 n1 bb bJ aU=> ?_
 obtain⟨rfl,rfl⟩:=aU
 rw[aec]
 refine pL trivial _ _ ?_
 try simp(disch:=first|omega|assumption|exact aa _) only[ag,ae,RZ]
 exact⟨get_eq _ _ _,ak _,by omega,Own.nil _ _ _ _,rfl,cb _,(by decide:0<32768)⟩
theorem aeg{β:Type}{rec:FuncId->Array Value->M Value}(r a:Value)(k:Value->M β):eM ai rec (.func (.func 122) #[r] #[]) [a] k=au rec 122 [r,a] k:=by
 unfold eM
 show aG (some _) _=_
 rw[pJ]
 simp only[show j1 ai 122=true by kernel_rfl]
 exact(ki _ _).symm
theorem aeh{β:Type}{rec:FuncId->Array Value->M Value}(r a:Value)(k:Value->M β):eM ai rec (.func (.func 121) #[r] #[]) [a] k=au rec 121 [r,a] k:=by
 unfold eM
 show aG (some _) _=_
 rw[pJ]
 simp only[show j1 ai 121=true by kernel_rfl]
 exact(ki _ _).symm
def sV(h:H)(n p:Nat)(S:List UInt8)(D A lo q:Nat)(s:Pk)(pv:Value)(v':Value)(h':H)(n':Nat):Prop:=
 match eU s (bR S D A)with
 | .short=>v'= .int .i64 3∧bP h' n' p S D A∧fZ h' lo n' q s pv false
 | .bad e=>v'= .int .i64 e∧(∃B,bP h' n' p S D B)∧fZ h' lo n' q s pv true
 | .ok s' u=>v'= .int .i64 0∧bP h' n' p S D (A+u)∧∃ji,fZ h' lo n' q s' ji false∧∀b,ar ji b->ar pv b∨n<=b
def zP(h:H)(n p:Nat)(S:List UInt8)(D A lo q:Nat)(s:Pk)(pv:Value)(v':Value)(h':H)(n':Nat):Prop:=
 (v'= .int .i64 3∧eU s (bR S D A)= .short∧(∃B,bP h' n' p S D B)∧fZ h' lo n' q s pv false)∨(v'≠ .int .i64 3∧eU s (bR S D A)≠ .short∧sV h n p S D A lo q s pv v' h' n')
theorem aei(v:Nat):((v:Int)).fdiv (2^(min ((15:Int)).toNat (AO).bits))=((v/32768:Nat):Int):=by
 have:(min ((15:Int)).toNat (AO).bits)=15:=by decide
 rw[this,Int.fdiv_eq_ediv_of_nonneg _ (by decide)]
 omega
theorem aej(v:Nat)(hv:v<262144):IntKind.u32.wrap ((di IntKind.u32.bits (v:Int)&&&di IntKind.u32.bits (32767:Int)).toNat:Int)=((v %32768:Nat):Int):=by
 have h1:(di 32 (v:Int)).toNat=v:=by rw[BitVec.ofInt_natCast,BitVec.toNat_ofNat];exact Nat.mod_eq_of_lt (by omega)
 show IntKind.u32.wrap ((di 32 (v:Int)&&&di 32 (32767:Int)).toNat:Int)=_
 rw[BitVec.toNat_and,h1]
 have h2:(di 32 (32767:Int)).toNat=2^15-1:=by decide
 rw[h2,Nat.and_two_pow_sub_one_eq_mod]
 exact qZ (by omega)
theorem aek(x:bP h n p S D A)(y:fZ h lo n q s pv false)(dO:p≠q)(dN:¬ar pv p)(h0:s.count=0)(aw:100<=lf):
 ah (fun b=>b=p∨b=q) n (aq ai gt lf (d+4) 122 #[.pointer (some ⟨q,0,none⟩),.pointer (some ⟨p,0,none⟩)]) h n (zP h n p S D A lo q s pv):=by
 obtain⟨bs,dH⟩:∃bs,bR S D A=bs:=⟨_,rfl⟩
 have hq:=y.lt
 unfold zP sV
 rw[dH,aD (fun _=>Ry) rfl]
 refine ah.aB ?_
 unfold IF
 have z1:((3:Int) !=0)=true:=rfl
 have z0:((0:Int) !=0)=false:=rfl
 have dk:∀{h1:H},(∀b,b<n->¬b=p->h1.get b=h.get b)->fZ h1 lo n q s pv false:=fun fr=>y.ax (ak _) fun b hb cW=>fr b hb (by
  rcases cW with rfl|cW
  ·exact fun e=>dO e.symm
  ·exact fun e=>dN (e▸cW))
 refine aI aF (xw (lf:=lf) (d:=d) x 18 (by omega) (by omega)) (ak _) (fun b _ hb=> .inr (.inl hb)) fun v1 h1 n1 bb bJ aU=> ?_
 obtain⟨rfl,aU⟩:=aU
 rw[dH]at aU
 rcases aU with ⟨sh,rfl,rfl⟩|⟨lg,rfl,x1⟩
 ·try simp(disch:=first|omega|assumption|exact aa _) only[ag,ae,RZ,cw,ext1,z1]
  exact .inl ⟨by unfold eU;rw[if_pos h0,if_pos sh],⟨_,x⟩,y⟩
 ·have nl:=oK (bs.take 18)
  rw[dW,nR lg]at nl
  obtain⟨v,hv⟩:∃v,num (bs.take 18) 0=v:=⟨_,rfl⟩
  rw[hv]at nl
  have w1:=aei v
  have w2:=aej v nl
  have w3:IntKind.i64.wrap ((v/32768:Nat):Int)=((v/32768:Nat):Int):=aV (by omega) (by omega)
  have w4:IntKind.i64.wrap ((v %32768:Nat):Int)=((v %32768:Nat):Int):=aV (by omega) (by omega)
  have y1:=dk (h1:=h1) fun c hc fh=>bJ c hc fh
  rw[hv]
  try simp(disch:=first|omega|assumption|exact aa _) only[ag,ae,RZ,cw,ext1,z0,w1,w2,w3,w4]
  refine bV (UR _) (ak _) (fun _ _ h=>h.elim) ?_
  have cS:eU s bs=if(2<=v/32768∧v/32768<=6)∧v %32768≠0 then .ok ⟨v/32768,v %32768,s.ord,s.bX⟩ 18 else .bad 25:=by
   unfold eU;rw[if_pos h0,if_neg (by omega),hv]
  by_cases c1:2<=v/32768∧v/32768<=6
  ·rw[decide_eq_true (show(2:Int)<=((v/32768:Nat):Int) by omega),decide_eq_true (show((v/32768:Nat):Int)<=6 by omega)]
   by_cases c2:v %32768=0
   ·have e2:((((v %32768:Nat):Int))==0)=true:=by rw[c2];rfl
    try simp(disch:=first|omega|assumption|exact aa _) only[ag,ae,RZ,mO,gu,e2]
    refine aI aF (J5 (lf:=lf) (d:=d+2) y1) (ak _) (fun b _ hb=> .inr (.inr hb)) fun v2 h2 n2 dZ dq dx=> ?_
    obtain⟨rfl,rfl,k2,y2⟩:=dx
    try simp(disch:=first|omega|assumption|exact aa _) only[ag,ae,RZ]
    rw[cS,if_neg (by rintro⟨_,q⟩;exact q c2)]
    exact .inr ⟨by simp,by simp,rfl,⟨_,x1.ax (ak _) (k2 p dO)⟩,y2⟩
   ·have e2:((((v %32768:Nat):Int))==0)=false:=beq_eq_false_iff_ne.2 (by omega)
    obtain⟨a,b,c,dd,e,f,he,g⟩:=y1.cells
    try simp(disch:=first|omega|assumption|exact aa _) only[ag,ae,RZ,mO,gu,e2,g]
    rw[cS,if_pos ⟨c1,c2⟩]
    refine .inr ⟨by simp,by simp,x1.ax (ak _) ?_,pv,⟨?_,y.ge,hq,y1.own.ax (ak _) fun b hb=> ?_,y.fq,c1.2,by show v %32768<32768;omega⟩,fun c hc=> .inl hc⟩
    ·rw[aA _ _ dO,aA _ _ dO]
    ·rw[get_eq];unfold zO;simp only[he];rfl
    ·rw[aA _ _ (y1.ne hb),aA _ _ (y1.ne hb)]
  ·have:(decide ((2:Int)<=((v/32768:Nat):Int))&&decide (((v/32768:Nat):Int)<=6))=false:=by
    cases e:(decide ((2:Int)<=((v/32768:Nat):Int))&&decide (((v/32768:Nat):Int)<=6))with
    |false=>rfl
    |true=>rw[bZ,decide_eq_true_eq,decide_eq_true_eq]at e;exact absurd (by omega) c1
   rw[this]
   try simp(disch:=first|omega|assumption|exact aa _) only[ag,ae,RZ,gZ]
   refine aI aF (J5 (lf:=lf) (d:=d+2) y1) (ak _) (fun b _ hb=> .inr (.inr hb)) fun v2 h2 n2 dZ dq dx=> ?_
   obtain⟨rfl,rfl,k2,y2⟩:=dx
   try simp(disch:=first|omega|assumption|exact aa _) only[ag,ae,RZ]
   rw[cS,if_neg (by rintro⟨q,_⟩;exact c1 q)]
   exact .inr ⟨by simp,by simp,rfl,⟨_,x1.ax (ak _) (k2 p dO)⟩,y2⟩
theorem xB{α:Type}{dv:α}{O:List α}(hO:O.length=6){i:Nat}(hi:i<6):(dQ dv O i).length=6:=by
 unfold dQ
 simp
 omega
theorem UT(O:List Nat)(hO:O.length=6){i:Nat}(hi:i<6):dQ undef (aL .i64 (iN O)) i=aL .i64 (iN (dQ 0 O i)):=by
 obtain⟨a,b,c,d,e,f,rfl⟩:=p7 hO
 rcases i with _|_|_|_|_|_|i<;>first|rfl|omega
theorem ael(O:List Nat)(hO:O.length=6){i:Nat}(hi:i<6):(aL .i64 (iN O)).getD i undef= .int .i64 (O.getD i 0:Int):=by
 obtain⟨a,b,c,d,e,f,rfl⟩:=p7 hO
 rcases i with _|_|_|_|_|_|i<;>first|rfl|omega
theorem aem(x:bP h n p S D A)(y:fZ h lo n q s pv false)(dO:p≠q)(dN:¬ar pv p)(h0:s.count≠0)(hl:s.bX.length<=100000)(j8:lo<=n)(aw:100<=lf):
 ah (fun b=>b=p∨b=q∨ar pv b) n (aq ai gt lf (d+4) 121 #[.pointer (some ⟨q,0,none⟩),.pointer (some ⟨p,0,none⟩)]) h n (zP h n p S D A lo q s pv):=by
 obtain⟨bs,dH⟩:∃bs,bR S D A=bs:=⟨_,rfl⟩
 have hq:=y.lt
 obtain⟨a,b,c,dd,e,f,he,g⟩:=y.cells
 have cS:eU s bs=match gR s.t 0 bs with
  | .short=> .short
  | .bad e=> .bad e
  | .ok o u=> .ok ⟨s.t,s.count,dQ 0 s.ord o,s.bX++[s.ord.getD o 0]⟩ u:=by unfold eU;rw[if_neg h0];try(cases gR s.t 0 bs<;>rfl)
 unfold zP sV
 rw[dH,aD (fun _=>Rx) rfl]
 refine ah.aB ?_
 unfold Dc
 have z1:((3:Int) !=0)=true:=rfl
 have z0:((0:Int) !=0)=false:=rfl
 try simp(disch:=first|omega|assumption|exact aa _) only[ag,ae,RZ,g]
 have dk:∀{h1:H} {n1:Nat},n1=n->(∀b,b<n->b≠p->h1.get b=h.get b)->fZ h1 lo n1 q s pv false:=by
  rintro h1 _ rfl fr
  exact y.ax (ak _) fun b hb cW=>fr b hb (by
   rcases cW with rfl|cW
   ·exact fun e=>dO e.symm
   ·exact fun e=>dN (e▸cW))
 refine iq s.t (fun fu i (_:Unit)=>uT lf (aq ai gt lf (d+3)) fu (wW lf (aq ai gt lf (d+3))) (.pointer (some ⟨q,0,none⟩)) (.pointer (some ⟨p,0,none⟩)) (.int .i64 0) (.int .i64 (s.t:Nat)) (.int .i64 (i:Nat))) (fun i _ h' n'=>(n'=n∧(∀b,b<n->b≠p->h'.get b=h.get b))∧bP h' n' p S D (A+i)∧gR s.t 0 bs=gR (s.t-i) i (bs.drop i)) ?_ ?_ lf 0 () h n (cb _) (by have:=y.xA;omega) ⟨⟨rfl,fun _ _ _=>rfl⟩,x,rfl⟩
 ·rintro fu _ h' n' ⟨⟨rfl,fr⟩,x1,q9⟩
  rw[uT]
  try simp(disch:=first|omega|assumption|exact aa _) only[ag,ae,RZ,c9]
  (try unfold wW);(try dsimp only)
  have y1:=dk rfl fr
  refine aI aF (J5 (lf:=lf) (d:=d+2) y1) (ak _) (fun b _ hb=> .inr (.inr (.inl hb))) fun v2 h2 n2 dZ dq dx=> ?_
  obtain⟨rfl,rfl,k2,y2⟩:=dx
  try simp(disch:=first|omega|assumption|exact aa _) only[ag,ae,RZ]
  rw[nT]at q9
  rw[cS,q9]
  exact .inr ⟨by simp,by simp[gR],rfl,⟨_,x1.ax (ak _) (k2 p dO)⟩,y2⟩
 ·rintro fu i _ h' n' hi ⟨⟨rfl,fr⟩,x1,q9⟩ next
  rw[uT]
  have y1:=dk rfl fr
  have c1:((i:Nat):Int)<((s.t:Nat):Int):=by omega
  have xA:=y.xA
  have Hw:bR S D (A+i)=bs.drop i:=by rw[<-zC x.lo,dH]
  obtain⟨r,hr⟩:∃r,s.t-i=r+1:=⟨s.t-i-1,by omega⟩
  rw[hr]at q9
  try simp(disch:=first|omega|assumption|exact aa _) only[ag,ae,RZ,c1]
  refine aI aF (xw (lf:=lf) (d:=d) x1 1 (by omega) (by omega)) (ak _) (fun b _ hb=> .inr (.inl hb)) fun v1 h1 n1 bb bJ aU=> ?_
  obtain⟨rfl,aU⟩:=aU
  rw[Hw]at aU
  rcases aU with ⟨sh,rfl,rfl⟩|⟨lg,rfl,x2⟩
  ·try simp(disch:=first|omega|assumption|exact aa _) only[ag,ae,RZ,cw,ext1,z1]
   (try unfold wW);(try dsimp only)
   try simp(disch:=first|omega|assumption|exact aa _) only[ag,ae,RZ]
   have:bs.drop i=[]:=vL (by omega)
   rw[this]at q9
   exact .inl ⟨by rw[cS,q9];rfl,⟨_,x1⟩,y1⟩
  ·obtain⟨b,lr,tz⟩:∃b lr,bs.drop i=b::lr:=by
    cases e:bs.drop i with
    |nil=>rw[e]at lg;simp at lg
    |cons b lr=>exact⟨b,lr,rfl⟩
   rw[tz]at q9
   have nb:num ((bs.drop i).take 1) 0=bn b:=by rw[tz];show 2*0+bn b=_;omega
   rw[nb]
   have dq:∀c,c<n1->c≠p->h1.get c=h.get c:=fun c hc hp=>(bJ c hc hp).trans (fr c hc hp)
   cases b with
   |true=>
    have ez:(((bn true:Nat):Int)==0)=false:=rfl
    try simp(disch:=first|omega|assumption|exact aa _) only[ag,ae,RZ,cw,ext1,z0,ez]
    refine next () _ _ ⟨⟨rfl,dq⟩,x2, ?_⟩
    rw[q9,show s.t-(i+1)=r by omega]
    rw[<-List.drop_drop,tz]
    rfl
   |false=>
    have ez:(((bn false:Nat):Int)==0)=true:=rfl
    have y2:=dk rfl dq
    obtain⟨a2,b2,c2,d2,e2,f2,kT,g2⟩:=y2.cells
    have zQ:i<6:=by omega
    try simp(disch:=first|omega|assumption|exact aa _) only[ag,ae,RZ,cw,ext1,z0,ez]
    refine acZ trivial q 8 _ g2 hq rfl fun T1 t1 t2 t3=> ?_
    try simp(disch:=first|omega|assumption|exact aa _) only[ag,ae,RZ]
    have tou:fY (J4 q 2) (aq ai gt lf (d+3) 129 #[.pointer (some ⟨q,2,none⟩),.int .i64 (i:Int)]) h1 n1 _:=UQ (lf:=lf) (d:=d+2) (e:=135) (A:=[.int .i64 (s.t:Int),.int .i64 (s.count:Int)]) (O:=aL .i64 (iN s.ord)) (Z:=[pv,.bool false]) (by rw[eF,dD];exact y.fq) (fun v hv=>by
     obtain⟨x,_,rfl⟩:=List.mem_map.1 hv
     exact oF _ _) y2.get hq zQ aw
    refine ad5 aF tou (fun e he=>he.1) (ak _) (.inr (.inr (.inl rfl))) fun v3 h3 n3 T2 fp dA gQ u1 u2 u3=> ?_
    obtain⟨rfl,rfl,g3,k3⟩:=gQ
    have cl:=ad6 t1 t2 t3 u1 u2 u3 hq (fun e he=>by
     obtain⟨_,j,h7,h8,h9⟩:=he
     exact⟨j,h7,by omega⟩)
    rw[ael s.ord y.fq zQ]
    have o3:Own h3 lo _ 3 pv (aL .i64 (iN s.bX)):=y2.own.ax (ak _) fun b hb=>k3 b (y2.ne hb)
    rw[UT s.ord y.fq zQ]at g3
    obtain⟨a4,b4,c4,d4,e4,f4,UU⟩:=p7 (xB (dv:=0) y.fq zQ)
    rw[UU]at g3
    have g3:h3.get q=some ⟨135,true,[.int .i64 (s.t:Int),.int .i64 (s.count:Int),.int .i64 (a4:Int),.int .i64 (b4:Int),.int .i64 (c4:Int),.int .i64 (d4:Int),.int .i64 (e4:Int),.int .i64 (f4:Int),pv,.bool false]⟩:=g3
    refine ad9 trivial (oF _ _) o3 (by rw[eF,dD];omega) (fun c hc=> .inr (.inr (.inr hc))) _ fun w T3 T4 h4 g4 k4=> ?_
    have g5:h4.get q=_:=(k4 q hq fun r=>y2.ne r rfl).trans g3
    have zR:q<n3+2:=by omega
    try simp(disch:=first|omega|assumption|exact aa _) only[ag,ae,RZ]
    refine ad8 (fun _ _=>rfl) ?_
    try simp(disch:=first|omega|assumption|exact aa _) only[ag,ae,RZ,g5,cl,gZ,mO,sC]
    (try unfold wW);(try dsimp only)
    try simp(disch:=first|omega|assumption|exact aa _) only[ag,ae,RZ]
    have aen:eU s bs= .ok ⟨s.t,s.count,dQ 0 s.ord i,s.bX++[s.ord.getD i 0]⟩ (i+1):=by rw[cS,q9];rfl
    have on:aL .i64 (iN (s.bX++[s.ord.getD i 0]))=aL .i64 (iN s.bX)++[.int .i64 ((s.ord.getD i 0:Nat):Int)]:=by
     rw[JY,D9];rfl
    refine .inr ⟨by simp, ?_⟩
    rw[aen]
    refine⟨by simp,x2.ax (by omega) ?_,.slice (some ⟨n3+1,0,none⟩) ((aL .i64 (iN s.bX)).length+1) (ba+((aL .i64 (iN s.bX)).length+1)),⟨?_,y.ge,zR, ?_,xB (dv:=0) y.fq zQ,y.xA,y.cnt⟩,fun c hc=> .inr (by rw[hc.inj];omega)⟩
    ·rw[aA _ _ dO,k4 p x2.lt dN,k3 p dO]
    ·rw[get_eq];unfold zO;simp only[UU];rfl
    ·rw[on]
     exact .inr ⟨n3+1,by simp,by rw[aA _ _ (by omega)];exact g4,by omega,by omega⟩
theorem aeo(x:bP h n p S D A)(y:fZ h lo n q s pv false)(dO:p≠q)(dN:¬ar pv p)(hd:s.count=0∨s.bX.length<s.count)(j8:lo<=n)(aw:100<=lf):
 ah (fun b=>b=p∨b=q∨ar pv b) n (aq ai gt lf (d+5) 94 #[.pointer (some ⟨q,0,none⟩),.pointer (some ⟨p,0,none⟩)]) h n (sV h n p S D A lo q s pv):=by
 have hq:=y.lt
 obtain⟨a,b,c,dd,e,f,he,g⟩:=y.cells
 have aep:=y.cnt
 rw[aD (fun _=>QM) rfl]
 refine ah.aB ?_
 unfold Ip
 have aeq:(decide (0<s.count)&&decide (s.bX.length=s.count))=false:=by
  cases e:(decide (0<s.count)&&decide (s.bX.length=s.count))with
  |false=>rfl
  |true=>rw[bZ,decide_eq_true_eq,decide_eq_true_eq]at e;omega
 have tail:∀(v1:Value) (h1:H) (n1:Nat),n<=n1->zP h n p S D A lo q s pv v1 h1 n1->
  ah (fun b=>b=p∨b=q∨ar pv b) n (dg v1 (ii 3) fun aer=>
       an aer (
        au (aq ai gt lf (d+4)) 21 [.pointer (some ⟨p,0,none⟩),.int .i64 (A:Int)] fun aiO=>
        aj [v1]) (
        aj [v1])) h1 n1 (sV h n p S D A lo q s pv):=by
  intro v1 h1 n1 bb aU
  rcases aU with ⟨rfl,cS,⟨B,x1⟩,y1⟩|⟨hv,cS,hp⟩
  ·have e3:((3:Int)==3)=true:=rfl
   try simp(disch:=first|omega|assumption|exact aa _) only[ag,ae,RZ,e3]
   refine aI aF (zD (lf:=lf) (d:=d+2) x1 A x.lo x.hi) (by omega) (fun b _ hb=> .inr (.inl hb)) fun v2 h2 n2 dZ dq dx=> ?_
   obtain⟨_,rfl,x2⟩:=dx
   try simp(disch:=first|omega|assumption|exact aa _) only[ag,ae,RZ]
   unfold sV
   rw[cS]
   exact⟨rfl,x2,y1.ax (ak _) fun b hb cW=>dq b hb (by
    rcases cW with rfl|cW
    ·exact fun e=>dO e.symm
    ·exact fun e=>dN (e▸cW))⟩
  ·obtain⟨e,rfl⟩:∃e:Int,v1= .int .i64 e:=by
    unfold sV at hp
    split at hp
    ·exact⟨_,hp.1⟩
    ·exact⟨_,hp.1⟩
    ·exact⟨_,hp.1⟩
   have e3:(e==3)=false:=beq_eq_false_iff_ne.2 fun q=>hv (by rw[q])
   try simp(disch:=first|omega|assumption|exact aa _) only[ag,ae,RZ,e3]
   exact hp
 try simp(disch:=first|omega|assumption|exact aa _) only[ag,ae,RZ]
 refine bV (Ef (lf:=lf) (d:=d+3) y) (ak _) (fun _ _ h=>h.elim) ?_
 rw[aeq]
 try simp(disch:=first|omega|assumption|exact aa _) only[ag,ae,RZ,g]
 refine bV (xu (lf:=lf) (d:=d+3) x) (ak _) (fun _ _ h=>h.elim) ?_
 by_cases h0:s.count=0
 ·have e0:((s.count:Int)==0)=true:=by rw[h0];rfl
  try simp(disch:=first|omega|assumption|exact aa _) only[ag,ae,RZ,g,e0,aeg]
  exact aI aF (aek (lf:=lf) (d:=d) x y dO dN h0 aw) (ak _) (fun b _ hb=>hb.elim (fun hb=> .inr (.inl hb)) fun hb=> .inr (.inr (.inl hb))) fun v1 h1 n1 bb bJ aU=>tail v1 h1 n1 bb aU
 ·have e0:((s.count:Int)==0)=false:=beq_eq_false_iff_ne.2 (by omega)
  try simp(disch:=first|omega|assumption|exact aa _) only[ag,ae,RZ,g,e0,aeh]
  exact aI aF (aem (lf:=lf) (d:=d) x y dO dN h0 (by omega) j8 aw) (ak _) (fun b _ hb=> .inr hb) fun v1 h1 n1 bb bJ aU=>tail v1 h1 n1 bb aU
end
def Pk.fin(s:Pk):Bool:=decide (0<s.count)&&decide (s.bX.length=s.count)
structure Pk.Ok (s:Pk):Prop where
 new:s.count=0->s.bX=[]∧s.ord=en
 ord:∀j,j<s.t->s.ord.getD j 0<s.t
 bX:∀x∈s.bX,x<s.t
 len:s.count≠0->s.bX.length<=s.count
 two:s.count≠0->2<=s.t
structure Cd where
 size:Nat
 pk:Pk
 now:Nat
 lens:List Nat
 bG:List (List Nat)
 bH:List Nat
 count:Nat
 done:Bool
 dE:Int
structure Cm where
 q:Nat
 pv:Value
 tv:Value
 r:Nat
 lv:Value
 cv:Value
 pw:Bool
 dw:Bool
 iv:List (Nat×Nat×Nat)
def Cm.F(m:Cm)(z b:Nat):Prop:=b=z∨b=m.q∨b=m.r∨ar m.pv b∨ar m.lv b∨ar m.cv b
def nH(c:Cd)(m:Cm):AB:=⟨100,true,[.int .i64 (c.size:Int),.pointer (some ⟨m.q,0,none⟩),m.tv,.pointer (some ⟨m.r,0,none⟩),m.cv,.int .i64 (c.count:Int),.bool c.done,.int .i64 c.dE]⟩
structure cJ (h:H) (n z p:Nat) (c:Cd) (m:Cm):Prop where
 get:h.get z=some (nH c m)
 lt:z<n
 pk:fZ h 0 n m.q c.pk m.pv m.pw
 de:fX h 0 n m.r c.size c.now m.lv c.lens m.dw
 bH:Row h n 3 .i64 m.tv (iN c.bH)
 oQ:∀b,ar m.tv b->¬ar m.pv b∧¬ar m.lv b
 nI:∀b,ar m.pv b->¬ar m.lv b
 cs:Own h 0 n 72 m.cv (m.iv.map fun x=> .pointer (some ⟨x.2.2,0,none⟩))
 kx:m.iv.length=c.bG.length
 code:∀i,i<c.bG.length->∃x,m.iv[i]? =some x∧lk h x.1 x.2.1 x.2.2 (c.bG.getD i [])∧p<x.1∧x.2.1<=n∧∀b,x.1<=b->b<x.2.1->¬m.F z b
theorem p8{h:H}{a b:Nat}{A B:AB}(ha:h.get a=some A)(hb:h.get b=some B)(he:A.elem≠B.elem):a≠b:=fun e=>by
 subst e
 rw[ha]at hb
 cases hb
 exact he rfl
section
variable {h:H} {n z p:Nat} {c:Cd} {m:Cm}
theorem cJ.zq(x:cJ h n z p c m):z≠m.q:=p8 x.get x.pk.get (by decide:(100:Nat)≠135)
theorem cJ.zr(x:cJ h n z p c m):z≠m.r:=p8 x.get x.de.get (by decide:(100:Nat)≠130)
theorem cJ.qr(x:cJ h n z p c m):m.q≠m.r:=p8 x.pk.get x.de.get (by decide:(135:Nat)≠130)
theorem cJ.int(x:cJ h n z p c m){b:Nat}{B:AB}(hb:h.get b=some B)(he:B.elem=3):b≠z∧b≠m.q∧b≠m.r∧¬ar m.cv b:=by
 refine⟨p8 hb x.get (by rw[he];exact(by decide:(3:Nat)≠100)),p8 hb x.pk.get (by rw[he];exact(by decide:(3:Nat)≠135)),p8 hb x.de.get (by rw[he];exact(by decide:(3:Nat)≠130)),fun hc=> ?_⟩
 obtain⟨C,h1,h2⟩:=x.cs.elem hc
 exact p8 hb h1 (by rw[he,h2];exact(by decide:(3:Nat)≠72)) rfl
theorem cJ.tv(x:cJ h n z p c m){b:Nat}(hb:ar m.tv b):b≠z∧b≠m.q∧b≠m.r∧¬ar m.cv b∧¬ar m.pv b∧¬ar m.lv b:=by
 obtain⟨B,h1,h2⟩:=x.bH.elem hb
 obtain⟨a,b,c,d⟩:=x.int h1 h2
 exact⟨a,b,c,d,x.oQ _ hb⟩
theorem cJ.pv(x:cJ h n z p c m){b:Nat}(hb:ar m.pv b):b≠z∧b≠m.q∧b≠m.r∧¬ar m.cv b:=by
 obtain⟨B,h1,h2⟩:=x.pk.own.elem hb
 exact x.int h1 h2
theorem cJ.lv(x:cJ h n z p c m){b:Nat}(hb:ar m.lv b):b≠z∧b≠m.q∧b≠m.r∧¬ar m.cv b:=by
 obtain⟨B,h1,h2⟩:=x.de.own.elem hb
 exact x.int h1 h2
theorem cJ.cv(x:cJ h n z p c m){b:Nat}(hb:ar m.cv b):b≠z∧b≠m.q∧b≠m.r:=by
 obtain⟨C,h1,h2⟩:=x.cs.elem hb
 exact⟨p8 h1 x.get (by rw[h2];exact(by decide:(72:Nat)≠100)),p8 h1 x.pk.get (by rw[h2];exact(by decide:(72:Nat)≠135)),p8 h1 x.de.get (by rw[h2];exact(by decide:(72:Nat)≠130))⟩
theorem cJ.ub(x:cJ h n z p c m){b:Nat}(hb:m.F z b):b<n:=by
 rcases hb with rfl|rfl|rfl|hb|hb|hb
 ·exact x.lt
 ·exact x.pk.lt
 ·exact x.de.lt
 ·exact(x.pk.own.lt hb).2
 ·exact(x.de.own.lt hb).2
 ·exact(x.cs.lt hb).2
theorem cJ.ax(x:cJ h n z p c m){h':H}{n':Nat}(hn:n<=n')(hk:∀b,b<n->(m.F z b∨ar m.tv b∨∃y∈m.iv,y.1<=b∧b<y.2.1)->h'.get b=h.get b):cJ h' n' z p c m where
 get:=(hk z x.lt (.inl (.inl rfl))).trans x.get
 lt:=mL x.lt hn
 pk:=x.pk.ax hn fun b hb h2=>hk b hb (.inl (h2.elim (fun e=> .inr (.inl e)) fun e=> .inr (.inr (.inr (.inl e)))))
 de:=x.de.ax hn fun b hb h2=>hk b hb (.inl (h2.elim (fun e=> .inr (.inr (.inl e))) fun e=> .inr (.inr (.inr (.inr (.inl e))))))
 bH:=x.bH.fC hn fun b hb=>hk b (x.bH.lt hb) (.inr (.inl hb))
 oQ:=x.oQ
 nI:=x.nI
 cs:=x.cs.ax hn fun b hb=>hk b (x.cs.lt hb).2 (.inl (.inr (.inr (.inr (.inr (.inr hb))))))
 kx:=x.kx
 code:=fun i hi=>by
  obtain⟨y,e,k,h1,h2,h3⟩:=x.code i hi
  exact⟨y,e,k.ax fun b h4 h5=>hk b (by omega) (.inr (.inr ⟨y,List.mem_of_getElem? e,h4,h5⟩)),h1,by omega,h3⟩
theorem cJ.iv(x:cJ h n z p c m){y:Nat×Nat×Nat}(hy:y∈m.iv):p<y.1∧y.2.1<=n∧∀b,y.1<=b->b<y.2.1->¬m.F z b:=by
 obtain⟨i,hi,e⟩:=List.getElem_of_mem hy
 obtain⟨y',e',_,h1,h2,h3⟩:=x.code i (by rw[<-x.kx];exact hi)
 rw[aR hi,e]at e'
 cases e'
 exact⟨h1,h2,h3⟩
end
theorem cJ.Eg{h:H}{n z p:Nat}{c:Cd}{m:Cm}(x:cJ h n z p c m)(c':Cd)(sW:Value)(e1:c'.size=c.size)(e2:c'.pk=c.pk)(e3:c'.now=c.now)(e4:c'.lens=c.lens)(e5:c'.bG=c.bG)(r:Row h n 3 .i64 sW (iN c'.bH))(t:∀b,ar sW b->¬ar m.pv b∧¬ar m.lv b){B:Option AB}(hB:B=some (nH c' {m with tv:=sW})):cJ (h.set z B) n z p c' {m with tv:=sW} where
 get:=by rw[get_eq,hB]
 lt:=x.lt
 pk:=by
  rw[e2]
  exact x.pk.ax (ak _) fun b hb h2=>aA _ _ (by
   rcases h2 with rfl|h2
   ·exact Ne.symm x.zq
   ·exact(x.pv h2).1)
 de:=by
  rw[e1,e3,e4]
  exact x.de.ax (ak _) fun b hb h2=>aA _ _ (by
   rcases h2 with rfl|h2
   ·exact Ne.symm x.zr
   ·exact(x.lv h2).1)
 bH:=r.fC (ak _) fun b hb=>aA _ _ (by
  obtain⟨B,h1,h2⟩:=r.elem hb
  exact(x.int h1 h2).1)
 oQ:=t
 nI:=x.nI
 cs:=x.cs.ax (ak _) fun b hb=>aA _ _ (x.cv hb).1
 kx:=by rw[e5];exact x.kx
 code:=by
  rw[e5]
  intro i hi
  obtain⟨w,e,k,h2,h3,h4⟩:=x.code i hi
  exact⟨w,e,k.ax fun b h5 h6=>aA _ _ fun e=>h4 b h5 h6 (.inl e),h2,h3,h4⟩
structure p9 (p z:Nat) (m:Cm):Prop where
 f:¬m.F z p
 t:¬ar m.tv p
section
variable {lf d n z p:Nat} {h:H} {S:List UInt8} {D A:Nat} {c:Cd} {m:Cm}
def qa(c:Cd)(s:Pk):Cd:={c with pk:=s,bH:=if s.fin=true then s.bX else c.bH}
theorem aes(x:bP h n p S D A)(y:cJ h n z p c m)(ap:p9 p z m)(jz:m.pw=false)(b9:c.pk.Ok)(hf:c.pk.fin=false)(aw:100<=lf):
 ah (fun b=>b=p∨m.F z b) n (aq ai gt lf (d+6) 60 #[.pointer (some ⟨z,0,none⟩),.pointer (some ⟨p,0,none⟩)]) h n fun v' h' n'=>
  match eU c.pk (bR S D A)with
  | .short=>v'= .tuple #[.int .i64 (-1),.int .i64 3]∧bP h' n' p S D A∧cJ h' n' z p c m
  | .bad e=>v'= .tuple #[.int .i64 (-1),.int .i64 e]∧(∃B,bP h' n' p S D B)∧cJ h' n' z p c {m with pw:=true}
  | .ok s u=>v'= .tuple #[.int .i64 (-1),.int .i64 0]∧bP h' n' p S D (A+u)∧∃ji sW,cJ h' n' z p (qa c s) {m with pv:=ji,tv:=sW}∧(∀b,ar ji b->ar m.pv b∨n<=b)∧∀b,ar sW b->ar m.tv b∨n<=b:=by
 obtain⟨bs,dH⟩:∃bs,bR S D A=bs:=⟨_,rfl⟩
 have g:=y.get
 have hz:=y.lt
 unfold nH at g
 have UW:=y.pk
 rw[jz]at UW
 have dO:p≠m.q:=fun e=>ap.f (.inr (.inl e))
 have dN:¬ar m.pv p:=fun e=>ap.f (.inr (.inr (.inr (.inl e))))
 have mG:p≠z:=fun e=>ap.f (.inl e)
 have hd:c.pk.count=0∨c.pk.bX.length<c.pk.count:=by
  by_cases h0:c.pk.count=0
  ·exact .inl h0
  ·refine .inr (Nat.lt_of_le_of_ne (b9.len h0) fun e=> ?_)
   unfold Pk.fin at hf
   rw[e,decide_eq_true rfl,decide_eq_true (show 0<c.pk.count by omega)]at hf
   cases hf
 rw[aD (fun _=>Qd) rfl,dH]
 refine ah.aB ?_
 unfold H6
 try simp(disch:=first|omega|assumption|exact aa _) only[ag,ae,RZ,g]
 refine aI aF (aeo (lf:=lf) (d:=d) x UW dO dN hd (cb _) aw) (ak _) (fun b _ hb=> .inr (by
  rcases hb with hb|hb|hb
  ·exact .inl hb
  ·exact .inr (.inr (.inl hb))
  ·exact .inr (.inr (.inr (.inr (.inl hb)))))) fun v1 h1 n1 bb bJ aU=> ?_
 have sX:m.F z z:= .inl rfl
 have un:∀b,b<n->b≠p->b≠m.q->¬ar m.pv b->h1.get b=h.get b:=fun b hb h2 h3 h4=>bJ b hb (by
  rintro(e|e|e)
  ·exact h2 e
  ·exact h3 e
  ·exact h4 e)
 have nz:∀{b:Nat},¬m.F z b->b≠m.q∧¬ar m.pv b:=fun hb=>⟨fun e=>hb (.inr (.inl e)),fun e=>hb (.inr (.inr (.inr (.inl e))))⟩
 have g1:h1.get z=_:=(un z hz (Ne.symm mG) y.zq fun e=>(y.pv e).1 rfl).trans g
 have sY:z<n1:=by omega
 have mk:∀(s:Pk) (ji:Value) (pw:Bool),fZ h1 0 n1 m.q s ji pw->(∀b,ar ji b->ar m.pv b∨n<=b)->cJ h1 n1 z p {c with pk:=s} {m with pv:=ji,pw:=pw}:=fun s ji pw hp oR=>
  {get:=g1
   lt:=sY
   pk:=hp
   de:=y.de.ax bb fun b hb h2=>by
    rcases h2 with rfl|h2
    ·exact un _ hb (fun e=>ap.f (.inr (.inr (.inl e.symm)))) (Ne.symm y.qr) fun e=>(y.pv e).2.2.1 rfl
    ·exact un b hb (fun e=>ap.f (.inr (.inr (.inr (.inr (.inl (e▸h2))))))) (y.lv h2).2.1 fun e=>y.nI b e h2
   bH:=y.bH.fC bb fun b hb=>un b (y.bH.lt hb) (fun e=>ap.t (e▸hb)) (y.tv hb).2.1 (y.tv hb).2.2.2.2.1
   oQ:=fun b hb=>⟨fun e=>(oR b e).elim (y.tv hb).2.2.2.2.1 fun e=>by have:=y.bH.lt hb;omega,(y.tv hb).2.2.2.2.2⟩
   nI:=fun b hb=>(oR b hb).elim (y.nI b) fun e h2=>by have:=(y.de.own.lt h2).2;omega
   cs:=y.cs.ax bb fun b hb=>un b (y.cs.lt hb).2 (fun e=>ap.f (.inr (.inr (.inr (.inr (.inr (e▸hb))))))) (y.cv hb).2.1 fun e=>(y.pv e).2.2.2 hb
   kx:=y.kx
   code:=fun i hi=>by
    obtain⟨w,e,k,h2,h3,h4⟩:=y.code i hi
    refine⟨w,e,k.ax fun b h5 h6=>un b (by omega) (by omega) (nz (h4 b h5 h6)).1 (nz (h4 b h5 h6)).2,h2,by omega,fun b h5 h6 h7=> ?_⟩
    rcases h7 with h7|h7|h7|h7|h7|h7
    ·exact h4 b h5 h6 (.inl h7)
    ·exact h4 b h5 h6 (.inr (.inl h7))
    ·exact h4 b h5 h6 (.inr (.inr (.inl h7)))
    ·rcases oR b h7 with h8|h8
     ·exact h4 b h5 h6 (.inr (.inr (.inr (.inl h8))))
     ·omega
    ·exact h4 b h5 h6 (.inr (.inr (.inr (.inr (.inl h7)))))
    ·exact h4 b h5 h6 (.inr (.inr (.inr (.inr (.inr h7)))))}
 have J6:∀{s:Pk} {ji:Value} {pw:Bool},fZ h1 0 n1 m.q s ji pw->s.fin=false->ah (fun _=>False) n1 (aq ai gt lf (d+5) 59 #[.pointer (some ⟨m.q,0,none⟩)]) h1 n1 fun v' h' n'=>v'= .bool false∧h'=h1∧n'=n1:=fun{s ji pw} hp hf=>by
  have:=Ef (lf:=lf) (d:=d+4) hp
  rw[show(decide (0<s.count)&&decide (s.bX.length=s.count))=false from hf]at this
  exact this
 unfold sV at aU
 rw[dH]at aU
 split at aU
 ·next e=>
  obtain⟨rfl,x1,y1⟩:=aU
  try simp(disch:=first|omega|assumption|exact aa _) only[ag,ae,RZ,g1]
  refine bV (J6 y1 hf) bb (fun _ _ h=>h.elim) ?_
  try simp(disch:=first|omega|assumption|exact aa _) only[ag,ae,RZ]
  try rw[e]
  have:=mk c.pk m.pv false y1 fun b hb=> .inl hb
  rw[<-jz]at this
  exact⟨x1,this⟩
 ·next e0 e=>
  obtain⟨rfl,x1,y1⟩:=aU
  try simp(disch:=first|omega|assumption|exact aa _) only[ag,ae,RZ,g1]
  refine bV (J6 y1 hf) bb (fun _ _ h=>h.elim) ?_
  try simp(disch:=first|omega|assumption|exact aa _) only[ag,ae,RZ]
  try rw[e]
  first|exact⟨rfl,x1,mk c.pk m.pv true y1 fun b hb=> .inl hb⟩|exact⟨x1,mk c.pk m.pv true y1 fun b hb=> .inl hb⟩
 ·next s u e=>
  obtain⟨rfl,x1,ji,y1,oR⟩:=aU
  try simp(disch:=first|omega|assumption|exact aa _) only[ag,ae,RZ,g1]
  try rw[e]
  by_cases vt:s.fin=true
  ·have dn:=Ef (lf:=lf) (d:=d+4) y1
   rw[show(decide (0<s.count)&&decide (s.bX.length=s.count))=true from vt]at dn
   refine bV dn bb (fun _ _ h=>h.elim) ?_
   have UX:=vt
   unfold Pk.fin at UX
   rw[bZ,decide_eq_true_eq,decide_eq_true_eq]at UX
   have aep:=y1.cnt
   try simp(disch:=first|omega|assumption|exact aa _) only[ag,ae,RZ,g1]
   refine aI aF (aee (lf:=lf) (d:=d+3) y1 (by omega) (by omega)) bb (fun _ _ h=>h.elim) fun v2 h2 n2 dZ dq dx=> ?_
   have y2:=(mk s ji false y1 oR).ax dZ fun b hb _=>dq b hb id
   have g2:=y2.get
   unfold nH at g2
   have lK:=y2.lt
   obtain⟨r2,f2⟩:=dx
   obtain⟨a2,c2,rfl⟩:=r2.len
   try simp(disch:=first|omega|assumption|exact aa _) only[ag,ae,RZ,g2,sX,true_or,or_true]
   refine⟨(x1.ax dZ (dq p x1.lt id)).ax (ak _) (aA _ _ mG),ji,_, ?_,oR,fun b hb=> .inr (by have:=f2 b hb;omega)⟩
   unfold qa
   rw[if_pos vt]
   have:=y2.Eg {c with pk:=s,bH:=s.bX} (.slice a2 (iN s.bX).length c2) rfl rfl rfl rfl rfl r2 (fun b hb=>⟨fun e=>by have:=(y1.own.lt e).2;have:=f2 b hb;omega,fun e=>by have:=(y.de.own.lt e).2;have:=f2 b hb;omega⟩) rfl
   rw[<-jz]at this
   exact this
  ·have vt:s.fin=false:=by simpa using vt
   refine bV (J6 y1 vt) bb (fun _ _ h=>h.elim) ?_
   try simp(disch:=first|omega|assumption|exact aa _) only[ag,ae,RZ]
   have:=mk s ji false y1 oR
   refine⟨x1,ji,m.tv, ?_,oR,fun b hb=> .inl hb⟩
   unfold qa
   rw[vt,jz]
   exact this
end
end Go.Proofs.YtdagfcflbphoiaaGreatDoor
