import Derived.Test.YtmjolmggelkjlaaGreatMai
open Go.Proofs.Tryz renaming prog→aa
open Nat renaming le_refl→ah, zero_le→aP, lt_succ_self→dO, le_succ→eL, zero_add→fy, lt_of_lt_of_le→fP, le_trans→iV, add_zero→jd, mod_lt→jt, mod_eq_of_lt→kP, pow_le_pow_right→pS, mul_le_mul_right→qL, add_comm→E8, pow_one→LQ, xor_zero→Ma, xor_assoc→Md, xor_mod_two_pow→aae, shiftLeft_eq→aaf, xor_div_two_pow→aag, zero_mul→amn, mul_le_mul_left→ano, div_add_mod→anv, xor_comm→anB, div_eq_of_lt→anC, zero_mod→anD, mul_div_cancel→anE, mul_mod_left→anF
open Go.Value renaming string→aO, agg→mC, tuple→Mc
open List renaming getD_eq_getElem?_getD→bw, getElem?_eq_getElem→bA, length_drop→bC, length_append→bE, replicate→bQ, append_nil→bR, length_cons→cK, length_take→cO, getElem_mem→dH, append_assoc→dY, length_map→fQ, length_nil→hC, getElem?_map→iW, not_mem_nil→je, length_replicate→jX, nil_append→kQ, mem_cons_of_mem→uZ, countP_le_length→At, foldl_append→Av, drop_append_of_le_length→Fe, take_append_of_le_length→Ff
open Bool renaming and_eq_true→bW, not_false→cx, and_self→eA
open BitVec renaming ofInt→bY
open Int renaming toNat_natCast→cR, lt_irrefl→eO
open UInt8 renaming ofNat→gP
open Go.IntKind renaming wrap_u32→L0
open Go.Lib renaming repeatL→ZF
open Except renaming error→aah
set_option linter.unusedVariables false
set_option linter.unusedSimpArgs false
namespace Go.Proofs.YtmjolmggelkjlaaGreat
open Go.RowKit Ev Cn Ip
theorem K':∀(l:List Nat) (z a:Zr) (ps:List Nat),1<=z.n->z.told+z.aR<=z.most->dh z l=some (a,ps)->ps.length+z.told=a.told∧a.told+a.aR<=z.most∧∀p∈ps,p<z.n
 |[],z,a,ps,y,k,h=>by cases h;exact⟨fy _,k,fun p x=>absurd x je⟩
 |c::l,z,a,ps,y,k,h=>by
  unfold dh at h;cases e:cW z c with
  |none=>rw[e]at h;cases h
  |some t=>
   obtain⟨b,m,p⟩:=t;rw[e]at h;dsimp only at h;have C:=K0 e;have r:=YL e
   have f:b.told+b.aR<=z.most∧b.most=z.most∧p<z.n:=by
    unfold cW at e;split at e
    ·cases e
    ·split at e
     ·split at e
      ·cases e
      ·cases e;refine⟨?_,rfl,jO⟩;show z.told+(z.aR+z.weight*2^c)<=z.most;omega
     ·split at e
      ·cases e;refine⟨?_,rfl,jO⟩;show z.told+z.aR+0<=z.most;omega
      ·split at e
       ·cases e
       ·cases e;refine⟨?_,rfl,jO⟩;show z.told+1+z.aR+0<=z.most;omega
   obtain⟨v,j,u⟩:=f;cases g:dh b l with
   |none=>rw[g]at h;cases h
   |some n=>
    obtain⟨A,d⟩:=n;rw[g]at h;cases h;obtain⟨B,i,o⟩:=K' l b _ d jO (by rw[j];exact v) g;have s:(gW p).length=if 0<p then 1 else 0:=by unfold gW;split<;>rfl
    refine⟨?_,by rw[j]at i;exact i,fun q hq=> ?_⟩
    ·rw[bE,bE,jX,s];omega
    ·rcases List.mem_append.1 hq with hq|hq
     ·rcases List.mem_append.1 hq with hq|hq
      ·rw[(List.mem_replicate.1 hq).2];omega
      ·unfold gW at hq;split at hq
       ·rw[List.mem_singleton.1 hq];exact u
       ·exact absurd hq je
     ·rw[<-r];exact o q hq
def wX(r:St Gt)(a:Value):Prop:=match r with
 | .short=>a= .agg #[aL [],.int .i64 0,.int .u32 0,.int .i64 0,.int .i64 0,.int .i64 3]
 | .bad e=>a= .agg #[aL [],.int .i64 0,.int .u32 0,.int .i64 0,.int .i64 0,.int .i64 e]
 | .ok g w=>∃hd:Int,a= .agg #[aL g.last,.int .i64 (g.bH:Int),.int .u32 (g.sum:Int),.int .i64 (w:Int),.int .i64 hd,.int .i64 0]
theorem wX.add{r:St Gt}{a:Nat}:r= .short∨(∃e,r= .bad e)->∀b,wX r b->wX (r.add a) b:=by rintro(rfl|⟨e,rfl⟩) b h<;>exact h
section
variable {Y d n:Nat} {h:H}
theorem akc(bs:List Bool)(hl:bs.length<=8000){room:Nat}(hm:room<=1000000)(u6:3000000<=Y):af (fun _=>False) n (aj aa gt Y (d+7) 104 #[tx bs,jI (room:Int)]) h n (fun X _ _=>wX (lr room bs) X):=by
 rw[aC (fun _=>adH) rfl];refine af.aB ?_;unfold QU;refine dL rfl _ ?_;obtain⟨h0,P⟩:∃h0,h.set n (some ⟨159,true,z159⟩)=h0:=⟨_,rfl⟩;have T:h0.get n=some ⟨159,true,z159⟩:=by rw[<-P,get_eq]
 rw[P];clear P
 have err:∀(e:Int) (t:H) (n2:Nat),n<n2->t.get n=some ⟨159,true,z159⟩->af (fun _=>False) n (aM 6 (jP n 0) (.agg #[aL [],jI 0,.int .u32 0,jI 0,jI 0,jI e]) fun _=>aT 6 (jP n 0) fun b=>ag [b]) t n2 (fun X _ _=>X= .agg #[aL [],jI 0,.int .u32 0,jI 0,jI 0,jI e]):=fun e t n2 z9 g=>by refine cq (sz:=6) trivial (vs:=[aL [],jI 0,.int .u32 0,jI 0,jI 0,jI e]) rfl rfl rfl g jO (.inl (ah _)) _ fun h1 g1 k1=> ?_;exact dV trivial trivial g1 rfl jO rfl
 unfold lr;by_cases c1:bs.length<57
 ·have z1:((bs.length:Nat):Int)<57:=jO;rw[if_pos c1];refine jA (aI @cV @z1) ?_;exact err 3 _ _ jO T
 have z1:¬((bs.length:Nat):Int)<57:=jO;have x2:(32:Int)<((bs.length:Nat):Int):=jO;rw[if_neg c1];have ix:=fun(K:Value->M Value)=>pD bs .i64 32 jO x2 K;rw[show((32:Int)).toNat=32 from rfl]at ix;by_cases c2:bs.getD 32 false=true
 ·rw[if_pos c2];rw[c2]at ix;have z2:((48+(bn true:Int))==49)=true:=rfl;refine jA (aI @cV @z1) ?_;rw[ix];refine jA @z2 ?_;exact err 25 _ _ jO T
 have y7:bs.getD 32 false=false:=by simpa using c2
 rw[if_neg c2];rw[y7]at ix;have z2:((48+(bn false:Int))==49)=false:=rfl;have u2:=fun(k:Value->M Value)=>nT bs .i64 57 k jO jO;rw[show((57:Int)).toNat=57 from rfl]at u2;refine jA (aI @cV @z1) ?_;rw[ix];refine jA @z2 ?_;try rw[u2]
 refine aN aE (ajP (Y:=Y) (d:=d+5) (bs:=bs.drop 57) (by rw[bC];omega) jO) jO (fun _ _ h=>h.elim) fun v1 h1 I a' y5 f=> ?_;have R:=(y5 n jO id).trans T;refine dL rfl _ ?_;have l1:I<I+1:=jO;cases e1:fo (bs.drop 57)with
 |short=>rw[e1]at f;have f:v1= .agg #[aL [],jI 0,jI 3]:=f;subst f;refine cq (sz:=3) trivial (vs:=[aL [],jI 0,jI 3]) rfl rfl rfl (get_eq _ _ _) jO (.inl jO) _ fun t g2 k2=> ?_;have L:((3:Int) !=0)=true:=rfl;refine jA (aI @g2 @L) ?_;exact err 3 t _ jO (by rw[k2 n jO,aw _ _ jO];exact R)
 |bad e0=>obtain rfl:=D9 e1;rw[e1]at f;have f:v1= .agg #[aL [],jI 0,jI 25]:=f;subst f;refine cq (sz:=3) trivial (vs:=[aL [],jI 0,jI 25]) rfl rfl rfl (get_eq _ _ _) jO (.inl jO) _ fun t g2 k2=> ?_;have L:((25:Int) !=0)=true:=rfl;refine jA (aI @g2 @L) ?_;exact err 25 t _ jO (by rw[k2 n jO,aw _ _ jO];exact R)
 |ok s u=>
  obtain⟨sy,s0,u0,ul⟩:=uB e1;have sl:=sy.len;have sp:1<=s.length:=List.length_pos_iff.2 s0;rw[bC]at ul;rw[e1]at f;have f:v1= .agg #[aL s,jI (u:Int),jI 0]:=f;subst f;refine cq (sz:=3) trivial (vs:=[aL s,jI (u:Int),jI 0]) rfl rfl rfl (get_eq _ _ _) jO (.inl jO) _ fun t g2 k2=> ?_;have x8:t.get n=some ⟨159,true,z159⟩:=by rw[k2 n jO,aw _ _ jO];exact R
  have L:((0:Int) !=0)=false:=rfl;have w1:IntKind.i64.wrap (57+((u:Nat):Int))=((57+u:Nat):Int):=by rw[aH jO jO];omega
  have w2:IntKind.i64.wrap (((s.length:Nat):Int)+2)=((s.length+2:Nat):Int):=by rw[aH jO jO];omega
  have w0:57+((u:Nat):Int)=((57+u:Nat):Int):=jO;have v9:((s.length:Nat):Int)+2=((s.length+2:Nat):Int):=jO;have sU:=fun(k:Value->M Value)=>nT bs .i64 ((57+u:Nat):Int) k jO jO;rw[cR]at sU;refine jA (aI @g2 (aI @L (aI @jT (aI @w1 (aI @w2 (aI @w0 @v9)))))) ?_;rw[sU]
  have ol:∀(r:Rs) (held:Int) (v:Value) (h':H) (n0 n':Nat),wN n0 r held v h' n'->∃x y z u hd e,v= .agg #[.slice x y z,jI u,jI hd,jI e]∧match r with
   | .err e0=>e=e0∧u=0
   | .ok out a=>e=0∧u=(a:Int)∧Own h' n0 n' 3 (.slice x y z) (aW .i64 out):=fun r held v h' n0 n' q=>by
   obtain⟨ov,u,hd,e,rfl,q⟩:=q;cases r with
   |err e0=>obtain⟨q1,rfl,q3⟩:=q;exact⟨_,_,_,_,_,_,rfl,q1,q3⟩
   |ok out a=>obtain⟨q1,q2,q3,q4⟩:=q;obtain⟨x,z,rfl⟩:=q3.row.len;exact⟨_,_,_,_,_,_,rfl,q1,q2,q3⟩
  obtain⟨B,hB⟩:∃B,bs.drop (57+u)=B:=⟨_,rfl⟩;rw[hB]at sU⊢;have Bl:B.length<=8000:=by rw[<-hB,bC];omega
  refine aN aE (ahU (Y:=Y) (d:=d+1) B jO u6 jO jO 8000) jO (fun _ _ h=>h.elim) fun v3 h3 G z8 y4 u5=> ?_;obtain⟨ox,oy,oz,ub,hd,e3,rfl,D⟩:=ol _ _ _ _ _ _ u5;clear u5;refine dL rfl _ ?_;refine cq (sz:=4) trivial (vs:=[.slice ox oy oz,jI ub,jI hd,jI e3]) rfl rfl rfl (get_eq _ _ _) jO (.inl jO) _ fun h4 g4 k4=> ?_;have u1:∀b,b<I+1->h4.get b=t.get b:=fun b hb=>by rw[k4 b jO,aw _ _ jO];exact y4 b hb id
  refine jB ?_;try rw[sU]
  refine aN aE (aj2 (Y:=Y) (d:=d+1) B jO u6 (size:=s.length+2) jO jO) jO (fun _ _ h=>h.elim) fun v5 h5 n5 z7 y3 O=> ?_;unfold Ew at O;have m:=aj6 (size:=s.length+2) (bs:=B);have E:=fun(i:Nat)=>ajY (size:=s.length+2) (bs:=B) i;obtain⟨j,N⟩:∃j,jq (s.length+2) B=j:=⟨_,rfl⟩;have fin:=aj' s room (num ((bs.drop 33).take 24) 0) (num (bs.take 32) 0) B Bl;rw[N]at O m E fin;have u4:=aj9 fun c J=>(m c J).1
  have v2:∀c∈ej j,c<s.length+2:=fun c J=>by unfold ej at J;obtain⟨x,hx,rfl⟩:=List.mem_map.1 J;have:=m x hx;omega
  have y6:(ej j).length=j.length:=by unfold ej;rw[fQ]
  have v0:∀i,i+1<(ej j).length->(ej j).getD i 0≠s.length+1:=fun i hi q=>by rw[y6]at hi;refine E i hi ?_;unfold ej at q;have hx:=m j[i] (dH (by omega:i<j.length));rw[bw,iW,bA (by omega:i<j.length)]at q;rw[bw,bA (by omega:i<j.length)];have q:j[i].toNat=s.length+1:=q;show j[i]+1=_;omega
  have y8:j.length<=8001:=by rw[<-N];exact iV (aj8 _ _) jO
  refine aN aE (ajS (Y:=Y) (d:=d+2) (ej j) s.length room sp sl hm (fun c J=>by have:=v2 c J;omega) v0 (by rw[u4];exact O.row) jO jO jO) jO (fun _ _ h=>h.elim) fun v6 h6 n6 z6 y2 C=> ?_;have A:∀b,b<G+1->h6.get b=h4.get b:=fun b hb=>(y2 b jO id).trans (y3 b hb id);have Q:=(A n jO).trans ((u1 n jO).trans x8);have y1:=(A I jO).trans ((u1 I jO).trans g2);have U:=(A G jO).trans g4;rw[fin];have x5:qH s.length room j=(dh (ew s.length room) (ej j)).isSome:=rfl;rw[x5];by_cases cm:(dh (ew s.length room) (ej j)).isSome=true
  ·rw[if_pos cm]at C⊢;subst C;have w9:G<n6:=jO;have x1:I<n6:=jO;cases hr:qy (s.length+2) B 8000 with
   |err e=>
    rw[hr]at D;obtain⟨rfl,rfl⟩:=D;have z4:(e3 !=0)=true:=by rw[bne_iff_ne];exact YJ hr
    refine jA (aI @L (aI @U @z4)) ?_;refine(err e3 h6 n6 jO Q).mono ?_;rintro X _ _ _ rfl;show wX ((if e3=3 then St.short else .bad e3).add _) _;split
    ·next q=>rw[q];rfl
    ·rfl
   |ok out a=>
    rw[hr]at D;obtain⟨rfl,rfl,oo⟩:=D;obtain⟨q1,i0,q2⟩:=aj_ Bl hr;rw[N]at q1;subst q1;obtain⟨⟨zl,Z⟩,hz⟩:=Option.isSome_iff_exists.1 cm
    have x6:zl.done=true:=by refine akb (l:=ej i0) (room:=room) sp (ps:=Z) ?_;rw[<-hz];congr 1;rw[q2];unfold ej;rw[List.map_append];congr 1;show [s.length+1]=[(((s.length+2:Nat):Int)-1).toNat];congr 1;omega
    have w4:Row h6 n6 3 .i64 (.slice ox oy oz) (iN (ej out)):=by rw[u4];exact(oo.row).au jO fun b hb=>by rw[A b jO,k4 b jO,aw _ _ jO]
    refine jA (aI @L @U) ?_;refine aN aE (aj0 (Y:=Y) (d:=d+2) (ej out) s.length room sp sl hm (fun c J=>by have:=v2 c J;omega) v0 w4 jO jO jO hz x6) jO (fun _ _ h=>h.elim) fun v7 h7 n7 z3 W x4=> ?_;obtain⟨pv,rfl,op⟩:=x4;obtain⟨zt,zm,zp⟩:=K' _ _ _ _ sp (aP _) hz;have zp:∀p∈Z,p<s.length:=zp;have zt:Z.length+0=zl.told:=zt;have zm:zl.told+zl.aR<=room:=zm;have y0:=(W I x1 id).trans y1;have x9:=(W G w9 id).trans U;have x7:=(W n jO id).trans Q;have y9:I<n7:=jO;refine jA (aI @bI (aI @ext1 @y0)) ?_;refine aN aE (ajK (Y:=Y) (d:=d+2) sy s0 Z zp jO op.row jO) jO (fun _ _ h=>h.elim) fun v8 h8 n8 z0 u9 x3=> ?_;subst x3;have u8:=(u9 G jO id).trans x9;have u7:=(u9 n jO id).trans x7;have u3:G<n8:=jO;have ml:=Eb Z s;have s3:=fun(K:Value->M Value)=>r9 bs .i64 .i64 33 57 K jO jO jO;rw[show((33:Int)).toNat=33 from rfl,show((57:Int)).toNat-33=24 from rfl]at s3;have s4:=fun(K:Value->M Value)=>D1 bs .i64 32 K jO jO;rw[show((32:Int)).toNat=32 from rfl]at s4;have nf:=Aa (Y:=Y) (d:=d+5) (n:=n8) (h:=h8) ((bs.drop 33).take 24) (by rw[cO];omega) jO;have ns:=Aa (Y:=Y) (d:=d+5) (n:=n8) (h:=h8) (bs.take 32) (by rw[cO];omega) jO
    have w7:num ((bs.drop 33).take 24) 0<16777216:=fP (hH _) (by
     have:2^((bs.drop 33).take 24).length<=2^24:=pS jD (by rw[cO];omega)
     exact this)
    refine jA (aI @bI @ext1) ?_;rw[s3]
    show af _ _ _ _ _ (fun X _ _=>wX ((match dh (ew s.length room) (ej out)with
     |none=>St.bad 25
     |some (_,ps)=>if(b9 s ps).1.length<=num ((bs.drop 33).take 24) 0 then .bad 23 else .ok (Gt.mk (b9 s ps).1 (num ((bs.drop 33).take 24) 0) (num (bs.take 32) 0)) a).add (57+u)) X)
    rw[hz];dsimp only;generalize num ((bs.drop 33).take 24) 0=o at nf w7⊢;generalize num (bs.take 32) 0=w3 at ns⊢;generalize (b9 s Z).1=last at ml⊢;refine bz nf jO (fun _ _ h=>h.elim) ?_;have w5:IntKind.i64.wrap ((o:Nat):Int)=((o:Nat):Int):=aH jO jO;by_cases cl:last.length<=o
    ·have z5:((last.length:Nat):Int)<=((o:Nat):Int):=jO;rw[if_pos cl];refine jA (aI @w5 (aI @jT @z5)) ?_;exact err 23 h8 n8 jO u7
    ·have z5:¬((last.length:Nat):Int)<=((o:Nat):Int):=jO;rw[if_neg cl];refine jA (aI @w5 (aI @jT @z5)) ?_;rw[s4];refine agr _ _ fun T1 t1=> ?_;refine jB ?_;refine lO aE ns jO fun T2 t2=> ?_;refine jB ?_;refine lN trivial G 1 _ u8 u3 rfl fun T3 t3=> ?_;refine jB ?_;refine lN trivial G 2 _ u8 u3 rfl fun T4 t4=> ?_;refine jA @jT ?_;refine DS (fun _ _=>rfl) ?_
     have b':a<=B.length:=by rw[D5]at hr;exact YK hr
     have w6:IntKind.i64.wrap (((57+u:Nat):Int)+((a:Nat):Int))=((57+u+a:Nat):Int):=by rw[aH jO jO];omega
     have v4:((57+u:Nat):Int)+((a:Nat):Int)=((57+u+a:Nat):Int):=jO;refine jA (aI @w6 @v4) ?_;refine cq (sz:=6) trivial (vs:=[aL last,jI (o:Int),.int .u32 (w3:Int),jI ((57+u+a:Nat):Int),jI (IntKind.i64.wrap (hd+(last.length:Int))),jI 0]) rfl rfl rfl u7 jO (.inl (ah _)) _ fun h9 g9 k9=> ?_;try simp(disch:=first|omega|assumption) only[Nat.reduceAdd,Nat.reduceLT,RZ,t2.cA t3,t2.cA t4,cx,eA,dQ]
     exact dV trivial trivial g9 rfl jO ⟨_,rfl⟩
  ·rw[if_neg cm]at C⊢;obtain⟨e,he,rfl⟩:=C;have z4:(e !=0)=true:=by rw[bne_iff_ne];exact he
   refine jA @z4 ?_;exact err 25 h6 n6 jO Q
end
def wY:List Nat->Bool
 |a::b::c::d::_=>decide (a=b∧b=c∧c=d)
 |_=>false
def pN(a:List Nat):Except Int (List Nat)->Except Int (List Nat)
 | .ok t=> .ok (a++t)
 | .error e=> .error e
theorem akd(p q x:Nat)(l:List Nat)(h:wY (x::l)=false):cU 0 p (x::l)=pN [x] (cU 0 q l):=by
 have b:∀(run a y:Nat) (m:List Nat),run≠4->cU run a (y::m)=pN [y] (cU (if 0<run∧y=a then run+1 else 1) y m):=fun run a y m c=>by show(if run=4 then _ else _)=_;rw[if_neg c];cases cU (if 0<run∧y=a then run+1 else 1) y m<;>rfl
 have nil:∀(run a:Nat),run≠4->cU run a []= .ok []:=fun run a c=>if_neg c;rw[b 0 p x l jO,if_neg jO];congr 1;cases l with
 |nil=>rw[nil 1 x jO,nil 0 q jO]
 |cons y l=>
  rw[b 1 x y l jO,b 0 q y l jO,if_neg (by omega:¬(0<0∧y=q))];by_cases f:y=x
  ·subst f;rw[if_pos ⟨jO,rfl⟩];congr 1;cases l with
   |nil=>rw[nil 2 y jO,nil 1 y jO]
   |cons z l=>
    rw[b 2 y z l jO,b 1 y z l jO];by_cases d:z=y
    ·subst d;rw[if_pos ⟨jO,rfl⟩,if_pos ⟨jO,rfl⟩];congr 1;cases l with
     |nil=>rw[nil 3 z jO,nil 2 z jO]
     |cons w l=>
      have e:¬w=z:=fun q=>by subst q;unfold wY at h;simp at h
      rw[b 3 z w l jO,b 2 z w l jO,if_neg (fun q=>e q.2),if_neg (fun q=>e q.2)]
    ·rw[if_neg (fun q=>d q.2),if_neg (fun q=>d q.2)]
  ·rw[if_neg (fun q=>f q.2)]
theorem ake{l:List Nat}(h:wY l=true):∃x e,l=x::x::x::x::e:=by
 match l,h with
 |a::b::c::d::e,h=>have q:a=b∧b=c∧c=d:=of_decide_eq_true h;obtain⟨rfl,rfl,rfl⟩:=q;exact⟨a,e,rfl⟩
theorem akf(p x:Nat)(l:List Nat):cU 0 p (x::x::x::x::l)=pN [x,x,x,x] (cU 4 x l):=by
 have b:∀(run a y:Nat) (m:List Nat),run≠4->cU run a (y::m)=pN [y] (cU (if 0<run∧y=a then run+1 else 1) y m):=fun run a y m c=>by show(if run=4 then _ else _)=_;rw[if_neg c];cases cU (if 0<run∧y=a then run+1 else 1) y m<;>rfl
 rw[b 0 p x _ jO,if_neg jO,b 1 x x _ jO,if_pos ⟨jO,rfl⟩,b 2 x x _ jO,if_pos ⟨jO,rfl⟩,b 3 x x _ jO,if_pos ⟨jO,rfl⟩];cases cU 4 x l<;>rfl
theorem La(q x y:Nat)(l:List Nat):cU 4 x (y::l)=if 251<y then .error 25 else pN (bQ y x) (cU 0 q l):=by
 have a:cU 0 y l=cU 0 q l:=by
  cases l with
  |nil=>rfl
  |cons z l=>
   have:∀q,cU 0 q (z::l)=match cU 1 z l with
    | .ok t=> .ok (z::t)
    | .error e=> .error e:=fun q=>by
    rw[KS,if_neg jO,if_neg jO];cases cU 1 z l<;>rfl
   rw[this,this]
 show(if 4=4 then(if 251<y then _ else _)else _)=_;rw[if_pos rfl,a];split
 ·rfl
 ·cases cU 0 q l<;>rfl
def uN(out:List Nat)(r:Except Int (List Nat))(a:Value):Prop:=match r with
 | .ok t=>a= .tuple #[aL (out++t),.int .i64 0]
 | .error _=>∃e:Int,e≠0∧a= .tuple #[aL [],.int .i64 e]
theorem uN.pN{out a:List Nat}{r:Except Int (List Nat)}{b:Value}(h:uN (out++a) r b):uN out (Proofs.YtmjolmggelkjlaaGreat.pN a r) b:=by
 cases r with
 |ok t=>exact h.trans (by rw[dY])
 |error e=>exact h
section
variable {Y d n:Nat} {h:H}
theorem akg(l:List Nat)(f:∀x∈l,x<256):af (fun _=>False) n (aj aa gt Y (d+1) 168 #[aL l]) h n fun t h' n'=>t= .bool (wY l)∧h'=h∧n'=n:=by
 rw[aC (fun _=>aeU) rfl];refine af.aB ?_;unfold SP;rw[jT]
 match l,f with
 |[],f=>have z:¬(4:Int)<=((([]:List Nat).length:Nat):Int):=jS;refine jA @z ?_;try rfl
 |[a],f=>have z:¬(4:Int)<=((([a]:List Nat).length:Nat):Int):=jS;refine jA @z ?_;try rfl
 |[a,b],f=>have z:¬(4:Int)<=((([a,b]:List Nat).length:Nat):Int):=jS;refine jA @z ?_;try rfl
 |[a,b,c],f=>have z:¬(4:Int)<=((([a,b,c]:List Nat).length:Nat):Int):=jS;refine jA @z ?_;try rfl
 |a::b::c::e::l,f=>
  have i:∀K:Value->M Value,cP (aL (a::b::c::e::l)) (jI 0) K=K (.int .u8 (a:Int)):=fun K=>sA (a::b::c::e::l) f .i64 0 jS K;have i1:∀K:Value->M Value,cP (aL (a::b::c::e::l)) (jI 1) K=K (.int .u8 (b:Int)):=fun K=>sA (a::b::c::e::l) f .i64 1 jS K;have j:∀K:Value->M Value,cP (aL (a::b::c::e::l)) (jI 2) K=K (.int .u8 (c:Int)):=fun K=>sA (a::b::c::e::l) f .i64 2 jS K;have i3:∀K:Value->M Value,cP (aL (a::b::c::e::l)) (jI 3) K=K (.int .u8 (e:Int)):=fun K=>sA (a::b::c::e::l) f .i64 3 jS K;have z:(4:Int)<=(((a::b::c::e::l).length:Nat):Int):=by simp only[cK];omega
  have k:wY (a::b::c::e::l)=decide (a=b∧b=c∧c=e):=rfl;generalize a::b::c::e::l=L at i i1 j i3 z k⊢;rw[k];by_cases p:a=b
  ·subst p;have g:(((a:Nat):Int)==((a:Nat):Int))=true:=beq_iff_eq.2 rfl;by_cases o:a=c
   ·subst o;by_cases m:a=e
    ·subst m;exact jC (aI @z (aI @i (aI @i1 (aI @j (aI @i3 @g)))))
    ·have r:(((a:Nat):Int)==((e:Nat):Int))=false:=beq_eq_false_iff_ne.2 jO;rw[decide_eq_false (fun q=>m q.2.2)];exact jC (aI @z (aI @i (aI @i1 (aI @j (aI @i3 (aI @g @r))))))
   ·have s:(((a:Nat):Int)==((c:Nat):Int))=false:=beq_eq_false_iff_ne.2 jO;rw[decide_eq_false (fun q=>o q.2.1)];exact jC (aI @z (aI @i (aI @i1 (aI @j (aI @i3 (aI @g @s))))))
  ·have g:(((a:Nat):Int)==((b:Nat):Int))=false:=beq_eq_false_iff_ne.2 jO;rw[decide_eq_false (fun q=>p q.1)];exact jC (aI @z (aI @i (aI @i1 @g)))
theorem akh:∀(fuel:Nat) (l out:List Nat) (a:Nat) (h:H) (n:Nat),l.length<=fuel->l.length<a->(∀x∈l,x<256)->out.length+252*l.length<=1000000000->1000<=Y->af (fun _=>False) n (pe Y (aj aa gt Y (d+1)) a (rF Y (aj aa gt Y (d+1))) (aL l) (aL []) (jI 0) (aL out)) h n fun m _ _=>uN out (cU 0 0 l) m:=by
 have P:∀(out:List Nat) (a:Nat) (h:H) (n:Nat),af (fun _=>False) n (pe Y (aj aa gt Y (d+1)) (a+1) (rF Y (aj aa gt Y (d+1))) (aL []) (aL []) (jI 0) (aL out)) h n fun m _ _=>uN out (cU 0 0 []) m:=fun out a h n=>by rw[pe,jT];have v:¬(0:Int)<((0:Nat):Int):=jD;refine jA @v ?_;unfold rF;refine jB ?_;show Mc #[aL out,jI 0]=Mc #[aL (out++[]),jI 0];rw[bR]
 intro fuel
 induction fuel with
 |zero=>intro l out a h n D p k O g;obtain rfl:=List.length_eq_zero_iff.1 (Nat.le_zero.1 D);obtain⟨a,rfl⟩:∃f,a=f+1:=⟨a-1,jO⟩;exact P out a h n
 |succ fuel J=>
  intro l out a h n D p k O g;obtain⟨a,rfl⟩:∃f,a=f+1:=⟨a-1,jO⟩;cases l with
  |nil=>exact P out a h n
  |cons x l=>
   have hl:(x::l).length=l.length+1:=rfl;have v:(0:Int)<((l.length+1:Nat):Int):=jO;rw[pe,jT];refine jA @v ?_;refine bz (akg (Y:=Y) (d:=d) (x::l) k) (ah _) (fun _ _ h=>h.elim) ?_;cases T:wY (x::l)with
   |false=>have s:∀K:Value->M Value,bN (aL (x::l)) none (some (jI 1)) K=K (aL [x]):=fun K=>K5 (x::l) .i64 1 K jO;have a2:∀K:Value->M Value,bN (aL (x::l)) (some (jI 1)) none K=K (aL l):=fun K=>K6 (x::l) .i64 1 K jO;have G:=fun(K:Value->M Value)=>pL out [x] (by simp only[cK,hC];omega) K;refine jB ?_;rw[s,G,a2];refine(J l (out++[x]) a h n jO jO (fun y N=>k y (uZ _ N)) (by rw[bE];simp only[cK,hC];omega) g).mono ?_;intro m _ _ _ c;rw[akd 0 0 x l T];exact c.pN
   |true=>
    obtain⟨x',l4,e⟩:=ake T;injection e with e1 e2;subst e1;subst e2;rw[akf];cases l4 with
    |nil=>have A:∀K:Value->M Value,bJ (aL [x,x,x,x]) K=K (jI 4):=fun K=>jT _ K;have r:((4:Int)==4)=true:=rfl;refine jA (aI @A @r) ?_;unfold rF;refine jB ?_;exact⟨24,jD,rfl⟩
    |cons y b=>
     have C:(x::x::x::x::y::b).length=b.length+5:=rfl;have r:((((x::x::x::x::y::b).length:Nat):Int)==4)=false:=beq_eq_false_iff_ne.2 jO;have N:y<256:=k y jS;have B:∀K:Value->M Value,cP (aL (x::x::x::x::y::b)) (jI 4) K=K (.int .u8 (y:Int)):=fun K=>sA _ k .i64 4 jO K;have s:∀K:Value->M Value,bN (aL (x::x::x::x::y::b)) none (some (jI 1)) K=K (aL [x]):=fun K=>K5 _ .i64 1 K jO;have U:∀K:Value->M Value,bN (aL (x::x::x::x::y::b)) (some (jI 5)) none K=K (aL b):=fun K=>K6 _ .i64 5 K jO;have E:∀z∈b,z<256:=fun z hz=>k z (by simp[hz]);rw[La 0 x y b];generalize x::x::x::x::y::b=L at r B s U C D p O⊢;refine jB ?_;rw[jT];refine jA (aI @r @B) ?_;by_cases R:251<y
     ·have u:(251:Int)<((y:Nat):Int):=jO;refine jA @u ?_;unfold rF;refine jB ?_;rw[if_pos R];exact⟨25,jD,rfl⟩
     ·have u:¬(251:Int)<((y:Nat):Int):=jO;have w1:IntKind.i64.wrap ((y:Nat):Int)=((y:Nat):Int):=aH jO jO;have Z:4+((y:Nat):Int)=((4+y:Nat):Int):=jO;have X:IntKind.i64.wrap ((4+y:Nat):Int)=((4+y:Nat):Int):=aH jO jO;refine jA (aI @u (aI @B (aI @w1 (aI @Z @X)))) ?_;rw[if_neg R];rw[show aL out=aL (out++bQ 0 x) by rw[List.replicate_zero,bR]];refine dE (4+y) (fun i j (_:Unit)=>tP Y (aj aa gt Y (d+1)) i (RL Y (aj aa gt Y (d+1)) a (rF Y (aj aa gt Y (d+1)))) (aL L) (aL []) (jI 0) (aL (out++bQ j x)) (.bool true) (.bool false) (.bool false) (.bool false) (jI ((4+y:Nat):Int)) (jI (j:Nat))) (fun _ _ q o=>q=h∧o=n) ?_ ?_ Y 0 () h n (aP _) jO ⟨rfl,rfl⟩
      ·rintro i _ q o ⟨rfl,rfl⟩;rw[tP];refine jA @eO ?_
       (try unfold RL);(try unfold Ch);(try dsimp only)
       rw[U];refine(J b (out++bQ (4+y) x) a q o jO jO E (by rw[bE,jX];omega) g).mono ?_;intro m _ _ _ c;have c:=c.pN;cases Q:cU 0 0 b with
       |error e=>rw[Q]at c;exact c
       |ok t=>rw[Q]at c;refine c.trans ?_;show Mc #[aL (out++(bQ (4+y) x++t)),jI 0]=Mc #[aL (out++([x,x,x,x]++(bQ y x++t))),jI 0];rw[show bQ (4+y) x=[x,x,x,x]++bQ y x by rw[<-List.replicate_append_replicate];rfl,dY]
      ·rintro i j _ q o hj ⟨rfl,rfl⟩ next;have c3:((j:Nat):Int)<((4+y:Nat):Int):=jO;have W:((j:Nat):Int)+1=((j+1:Nat):Int):=rfl;have G:=fun(K:Value->M Value)=>pL (out++bQ j x) [x] (by rw[bE,jX];simp only[cK,hC];omega) K;rw[tP];refine jA @c3 ?_;rw[s,G];refine jB ?_;rw[W];have I:=next () q o ⟨rfl,rfl⟩;rw[List.replicate_succ',<-dY]at I;exact I
theorem aki(l:List Nat)(c:∀x∈l,x<256)(e:l.length<=3000000)(b:300000000<=Y):af (fun _=>False) n (aj aa gt Y (d+2) 134 #[aL l]) h n fun a _ _=>uN [] (cU 0 0 l) a:=by rw[aC (fun _=>ad') rfl];refine af.aB ?_;unfold H6;exact akh l.length l [] Y h n (ah _) jO c (by simp only[hC];omega) jO
end
theorem akj{a b m:Nat}(h1:a/m=b/m)(h2:a %m=b %m):a=b:=by rw[<-anv a m,<-anv b m,h1,h2]
theorem akk(p q r s:Nat):(p^^^q)^^^(r^^^s)=(p^^^r)^^^(q^^^s):=by rw[Md,Md,<-Md q r s,anB q r,Md]
theorem akl{a b:Nat}(f:a<4294967296)(e:b<4294967296):jo (a^^^b)=jo a^^^jo b:=by
 unfold jo
 have d:(a^^^b)*2^1 %4294967296=(a*2^1 %4294967296)^^^(b*2^1 %4294967296):=by have:(4294967296:Nat)=2^32:=rfl;rw[this,<-aae];congr 1;rw[<-aaf,<-aaf,<-aaf,Nat.shiftLeft_xor_distrib]
 have c:(a^^^b)/2^31=(a/2^31)^^^(b/2^31):=aag;rw[d,c,akk];congr 1;have c1:a/2^31=0∨a/2^31=1:=jO;have c2:b/2^31=0∨b/2^31=1:=jO;rcases c1 with c1|c1<;>rcases c2 with c2|c2<;>rw[c1,c2]<;>rfl
theorem YN{a b:Nat}(d:a<4294967296)(c:b<4294967296):∀k,jc k (a^^^b)=jc k a^^^jc k b
 |0=>rfl
 |k+1=>by show jo (jc k (a^^^b))=jo (jc k a)^^^jo (jc k b);rw[YN d c k,akl (zP k a d) (zP k b c)]
theorem YO{x:Nat}(h:x<16777216):∀k,k<=8->jc k x=x*2^k
 |0,_=>(Nat.mul_one x).symm
 |k+1,e=>by
  show jo (jc k x)=_;rw[YO h k jO];have p:2^k<=2^7:=pS jD jO;have d:(2:Nat)^7=128:=rfl
  have l:x*2^k<2147483648:=by have:x*2^k<=x*128:=ano _ jO;omega
  have a:(2:Nat)^31=2147483648:=rfl;have c:(2:Nat)^1=2:=rfl;have b:(2:Nat)^(k+1)=2^k*2:=Nat.pow_succ 2 k;unfold jo;rw[c,a,b,anC l,amn,anD,Ma,<-Nat.mul_assoc];exact kP jO
theorem akm{s b:Nat}(g:s<4294967296)(f:b<256):jc 8 (s^^^b*16777216)=jQ s b:=by
 have a:(2:Nat)^24=16777216:=rfl;have h:(s/16777216)^^^b<256:=Nat.xor_lt_two_pow (n:=8) (by have:(2:Nat)^8=256:=rfl;omega) f
 have e:s^^^b*16777216=(((s/16777216)^^^b)*16777216)^^^(s %16777216):=by
  refine akj (m:=2^24) ?_ ?_
  ·rw[aag,aag,a,anE _ jD,anE _ jD,anC (jt s (by decide:0<16777216)),Ma]
  ·rw[aae,aae,a,anF,anF,Ma,Nat.zero_xor,Nat.mod_mod]
 have d:s %16777216<16777216:=jt _ jD;rw[e,YN jO jO,YO d 8 (ah _)];unfold jQ so;rw[a,kP (by omega:((s/16777216)^^^b)*16777216<4294967296),anB];congr 1;have c:(2:Nat)^8=256:=rfl;rw[c];omega
theorem akn{x:Nat}(h:x<4294967296)(h2:2147483648<=x):jo x=((x-2147483648)*2 %4294967296)^^^79764919:=by
 unfold jo;have e:x/2^31=1:=by have:(2:Nat)^31=2147483648:=rfl;omega
 have b:x*2^1 %4294967296=(x-2147483648)*2 %4294967296:=by rw[LQ];omega
 have a:1*79764919 %4294967296=79764919:=rfl;rw[e,b,a]
theorem ako{x:Nat}(h2:x<2147483648):jo x=x*2:=by
 unfold jo;have e:x/2^31=0:=by have:(2:Nat)^31=2147483648:=rfl;omega
 rw[e,amn,anD,Ma,LQ];omega
section
variable {Y d n:Nat} {h:H}
theorem akp{x:Nat}(p:x<4294967296)(q:100<=Y):af (fun _=>False) n (aj aa gt Y (d+1) 179 #[.int .u32 (x:Int)]) h n fun o h' n'=>o= .int .u32 ((jc 8 x:Nat):Int)∧h'=h∧n'=n:=by
 rw[aC (fun _=>Tv) rfl];refine af.aB ?_;unfold CL;refine dE 8 (fun g i (_:Unit)=>rL Y (aj aa gt Y d) g (CK Y (aj aa gt Y d)) (.int .u32 ((jc i x:Nat):Int)) (.int .u32 0) (jI (i:Nat))) (fun i _ h' n'=>h'=h∧n'=n) ?_ ?_ Y 0 () h n (aP _) jO ⟨rfl,rfl⟩
 ·rintro g _ h' n' ⟨rfl,rfl⟩;have t:¬(((8:Nat):Int)<8):=jD;rw[rL];refine jA @t ?_
  (try unfold CK);(try dsimp only)
  exact jE
 ·rintro g i _ h' n' v ⟨rfl,rfl⟩ next;have k:((i:Nat):Int)<8:=jO;have u:((i:Nat):Int)+1=((i+1:Nat):Int):=rfl;have j:=zP i x p;have c:=next () h' n' ⟨rfl,rfl⟩;have r:jc (i+1) x=jo (jc i x):=rfl;rw[r]at c;generalize jc i x=y at j c⊢;rw[rL];by_cases s:2147483648<=y
  ·have e:(2147483648:Int)<=((y:Nat):Int):=jO;rw[akn j s]at c
   have m:IntKind.u32.wrap (((y:Nat):Int)-2147483648)=((y-2147483648:Nat):Int):=by rw[show((y:Nat):Int)-2147483648=((y-2147483648:Nat):Int) by omega];exact fL jO
   have f:IntKind.u32.wrap (((y-2147483648:Nat):Int)*2)=(((y-2147483648)*2 %4294967296:Nat):Int):=by rw[L0];omega
   have l:IntKind.u32.wrap ((bY IntKind.u32.bits (((y-2147483648)*2 %4294967296:Nat):Int)^^^bY IntKind.u32.bits (79764919:Int)).toNat:Int)=((((y-2147483648)*2 %4294967296)^^^79764919:Nat):Int):=sk (a:=(y-2147483648)*2 %4294967296) (b:=79764919) jO jD;refine jA (aI @k (aI @e (aI @m (aI @f @l)))) ?_;exact c
  ·have e:¬(2147483648:Int)<=((y:Nat):Int):=jO;rw[ako jO]at c
   have f:IntKind.u32.wrap (((y:Nat):Int)*2)=((y*2:Nat):Int):=by rw[L0];omega
   refine jA (aI @k (aI @e @f)) ?_;exact c
theorem akq{s b:Nat}(c:s<4294967296)(l:b<256)(e:100<=Y):af (fun _=>False) n (aj aa gt Y (d+2) 145 #[.int .u32 (s:Int),.int .u8 (b:Int)]) h n fun k h' n'=>k= .int .u32 ((jQ s b:Nat):Int)∧h'=h∧n'=n:=by
 rw[aC (fun _=>Sn) rfl];refine af.aB ?_;unfold Ii;have j:IntKind.u32.wrap ((b:Nat):Int)=((b:Nat):Int):=fL jO
 have i:IntKind.u32.wrap (((b:Nat):Int)*16777216)=((b*16777216:Nat):Int):=by rw[show((b:Nat):Int)*16777216=((b*16777216:Nat):Int) by omega];exact fL jO
 have g:=sk (a:=s) (b:=b*16777216) c jO;have f:=akp (Y:=Y) (d:=d) (n:=n) (h:=h) (x:=s^^^b*16777216) (zO c jO) e;rw[akm c l]at f;refine jA (aI @j (aI @i @g)) ?_;refine bz f (ah _) (fun _ _ h=>h.elim) ?_;exact jE
theorem akr(l:List Nat)(j:∀x∈l,x<256)(r:l.length<Y)(c:100<=Y)(m:l.length<=1000000000):af (fun _=>False) n (aj aa gt Y (d+3) 112 #[aL l]) h n fun k h' n'=>k= .int .u32 ((iC l:Nat):Int)∧h'=h∧n'=n:=by
 rw[aC (fun _=>Ra) rfl];refine af.aB ?_;unfold Cb;refine dE l.length (fun e i (_:Unit)=>tJ Y (aj aa gt Y (d+2)) e (Ca Y (aj aa gt Y (d+2))) (aL l) (.int .u32 0) (.int .u32 ((pJ (l.take i):Nat):Int)) (jI (i:Nat))) (fun i _ h' n'=>h'=h∧n'=n) ?_ ?_ Y 0 () h n (aP _) jO ⟨rfl,rfl⟩
 ·rintro e _ h' n' ⟨rfl,rfl⟩;have g:=Yi l;rw[tJ,List.take_length,jT]
  have b:IntKind.u32.wrap (4294967295-((pJ l:Nat):Int))=((iC l:Nat):Int):=by unfold iC;rw[show(4294967295-((pJ l:Nat):Int))=((4294967295-pJ l:Nat):Int) by omega];exact fL jO
  refine jA @eO ?_
  (try unfold Ca);(try dsimp only)
  exact jC @b
 ·rintro e i _ h' n' a ⟨rfl,rfl⟩ next;have q:((i:Nat):Int)<((l.length:Nat):Int):=jO;have b:((i:Nat):Int)+1=((i+1:Nat):Int):=rfl;have p:l.getD i 0=l[i]:=by rw[bw,bA a];rfl
  have nN:=fun(K:Value->M Value)=>sA l j .i64 i a K;rw[p]at nN;have f:=next () h' n' ⟨rfl,rfl⟩
  have o:pJ (l.take (i+1))=jQ (pJ (l.take i)) l[i]:=by unfold pJ;rw[List.take_succ_eq_append_getElem a,Av];rfl
  rw[o]at f;have g:=Yi (l.take i);rw[tJ,jT];refine jA @q ?_;rw[nN];refine bz (akq (Y:=Y) (d:=d) g (j _ (dH a)) c) (ah _) (fun _ _ h=>h.elim) ?_;refine jB ?_;rw[b];exact f
end
section
variable {Y d n:Nat} {h:H}
theorem aks(l:List Nat)(s:By l)(L:l.length<=3000000)(B:300000000<=Y):af (fun _=>False) n (aj aa gt Y (d+1) 169 #[aL l]) h n fun u h' n'=>Own h' n n' 3 u (aW .i64 (iN (kJ l))):=by
 rw[aC (fun _=>aeX) rfl];refine af.aB ?_;unfold IB;refine dE 256 (fun m i (o:Value)=>rI Y (aj aa gt Y d) m (yE Y (aj aa gt Y d)) (aL l) nS o (jI (i:Nat))) (fun i o h' n'=>n<=n'∧Own h' n n' 3 o (aW .i64 (iN (fT l i)))) ?_ ?_ Y 0 nS h n (aP _) jO ⟨ah _,Own.nil _ _ _ _⟩
 ·rintro m o h' n' ⟨q1,q2⟩;have I:¬(((256:Nat):Int)<256):=jD;rw[rI];refine jA @I ?_;unfold yE;rw[k8];exact q2
 ·rintro m i o h' n' N ⟨q1,q2⟩ next;have G:((i:Nat):Int)<256:=jO;have t:((i:Nat):Int)+1=((i+1:Nat):Int):=rfl;rw[rI];refine jA @G ?_;rw[jT]
  have y:∀j,j<=l.length->(fT l i++fJ l i j).length<=6000000:=fun j k=>by
   rw[bE,lQ,wz i k];have P:bg l i<=l.length:=by rw[zR];exact At
   have O:eZ l i j<=l.length:=by unfold eZ cn;refine iV At ?_;rw[cO];omega
   omega
  refine dE l.length (fun e j (o:Value)=>rH Y (aj aa gt Y d) e (SS Y (aj aa gt Y d) m (yE Y (aj aa gt Y d))) (aL l) nS o (jI (i:Nat)) (jI (i:Nat)) (.bool true) (jI (l.length:Int)) (jI (j:Nat))) (fun j o h' n'=>n<=n'∧Own h' n n' 3 o (aW .i64 (iN (fT l i++fJ l i j)))) ?_ ?_ Y 0 o h' n' (aP _) jO ⟨q1,by rw[show fJ l i 0=[]from rfl,bR];exact q2⟩
  ·rintro e o h' n' ⟨q1,q2⟩;rw[rH];refine jA @eO ?_
   (try unfold SS);(try unfold Cz);(try dsimp only)
   refine jB ?_;rw[t];exact next o h' n' ⟨q1,q2⟩
  ·rintro e j o h' n' k ⟨q1,q2⟩ a;have E:((j:Nat):Int)<((l.length:Nat):Int):=jO;have q:((j:Nat):Int)+1=((j+1:Nat):Int):=rfl;have nN:=fun(K:Value->M Value)=>sA l s .i64 j k K;have f:=s.at k;have g:=zw l i j;have v:=y j jO;rw[rH];refine jA @E ?_;rw[nN];obtain⟨x,A⟩:∃x,l.getD j 0=x:=⟨_,rfl⟩;rw[A]at f g⊢;have r:IntKind.i64.wrap ((x:Nat):Int)=((x:Nat):Int):=aH jO jO;by_cases c:x=i
   ·have z:(((x:Nat):Int)==((i:Nat):Int))=true:=by rw[c];exact beq_iff_eq.2 rfl
    rw[if_pos c]at g;refine jA (aI @r @z) ?_;refine rB trivial rfl q2 (by rw[eh];unfold iN;rw[fQ];omega) (ah n) _ fun C D J=> ?_;have p:(aW .i64 (iN (fT l i++fJ l i j))).length=(fT l i++fJ l i j).length:=by rw[eh];unfold iN;rw[fQ]
    rw[p];refine jB ?_;rw[q];refine a _ C (n'+2) ⟨jO, ?_⟩;rw[g,<-dY,pr,mO];exact Own.mk' (b:=n'+1) D jO jO (by simp[aW,iN];omega)
   ·have z:(((x:Nat):Int)==((i:Nat):Int))=false:=beq_eq_false_iff_ne.2 jO;rw[if_neg c,bR]at g;refine jA (aI @r @z) ?_;rw[q];exact a o h' n' ⟨q1,by rw[g];exact q2⟩
theorem akt(l:List Nat)(j:By l)(L:l.length<=3000000)(q:300000000<=Y){b:Nat}(v:b<l.length):af (fun _=>False) n (aj aa gt Y (d+2) 135 #[aL l,jI (b:Int)]) h n fun B _ _=>B=aL (fW l b l.length):=by
 rw[aC (fun _=>aea) rfl];refine af.aB ?_;unfold H7;refine aN aE (aks (Y:=Y) (d:=d) l j L q) (ah _) (fun _ _ h=>h.elim) fun t x u J Q p=> ?_;have P:=p.row;rw[jT];refine dE l.length (fun s i (_:Unit)=>tQ Y (aj aa gt Y (d+1)) s (Ci Y (aj aa gt Y (d+1))) (aL l) (jI (b:Int)) (aL []) t (aL (fW l b i)) (jI (hX l b i:Int)) (jI (l.length:Int)) (jI (i:Nat))) (fun _ _ k g=>k=x∧g=u) ?_ ?_ Y 0 () x u (aP _) jO ⟨rfl,rfl⟩
 ·rintro s _ k g ⟨rfl,rfl⟩;rw[tQ];refine jA @eO ?_
  (try unfold Ci);(try dsimp only)
  exact jE
 ·rintro s i _ k g hi ⟨rfl,rfl⟩ next;have U:((i:Nat):Int)<((l.length:Nat):Int):=jO;have A:((i:Nat):Int)+1=((i+1:Nat):Int):=rfl;have I:(iN (kJ l)).length=l.length:=by unfold iN;rw[fQ,wQ j]
  obtain⟨W,o,cap,Z,ks,ev,N,O,_,_,_,r⟩:=P.some jO;have E:=uG j v i;have e:=uG j v (i+1);have m:=r (hX l b i) jO;have R:(iN (kJ l)).getD (hX l b i) 0=((hX l b (i+1):Nat):Int):=po;rw[R]at m;rw[I]at ev;have f:=next () k g ⟨rfl,rfl⟩;rw[ai3]at f;have D:(fW l b i).length=i:=by unfold fW;simp
  generalize fW l b i=out at D f⊢;generalize hX l b (i+1)=c at e m f⊢;generalize hX l b i=a at E m⊢;have T:((a:Nat):Int)<((l.length:Nat):Int):=jO
  have G:∀K:Value->M Value,bM t (jI (a:Int)) K=K (jP W (o+a)):=fun K=>by rw[ev];exact jC @T
  have z:((c:Nat):Int)+1=((c+1:Nat):Int):=rfl;have y:IntKind.i64.wrap ((c+1:Nat):Int)=((c+1:Nat):Int):=aH jO jO;have C:=fun(K:Value->M Value)=>K7 l .i64 .i64 c K e;have X:=fun(K:Value->M Value)=>pL out [l.getD c 0] (by simp only[cK,hC];omega) K;rw[tQ];refine jA (aI @U (aI @G (aI @N (aI @m (aI @z @y))))) ?_;rw[C,X];refine jB ?_;rw[A];exact f
end
end Go.Proofs.YtmjolmggelkjlaaGreat
namespace Go.Proofs.YtmjolmggelkjlaaGreat.Ev
open Go Go.RowKit
section
variable {β:Type} {W:Nat->Prop} {n0:Nat} {h:H} {n:Nat} {Q:β->H->Nat->Prop} {e:TypeId} {sz:Nat}
end
end Go.Proofs.YtmjolmggelkjlaaGreat.Ev
namespace Go.Proofs.YtmjolmggelkjlaaGreat
open Go.RowKit Ev Cn Ip
theorem aku(x:Nat)(l:List Nat)(k:Value->M Value):cD (aL (x::l)) (aO {data:=#[]}) k=k (.bool false):=by have:=vF (k:=k) ((x::l).map gP) [];unfold aL;rw[show(aO {data:=#[]})= .string ⟨([]:List UInt8).toArray⟩from rfl,this];rfl
def YP(r:Except Int (List Nat))(a:Value):Prop:=match r with
 | .ok x=>a= .tuple #[aL x,.int .i64 0]
 | .error e=>a= .tuple #[aL [],.int .i64 e]
section
variable {Y d n:Nat} {h:H}
theorem akv{g:Gt}(ok:lT g.last g.bH)(Z:g.sum<4294967296)(m:300000000<=Y):af (fun _=>False) n (aj aa gt Y (d+4) 105 #[.agg #[aL g.last,jI (g.bH:Int),.int .u32 (g.sum:Int)]]) h n fun y _ _=>YP (fD g) y:=by
 obtain⟨last,a,b⟩:=g;have o:=ok.len;have i:=ok.pos;have j:=ok.cF;have p:=ok.iw;dsimp only at o i j p Z ok⊢;have O:=fun(h:H) (n:Nat)=>akt (Y:=Y) (d:=d+1) last p jO m j (n:=n) (h:=h);have N:=fun(h:H) (n:Nat)=>aki (Y:=Y) (d:=d+1) (n:=n) (h:=h) (fW last a last.length) (Yj ok last.length) (by rw[zV];omega) m;have L:=fun(h:H) (n:Nat) t (q:cU 0 0 (fW last a last.length)= .ok t)=>akr (Y:=Y) (d:=d) (n:=n) (h:=h) t (KV (Yj ok last.length) jD q) (by have:=zU q;rw[zV]at this;omega) jO (by have:=zU q;rw[zV]at this;omega)
 have bD:fD ⟨last,a,b⟩=match cU 0 0 (fW last a last.length)with
  | .error _=> .error 25
  | .ok s=>if iC s=b then .ok s else .error 21:=rfl
 rw[bD];generalize hU:fW last a last.length=U at O N L⊢;rw[aC (fun _=>adI) rfl];refine af.aB ?_;unfold QW;refine gu trivial _ _ ?_;obtain⟨r,k⟩:∃r,h.set n (some ⟨157,true,(mC #[aL last,jI (a:Int),.int .u32 (b:Int)]).cells.toList⟩)=r:=⟨_,rfl⟩;have J:r.get n=some ⟨157,true,[aL last,jI (a:Int),.int .u32 (b:Int)]⟩:=by rw[<-k,get_eq];rfl
 rw[k];clear k;have X:n<n+1:=dO n;have Q:¬((a:Nat):Int)<0:=jO;have P:¬((last.length:Nat):Int)<=((a:Nat):Int):=jO
 have D:∀K:Value->M Value,cD (aL last) (aO {data:=#[]}) K=K (.bool false):=fun K=>by
  cases last with
  |nil=>exact absurd i jD
  |cons x l=>exact aku x l K
 refine jA (aI @J (aI @D (aI @Q (aI @jT @P)))) ?_;refine aN aE (O r (n+1)) jO (fun _ _ h=>h.elim) fun v1 h3 T u1 C A=> ?_;subst A;refine aN aE (N h3 T) jO (fun _ _ h=>h.elim) fun R h4 I u0 B f=> ?_;have g4:=((B n jO id).trans (C n X id)).trans J;have W:n<I:=jO;unfold uN at f;cases z:cU 0 0 U with
 |error e=>
  rw[z]at f;obtain⟨e',he,rfl⟩:=f;have u:(e' !=0)=true:=by rw[bne_iff_ne];exact he
  refine jA (aI @bI (aI @ext1 @u)) ?_;exact rfl
 |ok t=>
  rw[z]at f;have f:R= .tuple #[aL t,jI 0]:=f;subst f;have u:((0:Int) !=0)=false:=rfl;refine jA (aI @bI (aI @ext1 @u)) ?_;refine lO aE (L h4 I t z) jO fun T1 G=> ?_;refine jB ?_;refine lN trivial n 2 _ g4 W rfl fun T2 E=> ?_;show af _ _ _ _ _ (fun y _ _=>YP (if iC t=b then .ok t else .error 21) y);by_cases c:iC t=b
  ·have v:(((iC t:Nat):Int) !=((b:Nat):Int))=false:=by rw[c];exact bne_self_eq_false _
   rw[if_pos c];try simp(disch:=first|omega|assumption) only[Nat.reduceAdd,Nat.reduceLT,RZ,v,G.cA E,cx,eA,dQ]
   exact rfl
  ·have v:(((iC t:Nat):Int) !=((b:Nat):Int))=true:=by rw[bne_iff_ne];omega
   rw[if_neg c];try simp(disch:=first|omega|assumption) only[Nat.reduceAdd,Nat.reduceLT,RZ,v,G.cA E,cx,eA,dQ]
   exact rfl
end
theorem uO(S:List UInt8)(a:Nat):ar S 0 a=(dS S).drop a:=rfl
theorem akw{s:List Nat}{p:Nat}(a:p<s.length){x:Nat}(h:x∈c6 0 s p):x∈s:=by
 unfold c6 at h;rcases List.mem_cons.1 h with rfl|h
 ·rw[bw,bA a];exact dH _
 ·rcases List.mem_append.1 h with h|h
  ·exact List.mem_of_mem_take h
  ·exact List.mem_of_mem_drop h
theorem YQ:∀(ps s:List Nat),(∀p∈ps,p<s.length)->∀x∈(b9 s ps).1,x∈s
 |[],s,_,x,h=>absurd h je
 |p::ps,s,b,x,h=>by
  have a:=b p List.mem_cons_self;have e:=zJ a;have h:x∈s.getD p 0::(b9 (c6 0 s p) ps).1:=h;rcases List.mem_cons.1 h with rfl|h
  ·rw[bw,bA a];exact dH _
  ·exact akw a (YQ ps _ (fun q c=>by rw[e];exact b q (uZ _ c)) x h)
theorem akx{s:List Nat}{room b c:Nat}{r:Rs}{g:Gt}{w:Nat}(h:mv s room b c r= .ok g w):∃out z ps,r= .ok out w∧dh (ew s.length room) (ej out)=some (z,ps)∧g=Gt.mk (b9 s ps).1 b c∧b<(b9 s ps).1.length:=by
 unfold mv at h;cases r with
 |err e=>dsimp only at h;split at h<;>cases h
 |ok out a=>
  dsimp only at h;cases e:dh (ew s.length room) (ej out)with
  |none=>rw[e]at h;cases h
  |some t=>
   obtain⟨z,ps⟩:=t;rw[e]at h;dsimp only at h;split at h
   ·cases h
   ·cases h;exact⟨out,z,ps,rfl,e,rfl,jO⟩
theorem St.aky{b:Type}{a:Nat}{r:St b}{g:b}{w:Nat}(h:r.add a= .ok g w):∃u,r= .ok g u∧w=a+u:=by
 cases r with
 |short=>cases h
 |bad e=>cases h
 |ok x u=>cases h;exact⟨u,rfl,rfl⟩
theorem YR{room:Nat}{bs:List Bool}{g:Gt}{w:Nat}(h:lr room bs= .ok g w):(∀x∈g.last,x<256)∧g.bH<g.last.length∧g.last.length<=room∧g.sum<4294967296∧w<=bs.length:=by
 unfold lr at h;by_cases d:bs.length<57
 ·rw[if_pos d]at h;cases h
 rw[if_neg d]at h;by_cases c:bs.getD 32 false=true
 ·rw[if_pos c]at h;cases h
 rw[if_neg c]at h;cases e:fo (bs.drop 57)with
 |short=>rw[e]at h;cases h
 |bad x=>rw[e]at h;cases h
 |ok s u=>
  rw[e]at h;obtain⟨k,j,y,i⟩:=uB e;obtain⟨v,r,rfl⟩:=St.aky h;obtain⟨out,z,a,o,m,rfl,q⟩:=akx r;have f:1<=s.length:=List.length_pos_iff.2 j;obtain⟨q1,q2,b⟩:=K' _ _ _ _ f (aP _) m;have q1:a.length+0=z.told:=q1;have q2:z.told+z.aR<=room:=q2;have b:∀p∈a,p<s.length:=b;have B:=Eb a s;have le:=YK o;rw[bC]at le i;have A:=hH (bs.take 32);have l:2^(bs.take 32).length<=2^32:=pS jD (by rw[cO];omega);have t:(2:Nat)^32=4294967296:=rfl;refine⟨fun x n=>k.lt x (YQ a s b x n),q, ?_, ?_,jO⟩
  ·show(b9 s a).1.length<=room;omega
  ·show num (bs.take 32) 0<_;omega
theorem YS{room:Nat}{bs:List Bool}{e:Int}(h:lr room bs= .bad e):e≠0∧e≠3:=by
 unfold lr at h;by_cases i:bs.length<57
 ·rw[if_pos i]at h;cases h
 rw[if_neg i]at h;by_cases g:bs.getD 32 false=true
 ·rw[if_pos g]at h;cases h;decide
 rw[if_neg g]at h;cases f:fo (bs.drop 57)with
 |short=>rw[f]at h;cases h
 |bad x=>rw[f]at h;cases h;rw[D9 f];decide
 |ok s u=>
  rw[f]at h;dsimp only at h
  have b:mv s room (num ((bs.drop 33).take 24) 0) (num (bs.take 32) 0) (ir (s.length+2) (bs.drop (57+u)) (iQ s.length room))= .bad e:=by
   cases q:mv s room (num ((bs.drop 33).take 24) 0) (num (bs.take 32) 0) (ir (s.length+2) (bs.drop (57+u)) (iQ s.length room))with
   |short=>rw[q]at h;cases h
   |bad x=>rw[q]at h;cases h;rfl
   |ok x y=>rw[q]at h;cases h
  rw[YD]at b;cases c:qH s.length room (jq (s.length+2) (bs.drop (57+u)))with
  |false=>rw[c]at b;cases b;decide
  |true=>
   rw[c]at b;have b:mv s room (num ((bs.drop 33).take 24) 0) (num (bs.take 32) 0) (ir (s.length+2) (bs.drop (57+u)) mV)= .bad e:=b;unfold mv at b;cases d:ir (s.length+2) (bs.drop (57+u)) mV with
   |err x=>
    rw[d]at b;dsimp only at b;rw[<-K9 (bs.drop (57+u)).length (ah _),<-D5]at d;have:=YJ d;split at b
    ·cases b
    ·cases b;exact⟨this,by assumption⟩
   |ok out a=>
    rw[d]at b;dsimp only at b;split at b
    ·cases b;decide
    ·split at b
     ·cases b;decide
     ·cases b
theorem Ey(a b:List Bool)(k:Value->M Value):fA (tx a) (tx b) k=k (.bool (!decide (a=b))):=by
 unfold tx;rw[GN];by_cases e:a=b
 ·rw[decide_eq_true e,decide_eq_true (by rw[e])]
 ·rw[decide_eq_false e,decide_eq_false fun q=>e (Ku q)]
theorem Ez:aO {data:=#[48,48,48,49,48,49,49,49,48,49,49,49,48,48,49,48,48,49,48,48,48,49,48,49,48,48,49,49,49,48,48,48,48,49,48,49,48,48,48,48,49,48,48,49,48,48,48,48]}=tx (b8 j6 48):=jK
theorem EA:aO {data:=#[48,48,49,49,48,48,48,49,48,49,48,48,48,48,48,49,48,49,48,49,49,48,48,49,48,48,49,48,48,49,49,48,48,49,48,49,48,48,49,49,48,49,48,49,49,48,48,49]}=tx (b8 jM 48):=jK
theorem Lb{l:List Bool}{k x:Nat}(b:l.length=k)(a:x<2^k):(l=b8 x k)↔num l 0=x:=by
 constructor
 ·intro h;rw[h];exact zv a
 ·intro h;have:=wy h;rw[b]at this;exact this
section
variable {Y d n0:Nat} {S:List UInt8} {room:Nat}
end
theorem EB(S:List UInt8)(a k:Nat):(ar S 0 a).drop k=ar S 0 (a+k):=by rw[uO,uO,List.drop_drop]
def j9(S:List UInt8)(room:Nat):Nat->Nat->Nat->List Nat
 |0,_,_=>[]
 |N+1,a,t=>if(ar S 0 a).length<48 then []
  else if num ((ar S 0 a).take 48) 0=jM then(match lr room (ar S 0 (a+48))with
   | .ok g w=>match fD g with
     | .ok x=>x++j9 S room N (a+48+w) (ft t g.sum)
     | .error _=>[]
   |_=>[])
  else []
def pO(S:List UInt8)(Z:Nat):Nat->Nat->List Nat
 |0,_=>[]
 |N+1,a=>match iR S 3 a with
  | .error _=>[]
  | .ok lv=>match (fX S (lv*Z) (NB S) (a+32) 0).2 with
    | .error _=>j9 S (lv*Z) (NB S) (a+32) 0
    | .ok b=>j9 S (lv*Z) (NB S) (a+32) 0++(if(ar S 0 (b+dc b)).length=0 then []else pO S Z N (b+dc b))
section
variable {S:List UInt8} {room:Nat}
theorem akz:∀(N M a t:Nat),(ar S 0 a).length<48*N->(ar S 0 a).length<48*M->j9 S room N a t=j9 S room M a t:=by
 intro N
 induction N with
 |zero=>intro M a t h;omega
 |succ N d=>
  intro M a t k j;obtain⟨M,rfl⟩:∃m,M=m+1:=⟨M-1,jO⟩;unfold j9;by_cases c:(ar S 0 a).length<48
  ·rw[if_pos c,if_pos c]
  rw[if_neg c,if_neg c];by_cases b:num ((ar S 0 a).take 48) 0=jM
  ·rw[if_pos b,if_pos b];cases lr room (ar S 0 (a+48))with
   |short=>rfl
   |bad e=>rfl
   |ok g w=>
    dsimp only;cases fD g with
    |error e=>rfl
    |ok x=>dsimp only;have i:=fi S 0 (a+48+w);have f:=fi S 0 a;rw[d M (a+48+w) (ft t g.sum) jO jO]
  ·rw[if_neg b,if_neg b]
theorem akA:∀(N a t:Nat) (ps:List Pt) (r:Except Int Nat),fX S room N a t=(ps,r)->match r with
 | .ok b=>∃i s,ps=i++[(⟨3,0,((b-80:Nat):Int),(b:Int),(s:Int),0,0,0⟩:Pt)]∧80<=b∧b<=8*S.length
 | .error e=>(∀p∈ps,p.what≠3)∧e≠0:=by
 intro N
 induction N with
 |zero=>intro a t ps r h;cases h;exact⟨fun p c=>absurd c je,jD⟩
 |succ N y=>
  intro a t ps r h;have no:∀e:Int,e≠0->(∀p∈([]:List Pt),p.what≠3)∧e≠0:=fun e z=>⟨fun p c=>absurd c je,z⟩;unfold fX at h;by_cases u:(ar S 0 a).length<48
  ·rw[if_pos u]at h;cases h;exact no 24 jD
  rw[if_neg u]at h;by_cases o:num ((ar S 0 a).take 48) 0=jM
  ·rw[if_pos o]at h;cases f:lr room (ar S 0 (a+48))with
   |short=>rw[f]at h;cases h;exact no 24 jD
   |bad e=>rw[f]at h;cases h;exact no _ (YS f).1
   |ok g w=>
    rw[f]at h;dsimp only at h;cases j:fD g with
    |error e=>rw[j]at h;cases h;exact no _ (by have:=KW j;omega)
    |ok x=>
     rw[j]at h;dsimp only at h;have d:=y (a+48+w) (ft t g.sum) _ _ rfl;cases h;cases k:(fX S room N (a+48+w) (ft t g.sum)).2 with
     |error e=>
      rw[k]at d;refine⟨fun p c=> ?_,d.2⟩;rcases List.mem_cons.1 c with q|q
      ·rw[q];show(2:Int)≠3;decide
      ·exact d.1 p q
     |ok b=>rw[k]at d;obtain⟨i,s,q1,q2,v⟩:=d;exact⟨_::i,s,by rw[q1];rfl,q2,v⟩
  ·rw[if_neg o]at h;by_cases n:num ((ar S 0 a).take 48) 0=j6
   ·rw[if_pos n]at h;by_cases m:(ar S 0 (a+48)).length<32
    ·rw[if_pos m]at h;cases h;exact no 24 jD
    rw[if_neg m]at h;have A:=fi S 0 (a+48);by_cases l:num ((ar S 0 (a+48)).take 32) 0=t
    ·rw[if_pos l]at h;cases h;exact⟨[],t,by rw[show a+80-80=a by omega];rfl,jO,jO⟩
    ·rw[if_neg l]at h;cases h;exact no 21 jD
   ·rw[if_neg n]at h;cases h;exact no 20 jD
theorem YT:∀(m a lv:Nat),iR S m a= .ok lv->8*(m+1)<=(ar S 0 a).length∧1<=lv∧lv<=9:=by
 intro m
 induction m with
 |zero=>
  intro a lv h;unfold iR at h;by_cases c:(ar S 0 a).length<8
  ·rw[if_pos c]at h;cases h
  rw[if_neg c]at h;by_cases b:num ((ar S 0 a).take 8) 0<49∨57<num ((ar S 0 a).take 8) 0
  ·rw[if_pos b]at h;cases h
  rw[if_neg b]at h;cases h;omega
 |succ m d=>
  intro a lv h;unfold iR at h;by_cases c:(ar S 0 a).length<8
  ·rw[if_pos c]at h;cases h
  rw[if_neg c]at h;by_cases b:num ((ar S 0 a).take 8) 0=jL.getD (2-m) 0
  ·rw[if_pos b]at h;have:=d _ _ h;have f:=fi S 0 a;have e:=fi S 0 (a+8);omega
  ·rw[if_neg b]at h;cases h
theorem akB:∀(m a:Nat) (e:Int),iR S m a= .error e->e=24∨e=20:=by
 intro m
 induction m with
 |zero=>
  intro a e h;unfold iR at h;split at h
  ·cases h;exact .inl rfl
  ·split at h
   ·cases h;exact .inr rfl
   ·cases h
 |succ m b=>
  intro a e h;unfold iR at h;split at h
  ·cases h;exact .inl rfl
  ·split at h
   ·exact b _ _ h
   ·cases h;exact .inr rfl
theorem akC{a lv:Nat}(h:iR S 3 a= .ok lv):num ((ar S 0 (a+24)).take 8) 0=lv+48:=by
 have h:(if(ar S 0 a).length<8 then aah 24 else if num ((ar S 0 a).take 8) 0=66 then(if(ar S 0 (a+8)).length<8 then aah 24 else if num ((ar S 0 (a+8)).take 8) 0=90 then(if(ar S 0 (a+8+8)).length<8 then aah 24 else if num ((ar S 0 (a+8+8)).take 8) 0=104 then(if(ar S 0 (a+8+8+8)).length<8 then .error 24 else if num ((ar S 0 (a+8+8+8)).take 8) 0<49∨57<num ((ar S 0 (a+8+8+8)).take 8) 0 then .error 20 else .ok (num ((ar S 0 (a+8+8+8)).take 8) 0-48))else .error 20)else .error 20)else .error 20:Except Int Nat)= .ok lv:=h;rw[show a+8+8+8=a+24 by omega]at h;split at h
 ·cases h
 split at h
 ·split at h
  ·cases h
  split at h
  ·split at h
   ·cases h
   split at h
   ·split at h
    ·cases h
    split at h
    ·cases h
    ·cases h;omega
   ·cases h
  ·cases h
 ·cases h
end
def Ad:Except Int Nat->Int
 | .ok _=>0
 | .error e=>e
section
variable {Y d n:Nat} {h:H} {S:List UInt8}
theorem akD(hS:S.length<=1000000)(Z:1000<=Y)(a:Nat)(ha:a<=8*S.length):af (fun _=>False) n (aj aa gt Y (d+3) 79 #[tx (ar S 0 a)]) h n fun o h' n'=>o=jI (Ad (iR S 3 a))∧h'=h∧n'=n:=by
 rw[aC (fun _=>adA) rfl];refine af.aB ?_;unfold Ht;have rl:=fi S 0 a;refine bz (XA (Y:=Y) (d:=d) (S:=[66,90,104]) jD (by show 3<Y;omega) jO) (ah n) (fun _ _ h=>h.elim) ?_;have hb:(dS [66,90,104]:List Bool)=uM:=rfl;rw[hb];have bl:uM.length=24:=rfl;have wi:∀i:Nat,((i:Nat):Int)+1=((i+1:Nat):Int):=fun i=>rfl;have w8:∀i:Nat,i<=4->IntKind.i64.wrap (8*((i:Nat):Int))=((8*i:Nat):Int):=fun i u=>by rw[aH jO jO];omega
 have v:∀i:Nat,8*((i:Nat):Int)=((8*i:Nat):Int):=fun i=>by omega
 have Q:∀i:Nat,i<=4->IntKind.i64.wrap (((8*i:Nat):Int)+8)=((8*i+8:Nat):Int):=fun i u=>by rw[aH jO jO];omega
 have y:∀i:Nat,((8*i:Nat):Int)+8=((8*i+8:Nat):Int):=fun i=>rfl
 have R:∀i:Nat,8*i+8<=(ar S 0 a).length->∀K:Value->M Value,bN (tx (ar S 0 a)) (some (jI ((8*i:Nat):Int))) (some (jI ((8*i+8:Nat):Int))) K=K (tx ((ar S 0 (a+8*i)).take 8)):=fun i u K=>by have:=r9 (ar S 0 a) .i64 .i64 ((8*i:Nat):Int) ((8*i+8:Nat):Int) K jO jO jO;rw[this,cR,cR,EB,show 8*i+8-8*i=8 by omega]
 have W:∀i:Nat,i<3->∀K:Value->M Value,bN (tx uM) (some (jI ((8*i:Nat):Int))) (some (jI ((8*i+8:Nat):Int))) K=K (tx (b8 (jL.getD i 0) 8)):=fun i u K=>by have:=r9 uM .i64 .i64 ((8*i:Nat):Int) ((8*i+8:Nat):Int) K jO jO jO;rw[this,cR,cR,show 8*i+8-8*i=8 by omega];congr 2;have:i=0∨i=1∨i=2:=jO;rcases this with rfl|rfl|rfl<;>rfl
 have last:∀b,af (fun _=>False) n (mn Y (aj aa gt Y (d+2)) (b+1) (nL Y (aj aa gt Y (d+2))) (tx (ar S 0 a)) (jI 0) (tx uM) (jI ((4:Nat):Int))) h n fun o h' n'=>o=jI 0∧h'=h∧n'=n:=fun b=>by have j:¬(((4:Nat):Int)<4):=jD;rw[mn];refine jA @j ?_;unfold nL;exact jE
 have p:∀b,2<=b->af (fun _=>False) n (mn Y (aj aa gt Y (d+2)) b (nL Y (aj aa gt Y (d+2))) (tx (ar S 0 a)) (jI 0) (tx uM) (jI ((3:Nat):Int))) h n fun o h' n'=>o=jI (Ad (iR S 0 (a+24)))∧h'=h∧n'=n:=fun b s=>by
  obtain⟨b,rfl⟩:∃f,b=f+1+1:=⟨b-2,jO⟩;have j:((3:Nat):Int)<4:=jD;have E:¬((3:Nat):Int)<3:=jD;have O:(((3:Nat):Int)==3)=true:=rfl;have t:=w8 3 jO;have wt:=Q 3 jO;have e:=v 3;have c:=y 3;have N:=fi S 0 (a+24);rw[mn];unfold iR;by_cases C:(ar S 0 (a+24)).length<8
  ·have g:(((ar S 0 a).length:Nat):Int)<((8*3+8:Nat):Int):=jO;rw[if_pos C];refine jA (aI @j (aI @cV (aI @t (aI @wt (aI @e (aI @c @g)))))) ?_;unfold nL;refine jB ?_;exact rfl
  have g:¬(((ar S 0 a).length:Nat):Int)<((8*3+8:Nat):Int):=jO;rw[if_neg C];have r:=R 3 jO;rw[show a+8*3=a+24 by omega]at r;have D:=Aa (Y:=Y) (d:=d+1) (n:=n) (h:=h) ((ar S 0 (a+24)).take 8) (by rw[cO];omega) jO;generalize num ((ar S 0 (a+24)).take 8) 0=q at D⊢;generalize (ar S 0 (a+24)).take 8=L at r D;refine jA (aI @j (aI @cV (aI @t (aI @wt (aI @e (aI @c (aI @g (aI @r (aI @E @O))))))))) ?_;refine bz D (ah n) (fun _ _ h=>h.elim) ?_;by_cases c4:q<49
  ·have J:((q:Nat):Int)<49:=jO;rw[if_pos (.inl c4)];refine jA @J ?_;unfold nL;refine jB ?_;exact rfl
  have J:¬((q:Nat):Int)<49:=jO;refine jA @J ?_;refine bz D (ah n) (fun _ _ h=>h.elim) ?_;by_cases c5:57<q
  ·have I:(57:Int)<((q:Nat):Int):=jO;rw[if_pos (.inr c5)];refine jA @I ?_;unfold nL;refine jB ?_;exact rfl
  have I:¬(57:Int)<((q:Nat):Int):=jO;rw[if_neg jO];refine jA @I ?_;exact last b
 have go:∀(m b:Nat),m<=3->m+2<=b->af (fun _=>False) n (mn Y (aj aa gt Y (d+2)) b (nL Y (aj aa gt Y (d+2))) (tx (ar S 0 a)) (jI 0) (tx uM) (jI ((3-m:Nat):Int))) h n fun o h' n'=>o=jI (Ad (iR S m (a+8*(3-m))))∧h'=h∧n'=n:=by
  intro m
  induction m with
  |zero=>intro b _ s;exact p b s
  |succ m B=>
   intro b hm s;obtain⟨b,rfl⟩:∃f,b=f+1:=⟨b-1,jO⟩;have B:=B b jO jO;rw[show 3-m=3-(m+1)+1 by omega]at B;rw[mn];unfold iR;rw[show 2-m=3-(m+1) by omega];have u:3-(m+1)<3:=jO;generalize 3-(m+1)=i at u B⊢;have j:((i:Nat):Int)<4:=jO;have E:((i:Nat):Int)<3:=jO;have O:(((i:Nat):Int)==3)=false:=beq_eq_false_iff_ne.2 jO;have t:=w8 i jO;have wt:=Q i jO;have e:=v i;have c:=y i;have N:=fi S 0 (a+8*i);by_cases C:(ar S 0 (a+8*i)).length<8
   ·have g:(((ar S 0 a).length:Nat):Int)<((8*i+8:Nat):Int):=jO;rw[if_pos C];refine jA (aI @j (aI @cV (aI @t (aI @wt (aI @e (aI @c @g)))))) ?_;unfold nL;refine jB ?_;exact rfl
   have g:¬(((ar S 0 a).length:Nat):Int)<((8*i+8:Nat):Int):=jO;rw[if_neg C];have z:=R i jO;have A:=W i u
   have X:jL.getD i 0<2^8:=by have:i=0∨i=1∨i=2:=jO;rcases this with rfl|rfl|rfl<;>decide
   have T:=Lb (l:=(ar S 0 (a+8*i)).take 8) (k:=8) (x:=jL.getD i 0) (by rw[cO];omega) X;by_cases G:num ((ar S 0 (a+8*i)).take 8) 0=jL.getD i 0
   ·have P:∀K:Value->M Value,fA (tx ((ar S 0 (a+8*i)).take 8)) (tx (b8 (jL.getD i 0) 8)) K=K (.bool false):=fun K=>by rw[Ey,decide_eq_true (T.2 G)];rfl
    rw[if_pos G];refine jA (aI @j (aI @cV (aI @t (aI @wt (aI @e (aI @c (aI @g (aI @z (aI @A (aI @E (aI @P @O))))))))))) ?_;rw[show a+8*i+8=a+8*(i+1) by omega];exact B
   ·have P:∀K:Value->M Value,fA (tx ((ar S 0 (a+8*i)).take 8)) (tx (b8 (jL.getD i 0) 8)) K=K (.bool true):=fun K=>by rw[Ey,decide_eq_false (fun q=>G (T.1 q))];rfl
    rw[if_neg G];refine jA (aI @j (aI @cV (aI @t (aI @wt (aI @e (aI @c (aI @g (aI @z (aI @A (aI @E @P)))))))))) ?_;unfold nL;refine jB ?_;exact rfl
 exact go 3 Y (ah _) jO
end
def YU(S:List UInt8)(a0:Nat)(out:List Nat)(r:Except Int Nat)(a:Value):Prop:=match r with
 | .ok b=>a= .agg #[aL out,.int .i64 ((b-a0:Nat):Int),.int .i64 0]
 | .error e=>a= .agg #[aL [],.int .i64 0,.int .i64 e]
section
variable {Y d n:Nat} {S:List UInt8} {room:Nat}
theorem akE(hS:S.length<=1000)(w1:room<=900000)(u5:300000000<=Y){a0:Nat}:∀(N a D m i:Nat) (k:List Nat) (out:List Nat) (h:H) (fv:Value),(ar S 0 a).length<48*N->N+i<=8*S.length-a0+1->N<=D->n+2<=m->a0<=a->a<=8*S.length->k.length+N<=100000->out.length+225900000*N<=1000000000000->
 h.get n=some ⟨126,true,j1⟩->h.get (n+1)=some ⟨126,true,[aL out,jI ((a-a0:Nat):Int),jI 0]⟩->Own h n m 31 fv (aW .u32 (iN k))->(∀t∈k,t<4294967296)->
 af (fun _=>False) n (vR Y (aj aa gt Y (d+8)) D (vS Y (aj aa gt Y (d+8))) (tx (ar S 0 a0)) (jI (room:Int)) (jP n 0) (jP (n+1) 0) fv (jI ((8*S.length-a0+1:Nat):Int)) (jI (i:Int))) h m (fun v' _ _=>YU S a0 (out++j9 S room N a (k.foldl ft 0)) (fX S room N a (k.foldl ft 0)).2 v'):=by
 intro N
 induction N with
 |zero=>intro a D m i k out h fv hN;omega
 |succ N ih=>
  intro a D m i k out h fv hN y0 y1 hm h0 ha x5 x6 y O of ht;obtain⟨D,rfl⟩:∃f,D=f+1:=⟨D-1,jO⟩;have al:(ar S 0 a0).length=8*S.length-a0:=by rw[fi];omega
  have rl:(ar S 0 a).length=8*S.length-a:=by rw[fi];omega
  have c0:((i:Nat):Int)<((8*S.length-a0+1:Nat):Int):=jO;have W:n<m:=jO;have v7:n+1<m:=jO
  have err:∀(e:Int) (h':H) (m':Nat),m<=m'->h'.get n=some ⟨126,true,j1⟩->af (fun _=>False) n (aM 3 (jP n 0) (.agg #[aL [],jI 0,jI e]) fun _=>(vS Y (aj aa gt Y (d+8))).2 (jP n 0)) h' m' (fun v' _ _=>v'= .agg #[aL [],jI 0,jI e]):=fun e h' m' x9 g=>by refine cq (sz:=3) trivial (vs:=[aL [],jI 0,jI e]) rfl rfl rfl g jO (.inl (ah _)) _ fun h1 g1 k1=> ?_;unfold vS;dsimp only;exact dV trivial trivial g1 rfl jO rfl
  have w0:IntKind.i64.wrap (((8*S.length-a0:Nat):Int)-((a-a0:Nat):Int))=((8*S.length-a:Nat):Int):=by rw[aH jO jO];omega
  have p:((8*S.length-a0:Nat):Int)-((a-a0:Nat):Int)=((8*S.length-a:Nat):Int):=jO;rw[vR];unfold fX j9;by_cases c1:(ar S 0 a).length<48
  ·have U:((8*S.length-a:Nat):Int)<48:=jO;rw[if_pos c1,if_pos c1];refine jA (aI @c0 (aI @cV (aI @al (aI @O (aI @w0 (aI @p @U)))))) ?_;exact err 24 h m (ah _) y
  have U:¬((8*S.length-a:Nat):Int)<48:=jO;rw[if_neg c1,if_neg c1];have r:IntKind.i64.wrap (((a-a0:Nat):Int)+48)=((a+48-a0:Nat):Int):=by rw[aH jO jO];omega
  have o:((a-a0:Nat):Int)+48=((a+48-a0:Nat):Int):=jO
  have v:∀K:Value->M Value,bN (tx (ar S 0 a0)) (some (jI ((a-a0:Nat):Int))) (some (jI ((a+48-a0:Nat):Int))) K=K (tx ((ar S 0 a).take 48)):=fun K=>by have:=r9 (ar S 0 a0) .i64 .i64 ((a-a0:Nat):Int) ((a+48-a0:Nat):Int) K jO jO jO;rw[this,cR,cR,EB,show a0+(a-a0)=a by omega,show a+48-a0-(a-a0)=48 by omega]
  have ml:((ar S 0 a).take 48).length=48:=by rw[cO];omega
  have fE:=Lb (l:=(ar S 0 a).take 48) (x:=j6) ml jD;have fM:=Lb (l:=(ar S 0 a).take 48) (x:=jM) ml jD
  have sL:∀K:Value->M Value,bN (tx (ar S 0 a0)) (some (jI ((a+48-a0:Nat):Int))) none K=K (tx (ar S 0 (a+48))):=fun K=>by have:=nT (ar S 0 a0) .i64 ((a+48-a0:Nat):Int) K jO jO;rw[this,cR,EB,show a0+(a+48-a0)=a+48 by omega]
  by_cases R:num ((ar S 0 a).take 48) 0=jM
  ·have eM:=fM.2 R
   have nE:¬(ar S 0 a).take 48=b8 j6 48:=fun q=>by have:=fE.1 q;rw[R]at this;exact absurd this jD
   have X:∀K:Value->M Value,cD (tx ((ar S 0 a).take 48)) (tx (b8 j6 48)) K=K (.bool false):=fun K=>by rw[wL,decide_eq_false nE]
   have kM:∀K:Value->M Value,fA (tx ((ar S 0 a).take 48)) (tx (b8 jM 48)) K=K (.bool false):=fun K=>by rw[Ey,decide_eq_true eM];rfl
   rw[if_pos R,if_pos R];have v5:(ar S 0 (a+48)).length=8*S.length-(a+48):=by rw[fi];omega
   refine jA (aI @c0 (aI @cV (aI @al (aI @O (aI @w0 (aI @p (aI @U (aI @r (aI @o (aI @v (aI @Ez (aI @EA (aI @X (aI @kM @sL)))))))))))))) ?_;refine aN aE (akc (Y:=Y) (d:=d+1) (ar S 0 (a+48)) jO (room:=room) jO (iV jD u5)) jO (fun _ _ h=>h.elim) fun v1 h1 J x8 P c=> ?_;refine dL rfl _ ?_;have l1:J<J+1:=jO;cases Q:lr room (ar S 0 (a+48))with
   |short=>rw[Q]at c;have c:v1= .agg #[aL [],jI 0,.int .u32 0,jI 0,jI 0,jI 3]:=c;subst c;refine cq (sz:=6) trivial (vs:=[aL [],jI 0,.int .u32 0,jI 0,jI 0,jI 3]) rfl rfl rfl (get_eq _ _ _) jO (.inl jO) _ fun h2 Z k2=> ?_;have T:((3:Int)==3)=true:=rfl;refine jA (aI @Z @T) ?_;exact err 24 h2 _ jO (by rw[k2 n jO,aw _ _ jO];exact(P n W id).trans y)
   |bad e=>
    obtain⟨w9,w7⟩:=YS Q;rw[Q]at c;have c:v1= .agg #[aL [],jI 0,.int .u32 0,jI 0,jI 0,jI e]:=c;subst c;refine cq (sz:=6) trivial (vs:=[aL [],jI 0,.int .u32 0,jI 0,jI 0,jI e]) rfl rfl rfl (get_eq _ _ _) jO (.inl jO) _ fun h2 Z k2=> ?_;have T:(e !=0)=true:=by rw[bne_iff_ne];exact w9
    have z2:(e==3)=false:=beq_eq_false_iff_ne.2 w7;refine jA (aI @Z (aI @z2 @T)) ?_;exact err e h2 _ jO (by rw[k2 n jO,aw _ _ jO];exact(P n W id).trans y)
   |ok g w=>
    obtain⟨g1,Z,g3,g4,g5⟩:=YR Q;rw[Q]at c;obtain⟨hd,c⟩:=c;subst c;obtain⟨last,z,u⟩:=g;dsimp only at g1 Z g3 g4⊢;refine cq (sz:=6) trivial (vs:=[aL last,jI (z:Int),.int .u32 (u:Int),jI (w:Int),jI hd,jI 0]) rfl rfl rfl (get_eq _ _ _) jO (.inl jO) _ fun h2 gg k2=> ?_;have jx:∀b,b<m->h2.get b=h.get b:=fun b hb=>by rw[k2 b jO,aw _ _ jO];exact P b hb id
    have T:((0:Int) !=0)=false:=rfl;have z2:((0:Int)==3)=false:=rfl;have v8:lT last z:=⟨g1,jO,jO,Z⟩;refine jA (aI @gg (aI @z2 @T)) ?_;refine fK trivial trivial J 0 _ gg l1 (show 0+3<=6 by omega) ?_;refine aN aE (akv (Y:=Y) (d:=d+4) (g:=⟨last,z,u⟩) v8 g4 u5) jO (fun _ _ h=>h.elim) fun v3 h3 I x7 u9 j=> ?_;have L:=(u9 J l1 id).trans gg;have s:∀b,b<m->h3.get b=h.get b:=fun b hb=>(u9 b jO id).trans (jx b hb);have l3:J<I:=jO;cases e3:fD ⟨last,z,u⟩with
    |error e=>
     have be:=KW e3;rw[e3]at j;have j:v3= .tuple #[aL [],jI e]:=j;subst j;have z4:(e !=0)=true:=by rw[bne_iff_ne];omega
     refine jA (aI @bI (aI @ext1 @z4)) ?_;exact err e h3 _ jO ((s n W).trans y)
    |ok x=>
     have xl:=Yk e3;rw[e3]at j;have j:v3= .tuple #[aL x,jI 0]:=j;subst j;dsimp only at xl⊢;have w5:IntKind.i64.wrap (((a+48-a0:Nat):Int)+(w:Int))=((a+48+w-a0:Nat):Int):=by rw[aH jO jO];omega
     have v2:((a+48-a0:Nat):Int)+(w:Int)=((a+48+w-a0:Nat):Int):=jO;have xH:Own h3 n I 31 fv (aW .u32 (iN k)):=of.au jO fun b hb=>s b (of.lt hb).2;have u6:=(s n W).trans y;have u8:=(s (n+1) v7).trans O
     have G:∀{b:Nat} {B:AB},h3.get b=some B->B.elem≠31->¬aJ fv b:=fun Q e2 q=>by obtain⟨B',u1,u2⟩:=xH.elem q;rw[Q]at u1;cases u1;exact e2 u2
     refine jA (aI @bI (aI @ext1 (aI @T @L))) ?_;refine rB trivial rfl xH (by rw[eh];unfold iN;rw[fQ];omega) (ah n) _ fun h5 g5 k5=> ?_;have w2:=(k5 n jO (G u6 (show 126≠31 by decide))).trans u6;have u7:=(k5 (n+1) jO (G u8 (show 126≠31 by decide))).trans u8;have w3:=(k5 J l3 (G L (show 159≠31 by decide))).trans L;have x4:J<I+2:=jO;have v6:n+1<I+2:=jO;have ad:=fun(K:Value->M Value)=>pL out x jO K;refine jA (aI @u7 (aI @w3 (aI @w5 (aI @v2 @ad)))) ?_;refine cq (sz:=3) trivial (vs:=[aL (out++x),jI ((a+48+w-a0:Nat):Int),jI 0]) rfl rfl rfl u7 v6 (.inl jO) _ fun h6 g6 k6=> ?_;have wi:((i:Nat):Int)+1=((i+1:Nat):Int):=rfl;refine jB ?_;rw[wi]
     have:=ih (a+48+w) D (I+2) (i+1) (k++[u]) (out++x) h6 (.slice (some ⟨I+1,0,none⟩) ((aW .u32 (iN k)).length+1) (bh+((aW .u32 (iN k)).length+1))) (by rw[fi];omega) jO jO jO jO jO (by rw[bE];simp only[cK,hC];omega) (by rw[bE];omega) ((k6 n jO).trans w2) g6 (by
      rw[pr,mO]
      exact Own.mk' ((k6 (I+1) jO).trans g5) jO jO (by rw[bE];rfl)) (fun t hq=>by
      rcases List.mem_append.1 hq with q|q
      ·exact ht t q
      ·rw[List.mem_singleton.1 q];exact g4)
     rw[Av,dY]at this;exact this
  rw[if_neg R,if_neg R];have nM:¬(ar S 0 a).take 48=b8 jM 48:=fun q=>R (fM.1 q);have kM:∀K:Value->M Value,fA (tx ((ar S 0 a).take 48)) (tx (b8 jM 48)) K=K (.bool true):=fun K=>by rw[Ey,decide_eq_false nM];rfl
  by_cases cE:num ((ar S 0 a).take 48) 0=j6
  ·have eE:=fE.2 cE;have X:∀K:Value->M Value,cD (tx ((ar S 0 a).take 48)) (tx (b8 j6 48)) K=K (.bool true):=fun K=>by rw[wL,decide_eq_true eE]
   have v5:(ar S 0 (a+48)).length=8*S.length-(a+48):=by rw[fi];omega
   have u3:IntKind.i64.wrap (((8*S.length-a0:Nat):Int)-((a+48-a0:Nat):Int))=((8*S.length-(a+48):Nat):Int):=by rw[aH jO jO];omega
   have C:((8*S.length-a0:Nat):Int)-((a+48-a0:Nat):Int)=((8*S.length-(a+48):Nat):Int):=jO;rw[if_pos cE];by_cases v0:(ar S 0 (a+48)).length<32
   ·have E:((8*S.length-(a+48):Nat):Int)<32:=jO;rw[if_pos v0];refine jA (aI @c0 (aI @cV (aI @al (aI @O (aI @w0 (aI @p (aI @U (aI @r (aI @o (aI @v (aI @Ez (aI @EA (aI @X (aI @u3 (aI @C @E))))))))))))))) ?_;exact err 24 h m (ah _) y
   have E:¬((8*S.length-(a+48):Nat):Int)<32:=jO;have u0:IntKind.i64.wrap (((a+48-a0:Nat):Int)+32)=((a+80-a0:Nat):Int):=by rw[aH jO jO];omega
   have A:((a+48-a0:Nat):Int)+32=((a+80-a0:Nat):Int):=jO
   have v4:∀K:Value->M Value,bN (tx (ar S 0 a0)) (some (jI ((a+48-a0:Nat):Int))) (some (jI ((a+80-a0:Nat):Int))) K=K (tx ((ar S 0 (a+48)).take 32)):=fun K=>by have:=r9 (ar S 0 a0) .i64 .i64 ((a+48-a0:Nat):Int) ((a+80-a0:Nat):Int) K jO jO jO;rw[this,cR,cR,EB,show a0+(a+48-a0)=a+48 by omega,show a+80-a0-(a+48-a0)=32 by omega]
   have u4:=Aa (Y:=Y) (d:=d+7) (n:=m) (h:=h) ((ar S 0 (a+48)).take 32) (by rw[cO];omega) jO;have v9:=ajF (Y:=Y) (d:=d+6) (n:=m) (h:=h) k ht jO (of.row) jO;rw[if_neg v0];refine jA (aI @c0 (aI @cV (aI @al (aI @O (aI @w0 (aI @p (aI @U (aI @r (aI @o (aI @v (aI @Ez (aI @EA (aI @X (aI @u3 (aI @C (aI @E (aI @u0 (aI @A @v4)))))))))))))))))) ?_;refine bz u4 jO (fun _ _ h=>h.elim) ?_;refine bz v9 jO (fun _ _ h=>h.elim) ?_;by_cases cs:num ((ar S 0 (a+48)).take 32) 0=k.foldl ft 0
   ·have zs:(((num ((ar S 0 (a+48)).take 32) 0:Nat):Int) !=((k.foldl ft 0:Nat):Int))=false:=by rw[cs];exact bne_self_eq_false _
    rw[if_pos cs];refine jA (aI @zs (aI @O (aI @u0 @A))) ?_;refine cq (sz:=3) trivial (vs:=[aL out,jI ((a+80-a0:Nat):Int),jI 0]) rfl rfl rfl y W (.inl (ah _)) _ fun h1 g1 k1=> ?_;unfold vS;dsimp only;refine dV trivial trivial g1 rfl W ?_;rw[bR];rfl
   ·have zs:(((num ((ar S 0 (a+48)).take 32) 0:Nat):Int) !=((k.foldl ft 0:Nat):Int))=true:=by rw[bne_iff_ne];omega
    rw[if_neg cs];refine jA @zs ?_;exact err 21 h m (ah _) y
  ·have nE:¬(ar S 0 a).take 48=b8 j6 48:=fun q=>cE (fE.1 q);have X:∀K:Value->M Value,cD (tx ((ar S 0 a).take 48)) (tx (b8 j6 48)) K=K (.bool false):=fun K=>by rw[wL,decide_eq_false nE]
   rw[if_neg cE];refine jA (aI @c0 (aI @cV (aI @al (aI @O (aI @w0 (aI @p (aI @U (aI @r (aI @o (aI @v (aI @Ez (aI @EA (aI @X @kM))))))))))))) ?_;exact err 20 h m (ah _) y
theorem akF(l:S.length<=1000)(a:room<=900000)(e:300000000<=Y){a0:Nat}(k:a0<=8*S.length){h:H}:af (fun _=>False) n (aj aa gt Y (d+9) 80 #[tx (ar S 0 a0),jI (room:Int)]) h n (fun g _ _=>YU S a0 (j9 S room (NB S) a0 0) (fX S room (NB S) a0 0).2 g):=by
 rw[aC (fun _=>adC) rfl];refine af.aB ?_;unfold Hv;have b:(ar S 0 a0).length=8*S.length-a0:=by rw[fi];omega
 have r:NB S=S.length/6+1:=rfl;refine dL rfl _ ?_;refine jB ?_;refine dL rfl _ ?_;refine cq (sz:=3) trivial (vs:=[aL [],jI 0,jI 0]) rfl rfl rfl (get_eq _ _ _) jO (.inl jO) _ fun m o i=> ?_;have f:IntKind.i64.wrap (((8*S.length-a0:Nat):Int)+1)=((8*S.length-a0+1:Nat):Int):=by rw[aH jO jO];omega
 have c:((8*S.length-a0:Nat):Int)+1=((8*S.length-a0+1:Nat):Int):=jO;refine jA (aI @cV (aI @b (aI @f @c))) ?_;obtain⟨M,s⟩:∃M,M=(8*S.length-a0)/48+1:=⟨_,rfl⟩;have q:fX S room (NB S) a0 0=fX S room M a0 0:=ajZ _ _ _ _ (by rw[b];omega) (by rw[b];omega);have p:j9 S room (NB S) a0 0=j9 S room M a0 0:=akz _ _ _ _ (by rw[b];omega) (by rw[b];omega);rw[q,p];have:=akE (d:=d) (n:=n) (room:=room) l a e (a0:=a0) M a0 Y (n+1+1) 0 [] [] m nS (by rw[b];omega) jO jO jO (ah _) k (by simp only[hC];omega) (by simp only[hC];omega) (by rw[i n jO,aw _ _ jO,get_eq];rfl) (by rw[Nat.sub_self];exact o) (Own.nil _ _ _ _) (fun t j=>absurd j je);exact this
end
def sB(T:List Nat)(e:Int)(a:Value):Prop:=if e=0 then a= .agg #[aL T,jI 0]else a= .agg #[aL [],jI e]
theorem YV(b:Nat):(b+7)/8*8=b+dc b:=by unfold dc;omega
section
variable {S:List UInt8} {Z:Nat}
theorem YW{room:Nat}(b:room<=900000):∀(N a t:Nat),(j9 S room N a t).length<=225900000*N
 |0,a,t=>ah _
 |N+1,a,t=>by
  unfold j9;split
  ·exact aP _
  ·split
   ·split
    ·next g w d=>
     split
     ·next x c=>have f:=Yk c;obtain⟨_,_,e,_,_⟩:=YR d;have:=YW b N (a+48+w) (ft t g.sum);rw[bE];omega
     ·exact aP _
    ·exact aP _
   ·exact aP _
end
section
variable {Y d n:Nat} {h:H} {S:List UInt8} {Z:Nat}
theorem akG(hS:S.length<=1000)(hu:Z<=100000)(s:300000000<=Y){sv:Value}:∀(N a l m c:Nat) (out:List Nat) (h:H),N+c=S.length+1->N<l->n+1<=m->a<=8*S.length->a %8=0->out.length+100000000000*N<=1000000000000000->
 h.get n=some ⟨51,true,z51⟩->
 af (fun _=>False) n (tF Y (aj aa gt Y (d+10)) l (tG Y (aj aa gt Y (d+10))) (jI (Z:Int)) sv (jP n 0) (tx (dS S)) (aL out) (jI (a:Int)) (jI ((S.length+1:Nat):Int)) (jI (c:Int))) h m (fun r _ _=>sB (out++pO S Z N a) (oj S Z N a).2 r):=by
 intro N
 induction N with
 |zero=>intro a l m c out h Q R hm ha h8 O o;obtain⟨l,rfl⟩:∃f,l=f+1:=⟨l-1,jO⟩;have c0:¬((c:Nat):Int)<((S.length+1:Nat):Int):=jO;rw[tF];refine jA @c0 ?_;unfold tG;dsimp only;refine jB ?_;refine cq (sz:=2) trivial (vs:=[aL [],jI 24]) rfl rfl rfl o jO (.inl (ah _)) _ fun h1 g1 k1=> ?_;exact dV trivial trivial g1 rfl jO rfl
 |succ N ih=>
  intro a l m c out h Q R hm ha h8 O o;obtain⟨l,rfl⟩:∃f,l=f+1:=⟨l-1,jO⟩;have bl:(dS S).length=8*S.length:=zy S;have c0:((c:Nat):Int)<((S.length+1:Nat):Int):=jO;have J:n<m:=jO
  have err:∀(e:Int) (X:H) (I:Nat),m<=I->X.get n=some ⟨51,true,z51⟩->af (fun _=>False) n (aM 2 (jP n 0) (.agg #[aL [],jI e]) fun _=>(tG Y (aj aa gt Y (d+10))).2 (jP n 0)) X I (fun r _ _=>r= .agg #[aL [],jI e]):=fun e X I u2 g=>by refine cq (sz:=2) trivial (vs:=[aL [],jI e]) rfl rfl rfl g jO (.inl (ah _)) _ fun h1 g1 k1=> ?_;unfold tG;dsimp only;exact dV trivial trivial g1 rfl jO rfl
  have sa:∀K:Value->M Value,bN (tx (dS S)) (some (jI (a:Int))) none K=K (tx (ar S 0 a)):=fun K=>by have:=nT (dS S) .i64 (a:Int) K jO jO;rw[this,cR,uO]
  have U:=akD (Y:=Y) (d:=d+7) (n:=m) (h:=h) (S:=S) jO (iV jD s) a ha;rw[tF];unfold oj pO;refine jA @c0 ?_;rw[sa];refine bz U jO (fun _ _ h=>h.elim) ?_;cases eb:iR S 3 a with
  |error e=>
   have be:=akB _ _ _ eb;have y:(e !=0)=true:=by rw[bne_iff_ne];omega
   unfold Ad;refine jA @y ?_;refine(err e h m (ah _) o).mono ?_;rintro r _ _ _ rfl;show sB _ e _;unfold sB;rw[if_neg jO]
  |ok lv=>
   obtain⟨u4,u3,P⟩:=YT _ _ _ eb;have hv:=akC eb;have rl:=fi S 0 a;have y:((0:Int) !=0)=false:=rfl;have C:IntKind.i64.wrap (((a:Nat):Int)+24)=((a+24:Nat):Int):=by rw[aH jO jO];omega
   have q:((a:Nat):Int)+24=((a+24:Nat):Int):=jO;have fL:IntKind.i64.wrap (((a:Nat):Int)+32)=((a+32:Nat):Int):=by rw[aH jO jO];omega
   have k:((a:Nat):Int)+32=((a+32:Nat):Int):=jO
   have s8:∀K:Value->M Value,bN (tx (dS S)) (some (jI ((a+24:Nat):Int))) (some (jI ((a+32:Nat):Int))) K=K (tx ((ar S 0 (a+24)).take 8)):=fun K=>by have:=r9 (dS S) .i64 .i64 ((a+24:Nat):Int) ((a+32:Nat):Int) K jO jO jO;rw[this,cR,cR,uO,show a+32-(a+24)=8 by omega]
   have D:∀K:Value->M Value,bN (tx (dS S)) (some (jI ((a+32:Nat):Int))) none K=K (tx (ar S 0 (a+32))):=fun K=>by have:=nT (dS S) .i64 ((a+32:Nat):Int) K jO jO;rw[this,cR,uO]
   have hn:=Aa (Y:=Y) (d:=d+9) (n:=m) (h:=h) ((ar S 0 (a+24)).take 8) (by rw[cO];omega) jO;rw[hv]at hn;have wl:IntKind.i64.wrap ((lv+48:Nat):Int)=((lv+48:Nat):Int):=aH jO jO;have z:IntKind.i64.wrap (((lv+48:Nat):Int)-48)=((lv:Nat):Int):=by rw[aH jO jO];omega
   have p:((lv+48:Nat):Int)-48=((lv:Nat):Int):=jO;have rm:lv*Z<=9*Z:=qL _ P
   have wm:IntKind.i64.wrap (((lv:Nat):Int)*((Z:Nat):Int))=((lv*Z:Nat):Int):=by rw[show((lv:Nat):Int)*((Z:Nat):Int)=((lv*Z:Nat):Int)from(Int.natCast_mul lv Z).symm,aH jO jO]
   unfold Ad;refine jA (aI @y (aI @C (aI @q (aI @fL @k)))) ?_;rw[s8];refine bz hn jO (fun _ _ h=>h.elim) ?_;refine jA (aI @wl (aI @z (aI @p (aI @fL @k)))) ?_;rw[D];refine jA @wm ?_;refine aN aE (akF (Y:=Y) (d:=d+1) (room:=lv*Z) hS jO s (a0:=a+32) jO) jO (fun _ _ h=>h.elim) fun v1 h1 E u1 t i=> ?_;refine dL rfl _ ?_;have l1:E<E+1:=jO;try dsimp only
   have j:=akA (S:=S) (room:=lv*Z) (NB S) (a+32) 0 (fX S (lv*Z) (NB S) (a+32) 0).1 (fX S (lv*Z) (NB S) (a+32) 0).2 rfl;have W:=YW (S:=S) (room:=lv*Z) jO (NB S) (a+32) 0;have nb:NB S=S.length/6+1:=rfl;cases er:(fX S (lv*Z) (NB S) (a+32) 0).2 with
   |error e=>
    rw[er]at i j;have e0:e≠0:=j.2;have i:v1= .agg #[aL [],jI 0,jI e]:=i;subst i;refine cq (sz:=3) trivial (vs:=[aL [],jI 0,jI e]) rfl rfl rfl (get_eq _ _ _) jO (.inl jO) _ fun u g2 L=> ?_;have x:(e !=0)=true:=by rw[bne_iff_ne];exact e0
    refine jA (aI @g2 @x) ?_;refine(err e u _ jO (by rw[L n jO,aw _ _ jO];exact(t n J id).trans o)).mono ?_;rintro r _ _ _ rfl;show sB _ e _;unfold sB;rw[if_neg e0]
   |ok b=>
    rw[er]at i j;obtain⟨_,_,_,u6,bS⟩:=j;have u5:=Yx _ _ _ er;have i:v1= .agg #[aL (j9 S (lv*Z) (NB S) (a+32) 0),jI ((b-(a+32):Nat):Int),jI 0]:=i;subst i;generalize hT:j9 S (lv*Z) (NB S) (a+32) 0=T at W⊢;refine cq (sz:=3) trivial (vs:=[aL T,jI ((b-(a+32):Nat):Int),jI 0]) rfl rfl rfl (get_eq _ _ _) jO (.inl jO) _ fun u g2 L=> ?_;have jx:∀b,b<m->u.get b=h.get b:=fun b hb=>by rw[L b jO,aw _ _ jO];exact t b hb id
    have x:((0:Int) !=0)=false:=rfl;have ad:=fun(K:Value->M Value)=>pL out T jO K;have w3:IntKind.i64.wrap (((a+32:Nat):Int)+((b-(a+32):Nat):Int))=((b:Nat):Int):=by rw[aH jO jO];omega
    have B:((a+32:Nat):Int)+((b-(a+32):Nat):Int)=((b:Nat):Int):=jO;have w7:IntKind.i64.wrap (((b:Nat):Int)+7)=((b+7:Nat):Int):=by rw[aH jO jO];omega
    have A:((b:Nat):Int)+7=((b+7:Nat):Int):=jO;have d8:((b+7:Nat):Int).tdiv 8=(((b+7)/8:Nat):Int):=rfl;have v8:IntKind.i64.wrap (((b+7)/8:Nat):Int)=(((b+7)/8:Nat):Int):=aH jO jO
    have m8:IntKind.i64.wrap ((((b+7)/8:Nat):Int)*8)=((b+dc b:Nat):Int):=by rw[<-YV,show(((b+7)/8:Nat):Int)*8=(((b+7)/8*8:Nat):Int) by omega,aH jO jO]
    have G:(((b+7)/8:Nat):Int)*8=((b+dc b:Nat):Int):=by rw[<-YV];omega
    have pn:=Ys b;have u0:=fi S 0 (b+dc b);refine jA (aI @g2 (aI @x (aI @ad (aI @fL (aI @k (aI @w3 (aI @B (aI @w7 (aI @A (aI @d8 (aI @v8 (aI @m8 (aI @G (aI @cV @bl)))))))))))))) ?_;by_cases v:(ar S 0 (b+dc b)).length=0
    ·have zq:(((b+dc b:Nat):Int)==((8*S.length:Nat):Int))=true:=beq_iff_eq.2 jO;rw[if_pos v,if_pos v];refine jA @zq ?_;refine cq (sz:=2) trivial (vs:=[aL (out++T),jI 0]) rfl rfl rfl ((jx n J).trans o) jO (.inl (ah _)) _ fun h3 g3 k3=> ?_;unfold tG;dsimp only;refine dV trivial trivial g3 rfl jO ?_;unfold sB;rw[if_pos rfl,bR]
    ·have zq:(((b+dc b:Nat):Int)==((8*S.length:Nat):Int))=false:=beq_eq_false_iff_ne.2 jO;rw[if_neg v,if_neg v];have wi:((c:Nat):Int)+1=((c+1:Nat):Int):=rfl;refine jA @zq ?_;rw[wi];have:=ih (b+dc b) l (E+1) (c+1) (out++T) u jO jO jO jO jO (by rw[bE];omega) ((jx n J).trans o);rw[dY]at this;exact this
theorem akH(i:S.length<=1000)(g:Z<=100000)(b:300000000<=Y):af (fun _=>False) n (aj aa gt Y (d+11) 26 #[jI (Z:Int),.string ⟨S.toArray⟩]) h n (fun e _ _=>sB (pO S Z (S.length+1) 0) (oj S Z (S.length+1) 0).2 e):=by
 rw[aC (fun _=>adf) rfl];refine af.aB ?_;unfold He;refine dL rfl _ ?_;refine bz (XA (Y:=Y) (d:=d+8) (S:=S) jO jO jO) jO (fun _ _ h=>h.elim) ?_;have c:IntKind.i64.wrap ((S.length:Int)+1)=((S.length+1:Nat):Int):=by rw[aH jO jO];omega
 have a:(S.length:Int)+1=((S.length+1:Nat):Int):=jO;have f:∀K:Value->M Value,bJ (.string ⟨S.toArray⟩) K=K (jI (S.length:Int)):=fun K=>xX K S;refine jA (aI @f (aI @c @a)) ?_;exact akG (d:=d) i g b (S.length+1) 0 Y (n+1) 0 [] _ rfl jO (ah _) (aP _) rfl (by rw[hC,fy];exact iV (ano _ (by omega:S.length+1<=1001)) jD) (get_eq _ _ _)
end
def qI(S:List UInt8)(Z:Nat)(s:Is):List Nat:=match c8 Z s.u s.A (ar S 0 s.A)with
 | .ok (a,b) _=>if a=1 then(match fD b.aS with
   | .ok t=>t
   | .error _=>[])else []
 |_=>[]
inductive cr (S:List UInt8) (Z:Nat):Nat->Is->List Nat->Int->Prop
 |stop {s:Is} {e:Int} (f:jR S Z s) (h:iE S Z s= .stop e):cr S Z 1 s [] e
 |go {k:Nat} {s s':Is} {t:List Nat} {e:Int} (f:jR S Z s) (h:iE S Z s= .go s') (r:cr S Z k s' t e):cr S Z (k+1) s (qI S Z s++t) e
theorem Ld{b:Type}{w:Nat}{r:St b}{a:Nat×b}{u:Nat}(h:sq w r= .ok a u):a.1=w:=by
 cases r with
 |short=>cases h
 |bad e=>cases h
 |ok x v=>cases h;rfl
theorem EC{S:List UInt8}{Z:Nat}{s:Is}(h:s.u.due≠2):qI S Z s=[]:=by
 unfold qI;cases e:c8 Z s.u s.A (ar S 0 s.A)with
 |short=>rfl
 |bad e=>rfl
 |ok a w=>
  obtain⟨b,c⟩:=a;dsimp only
  have:b≠1:=by
   unfold c8 at e;split at e
   ·have:=Ld e;omega
   ·split at e
    ·have:=Ld e;omega
    ·try rw[if_neg h]at e
     have:=Ld e;omega
  rw[if_neg this]
theorem YX{S:List UInt8}{Z:Nat}{s:Is}{b:Bk}(d:s.u.due=2)(a:s.u.bc=some b):qI S Z s=match db (s.u.level*Z) b (ar S 0 s.A)with
 | .ok b' _=>if b'.done=true then(match fD (mU b')with
   | .ok t=>t
   | .error _=>[])else []
 |_=>[]:=by
 unfold qI c8;rw[if_neg jO,if_neg jO,if_pos d];unfold pG;rw[a];dsimp only;cases db (s.u.level*Z) b (ar S 0 s.A)with
 |short=>rfl
 |bad e=>rfl
 |ok b' w=>
  dsimp only;by_cases c:b'.done=true
  ·rw[if_pos c,if_pos c];rfl
  ·rw[if_neg c,if_neg c];rfl
section
variable {S:List UInt8} {Z:Nat} {s s':Is}
theorem cr.next{k:Nat}{t:List Nat}{e:Int}(f:jR S Z s)(h:iE S Z s= .go s')(a:qI S Z s=[])(r:cr S Z k s' t e):cr S Z (k+1) s t e:=by have:=cr.go f h r;rw[a]at this;exact this
def akI(S:List UInt8)(Z k:Nat)(s:Is):St Gt->Prop
 | .short=>cr S Z k s [] 24
 | .bad e=>cr S Z k s [] e
 | .ok g w=>match fD g with
   | .error e=>cr S Z k s [] e
   | .ok t=>jR S Z ((s.took (j7 s.u g) w).mr t.length)∧∀j a e,cr S Z j ((s.took (j7 s.u g) w).mr t.length) a e->cr S Z (k+j) s (t++a) e
theorem akJ{room k:Nat}{b:Bk}{bs:List Bool}{x:St Gt}(r:fb room k b bs x):∀(s:Is),jR S Z s->s.u.due=2->s.u.bc=some b->s.u.level*Z=room->ar S 0 s.A=bs->s.fresh=false->akI S Z k s x:=by
 induction r with
 |short h=>intro s f m n o d p;have a:=Es (S:=S) (Z:=Z) m n;rw[o,d,h]at a;exact cr.stop f a
 |bad h=>intro s f m n o d p;have a:=Es (S:=S) (Z:=Z) m n;rw[o,d,h]at a;exact cr.stop f a
 |@done b c bs u h q=>
  intro s f m n o d p;have a:=Es (S:=S) (Z:=Z) m n;have i:=YX (S:=S) (Z:=Z) m n;rw[o,d,h]at a i;have a:iE S Z s=iD S 1 (s.took (j7 s.u (mU c)) u):=a.trans (if_pos q)
  have i:qI S Z s=match fD (mU c)with
   | .ok t=>t
   | .error _=>[]:=i.trans (if_pos q)
  unfold iD at a;rw[if_pos rfl]at a
  show match fD (mU c)with
   | .error e=>cr S Z 1 s [] e
   | .ok t=>jR S Z ((s.took (j7 s.u (mU c)) u).mr t.length)∧∀j l e,cr S Z j ((s.took (j7 s.u (mU c)) u).mr t.length) l e->cr S Z (1+j) s (t++l) e
  have a:iE S Z s=match fD (mU c)with
   | .error e=> .stop e
   | .ok t=> .go ((s.took (j7 s.u (mU c)) u).mr t.length):=a
  cases e:fD (mU c)with
  |error D=>rw[e]at a;exact cr.stop f a
  |ok t=>rw[e]at a i;refine⟨uL f a,fun j l A v=> ?_⟩;rw[E8];have:=cr.go f a v;rw[i]at this;exact this
 |@more k b c bs u x h q r B=>
  intro s f m n o d p;have a:=Es (S:=S) (Z:=Z) m n;have i:=YX (S:=S) (Z:=Z) m n;rw[o,d,h]at a i;have i:qI S Z s=[]:=i.trans (if_neg (by rw[q];decide));have a:iE S Z s=iD S 0 (s.took {s.u with bc:=some c} u):=a.trans (if_neg (by rw[q];decide))
  have a:iE S Z s= .go (s.took {s.u with bc:=some c} u):=by rw[a];unfold iD;rw[if_neg jD,if_neg jD,Yt (s:=s.took {s.u with bc:=some c} u) p]
  have y:=B (s.took {s.u with bc:=some c} u) (uL f a) m rfl o (by rw[<-d,nO jO];rfl) p;cases x with
  |short=>exact cr.next f a i y
  |bad e=>exact cr.next f a i y
  |ok g w=>
   show match fD g with
    | .error e=>cr S Z (k+1) s [] e
    | .ok t=>jR S Z ((s.took (j7 s.u g) (u+w)).mr t.length)∧∀j l e,cr S Z j ((s.took (j7 s.u g) (u+w)).mr t.length) l e->cr S Z (k+1+j) s (t++l) e
   have y:match fD g with
    | .error e=>cr S Z k (s.took {s.u with bc:=some c} u) [] e
    | .ok t=>jR S Z (((s.took {s.u with bc:=some c} u).took (j7 s.u g) w).mr t.length)∧∀j l e,cr S Z j (((s.took {s.u with bc:=some c} u).took (j7 s.u g) w).mr t.length) l e->cr S Z (k+j) (s.took {s.u with bc:=some c} u) (t++l) e:=y
   cases e:fD g with
   |error D=>rw[e]at y;exact cr.next f a i y
   |ok t=>
    rw[e]at y;obtain⟨z,y⟩:=y
    have C:(s.took {s.u with bc:=some c} u).took (j7 s.u g) w=s.took (j7 s.u g) (u+w):=by unfold Is.took;simp only[Nat.add_assoc]
    rw[C]at z y;refine⟨z,fun j l A v=> ?_⟩;have:=y j l A v;rw[show k+1+j=(k+j)+1 by omega];exact cr.next f a i this
end
section
variable {S:List UInt8} {Z room:Nat}
def YY(S:List UInt8)(Z:Nat)(s:Is)(T:List Nat):Except Int Nat->Prop
 | .error e=>∃k,cr S Z k s T e
 | .ok a=>∃k b,b.u.ended=true∧K4 S Z (a+dc a) b∧∀j c e,cr S Z j b c e->cr S Z (k+j) s (T++c) e
theorem akK(hS:S.length<=1000000)(I:room<=900000):∀(N a t:Nat) (s:Is),(ar S 0 a).length<48*N->K3 S Z room a t s->YY S Z s (j9 S room N a t) (fX S room N a t).2:=by
 intro N
 induction N with
 |zero=>intro a t s h;omega
 |succ N W=>
  intro a t s hN x;have d:=aju (S:=S) (Z:=Z) x.due x.fr;have m:=EC (S:=S) (Z:=Z) (s:=s) (by rw[x.due];decide);have X:=x.ki.rest;have K:=x.ki.hi;rw[x.pos]at d X K;have B:(ar S 0 a).drop 48=ar S 0 (a+48):=nO jO;have stop:∀e,iE S Z s= .stop e->YY S Z s [] (.error e):=fun e q=>⟨1,cr.stop x.ki q⟩;unfold fX j9;by_cases r:(ar S 0 a).length<48
  ·rw[if_pos r]at d;rw[if_pos r,if_pos r];exact stop _ d
  rw[if_neg r]at d;rw[if_neg r,if_neg r];by_cases o:num ((ar S 0 a).take 48) 0=jM
  ·rw[if_pos o]at d;rw[if_pos o,if_pos o];have l:=uL x.ki d;obtain⟨k,hk,br⟩:=ajs room jO (ar S 0 (a+48));have f:=akJ (Z:=Z) br (s.took {s.u with bc:=some jb,due:=2} 48) l rfl rfl x.rm (by show ar S 0 (s.A+48)=_;rw[x.pos]) x.fr;have hl:(ar S 0 (a+48)).length<=8*S.length:=by rw[<-B,bC];omega
   cases e:lr room (ar S 0 (a+48))with
   |short=>rw[e]at f;exact⟨k+1,cr.next x.ki d m f⟩
   |bad Q=>rw[e]at f;exact⟨k+1,cr.next x.ki d m f⟩
   |ok g w=>
    rw[e]at f
    have f:match fD g with
     | .error e=>cr S Z k (s.took {s.u with bc:=some jb,due:=2} 48) [] e
     | .ok t=>jR S Z (((s.took {s.u with bc:=some jb,due:=2} 48).took (j7 {s.u with bc:=some jb,due:=2} g) w).mr t.length)∧∀j v e,cr S Z j (((s.took {s.u with bc:=some jb,due:=2} 48).took (j7 {s.u with bc:=some jb,due:=2} g) w).mr t.length) v e->cr S Z (k+j) (s.took {s.u with bc:=some jb,due:=2} 48) (t++v) e:=f
    dsimp only;cases P:fD g with
    |error Q=>rw[P]at f;exact⟨k+1,cr.next x.ki d m f⟩
    |ok C=>
     rw[P]at f;dsimp only at f⊢;obtain⟨z,b⟩:∃z,((s.took {s.u with bc:=some jb,due:=2} 48).took (j7 {s.u with bc:=some jb,due:=2} g) w).mr C.length=z:=⟨_,rfl⟩;rw[b]at f;obtain⟨n,f⟩:=f
     have Y:z.ps=s.ps++[(⟨2,0,(a:Int),((a+48+w:Nat):Int),(g.sum:Int),(g.bH:Int),(g.last.length:Int),(C.length:Int)⟩:Pt)]:=by rw[<-b];show s.ps++[(⟨2,0,((s.next:Nat):Int),((s.A+48+w:Nat):Int),(g.sum:Int),(g.bH:Int),(g.last.length:Int),(C.length:Int)⟩:Pt)]=_;rw[x.next,x.pos]
     have J:(ar S 0 (a+48+w)).length<48*N:=by rw[<-nO jO,bC,<-B,bC];omega
     have R:K3 S Z room (a+48+w) (ft t g.sum) z:=by
      refine⟨n, ?_, ?_, ?_, ?_, ?_, ?_, ?_,Yu (p:=⟨2,0,(a:Int),((a+48+w:Nat):Int),(g.sum:Int),(g.bH:Int),(g.last.length:Int),(C.length:Int)⟩) (by show(2:Int)≠3;decide) Y⟩
      ·rw[<-b];rfl
      ·rw[<-b];exact x.zZ
      ·rw[<-b];show s.A+48+w=_;rw[x.pos]
      ·rw[<-b];show s.A+48+w=_;rw[x.pos]
      ·rw[<-b];show ft s.u.total g.sum=_;rw[x.ut]
      ·rw[<-b];show ft s.total g.sum=_;rw[x.st]
      ·rw[<-b];exact x.rm
     have y:=W (a+48+w) (ft t g.sum) z J R;cases O:(fX S room N (a+48+w) (ft t g.sum)).2 with
     |error Q=>rw[O]at y;obtain⟨j,U⟩:=y;exact⟨k+j+1,cr.next x.ki d m (f j _ _ U)⟩
     |ok a'=>rw[O]at y;obtain⟨j,T,h2,h3,h4⟩:=y;refine⟨k+j+1,T,h2,h3,fun i v e K=> ?_⟩;have:=f (j+i) _ _ (h4 i v e K);rw[show k+j+1+i=(k+(j+i))+1 by omega,dY];exact cr.next x.ki d m this
  rw[if_neg o]at d;rw[if_neg o,if_neg o];by_cases G:num ((ar S 0 a).take 48) 0=j6
  ·rw[if_pos G]at d;rw[if_pos G];have l:=uL x.ki d;have c:=ajv (S:=S) (Z:=Z) (s:=s.took {s.u with due:=3} 48) rfl;have L:=EC (S:=S) (Z:=Z) (s:=s.took {s.u with due:=3} 48) (by show(3:Nat)≠2;decide);have ea:(s.took {s.u with due:=3} 48).A=a+48:=by show s.A+48=_;rw[x.pos]
   have et:(s.took {s.u with due:=3} 48).u.total=t:=x.ut;rw[ea,et]at c;by_cases E:(ar S 0 (a+48)).length<32
   ·rw[if_pos E]at c;rw[if_pos E];exact⟨2,cr.next x.ki d m (cr.stop l c)⟩
   rw[if_neg E]at c;rw[if_neg E];by_cases D:num ((ar S 0 (a+48)).take 32) 0=t
   ·rw[if_pos D]at c;rw[if_pos D];have n:=uL l c;refine⟨2,_, ?_,⟨n,rfl,x.zZ, ?_, ?_, ?_⟩,fun j v e hj=> ?_⟩
    ·rfl
    ·show s.A+48+(32+dc (a+48+32))=_;rw[x.pos,show a+48+32=a+80 by omega];omega
    ·show s.A+48+(32+dc (a+48+32))=_;rw[x.pos,show a+48+32=a+80 by omega];omega
    ·exact ajt (ps:=s.ps) rfl rfl
    ·rw[show 2+j=(j+1)+1 by omega,kQ];exact cr.next x.ki d m (cr.next l c L hj)
   ·rw[if_neg D]at c;rw[if_neg D];exact⟨2,cr.next x.ki d m (cr.stop l c)⟩
  rw[if_neg G]at d;rw[if_neg G];exact stop _ d
def akL(S:List UInt8)(Z a:Nat)(s:Is):Except Int Nat->Prop
 | .error e=>∃k,cr S Z k s [] e
 | .ok lv=>∃k c,K3 S Z (lv*Z) (a+32) 0 c∧∀j b e,cr S Z j c b e->cr S Z (k+j) s b e
theorem akM(L:S.length<=1000000){a:Nat}(N:a %8=0):∀(m:Nat) (s:Is),m<=3->jR S Z s->s.u.due=0->s.u.at_=3-m->s.A=a+8*(3-m)->s.next=a->s.fresh=true->¬(s.u.may=true∧(ar S 0 s.A).length=0)->akL S Z a s (iR S m (a+8*(3-m))):=by
 intro m
 induction m with
 |zero=>
  intro s r c i z g o v t;have b:=Yw (S:=S) (Z:=Z) i t;have f:=EC (S:=S) (Z:=Z) (s:=s) (by rw[i];decide);have p:a+8*(3-0)=a+24:=rfl;rw[p]at g⊢;rw[g]at b;unfold iR;by_cases h:(ar S 0 (a+24)).length<8
  ·rw[if_pos h]at b⊢;exact⟨1,cr.stop c b⟩
  rw[if_neg h,if_neg jO]at b;rw[if_neg h];by_cases l:num ((ar S 0 (a+24)).take 8) 0<49∨57<num ((ar S 0 (a+24)).take 8) 0
  ·rw[if_pos l]at b⊢;exact⟨1,cr.stop c b⟩
  rw[if_neg l]at b⊢;have K:=fi S 0 (a+24);have bn:=ajw (S:=S) (q:=a/8+3) jO;rw[show 8*(a/8+3)=a+24 by omega]at bn;have d:=uL c b
  have x:((s.took {s.u with level:=num ((ar S 0 (a+24)).take 8) 0-48,at_:=0,total:=0,due:=1} 8).begun S)={((s.took {s.u with level:=num ((ar S 0 (a+24)).take 8) 0-48,at_:=0,total:=0,due:=1} 8).add ⟨1,Em S s.next,0,0,0,0,0,0⟩ (s.A+8))with total:=0}:=by unfold Is.begun;exact if_pos ⟨v,by show s.A+8=s.next+32;rw[g,o]⟩
  rw[x]at b d;have E:({((s.took {s.u with level:=num ((ar S 0 (a+24)).take 8) 0-48,at_:=0,total:=0,due:=1} 8).add ⟨1,Em S s.next,0,0,0,0,0,0⟩ (s.A+8))with total:=0}:Is).ps=s.ps++[(⟨1,Em S s.next,((s.next:Nat):Int),((s.A+8:Nat):Int),0,0,0,0⟩:Pt)]:=rfl;refine⟨1,_,⟨d,rfl,rfl,by show s.A+8=_;rw[g],by show s.A+8=_;rw[g],rfl,rfl,rfl,Yu (by show(1:Int)≠3;decide) E⟩,fun j y e u=> ?_⟩;rw[E8];exact cr.next c b f u
 |succ m D=>
  intro s r c i z g o v t;have b:=Yw (S:=S) (Z:=Z) i t;have f:=EC (S:=S) (Z:=Z) (s:=s) (by rw[i];decide);have p:a+8*(3-(m+1))+8=a+8*(3-m):=jO;rw[g,z]at b;unfold iR;by_cases h:(ar S 0 (a+8*(3-(m+1)))).length<8
  ·rw[if_pos h]at b⊢;exact⟨1,cr.stop c b⟩
  rw[if_neg h,if_pos jO]at b;rw[if_neg h];rw[show 2-m=3-(m+1) by omega];by_cases l:num ((ar S 0 (a+8*(3-(m+1)))).take 8) 0=jL.getD (3-(m+1)) 0
  ·rw[if_pos l]at b⊢;rw[p]
   have x:(s.took {s.u with at_:=3-(m+1)+1} 8).begun S=s.took {s.u with at_:=3-(m+1)+1} 8:=by unfold Is.begun;refine if_neg fun q=> ?_;have q2:s.A+8=s.next+32:=q.2;rw[g,o]at q2;omega
   rw[x]at b;have d:=uL c b
   have n:=D (s.took {s.u with at_:=3-(m+1)+1} 8) jO d i (by show 3-(m+1)+1=3-m;omega) (by show s.A+8=_;rw[g,p]) o v (by
    intro q;have q1:=q.1;unfold Us.may at q1;simp only[bW,decide_eq_true_eq]at q1;have J:3-(m+1)+1=0:=q1.2
    omega)
   cases A:iR S m (a+8*(3-m))with
   |error O=>rw[A]at n;obtain⟨k,C⟩:=n;exact⟨k+1,cr.next c b f C⟩
   |ok lv=>rw[A]at n;obtain⟨k,B,I,G⟩:=n;refine⟨k+1,B,I,fun j y e u=> ?_⟩;rw[show k+1+j=(k+j)+1 by omega];exact cr.next c b f (G j y e u)
  ·rw[if_neg l]at b⊢;exact⟨1,cr.stop c b⟩
theorem akN(z:S.length<=1000000)(Q:Z<=100000):∀(N a:Nat) (s:Is),a %8=0->(ar S 0 a).length<8*N->K4 S Z a s->¬(s.u.may=true∧(ar S 0 s.A).length=0)->∃k,cr S Z k s (pO S Z N a) (oj S Z N a).2:=by
 intro N
 induction N with
 |zero=>intro a s A h;omega
 |succ N E=>
  intro a s A R x G;have f:=akM (Z:=Z) z A 3 s (ah _) x.ki x.due (by rw[x.zZ]) (by rw[x.pos];rfl) x.next x.fr G;rw[show a+8*(3-3)=a by omega]at f;unfold oj pO;cases e:iR S 3 a with
  |error L=>rw[e]at f;exact f
  |ok lv=>
   rw[e]at f;obtain⟨k,C,u,t⟩:=f;obtain⟨_,D,g⟩:=YT _ _ _ e;have O:lv*Z<=9*Z:=qL _ g;have J:=u.ki.hi;have I:=fi S 0 (a+32);have o:(ar S 0 (a+32)).length<48*NB S:=by unfold NB;omega
   have y:=akK (Z:=Z) (room:=lv*Z) z jO (NB S) (a+32) 0 C o u;dsimp only;cases r:(fX S (lv*Z) (NB S) (a+32) 0).2 with
   |error L=>rw[r]at y;obtain⟨j,l⟩:=y;exact⟨k+j,t _ _ _ l⟩
   |ok b=>
    rw[r]at y;obtain⟨j,v,K,c,B⟩:=y;dsimp only;by_cases d:(ar S 0 (b+dc b)).length=0
    ·rw[if_pos d,if_pos d]
     have m:iE S Z v= .stop 0:=by unfold iE;rw[if_pos];refine⟨?_,by rw[c.pos];exact d⟩;unfold Us.may;rw[K,c.due,c.zZ];rfl
     exact⟨k+(j+1),t _ _ _ (B _ _ _ (cr.stop c.ki m))⟩
    ·rw[if_neg d,if_neg d];have n:=(Ys b).2
     have p:(ar S 0 (b+dc b)).length<8*N:=by
      have q1:=fi S 0 (b+dc b);have q2:=fi S 0 a
      have P:a+40<=b+dc b:=by have:=Yx (NB S) (a+32) 0 r;omega
      omega
     obtain⟨i,l⟩:=E (b+dc b) v n p c (fun q=>d (by rw[<-c.pos];exact q.2));exact⟨k+(j+i),t _ _ _ (B _ _ _ l)⟩
theorem akO(a:S.length<=1000000)(h1:24<=Z)(h2:Z<=100000):∃k,cr S Z k zY (pO S Z (S.length+1) 0) (oj S Z (S.length+1) 0).2:=by have b:=fi S 0 0;exact akN a h2 (S.length+1) 0 zY rfl jO (ajx h1 h2) (fun q=>by cases q.1)
end
theorem YZ:∀(a:List Nat) (bs:List Bool) (acc s:List Nat) (u v:Nat),gV a bs acc u= .ok s v->v=u+16*a.length∧(a=[]->s=acc)
 |[],bs,acc,s,u,v,h=>by cases h;exact⟨rfl,fun _=>rfl⟩
 |i::a,bs,acc,s,u,v,h=>by
  unfold gV at h;split at h
  ·cases h
  ·obtain⟨b,_⟩:=YZ a _ _ _ _ _ h;exact⟨by rw[cK];omega,fun q=>by cases q⟩
theorem akP{bs:List Bool}{s:List Nat}{u:Nat}(h:fo bs= .ok s u):32<=u:=by
 have d:=(uB h).2.1;unfold fo at h;split at h
 ·cases h
 ·cases e:gV (hO (bs.take 16)) (bs.drop 16) [] 16 with
  |short=>rw[e]at h;cases h
  |bad x=>rw[e]at h;cases h
  |ok l v=>
   rw[e]at h;obtain⟨c,b⟩:=YZ _ _ _ _ _ _ e
   have:l=s∧v=u:=by
    cases l with
    |nil=>cases h
    |cons x l=>cases h;exact⟨rfl,rfl⟩
   obtain⟨rfl,rfl⟩:=this;cases a:hO (bs.take 16)with
   |nil=>exact absurd (b a) d
   |cons x f=>rw[a,cK]at c;omega
def kK(room:Nat)(b:Bk):Nat:=if b.head=false then 9890 else match b.row with
 |none=>12960
 |some _=>7310+3*room+(room-b.last.length)
def mW(Z r:Nat)(u:Us):Nat:=54*r+(if u.due=2 then(match u.bc with
 |none=>0
 |some b=>kK (u.level*Z) b)else 7300)
theorem ED{Z r:Nat}{u:Us}{b:Bk}(d:u.due=2)(a:u.bc=some b):mW Z r u=54*r+kK (u.level*Z) b:=by unfold mW;rw[if_pos d,a]
theorem mX{Z r:Nat}{u:Us}(d:u.due≠2):mW Z r u=54*r+7300:=by unfold mW;rw[if_neg d]
theorem Y0{room:Nat}{b:Bk}(h:b.head=false):kK room b=9890:=by unfold kK;rw[if_pos h]
theorem Y1{room:Nat}{b:Bk}(h:b.head=true)(a:b.row=none):kK room b=12960:=by unfold kK;rw[if_neg (by rw[h];decide),a]
theorem EE{room:Nat}{b:Bk}{r:Rw}(h:b.head=true)(a:b.row=some r):kK room b=7310+3*room+(room-b.last.length):=by unfold kK;rw[if_neg (by rw[h];decide),a]
theorem Y2{b b':Bk}{r:Rw}{w u:Nat}(h:fq b r w= .ok b' u):u=w∧(b'=b∨(b'.done=true∧b'.last=b.last)):=by
 unfold fq at h;split at h
 ·split at h
  ·cases h
  ·cases h;exact⟨rfl,.inr ⟨rfl,rfl⟩⟩
 ·cases h;exact⟨rfl,.inl rfl⟩
theorem akQ{room A u:Nat}{b b':Bk}{bs:List Bool}(k:wU room A b)(G:room<=1800)(h:db room b bs= .ok b' u)(E:u<=bs.length):if b'.done=true then 54*(bs.length-u)+7300+1+3*b'.last.length<=54*bs.length+kK room b∧b'.last.length<=room else 54*(bs.length-u)+kK room b'+1<=54*bs.length+kK room b:=by
 have g:=k.ok.nd;unfold db at h;by_cases f:b.head=false
 ·rw[if_pos f]at h;split at h
  ·cases h
  ·split at h
   ·cases h
   ·cases h;have d:=k.ok.hd f;rw[if_neg (by show¬b.done=true;rw[g];decide)];rw[Y0 f,Y1 (b:={b with head:=true,sum:=num (bs.take 32) 0,bH:=num ((bs.drop 33).take 24) 0}) rfl d]
    omega
 rw[if_neg f]at h;have a:b.head=true:=by simpa using f
 cases c:b.row with
 |none=>
  rw[c]at h;dsimp only at h;cases e:fo bs with
  |short=>rw[e]at h;cases h
  |bad x=>rw[e]at h;cases h
  |ok s v=>rw[e]at h;cases h;have p:=akP e;rw[if_neg (by show¬b.done=true;rw[g];decide)];rw[Y1 a c,EE (b:={b with row:=some (mR s room)}) a rfl];show 54*(bs.length-u)+(7310+3*room+(room-b.last.length))+1<=_;omega
 |some r=>
  rw[c]at h;dsimp only at h;have D:=k.ok.ll;have pb:kK room b=7310+3*room+(room-b.last.length):=EE a c;rw[pb];obtain⟨y,t⟩:=k.ct r c;by_cases j:r.waits=true
  ·rw[if_pos j]at h;have C:=(pK r).1 j;obtain⟨rfl,q⟩:=Y2 h;have m:(b.last++[(bP r).1]).length=b.last.length+1:=by rw[bE];rfl
   rcases q with rfl|⟨q1,q2⟩
   ·rw[if_neg (by show¬b.done=true;rw[g];decide)];have:kK room {b with last:=b.last++[(bP r).1],row:=some (bP r).2}=7310+3*room+(room-(b.last++[(bP r).1]).length):=EE a rfl;rw[this,m];omega
   ·rw[if_pos q1,q2];show 54*(bs.length-0)+7300+1+3*(b.last++[(bP r).1]).length<=_∧(b.last++[(bP r).1]).length<=room;rw[m];omega
  ·rw[if_neg j]at h;have l:=k.ok.row r c
   have z:r.cd.done=false:=by
    cases q:r.cd.done with
    |false=>rfl
    |true=>exact absurd (l.2.1 q) j
   cases e:iu r bs with
   |short=>rw[e]at h;cases h
   |bad x=>rw[e]at h;cases h
   |ok o v=>
    rw[e]at h;dsimp only at h;obtain⟨rfl,q⟩:=Y2 h
    have B:0<u:=by
     unfold iu at e;cases i:dU r.cd bs with
     |short=>rw[i]at e;cases e
     |bad x=>rw[i]at e;cases e
     |ok n v=>
      obtain⟨sym,I⟩:=n;rw[i]at e;have:=(wI (l.1.cd z) i).2.2.1;dsimp only at e;split at e
      ·cases e;exact this
      ·split at e
       ·cases e
       ·cases e;exact this
    rcases q with rfl|⟨q1,q2⟩
    ·rw[if_neg (by show¬b.done=true;rw[g];decide)];have:kK room {b with row:=some o}=7310+3*room+(room-b.last.length):=EE a rfl;rw[this];omega
    ·rw[if_pos q1,q2];show 54*(bs.length-u)+7300+1+3*b.last.length<=_∧b.last.length<=room;omega
theorem Y3{Z A w f:Nat}{u c:Us}{bs:List Bool}(k:uK Z A u)(d:Z<=200)(h:c8 Z u A bs= .ok (f,c) w)(o:(A+bs.length)%8=0):mW Z (bs.length-w) c+1+(if f=1 then 3*c.aS.last.length else 0)<=mW Z bs.length u:=by
 obtain⟨q1,_,_,_,_⟩:=wV k h o;obtain⟨ok,p⟩:=k;unfold c8 at h;split at h
 ·next d0=>
  unfold pF at h;split at h
  ·cases h
  ·split at h
   ·split at h
    ·cases h;rw[mX (u:=u) jO,mX (u:={u with at_:=u.at_+1}) (show u.due≠2 by omega)]
     show _+1+0<=_;omega
    ·cases h
   ·split at h
    ·cases h
    ·cases h;rw[mX (u:=u) jO,mX (show(1:Nat)≠2 by decide)];show _+1+0<=_;omega
 ·next d0=>
  split at h
  ·next d1=>
   unfold qB at h;split at h
   ·cases h
   ·split at h
    ·cases h;rw[mX (u:=u) jO,ED (b:=jb) rfl rfl,Y0 rfl];show _+1+0<=_;omega
    ·split at h
     ·cases h;rw[mX (u:=u) jO,mX (show(3:Nat)≠2 by decide)];show _+1+0<=_;omega
     ·cases h
  ·next d1=>
   split at h
   ·next d2=>
    have lv:=ok.lv jO;have j:u.level*Z<=1800:=iV (Nat.mul_le_mul lv.2 d) jD;unfold pG at h;split at h
    ·cases h
    ·next b g=>
     have m:=p b g;cases e:db (u.level*Z) b bs with
     |short=>rw[e]at h;cases h
     |bad x=>rw[e]at h;cases h
     |ok i q=>
      rw[e]at h;simp only at h;have l:mW Z bs.length u=54*bs.length+kK (u.level*Z) b:=ED d2 g;rw[l];have a:=fun n=>akQ m j e n;split at h
      ·next hd=>cases h;have a:=a q1;rw[if_pos hd]at a;rw[mX (show(1:Nat)≠2 by decide)];exact a.1
      ·next hd=>
       cases h;have a:=a q1;rw[if_neg hd]at a;rw[ED (u:={u with bc:=some i}) (b:=i) d2 rfl]
       exact a
   ·next d2=>
    unfold qC at h;split at h
    ·cases h
    ·split at h
     ·cases h;rw[mX (u:=u) d2,mX (show(0:Nat)≠2 by decide)];show _+1+0<=_;omega
     ·cases h
structure jU where
 k:Nat
 run:Nat
 prev:Nat
 mz:List Nat
def mA:jU:=⟨0,0,0,[]⟩
def iS(run a b:Nat):Option (List Nat×Nat×Nat):=if run=4 then(if 251<b then none else some (bQ b a,0,0))else some ([b],if 0<run∧b=a then run+1 else 1,b)
inductive Ox where
 |fail (t:List Nat) (e:Int)
 |fin (t:List Nat)
 |go (t:List Nat) (o:jU)
def gY(g:Gt)(o:jU):Ox:=match iz g.last g.bH o.k with
 |[]=> .go [] {o with k:=o.k+1}
 |b::_=>match iS o.run o.prev b with
  |none=> .fail [] 25
  |some (t,a,c)=>if o.k+1=3*g.last.length then(if a=4 then .fail t 25 else if iC (o.mz++t)=g.sum then .fin t else .fail t 21)else .go t ⟨o.k+1,a,c,o.mz++t⟩
structure Xc where
 u:Us
 A:Nat
 op:Option jU
 tot:List Nat
 fin:Option Int
def lB(S:List UInt8)(Z:Nat)(x:Xc):Xc:=if x.u.may=true∧(ar S 0 x.A).length=0 then{x with fin:=some 0}else match c8 Z x.u x.A (ar S 0 x.A)with
 | .short=>{x with fin:=some 24}
 | .bad e=>{x with fin:=some e}
 | .ok (a,b) w=>{x with u:=b,A:=x.A+w,op:=if a=1 then some mA else none}
def dN(x:Xc)(o:jU):Xc:=match gY x.u.aS o with
 | .fail t e=>{x with op:=none,tot:=x.tot++t,fin:=some e}
 | .fin t=>{x with op:=none,tot:=x.tot++t}
 | .go t a=>{x with op:=some a,tot:=x.tot++t}
def hY(S:List UInt8)(Z:Nat)(x:Xc):Xc:=match x.op with
 |some o=>dN x o
 |none=>lB S Z x
def mY(S:List UInt8)(Z:Nat):Nat->Xc->Xc
 |0,x=>x
 |k+1,x=>mY S Z k (hY S Z x)
def cY(S:List UInt8)(Z k:Nat)(x:Xc)(t:List Nat)(e:Int):Prop:=(mY S Z k x).fin=some e∧(mY S Z k x).tot=x.tot++t∧∀j,j<k->(mY S Z j x).fin=none
section
variable {S:List UInt8} {Z:Nat}
theorem cY.more{k:Nat}{x:Xc}{t1 t:List Nat}{e:Int}(d:x.fin=none)(h1:(hY S Z x).tot=x.tot++t1)(h:cY S Z k (hY S Z x) t e):cY S Z (k+1) x (t1++t) e:=by
 obtain⟨a,b,c⟩:=h;refine⟨a, ?_,fun j f=> ?_⟩
 ·show(mY S Z k (hY S Z x)).tot=_;rw[b,h1,dY]
 ·cases j with
  |zero=>exact d
  |succ j=>exact c j jO
theorem cY.last{x:Xc}{t:List Nat}{e:Int}(a:x.fin=none)(h1:(hY S Z x).tot=x.tot++t)(h2:(hY S Z x).fin=some e):cY S Z 1 x t e:=
 ⟨h2,h1,fun j b=>by
   obtain rfl:j=0:=jO
   exact a⟩
theorem akR{l:List Nat}{a i:Nat}(h:i<l.length):iz l a (2*l.length+i)=[(fW l a l.length).getD i 0]:=by
 unfold iz;rw[if_pos jO,show 2*l.length+i+1-2*l.length=i+1 by omega]
 have:(fW l a l.length)[i]? =some (l.getD (hX l a (i+1)) 0):=by unfold fW;rw[iW,List.getElem?_range h];rfl
 have b:(fW l a l.length).getD i 0=l.getD (hX l a (i+1)) 0:=by rw[bw,this];rfl
 rw[b]
theorem akS{l:List Nat}{a k:Nat}(h:k<2*l.length):iz l a k=[]:=by unfold iz;rw[if_neg jO]
theorem akT{u:Us}{A:Nat}{tot:List Nat}:∀(m k run a:Nat) (b:List Nat),k+m=2*u.aS.last.length->∀(K:Nat) (t:List Nat) (e:Int),cY S Z K ⟨u,A,some ⟨k+m,run,a,b⟩,tot,none⟩ t e->cY S Z (m+K) ⟨u,A,some ⟨k,run,a,b⟩,tot,none⟩ t e:=by
 intro m
 induction m with
 |zero=>intro k run a b g K t e h;rw[fy];exact h
 |succ m d=>
  intro k run a b g K t e h
  have c:hY S Z ⟨u,A,some ⟨k,run,a,b⟩,tot,none⟩=⟨u,A,some ⟨k+1,run,a,b⟩,tot,none⟩:=by show dN _ _=_;have f:iz u.aS.last u.aS.bH k=[]:=akS jO;unfold dN gY;dsimp only;rw[f];dsimp only;rw[bR]
  have y:=d (k+1) run a b jO K t e (by rw[show k+1+m=k+(m+1) by omega];exact h);rw[show m+1+K=(m+K)+1 by omega];have:=cY.more (S:=S) (Z:=Z) (x:=⟨u,A,some ⟨k,run,a,b⟩,tot,none⟩) (t1:=[]) rfl (by rw[c,bR]) (by rw[c];exact y);exact this
theorem Y4{u:Us}{A:Nat}:∀(l:List Nat) (i run d:Nat) (f tot:List Nat),l=(fW u.aS.last u.aS.bH u.aS.last.length).drop i->l≠[]->i+l.length=u.aS.last.length->
 (match cU run d l with
 | .ok t=>if iC (f++t)=u.aS.sum then(∀K v x,cY S Z K ⟨u,A,none,tot++t,none⟩ v x->cY S Z (l.length+K) ⟨u,A,some ⟨2*u.aS.last.length+i,run,d,f⟩,tot,none⟩ (t++v) x)else∃j n,j<=l.length∧cY S Z j ⟨u,A,some ⟨2*u.aS.last.length+i,run,d,f⟩,tot,none⟩ n 21
 | .error _=>∃j n,j<=l.length∧cY S Z j ⟨u,A,some ⟨2*u.aS.last.length+i,run,d,f⟩,tot,none⟩ n 25)
 |[],i,run,d,f,tot,Q,X,E=>absurd rfl X
 |b::l,i,run,d,f,tot,Q,_,E=>by
  rw[cK]at E
  have R:iz u.aS.last u.aS.bH (2*u.aS.last.length+i)=[b]:=by
   rw[akR jO];congr 1
   have:(fW u.aS.last u.aS.bH u.aS.last.length)[i]? =some b:=by have:=congrArg (fun z=>z[0]?) Q;simp only[List.getElem?_drop,jd]at this;exact this.symm
   rw[bw,this];rfl
  have P:l=(fW u.aS.last u.aS.bH u.aS.last.length).drop (i+1):=by have:=congrArg List.tail Q;rw[List.tail_drop]at this;exact this
  have step:∀(t:List Nat) (k g:Nat),iS run d b=some (t,k,g)->(∀p,cU run d (b::l)=pN t (cU k (if k=0 then p else g) l))->
   match cU run d (b::l)with
   | .ok t=>if iC (f++t)=u.aS.sum then(∀K v x,cY S Z K ⟨u,A,none,tot++t,none⟩ v x->cY S Z ((b::l).length+K) ⟨u,A,some ⟨2*u.aS.last.length+i,run,d,f⟩,tot,none⟩ (t++v) x)else∃j n,j<=(b::l).length∧cY S Z j ⟨u,A,some ⟨2*u.aS.last.length+i,run,d,f⟩,tot,none⟩ n 21
   | .error _=>∃j n,j<=(b::l).length∧cY S Z j ⟨u,A,some ⟨2*u.aS.last.length+i,run,d,f⟩,tot,none⟩ n 25:=fun t k g C B=>by
   have m:gY u.aS ⟨2*u.aS.last.length+i,run,d,f⟩=if 2*u.aS.last.length+i+1=3*u.aS.last.length then(if k=4 then .fail t 25 else if iC (f++t)=u.aS.sum then .fin t else .fail t 21)else .go t ⟨2*u.aS.last.length+i+1,k,g,f++t⟩:=by unfold gY;rw[R];dsimp only;rw[C]
   have s:∀(r:Ox),gY u.aS ⟨2*u.aS.last.length+i,run,d,f⟩=r->hY S Z ⟨u,A,some ⟨2*u.aS.last.length+i,run,d,f⟩,tot,none⟩=match r with
    | .fail t e=>⟨u,A,none,tot++t,some e⟩
    | .fin t=>⟨u,A,none,tot++t,none⟩
    | .go t L=>⟨u,A,some L,tot++t,none⟩:=fun r B=>by
    show dN _ _=_;unfold dN
    show(match gY u.aS ⟨2*u.aS.last.length+i,run,d,f⟩with
     | .fail t e=>_
     | .fin t=>_
     | .go t L=>_)=_
    rw[B]
   cases l with
   |nil=>
    have E:i+1=u.aS.last.length:=E;rw[if_pos jO]at m;rw[B 0];by_cases o:k=4
    ·rw[if_pos o]at m;have:=s _ m;dsimp only at this;subst o;show∃j n,j<=1∧_;exact⟨1,t,ah _,cY.last rfl (by rw[this]) (by rw[this])⟩
    ·rw[if_neg o]at m;have Y:cU k (if k=0 then 0 else g) []= .ok []:=if_neg o;rw[Y];show if iC (f++(t++[]))=u.aS.sum then _ else _
     rw[bR];by_cases D:iC (f++t)=u.aS.sum
     ·rw[if_pos D]at m;have:=s _ m;dsimp only at this;rw[if_pos D];intro K v x h;rw[show [b].length+K=K+1 by rw[List.length_singleton];omega];exact cY.more rfl (by rw[this]) (by rw[this];exact h)
     ·rw[if_neg D]at m;have:=s _ m;dsimp only at this;rw[if_neg D];exact⟨1,t,ah _,cY.last rfl (by rw[this]) (by rw[this])⟩
   |cons c l=>
    have E:i+(l.length+1+1)=u.aS.last.length:=E;rw[if_neg jO]at m;have q:=s _ m;dsimp only at q;have y:=Y4 (u:=u) (A:=A) (c::l) (i+1) k g (f++t) (tot++t) P jS (by rw[cK];omega);have B:=B g;rw[show(if k=0 then g else g)=g by split<;>rfl]at B;rw[B];rw[show 2*u.aS.last.length+(i+1)=2*u.aS.last.length+i+1 by omega]at y;cases T:cU k g (c::l)with
    |error e=>rw[T]at y;obtain⟨j,n,W,N⟩:=y;exact⟨j+1,t++n,by rw[cK];omega,cY.more rfl (by rw[q]) (by rw[q];exact N)⟩
    |ok J=>
     rw[T]at y;dsimp only at y;show if iC (f++(t++J))=u.aS.sum then _ else _
     rw[<-dY f t J];by_cases D:iC (f++t++J)=u.aS.sum
     ·rw[if_pos D]at y⊢;intro K v x h;have:=y K v x (by rw[dY];exact h);rw[show(b::c::l).length+K=((c::l).length+K)+1 by rw[cK (a:=b)];omega,dY];exact cY.more rfl (by rw[q]) (by rw[q];exact this)
     ·rw[if_neg D]at y⊢;obtain⟨j,n,W,N⟩:=y;exact⟨j+1,t++n,by rw[cK (a:=b)];omega,cY.more rfl (by rw[q]) (by rw[q];exact N)⟩
  by_cases o:run=4
  ·by_cases G:251<b
   ·have C:iS run d b=none:=by unfold iS;rw[if_pos o,if_pos G]
    rw[o,La 0 d b l,if_pos G]
    have m:gY u.aS ⟨2*u.aS.last.length+i,4,d,f⟩= .fail [] 25:=by unfold gY;rw[R];dsimp only;rw[<-o,C]
    have q:hY S Z ⟨u,A,some ⟨2*u.aS.last.length+i,4,d,f⟩,tot,none⟩=⟨u,A,none,tot++[],some 25⟩:=by
     show dN _ _=_;unfold dN
     show(match gY u.aS ⟨2*u.aS.last.length+i,4,d,f⟩with
      | .fail t e=>_
      | .fin t=>_
      | .go t L=>_)=_
     rw[m]
    exact⟨1,[],by rw[cK];omega,cY.last rfl (by rw[q]) (by rw[q])⟩
   ·have C:iS run d b=some (bQ b d,0,0):=by unfold iS;rw[if_pos o,if_neg G]
    refine step _ _ _ C fun p=> ?_;rw[o,La p d b l,if_neg G,if_pos rfl]
  ·have C:iS run d b=some ([b],if 0<run∧b=d then run+1 else 1,b):=by unfold iS;rw[if_neg o]
   refine step _ _ _ C fun p=> ?_;have O:¬(if 0<run∧b=d then run+1 else 1)=0:=by split<;>omega
   rw[if_neg O,KS,if_neg o];cases cU (if 0<run∧b=d then run+1 else 1) b l<;>rfl
theorem Y5{u:Us}{A:Nat}{tot:List Nat}(ok:lT u.aS.last u.aS.bH):match fD u.aS with
 | .ok t=>∀K b d,cY S Z K ⟨u,A,none,tot++t,none⟩ b d->cY S Z (3*u.aS.last.length+K) ⟨u,A,some mA,tot,none⟩ (t++b) d
 | .error e=>∃j a,j<=3*u.aS.last.length∧cY S Z j ⟨u,A,some mA,tot,none⟩ a e:=by
 have i:=ok.pos;have g:(fW u.aS.last u.aS.bH u.aS.last.length).length=u.aS.last.length:=zV _ _ _;have y:=Y4 (S:=S) (Z:=Z) (u:=u) (A:=A) (fW u.aS.last u.aS.bH u.aS.last.length) 0 0 0 [] tot rfl (fun q=>by rw[q]at g;rw[<-g]at i;exact absurd i jD) jO;have z:=fun K t e=>akT (S:=S) (Z:=Z) (u:=u) (A:=A) (tot:=tot) (2*u.aS.last.length) 0 0 0 [] jO K t e;rw[fy]at z;rw[jd]at y;unfold fD;cases e:cU 0 0 (fW u.aS.last u.aS.bH u.aS.last.length)with
 |error l=>rw[e]at y;obtain⟨j,a,k,f⟩:=y;exact⟨2*u.aS.last.length+j,a,jO,z j _ _ f⟩
 |ok t=>
  rw[e]at y;dsimp only at y⊢;rw[kQ]at y;by_cases c:iC t=u.aS.sum
  ·rw[if_pos c]at y⊢;intro K b d h;have:=z _ _ _ (y K b d h);rw[g]at this;rw[show 3*u.aS.last.length+K=2*u.aS.last.length+(u.aS.last.length+K) by omega];exact this
  ·rw[if_neg c]at y⊢;obtain⟨j,a,k,f⟩:=y;exact⟨2*u.aS.last.length+j,a,jO,z j _ _ f⟩
def jr(s:Is)(tot:List Nat):Xc:=⟨s.u,s.A,none,tot,none⟩
theorem akU{k:Nat}{s:Is}{t:List Nat}{e:Int}(G:Z<=200)(r:cr S Z k s t e):∀tot,∃K z,cY S Z K (jr s tot) (t++z) e∧(e=0->z=[])∧K<=mW Z (ar S 0 s.A).length s.u:=by
 have X:∀s:Is,1<=mW Z (ar S 0 s.A).length s.u∨s.u.due=2:=fun s=>by
  by_cases d:s.u.due=2
  ·exact .inr d
  ·rw[mX d];exact .inl jO
 have T:∀s:Is,jR S Z s->1<=mW Z (ar S 0 s.A).length s.u:=fun s f=>by
  rcases X s with h|d
  ·exact h
  ·obtain⟨b,hb,_⟩:=f.us.ok.b2 d;rw[ED d hb];unfold kK;split
   ·omega
   ·split<;>omega
 have N:∀s:Is,jR S Z s->(s.A+(ar S 0 s.A).length)%8=0:=fun s f=>by have:=f.rest;have:=f.hi;omega
 induction r with
 |@stop s e f h=>
  intro tot;have x:=T s f;unfold iE at h;by_cases c:s.u.may=true∧(ar S 0 s.A).length=0
  ·rw[if_pos c]at h;cases h
   have i:hY S Z (jr s tot)={jr s tot with fin:=some 0}:=by show lB S Z (jr s tot)=_;unfold lB;exact if_pos c
   exact⟨1,[],cY.last rfl (by rw[i];exact(bR _).symm) (by rw[i]),fun _=>rfl,x⟩
  rw[if_neg c]at h;unfold sw at h
  have m:lB S Z (jr s tot)=match c8 Z s.u s.A (ar S 0 s.A)with
   | .short=>{jr s tot with fin:=some 24}
   | .bad e=>{jr s tot with fin:=some e}
   | .ok (v,g) w=>{jr s tot with u:=g,A:=s.A+w,op:=if v=1 then some mA else none}:=by
   unfold lB;exact if_neg c
  cases o:c8 Z s.u s.A (ar S 0 s.A)with
  |short=>rw[o]at h m;cases h;have i:hY S Z (jr s tot)={jr s tot with fin:=some 24}:=m;exact⟨1,[],cY.last rfl (by rw[i];exact(bR _).symm) (by rw[i]),fun _=>rfl,x⟩
  |bad e0=>rw[o]at h m;cases h;have i:hY S Z (jr s tot)={jr s tot with fin:=some e}:=m;exact⟨1,[],cY.last rfl (by rw[i];exact(bR _).symm) (by rw[i]),fun _=>rfl,x⟩
  |ok a w=>
   obtain⟨v,g⟩:=a;rw[o]at h m;dsimp only at h m;unfold iD at h;by_cases B:v=1
   ·rw[if_pos B]at h m;obtain⟨_,_,O,_,_⟩:=wV f.us o (N s f);obtain⟨⟨C,_⟩,_,_⟩:=O B;have J:=Y3 f.us G o (N s f);rw[if_pos B]at J;have i:hY S Z (jr s tot)=⟨g,s.A+w,some mA,tot,none⟩:=m;have P:(s.took g w).u=g:=rfl;rw[P]at h;have y:=Y5 (S:=S) (Z:=Z) (u:=g) (A:=s.A+w) (tot:=tot) C;cases E:fD g.aS with
    |ok t=>rw[E]at h;cases h
    |error e3=>rw[E]at h y;cases h;obtain⟨j,W,hj,p⟩:=y;have Y:=KW E;exact⟨j+1,W,cY.more (t1:=[]) rfl (by rw[i];exact(bR _).symm) (by rw[i];exact p),fun q=>by omega,jO⟩
   ·rw[if_neg B]at h;split at h<;>cases h
 |@go k s L t e f h r U=>
  intro tot;have x:=T s f;unfold iE at h;by_cases c:s.u.may=true∧(ar S 0 s.A).length=0
  ·rw[if_pos c]at h;cases h
  rw[if_neg c]at h;unfold sw at h
  have m:lB S Z (jr s tot)=match c8 Z s.u s.A (ar S 0 s.A)with
   | .short=>{jr s tot with fin:=some 24}
   | .bad e=>{jr s tot with fin:=some e}
   | .ok (v,g) w=>{jr s tot with u:=g,A:=s.A+w,op:=if v=1 then some mA else none}:=by
   unfold lB;exact if_neg c
  have l:qI S Z s=match c8 Z s.u s.A (ar S 0 s.A)with
   | .ok (v,g) _=>if v=1 then(match fD g.aS with
     | .ok t=>t
     | .error _=>[])else []
   |_=>[]:=rfl
  cases o:c8 Z s.u s.A (ar S 0 s.A)with
  |short=>rw[o]at h;cases h
  |bad e0=>rw[o]at h;cases h
  |ok a w=>
   obtain⟨v,g⟩:=a;rw[o]at h m l;dsimp only at h m l;obtain⟨w1,_,O,_,_⟩:=wV f.us o (N s f);have J:=Y3 f.us G o (N s f);have n:(ar S 0 (s.A+w)).length=(ar S 0 s.A).length-w:=by rw[fi,fi];omega
   unfold iD at h;by_cases B:v=1
   ·rw[if_pos B]at h m J l;obtain⟨⟨C,_⟩,_,_⟩:=O B;have i:hY S Z (jr s tot)=⟨g,s.A+w,some mA,tot,none⟩:=m;have P:(s.took g w).u=g:=rfl;rw[P]at h;have y:=Y5 (S:=S) (Z:=Z) (u:=g) (A:=s.A+w) (tot:=tot) C;cases E:fD g.aS with
    |error e3=>rw[E]at h;cases h
    |ok R=>rw[E]at h y l;cases h;dsimp only at y l;obtain⟨K,z,p,Q,D⟩:=U (tot++R);have p:cY S Z K ⟨g,s.A+w,none,tot++R,none⟩ (t++z) e:=p;have D:K<=mW Z (ar S 0 (s.A+w)).length g:=D;rw[n]at D;rw[l];refine⟨3*g.aS.last.length+K+1,z, ?_,Q,jO⟩;rw[dY];exact cY.more (t1:=[]) rfl (by rw[i];exact(bR _).symm) (by rw[i];exact y K _ _ p)
   ·rw[if_neg B]at h m J l;have i:hY S Z (jr s tot)=⟨g,s.A+w,none,tot,none⟩:=m
    have I:L.u=g∧L.A=s.A+w:=by
     split at h
     ·cases h;exact⟨rfl,rfl⟩
     ·cases h;unfold Is.begun;split<;>exact⟨rfl,rfl⟩
    obtain⟨K,z,p,Q,D⟩:=U tot;have p:cY S Z K ⟨L.u,L.A,none,tot,none⟩ (t++z) e:=p;rw[I.1,I.2]at p D;rw[n]at D;rw[l];refine⟨K+1,z, ?_,Q,jO⟩;exact cY.more (t1:=[]) rfl (by rw[i];exact(bR _).symm) (by rw[i];exact p)
def x0:Xc:=⟨zQ,0,none,[],none⟩
theorem canon(e:S.length<=200)(h1:24<=Z)(h2:Z<=200):∃K a,K<=93700∧cY S Z K x0 (pO S Z (S.length+1) 0++a) (oj S Z (S.length+1) 0).2∧((oj S Z (S.length+1) 0).2=0->a=[]):=by obtain⟨k,r⟩:=akO (S:=S) (Z:=Z) jO h1 jO;obtain⟨K,a,c,b,d⟩:=akU h2 r [];refine⟨K,a, ?_,c,b⟩;have:mW Z (ar S 0 zY.A).length zY.u=54*(ar S 0 0).length+7300:=mX jD;rw[this,fi]at d;omega
end
theorem akV{ln:List Nat}(w:Wh ln){bs:List Bool}(j:20<=bs.length):∃s,fC ln bs=some s:=by
 have b:∀i,i<=20->(∃s,fC ln bs=some s)∨lh ln bs i:=by
  intro i
  induction i with
  |zero=>intro _;exact .inr (by unfold lh bU;rw[zx w];exact aP _)
  |succ i e=>
   intro m;rcases e jO with h|EF
   ·exact .inl h
   ·have d:=EF.next (by omega:i<bs.length);by_cases a:num (bs.take (i+1)) 0<bU ln (i+1)+cn ln (i+1)
    ·obtain⟨s,hs⟩:=nN (ln:=ln) (bs:=bs) (n:=i+1) jO d a;rcases hs with ⟨g,c⟩|hs
     ·obtain⟨mt,f⟩:=c jO;exact .inl ⟨s,DI mt⟩
     ·omega
    ·exact .inr (by unfold lh;omega)
 rcases b 20 (ah _)with h|EF
 ·exact h
 ·have l:=w.full;have k:=hH (bs.take 20);unfold lh at EF;rw[l]at EF;rw[cO,Nat.min_eq_left j]at k;have:(2:Nat)^20=1048576:=rfl;omega
theorem Y6:∀(r o:Nat) (bs:List Bool),r<=bs.length->fj r o bs≠ .short
 |0,o,bs,_=>fun h=>by cases h
 |r+1,o,[],h=>absurd h (Nat.not_succ_le_zero _)
 |r+1,o,false::bs,_=>fun h=>by cases h
 |r+1,o,true::bs,h=>Y6 r (o+1) bs (by rw[cK]at h;omega)
theorem akW{c:Cd}{bs:List Bool}(k:gU c)(r:20<=bs.length)(t:c.took.length<=c.count/50∨∀v∈c.took,v<c.aZ.length∨c.pk.fin=false∨c.aZ.length<c.pk.t):dU c bs≠ .short:=by
 intro h;unfold dU at h;by_cases j:c.pk.fin=false
 ·rw[if_pos j]at h;cases e:cX c.pk bs with
  |bad e=>rw[e]at h;cases h
  |ok s u=>rw[e]at h;cases h
  |short=>
   unfold cX at e;split at e
   ·rw[if_neg jO]at e;split at e<;>cases e
   ·cases d:fj c.pk.t 0 bs with
    |short=>exact Y6 _ _ _ (by have:=k.fU;omega) d
    |bad x=>rw[d]at e;cases e
    |ok o u=>rw[d]at e;cases e
 ·rw[if_neg j]at h;by_cases n:c.aZ.length<c.pk.t
  ·rw[if_pos n]at h;cases e:stepT c bs with
   |bad e=>rw[e]at h;cases h
   |ok s u=>rw[e]at h;cases h
   |short=>
    unfold stepT at e;cases d:cZ c.now c.lens bs with
    |bad x=>rw[d]at e;cases e
    |ok a u=>
     obtain⟨m,l⟩:=a;rw[d]at e;dsimp only at e;split at e
     ·split at e<;>cases e
     ·cases e
    |short=>
     unfold cZ at d
     have p:∀m l u,jn m l u≠ .short:=fun m l u q=>by unfold jn at q;split at q<;>cases q
     split at d
     ·rw[if_neg jO]at d;exact p _ _ _ d
     ·match bs,r with
      |false::bs,_=>cases d
      |true::b::bs,_=>exact p _ _ _ d
  ·rw[if_neg n]at h;cases e:iM c bs with
   |bad e=>rw[e]at h;cases h
   |ok a u=>rw[e]at h;obtain⟨s,A⟩:=a;cases h
   |short=>
    unfold iM at e;by_cases f:c.took.length<=c.count/50
    ·rw[if_pos f]at e;cases e
    rw[if_neg f]at e
    have i:c.took.getD (c.count/50) 0∈c.took:=by rw[bw,bA jO];exact dH _
    have g:c.took.getD (c.count/50) 0<c.aZ.length:=by
     rcases t with q|q
     ·exact absurd q f
     ·rcases q _ i with q|q|q
      ·exact q
      ·exact absurd q j
      ·exact absurd q n
    have z:c.aZ.getD (c.took.getD (c.count/50) 0) []∈c.aZ:=by rw[bw (l:=c.aZ),bA g];exact dH _
    obtain⟨s,y⟩:=akV (k.wh _ z).1 r;rw[y]at e;cases e
theorem gU.bu{c:Cd}(k:gU c):∀v∈c.took,v<c.aZ.length∨c.pk.fin=false∨c.aZ.length<c.pk.t:=fun v a=>by
 by_cases b:c.pk.fin=false
 ·exact .inr (.inl b)
 ·by_cases d:c.aZ.length<c.pk.t
  ·exact .inr (.inr d)
  ·rw[k.tk (by simpa using b)]at a;have:=k.pk.bu v a;exact .inl jO
theorem Y7:∀(a:List Nat) (bs:List Bool) (acc:List Nat) (u:Nat),16*a.length<=bs.length->∃s v,gV a bs acc u= .ok s v
 |[],bs,acc,u,_=>⟨acc,u,rfl⟩
 |i::a,bs,acc,u,h=>by rw[cK]at h;unfold gV;rw[if_neg jO];exact Y7 a _ _ _ (by rw[bC];omega)
theorem akX{bs:List Bool}(h:272<=bs.length):fo bs≠ .short:=by
 intro q;unfold fo at q;rw[if_neg jO]at q
 have a:(hO (bs.take 16)).length<=16:=by unfold hO;have:=List.length_filter_le (fun i=>(bs.take 16).getD i false) (List.range 16);rw[List.length_range]at this;exact this
 obtain⟨s,v,e⟩:=Y7 (hO (bs.take 16)) (bs.drop 16) [] 16 (by rw[bC];omega);rw[e]at q;cases s<;>cases q
theorem akY{room A:Nat}{b:Bk}{bs:List Bool}(k:uE room A b)(h:272<=bs.length):db room b bs≠ .short:=by
 intro q
 have g:∀(b:Bk) (r:Rw) (u:Nat),fq b r u≠ .short:=fun b r u q=>by
  unfold fq at q;split at q
  ·split at q<;>cases q
  ·cases q
 unfold db at q;split at q
 ·rw[if_neg jO]at q;split at q<;>cases q
 ·cases c:b.row with
  |none=>
   rw[c]at q;dsimp only at q;cases e:fo bs with
   |short=>exact akX h e
   |bad x=>rw[e]at q;cases q
   |ok s u=>rw[e]at q;cases q
  |some r=>
   rw[c]at q;dsimp only at q;have f:=k.row r c;split at q
   ·exact g _ _ _ q
   ·next cw=>
    have i:r.cd.done=false:=by
     cases x:r.cd.done with
     |false=>rfl
     |true=>exact absurd (f.2.1 x) cw
    have ck:=f.1.cd i;cases e:iu r bs with
    |bad x=>rw[e]at q;cases q
    |ok j u=>rw[e]at q;exact g _ _ _ q
    |short=>
     unfold iu at e;cases d:dU r.cd bs with
     |short=>exact akW ck jO (.inr ck.bu) d
     |bad x=>rw[d]at e;cases e
     |ok a u=>
      obtain⟨sym,l⟩:=a;rw[d]at e;dsimp only at e;split at e
      ·cases e
      ·split at e<;>cases e
theorem akZ{Z A:Nat}{u:Us}{bs:List Bool}(k:mT Z A u)(h:272<=bs.length):c8 Z u A bs≠ .short:=by
 intro q
 have c:∀{d:Type} (w:Nat) (r:St d),sq w r= .short->r= .short:=fun w r q=>by
  cases r with
  |short=>rfl
  |bad e=>cases q
  |ok a u=>cases q
 unfold c8 at q;split at q
 ·have:=c _ _ q;unfold pF at this;rw[if_neg jO]at this;split at this
  ·split at this<;>cases this
  ·split at this<;>cases this
 ·split at q
  ·have:=c _ _ q;unfold qB at this;rw[if_neg jO]at this;split at this
   ·cases this
   ·split at this<;>cases this
  ·split at q
   ·next d2=>
    obtain⟨b,g,f⟩:=k.b2 d2;unfold pG at q;rw[g]at q;dsimp only at q;cases e:db (u.level*Z) b bs with
    |short=>exact akY f h e
    |bad x=>rw[e]at q;cases q
    |ok i w=>rw[e]at q;dsimp only at q;split at q<;>cases q
   ·have:=c _ _ q;unfold qC at this;rw[if_neg jO]at this;split at this<;>cases this
theorem wZ{c:Type}{a b:List c}{k:Nat}(h:k<=a.length):(a++b).take k=a.take k:=Ff h
theorem ak0{a b:List Bool}{i k:Nat}(h:i+k<=a.length):((a++b).drop i).take k=(a.drop i).take k:=by rw[Fe jO,Ff (by rw[bC];omega)]
theorem Y8(t:List Bool):∀(a:List Nat) (bs:List Bool) (acc:List Nat) (u:Nat),gV a bs acc u≠ .short->gV a (bs++t) acc u=gV a bs acc u
 |[],bs,acc,u,_=>rfl
 |i::a,bs,acc,u,h=>by
  unfold gV at h⊢;by_cases c:bs.length<16
  ·rw[if_pos c]at h;exact absurd rfl h
  ·rw[if_neg c]at h;rw[if_neg c,if_neg (by rw[bE];omega),wZ jO,Fe jO];exact Y8 t a _ _ _ h
theorem ak1{bs:List Bool}(t:List Bool)(h:fo bs≠ .short):fo (bs++t)=fo bs:=by
 unfold fo at h⊢;by_cases c:bs.length<16
 ·rw[if_pos c]at h;exact absurd rfl h
 ·rw[if_neg c]at h;rw[if_neg c,if_neg (by rw[bE];omega),wZ jO,Fe jO,Y8 t _ _ _ _ fun q=>h (by rw[q];rfl)]
theorem ak2{room:Nat}{b:Bk}{bs:List Bool}(t:List Bool)(h:db room b bs≠ .short):db room b (bs++t)=db room b bs:=by
 unfold db at h⊢;by_cases a:b.head=false
 ·rw[if_pos a]at h;rw[if_pos a,if_pos a];by_cases c:bs.length<57
  ·rw[if_pos c]at h;exact absurd rfl h
  ·rw[if_neg c,if_neg (by rw[bE];omega),wZ jO,ak0 jO]
   have:(bs++t).getD 32 false=bs.getD 32 false:=by rw[bw,List.getElem?_append_left jO,<-bw]
   rw[this]
 ·rw[if_neg a]at h;rw[if_neg a,if_neg a];cases e:b.row with
  |none=>rw[e]at h;dsimp only at h⊢;rw[ak1 t fun q=>h (by rw[q])]
  |some r=>
   rw[e]at h;dsimp only at h⊢;by_cases d:r.waits=true
   ·rw[if_pos d,if_pos d]
   ·rw[if_neg d]at h;rw[if_neg d,if_neg d]
    have:iu r (bs++t)=iu r bs:=by unfold iu;rw[ah1 t fun q=>h (by unfold iu;rw[q])]
    rw[this]
theorem ak3{Z A:Nat}{u:Us}{bs:List Bool}(t:List Bool)(h:c8 Z u A bs≠ .short):c8 Z u A (bs++t)=c8 Z u A bs:=by
 have g:∀{i:Type} (w:Nat) (r:St i),sq w r≠ .short->r≠ .short:=fun w r q e=>q (by rw[e];rfl);unfold c8 at h⊢;by_cases f:u.due=0
 ·rw[if_pos f]at h;rw[if_pos f,if_pos f];have h:=g _ _ h;unfold pF at h⊢;by_cases c:bs.length<8
  ·rw[if_pos c]at h;exact absurd rfl h
  ·rw[if_neg c,if_neg (by rw[bE];omega),wZ jO]
 ·rw[if_neg f]at h;rw[if_neg f,if_neg f];by_cases d:u.due=1
  ·rw[if_pos d]at h;rw[if_pos d,if_pos d];have h:=g _ _ h;unfold qB at h⊢;by_cases c:bs.length<48
   ·rw[if_pos c]at h;exact absurd rfl h
   ·rw[if_neg c,if_neg (by rw[bE];omega),wZ jO]
  ·rw[if_neg d]at h;rw[if_neg d,if_neg d];by_cases a:u.due=2
   ·rw[if_pos a]at h;rw[if_pos a,if_pos a];unfold pG at h⊢;cases j:u.bc with
    |none=>rfl
    |some b=>rw[j]at h;dsimp only at h⊢;rw[ak2 t fun q=>h (by rw[q])]
   ·rw[if_neg a]at h;rw[if_neg a,if_neg a];have h:=g _ _ h;unfold qC at h⊢;by_cases c:bs.length<32
    ·rw[if_pos c]at h;exact absurd rfl h
    ·rw[if_neg c,if_neg (by rw[bE];omega),wZ jO]
theorem Y9(x:UInt8):∀k,ZF [x] k=bQ k x
 |0=>rfl
 |k+1=>by show [x]++ZF [x] k=_;rw[Y9 x k];rfl
def oq(run a:Nat):AB:=⟨255,true,[.int .u8 (a:Int),jI (run:Int)]⟩
section
variable {Y d n:Nat} {h:H}
theorem ak4(c k:Nat)(i:k<=1000):af (fun _=>False) n (aj aa gt Y (d+1) 183 #[.string ⟨(bS [c]).toArray⟩,jI (k:Int)]) h n fun a h' n'=>a= .string ⟨(bS (bQ k c)).toArray⟩∧h'=h∧n'=n:=by
 have e:aj aa gt Y (d+1) 183 #[.string ⟨(bS [c]).toArray⟩,jI (k:Int)]=xx ⟨(bS [c]).toArray⟩ (k:Int):=jK;rw[e];unfold xx
 rw[if_pos (by
  have g:decide ((0:Int)<=(k:Int))=true:=decide_eq_true jO;have f:decide ((k:Int)<=1000000)=true:=decide_eq_true jO;have b:decide ((⟨(bS [c]).toArray⟩:ByteArray).size<=1000000)=true:=decide_eq_true (show(1:Nat)<=1000000 by decide)
  rw[g,f,b];rfl)]
 rw[kE,cR];refine⟨?_,rfl,rfl⟩;congr 2;show(ZF [gP c] k).toArray=_;rw[Y9];unfold bS;rw[List.map_replicate]
theorem ak5:af (fun _=>False) n (aj aa gt Y (d+1) 153 #[]) h n fun a h' n'=>a=jP n 0∧n'=n+1∧h'.get n=some (oq 0 0)∧∀b,b≠n->h'.get b=h.get b:=by rw[aC (fun _=>SB) rfl];refine af.aB ?_;unfold Io;refine jB ?_;refine gu trivial _ _ ?_;rw[k8];exact⟨rfl,rfl,get_eq _ _ _,fun b c=>aw _ _ c⟩
theorem Y'{a run b:Nat}(g:h.get a=some (oq run b))(i:a<n):af (fun _=>False) n (aj aa gt Y (d+1) 182 #[jP a 0]) h n fun f h' n'=>f= .bool (decide (run=4))∧h'=h∧n'=n:=by
 unfold oq at g;rw[aC (fun _=>Tx) rfl];refine af.aB ?_;unfold IM
 have e:(((run:Nat):Int)==4)=decide (run=4):=by
  by_cases c:run=4
  ·rw[decide_eq_true c,c];rfl
  ·rw[decide_eq_false c];exact beq_eq_false_iff_ne.2 jO
 exact jC (aI @g @e)
def Za(a n:Nat)(h:H)(run f b:Nat)(g:Value)(h':H)(n':Nat):Prop:=n<=n'∧(∀c,c<n->c≠a->h'.get c=h.get c)∧match iS run f b with
 |none=>g= .tuple #[.string ⟨#[]⟩,.int .i64 25]
 |some (t,e,d)=>g= .tuple #[.string ⟨(bS t).toArray⟩,.int .i64 0]∧h'.get a=some (oq e d)
theorem ak6{a run f b:Nat}(g:h.get a=some (oq run f))(A:a<n)(N:run<=4)(O:f<256)(P:b<256)(L:run=0->f=0):af (fun c=>c=a) n (aj aa gt Y (d+2) 149 #[jP a 0,.int .u8 (b:Int)]) h n (Za a n h run f b):=by
 have I:=g;unfold oq at g
 have one:∀(s:H) (y:Nat) (k j:Nat),n<=y->(∀c,c<n->c≠a->s.get c=h.get c)->s.get a=some (oq k j)->iS run f b=some ([b],k,j)->af (fun c=>c=a) n (bO 5 1 (.int .u8 (b:Int)) fun d=>iI d fun e=>ag [e,(jI 0)]) s y (Za a n h run f b):=fun s y k j E G J z=>by refine vI trivial (kF _ _) _ ?_;refine wx (ws:=[b]) (get_eq _ _ _) (dO _) jS rfl _ ?_;rw[xW];refine⟨jO,fun c B i=>by rw[aw _ _ jO];exact G c B i, ?_⟩;rw[z];exact⟨rfl,by rw[aw _ _ jO];exact J⟩
 rw[aC (fun _=>Su) rfl];refine af.aB ?_;unfold Ik;refine jB ?_;refine bz (Y' (Y:=Y) (d:=d) I A) (ah n) (fun _ _ h=>h.elim) ?_;by_cases l:run=4
 ·rw[decide_eq_true l];by_cases D:251<b
  ·have u:(251:Int)<((b:Nat):Int):=jO;refine jA @u ?_;refine⟨ah n,fun c _ _=>rfl, ?_⟩;unfold iS;rw[if_pos l,if_pos D]
  ·have u:¬(251:Int)<((b:Nat):Int):=jO;refine jA (aI @u @g) ?_;refine vI trivial (kF _ _) _ ?_;refine wx (ws:=[f]) (get_eq _ _ _) (dO _) jS rfl _ ?_;have x:IntKind.i64.wrap ((b:Nat):Int)=((b:Nat):Int):=aH jO jO;refine jA @x ?_;refine bz (ak4 (Y:=Y) (d:=d) f b jO) (eL n) (fun _ _ h=>h.elim) ?_;refine jB ?_;refine cq (W:=fun c=>c=a) (sz:=2) trivial (vs:=[.int .u8 0,jI 0]) rfl rfl rfl ((aw _ _ jO).trans g) jO (.inr rfl) _ fun r o m=> ?_;rw[xW];refine⟨jO,fun c B i=>by rw[m c i,aw _ _ jO], ?_⟩;unfold iS;rw[if_pos l,if_neg D];exact⟨rfl,o⟩
 ·rw[decide_eq_false l];by_cases K:run=0
  ·subst K;have p:¬(0:Int)<((0:Nat):Int):=jD;refine jA (aI @g @p) ?_;refine cq (W:=fun c=>c=a) (sz:=2) trivial (vs:=[.int .u8 (b:Int),jI 1]) rfl rfl rfl g A (.inr rfl) _ fun r o m=> ?_;refine one r n 1 b (ah n) (fun c _ i=>m c i) o ?_;unfold iS;rw[if_neg jO,if_neg jO]
  ·have p:(0:Int)<((run:Nat):Int):=jO;by_cases C:b=f
   ·subst C;have t:(((b:Nat):Int)==((b:Nat):Int))=true:=beq_iff_eq.2 rfl;have x:IntKind.i64.wrap (((run:Nat):Int)+1)=((run+1:Nat):Int):=by rw[aH jO jO];rfl
    have v:((run:Nat):Int)+1=((run+1:Nat):Int):=rfl;refine jA (aI @g (aI @p (aI @t (aI @x @v)))) ?_;refine one _ n (run+1) b (ah n) (fun c _ i=>aw _ _ i) (get_eq _ _ _) ?_;unfold iS;rw[if_neg l,if_pos ⟨jO,rfl⟩]
   ·have t:(((f:Nat):Int)==((b:Nat):Int))=false:=beq_eq_false_iff_ne.2 jO;refine jA (aI @g (aI @p @t)) ?_;refine cq (W:=fun c=>c=a) (sz:=2) trivial (vs:=[.int .u8 (b:Int),jI 1]) rfl rfl rfl g A (.inr rfl) _ fun r o m=> ?_;refine one r n 1 b (ah n) (fun c _ i=>m c i) o ?_;unfold iS;rw[if_neg l,if_neg (fun q=>C q.2)]
theorem ak7{a run b:Nat}(g:h.get a=some (oq run b))(f:a<n):af (fun c=>c=a) n (aj aa gt Y (d+2) 185 #[jP a 0]) h n fun i h' n'=>i=jI (if run=4 then 24 else 0)∧n'=n∧∀c,c≠a->h'.get c=h.get c:=by
 have k:=g;unfold oq at g;rw[aC (fun _=>Tz) rfl];refine af.aB ?_;unfold IQ;refine jB ?_;refine bz (Y' (Y:=Y) (d:=d) k f) (ah n) (fun _ _ h=>h.elim) ?_;by_cases e:run=4
 ·rw[decide_eq_true e,if_pos e];refine jB ?_;exact fun _ _=>trivial
 ·rw[decide_eq_false e,if_neg e];refine jB ?_;refine cq (W:=fun c=>c=a) (sz:=2) trivial (vs:=[.int .u8 0,jI 0]) rfl rfl rfl g f (.inr rfl) _ fun l m j=> ?_;rw[k8];exact⟨rfl,rfl,j⟩
end
section
variable {β:Type} {W:Nat->Prop} {n0:Nat} {h:H} {n:Nat} {Q:β->H->Nat->Prop}
theorem ak8{T p:Prop}(_:T)(_:p){sz:Nat}(b off:Nat)(k:Value×Tk->M β){B:AB}(j:h.get b=some B)(l:b<n)(i:off+sz<=B.cells.length)(x:∀T,(∀e∈T.log,e.wr=false∧e.b=b)->T.n=n->T.n1=n->af W n0 (k (.agg ((B.cells.drop off).take sz).toArray,T)) h n Q):
 af W n0 ((az (aT sz (jP b off) M.ret)).bind k) h n Q:=by
 obtain⟨L,o,m⟩:=DG (n:=n) j l sz off i
 have e:((ig b off sz).bind fun g=>M.ret (mC ⟨g⟩)) h n=some ⟨.agg ((B.cells.drop off).take sz).toArray,h,n,L++[]⟩:=by rw[mM];exact bX o rfl
 have f:=o9 e;rw[bR]at f;have d:∀y∈L.filter (fun e=> !(decide (n<=e.b)&&decide (e.b<n))),y.wr=false∧y.b=b:=fun y a=>m y (List.mem_filter.1 a).1;exact mj f (ah _) (fun y a c=>by rw[(d y a).1]at c;cases c) (x _ d rfl rfl)
theorem Zb{a b:Tk}(h1:∀e∈a.log,e.wr=false)(h2:∀e∈b.log,e.wr=false)(g:∀e∈a.log,e.b<b.n)(h:a.n1<=a.n):cz a b=false:=by
 rw[vw];unfold Tk.cA;simp only[Bool.or_eq_false_iff,List.any_eq_false,bW,decide_eq_true_eq,not_and];refine⟨⟨⟨fun x c d=> ?_,fun x c d=> ?_⟩,fun x c f=> ?_⟩,fun x c f=> ?_⟩
 ·rw[h1 x c]at d;cases d
 ·rw[h2 x c]at d;cases d
 ·have:=g x c;omega
 ·omega
end
structure Om where
 ia:Nat
 lb:Nat
 ua:Nat
 sa:Nat
def sC(g:Gt)(m:Om):AB:=⟨139,true,[.string ⟨(bS g.last).toArray⟩,jI (g.bH:Int),.int .u32 (g.sum:Int),jP m.ia 0,jP m.ua 0,jP m.sa 0]⟩
structure mZ (h:H) (n:Nat) (L:Nat->Nat) (a:Nat) (m:Om) (g:Gt) (o:jU):Prop where
 get:h.get a=some (sC g m)
 lt:a<n
 la:L a=13
 inv:gN h n m.ia g.last g.bH o.k m.lb (.slice none 0 0) []
 li:L m.ia=14
 ll:L m.lb=15
 un:h.get m.ua=some (oq o.run o.prev)
 ult:m.ua<n
 lu:L m.ua=16
 sm:oi h n m.sa (o.mz.foldl jQ 4294967295)
 ls:L m.sa=17
 r4:o.run<=4
 p8:o.prev<256
 r0:o.run=0->o.prev=0
 k3:o.k<=3*g.last.length
def WO(L:Nat->Nat):Nat->Prop:=fun c=>14<=L c∧L c<=17
theorem mZ.au{h h':H}{n n':Nat}{L L':Nat->Nat}{a:Nat}{m:Om}{g:Gt}{o:jU}(x:mZ h n L a m g o)(f:n<=n')(e:∀c,c<n->L' c=L c)(d:∀c,c<n->13<=L c->L c<=17->h'.get c=h.get c):mZ h' n' L' a m g o:=
 ⟨(d _ x.lt (by rw[x.la];decide) (by rw[x.la];decide)).trans x.get,fP x.lt f,(e _ x.lt).trans x.la,
   x.inv.au f (d _ x.inv.lt (by rw[x.li];decide) (by rw[x.li];decide)) (d _ x.inv.su (by rw[x.ll];decide) (by rw[x.ll];decide)) (fun b i=>i.not_nil.elim),
   (e _ x.inv.lt).trans x.li,(e _ x.inv.su).trans x.ll,(d _ x.ult (by rw[x.lu];decide) (by rw[x.lu];decide)).trans x.un,fP x.ult f,(e _ x.ult).trans x.lu,
   ⟨(d _ x.sm.lt (by rw[x.ls];decide) (by rw[x.ls];decide)).trans x.sm.get,fP x.sm.lt f,x.sm.sm⟩,(e _ x.sm.lt).trans x.ls,x.r4,x.p8,x.r0,x.k3⟩
theorem ak9{run d b c a:Nat}{t:List Nat}(i:run<=4)(g:d<256)(f:b<256)(h:iS run d b=some (t,c,a)):c<=4∧a<256∧(c=0->a=0)∧By t∧t.length<=251:=by
 unfold iS at h;split at h
 ·split at h
  ·cases h
  ·cases h;refine⟨aP _,jD,fun _=>rfl,fun x e=> ?_,by rw[jX];omega⟩;rw[(List.mem_replicate.1 e).2];exact g
 ·cases h;refine⟨by split<;>omega,f,fun q=> ?_,fun x e=> ?_,jS⟩
  ·exfalso;split at q<;>omega
  ·rw[List.mem_singleton.1 e];exact f
def Lg(L:Nat->Nat)(a:Nat)(m:Om)(g:Gt)(o:jU)(b:Value)(h':H)(n':Nat):Prop:=match gY g o with
 | .fail t e=>b= .tuple #[.string ⟨(bS t).toArray⟩,.int .i64 e]∧By t∧t.length<=251
 | .fin t=>b= .tuple #[.string ⟨(bS t).toArray⟩,.int .i64 0]∧(h'.get a=some (sC g m)∧gN h' n' m.ia g.last g.bH (3*g.last.length) m.lb (.slice none 0 0) [])∧By t∧t.length<=251
 | .go t c=>b= .tuple #[.string ⟨(bS t).toArray⟩,.int .i64 0]∧mZ h' n' L a m g c∧By t∧t.length<=251∧c.k<3*g.last.length
section
variable {Y d n a:Nat} {h:H} {L:Nat->Nat} {m:Om} {g:Gt} {o:jU}
theorem ak'(x:mZ h n L a m g o)(ok:lT g.last g.bH):af (WO L) n (aj aa gt Y (d+3) 151 #[jP a 0]) h n fun i h' n'=>n'=n∧(∀c,c≠m.ua->h'.get c=h.get c)∧if o.k=3*g.last.length then(if o.run=4 then i=jI 25 else if iC o.mz=g.sum then i=jI 0 else i=jI 21)else i=jI 0∧h'=h:=by
 have j:=x.get;have v:=x.lt;unfold sC at j;rw[aC (fun _=>Sz) rfl];refine af.aB ?_;unfold Il;refine jA @j ?_;refine bz (zT (Y:=Y) (d:=d+1) x.inv ok x.k3) (ah n) (fun _ _ h=>h.elim) ?_;by_cases c:o.k=3*g.last.length
 ·rw[decide_eq_true c];simp only[if_pos c];refine jA @j ?_;refine aN aE (ak7 (Y:=Y) (d:=d) x.un x.ult) (ah n) (fun b _ E=> .inr (by rw[E];show 14<=L m.ua∧L m.ua<=17;rw[x.lu];decide)) fun K G C D I p=> ?_;obtain⟨rfl,rfl,f⟩:=p;have A:a≠m.ua:=fun q=>by have:=x.la;rw[q,x.lu]at this;cases this
  have B:m.sa≠m.ua:=fun q=>by have:=x.ls;rw[q,x.lu]at this;cases this
  have e:=(f a A).trans j;by_cases y:o.run=4
  ·simp only[if_pos y];have z:((24:Int) !=0)=true:=rfl;refine jA @z ?_;exact f
  ·simp only[if_neg y];have z:((0:Int) !=0)=false:=rfl;have l:oi G C m.sa (o.mz.foldl jQ 4294967295):=⟨(f _ B).trans x.sm.get,x.sm.lt,x.sm.sm⟩;have u:=ajl (Y:=Y) (d:=d+1) l;have J:iC o.mz=4294967295-o.mz.foldl jQ 4294967295:=rfl;rw[J];generalize 4294967295-o.mz.foldl jQ 4294967295=q at u⊢;refine jA (aI @z @e) ?_;refine lN trivial a 5 _ e v rfl fun Q N=> ?_;refine jB ?_;refine lO aE u (ah _) fun P t=> ?_;refine jB ?_;refine lN trivial a 2 _ e v rfl fun O s=> ?_;by_cases r:q=g.sum
   ·have k:(((q:Nat):Int) !=((g.sum:Nat):Int))=false:=by rw[r];exact bne_self_eq_false _
    simp only[if_pos r];try simp(disch:=first|omega|assumption) only[Nat.reduceAdd,Nat.reduceLT,RZ,k,t.cA s,cx,eA,dQ]
    exact f
   ·have k:(((q:Nat):Int) !=((g.sum:Nat):Int))=true:=by rw[bne_iff_ne];omega
    simp only[if_neg r];try simp(disch:=first|omega|assumption) only[Nat.reduceAdd,Nat.reduceLT,RZ,k,t.cA s,cx,eA,dQ]
    exact f
 ·rw[decide_eq_false c];simp only[if_neg c];refine jB ?_;exact fun _ _=>trivial
theorem ak_(l:List Nat)(a s:Nat):pI l a s 1=iz l a s:=by simp[pI]
theorem ala(x:mZ h n L a m g o)(ok:lT g.last g.bH)(hs:g.sum<4294967296)(hk:o.k<3*g.last.length)(v7:3000000<=Y):af (WO L) n (aj aa gt Y (d+4) 116 #[jP a 0]) h n (Lg L a m g o):=by
 have ga:=x.get;have ha:=x.lt;unfold sC at ga;have E:m.ua≠m.ia:=fun q=>by have:=x.lu;rw[q,x.li]at this;cases this
 have D:m.ua≠m.lb:=fun q=>by have:=x.lu;rw[q,x.ll]at this;cases this
 have J:m.sa≠m.ia:=fun q=>by have:=x.ls;rw[q,x.li]at this;cases this
 have I:m.sa≠m.lb:=fun q=>by have:=x.ls;rw[q,x.ll]at this;cases this
 have G:m.sa≠m.ua:=fun q=>by have:=x.ls;rw[q,x.lu]at this;cases this
 have R:a≠m.ia:=fun q=>by have:=x.la;rw[q,x.li]at this;cases this
 have Q:a≠m.lb:=fun q=>by have:=x.la;rw[q,x.ll]at this;cases this
 have P:a≠m.ua:=fun q=>by have:=x.la;rw[q,x.lu]at this;cases this
 have u6:a≠m.sa:=fun q=>by have:=x.la;rw[q,x.ls]at this;cases this
 have O:m.ia≠m.ua:=fun q=>E q.symm;have N:m.lb≠m.ua:=fun q=>D q.symm;have u5:m.ia≠m.sa:=fun q=>J q.symm;have u4:m.lb≠m.sa:=fun q=>I q.symm;have u3:m.ua≠m.sa:=fun q=>G q.symm;have wi:WO L m.ia:=by show 14<=L m.ia∧L m.ia<=17;rw[x.li];decide
 have wl:WO L m.lb:=by show 14<=L m.lb∧L m.lb<=17;rw[x.ll];decide
 have wu:WO L m.ua:=by show 14<=L m.ua∧L m.ua<=17;rw[x.lu];decide
 have ws:WO L m.sa:=by show 14<=L m.sa∧L m.sa<=17;rw[x.ls];decide
 rw[aC (fun _=>Ri) rfl];refine af.aB ?_;unfold HM;refine jA @ga ?_;have st:=ajc (Y:=Y) (d:=d) x.inv ok x.k3 1 jD jS v7;rw[show min 1 (3*g.last.length-o.k)=1 by omega,ak_,kQ]at st
 refine aN aE st (ah n) (fun b _ hb=> .inr (by
  rcases hb with rfl|rfl|hb
  ·exact wi
  ·exact wl
  ·exact hb.not_nil.elim)) fun v1 h1 n1 u w1 v6=> ?_
 obtain⟨rfl,w4,x1,_⟩:=v6
 have A:∀b,b<n->b≠m.ia->b≠m.lb->h1.get b=h.get b:=fun b hb h2 X=>w1 b hb fun q=>by
  rcases q with q|q|q
  ·exact h2 q
  ·exact X q
  ·exact q.not_nil.elim
 have w0:=(A a ha R Q).trans ga;have W:a<n1:=jO;refine jA @w0 ?_;refine aN aE (ajb (Y:=Y) (d:=d+2) x1) u (fun b _ hb=> .inr (by rw[hb];exact wi)) fun v2 h2 n2 w7 x8 v0=> ?_;obtain⟨rfl,rfl,x2,k2⟩:=v0;have jx:∀b,b<n->b≠m.ia->b≠m.lb->h2.get b=h.get b:=fun b hb Z X=>(k2 b Z).trans (A b hb Z X);have v:=(jx a ha R Q).trans ga;have u0:=(jx m.ua x.ult E D).trans x.un;have l:oi h2 n2 m.sa (o.mz.foldl jQ 4294967295):=⟨(jx _ x.sm.lt J I).trans x.sm.get,fP x.sm.lt u,x.sm.sm⟩;unfold Lg gY
 have tb:iz g.last g.bH o.k=[]∨∃b,iz g.last g.bH o.k=[b]∧b<256∧2*g.last.length<=o.k:=by
  unfold iz;split
  ·refine .inr ⟨_,rfl,ok.iw.at (uG ok.iw ok.cF _),by assumption⟩
  ·exact .inl rfl
 rcases tb with e|⟨b,e,hb,x3⟩
 ·rw[e];dsimp only
  have w3:∀K:Value->M Value,cD (.string ⟨(bS []).toArray⟩) (aO {data:=#[]}) K=K (.bool true):=fun K=>by have:=vF (k:=K) (bS []) [];rw[show(aO {data:=#[]})= .string ⟨([]:List UInt8).toArray⟩from rfl,this];rfl
  simp only[w3];refine jB ?_
  have w9:o.k<2*g.last.length:=by
   rcases Nat.lt_or_ge o.k (2*g.last.length)with q|q
   ·exact q
   ·unfold iz at e;rw[if_pos q]at e;cases e
  exact⟨rfl,⟨v,W,x.la,x2,x.li,x.ll,u0,by have:=x.ult;omega,x.lu,l,x.ls,x.r4,x.p8,x.r0,by show o.k+1<=_;omega⟩,fun y s=>absurd s je,aP _,by show o.k+1<_;omega⟩
 ·rw[e];dsimp only
  have w2:∀K:Value->M Value,cD (.string ⟨(bS [b]).toArray⟩) (aO {data:=#[]}) K=K (.bool false):=fun K=>by have:=vF (k:=K) (bS [b]) [];rw[show(aO {data:=#[]})= .string ⟨([]:List UInt8).toArray⟩from rfl,this];rfl
  have u7:∀K:Value->M Value,cP (.string ⟨(bS [b]).toArray⟩) (jI 0) K=K (.int .u8 (b:Int)):=fun K=>by
   have:=vG K (bS [b]) .i64 0 jD (show(0:Int)<((1:Nat):Int) by decide);rw[this];congr 2;have s:By [b]:=fun y s=>by rw[List.mem_singleton.1 s];exact hb
   have:=Eg s (i:=0) (show 0<1 by decide);exact congrArg Int.ofNat this
  simp only[w2];refine jA @v ?_;rw[u7];refine aN aE (ak6 (Y:=Y) (d:=d+1) u0 (by have:=x.ult;omega) x.r4 x.p8 hb x.r0) u (fun c _ U=> .inr (by rw[U];exact wu)) fun v3 X n3 T x7 j=> ?_;obtain⟨_,k3,j⟩:=j;cases ep:iS o.run o.prev b with
  |none=>rw[ep]at j;have j:v3= .tuple #[.string ⟨#[]⟩,jI 25]:=j;subst j;have z:((25:Int) !=0)=true:=rfl;refine jA (aI @bI (aI @ext1 @z)) ?_;exact⟨rfl,fun y s=>absurd s je,aP _⟩
  |some q=>
   obtain⟨t,p,r⟩:=q;rw[ep]at j;obtain⟨rfl,v9⟩:=j;obtain⟨p1,p2,p3,C,p5⟩:=ak9 x.r4 x.p8 hb ep;have z:((0:Int) !=0)=false:=rfl;have u1:=(k3 a W P).trans v;have v8:a<n3:=jO;have u2:oi X n3 m.sa (o.mz.foldl jQ 4294967295):=⟨(k3 _ l.lt G).trans l.get,fP l.lt T,l.sm⟩;refine jA (aI @bI (aI @ext1 (aI @z @u1))) ?_;refine aN aE (ajk (Y:=Y) (d:=d) u2 t C jO jO) jO (fun c _ U=> .inr (by rw[U];exact ws)) fun v4 h4 n4 w6 x6 u9=> ?_;obtain⟨rfl,B,k4⟩:=u9;rw[<-Av]at B;have i4:gN h4 n4 m.ia g.last g.bH (o.k+1) m.lb (.slice none 0 0) []:=(x2.au T (k3 _ x2.lt O) (k3 _ x2.su N) (fun b hb=>hb.not_nil.elim)).au (ah _) (k4 _ u5) (k4 _ u4) (fun b hb=>hb.not_nil.elim);have x4:mZ h4 n4 L a m g ⟨o.k+1,p,r,o.mz++t⟩:=⟨(k4 a u6).trans u1,v8,x.la,i4,x.li,x.ll,(k4 _ u3).trans v9,by have:=x.ult;omega,x.lu,B,x.ls,p1,p2,p3,by show o.k+1<=_;omega⟩;refine jB ?_;refine aN aE (ak' (Y:=Y) (d:=d) x4 ok) jO (fun c _ U=> .inr U) fun v5 h5 n5 w5 x5 f=> ?_;obtain⟨rfl,k5,f⟩:=f;rw[xW];dsimp only at f⊢;by_cases c3:o.k+1=3*g.last.length
   ·rw[if_pos c3]at f⊢;by_cases c4:p=4
    ·rw[if_pos c4]at f⊢;subst f;exact⟨rfl,C,p5⟩
    ·rw[if_neg c4]at f⊢;by_cases c5:iC (o.mz++t)=g.sum
     ·rw[if_pos c5]at f⊢;subst f;have i5:=x4.inv.au (ah _) (k5 _ O) (k5 _ N) (fun b hb=>hb.not_nil.elim);have i5:gN h5 _ m.ia g.last g.bH (o.k+1) m.lb (.slice none 0 0) []:=i5;rw[c3]at i5;exact⟨rfl,⟨(k5 a P).trans x4.get,i5⟩,C,p5⟩
     ·rw[if_neg c5]at f⊢;subst f;exact⟨rfl,C,p5⟩
   ·rw[if_neg c3]at f⊢;obtain⟨rfl,rfl⟩:=f;exact⟨rfl,x4,C,p5,by show o.k+1<_;omega⟩
def Lh:Option AB->Nat
 |some B=>if B.elem=139 then 13 else if B.elem=176 then 14 else if B.elem=255 then 16 else if B.elem=260 then 17 else 15
 |none=>0
theorem alb(ok:lT g.last g.bH)(L:Nat->Nat)(u7:3000000<=Y):af (fun _=>False) n (aj aa gt Y (d+4) 120 #[.agg #[.string ⟨(bS g.last).toArray⟩,jI (g.bH:Int),.int .u32 (g.sum:Int)]]) h n fun Z h' n'=>∃a m L',Z=jP a 0∧(∀c,c<n->L' c=L c)∧mZ h' n' L' a m g mA:=by
 rw[aC (fun _=>Rm) rfl];refine af.aB ?_;unfold HQ;refine gu trivial _ _ ?_;obtain⟨I,K⟩:∃q,h.set n (some ⟨134,true,(mC #[.string ⟨(bS g.last).toArray⟩,jI (g.bH:Int),.int .u32 (g.sum:Int)]).cells.toList⟩)=q:=⟨_,rfl⟩;have Q:I.get n=some ⟨134,true,[.string ⟨(bS g.last).toArray⟩,jI (g.bH:Int),.int .u32 (g.sum:Int)]⟩:=by rw[<-K,get_eq];rfl
 have k0:∀c,c<n->I.get c=h.get c:=fun c G=>by rw[<-K,aw _ _ jO]
 rw[K];have E:n<n+1:=dO n;refine jA @Q ?_;have r:=aja (Y:=Y) (d:=d+2) (h:=I) (n:=n+1) ok;refine aN aE r (eL n) (fun _ _ h=>h.elim) fun v1 h1 n1 u6 J C=> ?_;obtain⟨rfl,rfl,X⟩:=C;have g1:h1.get n=_:=(J n E id).trans Q;refine jA (aI @bI @ext1) ?_;refine ak8 trivial trivial n 0 _ g1 jO (show 0+3<=3 by decide) fun x v u0 u1=> ?_;refine lP aE (ak5 (Y:=Y) (d:=d+2)) jO fun v2 h2 n2 T u5 u B O=> ?_;obtain⟨rfl,rfl,u2,_⟩:=B;refine lP aE (aji (Y:=Y) (d:=d+1) jO) jO fun v3 t f R D p A N=> ?_;obtain⟨k,rfl,u3,l⟩:=A;have W:cz x T=false:=Zb (fun e o=>(v e o).1) O.wr (fun e o=>by rw[(v e o).2];have:=O.le;omega) jO;have U:cz x R=false:=Zb (fun e o=>(v e o).1) N.wr (fun e o=>by rw[(v e o).2];have:=N.le;omega) jO;show af (fun _=>False) n ((az (dP 139 (mC #[.string ⟨(bS g.last).toArray⟩,jI (g.bH:Int),.int .u32 (g.sum:Int),jP (n+1+1) 0,jP (n+1+2) 0,jP k 0]) M.ret)).bind fun g=>dD (!cz x T&& !cz x R) (ag [g.fst])) t f _;refine OP trivial _ _ ?_;refine jA (aI @W (aI @U (aI @cx (aI @eA @dQ)))) ?_;have z:=(p (n+1+2) jO).trans u2;have y:gN t f (n+1+1) g.last g.bH 0 (n+1) (.slice none 0 0) []:=(X.au (eL _) (u _ jO) (u _ jO) (fun b s=>s.not_nil.elim)).au D (p _ jO) (p _ jO) (fun b s=>s.not_nil.elim);have P:=l.get;have u4:=l.lt;unfold oq at z;refine⟨f,⟨n+1+1,n+1,n+1+2,k⟩,fun c=>if c<n then L c else Lh ((t.set f (some ⟨139,true,[.string ⟨(bS g.last).toArray⟩,jI (g.bH:Int),.int .u32 (g.sum:Int),jP (n+1+1) 0,jP (n+1+2) 0,jP k 0]⟩)).get c),rfl,fun c G=>if_pos G, ?_⟩;have j:∀{c i:Nat},n<=c->Lh ((t.set f (some ⟨139,true,[.string ⟨(bS g.last).toArray⟩,jI (g.bH:Int),.int .u32 (g.sum:Int),jP (n+1+1) 0,jP (n+1+2) 0,jP k 0]⟩)).get c)=i->(if c<n then L c else Lh ((t.set f (some ⟨139,true,[.string ⟨(bS g.last).toArray⟩,jI (g.bH:Int),.int .u32 (g.sum:Int),jP (n+1+1) 0,jP (n+1+2) 0,jP k 0]⟩)).get c))=i:=fun G q=>by rw[if_neg jO];exact q
 exact⟨get_eq _ _ _,jO,j jO (by rw[get_eq];rfl),y.au jO (aw _ _ jO) (aw _ _ jO) (fun b s=>s.not_nil.elim),j (by show n<=n+1+1;omega) (by rw[aw _ _ (by show n+1+1≠f;omega),y.get];rfl),j (by show n<=n+1;omega) (by rw[aw _ _ (by show n+1≠f;omega),y.wS];rfl),(aw _ _ (by show n+1+2≠f;omega)).trans z,by show n+1+2<f+1;omega,j (by show n<=n+1+2;omega) (by rw[aw _ _ (by show n+1+2≠f;omega),z];rfl),
  ⟨(aw _ _ (by show k≠f;omega)).trans P,by show k<f+1;omega,l.sm⟩,j (by show n<=k;omega) (by rw[aw _ _ (by show k≠f;omega),P];rfl),jD,jD,fun _=>rfl,aP _⟩
end
end Go.Proofs.YtmjolmggelkjlaaGreat
