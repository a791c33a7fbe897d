import Derived.Test.YtmjolmggelkjlaaGreatMai
open Go.Proofs.Tryz renaming prog→aa
open Nat renaming le_refl→ah, zero_le→aO, lt_succ_self→dI, le_succ→eL, zero_add→fD, lt_of_lt_of_le→fK, le_trans→gV, add_zero→iO, mod_lt→jF, mod_eq_of_lt→lh, pow_le_pow_right→p9, mul_le_mul_right→qT, add_comm→FC, pow_one→MI, xor_zero→MR, xor_assoc→MU, xor_mod_two_pow→abl, shiftLeft_eq→abm, xor_div_two_pow→abn, zero_mul→anH, mul_le_mul_left→aoG, div_add_mod→aoN, xor_comm→aoS, div_eq_of_lt→aoT, zero_mod→aoU, mul_div_cancel→aoV, mul_mod_left→aoW
open Go.Value renaming string→aM, agg→mM, tuple→MT
open List renaming getD_eq_getElem?_getD→bz, getElem?_eq_getElem→bB, length_drop→bE, length_append→bG, replicate→bU, append_nil→bV, length_cons→cP, length_take→cT, getElem_mem→dO, append_assoc→ey, length_map→fS, length_nil→iP, getElem?_map→jd, not_mem_nil→jl, length_replicate→j4, nil_append→lk, mem_cons_of_mem→vv, countP_le_length→AS, foldl_append→AW, drop_append_of_le_length→FI, take_append_of_le_length→FJ
open Bool renaming and_eq_true→bZ, not_false→cf, and_self→dJ
open BitVec renaming ofInt→cb
open Int renaming toNat_natCast→cV, lt_irrefl→eT
open UInt8 renaming ofNat→gU
open Go.IntKind renaming wrap_u32→MQ
open Go.Lib renaming repeatL→aaL
open Except renaming error→abo
set_option linter.unusedVariables false
set_option linter.unusedSimpArgs false
namespace Go.Proofs.YtmjolmggelkjlaaGreat
open Go.RowKit Ev Cn Ip
theorem LX:∀(l:List Nat) (z a:Zr) (ps:List Nat),1<=z.n->z.told+z.aR<=z.most->dr z l=some (a,ps)->ps.length+z.told=a.told∧a.told+a.aR<=z.most∧∀p∈ps,p<z.n
 |[],z,a,ps,y,k,h=>by cases h;exact⟨fD _,k,fun p x=>absurd x jl⟩
 |c::l,z,a,ps,y,k,h=>by
  unfold dr at h;cases e:c6 z c with
  |none=>rw[e]at h;cases h
  |some t=>
   obtain⟨b,m,p⟩:=t;rw[e]at h;dsimp only at h;have C:=LK e;have r:=ZQ e
   have f:b.told+b.aR<=z.most∧b.most=z.most∧p<z.n:=by
    unfold c6 at e;split at e
    ·cases e
    ·split at e
     ·split at e
      ·cases e
      ·cases e;refine⟨?_,rfl,jO⟩;show z.told+(z.aR+z.weight*2^c)<=z.most;omega
     ·split at e
      ·cases e;refine⟨?_,rfl,jO⟩;show z.told+z.aR+0<=z.most;omega
      ·split at e
       ·cases e
       ·cases e;refine⟨?_,rfl,jO⟩;show z.told+1+z.aR+0<=z.most;omega
   obtain⟨v,j,u⟩:=f;cases g:dr b l with
   |none=>rw[g]at h;cases h
   |some n=>
    obtain⟨A,d⟩:=n;rw[g]at h;cases h;obtain⟨B,i,o⟩:=LX l b _ d jO (by rw[j];exact v) g;have s:(hP p).length=if 0<p then 1 else 0:=by unfold hP;split<;>rfl
    refine⟨?_,by rw[j]at i;exact i,fun q hq=> ?_⟩
    ·rw[bG,bG,j4,s];omega
    ·rcases List.mem_append.1 hq with hq|hq
     ·rcases List.mem_append.1 hq with hq|hq
      ·rw[(List.mem_replicate.1 hq).2];omega
      ·unfold hP at hq;split at hq
       ·rw[List.mem_singleton.1 hq];exact u
       ·exact absurd hq jl
     ·rw[<-r];exact o q hq
def xu(r:St Gt)(a:Value):Prop:=match r with
 | .short=>a= .agg #[aL [],.int .i64 0,.int .u32 0,.int .i64 0,.int .i64 0,.int .i64 3]
 | .bad e=>a= .agg #[aL [],.int .i64 0,.int .u32 0,.int .i64 0,.int .i64 0,.int .i64 e]
 | .ok g w=>∃hd:Int,a= .agg #[aL g.last,.int .i64 (g.bK:Int),.int .u32 (g.sum:Int),.int .i64 (w:Int),.int .i64 hd,.int .i64 0]
theorem xu.add{r:St Gt}{a:Nat}:r= .short∨(∃e,r= .bad e)->∀b,xu r b->xu (r.add a) b:=by rintro(rfl|⟨e,rfl⟩) b h<;>exact h
section
variable {Y d n:Nat} {h:H}
theorem alo(bs:List Bool)(hl:bs.length<=8000){room:Nat}(hm:room<=1000000)(u6:3000000<=Y):af (fun _=>False) n (aj aa gt Y (d+7) 104 #[tx bs,jI (room:Int)]) h n (fun X _ _=>xu (lK room bs) X):=by
 rw[aB (fun _=>aeN) rfl];refine af.aA ?_;unfold R4;refine dX rfl _ ?_;obtain⟨h0,P⟩:∃h0,h.set n (some ⟨159,true,z159⟩)=h0:=⟨_,rfl⟩;have T:h0.get n=some ⟨159,true,z159⟩:=by rw[<-P,get_eq]
 rw[P];clear P
 have err:∀(e:Int) (t:H) (n2:Nat),n<n2->t.get n=some ⟨159,true,z159⟩->af (fun _=>False) n (aQ 6 (jP n 0) (.agg #[aL [],jI 0,.int .u32 0,jI 0,jI 0,jI e]) fun _=>bc 6 (jP n 0) fun b=>ag [b]) t n2 (fun X _ _=>X= .agg #[aL [],jI 0,.int .u32 0,jI 0,jI 0,jI e]):=fun e t n2 a' g=>by refine cA (sz:=6) trivial (vs:=[aL [],jI 0,.int .u32 0,jI 0,jI 0,jI e]) rfl rfl rfl g jO (.inl (ah _)) _ fun h1 g1 k1=> ?_;exact eD trivial trivial g1 rfl jO rfl
 unfold lK;by_cases c1:bs.length<57
 ·have z1:((bs.length:Nat):Int)<57:=jO;rw[if_pos c1];refine jA (aI @cZ @z1) ?_;exact err 3 _ _ jO T
 have z1:¬((bs.length:Nat):Int)<57:=jO;have x3:(32:Int)<((bs.length:Nat):Int):=jO;rw[if_neg c1];have ix:=fun(K:Value->M Value)=>pL bs .i64 32 jO x3 K;rw[show((32:Int)).toNat=32 from rfl]at ix;by_cases c2:bs.getD 32 false=true
 ·rw[if_pos c2];rw[c2]at ix;have z2:((48+(bn true:Int))==49)=true:=rfl;refine jA (aI @cZ @z1) ?_;rw[ix];refine jA @z2 ?_;exact err 25 _ _ jO T
 have y8:bs.getD 32 false=false:=by simpa using c2
 rw[if_neg c2];rw[y8]at ix;have z2:((48+(bn false:Int))==49)=false:=rfl;have u2:=fun(k:Value->M Value)=>oi bs .i64 57 k jO jO;rw[show((57:Int)).toNat=57 from rfl]at u2;refine jA (aI @cZ @z1) ?_;rw[ix];refine jA @z2 ?_;try rw[u2]
 refine aN aF (ak0 (Y:=Y) (d:=d+5) (bs:=bs.drop 57) (by rw[bE];omega) jO) jO (fun _ _ h=>h.elim) fun v1 h1 I b' y6 f=> ?_;have R:=(y6 n jO id).trans T;refine dX rfl _ ?_;have l1:I<I+1:=jO;cases e1:fA (bs.drop 57)with
 |short=>rw[e1]at f;have f:v1= .agg #[aL [],jI 0,jI 3]:=f;subst f;refine cA (sz:=3) trivial (vs:=[aL [],jI 0,jI 3]) rfl rfl rfl (get_eq _ _ _) jO (.inl jO) _ fun t g2 k2=> ?_;have L:((3:Int) !=0)=true:=rfl;refine jA (aI @g2 @L) ?_;exact err 3 t _ jO (by rw[k2 n jO,aw _ _ jO];exact R)
 |bad e0=>obtain rfl:=EC e1;rw[e1]at f;have f:v1= .agg #[aL [],jI 0,jI 25]:=f;subst f;refine cA (sz:=3) trivial (vs:=[aL [],jI 0,jI 25]) rfl rfl rfl (get_eq _ _ _) jO (.inl jO) _ fun t g2 k2=> ?_;have L:((25:Int) !=0)=true:=rfl;refine jA (aI @g2 @L) ?_;exact err 25 t _ jO (by rw[k2 n jO,aw _ _ jO];exact R)
 |ok s u=>
  obtain⟨sy,s0,u0,ul⟩:=uS e1;have sl:=sy.len;have sp:1<=s.length:=List.length_pos_iff.2 s0;rw[bE]at ul;rw[e1]at f;have f:v1= .agg #[aL s,jI (u:Int),jI 0]:=f;subst f;refine cA (sz:=3) trivial (vs:=[aL s,jI (u:Int),jI 0]) rfl rfl rfl (get_eq _ _ _) jO (.inl jO) _ fun t g2 k2=> ?_;have x9:t.get n=some ⟨159,true,z159⟩:=by rw[k2 n jO,aw _ _ jO];exact R
  have L:((0:Int) !=0)=false:=rfl;have w1:IntKind.i64.wrap (57+((u:Nat):Int))=((57+u:Nat):Int):=by rw[aH jO jO];omega
  have w2:IntKind.i64.wrap (((s.length:Nat):Int)+2)=((s.length+2:Nat):Int):=by rw[aH jO jO];omega
  have w3:57+((u:Nat):Int)=((57+u:Nat):Int):=jO;have w0:((s.length:Nat):Int)+2=((s.length+2:Nat):Int):=jO;have sU:=fun(k:Value->M Value)=>oi bs .i64 ((57+u:Nat):Int) k jO jO;rw[cV]at sU;refine jA (aI @g2 (aI @L (aI @jZ (aI @w1 (aI @w2 (aI @w3 @w0)))))) ?_;rw[sU]
  have ol:∀(r:Rs) (held:Int) (v:Value) (h':H) (n0 n':Nat),xa n0 r held v h' n'->∃x y z u hd e,v= .agg #[.slice x y z,jI u,jI hd,jI e]∧match r with
   | .err e0=>e=e0∧u=0
   | .ok out a=>e=0∧u=(a:Int)∧Own h' n0 n' 3 (.slice x y z) (aV .i64 out):=fun r held v h' n0 n' q=>by
   obtain⟨ov,u,hd,e,rfl,q⟩:=q;cases r with
   |err e0=>obtain⟨q1,rfl,q3⟩:=q;exact⟨_,_,_,_,_,_,rfl,q1,q3⟩
   |ok out a=>obtain⟨q1,q2,q3,q4⟩:=q;obtain⟨x,z,rfl⟩:=q3.row.len;exact⟨_,_,_,_,_,_,rfl,q1,q2,q3⟩
  obtain⟨B,hB⟩:∃B,bs.drop (57+u)=B:=⟨_,rfl⟩;rw[hB]at sU⊢;have Bl:B.length<=8000:=by rw[<-hB,bE];omega
  refine aN aF (ai4 (Y:=Y) (d:=d+1) B jO u6 jO jO 8000) jO (fun _ _ h=>h.elim) fun v3 h3 G z9 y5 u5=> ?_;obtain⟨ox,oy,oz,ub,hd,e3,rfl,D⟩:=ol _ _ _ _ _ _ u5;clear u5;refine dX rfl _ ?_;refine cA (sz:=4) trivial (vs:=[.slice ox oy oz,jI ub,jI hd,jI e3]) rfl rfl rfl (get_eq _ _ _) jO (.inl jO) _ fun h4 g4 k4=> ?_;have u1:∀b,b<I+1->h4.get b=t.get b:=fun b hb=>by rw[k4 b jO,aw _ _ jO];exact y5 b hb id
  refine jB ?_;try rw[sU]
  refine aN aF (alb (Y:=Y) (d:=d+1) B jO u6 (size:=s.length+2) jO jO) jO (fun _ _ h=>h.elim) fun v5 h5 n5 z8 y4 O=> ?_;unfold EY at O;have m:=alf (size:=s.length+2) (bs:=B);have E:=fun(i:Nat)=>ak9 (size:=s.length+2) (bs:=B) i;obtain⟨j,N⟩:∃j,jx (s.length+2) B=j:=⟨_,rfl⟩;have fin:=alj s room (num ((bs.drop 33).take 24) 0) (num (bs.take 32) 0) B Bl;rw[N]at O m E fin;have u4:=ali fun c J=>(m c J).1
  have v4:∀c∈ew j,c<s.length+2:=fun c J=>by unfold ew at J;obtain⟨x,hx,rfl⟩:=List.mem_map.1 J;have:=m x hx;omega
  have y7:(ew j).length=j.length:=by unfold ew;rw[fS]
  have v2:∀i,i+1<(ew j).length->(ew j).getD i 0≠s.length+1:=fun i hi q=>by rw[y7]at hi;refine E i hi ?_;unfold ew at q;have hx:=m j[i] (dO (by omega:i<j.length));rw[bz,jd,bB (by omega:i<j.length)]at q;rw[bz,bB (by omega:i<j.length)];have q:j[i].toNat=s.length+1:=q;show j[i]+1=_;omega
  have y9:j.length<=8001:=by rw[<-N];exact gV (alh _ _) jO
  refine aN aF (ak3 (Y:=Y) (d:=d+2) (ew j) s.length room sp sl hm (fun c J=>by have:=v4 c J;omega) v2 (by rw[u4];exact O.row) jO jO jO) jO (fun _ _ h=>h.elim) fun v6 h6 n6 z7 y3 C=> ?_;have A:∀b,b<G+1->h6.get b=h4.get b:=fun b hb=>(y3 b jO id).trans (y4 b hb id);have Q:=(A n jO).trans ((u1 n jO).trans x9);have y2:=(A I jO).trans ((u1 I jO).trans g2);have U:=(A G jO).trans g4;rw[fin];have x6:qP s.length room j=(dr (eG s.length room) (ew j)).isSome:=rfl;rw[x6];by_cases cm:(dr (eG s.length room) (ew j)).isSome=true
  ·rw[if_pos cm]at C⊢;subst C;have x1:G<n6:=jO;have x2:I<n6:=jO;cases hr:qH (s.length+2) B 8000 with
   |err e=>
    rw[hr]at D;obtain⟨rfl,rfl⟩:=D;have z4:(e3 !=0)=true:=by rw[bne_iff_ne];exact ZO hr
    refine jA (aI @L (aI @U @z4)) ?_;refine(err e3 h6 n6 jO Q).mono ?_;rintro X _ _ _ rfl;show xu ((if e3=3 then St.short else .bad e3).add _) _;split
    ·next q=>rw[q];rfl
    ·rfl
   |ok out a=>
    rw[hr]at D;obtain⟨rfl,rfl,oo⟩:=D;obtain⟨q1,i0,q2⟩:=alk Bl hr;rw[N]at q1;subst q1;obtain⟨⟨zl,Z⟩,hz⟩:=Option.isSome_iff_exists.1 cm
    have x7:zl.done=true:=by refine aln (l:=ew i0) (room:=room) sp (ps:=Z) ?_;rw[<-hz];congr 1;rw[q2];unfold ew;rw[List.map_append];congr 1;show [s.length+1]=[(((s.length+2:Nat):Int)-1).toNat];congr 1;omega
    have w7:Row h6 n6 3 .i64 (.slice ox oy oz) (iN (ew out)):=by rw[u4];exact(oo.row).au jO fun b hb=>by rw[A b jO,k4 b jO,aw _ _ jO]
    refine jA (aI @L @U) ?_;refine aN aF (ak_ (Y:=Y) (d:=d+2) (ew out) s.length room sp sl hm (fun c J=>by have:=v4 c J;omega) v2 w7 jO jO jO hz x7) jO (fun _ _ h=>h.elim) fun v7 h7 n7 z6 W x5=> ?_;obtain⟨pv,rfl,op⟩:=x5;obtain⟨zt,zm,zp⟩:=LX _ _ _ _ sp (aO _) hz;have zp:∀p∈Z,p<s.length:=zp;have zt:Z.length+0=zl.told:=zt;have zm:zl.told+zl.aR<=room:=zm;have y1:=(W I x2 id).trans y2;have y0:=(W G x1 id).trans U;have x8:=(W n jO id).trans Q;have z0:I<n7:=jO;refine jA (aI @bJ (aI @ext1 @y1)) ?_;refine aN aF (akV (Y:=Y) (d:=d+2) sy s0 Z zp jO op.row jO) jO (fun _ _ h=>h.elim) fun v8 h8 n8 z3 v0 x4=> ?_;subst x4;have u9:=(v0 G jO id).trans y0;have u7:=(v0 n jO id).trans x8;have u3:G<n8:=jO;have ml:=EF Z s;have s3:=fun(K:Value->M Value)=>ss bs .i64 .i64 33 57 K jO jO jO;rw[show((33:Int)).toNat=33 from rfl,show((57:Int)).toNat-33=24 from rfl]at s3;have s4:=fun(K:Value->M Value)=>Et bs .i64 32 K jO jO;rw[show((32:Int)).toNat=32 from rfl]at s4;have nf:=Aw (Y:=Y) (d:=d+5) (n:=n8) (h:=h8) ((bs.drop 33).take 24) (by rw[cT];omega) jO;have ns:=Aw (Y:=Y) (d:=d+5) (n:=n8) (h:=h8) (bs.take 32) (by rw[cT];omega) jO
    have w9:num ((bs.drop 33).take 24) 0<16777216:=fK (ig _) (by
     have:2^((bs.drop 33).take 24).length<=2^24:=p9 jD (by rw[cT];omega)
     exact this)
    refine jA (aI @bJ @ext1) ?_;rw[s3]
    show af _ _ _ _ _ (fun X _ _=>xu ((match dr (eG s.length room) (ew out)with
     |none=>St.bad 25
     |some (_,ps)=>if(cr s ps).1.length<=num ((bs.drop 33).take 24) 0 then .bad 23 else .ok (Gt.mk (cr s ps).1 (num ((bs.drop 33).take 24) 0) (num (bs.take 32) 0)) a).add (57+u)) X)
    rw[hz];dsimp only;generalize num ((bs.drop 33).take 24) 0=o at nf w9⊢;generalize num (bs.take 32) 0=w4 at ns⊢;generalize (cr s Z).1=last at ml⊢;refine bq nf jO (fun _ _ h=>h.elim) ?_;have w5:IntKind.i64.wrap ((o:Nat):Int)=((o:Nat):Int):=aH jO jO;by_cases cl:last.length<=o
    ·have z5:((last.length:Nat):Int)<=((o:Nat):Int):=jO;rw[if_pos cl];refine jA (aI @w5 (aI @jZ @z5)) ?_;exact err 23 h8 n8 jO u7
    ·have z5:¬((last.length:Nat):Int)<=((o:Nat):Int):=jO;rw[if_neg cl];refine jA (aI @w5 (aI @jZ @z5)) ?_;rw[s4];refine ahz _ _ fun T1 t1=> ?_;refine jB ?_;refine kq aF ns jO fun T2 t2=> ?_;refine jB ?_;refine kp trivial G 1 _ u9 u3 rfl fun T3 t3=> ?_;refine jB ?_;refine kp trivial G 2 _ u9 u3 rfl fun T4 t4=> ?_;refine jA @jZ ?_;refine Ei (fun _ _=>rfl) ?_
     have c':a<=B.length:=by rw[Ez]at hr;exact ZP hr
     have w6:IntKind.i64.wrap (((57+u:Nat):Int)+((a:Nat):Int))=((57+u+a:Nat):Int):=by rw[aH jO jO];omega
     have v9:((57+u:Nat):Int)+((a:Nat):Int)=((57+u+a:Nat):Int):=jO;refine jA (aI @w6 @v9) ?_;refine cA (sz:=6) trivial (vs:=[aL last,jI (o:Int),.int .u32 (w4:Int),jI ((57+u+a:Nat):Int),jI (IntKind.i64.wrap (hd+(last.length:Int))),jI 0]) rfl rfl rfl u7 jO (.inl (ah _)) _ fun h9 g9 k9=> ?_;try simp(disch:=first|omega|assumption) only[Nat.reduceAdd,Nat.reduceLT,RZ,t2.cy t3,t2.cy t4,cf,dJ,dG]
     exact eD trivial trivial g9 rfl jO ⟨_,rfl⟩
  ·rw[if_neg cm]at C⊢;obtain⟨e,he,rfl⟩:=C;have z4:(e !=0)=true:=by rw[bne_iff_ne];exact he
   refine jA @z4 ?_;exact err 25 h6 n6 jO Q
end
def xv:List Nat->Bool
 |a::b::c::d::_=>decide (a=b∧b=c∧c=d)
 |_=>false
def pU(a:List Nat):Except Int (List Nat)->Except Int (List Nat)
 | .ok t=> .ok (a++t)
 | .error e=> .error e
theorem alp(p q x:Nat)(l:List Nat)(h:xv (x::l)=false):cX 0 p (x::l)=pU [x] (cX 0 q l):=by
 have b:∀(run a y:Nat) (m:List Nat),run≠4->cX run a (y::m)=pU [y] (cX (if 0<run∧y=a then run+1 else 1) y m):=fun run a y m c=>by show(if run=4 then _ else _)=_;rw[if_neg c];cases cX (if 0<run∧y=a then run+1 else 1) y m<;>rfl
 have nil:∀(run a:Nat),run≠4->cX run a []= .ok []:=fun run a c=>if_neg c;rw[b 0 p x l jO,if_neg jO];congr 1;cases l with
 |nil=>rw[nil 1 x jO,nil 0 q jO]
 |cons y l=>
  rw[b 1 x y l jO,b 0 q y l jO,if_neg (by omega:¬(0<0∧y=q))];by_cases f:y=x
  ·subst f;rw[if_pos ⟨jO,rfl⟩];congr 1;cases l with
   |nil=>rw[nil 2 y jO,nil 1 y jO]
   |cons z l=>
    rw[b 2 y z l jO,b 1 y z l jO];by_cases d:z=y
    ·subst d;rw[if_pos ⟨jO,rfl⟩,if_pos ⟨jO,rfl⟩];congr 1;cases l with
     |nil=>rw[nil 3 z jO,nil 2 z jO]
     |cons w l=>
      have e:¬w=z:=fun q=>by subst q;unfold xv at h;simp at h
      rw[b 3 z w l jO,b 2 z w l jO,if_neg (fun q=>e q.2),if_neg (fun q=>e q.2)]
    ·rw[if_neg (fun q=>d q.2),if_neg (fun q=>d q.2)]
  ·rw[if_neg (fun q=>f q.2)]
theorem alq{l:List Nat}(h:xv l=true):∃x e,l=x::x::x::x::e:=by
 match l,h with
 |a::b::c::d::e,h=>have q:a=b∧b=c∧c=d:=of_decide_eq_true h;obtain⟨rfl,rfl,rfl⟩:=q;exact⟨a,e,rfl⟩
theorem alr(p x:Nat)(l:List Nat):cX 0 p (x::x::x::x::l)=pU [x,x,x,x] (cX 4 x l):=by
 have b:∀(run a y:Nat) (m:List Nat),run≠4->cX run a (y::m)=pU [y] (cX (if 0<run∧y=a then run+1 else 1) y m):=fun run a y m c=>by show(if run=4 then _ else _)=_;rw[if_neg c];cases cX (if 0<run∧y=a then run+1 else 1) y m<;>rfl
 rw[b 0 p x _ jO,if_neg jO,b 1 x x _ jO,if_pos ⟨jO,rfl⟩,b 2 x x _ jO,if_pos ⟨jO,rfl⟩,b 3 x x _ jO,if_pos ⟨jO,rfl⟩];cases cX 4 x l<;>rfl
theorem LY(q x y:Nat)(l:List Nat):cX 4 x (y::l)=if 251<y then .error 25 else pU (bU y x) (cX 0 q l):=by
 have a:cX 0 y l=cX 0 q l:=by
  cases l with
  |nil=>rfl
  |cons z l=>
   have:∀q,cX 0 q (z::l)=match cX 1 z l with
    | .ok t=> .ok (z::t)
    | .error e=> .error e:=fun q=>by
    rw[LC,if_neg jO,if_neg jO];cases cX 1 z l<;>rfl
   rw[this,this]
 show(if 4=4 then(if 251<y then _ else _)else _)=_;rw[if_pos rfl,a];split
 ·rfl
 ·cases cX 0 q l<;>rfl
def vh(out:List Nat)(r:Except Int (List Nat))(a:Value):Prop:=match r with
 | .ok t=>a= .tuple #[aL (out++t),.int .i64 0]
 | .error _=>∃e:Int,e≠0∧a= .tuple #[aL [],.int .i64 e]
theorem vh.pU{out a:List Nat}{r:Except Int (List Nat)}{b:Value}(h:vh (out++a) r b):vh out (Proofs.YtmjolmggelkjlaaGreat.pU a r) b:=by
 cases r with
 |ok t=>exact h.trans (by rw[ey])
 |error e=>exact h
section
variable {Y d n:Nat} {h:H}
theorem als(l:List Nat)(f:∀x∈l,x<256):af (fun _=>False) n (aj aa gt Y (d+1) 168 #[aL l]) h n fun t h' n'=>t= .bool (xv l)∧h'=h∧n'=n:=by
 rw[aB (fun _=>af0) rfl];refine af.aA ?_;unfold TU;rw[jZ]
 match l,f with
 |[],f=>have z:¬(4:Int)<=((([]:List Nat).length:Nat):Int):=jS;refine jA @z ?_;try rfl
 |[a],f=>have z:¬(4:Int)<=((([a]:List Nat).length:Nat):Int):=jS;refine jA @z ?_;try rfl
 |[a,b],f=>have z:¬(4:Int)<=((([a,b]:List Nat).length:Nat):Int):=jS;refine jA @z ?_;try rfl
 |[a,b,c],f=>have z:¬(4:Int)<=((([a,b,c]:List Nat).length:Nat):Int):=jS;refine jA @z ?_;try rfl
 |a::b::c::e::l,f=>
  have i:∀K:Value->M Value,cU (aL (a::b::c::e::l)) (jI 0) K=K (.int .u8 (a:Int)):=fun K=>sM (a::b::c::e::l) f .i64 0 jS K;have i1:∀K:Value->M Value,cU (aL (a::b::c::e::l)) (jI 1) K=K (.int .u8 (b:Int)):=fun K=>sM (a::b::c::e::l) f .i64 1 jS K;have j:∀K:Value->M Value,cU (aL (a::b::c::e::l)) (jI 2) K=K (.int .u8 (c:Int)):=fun K=>sM (a::b::c::e::l) f .i64 2 jS K;have i3:∀K:Value->M Value,cU (aL (a::b::c::e::l)) (jI 3) K=K (.int .u8 (e:Int)):=fun K=>sM (a::b::c::e::l) f .i64 3 jS K;have z:(4:Int)<=(((a::b::c::e::l).length:Nat):Int):=by simp only[cP];omega
  have k:xv (a::b::c::e::l)=decide (a=b∧b=c∧c=e):=rfl;generalize a::b::c::e::l=L at i i1 j i3 z k⊢;rw[k];by_cases p:a=b
  ·subst p;have g:(((a:Nat):Int)==((a:Nat):Int))=true:=beq_iff_eq.2 rfl;by_cases o:a=c
   ·subst o;by_cases m:a=e
    ·subst m;exact jC (aI @z (aI @i (aI @i1 (aI @j (aI @i3 @g)))))
    ·have r:(((a:Nat):Int)==((e:Nat):Int))=false:=beq_eq_false_iff_ne.2 jO;rw[decide_eq_false (fun q=>m q.2.2)];exact jC (aI @z (aI @i (aI @i1 (aI @j (aI @i3 (aI @g @r))))))
   ·have s:(((a:Nat):Int)==((c:Nat):Int))=false:=beq_eq_false_iff_ne.2 jO;rw[decide_eq_false (fun q=>o q.2.1)];exact jC (aI @z (aI @i (aI @i1 (aI @j (aI @i3 (aI @g @s))))))
  ·have g:(((a:Nat):Int)==((b:Nat):Int))=false:=beq_eq_false_iff_ne.2 jO;rw[decide_eq_false (fun q=>p q.1)];exact jC (aI @z (aI @i (aI @i1 @g)))
theorem alu:∀(fuel:Nat) (l out:List Nat) (a:Nat) (h:H) (n:Nat),l.length<=fuel->l.length<a->(∀x∈l,x<256)->out.length+252*l.length<=1000000000->1000<=Y->af (fun _=>False) n (pC Y (aj aa gt Y (d+1)) a (rO Y (aj aa gt Y (d+1))) (aL l) (aL []) (jI 0) (aL out)) h n fun m _ _=>vh out (cX 0 0 l) m:=by
 have O:∀(out:List Nat) (a:Nat) (h:H) (n:Nat),af (fun _=>False) n (pC Y (aj aa gt Y (d+1)) (a+1) (rO Y (aj aa gt Y (d+1))) (aL []) (aL []) (jI 0) (aL out)) h n fun m _ _=>vh out (cX 0 0 []) m:=fun out a h n=>by rw[pC,jZ];have v:¬(0:Int)<((0:Nat):Int):=jD;refine jA @v ?_;unfold rO;refine jB ?_;show MT #[aL out,jI 0]=MT #[aL (out++[]),jI 0];rw[bV]
 intro fuel
 induction fuel with
 |zero=>intro l out a h n D p k N g;obtain rfl:=List.length_eq_zero_iff.1 (Nat.le_zero.1 D);obtain⟨a,rfl⟩:∃f,a=f+1:=⟨a-1,jO⟩;exact O out a h n
 |succ fuel I=>
  intro l out a h n D p k N g;obtain⟨a,rfl⟩:∃f,a=f+1:=⟨a-1,jO⟩;cases l with
  |nil=>exact O out a h n
  |cons x l=>
   have hl:(x::l).length=l.length+1:=rfl;have v:(0:Int)<((l.length+1:Nat):Int):=jO;rw[pC,jZ];refine jA @v ?_;refine bq (als (Y:=Y) (d:=d) (x::l) k) (ah _) (fun _ _ h=>h.elim) ?_;cases R:xv (x::l)with
   |false=>have s:∀K:Value->M Value,bL (aL (x::l)) none (some (jI 1)) K=K (aL [x]):=fun K=>LR (x::l) .i64 1 K jO;have a2:∀K:Value->M Value,bL (aL (x::l)) (some (jI 1)) none K=K (aL l):=fun K=>LS (x::l) .i64 1 K jO;have G:=fun(K:Value->M Value)=>oF out [x] (by simp only[cP,iP];omega) K;refine jB ?_;rw[s,G,a2];refine(I l (out++[x]) a h n jO jO (fun y J=>k y (vv _ J)) (by rw[bG];simp only[cP,iP];omega) g).mono ?_;intro m _ _ _ c;rw[alp 0 0 x l R];exact c.pU
   |true=>
    obtain⟨x',l4,e⟩:=alq R;injection e with e1 e2;subst e1;subst e2;rw[alr];cases l4 with
    |nil=>have A:∀K:Value->M Value,bH (aL [x,x,x,x]) K=K (jI 4):=fun K=>jZ _ K;have r:((4:Int)==4)=true:=rfl;refine jA (aI @A @r) ?_;unfold rO;refine jB ?_;exact⟨24,jD,rfl⟩
    |cons y b=>
     have C:(x::x::x::x::y::b).length=b.length+5:=rfl;have r:((((x::x::x::x::y::b).length:Nat):Int)==4)=false:=beq_eq_false_iff_ne.2 jO;have J:y<256:=k y jS;have B:∀K:Value->M Value,cU (aL (x::x::x::x::y::b)) (jI 4) K=K (.int .u8 (y:Int)):=fun K=>sM _ k .i64 4 jO K;have s:∀K:Value->M Value,bL (aL (x::x::x::x::y::b)) none (some (jI 1)) K=K (aL [x]):=fun K=>LR _ .i64 1 K jO;have T:∀K:Value->M Value,bL (aL (x::x::x::x::y::b)) (some (jI 5)) none K=K (aL b):=fun K=>LS _ .i64 5 K jO;have E:∀z∈b,z<256:=fun z hz=>k z (by simp[hz]);rw[LY 0 x y b];generalize x::x::x::x::y::b=L at r B s T C D p N⊢;refine jB ?_;rw[jZ];refine jA (aI @r @B) ?_;by_cases Q:251<y
     ·have u:(251:Int)<((y:Nat):Int):=jO;refine jA @u ?_;unfold rO;refine jB ?_;rw[if_pos Q];exact⟨25,jD,rfl⟩
     ·have u:¬(251:Int)<((y:Nat):Int):=jO;have Z:IntKind.i64.wrap ((y:Nat):Int)=((y:Nat):Int):=aH jO jO;have X:4+((y:Nat):Int)=((4+y:Nat):Int):=jO;have W:IntKind.i64.wrap ((4+y:Nat):Int)=((4+y:Nat):Int):=aH jO jO;refine jA (aI @u (aI @B (aI @Z (aI @X @W)))) ?_;rw[if_neg Q];rw[show aL out=aL (out++bU 0 x) by rw[List.replicate_zero,bV]];refine dL (4+y) (fun i j (_:Unit)=>ug Y (aj aa gt Y (d+1)) i (SQ Y (aj aa gt Y (d+1)) a (rO Y (aj aa gt Y (d+1)))) (aL L) (aL []) (jI 0) (aL (out++bU j x)) (.bool true) (.bool false) (.bool false) (.bool false) (jI ((4+y:Nat):Int)) (jI (j:Nat))) (fun _ _ q o=>q=h∧o=n) ?_ ?_ Y 0 () h n (aO _) jO ⟨rfl,rfl⟩
      ·rintro i _ q o ⟨rfl,rfl⟩;rw[ug];refine jA @eT ?_
       (try unfold SQ);(try unfold CJ);(try dsimp only)
       rw[T];refine(I b (out++bU (4+y) x) a q o jO jO E (by rw[bG,j4];omega) g).mono ?_;intro m _ _ _ c;have c:=c.pU;cases P:cX 0 0 b with
       |error e=>rw[P]at c;exact c
       |ok t=>rw[P]at c;refine c.trans ?_;show MT #[aL (out++(bU (4+y) x++t)),jI 0]=MT #[aL (out++([x,x,x,x]++(bU y x++t))),jI 0];rw[show bU (4+y) x=[x,x,x,x]++bU y x by rw[<-List.replicate_append_replicate];rfl,ey]
      ·rintro i j _ q o hj ⟨rfl,rfl⟩ next;have c3:((j:Nat):Int)<((4+y:Nat):Int):=jO;have U:((j:Nat):Int)+1=((j+1:Nat):Int):=rfl;have G:=fun(K:Value->M Value)=>oF (out++bU j x) [x] (by rw[bG,j4];simp only[cP,iP];omega) K;rw[ug];refine jA @c3 ?_;rw[s,G];refine jB ?_;rw[U];have nx:=next () q o ⟨rfl,rfl⟩;rw[List.replicate_succ',<-ey]at nx;exact nx
theorem alv(l:List Nat)(c:∀x∈l,x<256)(e:l.length<=3000000)(b:300000000<=Y):af (fun _=>False) n (aj aa gt Y (d+2) 134 #[aL l]) h n fun a _ _=>vh [] (cX 0 0 l) a:=by rw[aB (fun _=>afe) rfl];refine af.aA ?_;unfold IV;exact alu l.length l [] Y h n (ah _) jO c (by simp only[iP];omega) jO
end
theorem alw{a b m:Nat}(h1:a/m=b/m)(h2:a %m=b %m):a=b:=by rw[<-aoN a m,<-aoN b m,h1,h2]
theorem alx(p q r s:Nat):(p^^^q)^^^(r^^^s)=(p^^^r)^^^(q^^^s):=by rw[MU,MU,<-MU q r s,aoS q r,MU]
theorem aly{a b:Nat}(f:a<4294967296)(e:b<4294967296):jv (a^^^b)=jv a^^^jv b:=by
 unfold jv
 have d:(a^^^b)*2^1 %4294967296=(a*2^1 %4294967296)^^^(b*2^1 %4294967296):=by have:(4294967296:Nat)=2^32:=rfl;rw[this,<-abl];congr 1;rw[<-abm,<-abm,<-abm,Nat.shiftLeft_xor_distrib]
 have c:(a^^^b)/2^31=(a/2^31)^^^(b/2^31):=abn;rw[d,c,alx];congr 1;have c1:a/2^31=0∨a/2^31=1:=jO;have c2:b/2^31=0∨b/2^31=1:=jO;rcases c1 with c1|c1<;>rcases c2 with c2|c2<;>rw[c1,c2]<;>rfl
theorem ZS{a b:Nat}(d:a<4294967296)(c:b<4294967296):∀k,jk k (a^^^b)=jk k a^^^jk k b
 |0=>rfl
 |k+1=>by show jv (jk k (a^^^b))=jv (jk k a)^^^jv (jk k b);rw[ZS d c k,aly (An k a d) (An k b c)]
theorem ZT{x:Nat}(h:x<16777216):∀k,k<=8->jk k x=x*2^k
 |0,_=>(Nat.mul_one x).symm
 |k+1,e=>by
  show jv (jk k x)=_;rw[ZT h k jO];have p:2^k<=2^7:=p9 jD jO;have d:(2:Nat)^7=128:=rfl
  have l:x*2^k<2147483648:=by have:x*2^k<=x*128:=aoG _ jO;omega
  have a:(2:Nat)^31=2147483648:=rfl;have c:(2:Nat)^1=2:=rfl;have b:(2:Nat)^(k+1)=2^k*2:=Nat.pow_succ 2 k;unfold jv;rw[c,a,b,aoT l,anH,aoU,MR,<-Nat.mul_assoc];exact lh jO
theorem alz{s b:Nat}(g:s<4294967296)(f:b<256):jk 8 (s^^^b*16777216)=jX s b:=by
 have a:(2:Nat)^24=16777216:=rfl;have h:(s/16777216)^^^b<256:=Nat.xor_lt_two_pow (n:=8) (by have:(2:Nat)^8=256:=rfl;omega) f
 have e:s^^^b*16777216=(((s/16777216)^^^b)*16777216)^^^(s %16777216):=by
  refine alw (m:=2^24) ?_ ?_
  ·rw[abn,abn,a,aoV _ jD,aoV _ jD,aoT (jF s (by decide:0<16777216)),MR]
  ·rw[abl,abl,a,aoW,aoW,MR,Nat.zero_xor,Nat.mod_mod]
 have d:s %16777216<16777216:=jF _ jD;rw[e,ZS jO jO,ZT d 8 (ah _)];unfold jX sE;rw[a,lh (by omega:((s/16777216)^^^b)*16777216<4294967296),aoS];congr 1;have c:(2:Nat)^8=256:=rfl;rw[c];omega
theorem alA{x:Nat}(h:x<4294967296)(h2:2147483648<=x):jv x=((x-2147483648)*2 %4294967296)^^^79764919:=by
 unfold jv;have e:x/2^31=1:=by have:(2:Nat)^31=2147483648:=rfl;omega
 have b:x*2^1 %4294967296=(x-2147483648)*2 %4294967296:=by rw[MI];omega
 have a:1*79764919 %4294967296=79764919:=rfl;rw[e,b,a]
theorem alB{x:Nat}(h2:x<2147483648):jv x=x*2:=by
 unfold jv;have e:x/2^31=0:=by have:(2:Nat)^31=2147483648:=rfl;omega
 rw[e,anH,aoU,MR,MI];omega
section
variable {Y d n:Nat} {h:H}
theorem alC{x:Nat}(o:x<4294967296)(p:100<=Y):af (fun _=>False) n (aj aa gt Y (d+1) 179 #[.int .u32 (x:Int)]) h n fun m h' n'=>m= .int .u32 ((jk 8 x:Nat):Int)∧h'=h∧n'=n:=by
 rw[aB (fun _=>UK) rfl];refine af.aA ?_;unfold Dc;refine dL 8 (fun f i (_:Unit)=>rU Y (aj aa gt Y d) f (Db Y (aj aa gt Y d)) (.int .u32 ((jk i x:Nat):Int)) (.int .u32 0) (jI (i:Nat))) (fun i _ h' n'=>h'=h∧n'=n) ?_ ?_ Y 0 () h n (aO _) jO ⟨rfl,rfl⟩
 ·rintro f _ h' n' ⟨rfl,rfl⟩;have s:¬(((8:Nat):Int)<8):=jD;rw[rU];refine jA @s ?_
  (try unfold Db);(try dsimp only)
  exact jE
 ·rintro f i _ h' n' u ⟨rfl,rfl⟩ next;have j:((i:Nat):Int)<8:=jO;have t:((i:Nat):Int)+1=((i+1:Nat):Int):=rfl;have g:=An i x o;have nx:=next () h' n' ⟨rfl,rfl⟩;have q:jk (i+1) x=jv (jk i x):=rfl;rw[q]at nx;generalize jk i x=y at g nx⊢;rw[rU];by_cases r:2147483648<=y
  ·have c:(2147483648:Int)<=((y:Nat):Int):=jO;rw[alA g r]at nx
   have l:IntKind.u32.wrap (((y:Nat):Int)-2147483648)=((y-2147483648:Nat):Int):=by rw[show((y:Nat):Int)-2147483648=((y-2147483648:Nat):Int) by omega];exact fU jO
   have e:IntKind.u32.wrap (((y-2147483648:Nat):Int)*2)=(((y-2147483648)*2 %4294967296:Nat):Int):=by rw[MQ];omega
   have k:IntKind.u32.wrap ((cb IntKind.u32.bits (((y-2147483648)*2 %4294967296:Nat):Int)^^^cb IntKind.u32.bits (79764919:Int)).toNat:Int)=((((y-2147483648)*2 %4294967296)^^^79764919:Nat):Int):=sC (a:=(y-2147483648)*2 %4294967296) (b:=79764919) jO jD;refine jA (aI @j (aI @c (aI @l (aI @e @k)))) ?_;exact nx
  ·have c:¬(2147483648:Int)<=((y:Nat):Int):=jO;rw[alB jO]at nx
   have e:IntKind.u32.wrap (((y:Nat):Int)*2)=((y*2:Nat):Int):=by rw[MQ];omega
   refine jA (aI @j (aI @c @e)) ?_;exact nx
theorem alD{s b:Nat}(c:s<4294967296)(l:b<256)(e:100<=Y):af (fun _=>False) n (aj aa gt Y (d+2) 145 #[.int .u32 (s:Int),.int .u8 (b:Int)]) h n fun k h' n'=>k= .int .u32 ((jX s b:Nat):Int)∧h'=h∧n'=n:=by
 rw[aB (fun _=>Tt) rfl];refine af.aA ?_;unfold I6;have j:IntKind.u32.wrap ((b:Nat):Int)=((b:Nat):Int):=fU jO
 have i:IntKind.u32.wrap (((b:Nat):Int)*16777216)=((b*16777216:Nat):Int):=by rw[show((b:Nat):Int)*16777216=((b*16777216:Nat):Int) by omega];exact fU jO
 have g:=sC (a:=s) (b:=b*16777216) c jO;have f:=alC (Y:=Y) (d:=d) (n:=n) (h:=h) (x:=s^^^b*16777216) (Am c jO) e;rw[alz c l]at f;refine jA (aI @j (aI @i @g)) ?_;refine bq f (ah _) (fun _ _ h=>h.elim) ?_;exact jE
theorem alE(l:List Nat)(g:∀x∈l,x<256)(q:l.length<Y)(c:100<=Y)(k:l.length<=1000000000):af (fun _=>False) n (aj aa gt Y (d+3) 112 #[aL l]) h n fun j h' n'=>j= .int .u32 ((iJ l:Nat):Int)∧h'=h∧n'=n:=by
 rw[aB (fun _=>Sg) rfl];refine af.aA ?_;unfold CE;refine dL l.length (fun e i (_:Unit)=>tZ Y (aj aa gt Y (d+2)) e (CD Y (aj aa gt Y (d+2))) (aL l) (.int .u32 0) (.int .u32 ((pR (l.take i):Nat):Int)) (jI (i:Nat))) (fun i _ h' n'=>h'=h∧n'=n) ?_ ?_ Y 0 () h n (aO _) jO ⟨rfl,rfl⟩
 ·rintro e _ h' n' ⟨rfl,rfl⟩;have f:=Zg l;rw[tZ,List.take_length,jZ]
  have b:IntKind.u32.wrap (4294967295-((pR l:Nat):Int))=((iJ l:Nat):Int):=by unfold iJ;rw[show(4294967295-((pR l:Nat):Int))=((4294967295-pR l:Nat):Int) by omega];exact fU jO
  refine jA @eT ?_
  (try unfold CD);(try dsimp only)
  exact jC @b
 ·rintro e i _ h' n' a ⟨rfl,rfl⟩ next;have p:((i:Nat):Int)<((l.length:Nat):Int):=jO;have b:((i:Nat):Int)+1=((i+1:Nat):Int):=rfl;have o:l.getD i 0=l[i]:=by rw[bz,bB a];rfl
  have nZ:=fun(K:Value->M Value)=>sM l g .i64 i a K;rw[o]at nZ;have nx:=next () h' n' ⟨rfl,rfl⟩
  have m:pR (l.take (i+1))=jX (pR (l.take i)) l[i]:=by unfold pR;rw[List.take_succ_eq_append_getElem a,AW];rfl
  rw[m]at nx;have f:=Zg (l.take i);rw[tZ,jZ];refine jA @p ?_;rw[nZ];refine bq (alD (Y:=Y) (d:=d) f (g _ (dO a)) c) (ah _) (fun _ _ h=>h.elim) ?_;refine jB ?_;rw[b];exact nx
end
section
variable {Y d n:Nat} {h:H}
theorem alF(l:List Nat)(s:By l)(L:l.length<=3000000)(B:300000000<=Y):af (fun _=>False) n (aj aa gt Y (d+1) 169 #[aL l]) h n fun u h' n'=>Own h' n n' 3 u (aV .i64 (iN (kX l))):=by
 rw[aB (fun _=>af3) rfl];refine af.aA ?_;unfold Jk;refine dL 256 (fun m i (o:Value)=>rR Y (aj aa gt Y d) m (yX Y (aj aa gt Y d)) (aL l) nS o (jI (i:Nat))) (fun i o h' n'=>n<=n'∧Own h' n n' 3 o (aV .i64 (iN (gh l i)))) ?_ ?_ Y 0 nS h n (aO _) jO ⟨ah _,Own.nil _ _ _ _⟩
 ·rintro m o h' n' ⟨q1,q2⟩;have I:¬(((256:Nat):Int)<256):=jD;rw[rR];refine jA @I ?_;unfold yX;rw[lF];exact q2
 ·rintro m i o h' n' N ⟨q1,q2⟩ next;have G:((i:Nat):Int)<256:=jO;have t:((i:Nat):Int)+1=((i+1:Nat):Int):=rfl;rw[rR];refine jA @G ?_;rw[jZ]
  have y:∀j,j<=l.length->(gh l i++fQ l i j).length<=6000000:=fun j k=>by
   rw[bG,lW,wM i k];have P:bh l i<=l.length:=by rw[Ap];exact AS
   have O:fh l i j<=l.length:=by unfold fh cn;refine gV AS ?_;rw[cT];omega
   omega
  refine dL l.length (fun e j (o:Value)=>rQ Y (aj aa gt Y d) e (TW Y (aj aa gt Y d) m (yX Y (aj aa gt Y d))) (aL l) nS o (jI (i:Nat)) (jI (i:Nat)) (.bool true) (jI (l.length:Int)) (jI (j:Nat))) (fun j o h' n'=>n<=n'∧Own h' n n' 3 o (aV .i64 (iN (gh l i++fQ l i j)))) ?_ ?_ Y 0 o h' n' (aO _) jO ⟨q1,by rw[show fQ l i 0=[]from rfl,bV];exact q2⟩
  ·rintro e o h' n' ⟨q1,q2⟩;rw[rQ];refine jA @eT ?_
   (try unfold TW);(try unfold CY);(try dsimp only)
   refine jB ?_;rw[t];exact next o h' n' ⟨q1,q2⟩
  ·rintro e j o h' n' k ⟨q1,q2⟩ a;have E:((j:Nat):Int)<((l.length:Nat):Int):=jO;have q:((j:Nat):Int)+1=((j+1:Nat):Int):=rfl;have nZ:=fun(K:Value->M Value)=>sM l s .i64 j k K;have f:=s.at k;have g:=zY l i j;have v:=y j jO;rw[rQ];refine jA @E ?_;rw[nZ];obtain⟨x,A⟩:∃x,l.getD j 0=x:=⟨_,rfl⟩;rw[A]at f g⊢;have r:IntKind.i64.wrap ((x:Nat):Int)=((x:Nat):Int):=aH jO jO;by_cases c:x=i
   ·have z:(((x:Nat):Int)==((i:Nat):Int))=true:=by rw[c];exact beq_iff_eq.2 rfl
    rw[if_pos c]at g;refine jA (aI @r @z) ?_;refine rL trivial rfl q2 (by rw[eu];unfold iN;rw[fS];omega) (ah n) _ fun C D J=> ?_;have p:(aV .i64 (iN (gh l i++fQ l i j))).length=(gh l i++fQ l i j).length:=by rw[eu];unfold iN;rw[fS]
    rw[p];refine jB ?_;rw[q];refine a _ C (n'+2) ⟨jO, ?_⟩;rw[g,<-ey,pI,mY];exact Own.mk' (b:=n'+1) D jO jO (by simp[aV,iN];omega)
   ·have z:(((x:Nat):Int)==((i:Nat):Int))=false:=beq_eq_false_iff_ne.2 jO;rw[if_neg c,bV]at g;refine jA (aI @r @z) ?_;rw[q];exact a o h' n' ⟨q1,by rw[g];exact q2⟩
theorem alG(l:List Nat)(g:By l)(J:l.length<=3000000)(p:300000000<=Y){b:Nat}(u:b<l.length):af (fun _=>False) n (aj aa gt Y (d+2) 135 #[aL l,jI (b:Int)]) h n fun A _ _=>A=aL (gq l b l.length):=by
 rw[aB (fun _=>afg) rfl];refine af.aA ?_;unfold IW;refine aN aF (alF (Y:=Y) (d:=d) l g J p) (ah _) (fun _ _ h=>h.elim) fun s v t I P o=> ?_;have O:=o.row;rw[jZ];refine dL l.length (fun r i (_:Unit)=>uh Y (aj aa gt Y (d+1)) r (CK Y (aj aa gt Y (d+1))) (aL l) (jI (b:Int)) (aL []) s (aL (gq l b i)) (jI (ir l b i:Int)) (jI (l.length:Int)) (jI (i:Nat))) (fun _ _ j f=>j=v∧f=t) ?_ ?_ Y 0 () v t (aO _) jO ⟨rfl,rfl⟩
 ·rintro r _ j f ⟨rfl,rfl⟩;rw[uh];refine jA @eT ?_
  (try unfold CK);(try dsimp only)
  exact jE
 ·rintro r i _ j f hi ⟨rfl,rfl⟩ next;have T:((i:Nat):Int)<((l.length:Nat):Int):=jO;have z:((i:Nat):Int)+1=((i+1:Nat):Int):=rfl;have G:(iN (kX l)).length=l.length:=by unfold iN;rw[fS,xf g]
  obtain⟨U,m,cap,X,Z,ev,L,N,_,_,_,q⟩:=O.some jO;have D:=uX g u i;have e:=uX g u (i+1);have k:=q (ir l b i) jO;have Q:(iN (kX l)).getD (ir l b i) 0=((ir l b (i+1):Nat):Int):=pG;rw[Q]at k;rw[G]at ev;have nx:=next () j f ⟨rfl,rfl⟩;rw[aka]at nx;have C:(gq l b i).length=i:=by unfold gq;simp
  generalize gq l b i=out at C nx⊢;generalize ir l b (i+1)=c at e k nx⊢;generalize ir l b i=a at D k⊢;have R:((a:Nat):Int)<((l.length:Nat):Int):=jO
  have E:∀K:Value->M Value,bQ s (jI (a:Int)) K=K (jP U (m+a)):=fun K=>by rw[ev];exact jC @R
  have y:((c:Nat):Int)+1=((c+1:Nat):Int):=rfl;have x:IntKind.i64.wrap ((c+1:Nat):Int)=((c+1:Nat):Int):=aH jO jO;have B:=fun(K:Value->M Value)=>LU l .i64 .i64 c K e;have W:=fun(K:Value->M Value)=>oF out [l.getD c 0] (by simp only[cP,iP];omega) K;rw[uh];refine jA (aI @T (aI @E (aI @L (aI @k (aI @y @x))))) ?_;rw[B,W];refine jB ?_;rw[z];exact nx
end
end Go.Proofs.YtmjolmggelkjlaaGreat
namespace Go.Proofs.YtmjolmggelkjlaaGreat.Ev
open Go Go.RowKit
section
variable {β:Type} {W:Nat->Prop} {n0:Nat} {h:H} {n:Nat} {Q:β->H->Nat->Prop} {e:TypeId} {sz:Nat}
end
end Go.Proofs.YtmjolmggelkjlaaGreat.Ev
namespace Go.Proofs.YtmjolmggelkjlaaGreat
open Go.RowKit Ev Cn Ip
theorem alH(x:Nat)(l:List Nat)(k:Value->M Value):cH (aL (x::l)) (aM {data:=#[]}) k=k (.bool false):=by have:=tI (k:=k) ((x::l).map gU) [];unfold aL;rw[show(aM {data:=#[]})= .string ⟨([]:List UInt8).toArray⟩from rfl,this];rfl
def ZU(r:Except Int (List Nat))(a:Value):Prop:=match r with
 | .ok x=>a= .tuple #[aL x,.int .i64 0]
 | .error e=>a= .tuple #[aL [],.int .i64 e]
section
variable {Y d n:Nat} {h:H}
theorem alI{g:Gt}(ok:l5 g.last g.bK)(Z:g.sum<4294967296)(m:300000000<=Y):af (fun _=>False) n (aj aa gt Y (d+4) 105 #[.agg #[aL g.last,jI (g.bK:Int),.int .u32 (g.sum:Int)]]) h n fun y _ _=>ZU (fJ g) y:=by
 obtain⟨last,a,b⟩:=g;have o:=ok.len;have i:=ok.pos;have j:=ok.cG;have p:=ok.iH;dsimp only at o i j p Z ok⊢;have O:=fun(h:H) (n:Nat)=>alG (Y:=Y) (d:=d+1) last p jO m j (n:=n) (h:=h);have N:=fun(h:H) (n:Nat)=>alv (Y:=Y) (d:=d+1) (n:=n) (h:=h) (gq last a last.length) (Zh ok last.length) (by rw[As];omega) m;have L:=fun(h:H) (n:Nat) t (q:cX 0 0 (gq last a last.length)= .ok t)=>alE (Y:=Y) (d:=d) (n:=n) (h:=h) t (LF (Zh ok last.length) jD q) (by have:=Ar q;rw[As]at this;omega) jO (by have:=Ar q;rw[As]at this;omega)
 have bC:fJ ⟨last,a,b⟩=match cX 0 0 (gq last a last.length)with
  | .error _=> .error 25
  | .ok s=>if iJ s=b then .ok s else .error 21:=rfl
 rw[bC];generalize hU:gq last a last.length=U at O N L⊢;rw[aB (fun _=>aeO) rfl];refine af.aA ?_;unfold R5;refine gD trivial _ _ ?_;obtain⟨r,k⟩:∃r,h.set n (some ⟨157,true,(mM #[aL last,jI (a:Int),.int .u32 (b:Int)]).cells.toList⟩)=r:=⟨_,rfl⟩;have J:r.get n=some ⟨157,true,[aL last,jI (a:Int),.int .u32 (b:Int)]⟩:=by rw[<-k,get_eq];rfl
 rw[k];clear k;have X:n<n+1:=dI n;have Q:¬((a:Nat):Int)<0:=jO;have P:¬((last.length:Nat):Int)<=((a:Nat):Int):=jO
 have D:∀K:Value->M Value,cH (aL last) (aM {data:=#[]}) K=K (.bool false):=fun K=>by
  cases last with
  |nil=>exact absurd i jD
  |cons x l=>exact alH x l K
 refine jA (aI @J (aI @D (aI @Q (aI @jZ @P)))) ?_;refine aN aF (O r (n+1)) jO (fun _ _ h=>h.elim) fun v1 h3 T u1 C A=> ?_;subst A;refine aN aF (N h3 T) jO (fun _ _ h=>h.elim) fun R h4 I u0 B f=> ?_;have g4:=((B n jO id).trans (C n X id)).trans J;have W:n<I:=jO;unfold vh at f;cases z:cX 0 0 U with
 |error e=>
  rw[z]at f;obtain⟨e',he,rfl⟩:=f;have u:(e' !=0)=true:=by rw[bne_iff_ne];exact he
  refine jA (aI @bJ (aI @ext1 @u)) ?_;exact rfl
 |ok t=>
  rw[z]at f;have f:R= .tuple #[aL t,jI 0]:=f;subst f;have u:((0:Int) !=0)=false:=rfl;refine jA (aI @bJ (aI @ext1 @u)) ?_;refine kq aF (L h4 I t z) jO fun T1 G=> ?_;refine jB ?_;refine kp trivial n 2 _ g4 W rfl fun T2 E=> ?_;show af _ _ _ _ _ (fun y _ _=>ZU (if iJ t=b then .ok t else .error 21) y);by_cases c:iJ t=b
  ·have v:(((iJ t:Nat):Int) !=((b:Nat):Int))=false:=by rw[c];exact bne_self_eq_false _
   rw[if_pos c];try simp(disch:=first|omega|assumption) only[Nat.reduceAdd,Nat.reduceLT,RZ,v,G.cy E,cf,dJ,dG]
   exact rfl
  ·have v:(((iJ t:Nat):Int) !=((b:Nat):Int))=true:=by rw[bne_iff_ne];omega
   rw[if_neg c];try simp(disch:=first|omega|assumption) only[Nat.reduceAdd,Nat.reduceLT,RZ,v,G.cy E,cf,dJ,dG]
   exact rfl
end
theorem vi(S:List UInt8)(a:Nat):ar S 0 a=(dY S).drop a:=rfl
theorem alJ{s:List Nat}{p:Nat}(a:p<s.length){x:Nat}(h:x∈db 0 s p):x∈s:=by
 unfold db at h;rcases List.mem_cons.1 h with rfl|h
 ·rw[bz,bB a];exact dO _
 ·rcases List.mem_append.1 h with h|h
  ·exact List.mem_of_mem_take h
  ·exact List.mem_of_mem_drop h
theorem ZV:∀(ps s:List Nat),(∀p∈ps,p<s.length)->∀x∈(cr s ps).1,x∈s
 |[],s,_,x,h=>absurd h jl
 |p::ps,s,b,x,h=>by
  have a:=b p List.mem_cons_self;have e:=Ai a;have h:x∈s.getD p 0::(cr (db 0 s p) ps).1:=h;rcases List.mem_cons.1 h with rfl|h
  ·rw[bz,bB a];exact dO _
  ·exact alJ a (ZV ps _ (fun q c=>by rw[e];exact b q (vv _ c)) x h)
theorem alK{s:List Nat}{room b c:Nat}{r:Rs}{g:Gt}{w:Nat}(h:mF s room b c r= .ok g w):∃out z ps,r= .ok out w∧dr (eG s.length room) (ew out)=some (z,ps)∧g=Gt.mk (cr s ps).1 b c∧b<(cr s ps).1.length:=by
 unfold mF at h;cases r with
 |err e=>dsimp only at h;split at h<;>cases h
 |ok out a=>
  dsimp only at h;cases e:dr (eG s.length room) (ew out)with
  |none=>rw[e]at h;cases h
  |some t=>
   obtain⟨z,ps⟩:=t;rw[e]at h;dsimp only at h;split at h
   ·cases h
   ·cases h;exact⟨out,z,ps,rfl,e,rfl,jO⟩
theorem St.alL{b:Type}{a:Nat}{r:St b}{g:b}{w:Nat}(h:r.add a= .ok g w):∃u,r= .ok g u∧w=a+u:=by
 cases r with
 |short=>cases h
 |bad e=>cases h
 |ok x u=>cases h;exact⟨u,rfl,rfl⟩
theorem ZW{room:Nat}{bs:List Bool}{g:Gt}{w:Nat}(h:lK room bs= .ok g w):(∀x∈g.last,x<256)∧g.bK<g.last.length∧g.last.length<=room∧g.sum<4294967296∧w<=bs.length:=by
 unfold lK at h;by_cases d:bs.length<57
 ·rw[if_pos d]at h;cases h
 rw[if_neg d]at h;by_cases c:bs.getD 32 false=true
 ·rw[if_pos c]at h;cases h
 rw[if_neg c]at h;cases e:fA (bs.drop 57)with
 |short=>rw[e]at h;cases h
 |bad x=>rw[e]at h;cases h
 |ok s u=>
  rw[e]at h;obtain⟨k,j,y,i⟩:=uS e;obtain⟨v,r,rfl⟩:=St.alL h;obtain⟨out,z,a,o,m,rfl,q⟩:=alK r;have f:1<=s.length:=List.length_pos_iff.2 j;obtain⟨q1,q2,b⟩:=LX _ _ _ _ f (aO _) m;have q1:a.length+0=z.told:=q1;have q2:z.told+z.aR<=room:=q2;have b:∀p∈a,p<s.length:=b;have B:=EF a s;have le:=ZP o;rw[bE]at le i;have A:=ig (bs.take 32);have l:2^(bs.take 32).length<=2^32:=p9 jD (by rw[cT];omega);have t:(2:Nat)^32=4294967296:=rfl;refine⟨fun x n=>k.lt x (ZV a s b x n),q, ?_, ?_,jO⟩
  ·show(cr s a).1.length<=room;omega
  ·show num (bs.take 32) 0<_;omega
theorem ZX{room:Nat}{bs:List Bool}{e:Int}(h:lK room bs= .bad e):e≠0∧e≠3:=by
 unfold lK at h;by_cases i:bs.length<57
 ·rw[if_pos i]at h;cases h
 rw[if_neg i]at h;by_cases g:bs.getD 32 false=true
 ·rw[if_pos g]at h;cases h;decide
 rw[if_neg g]at h;cases f:fA (bs.drop 57)with
 |short=>rw[f]at h;cases h
 |bad x=>rw[f]at h;cases h;rw[EC f];decide
 |ok s u=>
  rw[f]at h;dsimp only at h
  have b:mF s room (num ((bs.drop 33).take 24) 0) (num (bs.take 32) 0) (iF (s.length+2) (bs.drop (57+u)) (iY s.length room))= .bad e:=by
   cases q:mF s room (num ((bs.drop 33).take 24) 0) (num (bs.take 32) 0) (iF (s.length+2) (bs.drop (57+u)) (iY s.length room))with
   |short=>rw[q]at h;cases h
   |bad x=>rw[q]at h;cases h;rfl
   |ok x y=>rw[q]at h;cases h
  rw[ZI]at b;cases c:qP s.length room (jx (s.length+2) (bs.drop (57+u)))with
  |false=>rw[c]at b;cases b;decide
  |true=>
   rw[c]at b;have b:mF s room (num ((bs.drop 33).take 24) 0) (num (bs.take 32) 0) (iF (s.length+2) (bs.drop (57+u)) nh)= .bad e:=b;unfold mF at b;cases d:iF (s.length+2) (bs.drop (57+u)) nh with
   |err x=>
    rw[d]at b;dsimp only at b;rw[<-LW (bs.drop (57+u)).length (ah _),<-Ez]at d;have:=ZO d;split at b
    ·cases b
    ·cases b;exact⟨this,by assumption⟩
   |ok out a=>
    rw[d]at b;dsimp only at b;split at b
    ·cases b;decide
    ·split at b
     ·cases b;decide
     ·cases b
theorem EZ(a b:List Bool)(k:Value->M Value):fG (tx a) (tx b) k=k (.bool (!decide (a=b))):=by
 unfold tx;rw[He];by_cases e:a=b
 ·rw[decide_eq_true e,decide_eq_true (by rw[e])]
 ·rw[decide_eq_false e,decide_eq_false fun q=>e (La q)]
theorem E0:aM {data:=#[48,48,48,49,48,49,49,49,48,49,49,49,48,48,49,48,48,49,48,48,48,49,48,49,48,48,49,49,49,48,48,48,48,49,48,49,48,48,48,48,49,48,48,49,48,48,48,48]}=tx (cq kv 48):=jK
theorem E1:aM {data:=#[48,48,49,49,48,48,48,49,48,49,48,48,48,48,48,49,48,49,48,49,49,48,48,49,48,48,49,48,48,49,49,48,48,49,48,49,48,48,49,49,48,49,48,49,49,48,48,49]}=tx (cq jV 48):=jK
theorem LZ{l:List Bool}{k x:Nat}(b:l.length=k)(a:x<2^k):(l=cq x k)↔num l 0=x:=by
 constructor
 ·intro h;rw[h];exact zX a
 ·intro h;have:=wL h;rw[b]at this;exact this
section
variable {Y d n0:Nat} {S:List UInt8} {room:Nat}
end
theorem E2(S:List UInt8)(a k:Nat):(ar S 0 a).drop k=ar S 0 (a+k):=by rw[vi,vi,List.drop_drop]
def kB(S:List UInt8)(room:Nat):Nat->Nat->Nat->List Nat
 |0,_,_=>[]
 |N+1,a,t=>if(ar S 0 a).length<48 then []
  else if num ((ar S 0 a).take 48) 0=jV then(match lK room (ar S 0 (a+48))with
   | .ok g w=>match fJ g with
     | .ok x=>x++kB S room N (a+48+w) (fC t g.sum)
     | .error _=>[]
   |_=>[])
  else []
def pV(S:List UInt8)(Z:Nat):Nat->Nat->List Nat
 |0,_=>[]
 |N+1,a=>match iZ S 3 a with
  | .error _=>[]
  | .ok lv=>match (gu S (lv*Z) (NB S) (a+32) 0).2 with
    | .error _=>kB S (lv*Z) (NB S) (a+32) 0
    | .ok b=>kB S (lv*Z) (NB S) (a+32) 0++(if(ar S 0 (b+dq b)).length=0 then []else pV S Z N (b+dq b))
section
variable {S:List UInt8} {room:Nat}
theorem alM:∀(N M a t:Nat),(ar S 0 a).length<48*N->(ar S 0 a).length<48*M->kB S room N a t=kB S room M a t:=by
 intro N
 induction N with
 |zero=>intro M a t h;omega
 |succ N d=>
  intro M a t k j;obtain⟨M,rfl⟩:∃m,M=m+1:=⟨M-1,jO⟩;unfold kB;by_cases c:(ar S 0 a).length<48
  ·rw[if_pos c,if_pos c]
  rw[if_neg c,if_neg c];by_cases b:num ((ar S 0 a).take 48) 0=jV
  ·rw[if_pos b,if_pos b];cases lK room (ar S 0 (a+48))with
   |short=>rfl
   |bad e=>rfl
   |ok g w=>
    dsimp only;cases fJ g with
    |error e=>rfl
    |ok x=>dsimp only;have i:=fy S 0 (a+48+w);have f:=fy S 0 a;rw[d M (a+48+w) (fC t g.sum) jO jO]
  ·rw[if_neg b,if_neg b]
theorem alN:∀(N a t:Nat) (ps:List Pt) (r:Except Int Nat),gu S room N a t=(ps,r)->match r with
 | .ok b=>∃i s,ps=i++[(⟨3,0,((b-80:Nat):Int),(b:Int),(s:Int),0,0,0⟩:Pt)]∧80<=b∧b<=8*S.length
 | .error e=>(∀p∈ps,p.what≠3)∧e≠0:=by
 intro N
 induction N with
 |zero=>intro a t ps r h;cases h;exact⟨fun p c=>absurd c jl,jD⟩
 |succ N y=>
  intro a t ps r h;have no:∀e:Int,e≠0->(∀p∈([]:List Pt),p.what≠3)∧e≠0:=fun e z=>⟨fun p c=>absurd c jl,z⟩;unfold gu at h;by_cases u:(ar S 0 a).length<48
  ·rw[if_pos u]at h;cases h;exact no 24 jD
  rw[if_neg u]at h;by_cases o:num ((ar S 0 a).take 48) 0=jV
  ·rw[if_pos o]at h;cases f:lK room (ar S 0 (a+48))with
   |short=>rw[f]at h;cases h;exact no 24 jD
   |bad e=>rw[f]at h;cases h;exact no _ (ZX f).1
   |ok g w=>
    rw[f]at h;dsimp only at h;cases j:fJ g with
    |error e=>rw[j]at h;cases h;exact no _ (by have:=LG j;omega)
    |ok x=>
     rw[j]at h;dsimp only at h;have d:=y (a+48+w) (fC t g.sum) _ _ rfl;cases h;cases k:(gu S room N (a+48+w) (fC t g.sum)).2 with
     |error e=>
      rw[k]at d;refine⟨fun p c=> ?_,d.2⟩;rcases List.mem_cons.1 c with q|q
      ·rw[q];show(2:Int)≠3;decide
      ·exact d.1 p q
     |ok b=>rw[k]at d;obtain⟨i,s,q1,q2,v⟩:=d;exact⟨_::i,s,by rw[q1];rfl,q2,v⟩
  ·rw[if_neg o]at h;by_cases n:num ((ar S 0 a).take 48) 0=kv
   ·rw[if_pos n]at h;by_cases m:(ar S 0 (a+48)).length<32
    ·rw[if_pos m]at h;cases h;exact no 24 jD
    rw[if_neg m]at h;have A:=fy S 0 (a+48);by_cases l:num ((ar S 0 (a+48)).take 32) 0=t
    ·rw[if_pos l]at h;cases h;exact⟨[],t,by rw[show a+80-80=a by omega];rfl,jO,jO⟩
    ·rw[if_neg l]at h;cases h;exact no 21 jD
   ·rw[if_neg n]at h;cases h;exact no 20 jD
theorem ZY:∀(m a lv:Nat),iZ S m a= .ok lv->8*(m+1)<=(ar S 0 a).length∧1<=lv∧lv<=9:=by
 intro m
 induction m with
 |zero=>
  intro a lv h;unfold iZ at h;by_cases c:(ar S 0 a).length<8
  ·rw[if_pos c]at h;cases h
  rw[if_neg c]at h;by_cases b:num ((ar S 0 a).take 8) 0<49∨57<num ((ar S 0 a).take 8) 0
  ·rw[if_pos b]at h;cases h
  rw[if_neg b]at h;cases h;omega
 |succ m d=>
  intro a lv h;unfold iZ at h;by_cases c:(ar S 0 a).length<8
  ·rw[if_pos c]at h;cases h
  rw[if_neg c]at h;by_cases b:num ((ar S 0 a).take 8) 0=jU.getD (2-m) 0
  ·rw[if_pos b]at h;have:=d _ _ h;have f:=fy S 0 a;have e:=fy S 0 (a+8);omega
  ·rw[if_neg b]at h;cases h
theorem alO:∀(m a:Nat) (e:Int),iZ S m a= .error e->e=24∨e=20:=by
 intro m
 induction m with
 |zero=>
  intro a e h;unfold iZ at h;split at h
  ·cases h;exact .inl rfl
  ·split at h
   ·cases h;exact .inr rfl
   ·cases h
 |succ m b=>
  intro a e h;unfold iZ at h;split at h
  ·cases h;exact .inl rfl
  ·split at h
   ·exact b _ _ h
   ·cases h;exact .inr rfl
theorem alP{a lv:Nat}(h:iZ S 3 a= .ok lv):num ((ar S 0 (a+24)).take 8) 0=lv+48:=by
 have h:(if(ar S 0 a).length<8 then abo 24 else if num ((ar S 0 a).take 8) 0=66 then(if(ar S 0 (a+8)).length<8 then abo 24 else if num ((ar S 0 (a+8)).take 8) 0=90 then(if(ar S 0 (a+8+8)).length<8 then abo 24 else if num ((ar S 0 (a+8+8)).take 8) 0=104 then(if(ar S 0 (a+8+8+8)).length<8 then .error 24 else if num ((ar S 0 (a+8+8+8)).take 8) 0<49∨57<num ((ar S 0 (a+8+8+8)).take 8) 0 then .error 20 else .ok (num ((ar S 0 (a+8+8+8)).take 8) 0-48))else .error 20)else .error 20)else .error 20:Except Int Nat)= .ok lv:=h;rw[show a+8+8+8=a+24 by omega]at h;split at h
 ·cases h
 split at h
 ·split at h
  ·cases h
  split at h
  ·split at h
   ·cases h
   split at h
   ·split at h
    ·cases h
    split at h
    ·cases h
    ·cases h;omega
   ·cases h
  ·cases h
 ·cases h
end
def Az:Except Int Nat->Int
 | .ok _=>0
 | .error e=>e
section
variable {Y d n:Nat} {h:H} {S:List UInt8}
theorem alQ(hS:S.length<=1000000)(Z:1000<=Y)(a:Nat)(ha:a<=8*S.length):af (fun _=>False) n (aj aa gt Y (d+3) 79 #[tx (ar S 0 a)]) h n fun o h' n'=>o=jI (Az (iZ S 3 a))∧h'=h∧n'=n:=by
 rw[aB (fun _=>aeF) rfl];refine af.aA ?_;unfold H6;have rl:=fy S 0 a;refine bq (Yz (Y:=Y) (d:=d) (S:=[66,90,104]) jD (by show 3<Y;omega) jO) (ah n) (fun _ _ h=>h.elim) ?_;have hb:(dY [66,90,104]:List Bool)=vg:=rfl;rw[hb];have bl:vg.length=24:=rfl;have wi:∀i:Nat,((i:Nat):Int)+1=((i+1:Nat):Int):=fun i=>rfl;have w8:∀i:Nat,i<=4->IntKind.i64.wrap (8*((i:Nat):Int))=((8*i:Nat):Int):=fun i u=>by rw[aH jO jO];omega
 have v:∀i:Nat,8*((i:Nat):Int)=((8*i:Nat):Int):=fun i=>by omega
 have Q:∀i:Nat,i<=4->IntKind.i64.wrap (((8*i:Nat):Int)+8)=((8*i+8:Nat):Int):=fun i u=>by rw[aH jO jO];omega
 have y:∀i:Nat,((8*i:Nat):Int)+8=((8*i+8:Nat):Int):=fun i=>rfl
 have R:∀i:Nat,8*i+8<=(ar S 0 a).length->∀K:Value->M Value,bL (tx (ar S 0 a)) (some (jI ((8*i:Nat):Int))) (some (jI ((8*i+8:Nat):Int))) K=K (tx ((ar S 0 (a+8*i)).take 8)):=fun i u K=>by have:=ss (ar S 0 a) .i64 .i64 ((8*i:Nat):Int) ((8*i+8:Nat):Int) K jO jO jO;rw[this,cV,cV,E2,show 8*i+8-8*i=8 by omega]
 have W:∀i:Nat,i<3->∀K:Value->M Value,bL (tx vg) (some (jI ((8*i:Nat):Int))) (some (jI ((8*i+8:Nat):Int))) K=K (tx (cq (jU.getD i 0) 8)):=fun i u K=>by have:=ss vg .i64 .i64 ((8*i:Nat):Int) ((8*i+8:Nat):Int) K jO jO jO;rw[this,cV,cV,show 8*i+8-8*i=8 by omega];congr 2;have:i=0∨i=1∨i=2:=jO;rcases this with rfl|rfl|rfl<;>rfl
 have last:∀b,af (fun _=>False) n (mB Y (aj aa gt Y (d+2)) (b+1) (nY Y (aj aa gt Y (d+2))) (tx (ar S 0 a)) (jI 0) (tx vg) (jI ((4:Nat):Int))) h n fun o h' n'=>o=jI 0∧h'=h∧n'=n:=fun b=>by have j:¬(((4:Nat):Int)<4):=jD;rw[mB];refine jA @j ?_;unfold nY;exact jE
 have p:∀b,2<=b->af (fun _=>False) n (mB Y (aj aa gt Y (d+2)) b (nY Y (aj aa gt Y (d+2))) (tx (ar S 0 a)) (jI 0) (tx vg) (jI ((3:Nat):Int))) h n fun o h' n'=>o=jI (Az (iZ S 0 (a+24)))∧h'=h∧n'=n:=fun b s=>by
  obtain⟨b,rfl⟩:∃f,b=f+1+1:=⟨b-2,jO⟩;have j:((3:Nat):Int)<4:=jD;have E:¬((3:Nat):Int)<3:=jD;have O:(((3:Nat):Int)==3)=true:=rfl;have t:=w8 3 jO;have wt:=Q 3 jO;have e:=v 3;have c:=y 3;have N:=fy S 0 (a+24);rw[mB];unfold iZ;by_cases C:(ar S 0 (a+24)).length<8
  ·have g:(((ar S 0 a).length:Nat):Int)<((8*3+8:Nat):Int):=jO;rw[if_pos C];refine jA (aI @j (aI @cZ (aI @t (aI @wt (aI @e (aI @c @g)))))) ?_;unfold nY;refine jB ?_;exact rfl
  have g:¬(((ar S 0 a).length:Nat):Int)<((8*3+8:Nat):Int):=jO;rw[if_neg C];have r:=R 3 jO;rw[show a+8*3=a+24 by omega]at r;have D:=Aw (Y:=Y) (d:=d+1) (n:=n) (h:=h) ((ar S 0 (a+24)).take 8) (by rw[cT];omega) jO;generalize num ((ar S 0 (a+24)).take 8) 0=q at D⊢;generalize (ar S 0 (a+24)).take 8=L at r D;refine jA (aI @j (aI @cZ (aI @t (aI @wt (aI @e (aI @c (aI @g (aI @r (aI @E @O))))))))) ?_;refine bq D (ah n) (fun _ _ h=>h.elim) ?_;by_cases c4:q<49
  ·have J:((q:Nat):Int)<49:=jO;rw[if_pos (.inl c4)];refine jA @J ?_;unfold nY;refine jB ?_;exact rfl
  have J:¬((q:Nat):Int)<49:=jO;refine jA @J ?_;refine bq D (ah n) (fun _ _ h=>h.elim) ?_;by_cases c5:57<q
  ·have I:(57:Int)<((q:Nat):Int):=jO;rw[if_pos (.inr c5)];refine jA @I ?_;unfold nY;refine jB ?_;exact rfl
  have I:¬(57:Int)<((q:Nat):Int):=jO;rw[if_neg jO];refine jA @I ?_;exact last b
 have go:∀(m b:Nat),m<=3->m+2<=b->af (fun _=>False) n (mB Y (aj aa gt Y (d+2)) b (nY Y (aj aa gt Y (d+2))) (tx (ar S 0 a)) (jI 0) (tx vg) (jI ((3-m:Nat):Int))) h n fun o h' n'=>o=jI (Az (iZ S m (a+8*(3-m))))∧h'=h∧n'=n:=by
  intro m
  induction m with
  |zero=>intro b _ s;exact p b s
  |succ m B=>
   intro b hm s;obtain⟨b,rfl⟩:∃f,b=f+1:=⟨b-1,jO⟩;have B:=B b jO jO;rw[show 3-m=3-(m+1)+1 by omega]at B;rw[mB];unfold iZ;rw[show 2-m=3-(m+1) by omega];have u:3-(m+1)<3:=jO;generalize 3-(m+1)=i at u B⊢;have j:((i:Nat):Int)<4:=jO;have E:((i:Nat):Int)<3:=jO;have O:(((i:Nat):Int)==3)=false:=beq_eq_false_iff_ne.2 jO;have t:=w8 i jO;have wt:=Q i jO;have e:=v i;have c:=y i;have N:=fy S 0 (a+8*i);by_cases C:(ar S 0 (a+8*i)).length<8
   ·have g:(((ar S 0 a).length:Nat):Int)<((8*i+8:Nat):Int):=jO;rw[if_pos C];refine jA (aI @j (aI @cZ (aI @t (aI @wt (aI @e (aI @c @g)))))) ?_;unfold nY;refine jB ?_;exact rfl
   have g:¬(((ar S 0 a).length:Nat):Int)<((8*i+8:Nat):Int):=jO;rw[if_neg C];have z:=R i jO;have A:=W i u
   have X:jU.getD i 0<2^8:=by have:i=0∨i=1∨i=2:=jO;rcases this with rfl|rfl|rfl<;>decide
   have T:=LZ (l:=(ar S 0 (a+8*i)).take 8) (k:=8) (x:=jU.getD i 0) (by rw[cT];omega) X;by_cases G:num ((ar S 0 (a+8*i)).take 8) 0=jU.getD i 0
   ·have P:∀K:Value->M Value,fG (tx ((ar S 0 (a+8*i)).take 8)) (tx (cq (jU.getD i 0) 8)) K=K (.bool false):=fun K=>by rw[EZ,decide_eq_true (T.2 G)];rfl
    rw[if_pos G];refine jA (aI @j (aI @cZ (aI @t (aI @wt (aI @e (aI @c (aI @g (aI @z (aI @A (aI @E (aI @P @O))))))))))) ?_;rw[show a+8*i+8=a+8*(i+1) by omega];exact B
   ·have P:∀K:Value->M Value,fG (tx ((ar S 0 (a+8*i)).take 8)) (tx (cq (jU.getD i 0) 8)) K=K (.bool true):=fun K=>by rw[EZ,decide_eq_false (fun q=>G (T.1 q))];rfl
    rw[if_neg G];refine jA (aI @j (aI @cZ (aI @t (aI @wt (aI @e (aI @c (aI @g (aI @z (aI @A (aI @E @P)))))))))) ?_;unfold nY;refine jB ?_;exact rfl
 exact go 3 Y (ah _) jO
end
def ZZ(S:List UInt8)(a0:Nat)(out:List Nat)(r:Except Int Nat)(a:Value):Prop:=match r with
 | .ok b=>a= .agg #[aL out,.int .i64 ((b-a0:Nat):Int),.int .i64 0]
 | .error e=>a= .agg #[aL [],.int .i64 0,.int .i64 e]
section
variable {Y d n:Nat} {S:List UInt8} {room:Nat}
theorem alR(hS:S.length<=1000)(w2:room<=900000)(u5:300000000<=Y){a0:Nat}:∀(N a D m i:Nat) (k:List Nat) (out:List Nat) (h:H) (fv:Value),(ar S 0 a).length<48*N->N+i<=8*S.length-a0+1->N<=D->n+2<=m->a0<=a->a<=8*S.length->k.length+N<=100000->out.length+225900000*N<=1000000000000->
 h.get n=some ⟨126,true,kf⟩->h.get (n+1)=some ⟨126,true,[aL out,jI ((a-a0:Nat):Int),jI 0]⟩->Own h n m 31 fv (aV .u32 (iN k))->(∀t∈k,t<4294967296)->
 af (fun _=>False) n (wo Y (aj aa gt Y (d+8)) D (wv Y (aj aa gt Y (d+8))) (tx (ar S 0 a0)) (jI (room:Int)) (jP n 0) (jP (n+1) 0) fv (jI ((8*S.length-a0+1:Nat):Int)) (jI (i:Int))) h m (fun v' _ _=>ZZ S a0 (out++kB S room N a (k.foldl fC 0)) (gu S room N a (k.foldl fC 0)).2 v'):=by
 intro N
 induction N with
 |zero=>intro a D m i k out h fv hN;omega
 |succ N ih=>
  intro a D m i k out h fv hN y1 y2 hm h0 ha x6 x7 y O of ht;obtain⟨D,rfl⟩:∃f,D=f+1:=⟨D-1,jO⟩;have al:(ar S 0 a0).length=8*S.length-a0:=by rw[fy];omega
  have rl:(ar S 0 a).length=8*S.length-a:=by rw[fy];omega
  have c0:((i:Nat):Int)<((8*S.length-a0+1:Nat):Int):=jO;have W:n<m:=jO;have v8:n+1<m:=jO
  have err:∀(e:Int) (h':H) (m':Nat),m<=m'->h'.get n=some ⟨126,true,kf⟩->af (fun _=>False) n (aQ 3 (jP n 0) (.agg #[aL [],jI 0,jI e]) fun _=>(wv Y (aj aa gt Y (d+8))).2 (jP n 0)) h' m' (fun v' _ _=>v'= .agg #[aL [],jI 0,jI e]):=fun e h' m' y0 g=>by refine cA (sz:=3) trivial (vs:=[aL [],jI 0,jI e]) rfl rfl rfl g jO (.inl (ah _)) _ fun h1 g1 k1=> ?_;unfold wv;dsimp only;exact eD trivial trivial g1 rfl jO rfl
  have w0:IntKind.i64.wrap (((8*S.length-a0:Nat):Int)-((a-a0:Nat):Int))=((8*S.length-a:Nat):Int):=by rw[aH jO jO];omega
  have p:((8*S.length-a0:Nat):Int)-((a-a0:Nat):Int)=((8*S.length-a:Nat):Int):=jO;rw[wo];unfold gu kB;by_cases c1:(ar S 0 a).length<48
  ·have U:((8*S.length-a:Nat):Int)<48:=jO;rw[if_pos c1,if_pos c1];refine jA (aI @c0 (aI @cZ (aI @al (aI @O (aI @w0 (aI @p @U)))))) ?_;exact err 24 h m (ah _) y
  have U:¬((8*S.length-a:Nat):Int)<48:=jO;rw[if_neg c1,if_neg c1];have r:IntKind.i64.wrap (((a-a0:Nat):Int)+48)=((a+48-a0:Nat):Int):=by rw[aH jO jO];omega
  have o:((a-a0:Nat):Int)+48=((a+48-a0:Nat):Int):=jO
  have v:∀K:Value->M Value,bL (tx (ar S 0 a0)) (some (jI ((a-a0:Nat):Int))) (some (jI ((a+48-a0:Nat):Int))) K=K (tx ((ar S 0 a).take 48)):=fun K=>by have:=ss (ar S 0 a0) .i64 .i64 ((a-a0:Nat):Int) ((a+48-a0:Nat):Int) K jO jO jO;rw[this,cV,cV,E2,show a0+(a-a0)=a by omega,show a+48-a0-(a-a0)=48 by omega]
  have ml:((ar S 0 a).take 48).length=48:=by rw[cT];omega
  have fE:=LZ (l:=(ar S 0 a).take 48) (x:=kv) ml jD;have fM:=LZ (l:=(ar S 0 a).take 48) (x:=jV) ml jD
  have sL:∀K:Value->M Value,bL (tx (ar S 0 a0)) (some (jI ((a+48-a0:Nat):Int))) none K=K (tx (ar S 0 (a+48))):=fun K=>by have:=oi (ar S 0 a0) .i64 ((a+48-a0:Nat):Int) K jO jO;rw[this,cV,E2,show a0+(a+48-a0)=a+48 by omega]
  by_cases R:num ((ar S 0 a).take 48) 0=jV
  ·have eM:=fM.2 R
   have nE:¬(ar S 0 a).take 48=cq kv 48:=fun q=>by have:=fE.1 q;rw[R]at this;exact absurd this jD
   have X:∀K:Value->M Value,cH (tx ((ar S 0 a).take 48)) (tx (cq kv 48)) K=K (.bool false):=fun K=>by rw[wY,decide_eq_false nE]
   have kM:∀K:Value->M Value,fG (tx ((ar S 0 a).take 48)) (tx (cq jV 48)) K=K (.bool false):=fun K=>by rw[EZ,decide_eq_true eM];rfl
   rw[if_pos R,if_pos R];have v6:(ar S 0 (a+48)).length=8*S.length-(a+48):=by rw[fy];omega
   refine jA (aI @c0 (aI @cZ (aI @al (aI @O (aI @w0 (aI @p (aI @U (aI @r (aI @o (aI @v (aI @E0 (aI @E1 (aI @X (aI @kM @sL)))))))))))))) ?_;refine aN aF (alo (Y:=Y) (d:=d+1) (ar S 0 (a+48)) jO (room:=room) jO (gV jD u5)) jO (fun _ _ h=>h.elim) fun v1 h1 J x9 P c=> ?_;refine dX rfl _ ?_;have l1:J<J+1:=jO;cases Q:lK room (ar S 0 (a+48))with
   |short=>rw[Q]at c;have c:v1= .agg #[aL [],jI 0,.int .u32 0,jI 0,jI 0,jI 3]:=c;subst c;refine cA (sz:=6) trivial (vs:=[aL [],jI 0,.int .u32 0,jI 0,jI 0,jI 3]) rfl rfl rfl (get_eq _ _ _) jO (.inl jO) _ fun h2 Z k2=> ?_;have T:((3:Int)==3)=true:=rfl;refine jA (aI @Z @T) ?_;exact err 24 h2 _ jO (by rw[k2 n jO,aw _ _ jO];exact(P n W id).trans y)
   |bad e=>
    obtain⟨x1,w9⟩:=ZX Q;rw[Q]at c;have c:v1= .agg #[aL [],jI 0,.int .u32 0,jI 0,jI 0,jI e]:=c;subst c;refine cA (sz:=6) trivial (vs:=[aL [],jI 0,.int .u32 0,jI 0,jI 0,jI e]) rfl rfl rfl (get_eq _ _ _) jO (.inl jO) _ fun h2 Z k2=> ?_;have T:(e !=0)=true:=by rw[bne_iff_ne];exact x1
    have z2:(e==3)=false:=beq_eq_false_iff_ne.2 w9;refine jA (aI @Z (aI @z2 @T)) ?_;exact err e h2 _ jO (by rw[k2 n jO,aw _ _ jO];exact(P n W id).trans y)
   |ok g w=>
    obtain⟨g1,Z,g3,g4,g5⟩:=ZW Q;rw[Q]at c;obtain⟨hd,c⟩:=c;subst c;obtain⟨last,z,u⟩:=g;dsimp only at g1 Z g3 g4⊢;refine cA (sz:=6) trivial (vs:=[aL last,jI (z:Int),.int .u32 (u:Int),jI (w:Int),jI hd,jI 0]) rfl rfl rfl (get_eq _ _ _) jO (.inl jO) _ fun h2 gg k2=> ?_;have jJ:∀b,b<m->h2.get b=h.get b:=fun b hb=>by rw[k2 b jO,aw _ _ jO];exact P b hb id
    have T:((0:Int) !=0)=false:=rfl;have z2:((0:Int)==3)=false:=rfl;have v9:l5 last z:=⟨g1,jO,jO,Z⟩;refine jA (aI @gg (aI @z2 @T)) ?_;refine gE trivial trivial J 0 _ gg l1 (show 0+3<=6 by omega) ?_;refine aN aF (alI (Y:=Y) (d:=d+4) (g:=⟨last,z,u⟩) v9 g4 u5) jO (fun _ _ h=>h.elim) fun v3 h3 I x8 v0 j=> ?_;have L:=(v0 J l1 id).trans gg;have s:∀b,b<m->h3.get b=h.get b:=fun b hb=>(v0 b jO id).trans (jJ b hb);have l3:J<I:=jO;cases e3:fJ ⟨last,z,u⟩with
    |error e=>
     have be:=LG e3;rw[e3]at j;have j:v3= .tuple #[aL [],jI e]:=j;subst j;have z4:(e !=0)=true:=by rw[bne_iff_ne];omega
     refine jA (aI @bJ (aI @ext1 @z4)) ?_;exact err e h3 _ jO ((s n W).trans y)
    |ok x=>
     have xl:=Zi e3;rw[e3]at j;have j:v3= .tuple #[aL x,jI 0]:=j;subst j;dsimp only at xl⊢;have w5:IntKind.i64.wrap (((a+48-a0:Nat):Int)+(w:Int))=((a+48+w-a0:Nat):Int):=by rw[aH jO jO];omega
     have v4:((a+48-a0:Nat):Int)+(w:Int)=((a+48+w-a0:Nat):Int):=jO;have xY:Own h3 n I 31 fv (aV .u32 (iN k)):=of.au jO fun b hb=>s b (of.lt hb).2;have u6:=(s n W).trans y;have u9:=(s (n+1) v8).trans O
     have G:∀{b:Nat} {B:AB},h3.get b=some B->B.elem≠31->¬aK fv b:=fun Q e2 q=>by obtain⟨B',u1,u2⟩:=xY.elem q;rw[Q]at u1;cases u1;exact e2 u2
     refine jA (aI @bJ (aI @ext1 (aI @T @L))) ?_;refine rL trivial rfl xY (by rw[eu];unfold iN;rw[fS];omega) (ah n) _ fun h5 g5 k5=> ?_;have w3:=(k5 n jO (G u6 (show 126≠31 by decide))).trans u6;have u7:=(k5 (n+1) jO (G u9 (show 126≠31 by decide))).trans u9;have w4:=(k5 J l3 (G L (show 159≠31 by decide))).trans L;have x5:J<I+2:=jO;have v7:n+1<I+2:=jO;have ad:=fun(K:Value->M Value)=>oF out x jO K;refine jA (aI @u7 (aI @w4 (aI @w5 (aI @v4 @ad)))) ?_;refine cA (sz:=3) trivial (vs:=[aL (out++x),jI ((a+48+w-a0:Nat):Int),jI 0]) rfl rfl rfl u7 v7 (.inl jO) _ fun h6 g6 k6=> ?_;have wi:((i:Nat):Int)+1=((i+1:Nat):Int):=rfl;refine jB ?_;rw[wi]
     have:=ih (a+48+w) D (I+2) (i+1) (k++[u]) (out++x) h6 (.slice (some ⟨I+1,0,none⟩) ((aV .u32 (iN k)).length+1) (bo+((aV .u32 (iN k)).length+1))) (by rw[fy];omega) jO jO jO jO jO (by rw[bG];simp only[cP,iP];omega) (by rw[bG];omega) ((k6 n jO).trans w3) g6 (by
      rw[pI,mY]
      exact Own.mk' ((k6 (I+1) jO).trans g5) jO jO (by rw[bG];rfl)) (fun t hq=>by
      rcases List.mem_append.1 hq with q|q
      ·exact ht t q
      ·rw[List.mem_singleton.1 q];exact g4)
     rw[AW,ey]at this;exact this
  rw[if_neg R,if_neg R];have nM:¬(ar S 0 a).take 48=cq jV 48:=fun q=>R (fM.1 q);have kM:∀K:Value->M Value,fG (tx ((ar S 0 a).take 48)) (tx (cq jV 48)) K=K (.bool true):=fun K=>by rw[EZ,decide_eq_false nM];rfl
  by_cases cE:num ((ar S 0 a).take 48) 0=kv
  ·have eE:=fE.2 cE;have X:∀K:Value->M Value,cH (tx ((ar S 0 a).take 48)) (tx (cq kv 48)) K=K (.bool true):=fun K=>by rw[wY,decide_eq_true eE]
   have v6:(ar S 0 (a+48)).length=8*S.length-(a+48):=by rw[fy];omega
   have u3:IntKind.i64.wrap (((8*S.length-a0:Nat):Int)-((a+48-a0:Nat):Int))=((8*S.length-(a+48):Nat):Int):=by rw[aH jO jO];omega
   have C:((8*S.length-a0:Nat):Int)-((a+48-a0:Nat):Int)=((8*S.length-(a+48):Nat):Int):=jO;rw[if_pos cE];by_cases v2:(ar S 0 (a+48)).length<32
   ·have E:((8*S.length-(a+48):Nat):Int)<32:=jO;rw[if_pos v2];refine jA (aI @c0 (aI @cZ (aI @al (aI @O (aI @w0 (aI @p (aI @U (aI @r (aI @o (aI @v (aI @E0 (aI @E1 (aI @X (aI @u3 (aI @C @E))))))))))))))) ?_;exact err 24 h m (ah _) y
   have E:¬((8*S.length-(a+48):Nat):Int)<32:=jO;have u0:IntKind.i64.wrap (((a+48-a0:Nat):Int)+32)=((a+80-a0:Nat):Int):=by rw[aH jO jO];omega
   have A:((a+48-a0:Nat):Int)+32=((a+80-a0:Nat):Int):=jO
   have v5:∀K:Value->M Value,bL (tx (ar S 0 a0)) (some (jI ((a+48-a0:Nat):Int))) (some (jI ((a+80-a0:Nat):Int))) K=K (tx ((ar S 0 (a+48)).take 32)):=fun K=>by have:=ss (ar S 0 a0) .i64 .i64 ((a+48-a0:Nat):Int) ((a+80-a0:Nat):Int) K jO jO jO;rw[this,cV,cV,E2,show a0+(a+48-a0)=a+48 by omega,show a+80-a0-(a+48-a0)=32 by omega]
   have u4:=Aw (Y:=Y) (d:=d+7) (n:=m) (h:=h) ((ar S 0 (a+48)).take 32) (by rw[cT];omega) jO;have w1:=akQ (Y:=Y) (d:=d+6) (n:=m) (h:=h) k ht jO (of.row) jO;rw[if_neg v2];refine jA (aI @c0 (aI @cZ (aI @al (aI @O (aI @w0 (aI @p (aI @U (aI @r (aI @o (aI @v (aI @E0 (aI @E1 (aI @X (aI @u3 (aI @C (aI @E (aI @u0 (aI @A @v5)))))))))))))))))) ?_;refine bq u4 jO (fun _ _ h=>h.elim) ?_;refine bq w1 jO (fun _ _ h=>h.elim) ?_;by_cases cs:num ((ar S 0 (a+48)).take 32) 0=k.foldl fC 0
   ·have zs:(((num ((ar S 0 (a+48)).take 32) 0:Nat):Int) !=((k.foldl fC 0:Nat):Int))=false:=by rw[cs];exact bne_self_eq_false _
    rw[if_pos cs];refine jA (aI @zs (aI @O (aI @u0 @A))) ?_;refine cA (sz:=3) trivial (vs:=[aL out,jI ((a+80-a0:Nat):Int),jI 0]) rfl rfl rfl y W (.inl (ah _)) _ fun h1 g1 k1=> ?_;unfold wv;dsimp only;refine eD trivial trivial g1 rfl W ?_;rw[bV];rfl
   ·have zs:(((num ((ar S 0 (a+48)).take 32) 0:Nat):Int) !=((k.foldl fC 0:Nat):Int))=true:=by rw[bne_iff_ne];omega
    rw[if_neg cs];refine jA @zs ?_;exact err 21 h m (ah _) y
  ·have nE:¬(ar S 0 a).take 48=cq kv 48:=fun q=>cE (fE.1 q);have X:∀K:Value->M Value,cH (tx ((ar S 0 a).take 48)) (tx (cq kv 48)) K=K (.bool false):=fun K=>by rw[wY,decide_eq_false nE]
   rw[if_neg cE];refine jA (aI @c0 (aI @cZ (aI @al (aI @O (aI @w0 (aI @p (aI @U (aI @r (aI @o (aI @v (aI @E0 (aI @E1 (aI @X @kM))))))))))))) ?_;exact err 20 h m (ah _) y
theorem alS(l:S.length<=1000)(a:room<=900000)(e:300000000<=Y){a0:Nat}(k:a0<=8*S.length){h:H}:af (fun _=>False) n (aj aa gt Y (d+9) 80 #[tx (ar S 0 a0),jI (room:Int)]) h n (fun g _ _=>ZZ S a0 (kB S room (NB S) a0 0) (gu S room (NB S) a0 0).2 g):=by
 rw[aB (fun _=>aeH) rfl];refine af.aA ?_;unfold H7;have b:(ar S 0 a0).length=8*S.length-a0:=by rw[fy];omega
 have r:NB S=S.length/6+1:=rfl;refine dX rfl _ ?_;refine jB ?_;refine dX rfl _ ?_;refine cA (sz:=3) trivial (vs:=[aL [],jI 0,jI 0]) rfl rfl rfl (get_eq _ _ _) jO (.inl jO) _ fun m o i=> ?_;have f:IntKind.i64.wrap (((8*S.length-a0:Nat):Int)+1)=((8*S.length-a0+1:Nat):Int):=by rw[aH jO jO];omega
 have c:((8*S.length-a0:Nat):Int)+1=((8*S.length-a0+1:Nat):Int):=jO;refine jA (aI @cZ (aI @b (aI @f @c))) ?_;obtain⟨M,s⟩:∃M,M=(8*S.length-a0)/48+1:=⟨_,rfl⟩;have q:gu S room (NB S) a0 0=gu S room M a0 0:=ak' _ _ _ _ (by rw[b];omega) (by rw[b];omega);have p:kB S room (NB S) a0 0=kB S room M a0 0:=alM _ _ _ _ (by rw[b];omega) (by rw[b];omega);rw[q,p];have:=alR (d:=d) (n:=n) (room:=room) l a e (a0:=a0) M a0 Y (n+1+1) 0 [] [] m nS (by rw[b];omega) jO jO jO (ah _) k (by simp only[iP];omega) (by simp only[iP];omega) (by rw[i n jO,aw _ _ jO,get_eq];rfl) (by rw[Nat.sub_self];exact o) (Own.nil _ _ _ _) (fun t j=>absurd j jl);exact this
end
def sN(T:List Nat)(e:Int)(a:Value):Prop:=if e=0 then a= .agg #[aL T,jI 0]else a= .agg #[aL [],jI e]
theorem Z0(b:Nat):(b+7)/8*8=b+dq b:=by unfold dq;omega
section
variable {S:List UInt8} {Z:Nat}
theorem Z1{room:Nat}(b:room<=900000):∀(N a t:Nat),(kB S room N a t).length<=225900000*N
 |0,a,t=>ah _
 |N+1,a,t=>by
  unfold kB;split
  ·exact aO _
  ·split
   ·split
    ·next g w d=>
     split
     ·next x c=>have f:=Zi c;obtain⟨_,_,e,_,_⟩:=ZW d;have:=Z1 b N (a+48+w) (fC t g.sum);rw[bG];omega
     ·exact aO _
    ·exact aO _
   ·exact aO _
end
section
variable {Y d n:Nat} {h:H} {S:List UInt8} {Z:Nat}
theorem alT(hS:S.length<=1000)(hu:Z<=100000)(s:300000000<=Y){sv:Value}:∀(N a l m c:Nat) (out:List Nat) (h:H),N+c=S.length+1->N<l->n+1<=m->a<=8*S.length->a %8=0->out.length+100000000000*N<=1000000000000000->
 h.get n=some ⟨51,true,z51⟩->
 af (fun _=>False) n (tT Y (aj aa gt Y (d+10)) l (tU Y (aj aa gt Y (d+10))) (jI (Z:Int)) sv (jP n 0) (tx (dY S)) (aL out) (jI (a:Int)) (jI ((S.length+1:Nat):Int)) (jI (c:Int))) h m (fun r _ _=>sN (out++pV S Z N a) (oE S Z N a).2 r):=by
 intro N
 induction N with
 |zero=>intro a l m c out h Q R hm ha h8 O o;obtain⟨l,rfl⟩:∃f,l=f+1:=⟨l-1,jO⟩;have c0:¬((c:Nat):Int)<((S.length+1:Nat):Int):=jO;rw[tT];refine jA @c0 ?_;unfold tU;dsimp only;refine jB ?_;refine cA (sz:=2) trivial (vs:=[aL [],jI 24]) rfl rfl rfl o jO (.inl (ah _)) _ fun h1 g1 k1=> ?_;exact eD trivial trivial g1 rfl jO rfl
 |succ N ih=>
  intro a l m c out h Q R hm ha h8 O o;obtain⟨l,rfl⟩:∃f,l=f+1:=⟨l-1,jO⟩;have bl:(dY S).length=8*S.length:=Aa S;have c0:((c:Nat):Int)<((S.length+1:Nat):Int):=jO;have J:n<m:=jO
  have err:∀(e:Int) (X:H) (I:Nat),m<=I->X.get n=some ⟨51,true,z51⟩->af (fun _=>False) n (aQ 2 (jP n 0) (.agg #[aL [],jI e]) fun _=>(tU Y (aj aa gt Y (d+10))).2 (jP n 0)) X I (fun r _ _=>r= .agg #[aL [],jI e]):=fun e X I u2 g=>by refine cA (sz:=2) trivial (vs:=[aL [],jI e]) rfl rfl rfl g jO (.inl (ah _)) _ fun h1 g1 k1=> ?_;unfold tU;dsimp only;exact eD trivial trivial g1 rfl jO rfl
  have sa:∀K:Value->M Value,bL (tx (dY S)) (some (jI (a:Int))) none K=K (tx (ar S 0 a)):=fun K=>by have:=oi (dY S) .i64 (a:Int) K jO jO;rw[this,cV,vi]
  have U:=alQ (Y:=Y) (d:=d+7) (n:=m) (h:=h) (S:=S) jO (gV jD s) a ha;rw[tT];unfold oE pV;refine jA @c0 ?_;rw[sa];refine bq U jO (fun _ _ h=>h.elim) ?_;cases eb:iZ S 3 a with
  |error e=>
   have be:=alO _ _ _ eb;have y:(e !=0)=true:=by rw[bne_iff_ne];omega
   unfold Az;refine jA @y ?_;refine(err e h m (ah _) o).mono ?_;rintro r _ _ _ rfl;show sN _ e _;unfold sN;rw[if_neg jO]
  |ok lv=>
   obtain⟨u4,u3,P⟩:=ZY _ _ _ eb;have hv:=alP eb;have rl:=fy S 0 a;have y:((0:Int) !=0)=false:=rfl;have C:IntKind.i64.wrap (((a:Nat):Int)+24)=((a+24:Nat):Int):=by rw[aH jO jO];omega
   have q:((a:Nat):Int)+24=((a+24:Nat):Int):=jO;have fU:IntKind.i64.wrap (((a:Nat):Int)+32)=((a+32:Nat):Int):=by rw[aH jO jO];omega
   have k:((a:Nat):Int)+32=((a+32:Nat):Int):=jO
   have s8:∀K:Value->M Value,bL (tx (dY S)) (some (jI ((a+24:Nat):Int))) (some (jI ((a+32:Nat):Int))) K=K (tx ((ar S 0 (a+24)).take 8)):=fun K=>by have:=ss (dY S) .i64 .i64 ((a+24:Nat):Int) ((a+32:Nat):Int) K jO jO jO;rw[this,cV,cV,vi,show a+32-(a+24)=8 by omega]
   have D:∀K:Value->M Value,bL (tx (dY S)) (some (jI ((a+32:Nat):Int))) none K=K (tx (ar S 0 (a+32))):=fun K=>by have:=oi (dY S) .i64 ((a+32:Nat):Int) K jO jO;rw[this,cV,vi]
   have hn:=Aw (Y:=Y) (d:=d+9) (n:=m) (h:=h) ((ar S 0 (a+24)).take 8) (by rw[cT];omega) jO;rw[hv]at hn;have wl:IntKind.i64.wrap ((lv+48:Nat):Int)=((lv+48:Nat):Int):=aH jO jO;have z:IntKind.i64.wrap (((lv+48:Nat):Int)-48)=((lv:Nat):Int):=by rw[aH jO jO];omega
   have p:((lv+48:Nat):Int)-48=((lv:Nat):Int):=jO;have rm:lv*Z<=9*Z:=qT _ P
   have wm:IntKind.i64.wrap (((lv:Nat):Int)*((Z:Nat):Int))=((lv*Z:Nat):Int):=by rw[show((lv:Nat):Int)*((Z:Nat):Int)=((lv*Z:Nat):Int)from(Int.natCast_mul lv Z).symm,aH jO jO]
   unfold Az;refine jA (aI @y (aI @C (aI @q (aI @fU @k)))) ?_;rw[s8];refine bq hn jO (fun _ _ h=>h.elim) ?_;refine jA (aI @wl (aI @z (aI @p (aI @fU @k)))) ?_;rw[D];refine jA @wm ?_;refine aN aF (alS (Y:=Y) (d:=d+1) (room:=lv*Z) hS jO s (a0:=a+32) jO) jO (fun _ _ h=>h.elim) fun v1 h1 E u1 t i=> ?_;refine dX rfl _ ?_;have l1:E<E+1:=jO;try dsimp only
   have j:=alN (S:=S) (room:=lv*Z) (NB S) (a+32) 0 (gu S (lv*Z) (NB S) (a+32) 0).1 (gu S (lv*Z) (NB S) (a+32) 0).2 rfl;have W:=Z1 (S:=S) (room:=lv*Z) jO (NB S) (a+32) 0;have nb:NB S=S.length/6+1:=rfl;cases er:(gu S (lv*Z) (NB S) (a+32) 0).2 with
   |error e=>
    rw[er]at i j;have e0:e≠0:=j.2;have i:v1= .agg #[aL [],jI 0,jI e]:=i;subst i;refine cA (sz:=3) trivial (vs:=[aL [],jI 0,jI e]) rfl rfl rfl (get_eq _ _ _) jO (.inl jO) _ fun u g2 L=> ?_;have x:(e !=0)=true:=by rw[bne_iff_ne];exact e0
    refine jA (aI @g2 @x) ?_;refine(err e u _ jO (by rw[L n jO,aw _ _ jO];exact(t n J id).trans o)).mono ?_;rintro r _ _ _ rfl;show sN _ e _;unfold sN;rw[if_neg e0]
   |ok b=>
    rw[er]at i j;obtain⟨_,_,_,u6,bS⟩:=j;have u5:=Zw _ _ _ er;have i:v1= .agg #[aL (kB S (lv*Z) (NB S) (a+32) 0),jI ((b-(a+32):Nat):Int),jI 0]:=i;subst i;generalize hT:kB S (lv*Z) (NB S) (a+32) 0=T at W⊢;refine cA (sz:=3) trivial (vs:=[aL T,jI ((b-(a+32):Nat):Int),jI 0]) rfl rfl rfl (get_eq _ _ _) jO (.inl jO) _ fun u g2 L=> ?_;have jJ:∀b,b<m->u.get b=h.get b:=fun b hb=>by rw[L b jO,aw _ _ jO];exact t b hb id
    have x:((0:Int) !=0)=false:=rfl;have ad:=fun(K:Value->M Value)=>oF out T jO K;have w3:IntKind.i64.wrap (((a+32:Nat):Int)+((b-(a+32):Nat):Int))=((b:Nat):Int):=by rw[aH jO jO];omega
    have B:((a+32:Nat):Int)+((b-(a+32):Nat):Int)=((b:Nat):Int):=jO;have w7:IntKind.i64.wrap (((b:Nat):Int)+7)=((b+7:Nat):Int):=by rw[aH jO jO];omega
    have A:((b:Nat):Int)+7=((b+7:Nat):Int):=jO;have d8:((b+7:Nat):Int).tdiv 8=(((b+7)/8:Nat):Int):=rfl;have v8:IntKind.i64.wrap (((b+7)/8:Nat):Int)=(((b+7)/8:Nat):Int):=aH jO jO
    have m8:IntKind.i64.wrap ((((b+7)/8:Nat):Int)*8)=((b+dq b:Nat):Int):=by rw[<-Z0,show(((b+7)/8:Nat):Int)*8=(((b+7)/8*8:Nat):Int) by omega,aH jO jO]
    have G:(((b+7)/8:Nat):Int)*8=((b+dq b:Nat):Int):=by rw[<-Z0];omega
    have pn:=Zq b;have u0:=fy S 0 (b+dq b);refine jA (aI @g2 (aI @x (aI @ad (aI @fU (aI @k (aI @w3 (aI @B (aI @w7 (aI @A (aI @d8 (aI @v8 (aI @m8 (aI @G (aI @cZ @bl)))))))))))))) ?_;by_cases v:(ar S 0 (b+dq b)).length=0
    ·have zq:(((b+dq b:Nat):Int)==((8*S.length:Nat):Int))=true:=beq_iff_eq.2 jO;rw[if_pos v,if_pos v];refine jA @zq ?_;refine cA (sz:=2) trivial (vs:=[aL (out++T),jI 0]) rfl rfl rfl ((jJ n J).trans o) jO (.inl (ah _)) _ fun h3 g3 k3=> ?_;unfold tU;dsimp only;refine eD trivial trivial g3 rfl jO ?_;unfold sN;rw[if_pos rfl,bV]
    ·have zq:(((b+dq b:Nat):Int)==((8*S.length:Nat):Int))=false:=beq_eq_false_iff_ne.2 jO;rw[if_neg v,if_neg v];have wi:((c:Nat):Int)+1=((c+1:Nat):Int):=rfl;refine jA @zq ?_;rw[wi];have:=ih (b+dq b) l (E+1) (c+1) (out++T) u jO jO jO jO jO (by rw[bG];omega) ((jJ n J).trans o);rw[ey]at this;exact this
theorem alU(i:S.length<=1000)(g:Z<=100000)(b:300000000<=Y):af (fun _=>False) n (aj aa gt Y (d+11) 26 #[jI (Z:Int),.string ⟨S.toArray⟩]) h n (fun e _ _=>sN (pV S Z (S.length+1) 0) (oE S Z (S.length+1) 0).2 e):=by
 rw[aB (fun _=>aeg) rfl];refine af.aA ?_;unfold HG;refine dX rfl _ ?_;refine bq (Yz (Y:=Y) (d:=d+8) (S:=S) jO jO jO) jO (fun _ _ h=>h.elim) ?_;have c:IntKind.i64.wrap ((S.length:Int)+1)=((S.length+1:Nat):Int):=by rw[aH jO jO];omega
 have a:(S.length:Int)+1=((S.length+1:Nat):Int):=jO;have f:∀K:Value->M Value,bH (.string ⟨S.toArray⟩) K=K (jI (S.length:Int)):=fun K=>yv K S;refine jA (aI @f (aI @c @a)) ?_;exact alT (d:=d) i g b (S.length+1) 0 Y (n+1) 0 [] _ rfl jO (ah _) (aO _) rfl (by rw[iP,fD];exact gV (aoG _ (by omega:S.length+1<=1001)) jD) (get_eq _ _ _)
end
def qQ(S:List UInt8)(Z:Nat)(s:Is):List Nat:=match dc Z s.u s.A (ar S 0 s.A)with
 | .ok (a,b) _=>if a=1 then(match fJ b.aS with
   | .ok t=>t
   | .error _=>[])else []
 |_=>[]
inductive cu (S:List UInt8) (Z:Nat):Nat->Is->List Nat->Int->Prop
 |stop {s:Is} {e:Int} (f:jY S Z s) (h:iM S Z s= .stop e):cu S Z 1 s [] e
 |go {k:Nat} {s s':Is} {t:List Nat} {e:Int} (f:jY S Z s) (h:iM S Z s= .go s') (r:cu S Z k s' t e):cu S Z (k+1) s (qQ S Z s++t) e
theorem L0{b:Type}{w:Nat}{r:St b}{a:Nat×b}{u:Nat}(h:sF w r= .ok a u):a.1=w:=by
 cases r with
 |short=>cases h
 |bad e=>cases h
 |ok x v=>cases h;rfl
theorem E3{S:List UInt8}{Z:Nat}{s:Is}(h:s.u.due≠2):qQ S Z s=[]:=by
 unfold qQ;cases e:dc Z s.u s.A (ar S 0 s.A)with
 |short=>rfl
 |bad e=>rfl
 |ok a w=>
  obtain⟨b,c⟩:=a;dsimp only
  have:b≠1:=by
   unfold dc at e;split at e
   ·have:=L0 e;omega
   ·split at e
    ·have:=L0 e;omega
    ·try rw[if_neg h]at e
     have:=L0 e;omega
  rw[if_neg this]
theorem Z2{S:List UInt8}{Z:Nat}{s:Is}{b:Bk}(d:s.u.due=2)(a:s.u.bf=some b):qQ S Z s=match dp (s.u.level*Z) b (ar S 0 s.A)with
 | .ok b' _=>if b'.done=true then(match fJ (ng b')with
   | .ok t=>t
   | .error _=>[])else []
 |_=>[]:=by
 unfold qQ dc;rw[if_neg jO,if_neg jO,if_pos d];unfold pO;rw[a];dsimp only;cases dp (s.u.level*Z) b (ar S 0 s.A)with
 |short=>rfl
 |bad e=>rfl
 |ok b' w=>
  dsimp only;by_cases c:b'.done=true
  ·rw[if_pos c,if_pos c];rfl
  ·rw[if_neg c,if_neg c];rfl
section
variable {S:List UInt8} {Z:Nat} {s s':Is}
theorem cu.next{k:Nat}{t:List Nat}{e:Int}(f:jY S Z s)(h:iM S Z s= .go s')(a:qQ S Z s=[])(r:cu S Z k s' t e):cu S Z (k+1) s t e:=by have:=cu.go f h r;rw[a]at this;exact this
def alV(S:List UInt8)(Z k:Nat)(s:Is):St Gt->Prop
 | .short=>cu S Z k s [] 24
 | .bad e=>cu S Z k s [] e
 | .ok g w=>match fJ g with
   | .error e=>cu S Z k s [] e
   | .ok t=>jY S Z ((s.took (ky s.u g) w).mE t.length)∧∀j a e,cu S Z j ((s.took (ky s.u g) w).mE t.length) a e->cu S Z (k+j) s (t++a) e
theorem alW{room k:Nat}{b:Bk}{bs:List Bool}{x:St Gt}(r:fj room k b bs x):∀(s:Is),jY S Z s->s.u.due=2->s.u.bf=some b->s.u.level*Z=room->ar S 0 s.A=bs->s.fresh=false->alV S Z k s x:=by
 induction r with
 |short h=>intro s f m n o d p;have a:=EV (S:=S) (Z:=Z) m n;rw[o,d,h]at a;exact cu.stop f a
 |bad h=>intro s f m n o d p;have a:=EV (S:=S) (Z:=Z) m n;rw[o,d,h]at a;exact cu.stop f a
 |@done b c bs u h q=>
  intro s f m n o d p;have a:=EV (S:=S) (Z:=Z) m n;have i:=Z2 (S:=S) (Z:=Z) m n;rw[o,d,h]at a i;have a:iM S Z s=iL S 1 (s.took (ky s.u (ng c)) u):=a.trans (if_pos q)
  have i:qQ S Z s=match fJ (ng c)with
   | .ok t=>t
   | .error _=>[]:=i.trans (if_pos q)
  unfold iL at a;rw[if_pos rfl]at a
  show match fJ (ng c)with
   | .error e=>cu S Z 1 s [] e
   | .ok t=>jY S Z ((s.took (ky s.u (ng c)) u).mE t.length)∧∀j l e,cu S Z j ((s.took (ky s.u (ng c)) u).mE t.length) l e->cu S Z (1+j) s (t++l) e
  have a:iM S Z s=match fJ (ng c)with
   | .error e=> .stop e
   | .ok t=> .go ((s.took (ky s.u (ng c)) u).mE t.length):=a
  cases e:fJ (ng c)with
  |error D=>rw[e]at a;exact cu.stop f a
  |ok t=>rw[e]at a i;refine⟨ve f a,fun j l A v=> ?_⟩;rw[FC];have:=cu.go f a v;rw[i]at this;exact this
 |@more k b c bs u x h q r B=>
  intro s f m n o d p;have a:=EV (S:=S) (Z:=Z) m n;have i:=Z2 (S:=S) (Z:=Z) m n;rw[o,d,h]at a i;have i:qQ S Z s=[]:=i.trans (if_neg (by rw[q];decide));have a:iM S Z s=iL S 0 (s.took {s.u with bf:=some c} u):=a.trans (if_neg (by rw[q];decide))
  have a:iM S Z s= .go (s.took {s.u with bf:=some c} u):=by rw[a];unfold iL;rw[if_neg jD,if_neg jD,Zs (s:=s.took {s.u with bf:=some c} u) p]
  have y:=B (s.took {s.u with bf:=some c} u) (ve f a) m rfl o (by rw[<-d,od jO];rfl) p;cases x with
  |short=>exact cu.next f a i y
  |bad e=>exact cu.next f a i y
  |ok g w=>
   show match fJ g with
    | .error e=>cu S Z (k+1) s [] e
    | .ok t=>jY S Z ((s.took (ky s.u g) (u+w)).mE t.length)∧∀j l e,cu S Z j ((s.took (ky s.u g) (u+w)).mE t.length) l e->cu S Z (k+1+j) s (t++l) e
   have y:match fJ g with
    | .error e=>cu S Z k (s.took {s.u with bf:=some c} u) [] e
    | .ok t=>jY S Z (((s.took {s.u with bf:=some c} u).took (ky s.u g) w).mE t.length)∧∀j l e,cu S Z j (((s.took {s.u with bf:=some c} u).took (ky s.u g) w).mE t.length) l e->cu S Z (k+j) (s.took {s.u with bf:=some c} u) (t++l) e:=y
   cases e:fJ g with
   |error D=>rw[e]at y;exact cu.next f a i y
   |ok t=>
    rw[e]at y;obtain⟨z,y⟩:=y
    have C:(s.took {s.u with bf:=some c} u).took (ky s.u g) w=s.took (ky s.u g) (u+w):=by unfold Is.took;simp only[Nat.add_assoc]
    rw[C]at z y;refine⟨z,fun j l A v=> ?_⟩;have:=y j l A v;rw[show k+1+j=(k+j)+1 by omega];exact cu.next f a i this
end
section
variable {S:List UInt8} {Z room:Nat}
def Z3(S:List UInt8)(Z:Nat)(s:Is)(T:List Nat):Except Int Nat->Prop
 | .error e=>∃k,cu S Z k s T e
 | .ok a=>∃k b,b.u.ended=true∧LO S Z (a+dq a) b∧∀j c e,cu S Z j b c e->cu S Z (k+j) s (T++c) e
theorem alX(hS:S.length<=1000000)(I:room<=900000):∀(N a t:Nat) (s:Is),(ar S 0 a).length<48*N->LN S Z room a t s->Z3 S Z s (kB S room N a t) (gu S room N a t).2:=by
 intro N
 induction N with
 |zero=>intro a t s h;omega
 |succ N W=>
  intro a t s hN x;have d:=akD (S:=S) (Z:=Z) x.due x.fr;have m:=E3 (S:=S) (Z:=Z) (s:=s) (by rw[x.due];decide);have X:=x.ki.rest;have K:=x.ki.hi;rw[x.pos]at d X K;have B:(ar S 0 a).drop 48=ar S 0 (a+48):=od jO;have stop:∀e,iM S Z s= .stop e->Z3 S Z s [] (.error e):=fun e q=>⟨1,cu.stop x.ki q⟩;unfold gu kB;by_cases r:(ar S 0 a).length<48
  ·rw[if_pos r]at d;rw[if_pos r,if_pos r];exact stop _ d
  rw[if_neg r]at d;rw[if_neg r,if_neg r];by_cases o:num ((ar S 0 a).take 48) 0=jV
  ·rw[if_pos o]at d;rw[if_pos o,if_pos o];have l:=ve x.ki d;obtain⟨k,hk,br⟩:=akB room jO (ar S 0 (a+48));have f:=alW (Z:=Z) br (s.took {s.u with bf:=some jj,due:=2} 48) l rfl rfl x.rm (by show ar S 0 (s.A+48)=_;rw[x.pos]) x.fr;have hl:(ar S 0 (a+48)).length<=8*S.length:=by rw[<-B,bE];omega
   cases e:lK room (ar S 0 (a+48))with
   |short=>rw[e]at f;exact⟨k+1,cu.next x.ki d m f⟩
   |bad Q=>rw[e]at f;exact⟨k+1,cu.next x.ki d m f⟩
   |ok g w=>
    rw[e]at f
    have f:match fJ g with
     | .error e=>cu S Z k (s.took {s.u with bf:=some jj,due:=2} 48) [] e
     | .ok t=>jY S Z (((s.took {s.u with bf:=some jj,due:=2} 48).took (ky {s.u with bf:=some jj,due:=2} g) w).mE t.length)∧∀j v e,cu S Z j (((s.took {s.u with bf:=some jj,due:=2} 48).took (ky {s.u with bf:=some jj,due:=2} g) w).mE t.length) v e->cu S Z (k+j) (s.took {s.u with bf:=some jj,due:=2} 48) (t++v) e:=f
    dsimp only;cases P:fJ g with
    |error Q=>rw[P]at f;exact⟨k+1,cu.next x.ki d m f⟩
    |ok C=>
     rw[P]at f;dsimp only at f⊢;obtain⟨z,b⟩:∃z,((s.took {s.u with bf:=some jj,due:=2} 48).took (ky {s.u with bf:=some jj,due:=2} g) w).mE C.length=z:=⟨_,rfl⟩;rw[b]at f;obtain⟨n,f⟩:=f
     have Y:z.ps=s.ps++[(⟨2,0,(a:Int),((a+48+w:Nat):Int),(g.sum:Int),(g.bK:Int),(g.last.length:Int),(C.length:Int)⟩:Pt)]:=by rw[<-b];show s.ps++[(⟨2,0,((s.next:Nat):Int),((s.A+48+w:Nat):Int),(g.sum:Int),(g.bK:Int),(g.last.length:Int),(C.length:Int)⟩:Pt)]=_;rw[x.next,x.pos]
     have J:(ar S 0 (a+48+w)).length<48*N:=by rw[<-od jO,bE,<-B,bE];omega
     have R:LN S Z room (a+48+w) (fC t g.sum) z:=by
      refine⟨n, ?_, ?_, ?_, ?_, ?_, ?_, ?_,Zt (p:=⟨2,0,(a:Int),((a+48+w:Nat):Int),(g.sum:Int),(g.bK:Int),(g.last.length:Int),(C.length:Int)⟩) (by show(2:Int)≠3;decide) Y⟩
      ·rw[<-b];rfl
      ·rw[<-b];exact x.Av
      ·rw[<-b];show s.A+48+w=_;rw[x.pos]
      ·rw[<-b];show s.A+48+w=_;rw[x.pos]
      ·rw[<-b];show fC s.u.total g.sum=_;rw[x.ut]
      ·rw[<-b];show fC s.total g.sum=_;rw[x.st]
      ·rw[<-b];exact x.rm
     have y:=W (a+48+w) (fC t g.sum) z J R;cases O:(gu S room N (a+48+w) (fC t g.sum)).2 with
     |error Q=>rw[O]at y;obtain⟨j,U⟩:=y;exact⟨k+j+1,cu.next x.ki d m (f j _ _ U)⟩
     |ok a'=>rw[O]at y;obtain⟨j,T,h2,h3,h4⟩:=y;refine⟨k+j+1,T,h2,h3,fun i v e K=> ?_⟩;have:=f (j+i) _ _ (h4 i v e K);rw[show k+j+1+i=(k+(j+i))+1 by omega,ey];exact cu.next x.ki d m this
  rw[if_neg o]at d;rw[if_neg o,if_neg o];by_cases G:num ((ar S 0 a).take 48) 0=kv
  ·rw[if_pos G]at d;rw[if_pos G];have l:=ve x.ki d;have c:=akE (S:=S) (Z:=Z) (s:=s.took {s.u with due:=3} 48) rfl;have L:=E3 (S:=S) (Z:=Z) (s:=s.took {s.u with due:=3} 48) (by show(3:Nat)≠2;decide);have ea:(s.took {s.u with due:=3} 48).A=a+48:=by show s.A+48=_;rw[x.pos]
   have et:(s.took {s.u with due:=3} 48).u.total=t:=x.ut;rw[ea,et]at c;by_cases E:(ar S 0 (a+48)).length<32
   ·rw[if_pos E]at c;rw[if_pos E];exact⟨2,cu.next x.ki d m (cu.stop l c)⟩
   rw[if_neg E]at c;rw[if_neg E];by_cases D:num ((ar S 0 (a+48)).take 32) 0=t
   ·rw[if_pos D]at c;rw[if_pos D];have n:=ve l c;refine⟨2,_, ?_,⟨n,rfl,x.Av, ?_, ?_, ?_⟩,fun j v e hj=> ?_⟩
    ·rfl
    ·show s.A+48+(32+dq (a+48+32))=_;rw[x.pos,show a+48+32=a+80 by omega];omega
    ·show s.A+48+(32+dq (a+48+32))=_;rw[x.pos,show a+48+32=a+80 by omega];omega
    ·exact akC (ps:=s.ps) rfl rfl
    ·rw[show 2+j=(j+1)+1 by omega,lk];exact cu.next x.ki d m (cu.next l c L hj)
   ·rw[if_neg D]at c;rw[if_neg D];exact⟨2,cu.next x.ki d m (cu.stop l c)⟩
  rw[if_neg G]at d;rw[if_neg G];exact stop _ d
def alY(S:List UInt8)(Z a:Nat)(s:Is):Except Int Nat->Prop
 | .error e=>∃k,cu S Z k s [] e
 | .ok lv=>∃k c,LN S Z (lv*Z) (a+32) 0 c∧∀j b e,cu S Z j c b e->cu S Z (k+j) s b e
theorem alZ(L:S.length<=1000000){a:Nat}(N:a %8=0):∀(m:Nat) (s:Is),m<=3->jY S Z s->s.u.due=0->s.u.at_=3-m->s.A=a+8*(3-m)->s.next=a->s.fresh=true->¬(s.u.may=true∧(ar S 0 s.A).length=0)->alY S Z a s (iZ S m (a+8*(3-m))):=by
 intro m
 induction m with
 |zero=>
  intro s r c i z g o v t;have b:=Zv (S:=S) (Z:=Z) i t;have f:=E3 (S:=S) (Z:=Z) (s:=s) (by rw[i];decide);have p:a+8*(3-0)=a+24:=rfl;rw[p]at g⊢;rw[g]at b;unfold iZ;by_cases h:(ar S 0 (a+24)).length<8
  ·rw[if_pos h]at b⊢;exact⟨1,cu.stop c b⟩
  rw[if_neg h,if_neg jO]at b;rw[if_neg h];by_cases l:num ((ar S 0 (a+24)).take 8) 0<49∨57<num ((ar S 0 (a+24)).take 8) 0
  ·rw[if_pos l]at b⊢;exact⟨1,cu.stop c b⟩
  rw[if_neg l]at b⊢;have K:=fy S 0 (a+24);have bn:=akF (S:=S) (q:=a/8+3) jO;rw[show 8*(a/8+3)=a+24 by omega]at bn;have d:=ve c b
  have x:((s.took {s.u with level:=num ((ar S 0 (a+24)).take 8) 0-48,at_:=0,total:=0,due:=1} 8).begun S)={((s.took {s.u with level:=num ((ar S 0 (a+24)).take 8) 0-48,at_:=0,total:=0,due:=1} 8).add ⟨1,ER S s.next,0,0,0,0,0,0⟩ (s.A+8))with total:=0}:=by unfold Is.begun;exact if_pos ⟨v,by show s.A+8=s.next+32;rw[g,o]⟩
  rw[x]at b d;have E:({((s.took {s.u with level:=num ((ar S 0 (a+24)).take 8) 0-48,at_:=0,total:=0,due:=1} 8).add ⟨1,ER S s.next,0,0,0,0,0,0⟩ (s.A+8))with total:=0}:Is).ps=s.ps++[(⟨1,ER S s.next,((s.next:Nat):Int),((s.A+8:Nat):Int),0,0,0,0⟩:Pt)]:=rfl;refine⟨1,_,⟨d,rfl,rfl,by show s.A+8=_;rw[g],by show s.A+8=_;rw[g],rfl,rfl,rfl,Zt (by show(1:Int)≠3;decide) E⟩,fun j y e u=> ?_⟩;rw[FC];exact cu.next c b f u
 |succ m D=>
  intro s r c i z g o v t;have b:=Zv (S:=S) (Z:=Z) i t;have f:=E3 (S:=S) (Z:=Z) (s:=s) (by rw[i];decide);have p:a+8*(3-(m+1))+8=a+8*(3-m):=jO;rw[g,z]at b;unfold iZ;by_cases h:(ar S 0 (a+8*(3-(m+1)))).length<8
  ·rw[if_pos h]at b⊢;exact⟨1,cu.stop c b⟩
  rw[if_neg h,if_pos jO]at b;rw[if_neg h];rw[show 2-m=3-(m+1) by omega];by_cases l:num ((ar S 0 (a+8*(3-(m+1)))).take 8) 0=jU.getD (3-(m+1)) 0
  ·rw[if_pos l]at b⊢;rw[p]
   have x:(s.took {s.u with at_:=3-(m+1)+1} 8).begun S=s.took {s.u with at_:=3-(m+1)+1} 8:=by unfold Is.begun;refine if_neg fun q=> ?_;have q2:s.A+8=s.next+32:=q.2;rw[g,o]at q2;omega
   rw[x]at b;have d:=ve c b
   have n:=D (s.took {s.u with at_:=3-(m+1)+1} 8) jO d i (by show 3-(m+1)+1=3-m;omega) (by show s.A+8=_;rw[g,p]) o v (by
    intro q;have q1:=q.1;unfold Us.may at q1;simp only[bZ,decide_eq_true_eq]at q1;have J:3-(m+1)+1=0:=q1.2
    omega)
   cases A:iZ S m (a+8*(3-m))with
   |error O=>rw[A]at n;obtain⟨k,C⟩:=n;exact⟨k+1,cu.next c b f C⟩
   |ok lv=>rw[A]at n;obtain⟨k,B,I,G⟩:=n;refine⟨k+1,B,I,fun j y e u=> ?_⟩;rw[show k+1+j=(k+j)+1 by omega];exact cu.next c b f (G j y e u)
  ·rw[if_neg l]at b⊢;exact⟨1,cu.stop c b⟩
theorem al0(z:S.length<=1000000)(Q:Z<=100000):∀(N a:Nat) (s:Is),a %8=0->(ar S 0 a).length<8*N->LO S Z a s->¬(s.u.may=true∧(ar S 0 s.A).length=0)->∃k,cu S Z k s (pV S Z N a) (oE S Z N a).2:=by
 intro N
 induction N with
 |zero=>intro a s A h;omega
 |succ N E=>
  intro a s A R x G;have f:=alZ (Z:=Z) z A 3 s (ah _) x.ki x.due (by rw[x.Av]) (by rw[x.pos];rfl) x.next x.fr G;rw[show a+8*(3-3)=a by omega]at f;unfold oE pV;cases e:iZ S 3 a with
  |error L=>rw[e]at f;exact f
  |ok lv=>
   rw[e]at f;obtain⟨k,C,u,t⟩:=f;obtain⟨_,D,g⟩:=ZY _ _ _ e;have O:lv*Z<=9*Z:=qT _ g;have J:=u.ki.hi;have I:=fy S 0 (a+32);have o:(ar S 0 (a+32)).length<48*NB S:=by unfold NB;omega
   have y:=alX (Z:=Z) (room:=lv*Z) z jO (NB S) (a+32) 0 C o u;dsimp only;cases r:(gu S (lv*Z) (NB S) (a+32) 0).2 with
   |error L=>rw[r]at y;obtain⟨j,l⟩:=y;exact⟨k+j,t _ _ _ l⟩
   |ok b=>
    rw[r]at y;obtain⟨j,v,K,c,B⟩:=y;dsimp only;by_cases d:(ar S 0 (b+dq b)).length=0
    ·rw[if_pos d,if_pos d]
     have m:iM S Z v= .stop 0:=by unfold iM;rw[if_pos];refine⟨?_,by rw[c.pos];exact d⟩;unfold Us.may;rw[K,c.due,c.Av];rfl
     exact⟨k+(j+1),t _ _ _ (B _ _ _ (cu.stop c.ki m))⟩
    ·rw[if_neg d,if_neg d];have n:=(Zq b).2
     have p:(ar S 0 (b+dq b)).length<8*N:=by
      have q1:=fy S 0 (b+dq b);have q2:=fy S 0 a
      have P:a+40<=b+dq b:=by have:=Zw (NB S) (a+32) 0 r;omega
      omega
     obtain⟨i,l⟩:=E (b+dq b) v n p c (fun q=>d (by rw[<-c.pos];exact q.2));exact⟨k+(j+i),t _ _ _ (B _ _ _ l)⟩
theorem al1(a:S.length<=1000000)(h1:24<=Z)(h2:Z<=100000):∃k,cu S Z k Au (pV S Z (S.length+1) 0) (oE S Z (S.length+1) 0).2:=by have b:=fy S 0 0;exact al0 a h2 (S.length+1) 0 Au rfl jO (akG h1 h2) (fun q=>by cases q.1)
end
theorem Z4:∀(a:List Nat) (bs:List Bool) (acc s:List Nat) (u v:Nat),hO a bs acc u= .ok s v->v=u+16*a.length∧(a=[]->s=acc)
 |[],bs,acc,s,u,v,h=>by cases h;exact⟨rfl,fun _=>rfl⟩
 |i::a,bs,acc,s,u,v,h=>by
  unfold hO at h;split at h
  ·cases h
  ·obtain⟨b,_⟩:=Z4 a _ _ _ _ _ h;exact⟨by rw[cP];omega,fun q=>by cases q⟩
theorem al2{bs:List Bool}{s:List Nat}{u:Nat}(h:fA bs= .ok s u):32<=u:=by
 have d:=(uS h).2.1;unfold fA at h;split at h
 ·cases h
 ·cases e:hO (ik (bs.take 16)) (bs.drop 16) [] 16 with
  |short=>rw[e]at h;cases h
  |bad x=>rw[e]at h;cases h
  |ok l v=>
   rw[e]at h;obtain⟨c,b⟩:=Z4 _ _ _ _ _ _ e
   have:l=s∧v=u:=by
    cases l with
    |nil=>cases h
    |cons x l=>cases h;exact⟨rfl,rfl⟩
   obtain⟨rfl,rfl⟩:=this;cases a:ik (bs.take 16)with
   |nil=>exact absurd (b a) d
   |cons x f=>rw[a,cP]at c;omega
def kY(room:Nat)(b:Bk):Nat:=if b.head=false then 9890 else match b.row with
 |none=>12960
 |some _=>7310+3*room+(room-b.last.length)
def ni(Z r:Nat)(u:Us):Nat:=54*r+(if u.due=2 then(match u.bf with
 |none=>0
 |some b=>kY (u.level*Z) b)else 7300)
theorem E4{Z r:Nat}{u:Us}{b:Bk}(d:u.due=2)(a:u.bf=some b):ni Z r u=54*r+kY (u.level*Z) b:=by unfold ni;rw[if_pos d,a]
theorem nk{Z r:Nat}{u:Us}(d:u.due≠2):ni Z r u=54*r+7300:=by unfold ni;rw[if_neg d]
theorem Z5{room:Nat}{b:Bk}(h:b.head=false):kY room b=9890:=by unfold kY;rw[if_pos h]
theorem Z6{room:Nat}{b:Bk}(h:b.head=true)(a:b.row=none):kY room b=12960:=by unfold kY;rw[if_neg (by rw[h];decide),a]
theorem E5{room:Nat}{b:Bk}{r:Rw}(h:b.head=true)(a:b.row=some r):kY room b=7310+3*room+(room-b.last.length):=by unfold kY;rw[if_neg (by rw[h];decide),a]
theorem Z7{b b':Bk}{r:Rw}{w u:Nat}(h:fB b r w= .ok b' u):u=w∧(b'=b∨(b'.done=true∧b'.last=b.last)):=by
 unfold fB at h;split at h
 ·split at h
  ·cases h
  ·cases h;exact⟨rfl,.inr ⟨rfl,rfl⟩⟩
 ·cases h;exact⟨rfl,.inl rfl⟩
theorem al3{room A u:Nat}{b b':Bk}{bs:List Bool}(k:xp room A b)(G:room<=1800)(h:dp room b bs= .ok b' u)(E:u<=bs.length):if b'.done=true then 54*(bs.length-u)+7300+1+3*b'.last.length<=54*bs.length+kY room b∧b'.last.length<=room else 54*(bs.length-u)+kY room b'+1<=54*bs.length+kY room b:=by
 have g:=k.ok.nd;unfold dp at h;by_cases f:b.head=false
 ·rw[if_pos f]at h;split at h
  ·cases h
  ·split at h
   ·cases h
   ·cases h;have d:=k.ok.hd f;rw[if_neg (by show¬b.done=true;rw[g];decide)];rw[Z5 f,Z6 (b:={b with head:=true,sum:=num (bs.take 32) 0,bK:=num ((bs.drop 33).take 24) 0}) rfl d]
    omega
 rw[if_neg f]at h;have a:b.head=true:=by simpa using f
 cases c:b.row with
 |none=>
  rw[c]at h;dsimp only at h;cases e:fA bs with
  |short=>rw[e]at h;cases h
  |bad x=>rw[e]at h;cases h
  |ok s v=>rw[e]at h;cases h;have p:=al2 e;rw[if_neg (by show¬b.done=true;rw[g];decide)];rw[Z6 a c,E5 (b:={b with row:=some (m6 s room)}) a rfl];show 54*(bs.length-u)+(7310+3*room+(room-b.last.length))+1<=_;omega
 |some r=>
  rw[c]at h;dsimp only at h;have D:=k.ok.ll;have pb:kY room b=7310+3*room+(room-b.last.length):=E5 a c;rw[pb];obtain⟨y,t⟩:=k.ct r c;by_cases j:r.waits=true
  ·rw[if_pos j]at h;have C:=(pS r).1 j;obtain⟨rfl,q⟩:=Z7 h;have m:(b.last++[(bR r).1]).length=b.last.length+1:=by rw[bG];rfl
   rcases q with rfl|⟨q1,q2⟩
   ·rw[if_neg (by show¬b.done=true;rw[g];decide)];have:kY room {b with last:=b.last++[(bR r).1],row:=some (bR r).2}=7310+3*room+(room-(b.last++[(bR r).1]).length):=E5 a rfl;rw[this,m];omega
   ·rw[if_pos q1,q2];show 54*(bs.length-0)+7300+1+3*(b.last++[(bR r).1]).length<=_∧(b.last++[(bR r).1]).length<=room;rw[m];omega
  ·rw[if_neg j]at h;have l:=k.ok.row r c
   have z:r.cd.done=false:=by
    cases q:r.cd.done with
    |false=>rfl
    |true=>exact absurd (l.2.1 q) j
   cases e:iG r bs with
   |short=>rw[e]at h;cases h
   |bad x=>rw[e]at h;cases h
   |ok o v=>
    rw[e]at h;dsimp only at h;obtain⟨rfl,q⟩:=Z7 h
    have B:0<u:=by
     unfold iG at e;cases i:ed r.cd bs with
     |short=>rw[i]at e;cases e
     |bad x=>rw[i]at e;cases e
     |ok n v=>
      obtain⟨sym,I⟩:=n;rw[i]at e;have:=(wV (l.1.cd z) i).2.2.1;dsimp only at e;split at e
      ·cases e;exact this
      ·split at e
       ·cases e
       ·cases e;exact this
    rcases q with rfl|⟨q1,q2⟩
    ·rw[if_neg (by show¬b.done=true;rw[g];decide)];have:kY room {b with row:=some o}=7310+3*room+(room-b.last.length):=E5 a rfl;rw[this];omega
    ·rw[if_pos q1,q2];show 54*(bs.length-u)+7300+1+3*b.last.length<=_∧b.last.length<=room;omega
theorem Z8{Z A w f:Nat}{u c:Us}{bs:List Bool}(k:vd Z A u)(d:Z<=200)(h:dc Z u A bs= .ok (f,c) w)(o:(A+bs.length)%8=0):ni Z (bs.length-w) c+1+(if f=1 then 3*c.aS.last.length else 0)<=ni Z bs.length u:=by
 obtain⟨q1,_,_,_,_⟩:=xq k h o;obtain⟨ok,p⟩:=k;unfold dc at h;split at h
 ·next d0=>
  unfold pN at h;split at h
  ·cases h
  ·split at h
   ·split at h
    ·cases h;rw[nk (u:=u) jO,nk (u:={u with at_:=u.at_+1}) (show u.due≠2 by omega)]
     show _+1+0<=_;omega
    ·cases h
   ·split at h
    ·cases h
    ·cases h;rw[nk (u:=u) jO,nk (show(1:Nat)≠2 by decide)];show _+1+0<=_;omega
 ·next d0=>
  split at h
  ·next d1=>
   unfold qK at h;split at h
   ·cases h
   ·split at h
    ·cases h;rw[nk (u:=u) jO,E4 (b:=jj) rfl rfl,Z5 rfl];show _+1+0<=_;omega
    ·split at h
     ·cases h;rw[nk (u:=u) jO,nk (show(3:Nat)≠2 by decide)];show _+1+0<=_;omega
     ·cases h
  ·next d1=>
   split at h
   ·next d2=>
    have lv:=ok.lv jO;have j:u.level*Z<=1800:=gV (Nat.mul_le_mul lv.2 d) jD;unfold pO at h;split at h
    ·cases h
    ·next b g=>
     have m:=p b g;cases e:dp (u.level*Z) b bs with
     |short=>rw[e]at h;cases h
     |bad x=>rw[e]at h;cases h
     |ok i q=>
      rw[e]at h;simp only at h;have l:ni Z bs.length u=54*bs.length+kY (u.level*Z) b:=E4 d2 g;rw[l];have a:=fun n=>al3 m j e n;split at h
      ·next hd=>cases h;have a:=a q1;rw[if_pos hd]at a;rw[nk (show(1:Nat)≠2 by decide)];exact a.1
      ·next hd=>
       cases h;have a:=a q1;rw[if_neg hd]at a;rw[E4 (u:={u with bf:=some i}) (b:=i) d2 rfl]
       exact a
   ·next d2=>
    unfold qL at h;split at h
    ·cases h
    ·split at h
     ·cases h;rw[nk (u:=u) d2,nk (show(0:Nat)≠2 by decide)];show _+1+0<=_;omega
     ·cases h
structure j0 where
 k:Nat
 run:Nat
 prev:Nat
 mH:List Nat
def mI:j0:=⟨0,0,0,[]⟩
def ja(run a b:Nat):Option (List Nat×Nat×Nat):=if run=4 then(if 251<b then none else some (bU b a,0,0))else some ([b],if 0<run∧b=a then run+1 else 1,b)
inductive Ox where
 |fail (t:List Nat) (e:Int)
 |fin (t:List Nat)
 |go (t:List Nat) (o:j0)
def hY(g:Gt)(o:j0):Ox:=match iI g.last g.bK o.k with
 |[]=> .go [] {o with k:=o.k+1}
 |b::_=>match ja o.run o.prev b with
  |none=> .fail [] 25
  |some (t,a,c)=>if o.k+1=3*g.last.length then(if a=4 then .fail t 25 else if iJ (o.mH++t)=g.sum then .fin t else .fail t 21)else .go t ⟨o.k+1,a,c,o.mH++t⟩
structure Xc where
 u:Us
 A:Nat
 op:Option j0
 tot:List Nat
 fin:Option Int
def lM(S:List UInt8)(Z:Nat)(x:Xc):Xc:=if x.u.may=true∧(ar S 0 x.A).length=0 then{x with fin:=some 0}else match dc Z x.u x.A (ar S 0 x.A)with
 | .short=>{x with fin:=some 24}
 | .bad e=>{x with fin:=some e}
 | .ok (a,b) w=>{x with u:=b,A:=x.A+w,op:=if a=1 then some mI else none}
def dU(x:Xc)(o:j0):Xc:=match hY x.u.aS o with
 | .fail t e=>{x with op:=none,tot:=x.tot++t,fin:=some e}
 | .fin t=>{x with op:=none,tot:=x.tot++t}
 | .go t a=>{x with op:=some a,tot:=x.tot++t}
def iw(S:List UInt8)(Z:Nat)(x:Xc):Xc:=match x.op with
 |some o=>dU x o
 |none=>lM S Z x
def nm(S:List UInt8)(Z:Nat):Nat->Xc->Xc
 |0,x=>x
 |k+1,x=>nm S Z k (iw S Z x)
def cY(S:List UInt8)(Z k:Nat)(x:Xc)(t:List Nat)(e:Int):Prop:=(nm S Z k x).fin=some e∧(nm S Z k x).tot=x.tot++t∧∀j,j<k->(nm S Z j x).fin=none
section
variable {S:List UInt8} {Z:Nat}
theorem cY.more{k:Nat}{x:Xc}{t1 t:List Nat}{e:Int}(d:x.fin=none)(h1:(iw S Z x).tot=x.tot++t1)(h:cY S Z k (iw S Z x) t e):cY S Z (k+1) x (t1++t) e:=by
 obtain⟨a,b,c⟩:=h;refine⟨a, ?_,fun j f=> ?_⟩
 ·show(nm S Z k (iw S Z x)).tot=_;rw[b,h1,ey]
 ·cases j with
  |zero=>exact d
  |succ j=>exact c j jO
theorem cY.last{x:Xc}{t:List Nat}{e:Int}(a:x.fin=none)(h1:(iw S Z x).tot=x.tot++t)(h2:(iw S Z x).fin=some e):cY S Z 1 x t e:=
 ⟨h2,h1,fun j b=>by
   obtain rfl:j=0:=jO
   exact a⟩
theorem al4{l:List Nat}{a i:Nat}(h:i<l.length):iI l a (2*l.length+i)=[(gq l a l.length).getD i 0]:=by
 unfold iI;rw[if_pos jO,show 2*l.length+i+1-2*l.length=i+1 by omega]
 have:(gq l a l.length)[i]? =some (l.getD (ir l a (i+1)) 0):=by unfold gq;rw[jd,List.getElem?_range h];rfl
 have b:(gq l a l.length).getD i 0=l.getD (ir l a (i+1)) 0:=by rw[bz,this];rfl
 rw[b]
theorem al5{l:List Nat}{a k:Nat}(h:k<2*l.length):iI l a k=[]:=by unfold iI;rw[if_neg jO]
theorem al6{u:Us}{A:Nat}{tot:List Nat}:∀(m k run a:Nat) (b:List Nat),k+m=2*u.aS.last.length->∀(K:Nat) (t:List Nat) (e:Int),cY S Z K ⟨u,A,some ⟨k+m,run,a,b⟩,tot,none⟩ t e->cY S Z (m+K) ⟨u,A,some ⟨k,run,a,b⟩,tot,none⟩ t e:=by
 intro m
 induction m with
 |zero=>intro k run a b g K t e h;rw[fD];exact h
 |succ m d=>
  intro k run a b g K t e h
  have c:iw S Z ⟨u,A,some ⟨k,run,a,b⟩,tot,none⟩=⟨u,A,some ⟨k+1,run,a,b⟩,tot,none⟩:=by show dU _ _=_;have f:iI u.aS.last u.aS.bK k=[]:=al5 jO;unfold dU hY;dsimp only;rw[f];dsimp only;rw[bV]
  have y:=d (k+1) run a b jO K t e (by rw[show k+1+m=k+(m+1) by omega];exact h);rw[show m+1+K=(m+K)+1 by omega];have:=cY.more (S:=S) (Z:=Z) (x:=⟨u,A,some ⟨k,run,a,b⟩,tot,none⟩) (t1:=[]) rfl (by rw[c,bV]) (by rw[c];exact y);exact this
theorem Z9{u:Us}{A:Nat}:∀(l:List Nat) (i run d:Nat) (f tot:List Nat),l=(gq u.aS.last u.aS.bK u.aS.last.length).drop i->l≠[]->i+l.length=u.aS.last.length->
 (match cX run d l with
 | .ok t=>if iJ (f++t)=u.aS.sum then(∀K v x,cY S Z K ⟨u,A,none,tot++t,none⟩ v x->cY S Z (l.length+K) ⟨u,A,some ⟨2*u.aS.last.length+i,run,d,f⟩,tot,none⟩ (t++v) x)else∃j n,j<=l.length∧cY S Z j ⟨u,A,some ⟨2*u.aS.last.length+i,run,d,f⟩,tot,none⟩ n 21
 | .error _=>∃j n,j<=l.length∧cY S Z j ⟨u,A,some ⟨2*u.aS.last.length+i,run,d,f⟩,tot,none⟩ n 25)
 |[],i,run,d,f,tot,Q,X,E=>absurd rfl X
 |b::l,i,run,d,f,tot,Q,_,E=>by
  rw[cP]at E
  have R:iI u.aS.last u.aS.bK (2*u.aS.last.length+i)=[b]:=by
   rw[al4 jO];congr 1
   have:(gq u.aS.last u.aS.bK u.aS.last.length)[i]? =some b:=by have:=congrArg (fun z=>z[0]?) Q;simp only[List.getElem?_drop,iO]at this;exact this.symm
   rw[bz,this];rfl
  have P:l=(gq u.aS.last u.aS.bK u.aS.last.length).drop (i+1):=by have:=congrArg List.tail Q;rw[List.tail_drop]at this;exact this
  have step:∀(t:List Nat) (k g:Nat),ja run d b=some (t,k,g)->(∀p,cX run d (b::l)=pU t (cX k (if k=0 then p else g) l))->
   match cX run d (b::l)with
   | .ok t=>if iJ (f++t)=u.aS.sum then(∀K v x,cY S Z K ⟨u,A,none,tot++t,none⟩ v x->cY S Z ((b::l).length+K) ⟨u,A,some ⟨2*u.aS.last.length+i,run,d,f⟩,tot,none⟩ (t++v) x)else∃j n,j<=(b::l).length∧cY S Z j ⟨u,A,some ⟨2*u.aS.last.length+i,run,d,f⟩,tot,none⟩ n 21
   | .error _=>∃j n,j<=(b::l).length∧cY S Z j ⟨u,A,some ⟨2*u.aS.last.length+i,run,d,f⟩,tot,none⟩ n 25:=fun t k g C B=>by
   have m:hY u.aS ⟨2*u.aS.last.length+i,run,d,f⟩=if 2*u.aS.last.length+i+1=3*u.aS.last.length then(if k=4 then .fail t 25 else if iJ (f++t)=u.aS.sum then .fin t else .fail t 21)else .go t ⟨2*u.aS.last.length+i+1,k,g,f++t⟩:=by unfold hY;rw[R];dsimp only;rw[C]
   have s:∀(r:Ox),hY u.aS ⟨2*u.aS.last.length+i,run,d,f⟩=r->iw S Z ⟨u,A,some ⟨2*u.aS.last.length+i,run,d,f⟩,tot,none⟩=match r with
    | .fail t e=>⟨u,A,none,tot++t,some e⟩
    | .fin t=>⟨u,A,none,tot++t,none⟩
    | .go t L=>⟨u,A,some L,tot++t,none⟩:=fun r B=>by
    show dU _ _=_;unfold dU
    show(match hY u.aS ⟨2*u.aS.last.length+i,run,d,f⟩with
     | .fail t e=>_
     | .fin t=>_
     | .go t L=>_)=_
    rw[B]
   cases l with
   |nil=>
    have E:i+1=u.aS.last.length:=E;rw[if_pos jO]at m;rw[B 0];by_cases o:k=4
    ·rw[if_pos o]at m;have:=s _ m;dsimp only at this;subst o;show∃j n,j<=1∧_;exact⟨1,t,ah _,cY.last rfl (by rw[this]) (by rw[this])⟩
    ·rw[if_neg o]at m;have Y:cX k (if k=0 then 0 else g) []= .ok []:=if_neg o;rw[Y];show if iJ (f++(t++[]))=u.aS.sum then _ else _
     rw[bV];by_cases D:iJ (f++t)=u.aS.sum
     ·rw[if_pos D]at m;have:=s _ m;dsimp only at this;rw[if_pos D];intro K v x h;rw[show [b].length+K=K+1 by rw[List.length_singleton];omega];exact cY.more rfl (by rw[this]) (by rw[this];exact h)
     ·rw[if_neg D]at m;have:=s _ m;dsimp only at this;rw[if_neg D];exact⟨1,t,ah _,cY.last rfl (by rw[this]) (by rw[this])⟩
   |cons c l=>
    have E:i+(l.length+1+1)=u.aS.last.length:=E;rw[if_neg jO]at m;have q:=s _ m;dsimp only at q;have y:=Z9 (u:=u) (A:=A) (c::l) (i+1) k g (f++t) (tot++t) P jS (by rw[cP];omega);have B:=B g;rw[show(if k=0 then g else g)=g by split<;>rfl]at B;rw[B];rw[show 2*u.aS.last.length+(i+1)=2*u.aS.last.length+i+1 by omega]at y;cases T:cX k g (c::l)with
    |error e=>rw[T]at y;obtain⟨j,n,W,N⟩:=y;exact⟨j+1,t++n,by rw[cP];omega,cY.more rfl (by rw[q]) (by rw[q];exact N)⟩
    |ok J=>
     rw[T]at y;dsimp only at y;show if iJ (f++(t++J))=u.aS.sum then _ else _
     rw[<-ey f t J];by_cases D:iJ (f++t++J)=u.aS.sum
     ·rw[if_pos D]at y⊢;intro K v x h;have:=y K v x (by rw[ey];exact h);rw[show(b::c::l).length+K=((c::l).length+K)+1 by rw[cP (a:=b)];omega,ey];exact cY.more rfl (by rw[q]) (by rw[q];exact this)
     ·rw[if_neg D]at y⊢;obtain⟨j,n,W,N⟩:=y;exact⟨j+1,t++n,by rw[cP (a:=b)];omega,cY.more rfl (by rw[q]) (by rw[q];exact N)⟩
  by_cases o:run=4
  ·by_cases G:251<b
   ·have C:ja run d b=none:=by unfold ja;rw[if_pos o,if_pos G]
    rw[o,LY 0 d b l,if_pos G]
    have m:hY u.aS ⟨2*u.aS.last.length+i,4,d,f⟩= .fail [] 25:=by unfold hY;rw[R];dsimp only;rw[<-o,C]
    have q:iw S Z ⟨u,A,some ⟨2*u.aS.last.length+i,4,d,f⟩,tot,none⟩=⟨u,A,none,tot++[],some 25⟩:=by
     show dU _ _=_;unfold dU
     show(match hY u.aS ⟨2*u.aS.last.length+i,4,d,f⟩with
      | .fail t e=>_
      | .fin t=>_
      | .go t L=>_)=_
     rw[m]
    exact⟨1,[],by rw[cP];omega,cY.last rfl (by rw[q]) (by rw[q])⟩
   ·have C:ja run d b=some (bU b d,0,0):=by unfold ja;rw[if_pos o,if_neg G]
    refine step _ _ _ C fun p=> ?_;rw[o,LY p d b l,if_neg G,if_pos rfl]
  ·have C:ja run d b=some ([b],if 0<run∧b=d then run+1 else 1,b):=by unfold ja;rw[if_neg o]
   refine step _ _ _ C fun p=> ?_;have O:¬(if 0<run∧b=d then run+1 else 1)=0:=by split<;>omega
   rw[if_neg O,LC,if_neg o];cases cX (if 0<run∧b=d then run+1 else 1) b l<;>rfl
theorem Z'{u:Us}{A:Nat}{tot:List Nat}(ok:l5 u.aS.last u.aS.bK):match fJ u.aS with
 | .ok t=>∀K b d,cY S Z K ⟨u,A,none,tot++t,none⟩ b d->cY S Z (3*u.aS.last.length+K) ⟨u,A,some mI,tot,none⟩ (t++b) d
 | .error e=>∃j a,j<=3*u.aS.last.length∧cY S Z j ⟨u,A,some mI,tot,none⟩ a e:=by
 have i:=ok.pos;have g:(gq u.aS.last u.aS.bK u.aS.last.length).length=u.aS.last.length:=As _ _ _;have y:=Z9 (S:=S) (Z:=Z) (u:=u) (A:=A) (gq u.aS.last u.aS.bK u.aS.last.length) 0 0 0 [] tot rfl (fun q=>by rw[q]at g;rw[<-g]at i;exact absurd i jD) jO;have z:=fun K t e=>al6 (S:=S) (Z:=Z) (u:=u) (A:=A) (tot:=tot) (2*u.aS.last.length) 0 0 0 [] jO K t e;rw[fD]at z;rw[iO]at y;unfold fJ;cases e:cX 0 0 (gq u.aS.last u.aS.bK u.aS.last.length)with
 |error l=>rw[e]at y;obtain⟨j,a,k,f⟩:=y;exact⟨2*u.aS.last.length+j,a,jO,z j _ _ f⟩
 |ok t=>
  rw[e]at y;dsimp only at y⊢;rw[lk]at y;by_cases c:iJ t=u.aS.sum
  ·rw[if_pos c]at y⊢;intro K b d h;have:=z _ _ _ (y K b d h);rw[g]at this;rw[show 3*u.aS.last.length+K=2*u.aS.last.length+(u.aS.last.length+K) by omega];exact this
  ·rw[if_neg c]at y⊢;obtain⟨j,a,k,f⟩:=y;exact⟨2*u.aS.last.length+j,a,jO,z j _ _ f⟩
def jy(s:Is)(tot:List Nat):Xc:=⟨s.u,s.A,none,tot,none⟩
theorem al7{k:Nat}{s:Is}{t:List Nat}{e:Int}(G:Z<=200)(r:cu S Z k s t e):∀tot,∃K z,cY S Z K (jy s tot) (t++z) e∧(e=0->z=[])∧K<=ni Z (ar S 0 s.A).length s.u:=by
 have X:∀s:Is,1<=ni Z (ar S 0 s.A).length s.u∨s.u.due=2:=fun s=>by
  by_cases d:s.u.due=2
  ·exact .inr d
  ·rw[nk d];exact .inl jO
 have T:∀s:Is,jY S Z s->1<=ni Z (ar S 0 s.A).length s.u:=fun s f=>by
  rcases X s with h|d
  ·exact h
  ·obtain⟨b,hb,_⟩:=f.us.ok.b2 d;rw[E4 d hb];unfold kY;split
   ·omega
   ·split<;>omega
 have N:∀s:Is,jY S Z s->(s.A+(ar S 0 s.A).length)%8=0:=fun s f=>by have:=f.rest;have:=f.hi;omega
 induction r with
 |@stop s e f h=>
  intro tot;have x:=T s f;unfold iM at h;by_cases c:s.u.may=true∧(ar S 0 s.A).length=0
  ·rw[if_pos c]at h;cases h
   have i:iw S Z (jy s tot)={jy s tot with fin:=some 0}:=by show lM S Z (jy s tot)=_;unfold lM;exact if_pos c
   exact⟨1,[],cY.last rfl (by rw[i];exact(bV _).symm) (by rw[i]),fun _=>rfl,x⟩
  rw[if_neg c]at h;unfold sJ at h
  have m:lM S Z (jy s tot)=match dc Z s.u s.A (ar S 0 s.A)with
   | .short=>{jy s tot with fin:=some 24}
   | .bad e=>{jy s tot with fin:=some e}
   | .ok (v,g) w=>{jy s tot with u:=g,A:=s.A+w,op:=if v=1 then some mI else none}:=by
   unfold lM;exact if_neg c
  cases o:dc Z s.u s.A (ar S 0 s.A)with
  |short=>rw[o]at h m;cases h;have i:iw S Z (jy s tot)={jy s tot with fin:=some 24}:=m;exact⟨1,[],cY.last rfl (by rw[i];exact(bV _).symm) (by rw[i]),fun _=>rfl,x⟩
  |bad e0=>rw[o]at h m;cases h;have i:iw S Z (jy s tot)={jy s tot with fin:=some e}:=m;exact⟨1,[],cY.last rfl (by rw[i];exact(bV _).symm) (by rw[i]),fun _=>rfl,x⟩
  |ok a w=>
   obtain⟨v,g⟩:=a;rw[o]at h m;dsimp only at h m;unfold iL at h;by_cases B:v=1
   ·rw[if_pos B]at h m;obtain⟨_,_,O,_,_⟩:=xq f.us o (N s f);obtain⟨⟨C,_⟩,_,_⟩:=O B;have J:=Z8 f.us G o (N s f);rw[if_pos B]at J;have i:iw S Z (jy s tot)=⟨g,s.A+w,some mI,tot,none⟩:=m;have P:(s.took g w).u=g:=rfl;rw[P]at h;have y:=Z' (S:=S) (Z:=Z) (u:=g) (A:=s.A+w) (tot:=tot) C;cases E:fJ g.aS with
    |ok t=>rw[E]at h;cases h
    |error e3=>rw[E]at h y;cases h;obtain⟨j,W,hj,p⟩:=y;have Y:=LG E;exact⟨j+1,W,cY.more (t1:=[]) rfl (by rw[i];exact(bV _).symm) (by rw[i];exact p),fun q=>by omega,jO⟩
   ·rw[if_neg B]at h;split at h<;>cases h
 |@go k s L t e f h r U=>
  intro tot;have x:=T s f;unfold iM at h;by_cases c:s.u.may=true∧(ar S 0 s.A).length=0
  ·rw[if_pos c]at h;cases h
  rw[if_neg c]at h;unfold sJ at h
  have m:lM S Z (jy s tot)=match dc Z s.u s.A (ar S 0 s.A)with
   | .short=>{jy s tot with fin:=some 24}
   | .bad e=>{jy s tot with fin:=some e}
   | .ok (v,g) w=>{jy s tot with u:=g,A:=s.A+w,op:=if v=1 then some mI else none}:=by
   unfold lM;exact if_neg c
  have l:qQ S Z s=match dc Z s.u s.A (ar S 0 s.A)with
   | .ok (v,g) _=>if v=1 then(match fJ g.aS with
     | .ok t=>t
     | .error _=>[])else []
   |_=>[]:=rfl
  cases o:dc Z s.u s.A (ar S 0 s.A)with
  |short=>rw[o]at h;cases h
  |bad e0=>rw[o]at h;cases h
  |ok a w=>
   obtain⟨v,g⟩:=a;rw[o]at h m l;dsimp only at h m l;obtain⟨w1,_,O,_,_⟩:=xq f.us o (N s f);have J:=Z8 f.us G o (N s f);have n:(ar S 0 (s.A+w)).length=(ar S 0 s.A).length-w:=by rw[fy,fy];omega
   unfold iL at h;by_cases B:v=1
   ·rw[if_pos B]at h m J l;obtain⟨⟨C,_⟩,_,_⟩:=O B;have i:iw S Z (jy s tot)=⟨g,s.A+w,some mI,tot,none⟩:=m;have P:(s.took g w).u=g:=rfl;rw[P]at h;have y:=Z' (S:=S) (Z:=Z) (u:=g) (A:=s.A+w) (tot:=tot) C;cases E:fJ g.aS with
    |error e3=>rw[E]at h;cases h
    |ok R=>rw[E]at h y l;cases h;dsimp only at y l;obtain⟨K,z,p,Q,D⟩:=U (tot++R);have p:cY S Z K ⟨g,s.A+w,none,tot++R,none⟩ (t++z) e:=p;have D:K<=ni Z (ar S 0 (s.A+w)).length g:=D;rw[n]at D;rw[l];refine⟨3*g.aS.last.length+K+1,z, ?_,Q,jO⟩;rw[ey];exact cY.more (t1:=[]) rfl (by rw[i];exact(bV _).symm) (by rw[i];exact y K _ _ p)
   ·rw[if_neg B]at h m J l;have i:iw S Z (jy s tot)=⟨g,s.A+w,none,tot,none⟩:=m
    have I:L.u=g∧L.A=s.A+w:=by
     split at h
     ·cases h;exact⟨rfl,rfl⟩
     ·cases h;unfold Is.begun;split<;>exact⟨rfl,rfl⟩
    obtain⟨K,z,p,Q,D⟩:=U tot;have p:cY S Z K ⟨L.u,L.A,none,tot,none⟩ (t++z) e:=p;rw[I.1,I.2]at p D;rw[n]at D;rw[l];refine⟨K+1,z, ?_,Q,jO⟩;exact cY.more (t1:=[]) rfl (by rw[i];exact(bV _).symm) (by rw[i];exact p)
def x0:Xc:=⟨Ao,0,none,[],none⟩
theorem canon(e:S.length<=200)(h1:24<=Z)(h2:Z<=200):∃K a,K<=93700∧cY S Z K x0 (pV S Z (S.length+1) 0++a) (oE S Z (S.length+1) 0).2∧((oE S Z (S.length+1) 0).2=0->a=[]):=by obtain⟨k,r⟩:=al1 (S:=S) (Z:=Z) jO h1 jO;obtain⟨K,a,c,b,d⟩:=al7 h2 r [];refine⟨K,a, ?_,c,b⟩;have:ni Z (ar S 0 Au.A).length Au.u=54*(ar S 0 0).length+7300:=nk jD;rw[this,fy]at d;omega
end
theorem al8{ln:List Nat}(w:Wh ln){bs:List Bool}(j:20<=bs.length):∃s,fI ln bs=some s:=by
 have b:∀i,i<=20->(∃s,fI ln bs=some s)∨lH ln bs i:=by
  intro i
  induction i with
  |zero=>intro _;exact .inr (by unfold lH bX;rw[zZ w];exact aO _)
  |succ i e=>
   intro m;rcases e jO with h|E6
   ·exact .inl h
   ·have d:=E6.next (by omega:i<bs.length);by_cases a:num (bs.take (i+1)) 0<bX ln (i+1)+cn ln (i+1)
    ·obtain⟨s,hs⟩:=nZ (ln:=ln) (bs:=bs) (n:=i+1) jO d a;rcases hs with ⟨g,c⟩|hs
     ·obtain⟨mt,f⟩:=c jO;exact .inl ⟨s,D9 mt⟩
     ·omega
    ·exact .inr (by unfold lH;omega)
 rcases b 20 (ah _)with h|E6
 ·exact h
 ·have l:=w.full;have k:=ig (bs.take 20);unfold lH at E6;rw[l]at E6;rw[cT,Nat.min_eq_left j]at k;have:(2:Nat)^20=1048576:=rfl;omega
theorem aaa:∀(r o:Nat) (bs:List Bool),r<=bs.length->fz r o bs≠ .short
 |0,o,bs,_=>fun h=>by cases h
 |r+1,o,[],h=>absurd h (Nat.not_succ_le_zero _)
 |r+1,o,false::bs,_=>fun h=>by cases h
 |r+1,o,true::bs,h=>aaa r (o+1) bs (by rw[cP]at h;omega)
theorem al9{c:Cd}{bs:List Bool}(k:hM c)(r:20<=bs.length)(t:c.took.length<=c.count/50∨∀v∈c.took,v<c.aZ.length∨c.pk.fin=false∨c.aZ.length<c.pk.t):ed c bs≠ .short:=by
 intro h;unfold ed at h;by_cases j:c.pk.fin=false
 ·rw[if_pos j]at h;cases e:c8 c.pk bs with
  |bad e=>rw[e]at h;cases h
  |ok s u=>rw[e]at h;cases h
  |short=>
   unfold c8 at e;split at e
   ·rw[if_neg jO]at e;split at e<;>cases e
   ·cases d:fz c.pk.t 0 bs with
    |short=>exact aaa _ _ _ (by have:=k.gm;omega) d
    |bad x=>rw[d]at e;cases e
    |ok o u=>rw[d]at e;cases e
 ·rw[if_neg j]at h;by_cases n:c.aZ.length<c.pk.t
  ·rw[if_pos n]at h;cases e:stepT c bs with
   |bad e=>rw[e]at h;cases h
   |ok s u=>rw[e]at h;cases h
   |short=>
    unfold stepT at e;cases d:da c.now c.lens bs with
    |bad x=>rw[d]at e;cases e
    |ok a u=>
     obtain⟨m,l⟩:=a;rw[d]at e;dsimp only at e;split at e
     ·split at e<;>cases e
     ·cases e
    |short=>
     unfold da at d
     have p:∀m l u,ju m l u≠ .short:=fun m l u q=>by unfold ju at q;split at q<;>cases q
     split at d
     ·rw[if_neg jO]at d;exact p _ _ _ d
     ·match bs,r with
      |false::bs,_=>cases d
      |true::b::bs,_=>exact p _ _ _ d
  ·rw[if_neg n]at h;cases e:iV c bs with
   |bad e=>rw[e]at h;cases h
   |ok a u=>rw[e]at h;obtain⟨s,A⟩:=a;cases h
   |short=>
    unfold iV at e;by_cases f:c.took.length<=c.count/50
    ·rw[if_pos f]at e;cases e
    rw[if_neg f]at e
    have i:c.took.getD (c.count/50) 0∈c.took:=by rw[bz,bB jO];exact dO _
    have g:c.took.getD (c.count/50) 0<c.aZ.length:=by
     rcases t with q|q
     ·exact absurd q f
     ·rcases q _ i with q|q|q
      ·exact q
      ·exact absurd q j
      ·exact absurd q n
    have z:c.aZ.getD (c.took.getD (c.count/50) 0) []∈c.aZ:=by rw[bz (l:=c.aZ),bB g];exact dO _
    obtain⟨s,y⟩:=al8 (k.wh _ z).1 r;rw[y]at e;cases e
theorem hM.bw{c:Cd}(k:hM c):∀v∈c.took,v<c.aZ.length∨c.pk.fin=false∨c.aZ.length<c.pk.t:=fun v a=>by
 by_cases b:c.pk.fin=false
 ·exact .inr (.inl b)
 ·by_cases d:c.aZ.length<c.pk.t
  ·exact .inr (.inr d)
  ·rw[k.tk (by simpa using b)]at a;have:=k.pk.bw v a;exact .inl jO
theorem aab:∀(a:List Nat) (bs:List Bool) (acc:List Nat) (u:Nat),16*a.length<=bs.length->∃s v,hO a bs acc u= .ok s v
 |[],bs,acc,u,_=>⟨acc,u,rfl⟩
 |i::a,bs,acc,u,h=>by rw[cP]at h;unfold hO;rw[if_neg jO];exact aab a _ _ _ (by rw[bE];omega)
theorem al'{bs:List Bool}(h:272<=bs.length):fA bs≠ .short:=by
 intro q;unfold fA at q;rw[if_neg jO]at q
 have a:(ik (bs.take 16)).length<=16:=by unfold ik;have:=List.length_filter_le (fun i=>(bs.take 16).getD i false) (List.range 16);rw[List.length_range]at this;exact this
 obtain⟨s,v,e⟩:=aab (ik (bs.take 16)) (bs.drop 16) [] 16 (by rw[bE];omega);rw[e]at q;cases s<;>cases q
theorem al_{room A:Nat}{b:Bk}{bs:List Bool}(k:uV room A b)(h:272<=bs.length):dp room b bs≠ .short:=by
 intro q
 have g:∀(b:Bk) (r:Rw) (u:Nat),fB b r u≠ .short:=fun b r u q=>by
  unfold fB at q;split at q
  ·split at q<;>cases q
  ·cases q
 unfold dp at q;split at q
 ·rw[if_neg jO]at q;split at q<;>cases q
 ·cases c:b.row with
  |none=>
   rw[c]at q;dsimp only at q;cases e:fA bs with
   |short=>exact al' h e
   |bad x=>rw[e]at q;cases q
   |ok s u=>rw[e]at q;cases q
  |some r=>
   rw[c]at q;dsimp only at q;have f:=k.row r c;split at q
   ·exact g _ _ _ q
   ·next cw=>
    have i:r.cd.done=false:=by
     cases x:r.cd.done with
     |false=>rfl
     |true=>exact absurd (f.2.1 x) cw
    have ck:=f.1.cd i;cases e:iG r bs with
    |bad x=>rw[e]at q;cases q
    |ok j u=>rw[e]at q;exact g _ _ _ q
    |short=>
     unfold iG at e;cases d:ed r.cd bs with
     |short=>exact al9 ck jO (.inr ck.bw) d
     |bad x=>rw[d]at e;cases e
     |ok a u=>
      obtain⟨sym,l⟩:=a;rw[d]at e;dsimp only at e;split at e
      ·cases e
      ·split at e<;>cases e
theorem ama{Z A:Nat}{u:Us}{bs:List Bool}(k:m9 Z A u)(h:272<=bs.length):dc Z u A bs≠ .short:=by
 intro q
 have c:∀{d:Type} (w:Nat) (r:St d),sF w r= .short->r= .short:=fun w r q=>by
  cases r with
  |short=>rfl
  |bad e=>cases q
  |ok a u=>cases q
 unfold dc at q;split at q
 ·have:=c _ _ q;unfold pN at this;rw[if_neg jO]at this;split at this
  ·split at this<;>cases this
  ·split at this<;>cases this
 ·split at q
  ·have:=c _ _ q;unfold qK at this;rw[if_neg jO]at this;split at this
   ·cases this
   ·split at this<;>cases this
  ·split at q
   ·next d2=>
    obtain⟨b,g,f⟩:=k.b2 d2;unfold pO at q;rw[g]at q;dsimp only at q;cases e:dp (u.level*Z) b bs with
    |short=>exact al_ f h e
    |bad x=>rw[e]at q;cases q
    |ok i w=>rw[e]at q;dsimp only at q;split at q<;>cases q
   ·have:=c _ _ q;unfold qL at this;rw[if_neg jO]at this;split at this<;>cases this
theorem xw{c:Type}{a b:List c}{k:Nat}(h:k<=a.length):(a++b).take k=a.take k:=FJ h
theorem amb{a b:List Bool}{i k:Nat}(h:i+k<=a.length):((a++b).drop i).take k=(a.drop i).take k:=by rw[FI jO,FJ (by rw[bE];omega)]
theorem aac(t:List Bool):∀(a:List Nat) (bs:List Bool) (acc:List Nat) (u:Nat),hO a bs acc u≠ .short->hO a (bs++t) acc u=hO a bs acc u
 |[],bs,acc,u,_=>rfl
 |i::a,bs,acc,u,h=>by
  unfold hO at h⊢;by_cases c:bs.length<16
  ·rw[if_pos c]at h;exact absurd rfl h
  ·rw[if_neg c]at h;rw[if_neg c,if_neg (by rw[bG];omega),xw jO,FI jO];exact aac t a _ _ _ h
theorem amc{bs:List Bool}(t:List Bool)(h:fA bs≠ .short):fA (bs++t)=fA bs:=by
 unfold fA at h⊢;by_cases c:bs.length<16
 ·rw[if_pos c]at h;exact absurd rfl h
 ·rw[if_neg c]at h;rw[if_neg c,if_neg (by rw[bG];omega),xw jO,FI jO,aac t _ _ _ _ fun q=>h (by rw[q];rfl)]
theorem amd{room:Nat}{b:Bk}{bs:List Bool}(t:List Bool)(h:dp room b bs≠ .short):dp room b (bs++t)=dp room b bs:=by
 unfold dp at h⊢;by_cases a:b.head=false
 ·rw[if_pos a]at h;rw[if_pos a,if_pos a];by_cases c:bs.length<57
  ·rw[if_pos c]at h;exact absurd rfl h
  ·rw[if_neg c,if_neg (by rw[bG];omega),xw jO,amb jO]
   have:(bs++t).getD 32 false=bs.getD 32 false:=by rw[bz,List.getElem?_append_left jO,<-bz]
   rw[this]
 ·rw[if_neg a]at h;rw[if_neg a,if_neg a];cases e:b.row with
  |none=>rw[e]at h;dsimp only at h⊢;rw[amc t fun q=>h (by rw[q])]
  |some r=>
   rw[e]at h;dsimp only at h⊢;by_cases d:r.waits=true
   ·rw[if_pos d,if_pos d]
   ·rw[if_neg d]at h;rw[if_neg d,if_neg d]
    have:iG r (bs++t)=iG r bs:=by unfold iG;rw[ai_ t fun q=>h (by unfold iG;rw[q])]
    rw[this]
theorem ame{Z A:Nat}{u:Us}{bs:List Bool}(t:List Bool)(h:dc Z u A bs≠ .short):dc Z u A (bs++t)=dc Z u A bs:=by
 have g:∀{i:Type} (w:Nat) (r:St i),sF w r≠ .short->r≠ .short:=fun w r q e=>q (by rw[e];rfl);unfold dc at h⊢;by_cases f:u.due=0
 ·rw[if_pos f]at h;rw[if_pos f,if_pos f];have h:=g _ _ h;unfold pN at h⊢;by_cases c:bs.length<8
  ·rw[if_pos c]at h;exact absurd rfl h
  ·rw[if_neg c,if_neg (by rw[bG];omega),xw jO]
 ·rw[if_neg f]at h;rw[if_neg f,if_neg f];by_cases d:u.due=1
  ·rw[if_pos d]at h;rw[if_pos d,if_pos d];have h:=g _ _ h;unfold qK at h⊢;by_cases c:bs.length<48
   ·rw[if_pos c]at h;exact absurd rfl h
   ·rw[if_neg c,if_neg (by rw[bG];omega),xw jO]
  ·rw[if_neg d]at h;rw[if_neg d,if_neg d];by_cases a:u.due=2
   ·rw[if_pos a]at h;rw[if_pos a,if_pos a];unfold pO at h⊢;cases j:u.bf with
    |none=>rfl
    |some b=>rw[j]at h;dsimp only at h⊢;rw[amd t fun q=>h (by rw[q])]
   ·rw[if_neg a]at h;rw[if_neg a,if_neg a];have h:=g _ _ h;unfold qL at h⊢;by_cases c:bs.length<32
    ·rw[if_pos c]at h;exact absurd rfl h
    ·rw[if_neg c,if_neg (by rw[bG];omega),xw jO]
theorem aad(x:UInt8):∀k,aaL [x] k=bU k x
 |0=>rfl
 |k+1=>by show [x]++aaL [x] k=_;rw[aad x k];rfl
def oH(run a:Nat):AB:=⟨255,true,[.int .u8 (a:Int),jI (run:Int)]⟩
section
variable {Y d n:Nat} {h:H}
theorem amf(c k:Nat)(i:k<=1000):af (fun _=>False) n (aj aa gt Y (d+1) 183 #[.string ⟨(bS [c]).toArray⟩,jI (k:Int)]) h n fun a h' n'=>a= .string ⟨(bS (bU k c)).toArray⟩∧h'=h∧n'=n:=by
 have e:aj aa gt Y (d+1) 183 #[.string ⟨(bS [c]).toArray⟩,jI (k:Int)]=xO ⟨(bS [c]).toArray⟩ (k:Int):=jK;rw[e];unfold xO
 rw[if_pos (by
  have g:decide ((0:Int)<=(k:Int))=true:=decide_eq_true jO;have f:decide ((k:Int)<=1000000)=true:=decide_eq_true jO;have b:decide ((⟨(bS [c]).toArray⟩:ByteArray).size<=1000000)=true:=decide_eq_true (show(1:Nat)<=1000000 by decide)
  rw[g,f,b];rfl)]
 rw[kS,cV];refine⟨?_,rfl,rfl⟩;congr 2;show(aaL [gU c] k).toArray=_;rw[aad];unfold bS;rw[List.map_replicate]
theorem amg:af (fun _=>False) n (aj aa gt Y (d+1) 153 #[]) h n fun a h' n'=>a=jP n 0∧n'=n+1∧h'.get n=some (oH 0 0)∧∀b,b≠n->h'.get b=h.get b:=by rw[aB (fun _=>TF) rfl];refine af.aA ?_;unfold Ja;refine jB ?_;refine gD trivial _ _ ?_;rw[lF];exact⟨rfl,rfl,get_eq _ _ _,fun b c=>aw _ _ c⟩
theorem aae{a run b:Nat}(g:h.get a=some (oH run b))(i:a<n):af (fun _=>False) n (aj aa gt Y (d+1) 182 #[jP a 0]) h n fun f h' n'=>f= .bool (decide (run=4))∧h'=h∧n'=n:=by
 unfold oH at g;rw[aB (fun _=>UM) rfl];refine af.aA ?_;unfold Ju
 have e:(((run:Nat):Int)==4)=decide (run=4):=by
  by_cases c:run=4
  ·rw[decide_eq_true c,c];rfl
  ·rw[decide_eq_false c];exact beq_eq_false_iff_ne.2 jO
 exact jC (aI @g @e)
def aaf(a n:Nat)(h:H)(run f b:Nat)(g:Value)(h':H)(n':Nat):Prop:=n<=n'∧(∀c,c<n->c≠a->h'.get c=h.get c)∧match ja run f b with
 |none=>g= .tuple #[.string ⟨#[]⟩,.int .i64 25]
 |some (t,e,d)=>g= .tuple #[.string ⟨(bS t).toArray⟩,.int .i64 0]∧h'.get a=some (oH e d)
theorem amh{a run f b:Nat}(g:h.get a=some (oH run f))(A:a<n)(N:run<=4)(O:f<256)(P:b<256)(L:run=0->f=0):af (fun c=>c=a) n (aj aa gt Y (d+2) 149 #[jP a 0,.int .u8 (b:Int)]) h n (aaf a n h run f b):=by
 have I:=g;unfold oH at g
 have one:∀(s:H) (y:Nat) (k j:Nat),n<=y->(∀c,c<n->c≠a->s.get c=h.get c)->s.get a=some (oH k j)->ja run f b=some ([b],k,j)->af (fun c=>c=a) n (bO 5 1 (.int .u8 (b:Int)) fun d=>hC d fun e=>ag [e,(jI 0)]) s y (aaf a n h run f b):=fun s y k j E G J z=>by refine tL trivial (ke _ _) _ ?_;refine uL (ws:=[b]) (get_eq _ _ _) (dI _) jS rfl _ ?_;rw[yu];refine⟨jO,fun c B i=>by rw[aw _ _ jO];exact G c B i, ?_⟩;rw[z];exact⟨rfl,by rw[aw _ _ jO];exact J⟩
 rw[aB (fun _=>Tz) rfl];refine af.aA ?_;unfold I8;refine jB ?_;refine bq (aae (Y:=Y) (d:=d) I A) (ah n) (fun _ _ h=>h.elim) ?_;by_cases l:run=4
 ·rw[decide_eq_true l];by_cases D:251<b
  ·have u:(251:Int)<((b:Nat):Int):=jO;refine jA @u ?_;refine⟨ah n,fun c _ _=>rfl, ?_⟩;unfold ja;rw[if_pos l,if_pos D]
  ·have u:¬(251:Int)<((b:Nat):Int):=jO;refine jA (aI @u @g) ?_;refine tL trivial (ke _ _) _ ?_;refine uL (ws:=[f]) (get_eq _ _ _) (dI _) jS rfl _ ?_;have x:IntKind.i64.wrap ((b:Nat):Int)=((b:Nat):Int):=aH jO jO;refine jA @x ?_;refine bq (amf (Y:=Y) (d:=d) f b jO) (eL n) (fun _ _ h=>h.elim) ?_;refine jB ?_;refine cA (W:=fun c=>c=a) (sz:=2) trivial (vs:=[.int .u8 0,jI 0]) rfl rfl rfl ((aw _ _ jO).trans g) jO (.inr rfl) _ fun r o m=> ?_;rw[yu];refine⟨jO,fun c B i=>by rw[m c i,aw _ _ jO], ?_⟩;unfold ja;rw[if_pos l,if_neg D];exact⟨rfl,o⟩
 ·rw[decide_eq_false l];by_cases K:run=0
  ·subst K;have p:¬(0:Int)<((0:Nat):Int):=jD;refine jA (aI @g @p) ?_;refine cA (W:=fun c=>c=a) (sz:=2) trivial (vs:=[.int .u8 (b:Int),jI 1]) rfl rfl rfl g A (.inr rfl) _ fun r o m=> ?_;refine one r n 1 b (ah n) (fun c _ i=>m c i) o ?_;unfold ja;rw[if_neg jO,if_neg jO]
  ·have p:(0:Int)<((run:Nat):Int):=jO;by_cases C:b=f
   ·subst C;have t:(((b:Nat):Int)==((b:Nat):Int))=true:=beq_iff_eq.2 rfl;have x:IntKind.i64.wrap (((run:Nat):Int)+1)=((run+1:Nat):Int):=by rw[aH jO jO];rfl
    have v:((run:Nat):Int)+1=((run+1:Nat):Int):=rfl;refine jA (aI @g (aI @p (aI @t (aI @x @v)))) ?_;refine one _ n (run+1) b (ah n) (fun c _ i=>aw _ _ i) (get_eq _ _ _) ?_;unfold ja;rw[if_neg l,if_pos ⟨jO,rfl⟩]
   ·have t:(((f:Nat):Int)==((b:Nat):Int))=false:=beq_eq_false_iff_ne.2 jO;refine jA (aI @g (aI @p @t)) ?_;refine cA (W:=fun c=>c=a) (sz:=2) trivial (vs:=[.int .u8 (b:Int),jI 1]) rfl rfl rfl g A (.inr rfl) _ fun r o m=> ?_;refine one r n 1 b (ah n) (fun c _ i=>m c i) o ?_;unfold ja;rw[if_neg l,if_neg (fun q=>C q.2)]
theorem ami{a run b:Nat}(g:h.get a=some (oH run b))(f:a<n):af (fun c=>c=a) n (aj aa gt Y (d+2) 185 #[jP a 0]) h n fun i h' n'=>i=jI (if run=4 then 24 else 0)∧n'=n∧∀c,c≠a->h'.get c=h.get c:=by
 have k:=g;unfold oH at g;rw[aB (fun _=>UO) rfl];refine af.aA ?_;unfold Jw;refine jB ?_;refine bq (aae (Y:=Y) (d:=d) k f) (ah n) (fun _ _ h=>h.elim) ?_;by_cases e:run=4
 ·rw[decide_eq_true e,if_pos e];refine jB ?_;exact fun _ _=>trivial
 ·rw[decide_eq_false e,if_neg e];refine jB ?_;refine cA (W:=fun c=>c=a) (sz:=2) trivial (vs:=[.int .u8 0,jI 0]) rfl rfl rfl g f (.inr rfl) _ fun l m j=> ?_;rw[lF];exact⟨rfl,rfl,j⟩
end
section
variable {β:Type} {W:Nat->Prop} {n0:Nat} {h:H} {n:Nat} {Q:β->H->Nat->Prop}
theorem amj{T p:Prop}(_:T)(_:p){sz:Nat}(b off:Nat)(k:Value×Tk->M β){B:AB}(j:h.get b=some B)(l:b<n)(i:off+sz<=B.cells.length)(x:∀T,(∀e∈T.log,e.wr=false∧e.b=b)->T.n=n->T.n1=n->af W n0 (k (.agg ((B.cells.drop off).take sz).toArray,T)) h n Q):
 af W n0 ((az (bc sz (jP b off) M.ret)).bind k) h n Q:=by
 obtain⟨L,o,m⟩:=D6 (n:=n) j l sz off i
 have e:((gZ b off sz).bind fun g=>M.ret (mM ⟨g⟩)) h n=some ⟨.agg ((B.cells.drop off).take sz).toArray,h,n,L++[]⟩:=by rw[mq];exact bW o rfl
 have f:=mW e;rw[bV]at f;have d:∀y∈L.filter (fun e=> !(decide (n<=e.b)&&decide (e.b<n))),y.wr=false∧y.b=b:=fun y a=>m y (List.mem_filter.1 a).1;exact lG f (ah _) (fun y a c=>by rw[(d y a).1]at c;cases c) (x _ d rfl rfl)
theorem aag{a b:Tk}(h1:∀e∈a.log,e.wr=false)(h2:∀e∈b.log,e.wr=false)(g:∀e∈a.log,e.b<b.n)(h:a.n1<=a.n):bP a b=false:=by
 rw[tB];unfold Tk.cy;simp only[Bool.or_eq_false_iff,List.any_eq_false,bZ,decide_eq_true_eq,not_and];refine⟨⟨⟨fun x c d=> ?_,fun x c d=> ?_⟩,fun x c f=> ?_⟩,fun x c f=> ?_⟩
 ·rw[h1 x c]at d;cases d
 ·rw[h2 x c]at d;cases d
 ·have:=g x c;omega
 ·omega
end
structure Om where
 ia:Nat
 lb:Nat
 ua:Nat
 sa:Nat
def sO(g:Gt)(m:Om):AB:=⟨139,true,[.string ⟨(bS g.last).toArray⟩,jI (g.bK:Int),.int .u32 (g.sum:Int),jP m.ia 0,jP m.ua 0,jP m.sa 0]⟩
structure nq (h:H) (n:Nat) (L:Nat->Nat) (a:Nat) (m:Om) (g:Gt) (o:j0):Prop where
 get:h.get a=some (sO g m)
 lt:a<n
 la:L a=13
 inv:gT h n m.ia g.last g.bK o.k m.lb (.slice none 0 0) []
 li:L m.ia=14
 ll:L m.lb=15
 un:h.get m.ua=some (oH o.run o.prev)
 ult:m.ua<n
 lu:L m.ua=16
 sm:oD h n m.sa (o.mH.foldl jX 4294967295)
 ls:L m.sa=17
 r4:o.run<=4
 p8:o.prev<256
 r0:o.run=0->o.prev=0
 k3:o.k<=3*g.last.length
def WO(L:Nat->Nat):Nat->Prop:=fun c=>14<=L c∧L c<=17
theorem nq.au{h h':H}{n n':Nat}{L L':Nat->Nat}{a:Nat}{m:Om}{g:Gt}{o:j0}(x:nq h n L a m g o)(f:n<=n')(e:∀c,c<n->L' c=L c)(d:∀c,c<n->13<=L c->L c<=17->h'.get c=h.get c):nq h' n' L' a m g o:=
 ⟨(d _ x.lt (by rw[x.la];decide) (by rw[x.la];decide)).trans x.get,fK x.lt f,(e _ x.lt).trans x.la,
   x.inv.au f (d _ x.inv.lt (by rw[x.li];decide) (by rw[x.li];decide)) (d _ x.inv.sH (by rw[x.ll];decide) (by rw[x.ll];decide)) (fun b i=>i.not_nil.elim),
   (e _ x.inv.lt).trans x.li,(e _ x.inv.sH).trans x.ll,(d _ x.ult (by rw[x.lu];decide) (by rw[x.lu];decide)).trans x.un,fK x.ult f,(e _ x.ult).trans x.lu,
   ⟨(d _ x.sm.lt (by rw[x.ls];decide) (by rw[x.ls];decide)).trans x.sm.get,fK x.sm.lt f,x.sm.sm⟩,(e _ x.sm.lt).trans x.ls,x.r4,x.p8,x.r0,x.k3⟩
theorem amk{run d b c a:Nat}{t:List Nat}(i:run<=4)(g:d<256)(f:b<256)(h:ja run d b=some (t,c,a)):c<=4∧a<256∧(c=0->a=0)∧By t∧t.length<=251:=by
 unfold ja at h;split at h
 ·split at h
  ·cases h
  ·cases h;refine⟨aO _,jD,fun _=>rfl,fun x e=> ?_,by rw[j4];omega⟩;rw[(List.mem_replicate.1 e).2];exact g
 ·cases h;refine⟨by split<;>omega,f,fun q=> ?_,fun x e=> ?_,jS⟩
  ·exfalso;split at q<;>omega
  ·rw[List.mem_singleton.1 e];exact f
def Ma(L:Nat->Nat)(a:Nat)(m:Om)(g:Gt)(o:j0)(b:Value)(h':H)(n':Nat):Prop:=match hY g o with
 | .fail t e=>b= .tuple #[.string ⟨(bS t).toArray⟩,.int .i64 e]∧By t∧t.length<=251
 | .fin t=>b= .tuple #[.string ⟨(bS t).toArray⟩,.int .i64 0]∧(h'.get a=some (sO g m)∧gT h' n' m.ia g.last g.bK (3*g.last.length) m.lb (.slice none 0 0) [])∧By t∧t.length<=251
 | .go t c=>b= .tuple #[.string ⟨(bS t).toArray⟩,.int .i64 0]∧nq h' n' L a m g c∧By t∧t.length<=251∧c.k<3*g.last.length
section
variable {Y d n a:Nat} {h:H} {L:Nat->Nat} {m:Om} {g:Gt} {o:j0}
theorem aml(x:nq h n L a m g o)(ok:l5 g.last g.bK):af (WO L) n (aj aa gt Y (d+3) 151 #[jP a 0]) h n fun i h' n'=>n'=n∧(∀c,c≠m.ua->h'.get c=h.get c)∧if o.k=3*g.last.length then(if o.run=4 then i=jI 25 else if iJ o.mH=g.sum then i=jI 0 else i=jI 21)else i=jI 0∧h'=h:=by
 have j:=x.get;have v:=x.lt;unfold sO at j;rw[aB (fun _=>TD) rfl];refine af.aA ?_;unfold I9;refine jA @j ?_;refine bq (Aq (Y:=Y) (d:=d+1) x.inv ok x.k3) (ah n) (fun _ _ h=>h.elim) ?_;by_cases c:o.k=3*g.last.length
 ·rw[decide_eq_true c];simp only[if_pos c];refine jA @j ?_;refine aN aF (ami (Y:=Y) (d:=d) x.un x.ult) (ah n) (fun b _ E=> .inr (by rw[E];show 14<=L m.ua∧L m.ua<=17;rw[x.lu];decide)) fun K G C D I p=> ?_;obtain⟨rfl,rfl,f⟩:=p;have A:a≠m.ua:=fun q=>by have:=x.la;rw[q,x.lu]at this;cases this
  have B:m.sa≠m.ua:=fun q=>by have:=x.ls;rw[q,x.lu]at this;cases this
  have e:=(f a A).trans j;by_cases y:o.run=4
  ·simp only[if_pos y];have z:((24:Int) !=0)=true:=rfl;refine jA @z ?_;exact f
  ·simp only[if_neg y];have z:((0:Int) !=0)=false:=rfl;have l:oD G C m.sa (o.mH.foldl jX 4294967295):=⟨(f _ B).trans x.sm.get,x.sm.lt,x.sm.sm⟩;have u:=aku (Y:=Y) (d:=d+1) l;have J:iJ o.mH=4294967295-o.mH.foldl jX 4294967295:=rfl;rw[J];generalize 4294967295-o.mH.foldl jX 4294967295=q at u⊢;refine jA (aI @z @e) ?_;refine kp trivial a 5 _ e v rfl fun Q N=> ?_;refine jB ?_;refine kq aF u (ah _) fun P t=> ?_;refine jB ?_;refine kp trivial a 2 _ e v rfl fun O s=> ?_;by_cases r:q=g.sum
   ·have k:(((q:Nat):Int) !=((g.sum:Nat):Int))=false:=by rw[r];exact bne_self_eq_false _
    simp only[if_pos r];try simp(disch:=first|omega|assumption) only[Nat.reduceAdd,Nat.reduceLT,RZ,k,t.cy s,cf,dJ,dG]
    exact f
   ·have k:(((q:Nat):Int) !=((g.sum:Nat):Int))=true:=by rw[bne_iff_ne];omega
    simp only[if_neg r];try simp(disch:=first|omega|assumption) only[Nat.reduceAdd,Nat.reduceLT,RZ,k,t.cy s,cf,dJ,dG]
    exact f
 ·rw[decide_eq_false c];simp only[if_neg c];refine jB ?_;exact fun _ _=>trivial
theorem amm(l:List Nat)(a s:Nat):pQ l a s 1=iI l a s:=by simp[pQ]
theorem amn(x:nq h n L a m g o)(ok:l5 g.last g.bK)(hs:g.sum<4294967296)(hk:o.k<3*g.last.length)(v7:3000000<=Y):af (WO L) n (aj aa gt Y (d+4) 116 #[jP a 0]) h n (Ma L a m g o):=by
 have ga:=x.get;have ha:=x.lt;unfold sO at ga;have E:m.ua≠m.ia:=fun q=>by have:=x.lu;rw[q,x.li]at this;cases this
 have D:m.ua≠m.lb:=fun q=>by have:=x.lu;rw[q,x.ll]at this;cases this
 have J:m.sa≠m.ia:=fun q=>by have:=x.ls;rw[q,x.li]at this;cases this
 have I:m.sa≠m.lb:=fun q=>by have:=x.ls;rw[q,x.ll]at this;cases this
 have G:m.sa≠m.ua:=fun q=>by have:=x.ls;rw[q,x.lu]at this;cases this
 have R:a≠m.ia:=fun q=>by have:=x.la;rw[q,x.li]at this;cases this
 have Q:a≠m.lb:=fun q=>by have:=x.la;rw[q,x.ll]at this;cases this
 have P:a≠m.ua:=fun q=>by have:=x.la;rw[q,x.lu]at this;cases this
 have u6:a≠m.sa:=fun q=>by have:=x.la;rw[q,x.ls]at this;cases this
 have O:m.ia≠m.ua:=fun q=>E q.symm;have N:m.lb≠m.ua:=fun q=>D q.symm;have u5:m.ia≠m.sa:=fun q=>J q.symm;have u4:m.lb≠m.sa:=fun q=>I q.symm;have u3:m.ua≠m.sa:=fun q=>G q.symm;have wi:WO L m.ia:=by show 14<=L m.ia∧L m.ia<=17;rw[x.li];decide
 have wl:WO L m.lb:=by show 14<=L m.lb∧L m.lb<=17;rw[x.ll];decide
 have wu:WO L m.ua:=by show 14<=L m.ua∧L m.ua<=17;rw[x.lu];decide
 have ws:WO L m.sa:=by show 14<=L m.sa∧L m.sa<=17;rw[x.ls];decide
 rw[aB (fun _=>So) rfl];refine af.aA ?_;unfold Iy;refine jA @ga ?_;have st:=akl (Y:=Y) (d:=d) x.inv ok x.k3 1 jD jS v7;rw[show min 1 (3*g.last.length-o.k)=1 by omega,amm,lk]at st
 refine aN aF st (ah n) (fun b _ hb=> .inr (by
  rcases hb with rfl|rfl|hb
  ·exact wi
  ·exact wl
  ·exact hb.not_nil.elim)) fun v1 h1 n1 u w1 v6=> ?_
 obtain⟨rfl,w4,x1,_⟩:=v6
 have A:∀b,b<n->b≠m.ia->b≠m.lb->h1.get b=h.get b:=fun b hb h2 X=>w1 b hb fun q=>by
  rcases q with q|q|q
  ·exact h2 q
  ·exact X q
  ·exact q.not_nil.elim
 have w0:=(A a ha R Q).trans ga;have W:a<n1:=jO;refine jA @w0 ?_;refine aN aF (akk (Y:=Y) (d:=d+2) x1) u (fun b _ hb=> .inr (by rw[hb];exact wi)) fun v2 h2 n2 w7 x8 v0=> ?_;obtain⟨rfl,rfl,x2,k2⟩:=v0;have jJ:∀b,b<n->b≠m.ia->b≠m.lb->h2.get b=h.get b:=fun b hb Z X=>(k2 b Z).trans (A b hb Z X);have v:=(jJ a ha R Q).trans ga;have u0:=(jJ m.ua x.ult E D).trans x.un;have l:oD h2 n2 m.sa (o.mH.foldl jX 4294967295):=⟨(jJ _ x.sm.lt J I).trans x.sm.get,fK x.sm.lt u,x.sm.sm⟩;unfold Ma hY
 have tb:iI g.last g.bK o.k=[]∨∃b,iI g.last g.bK o.k=[b]∧b<256∧2*g.last.length<=o.k:=by
  unfold iI;split
  ·refine .inr ⟨_,rfl,ok.iH.at (uX ok.iH ok.cG _),by assumption⟩
  ·exact .inl rfl
 rcases tb with e|⟨b,e,hb,x3⟩
 ·rw[e];dsimp only
  have w3:∀K:Value->M Value,cH (.string ⟨(bS []).toArray⟩) (aM {data:=#[]}) K=K (.bool true):=fun K=>by have:=tI (k:=K) (bS []) [];rw[show(aM {data:=#[]})= .string ⟨([]:List UInt8).toArray⟩from rfl,this];rfl
  simp only[w3];refine jB ?_
  have w9:o.k<2*g.last.length:=by
   rcases Nat.lt_or_ge o.k (2*g.last.length)with q|q
   ·exact q
   ·unfold iI at e;rw[if_pos q]at e;cases e
  exact⟨rfl,⟨v,W,x.la,x2,x.li,x.ll,u0,by have:=x.ult;omega,x.lu,l,x.ls,x.r4,x.p8,x.r0,by show o.k+1<=_;omega⟩,fun y s=>absurd s jl,aO _,by show o.k+1<_;omega⟩
 ·rw[e];dsimp only
  have w2:∀K:Value->M Value,cH (.string ⟨(bS [b]).toArray⟩) (aM {data:=#[]}) K=K (.bool false):=fun K=>by have:=tI (k:=K) (bS [b]) [];rw[show(aM {data:=#[]})= .string ⟨([]:List UInt8).toArray⟩from rfl,this];rfl
  have u7:∀K:Value->M Value,cU (.string ⟨(bS [b]).toArray⟩) (jI 0) K=K (.int .u8 (b:Int)):=fun K=>by
   have:=vV K (bS [b]) .i64 0 jD (show(0:Int)<((1:Nat):Int) by decide);rw[this];congr 2;have s:By [b]:=fun y s=>by rw[List.mem_singleton.1 s];exact hb
   have:=EK s (i:=0) (show 0<1 by decide);exact congrArg Int.ofNat this
  simp only[w2];refine jA @v ?_;rw[u7];refine aN aF (amh (Y:=Y) (d:=d+1) u0 (by have:=x.ult;omega) x.r4 x.p8 hb x.r0) u (fun c _ U=> .inr (by rw[U];exact wu)) fun v3 X n3 T x7 j=> ?_;obtain⟨_,k3,j⟩:=j;cases ep:ja o.run o.prev b with
  |none=>rw[ep]at j;have j:v3= .tuple #[.string ⟨#[]⟩,jI 25]:=j;subst j;have z:((25:Int) !=0)=true:=rfl;refine jA (aI @bJ (aI @ext1 @z)) ?_;exact⟨rfl,fun y s=>absurd s jl,aO _⟩
  |some q=>
   obtain⟨t,p,r⟩:=q;rw[ep]at j;obtain⟨rfl,v9⟩:=j;obtain⟨p1,p2,p3,C,p5⟩:=amk x.r4 x.p8 hb ep;have z:((0:Int) !=0)=false:=rfl;have u1:=(k3 a W P).trans v;have v8:a<n3:=jO;have u2:oD X n3 m.sa (o.mH.foldl jX 4294967295):=⟨(k3 _ l.lt G).trans l.get,fK l.lt T,l.sm⟩;refine jA (aI @bJ (aI @ext1 (aI @z @u1))) ?_;refine aN aF (akt (Y:=Y) (d:=d) u2 t C jO jO) jO (fun c _ U=> .inr (by rw[U];exact ws)) fun v4 h4 n4 w6 x6 u9=> ?_;obtain⟨rfl,B,k4⟩:=u9;rw[<-AW]at B;have i4:gT h4 n4 m.ia g.last g.bK (o.k+1) m.lb (.slice none 0 0) []:=(x2.au T (k3 _ x2.lt O) (k3 _ x2.sH N) (fun b hb=>hb.not_nil.elim)).au (ah _) (k4 _ u5) (k4 _ u4) (fun b hb=>hb.not_nil.elim);have x4:nq h4 n4 L a m g ⟨o.k+1,p,r,o.mH++t⟩:=⟨(k4 a u6).trans u1,v8,x.la,i4,x.li,x.ll,(k4 _ u3).trans v9,by have:=x.ult;omega,x.lu,B,x.ls,p1,p2,p3,by show o.k+1<=_;omega⟩;refine jB ?_;refine aN aF (aml (Y:=Y) (d:=d) x4 ok) jO (fun c _ U=> .inr U) fun v5 h5 n5 w5 x5 f=> ?_;obtain⟨rfl,k5,f⟩:=f;rw[yu];dsimp only at f⊢;by_cases c3:o.k+1=3*g.last.length
   ·rw[if_pos c3]at f⊢;by_cases c4:p=4
    ·rw[if_pos c4]at f⊢;subst f;exact⟨rfl,C,p5⟩
    ·rw[if_neg c4]at f⊢;by_cases c5:iJ (o.mH++t)=g.sum
     ·rw[if_pos c5]at f⊢;subst f;have i5:=x4.inv.au (ah _) (k5 _ O) (k5 _ N) (fun b hb=>hb.not_nil.elim);have i5:gT h5 _ m.ia g.last g.bK (o.k+1) m.lb (.slice none 0 0) []:=i5;rw[c3]at i5;exact⟨rfl,⟨(k5 a P).trans x4.get,i5⟩,C,p5⟩
     ·rw[if_neg c5]at f⊢;subst f;exact⟨rfl,C,p5⟩
   ·rw[if_neg c3]at f⊢;obtain⟨rfl,rfl⟩:=f;exact⟨rfl,x4,C,p5,by show o.k+1<_;omega⟩
def Mb:Option AB->Nat
 |some B=>if B.elem=139 then 13 else if B.elem=176 then 14 else if B.elem=255 then 16 else if B.elem=260 then 17 else 15
 |none=>0
theorem amo(ok:l5 g.last g.bK)(L:Nat->Nat)(u7:3000000<=Y):af (fun _=>False) n (aj aa gt Y (d+4) 120 #[.agg #[.string ⟨(bS g.last).toArray⟩,jI (g.bK:Int),.int .u32 (g.sum:Int)]]) h n fun Z h' n'=>∃a m L',Z=jP a 0∧(∀c,c<n->L' c=L c)∧nq h' n' L' a m g mI:=by
 rw[aB (fun _=>Ss) rfl];refine af.aA ?_;unfold IC;refine gD trivial _ _ ?_;obtain⟨I,K⟩:∃q,h.set n (some ⟨134,true,(mM #[.string ⟨(bS g.last).toArray⟩,jI (g.bK:Int),.int .u32 (g.sum:Int)]).cells.toList⟩)=q:=⟨_,rfl⟩;have Q:I.get n=some ⟨134,true,[.string ⟨(bS g.last).toArray⟩,jI (g.bK:Int),.int .u32 (g.sum:Int)]⟩:=by rw[<-K,get_eq];rfl
 have k0:∀c,c<n->I.get c=h.get c:=fun c G=>by rw[<-K,aw _ _ jO]
 rw[K];have E:n<n+1:=dI n;refine jA @Q ?_;have r:=akj (Y:=Y) (d:=d+2) (h:=I) (n:=n+1) ok;refine aN aF r (eL n) (fun _ _ h=>h.elim) fun v1 h1 n1 u6 J C=> ?_;obtain⟨rfl,rfl,X⟩:=C;have g1:h1.get n=_:=(J n E id).trans Q;refine jA (aI @bJ @ext1) ?_;refine amj trivial trivial n 0 _ g1 jO (show 0+3<=3 by decide) fun x v u0 u1=> ?_;refine lV aF (amg (Y:=Y) (d:=d+2)) jO fun v2 h2 n2 T u5 u B O=> ?_;obtain⟨rfl,rfl,u2,_⟩:=B;refine lV aF (akr (Y:=Y) (d:=d+1) jO) jO fun v3 t f R D p A N=> ?_;obtain⟨k,rfl,u3,l⟩:=A;have W:bP x T=false:=aag (fun e o=>(v e o).1) O.wr (fun e o=>by rw[(v e o).2];have:=O.le;omega) jO;have U:bP x R=false:=aag (fun e o=>(v e o).1) N.wr (fun e o=>by rw[(v e o).2];have:=N.le;omega) jO;show af (fun _=>False) n ((az (dW 139 (mM #[.string ⟨(bS g.last).toArray⟩,jI (g.bK:Int),.int .u32 (g.sum:Int),jP (n+1+1) 0,jP (n+1+2) 0,jP k 0]) M.ret)).bind fun g=>dm (!bP x T&& !bP x R) (ag [g.fst])) t f _;refine Px trivial _ _ ?_;refine jA (aI @W (aI @U (aI @cf (aI @dJ @dG)))) ?_;have z:=(p (n+1+2) jO).trans u2;have y:gT t f (n+1+1) g.last g.bK 0 (n+1) (.slice none 0 0) []:=(X.au (eL _) (u _ jO) (u _ jO) (fun b s=>s.not_nil.elim)).au D (p _ jO) (p _ jO) (fun b s=>s.not_nil.elim);have P:=l.get;have u4:=l.lt;unfold oH at z;refine⟨f,⟨n+1+1,n+1,n+1+2,k⟩,fun c=>if c<n then L c else Mb ((t.set f (some ⟨139,true,[.string ⟨(bS g.last).toArray⟩,jI (g.bK:Int),.int .u32 (g.sum:Int),jP (n+1+1) 0,jP (n+1+2) 0,jP k 0]⟩)).get c),rfl,fun c G=>if_pos G, ?_⟩;have j:∀{c i:Nat},n<=c->Mb ((t.set f (some ⟨139,true,[.string ⟨(bS g.last).toArray⟩,jI (g.bK:Int),.int .u32 (g.sum:Int),jP (n+1+1) 0,jP (n+1+2) 0,jP k 0]⟩)).get c)=i->(if c<n then L c else Mb ((t.set f (some ⟨139,true,[.string ⟨(bS g.last).toArray⟩,jI (g.bK:Int),.int .u32 (g.sum:Int),jP (n+1+1) 0,jP (n+1+2) 0,jP k 0]⟩)).get c))=i:=fun G q=>by rw[if_neg jO];exact q
 exact⟨get_eq _ _ _,jO,j jO (by rw[get_eq];rfl),y.au jO (aw _ _ jO) (aw _ _ jO) (fun b s=>s.not_nil.elim),j (by show n<=n+1+1;omega) (by rw[aw _ _ (by show n+1+1≠f;omega),y.get];rfl),j (by show n<=n+1;omega) (by rw[aw _ _ (by show n+1≠f;omega),y.xm];rfl),(aw _ _ (by show n+1+2≠f;omega)).trans z,by show n+1+2<f+1;omega,j (by show n<=n+1+2;omega) (by rw[aw _ _ (by show n+1+2≠f;omega),z];rfl),
  ⟨(aw _ _ (by show k≠f;omega)).trans P,by show k<f+1;omega,l.sm⟩,j (by show n<=k;omega) (by rw[aw _ _ (by show k≠f;omega),P];rfl),jD,jD,fun _=>rfl,aO _⟩
end
end Go.Proofs.YtmjolmggelkjlaaGreat
