import Derived.Test.YtcehhgppfahbkaaGreatDoorMai
import Derived.Test.YtcehhgppfahbkaaGreatDoorMah
import Derived.Test.YtcehhgppfahbkaaGreatDoorMag
import Derived.Test.YtcehhgppfahbkaaGreatDoorMad
open Go.Proofs.Tryz renaming prog→ad
open Nat renaming le_refl→ag, le_succ→cI, zero_le→cL, lt_of_lt_of_le→dC, not_lt_zero→jr, mod_eq_of_lt→kB, pow_le_pow_right→kD, le_trans→pU, lt_of_le_of_lt→ahL
open List renaming getD_eq_getElem?_getD→au, length_append→ay, getElem?_eq_getElem→aC, range→aV, append_nil→bV, append_assoc→b9, getElem_mem→cu, drop_zero→dj, length_map→eR, take_length→fi, getElem?_map→fw, getElem?_eq_none→jq, length_range→kC, mem_append→p8, drop→qd, length_singleton→tW, getElem?_range→ua, range_succ→uf, mem_singleton→Dc, filter_append→ahz, length_filter_le→ah_, flatMap_nil→aib
open Go.Value renaming string→bM
open Int renaming lt_irrefl→cb, toNat_natCast→fg, ofNat_tdiv→VK, ofNat_tmod→ahp
open BitVec renaming ofInt→cR
open Bool renaming true_and→oq, false_and→vO
open Option.some renaming inj→rm
open Go.IntWalk renaming u32_in→IH, u8_in→ahx
open ByteArray renaming mk→aiE
set_option linter.unusedVariables false
set_option linter.unusedSimpArgs false
namespace Go.Proofs.YtcehhgppfahbkaaGreatDoor
open Go.RowKit Ev Tb Cn Ip
section
variable {lf d n:Nat} {h:H}
theorem afC{a:Nat}(f:1<=a)(h2:a<=256):aa (fun _=>False) n (ah ad gt lf (d+1) 128 #[jI (a:Int)]) h n fun b h' n'=>b= .bool true∧h'=h∧n'=n:=by
 rw[aF (fun _=>Pd) rfl];refine aa.aD ?_;unfold F3;have e:(1:Int)<=((a:Nat):Int):=jO;have c:((a:Nat):Int)<=256:=jO;try simp(disch:=first|omega|assumption|exact Int.natCast_nonneg _) only[Nat.reduceAdd,Nat.reduceLT,RZ,e,c]
 try rfl
theorem Ia{a:Nat}:∀(F m b n:Nat) (h:H) (o:Value) (A:List Nat),m<=F->F<b->m+A.length<=1000000000->a<=n->Own h a n 3 o (aR .i64 (iN A))->aa (fun _=>False) a (sE lf (ah ad gt lf d) b (AR lf (ah ad gt lf d)) (jI (m:Int)) nS o) h n fun r h' n'=>Own h' a n' 3 r (aR .i64 (iN (A++ew F m)))
 |F,m,0,_,_,_,_,_,q,_,_,_=>absurd q (jr F)
 |F,0,b+1,n,h,o,A,_,_,_,_,f=>by
  have s:ew F 0=[]:=by cases F<;>rfl
  have e:¬(0:Int)<((0:Nat):Int):=jD;rw[sE,s,bV];try simp(disch:=first|omega|assumption|exact Int.natCast_nonneg _) only[Nat.reduceAdd,Nat.reduceLT,RZ,e]
  unfold AR;try simp(disch:=first|omega|assumption|exact Int.natCast_nonneg _) only[Nat.reduceAdd,Nat.reduceLT,RZ]
  exact f
 |F,m+1,b+1,n,h,o,A,u,q,v,t,f=>by
  obtain⟨F,rfl⟩:∃g,F=g+1:=⟨F-1,jO⟩;have e:(0:Int)<((m+1:Nat):Int):=jO;have p:((m+1:Nat):Int).tmod 2=(((m+1)%2:Nat):Int):=by rw[show(2:Int)=((2:Nat):Int)from rfl,<-ahp]
  rw[sE];by_cases c:(m+1)%2=1
  ·have l:((((m+1)%2:Nat):Int)==1)=true:=by rw[c];rfl
   have i:ew (F+1) (m+1)=[0]++ew F (m/2):=by show(if m+1=0 then []else if(m+1)%2=1 then 0::ew F ((m+1-1)/2)else _)=_;rw[if_neg jO,if_pos c,Nat.add_sub_cancel];rfl
   try simp(disch:=first|omega|assumption|exact Int.natCast_nonneg _) only[Nat.reduceAdd,Nat.reduceLT,RZ,e,p,l]
   refine nJ trivial (l4 _ _) f (by rw[cO,bC];omega) (ag a) _ fun j k _=> ?_;have q2:IntKind.i64.wrap ((((m+1:Nat):Int)-0-1).tdiv 2)=(((m)/2:Nat):Int):=by rw[show((m+1:Nat):Int)-0-1=((m:Nat):Int) by omega,show(2:Int)=((2:Nat):Int)from rfl,<-VK,aO jO jO]
   rw[q2,i,<-b9];refine Ia F ((m)/2) b (n+2) j _ (A++[0]) jO jO (by rw[ay,tW];omega) jO ?_;rw[tA,tB];exact Own.mk' k jO jO (by rw[ay];rfl)
  ·have l:((((m+1)%2:Nat):Int)==1)=false:=beq_eq_false_iff_ne.2 jO
   have i:ew (F+1) (m+1)=[1]++ew F ((m-1)/2):=by show(if m+1=0 then []else if(m+1)%2=1 then 0::ew F ((m+1-1)/2)else 1::ew F ((m+1-2)/2))=_;rw[if_neg jO,if_neg c,show m+1-2=m-1 by omega];rfl
   try simp(disch:=first|omega|assumption|exact Int.natCast_nonneg _) only[Nat.reduceAdd,Nat.reduceLT,RZ,e,p,l]
   refine nJ trivial (l4 _ _) f (by rw[cO,bC];omega) (ag a) _ fun j k _=> ?_;have q2:IntKind.i64.wrap ((((m+1:Nat):Int)-1-1).tdiv 2)=(((m-1)/2:Nat):Int):=by rw[show((m+1:Nat):Int)-1-1=((m-1:Nat):Int) by omega,show(2:Int)=((2:Nat):Int)from rfl,<-VK,aO jO jO]
   rw[q2,i,<-b9];refine Ia F ((m-1)/2) b (n+2) j _ (A++[1]) jO jO (by rw[ay,tW];omega) jO ?_;rw[tA,tB];exact Own.mk' k jO jO (by rw[ay];rfl)
theorem U7(m:Nat)(c:m<=1000000)(b:m+1<lf):aa (fun _=>False) n (ah ad gt lf (d+1) 129 #[jI (m:Int)]) h n fun a h' n'=>Own h' n n' 3 a (aR .i64 (iN (ew m m))):=by rw[aF (fun _=>Pg) rfl];refine aa.aD ?_;unfold AU;exact Ia m m lf n h nS [] (ag m) jO (by show m+0<=_;omega) (ag n) (Own.nil _ _ _ _)
theorem afD{v:Value}{f:Nat}(h1:1<=f)(h2:f<=256)(l:List Nat)(hp:∀p∈l,p<f)(hl:l.length<=1000000)(T:Row h n 3 .i64 v (iN l))(u0:3000000<=lf):aa (fun _=>False) n (ah ad gt lf (d+3) 97 #[v,jI (f:Int)]) h n fun Z h' n'=>∃o,Z= .tuple #[o,jI 0]∧Own h' n n' 3 o (aR .i64 (iN (lu f 0 l))):=by
 have Q:(iN l).length=l.length:=bC l;rw[aF (fun _=>Oy) rfl];refine aa.aD ?_;unfold AA
 have kl:∀K:Value->M Value,aY v K=K (jI (l.length:Int)):=fun K=>by obtain⟨a,c,e⟩:=T.len;rw[e,Q];rfl
 refine bU (afC (lf:=lf) (d:=d+1) (h:=h) (n:=n) h1 h2) (ag n) (fun _ _ h=>h.elim) ?_;try simp(disch:=first|omega|assumption|exact Int.natCast_nonneg _) only[Nat.reduceAdd,Nat.reduceLT,RZ,kl]
 refine dP l.length (fun L i (o:Value)=>qK lf (ah ad gt lf (d+2)) L (Az lf (ah ad gt lf (d+2))) v (jI (f:Int)) nS (jI 0) o (jI ((ft (l.take i)).2:Int)) (.bool false) v (jI (l.length:Int)) (jI (i:Nat))) (fun i o h' n'=>n<=n'∧(∀b,b<n->h'.get b=h.get b)∧Own h' n n' 3 o (aR .i64 (iN (ft (l.take i)).1))) ?_ ?_ lf 0 nS h n (cL _) jO ⟨ag _,fun _ _=>rfl,Own.nil _ _ _ _⟩
 ·rintro L o h' n' ⟨q1,q2,g⟩;have s:=H' l l.length (ag _);rw[fi]at g s⊢;have N:=U5 f l ([],0);have N:lu f 0 l=(ft l).1++(ew (ft l).2 (ft l).2++[f+1]):=N;rw[N];have y:IntKind.i64.wrap (((f:Nat):Int)+1)=((f+1:Nat):Int):=by rw[aO jO jO];rfl
  have D:=tS (ft l).2 (ft l).2;generalize (ft l).1=A at g s⊢;generalize (ft l).2=B at s D⊢;rw[qK];try simp(disch:=first|omega|assumption|exact Int.natCast_nonneg _) only[Nat.reduceAdd,Nat.reduceLT,RZ,cb]
  unfold Az;try simp(disch:=first|omega|assumption|exact Int.natCast_nonneg _) only[Nat.reduceAdd,Nat.reduceLT,RZ]
  refine aJ aE (U7 (lf:=lf) (d:=d+1) (h:=h') (n:=n') B jO jO) q1 (fun _ _ h=>h.elim) fun Y h8 n8 m j k=> ?_;refine LD trivial (g.ar m fun b u=>j b (g.lt u).2 id) k.row (by rw[cO,bC,bC];omega) (ag n) jO _ fun X h9 F I z _ _=> ?_;try simp(disch:=first|omega|assumption|exact Int.natCast_nonneg _) only[Nat.reduceAdd,Nat.reduceLT,RZ,y]
  refine nJ trivial (l4 _ _) z (by rw[ay,cO,cO,bC,bC];omega) (ag n) _ fun w r t=> ?_;try simp(disch:=first|omega|assumption|exact Int.natCast_nonneg _) only[Nat.reduceAdd,Nat.reduceLT,RZ]
  refine⟨_,rfl, ?_⟩;rw[tA,tA,tB,tB,<-b9];exact Own.mk' (b:=F+1) r jO jO (by simp[aR,iN];omega)
 ·rintro L i o h' n' R ⟨q1,q2,g⟩ next;have U:((i:Nat):Int)<((l.length:Nat):Int):=jO;have y:((i:Nat):Int)+1=((i+1:Nat):Int):=rfl;obtain⟨bb,E,cap,oo,ks,ev,hg,u1,_,_,_,J⟩:=(T.ar q1 q2).some jO;have P:=J i jO;rw[ki]at P;rw[Q]at ev
  have kx:∀K:Value->M Value,aM v (jI (i:Int)) K=K (jP bb (E+i)):=fun K=>by rw[ev];try simp(disch:=first|omega|assumption|exact Int.natCast_nonneg _) only[Nat.reduceAdd,Nat.reduceLT,RZ,U]
  have s:=H' l i jO;have W:=U6 R;have hx:=hp (l.getD i 0) (by rw[au,aC R];exact cu _);have D:=tS (ft (l.take i)).2 (ft (l.take i)).2;have next:∀o' h2 G,n<=G->_->_->_:=fun o' h2 G a b c=>next o' h2 G ⟨a,b,c⟩;rw[W]at next;generalize l.getD i 0=x at P hx next;generalize (ft (l.take i)).1=A at g s next⊢;generalize (ft (l.take i)).2=B at s D next⊢;have c3:¬((x:Nat):Int)<0:=jO;have c4:¬((f:Nat):Int)<=((x:Nat):Int):=jO;rw[qK];try simp(disch:=first|omega|assumption|exact Int.natCast_nonneg _) only[Nat.reduceAdd,Nat.reduceLT,RZ,U,kx,hg,P,c3,c4]
  by_cases c:x=0
  ·have O:(((x:Nat):Int)==0)=true:=by rw[c];rfl
   have C:IntKind.i64.wrap (((B:Nat):Int)+1)=((B+1:Nat):Int):=by rw[aO jO jO];rfl
   rw[if_pos c]at next;try simp(disch:=first|omega|assumption|exact Int.natCast_nonneg _) only[Nat.reduceAdd,Nat.reduceLT,RZ,O,C]
   rw[y];exact next o h' n' q1 q2 g
  ·have O:(((x:Nat):Int)==0)=false:=beq_eq_false_iff_ne.2 jO;have C:IntKind.i64.wrap (((x:Nat):Int)+1)=((x+1:Nat):Int):=by rw[aO jO jO];rfl
   rw[if_neg c]at next;try simp(disch:=first|omega|assumption|exact Int.natCast_nonneg _) only[Nat.reduceAdd,Nat.reduceLT,RZ,O]
   refine aJ aE (U7 (lf:=lf) (d:=d+1) (h:=h') (n:=n') B jO jO) q1 (fun _ _ h=>h.elim) fun Y h8 n8 m j k=> ?_;refine LD trivial (g.ar m fun b u=>j b (g.lt u).2 id) k.row (by rw[cO,bC,bC];omega) (ag n) jO _ fun X h9 F I z _ k9=> ?_;try simp(disch:=first|omega|assumption|exact Int.natCast_nonneg _) only[Nat.reduceAdd,Nat.reduceLT,RZ,C]
   refine nJ trivial (l4 _ _) z (by rw[ay,cO,cO,bC,bC];omega) (ag n) _ fun w r t=> ?_;try simp(disch:=first|omega|assumption|exact Int.natCast_nonneg _) only[Nat.reduceAdd,Nat.reduceLT,RZ]
   rw[y];refine next _ w _ jO (fun b u=> ?_) ?_
   ·rw[t b jO (fun q=>by have:=(z.lt q).1;omega),k9 b jO (fun q=>by have:=(g.lt q).1;omega),j b jO id];exact q2 b u
   ·rw[<-b9,tA,tA,tB,tB];exact Own.mk' (b:=F+1) r jO jO (by simp[aR,iN];omega)
end
end Go.Proofs.YtcehhgppfahbkaaGreatDoor
namespace Go.Proofs.YtcehhgppfahbkaaGreatDoor
open Go.RowKit Ev Cn Ip
def tU(s:List Nat)(i:Nat):List Bool:=((aV i).filter (fW s)).flatMap (mi s)
theorem Ib(s:List Nat)(i:Nat):tU s (i+1)=tU s i++(if fW s i=true then mi s i else []):=by
 unfold tU;rw[uf,ahz,List.flatMap_append,List.filter_cons,List.filter_nil];by_cases c:fW s i=true
 ·rw[if_pos c,if_pos c,List.flatMap_cons,aib,bV]
 ·rw[if_neg c,if_neg c,aib]
theorem U8(s:List Nat):∀i,(tU s i).length<=16*i
 |0=>ag _
 |i+1=>by
  have:=U8 s i;have r:=xN s i;rw[Ib,ay];split
  ·omega
  ·rw[List.length_nil];omega
section
variable {lf d n:Nat} {h:H}
end
theorem U9:∀(n v i:Nat),i<n->(bQ v n)[i]? =some (v.testBit (n-1-i))
 |0,_,_,h=>absurd h (jr _)
 |n+1,v,i,h=>by
  show(bQ (v/2) n++[decide (v %2=1)])[i]? =_;have a:=dM n (v/2);by_cases c:i<n
  ·rw[List.getElem?_append_left jO,U9 n (v/2) i c,show n+1-1-i=(n-1-i)+1 by omega,Nat.testBit_succ]
  ·obtain rfl:i=n:=jO;rw[List.getElem?_append_right jO,a,Nat.sub_self,show i+1-1-i=0 by omega,Nat.testBit_zero];rfl
theorem U':∀(l:List Bool) (a:Nat),num l a<(a+1)*2^l.length
 |[],a=>by show a<(a+1)*1;omega
 |b::l,a=>by
  have c:=U' l (2*a+bn b);have d:bn b<=1:=by unfold bn;split<;>decide
  show num l (2*a+bn b)<(a+1)*2^(l.length+1);rw[Nat.pow_succ,Nat.mul_comm (2^l.length) 2,<-Nat.mul_assoc];exact dC c (Nat.mul_le_mul_right _ jO)
theorem Va:∀(n:Nat) (l:List Bool),l.length=n->bQ (num l 0) n=l
 |0,l,h=>by rw[List.length_eq_zero_iff.1 h];rfl
 |n+1,l,h=>by
  obtain⟨m,b,rfl⟩:∃m b,l=m++[b]:=⟨l.dropLast,l.getLast (by intro q;rw[q]at h;cases h),(List.dropLast_concat_getLast _).symm⟩;rw[ay,tW]at h;rw[Hh];show bQ ((2*num m 0+bn b)/2) n++[decide ((2*num m 0+bn b)%2=1)]=_;have d:bn b<=1:=by cases b<;>decide
  have c:(2*num m 0+bn b)/2=num m 0:=jO
  have a:decide ((2*num m 0+bn b)%2=1)=b:=by
   cases b with
   |false=>exact decide_eq_false (by show¬(2*num m 0+0)%2=1;omega)
   |true=>exact decide_eq_true (by show(2*num m 0+1)%2=1;omega)
  rw[c,a,Va n m jO]
def fX(s:List Nat)(j:Nat):Nat:=num (mi s j) 0
theorem CO(s:List Nat)(j:Nat):bQ (fX s j) 16=mi s j:=Va 16 _ (xN s j)
theorem yd(s:List Nat)(j:Nat):fX s j<65536:=by have:=U' (mi s j) 0;rw[xN]at this;exact this
theorem Ic(s:List Nat)(j b:Nat):(fX s j).testBit b=(decide (b<16)&&decide (16*j+(15-b)∈s)):=by
 by_cases c:b<16
 ·have h:=U9 16 (fX s j) (15-b) jO;rw[CO,show 16-1-(15-b)=b by omega]at h;unfold mi at h;rw[fw,ua jO]at h;rw[decide_eq_true c,oq];exact(rm h).symm
 ·rw[decide_eq_false c,vO];exact Nat.testBit_lt_two_pow (dC (yd s j) (kD (show 0<2 by decide) (show 16<=b by omega)))
theorem Vb(s:List Nat)(x:Nat)(j:Nat):fX (s++[x]) j=if x/16=j then fX s j|||2^(15-x %16)else fX s j:=by
 refine Nat.eq_of_testBit_eq fun b=> ?_;rw[Ic];by_cases c:x/16=j
 ·rw[if_pos c,Nat.testBit_or,Ic,Nat.testBit_two_pow];by_cases a:b<16
  ·rw[decide_eq_true a,oq,oq];by_cases e:16*j+(15-b)=x
   ·rw[decide_eq_true (show 16*j+(15-b)∈s++[x] by rw[e];simp),decide_eq_true (show 15-x %16=b by omega),Bool.or_true]
   ·rw[decide_eq_false (show¬15-x %16=b by omega),Bool.or_false];congr 1;rw[p8,Dc,eq_iff_iff];exact⟨fun h=>h.resolve_right e,.inl⟩
  ·rw[decide_eq_false a,vO,vO,decide_eq_false (show¬15-x %16=b by omega)];rfl
 ·rw[if_neg c,Ic];by_cases a:b<16
  ·congr 2;rw[p8,Dc,eq_iff_iff];exact⟨fun h=>h.resolve_right fun e=>c jO,.inl⟩
  ·rw[decide_eq_false a,vO,vO]
theorem CP(s:List Nat)(j:Nat):(fX s j=0)↔fW s j=false:=by
 have c:=xN s j
 have a:(mi s j=List.replicate 16 false)↔fW s j=false:=by unfold fW;rw[List.any_eq_false,List.eq_replicate_iff];exact⟨fun h x b q=>(by rw[h.2 x b]at q;cases q),fun h=>⟨c,fun x b=>Bool.eq_false_iff.2 (h x b)⟩⟩
 rw[<-a];constructor
 ·intro h;rw[<-CO,h];decide
 ·intro h;unfold fX;rw[h];decide
def dY(s:List Nat):List Value:=(aV 16).map fun j=>Value.int .u32 (fX s j:Int)
theorem vF(s:List Nat):(dY s).length=16:=by unfold dY;rw[eR,kC]
theorem ye(s:List Nat){j:Nat}(h:j<16):(dY s)[j]? =some (.int .u32 (fX s j:Int)):=by unfold dY;rw[fw,ua h];rfl
theorem Vc{a b:Nat}(d:a<4294967296)(c:b<4294967296):IntKind.u32.wrap ((cR IntKind.u32.bits (a:Int)|||cR IntKind.u32.bits (b:Int)).toNat:Int)=((a|||b:Nat):Int):=by
 have e:∀{a:Nat},a<4294967296->(cR 32 (a:Int)).toNat=a:=fun h=>by rw[BitVec.ofInt_natCast,BitVec.toNat_ofNat];exact kB jO
 show IntKind.u32.wrap ((cR 32 (a:Int)|||cR 32 (b:Int)).toNat:Int)=_;rw[BitVec.toNat_or,e d,e c]
 exact IH _ (by
  have:=Nat.or_lt_two_pow (n:=32) d c
  omega)
theorem Vd{k:Nat}(a:k<=31):IntKind.u32.wrap (1*2^min k IntKind.u32.bits)=((2^k:Nat):Int):=by have c:min k IntKind.u32.bits=k:=Nat.min_eq_left (show k<=32 by omega);have b:2^k<=2^31:=kD (show 0<2 by decide) a;have d:(2:Nat)^31=2147483648:=rfl;rw[c,Int.one_mul,show((2:Int)^k)=((2^k:Nat):Int) by rw[Int.natCast_pow];rfl];generalize (2:Nat)^k=P at b⊢;exact IH _ jO
theorem afE(s:List Nat){x:Nat}(b:x<256):(dY s).set (x/16) (.int .u32 ((fX s (x/16)|||2^(15-x %16):Nat):Int))=dY (s++[x]):=by
 refine List.ext_getElem? fun i=> ?_;rw[List.getElem?_set];by_cases a:i<16
 ·rw[ye _ a,ye _ a,Vb];by_cases c:x/16=i
  ·rw[if_pos c,if_pos (by rw[vF];omega),if_pos c,c]
  ·rw[if_neg c,if_neg c]
 ·rw[if_neg jO,jq (by rw[vF];omega),jq (by rw[vF];omega)]
theorem Ve(s:List Nat):(dY s).all one=true:=by unfold dY;rw[List.all_map];exact List.all_eq_true.2 fun _ _=>rfl
section
variable {lf d n:Nat} {h:H}
theorem afF{s:List Nat}(p:∀x∈s,x<256)(R:s.length<=256)(K:300<=lf):aa (fun _=>False) n (ah ad gt lf (d+1) 135 #[.string ⟨(bS s).toArray⟩]) h n fun y h' n'=>y= .agg (dY s).toArray:=by
 rw[aF (fun _=>PA) rfl];refine aa.aD ?_;unfold A1;refine fR rfl _ ?_;refine fR rfl _ ?_;obtain⟨e,c⟩:∃e,(h.set n (some ⟨184,true,nM⟩)).set (n+1) (some ⟨184,true,nM⟩)=e:=⟨_,rfl⟩;have O:e.get n=some ⟨184,true,nM⟩:=by rw[<-c,ak _ _ jO,get_eq]
 have N:e.get (n+1)=some ⟨184,true,dY []⟩:=by rw[<-c,get_eq];rfl
 rw[c];clear c;try simp(disch:=first|omega|assumption|exact Int.natCast_nonneg _) only[Nat.reduceAdd,Nat.reduceLT,RZ,oc]
 refine dP s.length (fun j i (_:Unit)=>sI lf (ah ad gt lf d) j (A0 lf (ah ad gt lf d)) (.string ⟨(bS s).toArray⟩) (jP n 0) (jP (n+1) 0) (jI (s.length:Int)) (jI (i:Nat))) (fun i _ h' n'=>n'=n+1+1∧h'.get n=some ⟨184,true,nM⟩∧h'.get (n+1)=some ⟨184,true,dY (s.take i)⟩) ?_ ?_ lf 0 () e (n+1+1) (cL _) jO ⟨rfl,O,N⟩
 ·rintro j _ h' n' ⟨rfl,g,q1⟩;rw[fi]at q1;rw[sI];try simp(disch:=first|omega|assumption|exact Int.natCast_nonneg _) only[Nat.reduceAdd,Nat.reduceLT,RZ,cb]
  unfold A0;try simp(disch:=first|omega|assumption|exact Int.natCast_nonneg _) only[Nat.reduceAdd,Nat.reduceLT,RZ]
  have m:=vF s;have q:(qd 0 (dY s)).take 16=dY s:=by rw[dj,<-m,fi]
  refine mK (sz:=16) (n+1) 0 _ q1 jO (by show 0+16<=(dY s).length;omega) ?_;show aa _ _ (bW 16 (jP n 0) (.agg ((qd 0 (dY s)).take 16).toArray) fun x=>bO 16 (jP n 0) fun b=>ae [b]) _ _ _;rw[q];refine j7 (sz:=16) (cs:=nM) trivial (vs:=dY s) m rfl (Ve s) g jO (.inl (ag n)) _ fun T L Q=> ?_;refine mK (sz:=16) n 0 _ L jO (by show 0+16<=(dY s).length;omega) ?_;show aa _ _ (ae [.agg ((qd 0 (dY s)).take 16).toArray]) _ _ _;rw[q];try simp(disch:=first|omega|assumption|exact Int.natCast_nonneg _) only[Nat.reduceAdd,Nat.reduceLT,RZ]
 ·rintro j i _ h' n' f ⟨rfl,g,q1⟩ next;have r:((i:Nat):Int)<((s.length:Nat):Int):=jO;have l:((i:Nat):Int)<(((bS s).length:Nat):Int):=by rw[oc];exact r
  have w:((i:Nat):Int)+1=((i+1:Nat):Int):=rfl
  have z:s.take (i+1)=s.take i++[s.getD i 0]:=by rw[List.take_succ_eq_append_getElem f,au,aC f];rfl
  have o:s.getD i 0<256:=p _ (by rw[au,aC f];exact cu _);have t:((bS s).getD i 0).toNat=s.getD i 0:=Cg p f;rw[z]at next;generalize s.getD i 0=x at o t next;have B:((x:Nat):Int).tdiv 16=((x/16:Nat):Int):=by rw[show(16:Int)=((16:Nat):Int)from rfl,<-VK]
  have A:((x:Nat):Int).tmod 16=((x %16:Nat):Int):=by rw[show(16:Int)=((16:Nat):Int)from rfl,<-ahp]
  have v:IntKind.u8.wrap ((x/16:Nat):Int)=((x/16:Nat):Int):=ahx _ jO;have u:IntKind.u8.wrap (15-((x %16:Nat):Int))=((15-x %16:Nat):Int):=by rw[show(15:Int)-((x %16:Nat):Int)=((15-x %16:Nat):Int) by omega];exact ahx _ jO
  have P:((x/16:Nat):Int)<16:=jO;rw[sI];have D:=ye (s.take i) (show x/16<16 by omega);have C:=Vd (k:=15-x %16) jO;have E:2^(15-x %16)<4294967296:=ahL (kD (show 0<2 by decide) (show 15-x %16<=15 by omega)) jD;have F:=Vc (a:=fX (s.take i) (x/16)) (b:=2^(15-x %16)) (by have:=yd (s.take i) (x/16);omega) E;have J:x/16<(dY (s.take i)).length:=by rw[vF];omega
  have G:n+1<n+1+1:=Nat.lt_succ_self _;have I:n<=n+1:=cI n;try simp(disch:=first|omega|assumption|exact Int.natCast_nonneg _) only[Nat.reduceAdd,Nat.reduceLT,RZ,r,l,t,B,A,v,u,P,q1,D,C,F,J,G,I,true_or,true_and,fg]
  rw[w];exact next () _ _ ⟨rfl,(ak _ _ jO).trans g,(get_eq _ _ _).trans (by rw[afE _ o])⟩
end
def mj(s:List Nat)(i:Nat):Nat:=fX ((aV i).filter (fW s)) 0
theorem afG(s:List Nat){i:Nat}(a:i<16):mj s (i+1)=if fW s i=true then mj s i|||2^(15-i)else mj s i:=by
 unfold mj;rw[uf,ahz];by_cases c:fW s i=true
 ·rw[if_pos c,show [i].filter (fW s)=[i] by simp[c],Vb,if_pos jO,kB a]
 ·rw[if_neg c,show [i].filter (fW s)=[] by simp[c],bV]
theorem afH(s:List Nat):bQ (mj s 16) 16=tF s:=by
 unfold mj;rw[CO];unfold mi tF;refine List.map_congr_left fun k a=> ?_;rw[Nat.mul_zero,Nat.zero_add];cases h:fW s k with
 |true=>exact decide_eq_true (List.mem_filter.2 ⟨a,h⟩)
 |false=>exact decide_eq_false fun q=>by rw[(List.mem_filter.1 q).2]at h;cases h
section
variable {lf d n lo w K:Nat} {sv:Value} {l:List Bool} {h:H}
set_option maxHeartbeats 1000000 in
theorem afI(x:b8 K h lo n w sv l){s:List Nat}(I:Sy s)(h0:s≠[])(hl:l.length<=5000000)(t:300<=lf):aa (fun c=>c=w∨aq sv c) n (ah ad gt lf (d+3) 99 #[jP w 0,.string ⟨(bS s).toArray⟩]) h n fun v' h' n'=>v'=jI 0∧∃m,b8 K h' lo n' w m (l++Cl s)∧∀c,c<n->aq m c->aq sv c:=by
 have sl:=I.len;rw[aF (fun _=>OH) rfl];refine aa.aD ?_;unfold AE;try simp(disch:=first|omega|assumption|exact Int.natCast_nonneg _) only[Nat.reduceAdd,Nat.reduceLT,RZ]
 refine aJ aE (TA (lf:=lf) (d:=d+1) I h0 t) (ag n) (fun _ _ h=>h.elim) fun v1 h1 n1 u1 u4 O=> ?_;obtain⟨rfl,rfl,rfl⟩:=O;try simp(disch:=first|omega|assumption|exact Int.natCast_nonneg _) only[Nat.reduceAdd,Nat.reduceLT,RZ]
 refine aJ aE (afF (lf:=lf) (d:=d+1) I.lt sl t) (ag _) (fun _ _ h=>h.elim) fun v2 h2 e Q W N=> ?_;subst N;have C:b8 K h2 lo e w sv l:=x.ar Q fun b f _=>W b f id;refine fR rfl _ ?_;have Y:=vF s;have e3:(qd 0 (dY s)).take 16=dY s:=by rw[dj,<-Y,fi]
 refine j7 (sz:=16) (cs:=nM) trivial (vs:=dY s) Y rfl (Ve s) (get_eq _ _ _) jO (.inl jO) _ fun T g5 k5=> ?_;have x5:b8 K T lo (e+1) w sv l:=C.ar (cI _) fun b f _=>(k5 b jO).trans (ak _ _ jO);refine mK (sz:=16) e 0 _ g5 jO (by show 0+16<=(dY s).length;omega) ?_;show aa _ _ (pA lf (ah ad gt lf (d+2)) lf (uX lf (ah ad gt lf (d+2))) (jP w 0) (.string ⟨(bS s).toArray⟩) (ii 0) (jP e 0) (i3 0) (.bool false) (.bool false) (.agg ((qd 0 (dY s)).take 16).toArray) (ii 0)) _ _ _;rw[e3];refine dP 16 (fun g i (_:Unit)=>pA lf (ah ad gt lf (d+2)) g (uX lf (ah ad gt lf (d+2))) (jP w 0) (.string ⟨(bS s).toArray⟩) (ii 0) (jP e 0) (.int .u32 (mj s i:Int)) (.bool false) (.bool false) (.agg (dY s).toArray) (jI (i:Nat))) (fun i _ h' n'=>h'=T∧n'=e+1) ?_ ?_ lf 0 () T (e+1) (cL _) jO ⟨rfl,rfl⟩
 ·rintro g _ h' n' ⟨rfl,rfl⟩;have z:¬((16:Nat):Int)<16:=jD;rw[pA];try simp(disch:=first|omega|assumption|exact Int.natCast_nonneg _) only[Nat.reduceAdd,Nat.reduceLT,RZ,z]
  unfold uX;have X:=ky (lf:=lf) (d:=d) x5 (v:=mj s 16) (k:=16) jD (yd _ _) jO jO;have y:((16:Nat):Int)=16:=rfl;rw[y,afH]at X;refine aJ aE X jO (fun b f hq=> .inr hq) fun v6 h6 n6 P U L=> ?_;obtain⟨rfl,D,x6,G⟩:=L
  have nw:¬(e=w∨aq sv e):=fun q=>by
   rcases q with q|q
   ·have:=C.lt;omega
   ·have:=(C.own.lt q).2;omega
  have g6:=(U e jO nw).trans g5;refine mK (sz:=16) e 0 _ g6 jO (by show 0+16<=(dY s).length;omega) ?_;show aa _ _ (pB lf (ah ad gt lf (d+2)) lf (wO lf (ah ad gt lf (d+2))) (jP w 0) (.string ⟨(bS s).toArray⟩) (ii 0) (jP e 0) (.int .u32 (mj s 16:Int)) (.bool false) (.bool false) (.agg (dY s).toArray) (jI 16) _ (.agg ((qd 0 (dY s)).take 16).toArray) (ii 0)) _ _ _;rw[e3]
  have E:∀i,i<=16->(l++tF s++tU s i).length<=6000000:=fun i u=>by have:=U8 s i;rw[ay,ay,TF];omega
  refine dP 16 (fun g i (_:Value)=>pB lf (ah ad gt lf (d+2)) g (wO lf (ah ad gt lf (d+2))) (jP w 0) (.string ⟨(bS s).toArray⟩) (ii 0) (jP e 0) (.int .u32 (mj s 16:Int)) (.bool false) (.bool false) (.agg (dY s).toArray) (jI 16) (.bool false) (.agg (dY s).toArray) (jI (i:Nat))) (fun i sw h' n'=>e+1<=n'∧b8 K h' lo n' w sw (l++tF s++tU s i)∧∀c,c<e+1->aq sw c->aq sv c) ?_ ?_ lf 0 D h6 n6 (cL _) jO ⟨P,by rw[show tU s 0=[]from rfl,bV];exact x6,G⟩
  ·rintro g sw h' n' ⟨q1,q2,r⟩;rw[pB];try simp(disch:=first|omega|assumption|exact Int.natCast_nonneg _) only[Nat.reduceAdd,Nat.reduceLT,RZ,z]
   unfold wO;try simp(disch:=first|omega|assumption|exact Int.natCast_nonneg _) only[Nat.reduceAdd,Nat.reduceLT,RZ]
   refine⟨sw, ?_,fun c Z=>r c jO⟩;rw[b9]at q2;exact q2
  ·rintro g i sw h' n' u ⟨q1,q2,r⟩ next;have A:((i:Nat):Int)<16:=jO;have j:((i:Nat):Int)+1=((i+1:Nat):Int):=rfl;have p:=ye s u;have bd:=E i jO;rw[pB];cases f:fW s i with
   |false=>
    have B:(((fX s i:Nat):Int) !=0)=false:=by rw[(CP s i).2 f];rfl
    try simp(disch:=first|omega|assumption|exact Int.natCast_nonneg _) only[Nat.reduceAdd,Nat.reduceLT,RZ,A,p,B,fg]
    rw[j];refine next sw h' n' ⟨q1, ?_,r⟩;rw[Ib,f,if_neg jD,bV];exact q2
   |true=>
    have B:(((fX s i:Nat):Int) !=0)=true:=by rw[bne_iff_ne];intro q;have:fX s i=0:=jO;rw[(CP s i).1 this]at f;cases f
    try simp(disch:=first|omega|assumption|exact Int.natCast_nonneg _) only[Nat.reduceAdd,Nat.reduceLT,RZ,A,p,B,fg]
    have o:=ky (lf:=lf) (d:=d) q2 (v:=fX s i) (k:=16) jD (yd _ _) jO jO;rw[y,CO]at o;refine aJ aE o jO (fun b u2 hq=> ?_) fun v8 h8 n8 u0 u3 J=> ?_
    ·rcases hq with hq|hq
     ·exact .inr (.inl hq)
     ·by_cases R:b<e+1
      ·exact .inr (.inr (r b R hq))
      ·exact .inl jO
    obtain⟨rfl,sw8,x8,F⟩:=J;try simp(disch:=first|omega|assumption|exact Int.natCast_nonneg _) only[Nat.reduceAdd,Nat.reduceLT,RZ]
    rw[j];refine next sw8 h8 n8 ⟨jO, ?_,fun c Z hq=>r c Z (F c jO hq)⟩;rw[Ib,f,if_pos rfl,<-b9];exact x8
 ·rintro g i _ h' n' u ⟨rfl,rfl⟩ next;have A:((i:Nat):Int)<16:=jO;have j:((i:Nat):Int)+1=((i+1:Nat):Int):=rfl;have p:=ye s u;have next:=next () _ _ ⟨rfl,rfl⟩;rw[afG s u]at next;have w3:IntKind.i64.wrap (15-((i:Nat):Int))=((15-i:Nat):Int):=by rw[aO jO jO];omega
  rw[pA];cases f:fW s i with
  |false=>
   have z:(((fX s i:Nat):Int) !=0)=false:=by rw[(CP s i).2 f];rfl
   rw[if_neg (by rw[f];decide)]at next;try simp(disch:=first|omega|assumption|exact Int.natCast_nonneg _) only[Nat.reduceAdd,Nat.reduceLT,RZ,A,p,z,fg]
   rw[j];exact next
  |true=>
   have z:(((fX s i:Nat):Int) !=0)=true:=by rw[bne_iff_ne];intro q;have:fX s i=0:=jO;rw[(CP s i).1 this]at f;cases f
   have sh:=Vd (k:=15-i) jO;have pl:2^(15-i)<4294967296:=ahL (kD (show 0<2 by decide) (show 15-i<=15 by omega)) jD;have oo:=Vc (a:=mj s i) (b:=2^(15-i)) (by have:=yd ((aV i).filter (fW s)) 0;unfold mj;omega) pl;rw[if_pos f]at next;try simp(disch:=first|omega|assumption|exact Int.natCast_nonneg _) only[Nat.reduceAdd,Nat.reduceLT,RZ,A,p,z,w3,sh,oo,fg]
   rw[j];exact next
end
end Go.Proofs.YtcehhgppfahbkaaGreatDoor
namespace Go.Proofs.YtcehhgppfahbkaaGreatDoor
open Go.RowKit Ev Tb Cn Ip
theorem Vf{t:List Nat}(a:t≠[])(K:Value->M Value):gu (iy t) (bM {data:=#[]}) K=K (.bool false):=by have:=EU (k:=K) (bS t) [];rw[decide_eq_false (fun q=>a (List.eq_nil_of_length_eq_zero (by rw[<-oc t,q];rfl)))]at this;exact this
theorem vG{n m w c:Nat}{sv a:Value}(e:∀c,c<m->aq a c->aq sv c)(d:n<=m)(b:c=w∨aq a c):n<=c∨(c=w∨aq sv c):=by
 rcases b with q|q
 ·exact .inr (.inl q)
 ·by_cases h:c<m
  ·exact .inr (.inr (e c h q))
  ·exact .inl jO
theorem afJ:bQ 0 1=[false]:=jD
section
variable {lf d n lo w K:Nat} {sv:Value} {l:List Bool} {h:H}
set_option maxHeartbeats 400000 in
theorem afK(e:3000000<=lf)(g:Gd h n)(x:b8 K h lo n w sv l)(w4:1<lo){t:List Nat}(a:By t)(h0:t≠[])(hl:t.length<=900){o s:Nat}(ho:o<t.length)(hs:s<4294967296)(y7:l.length<=4900000)(hd:600<=d):
 aa (fun c=>c=w∨aq sv c) n (ah ad gt lf (d+12) 64 #[jP w 0,iy t,jI (o:Int),.int .u32 (s:Int)]) h n fun v' h' n'=>v'=jI 0∧∃F,b8 K h' lo n' w F (l++pS t o s)∧∀c,c<n->aq F c->aq sv c:=by
 have p:=UJ t;have mem:∀x∈t,x∈dX t:=fun x hx=>H6 a hx;have sn:=UK a h0;have sl:=p.len;have s1:1<=(dX t).length:=List.length_pos_iff.2 sn;have L:=UL a h0;have zl:=CK (dX t).length (en (dX t) t) 0;rw[vq]at zl;have D:(iN (jo t)).length<=1000:=by rw[bC];unfold jo;omega
 have x2:=x.lt;have y0:=x.2.ge;have j:∀b,aq sv b->lo<=b∧b<n:=fun b a=>x.own.lt a;have yb:=TG (dX t);have yf:((aV 16).filter (fW (dX t))).length<=16:=pU (ah_ _ _) (by rw[kC];exact ag _);rw[aF (fun _=>N5) rfl];refine aa.aD ?_;unfold FJ;have x1:=fun K=>Vf h0 K;have c1:¬(900000:Int)<((t.length:Nat):Int):=jO;have c2:¬((o:Nat):Int)<0:=jO;have c3:¬((t.length:Nat):Int)<=((o:Nat):Int):=jO;try simp(disch:=first|omega|assumption|exact Int.natCast_nonneg _) only[Nat.reduceAdd,Nat.reduceLT,RZ,x1,pR,c1,c2,c3]
 refine aJ aE (afw (lf:=lf) (d:=d+9) a jO e) (ag _) (fun _ _ h=>h.elim) fun v1 h1 n1 u T w3=> ?_;obtain rfl:v1=iy (dX t):=w3;refine aJ aE (afB (lf:=lf) (d:=d+8) p sn t mem jO e) u (fun _ _ h=>h.elim) fun v2 h2 n2 O R w0=> ?_;obtain⟨o2,rfl,r2,_⟩:=w0;try simp(disch:=first|omega|assumption|exact Int.natCast_nonneg _) only[Nat.reduceAdd,Nat.reduceLT,RZ,dq,ext1,pR]
 refine aJ aE (afD (lf:=lf) (d:=d+8) s1 sl (en (dX t) t) (Ch _ _ mem) (by rw[vq];omega) r2 e) jO (fun _ _ h=>h.elim) fun v3 h3 n3 N Q v0=> ?_;obtain⟨o3,rfl,E⟩:=v0;have E:Own h3 n2 n3 3 o3 (aR .i64 (iN (jo t))):=E;have P:Gd h3 n3:=((g.ar u fun b a=>T b a id).ar O fun b a=>R b a id).ar N fun b a=>Q b a id;have x3:b8 K h3 lo n3 w sv l:=((x.ar u fun b a _=>T b a id).ar O fun b a _=>R b a id).ar N fun b a _=>Q b a id;have w2:IntKind.i64.wrap ((((dX t).length:Nat):Int)+2)=(((dX t).length+2:Nat):Int):=by rw[aO jO jO];rfl
 try simp(disch:=first|omega|assumption|exact Int.natCast_nonneg _) only[Nat.reduceAdd,Nat.reduceLT,RZ,dq,ext1,pR,w2]
 refine aJ aE (ae7 (lf:=lf) (d:=d+1) e P E.row D _ jO) jO (fun _ _ h=>h.elim) fun v4 m f r z u9=> ?_;rcases u9 with ⟨_,rfl⟩|⟨no,_⟩
 rotate_left
 ·exact absurd L no
 have z0:((0:Int) !=0)=false:=rfl;have x4:b8 K m lo f w sv l:=x3.ar r fun b a _=>z b a id;have y:Gd m f:=P.ar r fun b a=>z b a id;have W:Own m n2 f 3 o3 (aR .i64 (iN (jo t))):=E.ar r fun b a=>z b (E.lt a).2 id;try simp(disch:=first|omega|assumption|exact Int.natCast_nonneg _) only[Nat.reduceAdd,Nat.reduceLT,RZ,dq,ext1,z0]
 have J:=ky (lf:=lf) (d:=d+9) x4 (v:=s) (k:=32) jD hs jO jO;rw[show((32:Nat):Int)=32 from rfl]at J;refine aJ aE J jO (fun b a i=> .inr i) fun v5 h5 n5 y6 x0 u7=> ?_;obtain⟨rfl,y1,x5,c5⟩:=u7;have k5:∀b,b<f->b≠w->¬aq sv b->h5.get b=m.get b:=fun b a q1 q2=>x0 b a fun q=>q.elim q1 q2;have I:=ky (lf:=lf) (d:=d+9) x5 (v:=0) (k:=1) jD jD (by rw[ay,dM];omega) jO;rw[show((1:Nat):Int)=1 from rfl,show((0:Nat):Int)=0 from rfl,afJ]at I;refine aJ aE I jO (fun b a i=>vG c5 jO i) fun v6 h6 n6 y5 w9 u6=> ?_;obtain⟨rfl,u2,x6,c6⟩:=u6;have B:∀c,c<f->aq u2 c->aq sv c:=fun c C q=>c5 c C (c6 c jO q);have k6:∀b,b<f->b≠w->¬aq sv b->h6.get b=m.get b:=fun b a q1 q2=>(w9 b jO fun q=>q.elim q1 fun q=>q2 (c5 b a q)).trans (k5 b a q1 q2);have w1:IntKind.u32.wrap ((o:Nat):Int)=((o:Nat):Int):=kg jO;try simp(disch:=first|omega|assumption|exact Int.natCast_nonneg _) only[Nat.reduceAdd,Nat.reduceLT,RZ,w1]
 have G:=ky (lf:=lf) (d:=d+9) x6 (v:=o) (k:=24) jD (by show o<16777216;omega) (by rw[ay,ay,dM];simp;omega) jO;rw[show((24:Nat):Int)=24 from rfl]at G;refine aJ aE G jO (fun b a i=>vG B jO i) fun v7 h7 n7 y4 w7 u5=> ?_;obtain⟨rfl,u1,x7,c7⟩:=u5;have A:∀c,c<f->aq u1 c->aq sv c:=fun c C q=>B c C (c7 c jO q);have k7:∀b,b<f->b≠w->¬aq sv b->h7.get b=m.get b:=fun b a q1 q2=>(w7 b jO fun q=>q.elim q1 fun q=>q2 (B b a q)).trans (k6 b a q1 q2);refine aJ aE (afI (lf:=lf) (d:=d+8) x7 p sn (by rw[ay,ay,ay,dM,dM];simp;omega) jO) jO (fun b a i=>vG A jO i) fun v8 X n8 y3 w6 u4=> ?_;obtain⟨rfl,u0,x8,c8⟩:=u4;have U:∀c,c<f->aq u0 c->aq sv c:=fun c C q=>A c C (c8 c jO q);have k8:∀b,b<f->b≠w->¬aq sv b->X.get b=m.get b:=fun b a q1 q2=>(w6 b jO fun q=>q.elim q1 fun q=>q2 (A b a q)).trans (k7 b a q1 q2);have gg:X.get 1=m.get 1:=k8 _ y.2 jO fun q=>by have:=(j _ q).1;omega
 have w5:Gd X n8:=⟨gg.trans y.1,dC y.2 jO⟩
 have Y:Own X n2 n8 3 o3 (aR .i64 (iN (jo t))):=W.ar jO fun b a=>k8 b (W.lt a).2 (fun q=>by have:=(W.lt a).1;omega) fun q=>by have:=(j _ q).2;have:=(W.lt a).1;omega
 try simp(disch:=first|omega|assumption|exact Int.natCast_nonneg _) only[Nat.reduceAdd,Nat.reduceLT,RZ,pR,w2]
 refine aJ aE (ae1 (lf:=lf) (d:=d+3) e w5 x8 w4 Y.row D (by simp only[ay,dM,tW];omega) _ jO) jO (fun b a i=>vG U jO i) fun v9 h9 n9 y2 y8 u3=> ?_;rcases u3 with ⟨_,rfl,Z,x9,c9⟩|⟨no,_⟩
 rotate_left
 ·exact absurd L no
 try simp(disch:=first|omega|assumption|exact Int.natCast_nonneg _) only[Nat.reduceAdd,Nat.reduceLT,RZ]
 refine⟨Z, ?_,fun c C q=>U c jO (c9 c jO q)⟩;unfold pS;simp only[b9]at x9;exact x9
end
end Go.Proofs.YtcehhgppfahbkaaGreatDoor
namespace Go.Proofs.YtcehhgppfahbkaaGreatDoor
open Go.RowKit Ev Cn Ip
section
variable {lf d n room:Nat} {h:H} {L:Nat->Nat} {ps:List (Nat×Nat)} {row:Nat×Nat} {m:Pm}
def qP(row:Nat×Nat)(x:Nat):Nat×Nat:=if row.1=x then(x,row.2+1)else row
def oP(room:Nat)(ps:List (Nat×Nat))(row:Nat×Nat)(x:Nat):List (Nat×Nat):=if Ci row x=[]then []else if room<(TE ps).length+(Ci row x).length then ps else []
def nP'(room:Nat)(ps:List (Nat×Nat))(row:Nat×Nat)(x:Nat):List (Nat×Nat):=if Ci row x=[]then ps else(if room<(TE ps).length+(Ci row x).length then []else ps)++[qP row x]
end
section
variable {lf d n room:Nat} {h:H} {L:Nat->Nat} {ps:List (Nat×Nat)} {row:Nat×Nat} {m:Pm}
end
structure PS where
 yg:List UInt8
 ps:List (Nat×Nat)
 row:Nat×Nat
 cM:List (Nat×Nat)
 tu:Bool
 t:Nat
 ob:Bool
 aip:Nat
structure Pr where
 p:Nat
 m:Pm
 tm:Tm
 bv:Value
 wv:Value
 st:Int
section
variable {lf d n room:Nat} {h:H} {L:Nat->Nat} {Ie:Int} {out:List UInt8} {s:PS} {q:Pr}
end
section
variable {β:Type} {W:Nat->Prop} {n0:Nat} {h:H} {n:Nat} {Q:β->H->Nat->Prop}
end
def gQ(a:Nat)(s:PS):PS:={s with yg:=s.yg.tail,ps:=nP' a s.ps s.row (s.yg.headD 0).toNat,row:=pkR s.row (s.yg.headD 0).toNat,cM:=oP a s.ps s.row (s.yg.headD 0).toNat}
section
variable {lf d n room:Nat} {h:H} {L:Nat->Nat} {Ie:Int} {out:List UInt8} {s:PS} {q:Pr}
end
section
variable {lf d n room:Nat} {h:H} {L:Nat->Nat} {Ie:Int} {out:List UInt8} {s:PS} {q:Pr}
end
end Go.Proofs.YtcehhgppfahbkaaGreatDoor
namespace Go.Proofs.YtcehhgppfahbkaaGreatDoor
open Go.RowKit Ev Sp Cn Ip
end Go.Proofs.YtcehhgppfahbkaaGreatDoor
namespace Go.Proofs.YtcehhgppfahbkaaGreatDoor
open Go Go.RowKit Ev Sp Cn
section
variable {α β:Type} {W:Nat->Prop} {n0 m0:Nat} {h:H} {n:Nat} {Q:β->Prop}
end
section
variable {lf d n:Nat} {h:H} {L:Nat->Nat} {l:List UInt8} {t:Nat} {ob:Bool} {m:Tm} {x:SS} {sm:Sm} {k:Nat}
end
end Go.Proofs.YtcehhgppfahbkaaGreatDoor
namespace Go.Proofs.YtcehhgppfahbkaaGreatDoor
open Go.RowKit Ev Sp Cn Ip
section
variable {lf d n room:Nat} {h:H} {L:Nat->Nat} {Ie:Int} {out:List UInt8} {s:PS} {q:Pr}
end
abbrev b3:List UInt8:=[66,90,104]
def om(i:Nat):List Bool:=(b3.take i).flatMap fun c=>bQ c.toNat 8
theorem afL(i:Nat)(h:i<3):om i++bQ (b3.getD i 0).toNat 8=om (i+1):=by
 match i,h with
 |0,_=>decide
 |1,_=>decide
 |2,_=>decide
theorem Vg(i:Nat):(om i).length<=24:=by
 match i with
 |0=>decide
 |1=>decide
 |2=>decide
 |k+3=>exact Nat.le_of_eq (by unfold om;rw[List.take_of_length_le (by show 3<=k+3;omega)];rfl)
def CQ(w:Nat):AB:=⟨93,true,[jP w 0,.int .u32 0,.bool false]⟩
def Vh(n l:Nat)(v:Value)(h':H)(n':Nat):Prop:=∃p w a,v= .tuple #[jP p 0,jI 0]∧n<=p∧n<=w∧p<n'∧p≠w∧h'.get p=some (CQ w)∧b8 0 h' n n' w a (om 3++bQ (48+l) 8)
section
variable {lf d n:Nat} {h:H}
theorem afM(u2:100<=lf){l:Nat}(h1:1<=l)(h2:l<=9):aa (fun _=>False) n (ah ad gt lf (d+3) 18 #[jI (l:Int)]) h n (Vh n l):=by
 rw[aF (fun _=>NC) rfl];refine aa.aD ?_;unfold Am;have e1:¬(l:Int)<1:=jO;have e2:¬(9:Int)<(l:Int):=jO;try simp(disch:=first|omega|assumption|exact Int.natCast_nonneg _) only[Nat.reduceAdd,Nat.reduceLT,RZ,e1,e2]
 refine aJ aE (aeu (h:=h)) (ag _) (fun _ _ h=>h.elim) ?_;rintro _ x _ _ _ ⟨rfl,rfl,Y⟩;try simp(disch:=first|omega|assumption|exact Int.natCast_nonneg _) only[Nat.reduceAdd,Nat.reduceLT,RZ]
 refine lX trivial _ _ ?_;obtain⟨a,o⟩:∃a,x.set (n+1) (some ⟨93,true,[jP n 0,.int .u32 0,.bool false]⟩)=a:=⟨_,rfl⟩;have X:b8 0 a n (n+1+1) n (.slice none 0 0) (om 0):=Y.ar jO fun b R _=>by rw[<-o];exact ak _ _ jO
 have gp:a.get (n+1)=some (CQ n):=by rw[<-o];exact get_eq _ _ _
 have E:∀c,aq (.slice none 0 0) c->c≠n+1:=fun c J=>J.not_nil.elim;have F:∀c,aq (.slice none 0 0) c->n<=c:=fun c J=>J.not_nil.elim;show aa _ _ _ (x.set (n+1) (some ⟨93,true,[jP n 0,.int .u32 0,.bool false]⟩)) _ _;rw[o];clear o;try simp(disch:=first|omega|assumption|exact Int.natCast_nonneg _) only[Nat.reduceAdd,Nat.reduceLT,RZ]
 have w:∀(m i e j:Nat) (g:H) (t:Value),i+m=3->m<e->n+2<=j->g.get (n+1)=some (CQ n)->b8 0 g n j n t (om i)->(∀c,aq t c->c≠n+1)->(∀c,aq t c->n<=c)->aa (fun _=>False) n (r8 lf (ah ad gt lf (d+2)) e (Al lf (ah ad gt lf (d+2))) (jI (l:Int)) (.pointer none) (jI 0) (jP (n+1) 0) (.bool false) (jI (i:Int))) g j (Vh n l):=by
  intro m
  induction m with
  |zero=>
   intro i e j g t hi hf G p D B C;obtain⟨e,rfl⟩:∃f,e=f+1:=⟨e-1,jO⟩;obtain rfl:i=3:=jO;rw[r8];have z:¬((3:Nat):Int)<3:=jD;have O:IntKind.i64.wrap (48+(l:Int))=((48+l:Nat):Int):=by rw[aO jO jO];rfl
   have T:IntKind.u32.wrap ((48+l:Nat):Int)=((48+l:Nat):Int):=IH _ jO;have Q:n+1<j:=jO;have K:=p;unfold CQ at p;try simp(disch:=first|omega|assumption|exact Int.natCast_nonneg _) only[Nat.reduceAdd,Nat.reduceLT,RZ,z]
   unfold Al;try simp(disch:=first|omega|assumption|exact Int.natCast_nonneg _) only[Nat.reduceAdd,Nat.reduceLT,RZ,p,O,T]
   have u4:(om 3).length<=24:=Vg 3;have u:=ky (lf:=lf) (d:=d) D (v:=48+l) (k:=8) jD (by show 48+l<256;omega) jO jO;have N:((8:Nat):Int)=8:=rfl;rw[N]at u;refine aJ aE u jO (fun b R hq=> .inl ?_) ?_
   ·rcases hq with rfl|hq
    ·exact ag _
    ·exact C b hq
   ·rintro _ g4 m4 u0 L ⟨rfl,Z,W,u3⟩;try simp(disch:=first|omega|assumption|exact Int.natCast_nonneg _) only[Nat.reduceAdd,Nat.reduceLT,RZ]
    refine⟨n+1,n,Z,rfl,jO,ag _,jO,jO, ?_,W⟩;rw[L (n+1) jO (fun q=>q.elim (fun q=>by omega) fun q=>B _ q rfl)];exact K
  |succ m ih=>
   intro i e j g t hi hf G p D B C;obtain⟨e,rfl⟩:∃f,e=f+1:=⟨e-1,jO⟩;have z:((i:Nat):Int)<3:=jO;have Q:n+1<j:=jO;have bl:=Vg i;rw[r8];try simp(disch:=first|omega|assumption|exact Int.natCast_nonneg _) only[Nat.reduceAdd,Nat.reduceLT,RZ,z]
   refine uQ (m:=j) trivial (n+1) 0 _ p Q (ag _) rfl fun T0 r0=> ?_;have es:(aiE #[66,90,104])=⟨b3.toArray⟩:=rfl;have U:((i:Nat):Int)<((b3.length:Nat):Int):=z;have I:(b3.getD i 0).toNat<256:=(b3.getD i 0).toNat_lt;have O:IntKind.u32.wrap (((b3.getD i 0).toNat:Nat):Int)=((b3.getD i 0).toNat:Int):=IH _ jO;try simp(disch:=first|omega|assumption|exact Int.natCast_nonneg _) only[Nat.reduceAdd,Nat.reduceLT,RZ,es,U,O]
   refine YX (m:=j) _ _ (ag _) fun T1 r1=> ?_;try simp(disch:=first|omega|assumption|exact Int.natCast_nonneg _) only[Nat.reduceAdd,Nat.reduceLT,RZ]
   have u:=ky (lf:=lf) (d:=d) D (v:=(b3.getD i 0).toNat) (k:=8) jD I jO jO;have N:((8:Nat):Int)=8:=rfl;rw[N]at u;refine YW aE u jO (fun b R hq=> .inl ?_) ?_
   ·rcases hq with rfl|hq
    ·exact ag _
    ·exact C b hq
   ·rintro _ g1 m1 T2 u1 L ⟨rfl,s,P,A⟩;have T:IntKind.i64.wrap ((i:Int)+1)=((i+1:Nat):Int):=BU jO;try simp(disch:=first|omega|assumption|exact Int.natCast_nonneg _) only[Nat.reduceAdd,Nat.reduceLT,RZ,r0.gf r1,Bool.not_false,pf]
    have r:∀c,aq s c->n<=c∧c≠n+1:=fun c hq=>by
     by_cases y:c<j
     ·exact⟨C c (A c y hq),B c (A c y hq)⟩
     ·omega
    rw[afL i jO]at P;exact ih (i+1) e m1 g1 s jO jO jO ((L (n+1) jO (fun q=>q.elim (fun q=>by omega) fun q=>B _ q rfl)).trans p) P (fun c hq=>(r c hq).2) fun c hq=>(r c hq).1
 have:=w 3 0 lf (n+1+1) a _ rfl jO jO gp X E F;exact this
end
section
variable {lf d n:Nat} {h:H}
end
end Go.Proofs.YtcehhgppfahbkaaGreatDoor
namespace Go.Proofs.YtcehhgppfahbkaaGreatDoor
open Go.RowKit Ev Tb Cn Ip
def ri(w t:Nat)(e:Bool):AB:=⟨93,true,[jP w 0,.int .u32 (t:Int),.bool e]⟩
structure SW (K:Nat) (h:H) (lo n p w:Nat) (sv:Value) (t:Nat) (e:Bool) (l:List Bool):Prop where
 get:h.get p=some (ri w t e)
 lt:p<n
 pl:lo<=p
 ne:p≠w
 ns:¬aq sv p
 wr:b8 K h lo n w sv l
 tl:t<4294967296
theorem SW.ar{K:Nat}{h h':H}{lo n n' p w:Nat}{sv:Value}{t:Nat}{e:Bool}{l:List Bool}(x:SW K h lo n p w sv t e l)(a:n<=n')(c:∀b,b<n->(b=p∨b=w∨aq sv b)->h'.get b=h.get b):SW K h' lo n' p w sv t e l:=
 ⟨(c p x.lt (.inl rfl)).trans x.get,dC x.lt a,x.pl,x.ne,x.ns,x.wr.ar a fun b d q=>c b d (.inr q),x.tl⟩
theorem afN(a b c:Value)(K:Value->M Value):aW (.tuple #[a,b,c]) 0 K=K a:=rfl
theorem afO(a b c:Value)(K:Value->M Value):aW (.tuple #[a,b,c]) 1 K=K b:=rfl
theorem afP(a b c:Value)(K:Value->M Value):aW (.tuple #[a,b,c]) 2 K=K c:=rfl
section
variable {lf d lo n p w K tt:Nat} {sv:Value} {l:List Bool} {h:H} {e:Bool}
theorem afQ(x:SW K h lo n p w sv tt e l){m a b:Nat}(X:∀K:Value->M Value,jy (.int .u64 (m:Int)) (i6 24) K=K (.int .u64 (a:Int)))(W:IntKind.u64.wrap ((cR IntKind.u64.bits (m:Int)&&&cR IntKind.u64.bits 16777215).toNat:Int)=(b:Int))(T:a<16777216)(u:b<16777216)(Q:bQ a 24++bQ b 24=bQ m 48)(hl:l.length<=100000000)(P:100<=lf):
 aa (fun c=>c=w∨aq sv c) n (ah ad gt lf (d+3) 59 #[jP p 0,.int .u64 (m:Int)]) h n fun J h' n'=>J= .tuple #[]∧∃f,b8 K h' lo n' w f (l++bQ m 48)∧∀c,c<n->aq f c->aq sv c:=by
 have z:=x.get;have j:=x.lt;unfold ri at z;rw[aF (fun _=>N0) rfl];refine aa.aD ?_;unfold FG;have I:IntKind.u32.wrap ((a:Nat):Int)=((a:Nat):Int):=kg jO;have G:IntKind.u32.wrap ((b:Nat):Int)=((b:Nat):Int):=kg jO;try simp(disch:=first|omega|assumption|exact Int.natCast_nonneg _) only[Nat.reduceAdd,Nat.reduceLT,RZ,z,X,I]
 have C:=ky (lf:=lf) (d:=d) x.wr (v:=a) (k:=24) jD (by show a<16777216;exact T) jO jO;rw[show((24:Nat):Int)=24 from rfl]at C;refine aJ aE C (ag _) (fun b u s=> .inr s) fun v1 h1 N t A r=> ?_;obtain⟨rfl,L,F,E⟩:=r;have y:=(A p j fun q=>q.elim x.ne x.ns).trans z;have D:p<N:=jO;try simp(disch:=first|omega|assumption|exact Int.natCast_nonneg _) only[Nat.reduceAdd,Nat.reduceLT,RZ,y,W,G]
 have g:=ky (lf:=lf) (d:=d) F (v:=b) (k:=24) jD (by show b<16777216;exact u) (by rw[ay,dM];omega) jO;rw[show((24:Nat):Int)=24 from rfl]at g;refine aJ aE g t (fun b u s=>vG E jO s) fun Z h2 n2 O U o=> ?_;obtain⟨rfl,i,B,Y⟩:=o;try simp(disch:=first|omega|assumption|exact Int.natCast_nonneg _) only[Nat.reduceAdd,Nat.reduceLT,RZ]
 refine⟨i, ?_,fun c R q=>E c R (Y c jO q)⟩;rw[b9,Q]at B;exact B
theorem afR(x:SW K h lo n p w sv tt e l)(j:l.length<=100000000)(g:100<=lf):
 aa (fun c=>c=w∨aq sv c) n (ah ad gt lf (d+3) 59 #[jP p 0,i6 54156738319193]) h n fun i h' n'=>i= .tuple #[]∧∃f,b8 K h' lo n' w f (l++bQ q9 48)∧∀c,c<n->aq f c->aq sv c:=
 afQ (m:=q9) (a:=3227993) (b:=2511705) x (fun K=>by kernel_rfl) (by kernel_rfl) jD jD (by decide+kernel) j g
def Ig(p w:Nat)(sv:Value)(c:Nat):Prop:=c=p∨c=w∨aq sv c
theorem afS(J:3000000<=lf)(g:Gd h n)(x:SW K h lo n p w sv tt false l)(L:1<lo){t:List Nat}(k:By t)(h0:t≠[])(hl:t.length<=900){o s:Nat}(Y:o<t.length)(F:s<4294967296)(u0:l.length<=4800000)(hd:600<=d):
 aa (Ig p w sv) n (ah ad gt lf (d+13) 24 #[jP p 0,iy t,jI (o:Int),.int .u32 (s:Int)]) h n fun W h' n'=>W=jI 0∧∃v,SW K h' lo n' p w v (lr tt s) false (l++(bQ q9 48++pS t o s))∧∀c,c<n->aq v c->aq sv c:=by
 have N:=x.get;have y:=x.lt;have X:=x.pl;have U:=x.wr.2.ge;have r:∀b,aq sv b->lo<=b∧b<n:=fun b k=>x.wr.own.lt k;unfold ri at N;rw[aF (fun _=>NH) rfl];refine aa.aD ?_;unfold FB;have c1:¬(900000:Int)<((t.length:Nat):Int):=jO;have c2:¬((o:Nat):Int)<0:=jO;have c3:¬((t.length:Nat):Int)<=((o:Nat):Int):=jO;try simp(disch:=first|omega|assumption|exact Int.natCast_nonneg _) only[Nat.reduceAdd,Nat.reduceLT,RZ,N,pR,c1,c2,c3]
 refine aJ aE (afR (lf:=lf) (d:=d+9) x jO jO) (ag _) (fun b k z=> .inr (.inr z)) fun v1 m E i C I=> ?_;obtain⟨rfl,u,T,i1⟩:=I;have A:=(C p y fun q=>q.elim x.ne x.ns).trans N;have a:p<E:=jO;have wp:n<=p∨Ig p w sv p:= .inr (.inl rfl);try simp(disch:=first|omega|assumption|exact Int.natCast_nonneg _) only[Nat.reduceAdd,Nat.reduceLT,RZ,A]
 refine bU (adk (lf:=lf) (d:=d+11) tt s x.tl F) i (fun _ _ h=>h.elim) ?_;try simp(disch:=first|omega|assumption|exact Int.natCast_nonneg _) only[Nat.reduceAdd,Nat.reduceLT,RZ,A,a,wp,true_and]
 have j:(m.set p (some ⟨93,true,[jP w 0,.int .u32 (lr tt s:Int),.bool false]⟩)).get p=some (ri w (lr tt s) false):=get_eq _ _ _;have f:¬aq u p:=fun q=>x.ns (i1 p y q)
 have Q:b8 K (m.set p (some ⟨93,true,[jP w 0,.int .u32 (lr tt s:Int),.bool false]⟩)) lo E w u (l++bQ q9 48):=T.ar (ag _) fun b k z=>ak _ _ (by
  rintro rfl
  exact z.elim x.ne f)
 have R:(m.set p (some ⟨93,true,[jP w 0,.int .u32 (lr tt s:Int),.bool false]⟩)).get 1=h.get 1:=by
  rw[ak _ _ (show 1≠p by omega)];refine C _ g.2 fun q=> ?_;rcases q with q|q
  ·omega
  ·have:=(r _ q).1;omega
 have B:Gd (m.set p (some ⟨93,true,[jP w 0,.int .u32 (lr tt s:Int),.bool false]⟩)) E:=⟨R.trans g.1,dC g.2 i⟩;show aa _ _ _ (m.set p (some ⟨93,true,[jP w 0,.int .u32 (lr tt s:Int),.bool false]⟩)) _ _;generalize m.set p (some ⟨93,true,[jP w 0,.int .u32 (lr tt s:Int),.bool false]⟩)=h2 at j Q R B⊢;have e:=j;unfold ri at e;try simp(disch:=first|omega|assumption|exact Int.natCast_nonneg _) only[Nat.reduceAdd,Nat.reduceLT,RZ,e]
 refine aJ aE (afK (lf:=lf) (d:=d) J B Q L k h0 hl Y F (by rw[ay,dM];omega) hd) i (fun b k z=>(vG i1 jO z).imp id fun q=> .inr q) fun v3 h3 n3 Z O G=> ?_;obtain⟨rfl,D,P,i3⟩:=G;try simp(disch:=first|omega|assumption|exact Int.natCast_nonneg _) only[Nat.reduceAdd,Nat.reduceLT,RZ]
 refine⟨D,⟨(O p a fun q=>q.elim x.ne f).trans j,jO,x.pl,x.ne,fun q=>f (i3 p a q), ?_,ae8 x.tl F⟩,fun c hc q=>i1 c hc (i3 c jO q)⟩;rw[b9]at P;exact P
theorem afT(i:3000000<=lf)(g:Gd h n)(x:SW K h lo n p w sv tt false l)(v:1<lo){t:List Nat}(e:By t)(y:t≠[])(J:t.length<=900){s:Nat}(F:s<4294967296)(u:l.length<=4800000)(hd:600<=d):
 aa (Ig p w sv) n (ah ad gt lf (d+14) 19 #[jP p 0,iy t,.int .u32 (s:Int)]) h n fun C h' n'=>C=jI 0∧∃f,SW K h' lo n' p w f (lr tt s) false (l++(bQ q9 48++pS (mg t (eD t)) (eN 0 (eD t)) s))∧∀c,c<n->aq f c->aq sv c:=by
 have z:=x.get;have D:=x.lt;have R:1<=t.length:=List.length_pos_iff.2 y;have m:=CM t;unfold ri at z;rw[aF (fun _=>ND) rfl];refine aa.aD ?_;unfold Fz;try simp(disch:=first|omega|assumption|exact Int.natCast_nonneg _) only[Nat.reduceAdd,Nat.reduceLT,RZ,z]
 refine aJ aE (afs (lf:=lf) (d:=d+6) e y J i) (ag _) (fun _ _ h=>h.elim) fun O W Q a j r=> ?_;subst r;have A:((0:Int) !=0)=false:=rfl;try simp(disch:=first|omega|assumption|exact Int.natCast_nonneg _) only[Nat.reduceAdd,Nat.reduceLT,RZ,afN,afO,afP,A]
 refine aJ aE (afS (lf:=lf) (d:=d) i (g.ar a fun b e=>j b e id) (x.ar a fun b e _=>j b e id) v (UZ e) (fun q=>by rw[q]at m;simp at m;omega) jO (by rw[m];exact(UW y).1) F u hd) a (fun b e G=> .inr G) fun N U P I L o=> ?_;obtain⟨rfl,k,B,E⟩:=o;try simp(disch:=first|omega|assumption|exact Int.natCast_nonneg _) only[Nat.reduceAdd,Nat.reduceLT,RZ]
 exact⟨k,B,fun c T q=>E c jO q⟩
theorem afU(x:SW K h lo n p w sv tt e l):aa (fun c=>c=w) n (ah ad gt lf (d+2) 20 #[jP p 0]) h n fun v h' n'=>v=iy ((fc l).drop K)∧n'=n∧SW (fc l).length h' lo n p w (.slice none 0 0) tt e l:=by
 have i:=x.get;have a:=x.lt;unfold ri at i;rw[aF (fun _=>NF) rfl];refine aa.aD ?_;unfold FA;try simp(disch:=first|omega|assumption|exact Int.natCast_nonneg _) only[Nat.reduceAdd,Nat.reduceLT,RZ,i]
 refine aJ aE (aev (lf:=lf) (d:=d) x.wr) (ag _) (fun b _ m=> .inr m) fun o s r k g f=> ?_;obtain⟨rfl,rfl,j⟩:=f;try simp(disch:=first|omega|assumption|exact Int.natCast_nonneg _) only[Nat.reduceAdd,Nat.reduceLT,RZ]
 exact⟨rfl,(g p a x.ne).trans x.get,a,x.pl,x.ne,fun q=>q.not_nil.elim,j,x.tl⟩
theorem afV(x:b8 K h lo n w sv l):aa (fun _=>False) n (ah ad gt lf (d+1) 66 #[jP w 0]) h n fun g h' n'=>g=jI (((fc l).length-K:Nat):Int)∧h'=h∧n'=n:=by
 have f:=x.2.get;have lt:=x.lt;unfold xZ at f;rw[aF (fun _=>Z') rfl];refine aa.aD ?_;unfold N6
 have i:∀e:Value->M Value,aY sv e=e (jI (((fc l).length-K:Nat):Int)):=fun e=>by
  have a:(bJ ((fc l).drop K)).length=(fc l).length-K:=by rw[gy,List.length_drop]
  rcases x.own with ⟨c,j⟩|⟨b,c,_⟩
  ·rw[j]at a;have a:0=(fc l).length-K:=a;rw[c,<-a];rfl
  ·rw[c,a];rfl
 try simp(disch:=first|omega|assumption|exact Int.natCast_nonneg _) only[Nat.reduceAdd,Nat.reduceLT,RZ,f,i]
 all_goals (first|trivial|rfl|exact⟨rfl,rfl,rfl⟩|exact⟨rfl,rfl⟩)
theorem afW(x:SW K h lo n p w sv tt e l):aa (fun _=>False) n (ah ad gt lf (d+2) 27 #[jP p 0]) h n fun b h' n'=>b=jI (((fc l).length-K:Nat):Int)∧h'=h∧n'=n:=by
 have a:=x.get;have c:=x.lt;unfold ri at a;rw[aF (fun _=>ZX) rfl];refine aa.aD ?_;unfold NI;try simp(disch:=first|omega|assumption|exact Int.natCast_nonneg _) only[Nat.reduceAdd,Nat.reduceLT,RZ,a]
 refine bU (afV (lf:=lf) (d:=d) x.wr) (ag _) (fun _ _ h=>h.elim) ?_;try simp(disch:=first|omega|assumption|exact Int.natCast_nonneg _) only[Nat.reduceAdd,Nat.reduceLT,RZ]
 all_goals (first|trivial|rfl|exact⟨rfl,rfl,rfl⟩|exact⟨rfl,rfl⟩)
end
theorem afX{xs:List Int}{z:Int}(d:nb xs z)(m:xs.length<=1000):(tQ xs z).length<=66300+20*xs.length:=by
 have ok:=vx d jO;have h:=ok.r6;have k:=d.2.1;have j:(bD xs).length=xs.length:=by unfold bD;rw[eR]
 have i:(mZ (rowsOf xs z).length (cK xs z)).length<=300:=by rw[CH];have:=CG (l:=eP eM (cK xs z)) (vw _ _ vv fun p f=>by have:=ok.pm p f;omega);rw[tL,ok.pl]at this;unfold cY at this;omega
 have n:=ph (rows:=rowsOf xs z) fun r a=>by unfold rowsOf at a;obtain⟨q,b,rfl⟩:=List.mem_map.1 a;have c:=ok.oh q b;exact CI c.hi (by rw[c.len];omega) (by rw[c.len];omega)
 have g:=H5 (rows:=rowsOf xs z) (ps:=cK xs z) (fun r a y e=>by
  unfold rowsOf at a;obtain⟨q,b,rfl⟩:=List.mem_map.1 a
  exact(ok.oh q b).hi y e) (bD xs) 0
 unfold tQ;rw[ay,ay];omega
theorem afY{t:List Nat}(d:By t)(e:t≠[])(h:t.length<=900)(o s:Nat):(pS t o s).length<=66660+20*t.length:=by
 have a:=UL d e;have c:=CK (dX t).length (en (dX t) t) 0;rw[vq]at c;have b:(iN (jo t)).length<=t.length+1:=by rw[bC];unfold jo;omega
 have i:=afX a jO;have g:=TG (dX t);have f:((aV 16).filter (fW (dX t))).length<=16:=pU (ah_ _ _) (by rw[kC];exact ag _);unfold pS;simp only[ay,dM,tW];omega
theorem afZ(l:List Nat):pK l<4294967296:=by unfold pK;omega
theorem af0(l:Nat):om 3++bQ (48+l) 8=oj l:=by unfold om oj;simp[b9]
section
variable {lf d n:Nat} {h:H}
theorem af1(b:100<=lf){l:Nat}(g:1<=l)(h2:l<=9):aa (fun _=>False) n (ah ad gt lf (d+3) 18 #[jI (l:Int)]) h n fun v h' n'=>∃p w sv,v= .tuple #[jP p 0,jI 0]∧SW 0 h' n n' p w sv 0 false (oj l):=by refine(afM (lf:=lf) (d:=d) b g h2).mono ?_;rintro j h' n' _ ⟨p,w,sv,rfl,q1,q2,f,e,c,a⟩;rw[af0]at a;obtain⟨k,i⟩:=a.apart c (by show(93:Nat)≠133;decide) (by show(93:Nat)≠5;decide);exact⟨p,w,sv,rfl,c,f,q1,e,i,a,jD⟩
theorem af2(r:Int):aa (fun _=>False) n (ah ad gt lf (d+1) 28 #[jI r]) h n fun v h' n'=>v= .bool (decide (5<=r∧r<=900000))∧h'=h∧n'=n:=by
 rw[aF (fun _=>ZY) rfl];refine aa.aD ?_;unfold NJ;by_cases a:5<=r
 ·by_cases b:r<=900000
  ·rw[decide_eq_true (show 5<=r∧r<=900000 from⟨a,b⟩)];try simp(disch:=first|omega|assumption|exact Int.natCast_nonneg _) only[Nat.reduceAdd,Nat.reduceLT,RZ,a,b]
   all_goals (first|trivial|rfl|exact⟨rfl,rfl,rfl⟩|exact⟨rfl,rfl⟩)
  ·rw[decide_eq_false (show¬(5<=r∧r<=900000)from fun q=>b q.2)];try simp(disch:=first|omega|assumption|exact Int.natCast_nonneg _) only[Nat.reduceAdd,Nat.reduceLT,RZ,a,b]
   all_goals (first|trivial|rfl|exact⟨rfl,rfl,rfl⟩|exact⟨rfl,rfl⟩)
 ·rw[decide_eq_false (show¬(5<=r∧r<=900000)from fun q=>a q.1)];try simp(disch:=first|omega|assumption|exact Int.natCast_nonneg _) only[Nat.reduceAdd,Nat.reduceLT,RZ,a]
  all_goals (first|trivial|rfl|exact⟨rfl,rfl,rfl⟩|exact⟨rfl,rfl⟩)
def rj(r:Int):Int:=if 5<=r∧r<=900000 then 12000+3*r else 0
theorem Vi(r:Int):aa (fun _=>False) n (ah ad gt lf (d+1) 29 #[jI r]) h n fun v h' n'=>v=jI (rj r)∧h'=h∧n'=n:=by
 rw[aF (fun _=>NK) rfl];refine aa.aD ?_;unfold FC rj;by_cases a:r<5
 ·rw[if_neg (show¬(5<=r∧r<=900000) by omega)];try simp(disch:=first|omega|assumption|exact Int.natCast_nonneg _) only[Nat.reduceAdd,Nat.reduceLT,RZ,a]
  all_goals (first|trivial|rfl|exact⟨rfl,rfl,rfl⟩|exact⟨rfl,rfl⟩)
 ·by_cases b:900000<r
  ·rw[if_neg (show¬(5<=r∧r<=900000) by omega)];try simp(disch:=first|omega|assumption|exact Int.natCast_nonneg _) only[Nat.reduceAdd,Nat.reduceLT,RZ,a,b]
   all_goals (first|trivial|rfl|exact⟨rfl,rfl,rfl⟩|exact⟨rfl,rfl⟩)
  ·rw[if_pos (show 5<=r∧r<=900000 by omega)];have e:IntKind.i64.wrap (3*r)=3*r:=aO jO jO;have c:IntKind.i64.wrap (12000+3*r)=12000+3*r:=aO jO jO;try simp(disch:=first|omega|assumption|exact Int.natCast_nonneg _) only[Nat.reduceAdd,Nat.reduceLT,RZ,a,b,e,c]
   all_goals (first|trivial|rfl|exact⟨rfl,rfl,rfl⟩|exact⟨rfl,rfl⟩)
end
theorem af3(l:List UInt8):bM ⟨l.toArray⟩=iy (bN l):=by show _=bM ⟨(bS (bN l)).toArray⟩;rw[afp]
theorem af4(l:List UInt8):By (bN l):=fun x a=>by obtain⟨b,_,rfl⟩:=List.mem_map.1 a;exact b.toNat_lt
section
variable {lf d n:Nat} {h:H}
theorem af5{W:Nat->Prop}{n0:Nat}{Q:Value->H->Nat->Prop}{r:Int}{R:Value->M Value}(x:aa W n0 (R (jI (rj r))) h n Q):aa W n0 (aH (.bool (decide (5<=r∧r<=900000))) (gq (ii 3) (jI r) fun e=>ax (ii 12000) e fun f=>R f) (R (ii 0))) h n Q:=by
 unfold rj at x;by_cases c:5<=r∧r<=900000
 ·have b:IntKind.i64.wrap (3*r)=3*r:=aO jO jO;have a:IntKind.i64.wrap (12000+3*r)=12000+3*r:=aO jO jO;rw[if_pos c]at x;rw[decide_eq_true c];try simp(disch:=first|omega|assumption|exact Int.natCast_nonneg _) only[Nat.reduceAdd,Nat.reduceLT,RZ,b,a]
  exact x
 ·rw[if_neg c]at x;rw[decide_eq_false c];try simp(disch:=first|omega|assumption|exact Int.natCast_nonneg _) only[Nat.reduceAdd,Nat.reduceLT,RZ]
  exact x
theorem af6(y:3000000<=lf)(hd:600<=d)(r:Int)(t:List Nat)(c:By t)(g:Gd h n):aa (fun _=>False) n (ah ad gt lf (d+16) 7 #[jI r,iy t]) h n fun v _ _=>v= .bool true:=by
 rw[aF (fun _=>ZO) rfl];refine aa.aD ?_;unfold Np;refine bU (af2 (lf:=lf) (d:=d+14) r) (ag _) (fun _ _ h=>h.elim) ?_;refine af5 ?_;refine bU (Vi (lf:=lf) (d:=d+14) r) (ag _) (fun _ _ h=>h.elim) ?_;have L:(rj r !=rj r)=false:=bne_self_eq_false _;try simp(disch:=first|omega|assumption|exact Int.natCast_nonneg _) only[Nat.reduceAdd,Nat.reduceLT,RZ,L,pR]
 by_cases c1:t.length<=40
 rotate_left
 ·have z:(40:Int)<((t.length:Nat):Int):=jO;try simp(disch:=first|omega|assumption|exact Int.natCast_nonneg _) only[Nat.reduceAdd,Nat.reduceLT,RZ,z]
  exact vu jO g
 have J:¬(40:Int)<((t.length:Nat):Int):=jO;try simp(disch:=first|omega|assumption|exact Int.natCast_nonneg _) only[Nat.reduceAdd,Nat.reduceLT,RZ,J,pR]
 by_cases G:r<((t.length:Nat):Int)
 ·try simp(disch:=first|omega|assumption|exact Int.natCast_nonneg _) only[Nat.reduceAdd,Nat.reduceLT,RZ,G]
  exact vu jO g
 try simp(disch:=first|omega|assumption|exact Int.natCast_nonneg _) only[Nat.reduceAdd,Nat.reduceLT,RZ,G]
 by_cases k:t=[]
 ·subst k;have R:∀K:Value->M Value,gu (iy []) (bM {data:=#[]}) K=K (.bool true):=fun K=>rfl;try simp(disch:=first|omega|assumption|exact Int.natCast_nonneg _) only[Nat.reduceAdd,Nat.reduceLT,RZ,R]
  exact vu jO g
 have D:=fun K=>Vf k K;have l1:1<=t.length:=List.length_pos_iff.2 k;try simp(disch:=first|omega|assumption|exact Int.natCast_nonneg _) only[Nat.reduceAdd,Nat.reduceLT,RZ,D]
 refine aJ aE (af1 (lf:=lf) (d:=d+12) jO (l:=1) jD jD) (ag _) (fun _ _ h=>h.elim) fun v1 h1 n1 j C u=> ?_;obtain⟨p,w,sv,rfl,m⟩:=u;have f:=g.ar j fun b c=>C b c id;try simp(disch:=first|omega|assumption|exact Int.natCast_nonneg _) only[Nat.reduceAdd,Nat.reduceLT,RZ,dq,ext1]
 refine aJ aE (afU (lf:=lf) (d:=d+13) m) j (fun b c hq=> .inl (by have hq:b=w:=hq;have:=m.wr.2.ge;omega)) fun v2 W Q T B s=> ?_;obtain⟨_,rfl,i⟩:=s;have a:Gd W Q:=⟨(B _ f.2 (fun q=>by have q:_=w:=q;have:=m.wr.2.ge;have:=g.2;omega)).trans f.1,f.2⟩;try simp(disch:=first|omega|assumption|exact Int.natCast_nonneg _) only[Nat.reduceAdd,Nat.reduceLT,RZ]
 refine bU (afg (lf:=lf) (d:=d+12) t c jO jO jO) jO (fun _ _ h=>h.elim) ?_;have hl:(oj 1).length=32:=afh 1;refine aJ aE (afT (lf:=lf) (d:=d+1) y a i g.2 c k jO (afZ t) jO jO) jO (fun b c hq=> .inl ?_) fun Z U P x A o=> ?_
 ·rcases hq with rfl|rfl|hq
  ·exact i.pl
  ·exact i.wr.2.ge
  ·exact hq.not_nil.elim
 obtain⟨rfl,O,N,_⟩:=o
 have e:Gd U P:=⟨(A _ a.2 fun q=>by
  rcases q with q|q|q
  ·have:=i.pl;have:=g.2;omega
  ·have:=i.wr.2.ge;have:=g.2;omega
  ·exact q.not_nil.elim).trans a.1,dC a.2 x⟩
 have I:((0:Int)==0)=true:=rfl;try simp(disch:=first|omega|assumption|exact Int.natCast_nonneg _) only[Nat.reduceAdd,Nat.reduceLT,RZ,I]
 by_cases E:900000<r
 ·try simp(disch:=first|omega|assumption|exact Int.natCast_nonneg _) only[Nat.reduceAdd,Nat.reduceLT,RZ,E]
  exact vu jO e
 by_cases F:r<5
 ·try simp(disch:=first|omega|assumption|exact Int.natCast_nonneg _) only[Nat.reduceAdd,Nat.reduceLT,RZ,E,F]
  exact vu jO e
 try simp(disch:=first|omega|assumption|exact Int.natCast_nonneg _) only[Nat.reduceAdd,Nat.reduceLT,RZ,E,F]
 refine bU (afW (lf:=lf) (d:=d+13) N) jO (fun _ _ h=>h.elim) ?_;refine bU (Vi (lf:=lf) (d:=d+14) r) jO (fun _ _ h=>h.elim) ?_;have X:=afY (UZ c) (fun q=>by have:=CM t;rw[q]at this;simp at this;omega) (by rw[CM];omega) (eN 0 (eD t)) (pK t);rw[CM]at X;have Y:8*(fc (oj 1++(bQ q9 48++pS (mg t (eD t)) (eN 0 (eD t)) (pK t)))).length<=(oj 1++(bQ q9 48++pS (mg t (eD t)) (eN 0 (eD t)) (pK t))).length:=aes _;rw[ay,ay,dM]at Y
 have z3:(((fc (oj 1++(bQ q9 48++pS (mg t (eD t)) (eN 0 (eD t)) (pK t)))).length-(fc (oj 1)).length:Nat):Int)<=rj r:=by unfold rj;rw[if_pos jO];omega
 try simp(disch:=first|omega|assumption|exact Int.natCast_nonneg _) only[Nat.reduceAdd,Nat.reduceLT,RZ,z3]
 exact vu jO e
end
theorem ce9:jG ad 8 9=some [9]:=jK
theorem af7:nK ad 9=false:=jK
theorem ceI:jG ad 8 3=some [3]:=jK
theorem agI:nK ad 3=false:=jK
set_option maxRecDepth 4000 in
theorem af8{h:H}{n:Nat}{v:Value}(x:mL ad h n 9 v):∃l:List UInt8,v=iy (bN l):=by obtain⟨t,rfl,_⟩:=YS (f:=7) Tryz.underlying9 (LK ce9 af7 x);exact⟨t,af3 t⟩
set_option maxRecDepth 4000 in
theorem af9{h:H}{n:Nat}{v:Value}(x:mL ad h n 3 v):∃z:Int,v=jI z:=by obtain⟨z,rfl,_⟩:=YR (f:=7) Tryz.underlying3 (LK ceI agI x);exact⟨z,rfl⟩
theorem af'{w:World}(f:Ev.oO w){vs:List Value}(k:dz (qH ad w) [3,9] vs):Calls ad 7 vs.toArray w fun e w'=>e= .returned (.bool true)∧Below w.heap.size w w':=by refine ad0 f k fun n h c g j q=> ?_;obtain⟨a,b,rfl,m,l⟩:=Ev.YT q;obtain⟨i,rfl⟩:=af9 m;obtain⟨t,rfl⟩:=af8 l;exact af6 (lf:=3000000) (d:=984) (ag _) jD i (bN t) (af4 t) (Gd.of g j)
end Go.Proofs.YtcehhgppfahbkaaGreatDoor
