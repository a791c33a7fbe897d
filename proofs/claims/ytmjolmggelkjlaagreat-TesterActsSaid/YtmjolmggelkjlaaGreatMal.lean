import Derived.Shelf.Strings.Builder1
import Derived.Shelf.Strings.Builder2
import Derived.Shelf.Strings.BuilderF
import Derived.Shelf.Strings.Prefix
import Derived.Shelf.Bits.Mul64
import Derived.Shelf.Strings.Repeat
import Derived.Ground.Names2Prog
import Derived.Shelf.Slices.Clone
import Derived.Ground.SlgnProg
import Derived.Shelf.SlicesE.Clone
import Derived.Test.YtmjolmggelkjlaaGreatProg
import Derived.Test.YtmjolmggelkjlaaGreatRows
import Derived.Test.YtmjolmggelkjlaaGreatMak
import Derived.Test.YtmjolmggelkjlaaGreatMai
import Derived.Test.YtmjolmggelkjlaaGreatMaj
open Go.Proofs.Tryz renaming prog→aa, underlying3→aoY, underlying5→aoZ, isAgg5→ao0, sizeOf5→ao1, zeroValue5→ao2, underlying9→ao3
open Nat renaming le_refl→ah, lt_succ_self→dI, le_succ→eL, lt_of_lt_of_le→fK, le_trans→gV, lt_or_ge→sT
open List renaming length_append→bG, length_cons→cP, flatMap_cons→ao4
open Bool renaming not_false→cf, and_self→dJ, not_true→eK
open Int renaming toNat_of_nonneg→mb
open Go.Value renaming agg→mM
open Go.Shelf renaming Ren→apl
open Go.Proofs.Lays renaming n105→apm
set_option linter.unusedVariables false
set_option linter.unusedSimpArgs false
namespace Go.Proofs.YtmjolmggelkjlaaGreat
open Go.Shelf
def Tryz.aaz:apl:=⟨fun|105=>183|212=>210|99=>211|165=>212|166=>65|170=>213|169=>66|263=>224|264=>225|206=>226|240=>106|241=>227|276=>136|277=>237|n=>n,fun|9=>9|3=>3|4=>4|20=>20|0=>0|46=>222|109=>283|5=>5|72=>107|76=>110|51=>31|146=>292|53=>263|148=>294|70=>105|37=>73|75=>109|127=>163|164=>197|80=>112|n=>n,fun|n=>n⟩
theorem Tryz.am2:apm aa Tryz.aaz:={
 mixed:=by kernel_rfl
 f99:=Tryz.func211.trans (congrArg some (by kernel_rfl))
 f105:=Tryz.func183.trans (congrArg some (by kernel_rfl))
 f165:=Tryz.func212.trans (congrArg some (by kernel_rfl))
 f166:=Tryz.func65.trans (congrArg some (by kernel_rfl))
 f169:=Tryz.func66.trans (congrArg some (by kernel_rfl))
 f170:=Tryz.func213.trans (congrArg some (by kernel_rfl))
 f206:=Tryz.func226.trans (congrArg some (by kernel_rfl))
 f212:=Tryz.func210.trans (congrArg some (by kernel_rfl))
 f240:=Tryz.func106.trans (congrArg some (by kernel_rfl))
 f241:=Tryz.func227.trans (congrArg some (by kernel_rfl))
 f263:=Tryz.func224.trans (congrArg some (by kernel_rfl))
 f264:=Tryz.func225.trans (congrArg some (by kernel_rfl))
 f276:=Tryz.func136.trans (congrArg some (by kernel_rfl))
 f277:=Tryz.func237.trans (congrArg some (by kernel_rfl))
 t0:=Tryz.underlying0
 a0:=Tryz.isAgg0
 z0:=Tryz.sizeOf0
 v0:=Tryz.zeroValue0
 t3:=aoY
 a3:=Tryz.isAgg3
 z3:=Tryz.sizeOf3
 v3:=Tryz.zeroValue3
 t4:=Tryz.underlying4
 a4:=Tryz.isAgg4
 z4:=Tryz.sizeOf4
 v4:=Tryz.zeroValue4
 t5:=aoZ
 a5:=ao0
 z5:=ao1
 v5:=ao2
 t9:=ao3
 a9:=Tryz.isAgg9
 z9:=Tryz.sizeOf9
 v9:=Tryz.zeroValue9
 t20:=Tryz.underlying20
 a20:=Tryz.isAgg20
 z20:=Tryz.sizeOf20
 v20:=Tryz.zeroValue20
 t37:=Tryz.underlying73
 a37:=Tryz.isAgg73
 z37:=Tryz.sizeOf73
 v37:=Tryz.zeroValue73
 t46:=Tryz.underlying222
 a46:=Tryz.isAgg222
 z46:=Tryz.sizeOf222
 v46:=Tryz.zeroValue222
 t51:=Tryz.underlying31
 a51:=Tryz.isAgg31
 z51:=Tryz.sizeOf31
 v51:=Tryz.zeroValue31
 t53:=Tryz.underlying263
 a53:=Tryz.isAgg263
 z53:=Tryz.sizeOf263
 v53:=Tryz.zeroValue263
 t70:=Tryz.underlying105
 a70:=Tryz.isAgg105
 z70:=Tryz.sizeOf105
 v70:=Tryz.zeroValue105
 t72:=Tryz.underlying107
 a72:=Tryz.isAgg107
 z72:=Tryz.sizeOf107
 v72:=Tryz.zeroValue107
 t75:=Tryz.underlying109
 a75:=Tryz.isAgg109
 z75:=Tryz.sizeOf109
 v75:=Tryz.zeroValue109
 t76:=Tryz.underlying110
 a76:=Tryz.isAgg110
 z76:=Tryz.sizeOf110
 v76:=Tryz.zeroValue110
 t109:=Tryz.underlying283
 a109:=Tryz.isAgg283
 z109:=Tryz.sizeOf283
 v109:=Tryz.zeroValue283
 t127:=Tryz.underlying163
 a127:=Tryz.isAgg163
 z127:=Tryz.sizeOf163
 v127:=Tryz.zeroValue163
 t146:=Tryz.underlying292
 a146:=Tryz.isAgg292
 z146:=Tryz.sizeOf292
 v146:=Tryz.zeroValue292
 t148:=Tryz.underlying294
 a148:=Tryz.isAgg294
 z148:=Tryz.sizeOf294
 v148:=Tryz.zeroValue294
 t164:=Tryz.underlying197
 a164:=Tryz.isAgg197
 z164:=Tryz.sizeOf197
 v164:=Tryz.zeroValue197}
theorem Tryz.am3:Builder.Extra aa Tryz.aaz:={
 sizeBuilder:=by kernel_rfl
 liesBuilder:=by kernel_rfl
 t5:=aoZ
 a5:=ao0
 z5:=ao1
 v5:=ao2
 infoByte:=by kernel_rfl
 cellsByte:=by kernel_rfl
 sizeByte:=by kernel_rfl
 neB5:=by decide}
open Go.RowKit Go.Lib in
theorem Tryz.strings_Repeat(s:ByteArray)(c:Nat)(w:World)(b:c<=9223372036854775807)(a:s.size*c<=140737488355328):
 Calls aa 183 #[.string s,jI c] w fun e w'=>e= .returned (.string ⟨(Lib.repeatL s.data.toList c).toArray⟩)∧Below w.heap.size w w':=Any.strings_Repeat Tryz.am2 Tryz.am3 s c w b a
end Go.Proofs.YtmjolmggelkjlaaGreat
namespace Go.Proofs.YtmjolmggelkjlaaGreat
open Go.RowKit Ev
theorem aaA:Ev.ri aa=true:=jK
theorem aaB:Tryz.prog.follows .mixedOrders=true:=jK
theorem am4:Ev.qf aa sQ=true:=jK
theorem am5:Ev.qf aa Ev.KN=true:=jK
theorem aaC{kn:List FuncId}(b:∀f k,kn.contains f=true->rq f=some k->f=183∧k=2):Ev.F8 aa kn:=by intro f k h d;obtain⟨rfl,rfl⟩:=b f k h d;exact⟨fun e=>(by cases e),fun _ s c w g a=>Tryz.strings_Repeat s c w jO (gV (Nat.mul_le_mul a g) jD),fun e=>(by cases e),fun e=>(by cases e)⟩
theorem am6:Ev.tg aa sQ:=by
 refine⟨fun f b d c w _=> ?_,aaC fun f k a b=> ?_⟩
 ·have a:f=65∨f=183:=by simpa[sQ]using b
  rcases a with rfl|rfl
  ·have e:Ev.rk aa 65=false:=jK;exact absurd (e.symm.trans c) jD
  ·exact absurd d jD
 ·have a:f=65∨f=183:=by simpa[sQ]using a
  rcases a with rfl|rfl
  ·cases b
  ·cases b;exact⟨rfl,rfl⟩
set_option maxRecDepth 100000 in
theorem am7:Ev.A8 ((inside (HO 300000000 (aay 300000000 1000))) .nil Tryz.prog.globals.size)=true:=jK
theorem am8(w:World):Calls aa 43 #[] w fun e w'=>e= .returned (.bool true)∧Below w.heap.size w w':=by obtain⟨m,x⟩:=Py aa w;refine Ev.amZ (kn:=sQ) aaA am4 aaB am6 aF x (gt:=gt) (Y:=300000000) (d:=1001) ?_;have:=am7;rw[am1,aE QT]at this;exact this
theorem known:Ev.tg aa Ev.KN:=by
 refine⟨fun f a d c w _=> ?_,aaC fun f k b a=> ?_⟩
 ·have b:f=43∨f=65∨f=183:=by simpa[Ev.KN]using a
  rcases b with rfl|rfl|rfl
  ·exact am8 w
  ·have e:Ev.rk aa 65=false:=jK;exact absurd (e.symm.trans c) jD
  ·exact absurd d jD
 ·have b:f=43∨f=65∨f=183:=by simpa[Ev.KN]using b
  rcases b with rfl|rfl|rfl
  ·cases a
  ·cases a
  ·cases a;exact⟨rfl,rfl⟩
end Go.Proofs.YtmjolmggelkjlaaGreat
namespace Go.Proofs.YtmjolmggelkjlaaGreat
open Go.RowKit Ev Cn Ip
set_option maxRecDepth 20000
theorem am9{Y d:Nat}{f:FuncId}{b:List TypeId}{vs:List Value}{w:World}(c:dS (qz aa w) b vs)(r:∀n h a,dS (mA aa h n) b a->af (fun _=>False) n (aj aa gt Y d f a.toArray) h n fun v _ _=>v= .bool true):
 Calls aa f vs.toArray w fun e w'=>e= .returned (.bool true)∧Below w.heap.size w w':=by
 obtain⟨m,x⟩:=Py aa w;exact Ev.ad7 aaA am5 aaB known aF c x fun n h a _ _ q=>r n h a q
theorem aaD(Y d n:Nat)(h:H):af (fun _=>False) n (aj aa gt Y (d+1) 43 #[]) h n fun a h' n'=>a= .bool true∧h'=h∧n'=n:=by have e:aj aa gt Y (d+1) 43 #[]=(nC aa KG).bind fun _=>M.ret (.bool true):=jK;rw[e];have c:nC aa KG h n=some ⟨(),h,n,[]⟩:=rfl;refine af.step c (ah _) jS ?_;exact(kS _).2 ⟨rfl,rfl,rfl⟩
end Go.Proofs.YtmjolmggelkjlaaGreat
namespace Go.Proofs.YtmjolmggelkjlaaGreat
open Go.RowKit Ev Ip
theorem aaE:∀(q:Nat),q<10->∀(k:Value->M Value),bL (.string ⟨#[48,49,50,51,52,53,54,55,56,57]⟩) (some (jI (q:Int))) (some (jI ((q:Int)+1))) k=k (aL [48+q])
 |0,_,_=>rfl
 |1,_,_=>rfl
 |2,_,_=>rfl
 |3,_,_=>rfl
 |4,_,_=>rfl
 |5,_,_=>rfl
 |6,_,_=>rfl
 |7,_,_=>rfl
 |8,_,_=>rfl
 |9,_,_=>rfl
 |q+10,h,_=>by omega
def preB(k x:Nat):List Nat:=if x<10 then []else iu k (x/10)
theorem aaF(k x:Nat):iu (k+1) x=preB k x++[48+x %10]:=by
 unfold iu preB sI;by_cases h:x<10
 ·rw[if_pos h,if_pos h,Nat.mod_eq_of_lt h];rfl
 ·rw[if_neg h,if_neg h,List.map_append];rfl
section
variable {Y d:Nat}
theorem am'{n0:Nat}(b s:Value):∀(k x a n:Nat) (h:H) (out:List Nat),x<10^(k+1)->x<=9223372036854775807->k<a->out.length+k<=100->n0<=n->
 af (fun _=>False) n0 (tW Y ((aj aa gt Y d)) a (yF Y ((aj aa gt Y d))) (jI (x:Int)) b (aL out) s) h n fun m h' n'=>m=aL (preB k x++out)∧h'=h∧n'=n:=by
 intro k
 induction k generalizing b with
 |zero=>
  intro x a n h out c j r q l;obtain⟨a,rfl⟩:∃f,a=f+1:=⟨a-1,jO⟩;have c:x<10:=by simpa using c
  have i:¬(10:Int)<=(x:Int):=jO;rw[tW];refine jA @i ?_;unfold yF preB;rw[if_pos c];refine jB ?_
  first|exact⟨rfl,rfl,rfl⟩|rfl
 |succ k p=>
  intro x a n h out c j r q l;obtain⟨a,rfl⟩:∃f,a=f+1:=⟨a-1,jO⟩;rw[tW];by_cases g:x<10
  ·have i:¬(10:Int)<=(x:Int):=jO;refine jA @i ?_;unfold yF preB;rw[if_pos g];refine jB ?_
   first|exact⟨rfl,rfl,rfl⟩|rfl
  ·have i:(10:Int)<=(x:Int):=jO;have o:=fun(K:Value->M Value)=>aaE (x/10 %10) jO K;have t:=fun(K:Value->M Value)=>oF [48+x/10 %10] out (by simp;omega) K;refine jA (aI @i (aI @Zz @LP)) ?_;rw[o];rw[t];have:=p b (x/10) a n h ([48+x/10 %10]++out) (by rw[Nat.pow_succ]at c;omega) jO jO (by simp;omega) l
   have e:preB k (x/10)++([48+x/10 %10]++out)=preB (k+1) x++out:=by rw[<-List.append_assoc,<-aaF];unfold preB;rw[if_neg g]
   rw[e]at this;exact this
theorem am_(n:Nat)(h:H){x:Nat}(c:x<=9223372036854775807)(e:100<=Y):af (fun _=>False) n (aj aa gt Y (d+1) 52 #[jI (x:Int)]) h n fun a h' n'=>a=aL (iu 19 x)∧h'=h∧n'=n:=by have f:¬(x:Int)<0:=jO;have b:=fun(K:Value->M Value)=>aaE (x %10) jO K;rw[aB (fun _=>aeo) rfl];refine af.aA ?_;unfold HW;refine jA (aI @f @LP) ?_;rw[b,aaF];exact am' _ _ 18 x Y n h [48+x %10] jO c jO jS (ah _)
end
end Go.Proofs.YtmjolmggelkjlaaGreat
namespace Go.Proofs.YtmjolmggelkjlaaGreat
open Go.RowKit Ev Cn Ip
set_option maxRecDepth 20000
theorem AF{a:Type}{Y d n n0:Nat}{h:H}{W:Nat->Prop}{Q:a->H->Nat->Prop}(b:n0<=n)(K:Value->M a)(y:af W n0 (K (.bool true)) h n Q):af W n0 (ai (aj aa gt Y (d+1)) 43 [] K) h n Q:=
 bq (aaD Y d n h) b (fun _ _ h=>h.elim) y
theorem ana{h:H}{n:Nat}{v:Value}(x:mA aa h n 9 v):∃l:List UInt8,v= .string ⟨l.toArray⟩∧l.length<=maxLen:=by have c:jR aa 8 9=some [9]:=jK;have g:mX aa 9=false:=jK;exact aht (f:=7) ao3 (ahu (P:=aa) (h:=h) (n:=n) (t:=9) (v:=v) c g x)
theorem Fg{h:H}{n f:Nat}{v:Value}(x:eS aa h n (f+1) 3 v):∃i,v=jI i∧-9223372036854775808<=i∧i<=9223372036854775807:=by obtain⟨i,rfl,a⟩:=ahs (P:=aa) (f:=f) aoY x;exact⟨i,rfl,ahy a⟩
theorem anb:jR aa 8 77=some [3,3]:=jK
theorem anc:mX aa 77=true:=jK
theorem ane{h:H}{n:Nat}{v:Value}(x:mA aa h n 77 v):∃a b:Int,v= .agg #[jI a,jI b]:=by obtain⟨d,rfl,c⟩:=ahv anb anc x;obtain⟨a,b,rfl,q1,q2⟩:=ahw c;obtain⟨i,rfl,_⟩:=Fg (f:=7) q1;obtain⟨j,rfl,_⟩:=Fg (f:=7) q2;exact⟨i,j,rfl⟩
def oK(p:Int×Int):List Value:=[jI p.1,jI p.2]
def l9(h:H)(n:Nat)(v:Value)(l:List (Int×Int)):Prop:=(∃a,v= .slice a 0 0∧(∀b o,a≠some ⟨b,o,none⟩)∧l=[])∨∃b,v= .slice (some ⟨b,0,none⟩) l.length (bo+l.length)∧h.get b=some ⟨87,false,l.flatMap oK⟩∧b<n
theorem anf:jR aa 8 87=some [3,3]:=jK
theorem aaG{h:H}{n f:Nat}:∀(m:Nat) (cs:List Value),cs.length=m*2->(∀i,i<m->dS (eS aa h n (f+1)) [3,3] ((cs.drop (i*2)).take 2))->∃l:List (Int×Int),l.length=m∧cs=l.flatMap oK∧∀p∈l,p.2<=9223372036854775807
 |0,cs,a,_=>⟨[],rfl,List.length_eq_zero_iff.1 jO,fun p c=>(by cases c)⟩
 |m+1,[],a,b=>by simp at a
 |m+1,[s],a,b=>by simp at a;omega
 |m+1,s::t::cs,a,b=>by
  have x0:=b 0 (Nat.zero_lt_succ _);obtain⟨g,e,_⟩:=x0;obtain⟨j,rfl,_⟩:=Fg g;obtain⟨i1,rfl,_,d⟩:=Fg e
  obtain⟨l,r,o,k⟩:=aaG m cs (by simp only[cP]at a;omega) fun i d=>by have:=b (i+1) jO;rw[show(i+1)*2=i*2+1+1 by omega]at this;exact this
  refine⟨(j,i1)::l,by rw[cP,r],by rw[ao4,<-o];rfl,fun p c=> ?_⟩;rcases List.mem_cons.1 c with q|q
  ·rw[q];exact d
  ·exact k p q
theorem ang{h:H}{n:Nat}{v:Value}(x:mA aa h n 83 v):∃l,l9 h n v l∧∀p∈l,p.2<=9223372036854775807:=by
 have r:jR aa 8 83=some [83]:=jK;have j:mX aa 83=false:=jK;obtain⟨i,c,q⟩:=x;rw[r]at c;cases c;rcases q with ⟨q,_⟩|⟨_,q⟩
 ·rw[j]at q;cases q
 ·have q1:=q.1;unfold eS at q1;rw[Tryz.underlying83]at q1;rcases q1 with ⟨a,rfl,f⟩|⟨b,len,i,s,rfl,g,u,m,o,k,t,d⟩
  ·exact⟨[],.inl ⟨a,rfl,f,rfl⟩,fun p e=>(by cases e)⟩
  ·rw[anf]at g;cases g;obtain⟨l,rfl,rfl,e⟩:=aaG len s k d;exact⟨l,.inr ⟨b,rfl,m,o⟩,e⟩
theorem l9.au{h h':H}{n n':Nat}{v:Value}{l:List (Int×Int)}(x:l9 h n v l)(d:n<=n')(a:∀b,b<n->h'.get b=h.get b):l9 h' n' v l:=by
 rcases x with q|⟨b,e,g,c⟩
 ·exact .inl q
 ·exact .inr ⟨b,e,(a b c).trans g,jO⟩
theorem l9.len{h:H}{n:Nat}{v:Value}{l:List (Int×Int)}(x:l9 h n v l):∃a c,v= .slice a l.length c:=by
 rcases x with ⟨a,rfl,_,rfl⟩|⟨b,rfl,_⟩
 ·exact⟨_,_,rfl⟩
 ·exact⟨_,_,rfl⟩
theorem aaH:∀l:List (Int×Int),(l.flatMap oK).length=l.length*2
 |[]=>rfl
 |p::l=>by rw[ao4,bG,aaH l,cP];show 2+_=_;omega
theorem aaI:∀(l:List (Int×Int)) (i:Nat) (p:Int×Int),l[i]? =some p->((l.flatMap oK).drop (i*2)).take 2=oK p
 |[],_,_,h=>by cases h
 |q::l,0,p,h=>by cases h;rfl
 |q::l,i+1,p,h=>by have:=aaI l i p h;rw[show(i+1)*2=i*2+1+1 by omega];exact this
section
variable {β:Type} {W:Nat->Prop} {n0:Nat} {h:H} {n:Nat} {Q:β->H->Nat->Prop} {v:Value} {l:List (Int×Int)}
theorem anh (x:l9 h n v l) {i:Nat} {p:Int×Int} (d:l[i]? =some p) (f:n0<=n) (k:Value->M β)
 (y:∀h',h'.get n=some ⟨87,true,oK p⟩->(∀c,c<n->h'.get c=h.get c)->af W n0 (k (jP n 0)) h' (n+1) Q):
 af W n0 (mw 2 v (jI (i:Int)) fun j=>bc 2 j fun q=>cC 87 z87 fun m=>aQ 2 m q fun _=>k m) h n Q:=by
 have A:i<l.length:=(List.getElem?_eq_some_iff.1 d).1;rcases x with ⟨a,rfl,_,rfl⟩|⟨b,rfl,o,r⟩
 ·cases d
 ·rw[Hi _ 2 b 0 l.length (bo+l.length) .i64 (i:Int) jO jO];have u:0+(i:Int).toNat*2=i*2:=by rw[Int.toNat_natCast];omega
  rw[u];have z:=aaH l;refine gE trivial trivial b (i*2) _ o r (show i*2+2<=(l.flatMap oK).length by omega) ?_;refine dX rfl _ ?_;have t:((l.flatMap oK).drop (i*2)).take 2=oK p:=aaI l i p d;show af W n0 (aQ 2 (jP n 0) (.agg (((l.flatMap oK).drop (i*2)).take 2).toArray) _) _ _ Q;rw[t];refine cA (W:=W) (n0:=n0) (sz:=2) (e:=87) (cs:=z87) trivial (vs:=oK p) rfl rfl rfl (get_eq _ _ _) jO (.inl f) _ fun h' s g=> ?_;exact y h' s fun c B=>by rw[g c jO,aw _ _ jO]
end
def Fh(u w:Int):List Value:=[jI u,jI w]
def AG(u w:Int):Bool:=decide ((24<=u∧u<=100000)∧64<=w∧w<=1048576)
section
variable {Y d n:Nat} {h:H}
theorem ani(u w:Int):af (fun _=>False) n (aj aa gt Y (d+2) 81 #[jI u,jI w,jI 4096]) h n fun v h' n'=>v= .bool (AG u w)∧h'=h∧n'=n:=by
 rw[aB (fun _=>aeI) rfl];refine af.aA ?_;unfold RF AG;refine bq (akN (Y:=Y) (d:=d) u) (ah n) (fun _ _ h=>h.elim) ?_;by_cases c:24<=u∧u<=100000
 ·rw[decide_eq_true c];by_cases a:64<=w
  ·by_cases b:w<=1048576
   ·rw[decide_eq_true (show(24<=u∧u<=100000)∧64<=w∧w<=1048576 from⟨c,a,b⟩)];have f:(1:Int)<=4096:=jD;have e:(4096:Int)<=65536:=jD;exact jC (aI @a (aI @b (aI @f @e)))
   ·rw[decide_eq_false (show¬((24<=u∧u<=100000)∧64<=w∧w<=1048576) by omega)];exact jC (aI @a @b)
  ·rw[decide_eq_false (show¬((24<=u∧u<=100000)∧64<=w∧w<=1048576) by omega)];exact jC @a
 ·rw[decide_eq_false c,decide_eq_false (show¬((24<=u∧u<=100000)∧64<=w∧w<=1048576) by omega)];exact jE
theorem anj(u w:Int):af (fun _=>False) n (aj aa gt Y (d+4) 42 #[.agg (Fh u w).toArray]) h n fun v h' n'=>v= .bool (AG u w):=by
 rw[aB (fun _=>aek) rfl];refine af.aA ?_;unfold QS Fh;refine gD trivial _ _ ?_;obtain⟨b,c⟩:∃q,h.set n (some ⟨77,true,(mM #[jI u,jI w]).cells.toList⟩)=q:=⟨_,rfl⟩;have e:b.get n=some ⟨77,true,[jI u,jI w]⟩:=by rw[<-c,get_eq];rfl
 have f:n<n+1:=dI n;rw[c];refine jA @e ?_
 have a:af (fun _=>False) (n+1) (aj aa gt Y (d+3) 91 #[jI u,jI w]) b (n+1) fun v h' n'=>v= .bool (AG u w)∧h'=b∧n'=n+1:=by rw[aB (fun _=>aeL) rfl];refine af.aA ?_;unfold RQ;refine bq (ani (Y:=Y) (d:=d) u w) (ah _) (fun _ _ h=>h.elim) ?_;exact jE
 refine bq a (eL n) (fun _ _ h=>h.elim) ?_;exact jE
theorem ank{Z win:Nat}(h1:Z<=100000)(h2:win<=1048576):af (fun _=>False) n (aj aa gt Y (d+2) 53 #[jI (Z:Int),jI (win:Int)]) h n fun v h' n'=>v=jI ((win+36*Z+45088:Nat):Int)∧h'=h∧n'=n:=by
 have f:IntKind.i64.wrap ((win:Int)+4096)=((win+4096:Nat):Int):=by rw[aH jO jO];rfl
 have e:IntKind.i64.wrap (36*(Z:Int))=((36*Z:Nat):Int):=by rw[aH jO jO];rfl
 have c:IntKind.i64.wrap (((win+4096:Nat):Int)+((36*Z:Nat):Int))=((win+4096+36*Z:Nat):Int):=by rw[aH jO jO];rfl
 have b:IntKind.i64.wrap (((win+4096+36*Z:Nat):Int)+40960)=((win+4096+36*Z+40960:Nat):Int):=by rw[aH jO jO];rfl
 have a:IntKind.i64.wrap (((win+4096+36*Z+40960:Nat):Int)+32)=((win+36*Z+45088:Nat):Int):=by rw[aH jO jO];omega
 have g:af (fun _=>False) n (aj aa gt Y (d+1) 33 #[jI (Z:Int),jI (win:Int),jI 4096]) h n fun v h' n'=>v=jI ((win+4096+36*Z+40960:Nat):Int)∧h'=h∧n'=n:=by rw[aB (fun _=>aeh) rfl];refine af.aA ?_;unfold QI;exact jC (aI @f (aI @e (aI @c @b)))
 rw[aB (fun _=>aep) rfl];refine af.aA ?_;unfold Ra;refine bq g (ah n) (fun _ _ h=>h.elim) ?_;exact jC @a
theorem aaJ{Z win:Nat}(h1:24<=Z)(h2:Z<=100000)(p:64<=win)(o:win<=1048576):af (fun _=>False) n (aj aa gt Y (d+4) 44 #[jI (Z:Int),jI (win:Int)]) h n fun v h' n'=>∃L m f,v= .tuple #[jP f 0,jI 0]∧(∀c,c<n->L c=0)∧cD h' n' L Z win f ⟨vj,0,[],false⟩ m:=by
 rw[aB (fun _=>QU) rfl];refine af.aA ?_;unfold HP;refine aN aF (amO (Y:=Y) (d:=d) h1 h2 (win:=win) (lim:=4096) p o jD jD) (ah n) (fun _ _ h=>h.elim) fun s q g l r b=> ?_;obtain⟨L,m,rfl,k,e⟩:=b;have j:((0:Int) !=0)=false:=rfl;have i:(2<=4)=True:=jD;try simp(disch:=first|omega|assumption) only[Nat.reduceAdd,Nat.reduceLT,RZ,bJ,ext1,j,i,if_true]
 have t:=e.lt;refine gD trivial _ _ ?_;refine jB ?_;refine⟨fun c=>if c<g then L c else 20,m,g,rfl,fun c a=>(if_pos jO).trans (k c a),e.au (eL _) (fun c a=>if_pos a) (fun c a _ _=>aw _ _ jO), ?_,dI _,if_neg jO⟩;rw[get_eq];rfl
end
structure ma (h:H) (n n0:Nat) (L Ly:Nat->Nat) (S:List UInt8) (Z win K bd bj ta tb:Nat) (m my:Xm) (T:Te) (at_:Nat) (tk:List Nat):Prop where
 x:cD h n L Z win ta T m
 i:RunT S Z win K T at_ tk
 y:cD h n Ly Z 1048576 tb ⟨vj,0,[],false⟩ my
 dj:∀c,c<n->1<=Ly c->Ly c<=20->L c=0
 l0:∀c,c<n0->L c=0
 nn:n0<=n
 gd:h.get bd=some ⟨77,true,[jI (Z:Int),jI (win:Int)]⟩
 hd:bd<n
 ld:L bd=0
 gj:h.get bj=some ⟨85,true,rC ta at_ tk true⟩
 hj:bj<n
 lj:L bj=0
 nj:n0<=bj
 dz:bd≠bj
 yj:Ly bj=0
 yd:Ly bd=0
 y0:∀c,c<n0->Ly c=0
section
variable {h h':H} {n n' n0:Nat} {L L' Ly:Nat->Nat} {S:List UInt8} {Z win K bd bj ta tb:Nat} {m m' my:Xm} {T T':Te} {at_ Mk:Nat} {tk Ml:List Nat}
theorem ma.next(q:ma h n n0 L Ly S Z win K bd bj ta tb m my T at_ tk)(e:n<=n')(l:∀b,b<n->¬WT L b->b≠bj->h'.get b=h.get b)(f:∀c,c<n->L' c=L c)(x:cD h' n' L' Z win ta T' m')(i:RunT S Z win K T' Mk Ml)(p:h'.get bj=some ⟨85,true,rC ta Mk Ml true⟩):
 ma h' n' n0 L' (Lz n Ly) S Z win K bd bj ta tb m' my T' Mk Ml:=by
 have j:∀{b},L b=0->¬WT L b:=fun r w=>by have:=w.1;omega
 have o:∀c,c<n->1<=Ly c->Ly c<=20->h'.get c=h.get c:=fun c a d g=>l c a (j (q.dj c a d g)) (fun k=>by rw[k,q.yj]at d;omega);refine⟨x,i,q.y.au e (fun c a=>gw a) o,fun c a d g=> ?_,fun c a=>(f c (fK a q.nn)).trans (q.l0 c a),gV q.nn e,(l bd q.hd (j q.ld) q.dz).trans q.gd,fK q.hd e,(f bd q.hd).trans q.ld,p,fK q.hj e,(f bj q.hj).trans q.lj,q.nj,q.dz,(gw q.hj).trans q.yj,(gw q.hd).trans q.yd,fun c a=>(gw (fK a q.nn)).trans (q.y0 c a)⟩;by_cases k:c<n
 ·rw[gw k]at d g;exact(f c k).trans (q.dj c k d g)
 ·rw[mK jO]at d;omega
theorem ma.grow(q:ma h n n0 L Ly S Z win K bd bj ta tb m my T at_ tk)(e:n<=n')(d:∀b,b<n->h'.get b=h.get b):ma h' n' n0 (Lz n L) (Lz n Ly) S Z win K bd bj ta tb m my T at_ tk:=
 q.next e (fun b f _ _=>d b f) (fun c a=>gw a) (q.x.au e (fun c a=>gw a) (fun c a _ _=>d c a)) q.i ((d bj q.hj).trans q.gj)
theorem ma.w(q:ma h n n0 L Ly S Z win K bd bj ta tb m my T at_ tk):∀b,WT L b->n0<=b∨False:=fun b a=>by
 rcases sT b n0 with c|c
 ·have:=a.1;rw[q.l0 b c]at this;omega
 ·exact .inl c
theorem RunT.bC(i:RunT S Z win K T at_ tk):∀o,T.e.c.op=some o->T.e.ru.bf=none∧T.e.c.u.aS.last.length<=9*Z:=fun o a=>by obtain⟨c,_,_,bn,b⟩:=i.xi.op o a;rw[i.xi.ru c];exact⟨bn,b⟩
end
section
variable {Y d n n0 Z win K bd bj ta tb:Nat} {h:H} {L Ly:Nat->Nat} {T:Te} {m my:Xm} {S:List UInt8} {at_:Nat} {tk:List Nat} {t:List Nat} {er:Int} {Q:Value->H->Nat->Prop}
theorem anl{A C E G Hh I M1 N1 P v:Value}{O0:Nat}{k:(V->V->V->V->V->V->V->V->V->V->V->V->V->V->M V)×(V->M V)}{l:List (Int×Int)}(hK:cY S Z K x0 t er)(v7:K<=93700)(hS:S.length<=200)(hu:Z<=200)(v3:win<=1048576)(v5:l.length<=1000)(u7:∀p∈l,p.2<=9223372036854775807)(u6:3000000<=Y):
 ∀(r i c:Nat) (h:H) (n:Nat) (L Ly:Nat->Nat) (m:Xm) (T:Te) (at_:Nat) (tk:List Nat),i+r=l.length->r<c->l9 h n v l->(∀b,aK v b->b<n0)->ma h n n0 L Ly S Z win K bd bj ta tb m my T at_ tk->
 (∀(h:H) (n:Nat) (L Ly:Nat->Nat) (m:Xm) (T:Te) (at_:Nat) (tk:List Nat),l9 h n v l->ma h n n0 L Ly S Z win K bd bj ta tb m my T at_ tk->af (fun _=>False) n0 (k.1 A (.string ⟨S.toArray⟩) C (jP bd 0) E (jP ta 0) G Hh I (jP bj 0) (jI ((win+36*Z+45088:Nat):Int)) M1 N1 (jI (O0:Int))) h n Q)->
 af (fun _=>False) n0 (tQ Y (aj aa gt Y (d+26)) c k A (.string ⟨S.toArray⟩) C (jP bd 0) E (jP ta 0) G Hh I (jP bj 0) (jI ((win+36*Z+45088:Nat):Int)) M1 N1 (jI (O0:Int)) P v (jI ((l.length:Nat):Int)) (jI (i:Int))) h n Q:=by
 intro r
 induction r with
 |zero=>intro i c h n L Ly m T at_ tk hi hf row hv q hk;obtain⟨c,rfl⟩:∃f,c=f+1:=⟨c-1,jO⟩;obtain rfl:i=l.length:=jO;rw[tQ];refine jA @Int.lt_irrefl ?_;exact hk h n L Ly m T at_ tk row q
 |succ r ih=>
  intro i c h n L Ly m T at_ tk hi hf row hv q hk;obtain⟨c,rfl⟩:∃f,c=f+1:=⟨c-1,jO⟩;have u5:((i:Nat):Int)<((l.length:Nat):Int):=jO;obtain⟨p,hp⟩:∃p,l[i]? =some p:=⟨_,List.getElem?_eq_getElem jO⟩;have u3:=u7 p (List.mem_of_getElem? hp);have nn:=q.nn;have hj:=q.hj;have nj:=q.nj;rw[tQ];refine jA @u5 ?_;refine anh row hp nn _ fun h1 ga k1=> ?_;have q1:=q.grow (eL n) k1;have y:=row.au (eL n) k1;have J:=q1.gj;have g:=q1.hj;refine gE trivial trivial bj 0 _ J g (show 0+4<=4 by decide) ?_;refine gE trivial trivial n 0 _ ga (dI n) (show 0+2<=2 by decide) ?_;have v1:=aas (Y:=Y) (d:=d+2) q1.x q1.i hK jO jO jO p.1 p.2 u3 u6;refine aN aF v1 jO (fun b _ a=>q1.w b a) fun v2 h2 n2 u4 o u2=> ?_;obtain⟨T2,R,s,rfl,e,⟨L2,m2,b1,b2,x2⟩,_⟩:=u2;have z:=q1.lj;have nW:∀{b},Lz n L b=0->¬WT (Lz n L) b:=fun a w=>by have:=w.1;omega
  have v0:=(o bj g (nW z)).trans J;refine cA (W:=fun _=>False) (n0:=n0) (sz:=4) trivial (vs:=rC ta R s true) rfl rfl rfl v0 jO (.inl nj) _ fun h3 D k3=> ?_;have u0:L2 bj=0:=(b1 bj g).trans z;have x3:=x2.au (h':=h3) (ah _) (fun _ _=>rfl) (fun b a X U=>k3 b (fun w=>by rw[w,u0]at X;omega));have q3:=q1.next (h':=h3) u4 (fun b a hw u9=>(k3 b u9).trans (o b a hw)) b1 x3 e D
  have x:l9 h3 n2 v l:=by
   rcases y with w|⟨b,X,U,w3⟩
   ·exact .inl w
   ·have a:=hv b (by rw[X];exact⟨_,_,_,rfl⟩);exact .inr ⟨b,X,(k3 b jO).trans ((o b w3 (nW ((gw jO).trans (q.l0 b a)))).trans U),jO⟩
  have gx:=D;unfold rC at gx;have v6:=q3.hj;have xl:=e.xi.len;have xo:=e.sm;have xh:=e.xi.held;have al:=e.Mj;have j:=x3.held (Y:=Y) (d:=d+19) jO e.xi.bd e.xi.lv jO jO e.bC jO;refine jA (aI @gx @eK) ?_;refine aN aF j jO (fun _ _ h=>h.elim) fun v4 h4 n4 B O u1=> ?_;obtain⟨N,rfl,hN⟩:=u1;have zN:¬((win+36*Z+45088:Nat):Int)<(N:Int):=jO;have q4:=q3.grow B (fun b a=>O b a id);have u:=x.au B (fun b a=>O b a id);have U:IntKind.i64.wrap ((i:Int)+1)=((i+1:Nat):Int):=by rw[aH jO jO];rfl
  have w3:(i:Int)+1=((i+1:Nat):Int):=rfl;refine jA (aI @zN (aI @U @w3)) ?_;exact ih (i+1) c h4 n4 _ _ m2 T2 R s jO jO u hv q4 hk
theorem anm {A E G C I M1 N1 v:Value} {k0:(V->V->V->V->V->M V)×(V->M V)} {l:List (Int×Int)} (hK:cY S Z K x0 t er) (x:K<=93700) (hS:S.length<=200) (X:Z<=200) (i:win<=1048576) (k:l.length<=1000) (u:∀p∈l,p.2<=9223372036854775807) (s:3000000<=Y) (W:∀b,aK v b->b<n0)
 (hk:∀(h:H) (n:Nat) (L Ly:Nat->Nat) (T:Te) (m:Xm) (at_:Nat) (tk:List Nat),ma h n n0 L Ly S Z win K bd bj ta tb m my T at_ tk->af (fun _=>False) n0 (k0.1 (.string ⟨S.toArray⟩) (jP bd 0) (jP ta 0) C (jP bj 0)) h n Q):
 ∀(r o e:Nat) (h:H) (n:Nat) (L Ly:Nat->Nat) (m:Xm) (T:Te) (at_:Nat) (tk:List Nat),o+r=5->r<e->l9 h n v l->ma h n n0 L Ly S Z win K bd bj ta tb m my T at_ tk->
 af (fun _=>False) n0 (tR Y (aj aa gt Y (d+26)) e k0 A (.string ⟨S.toArray⟩) v (jP bd 0) E (jP ta 0) G C I (jP bj 0) (jI ((win+36*Z+45088:Nat):Int)) M1 N1 (jI (o:Int))) h n Q:=by
 intro r
 induction r with
 |zero=>intro o e h n L Ly m T at_ tk hi hf row q;obtain⟨e,rfl⟩:∃f,e=f+1:=⟨e-1,jO⟩;obtain rfl:o=5:=jO;have z:¬((5:Nat):Int)<5:=jD;rw[tR];refine jA @z ?_;exact hk h n L Ly T m at_ tk q
 |succ r U=>
  intro o e h n L Ly m T at_ tk hi hf row q;obtain⟨e,rfl⟩:∃f,e=f+1:=⟨e-1,jO⟩;have z:(o:Int)<5:=jO;obtain⟨a,c,ev⟩:=row.len;have R:∀K:Value->M Value,bA v K=K (jI ((l.length:Nat):Int)):=fun K=>by rw[ev];rfl
  rw[tR];refine jA (aI @z @R) ?_;refine anl (d:=d) (O0:=o) hK x hS X i k u s l.length 0 Y h n L Ly m T at_ tk jO jO row W q fun h' O L' B P T' y j g N=> ?_;have J:IntKind.i64.wrap ((o:Int)+1)=((o+1:Nat):Int):=by rw[aH jO jO];rfl
  have D:(o:Int)+1=((o+1:Nat):Int):=rfl;unfold HD;refine jA (aI @J @D) ?_;exact U (o+1) e h' O L' B P T' y j jO jO g N
end
section
variable {Y d n n0 Z win K bd bj ta tb:Nat} {h:H} {L Ly:Nat->Nat} {T:Te} {m my:Xm} {S:List UInt8} {at_:Nat} {tk:List Nat} {t:List Nat} {er:Int}
theorem ann (X:cY S Z K x0 t er) (C:K<=93700) (hS:S.length<=200) (w4:24<=Z) (hu:Z<=200) (u6:64<=win) (z4:win<=1048576) (u:300000000<=Y)
 (he:er=(oE S Z (S.length+1) 0).2) (ht:er=0->t=pV S Z (S.length+1) 0) (q:ma h n n0 L Ly S Z win K bd bj ta tb m my T at_ tk):
 af (fun _=>False) n0 ((Co Y (aj aa gt Y (d+26))).1 (.string ⟨S.toArray⟩) (jP bd 0) (jP ta 0) (jP tb 0) (jP bj 0)) h n fun v' _ _=>v'= .bool true:=by
 have nn:=q.nn;have Q:=q.hj;have nj:=q.nj;have j:3000000<=Y:=gV jD u;have p:∀{L:Nat->Nat} {b:Nat},L b=0->¬WT L b:=fun a w=>by have:=w.1;omega
 have a':t.length<=900000000:=by have h1:=Mh S Z K x0;have h2:x0.tot.length=0:=rfl;have h3:=X.2.1;rw[h3,bG]at h1;omega
 unfold Co;dsimp only;refine gE trivial trivial bj 0 _ q.gj Q (show 0+4<=4 by decide) ?_;refine aN aF (aat (Y:=Y) (d:=d+1) q.x q.i X C hS u6 jO j) nn (fun b _ a=>q.w b a) fun v1 h1 P v6 G v2=> ?_;obtain⟨T1,z0,rfl,I,y1,y8,i1,L1,m1,b1,b2,x1⟩:=v2;have w9:=(G bj Q (p q.lj)).trans q.gj;refine cA (W:=fun _=>False) (n0:=n0) (sz:=4) trivial (vs:=rC ta z0 (k8 t er) true) rfl rfl rfl w9 jO (.inl nj) _ fun h2 w7 k2=> ?_;have u4:L1 bj=0:=(b1 bj Q).trans q.lj;have x2:=x1.au (h':=h2) (ah _) (fun _ _=>rfl) (fun b a o w2=>k2 b (fun w=>by rw[w,u4]at o;omega));have jJ:∀b,b<n->¬WT L b->b≠bj->h2.get b=h.get b:=fun b a hw w1=>(k2 b w1).trans (G b a hw);have y2:cD h2 P (Lz n Ly) Z 1048576 tb ⟨vj,0,[],false⟩ my:=q.y.au v6 (fun c U=>gw U) (fun c U o w2=>jJ c U (p (q.dj c U o w2)) (fun w=>by rw[w,q.yj]at o;omega));have x8:=(jJ bd q.hd (p q.ld) q.dz).trans q.gd;have w0:bd<P:=by have:=q.hd;omega
 have v8:bj<P:=jO
 have ap:∀b,b<P->WT (Lz n Ly) b->L1 b=0:=fun b a w=>by
  rcases sT b n with c|c
  ·unfold WT at w;rw[gw c]at w;exact(b1 b c).trans (q.dj b c w.1 w.2)
  ·exact absurd w (p (mK c))
 have iy:RunT S Z 1048576 K ⟨vj,0,[],false⟩ 0 []:=⟨xi0 w4 jO,rfl,rfl,fun _=>rfl,jD,⟨fun w=>(by cases w),fun w=>(by cases w)⟩,fun w=>(by cases w),fun _=>⟨rfl,rfl⟩⟩;refine jB ?_
 refine aN aF (aat (Y:=Y) (d:=d+1) y2 iy X C hS jD jD j) jO (fun b _ a=> .inl (by
  rcases sT b n0 with c|c
  ·exact absurd a (p ((gw jO).trans (q.y0 b c)))
  ·exact c)) fun v3 h3 i v4 z v0=> ?_
 obtain⟨T2,y9,rfl,y5,y0,y7,i2,L2,m2,c1,c2,y3⟩:=v0;have x3:=x2.au (h':=h3) (n':=i) v4 (fun _ _=>rfl) (fun b a o w2=>z b a (fun w=>by rw[ap b a w]at o;omega));have x7:=(z bd w0 (p ((gw q.hd).trans q.yd))).trans x8;have w6:=(z bj v8 (p ((gw Q).trans q.yj))).trans w7;refine dX rfl _ ?_;refine cA (W:=fun _=>False) (n0:=n0) (sz:=4) trivial (vs:=rC tb y9 (k8 t er) true) rfl rfl rfl (get_eq _ _ _) (dI i) (.inl jO) _ fun D x5 k4=> ?_;have O:∀b,b<i->D.get b=h3.get b:=fun b a=>by rw[k4 b jO,aw _ _ jO]
 have x4:=x3.au (h':=D) (n':=i+1) (eL _) (fun _ _=>rfl) (fun b a _ _=>O b a);have y4:=y3.au (h':=D) (n':=i+1) (eL _) (fun _ _=>rfl) (fun b a _ _=>O b a);have x6:=(O bd jO).trans x7;have w5:=(O bj jO).trans w6;have d':bd<i+1:=jO;refine jA @x6 ?_;refine aN aF (alU (Y:=Y) (d:=d+15) (S:=S) (Z:=Z) jO jO u) jO (fun _ _ h=>h.elim) fun v5 h5 g c' x9 f=> ?_
 obtain⟨R,rfl,hT⟩:∃R,v5= .agg [.string ⟨(bS R).toArray⟩,jI er].toArray∧(er=0->R=t):=by
  rw[<-he]at f;unfold sN at f;by_cases c:er=0
  ·rw[if_pos c]at f;exact⟨_,by rw[f,c];rfl,fun _=>(ht c).symm⟩
  ·rw[if_neg c]at f;exact⟨[],f,fun w=>absurd w c⟩
 have u5:∀b,b<i+1->h5.get b=D.get b:=fun b a=>x9 b a id;refine dX rfl _ ?_;refine cA (W:=fun _=>False) (n0:=n0) (sz:=2) trivial (vs:=[.string ⟨(bS R).toArray⟩,jI er]) rfl rfl rfl (get_eq _ _ _) (dI g) (.inl jO) _ fun h6 l k6=> ?_;have N:∀b,b<i+1->h6.get b=D.get b:=fun b a=>by rw[k6 b jO,aw _ _ jO];exact u5 b a
 have A:=x4.au (h':=h6) (n':=g+1) jO (fun _ _=>rfl) (fun b a _ _=>N b a);have y6:=y4.au (h':=h6) (n':=g+1) jO (fun _ _=>rfl) (fun b a _ _=>N b a);have e:=(N bj jO).trans w5;have E:=(N i jO).trans x5;have v:bj<g+1:=jO;have v9:i<g+1:=jO;have r:g<g+1:=jO;unfold rC at e E;have xd:=A.done (Y:=Y) (d:=d+24);have J:=A.err (Y:=Y) (d:=d+24);have xt:=A.steps (Y:=Y) (d:=d+24);have xc:=A.count (Y:=Y) (d:=d+25);have ye:=y6.err (Y:=Y) (d:=d+24);have yt:=y6.steps (Y:=Y) (d:=d+24);have yc:=y6.count (Y:=Y) (d:=d+25);have u7:dx 4096 T1.e=true:=by unfold dx;rw[I]
 rw[I]at xd J;rw[y5]at ye;rw[y1]at xt;rw[y0]at yt;rw[y8]at xc;rw[y7]at yc;have fx:fX (some er)=true:=rfl;have ex:lO (some er)=er:=rfl;rw[fx]at xd;rw[ex]at J ye;have z1:(er !=er)=false:=bne_self_eq_false _;have z2:(((K:Nat):Int) !=((K:Nat):Int))=false:=bne_self_eq_false _;have z3:(((t.length:Nat):Int) !=((t.length:Nat):Int))=false:=bne_self_eq_false _;refine jB ?_;refine kp trivial bj 3 _ e v rfl fun T0 t0=> ?_;refine jA @eK ?_;refine kq aF xd jO fun T1 t1=> ?_;refine jA @eK ?_;refine kq aF J jO fun T3 t3=> ?_;refine jB ?_;refine kp trivial g 1 _ l r rfl fun T4 t4=> ?_;refine jA @z1 ?_;refine kq aF ye jO fun T5 t5=> ?_;refine kq aF J jO fun T6 t6=> ?_;refine jA @z1 ?_;refine kq aF xt jO fun T7 t7=> ?_;refine kq aF yt jO fun T8 t8=> ?_;refine jA @z2 ?_;refine kp trivial bj 2 _ e v rfl fun T9 t9=> ?_;refine jB ?_;refine kp trivial i 2 _ E v9 rfl fun r' z9=> ?_;refine jB ?_;refine kq aF xc jO fun q' z8=> ?_;refine kq aF yc jO fun p' z7=> ?_;try simp(disch:=first|omega|assumption) only[Nat.reduceAdd,Nat.reduceLT,RZ,z3,t3.cy t4,cf,dJ,dG,l]
 by_cases c:er=0
 ·have w3:=hT c;subst w3;have aX:k8 R er=iu 19 R.length:=by unfold k8;rw[if_pos c]
  rw[aX]at e;have zc:(er !=0)=false:=by rw[c];rfl
  have bl:=lZ R;have zl:(((R.length:Nat):Int)==((R.length:Nat):Int))=true:=beq_iff_eq.2 rfl
  have o:∀b,WT L1 b->n0<=b∨False:=fun b a=> .inl (by
   rcases sT b n0 with c|c
   ·exact absurd a (p ((b1 b jO).trans (q.l0 b c)))
   ·exact c)
  refine jA @zc ?_;refine kp trivial bj 2 _ e v rfl fun o' u3=> ?_;refine jB ?_;refine kp trivial g 0 _ l r rfl fun m' z6=> ?_;refine jA @bl ?_
  have zt:∀K:Value->M Value,cH (.string ⟨(bS (iu 19 R.length)).toArray⟩) (aL (iu 19 R.length)) K=K (.bool true):=fun K=>by have:=tI (k:=K) (bS (iu 19 R.length)) (bS (iu 19 R.length));rw[decide_eq_true rfl]at this;exact this
  refine kq aF (am_ (Y:=Y) (d:=d+25) (g+1) h6 (x:=R.length) jO (gV jD u)) jO fun l' u2=> ?_;refine jA @zt ?_;refine kq aF xc jO fun k' u1=> ?_;refine jB ?_;refine kp trivial g 0 _ l r rfl fun j' u0=> ?_;refine jA (aI @bl @zl) ?_;refine ahA aF (Mi (Y:=Y) (d:=d+3) A i1.xi X jO jO 1 jD i1.tot i1.dn i1.sm j) jO (fun b _ a=>o b a) fun v7 h7 n7 i' b' e' u9=> ?_;obtain⟨k,f',rfl,sp,_⟩:=u9
  have k0:k=0:=by
   rcases sp.E' with w|w
   ·exact w
   ·rw[u7]at w;cases w
  subst k0;have zk:(((0:Nat):Int)==0)=true:=rfl;refine jA @zk ?_;refine kq aF (aaD Y (d+25) n7 h7) jO fun g' z5=> ?_;try simp(disch:=first|omega|assumption) only[Nat.reduceAdd,Nat.reduceLT,RZ,u3.cy u2,u1.cy u0,cf,dJ,dG]
 ·have aX:k8 t er=[]:=by unfold k8;rw[if_neg c]
  rw[aX]at e;have zc:(er !=0)=true:=by rw[bne_iff_ne];exact c
  have zb:(bS []=([]:List UInt8))=True:=eq_true rfl;try simp(disch:=first|omega|assumption) only[Nat.reduceAdd,Nat.reduceLT,RZ,zc,e,zb,if_true]
  refine AF jO _ ?_;rw[lF]
end
section
variable {Y d n:Nat} {h:H} {S:List UInt8} {v:Value} {l:List (Int×Int)}
theorem ano(u w:Int)(row:l9 h n v l)(u3:∀p∈l,p.2<=9223372036854775807)(u7:S.length<=maxLen)(B:300000000<=Y):af (fun _=>False) n (aj aa gt Y (d+27) 11 #[.agg (Fh u w).toArray,.string ⟨S.toArray⟩,v]) h n fun v' _ _=>v'= .bool true:=by
 have A:3000000<=Y:=gV jD B;rw[aB (fun _=>aea) rfl];refine af.aA ?_;unfold HE;refine gD trivial _ _ ?_;obtain⟨h0,e0⟩:∃q,h.set n (some ⟨77,true,(mM (Fh u w).toArray).cells.toList⟩)=q:=⟨_,rfl⟩;have g0:h0.get n=some ⟨77,true,[jI u,jI w]⟩:=by rw[<-e0,get_eq];rfl
 have k0:∀b,b<n->h0.get b=h.get b:=fun b i=>by rw[<-e0,aw _ _ jO]
 rw[e0];have z:n<n+1:=dI n;refine gE trivial trivial n 0 _ g0 z (show 0+2<=2 by decide) ?_;refine aN aF (anj (Y:=Y) (d:=d+22) u w) (eL n) (fun _ _ h=>h.elim) fun v1 h1 U v4 O u2=> ?_;subst u2;have J:=(O n z id).trans g0;have E:n<U:=jO;have y:l9 h1 U v l:=row.au jO (fun b i=>(O b jO id).trans (k0 b i));cases hm:AG u w with
 |false=>refine jA @cf ?_;refine AF jO _ ?_;rw[lF]
 |true=>
  have v5:=of_decide_eq_true hm;obtain⟨Z,rfl⟩:∃q:Nat,u=(q:Int):=⟨u.toNat,(mb jO).symm⟩;obtain⟨win,rfl⟩:∃q:Nat,w=(q:Int):=⟨w.toNat,(mb jO).symm⟩;obtain⟨a0,c0,ev⟩:=row.len;have kl:∀K:Value->M Value,bA v K=K (jI ((l.length:Nat):Int)):=fun K=>by rw[ev];rfl
  by_cases R:(200:Int)<(Z:Int)
  ·refine jA (aI @eK (aI @J @R)) ?_;refine AF jO _ ?_;rw[lF]
  by_cases c2:(200:Int)<((S.length:Nat):Int)
  ·refine jA (aI @eK (aI @J (aI @R @c2))) ?_;refine AF jO _ ?_;rw[lF]
  by_cases c3:(30:Int)<((l.length:Nat):Int)
  ·refine jA (aI @eK (aI @J (aI @R (aI @c2 (aI @kl @c3))))) ?_;refine AF jO _ ?_;rw[lF]
  refine jA (aI @eK (aI @J (aI @R (aI @c2 (aI @kl @c3))))) ?_;have X:Z<=200:=jO;have hS:S.length<=200:=jO;have e:24<=Z:=jO;refine aN aF (aaJ (Y:=Y) (d:=d+22) e jO (win:=win) jO jO) jO (fun _ _ h=>h.elim) fun v2 h2 T v0 N u1=> ?_;obtain⟨L,m,ta,rfl,l0,x2⟩:=u1;have g2:=(N n E id).trans J;have D:n<T:=jO;refine jA (aI @bJ (aI @ext1 @g2)) ?_;refine aN aF (aaJ (Y:=Y) (d:=d+22) e jO (win:=1048576) jD jD) jO (fun _ _ h=>h.elim) fun v3 h3 f u9 r u0=> ?_;obtain⟨Ly,my,tb,rfl,j,y3⟩:=u0;have g3:=(r n D id).trans g2;have C:n<f:=jO;have z0:((0:Int) !=0)=false:=rfl;refine jA (aI @bJ (aI @ext1 @z0)) ?_;refine dX rfl _ ?_;refine cA (W:=fun _=>False) (n0:=n) (sz:=4) trivial (vs:=rC ta 0 [] true) rfl rfl rfl (get_eq _ _ _) (dI f) (.inl jO) _ fun I u5 k4=> ?_;have Q:∀b,b<f->I.get b=h3.get b:=fun b i=>by rw[k4 b jO,aw _ _ jO]
  have g4:=(Q n C).trans g3;have u4:n<f+1:=jO;refine jA @g4 ?_;refine bq (ank (Y:=Y) (d:=d+24) (Z:=Z) (win:=win) jO jO) jO (fun _ _ h=>h.elim) ?_;obtain⟨K,t2,G,hK,hz⟩:=canon (S:=S) (Z:=Z) hS e X;have P:∀b,b<U->I.get b=h1.get b:=fun b i=>(Q b jO).trans ((r b jO id).trans (N b i id));have x:l9 I (f+1) v l:=y.au jO P
  have q:ma I (f+1) n (Lz T L) (Lz f Ly) S Z win K n f ta tb m my ⟨vj,0,[],false⟩ 0 []:=by
   refine⟨x2.au jO (fun c g=>gw g) (fun c g _ _=>(Q c jO).trans (r c g id)),⟨xi0 e jO,rfl,rfl,fun _=>rfl,jD,⟨fun w=>(by cases w),fun w=>(by cases w)⟩,fun w=>(by cases w),fun _=>⟨rfl,rfl⟩⟩,y3.au jO (fun c g=>gw g) (fun c g _ _=>Q c g),fun c g s w2=> ?_,fun c g=>(gw jO).trans (l0 c jO),jO,g4,u4,(gw jO).trans (l0 n E),u5,dI f,mK jO,jO,jO,mK (ah _),(gw C).trans (j n D),fun c g=>(gw jO).trans (j c jO)⟩;rcases sT c T with k|k
   ·rw[gw jO,j c k]at s;omega
   ·exact mK k
  refine anm (d:=d) (n0:=n) (my:=my) (t:=pV S Z (S.length+1) 0++t2) hK G hS X jO jO u3 A (fun b i=> ?_) (fun h' n' L' v7 T' m' v6 u6 q'=> ?_) 5 0 Y I (f+1) _ _ m _ 0 [] jO jO x q
  ·rcases row with ⟨a,s,w2,_⟩|⟨b2,s,_,w3⟩
   ·rw[s]at i;obtain⟨o,l',c',w⟩:=i;cases w;exact absurd rfl (w2 b o)
   ·rw[s]at i;rw[i.inj];exact w3
  ·exact ann (d:=d) hK G hS e X jO jO B rfl (fun w=>by rw[hz w,List.append_nil]) q'
end
theorem anp{w:World}{vs:List Value}(k:dS (qz aa w) [77,9,83] vs):Calls aa 11 vs.toArray w fun e w'=>e= .returned (.bool true)∧Below w.heap.size w w':=
 am9 (Y:=300000000) (d:=1027) k fun n h g q=>by obtain⟨a,b,c,rfl,r,p,o⟩:=Ev.ahx q;obtain⟨i,j,rfl⟩:=ane r;obtain⟨S,rfl,m⟩:=ana p;obtain⟨l,row,f⟩:=ang o;exact ano (d:=1000) i j row f m (ah _)
end Go.Proofs.YtmjolmggelkjlaaGreat
