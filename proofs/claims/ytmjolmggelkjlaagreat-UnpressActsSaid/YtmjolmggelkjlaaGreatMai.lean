import Derived.Test.YtmjolmggelkjlaaGreatMah
import Derived.WalkKit
import Derived.Test.YtmjolmggelkjlaaGreatMaf
open Go.Proofs.Tryz renaming prog→aa
open Nat renaming le_refl→ah, zero_le→aP, lt_succ_self→dO, le_succ→eL, zero_add→fy, mod_lt→jt, not_lt_zero→kS, pow_le_pow_right→pS, mul_le_mul_right→qL, mul_zero→sJ, sub_zero→Au, xor_lt_two_pow→LY, eq_zero_of_not_pos→aad, le_of_lt→am'
open List renaming getD_eq_getElem?_getD→bw, getElem?_eq_getElem→bA, length_drop→bC, length_append→bE, replicate→bQ, append_nil→bR, length_cons→cK, length_take→cO, getElem_mem→dH, append_assoc→dY, length_map→fQ, range→gE, length_nil→hC, getElem?_map→iW, take_length→iY, not_mem_nil→je, drop_drop→jf, length_replicate→jX, nil_append→kQ, take_succ_eq_append_getElem→m9, map_congr_left→oC, getElem?_eq_none→oE, map_append→pT, getElem?_append_right→qM, drop_eq_getElem_cons→qP, length→sN, mem_cons_of_mem→uZ, length_filter_le→xr, take_append_drop→Aq, foldl_append→Av, mem_of_mem_take→EX, take_zero→Fa, mem_cons_self→Fc, range_succ→Fg, map_drop→Fh, singleton_append→Fi, all_cons→LF, set_append_right→LK, filter_append→LR, map_take→LV, all_nil→Mb, length_range→Z2, filter_cons_of_neg→aab, filter_cons_of_pos→aac, getLast?_append→anw, getElem?_take_of_lt→anx, dropLast_concat_getLast→anz, length_dropLast→anA
open Bool renaming and_eq_true→bW, not_false→cx, and_self→eA, or_eq_true→oD, not_eq_true'→Ao
open BitVec renaming ofInt→bY
open Int renaming toNat_natCast→cR, lt_irrefl→eO
open Go.Value renaming int→eJ, agg→mC
open UInt8 renaming ofNat→gP
open Go.IntKind renaming u32→ju, wrap_u32→L0
open Option.some renaming inj→uS
open List.Pairwise renaming filter→aaa
open Go.IntWalk renaming u8_in→am4
set_option linter.unusedVariables false
set_option linter.unusedSimpArgs false
namespace Go.Proofs.YtmjolmggelkjlaaGreat
open Go.RowKit Ev Cn
theorem ajd{a b:Nat}(d:a<256)(c:b<256):IntKind.u8.wrap ((bY IntKind.u8.bits (a:Int)^^^bY IntKind.u8.bits (b:Int)).toNat:Int)=((a^^^b:Nat):Int):=by
 have e:∀{a:Nat},a<256->(bY 8 (a:Int)).toNat=a:=fun h=>by rw[BitVec.ofInt_natCast,BitVec.toNat_ofNat];exact Nat.mod_eq_of_lt jO
 show IntKind.u8.wrap ((bY 8 (a:Int)^^^bY 8 (b:Int)).toNat:Int)=_;rw[BitVec.toNat_xor,e d,e c];exact w8 (LY (n:=8) d c)
theorem aje{a:Type}(x:Nat)(h:x<=4294967295)(k:Value->M a):Bn (.int .u32 (x:Int)) k=k (.int .u32 ((4294967295-x:Nat):Int)):=by
 show(match Nat.ble x 4294967295 with
  |true=>k (.int .u32 (.ofNat (Nat.sub 4294967295 x)))
  |false=>M.fail)=_
 rw[Nat.ble_eq_true_of_le h];rfl
def jQ(s b:Nat):Nat:=(s*2^8 %4294967296)^^^so ((s/2^24)^^^b)
theorem Yh(s b:Nat):jQ s b<4294967296:=zO (jt _ jD) (X6 _)
def pJ(l:List Nat):Nat:=l.foldl jQ 4294967295
theorem Yi(l:List Nat):pJ l<4294967296:=by
 unfold pJ
 have:∀(l:List Nat) (s:Nat),s<4294967296->l.foldl jQ s<4294967296:=by
  intro l
  induction l with
  |nil=>intro s h;exact h
  |cons x l a=>intro s h;exact a _ (Yh _ _)
 exact this l _ jD
def iC(l:List Nat):Nat:=4294967295-pJ l
def gB(i:Nat):List Value:=(gE 256).map fun b=>eJ .u32 (if b<i then(so b:Int)else 0)
theorem oh(i:Nat):(gB i).length=256:=by unfold gB;simp
theorem KU{i j:Nat}(h:j<256):(gB i)[j]? =some (.int .u32 (if j<i then(so j:Int)else 0)):=by unfold gB;rw[iW,List.getElem?_range h];rfl
theorem ajf{i:Nat}(h:i<256):(gB i).set i (.int .u32 (so i:Int))=gB (i+1):=by
 apply List.ext_getElem?;intro j;by_cases a:j<256
 ·rw[List.getElem?_set,KU a,KU a];by_cases e:i=j
  ·subst e;rw[if_pos rfl,if_pos (by rw[oh];exact h),if_pos jO]
  ·rw[if_neg e];by_cases c:j<i
   ·rw[if_pos c,if_pos jO]
   ·rw[if_neg c,if_neg jO]
 ·rw[oE (by rw[List.length_set,oh];omega),oE (by rw[oh];omega)]
theorem ajg:gB 0=bQ 256 (.int .u32 0):=by unfold gB;rw[oC (g:=fun _=>eJ .u32 0) fun b _=>by rw[if_neg (kS b)],List.map_const',Z2]
structure oi (h:H) (n a s:Nat):Prop where
 get:h.get a=some ⟨260,true,gB 256++[.int .u32 (s:Int)]⟩
 lt:a<n
 sm:s<4294967296
theorem smz:O3=bQ 257 (.int .u32 0):=xM _ _
section
variable {Y d n a s:Nat} {h:H}
theorem ajh(O:300<=Y):af (fun _=>False) n (aj aa gt Y (d+1) 187 #[]) h n fun v h' n'=>v= .agg (gB 256).toArray:=by
 rw[aC (fun _=>TF) rfl];refine af.aB ?_;unfold CO;refine dL PG _ ?_;refine dL PG _ ?_;have Q:∀B:Option AB,((h.set n (some ⟨257,true,bQ 256 (.int .u32 0)⟩)).set (n+1) B).get n=some ⟨257,true,bQ 256 (.int .u32 0)⟩:=fun B=>by rw[aw _ _ jO,get_eq]
 have D:(0:Int)<=1:=jD;have k:(0:Int)<=24:=jD;have g:(0:Int)<=31:=jD
 refine dE 256 (fun f i (_:Unit)=>rM Y (aj aa gt Y d) f (yN Y (aj aa gt Y d)) (jP n 0) (jP (n+1) 0) (jI (i:Int)))
  (fun i _ h' n'=>n'=n+2∧h'.get (n+1)=some ⟨257,true,gB i⟩∧h'.get n=some ⟨257,true,bQ 256 (.int .u32 0)⟩) ?_ ?_ Y 0 () _ (n+2) (aP _) jO ⟨rfl,by rw[get_eq,ajg],Q _⟩
 ·rintro f _ h' n' ⟨rfl,t,u⟩;have A:¬(((256:Nat):Int)<256):=jD;rw[rM];refine jA @A ?_
  (try unfold yN);(try dsimp only)
  refine fK trivial trivial (n+1) 0 _ t jO (by rw[oh];decide) ?_;have T:((gB 256).drop 0).take 256=gB 256:=by rw[List.drop_zero];exact List.take_of_length_le (by rw[oh];exact ah _)
  show af _ n (aM 256 _ (.agg (((gB 256).drop 0).take 256).toArray) _) _ _ _;rw[T];refine cq trivial (oh _) jX (by rw[List.all_eq_true];intro v N;obtain⟨x,_,rfl⟩:=List.mem_map.1 N;rfl) u jO (.inl (ah _)) _ fun e R W=> ?_;exact dV trivial trivial R (oh _) jO rfl
 ·rintro f i _ h' n' C ⟨rfl,t,u⟩ next;have A:(i:Int)<256:=jO;have K:IntKind.u32.wrap (i:Int)=(i:Int):=fL jO;have p:min ((24:Int)).toNat (ju).bits=24:=jD;have J:IntKind.u32.wrap ((i:Int)*2^(min ((24:Int)).toNat (ju).bits))=((i*2^24 %4294967296:Nat):Int):=by rw[p];exact _root_.Go.Proofs.YtmjolmggelkjlaaGreat.wB
  rw[rM];refine jA (aI @A (aI @K (aI @k @J))) ?_
  refine dE 8 (fun f2 j (x:Nat)=>tY Y (aj aa gt Y d) f2 (TC Y (aj aa gt Y d) f (yN Y (aj aa gt Y d))) (jP n 0) (jP (n+1) 0) (jI (i:Int)) (.int .u32 (x:Int)) (jI (i:Int)) (.bool true) (jI (j:Int)))
   (fun j x e q=>q=n+2∧e=h'∧x=jc j (i*2^24 %4294967296)) ?_ ?_ Y 0 _ h' (n+2) (aP _) jO ⟨rfl,rfl,rfl⟩
  ·rintro f2 x e q ⟨rfl,rfl,rfl⟩;have z:¬(((8:Nat):Int)<8):=jD;rw[tY];refine jA @z ?_
   (try unfold TC);(try unfold CN);(try dsimp only)
   have o:IntKind.i64.wrap ((i:Int)+1)=((i+1:Nat):Int):=by rw[aH jO jO];rfl
   have m:(i:Int)+1=((i+1:Nat):Int):=rfl;have P:i<(gB i).length:=by rw[oh];exact C
   have s:n<=n+1:=eL n;refine jA (aI @t (aI @P (aI @s (aI @o @m)))) ?_;have:=next () (e.set (n+1) (some ⟨257,true,gB (i+1)⟩)) (n+2) ⟨rfl,get_eq _ _ _,(aw _ _ jO).trans u⟩;rw[<-ajf C]at this;exact this
  ·rintro f2 j x e q X ⟨rfl,rfl,rfl⟩ c;obtain⟨x,r⟩:∃x,jc j (i*2^24 %4294967296)=x:=⟨_,rfl⟩;have U:x<4294967296:=by rw[<-r];exact zP _ _ (jt _ jD)
   have z:(j:Int)<8:=jO;have L:min ((1:Int)).toNat (ju).bits=1:=jD;have o:((x:Int)).fdiv (2^(min ((31:Int)).toNat (ju).bits))=((x/2^31:Nat):Int):=fdiv_pow x 31 (ju).bits jD;have m:IntKind.u32.wrap ((x:Int)*2^(min ((1:Int)).toNat (ju).bits))=((x*2^1 %4294967296:Nat):Int):=by rw[L];exact _root_.Go.Proofs.YtmjolmggelkjlaaGreat.wB
   have I:IntKind.u32.wrap (((x/2^31:Nat):Int)*79764919)=((x/2^31*79764919 %4294967296:Nat):Int):=aiI (x:=x/2^31) (y:=79764919);have G:=sk (a:=x*2^1 %4294967296) (b:=x/2^31*79764919 %4294967296) (jt _ jD) (jt _ jD);have E:IntKind.i64.wrap ((j:Int)+1)=((j+1:Nat):Int):=by rw[aH jO jO];rfl
   have l:(j:Int)+1=((j+1:Nat):Int):=rfl;rw[r,tY];refine jA (aI @z (aI @g (aI @D (aI @o (aI @m (aI @I (aI @G (aI @E @l)))))))) ?_;refine c (jo x) _ _ ⟨rfl,rfl, ?_⟩;show jo x=jo (jc j (i*2^24 %4294967296));rw[r]
theorem aji(g:300<=Y):af (fun _=>False) n (aj aa gt Y (d+2) 154 #[]) h n fun v h' n'=>∃a,v=jP a 0∧n<=a∧oi h' n' a 4294967295:=by
 rw[aC (fun _=>SC) rfl];refine af.aB ?_;unfold Iq;refine aN aE (ajh (Y:=Y) (d:=d) g) (ah _) (fun _ _ h=>h.elim) fun m o i f l c=> ?_;subst c;rw[smz];have b:(gB 256).length=256:=oh 256;have k:0+256<=(bQ 257 (eJ .u32 0)).length:=by rw[jX];decide
 have j:256<((bQ 257 (eJ .u32 0)).take 0++(gB 256++(bQ 257 (eJ .u32 0)).drop (0+256))).length:=by rw[Fa,kQ,bE,b,bC,jX];decide
 rw[GU,GX,if_pos b,if_pos k,GW,if_pos j]
 have e:((bQ 257 (eJ .u32 0)).take 0++(gB 256++(bQ 257 (eJ .u32 0)).drop (0+256))).set 256 (.int .u32 4294967295)=gB 256++[.int .u32 4294967295]:=by rw[Fa,kQ,LK _ _ (by rw[b];exact ah _),b];rfl
 rw[e,GV];refine jB ?_;refine gu trivial _ _ ?_;refine jB ?_;exact⟨i,rfl,f,get_eq _ _ _,jO,jD⟩
theorem ajj(x:oi h n a s)(b:Nat)(p:b<256):af (fun c=>c=a) n (aj aa gt Y (d+2) 184 #[jP a 0,.int .u8 (b:Int)]) h n fun _ h' n'=>n'=n∧oi h' n' a (jQ s b)∧∀c,c≠a->h'.get c=h.get c:=by
 have g:=x.get;have G:=x.lt;have K:=x.sm;have e:(gB 256).length=256:=oh 256;have J:(gB 256++[eJ .u32 (s:Int)])[256]? =some (.int .u32 (s:Int)):=by rw[qM (by rw[e];exact ah _),e];rfl
 have j:s/2^24<256:=jO;have f:(s/2^24)^^^b<256:=LY (n:=8) j p
 have l:af (fun _=>False) n (aj aa gt Y (d+1) 214 #[jP a 0,.int .u32 (s:Int),.int .u8 (b:Int)]) h n fun v h' n'=>v= .int .u32 ((jQ s b:Nat):Int)∧h'=h∧n'=n:=by
  rw[aC (fun _=>UB) rfl];refine af.aB ?_;unfold Ja jQ;have r:(0:Int)<=8:=jD;have k:(0:Int)<=24:=jD;have z:min ((8:Int)).toNat (ju).bits=8:=jD;have y:IntKind.u32.wrap ((s:Int)*2^(min ((8:Int)).toNat (ju).bits))=((s*2^8 %4294967296:Nat):Int):=by rw[z];exact _root_.Go.Proofs.YtmjolmggelkjlaaGreat.wB
  have o:((s:Int)).fdiv (2^(min ((24:Int)).toNat (ju).bits))=((s/2^24:Nat):Int):=fdiv_pow s 24 (ju).bits jD;obtain⟨q,B⟩:∃q,s/2^24=q:=⟨_,rfl⟩;rw[B]at o j f⊢;have u:IntKind.u8.wrap (q:Int)=(q:Int):=w8 j;have m:=ajd j p;obtain⟨i,D⟩:∃i,q^^^b=i:=⟨_,rfl⟩;rw[D]at m f⊢;have I:(gB 256++[eJ .u32 (s:Int)])[i]? =some (.int .u32 (so i:Int)):=by rw[List.getElem?_append_left (by rw[e];exact f),KU f,if_pos f]
  have A:(0:Int)<=(i:Int):=jO;have i1:(i:Int)<256:=jO;have t:=sk (a:=s*2^8 %4294967296) (b:=so i) (jt _ jD) (X6 i);exact jC (aI @r (aI @k (aI @y (aI @o (aI @u (aI @m (aI @A (aI @i1 (aI @g (aI @I @t))))))))))
 rw[aC (fun _=>Ty) rfl];refine af.aB ?_;unfold IP;refine jA (aI @g @J) ?_;refine bz l (ah _) (fun _ _ h=>h.elim) ?_;have C:256<(gB 256++[eJ .u32 (s:Int)]).length:=by rw[bE,e];exact dO 256
 refine jA (aI @g @C) ?_;refine⟨⟨?_,G,Yh _ _⟩,fun c E=>aw _ _ E⟩;rw[get_eq,LK _ _ (by rw[e];exact ah _),e];rfl
theorem ajk(x:oi h n a s)(l:List Nat)(p:By l)(L:l.length<=1000000000)(C:l.length+300<=Y):af (fun c=>c=a) n (aj aa gt Y (d+3) 150 #[jP a 0,.string ⟨(bS l).toArray⟩]) h n fun _ h' n'=>n'=n∧oi h' n' a (l.foldl jQ s)∧∀c,c≠a->h'.get c=h.get c:=by
 have I:=qD l;rw[aC (fun _=>Sx) rfl];refine af.aB ?_;unfold Cw;refine jA @I ?_
 refine dE l.length (fun m i (_:Unit)=>tS Y (aj aa gt Y (d+2)) m (Cv Y (aj aa gt Y (d+2))) (jP a 0) (.string ⟨(bS l).toArray⟩) (jI (l.length:Int)) (jI (i:Int)))
  (fun i _ h' n'=>n'=n∧oi h' n' a ((l.take i).foldl jQ s)∧∀c,c≠a->h'.get c=h.get c) ?_ ?_ Y 0 () h n (aP _) jO ⟨rfl,x,fun _ _=>rfl⟩
 ·rintro m _ h' n' ⟨rfl,f,j⟩;rw[tS];refine jA @eO ?_
  (try unfold Cv);(try dsimp only)
  rw[iY]at f;exact(kE _).2 ⟨rfl,f,j⟩
 ·rintro m i _ h' n' g ⟨rfl,f,j⟩ next;have G:(i:Int)<((l.length:Nat):Int):=jO;have A:(0:Int)<=(i:Int):=jO;have i1:(i:Int)<(((bS l).length:Nat):Int):=jO;have o:=Eg p g;have e:=p.at g;obtain⟨y,q⟩:∃y,l.getD i 0=y:=⟨_,rfl⟩;rw[q]at o e;have v:IntKind.i64.wrap ((i:Int)+1)=((i+1:Nat):Int):=by rw[aH jO jO];rfl
  have u:(i:Int)+1=((i+1:Nat):Int):=rfl;rw[tS];refine jA (aI @G (aI @A (aI @i1 @o))) ?_;refine aN aE (ajj (Y:=Y) (d:=d) f y e) (ah _) (fun b _ D=> .inr D) fun J N K B E k=> ?_;obtain⟨rfl,t,z⟩:=k;refine jA (aI @v @u) ?_;refine next () _ _ ⟨rfl, ?_,fun c r=>(z c r).trans (j c r)⟩;rw[m9 g,Av];have:l[i]=y:=by rw[<-q,bw,bA g];rfl
  rw[this];exact t
theorem ajl(x:oi h n a s):af (fun _=>False) n (aj aa gt Y (d+1) 186 #[jP a 0]) h n fun v h' n'=>v= .int .u32 ((4294967295-s:Nat):Int)∧h'=h∧n'=n:=by
 have g:=x.get;have i:=x.lt;have f:=x.sm;have b:(gB 256).length=256:=oh 256;have e:(gB 256++[eJ .u32 (s:Int)])[256]? =some (.int .u32 (s:Int)):=by rw[qM (by rw[b];exact ah _),b];rfl
 rw[aC (fun _=>TA) rfl];refine af.aB ?_;unfold IU;have c:=fun(k:Value->M Value)=>aje s jO k;exact jC (aI @g (aI @e @c))
end
theorem Yj{l:List Nat}{a:Nat}(ok:lT l a)(j:Nat):By (fW l a j):=fun x b=>by unfold fW at b;obtain⟨i,_,rfl⟩:=List.mem_map.1 b;exact ok.iw.at (uG ok.iw ok.cF _)
theorem zV(l:List Nat)(a j:Nat):(fW l a j).length=j:=by unfold fW;simp
theorem KV:∀{l:List Nat} {run a:Nat} {t:List Nat},By l->a<256->cU run a l= .ok t->By t
 |[],run,a,t,_,_,h=>by
  unfold cU at h;split at h
  ·cases h
  ·cases h;intro x c;cases c
 |x::l,run,a,t,f,i,h=>by
  have d:By l:=fun y b=>f y (by simp[b]);have c:=f x jS;rw[KS]at h;split at h
  ·split at h
   ·cases h
   ·cases e:cU 0 x l with
    |error e=>rw[e]at h;cases h
    |ok g=>
     rw[e]at h;cases h;intro y b;rcases List.mem_append.1 b with q|q
     ·rw[List.eq_of_mem_replicate q];exact i
     ·exact KV d c e y q
  ·cases e:cU (if 0<run∧x=a then run+1 else 1) x l with
   |error e=>rw[e]at h;cases h
   |ok g=>
    rw[e]at h;cases h;intro y b;rcases List.mem_cons.1 b with rfl|q
    ·exact c
    ·exact KV d c e y q
def fD(g:Gt):Except Int (List Nat):=match cU 0 0 (fW g.last g.bH g.last.length)with
 | .error _=> .error 25
 | .ok s=>if iC s=g.sum then .ok s else .error 21
theorem Yk{g:Gt}{s:List Nat}(h:fD g= .ok s):s.length<=251*g.last.length:=by
 unfold fD at h;split at h
 ·cases h
 ·next t e=>
  split at h
  ·cases h;have:=zU e;rwa[zV]at this
  ·cases h
theorem KW{g:Gt}{e:Int}(h:fD g= .error e):e=21∨e=25:=by
 unfold fD at h;split at h
 ·cases h;exact .inr rfl
 ·split at h
  ·cases h
  ·cases h;exact .inl rfl
section
variable {Y d n:Nat} {h:H}
end
end Go.Proofs.YtmjolmggelkjlaaGreat
namespace Go.Proofs.YtmjolmggelkjlaaGreat.Ev
open Go Go.RowKit
section
variable {β:Type} {W:Nat->Prop} {n0:Nat} {h:H} {n:Nat} {Q:β->H->Nat->Prop} {e:TypeId} {sz:Nat}
end
end Go.Proofs.YtmjolmggelkjlaaGreat.Ev
namespace Go.Proofs.YtmjolmggelkjlaaGreat.Ip
open Go
structure Pt where
 what:Int
 level:Int
 bH:Int
 wT:Int
 sum:Int
 Yl:Int
 last:Int
 len:Int
def aL(l:List Nat):Value:= .string ⟨(l.map gP).toArray⟩
def uI(n:Int):Bool:=decide (-9223372036854775808<=n)&&decide (n<=9223372036854775807)
def Pt.ok(p:Pt):Bool:=uI p.what&&uI p.level&&uI p.bH&&uI p.wT&&decide (0<=p.sum)&&decide (p.sum<4294967296)&&uI p.Yl&&uI p.last&&uI p.len
def Pt.cells(p:Pt):List Value:=[jI p.what,jI p.level,jI p.bH,jI p.wT,.int .u32 p.sum,jI p.Yl,jI p.last,jI p.len]
end Go.Proofs.YtmjolmggelkjlaaGreat.Ip
namespace Go.Proofs.YtmjolmggelkjlaaGreat
open Go.RowKit Ev Cn Ip
structure Is where
 u:Us
 A:Nat
 ps:List Pt
 next:Nat
 total:Nat
def Is.add(s:Is)(p:Pt)(wT:Nat):Is:={s with ps:=s.ps++[{p with bH:=s.next,wT:=wT}],next:=wT}
section
variable {Y d n rp p Z:Nat} {h:H} {S:List UInt8} {L:Nat->Nat} {s:Is} {m:Um} {pv:Value}
end
def Is.mr(s:Is)(len:Nat):Is:={(s.add ⟨2,0,0,0,s.u.aS.sum,s.u.aS.bH,s.u.aS.last.length,len⟩ s.A)with total:=ft s.total s.u.aS.sum}
def Is.Ym(s:Is):Is:={(s.add ⟨3,0,0,0,s.total,0,0,0⟩ (s.next+80))with next:=s.A}
def Em(S:List UInt8)(next:Nat):Int:=IntKind.u8.wrap (((S.getD (next/8+3) 0).toNat:Int)-48)
def Is.fresh(s:Is):Bool:=match s.ps.getLast? with
 |none=>true
 |some q=>decide (q.what=3)
def Is.begun(S:List UInt8)(s:Is):Is:=if s.fresh=true∧s.A=s.next+32 then{(s.add ⟨1,Em S s.next,0,0,0,0,0,0⟩ s.A)with total:=0}else s
section
variable {Y d n rp p Z:Nat} {h:H} {S:List UInt8} {L:Nat->Nat} {s:Is} {m:Um} {pv:Value}
end
section
variable {Y d n rp p Z:Nat} {h:H} {S:List UInt8} {L:Nat->Nat} {s:Is} {m:Um} {pv:Value}
end
inductive Ix where
 |stop (e:Int)
 |go (s:Is)
def Is.took(s:Is)(u:Us)(w:Nat):Is:={s with u:=u,A:=s.A+w}
def Us.may(u:Us):Bool:=u.ended&&decide (u.due=0)&&decide (u.at_=0)
def iD(S:List UInt8)(a:Nat)(s:Is):Ix:=if a=1 then(match fD s.u.aS with
 | .error e=> .stop e
 | .ok t=> .go (s.mr t.length))else if a=2 then .go s.Ym else .go (s.begun S)
def sw(S:List UInt8)(Z:Nat)(s:Is):Ix:=match c8 Z s.u s.A (ar S 0 s.A)with
 | .short=> .stop 24
 | .bad e=> .stop e
 | .ok (a,b) w=>iD S a (s.took b w)
def iE(S:List UInt8)(Z:Nat)(s:Is):Ix:=if s.u.may=true∧(ar S 0 s.A).length=0 then .stop 0 else sw S Z s
def zX(g:Gt):Prop:=lT g.last g.bH∧g.sum<4294967296
section
variable {Y d n rp p Z:Nat} {h:H} {S:List UInt8} {L:Nat->Nat} {s:Is} {m:Um} {pv:Value}
end
section
variable {Y d n rp p Z:Nat} {h:H} {S:List UInt8} {L:Nat->Nat} {s:Is} {m:Um} {pv:Value}
def zY:Is:=⟨zQ,0,[],0,0⟩
end
def Rw.more(r:Rw):Nat:=r.due+(if 0<r.place then 1 else 0)
structure wU (room A:Nat) (b:Bk):Prop where
 ok:uE room A b
 iw:∀x∈b.last,x<256
 ord:∀r,b.row=some r->∀x∈r.ord,x<256
 ct:∀r,b.row=some r->b.last.length+r.more=r.z.told∧r.z.told+r.z.aR<=room
 no:b.row=none->b.last=[]
def Yn(room:Nat)(b:Bk):Prop:=b.bH<b.last.length∧b.last.length<=room∧(∀x∈b.last,x<256)∧b.sum<4294967296
theorem pK(r:Rw):(r.waits=true)↔0<r.more:=by unfold Rw.waits Rw.more;simp only[oD,decide_eq_true_eq];split<;>omega
theorem KX{b b':Bk}{r:Rw}{w u:Nat}(h:fq b r w= .ok b' u):u=w∧((b'.done=true∧b.done=false->r.cd.done=true∧r.waits=false∧b'={b with done:=true}∧b.bH<b.last.length)∧((b'=b∧(r.cd.done=true->r.waits=true))∨b'={b with done:=true})):=by
 unfold fq at h;split at h
 ·next c=>
  split at h
  ·cases h
  ·next c2=>cases h;simp only[bW,Ao]at c;exact⟨rfl,fun _=>⟨c.1,c.2,rfl,jO⟩,.inr rfl⟩
 ·next c=>
  cases h;refine⟨rfl,fun q=> ?_,.inl ⟨rfl,fun q=> ?_⟩⟩
  ·rw[q.2]at q;cases q.1
  ·simp only[bW,Ao,not_and,Bool.not_eq_false]at c;exact c q
theorem ajm{r:Rw}(e:r.waits=true)(b:r.place<r.ord.length)(d:∀x∈r.ord,x<256):(bP r).1<256∧(bP r).2.more+1=r.more∧(∀x∈(bP r).2.ord,x<256)∧(bP r).2.ord.length=r.ord.length∧(bP r).2.cd=r.cd∧(bP r).2.z=r.z∧(bP r).2.place<=r.place∧(bP r).2.due<=r.due:=by
 have f:∀i,i<r.ord.length->r.ord.getD i 0<256:=fun i h=>by rw[bw,bA h];exact d _ (dH _)
 unfold bP Rw.more;by_cases c:0<r.due
 ·rw[if_pos c];refine⟨f 0 jO, ?_,fun x a=>d x (XX jO a),zJ jO,rfl,rfl,ah _,by show r.due-1<=_;omega⟩;show r.due-1+(if 0<r.place then 1 else 0)+1=_;omega
 ·rw[if_neg c]
  have g:0<r.place:=by unfold Rw.waits at e;simp only[oD,decide_eq_true_eq]at e;omega
  refine⟨f _ b, ?_,fun x a=>d x (XX b a),zJ b,rfl,rfl,aP _,ah _⟩;show r.due+(if 0<0 then 1 else 0)+1=_;rw[if_pos g,if_neg jO]
theorem ajn{room A u:Nat}{r b:Rw}{bs:List Bool}(k:zM room A r)(f:r.waits=false)(hd:r.cd.done=false)(K:r.z.told+r.z.aR<=room)(h:iu r bs= .ok b u):
 0<u∧u<=bs.length∧zM room (A+u) b∧b.ord=r.ord∧b.due<=room∧b.more+r.z.told=b.z.told∧b.z.told+b.z.aR<=room:=by
 have I:r.more=0:=aad fun q=>by have:=(pK r).2 q;rw[f]at this;cases this
 unfold iu at h;cases e:dU r.cd bs with
 |short=>rw[e]at h;cases h
 |bad x=>rw[e]at h;cases h
 |ok v w=>
  obtain⟨sym,c⟩:=v;rw[e]at h;simp only at h;obtain⟨q1,q2,l,j⟩:=wI (k.cd hd) e
  have i:c.size=r.cd.size:=by
   rcases wO (k.cd hd) e with ⟨_,_,s,_,rfl⟩|⟨_,_,_,_,q,_⟩|⟨_,_,_,_,_,q,_⟩
   ·unfold kI;split<;>rfl
   ·exact q
   ·exact q
  split at h
  ·next hn=>
   cases h
   have N:c.done=false:=by
    rcases wO (k.cd hd) e with ⟨_,_,s,_,rfl⟩|⟨_,_,_,_,_,q⟩|⟨_,q,_⟩
    ·have:=hd;unfold kI;split<;>exact hd
    ·exact q
    ·omega
   exact⟨l,j,⟨q1,by show c.size=_;rw[i];exact k.sz,k.zn,k.zm,fun _=>k.zo hd,k.pl,k.ol,by show c.count<=A+u;have:=k.pA;omega,Ee (k.cd hd) k.bd e⟩,rfl,by have:r.due=0:=by{unfold Rw.more at I;omega};show r.due<=room;omega,by show r.more+r.z.told=r.z.told;omega,K⟩
  ·next hn=>
   cases a:cW r.z sym.toNat with
   |none=>rw[a]at h;cases h
   |some t=>
    obtain⟨z,n,p⟩:=t;rw[a]at h;cases h;obtain⟨G,E,D,C,B,y,m⟩:=Ea (k.zo hd) a;obtain⟨O,L⟩:=KE (k.cd hd) e jO
    have o:n+(if 0<p then 1 else 0)+r.z.told=z.told:=by
     unfold cW at a;split at a
     ·cases a
     ·split at a
      ·split at a
       ·cases a
       ·cases a;simp
      ·split at a
       ·cases a;show r.z.aR+(if 0<0 then 1 else 0)+r.z.told=r.z.told+r.z.aR;rw[if_neg jO];omega
       ·split at a
        ·cases a
        ·cases a;show r.z.aR+(if 0<sym.toNat-1 then 1 else 0)+r.z.told=r.z.told+1+r.z.aR;rw[if_pos jO];omega
    have J:z.told+z.aR<=room:=by rw[k.zm]at m;exact m
    refine⟨l,j,⟨q1,by show c.size=_;rw[i];exact k.sz,E.trans k.zn,D.trans k.zm,fun g=>G ?_,by show p<r.ord.length;rw[<-k.zn];exact C,k.ol,by show c.count<=A+u;have:=k.pA;omega,Ee (k.cd hd) k.bd e⟩,rfl,by show n<=room;rw[<-k.zm];exact y,o,J⟩;have d:c.done=false:=g;rw[B,decide_eq_false_iff_not];rw[L,decide_eq_false_iff_not]at d;have:=k.sz;have:=k.zn;omega
theorem Yo{room A u:Nat}{b b':Bk}{bs:List Bool}(k:wU room A b)(i:room<=1099511627776)(h:db room b bs= .ok b' u):u<=bs.length∧(b'.done=false->wU room (A+u) b')∧(b'.done=true->Yn room b'):=by
 have m:=k.ok.nd;unfold db at h;split at h
 ·next h0=>
  split at h
  ·cases h
  ·next h1=>
   split at h
   ·cases h
   ·cases h;have rn:=k.ok.hd h0;have y:=k.no rn;refine⟨jO,fun _=>⟨⟨m,fun q=>(by cases q),fun r a=> ?_,by show b.last.length<=room;exact k.ok.ll, ?_⟩,k.iw,fun r a=> ?_,fun r a=> ?_,fun _=>y⟩,fun q=> ?_⟩
    ·have:b.row=some r:=a;rw[rn]at this;cases this
    ·have q:=J9 (bs.take 32) 0 0 jD;have q2:(bs.take 32).length=32:=by rw[cO];omega
     rw[q2]at q;exact q
    ·have:b.row=some r:=a;rw[rn]at this;cases this
    ·have:b.row=some r:=a;rw[rn]at this;cases this
    ·have:b.done=true:=q;rw[m]at this;cases this
 ·next h0=>
  split at h
  ·next rn=>
   have y:=k.no rn;cases e:fo bs with
   |short=>rw[e]at h;cases h
   |bad x=>rw[e]at h;cases h
   |ok s w=>
    rw[e]at h;cases h;obtain⟨v,I,G,t⟩:=uB e;have E:=v.len;have D:1<=s.length:=List.length_pos_iff.2 I;have j:∀r,some (mR s room)=some r->r=mR s room:=fun r a=>(uS a).symm;refine⟨t,fun _=>⟨⟨m,fun q=>absurd q h0,fun r a=> ?_,k.ok.ll,k.ok.sm⟩,k.iw,fun r a=> ?_,fun r a=> ?_,fun q=>(by cases q)⟩,fun q=> ?_⟩
    ·rw[j r a];refine⟨⟨fun _=>DZ jO jO,rfl,rfl,rfl,fun _=>D' D E i,D,E,aP _,⟨by show(0:Nat)<32768;decide,sj,aP _,by show s.length+2<=258;omega⟩⟩,fun q=> ?_,aP _⟩;cases q
    ·rw[j r a];exact v.lt
    ·rw[j r a];show b.last.length+0=0∧0+0<=room;rw[y];exact⟨rfl,aP _⟩
    ·have:b.done=true:=q;rw[m]at this;cases this
  ·next r a=>
   obtain⟨f,Q,k3⟩:=k.ok.row r a;obtain⟨t1,C⟩:=k.ct r a;have J:=k.ord r a
   have fin:∀(last:List Nat) (d:Rw) (w:Nat),(∀x∈last,x<256)->(∀x∈d.ord,x<256)->zM room (A+w) d->d.due<=room->last.length+d.more=d.z.told->d.z.told+d.z.aR<=room->fq {b with last:=last,row:=some d} d w= .ok b' u->(b'.done=false->wU room (A+u) b')∧(b'.done=true->Yn room b'):=by
    intro last d w f1 f2 f3 f4 Y X W;obtain⟨rfl,U,T⟩:=KX W;have K:last.length<=room:=jO;refine⟨fun q=> ?_,fun q=> ?_⟩
    ·rcases T with ⟨rfl,B⟩|rfl
     ·have j:∀g,some d=some g->g=d:=fun g l=>(uS l).symm;refine⟨⟨m,fun q=>absurd q h0,fun g l=> ?_,K,k.ok.sm⟩,f1,fun g l=> ?_,fun g l=> ?_,fun q=>(by cases q)⟩
      ·rw[j g l];exact⟨f3,B,f4⟩
      ·rw[j g l];exact f2
      ·rw[j g l];exact⟨Y,X⟩
     ·cases q
    ·obtain⟨_,_,rfl,B⟩:=U ⟨q,m⟩;exact⟨B,K,f1,k.ok.sm⟩
   split at h
   ·next hw=>
    obtain⟨P,n2,O,p,o,n,n7,n8⟩:=ajm hw f.pl J;have u0:u=0:=(KX h).1;refine⟨jO, ?_⟩;refine fin _ _ 0 (fun x R=> ?_) O ⟨by rw[o];exact f.cd,by rw[o,p];exact f.sz,by rw[n,p];exact f.zn,by rw[n];exact f.zm,by rw[o,n];exact f.zo,by rw[p];have:=f.pl;omega,by rw[p];exact f.ol,by rw[o];exact f.pA,by rw[o];exact f.bd⟩ jO (by rw[n,bE];simp only[cK,hC];omega) (by rw[n];exact C) h;rcases List.mem_append.1 R with q|q
    ·exact k.iw x q
    ·rw[List.mem_singleton.1 q];exact P
   ·next hw=>
    have z:r.waits=false:=by simpa using hw
    have hd:r.cd.done=false:=by
     cases c:r.cd.done with
     |false=>rfl
     |true=>exact absurd (Q c) hw
    cases e:iu r bs with
    |short=>rw[e]at h;cases h
    |bad x=>rw[e]at h;cases h
    |ok d w=>rw[e]at h;obtain⟨v,I,G,t,N,s6,L⟩:=ajn f z hd C e;have Z:u=w:=(KX h).1;have m0:r.more=0:=aad fun q=>hw ((pK r).2 q);refine⟨jO, ?_⟩;exact fin b.last d w k.iw (by rw[t];exact J) G N jO L h
def mU(b:Bk):Gt:=⟨b.last,b.bH,b.sum⟩
inductive fb (room:Nat):Nat->Bk->List Bool->St Gt->Prop
 |short {b:Bk} {bs:List Bool} (h:db room b bs= .short):fb room 1 b bs .short
 |bad {b:Bk} {bs:List Bool} {e:Int} (h:db room b bs= .bad e):fb room 1 b bs (.bad e)
 |done {b b':Bk} {bs:List Bool} {u:Nat} (h:db room b bs= .ok b' u) (q:b'.done=true):fb room 1 b bs (.ok (mU b') u)
 |more {k:Nat} {b b':Bk} {bs:List Bool} {u:Nat} {x:St Gt} (h:db room b bs= .ok b' u) (q:b'.done=false) (r:fb room k b' (bs.drop u) x):fb room (k+1) b bs (x.add u)
theorem St.kW{b:Type}(x:St b):x.add 0=x:=by
 cases x with
 |short=>rfl
 |bad e=>rfl
 |ok a u=>show St.ok a (0+u)=_;rw[fy]
def gW(p:Nat):List Nat:=if 0<p then [p]else []
def Rw.gX(r:Rw):List Nat:=bQ r.due 0++gW r.place
theorem uJ(r:Rw):r.gX.length=r.more:=by unfold Rw.gX Rw.more gW;rw[bE,jX];split<;>rfl
theorem Eo{r:Rw}(a:r.waits=true):∃q,r.gX=q::(bP r).2.gX∧(bP r).1=r.ord.getD q 0∧(bP r).2.ord=c6 0 r.ord q∧(bP r).2.cd=r.cd∧(bP r).2.z=r.z:=by
 unfold bP;by_cases c:0<r.due
 ·rw[if_pos c];refine⟨0, ?_,rfl,rfl,rfl,rfl⟩;unfold Rw.gX;show bQ r.due 0++gW r.place=0::(bQ (r.due-1) 0++gW r.place);obtain⟨d,hd⟩:∃d,r.due=d+1:=⟨r.due-1,jO⟩;rw[hd,Nat.add_sub_cancel,List.replicate_succ];rfl
 ·rw[if_neg c]
  have b:0<r.place:=by unfold Rw.waits at a;simp only[oD,decide_eq_true_eq]at a;omega
  refine⟨r.place, ?_,rfl,rfl,rfl,rfl⟩;unfold Rw.gX gW;have hd:r.due=0:=jO;show bQ r.due 0++(if 0<r.place then [r.place]else [])=r.place::(bQ r.due 0++(if 0<0 then [0]else []));rw[hd,if_pos b,if_neg jO];rfl
def Rw.calm(r:Rw):Rw:={r with ord:=(b9 r.ord r.gX).2,due:=0,place:=0}
def Bk.told(b:Bk)(r:Rw):Bk:={b with last:=b.last++(b9 r.ord r.gX).1,row:=some r.calm}
theorem KY{r:Rw}(h:r.more=0):r.gX=[]∧r.calm=r:=by
 have b:r.gX=[]:=List.length_eq_zero_iff.1 (by rw[uJ,h]);refine⟨b, ?_⟩;unfold Rw.calm;rw[b]
 have d:r.due=0∧r.place=0:=by unfold Rw.more at h;split at h<;>omega
 obtain⟨e,z,c,due,a⟩:=r;obtain⟨rfl,rfl⟩:=d;rfl
theorem KZ{room:Nat}{b:Bk}{bs:List Bool}{r:Rw}(h1:b.head=true)(h2:b.row=some r)(a:r.waits=true):db room b bs=fq {b with last:=b.last++[(bP r).1],row:=some (bP r).2} (bP r).2 0:=by unfold db;rw[h1,if_neg jD,h2];exact if_pos a
theorem ajo{b:Bk}{r:Rw}(a:r.waits=true):({b with last:=b.last++[(bP r).1],row:=some (bP r).2}:Bk).told (bP r).2=b.told r:=by
 obtain⟨q,h,g,f,e,d⟩:=Eo a
 have c:b9 r.ord r.gX=((bP r).1::(b9 (bP r).2.ord (bP r).2.gX).1,(b9 (bP r).2.ord (bP r).2.gX).2):=by rw[h,g,f];rfl
 unfold Bk.told Rw.calm;rw[c];simp only[dY,Fi];rw[e,d]
theorem ajp{room k:Nat}{a:St Gt}{bs:List Bool}:∀(m:Nat) (r:Rw) (b:Bk),r.more=m->b.head=true->b.row=some r->b.done=false->r.cd.done=false->fb room k (b.told r) bs a->fb room (k+m) b bs a:=by
 intro m
 induction m with
 |zero=>
  intro r b j g f e hd x;obtain⟨h,n⟩:=KY j
  have:b.told r=b:=by unfold Bk.told;rw[n,h,<-f];show{b with last:=b.last++[]}=b;rw[bR]
  rw[this]at x;exact x
 |succ m o=>
  intro r b j g f e hd x;have c:=(pK r).2 jO;obtain⟨q,h,n,t,l,s⟩:=Eo c
  have d:(bP r).2.more=m:=by have:=congrArg sN h;rw[cK,uJ,uJ]at this;omega
  have i:=KZ (room:=room) (bs:=bs) g f c
  have p:fq {b with last:=b.last++[(bP r).1],row:=some (bP r).2} (bP r).2 0= .ok {b with last:=b.last++[(bP r).1],row:=some (bP r).2} 0:=by unfold fq;rw[l,hd];rfl
  rw[p]at i;have y:=o (bP r).2 {b with last:=b.last++[(bP r).1],row:=some (bP r).2} d g rfl e (by rw[l];exact hd) (by rw[ajo c];exact x);have z:=fb.more i e y;rw[St.kW]at z;exact z
def Ep(b:Bk)(last:List Nat)(u:Nat):St Gt:=if last.length<=b.bH then .bad 23 else .ok ⟨last,b.bH,b.sum⟩ u
theorem ajq{room:Nat}{bs:List Bool}:∀(m:Nat) (r:Rw) (b:Bk),r.more=m+1->b.head=true->b.row=some r->b.done=false->r.cd.done=true->fb room (m+1) b bs (Ep b (b.last++(b9 r.ord r.gX).1) 0):=by
 intro m
 induction m with
 |zero=>
  intro r b s h k j hd;have f:=(pK r).2 jO;obtain⟨q,g,n,o,i,u⟩:=Eo f
  have e:(bP r).2.more=0:=by have:=congrArg sN g;rw[cK,uJ,uJ]at this;omega
  have d:=KZ (room:=room) (bs:=bs) h k f
  have a:(bP r).2.waits=false:=by
   cases c:(bP r).2.waits with
   |false=>rfl
   |true=>have:=(pK _).1 c;omega
  have l:b.last++(b9 r.ord r.gX).1=b.last++[(bP r).1]:=by rw[g,(KY e).1,n];rfl
  rw[l];unfold fq at d;rw[a,i,hd]at d;unfold Ep;by_cases c:(b.last++[(bP r).1]).length<=b.bH
  ·rw[if_pos c];refine fb.bad ?_;rw[d];exact(if_pos (show(true&& !false)=true from rfl)).trans (if_pos c)
  ·rw[if_neg c];refine fb.done (b':={b with last:=b.last++[(bP r).1],row:=some (bP r).2,done:=true}) ?_ rfl;rw[d];exact(if_pos (show(true&& !false)=true from rfl)).trans (if_neg c)
 |succ m p=>
  intro r b s h k j hd;have f:=(pK r).2 jO;obtain⟨q,g,n,o,i,u⟩:=Eo f
  have e:(bP r).2.more=m+1:=by have:=congrArg sN g;rw[cK,uJ,uJ]at this;omega
  have d:=KZ (room:=room) (bs:=bs) h k f;have a:=(pK (bP r).2).2 jO
  have t:fq {b with last:=b.last++[(bP r).1],row:=some (bP r).2} (bP r).2 0= .ok {b with last:=b.last++[(bP r).1],row:=some (bP r).2} 0:=by unfold fq;rw[a,i,hd];rfl
  rw[t]at d;have y:=p (bP r).2 {b with last:=b.last++[(bP r).1],row:=some (bP r).2} e h rfl j (by rw[i];exact hd);have z:=fb.more d j y;rw[St.kW]at z
  have l:b.last++(b9 r.ord r.gX).1=(b.last++[(bP r).1])++(b9 (bP r).2.ord (bP r).2.gX).1:=by rw[g,dY,n,o];rfl
  rw[l];exact z
def dh:Zr->List Nat->Option (Zr×List Nat)
 |z,[]=>some (z,[])
 |z,c::l=>match cW z c with
  |none=>none
  |some (b,n,p)=>match dh b l with
   |none=>none
   |some (a,d)=>some (a,(bQ n 0++gW p)++d)
theorem Er:∀(l:List Nat) (z b:Zr) (d:List Nat) (c:Nat),dh z l=some (b,d)->dh z (l++[c])=(match cW b c with
 |none=>none
 |some (a,n,p)=>some (a,d++(bQ n 0++gW p)))
 |[],z,b,d,c,h=>by
  cases h
  show(match cW z c with
   |none=>none
   |some (a,n,p)=>some (a,(bQ n 0++gW p)++[]))=_
  cases cW z c with
  |none=>rfl
  |some t=>obtain⟨a,n,p⟩:=t;show some (a,(bQ n 0++gW p)++[])=some (a,[]++(bQ n 0++gW p));rw[bR,kQ]
 |x::l,z,b,d,c,h=>by
  unfold dh at h
  show(match cW z x with
   |none=>none
   |some (a,n,p)=>match dh a (l++[c])with
    |none=>none
    |some (i,f)=>some (i,(bQ n 0++gW p)++f))=_
  cases e:cW z x with
  |none=>rw[e]at h;cases h
  |some t=>
   obtain⟨a,n,p⟩:=t;rw[e]at h;simp only at h⊢;cases g:dh a l with
   |none=>rw[g]at h;cases h
   |some k=>
    obtain⟨i,f⟩:=k;rw[g]at h;cases h;rw[Er l a b f c g];cases cW b c with
    |none=>rfl
    |some j=>obtain⟨m,q,o⟩:=j;simp only[dY]
def ej(l:List Int):List Nat:=l.map Int.toNat
def iQ(n room:Nat):Ck:=fun out sym=>if(dh (ew n room) (ej (out++[sym]))).isSome=true then none else some 25
def mv(s:List Nat)(room b c:Nat):Rs->St Gt
 | .err e=>if e=3 then .short else .bad e
 | .ok out a=>match dh (ew s.length room) (ej out)with
   |none=> .bad 25
   |some (_,d)=>if(b9 s d).1.length<=b then .bad 23 else .ok (Gt.mk (b9 s d).1 b c) a
theorem Yp(s:List Nat)(room c d a:Nat)(r:Rs):mv s room c d (r.add a)=(mv s room c d r).add a:=by
 cases r with
 |err e=>show(if e=3 then St.short else .bad e)=St.add a (if e=3 then St.short else .bad e);split<;>rfl
 |ok out b=>
  show(match dh (ew s.length room) (ej out)with
   |none=>St.bad 25
   |some (_,f)=>if(b9 s f).1.length<=c then .bad 23 else .ok (Gt.mk (b9 s f).1 c d) (a+b))=St.add a (match dh (ew s.length room) (ej out)with
   |none=>St.bad 25
   |some (_,f)=>if(b9 s f).1.length<=c then .bad 23 else .ok (Gt.mk (b9 s f).1 c d) b)
  cases dh (ew s.length room) (ej out)with
  |none=>rfl
  |some t=>obtain⟨z,f⟩:=t;show(if(b9 s f).1.length<=c then St.bad 23 else .ok (Gt.mk (b9 s f).1 c d) (a+b))=St.add a (if(b9 s f).1.length<=c then St.bad 23 else .ok (Gt.mk (b9 s f).1 c d) b);split<;>rfl
theorem K0{z a:Zr}{c n p:Nat}(h:cW z c=some (a,n,p)):n+(if 0<p then 1 else 0)+z.told=a.told:=by
 unfold cW at h;split at h
 ·cases h
 ·split at h
  ·split at h
   ·cases h
   ·cases h;simp
  ·split at h
   ·cases h;show z.aR+(if 0<0 then 1 else 0)+z.told=z.told+z.aR;rw[if_neg jO];omega
   ·split at h
    ·cases h
    ·cases h;show z.aR+(if 0<c-1 then 1 else 0)+z.told=z.told+1+z.aR;rw[if_pos jO];omega
section
variable {s:List Nat} {room:Nat}
theorem ajr:∀(N:Nat) (c:Cd) (bs:List Bool) (out:List Int) (z:Zr) (ps:List Nat) (b:Bk),bs.length<N->gU c->c.size=s.length+2->dh (ew s.length room) (ej out)=some (z,ps)->z.Ok->z.n=s.length->z.most=room->
 b.head=true->b.row=some ⟨c,z,(b9 s ps).2,0,0⟩->b.last=(b9 s ps).1->b.done=false->
 ∃k,k<=bs.length+1+(room-z.told)∧fb room k b bs (mv s room b.bH b.sum (dr N c bs (iQ s.length room) out 0)):=by
 intro N
 induction N with
 |zero=>intro c bs out z ps b hN;omega
 |succ N ih=>
  intro c bs out z ps b hN o A hz Y Z E D h2 h3 v
  have g:db room b bs=match iu ⟨c,z,(b9 s ps).2,0,0⟩ bs with
   | .short=> .short
   | .bad e=> .bad e
   | .ok a u=>fq {b with row:=some a} a u:=by
   unfold db;rw[D,if_neg jD,h2];rfl
  have hG:dr (N+1) c bs (iQ s.length room) out 0=match dU c bs with
   | .short=> .err 3
   | .bad e=> .err e
   | .ok (sym,d) u=>if sym=-1 then dr N d (bs.drop u) (iQ s.length room) out (0+u)else match iQ s.length room out sym with
     |some e=> .err e
     |none=>dr N d (bs.drop u) (iQ s.length room) (out++[sym]) (0+u):=by
   show(if c.done=true then _ else _)=_;rw[o.dn];rfl
  rw[hG];unfold iu at g;cases e:dU c bs with
  |short=>rw[e]at g;exact⟨1,jO,fb.short g⟩
  |bad x=>rw[e]at g;refine⟨1,jO, ?_⟩;show fb room 1 b bs (if x=3 then .short else .bad x);rw[if_neg (by have:=DY e;omega)];exact fb.bad g
  |ok sc u=>
   obtain⟨sym,d⟩:=sc;rw[e]at g;simp only at g⊢;obtain⟨q1,q2,q3,q4⟩:=wI o e
   have qs:d.size=c.size:=by
    rcases wO o e with ⟨_,_,s1,_,rfl⟩|⟨_,_,_,_,q,_⟩|⟨_,_,_,_,_,q,_⟩
    ·unfold kI;split<;>rfl
    ·exact q
    ·exact q
   have U:(bs.drop u).length<N:=by rw[bC];omega
   by_cases J:sym=-1
   ·have dn:d.done=false:=by
     rcases wO o e with ⟨_,_,s1,_,rfl⟩|⟨_,_,_,_,_,q⟩|⟨_,q,_⟩
     ·have:=o.dn;unfold kI;split<;>exact o.dn
     ·exact q
     ·omega
    rw[if_pos (by omega:sym<0)]at g;rw[if_pos J];obtain⟨k,W,P⟩:=ih d (bs.drop u) out z ps {b with row:=some ⟨d,z,(b9 s ps).2,0,0⟩} U (q1 dn) (by rw[qs];exact A) hz Y Z E D rfl h3 v
    have C:db room b bs= .ok {b with row:=some ⟨d,z,(b9 s ps).2,0,0⟩} u:=by rw[g];unfold fq;show(if(d.done&& !false)=true then _ else _)=_;rw[dn];rfl
    rw[fy,show dr N d (bs.drop u) (iQ s.length room) out u=(dr N d (bs.drop u) (iQ s.length room) out 0).add u from D6 N d (bs.drop u) _ out u 0,Yp];rw[bC]at W;exact⟨k+1,jO,fb.more C v P⟩
   ·have h0:0<=sym:=by
     rcases wO o e with ⟨_,q,_⟩|⟨_,q,_⟩|⟨_,q,_⟩
     ·exact absurd q J
     ·exact absurd q J
     ·exact q
    rw[if_neg (by omega:¬sym<0)]at g;rw[if_neg J];have f:=Er (ej out) (ew s.length room) z ps sym.toNat hz;have en:ej (out++[sym])=ej out++[sym.toNat]:=by unfold ej;rw[pT];rfl
    rw[<-en]at f;cases K:cW z sym.toNat with
    |none=>
     rw[K]at g f
     have ck:iQ s.length room out sym=some 25:=by unfold iQ;rw[f];rfl
     rw[ck];exact⟨1,jO,fb.bad g⟩
    |some t=>
     obtain⟨G,n,p⟩:=t;rw[K]at g f;simp only at g f
     have ck:iQ s.length room out sym=none:=by unfold iQ;rw[f];rfl
     rw[ck];obtain⟨p1,p2,p3,p4,p5,p6,p7⟩:=Ea Y K;obtain⟨c1,c2⟩:=KE o e h0;have pt:=K0 K;obtain⟨a,i⟩:∃a:Rw,a=⟨d,G,(b9 s ps).2,n,p⟩:=⟨_,rfl⟩;have h:db room b bs=fq {b with row:=some a} a u:=by rw[g,i]
     have Q:a.gX=bQ n 0++gW p:=by rw[i];rfl
     have u0:a.more+z.told=G.told:=by rw[i];exact pt
     have B:=KD ps a.gX s;rw[<-Q]at f;have r:a.ord=(b9 s ps).2:=by rw[i]
     have l:b.last++(b9 a.ord a.gX).1=(b9 s (ps++a.gX)).1:=by rw[B,h3,r]
     rw[fy,show dr N d (bs.drop u) (iQ s.length room) (out++[sym]) u=(dr N d (bs.drop u) (iQ s.length room) (out++[sym]) 0).add u from D6 N d (bs.drop u) _ (out++[sym]) u 0,Yp];have j:a.cd=d:=by rw[i]
     rw[bC]at U;cases hd:d.done with
     |true=>
      have hf:mv s room b.bH b.sum (dr N d (bs.drop u) (iQ s.length room) (out++[sym]) 0)=Ep b (b.last++(b9 a.ord a.gX).1) 0:=by
       obtain⟨X,rfl⟩:∃X,N=X+1:=⟨N-1,jO⟩
       have:dr (X+1) d (bs.drop u) (iQ s.length room) (out++[sym]) 0= .ok (out++[sym]) 0:=by show(if d.done=true then _ else _)=_;rw[hd];rfl
       rw[this,l]
       show(match dh (ew s.length room) (ej (out++[sym]))with
        |none=>St.bad 25
        |some (_,ps)=>if(b9 s ps).1.length<=b.bH then .bad 23 else .ok (Gt.mk (b9 s ps).1 b.bH b.sum) 0)=_
       rw[f];rfl
      rw[hf];by_cases I:a.waits=true
      ·have C:db room b bs= .ok {b with row:=some a} u:=by rw[h];unfold fq;rw[I,j,hd];rfl
       have hp:=(pK a).1 I;obtain⟨m,R⟩:∃m,a.more=m+1:=⟨a.more-1,jO⟩;have y:=ajq (room:=room) (bs:=bs.drop u) m a {b with row:=some a} R D rfl v (by rw[j];exact hd);exact⟨m+1+1,by have:=p7;rw[E]at this;omega,fb.more C v y⟩
      ·have O:a.waits=false:=by simpa using I
       have T:a.more=0:=aad fun q=>I ((pK a).2 q)
       have e0:b.last++(b9 a.ord a.gX).1=b.last:=by rw[(KY T).1];exact bR _
       rw[e0];refine⟨1,jO, ?_⟩;unfold fq at h;rw[O,j,hd]at h;unfold Ep;by_cases L:b.last.length<=b.bH
       ·rw[if_pos L];refine fb.bad ?_;rw[h];exact(if_pos (show(true&& !false)=true from rfl)).trans (if_pos L)
       ·rw[if_neg L];refine fb.done (b':={b with row:=some a,done:=true}) ?_ rfl;rw[h];exact(if_pos (show(true&& !false)=true from rfl)).trans (if_neg L)
     |false=>
      have C:db room b bs= .ok {b with row:=some a} u:=by rw[h];unfold fq;rw[j,hd];rfl
      have zd:G.done=false:=by rw[p5,decide_eq_false_iff_not];rw[hd]at c2;have:=decide_eq_false_iff_not.1 c2.symm;omega
      obtain⟨k,W,P⟩:=ih d (bs.drop u) (out++[sym]) G (ps++a.gX) (({b with row:=some a}:Bk).told a) (by rw[bC];exact U) (q1 hd) (by rw[qs];exact A) f (p1 zd) (p2.trans Z) (p3.trans E) D (by
       show some a.calm=_;unfold Rw.calm
       rw[B,r,i]) l v
      have y:=ajp (room:=room) (bs:=bs.drop u) a.more a {b with row:=some a} rfl D rfl v (by rw[j];exact hd) P;rw[bC]at W;exact⟨k+a.more+1,by have:=p7;rw[E]at this;omega,fb.more C v y⟩
end
def lr(room:Nat)(bs:List Bool):St Gt:=
 if bs.length<57 then .short else if bs.getD 32 false=true then .bad 25 else match fo (bs.drop 57)with
 | .short=> .short
 | .bad e=> .bad e
 | .ok s u=>(mv s room (num ((bs.drop 33).take 24) 0) (num (bs.take 32) 0) (ir (s.length+2) (bs.drop (57+u)) (iQ s.length room))).add (57+u)
theorem ajs(room:Nat)(h:room<=1099511627776)(bs:List Bool):∃k,k<=bs.length+3+room∧fb room k jb bs (lr room bs):=by
 have f:db room jb bs=if bs.length<57 then .short else if bs.getD 32 false=true then .bad 25 else .ok {jb with head:=true,sum:=num (bs.take 32) 0,bH:=num ((bs.drop 33).take 24) 0} 57:=rfl
 unfold lr;by_cases m:bs.length<57
 ·rw[if_pos m]at f⊢;exact⟨1,jO,fb.short f⟩
 rw[if_neg m]at f⊢;by_cases l:bs.getD 32 false=true
 ·rw[if_pos l]at f⊢;exact⟨1,jO,fb.bad f⟩
 rw[if_neg l]at f⊢;obtain⟨d,b⟩:∃d:Bk,d={jb with head:=true,sum:=num (bs.take 32) 0,bH:=num ((bs.drop 33).take 24) 0}:=⟨_,rfl⟩;rw[<-b]at f
 have c:db room d (bs.drop 57)=match fo (bs.drop 57)with
  | .short=> .short
  | .bad e=> .bad e
  | .ok s u=> .ok {d with row:=some (mR s room)} u:=by rw[b];rfl
 have g:d.done=false:=by rw[b];rfl
 cases e:fo (bs.drop 57)with
 |short=>rw[e]at c;exact⟨2,jO,fb.more f g (fb.short c)⟩
 |bad x=>rw[e]at c;exact⟨2,jO,fb.more f g (fb.bad c)⟩
 |ok s u=>
  rw[e]at c;obtain⟨r,q,B,p⟩:=uB e;have o:=r.len;have n:1<=s.length:=List.length_pos_iff.2 q;obtain⟨k,t,j⟩:=ajr (s:=s) (room:=room) ((bs.drop (57+u)).length+1) (mQ (s.length+2)) (bs.drop (57+u)) [] (ew s.length room) [] {d with row:=some (mR s room)} (dO _) (DZ jO jO) rfl rfl (D' n o h) rfl rfl (by rw[b]) rfl (by rw[b];rfl) (by rw[b];rfl);rw[ahV jO jO]at j;have i:=fb.more f g (fb.more c (by exact g) (by rw[jf];exact j))
  have A:∀(x:St Gt),(x.add u).add 57=x.add (57+u):=fun x=>by
   cases x with
   |short=>rfl
   |bad e=>rfl
   |ok a v=>show St.ok a (57+(u+v))=St.ok a (57+u+v);rw[Nat.add_assoc]
  rw[A]at i;have z:d.bH=num ((bs.drop 33).take 24) 0:=by rw[b]
  have y:d.sum=num (bs.take 32) 0:=by rw[b]
  rw[show({d with row:=some (mR s room)}:Bk).bH=d.bH from rfl,show({d with row:=some (mR s room)}:Bk).sum=d.sum from rfl,z,y]at i;rw[bC]at t p;exact⟨k+1+1,by show k+1+1<=_;have:(ew s.length room).told=0:=rfl;omega,i⟩
structure uK (Z A:Nat) (u:Us):Prop where
 ok:mT Z A u
 bk:∀b,u.bc=some b->wU (u.level*Z) A b
structure jR (S:List UInt8) (Z:Nat) (s:Is):Prop where
 us:uK Z s.A s.u
 tot:s.total<4294967296
 nx:s.next<=s.A
 np:s.ps.length<=s.next
 K1:2<=s.u.due->s.next+48<=s.A
 hi:s.A<=8*S.length
theorem K2{t b:Nat}(h1:t<4294967296)(h2:b<4294967296):ft t b<4294967296:=by unfold ft;have e:(4294967296:Nat)=2^32:=rfl;rw[e]at*;refine LY (LY (jt _ jD) ?_) h2;exact Nat.lt_of_le_of_lt (Nat.div_le_self _ _) h1
theorem Yq{lv Z:Nat}(h1:lv<=9)(h2:Z<=100000):lv*Z<=900000:=Nat.le_trans (Nat.mul_le_mul h1 h2) jD
theorem Yr(room A:Nat):wU room A jb:=⟨⟨rfl,fun _=>rfl,fun r a=>(by cases a),aP _,jD⟩,fun x b=>(by cases b),fun r a=>(by cases a),fun r a=>(by cases a),fun _=>rfl⟩
theorem Ys(A:Nat):dc A<=7∧(A+dc A)%8=0:=by unfold dc;omega
theorem wV{Z A w g:Nat}{u c:Us}{bs:List Bool}(k:uK Z A u)(h:c8 Z u A bs= .ok (g,c) w)(y:(A+bs.length)%8=0):w<=bs.length∧uK Z (A+w) c∧(g=1->zX c.aS∧u.due=2∧c.due=1)∧(g=2->u.due=3∧c.due=0∧32<=w)∧(c.due=2∨c.due=3->(u.due=1∧48<=w)∨u.due=2):=by
 obtain⟨ok,r⟩:=k;unfold c8 at h;split at h
 ·next d0=>
  have bn:=ok.b0 jO;unfold pF at h;split at h
  ·cases h
  ·next hl=>
   split at h
   ·next ha=>
    split at h
    ·cases h;refine⟨jO,⟨⟨by show u.at_+1<=3;omega,ok.due,fun q=>absurd d0 q,ok.pH,fun q=> ?_,fun _=>bn,ok.tot,ok.u1,ok.u2⟩,fun b a=> ?_⟩,fun q=>(by cases q),fun q=>(by cases q),fun q=> ?_⟩
     ·have:u.due=2:=q;omega
     ·have:u.bc=some b:=a;rw[bn]at this;cases this
     ·have:u.due=2∨u.due=3:=q;omega
    ·cases h
   ·next ha=>
    split at h
    ·cases h
    ·next hr=>
     cases h;refine⟨jO,⟨⟨aP _,by show 1<=3;decide,fun _=>by show 1<=num (bs.take 8) 0-48∧num (bs.take 8) 0-48<=9;omega,by show num (bs.take 8) 0-48<=9;omega,fun q=>(by cases q),fun _=>bn,by show 0<4294967296;decide,ok.u1,ok.u2⟩,fun b a=> ?_⟩,fun q=>(by cases q),fun q=>(by cases q),fun q=> ?_⟩
     ·have:u.bc=some b:=a;rw[bn]at this;cases this
     ·rcases q with q|q<;>cases q
 ·next d0=>
  split at h
  ·next d1=>
   have bn:=ok.b0 jO;have lv:=ok.lv jO;unfold qB at h;split at h
   ·cases h
   ·next hl=>
    split at h
    ·cases h;refine⟨jO,⟨⟨ok.at_,by show 2<=3;decide,fun _=>lv,ok.pH,fun _=>⟨jb,rfl,(Yr _ _).ok⟩,fun q=>absurd rfl q,ok.tot,ok.u1,ok.u2⟩,fun b a=> ?_⟩,fun q=>(by cases q),fun q=>(by cases q),fun _=> .inl ⟨d1,ah _⟩⟩;have:some jb=some b:=a;cases this;exact Yr _ _
    ·split at h
     ·cases h;refine⟨jO,⟨⟨ok.at_,by show 3<=3;decide,fun _=>lv,ok.pH,fun q=>(by cases q),fun _=>bn,ok.tot,ok.u1,ok.u2⟩,fun b a=> ?_⟩,fun q=>(by cases q),fun q=>(by cases q),fun _=> .inl ⟨d1,ah _⟩⟩;have:u.bc=some b:=a;rw[bn]at this;cases this
     ·cases h
  ·next d1=>
   split at h
   ·next d2=>
    have lv:=ok.lv jO;have t:=Yq lv.2 ok.u2;unfold pG at h;split at h
    ·cases h
    ·next b a=>
     have m:=r b a;cases e:db (u.level*Z) b bs with
     |short=>rw[e]at h;cases h
     |bad x=>rw[e]at h;cases h
     |ok f s=>
      rw[e]at h;simp only at h;obtain⟨q1,q2,l⟩:=Yo m jO e;split at h
      ·next hd=>cases h;obtain⟨o,z,n,j⟩:=l hd;refine⟨q1,⟨⟨ok.at_,by show 1<=3;decide,fun _=>lv,ok.pH,fun q=>(by cases q),fun _=>rfl,K2 ok.tot j,ok.u1,ok.u2⟩,fun b a=>(by cases a)⟩,fun _=>⟨⟨⟨n,by show 0<f.last.length;omega,by show f.last.length<=900000;omega,o⟩,j⟩,d2,rfl⟩,fun q=>(by cases q),fun q=> ?_⟩;rcases q with q|q<;>cases q
      ·next hd=>
       cases h;have i:f.done=false:=by simpa using hd
       have d:=q2 i;refine⟨q1,⟨⟨ok.at_,ok.due,fun _=>lv,ok.pH,fun _=>⟨f,rfl,d.ok⟩,fun q=>absurd d2 q,ok.tot,ok.u1,ok.u2⟩,fun b a=> ?_⟩,fun q=>(by cases q),fun q=>(by cases q),fun _=> .inr d2⟩;have:some f=some b:=a;cases this;exact d
   ·next d2=>
    have p:u.due=3:=by have:=ok.due;omega
    have bn:=ok.b0 jO;unfold qC at h;split at h
    ·cases h
    ·next hl=>
     split at h
     ·cases h;have v:A+32+dc (A+32)<=A+bs.length:=by unfold dc;omega
      refine⟨jO,⟨⟨ok.at_,aP _,fun q=>absurd rfl q,ok.pH,fun q=>(by cases q),fun _=>bn,ok.tot,ok.u1,ok.u2⟩,fun b a=> ?_⟩,fun q=>(by cases q),fun _=>⟨p,rfl,jO⟩,fun q=> ?_⟩
      ·have:u.bc=some b:=a;rw[bn]at this;cases this
      ·rcases q with q|q<;>cases q
     ·cases h
section
variable {S:List UInt8} {Z:Nat} {s s':Is}
theorem jR.rest(k:jR S Z s):(ar S 0 s.A).length=8*S.length-s.A:=by rw[fi,sJ,Au]
theorem uL(k:jR S Z s)(h:iE S Z s= .go s'):jR S Z s':=by
 have u:=k.rest;have v:=k.hi;have m:=k.nx;have c:=k.np;unfold iE at h;split at h
 ·cases h
 ·unfold sw at h;cases e:c8 Z s.u s.A (ar S 0 s.A)with
  |short=>rw[e]at h;cases h
  |bad x=>rw[e]at h;cases h
  |ok t w=>
   obtain⟨g,b⟩:=t;rw[e]at h;obtain⟨r,a,l,j,i⟩:=wV k.us e jO;have z:=a.ok.due;have h:iD S g (s.took b w)= .go s':=h;unfold iD at h;split at h
   ·next c1=>
    obtain⟨f,p,o⟩:=l c1;have n:=k.K1 jO;split at h
    ·cases h
    ·next t _=>
     cases h;refine⟨a,K2 k.tot f.2,ah _, ?_,fun q=> ?_, ?_⟩
     ·show(s.ps++[_]).length<=s.A+w;rw[bE];show s.ps.length+1<=_;omega
     ·have:2<=b.due:=q;omega
     ·show s.A+w<=_;omega
   ·next c1=>
    split at h
    ·next c2=>
     cases h;obtain⟨f,p,o⟩:=j c2;have n:=k.K1 jO;refine⟨a,k.tot,ah _, ?_,fun q=> ?_, ?_⟩
     ·show(s.ps++[_]).length<=s.A+w;rw[bE];show s.ps.length+1<=_;omega
     ·have:2<=b.due:=q;omega
     ·show s.A+w<=_;omega
    ·next c2=>
     cases h
     have d:2<=b.due->s.next+48<=s.A+w:=fun q=>by
      rcases i jO with ⟨_,q2⟩|q2
      ·omega
      ·have:=k.K1 jO;omega
     unfold Is.begun;split
     ·next c3=>
      have y:s.A+w=s.next+32:=c3.2;refine⟨a,by show 0<4294967296;decide,ah _, ?_,fun q=> ?_, ?_⟩
      ·show(s.ps++[_]).length<=s.A+w;rw[bE];show s.ps.length+1<=_;omega
      ·have:=d q;omega
      ·show s.A+w<=_;omega
     ·exact⟨a,k.tot,by show s.next<=s.A+w;omega,c,d,by show s.A+w<=_;omega⟩
theorem Yt(h:s.fresh=false):s.begun S=s:=by unfold Is.begun;rw[if_neg (by rw[h];simp)]
def j7(u:Us)(g:Gt):Us:={u with aS:=g,bc:=none,total:=ft u.total g.sum,due:=1}
theorem Es{b:Bk}(a:s.u.due=2)(g:s.u.bc=some b):iE S Z s=match db (s.u.level*Z) b (ar S 0 s.A)with
 | .short=> .stop 24
 | .bad e=> .stop e
 | .ok b' w=>if b'.done=true then iD S 1 (s.took (j7 s.u (mU b')) w)else iD S 0 (s.took {s.u with bc:=some b'} w):=by
 unfold iE;rw[if_neg (by unfold Us.may;rw[a];simp)];unfold sw c8;rw[if_neg jO,if_neg jO,if_pos a];unfold pG;rw[g];dsimp only;cases db (s.u.level*Z) b (ar S 0 s.A)with
 |short=>rfl
 |bad e=>rfl
 |ok b' w=>
  show(match (if b'.done=true then St.ok (1,j7 s.u (mU b')) w else St.ok (0,{s.u with bc:=some b'}) w:St (Nat×Us))with
   | .short=>Ix.stop 24
   | .bad e=> .stop e
   | .ok (d,f) w=>iD S d (s.took f w))=if b'.done=true then _ else _
  by_cases c:b'.done=true
  ·rw[if_pos c,if_pos c]
  ·rw[if_neg c,if_neg c]
end
def fX(S:List UInt8)(room:Nat):Nat->Nat->Nat->List Pt×Except Int Nat
 |0,_,_=>([],.error 24)
 |N+1,a,t=>if(ar S 0 a).length<48 then([],.error 24)
  else if num ((ar S 0 a).take 48) 0=jM then(match lr room (ar S 0 (a+48))with
   | .short=>([],.error 24)
   | .bad e=>([],.error e)
   | .ok g w=>match fD g with
     | .error e=>([],.error e)
     | .ok x=>(⟨2,0,(a:Int),((a+48+w:Nat):Int),(g.sum:Int),(g.bH:Int),(g.last.length:Int),(x.length:Int)⟩::(fX S room N (a+48+w) (ft t g.sum)).1,(fX S room N (a+48+w) (ft t g.sum)).2))
  else if num ((ar S 0 a).take 48) 0=j6 then(if(ar S 0 (a+48)).length<32 then([],.error 24)
   else if num ((ar S 0 (a+48)).take 32) 0=t then([⟨3,0,(a:Int),((a+80:Nat):Int),(t:Int),0,0,0⟩],.ok (a+80))else([],.error 21))
  else([],.error 20)
structure K3 (S:List UInt8) (Z room a t:Nat) (s:Is):Prop where
 ki:jR S Z s
 due:s.u.due=1
 zZ:s.u.at_=0
 pos:s.A=a
 next:s.next=a
 ut:s.u.total=t
 st:s.total=t
 rm:s.u.level*Z=room
 fr:s.fresh=false
structure K4 (S:List UInt8) (Z a:Nat) (s:Is):Prop where
 ki:jR S Z s
 due:s.u.due=0
 zZ:s.u.at_=0
 pos:s.A=a
 next:s.next=a
 fr:s.fresh=true
theorem Yu{s:Is}{p:Pt}(h:p.what≠3){ps:List Pt}(e:s.ps=ps++[p]):s.fresh=false:=by unfold Is.fresh;rw[e,anw];exact decide_eq_false h
theorem ajt{s:Is}{p:Pt}(h:p.what=3){ps:List Pt}(e:s.ps=ps++[p]):s.fresh=true:=by unfold Is.fresh;rw[e,anw];exact decide_eq_true h
section
variable {S:List UInt8} {Z room:Nat}
theorem aju{s:Is}(d:s.u.due=1)(f:s.fresh=false):iE S Z s=if(ar S 0 s.A).length<48 then .stop 24
 else if num ((ar S 0 s.A).take 48) 0=jM then .go (s.took {s.u with bc:=some jb,due:=2} 48)
 else if num ((ar S 0 s.A).take 48) 0=j6 then .go (s.took {s.u with due:=3} 48)else .stop 20:=by
 have e:∀u w,(s.took u w).begun S=s.took u w:=fun u w=>Yt f;unfold iE;rw[if_neg (by unfold Us.may;rw[d];simp)];unfold sw c8;rw[if_neg jO,if_pos d];unfold qB;by_cases c:(ar S 0 s.A).length<48
 ·rw[if_pos c,if_pos c];rfl
 rw[if_neg c,if_neg c];by_cases b:num ((ar S 0 s.A).take 48) 0=jM
 ·rw[if_pos b,if_pos b];show iD S 0 (s.took _ 48)=_;unfold iD;rw[if_neg jD,if_neg jD,e]
 rw[if_neg b,if_neg b];by_cases a:num ((ar S 0 s.A).take 48) 0=j6
 ·rw[if_pos a,if_pos a];show iD S 0 (s.took _ 48)=_;unfold iD;rw[if_neg jD,if_neg jD,e]
 rw[if_neg a,if_neg a];rfl
theorem ajv{s:Is}(c:s.u.due=3):iE S Z s=if(ar S 0 s.A).length<32 then .stop 24
 else if num ((ar S 0 s.A).take 32) 0=s.u.total then .go (s.took {s.u with due:=0,ended:=true} (32+dc (s.A+32))).Ym else .stop 21:=by
 unfold iE;rw[if_neg (by unfold Us.may;rw[c];simp)];unfold sw c8;rw[if_neg jO,if_neg jO,if_neg jO];unfold qC;by_cases b:(ar S 0 s.A).length<32
 ·rw[if_pos b,if_pos b];rfl
 rw[if_neg b,if_neg b];by_cases a:num ((ar S 0 s.A).take 32) 0=s.u.total
 ·rw[if_pos a,if_pos a];show iD S 2 (s.took _ _)=_;unfold iD;rw[if_neg jD,if_pos rfl]
 rw[if_neg a,if_neg a];rfl
end
theorem Yv:∀(q:Nat) (S:List UInt8),(dS S).drop (8*q)=dS (S.drop q)
 |0,S=>rfl
 |q+1,[]=>by simp[dS]
 |q+1,b::s=>by have a:=Yv q s;show(b8 b.toNat 8++dS s).drop (8*(q+1))=dS (s.drop q);rw[<-a,show 8*(q+1)=(b8 b.toNat 8).length+8*q by rw[gT];omega,<-jf,List.drop_left]
theorem ajw{S:List UInt8}{q:Nat}(h:q<S.length):num ((ar S 0 (8*q)).take 8) 0=(S.getD q 0).toNat:=by unfold ar;rw[sJ,Au,Yv,qP h,bw,bA h];show num ((b8 S[q].toNat 8++dS (S.drop (q+1))).take 8) 0=S[q].toNat;rw[List.take_left' (gT _ _)];exact zv (UInt8.toNat_lt _)
def iR(S:List UInt8):Nat->Nat->Except Int Nat
 |0,a=>if(ar S 0 a).length<8 then .error 24 else if num ((ar S 0 a).take 8) 0<49∨57<num ((ar S 0 a).take 8) 0 then .error 20 else .ok (num ((ar S 0 a).take 8) 0-48)
 |m+1,a=>if(ar S 0 a).length<8 then .error 24 else if num ((ar S 0 a).take 8) 0=jL.getD (2-m) 0 then iR S m (a+8)else .error 20
def NB(S:List UInt8):Nat:=S.length/6+1
def oj(S:List UInt8)(Z:Nat):Nat->Nat->List Pt×Int
 |0,_=>([],24)
 |N+1,a=>match iR S 3 a with
  | .error e=>([],e)
  | .ok lv=>match (fX S (lv*Z) (NB S) (a+32) 0).2 with
    | .error e=>(⟨1,(lv:Int),(a:Int),((a+32:Nat):Int),0,0,0,0⟩::(fX S (lv*Z) (NB S) (a+32) 0).1,e)
    | .ok b=>if(ar S 0 (b+dc b)).length=0 then(⟨1,(lv:Int),(a:Int),((a+32:Nat):Int),0,0,0,0⟩::(fX S (lv*Z) (NB S) (a+32) 0).1,0)
      else(⟨1,(lv:Int),(a:Int),((a+32:Nat):Int),0,0,0,0⟩::(fX S (lv*Z) (NB S) (a+32) 0).1++(oj S Z N (b+dc b)).1,(oj S Z N (b+dc b)).2)
section
variable {S:List UInt8} {Z:Nat}
theorem Yw{s:Is}(e:s.u.due=0)(d:¬(s.u.may=true∧(ar S 0 s.A).length=0)):iE S Z s=if(ar S 0 s.A).length<8 then .stop 24
 else if s.u.at_<3 then(if num ((ar S 0 s.A).take 8) 0=jL.getD s.u.at_ 0 then .go ((s.took {s.u with at_:=s.u.at_+1} 8).begun S)else .stop 20)
 else if num ((ar S 0 s.A).take 8) 0<49∨57<num ((ar S 0 s.A).take 8) 0 then .stop 20 else .go ((s.took {s.u with level:=num ((ar S 0 s.A).take 8) 0-48,at_:=0,total:=0,due:=1} 8).begun S):=by
 unfold iE;rw[if_neg d];unfold sw c8;rw[if_pos e];unfold pF;by_cases c:(ar S 0 s.A).length<8
 ·rw[if_pos c,if_pos c];rfl
 rw[if_neg c,if_neg c];by_cases b:s.u.at_<3
 ·rw[if_pos b,if_pos b];by_cases a:num ((ar S 0 s.A).take 8) 0=jL.getD s.u.at_ 0
  ·rw[if_pos a,if_pos a];show iD S 0 (s.took _ 8)=_;unfold iD;rw[if_neg jD,if_neg jD]
  ·rw[if_neg a,if_neg a];rfl
 rw[if_neg b,if_neg b];by_cases a:num ((ar S 0 s.A).take 8) 0<49∨57<num ((ar S 0 s.A).take 8) 0
 ·rw[if_pos a,if_pos a];rfl
 ·rw[if_neg a,if_neg a];show iD S 0 (s.took _ 8)=_;unfold iD;rw[if_neg jD,if_neg jD]
end
section
variable {S:List UInt8} {Z:Nat}
theorem Yx{room:Nat}:∀(N a t:Nat) {b:Nat},(fX S room N a t).2= .ok b->a+80<=b:=by
 intro N
 induction N with
 |zero=>intro a t b h;cases h
 |succ N c=>
  intro a t b h;unfold fX at h;split at h
  ·cases h
  ·split at h
   ·split at h
    ·cases h
    ·cases h
    ·split at h
     ·cases h
     ·have:=c _ _ h;omega
   ·split at h
    ·split at h
     ·cases h
     ·split at h
      ·cases h;omega
      ·cases h
    ·cases h
theorem ajx(h1:24<=Z)(h2:Z<=100000):K4 S Z 0 zY:=
 ⟨⟨⟨⟨jD,jD,fun q=>absurd rfl q,jD,fun q=>(by cases q),fun _=>rfl,jD,h1,h2⟩,fun b a=>(by cases a)⟩,jD,ah _,ah _,fun q=>absurd q jD,aP _⟩,rfl,rfl,rfl,rfl,rfl⟩
end
end Go.Proofs.YtmjolmggelkjlaaGreat
namespace Go.Proofs.YtmjolmggelkjlaaGreat.Ev
open Go Go.RowKit
section
variable {β:Type} {W:Nat->Prop} {n0:Nat} {h h1:H} {n n1:Nat} {Q:β->H->Nat->Prop} {kn:List FuncId}
theorem ajy{P:Program}(hd:kD P=true){gt:Nat->Hint}{Y d:Nat}{f:FuncId}{args:Array Value}{v:Value}{L:List En}(e:o8 kn P gt Y d f args h n=some ⟨v,h1,n1,L⟩){W':Nat->Prop}(c:∀e∈L,e.wr=true->n<=e.b∨W' e.b):∀b,b<n->¬W' b->h1.get b=h.get b:=by
 obtain⟨a,m⟩:=BD hd d f args h n v h1 n1 L e;have A:=Loc.cH P kn a f args h n v h1 n1 L (m a (ah _));intro b o g;refine AD fun k=>A.frame b k ?_ jO;rintro⟨e,i,l,j,_⟩;rcases c e i l with q|q
 ·omega
 ·exact g (j▸q)
theorem ajz {P:Program} (hd:kD P=true) {gt:Nat->Hint} {Y d:Nat} {f:FuncId} {vs:List Value} {Q':Value->H->Nat->Prop} (s:af (fun _=>False) n (o8 kn P gt Y d f ⟨vs⟩) h n Q') {k:Value×Tk->M β}
 (x:∀v h1 n1 L,n<=n1->(∀b,b<n->h1.get b=h.get b)->Q' v h1 n1->RB ⟨n,n1,L⟩ n->af W n0 (k (v,⟨n,n1,L⟩)) h1 n1 Q):af W n0 ((az (ai (o8 kn P gt Y d) f vs M.ret)).bind k) h n Q:=by
 obtain⟨v,h1,n1,L,i,o,m,u⟩:=s;obtain⟨l,y⟩:=BD hd d f ⟨vs⟩ h n v h1 n1 L i;have A:=Loc.cH P kn l f ⟨vs⟩ h n v h1 n1 L (y l (ah _))
 have g:∀e∈L.filter (fun e=> !(decide (n<=e.b)&&decide (e.b<n1))),e.b<n:=fun e a=>by obtain⟨h1,t⟩:=List.mem_filter.1 a;have:=A.lt e h1;simp at t;omega
 have c:∀e∈L.filter (fun e=> !(decide (n<=e.b)&&decide (e.b<n1))),e.wr=false:=fun e a=>by
  cases p:e.wr with
  |false=>rfl
  |true=>
   rcases m e (List.mem_filter.1 a).1 p with q|q
   ·have:=g e a;omega
   ·exact q.elim
 refine mj (o9 i) o (fun e a j=> ?_) (x v h1 n1 _ o (fun b r=>ajy (W':=fun _=>False) hd i m b r id) u ⟨c,g,ah _⟩);rw[c e a]at j;cases j
end
end Go.Proofs.YtmjolmggelkjlaaGreat.Ev
namespace Go.Proofs.YtmjolmggelkjlaaGreat
open Go.RowKit Ev Ip
structure KOk (kn:List FuncId):Prop where
 dg:kn.contains 107=false
theorem ajA(a b:List Nat):bS (a++b)=bS a++bS b:=by unfold bS;rw[pT]
theorem pL(a b:List Nat)(h:a.length+b.length<=9223372036854775807)(K:Value->M Value):aq (aL a) (aL b) K=K (aL (a++b)):=by have:=vE (k:=K) (bS a) (bS b) (by unfold bS;simpa using h);rw[<-ajA]at this;exact this
section
variable {kn:List FuncId} (ko:KOk kn) (Y:Nat)
include ko
end
end Go.Proofs.YtmjolmggelkjlaaGreat
namespace Go.Proofs.YtmjolmggelkjlaaGreat
open Go.RowKit Ev Cn Ip
theorem ajB{m:Nat}(h:m %2=0):m^^^1=m+1:=by
 have d:(m^^^1)/2=m/2:=by rw[Nat.xor_div_two];simp
 have c:(m^^^1)%2=1:=by have:=Nat.xor_mod_two_pow (a:=m) (b:=1) (n:=1);rw[Nat.pow_one,h]at this;exact this
 omega
theorem K5(l:List Nat)(a:IntKind)(j:Nat)(k:Value->M Value)(h1:j<=l.length):bN (aL l) none (some (.int a (j:Int))) k=k (aL (l.take j)):=by have:=xZ (k:=k) (l.map gP) a (j:Int) jO (by rw[fQ];omega);unfold aL;rw[this,cR,LV]
theorem K6(l:List Nat)(a:IntKind)(j:Nat)(k:Value->M Value)(h1:j<=l.length):bN (aL l) (some (.int a (j:Int))) none k=k (aL (l.drop j)):=by have:=ya (k:=k) (l.map gP) a (j:Int) jO (by rw[fQ];omega);unfold aL;rw[this,cR,Fh]
theorem K7(l:List Nat)(b a:IntKind)(j:Nat)(k:Value->M Value)(h1:j<l.length):bN (aL l) (some (.int b (j:Int))) (some (.int a ((j+1:Nat):Int))) k=k (aL [l.getD j 0]):=by have:=yc (k:=k) (l.map gP) b a (j:Int) ((j+1:Nat):Int) jO jO (by rw[fQ];omega);unfold aL;rw[this,cR,cR,<-Fh,<-LV];congr 4;rw[qP h1,show j+1-j=1 by omega,List.take_succ_cons,Fa,bw,bA h1];rfl
section
variable {Y d n:Nat} {h:H}
theorem ajC(u:Int):af (fun _=>False) n (aj aa gt Y (d+1) 14 #[jI u]) h n fun c h' n'=>c= .bool (decide (24<=u∧u<=100000))∧h'=h∧n'=n:=by
 rw[aC (fun _=>ac') rfl];refine af.aB ?_;unfold PQ;by_cases a:(24:Int)<=u
 ·by_cases b:u<=100000
  ·exact jC (aI @a @b)
  ·exact jC (aI @a @b)
 ·exact jC @a
theorem ajD{a b:Nat}(q:a<4294967296)(j:b<4294967296):af (fun _=>False) n (aj aa gt Y (d+1) 78 #[.int .u32 (a:Int),.int .u32 (b:Int)]) h n fun l h' n'=>l= .int .u32 ((ft a b:Nat):Int)∧h'=h∧n'=n:=by
 rw[aC (fun _=>Qx) rfl];refine af.aB ?_;unfold Hs ft
 have g:IntKind.u32.wrap ((a:Int)*2)=((a*2^1 %4294967296:Nat):Int):=by rw[L0];omega
 have i:a*2^1 %4294967296<4294967296:=jt _ jD;have ev:a*2^1 %4294967296 %2=0:=jO;generalize p:a*2^1 %4294967296=m at g i ev⊢;by_cases c:(2147483648:Int)<=(a:Int)
 ·have e:a/2^31=1:=by have:(2:Nat)^31=2147483648:=rfl;rw[this];omega
  rw[e,ajB ev];have k:IntKind.u32.wrap ((m:Int)+1)=((m+1:Nat):Int):=by rw[L0];omega
  have o:m+1<4294967296:=jO;have f:=sk o j;exact jC (aI @g (aI @c (aI @k @f)))
 ·have e:a/2^31=0:=by have:(2:Nat)^31=2147483648:=rfl;rw[this];omega
  rw[e,Nat.xor_zero];have f:=sk i j;exact jC (aI @g (aI @c @f))
theorem Aa(l:List Bool)(t:l.length<=32)(q:100<=Y):af (fun _=>False) n (aj aa gt Y (d+1) 63 #[tx l]) h n fun o h' n'=>o= .int .u32 (num l 0:Int)∧h'=h∧n'=n:=by
 rw[aC (fun _=>Hq) rfl];refine af.aB ?_;unfold yl;refine dE l.length (fun a i (_:Unit)=>pd Y (aj aa gt Y d) a (vQ Y (aj aa gt Y d)) (tx l) (.int .u32 0) (.int .u32 (num (l.take i) 0:Int)) (jI (i:Nat))) (fun i _ h' n'=>h'=h∧n'=n) ?_ ?_ Y 0 () h n (aP _) jO ⟨rfl,rfl⟩
 ·rintro a _ h' n' ⟨rfl,rfl⟩;rw[pd];refine jA (aI @cV @eO) ?_
  (try unfold vQ);(try dsimp only)
  refine jB ?_;rw[iY]
 ·rintro a i _ h' n' c ⟨rfl,rfl⟩ next;rw[pd];have r:((i:Nat):Int)<((l.length:Nat):Int):=jO;obtain⟨b,f⟩:∃b,l.getD i false=b:=⟨_,rfl⟩;have u:=rY b;have p:=hH (l.take i)
  have s:num (l.take i) 0<2147483648:=Nat.lt_of_lt_of_le p (by
   have:2^(l.take i).length<=2^31:=pS jD (by rw[cO];omega)
   exact this)
  have m:IntKind.u8.wrap (48+(bn b:Int)-48)=(bn b:Int):=by rw[show(48+(bn b:Int)-48)=(bn b:Int) by omega];exact w8 jO
  have k:IntKind.u32.wrap ((bn b:Nat):Int)=(bn b:Int):=fL jO
  have j:IntKind.u32.wrap (2*((num (l.take i) 0:Nat):Int))=((2*num (l.take i) 0:Nat):Int):=by rw[show(2*((num (l.take i) 0:Nat):Int))=((2*num (l.take i) 0:Nat):Int) by omega];exact fL jO
  have g:IntKind.u32.wrap (((2*num (l.take i) 0:Nat):Int)+(bn b:Int))=((2*num (l.take i) 0+bn b:Nat):Int):=by rw[show(((2*num (l.take i) 0:Nat):Int)+(bn b:Int))=((2*num (l.take i) 0+bn b:Nat):Int) by omega];exact fL jO
  refine jA (aI @cV (aI @pD (aI @r (aI @f (aI @m (aI @k (aI @j @g))))))) ?_
  have e:num (l.take (i+1)) 0=2*num (l.take i) 0+bn b:=by
   rw[m9 c,zu];have:l[i]=b:=by rw[<-f,bw,bA c];rfl
   rw[this]
  have:=next () h' n' ⟨rfl,rfl⟩;rw[e]at this;exact this
theorem ajE(l:List Nat){i:Nat}(j:i<l.length)(o:l.length<=256):af (fun _=>False) n (aj aa gt Y (d+1) 167 #[aL l,jI (i:Int)]) h n fun c h' n'=>c=aL (c6 0 l i)∧h'=h∧n'=n:=by
 rw[aC (fun _=>IA) rfl];refine af.aB ?_;unfold Cy;have b:((i:Nat):Int)+1=((i+1:Nat):Int):=rfl;have a:IntKind.i64.wrap (((i+1:Nat):Int))=((i+1:Nat):Int):=aH jO jO;have g:=fun(K:Value->M Value)=>K7 l .i64 .i64 i K j;have f:=fun(K:Value->M Value)=>K5 l .i64 i K jO;have e:=fun(K:Value->M Value)=>K6 l .i64 (i+1) K jO;have m:=fun(K:Value->M Value)=>pL [l.getD i 0] (l.take i) (by simp;omega) K;have k:=fun(K:Value->M Value)=>pL ([l.getD i 0]++l.take i) (l.drop (i+1)) (by simp;omega) K;refine jA (aI @b @a) ?_;rw[g,f,m];refine jA (aI @b @a) ?_;rw[e,k];refine jB ?_
 first|exact⟨rfl,rfl,rfl⟩|rfl
end
theorem sA(l:List Nat)(c:∀x∈l,x<256)(a:IntKind)(i:Nat)(b:i<l.length)(k:Value->M Value):cP (aL l) (.int a (i:Int)) k=k (.int .u8 ((l.getD i 0:Nat):Int)):=by have:=vG k (l.map gP) a (i:Int) jO (by rw[fQ];omega);unfold aL;rw[this,cR];congr 3;rw[bw,iW,bw,bA b];have:=c l[i] (dH _);show(gP l[i]).toNat=l[i];rw[UInt8.toNat_ofNat'];omega
theorem jT(l:List Nat)(k:Value->M Value):bJ (aL l) k=k (jI (l.length:Int)):=by have:=xX k (l.map gP);unfold aL;rw[this,fQ]
section
variable {Y d n:Nat} {h:H}
theorem ajF{v:Value}(b:List Nat)(f:∀x∈b,x<4294967296)(P:b.length<=100000)(r:Row h n 31 .u32 v (iN b))(E:b.length<Y):af (fun _=>False) n (aj aa gt Y (d+2) 25 #[v]) h n fun z h' n'=>z= .int .u32 ((b.foldl ft 0:Nat):Int)∧h'=h∧n'=n:=by
 rw[aC (fun _=>PW) rfl];refine af.aB ?_;unfold BW;have q:(iN b).length=b.length:=by unfold iN;rw[fQ]
 have B:∀K:Value->M Value,bx v K=K (jI (b.length:Int)):=fun K=>by obtain⟨a,c,e⟩:=r.len;rw[e,q];rfl
 have J:∀i,(b.take i).foldl ft 0<4294967296:=fun i=>by
  have:∀(l:List Nat) (t:Nat),t<4294967296->(∀x∈l,x<4294967296)->l.foldl ft t<4294967296:=by
   intro l
   induction l with
   |nil=>intro t h _;exact h
   |cons x l C=>intro t h g;exact C _ (K2 h (g x Fc)) fun y D=>g y (uZ _ D)
  exact this _ 0 jD fun x g=>f x (EX g)
 refine jA @B ?_;refine dE b.length (fun p i (_:Unit)=>tE Y (aj aa gt Y (d+1)) p (BV Y (aj aa gt Y (d+1))) v (.int .u32 0) (.int .u32 (((b.take i).foldl ft 0:Nat):Int)) v (jI (b.length:Int)) (jI (i:Nat))) (fun i _ h' n'=>h'=h∧n'=n) ?_ ?_ Y 0 () h n (aP _) jO ⟨rfl,rfl⟩
 ·rintro p _ h' n' ⟨rfl,rfl⟩;rw[tE];refine jA @eO ?_
  (try unfold BV);(try dsimp only)
  refine jB ?_;rw[iY]
 ·rintro p i _ h' n' k ⟨rfl,rfl⟩ next;have s:((i:Nat):Int)<((b.length:Nat):Int):=jO;obtain⟨N,j,cap,o,O,ev,G,I,_,_,_,m⟩:=r.some jO;have u:=m i jO
  have L:(iN b).getD i 0=((b[i]:Nat):Int):=by unfold iN;rw[bw,iW,bA k];rfl
  rw[L]at u;rw[q]at ev
  have A:∀K:Value->M Value,bM v (jI (i:Int)) K=K (jP N (j+i)):=fun K=>by rw[ev];exact jC @s
  rw[tE];refine jA (aI @s (aI @A (aI @G @u))) ?_;refine bz (ajD (Y:=Y) (d:=d) (J i) (f _ (dH k))) (ah _) (fun _ _ h=>h.elim) ?_;refine jB ?_;have:=next () h' n' ⟨rfl,rfl⟩;rw[m9 k,Av]at this;exact this
theorem ajG(l:List Nat)(j:∀x∈l,x<256)(b:Nat)(s:l.length<=100000000)(o:l.length<Y):af (fun _=>False) n (aj aa gt Y (d+1) 172 #[aL l,jI (b:Int)]) h n fun m h' n'=>m= .bool (decide (b∈l))∧h'=h∧n'=n:=by
 rw[aC (fun _=>S0) rfl];refine af.aB ?_;unfold CA;refine dE l.length (fun f i (_:Unit)=>tW Y (aj aa gt Y d) f (yF Y (aj aa gt Y d)) (aL l) (jI (b:Int)) bF (jI (i:Nat))) (fun i _ h' n'=>b∉l.take i∧h'=h∧n'=n) ?_ ?_ Y 0 () h n (aP _) jO ⟨jS,rfl,rfl⟩
 ·rintro f _ h' n' ⟨a,rfl,rfl⟩;rw[iY]at a;rw[tW,jT];refine jA @eO ?_
  (try unfold yF);(try dsimp only)
  refine jB ?_;rw[decide_eq_false a]
 ·rintro f i _ h' n' e ⟨a,rfl,rfl⟩ next;have r:((i:Nat):Int)<((l.length:Nat):Int):=jO;have nN:=fun(K:Value->M Value)=>sA l j .i64 i e K;have p:l.getD i 0=l[i]:=by rw[bw,bA e];rfl
  have k:=j l[i] (dH _);have g:IntKind.i64.wrap ((l[i]:Nat):Int)=((l[i]:Nat):Int):=aH jO jO;rw[tW,jT];refine jA @r ?_;rw[nN,p];by_cases c:l[i]=b
  ·have z:(((l[i]:Nat):Int)==(b:Int))=true:=by rw[c];exact beq_iff_eq.2 rfl
   refine jA (aI @g @z) ?_
   (try unfold yF);(try dsimp only)
   refine jB ?_;rw[decide_eq_true (by rw[<-c];exact dH _)]
  ·have z:(((l[i]:Nat):Int)==(b:Int))=false:=beq_eq_false_iff_ne.2 jO;refine jA (aI @g @z) ?_;refine next () h' n' ⟨fun q=> ?_,rfl,rfl⟩;rw[m9 e]at q;rcases List.mem_append.1 q with q|q
   ·exact a q
   ·exact c (List.mem_singleton.1 q).symm
theorem ajH(l:List Nat)(r:∀x∈l,x<256)(q:l.length<=100000000)(g:l.length<Y)(m:300<=Y):af (fun _=>False) n (aj aa gt Y (d+2) 140 #[aL l]) h n fun p _ _=>p=aL ((gE 256).filter fun b=>decide (b∈l)):=by
 rw[aC (fun _=>R7) rfl];refine af.aB ?_;unfold Cp;refine dE 256 (fun k i (_:Unit)=>rG Y (aj aa gt Y (d+1)) k (Co Y (aj aa gt Y (d+1))) (aL l) (aL []) (aL ((gE i).filter fun b=>decide (b∈l))) (jI (i:Nat))) (fun i _ j a=>n<=a) ?_ ?_ Y 0 () h n (aP _) jO (ah _)
 ·rintro k _ j a f;have t:¬(((256:Nat):Int)<256):=jD;rw[rG];refine jA @t ?_
  (try unfold Co);(try dsimp only)
  exact jE
 ·rintro k i _ j a y f next;have s:((i:Nat):Int)<256:=jO;have v:((i:Nat):Int)+1=((i+1:Nat):Int):=rfl
  have e:(gE (i+1)).filter (fun b=>decide (b∈l))=(gE i).filter (fun b=>decide (b∈l))++(if i∈l then [i]else []):=by
   rw[Fg,LR];congr 1;by_cases c:i∈l
   ·rw[if_pos c,aac (by simpa using c)];rfl
   ·rw[if_neg c,aab (by simpa using c)];rfl
  have z:((gE i).filter fun b=>decide (b∈l)).length<=i:=by have:=xr (fun b=>decide (b∈l)) (gE i);rw[Z2]at this;exact this
  rw[rG];refine jA @s ?_;refine bz (ajG (Y:=Y) (d:=d) l r i q g) f (fun _ _ h=>h.elim) ?_;by_cases c:i∈l
  ·rw[if_pos c]at e;rw[decide_eq_true c];have o:IntKind.u8.wrap ((i:Nat):Int)=((i:Nat):Int):=am4 _ jO;refine jA @o ?_;refine vI trivial (kF _ _) _ ?_;refine wx (ws:=[i]) (get_eq _ _ _) (dO _) jS rfl _ ?_;have u:=fun(K:Value->M Value)=>pL ((gE i).filter fun b=>decide (b∈l)) [i] (by simp;omega) K;show af (fun _=>False) n (aq (aL ((gE i).filter fun b=>decide (b∈l))) (aL [i]) _) _ _ _;rw[u,<-e];refine jB ?_;exact next () _ _ jO
  ·rw[if_neg c,bR]at e;rw[decide_eq_false c];have:=next () j a f;rw[e]at this;refine jB ?_;exact this
end
theorem ajI{s:List Nat}(h:Sy s):((gE 256).filter fun b=>decide (b∈s))=s:=
 KF (aaa _ List.pairwise_lt_range) h.inc fun x=>by rw[List.mem_filter,List.mem_range];exact⟨fun q=>by simpa using q.2,fun q=>⟨h.lt x q,by simpa using q⟩⟩
theorem Yy:∀(ps s:List Nat),(∀p∈ps,p<s.length)->(b9 s ps).2.length=s.length
 |[],s,_=>rfl
 |p::ps,s,h=>by have b:=h p Fc;have e:=zJ b;show(b9 (c6 0 s p) ps).2.length=_;rw[Yy ps _ fun q a=>by rw[e];exact h q (uZ _ a),e]
section
variable {Y d n:Nat} {h:H}
theorem ajJ{s:List Nat}(a:Sy s)(g:s≠[])(c:300<=Y):af (fun _=>False) n (aj aa gt Y (d+3) 166 #[aL s]) h n fun e _ _=>e= .bool true:=by have m:=a.len;have l:1<=s.length:=List.length_pos_iff.2 g;have j:(0:Int)<((s.length:Nat):Int):=jO;rw[aC (fun _=>SO) rfl];refine af.aB ?_;unfold Iz;rw[jT];refine jA @j ?_;refine aN aE (ajH (Y:=Y) (d:=d) s a.lt jO jO c) (ah _) (fun _ _ h=>h.elim) fun k p o f i b=> ?_;subst b;rw[ajI a];unfold aL;exact jE
theorem ajK{s:List Nat}(J:Sy s)(h0:s≠[]){v:Value}(ps:List Nat)(g:∀p∈ps,p<s.length)(hl:ps.length<=100000000)(hR:Row h n 3 .i64 v (iN ps))(u0:300+ps.length<Y):af (fun _=>False) n (aj aa gt Y (d+4) 133 #[v,aL s]) h n fun Q _ _=>Q= .tuple #[aL (b9 s ps).1,jI 0]:=by
 have sl:=J.len;rw[aC (fun _=>ad7) rfl];refine af.aB ?_;unfold H5;refine aN aE (ajJ (Y:=Y) (d:=d) J h0 jO) (ah _) (fun _ _ h=>h.elim) fun v1 L E k C y=> ?_;subst y;have l:=hR.au k fun b hb=>C b hb id;have I:(iN ps).length=ps.length:=by unfold iN;rw[fQ]
 have W:∀K:Value->M Value,bx v K=K (jI (ps.length:Int)):=fun K=>by obtain⟨a,c,e⟩:=l.len;rw[e,I];rfl
 refine jA @W ?_;refine dE ps.length (fun B i (_:Unit)=>tO Y (aj aa gt Y (d+3)) B (Cg Y (aj aa gt Y (d+3))) v (aL s) (aL []) (jI 0) (aL (b9 s (ps.take i)).1) (aL (b9 s (ps.take i)).2) (.bool false) v (jI (ps.length:Int)) (jI (i:Nat))) (fun i _ t r=>t=L∧r=E) ?_ ?_ Y 0 () L E (aP _) jO ⟨rfl,rfl⟩
 ·rintro B _ t r ⟨rfl,rfl⟩;rw[tO];refine jA @eO ?_;unfold Cg;refine jB ?_;rw[iY]
 ·rintro B i _ t r z ⟨rfl,rfl⟩ next;have N:((i:Nat):Int)<((ps.length:Nat):Int):=jO;have w1:((i:Nat):Int)+1=((i+1:Nat):Int):=rfl;obtain⟨bb,u,cap,o,ks,ev,hg,u1,_,_,_,A⟩:=l.some jO;have D:=A i jO
  have e0:(iN ps).getD i 0=((ps[i]:Nat):Int):=by unfold iN;rw[bw,iW,bA z];rfl
  rw[e0]at D;rw[I]at ev
  have U:∀K:Value->M Value,bM v (jI (i:Int)) K=K (jP bb (u+i)):=fun K=>by rw[ev];exact jC @N
  have Z:=g ps[i] (dH z);have T:=Yy (ps.take i) s fun q X=>g q (EX X);have G:=Eb (ps.take i) s;rw[cO]at G;obtain⟨p,j⟩:∃p,ps[i]=p:=⟨_,rfl⟩
  have x:b9 s (ps.take (i+1))=((b9 s (ps.take i)).1++[(b9 s (ps.take i)).2.getD p 0],c6 0 (b9 s (ps.take i)).2 p):=by rw[m9 z,KD,j];rfl
  have m:=next () t r ⟨rfl,rfl⟩;rw[x]at m;rw[j]at D Z;generalize (b9 s (ps.take i)).1=out at G m⊢;generalize (b9 s (ps.take i)).2=f at T m⊢;have c2:¬((p:Nat):Int)<0:=jO;have c3:¬((f.length:Nat):Int)<=((p:Nat):Int):=jO;have P:((p:Nat):Int)+1=((p+1:Nat):Int):=rfl;have O:IntKind.i64.wrap ((p+1:Nat):Int)=((p+1:Nat):Int):=aH jO jO;have R:=fun(K:Value->M Value)=>K7 f .i64 .i64 p K jO;have ad:=fun(K:Value->M Value)=>pL out [f.getD p 0] (by simp;omega) K;rw[tO];refine jA (aI @N (aI @U (aI @hg (aI @D @c2)))) ?_;rw[jT];refine jA (aI @c3 (aI @P @O)) ?_;rw[R,ad];refine bz (ajE (Y:=Y) (d:=d+2) f (i:=p) jO jO) k (fun _ _ h=>h.elim) ?_;refine jB ?_;exact m
end
def pM(B:List Bool)(i:Nat):List Nat:=(List.range' i (16-i)).filter fun j=>B.getD j false
theorem ajL(B:List Bool){i:Nat}(h:i<16):pM B i=(if B.getD i false=true then [i]else [])++pM B (i+1):=by
 unfold pM;obtain⟨m,b⟩:∃m,16-i=m+1:=⟨16-i-1,jO⟩;have a:16-(i+1)=m:=jO;rw[b,a,List.range'_succ];by_cases c:B.getD i false=true
 ·rw[aac (p:=fun j=>B.getD j false) c,if_pos c];rfl
 ·rw[aab (p:=fun j=>B.getD j false) c,if_neg c];rfl
theorem ajM(B:List Bool):pM B 16=[]:=rfl
theorem Yz(B:List Bool):pM B 0=hO B:=by unfold pM hO;rw[List.range_eq_range']
def qE(row:List Bool)(k:Nat):List Nat:=(gE k).filter fun j=>row.getD j false
def ajN(r:St (List Nat))(a:Value):Prop:=match r with
 | .short=>a= .agg #[aL [],.int .i64 0,.int .i64 3]
 | .bad e=>a= .agg #[aL [],.int .i64 0,.int .i64 e]
 | .ok s u=>a= .agg #[aL s,.int .i64 (u:Int),.int .i64 0]
section
variable {Y d:Nat}
theorem ajO {n0:Nat} {bs:List Bool} (L:bs.length<=1000000) {cn i:Nat} (W:i<16) (A:cn+16<=bs.length) {out:List Nat} (T:out.length<=1000) {K:Value->Value->Value->Value->Value->Value->M Value} {b f g h2 v u:Value} {n:Nat} {h:H} {Q:Value->H->Nat->Prop} (I:100<=Y) (U:n0<=n)
 (y:∀h' n',n<=n'->(∀c,c<n->h'.get c=h.get c)->af (fun _=>False) n0 (K (tx bs) b (jI (cn:Int)) (aL (out++(hO ((bs.drop cn).take 16)).map fun k=>16*i+k)) f g) h' n' Q):
 af (fun _=>False) n0 (qq Y ((aj aa gt Y d)) Y K (tx bs) b (jI (cn:Int)) (aL out) (jI (i:Int)) f g h2 v u (jI 0)) h n Q:=by
 have G:hO ((bs.drop cn).take 16)=qE ((bs.drop cn).take 16) 16:=rfl;refine dE 16 (fun p k (_:Unit)=>qq Y ((aj aa gt Y d)) p K (tx bs) b (jI (cn:Int)) (aL (out++(qE ((bs.drop cn).take 16) k).map fun k=>16*i+k)) (jI (i:Int)) f g h2 v u (jI (k:Nat))) (fun k _ h' n'=>n<=n'∧∀c,c<n->h'.get c=h.get c) ?_ ?_ Y 0 () h n (aP _) jO ⟨ah _,fun _ _=>rfl⟩|>fun z=>by simpa[qE]using z
 ·rintro p _ h' n' ⟨a,m⟩;have N:¬(((16:Nat):Int)<16):=jD;rw[qq];refine jA @N ?_;rw[<-G];exact y h' n' a m
 ·rintro p k _ h' n' J ⟨a,m⟩ next;have B:((k:Nat):Int)<16:=jO;have P:((k:Nat):Int)+1=((k+1:Nat):Int):=rfl;have s:((cn:Nat):Int)+((k:Nat):Int)=((cn+k:Nat):Int):=rfl;have r:IntKind.i64.wrap ((cn+k:Nat):Int)=((cn+k:Nat):Int):=aH jO jO;obtain⟨q,x⟩:∃q,bs.getD (cn+k) false=q:=⟨_,rfl⟩
  have l:((bs.drop cn).take 16).getD k false=q:=by rw[<-x,bw,anx J,List.getElem?_drop,bw]
  have o:=fun(K:Value->M Value)=>pD bs .i64 ((cn+k:Nat):Int) jO jO K;rw[cR,x]at o
  have t:qE ((bs.drop cn).take 16) (k+1)=qE ((bs.drop cn).take 16) k++(if q=true then [k]else []):=by
   unfold qE;rw[Fg,LR];congr 1;by_cases c:q=true
   ·rw[if_pos c,aac (by rw[l];exact c)];rfl
   ·rw[if_neg c,aab (by rw[l];exact c)];rfl
  have R:(qE ((bs.drop cn).take 16) k).length<=k:=by have:=xr (fun j=>((bs.drop cn).take 16).getD j false) (gE k);rw[Z2]at this;exact this
  rw[qq];cases q with
  |true=>
   have z:((48+((bn true:Nat):Int))==49)=true:=rfl;have E:IntKind.i64.wrap (16*((i:Nat):Int))=((16*i:Nat):Int):=by rw[aH jO jO];rfl
   have D:IntKind.i64.wrap (((16*i:Nat):Int)+((k:Nat):Int))=((16*i+k:Nat):Int):=by rw[aH jO jO];rfl
   have C:IntKind.u8.wrap ((16*i+k:Nat):Int)=((16*i+k:Nat):Int):=am4 _ jO;refine jA (aI @B (aI @s (aI @r (aI @o (aI @z (aI @E (aI @D @C))))))) ?_;refine vI trivial (kF _ _) _ ?_;refine wx (ws:=[16*i+k]) (get_eq _ _ _) (dO _) jS rfl _ ?_;have O:=fun(K:Value->M Value)=>pL (out++(qE ((bs.drop cn).take 16) k).map fun k=>16*i+k) [16*i+k] (by simp;omega) K;show af (fun _=>False) n0 (aq (aL (out++(qE ((bs.drop cn).take 16) k).map fun k=>16*i+k)) (aL [16*i+k]) _) _ _ _;rw[O];refine jB ?_;have e:=next () (h'.set n' (some ⟨5,true,[.int .u8 ((16*i+k:Nat):Int)]⟩)) (n'+1) ⟨jO,fun c A=>by rw[aw _ _ jO];exact m c A⟩;rw[t,if_pos rfl,pT,<-dY]at e;exact e
  |false=>have z:((48+((bn false:Nat):Int))==49)=false:=rfl;refine jA (aI @B (aI @s (aI @r (aI @o @z)))) ?_;have e:=next () h' n' ⟨a,m⟩;rw[t,if_neg jD,bR]at e;exact e
end
theorem Et{n0 n a:Nat}{h:H}{t:TypeId}{cs vs:List Value}(d:vs.length=3)(h1:vs.all one=true)(g:cs.length=3)(i:h.get a=some ⟨t,true,cs⟩)(e:a<n)(c:n0<=a):af (fun _=>False) n0 (aM 3 (jP a 0) (.agg vs.toArray) fun _=>aT 3 (jP a 0) fun b=>ag [b]) h n fun f _ _=>f= .agg vs.toArray:=by refine cq trivial d g h1 i e (.inl c) _ fun l j k=> ?_;exact dV trivial trivial j d e rfl
section
variable {Y d n:Nat} {h:H}
theorem ajP{bs:List Bool}(A:bs.length<=1000000)(y:100<=Y):af (fun _=>False) n (aj aa gt Y (d+1) 128 #[tx bs]) h n fun J _ _=>ajN (fo bs) J:=by
 rw[aC (fun _=>adW) rfl];refine af.aB ?_;unfold HY;refine dL rfl _ ?_;have B:(h.set n (some ⟨185,true,nI⟩)).get n=some ⟨185,true,nI⟩:=get_eq _ _ _;generalize h.set n (some ⟨185,true,nI⟩)=X at B⊢;unfold fo;by_cases j:bs.length<16
 ·have c:((bs.length:Nat):Int)<16:=jO;rw[if_pos j];refine jA (aI @cV @c) ?_;exact Et (vs:=[aL [],jI 0,jI 3]) rfl rfl rfl B (dO n) (ah n)
 have c:¬((bs.length:Nat):Int)<16:=jO;rw[if_neg j];refine jA (aI @cV @c) ?_
 have U:∀i,i<16->(bs.take 16).getD i false=bs.getD i false:=fun i g=>by rw[bw,anx g,bw]
 rw[<-Yz (bs.take 16)];obtain⟨R,G⟩:∃R,gV (pM (bs.take 16) 0) (bs.drop 16) [] 16=R:=⟨_,rfl⟩;rw[G];have L:UI (pM (bs.take 16) 0) []:=by rw[Yz];exact UI.zero _
 refine dE 16 (fun C i (s:Nat×List Nat)=>rE Y (aj aa gt Y d) C (yp Y (aj aa gt Y d)) (tx bs) (jP n 0) (jI (s.1:Int)) (aL s.2) (.bool false) (jI (i:Nat))) (fun i s o m=>n<m∧o.get n=some ⟨185,true,nI⟩∧s.1<=bs.length∧UI (pM (bs.take 16) i) s.2∧gV (pM (bs.take 16) i) (bs.drop s.1) s.2 s.1=R) ?_ ?_ Y 0 (16,[]) X (n+1) (aP _) jO ⟨dO n,B,jO,L,G⟩
 ·rintro C ⟨cn,out⟩ o m ⟨q1,q2,l,e,a⟩;have Z:¬(((16:Nat):Int)<16):=jD;rw[ajM]at a;have a:St.ok out cn=R:=a;subst a;rw[rE];refine jA @Z ?_;unfold yp;cases out with
  |nil=>have v:∀K:Value->M Value,cD (aL []) (.string ⟨#[]⟩) K=K (.bool true):=fun K=>rfl;refine jA @v ?_;exact Et (vs:=[aL [],jI 0,jI 25]) rfl rfl rfl q2 q1 (ah n)
  |cons x out=>
   have v:∀K:Value->M Value,cD (aL (x::out)) (.string ⟨#[]⟩) K=K (.bool false):=fun K=>by unfold aL;refine jB ?_;rw[decide_eq_false jS]
   refine jA @v ?_;have T:fG [Value.string ⟨#[]⟩,ii 0,ii 0] [(0,1,aL (x::out)),(1,1,eJ IntKind.i64 ((cn:Nat):Int))]=some [aL (x::out),jI ((cn:Nat):Int),jI 0]:=rfl;rw[T];exact Et (vs:=[aL (x::out),jI (cn:Int),jI 0]) rfl rfl rfl q2 q1 (ah n)
 ·rintro C i ⟨cn,out⟩ o m g ⟨q1,q2,l,e,a⟩ next;have l:cn<=bs.length:=l;have E:((i:Nat):Int)<16:=jO;have I:((i:Nat):Int)+1=((i+1:Nat):Int):=rfl;have f:=fun(K:Value->M Value)=>pD bs .i64 ((i:Nat):Int) jO jO K;rw[cR,<-U i g]at f;have b:=ajL (bs.take 16) g;have ol:out.length<=256:=e.sy.len;rw[rE];obtain⟨q,P⟩:∃q,(bs.take 16).getD i false=q:=⟨_,rfl⟩;rw[P]at f b;cases q with
  |false=>rw[if_neg jD,kQ]at b;have z:((48+((bn false:Nat):Int)) !=49)=true:=rfl;refine jA (aI @E (aI @f @z)) ?_;exact next (cn,out) o m ⟨q1,q2,l,by rw[<-b];exact e,by rw[<-b];exact a⟩
  |true=>
   rw[if_pos rfl,Fi]at b;have z:((48+((bn true:Nat):Int)) !=49)=false:=rfl;have u:IntKind.i64.wrap (((cn:Nat):Int)+16)=((cn+16:Nat):Int):=by rw[aH jO jO];rfl
   have t:((cn:Nat):Int)+16=((cn+16:Nat):Int):=rfl;have r:IntKind.i64.wrap ((cn+16:Nat):Int)=((cn+16:Nat):Int):=aH jO jO;rw[b]at a e;unfold gV at a;by_cases p:(bs.drop cn).length<16
   ·rw[if_pos p]at a;subst a;rw[bC]at p;have D:((bs.length:Nat):Int)<((cn+16:Nat):Int):=jO;refine jA (aI @E (aI @f (aI @z (aI @cV (aI @u (aI @t (aI @r @D))))))) ?_;unfold yp;exact Et (vs:=[aL [],jI 0,jI 3]) rfl rfl rfl q2 q1 (ah n)
   ·rw[if_neg p]at a;rw[bC]at p;have D:¬((bs.length:Nat):Int)<((cn+16:Nat):Int):=jO;refine jA (aI @E (aI @f (aI @z (aI @cV (aI @u (aI @t (aI @r @D))))))) ?_;refine ajO (d:=d) A g jO jO y jO fun W N Q O=> ?_;unfold HX;refine jA (aI @u (aI @t (aI @r @I))) ?_;exact next (cn+16,out++(hO ((bs.drop cn).take 16)).map fun k=>16*i+k) W N ⟨jO,(O n q1).trans q2,by show cn+16<=_;omega,e.next _,by rw[<-a,jf]⟩
end
def fO(cs:List Nat):Nat×Nat:=cs.foldl (fun q c=>(q.1+q.2+c*q.2,2*q.2)) (0,1)
theorem Eu(cs:List Nat)(c:Nat):fO (cs++[c])=((fO cs).1+(fO cs).2+c*(fO cs).2,2*(fO cs).2):=by unfold fO;rw[Av];rfl
theorem K8:∀(k:Nat) (cs:List Nat),cs.length=k->(fO cs).2=2^k
 |0,cs,h=>by rw[List.length_eq_zero_iff.1 h];rfl
 |k+1,cs,h=>by
  have a:cs≠[]:=fun e=>by rw[e]at h;cases h
  have e:=anz a;rw[<-e,Eu];show 2*(fO cs.dropLast).2=_;rw[K8 k cs.dropLast (by rw[anA];omega),Nat.pow_succ,Nat.mul_comm]
theorem ajQ(cs:List Nat)(h:∀c∈cs,c<=1):(fO cs).1<=2*(fO cs).2:=by
 have:∀(k:Nat) (cs:List Nat),cs.length=k->(∀c∈cs,c<=1)->(fO cs).1<=2*(fO cs).2:=by
  intro k
  induction k with
  |zero=>intro cs h _;rw[List.length_eq_zero_iff.1 h];decide
  |succ k f=>
   intro cs h d;have a:cs≠[]:=fun e=>by rw[e]at h;cases h
   have e:=anz a;have g:=d (cs.getLast a) (List.getLast_mem a);have:=f cs.dropLast (by rw[anA];omega) fun c b=>d c ((List.dropLast_sublist cs).subset b);rw[<-e,Eu];show(fO cs.dropLast).1+(fO cs.dropLast).2+cs.getLast a*(fO cs.dropLast).2<=2*(2*(fO cs.dropLast).2);have i:cs.getLast a*(fO cs.dropLast).2<=1*(fO cs.dropLast).2:=qL _ g;omega
 exact this _ cs rfl h
section
variable {Y d n:Nat} {h:H}
theorem YA{v:Value}(cs:List Nat)(u:∀c∈cs,c<=1)(U:cs.length<=41)(x:Row h n 3 .i64 v (iN cs))(J:100<=Y):af (fun _=>False) n (aj aa gt Y (d+1) 201 #[v]) h n fun D h' n'=>D=jI ((fO cs).1:Int)∧h'=h∧n'=n:=by
 rw[aC (fun _=>afr) rfl];refine af.aB ?_;unfold I1;have s:(iN cs).length=cs.length:=by unfold iN;rw[fQ]
 have G:∀K:Value->M Value,bx v K=K (jI (cs.length:Int)):=fun K=>by obtain⟨a,c,e⟩:=x.len;rw[e,s];rfl
 refine jA @G ?_;refine dE cs.length (fun p i (_:Unit)=>ue Y (aj aa gt Y d) p (CT Y (aj aa gt Y d)) v (jI 0) (jI ((fO (cs.take i)).1:Int)) (jI ((fO (cs.take i)).2:Int)) v (jI (cs.length:Int)) (jI (i:Nat))) (fun i _ h' n'=>h'=h∧n'=n) ?_ ?_ Y 0 () h n (aP _) jO ⟨rfl,rfl⟩
 ·rintro p _ h' n' ⟨rfl,rfl⟩;rw[ue];refine jA @eO ?_;unfold CT;refine jB ?_;rw[iY]
 ·rintro p i _ h' n' k ⟨rfl,rfl⟩ next;have y:((i:Nat):Int)<((cs.length:Nat):Int):=jO;have R:((i:Nat):Int)+1=((i+1:Nat):Int):=rfl;obtain⟨Q,g,cap,o,T,ev,L,N,_,_,_,l⟩:=x.some jO;have r:=l i jO
  have O:(iN cs).getD i 0=((cs[i]:Nat):Int):=by unfold iN;rw[bw,iW,bA k];rfl
  rw[O]at r;rw[s]at ev
  have E:∀K:Value->M Value,bM v (jI (i:Int)) K=K (jP Q (g+i)):=fun K=>by rw[ev];exact jC @y
  have I:=K8 i (cs.take i) (by rw[cO];omega);have t:=ajQ (cs.take i) fun c q=>u c (EX q)
  have j:(fO (cs.take i)).2<=2199023255552:=by rw[I];exact pS (n:=2) jD (by omega:i<=41)
  have f:=u cs[i] (dH k);have b:=next () h' n' ⟨rfl,rfl⟩;rw[m9 k,Eu]at b;generalize (fO (cs.take i)).1=m at t b⊢;generalize (fO (cs.take i)).2=w at j t b⊢;generalize cs[i]=c at f b r;have W:c*w<=1*w:=qL _ f;have P:¬(2199023255552:Int)<((w:Nat):Int):=jO;have C:IntKind.i64.wrap (((m:Nat):Int)+((w:Nat):Int))=((m+w:Nat):Int):=by rw[aH jO jO];rfl
  have B:IntKind.i64.wrap (((c:Nat):Int)*((w:Nat):Int))=((c*w:Nat):Int):=by rw[show((c:Nat):Int)*((w:Nat):Int)=((c*w:Nat):Int)from(Int.natCast_mul c w).symm,aH jO jO]
  have A:IntKind.i64.wrap (((m+w:Nat):Int)+((c*w:Nat):Int))=((m+w+c*w:Nat):Int):=by rw[aH jO jO];rfl
  have z:IntKind.i64.wrap (2*((w:Nat):Int))=((2*w:Nat):Int):=by rw[aH jO jO];rfl
  rw[ue];refine jA (aI @y (aI @E (aI @L (aI @r (aI @P (aI @C (aI @B (aI @A @z)))))))) ?_;exact b
end
structure lA (h:H) (n:Nat) (z:Zr) (rv:Value) (cs:List Nat):Prop where
 row:Row h n 3 .i64 rv (iN cs)
 one:∀c∈cs,c<=1
 len:cs.length<=40
 eq:fO cs=(z.aR,z.weight)
def fc(z:Zr)(a:Value):List Value:=[jI (z.n:Int),jI (z.most:Int),jI (z.told:Int),a,.bool z.done]
theorem lA.au{h h':H}{n n':Nat}{z:Zr}{a:Value}{cs:List Nat}(x:lA h n z a cs)(c:n<=n')(d:∀b,b<n->h'.get b=h.get b):lA h' n' z a cs:=⟨x.row.au c d,x.one,x.len,x.eq⟩
section
variable {Y d n:Nat} {h:H}
theorem ajR{z:Zr}{c:Value}{cs:List Nat}(x:lA h n z c cs)(s:z.told+z.aR<=4000000000000000)(g:100<=Y):af (fun _=>False) n (aj aa gt Y (d+2) 200 #[.agg (fc z c).toArray]) h n fun m _ _=>m=jI ((z.told+z.aR:Nat):Int):=by
 have q:(fO cs).1=z.aR:=by rw[x.eq]
 rw[aC (fun _=>afp) rfl];refine af.aB ?_;unfold TX;refine gu trivial _ _ ?_;obtain⟨e,a⟩:∃e,h.set n (some ⟨233,true,(mC (fc z c).toArray).cells.toList⟩)=e:=⟨_,rfl⟩;have k:e.get n=some ⟨233,true,fc z c⟩:=by rw[<-a,get_eq];rfl
 have f:lA e (n+1) z c cs:=x.au (eL n) fun b t=>by rw[<-a,aw _ _ jO]
 rw[a];have j:n<n+1:=dO n;refine jB ?_;refine lN trivial n 2 _ k j rfl fun y p=> ?_;refine jB ?_;refine lN trivial n 3 _ k j rfl fun v r=> ?_;refine jB ?_;have i:=YA (Y:=Y) (d:=d) cs f.one (by have:=f.len;omega) f.row g;rw[q]at i;refine lO aE i jO fun u o=> ?_;have l:IntKind.i64.wrap (((z.told:Nat):Int)+((z.aR:Nat):Int))=((z.told+z.aR:Nat):Int):=by rw[aH jO jO];rfl
 try simp(disch:=first|omega|assumption) only[Nat.reduceAdd,Nat.reduceLT,RZ,l,p.cA o,cx,dQ]
end
def mw(z:Zr)(a:Value)(m p e:Int):List Value:=fc z a++[jI m,jI p,jI e]
def qF(n:Nat)(z:Zr)(h:Value)(cs:List Nat)(c:Nat)(g:Value)(h':H)(n':Nat):Prop:=match cW z c with
 |none=>∃e:Int,(e=25∨e=2)∧g= .agg (mw z h 0 0 e).toArray
 |some (f,m,p)=>∃a d,lA h' n' f a d∧(∀b,aJ a b->n<=b)∧g= .agg (mw f a (m:Int) (if p=0 then-1 else(p:Int)) 0).toArray
theorem qG{z:Zr}{a:Value}(h:Ev.one a=true)(m p e:Int):(mw z a m p e).all Ev.one=true:=by unfold mw fc;simp only[List.cons_append,kQ,LF,Mb,h];rfl
theorem lA.short{h:H}{n:Nat}{z:Zr}{c:Value}{cs:List Nat}(x:lA h n z c cs)(b:z.Ok)(d:z.most<=1000000):cs.length<=20:=by
 have a:=K8 cs.length cs rfl;rw[x.eq]at a;have a:z.weight=2^cs.length:=a;have:=b.w2;have:=b.all;rcases Nat.lt_or_ge 20 cs.length with q|q
 ·have:2^21<=2^cs.length:=pS jD q;have e:(2:Nat)^21=2097152:=rfl;omega
 ·exact q
section
variable {Y d n:Nat} {h:H}
theorem wW{n0 n a:Nat}{h:H}{t:TypeId}{cs vs:List Value}{Q:Value->H->Nat->Prop}(e:vs.length=8)(h1:vs.all Ev.one=true)(i:cs.length=8)(j:h.get a=some ⟨t,true,cs⟩)(f:a<n)(d:n0<=a)(y:∀h',(∀c,c≠a->h'.get c=h.get c)->Q (.agg vs.toArray) h' n):af (fun _=>False) n0 (aM 8 (jP a 0) (.agg vs.toArray) fun _=>aT 8 (jP a 0) fun b=>ag [b]) h n Q:=by refine cq trivial e i h1 j f (.inl d) _ fun h' k g=> ?_;exact dV trivial trivial k e f (y h' g)
theorem YB{z:Zr}{f:Value}{cs:List Nat}(x:lA h n z f cs)(E:z.Ok)(hm:z.most<=1000000)(c:Nat)(hc:c<=1000)(u3:100<=Y):af (fun _=>False) n (aj aa gt Y (d+3) 165 #[.agg (fc z f).toArray,jI (c:Int)]) h n (qF n z f cs c):=by
 have hn:=E.hi;have w0:=E.all;have w4:=x.short E hm
 have j:Ev.one f=true:=by obtain⟨a,b,e⟩:=x.row.len;rw[e];rfl
 rw[aC (fun _=>aeT) rfl];refine af.aB ?_;unfold SN;refine gu trivial _ _ ?_;refine dL rfl _ ?_;obtain⟨U,s⟩:∃U,(h.set n (some ⟨233,true,(mC (fc z f).toArray).cells.toList⟩)).set (n+1) (some ⟨235,true,j2⟩)=U:=⟨_,rfl⟩;have g2:U.get n=some ⟨233,true,fc z f⟩:=by rw[<-s,aw _ _ jO,get_eq];rfl
 have gd:U.get (n+1)=some ⟨235,true,j2⟩:=by rw[<-s,get_eq]
 have x2:lA U (n+1+1) z f cs:=x.au jO fun b o=>by rw[<-s,aw _ _ jO,aw _ _ jO]
 rw[s];clear s;have l0:n<n+1+1:=jO;have l1:n+1<n+1+1:=jO;have g3:U.get n=some ⟨233,true,[jI (z.n:Int),jI (z.most:Int),jI (z.told:Int),f,.bool false]⟩:=by rw[g2];unfold fc;rw[E.nd]
 have c0:¬((c:Nat):Int)<0:=jO;have w1:IntKind.i64.wrap (((z.n:Nat):Int)+1)=((z.n+1:Nat):Int):=by rw[aH jO jO];rfl
 by_cases ca:z.n+1<c
 ·have c1:((z.n+1:Nat):Int)<((c:Nat):Int):=jO;have m:cW z c=none:=by unfold cW;rw[if_pos ca]
  have W:((z.n:Nat):Int)+1=((z.n+1:Nat):Int):=rfl;refine jA (aI @g3 (aI @c0 (aI @w1 (aI @W @c1)))) ?_;refine fK trivial trivial n 0 _ g2 l0 (show 0+5<=5 by omega) ?_;refine wW (vs:=mw z f 0 0 25) rfl (qG j _ _ _) rfl gd l1 jO fun p _=> ?_;unfold qF;rw[m];exact⟨25,.inl rfl,rfl⟩
 have c1:¬((z.n+1:Nat):Int)<((c:Nat):Int):=jO;have W:((z.n:Nat):Int)+1=((z.n+1:Nat):Int):=rfl;refine jA (aI @g3 (aI @c0 (aI @w1 (aI @W @c1)))) ?_;refine fK trivial trivial n 0 _ g2 l0 (show 0+5<=5 by omega) ?_;refine dL rfl _ ?_;refine nH (sz:=5) (off:=0) (e:=233) (cs:=z233) trivial (vs:=fc z f) rfl rfl (by unfold fc;simp only[LF,Mb,j];rfl) (get_eq _ _ _) jO jD (.inl jO) _ fun J g4 k4=> ?_;have u:∀b,b<n+1+1->J.get b=U.get b:=fun b o=>by rw[k4 b jO,aw _ _ jO]
 have A:=(u (n+1) l1).trans gd;have u9:=(u n l0).trans g2;have t:=(u n l0).trans g3;have x4:lA J (n+1+1+1) z f cs:=x2.au jO u;have v9:J.get (n+1+1)=some ⟨233,true,fc z f⟩:=g4;clear g4 k4 g2 g3 gd x2;have l2:n+1+1<n+1+1+1:=jO;have v2:n<n+1+1+1:=jO;have R:n+1<n+1+1+1:=jO;have C:J.get (n+1+1)=some ⟨233,true,[jI (z.n:Int),jI (z.most:Int),jI (z.told:Int),f,.bool false]⟩:=by rw[v9];unfold fc;rw[E.nd]
 have y:n<=n+1+1:=jO;have P:n+1≠n+1+1:=jO;have v1:n≠n+1+1:=jO;have I:∀(p:H) (Q:Nat) (z':Zr),z'.aR=0->z'.weight=1->lA p Q z' nS []:=fun p Q z' e1 e2=>⟨(Own.nil p 0 Q 3).row (k:= .i64) (xs:=[]),fun c hc=>(by cases hc),jD,by rw[e1,e2];rfl⟩;by_cases Z:c<=1
 ·have c2:((c:Nat):Int)<2:=jO;refine jA (aI @c2 @t) ?_;refine acQ trivial (Own.nil J n (n+1+1+1) 3) x4.row (by rw[show(iN cs).length=cs.length by unfold iN;rw[fQ]];show 0+_<=_;omega) (ah n) jO _ fun v5 h5 l w5 o5 i5 k5=> ?_;rw[kQ]at o5;have u1:∀b,b<n+1+1+1->h5.get b=J.get b:=fun b o=>k5 b o nR;have il:(aW .i64 (iN cs)).length=cs.length:=by rw[eh];unfold iN;rw[fQ]
  refine rB trivial rfl o5 (by rw[il];omega) (ah n) _ fun h6 u5 k6=> ?_;rw[il]
  have T:∀b,b<n+1+1+1->h6.get b=J.get b:=fun b o=>(k6 b jO fun q=>by
   rcases i5 b q with q|q
   ·exact nR q
   ·omega).trans (u1 b o)
  obtain⟨g,v⟩:∃g:Zr,g={z with aR:=z.aR+z.weight*2^c,weight:=2*z.weight}:=⟨_,rfl⟩
  have cw:(fO (cs++[c]))=(g.aR,g.weight):=by
   rw[Eu,x.eq,v];have:c=0∨c=1:=jO;rcases this with rfl|rfl
   ·simp
   ·simp;omega
  have xg:∀(p:H) (Q:Nat),p.get (l+1)=h6.get (l+1)->l+1<Q->n<=l+1->lA p Q g (.slice (some ⟨l+1,0,none⟩) (cs.length+1) (bh+(cs.length+1))) (cs++[c]):=fun p Q e1 e2 e3=>by
   refine⟨Own.row (lo:=n) (.inr ⟨l+1, ?_, ?_,jO,jO⟩),fun q hq=> ?_,by rw[bE];show cs.length+1<=40;omega,cw⟩
   ·rw[show(aW .i64 (iN (cs++[c]))).length=cs.length+1 by rw[eh];unfold iN;rw[fQ,bE];rfl]
   ·rw[e1,u5];unfold iN aW;simp
   ·rcases List.mem_append.1 hq with q2|q2
    ·exact x.one q q2
    ·rw[List.mem_singleton.1 q2];exact Z
  have u7:=(T (n+1+1) l2).trans C;have u0:n+1+1<l+2:=jO;refine jA (aI @u7 @y) ?_;generalize u2:(Value.slice (some ⟨l+1,0,none⟩) (cs.length+1) (bh+(cs.length+1)))=i at xg⊢;have o6:Ev.one i=true:=by rw[<-u2];rfl
  obtain⟨X,r⟩:∃X,h6.set (n+1+1) (some ⟨233,true,[jI (z.n:Int),jI (z.most:Int),jI (z.told:Int),i,.bool false]⟩)=X:=⟨_,rfl⟩
  have ec:[jI (z.n:Int),jI (z.most:Int),jI (z.told:Int),i,.bool false]=fc g i:=by rw[v];unfold fc;rw[E.nd]
  have g7:X.get (n+1+1)=some ⟨233,true,fc g i⟩:=by rw[<-r,get_eq,ec]
  have k7:∀b,b<n+1+1->X.get b=J.get b:=fun b o=>by rw[<-r,aw _ _ jO];exact T b jO
  have v0:X.get (l+1)=h6.get (l+1):=by rw[<-r,aw _ _ jO]
  have x7:=xg X (l+2) v0 jO jO;rw[r];clear r u5 k6 T u7 u1 k5 i5 o5 x4;have zz:g.told=z.told∧g.aR=z.aR+z.weight*2^c:=by rw[v];exact⟨rfl,rfl⟩
  have w2:=E.w2
  have v6:2^c<=2:=by have:c=0∨c=1:=jO;rcases this with rfl|rfl<;>decide
  have w3:z.weight*2^c<=z.weight*2:=Nat.mul_le_mul_left _ v6;refine agt trivial trivial (n+1+1) 0 _ g7 u0 (show 0+5<=5 by omega) fun T1 _=> ?_;refine ajz aE (ajR (Y:=Y) (d:=d) x7 jO u3) ?_;rintro v8 h8 n8 L8 v4 D rfl r8;have u8:h8.get n=some ⟨233,true,fc z f⟩:=((D n jO).trans (k7 n jO)).trans u9;have u6:=((D (n+1) jO).trans (k7 (n+1) jO)).trans A;have v7:=(D (n+1+1) u0).trans g7;refine jB ?_;refine gI trivial n 1 _ u8 (show n<l+2 by omega) v4 rfl fun T9 t9=> ?_;by_cases ce:z.most<z.told+z.aR+z.weight*2^c
  ·have G:((z.most:Nat):Int)<((g.told+g.aR:Nat):Int):=jO
   have m:cW z c=none:=by unfold cW;rw[if_neg ca,if_pos Z,if_pos ce]
   try simp(disch:=first|omega|assumption) only[Nat.reduceAdd,Nat.reduceLT,RZ,G,r8.cA t9,cx,dQ]
   refine fK trivial trivial n 0 _ u8 jO (show 0+5<=5 by omega) ?_;refine wW (vs:=mw z f 0 0 2) rfl (qG j _ _ _) rfl u6 jO jO fun p _=> ?_;unfold qF;rw[m];exact⟨2,.inr rfl,rfl⟩
  ·have G:¬((z.most:Nat):Int)<((g.told+g.aR:Nat):Int):=jO
   have m:cW z c=some (g,0,0):=by unfold cW;rw[if_neg ca,if_pos Z,if_neg ce,v]
   try simp(disch:=first|omega|assumption) only[Nat.reduceAdd,Nat.reduceLT,RZ,G,r8.cA t9,cx,dQ]
   refine fK trivial trivial (n+1+1) 0 _ v7 jO (show 0+5<=5 by omega) ?_;refine wW (vs:=mw g i 0 (-1) 0) rfl (qG o6 _ _ _) rfl u6 jO jO fun p k'=> ?_;unfold qF;rw[m];exact⟨i,cs++[c],xg _ _ ((k' (l+1) jO).trans ((D (l+1) jO).trans v0)) jO jO,fun b o=>by rw[<-u2]at o;rw[o.inj];omega,rfl⟩
 ·have c2:¬((c:Nat):Int)<2:=jO;have hv:=YA (Y:=Y) (d:=d+1) cs x4.one (by have:=x4.len;omega) x4.row u3;have ez:(fO cs).1=z.aR:=by rw[x.eq]
  rw[ez]at hv;have wt:IntKind.i64.wrap (((z.told:Nat):Int)+((z.aR:Nat):Int))=((z.told+z.aR:Nat):Int):=by rw[aH jO jO];rfl
  have L:((z.told:Nat):Int)+((z.aR:Nat):Int)=((z.told+z.aR:Nat):Int):=rfl;have K:IntKind.i64.wrap ((z.told+z.aR:Nat):Int)=((z.told+z.aR:Nat):Int):=aH jO jO;refine jA (aI @c2 @t) ?_;refine bz hv jO (fun _ _ h=>h.elim) ?_;by_cases cd:c=z.n+1
  ·have zd:(((c:Nat):Int)==((z.n+1:Nat):Int))=true:=by rw[cd];exact beq_iff_eq.2 rfl
   refine jA (aI @t (aI @C (aI @wt (aI @L (aI @K (aI @w1 (aI @W (aI @zd @y)))))))) ?_;refine fK trivial trivial (n+1+1) 0 _ (get_eq _ _ _) l2 (show 0+5<=5 by omega) ?_
   have m:cW z c=some ({z with told:=z.told+z.aR,aR:=0,weight:=1,done:=true},z.aR,0):=by unfold cW;rw[if_neg ca,if_neg Z,if_pos cd]
   refine wW (vs:=mw {z with told:=z.told+z.aR,aR:=0,weight:=1,done:=true} nS (z.aR:Int) (-1) 0) rfl (qG rfl _ _ _) rfl (by simp only[aw _ _ P];exact A) R jO fun p _=> ?_;unfold qF;rw[m];exact⟨nS,[],I _ _ _ rfl rfl,fun b o=>(aJ.not_nil o).elim,rfl⟩
  ·have zd:(((c:Nat):Int)==((z.n+1:Nat):Int))=false:=beq_eq_false_iff_ne.2 jO;have wq:IntKind.i64.wrap (((z.told+z.aR:Nat):Int)+1)=((z.told+z.aR+1:Nat):Int):=by rw[aH jO jO];rfl
   have O:((z.told+z.aR:Nat):Int)+1=((z.told+z.aR+1:Nat):Int):=rfl;have N:IntKind.i64.wrap ((z.told+z.aR+1:Nat):Int)=((z.told+z.aR+1:Nat):Int):=aH jO jO;by_cases ce:z.told+z.aR=z.most
   ·have G:((z.most:Nat):Int)<((z.told+z.aR+1:Nat):Int):=jO;refine jA (aI @t (aI @C (aI @wt (aI @L (aI @K (aI @w1 (aI @W (aI @zd (aI @y (aI @wq (aI @O (aI @N @G)))))))))))) ?_;refine fK (B:=⟨233,true,fc z f⟩) trivial trivial n 0 _ (by simp only[aw _ _ v1];exact u9) v2 (show 0+5<=5 by omega) ?_
    have m:cW z c=none:=by unfold cW;rw[if_neg ca,if_neg Z,if_neg cd,if_pos ce]
    refine wW (vs:=mw z f 0 0 2) rfl (qG j _ _ _) rfl (by simp only[aw _ _ P];exact A) R jO fun p _=> ?_;unfold qF;rw[m];exact⟨2,.inr rfl,rfl⟩
   ·have G:¬((z.most:Nat):Int)<((z.told+z.aR+1:Nat):Int):=jO;refine jA (aI @t (aI @C (aI @wt (aI @L (aI @K (aI @w1 (aI @W (aI @zd (aI @y (aI @wq (aI @O (aI @N @G)))))))))))) ?_;refine fK trivial trivial (n+1+1) 0 _ (get_eq _ _ _) l2 (show 0+5<=5 by omega) ?_
    have m:cW z c=some ({z with told:=z.told+1+z.aR,aR:=0,weight:=1},z.aR,c-1):=by unfold cW;rw[if_neg ca,if_neg Z,if_neg cd,if_neg ce]
    rw[show z.told+1+z.aR=z.told+z.aR+1 by omega]at m
    have u4:((c:Nat):Int)-1=(if c-1=0 then-1 else((c-1:Nat):Int)):=by rw[if_neg jO];omega
    rw[u4];generalize v3:(if c-1=0 then-1 else((c-1:Nat):Int))=pl;generalize z.told+z.aR+1=tt at m⊢;clear u4 G wq O N;rw[show({z with told:=tt,aR:=0,weight:=1}:Zr)={z with told:=tt,aR:=0,weight:=1,done:=false} by rw[<-E.nd]]at m;refine wW (vs:=mw {z with told:=tt,aR:=0,weight:=1,done:=false} nS (z.aR:Int) pl 0) rfl (qG rfl _ _ _) rfl (by simp only[aw _ _ P];exact A) R jO fun p _=> ?_;unfold qF;rw[m];exact⟨nS,[],I _ _ _ rfl rfl,fun b o=>(aJ.not_nil o).elim,by rw[v3]⟩
end
theorem YC{a:Zr}{cs:List Nat}{i:Nat}{z:Zr}{ps:List Nat}(c:i<cs.length)(h:dh a (cs.take i)=some (z,ps)):dh a (cs.take (i+1))=match cW z cs[i]with
 |none=>none
 |some (b,n,p)=>some (b,ps++(bQ n 0++gW p)):=by
 rw[m9 c];exact Er _ _ _ _ _ h
theorem Ab{d:Zr}:∀(a b:List Nat),dh d a=none->dh d (a++b)=none
 |[],b,h=>by cases h
 |c::a,b,h=>by
  unfold dh at h
  show(match cW d c with
   |none=>none
   |some (f,n,p)=>match dh f (a++b)with
    |none=>none
    |some (i,j)=>some (i,(bQ n 0++gW p)++j))=none
  cases e:cW d c with
  |none=>rfl
  |some t=>
   obtain⟨f,n,p⟩:=t;rw[e]at h;simp only at h⊢;cases g:dh f a with
   |none=>rw[Ab a b g]
   |some k=>rw[g]at h;cases h
section
variable {Y d n:Nat} {h:H}
theorem ajS{v:Value}(cs:List Nat)(g room:Nat)(h1:1<=g)(h2:g<=256)(hm:room<=1000000)(u1:∀c∈cs,c<=1000)(I:∀i,i+1<cs.length->cs.getD i 0≠g+1)(hR:Row h n 3 .i64 v (iN cs))(hl:cs.length<=100000000)(Z:100<=Y)(u7:cs.length<Y):
 af (fun _=>False) n (aj aa gt Y (d+4) 130 #[v,jI (g:Int),jI (room:Int)]) h n fun v' _ _=>if(dh (ew g room) cs).isSome=true then v'=jI 0 else∃e:Int,e≠0∧v'=jI e:=by
 rw[aC (fun _=>ad0) rfl];refine af.aB ?_;unfold H2;have il:(iN cs).length=cs.length:=by unfold iN;rw[fQ]
 have kl:∀K:Value->M Value,bx v K=K (jI (cs.length:Int)):=fun K=>by obtain⟨a,c,e⟩:=hR.len;rw[e,il];rfl
 refine jB ?_;refine dL rfl _ ?_;refine nH (sz:=5) (off:=0) (e:=233) (cs:=z233) trivial (vs:=fc (ew g room) nS) rfl rfl rfl (get_eq _ _ _) jO jD (.inl (ah n)) _ fun Q g4 k4=> ?_;have W:∀b,b<n->Q.get b=h.get b:=fun b hb=>by rw[k4 b jO,aw _ _ jO]
 have u6:Q.get n=some ⟨233,true,fc (ew g room) nS⟩:=g4;refine jA @kl ?_;refine dE cs.length (fun fu i (_:Unit)=>tM Y (aj aa gt Y (d+3)) fu (yq Y (aj aa gt Y (d+3))) v (jI (g:Int)) (jI (room:Int)) (jI 0) (jP n 0) v (jI (cs.length:Int)) (jI (i:Nat))) (fun i _ J N=>n<N∧(∀b,b<n->J.get b=h.get b)∧∃z u q L,dh (ew g room) (cs.take i)=some (z,L)∧z.n=g∧z.most=room∧(i<cs.length->z.Ok)∧J.get n=some ⟨233,true,fc z u⟩∧lA J N z u q) ?_ ?_ Y 0 () Q (n+1) (aP _) jO ⟨dO n,W,ew g room,nS,[],[],rfl,rfl,rfl,fun _=>D' h1 h2 jO,u6,⟨(Own.nil Q 0 (n+1) 3).row (k:= .i64) (xs:=[]),fun c hc=>(by cases hc),jD,rfl⟩⟩
 ·rintro fu _ J N ⟨q1,q2,z,u,q,L,D,_⟩;rw[iY]at D;rw[tM];refine jA @eO ?_;unfold yq;rw[k8,D,if_pos (show(some (z,L)).isSome=true from rfl)]
 ·rintro fu i _ J N B ⟨q1,q2,z,u,q,L,D,C,e3,T,e5,e6⟩ next;have c1:((i:Nat):Int)<((cs.length:Nat):Int):=jO;have w1:((i:Nat):Int)+1=((i+1:Nat):Int):=rfl;have u3:=hR.au (am' q1) q2;obtain⟨bb,off,cap,o,ks,ev,hg,u8,_,_,_,u2⟩:=u3.some jO;have a1:=u2 i jO
  have e0:(iN cs).getD i 0=((cs[i]:Nat):Int):=by unfold iN;rw[bw,iW,bA B];rfl
  rw[e0]at a1;rw[il]at ev
  have kx:∀K:Value->M Value,bM v (jI (i:Int)) K=K (jP bb (off+i)):=fun K=>by rw[ev];exact jC @c1
  have O:=YC B D;rw[tM];refine jA (aI @c1 (aI @kx (aI @hg @a1))) ?_;refine fK trivial trivial n 0 _ e5 q1 (show 0+5<=5 by omega) ?_;refine aN aE (YB (Y:=Y) (d:=d) e6 (T B) jO cs[i] (u1 _ (dH B)) Z) jO (fun _ _ h=>h.elim) fun v5 h5 j G A l=> ?_;unfold qF at l
  have whole:∀x,dh (ew g room) (cs.take (i+1))=x->x=none->dh (ew g room) cs=none:=fun x q3 q4=>by rw[<-Aq (i+1) cs];exact Ab _ _ (q3.trans q4)
  cases ep:cW z cs[i]with
  |none=>
   rw[ep]at l O;obtain⟨e,he,rfl⟩:=l;refine dL rfl _ ?_
   refine nH (sz:=8) (off:=0) (e:=235) (cs:=j2) trivial (vs:=mw z u 0 0 e) rfl rfl (qG (by
    obtain⟨a,b,e⟩:=e6.row.len;rw[e]
    rfl) _ _ _) (get_eq _ _ _) jO jD (.inl jO) _ fun P R k6=> ?_
   have U:(e !=0)=true:=by rw[bne_iff_ne];omega
   have r:P.get j=some ⟨235,true,[jI (z.n:Int),jI (z.most:Int),jI (z.told:Int),u,.bool z.done,jI 0,jI 0,jI e]⟩:=R;have l6:j<j+1:=dO j;refine jA (aI @r @U) ?_;unfold yq;refine jB ?_;rw[whole _ O rfl,if_neg jD];exact⟨e,jO,rfl⟩
  |some t=>
   obtain⟨s,m,p⟩:=t;rw[ep]at l O;obtain⟨f,q',E,_,rfl⟩:=l
   have o5:Ev.one f=true:=by obtain⟨a,b,e⟩:=E.row.len;rw[e];rfl
   obtain⟨p1,p2,p3,p4,p5,p6,p7⟩:=Ea (T B) ep;refine dL rfl _ ?_;refine nH (sz:=8) (off:=0) (e:=235) (cs:=j2) trivial (vs:=mw s f (m:Int) (if p=0 then-1 else(p:Int)) 0) rfl rfl (qG o5 _ _ _) (get_eq _ _ _) jO jD (.inl jO) _ fun P R k6=> ?_;generalize (if p=0 then-1 else(p:Int))=pl at R⊢;have y:∀b,b<j->P.get b=h5.get b:=fun b hb=>by rw[k6 b jO,aw _ _ jO]
   have U:((0:Int) !=0)=false:=rfl;have r:P.get j=some ⟨235,true,[jI (s.n:Int),jI (s.most:Int),jI (s.told:Int),f,.bool s.done,jI (m:Int),jI pl,jI 0]⟩:=R;have l6:j<j+1:=dO j;have u4:=(y n jO).trans ((A n q1 id).trans e5);refine jA (aI @r @U) ?_;refine fK trivial trivial j 0 _ r l6 (show 0+5<=8 by omega) ?_;refine nH (sz:=5) (off:=0) (e:=233) (cs:=fc z u) trivial (vs:=fc s f) rfl rfl (by unfold fc;simp only[LF,Mb,o5];rfl) u4 jO (by show 0+5<=5;omega) (.inl (ah n)) _ fun h7 g7 k7=> ?_;have u5:h7.get n=some ⟨233,true,fc s f⟩:=g7;refine jB ?_;rw[w1];refine next () h7 (j+1) ⟨jO,fun b hb=>by rw[k7 b jO,y b jO,A b jO id,q2 b hb],s,f,q',_,O,p2.trans C,p3.trans e3,fun u0=>p1 ?_,u5, ?_⟩
   ·rw[p5,decide_eq_false_iff_not,C];have:=I i u0;rw[bw,bA B]at this;exact this
   ·refine⟨?_,E.one,E.len,E.eq⟩;have G:=(A n q1 id).trans e5;rcases E.row with q|⟨b,off,cap,o,ks,D,C,e3,T⟩
    ·exact .inl q
    ·have X:b≠n:=fun q=>by rw[q,G]at C;cases C
     exact .inr ⟨b,off,cap,o,ks,D,(k7 b X).trans ((y b e3).trans C),jO,T⟩
end
def j8:Nat->List (List Nat)->List Nat->Nat->List Bool->Nat->List Int
 |0,_,_,_,_,_=>[]
 |N+1,a,took,b,c,k=>if took.length<=k/50 then []else
  match fC (a.getD (took.getD (k/50) 0) []) c with
  |none=>[]
  |some s=>(s:Int)::(if s+1=b then []else j8 N a took b (c.drop ((a.getD (took.getD (k/50) 0) []).getD s 0)) (k+1))
def Ac(P:List Int->Bool):Ck:=fun out sym=>if P (out++[sym])=true then none else some 25
def mV:Ck:=fun _ _=>none
theorem ajT{c:List (List Nat)}{took:List Nat}{size:Nat}(P:List Int->Bool)(mono:∀a b,P (a++b)=true->P a=true):∀(N:Nat) (bs:List Bool) (out:List Int) (a:Nat),P out=true->fS N c took size bs (Ac P) out a=cond (P (out++j8 N c took size bs out.length)) (fS N c took size bs mV out a) (.err 25):=by
 intro N
 induction N with
 |zero=>intro bs out a h;unfold j8;rw[bR,h];rfl
 |succ N j=>
  intro bs out a h;unfold j8 fS;by_cases f:took.length<=out.length/50
  ·rw[if_pos f,if_pos f,if_pos f,bR,h];rfl
  rw[if_neg f,if_neg f,if_neg f];cases e:fC (c.getD (took.getD (out.length/50) 0) []) bs with
  |none=>dsimp only;rw[bR,h];rfl
  |some s=>
   dsimp only;have k:mV out (s:Int)=none:=rfl;rw[k];by_cases g:P (out++[(s:Int)])=true
   ·have i:Ac P out (s:Int)=none:=if_pos g;rw[i];dsimp only;by_cases d:s+1=size
    ·rw[if_pos d,if_pos d,if_pos d,g];rfl
    ·rw[if_neg d,if_neg d,if_neg d,j _ _ _ g];rw[dY,Fi,bE];rfl
   ·have i:Ac P out (s:Int)=some 25:=if_neg g;rw[i];dsimp only;refine(show∀(b:Bool) (A:Rs),b=false->Rs.err 25=cond b A (.err 25)from fun b A q=>by rw[q];rfl) _ _ ?_;refine Bool.eq_false_iff.2 fun q=> ?_;refine g (mono _ (if s+1=size then []else j8 N c took size (bs.drop ((c.getD (took.getD (out.length/50) 0) []).getD s 0)) (out.length+1)) ?_);rw[dY,Fi];exact q
def jq(size:Nat)(bs:List Bool):List Int:=match dq (bs.length+1) fN bs 0 with
 | .short=>[]
 | .bad _=>[]
 | .ok s a=>match dW s.t size (bs.drop a) 0 []with
   | .short=>[]
   | .bad _=>[]
   | .ok b u=>j8 (bs.length+1) b s.bu size (bs.drop (a+u)) 0
theorem ajU(P:List Int->Bool)(mono:∀a b,P (a++b)=true->P a=true)(c:P []=true)(size:Nat)(bs:List Bool):ir size bs (Ac P)=cond (P (jq size bs)) (ir size bs mV) (.err 25):=by
 unfold ir jq;cases dq (bs.length+1) fN bs 0 with
 |short=>dsimp only;rw[c];rfl
 |bad e=>dsimp only;rw[c];rfl
 |ok s a=>
  dsimp only;cases dW s.t size (bs.drop a) 0 []with
  |short=>dsimp only;rw[c];rfl
  |bad e=>dsimp only;rw[c];rfl
  |ok d u=>dsimp only;rw[ajT P mono _ _ _ _ c];rfl
def qH(n room:Nat)(l:List Int):Bool:=(dh (ew n room) (ej l)).isSome
theorem ajV(n room:Nat):iQ n room=Ac (qH n room):=rfl
theorem ajW(n room:Nat)(a b:List Int)(h:qH n room (a++b)=true):qH n room a=true:=by
 unfold qH at h⊢;have e:ej (a++b)=ej a++ej b:=by unfold ej;rw[pT]
 rw[e]at h;cases q:dh (ew n room) (ej a)with
 |none=>rw[Ab _ _ q]at h;cases h
 |some t=>rfl
theorem YD(n room size:Nat)(bs:List Bool):ir size bs (iQ n room)=cond (qH n room (jq size bs)) (ir size bs mV) (.err 25):=by rw[ajV];exact ajU _ (ajW n room) rfl size bs
theorem ajX{a:List (List Nat)}{took:List Nat}{size:Nat}:∀(N:Nat) (bs:List Bool) (k i:Nat),i+1<(j8 N a took size bs k).length->(j8 N a took size bs k).getD i 0+1≠(size:Int):=by
 intro N
 induction N with
 |zero=>intro bs k i h;exact absurd h (kS _)
 |succ N d=>
  intro bs k i h;unfold j8 at h⊢;by_cases c:took.length<=k/50
  ·rw[if_pos c]at h;exact absurd h (kS _)
  rw[if_neg c]at h⊢;cases e:fC (a.getD (took.getD (k/50) 0) []) bs with
  |none=>rw[e]at h;exact absurd h (kS _)
  |some s=>
   rw[e]at h;dsimp only at h⊢;by_cases b:s+1=size
   ·rw[if_pos b]at h;have:i+1<1:=h;omega
   ·rw[if_neg b]at h⊢;cases i with
    |zero=>show((s:Nat):Int)+1≠(size:Int);omega
    |succ i=>rw[cK]at h;exact d _ _ i jO
theorem ajY{size:Nat}{bs:List Bool}(i:Nat)(h:i+1<(jq size bs).length):(jq size bs).getD i 0+1≠(size:Int):=by
 unfold jq at h⊢;cases e:dq (bs.length+1) fN bs 0 with
 |short=>rw[e]at h;exact absurd h (kS _)
 |bad x=>rw[e]at h;exact absurd h (kS _)
 |ok s a=>
  rw[e]at h;dsimp only at h⊢;cases b:dW s.t size (bs.drop a) 0 []with
  |short=>rw[b]at h;exact absurd h (kS _)
  |bad x=>rw[b]at h;exact absurd h (kS _)
  |ok c u=>rw[b]at h;exact ajX _ _ _ i h
def uM:List Bool:=dS [66,90,104]
section
variable {Y d n:Nat} {h:H}
end
theorem ajZ{S:List UInt8}{room:Nat}:∀(N M a t:Nat),(ar S 0 a).length<48*N->(ar S 0 a).length<48*M->fX S room N a t=fX S room M a t:=by
 intro N
 induction N with
 |zero=>intro M a t h;omega
 |succ N d=>
  intro M a t k j;obtain⟨M,rfl⟩:∃m,M=m+1:=⟨M-1,jO⟩;unfold fX;by_cases c:(ar S 0 a).length<48
  ·rw[if_pos c,if_pos c]
  rw[if_neg c,if_neg c];by_cases b:num ((ar S 0 a).take 48) 0=jM
  ·rw[if_pos b,if_pos b];cases lr room (ar S 0 (a+48))with
   |short=>rfl
   |bad e=>rfl
   |ok g w=>
    dsimp only;cases fD g with
    |error e=>rfl
    |ok x=>dsimp only;have i:=fi S 0 (a+48+w);have f:=fi S 0 a;rw[d M (a+48+w) (ft t g.sum) jO jO]
  ·rw[if_neg b,if_neg b]
def YE(n:Nat)(b:List Nat)(a:Value)(h':H)(n':Nat):Prop:=∃pv,a= .tuple #[pv,jI 0]∧Own h' (n+1) n' 3 pv (aW .i64 (iN b))
section
variable {Y d n:Nat} {h:H}
theorem aj0 {v:Value} (cs:List Nat) (y room:Nat) (h1:1<=y) (h2:y<=256) (hm:room<=1000000) (u9:∀c∈cs,c<=1000) (u6:∀i,i+1<cs.length->cs.getD i 0≠y+1) (hR:Row h n 3 .i64 v (iN cs)) (hl:cs.length<=100000000) (w4:2000000<=Y) (v6:cs.length<Y)
 {zl:Zr} {pl:List Nat} (hz:dh (ew y room) cs=some (zl,pl)) (hd:zl.done=true):
 af (fun _=>False) n (aj aa gt Y (d+4) 132 #[v,jI (y:Int),jI (room:Int)]) h n (YE n pl):=by
 rw[aC (fun _=>ad5) rfl];refine af.aB ?_;unfold H4;have il:(iN cs).length=cs.length:=by unfold iN;rw[fQ]
 have kl:∀K:Value->M Value,bx v K=K (jI (cs.length:Int)):=fun K=>by obtain⟨a,c,e⟩:=hR.len;rw[e,il];rfl
 have q1:¬((y:Nat):Int)<1:=jO;have q2:¬(256:Int)<((y:Nat):Int):=jO;have q3:¬((room:Nat):Int)<0:=jO;have q4:¬(1099511627776:Int)<((room:Nat):Int):=jO;refine jA (aI @q1 (aI @q2 (aI @q3 @q4))) ?_;refine dL rfl _ ?_;refine nH (sz:=5) (off:=0) (e:=233) (cs:=z233) trivial (vs:=fc (ew y room) nS) rfl rfl rfl (get_eq _ _ _) jO jD (.inl (ah n)) _ fun h4 g4 k4=> ?_;have v3:h4.get n=some ⟨233,true,fc (ew y room) nS⟩:=g4;have u7:∀b,b<n->h4.get b=h.get b:=fun b l=>by rw[k4 b jO,aw _ _ jO]
 refine jA @kl ?_;refine dE cs.length (fun fu i (o:Value)=>qt Y (aj aa gt Y (d+3)) fu (vW Y (aj aa gt Y (d+3))) v (jI (y:Int)) (jI (room:Int)) nS (jI 0) (jP n 0) o (.bool false) v (jI (cs.length:Int)) (jI (i:Nat))) (fun i o h' n'=>n<n'∧(∀b,b<n->h'.get b=h.get b)∧∃z rv q C,dh (ew y room) (cs.take i)=some (z,C)∧z.n=y∧z.most=room∧(i<cs.length->z.Ok)∧h'.get n=some ⟨233,true,fc z rv⟩∧lA h' n' z rv q∧Own h' (n+1) n' 3 o (aW .i64 (iN C))∧C.length<=i+z.told) ?_ ?_ Y 0 nS h4 (n+1) (aP _) jO ⟨dO n,u7,ew y room,nS,[],[],rfl,rfl,rfl,fun _=>D' h1 h2 jO,v3,⟨(Own.nil h4 0 (n+1) 3).row (k:= .i64) (xs:=[]),fun c hc=>(by cases hc),jD,rfl⟩,Own.nil _ _ _ _,aP _⟩
 ·rintro fu o h' n' ⟨q1,q2,z,rv,q,C,e1,e2,e3,e4,e5,e6,e7,e8⟩;rw[iY,hz]at e1;cases e1;have v4:h'.get n=some ⟨233,true,[jI (zl.n:Int),jI (zl.most:Int),jI (zl.told:Int),rv,.bool true]⟩:=by rw[e5,<-hd];rfl
  rw[qt];refine jA @eO ?_;unfold vW;refine jA (aI @v4 @q1) ?_;exact⟨o,rfl,e7⟩
 ·rintro fu i o h' n' hi ⟨q1,q2,z,rv,q,C,e1,e2,e3,e4,e5,e6,e7,e8⟩ next;have c1:((i:Nat):Int)<((cs.length:Nat):Int):=jO;have w1:((i:Nat):Int)+1=((i+1:Nat):Int):=rfl;have v1:=hR.au (am' q1) q2;obtain⟨bb,off,cap,oo,ks,ev,hg,w5,_,_,_,v0⟩:=v1.some jO;have a1:=v0 i jO
  have e0:(iN cs).getD i 0=((cs[i]:Nat):Int):=by unfold iN;rw[bw,iW,bA hi];rfl
  rw[e0]at a1;rw[il]at ev
  have kx:∀K:Value->M Value,bM v (jI (i:Int)) K=K (jP bb (off+i)):=fun K=>by rw[ev];exact jC @c1
  have N:=YC hi e1;have zo:=e4 hi;rw[qt];refine jA (aI @c1 (aI @kx (aI @hg @a1))) ?_;refine fK trivial trivial n 0 _ e5 q1 (show 0+5<=5 by omega) ?_;refine aN aE (YB (Y:=Y) (d:=d) e6 zo jO cs[i] (u9 _ (dH hi)) jO) jO (fun _ _ h=>h.elim) fun v5 h5 r w3 u5 u1=> ?_;unfold qF at u1;cases ep:cW z cs[i]with
  |none=>
   rw[ep]at N
   have:dh (ew y room) cs=none:=by rw[<-Aq (i+1) cs];exact Ab _ _ N
   rw[hz]at this;cases this
  |some t=>
   obtain⟨Q,m,p⟩:=t;rw[ep]at u1 N;obtain⟨s,q',x5,f5,rfl⟩:=u1
   have o5:Ev.one s=true:=by obtain⟨a,b,e⟩:=x5.row.len;rw[e];rfl
   obtain⟨p1,p2,p3,p4,p5,p6,p7⟩:=Ea zo ep;have v8:=K0 ep;have v7:=p7;refine dL rfl _ ?_;refine nH (sz:=8) (off:=0) (e:=235) (cs:=j2) trivial (vs:=mw Q s (m:Int) (if p=0 then-1 else(p:Int)) 0) rfl rfl (qG o5 _ _ _) (get_eq _ _ _) jO jD (.inl jO) _ fun G g6 k6=> ?_;obtain⟨Z,O⟩:∃x:Int,(if p=0 then-1 else(p:Int))=x:=⟨_,rfl⟩;rw[O]at g6;have L:∀b,b<r->G.get b=h5.get b:=fun b l=>by rw[k6 b jO,aw _ _ jO]
   have ze:((0:Int) !=0)=false:=rfl;have z7:((0:Int)==7)=false:=rfl;have P:G.get r=some ⟨235,true,[jI (Q.n:Int),jI (Q.most:Int),jI (Q.told:Int),s,.bool Q.done,jI (m:Int),jI Z,jI 0]⟩:=g6;have l6:r<r+1:=dO r;have u3:=(L n jO).trans ((u5 n q1 id).trans e5)
   have o6:Own G (n+1) (r+1) 3 o (aW .i64 (iN C)):=e7.au jO fun b l=>by have:=e7.lt l;rw[L b jO];exact u5 b this.2 id
   have v9:C.length+m<=1099511627776:=jO;refine jA (aI @P (aI @ze @z7)) ?_;have w0:=p7
   have fin:∀(g:Value) (u:H) (f:Nat),r<f->u.get n=G.get n->u.get r=G.get r->(∀b,b<n->u.get b=G.get b)->Row u f 3 .i64 s (iN q')->Own u (n+1) f 3 g (aW .i64 (iN (C++(bQ m 0++gW p))))->
    af (fun _=>False) n (aT 5 (jP r 0) fun o=>aM 5 (jP n 0) o fun _=>qt Y (aj aa gt Y (d+3)) fu (vW Y (aj aa gt Y (d+3))) v (jI (y:Int)) (jI (room:Int)) nS (jI 0) (jP n 0) g (.bool false) v (jI (cs.length:Int)) (jI ((i:Int)+1))) u f (YE n pl):=fun g u f W U T b4 I D=>by
    have R:=T.trans P;refine fK trivial trivial r 0 _ R W (show 0+5<=8 by omega) ?_;refine nH (sz:=5) (off:=0) (e:=233) (cs:=fc z rv) trivial (vs:=fc Q s) rfl rfl (by unfold fc;simp only[LF,Mb,o5];rfl) (U.trans u3) jO (by show 0+5<=5;omega) (.inl (ah n)) _ fun h7 g7 k7=> ?_;have v2:h7.get n=some ⟨233,true,fc Q s⟩:=g7
    have ne:∀{w:Value} {lo:Nat} {cs:List Value},Own u lo f 3 w cs->∀b,aJ w b->b≠n:=fun o b l q=>by obtain⟨B,E,X⟩:=o.elem l;rw[q,U,u3]at E;cases E;exact absurd (show 233=3 from X) jD
    rw[w1];refine next g h7 f ⟨jO,fun b l=>by rw[k7 b jO,b4 b l,L b jO,u5 b jO id,q2 b l],Q,s,q',_,N,p2.trans e2,p3.trans e3,fun u8=>p1 ?_,v2,⟨?_,x5.one,x5.len,x5.eq⟩,D.au (ah _) fun b l=>k7 b (ne D b l), ?_⟩
    ·rw[p5,decide_eq_false_iff_not,e2];have:=u6 i u8;rw[bw,bA hi]at this;exact this
    ·refine I.kG (ah _) fun b l=>k7 b fun q=> ?_;obtain⟨B,E,X⟩:=I.elem l;rw[q,U,u3]at E;cases E;exact absurd (show 233=3 from X) jD
    ·have lp:(gW p).length<=1:=by unfold gW;split<;>simp
     rw[bE,bE,jX];omega
   have R6:Row G (r+1) 3 .i64 s (iN q'):=x5.row.au jO L;refine dE m (fun u4 j (g:Value)=>tN Y (aj aa gt Y (d+3)) u4 (RF Y (aj aa gt Y (d+3)) fu (vW Y (aj aa gt Y (d+3)))) v (jI (y:Int)) (jI (room:Int)) nS (jI 0) (jP n 0) g (jI (cs[i]:Int)) (jP r 0) (.bool false) v (jI (cs.length:Int)) (jI (i:Nat)) (.bool true) (.bool false) (.bool false) (jI (m:Int)) (jI (j:Nat))) (fun j g u f=>r<f∧u.get n=G.get n∧u.get r=G.get r∧(∀b,b<n->u.get b=G.get b)∧Row u f 3 .i64 s (iN q')∧Own u (n+1) f 3 g (aW .i64 (iN (C++bQ j 0)))∧(∀b,aJ g b->¬aJ s b)) ?_ ?_ Y 0 o G (r+1) (aP _) jO ⟨l6,rfl,rfl,fun _ _=>rfl,R6,by rw[List.replicate_zero,bR];exact o6,fun b l u2=>by have:=(e7.lt l).2;have:=f5 b u2;omega⟩
   ·rintro u4 g u f ⟨W,U,T,b4,I,D,b7⟩;rw[tN];refine jA @eO ?_
    (try unfold RF);(try unfold Cf);(try dsimp only)
    have R:=T.trans P;have A:(aW .i64 (iN (C++bQ m 0))).length=C.length+m:=by rw[eh];unfold iN;rw[fQ,bE,jX]
    by_cases hp:p=0
    ·rw[if_pos hp]at O;have zp:¬(0:Int)<=Z:=jO;refine jA (aI @R (aI @zp @W)) ?_;refine fin g u f W U T b4 I ?_;rw[show gW p=[] by unfold gW;rw[if_neg jO],bR];exact D
    ·rw[if_neg hp]at O;have zp:(0:Int)<=Z:=jO;refine jA (aI @R (aI @zp @W)) ?_;refine rB trivial rfl D (by rw[A];omega) jO _ fun h8 g8 J=> ?_;rw[A]
     have x1:h8.get r=u.get r:=J r W fun q=>by obtain⟨B,E,X⟩:=D.elem q;rw[R]at E;cases E;exact absurd (show 235=3 from X) jD
     have w6:=x1.trans R;have l8:r<f+2:=jO;refine jB ?_;refine fin _ h8 (f+2) l8 ((J n jO fun q=>by have:=(D.lt q).1;omega).trans U) (x1.trans T) (fun b l=>(J b jO fun q=>by have:=(D.lt q).1;omega).trans (b4 b l)) (I.kG jO fun b l=>J b (I.lt l) fun q=>b7 b q l) ?_;rw[show gW p=[p] by unfold gW;rw[if_pos jO],<-dY,pr,mO];refine Own.mk' ?_ jO jO (by rw[bE,A];rfl);rw[g8,<-O];rfl
   ·rintro u4 j g u f hj ⟨W,U,T,b4,I,D,b7⟩ u0;have c2:((j:Nat):Int)<((m:Nat):Int):=jO;have w2:((j:Nat):Int)+1=((j+1:Nat):Int):=rfl;have A:(aW .i64 (iN (C++bQ j 0))).length=C.length+j:=by rw[eh];unfold iN;rw[fQ,bE,jX]
    have R:=T.trans P;rw[tN];refine jA @c2 ?_;refine rB trivial rfl D (by rw[A];omega) jO _ fun h8 g8 J=> ?_;rw[A]
    have x1:h8.get r=u.get r:=J r W fun q=>by obtain⟨B,E,X⟩:=D.elem q;rw[R]at E;cases E;exact absurd (show 235=3 from X) jD
    refine jB ?_;rw[w2];refine u0 _ h8 (f+2) ⟨jO,(J n jO fun q=>by have:=(D.lt q).1;omega).trans U,x1.trans T,fun b l=>(J b jO fun q=>by have:=(D.lt q).1;omega).trans (b4 b l),I.kG jO fun b l=>J b (I.lt l) fun q=>b7 b q l, ?_,fun b l u2=>by have:=I.lt u2;rw[l.inj]at this;omega⟩;rw[List.replicate_succ',<-dY,pr,mO];exact Own.mk' g8 jO jO (by rw[bE,A];rfl)
end
def Ew(n:Nat)(out:List Int)(a:Value)(h':H)(n':Nat):Prop:=Own h' n n' 3 a (aW .i64 out)
section
variable {Y d n:Nat} {h:H}
theorem aj1 {l:List Bool} (hl:l.length<=1000000) (w2:3000000<=Y) {size T:Nat} (v7:3<=size) (v5:size<=258) {lns:List (List Nat)} {took:List Nat} (hw:∀ln∈lns,Wh ln∧ln.length=size) (X:∀v∈took,v<lns.length) (hT:lns.length=T) (x1:T<=6) (v3:took.length<=40000)
 {q1 q2 lo:Nat} {pv tv:Value} {x2 x3 y1:Int} (Z:n<=lo) (v9:q1<lo∧n<=q1) (v8:q2<lo∧n<=q2):
 ∀(N x:Nat) (h':H) (n':Nat) (ov:Value) (out:List Int) (a:Nat),lo<=n'->h'.get q1=some ⟨224,true,[pv,jI (T:Int),jI x2,jI x3,jI 0]⟩->h'.get q2=some ⟨228,true,[tv,jI y1,jI 0]⟩->Row h' lo 3 .i64 pv (iN took)->TT h' 0 lo tv lns->
  (l.drop a).length<N->N<=x->a<=l.length->out.length+(l.drop a).length<=1000000->Own h' lo n' 3 ov (aW .i64 out)->
  af (fun _=>False) n (vU Y (aj aa gt Y (d+4)) x (vV Y (aj aa gt Y (d+4))) (tx l) (jI (size:Int)) nS (jP q1 0) (jP q2 0) (jI (a:Int)) ov (.bool false) (.bool false)) h' n' (Ew n (out++j8 N lns took size (l.drop a) out.length)):=by
 intro N
 induction N with
 |zero=>intro x h' n' ov out a _ _ _ _ _ hN;omega
 |succ N ih=>
  intro x h' n' ov out a w1 g1 g2 P tt hN w4 w9 w0 B;obtain⟨x,rfl⟩:∃f,x=f+1:=⟨x-1,jO⟩;obtain⟨oa,oc,rfl⟩:=B.row.len;have w3:=fa took;have w5:(l.drop a).length=l.length-a:=bC;have u8:q1<n':=jO;have u7:q2<n':=jO;have L:((out.length:Nat):Int).tdiv 50=((out.length/50:Nat):Int):=rfl;have E:IntKind.i64.wrap ((out.length/50:Nat):Int)=((out.length/50:Nat):Int):=aH jO jO;rw[vU];unfold j8;by_cases z:took.length<=out.length/50
  ·obtain⟨pa,pc,rfl⟩:=P.len;have c1:¬((out.length/50:Nat):Int)<(((iN took).length:Nat):Int):=jO;refine jA (aI @g1 (aI @L (aI @E @c1))) ?_;rw[if_pos z,bR]
   (try unfold vV);(try dsimp only)
   rw[k8];exact B.low Z
  ·rw[if_neg z];obtain⟨b,Q,cap,o,ks,rfl,hg,w7,hv⟩:=P.some jO;have c1:((out.length/50:Nat):Int)<(((iN took).length:Nat):Int):=jO;obtain⟨g,j⟩:∃t,took.getD (out.length/50) 0=t:=⟨_,rfl⟩
   have R:ks[Q+out.length/50]? =some (jI (g:Int)):=by rw[hv.2.2.2 _ jO,po,j]
   have v1:b<n':=jO
   have p:g<lns.length:=by refine X g ?_;rw[<-j,bw,bA jO];exact dH _
   obtain⟨C,G,y,K⟩:=tt;obtain⟨bt,e1,A,_,w6⟩:=K g p
   obtain⟨u6,W,u3,_,u9⟩:∃b,tv= .slice (some ⟨b,0,none⟩) C.length (bh+C.length)∧h'.get b=some ⟨230,true,C⟩∧0<=b∧b<lo:=by
    rcases G with ⟨_,e⟩|⟨b,p1,p2,p3,p4⟩
    ·rw[e]at y;have:lns.length=0:=y.symm;omega
    ·exact⟨b,p1,p2,p3,p4⟩
   subst W
   have m:C[g]? =some (.slice (some ⟨bt,0,none⟩) (lns.getD g []).length (lns.getD g []).length):=by rw[<-e1,bw,bA jO];rfl
   have r:lns.getD g []∈lns:=by rw[bw,bA p];exact dH _
   obtain⟨ln,J⟩:∃l,lns.getD g []=l:=⟨_,rfl⟩;rw[j,J];rw[J]at m A r;obtain⟨D,v2⟩:=hw ln r;have v4:(g:Int)<((C.length:Nat):Int):=jO;have u2:u6<n':=jO;have s1:=fun(k:Value->M Value)=>nT l .i64 (a:Int) k jO jO;rw[cR]at s1;refine jA (aI @g1 (aI @g2 (aI @L (aI @E (aI @c1 (aI @hg (aI @R (aI @u3 (aI @m @s1))))))))) ?_;refine bz (XF (Y:=Y) (d:=d+2) D (l.drop a) A jO jO jO) jO (fun _ _ h=>h.elim) ?_;cases u0:fC ln (l.drop a)with
   |none=>
    have c2:decide (wM (none:Option Nat)<0)=true:=rfl;refine jA @c2 ?_
    (try unfold vV);(try dsimp only)
    rw[k8,bR];exact B.low Z
   |some s=>
    obtain⟨m1,m2,m3⟩:=pj u0;have gi:wM (some s)=(s:Int):=rfl;have I:=Ky m1;have v6:((s:Nat):Int)<((ln.length:Nat):Int):=jO;have v0:bt<n':=jO;obtain⟨u,hu⟩:∃u,ln.getD s 0=u:=⟨_,rfl⟩;have U:=(D.at m1);rw[hu]at U m2 I;have u1:(b8 (da ln s) u).length=u:=gT _ _;have c4:decide (((s:Nat):Int)<0)=false:=decide_eq_false jO
    have e2:(((s:Nat):Int)==(size:Int)-1)=decide (s+1=size):=by
     by_cases q:s+1=size
     ·rw[decide_eq_true q];exact beq_iff_eq.2 jO
     ·rw[decide_eq_false q];exact beq_eq_false_iff_ne.2 jO
    refine jA (aI @c4 (aI @gi (aI @A (aI @I (aI @cV (aI @u1 @e2)))))) ?_;rw[hu];refine rX trivial (kF _ _) B (by rw[eh];omega) (fun b z=> .inl (by have:=(B.lt z).1;omega)) _ fun h2 g3 k3=> ?_;have O:∀b,b<lo->h2.get b=h'.get b:=fun b z=>k3 b jO fun q=>by have:=(B.lt q).1;omega
    have u5:=(O q1 jO).trans g1;have u4:=(O q2 jO).trans g2;have on:aW .i64 (out++[(s:Int)])=aW .i64 out++[jI ((s:Nat):Int)]:=by rw[mO];rfl
    have oo:Own h2 lo (n'+2) 3 (.slice (some ⟨n'+1,0,none⟩) ((aW .i64 out).length+1) (bh+((aW .i64 out).length+1))) (aW .i64 (out++[(s:Int)])):=by rw[on];exact .inr ⟨n'+1,jS,g3,jO,jO⟩
    by_cases i:s+1=size
    ·rw[decide_eq_true i];refine jB ?_
     (try unfold vV);(try dsimp only)
     rw[k8,if_pos i];exact oo.low Z
    ·rw[decide_eq_false i];refine jB ?_;rw[if_neg i];have:=ih x h2 (n'+2) _ (out++[(s:Int)]) (a+u) jO u5 u4 (P.kG (ah _) fun c hc=>O c (P.lt hc)) (TT.au ⟨C,G,y,K⟩ (ah _) fun b _ z=>O b z) (by rw[bC];omega) jO jO (by rw[bE,bC];simp only[cK,hC];omega) oo;rw[<-jf,dY,bE]at this
     first|exact this|(rw[show(a:Int)+(u:Int)=((a+u:Nat):Int) by omega];exact this)
theorem aj2(l:List Bool)(U:l.length<=1000000)(D:3000000<=Y){size:Nat}(O:3<=size)(N:size<=258):af (fun _=>False) n (aj aa gt Y (d+5) 131 #[tx l,jI (size:Int)]) h n (Ew n (jq size l)):=by
 rw[aC (fun _=>ad2) rfl];refine af.aB ?_;unfold H3;refine aN aE (XC (Y:=Y) (d:=d+2) l U D) jO (fun _ _ h=>h.elim) fun v1 h1 g u9 v4 c=> ?_;obtain⟨pv,t,a,u,e,rfl,c⟩:=c
 have u2:∃x y z,pv= .slice x y z:=by
  cases A:dq (l.length+1) fN l 0 with
  |short=>rw[A]at c;exact⟨_,_,_,c.2⟩
  |bad e0=>rw[A]at c;exact⟨_,_,_,c.2.2⟩
  |ok s m=>rw[A]at c;obtain⟨x,y,z⟩:=c.2.2.2.row.len;exact⟨_,_,_,z⟩
 obtain⟨px,py,pz,rfl⟩:=u2;refine dL yi _ ?_;refine cq (sz:=5) trivial (vs:=[.slice px py pz,jI t,jI a,jI u,jI e]) rfl rfl rfl (get_eq _ _ _) jO (.inl jO) _ fun Q G k2=> ?_;have u8:g<g+1:=jO;have r:∀(Q:H) (n2:Nat),Ew n [] nS Q n2:=fun Q n2=>Own.nil _ _ _ _;unfold jq;cases A:dq (l.length+1) fN l 0 with
 |short=>rw[A]at c;obtain⟨rfl,_⟩:=c;have C:((3:Int) !=0)=true:=rfl;refine jA (aI @G @C) ?_;exact r _ _
 |bad e0=>rw[A]at c;obtain⟨rfl,rfl,_⟩:=c;have C:((25:Int) !=0)=true:=rfl;refine jA (aI @G @C) ?_;exact r _ _
 |ok s m=>
  rw[A]at c;obtain⟨rfl,rfl,rfl,op⟩:=c;obtain⟨ok,h6,fin,hc,_,u4⟩:=si _ _ _ _ _ _ sj (aP _) rfl jD A;rw[fy]at u4;have z0:((0:Int) !=0)=false:=rfl;have s1:=fun(k:Value->M Value)=>nT l .i64 ((m:Nat):Int) k jO jO;rw[cR]at s1;have v0:(l.drop m).length=l.length-m:=bC;have B:=fin;unfold Pk.fin at B;rw[bW,decide_eq_true_eq,decide_eq_true_eq]at B
  have oS:Own Q n g 3 (.slice px py pz) (aW .i64 (iN s.bu)):=op.au (ah _) fun b E=>by have:=op.lt E;rw[k2 b jO,aw _ _ jO]
  refine jA (aI @G @z0) ?_;refine gI trivial g 2 _ G (show g<g+1 by omega) (ah _) rfl fun T1 t1=> ?_;refine jA @s1 ?_;refine WL _ _ (ah _) fun T2 t2=> ?_;refine jB ?_;refine gI trivial g 1 _ G (show g<g+1 by omega) (ah _) rfl fun T3 t3=> ?_;refine jB ?_;refine lP aE (XJ (Y:=Y) (d:=d) (l.drop m) jO D O N h6) jO fun v6 v3 j T4 u3 u5 f t4=> ?_;obtain⟨tv,u1,e1,rfl,⟨L,K,J,rfl⟩,f⟩:=f;refine XK vN _ u3 fun T5 Z=> ?_;refine DS (fun _ _=>rfl) ?_;refine cq (sz:=3) trivial (vs:=[.slice L K J,jI u1,jI e1]) rfl rfl rfl (get_eq _ _ _) jO (.inl jO) _ fun P W k7=> ?_;have I:∀b,b<g+1->P.get b=Q.get b:=fun b E=>by rw[k7 b jO,aw _ _ jO];exact u5 b E
  have R:=(I g jO).trans G;have u6:j<j+1:=jO;have u7:g<j+1:=jO;dsimp only;cases p:dW s.t size (l.drop m) 0 []with
  |short=>
   rw[p]at f;subst f;have C:((3:Int) !=0)=true:=rfl;try simp(disch:=first|omega|assumption) only[Nat.reduceAdd,Nat.reduceLT,RZ,t4.cA Z,cx,eA,dQ,W,C]
   exact r _ _
  |bad e0=>
   rw[p]at f;obtain⟨rfl,rfl⟩:=f;have C:((22:Int) !=0)=true:=rfl;try simp(disch:=first|omega|assumption) only[Nat.reduceAdd,Nat.reduceLT,RZ,t4.cA Z,cx,eA,dQ,W,C]
   exact r _ _
  |ok lns T=>
   rw[p]at f;obtain⟨rfl,rfl,tt⟩:=f;obtain⟨hw,q,_,u0⟩:=uA _ _ _ _ _ _ (fun ln U=>absurd U jS) p;rw[fy]at u0;have q:lns.length=s.t:=by rw[q];show 0+s.t=s.t;omega
   have w1:IntKind.i64.wrap (((m:Nat):Int)+((T:Nat):Int))=((m+T:Nat):Int):=by rw[aH jO jO];omega
   try simp(disch:=first|omega|assumption) only[Nat.reduceAdd,Nat.reduceLT,RZ,t4.cA Z,cx,eA,dQ,W,R,z0,w1]
   have rp:Row P (j+1) 3 .i64 (.slice px py pz) (iN s.bu):=(oS.au (by omega:g<=j+1) fun b E=>I b (by have:=(oS.lt E).2;omega)).row
   have X:TT P 0 (j+1) (.slice L K J) lns:=by
    obtain⟨cs,o,q1,q2⟩:=tt.au (h':=P) (by omega:j<=j+1) fun b E v2=>by rw[k7 b jO,aw _ _ jO]
    exact⟨cs,o.low (aP _),q1,fun i hi=>by obtain⟨b,p1,p2,p3,p4⟩:=q2 i hi;exact⟨b,p1,p2,aP _,p4⟩⟩
   have:=aj1 (n:=n) (d:=d) U D O N (lns:=lns) (took:=s.bu) hw (fun v hv=>by rw[q];exact ok.bu v hv) q h6 jO (q1:=g) (q2:=j) (lo:=j+1) (x2:=(m:Int)) (x3:=u) (y1:=(T:Int)) jO ⟨jO,jO⟩ ⟨jO,jO⟩ (l.length+1) Y P (j+1) (.slice none 0 0) [] (m+T) (ah _) R W rp X (by rw[bC];omega) jO jO (by rw[bC];show 0+_<=_;omega) (Own.nil _ _ _ _);exact this
end
section
variable {aZ:List (List Nat)} {took:List Nat} {size:Nat}
theorem YF(b:∀ln∈aZ,Wh ln∧ln.length=size)(a:∀v∈took,v<aZ.length){j:Nat}(h:¬took.length<=j):Wh (aZ.getD (took.getD j 0) [])∧(aZ.getD (took.getD j 0) []).length=size:=by
 have c:took.getD j 0<aZ.length:=by refine a _ ?_;rw[bw,bA jO];exact dH _
 refine b _ ?_;rw[bw,bA c];exact dH _
theorem aj3(g:∀ln∈aZ,Wh ln∧ln.length=size)(a:∀v∈took,v<aZ.length):∀(N:Nat) (bs:List Bool) (k:Nat),∀c∈j8 N aZ took size bs k,0<=c∧c<(size:Int):=by
 intro N
 induction N with
 |zero=>intro bs k c h;exact absurd h je
 |succ N f=>
  intro bs k c h;unfold j8 at h;by_cases b:took.length<=k/50
  ·rw[if_pos b]at h;exact absurd h je
  rw[if_neg b]at h;cases e:fC (aZ.getD (took.getD (k/50) 0) []) bs with
  |none=>rw[e]at h;exact absurd h je
  |some s=>
   rw[e]at h;dsimp only at h;have m:=(pj e).1;rw[(YF g a b).2]at m;rcases List.mem_cons.1 h with q|q
   ·omega
   ·by_cases d:s+1=size
    ·rw[if_pos d]at q;exact absurd q je
    ·rw[if_neg d]at q;exact f _ _ _ q
theorem aj4:∀(N:Nat) (bs:List Bool) (out:List Int) (a:Nat) (o:List Int) (u:Nat),fS N aZ took size bs mV out a= .ok o u->o=out++j8 N aZ took size bs out.length∧∃i,o=i++[(size:Int)-1]:=by
 intro N
 induction N with
 |zero=>intro bs out a o u h;cases h
 |succ N d=>
  intro bs out a o u h;unfold fS at h;unfold j8;by_cases c:took.length<=out.length/50
  ·rw[if_pos c]at h;cases h
  rw[if_neg c]at h⊢;cases e:fC (aZ.getD (took.getD (out.length/50) 0) []) bs with
  |none=>rw[e]at h;cases h
  |some s=>
   rw[e]at h;dsimp only at h⊢;have f:mV out (s:Int)=none:=rfl;rw[f]at h;dsimp only at h;by_cases b:s+1=size
   ·rw[if_pos b]at h⊢;cases h;exact⟨rfl,out,by rw[show(size:Int)-1=(s:Int) by omega]⟩
   ·rw[if_neg b]at h⊢;obtain⟨q1,q2⟩:=d _ _ _ _ _ h;refine⟨?_,q2⟩;rw[q1,dY,Fi,bE];rfl
theorem aj5(i:∀ln∈aZ,Wh ln∧ln.length=size)(d:∀v∈took,v<aZ.length)(most:Nat):∀(N:Nat) (bs:List Bool) (out:List Int) (a:Nat),out.length+bs.length<=most->fS N aZ took size bs (lim (most:Int)) out a=fS N aZ took size bs mV out a:=by
 intro N
 induction N with
 |zero=>intro bs out a h;rfl
 |succ N g=>
  intro bs out a h;unfold fS;by_cases b:took.length<=out.length/50
  ·rw[if_pos b,if_pos b]
  rw[if_neg b,if_neg b];cases e:fC (aZ.getD (took.getD (out.length/50) 0) []) bs with
  |none=>rfl
  |some s=>
   dsimp only;obtain⟨f,n,m⟩:=pj e;have l:=(YF i d b).1.at f;have j:mV out (s:Int)=none:=rfl;have k:lim (most:Int) out (s:Int)=none:=if_neg jO;rw[j,k];dsimp only;by_cases c:s+1=size
   ·rw[if_pos c,if_pos c]
   ·rw[if_neg c,if_neg c];refine g _ _ _ ?_;rw[bE,bC];simp only[cK,hC];omega
end
section
variable {size:Nat} {bs:List Bool}
theorem aj6:∀c∈jq size bs,0<=c∧c<(size:Int):=by
 intro c h;unfold jq at h;cases f:dq (bs.length+1) fN bs 0 with
 |short=>rw[f]at h;exact absurd h je
 |bad e=>rw[f]at h;exact absurd h je
 |ok s a=>
  rw[f]at h;dsimp only at h;cases b:dW s.t size (bs.drop a) 0 []with
  |short=>rw[b]at h;exact absurd h je
  |bad e=>rw[b]at h;exact absurd h je
  |ok g u=>
   rw[b]at h;obtain⟨ok,p,fin,o,_,m⟩:=si _ _ _ _ _ _ sj (aP _) rfl jD f;obtain⟨i,d,_,k⟩:=uA _ _ _ _ _ _ (fun n l=>absurd l jS) b;have d:g.length=s.t:=by rw[d];show 0+s.t=s.t;omega
   exact aj3 i (fun v j=>by rw[d];exact ok.bu v j) _ _ _ c h
theorem aj7{o:List Int}{u:Nat}(h:ir size bs mV= .ok o u):o=jq size bs∧∃i,o=i++[(size:Int)-1]:=by
 unfold ir at h;unfold jq;cases c:dq (bs.length+1) fN bs 0 with
 |short=>rw[c]at h;cases h
 |bad e=>rw[c]at h;cases h
 |ok s a=>
  rw[c]at h;dsimp only at h⊢;cases b:dW s.t size (bs.drop a) 0 []with
  |short=>rw[b]at h;cases h
  |bad e=>rw[b]at h;cases h
  |ok d f=>rw[b]at h;exact aj4 _ _ _ _ _ _ h
theorem K9(most:Nat)(m:bs.length<=most):ir size bs (lim (most:Int))=ir size bs mV:=by
 unfold ir;cases i:dq (bs.length+1) fN bs 0 with
 |short=>rfl
 |bad e=>rfl
 |ok s a=>
  dsimp only;cases d:dW s.t size (bs.drop a) 0 []with
  |short=>rfl
  |bad e=>rfl
  |ok c u=>
   dsimp only;obtain⟨ok,o,fin,n,_,k⟩:=si _ _ _ _ _ _ sj (aP _) rfl jD i;obtain⟨f,b,_,h⟩:=uA _ _ _ _ _ _ (fun l j=>absurd j jS) d;have b:c.length=s.t:=by rw[b];show 0+s.t=s.t;omega
   exact aj5 f (fun v g=>by rw[b];exact ok.bu v g) most _ _ _ _ (by rw[bC];show 0+_<=_;omega)
end
theorem YG{a:List (List Nat)}{took:List Nat}{size:Nat}:∀(N:Nat) (bs:List Bool) (k:Nat),(j8 N a took size bs k).length<=N
 |0,_,_=>ah _
 |N+1,bs,k=>by
  unfold j8;split
  ·exact aP _
  ·split
   ·exact aP _
   ·split
    ·show 1<=N+1;omega
    ·rw[cK];exact Nat.succ_le_succ (YG N _ _)
theorem aj8(size:Nat)(bs:List Bool):(jq size bs).length<=bs.length+1:=by
 unfold jq;split
 ·exact aP _
 ·exact aP _
 ·split
  ·exact aP _
  ·exact aP _
  ·exact YG _ _ _
theorem YH{b:List (List Nat)}{took:List Nat}{size:Nat}{most:Int}:∀(N:Nat) (bs:List Bool) (out:List Int) (a:Nat) (e:Int),se N b took size bs most out a= .err e->e≠0
 |0,bs,out,a,e,h=>by cases h;decide
 |N+1,bs,out,a,e,h=>by
  unfold se at h;split at h
  ·cases h;decide
  ·split at h
   ·cases h;decide
   ·split at h
    ·cases h;decide
    ·split at h
     ·cases h
     ·exact YH N _ _ _ e h
theorem YI:∀(N:Nat) (s:Pk) (bs:List Bool) (a:Nat) (e:Int),dq N s bs a= .bad e->e=25
 |0,s,bs,a,e,h=>by cases h
 |N+1,s,bs,a,e,h=>by
  unfold dq at h;split at h
  ·cases h
  ·split at h
   ·cases h
   ·next e1=>cases h;exact Xv e1
   ·exact YI N _ _ _ e h
theorem YJ{size:Nat}{bs:List Bool}{most e:Int}(h:qy size bs most= .err e):e≠0:=by
 unfold qy at h;split at h
 ·cases h;decide
 ·next e1=>cases h;rw[YI _ _ _ _ _ e1];decide
 ·split at h
  ·cases h;decide
  ·next e1=>cases h;rw[XL _ _ _ _ _ e1];decide
  ·exact YH _ _ _ _ _ h
theorem aj9{l:List Int}(h:∀c∈l,0<=c):iN (ej l)=l:=by unfold iN ej;rw[List.map_map];refine(oC fun c a=> ?_).trans (List.map_id l);exact Int.toNat_of_nonneg (h c a)
theorem aj'(s:List Nat)(room b a:Nat)(bs:List Bool)(c:bs.length<=8000):mv s room b a (ir (s.length+2) bs (iQ s.length room))=if qH s.length room (jq (s.length+2) bs)=true then mv s room b a (qy (s.length+2) bs 8000)else .bad 25:=by
 rw[YD,D5,show((8000:Int))=((8000:Nat):Int)from rfl,K9 8000 c];cases qH s.length room (jq (s.length+2) bs)with
 |true=>rfl
 |false=>rfl
theorem aj_{size:Nat}{bs:List Bool}(a:bs.length<=8000){o:List Int}{u:Nat}(h:qy size bs 8000= .ok o u):o=jq size bs∧∃i,o=i++[(size:Int)-1]:=by rw[D5,show((8000:Int))=((8000:Nat):Int)from rfl,K9 8000 a]at h;exact aj7 h
theorem aka{b:List (List Nat)}{took:List Nat}{size:Nat}{ck:Ck}:∀(N:Nat) (bs:List Bool) (out:List Int) (a:Nat) (o:List Int) (u:Nat),fS N b took size bs ck out a= .ok o u->u<=a+bs.length:=by
 intro N
 induction N with
 |zero=>intro bs out a o u h;cases h
 |succ N g=>
  intro bs out a o u h;unfold fS at h;by_cases f:took.length<=out.length/50
  ·rw[if_pos f]at h;cases h
  rw[if_neg f]at h;cases e:fC (b.getD (took.getD (out.length/50) 0) []) bs with
  |none=>rw[e]at h;cases h
  |some s=>
   rw[e]at h;obtain⟨k,j,i⟩:=pj e;dsimp only at h;cases c:ck out (s:Int)with
   |some x=>rw[c]at h;cases h
   |none=>
    rw[c]at h;dsimp only at h;by_cases d:s+1=size
    ·rw[if_pos d]at h;cases h;omega
    ·rw[if_neg d]at h;have:=g _ _ _ _ _ h;rw[bC]at this;omega
theorem YK{size:Nat}{bs:List Bool}{ck:Ck}{o:List Int}{u:Nat}(h:ir size bs ck= .ok o u):u<=bs.length:=by
 unfold ir at h;cases c:dq (bs.length+1) fN bs 0 with
 |short=>rw[c]at h;cases h
 |bad e=>rw[c]at h;cases h
 |ok s a=>
  rw[c]at h;dsimp only at h;cases b:dW s.t size (bs.drop a) 0 []with
  |short=>rw[b]at h;cases h
  |bad e=>rw[b]at h;cases h
  |ok f j=>rw[b]at h;obtain⟨_,_,_,_,_,i⟩:=si _ _ _ _ _ _ sj (aP _) rfl jD c;obtain⟨_,_,_,d⟩:=uA _ _ _ _ _ _ (fun k g=>absurd g jS) b;have:=aka _ _ _ _ _ _ h;rw[bC]at this d;omega
theorem YL{z a:Zr}{c m p:Nat}(h:cW z c=some (a,m,p)):a.n=z.n:=by
 unfold cW at h;split at h
 ·cases h
 ·split at h
  ·split at h
   ·cases h
   ·cases h;rfl
  ·split at h
   ·cases h;rfl
   ·split at h
    ·cases h
    ·cases h;rfl
theorem YM:∀(l:List Nat) (z a:Zr) (ps:List Nat),dh z l=some (a,ps)->a.n=z.n
 |[],z,a,ps,h=>by cases h;rfl
 |c::l,z,a,ps,h=>by
  unfold dh at h;cases e:cW z c with
  |none=>rw[e]at h;cases h
  |some t=>
   obtain⟨f,m,p⟩:=t;rw[e]at h;dsimp only at h;cases d:dh f l with
   |none=>rw[d]at h;cases h
   |some g=>obtain⟨i,b⟩:=g;rw[d]at h;cases h;exact(YM l f _ b d).trans (YL e)
theorem akb{n room:Nat}(h1:1<=n){l ps:List Nat}{z:Zr}(h:dh (ew n room) (l++[n+1])=some (z,ps)):z.done=true:=by
 cases e:dh (ew n room) l with
 |none=>rw[Ab _ _ e]at h;cases h
 |some t=>
  obtain⟨a,b⟩:=t;have c:a.n=n:=YM _ _ _ _ e;rw[Er l _ a b (n+1) e]at h
  have:cW a (n+1)=some ({a with told:=a.told+a.aR,aR:=0,weight:=1,done:=true},a.aR,0):=by unfold cW;rw[if_neg jO,if_neg jO,if_pos jO]
  rw[this]at h;cases h;rfl
end Go.Proofs.YtmjolmggelkjlaaGreat
